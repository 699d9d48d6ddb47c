/-
  The walk over b64.Encode.
-/
import Derived.Test.YtadobobfjnmdlaaGreatDoorSe
import Derived.Laws.RangeAny
import Derived.WalkMore
set_option linter.unnecessarySimpa false
set_option linter.unusedVariables false
set_option linter.unusedSimpArgs false
set_option maxHeartbeats 16000000
set_option maxRecDepth 100000
open Go.Lib (hid)
namespace Go.Proofs.YtadobobfjnmdlaaGreatDoor
open Go.RowKit
attribute [local go_sem] Oper.semAt_some
theorem i64_and_nat {a b:Nat} (ha:a<4611686018427387904) (hb:b<4611686018427387904):bits .and .i64 (a:Int) (b:Int)=((a&&&b:Nat):Int):=by
 have hx:a&&&b≤a:=Nat.and_le_left
 show IntKind.i64.wrap ((BitVec.ofInt 64 (a:Int)&&&BitVec.ofInt 64 (b:Int)).toNat:Int)=_
 rw[BitVec.toNat_and,Go.ofInt_u64 a (by omega),Go.ofInt_u64 b (by omega),IntKind.wrap_i64]
 omega
theorem i64_or_nat {a b:Nat} (ha:a<4611686018427387904) (hb:b<4611686018427387904):bits .or .i64 (a:Int) (b:Int)=((a ||| b:Nat):Int):=by
 have hx:a ||| b<2 ^ 62:=Nat.or_lt_two_pow (by omega) (by omega)
 show IntKind.i64.wrap ((BitVec.ofInt 64 (a:Int) ||| BitVec.ofInt 64 (b:Int)).toNat:Int)=_
 rw[BitVec.toNat_or,Go.ofInt_u64 a (by omega),Go.ofInt_u64 b (by omega),IntKind.wrap_i64]
 omega
theorem i64_join {m c:Nat} (hm:m<4294967296) (hc:c<256):bits .or .i64 ((m:Int)*256) (c:Int)=((m*256+c:Nat):Int):=by
 have h:=i64_or_nat (a:=m*256) (b:=c) (by omega) (by omega)
 rw[Go.nat_join 8 (m*256) c (by omega) (by omega)] at h
 rw[←h];rfl
theorem i64_low6 {m:Nat} (hm:m<4294967296):bits .and .i64 (m:Int) 63=((m % 64:Nat):Int):=by
 have h:=i64_and_nat (a:=m) (b:=63) (by omega) (by omega)
 rw[show (m&&&63:Nat)=m % 2 ^ 6 from Nat.and_two_pow_sub_one_eq_mod m 6] at h
 exact h
theorem let_tab:∀ d:Fin 64,((⟨#[65,66,67,68,69,70,71,72,73,74,75,76,77,78,79,80,81,82,83,84,85,86,87,88,89,90,97,98,99,100,101,102,103,104,105,106,107,108,109,110,111,112,113,114,115,116,117,118,119,120,121,122,48,49,50,51,52,53,54,55,56,57,43,47]⟩:ByteArray)[d.1]'(by have:=d.2;exact Nat.lt_of_lt_of_le this (by decide)))=letB d.1:=by decide +kernel
def lenD:Value→Nat | .string s=>s.size | _=>0
theorem bcat (out:List UInt8) (c:UInt8):Lib.byteCells out++[Value.int .u8 (c.toNat:Int)]=Lib.byteCells (out++[c]):=by simp[Lib.byteCells]
theorem byteCells_len (l:List UInt8):(Lib.byteCells l).length=l.length:=by simp[Lib.byteCells]
theorem encode_any (s:List UInt8) (hs:s.length≤1000000) (w:World):Calls Tryz.prog 173 #[.string ⟨s.toArray⟩] w fun e w'=>e=.returned (.string ⟨(encL s).toArray⟩)∧Gr w w':=by
 obtain⟨R,hR⟩:∃ R,encL s=R:=⟨_,rfl⟩
 rw[hR]
 have hR':=hid hR
 have hRl:R.length≤1400000:=by rw[←hR,encL_len _ _ (Nat.le_refl _)];omega
 clear hR
 go_enter Tryz.func173,Tryz.ntmps173
 go_wp2
 obtain⟨b,hb⟩:∃ b,w.heap.size=b:=⟨_,rfl⟩
 have hB:=hid hb
 have h0:=hid (show Bld b b (Lib.byteCells []) (w.alloc (.cells #[.pointer none,.slice none 0 0] 147)) from hb▸Lib.fresh_isBuilder _ _ w)
 have g0:=hid (Gr.alloc w (.cells #[.pointer none,.slice none 0 0] 147))
 rw[hb]
 clear hb
 go_loopw [0] (fun a wr=>∃ (rest out:List UInt8),a=.string ⟨rest.toArray⟩∧rest.length≤1000000∧out++encL rest=R∧Bld b b (Lib.byteCells out) wr∧Gr w wr) (fun a _=>lenD a)
 case atStart=>exact⟨s,[],rfl,hs,hR'.out,h0.out,g0.out⟩
 case round =>
  obtain⟨rest,out,rfl,hrl,hout,hbl,hg⟩:=hrel
  have hout':=hid hout
  have hbl':=hid hbl
  have hg':=hid hg
  have hol:out.length+(encL rest).length≤1400000:=by rw[←List.length_append,hout];exact hRl
  clear hout hbl hg
  by_cases hr0:0<rest.length
  ·have hre:rest.isEmpty=false:=by simpa using List.length_pos_iff.1 hr0
   obtain⟨n,hn⟩:∃ n,min 3 rest.length=n:=⟨_,rfl⟩
   have hnI:min (3:Int) rest.length=n:=by omega
   have hn':=hid hn
   have hn3:(n:Int)≤3:=by omega
   have hn1:(1:Int)≤n:=by omega
   have hnl:(n:Int)≤rest.length:=by omega
   have hstep:=hid (encL_step hr0)
   have hol4:out.length+4≤1400000:=by rw[hstep.out,List.length_append,encG_len] at hol;omega
   have hx2:(⟨rest.toArray⟩:ByteArray).extract n rest.length=⟨(rest.drop 3).toArray⟩:=by
    rw[extract_mk,←hn]
    by_cases h3:3≤rest.length
    ·rw[Nat.min_eq_left h3];simp
    ·rw[Nat.min_eq_right (by omega),List.take_length,List.drop_length,List.drop_of_length_le (show rest.length≤3 by omega)]
   have hdl:=hid (show (rest.drop 3).length≤1000000 by rw[List.length_drop];omega)
   have hdl2:=hid (show (rest.drop 3).length<rest.length by rw[List.length_drop];omega)
   have hnN:∀ j,j<n↔j<3∧j<rest.length:=fun j=>by omega
   have hnN':=hid hnN
   clear hn hnN hol
   go_wp2
   go_loop [5,18] (fun x i=>∃ j:Nat,j≤3∧i=.int .i64 j∧x=.int .i64 (bigN rest j)) (fun _ i=>3 - (intOf i).toNat)
   case atStart=>exact⟨0,by omega,rfl,rfl⟩
   case round =>
    obtain⟨j,hj,rfl,rfl⟩:=hrel
    obtain⟨m,hm⟩:∃ m,bigN rest j=m:=⟨_,rfl⟩
    have hm':=hid hm
    rw[hm]
    by_cases hj3:j<3
    ·have hj3I:(j:Int)<3:=by omega
     have hml:m<256 ^ 2:=Nat.lt_of_lt_of_le (hm▸bigN_lt rest j) (Nat.pow_le_pow_right (by decide) (by omega))
     have hmI:(m:Int)≤65535:=by omega
     by_cases hjn:j<n
     ·have hjnI:(j:Int)<n:=by omega
      have hjl:j<rest.length:=((hnN'.out j).1 hjn).2
      obtain⟨c,hc⟩:∃ c,(⟨rest.toArray⟩:ByteArray)[j]'(by rw[size_mk];exact hjl)=c:=⟨_,rfl⟩
      have hb:=hid (show byteN rest j=c.toNat by unfold byteN;rw[List.getD_eq_getElem?_getD,List.getElem?_eq_getElem hjl];exact congrArg UInt8.toNat hc)
      have hor:=i64_join (m:=m) (c:=c.toNat) (by omega) c.toNat_lt
      have hc255:(c.toNat:Int)≤255:=by have:=c.toNat_lt;omega
      clear hm hml
      go_wp2
      go_round
      case rel=>exact⟨j+1,by omega,by go_num,by rw[bigN,hm'.out,hb.out];go_num⟩
      case measure=>simp[intOf];omega
     ·have hjnI:¬(j:Int)<n:=by omega
      have hb:=hid (show byteN rest j=0 by
       have:¬(j<3∧j<rest.length):=fun h=>hjn ((hnN'.out j).2 h)
       unfold byteN;rw[List.getD_eq_getElem?_getD,List.getElem?_eq_none (by omega)];rfl)
      clear hm hml
      go_wp2
      go_round
      case rel=>exact⟨j+1,by omega,by go_num,by rw[bigN,hm'.out,hb.out];go_num⟩
      case measure=>simp[intOf];omega
    ·obtain rfl:j=3:=by omega
     obtain rfl:bigN rest 3=m:=hm
     obtain⟨X,hX⟩:∃ X,bigN rest 3=X:=⟨_,rfl⟩
     have hXl:X<16777216:=by have:=bigN_lt rest 3;rw[hX] at this;exact this
     have hXI:(X:Int)<16777216:=by omega
     rw[hX]
     have hX':=hid hX
     clear hX
     go_wp2
     go_loopw [33] (fun i wx=>∃ j:Nat,j≤4∧i=.int .i64 j∧Bld b b (Lib.byteCells (out++grpN n X j)) wx∧Gr w wx) (fun i _=>4 - (intOf i).toNat)
     case atStart=>exact⟨0,by omega,rfl,by simpa[grpN] using hbl'.out,hg'.out⟩
     case round =>
      obtain⟨j,hj,rfl,hb2,hgx⟩:=hrel
      have hgx':=hid hgx
      have hout2:=hid (show (out++grpN n X j).length+1≤140737488355328 by rw[List.length_append,grpN_len];omega)
      have hbs:=hid (show b≤wr.heap.size by have:=Below.size hgx;have:=hB.out;omega)
      have hb2':=hid hb2
      clear hb2 hgx
      have hj':j=0∨j=1∨j=2∨j=3∨j=4:=by omega
      rcases hj' with rfl | rfl | rfl | rfl | rfl
      ·-- letter 0
       have hj4I:((0:Nat):Int)<4:=by decide
       by_cases hjn:0≤n
       ·have hjnI:(0:Int)≤n:=by omega
        obtain⟨d,hd⟩:∃ d,X / 262144 % 64=d:=⟨_,rfl⟩
        have hd64:d<64:=by omega
        have hand:bits .and .i64 ((X:Int) / 262144) 63=(d:Int):=by
         have:=i64_low6 (m:=X / 262144) (by omega)
         rw[hd,Int.natCast_ediv] at this;exact this
        have hand2:bits .and .i64 (X:Int) 63=(((X % 64:Nat)):Int):=i64_low6 (by omega)
        have hdx:=let_tab ⟨d,hd64⟩
        dsimp only at hdx
        have hlet:=hid (show grpB n X 0=letB d by unfold grpB;rw[if_pos hjn,←hd])
        clear hd hand2
        go_wp2_with fail
        refine (writeByte_any b b _ (letB d).toNat wr hb2'.out (by rw[byteCells_len];exact hout2.out) hbs.out).mono ?_
        rintro e w3 ⟨rfl,hb3,hg3⟩
        have hb3':=hid hb3
        have hg3':=hid (Below.trans hgx'.out (hB.out▸hg3))
        clear hb3 hg3
        go_wp2
        go_roundw
        case rel=>exact⟨1,by decide,by go_num,by rw[bcat,List.append_assoc,←hlet.out] at hb3';exact hb3'.out,hg3'.out⟩
        case measure=>simp[intOf]
       ·exact absurd hjn (by omega)
      ·-- letter 1
       have hj4I:((1:Nat):Int)<4:=by decide
       by_cases hjn:1≤n
       ·have hjnI:(1:Int)≤n:=by omega
        obtain⟨d,hd⟩:∃ d,X / 4096 % 64=d:=⟨_,rfl⟩
        have hd64:d<64:=by omega
        have hand:bits .and .i64 ((X:Int) / 4096) 63=(d:Int):=by
         have:=i64_low6 (m:=X / 4096) (by omega)
         rw[hd,Int.natCast_ediv] at this;exact this
        have hand2:bits .and .i64 (X:Int) 63=(((X % 64:Nat)):Int):=i64_low6 (by omega)
        have hdx:=let_tab ⟨d,hd64⟩
        dsimp only at hdx
        have hlet:=hid (show grpB n X 1=letB d by unfold grpB;rw[if_pos hjn,←hd])
        clear hd hand2
        go_wp2_with fail
        refine (writeByte_any b b _ (letB d).toNat wr hb2'.out (by rw[byteCells_len];exact hout2.out) hbs.out).mono ?_
        rintro e w3 ⟨rfl,hb3,hg3⟩
        have hb3':=hid hb3
        have hg3':=hid (Below.trans hgx'.out (hB.out▸hg3))
        clear hb3 hg3
        go_wp2
        go_roundw
        case rel=>exact⟨2,by decide,by go_num,by rw[bcat,List.append_assoc,←hlet.out] at hb3';exact hb3'.out,hg3'.out⟩
        case measure=>simp[intOf]
       ·exact absurd hjn (by omega)
      ·-- letter 2
       have hj4I:((2:Nat):Int)<4:=by decide
       by_cases hjn:2≤n
       ·have hjnI:(2:Int)≤n:=by omega
        obtain⟨d,hd⟩:∃ d,X / 64 % 64=d:=⟨_,rfl⟩
        have hd64:d<64:=by omega
        have hand:bits .and .i64 ((X:Int) / 64) 63=(d:Int):=by
         have:=i64_low6 (m:=X / 64) (by omega)
         rw[hd,Int.natCast_ediv] at this;exact this
        have hand2:bits .and .i64 (X:Int) 63=(((X % 64:Nat)):Int):=i64_low6 (by omega)
        have hdx:=let_tab ⟨d,hd64⟩
        dsimp only at hdx
        have hlet:=hid (show grpB n X 2=letB d by unfold grpB;rw[if_pos hjn,←hd])
        clear hd hand2
        go_wp2_with fail
        refine (writeByte_any b b _ (letB d).toNat wr hb2'.out (by rw[byteCells_len];exact hout2.out) hbs.out).mono ?_
        rintro e w3 ⟨rfl,hb3,hg3⟩
        have hb3':=hid hb3
        have hg3':=hid (Below.trans hgx'.out (hB.out▸hg3))
        clear hb3 hg3
        go_wp2
        go_roundw
        case rel=>exact⟨3,by decide,by go_num,by rw[bcat,List.append_assoc,←hlet.out] at hb3';exact hb3'.out,hg3'.out⟩
        case measure=>simp[intOf]
       ·have hjnI:¬(2:Int)≤n:=by omega
        have hlet:=hid (show grpB n X 2=61 by unfold grpB;rw[if_neg hjn])
        go_wp2_with fail
        refine (writeByte_any b b _ 61 wr hb2'.out (by rw[byteCells_len];exact hout2.out) hbs.out).mono ?_
        rintro e w3 ⟨rfl,hb3,hg3⟩
        have hb3':=hid (show Bld b b (Lib.byteCells (out++grpN n X 2++[(61:UInt8)])) w3 from (bcat (out++grpN n X 2) 61)▸hb3)
        have hg3':=hid (Below.trans hgx'.out (hB.out▸hg3))
        clear hb3 hg3
        go_wp2
        go_roundw
        case rel=>exact⟨3,by decide,by go_num,by rw[List.append_assoc,←hlet.out] at hb3';exact hb3'.out,hg3'.out⟩
        case measure=>simp[intOf]
      ·-- letter 3
       have hj4I:((3:Nat):Int)<4:=by decide
       by_cases hjn:3≤n
       ·have hjnI:(3:Int)≤n:=by omega
        obtain⟨d,hd⟩:∃ d,X / 1 % 64=d:=⟨_,rfl⟩
        have hd64:d<64:=by omega
        have hand:bits .and .i64 ((X:Int) / 1) 63=(d:Int):=by
         have:=i64_low6 (m:=X / 1) (by omega)
         rw[hd,Int.natCast_ediv] at this;exact this
        have hand2:bits .and .i64 (X:Int) 63=(((X % 64:Nat)):Int):=i64_low6 (by omega)
        have hdx:=let_tab ⟨d,hd64⟩
        dsimp only at hdx
        have hlet:=hid (show grpB n X 3=letB d by unfold grpB;rw[if_pos hjn,←hd])
        have hd3:X % 64=d:=by rw[←hd,Nat.div_one]
        rw[hd3] at hand2
        clear hd hd3 hand
        go_wp2_with fail
        refine (writeByte_any b b _ (letB d).toNat wr hb2'.out (by rw[byteCells_len];exact hout2.out) hbs.out).mono ?_
        rintro e w3 ⟨rfl,hb3,hg3⟩
        have hb3':=hid hb3
        have hg3':=hid (Below.trans hgx'.out (hB.out▸hg3))
        clear hb3 hg3
        go_wp2
        go_roundw
        case rel=>exact⟨4,by decide,by go_num,by rw[bcat,List.append_assoc,←hlet.out] at hb3';exact hb3'.out,hg3'.out⟩
        case measure=>simp[intOf]
       ·have hjnI:¬(3:Int)≤n:=by omega
        have hlet:=hid (show grpB n X 3=61 by unfold grpB;rw[if_neg hjn])
        go_wp2_with fail
        refine (writeByte_any b b _ 61 wr hb2'.out (by rw[byteCells_len];exact hout2.out) hbs.out).mono ?_
        rintro e w3 ⟨rfl,hb3,hg3⟩
        have hb3':=hid (show Bld b b (Lib.byteCells (out++grpN n X 3++[(61:UInt8)])) w3 from (bcat (out++grpN n X 3) 61)▸hb3)
        have hg3':=hid (Below.trans hgx'.out (hB.out▸hg3))
        clear hb3 hg3
        go_wp2
        go_roundw
        case rel=>exact⟨4,by decide,by go_num,by rw[List.append_assoc,←hlet.out] at hb3';exact hb3'.out,hg3'.out⟩
        case measure=>simp[intOf]
      ·have hfull:=hid (show out++grpN n X 4++encL (rest.drop 3)=R by
        rw[←hout'.out,hstep.out,List.append_assoc]
        unfold encG;rw[hn'.out,hX'.out])
       obtain⟨rb,hrb⟩:∃ l,rest.drop 3=l:=⟨_,rfl⟩
       rw[hrb] at hx2 hdl hdl2 hfull
       clear hrb
       go_wp2
       go_roundw
       case rel=>exact⟨rb,out++grpN n X 4,rfl,hdl.out,hfull.out,hb2'.out,hgx'.out⟩
       case measure=>(show (⟨rb.toArray⟩:ByteArray).size<(⟨rest.toArray⟩:ByteArray).size);rw[size_mk,size_mk];exact hdl2.out
  ·have hr1:rest=[]:=List.eq_nil_of_length_eq_zero (by omega)
   subst hr1
   have hfin:=hid (show out=R by rw[←hout'.out,encL_nil,List.append_nil])
   have hbs:=hid (show b≤wr.heap.size by have:=Below.size hg'.out;have:=hB.out;omega)
   go_wp2_with fail
   refine (Tryz.Builder_String_any b b out wr hbl'.out hbs.out).mono ?_
   rintro e w3 ⟨rfl,hg3⟩
   have hg3':=hid (Below.trans hg'.out (hB.out▸hg3))
   clear hg3
   go_wp2
   go_ret
   exact⟨by rw[←hfin.out];rfl,hg3'.out⟩
theorem accept_any (k:List UInt8) (hk:k.length≤800000) (w:World):Calls Tryz.prog 141 #[.string ⟨k.toArray⟩] w fun e w'=>e=.returned (.string ⟨(acceptL k).toArray⟩)∧Gr w w':=by
 have hcat:(⟨k.toArray⟩:ByteArray)++⟨#[50,53,56,69,65,70,65,53,45,69,57,49,52,45,52,55,68,65,45,57,53,67,65,45,67,53,65,66,48,68,67,56,53,66,49,49]⟩=⟨(k++guidL).toArray⟩:=cat_mk k guidL
 have hcl:¬9223372036854775807<k.length+36:=by omega
 obtain⟨u,hu⟩:∃ u,k++guidL=u:=⟨_,rfl⟩
 have hul:=hid (show u.length≤900000 by rw[←hu,List.length_append];show _+36≤_;omega)
 obtain⟨L,hL⟩:∃ L,shaL u=L:=⟨_,rfl⟩
 have hacc:acceptL k=encL L:=by unfold acceptL;rw[hu,hL]
 have hLl:L.length=20:=hL▸out_len _
 rw[hu] at hcat
 rw[hacc]
 have hsum:=hid (fun W=>sum_any u hul.out W)
 rw[hL] at hsum
 have henc:=hid (fun W=>encode_any L (by omega) W)
 clear hu hL hacc
 go_enter Tryz.func141,Tryz.ntmps141
 go_wp2_with fail
 refine (hsum.out _).mono ?_
 rintro e w1 ⟨rfl,hg⟩
 have g1:=hid hg
 clear hg hcat
 have hlen:(bcells L).length=20:=by rw[bcells_len];exact hLl
 have o1:OutAt (w1.alloc (.cells #[.int .u8 0,.int .u8 0,.int .u8 0,.int .u8 0,.int .u8 0,.int .u8 0,.int .u8 0,.int .u8 0,.int .u8 0,.int .u8 0,.int .u8 0,.int .u8 0,.int .u8 0,.int .u8 0,.int .u8 0,.int .u8 0,.int .u8 0,.int .u8 0,.int .u8 0,.int .u8 0] 221)) w1.heap.size []:=(show OutAt (w1.alloc (.cells (Array.replicate 20 (.int .u8 0)) 221)) w1.heap.size [] from⟨fun j hj=>(by
   simp only[World.cell?,World.alloc_heap_new]
   rw[Array.getElem?_replicate,if_pos hj];rfl),fun j=>World.frozen?_alloc_at _ _ _ _ rfl⟩)
 have g2:=hid (g1.out.trans (Gr.alloc w1 (.cells #[.int .u8 0,.int .u8 0,.int .u8 0,.int .u8 0,.int .u8 0,.int .u8 0,.int .u8 0,.int .u8 0,.int .u8 0,.int .u8 0,.int .u8 0,.int .u8 0,.int .u8 0,.int .u8 0,.int .u8 0,.int .u8 0,.int .u8 0,.int .u8 0,.int .u8 0,.int .u8 0] 221)))
 have hbw:=hid (show w.heap.size≤w1.heap.size from g1.out.size)
 unfold bytesV
 have hst:(storeCells ⟨w1.heap.size,0,none⟩ (bcells L) 0).run Tryz.prog (w1.alloc (.cells #[.int .u8 0,.int .u8 0,.int .u8 0,.int .u8 0,.int .u8 0,.int .u8 0,.int .u8 0,.int .u8 0,.int .u8 0,.int .u8 0,.int .u8 0,.int .u8 0,.int .u8 0,.int .u8 0,.int .u8 0,.int .u8 0,.int .u8 0,.int .u8 0,.int .u8 0,.int .u8 0] 221))=.ok () ((w1.alloc (.cells #[.int .u8 0,.int .u8 0,.int .u8 0,.int .u8 0,.int .u8 0,.int .u8 0,.int .u8 0,.int .u8 0,.int .u8 0,.int .u8 0,.int .u8 0,.int .u8 0,.int .u8 0,.int .u8 0,.int .u8 0,.int .u8 0,.int .u8 0,.int .u8 0,.int .u8 0,.int .u8 0] 221)).setCells w1.heap.size 0 (bcells L)):=run_storeCells_cells w1.heap.size 0 (bcells L) 0 _ (fun j hj=>by rw[hlen] at hj;rw[Nat.zero_add,o1.1 j hj];rfl) (fun j _=>by rw[Nat.zero_add];exact o1.2 j) (bcells_one _)
 have hat:=World.rangeAt_setCells_same (w1.alloc (.cells #[.int .u8 0,.int .u8 0,.int .u8 0,.int .u8 0,.int .u8 0,.int .u8 0,.int .u8 0,.int .u8 0,.int .u8 0,.int .u8 0,.int .u8 0,.int .u8 0,.int .u8 0,.int .u8 0,.int .u8 0,.int .u8 0,.int .u8 0,.int .u8 0,.int .u8 0,.int .u8 0] 221)) w1.heap.size 0 (bcells L) (fun j hj=>by rw[hlen] at hj;rw[Nat.zero_add];exact⟨by rw[o1.1 j hj];rfl,o1.2 j⟩)
 have hg3:=hid (Gr.setCells hbw.out (bcells L) 0 g2.out)
 have hcv:(convert 100 9 (.slice (some ⟨w1.heap.size,0,none⟩) 20 20)).run Tryz.prog ((w1.alloc (.cells #[.int .u8 0,.int .u8 0,.int .u8 0,.int .u8 0,.int .u8 0,.int .u8 0,.int .u8 0,.int .u8 0,.int .u8 0,.int .u8 0,.int .u8 0,.int .u8 0,.int .u8 0,.int .u8 0,.int .u8 0,.int .u8 0,.int .u8 0,.int .u8 0,.int .u8 0,.int .u8 0] 221)).setCells w1.heap.size 0 (bcells L))=.ok (.string ⟨L.toArray⟩) ((w1.alloc (.cells #[.int .u8 0,.int .u8 0,.int .u8 0,.int .u8 0,.int .u8 0,.int .u8 0,.int .u8 0,.int .u8 0,.int .u8 0,.int .u8 0,.int .u8 0,.int .u8 0,.int .u8 0,.int .u8 0,.int .u8 0,.int .u8 0,.int .u8 0,.int .u8 0,.int .u8 0,.int .u8 0] 221)).setCells w1.heap.size 0 (bcells L)):=by
  have:=run_convert_bytes_back (P:=Tryz.prog) ((w1.alloc (.cells #[.int .u8 0,.int .u8 0,.int .u8 0,.int .u8 0,.int .u8 0,.int .u8 0,.int .u8 0,.int .u8 0,.int .u8 0,.int .u8 0,.int .u8 0,.int .u8 0,.int .u8 0,.int .u8 0,.int .u8 0,.int .u8 0,.int .u8 0,.int .u8 0,.int .u8 0,.int .u8 0] 221)).setCells w1.heap.size 0 (bcells L)) 100 9 5 ⟨w1.heap.size,0,none⟩ 20 L Tryz.underlying100 Tryz.underlying5 Tryz.underlying9 (fun j hj=>by
   have h:=hat j _ (bcells_get L j hj)
   rw[Addr.add_mid];exact h)
  rwa [hLl] at this
 clear hat o1
 obtain⟨cs,hcs⟩:∃ cs,bcells L=cs:=⟨_,rfl⟩
 rw[hcs] at hst hlen hg3 hcv ⊢
 clear hcs
 go_wp2_with fail
 refine (henc.out _).mono ?_
 rintro e w3 ⟨rfl,hg⟩
 have g3:=hid (hg3.out.trans hg)
 clear hg
 go_wp2
 go_ret
 exact⟨rfl,g3.out⟩
def letS:ByteArray:=⟨#[65,66,67,68,69,70,71,72,73,74,75,76,77,78,79,80,81,82,83,84,85,86,87,88,89,90,97,98,99,100,101,102,103,104,105,106,107,108,109,110,111,112,113,114,115,116,117,118,119,120,121,122,48,49,50,51,52,53,54,55,56,57,43,47]⟩
theorem letS_size:letS.size=64:=rfl
theorem letS_low:∀ j:Fin 64,(letS[j.1]'(by have:=j.2;rw[letS_size];exact this)).toNat<128:=by decide +kernel
theorem enc_high (r:Nat) (h:128≤r):∃ (L:List UInt8) (m:Nat) (c:UInt8),Utf8.encode (r:Int)=⟨L.toArray⟩∧L.length=m+1∧m≤3∧L[m]?=some c∧128≤c.toNat:=by
 obtain⟨c,hc,hc2⟩:∃ c,128≤c∧(if Utf8.valid (r:Int) then (r:Int).toNat else Utf8.runeError)=c:=by
  refine⟨_,?_,rfl⟩
  split
  ·omega
  ·decide
 unfold Utf8.encode
 simp only[hc2]
 have e:∀ x,(UInt8.ofNat (128+x % 64)).toNat=128+x % 64:=fun x=>by rw[UInt8.toNat_ofNat'];omega
 rw[if_neg (by omega)]
 split
 ·exact⟨[_,_],1,_,rfl,rfl,by omega,rfl,by rw[e];omega⟩
 ·split
  ·exact⟨[_,_,_],2,_,rfl,rfl,by omega,rfl,by rw[e];omega⟩
  ·exact⟨[_,_,_,_],3,_,rfl,rfl,by omega,rfl,by rw[e];omega⟩
theorem idxByte_later {W0:World} {T:List UInt8} {c:UInt8} (h:Lib.indexByte T c = -1) (v:Later (Gr W0)) :
  Calls Tryz.prog 218 #[.string ⟨T.toArray⟩,.int .u8 c.toNat] v.w fun e w'=>e=.returned (.int .i64 (-1))∧∃ z:Later (Gr W0),w'=z.w :=
 Calls.later ((Tryz.strings_IndexByte ⟨T.toArray⟩ c.toNat v.w).mono fun _ _ ⟨h1,h2⟩=>⟨by
  have e:((c.toNat:Int).toNat.toUInt8)=c:=by simp
  rw[e] at h1
  exact h1.trans (congrArg (fun z=>Ending.returned (.int .i64 z)) h),h2▸v.ok⟩)
theorem idxRune_high (r:Nat) (h1:128≤r) (h2:r≤2147483647) (w:World) :
  Calls Tryz.prog 245 #[.string letS,.int .i32 r] w fun e w'=>e=.returned (.int .i64 (-1))∧Gr w w':=by
 have hr1:¬(r:Int)<128:=by omega
 have hr2:(r:Int)≤2147483647:=by omega
 have hsz:=letS_size
 by_cases hE:r=65533
 ·subst hE
  have hsz':=hid hsz
  have hlow:=hid letS_low
  obtain⟨S,hS⟩:∃ S,letS=S:=⟨_,rfl⟩
  rw[hS]
  have hSs:=hid (show S.size=64 from hS▸rfl)
  have hSl:=hid (show ∀ j (hj:j<S.size),S[j].toNat<128 by subst hS;exact fun j hj=>letS_low ⟨j,hj⟩)
  clear hS hsz hr1 hr2
  go_enter Tryz.func245,Tryz.ntmps245
  go_wp2
  go_loopw [6] (fun _ wx=>∃ k:Nat,k≤S.size∧wx=w.iter S k) (fun _ wx=>S.size - wx.iterPos w.heap.size)
  case atStart=>exact⟨0,Nat.zero_le _,rfl⟩
  case round =>
   obtain⟨k,hk,rfl⟩:=hrel
   by_cases hlt:k<S.size
   ·have hnx:=run_next_ascii (P:=Tryz.prog) w S k 0 hlt (hSl.out k hlt)
    obtain⟨c,hc⟩:∃ c,S[k]=c:=⟨_,rfl⟩
    have hc128:c.toNat<128:=hc▸hSl.out k hlt
    rw[hc] at hnx
    have hcE:((c.toNat:Int)==65533)=false:=beq_eq_false_iff_ne.2 (by omega)
    clear hc
    go_wp2
    go_roundw
    case rel=>exact⟨k+1,by omega,rfl⟩
    case measure=>simp;omega
   ·have hnx:=run_next_end (P:=Tryz.prog) w S k 0 hlt
    go_wp2
    go_ret
    exact⟨rfl,Gr.alloc _ _⟩
 ·have hEI:((r:Int)==65533)=false:=beq_eq_false_iff_ne.2 (by omega)
  cases hv:Lib.validRune (r:Int)
  ·go_enter Tryz.func245,Tryz.ntmps245
   go_wp2_with fail
   refine (Tryz.utf8_ValidRune _ _).mono ?_
   rintro e w1 ⟨rfl,rfl⟩
   rw[hv]
   go_wp2
   go_ret
   exact⟨rfl,Gr.refl _⟩
  ·obtain⟨L,m,c,hE1,hE2,hm3,hE3,hc⟩:=enc_high r h1
   obtain⟨S,hS⟩:∃ S:List UInt8,lettersL=S:=⟨_,rfl⟩
   have hSl:S.length=64:=hS▸rfl
   have hlow:∀ x∈S,x.toNat<128:=hS▸letters_low
   have hlS:letS=⟨S.toArray⟩:=hS▸rfl
   rw[hlS]
   clear hlS hS hsz
   have hm3I:(m:Int)≤3:=by omega
   have hLI:(L.length:Int) - 1=m:=by omega
   have hLl:L.length≤4:=by omega
   have hm1:m<L.length:=by omega
   have hm2:m<S.length:=by omega
   obtain⟨d,hd⟩:∃ d,(⟨S.toArray⟩:ByteArray)[m]'(by rw[size_mk];exact hm2)=d:=⟨_,rfl⟩
   have hd128:d.toNat<128:=hlow d (by rw[←hd];exact List.getElem_mem hm2)
   have hcx:(⟨L.toArray⟩:ByteArray)[m]'(by rw[size_mk];exact hm1)=c:=by
    have:L[m]'hm1=c:=by rw[List.getElem?_eq_getElem hm1] at hE3;exact Option.some.inj hE3
    exact this
   have hne:((d.toNat:Int) != c.toNat)=true:=by rw[bne_iff_ne];omega
   have hx:(⟨S.toArray⟩:ByteArray).extract (m+1) S.length=⟨(S.drop (m+1)).toArray⟩:=by rw[extract_mk,List.take_of_length_le (Nat.le_refl _)]
   have hSB:S.length≤64:=by omega
   have hmS:(m:Int)+1≤S.length:=by omega
   have hidx:=hid (indexByte_none c (S.drop (m+1)) (fun x hx e=>by have:=hlow x (List.mem_of_mem_drop hx);rw[e] at this;omega))
   have hE4:=hid hE1
   have hE2':=hid hE2
   have hSl':=hid hSl
   clear hE3 hlow hE2 hSl
   go_enter Tryz.func245,Tryz.ntmps245
   go_wp2_with fail
   refine (Tryz.utf8_ValidRune _ _).mono ?_
   rintro e w1 ⟨rfl,rfl⟩
   rw[hv]
   go_wp2
   go_step3
   go_wp2
   clear hLI hLl hE1 hv hEI hr1 hr2
   go_loop [9] (fun i=>i=.int .i64 m) (fun _=>0)
   case atStart=>rfl
   case round =>
    obtain rfl:=hrel
    go_wp2
    go_step3
    go_wp2
    haveI hne2:∀ W,Nonempty (Later (Gr W)):=fun W=>⟨⟨_,Gr.refl W⟩⟩
    refine wp_region_later (C:=Gr _) (by kernel_rfl) (by kernel_rfl) (Gr.drew' _) ?_
    repeat (go_big_quiet_step (fail))
    refine wpQuiet_nil ?_
    intro w8 hg8
    have e1:IntKind.i64.wrap ((m:Int)+1)=(m:Int)+1:=IntWalk.i64_in _ (by omega)
    have e2:((m:Int)+1).toNat=m+1:=by omega
    have e3:0≤(m:Int)+1:=by omega
    go_wp2
    refine wp_region_later (C:=Gr _) (by kernel_rfl) (by kernel_rfl) (Gr.drew' _) ?_
    repeat (go_big_quiet_step (with_reducible exact idxByte_later hidx.out _))
    refine wpQuiet_nil ?_
    intro w9 hg9
    have hg:=hid (hg8.trans hg9)
    clear e1 e2 e3 hg8 hg9
    go_wp2
    simp only[Exit.noGoto_ret,Exit.inBlock]
    show bodyPost _ _ (fun e w'=>e=.returned (.int .i64 (-1))∧Gr w1 w') Exit.ret _ _
    go_ret
    exact⟨rfl,hg.out⟩
theorem value_low (c:UInt8) (hc:c.toNat<128) (w:World):Calls Tryz.prog 211 #[.int .i32 c.toNat] w fun e w'=>e=.returned (.int .i64 (numB c))∧w=w':=by
 have hi:=hid (Tryz.strings_IndexRune_ascii letS c.toNat)
 have hcI:(c.toNat:Int)<128:=by omega
 go_enter Tryz.func211,Tryz.ntmps211
 go_wp2_with fail
 refine (hi.out w (by omega) (by omega)).mono ?_
 rintro e w1 ⟨rfl,rfl⟩
 go_wp2
 go_ret
 refine⟨?_,rfl⟩
 have e:((c.toNat:Int).toNat.toUInt8)=c:=by simp
 first | rfl | (rw[e];rfl) | (simp[numB,letS,lettersL])
theorem value_high (r:Nat) (h1:128≤r) (h2:r≤2147483647) (w:World):Calls Tryz.prog 211 #[.int .i32 r] w fun e w'=>e=.returned (.int .i64 (-1))∧Gr w w':=by
 go_enter Tryz.func211,Tryz.ntmps211
 go_wp2_with fail
 refine (idxRune_high r h1 h2 w).mono ?_
 rintro e w1 ⟨rfl,hg⟩
 go_wp2
 go_ret
 exact⟨rfl,hg⟩
end Go.Proofs.YtadobobfjnmdlaaGreatDoor
