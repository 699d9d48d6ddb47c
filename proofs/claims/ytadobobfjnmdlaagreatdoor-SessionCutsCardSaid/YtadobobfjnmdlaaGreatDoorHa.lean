/-
  Walks over package hand: a key's accept.
-/
import Derived.Test.YtadobobfjnmdlaaGreatDoorSf
import Derived.Laws.RangeAny
import Derived.WalkMore
set_option linter.unnecessarySimpa false
set_option linter.unusedVariables false
set_option linter.unusedSimpArgs false
set_option maxHeartbeats 16000000
set_option maxRecDepth 100000
open Go.Lib (hid)
open Go.Proofs.Tryz
namespace Go.Proofs.YtadobobfjnmdlaaGreatDoor
open Go.RowKit
attribute [local go_sem] Oper.semAt_some
theorem accept_any (k:List UInt8) (hk:k.length≤800000) (w:World):Calls prog 141 #[.string ⟨k.toArray⟩] w λe w'=>e=.returned (.string ⟨(acceptL k).toArray⟩)∧Gr w w':=by
 have hcat:(⟨k.toArray⟩:ByteArray)++⟨#[50,53,56,69,65,70,65,53,45,69,57,49,52,45,52,55,68,65,45,57,53,67,65,45,67,53,65,66,48,68,67,56,53,66,49,49]⟩=⟨(k++guidL).toArray⟩:=cat_mk k guidL
 have hcl:¬9223372036854775807<k.length+36:=by omega
 obtain⟨u,hu⟩:∃ u,k++guidL=u:=⟨_,rfl⟩
 have hul:=hid (show u.length≤900000 by rw[←hu,List.length_append];show _+36≤_;omega)
 obtain⟨L,hL⟩:∃ L,shaL u=L:=⟨_,rfl⟩
 have hacc:acceptL k=encL L:=by unfold acceptL;rw[hu,hL]
 have hLl:L.length=20:=hL▸out_len _
 rw[hu] at hcat
 rw[hacc]
 have hsum:=hid (λW=>sum_any u hul.out W)
 rw[hL] at hsum
 have henc:=hid (λW=>encode_any L (by omega) W)
 clear hu hL hacc
 go_enter func141,ntmps141
 go_wp2_with fail
 refine (hsum.out _).mono ?_
 rintro e w1⟨rfl,hg⟩
 have g1:=hid hg
 clear hg hcat
 have hlen:(bcells L).length=20:=by rw[bcells_len];exact hLl
 have o1:OutAt (w1.alloc (.cells #[.int .u8 0,.int .u8 0,.int .u8 0,.int .u8 0,.int .u8 0,.int .u8 0,.int .u8 0,.int .u8 0,.int .u8 0,.int .u8 0,.int .u8 0,.int .u8 0,.int .u8 0,.int .u8 0,.int .u8 0,.int .u8 0,.int .u8 0,.int .u8 0,.int .u8 0,.int .u8 0] 221)) w1.heap.size []:=(show OutAt (w1.alloc (.cells (Array.replicate 20 (.int .u8 0)) 221)) w1.heap.size [] from⟨λj hj=>(by
   simp only[World.cell?,World.alloc_heap_new]
   rw[Array.getElem?_replicate,if_pos hj];rfl),λj=>World.frozen?_alloc_at _ _ _ _ rfl⟩)
 have g2:=hid (g1.out.trans (Gr.alloc w1 (.cells #[.int .u8 0,.int .u8 0,.int .u8 0,.int .u8 0,.int .u8 0,.int .u8 0,.int .u8 0,.int .u8 0,.int .u8 0,.int .u8 0,.int .u8 0,.int .u8 0,.int .u8 0,.int .u8 0,.int .u8 0,.int .u8 0,.int .u8 0,.int .u8 0,.int .u8 0,.int .u8 0] 221)))
 have hbw:=hid (show w.heap.size≤w1.heap.size from g1.out.size)
 unfold bytesV
 have hst:(storeCells ⟨w1.heap.size,0,none⟩ (bcells L) 0).run prog (w1.alloc (.cells #[.int .u8 0,.int .u8 0,.int .u8 0,.int .u8 0,.int .u8 0,.int .u8 0,.int .u8 0,.int .u8 0,.int .u8 0,.int .u8 0,.int .u8 0,.int .u8 0,.int .u8 0,.int .u8 0,.int .u8 0,.int .u8 0,.int .u8 0,.int .u8 0,.int .u8 0,.int .u8 0] 221))=.ok () ((w1.alloc (.cells #[.int .u8 0,.int .u8 0,.int .u8 0,.int .u8 0,.int .u8 0,.int .u8 0,.int .u8 0,.int .u8 0,.int .u8 0,.int .u8 0,.int .u8 0,.int .u8 0,.int .u8 0,.int .u8 0,.int .u8 0,.int .u8 0,.int .u8 0,.int .u8 0,.int .u8 0,.int .u8 0] 221)).setCells w1.heap.size 0 (bcells L)):=run_storeCells_cells w1.heap.size 0 (bcells L) 0 _ (λj hj=>by rw[hlen] at hj;rw[Nat.zero_add,o1.1 j hj];rfl) (λj _=>by rw[Nat.zero_add];exact o1.2 j) (bcells_one _)
 have hat:=World.rangeAt_setCells_same (w1.alloc (.cells #[.int .u8 0,.int .u8 0,.int .u8 0,.int .u8 0,.int .u8 0,.int .u8 0,.int .u8 0,.int .u8 0,.int .u8 0,.int .u8 0,.int .u8 0,.int .u8 0,.int .u8 0,.int .u8 0,.int .u8 0,.int .u8 0,.int .u8 0,.int .u8 0,.int .u8 0,.int .u8 0] 221)) w1.heap.size 0 (bcells L) (λj hj=>by rw[hlen] at hj;rw[Nat.zero_add];exact⟨by rw[o1.1 j hj];rfl,o1.2 j⟩)
 have hg3:=hid (Gr.setCells hbw.out (bcells L) 0 g2.out)
 have hcv:(convert 100 9 (.slice (some ⟨w1.heap.size,0,none⟩) 20 20)).run prog ((w1.alloc (.cells #[.int .u8 0,.int .u8 0,.int .u8 0,.int .u8 0,.int .u8 0,.int .u8 0,.int .u8 0,.int .u8 0,.int .u8 0,.int .u8 0,.int .u8 0,.int .u8 0,.int .u8 0,.int .u8 0,.int .u8 0,.int .u8 0,.int .u8 0,.int .u8 0,.int .u8 0,.int .u8 0] 221)).setCells w1.heap.size 0 (bcells L))=.ok (.string ⟨L.toArray⟩) ((w1.alloc (.cells #[.int .u8 0,.int .u8 0,.int .u8 0,.int .u8 0,.int .u8 0,.int .u8 0,.int .u8 0,.int .u8 0,.int .u8 0,.int .u8 0,.int .u8 0,.int .u8 0,.int .u8 0,.int .u8 0,.int .u8 0,.int .u8 0,.int .u8 0,.int .u8 0,.int .u8 0,.int .u8 0] 221)).setCells w1.heap.size 0 (bcells L)):=by
  have:=run_convert_bytes_back (P:=prog) ((w1.alloc (.cells #[.int .u8 0,.int .u8 0,.int .u8 0,.int .u8 0,.int .u8 0,.int .u8 0,.int .u8 0,.int .u8 0,.int .u8 0,.int .u8 0,.int .u8 0,.int .u8 0,.int .u8 0,.int .u8 0,.int .u8 0,.int .u8 0,.int .u8 0,.int .u8 0,.int .u8 0,.int .u8 0] 221)).setCells w1.heap.size 0 (bcells L)) 100 9 5 ⟨w1.heap.size,0,none⟩ 20 L underlying100 underlying5 underlying9 (λj hj=>by
   have h:=hat j _ (bcells_get L j hj)
   rw[Addr.add_mid];exact h)
  rwa [hLl] at this
 clear hat o1
 obtain⟨cs,hcs⟩:∃ cs,bcells L=cs:=⟨_,rfl⟩
 rw[hcs] at hst hlen hg3 hcv ⊢
 clear hcs
 go_wp2_with fail
 refine (henc.out _).mono ?_
 rintro e w3⟨rfl,hg⟩
 have g3:=hid (hg3.out.trans hg)
 clear hg
 go_wp2
 go_ret
 exact⟨rfl,g3.out⟩
def letS:ByteArray:=⟨#[65,66,67,68,69,70,71,72,73,74,75,76,77,78,79,80,81,82,83,84,85,86,87,88,89,90,97,98,99,100,101,102,103,104,105,106,107,108,109,110,111,112,113,114,115,116,117,118,119,120,121,122,48,49,50,51,52,53,54,55,56,57,43,47]⟩
theorem letS_size:letS.size=64:=rfl
theorem letS_low:∀ j:Fin 64,(letS[j.1]'(by have:=j.2;rw[letS_size];exact this)).toNat<128:=by decide +kernel
theorem enc_high (r:Nat) (h:128≤r):∃ (L:List UInt8) (m:Nat) (c:UInt8),Utf8.encode (r:Int)=⟨L.toArray⟩∧L.length=m+1∧m≤3∧L[m]?=some c∧128≤c.toNat:=by
 obtain⟨c,hc,hc2⟩:∃ c,128≤c∧(if Utf8.valid (r:Int) then (r:Int).toNat else Utf8.runeError)=c:=by
  refine⟨_,?_,rfl⟩
  split
  ·omega
  ·decide
 unfold Utf8.encode
 simp only[hc2]
 have e:∀ x,(UInt8.ofNat (128+x % 64)).toNat=128+x % 64:=λx=>by rw[UInt8.toNat_ofNat'];omega
 rw[if_neg (by omega)]
 split
 ·exact⟨[_,_],1,_,rfl,rfl,by omega,rfl,by rw[e];omega⟩
 ·split
  ·exact⟨[_,_,_],2,_,rfl,rfl,by omega,rfl,by rw[e];omega⟩
  ·exact⟨[_,_,_,_],3,_,rfl,rfl,by omega,rfl,by rw[e];omega⟩
theorem idxByte_later {W0:World} {T:List UInt8} {c:UInt8} (h:Lib.indexByte T c = -1) (v:Later (Gr W0)) :
  Calls prog 218 #[.string ⟨T.toArray⟩,.int .u8 c.toNat] v.w λe w'=>e=.returned (.int .i64 (-1))∧∃ z:Later (Gr W0),w'=z.w :=
 Calls.later ((Tryz.strings_IndexByte ⟨T.toArray⟩ c.toNat v.w).mono λ_ _ ⟨h1,h2⟩=>⟨by
  have e:((c.toNat:Int).toNat.toUInt8)=c:=by simp
  rw[e] at h1
  exact h1.trans (congrArg (λz=>Ending.returned (.int .i64 z)) h),h2▸v.ok⟩)
theorem idxRune_high (r:Nat) (h1:128≤r) (h2:r≤2147483647) (w:World) :
  Calls prog 245 #[.string letS,.int .i32 r] w λe w'=>e=.returned (.int .i64 (-1))∧Gr w w':=by
 have hr1:¬(r:Int)<128:=by omega
 have hr2:(r:Int)≤2147483647:=by omega
 have hsz:=letS_size
 by_cases hE:r=65533
 ·subst hE
  have hsz':=hid hsz
  have hlow:=hid letS_low
  obtain⟨S,hS⟩:∃ S,letS=S:=⟨_,rfl⟩
  rw[hS]
  have hSs:=hid (show S.size=64 from hS▸rfl)
  have hSl:=hid (show ∀ j (hj:j<S.size),S[j].toNat<128 by subst hS;exact λj hj=>letS_low ⟨j,hj⟩)
  clear hS hsz hr1 hr2
  go_enter func245,ntmps245
  go_wp2
  go_loopw [6] (λ_ wx=>∃ k:Nat,k≤S.size∧wx=w.iter S k) (λ_ wx=>S.size - wx.iterPos w.heap.size)
  case atStart=>exact⟨0,Nat.zero_le _,rfl⟩
  case round =>
   obtain⟨k,hk,rfl⟩:=hrel
   by_cases hlt:k<S.size
   ·have hnx:=run_next_ascii (P:=prog) w S k 0 hlt (hSl.out k hlt)
    obtain⟨c,hc⟩:∃ c,S[k]=c:=⟨_,rfl⟩
    have hc128:c.toNat<128:=hc▸hSl.out k hlt
    rw[hc] at hnx
    have hcE:((c.toNat:Int)==65533)=false:=beq_eq_false_iff_ne.2 (by omega)
    clear hc
    go_wp2
    go_roundw
    case rel=>exact⟨k+1,by omega,rfl⟩
    case measure=>simp;omega
   ·have hnx:=run_next_end (P:=prog) w S k 0 hlt
    go_wp2
    go_ret
    exact⟨rfl,Gr.alloc _ _⟩
 ·have hEI:((r:Int)==65533)=false:=beq_eq_false_iff_ne.2 (by omega)
  cases hv:Lib.validRune (r:Int)
  ·go_enter func245,ntmps245
   go_wp2_with fail
   refine (Tryz.utf8_ValidRune _ _).mono ?_
   rintro e w1⟨rfl,rfl⟩
   rw[hv]
   go_wp2
   go_ret
   exact⟨rfl,Gr.refl _⟩
  ·obtain⟨L,m,c,hE1,hE2,hm3,hE3,hc⟩:=enc_high r h1
   obtain⟨S,hS⟩:∃ S:List UInt8,lettersL=S:=⟨_,rfl⟩
   have hSl:S.length=64:=hS▸rfl
   have hlow:∀ x∈S,x.toNat<128:=hS▸letters_low
   have hlS:letS=⟨S.toArray⟩:=hS▸rfl
   rw[hlS]
   clear hlS hS hsz
   have hm3I:(m:Int)≤3:=by omega
   have hLI:(L.length:Int) - 1=m:=by omega
   have hLl:L.length≤4:=by omega
   have hm1:m<L.length:=by omega
   have hm2:m<S.length:=by omega
   obtain⟨d,hd⟩:∃ d,(⟨S.toArray⟩:ByteArray)[m]'(by rw[size_mk];exact hm2)=d:=⟨_,rfl⟩
   have hd128:d.toNat<128:=hlow d (by rw[←hd];exact List.getElem_mem hm2)
   have hcx:(⟨L.toArray⟩:ByteArray)[m]'(by rw[size_mk];exact hm1)=c:=by
    have:L[m]'hm1=c:=by rw[List.getElem?_eq_getElem hm1] at hE3;exact Option.some.inj hE3
    exact this
   have hne:((d.toNat:Int) != c.toNat)=true:=by rw[bne_iff_ne];omega
   have hx:(⟨S.toArray⟩:ByteArray).extract (m+1) S.length=⟨(S.drop (m+1)).toArray⟩:=by rw[extract_mk,List.take_of_length_le (Nat.le_refl _)]
   have hSB:S.length≤64:=by omega
   have hmS:(m:Int)+1≤S.length:=by omega
   have hidx:=hid (indexByte_none c (S.drop (m+1)) (λx hx e=>by have:=hlow x (List.mem_of_mem_drop hx);rw[e] at this;omega))
   have hE4:=hid hE1
   have hE2':=hid hE2
   have hSl':=hid hSl
   clear hE3 hlow hE2 hSl
   go_enter func245,ntmps245
   go_wp2_with fail
   refine (Tryz.utf8_ValidRune _ _).mono ?_
   rintro e w1⟨rfl,rfl⟩
   rw[hv]
   go_wp2
   go_step3
   go_wp2
   clear hLI hLl hE1 hv hEI hr1 hr2
   go_loop [9] (λi=>i=.int .i64 m) (λ_=>0)
   case atStart=>rfl
   case round =>
    obtain rfl:=hrel
    go_wp2
    go_step3
    go_wp2
    haveI hne2:∀ W,Nonempty (Later (Gr W)):=λW=>⟨⟨_,Gr.refl W⟩⟩
    refine wp_region_later (C:=Gr _) (by kernel_rfl) (by kernel_rfl) (Gr.drew' _) ?_
    repeat (go_big_quiet_step (fail))
    refine wpQuiet_nil ?_
    intro w8 hg8
    have e1:IntKind.i64.wrap ((m:Int)+1)=(m:Int)+1:=IntWalk.i64_in _ (by omega)
    have e2:((m:Int)+1).toNat=m+1:=by omega
    have e3:0≤(m:Int)+1:=by omega
    go_wp2
    refine wp_region_later (C:=Gr _) (by kernel_rfl) (by kernel_rfl) (Gr.drew' _) ?_
    repeat (go_big_quiet_step (with_reducible exact idxByte_later hidx.out _))
    refine wpQuiet_nil ?_
    intro w9 hg9
    have hg:=hid (hg8.trans hg9)
    clear e1 e2 e3 hg8 hg9
    go_wp2
    simp only[Exit.noGoto_ret,Exit.inBlock]
    show bodyPost _ _ (λe w'=>e=.returned (.int .i64 (-1))∧Gr w1 w') Exit.ret _ _
    go_ret
    exact⟨rfl,hg.out⟩
theorem value_low (c:UInt8) (hc:c.toNat<128) (w:World):Calls prog 211 #[.int .i32 c.toNat] w λe w'=>e=.returned (.int .i64 (numB c))∧w=w':=by
 have hi:=hid (Tryz.strings_IndexRune_ascii letS c.toNat)
 have hcI:(c.toNat:Int)<128:=by omega
 go_enter func211,ntmps211
 go_wp2_with fail
 refine (hi.out w (by omega) (by omega)).mono ?_
 rintro e w1⟨rfl,rfl⟩
 go_wp2
 go_ret
 refine⟨?_,rfl⟩
 have e:((c.toNat:Int).toNat.toUInt8)=c:=by simp
 first | rfl | (rw[e];rfl) | (simp[numB,letS,lettersL])
theorem value_high (r:Nat) (h1:128≤r) (h2:r≤2147483647) (w:World):Calls prog 211 #[.int .i32 r] w λe w'=>e=.returned (.int .i64 (-1))∧Gr w w':=by
 go_enter func211,ntmps211
 go_wp2_with fail
 refine (idxRune_high r h1 h2 w).mono ?_
 rintro e w1⟨rfl,hg⟩
 go_wp2
 go_ret
 exact⟨rfl,hg⟩
theorem i64_join6 {m c:Nat} (hm:m<4294967296) (hc:c<64):bits .or .i64 ((m:Int)*64) (c:Int)=((m*64+c:Nat):Int):=by
 have h:=i64_or_nat (a:=m*64) (b:=c) (by omega) (by omega)
 rw[Go.nat_join 6 (m*64) c (by omega) (by omega)] at h
 rw[←h];rfl
theorem i64_low {m k:Nat} (hm:m<4294967296) (hk:k≤32):bits .and .i64 (m:Int) ((2 ^ k - 1:Nat):Int)=((m % 2 ^ k:Nat):Int):=by
 have h2:2 ^ k≤2 ^ 32:=Nat.pow_le_pow_right (by decide) hk
 have h:=i64_and_nat (a:=m) (b:=2 ^ k - 1) (by omega) (by omega)
 rw[Nat.and_two_pow_sub_one_eq_mod m k] at h
 exact h
def grV (r:List UInt8×Bool):Value:=.tuple #[.string ⟨r.1.toArray⟩,.bool r.2]
theorem group_any (s:List UInt8) (hs:s.length≤4) (w:World):Calls prog 171 #[.string ⟨s.toArray⟩] w λe w'=>e=.returned (grV (groupB s))∧Gr w w':=by
 obtain⟨R,hR⟩:∃ R,groupB s=R:=⟨_,rfl⟩
 rw[hR]
 have hR':=hid hR
 clear hR
 obtain⟨S,hS⟩:∃ S:ByteArray,⟨s.toArray⟩=S:=⟨_,rfl⟩
 have hSs':=hid (show S.size=s.length by rw[←hS,size_mk])
 have hSg':=hid (show ∀ j (hj:j<S.size) (hj2:j<s.length),S[j]=s[j] by subst hS;exact λj hj hj2=>rfl)
 have hS4:=hid (show S.size≤4 by rw[hSs'.out];exact hs)
 rw[hS]
 clear hS
 go_enter func171,ntmps171
 go_wp2
 go_loopw [4,5] (λx n wx=>∃ k:Nat,k≤s.length∧(s.take k).all isLet=true∧x=.int .i64 (numV (s.take k))∧n=.int .i64 (6*k:Nat)∧wx=w.iter S k) (λ_ _ wx=>S.size - wx.iterPos w.heap.size)
 case atStart=>exact⟨0,Nat.zero_le _,rfl,rfl,rfl,rfl⟩
 case round =>
  obtain⟨k,hk,hall,rfl,rfl,rfl⟩:=hrel
  have hall':=hid hall
  clear hall
  obtain⟨m,hm⟩:∃ m,numV (s.take k)=m:=⟨_,rfl⟩
  have hm':=hid hm
  rw[hm]
  by_cases hlt:k<s.length
  ·have hltS:k<S.size:=by rw[hSs'.out];exact hlt
   have hmb:m<64 ^ 3:=Nat.lt_of_lt_of_le (hm▸numV_lt k _ (by rw[List.length_take];omega)) (Nat.pow_le_pow_right (by decide) (by omega))
   have hmI:(m:Int)≤262143:=by omega
   have hkI:(k:Int)≤3:=by omega
   have hts:=List.take_succ_eq_append_getElem hlt
   obtain⟨c,hc⟩:∃ c,s[k]=c:=⟨_,rfl⟩
   rw[hc] at hts
   have hSc:S[k]=c:=by rw[hSg'.out k hltS hlt,hc]
   have hts':=hid hts
   have hdead:=hid (show isLet c=false→groupB s=([],false) from λh=>by
    unfold groupB
    rw[if_neg]
    rw[List.all_eq_true]
    intro ha
    have:=ha c (hc▸List.getElem_mem hlt)
    rw[h] at this;cases this)
   clear hts hc hm
   by_cases hc128:c.toNat<128
   ·have hnx:=run_next_ascii (P:=prog) w S k 0 hltS (by rw[hSc];exact hc128)
    rw[hSc] at hnx
    have hvl:=hid (λW=>value_low c hc128 W)
    obtain⟨hb1,hb2⟩:=num_bd c
    clear hSc
    by_cases h0:0≤numB c
    ·obtain⟨v,hv⟩:∃ v:Nat,numB c=v:=⟨(numB c).toNat,by omega⟩
     rw[hv] at hvl hb2
     have hjn:=i64_join6 (m:=m) (c:=v) (by omega) (by omega)
     have hnext:=hid (show numV (s.take (k+1))=m*64+v by rw[hts'.out,numV_snoc,hm'.out,hv];rfl)
     have hal2:=hid (show (s.take (k+1)).all isLet=true by rw[hts'.out,List.all_append,hall'.out];simp[isLet,h0])
     have hvI:(v:Int)<64:=hb2
     clear hv h0 hb1 hb2 hmb
     go_wp2_with fail
     refine (hvl.out _).mono ?_
     rintro e w1⟨rfl,rfl⟩
     go_wp2
     go_roundw
     case rel=>exact⟨k+1,by omega,hal2.out,by rw[hnext.out];go_num,by go_num,rfl⟩
     case measure=>simp;omega
    ·have hv:numB c = -1:=by omega
     rw[hv] at hvl
     have hres:=hid ((hdead.out (by simp[isLet];omega)).symm.trans hR'.out)
     clear hv h0 hb1 hb2 hmb
     go_wp2_with fail
     refine (hvl.out _).mono ?_
     rintro e w1⟨rfl,rfl⟩
     go_wp2
     go_ret2
     exact⟨by rw[←hres.out];rfl,Gr.alloc _ _⟩
   ·have hdh:=decode_high S k hltS (by rw[hSc];omega)
    have hdl:=decode_le S k
    have hnx:=run_next_any (P:=prog) w S k 0 hltS
    obtain⟨r,hr⟩:∃ r,(Utf8.decode S k).1=r:=⟨_,rfl⟩
    rw[hr] at hdh hdl hnx
    have hvh:=hid (λW=>value_high r hdh.1 hdl W)
    have hres:=hid ((hdead.out (by simp[isLet,num_high (show 128≤c.toNat by omega)])).symm.trans hR'.out)
    clear hr hdh hdl hSc hmb hc128
    go_wp2_with fail
    refine (hvh.out _).mono ?_
    rintro e w1⟨rfl,hg⟩
    go_wp2
    go_ret2
    exact⟨by rw[←hres.out];rfl,(show Gr w (w.iter S (k+(Utf8.decode S k).2)) from Gr.alloc _ _).trans hg⟩
  ·obtain rfl:k=s.length:=by omega
   have hnx:=run_next_end (P:=prog) w S s.length 0 (by rw[hSs'.out];omega)
   rw[List.take_length] at hm hall'
   have hmb:m<64 ^ 4:=Nat.lt_of_lt_of_le (hm▸numV_lt s.length _ rfl) (Nat.pow_le_pow_right (by decide) hs)
   have hmI:(m:Int)≤16777215:=by omega
   have hres:=hid (show R=(outsN m (6*s.length) (6*s.length / 8),decide (m % 2 ^ (6*s.length % 8)=0)) by
    rw[←hR'.out];unfold groupB;rw[if_pos hall'.out,hm])
   have hg0:=hid (show Gr w (w.iter S s.length) from Gr.alloc _ _)
   clear hm
   go_wp2
   clear hnx
   obtain⟨w1,hw1⟩:∃ w1,w.iter S s.length=w1:=⟨_,rfl⟩
   rw[hw1] at hg0 ⊢
   clear hw1
   obtain⟨N,hN⟩:∃ N,6*s.length=N:=⟨_,rfl⟩
   rw[hN] at hres
   have hN':=hid hN
   have hNI:6*(s.length:Int)=N:=by omega
   have hN24:N≤24:=by omega
   clear hN
   rw[hNI]
   clear hNI
   go_loopw [5,10] (λn o wx=>∃ j:Nat,8*j≤N∧n=.int .i64 ((N:Int) - 8 - 8*j)∧o=.string ⟨(outsN m N j).toArray⟩∧(outsN m N j).length=j∧Gr w wx) (λn _ _=>(intOf n+8).toNat)
   case atStart=>exact⟨0,by omega,by simp,rfl,rfl,hg0.out⟩
   case round =>
    obtain⟨j,hj,rfl,rfl,hjl,hg⟩:=hrel
    have hg':=hid hg
    have hjl':=hid hjl
    have hj3:(outsN m N j).length≤24:=by omega
    clear hg hjl
    obtain⟨o,ho⟩:∃ o,outsN m N j=o:=⟨_,rfl⟩
    rw[ho] at hj3 ⊢
    have ho':=hid ho
    clear ho
    by_cases hq:8*(j+1)≤N
    ·obtain⟨q,hqd⟩:∃ q,N - 8*(j+1)=q:=⟨_,rfl⟩
     have hzI:(N:Int) - 8 - 8*j=q:=by omega
     rw[hzI]
     have hq24:(q:Int)≤24:=by omega
     obtain⟨d,hd⟩:∃ d,UInt8.ofNat (m / 2 ^ q)=d:=⟨_,rfl⟩
     have hdI:(m:Int) / 2 ^ q % 256=(d.toNat:Int):=by
      rw[←hd,UInt8.toNat_ofNat',Int.natCast_emod,Int.natCast_ediv]
      simp
     have hon:=hid (show outsN m N (j+1)=o++[d] by rw[outsN,ho'.out,hqd,hd])
     have hcat:(⟨o.toArray⟩:ByteArray)++⟨#[d]⟩=⟨(o++[d]).toArray⟩:=cat_mk o [d]
     have hcl:¬9223372036854775807<o.length+1:=by omega
     have hcv:∀ cap,(convert 100 9 (.slice (some ⟨wr.heap.size,0,none⟩) 1 cap)).run prog (wr.alloc (.cells #[.int .u8 d.toNat] 5))=.ok (.string ⟨#[d]⟩) (wr.alloc (.cells #[.int .u8 d.toNat] 5)):=λcap =>
      run_convert_bytes_back _ _ _ 5 ⟨wr.heap.size,0,none⟩ cap [d] underlying100 underlying5 underlying9 (λj hj=>by
       obtain rfl:j=0:=by simpa using hj
       simp[Addr.add,go_sem])
     have hzN:=hid (show (q:Int) - 8=(N:Int) - 8 - 8*((j+1:Nat):Int) by omega)
     clear hd hqd hzI
     go_wp2
     go_roundw
     case rel=>exact⟨j+1,hq,by rw[hzN.out],by rw[hon.out],by rw[hon.out,List.length_append,←ho'.out,hjl'.out];rfl,hg'.out.alloc1 _⟩
     case measure=>simp[intOf];omega
    ·have hneg:(N:Int) - 8 - 8*j<0:=by omega
     obtain⟨z,hz⟩:∃ z:Int,(N:Int) - 8 - 8*j=z:=⟨_,rfl⟩
     rw[hz] at hneg ⊢
     have hz8:-8≤z:=by omega
     have hres2:=hid (show R=(o,decide (m % 2 ^ (N % 8)=0)) by
      rw[hres.out,←ho'.out,show N / 8=j by omega])
     haveI hne:∀ W,Nonempty (Later (Gr W)):=λW=>⟨⟨_,Gr.refl W⟩⟩
     have hs5:=hN'.out
     have hcase:N=0∨N=6∨N=12∨N=18∨N=24:=by omega
     clear hz hs5 hq
     rcases hcase with rfl | rfl | rfl | rfl | rfl
     ·obtain⟨f,hf⟩:∃ f,decide (m % 1=0)=f:=⟨_,rfl⟩
      have hand:bits .and .i64 (m:Int) 0=((m % 1:Nat):Int):=i64_low (k:=0) (by omega) (by omega)
      have heq:=hid (show true=f by rw[←hf,Bool.eq_iff_iff];simp;omega)
      have hfin:=hid (show R=(o,f) by rw[hres2.out,←hf])
      clear hf
      go_wp2
      refine wp_region_later (C:=Gr _) (by kernel_rfl) (by kernel_rfl) (Gr.drew' _) ?_
      repeat (go_big_quiet_step (fail))
      refine wpQuiet_nil ?_
      intro w9 hg9
      go_wp2
      go_ret2
      refine⟨?_,hg'.out.trans hg9⟩
      rw[hfin.out]
      unfold grV
      rw[←heq.out];rfl
     ·obtain⟨f,hf⟩:∃ f,decide (m % 64=0)=f:=⟨_,rfl⟩
      have hand:bits .and .i64 (m:Int) 63=((m % 64:Nat):Int):=i64_low (k:=6) (by omega) (by omega)
      have heq:=hid (show ((m:Int) % 64==0)=f by rw[←hf,Bool.eq_iff_iff];simp;omega)
      have hfin:=hid (show R=(o,f) by rw[hres2.out,←hf])
      clear hf
      go_wp2
      refine wp_region_later (C:=Gr _) (by kernel_rfl) (by kernel_rfl) (Gr.drew' _) ?_
      repeat (go_big_quiet_step (fail))
      refine wpQuiet_nil ?_
      intro w9 hg9
      go_wp2
      go_ret2
      refine⟨?_,hg'.out.trans hg9⟩
      rw[hfin.out]
      unfold grV
      rw[←heq.out];rfl
     ·obtain⟨f,hf⟩:∃ f,decide (m % 16=0)=f:=⟨_,rfl⟩
      have hand:bits .and .i64 (m:Int) 15=((m % 16:Nat):Int):=i64_low (k:=4) (by omega) (by omega)
      have heq:=hid (show ((m:Int) % 16==0)=f by rw[←hf,Bool.eq_iff_iff];simp;omega)
      have hfin:=hid (show R=(o,f) by rw[hres2.out,←hf])
      clear hf
      go_wp2
      refine wp_region_later (C:=Gr _) (by kernel_rfl) (by kernel_rfl) (Gr.drew' _) ?_
      repeat (go_big_quiet_step (fail))
      refine wpQuiet_nil ?_
      intro w9 hg9
      go_wp2
      go_ret2
      refine⟨?_,hg'.out.trans hg9⟩
      rw[hfin.out]
      unfold grV
      rw[←heq.out];rfl
     ·obtain⟨f,hf⟩:∃ f,decide (m % 4=0)=f:=⟨_,rfl⟩
      have hand:bits .and .i64 (m:Int) 3=((m % 4:Nat):Int):=i64_low (k:=2) (by omega) (by omega)
      have heq:=hid (show ((m:Int) % 4==0)=f by rw[←hf,Bool.eq_iff_iff];simp;omega)
      have hfin:=hid (show R=(o,f) by rw[hres2.out,←hf])
      clear hf
      go_wp2
      refine wp_region_later (C:=Gr _) (by kernel_rfl) (by kernel_rfl) (Gr.drew' _) ?_
      repeat (go_big_quiet_step (fail))
      refine wpQuiet_nil ?_
      intro w9 hg9
      go_wp2
      go_ret2
      refine⟨?_,hg'.out.trans hg9⟩
      rw[hfin.out]
      unfold grV
      rw[←heq.out];rfl
     ·obtain⟨f,hf⟩:∃ f,decide (m % 1=0)=f:=⟨_,rfl⟩
      have hand:bits .and .i64 (m:Int) 0=((m % 1:Nat):Int):=i64_low (k:=0) (by omega) (by omega)
      have heq:=hid (show true=f by rw[←hf,Bool.eq_iff_iff];simp;omega)
      have hfin:=hid (show R=(o,f) by rw[hres2.out,←hf])
      clear hf
      go_wp2
      refine wp_region_later (C:=Gr _) (by kernel_rfl) (by kernel_rfl) (Gr.drew' _) ?_
      repeat (go_big_quiet_step (fail))
      refine wpQuiet_nil ?_
      intro w9 hg9
      go_wp2
      go_ret2
      refine⟨?_,hg'.out.trans hg9⟩
      rw[hfin.out]
      unfold grV
      rw[←heq.out];rfl
theorem Bld.gr {B b:Nat} {bs:List Value} {W W':World} (h:Bld B b bs W) (hg:Gr W W') (_hb:B≤W.heap.size):Bld B b bs W':=by
 have key:∀ p,Lib.BuilderAt 147 5 B b p bs W→Lib.BuilderAt 147 5 B b p bs W':=λp h=>by
  obtain⟨hB,v,hbk,hown,hne⟩:=h
  have hlt:b<W.heap.size:=by
   rcases Nat.lt_or_ge b W.heap.size with h' | h'
   ·exact h'
   ·simp[Array.getElem?_eq_none h'] at hbk
  refine⟨hB,v,(Below.block hg b hlt).trans hbk,⟨hown.1,?_⟩,hne⟩
  rcases hown.2 with h2 | ⟨g,cap,cur,rfl,hb,hh,hn2,hm,hcs,ht⟩
  ·exact .inl h2
  ·exact .inr ⟨g,cap,cur,rfl,hb,(Below.block hg g (Array.getElem?_eq_some_iff.1 hh).1).trans hh,hn2,hm,hcs,ht⟩
 exact h.imp (key _) (key _)
theorem group_is {s o:List UInt8} {f:Bool} (h:groupB s=(o,f)) (hs:s.length≤4) (w:World):Calls prog 171 #[.string ⟨s.toArray⟩] w λe w'=>e=.returned (.tuple #[.string ⟨o.toArray⟩,.bool f])∧Gr w w':=by
 have:=group_any s hs w;rw[h] at this;exact this
theorem trim_is (s:List UInt8) (hs:s.length≤4) (w:World):Calls prog 170 #[.string ⟨s.toArray⟩,.string ⟨#[61]⟩] w λe w'=>e=.returned (.string ⟨(Lib.trimSuffix s [61]).toArray⟩)∧w=w' :=
 (Tryz.strings_TrimSuffix ⟨s.toArray⟩ ⟨#[61]⟩ w (by rw[size_mk];omega)).mono λ_ _ ⟨h1,h2⟩=>⟨h1,h2.symm⟩
def dcV:Option (List UInt8)→Value
 | none=>.tuple #[.string ⟨#[]⟩,.bool false]
 | some t=>.tuple #[.string ⟨t.toArray⟩,.bool true]
theorem decode_any (s:List UInt8) (hs:s.length≤1000000) (w:World):Calls prog 139 #[.string ⟨s.toArray⟩] w λe w'=>e=.returned (dcV (decL s))∧Gr w w':=by
 obtain⟨R,hR⟩:∃ R,decL s=R:=⟨_,rfl⟩
 rw[hR]
 have hsI:(s.length:Int)≤1000000:=by omega
 by_cases h4:s.length % 4=0
 ·have hR':=hid (show (decD s).map (([]:List UInt8)++·)=R by
   rw[←hR];unfold decL;rw[if_pos h4]
   show (decD s).map _=decD s
   cases decD s <;> simp)
  have h4I:((s.length:Int) % 4 != 0)=false:=by rw[bne_eq_false_iff_eq];omega
  have h4T:((s.length:Int).tmod 4 != 0)=false:=by rw[Int.tmod_eq_emod_of_nonneg (by omega)];exact h4I
  clear hR
  go_enter func139,ntmps139
  go_wp2
  obtain⟨b,hb⟩:∃ b,w.heap.size=b:=⟨_,rfl⟩
  have hB:=hid hb
  have h0:=hid (show Bld b b (Lib.byteCells []) (w.alloc (.cells #[.pointer none,.slice none 0 0] 147)) from hb▸Lib.fresh_isBuilder _ _ w)
  have g0:=hid (Gr.alloc w (.cells #[.pointer none,.slice none 0 0] 147))
  rw[hb]
  clear hb h4I h4T
  go_loopw [0] (λa wr=>∃ (rest out:List UInt8),a=.string ⟨rest.toArray⟩∧out.length+rest.length≤1000000∧rest.length % 4=0∧(decD rest).map (out++·)=R∧Bld b b (Lib.byteCells out) wr∧Gr w wr) (λa _=>lenD a)
  case atStart=>exact⟨s,[],rfl,by simpa using hs,h4,hR'.out,h0.out,g0.out⟩
  case round =>
   obtain⟨rest,out,rfl,hrl,hr4,hout,hbl,hg⟩:=hrel
   have hout':=hid hout
   have hbl':=hid hbl
   have hg':=hid hg
   have hr4':=hid hr4
   have hbs:=hid (show b≤wr.heap.size by have:=Below.size hg;have:=hB.out;omega)
   clear hout hbl hg hr4
   by_cases hr0:0<rest.length
   ·have hr0I:(0:Int)<rest.length:=by omega
    have hr4I:(4:Int)≤rest.length:=by have:=hr4'.out;omega
    have hx1:(⟨rest.toArray⟩:ByteArray).extract 0 4=⟨(rest.take 4).toArray⟩:=by rw[extract_mk];simp
    have hx2:(⟨rest.toArray⟩:ByteArray).extract 4 rest.length=⟨(rest.drop 4).toArray⟩:=by rw[extract_mk];simp
    have hstep:=hid (decD_step hr0)
    have hlg:=hid (lastG_len rest)
    have hlgd:=hid (show lastG rest=if (rest.drop 4).isEmpty then trimE (rest.take 4) else rest.take 4 from rfl)
    have htk:=hid (show (rest.take 4).length≤4 by rw[List.length_take];omega)
    have hdl:=hid (show (rest.drop 4).length+4=rest.length by rw[List.length_drop];omega)
    obtain⟨ra,hra⟩:∃ l,rest.take 4=l:=⟨_,rfl⟩
    obtain⟨rb,hrb⟩:∃ l,rest.drop 4=l:=⟨_,rfl⟩
    obtain⟨g,hgd⟩:∃ l,lastG rest=l:=⟨_,rfl⟩
    rw[hra] at hx1 hlgd htk
    rw[hrb] at hx2 hstep hlgd hdl
    rw[hgd] at hstep hlg hlgd
    obtain⟨⟨o,f⟩,hgr⟩:∃ x,groupB g=x:=⟨_,rfl⟩
    have hol:=hid (show o.length≤3 by have:=group_len hlg.out;rw[hgr] at this;exact this)
    rw[hgr] at hstep
    dsimp only at hstep
    have hgrp:=hid (λW=>group_is hgr hlg.out W)
    have hrl':=hid hrl
    have hws:=hid (λW (H:Bld b b (Lib.byteCells out) W) hW=>writeString_any b b (Lib.byteCells out) ⟨o.toArray⟩ W H (by have:=hol.out;have:=hrl'.out;rw[byteCells_len,size_mk];omega) hW)
    clear hra hrb hgd hgr
    cases hre:rb.isEmpty
    ·rw[hre] at hlgd
     obtain rfl:g=ra:=hlgd.out
     go_wp2_with fail
     refine (hgrp.out _).mono ?_
     rintro e w2⟨rfl,hg2⟩
     have hb2:=hid (Bld.gr hbl'.out hg2 hbs.out)
     have hg2':=hid (hg'.out.trans hg2)
     have hbs2:=hid (show b≤w2.heap.size by have:=Below.size hg2;have:=hbs.out;omega)
     clear hg2
     cases f
     ·have hfin:=hid (show R=none by rw[←hout'.out,hstep.out];rfl)
      go_wp2
      go_ret2
      exact⟨by rw[hfin.out];rfl,hg2'.out⟩
     ·have hnext:=hid (show (decD rb).map ((out++o)++·)=R by
       rw[←hout'.out,hstep.out,if_pos rfl]
       cases decD rb <;> simp)
      go_wp2_with fail
      refine (hws.out _ hb2.out hbs2.out).mono ?_
      rintro e w3⟨rfl,hb3,hg3⟩
      have hb3':=hid (show Bld b b (Lib.byteCells (out++o)) w3 by
       have e:Lib.byteCells out++Lib.strCells ⟨o.toArray⟩=Lib.byteCells (out++o):=by simp[Lib.byteCells,Lib.strCells]
       rw[e] at hb3;exact hb3)
      have hg3':=hid (Below.trans hg2'.out (hB.out▸hg3))
      clear hb3 hg3
      go_wp2
      go_roundw
      case rel=>exact⟨rb,out++o,rfl,by have:=hdl.out;have:=hol.out;rw[List.length_append];omega,by have:=hdl.out;have:=hr4'.out;omega,hnext.out,hb3'.out,hg3'.out⟩
      case measure=>(show (⟨rb.toArray⟩:ByteArray).size<(⟨rest.toArray⟩:ByteArray).size);rw[size_mk,size_mk];have:=hdl.out;omega
    ·rw[hre] at hlgd
     obtain rfl:rb=[]:=List.isEmpty_iff.1 hre
     have hgt:g=Lib.trimSuffix (Lib.trimSuffix ra [61]) [61]:=hlgd.out
     have htr1:=hid (λW=>trim_is ra htk.out W)
     have htr2:=hid (λW=>trim_is (Lib.trimSuffix ra [61]) (by have:=htk.out;unfold Lib.trimSuffix;split;(rw[List.length_take];omega);omega) W)
     obtain⟨ga,hga⟩:∃ l,Lib.trimSuffix ra [61]=l:=⟨_,rfl⟩
     rw[hga] at htr1 htr2 hgt
     rw[←hgt] at htr2
     clear hga hgt hlgd hre
     go_wp2_with fail
     refine (htr1.out _).mono ?_
     rintro e w1⟨rfl,rfl⟩
     go_wp2_with fail
     refine (htr2.out _).mono ?_
     rintro e w1⟨rfl,rfl⟩
     go_wp2_with fail
     refine (hgrp.out _).mono ?_
     rintro e w2⟨rfl,hg2⟩
     have hb2:=hid (Bld.gr hbl'.out hg2 hbs.out)
     have hg2':=hid (hg'.out.trans hg2)
     have hbs2:=hid (show b≤w2.heap.size by have:=Below.size hg2;have:=hbs.out;omega)
     clear hg2
     cases f
     ·have hfin:=hid (show R=none by rw[←hout'.out,hstep.out];rfl)
      go_wp2
      go_ret2
      exact⟨by rw[hfin.out];rfl,hg2'.out⟩
     ·have hnext:=hid (show (decD ([]:List UInt8)).map ((out++o)++·)=R by
       rw[←hout'.out,hstep.out,if_pos rfl]
       cases decD ([]:List UInt8) <;> simp)
      go_wp2_with fail
      refine (hws.out _ hb2.out hbs2.out).mono ?_
      rintro e w3⟨rfl,hb3,hg3⟩
      have hb3':=hid (show Bld b b (Lib.byteCells (out++o)) w3 by
       have e:Lib.byteCells out++Lib.strCells ⟨o.toArray⟩=Lib.byteCells (out++o):=by simp[Lib.byteCells,Lib.strCells]
       rw[e] at hb3;exact hb3)
      have hg3':=hid (Below.trans hg2'.out (hB.out▸hg3))
      clear hb3 hg3
      go_wp2
      go_roundw
      case rel=>exact⟨([]:List UInt8),out++o,rfl,by have:=hdl.out;have:=hol.out;rw[List.length_append];simp only[List.length_nil] at *;omega,rfl,hnext.out,hb3'.out,hg3'.out⟩
      case measure=>(show 0<(⟨rest.toArray⟩:ByteArray).size);rw[size_mk];exact hr0
   ·have hr1:rest=[]:=List.eq_nil_of_length_eq_zero (by omega)
    subst hr1
    have hfin:=hid (show R=some out by rw[←hout'.out,decD_nil];simp)
    go_wp2_with fail
    refine (Tryz.Builder_String_any b b out wr hbl'.out hbs.out).mono ?_
    rintro e w3⟨rfl,hg3⟩
    have hg3':=hid (Below.trans hg'.out (hB.out▸hg3))
    clear hg3
    go_wp2
    go_ret2
    exact⟨by rw[hfin.out];rfl,hg3'.out⟩
 ·have h4I:((s.length:Int) % 4 != 0)=true:=by rw[bne_iff_ne];omega
  have h4T:((s.length:Int).tmod 4 != 0)=true:=by rw[Int.tmod_eq_emod_of_nonneg (by omega)];exact h4I
  have hR':=hid (show R=none by rw[←hR];unfold decL;rw[if_neg h4])
  clear hR h4
  go_enter func139,ntmps139
  go_wp2
  go_ret2
  exact⟨by rw[hR'.out];rfl,Gr.refl _⟩
