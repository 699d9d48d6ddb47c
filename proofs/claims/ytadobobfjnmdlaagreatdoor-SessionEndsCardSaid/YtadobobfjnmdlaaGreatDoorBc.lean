/-
  Walks over package b64: a group of letters, and all of them.
-/
import Derived.Test.YtadobobfjnmdlaaGreatDoorBa
set_option linter.unnecessarySimpa false
set_option linter.unusedVariables false
set_option linter.unusedSimpArgs false
set_option maxHeartbeats 16000000
set_option maxRecDepth 100000
open Go.Lib (hid)
namespace Go.Proofs.YtadobobfjnmdlaaGreatDoor
open Go.RowKit
attribute [local go_sem] Oper.semAt_some
theorem i64_join6 {m c:Nat} (hm:m<4294967296) (hc:c<64):bits .or .i64 ((m:Int)*64) (c:Int)=((m*64+c:Nat):Int):=by
 have h:=i64_or_nat (a:=m*64) (b:=c) (by omega) (by omega)
 rw[Go.nat_join 6 (m*64) c (by omega) (by omega)] at h
 rw[←h];rfl
theorem i64_low {m k:Nat} (hm:m<4294967296) (hk:k≤32):bits .and .i64 (m:Int) ((2 ^ k - 1:Nat):Int)=((m % 2 ^ k:Nat):Int):=by
 have h2:2 ^ k≤2 ^ 32:=Nat.pow_le_pow_right (by decide) hk
 have h:=i64_and_nat (a:=m) (b:=2 ^ k - 1) (by omega) (by omega)
 rw[Nat.and_two_pow_sub_one_eq_mod m k] at h
 exact h
def grV (r:List UInt8×Bool):Value:=.tuple #[.string ⟨r.1.toArray⟩,.bool r.2]
theorem group_any (s:List UInt8) (hs:s.length≤4) (w:World):Calls Tryz.prog 171 #[.string ⟨s.toArray⟩] w fun e w'=>e=.returned (grV (groupB s))∧Gr w w':=by
 obtain⟨R,hR⟩:∃ R,groupB s=R:=⟨_,rfl⟩
 rw[hR]
 have hR':=hid hR
 clear hR
 obtain⟨S,hS⟩:∃ S:ByteArray,⟨s.toArray⟩=S:=⟨_,rfl⟩
 have hSs':=hid (show S.size=s.length by rw[←hS,size_mk])
 have hSg':=hid (show ∀ j (hj:j<S.size) (hj2:j<s.length),S[j]=s[j] by subst hS;exact fun j hj hj2=>rfl)
 have hS4:=hid (show S.size≤4 by rw[hSs'.out];exact hs)
 rw[hS]
 clear hS
 go_enter Tryz.func171,Tryz.ntmps171
 go_wp2
 go_loopw [4,5] (fun x n wx=>∃ k:Nat,k≤s.length∧(s.take k).all isLet=true∧x=.int .i64 (numV (s.take k))∧n=.int .i64 (6*k:Nat)∧wx=w.iter S k) (fun _ _ wx=>S.size - wx.iterPos w.heap.size)
 case atStart=>exact⟨0,Nat.zero_le _,rfl,rfl,rfl,rfl⟩
 case round =>
  obtain⟨k,hk,hall,rfl,rfl,rfl⟩:=hrel
  have hall':=hid hall
  clear hall
  obtain⟨m,hm⟩:∃ m,numV (s.take k)=m:=⟨_,rfl⟩
  have hm':=hid hm
  rw[hm]
  by_cases hlt:k<s.length
  ·have hltS:k<S.size:=by rw[hSs'.out];exact hlt
   have hmb:m<64 ^ 3:=Nat.lt_of_lt_of_le (hm▸numV_lt k _ (by rw[List.length_take];omega)) (Nat.pow_le_pow_right (by decide) (by omega))
   have hmI:(m:Int)≤262143:=by omega
   have hkI:(k:Int)≤3:=by omega
   have hts:=List.take_succ_eq_append_getElem hlt
   obtain⟨c,hc⟩:∃ c,s[k]=c:=⟨_,rfl⟩
   rw[hc] at hts
   have hSc:S[k]=c:=by rw[hSg'.out k hltS hlt,hc]
   have hts':=hid hts
   have hdead:=hid (show isLet c=false→groupB s=([],false) from fun h=>by
    unfold groupB
    rw[if_neg]
    rw[List.all_eq_true]
    intro ha
    have:=ha c (hc▸List.getElem_mem hlt)
    rw[h] at this;cases this)
   clear hts hc hm
   by_cases hc128:c.toNat<128
   ·have hnx:=run_next_ascii (P:=Tryz.prog) w S k 0 hltS (by rw[hSc];exact hc128)
    rw[hSc] at hnx
    have hvl:=hid (fun W=>value_low c hc128 W)
    obtain⟨hb1,hb2⟩:=num_bd c
    clear hSc
    by_cases h0:0≤numB c
    ·obtain⟨v,hv⟩:∃ v:Nat,numB c=v:=⟨(numB c).toNat,by omega⟩
     rw[hv] at hvl hb2
     have hjn:=i64_join6 (m:=m) (c:=v) (by omega) (by omega)
     have hnext:=hid (show numV (s.take (k+1))=m*64+v by rw[hts'.out,numV_snoc,hm'.out,hv];rfl)
     have hal2:=hid (show (s.take (k+1)).all isLet=true by rw[hts'.out,List.all_append,hall'.out];simp[isLet,h0])
     have hvI:(v:Int)<64:=hb2
     clear hv h0 hb1 hb2 hmb
     go_wp2_with fail
     refine (hvl.out _).mono ?_
     rintro e w1 ⟨rfl,rfl⟩
     go_wp2
     go_roundw
     case rel=>exact⟨k+1,by omega,hal2.out,by rw[hnext.out];go_num,by go_num,rfl⟩
     case measure=>simp;omega
    ·have hv:numB c = -1:=by omega
     rw[hv] at hvl
     have hres:=hid ((hdead.out (by simp[isLet];omega)).symm.trans hR'.out)
     clear hv h0 hb1 hb2 hmb
     go_wp2_with fail
     refine (hvl.out _).mono ?_
     rintro e w1 ⟨rfl,rfl⟩
     go_wp2
     go_ret2
     exact⟨by rw[←hres.out];rfl,Gr.alloc _ _⟩
   ·have hdh:=decode_high S k hltS (by rw[hSc];omega)
    have hdl:=decode_le S k
    have hnx:=run_next_any (P:=Tryz.prog) w S k 0 hltS
    obtain⟨r,hr⟩:∃ r,(Utf8.decode S k).1=r:=⟨_,rfl⟩
    rw[hr] at hdh hdl hnx
    have hvh:=hid (fun W=>value_high r hdh.1 hdl W)
    have hres:=hid ((hdead.out (by simp[isLet,num_high (show 128≤c.toNat by omega)])).symm.trans hR'.out)
    clear hr hdh hdl hSc hmb hc128
    go_wp2_with fail
    refine (hvh.out _).mono ?_
    rintro e w1 ⟨rfl,hg⟩
    go_wp2
    go_ret2
    exact⟨by rw[←hres.out];rfl,(show Gr w (w.iter S (k+(Utf8.decode S k).2)) from Gr.alloc _ _).trans hg⟩
  ·obtain rfl:k=s.length:=by omega
   have hnx:=run_next_end (P:=Tryz.prog) w S s.length 0 (by rw[hSs'.out];omega)
   rw[List.take_length] at hm hall'
   have hmb:m<64 ^ 4:=Nat.lt_of_lt_of_le (hm▸numV_lt s.length _ rfl) (Nat.pow_le_pow_right (by decide) hs)
   have hmI:(m:Int)≤16777215:=by omega
   have hres:=hid (show R=(outsN m (6*s.length) (6*s.length / 8),decide (m % 2 ^ (6*s.length % 8)=0)) by
    rw[←hR'.out];unfold groupB;rw[if_pos hall'.out,hm])
   have hg0:=hid (show Gr w (w.iter S s.length) from Gr.alloc _ _)
   clear hm
   go_wp2
   clear hnx
   obtain⟨w1,hw1⟩:∃ w1,w.iter S s.length=w1:=⟨_,rfl⟩
   rw[hw1] at hg0 ⊢
   clear hw1
   obtain⟨N,hN⟩:∃ N,6*s.length=N:=⟨_,rfl⟩
   rw[hN] at hres
   have hN':=hid hN
   have hNI:6*(s.length:Int)=N:=by omega
   have hN24:N≤24:=by omega
   clear hN
   rw[hNI]
   clear hNI
   go_loopw [5,10] (fun n o wx=>∃ j:Nat,8*j≤N∧n=.int .i64 ((N:Int) - 8 - 8*j)∧o=.string ⟨(outsN m N j).toArray⟩∧(outsN m N j).length=j∧Gr w wx) (fun n _ _=>(intOf n+8).toNat)
   case atStart=>exact⟨0,by omega,by simp,rfl,rfl,hg0.out⟩
   case round =>
    obtain⟨j,hj,rfl,rfl,hjl,hg⟩:=hrel
    have hg':=hid hg
    have hjl':=hid hjl
    have hj3:(outsN m N j).length≤24:=by omega
    clear hg hjl
    obtain⟨o,ho⟩:∃ o,outsN m N j=o:=⟨_,rfl⟩
    rw[ho] at hj3 ⊢
    have ho':=hid ho
    clear ho
    by_cases hq:8*(j+1)≤N
    ·obtain⟨q,hqd⟩:∃ q,N - 8*(j+1)=q:=⟨_,rfl⟩
     have hzI:(N:Int) - 8 - 8*j=q:=by omega
     rw[hzI]
     have hq24:(q:Int)≤24:=by omega
     obtain⟨d,hd⟩:∃ d,UInt8.ofNat (m / 2 ^ q)=d:=⟨_,rfl⟩
     have hdI:(m:Int) / 2 ^ q % 256=(d.toNat:Int):=by
      rw[←hd,UInt8.toNat_ofNat',Int.natCast_emod,Int.natCast_ediv]
      simp
     have hon:=hid (show outsN m N (j+1)=o++[d] by rw[outsN,ho'.out,hqd,hd])
     have hcat:(⟨o.toArray⟩:ByteArray)++⟨#[d]⟩=⟨(o++[d]).toArray⟩:=cat_mk o [d]
     have hcl:¬9223372036854775807<o.length+1:=by omega
     have hcv:∀ cap,(convert 100 9 (.slice (some ⟨wr.heap.size,0,none⟩) 1 cap)).run Tryz.prog (wr.alloc (.cells #[.int .u8 d.toNat] 5))=.ok (.string ⟨#[d]⟩) (wr.alloc (.cells #[.int .u8 d.toNat] 5)):=fun cap =>
      run_convert_bytes_back _ _ _ 5 ⟨wr.heap.size,0,none⟩ cap [d] Tryz.underlying100 Tryz.underlying5 Tryz.underlying9 (fun j hj=>by
       obtain rfl:j=0:=by simpa using hj
       simp[Addr.add,go_sem])
     have hzN:=hid (show (q:Int) - 8=(N:Int) - 8 - 8*((j+1:Nat):Int) by omega)
     clear hd hqd hzI
     go_wp2
     go_roundw
     case rel=>exact⟨j+1,hq,by rw[hzN.out],by rw[hon.out],by rw[hon.out,List.length_append,←ho'.out,hjl'.out];rfl,hg'.out.alloc1 _⟩
     case measure=>simp[intOf];omega
    ·have hneg:(N:Int) - 8 - 8*j<0:=by omega
     obtain⟨z,hz⟩:∃ z:Int,(N:Int) - 8 - 8*j=z:=⟨_,rfl⟩
     rw[hz] at hneg ⊢
     have hz8:-8≤z:=by omega
     have hres2:=hid (show R=(o,decide (m % 2 ^ (N % 8)=0)) by
      rw[hres.out,←ho'.out,show N / 8=j by omega])
     haveI hne:∀ W,Nonempty (Later (Gr W)):=fun W=>⟨⟨_,Gr.refl W⟩⟩
     have hs5:=hN'.out
     have hcase:N=0∨N=6∨N=12∨N=18∨N=24:=by omega
     clear hz hs5 hq
     rcases hcase with rfl | rfl | rfl | rfl | rfl
     ·obtain⟨f,hf⟩:∃ f,decide (m % 1=0)=f:=⟨_,rfl⟩
      have hand:bits .and .i64 (m:Int) 0=((m % 1:Nat):Int):=i64_low (k:=0) (by omega) (by omega)
      have heq:=hid (show true=f by rw[←hf,Bool.eq_iff_iff];simp;omega)
      have hfin:=hid (show R=(o,f) by rw[hres2.out,←hf])
      clear hf
      go_wp2
      refine wp_region_later (C:=Gr _) (by kernel_rfl) (by kernel_rfl) (Gr.drew' _) ?_
      repeat (go_big_quiet_step (fail))
      refine wpQuiet_nil ?_
      intro w9 hg9
      go_wp2
      go_ret2
      refine⟨?_,hg'.out.trans hg9⟩
      rw[hfin.out]
      unfold grV
      rw[←heq.out];rfl
     ·obtain⟨f,hf⟩:∃ f,decide (m % 64=0)=f:=⟨_,rfl⟩
      have hand:bits .and .i64 (m:Int) 63=((m % 64:Nat):Int):=i64_low (k:=6) (by omega) (by omega)
      have heq:=hid (show ((m:Int) % 64==0)=f by rw[←hf,Bool.eq_iff_iff];simp;omega)
      have hfin:=hid (show R=(o,f) by rw[hres2.out,←hf])
      clear hf
      go_wp2
      refine wp_region_later (C:=Gr _) (by kernel_rfl) (by kernel_rfl) (Gr.drew' _) ?_
      repeat (go_big_quiet_step (fail))
      refine wpQuiet_nil ?_
      intro w9 hg9
      go_wp2
      go_ret2
      refine⟨?_,hg'.out.trans hg9⟩
      rw[hfin.out]
      unfold grV
      rw[←heq.out];rfl
     ·obtain⟨f,hf⟩:∃ f,decide (m % 16=0)=f:=⟨_,rfl⟩
      have hand:bits .and .i64 (m:Int) 15=((m % 16:Nat):Int):=i64_low (k:=4) (by omega) (by omega)
      have heq:=hid (show ((m:Int) % 16==0)=f by rw[←hf,Bool.eq_iff_iff];simp;omega)
      have hfin:=hid (show R=(o,f) by rw[hres2.out,←hf])
      clear hf
      go_wp2
      refine wp_region_later (C:=Gr _) (by kernel_rfl) (by kernel_rfl) (Gr.drew' _) ?_
      repeat (go_big_quiet_step (fail))
      refine wpQuiet_nil ?_
      intro w9 hg9
      go_wp2
      go_ret2
      refine⟨?_,hg'.out.trans hg9⟩
      rw[hfin.out]
      unfold grV
      rw[←heq.out];rfl
     ·obtain⟨f,hf⟩:∃ f,decide (m % 4=0)=f:=⟨_,rfl⟩
      have hand:bits .and .i64 (m:Int) 3=((m % 4:Nat):Int):=i64_low (k:=2) (by omega) (by omega)
      have heq:=hid (show ((m:Int) % 4==0)=f by rw[←hf,Bool.eq_iff_iff];simp;omega)
      have hfin:=hid (show R=(o,f) by rw[hres2.out,←hf])
      clear hf
      go_wp2
      refine wp_region_later (C:=Gr _) (by kernel_rfl) (by kernel_rfl) (Gr.drew' _) ?_
      repeat (go_big_quiet_step (fail))
      refine wpQuiet_nil ?_
      intro w9 hg9
      go_wp2
      go_ret2
      refine⟨?_,hg'.out.trans hg9⟩
      rw[hfin.out]
      unfold grV
      rw[←heq.out];rfl
     ·obtain⟨f,hf⟩:∃ f,decide (m % 1=0)=f:=⟨_,rfl⟩
      have hand:bits .and .i64 (m:Int) 0=((m % 1:Nat):Int):=i64_low (k:=0) (by omega) (by omega)
      have heq:=hid (show true=f by rw[←hf,Bool.eq_iff_iff];simp;omega)
      have hfin:=hid (show R=(o,f) by rw[hres2.out,←hf])
      clear hf
      go_wp2
      refine wp_region_later (C:=Gr _) (by kernel_rfl) (by kernel_rfl) (Gr.drew' _) ?_
      repeat (go_big_quiet_step (fail))
      refine wpQuiet_nil ?_
      intro w9 hg9
      go_wp2
      go_ret2
      refine⟨?_,hg'.out.trans hg9⟩
      rw[hfin.out]
      unfold grV
      rw[←heq.out];rfl
theorem Bld.gr {B b:Nat} {bs:List Value} {W W':World} (h:Bld B b bs W) (hg:Gr W W') (_hb:B≤W.heap.size):Bld B b bs W':=by
 have key:∀ p,Lib.BuilderAt 147 5 B b p bs W→Lib.BuilderAt 147 5 B b p bs W':=fun p h=>by
  obtain⟨hB,v,hbk,hown,hne⟩:=h
  have hlt:b<W.heap.size:=by
   rcases Nat.lt_or_ge b W.heap.size with h' | h'
   ·exact h'
   ·simp[Array.getElem?_eq_none h'] at hbk
  refine⟨hB,v,(Below.block hg b hlt).trans hbk,⟨hown.1,?_⟩,hne⟩
  rcases hown.2 with h2 | ⟨g,cap,cur,rfl,hb,hh,hn2,hm,hcs,ht⟩
  ·exact .inl h2
  ·exact .inr ⟨g,cap,cur,rfl,hb,(Below.block hg g (Array.getElem?_eq_some_iff.1 hh).1).trans hh,hn2,hm,hcs,ht⟩
 exact h.imp (key _) (key _)
theorem group_is {s o:List UInt8} {f:Bool} (h:groupB s=(o,f)) (hs:s.length≤4) (w:World):Calls Tryz.prog 171 #[.string ⟨s.toArray⟩] w fun e w'=>e=.returned (.tuple #[.string ⟨o.toArray⟩,.bool f])∧Gr w w':=by
 have:=group_any s hs w;rw[h] at this;exact this
theorem trim_is (s:List UInt8) (hs:s.length≤4) (w:World):Calls Tryz.prog 170 #[.string ⟨s.toArray⟩,.string ⟨#[61]⟩] w fun e w'=>e=.returned (.string ⟨(Lib.trimSuffix s [61]).toArray⟩)∧w=w' :=
 (Tryz.strings_TrimSuffix ⟨s.toArray⟩ ⟨#[61]⟩ w (by rw[size_mk];omega)).mono fun _ _ ⟨h1,h2⟩=>⟨h1,h2.symm⟩
def dcV:Option (List UInt8)→Value
 | none=>.tuple #[.string ⟨#[]⟩,.bool false]
 | some t=>.tuple #[.string ⟨t.toArray⟩,.bool true]
theorem decode_any (s:List UInt8) (hs:s.length≤1000000) (w:World):Calls Tryz.prog 139 #[.string ⟨s.toArray⟩] w fun e w'=>e=.returned (dcV (decL s))∧Gr w w':=by
 obtain⟨R,hR⟩:∃ R,decL s=R:=⟨_,rfl⟩
 rw[hR]
 have hsI:(s.length:Int)≤1000000:=by omega
 by_cases h4:s.length % 4=0
 ·have hR':=hid (show (decD s).map (([]:List UInt8)++·)=R by
   rw[←hR];unfold decL;rw[if_pos h4]
   show (decD s).map _=decD s
   cases decD s <;> simp)
  have h4I:((s.length:Int) % 4 != 0)=false:=by rw[bne_eq_false_iff_eq];omega
  have h4T:((s.length:Int).tmod 4 != 0)=false:=by rw[Int.tmod_eq_emod_of_nonneg (by omega)];exact h4I
  clear hR
  go_enter Tryz.func139,Tryz.ntmps139
  go_wp2
  obtain⟨b,hb⟩:∃ b,w.heap.size=b:=⟨_,rfl⟩
  have hB:=hid hb
  have h0:=hid (show Bld b b (Lib.byteCells []) (w.alloc (.cells #[.pointer none,.slice none 0 0] 147)) from hb▸Lib.fresh_isBuilder _ _ w)
  have g0:=hid (Gr.alloc w (.cells #[.pointer none,.slice none 0 0] 147))
  rw[hb]
  clear hb h4I h4T
  go_loopw [0] (fun a wr=>∃ (rest out:List UInt8),a=.string ⟨rest.toArray⟩∧out.length+rest.length≤1000000∧rest.length % 4=0∧(decD rest).map (out++·)=R∧Bld b b (Lib.byteCells out) wr∧Gr w wr) (fun a _=>lenD a)
  case atStart=>exact⟨s,[],rfl,by simpa using hs,h4,hR'.out,h0.out,g0.out⟩
  case round =>
   obtain⟨rest,out,rfl,hrl,hr4,hout,hbl,hg⟩:=hrel
   have hout':=hid hout
   have hbl':=hid hbl
   have hg':=hid hg
   have hr4':=hid hr4
   have hbs:=hid (show b≤wr.heap.size by have:=Below.size hg;have:=hB.out;omega)
   clear hout hbl hg hr4
   by_cases hr0:0<rest.length
   ·have hr0I:(0:Int)<rest.length:=by omega
    have hr4I:(4:Int)≤rest.length:=by have:=hr4'.out;omega
    have hx1:(⟨rest.toArray⟩:ByteArray).extract 0 4=⟨(rest.take 4).toArray⟩:=by rw[extract_mk];simp
    have hx2:(⟨rest.toArray⟩:ByteArray).extract 4 rest.length=⟨(rest.drop 4).toArray⟩:=by rw[extract_mk];simp
    have hstep:=hid (decD_step hr0)
    have hlg:=hid (lastG_len rest)
    have hlgd:=hid (show lastG rest=if (rest.drop 4).isEmpty then trimE (rest.take 4) else rest.take 4 from rfl)
    have htk:=hid (show (rest.take 4).length≤4 by rw[List.length_take];omega)
    have hdl:=hid (show (rest.drop 4).length+4=rest.length by rw[List.length_drop];omega)
    obtain⟨ra,hra⟩:∃ l,rest.take 4=l:=⟨_,rfl⟩
    obtain⟨rb,hrb⟩:∃ l,rest.drop 4=l:=⟨_,rfl⟩
    obtain⟨g,hgd⟩:∃ l,lastG rest=l:=⟨_,rfl⟩
    rw[hra] at hx1 hlgd htk
    rw[hrb] at hx2 hstep hlgd hdl
    rw[hgd] at hstep hlg hlgd
    obtain⟨⟨o,f⟩,hgr⟩:∃ x,groupB g=x:=⟨_,rfl⟩
    have hol:=hid (show o.length≤3 by have:=group_len hlg.out;rw[hgr] at this;exact this)
    rw[hgr] at hstep
    dsimp only at hstep
    have hgrp:=hid (fun W=>group_is hgr hlg.out W)
    have hrl':=hid hrl
    have hws:=hid (fun W (H:Bld b b (Lib.byteCells out) W) hW=>writeString_any b b (Lib.byteCells out) ⟨o.toArray⟩ W H (by have:=hol.out;have:=hrl'.out;rw[byteCells_len,size_mk];omega) hW)
    clear hra hrb hgd hgr
    cases hre:rb.isEmpty
    ·rw[hre] at hlgd
     obtain rfl:g=ra:=hlgd.out
     go_wp2_with fail
     refine (hgrp.out _).mono ?_
     rintro e w2 ⟨rfl,hg2⟩
     have hb2:=hid (Bld.gr hbl'.out hg2 hbs.out)
     have hg2':=hid (hg'.out.trans hg2)
     have hbs2:=hid (show b≤w2.heap.size by have:=Below.size hg2;have:=hbs.out;omega)
     clear hg2
     cases f
     ·have hfin:=hid (show R=none by rw[←hout'.out,hstep.out];rfl)
      go_wp2
      go_ret2
      exact⟨by rw[hfin.out];rfl,hg2'.out⟩
     ·have hnext:=hid (show (decD rb).map ((out++o)++·)=R by
       rw[←hout'.out,hstep.out,if_pos rfl]
       cases decD rb <;> simp)
      go_wp2_with fail
      refine (hws.out _ hb2.out hbs2.out).mono ?_
      rintro e w3 ⟨rfl,hb3,hg3⟩
      have hb3':=hid (show Bld b b (Lib.byteCells (out++o)) w3 by
       have e:Lib.byteCells out++Lib.strCells ⟨o.toArray⟩=Lib.byteCells (out++o):=by simp[Lib.byteCells,Lib.strCells]
       rw[e] at hb3;exact hb3)
      have hg3':=hid (Below.trans hg2'.out (hB.out▸hg3))
      clear hb3 hg3
      go_wp2
      go_roundw
      case rel=>exact⟨rb,out++o,rfl,by have:=hdl.out;have:=hol.out;rw[List.length_append];omega,by have:=hdl.out;have:=hr4'.out;omega,hnext.out,hb3'.out,hg3'.out⟩
      case measure=>(show (⟨rb.toArray⟩:ByteArray).size<(⟨rest.toArray⟩:ByteArray).size);rw[size_mk,size_mk];have:=hdl.out;omega
    ·rw[hre] at hlgd
     obtain rfl:rb=[]:=List.isEmpty_iff.1 hre
     have hgt:g=Lib.trimSuffix (Lib.trimSuffix ra [61]) [61]:=hlgd.out
     have htr1:=hid (fun W=>trim_is ra htk.out W)
     have htr2:=hid (fun W=>trim_is (Lib.trimSuffix ra [61]) (by have:=htk.out;unfold Lib.trimSuffix;split;(rw[List.length_take];omega);omega) W)
     obtain⟨ga,hga⟩:∃ l,Lib.trimSuffix ra [61]=l:=⟨_,rfl⟩
     rw[hga] at htr1 htr2 hgt
     rw[←hgt] at htr2
     clear hga hgt hlgd hre
     go_wp2_with fail
     refine (htr1.out _).mono ?_
     rintro e w1 ⟨rfl,rfl⟩
     go_wp2_with fail
     refine (htr2.out _).mono ?_
     rintro e w1 ⟨rfl,rfl⟩
     go_wp2_with fail
     refine (hgrp.out _).mono ?_
     rintro e w2 ⟨rfl,hg2⟩
     have hb2:=hid (Bld.gr hbl'.out hg2 hbs.out)
     have hg2':=hid (hg'.out.trans hg2)
     have hbs2:=hid (show b≤w2.heap.size by have:=Below.size hg2;have:=hbs.out;omega)
     clear hg2
     cases f
     ·have hfin:=hid (show R=none by rw[←hout'.out,hstep.out];rfl)
      go_wp2
      go_ret2
      exact⟨by rw[hfin.out];rfl,hg2'.out⟩
     ·have hnext:=hid (show (decD ([]:List UInt8)).map ((out++o)++·)=R by
       rw[←hout'.out,hstep.out,if_pos rfl]
       cases decD ([]:List UInt8) <;> simp)
      go_wp2_with fail
      refine (hws.out _ hb2.out hbs2.out).mono ?_
      rintro e w3 ⟨rfl,hb3,hg3⟩
      have hb3':=hid (show Bld b b (Lib.byteCells (out++o)) w3 by
       have e:Lib.byteCells out++Lib.strCells ⟨o.toArray⟩=Lib.byteCells (out++o):=by simp[Lib.byteCells,Lib.strCells]
       rw[e] at hb3;exact hb3)
      have hg3':=hid (Below.trans hg2'.out (hB.out▸hg3))
      clear hb3 hg3
      go_wp2
      go_roundw
      case rel=>exact⟨([]:List UInt8),out++o,rfl,by have:=hdl.out;have:=hol.out;rw[List.length_append];simp only[List.length_nil] at *;omega,rfl,hnext.out,hb3'.out,hg3'.out⟩
      case measure=>(show 0<(⟨rest.toArray⟩:ByteArray).size);rw[size_mk];exact hr0
   ·have hr1:rest=[]:=List.eq_nil_of_length_eq_zero (by omega)
    subst hr1
    have hfin:=hid (show R=some out by rw[←hout'.out,decD_nil];simp)
    go_wp2_with fail
    refine (Tryz.Builder_String_any b b out wr hbl'.out hbs.out).mono ?_
    rintro e w3 ⟨rfl,hg3⟩
    have hg3':=hid (Below.trans hg'.out (hB.out▸hg3))
    clear hg3
    go_wp2
    go_ret2
    exact⟨by rw[hfin.out];rfl,hg3'.out⟩
 ·have h4I:((s.length:Int) % 4 != 0)=true:=by rw[bne_iff_ne];omega
  have h4T:((s.length:Int).tmod 4 != 0)=true:=by rw[Int.tmod_eq_emod_of_nonneg (by omega)];exact h4I
  have hR':=hid (show R=none by rw[←hR];unfold decL;rw[if_neg h4])
  clear hR h4
  go_enter Tryz.func139,Tryz.ntmps139
  go_wp2
  go_ret2
  exact⟨by rw[hR'.out];rfl,Gr.refl _⟩
def Short (fs:List Fl):Prop:=fs.length≤1000000∧∀ f∈fs,f.1.length≤800000∧f.2.length≤800000
theorem getB_short {fs:List Fl} (h:Short fs) (name:List UInt8):(getB fs name).1.length≤800000∧(getB fs name).2≤1000000:=by
 refine⟨?_,Nat.le_trans (getB_le fs name) h.1⟩
 unfold getB
 cases hq:(fs.filter fun f=>alikeB f.1 name) with
 | nil=>simp
 | cons f t =>
  have hm:f∈fs.filter fun f=>alikeB f.1 name:=by rw[hq];exact List.mem_cons_self ..
  simpa using (h.2 f (List.mem_filter.1 hm).1).2
theorem one_any (v:Value) (fs:List Fl) (name:List UInt8) (w:World) (hG:G w) (hf:FieldsAt w v fs) (hs:Short fs) (hln:name.length≤1000) :
  Calls Tryz.prog 138 #[v,.string ⟨name.toArray⟩] w fun e w'=>e=.returned (.tuple #[.string ⟨(oneB fs name).1.toArray⟩,.bool (oneB fs name).2])∧Gr w w':=by
 obtain⟨⟨x,n⟩,hx⟩:∃ x,getB fs name=x:=⟨_,rfl⟩
 have hn:=(getB_short hs name).2
 rw[hx] at hn
 dsimp only at hn
 have hget:=hid (get_any v fs name w hG hf (by have:=hs.1;omega) (fun f hf=>by have:=(hs.2 f hf).1;omega) (by omega))
 rw[hx] at hget
 have hb:((n:Int)==1)=(n==1):=by rw[Bool.eq_iff_iff];simp;omega
 have hH:=hid (show oneB fs name=(x,n==1) by unfold oneB;rw[hx])
 rw[hH.out]
 obtain⟨f,hfd⟩:∃ f,(n==1)=f:=⟨_,rfl⟩
 rw[hfd] at hb ⊢
 clear hx hfd
 obtain⟨p,cap,rfl,_⟩:=hf
 go_enter Tryz.func138,Tryz.ntmps138
 go_wp2_with fail
 refine hget.out.mono ?_
 rintro e w1 ⟨rfl,hg⟩
 go_wp2
 go_ret2
 exact⟨rfl,hg⟩
theorem asks_any (v:Value) (fs:List Fl) (name word:List UInt8) (w:World) (hG:G w) (hf:FieldsAt w v fs) (hs:Short fs) (hln:name.length≤1000) (hlw:word.length≤1000) :
  Calls Tryz.prog 140 #[v,.string ⟨name.toArray⟩,.string ⟨word.toArray⟩] w fun e w'=>e=.returned (.bool (asksB fs name word))∧Gr w w':=by
 have hs':=hid hs
 have hG':=hid hG
 have hfl:(fs.length:Int)≤1000000:=by have:=hs.1;omega
 obtain⟨p,cap,rfl,hc⟩:=hf
 have hc':=hid hc
 obtain⟨R,hR⟩:∃ R,asksB fs name word=R:=⟨_,rfl⟩
 rw[hR]
 have hR':=hid hR
 clear hc hs hG hR
 go_enter Tryz.func140,Tryz.ntmps140
 go_wp2
 go_loopw [11] (fun i wr=>(∃ k:Nat,k≤fs.length∧i=.int .i64 k∧asksB (fs.take k) name word=false)∧Gr w wr) (fun i _=>fs.length - (intOf i).toNat)
 case atStart=>exact⟨⟨0,Nat.zero_le _,rfl,rfl⟩,Gr.refl _⟩
 case round =>
  obtain⟨⟨k,hk,rfl,ha0⟩,hg⟩:=hrel
  have ha0':=hid ha0
  clear ha0
  by_cases hlt:k<fs.length
  ·obtain⟨b,off,rfl,h1,h2⟩:=hc'.out k hlt
   have c1:=hg.cell h1
   have c2:=hg.cell h2
   have hg':=hid (hg.trans (Gr.alloc wr (.cells #[.string ⟨fs[k].1.toArray⟩,.string ⟨fs[k].2.toArray⟩] 80)))
   have hts:=hid (List.take_succ_eq_append_getElem hlt)
   obtain⟨f,hfd⟩:∃ f,fs[k]=f:=⟨_,rfl⟩
   have hmem:f∈fs:=hfd▸List.getElem_mem hlt
   obtain⟨hf1,hf2⟩:=hs'.out.2 f hmem
   rw[hfd] at c1 c2 hts hg'
   have hany:=hid (show (alikeB f.1 name&&hasB f.2 word)=true→R=true from fun h=>by
    rw[←hR'.out];unfold asksB;exact List.any_eq_true.2 ⟨f,hmem,h⟩)
   have hkI:(k:Int)<fs.length:=by omega
   clear hfd h1 h2 hg hmem
   have hal:=hid (fun W h=>alike_any f.1 name W h (by omega) (by omega))
   have hha:=hid (fun W h=>has_any f.2 word W h (by omega) (by omega))
   cases ha:alikeB f.1 name
   ·rw[ha] at hal
    have hn:=hid (show asksB (fs.take (k+1)) name word=false by rw[hts.out];unfold asksB;rw[List.any_append];have:=ha0'.out;unfold asksB at this;rw[this];simp[ha])
    clear ha
    go_wp2_with fail
    refine (hal.out _ (hG'.out.gr hg'.out)).mono ?_
    rintro e w2 ⟨rfl,hb⟩
    have hg2:=hid (hg'.out.trans hb)
    clear hb
    go_wp2
    go_roundw
    case rel=>exact⟨⟨k+1,by omega,by go_num,hn.out⟩,hg2.out⟩
    case measure=>simp[intOf];omega
   ·rw[ha] at hal
    cases hh:hasB f.2 word
    ·rw[hh] at hha
     have hn:=hid (show asksB (fs.take (k+1)) name word=false by rw[hts.out];unfold asksB;rw[List.any_append];have:=ha0'.out;unfold asksB at this;rw[this];simp[ha,hh])
     clear ha hh
     have q1:(wr.alloc (.cells #[.string ⟨f.1.toArray⟩,.string ⟨f.2.toArray⟩] 80)).cell? ⟨wr.heap.size,1,none⟩=some (.string ⟨f.2.toArray⟩):=by simp[go_sem]
     go_wp2_with fail
     refine (hal.out _ (hG'.out.gr hg'.out)).mono ?_
     rintro e w2 ⟨rfl,hb⟩
     have hg2:=hid (hg'.out.trans hb)
     replace q1:=hb.cell q1
     clear hb
     go_wp2_with fail
     refine (hha.out _ (hG'.out.gr hg2.out)).mono ?_
     rintro e w3 ⟨rfl,hb⟩
     have hg3:=hid (hg2.out.trans hb)
     clear hb q1
     go_wp2
     go_roundw
     case rel=>exact⟨⟨k+1,by omega,by go_num,hn.out⟩,hg3.out⟩
     case measure=>simp[intOf];omega
    ·rw[hh] at hha
     have hfin:=hid (hany.out (by rw[ha,hh];rfl))
     clear ha hh
     have q1:(wr.alloc (.cells #[.string ⟨f.1.toArray⟩,.string ⟨f.2.toArray⟩] 80)).cell? ⟨wr.heap.size,1,none⟩=some (.string ⟨f.2.toArray⟩):=by simp[go_sem]
     go_wp2_with fail
     refine (hal.out _ (hG'.out.gr hg'.out)).mono ?_
     rintro e w2 ⟨rfl,hb⟩
     have hg2:=hid (hg'.out.trans hb)
     replace q1:=hb.cell q1
     clear hb
     go_wp2_with fail
     refine (hha.out _ (hG'.out.gr hg2.out)).mono ?_
     rintro e w3 ⟨rfl,hb⟩
     have hg3:=hid (hg2.out.trans hb)
     clear hb q1
     go_wp2
     go_ret
     exact⟨by rw[hfin.out];rfl,hg3.out⟩
  ·have hkI:¬(k:Int)<fs.length:=by omega
   have hfin:=hid (show R=false by rw[←hR'.out,←ha0'.out,List.take_of_length_le (by omega)])
   go_wp2
   go_ret
   exact⟨by rw[hfin.out];rfl,hg⟩
theorem decode_is {s:List UInt8} {x:Option (List UInt8)} (h:decL s=x) (hs:s.length≤1000000) (w:World):Calls Tryz.prog 139 #[.string ⟨s.toArray⟩] w fun e w'=>e=.returned (dcV x)∧Gr w w':=h▸decode_any s hs w
def ckV (x:List UInt8×Nat):Value:=.tuple #[.string ⟨x.1.toArray⟩,.int .i64 x.2]
theorem check_any (r:Rq) (t:Value) (w:World) (hG:G w) (hf:FieldsAt w t r.fs) (hs:Short r.fs) :
  Calls Tryz.prog 112 #[r.V t] w fun e w'=>e=.returned (ckV (checkB r))∧Gr w w':=by
 obtain⟨R,hR⟩:∃ R,checkB r=R:=⟨_,rfl⟩
 rw[hR]
 obtain⟨⟨hv,h1⟩,hx1⟩:∃ x,oneB r.fs kHost=x:=⟨_,rfl⟩
 obtain⟨⟨kv,k1⟩,hx2⟩:∃ x,oneB r.fs kKey=x:=⟨_,rfl⟩
 obtain⟨⟨vv,v1⟩,hx3⟩:∃ x,oneB r.fs kVer=x:=⟨_,rfl⟩
 obtain⟨d,hd⟩:∃ d,decL kv=d:=⟨_,rfl⟩
 have hkl:kv.length≤800000:=by have:=(getB_short hs kKey).1;have e:(oneB r.fs kKey).1=(getB r.fs kKey).1:=rfl;rw[hx2] at e;dsimp only at e;rw[e];exact this
 have hR':=hid (show R=if (r.m != kGET||(r.v != 11||(!h1||(!k1||!v1)))) then ([],400)
   else if (!asksB r.fs kUpg kWs||!asksB r.fs kConn kupg) then ([],400)
   else match d with
    | none=>([],400)
    | some t=>if t.length≠16 then ([],400) else if vv≠k13 then ([],426) else (acceptL kv,101) by
  rw[←hR];unfold checkB;rw[hx1,hx2,hx3];dsimp only;rw[hd];rfl)
 have o1:=hid (fun W (hg:Gr w W)=>one_any t r.fs kHost W (hG.gr hg) (hf.gr hg) hs (by decide))
 have o2:=hid (fun W (hg:Gr w W)=>one_any t r.fs kKey W (hG.gr hg) (hf.gr hg) hs (by decide))
 have o3:=hid (fun W (hg:Gr w W)=>one_any t r.fs kVer W (hG.gr hg) (hf.gr hg) hs (by decide))
 rw[hx1] at o1
 rw[hx2] at o2
 rw[hx3] at o3
 have od:=hid (fun W=>decode_is hd (by omega) W)
 have a1:=hid (fun W (hg:Gr w W)=>asks_any t r.fs kUpg kWs W (hG.gr hg) (hf.gr hg) hs (by decide) (by decide))
 have a2:=hid (fun W (hg:Gr w W)=>asks_any t r.fs kConn kupg W (hG.gr hg) (hf.gr hg) hs (by decide) (by decide))
 have oa:=hid (fun W=>accept_any kv hkl W)
 obtain⟨y1,hy1⟩:∃ y,asksB r.fs kUpg kWs=y:=⟨_,rfl⟩
 obtain⟨y2,hy2⟩:∃ y,asksB r.fs kConn kupg=y:=⟨_,rfl⟩
 rw[hy1] at a1
 rw[hy2] at a2
 rw[hy1,hy2] at hR'
 obtain⟨p,cap,ht,_⟩:=hf
 subst ht
 clear hR hx1 hx2 hx3 hd hG hs hy1 hy2 hkl
 unfold Rq.V
 obtain⟨m,pp,q,ver,fs,bd,cl⟩:=r
 dsimp only at hR' o1 o2 o3 a1 a2 ⊢
 go_enter Tryz.func112,Tryz.ntmps112
 go_wp2_with fail
 have g0:=hid (Gr.alloc w (.cells #[.string ⟨m.toArray⟩,.string ⟨pp.toArray⟩,.string ⟨q.toArray⟩,.int .i64 ver,.slice p fs.length cap,.string ⟨bd.toArray⟩,.bool cl] 78))
 have q0:(w.alloc (.cells #[.string ⟨m.toArray⟩,.string ⟨pp.toArray⟩,.string ⟨q.toArray⟩,.int .i64 ver,.slice p fs.length cap,.string ⟨bd.toArray⟩,.bool cl] 78)).cell? ⟨w.heap.size,0,none⟩=some (.string ⟨m.toArray⟩):=by simp[go_sem]
 have q3:(w.alloc (.cells #[.string ⟨m.toArray⟩,.string ⟨pp.toArray⟩,.string ⟨q.toArray⟩,.int .i64 ver,.slice p fs.length cap,.string ⟨bd.toArray⟩,.bool cl] 78)).cell? ⟨w.heap.size,3,none⟩=some (.int .i64 ver):=by simp[go_sem]
 have q4:(w.alloc (.cells #[.string ⟨m.toArray⟩,.string ⟨pp.toArray⟩,.string ⟨q.toArray⟩,.int .i64 ver,.slice p fs.length cap,.string ⟨bd.toArray⟩,.bool cl] 78)).cell? ⟨w.heap.size,4,none⟩=some (.slice p fs.length cap):=by simp[go_sem]
 refine (o1.out _ g0.out).mono ?_
 rintro e w1 ⟨rfl,hb⟩
 have g1:=hid (g0.out.trans hb)
 replace q0:=hb.cell q0
 replace q3:=hb.cell q3
 replace q4:=hb.cell q4
 clear hb
 go_wp2_with fail
 refine (o2.out _ g1.out).mono ?_
 rintro e w2 ⟨rfl,hb⟩
 have g2:=hid (g1.out.trans hb)
 replace q0:=hb.cell q0
 replace q3:=hb.cell q3
 replace q4:=hb.cell q4
 clear hb
 go_wp2_with fail
 refine (o3.out _ g2.out).mono ?_
 rintro e w3 ⟨rfl,hb⟩
 have g3:=hid (g2.out.trans hb)
 replace q0:=hb.cell q0
 replace q3:=hb.cell q3
 replace q4:=hb.cell q4
 clear hb
 go_wp2_with fail
 refine (od.out _).mono ?_
 rintro e w4 ⟨rfl,hb⟩
 have g4:=hid (g3.out.trans hb)
 replace q0:=hb.cell q0
 replace q3:=hb.cell q3
 replace q4:=hb.cell q4
 clear hb
 obtain⟨dt,db,hdv,hds⟩:∃ (dt:List UInt8) (db:Bool),dcV d=.tuple #[.string ⟨dt.toArray⟩,.bool db]∧((db=false∧d=none)∨(db=true∧d=some dt)):=by
  cases d with
  | none=>exact⟨[],false,rfl,.inl ⟨rfl,rfl⟩⟩
  | some x=>exact⟨x,true,rfl,.inr ⟨rfl,rfl⟩⟩
 rw[hdv]
 have hds':=hid hds
 clear hdv hds
 cases hc1:(m != kGET)
 ·have e1:(m==[71,69,84])=true:=by have:=hc1;simpa[kGET] using this
  cases hc2:(ver != 11)
  ·cases h1 with
   | false =>
    have hfin:=hid (show R=([],400) by rw[hR'.out];simp[hc1,hc2])
    go_wp2
    go_ret2
    exact⟨by rw[hfin.out];rfl,g4.out⟩
   | true =>
    cases k1 with
    | false =>
     have hfin:=hid (show R=([],400) by rw[hR'.out];simp[hc1,hc2])
     go_wp2
     go_ret2
     exact⟨by rw[hfin.out];rfl,g4.out⟩
    | true =>
     cases v1 with
     | false =>
      have hfin:=hid (show R=([],400) by rw[hR'.out];simp[hc1,hc2])
      go_wp2
      go_ret2
      exact⟨by rw[hfin.out];rfl,g4.out⟩
     | true =>
      cases y1 with
      | false =>
       have hfin:=hid (show R=([],400) by rw[hR'.out];simp[hc1,hc2])
       go_wp2_with fail
       refine (a1.out _ g4.out).mono ?_
       rintro e w5 ⟨rfl,hb⟩
       have g5:=hid (g4.out.trans hb)
       replace q4:=hb.cell q4
       clear hb
       go_wp2
       go_ret2
       exact⟨by rw[hfin.out];rfl,g5.out⟩
      | true =>
       cases y2 with
       | false =>
        have hfin:=hid (show R=([],400) by rw[hR'.out];simp[hc1,hc2])
        go_wp2_with fail
        refine (a1.out _ g4.out).mono ?_
        rintro e w5 ⟨rfl,hb⟩
        have g5:=hid (g4.out.trans hb)
        replace q4:=hb.cell q4
        clear hb
        go_wp2_with fail
        refine (a2.out _ g5.out).mono ?_
        rintro e w6 ⟨rfl,hb⟩
        have g6:=hid (g5.out.trans hb)
        clear hb
        go_wp2
        go_ret2
        exact⟨by rw[hfin.out];rfl,g6.out⟩
       | true =>
        rcases hds'.out with⟨rfl,rfl⟩ | ⟨rfl,rfl⟩
        ·have hfin:=hid (show R=([],400) by rw[hR'.out];simp[hc1,hc2])
         go_wp2_with fail
         refine (a1.out _ g4.out).mono ?_
         rintro e w5 ⟨rfl,hb⟩
         have g5:=hid (g4.out.trans hb)
         replace q4:=hb.cell q4
         clear hb
         go_wp2_with fail
         refine (a2.out _ g5.out).mono ?_
         rintro e w6 ⟨rfl,hb⟩
         have g6:=hid (g5.out.trans hb)
         clear hb
         go_wp2
         go_ret2
         exact⟨by rw[hfin.out];rfl,g6.out⟩
        ·by_cases hl:dt.length=16
         ·have hlI:((dt.length:Int) != 16)=false:=by rw[bne_eq_false_iff_eq];omega
          cases hvv:(vv != k13)
          ·have e3:(vv==[49,51])=true:=by have:=hvv;simpa[k13] using this
           have hfin:=hid (show R=(acceptL kv,101) by rw[hR'.out];have:=hvv;simp at this;simp[hc1,hc2,hl,this])
           clear hl hvv
           go_wp2_with fail
           refine (a1.out _ g4.out).mono ?_
           rintro e w5 ⟨rfl,hb⟩
           have g5:=hid (g4.out.trans hb)
           replace q4:=hb.cell q4
           clear hb
           go_wp2_with fail
           refine (a2.out _ g5.out).mono ?_
           rintro e w6 ⟨rfl,hb⟩
           have g6:=hid (g5.out.trans hb)
           clear hb
           go_wp2_with fail
           refine (oa.out _).mono ?_
           rintro e w7 ⟨rfl,hb⟩
           have g7:=hid (g6.out.trans hb)
           clear hb
           go_wp2
           go_ret2
           exact⟨by rw[hfin.out];rfl,g7.out⟩
          ·have e3:(vv==[49,51])=false:=by have:=hvv;simpa[k13] using this
           have hfin:=hid (show R=([],426) by rw[hR'.out];have:=hvv;simp at this;simp[hc1,hc2,hl,this])
           clear hl hvv
           go_wp2_with fail
           refine (a1.out _ g4.out).mono ?_
           rintro e w5 ⟨rfl,hb⟩
           have g5:=hid (g4.out.trans hb)
           replace q4:=hb.cell q4
           clear hb
           go_wp2_with fail
           refine (a2.out _ g5.out).mono ?_
           rintro e w6 ⟨rfl,hb⟩
           have g6:=hid (g5.out.trans hb)
           clear hb
           go_wp2
           go_ret2
           exact⟨by rw[hfin.out];rfl,g6.out⟩
         ·have hlI:((dt.length:Int) != 16)=true:=by rw[bne_iff_ne];omega
          have hfin:=hid (show R=([],400) by rw[hR'.out];simp[hc1,hc2,hl])
          clear hl
          go_wp2_with fail
          refine (a1.out _ g4.out).mono ?_
          rintro e w5 ⟨rfl,hb⟩
          have g5:=hid (g4.out.trans hb)
          replace q4:=hb.cell q4
          clear hb
          go_wp2_with fail
          refine (a2.out _ g5.out).mono ?_
          rintro e w6 ⟨rfl,hb⟩
          have g6:=hid (g5.out.trans hb)
          clear hb
          go_wp2
          go_ret2
          exact⟨by rw[hfin.out];rfl,g6.out⟩
  ·have hfin:=hid (show R=([],400) by rw[hR'.out];simp[hc1,hc2])
   go_wp2
   go_ret2
   exact⟨by rw[hfin.out];rfl,g4.out⟩
 ·have e1:(m==[71,69,84])=false:=by have:=hc1;simpa[kGET] using this
  have hfin:=hid (show R=([],400) by rw[hR'.out];simp[hc1])
  go_wp2
  go_ret2
  exact⟨by rw[hfin.out];rfl,g4.out⟩
end Go.Proofs.YtadobobfjnmdlaaGreatDoor
