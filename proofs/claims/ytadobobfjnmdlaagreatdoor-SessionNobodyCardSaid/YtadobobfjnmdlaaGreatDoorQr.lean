/-
  A frame's data in memory: masked.
-/
import Derived.Test.YtadobobfjnmdlaaGreatDoorQp
import Derived.Lib.ConvBytes
import Derived.Deep.RegionHeld3
import Derived.BigRegion
set_option linter.unusedVariables false
set_option linter.unusedSimpArgs false
set_option maxHeartbeats 16000000
set_option maxRecDepth 100000
open Go.Lib (hid)
namespace Go.Proofs.YtadobobfjnmdlaaGreatDoor
open Go.RowKit Go.Shelf
attribute [local go_sem] Oper.semAt_some
def pt (h:Hd) (a:Nat) (s:List UInt8) (k j:Nat):UInt8:=if j<k then s.getD j 0^^^keyH h (a % 4+j) else s.getD j 0
theorem pt_all (h:Hd) (a:Nat) (s:List UInt8) (j:Nat) (hj:j<(maskH h a s).length):(maskH h a s)[j]=pt h a s s.length j:=by
 have hj':j<s.length:=by rwa [maskH_len] at hj
 unfold pt
 rw [if_pos hj']
 simp [maskH,List.getD_eq_getElem?_getD,List.getElem?_eq_getElem hj']
structure MkF (h:Hd) (a:Nat) (s:List UInt8) (kb R:Nat) (k:Nat) (W w:World):Prop where
 gr:Gr W w
 row:∀ j,j<s.length→w.cell? ⟨R,j,none⟩=some (.int .u8 (pt h a s k j).toNat)
 fz:∀ j,j<s.length→w.frozen? ⟨R,j,none⟩=false
 key:∀ i,i<4→w.cell? ⟨kb,i,none⟩=some (.int .u8 (keyH h i).toNat)
theorem keyH_mod (h:Hd) (i:Nat):keyH h (i % 4)=keyH h i:=by unfold keyH;simp
theorem conv_fz (w:World) (e:TypeId) (s:List UInt8) (j:Nat) (hj:j<s.length):(Lib.bytesWorld w e ⟨s.toArray⟩).frozen? ⟨w.heap.size,j,none⟩=false:=by
 have h:=Lib.bytesWorld_at_new w e ⟨s.toArray⟩
 have hz:s.length≤(Lib.bytesCells w e ⟨s.toArray⟩).size:=by simp [Lib.bytesCells]
 simp only [World.frozen?,h,Bool.and_eq_false_iff,decide_eq_false_iff_not]
 omega
theorem fmask_any (h:Hd) (a:Nat) (s:List UInt8) (W:World) (hs:s.length≤4611686018427387900) :
  Calls Tryz.prog 78 #[.agg #[.int .u8 h.k0.toNat,.int .u8 h.k1.toNat,.int .u8 h.k2.toNat,.int .u8 h.k3.toNat],.int .i64 a,.string ⟨s.toArray⟩] W fun e w'=>e=.returned (.string ⟨(maskH h a s).toArray⟩)∧Gr W w':=by
 have hcv:∀ W:World,(convert 9 100 (.string ⟨s.toArray⟩)).run Tryz.prog W=.ok (.slice (some ⟨W.heap.size,0,none⟩) (ByteArray.size ⟨s.toArray⟩) (grownCap W (ByteArray.size ⟨s.toArray⟩) 0 5)) (Lib.bytesWorld W 5 ⟨s.toArray⟩):=fun W =>
  Lib.run_convert_string_bytes W _ _ 5 _ Tryz.underlying9 Tryz.underlying100 Tryz.underlying5
 have ha0:¬(a:Int)<0:=by omega
 obtain ⟨W1,hW1⟩:∃ W1,W.alloc (.cells #[.int .u8 h.k0.toNat,.int .u8 h.k1.toNat,.int .u8 h.k2.toNat,.int .u8 h.k3.toNat] 54)=W1:=⟨_,rfl⟩
 have g1:Gr W W1:=hW1▸Gr.alloc _ _
 have hk1:∀ i,i<4→W1.cell? ⟨W.heap.size,i,none⟩=some (.int .u8 (keyH h i).toNat):=fun i hi=>by
  rw [←hW1]
  match i,hi with
  | 0,_=>exact cell_new7 _ _ _ 0 _ rfl
  | 1,_=>exact cell_new7 _ _ _ 1 _ rfl
  | 2,_=>exact cell_new7 _ _ _ 2 _ rfl
  | 3,_=>exact cell_new7 _ _ _ 3 _ rfl
 obtain ⟨W2,hW2⟩:∃ W2,Lib.bytesWorld W1 5 ⟨s.toArray⟩=W2:=⟨_,rfl⟩
 have g2:Gr W1 W2:=hW2▸Lib.bytesWorld_below W1 5 ⟨s.toArray⟩
 obtain ⟨cap,hcap⟩:∃ cap,grownCap W1 s.length 0 5=cap:=⟨_,rfl⟩
 have hst:=hid (show MkF h a s W.heap.size W1.heap.size 0 W W2 from ⟨g1.trans g2,fun j hj=>by
   rw [←hW2,Lib.bytesWorld_cell W1 _ _ j (by rw [size_mk];exact hj)]
   unfold pt
   rw [if_neg (Nat.not_lt_zero _)],fun j hj=>hW2▸conv_fz W1 _ s j hj,fun i hi=>g2.cell (hk1 i hi)⟩)
 have hRk:=hid (show W.heap.size≠W1.heap.size by rw [←hW1];simp)
 have hWR:=hid (Below.size g1)
 clear g1 g2 hk1
 go_enter Tryz.func78,Tryz.ntmps78
 go_wp2
 clear hcv hW1 hW2 hcap
 go_loopw [8,16] (fun _ i wr=>∃ k:Nat,k≤s.length∧i=.int .i64 k∧MkF h a s W.heap.size W1.heap.size k W wr) (fun _ i _=>s.length - (intOf i).toNat)
 case atStart=>exact ⟨0,Nat.zero_le _,rfl,hst.out⟩
 case round =>
  obtain ⟨k,hk,rfl,hM⟩:=hrel
  have hM':=hid hM
  by_cases hlt:k<s.length
  ·have r0:=hM.row k hlt
   have z0:=hM.fz k hlt
   obtain ⟨c,hc⟩:∃ c,pt h a s k k=c:=⟨_,rfl⟩
   rw [hc] at r0
   obtain ⟨q,hq⟩:∃ q,(a % 4+k) % 4=q:=⟨_,rfl⟩
   have hq4:q<4:=by omega
   have r1:=hM.key q hq4
   obtain ⟨kk,hkk⟩:∃ kk,keyH h q=kk:=⟨_,rfl⟩
   rw [hkk] at r1
   have hqI:((a:Int) % 4+k) % 4=q:=by omega
   have hkI:(k:Int)<s.length:=by omega
   have hx:bits .xor .u8 (c.toNat:Int) (kk.toNat:Int)=((c^^^kk).toNat:Int):=by
    rw [Go.u8_xor_nat c.toNat kk.toNat c.toNat_lt kk.toNat_lt,UInt8.toNat_xor]
   haveI:Nonempty (Later (Gr wr)):=⟨⟨wr,Gr.refl wr⟩⟩
   have t0:∀ y:Later (Gr wr),y.w.cell? ⟨W1.heap.size,k,none⟩=some (.int .u8 c.toNat):=fun y=>y.ok.cell r0
   have t1:∀ y:Later (Gr wr),y.w.cell? ⟨W.heap.size,q,none⟩=some (.int .u8 kk.toNat):=fun y=>y.ok.cell r1
   have hw1:IntKind.i64.wrap ((a:Int) % 4+k)=(a:Int) % 4+k:=IntWalk.i64_in _ (by omega)
   have hw0:((a:Int).tmod 4)=(a:Int) % 4:=Int.tmod_eq_emod_of_nonneg (by omega)
   have hw2:(((a:Int) % 4+k).tmod 4)=((a:Int) % 4+k) % 4:=Int.tmod_eq_emod_of_nonneg (by omega)
   have hc':=hid hc
   have hkk':=hid hkk
   have hq':=hid hq
   clear hM hc hkk hq
   go_upto_region 7 with (fail)
   refine wp_region_later_tail (C:=Gr wr) 13 (by kernel_rfl) (by kernel_rfl) (Gr.drew' _) ?_
   simp only [List.take_succ_cons,List.take_zero,List.drop_succ_cons,List.drop_zero]
   repeat (go_big_quiet_step (fail))
   refine wpQuiet_nil ?_
   intro w9 hg9
   have hR:W1.heap.size<wr.heap.size:=cell_lt r0
   have s0:=hg9.cell r0
   have sz:w9.frozen? ⟨W1.heap.size,k,none⟩=false:=(Below.frozen hg9 (p:=⟨W1.heap.size,k,none⟩) hR).trans z0
   have hg9':=hid hg9
   clear t0 t1 hg9 r0 r1 z0
   go_wp2
   go_round
   case rel =>
    refine ⟨k+1,hlt,by go_num,⟨(hM'.out.gr.trans hg9'.out).setCell hWR.out _,fun j hj=>?_,fun j hj=>?_,fun i hi=>?_⟩⟩
    ·by_cases hjk:j=k
     ·subst hjk
      rw [cell_set_same s0]
      have e:pt h a s (j+1) j=c^^^kk:=by
       rw [←hc'.out,←hkk'.out,←hq'.out,keyH_mod]
       unfold pt
       rw [if_pos (Nat.lt_succ_self j),if_neg (Nat.lt_irrefl j)]
      rw [e,UInt8.toNat_xor]
     ·have e:pt h a s (k+1) j=pt h a s k j:=by
       unfold pt
       by_cases h1:j<k
       ·rw [if_pos (by omega),if_pos h1]
       ·rw [if_neg (by omega),if_neg h1]
      rw [e]
      exact cell_off (hg9'.out.cell (hM'.out.row j hj)) hjk
    ·rw [frozen_set]
     exact (Below.frozen hg9'.out (p:=⟨W1.heap.size,j,none⟩) hR).trans (hM'.out.fz j hj)
    ·exact cell_set_other (hg9'.out.cell (hM'.out.key i hi)) (fun e=>hRk.out e.symm)
   case measure=>simp [intOf];omega
  ·obtain rfl:k=s.length:=by omega
   have hcb:(convert 100 9 (.slice (some ⟨W1.heap.size,0,none⟩) s.length cap)).run Tryz.prog wr=.ok (.string ⟨(maskH h a s).toArray⟩) wr:=by
    have hh:=run_convert_bytes_back (P:=Tryz.prog) wr 100 9 5 ⟨W1.heap.size,0,none⟩ cap (maskH h a s) Tryz.underlying100 Tryz.underlying5 Tryz.underlying9 (fun j hj=>by
     have hj':j<s.length:=by rwa [maskH_len] at hj
     rw [Addr.add_mid,Nat.zero_add,hM.row j hj',pt_all])
    rwa [maskH_len] at hh
   clear hM
   go_wp2
   go_ret
   exact ⟨rfl,hM'.out.gr⟩
structure HdO (b o:Nat) (W:World) (h:Hd):Prop where
 c0:W.cell? ⟨b,o,none⟩=some (.bool h.fin)
 c1:W.cell? ⟨b,o+1,none⟩=some (.int .i64 h.rsv)
 c2:W.cell? ⟨b,o+2,none⟩=some (.int .i64 h.op)
 c3:W.cell? ⟨b,o+3,none⟩=some (.bool h.masked)
 c4:W.cell? ⟨b,o+4,none⟩=some (.int .u8 h.k0.toNat)
 c5:W.cell? ⟨b,o+5,none⟩=some (.int .u8 h.k1.toNat)
 c6:W.cell? ⟨b,o+6,none⟩=some (.int .u8 h.k2.toNat)
 c7:W.cell? ⟨b,o+7,none⟩=some (.int .u8 h.k3.toNat)
 c8:W.cell? ⟨b,o+8,none⟩=some (.int .u64 h.len)
 c9:W.cell? ⟨b,o+9,none⟩=some (.bool h.least)
structure FrS (b:Nat) (W:World) (r:Fr):Prop where
 c0:W.cell? ⟨b,0,none⟩=some (.bool true)
 c1:W.cell? ⟨b,1,none⟩=some (.int .i64 r.st)
 c2:W.cell? ⟨b,2,none⟩=some (.string ⟨r.inp.toArray⟩)
 h:HdO b 3 W r.h
 c13:W.cell? ⟨b,13,none⟩=some (.int .i64 r.told)
 fz:∀ o,W.frozen? ⟨b,o,none⟩=false
theorem FrS.lt {b:Nat} {W:World} {r:Fr} (k:FrS b W r):b<W.heap.size:=cell_lt k.c0
theorem HdO.ch {b o:Nat} {T:Nat→Prop} {W W':World} {h:Hd} (k:HdO b o W h) (hc:Ch T W W') (hT:¬T b):HdO b o W' h :=
 have cc:∀ {j v},W.cell? ⟨b,j,none⟩=some v→W'.cell? ⟨b,j,none⟩=some v:=fun {j v} hh=>(hc.cell (p:=⟨b,j,none⟩) (cell_lt hh) hT).trans hh
 ⟨cc k.c0,cc k.c1,cc k.c2,cc k.c3,cc k.c4,cc k.c5,cc k.c6,cc k.c7,cc k.c8,cc k.c9⟩
theorem HdO.off {b o i:Nat} {W:World} {h:Hd} {v:Value} (k:HdO b o W h) (hi:i<o∨o+10≤i):HdO b o (W.setCell ⟨b,i,none⟩ v) h :=
 ⟨cell_off k.c0 (by omega),cell_off k.c1 (by omega),cell_off k.c2 (by omega),cell_off k.c3 (by omega),cell_off k.c4 (by omega),cell_off k.c5 (by omega),cell_off k.c6 (by omega),cell_off k.c7 (by omega),cell_off k.c8 (by omega),cell_off k.c9 (by omega)⟩
theorem FrS.ch {b:Nat} {T:Nat→Prop} {W W':World} {r:Fr} (k:FrS b W r) (hc:Ch T W W') (hT:¬T b):FrS b W' r :=
 have cc:∀ {j v},W.cell? ⟨b,j,none⟩=some v→W'.cell? ⟨b,j,none⟩=some v:=fun {j v} hh=>(hc.cell (p:=⟨b,j,none⟩) (cell_lt hh) hT).trans hh
 ⟨cc k.c0,cc k.c1,cc k.c2,k.h.ch hc hT,cc k.c13,fun o=>(hc.frozen (p:=⟨b,o,none⟩) k.lt hT).trans (k.fz o)⟩
theorem FrS.gr {b:Nat} {W W':World} {r:Fr} (k:FrS b W r) (g:Gr W W'):FrS b W' r:=k.ch (g.to_ch (fun _=>False)) id
theorem FrS.setSt {b:Nat} {W:World} {r:Fr} (k:FrS b W r) (n:Nat):FrS b (W.setCell ⟨b,1,none⟩ (.int .i64 n)) { r with st:=n } :=
 ⟨cell_off k.c0 (by decide),cell_set_same k.c1,cell_off k.c2 (by decide),k.h.off (by omega),cell_off k.c13 (by decide),fun o=>by rw [frozen_set];exact k.fz o⟩
theorem FrS.setInp {b:Nat} {W:World} {r:Fr} (k:FrS b W r) (s:List UInt8):FrS b (W.setCell ⟨b,2,none⟩ (.string ⟨s.toArray⟩)) { r with inp:=s } :=
 ⟨cell_off k.c0 (by decide),cell_off k.c1 (by decide),cell_set_same k.c2,k.h.off (by omega),cell_off k.c13 (by decide),fun o=>by rw [frozen_set];exact k.fz o⟩
theorem FrS.setTold {b:Nat} {W:World} {r:Fr} (k:FrS b W r) (n:Nat):FrS b (W.setCell ⟨b,13,none⟩ (.int .i64 n)) { r with told:=n } :=
 ⟨cell_off k.c0 (by decide),cell_off k.c1 (by decide),cell_off k.c2 (by decide),k.h.off (by omega),cell_set_same k.c13,fun o=>by rw [frozen_set];exact k.fz o⟩
def FrOk (r:Fr):Prop:=r.inp.length≤4611686018427387900∧r.h.len≤9223372036854775807∧r.told≤r.h.len∧r.st≤2
theorem frnew_any (W:World):Calls Tryz.prog 65 #[.bool true] W fun e w'=>e=.returned (.pointer (some ⟨W.heap.size,0,none⟩))∧FrS W.heap.size w' fr0∧Gr W w'∧w'.heap.size=W.heap.size+1:=by
 go_enter Tryz.func65,Tryz.ntmps65
 go_wp2
 go_ret
 refine ⟨rfl,⟨cell_new7 _ _ _ 0 _ rfl,cell_new7 _ _ _ 1 _ rfl,cell_new7 _ _ _ 2 _ rfl,⟨cell_new7 _ _ _ 3 _ rfl,cell_new7 _ _ _ 4 _ rfl,cell_new7 _ _ _ 5 _ rfl,cell_new7 _ _ _ 6 _ rfl,cell_new7 _ _ _ 7 _ rfl,cell_new7 _ _ _ 8 _ rfl,cell_new7 _ _ _ 9 _ rfl,cell_new7 _ _ _ 10 _ rfl,cell_new7 _ _ _ 11 _ rfl,cell_new7 _ _ _ 12 _ rfl⟩,cell_new7 _ _ _ 13 _ rfl,fun _=>World.frozen?_alloc_at _ _ _ _ rfl⟩,Gr.alloc _ _,by simp⟩
theorem frfeed_any (b:Nat) (W:World) (r:Fr) (s:List UInt8) (k:FrS b W r) (hs:r.inp.length+s.length≤4611686018427387900) :
  Calls Tryz.prog 66 #[.pointer (some ⟨b,0,none⟩),.string ⟨s.toArray⟩] W fun e w'=>e=.returned (.tuple #[])∧FrS b w' (frFeed r s)∧Ch (fun j=>j=b) W w':=by
 have k':=hid k
 have c1:=k.c1
 have c2:=k.c2
 have fz:=k.fz
 clear k
 by_cases h:r.st=2
 ·have hv:=hid (show frFeed r s=r by unfold frFeed;rw [if_pos h])
  rw [h] at c1
  go_enter Tryz.func66,Tryz.ntmps66
  go_wp2
  go_end0
  exact ⟨rfl,by rw [hv.out];exact k'.out,Ch.refl _ _⟩
 ·have hv:=hid (show frFeed r s={ r with inp:=r.inp++s } by unfold frFeed;rw [if_neg h])
  have hz:((r.st:Int)==2)=false:=beq_eq_false_iff_ne.2 (by omega)
  obtain ⟨p,hp⟩:∃ p,r.inp=p:=⟨_,rfl⟩
  rw [hp] at c2 hs hv
  have hcat:(⟨p.toArray⟩:ByteArray)++(⟨s.toArray⟩:ByteArray)=⟨(p++s).toArray⟩:=cat_mk _ _
  go_enter Tryz.func66,Tryz.ntmps66
  go_wp2
  go_end0
  exact ⟨rfl,by rw [hv.out];exact k'.out.setInp _,Ch.setCell (T:=fun j=>j=b) _ (a:=⟨b,2,none⟩) rfl _⟩
theorem fop_later (n:Nat) (W:World) (y:Later (Gr W)):Calls Tryz.prog 257 #[.int .i64 n] y.w fun e w'=>e=.returned (.bool (opH n))∧∃ z:Later (Gr W),w'=z.w :=
 Calls.later ((fop_any n y.w).mono fun _ w' ⟨h1,h2⟩=>⟨h1,h2▸y.ok⟩)
theorem frmay_any (b:Nat) (W:World) (h:Hd) (c0:W.cell? ⟨b,0,none⟩=some (.bool true)) :
  Calls Tryz.prog 225 #[.pointer (some ⟨b,0,none⟩),h.V] W fun e w'=>e=.returned (.bool (mayH true h))∧Gr W w':=by
 obtain ⟨fin,rsv,op,masked,k0,k1,k2,k3,len,least⟩:=h
 have hop0:=fun w=>fop_later op w
 obtain ⟨vo,ho⟩:∃ v,opH op=v:=⟨_,rfl⟩
 rw [ho] at hop0
 obtain ⟨sm,hsm⟩:∃ v,(decide (op<8)||(fin&&decide (len≤125)))=v:=⟨_,rfl⟩
 have hv:=hid (show mayH true ⟨fin,rsv,op,masked,k0,k1,k2,k3,len,least⟩=(rsv==0&&(vo&&(masked==true&&(sm&&(least&&decide (len≤9223372036854775807)))))) by unfold mayH;dsimp only;rw [ho,hsm])
 have hop:=hid hop0
 have hb:b<W.heap.size:=cell_lt c0
 clear hop0 ho
 unfold Hd.V
 dsimp only
 obtain ⟨w1,hw1⟩:∃ w1,W.alloc (.cells #[.bool fin,.int .i64 rsv,.int .i64 op,.bool masked,.int .u8 k0.toNat,.int .u8 k1.toNat,.int .u8 k2.toNat,.int .u8 k3.toNat,.int .u64 len,.bool least] 152)=w1:=⟨_,rfl⟩
 have g1:Gr W w1:=by rw [←hw1];exact Gr.alloc _ _
 have d0:w1.cell? ⟨W.heap.size,0,none⟩=some (.bool fin):=by rw [←hw1];exact cell_new7 _ _ _ 0 _ rfl
 have d1:w1.cell? ⟨W.heap.size,1,none⟩=some (.int .i64 rsv):=by rw [←hw1];exact cell_new7 _ _ _ 1 _ rfl
 have d2:w1.cell? ⟨W.heap.size,2,none⟩=some (.int .i64 op):=by rw [←hw1];exact cell_new7 _ _ _ 2 _ rfl
 have d3:w1.cell? ⟨W.heap.size,3,none⟩=some (.bool masked):=by rw [←hw1];exact cell_new7 _ _ _ 3 _ rfl
 have d8:w1.cell? ⟨W.heap.size,8,none⟩=some (.int .u64 len):=by rw [←hw1];exact cell_new7 _ _ _ 8 _ rfl
 have d9:w1.cell? ⟨W.heap.size,9,none⟩=some (.bool least):=by rw [←hw1];exact cell_new7 _ _ _ 9 _ rfl
 have e0:=g1.cell c0
 have g1':=hid g1
 clear g1 c0
 go_enter Tryz.func225,Tryz.ntmps225
 go_upto_region 1 with (fail)
 clear hw1
 go_cut [5] (fun v wx=>v=.bool sm∧wx=w1)
 case first =>
  by_cases h8:op<8
  ·have h8I:(op:Int)<8:=by omega
   rw [decide_eq_true h8,Bool.true_or] at hsm
   subst hsm
   go_wp2
   go_meet
   exact ⟨rfl,rfl⟩
  ·have h8I:¬(op:Int)<8:=by omega
   rw [decide_eq_false h8,Bool.false_or] at hsm
   cases fin with
   | false =>
    rw [Bool.false_and] at hsm
    subst hsm
    go_wp2
    go_meet
    exact ⟨rfl,rfl⟩
   | true =>
    rw [Bool.true_and] at hsm
    have hlI:decide ((len:Int)≤125)=sm:=by rw [←hsm];simp only [decide_eq_decide];omega
    go_wp2
    go_meet
    exact ⟨rfl,rfl⟩
 case rest =>
  obtain ⟨rfl,rfl⟩:=hcut
  haveI:Nonempty (Later (Gr wc)):=⟨⟨wc,Gr.refl wc⟩⟩
  have t0:∀ y:Later (Gr wc),y.w.cell? ⟨b,0,none⟩=some (.bool true):=fun y=>y.ok.cell e0
  have t1:∀ y:Later (Gr wc),y.w.cell? ⟨W.heap.size,1,none⟩=some (.int .i64 rsv):=fun y=>y.ok.cell d1
  have t2:∀ y:Later (Gr wc),y.w.cell? ⟨W.heap.size,2,none⟩=some (.int .i64 op):=fun y=>y.ok.cell d2
  have t3:∀ y:Later (Gr wc),y.w.cell? ⟨W.heap.size,3,none⟩=some (.bool masked):=fun y=>y.ok.cell d3
  have t8:∀ y:Later (Gr wc),y.w.cell? ⟨W.heap.size,8,none⟩=some (.int .u64 len):=fun y=>y.ok.cell d8
  have t9:∀ y:Later (Gr wc),y.w.cell? ⟨W.heap.size,9,none⟩=some (.bool least):=fun y=>y.ok.cell d9
  have hop1:=hid (hop.out wc)
  clear d0 d1 d2 d3 d8 d9 e0 hop hsm
  by_cases hr:rsv=0
  ·subst hr
   cases vo with
   | true =>
    cases masked with
    | true =>
     cases sm with
     | true =>
      cases least with
      | true =>
       have hlI:decide ((len:Int)≤9223372036854775807)=decide (len≤9223372036854775807):=by simp only [decide_eq_decide];omega
       obtain ⟨vl,hvl⟩:∃ v,decide (len≤9223372036854775807)=v:=⟨_,rfl⟩
       rw [hvl] at hlI
       have hvl':=hid hvl
       clear hvl
       go_upto_region 2 with (fail)
       refine wp_region_later (C:=Gr wc) (by kernel_rfl) (by kernel_rfl) (Gr.drew' _) ?_
       repeat (go_big_quiet_step (with_reducible exact hop1.out _))
       refine wpQuiet_nil ?_
       intro w9 hg9
       have hg9':=hid (g1'.out.trans hg9)
       clear t0 t1 t2 t3 t8 t9 hg9
       go_wp2
       go_ret
       exact ⟨by rw [hv.out,hvl'.out];rfl,hg9'.out⟩
      | false =>
       go_upto_region 2 with (fail)
       refine wp_region_later (C:=Gr wc) (by kernel_rfl) (by kernel_rfl) (Gr.drew' _) ?_
       repeat (go_big_quiet_step (with_reducible exact hop1.out _))
       refine wpQuiet_nil ?_
       intro w9 hg9
       have hg9':=hid (g1'.out.trans hg9)
       clear t0 t1 t2 t3 t8 t9 hg9
       go_wp2
       go_ret
       exact ⟨by rw [hv.out];rfl,hg9'.out⟩
     | false =>
      go_upto_region 2 with (fail)
      refine wp_region_later (C:=Gr wc) (by kernel_rfl) (by kernel_rfl) (Gr.drew' _) ?_
      repeat (go_big_quiet_step (with_reducible exact hop1.out _))
      refine wpQuiet_nil ?_
      intro w9 hg9
      have hg9':=hid (g1'.out.trans hg9)
      clear t0 t1 t2 t3 t8 t9 hg9
      go_wp2
      go_ret
      exact ⟨by rw [hv.out];rfl,hg9'.out⟩
    | false =>
     go_upto_region 2 with (fail)
     refine wp_region_later (C:=Gr wc) (by kernel_rfl) (by kernel_rfl) (Gr.drew' _) ?_
     repeat (go_big_quiet_step (with_reducible exact hop1.out _))
     refine wpQuiet_nil ?_
     intro w9 hg9
     have hg9':=hid (g1'.out.trans hg9)
     clear t0 t1 t2 t3 t8 t9 hg9
     go_wp2
     go_ret
     exact ⟨by rw [hv.out];rfl,hg9'.out⟩
   | false =>
    go_upto_region 2 with (fail)
    refine wp_region_later (C:=Gr wc) (by kernel_rfl) (by kernel_rfl) (Gr.drew' _) ?_
    repeat (go_big_quiet_step (with_reducible exact hop1.out _))
    refine wpQuiet_nil ?_
    intro w9 hg9
    have hg9':=hid (g1'.out.trans hg9)
    clear t0 t1 t2 t3 t8 t9 hg9
    go_wp2
    go_ret
    exact ⟨by rw [hv.out];rfl,hg9'.out⟩
  ·have hz:((rsv:Int)==0)=false:=beq_eq_false_iff_ne.2 (by omega)
   have hz2:=hid (beq_eq_false_iff_ne.2 hr)
   clear hr
   go_upto_region 2 with (fail)
   refine wp_region_later (C:=Gr wc) (by kernel_rfl) (by kernel_rfl) (Gr.drew' _) ?_
   repeat (go_big_quiet_step (with_reducible exact hop1.out _))
   refine wpQuiet_nil ?_
   intro w9 hg9
   have hg9':=hid (g1'.out.trans hg9)
   clear t0 t1 t2 t3 t8 t9 hg9
   go_wp2
   go_ret
   exact ⟨by rw [hv.out,hz2.out];rfl,hg9'.out⟩
def Fev.V:Fev→Value
 | .begin' f o n=>.agg #[.int .i64 1,.int .i64 o,.bool f,.int .i64 n,.string ⟨#[]⟩]
 | .piece s=>.agg #[.int .i64 2,.int .i64 0,.bool false,.int .i64 0,.string ⟨s.toArray⟩]
 | .fin=>.agg #[.int .i64 3,.int .i64 0,.bool false,.int .i64 0,.string ⟨#[]⟩]
 | .fail=>.agg #[.int .i64 4,.int .i64 0,.bool false,.int .i64 0,.string ⟨#[]⟩]
def ev0V:Value:=.agg #[.int .i64 0,.int .i64 0,.bool false,.int .i64 0,.string ⟨#[]⟩]
def fevT:Option Fev→Value
 | none=>.tuple #[ev0V,.bool false]
 | some e=>.tuple #[e.V,.bool true]
structure EvZ (rb:Nat) (W:World):Prop where
 k:W.cell? ⟨rb,0,none⟩=some (.int .i64 0)
 o:W.cell? ⟨rb,1,none⟩=some (.int .i64 0)
 f:W.cell? ⟨rb,2,none⟩=some (.bool false)
 l:W.cell? ⟨rb,3,none⟩=some (.int .i64 0)
 t:W.cell? ⟨rb,4,none⟩=some (.string ⟨#[]⟩)
 fz:∀ o,W.frozen? ⟨rb,o,none⟩=false
theorem EvZ.lt {rb:Nat} {W:World} (h:EvZ rb W):rb<W.heap.size:=cell_lt h.k
theorem EvZ.ch {rb:Nat} {T:Nat→Prop} {W W':World} (h:EvZ rb W) (hc:Ch T W W') (hT:¬T rb):EvZ rb W' :=
 have cc:∀ {j v},W.cell? ⟨rb,j,none⟩=some v→W'.cell? ⟨rb,j,none⟩=some v:=fun {j v} hh=>(hc.cell (p:=⟨rb,j,none⟩) (cell_lt hh) hT).trans hh
 ⟨cc h.k,cc h.o,cc h.f,cc h.l,cc h.t,fun o=>(hc.frozen (p:=⟨rb,o,none⟩) h.lt hT).trans (h.fz o)⟩
theorem EvZ.gr {rb:Nat} {W W':World} (h:EvZ rb W) (g:Gr W W'):EvZ rb W':=h.ch (g.to_ch (fun _=>False)) id
theorem evZ_new (W:World) (t:TypeId):EvZ W.heap.size (W.alloc (.cells #[.int .i64 0,.int .i64 0,.bool false,.int .i64 0,.string ⟨#[]⟩] t)) :=
 ⟨cell_new7 _ _ _ 0 _ rfl,cell_new7 _ _ _ 1 _ rfl,cell_new7 _ _ _ 2 _ rfl,cell_new7 _ _ _ 3 _ rfl,cell_new7 _ _ _ 4 _ rfl,fun _=>World.frozen?_alloc_at _ _ _ _ rfl⟩
theorem ch5 {rb:Nat} (W:World) (v0 v1 v2 v3 v4:Value):Ch (fun k=>k=rb) W (((((W.setCell ⟨rb,0,none⟩ v0).setCell ⟨rb,1,none⟩ v1).setCell ⟨rb,2,none⟩ v2).setCell ⟨rb,3,none⟩ v3).setCell ⟨rb,4,none⟩ v4) :=
 ((((Ch.setCell (T:=fun k=>k=rb) _ (a:=⟨rb,0,none⟩) rfl _).trans (Ch.setCell (T:=fun k=>k=rb) _ (a:=⟨rb,1,none⟩) rfl _)).trans (Ch.setCell (T:=fun k=>k=rb) _ (a:=⟨rb,2,none⟩) rfl _)).trans (Ch.setCell (T:=fun k=>k=rb) _ (a:=⟨rb,3,none⟩) rfl _)).trans (Ch.setCell (T:=fun k=>k=rb) _ (a:=⟨rb,4,none⟩) rfl _)
def FrPost (b:Nat) (W:World) (x:Fr×Option Fev) (e:Ending) (W':World):Prop:=e=.returned (fevT x.2)∧FrS b W' x.1∧Ch (fun j=>j=b) W W'
theorem FrS.told5 {b rb:Nat} {W W2:World} {r:Fr} (k:FrS b W2 r) (hc:Ch (fun j=>j=b) W W2) (hb:b<W.heap.size) (hr:W.heap.size≤rb) (v0 v1 v2 v3 v4:Value) :
  FrS b (((((W2.setCell ⟨rb,0,none⟩ v0).setCell ⟨rb,1,none⟩ v1).setCell ⟨rb,2,none⟩ v2).setCell ⟨rb,3,none⟩ v3).setCell ⟨rb,4,none⟩ v4) r∧Ch (fun j=>j=b) W (((((W2.setCell ⟨rb,0,none⟩ v0).setCell ⟨rb,1,none⟩ v1).setCell ⟨rb,2,none⟩ v2).setCell ⟨rb,3,none⟩ v3).setCell ⟨rb,4,none⟩ v4) :=
 ⟨k.ch (ch5 W2 v0 v1 v2 v3 v4) (by (try dsimp only);omega),hc.drop_new (ch5 W2 v0 v1 v2 v3 v4) (fun j hj=>.inr (by rw [show j=rb from hj];exact hr))⟩
theorem frbegins_none {b:Nat} {W:World} {r:Fr} (k:FrS b W r) (hk:FrOk r) (hh:headH r.inp=none) :
  Calls Tryz.prog 181 #[.pointer (some ⟨b,0,none⟩)] W (FrPost b W (r,none)):=by
 obtain ⟨w1,hw1⟩:∃ w1,W.alloc (.cells #[.int .i64 0,.int .i64 0,.bool false,.int .i64 0,.string ⟨#[]⟩] 159)=w1:=⟨_,rfl⟩
 have g1:Gr W w1:=hw1▸Gr.alloc _ _
 have hz:=hid (hw1▸evZ_new W _:EvZ W.heap.size w1)
 have k1:=k.gr g1
 have c2:=k1.c2
 have hb:=k.lt
 obtain ⟨p,hp⟩:∃ p,r.inp=p:=⟨_,rfl⟩
 have hrh:=rhead_any2 r.inp w1 hk.1
 unfold headV at hrh
 rw [hh] at hrh
 rw [hp] at c2 hrh
 have hrh:=hid hrh
 have k1':=hid k1
 have g1':=hid g1
 clear k k1 g1 hh hp
 go_enter Tryz.func181,Tryz.ntmps181
 go_wp2_with (fail)
 refine (hrh.out).mono ?_
 rintro e w2 ⟨rfl,hg2⟩
 obtain ⟨z0,z1,z2,z3,z4,zf⟩:=hz.out.gr hg2
 have hlt:W.heap.size<w2.heap.size:=cell_lt z0
 have hg2':=hid hg2
 clear hg2 c2
 unfold Hd.V hd0
 dsimp only
 go_wp2
 refine bodyPost_ret (v:=.tuple #[ev0V,.bool false]) (by simp [results,Tryz.results181,go_sem,ev0V,z0,z1,z2,z3,z4,hlt]) rfl ⟨rfl,?_⟩
 have hf:=(k1'.out.gr hg2'.out).told5 ((g1'.out.to_ch _).trans (hg2'.out.to_ch _)) hb (Nat.le_refl _) (.int .i64 0) (.int .i64 0) (.bool false) (.int .i64 0) (.string ⟨#[]⟩)
 exact ⟨hf.1.gr (Gr.alloc _ _),hf.2.trans (Ch.alloc _ _ _)⟩
theorem may_len {h:Hd} (e:mayH true h=true):h.len≤9223372036854775807:=by
 unfold mayH at e
 simp at e
 omega
theorem headH_le {s:List UInt8} {h:Hd} {n:Nat} (e:headH s=some (h,n)):n≤s.length:=by
 unfold headH at e
 split at e
 ·cases e
 ·cases e;omega
theorem FrS.setAll {b:Nat} {W:World} {r:Fr} (k:FrS b W r) (st:Nat) (q:List UInt8) (h:Hd) (n:Nat) :
  FrS b (((((((((((((W.setCell ⟨b,1,none⟩ (.int .i64 st)).setCell ⟨b,2,none⟩ (.string ⟨q.toArray⟩)).setCell ⟨b,3,none⟩ (.bool h.fin)).setCell ⟨b,4,none⟩ (.int .i64 h.rsv)).setCell ⟨b,5,none⟩ (.int .i64 h.op)).setCell ⟨b,6,none⟩ (.bool h.masked)).setCell ⟨b,7,none⟩ (.int .u8 h.k0.toNat)).setCell ⟨b,8,none⟩ (.int .u8 h.k1.toNat)).setCell ⟨b,9,none⟩ (.int .u8 h.k2.toNat)).setCell ⟨b,10,none⟩ (.int .u8 h.k3.toNat)).setCell ⟨b,11,none⟩ (.int .u64 h.len)).setCell ⟨b,12,none⟩ (.bool h.least)).setCell ⟨b,13,none⟩ (.int .i64 n)) ⟨st,q,h,n⟩:=by
 obtain ⟨c0,c1,c2,⟨f0,f1,f2,f3,f4,f5,f6,f7,f8,f9⟩,c13,fz⟩:=k
 refine ⟨?_,?_,?_,⟨?_,?_,?_,?_,?_,?_,?_,?_,?_,?_⟩,?_,fun o=>by simp only [frozen_set];exact fz o⟩
 ·simp [go_sem,c0]
 ·simp [go_sem,c1]
 ·simp [go_sem,c2]
 ·simp [go_sem,f0]
 ·simp [go_sem,f1]
 ·simp [go_sem,f2]
 ·simp [go_sem,f3]
 ·simp [go_sem,f4]
 ·simp [go_sem,f5]
 ·simp [go_sem,f6]
 ·simp [go_sem,f7]
 ·simp [go_sem,f8]
 ·simp [go_sem,f9]
 ·simp [go_sem,c13]
theorem chAll {b:Nat} (W:World) (v1 v2 v3 v4 v5 v6 v7 v8 v9 v10 v11 v12 v13:Value) :
  Ch (fun j=>j=b) W (((((((((((((W.setCell ⟨b,1,none⟩ v1).setCell ⟨b,2,none⟩ v2).setCell ⟨b,3,none⟩ v3).setCell ⟨b,4,none⟩ v4).setCell ⟨b,5,none⟩ v5).setCell ⟨b,6,none⟩ v6).setCell ⟨b,7,none⟩ v7).setCell ⟨b,8,none⟩ v8).setCell ⟨b,9,none⟩ v9).setCell ⟨b,10,none⟩ v10).setCell ⟨b,11,none⟩ v11).setCell ⟨b,12,none⟩ v12).setCell ⟨b,13,none⟩ v13):=by
 have s:∀ (w:World) (o:Nat) (v:Value),Ch (fun j=>j=b) w (w.setCell ⟨b,o,none⟩ v):=fun w o v=>Ch.setCell (T:=fun j=>j=b) w (a:=⟨b,o,none⟩) rfl v
 exact ((((((((((((s _ _ _).trans (s _ _ _)).trans (s _ _ _)).trans (s _ _ _)).trans (s _ _ _)).trans (s _ _ _)).trans (s _ _ _)).trans (s _ _ _)).trans (s _ _ _)).trans (s _ _ _)).trans (s _ _ _)).trans (s _ _ _)).trans (s _ _ _)
theorem frbegins_fail {b:Nat} {W:World} {r:Fr} {h:Hd} {n:Nat} (k:FrS b W r) (hk:FrOk r) (hh:headH r.inp=some (h,n)) (hm:mayH true h=false) :
  Calls Tryz.prog 181 #[.pointer (some ⟨b,0,none⟩)] W (FrPost b W ({ r with st:=2,inp:=[] },some .fail)):=by
 obtain ⟨w1,hw1⟩:∃ w1,W.alloc (.cells #[.int .i64 0,.int .i64 0,.bool false,.int .i64 0,.string ⟨#[]⟩] 159)=w1:=⟨_,rfl⟩
 have g1:Gr W w1:=hw1▸Gr.alloc _ _
 have hz:=hid (hw1▸evZ_new W _:EvZ W.heap.size w1)
 have k1:=k.gr g1
 have c2:=k1.c2
 have hb:=k.lt
 have hk':=hid hk
 have hh':=hid hh
 obtain ⟨p,hp⟩:∃ p,r.inp=p:=⟨_,rfl⟩
 have hrh:=rhead_any2 r.inp w1 hk.1
 unfold headV at hrh
 rw [hh] at hrh
 rw [hp] at c2 hrh
 have hp':=hid hp
 have hrh:=hid hrh
 have k1':=hid k1
 have g1':=hid g1
 have hmy:=hid (fun w c=>frmay_any b w h c)
 rw [hm] at hmy
 have hm':=hid hm
 obtain ⟨fin,rsv,op,masked,x0,x1,x2,x3,len,least⟩:=h
 clear k k1 g1 hh hp hm hk
 unfold Hd.V at hrh hmy
 dsimp only at hrh hmy
 go_enter Tryz.func181,Tryz.ntmps181
 go_wp2_with (fail)
 refine (hrh.out).mono ?_
 rintro e w2 ⟨rfl,hg2⟩
 have g2:=g1'.out.trans hg2
 have k2':=hid (k1'.out.gr hg2)
 have hz2:=hid (hz.out.gr hg2)
 have g2':=hid g2
 have e0:=(k1'.out.gr hg2).c0
 have hb2:b<w2.heap.size:=(k1'.out.gr hg2).lt
 have hlt:W.heap.size<w2.heap.size:=(hz.out.gr hg2).lt
 clear hg2 c2 hz hrh g2 k1' hw1
 obtain ⟨w3,hw3⟩:∃ w3,w2.alloc (.cells #[.bool fin,.int .i64 rsv,.int .i64 op,.bool masked,.int .u8 x0.toNat,.int .u8 x1.toNat,.int .u8 x2.toNat,.int .u8 x3.toNat,.int .u64 len,.bool least] 152)=w3:=⟨_,rfl⟩
 have g3:Gr w2 w3:=hw3▸Gr.alloc _ _
 have hd3:HdO w2.heap.size 0 w3 ⟨fin,rsv,op,masked,x0,x1,x2,x3,len,least⟩:=by
  rw [←hw3]
  exact ⟨cell_new7 _ _ _ 0 _ rfl,cell_new7 _ _ _ 1 _ rfl,cell_new7 _ _ _ 2 _ rfl,cell_new7 _ _ _ 3 _ rfl,cell_new7 _ _ _ 4 _ rfl,cell_new7 _ _ _ 5 _ rfl,cell_new7 _ _ _ 6 _ rfl,cell_new7 _ _ _ 7 _ rfl,cell_new7 _ _ _ 8 _ rfl,cell_new7 _ _ _ 9 _ rfl⟩
 have g3':=hid g3
 have hd3':=hid hd3
 obtain ⟨d0,d1,d2,d3,d4,d5,d6,d7,d8,d9⟩:=hd3
 simp only [Nat.zero_add] at d1 d2 d3 d4 d5 d6 d7 d8 d9
 have hmy3:=hid (hmy.out w3 (g3.cell e0))
 clear g3 hmy e0
 go_wp2_with (fail)
 refine (hmy3.out).mono ?_
 rintro e w4 ⟨rfl,hg4⟩
 have g4:=g3'.out.trans hg4
 have k4:=k2'.out.gr g4
 have k4':=hid k4
 have hz4:=hz2.out.gr g4
 have hg4':=hid hg4
 have g4':=hid (g2'.out.trans g4)
 have hd4:=hd3'.out.ch (hg4.to_ch (fun _=>False)) id
 have hd4':=hid hd4
 have hb4:b<w4.heap.size:=k4.lt
 have hlt4:W.heap.size<w4.heap.size:=hz4.lt
 obtain ⟨z0,z1,z2,z3,z4,zf⟩:=hz4
 have hbr:b≠W.heap.size:=by omega
 have hrb:W.heap.size≠b:=by omega
 have c1:=k4.c1
 have c2:=k4.c2
 have fz:=k4.fz
 clear d0 d1 d2 d3 d4 d5 d6 d7 d8 d9 hmy3 hg4 g4 k4 hz2
 clear hd4 hd4' hd3'
 go_wp2
 refine bodyPost_ret (v:=.tuple #[Fev.V .fail,.bool true]) (by simp [results,Tryz.results181,go_sem,Fev.V,z0,z1,z2,z3,z4,hlt4,hbr,hrb]) rfl ⟨rfl,?_⟩
 exact ((k4'.out.setSt 2).setInp []).told5 ((g4'.out.to_ch _).trans ((Ch.setCell (T:=fun j=>j=b) _ (a:=⟨b,1,none⟩) rfl _).trans (Ch.setCell (T:=fun j=>j=b) _ (a:=⟨b,2,none⟩) rfl _))) hb (Nat.le_refl _) _ _ _ _ _
theorem frbegins_ok {b:Nat} {W:World} {r:Fr} {h:Hd} {n:Nat} (k:FrS b W r) (hk:FrOk r) (hh:headH r.inp=some (h,n)) (hm:mayH true h=true) (hn:n≤r.inp.length) :
  Calls Tryz.prog 181 #[.pointer (some ⟨b,0,none⟩)] W (FrPost b W ({ r with st:=1,inp:=r.inp.drop n,h:=h,told:=0 },some (.begin' h.fin h.op h.len))):=by
 obtain ⟨w1,hw1⟩:∃ w1,W.alloc (.cells #[.int .i64 0,.int .i64 0,.bool false,.int .i64 0,.string ⟨#[]⟩] 159)=w1:=⟨_,rfl⟩
 have g1:Gr W w1:=hw1▸Gr.alloc _ _
 have hz:=hid (hw1▸evZ_new W _:EvZ W.heap.size w1)
 have k1:=k.gr g1
 have c2:=k1.c2
 have hb:=k.lt
 have hk':=hid hk
 have hh':=hid hh
 obtain ⟨p,hp⟩:∃ p,r.inp=p:=⟨_,rfl⟩
 have hrh:=rhead_any2 r.inp w1 hk.1
 unfold headV at hrh
 rw [hh] at hrh
 rw [hp] at c2 hrh
 have hp':=hid hp
 have hrh:=hid hrh
 have k1':=hid k1
 have g1':=hid g1
 have hmy:=hid (fun w c=>frmay_any b w h c)
 rw [hm] at hmy
 have hm':=hid hm
 obtain ⟨fin,rsv,op,masked,x0,x1,x2,x3,len,least⟩:=h
 clear k k1 g1 hh hp hm hk
 unfold Hd.V at hrh hmy
 dsimp only at hrh hmy
 go_enter Tryz.func181,Tryz.ntmps181
 go_wp2_with (fail)
 refine (hrh.out).mono ?_
 rintro e w2 ⟨rfl,hg2⟩
 have g2:=g1'.out.trans hg2
 have k2':=hid (k1'.out.gr hg2)
 have hz2:=hid (hz.out.gr hg2)
 have g2':=hid g2
 have e0:=(k1'.out.gr hg2).c0
 have hb2:b<w2.heap.size:=(k1'.out.gr hg2).lt
 have hlt:W.heap.size<w2.heap.size:=(hz.out.gr hg2).lt
 clear hg2 c2 hz hrh g2 k1' hw1
 obtain ⟨w3,hw3⟩:∃ w3,w2.alloc (.cells #[.bool fin,.int .i64 rsv,.int .i64 op,.bool masked,.int .u8 x0.toNat,.int .u8 x1.toNat,.int .u8 x2.toNat,.int .u8 x3.toNat,.int .u64 len,.bool least] 152)=w3:=⟨_,rfl⟩
 have g3:Gr w2 w3:=hw3▸Gr.alloc _ _
 have hd3:HdO w2.heap.size 0 w3 ⟨fin,rsv,op,masked,x0,x1,x2,x3,len,least⟩:=by
  rw [←hw3]
  exact ⟨cell_new7 _ _ _ 0 _ rfl,cell_new7 _ _ _ 1 _ rfl,cell_new7 _ _ _ 2 _ rfl,cell_new7 _ _ _ 3 _ rfl,cell_new7 _ _ _ 4 _ rfl,cell_new7 _ _ _ 5 _ rfl,cell_new7 _ _ _ 6 _ rfl,cell_new7 _ _ _ 7 _ rfl,cell_new7 _ _ _ 8 _ rfl,cell_new7 _ _ _ 9 _ rfl⟩
 have g3':=hid g3
 have hd3':=hid hd3
 obtain ⟨d0,d1,d2,d3,d4,d5,d6,d7,d8,d9⟩:=hd3
 simp only [Nat.zero_add] at d1 d2 d3 d4 d5 d6 d7 d8 d9
 have hmy3:=hid (hmy.out w3 (g3.cell e0))
 clear g3 hmy e0
 go_wp2_with (fail)
 refine (hmy3.out).mono ?_
 rintro e w4 ⟨rfl,hg4⟩
 have g4:=g3'.out.trans hg4
 have k4:=k2'.out.gr g4
 have k4':=hid k4
 have hz4:=hz2.out.gr g4
 have hg4':=hid hg4
 have g4':=hid (g2'.out.trans g4)
 have hd4:=hd3'.out.ch (hg4.to_ch (fun _=>False)) id
 have hd4':=hid hd4
 have hb4:b<w4.heap.size:=k4.lt
 have hlt4:W.heap.size<w4.heap.size:=hz4.lt
 obtain ⟨z0,z1,z2,z3,z4,zf⟩:=hz4
 have hbr:b≠W.heap.size:=by omega
 have hrb:W.heap.size≠b:=by omega
 have c1:=k4.c1
 have c2:=k4.c2
 have fz:=k4.fz
 clear d0 d1 d2 d3 d4 d5 d6 d7 d8 d9 hmy3 hg4 g4 k4 hz2
 rw [hp'.out] at c2 hn
 have hx:(⟨p.toArray⟩:ByteArray).extract n p.length=⟨(p.drop n).toArray⟩:=by rw [extract_mk];simp
 obtain ⟨a0,a1,a2,a3,a4,a5,a6,a7,a8,a9⟩:=hd4
 simp only [Nat.zero_add] at a1 a2 a3 a4 a5 a6 a7 a8 a9
 obtain ⟨f0,f1,f2,f3,f4,f5,f6,f7,f8,f9⟩:=k4'.out.h
 have c13:=k4'.out.c13
 have hb23:b≠w2.heap.size:=by omega
 have h23:w2.heap.size≠b:=by omega
 go_upto_region 7 with (fail)
 go_cut [] (fun wx=>FrS b wx ⟨1,p.drop n,⟨fin,rsv,op,masked,x0,x1,x2,x3,len,least⟩,0⟩∧Ch (fun j=>j=b) w4 wx)
 case first =>
  clear z0 z1 z2 z3 z4 zf hlt4 hbr hrb hk' hh' hp' g1' g2' k2' g3' hg4' g4' hd4' hd3' hb hb2 hlt hw3
  go_big_region
  all_goals
   go_wp2
   go_meet
   exact ⟨(k4'.out.setAll 1 (p.drop n) ⟨fin,rsv,op,masked,x0,x1,x2,x3,len,least⟩ 0).gr (Gr.drew' _),(chAll w4 _ _ _ _ _ _ _ _ _ _ _ _ _).trans (Ch.drew _ _)⟩
 case rest =>
  obtain ⟨k5,hc5⟩:=hcut
  have k5':=hid k5
  have hc5':=hid hc5
  have hz5:EvZ W.heap.size wc:=(EvZ.mk z0 z1 z2 z3 z4 zf).ch hc5 hrb
  have hd5:=hd4'.out.ch hc5 h23
  have hlt5:W.heap.size<wc.heap.size:=hz5.lt
  have hl5:(len:Int)≤9223372036854775807:=by
   have h9:len≤9223372036854775807:=may_len hm'.out
   omega
  clear z0 z1 z2 z3 z4 zf a0 a1 a2 a3 a4 a5 a6 a7 a8 a9 f0 f1 f2 f3 f4 f5 f6 f7 f8 f9 c13 c1 c2 fz k5 hc5 hlt4
  obtain ⟨z0,z1,z2,z3,z4,zf⟩:=hz5
  obtain ⟨a0,a1,a2,a3,a4,a5,a6,a7,a8,a9⟩:=hd5
  simp only [Nat.zero_add] at a1 a2 a3 a4 a5 a6 a7 a8 a9
  have hlw:IntKind.i64.wrap (len:Int)=len:=IntWalk.i64_in _ (by omega)
  go_wp2
  refine bodyPost_ret (v:=.tuple #[Fev.V (.begin' fin op len),.bool true]) (by simp [results,Tryz.results181,go_sem,Fev.V,z0,z1,z2,z3,z4,hlt5,hbr,hrb]) rfl ⟨rfl,?_⟩
  have e:=k5'.out.told5 ((g4'.out.to_ch _).trans hc5'.out) hb (Nat.le_refl _) (.int .i64 1) (.int .i64 op) (.bool fin) (.int .i64 len) (.string ⟨#[]⟩)
  rw [←hp'.out] at e
  exact e
theorem frbegins_any {b:Nat} {W:World} {r:Fr} (k:FrS b W r) (hk:FrOk r) (h0:r.st=0) :
  Calls Tryz.prog 181 #[.pointer (some ⟨b,0,none⟩)] W (FrPost b W (frNext r)):=by
 unfold frNext
 rw [if_neg (by omega),if_pos h0]
 cases hh:headH r.inp with
 | none=>exact frbegins_none k hk hh
 | some x =>
  obtain ⟨h,n⟩:=x
  dsimp only
  cases hm:mayH true h with
  | false=>exact frbegins_fail k hk hh hm
  | true=>exact frbegins_ok k hk hh hm (headH_le hh)
end Go.Proofs.YtadobobfjnmdlaaGreatDoor
