/-
  A session in memory: the next event; a new one. (Printed by mk_ei.py.)
-/
import Derived.Test.YtadobobfjnmdlaaGreatDoorEg
set_option linter.unnecessarySimpa false
set_option linter.unusedVariables false
set_option linter.unusedSimpArgs false
set_option maxHeartbeats 16000000
set_option maxRecDepth 100000
open Go.Lib (hid)
namespace Go.Proofs.YtadobobfjnmdlaaGreatDoor
open Go.RowKit Go.Shelf
attribute [local go_sem] Oper.semAt_some
theorem sevO_agg (e:Option Sev):∃ (a c:Int) (t:ByteArray),sevO e=.agg #[.int .i64 a,.int .i64 c,.string t]:=by
 cases e with
 | none=>exact⟨_,_,_,rfl⟩
 | some e=>exact sevV_agg e
section
variable {b:Nat} {g:Nat} {lb:Array Value} {F T:Nat→Prop} {H:Rq→Rp} {W:World} {s:Ss} {hv:Value}
theorem nx_fin {W2 w3 w6:World} {s':Ss} {c:Nat→Nat} {pb bb:Nat} {cv:Value} (hl:∀ k,T k→k<W.heap.size) (g2:Gr W W2) (h4:SnS b hv c w6 s' pb bb cv) (hC:∀ k,c k≠0→Add T W2 w3 k) (hch:Ch T W w6) (hs:w3.heap.size≤w6.heap.size):Pst (SnAt b hv) T W s' w6 :=
 h4.pst hl hch (fun k e=>(hC k e).imp_right (fun e=>⟨Nat.le_trans (Below.size g2) e.1,Nat.lt_of_lt_of_le e.2 hs⟩))
theorem sn_next (h:SnAt b (.func (.func g) #[] lb) T W s) (hG:G W) (hi:Hi T) (hH:Hnd g lb F H W) (hF:∀ k,F k→¬T k) (hlim:s.limit≤1099511627776) (ha:s.st=1∨s.st=2∨s.st=3) (hB:s.st=1→PsB 90000 s.p) {n:Nat} (hn:n≤4611686018427387900)
  (h2:s.st=2→∃ w,s.c=some w∧WnB n w∧∀ x,(wnNext w).2=some x→codeW x≤65535):Calls Tryz.prog 13 #[.pointer (some ⟨b,0,none⟩)] W fun e w'=>e=.returned (.tuple #[sevO (ssNext H s).2,.bool (ssNext H s).2.isSome])∧Pst (SnAt b (.func (.func g) #[] lb)) T W (ssNext H s).1 w':=by
 have hl':=hid h.2
 obtain⟨W1,hW1⟩:∃ W1,W.alloc (.cells #[.int .i64 0,.int .i64 0,.string ⟨#[]⟩] 28)=W1:=⟨_,rfl⟩
 have g1:Gr W W1:=hW1▸Gr.alloc W _
 have hE1:=hid (show W.heap.size<W1.heap.size by rw[←hW1];simp)
 have hs1:=hid (show W1.heap.size=W.heap.size+1 by rw[←hW1];simp)
 have e0:W1.cell? ⟨W.heap.size,0,none⟩=some (.int .i64 0):=by rw[←hW1];exact cell_new7 _ _ _ 0 _ rfl
 have e1:W1.cell? ⟨W.heap.size,1,none⟩=some (.int .i64 0):=by rw[←hW1];exact cell_new7 _ _ _ 1 _ rfl
 have e2:W1.cell? ⟨W.heap.size,2,none⟩=some (.string ⟨#[]⟩):=by rw[←hW1];exact cell_new7 _ _ _ 2 _ rfl
 have ez:∀ o,W1.frozen? ⟨W.heap.size,o,none⟩=false:=fun o=>by rw[←hW1];exact World.frozen?_alloc_at _ _ _ _ rfl
 have h0:=hid h
 have ht0:=sn_takes ((snKin b (.func (.func g) #[] lb)).gr h g1)
 have hbT0:=hid (show T b from by
  obtain⟨⟨c,pb,bb,cv,h,hT⟩,_⟩:=h
  exact hT b (by rw[h.cb];decide))
 have c2:W1.cell? ⟨b,2,none⟩=some (.int .i64 s.st):=by
  obtain⟨⟨c,pb,bb,cv,h,hT⟩,_⟩:=h
  exact (h.gr g1).c2
 by_cases htk:ssTakes s=false
 ·have hq:=hid (show ssNext H s=(s,none) by unfold ssNext;rw[htk];rfl)
  rw[htk] at ht0
  have ht:=hid ht0
  have g1':=hid g1
  clear h hB h2 hG hH htk ht0 g1 c2
  go_enter Tryz.func13,Tryz.ntmps13
  go_wp2_with (fail)
  refine ht.out.mono ?_
  rintro e w9 ⟨rfl,rfl⟩
  try rw[hW1]
  clear hW1
  go_wp2
  refine bodyPost_ret (v:=.tuple #[sevO none,.bool false]) (by simp[results,Tryz.results13,go_sem,sevV,sevO,e0,e1,e2]) rfl ?_
  rw[hq.out]
  exact⟨rfl,kin_told (snKin b (.func (.func g) #[] lb)) hl'.out g1'.out ((snKin b (.func (.func g) #[] lb)).of_gr ((snKin b (.func (.func g) #[] lb)).gr h0.out g1'.out) (Gr.refl _)) (ch3 _ W.heap.size _ _ _) (fun k e=>⟨by rw[show k=W.heap.size from e];exact Nat.le_refl _,by rw[show k=W.heap.size from e];exact hE1.out⟩)⟩
 have htt:ssTakes s=true:=by
  cases e:ssTakes s with
  | false=>exact absurd e htk
  | true=>rfl
 rw[htt] at ht0
 have ht:=hid ht0
 obtain⟨y,hy0⟩:∃ y,(if s.st=1 then ssAsks H s else ssSays s)=y:=⟨_,rfl⟩
 have hq:=hid (show ssNext H s=(if y.2.isNone||y.1.st==3 then { y.1 with fresh:=false } else y.1,y.2) by
  rw[←hy0]
  unfold ssNext
  rw[htt]
  rfl)
 by_cases q1:s.st=1
 ·rw[if_pos q1] at hy0
  rw[q1] at c2
  have hBq:=hB q1
  clear htk htt ht0 q1
  have hcall:=hid (fun W2 (g2:Gr W W2)=>show Calls Tryz.prog 41 #[.pointer (some ⟨b,0,none⟩)] W2 fun e w'=>e=.returned (.tuple #[sevO y.2,.bool y.2.isSome])∧Pst (SnAt b (.func (.func g) #[] lb)) T W2 y.1 w' from hy0▸sn_asks ((snKin b (.func (.func g) #[] lb)).gr h0.out g2) (hG.gr g2) hi (hH.gr g2) hF hlim hBq)
  clear h hB h2 hG hH
  go_enter Tryz.func13,Tryz.ntmps13
  go_wp2_with (fail)
  refine ht.out.mono ?_
  rintro e w9 ⟨rfl,rfl⟩
  try rw[hW1]
  obtain⟨W2,hW2⟩:∃ W2,W1.alloc (.cells #[.int .i64 0,.int .i64 0,.string ⟨#[]⟩] 28)=W2:=⟨_,rfl⟩
  have g12:Gr W1 W2:=hW2▸Gr.alloc W1 _
  have hs2:=hid (show W2.heap.size=W.heap.size+2 by rw[←hW2,World.size_alloc,hs1.out])
  have f0:W2.cell? ⟨W1.heap.size,0,none⟩=some (.int .i64 0):=by rw[←hW2];exact cell_new7 _ _ _ 0 _ rfl
  have f1:W2.cell? ⟨W1.heap.size,1,none⟩=some (.int .i64 0):=by rw[←hW2];exact cell_new7 _ _ _ 1 _ rfl
  have f2:W2.cell? ⟨W1.heap.size,2,none⟩=some (.string ⟨#[]⟩):=by rw[←hW2];exact cell_new7 _ _ _ 2 _ rfl
  have fz2:∀ o,W2.frozen? ⟨W1.heap.size,o,none⟩=false:=fun o=>by rw[←hW2];exact World.frozen?_alloc_at _ _ _ _ rfl
  have g2:=hid (g1.trans g12)
  replace e0:=g12.cell e0
  replace e1:=g12.cell e1
  replace e2:=g12.cell e2
  replace ez:∀ o,W2.frozen? ⟨W.heap.size,o,none⟩=false:=fun o=>(Below.frozen g12 (p:=⟨W.heap.size,o,none⟩) hE1.out).trans (ez o)
  replace c2:=g12.cell c2
  have hcl:=hid (hcall.out W2 g2.out)
  rw[show W1.heap.size=W.heap.size+1 from hs1.out] at f0 f1 f2 fz2
  clear hcall g1 g12
  go_wp2_with (fail)
  try rw[hW2]
  refine hcl.out.mono ?_
  rintro e w3 ⟨rfl,hpA⟩
  rw[show W1.heap.size=W.heap.size+1 from hs1.out]
  obtain⟨n0,n1,nt,hnv⟩:=sevO_agg y.2
  rw[hnv]
  have hET:¬T W.heap.size:=fun e=>by have:=hl'.out _ e;omega
  have hFT:¬T (W.heap.size+1):=fun e=>by have:=hl'.out _ e;omega
  have hEs:W.heap.size<W2.heap.size:=by have:=hs2.out;omega
  have hFs:W.heap.size+1<W2.heap.size:=by have:=hs2.out;omega
  replace e0:=(hpA.2.cell (p:=⟨W.heap.size,0,none⟩) hEs hET).trans e0
  replace e1:=(hpA.2.cell (p:=⟨W.heap.size,1,none⟩) hEs hET).trans e1
  replace e2:=(hpA.2.cell (p:=⟨W.heap.size,2,none⟩) hEs hET).trans e2
  replace ez:∀ o,w3.frozen? ⟨W.heap.size,o,none⟩=false:=fun o=>(hpA.2.frozen (p:=⟨W.heap.size,o,none⟩) hEs hET).trans (ez o)
  replace f0:=(hpA.2.cell (p:=⟨W.heap.size+1,0,none⟩) hFs hFT).trans f0
  replace f1:=(hpA.2.cell (p:=⟨W.heap.size+1,1,none⟩) hFs hFT).trans f1
  replace f2:=(hpA.2.cell (p:=⟨W.heap.size+1,2,none⟩) hFs hFT).trans f2
  replace fz2:∀ o,w3.frozen? ⟨W.heap.size+1,o,none⟩=false:=fun o=>(hpA.2.frozen (p:=⟨W.heap.size+1,o,none⟩) hFs hFT).trans (fz2 o)
  have hnv':=hid hnv
  have hpA':=hid hpA
  clear hpA hnv hEs hFs hET hFT hW1 hW2 c2
  go_upto_region 8 with (fail)
  have hc4:=ch3 w3 (W.heap.size+1) (.int .i64 n0) (.int .i64 n1) (.string nt)
  obtain⟨w4,hw4⟩:∃ w4,((w3.setCell ⟨W.heap.size+1,0,none⟩ (.int .i64 n0)).setCell ⟨W.heap.size+1,1,none⟩ (.int .i64 n1)).setCell ⟨W.heap.size+1,2,none⟩ (.string nt)=w4:=⟨_,rfl⟩
  have q0:w4.cell? ⟨W.heap.size+1,0,none⟩=some (.int .i64 n0):=by rw[←hw4];simp[go_sem,f0]
  have q1:w4.cell? ⟨W.heap.size+1,1,none⟩=some (.int .i64 n1):=by rw[←hw4];simp[go_sem,f1]
  have q2:w4.cell? ⟨W.heap.size+1,2,none⟩=some (.string nt):=by rw[←hw4];simp[go_sem,f2]
  rw[hw4] at hc4
  try rw[hw4]
  have hEs3:W.heap.size<w3.heap.size:=cell_lt e0
  have hEF:¬(W.heap.size=W.heap.size+1):=by omega
  replace e0:=(hc4.cell (p:=⟨W.heap.size,0,none⟩) hEs3 hEF).trans e0
  replace e1:=(hc4.cell (p:=⟨W.heap.size,1,none⟩) hEs3 hEF).trans e1
  replace e2:=(hc4.cell (p:=⟨W.heap.size,2,none⟩) hEs3 hEF).trans e2
  replace ez:∀ o,w4.frozen? ⟨W.heap.size,o,none⟩=false:=fun o=>(hc4.frozen (p:=⟨W.heap.size,o,none⟩) hEs3 hEF).trans (ez o)
  have hN2:∀ k,Add T W2 w3 k→¬(k=W.heap.size+1)∧¬(k=W.heap.size):=fun k e=>by
   have:=hs2.out
   rcases e with e | e
   ·have:=hl'.out k e;omega
   ·have:=e.1;omega
  obtain⟨⟨c,pb,bb,cv,k4,hC⟩,hl4⟩:=(snKin b (.func (.func g) #[] lb)).frame hpA'.out.1 hc4 (fun k e=>(hN2 k e).1)
  have hc4':=hid (show Ch T W w4 from ((g2.out.to_ch T).trans hpA'.out.2).drop_new hc4 (fun k e=>.inr (by rw[show k=W.heap.size+1 from e];omega)))
  have hbA:Add T W2 w3 b:=hC b (by rw[k4.cb];decide)
  have hbE:=hN2 b hbA
  have hbT:T b:=hbT0.out
  have k2:=k4.c2
  have k6:=k4.c6
  have kz:=k4.fz
  have hs34:=hid hc4.size
  have hC':=hid hC
  have k4':=hid k4
  have hN2':=hid hN2
  have hn1:b≠W.heap.size:=hbE.2
  have hn2:b≠W.heap.size+1:=hbE.1
  have hbs4:b<w4.heap.size:=k4.blt
  clear hc4 f0 f1 f2 fz2 k4 hC hl4 hN2 hbE hbA hEs3 hw4
  obtain⟨y1,y2,hy⟩:∃ y1 y2,y=(y1,y2):=⟨_,_,rfl⟩
  rw[show y.2=y2 by rw[hy]]
  rw[show y.1=y1 by rw[hy]] at k2 k4'
  have hqy:=hid (hq.out.trans (show (if y.2.isNone||y.1.st==3 then { y.1 with fresh:=false } else y.1,y.2)=(if y2.isNone||y1.st==3 then { y1 with fresh:=false } else y1,y2) by rw[hy]))
  rw[show y.2=y2 by rw[hy]] at hnv'
  clear hy hq
  have hsz:=hid (show W.heap.size<w4.heap.size from cell_lt e0)
  cases y2 with
  | none =>
   have hqz:=hid (hqy.out.trans (show _=({ y1 with fresh:=false },(none:Option Sev)) from rfl))
   go_wp2
   refine bodyPost_ret (v:=.tuple #[.agg #[.int .i64 n0,.int .i64 n1,.string nt],.bool false]) (by simp[results,Tryz.results13,go_sem,e0,e1,e2,hn1,Ne.symm hn1]) rfl ?_
   rw[hqz.out]
   exact⟨by rw[hnv'.out];rfl,nx_fin hl'.out g2.out ((k4'.out.setFresh false).frame (ch3 _ W.heap.size _ _ _) (fun k e=>(hN2'.out k (hC'.out k e)).2)) hC'.out ((hc4'.out.trans (Ch.setCell w4 (a:=⟨b,6,none⟩) hbT _)).drop_new (ch3 _ W.heap.size _ _ _) (fun k e=>.inr (Nat.le_of_eq (show k=W.heap.size from e).symm))) (by have:=hs34.out;simpa using this)⟩
  | some ev =>
   by_cases h3:y1.st=3
   ·have hqz:=hid (hqy.out.trans (show _=({ y1 with fresh:=false },some ev) by rw[h3];rfl))
    have hz3:((y1.st:Int)==3)=true:=beq_iff_eq.2 (by omega)
    clear h3
    go_wp2
    refine bodyPost_ret (v:=.tuple #[.agg #[.int .i64 n0,.int .i64 n1,.string nt],.bool true]) (by simp[results,Tryz.results13,go_sem,e0,e1,e2,hn1,Ne.symm hn1]) rfl ?_
    rw[hqz.out]
    exact⟨by rw[hnv'.out];rfl,nx_fin hl'.out g2.out ((k4'.out.setFresh false).frame (ch3 _ W.heap.size _ _ _) (fun k e=>(hN2'.out k (hC'.out k e)).2)) hC'.out ((hc4'.out.trans (Ch.setCell w4 (a:=⟨b,6,none⟩) hbT _)).drop_new (ch3 _ W.heap.size _ _ _) (fun k e=>.inr (Nat.le_of_eq (show k=W.heap.size from e).symm))) (by have:=hs34.out;simpa using this)⟩
   ·have hqz:=hid (hqy.out.trans (show _=(y1,some ev) by rw[show (y1.st==3)=false from beq_false_of_ne h3];rfl))
    have hz3:((y1.st:Int)==3)=false:=beq_false_of_ne (by omega)
    clear h3
    go_wp2
    refine bodyPost_ret (v:=.tuple #[.agg #[.int .i64 n0,.int .i64 n1,.string nt],.bool true]) (by simp[results,Tryz.results13,go_sem,e0,e1,e2,hn1,Ne.symm hn1]) rfl ?_
    rw[hqz.out]
    exact⟨by rw[hnv'.out];rfl,nx_fin hl'.out g2.out (k4'.out.frame (ch3 _ W.heap.size _ _ _) (fun k e=>(hN2'.out k (hC'.out k e)).2)) hC'.out (hc4'.out.drop_new (ch3 _ W.heap.size _ _ _) (fun k e=>.inr (Nat.le_of_eq (show k=W.heap.size from e).symm))) (by have:=hs34.out;simpa using this)⟩
 ·have q2:s.st=2:=by
   rcases ha with e | e | e
   ·exact absurd e q1
   ·exact e
   ·unfold ssTakes at htt
    rw[e] at htt
    cases htt
  rw[if_neg q1] at hy0
  rw[q2] at c2
  obtain⟨w,hw,hwB,hcode⟩:=h2 q2
  clear htk htt ht0 q1 q2
  have hcall:=hid (fun W2 (g2:Gr W W2)=>show Calls Tryz.prog 42 #[.pointer (some ⟨b,0,none⟩)] W2 fun e w'=>e=.returned (.tuple #[sevO y.2,.bool y.2.isSome])∧Pst (SnAt b (.func (.func g) #[] lb)) T W2 y.1 w' from hy0▸sn_says ((snKin b (.func (.func g) #[] lb)).gr h0.out g2) hw hwB hn hcode)
  clear h hB h2 hG hH
  go_enter Tryz.func13,Tryz.ntmps13
  go_wp2_with (fail)
  refine ht.out.mono ?_
  rintro e w9 ⟨rfl,rfl⟩
  try rw[hW1]
  obtain⟨W2,hW2⟩:∃ W2,W1.alloc (.cells #[.int .i64 0,.int .i64 0,.string ⟨#[]⟩] 28)=W2:=⟨_,rfl⟩
  have g12:Gr W1 W2:=hW2▸Gr.alloc W1 _
  have hs2:=hid (show W2.heap.size=W.heap.size+2 by rw[←hW2,World.size_alloc,hs1.out])
  have f0:W2.cell? ⟨W1.heap.size,0,none⟩=some (.int .i64 0):=by rw[←hW2];exact cell_new7 _ _ _ 0 _ rfl
  have f1:W2.cell? ⟨W1.heap.size,1,none⟩=some (.int .i64 0):=by rw[←hW2];exact cell_new7 _ _ _ 1 _ rfl
  have f2:W2.cell? ⟨W1.heap.size,2,none⟩=some (.string ⟨#[]⟩):=by rw[←hW2];exact cell_new7 _ _ _ 2 _ rfl
  have fz2:∀ o,W2.frozen? ⟨W1.heap.size,o,none⟩=false:=fun o=>by rw[←hW2];exact World.frozen?_alloc_at _ _ _ _ rfl
  have g2:=hid (g1.trans g12)
  replace e0:=g12.cell e0
  replace e1:=g12.cell e1
  replace e2:=g12.cell e2
  replace ez:∀ o,W2.frozen? ⟨W.heap.size,o,none⟩=false:=fun o=>(Below.frozen g12 (p:=⟨W.heap.size,o,none⟩) hE1.out).trans (ez o)
  replace c2:=g12.cell c2
  have hcl:=hid (hcall.out W2 g2.out)
  rw[show W1.heap.size=W.heap.size+1 from hs1.out] at f0 f1 f2 fz2
  clear hcall g1 g12
  go_wp2_with (fail)
  try rw[hW2]
  refine hcl.out.mono ?_
  rintro e w3 ⟨rfl,hpA⟩
  rw[show W1.heap.size=W.heap.size+1 from hs1.out]
  obtain⟨n0,n1,nt,hnv⟩:=sevO_agg y.2
  rw[hnv]
  have hET:¬T W.heap.size:=fun e=>by have:=hl'.out _ e;omega
  have hFT:¬T (W.heap.size+1):=fun e=>by have:=hl'.out _ e;omega
  have hEs:W.heap.size<W2.heap.size:=by have:=hs2.out;omega
  have hFs:W.heap.size+1<W2.heap.size:=by have:=hs2.out;omega
  replace e0:=(hpA.2.cell (p:=⟨W.heap.size,0,none⟩) hEs hET).trans e0
  replace e1:=(hpA.2.cell (p:=⟨W.heap.size,1,none⟩) hEs hET).trans e1
  replace e2:=(hpA.2.cell (p:=⟨W.heap.size,2,none⟩) hEs hET).trans e2
  replace ez:∀ o,w3.frozen? ⟨W.heap.size,o,none⟩=false:=fun o=>(hpA.2.frozen (p:=⟨W.heap.size,o,none⟩) hEs hET).trans (ez o)
  replace f0:=(hpA.2.cell (p:=⟨W.heap.size+1,0,none⟩) hFs hFT).trans f0
  replace f1:=(hpA.2.cell (p:=⟨W.heap.size+1,1,none⟩) hFs hFT).trans f1
  replace f2:=(hpA.2.cell (p:=⟨W.heap.size+1,2,none⟩) hFs hFT).trans f2
  replace fz2:∀ o,w3.frozen? ⟨W.heap.size+1,o,none⟩=false:=fun o=>(hpA.2.frozen (p:=⟨W.heap.size+1,o,none⟩) hFs hFT).trans (fz2 o)
  have hnv':=hid hnv
  have hpA':=hid hpA
  clear hpA hnv hEs hFs hET hFT hW1 hW2 c2
  go_upto_region 8 with (fail)
  have hc4:=ch3 w3 (W.heap.size+1) (.int .i64 n0) (.int .i64 n1) (.string nt)
  obtain⟨w4,hw4⟩:∃ w4,((w3.setCell ⟨W.heap.size+1,0,none⟩ (.int .i64 n0)).setCell ⟨W.heap.size+1,1,none⟩ (.int .i64 n1)).setCell ⟨W.heap.size+1,2,none⟩ (.string nt)=w4:=⟨_,rfl⟩
  have q0:w4.cell? ⟨W.heap.size+1,0,none⟩=some (.int .i64 n0):=by rw[←hw4];simp[go_sem,f0]
  have q1:w4.cell? ⟨W.heap.size+1,1,none⟩=some (.int .i64 n1):=by rw[←hw4];simp[go_sem,f1]
  have q2:w4.cell? ⟨W.heap.size+1,2,none⟩=some (.string nt):=by rw[←hw4];simp[go_sem,f2]
  rw[hw4] at hc4
  try rw[hw4]
  have hEs3:W.heap.size<w3.heap.size:=cell_lt e0
  have hEF:¬(W.heap.size=W.heap.size+1):=by omega
  replace e0:=(hc4.cell (p:=⟨W.heap.size,0,none⟩) hEs3 hEF).trans e0
  replace e1:=(hc4.cell (p:=⟨W.heap.size,1,none⟩) hEs3 hEF).trans e1
  replace e2:=(hc4.cell (p:=⟨W.heap.size,2,none⟩) hEs3 hEF).trans e2
  replace ez:∀ o,w4.frozen? ⟨W.heap.size,o,none⟩=false:=fun o=>(hc4.frozen (p:=⟨W.heap.size,o,none⟩) hEs3 hEF).trans (ez o)
  have hN2:∀ k,Add T W2 w3 k→¬(k=W.heap.size+1)∧¬(k=W.heap.size):=fun k e=>by
   have:=hs2.out
   rcases e with e | e
   ·have:=hl'.out k e;omega
   ·have:=e.1;omega
  obtain⟨⟨c,pb,bb,cv,k4,hC⟩,hl4⟩:=(snKin b (.func (.func g) #[] lb)).frame hpA'.out.1 hc4 (fun k e=>(hN2 k e).1)
  have hc4':=hid (show Ch T W w4 from ((g2.out.to_ch T).trans hpA'.out.2).drop_new hc4 (fun k e=>.inr (by rw[show k=W.heap.size+1 from e];omega)))
  have hbA:Add T W2 w3 b:=hC b (by rw[k4.cb];decide)
  have hbE:=hN2 b hbA
  have hbT:T b:=hbT0.out
  have k2:=k4.c2
  have k6:=k4.c6
  have kz:=k4.fz
  have hs34:=hid hc4.size
  have hC':=hid hC
  have k4':=hid k4
  have hN2':=hid hN2
  have hn1:b≠W.heap.size:=hbE.2
  have hn2:b≠W.heap.size+1:=hbE.1
  have hbs4:b<w4.heap.size:=k4.blt
  clear hc4 f0 f1 f2 fz2 k4 hC hl4 hN2 hbE hbA hEs3 hw4
  obtain⟨y1,y2,hy⟩:∃ y1 y2,y=(y1,y2):=⟨_,_,rfl⟩
  rw[show y.2=y2 by rw[hy]]
  rw[show y.1=y1 by rw[hy]] at k2 k4'
  have hqy:=hid (hq.out.trans (show (if y.2.isNone||y.1.st==3 then { y.1 with fresh:=false } else y.1,y.2)=(if y2.isNone||y1.st==3 then { y1 with fresh:=false } else y1,y2) by rw[hy]))
  rw[show y.2=y2 by rw[hy]] at hnv'
  clear hy hq
  have hsz:=hid (show W.heap.size<w4.heap.size from cell_lt e0)
  cases y2 with
  | none =>
   have hqz:=hid (hqy.out.trans (show _=({ y1 with fresh:=false },(none:Option Sev)) from rfl))
   go_wp2
   refine bodyPost_ret (v:=.tuple #[.agg #[.int .i64 n0,.int .i64 n1,.string nt],.bool false]) (by simp[results,Tryz.results13,go_sem,e0,e1,e2,hn1,Ne.symm hn1]) rfl ?_
   rw[hqz.out]
   exact⟨by rw[hnv'.out];rfl,nx_fin hl'.out g2.out ((k4'.out.setFresh false).frame (ch3 _ W.heap.size _ _ _) (fun k e=>(hN2'.out k (hC'.out k e)).2)) hC'.out ((hc4'.out.trans (Ch.setCell w4 (a:=⟨b,6,none⟩) hbT _)).drop_new (ch3 _ W.heap.size _ _ _) (fun k e=>.inr (Nat.le_of_eq (show k=W.heap.size from e).symm))) (by have:=hs34.out;simpa using this)⟩
  | some ev =>
   by_cases h3:y1.st=3
   ·have hqz:=hid (hqy.out.trans (show _=({ y1 with fresh:=false },some ev) by rw[h3];rfl))
    have hz3:((y1.st:Int)==3)=true:=beq_iff_eq.2 (by omega)
    clear h3
    go_wp2
    refine bodyPost_ret (v:=.tuple #[.agg #[.int .i64 n0,.int .i64 n1,.string nt],.bool true]) (by simp[results,Tryz.results13,go_sem,e0,e1,e2,hn1,Ne.symm hn1]) rfl ?_
    rw[hqz.out]
    exact⟨by rw[hnv'.out];rfl,nx_fin hl'.out g2.out ((k4'.out.setFresh false).frame (ch3 _ W.heap.size _ _ _) (fun k e=>(hN2'.out k (hC'.out k e)).2)) hC'.out ((hc4'.out.trans (Ch.setCell w4 (a:=⟨b,6,none⟩) hbT _)).drop_new (ch3 _ W.heap.size _ _ _) (fun k e=>.inr (Nat.le_of_eq (show k=W.heap.size from e).symm))) (by have:=hs34.out;simpa using this)⟩
   ·have hqz:=hid (hqy.out.trans (show _=(y1,some ev) by rw[show (y1.st==3)=false from beq_false_of_ne h3];rfl))
    have hz3:((y1.st:Int)==3)=false:=beq_false_of_ne (by omega)
    clear h3
    go_wp2
    refine bodyPost_ret (v:=.tuple #[.agg #[.int .i64 n0,.int .i64 n1,.string nt],.bool true]) (by simp[results,Tryz.results13,go_sem,e0,e1,e2,hn1,Ne.symm hn1]) rfl ?_
    rw[hqz.out]
    exact⟨by rw[hnv'.out];rfl,nx_fin hl'.out g2.out (k4'.out.frame (ch3 _ W.heap.size _ _ _) (fun k e=>(hN2'.out k (hC'.out k e)).2)) hC'.out (hc4'.out.drop_new (ch3 _ W.heap.size _ _ _) (fun k e=>.inr (Nat.le_of_eq (show k=W.heap.size from e).symm))) (by have:=hs34.out;simpa using this)⟩
end
theorem sn_new {g:Nat} {lb:Array Value} (W:World) (hG:G W) (q limit:Nat) (h1:1≤q) (h2:q≤64) (hlim:limit≤1099511627776) :
  Calls Tryz.prog 10 #[.func (.func g) #[] lb,.int .i64 q,.int .i64 limit] W fun e w'=>∃ b,e=.returned (.tuple #[.pointer (some ⟨b,0,none⟩),.int .i64 0])∧SnAt b (.func (.func g) #[] lb) (New W w') w' (ss0 q limit)∧Gr W w':=by
 have hb:=hid (bnew_any q W h1 h2)
 have hw:=hid (fun W=>wnew_at W limit hlim)
 have hG':=hid hG
 have hnf:=fun (w:World) f x c=>run_eql_func_nil (P:=Tryz.prog) w Tryz.underlying62 f x c
 clear hG h1 h2 hlim
 go_enter Tryz.func10,Tryz.ntmps10
 go_wp2_with (fail)
 refine hb.out.mono ?_
 rintro e w1 ⟨bb,rfl,hx,g1⟩
 have hx':=hid hx
 have g1':=hid g1
 clear hx g1
 go_wp2_with (fail)
 refine (hw.out w1).mono ?_
 rintro e w2 ⟨kk,rfl,_,g2⟩
 have g2':=hid g2
 clear g2
 have hp:=hid (pqnew_at (hG'.out.gr (g1'.out.trans g2'.out)))
 go_wp2_with (fail)
 refine hp.out.mono ?_
 rintro e w3 ⟨pb,rfl,hq,g3⟩
 have hq':=hid hq
 have g3':=hid g3
 clear hq g3
 go_wp2
 refine bodyPost_ret (v:=.tuple #[.pointer (some ⟨w3.heap.size,0,none⟩),.int .i64 0]) (by simp[results,Tryz.results10,go_sem]) rfl ?_
 obtain⟨w4,hw4⟩:∃ w4,w3.alloc (.cells #[.func (.func g) #[] lb,.int .i64 limit,.int .i64 1,.pointer (some ⟨pb,0,none⟩),.pointer none,.pointer (some ⟨bb,0,none⟩),.bool false] 67)=w4:=⟨_,rfl⟩
 rw[hw4]
 have g4:Gr w3 w4:=hw4▸Gr.alloc _ _
 have s4:w4.heap.size=w3.heap.size+1:=by rw[←hw4];simp
 have s1:=Below.size g1'.out
 have s2:=Below.size g2'.out
 have s3:=Below.size g3'.out
 have hg:=((g1'.out.trans g2'.out).trans g3'.out).trans g4
 refine⟨_,rfl,⟨⟨fun k=>if k=w3.heap.size then 1 else if w2.heap.size≤k∧k<w3.heap.size then 2 else if W.heap.size≤k∧k<w1.heap.size then 4 else 0,pb,bb,.pointer none,?_,?_⟩,fun k e=>e.2⟩,hg⟩
 ·refine⟨by rw[←hw4];exact cell_new7 _ _ _ 0 _ rfl,by rw[←hw4];exact cell_new7 _ _ _ 1 _ rfl,by rw[←hw4];exact cell_new7 _ _ _ 2 _ rfl,by rw[←hw4];exact cell_new7 _ _ _ 3 _ rfl,by rw[←hw4];exact cell_new7 _ _ _ 4 _ rfl,by rw[←hw4];exact cell_new7 _ _ _ 5 _ rfl,by rw[←hw4];exact cell_new7 _ _ _ 6 _ rfl,
   fun o=>by rw[←hw4];exact World.frozen?_alloc_at _ _ _ _ rfl,if_pos rfl,?_,rfl,?_,?_⟩
  ·refine (pqKin pb).mono ((pqKin pb).gr hq'.out g4) (fun k e=>?_) (fun k e=>?_)
   ·show (if k=w3.heap.size then 1 else if w2.heap.size≤k∧k<w3.heap.size then 2 else if W.heap.size≤k∧k<w1.heap.size then 4 else 0)=2
    rw[if_neg (by have:=e.2;omega),if_pos ⟨e.1,e.2⟩]
   ·try dsimp only at e
    split at e
    ·cases e
    ·split at e
     ·omega
     ·split at e <;> cases e
  ·refine (bxKin bb).mono ((bxKin bb).gr hx'.out ((g2'.out.trans g3'.out).trans g4)) (fun k e=>?_) (fun k e=>?_)
   ·show (if k=w3.heap.size then 1 else if w2.heap.size≤k∧k<w3.heap.size then 2 else if W.heap.size≤k∧k<w1.heap.size then 4 else 0)=4
    have e1:=e.1
    have e2:=e.2
    rw[if_neg (by omega),if_neg (by omega),if_pos ⟨e1,e2⟩]
   ·try dsimp only at e
    split at e
    ·cases e
    ·split at e
     ·cases e
     ·split at e
      ·omega
      ·cases e
  ·intro k e
   try dsimp only at e
   split at e
   ·omega
   ·split at e
    ·omega
    ·split at e
     ·omega
     ·exact absurd rfl e
 ·intro k e
  try dsimp only at e
  refine⟨?_,?_⟩ <;> (repeat' split at e) <;> first | omega | exact absurd rfl e
end Go.Proofs.YtadobobfjnmdlaaGreatDoor
namespace Go.Proofs.YtadobobfjnmdlaaGreatDoor
def splitS:List UInt8→List (List UInt8)
 | []=>[[]]
 | [c]=>[[c]]
 | c :: d :: t=>if c=13∧d=10 then [] :: splitS t else match splitS (d :: t) with
  | []=>[[c]]
  | l :: r=>(c :: l) :: r
theorem splitS_eq:∀ s:List UInt8,splitS s=splitE s
 | []=>by simp[splitS,splitE]
 | [c]=>by simp[splitS,splitE]
 | c :: d :: t=>by
  have h1:=splitS_eq t
  have h2:=splitS_eq (d :: t)
  unfold splitS
  rw[splitE]
  by_cases h:c=13∧d=10
  ·rw[if_pos h,if_pos (by simpa using h),h1];rfl
  ·rw[if_neg h,if_neg (by simpa using h),h2]
   rfl
def oneS (s:List UInt8):OneR :=
 if decide (0≤Lib.index s eol2)&&decide (Lib.index s eol2+4≤2048) then
  match headQ (splitS (s.take (Lib.index s eol2).toNat)) with
  | .bad c=>.bad c
  | .good r n ch =>
   if ch then
    if (feedC ck0 (s.drop ((Lib.index s eol2).toNat+4))).2.bad≠0 then .bad (feedC ck0 (s.drop ((Lib.index s eol2).toNat+4))).2.bad
    else if (feedC ck0 (s.drop ((Lib.index s eol2).toNat+4))).2.st=4 then .got { r with b:=(feedC ck0 (s.drop ((Lib.index s eol2).toNat+4))).2.data } ((Lib.index s eol2).toNat+4+(feedC ck0 (s.drop ((Lib.index s eol2).toNat+4))).1)
    else .more
   else if s.length<(Lib.index s eol2).toNat+4+n then .more
   else .got { r with b:=(s.drop ((Lib.index s eol2).toNat+4)).take n } ((Lib.index s eol2).toNat+4+n)
 else if 2048≤s.length then .bad 431 else .more
theorem oneS_eq (s:List UInt8):oneS s=oneQ s:=by
 unfold oneS oneQ
 rw[splitS_eq]
 rfl
def serveH (r:Rq):Rp :=
 if r.p=[47] then ⟨200,[],[104,111,109,101]⟩ else if r.p=[47,119,115] then ⟨101,[],[]⟩ else if r.p=[47,101,99,104,111] then ⟨200,[([88,45,77,101,116,104,111,100],r.m)],r.b⟩
 else if r.p=[47,98,97,100] then ⟨999,[],[]⟩ else ⟨404,[],[110,111,116,32,102,111,117,110,100]⟩
def getL:List UInt8:=[71,69,84,32,47,32,72,84,84,80,47,49,46,49,13,10,72,111,115,116,58,32,97,13,10,13,10]
def askL:List UInt8:=[71,69,84,32,47,119,115,32,72,84,84,80,47,49,46,49,13,10,72,111,115,116,58,32,97,13,10,85,112,103,114,97,100,101,58,32,119,101,98,115,111,99,107,101,116,13,10,67,111,110,110,101,99,116,105,111,110,58,32,85,112,103,114,97,100,101,13,10,83,101,99,45,87,101,98,83,111,99,107,101,116,45,75,101,121,58,32,100,71,104,108,73,72,78,104,98,88,66,115,90,83,66,117,98,50,53,106,90,81,61,61,13,10,83,101,99,45,87,101,98,83,111,99,107,101,116,45,86,101,114,115,105,111,110,58,32,49,51,13,10,13,10]
def frmL:List UInt8:=[137,129,1,2,3,4,121]
def homeL:List UInt8:=[72,84,84,80,47,49,46,49,32,50,48,48,32,79,75,13,10,67,111,110,116,101,110,116,45,76,101,110,103,116,104,58,32,52,13,10,13,10,104,111,109,101]
def toldL:List UInt8:=[72,84,84,80,47,49,46,49,32,49,48,49,32,83,119,105,116,99,104,105,110,103,32,80,114,111,116,111,99,111,108,115,13,10,85,112,103,114,97,100,101,58,32,119,101,98,115,111,99,107,101,116,13,10,67,111,110,110,101,99,116,105,111,110,58,32,85,112,103,114,97,100,101,13,10,83,101,99,45,87,101,98,83,111,99,107,101,116,45,65,99,99,101,112,116,58,32,115,51,112,80,76,77,66,105,84,120,97,81,57,107,89,71,122,122,104,90,82,98,75,43,120,79,111,61,13,10,13,10]
def wakeL:List UInt8:=getL++(askL++frmL)
def rqHome:Rq:=⟨[71,69,84],[47],[],11,[([72,111,115,116],[97])],[],false⟩
def rqAsk:Rq:=⟨[71,69,84],[47,119,115],[],11,[([72,111,115,116],[97]),([85,112,103,114,97,100,101],[119,101,98,115,111,99,107,101,116]),([67,111,110,110,101,99,116,105,111,110],[85,112,103,114,97,100,101]),([83,101,99,45,87,101,98,83,111,99,107,101,116,45,75,101,121],[100,71,104,108,73,72,78,104,98,88,66,115,90,83,66,117,98,50,53,106,90,81,61,61]),([83,101,99,45,87,101,98,83,111,99,107,101,116,45,86,101,114,115,105,111,110],[49,51])],[],false⟩
theorem wake_one:oneQ wakeL=.got rqHome getL.length:=by rw[←oneS_eq];kernel_rfl
theorem wake_two:oneQ (askL++frmL)=.got rqAsk askL.length:=by rw[←oneS_eq];kernel_rfl
def wkS1:Ss:=⟨100,1,{ ps0 with inp:=wakeL },none,bx0 2,true⟩
def wkS2:Ss:=⟨100,1,{ ps0 with inp:=askL++frmL },none,{ bx0 2 with reps:=[homeL] },true⟩
def wkS3:Ss:=⟨100,2,ps0,some (wnFeed (wn0 100) frmL),{ bx0 2 with reps:=[homeL,toldL] },true⟩
def wkC:Wn:=⟨⟨0,[],mkH frmL,1⟩,jn0 100,1,0,[120]⟩
def wkS4:Ss:=⟨100,2,ps0,some wkC,{ bx0 2 with reps:=[homeL,toldL],pong:=some [120] },true⟩
theorem asks_got {H:Rq→Rp} {s:Ss} {b:List UInt8} {r:Rq} {n:Nat} (hs:Stands s.p b) (h:oneQ b=.got r n):ssAsks H s=((ssAnswers H { s with p:={ ps0 with inp:=b.drop n } } r).1,some (ssAnswers H { s with p:={ ps0 with inp:=b.drop n } } r).2):=by
 have hn:=hs.next
 unfold NextOk at hn
 rw[h] at hn
 obtain⟨e1,e2⟩:=hn
 unfold ssAsks
 rw[show nextQ s.p=((nextQ s.p).1,(nextQ s.p).2) from rfl,e1,e2]
theorem wake_feed:ssFeed (ss0 2 100) wakeL=wkS1:=by kernel_rfl
theorem next_of {H:Rq→Rp} {s s2:Ss} {e:Sev} (h1:ssTakes s=true) (h2:s.st=1) (h3:s2.st≠3) (h:ssAsks H s=(s2,some e)):ssNext H s=(s2,some e):=by
 unfold ssNext
 rw[h1,if_neg (by decide),if_pos h2,h]
 simp[h3]
theorem wake_next1:ssNext serveH wkS1=(wkS2,some .done):=by
 refine next_of rfl rfl (by decide) ?_
 rw[asks_got (s:=wkS1) (b:=wakeL) (.fresh rfl) wake_one]
 kernel_rfl
theorem wake_next2:ssNext serveH wkS2=(wkS3,some .upgraded):=by
 refine next_of rfl rfl (by decide) ?_
 rw[asks_got (s:=wkS2) (b:=askL++frmL) (.fresh rfl) wake_two]
 kernel_rfl
theorem wake_next3:ssNext serveH wkS3=(wkS4,some .done):=by kernel_rfl
theorem wake_hears:ssHears wkS4=true:=rfl
def wkS5:Ss:={ wkS4 with x:={ bx0 2 with reps:=[toldL],pong:=some [120] } }
def wkS6:Ss:={ wkS4 with x:={ bx0 2 with pong:=some [120] } }
def wkS7:Ss:={ wkS4 with x:=bx0 2 }
theorem wake_out1:ssOut wkS4=(wkS5,some (homeL,false)):=rfl
theorem wake_out2:ssOut wkS5=(wkS6,some (toldL,false)):=rfl
theorem wake_out3:ssOut wkS6=(wkS7,some ([138,1,120],false)):=by kernel_rfl
theorem wake_waits:bxWaits wkS7.x=false:=rfl
open Go.RowKit Go.Shelf
attribute [local go_sem] Oper.semAt_some
theorem serve_sm {r:Rq} (h:RqSm r):RpSm (serveH r):=by
 obtain⟨_,_,h3,_,_,h6⟩:=h
 have nil:∀ (c:Int) (b:List UInt8),b.length≤1000000→-9223372036854775808≤c→c≤9223372036854775807→RpSm ⟨c,[],b⟩:=fun c b h1 h2 h3=>⟨Nat.zero_le _,(fun f hf=>by cases hf),h1,h2,h3⟩
 unfold serveH
 split
 ·exact nil _ _ (by decide) (by decide) (by decide)
 ·split
  ·exact nil _ _ (by decide) (by decide) (by decide)
  ·split
   ·refine⟨by (show 1≤1000000;decide),?_,Nat.le_trans h6 (by decide),by (show -9223372036854775808≤(200:Int);decide),by (show (200:Int)≤9223372036854775807;decide)⟩
    intro f hf
    rcases List.mem_cons.1 hf with rfl | hf
    ·exact⟨by (show 8≤1000000;decide),Nat.le_trans h3 (by decide)⟩
    ·cases hf
   ·split
    ·exact nil _ _ (by decide) (by decide) (by decide)
    ·exact nil _ _ (by decide) (by decide) (by decide)
theorem fieldsAt_lit1 (W:World) (n v:List UInt8) (t:TypeId) {W':World} (g:Gr (W.alloc (.cells #[.string ⟨n.toArray⟩,.string ⟨v.toArray⟩] t)) W'):FieldsAt W' (.slice (some ⟨W.heap.size,0,none⟩) 1 1) [(n,v)] :=
 ⟨some ⟨W.heap.size,0,none⟩,1,rfl,fun i hi=>by
  match i,hi with
  | 0,_=>exact⟨W.heap.size,0,rfl,g.cell (cell_new7 _ _ _ 0 _ rfl),g.cell (cell_new7 _ _ _ 1 _ rfl)⟩⟩
theorem serve_hnd (W0:World):Hnd 11 #[] (fun _=>False) serveH W0:=by
 refine⟨fun _ e=>e.elim,enters_of Tryz.func11 (by kernel_rfl) rfl,?_,fun r h=>serve_sm h⟩
 intro W r s _ _ hf _
 obtain⟨pf,capf,rfl,_⟩:=hf
 show Calls Tryz.prog 11 #[r.V (.slice pf r.fs.length capf)] W _
 unfold Rq.V
 by_cases h0:r.p=[47]
 ·have hq:=hid (show serveH r=⟨200,[],[104,111,109,101]⟩ by unfold serveH;rw[if_pos h0])
  have b0:(r.p==[47])=true:=beq_iff_eq.2 h0
  clear h0
  go_enter Tryz.func11,Tryz.ntmps11
  go_wp2
  refine bodyPost_ret (v:=.agg #[.int .i64 200,.slice none 0 0,.string ⟨#[104,111,109,101]⟩]) (by simp[results,Tryz.results11,go_sem]) rfl ?_
  rw[hq.out]
  exact⟨.slice none 0 0,rfl,fieldsAt_none _ 0,(Gr.alloc _ _).alloc1 _⟩
 by_cases h1:r.p=[47,119,115]
 ·have hq:=hid (show serveH r=⟨101,[],[]⟩ by unfold serveH;rw[if_neg h0,if_pos h1])
  have b0:(r.p==[47])=false:=beq_false_of_ne h0
  have b1:(r.p==[47,119,115])=true:=beq_iff_eq.2 h1
  clear h0 h1
  go_enter Tryz.func11,Tryz.ntmps11
  go_wp2
  refine bodyPost_ret (v:=.agg #[.int .i64 101,.slice none 0 0,.string ⟨#[]⟩]) (by simp[results,Tryz.results11,go_sem]) rfl ?_
  rw[hq.out]
  exact⟨.slice none 0 0,rfl,fieldsAt_none _ 0,(Gr.alloc _ _).alloc1 _⟩
 by_cases h2:r.p=[47,101,99,104,111]
 ·have hq:=hid (show serveH r=⟨200,[([88,45,77,101,116,104,111,100],r.m)],r.b⟩ by unfold serveH;rw[if_neg h0,if_neg h1,if_pos h2])
  have b0:(r.p==[47])=false:=beq_false_of_ne h0
  have b1:(r.p==[47,119,115])=false:=beq_false_of_ne h1
  have b2:(r.p==[47,101,99,104,111])=true:=beq_iff_eq.2 h2
  clear h0 h1 h2
  go_enter Tryz.func11,Tryz.ntmps11
  go_wp2
  refine bodyPost_ret (v:=.agg #[.int .i64 200,.slice (some ⟨W.heap.size+1+1,0,none⟩) 1 1,.string ⟨r.b.toArray⟩]) (by simp[results,Tryz.results11,go_sem]) rfl ?_
  rw[hq.out]
  exact⟨.slice (some ⟨W.heap.size+1+1,0,none⟩) 1 1,rfl,by simpa using fieldsAt_lit1 ((W.alloc (.cells #[.string ⟨r.m.toArray⟩,.string ⟨r.p.toArray⟩,.string ⟨r.q.toArray⟩,.int .i64 r.v,.slice pf r.fs.length capf,.string ⟨r.b.toArray⟩,.bool r.c] 78)).alloc (.cells #[.int .i64 200,.slice (some ⟨W.heap.size+1+1,0,none⟩) 1 1,.string ⟨r.b.toArray⟩] 51)) [88,45,77,101,116,104,111,100] r.m 80 (Gr.refl _),((Gr.alloc _ _).alloc1 _).alloc1 _⟩
 by_cases h3:r.p=[47,98,97,100]
 ·have hq:=hid (show serveH r=⟨999,[],[]⟩ by unfold serveH;rw[if_neg h0,if_neg h1,if_neg h2,if_pos h3])
  have b0:(r.p==[47])=false:=beq_false_of_ne h0
  have b1:(r.p==[47,119,115])=false:=beq_false_of_ne h1
  have b2:(r.p==[47,101,99,104,111])=false:=beq_false_of_ne h2
  have b3:(r.p==[47,98,97,100])=true:=beq_iff_eq.2 h3
  clear h0 h1 h2 h3
  go_enter Tryz.func11,Tryz.ntmps11
  go_wp2
  refine bodyPost_ret (v:=.agg #[.int .i64 999,.slice none 0 0,.string ⟨#[]⟩]) (by simp[results,Tryz.results11,go_sem]) rfl ?_
  rw[hq.out]
  exact⟨.slice none 0 0,rfl,fieldsAt_none _ 0,(Gr.alloc _ _).alloc1 _⟩
 have hq:=hid (show serveH r=⟨404,[],[110,111,116,32,102,111,117,110,100]⟩ by unfold serveH;rw[if_neg h0,if_neg h1,if_neg h2,if_neg h3])
 have b0:(r.p==[47])=false:=beq_false_of_ne h0
 have b1:(r.p==[47,119,115])=false:=beq_false_of_ne h1
 have b2:(r.p==[47,101,99,104,111])=false:=beq_false_of_ne h2
 have b3:(r.p==[47,98,97,100])=false:=beq_false_of_ne h3
 clear h0 h1 h2 h3
 go_enter Tryz.func11,Tryz.ntmps11
 go_wp2
 refine bodyPost_ret (v:=.agg #[.int .i64 404,.slice none 0 0,.string ⟨#[110,111,116,32,102,111,117,110,100]⟩]) (by simp[results,Tryz.results11,go_sem]) rfl ?_
 rw[hq.out]
 exact⟨.slice none 0 0,rfl,fieldsAt_none _ 0,(Gr.alloc _ _).alloc1 _⟩
def getB' (p:List UInt8):List UInt8:=[71,69,84,32]++(p++[32,72,84,84,80,47,49,46,49,13,10,72,111,115,116,58,32,97,13,10,13,10])
theorem lget_any (p:List UInt8) (hp:p.length≤100000) (W:World):Calls Tryz.prog 18 #[.string ⟨p.toArray⟩] W fun e w'=>e=.returned (.string ⟨(getB' p).toArray⟩)∧W=w':=by
 have c1:(⟨#[71,69,84,32]⟩:ByteArray)++⟨p.toArray⟩=⟨([71,69,84,32]++p).toArray⟩:=cat_mk _ _
 have c2:(⟨([71,69,84,32]++p).toArray⟩:ByteArray)++⟨#[32,72,84,84,80,47,49,46,49,13,10,72,111,115,116,58,32,97,13,10,13,10]⟩=⟨(getB' p).toArray⟩:=by
  refine (cat_mk ([71,69,84,32]++p) [32,72,84,84,80,47,49,46,49,13,10,72,111,115,116,58,32,97,13,10,13,10]).trans ?_
  unfold getB'
  rw[List.append_assoc]
 have hl:¬9223372036854775807<4+p.length:=by omega
 have hl2:¬9223372036854775807<4+p.length+22:=by omega
 go_enter Tryz.func18,Tryz.ntmps18
 go_wp2
 go_ret
 exact⟨rfl,rfl⟩
theorem lask_any (W:World):Calls Tryz.prog 19 #[] W fun e w'=>e=.returned (.string ⟨askL.toArray⟩)∧W=w':=by
 go_enter Tryz.func19,Tryz.ntmps19
 go_wp2
 go_ret
 exact⟨rfl,rfl⟩
theorem ltold_any (W:World):Calls Tryz.prog 33 #[] W fun e w'=>e=.returned (.string ⟨toldL.toArray⟩)∧W=w':=by
 go_enter Tryz.func33,Tryz.ntmps33
 go_wp2
 go_ret
 exact⟨rfl,rfl⟩
end Go.Proofs.YtadobobfjnmdlaaGreatDoor
