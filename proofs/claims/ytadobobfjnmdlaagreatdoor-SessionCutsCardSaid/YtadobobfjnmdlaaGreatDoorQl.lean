/-
  What waits to be written, in memory: the next one.
-/
import Derived.Test.YtadobobfjnmdlaaGreatDoorQg
set_option linter.unnecessarySimpa false
set_option linter.unusedVariables false
set_option linter.unusedSimpArgs false
set_option maxHeartbeats 16000000
set_option maxRecDepth 100000
open Go.Lib (hid)
open Go.Proofs.Tryz
namespace Go.Proofs.YtadobobfjnmdlaaGreatDoor
open Go.RowKit Go.Shelf
attribute [local go_sem] Oper.semAt_some
structure RbZ (rb:Nat) (W:World):Prop where
 k:W.cell? ⟨rb,0,none⟩=some (.int .i64 0)
 o:W.cell? ⟨rb,1,none⟩=some (.int .i64 0)
 t:W.cell? ⟨rb,2,none⟩=some (.string ⟨#[]⟩)
 fz:∀ o,W.frozen? ⟨rb,o,none⟩=false
theorem RbZ.lt {rb:Nat} {W:World} (h:RbZ rb W):rb<W.heap.size:=cell_lt h.k
theorem RbZ.ch {rb:Nat} {T:Nat→Prop} {W W':World} (h:RbZ rb W) (hc:Ch T W W') (hT:¬T rb):RbZ rb W' :=
 ⟨(hc.cell (p:=⟨rb,0,none⟩) h.lt hT).trans h.k,(hc.cell (p:=⟨rb,1,none⟩) h.lt hT).trans h.o,(hc.cell (p:=⟨rb,2,none⟩) h.lt hT).trans h.t,λo=>(hc.frozen (p:=⟨rb,o,none⟩) h.lt hT).trans (h.fz o)⟩
theorem RbZ.gr {rb:Nat} {W W':World} (h:RbZ rb W) (g:Gr W W'):RbZ rb W':=h.ch (g.to_ch (λ_=>False)) id
theorem rbZ_new (W:World) (t:TypeId):RbZ W.heap.size (W.alloc (.cells #[.int .i64 0,.int .i64 0,.string ⟨#[]⟩] t)) :=
 ⟨cell_new7 _ _ _ 0 _ rfl,cell_new7 _ _ _ 1 _ rfl,cell_new7 _ _ _ 2 _ rfl,λ_=>World.frozen?_alloc_at _ _ _ _ rfl⟩
theorem BxS.fin {b rb:Nat} {c:Nat→Nat} {T:Nat→Prop} {W W2:World} {x:Bx} {r1 r2:Nat} {pv cv:Value} (h:BxS b c W2 x r1 r2 pv cv) (hl:∀ k,T k→k<W.heap.size) (hc:Ch T W W2) (hk:∀ k,c k≠0→T k∨New W W2 k) (h0:c rb=0) (hge:W.heap.size≤rb) (v0 v1 v2:Value) :
  Pst (BxAt b) T W x (((W2.setCell ⟨rb,0,none⟩ v0).setCell ⟨rb,1,none⟩ v1).setCell ⟨rb,2,none⟩ v2):=by
 have e:Ch (λk=>k=rb) W2 (((W2.setCell ⟨rb,0,none⟩ v0).setCell ⟨rb,1,none⟩ v1).setCell ⟨rb,2,none⟩ v2) :=
  ((Ch.setCell (T:=λk=>k=rb) _ (a:=⟨rb,0,none⟩) rfl _).trans (Ch.setCell (T:=λk=>k=rb) _ (a:=⟨rb,1,none⟩) rfl _)).trans (Ch.setCell (T:=λk=>k=rb) _ (a:=⟨rb,2,none⟩) rfl _)
 refine (h.frame e (λk hk e=>hk (by rw[show k=rb from e];exact h0))).pst hl (hc.drop_new e (λj hj=>.inr (by rw[show j=rb from hj];exact hge))) (λk hk'=>(hk k hk').imp id (λe=>⟨e.1,?_⟩))
 rw[World.size_setCell,World.size_setCell,World.size_setCell];exact e.2
def nextV (o:Option It):Value:=.tuple #[(o.getD it0).V,.bool o.isSome]
theorem nextV_some (x:It):nextV (some x)=.tuple #[x.V,.bool true]:=rfl
theorem nextV_none:nextV none=.tuple #[it0.V,.bool false]:=rfl
theorem step_imp {c:Nat→Nat} {T:Nat→Prop} {W w1 w2:World} {j:Nat} (hT:∀ k,c k≠0→T k) (hs:W.heap.size≤w1.heap.size):∀ k,recol c w1 w2 j k≠0→T k∨New W w2 k :=
 λk e=>(recol_imp k e).imp (hT k) (λe=>⟨Nat.le_trans hs e.1,e.2⟩)
theorem bnext_reps {b:Nat} {T:Nat→Prop} {W:World} {x:Bx} {s:List UInt8} {l:List (List UInt8)} (hx:x.reps=s :: l) (h:BxAt b T W x) :
  Calls prog 43 #[.pointer (some ⟨b,0,none⟩)] W λe w'=>e=.returned (nextV (some ⟨1,0,s⟩))∧Pst (BxAt b) T W { x with reps:=l } w':=by
 obtain⟨⟨c,r1,r2,pv,cv,h,hT⟩,hl⟩:=h
 obtain⟨w1,hw1⟩:∃ w1,W.alloc (.cells #[.int .i64 0,.int .i64 0,.string ⟨#[]⟩] 81)=w1:=⟨_,rfl⟩
 have g1:Gr W w1:=hw1▸Gr.alloc _ _
 have hz:RbZ W.heap.size w1:=hw1▸rbZ_new _ _
 have h0:c W.heap.size=0:=Decidable.byContradiction λe=>Nat.lt_irrefl _ (h.lt _ e)
 have h1:=h.gr g1
 have c0:=h1.c0
 have hn:=hid (bnone_any h1)
 have hp:=hid (rpop_some_at (hx▸h1.k1))
 have h1':=hid h1
 have hT':=hid hT
 have hl':=hid hl
 have g1':=hid g1
 have hz':=hid hz
 clear h h1 hT hl g1 hz
 rw[nextV_some]
 go_enter func43,ntmps43
 go_wp2_with fail
 refine (hn.out).mono ?_
 rintro e w9⟨rfl,rfl⟩
 go_wp2_with fail
 refine (hp.out).mono ?_
 rintro e w2⟨rfl,hP⟩
 have hz2:=hz'.out.ch hP.2 (by rw[h0];decide)
 obtain⟨z0,z1,z2,z3⟩:=hz2
 have hP':=hid hP
 clear hP
 go_wp2
 refine bodyPost_ret (v:=.tuple #[(⟨1,0,s⟩:It).V,.bool true]) (by simp[results,results43,go_sem,It.V,z0,z1,z2]) rfl ⟨rfl,?_⟩
 have hs:=Below.size g1'.out
 exact (h1'.out.reps hP'.out).fin hl'.out ((g1'.out.to_ch T).trans (hP'.out.2.mono (λk e=>hT'.out k (by rw[show c k=2 from e];decide)))) (step_imp hT'.out hs) (by rw[recol_old hz'.out.lt];exact h0) (Nat.le_refl _) _ _ _
theorem bnext_pong {b:Nat} {T:Nat→Prop} {W:World} {x:Bx} {s:List UInt8} (hr:x.reps=[]) (hq:x.pong=some s) (h:BxAt b T W x) :
  Calls prog 43 #[.pointer (some ⟨b,0,none⟩)] W λe w'=>e=.returned (nextV (some ⟨2,0,s⟩))∧Pst (BxAt b) T W { x with pong:=none } w':=by
 obtain⟨⟨c,r1,r2,pv,cv,h,hT⟩,hl⟩:=h
 obtain⟨w1,hw1⟩:∃ w1,W.alloc (.cells #[.int .i64 0,.int .i64 0,.string ⟨#[]⟩] 81)=w1:=⟨_,rfl⟩
 have g1:Gr W w1:=hw1▸Gr.alloc _ _
 have hz:RbZ W.heap.size w1:=hw1▸rbZ_new _ _
 have h0:c W.heap.size=0:=Decidable.byContradiction λe=>Nat.lt_irrefl _ (h.lt _ e)
 have hbr:b≠W.heap.size:=by
  intro e
  have:=h.cb
  rw[e,h0] at this
  cases this
 have hrb:W.heap.size≠b:=hbr.symm
 have h1:=h.gr g1
 have c0:=h1.c0
 have hn:=hid (bnone_any h1)
 have hp:=hid (rpop_none_at (hr▸h1.k1))
 have c2:=h1.c2
 have k3:=h1.k3
 rw[hq] at k3
 obtain⟨t,rfl,ht,hcell⟩:=k3
 have hbT:T b:=hT b (by rw[h1.cb];decide)
 have fz:=h1.fz
 have hbl:b<w1.heap.size:=cell_lt c0
 have h1':=hid h1
 have hT':=hid hT
 have hl':=hid hl
 have g1':=hid g1
 have hz':=hid hz
 clear h h1 hT hl g1 hz
 rw[nextV_some]
 go_enter func43,ntmps43
 go_wp2_with fail
 refine (hn.out).mono ?_
 rintro e w9⟨rfl,rfl⟩
 go_wp2_with fail
 refine (hp.out).mono ?_
 rintro e w9⟨rfl,rfl⟩
 obtain⟨z0,z1,z2,z3⟩:=hz'.out
 go_wp2
 refine bodyPost_ret (v:=.tuple #[(⟨2,0,s⟩:It).V,.bool true]) (by simp[results,results43,go_sem,It.V,it0,z0,z1,z2,hbr,hrb]) rfl ⟨rfl,?_⟩
 have hs:=Below.size g1'.out
 exact (h1'.out.setPong (q:=none) (u:=.pointer none) rfl).fin hl'.out ((g1'.out.to_ch T).trans (Ch.setCell w1 (a:=⟨b,2,none⟩) hbT _)) (λk e=>.inl (hT'.out k e)) h0 (Nat.le_refl _) _ _ _
theorem bnext_msg {b:Nat} {T:Nat→Prop} {W:World} {x:Bx} {y:It} {l:List It} (hr:x.reps=[]) (hq:x.pong=none) (hm:x.msgs=y :: l) (h:BxAt b T W x) :
  Calls prog 43 #[.pointer (some ⟨b,0,none⟩)] W λe w'=>e=.returned (nextV (some y))∧Pst (BxAt b) T W { x with msgs:=l } w':=by
 obtain⟨⟨c,r1,r2,pv,cv,h,hT⟩,hl⟩:=h
 obtain⟨w1,hw1⟩:∃ w1,W.alloc (.cells #[.int .i64 0,.int .i64 0,.string ⟨#[]⟩] 81)=w1:=⟨_,rfl⟩
 have g1:Gr W w1:=hw1▸Gr.alloc _ _
 have hz:RbZ W.heap.size w1:=hw1▸rbZ_new _ _
 have h0:c W.heap.size=0:=Decidable.byContradiction λe=>Nat.lt_irrefl _ (h.lt _ e)
 have hbr:b≠W.heap.size:=by
  intro e
  have:=h.cb
  rw[e,h0] at this
  cases this
 have hrb:W.heap.size≠b:=hbr.symm
 have h1:=h.gr g1
 have c0:=h1.c0
 have hn:=hid (bnone_any h1)
 have hp:=hid (rpop_none_at (hr▸h1.k1))
 have c2:=h1.c2
 have k3:=h1.k3
 rw[hq] at k3
 have k3:pv=.pointer none:=k3
 subst k3
 have c1:=h1.c1
 have hpi:=hid (ipop_some_at (hm▸h1.k2))
 have hbT:T b:=hT b (by rw[h1.cb];decide)
 have fz:=h1.fz
 have hbl:b<w1.heap.size:=cell_lt c0
 have h1':=hid h1
 have hT':=hid hT
 have hl':=hid hl
 have g1':=hid g1
 have hz':=hid hz
 clear h h1 hT hl g1 hz
 rw[nextV_some]
 go_enter func43,ntmps43
 go_wp2_with fail
 refine (hn.out).mono ?_
 rintro e w9⟨rfl,rfl⟩
 go_wp2_with fail
 refine (hp.out).mono ?_
 rintro e w9⟨rfl,rfl⟩
 go_wp2_with fail
 refine (hpi.out).mono ?_
 rintro e w2⟨rfl,hP⟩
 have hz2:=hz'.out.ch hP.2 (by rw[h0];decide)
 have hz3:=hid hz2.lt
 obtain⟨z0,z1,z2,z3⟩:=hz2
 have hP':=hid hP
 clear hP
 unfold It.V
 have hlt2:W.heap.size<w2.heap.size:=hz3.out
 go_wp2
 refine bodyPost_ret (v:=.tuple #[.agg #[.int .i64 y.kind,.int .i64 y.op,.string ⟨y.text.toArray⟩],.bool true]) (by simp[results,results43,go_sem,z0,z1,z2,hlt2,Nat.ne_of_lt hlt2,Nat.ne_of_gt hlt2]) rfl ⟨rfl,?_⟩
 have hs:=Below.size g1'.out
 exact (bxKin b).behind ((h1'.out.msgs hP'.out).fin hl'.out ((g1'.out.to_ch T).trans (hP'.out.2.mono (λk e=>hT'.out k (by rw[show c k=3 from e];decide)))) (step_imp hT'.out hs) (by rw[recol_old hz'.out.lt];exact h0) (Nat.le_refl _) _ _ _) (Gr.alloc _ _)
theorem bnext_close {b:Nat} {T:Nat→Prop} {W:World} {x:Bx} {s:List UInt8} (hr:x.reps=[]) (hq:x.pong=none) (hm:x.msgs=[]) (hc:x.close=some s) (h:BxAt b T W x) :
  Calls prog 43 #[.pointer (some ⟨b,0,none⟩)] W λe w'=>e=.returned (nextV (some ⟨4,0,s⟩))∧Pst (BxAt b) T W { x with close:=none } w':=by
 obtain⟨⟨c,r1,r2,pv,cv,h,hT⟩,hl⟩:=h
 obtain⟨w1,hw1⟩:∃ w1,W.alloc (.cells #[.int .i64 0,.int .i64 0,.string ⟨#[]⟩] 81)=w1:=⟨_,rfl⟩
 have g1:Gr W w1:=hw1▸Gr.alloc _ _
 have hz:RbZ W.heap.size w1:=hw1▸rbZ_new _ _
 have h0:c W.heap.size=0:=Decidable.byContradiction λe=>Nat.lt_irrefl _ (h.lt _ e)
 have hbr:b≠W.heap.size:=by
  intro e
  have:=h.cb
  rw[e,h0] at this
  cases this
 have hrb:W.heap.size≠b:=hbr.symm
 have h1:=h.gr g1
 have c0:=h1.c0
 have hn:=hid (bnone_any h1)
 have hp:=hid (rpop_none_at (hr▸h1.k1))
 have c2:=h1.c2
 have k3:=h1.k3
 rw[hq] at k3
 have k3:pv=.pointer none:=k3
 subst k3
 have c1:=h1.c1
 have hpi:=hid (ipop_none_at (hm▸h1.k2))
 have hbT:T b:=hT b (by rw[h1.cb];decide)
 have fz:=h1.fz
 have hbl:b<w1.heap.size:=cell_lt c0
 have h1':=hid h1
 have hT':=hid hT
 have hl':=hid hl
 have g1':=hid g1
 have hz':=hid hz
 clear h h1 hT hl g1 hz
 rw[nextV_some]
 go_enter func43,ntmps43
 go_wp2_with fail
 refine (hn.out).mono ?_
 rintro e w9⟨rfl,rfl⟩
 go_wp2_with fail
 refine (hp.out).mono ?_
 rintro e w9⟨rfl,rfl⟩
 go_wp2_with fail
 refine (hpi.out).mono ?_
 rintro e w2⟨rfl,hg2⟩
 have h2:=h1'.out.gr hg2
 have hz2:=hz'.out.gr hg2
 have c3:=h2.c3
 have k4:=h2.k4
 rw[hc] at k4
 obtain⟨t,rfl,ht,hcell⟩:=k4
 have htl:t<w2.heap.size:=cell_lt hcell
 have fz2:=h2.fz
 have hbl2:b<w2.heap.size:=cell_lt h2.c0
 have hlt2:W.heap.size<w2.heap.size:=hz2.lt
 obtain⟨z0,z1,z2,z3⟩:=hz2
 have h2':=hid h2
 have hg2':=hid (g1'.out.trans hg2)
 clear hg2 h2
 unfold It.V it0
 go_wp2
 refine bodyPost_ret (v:=.tuple #[(⟨4,0,s⟩:It).V,.bool true]) (by simp[results,results43,go_sem,It.V,it0,z0,z1,z2,hbr,hrb,hlt2,Nat.ne_of_lt hlt2,Nat.ne_of_gt hlt2]) rfl ⟨rfl,?_⟩
 exact (bxKin b).behind ((h2'.out.setClose (q:=none) (u:=.pointer none) rfl).fin hl'.out ((hg2'.out.to_ch T).trans (Ch.setCell w2 (a:=⟨b,3,none⟩) hbT _)) (λk e=>.inl (hT'.out k e)) h0 (Nat.le_refl _) _ _ _) (Gr.alloc _ _)
theorem bnext_end {b:Nat} {T:Nat→Prop} {W:World} {x:Bx} (hr:x.reps=[]) (hq:x.pong=none) (hm:x.msgs=[]) (hc:x.close=none) (he:x.ends=true) (ht:x.told=false) (h:BxAt b T W x) :
  Calls prog 43 #[.pointer (some ⟨b,0,none⟩)] W λe w'=>e=.returned (nextV (some ⟨5,0,[]⟩))∧Pst (BxAt b) T W { x with told:=true } w':=by
 obtain⟨⟨c,r1,r2,pv,cv,h,hT⟩,hl⟩:=h
 obtain⟨w1,hw1⟩:∃ w1,W.alloc (.cells #[.int .i64 0,.int .i64 0,.string ⟨#[]⟩] 81)=w1:=⟨_,rfl⟩
 have g1:Gr W w1:=hw1▸Gr.alloc _ _
 have hz:RbZ W.heap.size w1:=hw1▸rbZ_new _ _
 have h0:c W.heap.size=0:=Decidable.byContradiction λe=>Nat.lt_irrefl _ (h.lt _ e)
 have hbr:b≠W.heap.size:=by
  intro e
  have:=h.cb
  rw[e,h0] at this
  cases this
 have hrb:W.heap.size≠b:=hbr.symm
 have h1:=h.gr g1
 have c0:=h1.c0
 have hn:=hid (bnone_any h1)
 have hp:=hid (rpop_none_at (hr▸h1.k1))
 have c2:=h1.c2
 have k3:=h1.k3
 rw[hq] at k3
 have k3:pv=.pointer none:=k3
 subst k3
 have c1:=h1.c1
 have hpi:=hid (ipop_none_at (hm▸h1.k2))
 have hbT:T b:=hT b (by rw[h1.cb];decide)
 have fz:=h1.fz
 have hbl:b<w1.heap.size:=cell_lt c0
 have h1':=hid h1
 have hT':=hid hT
 have hl':=hid hl
 have g1':=hid g1
 have hz':=hid hz
 clear h h1 hT hl g1 hz
 rw[nextV_some]
 go_enter func43,ntmps43
 go_wp2_with fail
 refine (hn.out).mono ?_
 rintro e w9⟨rfl,rfl⟩
 go_wp2_with fail
 refine (hp.out).mono ?_
 rintro e w9⟨rfl,rfl⟩
 go_wp2_with fail
 refine (hpi.out).mono ?_
 rintro e w2⟨rfl,hg2⟩
 have h2:=h1'.out.gr hg2
 have hz2:=hz'.out.gr hg2
 have c3:=h2.c3
 have k4:=h2.k4
 rw[hc] at k4
 have k4:cv=.pointer none:=k4
 subst k4
 have c5:=h2.c5
 have c6:=h2.c6
 rw[he] at c5
 rw[ht] at c6
 have fz2:=h2.fz
 have hbl2:b<w2.heap.size:=cell_lt h2.c0
 have hlt2:W.heap.size<w2.heap.size:=hz2.lt
 obtain⟨z0,z1,z2,z3⟩:=hz2
 have h2':=hid h2
 have hg2':=hid (g1'.out.trans hg2)
 clear hg2 h2
 unfold It.V it0
 go_wp2
 refine bodyPost_ret (v:=.tuple #[(⟨5,0,[]⟩:It).V,.bool true]) (by simp[results,results43,go_sem,It.V,it0,z0,z1,z2,hbr,hrb,hlt2,Nat.ne_of_lt hlt2,Nat.ne_of_gt hlt2]) rfl ⟨rfl,?_⟩
 exact (bxKin b).behind ((h2'.out.setTold true).fin hl'.out ((hg2'.out.to_ch T).trans (Ch.setCell w2 (a:=⟨b,6,none⟩) hbT _)) (λk e=>.inl (hT'.out k e)) h0 (Nat.le_refl _) _ _ _) (Gr.alloc _ _)
theorem bnext_none1 {b:Nat} {T:Nat→Prop} {W:World} {x:Bx} (hr:x.reps=[]) (hq:x.pong=none) (hm:x.msgs=[]) (hc:x.close=none) (he:x.ends=false) (h:BxAt b T W x) :
  Calls prog 43 #[.pointer (some ⟨b,0,none⟩)] W λe w'=>e=.returned (nextV none)∧Pst (BxAt b) T W x w':=by
 obtain⟨⟨c,r1,r2,pv,cv,h,hT⟩,hl⟩:=h
 obtain⟨w1,hw1⟩:∃ w1,W.alloc (.cells #[.int .i64 0,.int .i64 0,.string ⟨#[]⟩] 81)=w1:=⟨_,rfl⟩
 have g1:Gr W w1:=hw1▸Gr.alloc _ _
 have hz:RbZ W.heap.size w1:=hw1▸rbZ_new _ _
 have h0:c W.heap.size=0:=Decidable.byContradiction λe=>Nat.lt_irrefl _ (h.lt _ e)
 have hbr:b≠W.heap.size:=by
  intro e
  have:=h.cb
  rw[e,h0] at this
  cases this
 have hrb:W.heap.size≠b:=hbr.symm
 have h1:=h.gr g1
 have c0:=h1.c0
 have hn:=hid (bnone_any h1)
 have hp:=hid (rpop_none_at (hr▸h1.k1))
 have c2:=h1.c2
 have k3:=h1.k3
 rw[hq] at k3
 have k3:pv=.pointer none:=k3
 subst k3
 have c1:=h1.c1
 have hpi:=hid (ipop_none_at (hm▸h1.k2))
 have hbT:T b:=hT b (by rw[h1.cb];decide)
 have fz:=h1.fz
 have hbl:b<w1.heap.size:=cell_lt c0
 have h1':=hid h1
 have hT':=hid hT
 have hl':=hid hl
 have g1':=hid g1
 have hz':=hid hz
 clear h h1 hT hl g1 hz
 rw[nextV_none]
 go_enter func43,ntmps43
 go_wp2_with fail
 refine (hn.out).mono ?_
 rintro e w9⟨rfl,rfl⟩
 go_wp2_with fail
 refine (hp.out).mono ?_
 rintro e w9⟨rfl,rfl⟩
 go_wp2_with fail
 refine (hpi.out).mono ?_
 rintro e w2⟨rfl,hg2⟩
 have h2:=h1'.out.gr hg2
 have hz2:=hz'.out.gr hg2
 have c3:=h2.c3
 have k4:=h2.k4
 rw[hc] at k4
 have k4:cv=.pointer none:=k4
 subst k4
 have c5:=h2.c5
 have c6:=h2.c6
 rw[he] at c5
 have fz2:=h2.fz
 have hbl2:b<w2.heap.size:=cell_lt h2.c0
 have hlt2:W.heap.size<w2.heap.size:=hz2.lt
 obtain⟨z0,z1,z2,z3⟩:=hz2
 have h2':=hid h2
 have hg2':=hid (g1'.out.trans hg2)
 clear hg2 h2
 unfold It.V it0
 go_wp2
 refine bodyPost_ret (v:=.tuple #[it0.V,.bool false]) (by simp[results,results43,go_sem,It.V,it0,z0,z1,z2,hbr,hrb,hlt2,Nat.ne_of_lt hlt2,Nat.ne_of_gt hlt2]) rfl ⟨rfl,?_⟩
 exact (bxKin b).behind ((h2'.out).fin hl'.out (hg2'.out.to_ch T) (λk e=>.inl (hT'.out k e)) h0 (Nat.le_refl _) _ _ _) (Gr.alloc _ _)
theorem bnext_none2 {b:Nat} {T:Nat→Prop} {W:World} {x:Bx} (hr:x.reps=[]) (hq:x.pong=none) (hm:x.msgs=[]) (hc:x.close=none) (he:x.ends=true) (ht:x.told=true) (h:BxAt b T W x) :
  Calls prog 43 #[.pointer (some ⟨b,0,none⟩)] W λe w'=>e=.returned (nextV none)∧Pst (BxAt b) T W x w':=by
 obtain⟨⟨c,r1,r2,pv,cv,h,hT⟩,hl⟩:=h
 obtain⟨w1,hw1⟩:∃ w1,W.alloc (.cells #[.int .i64 0,.int .i64 0,.string ⟨#[]⟩] 81)=w1:=⟨_,rfl⟩
 have g1:Gr W w1:=hw1▸Gr.alloc _ _
 have hz:RbZ W.heap.size w1:=hw1▸rbZ_new _ _
 have h0:c W.heap.size=0:=Decidable.byContradiction λe=>Nat.lt_irrefl _ (h.lt _ e)
 have hbr:b≠W.heap.size:=by
  intro e
  have:=h.cb
  rw[e,h0] at this
  cases this
 have hrb:W.heap.size≠b:=hbr.symm
 have h1:=h.gr g1
 have c0:=h1.c0
 have hn:=hid (bnone_any h1)
 have hp:=hid (rpop_none_at (hr▸h1.k1))
 have c2:=h1.c2
 have k3:=h1.k3
 rw[hq] at k3
 have k3:pv=.pointer none:=k3
 subst k3
 have c1:=h1.c1
 have hpi:=hid (ipop_none_at (hm▸h1.k2))
 have hbT:T b:=hT b (by rw[h1.cb];decide)
 have fz:=h1.fz
 have hbl:b<w1.heap.size:=cell_lt c0
 have h1':=hid h1
 have hT':=hid hT
 have hl':=hid hl
 have g1':=hid g1
 have hz':=hid hz
 clear h h1 hT hl g1 hz
 rw[nextV_none]
 go_enter func43,ntmps43
 go_wp2_with fail
 refine (hn.out).mono ?_
 rintro e w9⟨rfl,rfl⟩
 go_wp2_with fail
 refine (hp.out).mono ?_
 rintro e w9⟨rfl,rfl⟩
 go_wp2_with fail
 refine (hpi.out).mono ?_
 rintro e w2⟨rfl,hg2⟩
 have h2:=h1'.out.gr hg2
 have hz2:=hz'.out.gr hg2
 have c3:=h2.c3
 have k4:=h2.k4
 rw[hc] at k4
 have k4:cv=.pointer none:=k4
 subst k4
 have c5:=h2.c5
 have c6:=h2.c6
 rw[he] at c5
 rw[ht] at c6
 have fz2:=h2.fz
 have hbl2:b<w2.heap.size:=cell_lt h2.c0
 have hlt2:W.heap.size<w2.heap.size:=hz2.lt
 obtain⟨z0,z1,z2,z3⟩:=hz2
 have h2':=hid h2
 have hg2':=hid (g1'.out.trans hg2)
 clear hg2 h2
 unfold It.V it0
 go_wp2
 refine bodyPost_ret (v:=.tuple #[it0.V,.bool false]) (by simp[results,results43,go_sem,It.V,it0,z0,z1,z2,hbr,hrb,hlt2,Nat.ne_of_lt hlt2,Nat.ne_of_gt hlt2]) rfl ⟨rfl,?_⟩
 exact (bxKin b).behind ((h2'.out).fin hl'.out (hg2'.out.to_ch T) (λk e=>.inl (hT'.out k e)) h0 (Nat.le_refl _) _ _ _) (Gr.alloc _ _)
theorem bnext_any {b:Nat} {T:Nat→Prop} {W:World} {x:Bx} (h:BxAt b T W x) :
  Calls prog 43 #[.pointer (some ⟨b,0,none⟩)] W λe w'=>e=.returned (nextV (bxNext x).2)∧Pst (BxAt b) T W (bxNext x).1 w':=by
 obtain⟨q,reps,pong,msgs,close,closed,ends,told⟩:=x
 cases reps with
 | cons s l=>exact bnext_reps rfl h
 | nil =>
  cases pong with
  | some s=>exact bnext_pong rfl rfl h
  | none =>
   cases msgs with
   | cons y l=>exact bnext_msg rfl rfl rfl h
   | nil =>
    cases close with
    | some s=>exact bnext_close rfl rfl rfl rfl h
    | none =>
     cases ends with
     | false=>exact bnext_none1 rfl rfl rfl rfl rfl h
     | true =>
      cases told with
      | false=>exact bnext_end rfl rfl rfl rfl rfl rfl h
      | true=>exact bnext_none2 rfl rfl rfl rfl rfl rfl h
theorem bnew_any (q:Nat) (W:World) (h1:1≤q) (h2:q≤64) :
  Calls prog 36 #[.int .i64 q] W λe w'=>∃ b,e=.returned (.tuple #[.pointer (some ⟨b,0,none⟩),.int .i64 0])∧BxAt b (New W w') w' (bx0 q)∧Gr W w':=by
 have a1:¬(q:Int)<1:=by omega
 have a2:¬(64:Int)<q:=by omega
 have hp:=hid (rnew_at 4 W (by decide) (by decide))
 go_enter func36,ntmps36
 go_wp2_with fail
 refine (hp.out).mono ?_
 rintro e w1⟨rfl,hR,g1,s1⟩
 clear s1
 have hp2:=hid (inew_at q w1 h1 (by omega))
 go_wp2_with fail
 refine (hp2.out).mono ?_
 rintro e w2⟨rfl,hI,g2,s2⟩
 clear s2
 have hR':=hid hR
 have hI':=hid hI
 have g1':=hid g1
 have g2':=hid g2
 clear hR hI g1 g2 hp hp2
 go_wp2
 go_ret2
 refine⟨w2.heap.size,rfl,?_,(g1'.out.trans g2'.out).alloc1 _⟩
 have g3:=Gr.alloc w2 (.cells #[.pointer (some ⟨W.heap.size,0,none⟩),.pointer (some ⟨w1.heap.size,0,none⟩),.pointer none,.pointer none,.bool false,.bool false,.bool false] 112)
 have l1:W.heap.size<w1.heap.size:=hR'.out.2 _ rfl
 have l2:w1.heap.size<w2.heap.size:=hI'.out.2 _ rfl
 refine⟨⟨λk=>if k=w2.heap.size then 1 else if k=W.heap.size then 2 else if k=w1.heap.size then 3 else 0,W.heap.size,w1.heap.size,.pointer none,.pointer none,⟨cell_new7 _ _ _ 0 _ rfl,cell_new7 _ _ _ 1 _ rfl,cell_new7 _ _ _ 2 _ rfl,cell_new7 _ _ _ 3 _ rfl,cell_new7 _ _ _ 4 _ rfl,cell_new7 _ _ _ 5 _ rfl,cell_new7 _ _ _ 6 _ rfl,λo=>World.frozen?_alloc_at _ _ _ _ rfl,by simp,?_,?_,rfl,rfl,?_⟩,?_⟩,λk e=>e.2⟩
 ·refine (rgKin _ _).mono ((rgKin _ _).gr hR'.out (g2'.out.trans g3)) (λk e=>?_) (λk e=>?_)
  ·subst e
   rw[if_neg (by omega),if_pos rfl]
  ·have:k=W.heap.size:=by
    split at e
    ·cases e
    ·split at e
     ·assumption
     ·split at e <;> cases e
   subst this
   simp;omega
 ·refine (riKin _ _).mono ((riKin _ _).gr hI'.out g3) (λk e=>?_) (λk e=>?_)
  ·subst e
   rw[if_neg (by omega),if_neg (by omega),if_pos rfl]
  ·have:k=w1.heap.size:=by
    split at e
    ·cases e
    ·split at e
     ·cases e
     ·split at e
      ·assumption
      ·cases e
   subst this
   simp;omega
 ·intro k e
  simp
  by_cases e1:k=w2.heap.size
  ·omega
  ·by_cases e2:k=W.heap.size
   ·omega
   ·by_cases e3:k=w1.heap.size
    ·omega
    ·simp[e1,e2,e3] at e
 ·intro k e
  refine⟨?_,?_⟩
  ·by_cases e1:k=w2.heap.size
   ·omega
   ·by_cases e2:k=W.heap.size
    ·omega
    ·by_cases e3:k=w1.heap.size
     ·omega
     ·simp[e1,e2,e3] at e
  ·simp
   by_cases e1:k=w2.heap.size
   ·omega
   ·by_cases e2:k=W.heap.size
    ·omega
    ·by_cases e3:k=w1.heap.size
     ·omega
     ·simp[e1,e2,e3] at e
theorem bwaits_1 {b:Nat} {c:Nat→Nat} {W:World} {x:Bx} {r1 r2:Nat} {pv cv:Value} {s:List UInt8} {l:List (List UInt8)} (hr:x.reps=s :: l) (h:BxS b c W x r1 r2 pv cv) :
  Calls prog 51 #[.pointer (some ⟨b,0,none⟩)] W λe w'=>e=.returned (.bool true)∧W=w':=by
 have hn:=hid (bnone_any h)
 have c0:=h.c0
 have h1:=rlen_at h.k1
 rw[hr] at h1
 have hlen:(0:Int)<(l.length:Int)+1:=by omega
 have h1:=hid h1
 clear h
 go_enter func51,ntmps51
 go_wp2_with fail
 refine (hn.out).mono ?_
 rintro e w1⟨rfl,rfl⟩
 go_wp2_with fail
 refine (h1.out).mono ?_
 rintro e w1⟨rfl,rfl⟩
 go_wp2
 go_ret
 exact⟨rfl,rfl⟩
theorem bwaits_2 {b:Nat} {c:Nat→Nat} {W:World} {x:Bx} {r1 r2:Nat} {pv cv:Value} {s:List UInt8} (hr:x.reps=[]) (hq:x.pong=some s) (h:BxS b c W x r1 r2 pv cv) :
  Calls prog 51 #[.pointer (some ⟨b,0,none⟩)] W λe w'=>e=.returned (.bool true)∧W=w':=by
 have hn:=hid (bnone_any h)
 have c0:=h.c0
 have h1:=rlen_at h.k1
 rw[hr] at h1
 have c2:=h.c2
 have k3:=h.k3
 rw[hq] at k3
 obtain⟨t,rfl,_,_⟩:=k3
 have h1:=hid h1
 clear h
 go_enter func51,ntmps51
 go_wp2_with fail
 refine (hn.out).mono ?_
 rintro e w1⟨rfl,rfl⟩
 go_wp2_with fail
 refine (h1.out).mono ?_
 rintro e w1⟨rfl,rfl⟩
 go_wp2
 go_ret
 exact⟨rfl,rfl⟩
theorem bwaits_3 {b:Nat} {c:Nat→Nat} {W:World} {x:Bx} {r1 r2:Nat} {pv cv:Value} {y:It} {l:List It} (hr:x.reps=[]) (hq:x.pong=none) (hm:x.msgs=y :: l) (h:BxS b c W x r1 r2 pv cv) :
  Calls prog 51 #[.pointer (some ⟨b,0,none⟩)] W λe w'=>e=.returned (.bool true)∧W=w':=by
 have hn:=hid (bnone_any h)
 have c0:=h.c0
 have h1:=rlen_at h.k1
 rw[hr] at h1
 have c2:=h.c2
 have k3:=h.k3
 rw[hq] at k3
 have k3:pv=.pointer none:=k3
 subst k3
 have c1:=h.c1
 have h2:=ilen_at h.k2
 rw[hm] at h2
 have h2:=hid h2
 have hlen:(0:Int)<(l.length:Int)+1:=by omega
 have h1:=hid h1
 clear h
 go_enter func51,ntmps51
 go_wp2_with fail
 refine (hn.out).mono ?_
 rintro e w1⟨rfl,rfl⟩
 go_wp2_with fail
 refine (h1.out).mono ?_
 rintro e w1⟨rfl,rfl⟩
 go_wp2_with fail
 refine (h2.out).mono ?_
 rintro e w1⟨rfl,rfl⟩
 go_wp2
 go_ret
 exact⟨rfl,rfl⟩
theorem bwaits_4 {b:Nat} {c:Nat→Nat} {W:World} {x:Bx} {r1 r2:Nat} {pv cv:Value} {s:List UInt8} (hr:x.reps=[]) (hq:x.pong=none) (hm:x.msgs=[]) (hc:x.close=some s) (h:BxS b c W x r1 r2 pv cv) :
  Calls prog 51 #[.pointer (some ⟨b,0,none⟩)] W λe w'=>e=.returned (.bool true)∧W=w':=by
 have hn:=hid (bnone_any h)
 have c0:=h.c0
 have h1:=rlen_at h.k1
 rw[hr] at h1
 have c2:=h.c2
 have k3:=h.k3
 rw[hq] at k3
 have k3:pv=.pointer none:=k3
 subst k3
 have c1:=h.c1
 have h2:=ilen_at h.k2
 rw[hm] at h2
 have h2:=hid h2
 have c3:=h.c3
 have k4:=h.k4
 rw[hc] at k4
 obtain⟨t,rfl,_,_⟩:=k4
 have h1:=hid h1
 clear h
 go_enter func51,ntmps51
 go_wp2_with fail
 refine (hn.out).mono ?_
 rintro e w1⟨rfl,rfl⟩
 go_wp2_with fail
 refine (h1.out).mono ?_
 rintro e w1⟨rfl,rfl⟩
 go_wp2_with fail
 refine (h2.out).mono ?_
 rintro e w1⟨rfl,rfl⟩
 go_wp2
 go_ret
 exact⟨rfl,rfl⟩
theorem bwaits_5 {b:Nat} {c:Nat→Nat} {W:World} {x:Bx} {r1 r2:Nat} {pv cv:Value} (hr:x.reps=[]) (hq:x.pong=none) (hm:x.msgs=[]) (hc:x.close=none) (he:x.ends=false) (h:BxS b c W x r1 r2 pv cv) :
  Calls prog 51 #[.pointer (some ⟨b,0,none⟩)] W λe w'=>e=.returned (.bool false)∧W=w':=by
 have hn:=hid (bnone_any h)
 have c0:=h.c0
 have h1:=rlen_at h.k1
 rw[hr] at h1
 have c2:=h.c2
 have k3:=h.k3
 rw[hq] at k3
 have k3:pv=.pointer none:=k3
 subst k3
 have c1:=h.c1
 have h2:=ilen_at h.k2
 rw[hm] at h2
 have h2:=hid h2
 have c3:=h.c3
 have k4:=h.k4
 rw[hc] at k4
 have k4:cv=.pointer none:=k4
 subst k4
 have c5:=h.c5
 have c6:=h.c6
 rw[he] at c5
 have h1:=hid h1
 clear h
 go_enter func51,ntmps51
 go_wp2_with fail
 refine (hn.out).mono ?_
 rintro e w1⟨rfl,rfl⟩
 go_wp2_with fail
 refine (h1.out).mono ?_
 rintro e w1⟨rfl,rfl⟩
 go_wp2_with fail
 refine (h2.out).mono ?_
 rintro e w1⟨rfl,rfl⟩
 go_wp2
 go_ret
 exact⟨rfl,rfl⟩
theorem bwaits_6 {b:Nat} {c:Nat→Nat} {W:World} {x:Bx} {r1 r2:Nat} {pv cv:Value} (hr:x.reps=[]) (hq:x.pong=none) (hm:x.msgs=[]) (hc:x.close=none) (he:x.ends=true) (ht:x.told=false) (h:BxS b c W x r1 r2 pv cv) :
  Calls prog 51 #[.pointer (some ⟨b,0,none⟩)] W λe w'=>e=.returned (.bool true)∧W=w':=by
 have hn:=hid (bnone_any h)
 have c0:=h.c0
 have h1:=rlen_at h.k1
 rw[hr] at h1
 have c2:=h.c2
 have k3:=h.k3
 rw[hq] at k3
 have k3:pv=.pointer none:=k3
 subst k3
 have c1:=h.c1
 have h2:=ilen_at h.k2
 rw[hm] at h2
 have h2:=hid h2
 have c3:=h.c3
 have k4:=h.k4
 rw[hc] at k4
 have k4:cv=.pointer none:=k4
 subst k4
 have c5:=h.c5
 have c6:=h.c6
 rw[he] at c5
 rw[ht] at c6
 have h1:=hid h1
 clear h
 go_enter func51,ntmps51
 go_wp2_with fail
 refine (hn.out).mono ?_
 rintro e w1⟨rfl,rfl⟩
 go_wp2_with fail
 refine (h1.out).mono ?_
 rintro e w1⟨rfl,rfl⟩
 go_wp2_with fail
 refine (h2.out).mono ?_
 rintro e w1⟨rfl,rfl⟩
 go_wp2
 go_ret
 exact⟨rfl,rfl⟩
theorem bwaits_7 {b:Nat} {c:Nat→Nat} {W:World} {x:Bx} {r1 r2:Nat} {pv cv:Value} (hr:x.reps=[]) (hq:x.pong=none) (hm:x.msgs=[]) (hc:x.close=none) (he:x.ends=true) (ht:x.told=true) (h:BxS b c W x r1 r2 pv cv) :
  Calls prog 51 #[.pointer (some ⟨b,0,none⟩)] W λe w'=>e=.returned (.bool false)∧W=w':=by
 have hn:=hid (bnone_any h)
 have c0:=h.c0
 have h1:=rlen_at h.k1
 rw[hr] at h1
 have c2:=h.c2
 have k3:=h.k3
 rw[hq] at k3
 have k3:pv=.pointer none:=k3
 subst k3
 have c1:=h.c1
 have h2:=ilen_at h.k2
 rw[hm] at h2
 have h2:=hid h2
 have c3:=h.c3
 have k4:=h.k4
 rw[hc] at k4
 have k4:cv=.pointer none:=k4
 subst k4
 have c5:=h.c5
 have c6:=h.c6
 rw[he] at c5
 rw[ht] at c6
 have h1:=hid h1
 clear h
 go_enter func51,ntmps51
 go_wp2_with fail
 refine (hn.out).mono ?_
 rintro e w1⟨rfl,rfl⟩
 go_wp2_with fail
 refine (h1.out).mono ?_
 rintro e w1⟨rfl,rfl⟩
 go_wp2_with fail
 refine (h2.out).mono ?_
 rintro e w1⟨rfl,rfl⟩
 go_wp2
 go_ret
 exact⟨rfl,rfl⟩
theorem bwaits_any {b:Nat} {c:Nat→Nat} {W:World} {x:Bx} {r1 r2:Nat} {pv cv:Value} (h:BxS b c W x r1 r2 pv cv) :
  Calls prog 51 #[.pointer (some ⟨b,0,none⟩)] W λe w'=>e=.returned (.bool (bxWaits x))∧W=w':=by
 obtain⟨q,reps,pong,msgs,close,closed,ends,told⟩:=x
 cases reps with
 | cons s l=>exact bwaits_1 rfl h
 | nil =>
  cases pong with
  | some s=>exact bwaits_2 rfl rfl h
  | none =>
   cases msgs with
   | cons y l=>exact bwaits_3 rfl rfl rfl h
   | nil =>
    cases close with
    | some s=>exact bwaits_4 rfl rfl rfl rfl h
    | none =>
     cases ends with
     | false=>exact bwaits_5 rfl rfl rfl rfl rfl h
     | true =>
      cases told with
      | false=>exact bwaits_6 rfl rfl rfl rfl rfl rfl h
      | true=>exact bwaits_7 rfl rfl rfl rfl rfl rfl h
