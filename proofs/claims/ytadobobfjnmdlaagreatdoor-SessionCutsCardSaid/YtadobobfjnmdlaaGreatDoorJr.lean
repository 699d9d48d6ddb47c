/-
  A socket in memory: what it takes of what is told of frames.
-/
import Derived.Test.YtadobobfjnmdlaaGreatDoorJn
import Derived.Test.YtadobobfjnmdlaaGreatDoorP52
import Derived.Deep.LoopGhost
set_option linter.unnecessarySimpa false
set_option linter.unusedVariables false
set_option linter.unusedSimpArgs false
set_option maxHeartbeats 16000000
set_option maxRecDepth 100000
open Go.Lib (hid)
open Go.Proofs.Tryz
namespace Go.Proofs.YtadobobfjnmdlaaGreatDoor
open Go.RowKit Go.Shelf
attribute [local go_sem] Oper.semAt_some
theorem wevZ_agg (k:Nat) (x:Option Wev):∃ (a1 a2 a3:Int) (s:ByteArray),wevZ k x=.agg #[.int .i64 a1,.int .i64 a2,.int .i64 a3,.string s]:=by
 cases x with
 | none=>exact⟨_,_,_,_,rfl⟩
 | some y=>cases y <;> exact⟨_,_,_,_,rfl⟩
section
variable {b R J:Nat} {TJ:Nat→Prop} {W:World} {c:Wn}
theorem WjPost.of {x:Wn×Option Wev} {e:Ending} {W':World} (k:WnS b R J TJ W c) (kk:Nat) (h1:e=.returned (.tuple #[wevZ kk x.2,.bool x.2.isSome])) (h2:WnS b R J TJ W' x.1) (h3:Ch (λi=>i=b) W W'):WjPost b R J TJ W x e W' :=
 ⟨⟨kk,h1⟩,k.widen h2 h3.size (λ_ e=>.inl e),h3.mono λ_ e=>.inl e⟩
theorem chM4 (w:World) (M:Nat) (u0 u1 u2 u3:Value):Ch (λi=>i=M) w ((((w.setCell ⟨M,0,none⟩ u0).setCell ⟨M,1,none⟩ u1).setCell ⟨M,2,none⟩ u2).setCell ⟨M,3,none⟩ u3) :=
 (((Ch.setCell (T:=λi=>i=M) w (a:=⟨M,0,none⟩) rfl _).trans (Ch.setCell (T:=λi=>i=M) _ (a:=⟨M,1,none⟩) rfl _)).trans (Ch.setCell (T:=λi=>i=M) _ (a:=⟨M,2,none⟩) rfl _)).trans (Ch.setCell (T:=λi=>i=M) _ (a:=⟨M,3,none⟩) rfl _)
theorem WnS.toldJ {W0 w1 w':World} {c':Wn} {M:Nat} (k:WnS b R J TJ W c) (g:Gr W W0) (hM:W.heap.size+1=M) (hs:W0.heap.size=W.heap.size+2) (hp:WnS b R J (Add TJ W0 w1) w1 c') (h1:Ch (λi=>i=b∨TJ i) W0 w1) (hc:Ch (λi=>i=M) w1 w') :
  WnS b R J (Add TJ W w') w' c'∧Ch (λi=>i=b∨TJ i) W w':=by
 have hb:=k.lt
 have hR:=k.r.lt
 have s1:=h1.size
 have s4:=hc.size
 have q:=hp.ch hc (by omega) (by omega) (λi e e2=>by
  rcases e with e3 | e3
  ·have:=(jnKin J).lt k.j i e3;omega
  ·have:=e3.1;omega)
 exact⟨k.widen q (by omega) (λi e=>e.imp_right λe3=>⟨by have:=e3.1;omega,by have:=e3.2;omega⟩),((g.to_ch _).trans h1).drop_new hc (λi e=>.inr (by omega))⟩
theorem WjPost.of2 {x:Wn×Option Wev} {e:Ending} {W':World} (k:WnS b R J TJ W c) (kk:Nat) (h1:e=.returned (.tuple #[wevZ kk x.2,.bool x.2.isSome])) (h2:WnS b R J TJ W' x.1∧Ch (λi=>i=b) W W'):WjPost b R J TJ W x e W':=WjPost.of k kk h1 h2.1 h2.2
theorem wtakes_control (k:WnS b R J TJ W c) (f:Bool) (o n:Nat) (ho:8≤o) :
  Calls prog 97 #[.pointer (some ⟨b,0,none⟩),(Fev.begin' f o n).V] W (WjPost b R J TJ W (wnTakes c (.begin' f o n))):=by
 obtain⟨W0,hW0⟩:∃ W0,wc0 W 1 o f n []=W0:=⟨_,rfl⟩
 obtain⟨M,hM⟩:∃ M,W.heap.size+1=M:=⟨_,rfl⟩
 have z:=wc0_of k 1 o f n []
 rw[hW0,hM] at z
 have z':=hid z
 have e0:=z.e0
 have e4:=z.e4
 have m0:=z.m0
 have m1:=z.m1
 have m2:=z.m2
 have m3:=z.m3
 have mz:=z.mz
 have c2:=z.k.c2
 have c3:=z.k.c3
 have c4:=z.k.c4
 have fz:=z.k.fz
 have hlt:=k.lt
 have hMb:b≠M:=by omega
 have hbE:b≠W.heap.size:=by omega
 have hbs:b<W0.heap.size:=z.k.lt
 have hMs:M<W0.heap.size:=cell_lt m0
 have hEs:W.heap.size<W0.heap.size:=cell_lt e0
 have k':=hid k
 have hM':=hid hM
 clear k hlt z
 have hv:=hid (show wnTakes c (.begin' f o n)=({ c with control:=o,data:=[] },none) from if_pos ho)
 have e1:=z'.out.e1
 have ho':((o:Int)<8)=False:=by simp;omega
 have ho2:((8:Int)≤o)=True:=by simp;omega
 unfold Fev.V
 go_enter func97,ntmps97
 go_wp2
 refine bodyPost_ret (v:=.tuple #[wevZ 0 none,.bool false]) (by simp[results,results97,go_sem,wevZ,m0,m1,m2,m3,hMb,Ne.symm hMb]) rfl ?_
 rw[hv.out]
 exact WjPost.of2 k'.out 0 rfl (k'.out.tells z'.out.g hM'.out ((z'.out.k.setControl o).setData []) ((Ch.setCell (T:=λi=>i=b) W0 (a:=⟨b,3,none⟩) rfl _).trans (Ch.setCell (T:=λi=>i=b) _ (a:=⟨b,4,none⟩) rfl _)) ((((Ch.setCell (T:=λi=>i=M) _ (a:=⟨M,0,none⟩) rfl _).trans (Ch.setCell (T:=λi=>i=M) _ (a:=⟨M,1,none⟩) rfl _)).trans (Ch.setCell (T:=λi=>i=M) _ (a:=⟨M,2,none⟩) rfl _)).trans (Ch.setCell (T:=λi=>i=M) _ (a:=⟨M,3,none⟩) rfl _)))
theorem wtakes_fail (k:WnS b R J TJ W c) :
  Calls prog 97 #[.pointer (some ⟨b,0,none⟩),Fev.fail.V] W (WjPost b R J TJ W (wnTakes c .fail)):=by
 obtain⟨W0,hW0⟩:∃ W0,wc0 W 4 0 false 0 []=W0:=⟨_,rfl⟩
 obtain⟨M,hM⟩:∃ M,W.heap.size+1=M:=⟨_,rfl⟩
 have z:=wc0_of k 4 0 false 0 []
 have hsz:=hid (show W0.heap.size=W.heap.size+2 by rw[←hW0];simp)
 rw[hW0,hM] at z
 have z':=hid z
 have e0:=z.e0
 have e1:=z.e1
 have e2:=z.e2
 have e3:=z.e3
 have e4:=z.e4
 have m0:=z.m0
 have m1:=z.m1
 have m2:=z.m2
 have m3:=z.m3
 have mz:=z.mz
 have c2:=z.k.c2
 have c3:=z.k.c3
 have hlt:=k.lt
 have hMb:b≠M:=by omega
 have hbE:b≠W.heap.size:=by omega
 have hME:M≠W.heap.size:=by omega
 have hbs:b<W0.heap.size:=z.k.lt
 have hMs:M<W0.heap.size:=cell_lt m0
 have hEs:W.heap.size<W0.heap.size:=cell_lt e0
 have k':=hid k
 have hM':=hid hM
 have hf:=hid (wfails_any z.k 1002)
 clear k hlt z
 unfold Fev.V
 go_enter func97,ntmps97
 go_wp2_with fail
 refine hf.out.mono ?_
 rintro e w1⟨rfl,hkv,hcv⟩
 unfold wevZ
 have hnM:¬(M=b):=λe=>hMb e.symm
 replace m0:=(hcv.cell (p:=⟨M,0,none⟩) hMs hnM).trans m0
 replace m1:=(hcv.cell (p:=⟨M,1,none⟩) hMs hnM).trans m1
 replace m2:=(hcv.cell (p:=⟨M,2,none⟩) hMs hnM).trans m2
 replace m3:=(hcv.cell (p:=⟨M,3,none⟩) hMs hnM).trans m3
 replace mz:∀ o,w1.frozen? ⟨M,o,none⟩=false:=λo=>(hcv.frozen (p:=⟨M,o,none⟩) hMs hnM).trans (mz o)
 have hM2:M<w1.heap.size:=cell_lt m0
 have hkv':=hid hkv
 have hcv':=hid hcv
 clear hcv hkv hMs hbs hEs c2 c3 e0 e1 e2 e3 e4
 go_wp2
 refine bodyPost_ret (v:=.tuple #[wevZ 0 (some (.failing 1002)),.bool true]) (by simp[results,results97,go_sem,wevZ,m0,m1,m2,m3,hMb,Ne.symm hMb]) rfl ?_
 exact WjPost.of2 k'.out 0 rfl (k'.out.tells z'.out.g hM'.out hkv'.out hcv'.out (chM4 w1 M _ _ _ _))
theorem wtakes_ctl (k:WnS b R J TJ W c) {kk o n:Int} {f:Bool} {t:List UInt8} (he:(kk=1∧o<8)∨kk=2∨kk=3) (x:Wn×Option Wev) (hc:c.control≠0)
  (hcl:∀ W0,WnS b R J TJ W0 c→Calls prog 122 #[.pointer (some ⟨b,0,none⟩),.agg #[.int .i64 kk,.int .i64 o,.bool f,.int .i64 n,.string ⟨t.toArray⟩]] W0 (WcPost b R J TJ W0 x)) :
  Calls prog 97 #[.pointer (some ⟨b,0,none⟩),.agg #[.int .i64 kk,.int .i64 o,.bool f,.int .i64 n,.string ⟨t.toArray⟩]] W (WjPost b R J TJ W x):=by
 obtain⟨W0,hW0⟩:∃ W0,wc0 W kk o f n t=W0:=⟨_,rfl⟩
 obtain⟨M,hM⟩:∃ M,W.heap.size+1=M:=⟨_,rfl⟩
 have z:=wc0_of k kk o f n t
 have hsz:=hid (show W0.heap.size=W.heap.size+2 by rw[←hW0];simp)
 rw[hW0,hM] at z
 have z':=hid z
 have e0:=z.e0
 have e1:=z.e1
 have e2:=z.e2
 have e3:=z.e3
 have e4:=z.e4
 have m0:=z.m0
 have m1:=z.m1
 have m2:=z.m2
 have m3:=z.m3
 have mz:=z.mz
 have c2:=z.k.c2
 have c3:=z.k.c3
 have hlt:=k.lt
 have hMb:b≠M:=by omega
 have hbE:b≠W.heap.size:=by omega
 have hME:M≠W.heap.size:=by omega
 have hbs:b<W0.heap.size:=z.k.lt
 have hMs:M<W0.heap.size:=cell_lt m0
 have hEs:W.heap.size<W0.heap.size:=cell_lt e0
 have k':=hid k
 have hM':=hid hM
 have hf:=hid (hcl W0 z.k)
 have hz:((c.control:Int) != 0)=true:=bne_iff_ne.2 (by omega)
 clear k hlt z hcl hc
 rcases he with⟨rfl,ho⟩ | rfl | rfl
 all_goals
  go_enter func97,ntmps97
  go_wp2_with fail
  refine hf.out.mono ?_
  rintro e w1⟨rfl,hkv,hcv⟩
  obtain⟨a1,a2,a3,sa,ha⟩:=wevZ_agg 0 x.2
  have ha':=hid ha
  rw[ha]
  have hnM:¬(M=b):=λe=>hMb e.symm
  replace m0:=(hcv.cell (p:=⟨M,0,none⟩) hMs hnM).trans m0
  replace m1:=(hcv.cell (p:=⟨M,1,none⟩) hMs hnM).trans m1
  replace m2:=(hcv.cell (p:=⟨M,2,none⟩) hMs hnM).trans m2
  replace m3:=(hcv.cell (p:=⟨M,3,none⟩) hMs hnM).trans m3
  replace mz:∀ o,w1.frozen? ⟨M,o,none⟩=false:=λo=>(hcv.frozen (p:=⟨M,o,none⟩) hMs hnM).trans (mz o)
  have hM2:M<w1.heap.size:=cell_lt m0
  have hkv':=hid hkv
  have hcv':=hid hcv
  clear hcv hkv hMs hbs hEs c2 c3 e0 e1 e2 e3 e4 ha
  go_wp2
  refine bodyPost_ret (v:=.tuple #[.agg #[.int .i64 a1,.int .i64 a2,.int .i64 a3,.string sa],.bool x.2.isSome]) (by simp[results,results97,go_sem,wevZ,m0,m1,m2,m3,hMb,Ne.symm hMb]) rfl ?_
  exact WjPost.of2 k'.out 0 (by rw[ha'.out]) (k'.out.tells z'.out.g hM'.out hkv'.out hcv'.out (chM4 w1 M _ _ _ _))
theorem wtakes_wait (k:WnS b R J TJ W c) {kk o n:Int} {f:Bool} {t:List UInt8} (he:(kk=1∧o<8)∨kk=2∨kk=3) (hc:c.control=0) (hs:c.st≠1) :
  Calls prog 97 #[.pointer (some ⟨b,0,none⟩),.agg #[.int .i64 kk,.int .i64 o,.bool f,.int .i64 n,.string ⟨t.toArray⟩]] W (WjPost b R J TJ W (c,none)):=by
 obtain⟨W0,hW0⟩:∃ W0,wc0 W kk o f n t=W0:=⟨_,rfl⟩
 obtain⟨M,hM⟩:∃ M,W.heap.size+1=M:=⟨_,rfl⟩
 have z:=wc0_of k kk o f n t
 have hsz:=hid (show W0.heap.size=W.heap.size+2 by rw[←hW0];simp)
 rw[hW0,hM] at z
 have z':=hid z
 have e0:=z.e0
 have e1:=z.e1
 have e2:=z.e2
 have e3:=z.e3
 have e4:=z.e4
 have m0:=z.m0
 have m1:=z.m1
 have m2:=z.m2
 have m3:=z.m3
 have mz:=z.mz
 have c2:=z.k.c2
 have c3:=z.k.c3
 have hlt:=k.lt
 have hMb:b≠M:=by omega
 have hbE:b≠W.heap.size:=by omega
 have hME:M≠W.heap.size:=by omega
 have hbs:b<W0.heap.size:=z.k.lt
 have hMs:M<W0.heap.size:=cell_lt m0
 have hEs:W.heap.size<W0.heap.size:=cell_lt e0
 have k':=hid k
 have hM':=hid hM
 have hz:((c.st:Int) != 1)=true:=bne_iff_ne.2 (by omega)
 rw[hc] at c3
 clear k hlt z hc hs
 rcases he with⟨rfl,ho⟩ | rfl | rfl
 all_goals
  go_enter func97,ntmps97
  go_wp2
  refine bodyPost_ret (v:=.tuple #[wevZ 0 none,.bool false]) (by simp[results,results97,go_sem,wevZ,m0,m1,m2,m3,hMb,Ne.symm hMb]) rfl ?_
  exact WjPost.of2 k'.out 0 rfl (k'.out.tells z'.out.g hM'.out z'.out.k (Ch.refl _ _) (chM4 W0 M _ _ _ _))
theorem wtakes_join (k:WnS b R J TJ W c) {kk o n:Int} {f:Bool} {t:List UInt8} (he:(kk=1∧o<8)∨kk=2∨kk=3) (x:Wn×Option Wev) (hc:c.control=0) (hs:c.st=1)
  (hcl:∀ W0,WnS b R J TJ W0 c→Calls prog 123 #[.pointer (some ⟨b,0,none⟩),.agg #[.int .i64 kk,.int .i64 o,.bool f,.int .i64 n,.string ⟨t.toArray⟩]] W0 (WjPost b R J TJ W0 x)) :
  Calls prog 97 #[.pointer (some ⟨b,0,none⟩),.agg #[.int .i64 kk,.int .i64 o,.bool f,.int .i64 n,.string ⟨t.toArray⟩]] W (WjPost b R J TJ W x):=by
 obtain⟨W0,hW0⟩:∃ W0,wc0 W kk o f n t=W0:=⟨_,rfl⟩
 obtain⟨M,hM⟩:∃ M,W.heap.size+1=M:=⟨_,rfl⟩
 have z:=wc0_of k kk o f n t
 have hsz:=hid (show W0.heap.size=W.heap.size+2 by rw[←hW0];simp)
 rw[hW0,hM] at z
 have z':=hid z
 have e0:=z.e0
 have e1:=z.e1
 have e2:=z.e2
 have e3:=z.e3
 have e4:=z.e4
 have m0:=z.m0
 have m1:=z.m1
 have m2:=z.m2
 have m3:=z.m3
 have mz:=z.mz
 have c2:=z.k.c2
 have c3:=z.k.c3
 have hlt:=k.lt
 have hMb:b≠M:=by omega
 have hbE:b≠W.heap.size:=by omega
 have hME:M≠W.heap.size:=by omega
 have hbs:b<W0.heap.size:=z.k.lt
 have hMs:M<W0.heap.size:=cell_lt m0
 have hEs:W.heap.size<W0.heap.size:=cell_lt e0
 have k':=hid k
 have hM':=hid hM
 have hf:=hid (hcl W0 z.k)
 rw[hc] at c3
 rw[hs] at c2
 have hTM:¬TJ M:=λe=>by have:=(jnKin J).lt k.j M e;omega
 clear k hlt z hcl hc hs
 rcases he with⟨rfl,ho⟩ | rfl | rfl
 all_goals
  go_enter func97,ntmps97
  go_wp2_with fail
  refine hf.out.mono ?_
  rintro e w1⟨⟨kz,rfl⟩,hkv,hcv⟩
  obtain⟨a1,a2,a3,sa,ha⟩:=wevZ_agg kz x.2
  have ha':=hid ha
  rw[ha]
  have hnM:¬(M=b∨TJ M):=λe=>e.elim (λe=>hMb e.symm) hTM
  replace m0:=(hcv.cell (p:=⟨M,0,none⟩) hMs hnM).trans m0
  replace m1:=(hcv.cell (p:=⟨M,1,none⟩) hMs hnM).trans m1
  replace m2:=(hcv.cell (p:=⟨M,2,none⟩) hMs hnM).trans m2
  replace m3:=(hcv.cell (p:=⟨M,3,none⟩) hMs hnM).trans m3
  replace mz:∀ o,w1.frozen? ⟨M,o,none⟩=false:=λo=>(hcv.frozen (p:=⟨M,o,none⟩) hMs hnM).trans (mz o)
  have hM2:M<w1.heap.size:=cell_lt m0
  have hkv':=hid hkv
  have hcv':=hid hcv
  clear hcv hkv hMs hbs hEs c2 c3 e0 e1 e2 e3 e4 ha
  go_wp2
  refine bodyPost_ret (v:=.tuple #[.agg #[.int .i64 a1,.int .i64 a2,.int .i64 a3,.string sa],.bool x.2.isSome]) (by simp[results,results97,go_sem,wevZ,m0,m1,m2,m3,hMb,Ne.symm hMb]) rfl ?_
  exact⟨⟨kz,by rw[ha'.out]⟩,k'.out.toldJ z'.out.g hM'.out hsz.out hkv'.out hcv'.out (chM4 w1 M _ _ _ _)⟩
theorem wtakes_any (k:WnS b R J TJ W c) (e:Fev) (he:FevB e) (hd:c.data.length+fevL e≤4611686018427387900) :
  Calls prog 97 #[.pointer (some ⟨b,0,none⟩),e.V] W (WjPost b R J TJ W (wnTakes c e)):=by
 cases e with
 | fail=>exact wtakes_fail k
 | begin' f o n =>
  by_cases ho:8≤o
  ·exact wtakes_control k f o n ho
  ·rw[show wnTakes c (.begin' f o n)=if 8≤o then ({ c with control:=o,data:=[] },none) else if c.control≠0 then wnControl c (.begin' f o n) else if c.st≠1 then (c,none) else wnJoin c (.begin' f o n) from rfl,if_neg ho]
   by_cases hc:c.control=0
   ·rw[if_neg (λe=>e hc)]
    by_cases hs:c.st=1
    ·rw[if_neg (λe=>e hs)]
     exact wtakes_join k (.inl ⟨rfl,by omega⟩) _ hc hs (λW0 k0=>wjoins_any k0 (.begin' f o n) he)
    ·rw[if_pos hs]
     exact wtakes_wait k (.inl ⟨rfl,by omega⟩) hc hs
   ·rw[if_pos hc]
    exact wtakes_ctl k (.inl ⟨rfl,by omega⟩) _ hc (λW0 k0=>wcontrols_any k0 (.begin' f o n) hd)
 | piece s =>
  rw[show wnTakes c (.piece s)=if c.control≠0 then wnControl c (.piece s) else if c.st≠1 then (c,none) else wnJoin c (.piece s) from rfl]
  by_cases hc:c.control=0
  ·rw[if_neg (λe=>e hc)]
   by_cases hs:c.st=1
   ·rw[if_neg (λe=>e hs)]
    exact wtakes_join k (.inr (.inl rfl)) _ hc hs (λW0 k0=>wjoins_any k0 (.piece s) (Nat.le_trans (Nat.le_add_left _ _) hd))
   ·rw[if_pos hs]
    exact wtakes_wait k (.inr (.inl rfl)) hc hs
  ·rw[if_pos hc]
   exact wtakes_ctl k (.inr (.inl rfl)) _ hc (λW0 k0=>wcontrols_any k0 (.piece s) hd)
 | fin =>
  rw[show wnTakes c .fin=if c.control≠0 then wnControl c .fin else if c.st≠1 then (c,none) else wnJoin c .fin from rfl]
  by_cases hc:c.control=0
  ·rw[if_neg (λe=>e hc)]
   by_cases hs:c.st=1
   ·rw[if_neg (λe=>e hs)]
    exact wtakes_join k (.inr (.inr rfl)) _ hc hs (λW0 k0=>wjoins_any k0 .fin trivial)
   ·rw[if_pos hs]
    exact wtakes_wait k (.inr (.inr rfl)) hc hs
  ·rw[if_pos hc]
   exact wtakes_ctl k (.inr (.inr rfl)) _ hc (λW0 k0=>wcontrols_any k0 .fin hd)
end
theorem fevV_agg (e:Fev):∃ (a0 a1:Int) (a2:Bool) (a3:Int) (a4:ByteArray),e.V=.agg #[.int .i64 a0,.int .i64 a1,.bool a2,.int .i64 a3,.string a4]:=by cases e <;> exact⟨_,_,_,_,_,rfl⟩
structure WeC (M:Nat) (W:World):Prop where
 m0:W.cell? ⟨M,0,none⟩=some (.int .i64 0)
 m1:W.cell? ⟨M,1,none⟩=some (.int .i64 0)
 m2:W.cell? ⟨M,2,none⟩=some (.int .i64 0)
 m3:W.cell? ⟨M,3,none⟩=some (.string ⟨#[]⟩)
 mz:∀ o,W.frozen? ⟨M,o,none⟩=false
theorem WeC.lt {M:Nat} {W:World} (h:WeC M W):M<W.heap.size:=cell_lt h.m0
theorem WeC.ch {M:Nat} {T:Nat→Prop} {W W':World} (h:WeC M W) (hc:Ch T W W') (hT:¬T M):WeC M W' :=
 have cc:∀ {j v},W.cell? ⟨M,j,none⟩=some v→W'.cell? ⟨M,j,none⟩=some v:=fun {j v} hh=>(hc.cell (p:=⟨M,j,none⟩) (cell_lt hh) hT).trans hh
 ⟨cc h.m0,cc h.m1,cc h.m2,cc h.m3,λo=>(hc.frozen (p:=⟨M,o,none⟩) h.lt hT).trans (h.mz o)⟩
theorem weC_new (W:World) (t:TypeId):WeC W.heap.size (W.alloc (.cells #[.int .i64 0,.int .i64 0,.int .i64 0,.string ⟨#[]⟩] t)) :=
 ⟨cell_new7 _ _ _ 0 _ rfl,cell_new7 _ _ _ 1 _ rfl,cell_new7 _ _ _ 2 _ rfl,cell_new7 _ _ _ 3 _ rfl,λ_=>World.frozen?_alloc_at _ _ _ _ rfl⟩
theorem wevZ_kk (k:Nat) (x:Wev):wevZ k (some x)=wevZ 0 (some x):=by cases x <;> rfl
section
variable {b R J:Nat} {TJ:Nat→Prop}
def WxPost (b R J:Nat) (TJ:Nat→Prop) (W:World) (x:Wn×Option Wev) (e:Ending) (W':World):Prop :=
 e=.returned (.tuple #[wevZ 0 x.2,.bool x.2.isSome])∧WnS b R J (Add TJ W W') W' x.1∧Ch (λi=>i=b∨i=R∨TJ i) W W'
structure NxRel (b R J:Nat) (TJ:Nat→Prop) (W0:World) (M n:Nat) (x:Wn×Option Wev) (k:Nat) (w:World) (c:Wn):Prop where
 go:wnGo k c=x
 sz:wnSize c<k
 B:WnB n c
 s:WnS b R J (Add TJ W0 w) w c
 ch:Ch (λi=>i=b∨i=R∨TJ i) W0 w
 m:WeC M w
structure Nx0 (b R J:Nat) (TJ:Nat→Prop) (W W0:World) (M:Nat) (c:Wn):Prop where
 k:WnS b R J TJ W c
 g:Gr W W0
 hM:W.heap.size=M
 hs:W0.heap.size=M+1
theorem Nx0.apart {W W0:World} {M:Nat} {c:Wn} (h:Nx0 b R J TJ W W0 M c):b≠M∧R≠M∧¬TJ M:=by
 have h1:=h.k.lt
 have h2:=h.k.r.lt
 have h3:=h.hM
 exact⟨by omega,by omega,λe=>by have:=(jnKin J).lt h.k.j M e;omega⟩
theorem Nx0.done {W W0 w w':World} {M:Nat} {c c':Wn} {TJ1:Nat→Prop} (h:Nx0 b R J TJ W W0 M c) (k:WnS b R J TJ1 w c') (ht:∀ i,TJ1 i→Add TJ W0 w i) (hc:Ch (λi=>i=b∨i=R∨TJ i) W0 w) (h4:Ch (λi=>i=M) w w') :
  WnS b R J (Add TJ W w') w' c'∧Ch (λi=>i=b∨i=R∨TJ i) W w':=by
 obtain⟨a1,a2,a3⟩:=h.apart
 have hM:=h.hM
 have hs:=h.hs
 have s1:=hc.size
 have s2:=h4.size
 have q:=k.ch h4 (λe=>a1 e) (λe=>a2 e) (λi e e2=>by
  rcases ht i e with e3 | e3
  ·exact a3 (e2▸e3)
  ·have:=e3.1;omega)
 exact⟨h.k.widen q (by omega) (λi e=>(ht i e).imp_right λe3=>⟨by have:=e3.1;omega,by have:=e3.2;omega⟩),((h.g.to_ch _).trans hc).drop_new h4 (λj e=>.inr (by omega))⟩
theorem nx_drop {W0 w w':World} {S:Nat→Prop} (h:Ch (λi=>i=b∨i=R∨TJ i) W0 w) (hc:Ch S w w') (hS:∀ i,S i→i=b∨i=R∨Add TJ W0 w i):Ch (λi=>i=b∨i=R∨TJ i) W0 w' :=
 h.drop_new hc (λj e=>by
  rcases hS j e with e | e | e | e
  ·exact .inl (.inl e)
  ·exact .inl (.inr (.inl e))
  ·exact .inl (.inr (.inr e))
  ·exact .inr e.1)
theorem ev_put (w:World) (a0 a1:Int) (a2:Bool) (a3:Int) (a4:ByteArray) {w2:World} (h:w.alloc (.cells #[.int .i64 a0,.int .i64 a1,.bool a2,.int .i64 a3,.string a4] 159)=w2) :
  Gr w w2∧w2.heap.size=w.heap.size+1∧w2.cell? ⟨w.heap.size,0,none⟩=some (.int .i64 a0)∧w2.cell? ⟨w.heap.size,1,none⟩=some (.int .i64 a1)∧w2.cell? ⟨w.heap.size,2,none⟩=some (.bool a2)∧w2.cell? ⟨w.heap.size,3,none⟩=some (.int .i64 a3)∧w2.cell? ⟨w.heap.size,4,none⟩=some (.string a4):=by
 subst h
 exact⟨Gr.alloc _ _,by simp,cell_new7 _ _ _ 0 _ rfl,cell_new7 _ _ _ 1 _ rfl,cell_new7 _ _ _ 2 _ rfl,cell_new7 _ _ _ 3 _ rfl,cell_new7 _ _ _ 4 _ rfl⟩
theorem we_put (w3:World) (n1 n2 n3:Int) (n4:ByteArray) {w4:World} (h:w3.alloc (.cells #[.int .i64 n1,.int .i64 n2,.int .i64 n3,.string n4] 129)=w4) :
  Gr w3 w4∧w4.cell? ⟨w3.heap.size,0,none⟩=some (.int .i64 n1)∧w4.cell? ⟨w3.heap.size,1,none⟩=some (.int .i64 n2)∧w4.cell? ⟨w3.heap.size,2,none⟩=some (.int .i64 n3)∧w4.cell? ⟨w3.heap.size,3,none⟩=some (.string n4):=by
 subst h
 exact⟨Gr.alloc _ _,cell_new7 _ _ _ 0 _ rfl,cell_new7 _ _ _ 1 _ rfl,cell_new7 _ _ _ 2 _ rfl,cell_new7 _ _ _ 3 _ rfl⟩
theorem WnS.widen0 {W:World} {c:Wn} (k:WnS b R J TJ W c):WnS b R J (Add TJ W W) W c:=k.widen k (Nat.le_refl _) (λ_ e=>.inl e)
theorem wnext_any {W:World} {c:Wn} {n:Nat} (k:WnS b R J TJ W c) (hB:WnB n c) (hn:n≤4611686018427387900) :
  Calls prog 72 #[.pointer (some ⟨b,0,none⟩)] W (WxPost b R J TJ W (wnNext c)):=by
 obtain⟨W0,hW0⟩:∃ W0,we0 W=W0:=⟨_,rfl⟩
 obtain⟨M,hM⟩:∃ M,W.heap.size=M:=⟨_,rfl⟩
 have z:=hid (show Nx0 b R J TJ W W0 M c from⟨k,hW0▸Gr.alloc W _,hM,by rw[←hW0,←hM];simp⟩)
 have hst:=hid (show ∃ c',NxRel b R J TJ W0 M n (wnNext c) (wnSize c+1) W0 c' from
  ⟨c,rfl,Nat.lt_succ_self _,hB,k.gr (hW0▸Gr.alloc W _) |>.widen0 ,Ch.refl _ _,by rw[←hW0,←hM];exact weC_new W _⟩)
 have hM':=hid hM
 clear k hB
 go_enter func72,ntmps72
 go_upto_region 1 with (fail)
 go_loopg [] (wnSize c+1) (λk wr=>∃ c',NxRel b R J TJ W0 M n (wnNext c) k wr c')
 case atStart=>exact hst.out
 case round =>
  obtain⟨c2,h2⟩:=hrel
  obtain⟨g,rfl⟩:∃ g,gk=g+1:=⟨gk - 1,by have:=h2.sz;omega⟩
  have h2':=hid h2
  have ap:=hid z.out.apart
  have m0:=h2.m.m0
  have m1:=h2.m.m1
  have m2:=h2.m.m2
  have m3:=h2.m.m3
  have mz:=h2.m.mz
  have hMs:=h2.m.lt
  have hs1:=hid (wstate_any h2.s)
  by_cases h3:c2.st=3
  ·have hx:=hid (show wnNext c=(c2,none) by rw[←h2.go];exact if_pos h3)
   rw[h3] at hs1
   clear h2 hst h3
   go_wp2_with fail
   refine hs1.out.mono ?_
   rintro e w1⟨rfl,rfl⟩
   go_wp2
   refine bodyPost_ret (v:=.tuple #[wevZ 0 none,.bool false]) (by simp[results,results72,go_sem,wevZ,m0,m1,m2,m3]) rfl ?_
   rw[hx.out]
   exact⟨rfl,z.out.done h2'.out.s (λ_ e=>e) h2'.out.ch (chM4 wr M _ _ _ _)⟩
  ·have hz:((c2.st:Int) != 3)=true:=bne_iff_ne.2 (by omega)
   have c0:=h2.s.c0
   have hfr:=hid (frnext_any h2.s.r ⟨by have:=h2.B.r.i;omega,h2.B.r.h,h2.B.r.t,h2.B.r.s⟩)
   cases hq:frNext c2.r with
   | mk r o =>
    rw[hq] at hfr
    have hq':=hid hq
    cases o with
    | none =>
     have hx:=hid (show wnNext c=({ c2 with r:=r },none) by rw[←h2.go];unfold wnGo;rw[if_neg h3,hq])
     clear h2 hst h3 hq
     go_wp2_with fail
     refine hs1.out.mono ?_
     rintro e w1⟨rfl,rfl⟩
     go_wp2_with fail
     refine hfr.out.mono ?_
     rintro e w1⟨rfl,hk1,hc1⟩
     unfold fevT ev0V
     dsimp only
     have hk1':=hid (h2'.out.s.setR hk1 hc1)
     have hc1':=hid hc1
     have hMR:¬(M=R):=λe=>ap.out.2.1 e.symm
     clear hk1 hc1 m0 m1 m2 m3 mz hMs c0
     go_upto_region 3 with (fail)
     obtain⟨w2,hw2⟩:∃ w2,w1.alloc (.cells #[.int .i64 0,.int .i64 0,.bool false,.int .i64 0,.string ⟨#[]⟩] 159)=w2:=⟨_,rfl⟩
     rw[hw2]
     have g2:Gr w1 w2:=hw2▸Gr.alloc _ _
     have hm:=(h2'.out.m.ch hc1'.out hMR).ch (g2.to_ch (λ_=>False)) id
     have m0:=hm.m0
     have m1:=hm.m1
     have m2:=hm.m2
     have m3:=hm.m3
     have mz:=hm.mz
     have hMs:=hm.lt
     have g2':=hid g2
     clear hw2 hm g2
     go_wp2
     refine bodyPost_ret (v:=.tuple #[wevZ 0 none,.bool false]) (by simp[results,results72,go_sem,wevZ,m0,m1,m2,m3]) rfl ?_
     rw[hx.out]
     exact⟨rfl,z.out.done (hk1'.out.gr g2'.out) (λi e=>e.imp_right λe=>⟨e.1,Nat.lt_of_lt_of_le e.2 (Nat.le_trans hc1'.out.size (Below.size g2'.out))⟩) (nx_drop (h2'.out.ch) (hc1'.out.trans (g2'.out.to_ch _)) (λi e=>.inr (.inl e))) (chM4 w2 M _ _ _ _)⟩
    | some ev =>
     have hB2:=h2.B.step hq
     have hsz:wnSize (wnTakes { c2 with r:=r } ev).1<wnSize c2:=wnStep_size (c1:=(wnTakes { c2 with r:=r } ev).1) (o:=(wnTakes { c2 with r:=r } ev).2) (wnStep_of h3 hq)
     cases hT:wnTakes { c2 with r:=r } ev with
     | mk c3 o3 =>
      rw[hT] at hB2 hsz
      have hB2':=hid hB2
      have hsz':=hid hsz
      have hT':=hid hT
      have hx:=hid (show wnNext c=match ((c3,o3):Wn×Option Wev) with
        |(c',some x)=>(c',some x)
        |(c',none)=>wnGo g c' by
       rw[←h2.go]
       show (if c2.st=3 then _ else _)=_
       rw[if_neg h3,hq]
       dsimp only
       rw[hT]
       cases o3 <;> rfl)
      clear h2 hst h3 hq hB2 hsz hT
      go_wp2_with fail
      refine hs1.out.mono ?_
      rintro e w1⟨rfl,rfl⟩
      go_wp2_with fail
      refine hfr.out.mono ?_
      rintro e w1⟨rfl,hk1,hc1⟩
      obtain⟨a0,a1,a2,a3,a4,ha⟩:=fevV_agg ev
      unfold fevT
      dsimp only
      rw[ha]
      have ha':=hid ha
      have hk1':=hid (h2'.out.s.setR hk1 hc1)
      have hc1':=hid hc1
      have hMR:¬(M=R):=λe=>ap.out.2.1 e.symm
      clear hk1 hc1 m0 m1 m2 m3 mz hMs c0 ha
      go_upto_region 3 with (fail)
      obtain⟨w2,hw2⟩:∃ w2,w1.alloc (.cells #[.int .i64 a0,.int .i64 a1,.bool a2,.int .i64 a3,.string a4] 159)=w2:=⟨_,rfl⟩
      rw[hw2]
      obtain⟨g2,s2,v0,v1,v2,v3,v4⟩:=ev_put w1 a0 a1 a2 a3 a4 hw2
      have g2':=hid g2
      have hk2:=hk1'.out.gr g2
      have htk:=wtakes_any hk2 ev hB2'.out.2.1 (by have:=hB2'.out.2.2.1;(try dsimp only);omega)
      rw[ha'.out,hT'.out] at htk
      have htk':=hid htk
      have hm2:=hid ((h2'.out.m.ch hc1'.out hMR).ch (g2.to_ch (λ_=>False)) id)
      have hs2:=hm2.out.lt
      have hk2':=hid hk2
      have c0:=hk2.c0
      have hE:w1.heap.size<w2.heap.size:=by omega
      clear hw2 g2 s2 htk hk2
      go_wp2_with fail
      refine htk'.out.mono ?_
      rintro e w3⟨⟨kk,rfl⟩,hk3,hc3⟩
      obtain⟨n1,n2,n3,n4,hn4⟩:=wevZ_agg kk o3
      have hn4':=hid hn4
      rw[hn4]
      have hMb:¬(M=b∨Add TJ W0 wr M):=λe=>by
       obtain⟨q1,q2,q3⟩:=ap.out
       rcases e with e | e | e
       ·exact q1 e.symm
       ·exact q3 e
       ·have:=e.1;have:=z.out.hs;omega
      have hm3:=hid (hm2.out.ch hc3 hMb)
      have hcA:=hid (nx_drop h2'.out.ch ((hc1'.out.mono (T':=λi=>i=b∨i=R∨Add TJ W0 wr i) λi e=>.inr (.inl e)).trans ((g2'.out.to_ch _).trans (hc3.mono λi e=>e.imp_right .inr))) (λi e=>e))
      have hk3':=hid hk3
      have hw0:=h2'.out.ch.size
      have hw1:=hc1'.out.size
      have hw2:=Below.size g2'.out
      have hw3:=hc3.size
      have hwid:=hid (show ∀ i,Add (Add TJ W0 wr) w2 w3 i→Add TJ W0 w3 i from λi e=>by
       rcases e with (e | e) | e
       ·exact .inl e
       ·exact .inr ⟨e.1,by have:=e.2;omega⟩
       ·exact .inr ⟨by have:=e.1;omega,e.2⟩)
      clear hk3 hc3 hw0 hw1 hw2 hw3 hn4 c0 v0 v1 v2 v3 v4 hE hs2 hMb
      obtain⟨w4,hw4⟩:∃ w4,w3.alloc (.cells #[.int .i64 n1,.int .i64 n2,.int .i64 n3,.string n4] 129)=w4:=⟨_,rfl⟩
      have hp4:=we_put w3 n1 n2 n3 n4 hw4
      have hp4':=hid hp4
      have hm4:=hm3.out.ch (hp4.1.to_ch (λ_=>False)) id
      have hk4':=hid (hk3'.out.gr hp4.1)
      have hc4':=hid (hcA.out.trans (hp4.1.to_ch _))
      have hwid4:=hid (show ∀ i,Add (Add TJ W0 wr) w2 w3 i→Add TJ W0 w4 i from λi e=>(hwid.out i e).imp_right λe=>⟨e.1,Nat.lt_of_lt_of_le e.2 (Below.size hp4.1)⟩)
      have hm4':=hid hm4
      cases o3 with
      | none =>
       clear hp4 hm4
       go_upto_region 5 with (fail)
       try rw[hw4]
       clear hw4
       go_wp2_with fail
       go_roundg g
       case measure=>omega
       case rel =>
        exact⟨c3,hx.out.symm,by have:=hsz'.out;have:=h2'.out.sz;(try dsimp only at *);omega,hB2'.out.1,(z.out.k.gr z.out.g).widen hk4'.out hc4'.out.size hwid4.out,hc4'.out,hm4'.out⟩
      | some x3 =>
       obtain⟨p1,p2,p3,p4,p5⟩:=hp4
       have m0:=hm4.m0
       have m1:=hm4.m1
       have m2:=hm4.m2
       have m3:=hm4.m3
       have mz:=hm4.mz
       have hMs:=hm4.lt
       have hME:M≠w3.heap.size:=by have:=hm3.out.lt;omega
       have hE4:w3.heap.size<w4.heap.size:=cell_lt p2
       clear hm4 p1
       go_upto_region 5 with (fail)
       try rw[hw4]
       clear hw4
       go_wp2
       refine bodyPost_ret (v:=.tuple #[.agg #[.int .i64 n1,.int .i64 n2,.int .i64 n3,.string n4],.bool true]) (by simp[results,results72,go_sem,m0,m1,m2,m3]) rfl ?_
       rw[show wnNext c=(c3,some x3) from hx.out]
       exact⟨by rw[←wevZ_kk kk,hn4'.out];rfl,z.out.done hk4'.out hwid4.out hc4'.out (chM4 w4 M _ _ _ _)⟩
end
def WnAt (b:Nat) (T:Nat→Prop) (W:World) (c:Wn):Prop :=
 (∃ R J TJ,WnS b R J TJ W c∧T b∧T R∧∀ i,TJ i→T i)∧∀ k,T k→k<W.heap.size
theorem wnKin (b:Nat):Kin (WnAt b) :=
 ⟨fun {T T' W x} ⟨⟨R,J,TJ,k,h1,h2,h3⟩,_⟩ ht hl=>⟨⟨R,J,TJ,k,ht _ h1,ht _ h2,λi e=>ht _ (h3 i e)⟩,hl⟩,
  fun {T S W W' x} ⟨⟨R,J,TJ,k,h1,h2,h3⟩,hl⟩ hc hs=>⟨⟨R,J,TJ,k.ch hc (hs _ h1) (hs _ h2) (λi e=>hs _ (h3 i e)),h1,h2,h3⟩,λk hk=>Nat.lt_of_lt_of_le (hl k hk) hc.size⟩,
  fun {T W x} h=>h.2⟩
section
variable {b:Nat} {T:Nat→Prop} {W:World} {c:Wn}
theorem wstate_at (h:WnAt b T W c):Calls prog 48 #[.pointer (some ⟨b,0,none⟩)] W λe w'=>e=.returned (.int .i64 c.st)∧W=w':=by
 obtain⟨⟨R,J,TJ,k,_⟩,_⟩:=h
 exact wstate_any k
theorem wfeed_at (h:WnAt b T W c) (s:List UInt8) (hs:c.r.inp.length+s.length≤4611686018427387900) :
  Calls prog 40 #[.pointer (some ⟨b,0,none⟩),.string ⟨s.toArray⟩] W λe w'=>e=.returned (.tuple #[])∧Pst (WnAt b) T W (wnFeed c s) w':=by
 obtain⟨⟨R,J,TJ,k,h1,h2,h3⟩,hl⟩:=h
 refine (wfeed_any k s hs).mono ?_
 rintro e w'⟨rfl,hk,hc⟩
 exact⟨rfl,(wnKin b).pst (T:=T) ⟨⟨R,J,TJ,hk,h1,h2,h3⟩,λk hk=>Nat.lt_of_lt_of_le (hl k hk) hc.size⟩ (hc.mono λi e=>by rw[e];exact h2)⟩
theorem wnext_at {n:Nat} (h:WnAt b T W c) (hB:WnB n c) (hn:n≤4611686018427387900) :
  Calls prog 72 #[.pointer (some ⟨b,0,none⟩)] W λe w'=>e=.returned (.tuple #[wevZ 0 (wnNext c).2,.bool (wnNext c).2.isSome])∧Pst (WnAt b) T W (wnNext c).1 w':=by
 obtain⟨⟨R,J,TJ,k,h1,h2,h3⟩,hl⟩:=h
 refine (wnext_any k hB hn).mono ?_
 rintro e w'⟨rfl,hk,hc⟩
 refine⟨rfl,⟨⟨R,J,_,hk,.inl h1,.inl h2,λi e=>e.imp_left (h3 i)⟩,jadd_lt hc.size hl⟩,hc.mono λi e=>?_⟩
 rcases e with e | e | e
 ·rw[e];exact h1
 ·rw[e];exact h2
 ·exact h3 i e
end
theorem wnew_at (W:World) (n:Nat) (hn:n≤1099511627776) :
  Calls prog 37 #[.int .i64 n] W λe w'=>∃ b,e=.returned (.tuple #[.pointer (some ⟨b,0,none⟩),.int .i64 0])∧WnAt b (New W w') w' (wn0 n)∧Gr W w':=by
 have hj:=hid (jnew_at W n hn)
 go_enter func37,ntmps37
 go_wp2_with fail
 refine hj.out.mono ?_
 rintro e w1⟨rfl,h1,g1⟩
 have hr:=hid (frnew_any w1)
 have h1':=hid h1
 have g1':=hid g1
 clear h1 g1
 go_wp2_with fail
 refine hr.out.mono ?_
 rintro e w2⟨rfl,h2,g2,s2⟩
 have h2':=hid h2
 have g2':=hid g2
 have s2':=hid s2
 clear h2 g2 s2
 go_wp2
 refine bodyPost_ret (v:=.tuple #[.pointer (some ⟨w2.heap.size,0,none⟩),.int .i64 0]) (by simp[results,results37,go_sem]) rfl ?_
 obtain⟨w3,hw3⟩:∃ w3,w2.alloc (.cells #[.pointer (some ⟨w1.heap.size,0,none⟩),.pointer (some ⟨W.heap.size,0,none⟩),.int .i64 1,.int .i64 0,.string ⟨#[]⟩] 119)=w3:=⟨_,rfl⟩
 rw[hw3]
 have g3:Gr w2 w3:=hw3▸Gr.alloc _ _
 have s3:w3.heap.size=w2.heap.size+1:=by rw[←hw3];simp
 have b1:=Below.size g1'.out
 have b2:=s2'.out
 have hlt:=(jnKin _).lt h1'.out
 have hk:WnS w2.heap.size w1.heap.size W.heap.size (New W w1) w3 (wn0 n) :=
  ⟨by rw[←hw3];exact cell_new7 _ _ _ 0 _ rfl,by rw[←hw3];exact cell_new7 _ _ _ 1 _ rfl,by rw[←hw3];exact cell_new7 _ _ _ 2 _ rfl,by rw[←hw3];exact cell_new7 _ _ _ 3 _ rfl,by rw[←hw3];exact cell_new7 _ _ _ 4 _ rfl,
   λo=>by rw[←hw3];exact World.frozen?_alloc_at _ _ _ _ rfl,h2'.out.ch (g3.to_ch (λ_=>False)) id,(jnKin _).gr h1'.out (g2'.out.trans g3),by omega,λe=>by have:=e.2;omega,λe=>by have:=e.2;omega⟩
 refine⟨_,rfl,⟨⟨_,_,_,hk,⟨by omega,by omega⟩,⟨by omega,by omega⟩,λi e=>⟨e.1,by have:=e.2;omega⟩⟩,λk e=>e.2⟩,(g1'.out.trans g2'.out).trans g3⟩
