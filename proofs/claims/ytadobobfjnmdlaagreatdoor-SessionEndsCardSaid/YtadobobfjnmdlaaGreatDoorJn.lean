/-
  A socket in memory: what is told of a frame of data.
-/
import Derived.Test.YtadobobfjnmdlaaGreatDoorJh
set_option linter.unnecessarySimpa false
set_option linter.unusedVariables false
set_option linter.unusedSimpArgs false
set_option maxHeartbeats 16000000
set_option maxRecDepth 100000
open Go.Lib (hid)
namespace Go.Proofs.YtadobobfjnmdlaaGreatDoor
open Go.RowKit Go.Shelf
attribute [local go_sem] Oper.semAt_some
def WjPost (b R J:Nat) (TJ:Nat→Prop) (W:World) (x:Wn×Option Wev) (e:Ending) (W':World):Prop :=
 (∃ kk,e=.returned (.tuple #[wevZ kk x.2,.bool x.2.isSome]))∧WnS b R J (Add TJ W W') W' x.1∧Ch (fun i=>i=b∨TJ i) W W'
section
variable {b R J:Nat} {TJ:Nat→Prop} {W:World} {c:Wn}
abbrev wj0 (W:World) (kk o:Int) (f:Bool) (n:Int) (t:List UInt8):World:=(wc0 W kk o f n t).alloc (.cells #[.int .i64 0,.string ⟨#[]⟩] 203)
theorem wj0_of (k:WnS b R J TJ W c) (kk o:Int) (f:Bool) (n:Int) (t:List UInt8):Wc0 b R J TJ W c kk o f n t (wj0 W kk o f n t) (W.heap.size+1) ∧
  (wj0 W kk o f n t).cell? ⟨W.heap.size+2,0,none⟩=some (.int .i64 0)∧(wj0 W kk o f n t).cell? ⟨W.heap.size+2,1,none⟩=some (.string ⟨#[]⟩)∧(∀ i,(wj0 W kk o f n t).frozen? ⟨W.heap.size+2,i,none⟩=false)∧(wj0 W kk o f n t).heap.size=W.heap.size+3:=by
 have z:=wc0_of k kk o f n t
 have hs:(wc0 W kk o f n t).heap.size=W.heap.size+2:=by simp
 have g2:Gr (wc0 W kk o f n t) (wj0 W kk o f n t):=Gr.alloc _ _
 refine⟨⟨z.g.trans g2,rfl,z.k.gr g2,g2.cell z.e0,g2.cell z.e1,g2.cell z.e2,g2.cell z.e3,g2.cell z.e4,g2.cell z.m0,g2.cell z.m1,g2.cell z.m2,g2.cell z.m3,fun i=>(Below.frozen g2 (p:=⟨W.heap.size+1,i,none⟩) (show W.heap.size+1<(wc0 W kk o f n t).heap.size by rw[hs];omega)).trans (z.mz i)⟩,hs▸cell_new7 _ _ _ 0 _ rfl,hs▸cell_new7 _ _ _ 1 _ rfl,fun _=>World.frozen?_alloc_at _ _ _ _ hs.symm,by simp⟩
theorem WnS.widen {W':World} {c':Wn} {TJ1:Nat→Prop} (k:WnS b R J TJ W c) (h:WnS b R J TJ1 W' c') (hs:W.heap.size≤W'.heap.size) (ht:∀ i,TJ1 i→Add TJ W W' i):WnS b R J (Add TJ W W') W' c' :=
 ⟨h.c0,h.c1,h.c2,h.c3,h.c4,h.fz,h.r,(jnKin J).mono h.j ht (fun i e=>e.elim (fun e=>Nat.lt_of_lt_of_le ((jnKin J).lt k.j i e) hs) (fun e=>e.2)),h.d1,fun e=>e.elim k.d2 (fun e=>absurd k.lt (Nat.not_lt.2 e.1)),fun e=>e.elim k.d3 (fun e=>absurd k.r.lt (Nat.not_lt.2 e.1))⟩
theorem WnS.telld {W0 w9 w1 w2 w':World} {c':Wn} {M:Nat} (k:WnS b R J TJ W c) (g:Gr W W0) (hM:W.heap.size+1=M) (hs:W0.heap.size=W.heap.size+3) (hg:Gr W0 w9) (h1:Ch TJ w9 w1) (hp:WnS b R J (Add TJ w9 w1) w2 c') (h2:Ch (fun i=>i=b) w1 w2) (hc:Ch (fun i=>i=M∨i=M+1) w2 w') :
  WnS b R J (Add TJ W w') w' c'∧Ch (fun i=>i=b∨TJ i) W w':=by
 have hb:=k.lt
 have hR:=k.r.lt
 have s1:=Below.size hg
 have s2:=h1.size
 have s3:=h2.size
 have s4:=hc.size
 have hJ:∀ i,Add TJ w9 w1 i→TJ i∨(W.heap.size+3≤i∧i<w1.heap.size):=fun i e=>e.imp_right fun e=>⟨by have:=e.1;omega,e.2⟩
 have q:=hp.ch hc (by omega) (by omega) (fun i e e2=>by
  rcases hJ i e with e3 | e3
  ·have:=(jnKin J).lt k.j i e3;omega
  ·omega)
 refine⟨k.widen q (by omega) (fun i e=>(hJ i e).imp_right fun e3=>⟨by omega,by omega⟩),?_⟩
 exact ((((g.trans hg).to_ch _).trans (h1.mono fun _ e=>.inr e)).trans (h2.mono fun _ e=>.inl e)).drop_new hc (fun i e=>.inr (by omega))
theorem wjoin_begin (k:WnS b R J TJ W c) (f:Bool) (o n:Nat) (hn:n≤9223372036854775807) :
  Calls Tryz.prog 123 #[.pointer (some ⟨b,0,none⟩),(Fev.begin' f o n).V] W (WjPost b R J TJ W (wnJoin c (.begin' f o n))):=by
 obtain⟨W0,hW0⟩:∃ W0,wj0 W 1 o f n []=W0:=⟨_,rfl⟩
 obtain⟨M,hM⟩:∃ M,W.heap.size+1=M:=⟨_,rfl⟩
 obtain⟨N,hN⟩:∃ N,M+1=N:=⟨_,rfl⟩
 have hN2:W.heap.size+2=N:=by omega
 obtain⟨z,n0,n1,nz,hsz⟩:=wj0_of k 1 o f n []
 rw[hW0,hM] at z
 rw[hW0,hN2] at n0 n1
 rw[hW0] at nz hsz
 rw[hN2] at nz
 have z':=hid z
 have hsz':=hid hsz
 have e0:=z.e0
 have e1:=z.e1
 have e2:=z.e2
 have e3:=z.e3
 have e4:=z.e4
 have m0:=z.m0
 have m1:=z.m1
 have m2:=z.m2
 have m3:=z.m3
 have mz:=z.mz
 have c1:=z.k.c1
 have hlt:=k.lt
 have hMb:b≠M:=by omega
 have hNb:b≠N:=by omega
 have hMN:M≠N:=by omega
 have hbE:b≠W.heap.size:=by omega
 have hbs:b<W0.heap.size:=z.k.lt
 have hMs:M<W0.heap.size:=cell_lt m0
 have hNs:N<W0.heap.size:=cell_lt n0
 have hEs:W.heap.size<W0.heap.size:=cell_lt e0
 have k':=hid k
 have hM':=hid hM
 have hN':=hid hN
 clear k hlt z hsz hN2
 have hb:=hid (show ∀ w',Gr W0 w'→Calls Tryz.prog 149 #[.pointer (some ⟨J,0,none⟩),.bool f,.int .i64 o,.int .i64 n] w' fun e w9=>e=.returned (.int .i64 (jnBegin c.j f o n).bad)∧Pst (JnAt J) TJ w' (jnBegin c.j f o n) w9 from fun w' g=>jbegin_at ((jnKin J).gr z'.out.k.j g) f o n hn)
 unfold Fev.V
 go_enter Tryz.func123,Tryz.ntmps123
 go_upto_region 5 with (fail)
 have t1:∀ x:Later (Gr W0),x.w.cell? ⟨b,1,none⟩=some (.pointer (some ⟨J,0,none⟩)):=fun x=>x.ok.cell c1
 have s1:∀ x:Later (Gr W0),x.w.cell? ⟨W.heap.size,1,none⟩=some (.int .i64 o):=fun x=>x.ok.cell e1
 have s2:∀ x:Later (Gr W0),x.w.cell? ⟨W.heap.size,2,none⟩=some (.bool f):=fun x=>x.ok.cell e2
 have s3:∀ x:Later (Gr W0),x.w.cell? ⟨W.heap.size,3,none⟩=some (.int .i64 n):=fun x=>x.ok.cell e3
 have n0':=hid n0
 have n1':=hid n1
 clear m0 m1 m2 m3 mz n0 n1 nz e0 e1 e2 e3 e4 c1
 haveI:Nonempty (Later (Gr W0)):=⟨⟨W0,Gr.refl W0⟩⟩
 refine wp_region_later_tail (C:=Gr W0) 10 (by kernel_rfl) (by kernel_rfl) (Gr.drew' _) ?_
 simp only[List.take_succ_cons,List.take_zero,List.drop_succ_cons,List.drop_zero]
 repeat (go_big_quiet_step (fail))
 refine wpQuiet_nil ?_
 intro w9 hg9
 clear t1 s1 s2 s3
 have hgg:=hid hg9
 have hbb:=hid (hb.out w9 hg9)
 clear hg9 hb
 go_wp2_with (fail)
 refine hbb.out.mono ?_
 rintro e w1 ⟨rfl,hp⟩
 have k1:=hid ((z'.out.k.gr hgg.out).setJ hp)
 have hcj:=hid hp.2
 have hM9:M<w9.heap.size:=by have:=Below.size hgg.out;omega
 have hN9:N<w9.heap.size:=by have:=Below.size hgg.out;omega
 have hnM:¬TJ M:=fun e=>by have:=(jnKin J).lt k'.out.j M e;have:=hM'.out;omega
 have hnN:¬TJ N:=fun e=>by have:=(jnKin J).lt k'.out.j N e;have:=hM'.out;have:=hN'.out;omega
 have om:∀ {i x},W0.cell? ⟨M,i,none⟩=some x→w1.cell? ⟨M,i,none⟩=some x:=fun {i x} h=>(hcj.out.cell (p:=⟨M,i,none⟩) hM9 hnM).trans (hgg.out.cell h)
 have m0:=om z'.out.m0
 have m1:=om z'.out.m1
 have m2:=om z'.out.m2
 have m3:=om z'.out.m3
 have mz:∀ o,w1.frozen? ⟨M,o,none⟩=false:=fun o=>(hcj.out.frozen (p:=⟨M,o,none⟩) hM9 hnM).trans ((Below.frozen hgg.out (show (⟨M,o,none⟩:Addr).block<W0.heap.size from hMs)).trans (z'.out.mz o))
 have n0:w1.cell? ⟨N,0,none⟩=some (.int .i64 0):=(hcj.out.cell (p:=⟨N,0,none⟩) hN9 hnN).trans (hgg.out.cell n0'.out)
 have n1:w1.cell? ⟨N,1,none⟩=some (.string ⟨#[]⟩):=(hcj.out.cell (p:=⟨N,1,none⟩) hN9 hnN).trans (hgg.out.cell n1'.out)
 have hM1:M<w1.heap.size:=cell_lt m0
 have hN1:N<w1.heap.size:=cell_lt n0
 clear om hM9 hN9 hnM hnN hp hMs hNs hEs hbs hbb
 obtain⟨j',hj'⟩:∃ j',jnBegin c.j f o n=j':=⟨_,rfl⟩
 rw[hj'] at k1
 rw[hj']
 by_cases hbad:j'.bad=0
 ·have hv:=hid (show wnJoin c (.begin' f o n)=({ c with j:=j' },none) by subst hj';exact if_neg (fun e=>e hbad))
  rw[hbad]
  clear hj' hbad
  go_wp2
  refine bodyPost_ret (v:=.tuple #[wevZ 1 none,.bool false]) (by simp[results,Tryz.results123,go_sem,wevZ,m0,m1,m2,m3]) rfl ?_
  rw[hv.out]
  exact⟨⟨1,rfl⟩,k'.out.telld z'.out.g hM'.out hsz'.out hgg.out hcj.out k1.out (Ch.refl _ _) ((((Ch.setCell (T:=fun i=>i=M∨i=M+1) _ (a:=⟨M,0,none⟩) (.inl rfl) _).trans (Ch.setCell (T:=fun i=>i=M∨i=M+1) _ (a:=⟨M,1,none⟩) (.inl rfl) _)).trans (Ch.setCell (T:=fun i=>i=M∨i=M+1) _ (a:=⟨M,2,none⟩) (.inl rfl) _)).trans (Ch.setCell (T:=fun i=>i=M∨i=M+1) _ (a:=⟨M,3,none⟩) (.inl rfl) _))⟩
 ·have hv:=hid (show wnJoin c (.begin' f o n)=wnFail { c with j:=j' } j'.bad by subst hj';exact if_pos hbad)
  have hz:((j'.bad:Int) != 0)=true:=bne_iff_ne.2 (by omega)
  have hf:=hid (wfails_any k1.out j'.bad)
  clear hj' hbad
  go_wp2_with (fail)
  refine hf.out.mono ?_
  rintro e w2 ⟨rfl,hkv,hcv⟩
  unfold wevZ
  have hnb:¬(M=b):=fun e=>hMb e.symm
  replace m0:=(hcv.cell (p:=⟨M,0,none⟩) hM1 hnb).trans m0
  replace m1:=(hcv.cell (p:=⟨M,1,none⟩) hM1 hnb).trans m1
  replace m2:=(hcv.cell (p:=⟨M,2,none⟩) hM1 hnb).trans m2
  replace m3:=(hcv.cell (p:=⟨M,3,none⟩) hM1 hnb).trans m3
  replace mz:∀ o,w2.frozen? ⟨M,o,none⟩=false:=fun o=>(hcv.frozen (p:=⟨M,o,none⟩) hM1 hnb).trans (mz o)
  have hM2:M<w2.heap.size:=cell_lt m0
  have hkv':=hid hkv
  have hcv':=hid hcv
  clear hcv hkv hM1 hN1 n0 n1
  go_wp2
  refine bodyPost_ret (v:=.tuple #[wevZ 0 (some (.failing j'.bad)),.bool true]) (by simp[results,Tryz.results123,go_sem,wevZ,m0,m1,m2,m3]) rfl ?_
  rw[hv.out]
  exact⟨⟨0,rfl⟩,k'.out.telld z'.out.g hM'.out hsz'.out hgg.out hcj.out hkv'.out hcv'.out ((((Ch.setCell (T:=fun i=>i=M∨i=M+1) _ (a:=⟨M,0,none⟩) (.inl rfl) _).trans (Ch.setCell (T:=fun i=>i=M∨i=M+1) _ (a:=⟨M,1,none⟩) (.inl rfl) _)).trans (Ch.setCell (T:=fun i=>i=M∨i=M+1) _ (a:=⟨M,2,none⟩) (.inl rfl) _)).trans (Ch.setCell (T:=fun i=>i=M∨i=M+1) _ (a:=⟨M,3,none⟩) (.inl rfl) _))⟩
end
section
variable {b R J:Nat} {TJ:Nat→Prop} {W:World} {c:Wn}
theorem wjoin_piece (k:WnS b R J TJ W c) (s:List UInt8) (hn:s.length≤4611686018427387904) :
  Calls Tryz.prog 123 #[.pointer (some ⟨b,0,none⟩),(Fev.piece s).V] W (WjPost b R J TJ W (wnJoin c (.piece s))):=by
 obtain⟨W0,hW0⟩:∃ W0,wj0 W 2 0 false 0 s=W0:=⟨_,rfl⟩
 obtain⟨M,hM⟩:∃ M,W.heap.size+1=M:=⟨_,rfl⟩
 obtain⟨N,hN⟩:∃ N,M+1=N:=⟨_,rfl⟩
 have hN2:W.heap.size+2=N:=by omega
 obtain⟨z,n0,n1,nz,hsz⟩:=wj0_of k 2 0 false 0 s
 rw[hW0,hM] at z
 rw[hW0,hN2] at n0 n1
 rw[hW0] at nz hsz
 rw[hN2] at nz
 have z':=hid z
 have hsz':=hid hsz
 have e0:=z.e0
 have e1:=z.e1
 have e2:=z.e2
 have e3:=z.e3
 have e4:=z.e4
 have m0:=z.m0
 have m1:=z.m1
 have m2:=z.m2
 have m3:=z.m3
 have mz:=z.mz
 have c1:=z.k.c1
 have hlt:=k.lt
 have hMb:b≠M:=by omega
 have hNb:b≠N:=by omega
 have hMN:M≠N:=by omega
 have hbE:b≠W.heap.size:=by omega
 have hbs:b<W0.heap.size:=z.k.lt
 have hMs:M<W0.heap.size:=cell_lt m0
 have hNs:N<W0.heap.size:=cell_lt n0
 have hEs:W.heap.size<W0.heap.size:=cell_lt e0
 have k':=hid k
 have hM':=hid hM
 have hN':=hid hN
 clear k hlt z hsz hN2
 have hb:=hid (show ∀ w',Gr W0 w'→Calls Tryz.prog 150 #[.pointer (some ⟨J,0,none⟩),.string ⟨s.toArray⟩] w' fun e w9=>e=.returned (.int .i64 (jnPiece c.j s).bad)∧Pst (JnAt J) TJ w' (jnPiece c.j s) w9 from fun w' g=>jpiece_at ((jnKin J).gr z'.out.k.j g) s hn)
 unfold Fev.V
 go_enter Tryz.func123,Tryz.ntmps123
 go_upto_region 7 with (fail)
 have t1:∀ x:Later (Gr W0),x.w.cell? ⟨b,1,none⟩=some (.pointer (some ⟨J,0,none⟩)):=fun x=>x.ok.cell c1
 have s1:∀ x:Later (Gr W0),x.w.cell? ⟨W.heap.size,4,none⟩=some (.string ⟨s.toArray⟩):=fun x=>x.ok.cell e4
 have n0':=hid n0
 have n1':=hid n1
 clear m0 m1 m2 m3 mz n0 n1 nz e0 e1 e2 e3 e4 c1
 haveI:Nonempty (Later (Gr W0)):=⟨⟨W0,Gr.refl W0⟩⟩
 refine wp_region_later_tail (C:=Gr W0) 6 (by kernel_rfl) (by kernel_rfl) (Gr.drew' _) ?_
 simp only[List.take_succ_cons,List.take_zero,List.drop_succ_cons,List.drop_zero]
 repeat (go_big_quiet_step (fail))
 refine wpQuiet_nil ?_
 intro w9 hg9
 clear t1 s1
 have hgg:=hid hg9
 have hbb:=hid (hb.out w9 hg9)
 clear hg9 hb
 go_wp2_with (fail)
 refine hbb.out.mono ?_
 rintro e w1 ⟨rfl,hp⟩
 have k1:=hid ((z'.out.k.gr hgg.out).setJ hp)
 have hcj:=hid hp.2
 have hM9:M<w9.heap.size:=by have:=Below.size hgg.out;omega
 have hN9:N<w9.heap.size:=by have:=Below.size hgg.out;omega
 have hnM:¬TJ M:=fun e=>by have:=(jnKin J).lt k'.out.j M e;have:=hM'.out;omega
 have hnN:¬TJ N:=fun e=>by have:=(jnKin J).lt k'.out.j N e;have:=hM'.out;have:=hN'.out;omega
 have om:∀ {i x},W0.cell? ⟨M,i,none⟩=some x→w1.cell? ⟨M,i,none⟩=some x:=fun {i x} h=>(hcj.out.cell (p:=⟨M,i,none⟩) hM9 hnM).trans (hgg.out.cell h)
 have m0:=om z'.out.m0
 have m1:=om z'.out.m1
 have m2:=om z'.out.m2
 have m3:=om z'.out.m3
 have mz:∀ o,w1.frozen? ⟨M,o,none⟩=false:=fun o=>(hcj.out.frozen (p:=⟨M,o,none⟩) hM9 hnM).trans ((Below.frozen hgg.out (show (⟨M,o,none⟩:Addr).block<W0.heap.size from hMs)).trans (z'.out.mz o))
 have n0:w1.cell? ⟨N,0,none⟩=some (.int .i64 0):=(hcj.out.cell (p:=⟨N,0,none⟩) hN9 hnN).trans (hgg.out.cell n0'.out)
 have n1:w1.cell? ⟨N,1,none⟩=some (.string ⟨#[]⟩):=(hcj.out.cell (p:=⟨N,1,none⟩) hN9 hnN).trans (hgg.out.cell n1'.out)
 have hM1:M<w1.heap.size:=cell_lt m0
 have hN1:N<w1.heap.size:=cell_lt n0
 clear om hM9 hN9 hnM hnN hp hMs hNs hEs hbs hbb
 obtain⟨j',hj'⟩:∃ j',jnPiece c.j s=j':=⟨_,rfl⟩
 rw[hj'] at k1
 rw[hj']
 by_cases hbad:j'.bad=0
 ·have hv:=hid (show wnJoin c (.piece s)=({ c with j:=j' },none) by subst hj';exact if_neg (fun e=>e hbad))
  rw[hbad]
  clear hj' hbad
  go_wp2
  refine bodyPost_ret (v:=.tuple #[wevZ 1 none,.bool false]) (by simp[results,Tryz.results123,go_sem,wevZ,m0,m1,m2,m3]) rfl ?_
  rw[hv.out]
  exact⟨⟨1,rfl⟩,k'.out.telld z'.out.g hM'.out hsz'.out hgg.out hcj.out k1.out (Ch.refl _ _) ((((Ch.setCell (T:=fun i=>i=M∨i=M+1) _ (a:=⟨M,0,none⟩) (.inl rfl) _).trans (Ch.setCell (T:=fun i=>i=M∨i=M+1) _ (a:=⟨M,1,none⟩) (.inl rfl) _)).trans (Ch.setCell (T:=fun i=>i=M∨i=M+1) _ (a:=⟨M,2,none⟩) (.inl rfl) _)).trans (Ch.setCell (T:=fun i=>i=M∨i=M+1) _ (a:=⟨M,3,none⟩) (.inl rfl) _))⟩
 ·have hv:=hid (show wnJoin c (.piece s)=wnFail { c with j:=j' } j'.bad by subst hj';exact if_pos hbad)
  have hz:((j'.bad:Int) != 0)=true:=bne_iff_ne.2 (by omega)
  have hf:=hid (wfails_any k1.out j'.bad)
  clear hj' hbad
  go_wp2_with (fail)
  refine hf.out.mono ?_
  rintro e w2 ⟨rfl,hkv,hcv⟩
  unfold wevZ
  have hnb:¬(M=b):=fun e=>hMb e.symm
  replace m0:=(hcv.cell (p:=⟨M,0,none⟩) hM1 hnb).trans m0
  replace m1:=(hcv.cell (p:=⟨M,1,none⟩) hM1 hnb).trans m1
  replace m2:=(hcv.cell (p:=⟨M,2,none⟩) hM1 hnb).trans m2
  replace m3:=(hcv.cell (p:=⟨M,3,none⟩) hM1 hnb).trans m3
  replace mz:∀ o,w2.frozen? ⟨M,o,none⟩=false:=fun o=>(hcv.frozen (p:=⟨M,o,none⟩) hM1 hnb).trans (mz o)
  have hM2:M<w2.heap.size:=cell_lt m0
  have hkv':=hid hkv
  have hcv':=hid hcv
  clear hcv hkv hM1 hN1 n0 n1
  go_wp2
  refine bodyPost_ret (v:=.tuple #[wevZ 0 (some (.failing j'.bad)),.bool true]) (by simp[results,Tryz.results123,go_sem,wevZ,m0,m1,m2,m3]) rfl ?_
  rw[hv.out]
  exact⟨⟨0,rfl⟩,k'.out.telld z'.out.g hM'.out hsz'.out hgg.out hcj.out hkv'.out hcv'.out ((((Ch.setCell (T:=fun i=>i=M∨i=M+1) _ (a:=⟨M,0,none⟩) (.inl rfl) _).trans (Ch.setCell (T:=fun i=>i=M∨i=M+1) _ (a:=⟨M,1,none⟩) (.inl rfl) _)).trans (Ch.setCell (T:=fun i=>i=M∨i=M+1) _ (a:=⟨M,2,none⟩) (.inl rfl) _)).trans (Ch.setCell (T:=fun i=>i=M∨i=M+1) _ (a:=⟨M,3,none⟩) (.inl rfl) _))⟩
end
theorem jnEnd_some {j:Jn} {m:Nat×List UInt8} (h:(jnEnd j).2=some m):(jnEnd j).1.bad=0:=by
 unfold jnEnd at h ⊢
 by_cases h0:j.bad≠0
 ·rw[if_pos h0] at h;cases h
 ·rw[if_neg h0] at h ⊢
  split at h
  ·cases h
  ·split at h
   ·cases h
   ·split at h
    ·cases h
    ·rename_i h1 h2 h3
     rw[if_neg h1,if_neg h2,if_neg h3]
     exact Decidable.not_not.1 h0
section
variable {b R J:Nat} {TJ:Nat→Prop} {W:World} {c:Wn}
theorem WnS.telld2 {W0 w9 w1 w2 w':World} {c':Wn} {M:Nat} (k:WnS b R J TJ W c) (g:Gr W W0) (hM:W.heap.size+1=M) (hs:W0.heap.size=W.heap.size+3) (hg:Gr W0 w9) (h1:Ch TJ w9 w1) (hp:WnS b R J (Add TJ w9 w1) w2 c') (h2:Ch (fun i=>i=b∨i=M+1) w1 w2) (hc:Ch (fun i=>i=M∨i=M+1) w2 w') :
  WnS b R J (Add TJ W w') w' c'∧Ch (fun i=>i=b∨TJ i) W w':=by
 have hb:=k.lt
 have hR:=k.r.lt
 have s1:=Below.size hg
 have s2:=h1.size
 have s3:=h2.size
 have s4:=hc.size
 have hJ:∀ i,Add TJ w9 w1 i→TJ i∨(W.heap.size+3≤i∧i<w1.heap.size):=fun i e=>e.imp_right fun e=>⟨by have:=e.1;omega,e.2⟩
 have q:=hp.ch hc (by omega) (by omega) (fun i e e2=>by
  rcases hJ i e with e3 | e3
  ·have:=(jnKin J).lt k.j i e3;omega
  ·omega)
 refine⟨k.widen q (by omega) (fun i e=>(hJ i e).imp_right fun e3=>⟨by omega,by omega⟩),?_⟩
 exact (((g.trans hg).to_ch _).trans (h1.mono fun _ e=>.inr e)).drop_new (S:=fun i=>i=b∨i=M∨i=M+1) ((h2.mono fun _ e=>e.imp_right .inr).trans (hc.mono fun _ e=>.inr e)) (fun i e=>by
  rcases e with e | e
  ·exact .inl (.inl e)
  ·exact .inr (by omega))
theorem wjoin_end (k:WnS b R J TJ W c) :
  Calls Tryz.prog 123 #[.pointer (some ⟨b,0,none⟩),Fev.fin.V] W (WjPost b R J TJ W (wnJoin c .fin)):=by
 obtain⟨W0,hW0⟩:∃ W0,wj0 W 3 0 false 0 []=W0:=⟨_,rfl⟩
 obtain⟨M,hM⟩:∃ M,W.heap.size+1=M:=⟨_,rfl⟩
 obtain⟨N,hN⟩:∃ N,M+1=N:=⟨_,rfl⟩
 have hN2:W.heap.size+2=N:=by omega
 obtain⟨z,n0,n1,nz,hsz⟩:=wj0_of k 3 0 false 0 []
 rw[hW0,hM] at z
 rw[hW0,hN2] at n0 n1
 rw[hW0] at nz hsz
 rw[hN2] at nz
 have z':=hid z
 have hsz':=hid hsz
 have e0:=z.e0
 have e1:=z.e1
 have e2:=z.e2
 have e3:=z.e3
 have e4:=z.e4
 have m0:=z.m0
 have m1:=z.m1
 have m2:=z.m2
 have m3:=z.m3
 have mz:=z.mz
 have c1:=z.k.c1
 have hlt:=k.lt
 have hMb:b≠M:=by omega
 have hNb:b≠N:=by omega
 have hMN:M≠N:=by omega
 have hbE:b≠W.heap.size:=by omega
 have hbs:b<W0.heap.size:=z.k.lt
 have hMs:M<W0.heap.size:=cell_lt m0
 have hNs:N<W0.heap.size:=cell_lt n0
 have hEs:W.heap.size<W0.heap.size:=cell_lt e0
 have k':=hid k
 have hM':=hid hM
 have hN':=hid hN
 clear k hlt z hsz hN2
 have hb:=hid (jend_at z'.out.k.j)
 have hsome:∀ m,(jnEnd c.j).2=some m→(jnEnd c.j).1.bad=0:=fun m e=>jnEnd_some e
 obtain⟨⟨j',m⟩,hj'⟩:∃ r,jnEnd c.j=r:=⟨_,rfl⟩
 rw[hj'] at hb hsome
 have hsome':=hid hsome
 have hjj:=hid hj'
 clear hsome hj'
 have n0z:=hid n0
 have n1z:=hid n1
 have nzz:=hid nz
 unfold Fev.V
 go_enter Tryz.func123,Tryz.ntmps123
 go_wp2_with (fail)
 refine hb.out.mono ?_
 rintro e w1 ⟨rfl,hp⟩
 have k1:=hid (z'.out.k.setJ hp)
 have hcj:=hid hp.2
 have hM9:M<W0.heap.size:=by have:=Below.size (Gr.refl W0);omega
 have hN9:N<W0.heap.size:=by have:=Below.size (Gr.refl W0);omega
 have hnM:¬TJ M:=fun e=>by have:=(jnKin J).lt k'.out.j M e;have:=hM'.out;omega
 have hnN:¬TJ N:=fun e=>by have:=(jnKin J).lt k'.out.j N e;have:=hM'.out;have:=hN'.out;omega
 have om:∀ {i x},W0.cell? ⟨M,i,none⟩=some x→w1.cell? ⟨M,i,none⟩=some x:=fun {i x} h=>(hcj.out.cell (p:=⟨M,i,none⟩) hM9 hnM).trans (h)
 have m0:=om z'.out.m0
 have m1:=om z'.out.m1
 have m2:=om z'.out.m2
 have m3:=om z'.out.m3
 have mz:∀ o,w1.frozen? ⟨M,o,none⟩=false:=fun o=>(hcj.out.frozen (p:=⟨M,o,none⟩) hM9 hnM).trans ((Below.frozen (Gr.refl W0) (show (⟨M,o,none⟩:Addr).block<W0.heap.size from hMs)).trans (z'.out.mz o))
 have n0:w1.cell? ⟨N,0,none⟩=some (.int .i64 0):=(hcj.out.cell (p:=⟨N,0,none⟩) hN9 hnN).trans n0z.out
 have n1:w1.cell? ⟨N,1,none⟩=some (.string ⟨#[]⟩):=(hcj.out.cell (p:=⟨N,1,none⟩) hN9 hnN).trans n1z.out
 have nz:∀ o,w1.frozen? ⟨N,o,none⟩=false:=fun o=>(hcj.out.frozen (p:=⟨N,o,none⟩) hN9 hnN).trans (nzz.out o)
 have hM1:M<w1.heap.size:=cell_lt m0
 have hN1:N<w1.heap.size:=cell_lt n0
 clear om hM9 hN9 hnM hnN hp hMs hEs hbs hb
 cases m with
 | none =>
  unfold endV
  dsimp only
  by_cases hbad:j'.bad=0
  ·have hv:=hid (show wnJoin c .fin=({ c with j:=j' },none) by
    show (if (jnEnd c.j).1.bad≠0 then _ else _)=_
    rw[hjj.out];exact if_neg (fun e=>e hbad))
   rw[hbad]
   clear hbad
   go_wp2
   refine bodyPost_ret (v:=.tuple #[wevZ 1 none,.bool false]) (by simp[results,Tryz.results123,go_sem,wevZ,m0,m1,m2,m3,hMN,Ne.symm hMN]) rfl ?_
   rw[hv.out]
   exact⟨⟨1,rfl⟩,k'.out.telld z'.out.g hM'.out hsz'.out (Gr.refl W0) hcj.out k1.out (Ch.refl _ _) (((Ch.setCell (T:=fun i=>i=M∨i=M+1) _ (a:=⟨N,0,none⟩) (.inr hN'.out.symm) _).trans (Ch.setCell (T:=fun i=>i=M∨i=M+1) _ (a:=⟨N,1,none⟩) (.inr hN'.out.symm) _)).trans ((((Ch.setCell (T:=fun i=>i=M∨i=M+1) _ (a:=⟨M,0,none⟩) (.inl rfl) _).trans (Ch.setCell (T:=fun i=>i=M∨i=M+1) _ (a:=⟨M,1,none⟩) (.inl rfl) _)).trans (Ch.setCell (T:=fun i=>i=M∨i=M+1) _ (a:=⟨M,2,none⟩) (.inl rfl) _)).trans (Ch.setCell (T:=fun i=>i=M∨i=M+1) _ (a:=⟨M,3,none⟩) (.inl rfl) _)))⟩
  ·have hv:=hid (show wnJoin c .fin=wnFail { c with j:=j' } j'.bad by
    show (if (jnEnd c.j).1.bad≠0 then _ else _)=_
    rw[hjj.out];exact if_pos hbad)
   have hz:((j'.bad:Int) != 0)=true:=bne_iff_ne.2 (by omega)
   obtain⟨w3,hw3⟩:∃ w3,(w1.setCell ⟨N,0,none⟩ (.int .i64 0)).setCell ⟨N,1,none⟩ (.string ⟨#[]⟩)=w3:=⟨_,rfl⟩
   have c3':=hid (show Ch (fun i=>i=N) w1 w3 from hw3▸(Ch.setCell (T:=fun i=>i=N) w1 (a:=⟨N,0,none⟩) rfl _).trans (Ch.setCell (T:=fun i=>i=N) _ (a:=⟨N,1,none⟩) rfl _))
   have hRN:R≠N:=by have:=k'.out.r.lt;have:=hM'.out;have:=hN'.out;omega
   have k3:=hid (k1.out.ch c3'.out hNb hRN (fun i e e2=>by
    rcases e with e | e
    ·have:=(jnKin J).lt k'.out.j i e;have:=hM'.out;have:=hN'.out;omega
    ·have:=e.1;have:=hsz'.out;have:=hM'.out;have:=hN'.out;omega))
   have hf:=hid (wfails_any k3.out j'.bad)
   clear hbad
   go_wp2_with (fail)
   refine hf.out.mono ?_
   rintro e w2 ⟨rfl,hkv,hcv⟩
   unfold wevZ
   have hnb:¬(M=b∨M=N):=fun e=>e.elim (fun e=>hMb e.symm) hMN
   have hx:=hid ((c3'.out.mono (T':=fun i=>i=b∨i=N) fun _ e=>.inr e).trans (hcv.mono fun _ e=>.inl e))
   replace m0:=(hx.out.cell (p:=⟨M,0,none⟩) hM1 hnb).trans m0
   replace m1:=(hx.out.cell (p:=⟨M,1,none⟩) hM1 hnb).trans m1
   replace m2:=(hx.out.cell (p:=⟨M,2,none⟩) hM1 hnb).trans m2
   replace m3:=(hx.out.cell (p:=⟨M,3,none⟩) hM1 hnb).trans m3
   replace mz:∀ o,w2.frozen? ⟨M,o,none⟩=false:=fun o=>(hx.out.frozen (p:=⟨M,o,none⟩) hM1 hnb).trans (mz o)
   have hM2:M<w2.heap.size:=cell_lt m0
   have hkv':=hid hkv
   clear hcv hkv hM1 hN1 n0 n1 hw3 nz
   go_wp2
   refine bodyPost_ret (v:=.tuple #[wevZ 0 (some (.failing j'.bad)),.bool true]) (by simp[results,Tryz.results123,go_sem,wevZ,m0,m1,m2,m3]) rfl ?_
   rw[hv.out]
   exact⟨⟨0,rfl⟩,k'.out.telld2 z'.out.g hM'.out hsz'.out (Gr.refl W0) hcj.out hkv'.out (hx.out.mono fun _ e=>e.imp_right fun e=>e.trans hN'.out.symm) ((((Ch.setCell (T:=fun i=>i=M∨i=M+1) _ (a:=⟨M,0,none⟩) (.inl rfl) _).trans (Ch.setCell (T:=fun i=>i=M∨i=M+1) _ (a:=⟨M,1,none⟩) (.inl rfl) _)).trans (Ch.setCell (T:=fun i=>i=M∨i=M+1) _ (a:=⟨M,2,none⟩) (.inl rfl) _)).trans (Ch.setCell (T:=fun i=>i=M∨i=M+1) _ (a:=⟨M,3,none⟩) (.inl rfl) _))⟩
 | some m =>
  have hbad:j'.bad=0:=hsome'.out m rfl
  have hv:=hid (show wnJoin c .fin=({ c with j:=j' },some (.message m.1 m.2)) by
    show (if (jnEnd c.j).1.bad≠0 then _ else _)=_
    rw[hjj.out];exact if_neg (fun e=>e hbad))
  unfold endV
  dsimp only
  rw[hbad]
  clear hbad
  go_wp2
  refine bodyPost_ret (v:=.tuple #[wevZ 0 (some (.message m.1 m.2)),.bool true]) (by simp[results,Tryz.results123,go_sem,wevZ,m0,m1,m2,m3,hMN,Ne.symm hMN]) rfl ?_
  rw[hv.out]
  exact⟨⟨0,rfl⟩,k'.out.telld z'.out.g hM'.out hsz'.out (Gr.refl W0) hcj.out k1.out (Ch.refl _ _) (((Ch.setCell (T:=fun i=>i=M∨i=M+1) _ (a:=⟨N,0,none⟩) (.inr hN'.out.symm) _).trans (Ch.setCell (T:=fun i=>i=M∨i=M+1) _ (a:=⟨N,1,none⟩) (.inr hN'.out.symm) _)).trans ((((Ch.setCell (T:=fun i=>i=M∨i=M+1) _ (a:=⟨M,0,none⟩) (.inl rfl) _).trans (Ch.setCell (T:=fun i=>i=M∨i=M+1) _ (a:=⟨M,1,none⟩) (.inl rfl) _)).trans (Ch.setCell (T:=fun i=>i=M∨i=M+1) _ (a:=⟨M,2,none⟩) (.inl rfl) _)).trans (Ch.setCell (T:=fun i=>i=M∨i=M+1) _ (a:=⟨M,3,none⟩) (.inl rfl) _)))⟩
end
end Go.Proofs.YtadobobfjnmdlaaGreatDoor
namespace Go.Proofs.YtadobobfjnmdlaaGreatDoor
open Go.RowKit Go.Shelf
def FevSm:Fev→Prop
 | .begin' _ _ n=>n≤9223372036854775807
 | .piece s=>s.length≤4611686018427387900
 | .fin=>True
 | .fail=>False
theorem wjoins_any {b R J:Nat} {TJ:Nat→Prop} {W:World} {c:Wn} (k:WnS b R J TJ W c) (e:Fev) (he:FevSm e) :
  Calls Tryz.prog 123 #[.pointer (some ⟨b,0,none⟩),e.V] W (WjPost b R J TJ W (wnJoin c e)):=by
 cases e with
 | begin' f o n=>exact wjoin_begin k f o n he
 | piece s=>exact wjoin_piece k s (Nat.le_trans he (by decide))
 | fin=>exact wjoin_end k
 | fail=>exact he.elim
end Go.Proofs.YtadobobfjnmdlaaGreatDoor
namespace Go.Proofs.YtadobobfjnmdlaaGreatDoor
theorem headH_len {s:List UInt8} {h:Hd} {n:Nat} (e:headH s=some (h,n)):h=mkH s∧n=needH s∧2≤n∧n≤s.length∧sizeH s≤n∧(128≤s.getD 1 0→sizeH s+4=n):=by
 unfold headH at e
 split at e
 ·cases e
 ·rename_i k
  cases e
  refine⟨rfl,rfl,?_,by omega,?_,?_⟩ <;> unfold needH
  ·split <;> (unfold sizeH;omega)
  ·split <;> omega
  ·intro h;rw[if_pos h]
def wnStep (c:Wn):Option (Wn×Option Wev):=if c.st=3 then none else match frNext c.r with
 |(_,none)=>none
 |(r,some e)=>some (wnTakes { c with r:=r } e)
theorem wnTakes_r (c:Wn) (e:Fev) (r:Fr):wnTakes { c with r:=r } e=({ (wnTakes c e).1 with r:=r },(wnTakes c e).2):=by
 cases e with
 | begin' fin op len =>
  unfold wnTakes wnControl wnJoin wnFail
  dsimp only
  repeat' split
  all_goals rfl
 | piece s =>
  unfold wnTakes wnControl wnJoin wnFail
  dsimp only
  repeat' split
  all_goals rfl
 | fin =>
  unfold wnTakes wnControl wnJoin wnFail
  dsimp only
  repeat' split
  all_goals rfl
 | fail=>rfl
theorem frNext_size {r r':Fr} {e:Fev} (h:frNext r=(r',some e)):r'.inp.length+(if r'.st=0 then 0 else 1)<r.inp.length+(if r.st=0 then 0 else 1):=by
 unfold frNext at h
 split at h
 ·cases h
 ·split at h
  ·rename_i h0
   rw[if_pos h0]
   cases hh:headH r.inp with
   | none=>rw[hh] at h;cases h
   | some x =>
    obtain⟨d,n⟩:=x
    obtain⟨_,_,h2,hn,_,_⟩:=headH_len hh
    rw[hh] at h
    dsimp only at h
    split at h
    ·cases h
     dsimp only
     rw[List.length_drop,if_neg (by decide)];omega
    ·cases h
     dsimp only
     rw[List.length_nil,if_neg (by decide)];omega
  ·rename_i h0
   rw[if_neg h0]
   split at h
   ·cases h
    dsimp only
    rw[if_pos rfl];omega
   ·split at h
    ·cases h
    ·cases h
     dsimp only
     rw[List.length_drop,if_neg h0];omega
theorem wnStep_at {c c1:Wn} {o:Option Wev} (h:wnStep c=some (c1,o)):c.st≠3∧∃ r e,frNext c.r=(r,some e)∧wnTakes { c with r:=r } e=(c1,o)∧c1.r=r:=by
 unfold wnStep at h
 split at h
 ·cases h
 ·rename_i h3
  refine⟨h3,?_⟩
  split at h
  ·cases h
  ·rename_i r e he
   have h:=Option.some.inj h
   refine⟨r,e,he,h,?_⟩
   have:=wnTakes_r c e r
   rw[h] at this
   exact (congrArg (fun x=>x.1.r) this).trans rfl
theorem wnStep_of {c:Wn} {r:Fr} {e:Fev} (h3:c.st≠3) (h:frNext c.r=(r,some e)):wnStep c=some (wnTakes { c with r:=r } e):=by
 unfold wnStep
 rw[if_neg h3,h]
theorem wnStep_size {c c1:Wn} {o:Option Wev} (h:wnStep c=some (c1,o)):wnSize c1<wnSize c:=by
 obtain⟨_,r,e,he,_,hr⟩:=wnStep_at h
 unfold wnSize
 rw[hr]
 exact frNext_size he
structure FrB (n:Nat) (r:Fr):Prop where
 i:r.inp.length≤n
 h:r.h.len≤9223372036854775807
 t:r.told≤r.h.len
 s:r.st≤2
def fevL:Fev→Nat
 | .piece s=>s.length
 | _=>0
def FevB:Fev→Prop
 | .begin' _ _ n=>n≤9223372036854775807
 | _=>True
theorem mayH_len {m:Bool} {h:Hd} (e:mayH m h=true):h.len≤9223372036854775807:=by
 unfold mayH at e
 simp only[Bool.and_eq_true,decide_eq_true_eq] at e
 exact e.2.2.2.2.2
theorem frNext_none {n:Nat} {r r':Fr} (h:frNext r=(r',none)):r'=r:=by
 unfold frNext at h
 split at h
 ·cases h;rfl
 ·split at h
  ·split at h
   ·cases h;rfl
   ·split at h <;> cases h
  ·split at h
   ·cases h
   ·split at h <;> cases h
    rfl
theorem FrB.next {n:Nat} {r r':Fr} {e:Fev} (hk:FrB n r) (h:frNext r=(r',some e)):FrB (n - fevL e) r'∧r'.inp.length+fevL e≤r.inp.length∧FevB e:=by
 obtain⟨h1,h2,h3,h4⟩:=hk
 unfold frNext at h
 split at h
 ·cases h
 ·split at h
  ·split at h
   ·cases h
   ·rename_i hd m hh
    split at h
    ·rename_i hm
     have:=mayH_len hm
     cases h
     refine⟨⟨?_,this,Nat.zero_le _,(by decide:(1:Nat)≤2)⟩,?_,this⟩ <;> simp only[fevL,List.length_drop] <;> omega
    ·cases h
     refine⟨⟨Nat.zero_le _,h2,h3,Nat.le_refl _⟩,Nat.zero_le _,trivial⟩
  ·split at h
   ·cases h
    exact⟨⟨h1,h2,h3,Nat.zero_le _⟩,Nat.le_refl _,trivial⟩
   ·split at h
    ·cases h
    ·cases h
     refine⟨⟨?_,h2,?_,h4⟩,?_,trivial⟩
     ·simp only[fevL,maskH_len,List.length_take,List.length_drop];omega
     ·dsimp only;omega
     ·simp only[fevL,maskH_len,List.length_take,List.length_drop];omega
structure WnB (n:Nat) (c:Wn):Prop where
 r:FrB n c.r
 d:c.r.inp.length+c.data.length≤n
theorem WnB.le {n m:Nat} {c:Wn} (h:WnB n c) (hm:n≤m):WnB m c:=⟨⟨Nat.le_trans h.r.i hm,h.r.h,h.r.t,h.r.s⟩,Nat.le_trans h.d hm⟩
theorem wn0_b (limit:Nat):WnB 0 (wn0 limit):=⟨⟨Nat.le_refl _,Nat.zero_le _,Nat.le_refl _,(by decide:(0:Nat)≤2)⟩,Nat.le_refl _⟩
theorem WnB.feed {n:Nat} {c:Wn} (h:WnB n c) (b:List UInt8):WnB (n+b.length) (wnFeed c b):=by
 unfold wnFeed
 split
 ·exact h.le (Nat.le_add_right _ _)
 ·unfold frFeed
  split
  ·exact h.le (Nat.le_add_right _ _)
  ·have h1:=h.r.i
   have h2:=h.d
   refine⟨⟨?_,h.r.h,h.r.t,h.r.s⟩,?_⟩ <;> simp only[List.length_append] <;> omega
theorem WnB.over {n:Nat} {c:Wn} (h:WnB n c):WnB n (wnOver c):=⟨h.r,h.d⟩
theorem WnB.shut {n:Nat} {c:Wn} (h:WnB n c):WnB n (wnShut c):=by
 unfold wnShut
 split
 ·exact⟨h.r,h.d⟩
 ·exact h
theorem wnTakes_data (c:Wn) (e:Fev):(wnTakes c e).1.r=c.r∧(wnTakes c e).1.data.length≤c.data.length+fevL e:=by
 unfold wnTakes wnControl wnJoin wnFail
 cases e <;> dsimp only[fevL] <;> (repeat' split) <;> first | exact⟨rfl,Nat.le_refl _⟩ | exact⟨rfl,Nat.le_add_right _ _⟩ | exact⟨rfl,by simp⟩
theorem WnB.step {n:Nat} {c:Wn} {r:Fr} {e:Fev} (h:WnB n c) (hn:frNext c.r=(r,some e)):WnB n (wnTakes { c with r:=r } e).1∧FevB e∧c.data.length+fevL e≤n∧r.inp.length+fevL e≤c.r.inp.length:=by
 obtain⟨h1,h2,h3⟩:=h.r.next hn
 obtain⟨k1,k2⟩:=wnTakes_data { c with r:=r } e
 have hd:=h.d
 dsimp only at k1 k2
 refine⟨⟨by rw[k1];exact⟨by have:=h1.i;omega,h1.h,h1.t,h1.s⟩,by rw[k1];omega⟩,h3,by omega,h2⟩
theorem WnB.go {n:Nat}:∀ (m:Nat) (c:Wn),WnB n c→WnB n (wnGo m c).1
 | 0,c,h=>h
 | m+1,c,h=>by
  unfold wnGo
  split
  ·exact h
  ·cases hn:frNext c.r with
   | mk r o =>
    cases o with
    | none =>
     have:=frNext_none (n:=0) hn
     subst this
     exact h
    | some e =>
     have hs:=(h.step hn).1
     dsimp only
     split
     ·rename_i c' x hx
      rw[hx] at hs
      exact hs
     ·rename_i c' hx
      rw[hx] at hs
      exact WnB.go m c' hs
theorem WnB.next {n:Nat} {c:Wn} (h:WnB n c):WnB n (wnNext c).1:=WnB.go _ c h
end Go.Proofs.YtadobobfjnmdlaaGreatDoor
