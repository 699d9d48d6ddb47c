/-
  A socket in memory: what is told of a frame of data.
-/
import Derived.Test.YtadobobfjnmdlaaGreatDoorJh
set_option linter.unnecessarySimpa false
set_option linter.unusedVariables false
set_option linter.unusedSimpArgs false
set_option maxHeartbeats 16000000
set_option maxRecDepth 100000
open Go.Lib (hid)
open Go.Proofs.Tryz
namespace Go.Proofs.YtadobobfjnmdlaaGreatDoor
open Go.RowKit Go.Shelf
attribute [local go_sem] Oper.semAt_some
def WjPost (b R J:Nat) (TJ:Nat→Prop) (W:World) (x:Wn×Option Wev) (e:Ending) (W':World):Prop :=
 (∃ kk,e=.returned (.tuple #[wevZ kk x.2,.bool x.2.isSome]))∧WnS b R J (Add TJ W W') W' x.1∧Ch (λi=>i=b∨TJ i) W W'
section
variable {b R J:Nat} {TJ:Nat→Prop} {W:World} {c:Wn}
abbrev wj0 (W:World) (kk o:Int) (f:Bool) (n:Int) (t:List UInt8):World:=(wc0 W kk o f n t).alloc (.cells #[.int .i64 0,.string ⟨#[]⟩] 203)
theorem wj0_of (k:WnS b R J TJ W c) (kk o:Int) (f:Bool) (n:Int) (t:List UInt8):Wc0 b R J TJ W c kk o f n t (wj0 W kk o f n t) (W.heap.size+1) ∧
  (wj0 W kk o f n t).cell? ⟨W.heap.size+2,0,none⟩=some (.int .i64 0)∧(wj0 W kk o f n t).cell? ⟨W.heap.size+2,1,none⟩=some (.string ⟨#[]⟩)∧(∀ i,(wj0 W kk o f n t).frozen? ⟨W.heap.size+2,i,none⟩=false)∧(wj0 W kk o f n t).heap.size=W.heap.size+3:=by
 have z:=wc0_of k kk o f n t
 have hs:(wc0 W kk o f n t).heap.size=W.heap.size+2:=by simp
 have g2:Gr (wc0 W kk o f n t) (wj0 W kk o f n t):=Gr.alloc _ _
 refine⟨⟨z.g.trans g2,rfl,z.k.gr g2,g2.cell z.e0,g2.cell z.e1,g2.cell z.e2,g2.cell z.e3,g2.cell z.e4,g2.cell z.m0,g2.cell z.m1,g2.cell z.m2,g2.cell z.m3,λi=>(Below.frozen g2 (p:=⟨W.heap.size+1,i,none⟩) (show W.heap.size+1<(wc0 W kk o f n t).heap.size by rw[hs];omega)).trans (z.mz i)⟩,hs▸cell_new7 _ _ _ 0 _ rfl,hs▸cell_new7 _ _ _ 1 _ rfl,λ_=>World.frozen?_alloc_at _ _ _ _ hs.symm,by simp⟩
theorem WnS.widen {W':World} {c':Wn} {TJ1:Nat→Prop} (k:WnS b R J TJ W c) (h:WnS b R J TJ1 W' c') (hs:W.heap.size≤W'.heap.size) (ht:∀ i,TJ1 i→Add TJ W W' i):WnS b R J (Add TJ W W') W' c' :=
 ⟨h.c0,h.c1,h.c2,h.c3,h.c4,h.fz,h.r,(jnKin J).mono h.j ht (λi e=>e.elim (λe=>Nat.lt_of_lt_of_le ((jnKin J).lt k.j i e) hs) (λe=>e.2)),h.d1,λe=>e.elim k.d2 (λe=>absurd k.lt (Nat.not_lt.2 e.1)),λe=>e.elim k.d3 (λe=>absurd k.r.lt (Nat.not_lt.2 e.1))⟩
theorem WnS.telld {W0 w9 w1 w2 w':World} {c':Wn} {M:Nat} (k:WnS b R J TJ W c) (g:Gr W W0) (hM:W.heap.size+1=M) (hs:W0.heap.size=W.heap.size+3) (hg:Gr W0 w9) (h1:Ch TJ w9 w1) (hp:WnS b R J (Add TJ w9 w1) w2 c') (h2:Ch (λi=>i=b) w1 w2) (hc:Ch (λi=>i=M∨i=M+1) w2 w') :
  WnS b R J (Add TJ W w') w' c'∧Ch (λi=>i=b∨TJ i) W w':=by
 have hb:=k.lt
 have hR:=k.r.lt
 have s1:=Below.size hg
 have s2:=h1.size
 have s3:=h2.size
 have s4:=hc.size
 have hJ:∀ i,Add TJ w9 w1 i→TJ i∨(W.heap.size+3≤i∧i<w1.heap.size):=λi e=>e.imp_right λe=>⟨by have:=e.1;omega,e.2⟩
 have q:=hp.ch hc (by omega) (by omega) (λi e e2=>by
  rcases hJ i e with e3 | e3
  ·have:=(jnKin J).lt k.j i e3;omega
  ·omega)
 refine⟨k.widen q (by omega) (λi e=>(hJ i e).imp_right λe3=>⟨by omega,by omega⟩),?_⟩
 exact ((((g.trans hg).to_ch _).trans (h1.mono λ_ e=>.inr e)).trans (h2.mono λ_ e=>.inl e)).drop_new hc (λi e=>.inr (by omega))
theorem wjoin_begin (k:WnS b R J TJ W c) (f:Bool) (o n:Nat) (hn:n≤9223372036854775807) :
  Calls prog 123 #[.pointer (some ⟨b,0,none⟩),(Fev.begin' f o n).V] W (WjPost b R J TJ W (wnJoin c (.begin' f o n))):=by
 obtain⟨W0,hW0⟩:∃ W0,wj0 W 1 o f n []=W0:=⟨_,rfl⟩
 obtain⟨M,hM⟩:∃ M,W.heap.size+1=M:=⟨_,rfl⟩
 obtain⟨N,hN⟩:∃ N,M+1=N:=⟨_,rfl⟩
 have hN2:W.heap.size+2=N:=by omega
 obtain⟨z,n0,n1,nz,hsz⟩:=wj0_of k 1 o f n []
 rw[hW0,hM] at z
 rw[hW0,hN2] at n0 n1
 rw[hW0] at nz hsz
 rw[hN2] at nz
 have z':=hid z
 have hsz':=hid hsz
 have e0:=z.e0
 have e1:=z.e1
 have e2:=z.e2
 have e3:=z.e3
 have e4:=z.e4
 have m0:=z.m0
 have m1:=z.m1
 have m2:=z.m2
 have m3:=z.m3
 have mz:=z.mz
 have c1:=z.k.c1
 have hlt:=k.lt
 have hMb:b≠M:=by omega
 have hNb:b≠N:=by omega
 have hMN:M≠N:=by omega
 have hbE:b≠W.heap.size:=by omega
 have hbs:b<W0.heap.size:=z.k.lt
 have hMs:M<W0.heap.size:=cell_lt m0
 have hNs:N<W0.heap.size:=cell_lt n0
 have hEs:W.heap.size<W0.heap.size:=cell_lt e0
 have k':=hid k
 have hM':=hid hM
 have hN':=hid hN
 clear k hlt z hsz hN2
 have hb:=hid (show ∀ w',Gr W0 w'→Calls prog 149 #[.pointer (some ⟨J,0,none⟩),.bool f,.int .i64 o,.int .i64 n] w' λe w9=>e=.returned (.int .i64 (jnBegin c.j f o n).bad)∧Pst (JnAt J) TJ w' (jnBegin c.j f o n) w9 from λw' g=>jbegin_at ((jnKin J).gr z'.out.k.j g) f o n hn)
 unfold Fev.V
 go_enter func123,ntmps123
 go_upto_region 5 with (fail)
 have t1:∀ x:Later (Gr W0),x.w.cell? ⟨b,1,none⟩=some (.pointer (some ⟨J,0,none⟩)):=λx=>x.ok.cell c1
 have s1:∀ x:Later (Gr W0),x.w.cell? ⟨W.heap.size,1,none⟩=some (.int .i64 o):=λx=>x.ok.cell e1
 have s2:∀ x:Later (Gr W0),x.w.cell? ⟨W.heap.size,2,none⟩=some (.bool f):=λx=>x.ok.cell e2
 have s3:∀ x:Later (Gr W0),x.w.cell? ⟨W.heap.size,3,none⟩=some (.int .i64 n):=λx=>x.ok.cell e3
 have n0':=hid n0
 have n1':=hid n1
 clear m0 m1 m2 m3 mz n0 n1 nz e0 e1 e2 e3 e4 c1
 haveI:Nonempty (Later (Gr W0)):=⟨⟨W0,Gr.refl W0⟩⟩
 refine wp_region_later_tail (C:=Gr W0) 10 (by kernel_rfl) (by kernel_rfl) (Gr.drew' _) ?_
 simp only[List.take_succ_cons,List.take_zero,List.drop_succ_cons,List.drop_zero]
 repeat (go_big_quiet_step (fail))
 refine wpQuiet_nil ?_
 intro w9 hg9
 clear t1 s1 s2 s3
 have hgg:=hid hg9
 have hbb:=hid (hb.out w9 hg9)
 clear hg9 hb
 go_wp2_with fail
 refine hbb.out.mono ?_
 rintro e w1⟨rfl,hp⟩
 have k1:=hid ((z'.out.k.gr hgg.out).setJ hp)
 have hcj:=hid hp.2
 have hM9:M<w9.heap.size:=by have:=Below.size hgg.out;omega
 have hN9:N<w9.heap.size:=by have:=Below.size hgg.out;omega
 have hnM:¬TJ M:=λe=>by have:=(jnKin J).lt k'.out.j M e;have:=hM'.out;omega
 have hnN:¬TJ N:=λe=>by have:=(jnKin J).lt k'.out.j N e;have:=hM'.out;have:=hN'.out;omega
 have om:∀ {i x},W0.cell? ⟨M,i,none⟩=some x→w1.cell? ⟨M,i,none⟩=some x:=fun {i x} h=>(hcj.out.cell (p:=⟨M,i,none⟩) hM9 hnM).trans (hgg.out.cell h)
 have m0:=om z'.out.m0
 have m1:=om z'.out.m1
 have m2:=om z'.out.m2
 have m3:=om z'.out.m3
 have mz:∀ o,w1.frozen? ⟨M,o,none⟩=false:=λo=>(hcj.out.frozen (p:=⟨M,o,none⟩) hM9 hnM).trans ((Below.frozen hgg.out (show (⟨M,o,none⟩:Addr).block<W0.heap.size from hMs)).trans (z'.out.mz o))
 have n0:w1.cell? ⟨N,0,none⟩=some (.int .i64 0):=(hcj.out.cell (p:=⟨N,0,none⟩) hN9 hnN).trans (hgg.out.cell n0'.out)
 have n1:w1.cell? ⟨N,1,none⟩=some (.string ⟨#[]⟩):=(hcj.out.cell (p:=⟨N,1,none⟩) hN9 hnN).trans (hgg.out.cell n1'.out)
 have hM1:M<w1.heap.size:=cell_lt m0
 have hN1:N<w1.heap.size:=cell_lt n0
 clear om hM9 hN9 hnM hnN hp hMs hNs hEs hbs hbb
 obtain⟨j',hj'⟩:∃ j',jnBegin c.j f o n=j':=⟨_,rfl⟩
 rw[hj'] at k1
 rw[hj']
 by_cases hbad:j'.bad=0
 ·have hv:=hid (show wnJoin c (.begin' f o n)=({ c with j:=j' },none) by subst hj';exact if_neg (λe=>e hbad))
  rw[hbad]
  clear hj' hbad
  go_wp2
  refine bodyPost_ret (v:=.tuple #[wevZ 1 none,.bool false]) (by simp[results,results123,go_sem,wevZ,m0,m1,m2,m3]) rfl ?_
  rw[hv.out]
  exact⟨⟨1,rfl⟩,k'.out.telld z'.out.g hM'.out hsz'.out hgg.out hcj.out k1.out (Ch.refl _ _) ((((Ch.setCell (T:=λi=>i=M∨i=M+1) _ (a:=⟨M,0,none⟩) (.inl rfl) _).trans (Ch.setCell (T:=λi=>i=M∨i=M+1) _ (a:=⟨M,1,none⟩) (.inl rfl) _)).trans (Ch.setCell (T:=λi=>i=M∨i=M+1) _ (a:=⟨M,2,none⟩) (.inl rfl) _)).trans (Ch.setCell (T:=λi=>i=M∨i=M+1) _ (a:=⟨M,3,none⟩) (.inl rfl) _))⟩
 ·have hv:=hid (show wnJoin c (.begin' f o n)=wnFail { c with j:=j' } j'.bad by subst hj';exact if_pos hbad)
  have hz:((j'.bad:Int) != 0)=true:=bne_iff_ne.2 (by omega)
  have hf:=hid (wfails_any k1.out j'.bad)
  clear hj' hbad
  go_wp2_with fail
  refine hf.out.mono ?_
  rintro e w2⟨rfl,hkv,hcv⟩
  unfold wevZ
  have hnb:¬(M=b):=λe=>hMb e.symm
  replace m0:=(hcv.cell (p:=⟨M,0,none⟩) hM1 hnb).trans m0
  replace m1:=(hcv.cell (p:=⟨M,1,none⟩) hM1 hnb).trans m1
  replace m2:=(hcv.cell (p:=⟨M,2,none⟩) hM1 hnb).trans m2
  replace m3:=(hcv.cell (p:=⟨M,3,none⟩) hM1 hnb).trans m3
  replace mz:∀ o,w2.frozen? ⟨M,o,none⟩=false:=λo=>(hcv.frozen (p:=⟨M,o,none⟩) hM1 hnb).trans (mz o)
  have hM2:M<w2.heap.size:=cell_lt m0
  have hkv':=hid hkv
  have hcv':=hid hcv
  clear hcv hkv hM1 hN1 n0 n1
  go_wp2
  refine bodyPost_ret (v:=.tuple #[wevZ 0 (some (.failing j'.bad)),.bool true]) (by simp[results,results123,go_sem,wevZ,m0,m1,m2,m3]) rfl ?_
  rw[hv.out]
  exact⟨⟨0,rfl⟩,k'.out.telld z'.out.g hM'.out hsz'.out hgg.out hcj.out hkv'.out hcv'.out ((((Ch.setCell (T:=λi=>i=M∨i=M+1) _ (a:=⟨M,0,none⟩) (.inl rfl) _).trans (Ch.setCell (T:=λi=>i=M∨i=M+1) _ (a:=⟨M,1,none⟩) (.inl rfl) _)).trans (Ch.setCell (T:=λi=>i=M∨i=M+1) _ (a:=⟨M,2,none⟩) (.inl rfl) _)).trans (Ch.setCell (T:=λi=>i=M∨i=M+1) _ (a:=⟨M,3,none⟩) (.inl rfl) _))⟩
end
section
variable {b R J:Nat} {TJ:Nat→Prop} {W:World} {c:Wn}
theorem wjoin_piece (k:WnS b R J TJ W c) (s:List UInt8) (hn:s.length≤4611686018427387904) :
  Calls prog 123 #[.pointer (some ⟨b,0,none⟩),(Fev.piece s).V] W (WjPost b R J TJ W (wnJoin c (.piece s))):=by
 obtain⟨W0,hW0⟩:∃ W0,wj0 W 2 0 false 0 s=W0:=⟨_,rfl⟩
 obtain⟨M,hM⟩:∃ M,W.heap.size+1=M:=⟨_,rfl⟩
 obtain⟨N,hN⟩:∃ N,M+1=N:=⟨_,rfl⟩
 have hN2:W.heap.size+2=N:=by omega
 obtain⟨z,n0,n1,nz,hsz⟩:=wj0_of k 2 0 false 0 s
 rw[hW0,hM] at z
 rw[hW0,hN2] at n0 n1
 rw[hW0] at nz hsz
 rw[hN2] at nz
 have z':=hid z
 have hsz':=hid hsz
 have e0:=z.e0
 have e1:=z.e1
 have e2:=z.e2
 have e3:=z.e3
 have e4:=z.e4
 have m0:=z.m0
 have m1:=z.m1
 have m2:=z.m2
 have m3:=z.m3
 have mz:=z.mz
 have c1:=z.k.c1
 have hlt:=k.lt
 have hMb:b≠M:=by omega
 have hNb:b≠N:=by omega
 have hMN:M≠N:=by omega
 have hbE:b≠W.heap.size:=by omega
 have hbs:b<W0.heap.size:=z.k.lt
 have hMs:M<W0.heap.size:=cell_lt m0
 have hNs:N<W0.heap.size:=cell_lt n0
 have hEs:W.heap.size<W0.heap.size:=cell_lt e0
 have k':=hid k
 have hM':=hid hM
 have hN':=hid hN
 clear k hlt z hsz hN2
 have hb:=hid (show ∀ w',Gr W0 w'→Calls prog 150 #[.pointer (some ⟨J,0,none⟩),.string ⟨s.toArray⟩] w' λe w9=>e=.returned (.int .i64 (jnPiece c.j s).bad)∧Pst (JnAt J) TJ w' (jnPiece c.j s) w9 from λw' g=>jpiece_at ((jnKin J).gr z'.out.k.j g) s hn)
 unfold Fev.V
 go_enter func123,ntmps123
 go_upto_region 7 with (fail)
 have t1:∀ x:Later (Gr W0),x.w.cell? ⟨b,1,none⟩=some (.pointer (some ⟨J,0,none⟩)):=λx=>x.ok.cell c1
 have s1:∀ x:Later (Gr W0),x.w.cell? ⟨W.heap.size,4,none⟩=some (.string ⟨s.toArray⟩):=λx=>x.ok.cell e4
 have n0':=hid n0
 have n1':=hid n1
 clear m0 m1 m2 m3 mz n0 n1 nz e0 e1 e2 e3 e4 c1
 haveI:Nonempty (Later (Gr W0)):=⟨⟨W0,Gr.refl W0⟩⟩
 refine wp_region_later_tail (C:=Gr W0) 6 (by kernel_rfl) (by kernel_rfl) (Gr.drew' _) ?_
 simp only[List.take_succ_cons,List.take_zero,List.drop_succ_cons,List.drop_zero]
 repeat (go_big_quiet_step (fail))
 refine wpQuiet_nil ?_
 intro w9 hg9
 clear t1 s1
 have hgg:=hid hg9
 have hbb:=hid (hb.out w9 hg9)
 clear hg9 hb
 go_wp2_with fail
 refine hbb.out.mono ?_
 rintro e w1⟨rfl,hp⟩
 have k1:=hid ((z'.out.k.gr hgg.out).setJ hp)
 have hcj:=hid hp.2
 have hM9:M<w9.heap.size:=by have:=Below.size hgg.out;omega
 have hN9:N<w9.heap.size:=by have:=Below.size hgg.out;omega
 have hnM:¬TJ M:=λe=>by have:=(jnKin J).lt k'.out.j M e;have:=hM'.out;omega
 have hnN:¬TJ N:=λe=>by have:=(jnKin J).lt k'.out.j N e;have:=hM'.out;have:=hN'.out;omega
 have om:∀ {i x},W0.cell? ⟨M,i,none⟩=some x→w1.cell? ⟨M,i,none⟩=some x:=fun {i x} h=>(hcj.out.cell (p:=⟨M,i,none⟩) hM9 hnM).trans (hgg.out.cell h)
 have m0:=om z'.out.m0
 have m1:=om z'.out.m1
 have m2:=om z'.out.m2
 have m3:=om z'.out.m3
 have mz:∀ o,w1.frozen? ⟨M,o,none⟩=false:=λo=>(hcj.out.frozen (p:=⟨M,o,none⟩) hM9 hnM).trans ((Below.frozen hgg.out (show (⟨M,o,none⟩:Addr).block<W0.heap.size from hMs)).trans (z'.out.mz o))
 have n0:w1.cell? ⟨N,0,none⟩=some (.int .i64 0):=(hcj.out.cell (p:=⟨N,0,none⟩) hN9 hnN).trans (hgg.out.cell n0'.out)
 have n1:w1.cell? ⟨N,1,none⟩=some (.string ⟨#[]⟩):=(hcj.out.cell (p:=⟨N,1,none⟩) hN9 hnN).trans (hgg.out.cell n1'.out)
 have hM1:M<w1.heap.size:=cell_lt m0
 have hN1:N<w1.heap.size:=cell_lt n0
 clear om hM9 hN9 hnM hnN hp hMs hNs hEs hbs hbb
 obtain⟨j',hj'⟩:∃ j',jnPiece c.j s=j':=⟨_,rfl⟩
 rw[hj'] at k1
 rw[hj']
 by_cases hbad:j'.bad=0
 ·have hv:=hid (show wnJoin c (.piece s)=({ c with j:=j' },none) by subst hj';exact if_neg (λe=>e hbad))
  rw[hbad]
  clear hj' hbad
  go_wp2
  refine bodyPost_ret (v:=.tuple #[wevZ 1 none,.bool false]) (by simp[results,results123,go_sem,wevZ,m0,m1,m2,m3]) rfl ?_
  rw[hv.out]
  exact⟨⟨1,rfl⟩,k'.out.telld z'.out.g hM'.out hsz'.out hgg.out hcj.out k1.out (Ch.refl _ _) ((((Ch.setCell (T:=λi=>i=M∨i=M+1) _ (a:=⟨M,0,none⟩) (.inl rfl) _).trans (Ch.setCell (T:=λi=>i=M∨i=M+1) _ (a:=⟨M,1,none⟩) (.inl rfl) _)).trans (Ch.setCell (T:=λi=>i=M∨i=M+1) _ (a:=⟨M,2,none⟩) (.inl rfl) _)).trans (Ch.setCell (T:=λi=>i=M∨i=M+1) _ (a:=⟨M,3,none⟩) (.inl rfl) _))⟩
 ·have hv:=hid (show wnJoin c (.piece s)=wnFail { c with j:=j' } j'.bad by subst hj';exact if_pos hbad)
  have hz:((j'.bad:Int) != 0)=true:=bne_iff_ne.2 (by omega)
  have hf:=hid (wfails_any k1.out j'.bad)
  clear hj' hbad
  go_wp2_with fail
  refine hf.out.mono ?_
  rintro e w2⟨rfl,hkv,hcv⟩
  unfold wevZ
  have hnb:¬(M=b):=λe=>hMb e.symm
  replace m0:=(hcv.cell (p:=⟨M,0,none⟩) hM1 hnb).trans m0
  replace m1:=(hcv.cell (p:=⟨M,1,none⟩) hM1 hnb).trans m1
  replace m2:=(hcv.cell (p:=⟨M,2,none⟩) hM1 hnb).trans m2
  replace m3:=(hcv.cell (p:=⟨M,3,none⟩) hM1 hnb).trans m3
  replace mz:∀ o,w2.frozen? ⟨M,o,none⟩=false:=λo=>(hcv.frozen (p:=⟨M,o,none⟩) hM1 hnb).trans (mz o)
  have hM2:M<w2.heap.size:=cell_lt m0
  have hkv':=hid hkv
  have hcv':=hid hcv
  clear hcv hkv hM1 hN1 n0 n1
  go_wp2
  refine bodyPost_ret (v:=.tuple #[wevZ 0 (some (.failing j'.bad)),.bool true]) (by simp[results,results123,go_sem,wevZ,m0,m1,m2,m3]) rfl ?_
  rw[hv.out]
  exact⟨⟨0,rfl⟩,k'.out.telld z'.out.g hM'.out hsz'.out hgg.out hcj.out hkv'.out hcv'.out ((((Ch.setCell (T:=λi=>i=M∨i=M+1) _ (a:=⟨M,0,none⟩) (.inl rfl) _).trans (Ch.setCell (T:=λi=>i=M∨i=M+1) _ (a:=⟨M,1,none⟩) (.inl rfl) _)).trans (Ch.setCell (T:=λi=>i=M∨i=M+1) _ (a:=⟨M,2,none⟩) (.inl rfl) _)).trans (Ch.setCell (T:=λi=>i=M∨i=M+1) _ (a:=⟨M,3,none⟩) (.inl rfl) _))⟩
end
theorem jnEnd_some {j:Jn} {m:Nat×List UInt8} (h:(jnEnd j).2=some m):(jnEnd j).1.bad=0:=by
 unfold jnEnd at h ⊢
 by_cases h0:j.bad≠0
 ·rw[if_pos h0] at h;cases h
 ·rw[if_neg h0] at h ⊢
  split at h
  ·cases h
  ·split at h
   ·cases h
   ·split at h
    ·cases h
    ·rename_i h1 h2 h3
     rw[if_neg h1,if_neg h2,if_neg h3]
     exact Decidable.not_not.1 h0
section
variable {b R J:Nat} {TJ:Nat→Prop} {W:World} {c:Wn}
theorem WnS.telld2 {W0 w9 w1 w2 w':World} {c':Wn} {M:Nat} (k:WnS b R J TJ W c) (g:Gr W W0) (hM:W.heap.size+1=M) (hs:W0.heap.size=W.heap.size+3) (hg:Gr W0 w9) (h1:Ch TJ w9 w1) (hp:WnS b R J (Add TJ w9 w1) w2 c') (h2:Ch (λi=>i=b∨i=M+1) w1 w2) (hc:Ch (λi=>i=M∨i=M+1) w2 w') :
  WnS b R J (Add TJ W w') w' c'∧Ch (λi=>i=b∨TJ i) W w':=by
 have hb:=k.lt
 have hR:=k.r.lt
 have s1:=Below.size hg
 have s2:=h1.size
 have s3:=h2.size
 have s4:=hc.size
 have hJ:∀ i,Add TJ w9 w1 i→TJ i∨(W.heap.size+3≤i∧i<w1.heap.size):=λi e=>e.imp_right λe=>⟨by have:=e.1;omega,e.2⟩
 have q:=hp.ch hc (by omega) (by omega) (λi e e2=>by
  rcases hJ i e with e3 | e3
  ·have:=(jnKin J).lt k.j i e3;omega
  ·omega)
 refine⟨k.widen q (by omega) (λi e=>(hJ i e).imp_right λe3=>⟨by omega,by omega⟩),?_⟩
 exact (((g.trans hg).to_ch _).trans (h1.mono λ_ e=>.inr e)).drop_new (S:=λi=>i=b∨i=M∨i=M+1) ((h2.mono λ_ e=>e.imp_right .inr).trans (hc.mono λ_ e=>.inr e)) (λi e=>by
  rcases e with e | e
  ·exact .inl (.inl e)
  ·exact .inr (by omega))
theorem wjoin_end (k:WnS b R J TJ W c) :
  Calls prog 123 #[.pointer (some ⟨b,0,none⟩),Fev.fin.V] W (WjPost b R J TJ W (wnJoin c .fin)):=by
 obtain⟨W0,hW0⟩:∃ W0,wj0 W 3 0 false 0 []=W0:=⟨_,rfl⟩
 obtain⟨M,hM⟩:∃ M,W.heap.size+1=M:=⟨_,rfl⟩
 obtain⟨N,hN⟩:∃ N,M+1=N:=⟨_,rfl⟩
 have hN2:W.heap.size+2=N:=by omega
 obtain⟨z,n0,n1,nz,hsz⟩:=wj0_of k 3 0 false 0 []
 rw[hW0,hM] at z
 rw[hW0,hN2] at n0 n1
 rw[hW0] at nz hsz
 rw[hN2] at nz
 have z':=hid z
 have hsz':=hid hsz
 have e0:=z.e0
 have e1:=z.e1
 have e2:=z.e2
 have e3:=z.e3
 have e4:=z.e4
 have m0:=z.m0
 have m1:=z.m1
 have m2:=z.m2
 have m3:=z.m3
 have mz:=z.mz
 have c1:=z.k.c1
 have hlt:=k.lt
 have hMb:b≠M:=by omega
 have hNb:b≠N:=by omega
 have hMN:M≠N:=by omega
 have hbE:b≠W.heap.size:=by omega
 have hbs:b<W0.heap.size:=z.k.lt
 have hMs:M<W0.heap.size:=cell_lt m0
 have hNs:N<W0.heap.size:=cell_lt n0
 have hEs:W.heap.size<W0.heap.size:=cell_lt e0
 have k':=hid k
 have hM':=hid hM
 have hN':=hid hN
 clear k hlt z hsz hN2
 have hb:=hid (jend_at z'.out.k.j)
 have hsome:∀ m,(jnEnd c.j).2=some m→(jnEnd c.j).1.bad=0:=λm e=>jnEnd_some e
 obtain⟨⟨j',m⟩,hj'⟩:∃ r,jnEnd c.j=r:=⟨_,rfl⟩
 rw[hj'] at hb hsome
 have hsome':=hid hsome
 have hjj:=hid hj'
 clear hsome hj'
 have n0z:=hid n0
 have n1z:=hid n1
 have nzz:=hid nz
 unfold Fev.V
 go_enter func123,ntmps123
 go_wp2_with fail
 refine hb.out.mono ?_
 rintro e w1⟨rfl,hp⟩
 have k1:=hid (z'.out.k.setJ hp)
 have hcj:=hid hp.2
 have hM9:M<W0.heap.size:=by have:=Below.size (Gr.refl W0);omega
 have hN9:N<W0.heap.size:=by have:=Below.size (Gr.refl W0);omega
 have hnM:¬TJ M:=λe=>by have:=(jnKin J).lt k'.out.j M e;have:=hM'.out;omega
 have hnN:¬TJ N:=λe=>by have:=(jnKin J).lt k'.out.j N e;have:=hM'.out;have:=hN'.out;omega
 have om:∀ {i x},W0.cell? ⟨M,i,none⟩=some x→w1.cell? ⟨M,i,none⟩=some x:=fun {i x} h=>(hcj.out.cell (p:=⟨M,i,none⟩) hM9 hnM).trans (h)
 have m0:=om z'.out.m0
 have m1:=om z'.out.m1
 have m2:=om z'.out.m2
 have m3:=om z'.out.m3
 have mz:∀ o,w1.frozen? ⟨M,o,none⟩=false:=λo=>(hcj.out.frozen (p:=⟨M,o,none⟩) hM9 hnM).trans ((Below.frozen (Gr.refl W0) (show (⟨M,o,none⟩:Addr).block<W0.heap.size from hMs)).trans (z'.out.mz o))
 have n0:w1.cell? ⟨N,0,none⟩=some (.int .i64 0):=(hcj.out.cell (p:=⟨N,0,none⟩) hN9 hnN).trans n0z.out
 have n1:w1.cell? ⟨N,1,none⟩=some (.string ⟨#[]⟩):=(hcj.out.cell (p:=⟨N,1,none⟩) hN9 hnN).trans n1z.out
 have nz:∀ o,w1.frozen? ⟨N,o,none⟩=false:=λo=>(hcj.out.frozen (p:=⟨N,o,none⟩) hN9 hnN).trans (nzz.out o)
 have hM1:M<w1.heap.size:=cell_lt m0
 have hN1:N<w1.heap.size:=cell_lt n0
 clear om hM9 hN9 hnM hnN hp hMs hEs hbs hb
 cases m with
 | none =>
  unfold endV
  dsimp only
  by_cases hbad:j'.bad=0
  ·have hv:=hid (show wnJoin c .fin=({ c with j:=j' },none) by
    show (if (jnEnd c.j).1.bad≠0 then _ else _)=_
    rw[hjj.out];exact if_neg (λe=>e hbad))
   rw[hbad]
   clear hbad
   go_wp2
   refine bodyPost_ret (v:=.tuple #[wevZ 1 none,.bool false]) (by simp[results,results123,go_sem,wevZ,m0,m1,m2,m3,hMN,Ne.symm hMN]) rfl ?_
   rw[hv.out]
   exact⟨⟨1,rfl⟩,k'.out.telld z'.out.g hM'.out hsz'.out (Gr.refl W0) hcj.out k1.out (Ch.refl _ _) (((Ch.setCell (T:=λi=>i=M∨i=M+1) _ (a:=⟨N,0,none⟩) (.inr hN'.out.symm) _).trans (Ch.setCell (T:=λi=>i=M∨i=M+1) _ (a:=⟨N,1,none⟩) (.inr hN'.out.symm) _)).trans ((((Ch.setCell (T:=λi=>i=M∨i=M+1) _ (a:=⟨M,0,none⟩) (.inl rfl) _).trans (Ch.setCell (T:=λi=>i=M∨i=M+1) _ (a:=⟨M,1,none⟩) (.inl rfl) _)).trans (Ch.setCell (T:=λi=>i=M∨i=M+1) _ (a:=⟨M,2,none⟩) (.inl rfl) _)).trans (Ch.setCell (T:=λi=>i=M∨i=M+1) _ (a:=⟨M,3,none⟩) (.inl rfl) _)))⟩
  ·have hv:=hid (show wnJoin c .fin=wnFail { c with j:=j' } j'.bad by
    show (if (jnEnd c.j).1.bad≠0 then _ else _)=_
    rw[hjj.out];exact if_pos hbad)
   have hz:((j'.bad:Int) != 0)=true:=bne_iff_ne.2 (by omega)
   obtain⟨w3,hw3⟩:∃ w3,(w1.setCell ⟨N,0,none⟩ (.int .i64 0)).setCell ⟨N,1,none⟩ (.string ⟨#[]⟩)=w3:=⟨_,rfl⟩
   have c3':=hid (show Ch (λi=>i=N) w1 w3 from hw3▸(Ch.setCell (T:=λi=>i=N) w1 (a:=⟨N,0,none⟩) rfl _).trans (Ch.setCell (T:=λi=>i=N) _ (a:=⟨N,1,none⟩) rfl _))
   have hRN:R≠N:=by have:=k'.out.r.lt;have:=hM'.out;have:=hN'.out;omega
   have k3:=hid (k1.out.ch c3'.out hNb hRN (λi e e2=>by
    rcases e with e | e
    ·have:=(jnKin J).lt k'.out.j i e;have:=hM'.out;have:=hN'.out;omega
    ·have:=e.1;have:=hsz'.out;have:=hM'.out;have:=hN'.out;omega))
   have hf:=hid (wfails_any k3.out j'.bad)
   clear hbad
   go_wp2_with fail
   refine hf.out.mono ?_
   rintro e w2⟨rfl,hkv,hcv⟩
   unfold wevZ
   have hnb:¬(M=b∨M=N):=λe=>e.elim (λe=>hMb e.symm) hMN
   have hx:=hid ((c3'.out.mono (T':=λi=>i=b∨i=N) λ_ e=>.inr e).trans (hcv.mono λ_ e=>.inl e))
   replace m0:=(hx.out.cell (p:=⟨M,0,none⟩) hM1 hnb).trans m0
   replace m1:=(hx.out.cell (p:=⟨M,1,none⟩) hM1 hnb).trans m1
   replace m2:=(hx.out.cell (p:=⟨M,2,none⟩) hM1 hnb).trans m2
   replace m3:=(hx.out.cell (p:=⟨M,3,none⟩) hM1 hnb).trans m3
   replace mz:∀ o,w2.frozen? ⟨M,o,none⟩=false:=λo=>(hx.out.frozen (p:=⟨M,o,none⟩) hM1 hnb).trans (mz o)
   have hM2:M<w2.heap.size:=cell_lt m0
   have hkv':=hid hkv
   clear hcv hkv hM1 hN1 n0 n1 hw3 nz
   go_wp2
   refine bodyPost_ret (v:=.tuple #[wevZ 0 (some (.failing j'.bad)),.bool true]) (by simp[results,results123,go_sem,wevZ,m0,m1,m2,m3]) rfl ?_
   rw[hv.out]
   exact⟨⟨0,rfl⟩,k'.out.telld2 z'.out.g hM'.out hsz'.out (Gr.refl W0) hcj.out hkv'.out (hx.out.mono λ_ e=>e.imp_right λe=>e.trans hN'.out.symm) ((((Ch.setCell (T:=λi=>i=M∨i=M+1) _ (a:=⟨M,0,none⟩) (.inl rfl) _).trans (Ch.setCell (T:=λi=>i=M∨i=M+1) _ (a:=⟨M,1,none⟩) (.inl rfl) _)).trans (Ch.setCell (T:=λi=>i=M∨i=M+1) _ (a:=⟨M,2,none⟩) (.inl rfl) _)).trans (Ch.setCell (T:=λi=>i=M∨i=M+1) _ (a:=⟨M,3,none⟩) (.inl rfl) _))⟩
 | some m =>
  have hbad:j'.bad=0:=hsome'.out m rfl
  have hv:=hid (show wnJoin c .fin=({ c with j:=j' },some (.message m.1 m.2)) by
    show (if (jnEnd c.j).1.bad≠0 then _ else _)=_
    rw[hjj.out];exact if_neg (λe=>e hbad))
  unfold endV
  dsimp only
  rw[hbad]
  clear hbad
  go_wp2
  refine bodyPost_ret (v:=.tuple #[wevZ 0 (some (.message m.1 m.2)),.bool true]) (by simp[results,results123,go_sem,wevZ,m0,m1,m2,m3,hMN,Ne.symm hMN]) rfl ?_
  rw[hv.out]
  exact⟨⟨0,rfl⟩,k'.out.telld z'.out.g hM'.out hsz'.out (Gr.refl W0) hcj.out k1.out (Ch.refl _ _) (((Ch.setCell (T:=λi=>i=M∨i=M+1) _ (a:=⟨N,0,none⟩) (.inr hN'.out.symm) _).trans (Ch.setCell (T:=λi=>i=M∨i=M+1) _ (a:=⟨N,1,none⟩) (.inr hN'.out.symm) _)).trans ((((Ch.setCell (T:=λi=>i=M∨i=M+1) _ (a:=⟨M,0,none⟩) (.inl rfl) _).trans (Ch.setCell (T:=λi=>i=M∨i=M+1) _ (a:=⟨M,1,none⟩) (.inl rfl) _)).trans (Ch.setCell (T:=λi=>i=M∨i=M+1) _ (a:=⟨M,2,none⟩) (.inl rfl) _)).trans (Ch.setCell (T:=λi=>i=M∨i=M+1) _ (a:=⟨M,3,none⟩) (.inl rfl) _)))⟩
end
end Go.Proofs.YtadobobfjnmdlaaGreatDoor
namespace Go.Proofs.YtadobobfjnmdlaaGreatDoor
open Go.RowKit Go.Shelf
def FevSm:Fev→Prop
 | .begin' _ _ n=>n≤9223372036854775807
 | .piece s=>s.length≤4611686018427387900
 | .fin=>True
 | .fail=>False
theorem wjoins_any {b R J:Nat} {TJ:Nat→Prop} {W:World} {c:Wn} (k:WnS b R J TJ W c) (e:Fev) (he:FevSm e) :
  Calls prog 123 #[.pointer (some ⟨b,0,none⟩),e.V] W (WjPost b R J TJ W (wnJoin c e)):=by
 cases e with
 | begin' f o n=>exact wjoin_begin k f o n he
 | piece s=>exact wjoin_piece k s (Nat.le_trans he (by decide))
 | fin=>exact wjoin_end k
 | fail=>exact he.elim
