/-
  The joiner in memory: a message is whole.
-/
import Derived.Test.YtadobobfjnmdlaaGreatDoorJd
set_option linter.unnecessarySimpa false
set_option linter.unusedVariables false
set_option linter.unusedSimpArgs false
set_option maxHeartbeats 16000000
set_option maxRecDepth 100000
open Go.Proofs.Tryz
namespace Go.Proofs.YtadobobfjnmdlaaGreatDoor
open Go.RowKit Go.Shelf
attribute [local go_sem] Oper.semAt_some
structure JnW (b:Nat)(W:World)(j:Jn)(v:Value)(q:Option Nat):Prop where
 c0:W.cell? ⟨b,0,none⟩=some (.int .i64 j.limit)
 c1:W.cell? ⟨b,1,none⟩=some (.bool true)
 c2:W.cell? ⟨b,2,none⟩=some (.int .i64 j.bad)
 c3:W.cell? ⟨b,3,none⟩=some (.int .i64 j.op)
 c4:W.cell? ⟨b,4,none⟩=some (.int .i64 j.sum)
 c5:∃u,W.cell? ⟨b,5,none⟩=some u
 c6:W.cell? ⟨b,6,none⟩=some v
 c7:W.cell? ⟨b,7,none⟩=some (.pointer (q.map λc=>⟨c,0,none⟩))
 ck:∀c,q=some c→UkAt c W j.check∧c≠b
 c8:W.cell? ⟨b,8,none⟩=some (.bool j.begun)
 c9:W.cell? ⟨b,9,none⟩=some (.bool j.last)
 c10:W.cell? ⟨b,10,none⟩=some (.int .i64 j.lacks)
 sh:W.shape? b=some (150,11)
 fz:∀o,W.frozen? ⟨b,o,none⟩=false
section
variable {b:Nat} {W:World} {j:Jn} {v:Value} {q:Option Nat}
theorem JnS.weak {T:Nat→Prop}{f:World}(k:JnS b W j v q)(d:Ch T W f)(g:¬T b)(l:∀i,q=some i→¬T i):JnW b f j v q :=
 have a:∀ {i u},W.cell? ⟨b,i,none⟩=some u→f.cell? ⟨b,i,none⟩=some u:=fun {i u} h=>(d.cell (p:=⟨b,i,none⟩) (ae h) g).trans h
 ⟨a k.c0,a k.c1,a k.c2,a k.c3,a k.c4,k.bd.ca.elim (λe=>⟨_,a e⟩) (λe=>⟨_,a e⟩),a k.bd.cv,a k.c7,λc e=>⟨(k.ck c e).1.ch d (l c e),(k.ck c e).2.1⟩,a k.c8,a k.c9,a k.c10,(ob d g k.lt).trans k.bd.sh,λo=>(d.frozen (p:=⟨b,o,none⟩) k.lt g).trans (k.bd.fz o)⟩
theorem JnW.done (k:JnW b W j v q):JnS b ((((W.setCell ⟨b,3,none⟩ (.int .i64 (0:Nat))).setCell ⟨b,4,none⟩ (.int .i64 (0:Nat))).setCell ⟨b,5,none⟩ (.pointer none)).setCell ⟨b,6,none⟩ (.slice none 0 0)) { j with op:=0,sum:=0,text:=[] } (.slice none 0 0) q:=by
 obtain⟨u,p⟩:=k.c5;have m:Ch (λi=>i=b) W ((((W.setCell ⟨b,3,none⟩ (.int .i64 (0:Nat))).setCell ⟨b,4,none⟩ (.int .i64 (0:Nat))).setCell ⟨b,5,none⟩ (.pointer none)).setCell ⟨b,6,none⟩ (.slice none 0 0)) :=
  (((Ch.setCell (T:=λi=>i=b) W (a:=⟨b,3,none⟩) rfl _).trans (Ch.setCell (T:=λi=>i=b) _ (a:=⟨b,4,none⟩) rfl _)).trans (Ch.setCell (T:=λi=>i=b) _ (a:=⟨b,5,none⟩) rfl _)).trans (Ch.setCell (T:=λi=>i=b) _ (a:=⟨b,6,none⟩) rfl _)
 have off:∀ {i x},i≠3→i≠4→i≠5→i≠6→W.cell? ⟨b,i,none⟩=some x→((((W.setCell ⟨b,3,none⟩ (.int .i64 (0:Nat))).setCell ⟨b,4,none⟩ (.int .i64 (0:Nat))).setCell ⟨b,5,none⟩ (.pointer none)).setCell ⟨b,6,none⟩ (.slice none 0 0)).cell? ⟨b,i,none⟩=some x :=
  fun {i x} d f g l h=>ac (ac (ac (ac h d) f) g) l
 exact⟨off (by decide) (by decide) (by decide) (by decide) k.c0,off (by decide) (by decide) (by decide) (by decide) k.c1,off (by decide) (by decide) (by decide) (by decide) k.c2,
  ac (ac (ac (af k.c3) (by decide)) (by decide)) (by decide),ac (ac (af (ac k.c4 (by decide))) (by decide)) (by decide),
  ⟨.inl (ac (af (ac (ac p (by decide)) (by decide))) (by decide)),af (ac (ac (ac k.c6 (by decide)) (by decide)) (by decide)),⟨rfl,.inl ⟨rfl,rfl⟩⟩,(by intro e;cases e),(by intro a n c e;cases e),eB.trans (eB.trans (eB.trans (eB.trans k.sh))),λo=>by rw[ag,ag,ag,ag];exact k.fz o⟩,
  off (by decide) (by decide) (by decide) (by decide) k.c7,λc e=>⟨(k.ck c e).1.ch m (k.ck c e).2,(k.ck c e).2,(by intro e;cases e)⟩,off (by decide) (by decide) (by decide) (by decide) k.c8,off (by decide) (by decide) (by decide) (by decide) k.c9,off (by decide) (by decide) (by decide) (by decide) k.c10⟩
theorem sc (k:JnS b W j v q)(h:j.bad=0)(V:j.begun=true)(hl:j.lacks=0)(C:j.last=true)(ho:j.op≠1) :
  Calls prog 151 #[.pointer (some ⟨b,0,none⟩)] W λe w'=>e=.returned (mV (aI j))∧JpPost b (aI j).1 v q W w':=by
 have hv:=qq (show aI j=({ j with begun:=false,op:=0,sum:=0,text:=[] },some (j.op,j.text)) by unfold aI;rw[if_neg (by omega),V,hl,C];rw[show(j.op==1)=false from qk.2 ho];rfl);have hz:((j.op:Int)==1)=false:=qk.2 (by omega);obtain⟨W0,r⟩:∃W0,mw W=W0:=⟨_,rfl⟩;have g:=qq (show Gr W W0 from r▸Gr.alloc W _);obtain⟨M,hM⟩:∃M,W.heap.size=M:=⟨_,rfl⟩;have h0:=qq (show W0.heap.size=M+1 by rw[←r,←hM];simp);have w:=qq (k.gr g.out);have hn:=qq (bY w.out);have c2:=w.out.c2;have c3:=w.out.c3;have c7:=w.out.c7;have c8:=w.out.c8;have c9:=w.out.c9;have c10:=w.out.c10;have fz:=w.out.bd.fz;have Y:=k.lt;have A:b≠M:=by omega
 have m0:W0.cell? ⟨M,0,none⟩=some (.int .i64 0):=by rw[←r,←hM];exact aa _ _ _ 0 _ rfl
 have m1:W0.cell? ⟨M,1,none⟩=some (.string ⟨#[]⟩):=by rw[←r,←hM];exact aa _ _ _ 1 _ rfl
 have mz:∀o,W0.frozen? ⟨M,o,none⟩=false:=λo=>by rw[←r,←hM];exact World.frozen?_alloc_at _ _ _ _ rfl
 have N:=qq k;have x:=qq hM;clear k Y;rw[h]at c2;rw[V]at c8;rw[hl]at c10;rw[C]at c9;have X:=qq h;have B:=w.out.lt;clear ho;clear h V hl C;go_enter func151,ntmps151;go_wp2_with fail;refine hn.out.mono ?_;rintro e w1⟨rfl,rfl⟩;go_upto_region 12 with(fail);obtain⟨t,y⟩:∃t,W0.setCell ⟨b,8,none⟩ (.bool false)=t:=⟨_,rfl⟩;rw[y];have O:=qq (show JnS b t { j with begun:=false } v q from y▸w.out.setBegun false);have cb:=qq (show Ch (λi=>i=b) W0 t from y▸Ch.setCell (T:=λi=>i=b) W0 (a:=⟨b,8,none⟩) rfl _);have s:M<W0.heap.size:=by have:=h0.out;omega
 have f:¬(M=b):=λe=>A e.symm;replace m0:=(cb.out.cell (p:=⟨M,0,none⟩) s f).trans m0;replace m1:=(cb.out.cell (p:=⟨M,1,none⟩) s f).trans m1;have P:=(cb.out.frozen (p:=⟨M,0,none⟩) s f).trans (mz 0);have U:=(cb.out.frozen (p:=⟨M,1,none⟩) s f).trans (mz 1);clear c2 c3 c7 c8 c9 c10 fz mz s y;have c3:t.cell? ⟨b,3,none⟩=some (.int .i64 j.op):=O.out.c3;have d:M<t.heap.size:=ae m0;have z:¬(v.ownBlock=some M):=λe=>by have:=N.out.bd.own_lt e;have:=x.out;omega
 have I:¬(v.ownBlock=some b):=O.out.bd.ne;have H:=qq (show ∀w',Gr t w'→Calls prog 118 #[.pointer (some ⟨b,5,none⟩)] w' λe w9=>e=.returned (.string ⟨j.text.toArray⟩)∧Ch (λk=>v.ownBlock=some k) w' w9 from λw' hg=>mb (O.out.gr hg).bd);go_region_law (first | (go_simp;go_at_call 118;refine(H.out t.drew (Gr.drew' _)).mono ?_;rintro e Z ⟨rfl,cd⟩;have n:=qq ((Ch.drew _ t).trans cd);replace c3:=(n.out.cell (p:=⟨b,3,none⟩) (ae c3) I).trans c3;replace m0:=(n.out.cell (p:=⟨M,0,none⟩) d z).trans m0;replace m1:=(n.out.cell (p:=⟨M,1,none⟩) d z).trans m1;replace P:=(n.out.frozen (p:=⟨M,0,none⟩) d z).trans P;replace U:=(n.out.frozen (p:=⟨M,1,none⟩) d z).trans U));all_goals
  obtain⟨m,l⟩:∃m,(Z.setCell ⟨M,0,none⟩ (.int .i64 j.op)).setCell ⟨M,1,none⟩ (.string ⟨j.text.toArray⟩)=m:=⟨_,rfl⟩;rw[l];have cm:=qq (show Ch (λi=>i=M) Z m from l▸(Ch.setCell (T:=λi=>i=M) Z (a:=⟨M,0,none⟩) rfl _).trans (Ch.setCell (T:=λi=>i=M) _ (a:=⟨M,1,none⟩) rfl _));have cw:=qq (show Ch (λi=>v.ownBlock=some i∨i=M) t m from(n.out.mono λ_ e=>.inl e).trans (cm.out.mono λ_ e=>.inr e));have kw:=qq (O.out.weak cw.out (λe=>e.elim I A) (λi e e2=>e2.elim (N.out.ck i e).2.2 (λe3=>by have:=(N.out.ck i e).1.lt;have:=x.out;omega)));have e0:m.cell? ⟨M,0,none⟩=some (.int .i64 j.op):=l▸ac (af m0) (by decide);have e1:m.cell? ⟨M,1,none⟩=some (.string ⟨j.text.toArray⟩):=l▸af (ac m1 (by decide));have y0:m.frozen? ⟨M,0,none⟩=false:=l▸ag.trans (ag.trans P);have y1:m.frozen? ⟨M,1,none⟩=false:=l▸ag.trans (ag.trans U);clear m0 m1 P U c3 l H B d;have c3:=kw.out.c3;have c4:=kw.out.c4;have fz:=kw.out.fz;have B:b<m.heap.size:=ae c3;have d:M<m.heap.size:=ae e0;dsimp only at c3 c4;have c5:(((m.setCell ⟨b,3,none⟩ (.int .i64 0)).setCell ⟨b,4,none⟩ (.int .i64 0)).cell? ⟨b,5,none⟩).isSome:=by
   obtain⟨u,hu⟩:=kw.out.c5;rw[ac (ac hu (by decide)) (by decide)];rfl
  have F:=qq (oe (b:=b) (W:=(m.setCell ⟨b,3,none⟩ (.int .i64 0)).setCell ⟨b,4,none⟩ (.int .i64 0)) (v:=v) c5 (ac (ac kw.out.c6 (by decide)) (by decide)) (λo=>ag.trans (ag.trans (fz o))));clear c5;go_wp2_with fail;refine F.out.mono ?_;rintro e L⟨rfl,D⟩;have kf:=qq (show JnS b L _ (.slice none 0 0) q from D▸kw.out.done);have E:=qq (show Ch (λi=>i=b) m L from D▸(((Ch.setCell (T:=λi=>i=b) m (a:=⟨b,3,none⟩) rfl _).trans (Ch.setCell (T:=λi=>i=b) _ (a:=⟨b,4,none⟩) rfl _)).trans (Ch.setCell (T:=λi=>i=b) _ (a:=⟨b,5,none⟩) rfl _)).trans (Ch.setCell (T:=λi=>i=b) _ (a:=⟨b,6,none⟩) rfl _));replace e0:=(E.out.cell (p:=⟨M,0,none⟩) d f).trans e0;replace e1:=(E.out.cell (p:=⟨M,1,none⟩) d f).trans e1;replace y0:=(E.out.frozen (p:=⟨M,0,none⟩) d f).trans y0;replace y1:=(E.out.frozen (p:=⟨M,1,none⟩) d f).trans y1;clear c3 c4 fz B d D F;have a0:M<L.heap.size:=ae e0;go_wp2;refine bodyPost_ret (v:=.tuple #[.agg #[.int .i64 j.op,.string ⟨j.text.toArray⟩],.bool true,.int .i64 0]) (by simp[results,results151,go_sem,e0,e1]) rfl ?_;rw[hv.out];refine⟨by show _=Ending.returned (.tuple #[_,_,.int .i64 j.bad]);rw[X.out];rfl,.slice none 0 0,kf.out.ch (T:=λi=>i=M) ((Ch.setCell (T:=λi=>i=M) L (a:=⟨M,0,none⟩) rfl _).trans (Ch.setCell (T:=λi=>i=M) _ (a:=⟨M,1,none⟩) rfl _)) A (λi e=>by cases e) (λi e e2=>by have:=(N.out.ck i e).1.lt;have:=x.out;omega),?_,λi e=>by cases e⟩;exact(g.out.to_ch _).drop_new (S:=λi=>(i=b∨v.ownBlock=some i∨q=some i)∨i=M) ((((cb.out.mono λ_ e=>.inl (.inl e)).trans (cw.out.mono λ_ e=>e.imp_left λe=>.inr (.inl e))).trans (E.out.mono λ_ e=>.inl (.inl e))).trans ((Ch.setCell L (a:=⟨M,0,none⟩) (.inr rfl) _).trans (Ch.setCell _ (a:=⟨M,1,none⟩) (.inr rfl) _))) (λi e=>e.imp_right λe=>by rw[e];have:=x.out;omega)
theorem se (k:JnS b W j v q)(h:j.bad=0)(Z:j.begun=true)(hl:j.lacks=0)(D:j.last=true)(P:j.op=1)(hw:jm j.check=true)(hq:q=none→j.op=0) :
  Calls prog 151 #[.pointer (some ⟨b,0,none⟩)] W λe w'=>e=.returned (mV (aI j))∧JpPost b (aI j).1 v q W w':=by
 have hv:=qq (show aI j=({ j with begun:=false,op:=0,sum:=0,text:=[] },some (j.op,j.text)) by unfold aI;rw[if_neg (by omega),Z,hl,D];rw[P,hw];rfl);have a2:∃C,q=some C:=by cases a3:q with
  | none=>have:=hq a3;omega
  | some C=>exact⟨C,rfl⟩
 obtain⟨C,rfl⟩:=a2;obtain⟨W0,r⟩:∃W0,mw W=W0:=⟨_,rfl⟩;have g:=qq (show Gr W W0 from r▸Gr.alloc W _);obtain⟨M,hM⟩:∃M,W.heap.size=M:=⟨_,rfl⟩;have h0:=qq (show W0.heap.size=M+1 by rw[←r,←hM];simp);have t:=qq (k.gr g.out);have hn:=qq (bY t.out);have c2:=t.out.c2;have c3:=t.out.c3;have c7:=t.out.c7;have c8:=t.out.c8;have c9:=t.out.c9;have c10:=t.out.c10;have fz:=t.out.bd.fz;have a1:=k.lt;have A:b≠M:=by omega
 have m0:W0.cell? ⟨M,0,none⟩=some (.int .i64 0):=by rw[←r,←hM];exact aa _ _ _ 0 _ rfl
 have m1:W0.cell? ⟨M,1,none⟩=some (.string ⟨#[]⟩):=by rw[←r,←hM];exact aa _ _ _ 1 _ rfl
 have mz:∀o,W0.frozen? ⟨M,o,none⟩=false:=λo=>by rw[←r,←hM];exact World.frozen?_alloc_at _ _ _ _ rfl
 have U:=qq k;have x:=qq hM;clear k a1;rw[h]at c2;rw[Z]at c8;rw[hl]at c10;rw[D]at c9;have a0:=qq h;have B:=t.out.lt;have N:=qq (ot (t.out.ck C rfl).1);rw[hw]at N;have a5:=qq P;rw[P]at c3;clear P hw hq;clear h Z hl D;go_enter func151,ntmps151;go_wp2_with fail;refine hn.out.mono ?_;rintro e w1⟨rfl,rfl⟩;go_wp2_with fail;refine N.out.mono ?_;rintro e w1⟨rfl,rfl⟩;go_upto_region 12 with(fail);obtain⟨w,y⟩:∃w,W0.setCell ⟨b,8,none⟩ (.bool false)=w:=⟨_,rfl⟩;rw[y];have V:=qq (show JnS b w { j with begun:=false } v (some C)from y▸t.out.setBegun false);have cb:=qq (show Ch (λi=>i=b) W0 w from y▸Ch.setCell (T:=λi=>i=b) W0 (a:=⟨b,8,none⟩) rfl _);have s:M<W0.heap.size:=by have:=h0.out;omega
 have f:¬(M=b):=λe=>A e.symm;replace m0:=(cb.out.cell (p:=⟨M,0,none⟩) s f).trans m0;replace m1:=(cb.out.cell (p:=⟨M,1,none⟩) s f).trans m1;have X:=(cb.out.frozen (p:=⟨M,0,none⟩) s f).trans (mz 0);have Y:=(cb.out.frozen (p:=⟨M,1,none⟩) s f).trans (mz 1);clear c2 c3 c7 c8 c9 c10 fz mz s y;have c3:w.cell? ⟨b,3,none⟩=some (.int .i64 j.op):=V.out.c3;have d:M<w.heap.size:=ae m0;have z:¬(v.ownBlock=some M):=λe=>by have:=U.out.bd.own_lt e;have:=x.out;omega
 have L:¬(v.ownBlock=some b):=V.out.bd.ne;have I:=qq (show ∀w',Gr w w'→Calls prog 118 #[.pointer (some ⟨b,5,none⟩)] w' λe w9=>e=.returned (.string ⟨j.text.toArray⟩)∧Ch (λk=>v.ownBlock=some k) w' w9 from λw' hg=>mb (V.out.gr hg).bd);go_region_law (first | (go_simp;go_at_call 118;refine(I.out w.drew (Gr.drew' _)).mono ?_;rintro e wd ⟨rfl,cd⟩;have n:=qq ((Ch.drew _ w).trans cd);replace c3:=(n.out.cell (p:=⟨b,3,none⟩) (ae c3) L).trans c3;replace m0:=(n.out.cell (p:=⟨M,0,none⟩) d z).trans m0;replace m1:=(n.out.cell (p:=⟨M,1,none⟩) d z).trans m1;replace X:=(n.out.frozen (p:=⟨M,0,none⟩) d z).trans X;replace Y:=(n.out.frozen (p:=⟨M,1,none⟩) d z).trans Y));all_goals
  obtain⟨m,l⟩:∃m,(wd.setCell ⟨M,0,none⟩ (.int .i64 j.op)).setCell ⟨M,1,none⟩ (.string ⟨j.text.toArray⟩)=m:=⟨_,rfl⟩;rw[l];have cm:=qq (show Ch (λi=>i=M) wd m from l▸(Ch.setCell (T:=λi=>i=M) wd (a:=⟨M,0,none⟩) rfl _).trans (Ch.setCell (T:=λi=>i=M) _ (a:=⟨M,1,none⟩) rfl _));have cw:=qq (show Ch (λi=>v.ownBlock=some i∨i=M) w m from(n.out.mono λ_ e=>.inl e).trans (cm.out.mono λ_ e=>.inr e));have kw:=qq (V.out.weak cw.out (λe=>e.elim L A) (λi e e2=>e2.elim (U.out.ck i e).2.2 (λe3=>by have:=(U.out.ck i e).1.lt;have:=x.out;omega)));have e0:m.cell? ⟨M,0,none⟩=some (.int .i64 j.op):=l▸ac (af m0) (by decide);have e1:m.cell? ⟨M,1,none⟩=some (.string ⟨j.text.toArray⟩):=l▸af (ac m1 (by decide));have y0:m.frozen? ⟨M,0,none⟩=false:=l▸ag.trans (ag.trans X);have y1:m.frozen? ⟨M,1,none⟩=false:=l▸ag.trans (ag.trans Y);clear m0 m1 X Y c3 l I B d;have c3:=kw.out.c3;have c4:=kw.out.c4;have fz:=kw.out.fz;have B:b<m.heap.size:=ae c3;have d:M<m.heap.size:=ae e0;dsimp only at c3 c4;have c5:(((m.setCell ⟨b,3,none⟩ (.int .i64 0)).setCell ⟨b,4,none⟩ (.int .i64 0)).cell? ⟨b,5,none⟩).isSome:=by
   obtain⟨u,hu⟩:=kw.out.c5;rw[ac (ac hu (by decide)) (by decide)];rfl
  have H:=qq (oe (b:=b) (W:=(m.setCell ⟨b,3,none⟩ (.int .i64 0)).setCell ⟨b,4,none⟩ (.int .i64 0)) (v:=v) c5 (ac (ac kw.out.c6 (by decide)) (by decide)) (λo=>ag.trans (ag.trans (fz o))));clear c5;go_wp2_with fail;refine H.out.mono ?_;rintro e O⟨rfl,E⟩;have kf:=qq (show JnS b O _ (.slice none 0 0) (some C)from E▸kw.out.done);have F:=qq (show Ch (λi=>i=b) m O from E▸(((Ch.setCell (T:=λi=>i=b) m (a:=⟨b,3,none⟩) rfl _).trans (Ch.setCell (T:=λi=>i=b) _ (a:=⟨b,4,none⟩) rfl _)).trans (Ch.setCell (T:=λi=>i=b) _ (a:=⟨b,5,none⟩) rfl _)).trans (Ch.setCell (T:=λi=>i=b) _ (a:=⟨b,6,none⟩) rfl _));replace e0:=(F.out.cell (p:=⟨M,0,none⟩) d f).trans e0;replace e1:=(F.out.cell (p:=⟨M,1,none⟩) d f).trans e1;replace y0:=(F.out.frozen (p:=⟨M,0,none⟩) d f).trans y0;replace y1:=(F.out.frozen (p:=⟨M,1,none⟩) d f).trans y1;clear c3 c4 fz B d E H;have a4:M<O.heap.size:=ae e0;go_wp2;refine bodyPost_ret (v:=.tuple #[.agg #[.int .i64 j.op,.string ⟨j.text.toArray⟩],.bool true,.int .i64 0]) (by simp[results,results151,go_sem,e0,e1]) rfl ?_;rw[hv.out];refine⟨by show _=Ending.returned (.tuple #[_,_,.int .i64 j.bad]);rw[a0.out];rfl,.slice none 0 0,kf.out.ch (T:=λi=>i=M) ((Ch.setCell (T:=λi=>i=M) O (a:=⟨M,0,none⟩) rfl _).trans (Ch.setCell (T:=λi=>i=M) _ (a:=⟨M,1,none⟩) rfl _)) A (λi e=>by cases e) (λi e e2=>by have:=(U.out.ck i e).1.lt;have:=x.out;omega),?_,λi e=>by cases e⟩;exact(g.out.to_ch _).drop_new (S:=λi=>(i=b∨v.ownBlock=some i∨(some C)=some i)∨i=M) ((((cb.out.mono λ_ e=>.inl (.inl e)).trans (cw.out.mono λ_ e=>e.imp_left λe=>.inr (.inl e))).trans (F.out.mono λ_ e=>.inl (.inl e))).trans ((Ch.setCell O (a:=⟨M,0,none⟩) (.inr rfl) _).trans (Ch.setCell _ (a:=⟨M,1,none⟩) (.inr rfl) _))) (λi e=>e.imp_right λe=>by rw[e];have:=x.out;omega)
theorem BG (k:JnS b W j v q)(g:q=none→j.op=0) :
  Calls prog 151 #[.pointer (some ⟨b,0,none⟩)] W λe w'=>e=.returned (mV (aI j))∧JpPost b (aI j).1 v q W w':=by
 by_cases h:j.bad=0
 ·cases d:j.begun
  ·exact r9 k h d
  ·by_cases hl:j.lacks=0
   ·cases a:j.last
    ·exact yH k h d hl a
    ·by_cases f:j.op=1
     ·cases i:jm j.check
      ·exact yI k h d hl a f i g
      ·exact se k h d hl a f i g
     ·exact sc k h d hl a f
   ·exact sb k h d (by omega)
 ·exact BF k h
end
def j8 (b:Nat)(T:Nat→Prop)(W:World)(j:Jn):Prop :=
 (∃v q,JnS b W j v q∧(q=none→j.op=0)∧iI j∧T b∧(∀i,v.ownBlock=some i→T i)∧∀i,q=some i→T i)∧∀k,T k→k<W.heap.size
theorem cZ (b:Nat):Kin (j8 b) :=
 ⟨fun {T T' W x} ⟨⟨v,q,h,g,l,a,d,f⟩,_⟩ m hl=>⟨⟨v,q,h,g,l,m _ a,λi e=>m _ (d i e),λi e=>m _ (f i e)⟩,hl⟩,
  fun {T S W p x} ⟨⟨v,q,h,g,l,a,d,f⟩,hl⟩ n hs=>⟨⟨v,q,h.ch n (hs _ a) (λi e=>hs _ (d i e)) (λi e=>hs _ (f i e)),g,l,a,d,f⟩,λk o=>qj (hl k o) n.size⟩,
  fun {T W x} h=>h.2⟩
theorem qE {T:Nat→Prop}{W a:World}(hs:W.heap.size≤a.heap.size)(hl:∀k,T k→k<W.heap.size):∀k,Add T W a k→k<a.heap.size:=λk e=>e.elim (λe=>qj (hl k e) hs) (λe=>e.2)
theorem JpPost.pst {b:Nat}{T:Nat→Prop}{W d:World}{j a:Jn}{v:Value}{q:Option Nat}(s:JpPost b a v q W d)(r:iI a)(p:q=none→a.op=0)(g:T b)(l:∀i,v.ownBlock=some i→T i)(m:∀i,q=some i→T i)(hl:∀k,T k→k<W.heap.size):Pst (j8 b) T W a d:=by
 obtain⟨u,o,n,t⟩:=s;have f:Ch T W d:=n.mono λi e=>by
  rcases e with rfl | e | e
  ·exact g
  ·exact l i e
  ·exact m i e
 exact⟨⟨⟨u,q,o,p,r,.inl g,λi e=>(t i e).imp (l i) (λh=>⟨h,o.bd.own_lt e⟩),λi e=>.inl (m i e)⟩,qE n.size hl⟩,f⟩
theorem yJ {b:Nat}{T:Nat→Prop}{W:World}{j:Jn}(h:j8 b T W j)(last:Bool)(op len:Nat)(a:len≤9223372036854775807) :
  Calls prog 149 #[.pointer (some ⟨b,0,none⟩),.bool last,.int .i64 op,.int .i64 len] W λe w'=>e=.returned (.int .i64 (aG j last op len).bad)∧Pst (j8 b) T W (aG j last op len) w':=by
 obtain⟨⟨v,q,k,n,f,g,o,p⟩,hl⟩:=h;refine(uL k n f last op len a).mono ?_;rintro e w'⟨rfl,s,m,l,r,hn⟩;refine⟨rfl,⟨⟨v,s,m,λe=>(hn e).2,uI f,.inl g,λi e=>.inl (o i e),λi e=>?_⟩,qE l.size hl⟩,l.mono λi e=>by rw[e];exact g⟩;rcases r with rfl | ⟨c,rfl,d⟩
 ·exact .inl (p i e)
 ·cases e;exact .inr ⟨d,(m.ck _ rfl).1.lt⟩
theorem uO (j:Jn)(s:List UInt8):(aA j s).op=j.op:=by
 unfold aA;split
 ·rfl
 ·split
  ·exact fi _ _
  ·split
   ·split
    ·exact fi j 1007
    ·rfl
   ·rfl
theorem BH (j:Jn):(aI j).1.op=j.op∨(aI j).1.op=0:=by
 unfold aI;split
 ·exact .inl rfl
 ·split
  ·exact .inl (fi _ _)
  ·split
   ·exact .inl (fi _ _)
   ·split
    ·exact .inl rfl
    ·exact .inr rfl
theorem yK {b:Nat}{T:Nat→Prop}{W:World}{j:Jn}(h:j8 b T W j)(s:List UInt8)(hs:s.length≤4611686018427387904) :
  Calls prog 150 #[.pointer (some ⟨b,0,none⟩),.string ⟨s.toArray⟩] W λe w'=>e=.returned (.int .i64 (aA j s).bad)∧Pst (j8 b) T W (aA j s) w':=by
 obtain⟨⟨v,q,k,a,d,f,g,i⟩,hl⟩:=h;refine(uN k a d s hs).mono ?_;rintro e w'⟨rfl,l⟩;exact⟨rfl,l.pst (j:=j) (uM d) (λe=>by rw[uO];exact a e) f g i hl⟩
theorem DO {b:Nat}{T:Nat→Prop}{W:World}{j:Jn}(h:j8 b T W j) :
  Calls prog 151 #[.pointer (some ⟨b,0,none⟩)] W λe w'=>e=.returned (mV (aI j))∧Pst (j8 b) T W (aI j).1 w':=by
 obtain⟨⟨v,q,k,a,d,f,g,i⟩,hl⟩:=h;refine(BG k a).mono ?_;rintro e w'⟨rfl,l⟩;exact⟨rfl,l.pst (j:=j) (BE d) (λe=>(BH j).elim (λe2=>by rw[e2];exact a e) id) f g i hl⟩
theorem DP (W:World)(n:Nat)(hn:n≤1099511627776):Calls prog 64 #[.int .i64 n] W λe w'=>e=.returned (.tuple #[.pointer (some ⟨W.heap.size,0,none⟩),.int .i64 0])∧j8 W.heap.size (New W w') w' (jn0 n)∧Gr W w':=by
 refine(Dg W n hn).mono ?_;rintro e w'⟨rfl,d,a,hs⟩;exact⟨rfl,⟨⟨_,_,d,λ_=>rfl,Fx hn,⟨qv _,by omega⟩,(λi e=>by cases e),(λi e=>by cases e)⟩,λk e=>e.2⟩,a⟩
structure WnS (b R J:Nat)(TJ:Nat→Prop)(W:World)(c:Wn):Prop where
 c0:W.cell? ⟨b,0,none⟩=some (.pointer (some ⟨R,0,none⟩))
 c1:W.cell? ⟨b,1,none⟩=some (.pointer (some ⟨J,0,none⟩))
 c2:W.cell? ⟨b,2,none⟩=some (.int .i64 c.st)
 c3:W.cell? ⟨b,3,none⟩=some (.int .i64 c.control)
 c4:W.cell? ⟨b,4,none⟩=some (.string ⟨c.data.toArray⟩)
 fz:∀o,W.frozen? ⟨b,o,none⟩=false
 r:FrS R W c.r
 j:j8 J TJ W c.j
 d1:R≠b
 d2:¬TJ b
 d3:¬TJ R
section
variable {b R J:Nat} {TJ:Nat→Prop} {W:World} {c:Wn}
theorem WnS.lt (k:WnS b R J TJ W c):b<W.heap.size:=ae k.c0
theorem WnS.ch {T:Nat→Prop}{e:World}(k:WnS b R J TJ W c)(d:Ch T W e)(f:¬T b)(l:¬T R)(h:∀i,TJ i→¬T i):WnS b R J TJ e c :=
 have a:∀ {i u},W.cell? ⟨b,i,none⟩=some u→e.cell? ⟨b,i,none⟩=some u:=fun {i u} g=>(d.cell (p:=⟨b,i,none⟩) (ae g) f).trans g
 ⟨a k.c0,a k.c1,a k.c2,a k.c3,a k.c4,λo=>(d.frozen (p:=⟨b,o,none⟩) k.lt f).trans (k.fz o),k.r.ch d l,(cZ J).frame k.j d h,k.d1,k.d2,k.d3⟩
theorem WnS.gr {a:World}(k:WnS b R J TJ W c)(g:Gr W a):WnS b R J TJ a c:=k.ch (g.to_ch (λ_=>False)) id id (λ_ _=>id)
theorem WnS.st1 (k:WnS b R J TJ W c)(o:Nat)(u:Value):FrS R (W.setCell ⟨b,o,none⟩ u) c.r∧j8 J TJ (W.setCell ⟨b,o,none⟩ u) c.j :=
 have d:=Ch.setCell (T:=λi=>i=b) W (a:=⟨b,o,none⟩) rfl u
 ⟨k.r.ch d k.d1,(cZ J).frame k.j d (λ_ e e2=>k.d2 (e2▸e))⟩
theorem WnS.setSt (k:WnS b R J TJ W c)(n:Nat):WnS b R J TJ (W.setCell ⟨b,2,none⟩ (.int .i64 n)) { c with st:=n } :=
 ⟨ac k.c0 (by decide),ac k.c1 (by decide),af k.c2,ac k.c3 (by decide),ac k.c4 (by decide),λo=>by rw[ag];exact k.fz o,(k.st1 _ _).1,(k.st1 _ _).2,k.d1,k.d2,k.d3⟩
theorem WnS.setControl (k:WnS b R J TJ W c)(n:Nat):WnS b R J TJ (W.setCell ⟨b,3,none⟩ (.int .i64 n)) { c with control:=n } :=
 ⟨ac k.c0 (by decide),ac k.c1 (by decide),ac k.c2 (by decide),af k.c3,ac k.c4 (by decide),λo=>by rw[ag];exact k.fz o,(k.st1 _ _).1,(k.st1 _ _).2,k.d1,k.d2,k.d3⟩
theorem WnS.setData (k:WnS b R J TJ W c)(s:List UInt8):WnS b R J TJ (W.setCell ⟨b,4,none⟩ (.string ⟨s.toArray⟩)) { c with data:=s } :=
 ⟨ac k.c0 (by decide),ac k.c1 (by decide),ac k.c2 (by decide),ac k.c3 (by decide),af k.c4,λo=>by rw[ag];exact k.fz o,(k.st1 _ _).1,(k.st1 _ _).2,k.d1,k.d2,k.d3⟩
theorem WnS.setR {d:World}{r:Fr}(k:WnS b R J TJ W c)(l:FrS R d r)(f:Ch (λi=>i=R) W d):WnS b R J TJ d { c with r:=r } :=
 have g:¬b=R:=λe=>k.d1 e.symm;have a:∀ {i u},W.cell? ⟨b,i,none⟩=some u→d.cell? ⟨b,i,none⟩=some u:=fun {i u} h=>(f.cell (p:=⟨b,i,none⟩) (ae h) g).trans h
 ⟨a k.c0,a k.c1,a k.c2,a k.c3,a k.c4,λo=>(f.frozen (p:=⟨b,o,none⟩) k.lt g).trans (k.fz o),l,(cZ J).frame k.j f (λ_ e e2=>k.d3 (e2▸e)),k.d1,k.d2,k.d3⟩
theorem WnS.setJ {d:World}{j:Jn}(k:WnS b R J TJ W c)(f:Pst (j8 J) TJ W j d):WnS b R J (Add TJ W d) d { c with j:=j } :=
 have a:∀ {i u},W.cell? ⟨b,i,none⟩=some u→d.cell? ⟨b,i,none⟩=some u:=fun {i u} g=>(f.2.cell (p:=⟨b,i,none⟩) (ae g) k.d2).trans g
 ⟨a k.c0,a k.c1,a k.c2,a k.c3,a k.c4,λo=>(f.2.frozen (p:=⟨b,o,none⟩) k.lt k.d2).trans (k.fz o),k.r.ch f.2 k.d3,f.1,k.d1,λe=>e.elim k.d2 (λe=>absurd k.lt (Nat.not_lt.2 e.1)),λe=>e.elim k.d3 (λe=>absurd k.r.lt (Nat.not_lt.2 e.1))⟩
def bn (k:Nat):Option Wev→Value
 | none=>.agg #[.int .i64 k,.int .i64 (0:Nat),.int .i64 (0:Nat),.string ⟨#[]⟩]
 | some (.message op s)=>.agg #[.int .i64 (1:Nat),.int .i64 op,.int .i64 (0:Nat),.string ⟨s.toArray⟩]
 | some (.ping s)=>.agg #[.int .i64 (2:Nat),.int .i64 (0:Nat),.int .i64 (0:Nat),.string ⟨s.toArray⟩]
 | some (.closing n)=>.agg #[.int .i64 (3:Nat),.int .i64 (0:Nat),.int .i64 n,.string ⟨#[]⟩]
 | some (.failing n)=>.agg #[.int .i64 (4:Nat),.int .i64 (0:Nat),.int .i64 n,.string ⟨#[]⟩]
theorem yL (k:WnS b R J TJ W c):Calls prog 82 #[.pointer (some ⟨b,0,none⟩)] W λe w'=>e=.returned (.bool false)∧W=w':=by
 have c0:=k.c0;clear k;go_enter func82,ntmps82;go_wp2;go_ret;exact⟨rfl,rfl⟩
theorem gH (k:WnS b R J TJ W c):Calls prog 48 #[.pointer (some ⟨b,0,none⟩)] W λe w'=>e=.returned (.int .i64 c.st)∧W=w':=by
 have c2:=k.c2;have hn:=qq (yL k);clear k;go_enter func48,ntmps48;go_wp2_with fail;refine hn.out.mono ?_;rintro e a⟨rfl,rfl⟩;go_wp2;go_ret;exact⟨rfl,rfl⟩
theorem ld (k:WnS b R J TJ W c):Calls prog 46 #[.pointer (some ⟨b,0,none⟩)] W λe w'=>e=.returned (.tuple #[])∧WnS b R J TJ w' (ia c)∧Ch (λi=>i=b) W w':=by
 have c2:=k.c2;have fz:=k.fz;have d:=qq k;clear k;go_enter func46,ntmps46;go_wp2;go_end0;exact⟨rfl,d.out.setSt 3,Ch.setCell (T:=λi=>i=b) _ (a:=⟨b,2,none⟩) rfl _⟩
theorem yM (k:WnS b R J TJ W c)(s:List UInt8)(hs:c.r.inp.length+s.length≤4611686018427387900) :
  Calls prog 40 #[.pointer (some ⟨b,0,none⟩),.string ⟨s.toArray⟩] W λe w'=>e=.returned (.tuple #[])∧WnS b R J TJ w' (aN c s)∧Ch (λi=>i=R) W w':=by
 have c0:=k.c0;have a:=qq (gH k);have hf:=qq (wu R W c.r s k.r hs);have g:=qq k;clear k;by_cases h:c.st=3
 ·have d:=qq (show aN c s=c by unfold aN;rw[if_pos h]);rw[h]at a;clear h;go_enter func40,ntmps40;go_wp2_with fail;refine a.out.mono ?_;rintro e l⟨rfl,rfl⟩;go_wp2;go_end0;rw[d.out];exact⟨rfl,g.out,Ch.refl _ _⟩
 ·have d:=qq (show aN c s={ c with r:=bp c.r s } by unfold aN;rw[if_neg h]);have n:((c.st:Int) != 3)=true:=bne_iff_ne.2 (by omega);clear h;go_enter func40,ntmps40;go_wp2_with fail;refine a.out.mono ?_;rintro e l⟨rfl,rfl⟩;go_wp2_with fail;refine hf.out.mono ?_;rintro e l⟨rfl,m,f⟩;go_wp2;go_end0;rw[d.out];exact⟨rfl,g.out.setR m f,f⟩
theorem yN (k:WnS b R J TJ W c) :
  Calls prog 60 #[.pointer (some ⟨b,0,none⟩)] W λe w'=>e=.returned (.int .i64 (if c.st=1 then 0 else 11))∧WnS b R J TJ w' (cS c)∧Ch (λi=>i=b) W w':=by
 have c2:=k.c2;have fz:=k.fz;have f:=qq (gH k);have l:=qq k;clear k;by_cases h:c.st=1
 ·have g:=qq (show cS c={ c with st:=2 } by unfold cS;rw[if_pos h]);rw[h]at f c2;have d:(if c.st=1 then(0:Int) else 11)=0:=if_pos h;rw[d];clear h d;go_enter func60,ntmps60;go_wp2_with fail;refine f.out.mono ?_;rintro e m⟨rfl,rfl⟩;go_wp2;go_ret;rw[g.out];exact⟨rfl,l.out.setSt 2,Ch.setCell (T:=λi=>i=b) _ (a:=⟨b,2,none⟩) rfl _⟩
 ·have g:=qq (show cS c=c by unfold cS;rw[if_neg h]);have n:((c.st:Int) != 1)=true:=bne_iff_ne.2 (by omega);have d:(if c.st=1 then(0:Int) else 11)=11:=if_neg h;rw[d];clear h d;go_enter func60,ntmps60;go_wp2_with fail;refine f.out.mono ?_;rintro e m⟨rfl,rfl⟩;go_wp2;go_ret;rw[g.out];exact⟨rfl,l.out,Ch.refl _ _⟩
end
section
variable {b R J:Nat} {TJ:Nat→Prop} {W:World} {c:Wn}
abbrev we0 (W:World):World:=W.alloc (.cells #[.int .i64 0,.int .i64 0,.int .i64 0,.string ⟨#[]⟩] 129)
theorem WnS.tell {W0 d w':World}{c':Wn}{a:Nat→Prop}{M:Nat}(k:WnS b R J TJ W c)(hM:W.heap.size=M)(h:WnS b R J a d c')(f:∀i,a i→TJ i∨M<i)(g:Ch (λi=>i=M) d w'):WnS b R J a w' c':=by
 have m:=k.lt;have l:=k.r.lt;refine h.ch g (by omega) (by omega) (λi e e2=>?_);rcases f i e with e3 | e3
 ·have:=(cZ J).lt k.j i e3;omega
 ·omega
theorem fx (k:WnS b R J TJ W c)(n:Nat) :
  Calls prog 121 #[.pointer (some ⟨b,0,none⟩),.int .i64 n] W λe w'=>e=.returned (.tuple #[bn 0 (some (.failing n)),.bool true])∧WnS b R J TJ w' (ia c)∧Ch (λi=>i=b) W w':=by
 obtain⟨W0,d⟩:∃W0,we0 W=W0:=⟨_,rfl⟩;have g:=qq (show Gr W W0 from d▸Gr.alloc W _);obtain⟨M,hM⟩:∃M,W.heap.size=M:=⟨_,rfl⟩;have h0:=qq (show W0.heap.size=M+1 by rw[←d,←hM];simp);have z:=qq (ld (k.gr g.out));have w:=k.lt;have s:b≠M:=by omega
 have h:¬(M=b):=λe=>s e.symm;have f:M<W0.heap.size:=by have:=h0.out;omega
 have m0:W0.cell? ⟨M,0,none⟩=some (.int .i64 0):=by rw[←d,←hM];exact aa _ _ _ 0 _ rfl
 have m1:W0.cell? ⟨M,1,none⟩=some (.int .i64 0):=by rw[←d,←hM];exact aa _ _ _ 1 _ rfl
 have m2:W0.cell? ⟨M,2,none⟩=some (.int .i64 0):=by rw[←d,←hM];exact aa _ _ _ 2 _ rfl
 have m3:W0.cell? ⟨M,3,none⟩=some (.string ⟨#[]⟩):=by rw[←d,←hM];exact aa _ _ _ 3 _ rfl
 have mz:∀o,W0.frozen? ⟨M,o,none⟩=false:=λo=>by rw[←d,←hM];exact World.frozen?_alloc_at _ _ _ _ rfl
 have A:=qq k;have m:=qq hM;clear k w;go_enter func121,ntmps121;go_wp2_with fail;refine z.out.mono ?_;rintro e r⟨rfl,x,l⟩;replace m0:=(l.cell (p:=⟨M,0,none⟩) f h).trans m0;replace m1:=(l.cell (p:=⟨M,1,none⟩) f h).trans m1;replace m2:=(l.cell (p:=⟨M,2,none⟩) f h).trans m2;replace m3:=(l.cell (p:=⟨M,3,none⟩) f h).trans m3;replace mz:∀o,r.frozen? ⟨M,o,none⟩=false:=λo=>(l.frozen (p:=⟨M,o,none⟩) f h).trans (mz o);have y:M<r.heap.size:=ae m0;have u:=qq x;have t:=qq l;clear x l f;go_wp2;refine bodyPost_ret (v:=.tuple #[bn 0 (some (.failing n)),.bool true]) (by simp[results,results121,go_sem,bn,m0,m1,m2,m3]) rfl ⟨rfl,?_,?_⟩
 ·exact A.out.tell (W0:=W0) m.out u.out (λi e=>.inl e) ((((Ch.setCell (T:=λi=>i=M) r (a:=⟨M,0,none⟩) rfl _).trans (Ch.setCell (T:=λi=>i=M) _ (a:=⟨M,1,none⟩) rfl _)).trans (Ch.setCell (T:=λi=>i=M) _ (a:=⟨M,2,none⟩) rfl _)).trans (Ch.setCell (T:=λi=>i=M) _ (a:=⟨M,3,none⟩) rfl _))
 ·exact((g.out.to_ch _).trans t.out).drop_new ((((Ch.setCell (T:=λi=>i=M) r (a:=⟨M,0,none⟩) rfl _).trans (Ch.setCell (T:=λi=>i=M) _ (a:=⟨M,1,none⟩) rfl _)).trans (Ch.setCell (T:=λi=>i=M) _ (a:=⟨M,2,none⟩) rfl _)).trans (Ch.setCell (T:=λi=>i=M) _ (a:=⟨M,3,none⟩) rfl _)) (λi e=>.inr (by rw[e];have:=m.out;omega))
end
