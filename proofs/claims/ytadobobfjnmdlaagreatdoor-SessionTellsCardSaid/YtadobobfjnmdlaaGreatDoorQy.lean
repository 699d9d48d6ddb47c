/-
  The reader of frames in memory: Next.
-/
import Derived.Test.YtadobobfjnmdlaaGreatDoorQu
import Derived.Lib.UnsafeStr
set_option linter.unnecessarySimpa false
set_option linter.unusedVariables false
set_option linter.unusedSimpArgs false
set_option maxHeartbeats 16000000
set_option maxRecDepth 100000
open Go.Proofs.Tryz
namespace Go.Proofs.YtadobobfjnmdlaaGreatDoor
open Go.RowKit Go.Shelf
attribute [local go_sem] Oper.semAt_some
def Fu (y:Evp):Array Value:=#[y.V]
def FrM (b:Nat)(r:Fr)(y:Evp)(W A:World):Prop:=(az r).2.isSome=true∧evp (az r).2=y∧FrS b A (az r).1∧Ch (λj=>j=b) W A
def FrN (b:Nat)(r:Fr)(W A:World):Prop:=(az r).2.isSome=false∧FrS b A (az r).1∧Ch (λj=>j=b) W A
theorem wA {b:Nat}{W0:World}{r:Fr}(w:Nat)(g:W0.cell? ⟨w,0,none⟩=some (.pointer (some ⟨b,0,none⟩)))(k0:FrS b W0 r)(F:nZ r) :
  EO prog 146 #[.pointer (some ⟨w,0,none⟩)] Fu (FrM b r) (FrN b r) W0:=by
 intro W l L s x;have z:=s.cell g;have k:=qq (wz (k0.gr s) F);have p:=qq x;clear x g k0 s;have E:∀f,Fence.wide.fn f:=λ_=>trivial;have D:Fence.wide.depth=none:=rfl;refine callsIn_of_wp func146 rfl trivial ?_ rfl;simp only[ntmps146,List.size_toArray,List.length_cons,List.length_nil,Nat.reduceAdd,Nat.reduceSub,Array.replicate_succ,Array.replicate_zero,List.push_toArray,List.append_toArray,List.nil_append,List.cons_append];gi_wp2_with (fail);refine(callsIn_wide.2 k.out).mono ?_;rintro e d⟨rfl,k2,i⟩;rw[gE];obtain⟨y,t⟩:∃y,evp (az r).2=y:=⟨_,rfl⟩;have u:=qq t;rw[t];obtain⟨v,g⟩:∃v,(az r).2.isSome=v:=⟨_,rfl⟩;have m:=qq g;rw[g];have n:=qq k2;have c:=qq i;unfold Evp.V;clear k2 i t g k z;gi_wp2;obtain⟨w3,a⟩:∃w3,d.alloc (.cells #[.int .i64 y.a0,.int .i64 y.a1,.bool y.a2,.int .i64 y.a3,.string ⟨y.a4.toArray⟩] 159)=w3:=⟨_,rfl⟩;rw[a];have M:w3.cell? ⟨d.heap.size,0,none⟩=some (.int .i64 y.a0):=by rw[←a];exact aa _ _ _ 0 _ rfl
 have d1:w3.cell? ⟨d.heap.size,1,none⟩=some (.int .i64 y.a1):=by rw[←a];exact aa _ _ _ 1 _ rfl
 have d2:w3.cell? ⟨d.heap.size,2,none⟩=some (.bool y.a2):=by rw[←a];exact aa _ _ _ 2 _ rfl
 have d3:w3.cell? ⟨d.heap.size,3,none⟩=some (.int .i64 y.a3):=by rw[←a];exact aa _ _ _ 3 _ rfl
 have N:w3.cell? ⟨d.heap.size,4,none⟩=some (.string ⟨y.a4.toArray⟩):=by rw[←a];exact aa _ _ _ 4 _ rfl
 have o:=qq (show Gr d w3 from a▸Gr.alloc _ _);clear a;gi_loopw [3,4] (λI J wr=>I=.pointer (some ⟨d.heap.size,0,none⟩)∧J=.bool v∧wr=w3) (λ_ _ _=>0)
 case atStart=>exact⟨rfl,rfl,rfl⟩
 case round =>
  obtain⟨rfl,rfl,rfl⟩:=hrel;cases v with
  | false =>
   gi_wp2_with (refine wpListIn_skip (by rfl) (by rfl) ?_);go_end0;exact⟨rfl,.inl ⟨m.out,n.out.gr o.out,c.out.trans (o.out.to_ch _)⟩⟩
  | true =>
   have h:=p.out y wr ⟨m.out,u.out,n.out.gr o.out,c.out.trans (o.out.to_ch _)⟩;unfold Fu Evp.V at h;obtain⟨O,tmps,assign,body,H,C⟩:=h;gi_wp2;refine C.mono ?_;rintro e B⟨rfl,A⟩;gi_wp2;go_end0;exact⟨rfl,.inr A⟩
structure EvC (rb:Nat)(W:World)(y:Evp):Prop where
 k:W.cell? ⟨rb,0,none⟩=some (.int .i64 y.a0)
 o:W.cell? ⟨rb,1,none⟩=some (.int .i64 y.a1)
 f:W.cell? ⟨rb,2,none⟩=some (.bool y.a2)
 l:W.cell? ⟨rb,3,none⟩=some (.int .i64 y.a3)
 t:W.cell? ⟨rb,4,none⟩=some (.string ⟨y.a4.toArray⟩)
theorem EvC.ch {rb:Nat}{T:Nat→Prop}{W c:World}{y:Evp}(h:EvC rb W y)(g:Ch T W c)(e:¬T rb):EvC rb c y :=
 have a:∀ {j v},W.cell? ⟨rb,j,none⟩=some v→c.cell? ⟨rb,j,none⟩=some v:=fun {j v} d=>(g.cell (p:=⟨rb,j,none⟩) (ae d) e).trans d
 ⟨a h.k,a h.o,a h.f,a h.l,a h.t⟩
theorem EvZ.put {rb:Nat}{W:World}(h:EvZ rb W)(y:Evp):EvC rb (((((W.setCell ⟨rb,0,none⟩ (.int .i64 y.a0)).setCell ⟨rb,1,none⟩ (.int .i64 y.a1)).setCell ⟨rb,2,none⟩ (.bool y.a2)).setCell ⟨rb,3,none⟩ (.int .i64 y.a3)).setCell ⟨rb,4,none⟩ (.string ⟨y.a4.toArray⟩)) y :=
 ⟨by simp[go_sem,h.k],by simp[go_sem,h.o],by simp[go_sem,h.f],by simp[go_sem,h.l],by simp[go_sem,h.t]⟩
theorem wC {b:Nat}{W:World}{r:Fr}(k:FrS b W r)(hk:nZ r) :
  Calls prog 96 #[.pointer (some ⟨b,0,none⟩)] W (gc b W (az r)):=by
 refine(callsIn_wide (n:=0)).1 ?_;have f8:∀f,Fence.wide.fn f:=λ_=>trivial;have f7:Fence.wide.depth=none:=rfl;have hb:=k.lt;obtain⟨w1,H⟩:∃w1,W.alloc (.cells #[.int .i64 0,.int .i64 0,.bool false,.int .i64 0,.string ⟨#[]⟩] 159)=w1:=⟨_,rfl⟩;obtain⟨w2,z⟩:∃w2,w1.alloc (.cells #[.bool false] 4)=w2:=⟨_,rfl⟩;obtain⟨w3,I⟩:∃w3,w2.alloc (.cells #[.pointer (some ⟨b,0,none⟩)] 116)=w3:=⟨_,rfl⟩;have g1:Gr W w1:=H▸Gr.alloc _ _;have g2:Gr w1 w2:=z▸Gr.alloc _ _;have g3:Gr w2 w3:=I▸Gr.alloc _ _;have s1:w1.heap.size=W.heap.size+1:=by rw[←H];simp
 have s2:w2.heap.size=W.heap.size+2:=by rw[←z];simp;omega
 have s3:w3.heap.size=W.heap.size+3:=by rw[←I];simp;omega
 have e2:=((H▸fR W _:EvZ W.heap.size w1).gr g2).gr g3;have c5:w3.cell? ⟨W.heap.size+1,0,none⟩=some (.bool false):=g3.cell (by rw[←z,←s1];exact aa _ _ _ 0 _ rfl);have d0:∀o,w3.frozen? ⟨W.heap.size+1,o,none⟩=false:=λo=>(Below.frozen g3 (p:=⟨W.heap.size+1,o,none⟩) (by(try dsimp only);omega)).trans (by rw[←z,←s1];exact World.frozen?_alloc_at _ _ _ _ rfl);have c7:w3.cell? ⟨W.heap.size+2,0,none⟩=some (.pointer (some ⟨b,0,none⟩)):=by rw[←I,←s2];exact aa _ _ _ 0 _ rfl
 have b6:Gr W w3:=(g1.trans g2).trans g3;have k3:=k.gr b6;refine callsIn_of_wp_marks func96 rfl trivial ?_ rfl;simp only[ntmps96,List.size_toArray,List.length_cons,List.length_nil,Nat.reduceAdd,Nat.reduceSub,Array.replicate_succ,Array.replicate_zero,List.push_toArray,List.append_toArray,List.nil_append,List.cons_append];have f4:=qq k3;have b4:=qq e2;have Y:=qq c5;have a5:=qq d0;have c8:=qq c7;have X:=qq b6;have g4:=qq s1;have g5:=qq s2;have l:=qq s3;have a9:=qq H;have b2:=qq z;have b3:=qq I;clear k k3 e2 c5 d0 c7 b6 g1 g2 g3 s1 s2 s3 H z I;gi_wp2_with (gi_at_call 120;refine(callsIn_wide.2 (Ap b _)).mono ?_;rintro e w' ⟨rfl,rfl⟩);rw[a9.out,b2.out,b3.out];have e3:=l.out;have c9:b≠w3.heap.size+1:=by omega
 have d6:W.heap.size≠w3.heap.size+1:=by omega
 have d7:W.heap.size+1≠w3.heap.size+1:=by omega
 have P:W.heap.size≠W.heap.size+1:=by omega
 have U:b≠W.heap.size:=by omega
 have s:b≠W.heap.size+1:=by omega
 have Z:=qq c9;have a8:=qq d6;have E:=qq d7;clear e3 c9 d6 d7 a9 b2 b3;refine tT (gf:=146) rfl (enters_of func146 (by kernel_rfl) rfl) (wA (W.heap.size+2) c8.out f4.out hk) (λj=>j=b) (λj d=>by have:=l.out;(try dsimp only at d);omega) (λ_ _ _ h=>h.2.2.2) (λ_ _ h=>h.2.2) (λ_=>rfl)
  (λc A=>c=.ret∧(az r).2.isSome=true∧FrS b A (az r).1∧EvC W.heap.size A (evp (az r).2)∧A.cell? ⟨W.heap.size+1,0,none⟩=some (.bool true)∧Ch (λj=>j=b) W A)
  (λj=>j=W.heap.size∨j=W.heap.size+1) (λj d=>by have:=l.out;(try dsimp only at d);omega) ?hIx ?round ?done ?stop
 case hIx =>
  rintro c A B⟨rfl,h1,h2,h3,h4,h5⟩ hc;have e:=l.out;exact⟨rfl,h1,h2.ch hc Z.out,h3.ch hc a8.out,(hc.cell (p:=⟨W.heap.size+1,0,none⟩) (ae h4) E.out).trans h4,h5.drop_new hc (λj d=>.inr (by(try dsimp only at d);omega))⟩
 case round =>
  rintro l' y W1 A f9 g c0⟨hv,hy,d1,t⟩;have e:=l.out;have c1:=qq ((b4.out.gr g).ch t (λe=>U e.symm));have b9:=qq ((t.cell (p:=⟨W.heap.size+1,0,none⟩) (show W.heap.size+1<W1.heap.size by omega) (λe=>s e.symm)).trans (g.cell Y.out));have a6:=qq (show ∀o,A.frozen? ⟨W.heap.size+1,o,none⟩=false from λo=>(t.frozen (p:=⟨W.heap.size+1,o,none⟩) (show W.heap.size+1<W1.heap.size by omega) (λe=>s e.symm)).trans ((Below.frozen g (p:=⟨W.heap.size+1,o,none⟩) (show W.heap.size+1<w3.heap.size by omega)).trans (a5.out o)));have c4:=qq ((X.out.to_ch _).trans ((g.to_ch _).trans t));have a7:=qq d1;have F:=qq hv;have f2:=qq hy;have g0:l'<A.heap.size:=by have:=t.size;omega
  have f0:¬(W.heap.size=l'):=by omega
  have d5:¬(W.heap.size+1=l'):=by omega
  have f1:¬(b=l'):=by omega
  have C:¬(A.heap.size=l'):=by omega
  have f6:W.heap.size≤l':=by omega
  have f5:W.heap.size<A.heap.size:=c1.out.lt;have c2:W.heap.size+1<A.heap.size:=ae b9.out;clear g t d1 hv hy c0 e;unfold Fu Evp.V;gi_wp2;refine⟨Ch.alloc _ _ _,λJ i=>?_⟩;have y0:J.cell? ⟨A.heap.size,0,none⟩=some (.int .i64 y.a0):=(i.cell (p:=⟨A.heap.size,0,none⟩) (by simp) C).trans (aa _ _ _ 0 _ rfl);have y1:J.cell? ⟨A.heap.size,1,none⟩=some (.int .i64 y.a1):=(i.cell (p:=⟨A.heap.size,1,none⟩) (by simp) C).trans (aa _ _ _ 1 _ rfl);have y2:J.cell? ⟨A.heap.size,2,none⟩=some (.bool y.a2):=(i.cell (p:=⟨A.heap.size,2,none⟩) (by simp) C).trans (aa _ _ _ 2 _ rfl);have y3:J.cell? ⟨A.heap.size,3,none⟩=some (.int .i64 y.a3):=(i.cell (p:=⟨A.heap.size,3,none⟩) (by simp) C).trans (aa _ _ _ 3 _ rfl);have y4:J.cell? ⟨A.heap.size,4,none⟩=some (.string ⟨y.a4.toArray⟩):=(i.cell (p:=⟨A.heap.size,4,none⟩) (by simp) C).trans (aa _ _ _ 4 _ rfl);have m:Ch (λj=>j=l') A J:=(Ch.alloc _ _ _).trans i;have e0:=c1.out.ch m f0;have e1:=qq e0;obtain⟨z0,z1,z2,z3,z4,zf⟩:=e0;have b0:J.cell? ⟨W.heap.size+1,0,none⟩=some (.bool false):=(m.cell (p:=⟨W.heap.size+1,0,none⟩) c2 d5).trans b9.out;have bz:∀o,J.frozen? ⟨W.heap.size+1,o,none⟩=false:=λo=>(m.frozen (p:=⟨W.heap.size+1,o,none⟩) c2 d5).trans (a6.out o);have f3:=qq (a7.out.ch m f1);have e4:=qq (c4.out.drop_new m (λj d=>.inr (by(try dsimp only at d);omega)));clear i m c1 b9 a6 c4 a7;gi_wp2;have L:=ch5 (rb:=W.heap.size) J (.int .i64 y.a0) (.int .i64 y.a1) (.bool y.a2) (.int .i64 y.a3) (.string ⟨y.a4.toArray⟩);have N:Ch (λj=>j=W.heap.size+1) _ _:=Ch.setCell (T:=λj=>j=W.heap.size+1) (((((J.setCell ⟨W.heap.size,0,none⟩ (.int .i64 y.a0)).setCell ⟨W.heap.size,1,none⟩ (.int .i64 y.a1)).setCell ⟨W.heap.size,2,none⟩ (.bool y.a2)).setCell ⟨W.heap.size,3,none⟩ (.int .i64 y.a3)).setCell ⟨W.heap.size,4,none⟩ (.string ⟨y.a4.toArray⟩)) (a:=⟨W.heap.size+1,0,none⟩) rfl (.bool true);have b5:=(L.cell (p:=⟨W.heap.size+1,0,none⟩) (ae b0) (λe=>P e.symm)).trans b0;refine⟨(L.mono (λj d=>.inl d)).trans (N.mono (λj d=>.inr d)),rfl,F.out,(f3.out.ch L U).ch N s,?_,af b5,(e4.out.drop_new L (λj d=>.inr (Nat.le_of_eq (show j=W.heap.size from d).symm))).drop_new N (λj d=>.inr (by rw[show j=W.heap.size+1 from d];omega))⟩;rw[f2.out];exact(e1.out.put y).ch N P
 case done =>
  rintro D W1 W2 A hD g c0⟨hv,d2,u⟩ w hK;have e:=l.out;have d8:=((b4.out.gr g).ch u (λe=>U e.symm)).ch w a8.out;have b1:A.cell? ⟨W.heap.size+1,0,none⟩=some (.bool false):=by
   have q1:=(u.cell (p:=⟨W.heap.size+1,0,none⟩) (show W.heap.size+1<W1.heap.size by omega) (λe=>s e.symm)).trans (g.cell Y.out);exact(w.cell (p:=⟨W.heap.size+1,0,none⟩) (ae q1) E.out).trans q1
  have bz:∀o,A.frozen? ⟨W.heap.size+1,o,none⟩=false:=λo=>by
   have q1:=(u.frozen (p:=⟨W.heap.size+1,o,none⟩) (show W.heap.size+1<W1.heap.size by omega) (λe=>s e.symm)).trans ((Below.frozen g (p:=⟨W.heap.size+1,o,none⟩) (show W.heap.size+1<w3.heap.size by omega)).trans (a5.out o));exact(w.frozen (p:=⟨W.heap.size+1,o,none⟩) (show W.heap.size+1<W2.heap.size by have:=u.size;omega) E.out).trans q1
  have kA:=qq (d2.ch w Z.out);have cA:=qq (((X.out.to_ch (λj=>j=b)).trans ((g.to_ch _).trans u)).drop_new w (λj d=>.inr (by(try dsimp only at d);omega)));have R:D≠W.heap.size:=by omega
  have S:D≠W.heap.size+1:=by omega
  have b8:¬(b=D):=by omega
  have b7:W.heap.size≤D:=by omega
  have d9:=qq d8;obtain⟨z0,z1,z2,z3,z4,zf⟩:=d8;have F:=qq hv;clear g c0 d2 u w e hv;gi_wp2;have L:=ch5 (rb:=W.heap.size) A (.int .i64 0) (.int .i64 0) (.bool false) (.int .i64 0) (.string ⟨#[]⟩);obtain⟨M,c3⟩:∃M,((((A.setCell ⟨W.heap.size,0,none⟩ (.int .i64 0)).setCell ⟨W.heap.size,1,none⟩ (.int .i64 0)).setCell ⟨W.heap.size,2,none⟩ (.bool false)).setCell ⟨W.heap.size,3,none⟩ (.int .i64 0)).setCell ⟨W.heap.size,4,none⟩ (.string ⟨#[]⟩)=M:=⟨_,rfl⟩;rw[c3]at L ⊢;have b5:=(L.cell (p:=⟨W.heap.size+1,0,none⟩) (ae b1) (λe=>P e.symm)).trans b1;have N:Ch (λj=>j=W.heap.size+1) M (M.setCell ⟨W.heap.size+1,0,none⟩ (.bool false)):=Ch.setCell (T:=λj=>j=W.heap.size+1) M (a:=⟨W.heap.size+1,0,none⟩) rfl _;have c6:=(c3▸d9.out.put ⟨0,0,false,0,[]⟩:EvC W.heap.size M ⟨0,0,false,0,[]⟩).ch N P;have e8:(M.setCell ⟨W.heap.size+1,0,none⟩ (.bool false)).heap[D]?=some (.deferred (some [])):=N.get (L.get hK R) S;have O:Ch (λj=>j=D) (M.setCell ⟨W.heap.size+1,0,none⟩ (.bool false)) ((M.setCell ⟨W.heap.size+1,0,none⟩ (.bool false)).putObj D (.deferred none)):=Ch.putObj (T:=λj=>j=D) _ rfl _;obtain⟨x0,x1,x2,x3,x4⟩:=c6.ch O (λe=>R e.symm);have x5:=(O.cell (p:=⟨W.heap.size+1,0,none⟩) (by rw[World.size_setCell];exact ae b5) (λe=>S e.symm)).trans (af (v:=.bool false) b5);refine⟨by simp,.inl ⟨_,_,rfl,run_takeDeferred e8,?_⟩⟩;refine⟨.tuple #[oO,.bool false],by simp[results,results96,go_sem,oO,x0,x1,x2,x3,x4,x5],?_,((kA.out.ch L U).ch N s).ch O b8,((cA.out.drop_new L (λj d=>.inr (Nat.le_of_eq (show j=W.heap.size from d).symm))).drop_new N (λj d=>.inr (by rw[show j=W.heap.size+1 from d];omega))).drop_new O (λj d=>.inr (by rw[show j=D from d];exact b7))⟩;cases ho:(az r).2 with
  | none=>rfl
  | some x=>have:=F.out;rw[ho]at this;cases this
 case stop =>
  rintro D c A hD⟨rfl,hv,d3,hC,hB,hc⟩ hK;have e:=l.out;have R:D≠W.heap.size:=by omega
  have S:D≠W.heap.size+1:=by omega
  have b8:¬(b=D):=by omega
  have b7:W.heap.size≤D:=by omega
  have O:Ch (λj=>j=D) A (A.putObj D (.deferred none)):=Ch.putObj (T:=λj=>j=D) _ rfl _;obtain⟨x0,x1,x2,x3,x4⟩:=hC.ch O (λe=>R e.symm);have x5:=(O.cell (p:=⟨W.heap.size+1,0,none⟩) (ae hB) (λe=>S e.symm)).trans hB;have d4:=qq d3;have e9:=qq hc;have F:=qq hv;clear d3 hc hC hB e hv;gi_wp2;refine⟨by simp,.inl ⟨_,_,rfl,run_takeDeferred hK,?_⟩⟩;refine⟨.tuple #[(evp (az r).2).V,.bool true],by simp[results,results96,go_sem,Evp.V,x0,x1,x2,x3,x4,x5],?_,d4.out.ch O b8,e9.out.drop_new O (λj d=>.inr (by rw[show j=D from d];exact b7))⟩;rw[gE,F.out]
theorem Fv:(prog.info? 147).map (·.size)=some 2:=by kernel_rfl
theorem wD:liesAt prog prog.depth 150 (11 / prog.cellsOf 150) 5 147 1=true:=by kernel_rfl
structure BdJ (b:Nat)(W:World)(l:List UInt8)(v:Value):Prop where
 ca:W.cell? ⟨b,5,none⟩=some (.pointer none)∨W.cell? ⟨b,5,none⟩=some (.pointer (some ⟨b,5,none⟩))
 cv:W.cell? ⟨b,6,none⟩=some v
 own:W.ownsRow 0 5 1 v l.length (am l)
 ne:v.ownBlock≠some b
 cp:∀a n c,v=.slice (some a) n c→c≠0
 sh:W.shape? b=some (150,11)
 fz:∀o,W.frozen? ⟨b,o,none⟩=false
theorem ob {b:Nat}{T:Nat→Prop}{W a:World}(e:Ch T W a)(c:¬T b)(d:b<W.heap.size):a.shape? b=W.shape? b:=by
 unfold World.shape?;rw[e.block b d c]
theorem eB {b c o:Nat}{W:World}{v:Value}:(W.setCell ⟨c,o,none⟩ v).shape? b=W.shape? b:=by
 unfold World.shape? World.setCell;by_cases h:c=b
 ·subst h;simp only[Array.getElem?_modify,if_true];cases W.heap[c]? with
  | none=>rfl
  | some o=>cases o <;> simp
 ·simp only[Array.getElem?_modify,if_neg h]
theorem BdJ.ch {b:Nat}{T:Nat→Prop}{W d:World}{l:List UInt8}{v:Value}(h:BdJ b W l v)(c:Ch T W d)(m:¬T b)(t:∀k,v.ownBlock=some k→¬T k):BdJ b d l v:=by
 have a:b<W.heap.size:=ae h.cv;have f:∀ {j u},W.cell? ⟨b,j,none⟩=some u→d.cell? ⟨b,j,none⟩=some u:=fun {j u} s=>(c.cell (p:=⟨b,j,none⟩) a m).trans s;refine⟨h.ca.imp f f,f h.cv,⟨h.own.1,?_⟩,h.ne,h.cp,(ob c m a).trans h.sh,λo=>(c.frozen (p:=⟨b,o,none⟩) a m).trans (h.fz o)⟩;rcases h.own.2 with e | ⟨g,cap,i,rfl,n,r,rest⟩
 ·exact .inl e
 ·exact .inr ⟨g,cap,i,rfl,n,c.get r (t g rfl),rest⟩
theorem BdJ.set {b o:Nat}{W:World}{l:List UInt8}{v u:Value}(h:BdJ b W l v)(d:o≠5)(m:o≠6):BdJ b (W.setCell ⟨b,o,none⟩ u) l v:=by
 refine⟨h.ca.imp (λe=>ac e (Ne.symm d)) (λe=>ac e (Ne.symm d)),ac h.cv (Ne.symm m),⟨h.own.1,?_⟩,h.ne,h.cp,eB.trans h.sh,λo=>by rw[ag];exact h.fz o⟩;rcases h.own.2 with e | ⟨g,cap,c,rfl,f,i,rest⟩
 ·exact .inl e
 ·refine .inr ⟨g,cap,c,rfl,f,(Ch.setCell (T:=λk=>k=b) W (a:=⟨b,o,none⟩) rfl u).get i (λe=>h.ne (by rw[show b=g from e.symm];rfl)),rest⟩
theorem wE {b:Nat}{W:World}{l:List UInt8}{v:Value}(h:BdJ b W l v) :
  Calls prog 143 #[.pointer (some ⟨b,5,none⟩)] W λe w'=>e=.returned (.tuple #[])∧(W.setCell ⟨b,5,none⟩ (.pointer (some ⟨b,5,none⟩))=w'∨(W=w'∧W.cell? ⟨b,5,none⟩=some (.pointer (some ⟨b,5,none⟩)))):=by
 obtain⟨j,c,d⟩:=Option.map_eq_some_iff.1 Fv;have a:=h.sh;have f:=h.fz 5;rcases h.ca with h0 | h0
 ·clear h;go_enter func143,ntmps143;go_wp2;rw[Lib.run_to_unsafe W ⟨b,5,none⟩ underlying145 underlying225 c (by rw[d];decide) a (show 5<11 by decide)];simp only[Result.andThen];rw[Oper.upon_value];go_wp2;rw[run_callFunc_extern func178 (by kernel_rfl) (by kernel_rfl) (by kernel_rfl) (e:=Extern.AbiNoEscape.same) (by kernel_rfl)];rw[Lib.run_noEscape];simp only[Result.andThen];rw[Oper.upon_value];go_wp2;rw[Lib.run_from_unsafe W ⟨b,5,none⟩ underlying225 underlying145 c a wD];simp only[Result.andThen];rw[Oper.upon_value];go_wp2;go_end0;exact⟨rfl,.inl rfl⟩
 ·clear h;go_enter func143,ntmps143;go_wp2;rw[Lib.run_neq_ptr_same W _ underlying145 c];go_wp2;go_end0;exact⟨rfl,.inr ⟨rfl,h0⟩⟩
def xS (v:Value):Prop:=∀a n c,v=.slice (some a) n c→c≠0
theorem oc {P:Program}(w:World)(t u A e:TypeId)(i:TypeInfo)(E:P.underlying t=some (.slice e))(F:P.underlying u=some .string)(hi:P.info? e=some i)(N:i.zero=some (.int .u8 0))(f:i.size=1)(o:i.bytes=1)
  (v:Value) (n:Nat) (xs:List Value) (h:w.ownsRow 0 e 1 v n xs) (s:ByteArray) (y:n+s.size≤maxLen) (l:n+s.size≤140737488355328) {B:Value} {w':World} (C:(Builtin.append_ #[t,u] A #[v,.string s]).run P w=.ok B w')
  (r:w'.ownsRow 0 e 1 B (n+s.size) (xs++Lib.strCells s)):(B.ownBlock=v.ownBlock∨B.ownBlock=some w.heap.size)∧(xS v→xS B):=by
 have D:n+s.size≤9223372036854775807:=by simp only[maxLen]at y;omega
 have M:xs.length=n:=by simpa using h.1
 have O:=h;rcases h.2 with⟨rfl,rfl⟩ | ⟨g,cap,m,rfl,I,R,L,J,z,x⟩
 ·by_cases hm:s.size=0
  ·rcases r.2 with⟨rfl,_⟩ | ⟨g,cap,m,rfl,I,R,L,J,z,x⟩
   ·exact⟨.inl rfl,λ_ a n c e=>by cases e⟩
   ·obtain⟨V,X,d,_,_,S⟩:=Lib.run_append_own_string (P:=P) w 0 t u A e i E F hi N f o _ 0 xs O s y l (qx _);have e1:=C.symm.trans d;injection e1 with e1 _;have e2:=S.2 ⟨rfl,hm⟩;rw[e2]at e1;cases e1
  ·have d:=run_append_nil_string (P:=P) w t u A e i (.int .u8 0) E F hi N s (by omega) (by omega) (by rw[o];omega);have e1:=C.symm.trans d;injection e1 with e1 _;rw[e1];refine⟨.inr rfl,λ_ a U c H=>?_⟩;injection H with _ _ e3;have:=grownCap_ge w s.size 0 e;omega
 ·by_cases k:n+s.size≤cap
  ·have d:=Lib.run_append_room_string (P:=P) w t u A e i E F hi f g n cap m R s k (by rw[show m.size=cap from by simpa using z];exact k);have e1:=C.symm.trans d;injection e1 with e1 _;rw[e1];refine⟨.inl rfl,λT a n c e=>?_⟩;injection e with _ _ e3;rw[←e3];exact T _ _ _ rfl
  ·have p:∀j u,xs[j]?=some u→w.cell? ((⟨g,0,none⟩:Addr).add j)=some u:=O.cells (g:=g) rfl;have d:=Lib.run_append_grow_string (P:=P) w t u A e i (.int .u8 0) E F hi N ⟨g,0,none⟩ n cap xs (by rw[f];simpa using M) p s (by omega) (by omega) (by rw[o];exact growslice_fits (by omega) (by omega));have e1:=C.symm.trans d;injection e1 with e1 _;rw[e1];refine⟨.inr rfl,λ_ a U c H=>?_⟩;injection H with _ e2 e3;have:=grownCap_ge w (n+s.size) cap e;omega
theorem kI {P:Program}{w:World}{ops:Array Oper}{rest:List Oper}{o:Oper}{a:Act}{Q:Exit→Act→World→Prop}(m:o.guard=none)(B x:Operand)(t u:TypeId)
  (E:o.op=.call { callee:=.builtin .append,args:=#[B,x],argTypes:=#[t,u] })
  (e:TypeId) (i:TypeInfo) (y:P.underlying t=some (.slice e)) (z:P.underlying u=some .string) (hi:P.info? e=some i) (A:i.zero=some (.int .u8 0)) (d:i.size=1) (l:i.bytes=1)
  (v:Value) (n:Nat) (xs:List Value) (hs:a.eval B=v) (f:w.ownsRow 0 e 1 v n xs) (s:ByteArray) (F:a.eval x=.string s) (k:n+s.size≤maxLen) (c:n+s.size≤140737488355328)
  (h:∀g w',w'.ownsRow 0 e 1 g (n+s.size) (xs++Lib.strCells s)→w.grownBy w' v.ownBlock→(g.ownBlock=v.ownBlock∨g.ownBlock=some w.heap.size)∧(xS v→xS g)→wpList P ops Q rest (a.put o.dst g) w'):wpList P ops Q (o :: rest) a w:=by
 refine wpList_plain m λK D=>?_;obtain⟨g,w',r,p,C,H⟩:=Lib.run_append_own_string (P:=P) w 0 t u o.type e i y z hi A d l v n xs f s k c (qx _);unfold Oper.wp execOp;simp only[E,resolve,invoke,builtin,Sem.run_bind,Sem.run_pure,Result.andThen_ok,List.map_toArray,List.map_cons,List.map_nil,hs,F,r];exact D _ _ (h g w' p C (oc w t u o.type e i y z hi A d l v n xs f s k c r p))
def Df (b:Nat)(l:List UInt8)(v:Value)(W W':World):Prop :=
 ∃v',BdJ b W' l v'∧Ch (λk=>k=b∨v.ownBlock=some k) W W'∧(∀g,v'.ownBlock=some g→v.ownBlock=some g∨W.heap.size≤g)∧∀o,o≠5→o≠6→W'.cell? ⟨b,o,none⟩=W.cell? ⟨b,o,none⟩
theorem wF {b:Nat}{W:World}{l s:List UInt8}{v:Value}(h:BdJ b W l v)(a0:l.length+s.length≤140737488355328) :
  Calls prog 115 #[.pointer (some ⟨b,5,none⟩),.string ⟨s.toArray⟩] W λe w'=>e=.returned (.tuple #[.int .i64 s.length,.nilIface])∧Df b (l++s) v W w':=by
 obtain⟨i0,hi,X,Y,Z⟩:=info_parts infoByte;have J:=qq (wE h);have n:=qq h;clear h;go_enter func115,ntmps115;go_wp2_with fail;refine(J.out).mono ?_;rintro e D⟨rfl,U⟩;have A:BdJ b D l v∧Ch (λk=>k=b) W D∧∀o,o≠5→D.cell? ⟨b,o,none⟩=W.cell? ⟨b,o,none⟩:=by
  rcases U with rfl | ⟨rfl,_⟩
  ·have hc:=Ch.setCell (T:=λk=>k=b) W (a:=⟨b,5,none⟩) rfl (.pointer (some ⟨b,5,none⟩));refine⟨⟨.inr ?_,ac n.out.cv (by decide),⟨n.out.own.1,?_⟩,n.out.ne,n.out.cp,eB.trans n.out.sh,λo=>by rw[ag];exact n.out.fz o⟩,hc,λo ho=>World.cell?_setCell_other _ _ _ _ (vy ho)⟩
   ·rcases n.out.ca with e | e <;> exact af e
   ·rcases n.out.own.2 with e | ⟨g,cap,z,rfl,q1,q2,rest⟩
    ·exact .inl e
    ·exact .inr ⟨g,cap,z,rfl,q1,hc.get q2 (λe=>n.out.ne (by rw[show b=g from e.symm];rfl)),rest⟩
  ·exact⟨n.out,Ch.refl _ _,λ_ _=>rfl⟩
 obtain⟨A,H,P⟩:=A;have f:=qq A;have x:=qq H;have R:=qq P;have c6:=A.cv;have y:=A.own;have E:=A.fz 6;have C:b<D.heap.size:=ae c6;clear U J A H P;go_wp2_with (at_builtin;refine kI rfl _ _ 100 9 rfl 5 i0 underlying100 underlying9 hi X Y Z _ _ _ rfl y ⟨s.toArray⟩ rfl ?c3 ?c4 ?_)
 case c3=>unfold maxLen;rw[aj];omega
 case c4=>rw[aj];omega
 intro v' t d m F L;have M:=qq (L f.out.cp);clear L;have r:Ch (λk=>v.ownBlock=some k) D t:=dx m;have i:¬(v.ownBlock=some b):=f.out.ne;have d6:t.cell? ⟨b,6,none⟩=some v:=(r.cell (p:=⟨b,6,none⟩) C i).trans c6;have dz:t.frozen? ⟨b,6,none⟩=false:=(r.frozen (p:=⟨b,6,none⟩) C i).trans E;have a1:b<t.heap.size:=ae d6;obtain⟨V,cv,rfl⟩:=aJ d;have B:=qq d;have c:=qq r;have w:=qq F;clear y d m F r c6 E;go_wp2;go_ret2;have S:t.ownsRow 0 5 1 (.slice V (l.length+s.length) cv) (l++s).length (am (l++s)):=by
  have e:=B.out;rw[lT,←gK]at e;rw[qw];exact e
 have O:(Value.slice V (l.length+s.length) cv).ownBlock≠some b:=by
  rcases w.out with e | e
  ·rw[e];exact f.out.ne
  ·rw[e];intro e2;injection e2 with e2;omega
 have I:Ch (λk=>k=b) t (t.setCell ⟨b,6,none⟩ (.slice V (l.length+s.length) cv)):=Ch.setCell (T:=λk=>k=b) t (a:=⟨b,6,none⟩) rfl _;refine⟨rfl,.slice V (l.length+s.length) cv,⟨?_,af d6,⟨S.1,?_⟩,O,M.out,?_,λo=>?_⟩,?_,?_,λo h5 h6=>?_⟩
 ·have cc:∀ {u},D.cell? ⟨b,5,none⟩=some u→(t.setCell ⟨b,6,none⟩ (.slice V (l.length+s.length) cv)).cell? ⟨b,5,none⟩=some u:=fun {u} hh=>ac ((c.out.cell (p:=⟨b,5,none⟩) C i).trans hh) (by decide);exact f.out.ca.imp cc cc
 ·rcases S.2 with e | ⟨g,cap,z,e,q1,q2,rest⟩
  ·exact .inl e
  ·exact .inr ⟨g,cap,z,e,q1,I.get q2 (λe2=>O (by rw[e];show some g=some b;rw[show g=b from e2])),rest⟩
 ·rw[eB,ob c.out i C];exact f.out.sh
 ·rw[ag];exact(c.out.frozen (p:=⟨b,o,none⟩) C i).trans (f.out.fz o)
 ·exact((x.out.mono (λ_ e=>.inl e)).trans (c.out.mono (λ_ e=>.inr e))).trans (I.mono (λ_ e=>.inl e))
 ·intro g N;rcases w.out with e | e
  ·exact .inl (e▸N)
  ·rw[e]at N;injection N with N;subst N;exact .inr x.out.size
 ·exact(World.cell?_setCell_other _ _ _ _ (vy h6)).trans ((c.out.cell (p:=⟨b,o,none⟩) C i).trans (R.out o h5))
theorem cellsByte:prog.cellsOf 5=1:=by kernel_rfl
theorem Ch.freeze {T:Nat→Prop}(w:World){a:Addr}(c:T a.block)(n:Nat):Ch T w (w.freeze a n):=by
 unfold World.freeze;split
 ·exact Ch.refl T w
 ·exact⟨rfl,rfl,rfl,by simp,λk _ hn=>by
   simp only[Array.getElem?_modify];rw[if_neg (λe:a.block=k=>hn (by rw[←e];exact c))]⟩
def Fw (v:Value)(l:List UInt8)(p:Option Addr)(W':World):Prop :=
 (Builtin.unsafeSliceData_ #[100] 198 #[v]).run prog W'=.ok (.pointer p) W' ∧
 ∃w2,(Builtin.unsafeString_ #[198,3] 9 #[.pointer p,.int .i64 l.length]).run prog W'=.ok (.string ⟨l.toArray⟩) w2∧Ch (λk=>v.ownBlock=some k) W' w2
theorem Aq {b:Nat}{W:World}{l:List UInt8}{v:Value}(h:BdJ b W l v):∃p,∀c,Gr W c→Fw v l p c:=by
 have d:=h.own;rcases d.2 with⟨rfl,h0⟩ | ⟨g,cap,f,rfl,t,s,w,m,u,o⟩
 ·have hl:l=[]:=List.eq_nil_of_length_eq_zero h0;subst hl;exact⟨none,λc _=>⟨rfl,c,Lib.run_unsafeString_none c _ _ _ _,Ch.refl _ _⟩⟩
 ·have i:cap≠0:=h.cp _ _ _ rfl;refine⟨some ⟨g,0,none⟩,λc r=>⟨Lib.run_unsafeSliceData_row _ _ _ _ _ _ i,?_⟩⟩;by_cases hl:l=[]
  ·subst hl;exact⟨c,Lib.run_unsafeString_none c _ _ _ _,Ch.refl _ _⟩
  ·refine⟨_,Lib.run_unsafeString_row c 198 3 9 5 underlying198 cellsByte g f.size ?_ l hl ?_ ?_ ?_,Ch.freeze (T:=λk=>some g=some k) (a:=⟨g,0,none⟩) _ rfl _⟩
   ·have n:c.heap[g]?=some (.cells f 5 (0,0)):=(r.block g (Array.getElem?_eq_some_iff.1 s).1).trans s;simp[World.shape?,n]
   ·omega
   ·unfold maxLen at m;omega
   ·intro j x y;have e:=d.cells (g:=g) rfl j (.int .u8 x.toNat) (by simp[am,y]);exact(r.cell e)
theorem mb {b:Nat}{W:World}{l:List UInt8}{v:Value}(h:BdJ b W l v) :
  Calls prog 118 #[.pointer (some ⟨b,5,none⟩)] W λe w'=>e=.returned (.string ⟨l.toArray⟩)∧Ch (λk=>v.ownBlock=some k) W w':=by
 obtain⟨i,cv,rfl⟩:=aJ h.own;obtain⟨p,f⟩:=Aq h;have c1:=h.cv;have n:∀x:Later (Gr W),x.w.cell? ⟨b,6,none⟩=some (.slice i l.length cv):=λx=>x.ok.cell c1;have o:∀x:Later (Gr W),(Builtin.unsafeSliceData_ #[100] 198 #[.slice i l.length cv]).run prog x.w=.ok (.pointer p) x.w:=λx=>(f x.w x.ok).1;have g:=qq f;clear h f c1;go_enter func118,ntmps118;haveI:Nonempty (Later (Gr W)):=⟨⟨W,Gr.refl W⟩⟩;go_upto_region 1 with(fail);refine ak (C:=Gr W) 10 (by kernel_rfl) (by kernel_rfl) (Gr.drew' _) ?_;simp only[List.take_succ_cons,List.take_zero,List.drop_succ_cons,List.drop_zero];repeat (go_big_quiet_step (fail))
 refine wpQuiet_nil ?_;intro r c;obtain⟨_,s,m,a⟩:=g.out r c;have d:=qq ((c.to_ch _).trans a);clear n o a;go_wp2;go_ret;exact⟨rfl,d.out⟩
theorem oe {b:Nat}{W:World}{v:Value}(a:(W.cell? ⟨b,5,none⟩).isSome)(f:W.cell? ⟨b,6,none⟩=some v)(hf:∀o,W.frozen? ⟨b,o,none⟩=false) :
  Calls prog 188 #[.pointer (some ⟨b,5,none⟩)] W λe w'=>e=.returned (.tuple #[])∧(W.setCell ⟨b,5,none⟩ (.pointer none)).setCell ⟨b,6,none⟩ (.slice none 0 0)=w':=by
 obtain⟨u,g⟩:=Option.isSome_iff_exists.1 a;have c:=hf 5;have d:=hf 6;clear hf a;go_enter func188,ntmps188;go_wp2;go_end0;exact⟨rfl,rfl⟩
structure JnS (b:Nat)(W:World)(j:Jn)(v:Value)(q:Option Nat):Prop where
 c0:W.cell? ⟨b,0,none⟩=some (.int .i64 j.limit)
 c1:W.cell? ⟨b,1,none⟩=some (.bool true)
 c2:W.cell? ⟨b,2,none⟩=some (.int .i64 j.bad)
 c3:W.cell? ⟨b,3,none⟩=some (.int .i64 j.op)
 c4:W.cell? ⟨b,4,none⟩=some (.int .i64 j.sum)
 bd:BdJ b W j.text v
 c7:W.cell? ⟨b,7,none⟩=some (.pointer (q.map λc=>⟨c,0,none⟩))
 ck:∀c,q=some c→UkAt c W j.check∧c≠b∧v.ownBlock≠some c
 c8:W.cell? ⟨b,8,none⟩=some (.bool j.begun)
 c9:W.cell? ⟨b,9,none⟩=some (.bool j.last)
 c10:W.cell? ⟨b,10,none⟩=some (.int .i64 j.lacks)
theorem JnS.lt {b:Nat}{W:World}{j:Jn}{v:Value}{q:Option Nat}(k:JnS b W j v q):b<W.heap.size:=ae k.c0
theorem JnS.ch {b:Nat}{T:Nat→Prop}{W d:World}{j:Jn}{v:Value}{q:Option Nat}(k:JnS b W j v q)(f:Ch T W d)(g:¬T b)(m:∀i,v.ownBlock=some i→¬T i)(l:∀i,q=some i→¬T i):JnS b d j v q :=
 have a:∀ {i u},W.cell? ⟨b,i,none⟩=some u→d.cell? ⟨b,i,none⟩=some u:=fun {i u} h=>(f.cell (p:=⟨b,i,none⟩) (ae h) g).trans h
 ⟨a k.c0,a k.c1,a k.c2,a k.c3,a k.c4,k.bd.ch f g m,a k.c7,λc e=>⟨(k.ck c e).1.ch f (l c e),(k.ck c e).2⟩,a k.c8,a k.c9,a k.c10⟩
theorem JnS.gr {b:Nat}{W a:World}{j:Jn}{v:Value}{q:Option Nat}(k:JnS b W j v q)(g:Gr W a):JnS b a j v q:=k.ch (g.to_ch (λ_=>False)) id (λ_ _=>id) (λ_ _=>id)
section
variable {b:Nat} {W:World} {j:Jn} {v:Value} {q:Option Nat}
theorem JnS.ck' (k:JnS b W j v q)(o:Nat)(u:Value):∀c,q=some c→UkAt c (W.setCell ⟨b,o,none⟩ u) j.check∧c≠b∧v.ownBlock≠some c :=
 λc e=>⟨(k.ck c e).1.ch (Ch.setCell (T:=λi=>i=b) W (a:=⟨b,o,none⟩) rfl u) (k.ck c e).2.1,(k.ck c e).2⟩
theorem JnS.setBad (k:JnS b W j v q)(n:Nat):JnS b (W.setCell ⟨b,2,none⟩ (.int .i64 n)) { j with bad:=n } v q :=
 ⟨ac k.c0 (by decide),ac k.c1 (by decide),af k.c2,ac k.c3 (by decide),ac k.c4 (by decide),k.bd.set (by decide) (by decide),ac k.c7 (by decide),k.ck' _ _,ac k.c8 (by decide),ac k.c9 (by decide),ac k.c10 (by decide)⟩
theorem JnS.setOp (k:JnS b W j v q)(n:Nat):JnS b (W.setCell ⟨b,3,none⟩ (.int .i64 n)) { j with op:=n } v q :=
 ⟨ac k.c0 (by decide),ac k.c1 (by decide),ac k.c2 (by decide),af k.c3,ac k.c4 (by decide),k.bd.set (by decide) (by decide),ac k.c7 (by decide),k.ck' _ _,ac k.c8 (by decide),ac k.c9 (by decide),ac k.c10 (by decide)⟩
theorem JnS.setSum (k:JnS b W j v q)(n:Nat):JnS b (W.setCell ⟨b,4,none⟩ (.int .i64 n)) { j with sum:=n } v q :=
 ⟨ac k.c0 (by decide),ac k.c1 (by decide),ac k.c2 (by decide),ac k.c3 (by decide),af k.c4,k.bd.set (by decide) (by decide),ac k.c7 (by decide),k.ck' _ _,ac k.c8 (by decide),ac k.c9 (by decide),ac k.c10 (by decide)⟩
theorem JnS.setBegun (k:JnS b W j v q)(n:Bool):JnS b (W.setCell ⟨b,8,none⟩ (.bool n)) { j with begun:=n } v q :=
 ⟨ac k.c0 (by decide),ac k.c1 (by decide),ac k.c2 (by decide),ac k.c3 (by decide),ac k.c4 (by decide),k.bd.set (by decide) (by decide),ac k.c7 (by decide),k.ck' _ _,af k.c8,ac k.c9 (by decide),ac k.c10 (by decide)⟩
theorem JnS.setLast (k:JnS b W j v q)(n:Bool):JnS b (W.setCell ⟨b,9,none⟩ (.bool n)) { j with last:=n } v q :=
 ⟨ac k.c0 (by decide),ac k.c1 (by decide),ac k.c2 (by decide),ac k.c3 (by decide),ac k.c4 (by decide),k.bd.set (by decide) (by decide),ac k.c7 (by decide),k.ck' _ _,ac k.c8 (by decide),af k.c9,ac k.c10 (by decide)⟩
theorem JnS.setLacks (k:JnS b W j v q)(n:Nat):JnS b (W.setCell ⟨b,10,none⟩ (.int .i64 n)) { j with lacks:=n } v q :=
 ⟨ac k.c0 (by decide),ac k.c1 (by decide),ac k.c2 (by decide),ac k.c3 (by decide),ac k.c4 (by decide),k.bd.set (by decide) (by decide),ac k.c7 (by decide),k.ck' _ _,ac k.c8 (by decide),ac k.c9 (by decide),af k.c10⟩
theorem JnS.setCheck (k:JnS b W j v q){c:Nat}{u:Uk}(f:UkAt c W u)(d:c≠b)(g:v.ownBlock≠some c):JnS b (W.setCell ⟨b,7,none⟩ (.pointer (some ⟨c,0,none⟩))) { j with check:=u } v (some c) :=
 ⟨ac k.c0 (by decide),ac k.c1 (by decide),ac k.c2 (by decide),ac k.c3 (by decide),ac k.c4 (by decide),k.bd.set (by decide) (by decide),af k.c7,λc' e=>by cases e;exact⟨f.ch (Ch.setCell (T:=λi=>i=b) W (a:=⟨b,7,none⟩) rfl _) d,d,g⟩,ac k.c8 (by decide),ac k.c9 (by decide),ac k.c10 (by decide)⟩
end
def iI (j:Jn):Prop:=j.limit≤1099511627776∧j.sum≤j.limit∧j.text.length≤j.sum∧j.lacks≤j.limit∧(j.begun=true→j.text.length+j.lacks≤j.sum)∧j.bad≤1009∧j.op≤2
theorem Fx {n:Nat}(h:n≤1099511627776):iI (jn0 n):=⟨h,qx _,qv _,qx _,λe=>(by cases e),qx _,qx _⟩
theorem fk {j:Jn}(h:iI j){c:Nat}(a:c≤1009):iI (aF j c):=by
 unfold aF;split
 ·exact⟨h.1,h.2.1,h.2.2.1,h.2.2.2.1,h.2.2.2.2.1,a,h.2.2.2.2.2.2⟩
 ·exact h
theorem bY {b:Nat}{W:World}{j:Jn}{v:Value}{q:Option Nat}(k:JnS b W j v q) :
  Calls prog 183 #[.pointer (some ⟨b,0,none⟩)] W λe w'=>e=.returned (.bool false)∧W=w':=by
 have c1:=k.c1;clear k;go_enter func183,ntmps183;go_wp2;go_ret;exact⟨rfl,rfl⟩
theorem dH {b:Nat}{W:World}{j:Jn}{v:Value}{q:Option Nat}(k:JnS b W j v q)(c:Nat) :
  Calls prog 184 #[.pointer (some ⟨b,0,none⟩),.int .i64 c] W λe w'=>e=.returned (.int .i64 (aF j c).bad)∧JnS b w' (aF j c) v q∧Ch (λi=>i=b) W w':=by
 have c2:=k.c2;have fz:=k.bd.fz;have f:=qq k;clear k;by_cases h:j.bad=0
 ·have d:=qq (show aF j c={ j with bad:=c } by unfold aF;rw[if_pos h]);rw[h]at c2;go_enter func184,ntmps184;go_wp2;go_ret;rw[d.out];exact⟨rfl,f.out.setBad c,Ch.setCell (T:=λi=>i=b) _ (a:=⟨b,2,none⟩) rfl _⟩
 ·have d:=qq (show aF j c=j by unfold aF;rw[if_neg h]);have g:((j.bad:Int)==0)=false:=qk.2 (by omega);clear h;go_enter func184,ntmps184;go_wp2;go_ret;rw[d.out];exact⟨rfl,f.out,Ch.refl _ _⟩
theorem Dg (W:World)(n:Nat)(hn:n≤1099511627776):Calls prog 64 #[.int .i64 n] W λe w'=>e=.returned (.tuple #[.pointer (some ⟨W.heap.size,0,none⟩),.int .i64 0])∧JnS W.heap.size w' (jn0 n) (.slice none 0 0) none∧Gr W w'∧w'.heap.size=W.heap.size+1:=by
 have d:((n:Int)<0)=False:=by simp
 have f:((1099511627776:Int)<n)=False:=by simp;omega
 go_enter func64,ntmps64;go_wp2;go_ret2;refine⟨rfl,⟨aa _ _ _ 0 _ rfl,aa _ _ _ 1 _ rfl,aa _ _ _ 2 _ rfl,aa _ _ _ 3 _ rfl,aa _ _ _ 4 _ rfl,⟨.inl (aa _ _ _ 5 _ rfl),aa _ _ _ 6 _ rfl,⟨rfl,.inl ⟨rfl,rfl⟩⟩,(by intro e;cases e),(by intro a n c e;cases e),?_,λ_=>World.frozen?_alloc_at _ _ _ _ rfl⟩,aa _ _ _ 7 _ rfl,(by intro c e;cases e),aa _ _ _ 8 _ rfl,aa _ _ _ 9 _ rfl,aa _ _ _ 10 _ rfl⟩,Gr.alloc _ _,by simp⟩;unfold World.shape? World.alloc;rw[show(W.heap.push _)[W.heap.size]?=_ from Array.getElem?_push_size];rfl
