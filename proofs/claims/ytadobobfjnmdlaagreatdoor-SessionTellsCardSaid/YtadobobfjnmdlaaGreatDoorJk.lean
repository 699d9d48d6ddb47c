/-
  A socket in memory: what is told of a control frame.
-/
import Derived.Test.YtadobobfjnmdlaaGreatDoorJg
set_option linter.unnecessarySimpa false
set_option linter.unusedVariables false
set_option linter.unusedSimpArgs false
set_option maxHeartbeats 16000000
set_option maxRecDepth 100000
open Go.Proofs.Tryz
namespace Go.Proofs.YtadobobfjnmdlaaGreatDoor
open Go.RowKit Go.Shelf
attribute [local go_sem] Oper.semAt_some
def il (b R J:Nat)(TJ:Nat→Prop)(W:World)(x:Wn×Option Wev)(e:Ending)(W':World):Prop :=
 e=.returned (.tuple #[bn 0 x.2,.bool x.2.isSome])∧WnS b R J TJ W' x.1∧Ch (λi=>i=b) W W'
section
variable {b R J:Nat} {TJ:Nat→Prop} {W:World} {c:Wn}
abbrev wc0 (W:World)(kk o:Int)(f:Bool)(n:Int)(t:List UInt8):World:=(W.alloc (.cells #[.int .i64 kk,.int .i64 o,.bool f,.int .i64 n,.string ⟨t.toArray⟩] 159)).alloc (.cells #[.int .i64 0,.int .i64 0,.int .i64 0,.string ⟨#[]⟩] 129)
structure Wc0 (b R J:Nat)(TJ:Nat→Prop)(W:World)(c:Wn)(kk o:Int)(f:Bool)(n:Int)(t:List UInt8)(W0:World)(M:Nat):Prop where
 g:Gr W W0
 hM:W.heap.size+1=M
 k:WnS b R J TJ W0 c
 e0:W0.cell? ⟨W.heap.size,0,none⟩=some (.int .i64 kk)
 e1:W0.cell? ⟨W.heap.size,1,none⟩=some (.int .i64 o)
 e2:W0.cell? ⟨W.heap.size,2,none⟩=some (.bool f)
 e3:W0.cell? ⟨W.heap.size,3,none⟩=some (.int .i64 n)
 e4:W0.cell? ⟨W.heap.size,4,none⟩=some (.string ⟨t.toArray⟩)
 m0:W0.cell? ⟨M,0,none⟩=some (.int .i64 0)
 m1:W0.cell? ⟨M,1,none⟩=some (.int .i64 0)
 m2:W0.cell? ⟨M,2,none⟩=some (.int .i64 0)
 m3:W0.cell? ⟨M,3,none⟩=some (.string ⟨#[]⟩)
 mz:∀o,W0.frozen? ⟨M,o,none⟩=false
theorem fy (k:WnS b R J TJ W c)(d o:Int)(f:Bool)(n:Int)(t:List UInt8):Wc0 b R J TJ W c d o f n t (wc0 W d o f n t) (W.heap.size+1):=by
 have hs:(W.alloc (.cells #[.int .i64 d,.int .i64 o,.bool f,.int .i64 n,.string ⟨t.toArray⟩] 159)).heap.size=W.heap.size+1:=by simp
 have e:Gr W (W.alloc (.cells #[.int .i64 d,.int .i64 o,.bool f,.int .i64 n,.string ⟨t.toArray⟩] 159)):=Gr.alloc W _;have a:Gr (W.alloc (.cells #[.int .i64 d,.int .i64 o,.bool f,.int .i64 n,.string ⟨t.toArray⟩] 159)) (wc0 W d o f n t):=Gr.alloc _ _;exact⟨e.trans a,rfl,k.gr (e.trans a),a.cell (aa _ _ _ 0 _ rfl),a.cell (aa _ _ _ 1 _ rfl),a.cell (aa _ _ _ 2 _ rfl),a.cell (aa _ _ _ 3 _ rfl),a.cell (aa _ _ _ 4 _ rfl),
  hs▸aa _ _ _ 0 _ rfl,hs▸aa _ _ _ 1 _ rfl,hs▸aa _ _ _ 2 _ rfl,hs▸aa _ _ _ 3 _ rfl,λ_=>World.frozen?_alloc_at _ _ _ _ hs.symm⟩
theorem WnS.tells {W0 a w':World}{c':Wn}{M:Nat}(k:WnS b R J TJ W c)(g:Gr W W0)(hM:W.heap.size+1=M)(h:WnS b R J TJ a c')(f:Ch (λi=>i=b) W0 a)(d:Ch (λi=>i=M) a w'):WnS b R J TJ w' c'∧Ch (λi=>i=b) W w':=by
 have m:=k.lt;have l:=k.r.lt;refine⟨h.ch d (by omega) (by omega) (λi e e2=>?_),((g.to_ch _).trans f).drop_new d (λi e=>.inr (by rw[e];omega))⟩;have:=(cZ J).lt k.j i e;omega
theorem uP (k:WnS b R J TJ W c)(s:List UInt8)(hs:c.data.length+s.length≤4611686018427387900) :
  Calls prog 122 #[.pointer (some ⟨b,0,none⟩),(Fev.piece s).V] W (il b R J TJ W (bh c (.piece s))):=by
 obtain⟨W0,f⟩:∃W0,wc0 W 2 0 false 0 s=W0:=⟨_,rfl⟩;obtain⟨M,hM⟩:∃M,W.heap.size+1=M:=⟨_,rfl⟩;have z:=fy k 2 0 false 0 s;rw[f,hM]at z;have z':=qq z;have e0:=z.e0;have e4:=z.e4;have m0:=z.m0;have m1:=z.m1;have m2:=z.m2;have m3:=z.m3;have mz:=z.mz;have c2:=z.k.c2;have c3:=z.k.c3;have c4:=z.k.c4;have fz:=z.k.fz;have h:=k.lt;have d:b≠M:=by omega
 have n:b≠W.heap.size:=by omega
 have o:b<W0.heap.size:=z.k.lt;have m:M<W0.heap.size:=ae m0;have l:W.heap.size<W0.heap.size:=ae e0;have p:=qq k;have e:=qq hM;clear k h z;have j:(⟨c.data.toArray⟩:ByteArray)++(⟨s.toArray⟩:ByteArray)=⟨(c.data++s).toArray⟩:=aL _ _;unfold Fev.V;go_enter func122,ntmps122;go_upto_region 2 with(fail);clear c2 c3 m0 m1 m2 m3 mz e0;go_big_region;have m0:=z'.out.m0;have m1:=z'.out.m1;have m2:=z'.out.m2;have m3:=z'.out.m3;have mz:=z'.out.mz;go_wp2;refine bodyPost_ret (v:=.tuple #[bn 0 none,.bool false]) (by simp[results,results122,go_sem,bn,m0,m1,m2,m3,d,Ne.symm d]) rfl ?_;exact⟨rfl,p.out.tells z'.out.g e.out ((z'.out.k.setData (c.data++s)).gr (Gr.drew' _)) ((Ch.setCell (T:=λi=>i=b) W0 (a:=⟨b,4,none⟩) rfl _).trans (Ch.drew _ _)) ((((Ch.setCell (T:=λi=>i=M) _ (a:=⟨M,0,none⟩) rfl _).trans (Ch.setCell (T:=λi=>i=M) _ (a:=⟨M,1,none⟩) rfl _)).trans (Ch.setCell (T:=λi=>i=M) _ (a:=⟨M,2,none⟩) rfl _)).trans (Ch.setCell (T:=λi=>i=M) _ (a:=⟨M,3,none⟩) rfl _))⟩
theorem yO (k:WnS b R J TJ W c)(h o:Int)(f:Bool)(n:Int)(t:List UInt8)(x:(h==2)=false)(p:c.control=9)(e:c.st=1) :
  Calls prog 122 #[.pointer (some ⟨b,0,none⟩),.agg #[.int .i64 h,.int .i64 o,.bool f,.int .i64 n,.string ⟨t.toArray⟩]] W (il b R J TJ W ({ c with control:=0 },some (.ping c.data))):=by
 obtain⟨W0,l⟩:∃W0,wc0 W h o f n t=W0:=⟨_,rfl⟩;obtain⟨M,hM⟩:∃M,W.heap.size+1=M:=⟨_,rfl⟩;have z:=fy k h o f n t;rw[l,hM]at z;have z':=qq z;have e0:=z.e0;have e4:=z.e4;have m0:=z.m0;have m1:=z.m1;have m2:=z.m2;have m3:=z.m3;have mz:=z.mz;have c2:=z.k.c2;have c3:=z.k.c3;have c4:=z.k.c4;have fz:=z.k.fz;have m:=k.lt;have d:b≠M:=by omega
 have s:b≠W.heap.size:=by omega
 have u:b<W0.heap.size:=z.k.lt;have r:M<W0.heap.size:=ae m0;have q:W.heap.size<W0.heap.size:=ae e0;have w:=qq k;have j:=qq hM;clear k m z;rw[p]at c3;rw[e]at c2;clear p e;go_enter func122,ntmps122;go_wp2;refine bodyPost_ret (v:=.tuple #[bn 0 (some (.ping c.data)),.bool true]) (by simp[results,results122,go_sem,bn,m0,m1,m2,m3,d,Ne.symm d]) rfl ?_;exact⟨rfl,w.out.tells z'.out.g j.out (z'.out.k.setControl 0) (Ch.setCell (T:=λi=>i=b) W0 (a:=⟨b,3,none⟩) rfl _) ((((Ch.setCell (T:=λi=>i=M) _ (a:=⟨M,0,none⟩) rfl _).trans (Ch.setCell (T:=λi=>i=M) _ (a:=⟨M,1,none⟩) rfl _)).trans (Ch.setCell (T:=λi=>i=M) _ (a:=⟨M,2,none⟩) rfl _)).trans (Ch.setCell (T:=λi=>i=M) _ (a:=⟨M,3,none⟩) rfl _))⟩
theorem yP (k:WnS b R J TJ W c)(j o:Int)(f:Bool)(n:Int)(t:List UInt8)(C:(j==2)=false)(q:c.control≠8)(r:¬(c.control=9∧c.st=1)) :
  Calls prog 122 #[.pointer (some ⟨b,0,none⟩),.agg #[.int .i64 j,.int .i64 o,.bool f,.int .i64 n,.string ⟨t.toArray⟩]] W (il b R J TJ W ({ c with control:=0 },none)):=by
 obtain⟨W0,m⟩:∃W0,wc0 W j o f n t=W0:=⟨_,rfl⟩;obtain⟨M,hM⟩:∃M,W.heap.size+1=M:=⟨_,rfl⟩;have z:=fy k j o f n t;rw[m,hM]at z;have z':=qq z;have e0:=z.e0;have e4:=z.e4;have m0:=z.m0;have m1:=z.m1;have m2:=z.m2;have m3:=z.m3;have mz:=z.mz;have c2:=z.k.c2;have c3:=z.k.c3;have c4:=z.k.c4;have fz:=z.k.fz;have p:=k.lt;have d:b≠M:=by omega
 have w:b≠W.heap.size:=by omega
 have x:b<W0.heap.size:=z.k.lt;have u:M<W0.heap.size:=ae m0;have s:W.heap.size<W0.heap.size:=ae e0;have A:=qq k;have l:=qq hM;clear k p z;have B:((c.control:Int)==8)=false:=qk.2 (by omega);have e:=qq (λ(w':World)=>A.out.tells (w':=w') z'.out.g l.out (z'.out.k.setControl 0) (Ch.setCell (T:=λi=>i=b) W0 (a:=⟨b,3,none⟩) rfl _));by_cases h:c.control=9
 ·have y:((c.st:Int)==1)=false:=qk.2 (by omega);rw[h]at c3;clear h q r B;go_enter func122,ntmps122;go_wp2;refine bodyPost_ret (v:=.tuple #[bn 0 none,.bool false]) (by simp[results,results122,go_sem,bn,m0,m1,m2,m3,d,Ne.symm d]) rfl ?_;exact⟨rfl,e.out _ ((((Ch.setCell (T:=λi=>i=M) _ (a:=⟨M,0,none⟩) rfl _).trans (Ch.setCell (T:=λi=>i=M) _ (a:=⟨M,1,none⟩) rfl _)).trans (Ch.setCell (T:=λi=>i=M) _ (a:=⟨M,2,none⟩) rfl _)).trans (Ch.setCell (T:=λi=>i=M) _ (a:=⟨M,3,none⟩) rfl _))⟩
 have D:((c.control:Int)==9)=false:=qk.2 (by omega);clear h q r;go_enter func122,ntmps122;go_wp2;refine bodyPost_ret (v:=.tuple #[bn 0 none,.bool false]) (by simp[results,results122,go_sem,bn,m0,m1,m2,m3,d,Ne.symm d]) rfl ?_;exact⟨rfl,e.out _ ((((Ch.setCell (T:=λi=>i=M) _ (a:=⟨M,0,none⟩) rfl _).trans (Ch.setCell (T:=λi=>i=M) _ (a:=⟨M,1,none⟩) rfl _)).trans (Ch.setCell (T:=λi=>i=M) _ (a:=⟨M,2,none⟩) rfl _)).trans (Ch.setCell (T:=λi=>i=M) _ (a:=⟨M,3,none⟩) rfl _))⟩
end
section
variable {b R J:Nat} {TJ:Nat→Prop} {W:World} {c:Wn}
theorem yQ (k:WnS b R J TJ W c)(u o:Int)(f:Bool)(n:Int)(t:List UInt8)(X:(u==2)=false)(F:c.control=8)(U:c.data.length≤4611686018427387900)(P:(dg c.data).2≠0) :
  Calls prog 122 #[.pointer (some ⟨b,0,none⟩),.agg #[.int .i64 u,.int .i64 o,.bool f,.int .i64 n,.string ⟨t.toArray⟩]] W (il b R J TJ W (cR { c with control:=0 } (dg c.data).2)):=by
 obtain⟨W0,B⟩:∃W0,wc0 W u o f n t=W0:=⟨_,rfl⟩;obtain⟨M,hM⟩:∃M,W.heap.size+1=M:=⟨_,rfl⟩;have z:=fy k u o f n t;rw[B,hM]at z;have z':=qq z;have e0:=z.e0;have e4:=z.e4;have m0:=z.m0;have m1:=z.m1;have m2:=z.m2;have m3:=z.m3;have mz:=z.mz;have c2:=z.k.c2;have c3:=z.k.c3;have c4:=z.k.c4;have fz:=z.k.fz;have E:=k.lt;have A:b≠M:=by omega
 have S:b≠W.heap.size:=by omega
 have C:b<W0.heap.size:=z.k.lt;have d:M<W0.heap.size:=ae m0;have x:W.heap.size<W0.heap.size:=ae e0;have V:=qq k;have y:=qq hM;clear k E z;rw[F]at c3;have Y:(((dg c.data).2:Int) != 0)=true:=bne_iff_ne.2 (by omega);clear F P;go_enter func122,ntmps122;obtain⟨l,j⟩:∃l,W0.setCell ⟨b,3,none⟩ (.int .i64 0)=l:=⟨_,rfl⟩;have H:=qq (show WnS b R J TJ l { c with control:=0 }from j▸z'.out.k.setControl 0);have L:=qq (show Ch (λi=>i=b) W0 l from j▸Ch.setCell (T:=λi=>i=b) W0 (a:=⟨b,3,none⟩) rfl _);have D:=qq (pR c.data l U);have N:l.cell? ⟨b,4,none⟩=some (.string ⟨c.data.toArray⟩):=H.out.c4;go_wp2_with fail;refine D.out.mono ?_;rintro e w1⟨⟨Z,rfl⟩,w⟩;have hf:=qq (fx (H.out.gr w) (dg c.data).2);go_wp2_with fail;refine hf.out.mono ?_;rintro e I⟨rfl,r,q⟩;unfold bn;have h:¬(M=b):=λe=>A e.symm;have m:=qq ((L.out.trans (w.to_ch _)).trans q);replace m0:=(m.out.cell (p:=⟨M,0,none⟩) d h).trans m0;replace m1:=(m.out.cell (p:=⟨M,1,none⟩) d h).trans m1;replace m2:=(m.out.cell (p:=⟨M,2,none⟩) d h).trans m2;replace m3:=(m.out.cell (p:=⟨M,3,none⟩) d h).trans m3;replace mz:∀o,I.frozen? ⟨M,o,none⟩=false:=λo=>(m.out.frozen (p:=⟨M,o,none⟩) d h).trans (mz o);have O:M<I.heap.size:=ae m0;have s:=qq r;clear q r d C x c2 c3 c4 fz e0 e4 w j N;go_wp2;refine bodyPost_ret (v:=.tuple #[bn 0 (some (.failing (dg c.data).2)),.bool true]) (by simp[results,results122,go_sem,bn,m0,m1,m2,m3]) rfl ?_;exact⟨rfl,V.out.tells z'.out.g y.out s.out m.out ((((Ch.setCell (T:=λi=>i=M) _ (a:=⟨M,0,none⟩) rfl _).trans (Ch.setCell (T:=λi=>i=M) _ (a:=⟨M,1,none⟩) rfl _)).trans (Ch.setCell (T:=λi=>i=M) _ (a:=⟨M,2,none⟩) rfl _)).trans (Ch.setCell (T:=λi=>i=M) _ (a:=⟨M,3,none⟩) rfl _))⟩
theorem uQ (k:WnS b R J TJ W c)(u o:Int)(f:Bool)(n:Int)(t:List UInt8)(X:(u==2)=false)(F:c.control=8)(U:c.data.length≤4611686018427387900)(P:(dg c.data).2=0) :
  Calls prog 122 #[.pointer (some ⟨b,0,none⟩),.agg #[.int .i64 u,.int .i64 o,.bool f,.int .i64 n,.string ⟨t.toArray⟩]] W (il b R J TJ W ({ c with control:=0,st:=3 },some (.closing (dg c.data).1))):=by
 obtain⟨W0,B⟩:∃W0,wc0 W u o f n t=W0:=⟨_,rfl⟩;obtain⟨M,hM⟩:∃M,W.heap.size+1=M:=⟨_,rfl⟩;have z:=fy k u o f n t;rw[B,hM]at z;have z':=qq z;have e0:=z.e0;have e4:=z.e4;have m0:=z.m0;have m1:=z.m1;have m2:=z.m2;have m3:=z.m3;have mz:=z.mz;have c2:=z.k.c2;have c3:=z.k.c3;have c4:=z.k.c4;have fz:=z.k.fz;have E:=k.lt;have A:b≠M:=by omega
 have S:b≠W.heap.size:=by omega
 have C:b<W0.heap.size:=z.k.lt;have d:M<W0.heap.size:=ae m0;have x:W.heap.size<W0.heap.size:=ae e0;have V:=qq k;have y:=qq hM;clear k E z;rw[F]at c3;clear F;go_enter func122,ntmps122;obtain⟨l,j⟩:∃l,W0.setCell ⟨b,3,none⟩ (.int .i64 0)=l:=⟨_,rfl⟩;have H:=qq (show WnS b R J TJ l { c with control:=0 }from j▸z'.out.k.setControl 0);have L:=qq (show Ch (λi=>i=b) W0 l from j▸Ch.setCell (T:=λi=>i=b) W0 (a:=⟨b,3,none⟩) rfl _);have D:=qq (pR c.data l U);have N:l.cell? ⟨b,4,none⟩=some (.string ⟨c.data.toArray⟩):=H.out.c4;go_wp2_with fail;refine D.out.mono ?_;rintro e Z⟨⟨Y,rfl⟩,w⟩;have hf:=qq (ld (H.out.gr w));rw[P];go_wp2_with fail;refine hf.out.mono ?_;rintro e I⟨rfl,r,q⟩;have h:¬(M=b):=λe=>A e.symm;have m:=qq ((L.out.trans (w.to_ch _)).trans q);replace m0:=(m.out.cell (p:=⟨M,0,none⟩) d h).trans m0;replace m1:=(m.out.cell (p:=⟨M,1,none⟩) d h).trans m1;replace m2:=(m.out.cell (p:=⟨M,2,none⟩) d h).trans m2;replace m3:=(m.out.cell (p:=⟨M,3,none⟩) d h).trans m3;replace mz:∀o,I.frozen? ⟨M,o,none⟩=false:=λo=>(m.out.frozen (p:=⟨M,o,none⟩) d h).trans (mz o);have O:M<I.heap.size:=ae m0;have s:=qq r;clear q r d C x c2 c3 c4 fz e0 e4 w j N;go_wp2;refine bodyPost_ret (v:=.tuple #[bn 0 (some (.closing (dg c.data).1)),.bool true]) (by simp[results,results122,go_sem,bn,m0,m1,m2,m3]) rfl ?_;exact⟨rfl,V.out.tells z'.out.g y.out s.out m.out ((((Ch.setCell (T:=λi=>i=M) _ (a:=⟨M,0,none⟩) rfl _).trans (Ch.setCell (T:=λi=>i=M) _ (a:=⟨M,1,none⟩) rfl _)).trans (Ch.setCell (T:=λi=>i=M) _ (a:=⟨M,2,none⟩) rfl _)).trans (Ch.setCell (T:=λi=>i=M) _ (a:=⟨M,3,none⟩) rfl _))⟩
end
section
variable {b R J:Nat} {TJ:Nat→Prop} {W:World} {c:Wn}
theorem lg (k:WnS b R J TJ W c)(a o:Int)(f:Bool)(n:Int)(t:List UInt8)(i:(a==2)=false)(j:c.data.length≤4611686018427387900) :
  Calls prog 122 #[.pointer (some ⟨b,0,none⟩),.agg #[.int .i64 a,.int .i64 o,.bool f,.int .i64 n,.string ⟨t.toArray⟩]] W (il b R J TJ W
   (if c.control=8 then(if (dg c.data).2≠0 then cR { c with control:=0 } (dg c.data).2 else({ c with control:=0,st:=3 },some (.closing (dg c.data).1)))
    else if c.control=9∧c.st=1 then({ c with control:=0 },some (.ping c.data)) else({ c with control:=0 },none))):=by
 by_cases d:c.control=8
 ·rw[if_pos d];by_cases h:(dg c.data).2=0
  ·rw[if_neg (λe=>e h)];exact uQ k a o f n t i d j h
  ·rw[if_pos h];exact yQ k a o f n t i d j h
 ·rw[if_neg d];by_cases g:c.control=9∧c.st=1
  ·rw[if_pos g];exact yO k a o f n t i g.1 g.2
  ·rw[if_neg g];exact yP k a o f n t i d g
def EU:Fev→Nat
 | .piece s=>s.length
 | _=>0
theorem fU (k:WnS b R J TJ W c)(e:Fev)(a:c.data.length+EU e≤4611686018427387900) :
  Calls prog 122 #[.pointer (some ⟨b,0,none⟩),e.V] W (il b R J TJ W (bh c e)):=by
 cases e with
 | piece s=>exact uP k s a
 | begin' f o n=>exact lg k 1 o f n [] rfl a
 | fin=>exact lg k 3 0 false 0 [] rfl a
 | fail=>exact lg k 4 0 false 0 [] rfl a
end
def WjPost (b R J:Nat)(TJ:Nat→Prop)(W:World)(x:Wn×Option Wev)(e:Ending)(W':World):Prop :=
 (∃kk,e=.returned (.tuple #[bn kk x.2,.bool x.2.isSome]))∧WnS b R J (Add TJ W W') W' x.1∧Ch (λi=>i=b∨TJ i) W W'
section
variable {b R J:Nat} {TJ:Nat→Prop} {W:World} {c:Wn}
abbrev wj0 (W:World)(kk o:Int)(f:Bool)(n:Int)(t:List UInt8):World:=(wc0 W kk o f n t).alloc (.cells #[.int .i64 0,.string ⟨#[]⟩] 203)
theorem uR (k:WnS b R J TJ W c)(d o:Int)(f:Bool)(n:Int)(t:List UInt8):Wc0 b R J TJ W c d o f n t (wj0 W d o f n t) (W.heap.size+1) ∧
  (wj0 W d o f n t).cell? ⟨W.heap.size+2,0,none⟩=some (.int .i64 0)∧(wj0 W d o f n t).cell? ⟨W.heap.size+2,1,none⟩=some (.string ⟨#[]⟩)∧(∀i,(wj0 W d o f n t).frozen? ⟨W.heap.size+2,i,none⟩=false)∧(wj0 W d o f n t).heap.size=W.heap.size+3:=by
 have z:=fy k d o f n t;have hs:(wc0 W d o f n t).heap.size=W.heap.size+2:=by simp
 have a:Gr (wc0 W d o f n t) (wj0 W d o f n t):=Gr.alloc _ _;refine⟨⟨z.g.trans a,rfl,z.k.gr a,a.cell z.e0,a.cell z.e1,a.cell z.e2,a.cell z.e3,a.cell z.e4,a.cell z.m0,a.cell z.m1,a.cell z.m2,a.cell z.m3,λi=>(Below.frozen a (p:=⟨W.heap.size+1,i,none⟩) (show W.heap.size+1<(wc0 W d o f n t).heap.size by rw[hs];omega)).trans (z.mz i)⟩,hs▸aa _ _ _ 0 _ rfl,hs▸aa _ _ _ 1 _ rfl,λ_=>World.frozen?_alloc_at _ _ _ _ hs.symm,by simp⟩
theorem WnS.widen {d:World}{c':Wn}{a:Nat→Prop}(k:WnS b R J TJ W c)(h:WnS b R J a d c')(hs:W.heap.size≤d.heap.size)(f:∀i,a i→Add TJ W d i):WnS b R J (Add TJ W d) d c' :=
 ⟨h.c0,h.c1,h.c2,h.c3,h.c4,h.fz,h.r,(cZ J).mono h.j f (λi e=>e.elim (λe=>qj ((cZ J).lt k.j i e) hs) (λe=>e.2)),h.d1,λe=>e.elim k.d2 (λe=>absurd k.lt (Nat.not_lt.2 e.1)),λe=>e.elim k.d3 (λe=>absurd k.r.lt (Nat.not_lt.2 e.1))⟩
theorem WnS.telld {W0 d a h w':World}{c':Wn}{M:Nat}(k:WnS b R J TJ W c)(g:Gr W W0)(hM:W.heap.size+1=M)(hs:W0.heap.size=W.heap.size+3)(o:Gr W0 d)(l:Ch TJ d a)(p:WnS b R J (Add TJ d a) h c')(m:Ch (λi=>i=b) a h)(f:Ch (λi=>i=M∨i=M+1) h w') :
  WnS b R J (Add TJ W w') w' c'∧Ch (λi=>i=b∨TJ i) W w':=by
 have t:=k.lt;have s:=k.r.lt;have u:=Below.size o;have v:=l.size;have w:=m.size;have x:=f.size;have n:∀i,Add TJ d a i→TJ i∨(W.heap.size+3≤i∧i<a.heap.size):=λi e=>e.imp_right λe=>⟨by have:=e.1;omega,e.2⟩;have q:=p.ch f (by omega) (by omega) (λi e e2=>by
  rcases n i e with e3 | e3
  ·have:=(cZ J).lt k.j i e3;omega
  ·omega)
 refine⟨k.widen q (by omega) (λi e=>(n i e).imp_right λe3=>⟨by omega,by omega⟩),?_⟩;exact((((g.trans o).to_ch _).trans (l.mono λ_ e=>.inr e)).trans (m.mono λ_ e=>.inl e)).drop_new f (λi e=>.inr (by omega))
theorem sg (k:WnS b R J TJ W c)(f:Bool)(o n:Nat)(hn:n≤9223372036854775807) :
  Calls prog 123 #[.pointer (some ⟨b,0,none⟩),(Fev.begin' f o n).V] W (WjPost b R J TJ W (bw c (.begin' f o n))):=by
 obtain⟨W0,F⟩:∃W0,wj0 W 1 o f n []=W0:=⟨_,rfl⟩;obtain⟨M,hM⟩:∃M,W.heap.size+1=M:=⟨_,rfl⟩;obtain⟨N,hN⟩:∃N,M+1=N:=⟨_,rfl⟩;have D:W.heap.size+2=N:=by omega
 obtain⟨z,P,n1,nz,O⟩:=uR k 1 o f n [];rw[F,hM]at z;rw[F,D]at P n1;rw[F]at nz O;rw[D]at nz;have z':=qq z;have A:=qq O;have e0:=z.e0;have e1:=z.e1;have e2:=z.e2;have e3:=z.e3;have e4:=z.e4;have m0:=z.m0;have m1:=z.m1;have m2:=z.m2;have m3:=z.m3;have mz:=z.mz;have c1:=z.k.c1;have a7:=k.lt;have a2:b≠M:=by omega
 have b2:b≠N:=by omega
 have b1:M≠N:=by omega
 have b3:b≠W.heap.size:=by omega
 have a6:b<W0.heap.size:=z.k.lt;have U:M<W0.heap.size:=ae m0;have a5:N<W0.heap.size:=ae P;have a1:W.heap.size<W0.heap.size:=ae e0;have k':=qq k;have u:=qq hM;have a3:=qq hN;clear k a7 z O D;have hb:=qq (show ∀w',Gr W0 w'→Calls prog 149 #[.pointer (some ⟨J,0,none⟩),.bool f,.int .i64 o,.int .i64 n] w' λe w9=>e=.returned (.int .i64 (aG c.j f o n).bad)∧Pst (j8 J) TJ w' (aG c.j f o n) w9 from λw' g=>yJ ((cZ J).gr z'.out.k.j g) f o n hn);unfold Fev.V;go_enter func123,ntmps123;go_upto_region 5 with(fail);have t1:∀x:Later (Gr W0),x.w.cell? ⟨b,1,none⟩=some (.pointer (some ⟨J,0,none⟩)):=λx=>x.ok.cell c1;have s1:∀x:Later (Gr W0),x.w.cell? ⟨W.heap.size,1,none⟩=some (.int .i64 o):=λx=>x.ok.cell e1;have s2:∀x:Later (Gr W0),x.w.cell? ⟨W.heap.size,2,none⟩=some (.bool f):=λx=>x.ok.cell e2;have s3:∀x:Later (Gr W0),x.w.cell? ⟨W.heap.size,3,none⟩=some (.int .i64 n):=λx=>x.ok.cell e3;have a8:=qq P;have a9:=qq n1;clear m0 m1 m2 m3 mz P n1 nz e0 e1 e2 e3 e4 c1;haveI:Nonempty (Later (Gr W0)):=⟨⟨W0,Gr.refl W0⟩⟩;refine ak (C:=Gr W0) 10 (by kernel_rfl) (by kernel_rfl) (Gr.drew' _) ?_;simp only[List.take_succ_cons,List.take_zero,List.drop_succ_cons,List.drop_zero];repeat (go_big_quiet_step (fail))
 refine wpQuiet_nil ?_;intro w9 H;clear t1 s1 s2 s3;have d:=qq H;have X:=qq (hb.out w9 H);clear H hb;go_wp2_with fail;refine X.out.mono ?_;rintro e S⟨rfl,hp⟩;have k1:=qq ((z'.out.k.gr d.out).setJ hp);have r:=qq hp.2;have B:M<w9.heap.size:=by have:=Below.size d.out;omega
 have E:N<w9.heap.size:=by have:=Below.size d.out;omega
 have I:¬TJ M:=λe=>by have:=(cZ J).lt k'.out.j M e;have:=u.out;omega
 have L:¬TJ N:=λe=>by have:=(cZ J).lt k'.out.j N e;have:=u.out;have:=a3.out;omega
 have om:∀ {i x},W0.cell? ⟨M,i,none⟩=some x→S.cell? ⟨M,i,none⟩=some x:=fun {i x} h=>(r.out.cell (p:=⟨M,i,none⟩) B I).trans (d.out.cell h);have m0:=om z'.out.m0;have m1:=om z'.out.m1;have m2:=om z'.out.m2;have m3:=om z'.out.m3;have mz:∀o,S.frozen? ⟨M,o,none⟩=false:=λo=>(r.out.frozen (p:=⟨M,o,none⟩) B I).trans ((Below.frozen d.out (show(⟨M,o,none⟩:Addr).block<W0.heap.size from U)).trans (z'.out.mz o));have P:S.cell? ⟨N,0,none⟩=some (.int .i64 0):=(r.out.cell (p:=⟨N,0,none⟩) E L).trans (d.out.cell a8.out);have n1:S.cell? ⟨N,1,none⟩=some (.string ⟨#[]⟩):=(r.out.cell (p:=⟨N,1,none⟩) E L).trans (d.out.cell a9.out);have q:M<S.heap.size:=ae m0;have a4:N<S.heap.size:=ae P;clear om B E I L hp U a5 a1 a6 X;obtain⟨y,s⟩:∃y,aG c.j f o n=y:=⟨_,rfl⟩;rw[s]at k1;rw[s];by_cases l:y.bad=0
 ·have hv:=qq (show bw c (.begin' f o n)=({ c with j:=y },none) by subst s;exact if_neg (λe=>e l));rw[l];clear s l;go_wp2;refine bodyPost_ret (v:=.tuple #[bn 1 none,.bool false]) (by simp[results,results123,go_sem,bn,m0,m1,m2,m3]) rfl ?_;rw[hv.out];exact⟨⟨1,rfl⟩,k'.out.telld z'.out.g u.out A.out d.out r.out k1.out (Ch.refl _ _) ((((Ch.setCell (T:=λi=>i=M∨i=M+1) _ (a:=⟨M,0,none⟩) (.inl rfl) _).trans (Ch.setCell (T:=λi=>i=M∨i=M+1) _ (a:=⟨M,1,none⟩) (.inl rfl) _)).trans (Ch.setCell (T:=λi=>i=M∨i=M+1) _ (a:=⟨M,2,none⟩) (.inl rfl) _)).trans (Ch.setCell (T:=λi=>i=M∨i=M+1) _ (a:=⟨M,3,none⟩) (.inl rfl) _))⟩
 ·have hv:=qq (show bw c (.begin' f o n)=cR { c with j:=y } y.bad by subst s;exact if_pos l);have hz:((y.bad:Int) != 0)=true:=bne_iff_ne.2 (by omega);have hf:=qq (fx k1.out y.bad);clear s l;go_wp2_with fail;refine hf.out.mono ?_;rintro e w2⟨rfl,Z,m⟩;unfold bn;have t:¬(M=b):=λe=>a2 e.symm;replace m0:=(m.cell (p:=⟨M,0,none⟩) q t).trans m0;replace m1:=(m.cell (p:=⟨M,1,none⟩) q t).trans m1;replace m2:=(m.cell (p:=⟨M,2,none⟩) q t).trans m2;replace m3:=(m.cell (p:=⟨M,3,none⟩) q t).trans m3;replace mz:∀o,w2.frozen? ⟨M,o,none⟩=false:=λo=>(m.frozen (p:=⟨M,o,none⟩) q t).trans (mz o);have b0:M<w2.heap.size:=ae m0;have a0:=qq Z;have Y:=qq m;clear m Z q a4 P n1;go_wp2;refine bodyPost_ret (v:=.tuple #[bn 0 (some (.failing y.bad)),.bool true]) (by simp[results,results123,go_sem,bn,m0,m1,m2,m3]) rfl ?_;rw[hv.out];exact⟨⟨0,rfl⟩,k'.out.telld z'.out.g u.out A.out d.out r.out a0.out Y.out ((((Ch.setCell (T:=λi=>i=M∨i=M+1) _ (a:=⟨M,0,none⟩) (.inl rfl) _).trans (Ch.setCell (T:=λi=>i=M∨i=M+1) _ (a:=⟨M,1,none⟩) (.inl rfl) _)).trans (Ch.setCell (T:=λi=>i=M∨i=M+1) _ (a:=⟨M,2,none⟩) (.inl rfl) _)).trans (Ch.setCell (T:=λi=>i=M∨i=M+1) _ (a:=⟨M,3,none⟩) (.inl rfl) _))⟩
end
section
variable {b R J:Nat} {TJ:Nat→Prop} {W:World} {c:Wn}
theorem si (k:WnS b R J TJ W c)(s:List UInt8)(hn:s.length≤4611686018427387904) :
  Calls prog 123 #[.pointer (some ⟨b,0,none⟩),(Fev.piece s).V] W (WjPost b R J TJ W (bw c (.piece s))):=by
 obtain⟨W0,E⟩:∃W0,wj0 W 2 0 false 0 s=W0:=⟨_,rfl⟩;obtain⟨M,hM⟩:∃M,W.heap.size+1=M:=⟨_,rfl⟩;obtain⟨N,hN⟩:∃N,M+1=N:=⟨_,rfl⟩;have B:W.heap.size+2=N:=by omega
 obtain⟨z,O,n1,nz,L⟩:=uR k 2 0 false 0 s;rw[E,hM]at z;rw[E,B]at O n1;rw[E]at nz L;rw[B]at nz;have z':=qq z;have y:=qq L;have e0:=z.e0;have e1:=z.e1;have e2:=z.e2;have e3:=z.e3;have e4:=z.e4;have m0:=z.m0;have m1:=z.m1;have m2:=z.m2;have m3:=z.m3;have mz:=z.mz;have c1:=z.k.c1;have a6:=k.lt;have a1:b≠M:=by omega
 have b1:b≠N:=by omega
 have b0:M≠N:=by omega
 have b2:b≠W.heap.size:=by omega
 have a5:b<W0.heap.size:=z.k.lt;have S:M<W0.heap.size:=ae m0;have a4:N<W0.heap.size:=ae O;have a0:W.heap.size<W0.heap.size:=ae e0;have k':=qq k;have t:=qq hM;have a2:=qq hN;clear k a6 z L B;have hb:=qq (show ∀w',Gr W0 w'→Calls prog 150 #[.pointer (some ⟨J,0,none⟩),.string ⟨s.toArray⟩] w' λe w9=>e=.returned (.int .i64 (aA c.j s).bad)∧Pst (j8 J) TJ w' (aA c.j s) w9 from λw' g=>yK ((cZ J).gr z'.out.k.j g) s hn);unfold Fev.V;go_enter func123,ntmps123;go_upto_region 7 with(fail);have t1:∀x:Later (Gr W0),x.w.cell? ⟨b,1,none⟩=some (.pointer (some ⟨J,0,none⟩)):=λx=>x.ok.cell c1;have s1:∀x:Later (Gr W0),x.w.cell? ⟨W.heap.size,4,none⟩=some (.string ⟨s.toArray⟩):=λx=>x.ok.cell e4;have a7:=qq O;have a8:=qq n1;clear m0 m1 m2 m3 mz O n1 nz e0 e1 e2 e3 e4 c1;haveI:Nonempty (Later (Gr W0)):=⟨⟨W0,Gr.refl W0⟩⟩;refine ak (C:=Gr W0) 6 (by kernel_rfl) (by kernel_rfl) (Gr.drew' _) ?_;simp only[List.take_succ_cons,List.take_zero,List.drop_succ_cons,List.drop_zero];repeat (go_big_quiet_step (fail))
 refine wpQuiet_nil ?_;intro w9 F;clear t1 s1;have d:=qq F;have U:=qq (hb.out w9 F);clear F hb;go_wp2_with fail;refine U.out.mono ?_;rintro e P⟨rfl,hp⟩;have k1:=qq ((z'.out.k.gr d.out).setJ hp);have n:=qq hp.2;have A:M<w9.heap.size:=by have:=Below.size d.out;omega
 have D:N<w9.heap.size:=by have:=Below.size d.out;omega
 have H:¬TJ M:=λe=>by have:=(cZ J).lt k'.out.j M e;have:=t.out;omega
 have I:¬TJ N:=λe=>by have:=(cZ J).lt k'.out.j N e;have:=t.out;have:=a2.out;omega
 have om:∀ {i x},W0.cell? ⟨M,i,none⟩=some x→P.cell? ⟨M,i,none⟩=some x:=fun {i x} h=>(n.out.cell (p:=⟨M,i,none⟩) A H).trans (d.out.cell h);have m0:=om z'.out.m0;have m1:=om z'.out.m1;have m2:=om z'.out.m2;have m3:=om z'.out.m3;have mz:∀o,P.frozen? ⟨M,o,none⟩=false:=λo=>(n.out.frozen (p:=⟨M,o,none⟩) A H).trans ((Below.frozen d.out (show(⟨M,o,none⟩:Addr).block<W0.heap.size from S)).trans (z'.out.mz o));have O:P.cell? ⟨N,0,none⟩=some (.int .i64 0):=(n.out.cell (p:=⟨N,0,none⟩) D I).trans (d.out.cell a7.out);have n1:P.cell? ⟨N,1,none⟩=some (.string ⟨#[]⟩):=(n.out.cell (p:=⟨N,1,none⟩) D I).trans (d.out.cell a8.out);have m:M<P.heap.size:=ae m0;have a3:N<P.heap.size:=ae O;clear om A D H I hp S a4 a0 a5 U;obtain⟨u,q⟩:∃u,aA c.j s=u:=⟨_,rfl⟩;rw[q]at k1;rw[q];by_cases f:u.bad=0
 ·have hv:=qq (show bw c (.piece s)=({ c with j:=u },none) by subst q;exact if_neg (λe=>e f));rw[f];clear q f;go_wp2;refine bodyPost_ret (v:=.tuple #[bn 1 none,.bool false]) (by simp[results,results123,go_sem,bn,m0,m1,m2,m3]) rfl ?_;rw[hv.out];exact⟨⟨1,rfl⟩,k'.out.telld z'.out.g t.out y.out d.out n.out k1.out (Ch.refl _ _) ((((Ch.setCell (T:=λi=>i=M∨i=M+1) _ (a:=⟨M,0,none⟩) (.inl rfl) _).trans (Ch.setCell (T:=λi=>i=M∨i=M+1) _ (a:=⟨M,1,none⟩) (.inl rfl) _)).trans (Ch.setCell (T:=λi=>i=M∨i=M+1) _ (a:=⟨M,2,none⟩) (.inl rfl) _)).trans (Ch.setCell (T:=λi=>i=M∨i=M+1) _ (a:=⟨M,3,none⟩) (.inl rfl) _))⟩
 ·have hv:=qq (show bw c (.piece s)=cR { c with j:=u } u.bad by subst q;exact if_pos f);have hz:((u.bad:Int) != 0)=true:=bne_iff_ne.2 (by omega);have hf:=qq (fx k1.out u.bad);clear q f;go_wp2_with fail;refine hf.out.mono ?_;rintro e w2⟨rfl,Y,l⟩;unfold bn;have r:¬(M=b):=λe=>a1 e.symm;replace m0:=(l.cell (p:=⟨M,0,none⟩) m r).trans m0;replace m1:=(l.cell (p:=⟨M,1,none⟩) m r).trans m1;replace m2:=(l.cell (p:=⟨M,2,none⟩) m r).trans m2;replace m3:=(l.cell (p:=⟨M,3,none⟩) m r).trans m3;replace mz:∀o,w2.frozen? ⟨M,o,none⟩=false:=λo=>(l.frozen (p:=⟨M,o,none⟩) m r).trans (mz o);have a9:M<w2.heap.size:=ae m0;have Z:=qq Y;have X:=qq l;clear l Y m a3 O n1;go_wp2;refine bodyPost_ret (v:=.tuple #[bn 0 (some (.failing u.bad)),.bool true]) (by simp[results,results123,go_sem,bn,m0,m1,m2,m3]) rfl ?_;rw[hv.out];exact⟨⟨0,rfl⟩,k'.out.telld z'.out.g t.out y.out d.out n.out Z.out X.out ((((Ch.setCell (T:=λi=>i=M∨i=M+1) _ (a:=⟨M,0,none⟩) (.inl rfl) _).trans (Ch.setCell (T:=λi=>i=M∨i=M+1) _ (a:=⟨M,1,none⟩) (.inl rfl) _)).trans (Ch.setCell (T:=λi=>i=M∨i=M+1) _ (a:=⟨M,2,none⟩) (.inl rfl) _)).trans (Ch.setCell (T:=λi=>i=M∨i=M+1) _ (a:=⟨M,3,none⟩) (.inl rfl) _))⟩
end
theorem uS {j:Jn}{m:Nat×List UInt8}(h:(aI j).2=some m):(aI j).1.bad=0:=by
 unfold aI at h ⊢;by_cases h0:j.bad≠0
 ·rw[if_pos h0]at h;cases h
 ·rw[if_neg h0]at h ⊢;split at h
  ·cases h
  ·split at h
   ·cases h
   ·split at h
    ·cases h
    ·rename_i a d e;rw[if_neg a,if_neg d,if_neg e];exact Decidable.not_not.1 h0
section
variable {b R J:Nat} {TJ:Nat→Prop} {W:World} {c:Wn}
theorem WnS.telld2 {W0 d a h w':World}{c':Wn}{M:Nat}(k:WnS b R J TJ W c)(g:Gr W W0)(hM:W.heap.size+1=M)(hs:W0.heap.size=W.heap.size+3)(o:Gr W0 d)(l:Ch TJ d a)(p:WnS b R J (Add TJ d a) h c')(m:Ch (λi=>i=b∨i=M+1) a h)(f:Ch (λi=>i=M∨i=M+1) h w') :
  WnS b R J (Add TJ W w') w' c'∧Ch (λi=>i=b∨TJ i) W w':=by
 have t:=k.lt;have s:=k.r.lt;have u:=Below.size o;have v:=l.size;have w:=m.size;have x:=f.size;have n:∀i,Add TJ d a i→TJ i∨(W.heap.size+3≤i∧i<a.heap.size):=λi e=>e.imp_right λe=>⟨by have:=e.1;omega,e.2⟩;have q:=p.ch f (by omega) (by omega) (λi e e2=>by
  rcases n i e with e3 | e3
  ·have:=(cZ J).lt k.j i e3;omega
  ·omega)
 refine⟨k.widen q (by omega) (λi e=>(n i e).imp_right λe3=>⟨by omega,by omega⟩),?_⟩;exact(((g.trans o).to_ch _).trans (l.mono λ_ e=>.inr e)).drop_new (S:=λi=>i=b∨i=M∨i=M+1) ((m.mono λ_ e=>e.imp_right .inr).trans (f.mono λ_ e=>.inr e)) (λi e=>by
  rcases e with e | e
  ·exact .inl (.inl e)
  ·exact .inr (by omega))
theorem yR (k:WnS b R J TJ W c) :
  Calls prog 123 #[.pointer (some ⟨b,0,none⟩),Fev.fin.V] W (WjPost b R J TJ W (bw c .fin)):=by
 obtain⟨W0,H⟩:∃W0,wj0 W 3 0 false 0 []=W0:=⟨_,rfl⟩;obtain⟨M,hM⟩:∃M,W.heap.size+1=M:=⟨_,rfl⟩;obtain⟨N,hN⟩:∃N,M+1=N:=⟨_,rfl⟩;have F:W.heap.size+2=N:=by omega
 obtain⟨z,X,n1,nz,P⟩:=uR k 3 0 false 0 [];rw[H,hM]at z;rw[H,F]at X n1;rw[H]at nz P;rw[F]at nz;have z':=qq z;have s:=qq P;have e0:=z.e0;have e1:=z.e1;have e2:=z.e2;have e3:=z.e3;have e4:=z.e4;have m0:=z.m0;have m1:=z.m1;have m2:=z.m2;have m3:=z.m3;have mz:=z.mz;have c1:=z.k.c1;have b0:=k.lt;have a5:b≠M:=by omega
 have a7:b≠N:=by omega
 have u:M≠N:=by omega
 have b6:b≠W.heap.size:=by omega
 have a9:b<W0.heap.size:=z.k.lt;have Z:M<W0.heap.size:=ae m0;have b5:N<W0.heap.size:=ae X;have a4:W.heap.size<W0.heap.size:=ae e0;have S:=qq k;have l:=qq hM;have f:=qq hN;clear k b0 z P F;have hb:=qq (DO z'.out.k.j);have q:∀m,(aI c.j).2=some m→(aI c.j).1.bad=0:=λm e=>uS e;obtain⟨⟨D,m⟩,I⟩:∃r,aI c.j=r:=⟨_,rfl⟩;rw[I]at hb q;have C:=qq q;have L:=qq I;clear q I;have b1:=qq X;have b2:=qq n1;have b3:=qq nz;unfold Fev.V;go_enter func123,ntmps123;go_wp2_with fail;refine hb.out.mono ?_;rintro e y⟨rfl,hp⟩;have k1:=qq (z'.out.k.setJ hp);have n:=qq hp.2;have E:M<W0.heap.size:=by have:=Below.size (Gr.refl W0);omega
 have A:N<W0.heap.size:=by have:=Below.size (Gr.refl W0);omega
 have O:¬TJ M:=λe=>by have:=(cZ J).lt S.out.j M e;have:=l.out;omega
 have B:¬TJ N:=λe=>by have:=(cZ J).lt S.out.j N e;have:=l.out;have:=f.out;omega
 have om:∀ {i x},W0.cell? ⟨M,i,none⟩=some x→y.cell? ⟨M,i,none⟩=some x:=fun {i x} h=>(n.out.cell (p:=⟨M,i,none⟩) E O).trans (h);have m0:=om z'.out.m0;have m1:=om z'.out.m1;have m2:=om z'.out.m2;have m3:=om z'.out.m3;have mz:∀o,y.frozen? ⟨M,o,none⟩=false:=λo=>(n.out.frozen (p:=⟨M,o,none⟩) E O).trans ((Below.frozen (Gr.refl W0) (show(⟨M,o,none⟩:Addr).block<W0.heap.size from Z)).trans (z'.out.mz o));have X:y.cell? ⟨N,0,none⟩=some (.int .i64 0):=(n.out.cell (p:=⟨N,0,none⟩) A B).trans b1.out;have n1:y.cell? ⟨N,1,none⟩=some (.string ⟨#[]⟩):=(n.out.cell (p:=⟨N,1,none⟩) A B).trans b2.out;have nz:∀o,y.frozen? ⟨N,o,none⟩=false:=λo=>(n.out.frozen (p:=⟨N,o,none⟩) A B).trans (b3.out o);have t:M<y.heap.size:=ae m0;have a6:N<y.heap.size:=ae X;clear om E A O B hp Z a4 a9 hb;cases m with
 | none =>
  unfold mV;dsimp only;by_cases d:D.bad=0
  ·have hv:=qq (show bw c .fin=({ c with j:=D },none) by
    show(if (aI c.j).1.bad≠0 then _ else _)=_;rw[L.out];exact if_neg (λe=>e d))
   rw[d];clear d;go_wp2;refine bodyPost_ret (v:=.tuple #[bn 1 none,.bool false]) (by simp[results,results123,go_sem,bn,m0,m1,m2,m3,u,Ne.symm u]) rfl ?_;rw[hv.out];exact⟨⟨1,rfl⟩,S.out.telld z'.out.g l.out s.out (Gr.refl W0) n.out k1.out (Ch.refl _ _) (((Ch.setCell (T:=λi=>i=M∨i=M+1) _ (a:=⟨N,0,none⟩) (.inr f.out.symm) _).trans (Ch.setCell (T:=λi=>i=M∨i=M+1) _ (a:=⟨N,1,none⟩) (.inr f.out.symm) _)).trans ((((Ch.setCell (T:=λi=>i=M∨i=M+1) _ (a:=⟨M,0,none⟩) (.inl rfl) _).trans (Ch.setCell (T:=λi=>i=M∨i=M+1) _ (a:=⟨M,1,none⟩) (.inl rfl) _)).trans (Ch.setCell (T:=λi=>i=M∨i=M+1) _ (a:=⟨M,2,none⟩) (.inl rfl) _)).trans (Ch.setCell (T:=λi=>i=M∨i=M+1) _ (a:=⟨M,3,none⟩) (.inl rfl) _)))⟩
  ·have hv:=qq (show bw c .fin=cR { c with j:=D } D.bad by
    show(if (aI c.j).1.bad≠0 then _ else _)=_;rw[L.out];exact if_pos d)
   have hz:((D.bad:Int) != 0)=true:=bne_iff_ne.2 (by omega);obtain⟨w3,a3⟩:∃w3,(y.setCell ⟨N,0,none⟩ (.int .i64 0)).setCell ⟨N,1,none⟩ (.string ⟨#[]⟩)=w3:=⟨_,rfl⟩;have Y:=qq (show Ch (λi=>i=N) y w3 from a3▸(Ch.setCell (T:=λi=>i=N) y (a:=⟨N,0,none⟩) rfl _).trans (Ch.setCell (T:=λi=>i=N) _ (a:=⟨N,1,none⟩) rfl _));have a8:R≠N:=(by have:=S.out.r.lt;have:=l.out;have:=f.out;omega);have k3:=qq (k1.out.ch Y.out a7 a8 (λi e e2=>by
    rcases e with e | e
    ·have:=(cZ J).lt S.out.j i e;have:=l.out;have:=f.out;omega
    ·have:=e.1;have:=s.out;have:=l.out;have:=f.out;omega))
   have hf:=qq (fx k3.out D.bad);clear d;go_wp2_with fail;refine hf.out.mono ?_;rintro e w2⟨rfl,a1,a0⟩;unfold bn;have w:¬(M=b∨M=N):=λe=>e.elim (λe=>a5 e.symm) u;have U:=qq ((Y.out.mono (T':=λi=>i=b∨i=N) λ_ e=>.inr e).trans (a0.mono λ_ e=>.inl e));replace m0:=(U.out.cell (p:=⟨M,0,none⟩) t w).trans m0;replace m1:=(U.out.cell (p:=⟨M,1,none⟩) t w).trans m1;replace m2:=(U.out.cell (p:=⟨M,2,none⟩) t w).trans m2;replace m3:=(U.out.cell (p:=⟨M,3,none⟩) t w).trans m3;replace mz:∀o,w2.frozen? ⟨M,o,none⟩=false:=λo=>(U.out.frozen (p:=⟨M,o,none⟩) t w).trans (mz o);have b4:M<w2.heap.size:=ae m0;have a2:=qq a1;clear a0 a1 t a6 X n1 a3 nz;go_wp2;refine bodyPost_ret (v:=.tuple #[bn 0 (some (.failing D.bad)),.bool true]) (by simp[results,results123,go_sem,bn,m0,m1,m2,m3]) rfl ?_;rw[hv.out];exact⟨⟨0,rfl⟩,S.out.telld2 z'.out.g l.out s.out (Gr.refl W0) n.out a2.out (U.out.mono λ_ e=>e.imp_right λe=>e.trans f.out.symm) ((((Ch.setCell (T:=λi=>i=M∨i=M+1) _ (a:=⟨M,0,none⟩) (.inl rfl) _).trans (Ch.setCell (T:=λi=>i=M∨i=M+1) _ (a:=⟨M,1,none⟩) (.inl rfl) _)).trans (Ch.setCell (T:=λi=>i=M∨i=M+1) _ (a:=⟨M,2,none⟩) (.inl rfl) _)).trans (Ch.setCell (T:=λi=>i=M∨i=M+1) _ (a:=⟨M,3,none⟩) (.inl rfl) _))⟩
 | some m =>
  have d:D.bad=0:=C.out m rfl;have hv:=qq (show bw c .fin=({ c with j:=D },some (.message m.1 m.2)) by
    show(if (aI c.j).1.bad≠0 then _ else _)=_;rw[L.out];exact if_neg (λe=>e d))
  unfold mV;dsimp only;rw[d];clear d;go_wp2;refine bodyPost_ret (v:=.tuple #[bn 0 (some (.message m.1 m.2)),.bool true]) (by simp[results,results123,go_sem,bn,m0,m1,m2,m3,u,Ne.symm u]) rfl ?_;rw[hv.out];exact⟨⟨0,rfl⟩,S.out.telld z'.out.g l.out s.out (Gr.refl W0) n.out k1.out (Ch.refl _ _) (((Ch.setCell (T:=λi=>i=M∨i=M+1) _ (a:=⟨N,0,none⟩) (.inr f.out.symm) _).trans (Ch.setCell (T:=λi=>i=M∨i=M+1) _ (a:=⟨N,1,none⟩) (.inr f.out.symm) _)).trans ((((Ch.setCell (T:=λi=>i=M∨i=M+1) _ (a:=⟨M,0,none⟩) (.inl rfl) _).trans (Ch.setCell (T:=λi=>i=M∨i=M+1) _ (a:=⟨M,1,none⟩) (.inl rfl) _)).trans (Ch.setCell (T:=λi=>i=M∨i=M+1) _ (a:=⟨M,2,none⟩) (.inl rfl) _)).trans (Ch.setCell (T:=λi=>i=M∨i=M+1) _ (a:=⟨M,3,none⟩) (.inl rfl) _)))⟩
end
