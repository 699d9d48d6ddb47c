/-
  A socket in memory: its next event. (Printed by mk_js.py.)
-/
import Derived.Test.YtadobobfjnmdlaaGreatDoorJq
import Derived.Deep.LoopGhost
set_option linter.unnecessarySimpa false
set_option linter.unusedVariables false
set_option linter.unusedSimpArgs false
set_option maxHeartbeats 16000000
set_option maxRecDepth 100000
open Go.Proofs.Tryz
namespace Go.Proofs.YtadobobfjnmdlaaGreatDoor
open Go.RowKit Go.Shelf
attribute [local go_sem] Oper.semAt_some
theorem BL (e:Fev):∃(a0 a1:Int) (a2:Bool) (a3:Int) (a4:ByteArray),e.V=.agg #[.int .i64 a0,.int .i64 a1,.bool a2,.int .i64 a3,.string a4]:=by cases e <;> exact⟨_,_,_,_,_,rfl⟩
structure WeC (M:Nat)(W:World):Prop where
 m0:W.cell? ⟨M,0,none⟩=some (.int .i64 0)
 m1:W.cell? ⟨M,1,none⟩=some (.int .i64 0)
 m2:W.cell? ⟨M,2,none⟩=some (.int .i64 0)
 m3:W.cell? ⟨M,3,none⟩=some (.string ⟨#[]⟩)
 mz:∀o,W.frozen? ⟨M,o,none⟩=false
theorem WeC.lt {M:Nat}{W:World}(h:WeC M W):M<W.heap.size:=ae h.m0
theorem WeC.ch {M:Nat}{T:Nat→Prop}{W d:World}(h:WeC M W)(f:Ch T W d)(e:¬T M):WeC M d :=
 have a:∀ {j v},W.cell? ⟨M,j,none⟩=some v→d.cell? ⟨M,j,none⟩=some v:=fun {j v} g=>(f.cell (p:=⟨M,j,none⟩) (ae g) e).trans g
 ⟨a h.m0,a h.m1,a h.m2,a h.m3,λo=>(f.frozen (p:=⟨M,o,none⟩) h.lt e).trans (h.mz o)⟩
theorem DQ (W:World)(t:TypeId):WeC W.heap.size (W.alloc (.cells #[.int .i64 0,.int .i64 0,.int .i64 0,.string ⟨#[]⟩] t)) :=
 ⟨aa _ _ _ 0 _ rfl,aa _ _ _ 1 _ rfl,aa _ _ _ 2 _ rfl,aa _ _ _ 3 _ rfl,λ_=>World.frozen?_alloc_at _ _ _ _ rfl⟩
theorem DR (k:Nat)(x:Wev):bn k (some x)=bn 0 (some x):=by cases x <;> rfl
section
variable {b R J:Nat} {TJ:Nat→Prop}
def EW (b R J:Nat)(TJ:Nat→Prop)(W:World)(x:Wn×Option Wev)(e:Ending)(W':World):Prop :=
 e=.returned (.tuple #[bn 0 x.2,.bool x.2.isSome])∧WnS b R J (Add TJ W W') W' x.1∧Ch (λi=>i=b∨i=R∨TJ i) W W'
structure NxRel (b R J:Nat)(TJ:Nat→Prop)(W0:World)(M n:Nat)(x:Wn×Option Wev)(k:Nat)(w:World)(c:Wn):Prop where
 go:kN k c=x
 sz:cD c<k
 B:WnB n c
 s:WnS b R J (Add TJ W0 w) w c
 ch:Ch (λi=>i=b∨i=R∨TJ i) W0 w
 m:WeC M w
structure Nx0 (b R J:Nat)(TJ:Nat→Prop)(W W0:World)(M:Nat)(c:Wn):Prop where
 k:WnS b R J TJ W c
 g:Gr W W0
 hM:W.heap.size=M
 hs:W0.heap.size=M+1
theorem Nx0.apart {W W0:World}{M:Nat}{c:Wn}(h:Nx0 b R J TJ W W0 M c):b≠M∧R≠M∧¬TJ M:=by
 have a:=h.k.lt;have d:=h.k.r.lt;have f:=h.hM;exact⟨by omega,by omega,λe=>by have:=(cZ J).lt h.k.j M e;omega⟩
theorem Nx0.done {W W0 w w':World}{M:Nat}{c c':Wn}{a:Nat→Prop}(h:Nx0 b R J TJ W W0 M c)(k:WnS b R J a w c')(l:∀i,a i→Add TJ W0 w i)(f:Ch (λi=>i=b∨i=R∨TJ i) W0 w)(d:Ch (λi=>i=M) w w') :
  WnS b R J (Add TJ W w') w' c'∧Ch (λi=>i=b∨i=R∨TJ i) W w':=by
 obtain⟨a1,a2,a3⟩:=h.apart;have hM:=h.hM;have hs:=h.hs;have m:=f.size;have n:=d.size;have q:=k.ch d (λe=>a1 e) (λe=>a2 e) (λi e e2=>by
  rcases l i e with e3 | e3
  ·exact a3 (e2▸e3)
  ·have:=e3.1;omega)
 exact⟨h.k.widen q (by omega) (λi e=>(l i e).imp_right λe3=>⟨by have:=e3.1;omega,by have:=e3.2;omega⟩),((h.g.to_ch _).trans f).drop_new d (λj e=>.inr (by omega))⟩
theorem xy {W0 w w':World}{S:Nat→Prop}(h:Ch (λi=>i=b∨i=R∨TJ i) W0 w)(d:Ch S w w')(a:∀i,S i→i=b∨i=R∨Add TJ W0 w i):Ch (λi=>i=b∨i=R∨TJ i) W0 w' :=
 h.drop_new d (λj e=>by
  rcases a j e with e | e | e | e
  ·exact .inl (.inl e)
  ·exact .inl (.inr (.inl e))
  ·exact .inl (.inr (.inr e))
  ·exact .inr e.1)
theorem EX (w:World)(a0 a1:Int)(a2:Bool)(a3:Int)(a4:ByteArray){a:World}(h:w.alloc (.cells #[.int .i64 a0,.int .i64 a1,.bool a2,.int .i64 a3,.string a4] 159)=a) :
  Gr w a∧a.heap.size=w.heap.size+1∧a.cell? ⟨w.heap.size,0,none⟩=some (.int .i64 a0)∧a.cell? ⟨w.heap.size,1,none⟩=some (.int .i64 a1)∧a.cell? ⟨w.heap.size,2,none⟩=some (.bool a2)∧a.cell? ⟨w.heap.size,3,none⟩=some (.int .i64 a3)∧a.cell? ⟨w.heap.size,4,none⟩=some (.string a4):=by
 subst h;exact⟨Gr.alloc _ _,by simp,aa _ _ _ 0 _ rfl,aa _ _ _ 1 _ rfl,aa _ _ _ 2 _ rfl,aa _ _ _ 3 _ rfl,aa _ _ _ 4 _ rfl⟩
theorem EY (w3:World)(d e f:Int)(g:ByteArray){a:World}(h:w3.alloc (.cells #[.int .i64 d,.int .i64 e,.int .i64 f,.string g] 129)=a) :
  Gr w3 a∧a.cell? ⟨w3.heap.size,0,none⟩=some (.int .i64 d)∧a.cell? ⟨w3.heap.size,1,none⟩=some (.int .i64 e)∧a.cell? ⟨w3.heap.size,2,none⟩=some (.int .i64 f)∧a.cell? ⟨w3.heap.size,3,none⟩=some (.string g):=by
 subst h;exact⟨Gr.alloc _ _,aa _ _ _ 0 _ rfl,aa _ _ _ 1 _ rfl,aa _ _ _ 2 _ rfl,aa _ _ _ 3 _ rfl⟩
theorem WnS.widen0 {W:World}{c:Wn}(k:WnS b R J TJ W c):WnS b R J (Add TJ W W) W c:=k.widen k (qv _) (λ_ e=>.inl e)
theorem yU {W:World}{c:Wn}{n:Nat}(k:WnS b R J TJ W c)(hB:WnB n c)(hn:n≤4611686018427387900) :
  Calls prog 72 #[.pointer (some ⟨b,0,none⟩)] W (EW b R J TJ W (bP c)):=by
 obtain⟨W0,I⟩:∃W0,we0 W=W0:=⟨_,rfl⟩;obtain⟨M,hM⟩:∃M,W.heap.size=M:=⟨_,rfl⟩;have z:=qq (show Nx0 b R J TJ W W0 M c from⟨k,I▸Gr.alloc W _,hM,by rw[←I,←hM];simp⟩);have P:=qq (show ∃c',NxRel b R J TJ W0 M n (bP c) (cD c+1) W0 c' from
  ⟨c,rfl,Nat.lt_succ_self _,hB,k.gr (I▸Gr.alloc W _) |>.widen0 ,Ch.refl _ _,by rw[←I,←hM];exact DQ W _⟩)
 have d4:=qq hM;clear k hB;go_enter func72,ntmps72;go_upto_region 1 with(fail);go_loopg [] (cD c+1) (λk wr=>∃c',NxRel b R J TJ W0 M n (bP c) k wr c')
 case atStart=>exact P.out
 case round =>
  obtain⟨c2,d⟩:=hrel;obtain⟨g,rfl⟩:∃g,gk=g+1:=⟨gk - 1,by have:=d.sz;omega⟩;have f:=qq d;have ap:=qq z.out.apart;have m0:=d.m.m0;have m1:=d.m.m1;have m2:=d.m.m2;have m3:=d.m.m3;have mz:=d.m.mz;have H:=d.m.lt;have O:=qq (gH d.s);by_cases V:c2.st=3
  ·have hx:=qq (show bP c=(c2,none) by rw[←d.go];exact if_pos V);rw[V]at O;clear d P V;go_wp2_with fail;refine O.out.mono ?_;rintro e S⟨rfl,rfl⟩;go_wp2;refine bodyPost_ret (v:=.tuple #[bn 0 none,.bool false]) (by simp[results,results72,go_sem,bn,m0,m1,m2,m3]) rfl ?_;rw[hx.out];exact⟨rfl,z.out.done f.out.s (λ_ e=>e) f.out.ch (uU wr M _ _ _ _)⟩
  ·have hz:((c2.st:Int) != 3)=true:=bne_iff_ne.2 (by omega);have c0:=d.s.c0;have a6:=qq (wC d.s.r ⟨by have:=d.B.r.i;omega,d.B.r.h,d.B.r.t,d.B.r.s⟩);cases Y:az c2.r with
   | mk r o =>
    rw[Y]at a6;have d6:=qq Y;cases o with
    | none =>
     have hx:=qq (show bP c=({ c2 with r:=r },none) by rw[←d.go];unfold kN;rw[if_neg V,Y]);clear d P V Y;go_wp2_with fail;refine O.out.mono ?_;rintro e S⟨rfl,rfl⟩;go_wp2_with fail;refine a6.out.mono ?_;rintro e S⟨rfl,A,p⟩;unfold Ew oO;dsimp only;have C:=qq (f.out.s.setR A p);have a:=qq p;have a5:¬(M=R):=λe=>ap.out.2.1 e.symm;clear A p m0 m1 m2 m3 mz H c0;go_upto_region 3 with(fail);obtain⟨F,l⟩:∃F,S.alloc (.cells #[.int .i64 0,.int .i64 0,.bool false,.int .i64 0,.string ⟨#[]⟩] 159)=F:=⟨_,rfl⟩;rw[l];have U:Gr S F:=l▸Gr.alloc _ _;have hm:=(f.out.m.ch a.out a5).ch (U.to_ch (λ_=>False)) id;have m0:=hm.m0;have m1:=hm.m1;have m2:=hm.m2;have m3:=hm.m3;have mz:=hm.mz;have H:=hm.lt;have u:=qq U;clear l hm U;go_wp2;refine bodyPost_ret (v:=.tuple #[bn 0 none,.bool false]) (by simp[results,results72,go_sem,bn,m0,m1,m2,m3]) rfl ?_;rw[hx.out];exact⟨rfl,z.out.done (C.out.gr u.out) (λi e=>e.imp_right λe=>⟨e.1,qj e.2 (qy a.out.size (Below.size u.out))⟩) (xy (f.out.ch) (a.out.trans (u.out.to_ch _)) (λi e=>.inr (.inl e))) (uU F M _ _ _ _)⟩
    | some ev =>
     have Z:=d.B.step Y;have a8:cD (aq { c2 with r:=r } ev).1<cD c2:=eI (c1:=(aq { c2 with r:=r } ev).1) (o:=(aq { c2 with r:=r } ev).2) (iO V Y);cases hT:aq { c2 with r:=r } ev with
     | mk c3 o3 =>
      rw[hT]at Z a8;have w:=qq Z;have b7:=qq a8;have c4:=qq hT;have hx:=qq (show bP c=match ((c3,o3):Wn×Option Wev)with
        |(c',some x)=>(c',some x)
        |(c',none)=>kN g c' by
       rw[←d.go];show(if c2.st=3 then _ else _)=_;rw[if_neg V,Y];dsimp only;rw[hT];cases o3 <;> rfl)
      clear d P V Y Z a8 hT;go_wp2_with fail;refine O.out.mono ?_;rintro e S⟨rfl,rfl⟩;go_wp2_with fail;refine a6.out.mono ?_;rintro e S⟨rfl,A,p⟩;obtain⟨a0,a1,a2,a3,a4,ha⟩:=BL ev;unfold Ew;dsimp only;rw[ha];have c5:=qq ha;have C:=qq (f.out.s.setR A p);have a:=qq p;have a5:¬(M=R):=λe=>ap.out.2.1 e.symm;clear A p m0 m1 m2 m3 mz H c0 ha;go_upto_region 3 with(fail);obtain⟨F,l⟩:∃F,S.alloc (.cells #[.int .i64 a0,.int .i64 a1,.bool a2,.int .i64 a3,.string a4] 159)=F:=⟨_,rfl⟩;rw[l];obtain⟨U,s2,v0,v1,v2,v3,v4⟩:=EX S a0 a1 a2 a3 a4 l;have u:=qq U;have N:=C.out.gr U;have a9:=uV N ev w.out.2.1 (by have:=w.out.2.2.1;(try dsimp only);omega);rw[c5.out,c4.out]at a9;have b8:=qq a9;have b3:=qq ((f.out.m.ch a.out a5).ch (U.to_ch (λ_=>False)) id);have c7:=b3.out.lt;have d1:=qq N;have c0:=N.c0;have hE:S.heap.size<F.heap.size:=(by omega);clear l U s2 a9 N;go_wp2_with fail;refine b8.out.mono ?_;rintro e w3⟨⟨kk,rfl⟩,b1,L⟩;obtain⟨n1,n2,n3,n4,a7⟩:=mY kk o3;have b6:=qq a7;rw[a7];have b0:¬(M=b∨Add TJ W0 wr M):=λe=>by
       obtain⟨q1,q2,q3⟩:=ap.out;rcases e with e | e | e
       ·exact q1 e.symm
       ·exact q3 e
       ·have:=e.1;have:=z.out.hs;omega
      have b4:=qq (b3.out.ch L b0);have c6:=qq (xy f.out.ch ((a.out.mono (T':=λi=>i=b∨i=R∨Add TJ W0 wr i) λi e=>.inr (.inl e)).trans ((u.out.to_ch _).trans (L.mono λi e=>e.imp_right .inr))) (λi e=>e));have b2:=qq b1;have c8:=f.out.ch.size;have c9:=a.out.size;have l:=Below.size u.out;have d0:=L.size;have b9:=qq (show ∀i,Add (Add TJ W0 wr) F w3 i→Add TJ W0 w3 i from λi e=>by
       rcases e with(e | e) | e
       ·exact .inl e
       ·exact .inr ⟨e.1,by have:=e.2;omega⟩
       ·exact .inr ⟨by have:=e.1;omega,e.2⟩)
      clear b1 L c8 c9 l d0 a7 c0 v0 v1 v2 v3 v4 hE c7 b0;obtain⟨w4,D⟩:∃w4,w3.alloc (.cells #[.int .i64 n1,.int .i64 n2,.int .i64 n3,.string n4] 129)=w4:=⟨_,rfl⟩;have q:=EY w3 n1 n2 n3 n4 D;have d2:=qq q;have j:=b4.out.ch (q.1.to_ch (λ_=>False)) id;have X:=qq (b2.out.gr q.1);have y:=qq (c6.out.trans (q.1.to_ch _));have E:=qq (show ∀i,Add (Add TJ W0 wr) F w3 i→Add TJ W0 w4 i from λi e=>(b9.out i e).imp_right λe=>⟨e.1,qj e.2 (Below.size q.1)⟩);have b5:=qq j;cases o3 with
      | none =>
       clear q j;go_upto_region 5 with(fail);(try rw[D]);clear D;go_wp2_with fail
       go_roundg g
       case measure=>omega
       case rel =>
        exact⟨c3,hx.out.symm,by have:=b7.out;have:=f.out.sz;(try dsimp only at *);omega,w.out.1,(z.out.k.gr z.out.g).widen X.out y.out.size E.out,y.out,b5.out⟩
      | some x3 =>
       obtain⟨p1,p2,p3,p4,p5⟩:=q;have m0:=j.m0;have m1:=j.m1;have m2:=j.m2;have m3:=j.m3;have mz:=j.mz;have H:=j.lt;have d5:M≠w3.heap.size:=(by have:=b4.out.lt;omega);have d3:w3.heap.size<w4.heap.size:=ae p2;clear j p1;go_upto_region 5 with(fail);(try rw[D]);clear D;go_wp2;refine bodyPost_ret (v:=.tuple #[.agg #[.int .i64 n1,.int .i64 n2,.int .i64 n3,.string n4],.bool true]) (by simp[results,results72,go_sem,m0,m1,m2,m3]) rfl ?_;rw[show bP c=(c3,some x3)from hx.out];exact⟨by rw[←DR kk,b6.out];rfl,z.out.done X.out E.out y.out (uU w4 M _ _ _ _)⟩
end
def j9 (b:Nat)(T:Nat→Prop)(W:World)(c:Wn):Prop :=
 (∃R J TJ,WnS b R J TJ W c∧T b∧T R∧∀i,TJ i→T i)∧∀k,T k→k<W.heap.size
theorem m4 (b:Nat):Kin (j9 b) :=
 ⟨fun {T T' W x} ⟨⟨R,J,TJ,k,a,d,f⟩,_⟩ g hl=>⟨⟨R,J,TJ,k,g _ a,g _ d,λi e=>g _ (f i e)⟩,hl⟩,
  fun {T S W m x} ⟨⟨R,J,TJ,k,a,d,f⟩,hl⟩ j hs=>⟨⟨R,J,TJ,k.ch j (hs _ a) (hs _ d) (λi e=>hs _ (f i e)),a,d,f⟩,λk l=>qj (hl k l) j.size⟩,
  fun {T W x} h=>h.2⟩
section
variable {b:Nat} {T:Nat→Prop} {W:World} {c:Wn}
theorem lk (h:j9 b T W c):Calls prog 48 #[.pointer (some ⟨b,0,none⟩)] W λe w'=>e=.returned (.int .i64 c.st)∧W=w':=by
 obtain⟨⟨R,J,TJ,k,_⟩,_⟩:=h;exact gH k
theorem BM (h:j9 b T W c):Calls prog 46 #[.pointer (some ⟨b,0,none⟩)] W λe w'=>e=.returned (.tuple #[])∧Pst (j9 b) T W (ia c) w':=by
 obtain⟨⟨R,J,TJ,k,d,g,j⟩,hl⟩:=h;refine(ld k).mono ?_;rintro e w'⟨rfl,a,f⟩;exact⟨rfl,(m4 b).pst (T:=T) ⟨⟨R,J,TJ,a,d,g,j⟩,λk a=>qj (hl k a) f.size⟩ (f.mono λi e=>by rw[e];exact d)⟩
theorem sw (h:j9 b T W c)(s:List UInt8)(hs:c.r.inp.length+s.length≤4611686018427387900) :
  Calls prog 40 #[.pointer (some ⟨b,0,none⟩),.string ⟨s.toArray⟩] W λe w'=>e=.returned (.tuple #[])∧Pst (j9 b) T W (aN c s) w':=by
 obtain⟨⟨R,J,TJ,k,g,d,j⟩,hl⟩:=h;refine(yM k s hs).mono ?_;rintro e w'⟨rfl,a,f⟩;exact⟨rfl,(m4 b).pst (T:=T) ⟨⟨R,J,TJ,a,g,d,j⟩,λk a=>qj (hl k a) f.size⟩ (f.mono λi e=>by rw[e];exact d)⟩
theorem BN (h:j9 b T W c):Calls prog 60 #[.pointer (some ⟨b,0,none⟩)] W λe w'=>e=.returned (.int .i64 (if c.st=1 then 0 else 11))∧Pst (j9 b) T W (cS c) w':=by
 obtain⟨⟨R,J,TJ,k,d,g,j⟩,hl⟩:=h;refine(yN k).mono ?_;rintro e w'⟨rfl,a,f⟩;exact⟨rfl,(m4 b).pst (T:=T) ⟨⟨R,J,TJ,a,d,g,j⟩,λk a=>qj (hl k a) f.size⟩ (f.mono λi e=>by rw[e];exact d)⟩
theorem BO {n:Nat}(h:j9 b T W c)(j:WnB n c)(hn:n≤4611686018427387900) :
  Calls prog 72 #[.pointer (some ⟨b,0,none⟩)] W λe w'=>e=.returned (.tuple #[bn 0 (bP c).2,.bool (bP c).2.isSome])∧Pst (j9 b) T W (bP c).1 w':=by
 obtain⟨⟨R,J,TJ,k,a,d,f⟩,hl⟩:=h;refine(yU k j hn).mono ?_;rintro e w'⟨rfl,l,g⟩;refine⟨rfl,⟨⟨R,J,_,l,.inl a,.inl d,λi e=>e.imp_left (f i)⟩,qE g.size hl⟩,g.mono λi e=>?_⟩;rcases e with e | e | e
 ·rw[e];exact a
 ·rw[e];exact d
 ·exact f i e
end
theorem xA (W:World)(n:Nat)(hn:n≤1099511627776) :
  Calls prog 37 #[.int .i64 n] W λe w'=>∃b,e=.returned (.tuple #[.pointer (some ⟨b,0,none⟩),.int .i64 0])∧j9 b (New W w') w' (wn0 n)∧Gr W w':=by
 have w:=qq (DP W n hn);go_enter func37,ntmps37;go_wp2_with fail;refine w.out.mono ?_;rintro e j⟨rfl,s,q⟩;have z:=qq (An j);have g:=qq s;have d:=qq q;clear s q;go_wp2_with fail;refine z.out.mono ?_;rintro e h⟨rfl,t,r,u⟩;have m:=qq t;have f:=qq r;have p:=qq u;clear t r u;go_wp2;refine bodyPost_ret (v:=.tuple #[.pointer (some ⟨h.heap.size,0,none⟩),.int .i64 0]) (by simp[results,results37,go_sem]) rfl ?_;obtain⟨w3,a⟩:∃w3,h.alloc (.cells #[.pointer (some ⟨j.heap.size,0,none⟩),.pointer (some ⟨W.heap.size,0,none⟩),.int .i64 1,.int .i64 0,.string ⟨#[]⟩] 119)=w3:=⟨_,rfl⟩;rw[a];have l:Gr h w3:=a▸Gr.alloc _ _;have C:w3.heap.size=h.heap.size+1:=by rw[←a];simp
 have A:=Below.size d.out;have B:=p.out;have y:=(cZ _).lt g.out;have x:WnS h.heap.size j.heap.size W.heap.size (New W j) w3 (wn0 n) :=
  ⟨by rw[←a];exact aa _ _ _ 0 _ rfl,by rw[←a];exact aa _ _ _ 1 _ rfl,by rw[←a];exact aa _ _ _ 2 _ rfl,by rw[←a];exact aa _ _ _ 3 _ rfl,by rw[←a];exact aa _ _ _ 4 _ rfl,
   λo=>by rw[←a];exact World.frozen?_alloc_at _ _ _ _ rfl,m.out.ch (l.to_ch (λ_=>False)) id,(cZ _).gr g.out (f.out.trans l),by omega,λe=>by have:=e.2;omega,λe=>by have:=e.2;omega⟩
 refine⟨_,rfl,⟨⟨_,_,_,x,⟨by omega,by omega⟩,⟨by omega,by omega⟩,λi e=>⟨e.1,by have:=e.2;omega⟩⟩,λk e=>e.2⟩,(d.out.trans f.out).trans l⟩
structure RgS (B R m f:Nat)(W:World)(max:Nat)(xs:List (List UInt8))(lv:Value):Prop where
 c0:W.cell? ⟨B,0,none⟩=some (.int .i64 max)
 c1:W.cell? ⟨B,1,none⟩=some (.int .i64 f)
 c2:W.cell? ⟨B,2,none⟩=some (.int .i64 xs.length)
 c3:W.cell? ⟨B,3,none⟩=some lv
 hl:(m=0∧lv=.slice none 0 0)∨(0<m∧lv=.slice (some ⟨R,0,none⟩) m m)
 fz:∀o,W.frozen? ⟨B,o,none⟩=false
 fr:0<m→∀o,W.frozen? ⟨R,o,none⟩=false
 hn:xs.length≤m
 hm:m≤max
 hM:max≤65536
 hf:f<m∨(m=0∧f=0)
 row:∀i (h:i<xs.length),W.cell? ⟨R,(f+i) % m,none⟩=some (.string ⟨xs[i].toArray⟩)
 all:∀j,j<m→∃u:List UInt8,W.cell? ⟨R,j,none⟩=some (.string ⟨u.toArray⟩)
 ne:0<m→R≠B
theorem RgS.gr {B R m f:Nat}{W a:World}{max:Nat}{xs:List (List UInt8)}{lv:Value}(h:RgS B R m f W max xs lv)(g:Gr W a):RgS B R m f a max xs lv :=
 ⟨g.cell h.c0,g.cell h.c1,g.cell h.c2,g.cell h.c3,h.hl,λo=>(Below.frozen g (show B<W.heap.size from ae h.c0)).trans (h.fz o),
  λhm o=>(Below.frozen g (show R<W.heap.size from ae (h.all 0 hm).choose_spec)).trans (h.fr hm o),h.hn,h.hm,h.hM,h.hf,λi hi=>g.cell (h.row i hi),λj d=>(h.all j d).imp λ_ e=>g.cell e,h.ne⟩
theorem m5 (B R m f i:Nat)(W:World)(c1:W.cell? ⟨B,1,none⟩=some (.int .i64 f))(c3:W.cell? ⟨B,3,none⟩=some (.slice (some ⟨R,0,none⟩) m m))(hm:0<m)(a:m≤65536)(hf:f<m)(hi:i≤65536) :
  Calls prog 99 #[.pointer (some ⟨B,0,none⟩),.int .i64 i] W λe w'=>e=.returned (.int .i64 ((f+i) % m:Nat))∧Gr W w':=by
 have d:((m:Int)==0)=false:=qk.2 (by omega);go_enter func99,ntmps99;go_wp2;go_quiet (fail);go_wp2;go_ret;exact⟨by simp,below_drewNm _ _⟩
theorem kg {B R m f i:Nat}{W:World}(c1:W.cell? ⟨B,1,none⟩=some (.int .i64 f))(c3:W.cell? ⟨B,3,none⟩=some (.slice (some ⟨R,0,none⟩) m m))(hm:0<m)(a:m≤65536)(hf:f<m)(hi:i≤65536)(x:Later (Gr W)) :
  Calls prog 99 #[.pointer (some ⟨B,0,none⟩),.int .i64 i] x.w λe w'=>e=.returned (.int .i64 ((f+i) % m:Nat))∧∃y:Later (Gr W),w'=y.w :=
 Calls.later ((m5 B R m f i x.w (x.ok.cell c1) (x.ok.cell c3) hm a hf hi).mono λ_ w' ⟨d,g⟩=>⟨d,x.ok.trans g⟩)
theorem sx {B R m f:Nat}{W:World}{max:Nat}{xs:List (List UInt8)}{lv:Value}(h:RgS B R m f W max xs lv) :
  Calls prog 83 #[.pointer (some ⟨B,0,none⟩)] W λe w'=>e=.returned (.int .i64 xs.length)∧W=w':=by
 have c2:=h.c2;clear h;go_enter func83,ntmps83;go_wp2;go_ret;exact⟨rfl,rfl⟩
theorem BP {B R m f:Nat}{W:World}{max:Nat}{xs:List (List UInt8)}{lv:Value}(h:RgS B R m f W max xs lv)(i:Nat)(hi:xs.length≤i) :
  Calls prog 98 #[.pointer (some ⟨B,0,none⟩),.int .i64 i] W λe w'=>e=.returned (.tuple #[.string ⟨#[]⟩,.bool false])∧W=w':=by
 have c2:=h.c2;have a:¬(i:Int)<0:=by omega
 have d:(xs.length:Int)≤i:=by omega
 clear h;go_enter func98,ntmps98;go_wp2;go_ret2;exact⟨rfl,rfl⟩
theorem sy {B R m f:Nat}{W:World}{max:Nat}{xs:List (List UInt8)}{lv:Value}(h:RgS B R m f W max xs lv)(i:Nat)(hi:i<xs.length) :
  Calls prog 98 #[.pointer (some ⟨B,0,none⟩),.int .i64 i] W λe w'=>e=.returned (.tuple #[.string ⟨xs[i].toArray⟩,.bool true])∧Gr W w':=by
 have c2:=h.c2;have hn:=h.hn;have k:m≤65536:=qy h.hm h.hM;have j:0<m:=by omega
 have hf:f<m:=by rcases h.hf with e | e <;> omega
 obtain⟨_,rfl⟩:0<m∧lv=.slice (some ⟨R,0,none⟩) m m:=by
  rcases h.hl with e | e
  ·omega
  ·exact e
 have d:=h.row i hi;have l:(f+i) % m<m:=Nat.mod_lt _ j;haveI:Nonempty (Later (Gr W)):=⟨⟨W,Gr.refl W⟩⟩;have t:∀x:Later (Gr W),x.w.cell? ⟨B,3,none⟩=some (.slice (some ⟨R,0,none⟩) m m):=λx=>x.ok.cell h.c3;have o:∀x:Later (Gr W),x.w.cell? ⟨R,(f+i) % m,none⟩=some (.string ⟨xs[i].toArray⟩):=λx=>x.ok.cell d;have k1:=qq h.c1;have k3:=qq h.c3;obtain⟨p,n⟩:∃p,(f+i) % m=p:=⟨_,rfl⟩;have a:=kg (R:=R) (m:=m) k1.out k3.out j k hf (show i≤65536 by omega);rw[n]at l o d;simp only[n]at a;have a:=qq a;have r:¬(i:Int)<0:=by omega
 have s:¬(xs.length:Int)≤i:=by omega
 clear h;go_enter func98,ntmps98;go_wp2;refine ah (C:=Gr W) (by kernel_rfl) (by kernel_rfl) (Gr.drew' _) ?_;repeat (go_big_quiet_step (with_reducible exact a.out _))
 refine wpQuiet_nil ?_;intro u g;have q:=qq g;clear t o g;go_wp2;go_ret2;exact⟨rfl,q.out⟩
theorem yV {B R m f:Nat}{W:World}{max:Nat}{lv:Value}(h:RgS B R m f W max [] lv) :
  Calls prog 75 #[.pointer (some ⟨B,0,none⟩)] W λe w'=>e=.returned (.tuple #[.string ⟨#[]⟩,.bool false])∧W=w':=by
 have h0:=qq (BP h 0 (qv _));clear h;go_enter func75,ntmps75;go_wp2_with fail;refine(h0.out).mono ?_;rintro e a⟨rfl,rfl⟩;go_wp2;go_ret2;exact⟨rfl,rfl⟩
theorem RgS.pop {B R m f:Nat}{W W2 z:World}{max:Nat}{a:List UInt8}{l:List (List UInt8)}{lv:Value}(h:RgS B R m f W max (a :: l) lv)(q:W.setCell ⟨R,f,none⟩ (.string ⟨#[]⟩)=W2)(g:Gr W2 z) :
  RgS B R m ((f+1) % m) ((z.setCell ⟨B,1,none⟩ (.int .i64 ((f+1) % m:Nat))).setCell ⟨B,2,none⟩ (.int .i64 l.length)) max l lv:=by
 have hn:=h.hn;simp only[List.length_cons]at hn;have n:0<m:=by omega
 have hf:f<m:=by rcases h.hf with e | e <;> omega
 have t:=h.ne n;subst q;have k:∀ {o p:Nat},(⟨R,o,none⟩:Addr).block≠(⟨B,p,none⟩:Addr).block:=fun {_ _}=>t;have r:∀ {o p:Nat},(⟨B,o,none⟩:Addr).block≠(⟨R,p,none⟩:Addr).block:=fun {_ _} e=>t e.symm;have d:∀ {j:Nat} {u:Value} {w:World} {x y:Value} {F H:Nat},w.cell? ⟨R,j,none⟩=some u→((w.setCell ⟨B,F,none⟩ x).setCell ⟨B,H,none⟩ y).cell? ⟨R,j,none⟩=some u:=λC=>ai (ai C r) r;refine⟨?_,?_,?_,?_,h.hl,λo=>?_,λhm o=>?_,by omega,h.hm,h.hM,.inl (Nat.mod_lt _ n),λi hi=>?_,λj D=>?_,h.ne⟩
 ·exact ac (ac (g.cell (ai h.c0 k)) (by decide)) (by decide)
 ·exact ac (af (g.cell (ai h.c1 k))) (by decide)
 ·exact af (ac (g.cell (ai h.c2 k)) (by decide))
 ·exact ac (ac (g.cell (ai h.c3 k)) (by decide)) (by decide)
 ·rw[ag,ag];exact(Below.frozen g (by simpa using ae h.c0)).trans (ag.trans (h.fz o))
 ·rw[ag,ag];exact(Below.frozen g (by simpa using ae (h.all 0 n).choose_spec)).trans (ag.trans (h.fr hm o))
 ·have E:=h.row (i+1) (by simp;omega);have e:((f+1) % m+i) % m=(f+(i+1)) % m:=by rw[Nat.mod_add_mod,show f+1+i=f+(i+1) by omega]
  rw[e];refine d (g.cell ?_);have v:(f+(i+1)) % m≠f:=by
   intro e2;have I:i+1<m:=(by omega);rcases Nat.lt_or_ge (f+(i+1)) m with q | q
   ·rw[Nat.mod_eq_of_lt q]at e2;omega
   ·rw[Nat.mod_eq_sub_mod q,Nat.mod_eq_of_lt (by omega)]at e2;omega
  exact ac E v
 ·obtain⟨u,A⟩:=h.all j D;by_cases s:j=f
  ·subst s;exact⟨[],d (g.cell (af A))⟩
  ·exact⟨u,d (g.cell (ac A s))⟩
theorem yW {B R m f:Nat}{W:World}{max:Nat}{a:List UInt8}{l:List (List UInt8)}{lv:Value}(h:RgS B R m f W max (a :: l) lv) :
  Calls prog 75 #[.pointer (some ⟨B,0,none⟩)] W λe w'=>e=.returned (.tuple #[.string ⟨a.toArray⟩,.bool true])∧RgS B R m ((f+1) % m) w' max l lv∧Ch (λk=>k=B∨k=R) W w':=by
 have h0:=qq (sy h 0 (Nat.zero_lt_succ _));have V:=qq h;have hn:=h.hn;simp only[List.length_cons]at hn;have E:m≤65536:=qy h.hm h.hM;have n:0<m:=by omega
 have hf:f<m:=by rcases h.hf with e | e <;> omega
 obtain⟨_,rfl⟩:0<m∧lv=.slice (some ⟨R,0,none⟩) m m:=by
  rcases h.hl with e | e
  ·omega
  ·exact e
 have H:=h.ne n;clear h;go_enter func75,ntmps75;go_wp2_with fail;refine(h0.out).mono ?_;rintro e z⟨rfl,j⟩;have v:=V.out.gr j;have D:=qq v;have j:=qq j;obtain⟨u,M⟩:=v.all f hf;have c1:=v.c1;have c3:=v.c3;have fr:=v.fr n;haveI:Nonempty (Later (Gr z)):=⟨⟨z,Gr.refl z⟩⟩;have t1:∀x:Later (Gr z),x.w.cell? ⟨B,1,none⟩=some (.int .i64 f):=λx=>x.ok.cell c1;have t3:∀x:Later (Gr z),x.w.cell? ⟨B,3,none⟩=some (.slice (some ⟨R,0,none⟩) m m):=λx=>x.ok.cell c3;clear v h0;go_upto_region 4 with(fail);refine ak (C:=Gr z) 10 (by kernel_rfl) (by kernel_rfl) (Gr.drew' _) ?_;simp only[List.take_succ_cons,List.take_zero,List.drop_succ_cons,List.drop_zero];repeat (go_big_quiet_step (fail))
 refine wpQuiet_nil ?_;intro i g;have y:=qq (D.out.gr g);have a0:=g.cell M;have U:∀o,i.frozen? ⟨R,o,none⟩=false:=y.out.fr n;have X:=qq (j.out.trans g);clear t1 t3 g M fr c1 c3;have F:(l.length:Int)+1 - 1=l.length:=by omega
 go_upto_region 5 with(fail);obtain⟨W2,d⟩:∃x,i.setCell ⟨R,f,none⟩ (.string ⟨#[]⟩)=x:=⟨_,rfl⟩;rw[d];have s:∀ {o p:Nat},(⟨R,o,none⟩:Addr).block≠(⟨B,p,none⟩:Addr).block:=fun {_ _}=>H;have d1:W2.cell? ⟨B,1,none⟩=some (.int .i64 f):=d▸ai y.out.c1 s;have d2:W2.cell? ⟨B,2,none⟩=some (.int .i64 ((l.length:Int)+1)):=d▸ai y.out.c2 s;have d3:W2.cell? ⟨B,3,none⟩=some (.slice (some ⟨R,0,none⟩) m m):=d▸ai y.out.c3 s;have L:∀o,W2.frozen? ⟨B,o,none⟩=false:=λo=>d▸ag.trans (y.out.fz o);have q:=qq d;have S:=qq (show ∀w':World,(w'.cell? ⟨B,1,none⟩=some (.int .i64 f)∧w'.cell? ⟨B,3,none⟩=some (.slice (some ⟨R,0,none⟩) m m))→Calls prog 99 #[.pointer (some ⟨B,0,none⟩),.int .i64 1] w' λe i=>e=.returned (.int .i64 ((f+1) % m:Nat))∧Gr w' i from
  λw' N=>m5 B R m f 1 w' N.1 N.2 n E hf (by omega))
 have I:=qq (show ∀i,Gr W2 i→∀o,i.frozen? ⟨B,o,none⟩=false from λi g o=>(Below.frozen g (show B<W2.heap.size from ae d1)).trans (L o));clear d L;have Y:(l.length:Int)<65537:=by omega
 have O:IntKind.i64.wrap ((l.length:Int)+1 - 1)=l.length:=by rw[F];exact IntWalk.i64_in _ (by omega)
 have P:IntKind.i64.wrap (l.length:Int)=l.length:=IntWalk.i64_in _ (by omega);go_region_law (first | (go_simp;go_at_call 99;refine(S.out W2.drew ⟨d1,d3⟩).mono ?_;rintro e wd ⟨rfl,A⟩;have t:Gr W2 wd:=Gr.trans (Gr.drew (Gr.refl _)) A;have r:=qq t;replace d1:=A.cell d1;replace d2:=A.cell d2;have z1:=I.out _ t 1;have z2:=I.out _ t 2));all_goals
  go_wp2;go_ret2;refine⟨rfl,?_,?_⟩
  ·have Z:=y.out.pop q.out r.out;exact Z
  ·have c1:Ch (λk=>k=B∨k=R) i W2:=q.out▸Ch.setCell i (a:=⟨R,f,none⟩) (.inr rfl) _;exact((X.out.to_ch _).trans (c1.trans (r.out.to_ch _))).trans ((Ch.setCell _ (a:=⟨B,1,none⟩) (.inl rfl) _).trans (Ch.setCell _ (a:=⟨B,2,none⟩) (.inl rfl) _))
def fW {α:Type}:Nat→List α→List (Nat×α)
 | _,[]=>[]
 | i,a :: l=>(i,a) :: fW (i+1) l
theorem eJ {α:Type}:∀(l:List α) (i:Nat),(fW i l).length=l.length
 | [],_=>rfl
 | _ :: l,i=>by rw[fW,List.length_cons,eJ l,List.length_cons]
theorem kh {α:Type}:∀(l:List α) (i k:Nat) (h:k<(fW i l).length) (d:k<l.length),(fW i l)[k]=(i+k,l[k])
 | [],_,_,h,_=>absurd h (Nat.not_lt_zero _)
 | a :: l,i,0,_,_=>rfl
 | a :: l,i,k+1,h,d=>by
  simp only[fW,List.getElem_cons_succ];rw[kh l (i+1) k];rw[show i+1+k=i+(k+1) by omega]
theorem xB {α:Type}{l:List α}{a rest:List (Nat×α)}{x:Nat×α}(h:fW 0 l=a++x :: rest):∃g:a.length<l.length,x=(a.length,l[a.length]):=by
 have d:a.length<(fW 0 l).length:=by rw[h];simp
 have e:a.length<l.length:=by rwa [eJ]at d
 refine⟨e,?_⟩;have f:=kh l 0 a.length d e;rw[Nat.zero_add]at f;rw[←f];simp[h]
theorem gI {α:Type}(l:List α)(k:Nat)(h:k<l.length):fW 0 l=(fW 0 l).take k++(k,l[k]) :: (fW 0 l).drop (k+1):=by
 have a:k<(fW 0 l).length:=by rw[eJ];exact h
 have d:=kh l 0 k a h;rw[Nat.zero_add]at d;rw[←d,←List.drop_eq_getElem_cons a,List.take_append_drop]
theorem pn {α:Type}(l:List α)(k:Nat)(h:k<l.length):(fW 0 l).take k++[(k,l[k])]=(fW 0 l).take (k+1):=by
 have d:k<(fW 0 l).length:=by rw[eJ];exact h
 have a:=kh l 0 k d h;rw[Nat.zero_add]at a;rw[←a];simp[List.take_concat_get]
def BQ (s:List UInt8):List Value:=[.string ⟨s.toArray⟩]
theorem sA:(prog.info? 9).map (λi=>(i.zero,i.size,i.bytes))=some (some (.string ⟨#[]⟩),1,16):=by kernel_rfl
def EZ (x:Nat×List UInt8):Array Value:=#[.int .i64 x.1,.string ⟨x.2.toArray⟩]
theorem BR (B:Nat)(W:World) :
  Calls prog 180 #[.pointer (some ⟨B,0,none⟩)] W λe w'=>e=.returned (.func (.func 223) #[] #[.pointer (some ⟨W.heap.size,0,none⟩)])∧W.alloc (.cells #[.pointer (some ⟨B,0,none⟩)] 104)=w':=by
 go_enter func180,ntmps180;go_wp2;go_ret;exact⟨rfl,rfl⟩
theorem yX {B R m f:Nat}{W0:World}{max:Nat}{xs:List (List UInt8)}{lv:Value}(M:Nat)(hv:W0.cell? ⟨M,0,none⟩=some (.pointer (some ⟨B,0,none⟩))) :
  xT prog 223 #[.pointer (some ⟨M,0,none⟩)] EZ (fW 0 xs) (λk=>k=M) (λA=>RgS B R m f A max xs lv) W0:=by
 intro W l J Jx U c2 hT hU hJ S P hY h0;have N:W.cell? ⟨M,0,none⟩=some (.pointer (some ⟨B,0,none⟩)):=(World.cell?_of_block (hT M rfl)).trans hv;have q:=P _ _ h0;have c1:xs.length≤65536:=qy q.hn (qy q.hm q.hM);obtain⟨i0,hi,b1,b2,b3⟩:=info_parts sA;have a6:=qq hJ;have b5:=qq S;have a9:=qq hY;have a8:=qq hU;have a5:=qq h0;have E:=qq q;have a4:=qq N;clear hJ S hY hU h0 hT hv P q;have b9:∀f,Fence.wide.fn f:=λ_=>trivial;have b8:Fence.wide.depth=none:=rfl;refine callsIn_of_wp func223 rfl trivial ?_ rfl;simp only[ntmps223,List.size_toArray,List.length_cons,List.length_nil,Nat.reduceAdd,Nat.reduceSub,Array.replicate_succ,Array.replicate_zero,List.push_toArray,List.append_toArray,List.nil_append,List.cons_append];gi_wp2_with (fail);refine(callsIn_wide.2 (sx E.out)).mono ?_;rintro e w1⟨rfl,rfl⟩;clear N;gi_wp2;gi_loopw [3,11] (λvl i wr=>∃k:Nat,k≤xs.length∧i=.int .i64 k∧wr.ownsRow W.heap.size 9 1 vl k (dF BQ (xs.take k))∧Gr W wr) (λ_ i _=>xs.length - (intOf i).toNat)
 case atStart=>exact⟨0,qx _,rfl,World.ownsRow_nil _ _ _ _,Gr.refl _⟩
 case round =>
  obtain⟨k,hk,rfl,v,hg⟩:=hrel;have N:=hg.cell a4.out;obtain⟨pv,cv,rfl⟩:=aJ v;have d:=qq v;have s:=qq hg;clear v hg;by_cases a:k<xs.length
  ·gi_wp2_with (fail);refine(callsIn_wide.2 (sy (E.out.gr s.out) k a)).mono ?_;rintro e L⟨rfl,o⟩;have a1:∀O,(L.alloc O).ownsRow W.heap.size 9 1 (.slice pv k cv) k (dF BQ (xs.take k)):=λO=>World.ownsRow.alloc (dG d.out o) O;have b7:=qy (Below.size s.out) (Below.size o);have k2:∀j u,[Value.string ⟨xs[k].toArray⟩][j]?=some u→(L.alloc (.cells #[.string ⟨xs[k].toArray⟩] 9)).cell? ((⟨L.heap.size,0,none⟩:Addr).add j)=some u:=lD L [.string ⟨xs[k].toArray⟩] 9;have k3:∀u∈[Value.string ⟨xs[k].toArray⟩],u.oneCell'=true:=(by simp[Value.oneCell']);have k4:k+1≤maxLen:=(by unfold maxLen;omega);have k5:(k+1)*16≤140737488355328:=(by omega);have k6:W.heap.size≤(L.alloc (.cells #[.string ⟨xs[k].toArray⟩] 9)).heap.size:=(by simp;omega);have Y:=qq (s.out.trans o);clear N o;gi_wp2_with (gi_at_builtin;refine wpListIn_append_own _ rfl _ _ 86 rfl W.heap.size 9 i0 (.string ⟨#[]⟩) 1 16 underlying86 hi b1 b2 b3 rfl (by decide) _ _ _ rfl (a1 _) ⟨L.heap.size,0,none⟩ 1 1 [.string ⟨xs[k].toArray⟩] rfl rfl k2 k3 k4 k5 k6 ?_);intro b4 w3 w n _;have x:∃j:Nat,j≤xs.length∧Value.int .i64 ((k:Int)+1)=.int .i64 j∧w3.ownsRow W.heap.size 9 1 b4 j (dF BQ (xs.take j))∧Gr W w3:=by
    refine⟨k+1,by omega,by simp,?_,?_⟩
    ·rw[List.take_succ_eq_append_getElem a,nP,l4];exact w
    ·refine(Y.out.alloc1 _).ch (dx n) (λj I=>?_);exact((d.out.lt j I).1)
   have C:=qq x;clear x w n k2 k3 k4 k5 k6 a1;gi_wp2;go_roundw
   case rel=>exact C.out
   case measure=>simp[intOf];omega
  ·obtain rfl:k=xs.length:=(by omega);have D:=d.out;rw[List.take_length]at D;have b6:=qq D;have a2:=qq (Below.size s.out);have a7:=qq (a6.out _ _ _ a5.out (s.out.to_ch _));have r:∀k (h:k<xs.length),∃g,pv=some ⟨g,0,none⟩∧W.heap.size≤g∧g<wr.heap.size∧wr.cell? ⟨g,k,none⟩=some (.string ⟨xs[k].toArray⟩):=λk h=>by
    obtain⟨g,cap,e,h1,h2,h3⟩:=kD D (by omega);cases e;refine⟨g,rfl,h1,h2,?_⟩;have:=ew (f:=BQ) (k:=1) (λ_=>rfl) xs k 0 h (by decide);rw[h3 k (by omega)];simpa[BQ]using this
   have z:=qq r;clear D r N;gi_wp2;gi_loopw [27] (λi w'=>∃k:Nat,k≤xs.length∧i=.int .i64 k∧J ((fW 0 xs).take k) w'∧W.heap.size≤w'.heap.size∧Ch (λj=>j<W.heap.size) wr w') (λi _=>xs.length - (intOf i).toNat)
   case atStart=>exact⟨0,qx _,rfl,a7.out,a2.out,Ch.refl _ _⟩
   case round =>
    obtain⟨k,hk,rfl,I,a3,V⟩:=hrel;have a0:=qq I;have F:=qq V;clear I V;by_cases a:k<xs.length
    ·obtain⟨g,rfl,c0,o,Z⟩:=z.out k a;have hc:wr.cell? ⟨g,k,none⟩=some (.string ⟨xs[k].toArray⟩):=(F.out.cell (p:=⟨g,k,none⟩) o (by(try dsimp only);omega)).trans Z;have H:=a9.out _ _ _ wr (gI xs k a) a3 a0.out;unfold EZ at H;dsimp only at H;obtain⟨fn,tmps,assign,body,hy,hR⟩:=H;clear Z;gi_wp2;refine hR.mono ?_;rintro e A (⟨rfl,t,y⟩ | ⟨rfl,t,y⟩)
     ·rw[pn xs k a]at t;have b0:=qq t;have hA:=qq (qy a3 y.size);have X:=qq (F.out.trans (y.mono (λj I=>(a8.out j I).1)));clear hc y t hy hR;gi_wp2;go_roundw
      case rel=>exact⟨k+1,by omega,by simp,b0.out,hA.out,X.out⟩
      case measure=>simp[intOf];omega
     ·gi_wp2;refine bodyPost_ret (results_none rfl _ _ _) rfl ?_;exact⟨rfl,.inr ⟨_,⟨(fW 0 xs).drop (k+1),by rw[List.append_assoc];exact(gI xs k a).symm⟩,t⟩⟩
    ·obtain rfl:k=xs.length:=(by omega);gi_wp2;go_end0;refine⟨rfl,.inl ?_⟩;have:=a0.out
     rwa [List.take_of_length_le (by rw[eJ];exact qv _)]at this
