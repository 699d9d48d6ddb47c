/-
  What waits to be written, in memory: the next one.
-/
import Derived.Test.YtadobobfjnmdlaaGreatDoorQj
set_option linter.unnecessarySimpa false
set_option linter.unusedVariables false
set_option linter.unusedSimpArgs false
set_option maxHeartbeats 16000000
set_option maxRecDepth 100000
open Go.Proofs.Tryz
namespace Go.Proofs.YtadobobfjnmdlaaGreatDoor
open Go.RowKit Go.Shelf
attribute [local go_sem] Oper.semAt_some
structure RbZ (rb:Nat)(W:World):Prop where
 k:W.cell? ⟨rb,0,none⟩=some (.int .i64 0)
 o:W.cell? ⟨rb,1,none⟩=some (.int .i64 0)
 t:W.cell? ⟨rb,2,none⟩=some (.string ⟨#[]⟩)
 fz:∀o,W.frozen? ⟨rb,o,none⟩=false
theorem RbZ.lt {rb:Nat}{W:World}(h:RbZ rb W):rb<W.heap.size:=ae h.k
theorem RbZ.ch {rb:Nat}{T:Nat→Prop}{W c:World}(h:RbZ rb W)(b:Ch T W c)(a:¬T rb):RbZ rb c :=
 ⟨(b.cell (p:=⟨rb,0,none⟩) h.lt a).trans h.k,(b.cell (p:=⟨rb,1,none⟩) h.lt a).trans h.o,(b.cell (p:=⟨rb,2,none⟩) h.lt a).trans h.t,λo=>(b.frozen (p:=⟨rb,o,none⟩) h.lt a).trans (h.fz o)⟩
theorem RbZ.gr {rb:Nat}{W a:World}(h:RbZ rb W)(g:Gr W a):RbZ rb a:=h.ch (g.to_ch (λ_=>False)) id
theorem gS (W:World)(t:TypeId):RbZ W.heap.size (W.alloc (.cells #[.int .i64 0,.int .i64 0,.string ⟨#[]⟩] t)) :=
 ⟨aa _ _ _ 0 _ rfl,aa _ _ _ 1 _ rfl,aa _ _ _ 2 _ rfl,λ_=>World.frozen?_alloc_at _ _ _ _ rfl⟩
theorem BxS.fin {b rb:Nat}{c:Nat→Nat}{T:Nat→Prop}{W W2:World}{x:Bx}{q r:Nat}{p cv:Value}(h:BxS b c W2 x q r p cv)(hl:∀k,T k→k<W.heap.size)(n:Ch T W W2)(f:∀k,c k≠0→T k∨New W W2 k)(h0:c rb=0)(d:W.heap.size≤rb)(i l m:Value) :
  Pst (cN b) T W x (((W2.setCell ⟨rb,0,none⟩ i).setCell ⟨rb,1,none⟩ l).setCell ⟨rb,2,none⟩ m):=by
 have e:Ch (λk=>k=rb) W2 (((W2.setCell ⟨rb,0,none⟩ i).setCell ⟨rb,1,none⟩ l).setCell ⟨rb,2,none⟩ m) :=
  ((Ch.setCell (T:=λk=>k=rb) _ (a:=⟨rb,0,none⟩) rfl _).trans (Ch.setCell (T:=λk=>k=rb) _ (a:=⟨rb,1,none⟩) rfl _)).trans (Ch.setCell (T:=λk=>k=rb) _ (a:=⟨rb,2,none⟩) rfl _)
 refine(h.frame e (λk f e=>f (by rw[show k=rb from e];exact h0))).pst hl (n.drop_new e (λj o=>.inr (by rw[show j=rb from o];exact d))) (λk g=>(f k g).imp id (λe=>⟨e.1,?_⟩));rw[World.size_setCell,World.size_setCell,World.size_setCell];exact e.2
def iH (o:Option It):Value:=.tuple #[(o.getD it0).V,.bool o.isSome]
theorem eA (x:It):iH (some x)=.tuple #[x.V,.bool true]:=rfl
theorem jR:iH none=.tuple #[it0.V,.bool false]:=rfl
theorem tK {c:Nat→Nat}{T:Nat→Prop}{W a b:World}{j:Nat}(d:∀k,c k≠0→T k)(hs:W.heap.size≤a.heap.size):∀k,bc c a b j k≠0→T k∨New W b k :=
 λk e=>(bO k e).imp (d k) (λe=>⟨qy hs e.1,e.2⟩)
theorem wm {b:Nat}{T:Nat→Prop}{W:World}{x:Bx}{s:List UInt8}{l:List (List UInt8)}(y:x.reps=s :: l)(h:cN b T W x) :
  Calls prog 43 #[.pointer (some ⟨b,0,none⟩)] W λe w'=>e=.returned (iH (some ⟨1,0,s⟩))∧Pst (cN b) T W { x with reps:=l } w':=by
 obtain⟨⟨c,D,E,C,cv,h,t⟩,hl⟩:=h;obtain⟨m,i⟩:∃m,W.alloc (.cells #[.int .i64 0,.int .i64 0,.string ⟨#[]⟩] 81)=m:=⟨_,rfl⟩;have n:Gr W m:=i▸Gr.alloc _ _;have u:RbZ W.heap.size m:=i▸gS _ _;have h0:c W.heap.size=0:=Decidable.byContradiction λe=>Nat.lt_irrefl _ (h.lt _ e);have d:=h.gr n;have c0:=d.c0;have hn:=qq (aM d);have w:=qq (qZ (y▸d.k1));have o:=qq d;have g:=qq t;have q:=qq hl;have a:=qq n;have j:=qq u;clear h d t hl n u;rw[eA];go_enter func43,ntmps43;go_wp2_with fail;refine(hn.out).mono ?_;rintro e H⟨rfl,rfl⟩;go_wp2_with fail;refine(w.out).mono ?_;rintro e F⟨rfl,p⟩;have r:=j.out.ch p.2 (by rw[h0];decide);obtain⟨z,A,B,I⟩:=r;have f:=qq p;clear p;go_wp2;refine bodyPost_ret (v:=.tuple #[(⟨1,0,s⟩:It).V,.bool true]) (by simp[results,results43,go_sem,It.V,z,A,B]) rfl ⟨rfl,?_⟩;have hs:=Below.size a.out;exact(o.out.reps f.out).fin q.out ((a.out.to_ch T).trans (f.out.2.mono (λk e=>g.out k (by rw[show c k=2 from e];decide)))) (tK g.out hs) (by rw[bI j.out.lt];exact h0) (qv _) _ _ _
theorem wo {b:Nat}{T:Nat→Prop}{W:World}{x:Bx}{s:List UInt8}(E:x.reps=[])(D:x.pong=some s)(h:cN b T W x) :
  Calls prog 43 #[.pointer (some ⟨b,0,none⟩)] W λe w'=>e=.returned (iH (some ⟨2,0,s⟩))∧Pst (cN b) T W { x with pong:=none } w':=by
 obtain⟨⟨c,N,O,M,cv,h,n⟩,hl⟩:=h;obtain⟨f,j⟩:∃f,W.alloc (.cells #[.int .i64 0,.int .i64 0,.string ⟨#[]⟩] 81)=f:=⟨_,rfl⟩;have l:Gr W f:=j▸Gr.alloc _ _;have A:RbZ W.heap.size f:=j▸gS _ _;have h0:c W.heap.size=0:=Decidable.byContradiction λe=>Nat.lt_irrefl _ (h.lt _ e);have i:b≠W.heap.size:=by
  intro e;have:=h.cb;rw[e,h0]at this;cases this
 have y:W.heap.size≠b:=i.symm;have d:=h.gr l;have c0:=d.c0;have hn:=qq (aM d);have C:=qq (de (E▸d.k1));have c2:=d.c2;have k3:=d.k3;rw[D]at k3;obtain⟨t,rfl,L,r⟩:=k3;have p:T b:=n b (by rw[d.cb];decide);have fz:=d.fz;have B:b<f.heap.size:=ae c0;have m:=qq d;have o:=qq n;have w:=qq hl;have g:=qq l;have z:=qq A;clear h d n hl l A;rw[eA];go_enter func43,ntmps43;go_wp2_with fail;refine(hn.out).mono ?_;rintro e F⟨rfl,rfl⟩;go_wp2_with fail;refine(C.out).mono ?_;rintro e F⟨rfl,rfl⟩;obtain⟨H,I,J,P⟩:=z.out;go_wp2;refine bodyPost_ret (v:=.tuple #[(⟨2,0,s⟩:It).V,.bool true]) (by simp[results,results43,go_sem,It.V,it0,H,I,J,i,y]) rfl ⟨rfl,?_⟩;have hs:=Below.size g.out;exact(m.out.setPong (q:=none) (u:=.pointer none) rfl).fin w.out ((g.out.to_ch T).trans (Ch.setCell f (a:=⟨b,2,none⟩) p _)) (λk e=>.inl (o.out k e)) h0 (qv _) _ _ _
theorem Ah {b:Nat}{T:Nat→Prop}{W:World}{x:Bx}{y:It}{l:List It}(F:x.reps=[])(E:x.pong=none)(hm:x.msgs=y :: l)(h:cN b T W x) :
  Calls prog 43 #[.pointer (some ⟨b,0,none⟩)] W λe w'=>e=.returned (iH (some y))∧Pst (cN b) T W { x with msgs:=l } w':=by
 obtain⟨⟨c,P,R,I,cv,h,s⟩,hl⟩:=h;obtain⟨o,j⟩:∃o,W.alloc (.cells #[.int .i64 0,.int .i64 0,.string ⟨#[]⟩] 81)=o:=⟨_,rfl⟩;have p:Gr W o:=j▸Gr.alloc _ _;have A:RbZ W.heap.size o:=j▸gS _ _;have h0:c W.heap.size=0:=Decidable.byContradiction λe=>Nat.lt_irrefl _ (h.lt _ e);have t:b≠W.heap.size:=by
  intro e;have:=h.cb;rw[e,h0]at this;cases this
 have H:W.heap.size≠b:=t.symm;have a:=h.gr p;have c0:=a.c0;have hn:=qq (aM a);have D:=qq (de (F▸a.k1));have c2:=a.c2;have k3:=a.k3;rw[E]at k3;have k3:I=.pointer none:=k3;subst k3;have c1:=a.c1;have w:=qq (rh (hm▸a.k2));have B:T b:=s b (by rw[a.cb];decide);have fz:=a.fz;have C:b<o.heap.size:=ae c0;have q:=qq a;have i:=qq s;have u:=qq hl;have f:=qq p;have m:=qq A;clear h a s hl p A;rw[eA];go_enter func43,ntmps43;go_wp2_with fail;refine(hn.out).mono ?_;rintro e L⟨rfl,rfl⟩;go_wp2_with fail;refine(D.out).mono ?_;rintro e L⟨rfl,rfl⟩;go_wp2_with fail;refine(w.out).mono ?_;rintro e J⟨rfl,r⟩;have n:=m.out.ch r.2 (by rw[h0];decide);have z:=qq n.lt;obtain⟨M,N,O,S⟩:=n;have g:=qq r;clear r;unfold It.V;have d:W.heap.size<J.heap.size:=z.out;go_wp2;refine bodyPost_ret (v:=.tuple #[.agg #[.int .i64 y.kind,.int .i64 y.op,.string ⟨y.text.toArray⟩],.bool true]) (by simp[results,results43,go_sem,M,N,O,d,Nat.ne_of_lt d,Nat.ne_of_gt d]) rfl ⟨rfl,?_⟩;have hs:=Below.size f.out;exact(eZ b).behind ((q.out.msgs g.out).fin u.out ((f.out.to_ch T).trans (g.out.2.mono (λk e=>i.out k (by rw[show c k=3 from e];decide)))) (tK i.out hs) (by rw[bI m.out.lt];exact h0) (qv _) _ _ _) (Gr.alloc _ _)
theorem tL {b:Nat}{T:Nat→Prop}{W:World}{x:Bx}{s:List UInt8}(S:x.reps=[])(R:x.pong=none)(hm:x.msgs=[])(O:x.close=some s)(h:cN b T W x) :
  Calls prog 43 #[.pointer (some ⟨b,0,none⟩)] W λe w'=>e=.returned (iH (some ⟨4,0,s⟩))∧Pst (cN b) T W { x with close:=none } w':=by
 obtain⟨⟨c,r1,r2,X,cv,h,B⟩,hl⟩:=h;obtain⟨p,n⟩:∃p,W.alloc (.cells #[.int .i64 0,.int .i64 0,.string ⟨#[]⟩] 81)=p:=⟨_,rfl⟩;have w:Gr W p:=n▸Gr.alloc _ _;have L:RbZ W.heap.size p:=n▸gS _ _;have h0:c W.heap.size=0:=Decidable.byContradiction λe=>Nat.lt_irrefl _ (h.lt _ e);have l:b≠W.heap.size:=by
  intro e;have:=h.cb;rw[e,h0]at this;cases this
 have H:W.heap.size≠b:=l.symm;have d:=h.gr w;have c0:=d.c0;have hn:=qq (aM d);have P:=qq (de (S▸d.k1));have c2:=d.c2;have k3:=d.k3;rw[R]at k3;have k3:X=.pointer none:=k3;subst k3;have c1:=d.c1;have F:=qq (ff (hm▸d.k2));have D:T b:=B b (by rw[d.cb];decide);have fz:=d.fz;have N:b<p.heap.size:=ae c0;have z:=qq d;have C:=qq B;have E:=qq hl;have y:=qq w;have I:=qq L;clear h d B hl w L;rw[eA];go_enter func43,ntmps43;go_wp2_with fail;refine(hn.out).mono ?_;rintro e Y⟨rfl,rfl⟩;go_wp2_with fail;refine(P.out).mono ?_;rintro e Y⟨rfl,rfl⟩;go_wp2_with fail;refine(F.out).mono ?_;rintro e r⟨rfl,g⟩;have j:=z.out.gr g;have o:=I.out.gr g;have c3:=j.c3;have k4:=j.k4;rw[O]at k4;obtain⟨t,rfl,ht,i⟩:=k4;have U:t<r.heap.size:=ae i;have M:=j.fz;have J:b<r.heap.size:=ae j.c0;have f:W.heap.size<r.heap.size:=o.lt;obtain⟨Z,z1,z2,z3⟩:=o;have A:=qq j;have m:=qq (y.out.trans g);clear g j;unfold It.V it0;go_wp2;refine bodyPost_ret (v:=.tuple #[(⟨4,0,s⟩:It).V,.bool true]) (by simp[results,results43,go_sem,It.V,it0,Z,z1,z2,l,H,f,Nat.ne_of_lt f,Nat.ne_of_gt f]) rfl ⟨rfl,?_⟩;exact(eZ b).behind ((A.out.setClose (q:=none) (u:=.pointer none) rfl).fin E.out ((m.out.to_ch T).trans (Ch.setCell r (a:=⟨b,3,none⟩) D _)) (λk e=>.inl (C.out k e)) h0 (qv _) _ _ _) (Gr.alloc _ _)
theorem Ai {b:Nat}{T:Nat→Prop}{W:World}{x:Bx}(N:x.reps=[])(M:x.pong=none)(hm:x.msgs=[])(I:x.close=none)(J:x.ends=true)(O:x.told=false)(h:cN b T W x) :
  Calls prog 43 #[.pointer (some ⟨b,0,none⟩)] W λe w'=>e=.returned (iH (some ⟨5,0,[]⟩))∧Pst (cN b) T W { x with told:=true } w':=by
 obtain⟨⟨c,Y,Z,P,cv,h,t⟩,hl⟩:=h;obtain⟨o,m⟩:∃o,W.alloc (.cells #[.int .i64 0,.int .i64 0,.string ⟨#[]⟩] 81)=o:=⟨_,rfl⟩;have p:Gr W o:=m▸Gr.alloc _ _;have E:RbZ W.heap.size o:=m▸gS _ _;have h0:c W.heap.size=0:=Decidable.byContradiction λe=>Nat.lt_irrefl _ (h.lt _ e);have j:b≠W.heap.size:=by
  intro e;have:=h.cb;rw[e,h0]at this;cases this
 have A:W.heap.size≠b:=j.symm;have d:=h.gr p;have c0:=d.c0;have hn:=qq (aM d);have L:=qq (de (N▸d.k1));have c2:=d.c2;have k3:=d.k3;rw[M]at k3;have k3:P=.pointer none:=k3;subst k3;have c1:=d.c1;have z:=qq (ff (hm▸d.k2));have w:T b:=t b (by rw[d.cb];decide);have fz:=d.fz;have H:b<o.heap.size:=ae c0;have r:=qq d;have u:=qq t;have y:=qq hl;have q:=qq p;have B:=qq E;clear h d t hl p E;rw[eA];go_enter func43,ntmps43;go_wp2_with fail;refine(hn.out).mono ?_;rintro e R⟨rfl,rfl⟩;go_wp2_with fail;refine(L.out).mono ?_;rintro e R⟨rfl,rfl⟩;go_wp2_with fail;refine(z.out).mono ?_;rintro e C⟨rfl,g⟩;have i:=r.out.gr g;have n:=B.out.gr g;have c3:=i.c3;have k4:=i.k4;rw[I]at k4;have k4:cv=.pointer none:=k4;subst k4;have c5:=i.c5;have c6:=i.c6;rw[J]at c5;rw[O]at c6;have F:=i.fz;have D:b<C.heap.size:=ae i.c0;have f:W.heap.size<C.heap.size:=n.lt;obtain⟨S,U,X,z3⟩:=n;have s:=qq i;have l:=qq (q.out.trans g);clear g i;unfold It.V it0;go_wp2;refine bodyPost_ret (v:=.tuple #[(⟨5,0,[]⟩:It).V,.bool true]) (by simp[results,results43,go_sem,It.V,it0,S,U,X,j,A,f,Nat.ne_of_lt f,Nat.ne_of_gt f]) rfl ⟨rfl,?_⟩;exact(eZ b).behind ((s.out.setTold true).fin y.out ((l.out.to_ch T).trans (Ch.setCell C (a:=⟨b,6,none⟩) w _)) (λk e=>.inl (u.out k e)) h0 (qv _) _ _ _) (Gr.alloc _ _)
theorem tM {b:Nat}{T:Nat→Prop}{W:World}{x:Bx}(M:x.reps=[])(L:x.pong=none)(hm:x.msgs=[])(H:x.close=none)(I:x.ends=false)(h:cN b T W x) :
  Calls prog 43 #[.pointer (some ⟨b,0,none⟩)] W λe w'=>e=.returned (iH none)∧Pst (cN b) T W x w':=by
 obtain⟨⟨c,U,X,N,cv,h,s⟩,hl⟩:=h;obtain⟨n,l⟩:∃n,W.alloc (.cells #[.int .i64 0,.int .i64 0,.string ⟨#[]⟩] 81)=n:=⟨_,rfl⟩;have o:Gr W n:=l▸Gr.alloc _ _;have B:RbZ W.heap.size n:=l▸gS _ _;have h0:c W.heap.size=0:=Decidable.byContradiction λe=>Nat.lt_irrefl _ (h.lt _ e);have i:b≠W.heap.size:=by
  intro e;have:=h.cb;rw[e,h0]at this;cases this
 have y:W.heap.size≠b:=i.symm;have a:=h.gr o;have c0:=a.c0;have hn:=qq (aM a);have J:=qq (de (M▸a.k1));have c2:=a.c2;have k3:=a.k3;rw[L]at k3;have k3:N=.pointer none:=k3;subst k3;have c1:=a.c1;have w:=qq (ff (hm▸a.k2));have E:T b:=s b (by rw[a.cb];decide);have fz:=a.fz;have F:b<n.heap.size:=ae c0;have q:=qq a;have t:=qq s;have u:=qq hl;have p:=qq o;have z:=qq B;clear h a s hl o B;rw[jR];go_enter func43,ntmps43;go_wp2_with fail;refine(hn.out).mono ?_;rintro e O⟨rfl,rfl⟩;go_wp2_with fail;refine(J.out).mono ?_;rintro e O⟨rfl,rfl⟩;go_wp2_with fail;refine(w.out).mono ?_;rintro e C⟨rfl,f⟩;have g:=q.out.gr f;have m:=z.out.gr f;have c3:=g.c3;have k4:=g.k4;rw[H]at k4;have k4:cv=.pointer none:=k4;subst k4;have c5:=g.c5;have c6:=g.c6;rw[I]at c5;have D:=g.fz;have A:b<C.heap.size:=ae g.c0;have d:W.heap.size<C.heap.size:=m.lt;obtain⟨P,R,S,Y⟩:=m;have r:=qq g;have j:=qq (p.out.trans f);clear f g;unfold It.V it0;go_wp2;refine bodyPost_ret (v:=.tuple #[it0.V,.bool false]) (by simp[results,results43,go_sem,It.V,it0,P,R,S,i,y,d,Nat.ne_of_lt d,Nat.ne_of_gt d]) rfl ⟨rfl,?_⟩;exact(eZ b).behind ((r.out).fin u.out (j.out.to_ch T) (λk e=>.inl (t.out k e)) h0 (qv _) _ _ _) (Gr.alloc _ _)
theorem tN {b:Nat}{T:Nat→Prop}{W:World}{x:Bx}(M:x.reps=[])(L:x.pong=none)(hm:x.msgs=[])(H:x.close=none)(I:x.ends=true)(N:x.told=true)(h:cN b T W x) :
  Calls prog 43 #[.pointer (some ⟨b,0,none⟩)] W λe w'=>e=.returned (iH none)∧Pst (cN b) T W x w':=by
 obtain⟨⟨c,X,Y,O,cv,h,s⟩,hl⟩:=h;obtain⟨n,l⟩:∃n,W.alloc (.cells #[.int .i64 0,.int .i64 0,.string ⟨#[]⟩] 81)=n:=⟨_,rfl⟩;have o:Gr W n:=l▸Gr.alloc _ _;have B:RbZ W.heap.size n:=l▸gS _ _;have h0:c W.heap.size=0:=Decidable.byContradiction λe=>Nat.lt_irrefl _ (h.lt _ e);have i:b≠W.heap.size:=by
  intro e;have:=h.cb;rw[e,h0]at this;cases this
 have y:W.heap.size≠b:=i.symm;have a:=h.gr o;have c0:=a.c0;have hn:=qq (aM a);have J:=qq (de (M▸a.k1));have c2:=a.c2;have k3:=a.k3;rw[L]at k3;have k3:O=.pointer none:=k3;subst k3;have c1:=a.c1;have w:=qq (ff (hm▸a.k2));have E:T b:=s b (by rw[a.cb];decide);have fz:=a.fz;have F:b<n.heap.size:=ae c0;have q:=qq a;have t:=qq s;have u:=qq hl;have p:=qq o;have z:=qq B;clear h a s hl o B;rw[jR];go_enter func43,ntmps43;go_wp2_with fail;refine(hn.out).mono ?_;rintro e P⟨rfl,rfl⟩;go_wp2_with fail;refine(J.out).mono ?_;rintro e P⟨rfl,rfl⟩;go_wp2_with fail;refine(w.out).mono ?_;rintro e C⟨rfl,f⟩;have g:=q.out.gr f;have m:=z.out.gr f;have c3:=g.c3;have k4:=g.k4;rw[H]at k4;have k4:cv=.pointer none:=k4;subst k4;have c5:=g.c5;have c6:=g.c6;rw[I]at c5;rw[N]at c6;have D:=g.fz;have A:b<C.heap.size:=ae g.c0;have d:W.heap.size<C.heap.size:=m.lt;obtain⟨R,S,U,Z⟩:=m;have r:=qq g;have j:=qq (p.out.trans f);clear f g;unfold It.V it0;go_wp2;refine bodyPost_ret (v:=.tuple #[it0.V,.bool false]) (by simp[results,results43,go_sem,It.V,it0,R,S,U,i,y,d,Nat.ne_of_lt d,Nat.ne_of_gt d]) rfl ⟨rfl,?_⟩;exact(eZ b).behind ((r.out).fin u.out (j.out.to_ch T) (λk e=>.inl (t.out k e)) h0 (qv _) _ _ _) (Gr.alloc _ _)
theorem pQ {b:Nat}{T:Nat→Prop}{W:World}{x:Bx}(h:cN b T W x) :
  Calls prog 43 #[.pointer (some ⟨b,0,none⟩)] W λe w'=>e=.returned (iH (aS x).2)∧Pst (cN b) T W (aS x).1 w':=by
 obtain⟨q,reps,pong,msgs,close,closed,ends,told⟩:=x;cases reps with
 | cons s l=>exact wm rfl h
 | nil =>
  cases pong with
  | some s=>exact wo rfl rfl h
  | none =>
   cases msgs with
   | cons y l=>exact Ah rfl rfl rfl h
   | nil =>
    cases close with
    | some s=>exact tL rfl rfl rfl rfl h
    | none =>
     cases ends with
     | false=>exact tM rfl rfl rfl rfl rfl h
     | true =>
      cases told with
      | false=>exact Ai rfl rfl rfl rfl rfl rfl h
      | true=>exact tN rfl rfl rfl rfl rfl rfl h
def Fq {α:Type}:Option α→Nat | none=>0 | some _=>1
def jS (y:Bx):Nat:=y.reps.length+y.msgs.length+Fq y.pong+Fq y.close+(if y.told then 0 else 1)
theorem Fs (y:Bx)(a:y.ends=true):(aS y).1.q=y.q∧(aS y).1.closed=y.closed∧(aS y).1.ends=true ∧
  (((aS y).2.isSome=true∧jS (aS y).1<jS y)∨((aS y).2.isSome=false∧{ (aS y).1 with told:=true }={ y with reps:=[],pong:=none,msgs:=[],close:=none,told:=true })):=by
 obtain⟨q,reps,pong,msgs,close,closed,ends,told⟩:=y;dsimp only at a;subst a;cases reps <;> cases pong <;> cases msgs <;> cases close <;> cases told <;> simp[aS,jS,Fq] <;> omega
def CS (b:Nat)(T:Nat→Prop)(W:World)(x:Bx)(n:Nat)(ok:Value)(wr:World):Prop :=
 ∃v y,ok=.bool v∧Pst (cN b) T W y wr∧y.q=x.q∧y.closed=x.closed∧y.ends=true∧((v=true∧jS y+1≤n)∨(v=false∧{ y with told:=true }=fO x))
theorem nW {b:Nat}{T:Nat→Prop}{W:World}{x:Bx}(h:cN b T W x) :
  Calls prog 61 #[.pointer (some ⟨b,0,none⟩)] W λe w'=>e=.returned (.tuple #[])∧Pst (cN b) T W (fO x) w':=by
 have hn:=qq (show Calls prog 74 #[.pointer (some ⟨b,0,none⟩)] W λe w'=>e=.returned (.bool false)∧W=w' from by
  obtain⟨⟨c,M,N,L,cv,h,t⟩,hl⟩:=h;exact aM h)
 have D:=qq (tJ h);clear h;go_enter func61,ntmps61;go_wp2_with fail;refine(hn.out).mono ?_;rintro e I⟨rfl,rfl⟩;go_wp2_with fail;refine(D.out).mono ?_;rintro e I⟨rfl,g⟩;have A:=qq (show CS b T W x (jS (ii x)+1) (.bool true) I from⟨true,ii x,rfl,g,rfl,rfl,rfl,.inl ⟨rfl,qv _⟩⟩);clear g hn D;go_wp2;go_loopg [2] (jS (ii x)+1) (λn ok wr=>CS b T W x n ok wr)
 case atStart=>exact A.out
 case round =>
  obtain⟨v,y,rfl,g,z,w,H,q⟩:=hrel;have i:=qq g;have d:=qq q;have F:=Fs y H;have f:=qq F;clear F q;cases v with
  | true =>
   have s:=qq (pQ g.1);clear g;go_wp2_with fail;refine(s.out).mono ?_;rintro e O⟨rfl,j⟩;have l:=qq ((eZ b).trans i.out j);clear j;unfold iH;obtain⟨u,B⟩:∃u,(aS y).2.isSome=u:=⟨_,rfl⟩;have r:=qq B;rw[B];clear B;unfold It.V;cases u with
   | true =>
    go_wp2
    go_roundg (jS (aS y).1+1)
    case measure =>
     obtain⟨_,_,_,e⟩:=f.out;rw[r.out]at e;have:=d.out;simp at e this;omega
    case rel =>
     obtain⟨e1,e2,e3,_⟩:=f.out;exact⟨true,(aS y).1,rfl,l.out,e1.trans z,e2.trans w,e3,.inl ⟨rfl,qv _⟩⟩
   | false =>
    go_wp2
    go_roundg 0
    case measure =>
     have:=d.out;simp at this;omega
    case rel =>
     obtain⟨e1,e2,e3,e4⟩:=f.out;rw[r.out]at e4;have J:=e4.resolve_left (λe=>by cases e.1);exact⟨false,(aS y).1,rfl,l.out,e1.trans z,e2.trans w,e3,.inr ⟨rfl,J.2.trans (by unfold fO ii;rw[z,w,H])⟩⟩
  | false =>
   have p:=qq ((d.out.resolve_left (λe=>by cases e.1)).2);obtain⟨⟨⟨c,M,N,L,cv,h,t⟩,hl⟩,o⟩:=g;have c6:=h.c6;have fz:=h.fz;have C:=qq h;have m:=qq t;have E:=qq o;clear h t hl o d f;go_wp2;go_end0;refine⟨rfl,?_⟩;rw[←p.out];refine(eZ b).trans i.out ?_;exact(C.out.setTold true).pst ((eZ b).lt i.out.1) (Ch.setCell _ (a:=⟨b,6,none⟩) (m.out b (by rw[C.out.cb];decide)) _) (λk e=>.inl (m.out k e))
theorem CT (q:Nat)(W:World)(s:1≤q)(v:q≤64) :
  Calls prog 36 #[.int .i64 q] W λe w'=>∃b,e=.returned (.tuple #[.pointer (some ⟨b,0,none⟩),.int .i64 0])∧cN b (New W w') w' (bx0 q)∧Gr W w':=by
 have a1:¬(q:Int)<1:=by omega
 have a2:¬(64:Int)<q:=by omega
 have r:=qq (En 4 W (by decide) (by decide));go_enter func36,ntmps36;go_wp2_with fail;refine(r.out).mono ?_;rintro e a⟨rfl,p,j,t⟩;clear t;have h:=qq (Eo q a s (by omega));go_wp2_with fail;refine(h.out).mono ?_;rintro e c⟨rfl,n,l,u⟩;clear u;have g:=qq p;have f:=qq n;have i:=qq j;have d:=qq l;clear p n j l r h;go_wp2;go_ret2;refine⟨c.heap.size,rfl,?_,(i.out.trans d.out).alloc1 _⟩;have m:=Gr.alloc c (.cells #[.pointer (some ⟨W.heap.size,0,none⟩),.pointer (some ⟨a.heap.size,0,none⟩),.pointer none,.pointer none,.bool false,.bool false,.bool false] 112);have w:W.heap.size<a.heap.size:=g.out.2 _ rfl;have x:a.heap.size<c.heap.size:=f.out.2 _ rfl;refine⟨⟨λk=>if k=c.heap.size then 1 else if k=W.heap.size then 2 else if k=a.heap.size then 3 else 0,W.heap.size,a.heap.size,.pointer none,.pointer none,⟨aa _ _ _ 0 _ rfl,aa _ _ _ 1 _ rfl,aa _ _ _ 2 _ rfl,aa _ _ _ 3 _ rfl,aa _ _ _ 4 _ rfl,aa _ _ _ 5 _ rfl,aa _ _ _ 6 _ rfl,λo=>World.frozen?_alloc_at _ _ _ _ rfl,by simp,?_,?_,rfl,rfl,?_⟩,?_⟩,λk e=>e.2⟩
 ·refine(l7 _ _).mono ((l7 _ _).gr g.out (d.out.trans m)) (λk e=>?_) (λk e=>?_)
  ·subst e;rw[if_neg (by omega),if_pos rfl]
  ·have:k=W.heap.size:=by
    split at e
    ·cases e
    ·split at e
     ·assumption
     ·split at e <;> cases e
   subst this;simp;omega
 ·refine(l8 _ _).mono ((l8 _ _).gr f.out m) (λk e=>?_) (λk e=>?_)
  ·subst e;rw[if_neg (by omega),if_neg (by omega),if_pos rfl]
  ·have:k=a.heap.size:=by
    split at e
    ·cases e
    ·split at e
     ·cases e
     ·split at e
      ·assumption
      ·cases e
   subst this;simp;omega
 ·intro k e;simp;by_cases e1:k=c.heap.size
  ·omega
  ·by_cases e2:k=W.heap.size
   ·omega
   ·by_cases e3:k=a.heap.size
    ·omega
    ·simp[e1,e2,e3]at e
 ·intro k e;refine⟨?_,?_⟩
  ·by_cases e1:k=c.heap.size
   ·omega
   ·by_cases e2:k=W.heap.size
    ·omega
    ·by_cases e3:k=a.heap.size
     ·omega
     ·simp[e1,e2,e3]at e
  ·simp;by_cases e1:k=c.heap.size
   ·omega
   ·by_cases e2:k=W.heap.size
    ·omega
    ·by_cases e3:k=a.heap.size
     ·omega
     ·simp[e1,e2,e3]at e
theorem CU {b:Nat}{c:Nat→Nat}{W:World}{x:Bx}{i j:Nat}{g cv:Value}{s:List UInt8}{l:List (List UInt8)}(f:x.reps=s :: l)(h:BxS b c W x i j g cv) :
  Calls prog 51 #[.pointer (some ⟨b,0,none⟩)] W λe w'=>e=.returned (.bool true)∧W=w':=by
 have hn:=qq (aM h);have c0:=h.c0;have a:=fQ h.k1;rw[f]at a;have d:(0:Int)<(l.length:Int)+1:=by omega
 have a:=qq a;clear h;go_enter func51,ntmps51;go_wp2_with fail;refine(hn.out).mono ?_;rintro e k⟨rfl,rfl⟩;go_wp2_with fail;refine(a.out).mono ?_;rintro e k⟨rfl,rfl⟩;go_wp2;go_ret;exact⟨rfl,rfl⟩
theorem CV {b:Nat}{c:Nat→Nat}{W:World}{x:Bx}{i j:Nat}{g cv:Value}{s:List UInt8}(f:x.reps=[])(d:x.pong=some s)(h:BxS b c W x i j g cv) :
  Calls prog 51 #[.pointer (some ⟨b,0,none⟩)] W λe w'=>e=.returned (.bool true)∧W=w':=by
 have hn:=qq (aM h);have c0:=h.c0;have a:=fQ h.k1;rw[f]at a;have c2:=h.c2;have k3:=h.k3;rw[d]at k3;obtain⟨t,rfl,_,_⟩:=k3;have a:=qq a;clear h;go_enter func51,ntmps51;go_wp2_with fail;refine(hn.out).mono ?_;rintro e k⟨rfl,rfl⟩;go_wp2_with fail;refine(a.out).mono ?_;rintro e k⟨rfl,rfl⟩;go_wp2;go_ret;exact⟨rfl,rfl⟩
theorem CW {b:Nat}{c:Nat→Nat}{W:World}{x:Bx}{m n:Nat}{g cv:Value}{y:It}{l:List It}(k:x.reps=[])(j:x.pong=none)(hm:x.msgs=y :: l)(h:BxS b c W x m n g cv) :
  Calls prog 51 #[.pointer (some ⟨b,0,none⟩)] W λe w'=>e=.returned (.bool true)∧W=w':=by
 have hn:=qq (aM h);have c0:=h.c0;have a:=fQ h.k1;rw[k]at a;have c2:=h.c2;have k3:=h.k3;rw[j]at k3;have k3:g=.pointer none:=k3;subst k3;have c1:=h.c1;have d:=kG h.k2;rw[hm]at d;have d:=qq d;have f:(0:Int)<(l.length:Int)+1:=by omega
 have a:=qq a;clear h;go_enter func51,ntmps51;go_wp2_with fail;refine(hn.out).mono ?_;rintro e i⟨rfl,rfl⟩;go_wp2_with fail;refine(a.out).mono ?_;rintro e i⟨rfl,rfl⟩;go_wp2_with fail;refine(d.out).mono ?_;rintro e i⟨rfl,rfl⟩;go_wp2;go_ret;exact⟨rfl,rfl⟩
theorem CX {b:Nat}{c:Nat→Nat}{W:World}{x:Bx}{l m:Nat}{f cv:Value}{s:List UInt8}(k:x.reps=[])(j:x.pong=none)(hm:x.msgs=[])(i:x.close=some s)(h:BxS b c W x l m f cv) :
  Calls prog 51 #[.pointer (some ⟨b,0,none⟩)] W λe w'=>e=.returned (.bool true)∧W=w':=by
 have hn:=qq (aM h);have c0:=h.c0;have a:=fQ h.k1;rw[k]at a;have c2:=h.c2;have k3:=h.k3;rw[j]at k3;have k3:f=.pointer none:=k3;subst k3;have c1:=h.c1;have d:=kG h.k2;rw[hm]at d;have d:=qq d;have c3:=h.c3;have k4:=h.k4;rw[i]at k4;obtain⟨t,rfl,_,_⟩:=k4;have a:=qq a;clear h;go_enter func51,ntmps51;go_wp2_with fail;refine(hn.out).mono ?_;rintro e g⟨rfl,rfl⟩;go_wp2_with fail;refine(a.out).mono ?_;rintro e g⟨rfl,rfl⟩;go_wp2_with fail;refine(d.out).mono ?_;rintro e g⟨rfl,rfl⟩;go_wp2;go_ret;exact⟨rfl,rfl⟩
theorem CY {b:Nat}{c:Nat→Nat}{W:World}{x:Bx}{m n:Nat}{f cv:Value}(l:x.reps=[])(k:x.pong=none)(hm:x.msgs=[])(i:x.close=none)(j:x.ends=false)(h:BxS b c W x m n f cv) :
  Calls prog 51 #[.pointer (some ⟨b,0,none⟩)] W λe w'=>e=.returned (.bool false)∧W=w':=by
 have hn:=qq (aM h);have c0:=h.c0;have a:=fQ h.k1;rw[l]at a;have c2:=h.c2;have k3:=h.k3;rw[k]at k3;have k3:f=.pointer none:=k3;subst k3;have c1:=h.c1;have d:=kG h.k2;rw[hm]at d;have d:=qq d;have c3:=h.c3;have k4:=h.k4;rw[i]at k4;have k4:cv=.pointer none:=k4;subst k4;have c5:=h.c5;have c6:=h.c6;rw[j]at c5;have a:=qq a;clear h;go_enter func51,ntmps51;go_wp2_with fail;refine(hn.out).mono ?_;rintro e g⟨rfl,rfl⟩;go_wp2_with fail;refine(a.out).mono ?_;rintro e g⟨rfl,rfl⟩;go_wp2_with fail;refine(d.out).mono ?_;rintro e g⟨rfl,rfl⟩;go_wp2;go_ret;exact⟨rfl,rfl⟩
theorem CZ {b:Nat}{c:Nat→Nat}{W:World}{x:Bx}{n o:Nat}{f cv:Value}(l:x.reps=[])(k:x.pong=none)(hm:x.msgs=[])(i:x.close=none)(j:x.ends=true)(m:x.told=false)(h:BxS b c W x n o f cv) :
  Calls prog 51 #[.pointer (some ⟨b,0,none⟩)] W λe w'=>e=.returned (.bool true)∧W=w':=by
 have hn:=qq (aM h);have c0:=h.c0;have a:=fQ h.k1;rw[l]at a;have c2:=h.c2;have k3:=h.k3;rw[k]at k3;have k3:f=.pointer none:=k3;subst k3;have c1:=h.c1;have d:=kG h.k2;rw[hm]at d;have d:=qq d;have c3:=h.c3;have k4:=h.k4;rw[i]at k4;have k4:cv=.pointer none:=k4;subst k4;have c5:=h.c5;have c6:=h.c6;rw[j]at c5;rw[m]at c6;have a:=qq a;clear h;go_enter func51,ntmps51;go_wp2_with fail;refine(hn.out).mono ?_;rintro e g⟨rfl,rfl⟩;go_wp2_with fail;refine(a.out).mono ?_;rintro e g⟨rfl,rfl⟩;go_wp2_with fail;refine(d.out).mono ?_;rintro e g⟨rfl,rfl⟩;go_wp2;go_ret;exact⟨rfl,rfl⟩
theorem C9 {b:Nat}{c:Nat→Nat}{W:World}{x:Bx}{n o:Nat}{f cv:Value}(l:x.reps=[])(k:x.pong=none)(hm:x.msgs=[])(i:x.close=none)(j:x.ends=true)(m:x.told=true)(h:BxS b c W x n o f cv) :
  Calls prog 51 #[.pointer (some ⟨b,0,none⟩)] W λe w'=>e=.returned (.bool false)∧W=w':=by
 have hn:=qq (aM h);have c0:=h.c0;have a:=fQ h.k1;rw[l]at a;have c2:=h.c2;have k3:=h.k3;rw[k]at k3;have k3:f=.pointer none:=k3;subst k3;have c1:=h.c1;have d:=kG h.k2;rw[hm]at d;have d:=qq d;have c3:=h.c3;have k4:=h.k4;rw[i]at k4;have k4:cv=.pointer none:=k4;subst k4;have c5:=h.c5;have c6:=h.c6;rw[j]at c5;rw[m]at c6;have a:=qq a;clear h;go_enter func51,ntmps51;go_wp2_with fail;refine(hn.out).mono ?_;rintro e g⟨rfl,rfl⟩;go_wp2_with fail;refine(a.out).mono ?_;rintro e g⟨rfl,rfl⟩;go_wp2_with fail;refine(d.out).mono ?_;rintro e g⟨rfl,rfl⟩;go_wp2;go_ret;exact⟨rfl,rfl⟩
theorem wq {b:Nat}{c:Nat→Nat}{W:World}{x:Bx}{d f:Nat}{a cv:Value}(h:BxS b c W x d f a cv) :
  Calls prog 51 #[.pointer (some ⟨b,0,none⟩)] W λe w'=>e=.returned (.bool (iL x))∧W=w':=by
 obtain⟨q,reps,pong,msgs,close,closed,ends,told⟩:=x;cases reps with
 | cons s l=>exact CU rfl h
 | nil =>
  cases pong with
  | some s=>exact CV rfl rfl h
  | none =>
   cases msgs with
   | cons y l=>exact CW rfl rfl rfl h
   | nil =>
    cases close with
    | some s=>exact CX rfl rfl rfl rfl h
    | none =>
     cases ends with
     | false=>exact CY rfl rfl rfl rfl rfl h
     | true =>
      cases told with
      | false=>exact CZ rfl rfl rfl rfl rfl rfl h
      | true=>exact C9 rfl rfl rfl rfl rfl rfl h
