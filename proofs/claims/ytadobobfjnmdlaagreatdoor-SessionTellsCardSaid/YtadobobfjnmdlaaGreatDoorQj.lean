/-
  What waits to be written, in memory: what it is made of, what asks of it.
-/
import Derived.Test.YtadobobfjnmdlaaGreatDoorQg
set_option linter.unnecessarySimpa false
set_option linter.unusedVariables false
set_option linter.unusedSimpArgs false
set_option maxHeartbeats 16000000
set_option maxRecDepth 100000
open Go.Proofs.Tryz
namespace Go.Proofs.YtadobobfjnmdlaaGreatDoor
open Go.RowKit Go.Shelf
attribute [local go_sem] Oper.semAt_some
def TxP (pv:Value)(T:Nat→Prop)(W:World)(o:Option (List UInt8)):Prop:=match o with
 | none=>pv=.pointer none
 | some s=>∃t,pv=.pointer (some ⟨t,0,none⟩)∧T t∧W.cell? ⟨t,0,none⟩=some (.string ⟨s.toArray⟩)
theorem TxP.mono {a:Value}{T T':Nat→Prop}{W:World}{o:Option (List UInt8)}(h:TxP a T W o)(g:∀k,T k→T' k):TxP a T' W o:=by
 cases o with
 | none=>exact h
 | some s=>obtain⟨t,d,e,f⟩:=h;exact⟨t,d,g _ e,f⟩
theorem TxP.frame {f:Value}{T S:Nat→Prop}{W a:World}{o:Option (List UInt8)}(h:TxP f T W o)(i:Ch S W a)(hs:∀k,T k→¬S k):TxP f T a o:=by
 cases o with
 | none=>exact h
 | some s=>obtain⟨t,g,d,e⟩:=h;exact⟨t,g,d,(i.cell (p:=⟨t,0,none⟩) (ae e) (hs _ d)).trans e⟩
structure BxS (b:Nat)(c:Nat→Nat)(W:World)(x:Bx)(r1 r2:Nat)(pv cv:Value):Prop where
 c0:W.cell? ⟨b,0,none⟩=some (.pointer (some ⟨r1,0,none⟩))
 c1:W.cell? ⟨b,1,none⟩=some (.pointer (some ⟨r2,0,none⟩))
 c2:W.cell? ⟨b,2,none⟩=some pv
 c3:W.cell? ⟨b,3,none⟩=some cv
 c4:W.cell? ⟨b,4,none⟩=some (.bool x.closed)
 c5:W.cell? ⟨b,5,none⟩=some (.bool x.ends)
 c6:W.cell? ⟨b,6,none⟩=some (.bool x.told)
 fz:∀o,W.frozen? ⟨b,o,none⟩=false
 cb:c b=1
 k1:mi r1 4 (λk=>c k=2) W x.reps
 k2:ml r2 x.q (λk=>c k=3) W x.msgs
 k3:TxP pv (λk=>c k=4) W x.pong
 k4:TxP cv (λk=>c k=4) W x.close
 lt:∀k,c k≠0→k<W.heap.size
theorem BxS.frame {b:Nat}{c:Nat→Nat}{S:Nat→Prop}{W f:World}{x:Bx}{n q:Nat}{m cv:Value}(h:BxS b c W x n q m cv)(d:Ch S W f)(hs:∀k,c k≠0→¬S k):BxS b c f x n q m cv:=by
 have i:¬S b:=hs b (by rw[h.cb];decide);have a:∀ {o v},W.cell? ⟨b,o,none⟩=some v→f.cell? ⟨b,o,none⟩=some v:=fun {o v} l=>(d.cell (p:=⟨b,o,none⟩) (ae l) i).trans l;have e:∀j,j≠0→∀k,c k=j→¬S k:=λj r k g=>hs k (by rw[g];exact r);exact⟨a h.c0,a h.c1,a h.c2,a h.c3,a h.c4,a h.c5,a h.c6,λo=>(d.frozen (p:=⟨b,o,none⟩) (show b<W.heap.size from ae h.c0) i).trans (h.fz o),h.cb,
  (l7 _ _).frame h.k1 d (e 2 (by decide)),(l8 _ _).frame h.k2 d (e 3 (by decide)),h.k3.frame d (e 4 (by decide)),h.k4.frame d (e 4 (by decide)),λk g=>qj (h.lt k g) d.size⟩
theorem BxS.gr {b:Nat}{c:Nat→Nat}{W a:World}{x:Bx}{f i:Nat}{d cv:Value}(h:BxS b c W x f i d cv)(g:Gr W a):BxS b c a x f i d cv:=h.frame (g.to_ch (λ_=>False)) (λ_ _ e=>e)
theorem bO {c:Nat→Nat}{W a:World}{j:Nat}:∀k,bc c W a j k≠0→c k≠0∨New W a k:=λk e=>by
 rcases cq c W a j k with⟨h,_⟩ | ⟨_,h⟩
 ·exact .inr h
 ·exact .inl (by rwa [h]at e)
theorem BxS.give {b:Nat}{c:Nat→Nat}{W W0:World}{x:Bx}{l m:Nat}{g cv:Value}(h:BxS b c W x l m g cv)(hl:∀k,c k≠0→k<W0.heap.size)(j:Nat)(n:j≠0):BxS b (bc c W0 W j) W x l m g cv:=by
 have a:∀k,bc c W0 W j k≠0→k<W.heap.size:=λk e=>(bO k e).elim (h.lt k) (λe=>e.2);have up:∀i,i≠0→∀k,c k=i→bc c W0 W j k=i:=λi hi k d=>by rw[bI (hl k (by rw[d];exact hi))];exact d
 have f:∀i,i≠0→∀k,bc c W0 W j k=i→k<W.heap.size:=λi hi k d=>a k (by rw[d];exact hi);exact⟨h.c0,h.c1,h.c2,h.c3,h.c4,h.c5,h.c6,h.fz,up 1 (by decide) b h.cb,(l7 _ _).mono h.k1 (up 2 (by decide)) (f 2 (by decide)),(l8 _ _).mono h.k2 (up 3 (by decide)) (f 3 (by decide)),h.k3.mono (up 4 (by decide)),h.k4.mono (up 4 (by decide)),a⟩
theorem BxS.reps {b:Nat}{c:Nat→Nat}{W f:World}{x:Bx}{g n:Nat}{m cv:Value}(h:BxS b c W x g n m cv){l:List (List UInt8)}(k:Pst (mi g 4) (λk=>c k=2) W l f):BxS b (bc c W f 2) f { x with reps:=l } g n m cv:=by
 have i:¬c b=2:=by rw[h.cb];decide
 have a:∀ {o v},W.cell? ⟨b,o,none⟩=some v→f.cell? ⟨b,o,none⟩=some v:=fun {o v} j=>(k.2.cell (p:=⟨b,o,none⟩) (ae j) i).trans j;have d:b<W.heap.size:=ae h.c0;refine⟨a h.c0,a h.c1,a h.c2,a h.c3,a h.c4,a h.c5,a h.c6,λo=>(k.2.frozen (p:=⟨b,o,none⟩) d i).trans (h.fz o),by rw[bI d];exact h.cb,
  (l7 _ _).own k h.lt (by decide),(l8 _ _).rest h.k2 k.2 (λ_ e=>e) (by decide) (by decide) h.lt,?_,?_,gF h.lt k.2.size⟩
 ·exact(h.k3.frame k.2 (λk e e2=>by rw[e]at e2;cases e2)).mono (λk e=>by rw[bI (h.lt k (by rw[e];decide))];exact e)
 ·exact(h.k4.frame k.2 (λk e e2=>by rw[e]at e2;cases e2)).mono (λk e=>by rw[bI (h.lt k (by rw[e];decide))];exact e)
theorem BxS.msgs {b:Nat}{c:Nat→Nat}{W f:World}{x:Bx}{n g:Nat}{m cv:Value}(h:BxS b c W x n g m cv){l:List It}(k:Pst (ml g x.q) (λk=>c k=3) W l f):BxS b (bc c W f 3) f { x with msgs:=l } n g m cv:=by
 have i:¬c b=3:=by rw[h.cb];decide
 have a:∀ {o v},W.cell? ⟨b,o,none⟩=some v→f.cell? ⟨b,o,none⟩=some v:=fun {o v} j=>(k.2.cell (p:=⟨b,o,none⟩) (ae j) i).trans j;have d:b<W.heap.size:=ae h.c0;refine⟨a h.c0,a h.c1,a h.c2,a h.c3,a h.c4,a h.c5,a h.c6,λo=>(k.2.frozen (p:=⟨b,o,none⟩) d i).trans (h.fz o),by rw[bI d];exact h.cb,
  (l7 _ _).rest h.k1 k.2 (λ_ e=>e) (by decide) (by decide) h.lt,(l8 _ _).own k h.lt (by decide),?_,?_,gF h.lt k.2.size⟩
 ·exact(h.k3.frame k.2 (λk e e2=>by rw[e]at e2;cases e2)).mono (λk e=>by rw[bI (h.lt k (by rw[e];decide))];exact e)
 ·exact(h.k4.frame k.2 (λk e e2=>by rw[e]at e2;cases e2)).mono (λk e=>by rw[bI (h.lt k (by rw[e];decide))];exact e)
theorem BxS.parts {b:Nat}{c:Nat→Nat}{W:World}{x:Bx}{i l:Nat}{p cv:Value}(h:BxS b c W x i l p cv)(o:Nat)(v:Value) :
  mi i 4 (λk=>c k=2) (W.setCell ⟨b,o,none⟩ v) x.reps∧ml l x.q (λk=>c k=3) (W.setCell ⟨b,o,none⟩ v) x.msgs∧(∀ {q:Option (List UInt8)} {u:Value},TxP u (λk=>c k=4) W q→TxP u (λk=>c k=4) (W.setCell ⟨b,o,none⟩ v) q)∧∀k,c k≠0→k<(W.setCell ⟨b,o,none⟩ v).heap.size:=by
 have f:=Ch.setCell (T:=λk=>k=b) W (a:=⟨b,o,none⟩) rfl v;have g:∀j,j≠1→∀k,c k=j→¬k=b:=λj m k d e=>by rw[e,h.cb]at d;exact m d.symm
 exact⟨(l7 _ _).frame h.k1 f (g 2 (by decide)),(l8 _ _).frame h.k2 f (g 3 (by decide)),fun {q u} n=>n.frame f (g 4 (by decide)),λk d=>by rw[World.size_setCell];exact h.lt k d⟩
theorem BxS.setPong {b:Nat}{c:Nat→Nat}{W:World}{x:Bx}{a d:Nat}{f cv:Value}(h:BxS b c W x a d f cv){q:Option (List UInt8)}{u:Value}(e:TxP u (λk=>c k=4) W q):BxS b c (W.setCell ⟨b,2,none⟩ u) { x with pong:=q } a d u cv :=
 let p:=h.parts 2 u
 ⟨ac h.c0 (by decide),ac h.c1 (by decide),af h.c2,ac h.c3 (by decide),ac h.c4 (by decide),ac h.c5 (by decide),ac h.c6 (by decide),λo=>by rw[ag];exact h.fz o,h.cb,p.1,p.2.1,p.2.2.1 e,p.2.2.1 h.k4,p.2.2.2⟩
theorem BxS.setClose {b:Nat}{c:Nat→Nat}{W:World}{x:Bx}{d e:Nat}{a cv:Value}(h:BxS b c W x d e a cv){q:Option (List UInt8)}{u:Value}(f:TxP u (λk=>c k=4) W q):BxS b c (W.setCell ⟨b,3,none⟩ u) { x with close:=q } d e a u :=
 let p:=h.parts 3 u
 ⟨ac h.c0 (by decide),ac h.c1 (by decide),ac h.c2 (by decide),af h.c3,ac h.c4 (by decide),ac h.c5 (by decide),ac h.c6 (by decide),λo=>by rw[ag];exact h.fz o,h.cb,p.1,p.2.1,p.2.2.1 h.k3,p.2.2.1 f,p.2.2.2⟩
theorem BxS.setClosed {b:Nat}{c:Nat→Nat}{W:World}{x:Bx}{d e:Nat}{a cv:Value}(h:BxS b c W x d e a cv)(v:Bool):BxS b c (W.setCell ⟨b,4,none⟩ (.bool v)) { x with closed:=v } d e a cv :=
 let p:=h.parts 4 (.bool v)
 ⟨ac h.c0 (by decide),ac h.c1 (by decide),ac h.c2 (by decide),ac h.c3 (by decide),af h.c4,ac h.c5 (by decide),ac h.c6 (by decide),λo=>by rw[ag];exact h.fz o,h.cb,p.1,p.2.1,p.2.2.1 h.k3,p.2.2.1 h.k4,p.2.2.2⟩
theorem BxS.setEnds {b:Nat}{c:Nat→Nat}{W:World}{x:Bx}{d e:Nat}{a cv:Value}(h:BxS b c W x d e a cv)(v:Bool):BxS b c (W.setCell ⟨b,5,none⟩ (.bool v)) { x with ends:=v } d e a cv :=
 let p:=h.parts 5 (.bool v)
 ⟨ac h.c0 (by decide),ac h.c1 (by decide),ac h.c2 (by decide),ac h.c3 (by decide),ac h.c4 (by decide),af h.c5,ac h.c6 (by decide),λo=>by rw[ag];exact h.fz o,h.cb,p.1,p.2.1,p.2.2.1 h.k3,p.2.2.1 h.k4,p.2.2.2⟩
theorem BxS.setTold {b:Nat}{c:Nat→Nat}{W:World}{x:Bx}{d e:Nat}{a cv:Value}(h:BxS b c W x d e a cv)(v:Bool):BxS b c (W.setCell ⟨b,6,none⟩ (.bool v)) { x with told:=v } d e a cv :=
 let p:=h.parts 6 (.bool v)
 ⟨ac h.c0 (by decide),ac h.c1 (by decide),ac h.c2 (by decide),ac h.c3 (by decide),ac h.c4 (by decide),ac h.c5 (by decide),af h.c6,λo=>by rw[ag];exact h.fz o,h.cb,p.1,p.2.1,p.2.2.1 h.k3,p.2.2.1 h.k4,p.2.2.2⟩
def cN (b:Nat)(T:Nat→Prop)(W:World)(x:Bx):Prop:=(∃c r1 r2 pv cv,BxS b c W x r1 r2 pv cv∧∀k,c k≠0→T k)∧∀k,T k→k<W.heap.size
theorem eZ (b:Nat):Kin (cN b) :=
 ⟨fun {T T' W x} ⟨⟨c,f,g,d,cv,h,a⟩,_⟩ l hl=>⟨⟨c,f,g,d,cv,h,λk e=>l _ (a k e)⟩,hl⟩,
  fun {T S W m x} ⟨⟨c,f,g,d,cv,h,a⟩,hl⟩ i hs=>⟨⟨c,f,g,d,cv,h.frame i (λk e=>hs k (a k e)),a⟩,λk j=>qj (hl k j) i.size⟩,
  fun {T W x} h=>h.2⟩
theorem BxS.pst {b:Nat}{c:Nat→Nat}{T:Nat→Prop}{W a:World}{x:Bx}{g i:Nat}{f cv:Value}(h:BxS b c a x g i f cv)(hl:∀k,T k→k<W.heap.size)(d:Ch T W a)(j:∀k,c k≠0→T k∨New W a k):Pst (cN b) T W x a :=
 ⟨⟨⟨c,g,i,f,cv,h,j⟩,λk e=>e.elim (λe=>qj (hl k e) d.size) (λe=>e.2)⟩,d⟩
theorem aM {b:Nat}{c:Nat→Nat}{W:World}{x:Bx}{d f:Nat}{a cv:Value}(h:BxS b c W x d f a cv) :
  Calls prog 74 #[.pointer (some ⟨b,0,none⟩)] W λe w'=>e=.returned (.bool false)∧W=w':=by
 have c1:=h.c1;clear h;go_enter func74,ntmps74;go_wp2;go_ret;exact⟨rfl,rfl⟩
theorem lE {b:Nat}{c:Nat→Nat}{W:World}{x:Bx}{f g:Nat}{d cv:Value}(h:BxS b c W x f g d cv) :
  Calls prog 79 #[.pointer (some ⟨b,0,none⟩)] W λe w'=>e=.returned (.bool (cT x))∧W=w':=by
 have c4:=h.c4;have c5:=h.c5;have hn:=qq (aM h);unfold cT;obtain⟨i,e4⟩:∃v,x.closed=v:=⟨_,rfl⟩;obtain⟨j,a⟩:∃v,x.ends=v:=⟨_,rfl⟩;rw[e4]at c4 ⊢;rw[a]at c5 ⊢;clear h e4 a;cases i;all_goals
  go_enter func79,ntmps79;go_wp2_with fail;refine(hn.out).mono ?_;rintro e k⟨rfl,rfl⟩;go_wp2;go_ret;exact⟨rfl,rfl⟩
theorem ri {b:Nat}{c:Nat→Nat}{W:World}{x:Bx}{f g:Nat}{d cv:Value}(h:BxS b c W x f g d cv) :
  Calls prog 49 #[.pointer (some ⟨b,0,none⟩)] W λe w'=>e=.returned (.int .i64 x.reps.length)∧W=w':=by
 have c0:=h.c0;have hn:=qq (aM h);have a:=qq (fQ h.k1);clear h;go_enter func49,ntmps49;go_wp2_with fail;refine(hn.out).mono ?_;rintro e i⟨rfl,rfl⟩;go_wp2_with fail;refine(a.out).mono ?_;rintro e i⟨rfl,rfl⟩;go_wp2;go_ret;exact⟨rfl,rfl⟩
theorem BxS.same {b:Nat}{c:Nat→Nat}{T:Nat→Prop}{W a:World}{x:Bx}{i j:Nat}{f cv:Value}(h:BxS b c W x i j f cv)(d:∀k,c k≠0→T k)(hl:∀k,T k→k<W.heap.size)(g:Gr W a):Pst (cN b) T W x a :=
 (h.gr g).pst hl (g.to_ch T) (λk e=>.inl (d k e))
theorem wj {b:Nat}{T:Nat→Prop}{W:World}{x:Bx}(s:List UInt8)(h:cN b T W x) :
  Calls prog 95 #[.pointer (some ⟨b,0,none⟩),.string ⟨s.toArray⟩] W λe w'=>e=.returned (.int .i64 (bD x s).2)∧Pst (cN b) T W (bD x s).1 w':=by
 obtain⟨⟨c,t,u,r,cv,h,p⟩,hl⟩:=h;have c0:=h.c0;have c4:=h.c4;have c5:=h.c5;have i:=qq h;have d:=qq p;have f:=qq hl;have hn:=qq (aM h);obtain⟨j,e4⟩:∃v,x.closed=v:=⟨_,rfl⟩;obtain⟨l,g⟩:∃v,x.ends=v:=⟨_,rfl⟩;have hv:=qq (show bD x s=if (j||l)=true then(x,11) else if 4≤x.reps.length then(x,6) else({ x with reps:=x.reps++[s] },0) by unfold bD cT;rw[e4,g]);rw[e4]at c4;rw[g]at c5;clear h p hl e4 g;by_cases hs:(j||l)=true
 ·have a:=qq (hv.out.trans (if_pos hs));rw[a.out];clear hv;cases j <;> cases l
  ·exact absurd hs (by decide)
  all_goals
   clear hs;go_enter func95,ntmps95;go_wp2_with fail;refine(hn.out).mono ?_;rintro e m⟨rfl,rfl⟩;go_wp2;go_ret;exact⟨rfl,i.out.same d.out f.out (Gr.refl _)⟩
 ·have e4:j=false:=by cases j <;> simp_all
  have g:l=false:=by cases l <;> simp_all
  subst e4;subst g;rw[if_neg (by decide)]at hv;by_cases hf:4≤x.reps.length
  ·have a:=qq (hv.out.trans (if_pos hf));rw[a.out];have n:=qq (oM s i.out.k1 hf);clear hv hs hf;go_enter func95,ntmps95;go_wp2_with fail;refine(hn.out).mono ?_;rintro e m⟨rfl,rfl⟩;go_wp2_with fail;refine(n.out).mono ?_;rintro e m⟨rfl,q⟩;go_wp2;go_ret;exact⟨rfl,i.out.same d.out f.out q⟩
  ·have a:=qq (hv.out.trans (if_neg hf));rw[a.out];have n:=qq (CO s i.out.k1 (by omega));clear hv hs hf;go_enter func95,ntmps95;go_wp2_with fail;refine(hn.out).mono ?_;rintro e m⟨rfl,rfl⟩;go_wp2_with fail;refine(n.out).mono ?_;rintro e m⟨rfl,o⟩;go_wp2;go_ret;refine⟨rfl,(i.out.reps o).pst f.out (o.2.mono (λk e=>d.out k (by rw[show c k=2 from e];decide))) (λk e=>(bO k e).imp (d.out k) id)⟩
theorem rj {b:Nat}{T:Nat→Prop}{W:World}{x:Bx}(op:Int)(s:List UInt8)(h:cN b T W x) :
  Calls prog 45 #[.pointer (some ⟨b,0,none⟩),.int .i64 op,.string ⟨s.toArray⟩] W λe w'=>e=.returned (.int .i64 (bi x op s).2)∧Pst (cN b) T W (bi x op s).1 w':=by
 obtain⟨⟨c,t,u,r,cv,h,o⟩,hl⟩:=h;have c1:=h.c1;have j:=qq h;have a:=qq o;have d:=qq hl;have hn:=qq (aM h);have f:=lE h;obtain⟨v,m⟩:∃v,cT x=v:=⟨_,rfl⟩;rw[m]at f;have hs:=qq f;have hv:=qq (show bi x op s=if v=true then(x,11) else if x.q≤x.msgs.length then(x,6) else({ x with msgs:=x.msgs++[⟨3,op,s⟩] },0) by unfold bi;rw[m]);clear h o hl m f;cases v with
 | true =>
  rw[hv.out,if_pos rfl];clear hv;go_enter func45,ntmps45;go_wp2_with fail;refine(hn.out).mono ?_;rintro e i⟨rfl,rfl⟩;go_wp2_with fail;refine(hs.out).mono ?_;rintro e i⟨rfl,rfl⟩;go_wp2;go_ret;exact⟨rfl,j.out.same a.out d.out (Gr.refl _)⟩
 | false =>
  rw[if_neg (by decide)]at hv;by_cases hf:x.q≤x.msgs.length
  ·have g:=qq (hv.out.trans (if_pos hf));rw[g.out];have l:=qq (oN ⟨3,op,s⟩ j.out.k2 hf);unfold It.V at l;clear hv hf;go_enter func45,ntmps45;go_wp2_with fail;refine(hn.out).mono ?_;rintro e i⟨rfl,rfl⟩;go_wp2_with fail;refine(hs.out).mono ?_;rintro e i⟨rfl,rfl⟩;go_wp2_with fail;refine(l.out).mono ?_;rintro e i⟨rfl,p⟩;go_wp2;go_ret;exact⟨rfl,j.out.same a.out d.out p⟩
  ·have g:=qq (hv.out.trans (if_neg hf));rw[g.out];have l:=qq (CR ⟨3,op,s⟩ j.out.k2 (by omega));unfold It.V at l;clear hv hf;go_enter func45,ntmps45;go_wp2_with fail;refine(hn.out).mono ?_;rintro e i⟨rfl,rfl⟩;go_wp2_with fail;refine(hs.out).mono ?_;rintro e i⟨rfl,rfl⟩;go_wp2_with fail;refine(l.out).mono ?_;rintro e i⟨rfl,n⟩;go_wp2;go_ret;refine⟨rfl,(j.out.msgs n).pst d.out (n.2.mono (λk e=>a.out k (by rw[show c k=3 from e];decide))) (λk e=>(bO k e).imp (a.out k) id)⟩
theorem Ag {b:Nat}{T:Nat→Prop}{W:World}{x:Bx}(s:List UInt8)(h:cN b T W x) :
  Calls prog 73 #[.pointer (some ⟨b,0,none⟩),.string ⟨s.toArray⟩] W λe w'=>e=.returned (.int .i64 (dl x s).2)∧Pst (cN b) T W (dl x s).1 w':=by
 obtain⟨⟨c,B,C,A,cv,h,u⟩,hl⟩:=h;obtain⟨d,j⟩:∃d,W.alloc (.cells #[.string ⟨s.toArray⟩] 9)=d:=⟨_,rfl⟩;have t:Gr W d:=j▸Gr.alloc _ _;have o:d.cell? ⟨W.heap.size,0,none⟩=some (.string ⟨s.toArray⟩):=j▸aa _ _ _ 0 _ rfl;have q:d.heap.size=W.heap.size+1:=by rw[←j];simp
 have l:=(h.gr t).give h.lt 4 (by decide);have y:=h.lt;clear h;have c2:=l.c2;have fz:=l.fz;have w:b<d.heap.size:=ae c2;have hn:=qq (aM l);have i:=lE l;obtain⟨v,r⟩:∃v,cT x=v:=⟨_,rfl⟩;rw[r]at i;have hs:=qq i;have hv:=qq (show dl x s=if v=true then(x,11) else({ x with pong:=some s },0) by unfold dl;rw[r]);have f:=qq l;have g:=qq u;have n:=qq hl;have m:=qq t;have p:=qq o;clear l u hl r i t o;cases v with
 | true =>
  rw[hv.out,if_pos rfl];clear hv;go_enter func73,ntmps73;go_wp2_with fail;refine(hn.out).mono ?_;rintro e d⟨rfl,rfl⟩;go_wp2_with fail;refine(hs.out).mono ?_;rintro e d⟨rfl,rfl⟩;go_wp2;go_ret;exact⟨rfl,f.out.pst n.out (m.out.to_ch T) (λk e=>(bO k e).imp (g.out k) id)⟩
 | false =>
  rw[hv.out,if_neg (by decide)];clear hv;go_enter func73,ntmps73;go_wp2_with fail;refine(hn.out).mono ?_;rintro e d⟨rfl,rfl⟩;go_wp2_with fail;refine(hs.out).mono ?_;rintro e d⟨rfl,rfl⟩;go_wp2;go_ret;have z:TxP (.pointer (some ⟨W.heap.size,0,none⟩)) (λk=>bc c W d 4 k=4) d (some s):=⟨W.heap.size,rfl,iX (qv _) (by rw[q];exact Nat.lt_succ_self _),p.out⟩;refine⟨rfl,(f.out.setPong z).pst n.out ((m.out.to_ch T).trans (Ch.setCell d (a:=⟨b,2,none⟩) (g.out b ?_) _)) (λk e=>(bO k e).imp (g.out k) (λe=>⟨e.1,by rw[World.size_setCell];exact e.2⟩))⟩;have:=f.out.cb;rcases cq c W d 4 b with⟨_,e⟩ | ⟨_,e⟩
  ·rw[e]at this;cases this
  ·rw[e]at this;rw[this];decide
theorem wk {b:Nat}{T:Nat→Prop}{W:World}{x:Bx}(s:List UInt8)(h:cN b T W x) :
  Calls prog 89 #[.pointer (some ⟨b,0,none⟩),.string ⟨s.toArray⟩] W λe w'=>e=.returned (.int .i64 (cV x s).2)∧Pst (cN b) T W (cV x s).1 w':=by
 obtain⟨⟨c,C,D,B,cv,h,w⟩,hl⟩:=h;obtain⟨d,l⟩:∃d,W.alloc (.cells #[.string ⟨s.toArray⟩] 9)=d:=⟨_,rfl⟩;have u:Gr W d:=l▸Gr.alloc _ _;have p:d.cell? ⟨W.heap.size,0,none⟩=some (.string ⟨s.toArray⟩):=l▸aa _ _ _ 0 _ rfl;have r:d.heap.size=W.heap.size+1:=by rw[←l];simp
 have f:=(h.gr u).give h.lt 4 (by decide);have z:=h.lt;clear h;have c3:=f.c3;have c4:=f.c4;have fz:=f.fz;have y:b<d.heap.size:=ae c3;have hn:=qq (aM f);have j:=lE f;obtain⟨v,t⟩:∃v,cT x=v:=⟨_,rfl⟩;rw[t]at j;have hs:=qq j;have hv:=qq (show cV x s=if v=true then(x,11) else({ x with close:=some s,closed:=true },0) by unfold cV;rw[t]);have g:=qq f;have i:=qq w;have o:=qq hl;have m:=qq u;have q:=qq p;clear f w hl t j u p;cases v with
 | true =>
  rw[hv.out,if_pos rfl];clear hv;go_enter func89,ntmps89;go_wp2_with fail;refine(hn.out).mono ?_;rintro e d⟨rfl,rfl⟩;go_wp2_with fail;refine(hs.out).mono ?_;rintro e d⟨rfl,rfl⟩;go_wp2;go_ret;exact⟨rfl,g.out.pst o.out (m.out.to_ch T) (λk e=>(bO k e).imp (i.out k) id)⟩
 | false =>
  rw[hv.out,if_neg (by decide)];clear hv;go_enter func89,ntmps89;go_wp2_with fail;refine(hn.out).mono ?_;rintro e d⟨rfl,rfl⟩;go_wp2_with fail;refine(hs.out).mono ?_;rintro e d⟨rfl,rfl⟩;go_wp2;go_ret;have A:TxP (.pointer (some ⟨W.heap.size,0,none⟩)) (λk=>bc c W d 4 k=4) d (some s):=⟨W.heap.size,rfl,iX (qv _) (by rw[r];exact Nat.lt_succ_self _),q.out⟩;have n:T b:=i.out b (by
   have:=g.out.cb;rcases cq c W d 4 b with⟨_,e⟩ | ⟨_,e⟩
   ·rw[e]at this;cases this
   ·rw[e]at this;rw[this];decide)
  exact⟨rfl,((g.out.setClose A).setClosed true).pst o.out ((m.out.to_ch T).trans ((Ch.setCell d (a:=⟨b,3,none⟩) n _).trans (Ch.setCell _ (a:=⟨b,4,none⟩) n _))) (λk e=>(bO k e).imp (i.out k) (λe=>⟨e.1,by rw[World.size_setCell,World.size_setCell];exact e.2⟩))⟩
theorem tJ {b:Nat}{T:Nat→Prop}{W:World}{x:Bx}(h:cN b T W x) :
  Calls prog 81 #[.pointer (some ⟨b,0,none⟩)] W λe w'=>e=.returned (.tuple #[])∧Pst (cN b) T W (ii x) w':=by
 obtain⟨⟨c,l,m,j,cv,h,i⟩,hl⟩:=h;have c5:=h.c5;have fz:=h.fz;have hn:=qq (aM h);have g:=qq h;have d:=qq i;have f:=qq hl;clear h i hl;go_enter func81,ntmps81;go_wp2_with fail;refine(hn.out).mono ?_;rintro e n⟨rfl,rfl⟩;go_wp2;go_end0;exact⟨rfl,(g.out.setEnds true).pst f.out (Ch.setCell _ (a:=⟨b,5,none⟩) (d.out b (by rw[g.out.cb];decide)) _) (λk e=>.inl (d.out k e))⟩
def SkP (cv:Value)(T:Nat→Prop)(W:World)(o:Option Wn):Prop:=match o with
 | none=>cv=.pointer none
 | some c=>∃k,cv=.pointer (some ⟨k,0,none⟩)∧j9 k T W c
theorem SkP.mono {cv:Value}{T T':Nat→Prop}{W:World}{o:Option Wn}(h:SkP cv T W o)(a:∀k,T k→T' k)(hl:∀k,T' k→k<W.heap.size):SkP cv T' W o:=by
 cases o with
 | none=>exact h
 | some c=>obtain⟨k,e,h⟩:=h;exact⟨k,e,(m4 k).mono h a hl⟩
theorem SkP.frame {cv:Value}{T S:Nat→Prop}{W a:World}{o:Option Wn}(h:SkP cv T W o)(d:Ch S W a)(hs:∀k,T k→¬S k):SkP cv T a o:=by
 cases o with
 | none=>exact h
 | some c=>obtain⟨k,e,h⟩:=h;exact⟨k,e,(m4 k).frame h d hs⟩
structure SnS (b:Nat)(hv:Value)(c:Nat→Nat)(W:World)(s:Ss)(pb bb:Nat)(cv:Value):Prop where
 c0:W.cell? ⟨b,0,none⟩=some hv
 c1:W.cell? ⟨b,1,none⟩=some (.int .i64 s.limit)
 c2:W.cell? ⟨b,2,none⟩=some (.int .i64 s.st)
 c3:W.cell? ⟨b,3,none⟩=some (.pointer (some ⟨pb,0,none⟩))
 c4:W.cell? ⟨b,4,none⟩=some cv
 c5:W.cell? ⟨b,5,none⟩=some (.pointer (some ⟨bb,0,none⟩))
 c6:W.cell? ⟨b,6,none⟩=some (.bool s.fresh)
 fz:∀o,W.frozen? ⟨b,o,none⟩=false
 cb:c b=1
 kp:PqAt pb (λk=>c k=2) W s.p
 kw:SkP cv (λk=>c k=3) W s.c
 kx:cN bb (λk=>c k=4) W s.x
 lt:∀k,c k≠0→k<W.heap.size
section
variable {b:Nat} {hv:Value} {c:Nat→Nat} {W:World} {s:Ss} {pb bb:Nat} {cv:Value}
theorem SnS.blt (h:SnS b hv c W s pb bb cv):b<W.heap.size:=ae h.c0
theorem SnS.frame {S:Nat→Prop}{e:World}(h:SnS b hv c W s pb bb cv)(d:Ch S W e)(hs:∀k,c k≠0→¬S k):SnS b hv c e s pb bb cv:=by
 have i:¬S b:=hs b (by rw[h.cb];decide);have a:∀ {o v},W.cell? ⟨b,o,none⟩=some v→e.cell? ⟨b,o,none⟩=some v:=fun {o v} l=>(d.cell (p:=⟨b,o,none⟩) (ae l) i).trans l;have g:∀j,j≠0→∀k,c k=j→¬S k:=λj m k f=>hs k (by rw[f];exact m);exact⟨a h.c0,a h.c1,a h.c2,a h.c3,a h.c4,a h.c5,a h.c6,λo=>(d.frozen (p:=⟨b,o,none⟩) h.blt i).trans (h.fz o),h.cb,
  (lG _).frame h.kp d (g 2 (by decide)),h.kw.frame d (g 3 (by decide)),(eZ _).frame h.kx d (g 4 (by decide)),λk f=>qj (h.lt k f) d.size⟩
theorem SnS.gr {a:World}(h:SnS b hv c W s pb bb cv)(g:Gr W a):SnS b hv c a s pb bb cv:=h.frame (g.to_ch (λ_=>False)) (λ_ _ e=>e)
theorem SnS.own {S:Nat→Prop}{a:World}{j:Nat}(h:SnS b hv c W s pb bb cv)(f:Ch S W a)(hs:∀k,S k→c k=j)(i:j≠1) :
  (∀ {o v},W.cell? ⟨b,o,none⟩=some v→a.cell? ⟨b,o,none⟩=some v)∧(∀o,a.frozen? ⟨b,o,none⟩=false)∧bc c W a j b=1:=by
 have d:¬S b:=λe=>i ((hs b e).symm.trans h.cb);exact⟨fun {o v} g=>(f.cell (p:=⟨b,o,none⟩) (ae g) d).trans g,λo=>(f.frozen (p:=⟨b,o,none⟩) h.blt d).trans (h.fz o),by rw[bI h.blt];exact h.cb⟩
theorem SnS.skrest {S:Nat→Prop}{a:World}{j:Nat}(h:SnS b hv c W s pb bb cv)(f:Ch S W a)(hs:∀k,S k→c k=j)(g:j≠3):SkP cv (λk=>bc c W a j k=3) a s.c:=by
 refine(h.kw.frame f (λk e e2=>g ((hs k e2).symm.trans e))).mono (λk e=>?_) (λk e=>gF h.lt f.size k (by rw[e];decide));have d:c k=3:=e;show bc c W a j k=3;rw[bI (h.lt k (by rw[d];decide))];exact d
theorem SnS.setP {a:World}{p:Ps}(h:SnS b hv c W s pb bb cv)(k:Pst (PqAt pb) (λk=>c k=2) W p a):SnS b hv (bc c W a 2) a { s with p:=p } pb bb cv :=
 let z:=h.own k.2 (λ_ e=>e) (by decide)
 ⟨z.1 h.c0,z.1 h.c1,z.1 h.c2,z.1 h.c3,z.1 h.c4,z.1 h.c5,z.1 h.c6,z.2.1,z.2.2,(lG pb).own k h.lt (by decide),h.skrest k.2 (λ_ e=>e) (by decide),(eZ bb).rest h.kx k.2 (λ_ e=>e) (by decide) (by decide) h.lt,gF h.lt k.2.size⟩
theorem SnS.setX {a:World}{x:Bx}(h:SnS b hv c W s pb bb cv)(k:Pst (cN bb) (λk=>c k=4) W x a):SnS b hv (bc c W a 4) a { s with x:=x } pb bb cv :=
 let z:=h.own k.2 (λ_ e=>e) (by decide)
 ⟨z.1 h.c0,z.1 h.c1,z.1 h.c2,z.1 h.c3,z.1 h.c4,z.1 h.c5,z.1 h.c6,z.2.1,z.2.2,(lG pb).rest h.kp k.2 (λ_ e=>e) (by decide) (by decide) h.lt,h.skrest k.2 (λ_ e=>e) (by decide),(eZ bb).own k h.lt (by decide),gF h.lt k.2.size⟩
theorem SnS.setW {a:World}{w w':Wn}{k0:Nat}(h:SnS b hv c W s pb bb (.pointer (some ⟨k0,0,none⟩)))(d:s.c=some w)(k:Pst (j9 k0) (λk=>c k=3) W w' a):SnS b hv (bc c W a 3) a { s with c:=some w' } pb bb (.pointer (some ⟨k0,0,none⟩)) :=
 let z:=h.own k.2 (λ_ e=>e) (by decide)
 ⟨z.1 h.c0,z.1 h.c1,z.1 h.c2,z.1 h.c3,z.1 h.c4,z.1 h.c5,z.1 h.c6,z.2.1,z.2.2,(lG pb).rest h.kp k.2 (λ_ e=>e) (by decide) (by decide) h.lt,⟨k0,rfl,(m4 k0).own k h.lt (by decide)⟩,(eZ bb).rest h.kx k.2 (λ_ e=>e) (by decide) (by decide) h.lt,gF h.lt k.2.size⟩
theorem SnS.parts (h:SnS b hv c W s pb bb cv)(o:Nat)(v:Value) :
  PqAt pb (λk=>c k=2) (W.setCell ⟨b,o,none⟩ v) s.p∧(∀ {u:Value} {q:Option Wn},SkP u (λk=>c k=3) W q→SkP u (λk=>c k=3) (W.setCell ⟨b,o,none⟩ v) q)∧cN bb (λk=>c k=4) (W.setCell ⟨b,o,none⟩ v) s.x∧(∀k,c k≠0→k<(W.setCell ⟨b,o,none⟩ v).heap.size):=by
 have f:=Ch.setCell (T:=λk=>k=b) W (a:=⟨b,o,none⟩) rfl v;have g:∀j,j≠1→∀k,c k=j→¬k=b:=λj i k d e=>by rw[e,h.cb]at d;exact i d.symm
 exact⟨(lG _).frame h.kp f (g 2 (by decide)),fun {u q} l=>l.frame f (g 3 (by decide)),(eZ _).frame h.kx f (g 4 (by decide)),λk d=>by rw[World.size_setCell];exact h.lt k d⟩
theorem SnS.setSt (h:SnS b hv c W s pb bb cv)(n:Nat):SnS b hv c (W.setCell ⟨b,2,none⟩ (.int .i64 n)) { s with st:=n } pb bb cv :=
 let p:=h.parts 2 (.int .i64 n)
 ⟨ac h.c0 (by decide),ac h.c1 (by decide),af h.c2,ac h.c3 (by decide),ac h.c4 (by decide),ac h.c5 (by decide),ac h.c6 (by decide),λo=>by rw[ag];exact h.fz o,h.cb,p.1,p.2.1 h.kw,p.2.2.1,p.2.2.2⟩
theorem SnS.setFresh (h:SnS b hv c W s pb bb cv)(f:Bool):SnS b hv c (W.setCell ⟨b,6,none⟩ (.bool f)) { s with fresh:=f } pb bb cv :=
 let p:=h.parts 6 (.bool f)
 ⟨ac h.c0 (by decide),ac h.c1 (by decide),ac h.c2 (by decide),ac h.c3 (by decide),ac h.c4 (by decide),ac h.c5 (by decide),af h.c6,λo=>by rw[ag];exact h.fz o,h.cb,p.1,p.2.1 h.kw,p.2.2.1,p.2.2.2⟩
theorem SnS.setC (h:SnS b hv c W s pb bb cv){u:Value}{q:Option Wn}(a:SkP u (λk=>c k=3) W q):SnS b hv c (W.setCell ⟨b,4,none⟩ u) { s with c:=q } pb bb u :=
 let p:=h.parts 4 u
 ⟨ac h.c0 (by decide),ac h.c1 (by decide),ac h.c2 (by decide),ac h.c3 (by decide),af h.c4,ac h.c5 (by decide),ac h.c6 (by decide),λo=>by rw[ag];exact h.fz o,h.cb,p.1,p.2.1 a,p.2.2.1,p.2.2.2⟩
theorem SnS.give {W0:World}(h:SnS b hv c W s pb bb cv)(hl:∀k,c k≠0→k<W0.heap.size)(j:Nat)(g:j≠0):SnS b hv (bc c W0 W j) W s pb bb cv:=by
 have a:∀k,bc c W0 W j k≠0→k<W.heap.size:=λk e=>(bO k e).elim (h.lt k) (λe=>e.2);have up:∀i,i≠0→∀k,c k=i→bc c W0 W j k=i:=λi hi k d=>by rw[bI (hl k (by rw[d];exact hi))];exact d
 have f:∀i,i≠0→∀k,bc c W0 W j k=i→k<W.heap.size:=λi hi k d=>a k (by rw[d];exact hi);exact⟨h.c0,h.c1,h.c2,h.c3,h.c4,h.c5,h.c6,h.fz,up 1 (by decide) b h.cb,(lG _).mono h.kp (up 2 (by decide)) (f 2 (by decide)),h.kw.mono (up 3 (by decide)) (f 3 (by decide)),(eZ _).mono h.kx (up 4 (by decide)) (f 4 (by decide)),a⟩
end
def bT (b:Nat)(hv:Value)(T:Nat→Prop)(W:World)(s:Ss):Prop:=(∃c pb bb cv,SnS b hv c W s pb bb cv∧∀k,c k≠0→T k)∧∀k,T k→k<W.heap.size
theorem aD (b:Nat)(hv:Value):Kin (bT b hv) :=
 ⟨fun {T T' W x} ⟨⟨c,pb,bb,cv,h,a⟩,_⟩ g hl=>⟨⟨c,pb,bb,cv,h,λk e=>g _ (a k e)⟩,hl⟩,
  fun {T S W i x} ⟨⟨c,pb,bb,cv,h,a⟩,hl⟩ d hs=>⟨⟨c,pb,bb,cv,h.frame d (λk e=>hs k (a k e)),a⟩,λk f=>qj (hl k f) d.size⟩,
  fun {T W x} h=>h.2⟩
theorem SnS.pst {b:Nat}{hv:Value}{c:Nat→Nat}{T:Nat→Prop}{W a:World}{s:Ss}{pb bb:Nat}{cv:Value}(h:SnS b hv c a s pb bb cv)(hl:∀k,T k→k<W.heap.size)(d:Ch T W a)(e:∀k,c k≠0→Add T W a k):Pst (bT b hv) T W s a :=
 ⟨⟨⟨c,pb,bb,cv,h,e⟩,mn d.size hl⟩,d⟩
