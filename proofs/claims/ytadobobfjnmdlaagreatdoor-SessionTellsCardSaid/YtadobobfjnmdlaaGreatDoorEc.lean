/-
  A session in memory: how it stands; what ends it; bytes, messages. (Printed by mk_ec.py.)
-/
import Derived.Test.YtadobobfjnmdlaaGreatDoorQl
set_option linter.unnecessarySimpa false
set_option linter.unusedVariables false
set_option linter.unusedSimpArgs false
set_option maxHeartbeats 16000000
set_option maxRecDepth 100000
open Go.Proofs.Tryz
namespace Go.Proofs.YtadobobfjnmdlaaGreatDoor
open Go.RowKit Go.Shelf
attribute [local go_sem] Oper.semAt_some
theorem cH {c:Nat→Nat}{T:Nat→Prop}{W a w':World}{j:Nat}(d:∀k,c k≠0→T k)(hs:a.heap.size≤w'.heap.size):∀k,bc c W a j k≠0→Add T W w' k :=
 λk e=>(bO k e).imp (d k) (λe=>⟨e.1,qj e.2 hs⟩)
section
variable {b:Nat} {hv:Value} {T:Nat→Prop} {W:World} {s:Ss}
theorem gj (h:bT b hv T W s):Calls prog 20 #[.pointer (some ⟨b,0,none⟩)] W λe w'=>e=.returned (.int .i64 s.st)∧W=w':=by
 obtain⟨⟨c,f,d,cv,h,a⟩,hl⟩:=h;have c2:=h.c2;have c5:=h.c5;clear h a hl;go_enter func20,ntmps20;go_wp2;go_ret;exact⟨rfl,rfl⟩
theorem dA (h:bT b hv T W s):Calls prog 47 #[.pointer (some ⟨b,0,none⟩)] W λe w'=>e=.returned (.tuple #[])∧Pst (bT b hv) T W (bJ s) w':=by
 obtain⟨⟨c,t,r,cv,h,j⟩,hl⟩:=h;have p:=qq (tJ h.kx);have c5:=h.c5;have o:=qq h;have f:=qq j;have l:=qq hl;have g:=qq (j b (by rw[h.cb];decide));clear h j hl;go_enter func47,ntmps47;go_wp2_with fail;refine p.out.mono ?_;rintro e q⟨rfl,m⟩;have d:=o.out.setX m;have n:=qq m;have c2:=d.c2;have c6:=d.c6;have fz:=d.fz;have i:=qq d;clear d m c5;go_wp2;go_end0;exact⟨rfl,((i.out.setSt 3).setFresh false).pst l.out ((n.out.2.mono (λk e=>f.out k (by rw[show c k=4 from e];decide))).trans ((Ch.setCell q (a:=⟨b,2,none⟩) g.out _).trans (Ch.setCell _ (a:=⟨b,6,none⟩) g.out _))) (cH f.out (by simp))⟩
theorem kQ (h:bT b hv T W s)(code:Nat)(t:code≤65535):Calls prog 59 #[.pointer (some ⟨b,0,none⟩),.int .i64 code] W λe w'=>e=.returned (.tuple #[])∧Pst (bT b hv) T W (du s code) w':=by
 obtain⟨⟨c,w,v,cv,h,l⟩,hl⟩:=h;have q:=qq (ws code W t);have p:=qq h;have d:=qq l;have m:=qq hl;have r:=qq (l b (by rw[h.cb];decide));clear h l hl;go_enter func59,ntmps59;go_wp2_with fail;refine q.out.mono ?_;rintro e x⟨⟨n,rfl⟩,i⟩;have g:=p.out.gr i;have u:=qq (wk (i7 code) g.kx);have c5:=g.c5;have j:=qq g;have a:=qq i;clear g i;go_wp2_with fail;refine u.out.mono ?_;rintro e y⟨rfl,o⟩;have f:=qq o;clear o;go_wp2;go_end0;exact⟨rfl,(aD b hv).ahead a.out ((j.out.setX f.out).pst (λk e=>qj (m.out k e) (Below.size a.out)) (f.out.2.mono (λk e=>d.out k (by rw[show c k=4 from e];decide))) (cH d.out (qv _)))⟩
theorem Bj (h:bT b hv T W s):Calls prog 23 #[.pointer (some ⟨b,0,none⟩)] W λe w'=>e=.returned (.bool (cW s))∧W=w':=by
 have hs:=qq (gj h);obtain⟨⟨c,r,l,cv,h,m⟩,hl⟩:=h;have c5:=h.c5;have k:=qq (show Calls prog 49 #[.pointer (some ⟨l,0,none⟩)] W λe w'=>e=.returned (.int .i64 s.x.reps.length)∧W=w' from by
  obtain⟨⟨o,u,v,t,cv,n,_⟩,_⟩:=h.kx;exact ri n)
 clear h m hl;by_cases d:s.st=3
 ·have a:=qq (show cW s=false by unfold cW;rw[d];rfl);rw[d]at hs;clear d;go_enter func23,ntmps23;go_wp2_with fail;refine hs.out.mono ?_;rintro e g⟨rfl,rfl⟩;go_wp2;go_ret;exact⟨by rw[a.out];rfl,rfl⟩
 ·have a:=qq (show cW s=decide (s.x.reps.length<4) by unfold cW;rw[show(s.st != 3)=true from bne_iff_ne.2 d,Bool.true_and]);have p:((s.st:Int) != 3)=true:=bne_iff_ne.2 (by omega);clear d;by_cases f:s.x.reps.length<4
  ·have i:(s.x.reps.length:Int)<4:=(by omega);have j:=qq (decide_eq_true f);clear f;go_enter func23,ntmps23;go_wp2_with fail;refine hs.out.mono ?_;rintro e g⟨rfl,rfl⟩;go_wp2_with fail;refine k.out.mono ?_;rintro e g⟨rfl,rfl⟩;go_wp2;go_ret;exact⟨by rw[a.out,j.out];first | rfl | exact congrArg (λq=>Ending.returned (Value.bool q)) (decide_eq_false (by omega)),rfl⟩
  ·have i:¬(s.x.reps.length:Int)<4:=(by omega);have j:=qq (decide_eq_false f);clear f;go_enter func23,ntmps23;go_wp2_with fail;refine hs.out.mono ?_;rintro e g⟨rfl,rfl⟩;go_wp2_with fail;refine k.out.mono ?_;rintro e g⟨rfl,rfl⟩;go_wp2;go_ret;exact⟨by rw[a.out,j.out];first | rfl | exact congrArg (λq=>Ending.returned (Value.bool q)) (decide_eq_false (by omega)),rfl⟩
theorem mM (h:bT b hv T W s)(g:s.st=2→s.c.isSome=true):Calls prog 21 #[.pointer (some ⟨b,0,none⟩)] W λe w'=>e=.returned (.bool (cG s))∧W=w':=by
 have hs:=qq (gj h);obtain⟨⟨c,q,o,cv,h,m⟩,hl⟩:=h;have c4:=h.c4;by_cases f:s.st=2
 ·cases j:s.c with
  | none=>rw[j]at g;exact absurd (g f) (by decide)
  | some w =>
   have kw:=h.kw;rw[j]at kw;obtain⟨k0,rfl,kw⟩:=kw;have d:=qq (lk kw);have a:=qq (show cG s=(w.st==1) by unfold cG ju;rw[j,f];rfl);rw[f]at hs;clear h m hl g f j kw;by_cases i:w.st=1
   ·rw[i]at d a;clear i;go_enter func21,ntmps21;go_wp2_with fail;refine hs.out.mono ?_;rintro e k⟨rfl,rfl⟩;go_wp2_with fail;refine d.out.mono ?_;rintro e k⟨rfl,rfl⟩;go_wp2;go_ret;exact⟨by rw[a.out];rfl,rfl⟩
   ·have l:=qq (show(w.st==1)=false from beq_false_of_ne i);have n:((w.st:Int)==1)=false:=beq_false_of_ne (by omega);clear i;go_enter func21,ntmps21;go_wp2_with fail;refine hs.out.mono ?_;rintro e k⟨rfl,rfl⟩;go_wp2_with fail;refine d.out.mono ?_;rintro e k⟨rfl,rfl⟩;go_wp2;go_ret;exact⟨by rw[a.out,l.out];rfl,rfl⟩
 ·have a:=qq (show cG s=false by unfold cG;rw[show(s.st==2)=false from beq_false_of_ne f,Bool.false_and]);have p:((s.st:Int)==2)=false:=beq_false_of_ne (by omega);clear h m hl g f;go_enter func21,ntmps21;go_wp2_with fail;refine hs.out.mono ?_;rintro e k⟨rfl,rfl⟩;go_wp2;go_ret;exact⟨by rw[a.out];rfl,rfl⟩
theorem um (h:bT b hv T W s)(g:s.st=2→s.c.isSome=true):Calls prog 22 #[.pointer (some ⟨b,0,none⟩)] W λe w'=>e=.returned (.bool (dK s))∧W=w':=by
 have hs:=qq (gj h);obtain⟨⟨c,q,o,cv,h,m⟩,hl⟩:=h;have c4:=h.c4;by_cases f:s.st=2
 ·cases j:s.c with
  | none=>rw[j]at g;exact absurd (g f) (by decide)
  | some w =>
   have kw:=h.kw;rw[j]at kw;obtain⟨k0,rfl,kw⟩:=kw;have d:=qq (lk kw);have a:=qq (show dK s=(w.st==2) by unfold dK ju;rw[j,f];rfl);rw[f]at hs;clear h m hl g f j kw;by_cases i:w.st=2
   ·rw[i]at d a;clear i;go_enter func22,ntmps22;go_wp2_with fail;refine hs.out.mono ?_;rintro e k⟨rfl,rfl⟩;go_wp2_with fail;refine d.out.mono ?_;rintro e k⟨rfl,rfl⟩;go_wp2;go_ret;exact⟨by rw[a.out];rfl,rfl⟩
   ·have l:=qq (show(w.st==2)=false from beq_false_of_ne i);have n:((w.st:Int)==2)=false:=beq_false_of_ne (by omega);clear i;go_enter func22,ntmps22;go_wp2_with fail;refine hs.out.mono ?_;rintro e k⟨rfl,rfl⟩;go_wp2_with fail;refine d.out.mono ?_;rintro e k⟨rfl,rfl⟩;go_wp2;go_ret;exact⟨by rw[a.out,l.out];rfl,rfl⟩
 ·have a:=qq (show dK s=false by unfold dK;rw[show(s.st==2)=false from beq_false_of_ne f,Bool.false_and]);have p:((s.st:Int)==2)=false:=beq_false_of_ne (by omega);clear h m hl g f;go_enter func22,ntmps22;go_wp2_with fail;refine hs.out.mono ?_;rintro e k⟨rfl,rfl⟩;go_wp2;go_ret;exact⟨by rw[a.out];rfl,rfl⟩
theorem rI (h:bT b hv T W s):Calls prog 26 #[.pointer (some ⟨b,0,none⟩)] W λe w'=>e=.returned (.bool (iL s.x))∧W=w':=by
 obtain⟨⟨c,j,a,cv,h,d⟩,hl⟩:=h;have c5:=h.c5;have f:=qq (show Calls prog 51 #[.pointer (some ⟨a,0,none⟩)] W λe w'=>e=.returned (.bool (iL s.x))∧W=w' from by
  obtain⟨⟨i,l,m,k,cv,g,_⟩,_⟩:=h.kx;exact wq g)
 clear h d hl;go_enter func26,ntmps26;go_wp2_with fail;refine f.out.mono ?_;rintro e n⟨rfl,rfl⟩;go_wp2;go_ret;exact⟨rfl,rfl⟩
theorem DA (h:bT b hv T W s)(x:List UInt8)(y:s.st=2→s.c.isSome=true)(j:s.p.inp.length+x.length≤4611686018427387900)(D:∀w,s.c=some w→w.r.inp.length+x.length≤4611686018427387900):Calls prog 12 #[.pointer (some ⟨b,0,none⟩),.string ⟨x.toArray⟩] W λe w'=>e=.returned (.tuple #[])∧Pst (bT b hv) T W (cE s x) w':=by
 have hs:=qq (gj h);have h0:=qq h;obtain⟨⟨c,I,F,cv,h,z⟩,hl⟩:=h;have E:=qq h;have m:=qq z;have C:=qq hl;have A:=qq (z b (by rw[h.cb];decide));have c3:=h.c3;have c4:=h.c4;by_cases q:s.st=1
 ·have hf:=qq (x8 h.kp x (by omega));have f:=qq (show cE s x={ s with p:=fJ s.p x,fresh:=s.fresh||!x.isEmpty } by unfold cE;rw[if_pos q]);rw[q]at hs;obtain⟨fr,d⟩:∃fr,s.fresh=fr:=⟨_,rfl⟩;rw[d]at f;clear h z hl y j D q;have i:=qq d;clear d;cases fr;all_goals
   go_enter func12,ntmps12;go_wp2_with fail;refine hs.out.mono ?_;rintro e u⟨rfl,rfl⟩;go_wp2_with fail;refine hf.out.mono ?_;rintro e u⟨rfl,j⟩;have l:=E.out.setP j;have c6:=l.c6;have fz:=l.fz;rw[show({ s with p:=fJ s.p x }:Ss).fresh=s.fresh from rfl,i.out]at c6;have n:=qq l;have o:=qq j;clear l j c3 c4;go_wp2;go_end0;rw[f.out];exact⟨rfl,(n.out.setFresh _).pst C.out ((o.out.2.mono (λk e=>m.out k (by rw[show c k=2 from e];decide))).trans (Ch.setCell u (a:=⟨b,6,none⟩) A.out _)) (cH m.out (by simp))⟩
 ·by_cases t:s.st=2
  ·cases g:s.c with
   | none=>rw[g]at y;exact absurd (y t) (by decide)
   | some w =>
    have kw:=h.kw;rw[g]at kw;obtain⟨k0,rfl,kw⟩:=kw;have hf:=qq (sw kw x (D w g));have f:=qq (show cE s x={ s with c:=some (aN w x),fresh:=s.fresh||!x.isEmpty } by unfold cE;rw[if_neg q,if_pos t,g];rfl);rw[t]at hs;obtain⟨fr,d⟩:∃fr,s.fresh=fr:=⟨_,rfl⟩;rw[d]at f;have i:=qq d;have B:=qq g;clear h z hl y j D q t d g kw;cases fr;all_goals
     go_enter func12,ntmps12;go_wp2_with fail;refine hs.out.mono ?_;rintro e u⟨rfl,rfl⟩;go_wp2_with fail;refine hf.out.mono ?_;rintro e u⟨rfl,j⟩;have l:=E.out.setW B.out j;have c6:=l.c6;have fz:=l.fz;rw[show({ s with c:=some (aN w x) }:Ss).fresh=s.fresh from rfl,i.out]at c6;have n:=qq l;have o:=qq j;clear l j c3 c4;go_wp2;go_end0;rw[f.out];exact⟨rfl,(n.out.setFresh _).pst C.out ((o.out.2.mono (λk e=>m.out k (by rw[show c k=3 from e];decide))).trans (Ch.setCell u (a:=⟨b,6,none⟩) A.out _)) (cH m.out (by simp))⟩
  ·have f:=qq (show cE s x=s by unfold cE;rw[if_neg q,if_neg t]);have J:((s.st:Int)==1)=false:=beq_false_of_ne (by omega);have L:((s.st:Int)==2)=false:=beq_false_of_ne (by omega);clear h z hl y j D q t;go_enter func12,ntmps12;go_wp2_with fail;refine hs.out.mono ?_;rintro e u⟨rfl,rfl⟩;go_wp2;refine bodyPost_ret (v:=.tuple #[]) (by simp[results,results12,go_sem]) rfl ?_;rw[f.out];exact⟨rfl,(aD b hv).of_gr h0.out (Gr.refl _)⟩
end
def frV (op:Int)(s:List UInt8):Value:=.agg #[.bool true,.int .i64 0,.int .i64 op,.bool false,.int .u8 0,.int .u8 0,.int .u8 0,.int .u8 0,.string ⟨s.toArray⟩]
def kR (op:Int)(s:List UInt8)(W:World)(e:Ending)(W':World):Prop:=(∃n:Int,e=.returned (.tuple #[.string ⟨(dC op s).toArray⟩,.int .i64 n]))∧Gr W W'
theorem un (op:Int)(s:List UInt8)(W:World)(h:op<0):Calls prog 44 #[frV op s] W (kR op s W):=by
 have hv:=qq (show dC op s=[] by unfold dC;rw[if_pos (.inl h)]);unfold frV;go_enter func44,ntmps44;go_wp2;refine bodyPost_ret (v:=.tuple #[.string ⟨#[]⟩,.int .i64 1]) (by simp[results,results44,go_sem]) rfl ⟨⟨1,by rw[hv.out]⟩,Gr.alloc _ _⟩
theorem rJ (op:Int)(s:List UInt8)(W:World)(h:15<op):Calls prog 44 #[frV op s] W (kR op s W):=by
 have hv:=qq (show dC op s=[] by unfold dC;rw[if_pos (.inr h)]);have h0:¬op<0:=by omega
 unfold frV;go_enter func44,ntmps44;go_wp2;refine bodyPost_ret (v:=.tuple #[.string ⟨#[]⟩,.int .i64 1]) (by simp[results,results44,go_sem]) rfl ⟨⟨1,by rw[hv.out]⟩,Gr.alloc _ _⟩
theorem xl:∀n:Fin 16,bits .or .i64 0 (n.val:Int)=(n.val:Int):=by decide +kernel
theorem rK:∀n:Fin 16,bits .or .u8 (n.val:Int) 128=((128+n.val:Nat):Int):=by decide +kernel
theorem Bk (w:World):(Op.equalIn 10000 54 (.agg #[.int .u8 0,.int .u8 0,.int .u8 0,.int .u8 0]) (.agg #[.int .u8 0,.int .u8 0,.int .u8 0,.int .u8 0])).run prog w=.ok true w:=by
 kernel_rfl
theorem yi (s:List UInt8):df hd0 0 s=s:=by
 apply List.ext_getElem
 ·rw[dI]
 ·intro i a c;have e:∀k,mE hd0 k=0:=λk=>by unfold mE hd0;simp
  simp[df,e]
theorem cY (d:UInt8)(l:List UInt8):am (d :: l)=.int .u8 d.toNat :: am l:=rfl
theorem lJ (s:List UInt8)(W:World)(hs:s.length≤4611686018427387900)(y:Later (Gr W)) :
  Calls prog 78 #[.agg #[.int .u8 0,.int .u8 0,.int .u8 0,.int .u8 0],.int .i64 0,.string ⟨s.toArray⟩] y.w λe w'=>e=.returned (.string ⟨s.toArray⟩)∧∃z:Later (Gr W),w'=z.w:=by
 have e:=pS hd0 0 s y.w hs;rw[yi]at e;exact Calls.later (e.mono λ_ w' ⟨a,c⟩=>⟨a,y.ok.trans c⟩)
def FbR (s:List UInt8)(F:List UInt8)(z:Nat)(W:World)(v i:Value)(wr:World):Prop :=
 ∃k:Nat,k≤z∧i=.int .i64 ((z:Int) - 1 - k)∧Gr W wr∧W.heap.size+1≤wr.heap.size∧wr.ownsRow (W.heap.size+1) 5 1 v (2+k) (am (F.take (2+k)))∧wr.cell? ⟨W.heap.size,3,none⟩=some (.bool false) ∧
  (wr.cell? ⟨W.heap.size,4,none⟩=some (.int .u8 0)∧wr.cell? ⟨W.heap.size,5,none⟩=some (.int .u8 0)∧wr.cell? ⟨W.heap.size,6,none⟩=some (.int .u8 0)∧wr.cell? ⟨W.heap.size,7,none⟩=some (.int .u8 0))∧wr.cell? ⟨W.heap.size,8,none⟩=some (.string ⟨s.toArray⟩)
theorem xm {s F:List UInt8}{z k:Nat}{W wr i:World}{v q:Value}{d:UInt8}{o:Obj}(x:k<z)(g:Gr W wr)(hs:W.heap.size+1≤wr.heap.size)(a:wr.ownsRow (W.heap.size+1) 5 1 v (2+k) (am (F.take (2+k))))
  (e3:wr.cell? ⟨W.heap.size,3,none⟩=some (.bool false)) (e4:wr.cell? ⟨W.heap.size,4,none⟩=some (.int .u8 0)∧wr.cell? ⟨W.heap.size,5,none⟩=some (.int .u8 0)∧wr.cell? ⟨W.heap.size,6,none⟩=some (.int .u8 0)∧wr.cell? ⟨W.heap.size,7,none⟩=some (.int .u8 0)) (r:wr.cell? ⟨W.heap.size,8,none⟩=some (.string ⟨s.toArray⟩))
  (hF:F[2+k]?=some d) (f:i.ownsRow (W.heap.size+1) 5 1 q (2+k+1) (am (F.take (2+k))++[.int .u8 d.toNat])) (c:(wr.alloc o).grownBy i v.ownBlock):FbR s F z W q (.int .i64 ((z:Int) - 1 - (k+1:Nat))) i:=by
 have m:2+k<F.length:=(List.getElem?_eq_some_iff.1 hF).1;have w:F[2+k]=d:=(List.getElem?_eq_some_iff.1 hF).2;have l:Ch (λj=>v.ownBlock=some j) wr i:=((Gr.alloc wr o).to_ch _).trans (dx c);have t:¬(v.ownBlock=some W.heap.size):=λe=>by have:=(a.lt _ e).1;omega
 have h:∀ {j u},wr.cell? ⟨W.heap.size,j,none⟩=some u→i.cell? ⟨W.heap.size,j,none⟩=some u:=fun {j u} n=>(l.cell (p:=⟨W.heap.size,j,none⟩) (ae n) t).trans n;refine⟨k+1,x,rfl,g.ch l (λj e=>by have:=(a.lt _ e).1;omega),qy hs l.size,?_,h e3,⟨h e4.1,h e4.2.1,h e4.2.2.1,h e4.2.2.2⟩,h r⟩;rw[show 2+(k+1)=2+k+1 from rfl,List.take_succ_eq_append_getElem m,gK,w];exact f
theorem qn (op:Nat)(s:List UInt8)(W:World)(h:op≤15)(hs:s.length≤4611686018427387900)(hn:s.length≤125):Calls prog 44 #[frV op s] W (kR op s W):=by
 have l:dC op s=[UInt8.ofNat (128+op),UInt8.ofNat s.length]++s:=by unfold dC;rw[if_neg (by omega)];unfold ul;rw[if_pos hn];rfl
 have P:=qq (show ∀w,_ from λw=>by have e:=jU s.length w;rw[show cB s.length=0 by unfold cB;rw[if_pos hn]]at e;exact e);have h0:¬(op:Int)<0:=by omega
 have h1:¬(15:Int)<(op:Int):=by omega
 have A:=xl ⟨op,by omega⟩;have B:=rK ⟨op,by omega⟩;dsimp only at A B;have X:(op:Int) % 256=op:=by omega
 obtain⟨f,m⟩:∃y,UInt8.ofNat (128+op)=y:=⟨_,rfl⟩;have D:(f.toNat:Int)=128+(op:Int):=by rw[←m];simp[UInt8.toNat_ofNat'] <;> omega
 obtain⟨g,n⟩:∃y,UInt8.ofNat s.length=y:=⟨_,rfl⟩;have E:(g.toNat:Int)=(s.length:Int):=by rw[←n];simp[UInt8.toNat_ofNat'] <;> omega
 rw[m,n]at l;have hv:=qq l;clear l m n;have N:=Bk;obtain⟨i0,hi,Y,Z,a0⟩:=info_parts bL;unfold frV;go_enter func44,ntmps44;go_wp2_with fail;refine(P.out _).mono ?_;rintro e w3⟨rfl,rfl⟩;clear N A B;go_wp2;obtain⟨d,a⟩:∃d,(W.alloc (.cells #[.bool true,.int .i64 0,.int .i64 op,.bool false,.int .u8 0,.int .u8 0,.int .u8 0,.int .u8 0,.string ⟨s.toArray⟩] 56)).alloc (.cells #[.int .u8 (128+op),.int .u8 (s.length:Int)] 5)=d:=⟨_,rfl⟩;rw[a];have e3:d.cell? ⟨W.heap.size,3,none⟩=some (.bool false):=by rw[←a];exact(Gr.alloc _ _).cell (aa _ _ _ 3 _ rfl)
 have e4:d.cell? ⟨W.heap.size,4,none⟩=some (.int .u8 0):=by rw[←a];exact(Gr.alloc _ _).cell (aa _ _ _ 4 _ rfl)
 have q:d.cell? ⟨W.heap.size,5,none⟩=some (.int .u8 0):=by rw[←a];exact(Gr.alloc _ _).cell (aa _ _ _ 5 _ rfl)
 have r:d.cell? ⟨W.heap.size,6,none⟩=some (.int .u8 0):=by rw[←a];exact(Gr.alloc _ _).cell (aa _ _ _ 6 _ rfl)
 have t:d.cell? ⟨W.heap.size,7,none⟩=some (.int .u8 0):=by rw[←a];exact(Gr.alloc _ _).cell (aa _ _ _ 7 _ rfl)
 have u:d.cell? ⟨W.heap.size,8,none⟩=some (.string ⟨s.toArray⟩):=by rw[←a];exact(Gr.alloc _ _).cell (aa _ _ _ 8 _ rfl)
 have x:Gr W d:=by rw[←a];exact(Gr.alloc _ _).alloc1 _
 have I:W.heap.size+1≤d.heap.size:=by rw[←a];simp
 have o:d.ownsRow (W.heap.size+1) 5 1 (.slice (some ⟨W.heap.size+1,0,none⟩) 2 2) 2 (am [f,g]):=by
  have hl:=World.ownsRow_lit (base:=W.heap.size+1) (size:=1) (e:=5) (W.alloc (.cells #[.bool true,.int .i64 0,.int .i64 op,.bool false,.int .u8 0,.int .u8 0,.int .u8 0,.int .u8 0,.string ⟨s.toArray⟩] 56)) #[.int .u8 (128+op),.int .u8 (s.length:Int)] 2 (by simp) (by decide) rfl;rw[World.size_alloc,a]at hl;have e:am [f,g]=#[Value.int .u8 (128+op),.int .u8 (s.length:Int)].toList:=by rw[cY,cY,D,E];rfl
  rw[e];exact hl
 have c:=qq (And.intro x (And.intro I (And.intro o (And.intro e3 (And.intro (And.intro e4 (And.intro q (And.intro r t))) u)))));clear a e3 e4 q r t u x I o D E;go_loopw [4,7] (λv i wr=>FbR s [f,g] 0 W v i wr) (λ_ i _=>(intOf i+1).toNat)
 case atStart=>exact⟨0,qx _,rfl,c.out.1,c.out.2.1,c.out.2.2.1,c.out.2.2.2.1,c.out.2.2.2.2.1,c.out.2.2.2.2.2⟩
 case round =>
  clear c;obtain⟨k,hk,rfl,x,I,o,e3,p,u⟩:=hrel;obtain⟨V,cv,rfl⟩:=aJ o;have F:=qq o;have J:=qq x;have S:=qq p;obtain⟨e4,q,r,t⟩:=p;clear o x;have O:k=0:=by omega
  subst O;rw[show((0:Nat):Int) - 1 - ((0:Nat):Int) = -1 from rfl];have j:OwnB (W.heap.size+1) wr (.slice V (2+0) cv) [f,g]:=F.out;have L:∀y:Later (Gr wr),(convert 100 9 (.slice V (2+0) cv)).run prog y.w=.ok (.string ⟨[f,g].toArray⟩) y.w:=λy=>fE (dG j y.ok);haveI:Nonempty (Later (Gr wr)):=⟨⟨wr,Gr.refl wr⟩⟩;have t4:∀y:Later (Gr wr),y.w.cell? ⟨W.heap.size,4,none⟩=some (.int .u8 0):=λy=>y.ok.cell e4;have t5:∀y:Later (Gr wr),y.w.cell? ⟨W.heap.size,5,none⟩=some (.int .u8 0):=λy=>y.ok.cell q;have t6:∀y:Later (Gr wr),y.w.cell? ⟨W.heap.size,6,none⟩=some (.int .u8 0):=λy=>y.ok.cell r;have t7:∀y:Later (Gr wr),y.w.cell? ⟨W.heap.size,7,none⟩=some (.int .u8 0):=λy=>y.ok.cell t;have t8:∀y:Later (Gr wr),y.w.cell? ⟨W.heap.size,8,none⟩=some (.string ⟨s.toArray⟩):=λy=>y.ok.cell u;have R:=qq (lJ s wr hs);have U:(⟨([f,g]).toArray⟩:ByteArray)++(⟨s.toArray⟩:ByteArray)=⟨([f,g]++s).toArray⟩:=aL _ _;go_upto_region 21 with(fail);clear j F e4 q r t u I;refine ah (C:=Gr wr) (by kernel_rfl) (by kernel_rfl) (Gr.drew' _) ?_;repeat (go_big_quiet_step (with_reducible exact R.out _))
  refine wpQuiet_nil ?_;intro w9 z;have M:=qq (J.out.trans z);clear t4 t5 t6 t7 t8 L z;go_wp2;refine bodyPost_ret (v:=.tuple #[.string ⟨([f,g]++s).toArray⟩,.int .i64 0]) (by simp[results,results44,go_sem]) rfl ⟨⟨0,by rw[hv.out]⟩,M.out⟩
theorem uo (op:Nat)(s:List UInt8)(W:World)(h:op≤15)(hs:s.length≤4611686018427387900)(hn:125<s.length∧s.length≤65535):Calls prog 44 #[frV op s] W (kR op s W):=by
 have M:dC op s=[UInt8.ofNat (128+op),126,UInt8.ofNat (s.length / 256),UInt8.ofNat s.length]++s:=by unfold dC;rw[if_neg (by omega)];unfold ul;rw[if_neg (by omega),if_pos hn.2];rfl
 have b2:=qq (show ∀w,_ from λw=>by have e:=jU s.length w;rw[show cB s.length=2 by unfold cB;rw[if_neg (by omega),if_pos hn.2]]at e;exact e);have h0:¬(op:Int)<0:=by omega
 have h1:¬(15:Int)<(op:Int):=by omega
 have Z:=xl ⟨op,by omega⟩;have a0:=rK ⟨op,by omega⟩;dsimp only at Z a0;have b5:(op:Int) % 256=op:=by omega
 obtain⟨n,N⟩:∃y,UInt8.ofNat (128+op)=y:=⟨_,rfl⟩;have a1:(n.toNat:Int)=128+(op:Int):=by rw[←N];simp[UInt8.toNat_ofNat'] <;> omega
 have a2:((126:UInt8).toNat:Int)=126:=rfl;obtain⟨o,P⟩:∃y,UInt8.ofNat (s.length / 256)=y:=⟨_,rfl⟩;have q0:(o.toNat:Int)=((s.length:Int) / 256):=by rw[←P];simp[UInt8.toNat_ofNat'] <;> omega
 obtain⟨p,R⟩:∃y,UInt8.ofNat s.length=y:=⟨_,rfl⟩;have q1:(p.toNat:Int)=((s.length:Int) % 256):=by rw[←R];simp[UInt8.toNat_ofNat'] <;> omega
 rw[N,P,R]at M;have hv:=qq M;clear M N P R;have b0:=Bk;obtain⟨i0,hi,a3,a4,a5⟩:=info_parts bL;unfold frV;go_enter func44,ntmps44;go_wp2_with fail;refine(b2.out _).mono ?_;rintro e w3⟨rfl,rfl⟩;clear b0 Z a0;go_wp2;obtain⟨x,f⟩:∃x,(W.alloc (.cells #[.bool true,.int .i64 0,.int .i64 op,.bool false,.int .u8 0,.int .u8 0,.int .u8 0,.int .u8 0,.string ⟨s.toArray⟩] 56)).alloc (.cells #[.int .u8 (128+op),.int .u8 126] 5)=x:=⟨_,rfl⟩;rw[f];have e3:x.cell? ⟨W.heap.size,3,none⟩=some (.bool false):=by rw[←f];exact(Gr.alloc _ _).cell (aa _ _ _ 3 _ rfl)
 have e4:x.cell? ⟨W.heap.size,4,none⟩=some (.int .u8 0):=by rw[←f];exact(Gr.alloc _ _).cell (aa _ _ _ 4 _ rfl)
 have E:x.cell? ⟨W.heap.size,5,none⟩=some (.int .u8 0):=by rw[←f];exact(Gr.alloc _ _).cell (aa _ _ _ 5 _ rfl)
 have I:x.cell? ⟨W.heap.size,6,none⟩=some (.int .u8 0):=by rw[←f];exact(Gr.alloc _ _).cell (aa _ _ _ 6 _ rfl)
 have J:x.cell? ⟨W.heap.size,7,none⟩=some (.int .u8 0):=by rw[←f];exact(Gr.alloc _ _).cell (aa _ _ _ 7 _ rfl)
 have A:x.cell? ⟨W.heap.size,8,none⟩=some (.string ⟨s.toArray⟩):=by rw[←f];exact(Gr.alloc _ _).cell (aa _ _ _ 8 _ rfl)
 have X:Gr W x:=by rw[←f];exact(Gr.alloc _ _).alloc1 _
 have U:W.heap.size+1≤x.heap.size:=by rw[←f];simp
 have S:x.ownsRow (W.heap.size+1) 5 1 (.slice (some ⟨W.heap.size+1,0,none⟩) 2 2) 2 (am [n,126]):=by
  have hl:=World.ownsRow_lit (base:=W.heap.size+1) (size:=1) (e:=5) (W.alloc (.cells #[.bool true,.int .i64 0,.int .i64 op,.bool false,.int .u8 0,.int .u8 0,.int .u8 0,.int .u8 0,.string ⟨s.toArray⟩] 56)) #[.int .u8 (128+op),.int .u8 126] 2 (by simp) (by decide) rfl;rw[World.size_alloc,f]at hl;have e:am [n,126]=#[Value.int .u8 (128+op),.int .u8 126].toList:=by rw[cY,cY,a1,a2];rfl
  rw[e];exact hl
 have l:=qq (And.intro X (And.intro U (And.intro S (And.intro e3 (And.intro (And.intro e4 (And.intro E (And.intro I J))) A)))));clear f e3 e4 E I J A X U S a1 a2;go_loopw [4,7] (λv i wr=>FbR s [n,126,o,p] 2 W v i wr) (λ_ i _=>(intOf i+1).toNat)
 case atStart=>exact⟨0,qx _,rfl,l.out.1,l.out.2.1,l.out.2.2.1,l.out.2.2.2.1,l.out.2.2.2.2.1,l.out.2.2.2.2.2⟩
 case round =>
  clear l;obtain⟨k,hk,rfl,X,U,S,e3,V,A⟩:=hrel;obtain⟨pv,cv,rfl⟩:=aJ S;have m:=qq S;have L:=qq X;have B:=qq V;obtain⟨e4,E,I,J⟩:=V;clear S X;by_cases a8:k=0
  ·subst a8;rw[show((2:Nat):Int) - 1 - ((0:Nat):Int)=1 from rfl];have t:∀O,(wr.alloc O).ownsRow (W.heap.size+1) 5 1 (.slice pv (2+0) cv) (2+0) (am (List.take (2+0) [n,126,o,p])):=λO=>World.ownsRow.alloc m.out O;have q:∀r:Int,∀j u,[Value.int .u8 r][j]?=some u→(wr.alloc (.cells #[.int .u8 r] 5)).cell? ((⟨wr.heap.size,0,none⟩:Addr).add j)=some u:=λr=>cell_one_new wr (.int .u8 r) 5;go_wp2_with (at_builtin;refine wpList_append_own _ rfl _ _ 100 rfl (W.heap.size+1) 5 i0 (.int .u8 0) 1 1 underlying100 hi a3 a4 a5 rfl (by decide) _ _ _ rfl (t _) ⟨wr.heap.size,0,none⟩ 1 1 [.int .u8 _] rfl rfl (q _) (by simp[Value.oneCell']) (by unfold maxLen;decide) (by decide) (by simp;omega) ?_);intro v' w5 a c _;rw[←q0]at a;have g:=qq (xm (F:=[n,126,o,p]) (z:=2) (k:=0) (d:=o) (by decide) L.out U m.out e3 B.out A rfl a c);clear a c t q e3 e4 E I J A;go_wp2;go_roundw
   case rel=>exact g.out
   case measure=>decide
  by_cases a9:k=1
  ·subst a9;rw[show((2:Nat):Int) - 1 - ((1:Nat):Int)=0 from rfl];have t:∀O,(wr.alloc O).ownsRow (W.heap.size+1) 5 1 (.slice pv (2+1) cv) (2+1) (am (List.take (2+1) [n,126,o,p])):=λO=>World.ownsRow.alloc m.out O;have q:∀r:Int,∀j u,[Value.int .u8 r][j]?=some u→(wr.alloc (.cells #[.int .u8 r] 5)).cell? ((⟨wr.heap.size,0,none⟩:Addr).add j)=some u:=λr=>cell_one_new wr (.int .u8 r) 5;go_wp2_with (at_builtin;refine wpList_append_own _ rfl _ _ 100 rfl (W.heap.size+1) 5 i0 (.int .u8 0) 1 1 underlying100 hi a3 a4 a5 rfl (by decide) _ _ _ rfl (t _) ⟨wr.heap.size,0,none⟩ 1 1 [.int .u8 _] rfl rfl (q _) (by simp[Value.oneCell']) (by unfold maxLen;decide) (by decide) (by simp;omega) ?_);intro v' w5 a c _;rw[←q1]at a;have g:=qq (xm (F:=[n,126,o,p]) (z:=2) (k:=1) (d:=p) (by decide) L.out U m.out e3 B.out A rfl a c);clear a c t q e3 e4 E I J A;go_wp2;go_roundw
   case rel=>exact g.out
   case measure=>decide
  have b1:k=2:=by omega
  subst b1;rw[show((2:Nat):Int) - 1 - ((2:Nat):Int) = -1 from rfl];have D:OwnB (W.heap.size+1) wr (.slice pv (2+2) cv) [n,126,o,p]:=m.out;have a6:∀y:Later (Gr wr),(convert 100 9 (.slice pv (2+2) cv)).run prog y.w=.ok (.string ⟨[n,126,o,p].toArray⟩) y.w:=λy=>fE (dG D y.ok);haveI:Nonempty (Later (Gr wr)):=⟨⟨wr,Gr.refl wr⟩⟩;have t4:∀y:Later (Gr wr),y.w.cell? ⟨W.heap.size,4,none⟩=some (.int .u8 0):=λy=>y.ok.cell e4;have t5:∀y:Later (Gr wr),y.w.cell? ⟨W.heap.size,5,none⟩=some (.int .u8 0):=λy=>y.ok.cell E;have t6:∀y:Later (Gr wr),y.w.cell? ⟨W.heap.size,6,none⟩=some (.int .u8 0):=λy=>y.ok.cell I;have t7:∀y:Later (Gr wr),y.w.cell? ⟨W.heap.size,7,none⟩=some (.int .u8 0):=λy=>y.ok.cell J;have t8:∀y:Later (Gr wr),y.w.cell? ⟨W.heap.size,8,none⟩=some (.string ⟨s.toArray⟩):=λy=>y.ok.cell A;have b3:=qq (lJ s wr hs);have b4:(⟨([n,126,o,p]).toArray⟩:ByteArray)++(⟨s.toArray⟩:ByteArray)=⟨([n,126,o,p]++s).toArray⟩:=aL _ _;go_upto_region 21 with(fail);clear D m e4 E I J A U;refine ah (C:=Gr wr) (by kernel_rfl) (by kernel_rfl) (Gr.drew' _) ?_;repeat (go_big_quiet_step (with_reducible exact b3.out _))
  refine wpQuiet_nil ?_;intro w9 Y;have a7:=qq (L.out.trans Y);clear t4 t5 t6 t7 t8 a6 Y;go_wp2;refine bodyPost_ret (v:=.tuple #[.string ⟨([n,126,o,p]++s).toArray⟩,.int .i64 0]) (by simp[results,results44,go_sem]) rfl ⟨⟨0,by rw[hv.out]⟩,a7.out⟩
theorem uq (op:Int)(s:List UInt8)(W:World)(f:s.length≤65535):Calls prog 44 #[frV op s] W (kR op s W):=by
 have hs:s.length≤4611686018427387900:=by omega
 by_cases a:op<0
 ·exact un op s W a
 ·by_cases d:15<op
  ·exact rJ op s W d
  ·obtain⟨n,rfl⟩:=Int.eq_ofNat_of_zero_le (Int.not_lt.1 a);have hn:n≤15:=(by omega);by_cases e:s.length≤125
   ·exact qn n s W hn hs e
   ·by_cases c:s.length≤65535
    ·exact uo n s W hn hs ⟨by omega,c⟩
    ·exact absurd f c
inductive Kern where
 | http (s:List UInt8)
 | sock (c:Wn)
 | over
def j5 (k:Kern)(b:List UInt8):Kern:=match k with
 | .http s=>.http (s++b)
 | .sock c=>.sock (aN c b)
 | .over=>.over
def ur (H:Rq→Rp)(r:Rq):List UInt8×Nat :=
 if (H r).code=101 then
  (if (aH (aK r)).2 then(putB (aH (aK r)).1 false false,2) else(putB (aH (aK r)).1 (r.m==o7) r.c,if r.c then 1 else 0))
 else(putB (H r) (r.m==o7) r.c,if r.c then 1 else 0)
def Gx:Wev→List UInt8
 | .message _ _=>[]
 | .ping t=>dC 10 t
 | .closing code=>dC 8 (i7 code)
 | .failing code=>dC 8 (i7 code)
def FJ:Wev→List (Nat×List UInt8)
 | .message op t=>[(op,t)]
 | _=>[]
def mN (c:Wn):Kern:=if c.st=3 then .over else .sock c
inductive KD (H:Rq→Rp) (limit:Nat):Kern→List UInt8→List (Nat×List UInt8)→Kern→Prop where
 | over:KD H limit .over [] [] .over
 | more {s:List UInt8} (h:bW s=.more):KD H limit (.http s) [] [] (.http s)
 | bad {s:List UInt8} {c:Nat} (h:bW s=.bad c):KD H limit (.http s) (putB ⟨c,[],aU c⟩ false true) [] .over
 | got {s:List UInt8} {r:Rq} {n:Nat} {t0 t:List UInt8} {l:List (Nat×List UInt8)} {k':Kern} (h:bW s=.got r n) (ha:ur H r=(t0,0)) (k:KD H limit (.http (s.drop n)) t l k'):KD H limit (.http s) (t0++t) l k'
 | close {s:List UInt8} {r:Rq} {n:Nat} {t0:List UInt8} (h:bW s=.got r n) (ha:ur H r=(t0,1)):KD H limit (.http s) t0 [] .over
 | up {s:List UInt8} {r:Rq} {n:Nat} {t0 t:List UInt8} {l:List (Nat×List UInt8)} {k':Kern} (h:bW s=.got r n) (ha:ur H r=(t0,2)) (k:KD H limit (.sock (aN (wn0 limit) (s.drop n))) t l k'):KD H limit (.http s) (t0++t) l k'
 | sock {c c':Wn} {l:List Wev} (h:Drains c l c'):KD H limit (.sock c) (l.flatMap Gx) (l.flatMap FJ) (mN c')
def KOk:Kern→Prop
 | .sock c=>Wok c∧c.st=1
 | _=>True
theorem us (c:Wn)(e:Fev):(aq c e).1.st=c.st∨(aq c e).1.st=3:=by
 unfold aq bh bw cR;cases e <;> dsimp only <;> (repeat' split) <;> first | exact .inl rfl | exact .inr rfl
theorem o8 {c c1:Wn}{o:Option Wev}(h:ct c=some (c1,o)):c1.st=c.st∨c1.st=3:=by
 obtain⟨_,r,e,_,a,_⟩:=iN h;have:=us { c with r:=r } e;rw[a]at this;exact this
theorem Drains.keeps {c:Wn}{l:List Wev}{c':Wn}(h:Drains c l c'):(Wok c→Wok c')∧(c'.st=c.st∨c'.st=3)∧cD c'≤cD c:=by
 induction h with
 | stop _=>exact⟨id,.inl rfl,qv _⟩
 | quiet h _ a=>exact⟨λd=>a.1 (d.step h),a.2.1.elim (λe=>(o8 h).elim (λe2=>.inl (e.trans e2)) (λe2=>.inr (e.trans e2))) .inr,qy a.2.2 (Nat.le_of_lt (eI h))⟩
 | tells h _ a=>exact⟨λd=>a.1 (d.step h),a.2.1.elim (λe=>(o8 h).elim (λe2=>.inl (e.trans e2)) (λe2=>.inr (e.trans e2))) .inr,qy a.2.2 (Nat.le_of_lt (eI h))⟩
theorem ut (H:Rq→Rp)(r:Rq):∃t,ur H r=(t,0)∨ur H r=(t,1)∨ur H r=(t,2):=by
 unfold ur;split
 ·split
  ·exact⟨_,.inr (.inr rfl)⟩
  ·cases r.c
   ·exact⟨_,.inl rfl⟩
   ·exact⟨_,.inr (.inl rfl)⟩
 ·cases r.c
  ·exact⟨_,.inl rfl⟩
  ·exact⟨_,.inr (.inl rfl)⟩
section
variable {H:Rq→Rp} {limit:Nat}
theorem KD.ex_sock (c:Wn):∃t l a,KD H limit (.sock c) t l a:=by
 obtain⟨l,c',h⟩:=Drains.ex _ c (Nat.lt_succ_self _);exact⟨_,_,_,.sock h⟩
theorem KD.ex_http:∀(m:Nat) (s:List UInt8),s.length≤m→∃t l d,KD H limit (.http s) t l d
 | m,s,hm=>by
  cases e:bW s with
  | more=>exact⟨_,_,_,.more e⟩
  | bad c=>exact⟨_,_,_,.bad e⟩
  | got r n =>
   obtain⟨f,g⟩:=D5 e;obtain⟨t,a | a | a⟩:=ut H r
   ·cases m with
    | zero=>omega
    | succ m =>
     obtain⟨t,l,d,h⟩:=KD.ex_http m (s.drop n) (by rw[List.length_drop];omega);exact⟨_,_,_,.got e a h⟩
   ·exact⟨_,_,_,.close e a⟩
   ·obtain⟨t,l,d,h⟩:=KD.ex_sock (H:=H) (limit:=limit) (aN (wn0 limit) (s.drop n));exact⟨_,_,_,.up e a h⟩
theorem KD.ex (k:Kern):∃t l a,KD H limit k t l a:=match k with
 | .http s=>KD.ex_http s.length s (qv _)
 | .sock c=>KD.ex_sock c
 | .over=>⟨_,_,_,.over⟩
theorem uu (r:Fr)(a b:List UInt8):bp r (a++b)=bp (bp r a) b:=by
 unfold bp;by_cases h:r.st=2
 ·rw[if_pos h,if_pos h,if_pos h]
 ·rw[if_neg h,if_neg h,if_neg h,List.append_assoc]
theorem mO (c:Wn)(a b:List UInt8):aN c (a++b)=aN (aN c a) b:=by
 by_cases h:c.st=3
 ·rw[dL h,dL h,dL h]
 ·rw[fj h,fj h,fj (c:=iZ c a) h];unfold iZ;rw[uu]
theorem iM (c:Wn)(b:List UInt8):(aN c b).st=c.st:=by unfold aN;split <;> rfl
theorem KD.feed {k k1:Kern}{t:List UInt8}{l:List (Nat×List UInt8)}(h:KD H limit k t l k1)(p:KOk k)(b:List UInt8) :
  ∃g f k2,KD H limit (j5 k1 b) g f k2∧KD H limit (j5 k b) (t++g) (l++f) k2:=by
 induction h with
 | over=>exact⟨_,_,_,.over,.over⟩
 | @more s h =>
  obtain⟨t,l,j,e⟩:=KD.ex (H:=H) (limit:=limit) (.http (s++b));exact⟨t,l,j,e,e⟩
 | bad h=>exact⟨_,_,_,.over,by rw[List.append_nil];exact .bad (nC h b)⟩
 | @got s r n t0 t l j h ha k ih =>
  obtain⟨g,f,k2,e1,e2⟩:=ih trivial;have a:=ku s b;rw[h]at a;refine⟨g,f,k2,e1,?_⟩;rw[List.append_assoc];refine .got a.1 ha ?_;rw[List.drop_append_of_le_length a.2.1];exact e2
 | @close s r n t0 h ha =>
  have a:=ku s b;rw[h]at a;exact⟨_,_,_,.over,by rw[List.append_nil];exact .close a.1 ha⟩
 | @up s r n t0 t l j h ha k ih =>
  obtain⟨g,f,k2,e1,e2⟩:=ih ⟨(BI limit).feed _,iM _ _⟩;have a:=ku s b;rw[h]at a;refine⟨g,f,k2,e1,?_⟩;rw[List.append_assoc];refine .up a.1 ha ?_;rw[List.drop_append_of_le_length a.2.1,mO];exact e2
 | @sock c c' l h =>
  obtain⟨m,d,o,k1,k2,k3⟩:=lM _ c l c' (Nat.lt_succ_self _) h p.1 b;have e:mN o=mN d:=by
   rcases k3 with k3 | ⟨k3,k4⟩
   ·rw[k3]
   ·unfold mN;rw[if_pos k3,if_pos k4]
  by_cases i:c'.st=3
  ·rw[dL i]at k1;obtain⟨rfl,rfl⟩:=k1.over_is i;have e3:mN d=.over:=if_pos i;rw[e3];refine⟨[],[],.over,.over,?_⟩;have:=KD.sock (H:=H) (limit:=limit) k2;rw[List.append_nil,e,e3]at this;rw[List.append_nil,List.append_nil];exact this
  ·have e3:mN c'=.sock c':=if_neg i;rw[e3];refine⟨_,_,_,.sock k1,?_⟩;have:=KD.sock (H:=H) (limit:=limit) k2;rw[e,List.flatMap_append,List.flatMap_append]at this;exact this
end
