/-
  Plain laws of sessions: rounds of Next and Out tell all that is there; no program in sight.
-/
import Derived.Test.YtadobobfjnmdlaaGreatDoorEc
set_option linter.unnecessarySimpa false
set_option linter.unusedVariables false
set_option linter.unusedSimpArgs false
set_option maxHeartbeats 16000000
set_option maxRecDepth 100000
open Go.Proofs.Tryz
namespace Go.Proofs.YtadobobfjnmdlaaGreatDoor
def xL:Kern→Nat
 | .http s=>s.length
 | .sock c=>cD c
 | .over=>0
theorem tq (c:Wn)(b:List UInt8):cD (aN c b)≤cD c+b.length:=by
 unfold aN cD;split
 ·omega
 ·unfold bp;split
  ·dsimp only;omega
  ·simp only[qw];omega
theorem vM (limit:Nat)(b:List UInt8):cD (aN (wn0 limit) b)≤b.length:=by
 have:=tq (wn0 limit) b;have e:cD (wn0 limit)=0:=rfl;omega
section
variable {H:Rq→Rp} {limit:Nat}
theorem KOk.feed {k:Kern}(h:KOk k)(b:List UInt8):KOk (j5 k b):=by
 cases k with
 | http s=>trivial
 | sock c=>exact⟨h.1.feed b,(iM c b).trans h.2⟩
 | over=>trivial
theorem KD.keeps {k e:Kern}{t:List UInt8}{l:List (Nat×List UInt8)}(h:KD H limit k t l e):KOk k→KOk e∧xL e≤xL k:=by
 induction h with
 | over=>exact λ_=>⟨trivial,qv _⟩
 | more _=>exact λ_=>⟨trivial,qv _⟩
 | bad _=>exact λ_=>⟨trivial,qx _⟩
 | @got s r n t0 t l e h ha k ih =>
  intro _;obtain⟨d,a⟩:=ih trivial;refine⟨d,qy a ?_⟩;simp only[xL,List.length_drop];omega
 | close _ _=>exact λ_=>⟨trivial,qx _⟩
 | @up s r n t0 t l e h ha k ih =>
  intro _;obtain⟨d,a⟩:=ih ⟨(BI limit).feed _,iM _ _⟩;refine⟨d,qy a ?_⟩;have:=vM limit (s.drop n);simp only[xL,List.length_drop]at this ⊢;omega
 | @sock c c' l h =>
  intro f;obtain⟨d,a,g⟩:=h.keeps;unfold mN;split
  ·exact⟨trivial,qx _⟩
  ·rename_i i;exact⟨⟨d f.1,by rcases a with a | a;exact a.trans f.2;exact absurd a i⟩,g⟩
inductive Rep (limit:Nat):Ss→Kern→Prop where
 | http {s:Ss} {b:List UInt8} (h1:s.st=1) (hl:s.limit=limit) (hp:Stands s.p b) (hx:s.x=bx0 s.x.q):Rep limit s (.http b)
 | sock {s:Ss} {c:Wn} (h1:s.st=2) (hc:s.c=some c) (hx:s.x=bx0 s.x.q):Rep limit s (.sock c)
 | over {s:Ss} {cl:Bool} (h1:s.st=3) (hx:s.x=⟨s.x.q,[],none,[],none,cl,true,true⟩):Rep limit s .over
def F2:Option Sev→List (Nat×List UInt8)
 | some (.said op t)=>[(op,t)]
 | _=>[]
def F3:Option (List UInt8×Bool)→List UInt8
 | some x=>x.1
 | none=>[]
inductive Runs (H:Rq→Rp):Ss→List UInt8→List (Nat×List UInt8)→Nat→Ss→Prop where
 | stop {s:Ss} (h1:(bj H s).2=none) (h2:(bR (bj H s).1).2=none):Runs H s [] [] 0 (bR (bj H s).1).1
 | go {s:Ss} {t:List UInt8} {l:List (Nat×List UInt8)} {n:Nat} {s':Ss} (h:(bj H s).2.isSome=true∨(bR (bj H s).1).2.isSome=true) (k:Runs H (bR (bj H s).1).1 t l n s') :
   Runs H s (F3 (bR (bj H s).1).2++t) (F2 (bj H s).2++l) (n+1) s'
def E9 (o:Option Wev)(a b:Nat):Prop:=match o with
 | some (.closing _)=>b=3
 | some (.failing _)=>b=3
 | _=>b=a
theorem vN (c:Wn)(e:Fev):E9 (aq c e).2 c.st (aq c e).1.st:=by
 unfold aq bh bw cR;cases e <;> dsimp only <;> (repeat' split) <;> (try exact rfl);all_goals (cases (aI c.j).2 <;> exact rfl)
theorem xM:∀(n:Nat) (c:Wn),E9 (kN n c).2 c.st (kN n c).1.st
 | 0,_=>rfl
 | n+1,c=>by
  unfold kN;split
  ·exact rfl
  ·cases hf:az c.r with
   | mk r o =>
    cases o with
    | none=>exact rfl
    | some a =>
     dsimp only;have hv:=vN { c with r:=r } a;cases d:aq { c with r:=r } a with
     | mk c2 e =>
      rw[d]at hv;cases e with
      | none =>
       have hv:c2.st=c.st:=hv;dsimp only;rw[←hv];exact xM n c2
      | some x=>exact hv
theorem zJ (c:Wn):E9 (bP c).2 c.st (bP c).1.st:=xM _ c
end
structure Bok (x:Bx):Prop where
 t:x.told=true→x.ends=true∧x.reps=[]∧x.pong=none∧x.msgs=[]∧x.close=none
 r:x.reps.length≤4
 m:x.msgs.length≤x.q
 q:x.q≤64
 k:∀m∈x.msgs,m.kind=3
structure Sok (s:Ss):Prop where
 a:s.st=1∨s.st=2∨s.st=3
 b:s.st=2→∃c,s.c=some c∧(c.st=1∨c.st=2)
 e:s.x.ends=decide (s.st=3)
 x:Bok s.x
theorem GD {q:Nat}(h:q≤64):Bok (bx0 q):=⟨λe=>absurd (show false=true from e) (by decide),qx _,qx _,h,λ_ hm=>by cases hm⟩
theorem Fc {q limit:Nat}(h:q≤64):Sok (ss0 q limit):=⟨.inl rfl,λe=>absurd (show(1:Nat)=2 from e) (by decide),rfl,GD h⟩
theorem Bok.reply {x:Bx}(h:Bok x)(s:List UInt8):Bok (bD x s).1∧(bD x s).1.ends=x.ends∧(bD x s).1.q=x.q:=by
 unfold bD;split
 ·exact⟨h,rfl,rfl⟩
 ·rename_i hs;split
  ·exact⟨h,rfl,rfl⟩
  ·refine⟨⟨λe=>?_,?_,h.m,h.q,h.k⟩,rfl,rfl⟩
   ·have:=(h.t e).1;unfold cT at hs;rw[this,Bool.or_true]at hs;exact absurd rfl hs
   ·simp only[qw,List.length_singleton];omega
theorem Bok.pong {x:Bx}(h:Bok x)(s:List UInt8):Bok (dl x s).1∧(dl x s).1.ends=x.ends∧(dl x s).1.q=x.q:=by
 unfold dl;split
 ·exact⟨h,rfl,rfl⟩
 ·rename_i hs;refine⟨⟨λe=>?_,h.r,h.m,h.q,h.k⟩,rfl,rfl⟩;have:=(h.t e).1;unfold cT at hs;rw[this,Bool.or_true]at hs;exact absurd rfl hs
theorem Bok.message {x:Bx}(h:Bok x)(op:Int)(s:List UInt8):Bok (bi x op s).1∧(bi x op s).1.ends=x.ends∧(bi x op s).1.q=x.q:=by
 unfold bi;split
 ·exact⟨h,rfl,rfl⟩
 ·rename_i hs;split
  ·exact⟨h,rfl,rfl⟩
  ·refine⟨⟨λe=>?_,h.r,?_,h.q,λm hm=>(List.mem_append.1 hm).elim (h.k m) (λhm=>by rw[List.mem_singleton.1 hm])⟩,rfl,rfl⟩
   ·have:=(h.t e).1;unfold cT at hs;rw[this,Bool.or_true]at hs;exact absurd rfl hs
   ·simp only[qw,List.length_singleton];omega
theorem Bok.close {x:Bx}(h:Bok x)(s:List UInt8):Bok (cV x s).1∧(cV x s).1.ends=x.ends∧(cV x s).1.q=x.q:=by
 unfold cV;split
 ·exact⟨h,rfl,rfl⟩
 ·rename_i hs;refine⟨⟨λe=>?_,h.r,h.m,h.q,h.k⟩,rfl,rfl⟩;have:=(h.t e).1;unfold cT at hs;rw[this,Bool.or_true]at hs;exact absurd rfl hs
theorem Bok.end' {x:Bx}(h:Bok x):Bok (ii x):=⟨λe=>⟨rfl,(h.t e).2⟩,h.r,h.m,h.q,h.k⟩
theorem Bok.next {x:Bx}(h:Bok x):Bok (aS x).1∧(aS x).1.ends=x.ends∧(aS x).1.q=x.q:=by
 obtain⟨q,reps,pong,msgs,close,closed,ends,told⟩:=x;obtain⟨i,c,d,f,g⟩:=h;dsimp only at i c d f g;unfold aS;dsimp only;cases reps with
 | cons a l=>exact⟨⟨λe=>by(cases (i e).2.1),by simp only[List.length_cons]at c ⊢;omega,d,f,g⟩,rfl,rfl⟩
 | nil =>
  cases pong with
  | some a=>exact⟨⟨λe=>by(cases (i e).2.2.1),c,d,f,g⟩,rfl,rfl⟩
  | none =>
   cases msgs with
   | cons a l=>exact⟨⟨λe=>by(cases (i e).2.2.2.1),c,by simp only[List.length_cons]at d ⊢;omega,f,λm hm=>g m (List.mem_cons_of_mem _ hm)⟩,rfl,rfl⟩
   | nil =>
    cases close with
    | some a=>exact⟨⟨λe=>by(cases (i e).2.2.2.2),c,d,f,g⟩,rfl,rfl⟩
    | none =>
     dsimp only;split
     ·rename_i j;exact⟨⟨λ_=>⟨by simpa using(Bool.and_eq_true _ _▸j).1,rfl,rfl,rfl,rfl⟩,c,d,f,g⟩,rfl,rfl⟩
     ·exact⟨⟨i,c,d,f,g⟩,rfl,rfl⟩
theorem Sok.feed {s:Ss}(h:Sok s)(b:List UInt8):Sok (cE s b):=by
 unfold cE;split
 ·exact⟨h.a,h.b,h.e,h.x⟩
 ·split
  ·rename_i d;obtain⟨c,f,hs⟩:=h.b d;refine⟨h.a,λ_=>⟨aN c b,by dsimp only;rw[f];rfl,?_⟩,h.e,h.x⟩;have:(aN c b).st=c.st:=(by unfold aN;split <;> rfl);rw[this];exact hs
  ·exact h
theorem Sok.ends {s:Ss}(h:Sok s):Sok (bJ s):=⟨.inr (.inr rfl),λe=>absurd (show(3:Nat)=2 from e) (by decide),rfl,h.x.end'⟩
theorem Sok.out {s:Ss}(h:Sok s):Sok (bR s).1:=⟨h.a,h.b,h.x.next.2.1.trans h.e,h.x.next.1⟩
theorem Sok.send {s:Ss}(h:Sok s)(op:Int)(t:List UInt8):Sok (eQ s op t).1:=by
 unfold eQ;split
 ·exact h
 ·exact⟨h.a,h.b,(h.x.message op t).2.1.trans h.e,(h.x.message op t).1⟩
theorem Sok.puts {s:Ss}(h:Sok s)(x:Rp)(f c:Bool):Sok (cU s x f c):=by
 have d:Sok { s with x:=(bD s.x (putB x f c)).1 }:=⟨h.a,h.b,(h.x.reply _).2.1.trans h.e,(h.x.reply _).1⟩;unfold cU;split
 ·exact d.ends
 ·exact d
theorem Sok.fresh {s:Ss}(h:Sok s)(b:Bool):Sok { s with fresh:=b }:=⟨h.a,h.b,h.e,h.x⟩
theorem Sok.parser {s:Ss}(h:Sok s)(p:Ps):Sok { s with p:=p }:=⟨h.a,h.b,h.e,h.x⟩
theorem Sok.up {s:Ss}(h:Sok s)(a:s.st=1):Sok (Bi s):=by
 refine⟨.inr (.inl rfl),λ_=>⟨_,rfl,.inl (iM _ _)⟩,?_,h.x⟩;have:=h.e;rw[a]at this;exact this
theorem zK {s:Ss}(x:Rp)(a:Bool):(cU s x a false).st=s.st:=rfl
theorem Sok.answers {H:Rq→Rp}{s:Ss}(h:Sok s)(a:s.st=1)(r:Rq):Sok (aZ H s r).1:=by
 unfold aZ;split
 ·split
  ·exact(h.puts _ _ _).up ((zK _ _).trans a)
  ·exact h.puts _ _ _
 ·exact h.puts _ _ _
theorem Sok.asks {H:Rq→Rp}{s:Ss}(h:Sok s)(a:s.st=1):Sok (cF H s).1:=by
 unfold cF;split
 ·rename_i p r _;exact Sok.answers (s:={ s with p:=p }) (h.parser p) a r
 ·rename_i p _;split
  ·exact h.parser p
  ·exact Sok.puts (s:={ s with p:=p }) (h.parser p) ⟨p.bad,[],aU p.bad⟩ false true
theorem my {s:Ss}(h:Bok s.x):Sok (bJ s):=⟨.inr (.inr rfl),λe=>absurd (show(3:Nat)=2 from e) (by decide),rfl,h.end'⟩
theorem xN {s:Ss}(h:Bok s.x)(a code:Nat):Sok (dm s a code):=by
 unfold dm;split
 ·exact my (h.close _).1
 ·exact my h
theorem Sok.says {s:Ss}(h:Sok s)(d:s.st=2):Sok (bM s).1:=by
 obtain⟨c,f,hs⟩:=h.b d;have g:ju s=c:=by unfold ju;rw[f];rfl
 have hv:=zJ c;unfold bM;rw[g];cases e:bP c with
 | mk c1 o =>
  rw[e]at hv;cases o with
  | none =>
   have hv:c1.st=c.st:=hv;exact⟨h.a,λ_=>⟨c1,rfl,by rw[hv];exact hs⟩,h.e,h.x⟩
  | some x =>
   cases x with
   | message op t =>
    have hv:c1.st=c.st:=hv;exact⟨h.a,λ_=>⟨c1,rfl,by rw[hv];exact hs⟩,h.e,h.x⟩
   | ping t =>
    have hv:c1.st=c.st:=hv;exact⟨h.a,λ_=>⟨c1,rfl,by rw[hv];exact hs⟩,(h.x.pong t).2.1.trans h.e,(h.x.pong t).1⟩
   | closing code=>exact xN (s:={ s with c:=some c1 }) h.x c.st code
   | failing code=>exact xN (s:={ s with c:=some c1 }) h.x c.st code
theorem Sok.next {H:Rq→Rp}{s:Ss}(h:Sok s):Sok (bj H s).1:=by
 unfold bj;cases d:cW s with
 | false=>exact h
 | true =>
  rw[if_neg (by decide)];dsimp only;have g:s.st≠3:=by
   intro e;unfold cW at d;rw[e]at d;cases d
  by_cases c:s.st=1
  ·rw[if_pos c];split
   ·exact(h.asks c).fresh _
   ·exact h.asks c
  ·rw[if_neg c];have f:s.st=2:=(by rcases h.a with e | e | e <;> omega);split
   ·exact(h.says f).fresh _
   ·exact h.says f
theorem Sok.finish {s:Ss}(h:Sok s):Sok (bQ s)∧(bQ s).st=3∧(bQ s).x.told=s.x.told:=by
 unfold bQ;split
 ·exact⟨h,‹_›,rfl⟩
 ·split
  ·exact⟨my (s:=dn s) h.x,rfl,rfl⟩
  ·exact⟨h.ends,rfl,rfl⟩
open Go.RowKit Go.Shelf
attribute [local go_sem] Oper.semAt_some
section
variable {b:Nat} {hv:Value} {T:Nat→Prop} {W:World} {s:Ss}
theorem nR {c:Nat→Nat}{i g:Nat}{cv:Value}{w:Wn}(h:SnS b hv c W s i g cv)(d:∀k,c k≠0→T k)(hl:∀k,T k→k<W.heap.size)(a:s.c=some w) :
  ∃k0,cv=.pointer (some ⟨k0,0,none⟩)∧Calls prog 46 #[.pointer (some ⟨k0,0,none⟩)] W λe w'=>e=.returned (.tuple #[])∧Pst (bT b hv) T W (dn s) w':=by
 have kw:=h.kw;rw[a]at kw;obtain⟨k0,rfl,kw⟩:=kw;refine⟨k0,rfl,(BM kw).mono ?_⟩;rintro e w'⟨rfl,f⟩;have e1:dn s={ s with c:=some (ia w) }:=by unfold dn;rw[a];rfl
 rw[e1];exact⟨rfl,(h.setW a f).pst hl (f.2.mono (λk e=>d k (by rw[show c k=3 from e];decide))) (cH d (qv _))⟩
theorem D9 (h:bT b hv T W s)(n:s.st=2→s.c.isSome=true)(op:Int)(t:List UInt8):Calls prog 15 #[.pointer (some ⟨b,0,none⟩),.int .i64 op,.string ⟨t.toArray⟩] W λe w'=>e=.returned (.int .i64 (eQ s op t).2)∧Pst (bT b hv) T W (eQ s op t).1 w':=by
 have g:=mM h n;have h0:=qq h;obtain⟨⟨c,w,u,cv,h,l⟩,hl⟩:=h;have q:=qq h;have f:=qq l;have m:=qq hl;have r:=qq (l b (by rw[h.cb];decide));have c5:=h.c5;obtain⟨v,d⟩:∃v,cG s=v:=⟨_,rfl⟩;rw[d]at g;have g:=qq g;have hm:=qq (rj op t h.kx);have j:=qq (show eQ s op t=if !v then(s,11) else({ s with x:=(bi s.x op t).1 },(bi s.x op t).2) by unfold eQ;rw[d]);clear h l hl n d;cases v with
 | false =>
  have a:=qq (j.out.trans (if_pos rfl));clear j;go_enter func15,ntmps15;go_wp2_with fail;refine g.out.mono ?_;rintro e p⟨rfl,rfl⟩;go_wp2;go_ret;rw[a.out];exact⟨rfl,(aD b hv).of_gr h0.out (Gr.refl _)⟩
 | true =>
  have a:=qq (j.out.trans (if_neg (by decide)));clear j;go_enter func15,ntmps15;go_wp2_with fail;refine g.out.mono ?_;rintro e p⟨rfl,rfl⟩;go_wp2_with fail;refine hm.out.mono ?_;rintro e p⟨rfl,o⟩;have i:=qq o;clear o;go_wp2;go_ret;rw[a.out];exact⟨rfl,(q.out.setX i.out).pst m.out (i.out.2.mono (λk e=>f.out k (by rw[show c k=4 from e];decide))) (cH f.out (qv _))⟩
theorem zL (h:bT b hv T W s)(j:s.st=2→s.c.isSome=true):Calls prog 16 #[.pointer (some ⟨b,0,none⟩)] W λe w'=>e=.returned (.tuple #[])∧Pst (bT b hv) T W (bQ s) w':=by
 have hs:=qq (gj h);have x:=qq (dA h);have h0:=qq h;obtain⟨⟨c,B,z,cv,h,g⟩,hl⟩:=h;have A:=qq h;have t:=qq g;have y:=qq hl;have u:=qq (g b (by rw[h.cb];decide));have k2:=h.c2;have k4:=h.c4;by_cases f:s.st=3
 ·have k:=qq (show bQ s=s from if_pos f);rw[f]at hs;clear h g hl j f k2 k4;go_enter func16,ntmps16;go_wp2_with fail;refine hs.out.mono ?_;rintro e r⟨rfl,rfl⟩;go_wp2;refine bodyPost_ret (v:=.tuple #[]) (by simp[results,results16,go_sem]) rfl ?_;rw[k.out];exact⟨rfl,(aD b hv).of_gr h0.out (Gr.refl _)⟩
 ·have E:((s.st:Int)==3)=false:=beq_false_of_ne (by omega);by_cases i:s.st=2
  ·cases p:s.c with
   | none=>rw[p]at j;exact absurd (j i) (by decide)
   | some w =>
    have k:=qq (show bQ s=bJ (dn s) by unfold bQ;rw[if_neg f,if_pos i]);obtain⟨k0,rfl,q⟩:=nR h g hl p;have m:=qq q;rw[i]at hs k2;clear h g hl j f i p q;go_enter func16,ntmps16;go_wp2_with fail;refine hs.out.mono ?_;rintro e r⟨rfl,rfl⟩;go_wp2_with fail;refine m.out.mono ?_;rintro e C⟨rfl,n⟩;have l:=qq (dA n.1);have o:=qq n;clear n k2 k4;go_wp2_with fail;refine l.out.mono ?_;rintro e w3⟨rfl,a⟩;have d:=qq a;clear a;go_wp2;go_end0;rw[k.out];exact⟨rfl,(aD b hv).trans o.out d.out⟩
  ·have k:=qq (show bQ s=bJ s by unfold bQ;rw[if_neg f,if_neg i]);have D:((s.st:Int)==2)=false:=beq_false_of_ne (by omega);clear h g hl j f i;go_enter func16,ntmps16;go_wp2_with fail;refine hs.out.mono ?_;rintro e r⟨rfl,rfl⟩;go_wp2_with fail;refine x.out.mono ?_;rintro e w3⟨rfl,a⟩;have d:=qq a;clear a;go_wp2;go_end0;rw[k.out];exact⟨rfl,d.out⟩
theorem xO (h:bT b hv T W s)(j:s.st=2→s.c.isSome=true):Calls prog 30 #[.pointer (some ⟨b,0,none⟩)] W λe w'=>e=.returned (.tuple #[])∧Pst (bT b hv) T W (dD s) w':=by
 have hs:=qq (gj h);have I:=qq (dA h);have l:=mM h j;have y:=qq (kQ h 1001 (by decide));have h0:=qq h;by_cases m:s.st=1
 ·have p:=qq (show dD s=bJ s from if_pos m);rw[m]at hs;clear h j m l;go_enter func30,ntmps30;go_wp2_with fail;refine hs.out.mono ?_;rintro e u⟨rfl,rfl⟩;go_wp2_with fail;refine I.out.mono ?_;rintro e w3⟨rfl,f⟩;have d:=qq f;clear f;go_wp2;go_end0;rw[p.out];exact⟨rfl,d.out⟩
 ·have N:((s.st:Int)==1)=false:=beq_false_of_ne (by omega);obtain⟨v,a⟩:∃v,cG s=v:=⟨_,rfl⟩;have i:dD s=if v=true then { du s 1001 with c:=s.c.map cS } else s:=by unfold dD;rw[if_neg m,a]
  rw[a]at l;have l:=qq l;cases v with
  | false =>
   have p:=qq (i.trans (if_neg (by decide)));clear h j m a i;go_enter func30,ntmps30;go_wp2_with fail;refine hs.out.mono ?_;rintro e u⟨rfl,rfl⟩;go_wp2_with fail;refine l.out.mono ?_;rintro e u⟨rfl,rfl⟩;go_wp2;go_end0;rw[p.out];exact⟨rfl,(aD b hv).of_gr h0.out (Gr.refl _)⟩
  | true =>
   have q:s.st=2:=by
    unfold cG at a;rw[Bool.and_eq_true]at a;exact eq_of_beq a.1
   cases t:s.c with
   | none=>rw[t]at j;exact absurd (j q) (by decide)
   | some w =>
    have p:=qq (show dD s={ du s 1001 with c:=some (cS w) } by rw[i,if_pos rfl,t];rfl);have r:=qq t;clear h j m a i q t;go_enter func30,ntmps30;go_wp2_with fail;refine hs.out.mono ?_;rintro e u⟨rfl,rfl⟩;go_wp2_with fail;refine l.out.mono ?_;rintro e u⟨rfl,rfl⟩;go_wp2_with fail;refine y.out.mono ?_;rintro e M⟨rfl,D⟩;have A:=qq D;obtain⟨⟨⟨c,L,J,cv,h,C⟩,hl⟩,x⟩:=D;have kw:=h.kw;rw[show(du s 1001).c=s.c from rfl,r.out]at kw;obtain⟨k0,rfl,kw⟩:=kw;have k4:=h.c4;have g:=BN kw;obtain⟨E,o⟩:∃E:Int,(if w.st=1 then(0:Int) else 11)=E:=⟨_,rfl⟩;rw[o]at g;have B:=qq g;clear g o;have F:=qq h;have n:=qq C;have z:=qq hl;clear h C hl x kw;go_wp2_with fail;refine B.out.mono ?_;rintro e w3⟨rfl,f⟩;have d:=qq f;clear f k4;go_wp2;go_end0;rw[p.out];exact⟨rfl,(aD b hv).trans A.out ((F.out.setW r.out d.out).pst z.out (d.out.2.mono (λk e=>n.out k (by rw[show c k=3 from e];decide))) (cH n.out (qv _)))⟩
theorem CB (h:bT b hv T W s)(i:s.st=2→s.c.isSome=true):Calls prog 17 #[.pointer (some ⟨b,0,none⟩)] W λe w'=>e=.returned (.tuple #[])∧Pst (bT b hv) T W (eD s) w':=by
 have l:=um h i;have r:=qq (xO h i);obtain⟨⟨c,E,C,cv,h,k⟩,hl⟩:=h;have D:=qq h;have x:=qq k;have z:=qq hl;have y:=qq (k b (by rw[h.cb];decide));have k4:=h.c4;obtain⟨v,a⟩:∃v,dK s=v:=⟨_,rfl⟩;have d:eD s=if v=true then bJ (dn s) else dD s:=by unfold eD;rw[a]
 rw[a]at l;have l:=qq l;cases v with
 | false =>
  have q:=qq (d.trans (if_neg (by decide)));clear h k hl i a d k4;go_enter func17,ntmps17;go_wp2_with fail;refine l.out.mono ?_;rintro e A⟨rfl,rfl⟩;go_wp2_with fail;refine r.out.mono ?_;rintro e B⟨rfl,j⟩;have g:=qq j;clear j;go_wp2;go_end0;rw[q.out];exact⟨rfl,g.out⟩
 | true =>
  have f:s.st=2:=by
   unfold dK at a;rw[Bool.and_eq_true]at a;exact eq_of_beq a.1
  cases t:s.c with
  | none=>rw[t]at i;exact absurd (i f) (by decide)
  | some w =>
   have q:=qq (d.trans (if_pos rfl));obtain⟨k0,rfl,u⟩:=nR h k hl t;have p:=qq u;clear h k hl i a d t u f;go_enter func17,ntmps17;go_wp2_with fail;refine l.out.mono ?_;rintro e A⟨rfl,rfl⟩;go_wp2_with fail;refine p.out.mono ?_;rintro e B⟨rfl,j⟩;have o:=qq (dA j.1);have g:=qq j;clear j k4;go_wp2_with fail;refine o.out.mono ?_;rintro e w3⟨rfl,m⟩;have n:=qq m;clear m;go_wp2;refine bodyPost_ret (v:=.tuple #[]) (by simp[results,results17,go_sem]) rfl ?_;rw[q.out];exact⟨rfl,(aD b hv).trans g.out n.out⟩
theorem Eb (h:bT b hv T W s):Calls prog 31 #[.pointer (some ⟨b,0,none⟩)] W λe w'=>e=.returned (.tuple #[])∧Pst (bT b hv) T W (ij s) w':=by
 have L:=qq (dA h);have h0:=qq h;obtain⟨⟨c,R,O,cv,h,t⟩,hl⟩:=h;have P:=qq h;have I:=qq t;have M:=qq hl;have J:=qq (t b (by rw[h.cb];decide));have k4:=h.c4;have r:=h.c5;cases u:s.c with
 | none =>
  have D:=qq (show ij s={ bJ s with x:=fO (bJ s).x } by unfold ij dn bJ;rw[u];rfl);have kw:=h.kw;rw[u]at kw;rw[show cv=.pointer none from kw]at k4;clear h t hl u kw;go_enter func31,ntmps31;go_wp2_with fail;refine L.out.mono ?_;rintro e w3⟨rfl,j⟩;clear r;have l:=qq j;obtain⟨⟨⟨c2,E,v,y,n,f⟩,g⟩,p⟩:=j;have r:=n.c5;have q:=qq (nW n.kx);have o:=qq n;have a:=qq f;have i:=qq g;clear n f g p;go_wp2_with fail;refine q.out.mono ?_;rintro e N⟨rfl,m⟩;have d:=qq m;clear m r;go_wp2;go_end0;rw[D.out];exact⟨rfl,(aD b hv).trans l.out ((o.out.setX d.out).pst i.out (d.out.2.mono (λk e=>a.out k (by rw[show c2 k=4 from e];decide))) (cH a.out (qv _)))⟩
 | some w =>
  have D:=qq (show ij s={ bJ (dn s)with x:=fO (bJ (dn s)).x }from rfl);obtain⟨k0,rfl,F⟩:=nR h t hl u;have A:=qq F;clear h t hl u F;go_enter func31,ntmps31;go_wp2_with fail;refine A.out.mono ?_;rintro e S⟨rfl,B⟩;have z:=qq (dA B.1);have C:=qq B;clear B k4 r;go_wp2_with fail;refine z.out.mono ?_;rintro e w3⟨rfl,j⟩;have l:=qq j;obtain⟨⟨⟨c2,E,v,y,n,f⟩,g⟩,p⟩:=j;have r:=n.c5;have q:=qq (nW n.kx);have o:=qq n;have a:=qq f;have i:=qq g;clear n f g p;go_wp2_with fail;refine q.out.mono ?_;rintro e N⟨rfl,m⟩;have d:=qq m;clear m r;go_wp2;go_end0;rw[D.out];exact⟨rfl,(aD b hv).trans C.out ((aD b hv).trans l.out ((o.out.setX d.out).pst i.out (d.out.2.mono (λk e=>a.out k (by rw[show c2 k=4 from e];decide))) (cH a.out (qv _))))⟩
end
def zM:Option (List UInt8×Bool)→Value
 | none=>.tuple #[.string ⟨#[]⟩,.bool false,.bool false]
 | some (t,e)=>.tuple #[.string ⟨t.toArray⟩,.bool e,.bool true]
theorem tu {x:Bx}(h:Bok x){it:It}(e:(aS x).2=some it):it.kind=1∨it.kind=2∨it.kind=3∨it.kind=4∨it.kind=5:=by
 obtain⟨q,reps,pong,msgs,close,closed,ends,told⟩:=x;have c:=h.k;unfold aS at e;dsimp only at e c;cases reps with
 | cons a l=>cases e;exact .inl rfl
 | nil =>
  cases pong with
  | some a=>cases e;exact .inr (.inl rfl)
  | none =>
   cases msgs with
   | cons a l=>cases e;exact .inr (.inr (.inl (c _ (List.mem_cons_self ..))))
   | nil =>
    cases close with
    | some a=>cases e;exact .inr (.inr (.inr (.inl rfl)))
    | none =>
     dsimp only at e;split at e
     ·cases e;exact .inr (.inr (.inr (.inr rfl)))
     ·cases e
theorem SnS.kw_of {b:Nat}{hv:Value}{c:Nat→Nat}{W:World}{s:Ss}{f a k0:Nat}{w:Wn}(h:SnS b hv c W s f a (.pointer (some ⟨k0,0,none⟩)))(d:s.c=some w):j9 k0 (λk=>c k=3) W w:=by
 have k:=h.kw;rw[d]at k;obtain⟨k1,e,k⟩:=k;cases e;exact k
section
variable {b:Nat} {hv:Value} {T:Nat→Prop} {W:World} {s:Ss}
theorem Fd (h:bT b hv T W s)(E:Bok s.x)(z:∀it,(aS s.x).2=some it→it.kind=1∨it.text.length≤65535):Calls prog 14 #[.pointer (some ⟨b,0,none⟩)] W λe w'=>e=.returned (zM (bR s).2)∧Pst (bT b hv) T W (bR s).1 w':=by
 obtain⟨⟨c,N,M,cv,h,C⟩,hl⟩:=h;have y:=qq h;have d:=qq C;have i:=qq hl;have L:=qq (C b (by rw[h.cb];decide));have c5:=h.c5;have q:=pQ h.kx;have n:=λit=>tu (it:=it) E;have j:bR s=({ s with x:=(aS s.x).1 },(aS s.x).2.map i8):=rfl;obtain⟨D,o,A⟩:∃D o,aS s.x=(D,o):=⟨_,_,rfl⟩;rw[A]at q n z j;dsimp only at q n z j;have hn:=qq q;clear h C hl q A E;cases o with
 | none =>
  have p:=qq j;rw[jR]at hn;unfold it0 It.V at hn;clear j n z;go_enter func14,ntmps14;go_wp2_with fail;refine hn.out.mono ?_;rintro e B⟨rfl,g⟩;have a:=qq g;clear g;go_wp2;refine bodyPost_ret (v:=.tuple #[.string ⟨#[]⟩,.bool false,.bool false]) (by simp[results,results14,go_sem]) rfl ?_;rw[p.out];exact⟨rfl,(aD b hv).behind ((y.out.setX a.out).pst i.out (a.out.2.mono (λk e=>d.out k (by rw[show c k=4 from e];decide))) (cH d.out (qv _))) (Gr.alloc _ _)⟩
 | some it =>
  obtain⟨k,op,w⟩:=it;have F:=n _ rfl;have r:=z _ rfl;have m:=λ(op:Int) (W:World) (h:w.length≤65535)=>uq op w W h;unfold kR frV at m;have u:=qq m;have f:bR s=({ s with x:=D },some (i8 ⟨k,op,w⟩)):=j;rw[eA]at hn;unfold It.V at hn;clear j n z m;dsimp only at F r;rcases F with rfl | rfl | rfl | rfl | rfl
  ·have p:=qq f;clear f;go_enter func14,ntmps14;go_wp2_with fail;refine hn.out.mono ?_;rintro e B⟨rfl,g⟩;have a:=qq g;clear g;go_wp2;refine bodyPost_ret (v:=.tuple #[.string ⟨w.toArray⟩,.bool false,.bool true]) (by simp[results,results14,go_sem]) rfl ?_;rw[p.out];exact⟨rfl,(aD b hv).behind ((y.out.setX a.out).pst i.out (a.out.2.mono (λk e=>d.out k (by rw[show c k=4 from e];decide))) (cH d.out (qv _))) (Gr.alloc _ _)⟩
  ·have p:=qq f;clear f;go_enter func14,ntmps14;go_wp2_with fail;refine hn.out.mono ?_;rintro e B⟨rfl,g⟩;have a:=qq g;clear g;go_wp2_with fail;refine(u.out _ _ (r.resolve_left (by decide))).mono ?_;rintro e J⟨⟨I,rfl⟩,t⟩;have l:=qq t;clear t;go_wp2;refine bodyPost_ret (v:=.tuple #[.string ⟨(dC 10 w).toArray⟩,.bool false,.bool true]) (by simp[results,results14,go_sem]) rfl ?_;rw[p.out];exact⟨rfl,(aD b hv).behind ((y.out.setX a.out).pst i.out (a.out.2.mono (λk e=>d.out k (by rw[show c k=4 from e];decide))) (cH d.out (qv _))) ((Gr.alloc _ _).trans l.out)⟩
  ·have p:=qq f;clear f;go_enter func14,ntmps14;go_wp2_with fail;refine hn.out.mono ?_;rintro e B⟨rfl,g⟩;have a:=qq g;clear g;go_wp2_with fail;refine(u.out _ _ (r.resolve_left (by decide))).mono ?_;rintro e J⟨⟨I,rfl⟩,t⟩;have l:=qq t;clear t;go_wp2;refine bodyPost_ret (v:=.tuple #[.string ⟨(dC op w).toArray⟩,.bool false,.bool true]) (by simp[results,results14,go_sem]) rfl ?_;rw[p.out];exact⟨rfl,(aD b hv).behind ((y.out.setX a.out).pst i.out (a.out.2.mono (λk e=>d.out k (by rw[show c k=4 from e];decide))) (cH d.out (qv _))) ((Gr.alloc _ _).trans l.out)⟩
  ·have p:=qq f;clear f;go_enter func14,ntmps14;go_wp2_with fail;refine hn.out.mono ?_;rintro e B⟨rfl,g⟩;have a:=qq g;clear g;go_wp2_with fail;refine(u.out _ _ (r.resolve_left (by decide))).mono ?_;rintro e J⟨⟨I,rfl⟩,t⟩;have l:=qq t;clear t;go_wp2;refine bodyPost_ret (v:=.tuple #[.string ⟨(dC 8 w).toArray⟩,.bool false,.bool true]) (by simp[results,results14,go_sem]) rfl ?_;rw[p.out];exact⟨rfl,(aD b hv).behind ((y.out.setX a.out).pst i.out (a.out.2.mono (λk e=>d.out k (by rw[show c k=4 from e];decide))) (cH d.out (qv _))) ((Gr.alloc _ _).trans l.out)⟩
  ·have p:=qq f;clear f;go_enter func14,ntmps14;go_wp2_with fail;refine hn.out.mono ?_;rintro e B⟨rfl,g⟩;have a:=qq g;clear g;go_wp2;refine bodyPost_ret (v:=.tuple #[.string ⟨#[]⟩,.bool true,.bool true]) (by simp[results,results14,go_sem]) rfl ?_;rw[p.out];exact⟨rfl,(aD b hv).behind ((y.out.setX a.out).pst i.out (a.out.2.mono (λk e=>d.out k (by rw[show c k=4 from e];decide))) (cH d.out (qv _))) (Gr.alloc _ _)⟩
theorem mA (h:bT b hv T W s)(U:G W)(x:Rp)(t:Value)(hf:FieldsAt W t x.fs)(P:uf x)(l d:Bool):Calls prog 70 #[.pointer (some ⟨b,0,none⟩),x.V t,.bool l,.bool d] W λe w'=>e=.returned (.tuple #[])∧Pst (bT b hv) T W (cU s x l d) w':=by
 obtain⟨⟨c,pb,bb,cv,h,L⟩,hl⟩:=h;have h':=qq h;have a0:=qq L;have a2:=qq hl;have a1:=qq (L b (by rw[h.cb];decide));have a:=qq (λv (g:Gr W v)=>pZ x t l d v (U.gr g) (hf.gr g) P.1 P.2.1 P.2.2.1 P.2.2.2);have i:=qq (λv (g:Gr W v)=>pZ oB (.slice none 0 0) l d v (U.gr g) (bN v 0) (by decide) (λf hf=>by cases hf) (by decide) (by decide));have O:=qq (λv (g:Gr W v) (r:List UInt8)=>wj r (h.gr g).kx);obtain⟨p,cap,rfl,_⟩:=hf;have J:cU s x l d=if d then bJ { s with x:=(bD s.x (putB x l d)).1 } else { s with x:=(bD s.x (putB x l d)).1 }:=rfl;obtain⟨o,Y⟩:∃o,cL x l d=o:=⟨_,rfl⟩;obtain⟨C,I⟩:∃C,cL oB l d=C:=⟨_,rfl⟩;have j:putB x l d=o.getD (C.getD []):=by
  rw[←Y,←I];unfold putB;cases cL x l d <;> rfl
 rw[Y]at a
 rw[I]at i;unfold oB at i;unfold Rp.V at a i ⊢;dsimp only at a i ⊢;obtain⟨R,B⟩:∃y,putB x l d=y:=⟨_,rfl⟩;rw[B]at J j;have S:=qq J;have z:=qq (λ(Z w3:World) (c5:True) (g:Gr W Z) (A:Pst (cN bb) (λk=>c k=4) Z (bD s.x R).1 w3)=>(aD b hv).ahead g (((h.gr g).setX A).pst (λk e=>qj (hl k e) (Below.size g)) (A.2.mono (λk e=>L k (by rw[show c k=4 from e];decide))) (cH L (qv _))));have M:=qq (λ(v:World) (g:Gr W v)=>(h.gr g).c5);clear h L hl U P J Y I B;cases o with
 | some bs =>
  rw[show(some bs).getD (C.getD [])=bs from rfl]at j;subst j;unfold gX at a
  dsimp only at a
  go_enter func70,ntmps70;go_wp2_with fail;refine(a.out _ (Gr.alloc _ _)).mono ?_;rintro e w1⟨rfl,w⟩;have E:=(Gr.alloc W (.cells #[.int .i64 x.code,.slice p x.fs.length cap,.string ⟨x.b.toArray⟩] 51)).trans w;clear w;have c5:=M.out _ E;have m:=qq E;clear E;go_wp2_with fail;refine(O.out _ m.out _).mono ?_;rintro e w3⟨rfl,A⟩;have F:=z.out _ _ trivial m.out A;have X:=qq (dA F.1);have n:=qq F;clear A F c5;cases d with
  | false =>
   go_wp2;go_end0;rw[S.out];exact⟨rfl,n.out⟩
  | true =>
   go_wp2_with fail;refine X.out.mono ?_;rintro e w4⟨rfl,q⟩;have u:=qq q;clear q;go_wp2;go_end0;rw[S.out];exact⟨rfl,(aD b hv).trans n.out u.out⟩
 | none =>
  rw[show(none:Option (List UInt8)).getD (C.getD [])=C.getD []from rfl]at j;rw[show gX none=.tuple #[.string ⟨#[]⟩,.int .i64 1]from rfl]at a
  obtain⟨n2,N⟩:∃n2:Int,gX C=.tuple #[.string ⟨R.toArray⟩,.int .i64 n2]:=by
   rw[j];cases C with
   | none=>exact⟨_,rfl⟩
   | some y=>exact⟨_,rfl⟩
  rw[N]at i;clear N j;go_enter func70,ntmps70;go_wp2_with fail;refine(a.out _ (Gr.alloc _ _)).mono ?_;rintro e w1⟨rfl,w⟩;have D:=(Gr.alloc W (.cells #[.int .i64 x.code,.slice p x.fs.length cap,.string ⟨x.b.toArray⟩] 51)).trans w;clear w;go_wp2_with fail;refine(i.out _ D).mono ?_;rintro e Z⟨rfl,w⟩;have E:=D.trans w;clear w D;have c5:=M.out _ E;have m:=qq E;clear E;go_wp2_with fail;refine(O.out _ m.out _).mono ?_;rintro e w3⟨rfl,A⟩;have F:=z.out _ _ trivial m.out A;have X:=qq (dA F.1);have n:=qq F;clear A F c5;cases d with
  | false =>
   go_wp2;go_end0;rw[S.out];exact⟨rfl,n.out⟩
  | true =>
   go_wp2_with fail;refine X.out.mono ?_;rintro e w4⟨rfl,q⟩;have u:=qq q;clear q;go_wp2;go_end0;rw[S.out];exact⟨rfl,(aD b hv).trans n.out u.out⟩
theorem F4 (h:bT b hv T W s)(l:s.limit≤1099511627776)(j:s.p.inp.length+s.p.und.length≤90000):Calls prog 93 #[.pointer (some ⟨b,0,none⟩)] W λe w'=>e=.returned (.tuple #[])∧Pst (bT b hv) T W (Bi s) w':=by
 obtain⟨⟨c,pb,bb,cv,h,J⟩,hl⟩:=h;have U:=qq h;have o:=qq J;have P:=qq hl;have y:=qq (J b (by rw[h.cb];decide));have c1:=h.c1;have Z:=qq (xA W s.limit l);have z:(eN s.p).2.length≤90000:=by
  unfold eN;split
  ·exact qx _
  ·simp only[qw];omega
 have q:=qq j;have A:=qq z;clear h J hl l j z;go_enter func93,ntmps93;go_wp2_with fail;refine Z.out.mono ?_;rintro e d⟨C,rfl,X,E⟩;have u:=(U.out.gr E).give U.out.lt 3 (by decide);have B:SkP (.pointer (some ⟨C,0,none⟩)) (λk=>bc c W d 3 k=3) d (some (wn0 s.limit)):=⟨C,rfl,(m4 C).mono X (λk e=>iX e.1 e.2) (λk e=>u.lt k (by rw[e];decide))⟩;have V:=u.setC B;have x:=qq E;have c4:=u.c4;have fz:=u.fz;have L:=u.blt;have f:=qq V;clear X u V B E;go_upto_region 1 with(fail);obtain⟨i,g⟩:∃i,d.setCell ⟨b,4,none⟩ (.pointer (some ⟨C,0,none⟩))=i:=⟨_,rfl⟩;rw[g]at f;rw[g];have M:=qq (show Ch T d i from g▸Ch.setCell d (a:=⟨b,4,none⟩) y.out _);have R:=qq (show i.heap.size=d.heap.size by rw[←g];simp);clear g c4 fz L c1;have c3:=f.out.c3;have c4:=f.out.c4
 go_region_with (first
  |(go_at_call 113;refine(x9 (f.out.gr (Gr.drew' _)).kp q.out).mono ?_;rintro e w3 ⟨rfl,r⟩;have F:=qq ((f.out.gr (Gr.drew' _)).setP r);have m:=qq r;clear r;have c4:=F.out.c4)
  |(go_at_call 40;refine(sw (F.out.kw_of rfl) _ (by have:=A.out;show 0+_≤_;omega)).mono ?_;rintro e D ⟨rfl,t⟩;have I:=qq (F.out.setW rfl t);have n:=qq t;clear t))
 all_goals
  have k2:=I.out.c2;have fz:=I.out.fz;have S:=m.out.2.size;have Y:=qq (show Gr i i.drew from Gr.drew' _);clear c3 c4;have v:Ch T W w3:=(x.out.to_ch T).trans (M.out.trans (((Gr.drew' _).to_ch T).trans (m.out.2.mono (λk e=>by
   have e:bc c W d 3 k=2:=e;rcases cq c W d 3 k with⟨_,e2⟩ | ⟨_,e2⟩
   ·rw[e2]at e;cases e
   ·exact o.out k (by rw[←e2,e];decide)))))
  have w:Ch T W D:=v.drop_new n.out.2 (λk e=>by
   rcases cq (bc c W d 3) _ w3 2 k with⟨_,e2⟩ | ⟨_,e2⟩
   ·exact absurd (e2.symm.trans e) (by decide)
   ·have e:bc c W d 3 k=3:=e2.symm.trans e;rcases cq c W d 3 k with⟨e3,_⟩ | ⟨_,e3⟩
    ·exact .inr e3.1
    ·exact .inl (o.out k (by rw[←e3,e];decide)))
  have s1:=Below.size x.out;have s2:=R.out;have s4:=n.out.2.size;have sd:=Below.size (show Gr i i.drew from Gr.drew' _);have N:=qq w;have O:=qq (show ∀k,bc (bc (bc c W d 3) i.drew w3 2) w3 D 3 k≠0→Add T W D k from λk e=>by
   rcases bO k e with e | e
   ·rcases bO k e with e | e
    ·rcases bO k e with e | e
     ·exact .inl (o.out k e)
     ·exact .inr ⟨e.1,by have:=e.2;omega⟩
    ·exact .inr ⟨by have:=e.1;omega,by have:=e.2;omega⟩
   ·exact .inr ⟨by have:=e.1;omega,by have:=e.2;omega⟩)
  clear v w s1 s2 s4 sd S Y;go_wp2;go_end0;exact⟨rfl,(I.out.setSt 2).pst P.out (N.out.trans (Ch.setCell D (a:=⟨b,2,none⟩) y.out _)) (λk e=>(O.out k e).imp_right (λe=>⟨e.1,by rw[World.size_setCell];exact e.2⟩))⟩
end
