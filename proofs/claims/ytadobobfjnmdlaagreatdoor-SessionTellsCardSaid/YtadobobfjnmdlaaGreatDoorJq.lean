/-
  A socket in memory: what is told of a frame of data, whole.
-/
import Derived.Test.YtadobobfjnmdlaaGreatDoorJk
set_option linter.unnecessarySimpa false
set_option linter.unusedVariables false
set_option linter.unusedSimpArgs false
set_option maxHeartbeats 16000000
set_option maxRecDepth 100000
open Go.Proofs.Tryz
namespace Go.Proofs.YtadobobfjnmdlaaGreatDoor
open Go.RowKit Go.Shelf
def FO:Fev→Prop
 | .begin' _ _ n=>n≤9223372036854775807
 | .piece s=>s.length≤4611686018427387900
 | .fin=>True
 | .fail=>False
theorem jz {b R J:Nat}{TJ:Nat→Prop}{W:World}{c:Wn}(k:WnS b R J TJ W c)(e:Fev)(a:FO e) :
  Calls prog 123 #[.pointer (some ⟨b,0,none⟩),e.V] W (WjPost b R J TJ W (bw c e)):=by
 cases e with
 | begin' f o n=>exact sg k f o n a
 | piece s=>exact si k s (qy a (by decide))
 | fin=>exact yR k
 | fail=>exact a.elim
theorem mW {s:List UInt8}(t:List UInt8){i:Nat}(h:i<s.length)(d:UInt8):(s++t).getD i d=s.getD i d:=by
 rw[List.getD_eq_getElem?_getD,List.getD_eq_getElem?_getD,List.getElem?_append_left h]
theorem sk {s:List UInt8}(t:List UInt8){n:Nat}(h:n≤s.length):(s++t).take n=s.take n:=by
 rw[List.take_append,show n - s.length=0 by omega,List.take_zero,List.append_nil]
theorem sn {s:List UInt8}(t:List UInt8){n:Nat}(h:n≤s.length):(s++t).drop n=s.drop n++t:=by
 rw[List.drop_append,show n - s.length=0 by omega,List.drop_zero]
theorem lh {s:List UInt8}{h:Hd}{n:Nat}(e:ej s=some (h,n)):h=mkH s∧n=jW s∧2≤n∧n≤s.length∧fL s≤n∧(128≤s.getD 1 0→fL s+4=n):=by
 unfold ej at e;split at e
 ·cases e
 ·rename_i k;cases e;refine⟨rfl,rfl,?_,by omega,?_,?_⟩ <;> unfold jW
  ·split <;> (unfold fL;omega)
  ·split <;> omega
  ·intro h;rw[if_pos h]
theorem yS {s:List UInt8}{h:Hd}{n:Nat}(e:ej s=some (h,n))(t:List UInt8):ej (s++t)=some (h,n):=by
 obtain⟨rfl,rfl,l,m,o,k⟩:=lh e;have g:(s++t).getD 0 0=s.getD 0 0:=mW t (by omega) 0;have a:(s++t).getD 1 0=s.getD 1 0:=mW t (by omega) 0;have d:fL (s++t)=fL s:=by unfold fL;rw[a]
 have f:jW (s++t)=jW s:=by unfold jW;rw[a,d]
 have j:ug (s++t)=ug s:=by unfold ug;rw[a,d,sk t (by omega)]
 have gk:∀i,i<4→lH (s++t) i=lH s i:=λi hi=>by
  unfold lH;rw[a,d];by_cases hm:128≤s.getD 1 0
  ·rw[if_pos hm,if_pos hm,mW t (by have:=k hm;omega)]
  ·rw[if_neg hm,if_neg hm]
 unfold ej;rw[if_neg (by rw[qw,f];omega),f];unfold mkH;rw[g,a,d,j,gk 0 (by decide),gk 1 (by decide),gk 2 (by decide),gk 3 (by decide)]
def ct (c:Wn):Option (Wn×Option Wev):=if c.st=3 then none else match az c.r with
 |(_,none)=>none
 |(r,some e)=>some (aq { c with r:=r } e)
inductive Drains:Wn→List Wev→Wn→Prop where
 | stop {c:Wn}:ct c=none→Drains c [] c
 | quiet {c c1 c':Wn} {l:List Wev}:ct c=some (c1,none)→Drains c1 l c'→Drains c l c'
 | tells {c c1 c':Wn} {e:Wev} {l:List Wev}:ct c=some (c1,some e)→Drains c1 l c'→Drains c (e :: l) c'
theorem Drains.det {c:Wn}{l:List Wev}{c':Wn}(h:Drains c l c'):∀ {m d},Drains c m d→l=m∧c'=d:=by
 induction h with
 | stop h =>
  intro m d k;cases k with
  | stop _=>exact⟨rfl,rfl⟩
  | quiet k _=>rw[h]at k;cases k
  | tells k _=>rw[h]at k;cases k
 | quiet h _ a =>
  intro m d k;cases k with
  | stop k=>rw[h]at k;cases k
  | quiet k r=>rw[h]at k;cases k;exact a r
  | tells k _=>rw[h]at k;cases k
 | tells h _ a =>
  intro m d k;cases k with
  | stop k=>rw[h]at k;cases k
  | quiet k r=>rw[h]at k;cases k
  | tells k r =>
   rw[h]at k;cases k;obtain⟨rfl,rfl⟩:=a r;exact⟨rfl,rfl⟩
theorem gp (c:Wn)(e:Fev)(r:Fr):aq { c with r:=r } e=({ (aq c e).1 with r:=r },(aq c e).2):=by
 cases e with
 | begin' fin op len =>
  unfold aq bh bw cR;dsimp only
  repeat' split
  all_goals rfl
 | piece s =>
  unfold aq bh bw cR;dsimp only
  repeat' split
  all_goals rfl
 | fin =>
  unfold aq bh bw cR;dsimp only
  repeat' split
  all_goals rfl
 | fail=>rfl
theorem sp {r k:Fr}{e:Fev}(h:az r=(k,some e))(b:List UInt8)(hl:r.st≠0→r.h.len - r.told≤r.inp.length):az (bp r b)=(bp k b,some e):=by
 unfold az at h;split at h
 ·cases h
 ·rename_i g;have hf:bp r b={ r with inp:=r.inp++b }:=if_neg g;rw[hf];unfold az;dsimp only;rw[if_neg g];split at h
  ·rename_i h0;rw[if_pos h0];cases f:ej r.inp with
   | none=>rw[f]at h;cases h
   | some x =>
    obtain⟨d,n⟩:=x;obtain⟨_,_,_,hn,_,_⟩:=lh f;rw[f]at h;rw[yS f b];dsimp only at h ⊢;split at h
    ·rename_i hm;rw[if_pos hm];cases h;rw[sn b hn];rfl
    ·rename_i hm;rw[if_neg hm];cases h;rfl
  ·rename_i h0;rw[if_neg h0];split at h
   ·rename_i i;rw[if_pos i];cases h;rfl
   ·rename_i i;rw[if_neg i];have a:r.h.len - r.told≤r.inp.length:=hl h0;split at h
    ·cases h
    ·rename_i j;cases h;have e1:min (r.h.len - r.told) r.inp.length=r.h.len - r.told:=(by omega);have e2:min (r.h.len - r.told) (r.inp++b).length=r.h.len - r.told:=(by rw[qw];omega);rw[e1]at j ⊢;rw[e2,if_neg j,sk b a,sn b a];unfold bp;rw[if_neg g]
theorem sq {r f:Fr}{e:Fev}(h:az r=(f,some e)):f.inp.length+(if f.st=0 then 0 else 1)<r.inp.length+(if r.st=0 then 0 else 1):=by
 unfold az at h;split at h
 ·cases h
 ·split at h
  ·rename_i h0;rw[if_pos h0];cases a:ej r.inp with
   | none=>rw[a]at h;cases h
   | some x =>
    obtain⟨d,n⟩:=x;obtain⟨_,_,g,hn,_,_⟩:=lh a;rw[a]at h;dsimp only at h;split at h
    ·cases h;dsimp only;rw[List.length_drop,if_neg (by decide)];omega
    ·cases h;dsimp only;rw[List.length_nil,if_neg (by decide)];omega
  ·rename_i h0;rw[if_neg h0];split at h
   ·cases h;dsimp only;rw[if_pos rfl];omega
   ·split at h
    ·cases h
    ·cases h;dsimp only;rw[List.length_drop,if_neg h0];omega
theorem iN {c c1:Wn}{o:Option Wev}(h:ct c=some (c1,o)):c.st≠3∧∃r e,az c.r=(r,some e)∧aq { c with r:=r } e=(c1,o)∧c1.r=r:=by
 unfold ct at h;split at h
 ·cases h
 ·rename_i a;refine⟨a,?_⟩;split at h
  ·cases h
  ·rename_i r e d;have h:=Option.some.inj h;refine⟨r,e,d,h,?_⟩;have:=gp c e r;rw[h]at this;exact(congrArg (λx=>x.1.r) this).trans rfl
theorem iO {c:Wn}{r:Fr}{e:Fev}(a:c.st≠3)(h:az c.r=(r,some e)):ct c=some (aq { c with r:=r } e):=by
 unfold ct;rw[if_neg a,h]
theorem eI {c c1:Wn}{o:Option Wev}(h:ct c=some (c1,o)):cD c1<cD c:=by
 obtain⟨_,r,e,a,_,d⟩:=iN h;unfold cD;rw[d];exact sq a
theorem Drains.ex:∀(n:Nat) (c:Wn),cD c<n→∃l c',Drains c l c'
 | 0,_,h=>absurd h (Nat.not_lt_zero _)
 | n+1,c,h=>by
  cases e:ct c with
  | none=>exact⟨_,_,.stop e⟩
  | some x =>
   obtain⟨c1,o⟩:=x;have:=eI e;obtain⟨l,c',a⟩:=Drains.ex n c1 (by omega);cases o with
   | none=>exact⟨_,_,.quiet e a⟩
   | some v=>exact⟨_,_,.tells e a⟩
theorem Drains.stuck {c:Wn}{l:List Wev}{c':Wn}(h:Drains c l c'):ct c'=none:=by
 induction h with
 | stop h=>exact h
 | quiet _ _ a=>exact a
 | tells _ _ a=>exact a
theorem sr {c:Wn}(h:c.st=3):ct c=none:=if_pos h
theorem Drains.over {c:Wn}(h:c.st=3):Drains c [] c:=.stop (sr h)
structure Wok (c:Wn):Prop where
 a:c.r.st=0→c.control=0
 b:c.st=1→c.control=0→c.r.st=1→c.j.bad=0∧c.j.begun=true∧c.j.lacks=c.r.h.len - c.r.told
 c:c.r.st≤2
theorem Wok.feed {c:Wn}(h:Wok c)(b:List UInt8):Wok (aN c b):=by
 unfold aN;split
 ·exact h
 ·unfold bp;split
  ·exact h
  ·exact⟨h.a,h.b,h.c⟩
theorem BI (limit:Nat):Wok (wn0 limit):=⟨λ_=>rfl,λ_ _ h=>absurd (show(0:Nat)=1 from h) (by decide),(by decide:(0:Nat)≤2)⟩
theorem qF {j:Jn}{last:Bool}{op len:Nat}(h:(aG j last op len).bad=0):(aG j last op len).begun=true∧(aG j last op len).lacks=len:=by
 unfold aG at h ⊢;split
 ·rename_i k;rw[if_pos k]at h;exact absurd h k
 ·rename_i k;rw[if_neg k]at h;split
  ·rename_i k2;rw[if_pos k2]at h;unfold aF at h;split at h <;> simp_all
  ·rename_i k2;rw[if_neg k2]at h;split
   ·rename_i k3;rw[if_pos k3]at h;unfold aF at h;split at h <;> simp_all
   ·split <;> exact⟨rfl,rfl⟩
def lj (j:Jn)(s:List UInt8):Jn:={ j with check:=if j.op=1 then bG j.check s else j.check,lacks:=j.lacks - s.length,text:=j.text++s }
theorem BJ (j:Jn)(s t:List UInt8):lj (lj j s) t=lj j (s++t):=by
 unfold lj;dsimp only;by_cases a:j.op=1
 ·simp only[if_pos a,gi,qw,List.append_assoc,Nat.sub_sub]
 ·simp only[if_neg a,qw,List.append_assoc,Nat.sub_sub]
theorem fe {j:Jn}{s:List UInt8}(h:(aA j s).bad=0):j.bad=0∧j.begun=true∧s.length≤j.lacks∧(j.op=1→(bG j.check s).bad=false) ∧
  aA j s=lj j s:=by
 unfold aA at h ⊢;by_cases k:j.bad≠0
 ·rw[if_pos k]at h;exact absurd h k
 ·rw[if_neg k]at h ⊢;have k0:j.bad=0:=Decidable.not_not.1 k;by_cases k2:(!j.begun||decide (j.lacks<s.length))=true
  ·rw[if_pos k2]at h;unfold aF at h;rw[if_pos k0]at h;cases h
  ·rw[if_neg k2]at h ⊢;simp only[Bool.or_eq_true,Bool.not_eq_true',decide_eq_true_eq,not_or,Bool.not_eq_false,Nat.not_lt]at k2;by_cases k3:j.op=1
   ·rw[if_pos k3]at h ⊢;by_cases k4:(bG j.check s).bad=true
    ·rw[if_pos k4]at h;unfold aF at h;rw[if_pos k0]at h;cases h
    ·rw[if_neg k4];exact⟨k0,k2.1,k2.2,λ_=>by simpa using k4,by unfold lj;rw[if_pos k3]⟩
   ·rw[if_neg k3];exact⟨k0,k2.1,k2.2,λe=>absurd e k3,by unfold lj;rw[if_neg k3]⟩
def FP (r r':Fr):Fev→Prop
 | .begin' _ _ len=>r.st=0∧r'.st=1∧r'.h.len=len∧r'.told=0
 | .piece s=>r.st≠0∧r.st≠2∧r'={ r with inp:=r.inp.drop s.length,told:=r.told+s.length }∧s.length=min (r.h.len - r.told) r.inp.length∧s.length≠0∧s=df r.h r.told (r.inp.take s.length)
 | .fin=>r.st≠0∧r'.st=0
 | .fail=>r'.st=2
theorem pm {r f:Fr}{e:Fev}(h:az r=(f,some e)):FP r f e:=by
 unfold az at h;split at h
 ·cases h
 ·rename_i g;split at h
  ·rename_i h0;cases a:ej r.inp with
   | none=>rw[a]at h;cases h
   | some x =>
    obtain⟨d,n⟩:=x;rw[a]at h;dsimp only at h;split at h
    ·cases h;exact⟨h0,rfl,rfl,rfl⟩
    ·cases h;exact rfl
  ·rename_i h0;split at h
   ·cases h;exact⟨h0,rfl⟩
   ·split at h
    ·cases h
    ·rename_i i;cases h;have hl:(df r.h r.told (r.inp.take (min (r.h.len - r.told) r.inp.length))).length=min (r.h.len - r.told) r.inp.length:=by
      rw[dI,List.length_take];omega
     refine⟨h0,g,?_,?_,?_,?_⟩
     ·rw[hl]
     ·rw[hl]
     ·rw[hl];exact i
     ·rw[hl]
theorem Wok.step {c c1:Wn}{o:Option Wev}(q:Wok c)(h:ct c=some (c1,o)):Wok c1:=by
 obtain⟨B,r,e,v,w,f⟩:=iN h;have j:=pm v;have i:=congrArg Prod.fst w;dsimp only at i;cases e with
 | fail =>
  have j:r.st=2:=j;subst i;exact⟨λe=>absurd (j.symm.trans (f▸e)) (by decide),λe=>absurd (show(3:Nat)=1 from e) (by decide),by rw[f,j];decide⟩
 | begin' fin op len =>
  obtain⟨k0,k1,k2,k3⟩:=j;have m:=q.a k0;refine⟨λe=>absurd (k1.symm.trans (f▸e)) (by decide),λe1 e2 _=>?_,by rw[f,k1];decide⟩;rw[←i]at e1 e2;rw[f,k2,k3,←i];unfold aq at e1 e2 ⊢;dsimp only at e1 e2 ⊢;split at e2
  ·rename_i g;dsimp only at e2;omega
  ·rename_i g;rw[if_neg g]at e1 ⊢;rw[if_neg (λp=>p m)]at e1 ⊢;split at e1
   ·exact absurd e1 ‹_›
   ·rename_i l;rw[if_neg l];unfold bw at e1 ⊢;dsimp only at e1 ⊢;split at e1
    ·cases e1
    ·rename_i d;rw[if_neg d];have d:=Decidable.not_not.1 d;exact⟨d,qF d⟩
 | fin =>
  obtain⟨k0,k1⟩:=j;refine⟨λ_=>?_,λ_ _ e=>absurd (k1.symm.trans (f▸e)) (by decide),by rw[f,k1];decide⟩;rw[←i];unfold aq bh bw cR;dsimp only
  repeat' split
  all_goals (first | rfl | (rename_i n _;exact Decidable.not_not.1 n) | skip)
  all_goals (show c.control=0;omega)
 | piece s =>
  obtain⟨k0,k1,k2,k3,k4,_⟩:=j;have k:r.st=c.r.st:=by rw[k2]
  refine⟨λe=>absurd (k▸f▸e) k0,λe1 e2 e3=>?_,by rw[f,k];exact q.c⟩;rw[←i]at e1 e2;have n:r.h.len - r.told=c.r.h.len - c.r.told - s.length:=by rw[k2];dsimp only;omega
  rw[f,n,←i];unfold aq at e1 e2 ⊢;dsimp only at e1 e2 ⊢;split at e2
  ·rename_i g;exact absurd e2 g
  ·rename_i g;rw[if_neg g]at e1 ⊢;split at e1
   ·exact absurd e1 ‹_›
   ·rename_i l;rw[if_neg l];obtain⟨C,D,x⟩:=q.b (Decidable.not_not.1 l) (Decidable.not_not.1 g) (by rw[←k,←f];exact e3);unfold bw at e1 ⊢;dsimp only at e1 ⊢;split at e1
    ·cases e1
    ·rename_i d;rw[if_neg d];have d:=Decidable.not_not.1 d;obtain⟨y,t,z,A,u⟩:=fe d;dsimp only;refine⟨d,?_,?_⟩ <;> rw[u]
     ·exact t
     ·exact congrArg (· - s.length) x
def FQ (c d:Wn):Prop:=c=d∨(c.st=3∧d.st=3)
theorem fA {c:Wn}(h:c.control≠0)(s:List UInt8):aq c (.piece s)=({ c with data:=c.data++s },none):=if_pos h
theorem im {c:Wn}(h:¬c.control≠0)(a:c.st≠1)(s:List UInt8):aq c (.piece s)=(c,none):=(if_neg h).trans (if_pos a)
theorem io {c:Wn}(h:¬c.control≠0)(a:¬c.st≠1)(s:List UInt8):aq c (.piece s)=if (aA c.j s).bad≠0 then cR { c with j:=aA c.j s } (aA c.j s).bad else({ c with j:=aA c.j s },none):=(if_neg h).trans (if_neg a)
theorem fV {j:Jn}{s:List UInt8}(h0:j.bad=0)(a:j.begun=true)(e:s.length≤j.lacks)(h:(aA j s).bad≠0):(aA j s).bad=1007∧j.op=1∧(bG j.check s).bad=true:=by
 unfold aA at h ⊢;rw[if_neg (λd=>d h0)]at h ⊢;rw[if_neg (by simp[a];omega)]at h ⊢;by_cases k:j.op=1
 ·rw[if_pos k]at h ⊢;by_cases k2:(bG j.check s).bad=true
  ·rw[if_pos k2];unfold aF;rw[if_pos h0];exact⟨rfl,k,k2⟩
  ·rw[if_neg k2]at h;exact absurd h0 h
 ·rw[if_neg k]at h;exact absurd h0 h
theorem jb {j:Jn}{s:List UInt8}(h0:j.bad=0)(a:j.begun=true)(g:s.length≤j.lacks)(d:j.op=1)(e:(bG j.check s).bad=true):(aA j s).bad=1007:=by
 unfold aA;rw[if_neg (λf=>f h0),if_neg (by simp[a];omega),if_pos d,if_pos e];unfold aF;rw[if_pos h0]
theorem ss {k:Uk}{s:List UInt8}(t:List UInt8)(h:(bG k s).bad=true):(bG k (s++t)).bad=true:=by
 rw[gi,em _ h];exact h
theorem yT (c:Wn)(s t:List UInt8)(o:c.control=0→c.st=1→c.j.bad=0∧c.j.begun=true∧s.length+t.length≤c.j.lacks)(k:c.st≠3) :
  ((aq c (.piece s)).1.st≠3∧(aq c (.piece s)).2=none∧(aq (aq c (.piece s)).1 (.piece t)).2=(aq c (.piece (s++t))).2∧FQ (aq (aq c (.piece s)).1 (.piece t)).1 (aq c (.piece (s++t))).1) ∨
  ((aq c (.piece s)).1.st=3∧(aq c (.piece (s++t))).1.st=3∧(aq c (.piece (s++t))).2=(aq c (.piece s)).2):=by
 by_cases a:c.control≠0
 ·left;rw[fA a,fA a,fA (c:={ c with data:=c.data++s }) a];exact⟨k,rfl,rfl,.inl (by simp only[List.append_assoc])⟩
 ·by_cases d:c.st≠1
  ·left;rw[im a d,im a d,im a d];exact⟨k,rfl,rfl,.inl rfl⟩
  ·obtain⟨e,f,r⟩:=o (Decidable.not_not.1 a) (Decidable.not_not.1 d);have l:(s++t).length≤c.j.lacks:=(by rw[qw];exact r);rw[io a d,io a d];by_cases g:(aA c.j s).bad≠0
   ·right;obtain⟨k1,k2,k3⟩:=fV e f (by omega) g;have k4:=jb e f l k2 (ss t k3);rw[if_pos g,if_pos (by rw[k4];decide),k1,k4];exact⟨rfl,rfl,rfl⟩
   ·left;obtain⟨_,_,_,v,m⟩:=fe (Decidable.not_not.1 g);rw[if_neg g];rw[io (c:={ c with j:=aA c.j s }) a d];dsimp only;rw[m];refine⟨k,rfl,?_⟩;have e0:(lj c.j s).bad=0:=e;have e1:(lj c.j s).begun=true:=f;have e2:t.length≤(lj c.j s).lacks:=show t.length≤c.j.lacks - s.length by omega
    have e3:(lj c.j s).op=c.j.op:=rfl;have e4:c.j.op=1→(lj c.j s).check=bG c.j.check s:=λh=>if_pos h;by_cases i:(aA (lj c.j s) t).bad≠0
    ·obtain⟨k1,k2,k3⟩:=fV e0 e1 e2 i;have k2:c.j.op=1:=k2;rw[e4 k2,←gi]at k3;have k4:=jb e f l k2 k3;rw[if_pos i,if_pos (by rw[k4];decide),k1,k4];exact⟨rfl,.inr ⟨rfl,rfl⟩⟩
    ·obtain⟨_,_,_,p,q⟩:=fe (Decidable.not_not.1 i);have hn:¬(aA c.j (s++t)).bad≠0:=by
      intro n;obtain⟨_,k2,k3⟩:=fV e f l n;have:=p k2;rw[e4 k2,←gi,k3]at this;cases this
     obtain⟨_,_,_,_,u⟩:=fe (Decidable.not_not.1 hn);rw[if_neg i,if_neg hn,q,u,BJ];exact⟨rfl,.inl rfl⟩
def iZ (c:Wn)(b:List UInt8):Wn:={ c with r:=bp c.r b }
theorem fj {c:Wn}(h:c.st≠3)(b:List UInt8):aN c b=iZ c b:=if_neg h
theorem dL {c:Wn}(h:c.st=3)(b:List UInt8):aN c b=c:=if_pos h
theorem mX (r:Fr):bp r []=r:=by unfold bp;split <;> simp
theorem uT (c:Wn):aN c []=c:=by unfold aN;rw[mX];split <;> rfl
theorem Drains.over_is {c:Wn}{l:List Wev}{d:Wn}(f:c.st=3)(h:Drains c l d):l=[]∧d=c:=by
 obtain⟨a,e⟩:=h.det (Drains.over f);exact⟨a,e⟩
theorem Drains.cons {c c1 d:Wn}{o:Option Wev}{l:List Wev}(h:ct c=some (c1,o))(k:Drains c1 l d):Drains c (o.toList++l) d:=by
 cases o with
 | none=>exact .quiet h k
 | some e=>exact .tells h k
theorem Drains.uncons {c c1 d:Wn}{o:Option Wev}{l:List Wev}(h:ct c=some (c1,o))(k:Drains c l d):∃m,l=o.toList++m∧Drains c1 m d:=by
 cases k with
 | stop e=>rw[h]at e;cases e
 | quiet e r=>rw[h]at e;cases e;exact⟨_,rfl,r⟩
 | tells e r=>rw[h]at e;cases e;exact⟨_,rfl,r⟩
theorem lM:∀(n:Nat) (c:Wn) (l:List Wev) (c1:Wn),cD c<n→Drains c l c1→Wok c→∀b,∃m d z,Drains (aN c1 b) m d∧Drains (aN c b) (l++m) z∧FQ d z
 | 0,_,_,_,h,_,_,_=>absurd h (Nat.not_lt_zero _)
 | n+1,c,l,c1,hn,hd,hw,b=>by
  cases e:ct c with
  | none =>
   obtain⟨rfl,rfl⟩:=hd.det (.stop e);obtain⟨m,d,hm⟩:=Drains.ex _ (aN c1 b) (Nat.lt_succ_self _);exact⟨m,d,d,hm,hm,.inl rfl⟩
  | some x =>
   obtain⟨c2,o⟩:=x;obtain⟨l2,rfl,q⟩:=Drains.uncons e hd;have O:=hw.step e;have a:=eI e;obtain⟨A,r,T,f,Y,N⟩:=iN e;rw[fj A];by_cases hl:c.r.st≠0→c.r.h.len - c.r.told≤c.r.inp.length
   ·have e2:ct (iZ c b)=some (iZ c2 b,o):=by
     rw[iO (c:=iZ c b) A (sp f b hl)];have:=gp { c with r:=r } T (bp r b);rw[Y]at this;rw[show({ iZ c b with r:=bp r b }:Wn)={ ({ c with r:=r }:Wn)with r:=bp r b }from rfl,this,←N];rfl
    by_cases g:c2.st=3
    ·obtain⟨rfl,rfl⟩:=q.over_is g;rw[dL g];exact⟨[],c1,iZ c1 b,.over g,by rw[List.append_nil];exact Drains.cons e2 (.over (c:=iZ c1 b) g),.inr ⟨g,g⟩⟩
    ·obtain⟨m,d,z,k1,k2,k3⟩:=lM n c2 l2 c1 (by omega) q O b;rw[fj g]at k2;exact⟨m,d,z,k1,by rw[List.append_assoc];exact Drains.cons e2 k2,k3⟩
   ·have i:c.r.st≠0:=λh=>hl (λk=>absurd h k);have a4:c.r.inp.length<c.r.h.len - c.r.told:=by
     rcases Nat.lt_or_ge c.r.inp.length (c.r.h.len - c.r.told)with h | h
     ·exact h
     ·exact absurd (λ_=>h) hl
    have y:c.r.st=1:=by
     have:=hw.c;have U:c.r.st≠2:=by
      intro U;unfold az at f;rw[if_pos U]at f;cases f
     omega
    have B:=pm f;cases T with
    | begin' fin op len=>exact absurd B.1 i
    | fail =>
     have B:r.st=2:=B;unfold az at f;rw[if_neg (by omega),if_neg i]at f;split at f
     ·cases f
     ·split at f <;> cases f
    | fin =>
     exfalso;unfold az at f;rw[if_neg (by omega),if_neg i]at f;split at f
     ·rename_i hz;omega
     ·split at f <;> cases f
    | piece s =>
     obtain⟨_,_,k2,k3,k4,k5⟩:=B;have w:s.length=c.r.inp.length:=(by omega);by_cases X:b=[]
     ·subst X;refine⟨[],c1,c1,?_,?_,.inl rfl⟩
      ·rw[uT];exact .stop hd.stuck
      ·rw[List.append_nil];have:iZ c []=c:=(by unfold iZ;rw[mX]);rw[this];exact hd
     ·have a0:0<b.length:=List.length_pos_iff.2 X;generalize a3:min (c.r.h.len - c.r.told - c.r.inp.length) b.length=n2;generalize L:df c.r.h (c.r.told+c.r.inp.length) (b.take n2)=t;have a5:t.length=n2:=(by rw[←L,dI,List.length_take];omega);generalize V:({ c.r with inp:=b.drop n2,told:=c.r.told+c.r.inp.length+n2 }:Fr)=R;have hs:s=df c.r.h c.r.told c.r.inp:=(by rw[k5,w,List.take_length]);have v:r={ c.r with inp:=[],told:=c.r.told+c.r.inp.length }:=(by rw[k2,w,List.drop_length]);have p:c.r.st≠2:=(by omega);have f1:az (bp c.r b)=(R,some (.piece (s++t))):=by
       have hf:bp c.r b={ c.r with inp:=c.r.inp++b }:=if_neg p;have hm:min (c.r.h.len - c.r.told) (c.r.inp++b).length=c.r.inp.length+n2:=(by rw[qw];omega);rw[hf];unfold az;dsimp only;rw[if_neg p,if_neg i,if_neg (by omega),hm,if_neg (by omega)];have e1:(c.r.inp++b).take (c.r.inp.length+n2)=c.r.inp++b.take n2:=by
        rw[List.take_append,List.take_of_length_le (by omega),show c.r.inp.length+n2 - c.r.inp.length=n2 by omega]
       have e2:(c.r.inp++b).drop (c.r.inp.length+n2)=b.drop n2:=by
        rw[List.drop_append,List.drop_of_length_le (by omega),List.nil_append,show c.r.inp.length+n2 - c.r.inp.length=n2 by omega]
       rw[e1,e2,yd,←hs,L,←V,Nat.add_assoc]
      have f2:az (bp r b)=(R,some (.piece t)):=by
       have hf:bp r b={ c.r with inp:=b,told:=c.r.told+c.r.inp.length }:=(by rw[v];exact if_neg p);have hm:min (c.r.h.len - (c.r.told+c.r.inp.length)) b.length=n2:=(by omega);rw[hf];unfold az;dsimp only;rw[if_neg p,if_neg i,if_neg (by omega),hm,if_neg (by omega),L,←V]
      have hj:c.control=0→c.st=1→c.j.bad=0∧c.j.begun=true∧s.length+t.length≤c.j.lacks:=λa1 a2=>by
       obtain⟨b1,b2,b3⟩:=hw.b a2 a1 y;exact⟨b1,b2,by rw[b3];omega⟩
      have F:aq { c with r:=r } (.piece s)=({ (aq c (.piece s)).1 with r:=r },(aq c (.piece s)).2):=gp c _ r;rw[Y]at F;have H:c2={ (aq c (.piece s)).1 with r:=r }:=congrArg Prod.fst F;have I:o=(aq c (.piece s)).2:=congrArg Prod.snd F;have D:ct (iZ c b)=some ({ (aq c (.piece (s++t))).1 with r:=R },(aq c (.piece (s++t))).2):=by
       rw[iO (c:=iZ c b) A f1];exact congrArg some (gp c _ R)
      rcases yT c s t hj A with⟨P,C,S,u⟩ | ⟨P,C,S⟩
      ·have a:c2.st≠3:=(by rw[H];exact P);have M:ct c2=none:=by
        unfold ct;rw[if_neg a];have:az c2.r=(c2.r,none):=by
         rw[N,v];unfold az;dsimp only;rw[if_neg p,if_neg i,if_neg (by omega),if_pos (by rw[List.length_nil];omega)]
        rw[this]
       obtain⟨rfl,rfl⟩:=q.det (.stop M);rw[C]at I;subst I;have E:ct (aN c1 b)=some ({ (aq (aq c (.piece s)).1 (.piece t)).1 with r:=R },(aq (aq c (.piece s)).1 (.piece t)).2):=by
        rw[fj a,iO (c:=iZ c1 b) a (by rw[show(iZ c1 b).r=bp r b by rw[←N];rfl];exact f2)];rw[show({ iZ c1 b with r:=R }:Wn)={ (aq c (.piece s)).1 with r:=R } by rw[H];rfl];exact congrArg some (gp _ _ R)
       rw[S]at E;rcases u with u | ⟨u,Z⟩
       ·rw[u]at E;obtain⟨m,d,hm⟩:=Drains.ex _ ({ (aq c (.piece (s++t))).1 with r:=R }:Wn) (Nat.lt_succ_self _);exact⟨_,d,d,Drains.cons E hm,Drains.cons D hm,.inl rfl⟩
       ·exact⟨_,_,_,Drains.cons E (.over u),Drains.cons D (.over Z),.inr ⟨u,Z⟩⟩
      ·have a:c2.st=3:=(by rw[H];exact P);obtain⟨rfl,rfl⟩:=q.over_is a;rw[dL a];rw[S,←I]at D;refine⟨[],c1,{ (aq c (.piece (s++t))).1 with r:=R },.over a,?_,.inr ⟨a,C⟩⟩;rw[List.append_nil];exact Drains.cons D (.over (c:={ (aq c (.piece (s++t))).1 with r:=R }) C)
structure FrB (n:Nat)(r:Fr):Prop where
 i:r.inp.length≤n
 h:r.h.len≤9223372036854775807
 t:r.told≤r.h.len
 s:r.st≤2
def oI:Fev→Nat
 | .piece s=>s.length
 | _=>0
def EV:Fev→Prop
 | .begin' _ _ n=>n≤9223372036854775807
 | _=>True
theorem BK {m:Bool}{h:Hd}(e:mF m h=true):h.len≤9223372036854775807:=by
 unfold mF at e;simp only[Bool.and_eq_true,decide_eq_true_eq]at e;exact e.2.2.2.2.2
theorem su {n:Nat}{r a:Fr}(h:az r=(a,none)):a=r:=by
 unfold az at h;split at h
 ·cases h;rfl
 ·split at h
  ·split at h
   ·cases h;rfl
   ·split at h <;> cases h
  ·split at h
   ·cases h
   ·split at h <;> cases h;rfl
theorem FrB.next {n:Nat}{r d:Fr}{e:Fev}(j:FrB n r)(h:az r=(d,some e)):FrB (n - oI e) d∧d.inp.length+oI e≤r.inp.length∧EV e:=by
 obtain⟨g,a,f,i⟩:=j;unfold az at h;split at h
 ·cases h
 ·split at h
  ·split at h
   ·cases h
   ·rename_i k m l;split at h
    ·rename_i hm;have:=BK hm;cases h;refine⟨⟨?_,this,qx _,(by decide:(1:Nat)≤2)⟩,?_,this⟩ <;> simp only[oI,List.length_drop] <;> omega
    ·cases h;refine⟨⟨qx _,a,f,qv _⟩,qx _,trivial⟩
  ·split at h
   ·cases h;exact⟨⟨g,a,f,qx _⟩,qv _,trivial⟩
   ·split at h
    ·cases h
    ·cases h;refine⟨⟨?_,a,?_,i⟩,?_,trivial⟩
     ·simp only[oI,dI,List.length_take,List.length_drop];omega
     ·dsimp only;omega
     ·simp only[oI,dI,List.length_take,List.length_drop];omega
structure WnB (n:Nat)(c:Wn):Prop where
 r:FrB n c.r
 d:c.r.inp.length+c.data.length≤n
theorem WnB.le {n m:Nat}{c:Wn}(h:WnB n c)(hm:n≤m):WnB m c:=⟨⟨qy h.r.i hm,h.r.h,h.r.t,h.r.s⟩,qy h.d hm⟩
theorem FR (limit:Nat):WnB 0 (wn0 limit):=⟨⟨qv _,qx _,qv _,(by decide:(0:Nat)≤2)⟩,qv _⟩
theorem WnB.feed {n:Nat}{c:Wn}(h:WnB n c)(b:List UInt8):WnB (n+b.length) (aN c b):=by
 unfold aN;split
 ·exact h.le (Nat.le_add_right _ _)
 ·unfold bp;split
  ·exact h.le (Nat.le_add_right _ _)
  ·have a:=h.r.i;have e:=h.d;refine⟨⟨?_,h.r.h,h.r.t,h.r.s⟩,?_⟩ <;> simp only[qw] <;> omega
theorem WnB.over {n:Nat}{c:Wn}(h:WnB n c):WnB n (ia c):=⟨h.r,h.d⟩
theorem WnB.shut {n:Nat}{c:Wn}(h:WnB n c):WnB n (cS c):=by
 unfold cS;split
 ·exact⟨h.r,h.d⟩
 ·exact h
theorem qG (c:Wn)(e:Fev):(aq c e).1.r=c.r∧(aq c e).1.data.length≤c.data.length+oI e:=by
 unfold aq bh bw cR;cases e <;> dsimp only[oI] <;> (repeat' split) <;> first | exact⟨rfl,qv _⟩ | exact⟨rfl,Nat.le_add_right _ _⟩ | exact⟨rfl,by simp⟩
theorem WnB.step {n:Nat}{c:Wn}{r:Fr}{e:Fev}(h:WnB n c)(hn:az c.r=(r,some e)):WnB n (aq { c with r:=r } e).1∧EV e∧c.data.length+oI e≤n∧r.inp.length+oI e≤c.r.inp.length:=by
 obtain⟨a,f,g⟩:=h.r.next hn;obtain⟨k1,k2⟩:=qG { c with r:=r } e;have j:=h.d;dsimp only at k1 k2;refine⟨⟨by rw[k1];exact⟨by have:=a.i;omega,a.h,a.t,a.s⟩,by rw[k1];omega⟩,g,by omega,f⟩
theorem WnB.go {n:Nat}:∀(m:Nat) (c:Wn),WnB n c→WnB n (kN m c).1
 | 0,c,h=>h
 | m+1,c,h=>by
  unfold kN;split
  ·exact h
  ·cases hn:az c.r with
   | mk r o =>
    cases o with
    | none =>
     have:=su (n:=0) hn;subst this;exact h
    | some e =>
     have hs:=(h.step hn).1;dsimp only;split
     ·rename_i c' x a;rw[a]at hs;exact hs
     ·rename_i c' a;rw[a]at hs;exact WnB.go m c' hs
theorem WnB.next {n:Nat}{c:Wn}(h:WnB n c):WnB n (bP c).1:=WnB.go _ c h
attribute [local go_sem] Oper.semAt_some
theorem mY (k:Nat)(x:Option Wev):∃(a1 a2 a3:Int) (s:ByteArray),bn k x=.agg #[.int .i64 a1,.int .i64 a2,.int .i64 a3,.string s]:=by
 cases x with
 | none=>exact⟨_,_,_,_,rfl⟩
 | some y=>cases y <;> exact⟨_,_,_,_,rfl⟩
section
variable {b R J:Nat} {TJ:Nat→Prop} {W:World} {c:Wn}
theorem WjPost.of {x:Wn×Option Wev}{e:Ending}{a:World}(k:WnS b R J TJ W c)(f:Nat)(g:e=.returned (.tuple #[bn f x.2,.bool x.2.isSome]))(h:WnS b R J TJ a x.1)(d:Ch (λi=>i=b) W a):WjPost b R J TJ W x e a :=
 ⟨⟨f,g⟩,k.widen h d.size (λ_ e=>.inl e),d.mono λ_ e=>.inl e⟩
theorem uU (w:World)(M:Nat)(d e f g:Value):Ch (λi=>i=M) w ((((w.setCell ⟨M,0,none⟩ d).setCell ⟨M,1,none⟩ e).setCell ⟨M,2,none⟩ f).setCell ⟨M,3,none⟩ g) :=
 (((Ch.setCell (T:=λi=>i=M) w (a:=⟨M,0,none⟩) rfl _).trans (Ch.setCell (T:=λi=>i=M) _ (a:=⟨M,1,none⟩) rfl _)).trans (Ch.setCell (T:=λi=>i=M) _ (a:=⟨M,2,none⟩) rfl _)).trans (Ch.setCell (T:=λi=>i=M) _ (a:=⟨M,3,none⟩) rfl _)
theorem WnS.toldJ {W0 a w':World}{c':Wn}{M:Nat}(k:WnS b R J TJ W c)(g:Gr W W0)(hM:W.heap.size+1=M)(hs:W0.heap.size=W.heap.size+2)(h:WnS b R J (Add TJ W0 a) a c')(f:Ch (λi=>i=b∨TJ i) W0 a)(d:Ch (λi=>i=M) a w') :
  WnS b R J (Add TJ W w') w' c'∧Ch (λi=>i=b∨TJ i) W w':=by
 have m:=k.lt;have l:=k.r.lt;have n:=f.size;have o:=d.size;have q:=h.ch d (by omega) (by omega) (λi e e2=>by
  rcases e with e3 | e3
  ·have:=(cZ J).lt k.j i e3;omega
  ·have:=e3.1;omega)
 exact⟨k.widen q (by omega) (λi e=>e.imp_right λe3=>⟨by have:=e3.1;omega,by have:=e3.2;omega⟩),((g.to_ch _).trans f).drop_new d (λi e=>.inr (by omega))⟩
theorem WjPost.of2 {x:Wn×Option Wev}{e:Ending}{a:World}(k:WnS b R J TJ W c)(f:Nat)(g:e=.returned (.tuple #[bn f x.2,.bool x.2.isSome]))(d:WnS b R J TJ a x.1∧Ch (λi=>i=b) W a):WjPost b R J TJ W x e a:=WjPost.of k f g d.1 d.2
theorem mZ (k:WnS b R J TJ W c)(f:Bool)(o n:Nat)(s:8≤o) :
  Calls prog 97 #[.pointer (some ⟨b,0,none⟩),(Fev.begin' f o n).V] W (WjPost b R J TJ W (aq c (.begin' f o n))):=by
 obtain⟨W0,h⟩:∃W0,wc0 W 1 o f n []=W0:=⟨_,rfl⟩;obtain⟨M,hM⟩:∃M,W.heap.size+1=M:=⟨_,rfl⟩;have z:=fy k 1 o f n [];rw[h,hM]at z;have z':=qq z;have e0:=z.e0;have e4:=z.e4;have m0:=z.m0;have m1:=z.m1;have m2:=z.m2;have m3:=z.m3;have mz:=z.mz;have c2:=z.k.c2;have c3:=z.k.c3;have c4:=z.k.c4;have fz:=z.k.fz;have j:=k.lt;have d:b≠M:=by omega
 have q:b≠W.heap.size:=by omega
 have r:b<W0.heap.size:=z.k.lt;have p:M<W0.heap.size:=ae m0;have m:W.heap.size<W0.heap.size:=ae e0;have l:=qq k;have e:=qq hM;clear k j z;have w:=qq (show aq c (.begin' f o n)=({ c with control:=o,data:=[] },none)from if_pos s);have e1:=z'.out.e1;have t:((o:Int)<8)=False:=by simp;omega
 have u:((8:Int)≤o)=True:=by simp;omega
 unfold Fev.V;go_enter func97,ntmps97;go_wp2;refine bodyPost_ret (v:=.tuple #[bn 0 none,.bool false]) (by simp[results,results97,go_sem,bn,m0,m1,m2,m3,d,Ne.symm d]) rfl ?_;rw[w.out];exact WjPost.of2 l.out 0 rfl (l.out.tells z'.out.g e.out ((z'.out.k.setControl o).setData []) ((Ch.setCell (T:=λi=>i=b) W0 (a:=⟨b,3,none⟩) rfl _).trans (Ch.setCell (T:=λi=>i=b) _ (a:=⟨b,4,none⟩) rfl _)) ((((Ch.setCell (T:=λi=>i=M) _ (a:=⟨M,0,none⟩) rfl _).trans (Ch.setCell (T:=λi=>i=M) _ (a:=⟨M,1,none⟩) rfl _)).trans (Ch.setCell (T:=λi=>i=M) _ (a:=⟨M,2,none⟩) rfl _)).trans (Ch.setCell (T:=λi=>i=M) _ (a:=⟨M,3,none⟩) rfl _)))
theorem sv (k:WnS b R J TJ W c) :
  Calls prog 97 #[.pointer (some ⟨b,0,none⟩),Fev.fail.V] W (WjPost b R J TJ W (aq c .fail)):=by
 obtain⟨W0,i⟩:∃W0,wc0 W 4 0 false 0 []=W0:=⟨_,rfl⟩;obtain⟨M,hM⟩:∃M,W.heap.size+1=M:=⟨_,rfl⟩;have z:=fy k 4 0 false 0 [];have A:=qq (show W0.heap.size=W.heap.size+2 by rw[←i];simp);rw[i,hM]at z;have z':=qq z;have e0:=z.e0;have e1:=z.e1;have e2:=z.e2;have e3:=z.e3;have e4:=z.e4;have m0:=z.m0;have m1:=z.m1;have m2:=z.m2;have m3:=z.m3;have mz:=z.mz;have c2:=z.k.c2;have c3:=z.k.c3;have s:=k.lt;have h:b≠M:=by omega
 have y:b≠W.heap.size:=by omega
 have x:M≠W.heap.size:=by omega
 have r:b<W0.heap.size:=z.k.lt;have d:M<W0.heap.size:=ae m0;have n:W.heap.size<W0.heap.size:=ae e0;have u:=qq k;have q:=qq hM;have hf:=qq (fx z.k 1002);clear k s z;unfold Fev.V;go_enter func97,ntmps97;go_wp2_with fail;refine hf.out.mono ?_;rintro e t⟨rfl,l,a⟩;unfold bn;have f:¬(M=b):=λe=>h e.symm;replace m0:=(a.cell (p:=⟨M,0,none⟩) d f).trans m0;replace m1:=(a.cell (p:=⟨M,1,none⟩) d f).trans m1;replace m2:=(a.cell (p:=⟨M,2,none⟩) d f).trans m2;replace m3:=(a.cell (p:=⟨M,3,none⟩) d f).trans m3;replace mz:∀o,t.frozen? ⟨M,o,none⟩=false:=λo=>(a.frozen (p:=⟨M,o,none⟩) d f).trans (mz o);have w:M<t.heap.size:=ae m0;have m:=qq l;have j:=qq a;clear a l d r n c2 c3 e0 e1 e2 e3 e4;go_wp2;refine bodyPost_ret (v:=.tuple #[bn 0 (some (.failing 1002)),.bool true]) (by simp[results,results97,go_sem,bn,m0,m1,m2,m3,h,Ne.symm h]) rfl ?_;exact WjPost.of2 u.out 0 rfl (u.out.tells z'.out.g q.out m.out j.out (uU t M _ _ _ _))
theorem jA (k:WnS b R J TJ W c){j o n:Int}{f:Bool}{t:List UInt8}(N:(j=1∧o<8)∨j=2∨j=3)(x:Wn×Option Wev)(L:c.control≠0)
  (m:∀W0,WnS b R J TJ W0 c→Calls prog 122 #[.pointer (some ⟨b,0,none⟩),.agg #[.int .i64 j,.int .i64 o,.bool f,.int .i64 n,.string ⟨t.toArray⟩]] W0 (il b R J TJ W0 x)) :
  Calls prog 97 #[.pointer (some ⟨b,0,none⟩),.agg #[.int .i64 j,.int .i64 o,.bool f,.int .i64 n,.string ⟨t.toArray⟩]] W (WjPost b R J TJ W x):=by
 obtain⟨W0,l⟩:∃W0,wc0 W j o f n t=W0:=⟨_,rfl⟩;obtain⟨M,hM⟩:∃M,W.heap.size+1=M:=⟨_,rfl⟩;have z:=fy k j o f n t;have O:=qq (show W0.heap.size=W.heap.size+2 by rw[←l];simp);rw[l,hM]at z;have z':=qq z;have e0:=z.e0;have e1:=z.e1;have e2:=z.e2;have e3:=z.e3;have e4:=z.e4;have m0:=z.m0;have m1:=z.m1;have m2:=z.m2;have m3:=z.m3;have mz:=z.mz;have c2:=z.k.c2;have c3:=z.k.c3;have C:=k.lt;have i:b≠M:=by omega
 have I:b≠W.heap.size:=by omega
 have H:M≠W.heap.size:=by omega
 have B:b<W0.heap.size:=z.k.lt;have d:M<W0.heap.size:=ae m0;have u:W.heap.size<W0.heap.size:=ae e0;have E:=qq k;have w:=qq hM;have hf:=qq (m W0 z.k);have T:((c.control:Int) != 0)=true:=bne_iff_ne.2 (by omega);clear k C z m L;rcases N with⟨rfl,S⟩ | rfl | rfl;all_goals
  go_enter func97,ntmps97;go_wp2_with fail;refine hf.out.mono ?_;rintro e D⟨rfl,r,a⟩;obtain⟨a1,a2,a3,P,y⟩:=mY 0 x.2;have A:=qq y;rw[y];have h:¬(M=b):=λe=>i e.symm;replace m0:=(a.cell (p:=⟨M,0,none⟩) d h).trans m0;replace m1:=(a.cell (p:=⟨M,1,none⟩) d h).trans m1;replace m2:=(a.cell (p:=⟨M,2,none⟩) d h).trans m2;replace m3:=(a.cell (p:=⟨M,3,none⟩) d h).trans m3;replace mz:∀o,D.frozen? ⟨M,o,none⟩=false:=λo=>(a.frozen (p:=⟨M,o,none⟩) d h).trans (mz o);have F:M<D.heap.size:=ae m0;have s:=qq r;have q:=qq a;clear a r d B u c2 c3 e0 e1 e2 e3 e4 y;go_wp2;refine bodyPost_ret (v:=.tuple #[.agg #[.int .i64 a1,.int .i64 a2,.int .i64 a3,.string P],.bool x.2.isSome]) (by simp[results,results97,go_sem,bn,m0,m1,m2,m3,i,Ne.symm i]) rfl ?_;exact WjPost.of2 E.out 0 (by rw[A.out]) (E.out.tells z'.out.g w.out s.out q.out (uU D M _ _ _ _))
theorem ip (k:WnS b R J TJ W c){a o n:Int}{f:Bool}{t:List UInt8}(u:(a=1∧o<8)∨a=2∨a=3)(j:c.control=0)(hs:c.st≠1) :
  Calls prog 97 #[.pointer (some ⟨b,0,none⟩),.agg #[.int .i64 a,.int .i64 o,.bool f,.int .i64 n,.string ⟨t.toArray⟩]] W (WjPost b R J TJ W (c,none)):=by
 obtain⟨W0,e⟩:∃W0,wc0 W a o f n t=W0:=⟨_,rfl⟩;obtain⟨M,hM⟩:∃M,W.heap.size+1=M:=⟨_,rfl⟩;have z:=fy k a o f n t;have w:=qq (show W0.heap.size=W.heap.size+2 by rw[←e];simp);rw[e,hM]at z;have z':=qq z;have e0:=z.e0;have e1:=z.e1;have e2:=z.e2;have e3:=z.e3;have e4:=z.e4;have m0:=z.m0;have m1:=z.m1;have m2:=z.m2;have m3:=z.m3;have mz:=z.mz;have c2:=z.k.c2;have c3:=z.k.c3;have i:=k.lt;have d:b≠M:=by omega
 have r:b≠W.heap.size:=by omega
 have p:M≠W.heap.size:=by omega
 have s:b<W0.heap.size:=z.k.lt;have q:M<W0.heap.size:=ae m0;have m:W.heap.size<W0.heap.size:=ae e0;have l:=qq k;have h:=qq hM;have y:((c.st:Int) != 1)=true:=bne_iff_ne.2 (by omega);rw[j]at c3;clear k i z j hs;rcases u with⟨rfl,x⟩ | rfl | rfl;all_goals
  go_enter func97,ntmps97;go_wp2;refine bodyPost_ret (v:=.tuple #[bn 0 none,.bool false]) (by simp[results,results97,go_sem,bn,m0,m1,m2,m3,d,Ne.symm d]) rfl ?_;exact WjPost.of2 l.out 0 rfl (l.out.tells z'.out.g h.out z'.out.k (Ch.refl _ _) (uU W0 M _ _ _ _))
theorem iq (k:WnS b R J TJ W c){l o n:Int}{f:Bool}{t:List UInt8}(S:(l=1∧o<8)∨l=2∨l=3)(x:Wn×Option Wev)(I:c.control=0)(hs:c.st=1)
  (q:∀W0,WnS b R J TJ W0 c→Calls prog 123 #[.pointer (some ⟨b,0,none⟩),.agg #[.int .i64 l,.int .i64 o,.bool f,.int .i64 n,.string ⟨t.toArray⟩]] W0 (WjPost b R J TJ W0 x)) :
  Calls prog 97 #[.pointer (some ⟨b,0,none⟩),.agg #[.int .i64 l,.int .i64 o,.bool f,.int .i64 n,.string ⟨t.toArray⟩]] W (WjPost b R J TJ W x):=by
 obtain⟨W0,m⟩:∃W0,wc0 W l o f n t=W0:=⟨_,rfl⟩;obtain⟨M,hM⟩:∃M,W.heap.size+1=M:=⟨_,rfl⟩;have z:=fy k l o f n t;have F:=qq (show W0.heap.size=W.heap.size+2 by rw[←m];simp);rw[m,hM]at z;have z':=qq z;have e0:=z.e0;have e1:=z.e1;have e2:=z.e2;have e3:=z.e3;have e4:=z.e4;have m0:=z.m0;have m1:=z.m1;have m2:=z.m2;have m3:=z.m3;have mz:=z.mz;have c2:=z.k.c2;have c3:=z.k.c3;have E:=k.lt;have i:b≠M:=by omega
 have P:b≠W.heap.size:=by omega
 have O:M≠W.heap.size:=by omega
 have D:b<W0.heap.size:=z.k.lt;have d:M<W0.heap.size:=ae m0;have w:W.heap.size<W0.heap.size:=ae e0;have T:=qq k;have y:=qq hM;have hf:=qq (q W0 z.k);rw[I]at c3;rw[hs]at c2;have A:¬TJ M:=λe=>by have:=(cZ J).lt k.j M e;omega
 clear k E z q I hs;rcases S with⟨rfl,V⟩ | rfl | rfl;all_goals
  go_enter func97,ntmps97;go_wp2_with fail;refine hf.out.mono ?_;rintro e H⟨⟨L,rfl⟩,s,a⟩;obtain⟨a1,a2,a3,U,B⟩:=mY L x.2;have C:=qq B;rw[B];have h:¬(M=b∨TJ M):=λe=>e.elim (λe=>i e.symm) A;replace m0:=(a.cell (p:=⟨M,0,none⟩) d h).trans m0;replace m1:=(a.cell (p:=⟨M,1,none⟩) d h).trans m1;replace m2:=(a.cell (p:=⟨M,2,none⟩) d h).trans m2;replace m3:=(a.cell (p:=⟨M,3,none⟩) d h).trans m3;replace mz:∀o,H.frozen? ⟨M,o,none⟩=false:=λo=>(a.frozen (p:=⟨M,o,none⟩) d h).trans (mz o);have N:M<H.heap.size:=ae m0;have u:=qq s;have r:=qq a;clear a s d D w c2 c3 e0 e1 e2 e3 e4 B;go_wp2;refine bodyPost_ret (v:=.tuple #[.agg #[.int .i64 a1,.int .i64 a2,.int .i64 a3,.string U],.bool x.2.isSome]) (by simp[results,results97,go_sem,bn,m0,m1,m2,m3,i,Ne.symm i]) rfl ?_;exact⟨⟨L,by rw[C.out]⟩,T.out.toldJ z'.out.g y.out F.out u.out r.out (uU H M _ _ _ _)⟩
theorem uV (k:WnS b R J TJ W c)(e:Fev)(h:EV e)(d:c.data.length+oI e≤4611686018427387900) :
  Calls prog 97 #[.pointer (some ⟨b,0,none⟩),e.V] W (WjPost b R J TJ W (aq c e)):=by
 cases e with
 | fail=>exact sv k
 | begin' f o n =>
  by_cases g:8≤o
  ·exact mZ k f o n g
  ·rw[show aq c (.begin' f o n)=if 8≤o then({ c with control:=o,data:=[] },none) else if c.control≠0 then bh c (.begin' f o n) else if c.st≠1 then(c,none) else bw c (.begin' f o n)from rfl,if_neg g];by_cases a:c.control=0
   ·rw[if_neg (λe=>e a)];by_cases hs:c.st=1
    ·rw[if_neg (λe=>e hs)];exact iq k (.inl ⟨rfl,by omega⟩) _ a hs (λW0 k0=>jz k0 (.begin' f o n) h)
    ·rw[if_pos hs];exact ip k (.inl ⟨rfl,by omega⟩) a hs
   ·rw[if_pos a];exact jA k (.inl ⟨rfl,by omega⟩) _ a (λW0 k0=>fU k0 (.begin' f o n) d)
 | piece s =>
  rw[show aq c (.piece s)=if c.control≠0 then bh c (.piece s) else if c.st≠1 then(c,none) else bw c (.piece s)from rfl];by_cases a:c.control=0
  ·rw[if_neg (λe=>e a)];by_cases hs:c.st=1
   ·rw[if_neg (λe=>e hs)];exact iq k (.inr (.inl rfl)) _ a hs (λW0 k0=>jz k0 (.piece s) (qy (Nat.le_add_left _ _) d))
   ·rw[if_pos hs];exact ip k (.inr (.inl rfl)) a hs
  ·rw[if_pos a];exact jA k (.inr (.inl rfl)) _ a (λW0 k0=>fU k0 (.piece s) d)
 | fin =>
  rw[show aq c .fin=if c.control≠0 then bh c .fin else if c.st≠1 then(c,none) else bw c .fin from rfl];by_cases a:c.control=0
  ·rw[if_neg (λe=>e a)];by_cases hs:c.st=1
   ·rw[if_neg (λe=>e hs)];exact iq k (.inr (.inr rfl)) _ a hs (λW0 k0=>jz k0 .fin trivial)
   ·rw[if_pos hs];exact ip k (.inr (.inr rfl)) a hs
  ·rw[if_pos a];exact jA k (.inr (.inr rfl)) _ a (λW0 k0=>fU k0 .fin d)
end
