/-
  Plain laws of sessions: the replies that a session tells read back.
-/
import Derived.Test.YtadobobfjnmdlaaGreatDoorVk
set_option linter.unnecessarySimpa false
set_option linter.unusedVariables false
set_option linter.unusedSimpArgs false
set_option maxHeartbeats 16000000
set_option maxRecDepth 100000
open Go.Proofs.Tryz
namespace Go.Proofs.YtadobobfjnmdlaaGreatDoor
def nU (c:UInt8):Bool:=aT c&&(c != 32&&c != 9)
theorem Ei:∀d:Fin 64,nU (mH d.1)=true:=by decide +kernel
theorem xQ (n X:Nat):∀i,(js n X i).all nU=true
 | 0=>rfl
 | i+1=>by
  rw[js,List.all_append,xQ n X i];have:nU (jr n X i)=true:=by
   unfold jr;split
   ·exact Ei ⟨X / 64 ^ (3 - i) % 64,Nat.mod_lt _ (by decide)⟩
   ·decide
  simp[this]
theorem xR:∀(k:Nat) (l:List UInt8),(rD k l).all nU=true
 | 0,_=>rfl
 | k+1,l=>by
  unfold rD;split
  ·rfl
  ·rw[List.all_append,xR k];unfold A8;rw[xQ];rfl
theorem Ek {l:List UInt8}(h:l.all nU=true):l.all aT=true:=by
 rw[List.all_eq_true]at h ⊢;intro c a;have:=h c a;unfold nU at this;rw[Bool.and_eq_true]at this;exact this.1
theorem pL {l:List UInt8}(h:l.all nU=true):cM l=l:=by
 cases l with
 | nil=>rfl
 | cons c t =>
  rw[List.all_cons,Bool.and_eq_true]at h;have a:=h.1;unfold nU at a;simp only[Bool.and_eq_true,bne_iff_ne,ne_eq]at a;exact cI (by unfold ay;simp[a.2.1,a.2.2])
theorem CK {l:List UInt8}(h:l.all nU=true):bm l=l:=by
 rw[na,pL h];have a:l.reverse.all nU=true:=by rw[List.all_reverse];exact h
 have e:l.reverse.dropWhile ay=l.reverse:=pL a;unfold bU;rw[e,List.reverse_reverse]
def RepT (c:Int)(t:List UInt8):Prop:=∃x hd cl,cL x hd cl=some t∧x.code=c
theorem RepT.none {t:List UInt8}{b a:Bool}(e:(cL oB b a).getD []=t):RepT 500 t:=by
 have c:cK oB=true:=by decide +kernel
 refine⟨oB,b,a,?_,rfl⟩;unfold cL at e ⊢;rw[c]at e ⊢;have:(a&&oB.code==101)=false:=by cases a <;> rfl
 rw[this]at e ⊢;simp at e ⊢;exact e
theorem CL {x:Rp}(f:x.code≠101)(d a:Bool):∃c,RepT c (putB x d a)∧c≠101:=by
 unfold putB;cases e:cL x d a with
 | some b=>exact⟨x.code,⟨x,d,a,e,rfl⟩,f⟩
 | none=>exact⟨500,RepT.none rfl,by decide⟩
theorem qX (r:Rq)(h:(aH (aK r)).2=true):RepT 101 (putB (aH (aK r)).1 false false):=by
 have g:(aK r).2=101:=by
  unfold aH at h;split at h
  ·assumption
  ·split at h <;> cases h
 have c:(aK r).1.all nU=true:=by
  unfold aK
  repeat' split
  all_goals first | rfl | exact xR _ _
 have a:(aH (aK r)).1=⟨101,[(hQ,kWs),(ig,hQ),(oA,(aK r).1)],[]⟩:=by
  unfold aH;rw[if_pos g]
 have hf:bH 101 (oA,(aK r).1)=true:=by
  unfold bH;rw[qT (show eh oA=true by decide +kernel) (Ek c) (CK c)];simp only[decide_true,Bool.true_and];decide +kernel
 have i:cK (aH (aK r)).1=true:=by
  rw[a];unfold cK;have d:bH 101 (hQ,kWs)=true:=by decide +kernel
  have f:bH 101 (ig,hQ)=true:=by decide +kernel
  simp[List.all_cons,d,f,hf,bF]
 unfold putB;have e:cL (aH (aK r)).1 false false=some (eM (aH (aK r)).1 false++(aH (aK r)).1.b):=by
  unfold cL;rw[i];rfl
 rw[e];exact⟨_,false,false,e,by rw[a]⟩
theorem qY (r:Rq)(h:(aH (aK r)).2=false):(aH (aK r)).1.code≠101:=by
 unfold aH at h ⊢;split at h
 ·cases h
 ·rename_i a;rw[if_neg a];split
  ·decide
  ·have:=jt r;show(((aK r).2:Nat):Int)≠101;omega
theorem RepT.reads {c:Int}{t:List UInt8}(h:RepT c t):((rdE (aP t false)=0∧rdN (aP t false)=t.length)∨(rdE (aP t true)=0∧rdN (aP t true)=t.length)) ∧
  (rdE (aP t false)=0→(rdR (aP t false)).code=c)∧(rdE (aP t true)=0→(rdR (aP t true)).code=c):=by
 obtain⟨x,e,m,d,rfl⟩:=h;unfold cL at d;split at d
 ·cases d
 ·rename_i i;cases d;simp only[Bool.or_eq_true,Bool.not_eq_true',not_or,Bool.not_eq_false,Bool.not_eq_true]at i;have a:=zA (head:=e) i.1 i.2 [];rw[List.append_nil]at a;obtain⟨t,o⟩:∃t,eM x m++(if e then [] else x.b)=t:=⟨_,rfl⟩;rw[o]at a ⊢;have j:∀b,rdE (aP t b)=0→(rdR (aP t b)).code=x.code:=by
   intro b d;unfold aP at a d ⊢;split at a
   ·split at a <;> cases a
   ·rename_i hi;rw[if_neg hi]at d ⊢;cases l:fH (au (t.take (Lib.index t ar).toNat))with
    | none=>rw[l]at a;cases a
    | some q =>
     obtain⟨c,fs,close,n⟩:=q;rw[l]at a d;dsimp only at a d ⊢;obtain⟨k1,f⟩:∃k,(if e=true then 0 else n.getD 0)=k:=⟨_,rfl⟩;obtain⟨k2,g⟩:∃k,(if b=true then 0 else n.getD 0)=k:=⟨_,rfl⟩;rw[f]at a;rw[g]at d ⊢;have e1:(c:Int)=x.code:=by
      split at a
      ·cases a
      ·injection a with a _ _;exact congrArg Rp.code a
     split at d
     ·cases d
     ·rename_i hl;rw[if_neg hl];exact e1
  refine⟨?_,j false,j true⟩;cases e with
  | true=>rw[a];exact .inr ⟨rfl,rfl⟩
  | false=>rw[a];exact .inl ⟨rfl,rfl⟩
def Fh (l:List (List UInt8)):Prop:=∀t∈l,∃c,RepT c t∧c≠101
structure Tb (x:Bx)(st:Nat)(so cd en:Bool):Prop where
 l:∀t∈x.reps,t.length≤800000
 a:so=false→(x.pong=none∧x.msgs=[]∧x.close=none∧st≠2∧Fh x.reps)∨(st≠1∧∃pre t,x.reps=pre++[t]∧Fh pre∧RepT 101 t)
 b:so=true→x.reps=[]∧st≠1
 k:st=1→x.closed=false
 m:∀i∈x.msgs,i.op=1∨i.op=2
 c:cd=true→x.closed=true∧x.reps=[]∧x.pong=none∧x.msgs=[]∧x.close=none
 e:en=true→x.told=true∧x.ends=true∧x.reps=[]∧x.pong=none∧x.msgs=[]∧x.close=none
 d:∀t,x.close=some t→x.closed=true
theorem tb0 (q:Nat):Tb (bx0 q) 1 false false false :=
 ⟨λt h=>(by cases h),λ_=>.inl ⟨rfl,rfl,rfl,by decide,λt h=>(by cases h)⟩,λe=>(by cases e),λ_=>rfl,λi h=>(by cases h),λe=>(by cases e),λe=>(by cases e),λt e=>(by cases e)⟩
section
variable {x:Bx} {st:Nat} {so cd en:Bool}
theorem Tb.end' (h:Tb x st so cd en):Tb (ii x) 3 so cd en :=
 ⟨h.l,λe=>(h.a e).elim (λ⟨a1,a2,a3,_,f⟩=>.inl ⟨a1,a2,a3,by decide,f⟩) (λ⟨_,b⟩=>.inr ⟨by decide,b⟩),λe=>⟨(h.b e).1,by decide⟩,λe=>absurd e (by decide),h.m,h.c,λe=>let ⟨e1,_,e3⟩:=h.e e;⟨e1,rfl,e3⟩,h.d⟩
theorem Tb.clear (b:Tb x st so cd en)(a:cd=true→x.closed=true):Tb (fO x) 3 so cd en :=
 ⟨λt h=>(by cases h),λ_=>.inl ⟨rfl,rfl,rfl,by decide,λt h=>(by cases h)⟩,λ_=>⟨rfl,by decide⟩,λe=>absurd e (by decide),λi h=>(by cases h),λe=>⟨a e,rfl,rfl,rfl,rfl⟩,λ_=>⟨rfl,rfl,rfl,rfl,rfl,rfl⟩,λt e=>(by cases e)⟩
theorem Tb.open (h:Tb x st so cd en)(hs:cT x=false):cd=false∧en=false:=by
 unfold cT at hs;rw[Bool.or_eq_false_iff]at hs;constructor
 ·cases cd with
  | false=>rfl
  | true=>rw[(h.c rfl).1]at hs;cases hs.1
 ·cases en with
  | false=>rfl
  | true=>rw[(h.e rfl).2.1]at hs;cases hs.2
theorem Tb.pong (h:Tb x 2 so cd en)(t:List UInt8):Tb (dl x t).1 2 so cd en:=by
 unfold dl;split
 ·exact h
 ·rename_i hs;obtain⟨rfl,rfl⟩:=h.open (by simpa using hs);exact⟨h.l,λe=>(h.a e).elim (λ⟨_,_,_,a4,_⟩=>absurd rfl a4) .inr,h.b,h.k,h.m,λe=>(by cases e),λe=>(by cases e),h.d⟩
theorem Tb.message (h:Tb x 2 so cd en){op:Int}(c:op=1∨op=2)(t:List UInt8):Tb (bi x op t).1 2 so cd en:=by
 unfold bi;split
 ·exact h
 ·rename_i hs;obtain⟨rfl,rfl⟩:=h.open (by simpa using hs);split
  ·exact h
  ·refine⟨h.l,λe=>(h.a e).elim (λ⟨_,_,_,a4,_⟩=>absurd rfl a4) .inr,h.b,h.k,λi hi=>?_,λe=>(by cases e),λe=>(by cases e),h.d⟩;rcases List.mem_append.1 hi with hi | hi
   ·exact h.m i hi
   ·rw[List.mem_singleton]at hi;subst hi;exact c
theorem Tb.close (h:Tb x 2 so cd en)(t:List UInt8):Tb (cV x t).1 2 so cd en:=by
 unfold cV;split
 ·exact h
 ·rename_i hs;obtain⟨rfl,rfl⟩:=h.open (by simpa using hs);exact⟨h.l,λe=>(h.a e).elim (λ⟨_,_,_,a4,_⟩=>absurd rfl a4) .inr,h.b,λe=>absurd e (by decide),h.m,λe=>(by cases e),λe=>(by cases e),λ_ _=>rfl⟩
theorem Tb.http (h:Tb x 1 so cd en):so=false∧x.pong=none∧x.msgs=[]∧x.close=none∧Fh x.reps:=by
 cases so with
 | true=>exact absurd rfl (h.b rfl).2
 | false =>
  rcases h.a rfl with⟨a1,a2,a3,_,c⟩ | ⟨d,_⟩
  ·exact⟨rfl,a1,a2,a3,c⟩
  ·exact absurd rfl d
theorem Tb.reply (h:Tb x 1 so cd en){t:List UInt8}(hl:t.length≤800000)(f:∃c,RepT c t∧c≠101):Tb (bD x t).1 1 so cd en:=by
 unfold bD;split
 ·exact h
 ·rename_i hs;obtain⟨rfl,rfl⟩:=h.open (by simpa using hs);split
  ·exact h
  ·obtain⟨rfl,a1,a2,a3,b⟩:=h.http;refine⟨λu a=>?_,λ_=>.inl ⟨a1,a2,a3,by decide,λu a=>?_⟩,λe=>(by cases e),h.k,h.m,λe=>(by cases e),λe=>(by cases e),h.d⟩
   ·rcases List.mem_append.1 a with a | a
    ·exact h.l u a
    ·rw[List.mem_singleton]at a;subst a;exact hl
   ·rcases List.mem_append.1 a with a | a
    ·exact b u a
    ·rw[List.mem_singleton]at a;subst a;exact f
theorem Tb.up (h:Tb x 1 so cd en)(f:x.ends=false)(g:x.reps.length<4){t:List UInt8}(hl:t.length≤800000)(c:RepT 101 t):Tb (bD x t).1 2 so cd en:=by
 have hs:cT x=false:=by unfold cT;rw[h.k rfl,f];rfl
 obtain⟨rfl,rfl⟩:=h.open hs;obtain⟨rfl,a1,a2,a3,b⟩:=h.http;unfold bD;rw[if_neg (by rw[hs];decide),if_neg (by omega)];refine⟨λu a=>?_,λ_=>.inr ⟨by decide,x.reps,t,rfl,b,c⟩,λe=>(by cases e),λe=>absurd e (by decide),h.m,λe=>(by cases e),λe=>(by cases e),h.d⟩;rcases List.mem_append.1 a with a | a
 ·exact h.l u a
 ·rw[List.mem_singleton]at a;subst a;exact hl
theorem Tb.next (h:Tb x st so cd en)(O:Bok x){y:Bx}{o:Option It}(hn:aS x=(y,o)) :
  (o=none∧Tb y st so cd en) ∨
  (∃t c,o=some ⟨1,0,t⟩∧so=false∧cd=false∧en=false∧RepT c t∧t.length≤800000∧Tb y st (decide (c=101)) false false) ∨
  (∃it op,o=some it∧so=true∧cd=false∧en=false∧(it.kind=2∧op=10∨it.kind=3∧it.op=op∧(op=1∨op=2)∨it.kind=4∧op=8)∧Tb y st true (decide (op=8)) false) ∨
  (o=some ⟨5,0,[]⟩∧en=false∧Tb y st so cd true):=by
 obtain⟨q,reps,pong,msgs,close,closed,ends,told⟩:=x;obtain⟨hl,A,n,g,hm,B,C,f⟩:=h;have b:=O.k;dsimp only at hl A n g hm B C f b;unfold aS at hn;dsimp only at hn;have z:reps=[]→(pong≠none∨msgs≠[]∨close≠none)→so=true:=λR a=>by
  cases so with
  | true=>rfl
  | false =>
   rcases A rfl with⟨a1,a2,a3,_⟩ | ⟨_,m,t,e,_⟩
   ·rcases a with a | a | a
    ·exact absurd a1 a
    ·exact absurd a2 a
    ·exact absurd a3 a
   ·rw[R]at e;exact absurd e (by simp)
 have d:(reps≠[]∨pong≠none∨msgs≠[]∨close≠none)→cd=false∧en=false:=λa=>by
  constructor
  ·cases cd with
   | false=>rfl
   | true =>
    obtain⟨_,c2,c3,c4,c5⟩:=B rfl;rcases a with a | a | a | a
    ·exact absurd c2 a
    ·exact absurd c3 a
    ·exact absurd c4 a
    ·exact absurd c5 a
  ·cases en with
   | false=>rfl
   | true =>
    obtain⟨_,_,c2,c3,c4,c5⟩:=C rfl;rcases a with a | a | a | a
    ·exact absurd c2 a
    ·exact absurd c3 a
    ·exact absurd c4 a
    ·exact absurd c5 a
 cases reps with
 | cons t l =>
  cases hn;obtain⟨rfl,rfl⟩:=d (.inl (by simp));have hs:so=false:=by
   cases so with
   | false=>rfl
   | true=>have:=(n rfl).1;cases this
  subst hs;have w:∀u∈l,u.length≤800000:=λu H=>hl u (List.mem_cons_of_mem _ H);have F:=hl t (List.mem_cons_self ..);rcases A rfl with⟨a1,a2,a3,a4,I⟩ | ⟨J,m,T,e,L,M⟩
  ·obtain⟨c,p,r⟩:=I t (List.mem_cons_self ..);refine .inr (.inl ⟨t,c,rfl,rfl,rfl,rfl,p,F,?_⟩);rw[decide_eq_false r];exact⟨w,λ_=>.inl ⟨a1,a2,a3,a4,λu H=>I u (List.mem_cons_of_mem _ H)⟩,λe=>(by cases e),g,hm,λe=>(by cases e),λe=>(by cases e),f⟩
  ·cases m with
   | nil =>
    simp only[List.nil_append,List.cons.injEq]at e;obtain⟨rfl,rfl⟩:=e;refine .inr (.inl ⟨t,101,rfl,rfl,rfl,rfl,M,F,?_⟩);exact⟨w,λe=>(by cases e),λ_=>⟨rfl,J⟩,g,hm,λe=>(by cases e),λe=>(by cases e),f⟩
   | cons u m =>
    simp only[List.cons_append,List.cons.injEq]at e;obtain⟨rfl,rfl⟩:=e;obtain⟨c,p,r⟩:=L t (List.mem_cons_self ..);refine .inr (.inl ⟨t,c,rfl,rfl,rfl,rfl,p,F,?_⟩);rw[decide_eq_false r];exact⟨w,λ_=>.inr ⟨J,m,T,rfl,λv S=>L v (List.mem_cons_of_mem _ S),M⟩,λe=>(by cases e),g,hm,λe=>(by cases e),λe=>(by cases e),f⟩
 | nil =>
  cases pong with
  | some t =>
   cases hn;obtain⟨rfl,rfl⟩:=d (.inr (.inl (by simp)));obtain rfl:=z rfl (.inl (by simp));refine .inr (.inr (.inl ⟨_,10,rfl,rfl,rfl,rfl,.inl ⟨rfl,rfl⟩,?_⟩));exact⟨hl,λe=>(by cases e),n,g,hm,λe=>(by cases e),λe=>(by cases e),f⟩
  | none =>
   cases msgs with
   | cons i l =>
    cases hn;obtain⟨rfl,rfl⟩:=d (.inr (.inr (.inl (by simp))));obtain rfl:=z rfl (.inr (.inl (by simp)));have N:=hm i (List.mem_cons_self ..);refine .inr (.inr (.inl ⟨i,i.op,rfl,rfl,rfl,rfl,.inr (.inl ⟨b i (List.mem_cons_self ..),rfl,N⟩),?_⟩));rw[decide_eq_false (by omega)];exact⟨hl,λe=>(by cases e),n,g,λj P=>hm j (List.mem_cons_of_mem _ P),λe=>(by cases e),λe=>(by cases e),f⟩
   | nil =>
    cases close with
    | some t =>
     cases hn;obtain⟨rfl,rfl⟩:=d (.inr (.inr (.inr (by simp))));obtain rfl:=z rfl (.inr (.inr (by simp)));refine .inr (.inr (.inl ⟨_,8,rfl,rfl,rfl,rfl,.inr (.inr ⟨rfl,rfl⟩),?_⟩));exact⟨hl,λe=>(by cases e),n,g,hm,λ_=>⟨f t rfl,rfl,rfl,rfl,rfl⟩,λe=>(by cases e),λu e=>(by cases e)⟩
    | none =>
     dsimp only at hn;split at hn
     ·rename_i E;cases hn;rw[Bool.and_eq_true,Bool.not_eq_true']at E;have D:en=false:=by
       cases en with
       | false=>rfl
       | true=>have:=(C rfl).1;rw[E.2]at this;cases this
      exact .inr (.inr (.inr ⟨rfl,D,⟨hl,A,n,g,hm,B,λ_=>⟨rfl,E.1,rfl,rfl,rfl,rfl⟩,f⟩⟩))
     ·cases hn;exact .inl ⟨rfl,⟨hl,A,n,g,hm,B,C,f⟩⟩
end
def RpF (x:Rp):Prop:=x.fs.length≤3∧(∀f∈x.fs,f.1.length+f.2.length≤100000)∧-9223372036854775808≤x.code∧x.code≤9223372036854775807
theorem pM {x:Rp}(h:RpF x){c a:Bool}{b:List UInt8}(e:cL x c a=some b):b.length≤800000:=by
 obtain⟨m,g,j,k⟩:=h;have hi:=Lib.itoa_length_le x.code j k;have o:=zV x.code;unfold cL at e;split at e
 ·cases e
 ·rename_i d;cases e;simp only[Bool.or_eq_true,Bool.not_eq_true',not_or,Bool.not_eq_false,Bool.not_eq_true]at d;have i:x.b.length≤65536:=by
   have:=d.1;unfold cK at this;simp only[Bool.and_eq_true,decide_eq_true_eq]at this;exact this.2.2.2.1
  have n:=Lib.itoa_length_le (x.b.length:Int) (by omega) (by omega);have hl:∀l∈bX x a,l.length≤100002:=by
   intro l hl;unfold bX at hl;rw[List.mem_append,List.mem_append,List.mem_append]at hl;rcases hl with((hl | hl) | hl) | hl
   ·rw[List.mem_singleton]at hl;subst hl;simp only[qw,List.length_singleton];have:aC.length=9:=rfl;omega
   ·obtain⟨f,hf,rfl⟩:=List.mem_map.1 hl;have:=g f hf;simp only[qw,List.length_cons,List.length_nil];omega
   ·split at hl
    ·cases hl
    ·rw[List.mem_singleton]at hl;subst hl;simp only[qw,List.length_cons,List.length_nil];have:dq.length=14:=rfl;omega
   ·split at hl
    ·rw[List.mem_singleton]at hl;subst hl;decide
    ·cases hl
  have hn:(bX x a).length≤6:=by
   unfold bX;simp only[qw,List.length_map,List.length_singleton];have a1:(if bF x.code then([]:List (List UInt8)) else [dq++[58,32]++Lib.itoa x.b.length]).length≤1:=(by split <;> simp);have a2:(if a then [cx++[58,32]++el] else([]:List (List UInt8))).length≤1:=(by split <;> simp);omega
  have hf:=xP _ hl;have hm:(bX x a).length*(100002+2)≤6*100004:=Nat.mul_le_mul hn (qv _);unfold eM;rw[qw,qw];have:ba.length=2:=rfl;have a3:(if c then([]:List UInt8) else x.b).length≤65536:=by split <;> simp[i]
  omega
theorem Fi:RpF oB:=⟨qx _,(λf hf=>by cases hf),by decide,by decide⟩
theorem tE {x:Rp}(h:RpF x)(c a:Bool):(putB x c a).length≤800000:=by
 unfold putB;split
 ·rename_i b e;exact pM h e
 ·cases e:cL oB c a with
  | none=>exact qx _
  | some b=>exact pM Fi e
theorem tF (r:Rq):RpF (aH (aK r)).1:=by
 have a:(aK r).1.length≤28:=by
  unfold aK
  repeat' split
  all_goals first | exact qx _ | (dsimp only;rw[mK];decide)
 have hs:=pk r;refine⟨?_,?_,hs.2.2.2.1,hs.2.2.2.2⟩
 ·unfold aH;split
  ·exact qv 3
  ·split <;> simp
 ·unfold aH;split
  ·intro f hf;rcases List.mem_cons.1 hf with rfl | hf
   ·decide
   ·rcases List.mem_cons.1 hf with rfl | hf
    ·decide
    ·rcases List.mem_cons.1 hf with rfl | hf
     ·have:oA.length=20:=rfl;dsimp only;omega
     ·cases hf
  ·split
   ·intro f hf;rcases List.mem_cons.1 hf with rfl | hf
    ·decide
    ·cases hf
   ·intro f hf;cases hf
theorem El {r:Rq}(h:r.m.length≤50000)(hs:uf (aX r)):RpF (aX r):=by
 refine⟨?_,?_,hs.2.2.2.1,hs.2.2.2.2⟩
 ·unfold aX
  repeat' split
  all_goals simp
 ·unfold aX
  repeat' split
  all_goals intro f hf
  all_goals first
   | cases hf;done
   | skip
  rcases List.mem_cons.1 hf with rfl | hf
  ·show 8+r.m.length≤100000;omega
  ·cases hf
theorem PsB.not101 {n:Nat}{p:Ps}(h:PsB n p)(e0:(bu p).2=none):(bu p).1.bad≠101:=by
 obtain⟨s,a,_⟩:=h.st;have hn:=a.next;unfold eT at hn;cases e:bW s with
 | more=>rw[e]at hn;rw[hn.2.1];decide
 | bad c=>rw[e]at hn;rw[hn.2.1];rcases jI e with h | h | h <;> omega
 | got r k=>rw[e]at hn;rw[hn.1]at e0;cases e0
abbrev Tv (s:Ss)(so cd en:Bool):Prop:=Tb s.x s.st so cd en
section
variable {s:Ss} {so cd en:Bool}
theorem Tv.at (h:Tv s so cd en){n:Nat}(e:s.st=n):Tb s.x n so cd en:=e▸h
theorem Tv.puts (h:Tv s so cd en)(c:s.st=1){x:Rp}(f:RpF x)(e:x.code≠101)(b a:Bool):Tv (cU s x b a) so cd en:=by
 have d:=(h.at c).reply (tE f b a) (CL e b a);unfold cU;split
 ·exact d.end'
 ·show Tb _ s.st so cd en;rw[c];exact d
theorem Tv.answers (h:Tv s so cd en)(a:s.st=1)(e:s.x.ends=false)(c:s.x.reps.length<4){r:Rq}(f:RqSm r)(hm:r.m.length≤50000):Tv (aZ aX s r).1 so cd en:=by
 unfold aZ;split
 ·split
  ·rename_i b;exact(h.at a).up e c (tE (tF r) false false) (qX r b)
  ·rename_i b;exact h.puts a (tF r) (qY r (by simpa using b)) _ _
 ·rename_i d;exact h.puts a (El hm (rN f)) d _ _
theorem Tv.asks {n:Nat}(h:Tv s so cd en)(c:s.st=1)(k:s.x.ends=false)(j:s.x.reps.length<4)(d:SsB n s)(hn:n≤50000):Tv (cF aX s).1 so cd en:=by
 have a:=d.p.next;have e:=d.p.not101;unfold cF;split
 ·rename_i p r b;rw[b]at a;have i:=a.2.1 r rfl;exact Tv.answers (s:={ s with p:=p }) h c k j (i.sm (by omega)) (qy i.m hn)
 ·rename_i p b;rw[b]at a e;have g:p.bad≤431:=a.2.2 rfl;have l:p.bad≠101:=e rfl;split
  ·exact h
  ·exact Tv.puts (s:={ s with p:=p }) h c (x:=⟨p.bad,[],aU p.bad⟩) ⟨qx _,(λf hf=>by cases hf),(show -9223372036854775808≤(p.bad:Int) by omega),(show(p.bad:Int)≤9223372036854775807 by omega)⟩ (show(p.bad:Int)≠101 by omega) _ _
theorem Tv.closes (h:Tv s so cd en)(a:s.st=2)(code:Nat):Tv (du s code) so cd en:=by
 show Tb (cV s.x (i7 code)).1 s.st so cd en;rw[a];exact(h.at a).close _
theorem Tv.ends (h:Tv s so cd en):Tv (bJ s) so cd en:=Tb.end' h
theorem Tv.gone (h:Tv s so cd en)(b:s.st=2)(a code:Nat):Tv (dm s a code) so cd en:=by
 unfold dm;split
 ·exact(h.closes b code).ends
 ·exact h.ends
theorem Tv.says (h:Tv s so cd en)(a:s.st=2):Tv (bM s).1 so cd en:=by
 unfold bM;cases bP (ju s)with
 | mk c o =>
  cases o with
  | none=>exact h
  | some x =>
   cases x with
   | message op t=>exact h
   | ping t =>
    show Tb (dl s.x t).1 s.st so cd en;rw[a];exact(h.at a).pong t
   | closing code=>exact Tv.gone (s:={ s with c:=some c }) h a _ _
   | failing code=>exact Tv.gone (s:={ s with c:=some c }) h a _ _
theorem Tv.feed (h:Tv s so cd en)(b:List UInt8):Tv (cE s b) so cd en:=by
 unfold cE;split
 ·exact h
 ·split
  ·exact h
  ·exact h
theorem Tv.next {n:Nat}(h:Tv s so cd en)(d:Sok s)(g:SsB n s)(hn:n≤50000):Tv (bj aX s).1 so cd en:=by
 unfold bj;split
 ·exact h
 ·rename_i c;unfold cW at c;simp only[Bool.not_eq_true',Bool.and_eq_false_iff,bne_eq_false_iff_eq,decide_eq_false_iff_not,not_or]at c;have f:s.x.reps.length<4:=by have:=c.2;omega
  dsimp only;by_cases q:s.st=1
  ·have i:s.x.ends=false:=(by rw[d.e];exact decide_eq_false (by omega));have b:Tv (cF aX s).1 so cd en:=h.asks q i f g hn;rw[if_pos q];split
   ·exact b
   ·exact b
  ·have j:s.st=2:=(by rcases d.a with e | e | e;exact absurd e q;exact e;exact absurd e c.1);have b:Tv (bM s).1 so cd en:=h.says j;rw[if_neg q];split
   ·exact b
   ·exact b
theorem Tv.send (h:Tv s so cd en){op:Int}(b:op=1∨op=2)(t:List UInt8):Tv (eQ s op t).1 so cd en:=by
 unfold eQ;split
 ·exact h
 ·rename_i a;have c:s.st=2:=by
   unfold cG at a;simp only[Bool.not_eq_true',Bool.not_eq_false,Bool.and_eq_true,beq_iff_eq]at a;exact a.1
  show Tb (bi s.x op t).1 s.st so cd en;rw[c];exact(h.at c).message b t
theorem Tv.finish (h:Tv s so cd en):Tv (bQ s) so cd en:=by
 unfold bQ;split
 ·exact h
 ·split
  ·exact Tv.ends (s:=dn s) h
  ·exact h.ends
theorem Tv.stop (h:Tv s so cd en):Tv (dD s) so cd en:=by
 unfold dD;split
 ·exact h.ends
 ·split
  ·rename_i a;have b:s.st=2:=by
    unfold cG at a;simp only[Bool.and_eq_true,beq_iff_eq]at a;exact a.1
   exact h.closes b 1001
  ·exact h
theorem Tv.lapse (h:Tv s so cd en):Tv (eD s) so cd en:=by
 unfold eD;split
 ·exact Tv.ends (s:=dn s) h
 ·exact h.stop
theorem Tv.fail (h:Tv s so cd en):Tv (ij s) so cd en:=Tb.clear (Tb.end' h) (λe=>(h.c e).1)
end
theorem vV {x:Bx}(h:Bok x){y:Bx}{it:It}(hn:aS x=(y,some it))(b:it.kind=4):x.close=some it.text:=by
 obtain⟨q,reps,pong,msgs,close,closed,ends,told⟩:=x;have a:=h.k;dsimp only at a;unfold aS at hn;dsimp only at hn;cases reps with
 | cons t l=>cases hn;cases b
 | nil =>
  cases pong with
  | some t=>cases hn;cases b
  | none =>
   cases msgs with
   | cons i l =>
    cases hn;rw[a it (List.mem_cons_self ..)]at b;cases b
   | nil =>
    cases close with
    | some t=>cases hn;rfl
    | none =>
     dsimp only at hn;split at hn
     ·cases hn;cases b
     ·cases hn
theorem CM {n:Nat}{s:Ss}{so cd en:Bool}(h:Tv s so cd en)(g:Sok s)(f:SsB n s)(hn:n≤50000) :
  ((bR s).2=none∧Tv (bR s).1 so cd en) ∨
  (∃t c,(bR s).2=some (t,false)∧so=false∧cd=false∧en=false∧RepT c t∧t.length≤800000∧Tv (bR s).1 (decide (c=101)) false false) ∨
  (∃(op:Nat) (d:List UInt8),(bR s).2=some (dC op d,false)∧so=true∧cd=false∧en=false∧d.length≤65535∧(op=8→d.length≤125)∧(op=1∨op=2∨op=8∨op=10)∧Tv (bR s).1 true (decide (op=8)) false) ∨
  ((bR s).2=some ([],true)∧en=false∧Tv (bR s).1 so cd true):=by
 obtain⟨y,o,b⟩:∃y o,aS s.x=(y,o):=⟨_,_,rfl⟩;have j:(bR s).1={ s with x:=y }:=by unfold bR;rw[b]
 have l:(bR s).2=o.map i8:=by unfold bR;rw[b]
 have a:=f.x.next.2;rw[b]at a;rw[j,l];rcases Tb.next h g.x b with⟨rfl,k⟩ | ⟨t,c,rfl,a1,a2,a3,a4,i,k⟩ | ⟨it,op,rfl,a1,a2,a3,a4,k⟩ | ⟨rfl,a1,k⟩
 ·exact .inl ⟨rfl,k⟩
 ·exact .inr (.inl ⟨t,c,rfl,a1,a2,a3,a4,i,k⟩)
 ·refine .inr (.inr (.inl ?_));have hl:=a it rfl;rcases a4 with⟨k1,rfl⟩ | ⟨k1,rfl,k2⟩ | ⟨k1,rfl⟩
  ·refine⟨10,it.text,?_,a1,a2,a3,by omega,λe=>absurd e (by decide),by decide,k⟩;show some (i8 it)=_;unfold i8;rw[if_neg (by omega),if_neg (by omega),if_pos k1];rfl
  ·obtain⟨m,hm⟩:∃m:Nat,it.op=m:=⟨it.op.toNat,by omega⟩;rw[hm]at k2 k;have p:decide ((m:Int)=8)=decide (m=8):=(by simp only[decide_eq_decide];omega);rw[p]at k;refine⟨m,it.text,?_,a1,a2,a3,by omega,λe=>by omega,by omega,k⟩;show some (i8 it)=_;unfold i8;rw[if_neg (by omega),if_neg (by omega),if_neg (by omega),if_pos k1,hm]
  ·have q:=f.x.c it.text (vV g.x b k1);refine⟨8,it.text,?_,a1,a2,a3,by omega,λ_=>by omega,by decide,k⟩;show some (i8 it)=_;unfold i8;rw[if_neg (by omega),if_neg (by omega),if_neg (by omega),if_neg (by omega)];rfl
 ·exact .inr (.inr (.inr ⟨rfl,a1,k⟩))
def iG (x:Bx):Nat:=x.reps.length+(if x.pong.isSome then 1 else 0)+x.msgs.length+(if x.close.isSome then 1 else 0)+(if x.ends&&!x.told then 1 else 0)
theorem Fj {x:Bx}(h:Bok x):iG x≤71:=by
 have a:=h.r;have b:=h.m;have c:=h.q;unfold iG;have a1:(if x.pong.isSome then 1 else 0)≤1:=by split <;> omega
 have a2:(if x.close.isSome then 1 else 0)≤1:=by split <;> omega
 have a3:(if x.ends&&!x.told then 1 else 0)≤1:=by split <;> omega
 omega
theorem CN (x:Bx):iG (aS x).1=iG x - 1:=by
 obtain⟨q,reps,pong,msgs,close,closed,ends,told⟩:=x;unfold aS;dsimp only;cases reps with
 | cons t l=>unfold iG;simp only[List.length_cons];omega
 | nil =>
  cases pong with
  | some t=>unfold iG;simp;omega
  | none =>
   cases msgs with
   | cons i l=>unfold iG;simp only[List.length_cons];omega
   | nil =>
    cases close with
    | some t=>unfold iG;simp
    | none =>
     dsimp only;split
     ·rename_i h;unfold iG;rw[h];simp
     ·rename_i h;unfold iG;rw[if_neg h];simp
theorem zW {x:Bx}(h:iG x=0):iL x=false:=by
 obtain⟨q,reps,pong,msgs,close,closed,ends,told⟩:=x;unfold iG at h;dsimp only at h;unfold iL;dsimp only;cases reps with
 | cons t l=>rw[List.length_cons]at h;omega
 | nil =>
  cases pong with
  | some t=>simp at h
  | none =>
   cases msgs with
   | cons i l=>rw[List.length_cons]at h;omega
   | nil =>
    cases close with
    | some t=>simp at h
    | none =>
     cases a:(ends&&!told)with
     | true=>rw[a]at h;simp at h
     | false=>rfl
