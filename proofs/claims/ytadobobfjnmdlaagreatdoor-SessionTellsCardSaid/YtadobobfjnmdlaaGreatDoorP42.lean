/-
  Plain laws of requests: the request with which bytes begin; a parser stands as its bytes say; no program in sight.
-/
import Derived.Test.YtadobobfjnmdlaaGreatDoorYf
import Derived.BigRegion
import Derived.Deep.RegionWith
set_option linter.unnecessarySimpa false
set_option linter.unusedVariables false
set_option linter.unusedSimpArgs false
set_option maxHeartbeats 16000000
set_option maxRecDepth 100000
open Go.Proofs.Tryz
namespace Go.Proofs.YtadobobfjnmdlaaGreatDoor
inductive OneR where
 | more
 | bad (c:Nat)
 | got (r:Rq) (n:Nat)
def bW (s:List UInt8):OneR :=
 if decide (0≤Lib.index s ar)&&decide (Lib.index s ar+4≤2048) then
  match headQ (au (s.take (Lib.index s ar).toNat))with
  | .bad c=>.bad c
  | .good r n ch =>
   if ch then
    if (feedC ck0 (s.drop ((Lib.index s ar).toNat+4))).2.bad≠0 then .bad (feedC ck0 (s.drop ((Lib.index s ar).toNat+4))).2.bad
    else if (feedC ck0 (s.drop ((Lib.index s ar).toNat+4))).2.st=4 then .got { r with b:=(feedC ck0 (s.drop ((Lib.index s ar).toNat+4))).2.data } ((Lib.index s ar).toNat+4+(feedC ck0 (s.drop ((Lib.index s ar).toNat+4))).1)
    else .more
   else if s.length<(Lib.index s ar).toNat+4+n then .more
   else .got { r with b:=(s.drop ((Lib.index s ar).toNat+4)).take n } ((Lib.index s ar).toNat+4+n)
 else if 2048≤s.length then .bad 431 else .more
theorem lX {a:List (List UInt8)}{c:Nat}(h:headQ a=.bad c):c=400∨c=413∨c=431:=by
 unfold headQ at h;dsimp only at h
 repeat' split at h
 all_goals (first | (injection h with h;omega) | cases h)
theorem jH {c:List (List UInt8)}{r:Rq}{n:Nat}{ch:Bool}(h:headQ c=.good r n ch):r.b=[]∧n≤4096:=by
 unfold headQ at h;dsimp only at h
 repeat' split at h
 all_goals (first | (injection h with a d e;subst a;exact⟨rfl,by omega⟩) | cases h)
theorem E7 {c:Ck}(h:CkOk c)(a:c.bad≠0):c.st=4:=by
 by_cases e:c.st=4
 ·exact e
 ·exact absurd (h.live e).1 a
theorem kt (s:List UInt8):CkOk (feedC ck0 s).2:=mr s Cz
theorem jI {s:List UInt8}{c:Nat}(h:bW s=.bad c):c=400∨c=413∨c=431:=by
 unfold bW at h;split at h
 ·cases a:headQ (au (s.take (Lib.index s ar).toNat))with
  | bad k=>rw[a]at h;injection h with h;subst h;exact lX a
  | good r n ch =>
   rw[a]at h;dsimp only at h;have:=(kt (s.drop ((Lib.index s ar).toNat+4))).codes
   repeat' split at h
   all_goals (first | (injection h with h;omega) | cases h)
 ·split at h
  ·injection h with h;omega
  ·cases h
theorem iT {s:List UInt8}(t:List UInt8)(h:0≤Lib.index s ar):Lib.index (s++t) ar=Lib.index s ar:=by
 obtain⟨k,l⟩:∃k:Nat,Lib.index s ar=k:=⟨(Lib.index s ar).toNat,by omega⟩;rcases Lib.index_spec s ar with⟨e,_⟩ | ⟨i,e,hi,f,a⟩
 ·omega
 ·have b:=Lib.index_room s ar (by rw[e];omega);rw[e]at b ⊢;have e4:ar.length=4:=rfl;rw[e4]at b;have c:(s++t).take s.length=s:=by simp
  refine tn ?_ (by rw[qw];omega) (λj d=>?_)
  ·exact(tm (k:=s.length) (by rw[c];exact f) (by decide)).1
  ·cases g:Lib.occAt (s++t) ar j with
   | false=>rfl
   | true =>
    have:=nK (k:=s.length) g (by rw[e4];omega);rw[c,a j d]at this;cases this
theorem fG {s:List UInt8}(h:0≤Lib.index s ar):(Lib.index s ar).toNat+4≤s.length:=by
 have a:=Lib.index_room s ar h;have e4:ar.length=4:=rfl;rw[e4]at a;omega
theorem vF {s:List UInt8}(t:List UInt8)(hs:2048≤s.length)(h:(decide (0≤Lib.index s ar)&&decide (Lib.index s ar+4≤2048))=false):(decide (0≤Lib.index (s++t) ar)&&decide (Lib.index (s++t) ar+4≤2048))=false:=by
 by_cases h0:0≤Lib.index s ar
 ·rw[iT t h0];exact h
 ·rw[Bool.and_eq_false_iff];by_cases d:0≤Lib.index (s++t) ar
  ·refine .inr (decide_eq_false λf=>h0 ?_);obtain⟨k,c⟩:∃k:Nat,Lib.index (s++t) ar=k:=⟨(Lib.index (s++t) ar).toNat,by omega⟩;have:=zH (k:=s.length) c;rw[show(s++t).take s.length=s by simp]at this;rcases this with e | ⟨_,e⟩
   ·rcases Lib.index_spec (s++t) ar with⟨e2,_⟩ | ⟨i,e2,hi,l,g⟩
    ·omega
    ·rw[c]at e2;have b:i=k:=(by omega);subst b;rw[c]at f;have:=nK (k:=s.length) l (by have e4:ar.length=4:=rfl;rw[e4];omega);rw[show(s++t).take s.length=s by simp]at this;rcases Lib.index_spec s ar with⟨_,a⟩ | ⟨j,e3,_⟩
     ·have:=a i (by omega)
      simp_all
     ·omega
   ·omega
  ·exact .inl (decide_eq_false d)
theorem eL {s t:List UInt8}{k:Nat}(h:k≤s.length):(s++t).take k=s.take k:=List.take_append_of_le_length h
theorem iB {s t:List UInt8}{k:Nat}(h:k≤s.length):(s++t).drop k=s.drop k++t:=List.drop_append_of_le_length h
theorem ku (s t:List UInt8):match bW s with
  | .more=>True
  | .bad c=>bW (s++t)=.bad c
  | .got r n=>bW (s++t)=.got r n∧n≤s.length∧4≤n:=by
 cases d:(decide (0≤Lib.index s ar)&&decide (Lib.index s ar+4≤2048))with
 | true =>
  have g:=d;simp only[Bool.and_eq_true,decide_eq_true_eq]at d;have hi:=iT t d.1;have m:=fG d.1;obtain⟨k,l⟩:∃k,(Lib.index s ar).toNat=k:=⟨_,rfl⟩;have p:bW (s++t)=match headQ (au (s.take k))with
   | .bad c=>.bad c
   | .good r n ch =>
    if ch then
     if (feedC ck0 (s.drop (k+4)++t)).2.bad≠0 then .bad (feedC ck0 (s.drop (k+4)++t)).2.bad
     else if (feedC ck0 (s.drop (k+4)++t)).2.st=4 then .got { r with b:=(feedC ck0 (s.drop (k+4)++t)).2.data } (k+4+(feedC ck0 (s.drop (k+4)++t)).1)
     else .more
    else if s.length+t.length<k+4+n then .more
    else .got { r with b:=(s.drop (k+4)++t).take n } (k+4+n):=by
   unfold bW;rw[hi,g,if_pos rfl,l,eL (by omega),iB (by omega),qw]
  have f:bW s=match headQ (au (s.take k))with
   | .bad c=>.bad c
   | .good r n ch =>
    if ch then
     if (feedC ck0 (s.drop (k+4))).2.bad≠0 then .bad (feedC ck0 (s.drop (k+4))).2.bad
     else if (feedC ck0 (s.drop (k+4))).2.st=4 then .got { r with b:=(feedC ck0 (s.drop (k+4))).2.data } (k+4+(feedC ck0 (s.drop (k+4))).1)
     else .more
    else if s.length<k+4+n then .more
    else .got { r with b:=(s.drop (k+4)).take n } (k+4+n):=by
   unfold bW;rw[g,if_pos rfl,l]
  rw[f,p];rw[l]at m;have j:∀x,(feedC ck0 x).1≤x.length:=λx=>mt x ck0;cases headQ (au (s.take k))with
  | bad c=>rfl
  | good r n ch =>
   dsimp only;cases ch with
   | true =>
    simp only[if_true];have a:=kB (s.drop (k+4)) t ck0;have o:=kt (s.drop (k+4));have hl:=j (s.drop (k+4));rw[List.length_drop]at hl;by_cases h:(feedC ck0 (s.drop (k+4))).2.bad=0
    ·rw[if_neg (by simpa using h)];by_cases e:(feedC ck0 (s.drop (k+4))).2.st=4
     ·rw[if_pos e];rw[iU e t]at a;dsimp only;rw[a];dsimp only;rw[if_neg (by simpa using h),if_pos e];exact⟨rfl,by omega,by omega⟩
     ·rw[if_neg e];trivial
    ·rw[if_pos h];have e:=E7 o h;rw[iU e t]at a;dsimp only;rw[a];dsimp only;rw[if_pos h]
   | false =>
    simp only[Bool.false_eq_true,if_false];by_cases hn:s.length<k+4+n
    ·rw[if_pos hn];trivial
    ·rw[if_neg hn];dsimp only;rw[if_neg (by omega),List.take_append_of_le_length (by rw[List.length_drop];omega)];exact⟨rfl,by omega,by omega⟩
 | false =>
  by_cases i:2048≤s.length
  ·have f:bW s=.bad 431:=(by unfold bW;rw[d,if_neg (by simp),if_pos i]);rw[f];dsimp only;unfold bW;rw[vF t i d,if_neg (by simp),if_pos (by rw[qw];omega)]
  ·have f:bW s=.more:=(by unfold bW;rw[d,if_neg (by simp),if_neg i]);rw[f];trivial
inductive Stands (p:Ps) (s:List UInt8):Prop where
 | wrong (h0:p.bad≠0) (h:∀t,bW (s++t)=.bad p.bad)
 | fresh (h:p={ ps0 with inp:=s })
 | plain (r:Rq) (n:Nat) (h0:p.bad=0) (hh:p.head=true) (hi:(decide (0≤Lib.index s ar)&&decide (Lib.index s ar+4≤2048))=true)
   (hq:headQ (au (s.take (Lib.index s ar).toNat))=.good r n false) (hl:p.len=n) (hr:p.r=r) (hc:p.ch=none)
   (hu:p.und=s.take ((Lib.index s ar).toNat+4)) (hp:p.inp=s.drop ((Lib.index s ar).toNat+4))
 | chunks (r:Rq) (n:Nat) (c:Ck) (u:List UInt8) (h0:p.bad=0) (hh:p.head=true) (hi:(decide (0≤Lib.index s ar)&&decide (Lib.index s ar+4≤2048))=true)
   (hq:headQ (au (s.take (Lib.index s ar).toNat))=.good r n true) (hr:{ p.r with b:=[] }={ r with b:=[] }) (hc:p.ch=some c) (hl:p.len=n)
   (hf:feedC ck0 u=(u.length,c)) (hok:c.st≠4)
   (hu:p.und=s.take ((Lib.index s ar).toNat+4)++u) (hp:s.drop ((Lib.index s ar).toNat+4)=u++p.inp)
theorem vG:Stands ps0 []:=.fresh rfl
theorem Stands.all {p:Ps}{s:List UInt8}(h:Stands p s)(h0:p.bad=0):p.und++p.inp=s:=by
 cases h with
 | wrong d=>exact absurd h0 d
 | fresh h=>subst h;rfl
 | plain r n _ f hi i hl j e b a=>rw[b,a,List.take_append_drop]
 | chunks r n c u _ f hi i j e hl hf g b a=>rw[b,List.append_assoc,←a,List.take_append_drop]
theorem Stands.feed {p:Ps}{s:List UInt8}(h:Stands p s)(t:List UInt8):Stands (fJ p t) (s++t):=by
 cases h with
 | wrong h0 h =>
  unfold fJ;rw[if_neg h0];exact .wrong h0 (λx=>by rw[List.append_assoc];exact h _)
 | fresh h =>
  subst h;exact .fresh rfl
 | plain r n h0 f hi j hl k e l i =>
  unfold fJ;rw[if_pos h0];have a:=hi;simp only[Bool.and_eq_true,decide_eq_true_eq]at a;have d:=iT t a.1;have b:=fG a.1;refine .plain r n h0 f (by rw[d];exact hi) ?_ hl k e ?_ ?_
  ·rw[d,eL (by omega)];exact j
  ·rw[d,eL b];exact l
  ·rw[d,iB b];dsimp only;rw[i]
 | chunks r n c u h0 f hi j k e hl hf g l i =>
  unfold fJ;rw[if_pos h0];have a:=hi;simp only[Bool.and_eq_true,decide_eq_true_eq]at a;have d:=iT t a.1;have b:=fG a.1;refine .chunks r n c u h0 f (by rw[d];exact hi) ?_ k e hl hf g ?_ ?_
  ·rw[d,eL (by omega)];exact j
  ·rw[d,eL b];exact l
  ·rw[d,iB b,i,List.append_assoc]
theorem nC {s:List UInt8}{c:Nat}(h:bW s=.bad c)(t:List UInt8):bW (s++t)=.bad c:=by
 have:=ku s t;rw[h]at this;exact this
def eT (p':Ps)(o:Option Rq)(s:List UInt8):Prop:=match bW s with
 | .more=>o=none∧p'.bad=0∧Stands p' s
 | .bad c=>o=none∧p'.bad=c∧Stands p' s
 | .got r n=>o=some r∧p'={ ps0 with inp:=s.drop n }
theorem gN {b:Ps}{o:Option Rq}{s:List UInt8}{c:Nat}(h:bW s=.bad c)(d:o=none)(a:b.bad=c):eT b o s:=by
 have e:=jI h;unfold eT;rw[h];exact⟨d,a,.wrong (by omega) (λt=>by rw[a];exact nC h t)⟩
theorem nD {p:Ps}{s:List UInt8}{r:Rq}{n:Nat}(h0:p.bad=0)(i:p.head=true)(hi:(decide (0≤Lib.index s ar)&&decide (Lib.index s ar+4≤2048))=true)
   (f:headQ (au (s.take (Lib.index s ar).toNat))=.good r n false) (hl:p.len=n) (g:p.r=r) (d:p.ch=none)
   (l:p.und=s.take ((Lib.index s ar).toNat+4)) (c:p.inp=s.drop ((Lib.index s ar).toNat+4)) :
  eT (if (aB p).2 then({ ps0 with inp:=(aB p).1.inp },some (aB p).1.r) else((aB p).1,none)).1 (if (aB p).2 then({ ps0 with inp:=(aB p).1.inp },some (aB p).1.r) else((aB p).1,none)).2 s:=by
 have a:=hi;simp only[Bool.and_eq_true,decide_eq_true_eq]at a;have j:=fG a.1;have h:aB p=if p.inp.length<p.len then(p,false) else({ p with r:={ p.r with b:=p.inp.take p.len },inp:=p.inp.drop p.len },true):=by unfold aB;rw[d]
 have k:bW s=if s.length<(Lib.index s ar).toNat+4+n then .more else .got { r with b:=(s.drop ((Lib.index s ar).toNat+4)).take n } ((Lib.index s ar).toNat+4+n):=by
  unfold bW;rw[hi,if_pos rfl,f];simp
 have e:p.inp.length=s.length - ((Lib.index s ar).toNat+4):=by rw[c,List.length_drop]
 unfold eT;rw[h,k];by_cases hs:p.inp.length<p.len
 ·rw[if_pos hs,if_pos (by omega)];exact⟨rfl,h0,.plain r n h0 i hi f hl g d l c⟩
 ·rw[if_neg hs,if_neg (by omega)];dsimp only;rw[if_pos rfl];refine⟨?_,?_⟩
  ·dsimp only;rw[g,c,hl]
  ·dsimp only;rw[c,hl,List.drop_drop]
theorem lY {p:Ps}{s:List UInt8}{r:Rq}{n:Nat}{c:Ck}{u:List UInt8}(w:p.bad=0)(z:p.head=true)(hi:(decide (0≤Lib.index s ar)&&decide (Lib.index s ar+4≤2048))=true)
   (t:headQ (au (s.take (Lib.index s ar).toNat))=.good r n true) (v:{ p.r with b:=[] }={ r with b:=[] }) (y:p.ch=some c) (hl:p.len=n)
   (hf:feedC ck0 u=(u.length,c)) (q:c.st≠4)
   (B:p.und=s.take ((Lib.index s ar).toNat+4)++u) (l:s.drop ((Lib.index s ar).toNat+4)=u++p.inp) :
  eT (if (aB p).2 then({ ps0 with inp:=(aB p).1.inp },some (aB p).1.r) else((aB p).1,none)).1 (if (aB p).2 then({ ps0 with inp:=(aB p).1.inp },some (aB p).1.r) else((aB p).1,none)).2 s:=by
 have k:=hi;simp only[Bool.and_eq_true,decide_eq_true_eq]at k;have A:=fG k.1;obtain⟨⟨m,c'⟩,g⟩:∃x,feedC c p.inp=x:=⟨_,rfl⟩;have d:=kB u p.inp ck0;rw[hf]at d;dsimp only at d;rw[g,←l]at d;dsimp only at d;have h:=kt (s.drop ((Lib.index s ar).toNat+4));rw[d]at h;dsimp only at h;have hm:=mt p.inp c;rw[g]at hm;dsimp only at hm;have o:aB p=({ cz p m with ch:=some c',bad:=c'.bad,r:={ p.r with b:=c'.data } },decide (c'.st=4∧c'.bad=0)):=by unfold aB;rw[y];dsimp only;rw[g]
 have j:bW s=if c'.bad≠0 then .bad c'.bad else if c'.st=4 then .got { r with b:=c'.data } ((Lib.index s ar).toNat+4+(u.length+m)) else .more:=by
  unfold bW;rw[hi,if_pos rfl,t];simp only[if_true];rw[d]
 by_cases a:c'.bad=0
 ·by_cases i:c'.st=4
  ·rw[if_neg (by simpa using a),if_pos i]at j;unfold eT;rw[o,j];dsimp only;rw[decide_eq_true (show c'.st=4∧c'.bad=0 from⟨i,a⟩),if_pos rfl];refine⟨?_,?_⟩
   ·dsimp only;have e1:{ p.r with b:=c'.data }={ r with b:=c'.data }:=by
     have:({ ({ p.r with b:=[] }:Rq)with b:=c'.data })={ ({ r with b:=[] }:Rq)with b:=c'.data }:=(by rw[v]);exact this
    rw[e1]
   ·dsimp only[cz];have e2:p.inp.drop m=s.drop ((Lib.index s ar).toNat+4+(u.length+m)):=by
     rw[←List.drop_drop,l,←List.drop_drop,List.drop_left]
    rw[e2]
  ·rw[if_neg (by simpa using a),if_neg i]at j;have f:m=p.inp.length:=by
    by_cases e:m<p.inp.length
    ·have:=nJ p.inp c (by rw[g];exact e);rw[g]at this;exact absurd this i
    ·omega
   unfold eT;rw[o,j];dsimp only;rw[decide_eq_false (show ¬(c'.st=4∧c'.bad=0)from λe=>i e.1),if_neg (by simp)];refine⟨rfl,a,.chunks r n c' (u++p.inp) a z hi t ?_ rfl hl ?_ i ?_ ?_⟩
   ·exact v
   ·rw[←l,d,l,qw,f]
   ·dsimp only[cz];rw[B,f,List.take_length,List.append_assoc]
   ·dsimp only[cz];rw[f,List.drop_length,List.append_nil,l]
 ·rw[if_pos a]at j;refine gN j ?_ ?_
  ·rw[o];dsimp only;rw[decide_eq_false (show ¬(c'.st=4∧c'.bad=0)from λe=>a e.2),if_neg (by simp)]
  ·rw[o];dsimp only;rw[decide_eq_false (show ¬(c'.st=4∧c'.bad=0)from λe=>a e.2),if_neg (by simp)]
theorem Stands.next {p:Ps}{s:List UInt8}(h:Stands p s):eT (bu p).1 (bu p).2 s:=by
 cases h with
 | wrong h0 h =>
  have d:=h [];rw[List.append_nil]at d;have e:bu p=(p,none):=by unfold bu;rw[if_pos h0]
  rw[e];exact gN d rfl rfl
 | plain r n h0 g hi a hl q k t o =>
  have e:bu p=if (aB p).2 then({ ps0 with inp:=(aB p).1.inp },some (aB p).1.r) else((aB p).1,none):=by
   unfold bu;rw[if_neg (by simpa using h0)];dsimp only;rw[if_pos g,g,if_neg (by simp)]
  rw[e];exact nD h0 g hi a hl q k t o
 | chunks r n c u h0 g hi a q k hl hf m t o =>
  have e:bu p=if (aB p).2 then({ ps0 with inp:=(aB p).1.inp },some (aB p).1.r) else((aB p).1,none):=by
   unfold bu;rw[if_neg (by simpa using h0)];dsimp only;rw[if_pos g,g,if_neg (by simp)]
  rw[e];exact lY h0 g hi a q k hl hf m t o
 | fresh h =>
  subst h;have e:bu { ps0 with inp:=s }=if !(aE { ps0 with inp:=s }).head then(aE { ps0 with inp:=s },none) else if (aB (aE { ps0 with inp:=s })).2 then({ ps0 with inp:=(aB (aE { ps0 with inp:=s })).1.inp },some (aB (aE { ps0 with inp:=s })).1.r) else((aB (aE { ps0 with inp:=s })).1,none):=by
   unfold bu;rw[if_neg (by simp[ps0])];rfl
  rw[e];cases b:(decide (0≤Lib.index s ar)&&decide (Lib.index s ar+4≤2048))with
  | false =>
   by_cases j:2048≤s.length
   ·have d:bW s=.bad 431:=(by unfold bW;rw[b,if_neg (by simp),if_pos j]);have f:aE { ps0 with inp:=s }={ ps0 with inp:=s,bad:=431 }:=by
     unfold aE;rw[b,if_neg (by simp),if_pos j]
    rw[f];exact gN d rfl rfl
   ·have d:bW s=.more:=(by unfold bW;rw[b,if_neg (by simp),if_neg j]);have f:aE { ps0 with inp:=s }={ ps0 with inp:=s }:=by
     unfold aE;rw[b,if_neg (by simp),if_neg j]
    rw[f];unfold eT;rw[d];exact⟨rfl,rfl,.fresh rfl⟩
  | true =>
   have i:=b;simp only[Bool.and_eq_true,decide_eq_true_eq]at i;have v:=fG i.1;cases a:headQ (au (s.take (Lib.index s ar).toNat))with
   | bad c =>
    have k:=lX a;have d:bW s=.bad c:=(by unfold bW;rw[b,if_pos rfl,a]);have l:eU { ps0 with inp:=s } (s.take (Lib.index s ar).toNat)={ ps0 with inp:=s,bad:=c }:=(by unfold eU;rw[a]);have f:aE { ps0 with inp:=s }={ ps0 with inp:=s,bad:=c }:=by
     unfold aE;rw[b,if_pos rfl];dsimp only;rw[l,if_neg (by show ¬c=0;omega)]
    rw[f];exact gN d rfl rfl
   | good r n ch =>
    have l:eU { ps0 with inp:=s } (s.take (Lib.index s ar).toNat)={ ps0 with inp:=s,r:=r,len:=n,ch:=if ch then some ck0 else none,bad:=0 }:=(by unfold eU;rw[a];rfl);have f:aE { ps0 with inp:=s }=cz { ps0 with inp:=s,r:=r,len:=n,ch:=if ch then some ck0 else none,bad:=0,head:=true } ((Lib.index s ar).toNat+4):=by
     unfold aE;rw[b,if_pos rfl];dsimp only;rw[l,if_pos rfl]
    rw[f];rw[if_neg (by simp[cz])];have w:=jH a;cases ch with
    | false =>
     refine nD rfl rfl b a rfl rfl rfl ?_ rfl;simp[cz,ps0]
    | true =>
     refine lY (c:=ck0) (u:=[]) rfl rfl b a rfl rfl rfl rfl (by decide) ?_ ?_
     ·simp[cz,ps0]
     ·simp[cz]
theorem Stands.rest {p:Ps}{s:List UInt8}(h:Stands p s):eN p=if p.bad≠0 then(p,[]) else(ps0,s):=by
 unfold eN;by_cases h0:p.bad=0
 ·rw[if_neg (by simpa using h0),if_neg (by simpa using h0),h.all h0]
 ·rw[if_pos h0,if_pos h0]
theorem D5 {s:List UInt8}{r:Rq}{n:Nat}(h:bW s=.got r n):n≤s.length∧4≤n:=by
 have:=ku s [];rw[h]at this;exact this.2
open Go.RowKit
attribute [local go_sem] Oper.semAt_some
theorem PsPost.next {B:Nat}{T f:Nat→Prop}{W h W2:World}{u q:Ps}{d i:Value}(s:PsAt B f h u d i)(b:Ch T W h)(g:(∀k,f k→T k∨W.heap.size≤k)∧∀a n c,d=.slice (some a) n c→(∃p c0,W.cell? ⟨B,7,none⟩=some (.slice (some a) p c0))∨W.heap.size≤a.block)(k:PsPost B f h q W2):PsPost B T W q W2:=by
 obtain⟨r,m,l,k1,k2,k3,k4⟩:=k;obtain⟨g,t⟩:=g;have hs:=b.size;refine⟨r,m,l,k1,?_,λj o=>?_,λa n c e=>(k4 a n c e).elim (λ⟨p,c0,e2⟩=>t a p c0 (Option.some.inj (s.c7.symm.trans e2))) (λe=>.inr (by omega))⟩
 ·refine⟨k2.os.trans b.os,k2.tape.trans b.tape,k2.output.trans b.output,qy b.size k2.size,λj o hn=>?_⟩;have:¬f j:=λe=>(g j e).elim hn (by omega);exact(k2.block j (by omega) this).trans (b.block j o hn)
 ·rcases k3 j o with e | e
  ·exact g j e
  ·exact .inr (by omega)
theorem nE (p:Ps)(a:List (List UInt8)):(eR p a).inp=p.inp∧(eR p a).und=p.und:=by
 unfold eR;cases headQ a <;> exact⟨rfl,rfl⟩
theorem zD (B:Nat)(T:Nat→Prop)(p:Ps)(Y cv:Value)(w:World)(P:G w)(h:PsAt B T w p Y cv)(hl:p.inp.length≤90000)(hu:p.und.length≤90000) :
  Calls prog 90 #[.pointer (some ⟨B,0,none⟩)] w λe w'=>e=.returned (.tuple #[])∧PsPost B T w (aE p) w':=by
 have a0:=qq P;have z:=qq h;have c0:=h.c0;have c12:=h.c12;have fz:=h.fz;have g:=qq (zo p.inp ar w P (by omega));by_cases h0:0≤Lib.index p.inp ar
 ·have j:=fG h0;obtain⟨k,m⟩:∃k:Nat,Lib.index p.inp ar=k:=⟨_,(Int.toNat_of_nonneg h0).symm⟩;rw[m,Int.toNat_natCast]at j;rw[m]at g;by_cases h4:k+4≤2048
  ·obtain⟨x,M⟩:∃x,p.inp.take k=x:=⟨_,rfl⟩;have S:x.length≤100000:=(by rw[←M,List.length_take];omega);have R:(⟨p.inp.toArray⟩:ByteArray).extract 0 k=⟨x.toArray⟩:=(by rw[av,M];rfl);have b:aE p=if fX (au x)=0 then cz { eR p (au x)with bad:=fX (au x),head:=true } (k+4) else { eR p (au x)with bad:=fX (au x) }:=by
    unfold aE;rw[m,if_pos (by simp;omega),Int.toNat_natCast,M,pq]
   obtain⟨U,V⟩:=nE p (au x);have l:=qq (AP B T p Y cv x w P h S);unfold ReadsPost at l;obtain⟨n,hn⟩:∃n,fX (au x)=n:=⟨_,rfl⟩;obtain⟨t,r⟩:∃t,eR p (au x)=t:=⟨_,rfl⟩;rw[hn,r]at b l;rw[r]at U V;have o:=qq b;have L:=qq U;have W:=qq V;have O:(k:Int)+4≤2048:=(by omega);have a1:(k:Int)≤p.inp.length:=(by omega);clear M b U V hn r m h0 h;go_enter func90,ntmps90;go_wp2_with fail;refine g.out.mono ?_;rintro e N⟨rfl,rfl⟩;go_wp2_with fail;refine l.out.mono ?_;rintro e w2⟨rfl,X,y,u,C,Z,hS⟩;have f:=qq C;have A:=qq Z;have E:=qq hS;replace c12:=C.c12;replace fz:=C.fz;have c2:=C.c2;clear c0 C Z hS g l R;by_cases q:n=0
   ·subst q;rw[show((0:Nat):Int)=0 from rfl];have D:=qq (show PsAt B X ((w2.setCell ⟨B,12,none⟩ (.int .i64 0)).setCell ⟨B,2,none⟩ (.bool true)) { t with bad:=0,head:=true } y u from(f.out.sbad 0).shead true);have s:=qq (po B X { t with bad:=0,head:=true } y u (k+4) _ D.out (by show k+4≤t.inp.length;rw[L.out];exact j) (by show t.inp.length+t.und.length≤_;rw[L.out,W.out];omega));rw[show((k+4:Nat):Int)=(k:Int)+4 by omega]at s;go_wp2_with fail;refine s.out.mono ?_;rintro e w3⟨rfl,I⟩;have J:=qq I;clear I s;go_wp2;refine bodyPost_ret (v:=.tuple #[]) (by simp[results,results90,go_sem]) rfl ⟨rfl,?_⟩;rw[o.out];simp only[if_true];exact PsPost.next f.out A.out E.out (PsPost.next D.out ((f.out.chT _).trans (Ch.setCell _ (a:=⟨B,2,none⟩) f.out.tb _)) ⟨λ_ m=>.inl m,λa n c e=>.inl ⟨n,c,e▸f.out.c7⟩⟩ J.out)
   ·have a2:((n:Int)==0)=false:=qk.2 (by omega);have F:=qq (show PsPost B T N (aE p) (w2.setCell ⟨B,12,none⟩ (.int .i64 n)) by
     rw[o.out,if_neg q];exact PsPost.next f.out A.out E.out (PsPost.put1 f.out _ (f.out.sbad n)))
    clear q;go_wp2;exact bodyPost_ret (v:=.tuple #[]) (by simp[results,results90,go_sem]) rfl ⟨rfl,F.out⟩
  ·have b:aE p=if 2048≤p.inp.length then { p with bad:=431 } else p:=by
    unfold aE;rw[m,if_neg (by simp;omega)]
   have d:2048≤p.inp.length:=(by omega);rw[if_pos d]at b;have o:=qq b;have O:¬(k:Int)+4≤2048:=(by omega);have H:(2048:Int)≤p.inp.length:=(by omega);clear b m h0 h h4;go_enter func90,ntmps90;go_wp2_with fail;refine g.out.mono ?_;rintro e N⟨rfl,rfl⟩;go_wp2;go_end0;exact⟨rfl,by rw[o.out];exact PsPost.put1 z.out _ (z.out.sbad 431)⟩
 ·have hm:Lib.index p.inp ar = -1:=by
   rcases Lib.index_spec p.inp ar with⟨e,_⟩ | ⟨i,e,_⟩
   ·exact e
   ·omega
  have b:aE p=if 2048≤p.inp.length then { p with bad:=431 } else p:=by
   unfold aE;rw[hm,if_neg (by decide)]
  rw[hm]at g;by_cases d:2048≤p.inp.length
  ·rw[if_pos d]at b;have o:=qq b;have H:(2048:Int)≤p.inp.length:=(by omega);clear b hm h0 h;go_enter func90,ntmps90;go_wp2_with fail;refine g.out.mono ?_;rintro e N⟨rfl,rfl⟩;go_wp2;go_end0;exact⟨rfl,by rw[o.out];exact PsPost.put1 z.out _ (z.out.sbad 431)⟩
  ·rw[if_neg d]at b;have o:=qq b;have H:¬(2048:Int)≤p.inp.length:=(by omega);clear b hm h0 h;go_enter func90,ntmps90;go_wp2_with fail;refine g.out.mono ?_;rintro e N⟨rfl,rfl⟩;go_wp2;go_end0;exact⟨rfl,by rw[o.out];exact PsPost.of_gr z.out (Gr.refl _)⟩
theorem PsAt.feedC {B b:Nat}{T:Nat→Prop}{W l:World}{p:Ps}{q:Value}{c':Ck}{lv dv:Value}(h:PsAt B T W p q (.pointer (some ⟨b,0,none⟩)))(hF:∀k,Fp b lv dv k→T k∧k≠B)(w:5<b)(r:CkOk c')(z:RdPost b lv dv W c' l) :
  ∃s,PsAt B s l { p with ch:=some c' } q (.pointer (some ⟨b,0,none⟩))∧Ch T W l∧(∀k,s k→T k∨W.heap.size≤k)∧∀a n c,q=.slice (some a) n c→(∃A c0,W.cell? ⟨B,7,none⟩=some (.slice (some a) A c0))∨W.heap.size≤a.block:=by
 obtain⟨j,g,t,i,m⟩:=z;have u:=i.size;have y:=h.lt;have cell:∀ {o v},W.cell? ⟨B,o,none⟩=some v→l.cell? ⟨B,o,none⟩=some v:=fun {o v} x=>(i.cell (p:=⟨B,o,none⟩) h.lt (λe=>(hF B e).2 rfl)).trans x;refine⟨λk=>T k∨Fp b j g k,⟨cell h.c0,cell h.c1,cell h.c2,cell h.c3,cell h.c4,cell h.c5,cell h.c6,cell h.c7,cell h.c8,cell h.c9,cell h.c10,cell h.c11,cell h.c12,
  λo=>(i.frozen (p:=⟨B,o,none⟩) h.lt (λe=>(hF B e).2 rfl)).trans (h.fz o),h.f.ch i (λa n c e d=>h.fo a n c e (hF _ d).1),?_,?_,.inl h.tb,?_,h.gb,λa n c e=>qj (h.fb a n c e) u⟩,i.mono (λk d=>(hF k d).1),?_,λa n c e=>.inl ⟨n,c,e▸h.c7⟩⟩
 ·intro a n c e d;rcases d with d | d
  ·exact h.fo a n c e d
  ·rcases m _ d with d | d
   ·exact h.fo a n c e (hF _ d).1
   ·have:=h.fb a n c e;omega
 ·refine⟨b,j,g,rfl,t,r,w,λk d=>⟨.inr d,?_⟩⟩;rcases m k d with d | d
  ·exact(hF k d).2
  ·omega
 ·intro k d;rcases d with d | d
  ·exact⟨(h.tl k d).1,qj (h.tl k d).2 u⟩
  ·refine⟨?_,(t.fp_lt k d).2⟩;rcases m k d with d | d
   ·exact(h.tl k (hF k d).1).1
   ·omega
 ·intro k d;rcases d with d | d
  ·exact .inl d
  ·exact(m k d).imp (λd=>(hF k d).1) id
theorem PsAt.sbody {B:Nat}{T:Nat→Prop}{W:World}{p:Ps}{d cv:Value}(h:PsAt B T W p d cv)(x:List UInt8) :
  PsAt B T (W.setCell ⟨B,8,none⟩ (.string ⟨x.toArray⟩)) { p with r:={ p.r with b:=x } } d cv:=by
 refine⟨?_,?_,?_,?_,?_,?_,?_,?_,?_,?_,?_,?_,?_,λo=>by simp[go_sem,h.fz],h.f.putB h.fo h.tb 8 _,h.fo,h.ch.put 8 _,h.tb,λk g=>⟨(h.tl k g).1,by simpa using(h.tl k g).2⟩,h.gb,λa n c e=>by simpa using h.fb a n c e⟩;all_goals simp[go_sem,h.c0,h.c1,h.c2,h.c3,h.c4,h.c5,h.c6,h.c7,h.c8,h.c9,h.c10,h.c11,h.c12]
theorem zE (B:Nat)(T:Nat→Prop)(p:Ps)(A cv:Value)(w:World)(h:PsAt B T w p A cv)(i:p.ch=none)(I:p.inp.length≤90000) :
  Calls prog 91 #[.pointer (some ⟨B,0,none⟩)] w λe w'=>e=.returned (.bool (aB p).2)∧PsPost B T w (aB p).1 w':=by
 have v:=qq h;have y:cv=.pointer none:=by have:=h.ch;rw[i]at this;exact this
 subst y;have d:aB p=if p.inp.length<p.len then(p,false) else({ p with r:={ p.r with b:=p.inp.take p.len },inp:=p.inp.drop p.len },true):=by unfold aB;rw[i]
 have c11:=h.c11;haveI:Nonempty (Later (Gr w)):=⟨⟨w,Gr.refl w⟩⟩;have D:∀x:Later (Gr w),x.w.cell? ⟨B,0,none⟩=some (.string ⟨p.inp.toArray⟩):=λx=>x.ok.cell h.c0;have t:∀x:Later (Gr w),x.w.cell? ⟨B,10,none⟩=some (.int .i64 p.len):=λx=>x.ok.cell h.c10;by_cases hs:p.inp.length<p.len
 ·rw[if_pos hs]at d;have s:=qq d;have z:(p.inp.length:Int)<p.len:=by omega
  clear d i h hs;go_enter func91,ntmps91;go_upto_region 2 with(fail);refine ah (C:=Gr w) (by kernel_rfl) (by kernel_rfl) (Gr.drew' _) ?_;repeat (go_big_quiet_step (fail))
  refine wpQuiet_nil ?_;intro E f;have u:=qq f;clear D t f;go_wp2;go_ret;exact⟨by rw[s.out];rfl,by rw[s.out];exact PsPost.of_gr v.out u.out⟩
 ·rw[if_neg hs]at d;have z:(p.len:Int)≤p.inp.length:=by omega
  have m:(⟨p.inp.toArray⟩:ByteArray).extract 0 p.len=⟨(p.inp.take p.len).toArray⟩:=by rw[av];rfl
  have o:(⟨p.inp.toArray⟩:ByteArray).extract p.len p.inp.length=⟨(p.inp.drop p.len).toArray⟩:=by rw[av,List.take_of_length_le (qv _)]
  obtain⟨F,j⟩:∃x,p.inp.take p.len=x:=⟨_,rfl⟩;obtain⟨H,k⟩:∃x,p.inp.drop p.len=x:=⟨_,rfl⟩;rw[j,k]at d;rw[j]at m;rw[k]at o;have s:=qq d;clear d i h hs j k;go_enter func91,ntmps91;go_upto_region 2 with(fail);refine ah (C:=Gr w) (by kernel_rfl) (by kernel_rfl) (Gr.drew' _) ?_;repeat (go_big_quiet_step (fail))
  refine wpQuiet_nil ?_;intro E f;have u:=qq f;clear f;go_upto_region 4 with(fail);have l:=v.out.gr u.out;have g:=qq l;have c0:=l.c0;have c8:=l.c8;have c10:=l.c10;have fz:=l.fz;clear D t l;have q:=qq (show PsPost B T w (aB p).1 ((E.setCell ⟨B,8,none⟩ (.string ⟨F.toArray⟩)).setCell ⟨B,0,none⟩ (.string ⟨H.toArray⟩)).drew by
   rw[s.out];exact PsPost.behind (PsPost.ahead v.out.lt u.out ⟨T,A,_,(g.out.sbody F).inp H,(g.out.chT _).trans (Ch.setCell _ (a:=⟨B,0,none⟩) g.out.tb _),λ_ J=>.inl J,λa n c e=>.inl ⟨n,c,e▸g.out.c7⟩⟩) (Gr.drew' _))
  go_region;go_wp2;go_ret;exact⟨by rw[s.out];rfl,q.out⟩
theorem zF (B:Nat)(T:Nat→Prop)(p:Ps)(fv cv:Value)(c:Ck)(w:World)(hG:G w)(h:PsAt B T w p fv cv)(C:p.ch=some c)(hl:p.inp.length≤90000)(hu:p.und.length≤90000) :
  Calls prog 91 #[.pointer (some ⟨B,0,none⟩)] w λe w'=>e=.returned (.bool (aB p).2)∧PsPost B T w (aB p).1 w':=by
 have a3:=qq hG;have h':=qq h;have hc:=h.ch;rw[C]at hc;obtain⟨b,lv,dv,rfl,hR,D,hb,hF⟩:=hc;have a4:=qq hR;have a2:=qq hF;have O:=qq hb;have V:=qq D;have t:aB p=({ cz p (feedC c p.inp).1 with ch:=some (feedC c p.inp).2,bad:=(feedC c p.inp).2.bad,r:={ p.r with b:=(feedC c p.inp).2.data } },decide ((feedC c p.inp).2.st=4∧(feedC c p.inp).2.bad=0)):=by unfold aB;rw[C]
 have l:=mt p.inp c;have f:=mr p.inp D;obtain⟨⟨m,c'⟩,hf⟩:∃x,feedC c p.inp=x:=⟨_,rfl⟩;rw[hf]at t l f;dsimp only at t l f;have X:=qq f;have a8:=qq hf;have hq:=qq t;have c11:=h.c11;have c0:=h.c0;clear t C h hR hF hb hf D f;have R:=qq (λW hg=>BY b c c' p.inp m a8.out lv dv W (a3.out.gr hg) (Nat.lt_of_le_of_lt (by decide) O.out) (a4.out.gr hg) V.out (by omega));go_enter func91,ntmps91;go_upto_region 6 with(fail)
 go_region_with (first
  |(go_at_call 108;refine(R.out _ (Gr.drew' _)).mono ?_;rintro e w1 ⟨rfl,Z⟩;obtain⟨T1,I,F,M⟩:=(h'.out.gr (Gr.drew' _)).feedC a2.out O.out X.out Z;have i:=qq I;have u:=qq F;have v:=qq M;clear Z I F M)
  |(go_at_call 107;refine(po B T1 _ fv _ m _ i.out l (by show p.inp.length+p.und.length≤_;omega)).mono ?_;rintro e w2 ⟨rfl,a0⟩;have o:=qq a0;clear a0))
 all_goals
  obtain⟨p3,s⟩:∃x,cz { p with ch:=some c' } m=x:=⟨_,rfl⟩;have j:=qq (show ∀W,PsPost B T1 w1 { { p3 with bad:=c'.bad }with r:={ p3.r with b:=c'.data } } W→PsPost B T w (aB p).1 W from λW hW=>by
   rw[hq.out];subst s;exact PsPost.ahead h'.out.lt (Gr.drew' _) (PsPost.next i.out u.out v.out hW))
  have hd:=qq (show(aB p).2=decide (c'.st=4∧c'.bad=0) by rw[hq.out]);rw[s]at o;obtain⟨T2,a1,a9,d,H,N⟩:=o.out;have y:=d.ch;have P:p3.ch=some c':=by rw[←s];rfl
  rw[P]at y;obtain⟨E,q,g,a7,A,Y,a6,z⟩:=y;subst a7;replace c11:=d.c11;have c12:=d.c12;have c8:=d.c8;have fz:=d.fz;have J:=qq A;have L:=qq (show Rd E (w2.setCell ⟨B,12,none⟩ (.int .i64 c'.bad)) c' q g from A.ch (Ch.putB w2 _) (λk U hf=>(z k hf).2 U));have a5:=qq (show Rd E ((w2.setCell ⟨B,12,none⟩ (.int .i64 c'.bad)).setCell ⟨B,8,none⟩ (.string ⟨c'.data.toArray⟩)) c' q g from L.out.ch (Ch.putB _ _) (λk U hf=>(z k hf).2 U));have S:=qq (j.out _ (PsPost.next d H N ⟨T2,a1,_,(d.sbad c'.bad).sbody c'.data,(d.chT _).trans (Ch.setCell _ (a:=⟨B,8,none⟩) d.tb _),λ_ U=>.inl U,λa n c e=>.inl ⟨n,c,e▸d.c7⟩⟩));clear s o d H N P Y a6 z A j c0 i u v R;go_wp2_with fail;refine(DT E c' q g _ J.out).mono ?_;rintro e w3⟨rfl,rfl⟩;go_wp2_with fail;refine(BV E c' q g _ L.out).mono ?_;rintro e w3⟨rfl,rfl⟩;go_wp2_with fail;refine(DV E c' _ rfl q g _ a5.out).mono ?_;rintro e w3⟨rfl,rfl⟩;rw[←hd.out];go_wp2;go_ret;exact⟨rfl,S.out⟩
theorem vH (p:Ps):(aE p).inp.length+(aE p).und.length=p.inp.length+p.und.length:=by
 unfold aE;split
 ·rw[pq];obtain⟨a,b⟩:=nE p (au (p.inp.take (Lib.index p.inp ar).toNat));split
  ·unfold cz;dsimp only;rw[a,b,qw,List.length_take,List.length_drop];omega
  ·dsimp only;rw[a,b]
 ·split <;> rfl
theorem Cw (B:Nat)(T:Nat→Prop)(p:Ps)(a cv:Value)(w:World)(d:G w)(h:PsAt B T w p a cv)(hl:p.inp.length≤90000)(f:p.und.length≤90000) :
  Calls prog 91 #[.pointer (some ⟨B,0,none⟩)] w λe w'=>e=.returned (.bool (aB p).2)∧PsPost B T w (aB p).1 w':=by
 cases b:p.ch with
 | none=>exact zE B T p a cv w h b hl
 | some c=>exact zF B T p a cv c w d h b hl f
theorem PsPost.keep {B:Nat}{T:Nat→Prop}{W b:World}{e:Ps}(h:PsPost B T W e b){a:Addr}{v:Value}(c:W.cell? a=some v)(hn:¬T a.block):b.cell? a=some v:=by
 obtain⟨_,_,_,_,d,_,_⟩:=h;exact(d.cell (ae c) hn).trans c
theorem PsPost.keepf {B:Nat}{T:Nat→Prop}{W a:World}{f:Ps}(h:PsPost B T W f a){b:Nat}(d:b<W.heap.size)(hn:¬T b)(e:∀o,W.frozen? ⟨b,o,none⟩=false):∀o,a.frozen? ⟨b,o,none⟩=false:=by
 obtain⟨_,_,_,_,c,_,_⟩:=h;exact λo=>(c.frozen (p:=⟨b,o,none⟩) d hn).trans (e o)
theorem PsAt.reset {B:Nat}{T:Nat→Prop}{W:World}{p:Ps}{d cv:Value}(h:PsAt B T W p d cv)(i:List UInt8) :
  PsAt B T (((((((((((((W.setCell ⟨B,0,none⟩ (.string ⟨i.toArray⟩)).setCell ⟨B,1,none⟩ (.string ⟨#[]⟩)).setCell ⟨B,2,none⟩ (.bool false)).setCell ⟨B,3,none⟩ (.string ⟨#[]⟩)).setCell ⟨B,4,none⟩ (.string ⟨#[]⟩)).setCell ⟨B,5,none⟩ (.string ⟨#[]⟩)).setCell ⟨B,6,none⟩ (.int .i64 0)).setCell ⟨B,7,none⟩ (.slice none 0 0)).setCell ⟨B,8,none⟩ (.string ⟨#[]⟩)).setCell ⟨B,9,none⟩ (.bool false)).setCell ⟨B,10,none⟩ (.int .i64 0)).setCell ⟨B,11,none⟩ (.pointer none)).setCell ⟨B,12,none⟩ (.int .i64 0))
   { ps0 with inp:=i } (.slice none 0 0) (.pointer none):=by
 refine⟨?_,?_,?_,?_,?_,?_,?_,?_,?_,?_,?_,?_,?_,λo=>by simp[go_sem,h.fz],⟨none,0,rfl,λi hi=>absurd hi (Nat.not_lt_zero _)⟩,λa n c e=>(by cases e),rfl,h.tb,λk b=>⟨(h.tl k b).1,by simpa using(h.tl k b).2⟩,h.gb,λa n c e=>(by cases e)⟩;all_goals simp[go_sem,h.c0,h.c1,h.c2,h.c3,h.c4,h.c5,h.c6,h.c7,h.c8,h.c9,h.c10,h.c11,h.c12,ps0,rq0]
theorem Cx {B:Nat}{T:Nat→Prop}(b:T B)(W:World)(f g h i j k l m n o c d e:Value) :
  Ch T W (((((((((((((W.setCell ⟨B,0,none⟩ f).setCell ⟨B,1,none⟩ g).setCell ⟨B,2,none⟩ h).setCell ⟨B,3,none⟩ i).setCell ⟨B,4,none⟩ j).setCell ⟨B,5,none⟩ k).setCell ⟨B,6,none⟩ l).setCell ⟨B,7,none⟩ m).setCell ⟨B,8,none⟩ n).setCell ⟨B,9,none⟩ o).setCell ⟨B,10,none⟩ c).setCell ⟨B,11,none⟩ d).setCell ⟨B,12,none⟩ e) :=
 ((((((((((((Ch.setCell W (a:=⟨B,0,none⟩) b _).trans (Ch.setCell _ (a:=⟨B,1,none⟩) b _)).trans (Ch.setCell _ (a:=⟨B,2,none⟩) b _)).trans (Ch.setCell _ (a:=⟨B,3,none⟩) b _)).trans (Ch.setCell _ (a:=⟨B,4,none⟩) b _)).trans (Ch.setCell _ (a:=⟨B,5,none⟩) b _)).trans (Ch.setCell _ (a:=⟨B,6,none⟩) b _)).trans (Ch.setCell _ (a:=⟨B,7,none⟩) b _)).trans (Ch.setCell _ (a:=⟨B,8,none⟩) b _)).trans (Ch.setCell _ (a:=⟨B,9,none⟩) b _)).trans (Ch.setCell _ (a:=⟨B,10,none⟩) b _)).trans (Ch.setCell _ (a:=⟨B,11,none⟩) b _)).trans (Ch.setCell _ (a:=⟨B,12,none⟩) b _)
theorem F1 {R:Nat}{T:Nat→Prop}(b:T R)(W:World)(c d e f g h i:Value) :
  Ch T W (((((((W.setCell ⟨R,0,none⟩ c).setCell ⟨R,1,none⟩ d).setCell ⟨R,2,none⟩ e).setCell ⟨R,3,none⟩ f).setCell ⟨R,4,none⟩ g).setCell ⟨R,5,none⟩ h).setCell ⟨R,6,none⟩ i) :=
 ((((((Ch.setCell W (a:=⟨R,0,none⟩) b _).trans (Ch.setCell _ (a:=⟨R,1,none⟩) b _)).trans (Ch.setCell _ (a:=⟨R,2,none⟩) b _)).trans (Ch.setCell _ (a:=⟨R,3,none⟩) b _)).trans (Ch.setCell _ (a:=⟨R,4,none⟩) b _)).trans (Ch.setCell _ (a:=⟨R,5,none⟩) b _)).trans (Ch.setCell _ (a:=⟨R,6,none⟩) b _)
def rqO:Option Rq→Rq
 | none=>rq0
 | some r=>r
theorem PsPost.apart {B R:Nat}{T:Nat→Prop}{w j W:World}{p m:Ps}{f d:Value}(h:PsAt B T w p f d)(z:R=w.heap.size)(g:Gr w j)(u:R<j.heap.size)(v:PsPost B T j m W) :
  ∃T' b cv,PsAt B T' W m b cv∧Ch T w W∧(∀k,T' k→T k∨w.heap.size≤k)∧¬T' R∧(∀a n c,b=.slice (some a) n c→a.block≠R):=by
 obtain⟨T',b,cv,o,q,l,r⟩:=v;have t:∀k,T k→k<w.heap.size:=λk i=>(h.tl k i).2;have x:=Below.size g;refine⟨T',b,cv,o,(g.to_ch T).trans q,λk i=>(l k i).imp id (λe=>by omega),λe=>?_,λa n c e=>?_⟩
 ·rcases l R e with e | e
  ·have:=t R e;omega
  ·omega
 ·rcases r a n c e with⟨y,c0,e2⟩ | e2
  ·have s:=g.cell h.c7;rw[s]at e2;have:=h.fb a y c0 (Option.some.inj e2);omega
  ·omega
