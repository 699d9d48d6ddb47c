/-
  Plain laws of steps around a handler: no program in sight.
-/
import Derived.Test.YtadobobfjnmdlaaGreatDoorNb
import Derived.Lib.Split
import Derived.Lib.SplitLaws
import Derived.Lib.AtoiAll
import Derived.Laws.OwnMore
import Derived.Deep.Onto
import Derived.Maps.AppendAt
set_option linter.unnecessarySimpa false
set_option linter.unusedVariables false
set_option linter.unusedSimpArgs false
set_option maxHeartbeats 16000000
set_option maxRecDepth 100000
open Go.Proofs.Tryz
namespace Go.Proofs.YtadobobfjnmdlaaGreatDoor
structure Rq where
 m:List UInt8
 p:List UInt8
 q:List UInt8
 v:Int
 fs:List (List UInt8×List UInt8)
 b:List UInt8
 c:Bool
structure Rp where
 code:Int
 fs:List (List UInt8×List UInt8)
 b:List UInt8
def ba:List UInt8:=[13,10]
def ar:List UInt8:=[13,10,13,10]
def au:List UInt8→List (List UInt8)
 | []=>[[]]
 | c :: t =>
  if c=13∧t.head?=some 10 then [] :: au t.tail
  else match au t with
   | []=>[[c]]
   | l :: r=>(c :: l) :: r
termination_by l=>l.length
decreasing_by all_goals (simp;try omega)
theorem ly (l:List UInt8):au l≠[]:=by
 cases l with
 | nil=>simp[au]
 | cons c t =>
  unfold au;split
  ·simp
  ·split <;> simp
theorem gO (t:List UInt8):au (13 :: 10 :: t)=[] :: au t:=by
 rw[au];simp
theorem ed {c:UInt8}{t:List UInt8}(h:¬(c=13∧t.head?=some 10)):au (c :: t)=(c :: (au t).headD []) :: (au t).tail:=by
 rw[au,if_neg h];cases e:au t with
 | nil=>exact absurd e (ly t)
 | cons l r=>rfl
theorem lz:∀(i:Nat) (s:List UInt8),i≤s.length→Lib.occAt s ba i=true→(∀j,j<i→Lib.occAt s ba j=false)→au s=s.take i :: au (s.drop (i+2))
 | 0,s,_,h,_=>by
  match s,h with
  | 13 :: 10 :: t,_=>rw[gO];rfl
  | [],h=>simp[Lib.occAt,ba]at h
  | [a],h=>simp[Lib.occAt,ba]at h
  | a :: b :: t,h =>
   simp[Lib.occAt,ba]at h;obtain⟨rfl,rfl⟩:=h;rw[gO];rfl
 | i+1,[],hi,_,_=>by simp at hi
 | i+1,c :: t,hi,h,hno=>by
  have h0:=hno 0 (by omega);have g:¬(c=13∧t.head?=some 10):=by
   rintro⟨rfl,e⟩;cases t with
   | nil=>simp at e
   | cons d t=>simp at e;subst e;simp[Lib.occAt,ba]at h0
  rw[ed g,lz i t (by simpa using hi) h (λj l=>hno (j+1) (by omega))];rfl
theorem iC:∀(s:List UInt8),(∀j,j≤s.length→Lib.occAt s ba j=false)→au s=[s]
 | [],_=>by simp[au]
 | c :: t,hno=>by
  have h0:=hno 0 (by omega);have b:¬(c=13∧t.head?=some 10):=by
   rintro⟨rfl,a⟩;cases t with
   | nil=>simp at a
   | cons d t=>simp at a;subst a;simp[Lib.occAt,ba]at h0
  rw[ed b,iC t (λj e=>hno (j+1) (by simp;omega))];rfl
theorem pF:∀(n:Nat) (s:List UInt8),s.length≤n→∀f,s.length<f→Lib.splitK ba 0 (Lib.countFrom ba f s) s=au s
 | n,s,hn,f,hf=>by
  obtain⟨f,rfl⟩:∃g,f=g+1:=⟨f - 1,by omega⟩;rcases Lib.index_spec s ba with⟨h,b⟩ | ⟨i,h,hi,l,b⟩
  ·unfold Lib.countFrom;rw[h,if_pos (by decide)];rw[iC s b];rfl
  ·have a:=Lib.index_room s ba (by rw[h];omega);rw[h]at a;have c:ba.length=2:=rfl;rw[c]at a;unfold Lib.countFrom;rw[h,if_neg (by intro e;have:=eq_of_beq e;omega),Nat.add_comm 1];unfold Lib.splitK;rw[h,if_neg (by intro e;have:=eq_of_beq e;omega),Int.toNat_natCast,c,Nat.add_zero];rw[lz i s hi l (λj d=>b j d)];cases n with
   | zero=>omega
   | succ n =>
    rw[pF n (s.drop (i+2)) (by rw[List.length_drop];omega) f (by rw[List.length_drop];omega)]
theorem Cy (s:List UInt8):Lib.split s ba=au s:=pF s.length s (qv _) _ (Nat.lt_succ_self _)
def dq:List UInt8:=[67,111,110,116,101,110,116,45,76,101,110,103,116,104]
def ky:List UInt8:=[84,114,97,110,115,102,101,114,45,69,110,99,111,100,105,110,103]
def cx:List UInt8:=[67,111,110,110,101,99,116,105,111,110]
def el:List UInt8:=[99,108,111,115,101]
def aU (c:Int):List UInt8 :=
 if c=101 then [83,119,105,116,99,104,105,110,103,32,80,114,111,116,111,99,111,108,115]
 else if c=200 then [79,75]
 else if c=400 then [66,97,100,32,82,101,113,117,101,115,116]
 else if c=403 then [70,111,114,98,105,100,100,101,110]
 else if c=404 then [78,111,116,32,70,111,117,110,100]
 else if c=405 then [77,101,116,104,111,100,32,78,111,116,32,65,108,108,111,119,101,100]
 else if c=413 then [67,111,110,116,101,110,116,32,84,111,111,32,76,97,114,103,101]
 else if c=426 then [85,112,103,114,97,100,101,32,82,101,113,117,105,114,101,100]
 else if c=431 then [82,101,113,117,101,115,116,32,72,101,97,100,101,114,32,70,105,101,108,100,115,32,84,111,111,32,76,97,114,103,101]
 else [83,116,97,116,117,115]
def bF (c:Int):Bool:=decide (c<200)||(c==204||c==304)
def bH (c:Int)(f:List UInt8×List UInt8):Bool :=
 decide (ax (f.1++[58]++f.2)=(f.1,f.2,true))&&!(an f.1 dq||(an f.1 ky||(c != 101&&an f.1 cx)))
def cK (r:Rp):Bool :=
 decide (100≤r.code)&&(decide (r.code≤599)&&(!(bF r.code&&!r.b.isEmpty)&&(decide (r.b.length≤65536)&&r.fs.all (bH r.code))))
def bX (r:Rp)(close:Bool):List (List UInt8) :=
 [aC++Lib.itoa r.code++[32]++aU r.code]++r.fs.map (λf=>f.1++[58,32]++f.2)++(if bF r.code then [] else [dq++[58,32]++Lib.itoa r.b.length])++(if close then [cx++[58,32]++el] else [])
def eM (r:Rp)(close:Bool):List UInt8:=(bX r close).flatMap (·++ba)++ba
def cL (r:Rp)(head close:Bool):Option (List UInt8) :=
 if !cK r||(close&&r.code==101) then none else some (eM r close++if head then [] else r.b)
def dN (s:List UInt8):Option Nat:=if !s.isEmpty&&(decide (s.length≤6)&&s.all dQ) then Lib.decNat s else none
abbrev HdSt:=List (List UInt8×List UInt8)×Bool×Option Nat
def jg (c:Int)(st:HdSt)(l:List UInt8):Option HdSt :=
 if !(ax l).2.2||an (ax l).1 ky then none
 else if an (ax l).1 dq then(if st.2.2.isNone then(dN (ax l).2.1).map λn=>(st.1,st.2.1,some n) else none)
 else if c != 101&&an (ax l).1 cx then(if !st.2.1&&(ax l).2.1==el then some (st.1,true,st.2.2) else none)
 else some (st.1++[((ax l).1,(ax l).2.1)],st.2.1,st.2.2)
def dw (c:Int):HdSt→List (List UInt8)→Option HdSt
 | st,[]=>some st
 | st,l :: t=>(jg c st l).bind λst'=>dw c st' t
theorem lA (c:Int):∀(a b:List (List UInt8)) (st:HdSt),dw c st (a++b)=(dw c st a).bind λd=>dw c d b
 | [],b,st=>rfl
 | l :: t,b,st=>by
  simp only[List.cons_append,dw];cases jg c st l with
  | none=>rfl
  | some d=>exact lA c t b d
def fH (ls:List (List UInt8)):Option (Nat×HdSt) :=
 match dh (ls.headD [])with
 |(c,_,true)=>(dw c ([],false,none) ls.tail).bind λst=>if bF c==st.2.2.isNone then some (c,st) else none
 | _=>none
inductive Rd10 where
 | good (r:Rp) (close:Bool) (n:Nat)
 | bad (e:Nat)
def aP (s:List UInt8)(head:Bool):Rd10 :=
 if Lib.index s ar = -1 then(if s.length<65536 then .bad 7 else .bad 8)
 else match fH (au (s.take (Lib.index s ar).toNat))with
  | none=>.bad 8
  | some (c,fs,close,n) =>
   let at4:=(Lib.index s ar).toNat+4
   let k:=if head then 0 else n.getD 0
   if s.length<at4+k then .bad 7 else .good ⟨c,fs,(s.drop at4).take k⟩ close (at4+k)
def dj:List (List UInt8)→List UInt8
 | []=>[]
 | [l]=>l
 | l :: t=>l++ba++dj t
theorem gP {l:List UInt8}{t:List (List UInt8)}(h:t≠[]):dj (l :: t)=l++ba++dj t:=by
 cases t with
 | nil=>exact absurd rfl h
 | cons a b=>rfl
theorem pG:∀(c:List (List UInt8)),c≠[]→c.flatMap (·++ba)=dj c++ba
 | [l],_=>by simp[dj]
 | l :: a :: b,_=>by
  rw[List.flatMap_cons,pG (a :: b) (by simp),gP (List.cons_ne_nil a b)];simp
def iD (l:List UInt8):Prop:=l≠[]∧∀c∈l,c≠13
theorem vI {l t:List UInt8}(h:∀c∈l,c≠13):au (l++13 :: 10 :: t)=l :: au t:=by
 induction l with
 | nil=>exact gO t
 | cons c l b =>
  rw[List.cons_append,ed (λe=>h c (by simp) e.1),b (λx a=>h x (by simp[a]))];rfl
theorem vJ {l:List UInt8}(h:∀c∈l,c≠13):au l=[l]:=by
 induction l with
 | nil=>simp[au]
 | cons c l b =>
  rw[ed (λe=>h c (by simp) e.1),b (λx a=>h x (by simp[a]))];rfl
theorem nF:∀(c:List (List UInt8)),c≠[]→(∀l∈c,iD l)→au (dj c)=c
 | [l],_,h=>vJ (h l (by simp)).2
 | l :: a :: b,_,h=>by
  rw[gP (by simp),ba,List.append_assoc];show au (l++13 :: 10 :: dj (a :: b))=_;rw[vI (h l (by simp)).2,nF (a :: b) (by simp) (λx d=>h x (by simp[d]))]
theorem jJ {c:UInt8}{t:List UInt8}(h:List.isPrefixOf ar (c :: t)=false)(hi:0≤Lib.index t ar):Lib.index (c :: t) ar=Lib.index t ar+1:=by
 rw[Lib.index,h];have:(Lib.index t ar==-1)=false:=qk.2 (by omega);simp[this]
theorem nG {l x:List UInt8}(h:∀c∈l,c≠13)(hi:0≤Lib.index x ar):Lib.index (l++x) ar=l.length+Lib.index x ar:=by
 induction l with
 | nil=>simp
 | cons c l a =>
  have a:=a (λy b=>h y (by simp[b]));rw[List.cons_append,jJ (by simp[ar,List.isPrefixOf,Ne.symm (h c (by simp))]) (by rw[a];omega),a];simp only[List.length_cons];omega
theorem pH (x:List UInt8):Lib.index (ar++x) ar=0:=by
 show Lib.index (13 :: ([10,13,10]++x)) ar=0;rw[Lib.index];simp[ar,List.isPrefixOf]
theorem nH:∀(m:List (List UInt8)) (x:List UInt8),m≠[]→(∀l∈m,iD l)→Lib.index (dj m++(ar++x)) ar=(dj m).length
 | [l],x,_,h=>by
  show Lib.index (l++(ar++x)) ar=l.length;rw[nG (h l (by simp)).2 (by rw[pH];omega),pH];simp
 | l :: a :: b,x,_,h=>by
  have j:=nH (a :: b) x (by simp) (λy g=>h y (by simp[g]));rw[gP (by simp),List.append_assoc,List.append_assoc];obtain⟨c,y,g⟩:∃c y,dj (a :: b)++(ar++x)=c :: y∧c≠13:=by
   obtain⟨o,i⟩:=h a (by simp);cases a with
   | nil=>exact absurd rfl o
   | cons c a =>
    cases b with
    | nil=>exact⟨c,_,rfl,i c (by simp)⟩
    | cons d e=>exact⟨c,_,by rw[gP (by simp)];rfl,i c (by simp)⟩
  obtain⟨g,i⟩:=g;have e1:Lib.index (ba++(dj (a :: b)++(ar++x))) ar=2+Lib.index (dj (a :: b)++(ar++x)) ar:=by
   show Lib.index (13 :: 10 :: (dj (a :: b)++(ar++x))) ar=_;have n:Lib.index (10 :: (dj (a :: b)++(ar++x))) ar=Lib.index (dj (a :: b)++(ar++x)) ar+1 :=
    jJ (by simp[ar,List.isPrefixOf]) (by rw[j];omega)
   rw[jJ (by rw[g];simp[ar,List.isPrefixOf,Ne.symm i]) (by rw[n,j];omega),n];omega
  rw[nG (h l (by simp)).2 (by rw[e1,j];omega),e1,j];simp[ba];omega
structure Ck where
 st:Nat
 line:List UInt8
 left:Nat
 data:List UInt8
 nf:Nat
 tail:Nat
 bad:Nat
def ck0:Ck:=⟨0,[],0,[],0,0,0⟩
def bC (r:Ck)(c:Nat):Ck:={ r with st:=4,bad:=c }
def lB (c:UInt8):Nat:=if 97≤c then c.toNat - 87 else if 65≤c then c.toNat - 55 else c.toNat - 48
def hZ (l:List UInt8):Nat:=l.foldl (λx c=>16*x+lB c) 0
def iE (s:List UInt8):Option Nat :=
 if (Lib.cut s [59]).2.1.all aT&&(!(Lib.cut s [59]).1.isEmpty&&(decide ((Lib.cut s [59]).1.length≤8)&&(Lib.cut s [59]).1.all dM)) then some (hZ (Lib.cut s [59]).1) else none
def gz (r:Ck)(s:List UInt8):Ck :=
 match iE s with
 | none=>bC r 400
 | some n=>if 4096<r.data.length+n then bC r 413 else if n=0 then { r with st:=3 } else { r with st:=1,left:=n }
def ee (r:Ck)(s:List UInt8):Ck :=
 if s.isEmpty then { r with st:=4 } else if (ax s).2.2 then(if 32≤r.nf then { r with nf:=r.nf+1,st:=4,bad:=431 } else { r with nf:=r.nf+1 }) else { r with nf:=r.nf+1,st:=4,bad:=400 }
def crB (l:List UInt8):Bool:=l.getLast?==some 13
def aw (r0:Ck)(c:UInt8):Ck :=
 let r:=if r0.st=3 then { r0 with tail:=r0.tail+1 } else r0
 if 2048<r.tail then bC r 431
 else if crB r.line != (c==10) then bC r 400
 else if crB r.line then(if r.st=0 then gz { r with line:=[] } r.line.dropLast else ee { r with line:=[] } r.line.dropLast)
 else if r.st=0∧r.line.length=2048 then bC r 431
 else { r with line:=r.line++[c] }
def nI (r:Ck)(c:UInt8):Ck :=
 if c=(if r.line.isEmpty then 13 else 10) then(if c=10 then { r with line:=[],st:=0 } else { r with line:=r.line++[c] }) else bC r 400
def tj (r:Ck)(c:UInt8):Ck:={ r with data:=r.data++[c],left:=r.left - 1,st:=if r.left=1 then 2 else 1 }
def eY (r:Ck)(c:UInt8):Ck:=if r.st=1 then tj r c else if r.st=2 then nI r c else aw r c
def feedC:Ck→List UInt8→Nat×Ck
 | r,[]=>(0,r)
 | r,c :: t=>if r.st=4 then(0,r) else((feedC (eY r c) t).1+1,(feedC (eY r c) t).2)
structure CkOk (r:Ck):Prop where
 st:r.st≤4
 one:r.st=1→1≤r.left∧r.line=[]∧r.data.length+r.left≤4096
 two:r.st=2→r.line=[]∨r.line=[13]
 zero:r.st=0→r.line.length≤2048∧r.tail=0∧r.nf=0
 three:r.st=3→r.line.length≤r.tail∧r.tail≤2048∧r.nf≤32
 data:r.data.length≤4096
 live:r.st≠4→r.bad=0∧r.nf≤32∧r.tail≤2048
 ends:r.st=4→r.nf≤33∧r.tail≤2049∧r.line.length≤2048∧r.left≤4096
 early:r.st=1∨r.st=2→r.tail=0∧r.nf=0∧r.left≤4096
 left:r.left≤4096
 codes:r.bad=0∨r.bad=400∨r.bad=413∨r.bad=431
theorem Cz:CkOk ck0:=⟨by decide,by decide,by decide,by decide,by decide,by decide,by decide,by decide,by decide,by decide,.inl rfl⟩
theorem fI {r:Ck}{c:Nat}(i:c=400∨c=413∨c=431)(b:r.data.length≤4096)(d:r.nf≤33)(e:r.tail≤2049)(g:r.line.length≤2048)(a:r.left≤4096):CkOk (bC r c) :=
 ⟨by simp[bC],λh=>by simp[bC]at h,λh=>by simp[bC]at h,λh=>by simp[bC]at h,λh=>by simp[bC]at h,b,λh=>absurd rfl h,λ_=>⟨d,e,g,a⟩,λh=>by simp[bC]at h,a,.inr i⟩
theorem D6 {r:Ck}(s:List UInt8)(a:r.data.length≤4096)(b:r.nf=0)(c:r.tail=0)(d:r.line=[])(g:r.left≤4096)(e:r.bad=0):CkOk (gz r s):=by
 unfold gz;cases iE s with
 | none=>exact fI (.inl rfl) a (by omega) (by omega) (by rw[d];simp) g
 | some n =>
  dsimp only;split
  ·exact fI (.inr (.inl rfl)) a (by omega) (by omega) (by rw[d];simp) g
  ·split
   ·exact⟨by simp,λh=>by simp at h,λh=>by simp at h,λh=>by simp at h,λ_=>⟨by simp[d],by simp[c],by simp[b]⟩,a,λ_=>⟨e,by simp[b],by simp[c]⟩,λh=>by simp at h,λh=>by simp at h,g,.inl e⟩
   ·exact⟨by simp,λ_=>⟨by simp;omega,d,by simp;omega⟩,λh=>by simp at h,λh=>by simp at h,λh=>by simp at h,a,λ_=>⟨e,by simp[b],by simp[c]⟩,λh=>by simp at h,λ_=>⟨c,b,by simp;omega⟩,by simp;omega,.inl e⟩
theorem vK {r:Ck}(s:List UInt8)(h0:r.st=3)(b:r.data.length≤4096)(g:r.nf≤32)(e:r.tail≤2048)(c:r.line=[])(a:r.left≤4096)(d:r.bad=0):CkOk (ee r s):=by
 unfold ee;split
 ·exact⟨by simp,λh=>by simp at h,λh=>by simp at h,λh=>by simp at h,λh=>by simp at h,b,λh=>absurd rfl h,λ_=>⟨by simp;omega,by simp;omega,by simp[c],a⟩,λh=>by simp at h,a,.inl d⟩
 ·split
  ·split
   ·exact⟨by simp,λh=>by simp at h,λh=>by simp at h,λh=>by simp at h,λh=>by simp at h,b,λh=>absurd rfl h,λ_=>⟨by simp;omega,by simp;omega,by simp[c],a⟩,λh=>by simp at h,a,.inr (.inr (.inr rfl))⟩
   ·exact⟨by simp[h0],λh=>by simp[h0]at h,λh=>by simp[h0]at h,λh=>by simp[h0]at h,λ_=>⟨by simp[c],e,by simp;omega⟩,b,λ_=>⟨d,by simp;omega,e⟩,λh=>by simp[h0]at h,λh=>by simp[h0]at h,a,.inl d⟩
  ·exact⟨by simp,λh=>by simp at h,λh=>by simp at h,λh=>by simp at h,λh=>by simp at h,b,λh=>absurd rfl h,λ_=>⟨by simp;omega,by simp;omega,by simp[c],a⟩,λh=>by simp at h,a,.inr (.inl rfl)⟩
theorem zG {b:Ck}(c:UInt8)(h:CkOk b)(hs:b.st=0∨b.st=3):CkOk (aw b c):=by
 obtain⟨g,l,m⟩:=h.live (by omega);have a:=h.data;have hl:=h.left;rcases hs with hs | hs
 ·obtain⟨i,j,d⟩:=h.zero hs;unfold aw;simp only[hs];rw[if_neg (show ¬(0=3) by decide),if_neg (by omega)];split
  ·exact fI (.inl rfl) a (by omega) (by omega) i hl
  ·split
   ·exact D6 _ a d j rfl hl g
   ·split
    ·exact fI (.inr (.inr rfl)) a (by omega) (by omega) i hl
    ·rename_i hn;have n:b.line.length≠2048:=λe=>hn ⟨hs,e⟩;exact⟨by simp[hs],λh=>by simp[hs]at h,λh=>by simp[hs]at h,λ_=>⟨by simp;omega,j,d⟩,λh=>by simp[hs]at h,a,λ_=>⟨g,l,m⟩,λh=>by simp[hs]at h,λh=>by simp[hs]at h,hl,h.codes⟩
 ·obtain⟨i,j,d⟩:=h.three hs;unfold aw;rw[if_pos hs];dsimp only;split
  ·exact fI (.inr (.inr rfl)) a (by simp;omega) (by simp;omega) (by simp;omega) hl
  ·rename_i o;split
   ·exact fI (.inl rfl) a (by simp;omega) (by simp;omega) (by simp;omega) hl
   ·split
    ·rw[if_neg (by omega)];exact vK _ hs a d (by simp;omega) rfl hl g
    ·rw[if_neg (by omega)];exact⟨by simp[hs],λh=>by simp[hs]at h,λh=>by simp[hs]at h,λh=>by simp[hs]at h,λ_=>⟨by simp;omega,by simp;omega,d⟩,a,λ_=>⟨g,l,by simp;omega⟩,λh=>by simp[hs]at h,λh=>by simp[hs]at h,hl,h.codes⟩
theorem E8 {r:Ck}(c:UInt8)(h:CkOk r)(hs:r.st=2):CkOk (nI r c):=by
 obtain⟨i,j,l⟩:=h.live (by omega);obtain⟨e1,e2,e3⟩:=h.early (.inr hs);have d:=h.two hs;have e:r.line.length≤2048:=by rcases d with h | h <;> rw[h] <;> simp
 unfold nI;by_cases b:c=(if r.line.isEmpty then 13 else 10)
 ·rw[if_pos b];by_cases a:c=10
  ·rw[if_pos a];exact⟨by simp,λh=>by simp at h,λh=>by simp at h,λ_=>⟨by simp,e1,e2⟩,λh=>by simp at h,h.data,λ_=>⟨i,j,l⟩,λh=>by simp at h,λh=>by simp at h,e3,h.codes⟩
  ·rw[if_neg a];have g:r.line=[]:=by
    rcases d with h | h
    ·exact h
    ·rw[h]at b;simp at b;exact absurd b a
   rw[g]at b ⊢;simp at b;subst b;exact⟨by simp[hs],λh=>by simp[hs]at h,λ_=>.inr rfl,λh=>by simp[hs]at h,λh=>by simp[hs]at h,h.data,λ_=>⟨i,j,l⟩,λh=>by simp[hs]at h,λ_=>⟨e1,e2,e3⟩,e3,h.codes⟩
 ·rw[if_neg b];exact fI (.inl rfl) h.data (by omega) (by omega) e e3
theorem D7 {r:Ck}(c:UInt8)(h:CkOk r)(hs:r.st=1):CkOk (tj r c):=by
 obtain⟨a,b,d⟩:=h.live (by omega);obtain⟨e1,e2,e3⟩:=h.early (.inl hs);obtain⟨i,g,j⟩:=h.one hs;unfold tj;by_cases e:r.left=1
 ·rw[if_pos e];exact⟨by simp,λh=>by simp at h,λ_=>.inl g,λh=>by simp at h,λh=>by simp at h,by simp;omega,λ_=>⟨a,b,d⟩,λh=>by simp at h,λ_=>⟨e1,e2,by simp;omega⟩,by simp;omega,h.codes⟩
 ·rw[if_neg e];exact⟨by simp,λ_=>⟨by simp;omega,g,by simp;omega⟩,λh=>by simp at h,λh=>by simp at h,λh=>by simp at h,by simp;omega,λ_=>⟨a,b,d⟩,λh=>by simp at h,λ_=>⟨e1,e2,by simp;omega⟩,by simp;omega,h.codes⟩
theorem xK {r:Ck}(c:UInt8)(h:CkOk r)(hs:r.st≠4):CkOk (eY r c):=by
 unfold eY;have:=h.st;split
 ·exact D7 c h (by assumption)
 ·split
  ·exact E8 c h (by assumption)
  ·exact zG c h (by omega)
theorem mr:∀(s:List UInt8) {r:Ck},CkOk r→CkOk (feedC r s).2
 | [],_,h=>h
 | c :: t,r,h=>by
  unfold feedC;split
  ·exact h
  ·exact mr t (xK c h (by assumption))
theorem mt:∀(s:List UInt8) (r:Ck),(feedC r s).1≤s.length
 | [],_=>qv _
 | c :: t,r=>by
  unfold feedC;split
  ·exact qx _
  ·have:=mt t (eY r c);simp;omega
theorem iU {r:Ck}(h:r.st=4)(s:List UInt8):feedC r s=(0,r):=by
 cases s with
 | nil=>rfl
 | cons c t=>unfold feedC;rw[if_pos h]
theorem gD {r:Ck}(h:r.st≠4)(c:UInt8)(t:List UInt8):feedC r (c :: t)=((feedC (eY r c) t).1+1,(feedC (eY r c) t).2):=by
 rw[feedC,if_neg h]
theorem nJ:∀(s:List UInt8) (r:Ck),(feedC r s).1<s.length→(feedC r s).2.st=4
 | [],_,h=>by simp at h
 | c :: t,r,h=>by
  unfold feedC at h ⊢;split
  ·assumption
  ·rename_i hs;rw[if_neg hs]at h;exact nJ t _ (by simp at h;omega)
theorem kB:∀(a b:List UInt8) (r:Ck),feedC r (a++b)=((feedC r a).1+(feedC (feedC r a).2 b).1,(feedC (feedC r a).2 b).2)
 | [],b,r=>by simp[feedC]
 | c :: t,b,r=>by
  by_cases h:r.st=4
  ·simp[iU h]
  ·rw[List.cons_append,gD h,gD h,kB t b];simp;omega
theorem lC:∀(a:List UInt8) {r:Ck},r.st=1→1≤a.length→a.length≤r.left→feedC r a=(a.length,{ r with data:=r.data++a,left:=r.left - a.length,st:=if r.left=a.length then 2 else 1 })
 | [],_,_,h,_=>by simp at h
 | [c],r,hs,_,h=>by
  rw[gD (by omega)];simp[feedC,eY,hs,tj]
 | c :: d :: t,r,hs,_,h=>by
  simp only[List.length_cons]at h;have b:r.left≠1:=by omega
  rw[gD (by omega),show eY r c={ r with data:=r.data++[c],left:=r.left - 1,st:=1 } by unfold eY;rw[if_pos hs];unfold tj;rw[if_neg b]];rw[lC (d :: t) rfl (by simp) (by simp;omega)];simp only[List.length_cons,Prod.mk.injEq,true_and];have e:(r.left - 1=t.length+1)=(r.left=t.length+1+1):=by rw[eq_iff_iff];omega
  simp only[e];simp;omega
theorem tm {s a:List UInt8}{k i:Nat}(h:Lib.occAt (s.take k) a i=true)(h0:a≠[]):Lib.occAt s a i=true∧i+a.length≤k:=by
 unfold Lib.occAt at h ⊢;rw[List.isPrefixOf_iff_prefix]at h ⊢;rw[List.drop_take]at h;refine⟨h.trans (List.take_prefix _ _),?_⟩;have b:=h.length_le;rw[List.length_take]at b;have:0<a.length:=List.length_pos_iff.2 h0;omega
theorem nK {s a:List UInt8}{k i:Nat}(h:Lib.occAt s a i=true)(c:i+a.length≤k):Lib.occAt (s.take k) a i=true:=by
 unfold Lib.occAt at h ⊢;rw[List.isPrefixOf_iff_prefix]at h ⊢;obtain⟨t,b⟩:=h;rw[List.drop_take,←b];refine⟨t.take (k - i - a.length),?_⟩;rw[List.take_append,List.take_of_length_le (l:=a) (by omega)]
theorem zH {s:List UInt8}{k a:Nat}(h:Lib.index s ar=a):Lib.index (s.take k) ar = -1∨(a+4≤k∧Lib.index (s.take k) ar=a):=by
 rcases Lib.index_spec (s.take k) ar with⟨e,_⟩ | ⟨i,e,hi,r,l⟩
 ·exact .inl e
 ·right;obtain⟨o,n⟩:=tm r (by decide);have n:i+4≤k:=n;rcases Lib.index_spec s ar with⟨g,b⟩ | ⟨j,g,t,m,b⟩
  ·rw[g]at h;omega
  ·rw[g]at h;obtain rfl:j=a:=(by omega);have q:j≤i:=by
    rcases Nat.lt_or_ge i j with d | c
    ·rw[b i d]at o;cases o
    ·exact c
   have p:i≤j:=by
    rcases Nat.lt_or_ge j i with d | c
    ·have:=l j d;rw[nK m (show j+4≤k by omega)]at this;cases this
    ·exact c
   obtain rfl:i=j:=(by omega);exact⟨n,e⟩
def SplI (t:List UInt8)(L:List (List UInt8))(a i:Nat):Prop :=
 au t=L++au (t.drop a)∧a≤t.length∧(a≤i∨(a=i+1∧t[i]?=some 10))∧∀j,a≤j→j<i→Lib.occAt t ba j=false
theorem mu {t:List UInt8}{i:Nat}:Lib.occAt t ba i=true↔(t[i]?=some 13∧t[i+1]?=some 10):=by
 unfold Lib.occAt;rw[List.isPrefixOf_iff_prefix];have e1:t[i]?=(t.drop i)[0]?:=by rw[List.getElem?_drop];rfl
 have e2:t[i+1]?=(t.drop i)[1]?:=by rw[List.getElem?_drop]
 rw[e1,e2];generalize t.drop i=u;constructor
 ·rintro⟨v,rfl⟩;exact⟨rfl,rfl⟩
 ·rintro⟨c,d⟩
  match u,c,d with
  | [],c,_=>cases c
  | [a],_,d=>cases d
  | a :: b :: v,c,d =>
   cases c;cases d;exact⟨v,rfl⟩
theorem SplI.start (t:List UInt8):SplI t [] 0 0:=⟨rfl,qx _,.inl (qv _),λa _ h=>absurd h (Nat.not_lt_zero _)⟩
theorem SplI.found {t:List UInt8}{L:List (List UInt8)}{a i:Nat}(h:SplI t L a i)(c:t[i]?=some 13)(b:t[i+1]?=some 10):SplI t (L++[(t.take i).drop a]) (i+2) (i+1):=by
 obtain⟨k1,k2,k3,k4⟩:=h;have hi:=(List.getElem?_eq_some_iff.1 b).1;have l:a≤i:=by
  rcases k3 with k3 | ⟨_,k3⟩
  ·exact k3
  ·rw[c]at k3;cases k3
 refine⟨?_,by omega,.inr ⟨rfl,b⟩,λj d e=>by omega⟩;have g:Lib.occAt (t.drop a) ba (i - a)=true:=by
  rw[mu,List.getElem?_drop,List.getElem?_drop,show a+(i - a)=i by omega,show a+(i - a+1)=i+1 by omega];exact⟨c,b⟩
 rw[k1,lz (i - a) (t.drop a) (by rw[List.length_drop];omega) g (λj d=>by
  have:=k4 (a+j) (by omega) (by omega);unfold Lib.occAt at this ⊢
  rwa [List.drop_drop]),List.drop_drop,List.append_assoc,List.drop_take,show a+(i - a+2)=i+2 by omega]
 rfl
theorem SplI.other {t:List UInt8}{L:List (List UInt8)}{a i:Nat}(h:SplI t L a i)(b:¬(t[i]?=some 13∧t[i+1]?=some 10)):SplI t L a (i+1):=by
 obtain⟨k1,k2,k3,k4⟩:=h;refine⟨k1,k2,.inl (by omega),λj c d=>?_⟩;by_cases e:j=i
 ·subst e;rw[Bool.eq_false_iff];exact λh=>b (mu.1 h)
 ·exact k4 j c (by omega)
theorem SplI.done {t:List UInt8}{L:List (List UInt8)}{a i:Nat}(h:SplI t L a i)(e:t.length≤i+1):au t=L++[t.drop a]:=by
 obtain⟨k1,k2,k3,k4⟩:=h;rw[k1,iC];intro j g;rw[Bool.eq_false_iff];intro d;have b:=mu.1 d;rw[List.getElem?_drop,List.getElem?_drop]at b;have c:=(List.getElem?_eq_some_iff.1 b.2).1;have:=k4 (a+j) (by omega) (by omega);rw[Bool.eq_false_iff]at this;exact this (mu.2 b)
theorem qU (s:List UInt8):Lib.splitK ba 0 (Lib.count s ba) s=au s:=Cy s
theorem gQ:∀(n:Nat) (s:List UInt8),s.length≤n→(au s).length≤s.length+1∧∀l∈au s,l.length≤s.length
 | 0,s,h=>by
  obtain rfl:s=[]:=List.eq_nil_of_length_eq_zero (by omega);simp[au]
 | n+1,[],h=>by simp[au]
 | n+1,c :: t,h=>by
  rw[List.length_cons]at h;by_cases o:c=13∧t.head?=some 10
  ·obtain⟨rfl,g⟩:=o;cases t with
   | nil=>simp at g
   | cons d t =>
    simp at g;subst g;rw[List.length_cons]at h;obtain⟨i,g⟩:=gQ n t (by omega);rw[gO];refine⟨by simp;omega,λl hl=>?_⟩;rcases List.mem_cons.1 hl with rfl | hl
    ·simp
    ·have:=g l hl;simp;omega
  ·obtain⟨i,g⟩:=gQ n t (by omega);rw[ed o];have m:=ly t;obtain⟨a,b,j⟩:∃a b,au t=a :: b:=by
    cases e:au t with
    | nil=>exact absurd e m
    | cons a b=>exact⟨a,b,rfl⟩
   rw[j]at i g ⊢;simp only[List.headD_cons,List.tail_cons,List.length_cons]at i ⊢;refine⟨by omega,λl hl=>?_⟩;rcases List.mem_cons.1 hl with rfl | hl
   ·have:=g a (by simp);simp;omega
   ·have:=g l (by simp[hl]);omega
theorem GC {s:List UInt8}{k:Nat}:((s.take (k+4)).drop k==[13,10,13,10])=Lib.occAt s ar k:=by
 have e:(s.take (k+4)).drop k=(s.drop k).take 4:=by rw[List.drop_take,show k+4 - k=4 by omega]
 rw[e,Bool.eq_iff_iff,beq_iff_eq];unfold Lib.occAt;rw[List.isPrefixOf_iff_prefix,List.prefix_iff_eq_take];exact eq_comm
theorem tn {s:List UInt8}{k:Nat}(h:Lib.occAt s ar k=true)(l:k+4≤s.length)(d:∀j,j<k→Lib.occAt s ar j=false):Lib.index s ar=k:=by
 rcases Lib.index_spec s ar with⟨_,c⟩ | ⟨i,e,_,c,g⟩
 ·rw[c k (by omega)]at h;cases h
 ·rw[e];have a:¬i<k:=λhi=>by rw[d i hi]at c;cases c
  have b:¬k<i:=λhi=>by rw[g k hi]at h;cases h
  omega
theorem zI {s:List UInt8}{k:Nat}(g:s.length<k+4)(b:∀j,j<k→Lib.occAt s ar j=false):Lib.index s ar = -1:=by
 rcases Lib.index_spec s ar with⟨a,_⟩ | ⟨i,a,_,c,e⟩
 ·exact a
 ·have d:=Lib.index_room s ar (by rw[a];omega);rw[a]at d;have hl:ar.length=4:=rfl;rw[b i (by omega)]at c;cases c
theorem D8 {s:List UInt8}{k:Nat}(a:∀j,j<k→Lib.occAt s ar j=false)(h:Lib.occAt s ar k=false):∀j,j<k+1→Lib.occAt s ar j=false:=λj b=>by
 by_cases e:j=k
 ·subst e;exact h
 ·exact a j (by omega)
theorem SplI.le {t:List UInt8}{L:List (List UInt8)}{a i:Nat}(h:SplI t L a i)(c:t[i]?=some 13):a≤i:=by
 rcases h.2.2.1 with b | ⟨_,b⟩
 ·exact b
 ·rw[c]at b;cases b
def splitB (c:UInt8):List UInt8→List (List UInt8)
 | []=>[[]]
 | b :: t=>if b=c then [] :: splitB c t else match splitB c t with | h :: r=>(b :: h) :: r | []=>[[b]]
theorem lZ (c:UInt8):∀(l:List UInt8),(∀j,(a:j<l.length)→l[j]≠c)→splitB c l=[l]
 | [],_=>rfl
 | b :: t,h=>by
  have h0:b≠c:=h 0 (by simp);have d:=lZ c t (λj a=>h (j+1) (by simp;omega));unfold splitB;rw[if_neg h0,d]
theorem iF (c b:UInt8)(t:List UInt8):splitB c (b :: t)=if b=c then [] :: splitB c t else match splitB c t with | h :: r=>(b :: h) :: r | []=>[[b]]:=rfl
theorem pI (c:UInt8):∀(l:List UInt8) (k:Nat) (a:k<l.length),l[k]=c→(∀j,(d:j<k)→l[j]'(by omega)≠c)→splitB c l=l.take k :: splitB c (l.drop (k+1))
 | [],k,a,_,_=>by simp at a
 | b :: t,0,_,h,_=>by
  have:b=c:=h;rw[iF,if_pos this];rfl
 | b :: t,k+1,a,h,hb=>by
  have h0:b≠c:=hb 0 (by omega);have e:=pI c t k (by simpa using a) h (λj d=>hb (j+1) (by omega));rw[iF,if_neg h0,e];rfl
theorem nL (l:List UInt8)(c:UInt8):(Lib.indexByte l c = -1∧∀j,(a:j<l.length)→l[j]≠c) ∨
  ∃k:Nat,Lib.indexByte l c=k∧∃i:k<l.length,l[k]=c∧∀j,(a:j<k)→l[j]'(by omega)≠c:=by
 induction l with
 | nil=>exact .inl ⟨rfl,λj a=>by simp at a⟩
 | cons b t n =>
  unfold Lib.indexByte;by_cases d:b=c
  ·exact .inr ⟨0,by simp[d],by simp,d,λj a=>by omega⟩
  ·have h:(b==c)=false:=qk.2 d;rw[h];rcases n with⟨e,g⟩ | ⟨k,e,i,g,m⟩
   ·refine .inl ⟨by simp[e],λj a=>?_⟩;cases j with
    | zero=>exact d
    | succ j=>exact g j (by simpa using a)
   ·refine .inr ⟨k+1,?_,by simpa using i,g,λj a=>?_⟩
    ·have:(Lib.indexByte t c==-1)=false:=qk.2 (by omega);simp[e]
    ·cases j with
     | zero=>exact d
     | succ j=>exact m j (by omega)
theorem jK (c:UInt8):∀(l x:List UInt8),x∈splitB c l→x.length≤l.length
 | [],x,h=>by
  have:x=[]:=by simpa[splitB]using h
  simp[this]
 | b :: t,x,h=>by
  rw[iF]at h;have a:=jK c t;split at h
  ·rcases List.mem_cons.1 h with h | h
   ·simp[h]
   ·have:=a x h;simp;omega
  ·cases hs:splitB c t with
   | nil=>rw[hs]at h;simp at h;simp[h]
   | cons y r =>
    rw[hs]at h a;rcases List.mem_cons.1 h with h | h
    ·have:=a y (by simp);simp[h];omega
    ·have:=a x (by simp[h]);simp;omega
theorem pJ (l:List UInt8):(bm l).length≤l.length:=by
 rw[dW];unfold cM bU;have a:=(List.dropWhile_suffix (p:=ay) (l:=(l.reverse.dropWhile ay).reverse)).length_le;have b:=(List.dropWhile_suffix (p:=ay) (l:=l.reverse)).length_le;simp at a b ⊢;omega
def cX (ps:List (List UInt8)):List (List UInt8):=(ps.map bm).filter (λp=>!p.isEmpty)
theorem nM (a:List (List UInt8))(x:List UInt8)(h:bm x=[]):cX (a++[x])=cX a:=by
 unfold cX;simp[h]
theorem nN (a:List (List UInt8))(x:List UInt8)(h:bm x≠[]):cX (a++[x])=cX a++[bm x]:=by
 unfold cX;simp[h]
def jL (l:List UInt8):List (List UInt8):=((splitB 44 l).map bm).filter (λp=>!p.isEmpty)
def kC (l word:List UInt8):Bool:=(jL l).any (λp=>an p word)
theorem vL (l x:List UInt8)(h:x∈jL l):x.length≤l.length:=by
 unfold jL at h;rw[List.mem_filter,List.mem_map]at h;obtain⟨⟨y,a,rfl⟩,_⟩:=h;exact qy (pJ y) (jK 44 l y a)
def tp:List UInt8:=[72,111,115,116]
def jM:List UInt8:=[84,114,97,110,115,102,101,114,45,69,110,99,111,100,105,110,103]
def eu:List UInt8:=[67,111,110,116,101,110,116,45,76,101,110,103,116,104]
def jh:List UInt8:=[67,111,110,110,101,99,116,105,111,110]
def fZ:List UInt8:=[99,108,111,115,101]
def nO:List UInt8:=[99,104,117,110,107,101,100]
def CA (c:UInt8):Bool:=48≤c&&c≤57
def br:List (List UInt8)→Option (List Fl)
 | []=>some []
 | l :: t=>if (ax l).2.2 then(br t).map λfs=>((ax l).1,(ax l).2.1) :: fs else none
def qV (s:List UInt8):Int:=match Lib.atoiAll s with
 | .ok n=>n
 | _=>4097
def bS (fs:List Fl):Int :=
 if fs.any (λf=>an f.1 eu&&f.2 != (bl fs eu).1) then -1
 else if (bl fs eu).2=0 then 0
 else if (bl fs eu).1.isEmpty||!(bl fs eu).1.all CA then -1
 else qV (bl fs eu).1
inductive HeadR where
 | bad (c:Nat)
 | good (r:Rq) (n:Nat) (chunked:Bool)
def aO (f:Fl):Bool:=an f.1 jh&&kC f.2 fZ
def headQ (ls:List (List UInt8)):HeadR :=
 if 33<ls.length then .bad 431
 else match br ls.tail with
  | none=>.bad 400
  | some fs =>
   let li:=bV (ls.headD [])
   let ta:=cJ li.2.1
   if !(li.2.2.2&&ta.2.2)||((li.2.2.1==11&&(bl fs tp).2 != 1)||decide (bS fs<0)) then .bad 400
   else if decide (0<(bl fs jM).2)&&(li.2.2.1==10||(decide (0<(bl fs eu).2)||(decide (1<(bl fs jM).2)||!an (bl fs jM).1 nO))) then .bad 400
   else if 4096<bS fs then .bad 413
   else .good ⟨li.1,ta.1,ta.2.1,li.2.2.1,fs,[],li.2.2.1==10||fs.any aO⟩ (bS fs).toNat (decide (0<(bl fs jM).2))
structure Ps where
 inp:List UInt8
 und:List UInt8
 head:Bool
 r:Rq
 len:Nat
 ch:Option Ck
 bad:Nat
def rq0:Rq:=⟨[],[],[],0,[],[],false⟩
def ps0:Ps:=⟨[],[],false,rq0,0,none,0⟩
def fJ (p:Ps)(s:List UInt8):Ps:=if p.bad=0 then { p with inp:=p.inp++s } else p
def cz (p:Ps)(n:Nat):Ps:={ p with und:=p.und++p.inp.take n,inp:=p.inp.drop n }
def eU (p:Ps)(s:List UInt8):Ps:=match headQ (au s)with
 | .bad c=>{ p with bad:=c }
 | .good r n ch=>{ p with r:=r,len:=n,ch:=if ch then some ck0 else p.ch,bad:=0 }
def aE (p:Ps):Ps :=
 if decide (0≤Lib.index p.inp ar)&&decide (Lib.index p.inp ar+4≤2048) then
  (if (eU p (p.inp.take (Lib.index p.inp ar).toNat)).bad=0 then cz { eU p (p.inp.take (Lib.index p.inp ar).toNat)with head:=true } ((Lib.index p.inp ar).toNat+4) else eU p (p.inp.take (Lib.index p.inp ar).toNat))
 else if 2048≤p.inp.length then { p with bad:=431 } else p
def aB (p:Ps):Ps×Bool:=match p.ch with
 | none=>if p.inp.length<p.len then(p,false) else({ p with r:={ p.r with b:=p.inp.take p.len },inp:=p.inp.drop p.len },true)
 | some c=>({ cz p (feedC c p.inp).1 with ch:=some (feedC c p.inp).2,bad:=(feedC c p.inp).2.bad,r:={ p.r with b:=(feedC c p.inp).2.data } },decide ((feedC c p.inp).2.st=4∧(feedC c p.inp).2.bad=0))
def bu (p:Ps):Ps×Option Rq :=
 if p.bad≠0 then(p,none)
 else
  let h:=if p.head then p else aE p
  if !h.head then(h,none)
  else if (aB h).2 then({ ps0 with inp:=(aB h).1.inp },some (aB h).1.r) else((aB h).1,none)
def eN (p:Ps):Ps×List UInt8:=if p.bad≠0 then(p,[]) else(ps0,p.und++p.inp)
open Go.RowKit
section
variable {α:Type} (f:α→List Value) (k:Nat)
def dF (xs:List α):List Value:=xs.flatMap f
variable {f k}
theorem nP (xs a:List α):dF f (xs++a)=dF f xs++dF f a:=by simp[dF]
theorem l4 (x:α):dF f [x]=f x:=by simp[dF]
theorem ew (a:∀x,(f x).length=k)(xs:List α)(i j:Nat)(hi:i<xs.length)(b:j<k):(dF f xs)[i*k+j]?=(f xs[i])[j]?:=by
 unfold dF;induction xs generalizing i with
 | nil=>cases hi
 | cons x t c =>
  rw[List.flatMap_cons];cases i with
  | zero=>rw[Nat.zero_mul,Nat.zero_add,List.getElem?_append_left (by rw[a];exact b)];rfl
  | succ i =>
   rw[List.getElem?_append_right (by rw[a,Nat.succ_mul];omega),a,show(i+1)*k+j - k=i*k+j by rw[Nat.succ_mul];omega];exact c i (by simpa using hi)
end
theorem nQ {w w':World}{B:Nat}{e:TypeId}{size n:Nat}{v:Value}{xs:List Value}{T:Nat→Prop}(h:w.ownsRow B e size v n xs)(l:Ch T w w')(o:∀k,T k→k<B):w'.ownsRow B e size v n xs:=by
 obtain⟨i,b⟩:=h;refine⟨i,?_⟩;rcases b with b | ⟨g,cap,a,rfl,j,m,hn,hm,c,d⟩
 ·exact .inl b
 ·exact .inr ⟨g,cap,a,rfl,j,l.get m (λe=>by have:=o _ e;omega),hn,hm,c,d⟩
theorem dG {w w':World}{B:Nat}{e:TypeId}{size n:Nat}{v:Value}{xs:List Value}(h:w.ownsRow B e size v n xs)(a:Gr w w'):w'.ownsRow B e size v n xs :=
 nQ h (a.to_ch (λ_=>False)) (λ_ h=>h.elim)
theorem aJ {w:World}{B:Nat}{e:TypeId}{size n:Nat}{v:Value}{xs:List Value}(h:w.ownsRow B e size v n xs):∃p cap,v=.slice p n cap:=by
 rcases h.2 with⟨rfl,h0⟩ | ⟨g,cap,a,rfl,_⟩
 ·exact⟨none,0,by rw[h0]⟩
 ·exact⟨_,cap,rfl⟩
theorem kD {w:World}{B:Nat}{e:TypeId}{size n:Nat}{v:Value}{xs:List Value}(h:w.ownsRow B e size v n xs)(hn:0<n):∃g cap,v=.slice (some ⟨g,0,none⟩) n cap∧B≤g∧g<w.heap.size∧∀j,j<n*size→w.cell? ⟨g,j,none⟩=xs[j]?:=by
 have b:=h;rcases h.2 with⟨_,h0⟩ | ⟨g,cap,a,rfl,c,d,_⟩
 ·omega
 ·exact⟨g,cap,rfl,c,(Array.getElem?_eq_some_iff.1 d).1,λj i=>World.ownsRow.cellAt b j i⟩
theorem dx {w w':World}{row:Option Nat}(h:w.grownBy w' row):Ch (λk=>row=some k) w w' :=
 ⟨h.os,h.tape,h.output,h.size,λk a hn=>h.block k a (λe=>hn e.symm)⟩
theorem lD (w:World)(cs:List Value)(t:TypeId):∀j u,cs[j]?=some u→(w.alloc (.cells cs.toArray t)).cell? ((⟨w.heap.size,0,none⟩:Addr).add j)=some u:=by
 intro j u b;have a:(w.alloc (.cells cs.toArray t)).heap[w.heap.size]?=some (.cells cs.toArray t (0,0)):=World.alloc_heap_new w _;have e:(⟨w.heap.size,0,none⟩:Addr).add j=⟨w.heap.size,j,none⟩:=by
  by_cases h0:j=0 <;> simp[Addr.add,h0]
 rw[e];simp only[World.cell?,a];simpa using b
