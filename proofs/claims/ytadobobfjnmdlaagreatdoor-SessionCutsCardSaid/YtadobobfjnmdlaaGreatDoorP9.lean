/-
  Plain laws of a body in chunks: the reader byte by byte, and the reference's lines: no program in sight.
-/
import Derived.Test.YtadobobfjnmdlaaGreatDoorNl
import Derived.Lib.AtoiAll
import Derived.Laws.OwnMore
import Derived.Deep.Onto
import Derived.Maps.AppendAt
import Derived.Test.YtadobobfjnmdlaaGreatDoorChecked
import Derived.Lib.AppendStr
import Derived.Laws.IdiomStrings
import Derived.Laws.BytesArg
set_option linter.unnecessarySimpa false
set_option linter.unusedVariables false
set_option linter.unusedSimpArgs false
set_option maxHeartbeats 16000000
set_option maxRecDepth 100000
open Go.Lib (hid)
open Go.Proofs.Tryz
namespace Go.Proofs.YtadobobfjnmdlaaGreatDoor
structure Ck where
 st:Nat
 line:List UInt8
 left:Nat
 data:List UInt8
 nf:Nat
 tail:Nat
 bad:Nat
def ck0:Ck:=⟨0,[],0,[],0,0,0⟩
def wrongC (r:Ck) (c:Nat):Ck:={ r with st:=4,bad:=c }
def hexD (c:UInt8):Nat:=if 97≤c then c.toNat - 87 else if 65≤c then c.toNat - 55 else c.toNat - 48
def hexN (l:List UInt8):Nat:=l.foldl (λx c=>16*x+hexD c) 0
def sizeC (s:List UInt8):Option Nat :=
 if (Lib.cut s [59]).2.1.all isVal&&(!(Lib.cut s [59]).1.isEmpty&&(decide ((Lib.cut s [59]).1.length≤8)&&(Lib.cut s [59]).1.all isHex)) then some (hexN (Lib.cut s [59]).1) else none
def headC (r:Ck) (s:List UInt8):Ck :=
 match sizeC s with
 | none=>wrongC r 400
 | some n=>if 4096<r.data.length+n then wrongC r 413 else if n=0 then { r with st:=3 } else { r with st:=1,left:=n }
def trailerC (r:Ck) (s:List UInt8):Ck :=
 if s.isEmpty then { r with st:=4 } else if (parseB s).2.2 then (if 32≤r.nf then { r with nf:=r.nf+1,st:=4,bad:=431 } else { r with nf:=r.nf+1 }) else { r with nf:=r.nf+1,st:=4,bad:=400 }
def crB (l:List UInt8):Bool:=l.getLast?==some 13
def letterC (r0:Ck) (c:UInt8):Ck :=
 let r:=if r0.st=3 then { r0 with tail:=r0.tail+1 } else r0
 if 2048<r.tail then wrongC r 431
 else if crB r.line != (c==10) then wrongC r 400
 else if crB r.line then (if r.st=0 then headC { r with line:=[] } r.line.dropLast else trailerC { r with line:=[] } r.line.dropLast)
 else if r.st=0∧r.line.length=2048 then wrongC r 431
 else { r with line:=r.line++[c] }
def endC (r:Ck) (c:UInt8):Ck :=
 if c=(if r.line.isEmpty then 13 else 10) then (if c=10 then { r with line:=[],st:=0 } else { r with line:=r.line++[c] }) else wrongC r 400
def dataC (r:Ck) (c:UInt8):Ck:={ r with data:=r.data++[c],left:=r.left - 1,st:=if r.left=1 then 2 else 1 }
def stepC (r:Ck) (c:UInt8):Ck:=if r.st=1 then dataC r c else if r.st=2 then endC r c else letterC r c
def feedC:Ck→List UInt8→Nat×Ck
 | r,[]=>(0,r)
 | r,c :: t=>if r.st=4 then (0,r) else ((feedC (stepC r c) t).1+1,(feedC (stepC r c) t).2)
structure CkOk (r:Ck):Prop where
 st:r.st≤4
 one:r.st=1→1≤r.left∧r.line=[]∧r.data.length+r.left≤4096
 two:r.st=2→r.line=[]∨r.line=[13]
 zero:r.st=0→r.line.length≤2048∧r.tail=0∧r.nf=0
 three:r.st=3→r.line.length≤r.tail∧r.tail≤2048∧r.nf≤32
 data:r.data.length≤4096
 live:r.st≠4→r.bad=0∧r.nf≤32∧r.tail≤2048
 ends:r.st=4→r.nf≤33∧r.tail≤2049∧r.line.length≤2048∧r.left≤4096
 early:r.st=1∨r.st=2→r.tail=0∧r.nf=0∧r.left≤4096
 left:r.left≤4096
 codes:r.bad=0∨r.bad=400∨r.bad=413∨r.bad=431
theorem ck0_ok:CkOk ck0:=⟨by decide,by decide,by decide,by decide,by decide,by decide,by decide,by decide,by decide,by decide,.inl rfl⟩
theorem wrong_ok {r:Ck} {c:Nat} (hc:c=400∨c=413∨c=431) (h1:r.data.length≤4096) (h2:r.nf≤33) (h3:r.tail≤2049) (h4:r.line.length≤2048) (h5:r.left≤4096):CkOk (wrongC r c) :=
 ⟨by simp[wrongC],λh=>by simp[wrongC] at h,λh=>by simp[wrongC] at h,λh=>by simp[wrongC] at h,λh=>by simp[wrongC] at h,h1,λh=>absurd rfl h,λ_=>⟨h2,h3,h4,h5⟩,λh=>by simp[wrongC] at h,h5,.inr hc⟩
theorem head_ok {r:Ck} (s:List UInt8) (h1:r.data.length≤4096) (h2:r.nf=0) (h3:r.tail=0) (h4:r.line=[]) (h5:r.left≤4096) (h6:r.bad=0):CkOk (headC r s):=by
 unfold headC
 cases sizeC s with
 | none=>exact wrong_ok (.inl rfl) h1 (by omega) (by omega) (by rw[h4];simp) h5
 | some n =>
  dsimp only
  split
  ·exact wrong_ok (.inr (.inl rfl)) h1 (by omega) (by omega) (by rw[h4];simp) h5
  ·split
   ·exact⟨by simp,λh=>by simp at h,λh=>by simp at h,λh=>by simp at h,λ_=>⟨by simp[h4],by simp[h3],by simp[h2]⟩,h1,λ_=>⟨h6,by simp[h2],by simp[h3]⟩,λh=>by simp at h,λh=>by simp at h,h5,.inl h6⟩
   ·exact⟨by simp,λ_=>⟨by simp;omega,h4,by simp;omega⟩,λh=>by simp at h,λh=>by simp at h,λh=>by simp at h,h1,λ_=>⟨h6,by simp[h2],by simp[h3]⟩,λh=>by simp at h,λ_=>⟨h3,h2,by simp;omega⟩,by simp;omega,.inl h6⟩
theorem trailer_ok {r:Ck} (s:List UInt8) (h0:r.st=3) (h1:r.data.length≤4096) (h2:r.nf≤32) (h3:r.tail≤2048) (h4:r.line=[]) (h5:r.left≤4096) (h6:r.bad=0):CkOk (trailerC r s):=by
 unfold trailerC
 split
 ·exact⟨by simp,λh=>by simp at h,λh=>by simp at h,λh=>by simp at h,λh=>by simp at h,h1,λh=>absurd rfl h,λ_=>⟨by simp;omega,by simp;omega,by simp[h4],h5⟩,λh=>by simp at h,h5,.inl h6⟩
 ·split
  ·split
   ·exact⟨by simp,λh=>by simp at h,λh=>by simp at h,λh=>by simp at h,λh=>by simp at h,h1,λh=>absurd rfl h,λ_=>⟨by simp;omega,by simp;omega,by simp[h4],h5⟩,λh=>by simp at h,h5,.inr (.inr (.inr rfl))⟩
   ·exact⟨by simp[h0],λh=>by simp[h0] at h,λh=>by simp[h0] at h,λh=>by simp[h0] at h,λ_=>⟨by simp[h4],h3,by simp;omega⟩,h1,λ_=>⟨h6,by simp;omega,h3⟩,λh=>by simp[h0] at h,λh=>by simp[h0] at h,h5,.inl h6⟩
  ·exact⟨by simp,λh=>by simp at h,λh=>by simp at h,λh=>by simp at h,λh=>by simp at h,h1,λh=>absurd rfl h,λ_=>⟨by simp;omega,by simp;omega,by simp[h4],h5⟩,λh=>by simp at h,h5,.inr (.inl rfl)⟩
theorem letter_ok {r0:Ck} (c:UInt8) (h:CkOk r0) (hs:r0.st=0∨r0.st=3):CkOk (letterC r0 c):=by
 obtain⟨b0,b1,b2⟩:=h.live (by omega)
 have hd:=h.data
 have hl:=h.left
 rcases hs with hs | hs
 ·obtain⟨z1,z2,z3⟩:=h.zero hs
  unfold letterC
  simp only[hs]
  rw[if_neg (show ¬(0=3) by decide),if_neg (by omega)]
  split
  ·exact wrong_ok (.inl rfl) hd (by omega) (by omega) z1 hl
  ·split
   ·exact head_ok _ hd z3 z2 rfl hl b0
   ·split
    ·exact wrong_ok (.inr (.inr rfl)) hd (by omega) (by omega) z1 hl
    ·rename_i hn
     have hn2:r0.line.length≠2048:=λe=>hn ⟨hs,e⟩
     exact⟨by simp[hs],λh=>by simp[hs] at h,λh=>by simp[hs] at h,λ_=>⟨by simp;omega,z2,z3⟩,λh=>by simp[hs] at h,hd,λ_=>⟨b0,b1,b2⟩,λh=>by simp[hs] at h,λh=>by simp[hs] at h,hl,h.codes⟩
 ·obtain⟨z1,z2,z3⟩:=h.three hs
  unfold letterC
  rw[if_pos hs]
  dsimp only
  split
  ·exact wrong_ok (.inr (.inr rfl)) hd (by simp;omega) (by simp;omega) (by simp;omega) hl
  ·rename_i ht
   split
   ·exact wrong_ok (.inl rfl) hd (by simp;omega) (by simp;omega) (by simp;omega) hl
   ·split
    ·rw[if_neg (by omega)]
     exact trailer_ok _ hs hd z3 (by simp;omega) rfl hl b0
    ·rw[if_neg (by omega)]
     exact⟨by simp[hs],λh=>by simp[hs] at h,λh=>by simp[hs] at h,λh=>by simp[hs] at h,λ_=>⟨by simp;omega,by simp;omega,z3⟩,hd,λ_=>⟨b0,b1,by simp;omega⟩,λh=>by simp[hs] at h,λh=>by simp[hs] at h,hl,h.codes⟩
theorem end_ok {r:Ck} (c:UInt8) (h:CkOk r) (hs:r.st=2):CkOk (endC r c):=by
 obtain⟨b0,b1,b2⟩:=h.live (by omega)
 obtain⟨e1,e2,e3⟩:=h.early (.inr hs)
 have hln:=h.two hs
 have hl2:r.line.length≤2048:=by rcases hln with h | h <;> rw[h] <;> simp
 unfold endC
 by_cases hc:c=(if r.line.isEmpty then 13 else 10)
 ·rw[if_pos hc]
  by_cases hc10:c=10
  ·rw[if_pos hc10]
   exact⟨by simp,λh=>by simp at h,λh=>by simp at h,λ_=>⟨by simp,e1,e2⟩,λh=>by simp at h,h.data,λ_=>⟨b0,b1,b2⟩,λh=>by simp at h,λh=>by simp at h,e3,h.codes⟩
  ·rw[if_neg hc10]
   have hle:r.line=[]:=by
    rcases hln with h | h
    ·exact h
    ·rw[h] at hc;simp at hc;exact absurd hc hc10
   rw[hle] at hc ⊢
   simp at hc
   subst hc
   exact⟨by simp[hs],λh=>by simp[hs] at h,λ_=>.inr rfl,λh=>by simp[hs] at h,λh=>by simp[hs] at h,h.data,λ_=>⟨b0,b1,b2⟩,λh=>by simp[hs] at h,λ_=>⟨e1,e2,e3⟩,e3,h.codes⟩
 ·rw[if_neg hc]
  exact wrong_ok (.inl rfl) h.data (by omega) (by omega) hl2 e3
theorem data_ok {r:Ck} (c:UInt8) (h:CkOk r) (hs:r.st=1):CkOk (dataC r c):=by
 obtain⟨b0,b1,b2⟩:=h.live (by omega)
 obtain⟨e1,e2,e3⟩:=h.early (.inl hs)
 obtain⟨o1,o2,o3⟩:=h.one hs
 unfold dataC
 by_cases h1:r.left=1
 ·rw[if_pos h1]
  exact⟨by simp,λh=>by simp at h,λ_=>.inl o2,λh=>by simp at h,λh=>by simp at h,by simp;omega,λ_=>⟨b0,b1,b2⟩,λh=>by simp at h,λ_=>⟨e1,e2,by simp;omega⟩,by simp;omega,h.codes⟩
 ·rw[if_neg h1]
  exact⟨by simp,λ_=>⟨by simp;omega,o2,by simp;omega⟩,λh=>by simp at h,λh=>by simp at h,λh=>by simp at h,by simp;omega,λ_=>⟨b0,b1,b2⟩,λh=>by simp at h,λ_=>⟨e1,e2,by simp;omega⟩,by simp;omega,h.codes⟩
theorem step_ok {r:Ck} (c:UInt8) (h:CkOk r) (hs:r.st≠4):CkOk (stepC r c):=by
 unfold stepC
 have:=h.st
 split
 ·exact data_ok c h (by assumption)
 ·split
  ·exact end_ok c h (by assumption)
  ·exact letter_ok c h (by omega)
theorem feed_ok:∀ (s:List UInt8) {r:Ck},CkOk r→CkOk (feedC r s).2
 | [],_,h=>h
 | c :: t,r,h=>by
  unfold feedC
  split
  ·exact h
  ·exact feed_ok t (step_ok c h (by assumption))
theorem feed_le:∀ (s:List UInt8) (r:Ck),(feedC r s).1≤s.length
 | [],_=>Nat.le_refl _
 | c :: t,r=>by
  unfold feedC
  split
  ·exact Nat.zero_le _
  ·have:=feed_le t (stepC r c);simp;omega
theorem feed_over {r:Ck} (h:r.st=4) (s:List UInt8):feedC r s=(0,r):=by
 cases s with
 | nil=>rfl
 | cons c t=>unfold feedC;rw[if_pos h]
theorem feed_cons {r:Ck} (h:r.st≠4) (c:UInt8) (t:List UInt8):feedC r (c :: t)=((feedC (stepC r c) t).1+1,(feedC (stepC r c) t).2):=by
 rw[feedC,if_neg h]
theorem feed_short:∀ (s:List UInt8) (r:Ck),(feedC r s).1<s.length→(feedC r s).2.st=4
 | [],_,h=>by simp at h
 | c :: t,r,h=>by
  unfold feedC at h ⊢
  split
  ·assumption
  ·rename_i hs
   rw[if_neg hs] at h
   exact feed_short t _ (by simp at h;omega)
theorem feed_app:∀ (a b:List UInt8) (r:Ck),feedC r (a++b)=((feedC r a).1+(feedC (feedC r a).2 b).1,(feedC (feedC r a).2 b).2)
 | [],b,r=>by simp[feedC]
 | c :: t,b,r=>by
  by_cases h:r.st=4
  ·simp[feed_over h]
  ·rw[List.cons_append,feed_cons h,feed_cons h,feed_app t b]
   simp;omega
theorem feed_data:∀ (a:List UInt8) {r:Ck},r.st=1→1≤a.length→a.length≤r.left→feedC r a=(a.length,{ r with data:=r.data++a,left:=r.left - a.length,st:=if r.left=a.length then 2 else 1 })
 | [],_,_,h,_=>by simp at h
 | [c],r,hs,_,h=>by
  rw[feed_cons (by omega)]
  simp[feedC,stepC,hs,dataC]
 | c :: d :: t,r,hs,_,h=>by
  simp only[List.length_cons] at h
  have hne:r.left≠1:=by omega
  rw[feed_cons (by omega),show stepC r c={ r with data:=r.data++[c],left:=r.left - 1,st:=1 } by unfold stepC;rw[if_pos hs];unfold dataC;rw[if_neg hne]]
  rw[feed_data (d :: t) rfl (by simp) (by simp;omega)]
  simp only[List.length_cons,Prod.mk.injEq,true_and]
  have e:(r.left - 1=t.length+1)=(r.left=t.length+1+1):=by rw[eq_iff_iff];omega
  simp only[e]
  simp
  omega
theorem occ_take {s sep:List UInt8} {k i:Nat} (h:Lib.occAt (s.take k) sep i=true) (h0:sep≠[]):Lib.occAt s sep i=true∧i+sep.length≤k:=by
 unfold Lib.occAt at h ⊢
 rw[List.isPrefixOf_iff_prefix] at h ⊢
 rw[List.drop_take] at h
 refine⟨h.trans (List.take_prefix _ _),?_⟩
 have h1:=h.length_le
 rw[List.length_take] at h1
 have:0<sep.length:=List.length_pos_iff.2 h0
 omega
theorem occ_into {s sep:List UInt8} {k i:Nat} (h:Lib.occAt s sep i=true) (hk:i+sep.length≤k):Lib.occAt (s.take k) sep i=true:=by
 unfold Lib.occAt at h ⊢
 rw[List.isPrefixOf_iff_prefix] at h ⊢
 obtain⟨t,ht⟩:=h
 rw[List.drop_take,←ht]
 refine⟨t.take (k - i - sep.length),?_⟩
 rw[List.take_append,List.take_of_length_le (l:=sep) (by omega)]
theorem index_cut {s:List UInt8} {k at4:Nat} (h:Lib.index s eol2=at4):Lib.index (s.take k) eol2 = -1∨(at4+4≤k∧Lib.index (s.take k) eol2=at4):=by
 rcases Lib.index_spec (s.take k) eol2 with⟨h1,_⟩ | ⟨i,h1,hi,ho,hno⟩
 ·exact .inl h1
 ·right
  obtain⟨o1,o2⟩:=occ_take ho (by decide)
  have o2:i+4≤k:=o2
  rcases Lib.index_spec s eol2 with⟨h2,hno2⟩ | ⟨j,h2,hj,ho2,hno2⟩
  ·rw[h2] at h;omega
  ·rw[h2] at h
   obtain rfl:j=at4:=by omega
   have hji:j≤i:=by
    rcases Nat.lt_or_ge i j with hlt | hge
    ·rw[hno2 i hlt] at o1;cases o1
    ·exact hge
   have hij:i≤j:=by
    rcases Nat.lt_or_ge j i with hlt | hge
    ·have:=hno j hlt
     rw[occ_into ho2 (show j+4≤k by omega)] at this;cases this
    ·exact hge
   obtain rfl:i=j:=by omega
   exact⟨o2,h1⟩
theorem splitE_count (s:List UInt8):Lib.splitK eolL 0 (Lib.count s eolL) s=splitE s:=split_eq s
theorem splitE_len:∀ (n:Nat) (s:List UInt8),s.length≤n→(splitE s).length≤s.length+1∧∀ l∈splitE s,l.length≤s.length
 | 0,s,h=>by
  obtain rfl:s=[]:=List.eq_nil_of_length_eq_zero (by omega)
  simp[splitE]
 | n+1,[],h=>by simp[splitE]
 | n+1,c :: t,h=>by
  rw[List.length_cons] at h
  by_cases hc:c=13∧t.head?=some 10
  ·obtain⟨rfl,h2⟩:=hc
   cases t with
   | nil=>simp at h2
   | cons d t =>
    simp at h2;subst h2
    rw[List.length_cons] at h
    obtain⟨h1,h2⟩:=splitE_len n t (by omega)
    rw[splitE_eol]
    refine⟨by simp;omega,λl hl=>?_⟩
    rcases List.mem_cons.1 hl with rfl | hl
    ·simp
    ·have:=h2 l hl;simp;omega
  ·obtain⟨h1,h2⟩:=splitE_len n t (by omega)
   rw[splitE_other hc]
   have hne:=splitE_ne t
   obtain⟨a,b,hab⟩:∃ a b,splitE t=a :: b:=by
    cases e:splitE t with
    | nil=>exact absurd e hne
    | cons a b=>exact⟨a,b,rfl⟩
   rw[hab] at h1 h2 ⊢
   simp only[List.headD_cons,List.tail_cons,List.length_cons] at h1 ⊢
   refine⟨by omega,λl hl=>?_⟩
   rcases List.mem_cons.1 hl with rfl | hl
   ·have:=h2 a (by simp);simp;omega
   ·have:=h2 l (by simp[hl]);omega
theorem index_of {s:List UInt8} {k:Nat} (h:Lib.occAt s eol2 k=true) (h4:k+4≤s.length) (hno:∀ j,j<k→Lib.occAt s eol2 j=false):Lib.index s eol2=k:=by
 rcases Lib.index_spec s eol2 with⟨_,h2⟩ | ⟨i,h1,_,h2,h3⟩
 ·rw[h2 k (by omega)] at h;cases h
 ·rw[h1]
  have a:¬i<k:=λhi=>by rw[hno i hi] at h2;cases h2
  have b:¬k<i:=λhi=>by rw[h3 k hi] at h;cases h
  omega
def splitB (c:UInt8):List UInt8→List (List UInt8)
 | []=>[[]]
 | b :: t=>if b=c then [] :: splitB c t else match splitB c t with | h :: r=>(b :: h) :: r | []=>[[b]]
theorem splitB_none (c:UInt8):∀ (l:List UInt8),(∀ j,(hj:j<l.length)→l[j]≠c)→splitB c l=[l]
 | [],_=>rfl
 | b :: t,h=>by
  have h0:b≠c:=h 0 (by simp)
  have ht:=splitB_none c t (λj hj=>h (j+1) (by simp;omega))
  unfold splitB
  rw[if_neg h0,ht]
theorem splitB_cons (c b:UInt8) (t:List UInt8):splitB c (b :: t)=if b=c then [] :: splitB c t else match splitB c t with | h :: r=>(b :: h) :: r | []=>[[b]]:=rfl
theorem splitB_at (c:UInt8):∀ (l:List UInt8) (k:Nat) (hk:k<l.length),l[k]=c→(∀ j,(hj:j<k)→l[j]'(by omega)≠c)→splitB c l=l.take k :: splitB c (l.drop (k+1))
 | [],k,hk,_,_=>by simp at hk
 | b :: t,0,_,h,_=>by
  have:b=c:=h
  rw[splitB_cons,if_pos this];rfl
 | b :: t,k+1,hk,h,hb=>by
  have h0:b≠c:=hb 0 (by omega)
  have ht:=splitB_at c t k (by simpa using hk) h (λj hj=>hb (j+1) (by omega))
  rw[splitB_cons,if_neg h0,ht]
  rfl
theorem indexByte_spec (l:List UInt8) (c:UInt8):(Lib.indexByte l c = -1∧∀ j,(hj:j<l.length)→l[j]≠c) ∨
  ∃ k:Nat,Lib.indexByte l c=k∧∃ hk:k<l.length,l[k]=c∧∀ j,(hj:j<k)→l[j]'(by omega)≠c:=by
 induction l with
 | nil=>exact .inl ⟨rfl,λj hj=>by simp at hj⟩
 | cons b t ih =>
  unfold Lib.indexByte
  by_cases hb:b=c
  ·exact .inr ⟨0,by simp[hb],by simp,hb,λj hj=>by omega⟩
  ·have hb':(b==c)=false:=beq_eq_false_iff_ne.2 hb
   rw[hb']
   rcases ih with⟨h1,h2⟩ | ⟨k,h1,hk,h2,h3⟩
   ·refine .inl ⟨by simp[h1],λj hj=>?_⟩
    cases j with
    | zero=>exact hb
    | succ j=>exact h2 j (by simpa using hj)
   ·refine .inr ⟨k+1,?_,by simpa using hk,h2,λj hj=>?_⟩
    ·have:(Lib.indexByte t c==-1)=false:=beq_eq_false_iff_ne.2 (by omega)
     simp[h1]
    ·cases j with
     | zero=>exact hb
     | succ j=>exact h3 j (by omega)
theorem splitB_len (c:UInt8):∀ (l x:List UInt8),x∈splitB c l→x.length≤l.length
 | [],x,h=>by
  have:x=[]:=by simpa[splitB] using h
  simp[this]
 | b :: t,x,h=>by
  rw[splitB_cons] at h
  have ih:=splitB_len c t
  split at h
  ·rcases List.mem_cons.1 h with h | h
   ·simp[h]
   ·have:=ih x h;simp;omega
  ·cases hs:splitB c t with
   | nil=>rw[hs] at h;simp at h;simp[h]
   | cons y r =>
    rw[hs] at h ih
    rcases List.mem_cons.1 h with h | h
    ·have:=ih y (by simp);simp[h];omega
    ·have:=ih x (by simp[h]);simp;omega
theorem trimB_len (l:List UInt8):(trimB l).length≤l.length:=by
 rw[trimB_eq]
 unfold ldrop rdrop
 have h1:=(List.dropWhile_suffix (p:=isBlank) (l:=(l.reverse.dropWhile isBlank).reverse)).length_le
 have h2:=(List.dropWhile_suffix (p:=isBlank) (l:=l.reverse)).length_le
 simp at h1 h2 ⊢
 omega
def partsOf (ps:List (List UInt8)):List (List UInt8):=(ps.map trimB).filter (λp=>!p.isEmpty)
theorem partsOf_snoc_0 (ps:List (List UInt8)) (x:List UInt8) (h:trimB x=[]):partsOf (ps++[x])=partsOf ps:=by
 unfold partsOf;simp[h]
theorem partsOf_snoc_s (ps:List (List UInt8)) (x:List UInt8) (h:trimB x≠[]):partsOf (ps++[x])=partsOf ps++[trimB x]:=by
 unfold partsOf;simp[h]
def partsB (l:List UInt8):List (List UInt8):=((splitB 44 l).map trimB).filter (λp=>!p.isEmpty)
def hasB (l word:List UInt8):Bool:=(partsB l).any (λp=>alikeB p word)
theorem partsB_len (l x:List UInt8) (h:x∈partsB l):x.length≤l.length:=by
 unfold partsB at h
 rw[List.mem_filter,List.mem_map] at h
 obtain⟨⟨y,hy,rfl⟩,_⟩:=h
 exact Nat.le_trans (trimB_len y) (splitB_len 44 l y hy)
def qHost:List UInt8:=[72,111,115,116]
def qTra:List UInt8:=[84,114,97,110,115,102,101,114,45,69,110,99,111,100,105,110,103]
def qLen:List UInt8:=[67,111,110,116,101,110,116,45,76,101,110,103,116,104]
def qConn:List UInt8:=[67,111,110,110,101,99,116,105,111,110]
def qClose:List UInt8:=[99,108,111,115,101]
def qChunk:List UInt8:=[99,104,117,110,107,101,100]
def qDig (c:UInt8):Bool:=48≤c&&c≤57
def fieldsL:List (List UInt8)→Option (List Fl)
 | []=>some []
 | l :: t=>if (parseB l).2.2 then (fieldsL t).map λfs=>((parseB l).1,(parseB l).2.1) :: fs else none
def numQ (s:List UInt8):Int:=match Lib.atoiAll s with
 | .ok n=>n
 | _=>4097
def lengthQ (fs:List Fl):Int :=
 if fs.any (λf=>alikeB f.1 qLen&&f.2 != (getB fs qLen).1) then -1
 else if (getB fs qLen).2=0 then 0
 else if (getB fs qLen).1.isEmpty||!(getB fs qLen).1.all qDig then -1
 else numQ (getB fs qLen).1
inductive HeadR where
 | bad (c:Nat)
 | good (r:Rq) (n:Nat) (chunked:Bool)
def closeF (f:Fl):Bool:=alikeB f.1 qConn&&hasB f.2 qClose
def headQ (ls:List (List UInt8)):HeadR :=
 if 33<ls.length then .bad 431
 else match fieldsL ls.tail with
  | none=>.bad 400
  | some fs =>
   let li:=lineB (ls.headD [])
   let ta:=targetB li.2.1
   if !(li.2.2.2&&ta.2.2)||((li.2.2.1==11&&(getB fs qHost).2 != 1)||decide (lengthQ fs<0)) then .bad 400
   else if decide (0<(getB fs qTra).2)&&(li.2.2.1==10||(decide (0<(getB fs qLen).2)||(decide (1<(getB fs qTra).2)||!alikeB (getB fs qTra).1 qChunk))) then .bad 400
   else if 4096<lengthQ fs then .bad 413
   else .good ⟨li.1,ta.1,ta.2.1,li.2.2.1,fs,[],li.2.2.1==10||fs.any closeF⟩ (lengthQ fs).toNat (decide (0<(getB fs qTra).2))
structure Ps where
 inp:List UInt8
 und:List UInt8
 head:Bool
 r:Rq
 len:Nat
 ch:Option Ck
 bad:Nat
def rq0:Rq:=⟨[],[],[],0,[],[],false⟩
def ps0:Ps:=⟨[],[],false,rq0,0,none,0⟩
def feedQ (p:Ps) (s:List UInt8):Ps:=if p.bad=0 then { p with inp:=p.inp++s } else p
def takesQ (p:Ps) (n:Nat):Ps:={ p with und:=p.und++p.inp.take n,inp:=p.inp.drop n }
def readsQ (p:Ps) (s:List UInt8):Ps:=match headQ (splitE s) with
 | .bad c=>{ p with bad:=c }
 | .good r n ch=>{ p with r:=r,len:=n,ch:=if ch then some ck0 else p.ch,bad:=0 }
def headsQ (p:Ps):Ps :=
 if decide (0≤Lib.index p.inp eol2)&&decide (Lib.index p.inp eol2+4≤2048) then
  (if (readsQ p (p.inp.take (Lib.index p.inp eol2).toNat)).bad=0 then takesQ { readsQ p (p.inp.take (Lib.index p.inp eol2).toNat) with head:=true } ((Lib.index p.inp eol2).toNat+4) else readsQ p (p.inp.take (Lib.index p.inp eol2).toNat))
 else if 2048≤p.inp.length then { p with bad:=431 } else p
def bodyQ (p:Ps):Ps×Bool:=match p.ch with
 | none=>if p.inp.length<p.len then (p,false) else ({ p with r:={ p.r with b:=p.inp.take p.len },inp:=p.inp.drop p.len },true)
 | some c=>({ takesQ p (feedC c p.inp).1 with ch:=some (feedC c p.inp).2,bad:=(feedC c p.inp).2.bad,r:={ p.r with b:=(feedC c p.inp).2.data } },decide ((feedC c p.inp).2.st=4∧(feedC c p.inp).2.bad=0))
def nextQ (p:Ps):Ps×Option Rq :=
 if p.bad≠0 then (p,none)
 else
  let h:=if p.head then p else headsQ p
  if !h.head then (h,none)
  else if (bodyQ h).2 then ({ ps0 with inp:=(bodyQ h).1.inp },some (bodyQ h).1.r) else ((bodyQ h).1,none)
def restQ (p:Ps):Ps×List UInt8:=if p.bad≠0 then (p,[]) else (ps0,p.und++p.inp)
open Go.RowKit
section
variable {α:Type} (f:α→List Value) (k:Nat)
def rcells (xs:List α):List Value:=xs.flatMap f
variable {f k}
theorem rcells_app (xs ys:List α):rcells f (xs++ys)=rcells f xs++rcells f ys:=by simp[rcells]
theorem rcells_one1 (x:α):rcells f [x]=f x:=by simp[rcells]
theorem rcells_get (hk:∀ x,(f x).length=k) (xs:List α) (i j:Nat) (hi:i<xs.length) (hj:j<k):(rcells f xs)[i*k+j]?=(f xs[i])[j]?:=by
 unfold rcells
 induction xs generalizing i with
 | nil=>cases hi
 | cons x t ih =>
  rw[List.flatMap_cons]
  cases i with
  | zero=>rw[Nat.zero_mul,Nat.zero_add,List.getElem?_append_left (by rw[hk];exact hj)];rfl
  | succ i =>
   rw[List.getElem?_append_right (by rw[hk,Nat.succ_mul];omega),hk,show (i+1)*k+j - k=i*k+j by rw[Nat.succ_mul];omega]
   exact ih i (by simpa using hi)
end
theorem ownsRow_ch {w w':World} {B:Nat} {e:TypeId} {size n:Nat} {v:Value} {xs:List Value} {T:Nat→Prop} (h:w.ownsRow B e size v n xs) (hc:Ch T w w') (ht:∀ k,T k→k<B):w'.ownsRow B e size v n xs:=by
 obtain⟨h1,h2⟩:=h
 refine⟨h1,?_⟩
 rcases h2 with h2 | ⟨g,cap,cur,rfl,hb,hh,hn,hm,hcs,ht'⟩
 ·exact .inl h2
 ·exact .inr ⟨g,cap,cur,rfl,hb,hc.get hh (λe=>by have:=ht _ e;omega),hn,hm,hcs,ht'⟩
theorem ownsRow_gr {w w':World} {B:Nat} {e:TypeId} {size n:Nat} {v:Value} {xs:List Value} (h:w.ownsRow B e size v n xs) (hc:Gr w w'):w'.ownsRow B e size v n xs :=
 ownsRow_ch h (hc.to_ch (λ_=>False)) (λ_ h=>h.elim)
theorem ownsRow_slice {w:World} {B:Nat} {e:TypeId} {size n:Nat} {v:Value} {xs:List Value} (h:w.ownsRow B e size v n xs):∃ p cap,v=.slice p n cap:=by
 rcases h.2 with⟨rfl,h0⟩ | ⟨g,cap,cur,rfl,_⟩
 ·exact⟨none,0,by rw[h0]⟩
 ·exact⟨_,cap,rfl⟩
theorem ownsRow_cell {w:World} {B:Nat} {e:TypeId} {size n:Nat} {v:Value} {xs:List Value} (h:w.ownsRow B e size v n xs) (hn:0<n):∃ g cap,v=.slice (some ⟨g,0,none⟩) n cap∧B≤g∧g<w.heap.size∧∀ j,j<n*size→w.cell? ⟨g,j,none⟩=xs[j]?:=by
 have h':=h
 rcases h.2 with⟨_,h0⟩ | ⟨g,cap,cur,rfl,hb,hh,_⟩
 ·omega
 ·exact⟨g,cap,rfl,hb,(Array.getElem?_eq_some_iff.1 hh).1,λj hj=>World.ownsRow.cellAt h' j hj⟩
theorem ch_grown {w w':World} {row:Option Nat} (h:w.grownBy w' row):Ch (λk=>row=some k) w w' :=
 ⟨h.os,h.tape,h.output,h.size,λk hk hn=>h.block k hk (λe=>hn e.symm)⟩
theorem cells_new (w:World) (cs:List Value) (t:TypeId):∀ j u,cs[j]?=some u→(w.alloc (.cells cs.toArray t)).cell? ((⟨w.heap.size,0,none⟩:Addr).add j)=some u:=by
 intro j u hj
 have hh:(w.alloc (.cells cs.toArray t)).heap[w.heap.size]?=some (.cells cs.toArray t (0,0)):=World.alloc_heap_new w _
 have e:(⟨w.heap.size,0,none⟩:Addr).add j=⟨w.heap.size,j,none⟩:=by
  by_cases h0:j=0 <;> simp[Addr.add,h0]
 rw[e]
 simp only[World.cell?,hh]
 simpa using hj
attribute [local go_sem] Oper.semAt_some
theorem infoU8:(prog.info? 5).map (λi=>(i.zero,i.size,i.bytes))=some (some (.int .u8 0),1,1):=by kernel_rfl
def bcells (l:List UInt8):List Value:=l.map λc=>Value.int .u8 (c.toNat:Int)
theorem bcells_len (l:List UInt8):(bcells l).length=l.length:=by simp[bcells]
theorem bcells_app (a b:List UInt8):bcells (a++b)=bcells a++bcells b:=by simp[bcells]
theorem bcells_get (l:List UInt8) (i:Nat) (h:i<l.length):(bcells l)[i]?=some (.int .u8 (l[i].toNat:Int)):=by simp[bcells,h]
theorem bcells_one (l:List UInt8):∀ u∈bcells l,u.oneCell'=true:=by
 intro u hu
 obtain⟨c,_,rfl⟩:=List.mem_map.1 hu
 rfl
theorem strCells_eq (l:List UInt8):Lib.strCells ⟨l.toArray⟩=bcells l:=by simp[Lib.strCells,bcells]
abbrev OwnB (B:Nat) (W:World) (v:Value) (l:List UInt8):Prop:=W.ownsRow B 5 1 v l.length (bcells l)
theorem OwnB.row {B:Nat} {W:World} {v:Value} {l:List UInt8} (h:OwnB B W v l) (h0:0<l.length):∃ g cap,v=.slice (some ⟨g,0,none⟩) l.length cap∧B≤g∧g<W.heap.size∧(∀ i,(hi:i<l.length)→W.cell? ⟨g,i,none⟩=some (.int .u8 (l[i].toNat:Int)))∧l.length≤cap:=by
 rcases h.2 with⟨_,hn⟩ | ⟨g,cap,cur,rfl,hb,hh,hn,hm,hcs,ht⟩
 ·omega
 ·refine⟨g,cap,rfl,hb,(h.lt g rfl).2,λi hi=>?_,hn⟩
  have:=World.ownsRow.cells h (g:=g) rfl i _ (bcells_get l i hi)
  have e:(⟨g,0,none⟩:Addr).add i=⟨g,i,none⟩:=by
   by_cases h0:i=0
   ·subst h0;rfl
   ·simp[Addr.add,h0]
  rwa [e] at this
theorem OwnB.nil (B:Nat) (W:World):OwnB B W (.slice none 0 0) []:=World.ownsRow_nil _ _ _ _
theorem conv_take {B:Nat} {W:World} {v:Value} {l:List UInt8} (h:OwnB B W v l) {g cap:Nat} (hv:v=.slice (some ⟨g,0,none⟩) l.length cap) (k cap':Nat) (hk:k≤l.length) :
  (convert 100 9 (.slice (some ⟨g,0,none⟩) k cap')).run prog W=.ok (.string ⟨(l.take k).toArray⟩) W:=by
 have hl:(l.take k).length=k:=by rw[List.length_take];omega
 have:=run_convert_bytes_back (P:=prog) W 100 9 5 ⟨g,0,none⟩ cap' (l.take k) underlying100 underlying5 underlying9 (λj hj=>by
  have hj':j<l.length:=by omega
  have hc:=World.ownsRow.cells h (g:=g) (by rw[hv];rfl) j _ (bcells_get l j hj')
  rw[hc];simp)
 rwa [hl] at this
theorem cell_new7 (W:World) (cs:List Value) (t:TypeId) (j:Nat) (u:Value) (h:cs[j]?=some u):(W.alloc (.cells cs.toArray t)).cell? ⟨W.heap.size,j,none⟩=some u:=by
 have:=cells_new W cs t j u h
 have e:(⟨W.heap.size,0,none⟩:Addr).add j=⟨W.heap.size,j,none⟩:=by
  by_cases h0:j=0 <;> simp[Addr.add,h0]
 rwa [e] at this
theorem conv_all {B:Nat} {W:World} {v:Value} {l:List UInt8} (h:OwnB B W v l):(convert 100 9 v).run prog W=.ok (.string ⟨l.toArray⟩) W:=by
 have h':=h
 rcases h.2 with⟨rfl,hn⟩ | ⟨g,cap,cur,rfl,_⟩
 ·have hl:l=[]:=by
   have:=h.1;cases l with
   | nil=>rfl
   | cons a t=>simp_all
  subst hl
  exact run_convert_bytes_nil (P:=prog) W 100 5 underlying100 underlying5 0 0 _ underlying9
 ·have:=conv_take h' rfl l.length cap (Nat.le_refl _)
  rwa [List.take_length] at this
theorem own_snoc {B:Nat} {W:World} {v:Value} {l:List UInt8} {d:UInt8} (h:W.ownsRow B 5 1 v (l.length+1) (bcells l++[.int .u8 d.toNat])):OwnB B W v (l++[d]):=by
 unfold OwnB;rw[List.length_append,bcells_app];exact h
theorem cell_one_new' (w:World) (x:Value) (t:TypeId) {n:Nat} (hn:n=w.heap.size):∀ j u,[x][j]?=some u→(w.alloc (.cells #[x] t)).cell? ((⟨n,0,none⟩:Addr).add j)=some u:=hn▸cell_one_new w x t
theorem off_ne {b o i:Nat} (h:o≠i):(⟨b,i,none⟩:Addr)≠⟨b,o,none⟩:=λe=>by injection e with _ e2 _;exact h e2.symm
theorem cell_off {W:World} {b o i:Nat} {u v:Value} (h:W.cell? ⟨b,o,none⟩=some u) (hn:o≠i):(W.setCell ⟨b,i,none⟩ v).cell? ⟨b,o,none⟩=some u :=
 (World.cell?_setCell_other _ _ _ _ (off_ne hn)).trans h
theorem OwnB.slice {B:Nat} {W:World} {v:Value} {l:List UInt8} (h:OwnB B W v l):∃ p cap,v=.slice p l.length cap:=by
 rcases h.2 with⟨rfl,hn⟩ | ⟨g,cap,cur,rfl,_⟩
 ·exact⟨none,0,by rw[hn]⟩
 ·exact⟨_,cap,rfl⟩
