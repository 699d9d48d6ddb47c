/-
  Plain laws of replies: what has bytes is read as it was; what is read has bytes; no program in sight.
-/
import Derived.Test.YtadobobfjnmdlaaGreatDoorOb
import Derived.Lib.ItoaMem
set_option linter.unnecessarySimpa false
set_option linter.unusedVariables false
set_option linter.unusedSimpArgs false
set_option maxHeartbeats 16000000
set_option maxRecDepth 100000
open Go.Proofs.Tryz
namespace Go.Proofs.YtadobobfjnmdlaaGreatDoor
theorem Cu {l:List UInt8}(h:eh l=true):∀c∈l,c≠13:=λc a e=>by
 subst e;unfold eh at h;rw[Bool.and_eq_true]at h;exact absurd (List.all_eq_true.1 h.2 _ a) (by decide)
theorem tc {l:List UInt8}(h:l.all aT=true):∀c∈l,c≠13:=λc a e=>by
 subst e;exact absurd (List.all_eq_true.1 h _ a) (by decide)
theorem E6 {l:List UInt8}(h:eh l=true):l≠[]:=by
 rintro rfl;cases h
theorem vE {n v:List UInt8}(h:ax (n++[58]++v)=(n,v,true)):eh n=true∧v.all aT=true∧bm v=v:=by
 rcases sR (n++[58]++v)with e | ⟨m,x,_,a,b,c⟩
 ·rw[e]at h;simp at h
 ·rw[c]at h;simp only[Prod.mk.injEq,and_true]at h;obtain⟨rfl,rfl⟩:=h;exact⟨a,Cb b,zl x⟩
theorem iz {n v:List UInt8}(hn:eh n=true)(d:v.all aT=true)(c:bm v=v):ax (n++[58,32]++v)=(n,v,true):=by
 have e:n++[58,32]++v=n++[58]++([32]++v):=by simp
 have a:([32]++v).all aT=true:=by rw[List.all_append,d];rfl
 have b:bm ([32]++v)=v:=by
  have:=zk (p:=[32]) (q:=[]) (l:=v) (by decide) rfl;rw[List.append_nil]at this;rw[this,c]
 rw[e,iv hn,if_pos a,b]
theorem qT {n v:List UInt8}(hn:eh n=true)(b:v.all aT=true)(a:bm v=v):ax (n++[58]++v)=(n,v,true):=by
 rw[iv hn,if_pos b,a]
theorem lw {n v:List UInt8}(hn:eh n=true)(b:v.all aT=true):iD (n++[58,32]++v):=by
 refine⟨by have:=E6 hn;simp,λc a=>?_⟩;rw[List.mem_append,List.mem_append]at a;rcases a with(a | a) | a
 ·exact Cu hn c a
 ·intro e;subst e;simp at a
 ·exact tc b c a
theorem nv {c:Int}{f:List UInt8×List UInt8}(h:bH c f=true):iD (f.1++[58,32]++f.2)∧∀st:HdSt,jg c st (f.1++[58,32]++f.2)=some (st.1++[f],st.2.1,st.2.2):=by
 unfold bH at h;simp only[Bool.and_eq_true,decide_eq_true_eq,Bool.not_eq_true',Bool.or_eq_false_iff]at h;obtain⟨b,d,e,g⟩:=h;obtain⟨hn,a,i⟩:=vE b;refine⟨lw hn a,λst=>?_⟩;unfold jg;rw[iz hn a i];simp only[d,e,g];simp
theorem lV {c:Int}:∀(fs:List (List UInt8×List UInt8)) (st:HdSt),fs.all (bH c)=true→dw c st (fs.map λf=>f.1++[58,32]++f.2)=some (st.1++fs,st.2.1,st.2.2)
 | [],st,_=>by simp[dw]
 | f :: t,st,h=>by
  rw[List.all_cons,Bool.and_eq_true]at h;rw[List.map_cons];unfold dw;rw[(nv h.1).2 st];show dw c (st.1++[f],st.2.1,st.2.2) _=_;rw[lV t _ h.2];simp
theorem ny {l:List UInt8}(h:l.all dQ=true):l.all aT=true:=by
 rw[List.all_eq_true]at h ⊢;intro c a;have:=h c a;revert this;exact jF (p:=λc=>dQ c=true→aT c=true) (by decide +kernel) c
theorem tf {c:UInt8}:dQ c=true→ay c=false:=jF (p:=λc=>dQ c=true→ay c=false) (by decide +kernel) c
theorem xJ:∀(a b:List UInt8) (e:Nat),Lib.decFrom e (a++b)=(Lib.decFrom e a).bind λn=>Lib.decFrom n b
 | [],b,e=>rfl
 | c :: t,b,e=>by
  simp only[List.cons_append,Lib.decFrom];cases Lib.digitVal c with
  | none=>rfl
  | some d=>exact xJ t b _
theorem zu {c:UInt8}(h:dQ c=true):Lib.digitVal c=some (c.toNat - 48):=by
 rw[dc,decide_eq_true_eq]at h;unfold Lib.digitVal;rw[if_pos (by omega)]
theorem tg {d:Nat}(h:d<10):dQ (UInt8.ofNat (48+d))=true∧Lib.digitVal (UInt8.ofNat (48+d))=some d:=by
 have e:(UInt8.ofNat (48+d)).toNat=48+d:=by rw[UInt8.toNat_ofNat'];omega
 have a:dQ (UInt8.ofNat (48+d))=true:=by rw[dc,e];exact decide_eq_true (by omega)
 exact⟨a,by rw[zu a,e];congr 1;omega⟩
theorem jf:∀(k n:Nat),n≤k→(Lib.decDigits n).all dQ=true∧Lib.decFrom 0 (Lib.decDigits n)=some n∧Lib.decDigits n≠[]
 | 0,n,h=>by
  obtain rfl:n=0:=by omega
  rw[Lib.decDigits_one (by omega)];exact⟨by decide,by decide,by simp⟩
 | k+1,n,h=>by
  by_cases a:n<10
  ·rw[Lib.decDigits_one a];obtain⟨b,c⟩:=tg a;refine⟨by rw[List.all_cons,b];rfl,?_,by simp⟩;unfold Lib.decFrom;rw[c];show Lib.decFrom (0*10+n) []=_;simp[Lib.decFrom]
  ·obtain⟨d,e,f⟩:=jf k (n / 10) (by omega);rw[Lib.decDigits,dif_neg a];obtain⟨b,c⟩:=tg (Nat.mod_lt n (by omega:0<10));refine⟨by rw[List.all_append,d,List.all_cons,b];rfl,?_,by simp⟩;rw[xJ,e];show Lib.decFrom (n / 10) _=_;unfold Lib.decFrom;rw[c];show Lib.decFrom (n / 10*10+n % 10) []=_;unfold Lib.decFrom;congr 1;omega
theorem gT:∀(j n:Nat),n<10 ^ (j+1)→(Lib.decDigits n).length≤j+1
 | 0,n,h=>by rw[Lib.decDigits_one (by simpa using h)];simp
 | j+1,n,h=>by
  by_cases a:n<10
  ·rw[Lib.decDigits_one a];simp
  ·rw[Lib.decDigits,dif_neg a,qw];have:=gT j (n / 10) (by rw[Nat.div_lt_iff_lt_mul (by omega)];rw[Nat.pow_succ]at h;exact h);simp;omega
theorem pC {n:Nat}(h:n<1000000):(Lib.itoa (n:Int)).all dQ=true∧Lib.itoa (n:Int)≠[]∧dN (Lib.itoa (n:Int))=some n:=by
 rw[Lib.itoa_nonneg];obtain⟨a,c,b⟩:=jf n n (qv _);have e:=gT 5 n (by simpa using h);refine⟨a,b,?_⟩;unfold dN Lib.decNat;have d:(Lib.decDigits n).isEmpty=false:=by simpa using b
 rw[d,a,decide_eq_true (by omega)];exact c
theorem zv {l:List UInt8}(h:l.all dQ=true):bm l=l:=by
 have c:∀x∈l,ay x=false:=λx a=>tf (List.all_eq_true.1 h x a);have b:∀m:List UInt8,(∀x∈m,ay x=false)→m.dropWhile ay=m:=λm hm=>by
  cases m with
  | nil=>rfl
  | cons y t=>rw[List.dropWhile_cons,hm y (by simp)];rfl
 rw[dW];unfold cM bU;rw[b l.reverse (λx a=>c x (by simpa using a)),List.reverse_reverse,b _ c]
theorem nA (c:Int):(aU c).all aT=true:=by
 unfold aU
 repeat' split
 all_goals decide
theorem zw {n:Nat}(a:100≤n)(b:n≤599):iD (aC++Lib.itoa (n:Int)++[32]++aU n)∧dh (aC++Lib.itoa (n:Int)++[32]++aU n)=(n,aU n,true):=by
 refine⟨⟨by simp[aC],tc ?_⟩,?_⟩
 ·rw[List.all_append,List.all_append,List.all_append,nA,ny (pC (by omega)).1];decide
 ·rw[vx a (by omega),nA,decide_eq_true b];rfl
theorem zx {c:Int}{n:Nat}(h:n<1000000)(fs:List (List UInt8×List UInt8))(b:Bool):iD (dq++[58,32]++Lib.itoa (n:Int))∧jg c (fs,b,none) (dq++[58,32]++Lib.itoa (n:Int))=some (fs,b,some n):=by
 obtain⟨a,_,d⟩:=pC h;refine⟨lw (by decide) (ny a),?_⟩;unfold jg;rw[iz (n:=dq) (by decide) (ny a) (zv a)];have e1:an dq ky=false:=by decide
 have e2:an dq dq=true:=by decide
 simp only[e1,e2,d];rfl
theorem pD {c:Int}(h:(c != 101)=true)(fs:List (List UInt8×List UInt8))(o:Option Nat):iD (cx++[58,32]++el)∧jg c (fs,false,o) (cx++[58,32]++el)=some (fs,true,o):=by
 refine⟨lw (by decide) (by decide),?_⟩;unfold jg;rw[iz (n:=cx) (v:=el) (by decide) (by decide) (by decide)];have e1:an cx ky=false:=by decide
 have e2:an cx dq=false:=by decide
 have e3:an cx cx=true:=by decide
 simp only[e1,e2,e3,h];simp
theorem lW {r:Rp}(h:cK r=true):∃n:Nat,r.code=n∧100≤n∧n≤599∧(bF r.code=true→r.b=[])∧r.b.length≤65536∧r.fs.all (bH r.code)=true:=by
 unfold cK at h;simp only[Bool.and_eq_true,decide_eq_true_eq,Bool.not_eq_true',Bool.and_eq_false_iff,Bool.not_eq_false']at h;obtain⟨f,g,a,c,d⟩:=h;refine⟨r.code.toNat,by omega,by omega,by omega,λe=>?_,c,d⟩;rcases a with a | a
 ·rw[e]at a;cases a
 ·simpa using a
theorem zy {r:Rp}{close:Bool}(h:cK r=true)(m:(close&&r.code==101)=false) :
  (∀l∈bX r close,iD l)∧bX r close≠[]∧∃n:Nat,r.code=n∧fH (bX r close)=some (n,r.fs,close,if bF r.code then none else some r.b.length):=by
 obtain⟨n,hn,j,k,p,q,d⟩:=lW h;obtain⟨k1,k2⟩:=zw j k;have g:=λfs i=>@zx r.code r.b.length (by omega) fs i;have c:dw r.code ([],false,none) (r.fs.map λf=>f.1++[58,32]++f.2)=some (r.fs,false,none):=by
  have:=lV r.fs ([],false,none) d;simpa using this
 have a:close=true→(r.code != 101)=true:=λe=>by
  subst e;rw[bne,Bool.not_eq_true'];simpa using m
 refine⟨?_,by simp[bX],n,hn,?_⟩
 ·intro l hl;unfold bX at hl;simp only[List.mem_append]at hl;rcases hl with((hl | hl) | hl) | hl
  ·rw[List.mem_singleton]at hl;subst hl;rw[hn];exact k1
  ·obtain⟨f,hf,rfl⟩:=List.mem_map.1 hl;exact(nv (List.all_eq_true.1 d f hf)).1
  ·split at hl
   ·cases hl
   ·rw[List.mem_singleton]at hl;subst hl;exact(g [] false).1
  ·split at hl
   ·rename_i e;rw[List.mem_singleton]at hl;subst hl;exact(pD (a e) [] none).1
   ·cases hl
 ·have hl:bX r close=(aC++Lib.itoa (n:Int)++[32]++aU n) :: ((r.fs.map λf=>f.1++[58,32]++f.2)++((if bF r.code then [] else [dq++[58,32]++Lib.itoa r.b.length])++(if close then [cx++[58,32]++el] else []))):=by
   unfold bX;rw[hn];simp
  rw[hl];unfold fH;rw[List.headD_cons,k2];dsimp only[List.tail_cons];rw[←hn,lA,c];show((dw r.code (r.fs,false,none) _).bind _)=_;rw[lA];have e1:dw r.code (r.fs,false,none) (if bF r.code then [] else [dq++[58,32]++Lib.itoa r.b.length])=some (r.fs,false,if bF r.code then none else some r.b.length):=by
   cases bF r.code
   ·show dw r.code (r.fs,false,none) [_]=_;unfold dw;rw[(g _ _).2];rfl
   ·rfl
  rw[e1];show((dw r.code (r.fs,false,if bF r.code then none else some r.b.length) (if close then [cx++[58,32]++el] else [])).bind _)=_;have e2:∀o,dw r.code (r.fs,false,o) (if close then [cx++[58,32]++el] else [])=some (r.fs,close,o):=λo=>by
   cases close
   ·rfl
   ·show dw r.code (r.fs,false,o) [_]=_;unfold dw;rw[(pD (a rfl) _ _).2];rfl
  rw[e2];cases s:bF r.code <;> simp
theorem pE (r:Rp)(close:Bool):eM r close=dj (bX r close)++ar:=by
 unfold eM;rw[pG _ (by simp[bX]),List.append_assoc];rfl
theorem zA {r:Rp}{head close:Bool}(h:cK r=true)(j:(close&&r.code==101)=false)(behind:List UInt8) :
  aP (eM r close++(if head then [] else r.b)++behind) head=.good ⟨r.code,r.fs,if head then [] else r.b⟩ close (eM r close++(if head then [] else r.b)).length:=by
 obtain⟨d,f,n,hn,g⟩:=zy h j;obtain⟨_,_,_,_,c,_,_⟩:=lW h;have e:eM r close++(if head then [] else r.b)++behind=dj (bX r close)++(ar++((if head then [] else r.b)++behind)):=by
  rw[pE];simp
 have hi:Lib.index (eM r close++(if head then [] else r.b)++behind) ar=(dj (bX r close)).length:=by
  rw[e];exact nH _ _ f d
 unfold aP;rw[hi,if_neg (by omega),Int.toNat_natCast];have m:(eM r close++(if head then [] else r.b)++behind).take (dj (bX r close)).length=dj (bX r close):=by
  rw[e,List.take_left'];rfl
 rw[m,nF _ f d,g];dsimp only;have a:(eM r close).length=(dj (bX r close)).length+4:=by rw[pE,qw];rfl
 have k:(eM r close++(if head then [] else r.b)++behind).drop ((dj (bX r close)).length+4)=(if head then [] else r.b)++behind:=by
  rw[←a,List.append_assoc,List.drop_left'];rfl
 have l:(if head then 0 else(if bF r.code then none else some r.b.length:Option Nat).getD 0)=(if head then [] else r.b).length:=by
  cases head
  ·cases i:bF r.code
   ·rfl
   ·rw[c i];rfl
  ·rfl
 rw[l,k,if_neg (by rw[qw,qw,a];omega),List.take_left',←hn,qw,a];rfl
structure RSt where
 fs:List (List UInt8×List UInt8)
 cls:Nat
 lens:Nat
 n:Nat
def di (c:Int)(st:RSt)(l:List UInt8):Option RSt :=
 if !(ax l).2.2||an (ax l).1 ky then none
 else if an (ax l).1 dq then(dN (ax l).2.1).map λm=>{ st with lens:=st.lens+1,n:=m }
 else if c != 101&&an (ax l).1 cx then(if (ax l).2.1==el then some { st with cls:=st.cls+1 } else none)
 else some { st with fs:=st.fs++[((ax l).1,(ax l).2.1)] }
def ek (c:Int):RSt→List (List UInt8)→Option RSt
 | st,[]=>some st
 | st,l :: t=>(di c st l).bind λst'=>ek c st' t
theorem lx (c:Int):∀(a b:List (List UInt8)) (st:RSt),ek c st (a++b)=(ek c st a).bind λd=>ek c d b
 | [],b,st=>rfl
 | l :: t,b,st=>by
  simp only[List.cons_append,ek];cases di c st l with
  | none=>rfl
  | some d=>exact lx c t b d
theorem th {c:Int}{st a:RSt}{l:List UInt8}(h:di c st l=some a):st.cls≤a.cls∧st.lens≤a.lens∧a.fs.length≤st.fs.length+1∧a.cls≤st.cls+1∧a.lens≤st.lens+1∧(a.lens=0→a.n=st.n):=by
 unfold di at h;split at h
 ·cases h
 ·split at h
  ·cases b:dN (ax l).2.1 with
   | none=>rw[b]at h;cases h
   | some m=>rw[b]at h;cases h;simp
  ·split at h
   ·split at h
    ·cases h;simp
    ·cases h
   ·cases h;simp
theorem iA {c:Int}:∀(b:List (List UInt8)) {st a:RSt},ek c st b=some a→st.cls≤a.cls∧st.lens≤a.lens∧a.fs.length≤st.fs.length+b.length∧a.cls≤st.cls+b.length∧a.lens≤st.lens+b.length∧(a.lens=0→a.n=st.n)
 | [],st,a,h=>by cases h;simp
 | l :: t,st,a,h=>by
  unfold ek at h;cases e:di c st l with
  | none=>rw[e]at h;cases h
  | some y =>
   rw[e]at h;obtain⟨a1,a2,a3,a4,g,d⟩:=th e;obtain⟨i,j,k,m,o,f⟩:=iA t h;rw[List.length_cons];exact⟨by omega,by omega,by omega,by omega,by omega,λh0=>(f h0).trans (d (by omega))⟩
def hOf (st:RSt):HdSt:=(st.fs,st.cls==1,if st.lens=0 then none else some st.n)
def RSt.fine (st:RSt):Bool:=decide (st.cls≤1)&&decide (st.lens≤1)
theorem RSt.fine_iff {st:RSt}:st.fine=true↔st.cls≤1∧st.lens≤1:=by simp[RSt.fine]
theorem Cv {c:Int}{st:RSt}{l:List UInt8}(hf:st.fine=true):jg c (hOf st) l=match di c st l with
  | none=>none
  | some a=>if a.fine then some (hOf a) else none:=by
 obtain⟨b,d⟩:=RSt.fine_iff.1 hf;obtain⟨fs,cls,lens,n⟩:=st;dsimp only at b d;unfold jg di hOf;dsimp only;cases e:(!(ax l).2.2||an (ax l).1 ky)
 ·simp only[Bool.false_eq_true,if_false];cases f:an (ax l).1 dq
  ·simp only[Bool.false_eq_true,if_false];cases g:(c != 101&&an (ax l).1 cx)
   ·simp[RSt.fine,b,d]
   ·simp only[if_true];cases h:((ax l).2.1==el)
    ·simp
    ·have:cls=0∨cls=1:=(by omega);rcases this with rfl | rfl
     ·simp[RSt.fine,d]
     ·simp[RSt.fine]
  ·simp only[if_true];cases i:dN (ax l).2.1 with
   | none=>simp
   | some m =>
    have:lens=0∨lens=1:=(by omega);rcases this with rfl | rfl
    ·simp[RSt.fine,b]
    ·simp[RSt.fine]
 ·simp
theorem ti {c:Int}:∀(d:List (List UInt8)) (st:RSt),st.fine=true→dw c (hOf st) d=match ek c st d with
  | none=>none
  | some a=>if a.fine then some (hOf a) else none
 | [],st,hf=>by
  show some (hOf st)=_;unfold ek;dsimp only;rw[hf];rfl
 | l :: t,st,hf=>by
  unfold dw ek;rw[Cv hf];cases e:di c st l with
  | none=>rfl
  | some y =>
   dsimp only[Option.bind];cases b:y.fine
   ·simp only[Bool.false_eq_true,if_false];cases e2:ek c y t with
    | none=>rfl
    | some z =>
     dsimp only;obtain⟨g,h,_⟩:=iA t e2;have:z.fine=false:=by
      rw[Bool.eq_false_iff];intro f;obtain⟨i,j⟩:=RSt.fine_iff.1 f;rw[Bool.eq_false_iff]at b;exact b (RSt.fine_iff.2 ⟨by omega,by omega⟩)
     rw[this];rfl
   ·simp only[if_true];exact ti t y b
def nB:RSt:=⟨[],0,0,0⟩
theorem zB {l0:List UInt8}{tl:List (List UInt8)}(h:(dh l0).2.2=false):fH (l0 :: tl)=none:=by
 unfold fH;rw[List.headD_cons];obtain⟨⟨c,r,ok⟩,hs⟩:∃x,dh l0=x:=⟨_,rfl⟩;rw[hs]at h ⊢;dsimp only at h;subst h;rfl
theorem zC {l0 a:List UInt8}{tl:List (List UInt8)}{c:Nat}(h:dh l0=(c,a,true)):fH (l0 :: tl)=match ek c nB tl with
  | none=>none
  | some st=>if st.fine&&(bF c==(st.lens==0)) then some (c,hOf st) else none:=by
 unfold fH;rw[List.headD_cons,h];dsimp only[List.tail_cons];have:=ti (c:=(c:Int)) tl nB rfl;have e0:hOf nB=([],false,none):=rfl;rw[e0]at this;rw[this];cases ek c nB tl with
 | none=>rfl
 | some st =>
  dsimp only;have e1:(hOf st).2.2.isNone=(st.lens==0):=by
   unfold hOf;by_cases h0:st.lens=0 <;> simp[h0]
  cases st.fine with
  | false=>rfl
  | true =>
   simp only[if_true,Bool.true_and,Option.bind_some,e1]
