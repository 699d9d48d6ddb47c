/-
  A session's parts as things: the parser of requests, a handler.
-/
import Derived.Test.YtadobobfjnmdlaaGreatDoorYi
import Derived.Test.YtadobobfjnmdlaaGreatDoorVe
import Derived.KernelRfl
set_option linter.unnecessarySimpa false
set_option linter.unusedVariables false
set_option linter.unusedSimpArgs false
set_option maxHeartbeats 16000000
set_option maxRecDepth 100000
open Go.Lib (hid)
open Go.Proofs.Tryz
namespace Go.Proofs.YtadobobfjnmdlaaGreatDoor
open Go.RowKit Go.Shelf
def PqAt (B:Nat) (T:Nat→Prop) (W:World) (p:Ps):Prop :=
 (∃ T0 fv cv,PsAt B T0 W p fv cv∧(∀ k,T0 k→T k)∧∀ a n c,fv=.slice (some a) n c→T a.block)∧∀ k,T k→k<W.heap.size
theorem pqKin (B:Nat):Kin (PqAt B) :=
 ⟨fun {T T' W x} ⟨⟨T0,fv,cv,h,h1,h2⟩,_⟩ ht hl=>⟨⟨T0,fv,cv,h,λk e=>ht _ (h1 k e),λa n c e=>ht _ (h2 a n c e)⟩,hl⟩,
  fun {T S W W' x} ⟨⟨T0,fv,cv,h,h1,h2⟩,hl⟩ hc hs=>⟨⟨T0,fv,cv,h.ch_out hc (λk e e2=>hs k (h1 k e2) e) (λa n c e e2=>hs _ (h2 a n c e) e2),h1,h2⟩,λk hk=>Nat.lt_of_lt_of_le (hl k hk) hc.size⟩,
  fun {T W x} h=>h.2⟩
theorem addw_lt {T:Nat→Prop} {W W':World} (hs:W.heap.size≤W'.heap.size) (hl:∀ k,T k→k<W.heap.size):∀ k,Add T W W' k→k<W'.heap.size:=λk e=>e.elim (λe=>Nat.lt_of_lt_of_le (hl k e) hs) (λe=>e.2)
section
variable {B:Nat} {T:Nat→Prop} {W:World} {p:Ps}
theorem PqAt.post {T0:Nat→Prop} {p':Ps} {W':World} {fv cv:Value} (h:PsAt B T0 W p fv cv) (h1:∀ k,T0 k→T k) (h2:∀ a n c,fv=.slice (some a) n c→T a.block) (hl:∀ k,T k→k<W.heap.size) (hp:PsPost B T0 W p' W'):Pst (PqAt B) T W p' W':=by
 obtain⟨T',fv',cv',k1,k2,k3,k4⟩:=hp
 refine⟨⟨⟨T',fv',cv',k1,λk e=>(k3 k e).imp (h1 k) (λe2=>⟨e2,(k1.tl k e).2⟩),λa n c e=>?_⟩,addw_lt k2.size hl⟩,k2.mono h1⟩
 rcases k4 a n c e with⟨n0,c0,e2⟩ | e2
 ·exact .inl (h2 a n0 c0 (Option.some.inj (h.c7.symm.trans e2)))
 ·exact .inr ⟨e2,k1.fb a n c e⟩
theorem pqfeed_at (h:PqAt B T W p) (s:List UInt8) (hl:p.inp.length+s.length≤4611686018427387904) :
  Calls prog 39 #[.pointer (some ⟨B,0,none⟩),.string ⟨s.toArray⟩] W λe w'=>e=.returned (.tuple #[])∧Pst (PqAt B) T W (feedQ p s) w':=by
 obtain⟨⟨T0,fv,cv,k,h1,h2⟩,h3⟩:=h
 refine (pfeed_any B T0 p fv cv s W k hl).mono ?_
 rintro e w'⟨rfl,hp⟩
 exact⟨rfl,PqAt.post k h1 h2 h3 hp⟩
theorem pqbad_at (h:PqAt B T W p):Calls prog 69 #[.pointer (some ⟨B,0,none⟩)] W λe w'=>e=.returned (.int .i64 p.bad)∧W=w':=by
 obtain⟨⟨T0,fv,cv,k,h1,h2⟩,h3⟩:=h
 exact pbad_any B T0 p fv cv W k
theorem pqrest_at (h:PqAt B T W p) (hl:p.inp.length+p.und.length≤90000) :
  Calls prog 113 #[.pointer (some ⟨B,0,none⟩)] W λe w'=>e=.returned (.string ⟨(restQ p).2.toArray⟩)∧Pst (PqAt B) T W (restQ p).1 w':=by
 obtain⟨⟨T0,fv,cv,k,h1,h2⟩,h3⟩:=h
 refine (qrest_any B T0 p fv cv W k hl).mono ?_
 rintro e w'⟨rfl,hp⟩
 exact⟨rfl,PqAt.post k h1 h2 h3 hp⟩
theorem pqnext_at (hG:G W) (h:PqAt B T W p) (hl:p.inp.length+p.und.length≤90000) :
  Calls prog 67 #[.pointer (some ⟨B,0,none⟩)] W λe w'=>∃ rv,e=.returned (.tuple #[(rqO (nextQ p).2).V rv,.bool (nextQ p).2.isSome])∧FieldsAt w' rv (rqO (nextQ p).2).fs∧Pst (PqAt B) T W (nextQ p).1 w':=by
 obtain⟨⟨T0,fv,cv,k,h1,h2⟩,h3⟩:=h
 refine (next_any2 B T0 p fv cv W hG k hl).mono ?_
 rintro e w'⟨rv,T',fv',cv',rfl,hf,_,_,k1,k2,k3,_,k5⟩
 refine⟨rv,rfl,hf,⟨⟨T',fv',cv',k1,λj e=>(k3 j e).imp (h1 j) (λe2=>⟨e2,(k1.tl j e).2⟩),λa n c e=>?_⟩,addw_lt k2.size h3⟩,k2.mono h1⟩
 rcases k5 a n c e with⟨n0,c0,e2⟩ | e2
 ·exact .inl (h2 a n0 c0 (Option.some.inj (k.c7.symm.trans e2)))
 ·exact .inr ⟨e2,k1.fb a n c e⟩
theorem pqnew_at (hG:G W):Calls prog 38 #[] W λe w'=>∃ b,e=.returned (.pointer (some ⟨b,0,none⟩))∧PqAt b (New W w') w' ps0∧Gr W w':=by
 refine (qnew_any W hG).mono ?_
 rintro e w'⟨rfl,h,g⟩
 exact⟨_,rfl,⟨⟨_,_,_,h,λk e=>⟨by rw[e];exact Nat.le_refl _,(h.tl k e).2⟩,λa n c e=>by cases e⟩,λk e=>e.2⟩,g⟩
end
def RqSm (r:Rq):Prop:=r.fs.length≤100000∧(∀ f∈r.fs,f.1.length≤100000∧f.2.length≤100000)∧r.m.length≤100000∧r.p.length≤100000∧r.q.length≤100000∧r.b.length≤100000
def RpSm (x:Rp):Prop:=x.fs.length≤1000000∧(∀ f∈x.fs,f.1.length≤1000000∧f.2.length≤1000000)∧x.b.length≤1000000∧-9223372036854775808≤x.code∧x.code≤9223372036854775807
def Stays (F:Nat→Prop) (W0 W:World):Prop:=W0.heap.size≤W.heap.size∧∀ k,F k→W.heap[k]?=W0.heap[k]?
theorem Stays.refl (F:Nat→Prop) (W:World):Stays F W W:=⟨Nat.le_refl _,λ_ _=>rfl⟩
structure Hnd (g:Nat) (lb:Array Value) (F:Nat→Prop) (H:Rq→Rp) (W0:World):Prop where
 old:∀ k,F k→k<W0.heap.size
 enters:∀ args w,(callFunc g args).run prog w=.ok (.enter g args) w
 does:∀ W r s,Stays F W0 W→G W→FieldsAt W s r.fs→RqSm r→Calls prog g (#[r.V s]++lb) W λe w'=>∃ t,e=.returned ((H r).V t)∧FieldsAt w' t (H r).fs∧Gr W w'
 small:∀ r,RqSm r→RpSm (H r)
theorem Hnd.ch {g:Nat} {lb:Array Value} {F U:Nat→Prop} {H:Rq→Rp} {W0 W:World} (h:Hnd g lb F H W0) (hc:Ch U W0 W) (hU:∀ k,F k→¬U k):Hnd g lb F H W :=
 ⟨λk e=>Nat.lt_of_lt_of_le (h.old k e) hc.size,h.enters,λW' r s hs=>h.does W' r s ⟨Nat.le_trans hc.size hs.1,λk e=>(hs.2 k e).trans (hc.block k (h.old k e) (hU k e))⟩,h.small⟩
theorem Hnd.gr {g:Nat} {lb:Array Value} {F:Nat→Prop} {H:Rq→Rp} {W0 W:World} (h:Hnd g lb F H W0) (hg:Gr W0 W):Hnd g lb F H W:=h.ch (hg.to_ch (λ_=>False)) (λ_ _ e=>e)
def Hi (T:Nat→Prop):Prop:=∀ k,T k→5<k
end Go.Proofs.YtadobobfjnmdlaaGreatDoor
namespace Go.Proofs.YtadobobfjnmdlaaGreatDoor
def begU (b:UInt8):Int×UInt8×UInt8×Nat :=
 if b<128 then (0,0,0,b.toNat)
 else if b<194||244<b then (-1,0,0,0)
 else if b<224 then (1,128,191,(b&&&31).toNat)
 else if b==224 then (2,160,191,0)
 else if b==237 then (2,128,159,(b&&&15).toNat)
 else if b<240 then (2,128,191,(b&&&15).toNat)
 else if b==240 then (3,144,191,0)
 else if b==244 then (3,128,143,(b&&&7).toNat)
 else (3,128,191,(b&&&7).toNat)
structure Uc where
 left:Nat
 low:UInt8
 high:UInt8
 x:Nat
def uc0:Uc:=⟨0,0,0,0⟩
def stepU (c:Uc) (b:UInt8):Option Uc :=
 if c.left=0 then (if (begU b).1<0 then none else some ⟨(begU b).1.toNat,(begU b).2.1,(begU b).2.2.1,(begU b).2.2.2⟩)
 else if b<c.low||c.high<b then none
 else some ⟨c.left - 1,128,191,c.x*64+(b&&&63).toNat⟩
structure Uk where
 c:Uc
 bad:Bool
def uk0:Uk:=⟨uc0,false⟩
def feedU (k:Uk):List UInt8→Uk
 | []=>k
 | b :: t=>if k.bad then k else match stepU k.c b with
  | none=>{ k with bad:=true }
  | some c=>feedU ⟨c,false⟩ t
theorem feedU_cons (k:Uk) (b:UInt8) (t:List UInt8):feedU k (b :: t)=if k.bad then k else match stepU k.c b with
  | none=>{ k with bad:=true }
  | some c=>feedU ⟨c,false⟩ t:=rfl
theorem feedU_bad (k:Uk) (h:k.bad=true):∀ s,feedU k s=k
 | []=>rfl
 | b :: t=>by rw[feedU_cons,if_pos h]
theorem feedU_app:∀ (s t:List UInt8) (k:Uk),feedU k (s++t)=feedU (feedU k s) t
 | [],t,k=>rfl
 | b :: s,t,k=>by
  rw[List.cons_append]
  by_cases h:k.bad=true
  ·rw[feedU_bad k h,feedU_bad k h,feedU_bad k h]
  ·rw[feedU_cons,feedU_cons,if_neg h,if_neg h]
   cases stepU k.c b with
   | none=>exact (feedU_bad _ rfl t).symm
   | some c=>exact feedU_app s t _
def wholeU (k:Uk):Bool:=!k.bad&&k.c.left==0
def UcOk (c:Uc):Prop:=c.left≤3∧(c.left=0→c.x<2097152)∧(c.left=1→c.x<32768)∧(c.left=2→c.x<512)∧(c.left=3→c.x<8)
theorem and_le (b m:UInt8):(b&&&m).toNat≤m.toNat:=by rw[UInt8.toNat_and];exact Nat.and_le_right
theorem UcOk.step {c c':Uc} {b:UInt8} (h:UcOk c) (e:stepU c b=some c'):UcOk c':=by
 obtain⟨h1,h2,h3,h4,h5⟩:=h
 have a31:=and_le b 31
 have a15:=and_le b 15
 have a7:=and_le b 7
 have a63:=and_le b 63
 have hb:b.toNat<256:=b.toNat_lt
 have t31:(31:UInt8).toNat=31:=rfl
 have t15:(15:UInt8).toNat=15:=rfl
 have t7:(7:UInt8).toNat=7:=rfl
 have t63:(63:UInt8).toNat=63:=rfl
 rw[t31] at a31;rw[t15] at a15;rw[t7] at a7;rw[t63] at a63
 unfold stepU at e
 split at e
 ·split at e
  ·cases e
  ·cases e
   unfold begU
   repeat' split
   all_goals (refine⟨?_,?_,?_,?_,?_⟩ <;> (try simp only[]) <;> (try intro _) <;> (try omega) <;> (try simp_all))
 ·split at e
  ·cases e
  ·cases e
   refine⟨?_,?_,?_,?_,?_⟩ <;> simp only[] <;> (try intro _) <;> omega
def runesU (c:Uc) (from' i:Nat):List UInt8→List (Nat×Nat)
 | []=>[]
 | b :: t=>match stepU c b with
  | none=>[]
  | some c'=>if c'.left=0 then ((if c.left=0 then i else from'),c'.x) :: runesU c' (if c.left=0 then i else from') (i+1) t else runesU c' (if c.left=0 then i else from') (i+1) t
def widthU (x:Nat):Nat:=if x<128 then 1 else if x<2048 then 2 else if x<65536 then 3 else 4
def endU (l:List (Nat×Nat)):Nat:=l.foldl (λ_ y=>y.1+widthU y.2) 0
def validU (s:List UInt8):Bool:=endU (runesU uc0 0 0 s)==s.length
structure Hd where
 fin:Bool
 rsv:Nat
 op:Nat
 masked:Bool
 k0:UInt8
 k1:UInt8
 k2:UInt8
 k3:UInt8
 len:Nat
 least:Bool
def hd0:Hd:=⟨false,0,0,false,0,0,0,0,0,false⟩
def bigH (s:List UInt8):Nat:=s.foldl (λx c=>(x*256+c.toNat) % 18446744073709551616) 0
def moreH (n:Nat):Nat:=if n=126 then 2 else if n=127 then 8 else 0
def leastH (n:Nat):Nat:=if n≤125 then 0 else if n≤65535 then 2 else 8
def sizeH (s:List UInt8):Nat:=2+moreH (s.getD 1 0&&&127).toNat
def needH (s:List UInt8):Nat:=if 128≤s.getD 1 0 then sizeH s+4 else sizeH s
def lenH (s:List UInt8):Nat:=if 2<sizeH s then bigH ((s.take (sizeH s)).drop 2) else (s.getD 1 0&&&127).toNat
def maskK (s:List UInt8) (i:Nat):UInt8:=if 128≤s.getD 1 0 then s.getD (sizeH s+i) 0 else 0
def mkH (s:List UInt8):Hd :=
 ⟨128≤s.getD 0 0,((s.getD 0 0 >>> 4)&&&7).toNat,(s.getD 0 0&&&15).toNat,128≤s.getD 1 0,maskK s 0,maskK s 1,maskK s 2,maskK s 3,lenH s,leastH (lenH s)==sizeH s - 2⟩
def headH (s:List UInt8):Option (Hd×Nat):=if s.length<2∨s.length<needH s then none else some (mkH s,needH s)
def keyH (h:Hd) (i:Nat):UInt8:=if i % 4=0 then h.k0 else if i % 4=1 then h.k1 else if i % 4=2 then h.k2 else h.k3
def maskH (h:Hd) (at':Nat) (s:List UInt8):List UInt8:=s.mapIdx λi c=>c^^^keyH h (at' % 4+i)
theorem maskH_len (h:Hd) (a:Nat) (s:List UInt8):(maskH h a s).length=s.length:=by simp[maskH]
theorem maskH_app (h:Hd) (a:Nat) (s t:List UInt8):maskH h a (s++t)=maskH h a s++maskH h (a+s.length) t:=by
 unfold maskH
 rw[List.mapIdx_append]
 congr 1
 apply List.ext_getElem
 ·simp
 ·intro i h1 h2
  simp only[List.getElem_mapIdx]
  congr 1
  unfold keyH
  have:(a % 4+(i+s.length)) % 4=((a+s.length) % 4+i) % 4:=by omega
  rw[this]
def opH (n:Nat):Bool:=n==0||n==1||n==2||n==8||n==9||n==10
def mayH (masked:Bool) (h:Hd):Bool:=h.rsv==0&&(opH h.op&&(h.masked==masked&&((decide (h.op<8)||(h.fin&&decide (h.len≤125)))&&(h.least&&decide (h.len≤9223372036854775807)))))
inductive Fev where
 | begin' (fin:Bool) (op len:Nat)
 | piece (s:List UInt8)
 | fin
 | fail
structure Fr where
 st:Nat
 inp:List UInt8
 h:Hd
 told:Nat
def fr0:Fr:=⟨0,[],hd0,0⟩
def frFeed (r:Fr) (s:List UInt8):Fr:=if r.st=2 then r else { r with inp:=r.inp++s }
def frNext (r:Fr):Fr×Option Fev :=
 if r.st=2 then (r,none)
 else if r.st=0 then match headH r.inp with
  | none=>(r,none)
  | some (h,n)=>if mayH true h then ({ r with st:=1,inp:=r.inp.drop n,h:=h,told:=0 },some (.begin' h.fin h.op h.len)) else ({ r with st:=2,inp:=[] },some .fail)
 else if r.h.len - r.told=0 then ({ r with st:=0 },some .fin)
 else if min (r.h.len - r.told) r.inp.length=0 then (r,none)
 else ({ r with inp:=r.inp.drop (min (r.h.len - r.told) r.inp.length),told:=r.told+min (r.h.len - r.told) r.inp.length },some (.piece (maskH r.h r.told (r.inp.take (min (r.h.len - r.told) r.inp.length)))))
structure Jn where
 limit:Nat
 bad:Nat
 op:Nat
 sum:Nat
 text:List UInt8
 check:Uk
 begun:Bool
 last:Bool
 lacks:Nat
def jn0 (limit:Nat):Jn:=⟨limit,0,0,0,[],uk0,false,false,0⟩
def jnFail (j:Jn) (c:Nat):Jn:=if j.bad=0 then { j with bad:=c } else j
def jnBegin (j:Jn) (last:Bool) (op len:Nat):Jn :=
 if j.bad≠0 then j
 else if j.begun||(op != 0&&(op != 1&&op != 2))||((op==0) != (j.op != 0)) then jnFail j 1002
 else if (j.limit:Int) - j.sum<len then jnFail j 1009
 else if op≠0 then { j with op:=op,check:=uk0,begun:=true,last:=last,lacks:=len,sum:=j.sum+len }
 else { j with begun:=true,last:=last,lacks:=len,sum:=j.sum+len }
def jnPiece (j:Jn) (s:List UInt8):Jn :=
 if j.bad≠0 then j
 else if !j.begun||decide (j.lacks<s.length) then jnFail j 1002
 else if j.op=1 then (if (feedU j.check s).bad then { jnFail j 1007 with check:=feedU j.check s } else { j with check:=feedU j.check s,lacks:=j.lacks - s.length,text:=j.text++s })
 else { j with lacks:=j.lacks - s.length,text:=j.text++s }
def jnEnd (j:Jn):Jn×Option (Nat×List UInt8) :=
 if j.bad≠0 then (j,none)
 else if !j.begun||decide (0<j.lacks) then (jnFail j 1002,none)
 else if j.last&&(j.op==1&&!wholeU j.check) then (jnFail j 1007,none)
 else if !j.last then ({ j with begun:=false },none)
 else ({ j with begun:=false,op:=0,sum:=0,text:=[] },some (j.op,j.text))
inductive Wev where
 | message (op:Nat) (s:List UInt8)
 | ping (s:List UInt8)
 | closing (code:Nat)
 | failing (code:Nat)
structure Wn where
 r:Fr
 j:Jn
 st:Nat
 control:Nat
 data:List UInt8
def wn0 (limit:Nat):Wn:=⟨fr0,jn0 limit,1,0,[]⟩
def mayC (c:Nat):Bool:=(decide (1000≤c)&&decide (c≤1003))||((decide (1007≤c)&&decide (c≤1014))||(decide (3000≤c)&&decide (c≤4999)))
def readC (s:List UInt8):Nat×Nat :=
 if s.length=0 then (1005,0)
 else if s.length=1 then (0,1002)
 else if !mayC ((s.getD 0 0).toNat*256+(s.getD 1 0).toNat) then (0,1002)
 else if !validU (s.drop 2) then (0,1007)
 else ((s.getD 0 0).toNat*256+(s.getD 1 0).toNat,0)
def wnFail (c:Wn) (code:Nat):Wn×Option Wev:=({ c with st:=3 },some (.failing code))
def wnJoin (c:Wn) (e:Fev):Wn×Option Wev:=match e with
 | .begin' fin op len=>if (jnBegin c.j fin op len).bad≠0 then wnFail { c with j:=jnBegin c.j fin op len } (jnBegin c.j fin op len).bad else ({ c with j:=jnBegin c.j fin op len },none)
 | .piece s=>if (jnPiece c.j s).bad≠0 then wnFail { c with j:=jnPiece c.j s } (jnPiece c.j s).bad else ({ c with j:=jnPiece c.j s },none)
 | .fin=>if (jnEnd c.j).1.bad≠0 then wnFail { c with j:=(jnEnd c.j).1 } (jnEnd c.j).1.bad else ({ c with j:=(jnEnd c.j).1 },(jnEnd c.j).2.map λm=>.message m.1 m.2)
 | .fail=>({ c with j:=c.j },none)
def wnControl (c:Wn) (e:Fev):Wn×Option Wev:=match e with
 | .piece s=>({ c with data:=c.data++s },none)
 | _ =>
  if c.control=8 then (if (readC c.data).2≠0 then wnFail { c with control:=0 } (readC c.data).2 else ({ c with control:=0,st:=3 },some (.closing (readC c.data).1)))
  else if c.control=9∧c.st=1 then ({ c with control:=0 },some (.ping c.data))
  else ({ c with control:=0 },none)
def wnTakes (c:Wn) (e:Fev):Wn×Option Wev:=match e with
 | .fail=>wnFail c 1002
 | .begin' fin op len=>if 8≤op then ({ c with control:=op,data:=[] },none) else if c.control≠0 then wnControl c (.begin' fin op len) else if c.st≠1 then (c,none) else wnJoin c (.begin' fin op len)
 | e=>if c.control≠0 then wnControl c e else if c.st≠1 then (c,none) else wnJoin c e
def wnGo:Nat→Wn→Wn×Option Wev
 | 0,c=>(c,none)
 | n+1,c=>if c.st=3 then (c,none) else match frNext c.r with
  |(r,none)=>({ c with r:=r },none)
  |(r,some e)=>match wnTakes { c with r:=r } e with
   |(c',some x)=>(c',some x)
   |(c',none)=>wnGo n c'
def wnSize (c:Wn):Nat:=c.r.inp.length+(if c.r.st=0 then 0 else 1)
def wnNext (c:Wn):Wn×Option Wev:=wnGo (wnSize c+1) c
def wnFeed (c:Wn) (s:List UInt8):Wn:=if c.st=3 then c else { c with r:=frFeed c.r s }
def wnOver (c:Wn):Wn:={ c with st:=3 }
def rotW (n x:Nat):Nat:=(x*2 ^ n) % 4294967296 ||| x / 2 ^ (32 - n)
def addW (a b:Nat):Nat:=(a+b) % 4294967296
structure W5 where
 a:Nat
 b:Nat
 c:Nat
 d:Nat
 e:Nat
structure W5.ok (x:W5):Prop where
 a:x.a<4294967296
 b:x.b<4294967296
 c:x.c<4294967296
 d:x.d<4294967296
 e:x.e<4294967296
def first5:W5:=⟨1732584193,4023233417,2562383102,271733878,3285377520⟩
theorem first_ok:first5.ok:=⟨by decide,by decide,by decide,by decide,by decide⟩
def mixF (t b c d:Nat):Nat :=
 if t<20 then (b&&&c)^^^((4294967295^^^b)&&&d) else if t<40 then b^^^c^^^d else if t<60 then (b&&&c)^^^(b&&&d)^^^(c&&&d) else b^^^c^^^d
def mixK (t:Nat):Nat:=if t<20 then 1518500249 else if t<40 then 1859775393 else if t<60 then 2400959708 else 3395469782
def roundW (t w:Nat) (x:W5):W5:=⟨addW (addW (addW (addW (rotW 5 x.a) (mixF t x.b x.c x.d)) x.e) (mixK t)) w,x.a,rotW 30 x.b,x.c,x.d⟩
def byteN (s:List UInt8) (i:Nat):Nat:=(s.getD i 0).toNat
def word0 (s:List UInt8) (t:Nat):Nat:=((byteN s (4*t)*256+byteN s (4*t+1))*256+byteN s (4*t+2))*256+byteN s (4*t+3)
def schedR (s:List UInt8):Nat→List Nat
 | 0=>[]
 | t+1=>(if t<16 then word0 s t else rotW 1 ((schedR s t).getD 2 0^^^(schedR s t).getD 7 0^^^(schedR s t).getD 13 0^^^(schedR s t).getD 15 0)) :: schedR s t
def wS (s:List UInt8) (t:Nat):Nat:=(schedR s (t+1)).getD 0 0
theorem sched_at (s:List UInt8):∀ t i,i<t→(schedR s t).getD i 0=wS s (t - 1 - i)
 | 0,i,h=>by omega
 | t+1,0,_=>rfl
 | t+1,i+1,h=>by
  rw[show t+1 - 1 - (i+1)=t - 1 - i by omega,←sched_at s t i (by omega)]
  simp[schedR]
theorem wS_low (s:List UInt8) {t:Nat} (h:t<16):wS s t=word0 s t:=by simp[wS,schedR,h]
theorem wS_high (s:List UInt8) {t:Nat} (h:¬t<16):wS s t=rotW 1 (wS s (t - 3)^^^wS s (t - 8)^^^wS s (t - 14)^^^wS s (t - 16)):=by
 have e:wS s t=rotW 1 ((schedR s t).getD 2 0^^^(schedR s t).getD 7 0^^^(schedR s t).getD 13 0^^^(schedR s t).getD 15 0):=by simp[wS,schedR,h]
 rw[e,sched_at s t 2 (by omega),sched_at s t 7 (by omega),sched_at s t 13 (by omega),sched_at s t 15 (by omega)]
 rw[show t - 1 - 2=t - 3 by omega,show t - 1 - 7=t - 8 by omega,show t - 1 - 13=t - 14 by omega,show t - 1 - 15=t - 16 by omega]
theorem lor_lt32 {a b:Nat} (ha:a<4294967296) (hb:b<4294967296):a ||| b<4294967296:=Nat.or_lt_two_pow (n:=32) ha hb
theorem xor_lt32 {a b:Nat} (ha:a<4294967296) (hb:b<4294967296):a^^^b<4294967296:=Nat.xor_lt_two_pow (n:=32) ha hb
theorem and_lt32 {a b:Nat} (ha:a<4294967296):a&&&b<4294967296:=Nat.lt_of_le_of_lt Nat.and_le_left ha
theorem rot_lt (n:Nat) {x:Nat} (h:x<4294967296):rotW n x<4294967296 :=
 lor_lt32 (Nat.mod_lt _ (by decide)) (Nat.lt_of_le_of_lt (Nat.div_le_self _ _) h)
theorem add_lt (a b:Nat):addW a b<4294967296:=Nat.mod_lt _ (by decide)
theorem byte_lt (s:List UInt8) (i:Nat):byteN s i<256:=UInt8.toNat_lt _
theorem word0_lt (s:List UInt8) (t:Nat):word0 s t<4294967296:=by
 have:=byte_lt s (4*t);have:=byte_lt s (4*t+1);have:=byte_lt s (4*t+2);have:=byte_lt s (4*t+3)
 unfold word0;omega
theorem wS_lt (s:List UInt8):∀ t,wS s t<4294967296:=by
 intro t
 induction t using Nat.strongRecOn with
 | _ t ih =>
  by_cases h:t<16
  ·rw[wS_low s h];exact word0_lt s t
  ·rw[wS_high s h]
   exact rot_lt 1 (xor_lt32 (xor_lt32 (xor_lt32 (ih _ (by omega)) (ih _ (by omega))) (ih _ (by omega))) (ih _ (by omega)))
theorem W5.ok.round {x:W5} (h:x.ok) (t w:Nat):(roundW t w x).ok:=⟨add_lt _ _,h.a,rot_lt 30 h.b,h.c,h.d⟩
def roundsW (s:List UInt8) (x:W5):Nat→W5
 | 0=>x
 | t+1=>roundW t (wS s t) (roundsW s x t)
theorem rounds_ok (s:List UInt8) {x:W5} (h:x.ok):∀ t,(roundsW s x t).ok
 | 0=>h
 | t+1=>(rounds_ok s h t).round _ _
def plus5 (h x:W5):W5:=⟨addW h.a x.a,addW h.b x.b,addW h.c x.c,addW h.d x.d,addW h.e x.e⟩
theorem plus_ok (h x:W5):(plus5 h x).ok:=⟨add_lt _ _,add_lt _ _,add_lt _ _,add_lt _ _,add_lt _ _⟩
def comp5 (h:W5) (s:List UInt8):W5:=plus5 h (roundsW s h 80)
def absorbN:Nat→W5→List UInt8→W5×List UInt8
 | 0,h,l=>(h,l)
 | n+1,h,l=>absorbN n (comp5 h (l.take 64)) (l.drop 64)
def absorb (h:W5) (l:List UInt8):W5×List UInt8:=absorbN (l.length / 64) h l
theorem absorb_short {h:W5} {l:List UInt8} (hl:l.length<64):absorb h l=(h,l):=by
 unfold absorb;rw[Nat.div_eq_of_lt hl];rfl
theorem absorb_long {h:W5} {l:List UInt8} (hl:64≤l.length):absorb h l=absorb (comp5 h (l.take 64)) (l.drop 64):=by
 unfold absorb
 rw[List.length_drop,show l.length / 64=(l.length - 64) / 64+1 by omega];rfl
theorem absorb_ok:∀ (n:Nat) {h:W5} {l:List UInt8},h.ok→l.length≤n→(absorb h l).1.ok∧(absorb h l).2.length<64
 | 0,h,l,hh,hl=>by rw[absorb_short (by omega)];exact⟨hh,by show l.length<64;omega⟩
 | n+1,h,l,hh,hl=>by
  by_cases h64:64≤l.length
  ·rw[absorb_long h64];exact absorb_ok n (plus_ok _ _) (by rw[List.length_drop];omega)
  ·rw[absorb_short (by omega)];exact⟨hh,by show l.length<64;omega⟩
theorem absorb_app:∀ (n:Nat) (h:W5) (x y:List UInt8),x.length≤n→absorb h (x++y)=absorb (absorb h x).1 ((absorb h x).2++y)
 | 0,h,x,y,hl=>by rw[absorb_short (l:=x) (by omega)]
 | n+1,h,x,y,hl=>by
  by_cases h64:64≤x.length
  ·rw[absorb_long h64,absorb_long (l:=x++y) (by rw[List.length_append];omega)]
   rw[List.take_append_of_le_length h64,List.drop_append_of_le_length h64]
   exact absorb_app n _ _ _ (by rw[List.length_drop];omega)
  ·rw[absorb_short (l:=x) (by omega)]
theorem absorb_mod:∀ (n:Nat) (h:W5) (l:List UInt8),l.length≤n→(absorb h l).2.length=l.length % 64
 | 0,h,l,hl=>by rw[absorb_short (by omega)];show l.length=_;omega
 | n+1,h,l,hl=>by
  by_cases h64:64≤l.length
  ·rw[absorb_long h64,absorb_mod n _ _ (by rw[List.length_drop];omega),List.length_drop];omega
  ·rw[absorb_short (by omega)];show l.length=_;omega
def beB (x:Nat):Nat→List UInt8
 | 0=>[]
 | n+1=>UInt8.ofNat (x / 256 ^ n) :: beB x n
theorem beB_len (x:Nat):∀ n,(beB x n).length=n
 | 0=>rfl
 | n+1=>by simp[beB,beB_len x n]
def zerosN (n:Nat):Nat:=(120 - (n+1) % 64) % 64
def shaPad (s:List UInt8):List UInt8:=s++[128]++List.replicate (zerosN s.length) 0++beB (s.length*8) 8
def outL (h:W5):List UInt8:=beB h.a 4++beB h.b 4++beB h.c 4++beB h.d 4++beB h.e 4
theorem out_len (h:W5):(outL h).length=20:=by simp[outL,beB_len]
def shaL (s:List UInt8):List UInt8:=outL (absorb first5 (shaPad s)).1
def lettersL:List UInt8:=[65,66,67,68,69,70,71,72,73,74,75,76,77,78,79,80,81,82,83,84,85,86,87,88,89,90,97,98,99,100,101,102,103,104,105,106,107,108,109,110,111,112,113,114,115,116,117,118,119,120,121,122,48,49,50,51,52,53,54,55,56,57,43,47]
def letB (n:Nat):UInt8:=lettersL.getD n 0
def bigN (s:List UInt8):Nat→Nat
 | 0=>0
 | k+1=>bigN s k*256+byteN s k
theorem bigN_lt (s:List UInt8):∀ k,bigN s k<256 ^ k
 | 0=>by simp[bigN]
 | k+1=>by
  have:=bigN_lt s k
  have:=byte_lt s k
  rw[Nat.pow_succ];unfold bigN;omega
def grpB (n X i:Nat):UInt8:=if i≤n then letB (X / 64 ^ (3 - i) % 64) else 61
def grpN (n X:Nat):Nat→List UInt8
 | 0=>[]
 | i+1=>grpN n X i++[grpB n X i]
theorem grpN_len (n X:Nat):∀ i,(grpN n X i).length=i
 | 0=>rfl
 | i+1=>by rw[grpN,List.length_append,grpN_len n X i];rfl
def encG (l:List UInt8):List UInt8:=grpN (min 3 l.length) (bigN l 3) 4
def encK:Nat→List UInt8→List UInt8
 | 0,_=>[]
 | k+1,l=>if l.isEmpty then [] else encG l++encK k (l.drop 3)
def encL (l:List UInt8):List UInt8:=encK l.length l
theorem encK_fuel:∀ (k m:Nat) (l:List UInt8),l.length≤k→l.length≤m→encK k l=encK m l
 | 0,m,l,h,_=>by
  have:l=[]:=List.eq_nil_of_length_eq_zero (by omega)
  subst this
  cases m <;> rfl
 | k+1,0,l,_,h=>by
  have:l=[]:=List.eq_nil_of_length_eq_zero (by omega)
  subst this;rfl
 | k+1,m+1,l,h1,h2=>by
  unfold encK
  cases l with
  | nil=>rfl
  | cons c t =>
   rw[encK_fuel k m _ (by rw[List.length_drop];simp at h1 ⊢;omega) (by rw[List.length_drop];simp at h2 ⊢;omega)]
theorem encL_nil:encL []=[]:=rfl
theorem encL_step {l:List UInt8} (h:0<l.length):encL l=encG l++encL (l.drop 3):=by
 have e:l.length=(l.length - 1)+1:=by omega
 unfold encL
 rw[e]
 conv=>lhs;unfold encK
 rw[if_neg (by simpa using List.length_pos_iff.1 h)]
 rw[encK_fuel (l.length - 1) (l.drop 3).length _ (by rw[List.length_drop];omega) (Nat.le_refl _)]
theorem encG_len (l:List UInt8):(encG l).length=4:=grpN_len _ _ _
theorem encL_len:∀ (k:Nat) (l:List UInt8),l.length≤k→(encL l).length=(l.length+2) / 3*4
 | 0,l,h=>by
  have:l=[]:=List.eq_nil_of_length_eq_zero (by omega)
  subst this;rfl
 | k+1,l,h=>by
  by_cases h0:0<l.length
  ·rw[encL_step h0,List.length_append,encG_len,encL_len k _ (by rw[List.length_drop];omega),List.length_drop]
   by_cases h3:3≤l.length
   ·rw[show (l.length+2) / 3=(l.length - 3+2) / 3+1 by omega];omega
   ·rw[show (l.length - 3+2) / 3=0 by omega,show (l.length+2) / 3=1 by omega]
  ·have:l=[]:=List.eq_nil_of_length_eq_zero (by omega)
   subst this;rfl
def guidL:List UInt8:=[50,53,56,69,65,70,65,53,45,69,57,49,52,45,52,55,68,65,45,57,53,67,65,45,67,53,65,66,48,68,67,56,53,66,49,49]
def acceptL (k:List UInt8):List UInt8:=encL (shaL (k++guidL))
theorem accept_len (k:List UInt8):(acceptL k).length=28:=by
 unfold acceptL
 rw[encL_len _ _ (Nat.le_refl _)]
 have:(shaL (k++guidL)).length=20:=out_len _
 rw[this]
theorem indexByte_none (c:UInt8):∀ l:List UInt8,(∀ x∈l,x≠c)→Lib.indexByte l c = -1
 | [],_=>rfl
 | x :: t,h=>by
  have ih:=indexByte_none c t (λy hy=>h y (List.mem_cons_of_mem _ hy))
  have hx:=h x (List.mem_cons_self ..)
  unfold Lib.indexByte
  rw[if_neg (by simpa using hx),ih];rfl
theorem letters_low:∀ x∈lettersL,x.toNat<128:=by decide +kernel
def numB (c:UInt8):Int:=Lib.indexByte lettersL c
theorem num_high {c:UInt8} (h:128≤c.toNat):numB c = -1:=indexByte_none c _ (λx hx e=>by have:=letters_low x hx;rw[e] at this;omega)
theorem byte_all {p:UInt8→Prop} (h:∀ c:Fin 256,p (UInt8.ofNat c.1)) (c:UInt8):p c:=by
 have:=h ⟨c.toNat,c.toNat_lt⟩
 simpa using this
theorem num_bd (c:UInt8):-1≤numB c∧numB c<64:=byte_all (p:=λc=>-1≤numB c∧numB c<64) (by decide +kernel) c
def isLet (c:UInt8):Bool:=decide (0≤numB c)
def numV (l:List UInt8):Nat:=l.foldl (λx c=>x*64+(numB c).toNat) 0
theorem numV_snoc (l:List UInt8) (c:UInt8):numV (l++[c])=numV l*64+(numB c).toNat:=by simp[numV]
theorem numV_lt:∀ (k:Nat) (l:List UInt8),l.length=k→numV l<64 ^ k
 | 0,l,h=>by rw[List.eq_nil_of_length_eq_zero h];decide
 | k+1,l,h=>by
  obtain⟨t,c,rfl⟩:∃ t c,l=t++[c]:=⟨l.dropLast,l.getLast (by intro e;rw[e] at h;cases h),(List.dropLast_concat_getLast _).symm⟩
  rw[numV_snoc,Nat.pow_succ]
  have:=numV_lt k t (by simpa using h)
  have:=(num_bd c).2
  have:=(num_bd c).1
  omega
def outsN (X N:Nat):Nat→List UInt8
 | 0=>[]
 | j+1=>outsN X N j++[UInt8.ofNat (X / 2 ^ (N - 8*(j+1)))]
def groupB (l:List UInt8):List UInt8×Bool :=
 if l.all isLet then (outsN (numV l) (6*l.length) (6*l.length / 8),decide (numV l % 2 ^ (6*l.length % 8)=0)) else ([],false)
def trimE (l:List UInt8):List UInt8:=Lib.trimSuffix (Lib.trimSuffix l [61]) [61]
def decK:Nat→List UInt8→Option (List UInt8)
 | 0,_=>some []
 | k+1,s =>
  if s.isEmpty then some []
  else if (groupB (if (s.drop 4).isEmpty then trimE (s.take 4) else s.take 4)).2 then (decK k (s.drop 4)).map λt=>(groupB (if (s.drop 4).isEmpty then trimE (s.take 4) else s.take 4)).1++t
  else none
def decL (s:List UInt8):Option (List UInt8):=if s.length % 4=0 then decK s.length s else none
theorem outsN_len (X N:Nat):∀ j,(outsN X N j).length=j
 | 0=>rfl
 | j+1=>by rw[outsN,List.length_append,outsN_len X N j];rfl
theorem group_len {l:List UInt8} (h:l.length≤4):(groupB l).1.length≤3:=by
 unfold groupB
 split
 ·rw[outsN_len];omega
 ·simp
theorem decK_fuel:∀ (k m:Nat) (l:List UInt8),l.length≤k→l.length≤m→decK k l=decK m l
 | 0,m,l,h,_=>by
  have:l=[]:=List.eq_nil_of_length_eq_zero (by omega)
  subst this
  cases m <;> rfl
 | k+1,0,l,_,h=>by
  have:l=[]:=List.eq_nil_of_length_eq_zero (by omega)
  subst this;rfl
 | k+1,m+1,l,h1,h2=>by
  unfold decK
  cases l with
  | nil=>rfl
  | cons c t =>
   rw[decK_fuel k m _ (by rw[List.length_drop];simp at h1 ⊢;omega) (by rw[List.length_drop];simp at h2 ⊢;omega)]
def decD (l:List UInt8):Option (List UInt8):=decK l.length l
def lastG (l:List UInt8):List UInt8:=if (l.drop 4).isEmpty then trimE (l.take 4) else l.take 4
theorem decD_nil:decD []=some []:=rfl
theorem decD_step {l:List UInt8} (h:0<l.length):decD l=if (groupB (lastG l)).2 then (decD (l.drop 4)).map ((groupB (lastG l)).1++·) else none:=by
 have e:l.length=(l.length - 1)+1:=by omega
 unfold decD
 rw[e]
 conv=>lhs;unfold decK
 rw[if_neg (by simpa using List.length_pos_iff.1 h)]
 rw[decK_fuel (l.length - 1) (l.drop 4).length _ (by rw[List.length_drop];omega) (Nat.le_refl _)]
 rfl
theorem trim_len (l:List UInt8):(trimE l).length≤l.length:=by
 have h:∀ l:List UInt8,(Lib.trimSuffix l [61]).length≤l.length:=λl=>by
  unfold Lib.trimSuffix
  split
  ·rw[List.length_take];omega
  ·exact Nat.le_refl _
 exact Nat.le_trans (h _) (h _)
theorem lastG_len (l:List UInt8):(lastG l).length≤4:=by
 unfold lastG
 split
 ·have:=trim_len (l.take 4);rw[List.length_take] at this;omega
 ·rw[List.length_take];omega
def kHost:List UInt8:=[72,111,115,116]
def kKey:List UInt8:=[83,101,99,45,87,101,98,83,111,99,107,101,116,45,75,101,121]
def kVer:List UInt8:=[83,101,99,45,87,101,98,83,111,99,107,101,116,45,86,101,114,115,105,111,110]
def kUpg:List UInt8:=[85,112,103,114,97,100,101]
def kWs:List UInt8:=[119,101,98,115,111,99,107,101,116]
def kConn:List UInt8:=[67,111,110,110,101,99,116,105,111,110]
def kupg:List UInt8:=[117,112,103,114,97,100,101]
def k13:List UInt8:=[49,51]
def kGET:List UInt8:=[71,69,84]
def asksB (fs:List (List UInt8×List UInt8)) (name word:List UInt8):Bool:=fs.any λf=>alikeB f.1 name&&hasB f.2 word
def oneB (fs:List (List UInt8×List UInt8)) (name:List UInt8):List UInt8×Bool:=((getB fs name).1,(getB fs name).2==1)
def checkB (r:Rq):List UInt8×Nat :=
 if (r.m != kGET||(r.v != 11||(!(oneB r.fs kHost).2||(!(oneB r.fs kKey).2||!(oneB r.fs kVer).2)))) then ([],400)
 else if (!asksB r.fs kUpg kWs||!asksB r.fs kConn kupg) then ([],400)
 else match decL (oneB r.fs kKey).1 with
  | none=>([],400)
  | some t=>if t.length≠16 then ([],400) else if (oneB r.fs kVer).1≠k13 then ([],426) else (acceptL (oneB r.fs kKey).1,101)
def kAcc:List UInt8:=[83,101,99,45,87,101,98,83,111,99,107,101,116,45,65,99,99,101,112,116]
def kBadV:List UInt8:=[98,97,100,32,118,101,114,115,105,111,110]
def kBadH:List UInt8:=[98,97,100,32,104,97,110,100,115,104,97,107,101]
def answerB (x:List UInt8×Nat):Rp×Bool :=
 if x.2=101 then (⟨101,[(kUpg,kWs),(kConn,kUpg),(kAcc,x.1)],[]⟩,true)
 else if x.2=426 then (⟨426,[(kVer,k13)],kBadV⟩,false) else (⟨x.2,[],kBadH⟩,false)
theorem check_code (r:Rq):(checkB r).2=400∨(checkB r).2=426∨(checkB r).2=101:=by
 unfold checkB
 split
 ·exact .inl rfl
 ·split
  ·exact .inl rfl
  ·split
   ·exact .inl rfl
   ·split
    ·exact .inl rfl
    ·split
     ·exact .inr (.inl rfl)
     ·exact .inr (.inr rfl)
