/-
  A session's parts as things: the parser of requests, a handler.
-/
import Derived.Test.YtadobobfjnmdlaaGreatDoorVe
import Derived.KernelRfl
set_option linter.unnecessarySimpa false
set_option linter.unusedVariables false
set_option linter.unusedSimpArgs false
set_option maxHeartbeats 16000000
set_option maxRecDepth 100000
open Go.Proofs.Tryz
namespace Go.Proofs.YtadobobfjnmdlaaGreatDoor
open Go.RowKit Go.Shelf
def PqAt (B:Nat)(T:Nat→Prop)(W:World)(p:Ps):Prop :=
 (∃T0 fv cv,PsAt B T0 W p fv cv∧(∀k,T0 k→T k)∧∀a n c,fv=.slice (some a) n c→T a.block)∧∀k,T k→k<W.heap.size
theorem lG (B:Nat):Kin (PqAt B) :=
 ⟨fun {T T' W x} ⟨⟨f,g,cv,h,b,d⟩,_⟩ j hl=>⟨⟨f,g,cv,h,λk e=>j _ (b k e),λa n c e=>j _ (d a n c e)⟩,hl⟩,
  fun {T S W m x} ⟨⟨f,g,cv,h,b,d⟩,hl⟩ i hs=>⟨⟨f,g,cv,h.ch_out i (λk e e2=>hs k (b k e2) e) (λa n c e e2=>hs _ (d a n c e) e2),b,d⟩,λk l=>qj (hl k l) i.size⟩,
  fun {T W x} h=>h.2⟩
theorem mn {T:Nat→Prop}{W a:World}(hs:W.heap.size≤a.heap.size)(hl:∀k,T k→k<W.heap.size):∀k,Add T W a k→k<a.heap.size:=λk e=>e.elim (λe=>qj (hl k e) hs) (λe=>e.2)
section
variable {B:Nat} {T:Nat→Prop} {W:World} {p:Ps}
theorem PqAt.post {b:Nat→Prop}{l:Ps}{g:World}{i cv:Value}(h:PsAt B b W p i cv)(j:∀k,b k→T k)(m:∀a n c,i=.slice (some a) n c→T a.block)(hl:∀k,T k→k<W.heap.size)(o:PsPost B b W l g):Pst (PqAt B) T W l g:=by
 obtain⟨T',f,d,k1,k2,k3,k4⟩:=o;refine⟨⟨⟨T',f,d,k1,λk e=>(k3 k e).imp (j k) (λe2=>⟨e2,(k1.tl k e).2⟩),λa n c e=>?_⟩,mn k2.size hl⟩,k2.mono j⟩;rcases k4 a n c e with⟨q,c0,e2⟩ | e2
 ·exact .inl (m a q c0 (Option.some.inj (h.c7.symm.trans e2)))
 ·exact .inr ⟨e2,k1.fb a n c e⟩
theorem x8 (h:PqAt B T W p)(s:List UInt8)(hl:p.inp.length+s.length≤4611686018427387904) :
  Calls prog 39 #[.pointer (some ⟨B,0,none⟩),.string ⟨s.toArray⟩] W λe w'=>e=.returned (.tuple #[])∧Pst (PqAt B) T W (fJ p s) w':=by
 obtain⟨⟨a,b,cv,k,c,d⟩,f⟩:=h;refine(y9 B a p b cv s W k hl).mono ?_;rintro e w'⟨rfl,g⟩;exact⟨rfl,PqAt.post k c d f g⟩
theorem AV (h:PqAt B T W p):Calls prog 69 #[.pointer (some ⟨B,0,none⟩)] W λe w'=>e=.returned (.int .i64 p.bad)∧W=w':=by
 obtain⟨⟨a,b,cv,k,c,d⟩,f⟩:=h;exact BZ B a p b cv W k
theorem x9 (h:PqAt B T W p)(hl:p.inp.length+p.und.length≤90000) :
  Calls prog 113 #[.pointer (some ⟨B,0,none⟩)] W λe w'=>e=.returned (.string ⟨(eN p).2.toArray⟩)∧Pst (PqAt B) T W (eN p).1 w':=by
 obtain⟨⟨a,b,cv,k,c,d⟩,f⟩:=h;refine(AQ B a p b cv W k hl).mono ?_;rintro e w'⟨rfl,g⟩;exact⟨rfl,PqAt.post k c d f g⟩
theorem ya (q:G W)(h:PqAt B T W p)(hl:p.inp.length+p.und.length≤90000) :
  Calls prog 67 #[.pointer (some ⟨B,0,none⟩)] W λe w'=>∃b,e=.returned (.tuple #[(rqO (bu p).2).V b,.bool (bu p).2.isSome])∧FieldsAt w' b (rqO (bu p).2).fs∧Pst (PqAt B) T W (bu p).1 w':=by
 obtain⟨⟨i,l,cv,k,g,m⟩,o⟩:=h;refine(AR B i p l cv W q k hl).mono ?_;rintro e w'⟨b,T',f,d,rfl,hf,_,_,k1,k2,k3,_,r⟩;refine⟨b,rfl,hf,⟨⟨T',f,d,k1,λj e=>(k3 j e).imp (g j) (λe2=>⟨e2,(k1.tl j e).2⟩),λa n c e=>?_⟩,mn k2.size o⟩,k2.mono g⟩;rcases r a n c e with⟨s,c0,e2⟩ | e2
 ·exact .inl (m a s c0 (Option.some.inj (k.c7.symm.trans e2)))
 ·exact .inr ⟨e2,k1.fb a n c e⟩
theorem AW (d:G W):Calls prog 38 #[] W λe w'=>∃b,e=.returned (.pointer (some ⟨b,0,none⟩))∧PqAt b (New W w') w' ps0∧Gr W w':=by
 refine(Dw W d).mono ?_;rintro e w'⟨rfl,h,g⟩;exact⟨_,rfl,⟨⟨_,_,_,h,λk e=>⟨by rw[e];exact qv _,(h.tl k e).2⟩,λa n c e=>by cases e⟩,λk e=>e.2⟩,g⟩
end
def RqSm (r:Rq):Prop:=r.fs.length≤100000∧(∀f∈r.fs,f.1.length≤100000∧f.2.length≤100000)∧r.m.length≤100000∧r.p.length≤100000∧r.q.length≤100000∧r.b.length≤100000
def uf (x:Rp):Prop:=x.fs.length≤1000000∧(∀f∈x.fs,f.1.length≤1000000∧f.2.length≤1000000)∧x.b.length≤1000000∧-9223372036854775808≤x.code∧x.code≤9223372036854775807
def Stays (F:Nat→Prop)(W0 W:World):Prop:=W0.heap.size≤W.heap.size∧∀k,F k→W.heap[k]?=W0.heap[k]?
theorem Stays.refl (F:Nat→Prop)(W:World):Stays F W W:=⟨qv _,λ_ _=>rfl⟩
structure Hnd (g:Nat)(lb:Array Value)(F:Nat→Prop)(H:Rq→Rp)(W0:World):Prop where
 old:∀k,F k→k<W0.heap.size
 enters:∀args w,(callFunc g args).run prog w=.ok (.enter g args) w
 does:∀W r s,Stays F W0 W→G W→FieldsAt W s r.fs→RqSm r→Calls prog g (#[r.V s]++lb) W λe w'=>∃t,e=.returned ((H r).V t)∧FieldsAt w' t (H r).fs∧Gr W w'
 small:∀r,RqSm r→uf (H r)
theorem Hnd.ch {g:Nat}{b:Array Value}{F U:Nat→Prop}{H:Rq→Rp}{W0 W:World}(h:Hnd g b F H W0)(a:Ch U W0 W)(d:∀k,F k→¬U k):Hnd g b F H W :=
 ⟨λk e=>qj (h.old k e) a.size,h.enters,λc r s hs=>h.does c r s ⟨qy a.size hs.1,λk e=>(hs.2 k e).trans (a.block k (h.old k e) (d k e))⟩,h.small⟩
theorem Hnd.gr {g:Nat}{a:Array Value}{F:Nat→Prop}{H:Rq→Rp}{W0 W:World}(h:Hnd g a F H W0)(b:Gr W0 W):Hnd g a F H W:=h.ch (b.to_ch (λ_=>False)) (λ_ _ e=>e)
def Hi (T:Nat→Prop):Prop:=∀k,T k→5<k
def bB (b:UInt8):Int×UInt8×UInt8×Nat :=
 if b<128 then(0,0,0,b.toNat)
 else if b<194||244<b then(-1,0,0,0)
 else if b<224 then(1,128,191,(b&&&31).toNat)
 else if b==224 then(2,160,191,0)
 else if b==237 then(2,128,159,(b&&&15).toNat)
 else if b<240 then(2,128,191,(b&&&15).toNat)
 else if b==240 then(3,144,191,0)
 else if b==244 then(3,128,143,(b&&&7).toNat)
 else(3,128,191,(b&&&7).toNat)
structure Uc where
 left:Nat
 low:UInt8
 high:UInt8
 x:Nat
def uc0:Uc:=⟨0,0,0,0⟩
def ei (c:Uc)(b:UInt8):Option Uc :=
 if c.left=0 then(if (bB b).1<0 then none else some ⟨(bB b).1.toNat,(bB b).2.1,(bB b).2.2.1,(bB b).2.2.2⟩)
 else if b<c.low||c.high<b then none
 else some ⟨c.left - 1,128,191,c.x*64+(b&&&63).toNat⟩
structure Uk where
 c:Uc
 bad:Bool
def uk0:Uk:=⟨uc0,false⟩
def bG (k:Uk):List UInt8→Uk
 | []=>k
 | b :: t=>if k.bad then k else match ei k.c b with
  | none=>{ k with bad:=true }
  | some c=>bG ⟨c,false⟩ t
theorem fp (k:Uk)(b:UInt8)(t:List UInt8):bG k (b :: t)=if k.bad then k else match ei k.c b with
  | none=>{ k with bad:=true }
  | some c=>bG ⟨c,false⟩ t:=rfl
theorem em (k:Uk)(h:k.bad=true):∀s,bG k s=k
 | []=>rfl
 | b :: t=>by rw[fp,if_pos h]
theorem gi:∀(s t:List UInt8) (k:Uk),bG k (s++t)=bG (bG k s) t
 | [],t,k=>rfl
 | b :: s,t,k=>by
  rw[List.cons_append];by_cases h:k.bad=true
  ·rw[em k h,em k h,em k h]
  ·rw[fp,fp,if_neg h,if_neg h];cases ei k.c b with
   | none=>exact(em _ rfl t).symm
   | some c=>exact gi s t _
def jm (k:Uk):Bool:=!k.bad&&k.c.left==0
def UcOk (c:Uc):Prop:=c.left≤3∧(c.left=0→c.x<2097152)∧(c.left=1→c.x<32768)∧(c.left=2→c.x<512)∧(c.left=3→c.x<8)
theorem qf (b m:UInt8):(b&&&m).toNat≤m.toNat:=by rw[UInt8.toNat_and];exact Nat.and_le_right
theorem UcOk.step {c c':Uc}{b:UInt8}(h:UcOk c)(e:ei c b=some c'):UcOk c':=by
 obtain⟨m,n,o,q,r⟩:=h;have d:=qf b 31;have a:=qf b 15;have k:=qf b 7;have f:=qf b 63;have s:b.toNat<256:=b.toNat_lt;have i:(31:UInt8).toNat=31:=rfl;have g:(15:UInt8).toNat=15:=rfl;have l:(7:UInt8).toNat=7:=rfl;have j:(63:UInt8).toNat=63:=rfl;rw[i]at d;rw[g]at a;rw[l]at k;rw[j]at f;unfold ei at e;split at e
 ·split at e
  ·cases e
  ·cases e;unfold bB
   repeat' split
   all_goals (refine⟨?_,?_,?_,?_,?_⟩ <;> (try simp only[]) <;> (try intro _) <;> (try omega) <;> (try simp_all))
 ·split at e
  ·cases e
  ·cases e;refine⟨?_,?_,?_,?_,?_⟩ <;> simp only[] <;> (try intro _) <;> omega
def bo (c:Uc)(from' i:Nat):List UInt8→List (Nat×Nat)
 | []=>[]
 | b :: t=>match ei c b with
  | none=>[]
  | some c'=>if c'.left=0 then((if c.left=0 then i else from'),c'.x) :: bo c' (if c.left=0 then i else from') (i+1) t else bo c' (if c.left=0 then i else from') (i+1) t
def dB (x:Nat):Nat:=if x<128 then 1 else if x<2048 then 2 else if x<65536 then 3 else 4
def yb (l:List (Nat×Nat)):Nat:=l.foldl (λ_ y=>y.1+dB y.2) 0
def jn (s:List UInt8):Bool:=yb (bo uc0 0 0 s)==s.length
structure Hd where
 fin:Bool
 rsv:Nat
 op:Nat
 masked:Bool
 k0:UInt8
 k1:UInt8
 k2:UInt8
 k3:UInt8
 len:Nat
 least:Bool
def hd0:Hd:=⟨false,0,0,false,0,0,0,0,0,false⟩
def yc (s:List UInt8):Nat:=s.foldl (λx c=>(x*256+c.toNat) % 18446744073709551616) 0
def eV (n:Nat):Nat:=if n=126 then 2 else if n=127 then 8 else 0
def cB (n:Nat):Nat:=if n≤125 then 0 else if n≤65535 then 2 else 8
def fL (s:List UInt8):Nat:=2+eV (s.getD 1 0&&&127).toNat
def jW (s:List UInt8):Nat:=if 128≤s.getD 1 0 then fL s+4 else fL s
def ug (s:List UInt8):Nat:=if 2<fL s then yc ((s.take (fL s)).drop 2) else(s.getD 1 0&&&127).toNat
def lH (s:List UInt8)(i:Nat):UInt8:=if 128≤s.getD 1 0 then s.getD (fL s+i) 0 else 0
def mkH (s:List UInt8):Hd :=
 ⟨128≤s.getD 0 0,((s.getD 0 0 >>> 4)&&&7).toNat,(s.getD 0 0&&&15).toNat,128≤s.getD 1 0,lH s 0,lH s 1,lH s 2,lH s 3,ug s,cB (ug s)==fL s - 2⟩
def ej (s:List UInt8):Option (Hd×Nat):=if s.length<2∨s.length<jW s then none else some (mkH s,jW s)
def mE (h:Hd)(i:Nat):UInt8:=if i % 4=0 then h.k0 else if i % 4=1 then h.k1 else if i % 4=2 then h.k2 else h.k3
def df (h:Hd)(at':Nat)(s:List UInt8):List UInt8:=s.mapIdx λi c=>c^^^mE h (at' % 4+i)
theorem dI (h:Hd)(a:Nat)(s:List UInt8):(df h a s).length=s.length:=by simp[df]
theorem yd (h:Hd)(a:Nat)(s t:List UInt8):df h a (s++t)=df h a s++df h (a+s.length) t:=by
 unfold df;rw[List.mapIdx_append];congr 1;apply List.ext_getElem
 ·simp
 ·intro i b c;simp only[List.getElem_mapIdx];congr 1;unfold mE;have:(a % 4+(i+s.length)) % 4=((a+s.length) % 4+i) % 4:=by omega
  rw[this]
def opH (n:Nat):Bool:=n==0||n==1||n==2||n==8||n==9||n==10
def mF (masked:Bool)(h:Hd):Bool:=h.rsv==0&&(opH h.op&&(h.masked==masked&&((decide (h.op<8)||(h.fin&&decide (h.len≤125)))&&(h.least&&decide (h.len≤9223372036854775807)))))
inductive Fev where
 | begin' (fin:Bool) (op len:Nat)
 | piece (s:List UInt8)
 | fin
 | fail
structure Fr where
 st:Nat
 inp:List UInt8
 h:Hd
 told:Nat
def fr0:Fr:=⟨0,[],hd0,0⟩
def bp (r:Fr)(s:List UInt8):Fr:=if r.st=2 then r else { r with inp:=r.inp++s }
def az (r:Fr):Fr×Option Fev :=
 if r.st=2 then(r,none)
 else if r.st=0 then match ej r.inp with
  | none=>(r,none)
  | some (h,n)=>if mF true h then({ r with st:=1,inp:=r.inp.drop n,h:=h,told:=0 },some (.begin' h.fin h.op h.len)) else({ r with st:=2,inp:=[] },some .fail)
 else if r.h.len - r.told=0 then({ r with st:=0 },some .fin)
 else if min (r.h.len - r.told) r.inp.length=0 then(r,none)
 else({ r with inp:=r.inp.drop (min (r.h.len - r.told) r.inp.length),told:=r.told+min (r.h.len - r.told) r.inp.length },some (.piece (df r.h r.told (r.inp.take (min (r.h.len - r.told) r.inp.length)))))
structure Jn where
 limit:Nat
 bad:Nat
 op:Nat
 sum:Nat
 text:List UInt8
 check:Uk
 begun:Bool
 last:Bool
 lacks:Nat
def jn0 (limit:Nat):Jn:=⟨limit,0,0,0,[],uk0,false,false,0⟩
def aF (j:Jn)(c:Nat):Jn:=if j.bad=0 then { j with bad:=c } else j
def aG (j:Jn)(last:Bool)(op len:Nat):Jn :=
 if j.bad≠0 then j
 else if j.begun||(op != 0&&(op != 1&&op != 2))||((op==0) != (j.op != 0)) then aF j 1002
 else if (j.limit:Int) - j.sum<len then aF j 1009
 else if op≠0 then { j with op:=op,check:=uk0,begun:=true,last:=last,lacks:=len,sum:=j.sum+len }
 else { j with begun:=true,last:=last,lacks:=len,sum:=j.sum+len }
def aA (j:Jn)(s:List UInt8):Jn :=
 if j.bad≠0 then j
 else if !j.begun||decide (j.lacks<s.length) then aF j 1002
 else if j.op=1 then(if (bG j.check s).bad then { aF j 1007 with check:=bG j.check s } else { j with check:=bG j.check s,lacks:=j.lacks - s.length,text:=j.text++s })
 else { j with lacks:=j.lacks - s.length,text:=j.text++s }
def aI (j:Jn):Jn×Option (Nat×List UInt8) :=
 if j.bad≠0 then(j,none)
 else if !j.begun||decide (0<j.lacks) then(aF j 1002,none)
 else if j.last&&(j.op==1&&!jm j.check) then(aF j 1007,none)
 else if !j.last then({ j with begun:=false },none)
 else({ j with begun:=false,op:=0,sum:=0,text:=[] },some (j.op,j.text))
inductive Wev where
 | message (op:Nat) (s:List UInt8)
 | ping (s:List UInt8)
 | closing (code:Nat)
 | failing (code:Nat)
structure Wn where
 r:Fr
 j:Jn
 st:Nat
 control:Nat
 data:List UInt8
def wn0 (limit:Nat):Wn:=⟨fr0,jn0 limit,1,0,[]⟩
def eo (c:Nat):Bool:=(decide (1000≤c)&&decide (c≤1003))||((decide (1007≤c)&&decide (c≤1014))||(decide (3000≤c)&&decide (c≤4999)))
def dg (s:List UInt8):Nat×Nat :=
 if s.length=0 then(1005,0)
 else if s.length=1 then(0,1002)
 else if !eo ((s.getD 0 0).toNat*256+(s.getD 1 0).toNat) then(0,1002)
 else if !jn (s.drop 2) then(0,1007)
 else((s.getD 0 0).toNat*256+(s.getD 1 0).toNat,0)
def cR (c:Wn)(code:Nat):Wn×Option Wev:=({ c with st:=3 },some (.failing code))
def bw (c:Wn)(e:Fev):Wn×Option Wev:=match e with
 | .begin' fin op len=>if (aG c.j fin op len).bad≠0 then cR { c with j:=aG c.j fin op len } (aG c.j fin op len).bad else({ c with j:=aG c.j fin op len },none)
 | .piece s=>if (aA c.j s).bad≠0 then cR { c with j:=aA c.j s } (aA c.j s).bad else({ c with j:=aA c.j s },none)
 | .fin=>if (aI c.j).1.bad≠0 then cR { c with j:=(aI c.j).1 } (aI c.j).1.bad else({ c with j:=(aI c.j).1 },(aI c.j).2.map λm=>.message m.1 m.2)
 | .fail=>({ c with j:=c.j },none)
def bh (c:Wn)(e:Fev):Wn×Option Wev:=match e with
 | .piece s=>({ c with data:=c.data++s },none)
 | _ =>
  if c.control=8 then(if (dg c.data).2≠0 then cR { c with control:=0 } (dg c.data).2 else({ c with control:=0,st:=3 },some (.closing (dg c.data).1)))
  else if c.control=9∧c.st=1 then({ c with control:=0 },some (.ping c.data))
  else({ c with control:=0 },none)
def aq (c:Wn)(e:Fev):Wn×Option Wev:=match e with
 | .fail=>cR c 1002
 | .begin' fin op len=>if 8≤op then({ c with control:=op,data:=[] },none) else if c.control≠0 then bh c (.begin' fin op len) else if c.st≠1 then(c,none) else bw c (.begin' fin op len)
 | e=>if c.control≠0 then bh c e else if c.st≠1 then(c,none) else bw c e
def kN:Nat→Wn→Wn×Option Wev
 | 0,c=>(c,none)
 | n+1,c=>if c.st=3 then(c,none) else match az c.r with
  |(r,none)=>({ c with r:=r },none)
  |(r,some e)=>match aq { c with r:=r } e with
   |(c',some x)=>(c',some x)
   |(c',none)=>kN n c'
def cD (c:Wn):Nat:=c.r.inp.length+(if c.r.st=0 then 0 else 1)
def bP (c:Wn):Wn×Option Wev:=kN (cD c+1) c
def aN (c:Wn)(s:List UInt8):Wn:=if c.st=3 then c else { c with r:=bp c.r s }
def cS (c:Wn):Wn:=if c.st=1 then { c with st:=2 } else c
def ia (c:Wn):Wn:={ c with st:=3 }
def gY (n x:Nat):Nat:=(x*2 ^ n) % 4294967296 ||| x / 2 ^ (32 - n)
def ef (a b:Nat):Nat:=(a+b) % 4294967296
structure W5 where
 a:Nat
 b:Nat
 c:Nat
 d:Nat
 e:Nat
structure W5.ok (x:W5):Prop where
 a:x.a<4294967296
 b:x.b<4294967296
 c:x.c<4294967296
 d:x.d<4294967296
 e:x.e<4294967296
def eP:W5:=⟨1732584193,4023233417,2562383102,271733878,3285377520⟩
theorem mG:eP.ok:=⟨by decide,by decide,by decide,by decide,by decide⟩
def AX (t b c d:Nat):Nat :=
 if t<20 then(b&&&c)^^^((4294967295^^^b)&&&d) else if t<40 then b^^^c^^^d else if t<60 then(b&&&c)^^^(b&&&d)^^^(c&&&d) else b^^^c^^^d
def AY (t:Nat):Nat:=if t<20 then 1518500249 else if t<40 then 1859775393 else if t<60 then 2400959708 else 3395469782
def qg (t w:Nat)(x:W5):W5:=⟨ef (ef (ef (ef (gY 5 x.a) (AX t x.b x.c x.d)) x.e) (AY t)) w,x.a,gY 30 x.b,x.c,x.d⟩
def fq (s:List UInt8)(i:Nat):Nat:=(s.getD i 0).toNat
def oT (s:List UInt8)(t:Nat):Nat:=((fq s (4*t)*256+fq s (4*t+1))*256+fq s (4*t+2))*256+fq s (4*t+3)
def dS (s:List UInt8):Nat→List Nat
 | 0=>[]
 | t+1=>(if t<16 then oT s t else gY 1 ((dS s t).getD 2 0^^^(dS s t).getD 7 0^^^(dS s t).getD 13 0^^^(dS s t).getD 15 0)) :: dS s t
def wS (s:List UInt8)(t:Nat):Nat:=(dS s (t+1)).getD 0 0
theorem ib (s:List UInt8):∀t i,i<t→(dS s t).getD i 0=wS s (t - 1 - i)
 | 0,i,h=>by omega
 | t+1,0,_=>rfl
 | t+1,i+1,h=>by
  rw[show t+1 - 1 - (i+1)=t - 1 - i by omega,←ib s t i (by omega)];simp[dS]
theorem AZ (s:List UInt8){t:Nat}(h:t<16):wS s t=oT s t:=by simp[wS,dS,h]
theorem xj (s:List UInt8){t:Nat}(h:¬t<16):wS s t=gY 1 (wS s (t - 3)^^^wS s (t - 8)^^^wS s (t - 14)^^^wS s (t - 16)):=by
 have e:wS s t=gY 1 ((dS s t).getD 2 0^^^(dS s t).getD 7 0^^^(dS s t).getD 13 0^^^(dS s t).getD 15 0):=by simp[wS,dS,h]
 rw[e,ib s t 2 (by omega),ib s t 7 (by omega),ib s t 13 (by omega),ib s t 15 (by omega)];rw[show t - 1 - 2=t - 3 by omega,show t - 1 - 7=t - 8 by omega,show t - 1 - 13=t - 14 by omega,show t - 1 - 15=t - 16 by omega]
theorem A0 {a b:Nat}(c:a<4294967296)(d:b<4294967296):a ||| b<4294967296:=Nat.or_lt_two_pow (n:=32) c d
theorem bZ {a b:Nat}(c:a<4294967296)(d:b<4294967296):a^^^b<4294967296:=Nat.xor_lt_two_pow (n:=32) c d
theorem ft {a b:Nat}(c:a<4294967296):a&&&b<4294967296:=Nat.lt_of_le_of_lt Nat.and_le_left c
theorem A1 (n:Nat){x:Nat}(h:x<4294967296):gY n x<4294967296 :=
 A0 (Nat.mod_lt _ (by decide)) (Nat.lt_of_le_of_lt (Nat.div_le_self _ _) h)
theorem kO (a b:Nat):ef a b<4294967296:=Nat.mod_lt _ (by decide)
theorem jX (s:List UInt8)(i:Nat):fq s i<256:=UInt8.toNat_lt _
theorem A4 (s:List UInt8)(t:Nat):oT s t<4294967296:=by
 have:=jX s (4*t);have:=jX s (4*t+1);have:=jX s (4*t+2);have:=jX s (4*t+3);unfold oT;omega
theorem rC (s:List UInt8):∀t,wS s t<4294967296:=by
 intro t;induction t using Nat.strongRecOn with
 | _ t a =>
  by_cases h:t<16
  ·rw[AZ s h];exact A4 s t
  ·rw[xj s h];exact A1 1 (bZ (bZ (bZ (a _ (by omega)) (a _ (by omega))) (a _ (by omega))) (a _ (by omega)))
theorem W5.ok.round {x:W5}(h:x.ok)(t w:Nat):(qg t w x).ok:=⟨kO _ _,h.a,A1 30 h.b,h.c,h.d⟩
def fa (s:List UInt8)(x:W5):Nat→W5
 | 0=>x
 | t+1=>qg t (wS s t) (fa s x t)
theorem oU (s:List UInt8){x:W5}(h:x.ok):∀t,(fa s x t).ok
 | 0=>h
 | t+1=>(oU s h t).round _ _
def A6 (h x:W5):W5:=⟨ef h.a x.a,ef h.b x.b,ef h.c x.c,ef h.d x.d,ef h.e x.e⟩
theorem qh (h x:W5):(A6 h x).ok:=⟨kO _ _,kO _ _,kO _ _,kO _ _,kO _ _⟩
def i6 (h:W5)(s:List UInt8):W5:=A6 h (fa s h 80)
def xk:Nat→W5→List UInt8→W5×List UInt8
 | 0,h,l=>(h,l)
 | n+1,h,l=>xk n (i6 h (l.take 64)) (l.drop 64)
def bx (h:W5)(l:List UInt8):W5×List UInt8:=xk (l.length / 64) h l
theorem cg {h:W5}{l:List UInt8}(hl:l.length<64):bx h l=(h,l):=by
 unfold bx;rw[Nat.div_eq_of_lt hl];rfl
theorem dJ {h:W5}{l:List UInt8}(hl:64≤l.length):bx h l=bx (i6 h (l.take 64)) (l.drop 64):=by
 unfold bx;rw[List.length_drop,show l.length / 64=(l.length - 64) / 64+1 by omega];rfl
theorem ep:∀(n:Nat) {h:W5} {l:List UInt8},h.ok→l.length≤n→(bx h l).1.ok∧(bx h l).2.length<64
 | 0,h,l,hh,hl=>by rw[cg (by omega)];exact⟨hh,by show l.length<64;omega⟩
 | n+1,h,l,hh,hl=>by
  by_cases a:64≤l.length
  ·rw[dJ a];exact ep n (qh _ _) (by rw[List.length_drop];omega)
  ·rw[cg (by omega)];exact⟨hh,by show l.length<64;omega⟩
theorem gG:∀(n:Nat) (h:W5) (x y:List UInt8),x.length≤n→bx h (x++y)=bx (bx h x).1 ((bx h x).2++y)
 | 0,h,x,y,hl=>by rw[cg (l:=x) (by omega)]
 | n+1,h,x,y,hl=>by
  by_cases a:64≤x.length
  ·rw[dJ a,dJ (l:=x++y) (by rw[qw];omega)];rw[List.take_append_of_le_length a,List.drop_append_of_le_length a];exact gG n _ _ _ (by rw[List.length_drop];omega)
  ·rw[cg (l:=x) (by omega)]
theorem jo:∀(n:Nat) (h:W5) (l:List UInt8),l.length≤n→(bx h l).2.length=l.length % 64
 | 0,h,l,hl=>by rw[cg (by omega)];show l.length=_;omega
 | n+1,h,l,hl=>by
  by_cases a:64≤l.length
  ·rw[dJ a,jo n _ _ (by rw[List.length_drop];omega),List.length_drop];omega
  ·rw[cg (by omega)];show l.length=_;omega
def beB (x:Nat):Nat→List UInt8
 | 0=>[]
 | n+1=>UInt8.ofNat (x / 256 ^ n) :: beB x n
theorem eC (x:Nat):∀n,(beB x n).length=n
 | 0=>rfl
 | n+1=>by simp[beB,eC x n]
def A7 (n:Nat):Nat:=(120 - (n+1) % 64) % 64
def uh (s:List UInt8):List UInt8:=s++[128]++List.replicate (A7 s.length) 0++beB (s.length*8) 8
def jp (h:W5):List UInt8:=beB h.a 4++beB h.b 4++beB h.c 4++beB h.d 4++beB h.e 4
theorem fM (h:W5):(jp h).length=20:=by simp[jp,eC]
def jq (s:List UInt8):List UInt8:=jp (bx eP (uh s)).1
def ic:List UInt8:=[65,66,67,68,69,70,71,72,73,74,75,76,77,78,79,80,81,82,83,84,85,86,87,88,89,90,97,98,99,100,101,102,103,104,105,106,107,108,109,110,111,112,113,114,115,116,117,118,119,120,121,122,48,49,50,51,52,53,54,55,56,57,43,47]
def mH (n:Nat):UInt8:=ic.getD n 0
def gZ (s:List UInt8):Nat→Nat
 | 0=>0
 | k+1=>gZ s k*256+fq s k
theorem mo (s:List UInt8):∀k,gZ s k<256 ^ k
 | 0=>by simp[gZ]
 | k+1=>by
  have:=mo s k;have:=jX s k;rw[Nat.pow_succ];unfold gZ;omega
def jr (n X i:Nat):UInt8:=if i≤n then mH (X / 64 ^ (3 - i) % 64) else 61
def js (n X:Nat):Nat→List UInt8
 | 0=>[]
 | i+1=>js n X i++[jr n X i]
theorem mI (n X:Nat):∀i,(js n X i).length=i
 | 0=>rfl
 | i+1=>by rw[js,qw,mI n X i];rfl
def A8 (l:List UInt8):List UInt8:=js (min 3 l.length) (gZ l 3) 4
def rD:Nat→List UInt8→List UInt8
 | 0,_=>[]
 | k+1,l=>if l.isEmpty then [] else A8 l++rD k (l.drop 3)
def mh (l:List UInt8):List UInt8:=rD l.length l
theorem oV:∀(k m:Nat) (l:List UInt8),l.length≤k→l.length≤m→rD k l=rD m l
 | 0,m,l,h,_=>by
  have:l=[]:=List.eq_nil_of_length_eq_zero (by omega);subst this;cases m <;> rfl
 | k+1,0,l,_,h=>by
  have:l=[]:=List.eq_nil_of_length_eq_zero (by omega);subst this;rfl
 | k+1,m+1,l,h1,h2=>by
  unfold rD;cases l with
  | nil=>rfl
  | cons c t =>
   rw[oV k m _ (by rw[List.length_drop];simp at h1 ⊢;omega) (by rw[List.length_drop];simp at h2 ⊢;omega)]
theorem A9:mh []=[]:=rfl
theorem oW {l:List UInt8}(h:0<l.length):mh l=A8 l++mh (l.drop 3):=by
 have e:l.length=(l.length - 1)+1:=by omega
 unfold mh;rw[e]
 conv=>lhs;unfold rD
 rw[if_neg (by simpa using List.length_pos_iff.1 h)];rw[oV (l.length - 1) (l.drop 3).length _ (by rw[List.length_drop];omega) (qv _)]
theorem rE (l:List UInt8):(A8 l).length=4:=mI _ _ _
theorem mJ:∀(k:Nat) (l:List UInt8),l.length≤k→(mh l).length=(l.length+2) / 3*4
 | 0,l,h=>by
  have:l=[]:=List.eq_nil_of_length_eq_zero (by omega);subst this;rfl
 | k+1,l,h=>by
  by_cases h0:0<l.length
  ·rw[oW h0,qw,rE,mJ k _ (by rw[List.length_drop];omega),List.length_drop];by_cases a:3≤l.length
   ·rw[show(l.length+2) / 3=(l.length - 3+2) / 3+1 by omega];omega
   ·rw[show(l.length - 3+2) / 3=0 by omega,show(l.length+2) / 3=1 by omega]
  ·have:l=[]:=List.eq_nil_of_length_eq_zero (by omega);subst this;rfl
def rF:List UInt8:=[50,53,56,69,65,70,65,53,45,69,57,49,52,45,52,55,68,65,45,57,53,67,65,45,67,53,65,66,48,68,67,56,53,66,49,49]
def fN (k:List UInt8):List UInt8:=mh (jq (k++rF))
theorem mK (k:List UInt8):(fN k).length=28:=by
 unfold fN;rw[mJ _ _ (qv _)];have:(jq (k++rF)).length=20:=fM _;rw[this]
theorem fu (c:UInt8):∀l:List UInt8,(∀x∈l,x≠c)→Lib.indexByte l c = -1
 | [],_=>rfl
 | x :: t,h=>by
  have d:=fu c t (λy b=>h y (List.mem_cons_of_mem _ b));have a:=h x (List.mem_cons_self ..);unfold Lib.indexByte;rw[if_neg (by simpa using a),d];rfl
theorem lI:∀x∈ic,x.toNat<128:=by decide +kernel
def jY (c:UInt8):Int:=Lib.indexByte ic c
theorem Ba {c:UInt8}(h:128≤c.toNat):jY c = -1:=fu c _ (λx a e=>by have:=lI x a;rw[e]at this;omega)
theorem Bc {p:UInt8→Prop}(h:∀c:Fin 256,p (UInt8.ofNat c.1))(c:UInt8):p c:=by
 have:=h ⟨c.toNat,c.toNat_lt⟩;simpa using this
theorem ui (c:UInt8):-1≤jY c∧jY c<64:=Bc (p:=λc=>-1≤jY c∧jY c<64) (by decide +kernel) c
def mL (c:UInt8):Bool:=decide (0≤jY c)
def qi (l:List UInt8):Nat:=l.foldl (λx c=>x*64+(jY c).toNat) 0
theorem oX (l:List UInt8)(c:UInt8):qi (l++[c])=qi l*64+(jY c).toNat:=by simp[qi]
theorem ql:∀(k:Nat) (l:List UInt8),l.length=k→qi l<64 ^ k
 | 0,l,h=>by rw[List.eq_nil_of_length_eq_zero h];decide
 | k+1,l,h=>by
  obtain⟨t,c,rfl⟩:∃t c,l=t++[c]:=⟨l.dropLast,l.getLast (by intro e;rw[e]at h;cases h),(List.dropLast_concat_getLast _).symm⟩;rw[oX,Nat.pow_succ];have:=ql k t (by simpa using h);have:=(ui c).2;have:=(ui c).1;omega
def ie (X N:Nat):Nat→List UInt8
 | 0=>[]
 | j+1=>ie X N j++[UInt8.ofNat (X / 2 ^ (N - 8*(j+1)))]
def eq (l:List UInt8):List UInt8×Bool :=
 if l.all mL then(ie (qi l) (6*l.length) (6*l.length / 8),decide (qi l % 2 ^ (6*l.length % 8)=0)) else([],false)
def rG (l:List UInt8):List UInt8:=Lib.trimSuffix (Lib.trimSuffix l [61]) [61]
def uj:Nat→List UInt8→Option (List UInt8)
 | 0,_=>some []
 | k+1,s =>
  if s.isEmpty then some []
  else if (eq (if (s.drop 4).isEmpty then rG (s.take 4) else s.take 4)).2 then(uj k (s.drop 4)).map λt=>(eq (if (s.drop 4).isEmpty then rG (s.take 4) else s.take 4)).1++t
  else none
def uk (s:List UInt8):Option (List UInt8):=if s.length % 4=0 then uj s.length s else none
theorem oY (X N:Nat):∀j,(ie X N j).length=j
 | 0=>rfl
 | j+1=>by rw[ie,qw,oY X N j];rfl
theorem ye {l:List UInt8}(h:l.length≤4):(eq l).1.length≤3:=by
 unfold eq;split
 ·rw[oY];omega
 ·simp
theorem oZ:∀(k m:Nat) (l:List UInt8),l.length≤k→l.length≤m→uj k l=uj m l
 | 0,m,l,h,_=>by
  have:l=[]:=List.eq_nil_of_length_eq_zero (by omega);subst this;cases m <;> rfl
 | k+1,0,l,_,h=>by
  have:l=[]:=List.eq_nil_of_length_eq_zero (by omega);subst this;rfl
 | k+1,m+1,l,h1,h2=>by
  unfold uj;cases l with
  | nil=>rfl
  | cons c t =>
   rw[oZ k m _ (by rw[List.length_drop];simp at h1 ⊢;omega) (by rw[List.length_drop];simp at h2 ⊢;omega)]
def kP (l:List UInt8):Option (List UInt8):=uj l.length l
def o0 (l:List UInt8):List UInt8:=if (l.drop 4).isEmpty then rG (l.take 4) else l.take 4
theorem Bd:kP []=some []:=rfl
theorem yf {l:List UInt8}(h:0<l.length):kP l=if (eq (o0 l)).2 then(kP (l.drop 4)).map ((eq (o0 l)).1++·) else none:=by
 have e:l.length=(l.length - 1)+1:=by omega
 unfold kP;rw[e]
 conv=>lhs;unfold uj
 rw[if_neg (by simpa using List.length_pos_iff.1 h)];rw[oZ (l.length - 1) (l.drop 4).length _ (by rw[List.length_drop];omega) (qv _)];rfl
theorem Be (l:List UInt8):(rG l).length≤l.length:=by
 have h:∀l:List UInt8,(Lib.trimSuffix l [61]).length≤l.length:=λl=>by
  unfold Lib.trimSuffix;split
  ·rw[List.length_take];omega
  ·exact qv _
 exact qy (h _) (h _)
theorem yg (l:List UInt8):(o0 l).length≤4:=by
 unfold o0;split
 ·have:=Be (l.take 4);rw[List.length_take]at this;omega
 ·rw[List.length_take];omega
def Bf:List UInt8:=[72,111,115,116]
def rH:List UInt8:=[83,101,99,45,87,101,98,83,111,99,107,101,116,45,75,101,121]
def qm:List UInt8:=[83,101,99,45,87,101,98,83,111,99,107,101,116,45,86,101,114,115,105,111,110]
def hQ:List UInt8:=[85,112,103,114,97,100,101]
def kWs:List UInt8:=[119,101,98,115,111,99,107,101,116]
def ig:List UInt8:=[67,111,110,110,101,99,116,105,111,110]
def Dz:List UInt8:=[117,112,103,114,97,100,101]
def k13:List UInt8:=[49,51]
def Bg:List UInt8:=[71,69,84]
def eX (fs:List (List UInt8×List UInt8))(name word:List UInt8):Bool:=fs.any λf=>an f.1 name&&kC f.2 word
def jZ (fs:List (List UInt8×List UInt8))(name:List UInt8):List UInt8×Bool:=((bl fs name).1,(bl fs name).2==1)
def aK (r:Rq):List UInt8×Nat :=
 if (r.m != Bg||(r.v != 11||(!(jZ r.fs Bf).2||(!(jZ r.fs rH).2||!(jZ r.fs qm).2)))) then([],400)
 else if (!eX r.fs hQ kWs||!eX r.fs ig Dz) then([],400)
 else match uk (jZ r.fs rH).1 with
  | none=>([],400)
  | some t=>if t.length≠16 then([],400) else if (jZ r.fs qm).1≠k13 then([],426) else(fN (jZ r.fs rH).1,101)
def oA:List UInt8:=[83,101,99,45,87,101,98,83,111,99,107,101,116,45,65,99,99,101,112,116]
def j0:List UInt8:=[98,97,100,32,118,101,114,115,105,111,110]
def Bh:List UInt8:=[98,97,100,32,104,97,110,100,115,104,97,107,101]
def aH (x:List UInt8×Nat):Rp×Bool :=
 if x.2=101 then(⟨101,[(hQ,kWs),(ig,hQ),(oA,x.1)],[]⟩,true)
 else if x.2=426 then(⟨426,[(qm,k13)],j0⟩,false) else(⟨x.2,[],Bh⟩,false)
theorem jt (r:Rq):(aK r).2=400∨(aK r).2=426∨(aK r).2=101:=by
 unfold aK;split
 ·exact .inl rfl
 ·split
  ·exact .inl rfl
  ·split
   ·exact .inl rfl
   ·split
    ·exact .inl rfl
    ·split
     ·exact .inr (.inl rfl)
     ·exact .inr (.inr rfl)
def ul (n:Nat):List UInt8 :=
 if n≤125 then [UInt8.ofNat n]
 else if n≤65535 then [126,UInt8.ofNat (n / 256),UInt8.ofNat n]
 else [127,UInt8.ofNat (n / 72057594037927936),UInt8.ofNat (n / 281474976710656),UInt8.ofNat (n / 1099511627776),UInt8.ofNat (n / 4294967296),UInt8.ofNat (n / 16777216),UInt8.ofNat (n / 65536),UInt8.ofNat (n / 256),UInt8.ofNat n]
def dC (op:Int)(s:List UInt8):List UInt8:=if op<0∨15<op then [] else UInt8.ofNat (128+op.toNat) :: (ul s.length++s)
def i7 (code:Nat):List UInt8:=if code=1005 then [] else if eo code then [UInt8.ofNat (code / 256),UInt8.ofNat code] else []
structure It where
 kind:Nat
 op:Int
 text:List UInt8
def it0:It:=⟨0,0,[]⟩
structure Bx where
 q:Nat
 reps:List (List UInt8)
 pong:Option (List UInt8)
 msgs:List It
 close:Option (List UInt8)
 closed:Bool
 ends:Bool
 told:Bool
def bx0 (q:Nat):Bx:=⟨q,[],none,[],none,false,false,false⟩
def cT (b:Bx):Bool:=b.closed||b.ends
def bD (b:Bx)(s:List UInt8):Bx×Int:=if cT b then(b,11) else if 4≤b.reps.length then(b,6) else({ b with reps:=b.reps++[s] },0)
def dl (b:Bx)(s:List UInt8):Bx×Int:=if cT b then(b,11) else({ b with pong:=some s },0)
def bi (b:Bx)(op:Int)(s:List UInt8):Bx×Int:=if cT b then(b,11) else if b.q≤b.msgs.length then(b,6) else({ b with msgs:=b.msgs++[⟨3,op,s⟩] },0)
def cV (b:Bx)(s:List UInt8):Bx×Int:=if cT b then(b,11) else({ b with close:=some s,closed:=true },0)
def ii (b:Bx):Bx:={ b with ends:=true }
def aS (b:Bx):Bx×Option It:=match b.reps with
 | s :: l=>({ b with reps:=l },some ⟨1,0,s⟩)
 | []=>match b.pong with
  | some s=>({ b with pong:=none },some ⟨2,0,s⟩)
  | none=>match b.msgs with
   | x :: l=>({ b with msgs:=l },some x)
   | []=>match b.close with
    | some s=>({ b with close:=none },some ⟨4,0,s⟩)
    | none=>if b.ends&&!b.told then({ b with told:=true },some ⟨5,0,[]⟩) else(b,none)
def fO (b:Bx):Bx:={ ii b with reps:=[],pong:=none,msgs:=[],close:=none,told:=true }
def iL (b:Bx):Bool:=!b.reps.isEmpty||(b.pong.isSome||(!b.msgs.isEmpty||(b.close.isSome||(b.ends&&!b.told))))
inductive Sev where
 | upgraded
 | said (op:Nat) (s:List UInt8)
 | done
structure Ss where
 limit:Nat
 st:Nat
 p:Ps
 c:Option Wn
 x:Bx
 fresh:Bool
def ss0 (q limit:Nat):Ss:=⟨limit,1,ps0,none,bx0 q,false⟩
def oB:Rp:=⟨500,[],[110,111,32,114,101,112,108,121]⟩
def cE (s:Ss)(b:List UInt8):Ss :=
 if s.st=1 then { s with p:=fJ s.p b,fresh:=s.fresh||!b.isEmpty }
 else if s.st=2 then { s with c:=s.c.map (aN · b),fresh:=s.fresh||!b.isEmpty }
 else s
def cW (s:Ss):Bool:=s.st != 3&&decide (s.x.reps.length<4)
def bJ (s:Ss):Ss:={ s with x:=ii s.x,st:=3,fresh:=false }
def putB (x:Rp)(head close:Bool):List UInt8:=match cL x head close with
 | some b=>b
 | none=>(cL oB head close).getD []
def cU (s:Ss)(x:Rp)(head close:Bool):Ss :=
 if close then bJ { s with x:=(bD s.x (putB x head close)).1 } else { s with x:=(bD s.x (putB x head close)).1 }
def Bi (s:Ss):Ss:={ s with p:=(eN s.p).1,c:=some (aN (wn0 s.limit) (eN s.p).2),st:=2 }
def o7:List UInt8:=[72,69,65,68]
def aZ (H:Rq→Rp)(s:Ss)(r:Rq):Ss×Sev :=
 if (H r).code=101 then
  (if (aH (aK r)).2 then(Bi (cU s (aH (aK r)).1 false false),.upgraded) else(cU s (aH (aK r)).1 (r.m==o7) r.c,.done))
 else(cU s (H r) (r.m==o7) r.c,.done)
def cF (H:Rq→Rp)(s:Ss):Ss×Option Sev:=match bu s.p with
 |(p,some r)=>((aZ H { s with p:=p } r).1,some (aZ H { s with p:=p } r).2)
 |(p,none)=>if p.bad=0 then({ s with p:=p },none) else(cU { s with p:=p } ⟨p.bad,[],aU p.bad⟩ false true,some .done)
def du (s:Ss)(code:Nat):Ss:={ s with x:=(cV s.x (i7 code)).1 }
def ju (s:Ss):Wn:=s.c.getD (wn0 0)
def dm (s:Ss)(was code:Nat):Ss:=bJ (if was=1 then du s code else s)
def bM (s:Ss):Ss×Option Sev:=match bP (ju s)with
 |(c,none)=>({ s with c:=some c },none)
 |(c,some (.message op t))=>({ s with c:=some c },some (.said op t))
 |(c,some (.ping t))=>({ s with c:=some c,x:=(dl s.x t).1 },some .done)
 |(c,some (.closing code))=>(dm { s with c:=some c } (ju s).st code,some .done)
 |(c,some (.failing code))=>(dm { s with c:=some c } (ju s).st code,some .done)
def bj (H:Rq→Rp)(s:Ss):Ss×Option Sev :=
 if !cW s then(s,none)
 else
  let y:=if s.st=1 then cF H s else bM s
  (if y.2.isNone||y.1.st==3 then { y.1 with fresh:=false } else y.1,y.2)
def dn (s:Ss):Ss:={ s with c:=s.c.map ia }
def bQ (s:Ss):Ss:=if s.st=3 then s else bJ (if s.st=2 then dn s else s)
def cG (s:Ss):Bool:=s.st==2&&(ju s).st==1
def dK (s:Ss):Bool:=s.st==2&&(ju s).st==2
def dD (s:Ss):Ss :=
 if s.st=1 then bJ s else if cG s then { du s 1001 with c:=s.c.map cS } else s
def eD (s:Ss):Ss:=if dK s then bJ (dn s) else dD s
def ij (s:Ss):Ss:={ bJ (dn s)with x:=fO (ii s.x) }
def eQ (s:Ss)(op:Int)(t:List UInt8):Ss×Int:=if !cG s then(s,11) else({ s with x:=(bi s.x op t).1 },(bi s.x op t).2)
def i8 (x:It):List UInt8×Bool :=
 if x.kind=1 then(x.text,false) else if x.kind=5 then([],true)
 else(dC (if x.kind=2 then 10 else if x.kind=3 then x.op else 8) x.text,false)
def bR (s:Ss):Ss×Option (List UInt8×Bool):=({ s with x:=(aS s.x).1 },(aS s.x).2.map i8)
