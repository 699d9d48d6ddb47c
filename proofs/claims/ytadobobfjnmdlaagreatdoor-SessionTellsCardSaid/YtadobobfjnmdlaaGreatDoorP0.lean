/-
  Plain functions and laws of texts: no program in sight.
-/
import Derived.Lib.IndexMore
import Derived.Lib.SlTrimSet
import Derived.Test.YtadobobfjnmdlaaGreatDoorChecked
import Derived.Test.YtadobobfjnmdlaaGreatDoorSh
import Derived.WalkKit
import Derived.OwnWalk
import Derived.Outline
import Derived.BigFrame
import Derived.Lib.Hide
import Derived.Deep.QuietTactic
import Derived.BigQuiet
import Derived.Deep.DeepFit
import Derived.RangeFuncNested
import Derived.RangeFuncLeaves
import Derived.Deep.Quiet
import Derived.StillTail
import Derived.LaidEql
import Derived.Lib.LaidTab
import Derived.Lib.ItoaNum
import Derived.Lib.AppendIntMem
import Derived.Test.YtadobobfjnmdlaaGreatDoorRows
import Derived.PinnedBridge
import Derived.Lib.LaidU8
import Derived.Lib.LaidIn
import Derived.Stop.LaidErr
import Derived.Deep.DeepHandedRow
import Derived.Deep.DeepWitnessRowRef
import Derived.ProofKit
import Derived.Carry
import Derived.ShutString
import Derived.OpenShut
import Derived.Deep.Slices
import Derived.Deep.Fields
import Derived.ChangeSame
set_option linter.unnecessarySimpa false
set_option linter.unusedVariables false
set_option linter.unusedSimpArgs false
set_option maxHeartbeats 16000000
set_option maxRecDepth 100000
open Go.Proofs.Tryz
namespace Go.Proofs.YtadobobfjnmdlaaGreatDoor
def aV (c:UInt8):Bool:=(97≤c&&c≤122)||(65≤c&&c≤90)||(48≤c&&c≤57)
def Ci:List UInt8:=[33,35,36,37,38,39,42,43,45,46,94,95,96,124,126]
def fF (c:UInt8):Bool:=aV c||Ci.contains c
def aT (c:UInt8):Bool:=c==9||(32≤c&&c != 127)
def aY (c:UInt8):UInt8:=if 65≤c∧c≤90 then c+32 else c
def eh (l:List UInt8):Bool:=!l.isEmpty&&l.all fF
def an (a b:List UInt8):Bool:=a.map aY==b.map aY
def bm (l:List UInt8):List UInt8:=Lib.trimS l [32,9]
def ax (l:List UInt8):List UInt8×List UInt8×Bool :=
 if (Lib.cut l [58]).2.2&&eh (Lib.cut l [58]).1&&(Lib.cut l [58]).2.1.all aT then((Lib.cut l [58]).1,bm (Lib.cut l [58]).2.1,true) else([],[],false)
theorem iS {l n v:List UInt8}{c:Bool}(h:Lib.cut l [58]=(n,v,c)):ax l=if c&&eh n&&v.all aT then(n,bm v,true) else([],[],false):=by
 unfold ax;rw[h]
theorem dY (s a:List UInt8):(Lib.cut s a).1.length≤s.length:=by
 unfold Lib.cut;split <;> simp[List.length_take] <;> omega
theorem eG (s a:List UInt8):(Lib.cut s a).2.1.length≤s.length:=by
 unfold Lib.cut;split <;> simp
theorem gt (c:UInt8):aV c=decide ((97≤(c.toNat:Int)∧(c.toNat:Int)≤122)∨(65≤(c.toNat:Int)∧(c.toNat:Int)≤90)∨(48≤(c.toNat:Int)∧(c.toNat:Int)≤57)):=by
 rw[Bool.eq_iff_iff];simp[aV,UInt8.le_iff_toNat_le];omega
theorem qS (c:UInt8):aT c=decide ((c.toNat:Int)=9∨(32≤(c.toNat:Int)∧(c.toNat:Int)≠127)):=by
 rw[Bool.eq_iff_iff];simp[aT,UInt8.le_iff_toNat_le,←UInt8.toNat_inj];omega
theorem aW {a b:Bool}(h:a=b):Ending.returned (.bool a)=.returned (.bool b):=by rw[h]
theorem Cj (a b:UInt8):(a==b)=decide ((a.toNat:Int)=b.toNat):=by
 rw[Bool.eq_iff_iff];simp[←UInt8.toNat_inj];omega
theorem aj (l:List UInt8):ByteArray.size ⟨l.toArray⟩=l.length:=by simp[ByteArray.size]
theorem aL (a b:List UInt8):(⟨a.toArray⟩:ByteArray)++⟨b.toArray⟩=⟨(a++b).toArray⟩:=by
 apply ByteArray.ext;simp
theorem av (l:List UInt8)(i j:Nat):(⟨l.toArray⟩:ByteArray).extract i j=⟨((l.take j).drop i).toArray⟩:=by
 apply ByteArray.ext;simp[List.drop_take]
theorem lU (l:List UInt8)(k:Nat)(h:k<l.length):(⟨l.toArray⟩:ByteArray).extract k (k+1)=⟨#[l[k]]⟩:=by
 rw[av,List.drop_take,Nat.add_sub_cancel_left,List.drop_eq_getElem_cons h];rfl
theorem et (l:List UInt8)(c:UInt8):decide (0≤Lib.indexByte l c)=l.contains c:=by
 induction l with
 | nil=>rfl
 | cons b l j =>
  have k:=Lib.indexByte_ge l c;unfold Lib.indexByte;rw[List.contains_cons,←j];by_cases h:(b==c)=true
  ·have f:(c==b)=true:=beq_iff_eq.2 (beq_iff_eq.1 h).symm;simp[h,f]
  ·have a:(b==c)=false:=(by simpa using h);have g:(c==b)=false:=qk.2 (λe=>by subst e;simp at a);rw[a,g];by_cases d:Lib.indexByte l c = -1
   ·simp[d]
   ·have i:(Lib.indexByte l c==-1)=false:=(by simpa using d);simp only[i,Bool.false_eq_true,if_false,Bool.false_or];rw[decide_eq_decide];omega
theorem sY (c:UInt8):(c.toNat:Int).toNat.toUInt8=c:=by simp
theorem cP {l:List UInt8}{p:UInt8→Bool}{k:Nat}(h:(l.take k).all p=true)(a:k<l.length)(b:p l[k]=true):(l.take (k+1)).all p=true:=by
 rw[List.take_succ_eq_append_getElem a,List.all_append,h];simp[b]
theorem gu {l:List UInt8}{p:UInt8→Bool}{k:Nat}(a:k<l.length)(b:p l[k]=false):l.all p=false:=by
 rw[Bool.eq_false_iff];intro h;have:=List.all_eq_true.1 h l[k] (List.getElem_mem a);rw[b]at this;cases this
def jE:List UInt8:=[65,66,67,68,69,70,71,72,73,74,75,76,77,78,79,80,81,82,83,84,85,86,87,88,89,90,97,98,99,100,101,102,103,104,105,106,107,108,109,110,111,112,113,114,115,116,117,118,119,120,121,122,48,49,50,51,52,53,54,55,56,57,33,35,36,37,38,39,42,43,45,46,94,95,96,124,126]
theorem jF {p:UInt8→Prop}(h:∀n:Fin 256,p (UInt8.ofNat n.1))(c:UInt8):p c:=by
 have:=h ⟨c.toNat,c.toNat_lt⟩;simpa using this
theorem kr (c:UInt8):jE.contains c=fF c:=by
 refine jF (p:=λc=>jE.contains c=fF c) ?_ c;decide +kernel
theorem jG {l:List UInt8}{c:UInt8}{k:Nat}(h:(l.take k).contains c=false)(b:k<l.length)(a:(l[k]==c)=false):(l.take (k+1)).contains c=false:=by
 rw[List.take_succ_eq_append_getElem b,List.contains_append,h];simp at a ⊢;exact λe=>a e.symm
theorem sZ {l:List UInt8}{c:UInt8}{k:Nat}(a:k<l.length)(b:(l[k]==c)=true):l.contains c=true:=by
 rw[List.contains_iff_mem,←beq_iff_eq.1 b];exact List.getElem_mem a
theorem ix (c:UInt8):((aY c).toNat:Int)=if 65≤(c.toNat:Int)∧(c.toNat:Int)≤90 then(c.toNat:Int)+32 else c.toNat:=by
 unfold aY;by_cases h:65≤c∧c≤90
 ·have a:65≤c.toNat∧c.toNat≤90:=by simpa[UInt8.le_iff_toNat_le]using h
  rw[if_pos h,if_pos (by omega),UInt8.toNat_add];simp;omega
 ·have a:¬(65≤c.toNat∧c.toNat≤90):=by simpa[UInt8.le_iff_toNat_le]using h
  rw[if_neg h,if_neg (by omega)]
open Go.RowKit
theorem ns (c:UInt8)(w:World):Calls prog 164 #[.int .u8 c.toNat] w λe w'=>e=.returned (.bool (aV c))∧w=w':=by
 go_enter func164,ntmps164;go_wp2;all_goals go_ret
 all_goals exact⟨aW (by rw[gt,Bool.eq_iff_iff];simp;omega),rfl⟩
theorem Cl (c:UInt8)(w:World):Calls prog 217 #[.int .u8 c.toNat] w λe w'=>e=.returned (.bool (fF c))∧w=w':=by
 cases hl:aV c;all_goals have a:=qq hl
 all_goals clear hl
 all_goals
  go_enter func217,ntmps217;go_wp2_with (first | (go_at_call 164;refine(ns c _).mono ?_;rintro e w' ⟨rfl,rfl⟩;rw[a.out]) | (go_at_call 218;refine(Tryz.strings_IndexByte _ _ _).mono ?_;rintro e w' ⟨rfl,rfl⟩));go_ret
 ·exact⟨aW (by rw[fF,a.out];exact et Ci c),rfl⟩
 ·exact⟨aW (by rw[fF,a.out];rfl),rfl⟩
theorem Cm (c:UInt8)(w:World):Calls prog 177 #[.int .u8 c.toNat] w λe w'=>e=.returned (.bool (aT c))∧w=w':=by
 have a:=qq (qS c);go_enter func177,ntmps177;go_wp2;all_goals go_ret
 all_goals exact⟨aW (by rw[a.out,Bool.eq_iff_iff];simp;omega),rfl⟩
theorem pA (g:Nat)(p:UInt8→Bool)(n:∀args w,(callFunc g args).run prog w=.ok (.enter g args) w)
  (m:∀c w,Calls prog g #[.int .u8 c.toNat] w λe w'=>e=.returned (.bool (p c))∧w=w')
  (l:List UInt8) (w:World) (hl:l.length≤9223372036854775807) :
  Calls prog 176 #[.string ⟨l.toArray⟩,.func (.func g) #[] #[]] w λe w'=>e=.returned (.bool (l.all p))∧w=w':=by
 have j:=qq m;clear m;go_enter func176,ntmps176;go_wp2;go_loop [5,8] (λ_ i=>∃k:Nat,k≤l.length∧i=.int .i64 k∧(l.take k).all p=true) (λ_ i=>l.length - (intOf i).toNat)
 case atStart=>exact⟨0,qx _,rfl,rfl⟩
 case round =>
  obtain⟨k,o,rfl,d⟩:=hrel;have a:=qq d;clear d;by_cases f:k<l.length
  ·cases h:p l[k];(all_goals have b:=qq h);(all_goals clear h);all_goals go_wp2_with (refine(j.out l[k] _).mono ?_;rintro e w' ⟨rfl,rfl⟩;rw[b.out])
   ·go_ret;exact⟨aW (gu f b.out).symm,rfl⟩
   ·go_round
    case rel=>exact⟨k+1,by omega,by go_num,cP a.out f b.out⟩
    case measure=>simp[intOf];omega
  ·go_wp2;go_ret;exact⟨aW (by rw[←a.out,List.take_of_length_le (by omega)]),rfl⟩
end Go.Proofs.YtadobobfjnmdlaaGreatDoor
namespace Go
open Go.RowKit
structure Ch (T:Nat→Prop)(w w':World):Prop where
 os:w'.os=w.os
 tape:w'.tape=w.tape
 output:w'.output=w.output
 size:w.heap.size≤w'.heap.size
 block:∀k,k<w.heap.size→¬T k→w'.heap[k]?=w.heap[k]?
theorem Ch.refl (T:Nat→Prop)(w:World):Ch T w w:=⟨rfl,rfl,rfl,qv _,λ_ _ _=>rfl⟩
theorem Ch.trans {T:Nat→Prop}{a b c:World}(h:Ch T a b)(k:Ch T b c):Ch T a c :=
 ⟨k.os.trans h.os,k.tape.trans h.tape,k.output.trans h.output,qy h.size k.size,
  λi hi d=>(k.block i (qj hi h.size) d).trans (h.block i hi d)⟩
theorem Ch.mono {T T':Nat→Prop}{a b:World}(h:Ch T a b)(d:∀k,T k→T' k):Ch T' a b :=
 ⟨h.os,h.tape,h.output,h.size,λk c hn=>h.block k c (λe=>hn (d k e))⟩
theorem Ch.of_below {T:Nat→Prop}{B:Nat}{a b:World}(h:Below B a b)(e:∀k,B≤k→k<a.heap.size→T k):Ch T a b :=
 ⟨h.os,h.tape,h.output,h.size,λk d hn=>h.block k (by
  rcases Nat.lt_or_ge k B with c | c
  ·exact c
  ·exact absurd (e k c d) hn)⟩
theorem Ch.below {T:Nat→Prop}{B:Nat}{a b:World}(h:Ch T a b)(d:B≤a.heap.size)(c:∀k,T k→B≤k):Below B a b :=
 ⟨h.os,h.tape,h.output,h.size,λk f=>h.block k (by omega) (λe=>by have:=c k e;omega)⟩
theorem Ch.cell {T:Nat→Prop}{a b:World}(h:Ch T a b){p:Addr}(c:p.block<a.heap.size)(d:¬T p.block):b.cell? p=a.cell? p :=
 World.cell?_of_block (h.block _ c d)
theorem Ch.frozen {T:Nat→Prop}{a b:World}(h:Ch T a b){p:Addr}(c:p.block<a.heap.size)(d:¬T p.block):b.frozen? p=a.frozen? p :=
 World.frozen?_of_block (h.block _ c d)
theorem Ch.alloc (T:Nat→Prop)(w:World)(o:Obj):Ch T w (w.alloc o) :=
 ⟨rfl,rfl,rfl,by simp,λk a _=>Below.heap_alloc _ _ _ a⟩
theorem Ch.setCell {T:Nat→Prop}(w:World){a:Addr}(b:T a.block)(v:Value):Ch T w (w.setCell a v) :=
 ⟨rfl,rfl,rfl,by simp[World.setCell],λk _ hn=>Below.heap_setCell _ _ _ _ (λe=>hn (e▸b))⟩
theorem Ch.drew (T:Nat→Prop)(w:World):Ch T w w.drew:=⟨rfl,rfl,rfl,qv _,λ_ _ _=>rfl⟩
theorem Ch.putObj {T:Nat→Prop}(w:World){l:Nat}(b:T l)(o:Obj):Ch T w (w.putObj l o) :=
 ⟨(grownBy_putObj' w l o).os,(grownBy_putObj' w l o).tape,(grownBy_putObj' w l o).output,(grownBy_putObj' w l o).size,
  λk a hn=>(grownBy_putObj' w l o).block k a (λe=>hn (by cases e;exact b))⟩
theorem Ch.get {T:Nat→Prop}{a b:World}(h:Ch T a b){k:Nat}{o:Obj}(c:a.heap[k]?=some o)(d:¬T k):b.heap[k]?=some o :=
 (h.block k (Array.getElem?_eq_some_iff.1 c).1 d).trans c
theorem iy {P:Program}(w:World)(d:Nat){t:TypeId}{a b:Array TypeId}{v:Bool}(e:P.underlying t=some (.func a b v))(f:Fn)(x c:Array Value) :
  (Op.equalIn (d+1) t (.func f x c) .nilFunc).run P w=.ok false w:=by
 simp[Op.equalIn,run_underlying e]
theorem lu {P:Program}(w:World){t:TypeId}{a b:Array TypeId}{v:Bool}(d:P.underlying t=some (.func a b v))(f:Fn)(x c:Array Value) :
  (binOp .eql t (.func f x c) .nilFunc).run P w=.ok (.bool false) w:=by
 simp only[binOp];simp[Op.equal,Op.maxDepth,iy w 9999 d f x c]
theorem af {w:World}{a:Addr}{u v:Value}(h:w.cell? a=some u):(w.setCell a v).cell? a=some v:=by
 rw[World.cell?_setCell_same' _ _ _ (by rw[h];rfl)]
theorem ai {w:World}{a b:Addr}{u v:Value}(h:w.cell? b=some u)(hn:a.block≠b.block):(w.setCell a v).cell? b=some u:=by
 unfold World.cell? at h ⊢;rw[Below.heap_setCell _ _ _ _ (λe=>hn e.symm)];exact h
theorem ag {w:World}{a b:Addr}{v:Value}:(w.setCell a v).frozen? b=w.frozen? b:=by rw[World.frozen?_setCell]
theorem ae {w:World}{a:Addr}{v:Value}(h:w.cell? a=some v):a.block<w.heap.size:=by
 unfold World.cell? at h;rcases Nat.lt_or_ge a.block w.heap.size with b | b
 ·exact b
 ·rw[Array.getElem?_eq_none b]at h;cases h
structure Later (C:World→Prop) where
 w:World
 ok:C w
theorem ah {P:Program}{C:World→Prop}{g:Nat}{Q:Exit→Act→World→Prop}{a:Act}{w:World}{l:List Oper}(hm:P.follows .mixedOrders=true)(c:Region.lexB .any l.toArray=true)
  (d:C w.drew) (h:wpQuiet P l.toArray (λw'=>∃x:Later C,w'=x.w) (λb=>∀w',C w'→Q .normal b w') l a):(Code.region g l.toArray true).wp P Q a w:=by
 have e:(λw'=>∃x:Later C,w'=x.w)=C:=funext λw'=>propext ⟨λ⟨x,f⟩=>f▸x.ok,λh=>⟨⟨w',h⟩,rfl⟩⟩;rw[e]at h;exact wp_region_quiet hm c d (by simpa using h)
section tail
variable {P:Program} {ops:Array Oper} {md:Region.Mode} {C:World→Prop}
def headQ (P:Program)(md:Region.Mode)(ops:Array Oper)(C:World→Prop)(n:Nat)(L:Array Bool→Act→Prop):Nat→Array Bool→Act→Prop
 | 0,listed,a=>L listed a
 | f+1,listed,a=>Region.ready md ops listed≠[]∧∀i∈Region.ready md ops listed,i<n∧qOp P ops C i (headQ P md ops C n L f (listed.setIfInBounds i true)) a
theorem ks {n g:Nat}{L:Array Bool→Act→Prop}{Q':Exit→Act→World→Prop}(d:∀b a w,C w→L b a→wpAny P md ops Q' g b a w) :
  ∀(f:Nat) (b:Array Bool) (a:Act) (w:World),C w→headQ P md ops C n L f b a→wpAny P md ops Q' (f+g) b a w
 | 0,_,_,_,hw,h=>by rw[Nat.zero_add];exact d _ _ _ hw h
 | f+1,_,_,_,hw,h=>by
  rw[show f+1+g=(f+g)+1 by omega];exact⟨λe=>absurd e h.1,λi hi=>wpOp_of_qOp hw (λ_ _ c j=>ks d f _ _ _ c j) (h.2 i hi).2⟩
theorem s7 {n i:Nat}{D:Oper}{v:Value}{L:Array Bool→Act→Prop}(hi:ops[i]?=some D)(r:∀(j:Nat) (o:Oper) cs b,ops[j]?=some o→o.op≠.select cs b)
  (hs:Region.sinkB md ops n=true) (R:Region.chainB md ops n=true) (hn:n<ops.size) (z:i<n) (s:∀c a,L c a→∀j∈Region.ready md ops c,n≤j) :
  ∀(f:Nat) (c:Array Bool) (a:Act),HeadInv md ops n c →
   (∀j x,ops[j]?=some x→j≠i→c.getD j true=false→(∀e∈x.after,Region.binds md e=true→e.on≠i)→D.apart ops x=true) →
   i∈Region.ready md ops c→YieldsIn P ops C D v a→headQ P md ops C n L f (c.setIfInBounds i true) (a.put D.dst v)→headQ P md ops C n L (f+1) c a:=by
 intro f;induction f with
 | zero =>
  intro c a m _ q E H;have l:=(mem_ready.1 q).1;refine⟨λe=>(by rw[e]at q;cases q),λj t=>?_⟩;have h:j<n:=Nat.lt_of_not_le λu=>tail_waits hs R hn m _ i rfl z l j u t;by_cases d:j=i
  ·subst d;exact⟨h,E.qOp hi H⟩
  ·have:=s _ _ H j (ready_mono t d);omega
 | succ f X =>
  intro c a m g q E H;have l:=(mem_ready.1 q).1;refine⟨λe=>(by rw[e]at q;cases q),λj t=>?_⟩;have h:j<n:=Nat.lt_of_not_le λu=>tail_waits hs R hn m _ i rfl z l j u t;by_cases d:j=i
  ·subst d;exact⟨h,E.qOp hi H⟩
  ·obtain⟨p,x,w,y⟩:=mem_ready.1 t;have B:∀e∈x.after,Region.binds md e=true→e.on≠i:=λe V U F=>by
    have N:=y e V U;rw[F,getD_both l]at N;cases N
   have T:=qOp_put w (g j x w d p B) (λcs b=>r i D cs b hi) (λcs b=>r j x cs b w) E (H.2 j (ready_mono t d)).2;refine⟨h,qOp_mono (λS O=>X _ S (m.set t h) (λk ok W I J M=>g k ok W I ?_ M) (ready_mono q (Ne.symm d)) O.1 ?_) T⟩
   ·by_cases A:j=k
    ·subst A;exact p
    ·rwa [getD_set_ne true A]at J
   ·rw[Array.setIfInBounds_comm _ _ d];exact O.2
theorem pB {n g:Nat}{i:Act→Prop}(d:Region.noSelect ops=true)(hs:Region.sinkB md ops n=true)(m:Region.chainB md ops n=true)(hn:n<ops.size) :
  ∀(l:List Oper) (k:Nat) (b:Array Bool) (a:Act),(∀j,j<l.length→l[j]?=ops[k+j]?)→k+l.length=n→HeadInv md ops n b →
  Region.lexHead md ops g l.length k b=true→wpQuiet P ops C i l a →
  headQ P md ops C n (λc p=>Region.seqB md ops g n c=true∧i p) l.length b a
 | [],k,b,a,_,hk,_,hB,h=>by
  obtain rfl:k=n:=by simpa using hk
  exact⟨by simpa[Region.lexHead]using hB,h⟩
 | o :: l,k,b,a,hl,hk,inv,hB,h=>by
  have h0:ops[k]?=some o:=by simpa using(hl 0 (by simp)).symm
  simp only[List.length_cons,Region.lexHead,Bool.and_eq_true]at hB;have e:k<n:=by simp only[List.length_cons]at hk;omega
  have f:k∈Region.ready md ops b:=by simpa using hB.1.1
  obtain⟨v,s,q⟩:=yieldsIn_of_qOp h0 (show qOp P ops C k (wpQuiet P ops C i l) a by unfold qOp;simp only[h0];exact h);exact s7 h0 (Region.noSelect_spec d) hs m hn e (λ_ _ r=>seqB_ready r.1) l.length b a inv (Region.free_spec h0 hB.1.2) f s
   (pB d hs m hn l (k+1) _ _ (λj t=>by have:=hl (j+1) (by simp;omega);simpa[Nat.add_assoc,Nat.add_comm 1 j]using this) (by simp only[List.length_cons]at hk;omega) (inv.set f e) hB.2 q)
end tail
theorem ak {P:Program}{C:World→Prop}{B:Nat}{Q:Exit→Act→World→Prop}{a:Act}{w:World}{l:List Oper}(n:Nat)(hm:P.follows .mixedOrders=true)(q:Region.lexTailB .any l.toArray n=true)
  (u:C w.drew) (h:wpQuiet P l.toArray (λw'=>∃x:Later C,w'=x.w) (λm=>∀w',C w'→wpList P l.toArray Q (l.drop n) m w') (l.take n) a):(Code.region B l.toArray true).wp P Q a w:=by
 have e:(λw'=>∃x:Later C,w'=x.w)=C:=funext λw'=>propext ⟨λ⟨x,A⟩=>A▸x.ok,λh=>⟨⟨w',h⟩,rfl⟩⟩;rw[e]at h;simp only[Region.lexTailB,Bool.and_eq_true,decide_eq_true_eq]at q;obtain⟨⟨⟨⟨i,hn⟩,hs⟩,v⟩,f⟩:=q;have y:n<l.length:=by simpa using hn
 have b:(l.take n).length=n:=by simp;omega
 have d:(l.drop n).length=l.toArray.size - n:=by simp
 have k:HeadInv .any l.toArray n (Array.replicate l.toArray.size false) :=
  ⟨by simp,λj D _ hl=>(by rw[getD_replicate_false]at hl;cases hl),λt _ z=>getD_in (by simpa using z) (getD_replicate_false _ _)⟩
 have H:=pB (md:=.any) (g:=l.toArray.size - n) i hs v hn (l.take n) 0 _ a (λj s=>by
  have o:j<n:=by rw[b]at s;exact s
  simp[o]) (by simpa using b) k (by rw[b];exact f) h
 refine wp_region_any hm ?_;have:=ks (Q':=Q) (g:=l.toArray.size - n) (λc m w' p r=>by
  have:=wpAny_of_seq (md:=.any) (Q':=Q) (l.drop n) n c m w' (λj=>by simp[List.getElem?_drop]) (by rw[d];exact r.1) (r.2 w' p)
  rwa [d]at this) _ _ _ _ u H
 rw[b,show n+(l.toArray.size - n)=l.toArray.size by omega]at this;exact this
theorem Calls.later {P:Program}{C:World→Prop}{f:FuncId}{args:Array Value}{w:World}{v:Value}
  (h:Calls P f args w λe w'=>e=.returned v∧C w'):Calls P f args w λe a=>e=.returned v∧∃y:Later C,a=y.w :=
 h.mono λ_ w' ⟨c,b⟩=>⟨c,⟨w',b⟩,rfl⟩
def Gr (w0 w':World):Prop:=Below w0.heap.size w0 w'
theorem Gr.refl (w:World):Gr w w:=Below.refl _ _
theorem Gr.drew' (w:World):Gr w w.drew:=(Below.refl _ _).drew
theorem Gr.trans {a b c:World}(h:Gr a b)(k:Gr b c):Gr a c:=Below.trans h (Below.mono k (Below.size h))
theorem Gr.of_eq {a b:World}(h:b=a):Gr a b:=h▸Gr.refl _
theorem Gr.cell {a b:World}(h:Gr a b){p:Addr}{v:Value}(c:a.cell? p=some v):b.cell? p=some v:=by
 have:p.block<a.heap.size:=by
  unfold World.cell? at c;rcases Nat.lt_or_ge p.block a.heap.size with d | d
  ·exact d
  ·rw[Array.getElem?_eq_none d]at c;cases c
 exact(Below.cell h this).trans c
theorem Gr.bcell {W a:World}(c:Gr W a):(∀b o,b<W.heap.size→a.cell? ⟨b,o,none⟩=W.cell? ⟨b,o,none⟩)∧(∀b o,b<W.heap.size→a.frozen? ⟨b,o,none⟩=W.frozen? ⟨b,o,none⟩) :=
 ⟨λb o h=>Below.cell (p:=⟨b,o,none⟩) c h,λb o h=>Below.frozen (p:=⟨b,o,none⟩) c h⟩
theorem Gr.setCell {w W:World}(h:Gr w W){p:Addr}(a:w.heap.size≤p.block)(u:Value):Gr w (W.setCell p u):=Below.setCell h a u
theorem Gr.drew {w W:World}(h:Gr w W):Gr w W.drew:=Below.drew h
theorem Gr.alloc1 {w W:World}(h:Gr w W)(o:Obj):Gr w (W.alloc o):=Below.alloc h (Below.size h) o
theorem Gr.alloc (w:World)(o:Obj):Gr w (w.alloc o):=(Below.refl _ _).alloc (qv _) o
theorem Gr.ch {T:Nat→Prop}{w A B:World}(h:Gr w A)(k:Ch T A B)(a:∀k,T k→w.heap.size≤k):Gr w B:=Below.trans h (k.below (Below.size h) a)
theorem Gr.to_ch {w A:World}(T:Nat→Prop)(h:Gr w A):Ch T w A:=Ch.of_below (B:=w.heap.size) h (λ_ b a=>absurd a (Nat.not_lt.2 b))
abbrev YAt (P:Program)(l:Nat)(args:Array Value)(W:World)(R:Ending→World→Prop):Prop:=YieldAt Fence.wide 0 P l args W R
def xI {α:Type}(P:Program)(gf:Nat)(lb:Array Value)(encs:α→Array Value)(xs:List α)(T:Nat→Prop)(own:Nat)(Gp:World→Prop)(W0:World):Prop :=
 ∀(W:World) (l:Nat) (J Jx:List α→World→Prop) (U:Nat→Prop),
  W0.heap.size≤W.heap.size→(∀k,T k→W.heap[k]?=W0.heap[k]?) →
  (∀k,U k→(k<W.heap.size∨W.heap.size+own≤k)∧¬T k) →
  (∀pre A B,J pre A→Ch (λk=>T k∨(W.heap.size≤k∧k<W.heap.size+own)) A B→J pre B) →
  (∀pre A B,Jx pre A→Ch (λk=>T k∨(W.heap.size≤k∧k<W.heap.size+own)) A B→Jx pre B) →
  (∀pre A,J pre A→Gp A) →
  (∀pre x rest A,xs=pre++x :: rest→W.heap.size+own≤A.heap.size→J pre A→YAt P l (encs x) A λe B =>
   (e=.returned (.bool true)∧J (pre++[x]) B∧Ch U A B)∨(e=.returned (.bool false)∧Jx (pre++[x]) B∧Ch U A B)) →
  J [] W →
  CallsIn Fence.wide 0 P gf (#[.func (.yield l) #[] #[]]++lb) W λe W'=>e=.returned (.tuple #[])∧(J xs W'∨∃pre,pre <+: xs∧Jx pre W')
def Cn {α:Type}(U:Nat→Prop)(I:List α→World→Prop)(Ix:Code→List α→World→Prop)(xs:List α)(W:World):Exit→Act→World→Prop
 | .normal,_,W'=>Ch U W W'∧I xs W'
 | .ret,_,W'=>Ch U W W'∧Ix .ret xs W'
 | .exit id,_,W'=>Ch U W W'∧Ix (.exit id) xs W'
 | .goto t,_,W'=>Ch U W W'∧Ix (.goto t) xs W'
 | .panic _,_,_=>False
 | .outgrown,_,_=>False
theorem nu {α:Type}{P:Program}{g:Operand}{ps:Array Tmp}{assign body:Code}{Q:Exit→Act→World→Prop}{a:Act}{w:World}
  {gf:Nat} {lb:Array Value} (hg:a.eval g=.func (.func gf) #[] lb) (eg:∀args w,(callFunc gf args).run P w=.ok (.enter gf args) w)
  {E:α→Array Value} {xs:List α} {T:Nat→Prop} {own:Nat} {Gp:World→Prop} {W0:World} (b7:xI P gf lb E xs T own Gp W0)
  (c2:W0.heap.size≤w.heap.size) (hT:∀k,T k→k<w.heap.size∧w.heap[k]?=W0.heap[k]?) (c0:∀x,(E x).size=ps.size)
  (I:List α→World→Prop) (Ix:Code→List α→World→Prop) (U:Nat→Prop) (hU:∀k,U k→(k<w.heap.size∨w.heap.size+2+own≤k)∧¬T k)
  (hI:∀b A B,I b A→Ch (λk=>T k∨(w.heap.size≤k∧k<w.heap.size+2+own)) A B→I b B)
  (H:∀c b A B,Ix c b A→Ch (λk=>T k∨(w.heap.size≤k∧k<w.heap.size+2+own)) A B→Ix c b B)
  (b0:∀b A,I b A→Gp A) (h0:I [] w)
  (N:∀(l:Nat) (b:List α) (x:α) (rest:List α) (A:World),(w.heap.size+1≤l∧l≤w.heap.size+1)→w.heap.size+2+own≤A.heap.size→xs=b++x :: rest→I b A →
   assign.wpIn (Fence.wide.inRound l) 0 P (Exit.then (λa₁ L=>Ch U A L∧∀A₂,Ch (·=l) L A₂→body.wpIn (Fence.wide.inRound l) 0 P (Cn U I Ix (b++[x]) A₂) a₁ A₂) (λ_ _ _=>False))
    { tmps:=(ps.zip (E x)).foldl (λt (p,v)=>t.setIfInBounds p v) a.tmps,defers:=[] } A)
  (X:∀(D:Nat) (W:World),(w.heap.size≤D∧D≤w.heap.size)→I xs W→W.heap[D]?=some (.deferred (some []))→Q .normal { a with defers:={ target:=.collected D,args:=#[] } :: a.defers } W)
  (Z:∀(D:Nat) (c:Code) (b:List α) (W:World),(w.heap.size≤D∧D≤w.heap.size)→b <+: xs→Ix c b W→W.heap[D]?=some (.deferred (some []))→c.wpIn Fence.wide 0 P Q { a with defers:={ target:=.collected D,args:=#[] } :: a.defers } W) :
  (Code.rangeFunc g ps assign body).wpIn Fence.wide 0 P Q a w:=by
 refine wpIn_rangeFunc ?_;intro fn b6;rw[show Fence.wide.round=none from rfl];obtain⟨f,i⟩:∃f:LoopState→Option Code→Loop,f=λst pe=>{ state:=st,pending:=pe,fn,tmps:=a.tmps,params:=ps,assign,body,defers:=w.heap.size }:=⟨_,rfl⟩;obtain⟨n,J⟩:∃n,(w.alloc (.deferred (some []))).alloc (.loop (f .ready none))=n:=⟨_,rfl⟩;have b2:n.heap[w.heap.size+1]?=some (.loop (f .ready none)):=by
  rw[←J];have:=World.alloc_heap_new (w.alloc (.deferred (some []))) (.loop (f .ready none));rwa [World.size_alloc]at this
 have b1:n.heap[w.heap.size]?=some (.deferred (some [])):=by
  rw[←J];exact(Below.heap_alloc _ _ _ (by simp)).trans (World.alloc_heap_new w _)
 have O:∀T',Ch T' w n:=λT'=>by rw[←J];exact(Ch.alloc _ _ _).trans (Ch.alloc _ _ _)
 have F:n.heap.size=w.heap.size+2:=by rw[←J];simp
 have a9:I [] n:=hI _ _ _ h0 (O _);have a0:∀k,w.heap.size≤k→¬T k:=λk j ht=>by have:=(hT k ht).1;omega
 have M:∀k,w.heap.size≤k→k<w.heap.size+2→¬U k:=λk j a1 ht=>by have:=(hU k ht).1;omega
 refine⟨w.heap.size+1,[{ target:=.collected w.heap.size,args:=#[] }],n,{ target:=.fn (.func gf) lb,args:=#[.func (.yield (w.heap.size+1)) #[] #[]] },n,gf,
  #[.func (.yield (w.heap.size+1)) #[] #[]]++lb,n,?_,?_,λ_ _=>trivial,?_,λh=>by simp[Fence.wide]at h,?_⟩
 ·rw[←J,i];exact run_enterLoop_outer _ _ _ _ _
 ·simp only[resolve,hg];simp[go_sem]
 ·simp[invoke,go_sem,eg]
 ·have bk:∀ {A B:World} {o:Obj} {k:Nat},w.heap.size≤k→k<w.heap.size+2→A.heap[k]?=some o→Ch (λk=>T k∨(n.heap.size≤k∧k<n.heap.size+own)) A B→B.heap[k]?=some o:=fun {A B o k} h1 h2 h3 h4 =>
   h4.get h3 (λe=>by
    rcases e with e | e
    ·exact a0 _ h1 e
    ·rw[F]at e;omega)
  have a8:∀ {A B:World},Ch (λk=>T k∨(n.heap.size≤k∧k<n.heap.size+own)) A B→Ch (λk=>T k∨(w.heap.size≤k∧k<w.heap.size+2+own)) A B:=λh =>
   h.mono (λk j=>by rcases j with j | j;exact .inl j;exact .inr (by rw[F]at j;omega))
  refine(b7 n (w.heap.size+1)
   (λb W=>I b W∧W.heap[w.heap.size+1]?=some (.loop (f .ready none))∧W.heap[w.heap.size]?=some (.deferred (some [])))
   (λb W=>∃c,Ix c b W∧W.heap[w.heap.size+1]?=some (.loop (f .done (some c)))∧W.heap[w.heap.size]?=some (.deferred (some [])))
   (λk=>U k∨k=w.heap.size+1)
   (by rw[F];omega) (λk j=>((O (λ_=>False)).block k (hT k j).1 (λh=>h)).trans (hT k j).2)
   (λk j=>by
    rcases j with j | j
    ·exact⟨by have:=(hU k j).1;rw[F];omega,(hU k j).2⟩
    ·subst j;exact⟨by rw[F];omega,a0 _ (Nat.le_succ _)⟩)
   (λb A B hs S=>⟨hI _ _ _ hs.1 (a8 S),bk (Nat.le_succ _) (by omega) hs.2.1 S,bk (qv _) (by omega) hs.2.2 S⟩)
   (λb A B hs S=>by
    obtain⟨c,b3,b4,b5⟩:=hs;exact⟨c,H _ _ _ _ b3 (a8 S),bk (Nat.le_succ _) (by omega) b4 S,bk (qv _) (by omega) b5 S⟩)
   (λb A hs=>b0 _ _ hs.1) ?_ ⟨a9,b2,b1⟩).mono ?_
  ·rintro b x rest A c1 a7⟨hi,hl,j⟩;have c3:w.heap.size+1<A.heap.size:=(Array.getElem?_eq_some_iff.1 hl).1;have hy:=run_yield (P:=P) (args:=E x) hl (by rw[i];exact c0 x);rw[i]at hy;refine⟨fn,_,assign,body,hy,roundIn_of_wpIn b6 ?_⟩;clear hy;refine wpIn_mono (N (w.heap.size+1) b x rest A ⟨qv _,qv _⟩ (by rw[F]at a7;exact a7) c1 hi) ?_;rintro e a₁ L he;cases e with
   | normal =>
    obtain⟨V,R⟩:=he;have a2:L.heap[w.heap.size+1]?=some (.loop (f .ready none)):=V.get hl (M _ (Nat.le_succ _) (by omega));have b8:L.heap[w.heap.size]?=some (.deferred (some [])):=V.get j (M _ (qv _) (by omega));have a5:w.heap.size+1<L.heap.size:=(Array.getElem?_eq_some_iff.1 a2).1;refine⟨_,run_beginRound a2 (by rw[i]),?_⟩;refine wpIn_mono (R _ (Ch.putObj (T:=λk=>k=w.heap.size+1) _ rfl _)) ?_;have b9:(L.putObj (w.heap.size+1) (.loop { f .ready none with state:=.busy })).heap[w.heap.size+1]?=some (.loop { f .ready none with state:=.busy }):=World.putObj_heap_same a5;have a1:(L.putObj (w.heap.size+1) (.loop { f .ready none with state:=.busy })).heap[w.heap.size]?=some (.deferred (some [])):=(World.putObj_heap_other (by omega)).trans b8;have fin:∀(d:Option Code) (q:World),Ch U (L.putObj (w.heap.size+1) (.loop { f .ready none with state:=.busy })) q →
      (Instr.endRound (w.heap.size+1) d).run P q=.ok (.bool d.isNone) (q.putObj (w.heap.size+1) (.loop (f (if d.isNone then .ready else .done) d))) ∧
      (q.putObj (w.heap.size+1) (.loop (f (if d.isNone then .ready else .done) d))).heap[w.heap.size+1]?=some (.loop (f (if d.isNone then .ready else .done) d)) ∧
      (q.putObj (w.heap.size+1) (.loop (f (if d.isNone then .ready else .done) d))).heap[w.heap.size]?=some (.deferred (some [])) ∧
      Ch (λk=>U k∨k=w.heap.size+1) A (q.putObj (w.heap.size+1) (.loop (f (if d.isNone then .ready else .done) d))) ∧
      Ch (λk=>T k∨(w.heap.size≤k∧k<w.heap.size+2+own)) q (q.putObj (w.heap.size+1) (.loop (f (if d.isNone then .ready else .done) d))):=λd q m=>by
     have a4:q.heap[w.heap.size+1]?=some (.loop { f .ready none with state:=.busy }):=m.get b9 (M _ (Nat.le_succ _) (by omega));have:=run_endRound (P:=P) d a4;rw[i]at this ⊢;exact⟨this,World.putObj_heap_same (Array.getElem?_eq_some_iff.1 a4).1,(World.putObj_heap_other (by omega)).trans (m.get a1 (M _ (qv _) (by omega))),
      (((V.mono (λ_ h=>.inl h)).trans (Ch.putObj _ (.inr rfl) _)).trans (m.mono (λ_ h=>.inl h))).trans (Ch.putObj _ (.inr rfl) _),Ch.putObj _ (.inr ⟨Nat.le_succ _,by omega⟩) _⟩
    rintro e a3 q hp;cases e with
    | normal =>
     obtain⟨m,s⟩:=hp;obtain⟨Y,y,u,r,z⟩:=fin none q m;exact⟨_,_,Y,.inl ⟨rfl,⟨hI _ _ _ s z,y,u⟩,r⟩⟩
    | ret =>
     obtain⟨m,s⟩:=hp;obtain⟨Y,y,u,r,z⟩:=fin (some .ret) q m;exact⟨_,_,Y,.inr ⟨rfl,⟨_,H _ _ _ _ s z,y,u⟩,r⟩⟩
    | exit id =>
     obtain⟨m,s⟩:=hp;obtain⟨Y,y,u,r,z⟩:=fin (some (.exit id)) q m;exact⟨_,_,Y,.inr ⟨rfl,⟨_,H _ _ _ _ s z,y,u⟩,r⟩⟩
    | goto t =>
     obtain⟨m,s⟩:=hp;obtain⟨Y,y,u,r,z⟩:=fin (some (.goto t)) q m;exact⟨_,_,Y,.inr ⟨rfl,⟨_,H _ _ _ _ s z,y,u⟩,r⟩⟩
    | panic ch=>exact hp.elim
    | outgrown=>exact hp.elim
   | ret=>exact he.elim
   | exit id=>exact he.elim
   | goto t=>exact he.elim
   | panic ch=>exact he.elim
   | outgrown=>exact he.elim
  ·rintro e W2⟨rfl,(⟨hi,hl,j⟩ | ⟨b,a6,c,hi,hl,j⟩)⟩
   ·exact⟨none,_,by have:=run_endLoop (P:=P) hl (by rw[i];simp);rw[i]at this;exact this,X _ _ ⟨qv _,qv _⟩ (hI _ _ _ hi (Ch.putObj _ (.inr ⟨Nat.le_succ _,by omega⟩) _)) ((World.putObj_heap_other (by omega)).trans j)⟩
   ·exact⟨some c,_,by have:=run_endLoop (P:=P) hl (by rw[i];simp);rw[i]at this;exact this,Z _ c b _ ⟨qv _,qv _⟩ a6 (H _ _ _ _ hi (Ch.putObj _ (.inr ⟨Nat.le_succ _,by omega⟩) _)) ((World.putObj_heap_other (by omega)).trans j)⟩
end Go
namespace Go.Proofs.YtadobobfjnmdlaaGreatDoor
open Go.RowKit
structure G (w:World):Prop where
 max:∃m,w.cell? ⟨0,0,none⟩=some (.int .i64 m)
 utf:Lib.Utf8Tabs 4 5 w
 pow:Lib.TabIs prog w "internal/strconv.uint64pow10" .u64 Lib.pow10Tab
 syn:∃te pe,w.cell? ⟨2,0,none⟩=some (.iface te pe)
 rng:∃te pe,w.cell? ⟨3,0,none⟩=some (.iface te pe)
theorem G.gr {w w':World}(h:G w)(a:Gr w w'):G w' :=
 ⟨h.max.imp λ_ hm=>a.cell hm,Utf8Tabs_below h.utf a,Lib.tabBelow_of_tabIs h.pow w' a,let ⟨te,pe,hs⟩:=h.syn;⟨te,pe,a.cell hs⟩,let ⟨te,pe,hs⟩:=h.rng;⟨te,pe,a.cell hs⟩⟩
theorem G.cells {w w':World}(h:G w)(b:∀g o u,g≤5→w.cell? ⟨g,o,none⟩=some u→w'.cell? ⟨g,o,none⟩=some u)(f:w'.heap[(1:Nat)]?=w.heap[(1:Nat)]?):G w':=by
 refine⟨h.max.imp λ_ hm=>b _ _ _ (by decide) hm,⟨λc d=>b _ _ _ (by decide) (h.utf.1 c d),λi hi=>⟨b _ _ _ (by decide) (h.utf.2 i hi).1,b _ _ _ (by decide) (h.utf.2 i hi).2⟩⟩,?_,let ⟨te,pe,hs⟩:=h.syn;⟨te,pe,b _ _ _ (by decide) hs⟩,let ⟨te,pe,hs⟩:=h.rng;⟨te,pe,b _ _ _ (by decide) hs⟩⟩;have a:=h.pow;unfold Lib.TabIs World.var? at *;have e:prog.globalNamed "internal/strconv.uint64pow10"=some 1:=by kernel_rfl
 rw[e]at a ⊢;simp only[Option.bind_some]at a ⊢;rw[f];exact a
theorem G.lt {W:World}(h:G W):5<W.heap.size:=ae (h.utf.2 0 (by decide)).1
theorem G.ch {w w':World}(h:G w){T:Nat→Prop}(b:Ch T w w')(a:∀g,g≤5→¬T g):G w' :=
 h.cells (λg o _ d c=>(b.cell (p:=⟨g,o,none⟩) (ae c) (a g d)).trans c) (b.block _ (Nat.lt_trans (by decide) h.lt) (a _ (by decide)))
open Go.Lib
theorem own:ownKnob prog.godebug=none:=by kernel_rfl
def Co:List (String×DataW Unit):=[("math/bits.deBruijn32tab",Rows.laid_math_bits_deBruijn32tab),("math/bits.deBruijn64tab",Rows.laid_math_bits_deBruijn64tab),("internal/strconv.uint64pow10",Rows.laid_internal_strconv_uint64pow10),("unicode/utf8.acceptRanges",Rows.laid_unicode_utf8_acceptRanges),("strconv.ErrRange",Rows.laid_strconv_ErrRange),("strconv.ErrSyntax",Rows.laid_strconv_ErrSyntax),("unicode/utf8.first",Rows.laid_unicode_utf8_first)]
theorem zt:(Rows.laid_unicode_utf8_acceptRanges:DataW Unit)=acceptData:=by kernel_rfl
theorem Cp:Rows.laid_unicode_utf8_first=firstData:=Pinned.utf8First_eq
theorem E5:(Rows.laid_internal_strconv_uint64pow10:DataW Unit)=Lib.tabData .u64 Lib.pow10Tab:=by kernel_rfl
theorem FW:prog.globalNamed "strconv.ErrSyntax"=some 2:=by kernel_rfl
theorem FX:(prog.globals[2]?).map (·.type)=some 171:=by kernel_rfl
theorem FY:prog.globalNamed "strconv.ErrRange"=some 3:=by kernel_rfl
theorem FZ:(prog.globals[3]?).map (·.type)=some 171:=by kernel_rfl
theorem GA:prog.globalNamed "internal/strconv.uint64pow10"=some 1:=by kernel_rfl
theorem F0:(prog.globals[1]?).map (·.type)=some 285:=by kernel_rfl
theorem EJ:"*"++"errors.errorString" = "*errors.errorString":=by decide
theorem Cq (u:TypeId)(h:prog.typeName? 3 u=some "*errors.errorString"):u = 307 :=
 typeName_ptr_named (nm:="errors.errorString") (by rw[EJ];kernel_rfl) (by kernel_rfl) (by decide) u (by rw[EJ];exact h)
theorem s8:prog.cellsOf 309=1:=by kernel_rfl
theorem s9:prog.cellsOf 9=1:=by kernel_rfl
theorem Cr:prog.cellsOf 94=1:=by kernel_rfl
theorem Cs:prog.cellsOf 285=20:=by kernel_rfl
theorem GB {W:World}(h:laidMetH prog Co W)(a:W.ShapedOpen prog):G W:=by
 have hM:laidMet prog Co W:=h;have e:=Lib.laidMet.reads (n:="unicode/utf8.first") (d:=Rows.laid_unicode_utf8_first) hM (.tail _ (.tail _ (.tail _ (.tail _ (.tail _ (.tail _ (.head _)))))));have f:=Lib.laidMet.reads (n:="unicode/utf8.acceptRanges") (d:=Rows.laid_unicode_utf8_acceptRanges) hM (.tail _ (.tail _ (.tail _ (.head _))));rw[Cp]at e;rw[zt]at f;have g:=hM.tail.tail;rw[E5]at g;obtain⟨a0,i,b,-,-,-⟩:=laid_sentinel hM.tail.tail.tail.tail FY FZ underlying171 Cq underlying307 underlying309 rfl rfl underlying9 s8 s9;obtain⟨a1,j,c,-,-,-⟩:=laid_sentinel hM.tail.tail.tail.tail.tail FW FX underlying171 Cq underlying307 underlying309 rfl rfl underlying9 s8 s9;refine⟨Tryz.laysM219.s1_3 W a,utf8Tabs_of_reads (ρ:=lays230_ren) { lays230 with } ⟨by kernel_rfl,by kernel_rfl,by kernel_rfl,by kernel_rfl,by kernel_rfl,by kernel_rfl,by kernel_rfl⟩ e f,?_,⟨_,_,by have h0:=World.var?_cell FW c 0;simpa using h0⟩,⟨_,_,by have h0:=World.var?_cell FY b 0;simpa using h0⟩⟩
 ·exact Lib.tabIs_of_head GA F0 underlying285 underlying94 Cr Cs g
noncomputable def laidWorld (os:Os):World :=
 let w0:=World.holding prog os ⟨#[.cells #[.string ⟨#[105,110,118,97,108,105,100,32,115,121,110,116,97,120]⟩] 309,.cells #[.string ⟨#[118,97,108,117,101,32,111,117,116,32,111,102,32,114,97,110,103,101]⟩] 309],#[],[]⟩
 let low:=(World.holding prog default ⟨#[],#[],[]⟩).heap.size
 let put (h:Array Obj) (g:Nat) (cs:Array Value):Array Obj:=h.modify g fun
  | .cells _ t frozen=>.cells cs t frozen
  | o=>o
 let h1:=put w0.heap 4 (Lib.firstTab.map λz=>Value.int .u8 z).toArray
 let h2:=put h1 5 ((List.range 16).flatMap λi=>[Value.int .u8 (Lib.accLo i),Value.int .u8 (Lib.accHi i)]).toArray
 let h3:=put h2 2 #[.iface 307 (.pointer (some ⟨low,0,none⟩))]
 let h4:=put h3 3 #[.iface 307 (.pointer (some ⟨low+1,0,none⟩))]
 let h5:=put h4 1 (Lib.pow10Tab.map λz=>Value.int .u64 z).toArray
 let lits (d:DataW Unit):Array Value:=match d with | .agg ds=>(ds.map fun | .lit (.int k z)=>Value.int k z | _=>.bool false).toArray | _=>#[]
 let h6:=put h5 6 (lits Rows.laid_math_bits_deBruijn32tab)
 let h7:=put h6 7 (lits Rows.laid_math_bits_deBruijn64tab)
 { w0 with heap:=h7 }
theorem Ct (os:Os)(args:Array Value):laidMet prog Co ((laidWorld os).forCall (λ_ _=>0) ⟨#[],args,[]⟩).memory :=
 laidMet_of_run' 8 (by kernel_rfl) (by kernel_rfl)
