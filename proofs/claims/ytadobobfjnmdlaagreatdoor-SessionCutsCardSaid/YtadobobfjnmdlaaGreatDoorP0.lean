/-
  Plain functions and laws of texts: no program in sight.
-/
import Derived.Lib.IndexMore
import Derived.Lib.SlTrimSet
import Derived.Test.YtadobobfjnmdlaaGreatDoorChecked
import Derived.Test.YtadobobfjnmdlaaGreatDoorSh
import Derived.WalkKit
import Derived.OwnWalk
import Derived.Outline
import Derived.BigFrame
import Derived.Lib.Hide
import Derived.Deep.QuietTactic
import Derived.BigQuiet
import Derived.Deep.DeepFit
import Derived.RangeFuncNested
import Derived.RangeFuncLeaves
import Derived.Deep.Quiet
import Derived.StillTail
import Derived.LaidEql
import Derived.Lib.LaidTab
import Derived.Lib.ItoaNum
import Derived.Lib.AppendIntMem
set_option linter.unnecessarySimpa false
set_option linter.unusedVariables false
set_option linter.unusedSimpArgs false
set_option maxHeartbeats 16000000
set_option maxRecDepth 100000
open Go.Lib (hid)
open Go.Proofs.Tryz
namespace Go.Proofs.YtadobobfjnmdlaaGreatDoor
def isLetter (c:UInt8):Bool:=(97≤c&&c≤122)||(65≤c&&c≤90)||(48≤c&&c≤57)
def marksL:List UInt8:=[33,35,36,37,38,39,42,43,45,46,94,95,96,124,126]
def isTok (c:UInt8):Bool:=isLetter c||marksL.contains c
def isVal (c:UInt8):Bool:=c==9||(32≤c&&c != 127)
def lower (c:UInt8):UInt8:=if 65≤c∧c≤90 then c+32 else c
def tokB (l:List UInt8):Bool:=!l.isEmpty&&l.all isTok
def alikeB (a b:List UInt8):Bool:=a.map lower==b.map lower
def trimB (l:List UInt8):List UInt8:=Lib.trimS l [32,9]
def parseB (l:List UInt8):List UInt8×List UInt8×Bool :=
 if (Lib.cut l [58]).2.2&&tokB (Lib.cut l [58]).1&&(Lib.cut l [58]).2.1.all isVal then ((Lib.cut l [58]).1,trimB (Lib.cut l [58]).2.1,true) else ([],[],false)
theorem parseB_eq {l n v:List UInt8} {c:Bool} (h:Lib.cut l [58]=(n,v,c)):parseB l=if c&&tokB n&&v.all isVal then (n,trimB v,true) else ([],[],false):=by
 unfold parseB;rw[h]
theorem cut_le1 (s sep:List UInt8):(Lib.cut s sep).1.length≤s.length:=by
 unfold Lib.cut;split <;> simp[List.length_take] <;> omega
theorem cut_le2 (s sep:List UInt8):(Lib.cut s sep).2.1.length≤s.length:=by
 unfold Lib.cut;split <;> simp
theorem letter_eq (c:UInt8):isLetter c=decide ((97≤(c.toNat:Int)∧(c.toNat:Int)≤122)∨(65≤(c.toNat:Int)∧(c.toNat:Int)≤90)∨(48≤(c.toNat:Int)∧(c.toNat:Int)≤57)):=by
 rw[Bool.eq_iff_iff];simp[isLetter,UInt8.le_iff_toNat_le];omega
theorem val_eq (c:UInt8):isVal c=decide ((c.toNat:Int)=9∨(32≤(c.toNat:Int)∧(c.toNat:Int)≠127)):=by
 rw[Bool.eq_iff_iff];simp[isVal,UInt8.le_iff_toNat_le,←UInt8.toNat_inj];omega
theorem ret_bool {a b:Bool} (h:a=b):Ending.returned (.bool a)=.returned (.bool b):=by rw[h]
theorem size_mk (l:List UInt8):ByteArray.size ⟨l.toArray⟩=l.length:=by simp[ByteArray.size]
theorem cat_mk (a b:List UInt8):(⟨a.toArray⟩:ByteArray)++⟨b.toArray⟩=⟨(a++b).toArray⟩:=by
 apply ByteArray.ext
 simp
theorem extract_mk (l:List UInt8) (i j:Nat):(⟨l.toArray⟩:ByteArray).extract i j=⟨((l.take j).drop i).toArray⟩:=by
 apply ByteArray.ext
 simp[List.drop_take]
theorem extract_one (l:List UInt8) (k:Nat) (h:k<l.length):(⟨l.toArray⟩:ByteArray).extract k (k+1)=⟨#[l[k]]⟩:=by
 rw[extract_mk,List.drop_take,Nat.add_sub_cancel_left,List.drop_eq_getElem_cons h]
 rfl
theorem indexByte_nonneg (l:List UInt8) (c:UInt8):decide (0≤Lib.indexByte l c)=l.contains c:=by
 induction l with
 | nil=>rfl
 | cons b l ih =>
  have hg:=Lib.indexByte_ge l c
  unfold Lib.indexByte
  rw[List.contains_cons,←ih]
  by_cases h:(b==c)=true
  ·have h':(c==b)=true:=beq_iff_eq.2 (beq_iff_eq.1 h).symm
   simp[h,h']
  ·have h1:(b==c)=false:=by simpa using h
   have h2:(c==b)=false:=beq_eq_false_iff_ne.2 (λe=>by subst e;simp at h1)
   rw[h1,h2]
   by_cases h3:Lib.indexByte l c = -1
   ·simp[h3]
   ·have h4:(Lib.indexByte l c==-1)=false:=by simpa using h3
    simp only[h4,Bool.false_eq_true,if_false,Bool.false_or]
    rw[decide_eq_decide];omega
theorem toNat_u8 (c:UInt8):(c.toNat:Int).toNat.toUInt8=c:=by simp
theorem all_take_succ {l:List UInt8} {p:UInt8→Bool} {k:Nat} (h:(l.take k).all p=true) (hk:k<l.length) (hp:p l[k]=true):(l.take (k+1)).all p=true:=by
 rw[List.take_succ_eq_append_getElem hk,List.all_append,h];simp[hp]
theorem all_false {l:List UInt8} {p:UInt8→Bool} {k:Nat} (hk:k<l.length) (hp:p l[k]=false):l.all p=false:=by
 rw[Bool.eq_false_iff];intro h
 have:=List.all_eq_true.1 h l[k] (List.getElem_mem hk)
 rw[hp] at this;cases this
theorem u8_all {p:UInt8→Prop} (h:∀ n:Fin 256,p (UInt8.ofNat n.1)) (c:UInt8):p c:=by
 have:=h ⟨c.toNat,c.toNat_lt⟩
 simpa using this
theorem lower_toNat (c:UInt8):((lower c).toNat:Int)=if 65≤(c.toNat:Int)∧(c.toNat:Int)≤90 then (c.toNat:Int)+32 else c.toNat:=by
 unfold lower
 by_cases h:65≤c∧c≤90
 ·have h':65≤c.toNat∧c.toNat≤90:=by simpa[UInt8.le_iff_toNat_le] using h
  rw[if_pos h,if_pos (by omega),UInt8.toNat_add]
  simp;omega
 ·have h':¬(65≤c.toNat∧c.toNat≤90):=by simpa[UInt8.le_iff_toNat_le] using h
  rw[if_neg h,if_neg (by omega)]
open Go.RowKit
theorem letter_any (c:UInt8) (w:World):Calls prog 164 #[.int .u8 c.toNat] w λe w'=>e=.returned (.bool (isLetter c))∧w=w':=by
 go_enter func164,ntmps164
 go_wp2
 all_goals go_ret
 all_goals exact⟨ret_bool (by rw[letter_eq,Bool.eq_iff_iff];simp;omega),rfl⟩
theorem tokc_any (c:UInt8) (w:World):Calls prog 217 #[.int .u8 c.toNat] w λe w'=>e=.returned (.bool (isTok c))∧w=w':=by
 cases hl:isLetter c
 all_goals have hl':=hid hl
 all_goals clear hl
 all_goals
  go_enter func217,ntmps217
  go_wp2_with (first | (go_at_call 164;refine (letter_any c _).mono ?_;rintro e w' ⟨rfl,rfl⟩;rw[hl'.out]) | (go_at_call 218;refine (Tryz.strings_IndexByte _ _ _).mono ?_;rintro e w' ⟨rfl,rfl⟩))
  go_ret
 ·exact⟨ret_bool (by rw[isTok,hl'.out];exact indexByte_nonneg marksL c),rfl⟩
 ·exact⟨ret_bool (by rw[isTok,hl'.out];rfl),rfl⟩
theorem valc_any (c:UInt8) (w:World):Calls prog 177 #[.int .u8 c.toNat] w λe w'=>e=.returned (.bool (isVal c))∧w=w':=by
 have hv:=hid (val_eq c)
 go_enter func177,ntmps177
 go_wp2
 all_goals go_ret
 all_goals exact⟨ret_bool (by rw[hv.out,Bool.eq_iff_iff];simp;omega),rfl⟩
theorem every_any (g:Nat) (p:UInt8→Bool) (eg:∀ args w,(callFunc g args).run prog w=.ok (.enter g args) w)
  (hp:∀ c w,Calls prog g #[.int .u8 c.toNat] w λe w'=>e=.returned (.bool (p c))∧w=w')
  (l:List UInt8) (w:World) (hl:l.length≤9223372036854775807) :
  Calls prog 176 #[.string ⟨l.toArray⟩,.func (.func g) #[] #[]] w λe w'=>e=.returned (.bool (l.all p))∧w=w':=by
 have hp':=hid hp
 clear hp
 go_enter func176,ntmps176
 go_wp2
 go_loop [5,8] (λ_ i=>∃ k:Nat,k≤l.length∧i=.int .i64 k∧(l.take k).all p=true) (λ_ i=>l.length - (intOf i).toNat)
 case atStart=>exact⟨0,Nat.zero_le _,rfl,rfl⟩
 case round =>
  obtain⟨k,hk,rfl,hall⟩:=hrel
  have hall':=hid hall
  clear hall
  by_cases hlt:k<l.length
  ·cases hpk:p l[k]
   all_goals have hpk':=hid hpk
   all_goals clear hpk
   all_goals go_wp2_with (refine (hp'.out l[k] _).mono ?_;rintro e w' ⟨rfl,rfl⟩;rw[hpk'.out])
   ·go_ret
    exact⟨ret_bool (all_false hlt hpk'.out).symm,rfl⟩
   ·go_round
    case rel=>exact⟨k+1,by omega,by go_num,all_take_succ hall'.out hlt hpk'.out⟩
    case measure=>simp[intOf];omega
  ·go_wp2
   go_ret
   exact⟨ret_bool (by rw[←hall'.out,List.take_of_length_le (by omega)]),rfl⟩
end Go.Proofs.YtadobobfjnmdlaaGreatDoor
namespace Go
open Go.RowKit
structure Ch (T:Nat→Prop) (w w':World):Prop where
 os:w'.os=w.os
 tape:w'.tape=w.tape
 output:w'.output=w.output
 size:w.heap.size≤w'.heap.size
 block:∀ k,k<w.heap.size→¬T k→w'.heap[k]?=w.heap[k]?
theorem Ch.refl (T:Nat→Prop) (w:World):Ch T w w:=⟨rfl,rfl,rfl,Nat.le_refl _,λ_ _ _=>rfl⟩
theorem Ch.trans {T:Nat→Prop} {a b c:World} (h:Ch T a b) (k:Ch T b c):Ch T a c :=
 ⟨k.os.trans h.os,k.tape.trans h.tape,k.output.trans h.output,Nat.le_trans h.size k.size,
  λi hi ht=>(k.block i (Nat.lt_of_lt_of_le hi h.size) ht).trans (h.block i hi ht)⟩
theorem Ch.mono {T T':Nat→Prop} {a b:World} (h:Ch T a b) (ht:∀ k,T k→T' k):Ch T' a b :=
 ⟨h.os,h.tape,h.output,h.size,λk hk hn=>h.block k hk (λe=>hn (ht k e))⟩
theorem Ch.of_below {T:Nat→Prop} {B:Nat} {a b:World} (h:Below B a b) (ht:∀ k,B≤k→k<a.heap.size→T k):Ch T a b :=
 ⟨h.os,h.tape,h.output,h.size,λk hk hn=>h.block k (by
  rcases Nat.lt_or_ge k B with h' | h'
  ·exact h'
  ·exact absurd (ht k h' hk) hn)⟩
theorem Ch.below {T:Nat→Prop} {B:Nat} {a b:World} (h:Ch T a b) (hB:B≤a.heap.size) (ht:∀ k,T k→B≤k):Below B a b :=
 ⟨h.os,h.tape,h.output,h.size,λk hk=>h.block k (by omega) (λe=>by have:=ht k e;omega)⟩
theorem Ch.cell {T:Nat→Prop} {a b:World} (h:Ch T a b) {p:Addr} (hp:p.block<a.heap.size) (ht:¬T p.block):b.cell? p=a.cell? p :=
 World.cell?_of_block (h.block _ hp ht)
theorem Ch.frozen {T:Nat→Prop} {a b:World} (h:Ch T a b) {p:Addr} (hp:p.block<a.heap.size) (ht:¬T p.block):b.frozen? p=a.frozen? p :=
 World.frozen?_of_block (h.block _ hp ht)
theorem Ch.alloc (T:Nat→Prop) (w:World) (o:Obj):Ch T w (w.alloc o) :=
 ⟨rfl,rfl,rfl,by simp,λk hk _=>Below.heap_alloc _ _ _ hk⟩
theorem Ch.setCell {T:Nat→Prop} (w:World) {a:Addr} (ht:T a.block) (v:Value):Ch T w (w.setCell a v) :=
 ⟨rfl,rfl,rfl,by simp[World.setCell],λk _ hn=>Below.heap_setCell _ _ _ _ (λe=>hn (e▸ht))⟩
theorem Ch.drew (T:Nat→Prop) (w:World):Ch T w w.drew:=⟨rfl,rfl,rfl,Nat.le_refl _,λ_ _ _=>rfl⟩
theorem Ch.putObj {T:Nat→Prop} (w:World) {l:Nat} (ht:T l) (o:Obj):Ch T w (w.putObj l o) :=
 ⟨(grownBy_putObj' w l o).os,(grownBy_putObj' w l o).tape,(grownBy_putObj' w l o).output,(grownBy_putObj' w l o).size,
  λk hk hn=>(grownBy_putObj' w l o).block k hk (λe=>hn (by cases e;exact ht))⟩
theorem Ch.get {T:Nat→Prop} {a b:World} (h:Ch T a b) {k:Nat} {o:Obj} (hk:a.heap[k]?=some o) (ht:¬T k):b.heap[k]?=some o :=
 (h.block k (Array.getElem?_eq_some_iff.1 hk).1 ht).trans hk
theorem run_equalIn_func_nil {P:Program} (w:World) (d:Nat) {t:TypeId} {a b:Array TypeId} {v:Bool} (ht:P.underlying t=some (.func a b v)) (f:Fn) (x c:Array Value) :
  (Op.equalIn (d+1) t (.func f x c) .nilFunc).run P w=.ok false w:=by
 simp[Op.equalIn,run_underlying ht]
theorem run_eql_func_nil {P:Program} (w:World) {t:TypeId} {a b:Array TypeId} {v:Bool} (ht:P.underlying t=some (.func a b v)) (f:Fn) (x c:Array Value) :
  (binOp .eql t (.func f x c) .nilFunc).run P w=.ok (.bool false) w:=by
 simp only[binOp]
 simp[Op.equal,Op.maxDepth,run_equalIn_func_nil w 9999 ht f x c]
theorem cell_set_same {w:World} {a:Addr} {u v:Value} (h:w.cell? a=some u):(w.setCell a v).cell? a=some v:=by
 rw[World.cell?_setCell_same' _ _ _ (by rw[h];rfl)]
theorem cell_set_other {w:World} {a b:Addr} {u v:Value} (h:w.cell? b=some u) (hn:a.block≠b.block):(w.setCell a v).cell? b=some u:=by
 unfold World.cell? at h ⊢
 rw[Below.heap_setCell _ _ _ _ (λe=>hn e.symm)];exact h
theorem frozen_set {w:World} {a b:Addr} {v:Value}:(w.setCell a v).frozen? b=w.frozen? b:=by rw[World.frozen?_setCell]
theorem cell_lt {w:World} {a:Addr} {v:Value} (h:w.cell? a=some v):a.block<w.heap.size:=by
 unfold World.cell? at h
 rcases Nat.lt_or_ge a.block w.heap.size with h' | h'
 ·exact h'
 ·rw[Array.getElem?_eq_none h'] at h;cases h
structure Later (C:World→Prop) where
 w:World
 ok:C w
theorem wp_region_later {P:Program} {C:World→Prop} {id:Nat} {Q:Exit→Act→World→Prop} {a:Act} {w:World} {l:List Oper} (hm:P.follows .mixedOrders=true) (hB:Region.lexB .any l.toArray=true)
  (hC:C w.drew) (h:wpQuiet P l.toArray (λw'=>∃ x:Later C,w'=x.w) (λa'=>∀ w',C w'→Q .normal a' w') l a):(Code.region id l.toArray true).wp P Q a w:=by
 have e:(λw'=>∃ x:Later C,w'=x.w)=C:=funext λw'=>propext ⟨λ⟨x,hx⟩=>hx▸x.ok,λh=>⟨⟨w',h⟩,rfl⟩⟩
 rw[e] at h
 exact wp_region_quiet hm hB hC (by simpa using h)
section tail
variable {P:Program} {ops:Array Oper} {md:Region.Mode} {C:World→Prop}
def headQ (P:Program) (md:Region.Mode) (ops:Array Oper) (C:World→Prop) (n:Nat) (L:Array Bool→Act→Prop):Nat→Array Bool→Act→Prop
 | 0,listed,a=>L listed a
 | f+1,listed,a=>Region.ready md ops listed≠[]∧∀ i∈Region.ready md ops listed,i<n∧qOp P ops C i (headQ P md ops C n L f (listed.setIfInBounds i true)) a
theorem any_of_headQ {n g:Nat} {L:Array Bool→Act→Prop} {Q':Exit→Act→World→Prop} (hL:∀ listed a w,C w→L listed a→wpAny P md ops Q' g listed a w) :
  ∀ (f:Nat) (listed:Array Bool) (a:Act) (w:World),C w→headQ P md ops C n L f listed a→wpAny P md ops Q' (f+g) listed a w
 | 0,_,_,_,hw,h=>by rw[Nat.zero_add];exact hL _ _ _ hw h
 | f+1,_,_,_,hw,h=>by
  rw[show f+1+g=(f+g)+1 by omega]
  exact⟨λe=>absurd e h.1,λi hi=>wpOp_of_qOp hw (λ_ _ hw' h'=>any_of_headQ hL f _ _ _ hw' h') (h.2 i hi).2⟩
theorem headQ_first {n i:Nat} {oi:Oper} {v:Value} {L:Array Bool→Act→Prop} (hi:ops[i]?=some oi) (hsel:∀ (j:Nat) (o:Oper) cs b,ops[j]?=some o→o.op≠.select cs b)
  (hs:Region.sinkB md ops n=true) (hc:Region.chainB md ops n=true) (hn:n<ops.size) (hin:i<n) (hdone:∀ listed a,L listed a→∀ j∈Region.ready md ops listed,n≤j) :
  ∀ (f:Nat) (listed:Array Bool) (a:Act),HeadInv md ops n listed →
   (∀ j oj,ops[j]?=some oj→j≠i→listed.getD j true=false→(∀ e∈oj.after,Region.binds md e=true→e.on≠i)→oi.apart ops oj=true) →
   i∈Region.ready md ops listed→YieldsIn P ops C oi v a→headQ P md ops C n L f (listed.setIfInBounds i true) (a.put oi.dst v)→headQ P md ops C n L (f+1) listed a:=by
 intro f
 induction f with
 | zero =>
  intro listed a inv _ hr hy H
  have hun:=(mem_ready.1 hr).1
  refine⟨λe=>(by rw[e] at hr;cases hr),λj hj=>?_⟩
  have hjn:j<n:=Nat.lt_of_not_le λhle=>tail_waits hs hc hn inv _ i rfl hin hun j hle hj
  by_cases hji:j=i
  ·subst hji;exact⟨hjn,hy.qOp hi H⟩
  ·have:=hdone _ _ H j (ready_mono hj hji);omega
 | succ f ih =>
  intro listed a inv hfree hr hy H
  have hun:=(mem_ready.1 hr).1
  refine⟨λe=>(by rw[e] at hr;cases hr),λj hj=>?_⟩
  have hjn:j<n:=Nat.lt_of_not_le λhle=>tail_waits hs hc hn inv _ i rfl hin hun j hle hj
  by_cases hji:j=i
  ·subst hji;exact⟨hjn,hy.qOp hi H⟩
  ·obtain⟨hjun,oj,hoj,hall⟩:=mem_ready.1 hj
   have hnot:∀ e∈oj.after,Region.binds md e=true→e.on≠i:=λe he hb heq=>by
    have h1:=hall e he hb
    rw[heq,getD_both hun] at h1
    cases h1
   have h2:=qOp_put hoj (hfree j oj hoj hji hjun hnot) (λcs b=>hsel i oi cs b hi) (λcs b=>hsel j oj cs b hoj) hy (H.2 j (ready_mono hj hji)).2
   refine⟨hjn,qOp_mono (λa' h3=>ih _ a' (inv.set hj hjn) (λk ok hk hki hku hno=>hfree k ok hk hki ?_ hno) (ready_mono hr (Ne.symm hji)) h3.1 ?_) h2⟩
   ·by_cases hjk:j=k
    ·subst hjk;exact hjun
    ·rwa [getD_set_ne true hjk] at hku
   ·rw[Array.setIfInBounds_comm _ _ hji];exact h3.2
theorem headQ_lex {n g:Nat} {Lq:Act→Prop} (hsel:Region.noSelect ops=true) (hs:Region.sinkB md ops n=true) (hc:Region.chainB md ops n=true) (hn:n<ops.size) :
  ∀ (l:List Oper) (k:Nat) (listed:Array Bool) (a:Act),(∀ j,j<l.length→l[j]?=ops[k+j]?)→k+l.length=n→HeadInv md ops n listed →
  Region.lexHead md ops g l.length k listed=true→wpQuiet P ops C Lq l a →
  headQ P md ops C n (λlisted' a'=>Region.seqB md ops g n listed'=true∧Lq a') l.length listed a
 | [],k,listed,a,_,hk,_,hB,h=>by
  obtain rfl:k=n:=by simpa using hk
  exact⟨by simpa[Region.lexHead] using hB,h⟩
 | o :: l,k,listed,a,hl,hk,inv,hB,h=>by
  have h0:ops[k]?=some o:=by simpa using (hl 0 (by simp)).symm
  simp only[List.length_cons,Region.lexHead,Bool.and_eq_true] at hB
  have hkn:k<n:=by simp only[List.length_cons] at hk;omega
  have hr':k∈Region.ready md ops listed:=by simpa using hB.1.1
  obtain⟨v,hy,hK⟩:=yieldsIn_of_qOp h0 (show qOp P ops C k (wpQuiet P ops C Lq l) a by unfold qOp;simp only[h0];exact h)
  exact headQ_first h0 (Region.noSelect_spec hsel) hs hc hn hkn (λ_ _ hL=>seqB_ready hL.1) l.length listed a inv (Region.free_spec h0 hB.1.2) hr' hy
   (headQ_lex hsel hs hc hn l (k+1) _ _ (λj hj=>by have:=hl (j+1) (by simp;omega);simpa[Nat.add_assoc,Nat.add_comm 1 j] using this) (by simp only[List.length_cons] at hk;omega) (inv.set hr' hkn) hB.2 hK)
end tail
theorem wp_region_later_tail {P:Program} {C:World→Prop} {id:Nat} {Q:Exit→Act→World→Prop} {a:Act} {w:World} {l:List Oper} (n:Nat) (hm:P.follows .mixedOrders=true) (hB:Region.lexTailB .any l.toArray n=true)
  (hC:C w.drew) (h:wpQuiet P l.toArray (λw'=>∃ x:Later C,w'=x.w) (λa'=>∀ w',C w'→wpList P l.toArray Q (l.drop n) a' w') (l.take n) a):(Code.region id l.toArray true).wp P Q a w:=by
 have e:(λw'=>∃ x:Later C,w'=x.w)=C:=funext λw'=>propext ⟨λ⟨x,hx⟩=>hx▸x.ok,λh=>⟨⟨w',h⟩,rfl⟩⟩
 rw[e] at h
 simp only[Region.lexTailB,Bool.and_eq_true,decide_eq_true_eq] at hB
 obtain⟨⟨⟨⟨hsel,hn⟩,hs⟩,hc⟩,hlex⟩:=hB
 have hn':n<l.length:=by simpa using hn
 have htl:(l.take n).length=n:=by simp;omega
 have hdl:(l.drop n).length=l.toArray.size - n:=by simp
 have inv0:HeadInv .any l.toArray n (Array.replicate l.toArray.size false) :=
  ⟨by simp,λj oj _ hl=>(by rw[getD_replicate_false] at hl;cases hl),λt _ ht=>getD_in (by simpa using ht) (getD_replicate_false _ _)⟩
 have H:=headQ_lex (md:=.any) (g:=l.toArray.size - n) hsel hs hc hn (l.take n) 0 _ a (λj hj=>by
  have hj':j<n:=by rw[htl] at hj;exact hj
  simp[hj']) (by simpa using htl) inv0 (by rw[htl];exact hlex) h
 refine wp_region_any hm ?_
 have:=any_of_headQ (Q':=Q) (g:=l.toArray.size - n) (λlisted a' w' hw' hL=>by
  have:=wpAny_of_seq (md:=.any) (Q':=Q) (l.drop n) n listed a' w' (λj=>by simp[List.getElem?_drop]) (by rw[hdl];exact hL.1) (hL.2 w' hw')
  rwa [hdl] at this) _ _ _ _ hC H
 rw[htl,show n+(l.toArray.size - n)=l.toArray.size by omega] at this
 exact this
theorem Calls.later {P:Program} {C:World→Prop} {f:FuncId} {args:Array Value} {w:World} {v:Value}
  (h:Calls P f args w λe w'=>e=.returned v∧C w'):Calls P f args w λe w''=>e=.returned v∧∃ y:Later C,w''=y.w :=
 h.mono λ_ w' ⟨he,hc⟩=>⟨he,⟨w',hc⟩,rfl⟩
def Gr (w0 w':World):Prop:=Below w0.heap.size w0 w'
theorem Gr.refl (w:World):Gr w w:=Below.refl _ _
theorem Gr.drew' (w:World):Gr w w.drew:=(Below.refl _ _).drew
theorem Gr.trans {a b c:World} (h:Gr a b) (k:Gr b c):Gr a c:=Below.trans h (Below.mono k (Below.size h))
theorem Gr.of_eq {a b:World} (h:b=a):Gr a b:=h▸Gr.refl _
theorem Gr.cell {a b:World} (h:Gr a b) {p:Addr} {v:Value} (hp:a.cell? p=some v):b.cell? p=some v:=by
 have:p.block<a.heap.size:=by
  unfold World.cell? at hp
  rcases Nat.lt_or_ge p.block a.heap.size with h' | h'
  ·exact h'
  ·rw[Array.getElem?_eq_none h'] at hp;cases hp
 exact (Below.cell h this).trans hp
theorem Gr.bcell {W w1:World} (hb:Gr W w1):(∀ b o,b<W.heap.size→w1.cell? ⟨b,o,none⟩=W.cell? ⟨b,o,none⟩)∧(∀ b o,b<W.heap.size→w1.frozen? ⟨b,o,none⟩=W.frozen? ⟨b,o,none⟩) :=
 ⟨λb o h=>Below.cell (p:=⟨b,o,none⟩) hb h,λb o h=>Below.frozen (p:=⟨b,o,none⟩) hb h⟩
theorem Gr.setCell {w W:World} (h:Gr w W) {p:Addr} (hp:w.heap.size≤p.block) (u:Value):Gr w (W.setCell p u):=Below.setCell h hp u
theorem Gr.drew {w W:World} (h:Gr w W):Gr w W.drew:=Below.drew h
theorem Gr.alloc1 {w W:World} (h:Gr w W) (o:Obj):Gr w (W.alloc o):=Below.alloc h (Below.size h) o
theorem Gr.alloc (w:World) (o:Obj):Gr w (w.alloc o):=(Below.refl _ _).alloc (Nat.le_refl _) o
theorem Gr.ch {T:Nat→Prop} {w A B:World} (h:Gr w A) (k:Ch T A B) (ht:∀ k,T k→w.heap.size≤k):Gr w B:=Below.trans h (k.below (Below.size h) ht)
theorem Gr.to_ch {w A:World} (T:Nat→Prop) (h:Gr w A):Ch T w A:=Ch.of_below (B:=w.heap.size) h (λ_ hk hk2=>absurd hk2 (Nat.not_lt.2 hk))
abbrev YAt (P:Program) (l:Nat) (args:Array Value) (W:World) (R:Ending→World→Prop):Prop:=YieldAt Fence.wide 0 P l args W R
def IterC {α:Type} (P:Program) (gf:Nat) (lb:Array Value) (encs:α→Array Value) (xs:List α) (T:Nat→Prop) (own:Nat) (Gp:World→Prop) (W0:World):Prop :=
 ∀ (W:World) (l:Nat) (J Jx:List α→World→Prop) (U:Nat→Prop),
  W0.heap.size≤W.heap.size→(∀ k,T k→W.heap[k]?=W0.heap[k]?) →
  (∀ k,U k→(k<W.heap.size∨W.heap.size+own≤k)∧¬T k) →
  (∀ pre A B,J pre A→Ch (λk=>T k∨(W.heap.size≤k∧k<W.heap.size+own)) A B→J pre B) →
  (∀ pre A B,Jx pre A→Ch (λk=>T k∨(W.heap.size≤k∧k<W.heap.size+own)) A B→Jx pre B) →
  (∀ pre A,J pre A→Gp A) →
  (∀ pre x rest A,xs=pre++x :: rest→W.heap.size+own≤A.heap.size→J pre A→YAt P l (encs x) A λe B =>
   (e=.returned (.bool true)∧J (pre++[x]) B∧Ch U A B)∨(e=.returned (.bool false)∧Jx (pre++[x]) B∧Ch U A B)) →
  J [] W →
  CallsIn Fence.wide 0 P gf (#[.func (.yield l) #[] #[]]++lb) W λe W'=>e=.returned (.tuple #[])∧(J xs W'∨∃ pre,pre <+: xs∧Jx pre W')
def rPost {α:Type} (U:Nat→Prop) (I:List α→World→Prop) (Ix:Code→List α→World→Prop) (xs:List α) (W:World):Exit→Act→World→Prop
 | .normal,_,W'=>Ch U W W'∧I xs W'
 | .ret,_,W'=>Ch U W W'∧Ix .ret xs W'
 | .exit id,_,W'=>Ch U W W'∧Ix (.exit id) xs W'
 | .goto t,_,W'=>Ch U W W'∧Ix (.goto t) xs W'
 | .panic _,_,_=>False
 | .outgrown,_,_=>False
theorem wpIn_range {α:Type} {P:Program} {g:Operand} {ps:Array Tmp} {assign body:Code} {Q:Exit→Act→World→Prop} {a:Act} {w:World}
  {gf:Nat} {lb:Array Value} (hg:a.eval g=.func (.func gf) #[] lb) (eg:∀ args w,(callFunc gf args).run P w=.ok (.enter gf args) w)
  {encs:α→Array Value} {xs:List α} {T:Nat→Prop} {own:Nat} {Gp:World→Prop} {W0:World} (hit:IterC P gf lb encs xs T own Gp W0)
  (hW0:W0.heap.size≤w.heap.size) (hT:∀ k,T k→k<w.heap.size∧w.heap[k]?=W0.heap[k]?) (hps:∀ x,(encs x).size=ps.size)
  (I:List α→World→Prop) (Ix:Code→List α→World→Prop) (U:Nat→Prop) (hU:∀ k,U k→(k<w.heap.size∨w.heap.size+2+own≤k)∧¬T k)
  (hI:∀ pre A B,I pre A→Ch (λk=>T k∨(w.heap.size≤k∧k<w.heap.size+2+own)) A B→I pre B)
  (hIx:∀ c pre A B,Ix c pre A→Ch (λk=>T k∨(w.heap.size≤k∧k<w.heap.size+2+own)) A B→Ix c pre B)
  (hIG:∀ pre A,I pre A→Gp A) (h0:I [] w)
  (hround:∀ (l:Nat) (pre:List α) (x:α) (rest:List α) (A:World),(w.heap.size+1≤l∧l≤w.heap.size+1)→w.heap.size+2+own≤A.heap.size→xs=pre++x :: rest→I pre A →
   assign.wpIn (Fence.wide.inRound l) 0 P (Exit.then (λa₁ A₁=>Ch U A A₁∧∀ A₂,Ch (·=l) A₁ A₂→body.wpIn (Fence.wide.inRound l) 0 P (rPost U I Ix (pre++[x]) A₂) a₁ A₂) (λ_ _ _=>False))
    { tmps:=(ps.zip (encs x)).foldl (λt (p,v)=>t.setIfInBounds p v) a.tmps,defers:=[] } A)
  (hdone:∀ (D:Nat) (W:World),(w.heap.size≤D∧D≤w.heap.size)→I xs W→W.heap[D]?=some (.deferred (some []))→Q .normal { a with defers:={ target:=.collected D,args:=#[] } :: a.defers } W)
  (hstop:∀ (D:Nat) (c:Code) (pre:List α) (W:World),(w.heap.size≤D∧D≤w.heap.size)→pre <+: xs→Ix c pre W→W.heap[D]?=some (.deferred (some []))→c.wpIn Fence.wide 0 P Q { a with defers:={ target:=.collected D,args:=#[] } :: a.defers } W) :
  (Code.rangeFunc g ps assign body).wpIn Fence.wide 0 P Q a w:=by
 refine wpIn_rangeFunc ?_
 intro fn hfn
 rw[show Fence.wide.round=none from rfl]
 obtain⟨rec,hrec⟩:∃ rec:LoopState→Option Code→Loop,rec=λst pe=>{ state:=st,pending:=pe,fn,tmps:=a.tmps,params:=ps,assign,body,defers:=w.heap.size }:=⟨_,rfl⟩
 obtain⟨W1,hW1⟩:∃ W1,(w.alloc (.deferred (some []))).alloc (.loop (rec .ready none))=W1:=⟨_,rfl⟩
 have hL1:W1.heap[w.heap.size+1]?=some (.loop (rec .ready none)):=by
  rw[←hW1];have:=World.alloc_heap_new (w.alloc (.deferred (some []))) (.loop (rec .ready none));rwa [World.size_alloc] at this
 have hK1:W1.heap[w.heap.size]?=some (.deferred (some [])):=by
  rw[←hW1];exact (Below.heap_alloc _ _ _ (by simp)).trans (World.alloc_heap_new w _)
 have hch1:∀ T',Ch T' w W1:=λT'=>by rw[←hW1];exact (Ch.alloc _ _ _).trans (Ch.alloc _ _ _)
 have hs1:W1.heap.size=w.heap.size+2:=by rw[←hW1];simp
 have hI1:I [] W1:=hI _ _ _ h0 (hch1 _)
 have hTl:∀ k,w.heap.size≤k→¬T k:=λk hk ht=>by have:=(hT k ht).1;omega
 have hUl:∀ k,w.heap.size≤k→k<w.heap.size+2→¬U k:=λk hk hk2 ht=>by have:=(hU k ht).1;omega
 refine⟨w.heap.size+1,[{ target:=.collected w.heap.size,args:=#[] }],W1,{ target:=.fn (.func gf) lb,args:=#[.func (.yield (w.heap.size+1)) #[] #[]] },W1,gf,
  #[.func (.yield (w.heap.size+1)) #[] #[]]++lb,W1,?_,?_,λ_ _=>trivial,?_,λh=>by simp[Fence.wide] at h,?_⟩
 ·rw[←hW1,hrec];exact run_enterLoop_outer _ _ _ _ _
 ·simp only[resolve,hg]
  simp[go_sem]
 ·simp[invoke,go_sem,eg]
 ·-- the two blocks of book-keeping stay under the iterator's own steps
  have bk:∀ {A B:World} {o:Obj} {k:Nat},w.heap.size≤k→k<w.heap.size+2→A.heap[k]?=some o→Ch (λk=>T k∨(W1.heap.size≤k∧k<W1.heap.size+own)) A B→B.heap[k]?=some o:=fun {A B o k} h1 h2 h3 h4 =>
   h4.get h3 (λe=>by
    rcases e with e | e
    ·exact hTl _ h1 e
    ·rw[hs1] at e;omega)
  have wid:∀ {A B:World},Ch (λk=>T k∨(W1.heap.size≤k∧k<W1.heap.size+own)) A B→Ch (λk=>T k∨(w.heap.size≤k∧k<w.heap.size+2+own)) A B:=λh =>
   h.mono (λk hk=>by rcases hk with hk | hk;exact .inl hk;exact .inr (by rw[hs1] at hk;omega))
  refine (hit W1 (w.heap.size+1)
   (λpre W=>I pre W∧W.heap[w.heap.size+1]?=some (.loop (rec .ready none))∧W.heap[w.heap.size]?=some (.deferred (some [])))
   (λpre W=>∃ c,Ix c pre W∧W.heap[w.heap.size+1]?=some (.loop (rec .done (some c)))∧W.heap[w.heap.size]?=some (.deferred (some [])))
   (λk=>U k∨k=w.heap.size+1)
   (by rw[hs1];omega) (λk hk=>((hch1 (λ_=>False)).block k (hT k hk).1 (λh=>h)).trans (hT k hk).2)
   (λk hk=>by
    rcases hk with hk | hk
    ·exact⟨by have:=(hU k hk).1;rw[hs1];omega,(hU k hk).2⟩
    ·subst hk;exact⟨by rw[hs1];omega,hTl _ (Nat.le_succ _)⟩)
   (λpre A B hs hc=>⟨hI _ _ _ hs.1 (wid hc),bk (Nat.le_succ _) (by omega) hs.2.1 hc,bk (Nat.le_refl _) (by omega) hs.2.2 hc⟩)
   (λpre A B hs hc=>by
    obtain⟨c,hc1,hc2,hc3⟩:=hs
    exact⟨c,hIx _ _ _ _ hc1 (wid hc),bk (Nat.le_succ _) (by omega) hc2 hc,bk (Nat.le_refl _) (by omega) hc3 hc⟩)
   (λpre A hs=>hIG _ _ hs.1) ?_ ⟨hI1,hL1,hK1⟩).mono ?_
  ·-- one round
   rintro pre x rest A hxs hsA⟨hi,hl,hk⟩
   have hlt:w.heap.size+1<A.heap.size:=(Array.getElem?_eq_some_iff.1 hl).1
   have hy:=run_yield (P:=P) (args:=encs x) hl (by rw[hrec];exact hps x)
   rw[hrec] at hy
   refine⟨fn,_,assign,body,hy,roundIn_of_wpIn hfn ?_⟩
   clear hy
   refine wpIn_mono (hround (w.heap.size+1) pre x rest A ⟨Nat.le_refl _,Nat.le_refl _⟩ (by rw[hs1] at hsA;exact hsA) hxs hi) ?_
   rintro e a₁ A₁ he
   cases e with
   | normal =>
    obtain⟨hch,hbody⟩:=he
    have hl':A₁.heap[w.heap.size+1]?=some (.loop (rec .ready none)):=hch.get hl (hUl _ (Nat.le_succ _) (by omega))
    have hk':A₁.heap[w.heap.size]?=some (.deferred (some [])):=hch.get hk (hUl _ (Nat.le_refl _) (by omega))
    have hlt':w.heap.size+1<A₁.heap.size:=(Array.getElem?_eq_some_iff.1 hl').1
    refine⟨_,run_beginRound hl' (by rw[hrec]),?_⟩
    refine wpIn_mono (hbody _ (Ch.putObj (T:=λk=>k=w.heap.size+1) _ rfl _)) ?_
    have hl2:(A₁.putObj (w.heap.size+1) (.loop { rec .ready none with state:=.busy })).heap[w.heap.size+1]?=some (.loop { rec .ready none with state:=.busy }):=World.putObj_heap_same hlt'
    have hk2:(A₁.putObj (w.heap.size+1) (.loop { rec .ready none with state:=.busy })).heap[w.heap.size]?=some (.deferred (some [])):=(World.putObj_heap_other (by omega)).trans hk'
    have fin:∀ (jump:Option Code) (W3:World),Ch U (A₁.putObj (w.heap.size+1) (.loop { rec .ready none with state:=.busy })) W3 →
      (Instr.endRound (w.heap.size+1) jump).run P W3=.ok (.bool jump.isNone) (W3.putObj (w.heap.size+1) (.loop (rec (if jump.isNone then .ready else .done) jump))) ∧
      (W3.putObj (w.heap.size+1) (.loop (rec (if jump.isNone then .ready else .done) jump))).heap[w.heap.size+1]?=some (.loop (rec (if jump.isNone then .ready else .done) jump)) ∧
      (W3.putObj (w.heap.size+1) (.loop (rec (if jump.isNone then .ready else .done) jump))).heap[w.heap.size]?=some (.deferred (some [])) ∧
      Ch (λk=>U k∨k=w.heap.size+1) A (W3.putObj (w.heap.size+1) (.loop (rec (if jump.isNone then .ready else .done) jump))) ∧
      Ch (λk=>T k∨(w.heap.size≤k∧k<w.heap.size+2+own)) W3 (W3.putObj (w.heap.size+1) (.loop (rec (if jump.isNone then .ready else .done) jump))):=λjump W3 hk3=>by
     have hl3:W3.heap[w.heap.size+1]?=some (.loop { rec .ready none with state:=.busy }):=hk3.get hl2 (hUl _ (Nat.le_succ _) (by omega))
     have:=run_endRound (P:=P) jump hl3
     rw[hrec] at this ⊢
     exact⟨this,World.putObj_heap_same (Array.getElem?_eq_some_iff.1 hl3).1,(World.putObj_heap_other (by omega)).trans (hk3.get hk2 (hUl _ (Nat.le_refl _) (by omega))),
      (((hch.mono (λ_ h=>.inl h)).trans (Ch.putObj _ (.inr rfl) _)).trans (hk3.mono (λ_ h=>.inl h))).trans (Ch.putObj _ (.inr rfl) _),Ch.putObj _ (.inr ⟨Nat.le_succ _,by omega⟩) _⟩
    rintro e a3 W3 hp
    cases e with
    | normal =>
     obtain⟨hk3,hi3⟩:=hp
     obtain⟨hr,hl4,hk4,hc4,ho4⟩:=fin none W3 hk3
     exact⟨_,_,hr,.inl ⟨rfl,⟨hI _ _ _ hi3 ho4,hl4,hk4⟩,hc4⟩⟩
    | ret =>
     obtain⟨hk3,hi3⟩:=hp
     obtain⟨hr,hl4,hk4,hc4,ho4⟩:=fin (some .ret) W3 hk3
     exact⟨_,_,hr,.inr ⟨rfl,⟨_,hIx _ _ _ _ hi3 ho4,hl4,hk4⟩,hc4⟩⟩
    | exit id =>
     obtain⟨hk3,hi3⟩:=hp
     obtain⟨hr,hl4,hk4,hc4,ho4⟩:=fin (some (.exit id)) W3 hk3
     exact⟨_,_,hr,.inr ⟨rfl,⟨_,hIx _ _ _ _ hi3 ho4,hl4,hk4⟩,hc4⟩⟩
    | goto t =>
     obtain⟨hk3,hi3⟩:=hp
     obtain⟨hr,hl4,hk4,hc4,ho4⟩:=fin (some (.goto t)) W3 hk3
     exact⟨_,_,hr,.inr ⟨rfl,⟨_,hIx _ _ _ _ hi3 ho4,hl4,hk4⟩,hc4⟩⟩
    | panic ch=>exact hp.elim
    | outgrown=>exact hp.elim
   | ret=>exact he.elim
   | exit id=>exact he.elim
   | goto t=>exact he.elim
   | panic ch=>exact he.elim
   | outgrown=>exact he.elim
  ·-- behind the iterator
   rintro e W2⟨rfl,(⟨hi,hl,hk⟩ | ⟨pre,hpre,c,hi,hl,hk⟩)⟩
   ·exact⟨none,_,by have:=run_endLoop (P:=P) hl (by rw[hrec];simp);rw[hrec] at this;exact this,hdone _ _ ⟨Nat.le_refl _,Nat.le_refl _⟩ (hI _ _ _ hi (Ch.putObj _ (.inr ⟨Nat.le_succ _,by omega⟩) _)) ((World.putObj_heap_other (by omega)).trans hk)⟩
   ·exact⟨some c,_,by have:=run_endLoop (P:=P) hl (by rw[hrec];simp);rw[hrec] at this;exact this,hstop _ c pre _ ⟨Nat.le_refl _,Nat.le_refl _⟩ hpre (hIx _ _ _ _ hi (Ch.putObj _ (.inr ⟨Nat.le_succ _,by omega⟩) _)) ((World.putObj_heap_other (by omega)).trans hk)⟩
end Go
namespace Go.Proofs.YtadobobfjnmdlaaGreatDoor
open Go.RowKit
structure G (w:World):Prop where
 max:∃ m,w.cell? ⟨0,0,none⟩=some (.int .i64 m)
 utf:Lib.Utf8Tabs 4 5 w
 pow:Lib.TabIs prog w "internal/strconv.uint64pow10" .u64 Lib.pow10Tab
 syn:∃ te pe,w.cell? ⟨2,0,none⟩=some (.iface te pe)
 rng:∃ te pe,w.cell? ⟨3,0,none⟩=some (.iface te pe)
theorem G.gr {w w':World} (h:G w) (hb:Gr w w'):G w' :=
 ⟨h.max.imp λ_ hm=>hb.cell hm,Utf8Tabs_below h.utf hb,Lib.tabBelow_of_tabIs h.pow w' hb,let ⟨te,pe,hs⟩:=h.syn;⟨te,pe,hb.cell hs⟩,let ⟨te,pe,hs⟩:=h.rng;⟨te,pe,hb.cell hs⟩⟩
theorem G.cells {w w':World} (h:G w) (hk:∀ g o u,g≤5→w.cell? ⟨g,o,none⟩=some u→w'.cell? ⟨g,o,none⟩=some u) (hp:w'.heap[(1:Nat)]?=w.heap[(1:Nat)]?):G w':=by
 refine⟨h.max.imp λ_ hm=>hk _ _ _ (by decide) hm,⟨λc hc=>hk _ _ _ (by decide) (h.utf.1 c hc),λi hi=>⟨hk _ _ _ (by decide) (h.utf.2 i hi).1,hk _ _ _ (by decide) (h.utf.2 i hi).2⟩⟩,?_,let ⟨te,pe,hs⟩:=h.syn;⟨te,pe,hk _ _ _ (by decide) hs⟩,let ⟨te,pe,hs⟩:=h.rng;⟨te,pe,hk _ _ _ (by decide) hs⟩⟩
 have hpow:=h.pow
 unfold Lib.TabIs World.var? at *
 have hg:prog.globalNamed "internal/strconv.uint64pow10"=some 1:=by kernel_rfl
 rw[hg] at hpow ⊢
 simp only[Option.bind_some] at hpow ⊢
 rw[hp]
 exact hpow
theorem G.lt {W:World} (h:G W):5<W.heap.size:=cell_lt (h.utf.2 0 (by decide)).1
theorem G.ch {w w':World} (h:G w) {T:Nat→Prop} (hc:Ch T w w') (hT:∀ g,g≤5→¬T g):G w' :=
 h.cells (λg o _ hg hu=>(hc.cell (p:=⟨g,o,none⟩) (cell_lt hu) (hT g hg)).trans hu) (hc.block _ (Nat.lt_trans (by decide) h.lt) (hT _ (by decide)))
