/-
  Things in memory: what a call on a thing leaves; blocks and whose they are.
-/
import Derived.Test.YtadobobfjnmdlaaGreatDoorP0
import Derived.Test.YtadobobfjnmdlaaGreatDoorLa
import Derived.Test.YtadobobfjnmdlaaGreatDoorRw
import Derived.Test.YtadobobfjnmdlaaGreatDoorP7
import Derived.IntWalk
import Derived.Lib.ItoaLen
import Derived.Lib.SlTrimSet
import Derived.Shelf.Strings.SlTrimAscii
import Derived.Test.YtadobobfjnmdlaaGreatDoorGd
import Derived.Test.YtadobobfjnmdlaaGreatDoorH
set_option linter.unusedVariables false
set_option linter.unusedSimpArgs false
set_option maxHeartbeats 16000000
set_option maxRecDepth 100000
open Go.Lib (hid)
namespace Go
open Go.RowKit
def New (W W':World) (k:Nat):Prop:=W.heap.size≤k∧k<W'.heap.size
def Add (T:Nat→Prop) (W W':World) (k:Nat):Prop:=T k∨New W W' k
def Pst {α:Type} (At:(Nat→Prop)→World→α→Prop) (T:Nat→Prop) (W:World) (x:α) (W':World):Prop:=At (Add T W W') W' x∧Ch T W W'
structure Kin {α:Type} (At:(Nat→Prop)→World→α→Prop):Prop where
 mono:∀ {T T':Nat→Prop} {W:World} {x:α},At T W x→(∀ k,T k→T' k)→(∀ k,T' k→k<W.heap.size)→At T' W x
 frame:∀ {T S:Nat→Prop} {W W':World} {x:α},At T W x→Ch S W W'→(∀ k,T k→¬S k)→At T W' x
 lt:∀ {T:Nat→Prop} {W:World} {x:α},At T W x→∀ k,T k→k<W.heap.size
theorem Ch.trans_new {T:Nat→Prop} {W W1 W2:World} (h:Ch T W W1) (k:Ch (Add T W W1) W1 W2):Ch T W W2 :=
 ⟨k.os.trans h.os,k.tape.trans h.tape,k.output.trans h.output,Nat.le_trans h.size k.size,fun j hj hn =>
  (k.block j (Nat.lt_of_lt_of_le hj h.size) (fun e=>e.elim hn (fun e=>absurd hj (Nat.not_lt.2 e.1)))).trans (h.block j hj hn)⟩
theorem Ch.drop_new {T:Nat→Prop} {W W1 W2:World} {S:Nat→Prop} (h:Ch T W W1) (k:Ch S W1 W2) (hs:∀ j,S j→T j∨W.heap.size≤j):Ch T W W2 :=
 ⟨k.os.trans h.os,k.tape.trans h.tape,k.output.trans h.output,Nat.le_trans h.size k.size,fun j hj hn =>
  (k.block j (Nat.lt_of_lt_of_le hj h.size) (fun e=>(hs j e).elim hn (fun e=>absurd hj (Nat.not_lt.2 e)))).trans (h.block j hj hn)⟩
theorem Kin.gr {α:Type} {At:(Nat→Prop)→World→α→Prop} (F:Kin At) {T:Nat→Prop} {W W':World} {x:α} (h:At T W x) (g:Gr W W'):At T W' x :=
 F.frame h (g.to_ch (fun _=>False)) (fun _ _ e=>e)
theorem Kin.wide {α:Type} {At:(Nat→Prop)→World→α→Prop} (F:Kin At) {T:Nat→Prop} {W W0:World} {x:α} (h:At T W x) (hs:W0.heap.size≤W.heap.size):At (Add T W0 W) W x :=
 F.mono h (fun _ e=>.inl e) (fun k e=>e.elim (F.lt h k) (fun e=>e.2))
theorem Kin.pst {α:Type} {At:(Nat→Prop)→World→α→Prop} (F:Kin At) {T:Nat→Prop} {W W':World} {x:α} (h:At T W' x) (c:Ch T W W'):Pst At T W x W':=⟨F.wide h c.size,c⟩
theorem Kin.of_gr {α:Type} {At:(Nat→Prop)→World→α→Prop} (F:Kin At) {T:Nat→Prop} {W W':World} {x:α} (h:At T W x) (g:Gr W W'):Pst At T W x W':=F.pst (F.gr h g) (g.to_ch T)
theorem Kin.trans {α:Type} {At:(Nat→Prop)→World→α→Prop} (F:Kin At) {T:Nat→Prop} {W W1 W2:World} {x y:α} (h:Pst At T W x W1) (k:Pst At (Add T W W1) W1 y W2):Pst At T W y W2:=by
 have s1:=h.2.size
 have s2:=k.2.size
 refine ⟨F.mono k.1 (fun j e=>?_) (fun j e=>?_),h.2.trans_new k.2⟩
 ·rcases e with (e | e) | e
  ·exact .inl e
  ·exact .inr ⟨e.1,Nat.lt_of_lt_of_le e.2 s2⟩
  ·exact .inr ⟨Nat.le_trans s1 e.1,e.2⟩
 ·rcases e with e | e
  ·exact Nat.lt_of_lt_of_le (F.lt h.1 j (.inl e)) s2
  ·exact e.2
theorem Kin.behind {α:Type} {At:(Nat→Prop)→World→α→Prop} (F:Kin At) {T:Nat→Prop} {W W1 W2:World} {x:α} (h:Pst At T W x W1) (g:Gr W1 W2):Pst At T W x W2:=F.trans h (F.of_gr h.1 g)
theorem Kin.ahead {α:Type} {At:(Nat→Prop)→World→α→Prop} (F:Kin At) {T:Nat→Prop} {W W1 W2:World} {x:α} (g:Gr W W1) (h:Pst At T W1 x W2):Pst At T W x W2:=by
 have s1:=Below.size g
 have s2:=h.2.size
 refine ⟨F.mono h.1 (fun j e=>?_) (fun j e=>?_),(g.to_ch T).trans h.2⟩
 ·rcases e with e | e
  ·exact .inl e
  ·exact .inr ⟨Nat.le_trans s1 e.1,e.2⟩
 ·rcases e with e | e
  ·exact F.lt h.1 j (.inl e)
  ·exact e.2
def recol (c:Nat→Nat) (W W':World) (j:Nat) (k:Nat):Nat:=if W.heap.size≤k∧k<W'.heap.size then j else c k
theorem recol_old {c:Nat→Nat} {W W':World} {j k:Nat} (h:k<W.heap.size):recol c W W' j k=c k:=by unfold recol;rw [if_neg (by omega)]
theorem recol_new {c:Nat→Nat} {W W':World} {j k:Nat} (h:W.heap.size≤k) (h2:k<W'.heap.size):recol c W W' j k=j:=by unfold recol;rw [if_pos ⟨h,h2⟩]
theorem recol_cases (c:Nat→Nat) (W W':World) (j k:Nat):(New W W' k∧recol c W W' j k=j)∨(¬New W W' k∧recol c W W' j k=c k):=by
 by_cases h:W.heap.size≤k∧k<W'.heap.size
 ·exact .inl ⟨h,by unfold recol;rw [if_pos h]⟩
 ·exact .inr ⟨h,by unfold recol;rw [if_neg h]⟩
theorem Kin.own {α:Type} {At:(Nat→Prop)→World→α→Prop} (F:Kin At) {c:Nat→Nat} {W W':World} {j:Nat} {x:α} (h:Pst At (fun k=>c k=j) W x W') (hc:∀ k,c k≠0→k<W.heap.size) (hj:j≠0):At (fun k=>recol c W W' j k=j) W' x:=by
 refine F.mono h.1 (fun k e=>?_) (fun k e=>?_)
 ·rcases e with e | e
  ·have e':c k=j:=e
   have:k<W.heap.size:=hc k (by rw [e'];exact hj)
   show recol c W W' j k=j
   rw [recol_old this];exact e
  ·exact recol_new e.1 e.2
 ·rcases recol_cases c W W' j k with ⟨h1,_⟩ | ⟨_,h2⟩
  ·exact h1.2
  ·have e':c k=j:=h2▸e
   exact Nat.lt_of_lt_of_le (hc k (by rw [e'];exact hj)) h.2.size
theorem Kin.rest {α:Type} {At:(Nat→Prop)→World→α→Prop} (F:Kin At) {c:Nat→Nat} {W W':World} {i j:Nat} {x:α} {S:Nat→Prop} (h:At (fun k=>c k=i) W x) (hc:Ch S W W') (hs:∀ k,S k→c k=j) (hij:i≠j) (hi:i≠0) (hl:∀ k,c k≠0→k<W.heap.size):At (fun k=>recol c W W' j k=i) W' x:=by
 refine F.mono (F.frame h hc (fun k e es=>?_)) (fun k e=>?_) (fun k e=>?_)
 ·exact hij ((show c k=i from e).symm.trans (hs k es))
 ·have e':c k=i:=e
  show recol c W W' j k=i
  rw [recol_old (hl k (by rw [e'];exact hi))];exact e
 ·rcases recol_cases c W W' j k with ⟨_,h2⟩ | ⟨_,h2⟩
  ·exact absurd ((show recol c W W' j k=i from e).symm.trans h2) hij
  ·have e':c k=i:=h2▸e
   exact Nat.lt_of_lt_of_le (hl k (by rw [e'];exact hi)) hc.size
theorem recol_lt {c:Nat→Nat} {W W':World} {j:Nat} (hl:∀ k,c k≠0→k<W.heap.size) (hs:W.heap.size≤W'.heap.size):∀ k,recol c W W' j k≠0→k<W'.heap.size:=by
 intro k e
 rcases recol_cases c W W' j k with ⟨h1,_⟩ | ⟨_,h2⟩
 ·exact h1.2
 ·exact Nat.lt_of_lt_of_le (hl k (by rw [h2] at e;exact e)) hs
end Go
namespace Go.Proofs.YtadobobfjnmdlaaGreatDoor
open Go.RowKit
attribute [local go_sem] Oper.semAt_some
theorem reason_ways (c:Int):c=101∨c=200∨c=400∨c=403∨c=404∨c=405∨c=413∨c=426∨c=431∨(((c==101)=false)∧((c==200)=false)∧((c==400)=false)∧((c==403)=false)∧((c==404)=false)∧((c==405)=false)∧((c==413)=false)∧((c==426)=false)∧((c==431)=false)):=by
 by_cases h:c=101∨c=200∨c=400∨c=403∨c=404∨c=405∨c=413∨c=426∨c=431
 ·omega
 ·right;right;right;right;right;right;right;right;right
  simp only [beq_eq_false_iff_ne,ne_eq]
  omega
theorem reason_any (c:Int) (w:World):Calls Tryz.prog 71 #[.int .i64 c] w fun e w'=>e=.returned (.string ⟨(reasonL c).toArray⟩)∧w=w':=by
 rcases reason_ways c with rfl | rfl | rfl | rfl | rfl | rfl | rfl | rfl | rfl | ⟨h0,h1,h2,h3,h4,h5,h6,h7,h8⟩
 ·go_enter Tryz.func71,Tryz.ntmps71
  go_wp2
  go_ret
  exact ⟨rfl,rfl⟩
 ·go_enter Tryz.func71,Tryz.ntmps71
  go_wp2
  go_ret
  exact ⟨rfl,rfl⟩
 ·go_enter Tryz.func71,Tryz.ntmps71
  go_wp2
  go_ret
  exact ⟨rfl,rfl⟩
 ·go_enter Tryz.func71,Tryz.ntmps71
  go_wp2
  go_ret
  exact ⟨rfl,rfl⟩
 ·go_enter Tryz.func71,Tryz.ntmps71
  go_wp2
  go_ret
  exact ⟨rfl,rfl⟩
 ·go_enter Tryz.func71,Tryz.ntmps71
  go_wp2
  go_ret
  exact ⟨rfl,rfl⟩
 ·go_enter Tryz.func71,Tryz.ntmps71
  go_wp2
  go_ret
  exact ⟨rfl,rfl⟩
 ·go_enter Tryz.func71,Tryz.ntmps71
  go_wp2
  go_ret
  exact ⟨rfl,rfl⟩
 ·go_enter Tryz.func71,Tryz.ntmps71
  go_wp2
  go_ret
  exact ⟨rfl,rfl⟩
 ·have hr:=hid (show reasonL c=[83,116,97,116,117,115] by
   simp only [beq_eq_false_iff_ne,ne_eq] at h0 h1 h2 h3 h4 h5 h6 h7 h8
   unfold reasonL
   rw [if_neg h0,if_neg h1,if_neg h2,if_neg h3,if_neg h4,if_neg h5,if_neg h6,if_neg h7,if_neg h8])
  go_enter Tryz.func71,Tryz.ntmps71
  go_wp2
  go_ret
  exact ⟨by rw [hr.out];rfl,rfl⟩
theorem bare_ways (c:Int):(c<200∧bareB c=true)∨(¬c<200∧c=204∧bareB c=true)∨(¬c<200∧(c==204)=false∧c=304∧bareB c=true)∨(¬c<200∧(c==204)=false∧(c==304)=false∧bareB c=false):=by
 unfold bareB
 by_cases h1:c<200
 ·left;simp [h1]
 ·by_cases h2:c=204
  ·right;left;simp [h2]
  ·by_cases h3:c=304
   ·right;right;left;simp [h3]
   ·right;right;right;simp [h1,h2,h3]
theorem barec_any (c:Int) (w:World):Calls Tryz.prog 117 #[.int .i64 c] w fun e w'=>e=.returned (.bool (bareB c))∧w=w':=by
 rcases bare_ways c with ⟨h1,hb⟩ | ⟨h1,rfl,hb⟩ | ⟨h1,h2,rfl,hb⟩ | ⟨h1,h2,h3,hb⟩
 all_goals
  rw [hb]
  clear hb
  go_enter Tryz.func117,Tryz.ntmps117
  go_wp2
  go_ret
  exact ⟨rfl,rfl⟩
theorem allx_false {α:Type} {l:List α} {p:α→Bool} {k:Nat} (hk:k<l.length) (h:p l[k]=false):l.all p=false:=by
 rw [List.all_eq_false]
 exact ⟨l[k],List.getElem_mem hk,by rw [h];decide⟩
theorem allx_succ {α:Type} {l:List α} {p:α→Bool} {k:Nat} (h:(l.take k).all p=true) (hk:k<l.length) (hp:p l[k]=true):(l.take (k+1)).all p=true:=by
 rw [List.take_succ_eq_append_getElem hk,List.all_append,h,List.all_cons,hp];rfl
theorem right_ways (r:Rp):(r.code<100∧rightR r=false)∨(¬r.code<100∧599<r.code∧rightR r=false) ∨
  (¬r.code<100∧¬599<r.code∧bareB r.code=true∧r.b.isEmpty=false∧rightR r=false) ∨
  (¬r.code<100∧¬599<r.code∧bareB r.code=true∧r.b=[]∧rightR r=r.fs.all (fieldOk r.code)) ∨
  (¬r.code<100∧¬599<r.code∧bareB r.code=false∧65536<(r.b.length:Int)∧rightR r=false) ∨
  (¬r.code<100∧¬599<r.code∧bareB r.code=false∧¬65536<(r.b.length:Int)∧rightR r=r.fs.all (fieldOk r.code)):=by
 unfold rightR
 by_cases h1:r.code<100
 ·left;refine ⟨h1,?_⟩;rw [decide_eq_false (by omega)];rfl
 ·right
  by_cases h2:599<r.code
  ·left;refine ⟨h1,h2,?_⟩;rw [decide_eq_false (show ¬r.code≤599 by omega)];simp
  ·right
   have e1:decide (100≤r.code)=true:=decide_eq_true (by omega)
   have e2:decide (r.code≤599)=true:=decide_eq_true (by omega)
   cases hb:bareB r.code
   ·right;right
    by_cases h3:65536<(r.b.length:Int)
    ·left;refine ⟨h1,h2,rfl,h3,?_⟩;rw [decide_eq_false (show ¬r.b.length≤65536 by omega)];simp
    ·right;refine ⟨h1,h2,rfl,h3,?_⟩;rw [e1,e2,decide_eq_true (show r.b.length≤65536 by omega)];simp
   ·cases he:r.b.isEmpty
    ·left;exact ⟨h1,h2,rfl,rfl,by simp⟩
    ·right;left
     have hbe:r.b=[]:=by simpa using he
     refine ⟨h1,h2,rfl,hbe,?_⟩
     rw [e1,e2,hbe];simp
theorem own_ways (c:Int) (a1 a2 a3:Bool):(a1=true∧(a1||(a2||(c != 101&&a3)))=true)∨(a1=false∧a2=true∧(a1||(a2||(c != 101&&a3)))=true) ∨
  (a1=false∧a2=false∧(c != 101)=false∧(a1||(a2||(c != 101&&a3)))=false) ∨
  (a1=false∧a2=false∧(c != 101)=true∧a3=true∧(a1||(a2||(c != 101&&a3)))=true) ∨
  (a1=false∧a2=false∧(c != 101)=true∧a3=false∧(a1||(a2||(c != 101&&a3)))=false):=by
 cases a1 <;> cases a2 <;> cases a3 <;> cases (c != 101) <;> simp
theorem right_any (r:Rp) (t:Value) (w:World) (hG:G w) (hf:FieldsAt w t r.fs) (hlf:r.fs.length≤1000000) (hs:∀ f∈r.fs,f.1.length≤1000000∧f.2.length≤1000000) (hlb:r.b.length≤9223372036854775807) :
  Calls Tryz.prog 114 #[r.V t] w fun e w'=>e=.returned (.bool (rightR r))∧Gr w w':=by
 have hG':=hid hG
 have hs':=hid hs
 obtain ⟨p,cap,rfl,hc⟩:=hf
 have hc':=hid hc
 have hways:=right_ways r
 obtain ⟨R,hR⟩:∃ R,rightR r=R:=⟨_,rfl⟩
 rw [hR] at hways ⊢
 have hR':=hid hR
 clear hc hs hG hR
 obtain ⟨c,fs,b⟩:=r
 unfold Rp.V
 dsimp only at hc' hs' hways hlf hlb ⊢
 have g0:=hid (Gr.alloc w (.cells #[.int .i64 c,.slice p fs.length cap,.string ⟨b.toArray⟩] 51))
 have n0:(w.alloc (.cells #[.int .i64 c,.slice p fs.length cap,.string ⟨b.toArray⟩] 51)).cell? ⟨w.heap.size,0,none⟩=some (.int .i64 c):=by simp [go_sem]
 have n1:(w.alloc (.cells #[.int .i64 c,.slice p fs.length cap,.string ⟨b.toArray⟩] 51)).cell? ⟨w.heap.size,1,none⟩=some (.slice p fs.length cap):=by simp [go_sem]
 have n2:(w.alloc (.cells #[.int .i64 c,.slice p fs.length cap,.string ⟨b.toArray⟩] 51)).cell? ⟨w.heap.size,2,none⟩=some (.string ⟨b.toArray⟩):=by simp [go_sem]
 rcases hways with ⟨h1,hr⟩ | ⟨h1,h2,hr⟩ | ⟨h1,h2,hb,h3,hr⟩ | ⟨h1,h2,hb,h3,hr⟩ | ⟨h1,h2,hb,h3,hr⟩ | ⟨h1,h2,hb,h3,hr⟩
 ·go_enter Tryz.func114,Tryz.ntmps114
  go_wp2
  go_ret
  exact ⟨by first | rfl | (rw [hr];rfl),g0.out⟩
 ·go_enter Tryz.func114,Tryz.ntmps114
  go_wp2
  go_ret
  exact ⟨by first | rfl | (rw [hr];rfl),g0.out⟩
 ·go_enter Tryz.func114,Tryz.ntmps114
  go_wp2_with (go_at_call 117;refine (barec_any c _).mono ?_;rintro e w' ⟨rfl,rfl⟩;rw [hb])
  go_ret
  exact ⟨by first | rfl | (rw [hr];rfl),g0.out⟩
 case' inr.inr.inr.inl =>
  subst h3
  go_enter Tryz.func114,Tryz.ntmps114
  go_wp2_with (go_at_call 117;refine (barec_any c _).mono ?_;rintro e w' ⟨rfl,rfl⟩;rw [hb])
 case inr.inr.inr.inr.inl =>
  go_enter Tryz.func114,Tryz.ntmps114
  go_wp2_with (go_at_call 117;refine (barec_any c _).mono ?_;rintro e w' ⟨rfl,rfl⟩;rw [hb])
  go_ret
  exact ⟨by first | rfl | (rw [hr];rfl),g0.out⟩
 case' inr.inr.inr.inr.inr =>
  go_enter Tryz.func114,Tryz.ntmps114
  go_wp2_with (go_at_call 117;refine (barec_any c _).mono ?_;rintro e w' ⟨rfl,rfl⟩;rw [hb])
 all_goals
  have hr':=hid hr
  (try clear h3)
  clear h1 h2 hb hr n2
  generalize (w.alloc (.cells #[.int .i64 c,.slice p fs.length cap,.string _] 51))=w1 at g0 n0 n1 ⊢
  go_wp2
  go_loopw [35] (fun i W=>∃ k:Nat,k≤fs.length∧i=.int .i64 k∧(fs.take k).all (fieldOk c)=true∧Gr w1 W) (fun i _=>fs.length - (intOf i).toNat)
  case atStart=>exact ⟨0,Nat.zero_le _,rfl,rfl,Gr.refl _⟩
  case round =>
   obtain ⟨k,hk,rfl,hall,hg⟩:=hrel
   have hall':=hid hall
   have hg':=hid hg
   replace n0:=hg.cell n0
   clear hall n1
   by_cases hlt:k<fs.length
   ·obtain ⟨bf,off,rfl,d1,d2⟩:=hc'.out k hlt
    replace d1:=(g0.out.trans hg).cell d1
    replace d2:=(g0.out.trans hg).cell d2
    have hxs:=hs'.out _ (List.getElem_mem hlt)
    obtain ⟨⟨xn,xv⟩,hx⟩:∃ x,fs[k]=x:=⟨_,rfl⟩
    rw [hx] at d1 d2 hxs
    dsimp only at d1 d2 hxs
    have hkI:(k:Int)<fs.length:=by omega
    have hcat1:(⟨xn.toArray⟩:ByteArray)++⟨#[58]⟩=⟨(xn++[58]).toArray⟩:=cat_mk xn [58]
    have hcat2:(⟨(xn++[58]).toArray⟩:ByteArray)++⟨xv.toArray⟩=⟨(xn++[58]++xv).toArray⟩:=cat_mk _ xv
    have hz1:¬9223372036854775807<xn.length+1:=by omega
    have hz2:¬9223372036854775807<(xn++[58]).length+xv.length:=by rw [List.length_append];show ¬_<_+1+_;omega
    have hbad:=hid (show fieldOk c (xn,xv)=false→R=false from fun h=>by
     have h9:fieldOk c fs[k]=false:=by rw [hx];exact h
     rw [hr'.out];exact allx_false (p:=fieldOk c) hlt h9)
    have hgood:=hid (show fieldOk c (xn,xv)=true→(fs.take (k+1)).all (fieldOk c)=true from fun h=>by
     have h9:fieldOk c fs[k]=true:=by rw [hx];exact h
     exact allx_succ (p:=fieldOk c) hall'.out hlt h9)
    have hpl:(xn++[58]++xv).length<4294967281:=by rw [List.length_append,List.length_append];show _+1+_<_;omega
    have hfo:fieldOk c (xn,xv)=(decide (parseB (xn++[58]++xv)=(xn,xv,true))&&!(alikeB xn kLen||(alikeB xn kCod||(c != 101&&alikeB xn kHold)))):=rfl
    have hpc:=hid (fun W hGW=>parse_any (xn++[58]++xv) W hGW hpl)
    obtain ⟨⟨g1,g2,ok⟩,hP⟩:∃ x,parseB (xn++[58]++xv)=x:=⟨_,rfl⟩
    rw [hP] at hpc hfo
    obtain ⟨cat,hcat⟩:∃ x,xn++[58]=x:=⟨_,rfl⟩
    rw [hcat] at hcat1 hcat2 hz2 hpc
    obtain ⟨cat2,hcc⟩:∃ x,cat++xv=x:=⟨_,rfl⟩
    rw [hcc] at hcat2 hpc
    have q1:=hid (fun W hGW=>alike_any xn kLen W hGW (by omega) (by decide))
    have q2:=hid (fun W hGW=>alike_any xn kCod W hGW (by omega) (by decide))
    have q3:=hid (fun W hGW=>alike_any xn kHold W hGW (by omega) (by decide))
    have how:=own_ways c (alikeB xn kLen) (alikeB xn kCod) (alikeB xn kHold)
    obtain ⟨a1,ha1⟩:∃ a,alikeB xn kLen=a:=⟨_,rfl⟩
    obtain ⟨a2,ha2⟩:∃ a,alikeB xn kCod=a:=⟨_,rfl⟩
    obtain ⟨a3,ha3⟩:∃ a,alikeB xn kHold=a:=⟨_,rfl⟩
    rw [ha1] at q1 how hfo
    rw [ha2] at q2 how hfo
    rw [ha3] at q3 how hfo
    obtain ⟨own,hown⟩:∃ o,(a1||(a2||(c != 101&&a3)))=o:=⟨_,rfl⟩
    rw [hown] at how hfo
    have hfo':=hid hfo
    clear hfo hown ha1 ha2 ha3 hP hcat hcc hx hxs hpl hg
    go_upto_region 6 with (fail)
    have x0:(wr.alloc (.cells #[.string ⟨xn.toArray⟩,.string ⟨xv.toArray⟩] 80)).cell? ⟨wr.heap.size,0,none⟩=some (.string ⟨xn.toArray⟩):=cell_new7 wr [.string ⟨xn.toArray⟩,.string ⟨xv.toArray⟩] _ 0 _ rfl
    have x1:(wr.alloc (.cells #[.string ⟨xn.toArray⟩,.string ⟨xv.toArray⟩] 80)).cell? ⟨wr.heap.size,1,none⟩=some (.string ⟨xv.toArray⟩):=cell_new7 wr [.string ⟨xn.toArray⟩,.string ⟨xv.toArray⟩] _ 1 _ rfl
    have gx:Gr wr (wr.alloc (.cells #[.string ⟨xn.toArray⟩,.string ⟨xv.toArray⟩] 80)):=Gr.alloc _ _
    generalize wr.alloc (.cells #[.string ⟨xn.toArray⟩,.string ⟨xv.toArray⟩] 80)=w2 at x0 x1 gx ⊢
    replace n0:=gx.cell n0
    have g2':=hid (hg'.out.trans gx)
    clear gx d1 d2
    go_wp2_with fail
    refine (hpc.out _ (hG'.out.gr (g0.out.trans g2'.out))).mono ?_
    rintro e w3 ⟨rfl,hb3⟩
    replace n0:=hb3.cell n0
    replace x0:=hb3.cell x0
    replace x1:=hb3.cell x1
    have g3':=hid (g2'.out.trans hb3)
    clear hb3 hcat1 hcat2 hz1 hz2
    unfold pVal
    go_upto_region 7 with (fail)
    have y0:(w3.alloc (.cells #[.string ⟨g1.toArray⟩,.string ⟨g2.toArray⟩] 80)).cell? ⟨w3.heap.size,0,none⟩=some (.string ⟨g1.toArray⟩):=cell_new7 w3 [.string ⟨g1.toArray⟩,.string ⟨g2.toArray⟩] _ 0 _ rfl
    have y1:(w3.alloc (.cells #[.string ⟨g1.toArray⟩,.string ⟨g2.toArray⟩] 80)).cell? ⟨w3.heap.size,1,none⟩=some (.string ⟨g2.toArray⟩):=cell_new7 w3 [.string ⟨g1.toArray⟩,.string ⟨g2.toArray⟩] _ 1 _ rfl
    have gy:Gr w3 (w3.alloc (.cells #[.string ⟨g1.toArray⟩,.string ⟨g2.toArray⟩] 80)):=Gr.alloc _ _
    generalize w3.alloc (.cells #[.string ⟨g1.toArray⟩,.string ⟨g2.toArray⟩] 80)=w4 at y0 y1 gy ⊢
    replace n0:=gy.cell n0
    replace x0:=gy.cell x0
    replace x1:=gy.cell x1
    have g4':=hid (g3'.out.trans gy)
    clear gy
    go_wp2_with fail
    refine (q1.out _ (hG'.out.gr (g0.out.trans g4'.out))).mono ?_
    rintro e w5 ⟨rfl,hb5⟩
    replace n0:=hb5.cell n0
    replace x0:=hb5.cell x0
    replace x1:=hb5.cell x1
    replace y0:=hb5.cell y0
    replace y1:=hb5.cell y1
    have g5':=hid (g4'.out.trans hb5)
    clear hb5
    rcases how with ⟨rfl,rfl⟩ | ⟨rfl,rfl,rfl⟩ | ⟨rfl,rfl,hc1,rfl⟩ | ⟨rfl,rfl,hc1,rfl,rfl⟩ | ⟨rfl,rfl,hc1,rfl,rfl⟩
    ·cases ok with
     | false =>
      have hfin:=hid (hbad.out (by rw [hfo'.out];simp))
      go_wp2
      go_ret
      exact ⟨by rw [hfin.out];rfl,g0.out.trans g5'.out⟩
     | true =>
      by_cases hn:g1=xn
      ·subst hn
       by_cases hv:g2=xv
       ·subst hv
        have hfin:=hid (hbad.out (by rw [hfo'.out];simp))
        go_wp2
        go_ret
        exact ⟨by rw [hfin.out];rfl,g0.out.trans g5'.out⟩
       ·have hfin:=hid (hbad.out (by rw [hfo'.out];simp [hv]))
        go_wp2
        go_ret
        exact ⟨by rw [hfin.out];rfl,g0.out.trans g5'.out⟩
      ·have hfin:=hid (hbad.out (by rw [hfo'.out];simp [hn]))
       go_wp2
       go_ret
       exact ⟨by rw [hfin.out];rfl,g0.out.trans g5'.out⟩
    ·go_wp2_with fail
     refine (q2.out _ (hG'.out.gr (g0.out.trans g5'.out))).mono ?_
     rintro e w6 ⟨rfl,hb⟩
     replace n0:=hb.cell n0
     replace x0:=hb.cell x0
     replace x1:=hb.cell x1
     replace y0:=hb.cell y0
     replace y1:=hb.cell y1
     have g6':=hid (g5'.out.trans hb)
     clear hb
     cases ok with
     | false =>
      have hfin:=hid (hbad.out (by rw [hfo'.out];simp))
      go_wp2
      go_ret
      exact ⟨by rw [hfin.out];rfl,g0.out.trans g6'.out⟩
     | true =>
      by_cases hn:g1=xn
      ·subst hn
       by_cases hv:g2=xv
       ·subst hv
        have hfin:=hid (hbad.out (by rw [hfo'.out];simp))
        go_wp2
        go_ret
        exact ⟨by rw [hfin.out];rfl,g0.out.trans g6'.out⟩
       ·have hfin:=hid (hbad.out (by rw [hfo'.out];simp [hv]))
        go_wp2
        go_ret
        exact ⟨by rw [hfin.out];rfl,g0.out.trans g6'.out⟩
      ·have hfin:=hid (hbad.out (by rw [hfo'.out];simp [hn]))
       go_wp2
       go_ret
       exact ⟨by rw [hfin.out];rfl,g0.out.trans g6'.out⟩
    ·go_wp2_with fail
     refine (q2.out _ (hG'.out.gr (g0.out.trans g5'.out))).mono ?_
     rintro e w6 ⟨rfl,hb⟩
     replace n0:=hb.cell n0
     replace x0:=hb.cell x0
     replace x1:=hb.cell x1
     replace y0:=hb.cell y0
     replace y1:=hb.cell y1
     have g6':=hid (g5'.out.trans hb)
     clear hb
     cases ok with
     | false =>
      have hfin:=hid (hbad.out (by rw [hfo'.out];simp))
      go_wp2
      go_ret
      exact ⟨by rw [hfin.out];rfl,g0.out.trans g6'.out⟩
     | true =>
      by_cases hn:g1=xn
      ·subst hn
       by_cases hv:g2=xv
       ·subst hv
        have hnx:=hid (hgood.out (by rw [hfo'.out];simp))
        go_wp2
        go_roundw
        case rel=>exact ⟨k+1,by omega,by go_num,hnx.out,g6'.out⟩
        case measure=>simp [intOf];omega
       ·have hfin:=hid (hbad.out (by rw [hfo'.out];simp [hv]))
        go_wp2
        go_ret
        exact ⟨by rw [hfin.out];rfl,g0.out.trans g6'.out⟩
      ·have hfin:=hid (hbad.out (by rw [hfo'.out];simp [hn]))
       go_wp2
       go_ret
       exact ⟨by rw [hfin.out];rfl,g0.out.trans g6'.out⟩
    ·go_wp2_with fail
     refine (q2.out _ (hG'.out.gr (g0.out.trans g5'.out))).mono ?_
     rintro e w6 ⟨rfl,hb⟩
     replace n0:=hb.cell n0
     replace x0:=hb.cell x0
     replace x1:=hb.cell x1
     replace y0:=hb.cell y0
     replace y1:=hb.cell y1
     have g6':=hid (g5'.out.trans hb)
     clear hb
     go_wp2_with fail
     refine (q3.out _ (hG'.out.gr (g0.out.trans g6'.out))).mono ?_
     rintro e w7 ⟨rfl,hb⟩
     replace n0:=hb.cell n0
     replace x0:=hb.cell x0
     replace x1:=hb.cell x1
     replace y0:=hb.cell y0
     replace y1:=hb.cell y1
     have g7':=hid (g6'.out.trans hb)
     clear hb
     cases ok with
     | false =>
      have hfin:=hid (hbad.out (by rw [hfo'.out];simp))
      go_wp2
      go_ret
      exact ⟨by rw [hfin.out];rfl,g0.out.trans g7'.out⟩
     | true =>
      by_cases hn:g1=xn
      ·subst hn
       by_cases hv:g2=xv
       ·subst hv
        have hfin:=hid (hbad.out (by rw [hfo'.out];simp))
        go_wp2
        go_ret
        exact ⟨by rw [hfin.out];rfl,g0.out.trans g7'.out⟩
       ·have hfin:=hid (hbad.out (by rw [hfo'.out];simp [hv]))
        go_wp2
        go_ret
        exact ⟨by rw [hfin.out];rfl,g0.out.trans g7'.out⟩
      ·have hfin:=hid (hbad.out (by rw [hfo'.out];simp [hn]))
       go_wp2
       go_ret
       exact ⟨by rw [hfin.out];rfl,g0.out.trans g7'.out⟩
    ·go_wp2_with fail
     refine (q2.out _ (hG'.out.gr (g0.out.trans g5'.out))).mono ?_
     rintro e w6 ⟨rfl,hb⟩
     replace n0:=hb.cell n0
     replace x0:=hb.cell x0
     replace x1:=hb.cell x1
     replace y0:=hb.cell y0
     replace y1:=hb.cell y1
     have g6':=hid (g5'.out.trans hb)
     clear hb
     go_wp2_with fail
     refine (q3.out _ (hG'.out.gr (g0.out.trans g6'.out))).mono ?_
     rintro e w7 ⟨rfl,hb⟩
     replace n0:=hb.cell n0
     replace x0:=hb.cell x0
     replace x1:=hb.cell x1
     replace y0:=hb.cell y0
     replace y1:=hb.cell y1
     have g7':=hid (g6'.out.trans hb)
     clear hb
     cases ok with
     | false =>
      have hfin:=hid (hbad.out (by rw [hfo'.out];simp))
      go_wp2
      go_ret
      exact ⟨by rw [hfin.out];rfl,g0.out.trans g7'.out⟩
     | true =>
      by_cases hn:g1=xn
      ·subst hn
       by_cases hv:g2=xv
       ·subst hv
        have hnx:=hid (hgood.out (by rw [hfo'.out];simp))
        go_wp2
        go_roundw
        case rel=>exact ⟨k+1,by omega,by go_num,hnx.out,g7'.out⟩
        case measure=>simp [intOf];omega
       ·have hfin:=hid (hbad.out (by rw [hfo'.out];simp [hv]))
        go_wp2
        go_ret
        exact ⟨by rw [hfin.out];rfl,g0.out.trans g7'.out⟩
      ·have hfin:=hid (hbad.out (by rw [hfo'.out];simp [hn]))
       go_wp2
       go_ret
       exact ⟨by rw [hfin.out];rfl,g0.out.trans g7'.out⟩
   ·obtain rfl:k=fs.length:=by omega
    have hfin:=hid (show R=true by rw [hr'.out,←hall'.out,List.take_length])
    go_wp2
    go_ret
    exact ⟨by rw [hfin.out];rfl,g0.out.trans hg'.out⟩
end Go.Proofs.YtadobobfjnmdlaaGreatDoor
