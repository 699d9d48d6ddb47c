/-
  Plain functions and laws of texts: no program in sight.
-/
import Derived.Lib.IndexMore
import Derived.Lib.SlTrimSet
namespace Go.Proofs.YtpncfeaaffgkfaaGreatDoor

def isLetter (c : UInt8) : Bool := (97 ≤ c && c ≤ 122) || (65 ≤ c && c ≤ 90) || (48 ≤ c && c ≤ 57)
def marksL : List UInt8 := [33, 35, 36, 37, 38, 39, 42, 43, 45, 46, 94, 95, 96, 124, 126]
def isTok (c : UInt8) : Bool := isLetter c || marksL.contains c
def isVal (c : UInt8) : Bool := c == 9 || (32 ≤ c && c != 127)
def lower (c : UInt8) : UInt8 := if 65 ≤ c ∧ c ≤ 90 then c + 32 else c
def tokB (l : List UInt8) : Bool := !l.isEmpty && l.all isTok
def alikeB (a b : List UInt8) : Bool := a.map lower == b.map lower
def trimB (l : List UInt8) : List UInt8 := Lib.trimS l [32, 9]

/-- A line's field: name, value, and whether it is one. -/
def parseB (l : List UInt8) : List UInt8 × List UInt8 × Bool :=
  if (Lib.cut l [58]).2.2 && tokB (Lib.cut l [58]).1 && (Lib.cut l [58]).2.1.all isVal then ((Lib.cut l [58]).1, trimB (Lib.cut l [58]).2.1, true) else ([], [], false)

theorem parseB_eq {l n v : List UInt8} {c : Bool} (h : Lib.cut l [58] = (n, v, c)) : parseB l = if c && tokB n && v.all isVal then (n, trimB v, true) else ([], [], false) := by
  unfold parseB; rw [h]
theorem cut_le1 (s sep : List UInt8) : (Lib.cut s sep).1.length ≤ s.length := by
  unfold Lib.cut; split <;> simp [List.length_take] <;> omega
theorem cut_le2 (s sep : List UInt8) : (Lib.cut s sep).2.1.length ≤ s.length := by
  unfold Lib.cut; split <;> simp
theorem letter_eq (c : UInt8) : isLetter c = decide ((97 ≤ (c.toNat : Int) ∧ (c.toNat : Int) ≤ 122) ∨ (65 ≤ (c.toNat : Int) ∧ (c.toNat : Int) ≤ 90) ∨ (48 ≤ (c.toNat : Int) ∧ (c.toNat : Int) ≤ 57)) := by
  rw [Bool.eq_iff_iff]; simp [isLetter, UInt8.le_iff_toNat_le]; omega
theorem val_eq (c : UInt8) : isVal c = decide ((c.toNat : Int) = 9 ∨ (32 ≤ (c.toNat : Int) ∧ (c.toNat : Int) ≠ 127)) := by
  rw [Bool.eq_iff_iff]; simp [isVal, UInt8.le_iff_toNat_le, ← UInt8.toNat_inj]; omega
theorem ret_bool {a b : Bool} (h : a = b) : Ending.returned (.bool a) = .returned (.bool b) := by rw [h]

theorem u8_beq (a b : UInt8) : (a == b) = decide ((a.toNat : Int) = b.toNat) := by
  rw [Bool.eq_iff_iff]; simp [← UInt8.toNat_inj]; omega
theorem size_mk (l : List UInt8) : ByteArray.size ⟨l.toArray⟩ = l.length := by simp [ByteArray.size]
theorem cat_mk (a b : List UInt8) : (⟨a.toArray⟩ : ByteArray) ++ ⟨b.toArray⟩ = ⟨(a ++ b).toArray⟩ := by
  apply ByteArray.ext
  simp
theorem extract_mk (l : List UInt8) (i j : Nat) : (⟨l.toArray⟩ : ByteArray).extract i j = ⟨((l.take j).drop i).toArray⟩ := by
  apply ByteArray.ext
  simp [List.drop_take]
theorem extract_one (l : List UInt8) (k : Nat) (h : k < l.length) : (⟨l.toArray⟩ : ByteArray).extract k (k + 1) = ⟨#[l[k]]⟩ := by
  rw [extract_mk, List.drop_take, Nat.add_sub_cancel_left, List.drop_eq_getElem_cons h]
  rfl
theorem indexByte_nonneg (l : List UInt8) (c : UInt8) : decide (0 ≤ Lib.indexByte l c) = l.contains c := by
  induction l with
  | nil => rfl
  | cons b l ih =>
    have hg := Lib.indexByte_ge l c
    unfold Lib.indexByte
    rw [List.contains_cons, ← ih]
    by_cases h : (b == c) = true
    · have h' : (c == b) = true := beq_iff_eq.2 (beq_iff_eq.1 h).symm
      simp [h, h']
    · have h1 : (b == c) = false := by simpa using h
      have h2 : (c == b) = false := beq_eq_false_iff_ne.2 (fun e => by subst e; simp at h1)
      rw [h1, h2]
      by_cases h3 : Lib.indexByte l c = -1
      · simp [h3]
      · have h4 : (Lib.indexByte l c == -1) = false := by simpa using h3
        simp only [h4, Bool.false_eq_true, if_false, Bool.false_or]
        rw [decide_eq_decide]; omega
theorem toNat_u8 (c : UInt8) : (c.toNat : Int).toNat.toUInt8 = c := by simp
theorem all_take_succ {l : List UInt8} {p : UInt8 → Bool} {k : Nat} (h : (l.take k).all p = true) (hk : k < l.length) (hp : p l[k] = true) : (l.take (k + 1)).all p = true := by
  rw [List.take_succ_eq_append_getElem hk, List.all_append, h]; simp [hp]
theorem all_false {l : List UInt8} {p : UInt8 → Bool} {k : Nat} (hk : k < l.length) (hp : p l[k] = false) : l.all p = false := by
  rw [Bool.eq_false_iff]; intro h
  have := List.all_eq_true.1 h l[k] (List.getElem_mem hk)
  rw [hp] at this; cases this

def tokAll : List UInt8 := [65, 66, 67, 68, 69, 70, 71, 72, 73, 74, 75, 76, 77, 78, 79, 80, 81, 82, 83, 84, 85, 86, 87, 88, 89, 90, 97, 98, 99, 100, 101, 102, 103, 104, 105, 106, 107, 108, 109, 110, 111, 112, 113, 114, 115, 116, 117, 118, 119, 120, 121, 122, 48, 49, 50, 51, 52, 53, 54, 55, 56, 57, 33, 35, 36, 37, 38, 39, 42, 43, 45, 46, 94, 95, 96, 124, 126]
theorem u8_all {p : UInt8 → Prop} (h : ∀ n : Fin 256, p (UInt8.ofNat n.1)) (c : UInt8) : p c := by
  have := h ⟨c.toNat, c.toNat_lt⟩
  simpa using this
set_option maxRecDepth 100000 in
theorem tok_contains (c : UInt8) : tokAll.contains c = isTok c := by
  refine u8_all (p := fun c => tokAll.contains c = isTok c) ?_ c
  decide +kernel
theorem contains_take_succ {l : List UInt8} {c : UInt8} {k : Nat} (h : (l.take k).contains c = false) (hk : k < l.length) (hp : (l[k] == c) = false) : (l.take (k + 1)).contains c = false := by
  rw [List.take_succ_eq_append_getElem hk, List.contains_append, h]
  simp at hp ⊢; exact fun e => hp e.symm
theorem contains_at {l : List UInt8} {c : UInt8} {k : Nat} (hk : k < l.length) (hp : (l[k] == c) = true) : l.contains c = true := by
  rw [List.contains_iff_mem, ← beq_iff_eq.1 hp]; exact List.getElem_mem hk
theorem lower_toNat (c : UInt8) : ((lower c).toNat : Int) = if 65 ≤ (c.toNat : Int) ∧ (c.toNat : Int) ≤ 90 then (c.toNat : Int) + 32 else c.toNat := by
  unfold lower
  by_cases h : 65 ≤ c ∧ c ≤ 90
  · have h' : 65 ≤ c.toNat ∧ c.toNat ≤ 90 := by simpa [UInt8.le_iff_toNat_le] using h
    rw [if_pos h, if_pos (by omega), UInt8.toNat_add]
    simp; omega
  · have h' : ¬ (65 ≤ c.toNat ∧ c.toNat ≤ 90) := by simpa [UInt8.le_iff_toNat_le] using h
    rw [if_neg h, if_neg (by omega)]
end Go.Proofs.YtpncfeaaffgkfaaGreatDoor
