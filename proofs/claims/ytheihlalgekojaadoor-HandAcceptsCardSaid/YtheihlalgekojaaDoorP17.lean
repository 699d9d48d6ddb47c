/-
  Plain laws of base64: no program in sight.
-/
import Derived.Test.YtheihlalgekojaaDoorP16
namespace Go.Proofs.YtheihlalgekojaaDoor
def lettersL : List UInt8 := [65, 66, 67, 68, 69, 70, 71, 72, 73, 74, 75, 76, 77, 78, 79, 80, 81, 82, 83, 84, 85, 86, 87, 88, 89, 90, 97, 98, 99, 100, 101, 102, 103, 104, 105, 106, 107, 108, 109, 110, 111, 112, 113, 114, 115, 116, 117, 118, 119, 120, 121, 122, 48, 49, 50, 51, 52, 53, 54, 55, 56, 57, 43, 47]
def letB (n : Nat) : UInt8 := lettersL.getD n 0
/-- The number of a text's first k bytes. -/
def bigN (s : List UInt8) : Nat → Nat
  | 0 => 0
  | k + 1 => bigN s k * 256 + byteN s k
theorem bigN_lt (s : List UInt8) : ∀ k, bigN s k < 256 ^ k
  | 0 => by simp [bigN]
  | k + 1 => by
    have := bigN_lt s k
    have := byte_lt s k
    rw [Nat.pow_succ]; unfold bigN; omega
/-- The letter number i of a group of n bytes, its bits being X. -/
def grpB (n X i : Nat) : UInt8 := if i ≤ n then letB (X / 64 ^ (3 - i) % 64) else 61
def grpN (n X : Nat) : Nat → List UInt8
  | 0 => []
  | i + 1 => grpN n X i ++ [grpB n X i]
theorem grpN_len (n X : Nat) : ∀ i, (grpN n X i).length = i
  | 0 => rfl
  | i + 1 => by rw [grpN, List.length_append, grpN_len n X i]; rfl
/-- The letters of a text's first three bytes, or of what there is. -/
def encG (l : List UInt8) : List UInt8 := grpN (min 3 l.length) (bigN l 3) 4
def encK : Nat → List UInt8 → List UInt8
  | 0, _ => []
  | k + 1, l => if l.isEmpty then [] else encG l ++ encK k (l.drop 3)
/-- A text in letters. -/
def encL (l : List UInt8) : List UInt8 := encK l.length l
theorem encK_fuel : ∀ (k m : Nat) (l : List UInt8), l.length ≤ k → l.length ≤ m → encK k l = encK m l
  | 0, m, l, h, _ => by
    have : l = [] := List.eq_nil_of_length_eq_zero (by omega)
    subst this
    cases m <;> rfl
  | k + 1, 0, l, _, h => by
    have : l = [] := List.eq_nil_of_length_eq_zero (by omega)
    subst this; rfl
  | k + 1, m + 1, l, h1, h2 => by
    unfold encK
    cases l with
    | nil => rfl
    | cons c t =>
      rw [encK_fuel k m _ (by rw [List.length_drop]; simp at h1 ⊢; omega) (by rw [List.length_drop]; simp at h2 ⊢; omega)]
theorem encL_nil : encL [] = [] := rfl
theorem encL_step {l : List UInt8} (h : 0 < l.length) : encL l = encG l ++ encL (l.drop 3) := by
  have e : l.length = (l.length - 1) + 1 := by omega
  unfold encL
  rw [e]
  conv => lhs; unfold encK
  rw [if_neg (by simpa using List.length_pos_iff.1 h)]
  rw [encK_fuel (l.length - 1) (l.drop 3).length _ (by rw [List.length_drop]; omega) (Nat.le_refl _)]
theorem encG_len (l : List UInt8) : (encG l).length = 4 := grpN_len _ _ _
theorem encL_len : ∀ (k : Nat) (l : List UInt8), l.length ≤ k → (encL l).length = (l.length + 2) / 3 * 4
  | 0, l, h => by
    have : l = [] := List.eq_nil_of_length_eq_zero (by omega)
    subst this; rfl
  | k + 1, l, h => by
    by_cases h0 : 0 < l.length
    · rw [encL_step h0, List.length_append, encG_len, encL_len k _ (by rw [List.length_drop]; omega), List.length_drop]
      by_cases h3 : 3 ≤ l.length
      · rw [show (l.length + 2) / 3 = (l.length - 3 + 2) / 3 + 1 by omega]; omega
      · rw [show (l.length - 3 + 2) / 3 = 0 by omega, show (l.length + 2) / 3 = 1 by omega]
    · have : l = [] := List.eq_nil_of_length_eq_zero (by omega)
      subst this; rfl
def keyL : List UInt8 := [100, 71, 104, 108, 73, 72, 78, 104, 98, 88, 66, 115, 90, 83, 66, 117, 98, 50, 53, 106, 90, 81, 61, 61]
def guidL : List UInt8 := [50, 53, 56, 69, 65, 70, 65, 53, 45, 69, 57, 49, 52, 45, 52, 55, 68, 65, 45, 57, 53, 67, 65, 45, 67, 53, 65, 66, 48, 68, 67, 56, 53, 66, 49, 49]
/-- The accept of a key. -/
def acceptL (k : List UInt8) : List UInt8 := encL (shaL (k ++ guidL))
theorem accept_len (k : List UInt8) : (acceptL k).length = 28 := by
  unfold acceptL
  rw [encL_len _ _ (Nat.le_refl _)]
  have : (shaL (k ++ guidL)).length = 20 := out_len _
  rw [this]
theorem accept_key : acceptL keyL = [115, 51, 112, 80, 76, 77, 66, 105, 84, 120, 97, 81, 57, 107, 89, 71, 122, 122, 104, 90, 82, 98, 75, 43, 120, 79, 111, 61] := by decide +kernel
end Go.Proofs.YtheihlalgekojaaDoor
