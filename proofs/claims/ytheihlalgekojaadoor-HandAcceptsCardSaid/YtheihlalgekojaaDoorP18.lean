/-
  Plain laws of base64: letters back to bytes: no program in sight.
-/
import Derived.Test.YtheihlalgekojaaDoorP17
namespace Go.Proofs.YtheihlalgekojaaDoor
theorem indexByte_none (c : UInt8) : ∀ l : List UInt8, (∀ x ∈ l, x ≠ c) → Lib.indexByte l c = -1
  | [], _ => rfl
  | x :: t, h => by
    have ih := indexByte_none c t (fun y hy => h y (List.mem_cons_of_mem _ hy))
    have hx := h x (List.mem_cons_self ..)
    unfold Lib.indexByte
    rw [if_neg (by simpa using hx), ih]; rfl
theorem letters_low : ∀ x ∈ lettersL, x.toNat < 128 := by decide +kernel
/-- A letter's number; below 0: it is none. -/
def numB (c : UInt8) : Int := Lib.indexByte lettersL c
theorem num_high {c : UInt8} (h : 128 ≤ c.toNat) : numB c = -1 := indexByte_none c _ (fun x hx e => by have := letters_low x hx; rw [e] at this; omega)
theorem byte_all {p : UInt8 → Prop} (h : ∀ c : Fin 256, p (UInt8.ofNat c.1)) (c : UInt8) : p c := by
  have := h ⟨c.toNat, c.toNat_lt⟩
  simpa using this
theorem num_bd (c : UInt8) : -1 ≤ numB c ∧ numB c < 64 := byte_all (p := fun c => -1 ≤ numB c ∧ numB c < 64) (by decide +kernel) c
def isLet (c : UInt8) : Bool := decide (0 ≤ numB c)
theorem let_num (c : UInt8) (h : isLet c = true) : letB (numB c).toNat = c := byte_all (p := fun c => isLet c = true → letB (numB c).toNat = c) (by decide +kernel) c h
theorem num_let : ∀ n : Fin 64, numB (letB n.1) = n.1 := by decide +kernel
theorem let_isLet : ∀ n : Fin 64, isLet (letB n.1) = true ∧ letB n.1 ≠ 61 := by decide +kernel
def numV (l : List UInt8) : Nat := l.foldl (fun x c => x * 64 + (numB c).toNat) 0
theorem numV_snoc (l : List UInt8) (c : UInt8) : numV (l ++ [c]) = numV l * 64 + (numB c).toNat := by simp [numV]
theorem numV_lt : ∀ (k : Nat) (l : List UInt8), l.length = k → numV l < 64 ^ k
  | 0, l, h => by rw [List.eq_nil_of_length_eq_zero h]; decide
  | k + 1, l, h => by
    obtain ⟨t, c, rfl⟩ : ∃ t c, l = t ++ [c] := ⟨l.dropLast, l.getLast (by intro e; rw [e] at h; cases h), (List.dropLast_concat_getLast _).symm⟩
    rw [numV_snoc, Nat.pow_succ]
    have := numV_lt k t (by simpa using h)
    have := (num_bd c).2
    have := (num_bd c).1
    omega
/-- The first j bytes of N bits. -/
def outsN (X N : Nat) : Nat → List UInt8
  | 0 => []
  | j + 1 => outsN X N j ++ [UInt8.ofNat (X / 2 ^ (N - 8 * (j + 1)))]
/-- The bytes of two to four letters, and whether the bits behind them are noughts. -/
def groupB (l : List UInt8) : List UInt8 × Bool :=
  if l.all isLet then (outsN (numV l) (6 * l.length) (6 * l.length / 8), decide (numV l % 2 ^ (6 * l.length % 8) = 0)) else ([], false)
def trimE (l : List UInt8) : List UInt8 := Lib.trimSuffix (Lib.trimSuffix l [61]) [61]
def decK : Nat → List UInt8 → Option (List UInt8)
  | 0, _ => some []
  | k + 1, s =>
    if s.isEmpty then some []
    else if (groupB (if (s.drop 4).isEmpty then trimE (s.take 4) else s.take 4)).2 then (decK k (s.drop 4)).map fun t => (groupB (if (s.drop 4).isEmpty then trimE (s.take 4) else s.take 4)).1 ++ t
    else none
/-- The text whose letters these are. -/
def decL (s : List UInt8) : Option (List UInt8) := if s.length % 4 = 0 then decK s.length s else none
theorem outsN_len (X N : Nat) : ∀ j, (outsN X N j).length = j
  | 0 => rfl
  | j + 1 => by rw [outsN, List.length_append, outsN_len X N j]; rfl
theorem group_len {l : List UInt8} (h : l.length ≤ 4) : (groupB l).1.length ≤ 3 := by
  unfold groupB
  split
  · rw [outsN_len]; omega
  · simp
theorem decK_fuel : ∀ (k m : Nat) (l : List UInt8), l.length ≤ k → l.length ≤ m → decK k l = decK m l
  | 0, m, l, h, _ => by
    have : l = [] := List.eq_nil_of_length_eq_zero (by omega)
    subst this
    cases m <;> rfl
  | k + 1, 0, l, _, h => by
    have : l = [] := List.eq_nil_of_length_eq_zero (by omega)
    subst this; rfl
  | k + 1, m + 1, l, h1, h2 => by
    unfold decK
    cases l with
    | nil => rfl
    | cons c t =>
      rw [decK_fuel k m _ (by rw [List.length_drop]; simp at h1 ⊢; omega) (by rw [List.length_drop]; simp at h2 ⊢; omega)]
def decD (l : List UInt8) : Option (List UInt8) := decK l.length l
def lastG (l : List UInt8) : List UInt8 := if (l.drop 4).isEmpty then trimE (l.take 4) else l.take 4
theorem decD_nil : decD [] = some [] := rfl
theorem decD_step {l : List UInt8} (h : 0 < l.length) : decD l = if (groupB (lastG l)).2 then (decD (l.drop 4)).map ((groupB (lastG l)).1 ++ ·) else none := by
  have e : l.length = (l.length - 1) + 1 := by omega
  unfold decD
  rw [e]
  conv => lhs; unfold decK
  rw [if_neg (by simpa using List.length_pos_iff.1 h)]
  rw [decK_fuel (l.length - 1) (l.drop 4).length _ (by rw [List.length_drop]; omega) (Nat.le_refl _)]
  rfl
theorem trim_len (l : List UInt8) : (trimE l).length ≤ l.length := by
  have h : ∀ l : List UInt8, (Lib.trimSuffix l [61]).length ≤ l.length := fun l => by
    unfold Lib.trimSuffix
    split
    · rw [List.length_take]; omega
    · exact Nat.le_refl _
  exact Nat.le_trans (h _) (h _)
theorem lastG_len (l : List UInt8) : (lastG l).length ≤ 4 := by
  unfold lastG
  split
  · have := trim_len (l.take 4); rw [List.length_take] at this; omega
  · rw [List.length_take]; omega
end Go.Proofs.YtheihlalgekojaaDoor
