/-
  Walks over package line: a target's text, a target, a request's line.
-/
import Derived.Test.YtfcokldbpjkjpaaGreatDoorD
import Derived.Test.YtfcokldbpjkjpaaGreatDoorP7
import Derived.Maps.Own
import Derived.Maps.OwnOps
import Derived.Maps.Views
namespace Go.Proofs.YtfcokldbpjkjpaaGreatDoor
open Go.RowKit Go.Maps Go.ChangeMaps

def IdxYes (w : World) (e : Ending) (w' : World) : Prop := ∃ n : Int, 0 ≤ n ∧ e = .returned (.int .i64 n) ∧ w = w'
def IdxNo (w : World) (e : Ending) (w' : World) : Prop := ∃ n : Int, n < 0 ∧ e = .returned (.int .i64 n) ∧ w = w'
theorem idx_yes (M : List UInt8) (c : UInt8) (h : M.contains c = true) (w : World) : Calls Tryz.prog 66 #[.string ⟨M.toArray⟩, .int .u8 c.toNat] w (IdxYes w) :=
  (Tryz.strings_IndexByte ⟨M.toArray⟩ c.toNat w).mono fun e w' ⟨he, hw⟩ => ⟨_, by
    have := indexByte_nonneg M c
    rw [h, decide_eq_true_eq] at this
    rw [toNat_u8]; exact this, he, hw.symm⟩
theorem idx_no (M : List UInt8) (c : UInt8) (h : M.contains c = false) (w : World) : Calls Tryz.prog 66 #[.string ⟨M.toArray⟩, .int .u8 c.toNat] w (IdxNo w) :=
  (Tryz.strings_IndexByte ⟨M.toArray⟩ c.toNat w).mono fun e w' ⟨he, hw⟩ => ⟨_, by
    have := indexByte_nonneg M c
    rw [h, decide_eq_false_iff_not] at this
    rw [toNat_u8]
    show Lib.indexByte M c < 0
    omega, he, hw.symm⟩

def moreL (q : Bool) : List UInt8 := if q then [63] else []
theorem path_more (q : Bool) (c : UInt8) : (isPath c || (q && c == 63)) = (isLetter c || (pmarks ++ moreL q).contains c) := by
  unfold isPath moreL
  cases q
  · simp
  · rw [if_pos rfl, List.contains_append, Bool.true_and, Bool.or_assoc]
    congr 2
    rw [Bool.eq_iff_iff]; simp
theorem letter_ways {c : UInt8} (h : isLetter c = true) : (97 ≤ (c.toNat : Int) ∧ (c.toNat : Int) ≤ 122) ∨ (65 ≤ (c.toNat : Int) ∧ (c.toNat : Int) ≤ 90) ∨ (48 ≤ (c.toNat : Int) ∧ (c.toNat : Int) ≤ 57) := by
  rw [letter_eq] at h; simpa using h
theorem letter_not {c : UInt8} (h : isLetter c = false) : (c.toNat : Int) < 48 ∨ (57 < (c.toNat : Int) ∧ (c.toNat : Int) < 65) ∨ (90 < (c.toNat : Int) ∧ (c.toNat : Int) < 97) ∨ 122 < (c.toNat : Int) := by
  rw [letter_eq] at h
  simp only [decide_eq_false_iff_not] at h
  omega
theorem plain_next {q : Bool} {l : List UInt8} {k : Nat} (hk : k < l.length) (h : (isLetter l[k] || (pmarks ++ moreL q).contains l[k]) = true) : plainT q (l.drop k) = plainT q (l.drop (k + 1)) := by
  rw [List.drop_eq_getElem_cons hk]; exact plainT_path _ ((path_more q _).trans h)
theorem plain_bad {q : Bool} {l : List UInt8} {k : Nat} (hk : k < l.length) (h : (isLetter l[k] || (pmarks ++ moreL q).contains l[k]) = false) (h2 : l[k] ≠ 37) : plainT q (l.drop k) = false := by
  rw [List.drop_eq_getElem_cons hk]; exact plainT_bad _ ((path_more q _).trans h) h2
theorem plain_pct3 {q : Bool} {l : List UInt8} {k : Nat} (hk : k + 2 < l.length) (h : l[k] = 37) : plainT q (l.drop k) = (isHex l[k + 1] && isHex l[k + 2] && plainT q (l.drop (k + 3))) := by
  rw [List.drop_eq_getElem_cons (by omega), h, plainT_pct, List.drop_eq_getElem_cons (show k + 1 < l.length by omega), List.drop_eq_getElem_cons (show k + 1 + 1 < l.length by omega)]; rfl
theorem plain_short {q : Bool} {l : List UInt8} {k : Nat} (hk : k < l.length) (hs : l.length ≤ k + 2) (h : l[k] = 37) : plainT q (l.drop k) = false := by
  rw [List.drop_eq_getElem_cons hk, h, plainT_pct]
  have hl : (l.drop (k + 1)).length ≤ 1 := by rw [List.length_drop]; omega
  match l.drop (k + 1), hl with
  | [], _ => rfl
  | [a], _ => rfl

/-- The result of Target. -/
def tgV (r : List UInt8 × List UInt8 × Bool) : Value := .tuple #[.string ⟨r.1.toArray⟩, .string ⟨r.2.1.toArray⟩, .bool r.2.2]
theorem target_eq {l p q : List UInt8} {d : Bool} (h : Lib.cut l [63] = (p, q, d)) : targetB l = if decide (l.length ≤ 512) && ((Lib.hasPrefix p [47]) && (plainT false p && plainT true q)) then (p, q, true) else ([], [], false) := by
  unfold targetB; rw [h]
theorem prefix_is (l p : List UInt8) (b : Bool) (h : Lib.hasPrefix l p = b) (w : World) : Calls Tryz.prog 39 #[.string ⟨l.toArray⟩, .string ⟨p.toArray⟩] w fun e w' => e = .returned (.bool b) ∧ w = w' :=
  (Tryz.strings_HasPrefix ⟨l.toArray⟩ ⟨p.toArray⟩ w).mono fun e w' ⟨he, hw⟩ => ⟨by rw [he]; exact congrArg (fun b => Ending.returned (.bool b)) h, hw.symm⟩

end Go.Proofs.YtfcokldbpjkjpaaGreatDoor
