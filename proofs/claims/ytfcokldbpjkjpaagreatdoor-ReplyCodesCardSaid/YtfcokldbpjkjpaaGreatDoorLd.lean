/-
  Walks over the reference of package line: a byte of a text, a target, a request's line.
-/
import Derived.Test.YtfcokldbpjkjpaaGreatDoorLa
import Derived.Test.YtfcokldbpjkjpaaGreatDoorB
import Derived.Test.YtfcokldbpjkjpaaGreatDoorP8
namespace Go.Proofs.YtfcokldbpjkjpaaGreatDoor
open Go.RowKit

def allL : List UInt8 := [97, 98, 99, 100, 101, 102, 103, 104, 105, 106, 107, 108, 109, 110, 111, 112, 113, 114, 115, 116, 117, 118, 119, 120, 121, 122, 65, 66, 67, 68, 69, 70, 71, 72, 73, 74, 75, 76, 77, 78, 79, 80, 81, 82, 83, 84, 85, 86, 87, 88, 89, 90, 48, 49, 50, 51, 52, 53, 54, 55, 56, 57, 45, 46, 95, 126, 33, 36, 38, 39, 40, 41, 42, 43, 44, 59, 61, 58, 64, 47]
set_option maxRecDepth 100000 in
theorem all_path (c : UInt8) : allL.contains c = isPath c := by
  refine u8_all (p := fun c => allL.contains c = isPath c) ?_ c
  decide +kernel
/-- Where the first question mark stands among the first k bytes; below 0: nowhere. -/
def MarkAt (l : List UInt8) (k : Nat) (m : Int) : Prop := (m = -1 ∧ ∀ j, (hj : j < l.length) → j < k → l[j] ≠ 63) ∨ ∃ j : Nat, m = j ∧ j < k ∧ ∃ hj : j < l.length, l[j] = 63 ∧ ∀ i, (hi : i < j) → l[i]'(by omega) ≠ 63
theorem MarkAt.other {l : List UInt8} {k : Nat} {m : Int} (h : MarkAt l k m) {n : Nat} (hn : ∀ j, (hj : j < l.length) → k ≤ j → j < k + n → l[j] ≠ 63) : MarkAt l (k + n) m := by
  rcases h with ⟨h1, h2⟩ | ⟨j, h1, h2, h3, h4, h5⟩
  · refine .inl ⟨h1, fun j hj hk => ?_⟩
    by_cases h : j < k
    · exact h2 j hj h
    · exact hn j hj (by omega) hk
  · exact .inr ⟨j, h1, by omega, h3, h4, h5⟩
theorem MarkAt.first {l : List UInt8} {k : Nat} {m : Int} (h : MarkAt l k m) (hm : m < 0) (hk : k < l.length) (hc : l[k] = 63) : MarkAt l (k + 1) k := by
  rcases h with ⟨h1, h2⟩ | ⟨j, h1, h2, h3, h4, h5⟩
  · exact .inr ⟨k, rfl, by omega, hk, hc, fun i hi => h2 i (by omega) hi⟩
  · omega
theorem MarkAt.again {l : List UInt8} {k : Nat} {m : Int} (h : MarkAt l k m) (hm : ¬ m < 0) : MarkAt l (k + 1) m := by
  rcases h with ⟨h1, h2⟩ | ⟨j, h1, h2, h3, h4, h5⟩
  · omega
  · exact .inr ⟨j, h1, by omega, h3, h4, h5⟩
theorem MarkAt.le {l : List UInt8} {k : Nat} {m : Int} (h : MarkAt l k m) (_hk : k ≤ l.length) : -1 ≤ m ∧ m < l.length ∨ m = -1 := by
  rcases h with ⟨h1, h2⟩ | ⟨j, h1, h2, h3, h4, h5⟩ <;> omega
theorem MarkAt.cut {l : List UInt8} {m : Int} (h : MarkAt l l.length m) : (m < 0 ∧ Lib.cut l [63] = (l, [], false)) ∨ ∃ j : Nat, m = j ∧ j < l.length ∧ Lib.cut l [63] = (l.take j, l.drop (j + 1), true) := by
  rcases h with ⟨h1, h2⟩ | ⟨j, h1, h2, h3, h4, h5⟩
  · exact .inl ⟨by omega, cut_none fun j hj => h2 j hj hj⟩
  · exact .inr ⟨j, h1, h3, cut_at h3 h4 h5⟩
def TRel (l : List UInt8) (k : Nat) (m : Int) : Prop := plainT true (l.drop k) = plainT true l ∧ MarkAt l k m
theorem TRel.next {l : List UInt8} {k : Nat} {m : Int} (h : TRel l k m) (hk : k < l.length) (hp : isPath l[k] = true) : TRel l (k + 1) m := by
  refine ⟨?_, h.2.other (n := 1) fun j hj h1 h2 => ?_⟩
  · rw [← h.1, List.drop_eq_getElem_cons hk, plainT_path _ (by rw [hp]; rfl)]
  · obtain rfl : j = k := by omega
    intro e; rw [e, path_63] at hp; cases hp
theorem TRel.mark {l : List UInt8} {k : Nat} {m : Int} (h : TRel l k m) (hk : k < l.length) (hc : l[k] = 63) (hm : m < 0) : TRel l (k + 1) k :=
  ⟨by rw [← h.1, List.drop_eq_getElem_cons hk, plainT_path _ (by rw [hc]; rfl)], h.2.first hm hk hc⟩
theorem TRel.more {l : List UInt8} {k : Nat} {m : Int} (h : TRel l k m) (hk : k < l.length) (hc : l[k] = 63) (hm : ¬ m < 0) : TRel l (k + 1) m :=
  ⟨by rw [← h.1, List.drop_eq_getElem_cons hk, plainT_path _ (by rw [hc]; rfl)], h.2.again hm⟩
theorem TRel.pct {l : List UInt8} {k : Nat} {m : Int} (h : TRel l k m) (hk : k + 2 < l.length) (hc : l[k] = 37) (ha : isHex l[k + 1] = true) (hb : isHex l[k + 2] = true) : TRel l (k + 3) m := by
  refine ⟨?_, h.2.other (n := 3) fun j hj h1 h2 => ?_⟩
  · rw [← h.1, plain_pct3 hk hc, ha, hb]; rfl
  · intro e
    rcases (show j = k ∨ j = k + 1 ∨ j = k + 2 by omega) with rfl | rfl | rfl
    · rw [hc] at e; revert e; decide
    · rw [e, hex_63] at ha; cases ha
    · rw [e, hex_63] at hb; cases hb
theorem TRel.bad {l : List UInt8} {k : Nat} {m : Int} (h : TRel l k m) (hk : k < l.length) (h63 : l[k] ≠ 63) (hp : isPath l[k] = false) (h37 : l[k] ≠ 37) : plainT true l = false := by
  rw [← h.1, List.drop_eq_getElem_cons hk]
  exact plainT_bad _ (by rw [hp]; simpa using h63) h37
theorem TRel.badp {l : List UInt8} {k : Nat} {m : Int} (h : TRel l k m) (hk : k < l.length) (hc : l[k] = 37) (hx : l.length ≤ k + 2 ∨ ∃ h2 : k + 2 < l.length, isHex l[k + 1] = false ∨ isHex l[k + 2] = false) : plainT true l = false := by
  rw [← h.1]
  rcases hx with hx | ⟨h2, hx⟩
  · exact plain_short hk hx hc
  · rw [plain_pct3 h2 hc]
    rcases hx with hx | hx <;> rw [hx] <;> simp

end Go.Proofs.YtfcokldbpjkjpaaGreatDoor
