/-
  Plain laws: the parts of a text.
-/
import Derived.Test.YtheihlalgekojaaGreatDoorP1
namespace Go.Proofs.YtheihlalgekojaaGreatDoor

/-- What stands between the separators. -/
def splitB (c : UInt8) : List UInt8 → List (List UInt8)
  | [] => [[]]
  | b :: t => if b = c then [] :: splitB c t else match splitB c t with | h :: r => (b :: h) :: r | [] => [[b]]
theorem splitB_ne (c : UInt8) (l : List UInt8) : splitB c l ≠ [] := by
  cases l with
  | nil => simp [splitB]
  | cons b t =>
    unfold splitB
    split
    · simp
    · split <;> simp
theorem splitB_none (c : UInt8) : ∀ (l : List UInt8), (∀ j, (hj : j < l.length) → l[j] ≠ c) → splitB c l = [l]
  | [], _ => rfl
  | b :: t, h => by
    have h0 : b ≠ c := h 0 (by simp)
    have ht := splitB_none c t (fun j hj => h (j + 1) (by simp; omega))
    unfold splitB
    rw [if_neg h0, ht]
theorem splitB_cons (c b : UInt8) (t : List UInt8) : splitB c (b :: t) = if b = c then [] :: splitB c t else match splitB c t with | h :: r => (b :: h) :: r | [] => [[b]] := rfl
theorem splitB_at (c : UInt8) : ∀ (l : List UInt8) (k : Nat) (hk : k < l.length), l[k] = c → (∀ j, (hj : j < k) → l[j]'(by omega) ≠ c) → splitB c l = l.take k :: splitB c (l.drop (k + 1))
  | [], k, hk, _, _ => by simp at hk
  | b :: t, 0, _, h, _ => by
    have : b = c := h
    rw [splitB_cons, if_pos this]; rfl
  | b :: t, k + 1, hk, h, hb => by
    have h0 : b ≠ c := hb 0 (by omega)
    have ht := splitB_at c t k (by simpa using hk) h (fun j hj => hb (j + 1) (by omega))
    rw [splitB_cons, if_neg h0, ht]
    rfl
theorem indexByte_spec (l : List UInt8) (c : UInt8) : (Lib.indexByte l c = -1 ∧ ∀ j, (hj : j < l.length) → l[j] ≠ c) ∨
    ∃ k : Nat, Lib.indexByte l c = k ∧ ∃ hk : k < l.length, l[k] = c ∧ ∀ j, (hj : j < k) → l[j]'(by omega) ≠ c := by
  induction l with
  | nil => exact .inl ⟨rfl, fun j hj => by simp at hj⟩
  | cons b t ih =>
    unfold Lib.indexByte
    by_cases hb : b = c
    · exact .inr ⟨0, by simp [hb], by simp, hb, fun j hj => by omega⟩
    · have hb' : (b == c) = false := beq_eq_false_iff_ne.2 hb
      rw [hb']
      rcases ih with ⟨h1, h2⟩ | ⟨k, h1, hk, h2, h3⟩
      · refine .inl ⟨by simp [h1], fun j hj => ?_⟩
        cases j with
        | zero => exact hb
        | succ j => exact h2 j (by simpa using hj)
      · refine .inr ⟨k + 1, ?_, by simpa using hk, h2, fun j hj => ?_⟩
        · have : (Lib.indexByte t c == -1) = false := beq_eq_false_iff_ne.2 (by omega)
          simp [h1]
        · cases j with
          | zero => exact hb
          | succ j => exact h3 j (by omega)
theorem splitB_len (c : UInt8) : ∀ (l x : List UInt8), x ∈ splitB c l → x.length ≤ l.length
  | [], x, h => by
    have : x = [] := by simpa [splitB] using h
    simp [this]
  | b :: t, x, h => by
    rw [splitB_cons] at h
    have ih := splitB_len c t
    split at h
    · rcases List.mem_cons.1 h with h | h
      · simp [h]
      · have := ih x h; simp; omega
    · cases hs : splitB c t with
      | nil => rw [hs] at h; simp at h; simp [h]
      | cons y r =>
        rw [hs] at h ih
        rcases List.mem_cons.1 h with h | h
        · have := ih y (by simp); simp [h]; omega
        · have := ih x (by simp [h]); simp; omega
theorem trimB_len (l : List UInt8) : (trimB l).length ≤ l.length := by
  rw [trimB_eq]
  unfold ldrop rdrop
  have h1 := (List.dropWhile_suffix (p := isBlank) (l := (l.reverse.dropWhile isBlank).reverse)).length_le
  have h2 := (List.dropWhile_suffix (p := isBlank) (l := l.reverse)).length_le
  simp at h1 h2 ⊢
  omega
theorem splitB_length (c : UInt8) : ∀ (l : List UInt8), (splitB c l).length ≤ l.length + 1
  | [] => by simp [splitB]
  | b :: t => by
    have ih := splitB_length c t
    rw [splitB_cons]
    split
    · simp; omega
    · split
      · rename_i h; rw [h] at ih; simp at ih ⊢; omega
      · simp
def partsOf (ps : List (List UInt8)) : List (List UInt8) := (ps.map trimB).filter (fun p => !p.isEmpty)
theorem partsOf_snoc_0 (ps : List (List UInt8)) (x : List UInt8) (h : trimB x = []) : partsOf (ps ++ [x]) = partsOf ps := by
  unfold partsOf; simp [h]
theorem partsOf_snoc_s (ps : List (List UInt8)) (x : List UInt8) (h : trimB x ≠ []) : partsOf (ps ++ [x]) = partsOf ps ++ [trimB x] := by
  unfold partsOf; simp [h]
theorem partsOf_len (ps : List (List UInt8)) : (partsOf ps).length ≤ ps.length := by
  unfold partsOf
  exact Nat.le_trans (List.length_filter_le _ _) (by simp)
/-- The parts of a value. -/
def partsB (l : List UInt8) : List (List UInt8) := ((splitB 44 l).map trimB).filter (fun p => !p.isEmpty)
def hasB (l word : List UInt8) : Bool := (partsB l).any (fun p => alikeB p word)
theorem partsB_len (l x : List UInt8) (h : x ∈ partsB l) : x.length ≤ l.length := by
  unfold partsB at h
  rw [List.mem_filter, List.mem_map] at h
  obtain ⟨⟨y, hy, rfl⟩, _⟩ := h
  exact Nat.le_trans (trimB_len y) (splitB_len 44 l y hy)
/-- How far Parts is: the pieces that are done, where the next one begins, and where the reader is. -/
def PartsAt (l : List UInt8) (k a : Nat) (done : List (List UInt8)) : Prop :=
  (k ≤ l.length ∧ a ≤ k ∧ splitB 44 l = done ++ splitB 44 (l.drop a) ∧ ∀ j, a ≤ j → j < k → (hj : j < l.length) → l[j] ≠ 44) ∨ (k = l.length + 1 ∧ a = k ∧ splitB 44 l = done)
theorem PartsAt.begin (l : List UInt8) : PartsAt l 0 0 [] := .inl ⟨Nat.zero_le _, Nat.le_refl _, rfl, fun j _ h => by omega⟩
theorem PartsAt.skip {l : List UInt8} {k a : Nat} {done : List (List UInt8)} (h : PartsAt l k a done) (hk : k < l.length) (hc : l[k] ≠ 44) : PartsAt l (k + 1) a done := by
  rcases h with ⟨h1, h2, h3, h4⟩ | ⟨h1, _, _⟩
  · refine .inl ⟨hk, by omega, h3, fun j ha hj hl => ?_⟩
    by_cases e : j = k
    · subst e; exact hc
    · exact h4 j ha (by omega) hl
  · omega
theorem PartsAt.piece {l : List UInt8} {k a : Nat} {done : List (List UInt8)} (h : PartsAt l k a done) (hk : k ≤ l.length) (hc : k = l.length ∨ ∃ hk : k < l.length, l[k] = 44) : PartsAt l (k + 1) (k + 1) (done ++ [(l.take k).drop a]) := by
  rcases h with ⟨h1, h2, h3, h4⟩ | ⟨h1, _, _⟩
  · have hd : ∀ j, (hj : j < k - a) → (hl : j < (l.drop a).length) → (l.drop a)[j] ≠ 44 := fun j hj hl => by
      rw [List.getElem_drop]; exact h4 (a + j) (by omega) (by omega) (by simp at hl; omega)
    rcases hc with hc | ⟨hlt, hc⟩
    · refine .inr ⟨by omega, rfl, ?_⟩
      rw [h3, splitB_none 44 (l.drop a) (fun j hj => hd j (by simp at hj; omega) hj), List.take_of_length_le (by omega)]
    · refine .inl ⟨hlt, Nat.le_refl _, ?_, fun j ha hj => by omega⟩
      have e44 : (l.drop a)[k - a]'(by simp; omega) = 44 := by
        rw [List.getElem_drop, ← hc]
        congr 1
        omega
      rw [h3, splitB_at 44 (l.drop a) (k - a) (by simp; omega) e44 (fun j hj => hd j hj (by simp; omega))]
      rw [List.append_assoc, List.singleton_append, List.drop_drop, List.drop_take]
      have : a + (k - a + 1) = k + 1 := by omega
      rw [this]
  · omega
theorem PartsAt.len {l : List UInt8} {k a : Nat} {done : List (List UInt8)} (h : PartsAt l k a done) : done.length ≤ l.length + 1 := by
  have := splitB_length 44 l
  rcases h with ⟨_, _, h3, _⟩ | ⟨_, _, h3⟩
  · rw [h3, List.length_append] at this; omega
  · rw [h3] at this; exact this
theorem PartsAt.fin {l : List UInt8} {k a : Nat} {done : List (List UInt8)} (h : PartsAt l k a done) (hk : ¬ k ≤ l.length) : partsB l = partsOf done := by
  rcases h with ⟨h1, _, _, _⟩ | ⟨_, _, h3⟩
  · exact absurd h1 hk
  · unfold partsB partsOf; rw [h3]
end Go.Proofs.YtheihlalgekojaaGreatDoor
