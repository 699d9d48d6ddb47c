/-
  Plain laws of what steps add to a reply, and of what they refuse with.
-/
import Derived.Test.YtolpphmgobeocaaDoorP5
namespace Go.Proofs.YtolpphmgobeocaaDoor

/-- How many of the steps add a field. -/
def addsN (l : List Stp) : Nat := (l.filter fun s => s.kind == 1 || s.kind == 5).length
theorem addsN_snoc (l : List Stp) (s : Stp) : addsN (l ++ [s]) = addsN l + if s.kind == 1 || s.kind == 5 then 1 else 0 := by
  unfold addsN
  rw [List.filter_append, List.length_append]
  cases h : (s.kind == 1 || s.kind == 5) <;> simp [h]
theorem addsN_le (l : List Stp) : addsN l ≤ l.length := List.length_filter_le _ _
theorem addsN_take (l : List Stp) (k : Nat) : addsN (l.take k) ≤ addsN l := by
  conv => rhs; rw [← List.take_append_drop k l]
  unfold addsN
  rw [List.filter_append, List.length_append]; omega
def KindOk (s : Stp) : Prop := s.kind = 1 ∨ s.kind = 2 ∨ s.kind = 3 ∨ s.kind = 4 ∨ s.kind = 5
theorem adds_length {s : Stp} (h : KindOk s) (fs : List (List UInt8 × List UInt8)) : (adds s fs).length = if s.kind == 1 || s.kind == 5 then 1 else 0 := by
  unfold adds
  rcases h with h | h | h | h | h <;> rw [h] <;> rfl
theorem backB_length : ∀ (l : List Stp) (fs : List (List UInt8 × List UInt8)), (∀ s ∈ l, KindOk s) → (backB l fs).length = addsN l
  | [], _, _ => rfl
  | s :: l, fs, h => by
    rw [backB_cons, List.length_append, backB_length l fs (fun x hx => h x (List.mem_cons_of_mem _ hx)), adds_length (h s (List.mem_cons_self ..))]
    unfold addsN
    rw [List.filter_cons]
    cases (s.kind == 1 || s.kind == 5) <;> rfl
theorem refuses_with {s : Stp} {r : Rq} {y : Rp} (h : refuses s r = some y) : y = rForb ∨ y = rNone ∨ y = rLong := by
  unfold refuses at h
  split at h
  · split at h
    · cases h; exact .inl rfl
    · split at h
      · cases h; exact .inl rfl
      · cases h
  · split at h
    · split at h
      · cases h; exact .inr (.inr rfl)
      · cases h
    · split at h
      · split at h
        · cases h; exact .inr (.inl rfl)
        · split at h
          · cases h; exact .inr (.inl rfl)
          · cases h
      · cases h
theorem goesB_with : ∀ (l : List Stp) (r : Rq) (y : Rp), (goesB l r).2.2 = some y → y = rForb ∨ y = rNone ∨ y = rLong
  | [], r, y, h => by cases h
  | s :: l, r, y, h => by
    unfold goesB at h
    cases hr : refuses s r with
    | some x => rw [hr] at h; cases h; exact refuses_with hr
    | none => rw [hr] at h; exact goesB_with l (turns s r) y h
end Go.Proofs.YtolpphmgobeocaaDoor
