/-
  Rows of one's own memory that hold elements of several cells: plain laws.
-/
import Derived.Test.YtolpphmgobeocaaDoorRf
import Derived.Laws.OwnMore
import Derived.Deep.Onto
import Derived.Maps.AppendAt
namespace Go.Proofs.YtolpphmgobeocaaDoor
open Go.RowKit

section
variable {α : Type} (f : α → List Value) (k : Nat)
/-- Elements, cell by cell. -/
def rcells (xs : List α) : List Value := xs.flatMap f
variable {f k}
theorem rcells_app (xs ys : List α) : rcells f (xs ++ ys) = rcells f xs ++ rcells f ys := by simp [rcells]
theorem rcells_one1 (x : α) : rcells f [x] = f x := by simp [rcells]
theorem rcells_len (hk : ∀ x, (f x).length = k) (xs : List α) : (rcells f xs).length = xs.length * k := by
  unfold rcells
  induction xs with
  | nil => simp
  | cons x t ih => rw [List.flatMap_cons, List.length_append, ih, hk, List.length_cons, Nat.succ_mul]; omega
theorem rcells_get (hk : ∀ x, (f x).length = k) (xs : List α) (i j : Nat) (hi : i < xs.length) (hj : j < k) : (rcells f xs)[i * k + j]? = (f xs[i])[j]? := by
  unfold rcells
  induction xs generalizing i with
  | nil => cases hi
  | cons x t ih =>
    rw [List.flatMap_cons]
    cases i with
    | zero => rw [Nat.zero_mul, Nat.zero_add, List.getElem?_append_left (by rw [hk]; exact hj)]; rfl
    | succ i =>
      rw [List.getElem?_append_right (by rw [hk, Nat.succ_mul]; omega), hk, show (i + 1) * k + j - k = i * k + j by rw [Nat.succ_mul]; omega]
      exact ih i (by simpa using hi)
theorem rcells_one (h1 : ∀ x, ∀ u ∈ f x, u.oneCell' = true) (xs : List α) : ∀ u ∈ rcells f xs, u.oneCell' = true := by
  intro u hu
  obtain ⟨x, _, hx⟩ := List.mem_flatMap.1 hu
  exact h1 x u hx
end
/-- A row of one's own stays under changes elsewhere. -/
theorem ownsRow_ch {w w' : World} {B : Nat} {e : TypeId} {size n : Nat} {v : Value} {xs : List Value} {T : Nat → Prop} (h : w.ownsRow B e size v n xs) (hc : Ch T w w') (ht : ∀ k, T k → k < B) : w'.ownsRow B e size v n xs := by
  obtain ⟨h1, h2⟩ := h
  refine ⟨h1, ?_⟩
  rcases h2 with h2 | ⟨g, cap, cur, rfl, hb, hh, hn, hm, hcs, ht'⟩
  · exact .inl h2
  · exact .inr ⟨g, cap, cur, rfl, hb, hc.get hh (fun e => by have := ht _ e; omega), hn, hm, hcs, ht'⟩
theorem ownsRow_old {w w' : World} {B : Nat} {e : TypeId} {size n : Nat} {v : Value} {xs : List Value} {T : Nat → Prop} (h : w.ownsRow B e size v n xs) (hc : Ch T w w') (ht : ∀ k, T k → k < B ∨ w.heap.size ≤ k) : w'.ownsRow B e size v n xs := by
  obtain ⟨h1, h2⟩ := h
  refine ⟨h1, ?_⟩
  rcases h2 with h2 | ⟨g, cap, cur, rfl, hb, hh, hn, hm, hcs, ht'⟩
  · exact .inl h2
  · exact .inr ⟨g, cap, cur, rfl, hb, hc.get hh (fun e => by have := ht _ e; have := (Array.getElem?_eq_some_iff.1 hh).1; omega), hn, hm, hcs, ht'⟩
theorem ownsRow_gr {w w' : World} {B : Nat} {e : TypeId} {size n : Nat} {v : Value} {xs : List Value} (h : w.ownsRow B e size v n xs) (hc : Gr w w') : w'.ownsRow B e size v n xs :=
  ownsRow_ch h (hc.to_ch (fun _ => False)) (fun _ h => h.elim)
theorem ownsRow_slice {w : World} {B : Nat} {e : TypeId} {size n : Nat} {v : Value} {xs : List Value} (h : w.ownsRow B e size v n xs) : ∃ p cap, v = .slice p n cap := by
  rcases h.2 with ⟨rfl, h0⟩ | ⟨g, cap, cur, rfl, _⟩
  · exact ⟨none, 0, by rw [h0]⟩
  · exact ⟨_, cap, rfl⟩
/-- The cells of a row of one's own. -/
theorem ownsRow_cell {w : World} {B : Nat} {e : TypeId} {size n : Nat} {v : Value} {xs : List Value} (h : w.ownsRow B e size v n xs) (hn : 0 < n) : ∃ g cap, v = .slice (some ⟨g, 0, none⟩) n cap ∧ B ≤ g ∧ g < w.heap.size ∧ ∀ j, j < n * size → w.cell? ⟨g, j, none⟩ = xs[j]? := by
  have h' := h
  rcases h.2 with ⟨_, h0⟩ | ⟨g, cap, cur, rfl, hb, hh, _⟩
  · omega
  · exact ⟨g, cap, rfl, hb, (Array.getElem?_eq_some_iff.1 hh).1, fun j hj => World.ownsRow.cellAt h' j hj⟩
theorem ch_grown {w w' : World} {row : Option Nat} (h : w.grownBy w' row) : Ch (fun k => row = some k) w w' :=
  ⟨h.os, h.tape, h.output, h.size, fun k hk hn => h.block k hk (fun e => hn e.symm)⟩
/-- Cells of a new block. -/
theorem cells_new (w : World) (cs : List Value) (t : TypeId) : ∀ j u, cs[j]? = some u → (w.alloc (.cells cs.toArray t)).cell? ((⟨w.heap.size, 0, none⟩ : Addr).add j) = some u := by
  intro j u hj
  have hh : (w.alloc (.cells cs.toArray t)).heap[w.heap.size]? = some (.cells cs.toArray t (0, 0)) := World.alloc_heap_new w _
  have e : (⟨w.heap.size, 0, none⟩ : Addr).add j = ⟨w.heap.size, j, none⟩ := by
    by_cases h0 : j = 0 <;> simp [Addr.add, h0]
  rw [e]
  simp only [World.cell?, hh]
  simpa using hj
end Go.Proofs.YtolpphmgobeocaaDoor
