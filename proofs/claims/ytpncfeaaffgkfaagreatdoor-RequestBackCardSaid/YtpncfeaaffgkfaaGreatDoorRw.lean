/-
  Rows of one's own memory that hold elements of several cells: plain laws.
  Rows of bytes of one's own: laws and conversions.
-/
import Derived.Test.YtpncfeaaffgkfaaGreatDoorRf
import Derived.Laws.OwnMore
import Derived.Deep.Onto
import Derived.Maps.AppendAt
import Derived.Test.YtpncfeaaffgkfaaGreatDoorChecked
import Derived.Test.YtpncfeaaffgkfaaGreatDoorP0
import Derived.WalkKit
import Derived.Lib.AppendStr
import Derived.Laws.IdiomStrings
import Derived.Laws.BytesArg
namespace Go.Proofs.YtpncfeaaffgkfaaGreatDoor
open Go.RowKit

section
variable {α : Type} (f : α → List Value) (k : Nat)
/-- Elements, cell by cell. -/
def rcells (xs : List α) : List Value := xs.flatMap f
variable {f k}
theorem rcells_app (xs ys : List α) : rcells f (xs ++ ys) = rcells f xs ++ rcells f ys := by simp [rcells]
theorem rcells_one1 (x : α) : rcells f [x] = f x := by simp [rcells]
theorem rcells_len (hk : ∀ x, (f x).length = k) (xs : List α) : (rcells f xs).length = xs.length * k := by
  unfold rcells
  induction xs with
  | nil => simp
  | cons x t ih => rw [List.flatMap_cons, List.length_append, ih, hk, List.length_cons, Nat.succ_mul]; omega
theorem rcells_get (hk : ∀ x, (f x).length = k) (xs : List α) (i j : Nat) (hi : i < xs.length) (hj : j < k) : (rcells f xs)[i * k + j]? = (f xs[i])[j]? := by
  unfold rcells
  induction xs generalizing i with
  | nil => cases hi
  | cons x t ih =>
    rw [List.flatMap_cons]
    cases i with
    | zero => rw [Nat.zero_mul, Nat.zero_add, List.getElem?_append_left (by rw [hk]; exact hj)]; rfl
    | succ i =>
      rw [List.getElem?_append_right (by rw [hk, Nat.succ_mul]; omega), hk, show (i + 1) * k + j - k = i * k + j by rw [Nat.succ_mul]; omega]
      exact ih i (by simpa using hi)
theorem rcells_one (h1 : ∀ x, ∀ u ∈ f x, u.oneCell' = true) (xs : List α) : ∀ u ∈ rcells f xs, u.oneCell' = true := by
  intro u hu
  obtain ⟨x, _, hx⟩ := List.mem_flatMap.1 hu
  exact h1 x u hx
end
/-- A row of one's own stays under changes elsewhere. -/
theorem ownsRow_ch {w w' : World} {B : Nat} {e : TypeId} {size n : Nat} {v : Value} {xs : List Value} {T : Nat → Prop} (h : w.ownsRow B e size v n xs) (hc : Ch T w w') (ht : ∀ k, T k → k < B) : w'.ownsRow B e size v n xs := by
  obtain ⟨h1, h2⟩ := h
  refine ⟨h1, ?_⟩
  rcases h2 with h2 | ⟨g, cap, cur, rfl, hb, hh, hn, hm, hcs, ht'⟩
  · exact .inl h2
  · exact .inr ⟨g, cap, cur, rfl, hb, hc.get hh (fun e => by have := ht _ e; omega), hn, hm, hcs, ht'⟩
theorem ownsRow_old {w w' : World} {B : Nat} {e : TypeId} {size n : Nat} {v : Value} {xs : List Value} {T : Nat → Prop} (h : w.ownsRow B e size v n xs) (hc : Ch T w w') (ht : ∀ k, T k → k < B ∨ w.heap.size ≤ k) : w'.ownsRow B e size v n xs := by
  obtain ⟨h1, h2⟩ := h
  refine ⟨h1, ?_⟩
  rcases h2 with h2 | ⟨g, cap, cur, rfl, hb, hh, hn, hm, hcs, ht'⟩
  · exact .inl h2
  · exact .inr ⟨g, cap, cur, rfl, hb, hc.get hh (fun e => by have := ht _ e; have := (Array.getElem?_eq_some_iff.1 hh).1; omega), hn, hm, hcs, ht'⟩
theorem ownsRow_gr {w w' : World} {B : Nat} {e : TypeId} {size n : Nat} {v : Value} {xs : List Value} (h : w.ownsRow B e size v n xs) (hc : Gr w w') : w'.ownsRow B e size v n xs :=
  ownsRow_ch h (hc.to_ch (fun _ => False)) (fun _ h => h.elim)
theorem ownsRow_slice {w : World} {B : Nat} {e : TypeId} {size n : Nat} {v : Value} {xs : List Value} (h : w.ownsRow B e size v n xs) : ∃ p cap, v = .slice p n cap := by
  rcases h.2 with ⟨rfl, h0⟩ | ⟨g, cap, cur, rfl, _⟩
  · exact ⟨none, 0, by rw [h0]⟩
  · exact ⟨_, cap, rfl⟩
/-- The cells of a row of one's own. -/
theorem ownsRow_cell {w : World} {B : Nat} {e : TypeId} {size n : Nat} {v : Value} {xs : List Value} (h : w.ownsRow B e size v n xs) (hn : 0 < n) : ∃ g cap, v = .slice (some ⟨g, 0, none⟩) n cap ∧ B ≤ g ∧ g < w.heap.size ∧ ∀ j, j < n * size → w.cell? ⟨g, j, none⟩ = xs[j]? := by
  have h' := h
  rcases h.2 with ⟨_, h0⟩ | ⟨g, cap, cur, rfl, hb, hh, _⟩
  · omega
  · exact ⟨g, cap, rfl, hb, (Array.getElem?_eq_some_iff.1 hh).1, fun j hj => World.ownsRow.cellAt h' j hj⟩
theorem ch_grown {w w' : World} {row : Option Nat} (h : w.grownBy w' row) : Ch (fun k => row = some k) w w' :=
  ⟨h.os, h.tape, h.output, h.size, fun k hk hn => h.block k hk (fun e => hn e.symm)⟩
/-- Cells of a new block. -/
theorem cells_new (w : World) (cs : List Value) (t : TypeId) : ∀ j u, cs[j]? = some u → (w.alloc (.cells cs.toArray t)).cell? ((⟨w.heap.size, 0, none⟩ : Addr).add j) = some u := by
  intro j u hj
  have hh : (w.alloc (.cells cs.toArray t)).heap[w.heap.size]? = some (.cells cs.toArray t (0, 0)) := World.alloc_heap_new w _
  have e : (⟨w.heap.size, 0, none⟩ : Addr).add j = ⟨w.heap.size, j, none⟩ := by
    by_cases h0 : j = 0 <;> simp [Addr.add, h0]
  rw [e]
  simp only [World.cell?, hh]
  simpa using hj
end Go.Proofs.YtpncfeaaffgkfaaGreatDoor
namespace Go.Proofs.YtpncfeaaffgkfaaGreatDoor
open Go.RowKit
attribute [local go_sem] Oper.semAt_some

theorem infoU8 : (Tryz.prog.info? 5).map (fun i => (i.zero, i.size, i.bytes)) = some (some (.int .u8 0), 1, 1) := by kernel_rfl
/-- Bytes, cell by cell. -/
def bcells (l : List UInt8) : List Value := l.map fun c => Value.int .u8 (c.toNat : Int)
theorem bcells_len (l : List UInt8) : (bcells l).length = l.length := by simp [bcells]
theorem bcells_app (a b : List UInt8) : bcells (a ++ b) = bcells a ++ bcells b := by simp [bcells]
theorem bcells_get (l : List UInt8) (i : Nat) (h : i < l.length) : (bcells l)[i]? = some (.int .u8 (l[i].toNat : Int)) := by simp [bcells, h]
theorem bcells_one (l : List UInt8) : ∀ u ∈ bcells l, u.oneCell' = true := by
  intro u hu
  obtain ⟨c, _, rfl⟩ := List.mem_map.1 hu
  rfl
theorem strCells_eq (l : List UInt8) : Lib.strCells ⟨l.toArray⟩ = bcells l := by simp [Lib.strCells, bcells]
/-- A row of bytes of one's own. -/
abbrev OwnB (B : Nat) (W : World) (v : Value) (l : List UInt8) : Prop := W.ownsRow B 5 1 v l.length (bcells l)
theorem OwnB.row {B : Nat} {W : World} {v : Value} {l : List UInt8} (h : OwnB B W v l) (h0 : 0 < l.length) : ∃ g cap, v = .slice (some ⟨g, 0, none⟩) l.length cap ∧ B ≤ g ∧ g < W.heap.size ∧ (∀ i, (hi : i < l.length) → W.cell? ⟨g, i, none⟩ = some (.int .u8 (l[i].toNat : Int))) ∧ l.length ≤ cap := by
  rcases h.2 with ⟨_, hn⟩ | ⟨g, cap, cur, rfl, hb, hh, hn, hm, hcs, ht⟩
  · omega
  · refine ⟨g, cap, rfl, hb, (h.lt g rfl).2, fun i hi => ?_, hn⟩
    have := World.ownsRow.cells h (g := g) rfl i _ (bcells_get l i hi)
    have e : (⟨g, 0, none⟩ : Addr).add i = ⟨g, i, none⟩ := by
      by_cases h0 : i = 0
      · subst h0; rfl
      · simp [Addr.add, h0]
    rwa [e] at this
theorem OwnB.nil (B : Nat) (W : World) : OwnB B W (.slice none 0 0) [] := World.ownsRow_nil _ _ _ _

theorem conv_take {B : Nat} {W : World} {v : Value} {l : List UInt8} (h : OwnB B W v l) {g cap : Nat} (hv : v = .slice (some ⟨g, 0, none⟩) l.length cap) (k cap' : Nat) (hk : k ≤ l.length) :
    (convert 40 9 (.slice (some ⟨g, 0, none⟩) k cap')).run Tryz.prog W = .ok (.string ⟨(l.take k).toArray⟩) W := by
  have hl : (l.take k).length = k := by rw [List.length_take]; omega
  have := run_convert_bytes_back (P := Tryz.prog) W 40 9 5 ⟨g, 0, none⟩ cap' (l.take k) Tryz.underlying40 Tryz.underlying5 Tryz.underlying9 (fun j hj => by
    have hj' : j < l.length := by omega
    have hc := World.ownsRow.cells h (g := g) (by rw [hv]; rfl) j _ (bcells_get l j hj')
    rw [hc]; simp)
  rwa [hl] at this
theorem cell_new7 (W : World) (cs : List Value) (t : TypeId) (j : Nat) (u : Value) (h : cs[j]? = some u) : (W.alloc (.cells cs.toArray t)).cell? ⟨W.heap.size, j, none⟩ = some u := by
  have := cells_new W cs t j u h
  have e : (⟨W.heap.size, 0, none⟩ : Addr).add j = ⟨W.heap.size, j, none⟩ := by
    by_cases h0 : j = 0 <;> simp [Addr.add, h0]
  rwa [e] at this
theorem conv_all {B : Nat} {W : World} {v : Value} {l : List UInt8} (h : OwnB B W v l) : (convert 40 9 v).run Tryz.prog W = .ok (.string ⟨l.toArray⟩) W := by
  have h' := h
  rcases h.2 with ⟨rfl, hn⟩ | ⟨g, cap, cur, rfl, _⟩
  · have hl : l = [] := by
      have := h.1; cases l with
      | nil => rfl
      | cons a t => simp_all
    subst hl
    exact run_convert_bytes_nil (P := Tryz.prog) W 40 5 Tryz.underlying40 Tryz.underlying5 0 0 _ Tryz.underlying9
  · have := conv_take h' rfl l.length cap (Nat.le_refl _)
    rwa [List.take_length] at this

theorem own_snoc {B : Nat} {W : World} {v : Value} {l : List UInt8} {d : UInt8} (h : W.ownsRow B 5 1 v (l.length + 1) (bcells l ++ [.int .u8 d.toNat])) : OwnB B W v (l ++ [d]) := by
  unfold OwnB; rw [List.length_append, bcells_app]; exact h
theorem cell_one_new' (w : World) (x : Value) (t : TypeId) {n : Nat} (hn : n = w.heap.size) : ∀ j u, [x][j]? = some u → (w.alloc (.cells #[x] t)).cell? ((⟨n, 0, none⟩ : Addr).add j) = some u := hn ▸ cell_one_new w x t
theorem off_ne {b o i : Nat} (h : o ≠ i) : (⟨b, i, none⟩ : Addr) ≠ ⟨b, o, none⟩ := fun e => by injection e with _ e2 _; exact h e2.symm
theorem cell_off {W : World} {b o i : Nat} {u v : Value} (h : W.cell? ⟨b, o, none⟩ = some u) (hn : o ≠ i) : (W.setCell ⟨b, i, none⟩ v).cell? ⟨b, o, none⟩ = some u :=
  (World.cell?_setCell_other _ _ _ _ (off_ne hn)).trans h
theorem OwnB.slice {B : Nat} {W : World} {v : Value} {l : List UInt8} (h : OwnB B W v l) : ∃ p cap, v = .slice p l.length cap := by
  rcases h.2 with ⟨rfl, hn⟩ | ⟨g, cap, cur, rfl, _⟩
  · exact ⟨none, 0, by rw [hn]⟩
  · exact ⟨_, cap, rfl⟩
theorem OwnB.ch {B : Nat} {T : Nat → Prop} {W W' : World} {v : Value} {l : List UInt8} (h : OwnB B W v l) (hc : Ch T W W') (hT : ∀ k, v.ownBlock = some k → ¬ T k) : OwnB B W' v l := by
  obtain ⟨h1, h2⟩ := h
  refine ⟨h1, ?_⟩
  rcases h2 with h2 | ⟨g, cap, cur, rfl, hb, hh, hn2, hm, hcs, ht⟩
  · exact .inl h2
  · exact .inr ⟨g, cap, cur, rfl, hb, hc.get hh (hT g rfl), hn2, hm, hcs, ht⟩
theorem OwnB.gr {B : Nat} {W W' : World} {v : Value} {l : List UInt8} (h : OwnB B W v l) (hb : Gr W W') : OwnB B W' v l := h.ch (hb.to_ch (fun _ => False)) (fun _ _ h => h.elim)
end Go.Proofs.YtpncfeaaffgkfaaGreatDoor
