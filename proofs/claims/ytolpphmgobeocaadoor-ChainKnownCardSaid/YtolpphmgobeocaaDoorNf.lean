/-
  Arguments that are fields.
-/
import Derived.Test.YtolpphmgobeocaaDoorNb
import Derived.Test.YtolpphmgobeocaaDoorG
import Derived.PinnedBridge
import Derived.Lib.LaidU8
import Derived.Lib.LaidIn
import Derived.Deep.DeepHandedRow
import Derived.Deep.DeepWitnessRowRef
import Derived.ProofKit
import Derived.Carry
import Derived.ShutString
import Derived.OpenShut
import Derived.Deep.Slices
import Derived.Deep.Fields
import Derived.ChangeSame
namespace Go.Proofs.YtolpphmgobeocaaDoor
open Go.RowKit Go.Lib

section
open Go.ChangeShapes Go.WideShapes Go.Deep
variable {H : Type} {enc : TypeId × Value → H}
section
variable {P : Program} {w : World} {base : Nat} {spare : Nat → Bool} {held : Bool}
/-- A slice of structs whose fields are one cell each, cell by cell. -/
theorem open_slice_fields {t e : TypeId} {fs : Array Field} {fuel : Nat} {cs : List Value} {x : DataW H × List MemPlace} (ht : P.underlying t = some (.slice e)) (he : P.underlying e = some (.struct fs))
    (hone : oneCellFields P fs = true) (hC : P.cellsOf e = fs.size) (h : DataW.trod enc P w base spare held fuel t cs = some x) :
    cs = [.slice none 0 0] ∨ ∃ (a : Addr) (len cap : Nat), cs = [.slice (some a) len cap] ∧ len ≤ maxLen ∧
      ∀ i, i < len → ∀ (j : Nat) (f : Field), fs[j]? = some f → ∃ (v : Value) (y : DataW H × List MemPlace) (n : Nat), w.cell? (a.add (i * fs.size + j)) = some v ∧ DataW.trod enc P w base spare held n f.type [v] = some y := by
  rcases open_slice ht h with h0 | ⟨a, len, cap, m, n, D, Pl, hcs, _, hl, hm, hmm, hx, hi⟩
  · exact .inl h0.1
  · refine .inr ⟨a, len, cap, hcs, Nat.le_trans hl hm, fun i him j f hj => ?_⟩
    obtain ⟨cs', hc, ht'⟩ := hi i (by rw [hmm]; split <;> omega)
    rw [hC] at hc
    obtain ⟨ys, n', _, hy, hlen, hyl, hf⟩ := DataW.trod_struct he ht'
    obtain ⟨_, hcl, hat⟩ := World.cells?_some hc
    obtain ⟨ho, hk⟩ := hone_of hone j f hj
    have hjl : j < fs.size := (Array.getElem?_eq_some_iff.1 hj).1
    have hcell := hat j hjl
    have hv : cs'[j]? = some (cs'[j]'(by omega)) := List.getElem?_eq_getElem (by omega)
    have h1 := hf j f hj
    rw [ho, hk] at h1
    have hone' : (cs'.drop j).take 1 = [cs'[j]'(by omega)] := by
      rw [List.drop_eq_getElem_cons (by omega)]
      rfl
    rw [hone'] at h1
    have hys : ys[j]? = some (ys[j]'(by omega)) := List.getElem?_eq_getElem (by omega)
    exact ⟨_, _, _, by rw [← Go.Deep.add_add, hcell, hv], h1.trans hys⟩
end
theorem fieldStruct : ∃ f0 f1, Tryd.prog.underlying 53 = some (.struct #[f0, f1]) ∧ f0.type = 9 ∧ f1.type = 9 ∧ oneCellFields Tryd.prog #[f0, f1] = true := ⟨_, _, Tryd.underlying53, rfl, rfl, by kernel_rfl⟩
set_option maxRecDepth 100000 in
/-- An argument of fields, read cell by cell. -/
theorem fields_at {W : World} {fuel : Nat} {v : Value} {x : DataW H × List MemPlace} (hf : DataW.trod enc Tryd.prog W 0 (fun _ => true) true fuel 23 [v] = some x) :
    ∃ fs : List Fl, FieldsAt W v fs ∧ fs.length ≤ 9223372036854775807 ∧ ∀ f ∈ fs, f.1.length ≤ 9223372036854775807 ∧ f.2.length ≤ 9223372036854775807 := by
  obtain ⟨f0, f1, hst, ht0, ht1, hone⟩ := fieldStruct
  rcases open_slice_fields Tryd.underlying23 hst hone (by kernel_rfl) hf with h0 | ⟨a, len0, cap0, h0, hm, hc⟩
  · rw [List.cons.injEq] at h0
    obtain ⟨rfl, _⟩ := h0
    exact ⟨[], ⟨none, 0, rfl, fun i hi => absurd hi (Nat.not_lt_zero _)⟩, by simp, fun f hf => by cases hf⟩
  · rw [List.cons.injEq] at h0
    obtain ⟨rfl, _⟩ := h0
    have key : ∀ i, i < len0 → ∃ x : Fl, W.cell? (a.add (i * 2)) = some (.string ⟨x.1.toArray⟩) ∧ W.cell? (a.add (i * 2 + 1)) = some (.string ⟨x.2.toArray⟩) ∧ x.1.length ≤ 9223372036854775807 ∧ x.2.length ≤ 9223372036854775807 := fun i hi => by
      obtain ⟨v0, y0, n0, c0, t0⟩ := hc i hi 0 f0 rfl
      obtain ⟨v1, y1, n1, c1, t1⟩ := hc i hi 1 f1 rfl
      rw [ht0] at t0
      rw [ht1] at t1
      obtain ⟨s0, e0, _, l0⟩ := DataW.trod_string Tryd.underlying9 t0
      obtain ⟨s1, e1, _, l1⟩ := DataW.trod_string Tryd.underlying9 t1
      simp at e0 e1
      subst e0 e1
      refine ⟨(s0.data.toList, s1.data.toList), ?_, ?_, ?_, ?_⟩
      · rw [show (⟨(s0.data.toList).toArray⟩ : ByteArray) = s0 from Lib.mk_data s0]; exact c0
      · rw [show (⟨(s1.data.toList).toArray⟩ : ByteArray) = s1 from Lib.mk_data s1]; exact c1
      · have := size_mk s0.data.toList; rw [Lib.mk_data] at this; rw [← this]; exact l0
      · have := size_mk s1.data.toList; rw [Lib.mk_data] at this; rw [← this]; exact l1
    have key2 : ∀ i : Fin len0, ∃ x : Fl, W.cell? (a.add (i.1 * 2)) = some (.string ⟨x.1.toArray⟩) ∧ W.cell? (a.add (i.1 * 2 + 1)) = some (.string ⟨x.2.toArray⟩) ∧ x.1.length ≤ 9223372036854775807 ∧ x.2.length ≤ 9223372036854775807 := fun i => key i.1 i.2
    let g : Fin len0 → Fl := fun i => Classical.choose (key2 i)
    have hg : ∀ i, _ := fun i => Classical.choose_spec (key2 i)
    refine ⟨List.ofFn g, ⟨some a, cap0, by simp, fun i hi => ?_⟩, by simp; exact hm, fun f hf => ?_⟩
    · have hi' : i < len0 := by simpa using hi
      obtain ⟨h1, h2, _⟩ := hg ⟨i, hi'⟩
      obtain ⟨x0, h0, _⟩ := key 0 (by omega)
      have hgi : (List.ofFn g)[i]'hi = g ⟨i, hi'⟩ := by simp
      rw [hgi]
      change W.cell? (a.add (i * 2)) = some (.string ⟨(g ⟨i, hi'⟩).1.toArray⟩) at h1
      change W.cell? (a.add (i * 2 + 1)) = some (.string ⟨(g ⟨i, hi'⟩).2.toArray⟩) at h2
      obtain ⟨b, off, spot⟩ := a
      have hsp : spot = none := by
        rw [show (⟨b, off, spot⟩ : Addr).add (0 * 2) = ⟨b, off, spot⟩ from rfl] at h0
        unfold World.cell? at h0
        split at h0
        · cases spot with
          | none => rfl
          | some y => simp at h0
        · cases h0
      subst hsp
      refine ⟨b, off, rfl, ?_, ?_⟩
      · by_cases hi0 : i = 0
        · subst hi0; exact h1
        · rw [show (⟨b, off, none⟩ : Addr).add (i * 2) = ⟨b, off + i * 2, none⟩ from by unfold Addr.add; rw [if_neg (by omega)]] at h1; exact h1
      · rw [show (⟨b, off, none⟩ : Addr).add (i * 2 + 1) = ⟨b, off + i * 2 + 1, none⟩ from by unfold Addr.add; rw [if_neg (by omega)]; rfl] at h2; exact h2
    · obtain ⟨i, rfl⟩ := List.mem_ofFn.1 hf
      exact (hg i).2.2
set_option maxRecDepth 100000 in
/-- An argument of fields. -/
theorem fields_of {W : World} {base : Nat} {v : Value} {d : DataW H} {p : List MemPlace} (hv : Value.okWide Tryd.prog W .any base 23 v) (h : DataW.Trod enc Tryd.prog W 0 (fun _ => true) true 23 v d p) :
    ∃ fs : List Fl, FieldsAt W v fs ∧ fs.length ≤ 9223372036854775807 ∧ ∀ f ∈ fs, f.1.length ≤ 9223372036854775807 ∧ f.2.length ≤ 9223372036854775807 := by
  obtain ⟨a0, len0, cap0, rfl⟩ := okWide_slice Tryd.underlying23 hv
  obtain ⟨fuel, hf⟩ := h
  exact fields_at (fuel := fuel) hf
end
end Go.Proofs.YtolpphmgobeocaaDoor
