/-
  An argument of bytes, opened.
-/
import Derived.Test.YtpncfeaaffgkfaaGreatDoorG
import Derived.Test.YtpncfeaaffgkfaaGreatDoorKl
import Derived.ChangeSlices
namespace Go.Proofs.YtpncfeaaffgkfaaGreatDoor
open Go.RowKit Go.Lib
section
open Go.ChangeShapes Go.WideShapes Go.Deep
variable {H : Type} {enc : TypeId × Value → H}
theorem u8Cells : Tryz.prog.cellsOf 5 = 1 := by kernel_rfl
theorem bytes_list : ∀ zs : List Int, (∀ n ∈ zs, (Lit.int .u8 n).wf = true) → ∃ l : List UInt8, zs = l.map fun c => (c.toNat : Int)
  | [], _ => ⟨[], rfl⟩
  | z :: zs, h => by
    obtain ⟨c, hc⟩ := byte_of (h z (by simp))
    obtain ⟨l, hl⟩ := bytes_list zs (fun n hn => h n (by simp [hn]))
    exact ⟨c :: l, by rw [hc, hl]; rfl⟩
set_option maxRecDepth 100000 in
/-- An argument of bytes. -/
theorem bytes_of {W : World} {base : Nat} {v : Value} {d : DataW H} {p : List MemPlace} (hv : Value.okWide Tryz.prog W .any base 40 v) (h : DataW.Trod enc Tryz.prog W 0 (fun _ => true) true 40 v d p) :
    ∃ l : List UInt8, CutsAt W v l ∧ l.length ≤ 9223372036854775807 := by
  obtain ⟨a0, len0, cap0, rfl⟩ := okWide_slice Tryz.underlying40 hv
  obtain ⟨fuel, hf⟩ := h
  rcases ChangeShapes.open_ints Tryz.underlying40 Tryz.underlying5 u8Cells hf with ⟨h0, _⟩ | ⟨a, len, cap, zs, h0, _, hl, hm, hz, _, hc, hw⟩
  · rw [show (Value.slice a0 len0 cap0).cells.toList = [.slice a0 len0 cap0] from rfl, List.cons.injEq, Value.slice.injEq] at h0
    obtain ⟨⟨rfl, rfl, rfl⟩, _⟩ := h0
    exact ⟨[], ⟨none, 0, rfl, fun i hi => absurd hi (Nat.not_lt_zero _)⟩, by simp⟩
  · rw [show (Value.slice a0 len0 cap0).cells.toList = [.slice a0 len0 cap0] from rfl, List.cons.injEq, Value.slice.injEq] at h0
    obtain ⟨⟨rfl, rfl, rfl⟩, _⟩ := h0
    obtain ⟨l, rfl⟩ := bytes_list zs hw
    rw [List.length_map] at hz hc
    have hzl : len0 ≤ l.length := by rw [hz]; split <;> omega
    refine ⟨l.take len0, ⟨some a, cap0, by rw [List.length_take, Nat.min_eq_left hzl], fun i hi => ?_⟩, by rw [List.length_take]; unfold maxLen at hm; omega⟩
    rw [List.length_take] at hi
    have h1 := hc i (by omega)
    have h2 := hc 0 (by omega)
    obtain ⟨b, off, spot⟩ := a
    have hsp : spot = none := by
      rw [show (⟨b, off, spot⟩ : Addr).add 0 = ⟨b, off, spot⟩ from rfl] at h2
      unfold World.cell? at h2
      split at h2
      · cases spot with
        | none => rfl
        | some y => simp at h2
      · cases h2
    subst hsp
    have had : ∀ n, (⟨b, off, none⟩ : Addr).add n = ⟨b, off + n, none⟩ := fun n => by
      unfold Addr.add
      by_cases h : n = 0
      · subst h; rfl
      · simp [h]
    rw [had] at h1
    refine ⟨b, off, rfl, ?_⟩
    rw [h1]
    have hil : i < l.length := by omega
    simp [List.getD, List.getElem?_map, List.getElem?_eq_getElem hil]
end
end Go.Proofs.YtpncfeaaffgkfaaGreatDoor
