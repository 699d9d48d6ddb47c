/-
  Arguments that are replies in a row, marks in a row, opened.
-/
import Derived.Test.YtfcokldbpjkjpaaGreatDoorNw
import Derived.SliceStrings
namespace Go.Proofs.YtfcokldbpjkjpaaGreatDoor
open Go.RowKit Go.Lib Go.Joins
/-- A slice value whose elements are these replies. -/
def RepsAt (W : World) (t : Value) (rs : List Rp) : Prop :=
  ∃ p cap, t = .slice p rs.length cap ∧ ∀ i, (hi : i < rs.length) → ∃ b off v, p = some ⟨b, off, none⟩ ∧ W.cell? ⟨b, off + i * 3, none⟩ = some (.int .i64 rs[i].code) ∧ W.cell? ⟨b, off + i * 3 + 1, none⟩ = some v ∧ W.cell? ⟨b, off + i * 3 + 2, none⟩ = some (.string ⟨rs[i].b.toArray⟩) ∧ FieldsAt W v rs[i].fs
/-- A slice value whose elements are these marks. -/
def MarksAt (W : World) (t : Value) (bs : List Bool) : Prop :=
  ∃ p cap, t = .slice p bs.length cap ∧ ∀ i, (hi : i < bs.length) → ∃ b off, p = some ⟨b, off, none⟩ ∧ W.cell? ⟨b, off + i, none⟩ = some (.bool bs[i])
theorem RepsAt.gr {W W' : World} {t : Value} {rs : List Rp} (h : RepsAt W t rs) (hg : Gr W W') : RepsAt W' t rs := by
  obtain ⟨p, cap, e, hc⟩ := h
  refine ⟨p, cap, e, fun i hi => ?_⟩
  obtain ⟨b, off, v, hp, h0, h1, h2, h3⟩ := hc i hi
  exact ⟨b, off, v, hp, hg.cell h0, hg.cell h1, hg.cell h2, h3.gr hg⟩
theorem MarksAt.gr {W W' : World} {t : Value} {rs : List Bool} (h : MarksAt W t rs) (hg : Gr W W') : MarksAt W' t rs := by
  obtain ⟨p, cap, e, hc⟩ := h
  refine ⟨p, cap, e, fun i hi => ?_⟩
  obtain ⟨b, off, hp, h0⟩ := hc i hi
  exact ⟨b, off, hp, hg.cell h0⟩
/-- What any reply of an argument keeps to. -/
def RepIn (x : Rp) : Prop := x.fs.length ≤ 9223372036854775807 ∧ x.b.length ≤ 9223372036854775807 ∧ (∀ f ∈ x.fs, f.1.length ≤ 9223372036854775807 ∧ f.2.length ≤ 9223372036854775807) ∧ (-9223372036854775808 ≤ x.code ∧ x.code ≤ 9223372036854775807)
section
open Go.ChangeShapes Go.WideShapes Go.Deep
variable {H : Type} {enc : TypeId × Value → H}
theorem had_add {b off : Nat} (n : Nat) : (⟨b, off, none⟩ : Addr).add n = ⟨b, off + n, none⟩ := by
  unfold Addr.add
  by_cases h : n = 0
  · subst h; rfl
  · rw [if_neg h]
theorem spot_of {W : World} {b off : Nat} {spot : _} {v : Value} (h : W.cell? ⟨b, off, spot⟩ = some v) : spot = none := by
  unfold World.cell? at h
  split at h
  · cases spot with
    | none => rfl
    | some y => simp at h
  · cases h
set_option maxRecDepth 100000 in
theorem reps_of {W : World} {base : Nat} {v : Value} {d : DataW H} {p : List MemPlace} (hv : Value.okWide Tryz.prog W .any base 45 v) (h : DataW.Trod enc Tryz.prog W 0 (fun _ => true) true 45 v d p) :
    ∃ rs : List Rp, RepsAt W v rs ∧ rs.length ≤ 9223372036854775807 ∧ ∀ x ∈ rs, RepIn x := by
  obtain ⟨a0, len0, cap0, rfl⟩ := okWide_slice Tryz.underlying45 hv
  obtain ⟨fuel, hf⟩ := h
  obtain ⟨f0, f1, f2, hst, ht0, ht1, ht2, hone⟩ := replyStruct2
  rcases open_slice_fields Tryz.underlying45 hst hone replyCells2 hf with h0 | ⟨a, len, cap, h0, hm, hc⟩
  · rw [show (Value.slice a0 len0 cap0).cells.toList = [.slice a0 len0 cap0] from rfl, List.cons.injEq, Value.slice.injEq] at h0
    obtain ⟨⟨rfl, rfl, rfl⟩, _⟩ := h0
    exact ⟨[], ⟨none, 0, rfl, fun i hi => absurd hi (Nat.not_lt_zero _)⟩, by simp, fun x hx => by cases hx⟩
  · rw [show (Value.slice a0 len0 cap0).cells.toList = [.slice a0 len0 cap0] from rfl, List.cons.injEq, Value.slice.injEq] at h0
    obtain ⟨⟨rfl, rfl, rfl⟩, _⟩ := h0
    have key : ∀ i : Fin len0, ∃ s : Rp × Value, W.cell? (a.add (i.1 * 3 + 0)) = some (.int .i64 s.1.code) ∧ W.cell? (a.add (i.1 * 3 + 1)) = some s.2 ∧ W.cell? (a.add (i.1 * 3 + 2)) = some (.string ⟨s.1.b.toArray⟩) ∧ FieldsAt W s.2 s.1.fs ∧ RepIn s.1 := fun i => by
      obtain ⟨v0, y0, n0, c0, t0⟩ := hc i.1 i.2 0 f0 rfl
      obtain ⟨v1, y1, n1, c1, t1⟩ := hc i.1 i.2 1 f1 rfl
      obtain ⟨v2, y2, n2, c2, t2⟩ := hc i.1 i.2 2 f2 rfl
      rw [ht0] at t0
      rw [ht1] at t1
      rw [ht2] at t2
      obtain ⟨k, rfl, hk⟩ := int_in t0
      obtain ⟨fs, hfs, hl, hls⟩ := fields_at t1
      obtain ⟨b, rfl, hb⟩ := str_in t2
      exact ⟨(⟨k, fs, b⟩, v1), c0, c1, c2, hfs, hl, hb, hls, hk⟩
    let g : Fin len0 → Rp × Value := fun i => Classical.choose (key i)
    have hg : ∀ i, _ := fun i => Classical.choose_spec (key i)
    refine ⟨List.ofFn fun i => (g i).1, ⟨some a, cap0, by simp, fun i hi => ?_⟩, by simp; exact hm, fun x hx => ?_⟩
    · have hi' : i < len0 := by simpa using hi
      obtain ⟨h0, h1, h2, h3, h4⟩ := hg ⟨i, hi'⟩
      obtain ⟨x0, hx0, _⟩ := key ⟨0, by omega⟩
      have hgi : (List.ofFn fun i => (g i).1)[i]'hi = (g ⟨i, hi'⟩).1 := by simp
      rw [hgi]
      change W.cell? (a.add (i * 3 + 0)) = some (.int .i64 (g ⟨i, hi'⟩).1.code) at h0
      change W.cell? (a.add (i * 3 + 1)) = some (g ⟨i, hi'⟩).2 at h1
      change W.cell? (a.add (i * 3 + 2)) = some (.string ⟨(g ⟨i, hi'⟩).1.b.toArray⟩) at h2
      change FieldsAt W (g ⟨i, hi'⟩).2 (g ⟨i, hi'⟩).1.fs at h3
      obtain ⟨b, off, spot⟩ := a
      rw [show (⟨b, off, spot⟩ : Addr).add ((⟨0, by omega⟩ : Fin len0).1 * 3 + 0) = ⟨b, off, spot⟩ from rfl] at hx0
      obtain rfl := spot_of hx0
      rw [had_add] at h0 h1 h2
      exact ⟨b, off, _, rfl, h0, h1, h2, h3⟩
    · obtain ⟨i, rfl⟩ := (List.mem_ofFn ..).1 hx
      exact (hg i).2.2.2.2
set_option maxRecDepth 100000 in
theorem marks_of {W : World} {base : Nat} {v : Value} {d : DataW H} {p : List MemPlace} (hv : Value.okWide Tryz.prog W .any base 46 v) (h : DataW.Trod enc Tryz.prog W 0 (fun _ => true) true 46 v d p) :
    ∃ bs : List Bool, MarksAt W v bs ∧ bs.length ≤ 9223372036854775807 := by
  obtain ⟨a0, len0, cap0, rfl⟩ := okWide_slice Tryz.underlying46 hv
  obtain ⟨fuel, hf⟩ := h
  rcases DataW.trod_slice Tryz.underlying46 hf with ⟨h0, _⟩ | ⟨a, len, cap, elems, rest, n, _, h0, _, _, hl, hm, hlen, hel, _, _⟩
  · rw [show (Value.slice a0 len0 cap0).cells.toList = [.slice a0 len0 cap0] from rfl, List.cons.injEq, Value.slice.injEq] at h0
    obtain ⟨⟨rfl, rfl, rfl⟩, _⟩ := h0
    exact ⟨[], ⟨none, 0, rfl, fun i hi => absurd hi (Nat.not_lt_zero _)⟩, by simp⟩
  · rw [show (Value.slice a0 len0 cap0).cells.toList = [.slice a0 len0 cap0] from rfl, List.cons.injEq, Value.slice.injEq] at h0
    obtain ⟨⟨rfl, rfl, rfl⟩, _⟩ := h0
    have hcb : Tryz.prog.cellsOf 4 = 1 := by kernel_rfl
    have key : ∀ i : Fin len0, ∃ s : Bool, W.cell? (a.add i.1) = some (.bool s) := fun i => by
      have hx := hel i.1 i.2
      rw [List.getElem?_eq_getElem (by omega), hcb, Nat.mul_one, Option.bind_eq_some_iff] at hx
      obtain ⟨cs', hcs, hy'⟩ := hx
      obtain ⟨b, rfl, _⟩ := DataW.trod_bool Tryz.underlying4 hy'
      exact ⟨b, cell_of_cells?_one hcs⟩
    let g : Fin len0 → Bool := fun i => Classical.choose (key i)
    have hg : ∀ i, W.cell? (a.add i.1) = some (.bool (g i)) := fun i => Classical.choose_spec (key i)
    refine ⟨List.ofFn g, ⟨some a, cap0, by simp, fun i hi => ?_⟩, by simp; unfold maxLen at hm; omega⟩
    have hi' : i < len0 := by simpa using hi
    have h0 := hg ⟨i, hi'⟩
    have hx0 := hg ⟨0, by omega⟩
    have hgi : (List.ofFn g)[i]'hi = g ⟨i, hi'⟩ := by simp
    rw [hgi]
    obtain ⟨b, off, spot⟩ := a
    rw [show (⟨b, off, spot⟩ : Addr).add ((⟨0, by omega⟩ : Fin len0).1) = ⟨b, off, spot⟩ from rfl] at hx0
    obtain rfl := spot_of hx0
    rw [had_add] at h0
    exact ⟨b, off, rfl, h0⟩
end
end Go.Proofs.YtfcokldbpjkjpaaGreatDoor
