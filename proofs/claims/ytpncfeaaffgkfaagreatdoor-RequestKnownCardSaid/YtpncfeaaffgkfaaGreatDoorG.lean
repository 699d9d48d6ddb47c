/-
  The walk over Get, of package field.
  Arguments that are fields.
  The frame of the laws.
-/
import Derived.Test.YtpncfeaaffgkfaaGreatDoorD
import Derived.Test.YtpncfeaaffgkfaaGreatDoorC
import Derived.Test.YtpncfeaaffgkfaaGreatDoorNb
import Derived.PinnedBridge
import Derived.Lib.LaidU8
import Derived.Lib.LaidIn
import Derived.Deep.DeepHandedRow
import Derived.Deep.DeepWitnessRowRef
import Derived.ProofKit
import Derived.Carry
import Derived.ShutString
import Derived.OpenShut
import Derived.Deep.Slices
import Derived.Deep.Fields
import Derived.ChangeSame
namespace Go.Proofs.YtpncfeaaffgkfaaGreatDoor
open Go.RowKit

abbrev Fl := List UInt8 × List UInt8
/-- A slice value that holds these fields. -/
def FieldsAt (w : World) (v : Value) (fs : List Fl) : Prop :=
  ∃ p cap, v = .slice p fs.length cap ∧ ∀ i, (hi : i < fs.length) → ∃ b off, p = some ⟨b, off, none⟩ ∧ w.cell? ⟨b, off + i * 2, none⟩ = some (.string ⟨fs[i].1.toArray⟩) ∧ w.cell? ⟨b, off + i * 2 + 1, none⟩ = some (.string ⟨fs[i].2.toArray⟩)
theorem FieldsAt.gr {w w' : World} {v : Value} {fs : List Fl} (h : FieldsAt w v fs) (hb : Gr w w') : FieldsAt w' v fs := by
  obtain ⟨p, cap, hv, hc⟩ := h
  exact ⟨p, cap, hv, fun i hi => let ⟨b, off, hp, h1, h2⟩ := hc i hi; ⟨b, off, hp, hb.cell h1, hb.cell h2⟩⟩

/-- The first field of a name, and how many there are. -/
def getB (fs : List Fl) (name : List UInt8) : List UInt8 × Nat :=
  (((fs.filter fun f => alikeB f.1 name).head?.map (·.2)).getD [], (fs.filter fun f => alikeB f.1 name).length)

theorem getB_snoc_f (l : List Fl) (f : Fl) (name : List UInt8) (h : alikeB f.1 name = false) : getB (l ++ [f]) name = getB l name := by
  unfold getB; rw [List.filter_append]; simp [h]
theorem getB_snoc_0 (l : List Fl) (f : Fl) (name : List UInt8) (h : alikeB f.1 name = true) (h0 : (getB l name).2 = 0) : getB (l ++ [f]) name = (f.2, 1) := by
  have h1 : l.filter (fun f => alikeB f.1 name) = [] := List.eq_nil_of_length_eq_zero h0
  unfold getB; rw [List.filter_append, h1]; simp [h]
theorem getB_snoc_s (l : List Fl) (f : Fl) (name : List UInt8) (h : alikeB f.1 name = true) (h0 : (getB l name).2 ≠ 0) : getB (l ++ [f]) name = ((getB l name).1, (getB l name).2 + 1) := by
  unfold getB at h0 ⊢
  simp only [List.filter_append]
  cases hl : l.filter (fun f => alikeB f.1 name) with
  | nil => simp [hl] at h0
  | cons x t => simp [h]
theorem getB_le (l : List Fl) (name : List UInt8) : (getB l name).2 ≤ l.length := List.length_filter_le _ _
theorem getB_cons_t (l : List Fl) (f : Fl) (name : List UInt8) (h : alikeB f.1 name = true) : getB (f :: l) name = (f.2, (getB l name).2 + 1) := by
  unfold getB; simp [h]
theorem getB_cons_f (l : List Fl) (f : Fl) (name : List UInt8) (h : alikeB f.1 name = false) : getB (f :: l) name = getB l name := by
  unfold getB; simp [h]

set_option maxHeartbeats 1000000 in
theorem get_any (v : Value) (fs : List Fl) (name : List UInt8) (w : World) (hG : G w) (hf : FieldsAt w v fs) (hn : fs.length ≤ 9223372036854775807)
    (hl : ∀ f ∈ fs, f.1.length ≤ 9223372036854775807) (hln : name.length ≤ 9223372036854775807) :
    Calls Tryz.prog 76 #[v, .string ⟨name.toArray⟩] w fun e w' => e = .returned (.tuple #[.string ⟨(getB fs name).1.toArray⟩, .int .i64 (getB fs name).2]) ∧ Gr w w' := by
  have hf0 := Lib.hid hf
  have hl' := Lib.hid hl
  have hG' := Lib.hid hG
  clear hl hG
  obtain ⟨p, cap, rfl, hc⟩ := hf
  have hc' := Lib.hid hc
  clear hc
  go_enter Tryz.func76, Tryz.ntmps76
  go_wp2
  go_loopw [4, 5, 10] (fun v m i wr => (∃ k : Nat, k ≤ fs.length ∧ i = .int .i64 k ∧ v = .string ⟨(getB (fs.take k) name).1.toArray⟩ ∧ m = .int .i64 (getB (fs.take k) name).2) ∧ Gr w wr) (fun _ _ i _ => fs.length - (intOf i).toNat)
  case atStart => exact ⟨⟨0, Nat.zero_le _, rfl, rfl, rfl⟩, Gr.refl _⟩
  case round =>
    obtain ⟨⟨k, hk, rfl, rfl, rfl⟩, hg⟩ := hrel
    by_cases hlt : k < fs.length
    · obtain ⟨b, off, rfl, h1, h2⟩ := hc'.out k hlt
      have c1 := hg.cell h1
      have c2 := hg.cell h2
      clear h1 h2
      have hts := Lib.hid (List.take_succ_eq_append_getElem hlt)
      have hle := getB_le (fs.take k) name
      rw [List.length_take] at hle
      obtain ⟨g, hgd⟩ : ∃ g, getB (fs.take k) name = g := ⟨_, rfl⟩
      have hgd' := Lib.hid hgd
      rw [hgd] at hle ⊢
      clear hgd
      obtain ⟨f, hfd⟩ : ∃ f, fs[k] = f := ⟨_, rfl⟩
      have hmem : f ∈ fs := hfd ▸ List.getElem_mem hlt
      rw [hfd] at c1 c2
      rw [hfd] at hts
      clear hfd
      cases ha : alikeB f.1 name
      all_goals have ha' := Lib.hid ha
      all_goals clear ha
      · go_wp2_with fail
        refine (alike_any f.1 name _ (hG'.out.gr (hg.trans (Gr.alloc _ _))) (hl'.out f hmem) hln).mono ?_
        rintro e w2 ⟨rfl, hb⟩
        rw [ha'.out]
        go_wp2
        go_roundw
        case rel => exact ⟨⟨k + 1, by omega, by go_num, by rw [hts.out, getB_snoc_f _ _ _ ha'.out, hgd'.out], by rw [hts.out, getB_snoc_f _ _ _ ha'.out, hgd'.out]⟩, (hg.trans (Gr.alloc _ _)).trans hb⟩
        case measure => simp [intOf]; omega
      · by_cases h0 : g.2 = 0
        · have hb0 : ((g.2 : Int) == 0) = true := by simp [h0]
          have h0' := Lib.hid h0
          clear h0
          go_wp2_with fail
          refine (alike_any f.1 name _ (hG'.out.gr (hg.trans (Gr.alloc _ _))) (hl'.out f hmem) hln).mono ?_
          rintro e w2 ⟨rfl, hb⟩
          rw [ha'.out]
          obtain ⟨hce, hfr⟩ := hb.bcell
          go_wp2
          go_roundw
          case rel => exact ⟨⟨k + 1, by omega, by go_num, by rw [hts.out, getB_snoc_0 _ _ _ ha'.out (by rw [hgd'.out]; exact h0'.out)], by rw [hts.out, getB_snoc_0 _ _ _ ha'.out (by rw [hgd'.out]; exact h0'.out), h0'.out]; rfl⟩, (hg.trans (Gr.alloc _ _)).trans hb⟩
          case measure => simp [intOf]; omega
        · have hb0 : ((g.2 : Int) == 0) = false := by simp [h0]
          have h0' := Lib.hid h0
          clear h0
          go_wp2_with fail
          refine (alike_any f.1 name _ (hG'.out.gr (hg.trans (Gr.alloc _ _))) (hl'.out f hmem) hln).mono ?_
          rintro e w2 ⟨rfl, hb⟩
          rw [ha'.out]
          obtain ⟨hce, hfr⟩ := hb.bcell
          go_wp2
          go_roundw
          case rel => exact ⟨⟨k + 1, by omega, by go_num, by rw [hts.out, getB_snoc_s _ _ _ ha'.out (by rw [hgd'.out]; exact h0'.out), hgd'.out], by rw [hts.out, getB_snoc_s _ _ _ ha'.out (by rw [hgd'.out]; exact h0'.out), hgd'.out]; go_num⟩, (hg.trans (Gr.alloc _ _)).trans hb⟩
          case measure => simp [intOf]; omega
    · go_wp2
      go_ret2
      obtain rfl : k = fs.length := by omega
      exact ⟨by rw [List.take_length]; rfl, hg⟩

end Go.Proofs.YtpncfeaaffgkfaaGreatDoor
namespace Go.Proofs.YtpncfeaaffgkfaaGreatDoor
open Go.RowKit Go.Lib

section
open Go.ChangeShapes Go.WideShapes Go.Deep
variable {H : Type} {enc : TypeId × Value → H}
section
variable {P : Program} {w : World} {base : Nat} {spare : Nat → Bool} {held : Bool}
/-- A slice of structs whose fields are one cell each, cell by cell. -/
theorem open_slice_fields {t e : TypeId} {fs : Array Field} {fuel : Nat} {cs : List Value} {x : DataW H × List MemPlace} (ht : P.underlying t = some (.slice e)) (he : P.underlying e = some (.struct fs))
    (hone : oneCellFields P fs = true) (hC : P.cellsOf e = fs.size) (h : DataW.trod enc P w base spare held fuel t cs = some x) :
    cs = [.slice none 0 0] ∨ ∃ (a : Addr) (len cap : Nat), cs = [.slice (some a) len cap] ∧ len ≤ maxLen ∧
      ∀ i, i < len → ∀ (j : Nat) (f : Field), fs[j]? = some f → ∃ (v : Value) (y : DataW H × List MemPlace) (n : Nat), w.cell? (a.add (i * fs.size + j)) = some v ∧ DataW.trod enc P w base spare held n f.type [v] = some y := by
  rcases open_slice ht h with h0 | ⟨a, len, cap, m, n, D, Pl, hcs, _, hl, hm, hmm, hx, hi⟩
  · exact .inl h0.1
  · refine .inr ⟨a, len, cap, hcs, Nat.le_trans hl hm, fun i him j f hj => ?_⟩
    obtain ⟨cs', hc, ht'⟩ := hi i (by rw [hmm]; split <;> omega)
    rw [hC] at hc
    obtain ⟨ys, n', _, hy, hlen, hyl, hf⟩ := DataW.trod_struct he ht'
    obtain ⟨_, hcl, hat⟩ := World.cells?_some hc
    obtain ⟨ho, hk⟩ := hone_of hone j f hj
    have hjl : j < fs.size := (Array.getElem?_eq_some_iff.1 hj).1
    have hcell := hat j hjl
    have hv : cs'[j]? = some (cs'[j]'(by omega)) := List.getElem?_eq_getElem (by omega)
    have h1 := hf j f hj
    rw [ho, hk] at h1
    have hone' : (cs'.drop j).take 1 = [cs'[j]'(by omega)] := by
      rw [List.drop_eq_getElem_cons (by omega)]
      rfl
    rw [hone'] at h1
    have hys : ys[j]? = some (ys[j]'(by omega)) := List.getElem?_eq_getElem (by omega)
    exact ⟨_, _, _, by rw [← Go.Deep.add_add, hcell, hv], h1.trans hys⟩
end
theorem fieldStruct : ∃ f0 f1, Tryz.prog.underlying 45 = some (.struct #[f0, f1]) ∧ f0.type = 9 ∧ f1.type = 9 ∧ oneCellFields Tryz.prog #[f0, f1] = true := ⟨_, _, Tryz.underlying45, rfl, rfl, by kernel_rfl⟩
set_option maxRecDepth 100000 in
/-- An argument of fields, read cell by cell. -/
theorem fields_at {W : World} {fuel : Nat} {v : Value} {x : DataW H × List MemPlace} (hf : DataW.trod enc Tryz.prog W 0 (fun _ => true) true fuel 25 [v] = some x) :
    ∃ fs : List Fl, FieldsAt W v fs ∧ fs.length ≤ 9223372036854775807 ∧ ∀ f ∈ fs, f.1.length ≤ 9223372036854775807 ∧ f.2.length ≤ 9223372036854775807 := by
  obtain ⟨f0, f1, hst, ht0, ht1, hone⟩ := fieldStruct
  rcases open_slice_fields Tryz.underlying25 hst hone (by kernel_rfl) hf with h0 | ⟨a, len0, cap0, h0, hm, hc⟩
  · rw [List.cons.injEq] at h0
    obtain ⟨rfl, _⟩ := h0
    exact ⟨[], ⟨none, 0, rfl, fun i hi => absurd hi (Nat.not_lt_zero _)⟩, by simp, fun f hf => by cases hf⟩
  · rw [List.cons.injEq] at h0
    obtain ⟨rfl, _⟩ := h0
    have key : ∀ i, i < len0 → ∃ x : Fl, W.cell? (a.add (i * 2)) = some (.string ⟨x.1.toArray⟩) ∧ W.cell? (a.add (i * 2 + 1)) = some (.string ⟨x.2.toArray⟩) ∧ x.1.length ≤ 9223372036854775807 ∧ x.2.length ≤ 9223372036854775807 := fun i hi => by
      obtain ⟨v0, y0, n0, c0, t0⟩ := hc i hi 0 f0 rfl
      obtain ⟨v1, y1, n1, c1, t1⟩ := hc i hi 1 f1 rfl
      rw [ht0] at t0
      rw [ht1] at t1
      obtain ⟨s0, e0, _, l0⟩ := DataW.trod_string Tryz.underlying9 t0
      obtain ⟨s1, e1, _, l1⟩ := DataW.trod_string Tryz.underlying9 t1
      simp at e0 e1
      subst e0 e1
      refine ⟨(s0.data.toList, s1.data.toList), ?_, ?_, ?_, ?_⟩
      · rw [show (⟨(s0.data.toList).toArray⟩ : ByteArray) = s0 from Lib.mk_data s0]; exact c0
      · rw [show (⟨(s1.data.toList).toArray⟩ : ByteArray) = s1 from Lib.mk_data s1]; exact c1
      · have := size_mk s0.data.toList; rw [Lib.mk_data] at this; rw [← this]; exact l0
      · have := size_mk s1.data.toList; rw [Lib.mk_data] at this; rw [← this]; exact l1
    have key2 : ∀ i : Fin len0, ∃ x : Fl, W.cell? (a.add (i.1 * 2)) = some (.string ⟨x.1.toArray⟩) ∧ W.cell? (a.add (i.1 * 2 + 1)) = some (.string ⟨x.2.toArray⟩) ∧ x.1.length ≤ 9223372036854775807 ∧ x.2.length ≤ 9223372036854775807 := fun i => key i.1 i.2
    let g : Fin len0 → Fl := fun i => Classical.choose (key2 i)
    have hg : ∀ i, _ := fun i => Classical.choose_spec (key2 i)
    refine ⟨List.ofFn g, ⟨some a, cap0, by simp, fun i hi => ?_⟩, by simp; exact hm, fun f hf => ?_⟩
    · have hi' : i < len0 := by simpa using hi
      obtain ⟨h1, h2, _⟩ := hg ⟨i, hi'⟩
      obtain ⟨x0, h0, _⟩ := key 0 (by omega)
      have hgi : (List.ofFn g)[i]'hi = g ⟨i, hi'⟩ := by simp
      rw [hgi]
      change W.cell? (a.add (i * 2)) = some (.string ⟨(g ⟨i, hi'⟩).1.toArray⟩) at h1
      change W.cell? (a.add (i * 2 + 1)) = some (.string ⟨(g ⟨i, hi'⟩).2.toArray⟩) at h2
      obtain ⟨b, off, spot⟩ := a
      have hsp : spot = none := by
        rw [show (⟨b, off, spot⟩ : Addr).add (0 * 2) = ⟨b, off, spot⟩ from rfl] at h0
        unfold World.cell? at h0
        split at h0
        · cases spot with
          | none => rfl
          | some y => simp at h0
        · cases h0
      subst hsp
      refine ⟨b, off, rfl, ?_, ?_⟩
      · by_cases hi0 : i = 0
        · subst hi0; exact h1
        · rw [show (⟨b, off, none⟩ : Addr).add (i * 2) = ⟨b, off + i * 2, none⟩ from by unfold Addr.add; rw [if_neg (by omega)]] at h1; exact h1
      · rw [show (⟨b, off, none⟩ : Addr).add (i * 2 + 1) = ⟨b, off + i * 2 + 1, none⟩ from by unfold Addr.add; rw [if_neg (by omega)]; rfl] at h2; exact h2
    · obtain ⟨i, rfl⟩ := List.mem_ofFn.1 hf
      exact (hg i).2.2
set_option maxRecDepth 100000 in
/-- An argument of fields. -/
theorem fields_of {W : World} {base : Nat} {v : Value} {d : DataW H} {p : List MemPlace} (hv : Value.okWide Tryz.prog W .any base 25 v) (h : DataW.Trod enc Tryz.prog W 0 (fun _ => true) true 25 v d p) :
    ∃ fs : List Fl, FieldsAt W v fs ∧ fs.length ≤ 9223372036854775807 ∧ ∀ f ∈ fs, f.1.length ≤ 9223372036854775807 ∧ f.2.length ≤ 9223372036854775807 := by
  obtain ⟨a0, len0, cap0, rfl⟩ := okWide_slice Tryz.underlying25 hv
  obtain ⟨fuel, hf⟩ := h
  exact fields_at (fuel := fuel) hf
end
end Go.Proofs.YtpncfeaaffgkfaaGreatDoor
