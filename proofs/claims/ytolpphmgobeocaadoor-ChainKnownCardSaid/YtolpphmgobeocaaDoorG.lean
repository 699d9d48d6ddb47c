/-
  The walk over Get, of package field.
-/
import Derived.Test.YtolpphmgobeocaaDoorD
import Derived.Test.YtolpphmgobeocaaDoorC
namespace Go.Proofs.YtolpphmgobeocaaDoor
open Go.RowKit

abbrev Fl := List UInt8 × List UInt8
/-- A slice value that holds these fields. -/
def FieldsAt (w : World) (v : Value) (fs : List Fl) : Prop :=
  ∃ p cap, v = .slice p fs.length cap ∧ ∀ i, (hi : i < fs.length) → ∃ b off, p = some ⟨b, off, none⟩ ∧ w.cell? ⟨b, off + i * 2, none⟩ = some (.string ⟨fs[i].1.toArray⟩) ∧ w.cell? ⟨b, off + i * 2 + 1, none⟩ = some (.string ⟨fs[i].2.toArray⟩)
theorem FieldsAt.gr {w w' : World} {v : Value} {fs : List Fl} (h : FieldsAt w v fs) (hb : Gr w w') : FieldsAt w' v fs := by
  obtain ⟨p, cap, hv, hc⟩ := h
  exact ⟨p, cap, hv, fun i hi => let ⟨b, off, hp, h1, h2⟩ := hc i hi; ⟨b, off, hp, hb.cell h1, hb.cell h2⟩⟩

/-- The first field of a name, and how many there are. -/
def getB (fs : List Fl) (name : List UInt8) : List UInt8 × Nat :=
  (((fs.filter fun f => alikeB f.1 name).head?.map (·.2)).getD [], (fs.filter fun f => alikeB f.1 name).length)

theorem getB_snoc_f (l : List Fl) (f : Fl) (name : List UInt8) (h : alikeB f.1 name = false) : getB (l ++ [f]) name = getB l name := by
  unfold getB; rw [List.filter_append]; simp [h]
theorem getB_snoc_0 (l : List Fl) (f : Fl) (name : List UInt8) (h : alikeB f.1 name = true) (h0 : (getB l name).2 = 0) : getB (l ++ [f]) name = (f.2, 1) := by
  have h1 : l.filter (fun f => alikeB f.1 name) = [] := List.eq_nil_of_length_eq_zero h0
  unfold getB; rw [List.filter_append, h1]; simp [h]
theorem getB_snoc_s (l : List Fl) (f : Fl) (name : List UInt8) (h : alikeB f.1 name = true) (h0 : (getB l name).2 ≠ 0) : getB (l ++ [f]) name = ((getB l name).1, (getB l name).2 + 1) := by
  unfold getB at h0 ⊢
  simp only [List.filter_append]
  cases hl : l.filter (fun f => alikeB f.1 name) with
  | nil => simp [hl] at h0
  | cons x t => simp [h]
theorem getB_le (l : List Fl) (name : List UInt8) : (getB l name).2 ≤ l.length := List.length_filter_le _ _
theorem getB_cons_t (l : List Fl) (f : Fl) (name : List UInt8) (h : alikeB f.1 name = true) : getB (f :: l) name = (f.2, (getB l name).2 + 1) := by
  unfold getB; simp [List.filter_cons, h]
theorem getB_cons_f (l : List Fl) (f : Fl) (name : List UInt8) (h : alikeB f.1 name = false) : getB (f :: l) name = getB l name := by
  unfold getB; simp [List.filter_cons, h]

set_option maxHeartbeats 1000000 in
theorem get_any (v : Value) (fs : List Fl) (name : List UInt8) (w : World) (hG : G w) (hf : FieldsAt w v fs) (hn : fs.length ≤ 9223372036854775807)
    (hl : ∀ f ∈ fs, f.1.length ≤ 9223372036854775807) (hln : name.length ≤ 9223372036854775807) :
    Calls Tryd.prog 54 #[v, .string ⟨name.toArray⟩] w fun e w' => e = .returned (.tuple #[.string ⟨(getB fs name).1.toArray⟩, .int .i64 (getB fs name).2]) ∧ Gr w w' := by
  have hf0 := Lib.hid hf
  have hl' := Lib.hid hl
  have hG' := Lib.hid hG
  clear hl hG
  obtain ⟨p, cap, rfl, hc⟩ := hf
  have hc' := Lib.hid hc
  clear hc
  go_enter Tryd.func54, Tryd.ntmps54
  go_wp2
  go_loopw [4, 5, 10] (fun v m i wr => (∃ k : Nat, k ≤ fs.length ∧ i = .int .i64 k ∧ v = .string ⟨(getB (fs.take k) name).1.toArray⟩ ∧ m = .int .i64 (getB (fs.take k) name).2) ∧ Gr w wr) (fun _ _ i _ => fs.length - (intOf i).toNat)
  case atStart => exact ⟨⟨0, Nat.zero_le _, rfl, rfl, rfl⟩, Gr.refl _⟩
  case round =>
    obtain ⟨⟨k, hk, rfl, rfl, rfl⟩, hg⟩ := hrel
    by_cases hlt : k < fs.length
    · obtain ⟨b, off, rfl, h1, h2⟩ := hc'.out k hlt
      have c1 := hg.cell h1
      have c2 := hg.cell h2
      clear h1 h2
      have hts := Lib.hid (List.take_succ_eq_append_getElem hlt)
      have hle := getB_le (fs.take k) name
      rw [List.length_take] at hle
      obtain ⟨g, hgd⟩ : ∃ g, getB (fs.take k) name = g := ⟨_, rfl⟩
      have hgd' := Lib.hid hgd
      rw [hgd] at hle ⊢
      clear hgd
      obtain ⟨f, hfd⟩ : ∃ f, fs[k] = f := ⟨_, rfl⟩
      have hmem : f ∈ fs := hfd ▸ List.getElem_mem hlt
      rw [hfd] at c1 c2
      rw [hfd] at hts
      clear hfd
      cases ha : alikeB f.1 name
      all_goals have ha' := Lib.hid ha
      all_goals clear ha
      · go_wp2_with fail
        refine (alike_any f.1 name _ (hG'.out.gr (hg.trans (Gr.alloc _ _))) (hl'.out f hmem) hln).mono ?_
        rintro e w2 ⟨rfl, hb⟩
        rw [ha'.out]
        go_wp2
        go_roundw
        case rel => exact ⟨⟨k + 1, by omega, by go_num, by rw [hts.out, getB_snoc_f _ _ _ ha'.out, hgd'.out], by rw [hts.out, getB_snoc_f _ _ _ ha'.out, hgd'.out]⟩, (hg.trans (Gr.alloc _ _)).trans hb⟩
        case measure => simp [intOf]; omega
      · by_cases h0 : g.2 = 0
        · have hb0 : ((g.2 : Int) == 0) = true := by simp [h0]
          have h0' := Lib.hid h0
          clear h0
          go_wp2_with fail
          refine (alike_any f.1 name _ (hG'.out.gr (hg.trans (Gr.alloc _ _))) (hl'.out f hmem) hln).mono ?_
          rintro e w2 ⟨rfl, hb⟩
          rw [ha'.out]
          obtain ⟨hce, hfr⟩ := hb.bcell
          go_wp2
          go_roundw
          case rel => exact ⟨⟨k + 1, by omega, by go_num, by rw [hts.out, getB_snoc_0 _ _ _ ha'.out (by rw [hgd'.out]; exact h0'.out)], by rw [hts.out, getB_snoc_0 _ _ _ ha'.out (by rw [hgd'.out]; exact h0'.out), h0'.out]; rfl⟩, (hg.trans (Gr.alloc _ _)).trans hb⟩
          case measure => simp [intOf]; omega
        · have hb0 : ((g.2 : Int) == 0) = false := by simp [h0]
          have h0' := Lib.hid h0
          clear h0
          go_wp2_with fail
          refine (alike_any f.1 name _ (hG'.out.gr (hg.trans (Gr.alloc _ _))) (hl'.out f hmem) hln).mono ?_
          rintro e w2 ⟨rfl, hb⟩
          rw [ha'.out]
          obtain ⟨hce, hfr⟩ := hb.bcell
          go_wp2
          go_roundw
          case rel => exact ⟨⟨k + 1, by omega, by go_num, by rw [hts.out, getB_snoc_s _ _ _ ha'.out (by rw [hgd'.out]; exact h0'.out), hgd'.out], by rw [hts.out, getB_snoc_s _ _ _ ha'.out (by rw [hgd'.out]; exact h0'.out), hgd'.out]; go_num⟩, (hg.trans (Gr.alloc _ _)).trans hb⟩
          case measure => simp [intOf]; omega
    · go_wp2
      go_ret2
      obtain rfl : k = fs.length := by omega
      exact ⟨by rw [List.take_length]; rfl, hg⟩

end Go.Proofs.YtolpphmgobeocaaDoor
