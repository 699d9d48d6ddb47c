/-
  Walks over package field: a line's field.
-/
import Derived.Test.YtpncfeaaffgkfaaGreatDoorRf
import Derived.Shelf.Strings.SlTrimAscii
namespace Go.Proofs.YtpncfeaaffgkfaaGreatDoor
open Go.RowKit

theorem trim_any (l : List UInt8) (w : World) (hl : l.length ≤ 9223372036854775807) :
    Calls Tryz.prog 64 #[.string ⟨l.toArray⟩, .string ⟨#[32, 9]⟩] w fun e w' => e = .returned (.string ⟨(trimB l).toArray⟩) ∧ Gr w w' :=
  Any.strings_Trim_laid Tryz.lays160 (by kernel_rfl) ⟨l.toArray⟩ ⟨#[32, 9]⟩ w (by rw [size_mk]; exact hl) (by decide) (ascii_of_all (by decide))

theorem token_is (l : List UInt8) (b : Bool) (h : tokB l = b) (w : World) (hl : l.length ≤ 9223372036854775807) :
    Calls Tryz.prog 31 #[.string ⟨l.toArray⟩] w fun e w' => e = .returned (.bool b) ∧ w = w' := by
  have hb := Lib.hid h
  clear h
  by_cases h0 : l = []
  · subst h0
    go_enter Tryz.func31, Tryz.ntmps31
    go_wp2
    go_ret
    exact ⟨ret_bool (by rw [← hb.out]; rfl), rfl⟩
  · have h1 := Lib.hid h0
    have h2 : (!l.isEmpty) = true := by simpa using h0
    have h3 : (!l.toArray.toList.isEmpty) = true := by simpa using h0
    clear h0
    go_enter Tryz.func31, Tryz.ntmps31
    go_wp2_with fail
    refine (every_any 60 isTok (enters_of Tryz.func60 (by kernel_rfl) rfl) tokc_any l _ hl).mono ?_
    rintro e w' ⟨rfl, rfl⟩
    go_wp2
    go_ret
    exact ⟨ret_bool (by rw [← hb.out]; unfold tokB; rw [h2, Bool.true_and]), rfl⟩
theorem token_any (l : List UInt8) (w : World) (hl : l.length ≤ 9223372036854775807) :
    Calls Tryz.prog 31 #[.string ⟨l.toArray⟩] w fun e w' => e = .returned (.bool (tokB l)) ∧ w = w' := token_is l _ rfl w hl
theorem values_is (l : List UInt8) (b : Bool) (h : l.all isVal = b) (w : World) (hl : l.length ≤ 9223372036854775807) :
    Calls Tryz.prog 59 #[.string ⟨l.toArray⟩, .func (.func 63) #[] #[]] w fun e w' => e = .returned (.bool b) ∧ w = w' := by
  rw [← h]; exact every_any 63 isVal (enters_of Tryz.func63 (by kernel_rfl) rfl) valc_any l w hl

theorem cut_any (l sep : List UInt8) (w : World) (hG : G w) (hl : l.length < 4294967281) :
    Calls Tryz.prog 57 #[.string ⟨l.toArray⟩, .string ⟨sep.toArray⟩] w fun e w' => e = .returned (.tuple #[.string ⟨(Lib.cut l sep).1.toArray⟩, .string ⟨(Lib.cut l sep).2.1.toArray⟩, .bool (Lib.cut l sep).2.2]) ∧ Gr w w' :=
  let ⟨m, hm⟩ := hG.max
  (Tryz.strings_Cut ⟨l.toArray⟩ ⟨sep.toArray⟩ m w (by rw [size_mk]; exact hl) hm).mono fun _ w' ⟨he, n, hn⟩ => ⟨he, hn ▸ below_drewNm w n⟩

/-- The result of Parse. -/
def pVal (r : List UInt8 × List UInt8 × Bool) : Value := .tuple #[.agg #[.string ⟨r.1.toArray⟩, .string ⟨r.2.1.toArray⟩], .bool r.2.2]

set_option maxHeartbeats 1000000 in
theorem parse_any (l : List UInt8) (w : World) (hG : G w) (hl : l.length < 4294967281) :
    Calls Tryz.prog 32 #[.string ⟨l.toArray⟩] w fun e w' => e = .returned (pVal (parseB l)) ∧ Gr w w' := by
  have hc1 : (Lib.cut l [58]).1.length ≤ l.length := cut_le1 l [58]
  have hc2 : (Lib.cut l [58]).2.1.length ≤ l.length := cut_le2 l [58]
  obtain ⟨⟨n, v, c⟩, hc⟩ : ∃ c, Lib.cut l [58] = c := ⟨_, rfl⟩
  rw [hc] at hc1 hc2
  have hfin := Lib.hid (parseB_eq hc)
  have hc' := Lib.hid hc
  clear hc
  go_enter Tryz.func32, Tryz.ntmps32
  go_wp2_with fail
  refine (cut_any l [58] _ (hG.gr (Gr.alloc _ _)) hl).mono ?_
  rintro e w1 ⟨rfl, hb⟩
  rw [hc'.out]
  have hg1 : Gr w w1 := (Gr.alloc _ _).trans hb
  obtain ⟨hce, hfr⟩ := hb.bcell
  have hz : w.heap.size < w1.heap.size := by have := hb.size; simp at this; omega
  cases c
  · go_wp2
    refine bodyPost_ret (v := pVal ([], [], false)) (by simp [results, Tryz.results32, go_sem, pVal, hce]) rfl ⟨by rw [hfin.out]; rfl, ?_⟩
    exact (hg1.setCell (Nat.le_refl _) _).setCell (Nat.le_refl _) _
  · cases ht : tokB n
    · have ht' := Lib.hid ht
      clear ht
      go_wp2_with (go_at_call 31; refine (token_is n _ ht'.out _ (by omega)).mono ?_; rintro e w' ⟨rfl, rfl⟩)
      refine bodyPost_ret (v := pVal ([], [], false)) (by simp [results, Tryz.results32, go_sem, pVal, hce]) rfl ⟨by rw [hfin.out, ht'.out]; rfl, ?_⟩
      exact (hg1.setCell (Nat.le_refl _) _).setCell (Nat.le_refl _) _
    · have ht' := Lib.hid ht
      clear ht
      cases hv : v.all isVal
      · have hv' := Lib.hid hv
        clear hv
        go_wp2_with (first | (go_at_call 31; refine (token_is n _ ht'.out _ (by omega)).mono ?_; rintro e w' ⟨rfl, rfl⟩) | (go_at_call 59; refine (values_is v _ hv'.out _ (by omega)).mono ?_; rintro e w' ⟨rfl, rfl⟩))
        refine bodyPost_ret (v := pVal ([], [], false)) (by simp [results, Tryz.results32, go_sem, pVal, hce]) rfl ⟨by rw [hfin.out, ht'.out, hv'.out]; rfl, ?_⟩
        exact (hg1.setCell (Nat.le_refl _) _).setCell (Nat.le_refl _) _
      · have hv' := Lib.hid hv
        clear hv
        go_wp2_with (first | (go_at_call 31; refine (token_is n _ ht'.out _ (by omega)).mono ?_; rintro e w' ⟨rfl, rfl⟩) | (go_at_call 59; refine (values_is v _ hv'.out _ (by omega)).mono ?_; rintro e w' ⟨rfl, rfl⟩) | (go_at_call 64; refine (trim_any v _ (by omega)).mono ?_; rintro e w2 ⟨rfl, hb2⟩; obtain ⟨hce2, hfr2⟩ := hb2.bcell))
        refine bodyPost_ret (v := pVal (n, trimB v, true)) (by simp [results, Tryz.results32, go_sem, pVal, hce, hce2, hz]) rfl ⟨by rw [hfin.out, ht'.out, hv'.out]; rfl, ?_⟩
        exact ((hg1.trans hb2).setCell (Nat.le_refl _) _).setCell (Nat.le_refl _) _
end Go.Proofs.YtpncfeaaffgkfaaGreatDoor
