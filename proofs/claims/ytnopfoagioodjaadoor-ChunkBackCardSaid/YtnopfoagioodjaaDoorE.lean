/-
  Walks over the reference of package field: blanks, lines, alike words.
-/
import Derived.Test.YtnopfoagioodjaaDoorD
import Derived.Test.YtnopfoagioodjaaDoorB
import Derived.Test.YtnopfoagioodjaaDoorP1
namespace Go.Proofs.YtnopfoagioodjaaDoor
open Go.RowKit

def lenOf : Value → Nat | .string s => s.size | _ => 0

set_option maxHeartbeats 1000000 in
theorem bare_any (l : List UInt8) (w : World) (hl : l.length ≤ 9223372036854775807) :
    Calls Tryd.prog 36 #[.string ⟨l.toArray⟩] w fun e w' => e = .returned (.string ⟨(trimB l).toArray⟩) ∧ w = w' := by
  have hfin := Lib.hid (trimB_bare l)
  go_enter Tryd.func36, Tryd.ntmps36
  go_wp2
  go_loop [0] (fun t => ∃ x : List UInt8, t = .string ⟨x.toArray⟩ ∧ x.length ≤ l.length ∧ ldrop x = ldrop l) (fun t => lenOf t)
  case atStart => exact ⟨l, rfl, Nat.le_refl _, rfl⟩
  case round =>
    obtain ⟨x, rfl, hxl, hx⟩ := hrel
    have hx' := Lib.hid hx
    clear hx
    have hexit : (x.length = 0 ∨ ∃ h : 0 < x.length, isBlank x[0] = false) ∨ ∃ h : 0 < x.length, isBlank x[0] = true := by
      cases x with
      | nil => exact .inl (.inl rfl)
      | cons c t => cases h : isBlank c
                    · exact .inl (.inr ⟨by simp, h⟩)
                    · exact .inr ⟨by simp, h⟩
    rcases hexit with hex | ⟨h0, hbl⟩
    · have hid : ldrop x = x := by
        rcases hex with h | ⟨h, hb⟩
        · rw [List.eq_nil_of_length_eq_zero h]; rfl
        · cases x with
          | nil => rfl
          | cons c t => exact ldrop_cons_f hb
      have hid' := Lib.hid hid
      clear hid
      have hstop : x.length = 0 ∨ ∃ h : 0 < x.length, (((((⟨x.toArray⟩ : ByteArray)[0]'(by rw [size_mk]; exact h)).toNat : Nat) : Int) == 9) = false ∧ (((((⟨x.toArray⟩ : ByteArray)[0]'(by rw [size_mk]; exact h)).toNat : Nat) : Int) == 32) = false := by
        rcases hex with h | ⟨h, hb⟩
        · exact .inl h
        · refine .inr ⟨h, ?_⟩
          rw [blank_eq] at hb
          simp at hb
          exact ⟨beq_eq_false_iff_ne.2 hb.1, beq_eq_false_iff_ne.2 hb.2⟩
      clear hex
      rcases hstop with h0 | ⟨h0, h9, h32⟩
      all_goals go_wp2
      all_goals
        try clear h9 h32
        try clear h0
        go_loop [0] (fun t => ∃ y : List UInt8, t = .string ⟨y.toArray⟩ ∧ y.length ≤ l.length ∧ rdrop y = rdrop x) (fun t => lenOf t)
        case atStart => exact ⟨x, rfl, hxl, rfl⟩
        case round =>
          obtain ⟨y, rfl, hyl, hy⟩ := hrel
          have hy' := Lib.hid hy
          clear hy
          by_cases hn : y.length = 0
          · have hy0 := Lib.hid (List.eq_nil_of_length_eq_zero hn)
            go_wp2
            go_ret
            refine ⟨?_, rfl⟩
            have : trimB l = y := by rw [hfin.out, ← hx'.out, hid'.out, ← hy'.out, hy0.out]; rfl
            rw [this]; rfl
          · obtain ⟨k, hk⟩ : ∃ k, y.length = k + 1 := ⟨y.length - 1, by omega⟩
            have hkl : k < y.length := by omega
            obtain ⟨d, hd⟩ : ∃ d, (⟨y.toArray⟩ : ByteArray)[k]'(by rw [size_mk]; exact hkl) = d := ⟨_, rfl⟩
            have hd2 := Lib.hid (show y[k] = d from hd)
            obtain ⟨y2, hy2⟩ : ∃ y2, (⟨y.toArray⟩ : ByteArray).extract 0 k = ⟨y2.toArray⟩ ∧ y2 = y.take k := ⟨y.take k, by rw [extract_mk]; simp, rfl⟩
            obtain ⟨hyt, hyk⟩ := hy2
            have hyk' := Lib.hid hyk
            have hk' := Lib.hid hk
            have hy2l : y2.length < y.length := by rw [hyk]; simp; omega
            clear hyk
            clear hn
            rcases (by
              by_cases h9 : (d.toNat : Int) = 9
              · exact .inr (.inl (by simp [h9]))
              · by_cases h32 : (d.toNat : Int) = 32
                · exact .inr (.inr ⟨beq_eq_false_iff_ne.2 h9, by simp [h32]⟩)
                · exact .inl ⟨beq_eq_false_iff_ne.2 h9, beq_eq_false_iff_ne.2 h32⟩ : (((d.toNat : Int) == 9) = false ∧ ((d.toNat : Int) == 32) = false) ∨ ((d.toNat : Int) == 9) = true ∨ ((d.toNat : Int) == 9) = false ∧ ((d.toNat : Int) == 32) = true) with ⟨e9, e32⟩ | e9 | ⟨e9, e32⟩
            · go_wp2
              go_ret
              refine ⟨?_, rfl⟩
              have hdb : isBlank d = false := by rw [blank_eq]; simp only [beq_eq_false_iff_ne] at e9 e32; simp [e9, e32]
              have : trimB l = y := by rw [hfin.out, ← hx'.out, hid'.out, ← hy'.out]; exact rdrop_id hk'.out (by rw [hd2.out]; exact hdb)
              rw [this]; rfl
            · have hdb : isBlank d = true := by rw [blank_eq]; simp only [beq_iff_eq] at e9; simp [e9]
              have hdb' := Lib.hid hdb
              clear hdb
              go_wp2
              go_round
              case rel => exact ⟨y2, rfl, by omega, by rw [← hy'.out, hyk'.out]; exact rdrop_last hk'.out (by rw [hd2.out]; exact hdb'.out)⟩
              case measure => simp only [lenOf, size_mk]; exact hy2l
            · have hdb : isBlank d = true := by rw [blank_eq]; simp only [beq_iff_eq] at e32; simp [e32]
              have hdb' := Lib.hid hdb
              clear hdb
              go_wp2
              go_round
              case rel => exact ⟨y2, rfl, by omega, by rw [← hy'.out, hyk'.out]; exact rdrop_last hk'.out (by rw [hd2.out]; exact hdb'.out)⟩
              case measure => simp only [lenOf, size_mk]; exact hy2l
    · obtain ⟨c, hc⟩ : ∃ c, (⟨x.toArray⟩ : ByteArray)[0]'(by rw [size_mk]; exact h0) = c := ⟨_, rfl⟩
      obtain ⟨x2, hx2⟩ : ∃ x2, x = c :: x2 := by
        cases x with
        | nil => simp at h0
        | cons d t => exact ⟨t, by rw [← hc]; rfl⟩
      have hxt : (⟨x.toArray⟩ : ByteArray).extract 1 x.length = ⟨x2.toArray⟩ := by rw [extract_mk, hx2]; simp
      have hcb : isBlank c = true := by rw [← hc]; exact hbl
      have hcb' := Lib.hid hcb
      have hln : x2.length < x.length := by rw [hx2]; simp
      have hx3 := Lib.hid hx2
      have htest : ((c.toNat : Int) == 9) = true ∨ ((c.toNat : Int) == 9) = false ∧ ((c.toNat : Int) == 32) = true := by
        rw [blank_eq] at hcb
        by_cases h9 : (c.toNat : Int) = 9
        · exact .inl (by simp [h9])
        · refine .inr ⟨beq_eq_false_iff_ne.2 h9, ?_⟩
          simp [h9] at hcb; simp [hcb]
      clear hbl hx2 hcb
      rcases htest with h9 | ⟨h9, h32⟩
      all_goals go_wp2
      all_goals
        go_round
        case rel => exact ⟨x2, rfl, by omega, by rw [← hx'.out, hx3.out, ldrop_cons_t hcb'.out]⟩
        case measure => simp only [lenOf, size_mk]; exact hln

end Go.Proofs.YtnopfoagioodjaaDoor
