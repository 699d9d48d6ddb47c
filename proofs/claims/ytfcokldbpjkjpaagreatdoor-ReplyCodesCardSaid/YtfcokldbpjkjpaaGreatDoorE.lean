/-
  Walks over the reference of package field: blanks, lines, alike words.
-/
import Derived.Test.YtfcokldbpjkjpaaGreatDoorD
import Derived.Test.YtfcokldbpjkjpaaGreatDoorC
import Derived.Test.YtfcokldbpjkjpaaGreatDoorB
import Derived.Test.YtfcokldbpjkjpaaGreatDoorP1
namespace Go.Proofs.YtfcokldbpjkjpaaGreatDoor
open Go.RowKit

set_option maxHeartbeats 400000 in
theorem low_any (c : UInt8) (w : World) : Calls Tryz.prog 53 #[.int .u8 c.toNat] w fun e w' => e = .returned (.int .u8 (lower c).toNat) ∧ w = w' := by
  have hv := Lib.hid (lower_toNat c)
  go_enter Tryz.func53, Tryz.ntmps53
  go_wp2
  all_goals go_ret
  all_goals refine ⟨?_, rfl⟩
  all_goals rw [hv.out]
  all_goals (first | rw [if_neg (by omega)] | rw [if_pos (by omega)])
  all_goals rfl

def lenOf : Value → Nat | .string s => s.size | _ => 0

set_option maxHeartbeats 1000000 in
theorem bare_any (l : List UInt8) (w : World) (hl : l.length ≤ 9223372036854775807) :
    Calls Tryz.prog 52 #[.string ⟨l.toArray⟩] w fun e w' => e = .returned (.string ⟨(trimB l).toArray⟩) ∧ w = w' := by
  have hfin := Lib.hid (trimB_bare l)
  go_enter Tryz.func52, Tryz.ntmps52
  go_wp2
  go_loop [0] (fun t => ∃ x : List UInt8, t = .string ⟨x.toArray⟩ ∧ x.length ≤ l.length ∧ ldrop x = ldrop l) (fun t => lenOf t)
  case atStart => exact ⟨l, rfl, Nat.le_refl _, rfl⟩
  case round =>
    obtain ⟨x, rfl, hxl, hx⟩ := hrel
    have hx' := Lib.hid hx
    clear hx
    have hexit : (x.length = 0 ∨ ∃ h : 0 < x.length, isBlank x[0] = false) ∨ ∃ h : 0 < x.length, isBlank x[0] = true := by
      cases x with
      | nil => exact .inl (.inl rfl)
      | cons c t => cases h : isBlank c
                    · exact .inl (.inr ⟨by simp, h⟩)
                    · exact .inr ⟨by simp, h⟩
    rcases hexit with hex | ⟨h0, hbl⟩
    · have hid : ldrop x = x := by
        rcases hex with h | ⟨h, hb⟩
        · rw [List.eq_nil_of_length_eq_zero h]; rfl
        · cases x with
          | nil => rfl
          | cons c t => exact ldrop_cons_f hb
      have hid' := Lib.hid hid
      clear hid
      have hstop : x.length = 0 ∨ ∃ h : 0 < x.length, (((((⟨x.toArray⟩ : ByteArray)[0]'(by rw [size_mk]; exact h)).toNat : Nat) : Int) == 9) = false ∧ (((((⟨x.toArray⟩ : ByteArray)[0]'(by rw [size_mk]; exact h)).toNat : Nat) : Int) == 32) = false := by
        rcases hex with h | ⟨h, hb⟩
        · exact .inl h
        · refine .inr ⟨h, ?_⟩
          rw [blank_eq] at hb
          simp at hb
          exact ⟨beq_eq_false_iff_ne.2 hb.1, beq_eq_false_iff_ne.2 hb.2⟩
      clear hex
      rcases hstop with h0 | ⟨h0, h9, h32⟩
      all_goals go_wp2
      all_goals
        try clear h9 h32
        try clear h0
        go_loop [0] (fun t => ∃ y : List UInt8, t = .string ⟨y.toArray⟩ ∧ y.length ≤ l.length ∧ rdrop y = rdrop x) (fun t => lenOf t)
        case atStart => exact ⟨x, rfl, hxl, rfl⟩
        case round =>
          obtain ⟨y, rfl, hyl, hy⟩ := hrel
          have hy' := Lib.hid hy
          clear hy
          by_cases hn : y.length = 0
          · have hy0 := Lib.hid (List.eq_nil_of_length_eq_zero hn)
            go_wp2
            go_ret
            refine ⟨?_, rfl⟩
            have : trimB l = y := by rw [hfin.out, ← hx'.out, hid'.out, ← hy'.out, hy0.out]; rfl
            rw [this]; rfl
          · obtain ⟨k, hk⟩ : ∃ k, y.length = k + 1 := ⟨y.length - 1, by omega⟩
            have hkl : k < y.length := by omega
            obtain ⟨d, hd⟩ : ∃ d, (⟨y.toArray⟩ : ByteArray)[k]'(by rw [size_mk]; exact hkl) = d := ⟨_, rfl⟩
            have hd2 := Lib.hid (show y[k] = d from hd)
            obtain ⟨y2, hy2⟩ : ∃ y2, (⟨y.toArray⟩ : ByteArray).extract 0 k = ⟨y2.toArray⟩ ∧ y2 = y.take k := ⟨y.take k, by rw [extract_mk]; simp, rfl⟩
            obtain ⟨hyt, hyk⟩ := hy2
            have hyk' := Lib.hid hyk
            have hk' := Lib.hid hk
            have hy2l : y2.length < y.length := by rw [hyk]; simp; omega
            clear hyk
            clear hn
            rcases (by
              by_cases h9 : (d.toNat : Int) = 9
              · exact .inr (.inl (by simp [h9]))
              · by_cases h32 : (d.toNat : Int) = 32
                · exact .inr (.inr ⟨beq_eq_false_iff_ne.2 h9, by simp [h32]⟩)
                · exact .inl ⟨beq_eq_false_iff_ne.2 h9, beq_eq_false_iff_ne.2 h32⟩ : (((d.toNat : Int) == 9) = false ∧ ((d.toNat : Int) == 32) = false) ∨ ((d.toNat : Int) == 9) = true ∨ ((d.toNat : Int) == 9) = false ∧ ((d.toNat : Int) == 32) = true) with ⟨e9, e32⟩ | e9 | ⟨e9, e32⟩
            · go_wp2
              go_ret
              refine ⟨?_, rfl⟩
              have hdb : isBlank d = false := by rw [blank_eq]; simp only [beq_eq_false_iff_ne] at e9 e32; simp [e9, e32]
              have : trimB l = y := by rw [hfin.out, ← hx'.out, hid'.out, ← hy'.out]; exact rdrop_id hk'.out (by rw [hd2.out]; exact hdb)
              rw [this]; rfl
            · have hdb : isBlank d = true := by rw [blank_eq]; simp only [beq_iff_eq] at e9; simp [e9]
              have hdb' := Lib.hid hdb
              clear hdb
              go_wp2
              go_round
              case rel => exact ⟨y2, rfl, by omega, by rw [← hy'.out, hyk'.out]; exact rdrop_last hk'.out (by rw [hd2.out]; exact hdb'.out)⟩
              case measure => simp only [lenOf, size_mk]; exact hy2l
            · have hdb : isBlank d = true := by rw [blank_eq]; simp only [beq_iff_eq] at e32; simp [e32]
              have hdb' := Lib.hid hdb
              clear hdb
              go_wp2
              go_round
              case rel => exact ⟨y2, rfl, by omega, by rw [← hy'.out, hyk'.out]; exact rdrop_last hk'.out (by rw [hd2.out]; exact hdb'.out)⟩
              case measure => simp only [lenOf, size_mk]; exact hy2l
    · obtain ⟨c, hc⟩ : ∃ c, (⟨x.toArray⟩ : ByteArray)[0]'(by rw [size_mk]; exact h0) = c := ⟨_, rfl⟩
      obtain ⟨x2, hx2⟩ : ∃ x2, x = c :: x2 := by
        cases x with
        | nil => simp at h0
        | cons d t => exact ⟨t, by rw [← hc]; rfl⟩
      have hxt : (⟨x.toArray⟩ : ByteArray).extract 1 x.length = ⟨x2.toArray⟩ := by rw [extract_mk, hx2]; simp
      have hcb : isBlank c = true := by rw [← hc]; exact hbl
      have hcb' := Lib.hid hcb
      have hln : x2.length < x.length := by rw [hx2]; simp
      have hx3 := Lib.hid hx2
      have htest : ((c.toNat : Int) == 9) = true ∨ ((c.toNat : Int) == 9) = false ∧ ((c.toNat : Int) == 32) = true := by
        rw [blank_eq] at hcb
        by_cases h9 : (c.toNat : Int) = 9
        · exact .inl (by simp [h9])
        · refine .inr ⟨beq_eq_false_iff_ne.2 h9, ?_⟩
          simp [h9] at hcb; simp [hcb]
      clear hbl hx2 hcb
      rcases htest with h9 | ⟨h9, h32⟩
      all_goals go_wp2
      all_goals
        go_round
        case rel => exact ⟨x2, rfl, by omega, by rw [← hx'.out, hx3.out, ldrop_cons_t hcb'.out]⟩
        case measure => simp only [lenOf, size_mk]; exact hln

theorem low_later {w : World} (c : UInt8) (x : Later (Gr w)) : Calls Tryz.prog 53 #[.int .u8 c.toNat] x.w fun e w'' => e = .returned (.int .u8 (lower c).toNat) ∧ ∃ y : Later (Gr w), w'' = y.w :=
  Calls.later ((low_any c x.w).mono fun _ _ ⟨he, hw⟩ => ⟨he, hw ▸ x.ok⟩)

set_option maxHeartbeats 1000000 in
theorem ralike_any (a b : List UInt8) (w : World) (hla : a.length ≤ 9223372036854775807) (_hlb : b.length ≤ 9223372036854775807) :
    Calls Tryz.prog 32 #[.string ⟨a.toArray⟩, .string ⟨b.toArray⟩] w fun e w' => e = .returned (.bool (alikeB a b)) ∧ Gr w w' := by
  by_cases hne : a.length = b.length
  · go_enter Tryz.func32, Tryz.ntmps32
    have hlen : ((a.length : Int) != b.length) = false := by simp [hne]
    go_wp2
    go_loopw [4, 5] (fun _ i wr => (∃ k : Nat, k ≤ a.length ∧ i = .int .i64 k ∧ (a.take k).map lower = (b.take k).map lower) ∧ Gr w wr) (fun _ i _ => a.length - (intOf i).toNat)
    case atStart => exact ⟨⟨0, Nat.zero_le _, rfl, rfl⟩, Gr.refl _⟩
    case round =>
      obtain ⟨⟨k, hk, rfl, hall⟩, hg⟩ := hrel
      have hall' := Lib.hid hall
      clear hall
      by_cases hlt : k < a.length
      · have hlt' : k < b.length := by omega
        obtain ⟨ca, hca⟩ : ∃ c, (⟨a.toArray⟩ : ByteArray)[k]'(by rw [size_mk]; exact hlt) = c := ⟨_, rfl⟩
        obtain ⟨cb, hcb⟩ : ∃ c, (⟨b.toArray⟩ : ByteArray)[k]'(by rw [size_mk]; exact hlt') = c := ⟨_, rfl⟩
        have eca := Lib.hid (show a[k] = ca from hca)
        have ecb := Lib.hid (show b[k] = cb from hcb)
        haveI : Nonempty (Later (Gr w)) := ⟨⟨w, Gr.refl w⟩⟩
        have hg1 := hg.trans (Gr.drew' _)
        have next := Lib.hid (show lower ca = lower cb → (a.take (k + 1)).map lower = (b.take (k + 1)).map lower from fun e => by
          rw [List.take_succ_eq_append_getElem hlt, List.take_succ_eq_append_getElem hlt', List.map_append, List.map_append, hall'.out]; simp [eca.out, ecb.out, e])
        have bad := Lib.hid (show lower ca ≠ lower cb → alikeB a b = false from fun h => alike_at hlt hlt' (by rw [eca.out, ecb.out]; exact h))
        go_wp2
        refine wp_region_later (C := Gr w) (by kernel_rfl) (by kernel_rfl) hg1 ?_
        repeat (go_big_quiet_step (first | with_reducible exact low_later ca _ | with_reducible exact low_later cb _))
        refine wpQuiet_nil ?_
        intro w2 hg2
        go_wp2
        · have ht : (((lower ca).toNat : Int) != (lower cb).toNat) = true := by assumption
          go_ret
          exact ⟨ret_bool (bad.out (fun e => by rw [e] at ht; simp at ht)).symm, hg2⟩
        · have ht : (((lower ca).toNat : Int) != (lower cb).toNat) = false := by assumption
          go_roundw
          case rel => exact ⟨⟨k + 1, by omega, by go_num, next.out (u8_of_bne ht)⟩, hg2⟩
          case measure => simp [intOf]; omega
      · go_wp2
        go_ret
        refine ⟨ret_bool ?_, hg⟩
        have h := hall'.out
        rw [List.take_of_length_le (by omega), List.take_of_length_le (by omega)] at h
        unfold alikeB
        rw [h]; simp
  · have hlen : ((a.length : Int) != b.length) = true := by rw [bne_iff_ne]; omega
    go_enter Tryz.func32, Tryz.ntmps32
    go_wp2
    go_ret
    refine ⟨ret_bool ?_, Gr.refl _⟩
    unfold alikeB
    exact (beq_eq_false_iff_ne.2 (fun e => hne (by simpa using congrArg List.length e))).symm
end Go.Proofs.YtfcokldbpjkjpaaGreatDoor
