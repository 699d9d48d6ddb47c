/-
  Walks over the reference of package chunk: a head's size.
-/
import Derived.Test.YtpncfeaaffgkfaaGreatDoorKd
import Derived.Test.YtpncfeaaffgkfaaGreatDoorYm
namespace Go.Proofs.YtpncfeaaffgkfaaGreatDoor
open Go.RowKit
attribute [local go_sem] Oper.semAt_some

theorem hex_tests (c : UInt8) : (isHex c = true ∧ 48 ≤ (c.toNat : Int) ∧ (c.toNat : Int) ≤ 57 ∧ (hexD c : Int) = (c.toNat : Int) - 48) ∨ (isHex c = true ∧ 97 ≤ (c.toNat : Int) ∧ (c.toNat : Int) ≤ 102 ∧ (hexD c : Int) = (c.toNat : Int) - 97 + 10) ∨ (isHex c = true ∧ 65 ≤ (c.toNat : Int) ∧ (c.toNat : Int) ≤ 70 ∧ (hexD c : Int) = (c.toNat : Int) - 65 + 10) ∨
    (isHex c = false ∧ ((c.toNat : Int) < 48 ∨ (57 < (c.toNat : Int) ∧ (c.toNat : Int) < 65) ∨ (70 < (c.toNat : Int) ∧ (c.toNat : Int) < 97) ∨ 102 < (c.toNat : Int))) := by
  revert c
  refine fun c => u8_all (p := fun c => (isHex c = true ∧ 48 ≤ (c.toNat : Int) ∧ (c.toNat : Int) ≤ 57 ∧ (hexD c : Int) = (c.toNat : Int) - 48) ∨ (isHex c = true ∧ 97 ≤ (c.toNat : Int) ∧ (c.toNat : Int) ≤ 102 ∧ (hexD c : Int) = (c.toNat : Int) - 97 + 10) ∨ (isHex c = true ∧ 65 ≤ (c.toNat : Int) ∧ (c.toNat : Int) ≤ 70 ∧ (hexD c : Int) = (c.toNat : Int) - 65 + 10) ∨
    (isHex c = false ∧ ((c.toNat : Int) < 48 ∨ (57 < (c.toNat : Int) ∧ (c.toNat : Int) < 65) ∨ (70 < (c.toNat : Int) ∧ (c.toNat : Int) < 97) ∨ 102 < (c.toNat : Int)))) (by decide +kernel) c
def sizeV (o : Option Nat) : Value := .int .i64 (match o with | none => -1 | some x => x)
/-- Where a head's number ends. -/
theorem size_cut (s : List UInt8) : ∃ p, p ≤ s.length ∧ (∀ j, (hj : j < s.length) → j < p → s[j] ≠ 59) ∧ (p = s.length ∨ ∃ h : p < s.length, s[p] = 59) ∧ sizeC s = if (s.drop (p + 1)).all isVal && (!(s.take p).isEmpty && (decide (p ≤ 8) && (s.take p).all isHex)) then some (hexN (s.take p)) else none := by
  rcases cut_cases s 59 with ⟨h, hn⟩ | ⟨p, hp, h1, h2, h⟩
  · refine ⟨s.length, Nat.le_refl _, fun j hj _ => hn j hj, .inl rfl, ?_⟩
    unfold sizeC; rw [h, List.drop_of_length_le (by omega), List.take_length]
  · refine ⟨p, by omega, fun j hj hjp => h2 j hjp, .inr ⟨hp, h1⟩, ?_⟩
    unfold sizeC; rw [h]; dsimp only
    rw [List.length_take, Nat.min_eq_left (by omega)]

set_option maxHeartbeats 8000000 in
set_option maxRecDepth 20000 in
theorem rsize_any (s : List UInt8) (hl : s.length ≤ 1000000) (w : World) :
    Calls Tryz.prog 56 #[.string ⟨s.toArray⟩] w fun e w' => e = .returned (sizeV (sizeC s)) ∧ w = w' := by
  obtain ⟨p, hp, hno, hend, hsz⟩ := size_cut s
  have hno' := Lib.hid hno
  have hsz' := Lib.hid hsz
  have hend' := Lib.hid hend
  clear hno hsz hend
  go_enter Tryz.func56, Tryz.ntmps56
  go_wp2
  go_loop [3, 4] (fun n x => ∃ k : Nat, k ≤ p ∧ k ≤ 8 ∧ n = .int .i64 k ∧ x = .int .i64 (hexN (s.take k)) ∧ (s.take k).all isHex = true) (fun n _ => s.length - (intOf n).toNat)
  case atStart => exact ⟨0, by omega, by omega, rfl, rfl, rfl⟩
  case round =>
    obtain ⟨k, hkp, hk8, rfl, rfl, hall⟩ := hrel
    have hall' := Lib.hid hall
    have hxb : hexN (s.take k) ≤ 4294967295 := by
      have := hexN_lt k (s.take k) (by rw [List.length_take]; omega) hall
      have h2 : 16 ^ k ≤ 16 ^ 8 := Nat.pow_le_pow_right (by decide) hk8
      have e : (16 : Nat) ^ 8 = 4294967296 := rfl
      omega
    obtain ⟨x, hx⟩ : ∃ x, hexN (s.take k) = x := ⟨_, rfl⟩
    rw [hx] at hxb ⊢
    have hx' := Lib.hid hx
    have hxI : (x : Int) ≤ 4294967295 := by omega
    clear hall hx
    by_cases hkq : k < p
    · have hks : k < s.length := by omega
      obtain ⟨c, hc⟩ : ∃ c, (⟨s.toArray⟩ : ByteArray)[k]'(by rw [size_mk]; exact hks) = c := ⟨_, rfl⟩
      have hc2 := Lib.hid (show s[k] = c from hc)
      have hcn : ((c.toNat : Int) != 59) = true := by
        rw [bne_iff_ne]; intro e
        exact hno'.out k hks hkq ((show s[k] = c from hc).trans (UInt8.toNat_inj.1 (by show c.toNat = 59; omega)))
      have hbadx := Lib.hid (fun (hb : isHex c = false ∨ 8 ≤ k) => show sizeC s = none by
        rw [hsz'.out]
        have : (decide (p ≤ 8) && (s.take p).all isHex) = false := by
          rcases hb with hb | hb
          · have hlt : k < (s.take p).length := by rw [List.length_take]; omega
            rw [all_false hlt (by rw [List.getElem_take, hc2.out]; exact hb), Bool.and_false]
          · rw [decide_eq_false (by omega), Bool.false_and]
        rw [this, Bool.and_false, Bool.and_false, if_neg (by decide)])
      have hgood := Lib.hid (fun (hb : isHex c = true) (d : Nat) (hd : hexD c = d) => show hexN (s.take (k + 1)) = 16 * x + d ∧ (s.take (k + 1)).all isHex = true from
        ⟨by rw [List.take_succ_eq_append_getElem hks, hexN_snoc, hc2.out, hx'.out, hd], all_take_succ hall'.out hks (by rw [hc2.out]; exact hb)⟩)
      rcases hex_tests c with ⟨hb, h1, h2, h3⟩ | ⟨hb, h1, h2, h3⟩ | ⟨hb, h1, h2, h3⟩ | ⟨hb, h1⟩
      iterate 3
        · obtain ⟨d, hd⟩ : ∃ d, hexD c = d := ⟨_, rfl⟩
          obtain ⟨y, hy⟩ : ∃ y, 16 * x + d = y := ⟨_, rfl⟩
          rw [hd] at h3
          have hd15 : (d : Int) ≤ 15 := by omega
          have hyI : (16 : Int) * x + d = y := by omega
          have hd0 : (0 : Int) ≤ d := by omega
          by_cases h8 : k < 8
          · have hg := Lib.hid (hgood.out hb d hd)
            have hy' := Lib.hid hy
            have h8I : (k : Int) < 8 := by omega
            have h3' : (c.toNat : Int) - 48 = d ∨ (c.toNat : Int) - 97 + 10 = d ∨ (c.toNat : Int) - 65 + 10 = d := by omega
            clear hb hd
            go_wp2
            go_round
            case rel => exact ⟨k + 1, by omega, by omega, by go_num, by rw [hg.out.1]; first | rfl | (rw [hy'.out]; go_num) | (congr 1; omega), hg.out.2⟩
            case measure => simp [intOf]; omega
          · have hres := Lib.hid (hbadx.out (.inr (by omega)))
            have h8I : ¬ (k : Int) < 8 := by omega
            have h8J : (8 : Int) ≤ k := by omega
            clear hb hd
            go_wp2
            refine bodyPost_ret (v := .int .i64 (-1)) (by simp [results, Tryz.results56, go_sem]) rfl ⟨by rw [hres.out]; rfl, rfl⟩
      · have hres := Lib.hid (hbadx.out (.inl hb))
        clear hb
        rcases h1 with h1 | ⟨h1, h2⟩ | ⟨h1, h2⟩ | h1
        all_goals
          go_wp2
          refine bodyPost_ret (v := .int .i64 (-1)) (by simp [results, Tryz.results56, go_sem]) rfl ⟨by rw [hres.out]; rfl, rfl⟩
    · obtain rfl : k = p := by omega
      obtain ⟨ex, hex⟩ : ∃ e, s.drop (k + 1) = e := ⟨_, rfl⟩
      have hex' := Lib.hid hex
      have hel : ex.length = s.length - (k + 1) := by rw [← hex, List.length_drop]
      have hsz2 := Lib.hid (show sizeC s = if ex.all isVal && !(k == 0) then some x else none by
        rw [hsz'.out, hex, hall'.out, hx'.out, decide_eq_true hk8, Bool.and_true, Bool.and_true]
        have : (s.take k).isEmpty = (k == 0) := by
          rw [Bool.eq_iff_iff, List.isEmpty_iff, beq_iff_eq]
          constructor
          · intro e; have := congrArg List.length e; rw [List.length_take, List.length_nil] at this; omega
          · intro e; rw [e]; rfl
        rw [this])
      by_cases hk0 : k = 0
      · have hres := Lib.hid (show sizeC s = none by rw [hsz2.out, hk0, show (0 == 0) = true from rfl, Bool.not_true, Bool.and_false, if_neg (by decide)])
        subst hk0
        clear hel hex hxb hxI
        by_cases hks : 0 < s.length
        · have hc0 := hend'.out.resolve_left (by omega)
          obtain ⟨c, hc⟩ : ∃ c, (⟨s.toArray⟩ : ByteArray)[0]'(by rw [size_mk]; exact hks) = c := ⟨_, rfl⟩
          have hcn : ((c.toNat : Int) != 59) = false := by
            obtain ⟨_, h⟩ := hc0
            rw [show s[0] = c from hc] at h; rw [h]; rfl
          clear hc0
          go_wp2
          refine bodyPost_ret (v := .int .i64 (-1)) (by simp [results, Tryz.results56, go_sem]) rfl ⟨by rw [hres.out]; rfl, rfl⟩
        · go_wp2
          refine bodyPost_ret (v := .int .i64 (-1)) (by simp [results, Tryz.results56, go_sem]) rfl ⟨by rw [hres.out]; rfl, rfl⟩
      · have hk0I : ((k : Int) == 0) = false := beq_eq_false_iff_ne.2 (by omega)
        have hsz3 := Lib.hid (show sizeC s = if ex.all isVal then some x else none by
          rw [hsz2.out, show (k == 0) = false from beq_eq_false_iff_ne.2 hk0, Bool.not_false, Bool.and_true])
        have hfacts : (k = s.length) ∨ (∃ h : k < s.length, (((((⟨s.toArray⟩ : ByteArray)[k]'(by rw [size_mk]; exact h)).toNat : Nat) : Int) != 59) = false) := by
          rcases hend'.out with h | ⟨h1, h2⟩
          · exact .inl h
          · refine .inr ⟨h1, ?_⟩
            rw [show (⟨s.toArray⟩ : ByteArray)[k]'(by rw [size_mk]; exact h1) = 59 from h2]; rfl
        clear hk0 hex
        rcases hfacts with hf | ⟨hf, hc⟩
        all_goals
          go_wp2
          try clear hc
          go_loop [7] (fun i => ∃ m : Nat, k + 1 ≤ m ∧ m ≤ s.length + 1 ∧ i = .int .i64 m ∧ (ex.take (m - (k + 1))).all isVal = true) (fun i => s.length - (intOf i).toNat)
          case atStart => exact ⟨k + 1, Nat.le_refl _, by omega, by (first | rfl | go_num | (congr 1; omega)), by rw [Nat.sub_self]; rfl⟩
          case round =>
            obtain ⟨m, hm1, hm2, rfl, hm⟩ := hrel
            have hm' := Lib.hid hm
            clear hm
            by_cases hms : m < s.length
            · obtain ⟨d, hd⟩ : ∃ d, (⟨s.toArray⟩ : ByteArray)[m]'(by rw [size_mk]; exact hms) = d := ⟨_, rfl⟩
              have hme : m - (k + 1) < ex.length := by omega
              have hd2 := Lib.hid (show ex[m - (k + 1)] = d by
                have h0 : ex[m - (k + 1)]? = some d := by
                  rw [← hex'.out, List.getElem?_drop, show k + 1 + (m - (k + 1)) = m by omega, List.getElem?_eq_getElem hms]
                  exact congrArg some hd
                rw [List.getElem?_eq_getElem hme] at h0
                exact Option.some.inj h0)
              cases hdv : isVal d
              · have hres := Lib.hid (show sizeC s = none by rw [hsz3.out, all_false hme (by rw [hd2.out]; exact hdv)]; rfl)
                have htests : ((d.toNat : Int) != 9) = true ∧ ((d.toNat : Int) < 32 ∨ (32 ≤ (d.toNat : Int) ∧ ((d.toNat : Int) == 127) = true)) := by
                  rw [val_eq] at hdv
                  simp at hdv
                  refine ⟨by rw [bne_iff_ne]; exact hdv.1, ?_⟩
                  by_cases h32 : (d.toNat : Int) < 32
                  · exact .inl h32
                  · exact .inr ⟨by omega, by rw [beq_iff_eq]; have := hdv.2 (by omega); omega⟩
                clear hd2 hdv hel hme
                obtain ⟨t9, (t32 | ⟨t32, t127⟩)⟩ := htests
                all_goals
                  go_wp2
                  refine bodyPost_ret (v := .int .i64 (-1)) (by simp [results, Tryz.results56, go_sem]) rfl ⟨by rw [hres.out]; rfl, rfl⟩
              · have hnx := Lib.hid (show (ex.take (m + 1 - (k + 1))).all isVal = true by
                  rw [show m + 1 - (k + 1) = (m - (k + 1)) + 1 by omega]; exact all_take_succ hm'.out hme (by rw [hd2.out]; exact hdv))
                have htests : ((d.toNat : Int) != 9) = false ∨ ((d.toNat : Int) != 9) = true ∧ 32 ≤ (d.toNat : Int) ∧ ((d.toNat : Int) == 127) = false := by
                  rw [val_eq] at hdv
                  simp only [decide_eq_true_eq] at hdv
                  by_cases h9 : (d.toNat : Int) = 9
                  · exact .inl (by simp [h9])
                  · rcases hdv with h | ⟨h1, h2⟩
                    · exact absurd h h9
                    · exact .inr ⟨by rw [bne_iff_ne]; exact h9, h1, beq_eq_false_iff_ne.2 h2⟩
                clear hd2 hdv hel hme
                obtain t9 | ⟨t9, t32, t127⟩ := htests
                all_goals go_wp2
                all_goals
                  go_round
                  case rel => exact ⟨m + 1, by omega, by omega, by go_num, hnx.out⟩
                  case measure => simp [intOf]; omega
            · have hres := Lib.hid (show sizeC s = some x by
                rw [hsz3.out, if_pos]
                have := hm'.out
                rwa [List.take_of_length_le (by omega)] at this)
              go_wp2
              refine bodyPost_ret (v := .int .i64 x) (by simp [results, Tryz.results56, go_sem]) rfl ⟨by rw [hres.out]; rfl, rfl⟩
end Go.Proofs.YtpncfeaaffgkfaaGreatDoor
