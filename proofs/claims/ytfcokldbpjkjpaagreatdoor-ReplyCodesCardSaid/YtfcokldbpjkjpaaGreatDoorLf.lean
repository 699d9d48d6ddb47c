/-
  Walks over the reference of package line: a reply's line.
-/
import Derived.Test.YtfcokldbpjkjpaaGreatDoorLd
import Derived.Test.YtfcokldbpjkjpaaGreatDoorLc
namespace Go.Proofs.YtfcokldbpjkjpaaGreatDoor
open Go.RowKit

theorem stat_thirteen {l : List UInt8} (h : 13 ≤ l.length) (hp : Lib.hasPrefix l aheadL = true) : ∃ a b c d y, l = aheadL ++ a :: b :: c :: d :: y := by
  obtain ⟨t, rfl⟩ := List.isPrefixOf_iff_prefix.1 hp
  obtain ⟨a, b, c, d, y, rfl⟩ := four_of (t := t) (by simp [aheadL] at h; omega)
  exact ⟨a, b, c, d, y, rfl⟩
theorem pre_take9 {l : List UInt8} (h : Lib.hasPrefix l aheadL = false) : l.take 9 ≠ aheadL := fun e => by
  have : Lib.hasPrefix l aheadL = true := List.isPrefixOf_iff_prefix.2 ⟨l.drop 9, by rw [← e, List.take_append_drop]⟩
  rw [this] at h; cases h
def SRel (a b c : UInt8) (n i : Value) : Prop :=
  (i = .int .i64 9 ∧ n = .int .i64 0) ∨ (i = .int .i64 10 ∧ n = .int .i64 ((a.toNat : Int) - 48)) ∨
  (i = .int .i64 11 ∧ digB b = true ∧ n = .int .i64 (10 * ((a.toNat : Int) - 48) + ((b.toNat : Int) - 48))) ∨
  (i = .int .i64 12 ∧ digB b = true ∧ digB c = true ∧ n = .int .i64 (100 * ((a.toNat : Int) - 48) + 10 * ((b.toNat : Int) - 48) + ((c.toNat : Int) - 48)))

set_option maxHeartbeats 4000000 in
set_option maxRecDepth 100000 in
theorem rstatus_any (l : List UInt8) (w : World) (hl : l.length ≤ 900000) :
    Calls Tryz.prog 36 #[.string ⟨l.toArray⟩] w fun e w' => e = .returned (stV (statB l)) ∧ Gr w w' := by
  have hlI : (l.length : Int) ≤ 900000 := by omega
  by_cases h13 : 13 ≤ l.length
  · have h13I : ¬ ((l.length : Int) < 13) := by omega
    cases hp : Lib.hasPrefix l aheadL
    · have hT := Lib.hid (statB_no (l := l) (.inl (by rw [hp]; rfl)))
      have hx9 : (⟨l.toArray⟩ : ByteArray).extract 0 9 = ⟨(l.take 9).toArray⟩ := by rw [extract_mk]; simp
      have hne := pre_take9 hp
      obtain ⟨t9, ht9⟩ : ∃ t9, l.take 9 = t9 := ⟨_, rfl⟩
      rw [ht9] at hx9 hne
      have e1 : (!(t9 == ([72, 84, 84, 80, 47, 49, 46, 49, 32] : List UInt8))) = true := by simpa [aheadL] using hne
      clear hne ht9 hp
      go_enter Tryz.func36, Tryz.ntmps36
      go_wp2
      go_ret3
      exact ⟨by rw [hT.out]; rfl, Gr.refl _⟩
    · obtain ⟨a, b, c, d, y, hld⟩ := stat_thirteen h13 hp
      have hT := stat_four (a := a) (b := b) (c := c) (d := d) (y := y)
      rw [← hld] at hT
      have hx9 : (⟨l.toArray⟩ : ByteArray).extract 0 9 = ⟨#[72, 84, 84, 80, 47, 49, 46, 49, 32]⟩ := by rw [extract_mk, hld]; rfl
      have hx13 : (⟨l.toArray⟩ : ByteArray).extract 13 l.length = ⟨y.toArray⟩ := by rw [extract_mk, hld]; simp [aheadL]
      have i9 : (⟨l.toArray⟩ : ByteArray)[9]'(by rw [size_mk]; omega) = a := by subst hld; rfl
      have i10 : (⟨l.toArray⟩ : ByteArray)[10]'(by rw [size_mk]; omega) = b := by subst hld; rfl
      have i11 : (⟨l.toArray⟩ : ByteArray)[11]'(by rw [size_mk]; omega) = c := by subst hld; rfl
      have i12 : (⟨l.toArray⟩ : ByteArray)[12]'(by rw [size_mk]; omega) = d := by subst hld; rfl
      have hdrop : l.drop 13 = y := by rw [hld]; rfl
      have hdrop' := Lib.hid hdrop
      have hT' := Lib.hid hT
      clear hld hp hT hdrop
      by_cases hd32 : d = 32
      · have hdI : ((d.toNat : Int) != 32) = false := by rw [hd32]; rfl
        have hT2 := Lib.hid (show statB l = if y.all isVal then (match code3 a b c with | some n => (n, y, true) | none => (0, [], false)) else (0, [], false) by rw [hT'.out, hd32, show ((32 : UInt8) == 32) = true from rfl, Bool.true_and]; rfl)
        clear hd32
        cases hfa : firstB a
        · have hT3 := Lib.hid (show statB l = (0, [], false) by
            rw [hT2.out]; unfold code3; rw [hfa]; cases y.all isVal <;> rfl)
          rw [firstB_eq, decide_eq_false_iff_not] at hfa
          have hways : (a.toNat : Int) < 49 ∨ (49 ≤ (a.toNat : Int) ∧ 53 < (a.toNat : Int)) := by omega
          clear hfa
          rcases hways with h1 | ⟨h1, h2⟩
          all_goals
            go_enter Tryz.func36, Tryz.ntmps36
            go_wp2
            go_ret3
            exact ⟨by rw [hT3.out]; rfl, Gr.refl _⟩
        · have hfa' := Lib.hid hfa
          rw [firstB_eq, decide_eq_true_eq] at hfa
          obtain ⟨a1, a2⟩ := hfa
          go_enter Tryz.func36, Tryz.ntmps36
          go_wp2
          go_loop [5, 6] (fun n i => SRel a b c n i) (fun _ i => (12 - intOf i).toNat)
          case atStart => exact .inl ⟨rfl, rfl⟩
          case round =>
            unfold SRel at hrel
            rcases hrel with ⟨rfl, rfl⟩ | ⟨rfl, rfl⟩ | ⟨rfl, hb, rfl⟩ | ⟨rfl, hb, hc, rfl⟩
            · go_wp2
              go_round
              case rel => exact .inr (.inl ⟨rfl, by go_num⟩)
              case measure => simp [intOf]
            · cases hb : digB b
              · have hT3 := Lib.hid (show statB l = (0, [], false) by
                  rw [hT2.out]; unfold code3; rw [hb]; cases y.all isVal <;> simp)
                rw [dig_eq, decide_eq_false_iff_not] at hb
                have hways : (b.toNat : Int) < 48 ∨ (48 ≤ (b.toNat : Int) ∧ 57 < (b.toNat : Int)) := by omega
                clear hb
                rcases hways with h1 | ⟨h1, h2⟩
                all_goals
                  go_wp2
                  go_ret3
                  exact ⟨by rw [hT3.out]; rfl, Gr.refl _⟩
              · have hb' := Lib.hid hb
                rw [dig_eq, decide_eq_true_eq] at hb
                obtain ⟨b1, b2⟩ := hb
                go_wp2
                go_round
                case rel => exact .inr (.inr (.inl ⟨rfl, hb'.out, by go_num⟩))
                case measure => simp [intOf]
            · have hb' := Lib.hid hb
              rw [dig_eq, decide_eq_true_eq] at hb
              obtain ⟨b1, b2⟩ := hb
              cases hc : digB c
              · have hT3 := Lib.hid (show statB l = (0, [], false) by
                  rw [hT2.out]; unfold code3; rw [hc]; cases y.all isVal <;> simp)
                rw [dig_eq, decide_eq_false_iff_not] at hc
                have hways : (c.toNat : Int) < 48 ∨ (48 ≤ (c.toNat : Int) ∧ 57 < (c.toNat : Int)) := by omega
                clear hc
                rcases hways with h1 | ⟨h1, h2⟩
                all_goals
                  go_wp2
                  go_ret3
                  exact ⟨by rw [hT3.out]; rfl, Gr.refl _⟩
              · have hc' := Lib.hid hc
                rw [dig_eq, decide_eq_true_eq] at hc
                obtain ⟨c1, c2⟩ := hc
                go_wp2
                go_round
                case rel => exact .inr (.inr (.inr ⟨rfl, hb'.out, hc'.out, by go_num⟩))
                case measure => simp [intOf]
            · have hcode := Lib.hid (show code3 a b c = some (100 * (a.toNat - 48) + 10 * (b.toNat - 48) + (c.toNat - 48)) by unfold code3; rw [hfa'.out, hb, hc]; rfl)
              rw [dig_eq, decide_eq_true_eq] at hb hc
              obtain ⟨b1, b2⟩ := hb
              obtain ⟨c1, c2⟩ := hc
              obtain ⟨n, hn, hnI⟩ : ∃ n : Nat, 100 * (a.toNat - 48) + 10 * (b.toNat - 48) + (c.toNat - 48) = n ∧ 100 * ((a.toNat : Int) - 48) + 10 * ((b.toNat : Int) - 48) + ((c.toNat : Int) - 48) = (n : Int) := ⟨_, rfl, by omega⟩
              rw [hn] at hcode
              rw [hnI]
              have hT3 := Lib.hid (show statB l = if y.all isVal then (n, y, true) else (0, [], false) by rw [hT2.out, hcode.out])
              clear hn hnI a1 a2 b1 b2 c1 c2 i9 i10 i11 i12 hdI
              go_wp2
              go_loop [7] (fun i => ∃ k : Nat, 13 ≤ k ∧ k ≤ l.length ∧ i = .int .i64 k ∧ ((l.drop 13).take (k - 13)).all isVal = true) (fun i => l.length - (intOf i).toNat)
              case atStart => exact ⟨13, Nat.le_refl _, h13, rfl, rfl⟩
              case round =>
                obtain ⟨k, hk1, hk2, rfl, hall⟩ := hrel
                have hall' := Lib.hid hall
                clear hall
                by_cases hlt : k < l.length
                · obtain ⟨x, hx⟩ : ∃ c, (⟨l.toArray⟩ : ByteArray)[k]'(by rw [size_mk]; exact hlt) = c := ⟨_, rfl⟩
                  have hkd : k - 13 < (l.drop 13).length := by rw [List.length_drop]; omega
                  have hx' := Lib.hid (show (l.drop 13)[k - 13] = x by
                    rw [List.getElem_drop]
                    have e : l[k] = x := hx
                    rw [← e]; congr 1; omega)
                  have hve := val_eq x
                  cases hv : isVal x
                  · have hT4 := Lib.hid (show statB l = (0, [], false) by
                      rw [hT3.out, ← hdrop'.out, all_false hkd (by rw [hx'.out]; exact hv)]; rfl)
                    rw [hv] at hve
                    have hve2 : ¬ ((x.toNat : Int) = 9 ∨ (32 ≤ (x.toNat : Int) ∧ (x.toNat : Int) ≠ 127)) := of_decide_eq_false hve.symm
                    have h9 : ((x.toNat : Int) != 9) = true := by rw [bne_iff_ne]; omega
                    clear hve hv
                    by_cases h32 : (x.toNat : Int) < 32
                    · clear hve2
                      go_wp2
                      go_ret3
                      exact ⟨by rw [hT4.out]; rfl, Gr.refl _⟩
                    · have h127 : ((x.toNat : Int) == 127) = true := by rw [beq_iff_eq]; omega
                      clear hve2
                      go_wp2
                      go_ret3
                      exact ⟨by rw [hT4.out]; rfl, Gr.refl _⟩
                  · have hnext := Lib.hid (show ((l.drop 13).take (k + 1 - 13)).all isVal = true by
                      rw [show k + 1 - 13 = (k - 13) + 1 by omega]; exact all_take_succ hall'.out hkd (by rw [hx'.out]; exact hv))
                    rw [hv] at hve
                    have hve2 : (x.toNat : Int) = 9 ∨ (32 ≤ (x.toNat : Int) ∧ (x.toNat : Int) ≠ 127) := of_decide_eq_true hve.symm
                    clear hve hv
                    rcases hve2 with h | ⟨h1, h2⟩
                    · have h9 : ((x.toNat : Int) != 9) = false := by rw [h]; rfl
                      clear h
                      go_wp2
                      go_round
                      case rel => exact ⟨k + 1, by omega, by omega, by go_num, hnext.out⟩
                      case measure => simp [intOf]; omega
                    · have h127 : ((x.toNat : Int) == 127) = false := beq_eq_false_iff_ne.2 h2
                      have h9 : ((x.toNat : Int) != 9) = true := by rw [bne_iff_ne]; omega
                      clear h2
                      go_wp2
                      go_round
                      case rel => exact ⟨k + 1, by omega, by omega, by go_num, hnext.out⟩
                      case measure => simp [intOf]; omega
                · obtain rfl : k = l.length := by omega
                  have hT4 := Lib.hid (show statB l = (n, y, true) by
                    have h := hall'.out
                    rw [List.take_of_length_le (by rw [List.length_drop]; omega), hdrop'.out] at h
                    rw [hT3.out, h]; rfl)
                  clear hall'
                  go_wp2
                  go_quiet (fail)
                  go_wp2
                  go_ret3
                  exact ⟨by rw [hT4.out]; rfl, below_drewNm _ _⟩
      · have hdI : ((d.toNat : Int) != 32) = true := bne_iff_ne.2 (fun e => hd32 (UInt8.toNat_inj.1 (show d.toNat = 32 by omega)))
        have hT2 := Lib.hid (show statB l = (0, [], false) by rw [hT'.out, show (d == 32) = false from beq_eq_false_iff_ne.2 hd32]; rfl)
        clear hd32
        go_enter Tryz.func36, Tryz.ntmps36
        go_wp2
        go_ret3
        exact ⟨by rw [hT2.out]; rfl, Gr.refl _⟩
  · have hT := Lib.hid (statB_no (l := l) (.inl (by rw [decide_eq_false h13]; simp)))
    have h13I : (l.length : Int) < 13 := by omega
    clear h13
    go_enter Tryz.func36, Tryz.ntmps36
    go_wp2
    go_ret3
    exact ⟨by rw [hT.out]; rfl, Gr.refl _⟩
end Go.Proofs.YtfcokldbpjkjpaaGreatDoor
