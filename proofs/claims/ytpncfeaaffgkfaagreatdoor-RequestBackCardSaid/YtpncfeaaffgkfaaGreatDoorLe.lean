/-
  Walks over the reference of package line: a request's line.
-/
import Derived.Test.YtpncfeaaffgkfaaGreatDoorLd
namespace Go.Proofs.YtpncfeaaffgkfaaGreatDoor
open Go.RowKit

theorem rtoken_is (l : List UInt8) (b : Bool) (h : tokB l = b) (w : World) (hl : l.length ≤ 9223372036854775807) :
    Calls Tryz.prog 82 #[.string ⟨l.toArray⟩] w fun e w' => e = .returned (.bool b) ∧ w = w' := h ▸ rtoken_any l w hl

set_option maxHeartbeats 4000000 in
set_option maxRecDepth 100000 in
theorem rline_any (l : List UInt8) (w : World) (hl : l.length ≤ 1000000) :
    Calls Tryz.prog 49 #[.string ⟨l.toArray⟩] w fun e w' => e = .returned (lnV (lineB l)) ∧ Gr w w' := by
  have hlI : (l.length : Int) ≤ 1000000 := by omega
  go_enter Tryz.func49, Tryz.ntmps49
  go_wp2
  go_loop [6] (fun i => ∃ k : Nat, k ≤ l.length ∧ i = .int .i64 k ∧ ∀ j, (hj : j < l.length) → j < k → l[j] ≠ 32) (fun i => l.length - (intOf i).toNat)
  case atStart => exact ⟨0, Nat.zero_le _, rfl, fun j _ hj => absurd hj (Nat.not_lt_zero _)⟩
  case round =>
    obtain ⟨a, ha, rfl, hno⟩ := hrel
    have hno' := Lib.hid hno
    clear hno
    by_cases hlt : a < l.length
    · obtain ⟨c, hc⟩ : ∃ c, (⟨l.toArray⟩ : ByteArray)[a]'(by rw [size_mk]; exact hlt) = c := ⟨_, rfl⟩
      have hc2 := Lib.hid (show l[a] = c from hc)
      by_cases h32 : c = 32
      · have hsp := Lib.hid (show l[a] = 32 by rw [hc2.out, h32])
        have h32I : ((c.toNat : Int) != 32) = false := by rw [h32]; rfl
        clear h32
        go_wp2
        clear hc h32I hc2
        go_loop [7] (fun i => ∃ k : Nat, a + 1 ≤ k ∧ k ≤ l.length ∧ i = .int .i64 k ∧ ∀ j, (hj : j < l.length) → a + 1 ≤ j → j < k → isVis l[j] = true) (fun i => l.length - (intOf i).toNat)
        case atStart => exact ⟨a + 1, Nat.le_refl _, by omega, by go_num, fun j _ h1 h2 => absurd h1 (by omega)⟩
        case round =>
          obtain ⟨b, hab, hb, rfl, hvis⟩ := hrel
          have hvis' := Lib.hid hvis
          clear hvis
          by_cases hlt2 : b < l.length
          · obtain ⟨d, hd⟩ : ∃ c, (⟨l.toArray⟩ : ByteArray)[b]'(by rw [size_mk]; exact hlt2) = c := ⟨_, rfl⟩
            have hd2 := Lib.hid (show l[b] = d from hd)
            cases hv : isVis d
            · -- the target has ended
              have hT := line_ref hlt hsp.out (fun j hj => hno'.out j (by omega) hj) hab hb (fun j h1 h2 => hvis'.out j (by omega) h1 h2) (fun _ => by rw [hd2.out]; exact hv)
              rw [decide_eq_true hlt2, List.getElem?_eq_getElem hlt2, hd2.out] at hT
              have hve : ¬ (33 ≤ (d.toNat : Int) ∧ (d.toNat : Int) ≤ 126) := by rw [vis_eq, decide_eq_false_iff_not] at hv; exact hv
              have hx1 : (⟨l.toArray⟩ : ByteArray).extract 0 a = ⟨(l.take a).toArray⟩ := by rw [extract_mk]; simp
              have hx2 : (⟨l.toArray⟩ : ByteArray).extract (a + 1) b = ⟨((l.take b).drop (a + 1)).toArray⟩ := by rw [extract_mk]
              have hx3 : (⟨l.toArray⟩ : ByteArray).extract (b + 1) l.length = ⟨(l.drop (b + 1)).toArray⟩ := by rw [extract_mk]; simp
              obtain ⟨m, hm⟩ : ∃ m, l.take a = m := ⟨_, rfl⟩
              obtain ⟨t, ht⟩ : ∃ t, (l.take b).drop (a + 1) = t := ⟨_, rfl⟩
              obtain ⟨p, hp⟩ : ∃ p, l.drop (b + 1) = p := ⟨_, rfl⟩
              rw [hm] at hx1 hT
              rw [ht] at hx2 hT
              rw [hp] at hx3 hT
              have hml : m.length ≤ 9223372036854775807 := by rw [← hm, List.length_take]; omega
              have hways : (33 ≤ (d.toNat : Int) ∧ 126 < (d.toNat : Int)) ∨ (d.toNat : Int) < 33 := by omega
              have hT' := Lib.hid hT
              have habI : (a : Int) + 1 ≤ b := by omega
              clear hm ht hp hT hve hv
              cases htk : tokB m
              · have htok := Lib.hid (fun w => rtoken_is m _ htk w hml)
                have hT2 := Lib.hid (show lineB l = ([], [], 0, false) by rw [hT'.out, htk]; rfl)
                clear htk
                rcases hways with ⟨h1, h2⟩ | h1
                all_goals
                  go_wp2_with fail
                  refine (htok.out _).mono ?_
                  rintro e w2 ⟨rfl, rfl⟩
                  go_wp2
                  (try simp only [Exit.inBlock, Exit.then])
                  refine bodyPost_ret (results_tmp4 rfl _ _ _) rfl ⟨by rw [hT2.out]; rfl, Gr.refl _⟩
              · have htok := Lib.hid (fun w => rtoken_is m _ htk w hml)
                have htk' := Lib.hid htk
                clear htk
                by_cases hab1 : b = a + 1
                · have hT2 := Lib.hid (show lineB l = ([], [], 0, false) by rw [hT'.out, htk'.out, decide_eq_false (by omega)]; rfl)
                  have hab2 : ((b : Int) == (a : Int) + 1) = true := by rw [beq_iff_eq]; omega
                  clear hab1
                  rcases hways with ⟨h1, h2⟩ | h1
                  all_goals
                    go_wp2_with fail
                    refine (htok.out _).mono ?_
                    rintro e w2 ⟨rfl, rfl⟩
                    go_wp2
                    (try simp only [Exit.inBlock, Exit.then])
                    refine bodyPost_ret (results_tmp4 rfl _ _ _) rfl ⟨by rw [hT2.out]; rfl, Gr.refl _⟩
                · have hab2 : ((b : Int) == (a : Int) + 1) = false := beq_eq_false_iff_ne.2 (by omega)
                  have hab3 := Lib.hid (show decide (b ≠ a + 1) = true from decide_eq_true hab1)
                  clear hab1
                  by_cases hd32 : d = 32
                  · have hdI : ((d.toNat : Int) != 32) = false := by rw [hd32]; rfl
                    have hd1 : (d.toNat : Int) < 33 := by rw [hd32]; decide
                    have hT2 := Lib.hid (show lineB l = if protoN p != 0 then (m, t, protoN p, true) else ([], [], 0, false) by rw [hT'.out, htk'.out, hab3.out, hd32]; simp)
                    clear hd32 hways
                    by_cases p1 : p = pH10
                    · have hT3 := Lib.hid (show lineB l = (m, t, 10, true) by rw [hT2.out, p1]; rfl)
                      subst p1
                      have hx4 : (⟨l.toArray⟩ : ByteArray).extract (b + 1) l.length = ⟨#[72, 84, 84, 80, 47, 49, 46, 48]⟩ := hx3
                      clear hx3
                      go_wp2_with fail
                      refine (htok.out _).mono ?_
                      rintro e w2 ⟨rfl, rfl⟩
                      go_wp2
                      go_quiet (fail)
                      go_wp2
                      (try simp only [Exit.inBlock, Exit.then])
                      refine bodyPost_ret (results_tmp4 rfl _ _ _) rfl ⟨by rw [hT3.out]; rfl, below_drewNm _ _⟩
                    · by_cases p2 : p = pH11
                      · have hT3 := Lib.hid (show lineB l = (m, t, 11, true) by rw [hT2.out, p2]; rfl)
                        subst p2
                        have hx4 : (⟨l.toArray⟩ : ByteArray).extract (b + 1) l.length = ⟨#[72, 84, 84, 80, 47, 49, 46, 49]⟩ := hx3
                        clear hx3 p1
                        go_wp2_with fail
                        refine (htok.out _).mono ?_
                        rintro e w2 ⟨rfl, rfl⟩
                        go_wp2
                        go_quiet (fail)
                        go_wp2
                        (try simp only [Exit.inBlock, Exit.then])
                        refine bodyPost_ret (results_tmp4 rfl _ _ _) rfl ⟨by rw [hT3.out]; rfl, below_drewNm _ _⟩
                      · have hT3 := Lib.hid (show lineB l = ([], [], 0, false) by rw [hT2.out]; unfold protoN; rw [if_neg p1, if_neg p2]; rfl)
                        have e1 : (p == ([72, 84, 84, 80, 47, 49, 46, 48] : List UInt8)) = false := beq_eq_false_iff_ne.2 p1
                        have e2 : (p == ([72, 84, 84, 80, 47, 49, 46, 49] : List UInt8)) = false := beq_eq_false_iff_ne.2 p2
                        clear p1 p2
                        go_wp2_with fail
                        refine (htok.out _).mono ?_
                        rintro e w2 ⟨rfl, rfl⟩
                        go_wp2
                        (try simp only [Exit.inBlock, Exit.then])
                        refine bodyPost_ret (results_tmp4 rfl _ _ _) rfl ⟨by rw [hT3.out]; rfl, Gr.refl _⟩
                  · have hdI : ((d.toNat : Int) != 32) = true := bne_iff_ne.2 (fun e => hd32 (UInt8.toNat_inj.1 (show d.toNat = 32 by omega)))
                    have hT2 := Lib.hid (show lineB l = ([], [], 0, false) by
                      rw [hT'.out, htk'.out, hab3.out, show ((some d == some (32 : UInt8))) = false by simpa using hd32]; rfl)
                    clear hd32
                    rcases hways with ⟨h1, h2⟩ | h1
                    all_goals
                      go_wp2_with fail
                      refine (htok.out _).mono ?_
                      rintro e w2 ⟨rfl, rfl⟩
                      go_wp2
                      (try simp only [Exit.inBlock, Exit.then])
                      refine bodyPost_ret (results_tmp4 rfl _ _ _) rfl ⟨by rw [hT2.out]; rfl, Gr.refl _⟩
            · have hv' := Lib.hid hv
              rw [vis_eq, decide_eq_true_eq] at hv
              obtain ⟨h1, h2⟩ := hv
              have hn := Lib.hid (show ∀ j, (hj : j < l.length) → a + 1 ≤ j → j < b + 1 → isVis l[j] = true from fun j hj h1 h2 => by
                by_cases h : j < b
                · exact hvis'.out j hj h1 h
                · obtain rfl : j = b := by omega
                  rw [hd2.out]; exact hv'.out)
              go_wp2
              go_round
              case rel => exact ⟨b + 1, by omega, by omega, by go_num, hn.out⟩
              case measure => simp [intOf]; omega
          · obtain rfl : b = l.length := by omega
            have hT := line_ref hlt hsp.out (fun j hj => hno'.out j (by omega) hj) hab hb (fun j h1 h2 => hvis'.out j (by omega) h1 h2) (fun h => absurd h (Nat.lt_irrefl _))
            have hT2 := Lib.hid (show lineB l = ([], [], 0, false) by rw [hT, decide_eq_false (Nat.lt_irrefl _), Bool.false_and, Bool.and_false]; rfl)
            have hx1 : (⟨l.toArray⟩ : ByteArray).extract 0 a = ⟨(l.take a).toArray⟩ := by rw [extract_mk]; simp
            obtain ⟨m, hm⟩ : ∃ m, l.take a = m := ⟨_, rfl⟩
            rw [hm] at hx1
            have hml : m.length ≤ 9223372036854775807 := by rw [← hm, List.length_take]; omega
            clear hm hT
            cases htk : tokB m
            all_goals
              have htok := Lib.hid (fun w => rtoken_is m _ htk w hml)
              clear htk
              go_wp2_with fail
              refine (htok.out _).mono ?_
              rintro e w2 ⟨rfl, rfl⟩
              go_wp2
              (try simp only [Exit.inBlock, Exit.then])
              refine bodyPost_ret (results_tmp4 rfl _ _ _) rfl ⟨by rw [hT2.out]; rfl, Gr.refl _⟩
      · have h32I : ((c.toNat : Int) != 32) = true := bne_iff_ne.2 (fun e => h32 (UInt8.toNat_inj.1 (show c.toNat = 32 by omega)))
        have hn := Lib.hid (show ∀ j, (hj : j < l.length) → j < a + 1 → l[j] ≠ 32 from fun j hj hk => by
          by_cases h : j < a
          · exact hno'.out j hj h
          · obtain rfl : j = a := by omega
            rw [hc2.out]; exact h32)
        clear h32
        go_wp2
        go_round
        case rel => exact ⟨a + 1, by omega, by go_num, hn.out⟩
        case measure => simp [intOf]; omega
    · obtain rfl : a = l.length := by omega
      have hT2 := Lib.hid (line_noblank (l := l) fun j hj => hno'.out j hj hj)
      have hx1 : (⟨l.toArray⟩ : ByteArray).extract 0 l.length = ⟨l.toArray⟩ := by rw [extract_mk]; simp
      go_wp2
      go_loop [7] (fun i => i = .int .i64 ((l.length : Int) + 1)) (fun _ => 0)
      case atStart => rfl
      case round =>
        obtain rfl := hrel
        cases htk : tokB l
        all_goals
          have htok := Lib.hid (fun w => rtoken_is l _ htk w (by omega))
          clear htk
          go_wp2_with fail
          refine (htok.out _).mono ?_
          rintro e w2 ⟨rfl, rfl⟩
          go_wp2
          (try simp only [Exit.inBlock, Exit.then])
          refine bodyPost_ret (results_tmp4 rfl _ _ _) rfl ⟨by rw [hT2.out]; rfl, Gr.refl _⟩
end Go.Proofs.YtpncfeaaffgkfaaGreatDoor
