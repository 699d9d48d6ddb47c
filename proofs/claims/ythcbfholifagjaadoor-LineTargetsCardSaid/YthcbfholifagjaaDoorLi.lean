/-
  The walk over LineTargets.
-/
import Derived.Test.YthcbfholifagjaaDoorLg
namespace Go.Proofs.YthcbfholifagjaaDoor
open Go.RowKit

theorem split_at {p : List UInt8} {r : Nat} (hr : r < p.length) :
    splitB p (1 + r) = ((p[r] == 37) || (decide (0 < r) && (p[1 + r - 2]'(by omega) == 37))) := by
  unfold splitB
  rw [show 1 + r - 1 = r by omega, List.getElem?_eq_getElem hr]
  by_cases h0 : 0 < r
  · rw [List.getElem?_eq_getElem (show 1 + r - 2 < p.length by omega), decide_eq_true h0, decide_eq_true (show 1 < 1 + r by omega)]; rfl
  · rw [decide_eq_false h0, decide_eq_false (show ¬ 1 < 1 + r by omega)]; rfl
theorem beq37 (c : UInt8) : ((c.toNat : Int) == 37) = (c == 37) := by
  rw [Bool.eq_iff_iff, beq_iff_eq, beq_iff_eq]
  exact ⟨fun e => UInt8.toNat_inj.1 (show c.toNat = 37 by omega), fun e => by rw [e]; rfl⟩

set_option maxHeartbeats 8000000 in
set_option maxRecDepth 100000 in
theorem targets_any (s t : List UInt8) (c : Int) (w : World) (hG : G w) (hc0 : 0 ≤ c) (hc1 : c ≤ 65535) (hs : s.length ≤ 9223372036854775807) (ht : t.length ≤ 9223372036854775807) :
    Calls Tryd.prog 6 #[.string ⟨s.toArray⟩, .string ⟨t.toArray⟩, .int .u16 c] w fun e w' => e = .returned (.bool true) ∧ Gr w w' := by
  have hG' := Lib.hid hG
  clear hG
  by_cases hl : s.length ≤ 600 ∧ t.length ≤ 600
  · obtain ⟨hl1, hl2⟩ := hl
    obtain ⟨⟨p, q, ok⟩, h1⟩ : ∃ r, targetB s = r := ⟨_, rfl⟩
    have c1 := Lib.hid (fun W h => target_is s p q ok h1 W h (by omega))
    cases ok
    · obtain ⟨rfl, rfl⟩ := targetB_false h1
      clear h1
      go_enter Tryd.func6, Tryd.ntmps6
      go_wp2_with fail
      refine (awake_any _ hG'.out).mono ?_
      rintro e w1 ⟨rfl, hb⟩
      have g1 := Lib.hid hb
      clear hb
      go_wp2_with fail
      refine (c1.out _ (hG'.out.gr g1.out)).mono ?_
      rintro e w2 ⟨rfl, hb⟩
      have g2 := Lib.hid (g1.out.trans hb)
      clear hb
      go_wp2
      go_ret
      exact ⟨rfl, g2.out⟩
    · obtain ⟨k1, k2, k3, k4, k5, k6⟩ := targetB_true h1
      have hpq : p.length ≤ 512 ∧ q.length ≤ 512 := by
        rcases k6 with ⟨rfl, rfl⟩ | rfl
        · exact ⟨k1, by simp⟩
        · simp at k1; omega
      obtain ⟨hpl, hql⟩ := hpq
      have hp0 : 0 < p.length := by
        cases p with
        | nil => cases k2
        | cons x y => simp
      have hpe : p.isEmpty = false := by cases p <;> simp at hp0 ⊢
      have k2' := Lib.hid k2
      have k3' := Lib.hid k3
      have k4' := Lib.hid k4
      have k5' := Lib.hid k5
      clear k1 k2 k3 k4 k5 k6 h1
      -- the two put together
      obtain ⟨pm, hpm⟩ : ∃ z, p ++ [63] = z := ⟨_, rfl⟩
      obtain ⟨j, hj⟩ : ∃ z, pm ++ q = z := ⟨_, rfl⟩
      have e1 : (⟨p.toArray⟩ : ByteArray) ++ ⟨#[63]⟩ = ⟨pm.toArray⟩ := hpm ▸ cat_mk p [63]
      have e2 : (⟨pm.toArray⟩ : ByteArray) ++ ⟨q.toArray⟩ = ⟨j.toArray⟩ := hj ▸ cat_mk pm q
      have hpml : pm.length ≤ 513 := by rw [← hpm]; simp; omega
      have hjl : j.length ≤ 1100 := by rw [← hj, List.length_append]; omega
      have hjd : targetB j = if decide (p.length + 1 + q.length ≤ 512) then (p, q, true) else ([], [], false) := by
        rw [← hj, ← hpm, List.append_assoc, List.singleton_append]; exact target_join k2'.out k3'.out k4'.out k5'.out
      have hjcase : ∃ a b is, targetB j = (a, b, is) ∧ ((is = true ∧ a = p ∧ b = q) ∨ (is = false ∧ ¬ ((p.length : Int) + 1 + q.length ≤ 512))) := by
        by_cases h : p.length + 1 + q.length ≤ 512
        · exact ⟨p, q, true, by rw [hjd, decide_eq_true h]; rfl, .inl ⟨rfl, rfl, rfl⟩⟩
        · exact ⟨[], [], false, by rw [hjd, decide_eq_false h]; rfl, .inr ⟨rfl, by omega⟩⟩
      obtain ⟨a, b, is, hja, hjc⟩ := hjcase
      have c2 := Lib.hid (fun W h => target_is j a b is hja W h (by omega))
      clear hj hjd hja hpm
      -- the cut
      obtain ⟨r, hr⟩ : ∃ r : Nat, c % (p.length : Int) = (r : Int) := ⟨(c % (p.length : Int)).toNat, by have := Int.emod_nonneg c (show (p.length : Int) ≠ 0 by omega); omega⟩
      have hrl : r < p.length := by have := Int.emod_lt_of_pos c (show (0 : Int) < p.length by omega); omega
      obtain ⟨pk, hpk⟩ : ∃ z, p.take (1 + r) = z := ⟨_, rfl⟩
      have hx : (⟨p.toArray⟩ : ByteArray).extract 0 (1 + r) = ⟨pk.toArray⟩ := by rw [extract_mk, ← hpk]; simp
      have hpkl : pk.length ≤ 512 := by rw [← hpk, List.length_take]; omega
      obtain ⟨sp, hsp⟩ : ∃ sp, splitB p (1 + r) = sp := ⟨_, rfl⟩
      have hpt : ∃ a b, targetB pk = (a, b, !sp) := by
        have hh : pk.head? = some 47 := by
          rw [← hpk, show 1 + r = r + 1 by omega]
          cases p with
          | nil => cases hp0
          | cons x y => exact k2'.out
        have hn : ∀ x ∈ pk, x ≠ 63 := fun x hx => k5'.out x (by rw [← hpk] at hx; exact List.mem_of_mem_take hx)
        have hcut := plainT_cut p.length p (1 + r) (Nat.le_refl _) k3'.out (by omega) (by omega)
        rw [hpk, hsp] at hcut
        have := target_path hh hn
        rw [decide_eq_true hpkl, hcut, Bool.true_and] at this
        cases sp
        · exact ⟨_, _, this⟩
        · exact ⟨_, _, this⟩
      obtain ⟨a3, b3, hpt⟩ := hpt
      have c3 := Lib.hid (fun W h => target_is pk a3 b3 (!sp) hpt W h (by omega))
      rw [split_at hrl] at hsp
      obtain ⟨u, hu⟩ : ∃ c, (⟨p.toArray⟩ : ByteArray)[r]'(by rw [size_mk]; exact hrl) = c := ⟨_, rfl⟩
      have hu' : p[r] = u := hu
      rw [hu'] at hsp
      clear hu' hpt hpk
      have hways : (((u.toNat : Int) == 37) = true ∧ sp = true) ∨ (((u.toNat : Int) == 37) = false ∧ ((r = 0 ∧ sp = false) ∨ ∃ h : 0 < r, ((((⟨p.toArray⟩ : ByteArray)[1 + r - 2]'(by rw [size_mk]; omega)).toNat : Int) == 37) = sp)) := by
        rw [beq37]
        cases hu37 : (u == 37)
        · refine .inr ⟨rfl, ?_⟩
          rw [hu37, Bool.false_or] at hsp
          by_cases h0 : 0 < r
          · refine .inr ⟨h0, ?_⟩
            rw [decide_eq_true h0, Bool.true_and] at hsp
            rw [beq37]; exact hsp
          · refine .inl ⟨by omega, ?_⟩
            rw [decide_eq_false h0, Bool.false_and] at hsp
            exact hsp.symm
        · refine .inl ⟨rfl, ?_⟩
          rw [hu37, Bool.true_or] at hsp
          exact hsp.symm
      clear hsp
      -- the second path
      obtain ⟨⟨x, y2, too⟩, h4⟩ : ∃ r, targetB t = r := ⟨_, rfl⟩
      have c4 := Lib.hid (fun W h => target_is t x y2 too h4 W h (by omega))
      obtain ⟨px, hpx⟩ : ∃ z, p ++ x = z := ⟨_, rfl⟩
      have e3 : (⟨p.toArray⟩ : ByteArray) ++ ⟨x.toArray⟩ = ⟨px.toArray⟩ := hpx ▸ cat_mk p x
      have hxl : x.length ≤ 512 := by
        cases too
        · rw [(targetB_false h4).1]; simp
        · obtain ⟨k1, _, _, _, _, k6⟩ := targetB_true h4
          rcases k6 with ⟨rfl, _⟩ | rfl
          · exact k1
          · simp at k1; omega
      have hpxl : px.length ≤ 1100 := by rw [← hpx, List.length_append]; omega
      have hpx2 : px.length = p.length + x.length := by rw [← hpx, List.length_append]
      have hlast : ∃ y y3 both, targetB px = (y, y3, both) ∧ (too = false ∨ (too = true ∧ 512 < (px.length : Int)) ∨ (too = true ∧ (px.length : Int) ≤ 512 ∧ both = true ∧ y = px)) := by
        obtain ⟨⟨y, y3, both⟩, h5⟩ : ∃ r, targetB px = r := ⟨_, rfl⟩
        refine ⟨y, y3, both, h5, ?_⟩
        cases too
        · exact .inl rfl
        · obtain ⟨_, m2, m3, _, m5, _⟩ := targetB_true h4
          by_cases h : px.length ≤ 512
          · refine .inr (.inr ⟨rfl, by omega, ?_⟩)
            have hh : px.head? = some 47 := by
              rw [← hpx]
              cases p with
              | nil => cases hp0
              | cons z y => exact k2'.out
            have hn : ∀ z ∈ px, z ≠ 63 := fun z hz => by
              rw [← hpx, List.mem_append] at hz
              rcases hz with hz | hz
              · exact k5'.out z hz
              · exact m5 z hz
            have hpl2 : plainT false px = true := by rw [← hpx, plainT_app p.length p x (Nat.le_refl _) k3'.out]; exact m3
            have := target_path hh hn
            rw [decide_eq_true h, hpl2] at this
            rw [h5] at this
            simp at this
            exact ⟨this.2.2, this.1⟩
          · exact .inr (.inl ⟨rfl, by omega⟩)
      obtain ⟨y, y3, both, h5, hlc⟩ := hlast
      have c5 := Lib.hid (fun W h => target_is px y y3 both h5 W h (by omega))
      have hpx2' := Lib.hid hpx2
      have hsum : ¬ 9223372036854775807 < p.length + x.length := by omega
      clear h4 hpx h5 hpx2 hp0
      have hp0 : 0 < p.length := by omega
      have hpI : (1 : Int) ≤ p.length := by omega
      go_enter Tryd.func6, Tryd.ntmps6
      go_wp2_with fail
      refine (awake_any _ hG'.out).mono ?_
      rintro e w1 ⟨rfl, hb⟩
      have g1 := Lib.hid hb
      clear hb
      go_wp2_with fail
      refine (c1.out _ (hG'.out.gr g1.out)).mono ?_
      rintro e w2 ⟨rfl, hb⟩
      have g2 := Lib.hid (g1.out.trans hb)
      clear hb
      go_wp2_with fail
      refine (c2.out _ (hG'.out.gr g2.out)).mono ?_
      rintro e w3 ⟨rfl, hb⟩
      have g3 := Lib.hid (g2.out.trans hb)
      clear hb c1 c2
      rcases hjc with ⟨rfl, rfl, rfl⟩ | ⟨rfl, hjn⟩
      all_goals
        go_wp2_with fail
        refine (c3.out _ (hG'.out.gr g3.out)).mono ?_
        rintro e w4 ⟨rfl, hb⟩
        have g4 := Lib.hid (g3.out.trans hb)
        clear hb
      all_goals rcases hways with ⟨hu1, rfl⟩ | ⟨hu1, ⟨hr0, rfl⟩ | ⟨hr0, hv⟩⟩
      all_goals (try have hr1 : (r : Int) ≤ 0 := by omega)
      all_goals (try have hr1 : 0 < (r : Int) := by omega)
      all_goals (try cases sp)
      all_goals (try clear hr0)
      all_goals
        go_wp2_with fail
        refine (c4.out _ (hG'.out.gr g4.out)).mono ?_
        rintro e w5 ⟨rfl, hb⟩
        have g5 := Lib.hid (g4.out.trans hb)
        clear hb
        go_wp2_with fail
        refine (c5.out _ (hG'.out.gr g5.out)).mono ?_
        rintro e w6 ⟨rfl, hb⟩
        have g6 := Lib.hid (g5.out.trans hb)
        clear hb
        rcases hlc with rfl | ⟨rfl, hb⟩ | ⟨rfl, hb, rfl, rfl⟩
        all_goals
          go_wp2
          go_ret
          exact ⟨rfl, g6.out⟩
  · have hor : 600 < s.length ∨ (s.length ≤ 600 ∧ 600 < t.length) := by omega
    clear hl
    rcases hor with h1 | ⟨h1, h2⟩
    all_goals
      go_enter Tryd.func6, Tryd.ntmps6
      go_wp2_with fail
      refine (awake_any _ hG'.out).mono ?_
      rintro e w1 ⟨rfl, hb⟩
      have g1 := Lib.hid hb
      clear hb
      go_wp2
      go_ret
      exact ⟨rfl, g1.out⟩
end Go.Proofs.YthcbfholifagjaaDoor
