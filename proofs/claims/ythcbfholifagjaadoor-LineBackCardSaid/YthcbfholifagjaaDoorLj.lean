/-
  The walk over LineStatus.
-/
import Derived.Test.YthcbfholifagjaaDoorLg
import Derived.Lib.ItoaLen
namespace Go.Proofs.YthcbfholifagjaaDoor
open Go.RowKit

theorem pfine2 (z y : List UInt8) (hz : z = [97, 58] ++ y) (f : Bool) (hf : y.all isVal = f) (w : World) (hG : G w) (hl : z.length ≤ 1000000) :
    Calls Tryd.prog 18 #[.string ⟨z.toArray⟩] w (PFine f w) :=
  (parse_any z w hG (by omega)).mono fun e w' ⟨he, hg⟩ => by
    have h := parse_colon (n := [97]) (y := y) (by decide)
    have hz' : z = [97] ++ [58] ++ y := by rw [hz]; rfl
    rw [← hz', hf] at h
    rw [h] at he
    cases f
    · exact ⟨[], [], he, hg⟩
    · exact ⟨[97], trimB y, he, hg⟩
theorem itoa_is (n : Int) (s : List UInt8) (hs : Lib.itoa n = s) (h0 : -9223372036854775808 ≤ n) (h1 : n ≤ 9223372036854775807) (w : World) (hG : G w) :
    Calls Tryd.prog 16 #[.int .i64 n] w fun e w' => e = .returned (.string ⟨s.toArray⟩) ∧ Gr w w' := hs ▸ itoa_any n h0 h1 w hG
/-- The ways that the first half of the law may go. -/
def SWays (code : Int) (n : Nat) (r r0 : List UInt8) (ok fine : Bool) : Prop :=
  (decide (100 ≤ code) = true ∧ decide (code ≤ 599) = true ∧ fine = true ∧ ok = true ∧ (n : Int) = code ∧ r = r0) ∨ (decide (100 ≤ code) = true ∧ decide (code ≤ 599) = true ∧ fine = false ∧ ok = false) ∨
  (decide (100 ≤ code) = true ∧ decide (code ≤ 599) = false ∧ ok = false) ∨ (decide (100 ≤ code) = false ∧ ok = false) ∨
  (decide (100 ≤ code) = true ∧ decide (code ≤ 599) = false ∧ ok = true ∧ ((n : Int) != code) = true ∧ 999 < code) ∨ (decide (100 ≤ code) = false ∧ ok = true ∧ ((n : Int) != code) = true ∧ code < 100)
theorem sways {code : Int} {r0 l r : List UInt8} {n : Nat} {ok : Bool} (hl : l = aheadL ++ Lib.itoa code ++ [32] ++ r0) (h : statB l = (n, r, ok)) : SWays code n r r0 ok (r0.all isVal) := by
  unfold SWays
  by_cases h1 : 100 ≤ code
  · by_cases h2 : code ≤ 999
    · obtain ⟨m, rfl⟩ : ∃ m : Nat, code = m := ⟨code.toNat, by omega⟩
      have := statB_back (n := m) (r := r0) (by omega) (by omega)
      rw [← hl, h] at this
      by_cases h3 : m ≤ 599
      · rw [decide_eq_true h3, Bool.true_and] at this
        cases hv : r0.all isVal
        · rw [hv] at this
          simp at this
          exact .inr (.inl ⟨by simp; omega, by simp; omega, rfl, this.2.2⟩)
        · rw [hv] at this
          simp at this
          exact .inl ⟨by simp; omega, by simp; omega, rfl, this.2.2, by omega, this.2.1⟩
      · rw [decide_eq_false h3, Bool.false_and] at this
        simp at this
        exact .inr (.inr (.inl ⟨by simp; omega, by simp; omega, this.2.2⟩))
    · cases ok
      · exact .inr (.inr (.inl ⟨by simp; omega, by simp; omega, rfl⟩))
      · obtain ⟨a1, a2, _, _⟩ := statB_true h
        exact .inr (.inr (.inr (.inr (.inl ⟨by simp; omega, by simp; omega, rfl, by rw [bne_iff_ne]; omega, by omega⟩))))
  · cases ok
    · exact .inr (.inr (.inr (.inl ⟨by simp; omega, rfl⟩)))
    · obtain ⟨a1, a2, _, _⟩ := statB_true h
      exact .inr (.inr (.inr (.inr (.inr ⟨by simp; omega, rfl, by rw [bne_iff_ne]; omega, by omega⟩))))

set_option maxHeartbeats 8000000 in
set_option maxRecDepth 100000 in
theorem lstatus_any (code : Int) (r0 s : List UInt8) (w : World) (hG : G w) (hc0 : -9223372036854775808 ≤ code) (hc1 : code ≤ 9223372036854775807) (hr : r0.length ≤ 9223372036854775807) (hs : s.length ≤ 9223372036854775807) :
    Calls Tryd.prog 7 #[.int .i64 code, .string ⟨r0.toArray⟩, .string ⟨s.toArray⟩] w fun e w' => e = .returned (.bool true) ∧ Gr w w' := by
  have hG' := Lib.hid hG
  clear hG
  by_cases hl : r0.length ≤ 1000 ∧ s.length ≤ 1000
  · obtain ⟨hl1, hl2⟩ := hl
    obtain ⟨i, hi⟩ : ∃ i, Lib.itoa code = i := ⟨_, rfl⟩
    have hil : i.length ≤ 21 := hi ▸ Lib.itoa_length_le code hc0 hc1
    have c1 := Lib.hid (fun W h => itoa_is code i hi hc0 hc1 W h)
    obtain ⟨z, hz⟩ : ∃ z, [97, 58] ++ r0 = z := ⟨_, rfl⟩
    have hzl : z.length ≤ 1002 := by rw [← hz]; simp; omega
    have ez : (⟨#[97, 58]⟩ : ByteArray) ++ ⟨r0.toArray⟩ = ⟨z.toArray⟩ := hz ▸ cat_mk [97, 58] r0
    obtain ⟨fine, hf⟩ : ∃ f, r0.all isVal = f := ⟨_, rfl⟩
    have c0 := Lib.hid (fun W h => pfine2 z r0 hz.symm fine hf W h (by omega))
    obtain ⟨a1, ha1⟩ : ∃ a, aheadL ++ i = a := ⟨_, rfl⟩
    have e1 : (⟨#[72, 84, 84, 80, 47, 49, 46, 49, 32]⟩ : ByteArray) ++ ⟨i.toArray⟩ = ⟨a1.toArray⟩ := ha1 ▸ cat_mk aheadL i
    have l1 : a1.length ≤ 40 := by rw [← ha1]; simp [aheadL]; omega
    obtain ⟨a2, ha2⟩ : ∃ a, a1 ++ [32] = a := ⟨_, rfl⟩
    have e2 : (⟨a1.toArray⟩ : ByteArray) ++ ⟨#[32]⟩ = ⟨a2.toArray⟩ := ha2 ▸ cat_mk a1 [32]
    have l2 : a2.length ≤ 41 := by rw [← ha2]; simp; omega
    obtain ⟨a3, ha3⟩ : ∃ a, a2 ++ r0 = a := ⟨_, rfl⟩
    have e3 : (⟨a2.toArray⟩ : ByteArray) ++ ⟨r0.toArray⟩ = ⟨a3.toArray⟩ := ha3 ▸ cat_mk a2 r0
    have l3 : a3.length ≤ 1041 := by rw [← ha3, List.length_append]; omega
    obtain ⟨⟨n, r, ok⟩, hst⟩ : ∃ x, statB a3 = x := ⟨_, rfl⟩
    have c2 := Lib.hid (fun W h => status_is a3 r n ok hst W h (by omega))
    have hw := sways (code := code) (r0 := r0) (show a3 = aheadL ++ Lib.itoa code ++ [32] ++ r0 by rw [← ha3, ← ha2, ← ha1, hi]) hst
    rw [hf] at hw
    unfold SWays at hw
    -- the text
    obtain ⟨⟨d, t2, is⟩, hst2⟩ : ∃ x, statB s = x := ⟨_, rfl⟩
    have c3 := Lib.hid (fun W h => status_is s t2 d is hst2 W h (by omega))
    obtain ⟨i2, hi2⟩ : ∃ i, Lib.itoa (d : Int) = i := ⟨_, rfl⟩
    obtain ⟨b1, hb1⟩ : ∃ a, aheadL ++ i2 = a := ⟨_, rfl⟩
    obtain ⟨b2, hb2⟩ : ∃ a, b1 ++ [32] = a := ⟨_, rfl⟩
    have hsecond : is = false ∨ (is = true ∧ i2.length ≤ 21 ∧ b1.length ≤ 40 ∧ b2.length ≤ 41 ∧ t2.length ≤ 1000 ∧ (d : Int) ≤ 599 ∧ b2 ++ t2 = s) := by
      cases is
      · exact .inl rfl
      · obtain ⟨m1, m2, m3, _⟩ := statB_true hst2
        have q1 : i2.length ≤ 21 := hi2 ▸ Lib.itoa_length_le d (by omega) (by omega)
        have q2 : b1.length ≤ 40 := by rw [← hb1]; simp [aheadL]; omega
        have q3 : b2.length ≤ 41 := by rw [← hb2]; simp; omega
        have q4 : b2 ++ t2 = s := by rw [← hb2, ← hb1, ← hi2]; exact m3.symm
        have q5 : t2.length ≤ 1000 := by have := congrArg List.length q4; rw [List.length_append] at this; omega
        exact .inr ⟨rfl, q1, q2, q3, q5, by omega, q4⟩
    have f1 : (⟨#[72, 84, 84, 80, 47, 49, 46, 49, 32]⟩ : ByteArray) ++ ⟨i2.toArray⟩ = ⟨b1.toArray⟩ := hb1 ▸ cat_mk aheadL i2
    have f2 : (⟨b1.toArray⟩ : ByteArray) ++ ⟨#[32]⟩ = ⟨b2.toArray⟩ := hb2 ▸ cat_mk b1 [32]
    have hi2' := Lib.hid hi2
    clear hi hz hf ha1 ha2 ha3 hst hst2 hb1 hb2 hi2
    go_enter Tryd.func7, Tryd.ntmps7
    go_wp2_with fail
    refine (awake_any _ hG'.out).mono ?_
    rintro e w1 ⟨rfl, hb⟩
    have g1 := Lib.hid hb
    clear hb
    go_wp2_with fail
    refine (c0.out _ (hG'.out.gr g1.out)).mono ?_
    rintro e w2 ⟨x1, x2, rfl, hb⟩
    have g2 := Lib.hid ((g1.out.trans hb).alloc1 (.cells #[.string ⟨x1.toArray⟩, .string ⟨x2.toArray⟩] 37))
    clear hb
    go_wp2_with fail
    refine (c1.out _ (hG'.out.gr g2.out)).mono ?_
    rintro e w3 ⟨rfl, hb⟩
    have g3 := Lib.hid (g2.out.trans hb)
    clear hb
    go_wp2_with fail
    refine (c2.out _ (hG'.out.gr g3.out)).mono ?_
    rintro e w4 ⟨rfl, hb⟩
    have g4 := Lib.hid (g3.out.trans hb)
    clear hb
    rcases hw with ⟨k1, k2, rfl, rfl, rfl, rfl⟩ | ⟨k1, k2, rfl, rfl⟩ | ⟨k1, k2, rfl⟩ | ⟨k1, rfl⟩ | ⟨k1, k2, rfl, k3, k4⟩ | ⟨k1, rfl, k3, k4⟩
    rotate_left 4
    · go_wp2
      go_ret
      exact ⟨rfl, g4.out⟩
    · go_wp2
      go_ret
      exact ⟨rfl, g4.out⟩
    all_goals
      go_wp2_with fail
      refine (c3.out _ (hG'.out.gr g4.out)).mono ?_
      rintro e w5 ⟨rfl, hb⟩
      have g5 := Lib.hid (g4.out.trans hb)
      clear hb
      rcases hsecond with rfl | ⟨rfl, q1, q2, q3, q5, q6, rfl⟩
      · go_wp2
        go_ret
        exact ⟨rfl, g5.out⟩
      · have f3 : (⟨b2.toArray⟩ : ByteArray) ++ ⟨t2.toArray⟩ = ⟨(b2 ++ t2).toArray⟩ := cat_mk b2 t2
        have c4 := Lib.hid (fun W h => itoa_is (d : Int) i2 hi2'.out (by omega) (by omega) W h)
        go_wp2_with fail
        refine (c4.out _ (hG'.out.gr g5.out)).mono ?_
        rintro e w6 ⟨rfl, hb⟩
        have g6 := Lib.hid (g5.out.trans hb)
        clear hb
        go_wp2
        go_ret
        exact ⟨rfl, g6.out⟩
  · have hor : 1000 < r0.length ∨ (r0.length ≤ 1000 ∧ 1000 < s.length) := by omega
    clear hl
    rcases hor with h1 | ⟨h1, h2⟩
    all_goals
      go_enter Tryd.func7, Tryd.ntmps7
      go_wp2_with fail
      refine (awake_any _ hG'.out).mono ?_
      rintro e w1 ⟨rfl, hb⟩
      have g1 := Lib.hid hb
      clear hb
      go_wp2
      go_ret
      exact ⟨rfl, g1.out⟩
end Go.Proofs.YthcbfholifagjaaDoor
