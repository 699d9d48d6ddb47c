/-
  The walk over LineKnown.
-/
import Derived.Test.YthcbfholifagjaaDoorLg
namespace Go.Proofs.YthcbfholifagjaaDoor
open Go.RowKit

def longL : List UInt8 := 47 :: List.replicate 511 120
theorem rep_long : [47] ++ Lib.repeatL [120] 511 = longL := by decide +kernel
set_option maxRecDepth 100000 in
theorem long_target : targetB longL = (longL, [], true) := by
  have := target_path (p := longL) rfl (by
    intro x hx
    rcases List.mem_cons.1 hx with rfl | hx
    · decide
    · rw [(List.mem_replicate.1 hx).2]; decide)
  rw [this, show (decide (longL.length ≤ 512) && plainT false longL) = true by decide +kernel]; rfl
theorem long_more : targetB (longL ++ [63]) = ([], [], false) := by
  have h : (longL ++ [63]).length = 513 := by decide +kernel
  unfold targetB
  rw [h]; rfl

theorem rep_is (X : List UInt8) (hX : Lib.repeatL [120] 511 = X) (W : World) : Calls Tryd.prog 19 #[.string ⟨#[120]⟩, .int .i64 511] W fun e w' => e = .returned (.string ⟨X.toArray⟩) ∧ Gr W w' :=
  (Tryd.strings_Repeat ⟨#[120]⟩ 511 W (by decide) (by decide)).mono fun _ _ ⟨he, hg⟩ => ⟨hX ▸ he, hg⟩
set_option maxHeartbeats 4000000 in
set_option maxRecDepth 100000 in
theorem lknown_any (w : World) (hG : G w) :
    Calls Tryd.prog 8 #[] w fun e w' => e = .returned (.bool true) ∧ Gr w w' := by
  have hG' := Lib.hid hG
  clear hG
  obtain ⟨X, hX⟩ : ∃ X, Lib.repeatL [120] 511 = X := ⟨_, rfl⟩
  have cr := Lib.hid (fun W => rep_is X hX W)
  obtain ⟨ll, hll⟩ : ∃ ll, longL = ll := ⟨_, rfl⟩
  obtain ⟨l2, hl2⟩ : ∃ l2, ll ++ [63] = l2 := ⟨_, rfl⟩
  have e1 : (⟨#[47]⟩ : ByteArray) ++ ⟨X.toArray⟩ = ⟨ll.toArray⟩ := by rw [← hll, ← rep_long, hX]; exact cat_mk [47] X
  have e2 : (⟨ll.toArray⟩ : ByteArray) ++ ⟨#[63]⟩ = ⟨l2.toArray⟩ := hl2 ▸ cat_mk ll [63]
  have hXl : X.length ≤ 600 := by rw [← hX]; decide +kernel
  have hlll : ll.length ≤ 600 := by rw [← hll]; decide +kernel
  have hl2l : l2.length ≤ 700 := by rw [← hl2]; simp; omega
  have c8 := Lib.hid (fun W h => target_is ll ll [] true (by rw [← hll]; exact long_target) W h (by omega))
  have c9 := Lib.hid (fun W h => target_is l2 [] [] false (by rw [← hl2, ← hll]; exact long_more) W h (by omega))
  clear hX hll hl2
  have k0 := Lib.hid (fun W h => line_is [71, 69, 84, 32, 32, 47, 97, 32, 72, 84, 84, 80, 47, 49, 46, 49] [] [] 0 false (by decide +kernel) W h (by decide))
  have k1 := Lib.hid (fun W h => line_is [71, 69, 84, 32, 47, 97, 32, 72, 84, 84, 80, 47, 50, 46, 48] [] [] 0 false (by decide +kernel) W h (by decide))
  have k2 := Lib.hid (fun W h => target_is [47, 97, 37, 50] [] [] false (by decide +kernel) W h (by decide))
  have k3 := Lib.hid (fun W h => target_is [42] [] [] false (by decide +kernel) W h (by decide))
  have k4 := Lib.hid (fun W h => target_is [47, 97, 35, 98] [] [] false (by decide +kernel) W h (by decide))
  have k5 := Lib.hid (fun W h => status_is [72, 84, 84, 80, 47, 49, 46, 49, 32, 57, 57, 32, 120] [] 0 false (by decide +kernel) W h (by decide))
  have k9 := Lib.hid (fun W h => target_is [47, 63] [47] [] true (by decide +kernel) W h (by decide))
  have k10 := Lib.hid (fun W h => status_is [72, 84, 84, 80, 47, 49, 46, 49, 32, 50, 48, 48, 32] [] 200 true (by decide +kernel) W h (by decide))
  go_enter Tryd.func8, Tryd.ntmps8
  go_wp2_with fail
  refine (k0.out _ hG'.out).mono ?_
  rintro e w0 ⟨rfl, hb⟩
  have g0 := Lib.hid hb
  clear hb
  go_wp2_with fail
  refine (k1.out _ (hG'.out.gr g0.out)).mono ?_
  rintro e w1 ⟨rfl, hb⟩
  have g1 := Lib.hid (g0.out.trans hb)
  clear hb
  go_wp2_with fail
  refine (k2.out _ (hG'.out.gr g1.out)).mono ?_
  rintro e w2 ⟨rfl, hb⟩
  have g2 := Lib.hid (g1.out.trans hb)
  clear hb
  go_wp2_with fail
  refine (k3.out _ (hG'.out.gr g2.out)).mono ?_
  rintro e w3 ⟨rfl, hb⟩
  have g3 := Lib.hid (g2.out.trans hb)
  clear hb
  go_wp2_with fail
  refine (k4.out _ (hG'.out.gr g3.out)).mono ?_
  rintro e w4 ⟨rfl, hb⟩
  have g4 := Lib.hid (g3.out.trans hb)
  clear hb
  go_wp2_with fail
  refine (k5.out _ (hG'.out.gr g4.out)).mono ?_
  rintro e w5 ⟨rfl, hb⟩
  have g5 := Lib.hid (g4.out.trans hb)
  clear hb
  go_wp2_with fail
  refine (cr.out _).mono ?_
  rintro e w6 ⟨rfl, hb⟩
  have g6 := Lib.hid (g5.out.trans hb)
  clear hb
  go_wp2_with fail
  refine (c8.out _ (hG'.out.gr g6.out)).mono ?_
  rintro e w7 ⟨rfl, hb⟩
  have g7 := Lib.hid (g6.out.trans hb)
  clear hb
  go_wp2_with fail
  refine (c9.out _ (hG'.out.gr g7.out)).mono ?_
  rintro e w8 ⟨rfl, hb⟩
  have g8 := Lib.hid (g7.out.trans hb)
  clear hb
  go_wp2_with fail
  refine (k9.out _ (hG'.out.gr g8.out)).mono ?_
  rintro e w9 ⟨rfl, hb⟩
  have g9 := Lib.hid (g8.out.trans hb)
  clear hb
  go_wp2_with fail
  refine (k10.out _ (hG'.out.gr g9.out)).mono ?_
  rintro e w10 ⟨rfl, hb⟩
  have g10 := Lib.hid (g9.out.trans hb)
  clear hb
  go_wp2_with fail
  refine (awake_any _ (hG'.out.gr g10.out)).mono ?_
  rintro e w11 ⟨rfl, hb⟩
  have g11 := Lib.hid (g10.out.trans hb)
  clear hb
  go_wp2
  go_ret
  exact ⟨rfl, g11.out⟩
end Go.Proofs.YthcbfholifagjaaDoor
