/-
  Requests: the walk over RequestFields.
-/
import Derived.Test.YtpncfeaaffgkfaaGreatDoorYr
namespace Go.Proofs.YtpncfeaaffgkfaaGreatDoor
open Go.RowKit
attribute [local go_sem] Oper.semAt_some

theorem repc_any (c : UInt8) (n : Nat) (hn : n ≤ 5000) (w : World) : Calls Tryz.prog 23 #[.string ⟨#[c]⟩, .int .i64 n] w fun e w' => e = .returned (.string ⟨(Lib.repeatL [c] n).toArray⟩) ∧ Gr w w' :=
  Tryz.strings_Repeat ⟨#[c]⟩ n w (by omega) (by show 1 * n ≤ _; omega)
set_option maxHeartbeats 4000000 in
set_option maxRecDepth 100000 in
theorem qlfields_any (f : UInt8) (x1 : Int) (s : List UInt8) (w : World) (hG : G w) (b10 : 0 ≤ x1) (_b11 : x1 ≤ 65535) :
    Calls Tryz.prog 8 #[.int .u8 f.toNat, .int .u16 x1, .string ⟨s.toArray⟩] w fun e w' => e = .returned (.bool true) ∧ Gr w w' := by
  have hG' := Lib.hid hG
  clear hG
  obtain ⟨n1, hn1⟩ : ∃ n : Nat, x1 % 4096 = n := ⟨(x1 % 4096).toNat, by omega⟩
  obtain ⟨m, hm⟩ : ∃ n : Nat, (f.toNat : Int) % 41 = n := ⟨f.toNat % 41, by omega⟩
  have hm41 : (m : Int) ≤ 40 := by omega
  have h14 : (n1 : Int) ≤ 4095 := by omega
  have hf255 : (f.toNat : Int) ≤ 255 := by have := f.toNat_lt; omega
  have hrm : ((f.toNat : Int).tmod 41) = m := by rw [← hm]; exact Int.tmod_eq_emod_of_nonneg (by omega)
  have hrx : (x1.tmod 4096) = n1 := by rw [← hn1]; exact Int.tmod_eq_emod_of_nonneg (by omega)
  go_enter Tryz.func8, Tryz.ntmps8
  go_wp2_with fail
  refine (awake9_any _ hG'.out).mono ?_
  rintro e w1 ⟨rfl, hg⟩
  have g1 := Lib.hid hg
  clear hg
  by_cases hl : s.length ≤ 300
  · have hlI : ¬ (300 : Int) < s.length := by omega
    go_wp2
    go_loop [7, 8] (fun tl i => ∃ (t : List UInt8) (k : Nat), k ≤ m ∧ t.length = 25 + 4 * k ∧ i = .int .i64 k ∧ tl = .string ⟨t.toArray⟩) (fun _ i => m - (intOf i).toNat)
    case atStart => exact ⟨[71, 69, 84, 32, 47, 32, 72, 84, 84, 80, 47, 49, 46, 49, 13, 10, 72, 111, 115, 116, 58, 32, 120, 13, 10], 0, by omega, rfl, rfl, rfl⟩
    case round =>
      obtain ⟨t, k, hk, htl, rfl, rfl⟩ := hrel
      by_cases hkm : k < m
      · have hkI : (k : Int) < m := by omega
        have htI : ¬ 9223372036854775807 < t.length + 4 := by omega
        have hcat : (⟨t.toArray⟩ : ByteArray) ++ ⟨#[97, 58, 13, 10]⟩ = ⟨(t ++ [97, 58, 13, 10]).toArray⟩ := cat_mk t [97, 58, 13, 10]
        have htl' := Lib.hid htl
        clear htl
        go_wp2
        go_round
        case rel => exact ⟨t ++ [97, 58, 13, 10], k + 1, by omega, by simp [htl'.out]; omega, by go_num, rfl⟩
        case measure => simp [intOf]; omega
      · have hkI : ¬ (k : Int) < m := by omega
        have htb : t.length ≤ 200 := by omega
        clear htl
        obtain ⟨X1, hX1⟩ : ∃ x, Lib.repeatL [121] n1 = x := ⟨_, rfl⟩
        obtain ⟨X2, hX2⟩ : ∃ x, Lib.repeatL [32] n1 = x := ⟨_, rfl⟩
        have hX1l : X1.length ≤ 4095 := by rw [← hX1, Lib.repeatL_length]; simp; omega
        have hX2l : X2.length ≤ 4095 := by rw [← hX2, Lib.repeatL_length]; simp; omega
        have hX1' := Lib.hid hX1
        have hX2' := Lib.hid hX2
        clear hX1 hX2
        obtain ⟨A1, hA1⟩ : ∃ l : List UInt8, t ++ [13, 10] = l := ⟨_, rfl⟩
        have cA1 : (⟨t.toArray⟩ : ByteArray) ++ ⟨#[13, 10]⟩ = ⟨A1.toArray⟩ := by rw [← hA1]; exact cat_mk (t) ([13, 10])
        have lA1 : A1.length ≤ 300 := by rw [← hA1]; simp; omega
        obtain ⟨A2, hA2⟩ : ∃ l : List UInt8, A1 ++ s = l := ⟨_, rfl⟩
        have cA2 : (⟨A1.toArray⟩ : ByteArray) ++ ⟨s.toArray⟩ = ⟨A2.toArray⟩ := by rw [← hA2]; exact cat_mk (A1) (s)
        obtain ⟨B1, hB1⟩ : ∃ l : List UInt8, t ++ [98, 58] = l := ⟨_, rfl⟩
        have cB1 : (⟨t.toArray⟩ : ByteArray) ++ ⟨#[98, 58]⟩ = ⟨B1.toArray⟩ := by rw [← hB1]; exact cat_mk (t) ([98, 58])
        have lB1 : B1.length ≤ 300 := by rw [← hB1]; simp; omega
        obtain ⟨B2, hB2⟩ : ∃ l : List UInt8, B1 ++ X1 = l := ⟨_, rfl⟩
        have cB2 : (⟨B1.toArray⟩ : ByteArray) ++ ⟨X1.toArray⟩ = ⟨B2.toArray⟩ := by rw [← hB2]; exact cat_mk (B1) (X1)
        have lB2 : B2.length ≤ 4500 := by rw [← hB2]; simp; omega
        obtain ⟨B3, hB3⟩ : ∃ l : List UInt8, B2 ++ [13, 10, 13, 10] = l := ⟨_, rfl⟩
        have cB3 : (⟨B2.toArray⟩ : ByteArray) ++ ⟨#[13, 10, 13, 10]⟩ = ⟨B3.toArray⟩ := by rw [← hB3]; exact cat_mk (B2) ([13, 10, 13, 10])
        have lB3 : B3.length ≤ 4600 := by rw [← hB3]; simp; omega
        obtain ⟨B4, hB4⟩ : ∃ l : List UInt8, B3 ++ s = l := ⟨_, rfl⟩
        have cB4 : (⟨B3.toArray⟩ : ByteArray) ++ ⟨s.toArray⟩ = ⟨B4.toArray⟩ := by rw [← hB4]; exact cat_mk (B3) (s)
        obtain ⟨C1, hC1⟩ : ∃ l : List UInt8, [71, 69, 84, 32, 47, 32, 72, 84, 84, 80, 47, 49, 46, 49, 13, 10, 72, 111, 115, 116, 58] ++ X2 = l := ⟨_, rfl⟩
        have cC1 : (⟨#[71, 69, 84, 32, 47, 32, 72, 84, 84, 80, 47, 49, 46, 49, 13, 10, 72, 111, 115, 116, 58]⟩ : ByteArray) ++ ⟨X2.toArray⟩ = ⟨C1.toArray⟩ := by rw [← hC1]; exact cat_mk ([71, 69, 84, 32, 47, 32, 72, 84, 84, 80, 47, 49, 46, 49, 13, 10, 72, 111, 115, 116, 58]) (X2)
        have z1 : ¬ 9223372036854775807 < t.length + 2 := by omega
        have z2 : ¬ 9223372036854775807 < A1.length + s.length := by omega
        have z3 : ¬ 9223372036854775807 < B1.length + X1.length := by omega
        have z4 : ¬ 9223372036854775807 < B2.length + 4 := by omega
        have z5 : ¬ 9223372036854775807 < B3.length + s.length := by omega
        have z6 : ¬ 9223372036854775807 < 21 + X2.length := by omega
        clear hA1 hA2 hB1 hB2 hB3 hB4 hC1
        go_wp2_with fail
        refine (qreads_any A2 _ (hG'.out.gr g1.out)).mono ?_
        rintro e w3 ⟨rfl, hg⟩
        have g3 := Lib.hid (g1.out.trans hg)
        clear hg
        go_wp2_with fail
        refine (repc_any 121 n1 (by omega) _).mono ?_
        rintro e w4 ⟨he, hg⟩
        rw [hX1'.out] at he
        subst he
        have g4 := Lib.hid (g3.out.trans hg)
        clear hg
        go_wp2_with fail
        refine (qreads_any B4 _ (hG'.out.gr g4.out)).mono ?_
        rintro e w5 ⟨rfl, hg⟩
        have g5 := Lib.hid (g4.out.trans hg)
        clear hg
        go_wp2_with fail
        refine (repc_any 32 n1 (by omega) _).mono ?_
        rintro e w6 ⟨he, hg⟩
        rw [hX2'.out] at he
        subst he
        have g6 := Lib.hid (g5.out.trans hg)
        clear hg
        go_wp2_with fail
        refine (qreads_any C1 _ (hG'.out.gr g6.out)).mono ?_
        rintro e w7 ⟨rfl, hg⟩
        have g7 := Lib.hid (g6.out.trans hg)
        clear hg
        go_wp2
        go_ret
        exact ⟨rfl, g7.out⟩
  · have hlI : (300 : Int) < s.length := by omega
    go_wp2
    go_ret
    exact ⟨rfl, g1.out⟩
end Go.Proofs.YtpncfeaaffgkfaaGreatDoor
