/-
  The walk over ChunkLong.
-/
import Derived.Test.YtnopfoagioodjaaDoorKt
namespace Go.Proofs.YtnopfoagioodjaaDoor
open Go.RowKit
attribute [local go_sem] Oper.semAt_some

theorem rep_gen (c : UInt8) (n : Nat) (hn : n ≤ 5000) (w : World) : Calls Tryd.prog 19 #[.string ⟨#[c]⟩, .int .i64 n] w fun e w' => e = .returned (.string ⟨(Lib.repeatL [c] n).toArray⟩) ∧ Gr w w' :=
  Tryd.strings_Repeat ⟨#[c]⟩ n w (by omega) (by show 1 * n ≤ _; omega)

set_option maxHeartbeats 4000000 in
set_option maxRecDepth 20000 in
theorem long_law (c : UInt8) (x1 x2 : Int) (f : UInt8) (s : List UInt8) (w : World) (hG : G w) (b1 : 0 ≤ x1 ∧ x1 ≤ 65535) (b2 : 0 ≤ x2 ∧ x2 ≤ 65535) (hs : s.length ≤ 9223372036854775807) :
    Calls Tryd.prog 9 #[.int .u8 c.toNat, .int .u16 x1, .int .u16 x2, .int .u8 f.toNat, .string ⟨s.toArray⟩] w fun e w' => e = .returned (.bool true) ∧ Gr w w' := by
  have hG' := Lib.hid hG
  clear hG
  by_cases hl : s.length ≤ 300
  · obtain ⟨n1, hn1⟩ : ∃ n : Nat, x1 % 4096 = n := ⟨(x1 % 4096).toNat, by omega⟩
    obtain ⟨n2, hn2⟩ : ∃ n : Nat, x2 % 4096 = n := ⟨(x2 % 4096).toNat, by omega⟩
    obtain ⟨m, hm⟩ : ∃ n : Nat, (f.toNat : Int) % 41 = n := ⟨f.toNat % 41, by omega⟩
    have hm41 : (m : Int) ≤ 40 := by omega
    have h14 : (n1 : Int) ≤ 4095 := by omega
    have h24 : (n2 : Int) ≤ 4095 := by omega
    obtain ⟨b10, b11⟩ := b1
    obtain ⟨b20, b21⟩ := b2
    have hf255 : (f.toNat : Int) ≤ 255 := by have := f.toNat_lt; omega
    go_enter Tryd.func9, Tryd.ntmps9
    go_wp2_with fail
    refine (awake_any _ hG'.out).mono ?_
    rintro e w1 ⟨rfl, hg⟩
    have g1 := Lib.hid hg
    clear hg
    have hcv : ∀ cap, (convert 31 9 (.slice (some ⟨w1.heap.size, 0, none⟩) 1 cap)).run Tryd.prog (w1.alloc (.cells #[.int .u8 c.toNat] 5)) = .ok (.string ⟨#[c]⟩) (w1.alloc (.cells #[.int .u8 c.toNat] 5)) := fun cap =>
      run_convert_bytes_back _ _ _ 5 ⟨w1.heap.size, 0, none⟩ cap [c] Tryd.underlying31 Tryd.underlying5 Tryd.underlying9 (fun j hj => by
        obtain rfl : j = 0 := by simpa using hj
        simp [Addr.add, go_sem])
    have g2 := Lib.hid (g1.out.alloc1 (.cells #[.int .u8 c.toNat] 5))
    go_wp2
    clear hcv
    generalize (w1.alloc (.cells #[.int .u8 c.toNat] 5)) = w2 at g2 ⊢
    have hrm : ((f.toNat : Int).tmod 41) = m := by rw [← hm]; exact Int.tmod_eq_emod_of_nonneg (by omega)
    go_loop [12, 13] (fun tl i => ∃ (t : List UInt8) (k : Nat), k ≤ m ∧ t.length = 5 * k ∧ i = .int .i64 k ∧ tl = .string ⟨t.toArray⟩) (fun _ i => m - (intOf i).toNat)
    case atStart => exact ⟨[], 0, by omega, rfl, rfl, rfl⟩
    case round =>
      obtain ⟨t, k, hk, htl, rfl, rfl⟩ := hrel
      by_cases hkm : k < m
      · have hkI : (k : Int) < m := by omega
        have htI : ¬ 9223372036854775807 < t.length + 5 := by omega
        have hcat : (⟨t.toArray⟩ : ByteArray) ++ ⟨#[97, 58, 98, 13, 10]⟩ = ⟨(t ++ [97, 58, 98, 13, 10]).toArray⟩ := cat_mk t [97, 58, 98, 13, 10]
        have htl' := Lib.hid htl
        clear htl
        go_wp2
        go_round
        case rel => exact ⟨t ++ [97, 58, 98, 13, 10], k + 1, by omega, by simp [htl'.out]; omega, by go_num, rfl⟩
        case measure => simp [intOf]; omega
      · have hkI : ¬ (k : Int) < m := by omega
        have htb : t.length ≤ 200 := by omega
        clear htl
        obtain ⟨X1, hX1⟩ : ∃ x, Lib.repeatL [c] n1 = x := ⟨_, rfl⟩
        obtain ⟨X2, hX2⟩ : ∃ x, Lib.repeatL [c] n2 = x := ⟨_, rfl⟩
        have hX1l : X1.length ≤ 4095 := by rw [← hX1, Lib.repeatL_length]; simp; omega
        have hX2l : X2.length ≤ 4095 := by rw [← hX2, Lib.repeatL_length]; simp; omega
        have hX1' := Lib.hid hX1
        have hX2' := Lib.hid hX2
        clear hX1 hX2
        obtain ⟨A1, hA1⟩ : ∃ l : List UInt8, [49, 59] ++ X1 = l := ⟨_, rfl⟩
        have cA1 : (⟨#[49, 59]⟩ : ByteArray) ++ ⟨X1.toArray⟩ = ⟨A1.toArray⟩ := by rw [← hA1]; exact cat_mk ([49, 59]) (X1)
        have lA1 : A1.length ≤ 4100 := by rw [← hA1]; simp; omega
        obtain ⟨A2, hA2⟩ : ∃ l : List UInt8, A1 ++ [13, 10, 122, 13, 10] = l := ⟨_, rfl⟩
        have cA2 : (⟨A1.toArray⟩ : ByteArray) ++ ⟨#[13, 10, 122, 13, 10]⟩ = ⟨A2.toArray⟩ := by rw [← hA2]; exact cat_mk (A1) ([13, 10, 122, 13, 10])
        have lA2 : A2.length ≤ 4105 := by rw [← hA2]; simp; omega
        obtain ⟨A3, hA3⟩ : ∃ l : List UInt8, A2 ++ s = l := ⟨_, rfl⟩
        have cA3 : (⟨A2.toArray⟩ : ByteArray) ++ ⟨s.toArray⟩ = ⟨A3.toArray⟩ := by rw [← hA3]; exact cat_mk (A2) (s)
        have lA3 : A3.length ≤ 4405 := by rw [← hA3]; simp; omega
        obtain ⟨B1, hB1⟩ : ∃ l : List UInt8, [48, 13, 10] ++ t = l := ⟨_, rfl⟩
        have cB1 : (⟨#[48, 13, 10]⟩ : ByteArray) ++ ⟨t.toArray⟩ = ⟨B1.toArray⟩ := by rw [← hB1]; exact cat_mk ([48, 13, 10]) (t)
        have lB1 : B1.length ≤ 203 := by rw [← hB1]; simp; omega
        obtain ⟨B2, hB2⟩ : ∃ l : List UInt8, B1 ++ [120, 58] = l := ⟨_, rfl⟩
        have cB2 : (⟨B1.toArray⟩ : ByteArray) ++ ⟨#[120, 58]⟩ = ⟨B2.toArray⟩ := by rw [← hB2]; exact cat_mk (B1) ([120, 58])
        have lB2 : B2.length ≤ 205 := by rw [← hB2]; simp; omega
        obtain ⟨B3, hB3⟩ : ∃ l : List UInt8, B2 ++ X2 = l := ⟨_, rfl⟩
        have cB3 : (⟨B2.toArray⟩ : ByteArray) ++ ⟨X2.toArray⟩ = ⟨B3.toArray⟩ := by rw [← hB3]; exact cat_mk (B2) (X2)
        have lB3 : B3.length ≤ 4300 := by rw [← hB3]; simp; omega
        obtain ⟨B4, hB4⟩ : ∃ l : List UInt8, B3 ++ [13, 10, 13, 10] = l := ⟨_, rfl⟩
        have cB4 : (⟨B3.toArray⟩ : ByteArray) ++ ⟨#[13, 10, 13, 10]⟩ = ⟨B4.toArray⟩ := by rw [← hB4]; exact cat_mk (B3) ([13, 10, 13, 10])
        have lB4 : B4.length ≤ 4304 := by rw [← hB4]; simp; omega
        obtain ⟨B5, hB5⟩ : ∃ l : List UInt8, B4 ++ s = l := ⟨_, rfl⟩
        have cB5 : (⟨B4.toArray⟩ : ByteArray) ++ ⟨s.toArray⟩ = ⟨B5.toArray⟩ := by rw [← hB5]; exact cat_mk (B4) (s)
        have lB5 : B5.length ≤ 4604 := by rw [← hB5]; simp; omega
        obtain ⟨C2, hC2⟩ : ∃ l : List UInt8, B1 ++ s = l := ⟨_, rfl⟩
        have cC2 : (⟨B1.toArray⟩ : ByteArray) ++ ⟨s.toArray⟩ = ⟨C2.toArray⟩ := by rw [← hC2]; exact cat_mk (B1) (s)
        have lC2 : C2.length ≤ 503 := by rw [← hC2]; simp; omega
        have z1 : ¬ 9223372036854775807 < 2 + X1.length := by omega
        have z2 : ¬ 9223372036854775807 < A1.length + 5 := by omega
        have z3 : ¬ 9223372036854775807 < A2.length + s.length := by omega
        have z4 : ¬ 9223372036854775807 < 3 + t.length := by omega
        have z5 : ¬ 9223372036854775807 < B1.length + 2 := by omega
        have z6 : ¬ 9223372036854775807 < B2.length + X2.length := by omega
        have z7 : ¬ 9223372036854775807 < B3.length + 4 := by omega
        have z8 : ¬ 9223372036854775807 < B4.length + s.length := by omega
        have z9 : ¬ 9223372036854775807 < B1.length + s.length := by omega
        have hA := Lib.hid (show A3.length ≤ 9223372036854775807 by omega)
        have hB := Lib.hid (show B5.length ≤ 9223372036854775807 by omega)
        have hC := Lib.hid (show C2.length ≤ 9223372036854775807 by omega)
        clear hA1 hA2 hA3 hB1 hB2 hB3 hB4 hB5 hC2
        go_wp2_with fail
        refine (rep_gen c n1 (by omega) _).mono ?_
        rintro e w3 ⟨he, hg⟩
        rw [hX1'.out] at he
        subst he
        have g3 := Lib.hid (g2.out.trans hg)
        clear hg
        go_wp2_with fail
        refine (reads_law A3 _ (hG'.out.gr g3.out) hA.out).mono ?_
        rintro e w4 ⟨rfl, hg⟩
        have g4 := Lib.hid (g3.out.trans hg)
        clear hg
        go_wp2_with fail
        refine (rep_gen c n2 (by omega) _).mono ?_
        rintro e w5 ⟨he, hg⟩
        rw [hX2'.out] at he
        subst he
        have g5 := Lib.hid (g4.out.trans hg)
        clear hg
        go_wp2_with fail
        refine (reads_law B5 _ (hG'.out.gr g5.out) hB.out).mono ?_
        rintro e w6 ⟨rfl, hg⟩
        have g6 := Lib.hid (g5.out.trans hg)
        clear hg
        go_wp2_with fail
        refine (reads_law C2 _ (hG'.out.gr g6.out) hC.out).mono ?_
        rintro e w7 ⟨rfl, hg⟩
        have g7 := Lib.hid (g6.out.trans hg)
        clear hg
        go_wp2
        go_ret
        exact ⟨rfl, g7.out⟩
  · have hlI : ¬ (s.length : Int) ≤ 300 := by omega
    go_enter Tryd.func9, Tryd.ntmps9
    go_wp2_with fail
    refine (awake_any _ hG'.out).mono ?_
    rintro e w0 ⟨rfl, hg⟩
    have g0 := Lib.hid hg
    clear hg
    go_wp2
    go_ret
    exact ⟨rfl, g0.out⟩
end Go.Proofs.YtnopfoagioodjaaDoor
