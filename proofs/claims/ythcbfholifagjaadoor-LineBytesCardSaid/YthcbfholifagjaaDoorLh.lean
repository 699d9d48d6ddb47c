/-
  The walk over LineBytes.
-/
import Derived.Test.YthcbfholifagjaaDoorLg
import Derived.RegionTactic
import Derived.ChangeAlike
namespace Go.Proofs.YthcbfholifagjaaDoor
open Go.RowKit

set_option maxHeartbeats 8000000 in
set_option maxRecDepth 100000 in
theorem bytes_any (a b : UInt8) (s : List UInt8) (w : World) (hG : G w) (hs : s.length ≤ 9223372036854775807) :
    Calls Tryd.prog 4 #[.int .u8 a.toNat, .int .u8 b.toNat, .string ⟨s.toArray⟩] w fun e w' => e = .returned (.bool true) ∧ Gr w w' := by
  have hG' := Lib.hid hG
  clear hG
  go_enter Tryd.func4, Tryd.ntmps4
  go_wp2_with fail
  refine (awake_any _ hG'.out).mono ?_
  rintro e w1 ⟨rfl, hb⟩
  have hg1 := Lib.hid hb
  clear hb
  by_cases hl : s.length ≤ 300
  · have e0 : (⟨#[a]⟩ : ByteArray) ++ (⟨#[71, 69, 84, 32, 47, 32, 72, 84, 84, 80, 47, 49, 46, 49]⟩ : ByteArray) = (⟨#[a, 71, 69, 84, 32, 47, 32, 72, 84, 84, 80, 47, 49, 46, 49]⟩ : ByteArray) := cat_mk [a] [71, 69, 84, 32, 47, 32, 72, 84, 84, 80, 47, 49, 46, 49]
    have e1 : (⟨#[71]⟩ : ByteArray) ++ (⟨#[a]⟩ : ByteArray) = (⟨#[71, a]⟩ : ByteArray) := cat_mk [71] [a]
    have e2 : (⟨#[71, a]⟩ : ByteArray) ++ (⟨#[84, 32, 47]⟩ : ByteArray) = (⟨#[71, a, 84, 32, 47]⟩ : ByteArray) := cat_mk [71, a] [84, 32, 47]
    have e3 : (⟨#[71, a, 84, 32, 47]⟩ : ByteArray) ++ (⟨#[b]⟩ : ByteArray) = (⟨#[71, a, 84, 32, 47, b]⟩ : ByteArray) := cat_mk [71, a, 84, 32, 47] [b]
    obtain ⟨z0, hz0⟩ : ∃ z, [71, a, 84, 32, 47, b] ++ s = z := ⟨_, rfl⟩
    have e4 : (⟨#[71, a, 84, 32, 47, b]⟩ : ByteArray) ++ (⟨s.toArray⟩ : ByteArray) = ⟨z0.toArray⟩ := hz0 ▸ cat_mk [71, a, 84, 32, 47, b] s
    have lz0 : z0.length ≤ 330 := by rw [← hz0]; simp; omega
    obtain ⟨z1, hz1⟩ : ∃ z, z0 ++ [32, 72, 84, 84, 80, 47, 49, 46, 49] = z := ⟨_, rfl⟩
    have e5 : (⟨z0.toArray⟩ : ByteArray) ++ (⟨#[32, 72, 84, 84, 80, 47, 49, 46, 49]⟩ : ByteArray) = ⟨z1.toArray⟩ := hz1 ▸ cat_mk z0 [32, 72, 84, 84, 80, 47, 49, 46, 49]
    have lz1 : z1.length ≤ 400 := by rw [← hz1]; simp; omega
    have e6 : (⟨#[71, 69, 84, 32, 47]⟩ : ByteArray) ++ (⟨#[a]⟩ : ByteArray) = (⟨#[71, 69, 84, 32, 47, a]⟩ : ByteArray) := cat_mk [71, 69, 84, 32, 47] [a]
    have e7 : (⟨#[71, 69, 84, 32, 47, a]⟩ : ByteArray) ++ (⟨#[32, 72, 84, 84, 80, 47, 49, 46]⟩ : ByteArray) = (⟨#[71, 69, 84, 32, 47, a, 32, 72, 84, 84, 80, 47, 49, 46]⟩ : ByteArray) := cat_mk [71, 69, 84, 32, 47, a] [32, 72, 84, 84, 80, 47, 49, 46]
    have e8 : (⟨#[71, 69, 84, 32, 47, a, 32, 72, 84, 84, 80, 47, 49, 46]⟩ : ByteArray) ++ (⟨#[b]⟩ : ByteArray) = (⟨#[71, 69, 84, 32, 47, a, 32, 72, 84, 84, 80, 47, 49, 46, b]⟩ : ByteArray) := cat_mk [71, 69, 84, 32, 47, a, 32, 72, 84, 84, 80, 47, 49, 46] [b]
    have e9 : (⟨#[47]⟩ : ByteArray) ++ (⟨#[a]⟩ : ByteArray) = (⟨#[47, a]⟩ : ByteArray) := cat_mk [47] [a]
    have e10 : (⟨#[47, a]⟩ : ByteArray) ++ (⟨#[b]⟩ : ByteArray) = (⟨#[47, a, b]⟩ : ByteArray) := cat_mk [47, a] [b]
    obtain ⟨z2, hz2⟩ : ∃ z, [47, a, b] ++ s = z := ⟨_, rfl⟩
    have e11 : (⟨#[47, a, b]⟩ : ByteArray) ++ (⟨s.toArray⟩ : ByteArray) = ⟨z2.toArray⟩ := hz2 ▸ cat_mk [47, a, b] s
    have lz2 : z2.length ≤ 400 := by rw [← hz2]; simp; omega
    have e12 : (⟨#[47, 97, 37]⟩ : ByteArray) ++ (⟨#[a]⟩ : ByteArray) = (⟨#[47, 97, 37, a]⟩ : ByteArray) := cat_mk [47, 97, 37] [a]
    have e13 : (⟨#[47, 97, 37, a]⟩ : ByteArray) ++ (⟨#[b]⟩ : ByteArray) = (⟨#[47, 97, 37, a, b]⟩ : ByteArray) := cat_mk [47, 97, 37, a] [b]
    have e14 : (⟨#[72, 84, 84, 80, 47, 49, 46, 49, 32, 50]⟩ : ByteArray) ++ (⟨#[a]⟩ : ByteArray) = (⟨#[72, 84, 84, 80, 47, 49, 46, 49, 32, 50, a]⟩ : ByteArray) := cat_mk [72, 84, 84, 80, 47, 49, 46, 49, 32, 50] [a]
    have e15 : (⟨#[72, 84, 84, 80, 47, 49, 46, 49, 32, 50, a]⟩ : ByteArray) ++ (⟨#[b]⟩ : ByteArray) = (⟨#[72, 84, 84, 80, 47, 49, 46, 49, 32, 50, a, b]⟩ : ByteArray) := cat_mk [72, 84, 84, 80, 47, 49, 46, 49, 32, 50, a] [b]
    have e16 : (⟨#[72, 84, 84, 80, 47, 49, 46, 49, 32, 50, a, b]⟩ : ByteArray) ++ (⟨#[32]⟩ : ByteArray) = (⟨#[72, 84, 84, 80, 47, 49, 46, 49, 32, 50, a, b, 32]⟩ : ByteArray) := cat_mk [72, 84, 84, 80, 47, 49, 46, 49, 32, 50, a, b] [32]
    obtain ⟨z3, hz3⟩ : ∃ z, [72, 84, 84, 80, 47, 49, 46, 49, 32, 50, a, b, 32] ++ s = z := ⟨_, rfl⟩
    have e17 : (⟨#[72, 84, 84, 80, 47, 49, 46, 49, 32, 50, a, b, 32]⟩ : ByteArray) ++ (⟨s.toArray⟩ : ByteArray) = ⟨z3.toArray⟩ := hz3 ▸ cat_mk [72, 84, 84, 80, 47, 49, 46, 49, 32, 50, a, b, 32] s
    have lz3 : z3.length ≤ 400 := by rw [← hz3]; simp; omega
    have e18 : (⟨#[72, 84, 84, 80, 47, 49, 46, 49, 32, 50, 48, 48]⟩ : ByteArray) ++ (⟨#[a]⟩ : ByteArray) = (⟨#[72, 84, 84, 80, 47, 49, 46, 49, 32, 50, 48, 48, a]⟩ : ByteArray) := cat_mk [72, 84, 84, 80, 47, 49, 46, 49, 32, 50, 48, 48] [a]
    obtain ⟨z4, hz4⟩ : ∃ z, [72, 84, 84, 80, 47, 49, 46, 49, 32, 50, 48, 48, a] ++ s = z := ⟨_, rfl⟩
    have e19 : (⟨#[72, 84, 84, 80, 47, 49, 46, 49, 32, 50, 48, 48, a]⟩ : ByteArray) ++ (⟨s.toArray⟩ : ByteArray) = ⟨z4.toArray⟩ := hz4 ▸ cat_mk [72, 84, 84, 80, 47, 49, 46, 49, 32, 50, 48, 48, a] s
    have lz4 : z4.length ≤ 330 := by rw [← hz4]; simp; omega
    obtain ⟨z5, hz5⟩ : ∃ z, z4 ++ [b] = z := ⟨_, rfl⟩
    have e20 : (⟨z4.toArray⟩ : ByteArray) ++ (⟨#[b]⟩ : ByteArray) = ⟨z5.toArray⟩ := hz5 ▸ cat_mk z4 [b]
    have lz5 : z5.length ≤ 400 := by rw [← hz5]; simp; omega
    clear hz0 hz1 hz2 hz3 hz4 hz5
    have hcv : ∀ (W : World) (k : Nat) (c : UInt8), W.cell? ⟨k, 0, none⟩ = some (.int .u8 c.toNat) → (convert 30 9 (.slice (some ⟨k, 0, none⟩) 1 1)).run Tryd.prog W = .ok (.string ⟨#[c]⟩) W := fun W k c hW =>
      run_convert_bytes_back _ _ _ 5 ⟨k, 0, none⟩ 1 [c] Tryd.underlying30 Tryd.underlying5 Tryd.underlying9 (fun j hj => by
        have : j = 0 := by simpa using hj
        subst this
        simpa [Addr.add] using hW)
    have v0 := hcv ((w1.alloc (.cells #[.int .u8 a.toNat] 5)).drew) w1.heap.size a (by simp [go_sem])
    have v1 := hcv ((w1.alloc (.cells #[.int .u8 b.toNat] 5)).drew) w1.heap.size b (by simp [go_sem])
    have v2 := hcv (((w1.alloc (.cells #[.int .u8 a.toNat] 5)).alloc (.cells #[.int .u8 b.toNat] 5)).drew) w1.heap.size a (by simp [go_sem])
    have v3 := hcv (((w1.alloc (.cells #[.int .u8 a.toNat] 5)).alloc (.cells #[.int .u8 b.toNat] 5)).drew) (w1.heap.size + 1) b (by simp [go_sem])
    have v4 := hcv (((w1.alloc (.cells #[.int .u8 b.toNat] 5)).alloc (.cells #[.int .u8 a.toNat] 5)).drew) w1.heap.size b (by simp [go_sem])
    have v5 := hcv (((w1.alloc (.cells #[.int .u8 b.toNat] 5)).alloc (.cells #[.int .u8 a.toNat] 5)).drew) (w1.heap.size + 1) a (by simp [go_sem])
    clear hcv
    go_wp2
    go_region
    all_goals clear v0 v1 v2 v3 v4 v5
    all_goals
      go_wp2_with fail
      refine (reads_any [a, 71, 69, 84, 32, 47, 32, 72, 84, 84, 80, 47, 49, 46, 49] _ (hG'.out.gr (hg1.out.trans (((Gr.alloc _ _).alloc1 _).drew))) (by simp)).mono ?_
      rintro e W0 ⟨rfl, hb⟩
      have g0 := Lib.hid ((hg1.out.trans (((Gr.alloc _ _).alloc1 _).drew)).trans hb)
      clear hb
    all_goals
      go_wp2_with fail
      refine (reads_any z1 _ (hG'.out.gr g0.out) (Nat.le_trans lz1 (by decide))).mono ?_
      rintro e W1 ⟨rfl, hb⟩
      have g1 := Lib.hid (g0.out.trans hb)
      clear hb
    all_goals
      go_wp2_with fail
      refine (reads_any [71, 69, 84, 32, 47, a, 32, 72, 84, 84, 80, 47, 49, 46, b] _ (hG'.out.gr g1.out) (by simp)).mono ?_
      rintro e W2 ⟨rfl, hb⟩
      have g2 := Lib.hid (g1.out.trans hb)
      clear hb
    all_goals
      go_wp2_with fail
      refine (reads_any z2 _ (hG'.out.gr g2.out) (Nat.le_trans lz2 (by decide))).mono ?_
      rintro e W3 ⟨rfl, hb⟩
      have g3 := Lib.hid (g2.out.trans hb)
      clear hb
    all_goals
      go_wp2_with fail
      refine (reads_any [47, 97, 37, a, b] _ (hG'.out.gr g3.out) (by simp)).mono ?_
      rintro e W4 ⟨rfl, hb⟩
      have g4 := Lib.hid (g3.out.trans hb)
      clear hb
    all_goals
      go_wp2_with fail
      refine (reads_any z3 _ (hG'.out.gr g4.out) (Nat.le_trans lz3 (by decide))).mono ?_
      rintro e W5 ⟨rfl, hb⟩
      have g5 := Lib.hid (g4.out.trans hb)
      clear hb
    all_goals
      go_wp2_with fail
      refine (reads_any z5 _ (hG'.out.gr g5.out) (Nat.le_trans lz5 (by decide))).mono ?_
      rintro e W6 ⟨rfl, hb⟩
      have g6 := Lib.hid (g5.out.trans hb)
      clear hb
    all_goals
      go_wp2
      go_ret
      exact ⟨rfl, g6.out⟩
  · go_wp2
    go_ret
    exact ⟨rfl, hg1.out⟩
end Go.Proofs.YthcbfholifagjaaDoor
