/-
  Plain laws of hexadecimal digits, digit by digit: no program in sight.
-/
import Derived.Test.YtnopfoagioodjaaDoorP12
namespace Go.Proofs.YtnopfoagioodjaaDoor
theorem hexF_at {n k : Nat} (hn : n ≤ 4096) (hk : k ≤ 3) (h1 : 1 ≤ n / 16 ^ k) (h : n / 16 ^ k < 16) :
    (hexF n).length = k + 1 ∧ (hexF n)[0]? = some (hexC (n / 16 ^ k)) ∧ ∀ i, i < k → (hexF n)[k - i]? = some (hexC (n / 16 ^ i % 16)) := by
  have e : k = 0 ∨ k = 1 ∨ k = 2 ∨ k = 3 := by omega
  unfold hexF
  rcases e with rfl | rfl | rfl | rfl
  · simp only [Nat.pow_zero, Nat.div_one] at h h1 ⊢
    rw [if_pos h]
    exact ⟨rfl, rfl, fun i hi => by omega⟩
  · simp only [Nat.reducePow] at h h1 ⊢
    rw [if_neg (by omega), if_pos (by omega)]
    refine ⟨rfl, rfl, fun i hi => ?_⟩
    obtain rfl : i = 0 := by omega
    simp
  · simp only [Nat.reducePow] at h h1 ⊢
    rw [if_neg (by omega), if_neg (by omega), if_pos (by omega)]
    refine ⟨rfl, rfl, fun i hi => ?_⟩
    have : i = 0 ∨ i = 1 := by omega
    rcases this with rfl | rfl <;> simp
  · simp only [Nat.reducePow] at h h1 ⊢
    rw [if_neg (by omega), if_neg (by omega), if_neg (by omega)]
    refine ⟨rfl, rfl, fun i hi => ?_⟩
    have : i = 0 ∨ i = 1 ∨ i = 2 := by omega
    rcases this with rfl | rfl | rfl <;> simp
end Go.Proofs.YtnopfoagioodjaaDoor
