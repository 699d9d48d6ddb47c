/-
  The document's SHA-1 and base64: turning a word, a letter.
-/
import Derived.Test.YtheihlalgekojaaGreatDoorSd
import Derived.Test.YtheihlalgekojaaGreatDoorP24
import Derived.Test.YtheihlalgekojaaGreatDoorOw
namespace Go.Proofs.YtheihlalgekojaaGreatDoor
open Go.RowKit
attribute [local go_sem] Oper.semAt_some

set_option maxHeartbeats 1000000 in
set_option maxRecDepth 20000 in
theorem rrot1_any (x : Nat) (hx : x < 4294967296) (w : World) : Calls Tryz.prog 47 #[.int .u32 x, .int .u64 1] w fun e w' => e = .returned (.int .u32 (rotW 1 x)) ∧ w = w' := by
  have e27 : IntKind.u64.wrap (32 - 1) = 31 := by decide
  have hxI : (x : Int) < 4294967296 := by omega
  have hv : bits .or .u32 ((x : Int) * 2 % 4294967296) ((x : Int) / 2147483648) = (rotW 1 x : Int) := rot_val (n := 1) hx
  go_enter Tryz.func47, Tryz.ntmps47
  go_wp2
  go_ret
  exact ⟨rfl, rfl⟩
set_option maxHeartbeats 1000000 in
set_option maxRecDepth 20000 in
theorem rrot5_any (x : Nat) (hx : x < 4294967296) (w : World) : Calls Tryz.prog 47 #[.int .u32 x, .int .u64 5] w fun e w' => e = .returned (.int .u32 (rotW 5 x)) ∧ w = w' := by
  have e27 : IntKind.u64.wrap (32 - 5) = 27 := by decide
  have hxI : (x : Int) < 4294967296 := by omega
  have hv : bits .or .u32 ((x : Int) * 32 % 4294967296) ((x : Int) / 134217728) = (rotW 5 x : Int) := rot_val (n := 5) hx
  go_enter Tryz.func47, Tryz.ntmps47
  go_wp2
  go_ret
  exact ⟨rfl, rfl⟩
set_option maxHeartbeats 1000000 in
set_option maxRecDepth 20000 in
theorem rrot30_any (x : Nat) (hx : x < 4294967296) (w : World) : Calls Tryz.prog 47 #[.int .u32 x, .int .u64 30] w fun e w' => e = .returned (.int .u32 (rotW 30 x)) ∧ w = w' := by
  have e27 : IntKind.u64.wrap (32 - 30) = 2 := by decide
  have hxI : (x : Int) < 4294967296 := by omega
  have hv : bits .or .u32 ((x : Int) * 1073741824 % 4294967296) ((x : Int) / 4) = (rotW 30 x : Int) := rot_val (n := 30) hx
  go_enter Tryz.func47, Tryz.ntmps47
  go_wp2
  go_ret
  exact ⟨rfl, rfl⟩
theorem rrot1_later (C : World → Prop) {x r : Nat} (hr : rotW 1 x = r) (hx : x < 4294967296) (y : Later C) :
    Calls Tryz.prog 47 #[.int .u32 x, .int .u64 1] y.w fun e w' => e = .returned (.int .u32 r) ∧ ∃ z : Later C, w' = z.w :=
  Calls.later ((rrot1_any x hx y.w).mono fun _ _ ⟨h1, h2⟩ => ⟨hr ▸ h1, h2 ▸ y.ok⟩)
theorem rrot5_later (C : World → Prop) {x r : Nat} (hr : rotW 5 x = r) (hx : x < 4294967296) (y : Later C) :
    Calls Tryz.prog 47 #[.int .u32 x, .int .u64 5] y.w fun e w' => e = .returned (.int .u32 r) ∧ ∃ z : Later C, w' = z.w :=
  Calls.later ((rrot5_any x hx y.w).mono fun _ _ ⟨h1, h2⟩ => ⟨hr ▸ h1, h2 ▸ y.ok⟩)
theorem let26 {n : Nat} (h : n < 26) : ((65 + (n : Int)) % 256) = ((letB n).toNat : Int) := by
  have : ∀ n : Fin 26, ((65 + (n.1 : Int)) % 256) = ((letB n.1).toNat : Int) := by decide +kernel
  exact this ⟨n, h⟩
theorem let52 {n : Nat} (h0 : 26 ≤ n) (h : n < 52) : ((97 + (n : Int) - 26) % 256) = ((letB n).toNat : Int) := by
  have : ∀ n : Fin 26, ((97 + ((n.1 + 26 : Nat) : Int) - 26) % 256) = ((letB (n.1 + 26)).toNat : Int) := by decide +kernel
  have := this ⟨n - 26, by omega⟩
  rwa [show n - 26 + 26 = n by omega] at this
theorem let62 {n : Nat} (h0 : 52 ≤ n) (h : n < 62) : ((48 + (n : Int) - 52) % 256) = ((letB n).toNat : Int) := by
  have : ∀ n : Fin 10, ((48 + ((n.1 + 52 : Nat) : Int) - 52) % 256) = ((letB (n.1 + 52)).toNat : Int) := by decide +kernel
  have := this ⟨n - 52, by omega⟩
  rwa [show n - 52 + 52 = n by omega] at this
set_option maxHeartbeats 1000000 in
set_option maxRecDepth 20000 in
theorem rletter_any (n : Nat) (hn : n < 64) (w : World) : Calls Tryz.prog 46 #[.int .i64 n] w fun e w' => e = .returned (.int .u8 (letB n).toNat) ∧ w = w' := by
  obtain ⟨c, hc⟩ : ∃ c, letB n = c := ⟨_, rfl⟩
  rw [hc]
  by_cases h26 : n < 26
  · have hI : (n : Int) < 26 := by omega
    have hv := let26 h26
    rw [hc] at hv
    have hv' := Lib.hid hv
    clear hv hc
    go_enter Tryz.func46, Tryz.ntmps46
    go_wp2
    go_ret
    exact ⟨by simp; have := hv'.out; omega, rfl⟩
  · by_cases h52 : n < 52
    · have hI : ¬ (n : Int) < 26 := by omega
      have hI2 : (n : Int) < 52 := by omega
      have hv := let52 (by omega) h52
      rw [hc] at hv
      have hv' := Lib.hid hv
      clear hv hc
      go_enter Tryz.func46, Tryz.ntmps46
      go_wp2
      go_ret
      exact ⟨by simp; have := hv'.out; omega, rfl⟩
    · by_cases h62 : n < 62
      · have hI : ¬ (n : Int) < 26 := by omega
        have hI2 : ¬ (n : Int) < 52 := by omega
        have hI3 : (n : Int) < 62 := by omega
        have hv := let62 (by omega) h62
        rw [hc] at hv
        have hv' := Lib.hid hv
        clear hv hc
        go_enter Tryz.func46, Tryz.ntmps46
        go_wp2
        go_ret
        exact ⟨by simp; have := hv'.out; omega, rfl⟩
      · have hI : ¬ (n : Int) < 26 := by omega
        have hI2 : ¬ (n : Int) < 52 := by omega
        have hI3 : ¬ (n : Int) < 62 := by omega
        have h2 : n = 62 ∨ n = 63 := by omega
        rcases h2 with rfl | rfl
        · have hv : c = 43 := by rw [← hc]; decide +kernel
          subst hv
          go_enter Tryz.func46, Tryz.ntmps46
          go_wp2
          go_ret
          exact ⟨rfl, rfl⟩
        · have hv : c = 47 := by rw [← hc]; decide +kernel
          subst hv
          go_enter Tryz.func46, Tryz.ntmps46
          go_wp2
          go_ret
          exact ⟨rfl, rfl⟩
end Go.Proofs.YtheihlalgekojaaGreatDoor
