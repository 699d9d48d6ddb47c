/-
  Walks over package sha: turning a word, mixing three.
-/
import Derived.Test.YtheihlalgekojaaDoorChecked
import Derived.Test.YtheihlalgekojaaDoorShelf
import Derived.Test.YtheihlalgekojaaDoorRf
import Derived.Test.YtheihlalgekojaaDoorP16
import Derived.WalkKit
import Derived.OwnWalk
import Derived.Outline
import Derived.BigFrame
import Derived.Lib.Hide
import Derived.Deep.QuietTactic
import Derived.BigQuiet
import Derived.Laws.BitsAllLaws
namespace Go.Proofs.YtheihlalgekojaaDoor
open Go.RowKit

theorem or32 {a b : Nat} (ha : a < 4294967296) (hb : b < 4294967296) : bits .or .u32 (a : Int) (b : Int) = ((a ||| b : Nat) : Int) := Go.u32_or_nat a b ha hb
theorem rot_val {x n : Nat} (hx : x < 4294967296) : bits .or .u32 ((x : Int) * (2 ^ n : Nat) % 4294967296) ((x : Int) / (2 ^ (32 - n) : Nat)) = (rotW n x : Int) := by
  have := or32 (a := x * 2 ^ n % 4294967296) (b := x / 2 ^ (32 - n)) (Nat.mod_lt _ (by decide)) (Nat.lt_of_le_of_lt (Nat.div_le_self _ _) hx)
  rw [Int.natCast_emod, Int.natCast_mul, Int.natCast_ediv] at this
  exact this
set_option maxHeartbeats 1000000 in
set_option maxRecDepth 20000 in
theorem rot1_any (x : Nat) (hx : x < 4294967296) (w : World) : Calls Tryd.prog 64 #[.int .u32 x, .int .i64 1] w fun e w' => e = .returned (.int .u32 (rotW 1 x)) ∧ w = w' := by
  have e5 : bits .and .u64 1 31 = 1 := by decide
  have e27 : IntKind.u64.wrap (32 - 1) = 31 := by decide
  have hxI : (x : Int) < 4294967296 := by omega
  have hv : bits .or .u32 ((x : Int) * 2 % 4294967296) ((x : Int) / 2147483648) = (rotW 1 x : Int) := rot_val (n := 1) hx
  go_enter Tryd.func64, Tryd.ntmps64
  go_wp2
  go_ret
  exact ⟨rfl, rfl⟩
set_option maxHeartbeats 1000000 in
set_option maxRecDepth 20000 in
theorem rot5_any (x : Nat) (hx : x < 4294967296) (w : World) : Calls Tryd.prog 64 #[.int .u32 x, .int .i64 5] w fun e w' => e = .returned (.int .u32 (rotW 5 x)) ∧ w = w' := by
  have e5 : bits .and .u64 5 31 = 5 := by decide
  have e27 : IntKind.u64.wrap (32 - 5) = 27 := by decide
  have hxI : (x : Int) < 4294967296 := by omega
  have hv : bits .or .u32 ((x : Int) * 32 % 4294967296) ((x : Int) / 134217728) = (rotW 5 x : Int) := rot_val (n := 5) hx
  go_enter Tryd.func64, Tryd.ntmps64
  go_wp2
  go_ret
  exact ⟨rfl, rfl⟩
set_option maxHeartbeats 1000000 in
set_option maxRecDepth 20000 in
theorem rot30_any (x : Nat) (hx : x < 4294967296) (w : World) : Calls Tryd.prog 64 #[.int .u32 x, .int .i64 30] w fun e w' => e = .returned (.int .u32 (rotW 30 x)) ∧ w = w' := by
  have e5 : bits .and .u64 30 31 = 30 := by decide
  have e27 : IntKind.u64.wrap (32 - 30) = 2 := by decide
  have hxI : (x : Int) < 4294967296 := by omega
  have hv : bits .or .u32 ((x : Int) * 1073741824 % 4294967296) ((x : Int) / 4) = (rotW 30 x : Int) := rot_val (n := 30) hx
  go_enter Tryd.func64, Tryd.ntmps64
  go_wp2
  go_ret
  exact ⟨rfl, rfl⟩
theorem and32 {a b : Nat} (ha : a < 4294967296) (hb : b < 4294967296) : bits .and .u32 (a : Int) (b : Int) = ((a &&& b : Nat) : Int) := Go.u32_and_nat a b ha hb
theorem xor32 {a b : Nat} (ha : a < 4294967296) (hb : b < 4294967296) : bits .xor .u32 (a : Int) (b : Int) = ((a ^^^ b : Nat) : Int) := Go.u32_xor_nat a b ha hb
set_option maxHeartbeats 1000000 in
set_option maxRecDepth 100000 in
theorem mixed_any (t b c d : Nat) (ht : t < 80) (hb : b < 4294967296) (hc : c < 4294967296) (hd : d < 4294967296) (w : World) :
    Calls Tryd.prog 63 #[.int .i64 t, .int .u32 b, .int .u32 c, .int .u32 d] w fun e w' => e = .returned (.tuple #[.int .u32 (mixF t b c d), .int .u32 (mixK t)]) ∧ w = w' := by
  obtain ⟨F, hF⟩ : ∃ F, mixF t b c d = F := ⟨_, rfl⟩
  obtain ⟨K, hK⟩ : ∃ K, mixK t = K := ⟨_, rfl⟩
  rw [hF, hK]
  unfold mixF at hF
  unfold mixK at hK
  have ht80 := Lib.hid ht
  clear ht
  by_cases h20 : t < 20
  · have h1 : (t : Int) < 20 := by omega
    rw [if_pos h20] at hF hK
    subst hF hK
    clear h20
    have x1 : bits .and .u32 (b : Int) (c : Int) = ((b &&& c : Nat) : Int) := and32 hb hc
    have x2 : bits .xor .u32 IntKind.u32.max (b : Int) = ((4294967295 ^^^ b : Nat) : Int) := xor32 (a := 4294967295) (by decide) hb
    have x3 : bits .and .u32 ((4294967295 ^^^ b : Nat) : Int) (d : Int) = (((4294967295 ^^^ b) &&& d : Nat) : Int) := and32 (xor_lt32 (by decide) hb) hd
    have x4 : bits .xor .u32 ((b &&& c : Nat) : Int) (((4294967295 ^^^ b) &&& d : Nat) : Int) = (((b &&& c) ^^^ ((4294967295 ^^^ b) &&& d) : Nat) : Int) := xor32 (and_lt32 hb) (and_lt32 (xor_lt32 (by decide) hb))
    clear hb hc hd
    go_enter Tryd.func63, Tryd.ntmps63
    go_wp2
    go_ret2
    exact ⟨rfl, rfl⟩
  · rw [if_neg h20] at hF hK
    by_cases h40 : t < 40
    · have h1 : ¬ (t : Int) < 20 := by omega
      have h2 : (t : Int) < 40 := by omega
      rw [if_pos h40] at hF hK
      subst hF hK
      clear h20 h40
      have x1 : bits .xor .u32 (b : Int) (c : Int) = ((b ^^^ c : Nat) : Int) := xor32 hb hc
      have x2 : bits .xor .u32 ((b ^^^ c : Nat) : Int) (d : Int) = ((b ^^^ c ^^^ d : Nat) : Int) := xor32 (xor_lt32 hb hc) hd
      clear hb hc hd
      go_enter Tryd.func63, Tryd.ntmps63
      go_wp2
      go_ret2
      exact ⟨rfl, rfl⟩
    · rw [if_neg h40] at hF hK
      by_cases h60 : t < 60
      · have h1 : ¬ (t : Int) < 20 := by omega
        have h2 : ¬ (t : Int) < 40 := by omega
        have h3 : (t : Int) < 60 := by omega
        rw [if_pos h60] at hF hK
        subst hF hK
        clear h20 h40 h60
        have x1 : bits .and .u32 (b : Int) (c : Int) = ((b &&& c : Nat) : Int) := and32 hb hc
        have x2 : bits .and .u32 (b : Int) (d : Int) = ((b &&& d : Nat) : Int) := and32 hb hd
        have x3 : bits .and .u32 (c : Int) (d : Int) = ((c &&& d : Nat) : Int) := and32 hc hd
        have x4 : bits .xor .u32 ((b &&& c : Nat) : Int) ((b &&& d : Nat) : Int) = (((b &&& c) ^^^ (b &&& d) : Nat) : Int) := xor32 (and_lt32 hb) (and_lt32 hb)
        have x5 : bits .xor .u32 (((b &&& c) ^^^ (b &&& d) : Nat) : Int) ((c &&& d : Nat) : Int) = (((b &&& c) ^^^ (b &&& d) ^^^ (c &&& d) : Nat) : Int) := xor32 (xor_lt32 (and_lt32 hb) (and_lt32 hb)) (and_lt32 hc)
        clear hb hc hd
        go_enter Tryd.func63, Tryd.ntmps63
        go_wp2
        go_ret2
        exact ⟨rfl, rfl⟩
      · have h1 : ¬ (t : Int) < 20 := by omega
        have h2 : ¬ (t : Int) < 40 := by omega
        have h3 : ¬ (t : Int) < 60 := by omega
        rw [if_neg h60] at hF hK
        subst hF hK
        clear h20 h40 h60
        have x1 : bits .xor .u32 (b : Int) (c : Int) = ((b ^^^ c : Nat) : Int) := xor32 hb hc
        have x2 : bits .xor .u32 ((b ^^^ c : Nat) : Int) (d : Int) = ((b ^^^ c ^^^ d : Nat) : Int) := xor32 (xor_lt32 hb hc) hd
        clear hb hc hd
        go_enter Tryd.func63, Tryd.ntmps63
        go_wp2
        go_ret2
        exact ⟨rfl, rfl⟩
end Go.Proofs.YtheihlalgekojaaDoor
