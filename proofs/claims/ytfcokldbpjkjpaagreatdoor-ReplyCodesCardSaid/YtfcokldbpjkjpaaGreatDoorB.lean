/-
  Walks over the reference of package field: bytes and whole texts.
-/
import Derived.Test.YtfcokldbpjkjpaaGreatDoorA
namespace Go.Proofs.YtfcokldbpjkjpaaGreatDoor
open Go.RowKit

set_option maxHeartbeats 400000 in
theorem tokens_any (c : UInt8) (w : World) : Calls Tryz.prog 51 #[.int .u8 c.toNat] w fun e w' => e = .returned (.bool (isTok c)) ∧ w = w' := by
  go_enter Tryz.func51, Tryz.ntmps51
  go_wp2
  go_loop [3] (fun i => ∃ k : Nat, k ≤ 77 ∧ i = .int .i64 k ∧ (tokAll.take k).contains c = false) (fun i => 77 - (intOf i).toNat)
  case atStart => exact ⟨0, Nat.zero_le _, rfl, rfl⟩
  case round =>
    obtain ⟨k, hk, rfl, hall⟩ := hrel
    have hall' := Lib.hid hall
    clear hall
    by_cases hlt : k < 77
    · go_wp2
      · have ht : ((((tokAll[k]'hlt).toNat : Nat) : Int) == (c.toNat : Int)) = true := by assumption
        go_ret
        exact ⟨ret_bool (by rw [← tok_contains]; exact (contains_at (l := tokAll) hlt (by rw [u8_beq]; simpa using ht)).symm), rfl⟩
      · have ht : ((((tokAll[k]'hlt).toNat : Nat) : Int) == (c.toNat : Int)) = false := by assumption
        go_round
        case rel => exact ⟨k + 1, by omega, by go_num, contains_take_succ (l := tokAll) hall'.out hlt (by rw [u8_beq]; simpa using ht)⟩
        case measure => simp [intOf]; omega
    · go_wp2
      go_ret
      obtain rfl : k = 77 := by omega
      exact ⟨ret_bool (by rw [← tok_contains, ← hall'.out]; rfl), rfl⟩

end Go.Proofs.YtfcokldbpjkjpaaGreatDoor
