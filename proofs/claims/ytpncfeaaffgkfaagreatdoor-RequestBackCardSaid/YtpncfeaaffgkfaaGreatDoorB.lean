/-
  Walks over the reference of package field: bytes and whole texts.
-/
import Derived.Test.YtpncfeaaffgkfaaGreatDoorA
namespace Go.Proofs.YtpncfeaaffgkfaaGreatDoor
open Go.RowKit

set_option maxHeartbeats 400000 in
theorem tokens_any (c : UInt8) (w : World) : Calls Tryz.prog 85 #[.int .u8 c.toNat] w fun e w' => e = .returned (.bool (isTok c)) ∧ w = w' := by
  go_enter Tryz.func85, Tryz.ntmps85
  go_wp2
  go_loop [3] (fun i => ∃ k : Nat, k ≤ 77 ∧ i = .int .i64 k ∧ (tokAll.take k).contains c = false) (fun i => 77 - (intOf i).toNat)
  case atStart => exact ⟨0, Nat.zero_le _, rfl, rfl⟩
  case round =>
    obtain ⟨k, hk, rfl, hall⟩ := hrel
    have hall' := Lib.hid hall
    clear hall
    by_cases hlt : k < 77
    · go_wp2
      · have ht : ((((tokAll[k]'hlt).toNat : Nat) : Int) == (c.toNat : Int)) = true := by assumption
        go_ret
        exact ⟨ret_bool (by rw [← tok_contains]; exact (contains_at (l := tokAll) hlt (by rw [u8_beq]; simpa using ht)).symm), rfl⟩
      · have ht : ((((tokAll[k]'hlt).toNat : Nat) : Int) == (c.toNat : Int)) = false := by assumption
        go_round
        case rel => exact ⟨k + 1, by omega, by go_num, contains_take_succ (l := tokAll) hall'.out hlt (by rw [u8_beq]; simpa using ht)⟩
        case measure => simp [intOf]; omega
    · go_wp2
      go_ret
      obtain rfl : k = 77 := by omega
      exact ⟨ret_bool (by rw [← tok_contains, ← hall'.out]; rfl), rfl⟩

set_option maxHeartbeats 400000 in
theorem rtoken_any (l : List UInt8) (w : World) (hl : l.length ≤ 9223372036854775807) :
    Calls Tryz.prog 82 #[.string ⟨l.toArray⟩] w fun e w' => e = .returned (.bool (tokB l)) ∧ w = w' := by
  go_enter Tryz.func82, Tryz.ntmps82
  go_wp2
  go_loop [2, 3] (fun _ i => ∃ k : Nat, k ≤ l.length ∧ i = .int .i64 k ∧ (l.take k).all isTok = true) (fun _ i => l.length - (intOf i).toNat)
  case atStart => exact ⟨0, Nat.zero_le _, rfl, rfl⟩
  case round =>
    obtain ⟨k, hk, rfl, hall⟩ := hrel
    have hall' := Lib.hid hall
    clear hall
    by_cases hlt : k < l.length
    · cases hpk : isTok l[k]
      all_goals have hpk' := Lib.hid hpk
      all_goals clear hpk
      all_goals go_wp2_with (go_at_call 85; refine (tokens_any l[k] _).mono ?_; rintro e w' ⟨rfl, rfl⟩; rw [hpk'.out])
      · go_ret
        exact ⟨ret_bool (by unfold tokB; rw [all_false hlt hpk'.out]; simp), rfl⟩
      · go_round
        case rel => exact ⟨k + 1, by omega, by go_num, all_take_succ hall'.out hlt hpk'.out⟩
        case measure => simp [intOf]; omega
    · go_wp2
      go_ret
      refine ⟨ret_bool ?_, rfl⟩
      have h := hall'.out
      rw [List.take_of_length_le (by omega)] at h
      unfold tokB; rw [h]
      cases l <;> simp
end Go.Proofs.YtpncfeaaffgkfaaGreatDoor
