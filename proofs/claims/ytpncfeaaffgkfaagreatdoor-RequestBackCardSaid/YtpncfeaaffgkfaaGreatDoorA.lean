/-
  Walks over single functions of package field and its reference: bytes and whole texts.
-/
import Derived.Test.YtpncfeaaffgkfaaGreatDoorChecked
import Derived.Test.YtpncfeaaffgkfaaGreatDoorShelf
import Derived.Test.YtpncfeaaffgkfaaGreatDoorP0
import Derived.WalkKit
import Derived.OwnWalk
import Derived.Outline
import Derived.BigFrame
import Derived.Lib.Hide
import Derived.Deep.QuietTactic
import Derived.BigQuiet
import Derived.Deep.DeepFit
namespace Go.Proofs.YtpncfeaaffgkfaaGreatDoor
open Go.RowKit

set_option maxHeartbeats 400000 in
theorem letter_any (c : UInt8) (w : World) : Calls Tryz.prog 61 #[.int .u8 c.toNat] w fun e w' => e = .returned (.bool (isLetter c)) ∧ w = w' := by
  go_enter Tryz.func61, Tryz.ntmps61
  go_wp2
  all_goals go_ret
  all_goals exact ⟨ret_bool (by rw [letter_eq, Bool.eq_iff_iff]; simp; omega), rfl⟩

set_option maxHeartbeats 400000 in
theorem tokc_any (c : UInt8) (w : World) : Calls Tryz.prog 60 #[.int .u8 c.toNat] w fun e w' => e = .returned (.bool (isTok c)) ∧ w = w' := by
  cases hl : isLetter c
  all_goals have hl' := Lib.hid hl
  all_goals clear hl
  all_goals
    go_enter Tryz.func60, Tryz.ntmps60
    go_wp2_with (first | (go_at_call 61; refine (letter_any c _).mono ?_; rintro e w' ⟨rfl, rfl⟩; rw [hl'.out]) | (go_at_call 62; refine (Tryz.strings_IndexByte _ _ _).mono ?_; rintro e w' ⟨rfl, rfl⟩))
    go_ret
  · exact ⟨ret_bool (by rw [isTok, hl'.out]; exact indexByte_nonneg marksL c), rfl⟩
  · exact ⟨ret_bool (by rw [isTok, hl'.out]; rfl), rfl⟩

set_option maxHeartbeats 400000 in
theorem valc_any (c : UInt8) (w : World) : Calls Tryz.prog 63 #[.int .u8 c.toNat] w fun e w' => e = .returned (.bool (isVal c)) ∧ w = w' := by
  have hv := Lib.hid (val_eq c)
  go_enter Tryz.func63, Tryz.ntmps63
  go_wp2
  all_goals go_ret
  all_goals exact ⟨ret_bool (by rw [hv.out, Bool.eq_iff_iff]; simp; omega), rfl⟩

set_option maxHeartbeats 400000 in
theorem every_any (g : Nat) (p : UInt8 → Bool) (eg : ∀ args w, (callFunc g args).run Tryz.prog w = .ok (.enter g args) w)
    (hp : ∀ c w, Calls Tryz.prog g #[.int .u8 c.toNat] w fun e w' => e = .returned (.bool (p c)) ∧ w = w')
    (l : List UInt8) (w : World) (hl : l.length ≤ 9223372036854775807) :
    Calls Tryz.prog 59 #[.string ⟨l.toArray⟩, .func (.func g) #[] #[]] w fun e w' => e = .returned (.bool (l.all p)) ∧ w = w' := by
  have hp' := Lib.hid hp
  clear hp
  go_enter Tryz.func59, Tryz.ntmps59
  go_wp2
  go_loop [5, 8] (fun _ i => ∃ k : Nat, k ≤ l.length ∧ i = .int .i64 k ∧ (l.take k).all p = true) (fun _ i => l.length - (intOf i).toNat)
  case atStart => exact ⟨0, Nat.zero_le _, rfl, rfl⟩
  case round =>
    obtain ⟨k, hk, rfl, hall⟩ := hrel
    have hall' := Lib.hid hall
    clear hall
    by_cases hlt : k < l.length
    · cases hpk : p l[k]
      all_goals have hpk' := Lib.hid hpk
      all_goals clear hpk
      all_goals go_wp2_with (refine (hp'.out l[k] _).mono ?_; rintro e w' ⟨rfl, rfl⟩; rw [hpk'.out])
      · go_ret
        exact ⟨ret_bool (all_false hlt hpk'.out).symm, rfl⟩
      · go_round
        case rel => exact ⟨k + 1, by omega, by go_num, all_take_succ hall'.out hlt hpk'.out⟩
        case measure => simp [intOf]; omega
    · go_wp2
      go_ret
      exact ⟨ret_bool (by rw [← hall'.out, List.take_of_length_le (by omega)]), rfl⟩
end Go.Proofs.YtpncfeaaffgkfaaGreatDoor
