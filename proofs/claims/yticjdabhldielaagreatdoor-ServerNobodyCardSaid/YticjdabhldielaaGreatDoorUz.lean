/-
  ServerNobody: the law's function returns true and leaves what lay as it was, whatever the act and the number.
-/
import Derived.Test.YticjdabhldielaaGreatDoorGd
namespace Go.Proofs.YticjdabhldielaaGreatDoor
open Go.Ra
theorem arg_rel {m : Mp} {t c : AV} {k a b : Int} {s : ByteArray} {x : Int} (ht : VRel m t (.string s)) (hc : VRel m c (.int .i64 x)) : VRels m (argA t c) [.agg #[.int .u8 k, .int .i64 a, .int .i64 b, .string s], .int .i64 x] := by
  refine .cons _ _ _ _ (.agg _ _ (.cons _ _ _ _ (.undef _) (.cons _ _ _ _ (.undef _) (.cons _ _ _ _ (.undef _) (.cons _ _ _ _ ht .nil)))) fun v hv => ?_) (.cons _ _ _ _ hc .nil)
  simp only [List.mem_cons, List.not_mem_nil, or_false] at hv
  rcases hv with rfl | rfl | rfl | rfl <;> rfl
theorem nobody29_any (k a b : Int) (s : ByteArray) (x : Int) (hs : s.data.toList.length ≤ 9223372036854775807) (hx : x ≤ 9223372036854775807) (W : World) (hG : G W) :
    Calls Tryz.prog 3 #[.agg #[.int .u8 k, .int .i64 a, .int .i64 b, .string s], .int .i64 x] W fun e W' => e = .returned (.bool true) ∧ Gr W W' := by
  have I := hG.inv
  have neg : x < 0 → VRel (glo (szW W)) (.ilt 0) (.int .i64 x) := fun h => .ilt _ _ h
  have pos : ¬ x < 0 → VRel (glo (szW W)) (.icap 0) (.int .i64 x) := fun h => by
    obtain ⟨n, rfl⟩ := Int.eq_ofNat_of_zero_le (show 0 ≤ x by omega)
    exact .icap _ _ (Nat.zero_le _) (by show n ≤ 9223372036854775807; omega)
  have small : s.data.toList.length ≤ 1000 → VRel (glo (szW W)) (.text 0 1001) (.string s) := fun h => .text _ _ _ (Nat.zero_le _) (by omega)
  have big : ¬ s.data.toList.length ≤ 1000 → VRel (glo (szW W)) (.text 1001 9223372036854775808) (.string s) := fun h => .text _ _ _ (by omega) (by omega)
  by_cases h1 : s.data.toList.length ≤ 1000 <;> by_cases h2 : x < 0
  · exact law_run mixed ft1_ok I (arg_rel (small h1) (neg h2)) (by decide) nobody_fn nobody_run0
  · exact law_run mixed ft1_ok I (arg_rel (small h1) (pos h2)) (by decide) nobody_fn nobody_run1
  · exact law_run mixed ft1_ok I (arg_rel (big h1) (neg h2)) (by decide) nobody_fn nobody_run2
  · exact law_run mixed ft1_ok I (arg_rel (big h1) (pos h2)) (by decide) nobody_fn nobody_run3
end Go.Proofs.YticjdabhldielaaGreatDoor
