/-
  DeskLong: the law's function returns true and leaves what lay as it was, whatever the text.
-/
import Derived.Test.YtjjmmakledpifaaGreatDoorGd
namespace Go.Proofs.YtjjmmakledpifaaGreatDoor
open Go.Ra
theorem long31_any (s : ByteArray) (hs : s.data.toList.length ≤ 9223372036854775807) (W : World) (hG : G W) :
    Calls Tryz.prog 3 #[.string s] W fun e W' => e = .returned (.bool true) ∧ Gr W W' := by
  have I := hG.inv
  have arg : ∀ {a b : Nat}, a ≤ s.data.toList.length → s.data.toList.length < b → VRels (glo (szW W)) (.cs (.text a b) .nl) [.string s] := fun h1 h2 => .cons _ _ _ _ (.text _ _ _ h1 h2) .nil
  generalize hk : s.data.toList.length = k at arg hs
  rcases (show k < 1 ∨ (1 ≤ k ∧ k < 2) ∨ (2 ≤ k ∧ k < 4) ∨ (4 ≤ k ∧ k < 8) ∨ (8 ≤ k ∧ k < 16) ∨ (16 ≤ k ∧ k < 32) ∨ (32 ≤ k ∧ k < 64) ∨ (64 ≤ k ∧ k < 128) ∨ (128 ≤ k ∧ k < 256) ∨ (256 ≤ k ∧ k < 512) ∨ (512 ≤ k ∧ k < 1024) ∨ (1024 ≤ k ∧ k < 2048) ∨ (2048 ≤ k ∧ k < 4096) ∨ (4096 ≤ k ∧ k < 8192) ∨ (8192 ≤ k ∧ k < 16384) ∨ (16384 ≤ k ∧ k < 32768) ∨ (32768 ≤ k ∧ k < 65536) ∨ (65536 ≤ k ∧ k < 70001) ∨ (70001 ≤ k ∧ k < 9223372036854775808) by omega) with h2 | ⟨h1, h2⟩ | ⟨h1, h2⟩ | ⟨h1, h2⟩ | ⟨h1, h2⟩ | ⟨h1, h2⟩ | ⟨h1, h2⟩ | ⟨h1, h2⟩ | ⟨h1, h2⟩ | ⟨h1, h2⟩ | ⟨h1, h2⟩ | ⟨h1, h2⟩ | ⟨h1, h2⟩ | ⟨h1, h2⟩ | ⟨h1, h2⟩ | ⟨h1, h2⟩ | ⟨h1, h2⟩ | ⟨h1, h2⟩ | ⟨h1, h2⟩
  · exact law_run mixed ft1_ok I (arg (by omega) (by omega)) (by decide) long_fn long_run0
  · exact law_run mixed ft1_ok I (arg (by omega) (by omega)) (by decide) long_fn long_run1
  · exact law_run mixed ft1_ok I (arg (by omega) (by omega)) (by decide) long_fn long_run2
  · exact law_run mixed ft1_ok I (arg (by omega) (by omega)) (by decide) long_fn long_run3
  · exact law_run mixed ft1_ok I (arg (by omega) (by omega)) (by decide) long_fn long_run4
  · exact law_run mixed ft1_ok I (arg (by omega) (by omega)) (by decide) long_fn long_run5
  · exact law_run mixed ft1_ok I (arg (by omega) (by omega)) (by decide) long_fn long_run6
  · exact law_run mixed ft1_ok I (arg (by omega) (by omega)) (by decide) long_fn long_run7
  · exact law_run mixed ft1_ok I (arg (by omega) (by omega)) (by decide) long_fn long_run8
  · exact law_run mixed ft1_ok I (arg (by omega) (by omega)) (by decide) long_fn long_run9
  · exact law_run mixed ft1_ok I (arg (by omega) (by omega)) (by decide) long_fn long_run10
  · exact law_run mixed ft1_ok I (arg (by omega) (by omega)) (by decide) long_fn long_run11
  · exact law_run mixed ft1_ok I (arg (by omega) (by omega)) (by decide) long_fn long_run12
  · exact law_run mixed ft1_ok I (arg (by omega) (by omega)) (by decide) long_fn long_run13
  · exact law_run mixed ft1_ok I (arg (by omega) (by omega)) (by decide) long_fn long_run14
  · exact law_run mixed ft1_ok I (arg (by omega) (by omega)) (by decide) long_fn long_run15
  · exact law_run mixed ft1_ok I (arg (by omega) (by omega)) (by decide) long_fn long_run16
  · exact law_run mixed ft1_ok I (arg (by omega) (by omega)) (by decide) long_fn long_run17
  · exact law_run mixed ft1_ok I (arg (by omega) (by omega)) (by decide) long_fn long_run18
end Go.Proofs.YtjjmmakledpifaaGreatDoor
