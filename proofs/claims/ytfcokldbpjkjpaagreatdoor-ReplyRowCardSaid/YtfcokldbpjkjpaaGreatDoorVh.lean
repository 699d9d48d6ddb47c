/-
  Replies: is one more than the statements go through?
-/
import Derived.Test.YtfcokldbpjkjpaaGreatDoorSm
import Derived.Test.YtfcokldbpjkjpaaGreatDoorLc
import Derived.IntWalk
import Derived.Deep.RegionHeld3
namespace Go.Proofs.YtfcokldbpjkjpaaGreatDoor
open Go.RowKit
attribute [local go_sem] Oper.semAt_some

def gsum : List (List UInt8 × List UInt8) → Nat
  | [] => 0
  | f :: t => min f.1.length 70001 + min f.2.length 70001 + gsum t
theorem gsum_app : ∀ (a b : List (List UInt8 × List UInt8)), gsum (a ++ b) = gsum a + gsum b
  | [], b => by simp [gsum]
  | f :: t, b => by
    have := gsum_app t b
    simp only [List.cons_append, gsum]; omega
theorem gsum_mem : ∀ {fs : List (List UInt8 × List UInt8)} {f : List UInt8 × List UInt8}, f ∈ fs → min f.1.length 70001 + min f.2.length 70001 ≤ gsum fs
  | a :: t, f, h => by
    rcases List.mem_cons.1 h with rfl | h
    · simp only [gsum]; omega
    · have := gsum_mem h
      simp only [gsum]; omega
theorem gsum_le : ∀ (fs : List (List UInt8 × List UInt8)), gsum fs ≤ fs.length * 140002
  | [] => by simp [gsum]
  | f :: t => by
    have := gsum_le t
    simp only [gsum, List.length_cons]; omega
def Small10 (r : Rp) : Prop := r.fs.length ≤ 100 ∧ r.b.length ≤ 70000 ∧ r.b.length + gsum r.fs ≤ 70000
theorem Small10.texts {r : Rp} (h : Small10 r) : ∀ f ∈ r.fs, f.1.length ≤ 70000 ∧ f.2.length ≤ 70000 := fun f hf => by
  have := gsum_mem hf
  have := h.2.2
  omega
def Great10 (r : Rp) (w : World) (e : Ending) (w' : World) : Prop := ∃ b, e = .returned (.bool b) ∧ (b = false → Small10 r) ∧ Gr w w'
set_option maxHeartbeats 4000000 in
set_option maxRecDepth 20000 in
theorem great10_any (r : Rp) (t : Value) (w : World) (hf : FieldsAt w t r.fs) (hlf : r.fs.length ≤ 9223372036854775807) (hlb : r.b.length ≤ 9223372036854775807) (hls : ∀ f ∈ r.fs, f.1.length ≤ 9223372036854775807 ∧ f.2.length ≤ 9223372036854775807) (hlb2 : r.b.length ≤ 9000000000000000000) :
    Calls Tryz.prog 11 #[r.V t] w (Great10 r w) := by
  obtain ⟨p, cap, rfl, hc⟩ := hf
  have hc' := Lib.hid hc
  have hls' := Lib.hid hls
  obtain ⟨c, fs, b⟩ := r
  unfold Rp.V
  dsimp only at hc' hls' hlf hlb hlb2 ⊢
  clear hc hls
  have g0 := Lib.hid (Gr.alloc w (.cells #[.int .i64 c, .slice p fs.length cap, .string ⟨b.toArray⟩] 24))
  have n1 : (w.alloc (.cells #[.int .i64 c, .slice p fs.length cap, .string ⟨b.toArray⟩] 24)).cell? ⟨w.heap.size, 1, none⟩ = some (.slice p fs.length cap) := by simp [go_sem]
  have n2 : (w.alloc (.cells #[.int .i64 c, .slice p fs.length cap, .string ⟨b.toArray⟩] 24)).cell? ⟨w.heap.size, 2, none⟩ = some (.string ⟨b.toArray⟩) := by simp [go_sem]
  go_enter Tryz.func11, Tryz.ntmps11
  go_wp2
  generalize (w.alloc (.cells #[.int .i64 c, .slice p fs.length cap, .string ⟨b.toArray⟩] 24)) = w1 at g0 n1 n2 ⊢
  go_loopw [3, 4] (fun n i W => ∃ k : Nat, k ≤ fs.length ∧ k ≤ 101 ∧ i = .int .i64 k ∧ n = .int .i64 ((b.length + gsum (fs.take k) : Nat) : Int) ∧ Gr w1 W) (fun _ i _ => 101 - (intOf i).toNat)
  case atStart => exact ⟨0, Nat.zero_le _, by omega, rfl, rfl, Gr.refl _⟩
  case round =>
    obtain ⟨k, hk, hk1, rfl, rfl, hg⟩ := hrel
    replace n1 := hg.cell n1
    have hg' := Lib.hid hg
    have hgl := gsum_le (fs.take k)
    rw [List.length_take] at hgl
    have hmk : min k fs.length = k := by omega
    rw [hmk] at hgl
    by_cases hlt : k < fs.length ∧ k ≤ 100
    · obtain ⟨hlt, hk100⟩ := hlt
      obtain ⟨bf, off, rfl, d1, d2⟩ := hc'.out k hlt
      replace d1 := (g0.out.trans hg).cell d1
      replace d2 := (g0.out.trans hg).cell d2
      have hx9 := hls'.out _ (List.getElem_mem hlt)
      have hnx : gsum (fs.take (k + 1)) = gsum (fs.take k) + (min fs[k].1.length 70001 + min fs[k].2.length 70001) := by
        rw [List.take_succ_eq_append_getElem hlt, gsum_app]; simp [gsum]
      obtain ⟨⟨xn, xv⟩, hx⟩ : ∃ x, fs[k] = x := ⟨_, rfl⟩
      rw [hx] at d1 d2 hnx hx9
      dsimp only at d1 d2 hnx hx9
      have hkI : (k : Int) < fs.length := by omega
      have hkI2 : (k : Int) ≤ 100 := by omega
      obtain ⟨S, hS⟩ : ∃ S, b.length + gsum (fs.take k) = S := ⟨_, rfl⟩
      rw [hS]
      obtain ⟨m1, hm1⟩ : ∃ m, min xn.length 70001 = m := ⟨_, rfl⟩
      obtain ⟨m2, hm2⟩ : ∃ m, min xv.length 70001 = m := ⟨_, rfl⟩
      rw [hm1, hm2] at hnx
      have e1 : min (xn.length : Int) 70001 = m1 := by omega
      have e2 : min (xv.length : Int) 70001 = m2 := by omega
      have k1 : IntKind.i64.wrap ((S : Int) + m1) = ((S + m1 : Nat) : Int) := by rw [IntWalk.i64_in _ (by omega)]; omega
      have hnx' := Lib.hid (show b.length + gsum (fs.take (k + 1)) = S + m1 + m2 by rw [hnx, ← hS]; omega)
      obtain ⟨S1, hS1⟩ : ∃ s, S + m1 = s := ⟨_, rfl⟩
      rw [hS1] at k1 hnx'
      have k2 : IntKind.i64.wrap ((S1 : Int) + m2) = ((S1 + m2 : Nat) : Int) := by rw [IntWalk.i64_in _ (by omega)]; omega
      clear hS hm1 hm2 hnx hx hS1 hgl hmk hx9
      go_upto_region 5 with (fail)
      go_region_held3 (fun w' => w'.cell? ⟨w.heap.size, 1, none⟩ = some (.slice (some ⟨bf, off, none⟩) fs.length cap) ∧ w'.cell? ⟨bf, off + k * 2, none⟩ = some (.string ⟨xn.toArray⟩) ∧ w'.cell? ⟨bf, off + k * 2 + 1, none⟩ = some (.string ⟨xv.toArray⟩)) (go_keep) (fail)
      have hg9 := Lib.hid (hg'.out.trans (Gr.drew' wr))
      clear d1 d2 n1 e1 e2 k1 k2
      go_wp2
      go_roundw
      case rel => exact ⟨k + 1, by omega, by omega, by go_num, by rw [hnx'.out, Int.natCast_add], hg9.out⟩
      case measure => simp [intOf]; omega
      case roundEnd => exact ⟨⟨k + 1, by omega, by omega, by go_num, by rw [hnx'.out, Int.natCast_add], hg'.out.trans (Gr.drew' wr)⟩, by simp [intOf]; omega⟩
    · have hex : (¬ (k : Int) < fs.length) ∨ ((k : Int) < fs.length ∧ ¬ (k : Int) ≤ 100) := by omega
      have hsm : ¬ (100 < (fs.length : Int)) → ¬ (70000 < ((b.length + gsum (fs.take k) : Nat) : Int)) → Small10 ⟨c, fs, b⟩ := fun h1 h2 => by
        have hkl : k = fs.length := by omega
        rw [hkl, List.take_length] at h2
        exact ⟨by show fs.length ≤ 100; omega, by show b.length ≤ 70000; omega, by show b.length + gsum fs ≤ 70000; omega⟩
      have hsm' := Lib.hid hsm
      obtain ⟨S, hS⟩ : ∃ S, b.length + gsum (fs.take k) = S := ⟨_, rfl⟩
      rw [hS] at hsm' ⊢
      have hgz := Lib.hid (g0.out.trans hg)
      clear hS hsm hgl hmk hlt hg
      rcases hex with h1 | ⟨h1, h2⟩
      all_goals
        by_cases h5 : 100 < (fs.length : Int)
        · go_wp2
          go_ret
          exact ⟨true, rfl, fun h => Bool.noConfusion h, hgz.out⟩
        · first
            | (exfalso; omega)
            | (by_cases h6 : 70000 < (S : Int)
               · go_wp2
                 go_ret
                 exact ⟨true, rfl, fun h => Bool.noConfusion h, hgz.out⟩
               · have hfin := Lib.hid (hsm'.out h5 h6)
                 go_wp2
                 go_ret
                 exact ⟨false, rfl, fun _ => hfin.out, hgz.out⟩)
end Go.Proofs.YtfcokldbpjkjpaaGreatDoor
