/-
  Replies: bodies that are too long; what Great says of any reply.
-/
import Derived.Test.YtfcokldbpjkjpaaGreatDoorVh
import Derived.Test.YtfcokldbpjkjpaaGreatDoorWa
namespace Go.Proofs.YtfcokldbpjkjpaaGreatDoor
open Go.RowKit
attribute [local go_sem] Oper.semAt_some

theorem right_long {r : Rp} (h : 65536 < r.b.length) : rightR r = false := by
  unfold rightR
  rw [decide_eq_false (show ¬ r.b.length ≤ 65536 by omega)]
  simp
set_option maxHeartbeats 4000000 in
set_option maxRecDepth 20000 in
theorem right_big (r : Rp) (t : Value) (w : World) (hf : FieldsAt w t r.fs) (hb : 65536 < r.b.length) (hlb : r.b.length ≤ 9223372036854775807) :
    Calls Tryz.prog 14 #[r.V t] w fun e w' => e = .returned (.bool false) ∧ Gr w w' := by
  obtain ⟨p, cap, rfl, _⟩ := hf
  have hways := right_ways r
  rw [right_long hb] at hways
  obtain ⟨c, fs, b⟩ := r
  unfold Rp.V
  dsimp only at hways hb hlb ⊢
  have g0 := Lib.hid (Gr.alloc w (.cells #[.int .i64 c, .slice p fs.length cap, .string ⟨b.toArray⟩] 24))
  have n0 : (w.alloc (.cells #[.int .i64 c, .slice p fs.length cap, .string ⟨b.toArray⟩] 24)).cell? ⟨w.heap.size, 0, none⟩ = some (.int .i64 c) := by simp [go_sem]
  have n1 : (w.alloc (.cells #[.int .i64 c, .slice p fs.length cap, .string ⟨b.toArray⟩] 24)).cell? ⟨w.heap.size, 1, none⟩ = some (.slice p fs.length cap) := by simp [go_sem]
  have n2 : (w.alloc (.cells #[.int .i64 c, .slice p fs.length cap, .string ⟨b.toArray⟩] 24)).cell? ⟨w.heap.size, 2, none⟩ = some (.string ⟨b.toArray⟩) := by simp [go_sem]
  rcases hways with ⟨h1, _⟩ | ⟨h1, h2, _⟩ | ⟨h1, h2, hb, h3, _⟩ | ⟨h1, h2, hb, h3, _⟩ | ⟨h1, h2, hb, h3, _⟩ | ⟨h1, h2, hb, h3, _⟩
  · go_enter Tryz.func14, Tryz.ntmps14
    go_wp2
    go_ret
    exact ⟨rfl, g0.out⟩
  · go_enter Tryz.func14, Tryz.ntmps14
    go_wp2
    go_ret
    exact ⟨rfl, g0.out⟩
  · go_enter Tryz.func14, Tryz.ntmps14
    go_wp2_with (go_at_call 25; refine (barec_any c _).mono ?_; rintro e w' ⟨rfl, rfl⟩; rw [hb])
    go_ret
    exact ⟨rfl, g0.out⟩
  · subst h3; exact absurd hb (by simp)
  · go_enter Tryz.func14, Tryz.ntmps14
    go_wp2_with (go_at_call 25; refine (barec_any c _).mono ?_; rintro e w' ⟨rfl, rfl⟩; rw [hb])
    go_ret
    exact ⟨rfl, g0.out⟩
  · exact absurd h3 (by simp; omega)
theorem right_of (r : Rp) (t : Value) (w : World) (hG : G w) (hf : FieldsAt w t r.fs) (h : Small10 r ∨ 65536 < r.b.length) (hlb : r.b.length ≤ 9223372036854775807) :
    Calls Tryz.prog 14 #[r.V t] w fun e w' => e = .returned (.bool (rightR r)) ∧ Gr w w' := by
  rcases h with h | h
  · exact right_any r t w hG hf (by have := h.1; omega) (fun f hm => by have := h.texts f hm; omega) hlb
  · rw [right_long h]; exact right_big r t w hf h hlb
set_option maxHeartbeats 4000000 in
set_option maxRecDepth 20000 in
theorem bytes_big (r : Rp) (t : Value) (head close : Bool) (w : World) (hf : FieldsAt w t r.fs) (hb : 65536 < r.b.length) (hlb : r.b.length ≤ 9223372036854775807) :
    Calls Tryz.prog 12 #[r.V t, .bool head, .bool close] w fun e w' => e = .returned (byteV none) ∧ Gr w w' := by
  have hf' := Lib.hid hf
  have hr := Lib.hid (fun W (hg : Gr w W) => right_big r t W (hf.gr hg) hb hlb)
  obtain ⟨p, cap, rfl, _⟩ := hf
  obtain ⟨c, fs, b⟩ := r
  unfold Rp.V at hr ⊢
  dsimp only at hr hb hlb ⊢
  clear hb
  have g0 := (Gr.alloc w (.cells #[.int .i64 c, .slice p fs.length cap, .string ⟨b.toArray⟩] 24))
  have n0 : (w.alloc (.cells #[.int .i64 c, .slice p fs.length cap, .string ⟨b.toArray⟩] 24)).cell? ⟨w.heap.size, 0, none⟩ = some (.int .i64 c) := by simp [go_sem]
  have n1 : (w.alloc (.cells #[.int .i64 c, .slice p fs.length cap, .string ⟨b.toArray⟩] 24)).cell? ⟨w.heap.size, 1, none⟩ = some (.slice p fs.length cap) := by simp [go_sem]
  have n2 : (w.alloc (.cells #[.int .i64 c, .slice p fs.length cap, .string ⟨b.toArray⟩] 24)).cell? ⟨w.heap.size, 2, none⟩ = some (.string ⟨b.toArray⟩) := by simp [go_sem]
  have g0' := Lib.hid g0
  clear g0
  go_enter Tryz.func12, Tryz.ntmps12
  go_wp2_with fail
  refine (hr.out _ g0'.out).mono ?_
  rintro e w1 ⟨rfl, hb1⟩
  have g1 := Lib.hid (g0'.out.trans hb1)
  clear hb1
  go_wp2
  go_ret2
  exact ⟨rfl, g1.out⟩
theorem bytes_long {r : Rp} (h : 65536 < r.b.length) (head close : Bool) : bytesR r head close = none := by
  unfold bytesR; rw [right_long h]; rfl
theorem bytes_of (r : Rp) (t : Value) (head close : Bool) (w : World) (hG : G w) (hf : FieldsAt w t r.fs) (h : Small10 r ∨ 65536 < r.b.length) (hlb : r.b.length ≤ 9223372036854775807) (hcr : -9223372036854775808 ≤ r.code ∧ r.code ≤ 9223372036854775807) :
    Calls Tryz.prog 12 #[r.V t, .bool head, .bool close] w fun e w' => e = .returned (byteV (bytesR r head close)) ∧ Gr w w' := by
  rcases h with h | h
  · exact bytes_any r t head close w hG hf (by have := h.1; omega) (fun f hm => by have := h.texts f hm; omega) (by have := h.2.1; omega) hcr
  · rw [bytes_long h]; exact bytes_big r t head close w hf h hlb
def AnyB (w : World) (e : Ending) (w' : World) : Prop := ∃ b, e = .returned (.bool b) ∧ Gr w w'
/-- What Great says of any reply. -/
def Great11 (r : Rp) (w : World) (e : Ending) (w' : World) : Prop := ∃ b, e = .returned (.bool b) ∧ (b = false → Small10 r ∨ 65536 < r.b.length) ∧ Gr w w'
set_option maxHeartbeats 4000000 in
set_option maxRecDepth 20000 in
theorem great_huge (r : Rp) (t : Value) (w : World) (hf : FieldsAt w t r.fs) (hlf : r.fs.length ≤ 9223372036854775807) (hlb : r.b.length ≤ 9223372036854775807) (hls : ∀ f ∈ r.fs, f.1.length ≤ 9223372036854775807 ∧ f.2.length ≤ 9223372036854775807)  :
    Calls Tryz.prog 11 #[r.V t] w (AnyB w) := by
  obtain ⟨p, cap, rfl, hc⟩ := hf
  have hc' := Lib.hid hc
  have hls' := Lib.hid hls
  obtain ⟨c, fs, b⟩ := r
  unfold Rp.V
  dsimp only at hc' hls' hlf hlb ⊢
  clear hc hls
  have g0 := Lib.hid (Gr.alloc w (.cells #[.int .i64 c, .slice p fs.length cap, .string ⟨b.toArray⟩] 24))
  have n1 : (w.alloc (.cells #[.int .i64 c, .slice p fs.length cap, .string ⟨b.toArray⟩] 24)).cell? ⟨w.heap.size, 1, none⟩ = some (.slice p fs.length cap) := by simp [go_sem]
  have n2 : (w.alloc (.cells #[.int .i64 c, .slice p fs.length cap, .string ⟨b.toArray⟩] 24)).cell? ⟨w.heap.size, 2, none⟩ = some (.string ⟨b.toArray⟩) := by simp [go_sem]
  go_enter Tryz.func11, Tryz.ntmps11
  go_wp2
  generalize (w.alloc (.cells #[.int .i64 c, .slice p fs.length cap, .string ⟨b.toArray⟩] 24)) = w1 at g0 n1 n2 ⊢
  go_loopw [3, 4] (fun n i W => ∃ k : Nat, ∃ z : Int, k ≤ fs.length ∧ k ≤ 101 ∧ i = .int .i64 k ∧ n = .int .i64 z ∧ Gr w1 W) (fun _ i _ => 101 - (intOf i).toNat)
  case atStart => exact ⟨0, _, Nat.zero_le _, by omega, rfl, rfl, Gr.refl _⟩
  case round =>
    obtain ⟨k, z, hk, hk1, rfl, rfl, hg⟩ := hrel
    replace n1 := hg.cell n1
    have hg' := Lib.hid hg
    by_cases hlt : k < fs.length ∧ k ≤ 100
    · obtain ⟨hlt, hk100⟩ := hlt
      obtain ⟨bf, off, rfl, d1, d2⟩ := hc'.out k hlt
      replace d1 := (g0.out.trans hg).cell d1
      replace d2 := (g0.out.trans hg).cell d2
      have hx9 := hls'.out _ (List.getElem_mem hlt)
      obtain ⟨⟨xn, xv⟩, hx⟩ : ∃ x, fs[k] = x := ⟨_, rfl⟩
      rw [hx] at d1 d2 hx9
      dsimp only at d1 d2 hx9
      have hkI : (k : Int) < fs.length := by omega
      have hkI2 : (k : Int) ≤ 100 := by omega
      obtain ⟨m1, hm1⟩ : ∃ m, min xn.length 70001 = m := ⟨_, rfl⟩
      obtain ⟨m2, hm2⟩ : ∃ m, min xv.length 70001 = m := ⟨_, rfl⟩
      have e1 : min (xn.length : Int) 70001 = m1 := by omega
      have e2 : min (xv.length : Int) 70001 = m2 := by omega
      obtain ⟨z1, k1⟩ : ∃ y, IntKind.i64.wrap (z + m1) = y := ⟨_, rfl⟩
      obtain ⟨z2, k2⟩ : ∃ y, IntKind.i64.wrap (z1 + m2) = y := ⟨_, rfl⟩
      clear hm1 hm2 hx hx9
      go_upto_region 5 with (fail)
      go_region_held3 (fun w' => w'.cell? ⟨w.heap.size, 1, none⟩ = some (.slice (some ⟨bf, off, none⟩) fs.length cap) ∧ w'.cell? ⟨bf, off + k * 2, none⟩ = some (.string ⟨xn.toArray⟩) ∧ w'.cell? ⟨bf, off + k * 2 + 1, none⟩ = some (.string ⟨xv.toArray⟩)) (go_keep) (fail)
      have hg9 := Lib.hid (hg'.out.trans (Gr.drew' wr))
      clear d1 d2 n1 e1 e2 k1 k2
      go_wp2
      go_roundw
      case rel => exact ⟨k + 1, z2, by omega, by omega, by go_num, rfl, hg9.out⟩
      case measure => simp [intOf]; omega
      case roundEnd => exact ⟨⟨k + 1, z2, by omega, by omega, by go_num, rfl, hg'.out.trans (Gr.drew' wr)⟩, by simp [intOf]; omega⟩
    · have hgz := Lib.hid (g0.out.trans hg)
      have hex : (¬ (k : Int) < fs.length) ∨ ((k : Int) < fs.length ∧ ¬ (k : Int) ≤ 100) := by omega
      clear hlt hg
      rcases hex with h1 | ⟨h1, h2⟩
      all_goals
        by_cases h5 : 100 < (fs.length : Int)
        · go_wp2
          go_ret
          exact ⟨_, rfl, hgz.out⟩
        · first
            | (exfalso; omega)
            | (go_wp2
               go_ret
               exact ⟨_, rfl, hgz.out⟩)
theorem great11_any (r : Rp) (t : Value) (w : World) (hf : FieldsAt w t r.fs) (hlf : r.fs.length ≤ 9223372036854775807) (hlb : r.b.length ≤ 9223372036854775807) (hls : ∀ f ∈ r.fs, f.1.length ≤ 9223372036854775807 ∧ f.2.length ≤ 9223372036854775807) :
    Calls Tryz.prog 11 #[r.V t] w (Great11 r w) := by
  by_cases h9 : r.b.length ≤ 9000000000000000000
  · exact (great10_any r t w hf hlf hlb hls h9).mono fun e w' ⟨b, h1, h2, h3⟩ => ⟨b, h1, fun h => .inl (h2 h), h3⟩
  · exact (great_huge r t w hf hlf hlb hls).mono fun e w' ⟨b, h1, h3⟩ => ⟨b, h1, fun _ => .inr (by omega), h3⟩
theorem stepH_len {c : Int} {st st' : HdSt} {l : List UInt8} (h : stepH c st l = some st') : st'.1.length ≤ st.1.length + 1 := by
  unfold stepH at h
  split at h
  · cases h
  · split at h
    · split at h
      · cases hz : sizeN (parseB l).2.1 with
        | none => rw [hz] at h; cases h
        | some m => rw [hz] at h; cases h; simp
      · cases h
    · split at h
      · split at h
        · cases h; simp
        · cases h
      · cases h; simp
theorem foldH_len {c : Int} : ∀ (ls : List (List UInt8)) {st st' : HdSt}, foldH c st ls = some st' → st'.1.length ≤ st.1.length + ls.length
  | [], st, st', h => by cases h; simp
  | l :: t, st, st', h => by
    unfold foldH at h
    cases e : stepH c st l with
    | none => rw [e] at h; cases h
    | some y =>
      rw [e] at h
      have a := stepH_len e
      have b := foldH_len t h
      rw [List.length_cons]; omega
theorem readR_len (s : List UInt8) (head : Bool) : (rdR (readR s head)).fs.length ≤ s.length + 1 := by
  rcases Lib.index_spec s eol2 with ⟨hix, _⟩ | ⟨i, hix, hi, _, _⟩
  · rw [readR_none hix]; split <;> simp [rdR]
  · rw [readR_at hix]
    obtain ⟨z1, _⟩ := splitE_len _ (s.take i) (Nat.le_refl _)
    rw [List.length_take] at z1
    cases hp : partsR (splitE (s.take i)) with
    | none => simp [rdR]
    | some y =>
      obtain ⟨c, fs, cl, o⟩ := y
      have hfs : fs.length ≤ (splitE (s.take i)).length := by
        unfold partsR at hp
        split at hp
        · rename_i c' r' hst
          cases hf : foldH (c' : Int) ([], false, none) (splitE (s.take i)).tail with
          | none => rw [hf] at hp; cases hp
          | some st =>
            rw [hf] at hp
            have h9 := foldH_len _ hf
            dsimp only [Option.bind] at hp
            split at hp
            · cases hp
              simp at h9 ⊢; omega
            · cases hp
        · cases hp
      dsimp only
      obtain ⟨K, hK⟩ : ∃ K, (if head = true then 0 else o.getD 0) = K := ⟨_, rfl⟩
      rw [hK]
      split
      · simp [rdR]
      · show fs.length ≤ _
        omega
end Go.Proofs.YtfcokldbpjkjpaaGreatDoor
