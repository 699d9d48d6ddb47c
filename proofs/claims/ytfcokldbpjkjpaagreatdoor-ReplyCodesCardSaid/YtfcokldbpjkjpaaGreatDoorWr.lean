/-
  Replies: bodies that are too long, by the document.
-/
import Derived.Test.YtfcokldbpjkjpaaGreatDoorWb
import Derived.Test.YtfcokldbpjkjpaaGreatDoorVk
import Derived.Test.YtfcokldbpjkjpaaGreatDoorVf
namespace Go.Proofs.YtfcokldbpjkjpaaGreatDoor
open Go.RowKit
attribute [local go_sem] Oper.semAt_some

set_option maxHeartbeats 4000000 in
set_option maxRecDepth 20000 in
theorem rright_big (r : Rp) (t : Value) (w : World) (hf : FieldsAt w t r.fs) (hb : 65536 < r.b.length) (hlb : r.b.length ≤ 9223372036854775807) :
    Calls Tryz.prog 15 #[r.V t] w fun e w' => e = .returned (.bool false) ∧ Gr w w' := by
  obtain ⟨p, cap, rfl, _⟩ := hf
  obtain ⟨c, fs, b⟩ := r
  unfold Rp.V
  dsimp only at hb hlb ⊢
  have hbI : (65536 : Int) < b.length := by omega
  have g0 := Lib.hid (Gr.alloc w (.cells #[.int .i64 c, .slice p fs.length cap, .string ⟨b.toArray⟩] 24))
  have n0 : (w.alloc (.cells #[.int .i64 c, .slice p fs.length cap, .string ⟨b.toArray⟩] 24)).cell? ⟨w.heap.size, 0, none⟩ = some (.int .i64 c) := by simp [go_sem]
  have n1 : (w.alloc (.cells #[.int .i64 c, .slice p fs.length cap, .string ⟨b.toArray⟩] 24)).cell? ⟨w.heap.size, 1, none⟩ = some (.slice p fs.length cap) := by simp [go_sem]
  have n2 : (w.alloc (.cells #[.int .i64 c, .slice p fs.length cap, .string ⟨b.toArray⟩] 24)).cell? ⟨w.heap.size, 2, none⟩ = some (.string ⟨b.toArray⟩) := by simp [go_sem]
  clear hb
  by_cases h1 : c < 100
  · go_enter Tryz.func15, Tryz.ntmps15
    go_wp2
    go_ret
    exact ⟨rfl, g0.out⟩
  · by_cases h2 : 599 < c
    · go_enter Tryz.func15, Tryz.ntmps15
      go_wp2
      go_ret
      exact ⟨rfl, g0.out⟩
    · go_enter Tryz.func15, Tryz.ntmps15
      go_wp2
      go_ret
      exact ⟨rfl, g0.out⟩
theorem rright_of (r : Rp) (t : Value) (w : World) (hf : FieldsAt w t r.fs) (h : Small10 r ∨ 65536 < r.b.length) (hlb : r.b.length ≤ 9223372036854775807) :
    Calls Tryz.prog 15 #[r.V t] w fun e w' => e = .returned (.bool (rightR r)) ∧ Gr w w' := by
  rcases h with h | h
  · exact rright_any r t w hf (by have := h.1; omega) (fun f hm => by have := h.texts f hm; omega) hlb
  · rw [right_long h]; exact rright_big r t w hf h hlb
set_option maxHeartbeats 4000000 in
set_option maxRecDepth 20000 in
theorem rbytes_big (r : Rp) (t : Value) (head close : Bool) (w : World) (hf : FieldsAt w t r.fs) (hb : 65536 < r.b.length) (hlb : r.b.length ≤ 9223372036854775807) :
    Calls Tryz.prog 13 #[r.V t, .bool head, .bool close] w fun e w' => e = .returned (byteV none) ∧ Gr w w' := by
  have hf' := Lib.hid hf
  have hr := Lib.hid (fun W (hg : Gr w W) => rright_big r t W (hf.gr hg) hb hlb)
  obtain ⟨p, cap, rfl, _⟩ := hf
  obtain ⟨c, fs, b⟩ := r
  unfold Rp.V at hr ⊢
  dsimp only at hr hb hlb ⊢
  clear hb
  have g0 := (Gr.alloc w (.cells #[.int .i64 c, .slice p fs.length cap, .string ⟨b.toArray⟩] 24))
  have n0 : (w.alloc (.cells #[.int .i64 c, .slice p fs.length cap, .string ⟨b.toArray⟩] 24)).cell? ⟨w.heap.size, 0, none⟩ = some (.int .i64 c) := by simp [go_sem]
  have n1 : (w.alloc (.cells #[.int .i64 c, .slice p fs.length cap, .string ⟨b.toArray⟩] 24)).cell? ⟨w.heap.size, 1, none⟩ = some (.slice p fs.length cap) := by simp [go_sem]
  have n2 : (w.alloc (.cells #[.int .i64 c, .slice p fs.length cap, .string ⟨b.toArray⟩] 24)).cell? ⟨w.heap.size, 2, none⟩ = some (.string ⟨b.toArray⟩) := by simp [go_sem]
  have g0' := Lib.hid g0
  clear g0
  go_enter Tryz.func13, Tryz.ntmps13
  go_wp2_with fail
  refine (hr.out _ g0'.out).mono ?_
  rintro e w1 ⟨rfl, hb1⟩
  have g1 := Lib.hid (g0'.out.trans hb1)
  clear hb1
  go_wp2
  go_ret2
  exact ⟨rfl, g1.out⟩
theorem rbytes_of (r : Rp) (t : Value) (head close : Bool) (w : World) (hf : FieldsAt w t r.fs) (h : Small10 r ∨ 65536 < r.b.length) (hlb : r.b.length ≤ 9223372036854775807) :
    Calls Tryz.prog 13 #[r.V t, .bool head, .bool close] w fun e w' => e = .returned (byteV (bytesR r head close)) ∧ Gr w w' := by
  rcases h with h | h
  · exact rbytes_any r t head close w hf (by have := h.1; omega) (fun f hm => by have := h.texts f hm; omega) (by have := h.2.1; omega)
  · rw [bytes_long h]; exact rbytes_big r t head close w hf h hlb
end Go.Proofs.YtfcokldbpjkjpaaGreatDoor
