/-
  Replies: whether two are the same.
-/
import Derived.Test.YtfcokldbpjkjpaaGreatDoorG
import Derived.Test.YtfcokldbpjkjpaaGreatDoorVr
import Derived.Test.YtfcokldbpjkjpaaGreatDoorVa
import Derived.BigQuiet
namespace Go.Proofs.YtfcokldbpjkjpaaGreatDoor
open Go.RowKit
attribute [local go_sem] Oper.semAt_some

def sameB (x y : Rp) : Bool := (x.code == y.code) && ((x.b == y.b) && (x.fs == y.fs))
theorem sameB_refl (x : Rp) : sameB x x = true := by simp [sameB]
theorem take_succ_eq {α : Type} {a b : List α} {k : Nat} (h : a.take k = b.take k) (ha : k < a.length) (hb : k < b.length) (e : a[k] = b[k]) : a.take (k + 1) = b.take (k + 1) := by
  rw [List.take_succ_eq_append_getElem ha, List.take_succ_eq_append_getElem hb, h, e]
theorem ne_at {a b : List Fl} {k : Nat} (ha : k < a.length) (hb : k < b.length) (e : a[k] ≠ b[k]) : (a == b) = false := by
  rw [beq_eq_false_iff_ne]; intro h; subst h; exact e rfl
set_option maxHeartbeats 8000000 in
set_option maxRecDepth 20000 in
theorem same_any (x y : Rp) (s t : Value) (w : World) (hx : FieldsAt w s x.fs) (hy : FieldsAt w t y.fs) (hlx : x.fs.length ≤ 9223372036854775807) (hly : y.fs.length ≤ 9223372036854775807) :
    Calls Tryz.prog 20 #[x.V s, y.V t] w fun e w' => e = .returned (.bool (sameB x y)) ∧ Gr w w' := by
  obtain ⟨p, cap, rfl, hc⟩ := hx
  obtain ⟨q, cap2, rfl, hd⟩ := hy
  have hc' := Lib.hid hc
  have hd' := Lib.hid hd
  clear hc hd
  obtain ⟨cx, xs, bx⟩ := x
  obtain ⟨cy, ys, by'⟩ := y
  unfold Rp.V
  dsimp only at hc' hd' hlx hly ⊢
  have n1 : ((w.alloc (.cells #[.int .i64 cx, .slice p xs.length cap, .string ⟨bx.toArray⟩] 24)).alloc (.cells #[.int .i64 cy, .slice q ys.length cap2, .string ⟨by'.toArray⟩] 24)).cell? ⟨w.heap.size, 1, none⟩ = some (.slice p xs.length cap) := by simp [go_sem]
  have n0 : ((w.alloc (.cells #[.int .i64 cx, .slice p xs.length cap, .string ⟨bx.toArray⟩] 24)).alloc (.cells #[.int .i64 cy, .slice q ys.length cap2, .string ⟨by'.toArray⟩] 24)).cell? ⟨w.heap.size, 0, none⟩ = some (.int .i64 cx) := by simp [go_sem]
  have n2 : ((w.alloc (.cells #[.int .i64 cx, .slice p xs.length cap, .string ⟨bx.toArray⟩] 24)).alloc (.cells #[.int .i64 cy, .slice q ys.length cap2, .string ⟨by'.toArray⟩] 24)).cell? ⟨w.heap.size, 2, none⟩ = some (.string ⟨bx.toArray⟩) := by simp [go_sem]
  have m0 : ((w.alloc (.cells #[.int .i64 cx, .slice p xs.length cap, .string ⟨bx.toArray⟩] 24)).alloc (.cells #[.int .i64 cy, .slice q ys.length cap2, .string ⟨by'.toArray⟩] 24)).cell? ⟨w.heap.size + 1, 0, none⟩ = some (.int .i64 cy) := by simp [go_sem]
  have m1 : ((w.alloc (.cells #[.int .i64 cx, .slice p xs.length cap, .string ⟨bx.toArray⟩] 24)).alloc (.cells #[.int .i64 cy, .slice q ys.length cap2, .string ⟨by'.toArray⟩] 24)).cell? ⟨w.heap.size + 1, 1, none⟩ = some (.slice q ys.length cap2) := by simp [go_sem]
  have m2 : ((w.alloc (.cells #[.int .i64 cx, .slice p xs.length cap, .string ⟨bx.toArray⟩] 24)).alloc (.cells #[.int .i64 cy, .slice q ys.length cap2, .string ⟨by'.toArray⟩] 24)).cell? ⟨w.heap.size + 1, 2, none⟩ = some (.string ⟨by'.toArray⟩) := by simp [go_sem]
  by_cases hne : xs.length = ys.length
  · have hlen : ((xs.length : Int) != ys.length) = false := by simp [hne]
    have hne' := Lib.hid hne
    clear hne
    go_enter Tryz.func20, Tryz.ntmps20
    go_wp2
    have g0 := Lib.hid (((Gr.alloc w (.cells #[.int .i64 cx, .slice p xs.length cap, .string ⟨bx.toArray⟩] 24)).alloc1 (.cells #[.int .i64 cy, .slice q ys.length cap2, .string ⟨by'.toArray⟩] 24)))
    generalize ((w.alloc (.cells #[.int .i64 cx, .slice p xs.length cap, .string ⟨bx.toArray⟩] 24)).alloc (.cells #[.int .i64 cy, .slice q ys.length cap2, .string ⟨by'.toArray⟩] 24)) = w1 at g0 n0 n1 n2 m0 m1 m2 ⊢
    go_loopw [5] (fun i wr => (∃ k : Nat, k ≤ xs.length ∧ i = .int .i64 k ∧ xs.take k = ys.take k) ∧ Gr w1 wr) (fun i _ => xs.length - (intOf i).toNat)
    case atStart => exact ⟨⟨0, Nat.zero_le _, rfl, rfl⟩, Gr.refl _⟩
    case round =>
      obtain ⟨⟨k, hk, rfl, hall⟩, hg⟩ := hrel
      have hall' := Lib.hid hall
      clear hall
      replace n0 := hg.cell n0
      replace n1 := hg.cell n1
      replace n2 := hg.cell n2
      replace m0 := hg.cell m0
      replace m1 := hg.cell m1
      replace m2 := hg.cell m2
      by_cases hlt : k < xs.length
      · have hlt2 : k < ys.length := by have := hne'.out; omega
        obtain ⟨b, off, rfl, h1, h2⟩ := hc'.out k hlt
        obtain ⟨b2, off2, rfl, h3, h4⟩ := hd'.out k hlt2
        have c1 := (g0.out.trans hg).cell h1
        have c2 := (g0.out.trans hg).cell h2
        have c3 := (g0.out.trans hg).cell h3
        have c4 := (g0.out.trans hg).cell h4
        clear h1 h2 h3 h4
        obtain ⟨⟨x1, x2⟩, hx⟩ : ∃ x, xs[k] = x := ⟨_, rfl⟩
        obtain ⟨⟨y1, y2⟩, hy⟩ : ∃ x, ys[k] = x := ⟨_, rfl⟩
        rw [hx] at c1 c2
        rw [hy] at c3 c4
        dsimp only at c1 c2 c3 c4
        have hx' := Lib.hid hx
        have hy' := Lib.hid hy
        have hkI : (0 : Int) ≤ k := by omega
        have hkA : (k : Int) < xs.length := by omega
        have hkB : (k : Int) < ys.length := by omega
        clear hx hy
        by_cases h1 : x1 = y1
        · subst h1
          by_cases h2 : x2 = y2
          · subst h2
            go_wp2
            go_quiet (fail)
            go_wp2
            go_roundw
            case rel => exact ⟨⟨k + 1, by omega, by go_num, take_succ_eq hall'.out hlt hlt2 (by rw [hx'.out, hy'.out])⟩, hg.trans (below_drewNm _ _)⟩
            case measure => simp [intOf]; omega
          · have hne2 := Lib.hid h2
            go_wp2
            go_quiet (fail)
            go_wp2
            go_ret
            exact ⟨ret_bool (show false = _ by unfold sameB; dsimp only; rw [ne_at hlt hlt2 (by rw [hx'.out, hy'.out]; intro e; exact hne2.out (Prod.mk.inj e).2)]; simp), g0.out.trans (hg.trans (below_drewNm _ _))⟩
        · have hne1 := Lib.hid h1
          go_wp2
          go_quiet (fail)
          go_wp2
          go_ret
          exact ⟨ret_bool (show false = _ by unfold sameB; dsimp only; rw [ne_at hlt hlt2 (by rw [hx'.out, hy'.out]; intro e; exact hne1.out (Prod.mk.inj e).1)]; simp), g0.out.trans (hg.trans (below_drewNm _ _))⟩
      · have heq : xs = ys := by
          have h := hall'.out
          rw [List.take_of_length_le (by omega), List.take_of_length_le (by have := hne'.out; omega)] at h
          exact h
        have heq' := Lib.hid heq
        clear heq
        by_cases h1 : cx = cy
        · subst h1
          by_cases h2 : bx = by'
          · subst h2
            go_wp2
            go_ret
            exact ⟨ret_bool (by unfold sameB; simp [heq'.out]), g0.out.trans hg⟩
          · have h2' := Lib.hid h2
            go_wp2
            go_ret
            exact ⟨ret_bool (by unfold sameB; simp [h2'.out]), g0.out.trans hg⟩
        · have h1b : (cx == cy) = false := beq_eq_false_iff_ne.2 h1
          have h1' := Lib.hid h1
          clear h1
          go_wp2
          go_ret
          exact ⟨ret_bool (by unfold sameB; simp [h1'.out]), g0.out.trans hg⟩
  · have hlen : ((xs.length : Int) != ys.length) = true := by rw [bne_iff_ne]; omega
    go_enter Tryz.func20, Tryz.ntmps20
    go_wp2
    go_ret
    exact ⟨ret_bool (show false = _ by unfold sameB; dsimp only; rw [show (xs == ys) = false from beq_eq_false_iff_ne.2 (fun e => hne (by rw [e]))]; simp), (Gr.alloc _ _).alloc1 _⟩
end Go.Proofs.YtfcokldbpjkjpaaGreatDoor
