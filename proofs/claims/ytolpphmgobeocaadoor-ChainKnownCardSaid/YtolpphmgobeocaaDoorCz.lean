/-
  The wake of the chain's statements.
-/
import Derived.Test.YtolpphmgobeocaaDoorCy
namespace Go.Proofs.YtolpphmgobeocaaDoor
open Go.RowKit Go.Shelf
attribute [local go_sem] Oper.semAt_some

def Gb (k : Nat) : Prop := k = 0 ∨ k = 1 ∨ k = 2
theorem G.old {w : World} (h : G w) : ∀ k, Gb k → k < w.heap.size := by
  obtain ⟨⟨m, hm⟩, h1, h2⟩ := h
  intro k hk
  rcases hk with rfl | rfl | rfl
  · exact cell_lt hm
  · exact cell_lt (h1 0 (by decide))
  · exact cell_lt (h2 0 (by decide)).1
theorem G.side {w : World} (h : G w) : Side (fun _ => False) Gb w := ⟨h.old, fun _ h => h.elim, h, fun _ h => h⟩
theorem HNow.call {T : Nat → Prop} {m : Nat} {R : Nat → Rq → Rp → World → World → Prop} {l : List Stp} {bad : Nat → Prop} {A : World} {f : Value} {g : Nat} {lb : Array Value} {F : Nat → Prop} (h : HNow T m R l bad A f g lb F) {W : World} (hg : Gr A W)
    (r : Rq) (s : Value) (hf : FieldsAt W s r.fs) (hr : RqOk r) : Calls Tryd.prog g (#[r.V s] ++ lb) W (HPost T (m + l.length) (ThroughR l R) r W) :=
  h.does W r s (Agree.ch (Agree.refl F A) (hg.to_ch (fun _ => False)) (fun _ _ h => h) h.side.old) hf hr
theorem gr_of_ch {W W' : World} (h : Ch (fun k => False ∨ W.heap.size ≤ k) W W') : Gr W W' := h.below (Nat.le_refl _) fun k hk => hk.elim False.elim id
theorem fieldsAt_nil (w : World) : FieldsAt w (.slice none 0 0) [] := ⟨none, 0, rfl, fun i hi => absurd hi (Nat.not_lt_zero _)⟩

def wSteps : List Stp := [⟨1, [65], [49], 0⟩, ⟨4, [], [47, 97, 112, 105], 0⟩, ⟨1, [66], [50], 0⟩]
def wR1 : Rq := ⟨[], [47, 97, 112, 105, 47, 120], [], 0, [], [], false⟩
def wR2 : Rq := ⟨[], [47, 97, 112, 105, 120], [], 0, [], [], false⟩
theorem wOk1 : RqOk wR1 := ⟨by decide, fun f h => by cases h⟩
theorem wOk2 : RqOk wR2 := ⟨by decide, fun f h => by cases h⟩
theorem wRight : wSteps.all rightB = true := by decide +kernel
theorem wG1 : goesB wSteps wR1 = (3, ⟨[], [47, 120], [], 0, [], [], false⟩, none) := by kernel_rfl
theorem wG2 : goesB wSteps wR2 = (1, wR2, some rNone) := by kernel_rfl
theorem wX1 {B : Nat} {x : Rp} {W W' : World} (h : ThroughR wSteps RTell B wR1 x W W') : x = ⟨200, [([66], [50]), ([65], [49])], [47, 120]⟩ := by
  rcases through_spec wSteps wR1 x h with ⟨y, h1, _⟩ | ⟨_, y, h2, h3⟩
  · rw [wG1] at h1; cases h1
  · rw [wG1] at h2
    unfold RTell at h2
    rw [h3, h2]; kernel_rfl
theorem wX2 {B : Nat} {x : Rp} {W W' : World} (h : ThroughR wSteps RTell B wR2 x W W') : x = ⟨404, [([65], [49])], [110, 111, 116, 32, 102, 111, 117, 110, 100]⟩ := by
  rcases through_spec wSteps wR2 x h with ⟨y, h1, h2, _⟩ | ⟨h1, _⟩
  · rw [wG2] at h1 h2
    cases h1
    rw [h2]; kernel_rfl
  · rw [wG2] at h1; cases h1

set_option maxHeartbeats 2000000 in
set_option maxRecDepth 100000 in
theorem wakes_any (w : World) (hG : G w) : Calls Tryd.prog 10 #[] w fun e w' => e = .returned (.bool true) ∧ Gr w w' := by
  have hG' := Lib.hid hG
  clear hG
  have hnf := fun (w : World) f x c => run_eql_func_nil (P := Tryd.prog) w Tryd.underlying40 f x c
  go_enter Tryd.func10, Tryd.ntmps10
  go_wp2_with fail
  have hG1 := Lib.hid (hG'.out.gr (Gr.alloc w (.cells #[.int .i64 1, .string ⟨#[65]⟩, .string ⟨#[49]⟩, .int .i64 0, .int .i64 4, .string ⟨#[]⟩, .string ⟨#[47, 97, 112, 105]⟩, .int .i64 0, .int .i64 1, .string ⟨#[66]⟩, .string ⟨#[50]⟩, .int .i64 0] 35)))
  refine (wrap_ok (some ⟨w.heap.size, 0, none⟩) 3 wSteps 20 #[] (fun _ => False) Gb 0 RTell _ ?_ (by decide) wRight (by decide) (enters_of Tryd.func20 (by kernel_rfl) rfl) hG1.out.side (tell_b _ _) (closed_tell _) (by decide)).mono ?_
  · refine ⟨_, _, rfl, fun i hi => ?_⟩
    match i, hi with
    | 0, _ => exact ⟨_, _, rfl, by simp [go_sem, wSteps], by simp [go_sem, wSteps], by simp [go_sem, wSteps], by simp [go_sem, wSteps]⟩
    | 1, _ => exact ⟨_, _, rfl, by simp [go_sem, wSteps], by simp [go_sem, wSteps], by simp [go_sem, wSteps], by simp [go_sem, wSteps]⟩
    | 2, _ => exact ⟨_, _, rfl, by simp [go_sem, wSteps], by simp [go_sem, wSteps], by simp [go_sem, wSteps], by simp [go_sem, wSteps]⟩
  rintro e w1 ⟨f, g, lb, F, rfl, hnow, hb1⟩
  obtain rfl := hnow.f
  have eg := hnow.enters
  have hnow' := Lib.hid hnow
  have hg1 := Lib.hid ((Gr.alloc _ _).trans hb1)
  clear hnow hb1
  go_wp2_with fail
  refine (hnow'.out.call (Gr.refl _) wR1 _ (fieldsAt_nil _) wOk1).mono ?_
  rintro e w2 ⟨x, t, rfl, hown, _, hR, hch⟩
  obtain rfl := wX1 hR
  obtain ⟨p2, cap2, rfl⟩ := hown.slice
  have hg2 := Lib.hid (gr_of_ch hch)
  have hown' := Lib.hid hown.at
  clear hown hR hch
  unfold Rp.V
  go_wp2_with fail
  refine (hnow'.out.call (hg2.out.alloc1 _) wR2 _ (fieldsAt_nil _) wOk2).mono ?_
  rintro e w3 ⟨y, t, rfl, hown2, _, hR, hch⟩
  obtain rfl := wX2 hR
  obtain ⟨p3, cap3, rfl⟩ := hown2.slice
  have hg3 : Gr _ w3 := gr_of_ch hch
  have c0 : w3.cell? ⟨w2.heap.size, 0, none⟩ = some (.int .i64 200) := hg3.cell (by simp [go_sem])
  have c1 : w3.cell? ⟨w2.heap.size, 1, none⟩ = some (.slice p2 2 cap2) := hg3.cell (by simp [go_sem])
  have c2 : w3.cell? ⟨w2.heap.size, 2, none⟩ = some (.string ⟨#[47, 120]⟩) := hg3.cell (by simp [go_sem])
  have hz : w2.heap.size < w3.heap.size := by have := Below.size hg3; simp at this; omega
  have ha1 := Lib.hid (hown'.out.gr ((Gr.alloc _ _).trans hg3))
  have hg3' := Lib.hid ((((hg1.out.trans hg2.out).alloc1 _).trans hg3))
  have hown2' := Lib.hid hown2.at
  clear hown2 hR hch hg3
  unfold Rp.V
  go_wp2_with fail
  refine (samef_any _ _ [([66], [50]), ([65], [49])] [([66], [50]), ([65], [49])] _ (ha1.out.gr ((Gr.alloc _ _).alloc1 _)) ⟨_, _, rfl, fun i hi => ?_⟩ (by decide) (by decide)).mono ?_
  · match i, hi with
    | 0, _ => exact ⟨_, _, rfl, by simp [go_sem], by simp [go_sem]⟩
    | 1, _ => exact ⟨_, _, rfl, by simp [go_sem], by simp [go_sem]⟩
  rintro e w4 ⟨rfl, hb4⟩
  have d0 : w4.cell? ⟨w3.heap.size, 0, none⟩ = some (.int .i64 404) := hb4.cell (by simp [go_sem])
  have d1 : w4.cell? ⟨w3.heap.size, 1, none⟩ = some (.slice p3 1 cap3) := hb4.cell (by simp [go_sem])
  have d2 : w4.cell? ⟨w3.heap.size, 2, none⟩ = some (.string ⟨#[110, 111, 116, 32, 102, 111, 117, 110, 100]⟩) := hb4.cell (by simp [go_sem])
  have hz2 : w3.heap.size < w4.heap.size := by have := Below.size hb4; simp at this; omega
  have ha2 := Lib.hid (hown2'.out.gr (((Gr.alloc _ _).alloc1 _).trans hb4))
  have hg4 := Lib.hid (((hg3'.out.alloc1 _).alloc1 _).trans hb4)
  clear hb4
  rw [show (([([66], [50]), ([65], [49])] : List Fl) == [([66], [50]), ([65], [49])]) = true from by decide +kernel]
  go_wp2_with fail
  refine (samef_any _ _ [([65], [49])] [([65], [49])] _ (ha2.out.gr (Gr.alloc _ _)) ⟨_, _, rfl, fun i hi => ?_⟩ (by decide) (by decide)).mono ?_
  · match i, hi with
    | 0, _ => exact ⟨_, _, rfl, by simp [go_sem], by simp [go_sem]⟩
  rintro e w5 ⟨rfl, hb5⟩
  have hg5 := Lib.hid ((hg4.out.alloc1 _).trans hb5)
  clear hb5
  rw [show (([([65], [49])] : List Fl) == [([65], [49])]) = true from by decide +kernel]
  go_wp2
  go_ret
  exact ⟨rfl, hg5.out⟩
end Go.Proofs.YtolpphmgobeocaaDoor
