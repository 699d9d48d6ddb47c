/-
  Walks over package chain: the innermost handler, and a step put around one.
-/
import Derived.Test.YtolpphmgobeocaaDoorCf
namespace Go.Proofs.YtolpphmgobeocaaDoor
open Go.RowKit Go.Shelf
attribute [local go_sem] Oper.semAt_some
theorem to_ch_of {B : Nat} {a b : World} (h : Below B a b) (T : Nat → Prop) : Ch (fun k => T k ∨ B ≤ k) a b := Ch.of_below h fun k h1 _ => .inr h1
section
variable {g : Nat} {lb : Array Value} {T F : Nat → Prop} {W0 : World} {m : Nat} {R : Nat → Rq → Rp → World → World → Prop}

/-- What a call of the innermost handler comes to; its request's fields lie in memory of their own, from block B on. -/
def HPostB (T : Nat → Prop) (m : Nat) (R : Nat → Rq → Rp → World → World → Prop) (B : Nat) (r : Rq) (W : World) (e : Ending) (W' : World) : Prop :=
  ∃ x t, e = .returned (x.V t) ∧ FieldsAt W' t x.fs ∧ x.fs.length ≤ m ∧ R B r x W W' ∧ Ch (fun k => T k ∨ B ≤ k) W W'
def HandlesB (g : Nat) (lb : Array Value) (T F : Nat → Prop) (W0 : World) (m : Nat) (R : Nat → Rq → Rp → World → World → Prop) : Prop :=
  ∀ (B : Nat) (W : World) (r : Rq) (s : Value), Agree F W0 W → OwnF B W s r.fs → B ≤ W.heap.size → (∀ k, T k → k < B) → (∀ k, F k → k < B) → RqOk r → Calls Tryd.prog g (#[r.V s] ++ lb) W (HPostB T m R B r W)
theorem HandlesB.mono {F' : Nat → Prop} {W0' : World} (h : HandlesB g lb T F W0 m R) (hF : ∀ k, F k → F' k) (ha : Agree F W0 W0') : HandlesB g lb T F' W0' m R :=
  fun B W r s hA hf hB hT hFB hr => h B W r s ⟨Nat.le_trans ha.1 hA.1, fun k hk => (hA.2 k (hF k hk)).trans (ha.2 k hk)⟩ hf hB hT (fun k hk => hFB k (hF k hk)) hr
/-- Any handler may be the innermost one. -/
theorem Handles.toB (h : Handles g lb T F W0 m R) (hR : Closed T R) : HandlesB g lb T F W0 m R := fun B W r s hA hf hB hT _ hr =>
  (h W r s hA hf.at hr).mono fun e W' ⟨x, t, he, hown, hl, hrr, hch⟩ =>
    ⟨x, t, he, hown.at, hl, hR _ _ _ _ _ _ _ _ hB hB hT (Below.refl _ _) hrr (Ch.refl _ _), hch.mono fun k hk => hk.imp id fun h => Nat.le_trans hB h⟩

theorem Closed.rs (hR : Closed T R) (s : Stp) : Closed T (Rs s R) := by
  intro B B' r x W W1 W2 W3 hB hW hT h01 hr h23
  unfold Rs at hr ⊢
  cases href : refuses s r with
  | some y =>
    rw [href] at hr
    obtain ⟨h1, h2⟩ := hr
    exact ⟨h1, (h01.trans (h2.mono hB)).trans (h23.below (Nat.le_trans hW (Nat.le_trans h01.size h2.size)) fun k hk => hk.1)⟩
  | none =>
    rw [href] at hr
    obtain ⟨y, h1, h2⟩ := hr
    exact ⟨y, hR _ _ _ _ _ _ _ _ hB hW hT h01 h1 h23, h2⟩

set_option maxHeartbeats 2000000 in
set_option maxRecDepth 100000 in
theorem h_base (hm : m ≤ 1000000) (hS : Side T F W0) (hH : HandlesB g lb T F W0 m R) (eg : ∀ args w, (callFunc g args).run Tryd.prog w = .ok (.enter g args) w) (hR : Closed T R)
    (ip : Nat) (hh : W0.cell? ⟨ip, 0, none⟩ = some (.func (.func g) #[] lb)) (hF : F ip) :
    Handles 32 #[.pointer (some ⟨ip, 0, none⟩)] T F W0 m R := by
  intro W r sv hA hf hr
  have hhc := hA.cell (p := ⟨ip, 0, none⟩) hF hh
  have hil : ip < W.heap.size := cell_lt hhc
  have hTl' := Lib.hid (show ∀ k, T k → k < W.heap.size from fun k hk => Nat.lt_of_lt_of_le (hS.told k hk) hA.1)
  have hf' := Lib.hid hf
  have hr1' := Lib.hid hr.1
  obtain ⟨p, cap, rfl, _⟩ := hf
  have hR' := Lib.hid hR
  have hcall := Lib.hid (show ∀ W1 v, Gr W W1 → W.heap.size + 2 ≤ W1.heap.size → OwnF (W.heap.size + 2) W1 v r.fs → Calls Tryd.prog g (#[r.V v] ++ lb) W1 (HPostB T m R (W.heap.size + 2) r W1) from fun W1 v h1 h2 h3 =>
    hH _ W1 r v (hA.ch (h1.to_ch (fun _ => False)) (fun _ _ h => h) hS.old) h3 h2 (fun k hk => Nat.lt_of_lt_of_le (hTl'.out k hk) (by omega)) (fun k hk => by have := hS.old k hk; have := hA.1; omega) hr)
  clear hS hH hR hA hr hh hF
  show Calls Tryd.prog 32 #[.agg #[.string ⟨r.m.toArray⟩, .string ⟨r.p.toArray⟩, .string ⟨r.q.toArray⟩, .int .i64 r.v, .slice p r.fs.length cap, .string ⟨r.b.toArray⟩, .bool r.c], .pointer (some ⟨ip, 0, none⟩)] W _
  go_enter Tryd.func32, Tryd.ntmps32
  go_wp2_with fail
  refine (clone_any _ r.fs _ (hf'.out.gr ((Gr.alloc _ _).alloc1 _)) hr1'.out).mono ?_
  rintro e W1 ⟨v, rfl, hown, hb1⟩
  obtain ⟨p1, cap1, rfl⟩ := hown.slice
  have hg1 : Gr W W1 := ((Gr.alloc W _).alloc1 _).trans hb1
  have hz1 : W.heap.size + 1 < W1.heap.size := by have := Below.size hb1; simp at this; omega
  have c0 := hg1.cell hhc
  have d0 : W1.cell? ⟨W.heap.size + 1, 0, none⟩ = some (.int .i64 0) := hb1.cell (by simp [go_sem])
  have d1 : W1.cell? ⟨W.heap.size + 1, 1, none⟩ = some (.slice none 0 0) := hb1.cell (by simp [go_sem])
  have d2 : W1.cell? ⟨W.heap.size + 1, 2, none⟩ = some (.string ⟨#[]⟩) := hb1.cell (by simp [go_sem])
  have k0 : ∀ o, W1.frozen? ⟨W.heap.size + 1, o, none⟩ = false := fun o => (Below.frozen hb1 (by simp)).trans (by simp [go_sem])
  have j0 : ∀ o, W1.frozen? ⟨W.heap.size, o, none⟩ = false := fun o => (Below.frozen hb1 (by simp; omega)).trans (by simp [go_sem])
  have q0 : W1.cell? ⟨W.heap.size, 0, none⟩ = some (.string ⟨r.m.toArray⟩) := hb1.cell (by simp [go_sem])
  have q1 : W1.cell? ⟨W.heap.size, 1, none⟩ = some (.string ⟨r.p.toArray⟩) := hb1.cell (by simp [go_sem])
  have q2 : W1.cell? ⟨W.heap.size, 2, none⟩ = some (.string ⟨r.q.toArray⟩) := hb1.cell (by simp [go_sem])
  have q3 : W1.cell? ⟨W.heap.size, 3, none⟩ = some (.int .i64 r.v) := hb1.cell (by simp [go_sem])
  have q4 : W1.cell? ⟨W.heap.size, 4, none⟩ = some (.slice p r.fs.length cap) := hb1.cell (by simp [go_sem])
  have q5 : W1.cell? ⟨W.heap.size, 5, none⟩ = some (.string ⟨r.b.toArray⟩) := hb1.cell (by simp [go_sem])
  have q6 : W1.cell? ⟨W.heap.size, 6, none⟩ = some (.bool r.c) := hb1.cell (by simp [go_sem])
  have hg1' := Lib.hid hg1
  have hown' := Lib.hid (show OwnF (W.heap.size + 2) W1 (.slice p1 r.fs.length cap1) r.fs from World.ownsRow.mono hown (by simp))
  have n2 : ¬ (W.heap.size = ip) := by omega
  clear hg1 hb1 hhc hown
  go_wp2_with fail
  refine (hcall.out _ _ (hg1'.out.setCell (Nat.le_refl _) _) (by simp; omega) (hown'.out.ch (T := fun k => k = W.heap.size) (Ch.setCell (T := fun k => k = W.heap.size) W1 (a := ⟨W.heap.size, 4, none⟩) rfl _) (fun k hk => by (try dsimp only at hk); omega))).mono ?_
  rintro e w2 ⟨x, t, rfl, hft, hl, hRR, hch⟩
  have hno : ¬ (T (W.heap.size + 1) ∨ W.heap.size + 2 ≤ W.heap.size + 1) := fun e => by
    rcases e with e | e
    · have := hTl'.out _ e; omega
    · omega
  have e0 := (hch.cell (p := ⟨W.heap.size + 1, 0, none⟩) (by simp; omega) hno).trans (cell_set_other (v := .slice p1 r.fs.length cap1) (a := ⟨W.heap.size, 4, none⟩) d0 (by (try dsimp only); omega))
  have e1 := (hch.cell (p := ⟨W.heap.size + 1, 1, none⟩) (by simp; omega) hno).trans (cell_set_other (v := .slice p1 r.fs.length cap1) (a := ⟨W.heap.size, 4, none⟩) d1 (by (try dsimp only); omega))
  have e2 := (hch.cell (p := ⟨W.heap.size + 1, 2, none⟩) (by simp; omega) hno).trans (cell_set_other (v := .slice p1 r.fs.length cap1) (a := ⟨W.heap.size, 4, none⟩) d2 (by (try dsimp only); omega))
  have l0 : ∀ o, w2.frozen? ⟨W.heap.size + 1, o, none⟩ = false := fun o => ((hch.frozen (p := ⟨W.heap.size + 1, o, none⟩) (by simp; omega) hno).trans frozen_set).trans (k0 o)
  have hz2 : W.heap.size + 1 < w2.heap.size := cell_lt (a := ⟨W.heap.size + 1, 0, none⟩) e0
  have hg2' : Below W.heap.size W (W1.setCell ⟨W.heap.size, 4, none⟩ (.slice p1 r.fs.length cap1)) := hg1'.out.setCell (Nat.le_refl _) _
  have hfin := Lib.hid (show ∀ W3 t3, Ch (fun k => W.heap.size ≤ k ∧ k < W.heap.size + 2) w2 W3 → OwnF W.heap.size W3 t3 x.fs → HPost T m R r W (.returned (x.V t3)) W3 from fun W3 t3 h3 h4 =>
    ⟨x, t3, rfl, h4, hl, hR'.out _ _ _ _ _ _ _ _ (by omega) (Nat.le_refl _) hTl'.out hg2' hRR h3,
      ((to_ch_of hg2' _).trans (hch.mono fun k hk => hk.imp id fun h => by omega)).trans (h3.mono fun k hk => .inr hk.1)⟩)
  have hft' := Lib.hid hft
  have hl' := Lib.hid (Nat.le_trans hl hm)
  obtain ⟨pt, capt, rfl, _⟩ := hft
  clear hRR hch hno d0 d1 d2 k0 j0 q0 q1 q2 q3 q4 q5 q6 c0 hz1 hg2' hl
  unfold Rp.V
  go_wp2_with fail
  refine (clone_any _ x.fs _ (hft'.out.gr (Gr.alloc _ _)) hl'.out).mono ?_
  rintro e w3 ⟨t3, rfl, hown3, hb3⟩
  obtain ⟨p3, cap3, rfl⟩ := hown3.slice
  have x0 : w3.cell? ⟨w2.heap.size, 0, none⟩ = some (.int .i64 x.code) := hb3.cell (by simp [go_sem])
  have x1 : w3.cell? ⟨w2.heap.size, 1, none⟩ = some (.slice pt x.fs.length capt) := hb3.cell (by simp [go_sem])
  have x2 : w3.cell? ⟨w2.heap.size, 2, none⟩ = some (.string ⟨x.b.toArray⟩) := hb3.cell (by simp [go_sem])
  have xf : ∀ o, w3.frozen? ⟨w2.heap.size, o, none⟩ = false := fun o => (Below.frozen hb3 (by simp)).trans (by simp [go_sem])
  have hg3 : Gr w2 w3 := (Gr.alloc _ _).trans hb3
  have y0 := hg3.cell e0
  have y1 := hg3.cell e1
  have y2 := hg3.cell e2
  have m0 : ∀ o, w3.frozen? ⟨W.heap.size + 1, o, none⟩ = false := fun o => (Below.frozen hg3 (p := ⟨W.heap.size + 1, o, none⟩) hz2).trans (l0 o)
  have hg3' := Lib.hid hg3
  have hown3' := Lib.hid (show OwnF (w2.heap.size + 1) w3 (.slice p3 x.fs.length cap3) x.fs from World.ownsRow.mono hown3 (by simp))
  have n3 : ¬ (w2.heap.size = W.heap.size + 1) := by omega
  have n4 : ¬ (W.heap.size + 1 = w2.heap.size) := by omega
  clear hg3 hb3 hown3 e0 e1 e2 l0
  go_wp2
  refine bodyPost_ret (v := Rp.V x (.slice p3 x.fs.length cap3)) (by simp [results, Tryd.results32, go_sem, Rp.V, x0, x1, x2, y0, y1, y2, n3, n4]) rfl (hfin.out _ _ ?_ ?_)
  · exact ((hg3'.out.setCell (Nat.le_refl _) _).to_ch _).trans ((Ch.set3 _ _ _ _ _).mono fun k hk => by (try dsimp only at hk); omega)
  · refine World.ownsRow.mono (base := w2.heap.size + 1) (hown3'.out.ch (T := fun k => k = w2.heap.size ∨ k = W.heap.size + 1) ((Ch.setCell _ (.inl rfl) _).trans ((Ch.set3 _ _ _ _ _).mono fun k hk => .inr hk)) fun k hk => ?_) (by omega)
    (try dsimp only at hk); omega
end
end Go.Proofs.YtolpphmgobeocaaDoor
