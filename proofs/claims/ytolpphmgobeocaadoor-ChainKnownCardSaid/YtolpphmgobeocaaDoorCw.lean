/-
  Walks over package chain: Wrap.
-/
import Derived.Test.YtolpphmgobeocaaDoorCg
namespace Go.Proofs.YtolpphmgobeocaaDoor
open Go.RowKit Go.Shelf
attribute [local go_sem] Oper.semAt_some

/-- What around gives: the function and what it holds. -/
def arF (k : Int) : Nat := if k = 1 then 51 else if k = 2 then 53 else if k = 3 then 56 else if k = 4 then 57 else 59
def arB (k : Int) (sp hp : Nat) : Array Value := if k = 1 then #[.pointer (some ⟨hp, 0, none⟩), .pointer (some ⟨sp, 0, none⟩)] else #[.pointer (some ⟨sp, 0, none⟩), .pointer (some ⟨hp, 0, none⟩)]
def arW (s : Stp) (f : Value) (w : World) : World := (w.alloc (.cells #[.int .i64 s.kind, .string ⟨s.name.toArray⟩, .string ⟨s.value.toArray⟩, .int .i64 s.n] 35)).alloc (.cells #[f] 40)

set_option maxHeartbeats 1000000 in
theorem around_any (s : Stp) (g : Nat) (lb : Array Value) (w : World) (hk : s.kind = 1 ∨ s.kind = 2 ∨ s.kind = 3 ∨ s.kind = 4 ∨ s.kind = 5) :
    Calls Tryd.prog 35 #[s.V, .func (.func g) #[] lb] w fun e w' => e = .returned (.func (.func (arF s.kind)) #[] (arB s.kind w.heap.size (w.heap.size + 1))) ∧ arW s (.func (.func g) #[] lb) w = w' := by
  obtain ⟨k, name, value, n⟩ := s
  dsimp only at hk
  unfold Stp.V arW
  dsimp only
  rcases hk with rfl | rfl | rfl | rfl | rfl
  all_goals
    go_enter Tryd.func35, Tryd.ntmps35
    go_wp2
    go_ret
    exact ⟨rfl, rfl⟩

theorem right_kind {s : Stp} (h : rightB s = true) : s.kind = 1 ∨ s.kind = 2 ∨ s.kind = 3 ∨ s.kind = 4 ∨ s.kind = 5 := by
  unfold rightB at h
  by_cases h1 : s.kind = 1; · exact .inl h1
  by_cases h2 : s.kind = 2; · exact .inr (.inl h2)
  by_cases h3 : s.kind = 3; · exact .inr (.inr (.inl h3))
  by_cases h4 : s.kind = 4; · exact .inr (.inr (.inr (.inl h4)))
  by_cases h5 : s.kind = 5; · exact .inr (.inr (.inr (.inr h5)))
  rw [if_neg h1, if_neg h2, if_neg h3, if_neg h4, if_neg h5] at h
  cases h

theorem enters_ar (k : Int) : ∀ args w, (callFunc (arF k) args).run Tryd.prog w = .ok (.enter (arF k) args) w := by
  unfold arF
  split
  · exact enters_of Tryd.func51 (by kernel_rfl) rfl
  split
  · exact enters_of Tryd.func53 (by kernel_rfl) rfl
  split
  · exact enters_of Tryd.func56 (by kernel_rfl) rfl
  split
  · exact enters_of Tryd.func57 (by kernel_rfl) rfl
  · exact enters_of Tryd.func59 (by kernel_rfl) rfl

/-- Steps around a handler, as a relation. -/
def ThroughR : List Stp → (Nat → Rq → Rp → World → World → Prop) → Nat → Rq → Rp → World → World → Prop
  | [], R => R
  | s :: l, R => Rs s (ThroughR l R)
theorem Closed.through {T : Nat → Prop} {R : Nat → Rq → Rp → World → World → Prop} (hR : Closed T R) : ∀ l, Closed T (ThroughR l R)
  | [] => hR
  | s :: l => (Closed.through hR l).rs s
theorem through_spec {R : Nat → Rq → Rp → World → World → Prop} {B : Nat} {W W' : World} : ∀ (l : List Stp) (r : Rq) (x : Rp), ThroughR l R B r x W W' →
    (∃ y, (goesB l r).2.2 = some y ∧ x = y.more (backB (l.take (goesB l r).1) r.fs) ∧ Below B W W') ∨
    ((goesB l r).2.2 = none ∧ ∃ y, R B (goesB l r).2.1 y W W' ∧ x = y.more (backB l r.fs))
  | [], r, x, h => .inr ⟨rfl, x, h, by rw [backB_nil]; exact (more_nil x).symm⟩
  | s :: l, r, x, h => by
    unfold ThroughR Rs at h
    unfold goesB
    cases href : refuses s r with
    | some y =>
      rw [href] at h
      exact .inl ⟨y, rfl, by rw [h.1]; exact (more_nil y).symm, h.2⟩
    | none =>
      rw [href] at h
      obtain ⟨y, hy, hx⟩ := h
      dsimp only
      have hap : ∀ (z : Rp) (a b : List Fl), (z.more a).more b = z.more (a ++ b) := fun z a b => by simp [Rp.more]
      rcases through_spec l (turns s r) y hy with ⟨z, h1, h2, h3⟩ | ⟨h1, z, h2, h3⟩
      · exact .inl ⟨z, h1, by rw [hx, h2, hap, List.take_succ_cons, backB_cons, turns_fs], h3⟩
      · exact .inr ⟨h1, z, h2, by rw [hx, h3, hap, backB_cons, turns_fs]⟩

section
variable {T : Nat → Prop} {R : Nat → Rq → Rp → World → World → Prop}
/-- A function value that is a handler of these steps around R, in this world. -/
structure HNow (T : Nat → Prop) (m : Nat) (R : Nat → Rq → Rp → World → World → Prop) (l : List Stp) (bad : Nat → Prop) (A : World) (f : Value) (g : Nat) (lb : Array Value) (F : Nat → Prop) : Prop where
  f : f = .func (.func g) #[] lb
  enters : ∀ args w, (callFunc g args).run Tryd.prog w = .ok (.enter g args) w
  side : Side T F A
  good : ∀ k, F k → ¬ bad k
  does : Handles g lb T F A (m + l.length) (ThroughR l R)
theorem Side.ch {F U : Nat → Prop} {A B : World} (h : Side T F A) (hc : Ch U A B) (hU : ∀ k, F k → ¬ U k) : Side T F B :=
  ⟨fun k hk => Nat.lt_of_lt_of_le (h.old k hk) hc.size, fun k hk => Nat.lt_of_lt_of_le (h.told k hk) hc.size, h.G (Agree.ch (Agree.refl F A) hc hU h.old), h.gF⟩
theorem HNow.ch {m : Nat} {l : List Stp} {bad U : Nat → Prop} {A B : World} {f : Value} {g : Nat} {lb : Array Value} {F : Nat → Prop} (h : HNow T m R l bad A f g lb F) (hc : Ch U A B) (hU : ∀ k, U k → bad k) : HNow T m R l bad B f g lb F :=
  have hn : ∀ k, F k → ¬ U k := fun k hk hu => h.good k hk (hU k hu)
  ⟨h.f, h.enters, h.side.ch hc hn, h.good, h.does.mono (fun _ h => h) (Agree.ch (Agree.refl F A) hc hn h.side.old)⟩

/-- One step more. -/
theorem HNow.step {m : Nat} {l : List Stp} {bad : Nat → Prop} {A : World} {f : Value} {g : Nat} {lb : Array Value} {F : Nat → Prop} (h : HNow T m R l bad A f g lb F) (s : Stp) (hs : rightB s = true) (hn : s.name.length ≤ 1000) (hm : m + l.length ≤ 1000000) (hR : Closed T R)
    (hb : ∀ k, bad k → k < A.heap.size) :
    HNow T m R (s :: l) bad (arW s f A) (.func (.func (arF s.kind)) #[] (arB s.kind A.heap.size (A.heap.size + 1))) (arF s.kind) (arB s.kind A.heap.size (A.heap.size + 1)) (fun k => F k ∨ k = A.heap.size ∨ k = A.heap.size + 1) := by
  obtain ⟨rfl, he, hS, hg, hH⟩ := h
  have hG : Gr A (arW s (.func (.func g) #[] lb) A) := (Gr.alloc _ _).alloc1 _
  have hsz : (arW s (.func (.func g) #[] lb) A).heap.size = A.heap.size + 2 := by simp [arW]
  have hag : Agree F A (arW s (.func (.func g) #[] lb) A) := Agree.ch (Agree.refl F A) (hG.to_ch (fun _ => False)) (fun _ _ h => h) hS.old
  have hS' : Side T (fun k => F k ∨ k = A.heap.size ∨ k = A.heap.size + 1) (arW s (.func (.func g) #[] lb) A) := by
    refine ⟨fun k hk => ?_, fun k hk => ?_, hS.G hag, fun k hk => .inl (hS.gF k hk)⟩
    · rw [hsz]
      rcases hk with hk | hk | hk
      · have := hS.old k hk; omega
      · omega
      · omega
    · have := hS.told k hk; rw [hsz]; omega
  have hH' := hH.mono (F' := fun k => F k ∨ k = A.heap.size ∨ k = A.heap.size + 1) (fun k hk => .inl hk) hag
  have hst : StepCell (arW s (.func (.func g) #[] lb) A) A.heap.size s := by
    unfold StepCell arW
    refine ⟨?_, ?_, ?_, ?_⟩ <;> simp [go_sem]
  have hhc : (arW s (.func (.func g) #[] lb) A).cell? ⟨A.heap.size + 1, 0, none⟩ = some (.func (.func g) #[] lb) := by
    unfold arW; simp [go_sem]
  have hRl := hR.through l
  refine ⟨rfl, enters_ar _, hS', fun k hk hbk => ?_, ?_⟩
  · have := hb k hbk
    rcases hk with hk | hk | hk
    · exact hg k hk hbk
    · omega
    · omega
  · rw [List.length_cons, ← Nat.add_assoc]
    unfold ThroughR
    have hFF : (F A.heap.size ∨ A.heap.size = A.heap.size ∨ A.heap.size = A.heap.size + 1) ∧ (F (A.heap.size + 1) ∨ A.heap.size + 1 = A.heap.size ∨ A.heap.size + 1 = A.heap.size + 1) := ⟨.inr (.inl rfl), .inr (.inr rfl)⟩
    have hNN : ¬ T A.heap.size ∧ ¬ T (A.heap.size + 1) := ⟨fun ht => by have := hS.told _ ht; omega, fun ht => by have := hS.told _ ht; omega⟩
    rcases right_kind hs with hk | hk | hk | hk | hk
    · have := h_add s hk hm hS' hH' he hRl _ _ hst hhc hFF hNN
      unfold arF arB; rw [hk]; exact this
    · have := h_need s hk hn hS' hH' he hRl _ _ hst hhc hFF hNN
      unfold arF arB; rw [hk]; exact this
    · have := h_limit s hk hS' hH' he hRl _ _ hst hhc hFF hNN
      unfold arF arB; rw [hk]; exact this
    · have := h_take s hk hS' hH' he hRl _ _ hst hhc hFF hNN
      unfold arF arB; rw [hk]; exact this
    · have := h_who s hk hn hm hS' hH' he hRl _ _ hst hhc hFF hNN
      unfold arF arB; rw [hk]; exact this
end
end Go.Proofs.YtolpphmgobeocaaDoor
