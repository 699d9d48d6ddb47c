/-
  Walks over package chain: the steps that add a field.
-/
import Derived.Test.YtolpphmgobeocaaDoorCe
namespace Go.Proofs.YtolpphmgobeocaaDoor
open Go.RowKit Go.Shelf
attribute [local go_sem] Oper.semAt_some
section
variable {g : Nat} {lb : Array Value} {T F : Nat → Prop} {W0 : World} {m : Nat} {R : Nat → Rq → Rp → World → World → Prop}

theorem more_len (x : Rp) (f : Fl) : (x.more [f]).fs.length = x.fs.length + 1 := by simp [Rp.more]
theorem HPost.added {r : Rq} {s : Stp} {W W1 w2 w3 : World} {x : Rp} {p : Option Addr} {n cap : Nat} {l : List Fl} (hT : ∀ k, T k → k < W.heap.size) (h1 : Gr W W1) (h2 : W.heap.size + 1 < W1.heap.size) (hl : x.fs.length ≤ m)
    (hr : R W1.heap.size (turns s r) x W1 w2) (hch : Ch (fun k => T k ∨ W1.heap.size ≤ k) W1 w2) (hown : OwnF w2.heap.size w3 (.slice p n cap) (x.more l).fs) (hg : Gr w2 w3) (href : refuses s r = none) (hadds : adds s r.fs = l) (hR : Closed T R) :
    HPost T (m + 1) (Rs s R) r W (.returned ((x.more l).V (.slice p n cap))) (((w3.setCell ⟨W.heap.size + 1, 0, none⟩ (.int .i64 x.code)).setCell ⟨W.heap.size + 1, 1, none⟩ (.slice p n cap)).setCell ⟨W.heap.size + 1, 2, none⟩ (.string ⟨x.b.toArray⟩)) := by
  have h3 := Ch.set3 w3 (W.heap.size + 1) (.int .i64 x.code) (.slice p n cap) (.string ⟨x.b.toArray⟩)
  have hs := hch.size
  subst hadds
  refine HPost.done hT h1 hl hr hch ((hg.to_ch _).trans (h3.mono fun k hk => by (try dsimp only at hk); omega)) href ?_ hR
  exact World.ownsRow.mono (base := w2.heap.size) (hown.ch h3 fun k hk => by (try dsimp only at hk); omega) (by omega)

set_option maxHeartbeats 1000000 in
set_option maxRecDepth 100000 in
theorem h_add (s : Stp) (hk : s.kind = 1) (hm : m ≤ 1000000) (hS : Side T F W0) (hH : Handles g lb T F W0 m R) (eg : ∀ args w, (callFunc g args).run Tryd.prog w = .ok (.enter g args) w) (hR : Closed T R)
    (sp hp : Nat) (hs : StepCell W0 sp s) (hh : W0.cell? ⟨hp, 0, none⟩ = some (.func (.func g) #[] lb)) (hF : F sp ∧ F hp) (hN : ¬ T sp ∧ ¬ T hp) :
    Handles 51 #[.pointer (some ⟨hp, 0, none⟩), .pointer (some ⟨sp, 0, none⟩)] T F W0 (m + 1) (Rs s R) := by
  intro W r sv hA hf hr
  obtain ⟨⟨_, hnm, hvl, _⟩, hhc, hTl, hsl, hpl, nT1, nT2⟩ := h_begin hS hA hs hh hF hN
  have hcall := Lib.hid (fun W1 h1 => hH.grown hS (W1 := W1) hA h1 hf hr)
  obtain ⟨p, cap, rfl, _⟩ := hf
  have hTl' := Lib.hid hTl
  have hR' := Lib.hid hR
  have href' := Lib.hid (show refuses s r = none by unfold refuses; rw [if_neg (by rw [hk]; decide), if_neg (by rw [hk]; decide), if_neg (by rw [hk]; decide)])
  have hturn' := Lib.hid (show turns s r = r by unfold turns; rw [if_neg (by rw [hk]; decide)])
  have hadds' := Lib.hid (show adds s r.fs = [(s.name, s.value)] by unfold adds; rw [if_pos hk])
  clear hS hH hR hA hr hs hh hF hk hTl
  show Calls Tryd.prog 51 #[.agg #[.string ⟨r.m.toArray⟩, .string ⟨r.p.toArray⟩, .string ⟨r.q.toArray⟩, .int .i64 r.v, .slice p r.fs.length cap, .string ⟨r.b.toArray⟩, .bool r.c], .pointer (some ⟨hp, 0, none⟩), .pointer (some ⟨sp, 0, none⟩)] W _
  go_enter Tryd.func51, Tryd.ntmps51
  go_wp2
  obtain ⟨W1, hW1⟩ : ∃ W1, (W.alloc (.cells #[.string ⟨r.m.toArray⟩, .string ⟨r.p.toArray⟩, .string ⟨r.q.toArray⟩, .int .i64 r.v, .slice p r.fs.length cap, .string ⟨r.b.toArray⟩, .bool r.c] 25)).alloc (.cells #[.int .i64 0, .slice none 0 0, .string ⟨#[]⟩] 27) = W1 := ⟨_, rfl⟩
  rw [hW1]
  have hg1 : Gr W W1 := by rw [← hW1]; exact (Gr.alloc _ _).alloc1 _
  have hz1 : W.heap.size + 1 < W1.heap.size := by rw [← hW1]; simp
  have c0 := hg1.cell hhc
  have c1 := hg1.cell hnm
  have c2 := hg1.cell hvl
  have d0 : W1.cell? ⟨W.heap.size + 1, 0, none⟩ = some (.int .i64 0) := by rw [← hW1]; simp [go_sem]
  have d1 : W1.cell? ⟨W.heap.size + 1, 1, none⟩ = some (.slice none 0 0) := by rw [← hW1]; simp [go_sem]
  have d2 : W1.cell? ⟨W.heap.size + 1, 2, none⟩ = some (.string ⟨#[]⟩) := by rw [← hW1]; simp [go_sem]
  have k0 : ∀ o, W1.frozen? ⟨W.heap.size + 1, o, none⟩ = false := fun o => by rw [← hW1]; simp [go_sem]
  have q0 : W1.cell? ⟨W.heap.size, 0, none⟩ = some (.string ⟨r.m.toArray⟩) := by rw [← hW1]; simp [go_sem]
  have q1 : W1.cell? ⟨W.heap.size, 1, none⟩ = some (.string ⟨r.p.toArray⟩) := by rw [← hW1]; simp [go_sem]
  have q2 : W1.cell? ⟨W.heap.size, 2, none⟩ = some (.string ⟨r.q.toArray⟩) := by rw [← hW1]; simp [go_sem]
  have q3 : W1.cell? ⟨W.heap.size, 3, none⟩ = some (.int .i64 r.v) := by rw [← hW1]; simp [go_sem]
  have q4 : W1.cell? ⟨W.heap.size, 4, none⟩ = some (.slice p r.fs.length cap) := by rw [← hW1]; simp [go_sem]
  have q5 : W1.cell? ⟨W.heap.size, 5, none⟩ = some (.string ⟨r.b.toArray⟩) := by rw [← hW1]; simp [go_sem]
  have q6 : W1.cell? ⟨W.heap.size, 6, none⟩ = some (.bool r.c) := by rw [← hW1]; simp [go_sem]
  have hg1' := Lib.hid hg1
  clear hg1 hW1 hhc hnm hvl
  have n1 : ¬ (W.heap.size + 1 = sp) := by omega
  have n2 : ¬ (W.heap.size + 1 = hp) := by omega
  go_region_held3 (fun w' => w'.cell? ⟨hp, 0, none⟩ = some (.func (.func g) #[] lb) ∧ w'.cell? ⟨sp, 1, none⟩ = some (.string ⟨s.name.toArray⟩) ∧ w'.cell? ⟨sp, 2, none⟩ = some (.string ⟨s.value.toArray⟩) ∧
      w'.cell? ⟨W.heap.size, 0, none⟩ = some (.string ⟨r.m.toArray⟩) ∧ w'.cell? ⟨W.heap.size, 1, none⟩ = some (.string ⟨r.p.toArray⟩) ∧ w'.cell? ⟨W.heap.size, 2, none⟩ = some (.string ⟨r.q.toArray⟩) ∧ w'.cell? ⟨W.heap.size, 3, none⟩ = some (.int .i64 r.v) ∧ w'.cell? ⟨W.heap.size, 4, none⟩ = some (.slice p r.fs.length cap) ∧ w'.cell? ⟨W.heap.size, 5, none⟩ = some (.string ⟨r.b.toArray⟩) ∧ w'.cell? ⟨W.heap.size, 6, none⟩ = some (.bool r.c)) (go_keep)
    (first
      | (refine (hcall.out _ (Gr.drew hg1'.out) r rfl).mono ?_
         rintro e w2 ⟨x, t, rfl, hown, hl, hRR, hch⟩
         obtain ⟨p2, cap2, rfl⟩ := hown.slice
         have hch0 : Ch (fun k => T k ∨ W1.heap.size ≤ k) W1 w2 := (Ch.drew _ _).trans hch
         have old : ∀ {k o u}, k < W.heap.size → ¬ T k → W1.cell? ⟨k, o, none⟩ = some u → w2.cell? ⟨k, o, none⟩ = some u := fun {k o u} h1 h2 h => (hch0.cell (p := ⟨k, o, none⟩) (cell_lt h) (fun e => by rcases e with e | e; exact h2 e; (try dsimp only at e); omega)).trans h
         have c0 := old hpl nT2 c0
         have c1 := old hsl nT1 c1
         have c2 := old hsl nT1 c2
         have d0 := frame_cell hTl'.out hch0 _ (Nat.le_succ _) hz1 d0
         have d1 := frame_cell hTl'.out hch0 _ (Nat.le_succ _) hz1 d1
         have d2 := frame_cell hTl'.out hch0 _ (Nat.le_succ _) hz1 d2
         have q0 := frame_cell hTl'.out hch0 _ (Nat.le_refl _) (Nat.lt_of_succ_lt hz1) q0
         have q1 := frame_cell hTl'.out hch0 _ (Nat.le_refl _) (Nat.lt_of_succ_lt hz1) q1
         have q2 := frame_cell hTl'.out hch0 _ (Nat.le_refl _) (Nat.lt_of_succ_lt hz1) q2
         have q3 := frame_cell hTl'.out hch0 _ (Nat.le_refl _) (Nat.lt_of_succ_lt hz1) q3
         have q4 := frame_cell hTl'.out hch0 _ (Nat.le_refl _) (Nat.lt_of_succ_lt hz1) q4
         have q5 := frame_cell hTl'.out hch0 _ (Nat.le_refl _) (Nat.lt_of_succ_lt hz1) q5
         have q6 := frame_cell hTl'.out hch0 _ (Nat.le_refl _) (Nat.lt_of_succ_lt hz1) q6
         have k0 := frame_frozen hTl'.out hch0 _ (Nat.le_succ _) hz1 k0
         have hown' := Lib.hid hown
         have hl' := Lib.hid (Nat.le_trans hl hm)
         have hl2' := Lib.hid hl
         have hRR' := Lib.hid hRR
         have hch' := Lib.hid hch
         clear hown hl hRR hch hch0 old)
      | (go_at_call 52
         refine (adds_any _ _ s.name s.value _ hown'.out.at hl'.out).mono ?_
         rintro e w3 ⟨t3, rfl, hown3, hb3⟩
         obtain ⟨p3, cap3, rfl⟩ := hown3.slice
         have k0 := fun o => (Below.frozen hb3 (p := ⟨W.heap.size + 1, o, none⟩) (cell_lt (a := ⟨W.heap.size + 1, 0, none⟩) d0)).trans (k0 o)
         have c0 := hb3.cell c0
         have c1 := hb3.cell c1
         have c2 := hb3.cell c2
         have d0 := hb3.cell d0
         have d1 := hb3.cell d1
         have d2 := hb3.cell d2
         have q0 := hb3.cell q0
         have q1 := hb3.cell q1
         have q2 := hb3.cell q2
         have q3 := hb3.cell q3
         have q4 := hb3.cell q4
         have q5 := hb3.cell q5
         have q6 := hb3.cell q6
         have hown3' := Lib.hid hown3
         have hb3' := Lib.hid hb3
         clear hown3 hb3
         unfold Rp.V Rp.more))
  go_wp2
  have hfin := HPost.added (s := s) hTl'.out (Gr.drew hg1'.out) hz1 hl2'.out (by rw [hturn'.out]; exact hRR'.out) hch'.out hown3'.out hb3'.out href'.out hadds'.out hR'.out
  rw [more_len] at hfin
  refine bodyPost_ret ?_ rfl hfin
  simp [results, Tryd.results51, go_sem, Rp.V, Rp.more, d0, d1, d2]

set_option maxHeartbeats 2000000 in
set_option maxRecDepth 100000 in
theorem h_who (s : Stp) (hk : s.kind = 5) (hsn : s.name.length ≤ 1000) (hm : m ≤ 1000000) (hS : Side T F W0) (hH : Handles g lb T F W0 m R) (eg : ∀ args w, (callFunc g args).run Tryd.prog w = .ok (.enter g args) w) (hR : Closed T R)
    (sp hp : Nat) (hs : StepCell W0 sp s) (hh : W0.cell? ⟨hp, 0, none⟩ = some (.func (.func g) #[] lb)) (hF : F sp ∧ F hp) (hN : ¬ T sp ∧ ¬ T hp) :
    Handles 59 #[.pointer (some ⟨sp, 0, none⟩), .pointer (some ⟨hp, 0, none⟩)] T F W0 (m + 1) (Rs s R) := by
  intro W r sv hA hf hr
  obtain ⟨⟨_, hnm, hvl, _⟩, hhc, hTl, hsl, hpl, nT1, nT2⟩ := h_begin hS hA hs hh hF hN
  obtain ⟨⟨v, n⟩, hget⟩ : ∃ q, getB r.fs s.name = q := ⟨_, rfl⟩
  have hgo := getO_of _ _ _ _ hget
  have hnl : (n : Int) ≤ 1000000 := by have := getB_len _ _ _ _ hget; have := hr.1; omega
  have hgc : ∀ W1, Gr W W1 → Calls Tryd.prog 54 #[sv, .string ⟨s.name.toArray⟩] W1 fun e w' => e = .returned (.tuple #[.string ⟨v.toArray⟩, .int .i64 n]) ∧ Gr W1 w' := fun W1 h1 => by
    have := get_any sv r.fs s.name W1 ((hS.G hA).gr h1) (hf.gr h1) (Nat.le_trans hr.1 (by decide)) (fun f hm => (hr.2 f hm).1) (Nat.le_trans hsn (by decide))
    rwa [hget] at this
  have hgc' := Lib.hid hgc
  have hcall := Lib.hid (fun W1 h1 => hH.grown hS (W1 := W1) hA h1 hf hr)
  obtain ⟨p, cap, rfl, _⟩ := hf
  have hTl' := Lib.hid hTl
  have hR' := Lib.hid hR
  have href' := Lib.hid (show refuses s r = none by unfold refuses; rw [if_neg (by rw [hk]; decide), if_neg (by rw [hk]; decide), if_neg (by rw [hk]; decide)])
  have hturn' := Lib.hid (show turns s r = r by unfold turns; rw [if_neg (by rw [hk]; decide)])
  have key : ∃ q, adds s r.fs = [(s.value, q)] ∧ (((n : Int) == 0) = true ∧ q = [45] ∨ ((n : Int) == 0) = false ∧ q = v) := by
    refine ⟨(getO r.fs s.name).getD [45], by unfold adds; rw [if_neg (by rw [hk]; decide), if_neg (by rw [hk]; decide)], ?_⟩
    rw [hgo]
    by_cases h0 : n = 0
    · subst h0; exact .inl ⟨rfl, rfl⟩
    · rw [if_neg h0]; exact .inr ⟨beq_eq_false_iff_ne.2 (by omega), rfl⟩
  obtain ⟨q, hadds, hq⟩ := key
  have hadds' := Lib.hid hadds
  clear hS hH hR hA hr hs hh hF hk hTl hadds hgc hget hgo hsn
  show Calls Tryd.prog 59 #[.agg #[.string ⟨r.m.toArray⟩, .string ⟨r.p.toArray⟩, .string ⟨r.q.toArray⟩, .int .i64 r.v, .slice p r.fs.length cap, .string ⟨r.b.toArray⟩, .bool r.c], .pointer (some ⟨sp, 0, none⟩), .pointer (some ⟨hp, 0, none⟩)] W _
  go_enter Tryd.func59, Tryd.ntmps59
  go_wp2_with fail
  refine (hgc'.out _ ((Gr.alloc _ _).alloc1 _)).mono ?_
  rintro e W1 ⟨rfl, hb1⟩
  have hg1 : Gr W W1 := ((Gr.alloc W _).alloc1 _).trans hb1
  have hz1 : W.heap.size + 1 < W1.heap.size := by have := Below.size hb1; simp at this; omega
  have c0 := hg1.cell hhc
  have c1 := hg1.cell hnm
  have c2 := hg1.cell hvl
  have d0 : W1.cell? ⟨W.heap.size + 1, 0, none⟩ = some (.int .i64 0) := hb1.cell (by simp [go_sem])
  have d1 : W1.cell? ⟨W.heap.size + 1, 1, none⟩ = some (.slice none 0 0) := hb1.cell (by simp [go_sem])
  have d2 : W1.cell? ⟨W.heap.size + 1, 2, none⟩ = some (.string ⟨#[]⟩) := hb1.cell (by simp [go_sem])
  have k0 : ∀ o, W1.frozen? ⟨W.heap.size + 1, o, none⟩ = false := fun o => (Below.frozen hb1 (by simp)).trans (by simp [go_sem])
  have q0 : W1.cell? ⟨W.heap.size, 0, none⟩ = some (.string ⟨r.m.toArray⟩) := hb1.cell (by simp [go_sem])
  have q1 : W1.cell? ⟨W.heap.size, 1, none⟩ = some (.string ⟨r.p.toArray⟩) := hb1.cell (by simp [go_sem])
  have q2 : W1.cell? ⟨W.heap.size, 2, none⟩ = some (.string ⟨r.q.toArray⟩) := hb1.cell (by simp [go_sem])
  have q3 : W1.cell? ⟨W.heap.size, 3, none⟩ = some (.int .i64 r.v) := hb1.cell (by simp [go_sem])
  have q4 : W1.cell? ⟨W.heap.size, 4, none⟩ = some (.slice p r.fs.length cap) := hb1.cell (by simp [go_sem])
  have q5 : W1.cell? ⟨W.heap.size, 5, none⟩ = some (.string ⟨r.b.toArray⟩) := hb1.cell (by simp [go_sem])
  have q6 : W1.cell? ⟨W.heap.size, 6, none⟩ = some (.bool r.c) := hb1.cell (by simp [go_sem])
  have hg1' := Lib.hid hg1
  have n1 : ¬ (W.heap.size + 1 = sp) := by omega
  have n2 : ¬ (W.heap.size + 1 = hp) := by omega
  clear hg1 hb1 hhc hnm hvl
  rcases hq with ⟨hq, rfl⟩ | ⟨hq, rfl⟩
  all_goals go_wp2
  all_goals
    go_region_held3 (fun w' => w'.cell? ⟨hp, 0, none⟩ = some (.func (.func g) #[] lb) ∧ w'.cell? ⟨sp, 2, none⟩ = some (.string ⟨s.value.toArray⟩) ∧
        w'.cell? ⟨W.heap.size, 0, none⟩ = some (.string ⟨r.m.toArray⟩) ∧ w'.cell? ⟨W.heap.size, 1, none⟩ = some (.string ⟨r.p.toArray⟩) ∧ w'.cell? ⟨W.heap.size, 2, none⟩ = some (.string ⟨r.q.toArray⟩) ∧ w'.cell? ⟨W.heap.size, 3, none⟩ = some (.int .i64 r.v) ∧ w'.cell? ⟨W.heap.size, 4, none⟩ = some (.slice p r.fs.length cap) ∧ w'.cell? ⟨W.heap.size, 5, none⟩ = some (.string ⟨r.b.toArray⟩) ∧ w'.cell? ⟨W.heap.size, 6, none⟩ = some (.bool r.c)) (go_keep)
      (first
        | (refine (hcall.out _ (Gr.drew hg1'.out) r rfl).mono ?_
           rintro e w2 ⟨x, t, rfl, hown, hl, hRR, hch⟩
           obtain ⟨p2, cap2, rfl⟩ := hown.slice
           have hch0 : Ch (fun k => T k ∨ W1.heap.size ≤ k) W1 w2 := (Ch.drew _ _).trans hch
           have old : ∀ {k o u}, k < W.heap.size → ¬ T k → W1.cell? ⟨k, o, none⟩ = some u → w2.cell? ⟨k, o, none⟩ = some u := fun {k o u} h1 h2 h => (hch0.cell (p := ⟨k, o, none⟩) (cell_lt h) (fun e => by rcases e with e | e; exact h2 e; (try dsimp only at e); omega)).trans h
           have c0 := old hpl nT2 c0
           have c1 := old hsl nT1 c1
           have c2 := old hsl nT1 c2
           have d0 := frame_cell hTl'.out hch0 _ (Nat.le_succ _) hz1 d0
           have d1 := frame_cell hTl'.out hch0 _ (Nat.le_succ _) hz1 d1
           have d2 := frame_cell hTl'.out hch0 _ (Nat.le_succ _) hz1 d2
           have q0 := frame_cell hTl'.out hch0 _ (Nat.le_refl _) (Nat.lt_of_succ_lt hz1) q0
           have q1 := frame_cell hTl'.out hch0 _ (Nat.le_refl _) (Nat.lt_of_succ_lt hz1) q1
           have q2 := frame_cell hTl'.out hch0 _ (Nat.le_refl _) (Nat.lt_of_succ_lt hz1) q2
           have q3 := frame_cell hTl'.out hch0 _ (Nat.le_refl _) (Nat.lt_of_succ_lt hz1) q3
           have q4 := frame_cell hTl'.out hch0 _ (Nat.le_refl _) (Nat.lt_of_succ_lt hz1) q4
           have q5 := frame_cell hTl'.out hch0 _ (Nat.le_refl _) (Nat.lt_of_succ_lt hz1) q5
           have q6 := frame_cell hTl'.out hch0 _ (Nat.le_refl _) (Nat.lt_of_succ_lt hz1) q6
           have k0 := frame_frozen hTl'.out hch0 _ (Nat.le_succ _) hz1 k0
           have hown' := Lib.hid hown
           have hl' := Lib.hid (Nat.le_trans hl hm)
           have hl2' := Lib.hid hl
           have hRR' := Lib.hid hRR
           have hch' := Lib.hid hch
           clear hown hl hRR hch hch0 old)
        | (go_at_call 52
           refine (adds_any _ _ s.value _ _ hown'.out.at hl'.out).mono ?_
           rintro e w3 ⟨t3, rfl, hown3, hb3⟩
           obtain ⟨p3, cap3, rfl⟩ := hown3.slice
           have k0 := fun o => (Below.frozen hb3 (p := ⟨W.heap.size + 1, o, none⟩) (cell_lt (a := ⟨W.heap.size + 1, 0, none⟩) d0)).trans (k0 o)
           have c0 := hb3.cell c0
           have c1 := hb3.cell c1
           have c2 := hb3.cell c2
           have d0 := hb3.cell d0
           have d1 := hb3.cell d1
           have d2 := hb3.cell d2
           have q0 := hb3.cell q0
           have q1 := hb3.cell q1
           have q2 := hb3.cell q2
           have q3 := hb3.cell q3
           have q4 := hb3.cell q4
           have q5 := hb3.cell q5
           have q6 := hb3.cell q6
           have hown3' := Lib.hid hown3
           have hb3' := Lib.hid hb3
           clear hown3 hb3
           unfold Rp.V Rp.more))
  all_goals
    go_wp2
    have hfin := HPost.added (s := s) hTl'.out (Gr.drew hg1'.out) hz1 hl2'.out (by rw [hturn'.out]; exact hRR'.out) hch'.out hown3'.out hb3'.out href'.out hadds'.out hR'.out
    rw [more_len] at hfin
    refine bodyPost_ret ?_ rfl hfin
    simp [results, Tryd.results59, go_sem, Rp.V, Rp.more, d0, d1, d2]
end
end Go.Proofs.YtolpphmgobeocaaDoor
