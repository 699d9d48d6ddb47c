/-
  Walks over package chain: a step around a handler.
-/
import Derived.Test.YtolpphmgobeocaaDoorCd
import Derived.Deep.RegionHeld3
namespace Go.Proofs.YtolpphmgobeocaaDoor
open Go.RowKit Go.Shelf
attribute [local go_sem] Oper.semAt_some

theorem G.agree {w w' : World} (h : G w) (ha : ∀ k, (k = 0 ∨ k = 1 ∨ k = 2) → w'.heap[k]? = w.heap[k]?) : G w' := by
  obtain ⟨⟨m, hm⟩, h1, h2⟩ := h
  exact ⟨⟨m, (World.cell?_of_block (ha _ (.inl rfl))).trans hm⟩, fun c hc => (World.cell?_of_block (ha _ (.inr (.inl rfl)))).trans (h1 c hc),
    fun i hi => ⟨(World.cell?_of_block (ha _ (.inr (.inr rfl)))).trans (h2 i hi).1, (World.cell?_of_block (ha _ (.inr (.inr rfl)))).trans (h2 i hi).2⟩⟩

/-- A world that is later than W0 and in which the blocks of F are as they were. -/
def Agree (F : Nat → Prop) (W0 W : World) : Prop := W0.heap.size ≤ W.heap.size ∧ ∀ k, F k → W.heap[k]? = W0.heap[k]?
theorem Agree.cell {F : Nat → Prop} {W0 W : World} (h : Agree F W0 W) {p : Addr} {v : Value} (hF : F p.block) (hp : W0.cell? p = some v) : W.cell? p = some v := (World.cell?_of_block (h.2 _ hF)).trans hp
theorem Agree.ch {F U : Nat → Prop} {W0 W W' : World} (h : Agree F W0 W) (hc : Ch U W W') (hU : ∀ k, F k → ¬ U k) (hF : ∀ k, F k → k < W0.heap.size) : Agree F W0 W' :=
  ⟨Nat.le_trans h.1 hc.size, fun k hk => (hc.block k (Nat.lt_of_lt_of_le (hF k hk) h.1) (hU k hk)).trans (h.2 k hk)⟩
theorem Agree.refl (F : Nat → Prop) (W : World) : Agree F W W := ⟨Nat.le_refl _, fun _ _ => rfl⟩

/-- What a handler's calls owe to memory: T: the variables that it may write; F: the blocks that it reads. -/
structure Side (T F : Nat → Prop) (W0 : World) : Prop where
  old : ∀ k, F k → k < W0.heap.size
  told : ∀ k, T k → k < W0.heap.size
  g : G W0
  gF : ∀ k, (k = 0 ∨ k = 1 ∨ k = 2) → F k
theorem Side.G {T F : Nat → Prop} {W0 W : World} (h : Side T F W0) (ha : Agree F W0 W) : G W := h.g.agree fun k hk => ha.2 k (h.gF k hk)

def RqOk (r : Rq) : Prop := r.fs.length ≤ 1000000 ∧ ∀ f ∈ r.fs, f.1.length ≤ 9223372036854775807 ∧ f.2.length ≤ 9223372036854775807
/-- What a call of a handler comes to. -/
def HPost (T : Nat → Prop) (m : Nat) (R : Nat → Rq → Rp → World → World → Prop) (r : Rq) (W : World) (e : Ending) (W' : World) : Prop :=
  ∃ x t, e = .returned (x.V t) ∧ OwnF W.heap.size W' t x.fs ∧ x.fs.length ≤ m ∧ R W.heap.size r x W W' ∧ Ch (fun k => T k ∨ W.heap.size ≤ k) W W'
/-- A function value that is a handler. -/
def Handles (g : Nat) (lb : Array Value) (T F : Nat → Prop) (W0 : World) (m : Nat) (R : Nat → Rq → Rp → World → World → Prop) : Prop :=
  ∀ (W : World) (r : Rq) (s : Value), Agree F W0 W → FieldsAt W s r.fs → RqOk r → Calls Tryd.prog g (#[r.V s] ++ lb) W (HPost T m R r W)
/-- A step of the frame around a call changes nothing of what was said of it. -/
def Closed (T : Nat → Prop) (R : Nat → Rq → Rp → World → World → Prop) : Prop :=
  ∀ (B B' : Nat) (r : Rq) (x : Rp) (W W1 W2 W3 : World), B ≤ B' → B ≤ W.heap.size → (∀ k, T k → k < B) → Below B W W1 → R B' r x W1 W2 → Ch (fun k => B ≤ k ∧ k < B') W2 W3 → R B r x W W3
theorem Handles.mono {g : Nat} {lb : Array Value} {T F F' : Nat → Prop} {W0 W0' : World} {m : Nat} {R : Nat → Rq → Rp → World → World → Prop} (h : Handles g lb T F W0 m R) (hF : ∀ k, F k → F' k) (ha : Agree F W0 W0') : Handles g lb T F' W0' m R :=
  fun W r s hA hf hr => h W r s ⟨Nat.le_trans ha.1 hA.1, fun k hk => (hA.2 k (hF k hk)).trans (ha.2 k hk)⟩ hf hr

/-- What is said of a step around a handler. -/
def Rs (s : Stp) (R : Nat → Rq → Rp → World → World → Prop) (B : Nat) (r : Rq) (x : Rp) (W W' : World) : Prop :=
  match refuses s r with
  | some y => x = y ∧ Below B W W'
  | none => ∃ y, R B (turns s r) y W W' ∧ x = y.more (adds s r.fs)
/-- A step's variable. -/
def StepCell (W : World) (b : Nat) (s : Stp) : Prop :=
  W.cell? ⟨b, 0, none⟩ = some (.int .i64 s.kind) ∧ W.cell? ⟨b, 1, none⟩ = some (.string ⟨s.name.toArray⟩) ∧ W.cell? ⟨b, 2, none⟩ = some (.string ⟨s.value.toArray⟩) ∧ W.cell? ⟨b, 3, none⟩ = some (.int .i64 s.n)
theorem OwnF.slice {B : Nat} {w : World} {v : Value} {fs : List Fl} (h : OwnF B w v fs) : ∃ p cap, v = .slice p fs.length cap := by
  obtain ⟨p, cap, hv, _⟩ := h.at; exact ⟨p, cap, hv⟩
theorem more_nil (x : Rp) : x.more [] = x := by cases x; simp [Rp.more]

theorem getO_of (fs : List Fl) (name v : List UInt8) (n : Nat) (h : getB fs name = (v, n)) : getO fs name = if n = 0 then none else some v := by
  unfold getB at h
  rw [Prod.mk.injEq] at h
  obtain ⟨h1, h2⟩ := h
  unfold getO
  rw [← List.head?_filter]
  cases hl : fs.filter (fun f => alikeB f.1 name) with
  | nil => rw [hl] at h2; simp at h2; subst h2; rfl
  | cons x t =>
    rw [hl] at h1 h2
    simp at h1 h2
    rw [if_neg (by omega), ← h1]; rfl
theorem getB_len (fs : List Fl) (name v : List UInt8) (n : Nat) (h : getB fs name = (v, n)) : n ≤ fs.length := by
  have := getB_le fs name; rw [h] at this; exact this
theorem adds_len (s : Stp) (fs : List Fl) : (adds s fs).length ≤ 1 := by
  unfold adds; split
  · simp
  · split <;> simp

section
variable {g : Nat} {lb : Array Value} {T F : Nat → Prop} {W0 : World} {m : Nat} {R : Nat → Rq → Rp → World → World → Prop}

theorem HPost.done {r : Rq} {s : Stp} {W W1 W2 W3 : World} {x : Rp} {t : Value} (hT : ∀ k, T k → k < W.heap.size) (h1 : Gr W W1) (hl : x.fs.length ≤ m) (hr : R W1.heap.size (turns s r) x W1 W2)
    (hch : Ch (fun k => T k ∨ W1.heap.size ≤ k) W1 W2) (h3 : Ch (fun k => W.heap.size ≤ k ∧ k < W1.heap.size) W2 W3) (href : refuses s r = none) (hown : OwnF W.heap.size W3 t (x.more (adds s r.fs)).fs) (hR : Closed T R) :
    HPost T (m + 1) (Rs s R) r W (.returned ((x.more (adds s r.fs)).V t)) W3 := by
  refine ⟨_, t, rfl, hown, ?_, ?_, ?_⟩
  · have := adds_len s r.fs
    simp only [Rp.more, List.length_append]; omega
  · unfold Rs
    rw [href]
    exact ⟨x, hR _ _ _ _ _ _ _ _ (Below.size h1) (Nat.le_refl _) hT h1 hr h3, rfl⟩
  · have hs := Below.size h1
    exact ((h1.to_ch _).trans (hch.mono fun k hk => hk.imp id fun h => by omega)).trans (h3.mono fun k hk => .inr hk.1)
theorem HPost.refused {r : Rq} {s : Stp} {W W3 : World} {y : Rp} (href : refuses s r = some y) (hy : y.fs = []) (hg : Gr W W3) :
    HPost T (m + 1) (Rs s R) r W (.returned (y.V (.slice none 0 0))) W3 := by
  refine ⟨y, _, rfl, ?_, by rw [hy]; simp, ?_, hg.to_ch _⟩
  · rw [hy]; exact World.ownsRow_nil _ _ _ _
  · unfold Rs; rw [href]; exact ⟨rfl, hg⟩

theorem Ch.set3 (w : World) (b : Nat) (u0 u1 u2 : Value) : Ch (fun k => k = b) w (((w.setCell ⟨b, 0, none⟩ u0).setCell ⟨b, 1, none⟩ u1).setCell ⟨b, 2, none⟩ u2) := by
  refine Ch.trans (Ch.trans (Ch.setCell _ ?_ _) (Ch.setCell _ ?_ _)) (Ch.setCell _ ?_ _) <;> rfl
/-- The frame's own variable behind a call. -/
theorem frame_cell {W W1 W2 : World} (hT : ∀ k, T k → k < W.heap.size) (hch : Ch (fun k => T k ∨ W1.heap.size ≤ k) W1 W2) (b : Nat) (hb : W.heap.size ≤ b) (hb1 : b < W1.heap.size) {o : Nat} {u : Value} (h : W1.cell? ⟨b, o, none⟩ = some u) :
    W2.cell? ⟨b, o, none⟩ = some u :=
  (hch.cell (p := ⟨b, o, none⟩) hb1 fun e => by
    rcases e with e | e
    · have := hT _ e; (try dsimp only at this); omega
    · (try dsimp only at e); omega).trans h
theorem frame_frozen {W W1 W2 : World} (hT : ∀ k, T k → k < W.heap.size) (hch : Ch (fun k => T k ∨ W1.heap.size ≤ k) W1 W2) (b : Nat) (hb : W.heap.size ≤ b) (hb1 : b < W1.heap.size) (h : ∀ o, W1.frozen? ⟨b, o, none⟩ = false) (o : Nat) :
    W2.frozen? ⟨b, o, none⟩ = false :=
  (hch.frozen (p := ⟨b, o, none⟩) hb1 fun e => by
    rcases e with e | e
    · have := hT _ e; (try dsimp only at this); omega
    · (try dsimp only at e); omega).trans (h o)
/-- A step that adds nothing hands on what the handler said. -/
theorem HPost.pass {r : Rq} {s : Stp} {W W1 w2 : World} {x : Rp} {p : Option Addr} {n cap : Nat} (hT : ∀ k, T k → k < W.heap.size) (h1 : Gr W W1) (h2 : W.heap.size + 1 < W1.heap.size) (hown : OwnF W1.heap.size w2 (.slice p n cap) x.fs) (hl : x.fs.length ≤ m)
    (hr : R W1.heap.size (turns s r) x W1 w2) (hch : Ch (fun k => T k ∨ W1.heap.size ≤ k) W1 w2) (href : refuses s r = none) (hadds : adds s r.fs = []) (hR : Closed T R) :
    HPost T (m + 1) (Rs s R) r W (.returned (x.V (.slice p n cap))) (((w2.setCell ⟨W.heap.size + 1, 0, none⟩ (.int .i64 x.code)).setCell ⟨W.heap.size + 1, 1, none⟩ (.slice p n cap)).setCell ⟨W.heap.size + 1, 2, none⟩ (.string ⟨x.b.toArray⟩)) := by
  have h3 := Ch.set3 w2 (W.heap.size + 1) (.int .i64 x.code) (.slice p n cap) (.string ⟨x.b.toArray⟩)
  have := HPost.done (r := r) (s := s) (x := x) (t := .slice p n cap) hT h1 hl hr hch (h3.mono fun k hk => by (try dsimp only at hk); omega) href (by
    rw [hadds, more_nil]
    exact World.ownsRow.mono (base := W1.heap.size) (hown.ch h3 fun k hk => by (try dsimp only at hk); omega) (Below.size h1)) hR
  rwa [hadds, more_nil] at this

/-- What a walk over a step around a handler begins with. -/
theorem h_begin {W : World} {sp hp : Nat} {s : Stp} (hS : Side T F W0) (hA : Agree F W0 W) (hs : StepCell W0 sp s) (hh : W0.cell? ⟨hp, 0, none⟩ = some (.func (.func g) #[] lb)) (hF : F sp ∧ F hp) (hN : ¬ T sp ∧ ¬ T hp) :
    StepCell W sp s ∧ W.cell? ⟨hp, 0, none⟩ = some (.func (.func g) #[] lb) ∧ (∀ k, T k → k < W.heap.size) ∧ sp < W.heap.size ∧ hp < W.heap.size ∧ ¬ T sp ∧ ¬ T hp :=
  ⟨⟨hA.cell hF.1 hs.1, hA.cell hF.1 hs.2.1, hA.cell hF.1 hs.2.2.1, hA.cell hF.1 hs.2.2.2⟩, hA.cell hF.2 hh, fun k hk => Nat.lt_of_lt_of_le (hS.told k hk) hA.1,
    cell_lt (hA.cell (p := ⟨sp, 0, none⟩) hF.1 hs.1), cell_lt (hA.cell (p := ⟨hp, 0, none⟩) hF.2 hh), hN.1, hN.2⟩
/-- The handler, called in a frame that has grown. -/
theorem Handles.grown (hH : Handles g lb T F W0 m R) (hS : Side T F W0) {W W1 : World} (hA : Agree F W0 W) (h1 : Gr W W1) {r : Rq} {sv : Value} (hf : FieldsAt W sv r.fs) (hr : RqOk r) (r2 : Rq) (e : r2.fs = r.fs) :
    Calls Tryd.prog g (#[r2.V sv] ++ lb) W1 (HPost T m R r2 W1) :=
  hH W1 r2 sv (hA.ch (h1.to_ch (fun _ => False)) (fun _ _ h => h) hS.old) (by rw [e]; exact hf.gr h1) (by unfold RqOk; rw [e]; exact hr)

set_option maxHeartbeats 1000000 in
set_option maxRecDepth 100000 in
theorem h_limit (s : Stp) (hk : s.kind = 3) (hS : Side T F W0) (hH : Handles g lb T F W0 m R) (eg : ∀ args w, (callFunc g args).run Tryd.prog w = .ok (.enter g args) w) (hR : Closed T R)
    (sp hp : Nat) (hs : StepCell W0 sp s) (hh : W0.cell? ⟨hp, 0, none⟩ = some (.func (.func g) #[] lb)) (hF : F sp ∧ F hp) (hN : ¬ T sp ∧ ¬ T hp) :
    Handles 56 #[.pointer (some ⟨sp, 0, none⟩), .pointer (some ⟨hp, 0, none⟩)] T F W0 (m + 1) (Rs s R) := by
  intro W r sv hA hf hr
  obtain ⟨⟨_, _, _, hn⟩, hhc, hTl, hsl, hpl, _, _⟩ := h_begin hS hA hs hh hF hN
  have hcall := Lib.hid (fun W1 h1 => hH.grown hS (W1 := W1) hA h1 hf hr)
  obtain ⟨p, cap, rfl, _⟩ := hf
  have hTl' := Lib.hid hTl
  have hR' := Lib.hid hR
  have hk' := Lib.hid hk
  clear hS hH hR hA hr hs hh hF hk hTl
  show Calls Tryd.prog 56 #[.agg #[.string ⟨r.m.toArray⟩, .string ⟨r.p.toArray⟩, .string ⟨r.q.toArray⟩, .int .i64 r.v, .slice p r.fs.length cap, .string ⟨r.b.toArray⟩, .bool r.c], .pointer (some ⟨sp, 0, none⟩), .pointer (some ⟨hp, 0, none⟩)] W _
  by_cases hlt : s.n < r.b.length
  · have href := Lib.hid (show refuses s r = some rLong by unfold refuses; rw [if_neg (by rw [hk'.out]; decide), if_pos hk'.out, if_pos hlt])
    go_enter Tryd.func56, Tryd.ntmps56
    go_wp2_with fail
    refine (refuse_any _ _ _).mono ?_
    rintro e w2 ⟨rfl, hb⟩
    have hg2 := Lib.hid (((Gr.alloc W _).alloc1 _).trans hb)
    obtain ⟨hce, hfr⟩ := hb.bcell
    have hz : W.heap.size + 1 < w2.heap.size := by have := Below.size hb; simp at this; omega
    clear hb
    unfold Rp.V
    go_wp2
    refine bodyPost_ret (v := Rp.V rLong (.slice none 0 0)) (by simp [results, Tryd.results56, go_sem, Rp.V, rLong, hce]) rfl (HPost.refused href.out rfl ?_)
    exact ((hg2.out.setCell (Nat.le_succ _) _).setCell (Nat.le_succ _) _).setCell (Nat.le_succ _) _
  · have href := Lib.hid (show refuses s r = none by unfold refuses; rw [if_neg (by rw [hk'.out]; decide), if_pos hk'.out, if_neg hlt])
    have hturn : turns s r = r := by unfold turns; rw [if_neg (by rw [hk'.out]; decide)]
    have hadds : adds s r.fs = [] := by unfold adds; rw [if_neg (by rw [hk'.out]; decide), if_pos (.inr (.inl hk'.out))]
    have hturn' := Lib.hid hturn
    have hadds' := Lib.hid hadds
    clear hturn hadds
    go_enter Tryd.func56, Tryd.ntmps56
    go_wp2_with fail
    refine (hcall.out _ ((Gr.alloc _ _).alloc1 _) r rfl).mono ?_
    rintro e w2 ⟨x, t, rfl, hown, hl, hRR, hch⟩
    obtain ⟨p2, cap2, rfl⟩ := hown.slice
    have hz := hch.size
    have d0 := frame_cell hTl'.out hch (W.heap.size + 1) (Nat.le_succ _) (by simp) (o := 0) (u := .int .i64 0) (by simp [go_sem])
    have d1 := frame_cell hTl'.out hch (W.heap.size + 1) (Nat.le_succ _) (by simp) (o := 1) (u := .slice none 0 0) (by simp [go_sem])
    have d2 := frame_cell hTl'.out hch (W.heap.size + 1) (Nat.le_succ _) (by simp) (o := 2) (u := .string ⟨#[]⟩) (by simp [go_sem])
    have k0 := frame_frozen hTl'.out hch (W.heap.size + 1) (Nat.le_succ _) (by simp) (fun o => by simp [go_sem])
    have hfin := Lib.hid (HPost.pass (s := s) hTl'.out ((Gr.alloc _ _).alloc1 _) (by simp) hown hl (by rw [hturn'.out]; exact hRR) hch href.out hadds'.out hR'.out)
    clear hown hl hRR hch hz
    unfold Rp.V
    go_wp2
    exact bodyPost_ret (v := Rp.V x (.slice p2 x.fs.length cap2)) (by simp [results, Tryd.results56, go_sem, Rp.V, d0, d1, d2]) rfl hfin.out

set_option maxHeartbeats 1000000 in
set_option maxRecDepth 100000 in
theorem h_need (s : Stp) (hk : s.kind = 2) (hsn : s.name.length ≤ 1000) (hS : Side T F W0) (hH : Handles g lb T F W0 m R) (eg : ∀ args w, (callFunc g args).run Tryd.prog w = .ok (.enter g args) w) (hR : Closed T R)
    (sp hp : Nat) (hs : StepCell W0 sp s) (hh : W0.cell? ⟨hp, 0, none⟩ = some (.func (.func g) #[] lb)) (hF : F sp ∧ F hp) (hN : ¬ T sp ∧ ¬ T hp) :
    Handles 53 #[.pointer (some ⟨sp, 0, none⟩), .pointer (some ⟨hp, 0, none⟩)] T F W0 (m + 1) (Rs s R) := by
  intro W r sv hA hf hr
  obtain ⟨⟨_, hnm, hvl, _⟩, hhc, hTl, hsl, hpl, _, _⟩ := h_begin hS hA hs hh hF hN
  obtain ⟨⟨v, n⟩, hget⟩ : ∃ q, getB r.fs s.name = q := ⟨_, rfl⟩
  have hgo := getO_of _ _ _ _ hget
  have hnl : (n : Int) ≤ 1000000 := by have := getB_len _ _ _ _ hget; have := hr.1; omega
  have hgc : ∀ W1, Gr W W1 → Calls Tryd.prog 54 #[sv, .string ⟨s.name.toArray⟩] W1 fun e w' => e = .returned (.tuple #[.string ⟨v.toArray⟩, .int .i64 n]) ∧ Gr W1 w' := fun W1 h1 => by
    have := get_any sv r.fs s.name W1 ((hS.G hA).gr h1) (hf.gr h1) (Nat.le_trans hr.1 (by decide)) (fun f hm => (hr.2 f hm).1) (Nat.le_trans hsn (by decide))
    rwa [hget] at this
  have hgc' := Lib.hid hgc
  have hcall := Lib.hid (fun W1 h1 => hH.grown hS (W1 := W1) hA h1 hf hr)
  obtain ⟨p, cap, rfl, _⟩ := hf
  have hTl' := Lib.hid hTl
  have hR' := Lib.hid hR
  have hturn' := Lib.hid (show turns s r = r by unfold turns; rw [if_neg (by rw [hk]; decide)])
  have hadds' := Lib.hid (show adds s r.fs = [] by unfold adds; rw [if_neg (by rw [hk]; decide), if_pos (.inl hk)])
  have href0 : refuses s r = (match getO r.fs s.name with | none => some rForb | some v => if !s.value.isEmpty && !(v == s.value) then some rForb else none) := by unfold refuses; rw [if_pos hk]; cases getO r.fs s.name <;> rfl
  rw [hgo] at href0
  clear hS hH hR hA hr hs hh hF hk hTl hgc hget hgo hsn
  show Calls Tryd.prog 53 #[.agg #[.string ⟨r.m.toArray⟩, .string ⟨r.p.toArray⟩, .string ⟨r.q.toArray⟩, .int .i64 r.v, .slice p r.fs.length cap, .string ⟨r.b.toArray⟩, .bool r.c], .pointer (some ⟨sp, 0, none⟩), .pointer (some ⟨hp, 0, none⟩)] W _
  have key : ((((n : Int) == 0) = true ∨ ((n : Int) == 0) = false ∧ (!s.value.isEmpty) = true ∧ (!(v == s.value)) = true) ∧ refuses s r = some rForb) ∨ (((n : Int) == 0) = false ∧ ((!s.value.isEmpty) = false ∨ ((!s.value.isEmpty) = true ∧ (!(v == s.value)) = false)) ∧ refuses s r = none) := by
    by_cases h0 : n = 0
    · subst h0; exact .inl ⟨.inl rfl, by rw [href0]; rfl⟩
    · have hb : ((n : Int) == 0) = false := beq_eq_false_iff_ne.2 (by omega)
      rw [if_neg h0] at href0
      dsimp only at href0
      cases h1 : (!s.value.isEmpty)
      · exact .inr ⟨hb, .inl rfl, by rw [href0, h1]; rfl⟩
      · cases h2 : (!(v == s.value))
        · exact .inr ⟨hb, .inr ⟨rfl, rfl⟩, by rw [href0, h1, h2]; rfl⟩
        · exact .inl ⟨.inr ⟨hb, rfl, rfl⟩, by rw [href0, h1, h2]; rfl⟩
  clear href0
  rcases key with ⟨hb, href⟩ | ⟨hb, hv, href⟩
  · have href' := Lib.hid href
    clear href
    rcases hb with hb | ⟨hb, hv1, hv2⟩
    all_goals
      go_enter Tryd.func53, Tryd.ntmps53
      go_wp2_with fail
      refine (hgc'.out _ ((Gr.alloc _ _).alloc1 _)).mono ?_
      rintro e w1 ⟨rfl, hb1⟩
      have hvl1 : w1.cell? ⟨sp, 2, none⟩ = some (.string ⟨s.value.toArray⟩) := (((Gr.alloc W _).alloc1 _).trans hb1).cell hvl
      have hz1 : W.heap.size + 1 < w1.heap.size := by have := Below.size hb1; simp at this; omega
      have d0 : w1.cell? ⟨W.heap.size + 1, 0, none⟩ = some (.int .i64 0) := hb1.cell (by simp [go_sem])
      have d1 : w1.cell? ⟨W.heap.size + 1, 1, none⟩ = some (.slice none 0 0) := hb1.cell (by simp [go_sem])
      have d2 : w1.cell? ⟨W.heap.size + 1, 2, none⟩ = some (.string ⟨#[]⟩) := hb1.cell (by simp [go_sem])
      have k0 : ∀ o, w1.frozen? ⟨W.heap.size + 1, o, none⟩ = false := fun o => (Below.frozen hb1 (by simp)).trans (by simp [go_sem])
      have hg1 := Lib.hid (((Gr.alloc W _).alloc1 _).trans hb1)
      clear hb1
      go_wp2_with fail
      refine (refuse_any _ _ _).mono ?_
      rintro e w2 ⟨rfl, hb⟩
      have hg2 := Lib.hid (hg1.out.trans hb)
      have e0 := hb.cell d0
      have e1 := hb.cell d1
      have e2 := hb.cell d2
      have k1 := fun o => (Below.frozen hb (p := ⟨W.heap.size + 1, o, none⟩) hz1).trans (k0 o)
      clear hb d0 d1 d2 k0
      unfold Rp.V
      go_wp2
      refine bodyPost_ret (v := Rp.V rForb (.slice none 0 0)) (by simp [results, Tryd.results53, go_sem, Rp.V, rForb, e0, e1, e2]) rfl (HPost.refused href'.out rfl ?_)
      exact ((hg2.out.setCell (Nat.le_succ _) _).setCell (Nat.le_succ _) _).setCell (Nat.le_succ _) _
  · have href' := Lib.hid href
    clear href
    rcases hv with hv | ⟨hv1, hv2⟩
    all_goals
      go_enter Tryd.func53, Tryd.ntmps53
      go_wp2_with fail
      refine (hgc'.out _ ((Gr.alloc _ _).alloc1 _)).mono ?_
      rintro e w1 ⟨rfl, hb1⟩
      have hvl1 : w1.cell? ⟨sp, 2, none⟩ = some (.string ⟨s.value.toArray⟩) := (((Gr.alloc W _).alloc1 _).trans hb1).cell hvl
      have hhc1 : w1.cell? ⟨hp, 0, none⟩ = some (.func (.func g) #[] lb) := (((Gr.alloc W _).alloc1 _).trans hb1).cell hhc
      have hz1 : W.heap.size + 1 < w1.heap.size := by have := Below.size hb1; simp at this; omega
      have d0 : w1.cell? ⟨W.heap.size + 1, 0, none⟩ = some (.int .i64 0) := hb1.cell (by simp [go_sem])
      have d1 : w1.cell? ⟨W.heap.size + 1, 1, none⟩ = some (.slice none 0 0) := hb1.cell (by simp [go_sem])
      have d2 : w1.cell? ⟨W.heap.size + 1, 2, none⟩ = some (.string ⟨#[]⟩) := hb1.cell (by simp [go_sem])
      have k0 : ∀ o, w1.frozen? ⟨W.heap.size + 1, o, none⟩ = false := fun o => (Below.frozen hb1 (by simp)).trans (by simp [go_sem])
      have q0 : w1.cell? ⟨W.heap.size, 0, none⟩ = some (.string ⟨r.m.toArray⟩) := hb1.cell (by simp [go_sem])
      have q1 : w1.cell? ⟨W.heap.size, 1, none⟩ = some (.string ⟨r.p.toArray⟩) := hb1.cell (by simp [go_sem])
      have q2 : w1.cell? ⟨W.heap.size, 2, none⟩ = some (.string ⟨r.q.toArray⟩) := hb1.cell (by simp [go_sem])
      have q3 : w1.cell? ⟨W.heap.size, 3, none⟩ = some (.int .i64 r.v) := hb1.cell (by simp [go_sem])
      have q4 : w1.cell? ⟨W.heap.size, 4, none⟩ = some (.slice p r.fs.length cap) := hb1.cell (by simp [go_sem])
      have q5 : w1.cell? ⟨W.heap.size, 5, none⟩ = some (.string ⟨r.b.toArray⟩) := hb1.cell (by simp [go_sem])
      have q6 : w1.cell? ⟨W.heap.size, 6, none⟩ = some (.bool r.c) := hb1.cell (by simp [go_sem])
      have hg1 := Lib.hid (((Gr.alloc W _).alloc1 _).trans hb1)
      clear hb1
      go_wp2_with fail
      refine (hcall.out _ hg1.out r rfl).mono ?_
      rintro e w2 ⟨x, t, rfl, hown, hl, hRR, hch⟩
      obtain ⟨p2, cap2, rfl⟩ := hown.slice
      have e0 := frame_cell hTl'.out hch (W.heap.size + 1) (Nat.le_succ _) hz1 d0
      have e1 := frame_cell hTl'.out hch (W.heap.size + 1) (Nat.le_succ _) hz1 d1
      have e2 := frame_cell hTl'.out hch (W.heap.size + 1) (Nat.le_succ _) hz1 d2
      have k1 := frame_frozen hTl'.out hch (W.heap.size + 1) (Nat.le_succ _) hz1 k0
      have hfin := Lib.hid (HPost.pass (s := s) hTl'.out hg1.out hz1 hown hl (by rw [hturn'.out]; exact hRR) hch href'.out hadds'.out hR'.out)
      clear hown hl hRR hch d0 d1 d2 k0
      unfold Rp.V
      go_wp2
      exact bodyPost_ret (v := Rp.V x (.slice p2 x.fs.length cap2)) (by simp [results, Tryd.results53, go_sem, Rp.V, e0, e1, e2]) rfl hfin.out

theorem cutp_is (l p rest : List UInt8) (b : Bool) (h1 : Lib.trimPrefix l p = rest) (h2 : Lib.hasPrefix l p = b) (w : World) :
    Calls Tryd.prog 58 #[.string ⟨l.toArray⟩, .string ⟨p.toArray⟩] w fun e w' => e = .returned (.tuple #[.string ⟨rest.toArray⟩, .bool b]) ∧ w = w' :=
  (Tryd.strings_CutPrefix ⟨l.toArray⟩ ⟨p.toArray⟩ w).mono fun e w' ⟨he, hw⟩ => ⟨by rw [he, ← h1, ← h2], hw.symm⟩
theorem restO_some {l p t : List UInt8} (h : restO l p = some t) : Lib.trimPrefix l p = t ∧ Lib.hasPrefix l p = true ∧ l.drop p.length = t := by
  unfold restO at h
  split at h
  · rename_i hp
    cases h
    exact ⟨by unfold Lib.trimPrefix Lib.hasPrefix; rw [if_pos hp], hp, rfl⟩
  · cases h
theorem restO_none {l p : List UInt8} (h : restO l p = none) : Lib.trimPrefix l p = l ∧ Lib.hasPrefix l p = false := by
  unfold restO at h
  split at h
  · cases h
  · rename_i hp
    exact ⟨by unfold Lib.trimPrefix Lib.hasPrefix; rw [if_neg hp], Bool.eq_false_iff.2 hp⟩

set_option maxHeartbeats 1000000 in
set_option maxRecDepth 100000 in
theorem h_take (s : Stp) (hk : s.kind = 4) (hS : Side T F W0) (hH : Handles g lb T F W0 m R) (eg : ∀ args w, (callFunc g args).run Tryd.prog w = .ok (.enter g args) w) (hR : Closed T R)
    (sp hp : Nat) (hs : StepCell W0 sp s) (hh : W0.cell? ⟨hp, 0, none⟩ = some (.func (.func g) #[] lb)) (hF : F sp ∧ F hp) (hN : ¬ T sp ∧ ¬ T hp) :
    Handles 57 #[.pointer (some ⟨sp, 0, none⟩), .pointer (some ⟨hp, 0, none⟩)] T F W0 (m + 1) (Rs s R) := by
  intro W r sv hA hf hr
  obtain ⟨⟨_, _, hvl, _⟩, hhc, hTl, hsl, hpl, _, _⟩ := h_begin hS hA hs hh hF hN
  have hcall := Lib.hid (fun W1 h1 => hH.grown hS (W1 := W1) hA h1 hf hr)
  obtain ⟨p, cap, rfl, _⟩ := hf
  have hTl' := Lib.hid hTl
  have hR' := Lib.hid hR
  have hadds' := Lib.hid (show adds s r.fs = [] by unfold adds; rw [if_neg (by rw [hk]; decide), if_pos (.inr (.inr hk))])
  have href0 : refuses s r = (match restO r.p s.value with | none => some rNone | some t => if !t.isEmpty && !(t.headD 0 == 47) then some rNone else none) := by
    unfold refuses; rw [if_neg (by rw [hk]; decide), if_neg (by rw [hk]; decide), if_pos hk]; cases restO r.p s.value <;> rfl
  have hturn0 : turns s r = { r with p := if r.p.drop s.value.length = [] then [47] else r.p.drop s.value.length } := by unfold turns; rw [if_pos hk]
  clear hS hH hR hA hr hs hh hF hk hTl
  show Calls Tryd.prog 57 #[.agg #[.string ⟨r.m.toArray⟩, .string ⟨r.p.toArray⟩, .string ⟨r.q.toArray⟩, .int .i64 r.v, .slice p r.fs.length cap, .string ⟨r.b.toArray⟩, .bool r.c], .pointer (some ⟨sp, 0, none⟩), .pointer (some ⟨hp, 0, none⟩)] W _
  cases hro : restO r.p s.value with
  | none =>
    rw [hro] at href0
    obtain ⟨h1, h2⟩ := restO_none hro
    have href' := Lib.hid href0
    have hcut := Lib.hid (cutp_is _ _ _ _ h1 h2)
    clear href0 hturn0 h1 h2 hro
    go_enter Tryd.func57, Tryd.ntmps57
    go_wp2_with fail
    refine (hcut.out _).mono ?_
    rintro e w1 ⟨rfl, rfl⟩
    go_wp2_with fail
    refine (refuse_any _ _ _).mono ?_
    rintro e w2 ⟨rfl, hb⟩
    have hg2 := Lib.hid (((Gr.alloc W _).alloc1 _).trans hb)
    have e0 : w2.cell? ⟨W.heap.size + 1, 0, none⟩ = some (.int .i64 0) := hb.cell (by simp [go_sem])
    have e1 : w2.cell? ⟨W.heap.size + 1, 1, none⟩ = some (.slice none 0 0) := hb.cell (by simp [go_sem])
    have e2 : w2.cell? ⟨W.heap.size + 1, 2, none⟩ = some (.string ⟨#[]⟩) := hb.cell (by simp [go_sem])
    have k1 : ∀ o, w2.frozen? ⟨W.heap.size + 1, o, none⟩ = false := fun o => (Below.frozen hb (by simp)).trans (by simp [go_sem])
    clear hb
    unfold Rp.V
    go_wp2
    refine bodyPost_ret (v := Rp.V rNone (.slice none 0 0)) (by simp [results, Tryd.results57, go_sem, Rp.V, rNone, e0, e1, e2]) rfl (HPost.refused href'.out rfl ?_)
    exact ((hg2.out.setCell (Nat.le_succ _) _).setCell (Nat.le_succ _) _).setCell (Nat.le_succ _) _
  | some t =>
    rw [hro] at href0
    dsimp only at href0
    obtain ⟨h1, h2, h3⟩ := restO_some hro
    rw [h3] at hturn0
    have hcut := Lib.hid (cutp_is _ _ _ _ h1 h2)
    clear h1 h2 h3 hro
    by_cases ht : t = []
    · subst ht
      have href' := Lib.hid (show refuses s r = none by rw [href0]; rfl)
      have hturn' := Lib.hid (show turns s r = { r with p := [47] } by rw [hturn0]; rfl)
      clear href0 hturn0
      go_enter Tryd.func57, Tryd.ntmps57
      go_wp2_with fail
      refine (hcut.out _).mono ?_
      rintro e w1 ⟨rfl, rfl⟩
      go_wp2_with fail
      refine (hcall.out _ ((Gr.alloc _ _).alloc1 _) { r with p := [47] } rfl).mono ?_
      rintro e w2 ⟨x, t', rfl, hown, hl, hRR, hch⟩
      obtain ⟨p2, cap2, rfl⟩ := hown.slice
      have d0 := frame_cell hTl'.out hch (W.heap.size + 1) (Nat.le_succ _) (by simp) (o := 0) (u := .int .i64 0) (by simp [go_sem])
      have d1 := frame_cell hTl'.out hch (W.heap.size + 1) (Nat.le_succ _) (by simp) (o := 1) (u := .slice none 0 0) (by simp [go_sem])
      have d2 := frame_cell hTl'.out hch (W.heap.size + 1) (Nat.le_succ _) (by simp) (o := 2) (u := .string ⟨#[]⟩) (by simp [go_sem])
      have k0 := frame_frozen hTl'.out hch (W.heap.size + 1) (Nat.le_succ _) (by simp) (fun o => by simp [go_sem])
      have hfin := Lib.hid (HPost.pass (s := s) hTl'.out ((Gr.alloc _ _).alloc1 _) (by simp) hown hl (by rw [hturn'.out]; exact hRR) hch href'.out hadds'.out hR'.out)
      clear hown hl hRR hch
      unfold Rp.V
      go_wp2
      exact bodyPost_ret (v := Rp.V x (.slice p2 x.fs.length cap2)) (by simp [results, Tryd.results57, go_sem, Rp.V, d0, d1, d2]) rfl hfin.out
    · have htl : 0 < t.length := List.length_pos_iff.2 ht
      have hte : (!t.isEmpty) = true := by simpa using ht
      have hte2 : t.isEmpty = false := by simpa using ht
      obtain ⟨c, hci⟩ : ∃ c, (⟨t.toArray⟩ : ByteArray)[0]'(by rw [size_mk]; exact htl) = c := ⟨_, rfl⟩
      have hhd : t.headD 0 = c := by cases t with
        | nil => cases htl
        | cons x u => exact hci
      rw [hhd] at href0
      by_cases hc : c = 47
      · have href' := Lib.hid (show refuses s r = none by rw [href0, hc]; simp)
        have hturn' := Lib.hid (show turns s r = { r with p := t } by rw [hturn0, if_neg ht])
        have hcb : ((c.toNat : Int) != 47) = false := by rw [hc]; rfl
        clear href0 hturn0 hhd hc ht
        go_enter Tryd.func57, Tryd.ntmps57
        go_wp2_with fail
        refine (hcut.out _).mono ?_
        rintro e w1 ⟨rfl, rfl⟩
        go_wp2_with fail
        refine (hcall.out _ ((Gr.alloc _ _).alloc1 _) { r with p := t } rfl).mono ?_
        rintro e w2 ⟨x, t', rfl, hown, hl, hRR, hch⟩
        obtain ⟨p2, cap2, rfl⟩ := hown.slice
        have d0 := frame_cell hTl'.out hch (W.heap.size + 1) (Nat.le_succ _) (by simp) (o := 0) (u := .int .i64 0) (by simp [go_sem])
        have d1 := frame_cell hTl'.out hch (W.heap.size + 1) (Nat.le_succ _) (by simp) (o := 1) (u := .slice none 0 0) (by simp [go_sem])
        have d2 := frame_cell hTl'.out hch (W.heap.size + 1) (Nat.le_succ _) (by simp) (o := 2) (u := .string ⟨#[]⟩) (by simp [go_sem])
        have k0 := frame_frozen hTl'.out hch (W.heap.size + 1) (Nat.le_succ _) (by simp) (fun o => by simp [go_sem])
        have hfin := Lib.hid (HPost.pass (s := s) hTl'.out ((Gr.alloc _ _).alloc1 _) (by simp) hown hl (by rw [hturn'.out]; exact hRR) hch href'.out hadds'.out hR'.out)
        clear hown hl hRR hch
        unfold Rp.V
        go_wp2
        exact bodyPost_ret (v := Rp.V x (.slice p2 x.fs.length cap2)) (by simp [results, Tryd.results57, go_sem, Rp.V, d0, d1, d2]) rfl hfin.out
      · have href' := Lib.hid (show refuses s r = some rNone by rw [href0, hte, beq_eq_false_iff_ne.2 hc]; rfl)
        have hcb : ((c.toNat : Int) != 47) = true := by rw [bne_iff_ne]; exact fun e => hc (UInt8.toNat_inj.1 (by show c.toNat = 47; omega))
        clear href0 hturn0 hhd hc ht
        go_enter Tryd.func57, Tryd.ntmps57
        go_wp2_with fail
        refine (hcut.out _).mono ?_
        rintro e w1 ⟨rfl, rfl⟩
        go_wp2_with fail
        refine (refuse_any _ _ _).mono ?_
        rintro e w2 ⟨rfl, hb⟩
        have hg2 := Lib.hid (((Gr.alloc W _).alloc1 _).trans hb)
        have e0 : w2.cell? ⟨W.heap.size + 1, 0, none⟩ = some (.int .i64 0) := hb.cell (by simp [go_sem])
        have e1 : w2.cell? ⟨W.heap.size + 1, 1, none⟩ = some (.slice none 0 0) := hb.cell (by simp [go_sem])
        have e2 : w2.cell? ⟨W.heap.size + 1, 2, none⟩ = some (.string ⟨#[]⟩) := hb.cell (by simp [go_sem])
        have k1 : ∀ o, w2.frozen? ⟨W.heap.size + 1, o, none⟩ = false := fun o => (Below.frozen hb (by simp)).trans (by simp [go_sem])
        clear hb
        unfold Rp.V
        go_wp2
        refine bodyPost_ret (v := Rp.V rNone (.slice none 0 0)) (by simp [results, Tryd.results57, go_sem, Rp.V, rNone, e0, e1, e2]) rfl (HPost.refused href'.out rfl ?_)
        exact ((hg2.out.setCell (Nat.le_succ _) _).setCell (Nat.le_succ _) _).setCell (Nat.le_succ _) _
end
end Go.Proofs.YtolpphmgobeocaaDoor
