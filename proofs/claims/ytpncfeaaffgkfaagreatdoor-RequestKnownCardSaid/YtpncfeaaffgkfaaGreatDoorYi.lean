/-
  Requests: the walk over Next, New, Rest.
-/
import Derived.Test.YtpncfeaaffgkfaaGreatDoorYh
namespace Go.Proofs.YtpncfeaaffgkfaaGreatDoor
open Go.RowKit
attribute [local go_sem] Oper.semAt_some

theorem headsQ_len (p : Ps) : (headsQ p).inp.length + (headsQ p).und.length = p.inp.length + p.und.length := by
  unfold headsQ
  split
  · rw [readsQ_eq]
    obtain ⟨i1, i2⟩ := readsP_inp p (splitE (p.inp.take (Lib.index p.inp eol2).toNat))
    split
    · unfold takesQ
      dsimp only
      rw [i1, i2, List.length_append, List.length_take, List.length_drop]; omega
    · dsimp only; rw [i1, i2]
  · split <;> rfl
theorem body_any (B : Nat) (T : Nat → Prop) (p : Ps) (fv cv : Value) (w : World) (hG : G w) (h : PsAt B T w p fv cv) (hl : p.inp.length ≤ 90000) (hu : p.und.length ≤ 90000) :
    Calls Tryz.prog 26 #[.pointer (some ⟨B, 0, none⟩)] w fun e w' => e = .returned (.bool (bodyQ p).2) ∧ PsPost B T w (bodyQ p).1 w' := by
  cases hc : p.ch with
  | none => exact body_none B T p fv cv w h hc hl
  | some c => exact body_some B T p fv cv c w hG h hc hl hu
theorem PsPost.keep {B : Nat} {T : Nat → Prop} {W W' : World} {p' : Ps} (h : PsPost B T W p' W') {a : Addr} {v : Value} (hc : W.cell? a = some v) (hn : ¬ T a.block) : W'.cell? a = some v := by
  obtain ⟨_, _, _, _, h2, _, _⟩ := h
  exact (h2.cell (cell_lt hc) hn).trans hc
theorem PsPost.keepf {B : Nat} {T : Nat → Prop} {W W' : World} {p' : Ps} (h : PsPost B T W p' W') {b : Nat} (hb : b < W.heap.size) (hn : ¬ T b) (hz : ∀ o, W.frozen? ⟨b, o, none⟩ = false) : ∀ o, W'.frozen? ⟨b, o, none⟩ = false := by
  obtain ⟨_, _, _, _, h2, _, _⟩ := h
  exact fun o => (h2.frozen (p := ⟨b, o, none⟩) hb hn).trans (hz o)
/-- The parser behind a request: its cells put anew. -/
theorem PsAt.reset {B : Nat} {T : Nat → Prop} {W : World} {p : Ps} {fv cv : Value} (h : PsAt B T W p fv cv) (i : List UInt8) :
    PsAt B T (((((((((((((W.setCell ⟨B, 0, none⟩ (.string ⟨i.toArray⟩)).setCell ⟨B, 1, none⟩ (.string ⟨#[]⟩)).setCell ⟨B, 2, none⟩ (.bool false)).setCell ⟨B, 3, none⟩ (.string ⟨#[]⟩)).setCell ⟨B, 4, none⟩ (.string ⟨#[]⟩)).setCell ⟨B, 5, none⟩ (.string ⟨#[]⟩)).setCell ⟨B, 6, none⟩ (.int .i64 0)).setCell ⟨B, 7, none⟩ (.slice none 0 0)).setCell ⟨B, 8, none⟩ (.string ⟨#[]⟩)).setCell ⟨B, 9, none⟩ (.bool false)).setCell ⟨B, 10, none⟩ (.int .i64 0)).setCell ⟨B, 11, none⟩ (.pointer none)).setCell ⟨B, 12, none⟩ (.int .i64 0))
      { ps0 with inp := i } (.slice none 0 0) (.pointer none) := by
  refine ⟨?_, ?_, ?_, ?_, ?_, ?_, ?_, ?_, ?_, ?_, ?_, ?_, ?_, fun o => by simp [go_sem, h.fz], ⟨none, 0, rfl, fun i hi => absurd hi (Nat.not_lt_zero _)⟩, fun a n c e => (by cases e), rfl, h.tb, fun k hk => ⟨(h.tl k hk).1, by simpa using (h.tl k hk).2⟩, h.gb, fun a n c e => (by cases e)⟩
  all_goals simp [go_sem, h.c0, h.c1, h.c2, h.c3, h.c4, h.c5, h.c6, h.c7, h.c8, h.c9, h.c10, h.c11, h.c12, ps0, rq0]
theorem chB13 {B : Nat} {T : Nat → Prop} (hT : T B) (W : World) (v0 v1 v2 v3 v4 v5 v6 v7 v8 v9 v10 v11 v12 : Value) :
    Ch T W (((((((((((((W.setCell ⟨B, 0, none⟩ v0).setCell ⟨B, 1, none⟩ v1).setCell ⟨B, 2, none⟩ v2).setCell ⟨B, 3, none⟩ v3).setCell ⟨B, 4, none⟩ v4).setCell ⟨B, 5, none⟩ v5).setCell ⟨B, 6, none⟩ v6).setCell ⟨B, 7, none⟩ v7).setCell ⟨B, 8, none⟩ v8).setCell ⟨B, 9, none⟩ v9).setCell ⟨B, 10, none⟩ v10).setCell ⟨B, 11, none⟩ v11).setCell ⟨B, 12, none⟩ v12) :=
  ((((((((((((Ch.setCell W (a := ⟨B, 0, none⟩) hT _).trans (Ch.setCell _ (a := ⟨B, 1, none⟩) hT _)).trans (Ch.setCell _ (a := ⟨B, 2, none⟩) hT _)).trans (Ch.setCell _ (a := ⟨B, 3, none⟩) hT _)).trans (Ch.setCell _ (a := ⟨B, 4, none⟩) hT _)).trans (Ch.setCell _ (a := ⟨B, 5, none⟩) hT _)).trans (Ch.setCell _ (a := ⟨B, 6, none⟩) hT _)).trans (Ch.setCell _ (a := ⟨B, 7, none⟩) hT _)).trans (Ch.setCell _ (a := ⟨B, 8, none⟩) hT _)).trans (Ch.setCell _ (a := ⟨B, 9, none⟩) hT _)).trans (Ch.setCell _ (a := ⟨B, 10, none⟩) hT _)).trans (Ch.setCell _ (a := ⟨B, 11, none⟩) hT _)).trans (Ch.setCell _ (a := ⟨B, 12, none⟩) hT _)
theorem chR7 {R : Nat} {T : Nat → Prop} (hT : T R) (W : World) (v0 v1 v2 v3 v4 v5 v6 : Value) :
    Ch T W (((((((W.setCell ⟨R, 0, none⟩ v0).setCell ⟨R, 1, none⟩ v1).setCell ⟨R, 2, none⟩ v2).setCell ⟨R, 3, none⟩ v3).setCell ⟨R, 4, none⟩ v4).setCell ⟨R, 5, none⟩ v5).setCell ⟨R, 6, none⟩ v6) :=
  ((((((Ch.setCell W (a := ⟨R, 0, none⟩) hT _).trans (Ch.setCell _ (a := ⟨R, 1, none⟩) hT _)).trans (Ch.setCell _ (a := ⟨R, 2, none⟩) hT _)).trans (Ch.setCell _ (a := ⟨R, 3, none⟩) hT _)).trans (Ch.setCell _ (a := ⟨R, 4, none⟩) hT _)).trans (Ch.setCell _ (a := ⟨R, 5, none⟩) hT _)).trans (Ch.setCell _ (a := ⟨R, 6, none⟩) hT _)
/-- What Next gives, and leaves. -/
def rqO : Option Rq → Rq
  | none => rq0
  | some r => r
def NextPost (B : Nat) (T : Nat → Prop) (w : World) (x : Ps × Option Rq) (e : Ending) (w' : World) : Prop :=
  ∃ rv T' fv cv, e = .returned (.tuple #[(rqO x.2).V rv, .bool x.2.isSome]) ∧ FieldsAt w' rv (rqO x.2).fs ∧ FOut T' rv ∧ (∀ a n c, rv = .slice (some a) n c → a.block < w'.heap.size) ∧ PsAt B T' w' x.1 fv cv ∧ Ch T w w' ∧ (∀ k, T' k → T k ∨ w.heap.size ≤ k)
/-- Behind a call: nothing of the parser lies in the result's variable (block R, made in this call). -/
theorem PsPost.apart {B R : Nat} {T : Nat → Prop} {w w1 W : World} {p p' : Ps} {fv0 cv0 : Value} (h : PsAt B T w p fv0 cv0) (hR : R = w.heap.size) (hg : Gr w w1) (hlt : R < w1.heap.size) (hp : PsPost B T w1 p' W) :
    ∃ T' fv cv, PsAt B T' W p' fv cv ∧ Ch T w W ∧ (∀ k, T' k → T k ∨ w.heap.size ≤ k) ∧ ¬ T' R ∧ (∀ a n c, fv = .slice (some a) n c → a.block ≠ R) := by
  obtain ⟨T', fv, cv, h1, h2, h3, h4⟩ := hp
  have hT : ∀ k, T k → k < w.heap.size := fun k hk => (h.tl k hk).2
  have hsz := Below.size hg
  refine ⟨T', fv, cv, h1, (hg.to_ch T).trans h2, fun k hk => (h3 k hk).imp id (fun e => by omega), fun e => ?_, fun a n c e => ?_⟩
  · rcases h3 R e with e | e
    · have := hT R e; omega
    · omega
  · rcases h4 a n c e with ⟨n0, c0, e2⟩ | e2
    · have h7 := hg.cell h.c7
      rw [h7] at e2
      have := h.fb a n0 c0 (Option.some.inj e2)
      omega
    · omega
theorem NextPost.no {B R : Nat} {T : Nat → Prop} {w w1 W : World} {p p' : Ps} {fv0 cv0 : Value} (h : PsAt B T w p fv0 cv0) (hR : R = w.heap.size) (hg : Gr w w1) (hlt : R < w1.heap.size) (hp : PsPost B T w1 p' W) (v0 v1 v2 v3 v4 v5 v6 : Value) :
    NextPost B T w (p', none) (.returned (.tuple #[.agg #[.string ⟨#[]⟩, .string ⟨#[]⟩, .string ⟨#[]⟩, .int .i64 0, .slice none 0 0, .string ⟨#[]⟩, .bool false], .bool false]))
      (((((((W.setCell ⟨R, 0, none⟩ v0).setCell ⟨R, 1, none⟩ v1).setCell ⟨R, 2, none⟩ v2).setCell ⟨R, 3, none⟩ v3).setCell ⟨R, 4, none⟩ v4).setCell ⟨R, 5, none⟩ v5).setCell ⟨R, 6, none⟩ v6) := by
  obtain ⟨T', fv, cv, h1, h2, h3, h4, h5⟩ := PsPost.apart h hR hg hlt hp
  have c2 := chR7 (T := fun k => k = R) (R := R) rfl W v0 v1 v2 v3 v4 v5 v6
  generalize (((((((W.setCell ⟨R, 0, none⟩ v0).setCell ⟨R, 1, none⟩ v1).setCell ⟨R, 2, none⟩ v2).setCell ⟨R, 3, none⟩ v3).setCell ⟨R, 4, none⟩ v4).setCell ⟨R, 5, none⟩ v5).setCell ⟨R, 6, none⟩ v6) = W3 at c2 ⊢
  refine ⟨.slice none 0 0, T', fv, cv, rfl, ⟨none, 0, rfl, fun i hi => absurd hi (Nat.not_lt_zero _)⟩, fun a n c e => (by cases e), fun a n c e => (by cases e), h1.ch_out c2 (fun k hk ht => h4 (by rw [← hk]; exact ht)) (fun a n c e hk => h5 a n c e hk), ?_, h3⟩
  exact ⟨c2.os.trans h2.os, c2.tape.trans h2.tape, c2.output.trans h2.output, Nat.le_trans h2.size c2.size, fun k hk hn => (c2.block k (Nat.lt_of_lt_of_le hk h2.size) (fun e => by omega)).trans (h2.block k hk hn)⟩
theorem NextPost.yes {B R : Nat} {T : Nat → Prop} {w w1 W W2 : World} {p p' : Ps} {fv0 cv0 rv : Value} {r : Rq} {i : List UInt8} (h : PsAt B T w p fv0 cv0) (hR : R = w.heap.size) (hg : Gr w w1) (hlt : R < w1.heap.size) (hp : PsPost B T w1 p' W)
    (hr : p'.r = r) (_hi : p'.inp = i) (h7 : W.cell? ⟨B, 7, none⟩ = some rv) (hg2 : Gr W W2) (v0 v1 v2 v3 v4 v5 v6 : Value) :
    NextPost B T w ({ ps0 with inp := i }, some r) (.returned (.tuple #[r.V rv, .bool true]))
      ((((((((((((((((((((W2.setCell ⟨B, 0, none⟩ (.string ⟨i.toArray⟩)).setCell ⟨B, 1, none⟩ (.string ⟨#[]⟩)).setCell ⟨B, 2, none⟩ (.bool false)).setCell ⟨B, 3, none⟩ (.string ⟨#[]⟩)).setCell ⟨B, 4, none⟩ (.string ⟨#[]⟩)).setCell ⟨B, 5, none⟩ (.string ⟨#[]⟩)).setCell ⟨B, 6, none⟩ (.int .i64 0)).setCell ⟨B, 7, none⟩ (.slice none 0 0)).setCell ⟨B, 8, none⟩ (.string ⟨#[]⟩)).setCell ⟨B, 9, none⟩ (.bool false)).setCell ⟨B, 10, none⟩ (.int .i64 0)).setCell ⟨B, 11, none⟩ (.pointer none)).setCell ⟨B, 12, none⟩ (.int .i64 0)).setCell ⟨R, 0, none⟩ v0).setCell ⟨R, 1, none⟩ v1).setCell ⟨R, 2, none⟩ v2).setCell ⟨R, 3, none⟩ v3).setCell ⟨R, 4, none⟩ v4).setCell ⟨R, 5, none⟩ v5).setCell ⟨R, 6, none⟩ v6) := by
  obtain ⟨T', fv, cv, h1, h2, h3, h4, h5⟩ := PsPost.apart h hR hg hlt hp
  have e7 : fv = rv := Option.some.inj (h1.c7.symm.trans h7)
  subst e7 hr
  have k1 := h1.gr hg2
  have k2 := k1.reset i
  have c1 := chB13 (T := T') h1.tb W2 (.string ⟨i.toArray⟩) (.string ⟨#[]⟩) (.bool false) (.string ⟨#[]⟩) (.string ⟨#[]⟩) (.string ⟨#[]⟩) (.int .i64 0) (.slice none 0 0) (.string ⟨#[]⟩) (.bool false) (.int .i64 0) (.pointer none) (.int .i64 0)
  generalize hW3 : (((((((((((((W2.setCell ⟨B, 0, none⟩ (.string ⟨i.toArray⟩)).setCell ⟨B, 1, none⟩ (.string ⟨#[]⟩)).setCell ⟨B, 2, none⟩ (.bool false)).setCell ⟨B, 3, none⟩ (.string ⟨#[]⟩)).setCell ⟨B, 4, none⟩ (.string ⟨#[]⟩)).setCell ⟨B, 5, none⟩ (.string ⟨#[]⟩)).setCell ⟨B, 6, none⟩ (.int .i64 0)).setCell ⟨B, 7, none⟩ (.slice none 0 0)).setCell ⟨B, 8, none⟩ (.string ⟨#[]⟩)).setCell ⟨B, 9, none⟩ (.bool false)).setCell ⟨B, 10, none⟩ (.int .i64 0)).setCell ⟨B, 11, none⟩ (.pointer none)).setCell ⟨B, 12, none⟩ (.int .i64 0)) = W3 at k2 c1 ⊢
  have c2 := chR7 (T := fun k => k = R) (R := R) rfl W3 v0 v1 v2 v3 v4 v5 v6
  have hs2 := Below.size hg2
  have hs1 := c1.size
  have hs3 := c2.size
  have hs0 := h2.size
  refine ⟨fv, T', .slice none 0 0, .pointer none, rfl, ((k1.f.ch c1 k1.fo).ch c2 (fun a n c e hk => h5 a n c e hk)), h1.fo, fun a n c e => ?_, k2.ch_out c2 (fun k hk ht => h4 (by rw [← hk]; exact ht)) (fun a n c e => by cases e), ?_, h3⟩
  · have := h1.fb a n c e; omega
  · refine ⟨c2.os.trans (c1.os.trans (hg2.os.trans h2.os)), c2.tape.trans (c1.tape.trans (hg2.tape.trans h2.tape)), c2.output.trans (c1.output.trans (hg2.output.trans h2.output)), by omega, fun k hk hn => ?_⟩
    have n1 : ¬ T' k := fun e => (h3 k e).elim hn (by omega)
    exact (c2.block k (by omega) (fun e => by omega)).trans ((c1.block k (by omega) n1).trans ((hg2.block k (by omega)).trans (h2.block k hk hn)))
set_option maxHeartbeats 16000000 in
set_option maxRecDepth 100000 in
theorem next_any (B : Nat) (T : Nat → Prop) (p : Ps) (fv cv : Value) (w : World) (hG : G w) (h : PsAt B T w p fv cv) (hl : p.inp.length + p.und.length ≤ 90000) :
    Calls Tryz.prog 11 #[.pointer (some ⟨B, 0, none⟩)] w (NextPost B T w (nextQ p)) := by
  have hG' := Lib.hid hG
  have h' := Lib.hid h
  have hR : ∀ (o : Nat) (u : Value), ([.string ⟨#[]⟩, .string ⟨#[]⟩, .string ⟨#[]⟩, .int .i64 0, .slice none 0 0, .string ⟨#[]⟩, .bool false] : List Value)[o]? = some u → _ := fun (o : Nat) (u : Value) (h : ([.string ⟨#[]⟩, .string ⟨#[]⟩, .string ⟨#[]⟩, .int .i64 0, .slice none 0 0, .string ⟨#[]⟩, .bool false] : List Value)[o]? = some u) => cell_new7 w [.string ⟨#[]⟩, .string ⟨#[]⟩, .string ⟨#[]⟩, .int .i64 0, .slice none 0 0, .string ⟨#[]⟩, .bool false] 27 o u h
  have r0 := hR 0 _ rfl
  have r1 := hR 1 _ rfl
  have r2 := hR 2 _ rfl
  have r3 := hR 3 _ rfl
  have r4 := hR 4 _ rfl
  have r5 := hR 5 _ rfl
  have r6 := hR 6 _ rfl
  have rf : ∀ o, (w.alloc (.cells #[.string ⟨#[]⟩, .string ⟨#[]⟩, .string ⟨#[]⟩, .int .i64 0, .slice none 0 0, .string ⟨#[]⟩, .bool false] 27)).frozen? ⟨w.heap.size, o, none⟩ = false := fun o => by simp [go_sem]
  have hlt : w.heap.size < (w.alloc (.cells #[.string ⟨#[]⟩, .string ⟨#[]⟩, .string ⟨#[]⟩, .int .i64 0, .slice none 0 0, .string ⟨#[]⟩, .bool false] 27)).heap.size := by simp
  have g1 := Gr.alloc w (.cells #[.string ⟨#[]⟩, .string ⟨#[]⟩, .string ⟨#[]⟩, .int .i64 0, .slice none 0 0, .string ⟨#[]⟩, .bool false] 27)
  clear hR
  go_enter Tryz.func11, Tryz.ntmps11
  go_upto_region 1 with (fail)
  obtain ⟨R, hRe⟩ : ∃ x, w.heap.size = x := ⟨_, rfl⟩
  rw [hRe] at r0 r1 r2 r3 r4 r5 r6 rf hlt ⊢
  generalize (w.alloc (.cells #[.string ⟨#[]⟩, .string ⟨#[]⟩, .string ⟨#[]⟩, .int .i64 0, .slice none 0 0, .string ⟨#[]⟩, .bool false] 27)) = w1 at r0 r1 r2 r3 r4 r5 r6 rf hlt g1 ⊢
  have hRe' := Lib.hid hRe
  have g1' := Lib.hid g1
  have hnT : ¬ T R := fun e => by have := (h.tl R e).2; omega
  have h1 := h.gr g1
  have h1' := Lib.hid h1
  have c12 := h1.c12
  have c2 := h1.c2
  clear h hRe g1
  by_cases hb : p.bad = 0
  · rw [hb] at c12
    have hq0 := Lib.hid (show nextQ p = if !(if p.head then p else headsQ p).head then ((if p.head then p else headsQ p), none) else if (bodyQ (if p.head then p else headsQ p)).2 then ({ ps0 with inp := (bodyQ (if p.head then p else headsQ p)).1.inp }, some (bodyQ (if p.head then p else headsQ p)).1.r) else ((bodyQ (if p.head then p else headsQ p)).1, none) by
      unfold nextQ
      rw [if_neg (by simpa using hb)])
    clear hb
    have hlen := headsQ_len p
    cases hh : p.head
    case' false =>
      rw [hh] at c2
      have hq1 : nextQ p = if !(headsQ p).head then (headsQ p, none) else if (bodyQ (headsQ p)).2 then ({ ps0 with inp := (bodyQ (headsQ p)).1.inp }, some (bodyQ (headsQ p)).1.r) else ((bodyQ (headsQ p)).1, none) := by
        rw [hq0.out, hh]; rfl
      obtain ⟨p2, hp2⟩ : ∃ x, headsQ p = x := ⟨_, rfl⟩
      have hca := Lib.hid (heads_any B T p fv cv w1 (hG'.out.gr g1'.out) h1'.out (by omega) (by omega))
      rw [hp2] at hq1 hca hlen
      have hq := Lib.hid hq1
      clear hq1 hp2 hh hq0 h1
      go_wp2_with fail
      refine hca.out.mono ?_
      rintro e w2 ⟨rfl, hp0⟩
      have hp := Lib.hid hp0
      clear hp0 hca c12 c2
    case' true =>
      rw [hh] at c2
      have hq1 : nextQ p = if !p.head then (p, none) else if (bodyQ p).2 then ({ ps0 with inp := (bodyQ p).1.inp }, some (bodyQ p).1.r) else ((bodyQ p).1, none) := by
        rw [hq0.out, if_pos hh]
      have hp0 : PsPost B T w1 p w1 := PsPost.of_gr h1'.out (Gr.refl _)
      replace hlen : p.inp.length + p.und.length = p.inp.length + p.und.length := rfl
      clear hh hq0 h1
      go_upto_region 5 with (fail)
      obtain ⟨w2, hw2, hp1⟩ : ∃ w2, w1 = w2 ∧ PsPost B T w1 p w2 := ⟨_, rfl, hp0⟩
      rw [hw2]
      obtain ⟨p2, hp2⟩ : ∃ x, p = x := ⟨_, rfl⟩
      rw [hp2] at hp1 hq1
      have hlen2 : p2.inp.length + p2.und.length = p.inp.length + p.und.length := by rw [hp2]
      replace hlen := hlen2
      have hp := Lib.hid hp1
      have hq := Lib.hid (show nextQ p = if !p2.head then (p2, none) else if (bodyQ p2).2 then ({ ps0 with inp := (bodyQ p2).1.inp }, some (bodyQ p2).1.r) else ((bodyQ p2).1, none) by rw [hp2]; exact hq1)
      clear hlen2 hp1 hp0 hw2 hq1 hp2 c12 c2
    all_goals
      have hp' := hp.out
      obtain ⟨T2, fv2, cv2, hP2, hC2, hS2, hF2⟩ := hp.out
      have hP2' := Lib.hid hP2
      have hC2' := Lib.hid hC2
      have hS2' := Lib.hid hS2
      have hF2' := Lib.hid hF2
      have c2 := hP2.c2
      have s0 := hp'.keep r0 hnT
      have s1 := hp'.keep r1 hnT
      have s2 := hp'.keep r2 hnT
      have s3 := hp'.keep r3 hnT
      have s4 := hp'.keep r4 hnT
      have s5 := hp'.keep r5 hnT
      have s6 := hp'.keep r6 hnT
      have sf := hp'.keepf hlt hnT rf
      have hG2 := Lib.hid (hp'.G h1'.out (hG'.out.gr g1'.out))
      have hba := Lib.hid (body_any B T2 p2 fv2 cv2 w2 hG2.out hP2 (by omega) (by omega))
      clear hP2 hC2 hS2 hF2 hp'
      cases hh2 : p2.head
      · rw [hh2] at c2
        have hq2 := Lib.hid (show nextQ p = (p2, none) by rw [hq.out, hh2]; rfl)
        clear hh2 hq r0 r1 r2 r3 r4 r5 r6 rf hba
        go_wp2
        refine bodyPost_ret (v := .tuple #[.agg #[.string ⟨#[]⟩, .string ⟨#[]⟩, .string ⟨#[]⟩, .int .i64 0, .slice none 0 0, .string ⟨#[]⟩, .bool false], .bool false]) (by simp [results, Tryz.results11, go_sem, s0, s1, s2, s3, s4, s5, s6]) rfl ?_
        rw [hq2.out]
        exact NextPost.no h'.out hRe'.out.symm g1'.out hlt hp.out _ _ _ _ _ _ _
      · rw [hh2] at c2
        obtain ⟨⟨p3, bb⟩, hx⟩ : ∃ x, bodyQ p2 = x := ⟨_, rfl⟩
        have hq2 := Lib.hid (show nextQ p = if bb then ({ ps0 with inp := p3.inp }, some p3.r) else (p3, none) by rw [hq.out, hh2, hx]; rfl)
        rw [hx] at hba
        dsimp only at hba
        clear hh2 hq hx s0 s1 s2 s3 s4 s5 s6 sf
        go_wp2_with fail
        refine hba.out.mono ?_
        rintro e w3 ⟨rfl, hb3⟩
        have hp3 := Lib.hid (PsPost.next hP2'.out hC2'.out ⟨hS2'.out, hF2'.out⟩ hb3)
        have s0 := hp3.out.keep r0 hnT
        have s1 := hp3.out.keep r1 hnT
        have s2 := hp3.out.keep r2 hnT
        have s3 := hp3.out.keep r3 hnT
        have s4 := hp3.out.keep r4 hnT
        have s5 := hp3.out.keep r5 hnT
        have s6 := hp3.out.keep r6 hnT
        have sf := hp3.out.keepf hlt hnT rf
        clear hba hb3 hP2' hC2' hS2' hF2' r0 r1 r2 r3 r4 r5 r6 rf c2
        cases bb with
        | false =>
          go_wp2
          refine bodyPost_ret (v := .tuple #[.agg #[.string ⟨#[]⟩, .string ⟨#[]⟩, .string ⟨#[]⟩, .int .i64 0, .slice none 0 0, .string ⟨#[]⟩, .bool false], .bool false]) (by simp [results, Tryz.results11, go_sem, s0, s1, s2, s3, s4, s5, s6]) rfl ?_
          rw [hq2.out]
          exact NextPost.no h'.out hRe'.out.symm g1'.out hlt hp3.out _ _ _ _ _ _ _
        | true =>
          obtain ⟨T3, fv3, cv3, hP3, _, hS3, _⟩ := hp3.out
          obtain ⟨inp3, und3, head3, ⟨m3, pa3, q3, v3, fs3, b3, cl3⟩, len3, ch3, bad3⟩ := p3
          have d0 := hP3.c0
          have d1 := hP3.c1
          have d2 := hP3.c2
          have d3 := hP3.c3
          have d4 := hP3.c4
          have d5 := hP3.c5
          have d6 := hP3.c6
          have d7 := hP3.c7
          have d8 := hP3.c8
          have d9 := hP3.c9
          have d10 := hP3.c10
          have d11 := hP3.c11
          have d12 := hP3.c12
          have dz := hP3.fz
          dsimp only at d0 d1 d2 d3 d4 d5 d6 d7 d8 d9 d10 d11 d12
          obtain ⟨pf, capf, hfv, _⟩ := hP3.f
          subst hfv
          have hlt3 := hP3.lt
          have hR3 := cell_lt s0
          have d7' := d7
          clear hP3 hS3
          go_upto_region 8 with (fail)
          have g4 := Gr.alloc w3 (.cells #[.string ⟨m3.toArray⟩, .string ⟨pa3.toArray⟩, .string ⟨q3.toArray⟩, .int .i64 v3, .slice pf fs3.length capf, .string ⟨b3.toArray⟩, .bool cl3] 27)
          have y0 := cell_new7 w3 [.string ⟨m3.toArray⟩, .string ⟨pa3.toArray⟩, .string ⟨q3.toArray⟩, .int .i64 v3, .slice pf fs3.length capf, .string ⟨b3.toArray⟩, .bool cl3] 27 0 _ rfl
          have y1 := cell_new7 w3 [.string ⟨m3.toArray⟩, .string ⟨pa3.toArray⟩, .string ⟨q3.toArray⟩, .int .i64 v3, .slice pf fs3.length capf, .string ⟨b3.toArray⟩, .bool cl3] 27 1 _ rfl
          have y2 := cell_new7 w3 [.string ⟨m3.toArray⟩, .string ⟨pa3.toArray⟩, .string ⟨q3.toArray⟩, .int .i64 v3, .slice pf fs3.length capf, .string ⟨b3.toArray⟩, .bool cl3] 27 2 _ rfl
          have y3 := cell_new7 w3 [.string ⟨m3.toArray⟩, .string ⟨pa3.toArray⟩, .string ⟨q3.toArray⟩, .int .i64 v3, .slice pf fs3.length capf, .string ⟨b3.toArray⟩, .bool cl3] 27 3 _ rfl
          have y4 := cell_new7 w3 [.string ⟨m3.toArray⟩, .string ⟨pa3.toArray⟩, .string ⟨q3.toArray⟩, .int .i64 v3, .slice pf fs3.length capf, .string ⟨b3.toArray⟩, .bool cl3] 27 4 _ rfl
          have y5 := cell_new7 w3 [.string ⟨m3.toArray⟩, .string ⟨pa3.toArray⟩, .string ⟨q3.toArray⟩, .int .i64 v3, .slice pf fs3.length capf, .string ⟨b3.toArray⟩, .bool cl3] 27 5 _ rfl
          have y6 := cell_new7 w3 [.string ⟨m3.toArray⟩, .string ⟨pa3.toArray⟩, .string ⟨q3.toArray⟩, .int .i64 v3, .slice pf fs3.length capf, .string ⟨b3.toArray⟩, .bool cl3] 27 6 _ rfl
          replace d0 := g4.cell d0
          replace d1 := g4.cell d1
          replace d2 := g4.cell d2
          replace d3 := g4.cell d3
          replace d4 := g4.cell d4
          replace d5 := g4.cell d5
          replace d6 := g4.cell d6
          replace d7 := g4.cell d7
          replace d8 := g4.cell d8
          replace d9 := g4.cell d9
          replace d10 := g4.cell d10
          replace d11 := g4.cell d11
          replace d12 := g4.cell d12
          replace s0 := g4.cell s0
          replace s1 := g4.cell s1
          replace s2 := g4.cell s2
          replace s3 := g4.cell s3
          replace s4 := g4.cell s4
          replace s5 := g4.cell s5
          replace s6 := g4.cell s6
          have hB3 : B < w3.heap.size := hlt3
          replace dz := fun o => (Below.frozen g4 (show (⟨B, o, none⟩ : Addr).block < w3.heap.size from hB3)).trans (dz o)
          replace sf := fun o => (Below.frozen g4 (show (⟨R, o, none⟩ : Addr).block < w3.heap.size from hR3)).trans (sf o)
          have hQB : w3.heap.size ≠ B := by omega
          have hRB : R ≠ B := by have := h'.out.lt; have := hRe'.out; omega
          have hfin := Lib.hid (fun v0 v1 v2 v3' v4 v5 v6 => NextPost.yes (W2 := (w3.alloc (.cells #[.string ⟨m3.toArray⟩, .string ⟨pa3.toArray⟩, .string ⟨q3.toArray⟩, .int .i64 v3, .slice pf fs3.length capf, .string ⟨b3.toArray⟩, .bool cl3] 27))) h'.out hRe'.out.symm g1'.out hlt hp3.out rfl rfl d7' g4 v0 v1 v2 v3' v4 v5 v6)
          clear hB3 hR3 hlt3 g4 d7'
          generalize (w3.alloc (.cells #[.string ⟨m3.toArray⟩, .string ⟨pa3.toArray⟩, .string ⟨q3.toArray⟩, .int .i64 v3, .slice pf fs3.length capf, .string ⟨b3.toArray⟩, .bool cl3] 27)) = w4 at *
          go_upto_region 9 with (fail)
          have c13 := chB13 (T := fun k => k = B) rfl w4 (.string ⟨inp3.toArray⟩) (.string ⟨#[]⟩) (.bool false) (.string ⟨#[]⟩) (.string ⟨#[]⟩) (.string ⟨#[]⟩) (.int .i64 0) (.slice none 0 0) (.string ⟨#[]⟩) (.bool false) (.int .i64 0) (.pointer none) (.int .i64 0)
          have s0' := s0
          have hRw : R < w4.heap.size := cell_lt s0
          replace y0 := (c13.cell (cell_lt y0) hQB).trans y0
          replace y1 := (c13.cell (cell_lt y1) hQB).trans y1
          replace y2 := (c13.cell (cell_lt y2) hQB).trans y2
          replace y3 := (c13.cell (cell_lt y3) hQB).trans y3
          replace y4 := (c13.cell (cell_lt y4) hQB).trans y4
          replace y5 := (c13.cell (cell_lt y5) hQB).trans y5
          replace y6 := (c13.cell (cell_lt y6) hQB).trans y6
          replace s0 := (c13.cell (cell_lt s0) hRB).trans s0
          replace s1 := (c13.cell (cell_lt s1) hRB).trans s1
          replace s2 := (c13.cell (cell_lt s2) hRB).trans s2
          replace s3 := (c13.cell (cell_lt s3) hRB).trans s3
          replace s4 := (c13.cell (cell_lt s4) hRB).trans s4
          replace s5 := (c13.cell (cell_lt s5) hRB).trans s5
          replace s6 := (c13.cell (cell_lt s6) hRB).trans s6
          replace sf := fun o => (c13.frozen (p := ⟨R, o, none⟩) hRw hRB).trans (sf o)
          clear c13 d0 d1 d2 d3 d4 d5 d6 d7 d8 d9 d10 d11 d12 dz
          generalize (((((((((((((w4.setCell ⟨B, 0, none⟩ (.string ⟨inp3.toArray⟩)).setCell ⟨B, 1, none⟩ (.string ⟨#[]⟩)).setCell ⟨B, 2, none⟩ (.bool false)).setCell ⟨B, 3, none⟩ (.string ⟨#[]⟩)).setCell ⟨B, 4, none⟩ (.string ⟨#[]⟩)).setCell ⟨B, 5, none⟩ (.string ⟨#[]⟩)).setCell ⟨B, 6, none⟩ (.int .i64 0)).setCell ⟨B, 7, none⟩ (.slice none 0 0)).setCell ⟨B, 8, none⟩ (.string ⟨#[]⟩)).setCell ⟨B, 9, none⟩ (.bool false)).setCell ⟨B, 10, none⟩ (.int .i64 0)).setCell ⟨B, 11, none⟩ (.pointer none)).setCell ⟨B, 12, none⟩ (.int .i64 0)) = w5 at hfin y0 y1 y2 y3 y4 y5 y6 s0 s1 s2 s3 s4 s5 s6 sf ⊢
          clear s0' hRw
          go_wp2
          refine bodyPost_ret (v := .tuple #[.agg #[.string ⟨m3.toArray⟩, .string ⟨pa3.toArray⟩, .string ⟨q3.toArray⟩, .int .i64 v3, .slice pf fs3.length capf, .string ⟨b3.toArray⟩, .bool cl3], .bool true]) (by simp [results, Tryz.results11, go_sem, s0, s1, s2, s3, s4, s5, s6]) rfl ?_
          rw [hq2.out]
          exact hfin.out _ _ _ _ _ _ _
  · have hbI : ((p.bad : Int) != 0) = true := by rw [bne_iff_ne]; omega
    have hq := Lib.hid (show nextQ p = (p, none) by unfold nextQ; rw [if_pos hb])
    clear hb h1
    go_wp2
    refine bodyPost_ret (v := .tuple #[.agg #[.string ⟨#[]⟩, .string ⟨#[]⟩, .string ⟨#[]⟩, .int .i64 0, .slice none 0 0, .string ⟨#[]⟩, .bool false], .bool false]) (by simp [results, Tryz.results11, go_sem, r0, r1, r2, r3, r4, r5, r6]) rfl ?_
    rw [hq.out]
    exact NextPost.no h'.out hRe'.out.symm g1'.out hlt (PsPost.of_gr h1'.out (Gr.refl _)) _ _ _ _ _ _ _
end Go.Proofs.YtpncfeaaffgkfaaGreatDoor
