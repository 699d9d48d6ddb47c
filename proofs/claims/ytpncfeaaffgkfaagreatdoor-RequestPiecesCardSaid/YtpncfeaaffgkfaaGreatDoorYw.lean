/-
  Requests: the walk over Next once more, with where the rows of fields lie. (Printed by mk_yw.py.)
  Requests: helpers for RequestPieces: a parser beside rows of requests; bytes that come in pieces.
-/
import Derived.Test.YtpncfeaaffgkfaaGreatDoorYr
import Derived.Test.YtpncfeaaffgkfaaGreatDoorKl
namespace Go.Proofs.YtpncfeaaffgkfaaGreatDoor
open Go.RowKit
attribute [local go_sem] Oper.semAt_some

/-- A row that the parser had, or a new one. -/
def RowOf (B : Nat) (w : World) (a : Addr) : Prop := (∃ n0 c0, w.cell? ⟨B, 7, none⟩ = some (.slice (some a) n0 c0)) ∨ w.heap.size ≤ a.block
def NextPostW (B : Nat) (T : Nat → Prop) (w : World) (x : Ps × Option Rq) (e : Ending) (w' : World) : Prop :=
  ∃ rv T' fv cv, e = .returned (.tuple #[(rqO x.2).V rv, .bool x.2.isSome]) ∧ FieldsAt w' rv (rqO x.2).fs ∧ FOut T' rv ∧ (∀ a n c, rv = .slice (some a) n c → a.block < w'.heap.size) ∧ PsAt B T' w' x.1 fv cv ∧ Ch T w w' ∧ (∀ k, T' k → T k ∨ w.heap.size ≤ k) ∧
    (∀ a n c, rv = .slice (some a) n c → RowOf B w a) ∧ ∀ a n c, fv = .slice (some a) n c → RowOf B w a
theorem PsPost.apart2 {B R : Nat} {T : Nat → Prop} {w w1 W : World} {p p' : Ps} {fv0 cv0 : Value} (h : PsAt B T w p fv0 cv0) (hR : R = w.heap.size) (hg : Gr w w1) (hlt : R < w1.heap.size) (hp : PsPost B T w1 p' W) :
    ∃ T' fv cv, PsAt B T' W p' fv cv ∧ Ch T w W ∧ (∀ k, T' k → T k ∨ w.heap.size ≤ k) ∧ ¬ T' R ∧ (∀ a n c, fv = .slice (some a) n c → a.block ≠ R) ∧ ∀ a n c, fv = .slice (some a) n c → RowOf B w a := by
  obtain ⟨T', fv, cv, h1, h2, h3, h4, h5⟩ := PsPost.apart h hR hg hlt hp
  refine ⟨T', fv, cv, h1, h2, h3, h4, h5, fun a n c e => ?_⟩
  obtain ⟨T2, fv2, cv2, k1, _, _, k4⟩ := hp
  have e7 : fv2 = fv := Option.some.inj (k1.c7.symm.trans h1.c7)
  rcases k4 a n c (e7.trans e) with ⟨n0, c0, e2⟩ | e2
  · exact .inl ⟨n0, c0, (Below.cell hg (p := ⟨B, 7, none⟩) h.lt).symm.trans e2⟩
  · exact .inr (Nat.le_trans (Below.size hg) e2)
theorem NextPostW.no {B R : Nat} {T : Nat → Prop} {w w1 W : World} {p p' : Ps} {fv0 cv0 : Value} (h : PsAt B T w p fv0 cv0) (hR : R = w.heap.size) (hg : Gr w w1) (hlt : R < w1.heap.size) (hp : PsPost B T w1 p' W) (v0 v1 v2 v3 v4 v5 v6 : Value) :
    NextPostW B T w (p', none) (.returned (.tuple #[.agg #[.string ⟨#[]⟩, .string ⟨#[]⟩, .string ⟨#[]⟩, .int .i64 0, .slice none 0 0, .string ⟨#[]⟩, .bool false], .bool false]))
      (((((((W.setCell ⟨R, 0, none⟩ v0).setCell ⟨R, 1, none⟩ v1).setCell ⟨R, 2, none⟩ v2).setCell ⟨R, 3, none⟩ v3).setCell ⟨R, 4, none⟩ v4).setCell ⟨R, 5, none⟩ v5).setCell ⟨R, 6, none⟩ v6) := by
  obtain ⟨T', fv, cv, h1, h2, h3, h4, h5, h8⟩ := PsPost.apart2 h hR hg hlt hp
  have c2 := chR7 (T := fun k => k = R) (R := R) rfl W v0 v1 v2 v3 v4 v5 v6
  generalize (((((((W.setCell ⟨R, 0, none⟩ v0).setCell ⟨R, 1, none⟩ v1).setCell ⟨R, 2, none⟩ v2).setCell ⟨R, 3, none⟩ v3).setCell ⟨R, 4, none⟩ v4).setCell ⟨R, 5, none⟩ v5).setCell ⟨R, 6, none⟩ v6) = W3 at c2 ⊢
  refine ⟨.slice none 0 0, T', fv, cv, rfl, ⟨none, 0, rfl, fun i hi => absurd hi (Nat.not_lt_zero _)⟩, fun a n c e => (by cases e), fun a n c e => (by cases e), h1.ch_out c2 (fun k hk ht => h4 (by rw [← hk]; exact ht)) (fun a n c e hk => h5 a n c e hk), ?_, h3, fun a n c e => (by cases e), h8⟩
  exact ⟨c2.os.trans h2.os, c2.tape.trans h2.tape, c2.output.trans h2.output, Nat.le_trans h2.size c2.size, fun k hk hn => (c2.block k (Nat.lt_of_lt_of_le hk h2.size) (fun e => by omega)).trans (h2.block k hk hn)⟩
theorem NextPostW.yes {B R : Nat} {T : Nat → Prop} {w w1 W W2 : World} {p p' : Ps} {fv0 cv0 rv : Value} {r : Rq} {i : List UInt8} (h : PsAt B T w p fv0 cv0) (hR : R = w.heap.size) (hg : Gr w w1) (hlt : R < w1.heap.size) (hp : PsPost B T w1 p' W)
    (hr : p'.r = r) (_hi : p'.inp = i) (h7 : W.cell? ⟨B, 7, none⟩ = some rv) (hg2 : Gr W W2) (v0 v1 v2 v3 v4 v5 v6 : Value) :
    NextPostW B T w ({ ps0 with inp := i }, some r) (.returned (.tuple #[r.V rv, .bool true]))
      ((((((((((((((((((((W2.setCell ⟨B, 0, none⟩ (.string ⟨i.toArray⟩)).setCell ⟨B, 1, none⟩ (.string ⟨#[]⟩)).setCell ⟨B, 2, none⟩ (.bool false)).setCell ⟨B, 3, none⟩ (.string ⟨#[]⟩)).setCell ⟨B, 4, none⟩ (.string ⟨#[]⟩)).setCell ⟨B, 5, none⟩ (.string ⟨#[]⟩)).setCell ⟨B, 6, none⟩ (.int .i64 0)).setCell ⟨B, 7, none⟩ (.slice none 0 0)).setCell ⟨B, 8, none⟩ (.string ⟨#[]⟩)).setCell ⟨B, 9, none⟩ (.bool false)).setCell ⟨B, 10, none⟩ (.int .i64 0)).setCell ⟨B, 11, none⟩ (.pointer none)).setCell ⟨B, 12, none⟩ (.int .i64 0)).setCell ⟨R, 0, none⟩ v0).setCell ⟨R, 1, none⟩ v1).setCell ⟨R, 2, none⟩ v2).setCell ⟨R, 3, none⟩ v3).setCell ⟨R, 4, none⟩ v4).setCell ⟨R, 5, none⟩ v5).setCell ⟨R, 6, none⟩ v6) := by
  obtain ⟨T', fv, cv, h1, h2, h3, h4, h5, h8⟩ := PsPost.apart2 h hR hg hlt hp
  have e7 : fv = rv := Option.some.inj (h1.c7.symm.trans h7)
  subst e7 hr
  have k1 := h1.gr hg2
  have k2 := k1.reset i
  have c1 := chB13 (T := T') h1.tb W2 (.string ⟨i.toArray⟩) (.string ⟨#[]⟩) (.bool false) (.string ⟨#[]⟩) (.string ⟨#[]⟩) (.string ⟨#[]⟩) (.int .i64 0) (.slice none 0 0) (.string ⟨#[]⟩) (.bool false) (.int .i64 0) (.pointer none) (.int .i64 0)
  generalize hW3 : (((((((((((((W2.setCell ⟨B, 0, none⟩ (.string ⟨i.toArray⟩)).setCell ⟨B, 1, none⟩ (.string ⟨#[]⟩)).setCell ⟨B, 2, none⟩ (.bool false)).setCell ⟨B, 3, none⟩ (.string ⟨#[]⟩)).setCell ⟨B, 4, none⟩ (.string ⟨#[]⟩)).setCell ⟨B, 5, none⟩ (.string ⟨#[]⟩)).setCell ⟨B, 6, none⟩ (.int .i64 0)).setCell ⟨B, 7, none⟩ (.slice none 0 0)).setCell ⟨B, 8, none⟩ (.string ⟨#[]⟩)).setCell ⟨B, 9, none⟩ (.bool false)).setCell ⟨B, 10, none⟩ (.int .i64 0)).setCell ⟨B, 11, none⟩ (.pointer none)).setCell ⟨B, 12, none⟩ (.int .i64 0)) = W3 at k2 c1 ⊢
  have c2 := chR7 (T := fun k => k = R) (R := R) rfl W3 v0 v1 v2 v3 v4 v5 v6
  have hs2 := Below.size hg2
  have hs1 := c1.size
  have hs3 := c2.size
  have hs0 := h2.size
  refine ⟨fv, T', .slice none 0 0, .pointer none, rfl, ((k1.f.ch c1 k1.fo).ch c2 (fun a n c e hk => h5 a n c e hk)), h1.fo, fun a n c e => ?_, k2.ch_out c2 (fun k hk ht => h4 (by rw [← hk]; exact ht)) (fun a n c e => by cases e), ?_, h3, h8, fun a n c e => (by cases e)⟩
  · have := h1.fb a n c e; omega
  · refine ⟨c2.os.trans (c1.os.trans (hg2.os.trans h2.os)), c2.tape.trans (c1.tape.trans (hg2.tape.trans h2.tape)), c2.output.trans (c1.output.trans (hg2.output.trans h2.output)), by omega, fun k hk hn => ?_⟩
    have n1 : ¬ T' k := fun e => (h3 k e).elim hn (by omega)
    exact (c2.block k (by omega) (fun e => by omega)).trans ((c1.block k (by omega) n1).trans ((hg2.block k (by omega)).trans (h2.block k hk hn)))
set_option maxHeartbeats 16000000 in
set_option maxRecDepth 100000 in
theorem next_any2 (B : Nat) (T : Nat → Prop) (p : Ps) (fv cv : Value) (w : World) (hG : G w) (h : PsAt B T w p fv cv) (hl : p.inp.length + p.und.length ≤ 90000) :
    Calls Tryz.prog 11 #[.pointer (some ⟨B, 0, none⟩)] w (NextPostW B T w (nextQ p)) := by
  have hG' := Lib.hid hG
  have h' := Lib.hid h
  have hR : ∀ (o : Nat) (u : Value), ([.string ⟨#[]⟩, .string ⟨#[]⟩, .string ⟨#[]⟩, .int .i64 0, .slice none 0 0, .string ⟨#[]⟩, .bool false] : List Value)[o]? = some u → _ := fun (o : Nat) (u : Value) (h : ([.string ⟨#[]⟩, .string ⟨#[]⟩, .string ⟨#[]⟩, .int .i64 0, .slice none 0 0, .string ⟨#[]⟩, .bool false] : List Value)[o]? = some u) => cell_new7 w [.string ⟨#[]⟩, .string ⟨#[]⟩, .string ⟨#[]⟩, .int .i64 0, .slice none 0 0, .string ⟨#[]⟩, .bool false] 27 o u h
  have r0 := hR 0 _ rfl
  have r1 := hR 1 _ rfl
  have r2 := hR 2 _ rfl
  have r3 := hR 3 _ rfl
  have r4 := hR 4 _ rfl
  have r5 := hR 5 _ rfl
  have r6 := hR 6 _ rfl
  have rf : ∀ o, (w.alloc (.cells #[.string ⟨#[]⟩, .string ⟨#[]⟩, .string ⟨#[]⟩, .int .i64 0, .slice none 0 0, .string ⟨#[]⟩, .bool false] 27)).frozen? ⟨w.heap.size, o, none⟩ = false := fun o => by simp [go_sem]
  have hlt : w.heap.size < (w.alloc (.cells #[.string ⟨#[]⟩, .string ⟨#[]⟩, .string ⟨#[]⟩, .int .i64 0, .slice none 0 0, .string ⟨#[]⟩, .bool false] 27)).heap.size := by simp
  have g1 := Gr.alloc w (.cells #[.string ⟨#[]⟩, .string ⟨#[]⟩, .string ⟨#[]⟩, .int .i64 0, .slice none 0 0, .string ⟨#[]⟩, .bool false] 27)
  clear hR
  go_enter Tryz.func11, Tryz.ntmps11
  go_upto_region 1 with (fail)
  obtain ⟨R, hRe⟩ : ∃ x, w.heap.size = x := ⟨_, rfl⟩
  rw [hRe] at r0 r1 r2 r3 r4 r5 r6 rf hlt ⊢
  generalize (w.alloc (.cells #[.string ⟨#[]⟩, .string ⟨#[]⟩, .string ⟨#[]⟩, .int .i64 0, .slice none 0 0, .string ⟨#[]⟩, .bool false] 27)) = w1 at r0 r1 r2 r3 r4 r5 r6 rf hlt g1 ⊢
  have hRe' := Lib.hid hRe
  have g1' := Lib.hid g1
  have hnT : ¬ T R := fun e => by have := (h.tl R e).2; omega
  have h1 := h.gr g1
  have h1' := Lib.hid h1
  have c12 := h1.c12
  have c2 := h1.c2
  clear h hRe g1
  by_cases hb : p.bad = 0
  · rw [hb] at c12
    have hq0 := Lib.hid (show nextQ p = if !(if p.head then p else headsQ p).head then ((if p.head then p else headsQ p), none) else if (bodyQ (if p.head then p else headsQ p)).2 then ({ ps0 with inp := (bodyQ (if p.head then p else headsQ p)).1.inp }, some (bodyQ (if p.head then p else headsQ p)).1.r) else ((bodyQ (if p.head then p else headsQ p)).1, none) by
      unfold nextQ
      rw [if_neg (by simpa using hb)])
    clear hb
    have hlen := headsQ_len p
    cases hh : p.head
    case' false =>
      rw [hh] at c2
      have hq1 : nextQ p = if !(headsQ p).head then (headsQ p, none) else if (bodyQ (headsQ p)).2 then ({ ps0 with inp := (bodyQ (headsQ p)).1.inp }, some (bodyQ (headsQ p)).1.r) else ((bodyQ (headsQ p)).1, none) := by
        rw [hq0.out, hh]; rfl
      obtain ⟨p2, hp2⟩ : ∃ x, headsQ p = x := ⟨_, rfl⟩
      have hca := Lib.hid (heads_any B T p fv cv w1 (hG'.out.gr g1'.out) h1'.out (by omega) (by omega))
      rw [hp2] at hq1 hca hlen
      have hq := Lib.hid hq1
      clear hq1 hp2 hh hq0 h1
      go_wp2_with fail
      refine hca.out.mono ?_
      rintro e w2 ⟨rfl, hp0⟩
      have hp := Lib.hid hp0
      clear hp0 hca c12 c2
    case' true =>
      rw [hh] at c2
      have hq1 : nextQ p = if !p.head then (p, none) else if (bodyQ p).2 then ({ ps0 with inp := (bodyQ p).1.inp }, some (bodyQ p).1.r) else ((bodyQ p).1, none) := by
        rw [hq0.out, if_pos hh]
      have hp0 : PsPost B T w1 p w1 := PsPost.of_gr h1'.out (Gr.refl _)
      replace hlen : p.inp.length + p.und.length = p.inp.length + p.und.length := rfl
      clear hh hq0 h1
      go_upto_region 5 with (fail)
      obtain ⟨w2, hw2, hp1⟩ : ∃ w2, w1 = w2 ∧ PsPost B T w1 p w2 := ⟨_, rfl, hp0⟩
      rw [hw2]
      obtain ⟨p2, hp2⟩ : ∃ x, p = x := ⟨_, rfl⟩
      rw [hp2] at hp1 hq1
      have hlen2 : p2.inp.length + p2.und.length = p.inp.length + p.und.length := by rw [hp2]
      replace hlen := hlen2
      have hp := Lib.hid hp1
      have hq := Lib.hid (show nextQ p = if !p2.head then (p2, none) else if (bodyQ p2).2 then ({ ps0 with inp := (bodyQ p2).1.inp }, some (bodyQ p2).1.r) else ((bodyQ p2).1, none) by rw [hp2]; exact hq1)
      clear hlen2 hp1 hp0 hw2 hq1 hp2 c12 c2
    all_goals
      have hp' := hp.out
      obtain ⟨T2, fv2, cv2, hP2, hC2, hS2, hF2⟩ := hp.out
      have hP2' := Lib.hid hP2
      have hC2' := Lib.hid hC2
      have hS2' := Lib.hid hS2
      have hF2' := Lib.hid hF2
      have c2 := hP2.c2
      have s0 := hp'.keep r0 hnT
      have s1 := hp'.keep r1 hnT
      have s2 := hp'.keep r2 hnT
      have s3 := hp'.keep r3 hnT
      have s4 := hp'.keep r4 hnT
      have s5 := hp'.keep r5 hnT
      have s6 := hp'.keep r6 hnT
      have sf := hp'.keepf hlt hnT rf
      have hG2 := Lib.hid (hp'.G h1'.out (hG'.out.gr g1'.out))
      have hba := Lib.hid (body_any B T2 p2 fv2 cv2 w2 hG2.out hP2 (by omega) (by omega))
      clear hP2 hC2 hS2 hF2 hp'
      cases hh2 : p2.head
      · rw [hh2] at c2
        have hq2 := Lib.hid (show nextQ p = (p2, none) by rw [hq.out, hh2]; rfl)
        clear hh2 hq r0 r1 r2 r3 r4 r5 r6 rf hba
        go_wp2
        refine bodyPost_ret (v := .tuple #[.agg #[.string ⟨#[]⟩, .string ⟨#[]⟩, .string ⟨#[]⟩, .int .i64 0, .slice none 0 0, .string ⟨#[]⟩, .bool false], .bool false]) (by simp [results, Tryz.results11, go_sem, s0, s1, s2, s3, s4, s5, s6]) rfl ?_
        rw [hq2.out]
        exact NextPostW.no h'.out hRe'.out.symm g1'.out hlt hp.out _ _ _ _ _ _ _
      · rw [hh2] at c2
        obtain ⟨⟨p3, bb⟩, hx⟩ : ∃ x, bodyQ p2 = x := ⟨_, rfl⟩
        have hq2 := Lib.hid (show nextQ p = if bb then ({ ps0 with inp := p3.inp }, some p3.r) else (p3, none) by rw [hq.out, hh2, hx]; rfl)
        rw [hx] at hba
        dsimp only at hba
        clear hh2 hq hx s0 s1 s2 s3 s4 s5 s6 sf
        go_wp2_with fail
        refine hba.out.mono ?_
        rintro e w3 ⟨rfl, hb3⟩
        have hp3 := Lib.hid (PsPost.next hP2'.out hC2'.out ⟨hS2'.out, hF2'.out⟩ hb3)
        have s0 := hp3.out.keep r0 hnT
        have s1 := hp3.out.keep r1 hnT
        have s2 := hp3.out.keep r2 hnT
        have s3 := hp3.out.keep r3 hnT
        have s4 := hp3.out.keep r4 hnT
        have s5 := hp3.out.keep r5 hnT
        have s6 := hp3.out.keep r6 hnT
        have sf := hp3.out.keepf hlt hnT rf
        clear hba hb3 hP2' hC2' hS2' hF2' r0 r1 r2 r3 r4 r5 r6 rf c2
        cases bb with
        | false =>
          go_wp2
          refine bodyPost_ret (v := .tuple #[.agg #[.string ⟨#[]⟩, .string ⟨#[]⟩, .string ⟨#[]⟩, .int .i64 0, .slice none 0 0, .string ⟨#[]⟩, .bool false], .bool false]) (by simp [results, Tryz.results11, go_sem, s0, s1, s2, s3, s4, s5, s6]) rfl ?_
          rw [hq2.out]
          exact NextPostW.no h'.out hRe'.out.symm g1'.out hlt hp3.out _ _ _ _ _ _ _
        | true =>
          obtain ⟨T3, fv3, cv3, hP3, _, hS3, _⟩ := hp3.out
          obtain ⟨inp3, und3, head3, ⟨m3, pa3, q3, v3, fs3, b3, cl3⟩, len3, ch3, bad3⟩ := p3
          have d0 := hP3.c0
          have d1 := hP3.c1
          have d2 := hP3.c2
          have d3 := hP3.c3
          have d4 := hP3.c4
          have d5 := hP3.c5
          have d6 := hP3.c6
          have d7 := hP3.c7
          have d8 := hP3.c8
          have d9 := hP3.c9
          have d10 := hP3.c10
          have d11 := hP3.c11
          have d12 := hP3.c12
          have dz := hP3.fz
          dsimp only at d0 d1 d2 d3 d4 d5 d6 d7 d8 d9 d10 d11 d12
          obtain ⟨pf, capf, hfv, _⟩ := hP3.f
          subst hfv
          have hlt3 := hP3.lt
          have hR3 := cell_lt s0
          have d7' := d7
          clear hP3 hS3
          go_upto_region 8 with (fail)
          have g4 := Gr.alloc w3 (.cells #[.string ⟨m3.toArray⟩, .string ⟨pa3.toArray⟩, .string ⟨q3.toArray⟩, .int .i64 v3, .slice pf fs3.length capf, .string ⟨b3.toArray⟩, .bool cl3] 27)
          have y0 := cell_new7 w3 [.string ⟨m3.toArray⟩, .string ⟨pa3.toArray⟩, .string ⟨q3.toArray⟩, .int .i64 v3, .slice pf fs3.length capf, .string ⟨b3.toArray⟩, .bool cl3] 27 0 _ rfl
          have y1 := cell_new7 w3 [.string ⟨m3.toArray⟩, .string ⟨pa3.toArray⟩, .string ⟨q3.toArray⟩, .int .i64 v3, .slice pf fs3.length capf, .string ⟨b3.toArray⟩, .bool cl3] 27 1 _ rfl
          have y2 := cell_new7 w3 [.string ⟨m3.toArray⟩, .string ⟨pa3.toArray⟩, .string ⟨q3.toArray⟩, .int .i64 v3, .slice pf fs3.length capf, .string ⟨b3.toArray⟩, .bool cl3] 27 2 _ rfl
          have y3 := cell_new7 w3 [.string ⟨m3.toArray⟩, .string ⟨pa3.toArray⟩, .string ⟨q3.toArray⟩, .int .i64 v3, .slice pf fs3.length capf, .string ⟨b3.toArray⟩, .bool cl3] 27 3 _ rfl
          have y4 := cell_new7 w3 [.string ⟨m3.toArray⟩, .string ⟨pa3.toArray⟩, .string ⟨q3.toArray⟩, .int .i64 v3, .slice pf fs3.length capf, .string ⟨b3.toArray⟩, .bool cl3] 27 4 _ rfl
          have y5 := cell_new7 w3 [.string ⟨m3.toArray⟩, .string ⟨pa3.toArray⟩, .string ⟨q3.toArray⟩, .int .i64 v3, .slice pf fs3.length capf, .string ⟨b3.toArray⟩, .bool cl3] 27 5 _ rfl
          have y6 := cell_new7 w3 [.string ⟨m3.toArray⟩, .string ⟨pa3.toArray⟩, .string ⟨q3.toArray⟩, .int .i64 v3, .slice pf fs3.length capf, .string ⟨b3.toArray⟩, .bool cl3] 27 6 _ rfl
          replace d0 := g4.cell d0
          replace d1 := g4.cell d1
          replace d2 := g4.cell d2
          replace d3 := g4.cell d3
          replace d4 := g4.cell d4
          replace d5 := g4.cell d5
          replace d6 := g4.cell d6
          replace d7 := g4.cell d7
          replace d8 := g4.cell d8
          replace d9 := g4.cell d9
          replace d10 := g4.cell d10
          replace d11 := g4.cell d11
          replace d12 := g4.cell d12
          replace s0 := g4.cell s0
          replace s1 := g4.cell s1
          replace s2 := g4.cell s2
          replace s3 := g4.cell s3
          replace s4 := g4.cell s4
          replace s5 := g4.cell s5
          replace s6 := g4.cell s6
          have hB3 : B < w3.heap.size := hlt3
          replace dz := fun o => (Below.frozen g4 (show (⟨B, o, none⟩ : Addr).block < w3.heap.size from hB3)).trans (dz o)
          replace sf := fun o => (Below.frozen g4 (show (⟨R, o, none⟩ : Addr).block < w3.heap.size from hR3)).trans (sf o)
          have hQB : w3.heap.size ≠ B := by omega
          have hRB : R ≠ B := by have := h'.out.lt; have := hRe'.out; omega
          have hfin := Lib.hid (fun v0 v1 v2 v3' v4 v5 v6 => NextPostW.yes (W2 := (w3.alloc (.cells #[.string ⟨m3.toArray⟩, .string ⟨pa3.toArray⟩, .string ⟨q3.toArray⟩, .int .i64 v3, .slice pf fs3.length capf, .string ⟨b3.toArray⟩, .bool cl3] 27))) h'.out hRe'.out.symm g1'.out hlt hp3.out rfl rfl d7' g4 v0 v1 v2 v3' v4 v5 v6)
          clear hB3 hR3 hlt3 g4 d7'
          generalize (w3.alloc (.cells #[.string ⟨m3.toArray⟩, .string ⟨pa3.toArray⟩, .string ⟨q3.toArray⟩, .int .i64 v3, .slice pf fs3.length capf, .string ⟨b3.toArray⟩, .bool cl3] 27)) = w4 at *
          go_upto_region 9 with (fail)
          have c13 := chB13 (T := fun k => k = B) rfl w4 (.string ⟨inp3.toArray⟩) (.string ⟨#[]⟩) (.bool false) (.string ⟨#[]⟩) (.string ⟨#[]⟩) (.string ⟨#[]⟩) (.int .i64 0) (.slice none 0 0) (.string ⟨#[]⟩) (.bool false) (.int .i64 0) (.pointer none) (.int .i64 0)
          have s0' := s0
          have hRw : R < w4.heap.size := cell_lt s0
          replace y0 := (c13.cell (cell_lt y0) hQB).trans y0
          replace y1 := (c13.cell (cell_lt y1) hQB).trans y1
          replace y2 := (c13.cell (cell_lt y2) hQB).trans y2
          replace y3 := (c13.cell (cell_lt y3) hQB).trans y3
          replace y4 := (c13.cell (cell_lt y4) hQB).trans y4
          replace y5 := (c13.cell (cell_lt y5) hQB).trans y5
          replace y6 := (c13.cell (cell_lt y6) hQB).trans y6
          replace s0 := (c13.cell (cell_lt s0) hRB).trans s0
          replace s1 := (c13.cell (cell_lt s1) hRB).trans s1
          replace s2 := (c13.cell (cell_lt s2) hRB).trans s2
          replace s3 := (c13.cell (cell_lt s3) hRB).trans s3
          replace s4 := (c13.cell (cell_lt s4) hRB).trans s4
          replace s5 := (c13.cell (cell_lt s5) hRB).trans s5
          replace s6 := (c13.cell (cell_lt s6) hRB).trans s6
          replace sf := fun o => (c13.frozen (p := ⟨R, o, none⟩) hRw hRB).trans (sf o)
          clear c13 d0 d1 d2 d3 d4 d5 d6 d7 d8 d9 d10 d11 d12 dz
          generalize (((((((((((((w4.setCell ⟨B, 0, none⟩ (.string ⟨inp3.toArray⟩)).setCell ⟨B, 1, none⟩ (.string ⟨#[]⟩)).setCell ⟨B, 2, none⟩ (.bool false)).setCell ⟨B, 3, none⟩ (.string ⟨#[]⟩)).setCell ⟨B, 4, none⟩ (.string ⟨#[]⟩)).setCell ⟨B, 5, none⟩ (.string ⟨#[]⟩)).setCell ⟨B, 6, none⟩ (.int .i64 0)).setCell ⟨B, 7, none⟩ (.slice none 0 0)).setCell ⟨B, 8, none⟩ (.string ⟨#[]⟩)).setCell ⟨B, 9, none⟩ (.bool false)).setCell ⟨B, 10, none⟩ (.int .i64 0)).setCell ⟨B, 11, none⟩ (.pointer none)).setCell ⟨B, 12, none⟩ (.int .i64 0)) = w5 at hfin y0 y1 y2 y3 y4 y5 y6 s0 s1 s2 s3 s4 s5 s6 sf ⊢
          clear s0' hRw
          go_wp2
          refine bodyPost_ret (v := .tuple #[.agg #[.string ⟨m3.toArray⟩, .string ⟨pa3.toArray⟩, .string ⟨q3.toArray⟩, .int .i64 v3, .slice pf fs3.length capf, .string ⟨b3.toArray⟩, .bool cl3], .bool true]) (by simp [results, Tryz.results11, go_sem, s0, s1, s2, s3, s4, s5, s6]) rfl ?_
          rw [hq2.out]
          exact hfin.out _ _ _ _ _ _ _
  · have hbI : ((p.bad : Int) != 0) = true := by rw [bne_iff_ne]; omega
    have hq := Lib.hid (show nextQ p = (p, none) by unfold nextQ; rw [if_pos hb])
    clear hb h1
    go_wp2
    refine bodyPost_ret (v := .tuple #[.agg #[.string ⟨#[]⟩, .string ⟨#[]⟩, .string ⟨#[]⟩, .int .i64 0, .slice none 0 0, .string ⟨#[]⟩, .bool false], .bool false]) (by simp [results, Tryz.results11, go_sem, r0, r1, r2, r3, r4, r5, r6]) rfl ?_
    rw [hq.out]
    exact NextPostW.no h'.out hRe'.out.symm g1'.out hlt (PsPost.of_gr h1'.out (Gr.refl _)) _ _ _ _ _ _ _
end Go.Proofs.YtpncfeaaffgkfaaGreatDoor
namespace Go.Proofs.YtpncfeaaffgkfaaGreatDoor
open Go.RowKit

theorem ownsRow_apart {w w' : World} {B : Nat} {e : TypeId} {size n : Nat} {v : Value} {xs : List Value} {T : Nat → Prop} (h : w.ownsRow B e size v n xs) (hc : Ch T w w') (ht : ∀ k, v.ownBlock = some k → ¬ T k) : w'.ownsRow B e size v n xs := by
  obtain ⟨h1, h2⟩ := h
  refine ⟨h1, ?_⟩
  rcases h2 with h2 | ⟨g, cap, cur, rfl, hb, hh, hn, hm, hcs, ht'⟩
  · exact .inl h2
  · exact .inr ⟨g, cap, cur, rfl, hb, hc.get hh (ht g rfl), hn, hm, hcs, ht'⟩
theorem RsW.ch {B : Nat} {S T : Nat → Prop} {xs : List (Rq × Value)} {v : Value} {W W' : World} (h : RsW B xs v W) (hS : FsS S xs) (hc : Ch T W W') (hv : ∀ k, v.ownBlock = some k → ¬ T k) (hd : ∀ k, S k → ¬ T k) : RsW B xs v W' :=
  ⟨ownsRow_apart h.own hc hv, fun x hx => (h.fs x hx).ch hc (fun a n c e => hd _ (hS x hx a n c e)), fun x hx a n c e => ⟨(h.sep x hx a n c e).1, Nat.lt_of_lt_of_le (h.sep x hx a n c e).2 hc.size⟩⟩
theorem FsS.mono {S S' : Nat → Prop} {xs : List (Rq × Value)} (h : FsS S xs) (hd : ∀ x ∈ xs, ∀ a n c, x.2 = .slice (some a) n c → S a.block → S' a.block) : FsS S' xs := fun x hx a n c e => hd x hx a n c e (h x hx a n c e)
/-- Where a parser's row of fields lies. -/
def RowAt (B : Nat) (W : World) (P : Addr → Prop) : Prop := ∀ a n c, W.cell? ⟨B, 7, none⟩ = some (.slice (some a) n c) → P a
theorem PsL.ch_out {w : World} {B : Nat} {T U : Nat → Prop} {p : Ps} {W W' : World} (h : PsL w B T p W) (hc : Ch U W W') (hU : ∀ k, U k → ¬ T k ∧ w.heap.size ≤ k) (h7 : RowAt B W fun a => ¬ U a.block) : PsL w B T p W' := by
  obtain ⟨fv, cv, h1⟩ := h.at'
  refine ⟨⟨fv, cv, h1.ch_out hc (fun k hk => (hU k hk).1) (fun a n c e => h7 a n c (by rw [h1.c7, e]))⟩, h.g.ch hc (fun k hk => (hU k hk).2), h.le⟩
theorem PsL.tb {w : World} {B : Nat} {T : Nat → Prop} {p : Ps} {W : World} (h : PsL w B T p W) : T B := by
  obtain ⟨fv, cv, h1⟩ := h.at'
  exact h1.tb
theorem PsL.lo {w : World} {B : Nat} {T : Nat → Prop} {p : Ps} {W : World} (h : PsL w B T p W) : ∀ k, T k → w.heap.size ≤ k := by
  obtain ⟨fv, cv, h1⟩ := h.at'
  exact fun k hk => Nat.le_trans h.le (h1.tl k hk).1
theorem PsL.row {w : World} {B : Nat} {T : Nat → Prop} {p : Ps} {W : World} (h : PsL w B T p W) : RowAt B W fun a => ¬ T a.block ∧ a.block < W.heap.size := by
  obtain ⟨fv, cv, h1⟩ := h.at'
  intro a n c e
  have e2 := Option.some.inj (h1.c7.symm.trans e)
  exact ⟨h1.fo a n c e2, h1.fb a n c e2⟩
/-- What Next leaves, with where the rows lie. -/
def NextW (w : World) (B : Nat) (T : Nat → Prop) (W : World) (p' : Ps) (o : Option Rq) (e : Ending) (W' : World) : Prop :=
  ∃ rv T', e = .returned (.tuple #[(rqO o).V rv, .bool o.isSome]) ∧ FieldsAt W' rv (rqO o).fs ∧ FOut T' rv ∧ (∀ a n c, rv = .slice (some a) n c → a.block < W'.heap.size) ∧ PsL w B T' p' W' ∧ Ch T W W' ∧ (∀ k, T' k → T k ∨ W.heap.size ≤ k) ∧
    (∀ a n c, rv = .slice (some a) n c → RowOf B W a) ∧ RowAt B W' fun a => RowOf B W a
theorem PsL.next2 {w : World} {B : Nat} {T : Nat → Prop} {p : Ps} {W : World} (h : PsL w B T p W) (hGW : Go.Proofs.YtpncfeaaffgkfaaGreatDoor.G W) (p' : Ps) (o : Option Rq) (hn : nextQ p = (p', o)) (hl : p.inp.length + p.und.length ≤ 90000) :
    Calls Tryz.prog 11 #[.pointer (some ⟨B, 0, none⟩)] W (NextW w B T W p' o) := by
  obtain ⟨fv, cv, h1⟩ := h.at'
  have := next_any2 B T p fv cv W hGW h1 hl
  rw [hn] at this
  refine this.mono fun e W' hp => ?_
  obtain ⟨rv, T', fv', cv', k1, k2, k3, k4, k5, k6, k7, k8, k9⟩ := hp
  exact ⟨rv, T', k1, k2, k3, k4, ⟨⟨fv', cv', k5⟩, h.g.ch k6 (fun k hk => Nat.le_trans h.le (h1.tl k hk).1), h.le⟩, k6, k7, k8, fun a n c e => k9 a n c (Option.some.inj (k5.c7.symm.trans e))⟩
theorem PsL.rebase {w w1 : World} {B : Nat} {T : Nat → Prop} {p : Ps} {W : World} (h : PsL w1 B T p W) (hg : Gr w w1) : PsL w B T p W :=
  ⟨h.at', hg.trans h.g, Nat.le_trans (Below.size hg) h.le⟩
/-- A parser whose row of fields lies behind w. -/
def RowHi (B : Nat) (w W : World) : Prop := RowAt B W fun a => w.heap.size ≤ a.block
theorem RowHi.step {B : Nat} {w W W' : World} (h : RowHi B w W) (hs : w.heap.size ≤ W.heap.size) (h2 : RowAt B W' fun a => RowOf B W a) : RowHi B w W' := fun a n c e => by
  rcases h2 a n c e with ⟨n0, c0, e2⟩ | e2
  · exact h a n0 c0 e2
  · exact Nat.le_trans hs e2
theorem RowHi.gr {B : Nat} {w W W' : World} (h : RowHi B w W) (hB : B < W.heap.size) (hg : Gr W W') : RowHi B w W' := fun a n c e =>
  h a n c ((Below.cell hg (p := ⟨B, 7, none⟩) hB).symm.trans e)
theorem PsL.feed2 {w : World} {B : Nat} {T : Nat → Prop} {p : Ps} {W : World} (h : PsL w B T p W) (s : List UInt8) (hl : p.inp.length + s.length ≤ 4611686018427387904) :
    Calls Tryz.prog 10 #[.pointer (some ⟨B, 0, none⟩), .string ⟨s.toArray⟩] W fun e W' => e = .returned (.tuple #[]) ∧ PsLPost w B T W (feedQ p s) W' ∧ RowAt B W' fun a => RowOf B W a := by
  obtain ⟨fv, cv, h1⟩ := h.at'
  refine (pfeed_any B T p fv cv s W h1 hl).mono fun _ _ ⟨he, hp⟩ => ⟨he, h.post h1 hp, ?_⟩
  obtain ⟨T', fv', cv', k1, _, _, k4⟩ := hp
  exact fun a n c e => k4 a n c (Option.some.inj (k1.c7.symm.trans e))
theorem PsL.new2 {w W : World} (hGW : Go.Proofs.YtpncfeaaffgkfaaGreatDoor.G W) (hg : Gr w W) :
    Calls Tryz.prog 17 #[] W fun e W' => e = .returned (.pointer (some ⟨W.heap.size, 0, none⟩)) ∧ PsL w W.heap.size (fun k => k = W.heap.size) ps0 W' ∧ Gr W W' ∧ RowHi W.heap.size W W' :=
  (qnew_any W hGW).mono fun _ _ ⟨he, h1, h2⟩ => ⟨he, ⟨⟨_, _, h1⟩, hg.trans h2, Below.size hg⟩, h2, fun a n c e => by have := Option.some.inj (h1.c7.symm.trans e); cases this⟩
/-- A request in a variable, block R. -/
structure RqAt (R : Nat) (r : Rq) (fv : Value) (W : World) : Prop where
  c0 : W.cell? ⟨R, 0, none⟩ = some (.string ⟨r.m.toArray⟩)
  c1 : W.cell? ⟨R, 1, none⟩ = some (.string ⟨r.p.toArray⟩)
  c2 : W.cell? ⟨R, 2, none⟩ = some (.string ⟨r.q.toArray⟩)
  c3 : W.cell? ⟨R, 3, none⟩ = some (.int .i64 r.v)
  c4 : W.cell? ⟨R, 4, none⟩ = some fv
  c5 : W.cell? ⟨R, 5, none⟩ = some (.string ⟨r.b.toArray⟩)
  c6 : W.cell? ⟨R, 6, none⟩ = some (.bool r.c)
theorem RqAt.ch {R : Nat} {r : Rq} {fv : Value} {T : Nat → Prop} {W W' : World} (h : RqAt R r fv W) (hc : Ch T W W') (hR : ¬ T R) : RqAt R r fv W' := by
  have k : ∀ {o u}, W.cell? ⟨R, o, none⟩ = some u → W'.cell? ⟨R, o, none⟩ = some u := fun {o u} h => (hc.cell (p := ⟨R, o, none⟩) (cell_lt h) hR).trans h
  exact ⟨k h.c0, k h.c1, k h.c2, k h.c3, k h.c4, k h.c5, k h.c6⟩
theorem RqAt.new (W : World) (r : Rq) (fv : Value) : RqAt W.heap.size r fv (W.alloc (.cells #[.string ⟨r.m.toArray⟩, .string ⟨r.p.toArray⟩, .string ⟨r.q.toArray⟩, .int .i64 r.v, fv, .string ⟨r.b.toArray⟩, .bool r.c] 27)) :=
  ⟨cell_new7 _ _ _ 0 _ rfl, cell_new7 _ _ _ 1 _ rfl, cell_new7 _ _ _ 2 _ rfl, cell_new7 _ _ _ 3 _ rfl, cell_new7 _ _ _ 4 _ rfl, cell_new7 _ _ _ 5 _ rfl, cell_new7 _ _ _ 6 _ rfl⟩
theorem RqAt.put {R : Nat} {r0 : Rq} {fv0 : Value} {W : World} (h : RqAt R r0 fv0 W) (r : Rq) (fv : Value) : RqAt R r fv (((((((W.setCell ⟨R, 0, none⟩ (.string ⟨r.m.toArray⟩)).setCell ⟨R, 1, none⟩ (.string ⟨r.p.toArray⟩)).setCell ⟨R, 2, none⟩ (.string ⟨r.q.toArray⟩)).setCell ⟨R, 3, none⟩ (.int .i64 r.v)).setCell ⟨R, 4, none⟩ fv).setCell ⟨R, 5, none⟩ (.string ⟨r.b.toArray⟩)).setCell ⟨R, 6, none⟩ (.bool r.c)) := by
  refine ⟨?_, ?_, ?_, ?_, ?_, ?_, ?_⟩
  all_goals simp [go_sem, h.c0, h.c1, h.c2, h.c3, h.c4, h.c5, h.c6]
/-- The one parser, its variable R, the row of what it gave. -/
structure One1 (w : World) (B R : Nat) (T : Nat → Prop) (p : Ps) (xs : List (Rq × Value)) (lv : Value) (W : World) : Prop where
  ps : PsL w B T p W
  rT : ¬ T R
  rlt : R < W.heap.size
  rlo : w.heap.size ≤ R
  rows : RsW w.heap.size xs lv W
  fs : FsS (fun k => ¬ T k ∧ k ≠ R) xs
  own : ∀ k, lv.ownBlock = some k → k ≠ R ∧ ¬ T k
  c7 : RowAt B W fun a => a.block ≠ R ∧ lv.ownBlock ≠ some a.block
  fz : ∀ o, W.frozen? ⟨R, o, none⟩ = false
/-- The request in R is not pushed yet. -/
structure Pend (R : Nat) (T : Nat → Prop) (r : Rq) (fv lv : Value) (W : World) : Prop where
  at' : RqAt R r fv W
  f : FieldsAt W fv r.fs
  o : ∀ a n c, fv = .slice (some a) n c → a.block ≠ R ∧ lv.ownBlock ≠ some a.block ∧ ¬ T a.block ∧ a.block < W.heap.size
theorem One1.push {w : World} {B R : Nat} {T : Nat → Prop} {p : Ps} {xs : List (Rq × Value)} {lv v' fv : Value} {r : Rq} {W W9 : World} {o : Obj} (h : One1 w B R T p xs lv W) (hp : Pend R T r fv lv W)
    (hown : W9.ownsRow w.heap.size 27 7 v' (xs.length + 1) (rcells rqc xs ++ rqc (r, fv))) (hgrow : (W.alloc o).grownBy W9 lv.ownBlock) (hat : v'.ownBlock = lv.ownBlock ∨ v'.ownBlock = some (W.alloc o).heap.size) :
    One1 w B R T p (xs ++ [(r, fv)]) v' W9 ∧ Ch (fun k => lv.ownBlock = some k) W W9 := by
  have hc : Ch (fun k => lv.ownBlock = some k) W W9 := ((Gr.alloc W o).to_ch _).trans (Ch.of_grown hgrow)
  have hz : W.heap.size < (W.alloc o).heap.size := by simp
  have hnR : ¬ (lv.ownBlock = some R) := fun e => (h.own R e).1 rfl
  have hnB : ¬ (lv.ownBlock = some B) := fun e => (h.own B e).2 h.ps.tb
  have hB : B < W.heap.size := h.ps.lt B h.ps.tb
  refine ⟨⟨?_, h.rT, Nat.lt_of_lt_of_le h.rlt hc.size, h.rlo, ?_, ?_, ?_, ?_, ?_⟩, hc⟩
  · exact h.ps.ch_out hc (fun k hk => ⟨(h.own k hk).2, (World.ownsRow.lt h.rows.own k hk).1⟩) (fun a n c e => (h.c7 a n c e).2)
  · exact h.rows.push hp.f (fun a n c e => ⟨(hp.o a n c e).2.1, (hp.o a n c e).2.2.2⟩) hown hgrow hat
  · exact h.fs.push (fun a n c e => ⟨(hp.o a n c e).2.2.1, (hp.o a n c e).1⟩)
  · intro k hk
    rcases hat with e | e
    · exact h.own k (e.symm.trans hk)
    · rw [hk] at e
      injection e with e
      have := h.rlt
      exact ⟨by omega, fun ht => by have := h.ps.lt k ht; omega⟩
  · intro a n c e
    have e0 := (hc.cell (p := ⟨B, 7, none⟩) hB hnB).symm.trans e
    obtain ⟨k1, k2⟩ := h.c7 a n c e0
    have k3 := (h.ps.row a n c e0).2
    refine ⟨k1, fun e2 => ?_⟩
    rcases hat with e3 | e3
    · exact k2 (e3.symm.trans e2)
    · rw [e2] at e3
      injection e3 with e3
      omega
  · exact fun o => (hc.frozen (p := ⟨R, o, none⟩) h.rlt hnR).trans (h.fz o)
theorem One1.next {w : World} {B R : Nat} {T T' : Nat → Prop} {p p' : Ps} {xs : List (Rq × Value)} {lv rv : Value} {r0 r : Rq} {fv0 : Value} {W W' : World} (h : One1 w B R T p xs lv W) (hr : RqAt R r0 fv0 W)
    (h1 : FieldsAt W' rv r.fs) (h2 : FOut T' rv) (h3 : ∀ a n c, rv = .slice (some a) n c → a.block < W'.heap.size) (h4 : PsL w B T' p' W') (h5 : Ch T W W') (h6 : ∀ k, T' k → T k ∨ W.heap.size ≤ k) (h7 : ∀ a n c, rv = .slice (some a) n c → RowOf B W a) (h8 : RowAt B W' fun a => RowOf B W a) :
    One1 w B R T' p' xs lv W' ∧ RqAt R r0 fv0 W' ∧ ∀ W2, Ch (fun k => k = R) W' W2 → (∀ o, W2.frozen? ⟨R, o, none⟩ = W'.frozen? ⟨R, o, none⟩) → RqAt R r rv W2 → One1 w B R T' p' xs lv W2 ∧ Pend R T' r rv lv W2 := by
  have hrow : ∀ a : Addr, RowOf B W a → a.block ≠ R ∧ lv.ownBlock ≠ some a.block := fun a ha => by
    rcases ha with ⟨n0, c0, e⟩ | e
    · exact h.c7 a n0 c0 e
    · have := h.rlt
      exact ⟨by omega, fun e2 => by have := (World.ownsRow.lt h.rows.own _ e2).2; omega⟩
  have hRT : ¬ T' R := fun e => (h6 R e).elim h.rT (fun e => by have := h.rlt; omega)
  have hown : ∀ k, lv.ownBlock = some k → k ≠ R ∧ ¬ T' k := fun k hk => ⟨(h.own k hk).1, fun e => (h6 k e).elim (h.own k hk).2 (fun e => by have := (World.ownsRow.lt h.rows.own k hk).2; omega)⟩
  have hfs : FsS (fun k => ¬ T' k ∧ k ≠ R) xs := h.fs.mono (fun x hx a n c e hs => ⟨fun ht => (h6 _ ht).elim hs.1 (fun ht => by have := (h.rows.sep x hx a n c e).2; omega), hs.2⟩)
  have k1 : One1 w B R T' p' xs lv W' := ⟨h4, hRT, Nat.lt_of_lt_of_le h.rlt h5.size, h.rlo, h.rows.ch h.fs h5 (fun k hk => (h.own k hk).2) (fun k hk => hk.1), hfs, hown, fun a n c e => hrow a (h8 a n c e), fun o => (h5.frozen (p := ⟨R, o, none⟩) h.rlt h.rT).trans (h.fz o)⟩
  have hB2 : B ≠ R := fun e => hRT (e ▸ h4.tb)
  refine ⟨k1, hr.ch h5 h.rT, fun W2 hc hz hr2 => ⟨⟨?_, hRT, Nat.lt_of_lt_of_le k1.rlt hc.size, h.rlo, ?_, hfs, hown, ?_, fun o => (hz o).trans (k1.fz o)⟩, hr2, ?_, ?_⟩⟩
  · exact h4.ch_out hc (fun k hk => by subst hk; exact ⟨hRT, h.rlo⟩) (fun a n c e => (k1.c7 a n c e).1)
  · exact k1.rows.ch hfs hc (fun k hk => (hown k hk).1) (fun k hk => hk.2)
  · exact fun a n c e => k1.c7 a n c ((hc.cell (p := ⟨B, 7, none⟩) (h4.lt B h4.tb) hB2).symm.trans e)
  · exact h1.ch hc (fun a n c e => (hrow a (h7 a n c e)).1)
  · exact fun a n c e => ⟨(hrow a (h7 a n c e)).1, (hrow a (h7 a n c e)).2, h2 a n c e, Nat.lt_of_lt_of_le (h3 a n c e) hc.size⟩
/-- What is left for the one parser. -/
def Left (L : List Rq) (c : Nat) (t : List UInt8) (k : Nat) (xs : List Rq) (p : Ps) (o : Option Rq) : Prop :=
  p.inp.length + p.und.length ≤ 90000 ∧ match o with
  | some r => ∃ s' l', Stands p s' ∧ p.bad = 0 ∧ Alls s' l' c t ∧ xs ++ r :: l' = L ∧ l'.length + 1 ≤ k
  | none => p.bad = c ∧ (c = 0 → Stands p t) ∧ xs = L
theorem left_step {p : Ps} {s : List UInt8} {l : List Rq} {c : Nat} {t : List UInt8} {L xs : List Rq} (hs : Stands p s) (_h0 : p.bad = 0) (hA : Alls s l c t) (hl : p.inp.length + p.und.length ≤ 90000) (hL : xs ++ l = L) :
    ∃ p' o, nextQ p = (p', o) ∧ Left L c t l.length xs p' o := by
  have hsum := nextQ_sum p
  cases hA with
  | more h =>
    obtain ⟨p', h1, h2, h3⟩ := stands_more hs h
    rw [h1] at hsum
    exact ⟨p', none, h1, Nat.le_trans hsum hl, h2, fun _ => h3, by simpa using hL⟩
  | bad h =>
    obtain ⟨p', h1, h2, h3⟩ := stands_bad hs h
    have := oneQ_codes h
    rw [h1] at hsum
    exact ⟨p', none, h1, Nat.le_trans hsum hl, h2, fun e => by omega, by simpa using hL⟩
  | got h k =>
    have h1 := stands_got hs h
    rw [h1] at hsum
    exact ⟨_, _, h1, Nat.le_trans hsum hl, _, _, .fresh rfl, rfl, k, hL, Nat.le_refl _⟩
theorem left_first {s : List UInt8} {L : List Rq} {c : Nat} {t : List UInt8} (hA : Alls s L c t) (hl : s.length ≤ 90000) : ∃ p' o, nextQ { ps0 with inp := s } = (p', o) ∧ Left L c t L.length [] p' o :=
  left_step (.fresh rfl) rfl hA hl rfl
theorem left_next {L : List Rq} {c : Nat} {t : List UInt8} {k : Nat} {xs : List Rq} {p : Ps} {r : Rq} (h : Left L c t k xs p (some r)) : ∃ p' o k', nextQ p = (p', o) ∧ k' < k ∧ Left L c t k' (xs ++ [r]) p' o := by
  obtain ⟨hl, s', l', hs, h0, hA, hL, hk⟩ := h
  obtain ⟨p', o, h1, h2⟩ := left_step (L := L) (xs := xs ++ [r]) hs h0 hA hl (by rw [← hL]; simp)
  exact ⟨p', o, l'.length, h1, by omega, h2⟩
/-- The other parser: k requests were had, rest is to be fed. -/
def MState (L : List Rq) (c : Nat) (t : List UInt8) (k : Nat) (rest : List UInt8) (p : Ps) : Prop :=
  p.inp.length + p.und.length + rest.length ≤ 90000 ∧ k ≤ L.length ∧ ((p.bad = 0 ∧ ∃ s, Stands p s ∧ Alls (s ++ rest) (L.drop k) c t) ∨ (p.bad ≠ 0 ∧ p.bad = c ∧ k = L.length))
def Drained (p : Ps) : Prop := p.bad = 0 → ∃ s, Stands p s ∧ oneQ s = .more
theorem m_start {s : List UInt8} {L : List Rq} {c : Nat} {t : List UInt8} (hA : Alls s L c t) (hl : s.length ≤ 90000) : MState L c t 0 s ps0 :=
  ⟨by show 0 + 0 + s.length ≤ _; omega, Nat.zero_le _, .inl ⟨rfl, [], stands_new, by rw [List.drop_zero]; exact hA⟩⟩
theorem m_feed {L : List Rq} {c : Nat} {t : List UInt8} {k : Nat} {rest : List UInt8} {p : Ps} (h : MState L c t k rest p) (n : Nat) (_hn : n ≤ rest.length) : MState L c t k (rest.drop n) (feedQ p (rest.take n)) := by
  obtain ⟨hl, hk, h⟩ := h
  rcases h with ⟨h0, s, hs, hA⟩ | ⟨h0, h1, h2⟩
  · have e : feedQ p (rest.take n) = { p with inp := p.inp ++ rest.take n } := by unfold feedQ; rw [if_pos h0]
    refine ⟨?_, hk, .inl ⟨by rw [e]; exact h0, s ++ rest.take n, hs.feed _, by rw [List.append_assoc, List.take_append_drop]; exact hA⟩⟩
    rw [e]
    dsimp only
    rw [List.length_append, List.length_take, List.length_drop]; omega
  · rw [bad_feed h0]
    exact ⟨by rw [List.length_drop]; omega, hk, .inr ⟨h0, h1, h2⟩⟩
def MNext (L : List Rq) (c : Nat) (t : List UInt8) (k : Nat) (rest : List UInt8) (p' : Ps) (o : Option Rq) : Prop := match o with
  | some r => (∃ hk : k < L.length, L[k] = r) ∧ MState L c t (k + 1) rest p' ∧ r.fs.length ≤ 33
  | none => MState L c t k rest p' ∧ Drained p'
theorem m_next {L : List Rq} {c : Nat} {t : List UInt8} {k : Nat} {rest : List UInt8} {p : Ps} (h : MState L c t k rest p) : ∃ p' o, nextQ p = (p', o) ∧ MNext L c t k rest p' o := by
  obtain ⟨hl, hk, h⟩ := h
  have hsum := nextQ_sum p
  rcases h with ⟨h0, s, hs, hA⟩ | ⟨h0, h1, h2⟩
  · cases ho : oneQ s with
    | more =>
      obtain ⟨p', h1, h2, h3⟩ := stands_more hs ho
      rw [h1] at hsum
      dsimp only at hsum
      exact ⟨p', none, h1, ⟨by omega, hk, .inl ⟨h2, s, h3, hA⟩⟩, fun _ => ⟨s, h3, ho⟩⟩
    | bad c' =>
      obtain ⟨p', h1, h2, h3⟩ := stands_bad hs ho
      have hc := oneQ_codes ho
      have ho2 := one_sticky ho rest
      rw [h1] at hsum
      dsimp only at hsum
      have hd : L.drop k = [] ∧ c = c' := by
        generalize L.drop k = x at hA
        cases hA with
        | more h => rw [ho2] at h; cases h
        | bad h => rw [ho2] at h; injection h with h; exact ⟨rfl, h.symm⟩
        | got h _ => rw [ho2] at h; cases h
      have hk2 : k = L.length := by
        have := congrArg List.length hd.1
        rw [List.length_drop, List.length_nil] at this; omega
      exact ⟨p', none, h1, ⟨by omega, hk, .inr ⟨by omega, by rw [h2, hd.2], hk2⟩⟩, fun e => by omega⟩
    | got r n =>
      have h1 := stands_got hs ho
      have ho2 := one_app s rest
      rw [ho] at ho2
      obtain ⟨ho3, hn1, _⟩ := ho2
      have hlen := hs.len h0
      obtain ⟨l2, hd, hA2⟩ : ∃ l2, L.drop k = r :: l2 ∧ Alls ((s ++ rest).drop n) l2 c t := by
        generalize L.drop k = x at hA
        cases hA with
        | more h => rw [ho3] at h; cases h
        | bad h => rw [ho3] at h; cases h
        | got h k2 => rw [ho3] at h; injection h with e1 e2; subst e1 e2; exact ⟨_, rfl, k2⟩
      have hkl : k < L.length := by
        have := congrArg List.length hd
        rw [List.length_drop, List.length_cons] at this; omega
      rw [List.drop_eq_getElem_cons hkl] at hd
      injection hd with e1 e2
      refine ⟨_, _, h1, ⟨hkl, e1⟩, ⟨?_, hkl, .inl ⟨rfl, s.drop n, .fresh rfl, ?_⟩⟩, one_fs ho⟩
      · show (s.drop n).length + 0 + rest.length ≤ _
        rw [List.length_drop]; omega
      · rw [e2, ← List.drop_append_of_le_length hn1]; exact hA2
  · exact ⟨p, none, bad_next h0, ⟨hl, hk, .inr ⟨h0, h1, h2⟩⟩, fun e => absurd e h0⟩
theorem m_end {L : List Rq} {c : Nat} {t : List UInt8} {k : Nat} {p : Ps} (h : MState L c t k [] p) (hd : Drained p) : k = L.length ∧ p.bad = c ∧ (c = 0 → Stands p t) := by
  obtain ⟨_, hk, h⟩ := h
  rcases h with ⟨h0, s, hs, hA⟩ | ⟨h0, h1, h2⟩
  · obtain ⟨s2, hs2, ho⟩ := hd h0
    have e : s2 = s := (hs2.all h0).symm.trans (hs.all h0)
    subst e
    rw [List.append_nil] at hA
    have hx : L.drop k = [] ∧ c = 0 ∧ t = s2 := by
      generalize L.drop k = x at hA
      cases hA with
      | more h => exact ⟨rfl, rfl, rfl⟩
      | bad h => rw [ho] at h; cases h
      | got h _ => rw [ho] at h; cases h
    obtain ⟨e1, e2, e3⟩ := hx
    have := congrArg List.length e1
    rw [List.length_drop, List.length_nil] at this
    exact ⟨by omega, by rw [h0, e2], fun _ => by rw [e3]; exact hs2⟩
  · exact ⟨h2, h1, fun e => absurd (h1.trans e) h0⟩
theorem fin_idle {p : Ps} {c : Nat} {t : List UInt8} (hb : p.bad = c) (ht : c = 0 → Stands p t) : idleQ p = (decide (c = 0) && t.isEmpty) := by
  by_cases h0 : c = 0
  · rw [(ht h0).idle, hb]
  · rw [bad_idle (by omega), decide_eq_false h0]; rfl
theorem fin_rest {p : Ps} {c : Nat} {t : List UInt8} (hb : p.bad = c) (ht : c = 0 → Stands p t) : restQ p = (if c = 0 then ps0 else p, if c = 0 then t else []) := by
  by_cases h0 : c = 0
  · rw [(ht h0).rest, hb, if_neg (by simpa using h0), if_pos h0, if_pos h0]
  · rw [bad_rest (by omega), if_neg h0, if_neg h0]
end Go.Proofs.YtpncfeaaffgkfaaGreatDoor
