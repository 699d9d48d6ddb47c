/-
  Requests by the document: the walk over Head. (Printed by mk_yl.py.)
-/
import Derived.Test.YtpncfeaaffgkfaaGreatDoorYj
import Derived.Test.YtpncfeaaffgkfaaGreatDoorF
import Derived.Deep.DeepCutAuto
namespace Go.Proofs.YtpncfeaaffgkfaaGreatDoor
open Go.RowKit
attribute [local go_sem] Oper.semAt_some

/-- A zero request at block R. -/
structure Zq (R : Nat) (W : World) : Prop where
  c0 : W.cell? ⟨R, 0, none⟩ = some (.string ⟨#[]⟩)
  c1 : W.cell? ⟨R, 1, none⟩ = some (.string ⟨#[]⟩)
  c2 : W.cell? ⟨R, 2, none⟩ = some (.string ⟨#[]⟩)
  c3 : W.cell? ⟨R, 3, none⟩ = some (.int .i64 0)
  c4 : W.cell? ⟨R, 4, none⟩ = some (.slice none 0 0)
  c5 : W.cell? ⟨R, 5, none⟩ = some (.string ⟨#[]⟩)
  c6 : W.cell? ⟨R, 6, none⟩ = some (.bool false)
theorem Zq.below {R C : Nat} {W W' : World} (h : Zq R W) (hg : Below C W W') (hC : R < C) : Zq R W' := by
  have k : ∀ {o u}, W.cell? ⟨R, o, none⟩ = some u → W'.cell? ⟨R, o, none⟩ = some u := fun {o u} h => (Below.cell hg (p := ⟨R, o, none⟩) hC).trans h
  exact ⟨k h.c0, k h.c1, k h.c2, k h.c3, k h.c4, k h.c5, k h.c6⟩
theorem zq_new (W : World) : Zq W.heap.size (W.alloc (.cells #[.string ⟨#[]⟩, .string ⟨#[]⟩, .string ⟨#[]⟩, .int .i64 0, .slice none 0 0, .string ⟨#[]⟩, .bool false] 27)) :=
  ⟨cell_new7 _ _ _ 0 _ rfl, cell_new7 _ _ _ 1 _ rfl, cell_new7 _ _ _ 2 _ rfl, cell_new7 _ _ _ 3 _ rfl, cell_new7 _ _ _ 4 _ rfl, cell_new7 _ _ _ 5 _ rfl, cell_new7 _ _ _ 6 _ rfl⟩
/-- Where Head stands: its answer (block B), nothing (block B + 1). -/
structure HdW (w W : World) : Prop where
  g : Gr w W
  sz : w.heap.size + 1 < W.heap.size
  r : Zq w.heap.size W
  n : Zq (w.heap.size + 1) W
  fz : ∀ o, W.frozen? ⟨w.heap.size, o, none⟩ = false
theorem HdW.below {w W W' : World} {C : Nat} (h : HdW w W) (hg : Below C W W') (hC : w.heap.size + 1 < C) : HdW w W' :=
  ⟨Below.trans h.g (Below.mono hg (by omega)), Nat.lt_of_lt_of_le h.sz (Below.size hg), h.r.below hg (by omega), h.n.below hg hC, fun o => (Below.frozen hg (show (⟨w.heap.size, o, none⟩ : Addr).block < C by show w.heap.size < C; omega)).trans (h.fz o)⟩
theorem HdW.gr {w W W' : World} (h : HdW w W) (hg : Gr W W') : HdW w W' := h.below hg h.sz
/-- What Head answers. -/
def HeadPost (x : HeadR) (w : World) (e : Ending) (w' : World) : Prop := match x with
  | .bad c => e = .returned (.tuple #[rq0.V (.slice none 0 0), .int .i64 0, .int .i64 c]) ∧ Gr w w'
  | .good r n ch => ∃ fv, e = .returned (.tuple #[r.V fv, .int .i64 (if ch then -1 else n), .int .i64 0]) ∧ FieldsAt w' fv r.fs ∧ (∀ a n c, fv = .slice (some a) n c → w.heap.size ≤ a.block ∧ a.block < w'.heap.size) ∧ Gr w w'
theorem gr7 {w W : World} (h : Gr w W) (v0 v1 v2 v3 v4 v5 v6 : Value) : Gr w (((((((W.setCell ⟨w.heap.size, 0, none⟩ v0).setCell ⟨w.heap.size, 1, none⟩ v1).setCell ⟨w.heap.size, 2, none⟩ v2).setCell ⟨w.heap.size, 3, none⟩ v3).setCell ⟨w.heap.size, 4, none⟩ v4).setCell ⟨w.heap.size, 5, none⟩ v5).setCell ⟨w.heap.size, 6, none⟩ v6) :=
  ((((((h.setCell (Nat.le_refl _) _).setCell (Nat.le_refl _) _).setCell (Nat.le_refl _) _).setCell (Nat.le_refl _) _).setCell (Nat.le_refl _) _).setCell (Nat.le_refl _) _).setCell (Nat.le_refl _) _
theorem HdW.bad {w W : World} (h : HdW w W) (n : Nat) (z : Int) (hz : z = n) {x : HeadR} (hx : x = .bad n) (v0 v1 v2 v3 v4 v5 v6 : Value) :
    HeadPost x w (.returned (.tuple #[.agg #[.string ⟨#[]⟩, .string ⟨#[]⟩, .string ⟨#[]⟩, .int .i64 0, .slice none 0 0, .string ⟨#[]⟩, .bool false], .int .i64 0, .int .i64 z])) (((((((W.setCell ⟨w.heap.size, 0, none⟩ v0).setCell ⟨w.heap.size, 1, none⟩ v1).setCell ⟨w.heap.size, 2, none⟩ v2).setCell ⟨w.heap.size, 3, none⟩ v3).setCell ⟨w.heap.size, 4, none⟩ v4).setCell ⟨w.heap.size, 5, none⟩ v5).setCell ⟨w.heap.size, 6, none⟩ v6) := by
  subst hx hz
  exact ⟨rfl, gr7 h.g _ _ _ _ _ _ _⟩
theorem HdW.good {w w4 W : World} {Q n : Nat} {m pa qu : List UInt8} {v : Int} {cl ch : Bool} {fv : Value} {fs : List Fl} (h : HdW w W) (hq : RW w4 Q (Q + 1) ⟨m, pa, qu, v, [], [], cl⟩ fv fv fs W) (hQ : w.heap.size + 1 < Q) (z : Int) (hz : z = if ch then -1 else (n : Int)) {x : HeadR} (hx : x = .good ⟨m, pa, qu, v, fs, [], cl⟩ n ch) (v0 v1 v2 v3 v4 v5 v6 : Value) :
    HeadPost x w (.returned (.tuple #[.agg #[.string ⟨m.toArray⟩, .string ⟨pa.toArray⟩, .string ⟨qu.toArray⟩, .int .i64 v, fv, .string ⟨#[]⟩, .bool cl], .int .i64 z, .int .i64 0])) (((((((W.setCell ⟨w.heap.size, 0, none⟩ v0).setCell ⟨w.heap.size, 1, none⟩ v1).setCell ⟨w.heap.size, 2, none⟩ v2).setCell ⟨w.heap.size, 3, none⟩ v3).setCell ⟨w.heap.size, 4, none⟩ v4).setCell ⟨w.heap.size, 5, none⟩ v5).setCell ⟨w.heap.size, 6, none⟩ v6) := by
  subst hx hz
  exact ⟨fv, rfl, hq.own.at.ch (chR7 (T := fun k => k = w.heap.size) rfl _ _ _ _ _ _ _ _) (hq.own.out (fun k hk => by omega)), (fun a n c e => by
    have := World.ownsRow.lt hq.own a.block (by rw [e]; rfl)
    exact ⟨by omega, Nat.lt_of_lt_of_le this.2 (chR7 (T := fun k => k = w.heap.size) (R := w.heap.size) rfl W v0 v1 v2 v3 v4 v5 v6).size⟩), gr7 h.g _ _ _ _ _ _ _⟩
/-- The request under way and a field that was read. -/
structure HfW (w w3 : World) (Q : Nat) (rq : Rq) (fv : Value) (fs : List Fl) (F : Nat) (n1 v1 : List UInt8) (W : World) : Prop where
  q : RW w3 Q (Q + 1) rq fv fv fs W
  h : HdW w W
  y0 : W.cell? ⟨F, 0, none⟩ = some (.string ⟨n1.toArray⟩)
  y1 : W.cell? ⟨F, 1, none⟩ = some (.string ⟨v1.toArray⟩)
theorem HfW.gr {w w3 W W' : World} {Q F : Nat} {rq : Rq} {fv : Value} {fs : List Fl} {n1 v1 : List UInt8} (h : HfW w w3 Q rq fv fs F n1 v1 W) (hg : Gr W W') : HfW w w3 Q rq fv fs F n1 v1 W' :=
  ⟨h.q.gr hg, h.h.gr hg, hg.cell h.y0, hg.cell h.y1⟩
def lenI : Option Nat → Int
  | none => -1
  | some n => n
def dHost : List UInt8 := [104, 111, 115, 116]
def dTra : List UInt8 := [116, 114, 97, 110, 115, 102, 101, 114, 45, 101, 110, 99, 111, 100, 105, 110, 103]
def dLen : List UInt8 := [99, 111, 110, 116, 101, 110, 116, 45, 108, 101, 110, 103, 116, 104]
def dConn : List UInt8 := [99, 111, 110, 110, 101, 99, 116, 105, 111, 110]
theorem alike_d (a : List UInt8) : alikeB a dHost = alikeB a qHost ∧ alikeB a dTra = alikeB a qTra ∧ alikeB a dLen = alikeB a qLen ∧ alikeB a dConn = alikeB a qConn :=
  ⟨congrArg (a.map lower == ·) (by decide), congrArg (a.map lower == ·) (by decide), congrArg (a.map lower == ·) (by decide), congrArg (a.map lower == ·) (by decide)⟩
theorem foldD_app : ∀ (a b : List (List UInt8)) (st : DSt), foldD st (a ++ b) = (foldD st a).bind fun st' => foldD st' b
  | [], b, st => rfl
  | l :: t, b, st => by
    have e : ∀ x, foldD st (l :: x) = (match stepD st l with | none => none | some st' => foldD st' x) := fun x => rfl
    rw [List.cons_append, e, e]
    cases stepD st l with
    | none => rfl
    | some st' => exact foldD_app t b st'
theorem foldD_step {c : Bool} {tl : List (List UInt8)} {j : Nat} {st : DSt} (hj : j < tl.length) (hst : foldD (st0D c) (tl.take j) = some st) : foldD (st0D c) (tl.take (j + 1)) = stepD st tl[j] := by
  rw [List.take_succ_eq_append_getElem hj, foldD_app, hst]
  show (match stepD st tl[j] with | none => none | some st' => some st') = _
  cases stepD st tl[j] <;> rfl
theorem foldD_none {c : Bool} {tl : List (List UInt8)} {j : Nat} {st : DSt} (hj : j < tl.length) (hst : foldD (st0D c) (tl.take j) = some st) (h : stepD st tl[j] = none) : foldD (st0D c) tl = none := by
  have e : tl = tl.take j ++ tl[j] :: tl.drop (j + 1) := by
    rw [← List.drop_eq_getElem_cons hj, List.take_append_drop]
  rw [e, foldD_app, hst]
  show (match stepD st tl[j] with | none => none | some st' => foldD st' (tl.drop (j + 1))) = _
  rw [h]
theorem stepD_len {st st' : DSt} {l : List UInt8} (h : stepD st l = some st') : st'.fs.length = st.fs.length + 1 := by
  unfold stepD at h
  split at h
  · cases h
  · split at h
    · cases h
    · split at h
      · cases hn : numberD (parseB l).2.1 with
        | none => rw [hn] at h; cases h
        | some n =>
          rw [hn] at h
          dsimp only at h
          split at h
          · cases h
          · cases h; simp
      · cases h; simp
theorem foldD_len : ∀ (ls : List (List UInt8)) {st st' : DSt}, foldD st ls = some st' → st'.fs.length = st.fs.length + ls.length
  | [], st, st', h => by cases h; simp
  | l :: t, st, st', h => by
    have e : foldD st (l :: t) = (match stepD st l with | none => none | some st' => foldD st' t) := rfl
    rw [e] at h
    cases hs : stepD st l with
    | none => rw [hs] at h; cases h
    | some s1 =>
      rw [hs] at h
      have := foldD_len t h
      rw [this, stepD_len hs, List.length_cons]; omega
/-- Where the going through the lines stands. -/
def DRel (w w3 : World) (Q : Nat) (m pa qu : List UInt8) (v : Nat) (c10 : Bool) (tl : List (List UInt8)) (ho co le te i : Value) (W : World) : Prop :=
  ∃ (j : Nat) (st : DSt) (fv : Value), j ≤ tl.length ∧ foldD (st0D c10) (tl.take j) = some st ∧ ho = .int .i64 st.hosts ∧ co = .int .i64 st.coded ∧ le = .int .i64 (lenI st.len) ∧ te = .string ⟨st.text.toArray⟩ ∧ i = .int .i64 ((j : Int) + 1) ∧ st.hosts ≤ j ∧ st.coded ≤ j ∧ (∀ n, st.len = some n → n ≤ 5000) ∧ RW w3 Q (Q + 1) ⟨m, pa, qu, v, [], [], st.cl⟩ fv fv st.fs W ∧ HdW w W
theorem RW.push {w w9 W : World} {Q : Nat} {rq : Rq} {v v' : Value} {fs : List Fl} {f : Fl} {o : Obj} (h : RW w Q (Q + 1) rq v v fs W) (hown : OwnF (Q + 1) w9 v' (fs ++ [f])) (hgrow : (W.alloc o).grownBy w9 v.ownBlock) :
    RW w Q (Q + 1) rq v' v' (fs ++ [f]) (w9.setCell ⟨Q, 4, none⟩ v') ∧ w9.cell? ⟨Q, 4, none⟩ = some v ∧ (∀ o, w9.frozen? ⟨Q, o, none⟩ = false) ∧ Below (Q + 1) W w9 ∧ Ch (fun k => v.ownBlock = some k) W w9 := by
  have hgro := Ch.of_grown hgrow
  have hg := Gr.alloc W o
  have hz2 : Q < (W.alloc o).heap.size := Nat.lt_of_lt_of_le h.lt (Below.size hg)
  have hnb : ∀ k, v.ownBlock = some k → Q + 1 ≤ k := fun k e => (World.ownsRow.lt h.own _ e).1
  have hnq : ¬ v.ownBlock = some Q := fun e => by have := hnb _ e; omega
  have hnb2 : v'.ownBlock ≠ some Q := fun e => by have := (World.ownsRow.lt hown _ e).1; omega
  have kk : ∀ {j u}, W.cell? ⟨Q, j, none⟩ = some u → w9.cell? ⟨Q, j, none⟩ = some u := fun {j u} h => (hgro.cell (p := ⟨Q, j, none⟩) hz2 hnq).trans (hg.cell h)
  have kf : ∀ j, w9.frozen? ⟨Q, j, none⟩ = false := fun j => (hgro.frozen (p := ⟨Q, j, none⟩) hz2 hnq).trans ((Below.frozen hg (show (⟨Q, j, none⟩ : Addr).block < W.heap.size from h.lt)).trans (h.fz j))
  have hgw : Gr w w9 := (h.g.trans hg).ch hgro (fun k e => by have := hnb k e; have := h.le; omega)
  have hB : Below (Q + 1) W w9 := ⟨hgrow.os, hgrow.tape, hgrow.output, Nat.le_trans (Below.size hg) hgrow.size, fun k hk => (hgro.block k (by have := h.lt; omega) (fun e => by have := hnb k e; omega)).trans (hg.block k (by have := h.lt; omega))⟩
  refine ⟨⟨?_, ?_, ?_, ?_, ?_, ?_, ?_, fun o => by simp [go_sem, kf], hown.put hnb2 v', ?_, h.rn, h.le, hgw.setCell h.le _⟩, kk h.c4, kf, hB, (hg.to_ch _).trans hgro⟩
  · simp [go_sem, kk h.c0]
  · simp [go_sem, kk h.c1]
  · simp [go_sem, kk h.c2]
  · simp [go_sem, kk h.c3]
  · simp [go_sem, kk h.c4]
  · simp [go_sem, kk h.c5]
  · simp [go_sem, kk h.c6]
  · have := hgro.size; simpa using Nat.lt_of_lt_of_le hz2 this
set_option maxHeartbeats 32000000 in
set_option maxRecDepth 100000 in
theorem rhead_any (s : List UInt8) (w : World) (hl : s.length ≤ 700000) :
    Calls Tryz.prog 28 #[.string ⟨s.toArray⟩] w (HeadPost (headQ (splitE s)) w) := by
  rw [← headD_eq]
  have hHd0 : HdW w ((w.alloc (.cells #[.string ⟨#[]⟩, .string ⟨#[]⟩, .string ⟨#[]⟩, .int .i64 0, .slice none 0 0, .string ⟨#[]⟩, .bool false] 27)).alloc (.cells #[.string ⟨#[]⟩, .string ⟨#[]⟩, .string ⟨#[]⟩, .int .i64 0, .slice none 0 0, .string ⟨#[]⟩, .bool false] 27)) :=
    ⟨(Gr.alloc _ _).alloc1 _, by simp, (zq_new w).below (Gr.alloc _ _) (by simp), by have := zq_new (w.alloc (.cells #[.string ⟨#[]⟩, .string ⟨#[]⟩, .string ⟨#[]⟩, .int .i64 0, .slice none 0 0, .string ⟨#[]⟩, .bool false] 27)); simpa using this, fun o => by simp [go_sem]⟩
  obtain ⟨l0, tl, hls⟩ : ∃ a b, splitE s = a :: b := by
    cases e : splitE s with
    | nil => exact absurd e (splitE_ne _)
    | cons a b => exact ⟨a, b, rfl⟩
  obtain ⟨z1, z2⟩ := splitE_len _ s (Nat.le_refl _)
  rw [hls] at z1 z2 ⊢
  have hz2 := Lib.hid z2
  have hls' := Lib.hid hls
  have htl9 : tl.length ≤ 700000 := by simp at z1; omega
  clear z1 z2
  go_enter Tryz.func28, Tryz.ntmps28
  go_upto_region 2 with (fail)
  generalize ((w.alloc (.cells #[.string ⟨#[]⟩, .string ⟨#[]⟩, .string ⟨#[]⟩, .int .i64 0, .slice none 0 0, .string ⟨#[]⟩, .bool false] 27)).alloc (.cells #[.string ⟨#[]⟩, .string ⟨#[]⟩, .string ⟨#[]⟩, .int .i64 0, .slice none 0 0, .string ⟨#[]⟩, .bool false] 27)) = w1 at hHd0 ⊢
  have hHd1 := Lib.hid hHd0
  clear hHd0
  have hlines := Lib.hid (rlines_any s w1 (by omega))
  clear hls
  go_wp2_with fail
  refine hlines.out.mono ?_
  rintro e w2 ⟨tv, rfl, hO, hb⟩
  rw [hls'.out] at hO
  obtain ⟨pt, capt, rfl, hle, hc⟩ := hO.texts (by simp)
  have hHd := Lib.hid (hHd1.out.gr hb)
  obtain ⟨b, off, rfl, k0⟩ := hc 0 (by simp)
  have hlen1 : (l0 :: tl).length = tl.length + 1 := rfl
  rw [hlen1] at hle ⊢
  have hcells := Lib.hid (show ∀ i, (hi : i < tl.length) → w2.cell? ⟨b, off + (i + 1), none⟩ = some (.string ⟨tl[i].toArray⟩) from fun i hi => by
    obtain ⟨b', off', e, h⟩ := hc (i + 1) (by simp; omega)
    injection e with e
    injection e with e1 e2
    subst e1; subst e2
    simpa using h)
  have k0' : w2.cell? ⟨b, off, none⟩ = some (.string ⟨l0.toArray⟩) := by simpa using k0
  clear hO hb hc k0 hlines hHd1 hls'
  by_cases h33 : 33 < tl.length + 1
  · have hR := Lib.hid (show headD9 (l0 :: tl) = .bad 431 by unfold headD9; rw [if_pos (by simp; omega)])
    have h33I : (33 : Int) < (tl.length : Int) + 1 := by omega
    clear h33
    have hfin := Lib.hid (fun v0 v1 v2 v3 v4 v5 v6 => hHd.out.bad 431 431 rfl hR.out v0 v1 v2 v3 v4 v5 v6)
    obtain ⟨_, _, ⟨c0, c1, c2, c3, c4, c5, c6⟩, ⟨n0, n1', n2, n3, n4, n5, n6⟩, f0⟩ := hHd.out
    go_wp2
    refine bodyPost_ret (v := .tuple #[.agg #[.string ⟨#[]⟩, .string ⟨#[]⟩, .string ⟨#[]⟩, .int .i64 0, .slice none 0 0, .string ⟨#[]⟩, .bool false], .int .i64 0, .int .i64 431]) ?_ rfl (hfin.out _ _ _ _ _ _ _)
    simp [results, Tryz.results28, go_sem, c0, c1, c2, c3, c4, c5, c6]
  · have h33I : ¬ (33 : Int) < (tl.length : Int) + 1 := by omega
    obtain ⟨⟨m, ta, v, okL⟩, hli⟩ : ∃ x, lineB l0 = x := ⟨_, rfl⟩
    have htal : ta.length ≤ l0.length := by have := line_len2 l0; rw [hli] at this; exact this
    obtain ⟨⟨pa, qu, okT⟩, hta⟩ : ∃ x, targetB ta = x := ⟨_, rfl⟩
    have hl0 := hz2.out l0 (by simp)
    have hD := Lib.hid (show headD9 (l0 :: tl) = if !(okL && okT) then .bad 400 else match foldD (st0D (v == 10)) tl with
      | none => .bad 400
      | some st =>
        if (v == 11 && st.hosts != 1) || (decide (1 < st.coded) || (st.coded == 1 && (v == 10 || st.len.isSome))) then .bad 400
        else if 4096 < st.len.getD 0 then .bad 413
        else .good ⟨m, pa, qu, v, st.fs, [], st.cl⟩ (if st.coded == 1 then 0 else st.len.getD 0) (st.coded == 1) by
      unfold headD9
      rw [if_neg (by simp; omega)]
      simp only [List.headD_cons, List.tail_cons, hli, hta]
      rfl)
    have kl := Lib.hid (fun W => rline_is l0 m ta v okL hli W (by omega))
    have kt := Lib.hid (fun W => rtarget_is ta pa qu okT hta W (by omega))
    clear hli hta h33 hl0 htal
    go_wp2_with fail
    refine (kl.out _).mono ?_
    rintro e w3 ⟨rfl, hb⟩
    have g3 := Lib.hid hb
    clear hb kl
    go_wp2_with fail
    refine (kt.out _).mono ?_
    rintro e w4 ⟨rfl, hb⟩
    have g4 := Lib.hid (g3.out.trans hb)
    clear hb kt g3
    have hHd4 := Lib.hid (hHd.out.gr g4.out)
    have hcells4 := Lib.hid (fun i hi => g4.out.cell (hcells.out i hi))
    clear hHd hcells g4 k0'
    cases okL with
    | false =>
      have hR := Lib.hid (show headD9 (l0 :: tl) = .bad 400 by rw [hD.out]; rfl)
      have hfin := Lib.hid (fun v0 v1 v2 v3 v4 v5 v6 => hHd4.out.bad 400 400 rfl hR.out v0 v1 v2 v3 v4 v5 v6)
      obtain ⟨_, _, ⟨c0, c1, c2, c3, c4, c5, c6⟩, ⟨n0, n1', n2, n3, n4, n5, n6⟩, f0⟩ := hHd4.out
      go_wp2
      refine bodyPost_ret (v := .tuple #[.agg #[.string ⟨#[]⟩, .string ⟨#[]⟩, .string ⟨#[]⟩, .int .i64 0, .slice none 0 0, .string ⟨#[]⟩, .bool false], .int .i64 0, .int .i64 400]) ?_ rfl (hfin.out _ _ _ _ _ _ _)
      simp [results, Tryz.results28, go_sem, c0, c1, c2, c3, c4, c5, c6]
    | true =>
      cases okT with
      | false =>
        have hR := Lib.hid (show headD9 (l0 :: tl) = .bad 400 by rw [hD.out]; rfl)
        have hfin := Lib.hid (fun v0 v1 v2 v3 v4 v5 v6 => hHd4.out.bad 400 400 rfl hR.out v0 v1 v2 v3 v4 v5 v6)
        obtain ⟨_, _, ⟨c0, c1, c2, c3, c4, c5, c6⟩, ⟨n0, n1', n2, n3, n4, n5, n6⟩, f0⟩ := hHd4.out
        go_wp2
        refine bodyPost_ret (v := .tuple #[.agg #[.string ⟨#[]⟩, .string ⟨#[]⟩, .string ⟨#[]⟩, .int .i64 0, .slice none 0 0, .string ⟨#[]⟩, .bool false], .int .i64 0, .int .i64 400]) ?_ rfl (hfin.out _ _ _ _ _ _ _)
        simp [results, Tryz.results28, go_sem, c0, c1, c2, c3, c4, c5, c6]
      | true =>
        have hD2 := Lib.hid (show headD9 (l0 :: tl) = match foldD (st0D (v == 10)) tl with
          | none => .bad 400
          | some st =>
            if (v == 11 && st.hosts != 1) || (decide (1 < st.coded) || (st.coded == 1 && (v == 10 || st.len.isSome))) then .bad 400
            else if 4096 < st.len.getD 0 then .bad 413
            else .good ⟨m, pa, qu, v, st.fs, [], st.cl⟩ (if st.coded == 1 then 0 else st.len.getD 0) (st.coded == 1) by rw [hD.out]; rfl)
        clear hD
        have hvb : ((v : Int) == 10) = (v == 10) := by rw [Bool.eq_iff_iff, beq_iff_eq, beq_iff_eq]; omega
        obtain ⟨c10, hc10⟩ : ∃ x, (v == 10) = x := ⟨_, rfl⟩
        rw [hc10] at hvb
        have hc10' := Lib.hid hc10
        clear hc10
        have hQ0 : RW w4 w4.heap.size (w4.heap.size + 1) ⟨m, pa, qu, v, [], [], c10⟩ (.slice none 0 0) (.slice none 0 0) [] (w4.alloc (.cells #[.string ⟨m.toArray⟩, .string ⟨pa.toArray⟩, .string ⟨qu.toArray⟩, .int .i64 v, .slice none 0 0, .string ⟨#[]⟩, .bool c10] 27)) :=
          ⟨cell_new7 _ _ _ 0 _ rfl, cell_new7 _ _ _ 1 _ rfl, cell_new7 _ _ _ 2 _ rfl, cell_new7 _ _ _ 3 _ rfl, cell_new7 _ _ _ 4 _ rfl, cell_new7 _ _ _ 5 _ rfl, cell_new7 _ _ _ 6 _ rfl, fun o => by simp [go_sem], World.ownsRow_nil _ _ _ _, by simp, Nat.lt_succ_self _, Nat.le_refl _, Gr.alloc _ _⟩
        have hHd5 := hHd4.out.gr (Gr.alloc w4 (.cells #[.string ⟨m.toArray⟩, .string ⟨pa.toArray⟩, .string ⟨qu.toArray⟩, .int .i64 v, .slice none 0 0, .string ⟨#[]⟩, .bool c10] 27))
        obtain ⟨_, _, ⟨c0, c1, c2, c3, c4, c5, c6⟩, ⟨n0, n1', n2, n3, n4, n5, n6⟩, f0⟩ := hHd4.out
        go_upto_region 10 with (fail)
        clear c0 c1 c2 c3 c4 c5 c6 n0 n1' n2 n3 n4 n5 n6 f0
        obtain ⟨Q, hQe⟩ : ∃ x, w4.heap.size = x := ⟨_, rfl⟩
        rw [hQe] at hQ0 ⊢
        generalize (w4.alloc (.cells #[.string ⟨m.toArray⟩, .string ⟨pa.toArray⟩, .string ⟨qu.toArray⟩, .int .i64 v, .slice none 0 0, .string ⟨#[]⟩, .bool c10] 27)) = w5 at hQ0 hHd5 ⊢
        have hRs := Lib.hid (show DRel w w4 Q m pa qu v c10 tl (.int .i64 0) (.int .i64 0) (.int .i64 (-1)) (.string ⟨#[]⟩) (.int .i64 1) w5 from ⟨0, st0D c10, .slice none 0 0, Nat.zero_le _, rfl, rfl, rfl, rfl, rfl, rfl, Nat.le_refl _, Nat.le_refl _, (fun n h => by cases h), hQ0, hHd5⟩)
        have hQe' := Lib.hid hQe
        have hQw := Lib.hid (show w.heap.size + 1 < Q by rw [← hQe]; exact hHd4.out.sz)
        have hD3 := Lib.hid (show headD9 (l0 :: tl) = match foldD (st0D c10) tl with
          | none => .bad 400
          | some st =>
            if (v == 11 && st.hosts != 1) || (decide (1 < st.coded) || (st.coded == 1 && (c10 || st.len.isSome))) then .bad 400
            else if 4096 < st.len.getD 0 then .bad 413
            else .good ⟨m, pa, qu, v, st.fs, [], st.cl⟩ (if st.coded == 1 then 0 else st.len.getD 0) (st.coded == 1) by rw [hD2.out, hc10'.out])
        clear hQ0 hHd5 hQe hHd4 hD2 hvb
        have hc4' := Lib.hid hcells4
        clear hcells4
        go_wp2
        go_loopw [15, 16, 17, 18, 19] (fun ho co le te i W => DRel w w4 Q m pa qu v c10 tl ho co le te i W) (fun _ _ _ _ i _ => tl.length + 1 - (intOf i).toNat)
        case atStart => exact hRs.out
        case round =>
          obtain ⟨j, st, fv, hj, hfold, rfl, rfl, rfl, rfl, rfl, hho, hco, hlen, hRW, hHd6⟩ := hrel
          obtain ⟨fs, hosts, coded, len, text, cl⟩ := st
          dsimp only at hho hco hlen hRW ⊢
          have hfold' := Lib.hid hfold
          have hlen' := Lib.hid hlen
          have hRW' := Lib.hid hRW
          have hHd7 := Lib.hid hHd6
          clear hfold hlen hHd6 hRs
          by_cases hlt : j < tl.length
          · have k1 := hRW.g.cell (hc4'.out j hlt)
            have hxl := hz2.out _ (List.mem_cons_of_mem _ (List.getElem_mem hlt))
            obtain ⟨x, hx⟩ : ∃ x, tl[j] = x := ⟨_, rfl⟩
            have hst := Lib.hid (show foldD (st0D c10) (tl.take (j + 1)) = stepD ⟨fs, hosts, coded, len, text, cl⟩ x by rw [foldD_step hlt hfold'.out, hx])
            have hno := Lib.hid (show stepD ⟨fs, hosts, coded, len, text, cl⟩ x = none → headD9 (l0 :: tl) = .bad 400 from fun h => by rw [hD3.out, foldD_none hlt hfold'.out (by rw [hx]; exact h)])
            rw [hx] at k1 hxl
            have hltI : (j : Int) + 1 < (tl.length : Int) + 1 := by omega
            obtain ⟨⟨n1, v1, okp⟩, hP⟩ : ∃ y, parseB x = y := ⟨_, rfl⟩
            have kp := Lib.hid (fun W => show Calls Tryz.prog 51 #[.string ⟨x.toArray⟩] W fun e w' => e = .returned (.tuple #[.agg #[.string ⟨n1.toArray⟩, .string ⟨v1.toArray⟩], .bool okp]) ∧ Gr W w' by
              have := rparse_any x W (by omega)
              rw [hP] at this; exact this)
            have hP' := Lib.hid hP
            have hfsl := Lib.hid (show fs.length ≤ 700000 by have := foldD_len _ hfold'.out; simp [st0D] at this; omega)
            clear hRW hx hP hfold'
            have hl1 : n1.length ≤ 700000 := by have := parse_len1 x; rw [hP'.out] at this; exact Nat.le_trans (Nat.le_trans this hxl) hl
            have hl1v : v1.length ≤ 700000 := by have := parse_len2 x; rw [hP'.out] at this; exact Nat.le_trans (Nat.le_trans this hxl) hl
            go_wp2_with fail
            refine (kp.out _).mono ?_
            rintro e w6 ⟨rfl, hb⟩
            have hRW6 := hRW'.out.gr hb
            have hHd8 := hHd7.out.gr hb
            have hHf0 : HfW w w4 Q ⟨m, pa, qu, v, [], [], cl⟩ fv fs w6.heap.size n1 v1 (w6.alloc (.cells #[.string ⟨n1.toArray⟩, .string ⟨v1.toArray⟩] 45)) :=
              ⟨hRW6.gr (Gr.alloc _ _), hHd8.gr (Gr.alloc _ _), cell_new7 w6 [.string ⟨n1.toArray⟩, .string ⟨v1.toArray⟩] _ 0 _ rfl, cell_new7 w6 [.string ⟨n1.toArray⟩, .string ⟨v1.toArray⟩] _ 1 _ rfl⟩
            have hFo := Lib.hid (show ∀ k, fv.ownBlock = some k → k < w6.heap.size from fun k e => (World.ownsRow.lt hRW6.own k e).2)
            have hFQ := Lib.hid (show Q < w6.heap.size from hRW6.lt)
            clear hb kp hRW' hHd7 k1 hRW6 hHd8
            go_upto_region 16 with (fail)
            obtain ⟨F, hFe⟩ : ∃ x, w6.heap.size = x := ⟨_, rfl⟩
            rw [hFe] at hHf0 hFo hFQ ⊢
            generalize (w6.alloc (.cells #[.string ⟨n1.toArray⟩, .string ⟨v1.toArray⟩] 45)) = w7 at hHf0 ⊢
            have hHf := Lib.hid hHf0
            clear hFe hHf0
            cases okp with
            | false =>
              have hR := Lib.hid (hno.out (by unfold stepD; rw [hP'.out]; rfl))
              have hHd := Lib.hid hHf.out.h
              have hfin := Lib.hid (fun v0 v1 v2 v3 v4 v5 v6 => hHd.out.bad 400 400 rfl hR.out v0 v1 v2 v3 v4 v5 v6)
              obtain ⟨_, _, ⟨c0, c1, c2, c3, c4, c5, c6⟩, ⟨n0, n1', n2, n3, n4, n5, n6⟩, f0⟩ := hHd.out
              go_wp2
              refine bodyPost_ret (v := .tuple #[.agg #[.string ⟨#[]⟩, .string ⟨#[]⟩, .string ⟨#[]⟩, .int .i64 0, .slice none 0 0, .string ⟨#[]⟩, .bool false], .int .i64 0, .int .i64 400]) ?_ rfl (hfin.out _ _ _ _ _ _ _)
              simp [results, Tryz.results28, go_sem, c0, c1, c2, c3, c4, c5, c6]
            | true =>
              obtain ⟨pv, capv, rfl, _⟩ := hHf.out.q.own.at
              have hA : ∀ O, (w7.alloc O).ownsRow (Q + 1) 45 2 (.slice pv fs.length capv) fs.length (fcells fs) := fun O => World.ownsRow.alloc hHf.out.q.own O
              obtain ⟨i0, hi, hz0, hz1, hzb⟩ := info_parts infoField
              have d4 := hHf.out.q.c4
              have y0 := hHf.out.y0
              have y1 := hHf.out.y1
              have dlt := hHf.out.q.lt
              have hfl : fs.length ≤ 700000 := hfsl.out
              have hsz : Q + 1 ≤ (w7.alloc (.cells #[.string ⟨n1.toArray⟩, .string ⟨v1.toArray⟩] 45)).heap.size := by simp; omega
              go_wp2_with (at_builtin; refine wpList_append_own _ rfl _ _ 25 rfl (Q + 1) 45 i0 (.agg #[.string ⟨#[]⟩, .string ⟨#[]⟩]) 2 32 Tryz.underlying25 hi hz0 hz1 hzb rfl (by decide) _ _ _ rfl (hA _) ⟨w7.heap.size, 0, none⟩ 1 1 [.string ⟨n1.toArray⟩, .string ⟨v1.toArray⟩] rfl rfl ?qc2 ?qc3 ?qc4 ?qc5 ?qc6 ?_)
              case qc2 => exact cells_two _ _ _ _
              case qc3 => simp [Value.oneCell']
              case qc4 => unfold maxLen; omega
              case qc5 => omega
              case qc6 => exact hsz
              intro v' w9 hown3 hgrow _
              have hown4 : OwnF (Q + 1) w9 v' (fs ++ [(n1, v1)]) := by
                unfold OwnF; rw [fcells_app, List.length_append]; exact hown3
              obtain ⟨hP9, r4, rz, hB9, hC9⟩ := RW.push hHf.out.q hown4 hgrow
              have hy0 := (hC9.cell (cell_lt y0) (fun e => by have := hFo.out _ e; exact absurd rfl (Nat.ne_of_lt this))).trans y0
              have hy1 := (hC9.cell (cell_lt y1) (fun e => by have := hFo.out _ e; exact absurd rfl (Nat.ne_of_lt this))).trans y1
              have hHf9 := Lib.hid (show HfW w w4 Q ⟨m, pa, qu, v, [], [], cl⟩ v' (fs ++ [(n1, v1)]) F n1 v1 (w9.setCell ⟨Q, 4, none⟩ v') from
                ⟨hP9, hHf.out.h.below (Below.setCell (hB9.mono (Nat.le_succ Q)) (Nat.le_refl Q) v') hQw.out, cell_set_other hy0 (Nat.ne_of_lt hFQ.out), cell_set_other hy1 (Nat.ne_of_lt hFQ.out)⟩)
              obtain ⟨p9, c9, rfl, _⟩ := hown4.at
              clear hA hi hz0 hz1 hzb d4 y0 y1 dlt hsz hown3 hgrow hown4 hP9 hB9 hC9 hy0 hy1 hHf hFo
              have hlen9 : (fs ++ [(n1, v1)]).length = fs.length + 1 := by simp
              rw [hlen9] at hHf9 ⊢
              clear hlen9
              obtain ⟨a1, ha1⟩ : ∃ y, alikeB n1 qHost = y := ⟨_, rfl⟩
              have ka1 := Lib.hid (fun W => show Calls Tryz.prog 52 #[.string ⟨n1.toArray⟩, .string ⟨dHost.toArray⟩] W fun e w' => e = .returned (.bool a1) ∧ Gr W w' by
                have := ralike_any n1 dHost W (by omega) (by decide)
                rw [(alike_d n1).1, ha1] at this; exact this)
              have ha1' := Lib.hid ha1
              obtain ⟨ho2, hho2⟩ : ∃ y, (if a1 then hosts + 1 else hosts) = y := ⟨_, rfl⟩
              have hho2' := Lib.hid hho2
              have hob : hosts ≤ 800000 := by omega
              clear ha1 hho2
              go_upto_region 19 with (fail)
              obtain ⟨fv9, hfv9⟩ : ∃ y, Value.slice p9 (fs.length + 1) c9 = y := ⟨_, rfl⟩
              rw [hfv9] at hHf9 ⊢
              generalize (w9.setCell ⟨Q, 4, none⟩ fv9) = w10 at hHf9 ⊢
              have y0 := hHf9.out.y0
              clear hfv9
              go_wp2_with fail
              refine (ka1.out _).mono ?_
              rintro e w11 ⟨rfl, hb⟩
              have hHf11 := Lib.hid (hHf9.out.gr hb)
              clear hb y0 ka1 hHf9
              go_upto_if 84 with (fail)
              go_cut [15] (fun s15 wx => s15 = .int .i64 (ho2 : Nat) ∧ HfW w w4 Q ⟨m, pa, qu, v, [], [], cl⟩ fv9 (fs ++ [(n1, v1)]) F n1 v1 wx)
              case first =>
                cases a1 with
                | false =>
                  go_wp2
                  go_meet
                  exact ⟨by rw [← hho2'.out]; rfl, hHf11.out⟩
                | true =>
                  go_wp2
                  go_meet
                  exact ⟨by rw [← hho2'.out]; rfl, hHf11.out⟩
              case rest =>
                obtain ⟨rfl, hHc⟩ := hcut
                have hHf12 := Lib.hid hHc
                clear hHc hHf11
                obtain ⟨a2, ha2⟩ : ∃ y, alikeB n1 qTra = y := ⟨_, rfl⟩
                obtain ⟨a3, ha3⟩ : ∃ y, alikeB v1 qChunk = y := ⟨_, rfl⟩
                have ka2 := Lib.hid (fun W => show Calls Tryz.prog 52 #[.string ⟨n1.toArray⟩, .string ⟨dTra.toArray⟩] W fun e w' => e = .returned (.bool a2) ∧ Gr W w' by
                  have := ralike_any n1 dTra W (by omega) (by decide)
                  rw [(alike_d n1).2.1, ha2] at this; exact this)
                have ka3 := Lib.hid (fun W => show Calls Tryz.prog 52 #[.string ⟨v1.toArray⟩, .string ⟨qChunk.toArray⟩] W fun e w' => e = .returned (.bool a3) ∧ Gr W w' by
                  have := ralike_any v1 qChunk W (by omega) (by decide)
                  rw [ha3] at this; exact this)
                have hS0 := Lib.hid (show stepD ⟨fs, hosts, coded, len, text, cl⟩ x = if a2 && !a3 then none
                    else if alikeB n1 qLen then
                      match numberD v1 with
                      | none => none
                      | some n => if len.isSome && v1 != text then none else some ⟨fs ++ [(n1, v1)], ho2, if a2 then coded + 1 else coded, some n, v1, cl || closeF (n1, v1)⟩
                    else some ⟨fs ++ [(n1, v1)], ho2, if a2 then coded + 1 else coded, len, text, cl || closeF (n1, v1)⟩ by
                  unfold stepD
                  rw [hP'.out]
                  dsimp only
                  rw [ha2, ha3, ← hho2'.out, ha1'.out]
                  rfl)
                obtain ⟨co2, hco2⟩ : ∃ y, (if a2 then coded + 1 else coded) = y := ⟨_, rfl⟩
                rw [hco2] at hS0
                have hco2' := Lib.hid hco2
                have hcb : coded ≤ 800000 := by omega
                have y0 := hHf12.out.y0
                clear ha2 ha3 hco2
                go_wp2_with fail
                refine (ka2.out _).mono ?_
                rintro e w13 ⟨rfl, hb⟩
                have hHf13 := Lib.hid (hHf12.out.gr hb)
                clear hb y0 ka2 hHf12
                go_upto_if 89 with (fail)
                go_cut [16] (fun s16 wx => s16 = .int .i64 (co2 : Nat) ∧ (a2 && !a3) = false ∧ HfW w w4 Q ⟨m, pa, qu, v, [], [], cl⟩ fv9 (fs ++ [(n1, v1)]) F n1 v1 wx)
                case first =>
                  cases a2 with
                  | false =>
                    go_wp2
                    go_meet
                    exact ⟨by rw [← hco2'.out]; rfl, rfl, hHf13.out⟩
                  | true =>
                    have y1 := hHf13.out.y1
                    go_wp2_with fail
                    refine (ka3.out _).mono ?_
                    rintro e w14 ⟨rfl, hb⟩
                    have hHf14 := Lib.hid (hHf13.out.gr hb)
                    clear hb y1 ka3 hHf13
                    cases a3 with
                    | false =>
                      have hR := Lib.hid (hno.out (by rw [hS0.out]; rfl))
                      have hHd := Lib.hid hHf14.out.h
                      have hfin := Lib.hid (fun v0 v1 v2 v3 v4 v5 v6 => hHd.out.bad 400 400 rfl hR.out v0 v1 v2 v3 v4 v5 v6)
                      obtain ⟨_, _, ⟨c0, c1, c2, c3, c4, c5, c6⟩, ⟨n0, n1', n2, n3, n4, n5, n6⟩, f0⟩ := hHd.out
                      go_wp2
                      refine bodyPost_ret (v := .tuple #[.agg #[.string ⟨#[]⟩, .string ⟨#[]⟩, .string ⟨#[]⟩, .int .i64 0, .slice none 0 0, .string ⟨#[]⟩, .bool false], .int .i64 0, .int .i64 400]) ?_ rfl (hfin.out _ _ _ _ _ _ _)
                      simp [results, Tryz.results28, go_sem, c0, c1, c2, c3, c4, c5, c6]
                    | true =>
                      go_wp2
                      go_meet
                      exact ⟨by rw [← hco2'.out]; rfl, rfl, hHf14.out⟩
                case rest =>
                  obtain ⟨rfl, h23, hHc⟩ := hcut
                  have hHf15 := Lib.hid hHc
                  clear hHc hHf13 ka3
                  obtain ⟨a4, ha4⟩ : ∃ y, alikeB n1 qLen = y := ⟨_, rfl⟩
                  have ka4 := Lib.hid (fun W => show Calls Tryz.prog 52 #[.string ⟨n1.toArray⟩, .string ⟨dLen.toArray⟩] W fun e w' => e = .returned (.bool a4) ∧ Gr W w' by
                    have := ralike_any n1 dLen W (by omega) (by decide)
                    rw [(alike_d n1).2.2.1, ha4] at this; exact this)
                  have hS1 := Lib.hid (show stepD ⟨fs, hosts, coded, len, text, cl⟩ x = if a4 then
                      match numberD v1 with
                      | none => none
                      | some n => if len.isSome && v1 != text then none else some ⟨fs ++ [(n1, v1)], ho2, co2, some n, v1, cl || closeF (n1, v1)⟩
                    else some ⟨fs ++ [(n1, v1)], ho2, co2, len, text, cl || closeF (n1, v1)⟩ by
                    rw [hS0.out, h23, ← ha4]; rfl)
                  have y0 := hHf15.out.y0
                  clear ha4 h23 hS0
                  go_wp2_with fail
                  refine (ka4.out _).mono ?_
                  rintro e w16 ⟨rfl, hb⟩
                  have hHf16 := Lib.hid (hHf15.out.gr hb)
                  clear hb y0 ka4 hHf15
                  go_upto_if 99 with (fail)
                  go_cut [17, 18] (fun s17 s18 wx => ∃ (len2 : Option Nat) (text2 : List UInt8), s17 = .int .i64 (lenI len2) ∧ s18 = .string ⟨text2.toArray⟩ ∧ stepD ⟨fs, hosts, coded, len, text, cl⟩ x = some ⟨fs ++ [(n1, v1)], ho2, co2, len2, text2, cl || closeF (n1, v1)⟩ ∧ (∀ n, len2 = some n → n ≤ 5000) ∧ HfW w w4 Q ⟨m, pa, qu, v, [], [], cl⟩ fv9 (fs ++ [(n1, v1)]) F n1 v1 wx)
                  case first =>
                    cases a4 with
                    | false =>
                      go_wp2
                      go_meet
                      exact ⟨len, text, rfl, rfl, by rw [hS1.out]; rfl, hlen'.out, hHf16.out⟩
                    | true =>
                      have y1 := hHf16.out.y1
                      have hnum := Lib.hid (fun W => rnumber_any v1 W (by omega))
                      cases hz : numberD v1 with
                      | none =>
                        have hzI : numI v1 = -1 := by unfold numI; rw [hz]
                        have hR := Lib.hid (hno.out (by rw [hS1.out, hz]; rfl))
                        rw [hzI] at hnum
                        clear hz hzI
                        go_wp2_with fail
                        refine (hnum.out _).mono ?_
                        rintro e w17 ⟨rfl, rfl⟩
                        have hHd := Lib.hid hHf16.out.h
                        clear y1 hnum
                        have hfin := Lib.hid (fun v0 v1 v2 v3 v4 v5 v6 => hHd.out.bad 400 400 rfl hR.out v0 v1 v2 v3 v4 v5 v6)
                        obtain ⟨_, _, ⟨c0, c1, c2, c3, c4, c5, c6⟩, ⟨n0, n1', n2, n3, n4, n5, n6⟩, f0⟩ := hHd.out
                        go_wp2
                        refine bodyPost_ret (v := .tuple #[.agg #[.string ⟨#[]⟩, .string ⟨#[]⟩, .string ⟨#[]⟩, .int .i64 0, .slice none 0 0, .string ⟨#[]⟩, .bool false], .int .i64 0, .int .i64 400]) ?_ rfl (hfin.out _ _ _ _ _ _ _)
                        simp [results, Tryz.results28, go_sem, c0, c1, c2, c3, c4, c5, c6]
                      | some n =>
                        have hzI : numI v1 = n := by unfold numI; rw [hz]
                        have hn5 : n ≤ 5000 := by
                          unfold numberD at hz
                          split at hz
                          · cases hz
                          · exact numD_le v1 0 n (by omega) hz
                        rw [hzI] at hnum
                        have hS2 := Lib.hid (show stepD ⟨fs, hosts, coded, len, text, cl⟩ x = if len.isSome && v1 != text then none else some ⟨fs ++ [(n1, v1)], ho2, co2, some n, v1, cl || closeF (n1, v1)⟩ by rw [hS1.out, hz]; rfl)
                        clear hz hzI hS1
                        go_wp2_with fail
                        refine (hnum.out _).mono ?_
                        rintro e w17 ⟨rfl, rfl⟩
                        clear hnum
                        cases len with
                        | none =>
                          unfold lenI at *
                          go_wp2
                          go_meet
                          exact ⟨some n, v1, rfl, rfl, by rw [hS2.out]; rfl, fun k hk => by cases hk; exact hn5, hHf16.out⟩
                        | some l9 =>
                          have hl9 : (0 : Int) ≤ l9 := by omega
                          unfold lenI at *
                          dsimp only at *
                          by_cases hv : v1 = text
                          · have hvb : (v1 != text) = false := by rw [hv]; simp
                            have hS3 := Lib.hid (show stepD ⟨fs, hosts, coded, some l9, text, cl⟩ x = some ⟨fs ++ [(n1, v1)], ho2, co2, some n, v1, cl || closeF (n1, v1)⟩ by rw [hS2.out, hvb]; rfl)
                            have hvw : (!(v1 == text)) = false := hvb
                            clear hv hS2 hvb
                            go_wp2
                            go_meet
                            exact ⟨some n, v1, rfl, rfl, hS3.out, fun k hk => by cases hk; exact hn5, hHf16.out⟩
                          · have hvb : (v1 != text) = true := by rw [bne_iff_ne]; exact hv
                            have hR := Lib.hid (hno.out (by rw [hS2.out, hvb]; rfl))
                            have hHd := Lib.hid hHf16.out.h
                            have hvw : (!(v1 == text)) = true := hvb
                            clear hv hS2 hvb
                            have hfin := Lib.hid (fun v0 v1 v2 v3 v4 v5 v6 => hHd.out.bad 400 400 rfl hR.out v0 v1 v2 v3 v4 v5 v6)
                            obtain ⟨_, _, ⟨c0, c1, c2, c3, c4, c5, c6⟩, ⟨n0, n1', n2, n3, n4, n5, n6⟩, f0⟩ := hHd.out
                            go_wp2
                            refine bodyPost_ret (v := .tuple #[.agg #[.string ⟨#[]⟩, .string ⟨#[]⟩, .string ⟨#[]⟩, .int .i64 0, .slice none 0 0, .string ⟨#[]⟩, .bool false], .int .i64 0, .int .i64 400]) ?_ rfl (hfin.out _ _ _ _ _ _ _)
                            simp [results, Tryz.results28, go_sem, c0, c1, c2, c3, c4, c5, c6]
                  case rest =>
                    obtain ⟨len2, text2, rfl, rfl, hS5, hl5, hHc⟩ := hcut
                    have hHf18 := Lib.hid hHc
                    have hS5' := Lib.hid hS5
                    have hl5' := Lib.hid hl5
                    clear hHc hHf16 hS1 hS5 hl5
                    obtain ⟨a5, ha5⟩ : ∃ y, alikeB n1 qConn = y := ⟨_, rfl⟩
                    obtain ⟨a6, ha6⟩ : ∃ y, hasB v1 qClose = y := ⟨_, rfl⟩
                    have ka5 := Lib.hid (fun W => show Calls Tryz.prog 52 #[.string ⟨n1.toArray⟩, .string ⟨dConn.toArray⟩] W fun e w' => e = .returned (.bool a5) ∧ Gr W w' by
                      have := ralike_any n1 dConn W (by omega) (by decide)
                      rw [(alike_d n1).2.2.2, ha5] at this; exact this)
                    have ka6 := Lib.hid (fun W => show Calls Tryz.prog 54 #[.string ⟨v1.toArray⟩, .string ⟨qClose.toArray⟩] W fun e w' => e = .returned (.bool a6) ∧ Gr W w' by
                      have := rhas_any v1 qClose W (by omega) (by decide)
                      rw [ha6] at this; exact this)
                    have hcl := Lib.hid (show closeF (n1, v1) = (a5 && a6) by unfold closeF; rw [← ha5, ← ha6])
                    have hob2 := Lib.hid (show ho2 ≤ j + 1 by rw [← hho2'.out]; split <;> omega)
                    have hcb2 := Lib.hid (show co2 ≤ j + 1 by rw [← hco2'.out]; split <;> omega)
                    have y0 := hHf18.out.y0
                    clear ha5 ha6
                    go_wp2_with fail
                    refine (ka5.out _).mono ?_
                    rintro e w19 ⟨rfl, hb⟩
                    have hHf19 := Lib.hid (hHf18.out.gr hb)
                    clear hb y0 ka5 hHf18
                    cases a5 with
                    | false =>
                      have hend := Lib.hid (show DRel w w4 Q m pa qu v c10 tl (.int .i64 (ho2 : Nat)) (.int .i64 (co2 : Nat)) (.int .i64 (lenI len2)) (.string ⟨text2.toArray⟩) (.int .i64 ((j : Int) + 2)) w19 from
                        ⟨j + 1, _, fv9, hlt, hst.out.trans hS5'.out, rfl, rfl, rfl, rfl, congrArg _ (by omega), hob2.out, hcb2.out, hl5'.out, by rw [hcl.out]; simpa using hHf19.out.q, hHf19.out.h⟩)
                      go_wp2
                      go_roundw
                      case rel => exact hend.out
                      case measure => simp [intOf]; omega
                    | true =>
                      have y1 := hHf19.out.y1
                      go_wp2_with fail
                      refine (ka6.out _).mono ?_
                      rintro e w20 ⟨rfl, hb⟩
                      have hHf20 := Lib.hid (hHf19.out.gr hb)
                      clear hb y1 ka6 hHf19
                      cases a6 with
                      | false =>
                        have hend := Lib.hid (show DRel w w4 Q m pa qu v c10 tl (.int .i64 (ho2 : Nat)) (.int .i64 (co2 : Nat)) (.int .i64 (lenI len2)) (.string ⟨text2.toArray⟩) (.int .i64 ((j : Int) + 2)) w20 from
                          ⟨j + 1, _, fv9, hlt, hst.out.trans hS5'.out, rfl, rfl, rfl, rfl, congrArg _ (by omega), hob2.out, hcb2.out, hl5'.out, by rw [hcl.out]; simpa using hHf20.out.q, hHf20.out.h⟩)
                        go_wp2
                        go_roundw
                        case rel => exact hend.out
                        case measure => simp [intOf]; omega
                      | true =>
                        have d6 := hHf20.out.q.c6
                        have dz := hHf20.out.q.fz
                        have hend := Lib.hid (show DRel w w4 Q m pa qu v c10 tl (.int .i64 (ho2 : Nat)) (.int .i64 (co2 : Nat)) (.int .i64 (lenI len2)) (.string ⟨text2.toArray⟩) (.int .i64 ((j : Int) + 2)) (w20.setCell ⟨Q, 6, none⟩ (.bool true)) from
                          ⟨j + 1, _, fv9, hlt, hst.out.trans hS5'.out, rfl, rfl, rfl, rfl, congrArg _ (by omega), hob2.out, hcb2.out, hl5'.out, by rw [hcl.out]; simpa using hHf20.out.q.put6 true, hHf20.out.h.below ((Below.refl _ _).setCell (Nat.le_refl Q) _) hQw.out⟩)
                        go_wp2
                        go_roundw
                        case rel => exact hend.out
                        case measure => simp [intOf]; omega
          · have hjl : j = tl.length := by omega
            subst hjl
            have hltI : ¬ (tl.length : Int) + 1 < (tl.length : Int) + 1 := by omega
            have hf2 := hfold'.out
            rw [List.take_length] at hf2
            have hD4 := Lib.hid (show headD9 (l0 :: tl) = if (v == 11 && hosts != 1) || (decide (1 < coded) || (coded == 1 && (c10 || len.isSome))) then .bad 400
                else if 4096 < len.getD 0 then .bad 413
                else .good ⟨m, pa, qu, v, fs, [], cl⟩ (if coded == 1 then 0 else len.getD 0) (coded == 1) by rw [hD3.out, hf2])
            have hvb : ((v : Int) == 10) = c10 := by rw [← hc10'.out, Bool.eq_iff_iff, beq_iff_eq, beq_iff_eq]; omega
            obtain ⟨bA, hA⟩ : ∃ y, (v == 11) = y := ⟨_, rfl⟩
            obtain ⟨bH, hH⟩ : ∃ y, (hosts != 1) = y := ⟨_, rfl⟩
            obtain ⟨bC, hC⟩ : ∃ y, decide (1 < coded) = y := ⟨_, rfl⟩
            obtain ⟨bD, hDd⟩ : ∃ y, (coded == 1) = y := ⟨_, rfl⟩
            obtain ⟨bL, hL⟩ : ∃ y, len.isSome = y := ⟨_, rfl⟩
            rw [hA, hH, hC, hDd, hL] at hD4
            have e1 : ((v : Int) == 11) = bA := by rw [← hA, Bool.eq_iff_iff, beq_iff_eq, beq_iff_eq]; omega
            have e2 : ((hosts : Int) != 1) = bH := by rw [← hH, Bool.eq_iff_iff, bne_iff_ne, bne_iff_ne]; omega
            have e3 : decide ((1 : Int) < coded) = bC := by rw [← hC, decide_eq_decide]; omega
            have e4 : ((coded : Int) == 1) = bD := by rw [← hDd, Bool.eq_iff_iff, beq_iff_eq, beq_iff_eq]; omega
            have e6 : decide ((0 : Int) ≤ lenI len) = bL := by
              rw [← hL]
              cases len with
              | none => rfl
              | some n => unfold lenI; simp
            obtain ⟨zL, hzL⟩ : ∃ y, lenI len = y := ⟨_, rfl⟩
            rw [hzL] at e6 ⊢
            have e1' := Lib.hid e1
            have e2' := Lib.hid e2
            have e3' := Lib.hid e3
            have e4' := Lib.hid e4
            have e5' := Lib.hid hvb
            have e6' := Lib.hid e6
            have hzL' := Lib.hid hzL
            have hL' := Lib.hid hL
            have hlen2 := hlen'.out
            clear e1 e2 e3 e4 e6 hvb hA hH hC hDd hL hzL hf2 hfold' hRW hlen'
            obtain ⟨cond, hcond⟩ : ∃ y, ((bA && bH) || (bC || (bD && (c10 || bL)))) = y := ⟨_, rfl⟩
            rw [hcond] at hD4
            have hcond' := Lib.hid hcond
            clear hcond
            go_upto_region 33 with (fail)
            go_cut [149] (fun s149 wx => s149 = .bool cond ∧ wx = wr)
            case first =>
              have e1 := e1'.out
              have e2 := e2'.out
              have e3 := e3'.out
              have e4 := e4'.out
              have e5 := e5'.out
              have e6 := e6'.out
              cases bA with
              | false =>
                cases bC with
                | true =>
                  go_wp2
                  go_meet
                  exact ⟨by rw [← hcond'.out]; rfl, rfl⟩
                | false =>
                  cases bD with
                  | false =>
                    go_wp2
                    go_meet
                    exact ⟨by rw [← hcond'.out]; rfl, rfl⟩
                  | true =>
                    cases c10 with
                    | true =>
                      go_wp2
                      go_meet
                      exact ⟨by rw [← hcond'.out]; rfl, rfl⟩
                    | false =>
                      cases bL with
                      | true =>
                        go_wp2
                        go_meet
                        exact ⟨by rw [← hcond'.out]; rfl, rfl⟩
                      | false =>
                        go_wp2
                        go_meet
                        exact ⟨by rw [← hcond'.out]; rfl, rfl⟩
              | true =>
                cases bH with
                | false =>
                  cases bC with
                  | true =>
                    go_wp2
                    go_meet
                    exact ⟨by rw [← hcond'.out]; rfl, rfl⟩
                  | false =>
                    cases bD with
                    | false =>
                      go_wp2
                      go_meet
                      exact ⟨by rw [← hcond'.out]; rfl, rfl⟩
                    | true =>
                      cases c10 with
                      | true =>
                        go_wp2
                        go_meet
                        exact ⟨by rw [← hcond'.out]; rfl, rfl⟩
                      | false =>
                        cases bL with
                        | true =>
                          go_wp2
                          go_meet
                          exact ⟨by rw [← hcond'.out]; rfl, rfl⟩
                        | false =>
                          go_wp2
                          go_meet
                          exact ⟨by rw [← hcond'.out]; rfl, rfl⟩
                | true =>
                  go_wp2
                  go_meet
                  exact ⟨by rw [← hcond'.out]; rfl, rfl⟩
            case rest =>
              obtain ⟨rfl, rfl⟩ := hcut
              cases cond with
              | true =>
                have hR := Lib.hid (show headD9 (l0 :: tl) = .bad 400 by rw [hD4.out]; rfl)
                clear hRW'
                have hfin := Lib.hid (fun v0 v1 v2 v3 v4 v5 v6 => hHd7.out.bad 400 400 rfl hR.out v0 v1 v2 v3 v4 v5 v6)
                obtain ⟨_, _, ⟨c0, c1, c2, c3, c4, c5, c6⟩, ⟨n0, n1', n2, n3, n4, n5, n6⟩, f0⟩ := hHd7.out
                go_wp2
                refine bodyPost_ret (v := .tuple #[.agg #[.string ⟨#[]⟩, .string ⟨#[]⟩, .string ⟨#[]⟩, .int .i64 0, .slice none 0 0, .string ⟨#[]⟩, .bool false], .int .i64 0, .int .i64 400]) ?_ rfl (hfin.out _ _ _ _ _ _ _)
                simp [results, Tryz.results28, go_sem, c0, c1, c2, c3, c4, c5, c6]
              | false =>
                have hD5 := Lib.hid (show headD9 (l0 :: tl) = if 4096 < len.getD 0 then .bad 413 else .good ⟨m, pa, qu, v, fs, [], cl⟩ (if bD then 0 else len.getD 0) bD by rw [hD4.out]; rfl)
                cases len with
                | none =>
                  have hz9 := hzL'.out
                  unfold lenI at hz9
                  dsimp only at hz9
                  subst hz9
                  have hD6 := Lib.hid (show headD9 (l0 :: tl) = .good ⟨m, pa, qu, v, fs, [], cl⟩ 0 bD by rw [hD5.out]; cases bD <;> rfl)
                  have e4 := e4'.out
                  clear hD4 hD5
                  cases bD with
                  | true =>
                    have hR := Lib.hid hD6.out
                    have hfin := Lib.hid (fun v0 v1 v2 v3 v4 v5 v6 => HdW.good hHd7.out hRW'.out hQw.out (-1) (by first | rfl | simp) hR.out v0 v1 v2 v3 v4 v5 v6)
                    obtain ⟨_, _, ⟨c0, c1, c2, c3, c4, c5, c6⟩, _, f0⟩ := hHd7.out
                    have q0 := hRW'.out.c0
                    have q1 := hRW'.out.c1
                    have q2 := hRW'.out.c2
                    have q3 := hRW'.out.c3
                    have q4 := hRW'.out.c4
                    have q5 := hRW'.out.c5
                    have q6 := hRW'.out.c6
                    dsimp only at q0 q1 q2 q3 q4 q5 q6
                    obtain ⟨pv, capv, hfv, _⟩ := hRW'.out.own.at
                    subst hfv
                    clear hRW' hHd7
                    go_wp2
                    refine bodyPost_ret (v := .tuple #[.agg #[.string ⟨m.toArray⟩, .string ⟨pa.toArray⟩, .string ⟨qu.toArray⟩, .int .i64 v, .slice pv fs.length capv, .string ⟨#[]⟩, .bool cl], .int .i64 (-1), .int .i64 0]) ?_ rfl (hfin.out _ _ _ _ _ _ _)
                    simp [results, Tryz.results28, go_sem, c0, c1, c2, c3, c4, c5, c6]
                  | false =>
                    have hR := Lib.hid hD6.out
                    have hfin := Lib.hid (fun v0 v1 v2 v3 v4 v5 v6 => HdW.good hHd7.out hRW'.out hQw.out 0 (by first | rfl | simp) hR.out v0 v1 v2 v3 v4 v5 v6)
                    obtain ⟨_, _, ⟨c0, c1, c2, c3, c4, c5, c6⟩, _, f0⟩ := hHd7.out
                    have q0 := hRW'.out.c0
                    have q1 := hRW'.out.c1
                    have q2 := hRW'.out.c2
                    have q3 := hRW'.out.c3
                    have q4 := hRW'.out.c4
                    have q5 := hRW'.out.c5
                    have q6 := hRW'.out.c6
                    dsimp only at q0 q1 q2 q3 q4 q5 q6
                    obtain ⟨pv, capv, hfv, _⟩ := hRW'.out.own.at
                    subst hfv
                    clear hRW' hHd7
                    go_wp2
                    refine bodyPost_ret (v := .tuple #[.agg #[.string ⟨m.toArray⟩, .string ⟨pa.toArray⟩, .string ⟨qu.toArray⟩, .int .i64 v, .slice pv fs.length capv, .string ⟨#[]⟩, .bool cl], .int .i64 0, .int .i64 0]) ?_ rfl (hfin.out _ _ _ _ _ _ _)
                    simp [results, Tryz.results28, go_sem, c0, c1, c2, c3, c4, c5, c6]
                | some n =>
                  have hz9 := hzL'.out
                  unfold lenI at hz9
                  dsimp only at hz9
                  subst hz9
                  by_cases hbig : 4096 < n
                  · have hR := Lib.hid (show headD9 (l0 :: tl) = .bad 413 by rw [hD5.out]; exact if_pos hbig)
                    have hbI : (4096 : Int) < n := by omega
                    clear hRW' hbig
                    have hfin := Lib.hid (fun v0 v1 v2 v3 v4 v5 v6 => hHd7.out.bad 413 413 rfl hR.out v0 v1 v2 v3 v4 v5 v6)
                    obtain ⟨_, _, ⟨c0, c1, c2, c3, c4, c5, c6⟩, ⟨n0, n1', n2, n3, n4, n5, n6⟩, f0⟩ := hHd7.out
                    go_wp2
                    refine bodyPost_ret (v := .tuple #[.agg #[.string ⟨#[]⟩, .string ⟨#[]⟩, .string ⟨#[]⟩, .int .i64 0, .slice none 0 0, .string ⟨#[]⟩, .bool false], .int .i64 0, .int .i64 413]) ?_ rfl (hfin.out _ _ _ _ _ _ _)
                    simp [results, Tryz.results28, go_sem, c0, c1, c2, c3, c4, c5, c6]
                  · have hbI : ¬ (4096 : Int) < n := by omega
                    have hD6 := Lib.hid (show headD9 (l0 :: tl) = .good ⟨m, pa, qu, v, fs, [], cl⟩ (if bD then 0 else n) bD by rw [hD5.out]; exact if_neg hbig)
                    have e4 := e4'.out
                    cases bD with
                    | true =>
                      exfalso
                      have h1 := hcond'.out
                      have h2 := hL'.out
                      rw [← h2] at h1
                      simp at h1
                    | false =>
                      have hn0 : ¬ (n : Int) < 0 := by omega
                      have hR := Lib.hid (show headD9 (l0 :: tl) = .good ⟨m, pa, qu, v, fs, [], cl⟩ n false from hD6.out)
                      clear hD4 hD5 hbig
                      have hfin := Lib.hid (fun v0 v1 v2 v3 v4 v5 v6 => HdW.good hHd7.out hRW'.out hQw.out (n : Int) (by first | rfl | simp) hR.out v0 v1 v2 v3 v4 v5 v6)
                      obtain ⟨_, _, ⟨c0, c1, c2, c3, c4, c5, c6⟩, _, f0⟩ := hHd7.out
                      have q0 := hRW'.out.c0
                      have q1 := hRW'.out.c1
                      have q2 := hRW'.out.c2
                      have q3 := hRW'.out.c3
                      have q4 := hRW'.out.c4
                      have q5 := hRW'.out.c5
                      have q6 := hRW'.out.c6
                      dsimp only at q0 q1 q2 q3 q4 q5 q6
                      obtain ⟨pv, capv, hfv, _⟩ := hRW'.out.own.at
                      subst hfv
                      clear hRW' hHd7
                      go_wp2
                      refine bodyPost_ret (v := .tuple #[.agg #[.string ⟨m.toArray⟩, .string ⟨pa.toArray⟩, .string ⟨qu.toArray⟩, .int .i64 v, .slice pv fs.length capv, .string ⟨#[]⟩, .bool cl], .int .i64 (n : Int), .int .i64 0]) ?_ rfl (hfin.out _ _ _ _ _ _ _)
                      simp [results, Tryz.results28, go_sem, c0, c1, c2, c3, c4, c5, c6]
end Go.Proofs.YtpncfeaaffgkfaaGreatDoor
