/-
  The walk over ChainStays: its handler.
-/
import Derived.Test.YtolpphmgobeocaaDoorCz
import Derived.Test.YtolpphmgobeocaaDoorP6
import Derived.Laws.OwnMore
namespace Go.Proofs.YtolpphmgobeocaaDoor
open Go.RowKit Go.Shelf
attribute [local go_sem] Oper.semAt_some

/-- The handler that writes into its request's fields and answers one reply. -/
def RStay (x0 : Rp) (_ : Nat) (_ : Rq) (x : Rp) (_ _ : World) : Prop := x = x0
theorem closed_stay (x0 : Rp) (T : Nat → Prop) : Closed T (RStay x0) := fun _ _ _ _ _ _ _ _ _ _ _ _ h _ => h
/-- A slice of fields of one's own, whatever they say. -/
def OwnAny (B : Nat) (w : World) (v : Value) (n : Nat) : Prop := ∃ cs, w.ownsRow B 53 2 v n cs
theorem OwnF.any {B : Nat} {w : World} {v : Value} {fs : List Fl} (h : OwnF B w v fs) : OwnAny B w v fs.length := ⟨_, h⟩
theorem FieldsAt.ch {w w' : World} {v : Value} {fs : List Fl} {T : Nat → Prop} (h : FieldsAt w v fs) (hc : Ch T w w') (ht : ∀ k, T k → w.heap.size ≤ k) : FieldsAt w' v fs := by
  obtain ⟨p, cap, hv, hcs⟩ := h
  exact ⟨p, cap, hv, fun i hi => let ⟨b, off, hp, h1, h2⟩ := hcs i hi
    ⟨b, off, hp, (hc.cell (cell_lt h1) (fun e => by have := ht _ e; have := cell_lt h1; omega)).trans h1, (hc.cell (cell_lt h2) (fun e => by have := ht _ e; have := cell_lt h2; omega)).trans h2⟩⟩

set_option maxHeartbeats 2000000 in
set_option maxRecDepth 100000 in
theorem stay_b (x0 : Rp) (t : Value) (xb : Nat) (W0 : World) (h0 : W0.cell? ⟨xb, 0, none⟩ = some (.int .i64 x0.code)) (h1 : W0.cell? ⟨xb, 1, none⟩ = some t) (h2 : W0.cell? ⟨xb, 2, none⟩ = some (.string ⟨x0.b.toArray⟩)) (ht : FieldsAt W0 t x0.fs) :
    HandlesB 21 #[.pointer (some ⟨xb, 0, none⟩)] (fun _ => False) (fun k => k < W0.heap.size) W0 x0.fs.length (RStay x0) := by
  intro B W r s hA hs hB _ hFB hr
  have hxb : xb < W0.heap.size := cell_lt h0
  have g0 := hA.cell (p := ⟨xb, 0, none⟩) hxb h0
  have g1 := hA.cell (p := ⟨xb, 1, none⟩) hxb h1
  have g2 := hA.cell (p := ⟨xb, 2, none⟩) hxb h2
  have hxB : xb < B := hFB xb hxb
  have htW : FieldsAt W t x0.fs := by
    obtain ⟨p, cap, hv, hcs⟩ := ht
    exact ⟨p, cap, hv, fun i hi => let ⟨b, off, hp, c1, c2⟩ := hcs i hi; ⟨b, off, hp, hA.cell (cell_lt c1) c1, hA.cell (cell_lt c2) c2⟩⟩
  have htlt : ∀ b off u, W0.cell? ⟨b, off, none⟩ = some u → b < B := fun b off u h => hFB b (cell_lt h)
  have htF : ∀ W', Ch (fun k => B ≤ k) W W' → FieldsAt W' t x0.fs := fun W' hc => by
    obtain ⟨p, cap, hv, hcs⟩ := ht
    exact ⟨p, cap, hv, fun i hi => let ⟨b, off, hp, c1, c2⟩ := hcs i hi
      ⟨b, off, hp, (hc.cell (p := ⟨b, off + i * 2, none⟩) (Nat.lt_of_lt_of_le (cell_lt c1) hA.1) (fun e => by have := htlt _ _ _ c1; (try dsimp only at e); omega)).trans (hA.cell (cell_lt c1) c1),
        (hc.cell (p := ⟨b, off + i * 2 + 1, none⟩) (Nat.lt_of_lt_of_le (cell_lt c2) hA.1) (fun e => by have := htlt _ _ _ c2; (try dsimp only at e); omega)).trans (hA.cell (cell_lt c2) c2)⟩⟩
  have htF' := Lib.hid htF
  obtain ⟨pt, capt, rfl, _⟩ := htW
  have hn : (r.fs.length : Int) ≤ 1000000 := by have := hr.1; omega
  have hxW : xb < W.heap.size := cell_lt g0
  obtain ⟨p, cap, rfl⟩ := hs.slice
  have hs' := Lib.hid hs
  have hB' := Lib.hid hB
  clear hs hA hFB hr h0 h1 h2 ht htlt htF hB
  show Calls Tryd.prog 21 #[.agg #[.string ⟨r.m.toArray⟩, .string ⟨r.p.toArray⟩, .string ⟨r.q.toArray⟩, .int .i64 r.v, .slice p r.fs.length cap, .string ⟨r.b.toArray⟩, .bool r.c], .pointer (some ⟨xb, 0, none⟩)] W _
  go_enter Tryd.func21, Tryd.ntmps21
  go_wp2
  obtain ⟨W1, hW1⟩ : ∃ W1, (W.alloc (.cells #[.string ⟨r.m.toArray⟩, .string ⟨r.p.toArray⟩, .string ⟨r.q.toArray⟩, .int .i64 r.v, .slice p r.fs.length cap, .string ⟨r.b.toArray⟩, .bool r.c] 25)).alloc (.cells #[.int .i64 0, .slice none 0 0, .string ⟨#[]⟩] 27) = W1 := ⟨_, rfl⟩
  rw [hW1]
  have hg1 : Gr W W1 := by rw [← hW1]; exact (Gr.alloc _ _).alloc1 _
  have hz1 : W1.heap.size = W.heap.size + 2 := by rw [← hW1]; simp
  have e0 := hg1.cell g0
  have e1 := hg1.cell g1
  have e2 := hg1.cell g2
  have q4 : W1.cell? ⟨W.heap.size, 4, none⟩ = some (.slice p r.fs.length cap) := by rw [← hW1]; simp [go_sem]
  have d0 : W1.cell? ⟨W.heap.size + 1, 0, none⟩ = some (.int .i64 0) := by rw [← hW1]; simp [go_sem]
  have d1 : W1.cell? ⟨W.heap.size + 1, 1, none⟩ = some (.slice none 0 0) := by rw [← hW1]; simp [go_sem]
  have d2 : W1.cell? ⟨W.heap.size + 1, 2, none⟩ = some (.string ⟨#[]⟩) := by rw [← hW1]; simp [go_sem]
  have k0 : ∀ o, W1.frozen? ⟨W.heap.size + 1, o, none⟩ = false := fun o => by rw [← hW1]; simp [go_sem]
  have hoA : OwnAny B W1 (.slice p r.fs.length cap) r.fs.length := (hs'.out.ch (hg1.to_ch (fun _ => False)) (fun _ h => h.elim)).any
  have hlt4 : ∀ k, (Value.slice p r.fs.length cap).ownBlock = some k → B ≤ k ∧ k < W.heap.size := fun k hk => hs'.out.lt k hk
  have hlt' := Lib.hid hlt4
  have hg1' := Lib.hid hg1
  have hoA' := Lib.hid hoA
  clear hW1 g0 g1 g2 hlt4 hg1 hoA
  go_loopw [4] (fun i wr => (∃ k : Nat, k ≤ r.fs.length ∧ i = .int .i64 k) ∧ Ch (fun k => (Value.slice p r.fs.length cap).ownBlock = some k) W1 wr ∧ OwnAny B wr (.slice p r.fs.length cap) r.fs.length) (fun i _ => r.fs.length - (intOf i).toNat)
  case atStart => exact ⟨⟨0, Nat.zero_le _, rfl⟩, Ch.refl _ _, hoA'.out⟩
  case round =>
    obtain ⟨⟨k, hk, rfl⟩, hch, cs, hown⟩ := hrel
    have hnW : ¬ ((Value.slice p r.fs.length cap).ownBlock = some W.heap.size) := fun e => by have := (hlt'.out _ e).2; omega
    have hnW1 : ¬ ((Value.slice p r.fs.length cap).ownBlock = some (W.heap.size + 1)) := fun e => by have := (hlt'.out _ e).2; omega
    have hnX : ¬ ((Value.slice p r.fs.length cap).ownBlock = some xb) := fun e => by have := (hlt'.out _ e).1; omega
    have q4r := (hch.cell (p := ⟨W.heap.size, 4, none⟩) (cell_lt q4) hnW).trans q4
    by_cases hlt : k < r.fs.length
    · have hown' := Lib.hid hown
      have hch' := Lib.hid hch
      obtain ⟨hl, h | ⟨g, cap', cur, hv, hb, hh, hnn, hmm, hcs, htk⟩⟩ := hown
      · exact absurd h.2 (by omega)
      · injection hv with hp hn2 hc2
        subst hp
        have c1 : wr.cell? ⟨g, k * 2 + 1, none⟩ = some (cs[k * 2 + 1]'(by omega)) := by
          rw [World.ownsRow.cellAt hown'.out (k * 2 + 1) (by omega)]; exact List.getElem?_eq_getElem (by omega)
        have f1 := World.ownsRow.frozenAt hown'.out (k * 2 + 1)
        obtain ⟨u, hu⟩ : ∃ u, (cs[k * 2 + 1]'(by omega)) = u := ⟨_, rfl⟩
        rw [hu] at c1
        have hst := Lib.hid (World.ownsRow.stored hown'.out (k * 2 + 1) (.string ⟨#[116, 117, 114, 110, 101, 100]⟩))
        clear hl hb hh hnn hmm hcs htk hu hch
        go_wp2
        exact ⟨⟨⟨k + 1, by omega, by go_num⟩, hch'.out.trans (Ch.setCell (T := fun j => (Value.slice (some ⟨g, 0, none⟩) r.fs.length cap).ownBlock = some j) wr (a := ⟨g, k * 2 + 1, none⟩) rfl _), _, hst.out.1⟩, by simp [intOf]; omega⟩
    · have x0c := (hch.cell (p := ⟨xb, 0, none⟩) (cell_lt e0) hnX).trans e0
      have x1c := (hch.cell (p := ⟨xb, 1, none⟩) (cell_lt e1) hnX).trans e1
      have x2c := (hch.cell (p := ⟨xb, 2, none⟩) (cell_lt e2) hnX).trans e2
      have y0 := (hch.cell (p := ⟨W.heap.size + 1, 0, none⟩) (cell_lt d0) hnW1).trans d0
      have y1 := (hch.cell (p := ⟨W.heap.size + 1, 1, none⟩) (cell_lt d1) hnW1).trans d1
      have y2 := (hch.cell (p := ⟨W.heap.size + 1, 2, none⟩) (cell_lt d2) hnW1).trans d2
      have m0 : ∀ o, wr.frozen? ⟨W.heap.size + 1, o, none⟩ = false := fun o => (hch.frozen (p := ⟨W.heap.size + 1, o, none⟩) (cell_lt (a := ⟨W.heap.size + 1, 0, none⟩) d0) hnW1).trans (k0 o)
      have hchF := Lib.hid (show Ch (fun k => B ≤ k) W (((wr.setCell ⟨W.heap.size + 1, 0, none⟩ (.int .i64 x0.code)).setCell ⟨W.heap.size + 1, 1, none⟩ (.slice pt x0.fs.length capt)).setCell ⟨W.heap.size + 1, 2, none⟩ (.string ⟨x0.b.toArray⟩)) from
        ((hg1'.out.to_ch _).trans (hch.mono fun j hj => (hlt'.out j hj).1)).trans ((Ch.set3 _ _ _ _ _).mono fun j hj => by have := hB'.out; (try dsimp only at hj ⊢); omega))
      clear hch hown hnW hnW1 hnX e0 e1 e2 d0 d1 d2 k0
      go_wp2
      exact bodyPost_ret (v := Rp.V x0 (.slice pt x0.fs.length capt)) (by simp [results, Tryd.results21, go_sem, Rp.V, y0, y1, y2]) rfl ⟨x0, _, rfl, htF'.out _ hchF.out, Nat.le_refl _, rfl, hchF.out.mono fun j hj => .inr hj⟩

/-- Nothing is appended to a row of one's own. -/
theorem run_append_nothing (w : World) (base : Nat) (i : TypeInfo) (hi : Tryd.prog.info? 53 = some i) (v : Value) (n : Nat) (xs : List Value) (hown : w.ownsRow base 53 2 v n xs) (c : Nat) (ty : TypeId) :
    (Builtin.append_ #[23, 23] ty #[v, .slice none 0 c]).run Tryd.prog w = .ok v w := by
  rcases hown.2 with ⟨rfl, rfl⟩ | ⟨g, cap, cur, rfl, _, _, hnc, _, _, _⟩
  · simp [Builtin.append_, run_underlying Tryd.underlying23, sizeOf, typeInfo, hi, Builtin.lenOf, Builtin.firstCells]
  · simp [Builtin.append_, run_underlying Tryd.underlying23, sizeOf, typeInfo, hi, Builtin.lenOf, Builtin.firstCells, hnc, storeCells]
/-- Fields are appended to a row of one's own, be they none, nil or some. -/
theorem wpList_append_fs {w : World} {ops : Array Oper} {rest : List Oper} {o : Oper} {a : Act} {Q : Exit → Act → World → Prop} (hgd : o.guard = none) (s x : Operand)
    (ho : o.op = .call { callee := .builtin .append, args := #[s, x], argTypes := #[23, 23] })
    (base : Nat) (v : Value) (n : Nat) (xs : List Value) (hs : a.eval s = v) (hown : w.ownsRow base 53 2 v n xs)
    (A : Option Addr) (c : Nat) (fs : List Fl) (hx : a.eval x = .slice A fs.length c) (hf : FieldsAt w (.slice A fs.length c) fs) (hb : n + fs.length ≤ 1000000) (hbase : base ≤ w.heap.size)
    (h : ∀ v' w', w'.ownsRow base 53 2 v' (n + fs.length) (xs ++ fcells fs) → w.grownBy w' v.ownBlock → wpList Tryd.prog ops Q rest (a.put o.dst v') w') :
    wpList Tryd.prog ops Q (o :: rest) a w := by
  obtain ⟨i0, hi, hz0, hz1, hz2⟩ := info_parts infoField
  obtain ⟨p, cap, hv, hc⟩ := hf
  injection hv with h1 h2 h3
  subst h1
  cases A with
  | none =>
    have h0 : fs = [] := by
      cases fs with
      | nil => rfl
      | cons f t => obtain ⟨b, off, h, _⟩ := hc 0 (by simp); cases h
    subst h0
    refine wpList_plain hgd fun K hK => ?_
    have hrun := run_append_nothing w base i0 hi v n xs hown c o.type
    unfold Oper.wp
    have hx2 : a.eval x = .slice none 0 c := hx
    simp [execOp, ho, resolve, invoke, builtin, hs, hx2, hrun, Result.andThen]
    exact hK _ _ (h v w (by simpa [fcells] using hown) ⟨rfl, rfl, rfl, Nat.le_refl _, fun _ _ _ => rfl⟩)
  | some ad =>
    refine wpList_append_own _ hgd s x 23 ho base 53 i0 (.agg #[.string ⟨#[]⟩, .string ⟨#[]⟩]) 2 32 Tryd.underlying23 hi hz0 hz1 hz2 rfl (by decide) v n xs hs hown ad fs.length c (fcells fs) hx (fcells_len fs) (fun j u hj => ?_) (fcells_one fs) (by unfold maxLen; omega) (by omega) hbase fun v' w' h4 h5 _ => h v' w' h4 h5
    obtain ⟨i, hi, h | h⟩ := fcells_mem fs j u hj
    · obtain ⟨rfl, rfl⟩ := h
      obtain ⟨b, off, hp, h1, h2⟩ := hc i hi
      cases hp
      rw [Addr.add_lit]; exact h1
    · obtain ⟨rfl, rfl⟩ := h
      obtain ⟨b, off, hp, h1, h2⟩ := hc i hi
      cases hp
      rw [Addr.add_lit]; exact h2
/-- What steps around a handler that always answers x0 answer. -/
def outX (x0 : Rp) : List Stp → Rq → Rp
  | [], _ => x0
  | s :: l, r => match refuses s r with
    | some y => y
    | none => (outX x0 l (turns s r)).more (adds s r.fs)
theorem stay_out {x0 : Rp} {B : Nat} {W W' : World} : ∀ (l : List Stp) (r : Rq) (x : Rp), ThroughR l (RStay x0) B r x W W' → x = outX x0 l r
  | [], r, x, h => h
  | s :: l, r, x, h => by
    have h' : Rs s (ThroughR l (RStay x0)) B r x W W' := h
    unfold Rs at h'
    rw [outX]
    cases href : refuses s r with
    | some y => rw [href] at h'; exact h'.1
    | none =>
      rw [href] at h'
      obtain ⟨y, h1, h2⟩ := h'
      rw [h2, stay_out l (turns s r) y h1]

set_option maxHeartbeats 8000000 in
set_option maxRecDepth 100000 in
theorem stays_any (lv sv tv : Value) (ss : List Stp) (r : Rq) (x0 : Rp) (w : World) (hG : G w) (hx : StepsAt w lv ss) (hf : FieldsAt w sv r.fs) (ht : FieldsAt w tv x0.fs) (hls : ss.length ≤ 9223372036854775807) (hlf : r.fs.length ≤ 9223372036854775807) (hlp : r.p.length ≤ 9223372036854775807) (hlb : r.b.length ≤ 9223372036854775807) (hlx : x0.fs.length ≤ 9223372036854775807) :
    Calls Tryd.prog 6 #[lv, r.V sv, x0.V tv] w fun e w' => e = .returned (.bool true) ∧ Gr w w' := by
  have hgr := Lib.hid (fun W (h : Gr w W) => great_any lv sv ss r W (hx.gr h) (hf.gr h) hls hlf hlp hlb)
  have hx' := Lib.hid hx
  have hf' := Lib.hid hf
  have ht' := Lib.hid ht
  obtain ⟨p, cap, rfl, hc⟩ := hx
  obtain ⟨q, cap2, rfl, hfc⟩ := hf
  obtain ⟨u, cap3, rfl, htc⟩ := ht
  have hG' := Lib.hid hG
  clear hG hc hfc htc
  have hnf := fun (w : World) f x c => run_eql_func_nil (P := Tryd.prog) w Tryd.underlying40 f x c
  have hnn := fun (w : World) => run_eql_nil_nil (P := Tryd.prog) w Tryd.underlying40
  show Calls Tryd.prog 6 #[.slice p ss.length cap, .agg #[.string ⟨r.m.toArray⟩, .string ⟨r.p.toArray⟩, .string ⟨r.q.toArray⟩, .int .i64 r.v, .slice q r.fs.length cap2, .string ⟨r.b.toArray⟩, .bool r.c], .agg #[.int .i64 x0.code, .slice u x0.fs.length cap3, .string ⟨x0.b.toArray⟩]] w _
  go_enter Tryd.func6, Tryd.ntmps6
  go_wp2_with fail
  refine (hgr.out _ ((Gr.alloc _ _).alloc1 _)).mono ?_
  rintro e w1 ⟨b, rfl, hsm, hb1⟩
  have q0 : w1.cell? ⟨w.heap.size, 0, none⟩ = some (.string ⟨r.m.toArray⟩) := hb1.cell (by simp [go_sem])
  have q1 : w1.cell? ⟨w.heap.size, 1, none⟩ = some (.string ⟨r.p.toArray⟩) := hb1.cell (by simp [go_sem])
  have q2 : w1.cell? ⟨w.heap.size, 2, none⟩ = some (.string ⟨r.q.toArray⟩) := hb1.cell (by simp [go_sem])
  have q3 : w1.cell? ⟨w.heap.size, 3, none⟩ = some (.int .i64 r.v) := hb1.cell (by simp [go_sem])
  have q4 : w1.cell? ⟨w.heap.size, 4, none⟩ = some (.slice q r.fs.length cap2) := hb1.cell (by simp [go_sem])
  have q5 : w1.cell? ⟨w.heap.size, 5, none⟩ = some (.string ⟨r.b.toArray⟩) := hb1.cell (by simp [go_sem])
  have q6 : w1.cell? ⟨w.heap.size, 6, none⟩ = some (.bool r.c) := hb1.cell (by simp [go_sem])
  have x0c : w1.cell? ⟨w.heap.size + 1, 0, none⟩ = some (.int .i64 x0.code) := hb1.cell (by simp [go_sem])
  have x1c : w1.cell? ⟨w.heap.size + 1, 1, none⟩ = some (.slice u x0.fs.length cap3) := hb1.cell (by simp [go_sem])
  have x2c : w1.cell? ⟨w.heap.size + 1, 2, none⟩ = some (.string ⟨x0.b.toArray⟩) := hb1.cell (by simp [go_sem])
  have hg1 := Lib.hid (((Gr.alloc _ _).alloc1 _).trans hb1)
  have hz1 : w.heap.size + 1 < w1.heap.size := cell_lt (a := ⟨w.heap.size + 1, 0, none⟩) x0c
  have hz0 : w.heap.size < w1.heap.size := by omega
  clear hb1 hgr
  by_cases hbig : b = true ∨ 10 < x0.fs.length
  · rcases hbig with rfl | h8
    · go_wp2_with fail
      refine (wakes_any _ (hG'.out.gr hg1.out)).mono ?_
      rintro e w3 ⟨rfl, hb3⟩
      have hg3 := Lib.hid (hg1.out.trans hb3)
      clear hb3
      go_wp2
      go_ret
      exact ⟨rfl, hg3.out⟩
    · cases b
      all_goals go_wp2_with fail
      all_goals
        refine (wakes_any _ (hG'.out.gr hg1.out)).mono ?_
        rintro e w3 ⟨rfl, hb3⟩
        have hg3 := Lib.hid (hg1.out.trans hb3)
        clear hb3
        go_wp2
        go_ret
        exact ⟨rfl, hg3.out⟩
  · have hb : b = false := by cases b; rfl; exact absurd (.inl rfl) hbig
    subst hb
    have h10 : x0.fs.length ≤ 10 := by omega
    have hsm' := Lib.hid (hsm rfl)
    have hf40 := hsm'.out.f
    clear hsm hbig
    go_wp2_with (at_builtin; refine wpList_append_fs rfl _ _ rfl w1.heap.size _ 0 [] rfl (World.ownsRow_made w1 #[] 0 (Nat.le_refl _) (Nat.zero_le _) (by simp)) q cap2 r.fs rfl (hf'.out.gr (hg1.out.alloc1 _)) (by omega) (by simp) ?_)
    intro v1 w2 hown1 hgrow1
    have hb2 : Gr w1 w2 := (Gr.alloc w1 (.cells #[] 53)).ch (Ch.of_grown hgrow1) (fun k hk => by simp [Value.ownBlock] at hk; omega)
    have hv1 := Lib.hid (show FieldsAt w2 v1 r.fs from OwnF.at (B := w1.heap.size) (by unfold OwnF; simpa using hown1))
    replace q0 := hb2.cell q0
    replace q1 := hb2.cell q1
    replace q2 := hb2.cell q2
    replace q3 := hb2.cell q3
    replace q4 := hb2.cell q4
    replace q5 := hb2.cell q5
    replace q6 := hb2.cell q6
    replace x0c := hb2.cell x0c
    replace x1c := hb2.cell x1c
    replace x2c := hb2.cell x2c
    have hg2 := Lib.hid (hg1.out.trans hb2)
    have hz2 : w.heap.size + 1 < w2.heap.size := cell_lt (a := ⟨w.heap.size + 1, 0, none⟩) x0c
    have hz2' : w.heap.size < w2.heap.size := by omega
    clear hb2 hown1 hgrow1 hz1 hz0
    go_wp2_with (at_builtin; refine wpList_append_fs rfl _ _ rfl w2.heap.size _ 0 [] rfl (World.ownsRow_made w2 #[] 0 (Nat.le_refl _) (Nat.zero_le _) (by simp)) u cap3 x0.fs rfl (ht'.out.gr (hg2.out.alloc1 _)) (by omega) (by simp) ?_)
    intro v2 w3 hown2 hgrow2
    have hb3 : Gr w2 w3 := (Gr.alloc w2 (.cells #[] 53)).ch (Ch.of_grown hgrow2) (fun k hk => by simp [Value.ownBlock] at hk; omega)
    have hv2 := Lib.hid (show FieldsAt w3 v2 x0.fs from OwnF.at (B := w2.heap.size) (by unfold OwnF; simpa using hown2))
    replace q0 := hb3.cell q0
    replace q1 := hb3.cell q1
    replace q2 := hb3.cell q2
    replace q3 := hb3.cell q3
    replace q4 := hb3.cell q4
    replace q5 := hb3.cell q5
    replace q6 := hb3.cell q6
    replace x0c := hb3.cell x0c
    replace x1c := hb3.cell x1c
    replace x2c := hb3.cell x2c
    have hg3 := Lib.hid (hg2.out.trans hb3)
    have hv1' := Lib.hid (hv1.out.gr hb3)
    clear hb3 hown2 hgrow2 hz2 hz2' hv1
    by_cases hok : ss.length ≤ 8 ∧ ss.all rightB = true
    · obtain ⟨h8, hright⟩ := hok
      have hrok := Lib.hid (show RqOk r from ⟨Nat.le_trans hsm'.out.f (by decide), fun f hf => ⟨Nat.le_trans (hsm'.out.g f hf).1 (by decide), Nat.le_trans (hsm'.out.g f hf).2 (by decide)⟩⟩)
      have hwrap := Lib.hid (wrap_ok p cap ss 21 #[.pointer (some ⟨w.heap.size + 1, 0, none⟩)] (fun _ => False) (fun k => k < w3.heap.size) x0.fs.length (RStay x0) w3 (hx'.out.gr hg3.out) h8 hright
        (fun s hs => by have := hsm'.out.s s hs; omega) (enters_of Tryd.func21 (by kernel_rfl) rfl) ⟨fun _ h => h, fun _ h => h.elim, hG'.out.gr hg3.out, fun k hk => (hG'.out.gr hg3.out).old k hk⟩
        (stay_b x0 _ _ _ x0c x1c x2c (ht'.out.gr hg3.out)) (closed_stay _ _) (by omega))
      clear h8 hright
      go_wp2_with fail
      refine hwrap.out.mono ?_
      rintro e w4 ⟨f, g, lb, F2, rfl, hnow, hb4⟩
      obtain rfl := hnow.f
      have eg := hnow.enters
      replace q0 := hb4.cell q0
      replace q1 := hb4.cell q1
      replace q2 := hb4.cell q2
      replace q3 := hb4.cell q3
      replace q4 := hb4.cell q4
      replace q5 := hb4.cell q5
      replace q6 := hb4.cell q6
      replace x0c := hb4.cell x0c
      replace x1c := hb4.cell x1c
      replace x2c := hb4.cell x2c
      have hg4 := Lib.hid (hg3.out.trans hb4)
      have hz4' := Lib.hid (show w.heap.size + 1 < w4.heap.size from cell_lt (a := ⟨w.heap.size + 1, 0, none⟩) x0c)
      have hv1a := Lib.hid (hv1'.out.gr hb4)
      have hv2a := Lib.hid (hv2.out.gr hb4)
      have hcall := Lib.hid (fun W (h : Gr w4 W) => hnow.call h r _ (hf'.out.gr (hg4.out.trans h)) hrok.out)
      clear hnow hb4 hwrap hv1' hv2
      go_wp2_with fail
      refine (hcall.out _ (Gr.refl _)).mono ?_
      rintro e w5 ⟨x, t, rfl, hown, hlx1, hR, hch⟩
      obtain rfl := stay_out ss r x hR
      obtain ⟨y, hyd⟩ : ∃ y, outX x0 ss r = y := ⟨_, rfl⟩
      rw [hyd] at hown hlx1 ⊢
      have hyd' := Lib.hid hyd
      have hb5 := gr_of_ch hch
      obtain ⟨p2, cap4, rfl⟩ := hown.slice
      replace q0 := hb5.cell q0
      replace q1 := hb5.cell q1
      replace q2 := hb5.cell q2
      replace q3 := hb5.cell q3
      replace q4 := hb5.cell q4
      replace q5 := hb5.cell q5
      replace q6 := hb5.cell q6
      replace x0c := hb5.cell x0c
      replace x1c := hb5.cell x1c
      replace x2c := hb5.cell x2c
      have hg5 := Lib.hid hb5
      have hown' := Lib.hid hown
      have hlI : (y.fs.length : Int) ≤ 100000 := by have := hsm'.out.l; omega
      clear hR hch hb5 hown hyd
      unfold Rp.V
      go_wp2
      obtain ⟨wl, hwl⟩ : ∃ wl, w5.alloc (.cells #[.int .i64 y.code, .slice p2 y.fs.length cap4, .string ⟨y.b.toArray⟩] 27) = wl := ⟨_, rfl⟩
      rw [hwl]
      have hbl : Gr w5 wl := by rw [← hwl]; exact Gr.alloc _ _
      have hzl : wl.heap.size = w5.heap.size + 1 := by rw [← hwl]; simp
      have a0 : wl.cell? ⟨w5.heap.size, 0, none⟩ = some (.int .i64 y.code) := by rw [← hwl]; simp [go_sem]
      have a1 : wl.cell? ⟨w5.heap.size, 1, none⟩ = some (.slice p2 y.fs.length cap4) := by rw [← hwl]; simp [go_sem]
      have a2 : wl.cell? ⟨w5.heap.size, 2, none⟩ = some (.string ⟨y.b.toArray⟩) := by rw [← hwl]; simp [go_sem]
      have hoA := Lib.hid (show OwnAny w4.heap.size wl (.slice p2 y.fs.length cap4) y.fs.length from (hown'.out.ch (hbl.to_ch (fun _ => False)) (fun _ h => h.elim)).any)
      have hlt' := Lib.hid (show ∀ k, (Value.slice p2 y.fs.length cap4).ownBlock = some k → w4.heap.size ≤ k ∧ k < w5.heap.size from fun k hk => World.ownsRow.lt hown'.out k hk)
      have hg4l := Lib.hid (hg5.out.trans hbl)
      have hzl' := Lib.hid hzl
      clear hwl hbl hzl
      go_loopw [12] (fun i wr => (∃ k : Nat, k ≤ y.fs.length ∧ i = .int .i64 k) ∧ Ch (fun k => (Value.slice p2 y.fs.length cap4).ownBlock = some k) wl wr ∧ OwnAny w4.heap.size wr (.slice p2 y.fs.length cap4) y.fs.length) (fun i _ => y.fs.length - (intOf i).toNat)
      case atStart => exact ⟨⟨0, Nat.zero_le _, rfl⟩, Ch.refl _ _, hoA.out⟩
      case round =>
        obtain ⟨⟨k, hk, rfl⟩, hch, cs, hown⟩ := hrel
        have hnA : ¬ ((Value.slice p2 y.fs.length cap4).ownBlock = some w5.heap.size) := fun e => by have := (hlt'.out _ e).2; omega
        have a0r := (hch.cell (p := ⟨w5.heap.size, 0, none⟩) (cell_lt a0) hnA).trans a0
        have a1r := (hch.cell (p := ⟨w5.heap.size, 1, none⟩) (cell_lt a1) hnA).trans a1
        by_cases hlt : k < y.fs.length
        · have hown' := Lib.hid hown
          have hch' := Lib.hid hch
          obtain ⟨hl, h | ⟨g', cap', cur, hv, hb, hh, hnn, hmm, hcs, htk⟩⟩ := hown
          · exact absurd h.2 (by omega)
          · injection hv with hp hn2 hc2
            subst hp
            have c1 : wr.cell? ⟨g', k * 2 + 1, none⟩ = some (cs[k * 2 + 1]'(by omega)) := by
              rw [World.ownsRow.cellAt hown'.out (k * 2 + 1) (by omega)]; exact List.getElem?_eq_getElem (by omega)
            have f1 := World.ownsRow.frozenAt hown'.out (k * 2 + 1)
            obtain ⟨uu, hu⟩ : ∃ uu, (cs[k * 2 + 1]'(by omega)) = uu := ⟨_, rfl⟩
            rw [hu] at c1
            have hst := Lib.hid (World.ownsRow.stored hown'.out (k * 2 + 1) (.string ⟨#[116, 117, 114, 110, 101, 100]⟩))
            clear hl hb hh hnn hmm hcs htk hu hch
            go_wp2
            exact ⟨⟨⟨k + 1, by omega, by go_num⟩, hch'.out.trans (Ch.setCell (T := fun j => (Value.slice (some ⟨g', 0, none⟩) y.fs.length cap4).ownBlock = some j) wr (a := ⟨g', k * 2 + 1, none⟩) rfl _), _, hst.out.1⟩, by simp [intOf]; omega⟩
        · have hb6 : Gr w4 wr := hg4l.out.ch hch (fun j hj => (hlt'.out j hj).1)
          have hb6' := Lib.hid hb6
          have hz5 : w5.heap.size < wr.heap.size := cell_lt (a := ⟨w5.heap.size, 0, none⟩) a0r
          have hw45 := Below.size hg5.out
          have gq : ∀ {k o v}, k < w4.heap.size → w5.cell? ⟨k, o, none⟩ = some v → wr.cell? ⟨k, o, none⟩ = some v := fun {k o v} hk h => (Below.cell hb6 (p := ⟨k, o, none⟩) hk).trans ((Below.cell hg5.out (p := ⟨k, o, none⟩) hk).symm.trans h)
          have hz4 := hz4'.out
          replace q0 := gq (by omega) q0
          replace q1 := gq (by omega) q1
          replace q2 := gq (by omega) q2
          replace q3 := gq (by omega) q3
          replace q4 := gq (by omega) q4
          replace q5 := gq (by omega) q5
          replace q6 := gq (by omega) q6
          replace x0c := gq (by omega) x0c
          replace x1c := gq (by omega) x1c
          replace x2c := gq (by omega) x2c
          clear gq hch hown hb6 hnA a0 a1 a2
          go_wp2_with fail
          refine (hcall.out _ hb6'.out).mono ?_
          rintro e w7 ⟨x2, t2, rfl, hown2, _, hR2, hch2⟩
          have hx2 := stay_out ss r x2 hR2
          rw [hyd'.out] at hx2
          subst hx2
          obtain ⟨p5, cap5, rfl⟩ := hown2.slice
          have hb7 := gr_of_ch hch2
          have hb7' := Lib.hid hb7
          replace q4 := hb7.cell q4
          replace x1c := hb7.cell x1c
          replace a0r := hb7.cell a0r
          replace a1r := hb7.cell a1r
          have hz7 : w.heap.size < w7.heap.size := cell_lt (a := ⟨w.heap.size, 4, none⟩) q4
          have hz7' : w.heap.size + 1 < w7.heap.size := cell_lt (a := ⟨w.heap.size + 1, 1, none⟩) x1c
          have hz57 : w5.heap.size < w7.heap.size := cell_lt (a := ⟨w5.heap.size, 0, none⟩) a0r
          clear hown2 hR2 hch2 hb7 q0 q1 q2 q3 q5 q6 x0c x2c hz4 hw45 hz5
          unfold Rp.V
          go_wp2_with fail
          refine (samef_any _ _ r.fs r.fs _ (hf'.out.gr ((hg4.out.trans (hb6'.out.trans hb7'.out)).alloc1 _)) (hv1a.out.gr ((hb6'.out.trans hb7'.out).alloc1 _)) hlf hlf).mono ?_
          rintro e w8 ⟨rfl, hb8⟩
          rw [show (r.fs == r.fs) = true from by simp]
          have b0 : w8.cell? ⟨w7.heap.size, 0, none⟩ = some (.int .i64 x2.code) := hb8.cell (by simp [go_sem])
          have b1 : w8.cell? ⟨w7.heap.size, 1, none⟩ = some (.slice p5 x2.fs.length cap5) := hb8.cell (by simp [go_sem])
          have hb8a := (Gr.alloc w7 (.cells #[.int .i64 x2.code, .slice p5 x2.fs.length cap5, .string ⟨x2.b.toArray⟩] 27)).trans hb8
          replace x1c := hb8a.cell x1c
          replace a0r := hb8a.cell a0r
          replace a1r := hb8a.cell a1r
          have hg8 := Lib.hid ((hb6'.out.trans hb7'.out).trans hb8a)
          clear hb8 hb8a q4 hz7 hz7' hz57
          go_wp2_with fail
          refine (samef_any _ _ x0.fs x0.fs _ (ht'.out.gr (hg4.out.trans hg8.out)) (hv2a.out.gr hg8.out) hlx hlx).mono ?_
          rintro e w9 ⟨rfl, hb9⟩
          rw [show (x0.fs == x0.fs) = true from by simp]
          replace a0r := hb9.cell a0r
          replace a1r := hb9.cell a1r
          replace b0 := hb9.cell b0
          replace b1 := hb9.cell b1
          have hg9 := Lib.hid (hg8.out.trans hb9)
          clear hb9 x1c
          go_wp2_with fail
          refine (wakes_any _ (hG'.out.gr (hg4.out.trans hg9.out))).mono ?_
          rintro e wA ⟨rfl, hbA⟩
          have hgA := Lib.hid ((hg4.out.trans hg9.out).trans hbA)
          clear hbA
          go_wp2
          go_ret
          exact ⟨rfl, hgA.out⟩
    · have hwrap := Lib.hid (show ∀ (g : Nat) (lb : Array Value) W, Gr w W → ∃ n : Int, (n = 6 ∨ n = 1) ∧ Calls Tryd.prog 14 #[.slice p ss.length cap, .func (.func g) #[] lb] W (WrapNo n W) from fun g lb W hW => by
        by_cases h8 : ss.length ≤ 8
        · exact ⟨1, .inr rfl, wrap_wrong p cap ss g lb W (hG'.out.gr hW) (hx'.out.gr hW) h8 (by have : ¬ ss.all rightB = true := fun h => hok ⟨h8, h⟩; simpa using this) (fun s hs => by have := hsm'.out.s s hs; omega)⟩
        · exact ⟨6, .inl rfl, wrap_full p ss.length cap g lb W (by omega) hls⟩)
      clear hok
      go_wp2_with fail
      obtain ⟨n, hn, hcall⟩ := hwrap.out 21 #[.pointer (some ⟨w.heap.size + 1, 0, none⟩)] _ hg3.out
      refine hcall.mono ?_
      rintro e w4 ⟨rfl, hb4⟩
      have hg4 := Lib.hid (hg3.out.trans hb4)
      have hn1 : (n != 0) = true := by rcases hn with rfl | rfl <;> rfl
      clear hb4 hcall hn
      go_wp2_with fail
      refine (wakes_any _ (hG'.out.gr hg4.out)).mono ?_
      rintro e w5 ⟨rfl, hb5⟩
      have hg5 := Lib.hid (hg4.out.trans hb5)
      clear hb5
      go_wp2
      go_ret
      exact ⟨rfl, hg5.out⟩
end Go.Proofs.YtolpphmgobeocaaDoor
