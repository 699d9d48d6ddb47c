/-
  The walk over the chain's reference: Goes.
-/
import Derived.Test.YtolpphmgobeocaaDoorRb
import Derived.Test.YtolpphmgobeocaaDoorCf
namespace Go.Proofs.YtolpphmgobeocaaDoor
open Go.RowKit Go.Shelf
attribute [local go_sem] Oper.semAt_some

/-- A request's variable. -/
def RqCell (W : World) (b : Nat) (r : Rq) (sv : Value) : Prop :=
  W.cell? ⟨b, 0, none⟩ = some (.string ⟨r.m.toArray⟩) ∧ W.cell? ⟨b, 1, none⟩ = some (.string ⟨r.p.toArray⟩) ∧ W.cell? ⟨b, 2, none⟩ = some (.string ⟨r.q.toArray⟩) ∧ W.cell? ⟨b, 3, none⟩ = some (.int .i64 r.v) ∧
  W.cell? ⟨b, 4, none⟩ = some sv ∧ W.cell? ⟨b, 5, none⟩ = some (.string ⟨r.b.toArray⟩) ∧ W.cell? ⟨b, 6, none⟩ = some (.bool r.c)
theorem RqCell.gr {W W' : World} {b : Nat} {r : Rq} {sv : Value} (h : RqCell W b r sv) (hg : Gr W W') : RqCell W' b r sv :=
  ⟨hg.cell h.1, hg.cell h.2.1, hg.cell h.2.2.1, hg.cell h.2.2.2.1, hg.cell h.2.2.2.2.1, hg.cell h.2.2.2.2.2.1, hg.cell h.2.2.2.2.2.2⟩
theorem RqCell.path {W : World} {b : Nat} {r : Rq} {sv : Value} (h : RqCell W b r sv) (p : List UInt8) : RqCell (W.setCell ⟨b, 1, none⟩ (.string ⟨p.toArray⟩)) b { r with p := p } sv := by
  obtain ⟨h0, h1, h2, h3, h4, h5, h6⟩ := h
  have ne : ∀ {o v}, o ≠ 1 → W.cell? ⟨b, o, none⟩ = some v → (W.setCell ⟨b, 1, none⟩ (.string ⟨p.toArray⟩)).cell? ⟨b, o, none⟩ = some v := fun {o v} ho h => by
    rw [World.cell?_setCell_other _ _ _ _ (by intro e; cases e; exact ho rfl)]; exact h
  exact ⟨ne (by decide) h0, cell_set_same h1, ne (by decide) h2, ne (by decide) h3, ne (by decide) h4, ne (by decide) h5, ne (by decide) h6⟩
/-- How far Goes has come. -/
def GRel (ss : List Stp) (r : Rq) (k : Nat) (r1 : Rq) : Prop := goesB ss r = ((goesB (ss.drop k) r1).1 + k, (goesB (ss.drop k) r1).2.1, (goesB (ss.drop k) r1).2.2)
theorem GRel.begin (ss : List Stp) (r : Rq) : GRel ss r 0 r := rfl
theorem GRel.next {ss : List Stp} {r r1 : Rq} {k : Nat} (h : GRel ss r k r1) (hk : k < ss.length) (hr : refuses ss[k] r1 = none) : GRel ss r (k + 1) (turns ss[k] r1) := by
  unfold GRel at h ⊢
  rw [List.drop_eq_getElem_cons hk, goesB, hr] at h
  rw [h]
  dsimp only
  rw [Nat.add_assoc, Nat.add_comm 1 k]
theorem GRel.stop {ss : List Stp} {r r1 : Rq} {k : Nat} {x : Rp} (h : GRel ss r k r1) (hk : k < ss.length) (hr : refuses ss[k] r1 = some x) : goesB ss r = (k, r1, some x) := by
  unfold GRel at h
  rw [List.drop_eq_getElem_cons hk, goesB, hr] at h
  rw [h]; simp
theorem GRel.fin {ss : List Stp} {r r1 : Rq} {k : Nat} (h : GRel ss r k r1) (hk : ss.length ≤ k) : goesB ss r = (k, r1, none) := by
  unfold GRel at h
  rw [List.drop_of_length_le hk] at h
  rw [h]; simp [goesB]

def GoesPost (ss : List Stp) (r : Rq) (sv : Value) (w : World) (e : Ending) (w' : World) : Prop :=
  e = .returned (.tuple #[.int .i64 (goesB ss r).1, (goesB ss r).2.1.V sv, ((goesB ss r).2.2.getD ⟨0, [], []⟩).V (.slice none 0 0)]) ∧ Gr w w'

set_option maxHeartbeats 8000000 in
set_option maxRecDepth 100000 in
theorem goes_any (p : Option Addr) (cap : Nat) (q : Option Addr) (cap2 : Nat) (ss : List Stp) (r : Rq) (w : World) (hx : StepsAt w (.slice p ss.length cap) ss) (hf : FieldsAt w (.slice q r.fs.length cap2) r.fs) (hls : ss.length ≤ 1000) (hln : ∀ s ∈ ss, s.name.length ≤ 1000)
    (hrf : r.fs.length ≤ 1000000) (hrn : ∀ f ∈ r.fs, f.1.length ≤ 1000000) (hpl : r.p.length ≤ 1000000) :
    Calls Tryd.prog 16 #[.slice p ss.length cap, r.V (.slice q r.fs.length cap2)] w (GoesPost ss r (.slice q r.fs.length cap2) w) := by
  have hf' := Lib.hid hf
  obtain ⟨p', cap', hv, hc⟩ := hx
  injection hv with e1 e2 e3
  subst e1
  have hc' := Lib.hid hc
  have hln' := Lib.hid hln
  have hget := Lib.hid (fun (name : List UInt8) (hn : name.length ≤ 1000000) W (h : Gr w W) => rget13_any (.slice q r.fs.length cap2) r.fs name W (hf.gr h) hrf hrn hn)
  have hlsI : (ss.length : Int) ≤ 1000 := by omega
  clear hc hf hln
  show Calls Tryd.prog 16 #[.slice p ss.length cap, .agg #[.string ⟨r.m.toArray⟩, .string ⟨r.p.toArray⟩, .string ⟨r.q.toArray⟩, .int .i64 r.v, .slice q r.fs.length cap2, .string ⟨r.b.toArray⟩, .bool r.c]] w _
  go_enter Tryd.func16, Tryd.ntmps16
  go_wp2
  obtain ⟨w0, hw0⟩ : ∃ w0, ((w.alloc (.cells #[.string ⟨r.m.toArray⟩, .string ⟨r.p.toArray⟩, .string ⟨r.q.toArray⟩, .int .i64 r.v, .slice q r.fs.length cap2, .string ⟨r.b.toArray⟩, .bool r.c] 25)).alloc (.cells #[.string ⟨#[]⟩, .string ⟨#[]⟩, .string ⟨#[]⟩, .int .i64 0, .slice none 0 0, .string ⟨#[]⟩, .bool false] 25)).alloc (.cells #[.int .i64 0, .slice none 0 0, .string ⟨#[]⟩] 27) = w0 := ⟨_, rfl⟩
  rw [hw0]
  have hg0 : Gr w w0 := by rw [← hw0]; exact ((Gr.alloc _ _).alloc1 _).alloc1 _
  have hb0 : RqCell w0 w.heap.size r (.slice q r.fs.length cap2) := by rw [← hw0]; refine ⟨?_, ?_, ?_, ?_, ?_, ?_, ?_⟩ <;> simp [go_sem]
  have hz0 : RqCell w0 (w.heap.size + 1) ⟨[], [], [], 0, [], [], false⟩ (.slice none 0 0) := by rw [← hw0]; refine ⟨?_, ?_, ?_, ?_, ?_, ?_, ?_⟩ <;> simp [go_sem]
  have hy0 : w0.cell? ⟨w.heap.size + 1 + 1, 0, none⟩ = some (.int .i64 0) ∧ w0.cell? ⟨w.heap.size + 1 + 1, 1, none⟩ = some (.slice none 0 0) ∧ w0.cell? ⟨w.heap.size + 1 + 1, 2, none⟩ = some (.string ⟨#[]⟩) := by rw [← hw0]; refine ⟨?_, ?_, ?_⟩ <;> simp [go_sem]
  have hfz : ∀ b o, w.heap.size ≤ b → b < w.heap.size + 3 → w0.frozen? ⟨b, o, none⟩ = false := fun b o h1 h2 => by
    have hb : b = w.heap.size ∨ b = w.heap.size + 1 ∨ b = w.heap.size + 2 := by omega
    rw [← hw0]
    rcases hb with rfl | rfl | rfl <;> simp [go_sem]
  have hzs : w0.heap.size = w.heap.size + 3 := by rw [← hw0]; simp
  have hg0' := Lib.hid hg0
  have hb0' := Lib.hid hb0
  have hz0' := Lib.hid hz0
  have hy0' := Lib.hid hy0
  have hfz' := Lib.hid hfz
  have hzs' := Lib.hid hzs
  clear hw0 hg0 hb0 hz0 hy0 hfz hzs
  go_loopw [7] (fun i wr => (∃ (k : Nat) (r1 : Rq), k ≤ ss.length ∧ i = .int .i64 k ∧ r1.fs = r.fs ∧ r1.p.length ≤ 1000000 ∧ GRel ss r k r1 ∧ RqCell wr w.heap.size r1 (.slice q r.fs.length cap2)) ∧ (∀ o, wr.frozen? ⟨w.heap.size, o, none⟩ = false) ∧ Ch (fun k => k = w.heap.size) w0 wr) (fun i _ => ss.length - (intOf i).toNat)
  case atStart => exact ⟨⟨0, r, Nat.zero_le _, rfl, rfl, hpl, GRel.begin _ _, hb0'.out⟩, fun o => hfz'.out _ o (Nat.le_refl _) (by omega), Ch.refl _ _⟩
  case round =>
    obtain ⟨⟨k, r1, hk, rfl, hfs, hp1, hrel, hbox⟩, f0, hch⟩ := hrel
    have hGr := Lib.hid (show Gr w wr from hg0'.out.ch hch (fun k hk => by (try dsimp only at hk); omega))
    have z0 := hz0'.out
    have y0 := hy0'.out
    have keepc : ∀ {b o v}, w.heap.size < b → w0.cell? ⟨b, o, none⟩ = some v → wr.cell? ⟨b, o, none⟩ = some v := fun {b o v} h1 h => (hch.cell (p := ⟨b, o, none⟩) (cell_lt h) (fun e => by (try dsimp only at e); omega)).trans h
    have keepf : ∀ b o, w.heap.size < b → b < w.heap.size + 3 → wr.frozen? ⟨b, o, none⟩ = false := fun b o h1 h2 => (hch.frozen (p := ⟨b, o, none⟩) (by show b < _; rw [hzs'.out]; exact h2) (fun e => by (try dsimp only at e); omega)).trans (hfz'.out b o (by omega) h2)
    have n0 := keepc (by omega) z0.1
    have n1 := keepc (by omega) z0.2.1
    have n2 := keepc (by omega) z0.2.2.1
    have n3 := keepc (by omega) z0.2.2.2.1
    have n4 := keepc (by omega) z0.2.2.2.2.1
    have n5 := keepc (by omega) z0.2.2.2.2.2.1
    have n6 := keepc (by omega) z0.2.2.2.2.2.2
    have m0 := keepc (by omega) y0.1
    have m1 := keepc (by omega) y0.2.1
    have m2 := keepc (by omega) y0.2.2
    have f1 := fun o => keepf (w.heap.size + 1) o (by omega) (by omega)
    have f2 := fun o => keepf (w.heap.size + 1 + 1) o (by omega) (by omega)
    obtain ⟨q0, q1, q2, q3, q4, q5, q6⟩ := hbox
    have hch' := Lib.hid hch
    have hzr : w.heap.size + 2 < wr.heap.size := by have := hch.size; have := hzs'.out; omega
    have hzr0 : w.heap.size < wr.heap.size := by omega
    have hzr2 : w.heap.size + 1 + 1 < wr.heap.size := by omega
    have hne2 : ¬ (w.heap.size + 1 + 1 = w.heap.size) := by omega
    have hne3 : ¬ (w.heap.size = w.heap.size + 1 + 1) := by omega
    have hzr1 : w.heap.size + 1 < wr.heap.size := by omega
    have hrel' := Lib.hid hrel
    have hfs' := Lib.hid hfs
    clear z0 y0 keepc keepf hch hrel hfs
    by_cases hlt : k < ss.length
    · obtain ⟨bb, off, rfl, c0, c1, c2, c3⟩ := hc'.out k hlt
      replace c0 := hGr.out.cell c0
      replace c1 := hGr.out.cell c1
      replace c2 := hGr.out.cell c2
      replace c3 := hGr.out.cell c3
      have hnm := Lib.hid (hln'.out _ (List.getElem_mem hlt))
      have hnext := Lib.hid (fun hr => hrel'.out.next hlt hr)
      have hstop := Lib.hid (fun x hr => hrel'.out.stop (x := x) hlt hr)
      obtain ⟨s, hsd⟩ : ∃ s, ss[k] = s := ⟨_, rfl⟩
      rw [hsd] at c0 c1 c2 c3 hnm hnext hstop
      have hbl : bb < wr.heap.size := cell_lt (a := ⟨bb, off + k * 4, none⟩) c0
      have hgA := Lib.hid (hGr.out.alloc1 (.cells #[.int .i64 s.kind, .string ⟨s.name.toArray⟩, .string ⟨s.value.toArray⟩, .int .i64 s.n] 37))
      clear hsd
      by_cases h2 : s.kind = 2
      · have b2 : (s.kind == 2) = true := beq_iff_eq.2 h2
        have href : refuses s r1 = (match getO r1.fs s.name with | none => some rForb | some v => if !s.value.isEmpty && !(v == s.value) then some rForb else none) := by unfold refuses; rw [if_pos h2]; cases getO r1.fs s.name <;> rfl
        rw [hfs'.out] at href
        have hturn := Lib.hid (show turns s r1 = r1 by unfold turns; rw [if_neg (by rw [h2]; decide)])
        have hgt := hget.out s.name (Nat.le_trans hnm.out (by decide))
        clear h2
        cases hgo : getO r.fs s.name with
        | none =>
          rw [hgo] at hgt href
          have hfin := Lib.hid (hstop.out _ href)
          have hgt' := Lib.hid hgt
          clear hgt href
          go_wp2_with fail
          refine (hgt'.out _ hgA.out).mono ?_
          rintro e w2 ⟨rfl, hb2⟩
          have hgB := Lib.hid (hgA.out.trans hb2)
          have hb2a : Gr wr w2 := (Gr.alloc _ _).trans hb2
          replace q0 := hb2a.cell q0
          replace q1 := hb2a.cell q1
          replace q2 := hb2a.cell q2
          replace q3 := hb2a.cell q3
          replace q4 := hb2a.cell q4
          replace q5 := hb2a.cell q5
          replace q6 := hb2a.cell q6
          replace n0 := hb2a.cell n0
          replace n1 := hb2a.cell n1
          replace n2 := hb2a.cell n2
          replace n3 := hb2a.cell n3
          replace n4 := hb2a.cell n4
          replace n5 := hb2a.cell n5
          replace n6 := hb2a.cell n6
          replace m0 := hb2a.cell m0
          replace m1 := hb2a.cell m1
          replace m2 := hb2a.cell m2
          have f1' := fun o => (Below.frozen hb2a (p := ⟨w.heap.size + 1, o, none⟩) hzr1).trans (f1 o)
          have f2' := fun o => (Below.frozen hb2a (p := ⟨w.heap.size + 1 + 1, o, none⟩) hzr2).trans (f2 o)
          clear hb2 hb2a f1 f2
          go_wp2
          go_region_held3 (fun w' => w'.cell? ⟨w.heap.size, 0, none⟩ = some (.string ⟨r1.m.toArray⟩) ∧ w'.cell? ⟨w.heap.size, 1, none⟩ = some (.string ⟨r1.p.toArray⟩) ∧ w'.cell? ⟨w.heap.size, 2, none⟩ = some (.string ⟨r1.q.toArray⟩) ∧ w'.cell? ⟨w.heap.size, 3, none⟩ = some (.int .i64 r1.v) ∧ w'.cell? ⟨w.heap.size, 4, none⟩ = some (.slice q r.fs.length cap2) ∧ w'.cell? ⟨w.heap.size, 5, none⟩ = some (.string ⟨r1.b.toArray⟩) ∧ w'.cell? ⟨w.heap.size, 6, none⟩ = some (.bool r1.c)) (go_keep) (fail)
          all_goals go_wp2
          all_goals
            refine bodyPost_ret (v := .tuple #[.int .i64 k, r1.V (.slice q r.fs.length cap2), (rForb : Rp).V (.slice none 0 0)]) (by simp [results, Tryd.results16, go_sem, n0, n1, n2, n3, n4, n5, n6, m0, m1, m2, Rp.V, Rq.V, rForb, rLong, rNone]) rfl ⟨by rw [hfin.out]; rfl, ?_⟩
            (try refine Gr.drew ?_)
            repeat (refine Gr.setCell ?_ (by (try dsimp only); omega) _)
            exact hgB.out
        | some v =>
          rw [hgo] at hgt href
          dsimp only at hgt href
          have hgt' := Lib.hid (show ∀ W, Gr w W → Calls Tryd.prog 36 #[.slice q r.fs.length cap2, .string ⟨s.name.toArray⟩] W fun e w' => e = .returned (.tuple #[.string ⟨v.toArray⟩, .bool true]) ∧ Gr W w' from hgt)
          clear hgt
          cases v1 : (!s.value.isEmpty)
          · rw [v1] at href
            have hgo2 := Lib.hid (show GRel ss r (k + 1) r1 by have := hnext.out href; rwa [hturn.out] at this)
            clear href
            go_wp2_with fail
            refine (hgt'.out _ hgA.out).mono ?_
            rintro e w2 ⟨rfl, hb2⟩
            have hgB := Lib.hid (hgA.out.trans hb2)
            have hb2a : Gr wr w2 := (Gr.alloc _ _).trans hb2
            replace q0 := hb2a.cell q0
            replace q1 := hb2a.cell q1
            replace q2 := hb2a.cell q2
            replace q3 := hb2a.cell q3
            replace q4 := hb2a.cell q4
            replace q5 := hb2a.cell q5
            replace q6 := hb2a.cell q6
            replace n0 := hb2a.cell n0
            replace n1 := hb2a.cell n1
            replace n2 := hb2a.cell n2
            replace n3 := hb2a.cell n3
            replace n4 := hb2a.cell n4
            replace n5 := hb2a.cell n5
            replace n6 := hb2a.cell n6
            replace m0 := hb2a.cell m0
            replace m1 := hb2a.cell m1
            replace m2 := hb2a.cell m2
            replace c2 := hb2.cell ((Gr.alloc wr (.cells #[.int .i64 s.kind, .string ⟨s.name.toArray⟩, .string ⟨s.value.toArray⟩, .int .i64 s.n] 37)).cell c2)
            have t2 : w2.cell? ⟨wr.heap.size, 2, none⟩ = some (.string ⟨s.value.toArray⟩) := hb2.cell (by simp [go_sem])
            have f1' := fun o => (Below.frozen hb2a (p := ⟨w.heap.size + 1, o, none⟩) hzr1).trans (f1 o)
            have f2' := fun o => (Below.frozen hb2a (p := ⟨w.heap.size + 1 + 1, o, none⟩) hzr2).trans (f2 o)
            have f0' := fun o => (Below.frozen hb2a (p := ⟨w.heap.size, o, none⟩) hzr0).trans (f0 o)
            have hchB := Lib.hid (hch'.out.trans (hb2a.to_ch (fun k => k = w.heap.size)))
            clear hb2 hb2a f0 f1 f2
            go_wp2
            go_roundw
            case rel => exact ⟨⟨k + 1, r1, by omega, by go_num, hfs'.out, hp1, hgo2.out, ⟨q0, q1, q2, q3, q4, q5, q6⟩⟩, f0', hchB.out⟩
            case measure => simp [intOf]; omega
          · cases v2 : (!(v == s.value))
            · rw [v1, v2] at href
              have hgo2 := Lib.hid (show GRel ss r (k + 1) r1 by have := hnext.out href; rwa [hturn.out] at this)
              clear href
              go_wp2_with fail
              refine (hgt'.out _ hgA.out).mono ?_
              rintro e w2 ⟨rfl, hb2⟩
              have hgB := Lib.hid (hgA.out.trans hb2)
              have hb2a : Gr wr w2 := (Gr.alloc _ _).trans hb2
              replace q0 := hb2a.cell q0
              replace q1 := hb2a.cell q1
              replace q2 := hb2a.cell q2
              replace q3 := hb2a.cell q3
              replace q4 := hb2a.cell q4
              replace q5 := hb2a.cell q5
              replace q6 := hb2a.cell q6
              replace n0 := hb2a.cell n0
              replace n1 := hb2a.cell n1
              replace n2 := hb2a.cell n2
              replace n3 := hb2a.cell n3
              replace n4 := hb2a.cell n4
              replace n5 := hb2a.cell n5
              replace n6 := hb2a.cell n6
              replace m0 := hb2a.cell m0
              replace m1 := hb2a.cell m1
              replace m2 := hb2a.cell m2
              replace c2 := hb2.cell ((Gr.alloc wr (.cells #[.int .i64 s.kind, .string ⟨s.name.toArray⟩, .string ⟨s.value.toArray⟩, .int .i64 s.n] 37)).cell c2)
              have t2 : w2.cell? ⟨wr.heap.size, 2, none⟩ = some (.string ⟨s.value.toArray⟩) := hb2.cell (by simp [go_sem])
              have f1' := fun o => (Below.frozen hb2a (p := ⟨w.heap.size + 1, o, none⟩) hzr1).trans (f1 o)
              have f2' := fun o => (Below.frozen hb2a (p := ⟨w.heap.size + 1 + 1, o, none⟩) hzr2).trans (f2 o)
              have f0' := fun o => (Below.frozen hb2a (p := ⟨w.heap.size, o, none⟩) hzr0).trans (f0 o)
              have hchB := Lib.hid (hch'.out.trans (hb2a.to_ch (fun k => k = w.heap.size)))
              clear hb2 hb2a f0 f1 f2
              go_wp2
              go_roundw
              case rel => exact ⟨⟨k + 1, r1, by omega, by go_num, hfs'.out, hp1, hgo2.out, ⟨q0, q1, q2, q3, q4, q5, q6⟩⟩, f0', hchB.out⟩
              case measure => simp [intOf]; omega
            · rw [v1, v2] at href
              have hfin := Lib.hid (hstop.out _ href)
              clear href
              go_wp2_with fail
              refine (hgt'.out _ hgA.out).mono ?_
              rintro e w2 ⟨rfl, hb2⟩
              have hgB := Lib.hid (hgA.out.trans hb2)
              have hb2a : Gr wr w2 := (Gr.alloc _ _).trans hb2
              replace q0 := hb2a.cell q0
              replace q1 := hb2a.cell q1
              replace q2 := hb2a.cell q2
              replace q3 := hb2a.cell q3
              replace q4 := hb2a.cell q4
              replace q5 := hb2a.cell q5
              replace q6 := hb2a.cell q6
              replace n0 := hb2a.cell n0
              replace n1 := hb2a.cell n1
              replace n2 := hb2a.cell n2
              replace n3 := hb2a.cell n3
              replace n4 := hb2a.cell n4
              replace n5 := hb2a.cell n5
              replace n6 := hb2a.cell n6
              replace m0 := hb2a.cell m0
              replace m1 := hb2a.cell m1
              replace m2 := hb2a.cell m2
              replace c2 := hb2.cell ((Gr.alloc wr (.cells #[.int .i64 s.kind, .string ⟨s.name.toArray⟩, .string ⟨s.value.toArray⟩, .int .i64 s.n] 37)).cell c2)
              have t2 : w2.cell? ⟨wr.heap.size, 2, none⟩ = some (.string ⟨s.value.toArray⟩) := hb2.cell (by simp [go_sem])
              have f1' := fun o => (Below.frozen hb2a (p := ⟨w.heap.size + 1, o, none⟩) hzr1).trans (f1 o)
              have f2' := fun o => (Below.frozen hb2a (p := ⟨w.heap.size + 1 + 1, o, none⟩) hzr2).trans (f2 o)
              have f0' := fun o => (Below.frozen hb2a (p := ⟨w.heap.size, o, none⟩) hzr0).trans (f0 o)
              have hchB := Lib.hid (hch'.out.trans (hb2a.to_ch (fun k => k = w.heap.size)))
              clear hb2 hb2a f0 f1 f2
              go_wp2
              go_region_held3 (fun w' => w'.cell? ⟨w.heap.size, 0, none⟩ = some (.string ⟨r1.m.toArray⟩) ∧ w'.cell? ⟨w.heap.size, 1, none⟩ = some (.string ⟨r1.p.toArray⟩) ∧ w'.cell? ⟨w.heap.size, 2, none⟩ = some (.string ⟨r1.q.toArray⟩) ∧ w'.cell? ⟨w.heap.size, 3, none⟩ = some (.int .i64 r1.v) ∧ w'.cell? ⟨w.heap.size, 4, none⟩ = some (.slice q r.fs.length cap2) ∧ w'.cell? ⟨w.heap.size, 5, none⟩ = some (.string ⟨r1.b.toArray⟩) ∧ w'.cell? ⟨w.heap.size, 6, none⟩ = some (.bool r1.c)) (go_keep) (fail)
              all_goals go_wp2
              all_goals
                refine bodyPost_ret (v := .tuple #[.int .i64 k, r1.V (.slice q r.fs.length cap2), (rForb : Rp).V (.slice none 0 0)]) (by simp [results, Tryd.results16, go_sem, n0, n1, n2, n3, n4, n5, n6, m0, m1, m2, Rp.V, Rq.V, rForb, rLong, rNone]) rfl ⟨by rw [hfin.out]; rfl, ?_⟩
                (try refine Gr.drew ?_)
                repeat (refine Gr.setCell ?_ (by (try dsimp only); omega) _)
                exact hgB.out
      · have b2 : (s.kind == 2) = false := beq_eq_false_iff_ne.2 h2
        by_cases h3 : s.kind = 3
        · have b3 : (s.kind == 3) = true := beq_iff_eq.2 h3
          have hturn := Lib.hid (show turns s r1 = r1 by unfold turns; rw [if_neg (by rw [h3]; decide)])
          by_cases hlim : s.n < r1.b.length
          · have hfin := Lib.hid (hstop.out rLong (by unfold refuses; rw [if_neg h2, if_pos h3, if_pos hlim]))
            clear h2 h3
            go_wp2
            obtain ⟨wA, hwA⟩ : ∃ wA, wr.alloc (.cells #[.int .i64 s.kind, .string ⟨s.name.toArray⟩, .string ⟨s.value.toArray⟩, .int .i64 s.n] 37) = wA := ⟨_, rfl⟩
            rw [hwA]
            rw [hwA] at hgA
            have hbA : Gr wr wA := by rw [← hwA]; exact Gr.alloc _ _
            replace q0 := hbA.cell q0
            replace q1 := hbA.cell q1
            replace q2 := hbA.cell q2
            replace q3 := hbA.cell q3
            replace q4 := hbA.cell q4
            replace q5 := hbA.cell q5
            replace q6 := hbA.cell q6
            replace n0 := hbA.cell n0
            replace n1 := hbA.cell n1
            replace n2 := hbA.cell n2
            replace n3 := hbA.cell n3
            replace n4 := hbA.cell n4
            replace n5 := hbA.cell n5
            replace n6 := hbA.cell n6
            replace m0 := hbA.cell m0
            replace m1 := hbA.cell m1
            replace m2 := hbA.cell m2
            have f1' := fun o => (Below.frozen hbA (p := ⟨w.heap.size + 1, o, none⟩) hzr1).trans (f1 o)
            have f2' := fun o => (Below.frozen hbA (p := ⟨w.heap.size + 1 + 1, o, none⟩) hzr2).trans (f2 o)
            have f0' := fun o => (Below.frozen hbA (p := ⟨w.heap.size, o, none⟩) hzr0).trans (f0 o)
            clear hwA hbA f0 f1 f2
            go_region_held3 (fun w' => w'.cell? ⟨w.heap.size, 0, none⟩ = some (.string ⟨r1.m.toArray⟩) ∧ w'.cell? ⟨w.heap.size, 1, none⟩ = some (.string ⟨r1.p.toArray⟩) ∧ w'.cell? ⟨w.heap.size, 2, none⟩ = some (.string ⟨r1.q.toArray⟩) ∧ w'.cell? ⟨w.heap.size, 3, none⟩ = some (.int .i64 r1.v) ∧ w'.cell? ⟨w.heap.size, 4, none⟩ = some (.slice q r.fs.length cap2) ∧ w'.cell? ⟨w.heap.size, 5, none⟩ = some (.string ⟨r1.b.toArray⟩) ∧ w'.cell? ⟨w.heap.size, 6, none⟩ = some (.bool r1.c)) (go_keep) (fail)
            all_goals go_wp2
            all_goals
              refine bodyPost_ret (v := .tuple #[.int .i64 k, r1.V (.slice q r.fs.length cap2), (rLong : Rp).V (.slice none 0 0)]) (by simp [results, Tryd.results16, go_sem, n0, n1, n2, n3, n4, n5, n6, m0, m1, m2, Rp.V, Rq.V, rForb, rLong, rNone]) rfl ⟨by rw [hfin.out]; rfl, ?_⟩
              (try refine Gr.drew ?_)
              repeat (refine Gr.setCell ?_ (by (try dsimp only); omega) _)
              exact hgA.out
          · have hgo2 := Lib.hid (show GRel ss r (k + 1) r1 by have := hnext.out (by unfold refuses; rw [if_neg h2, if_pos h3, if_neg hlim]); rwa [hturn.out] at this)
            clear h2 h3
            go_wp2
            go_roundw
            case rel => exact ⟨⟨k + 1, r1, by omega, by go_num, hfs'.out, hp1, hgo2.out, RqCell.gr ⟨q0, q1, q2, q3, q4, q5, q6⟩ (Gr.alloc _ _)⟩, fun o => (Below.frozen (Gr.alloc _ _) (p := ⟨w.heap.size, o, none⟩) hzr0).trans (f0 o), hch'.out.trans (Ch.alloc _ _ _)⟩
            case measure => simp [intOf]; omega
        · have b3 : (s.kind == 3) = false := beq_eq_false_iff_ne.2 h3
          by_cases h4 : s.kind = 4
          · have b4 : (s.kind == 4) = true := beq_iff_eq.2 h4
            have href0 : refuses s r1 = (match restO r1.p s.value with | none => some rNone | some t => if !t.isEmpty && !(t.headD 0 == 47) then some rNone else none) := by
              unfold refuses; rw [if_neg h2, if_neg h3, if_pos h4]; cases restO r1.p s.value <;> rfl
            have hturn0 : turns s r1 = { r1 with p := if r1.p.drop s.value.length = [] then [47] else r1.p.drop s.value.length } := by unfold turns; rw [if_pos h4]
            have hplI : (r1.p.length : Int) ≤ 1000000 := by omega
            clear h2 h3 h4
            by_cases hpe : r1.p = s.value
            · have hd : r1.p.drop s.value.length = [] := by rw [hpe]; simp
              have hgo2 := Lib.hid (show GRel ss r (k + 1) { r1 with p := [47] } by
                have := hnext.out (by rw [href0]; unfold restO; rw [if_pos (by rw [hpe]; simp)]; simp [hd])
                rw [hturn0, hd, if_pos rfl] at this; exact this)
              have hpb : (r1.p == s.value) = true := by rw [hpe]; simp
              clear hpe hd href0 hturn0
              go_wp2
              go_roundw
              case rel => exact ⟨⟨k + 1, { r1 with p := [47] }, by omega, by go_num, hfs'.out, by simp, hgo2.out, RqCell.gr (RqCell.path ⟨q0, q1, q2, q3, q4, q5, q6⟩ [47]) (Gr.alloc _ _)⟩, fun o => (Below.frozen (Gr.alloc _ _) (p := ⟨w.heap.size, o, none⟩) (by simp; omega)).trans (frozen_set.trans (f0 o)), hch'.out.trans ((Ch.setCell (T := fun k => k = w.heap.size) wr (a := ⟨w.heap.size, 1, none⟩) rfl _).trans (Ch.alloc _ _ _))⟩
              case measure => simp [intOf]; omega
            · have hpb : (r1.p == s.value) = false := beq_eq_false_iff_ne.2 hpe
              have hsplit : s.value.isPrefixOf r1.p = true → s.value.length < r1.p.length ∧ r1.p.take s.value.length = s.value := fun hp => by
                obtain ⟨t, ht⟩ := List.isPrefixOf_iff_prefix.1 hp
                have h0 : t ≠ [] := fun e => hpe (by rw [← ht, e, List.append_nil])
                have := List.length_pos_iff.2 h0
                exact ⟨by rw [← ht, List.length_append]; omega, by rw [← ht]; simp⟩
              by_cases hlen : s.value.length < r1.p.length
              · obtain ⟨c, hci⟩ : ∃ c, (⟨r1.p.toArray⟩ : ByteArray)[s.value.length]'(by rw [size_mk]; exact hlen) = c := ⟨_, rfl⟩
                have hdr : r1.p.drop s.value.length ≠ [] := fun e => by have h9 := congrArg List.length e; rw [List.length_drop, List.length_nil] at h9; omega
                have hhd : (r1.p.drop s.value.length).headD 0 = c := by rw [List.drop_eq_getElem_cons hlen]; exact hci
                obtain ⟨x, hxd⟩ : ∃ x, r1.p.take s.value.length = x := ⟨_, rfl⟩
                have hext : (⟨r1.p.toArray⟩ : ByteArray).extract 0 s.value.length = ⟨x.toArray⟩ := by rw [extract_mk, hxd]; simp
                have hlI : (s.value.length : Int) < r1.p.length := by omega
                have h0I : (0 : Int) ≤ s.value.length := by omega
                by_cases hx : x = s.value
                · have hxb : (x == s.value) = true := by rw [hx]; simp
                  have hpre : s.value.isPrefixOf r1.p = true := List.isPrefixOf_iff_prefix.2 ⟨r1.p.drop s.value.length, by have h9 := List.take_append_drop s.value.length r1.p; rw [hxd, hx] at h9; exact h9⟩
                  by_cases hc : c = 47
                  · subst hc
                    obtain ⟨t, htd⟩ : ∃ t, r1.p.drop s.value.length = t := ⟨_, rfl⟩
                    have hgo2 := Lib.hid (show GRel ss r (k + 1) { r1 with p := t } by
                      have := hnext.out (by rw [href0]; unfold restO; rw [if_pos hpre]; dsimp only; rw [hhd]; simp)
                      rw [hturn0, if_neg hdr, htd] at this; exact this)
                    have hext2 : (⟨r1.p.toArray⟩ : ByteArray).extract s.value.length r1.p.length = ⟨t.toArray⟩ := by rw [extract_mk, List.take_length, htd]
                    have htl : t.length ≤ 1000000 := by rw [← htd]; simp; omega
                    clear hpe hsplit hdr hhd hxd hpre href0 hturn0 htd hx
                    go_wp2
                    obtain ⟨wA, hwA⟩ : ∃ wA, wr.alloc (.cells #[.int .i64 s.kind, .string ⟨s.name.toArray⟩, .string ⟨s.value.toArray⟩, .int .i64 s.n] 37) = wA := ⟨_, rfl⟩
                    rw [hwA]
                    rw [hwA] at hgA
                    have hbA : Gr wr wA := by rw [← hwA]; exact Gr.alloc _ _
                    replace q0 := hbA.cell q0
                    replace q1 := hbA.cell q1
                    replace q2 := hbA.cell q2
                    replace q3 := hbA.cell q3
                    replace q4 := hbA.cell q4
                    replace q5 := hbA.cell q5
                    replace q6 := hbA.cell q6
                    replace n0 := hbA.cell n0
                    replace n1 := hbA.cell n1
                    replace n2 := hbA.cell n2
                    replace n3 := hbA.cell n3
                    replace n4 := hbA.cell n4
                    replace n5 := hbA.cell n5
                    replace n6 := hbA.cell n6
                    replace m0 := hbA.cell m0
                    replace m1 := hbA.cell m1
                    replace m2 := hbA.cell m2
                    have f1' := fun o => (Below.frozen hbA (p := ⟨w.heap.size + 1, o, none⟩) hzr1).trans (f1 o)
                    have f2' := fun o => (Below.frozen hbA (p := ⟨w.heap.size + 1 + 1, o, none⟩) hzr2).trans (f2 o)
                    have f0' := fun o => (Below.frozen hbA (p := ⟨w.heap.size, o, none⟩) hzr0).trans (f0 o)
                    have t2 : wA.cell? ⟨wr.heap.size, 2, none⟩ = some (.string ⟨s.value.toArray⟩) := by rw [← hwA]; simp [go_sem]
                    have hchA := Lib.hid (hch'.out.trans (hbA.to_ch (fun k => k = w.heap.size)))
                    clear hwA hbA f0 f1 f2
                    go_quiet (fail)
                    generalize hD : wA.drewN _ = wD
                    have hgD : Gr wA wD := by rw [← hD]; exact below_drewNm _ _
                    have hzA : w.heap.size + 1 + 1 < wA.heap.size := cell_lt (a := ⟨w.heap.size + 1 + 1, 0, none⟩) m0
                    have f0D := fun o => (Below.frozen hgD (p := ⟨w.heap.size, o, none⟩) (by show w.heap.size < _; omega)).trans (f0' o)
                    have f1D := fun o => (Below.frozen hgD (p := ⟨w.heap.size + 1, o, none⟩) (by show w.heap.size + 1 < _; omega)).trans (f1' o)
                    have f2D := fun o => (Below.frozen hgD (p := ⟨w.heap.size + 1 + 1, o, none⟩) (by show w.heap.size + 1 + 1 < _; omega)).trans (f2' o)
                    replace q0 := hgD.cell q0
                    replace q1 := hgD.cell q1
                    replace q2 := hgD.cell q2
                    replace q3 := hgD.cell q3
                    replace q4 := hgD.cell q4
                    replace q5 := hgD.cell q5
                    replace q6 := hgD.cell q6
                    replace n0 := hgD.cell n0
                    replace n1 := hgD.cell n1
                    replace n2 := hgD.cell n2
                    replace n3 := hgD.cell n3
                    replace n4 := hgD.cell n4
                    replace n5 := hgD.cell n5
                    replace n6 := hgD.cell n6
                    replace m0 := hgD.cell m0
                    replace m1 := hgD.cell m1
                    replace m2 := hgD.cell m2
                    replace t2 := hgD.cell t2
                    have hzD : wr.heap.size < wD.heap.size := cell_lt (a := ⟨wr.heap.size, 2, none⟩) t2
                    have hgDD := Lib.hid (hgA.out.trans hgD)
                    have hchD := Lib.hid (hchA.out.trans (hgD.to_ch (fun k => k = w.heap.size)))
                    clear hD hgD f0' f1' f2'
                    go_wp2
                    go_roundw
                    case rel => exact ⟨⟨k + 1, { r1 with p := t }, by omega, by go_num, hfs'.out, htl, hgo2.out, RqCell.path ⟨q0, q1, q2, q3, q4, q5, q6⟩ t⟩, fun o => frozen_set.trans (f0D o), hchD.out.trans (Ch.setCell (T := fun k => k = w.heap.size) _ (a := ⟨w.heap.size, 1, none⟩) rfl _)⟩
                    case measure => simp [intOf]; omega
                  · have hfin := Lib.hid (hstop.out rNone (by rw [href0]; unfold restO; rw [if_pos hpre]; dsimp only; rw [hhd, beq_eq_false_iff_ne.2 hc, show (r1.p.drop s.value.length).isEmpty = false by simpa using hdr]; rfl))
                    have hcb : ((c.toNat : Int) == 47) = false := beq_eq_false_iff_ne.2 fun e => hc (UInt8.toNat_inj.1 (by show c.toNat = 47; omega))
                    clear hpe hsplit hdr hhd hxd hpre href0 hturn0 hx hc
                    go_wp2
                    obtain ⟨wA, hwA⟩ : ∃ wA, wr.alloc (.cells #[.int .i64 s.kind, .string ⟨s.name.toArray⟩, .string ⟨s.value.toArray⟩, .int .i64 s.n] 37) = wA := ⟨_, rfl⟩
                    rw [hwA]
                    rw [hwA] at hgA
                    have hbA : Gr wr wA := by rw [← hwA]; exact Gr.alloc _ _
                    replace q0 := hbA.cell q0
                    replace q1 := hbA.cell q1
                    replace q2 := hbA.cell q2
                    replace q3 := hbA.cell q3
                    replace q4 := hbA.cell q4
                    replace q5 := hbA.cell q5
                    replace q6 := hbA.cell q6
                    replace n0 := hbA.cell n0
                    replace n1 := hbA.cell n1
                    replace n2 := hbA.cell n2
                    replace n3 := hbA.cell n3
                    replace n4 := hbA.cell n4
                    replace n5 := hbA.cell n5
                    replace n6 := hbA.cell n6
                    replace m0 := hbA.cell m0
                    replace m1 := hbA.cell m1
                    replace m2 := hbA.cell m2
                    have f1' := fun o => (Below.frozen hbA (p := ⟨w.heap.size + 1, o, none⟩) hzr1).trans (f1 o)
                    have f2' := fun o => (Below.frozen hbA (p := ⟨w.heap.size + 1 + 1, o, none⟩) hzr2).trans (f2 o)
                    have f0' := fun o => (Below.frozen hbA (p := ⟨w.heap.size, o, none⟩) hzr0).trans (f0 o)
                    have t2 : wA.cell? ⟨wr.heap.size, 2, none⟩ = some (.string ⟨s.value.toArray⟩) := by rw [← hwA]; simp [go_sem]
                    have hchA := Lib.hid (hch'.out.trans (hbA.to_ch (fun k => k = w.heap.size)))
                    clear hwA hbA f0 f1 f2
                    go_quiet (fail)
                    generalize hD : wA.drewN _ = wD
                    have hgD : Gr wA wD := by rw [← hD]; exact below_drewNm _ _
                    have hzA : w.heap.size + 1 + 1 < wA.heap.size := cell_lt (a := ⟨w.heap.size + 1 + 1, 0, none⟩) m0
                    have f0D := fun o => (Below.frozen hgD (p := ⟨w.heap.size, o, none⟩) (by show w.heap.size < _; omega)).trans (f0' o)
                    have f1D := fun o => (Below.frozen hgD (p := ⟨w.heap.size + 1, o, none⟩) (by show w.heap.size + 1 < _; omega)).trans (f1' o)
                    have f2D := fun o => (Below.frozen hgD (p := ⟨w.heap.size + 1 + 1, o, none⟩) (by show w.heap.size + 1 + 1 < _; omega)).trans (f2' o)
                    replace q0 := hgD.cell q0
                    replace q1 := hgD.cell q1
                    replace q2 := hgD.cell q2
                    replace q3 := hgD.cell q3
                    replace q4 := hgD.cell q4
                    replace q5 := hgD.cell q5
                    replace q6 := hgD.cell q6
                    replace n0 := hgD.cell n0
                    replace n1 := hgD.cell n1
                    replace n2 := hgD.cell n2
                    replace n3 := hgD.cell n3
                    replace n4 := hgD.cell n4
                    replace n5 := hgD.cell n5
                    replace n6 := hgD.cell n6
                    replace m0 := hgD.cell m0
                    replace m1 := hgD.cell m1
                    replace m2 := hgD.cell m2
                    replace t2 := hgD.cell t2
                    have hzD : wr.heap.size < wD.heap.size := cell_lt (a := ⟨wr.heap.size, 2, none⟩) t2
                    have hgDD := Lib.hid (hgA.out.trans hgD)
                    have hchD := Lib.hid (hchA.out.trans (hgD.to_ch (fun k => k = w.heap.size)))
                    clear hD hgD f0' f1' f2'
                    go_wp2
                    go_region_held3 (fun w' => w'.cell? ⟨w.heap.size, 0, none⟩ = some (.string ⟨r1.m.toArray⟩) ∧ w'.cell? ⟨w.heap.size, 1, none⟩ = some (.string ⟨r1.p.toArray⟩) ∧ w'.cell? ⟨w.heap.size, 2, none⟩ = some (.string ⟨r1.q.toArray⟩) ∧ w'.cell? ⟨w.heap.size, 3, none⟩ = some (.int .i64 r1.v) ∧ w'.cell? ⟨w.heap.size, 4, none⟩ = some (.slice q r.fs.length cap2) ∧ w'.cell? ⟨w.heap.size, 5, none⟩ = some (.string ⟨r1.b.toArray⟩) ∧ w'.cell? ⟨w.heap.size, 6, none⟩ = some (.bool r1.c)) (go_keep) (fail)
                    all_goals go_wp2
                    all_goals
                      refine bodyPost_ret (v := .tuple #[.int .i64 k, r1.V (.slice q r.fs.length cap2), (rNone : Rp).V (.slice none 0 0)]) (by simp [results, Tryd.results16, go_sem, n0, n1, n2, n3, n4, n5, n6, m0, m1, m2, Rp.V, Rq.V, rForb, rLong, rNone]) rfl ⟨by rw [hfin.out]; rfl, ?_⟩
                      (try refine Gr.drew ?_)
                      repeat (refine Gr.setCell ?_ (by (try dsimp only); omega) _)
                      exact hgDD.out
                · have hxb : (x == s.value) = false := beq_eq_false_iff_ne.2 hx
                  have hfin := Lib.hid (hstop.out rNone (by rw [href0]; unfold restO; rw [if_neg (fun hp => hx (by rw [← hxd]; exact (hsplit hp).2))]))
                  clear hpe hsplit hdr hhd hxd href0 hturn0 hx
                  go_wp2
                  obtain ⟨wA, hwA⟩ : ∃ wA, wr.alloc (.cells #[.int .i64 s.kind, .string ⟨s.name.toArray⟩, .string ⟨s.value.toArray⟩, .int .i64 s.n] 37) = wA := ⟨_, rfl⟩
                  rw [hwA]
                  rw [hwA] at hgA
                  have hbA : Gr wr wA := by rw [← hwA]; exact Gr.alloc _ _
                  replace q0 := hbA.cell q0
                  replace q1 := hbA.cell q1
                  replace q2 := hbA.cell q2
                  replace q3 := hbA.cell q3
                  replace q4 := hbA.cell q4
                  replace q5 := hbA.cell q5
                  replace q6 := hbA.cell q6
                  replace n0 := hbA.cell n0
                  replace n1 := hbA.cell n1
                  replace n2 := hbA.cell n2
                  replace n3 := hbA.cell n3
                  replace n4 := hbA.cell n4
                  replace n5 := hbA.cell n5
                  replace n6 := hbA.cell n6
                  replace m0 := hbA.cell m0
                  replace m1 := hbA.cell m1
                  replace m2 := hbA.cell m2
                  have f1' := fun o => (Below.frozen hbA (p := ⟨w.heap.size + 1, o, none⟩) hzr1).trans (f1 o)
                  have f2' := fun o => (Below.frozen hbA (p := ⟨w.heap.size + 1 + 1, o, none⟩) hzr2).trans (f2 o)
                  have f0' := fun o => (Below.frozen hbA (p := ⟨w.heap.size, o, none⟩) hzr0).trans (f0 o)
                  have t2 : wA.cell? ⟨wr.heap.size, 2, none⟩ = some (.string ⟨s.value.toArray⟩) := by rw [← hwA]; simp [go_sem]
                  have hchA := Lib.hid (hch'.out.trans (hbA.to_ch (fun k => k = w.heap.size)))
                  clear hwA hbA f0 f1 f2
                  go_quiet (fail)
                  generalize hD : wA.drewN _ = wD
                  have hgD : Gr wA wD := by rw [← hD]; exact below_drewNm _ _
                  have hzA : w.heap.size + 1 + 1 < wA.heap.size := cell_lt (a := ⟨w.heap.size + 1 + 1, 0, none⟩) m0
                  have f0D := fun o => (Below.frozen hgD (p := ⟨w.heap.size, o, none⟩) (by show w.heap.size < _; omega)).trans (f0' o)
                  have f1D := fun o => (Below.frozen hgD (p := ⟨w.heap.size + 1, o, none⟩) (by show w.heap.size + 1 < _; omega)).trans (f1' o)
                  have f2D := fun o => (Below.frozen hgD (p := ⟨w.heap.size + 1 + 1, o, none⟩) (by show w.heap.size + 1 + 1 < _; omega)).trans (f2' o)
                  replace q0 := hgD.cell q0
                  replace q1 := hgD.cell q1
                  replace q2 := hgD.cell q2
                  replace q3 := hgD.cell q3
                  replace q4 := hgD.cell q4
                  replace q5 := hgD.cell q5
                  replace q6 := hgD.cell q6
                  replace n0 := hgD.cell n0
                  replace n1 := hgD.cell n1
                  replace n2 := hgD.cell n2
                  replace n3 := hgD.cell n3
                  replace n4 := hgD.cell n4
                  replace n5 := hgD.cell n5
                  replace n6 := hgD.cell n6
                  replace m0 := hgD.cell m0
                  replace m1 := hgD.cell m1
                  replace m2 := hgD.cell m2
                  replace t2 := hgD.cell t2
                  have hzD : wr.heap.size < wD.heap.size := cell_lt (a := ⟨wr.heap.size, 2, none⟩) t2
                  have hgDD := Lib.hid (hgA.out.trans hgD)
                  have hchD := Lib.hid (hchA.out.trans (hgD.to_ch (fun k => k = w.heap.size)))
                  clear hD hgD f0' f1' f2'
                  go_wp2
                  go_region_held3 (fun w' => w'.cell? ⟨w.heap.size, 0, none⟩ = some (.string ⟨r1.m.toArray⟩) ∧ w'.cell? ⟨w.heap.size, 1, none⟩ = some (.string ⟨r1.p.toArray⟩) ∧ w'.cell? ⟨w.heap.size, 2, none⟩ = some (.string ⟨r1.q.toArray⟩) ∧ w'.cell? ⟨w.heap.size, 3, none⟩ = some (.int .i64 r1.v) ∧ w'.cell? ⟨w.heap.size, 4, none⟩ = some (.slice q r.fs.length cap2) ∧ w'.cell? ⟨w.heap.size, 5, none⟩ = some (.string ⟨r1.b.toArray⟩) ∧ w'.cell? ⟨w.heap.size, 6, none⟩ = some (.bool r1.c)) (go_keep) (fail)
                  all_goals go_wp2
                  all_goals
                    refine bodyPost_ret (v := .tuple #[.int .i64 k, r1.V (.slice q r.fs.length cap2), (rNone : Rp).V (.slice none 0 0)]) (by simp [results, Tryd.results16, go_sem, n0, n1, n2, n3, n4, n5, n6, m0, m1, m2, Rp.V, Rq.V, rForb, rLong, rNone]) rfl ⟨by rw [hfin.out]; rfl, ?_⟩
                    (try refine Gr.drew ?_)
                    repeat (refine Gr.setCell ?_ (by (try dsimp only); omega) _)
                    exact hgDD.out
              · have hfin := Lib.hid (hstop.out rNone (by rw [href0]; unfold restO; rw [if_neg (fun hp => hlen (hsplit hp).1)]))
                clear hpe hsplit href0 hturn0
                go_wp2
                obtain ⟨wA, hwA⟩ : ∃ wA, wr.alloc (.cells #[.int .i64 s.kind, .string ⟨s.name.toArray⟩, .string ⟨s.value.toArray⟩, .int .i64 s.n] 37) = wA := ⟨_, rfl⟩
                rw [hwA]
                rw [hwA] at hgA
                have hbA : Gr wr wA := by rw [← hwA]; exact Gr.alloc _ _
                replace q0 := hbA.cell q0
                replace q1 := hbA.cell q1
                replace q2 := hbA.cell q2
                replace q3 := hbA.cell q3
                replace q4 := hbA.cell q4
                replace q5 := hbA.cell q5
                replace q6 := hbA.cell q6
                replace n0 := hbA.cell n0
                replace n1 := hbA.cell n1
                replace n2 := hbA.cell n2
                replace n3 := hbA.cell n3
                replace n4 := hbA.cell n4
                replace n5 := hbA.cell n5
                replace n6 := hbA.cell n6
                replace m0 := hbA.cell m0
                replace m1 := hbA.cell m1
                replace m2 := hbA.cell m2
                have f1' := fun o => (Below.frozen hbA (p := ⟨w.heap.size + 1, o, none⟩) hzr1).trans (f1 o)
                have f2' := fun o => (Below.frozen hbA (p := ⟨w.heap.size + 1 + 1, o, none⟩) hzr2).trans (f2 o)
                have f0' := fun o => (Below.frozen hbA (p := ⟨w.heap.size, o, none⟩) hzr0).trans (f0 o)
                have t2 : wA.cell? ⟨wr.heap.size, 2, none⟩ = some (.string ⟨s.value.toArray⟩) := by rw [← hwA]; simp [go_sem]
                have hchA := Lib.hid (hch'.out.trans (hbA.to_ch (fun k => k = w.heap.size)))
                clear hwA hbA f0 f1 f2
                go_quiet (fail)
                generalize hD : wA.drewN _ = wD
                have hgD : Gr wA wD := by rw [← hD]; exact below_drewNm _ _
                have hzA : w.heap.size + 1 + 1 < wA.heap.size := cell_lt (a := ⟨w.heap.size + 1 + 1, 0, none⟩) m0
                have f0D := fun o => (Below.frozen hgD (p := ⟨w.heap.size, o, none⟩) (by show w.heap.size < _; omega)).trans (f0' o)
                have f1D := fun o => (Below.frozen hgD (p := ⟨w.heap.size + 1, o, none⟩) (by show w.heap.size + 1 < _; omega)).trans (f1' o)
                have f2D := fun o => (Below.frozen hgD (p := ⟨w.heap.size + 1 + 1, o, none⟩) (by show w.heap.size + 1 + 1 < _; omega)).trans (f2' o)
                replace q0 := hgD.cell q0
                replace q1 := hgD.cell q1
                replace q2 := hgD.cell q2
                replace q3 := hgD.cell q3
                replace q4 := hgD.cell q4
                replace q5 := hgD.cell q5
                replace q6 := hgD.cell q6
                replace n0 := hgD.cell n0
                replace n1 := hgD.cell n1
                replace n2 := hgD.cell n2
                replace n3 := hgD.cell n3
                replace n4 := hgD.cell n4
                replace n5 := hgD.cell n5
                replace n6 := hgD.cell n6
                replace m0 := hgD.cell m0
                replace m1 := hgD.cell m1
                replace m2 := hgD.cell m2
                replace t2 := hgD.cell t2
                have hzD : wr.heap.size < wD.heap.size := cell_lt (a := ⟨wr.heap.size, 2, none⟩) t2
                have hgDD := Lib.hid (hgA.out.trans hgD)
                have hchD := Lib.hid (hchA.out.trans (hgD.to_ch (fun k => k = w.heap.size)))
                clear hD hgD f0' f1' f2'
                go_wp2
                go_region_held3 (fun w' => w'.cell? ⟨w.heap.size, 0, none⟩ = some (.string ⟨r1.m.toArray⟩) ∧ w'.cell? ⟨w.heap.size, 1, none⟩ = some (.string ⟨r1.p.toArray⟩) ∧ w'.cell? ⟨w.heap.size, 2, none⟩ = some (.string ⟨r1.q.toArray⟩) ∧ w'.cell? ⟨w.heap.size, 3, none⟩ = some (.int .i64 r1.v) ∧ w'.cell? ⟨w.heap.size, 4, none⟩ = some (.slice q r.fs.length cap2) ∧ w'.cell? ⟨w.heap.size, 5, none⟩ = some (.string ⟨r1.b.toArray⟩) ∧ w'.cell? ⟨w.heap.size, 6, none⟩ = some (.bool r1.c)) (go_keep) (fail)
                all_goals go_wp2
                all_goals
                  refine bodyPost_ret (v := .tuple #[.int .i64 k, r1.V (.slice q r.fs.length cap2), (rNone : Rp).V (.slice none 0 0)]) (by simp [results, Tryd.results16, go_sem, n0, n1, n2, n3, n4, n5, n6, m0, m1, m2, Rp.V, Rq.V, rForb, rLong, rNone]) rfl ⟨by rw [hfin.out]; rfl, ?_⟩
                  (try refine Gr.drew ?_)
                  repeat (refine Gr.setCell ?_ (by (try dsimp only); omega) _)
                  exact hgDD.out
          · have b4 : (s.kind == 4) = false := beq_eq_false_iff_ne.2 h4
            have hturn := Lib.hid (show turns s r1 = r1 by unfold turns; rw [if_neg h4])
            have hgo2 := Lib.hid (show GRel ss r (k + 1) r1 by have := hnext.out (by unfold refuses; rw [if_neg h2, if_neg h3, if_neg h4]); rwa [hturn.out] at this)
            clear h2 h3 h4
            go_wp2
            go_roundw
            case rel => exact ⟨⟨k + 1, r1, by omega, by go_num, hfs'.out, hp1, hgo2.out, RqCell.gr ⟨q0, q1, q2, q3, q4, q5, q6⟩ (Gr.alloc _ _)⟩, fun o => (Below.frozen (Gr.alloc _ _) (p := ⟨w.heap.size, o, none⟩) hzr0).trans (f0 o), hch'.out.trans (Ch.alloc _ _ _)⟩
            case measure => simp [intOf]; omega
    · have hfin := Lib.hid (hrel'.out.fin (by omega))
      obtain rfl : k = ss.length := by omega
      go_wp2
      go_region_held3 (fun w' => w'.cell? ⟨w.heap.size, 0, none⟩ = some (.string ⟨r1.m.toArray⟩) ∧ w'.cell? ⟨w.heap.size, 1, none⟩ = some (.string ⟨r1.p.toArray⟩) ∧ w'.cell? ⟨w.heap.size, 2, none⟩ = some (.string ⟨r1.q.toArray⟩) ∧ w'.cell? ⟨w.heap.size, 3, none⟩ = some (.int .i64 r1.v) ∧ w'.cell? ⟨w.heap.size, 4, none⟩ = some (.slice q r.fs.length cap2) ∧ w'.cell? ⟨w.heap.size, 5, none⟩ = some (.string ⟨r1.b.toArray⟩) ∧ w'.cell? ⟨w.heap.size, 6, none⟩ = some (.bool r1.c)) (go_keep) (fail)
      all_goals go_wp2
      all_goals
        refine bodyPost_ret (v := .tuple #[.int .i64 ss.length, r1.V (.slice q r.fs.length cap2), (⟨0, [], []⟩ : Rp).V (.slice none 0 0)]) (by simp [results, Tryd.results16, go_sem, n0, n1, n2, n3, n4, n5, n6, m0, m1, m2, Rp.V, Rq.V, rForb, rLong, rNone]) rfl ⟨by rw [hfin.out]; rfl, ?_⟩
        (try refine Gr.drew ?_)
        repeat (refine Gr.setCell ?_ (by (try dsimp only); omega) _)
        exact hGr.out
end Go.Proofs.YtolpphmgobeocaaDoor
