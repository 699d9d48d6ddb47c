/-
  The walk over hand.Check.
-/
import Derived.Test.YtheihlalgekojaaGreatDoorHb
namespace Go.Proofs.YtheihlalgekojaaGreatDoor
open Go.RowKit
attribute [local go_sem] Oper.semAt_some

theorem decode_is {s : List UInt8} {x : Option (List UInt8)} (h : decL s = x) (hs : s.length ≤ 1000000) (w : World) : Calls Tryz.prog 14 #[.string ⟨s.toArray⟩] w fun e w' => e = .returned (dcV x) ∧ Gr w w' := h ▸ decode_any s hs w
/-- What Check answers, as values. -/
def ckV (x : List UInt8 × Nat) : Value := .tuple #[.string ⟨x.1.toArray⟩, .int .i64 x.2]

set_option maxHeartbeats 8000000 in
set_option maxRecDepth 20000 in
theorem check_any (r : Rq) (t : Value) (w : World) (hG : G w) (hf : FieldsAt w t r.fs) (hs : Short r.fs) :
    Calls Tryz.prog 6 #[r.V t] w fun e w' => e = .returned (ckV (checkB r)) ∧ Gr w w' := by
  obtain ⟨R, hR⟩ : ∃ R, checkB r = R := ⟨_, rfl⟩
  rw [hR]
  obtain ⟨⟨hv, h1⟩, hx1⟩ : ∃ x, oneB r.fs kHost = x := ⟨_, rfl⟩
  obtain ⟨⟨kv, k1⟩, hx2⟩ : ∃ x, oneB r.fs kKey = x := ⟨_, rfl⟩
  obtain ⟨⟨vv, v1⟩, hx3⟩ : ∃ x, oneB r.fs kVer = x := ⟨_, rfl⟩
  obtain ⟨d, hd⟩ : ∃ d, decL kv = d := ⟨_, rfl⟩
  have hkl : kv.length ≤ 800000 := by have := (getB_short hs kKey).1; have e : (oneB r.fs kKey).1 = (getB r.fs kKey).1 := rfl; rw [hx2] at e; dsimp only at e; rw [e]; exact this
  have hR' := Lib.hid (show R = if (r.m != kGET || (r.v != 11 || (!h1 || (!k1 || !v1)))) then ([], 400)
      else if (!asksB r.fs kUpg kWs || !asksB r.fs kConn kupg) then ([], 400)
      else match d with
        | none => ([], 400)
        | some t => if t.length ≠ 16 then ([], 400) else if vv ≠ k13 then ([], 426) else (acceptL kv, 101) by
    rw [← hR]; unfold checkB; rw [hx1, hx2, hx3]; dsimp only; rw [hd]; rfl)
  have o1 := Lib.hid (fun W (hg : Gr w W) => one_any t r.fs kHost W (hG.gr hg) (hf.gr hg) hs (by decide))
  have o2 := Lib.hid (fun W (hg : Gr w W) => one_any t r.fs kKey W (hG.gr hg) (hf.gr hg) hs (by decide))
  have o3 := Lib.hid (fun W (hg : Gr w W) => one_any t r.fs kVer W (hG.gr hg) (hf.gr hg) hs (by decide))
  rw [hx1] at o1
  rw [hx2] at o2
  rw [hx3] at o3
  have od := Lib.hid (fun W => decode_is hd (by omega) W)
  have a1 := Lib.hid (fun W (hg : Gr w W) => asks_any t r.fs kUpg kWs W (hG.gr hg) (hf.gr hg) hs (by decide) (by decide))
  have a2 := Lib.hid (fun W (hg : Gr w W) => asks_any t r.fs kConn kupg W (hG.gr hg) (hf.gr hg) hs (by decide) (by decide))
  have oa := Lib.hid (fun W => accept_any kv hkl W)
  obtain ⟨y1, hy1⟩ : ∃ y, asksB r.fs kUpg kWs = y := ⟨_, rfl⟩
  obtain ⟨y2, hy2⟩ : ∃ y, asksB r.fs kConn kupg = y := ⟨_, rfl⟩
  rw [hy1] at a1
  rw [hy2] at a2
  rw [hy1, hy2] at hR'
  obtain ⟨p, cap, ht, _⟩ := hf
  subst ht
  clear hR hx1 hx2 hx3 hd hG hs hy1 hy2 hkl
  unfold Rq.V
  obtain ⟨m, pp, q, ver, fs, bd, cl⟩ := r
  dsimp only at hR' o1 o2 o3 a1 a2 ⊢
  go_enter Tryz.func6, Tryz.ntmps6
  go_wp2_with fail
  have g0 := Lib.hid (Gr.alloc w (.cells #[.string ⟨m.toArray⟩, .string ⟨pp.toArray⟩, .string ⟨q.toArray⟩, .int .i64 ver, .slice p fs.length cap, .string ⟨bd.toArray⟩, .bool cl] 24))
  have q0 : (w.alloc (.cells #[.string ⟨m.toArray⟩, .string ⟨pp.toArray⟩, .string ⟨q.toArray⟩, .int .i64 ver, .slice p fs.length cap, .string ⟨bd.toArray⟩, .bool cl] 24)).cell? ⟨w.heap.size, 0, none⟩ = some (.string ⟨m.toArray⟩) := by simp [go_sem]
  have q3 : (w.alloc (.cells #[.string ⟨m.toArray⟩, .string ⟨pp.toArray⟩, .string ⟨q.toArray⟩, .int .i64 ver, .slice p fs.length cap, .string ⟨bd.toArray⟩, .bool cl] 24)).cell? ⟨w.heap.size, 3, none⟩ = some (.int .i64 ver) := by simp [go_sem]
  have q4 : (w.alloc (.cells #[.string ⟨m.toArray⟩, .string ⟨pp.toArray⟩, .string ⟨q.toArray⟩, .int .i64 ver, .slice p fs.length cap, .string ⟨bd.toArray⟩, .bool cl] 24)).cell? ⟨w.heap.size, 4, none⟩ = some (.slice p fs.length cap) := by simp [go_sem]
  refine (o1.out _ g0.out).mono ?_
  rintro e w1 ⟨rfl, hb⟩
  have g1 := Lib.hid (g0.out.trans hb)
  replace q0 := hb.cell q0
  replace q3 := hb.cell q3
  replace q4 := hb.cell q4
  clear hb
  go_wp2_with fail
  refine (o2.out _ g1.out).mono ?_
  rintro e w2 ⟨rfl, hb⟩
  have g2 := Lib.hid (g1.out.trans hb)
  replace q0 := hb.cell q0
  replace q3 := hb.cell q3
  replace q4 := hb.cell q4
  clear hb
  go_wp2_with fail
  refine (o3.out _ g2.out).mono ?_
  rintro e w3 ⟨rfl, hb⟩
  have g3 := Lib.hid (g2.out.trans hb)
  replace q0 := hb.cell q0
  replace q3 := hb.cell q3
  replace q4 := hb.cell q4
  clear hb
  go_wp2_with fail
  refine (od.out _).mono ?_
  rintro e w4 ⟨rfl, hb⟩
  have g4 := Lib.hid (g3.out.trans hb)
  replace q0 := hb.cell q0
  replace q3 := hb.cell q3
  replace q4 := hb.cell q4
  clear hb
  obtain ⟨dt, db, hdv, hds⟩ : ∃ (dt : List UInt8) (db : Bool), dcV d = .tuple #[.string ⟨dt.toArray⟩, .bool db] ∧ ((db = false ∧ d = none) ∨ (db = true ∧ d = some dt)) := by
    cases d with
    | none => exact ⟨[], false, rfl, .inl ⟨rfl, rfl⟩⟩
    | some x => exact ⟨x, true, rfl, .inr ⟨rfl, rfl⟩⟩
  rw [hdv]
  have hds' := Lib.hid hds
  clear hdv hds
  cases hc1 : (m != kGET)
  · have e1 : (m == [71, 69, 84]) = true := by have := hc1; simpa [kGET] using this
    cases hc2 : (ver != 11)
    · cases h1 with
      | false =>
        have hfin := Lib.hid (show R = ([], 400) by rw [hR'.out]; simp [hc1, hc2])
        go_wp2
        go_ret2
        exact ⟨by rw [hfin.out]; rfl, g4.out⟩
      | true =>
        cases k1 with
        | false =>
          have hfin := Lib.hid (show R = ([], 400) by rw [hR'.out]; simp [hc1, hc2])
          go_wp2
          go_ret2
          exact ⟨by rw [hfin.out]; rfl, g4.out⟩
        | true =>
          cases v1 with
          | false =>
            have hfin := Lib.hid (show R = ([], 400) by rw [hR'.out]; simp [hc1, hc2])
            go_wp2
            go_ret2
            exact ⟨by rw [hfin.out]; rfl, g4.out⟩
          | true =>
            cases y1 with
            | false =>
              have hfin := Lib.hid (show R = ([], 400) by rw [hR'.out]; simp [hc1, hc2])
              go_wp2_with fail
              refine (a1.out _ g4.out).mono ?_
              rintro e w5 ⟨rfl, hb⟩
              have g5 := Lib.hid (g4.out.trans hb)
              replace q4 := hb.cell q4
              clear hb
              go_wp2
              go_ret2
              exact ⟨by rw [hfin.out]; rfl, g5.out⟩
            | true =>
              cases y2 with
              | false =>
                have hfin := Lib.hid (show R = ([], 400) by rw [hR'.out]; simp [hc1, hc2])
                go_wp2_with fail
                refine (a1.out _ g4.out).mono ?_
                rintro e w5 ⟨rfl, hb⟩
                have g5 := Lib.hid (g4.out.trans hb)
                replace q4 := hb.cell q4
                clear hb
                go_wp2_with fail
                refine (a2.out _ g5.out).mono ?_
                rintro e w6 ⟨rfl, hb⟩
                have g6 := Lib.hid (g5.out.trans hb)
                clear hb
                go_wp2
                go_ret2
                exact ⟨by rw [hfin.out]; rfl, g6.out⟩
              | true =>
                rcases hds'.out with ⟨rfl, rfl⟩ | ⟨rfl, rfl⟩
                · have hfin := Lib.hid (show R = ([], 400) by rw [hR'.out]; simp [hc1, hc2])
                  go_wp2_with fail
                  refine (a1.out _ g4.out).mono ?_
                  rintro e w5 ⟨rfl, hb⟩
                  have g5 := Lib.hid (g4.out.trans hb)
                  replace q4 := hb.cell q4
                  clear hb
                  go_wp2_with fail
                  refine (a2.out _ g5.out).mono ?_
                  rintro e w6 ⟨rfl, hb⟩
                  have g6 := Lib.hid (g5.out.trans hb)
                  clear hb
                  go_wp2
                  go_ret2
                  exact ⟨by rw [hfin.out]; rfl, g6.out⟩
                · by_cases hl : dt.length = 16
                  · have hlI : ((dt.length : Int) != 16) = false := by rw [bne_eq_false_iff_eq]; omega
                    cases hvv : (vv != k13)
                    · have e3 : (vv == [49, 51]) = true := by have := hvv; simpa [k13] using this
                      have hfin := Lib.hid (show R = (acceptL kv, 101) by rw [hR'.out]; have := hvv; simp at this; simp [hc1, hc2, hl, this])
                      clear hl hvv
                      go_wp2_with fail
                      refine (a1.out _ g4.out).mono ?_
                      rintro e w5 ⟨rfl, hb⟩
                      have g5 := Lib.hid (g4.out.trans hb)
                      replace q4 := hb.cell q4
                      clear hb
                      go_wp2_with fail
                      refine (a2.out _ g5.out).mono ?_
                      rintro e w6 ⟨rfl, hb⟩
                      have g6 := Lib.hid (g5.out.trans hb)
                      clear hb
                      go_wp2_with fail
                      refine (oa.out _).mono ?_
                      rintro e w7 ⟨rfl, hb⟩
                      have g7 := Lib.hid (g6.out.trans hb)
                      clear hb
                      go_wp2
                      go_ret2
                      exact ⟨by rw [hfin.out]; rfl, g7.out⟩
                    · have e3 : (vv == [49, 51]) = false := by have := hvv; simpa [k13] using this
                      have hfin := Lib.hid (show R = ([], 426) by rw [hR'.out]; have := hvv; simp at this; simp [hc1, hc2, hl, this])
                      clear hl hvv
                      go_wp2_with fail
                      refine (a1.out _ g4.out).mono ?_
                      rintro e w5 ⟨rfl, hb⟩
                      have g5 := Lib.hid (g4.out.trans hb)
                      replace q4 := hb.cell q4
                      clear hb
                      go_wp2_with fail
                      refine (a2.out _ g5.out).mono ?_
                      rintro e w6 ⟨rfl, hb⟩
                      have g6 := Lib.hid (g5.out.trans hb)
                      clear hb
                      go_wp2
                      go_ret2
                      exact ⟨by rw [hfin.out]; rfl, g6.out⟩
                  · have hlI : ((dt.length : Int) != 16) = true := by rw [bne_iff_ne]; omega
                    have hfin := Lib.hid (show R = ([], 400) by rw [hR'.out]; simp [hc1, hc2, hl])
                    clear hl
                    go_wp2_with fail
                    refine (a1.out _ g4.out).mono ?_
                    rintro e w5 ⟨rfl, hb⟩
                    have g5 := Lib.hid (g4.out.trans hb)
                    replace q4 := hb.cell q4
                    clear hb
                    go_wp2_with fail
                    refine (a2.out _ g5.out).mono ?_
                    rintro e w6 ⟨rfl, hb⟩
                    have g6 := Lib.hid (g5.out.trans hb)
                    clear hb
                    go_wp2
                    go_ret2
                    exact ⟨by rw [hfin.out]; rfl, g6.out⟩
    · have hfin := Lib.hid (show R = ([], 400) by rw [hR'.out]; simp [hc1, hc2])
      go_wp2
      go_ret2
      exact ⟨by rw [hfin.out]; rfl, g4.out⟩
  · have e1 : (m == [71, 69, 84]) = false := by have := hc1; simpa [kGET] using this
    have hfin := Lib.hid (show R = ([], 400) by rw [hR'.out]; simp [hc1])
    go_wp2
    go_ret2
    exact ⟨by rw [hfin.out]; rfl, g4.out⟩
end Go.Proofs.YtheihlalgekojaaGreatDoor
