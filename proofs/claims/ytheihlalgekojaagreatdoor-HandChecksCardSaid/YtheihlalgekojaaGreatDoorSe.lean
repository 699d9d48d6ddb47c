/-
  Walks over package sha: a sum under way.
-/
import Derived.Test.YtheihlalgekojaaGreatDoorSd
namespace Go.Proofs.YtheihlalgekojaaGreatDoor
open Go.RowKit
attribute [local go_sem] Oper.semAt_some

/-- A sum under way at block b. -/
structure HashAt (b : Nat) (W : World) (bg : Bool) (h : W5) (rest : List UInt8) (n : Nat) : Prop where
  c0 : W.cell? ⟨b, 0, none⟩ = some (.bool bg)
  c1 : W.cell? ⟨b, 1, none⟩ = some (.int .u32 h.a)
  c2 : W.cell? ⟨b, 2, none⟩ = some (.int .u32 h.b)
  c3 : W.cell? ⟨b, 3, none⟩ = some (.int .u32 h.c)
  c4 : W.cell? ⟨b, 4, none⟩ = some (.int .u32 h.d)
  c5 : W.cell? ⟨b, 5, none⟩ = some (.int .u32 h.e)
  c6 : W.cell? ⟨b, 6, none⟩ = some (.string ⟨rest.toArray⟩)
  c7 : W.cell? ⟨b, 7, none⟩ = some (.int .i64 n)
  fz : ∀ o, W.frozen? ⟨b, o, none⟩ = false
section
variable {b : Nat} {W W' : World} {bg : Bool} {h : W5} {rest : List UInt8} {n : Nat}
theorem HashAt.gr (H : HashAt b W bg h rest n) (hg : Gr W W') : HashAt b W' bg h rest n :=
  ⟨hg.cell H.c0, hg.cell H.c1, hg.cell H.c2, hg.cell H.c3, hg.cell H.c4, hg.cell H.c5, hg.cell H.c6, hg.cell H.c7, fun o => (Below.frozen hg (p := ⟨b, o, none⟩) (show b < _ from cell_lt H.c0)).trans (H.fz o)⟩
theorem HashAt.set0 (H : HashAt b W bg h rest n) (v : Bool) : HashAt b (W.setCell ⟨b, 0, none⟩ (.bool v)) v h rest n :=
  ⟨cell_set_same H.c0, cell_off H.c1 (by decide), cell_off H.c2 (by decide), cell_off H.c3 (by decide), cell_off H.c4 (by decide), cell_off H.c5 (by decide), cell_off H.c6 (by decide), cell_off H.c7 (by decide), fun o => frozen_set.trans (H.fz o)⟩
theorem HashAt.set1 (H : HashAt b W bg h rest n) (v : Nat) : HashAt b (W.setCell ⟨b, 1, none⟩ (.int .u32 v)) bg { h with a := v } rest n :=
  ⟨cell_off H.c0 (by decide), cell_set_same H.c1, cell_off H.c2 (by decide), cell_off H.c3 (by decide), cell_off H.c4 (by decide), cell_off H.c5 (by decide), cell_off H.c6 (by decide), cell_off H.c7 (by decide), fun o => frozen_set.trans (H.fz o)⟩
theorem HashAt.set2 (H : HashAt b W bg h rest n) (v : Nat) : HashAt b (W.setCell ⟨b, 2, none⟩ (.int .u32 v)) bg { h with b := v } rest n :=
  ⟨cell_off H.c0 (by decide), cell_off H.c1 (by decide), cell_set_same H.c2, cell_off H.c3 (by decide), cell_off H.c4 (by decide), cell_off H.c5 (by decide), cell_off H.c6 (by decide), cell_off H.c7 (by decide), fun o => frozen_set.trans (H.fz o)⟩
theorem HashAt.set3 (H : HashAt b W bg h rest n) (v : Nat) : HashAt b (W.setCell ⟨b, 3, none⟩ (.int .u32 v)) bg { h with c := v } rest n :=
  ⟨cell_off H.c0 (by decide), cell_off H.c1 (by decide), cell_off H.c2 (by decide), cell_set_same H.c3, cell_off H.c4 (by decide), cell_off H.c5 (by decide), cell_off H.c6 (by decide), cell_off H.c7 (by decide), fun o => frozen_set.trans (H.fz o)⟩
theorem HashAt.set4 (H : HashAt b W bg h rest n) (v : Nat) : HashAt b (W.setCell ⟨b, 4, none⟩ (.int .u32 v)) bg { h with d := v } rest n :=
  ⟨cell_off H.c0 (by decide), cell_off H.c1 (by decide), cell_off H.c2 (by decide), cell_off H.c3 (by decide), cell_set_same H.c4, cell_off H.c5 (by decide), cell_off H.c6 (by decide), cell_off H.c7 (by decide), fun o => frozen_set.trans (H.fz o)⟩
theorem HashAt.set5 (H : HashAt b W bg h rest n) (v : Nat) : HashAt b (W.setCell ⟨b, 5, none⟩ (.int .u32 v)) bg { h with e := v } rest n :=
  ⟨cell_off H.c0 (by decide), cell_off H.c1 (by decide), cell_off H.c2 (by decide), cell_off H.c3 (by decide), cell_off H.c4 (by decide), cell_set_same H.c5, cell_off H.c6 (by decide), cell_off H.c7 (by decide), fun o => frozen_set.trans (H.fz o)⟩
theorem HashAt.set6 (H : HashAt b W bg h rest n) (v : List UInt8) : HashAt b (W.setCell ⟨b, 6, none⟩ (.string ⟨v.toArray⟩)) bg h v n :=
  ⟨cell_off H.c0 (by decide), cell_off H.c1 (by decide), cell_off H.c2 (by decide), cell_off H.c3 (by decide), cell_off H.c4 (by decide), cell_off H.c5 (by decide), cell_set_same H.c6, cell_off H.c7 (by decide), fun o => frozen_set.trans (H.fz o)⟩
theorem HashAt.set7 (H : HashAt b W bg h rest n) (v : Nat) : HashAt b (W.setCell ⟨b, 7, none⟩ (.int .i64 v)) bg h rest v :=
  ⟨cell_off H.c0 (by decide), cell_off H.c1 (by decide), cell_off H.c2 (by decide), cell_off H.c3 (by decide), cell_off H.c4 (by decide), cell_off H.c5 (by decide), cell_off H.c6 (by decide), cell_set_same H.c7, fun o => frozen_set.trans (H.fz o)⟩
/-- Five words put in. -/
def setH (W : World) (b : Nat) (x : W5) : World := ((((W.setCell ⟨b, 1, none⟩ (.int .u32 x.a)).setCell ⟨b, 2, none⟩ (.int .u32 x.b)).setCell ⟨b, 3, none⟩ (.int .u32 x.c)).setCell ⟨b, 4, none⟩ (.int .u32 x.d)).setCell ⟨b, 5, none⟩ (.int .u32 x.e)
theorem HashAt.setH (H : HashAt b W bg h rest n) (x : W5) : HashAt b (setH W b x) bg x rest n :=
  ((((H.set1 x.a).set2 x.b).set3 x.c).set4 x.d).set5 x.e
theorem ch_set (W : World) (b o : Nat) (v : Value) : Ch (· = b) W (W.setCell ⟨b, o, none⟩ v) := Ch.setCell (T := (· = b)) W (a := ⟨b, o, none⟩) rfl v
theorem ch_setH (W : World) (b : Nat) (x : W5) : Ch (· = b) W (Go.Proofs.YtheihlalgekojaaGreatDoor.setH W b x) :=
  ((((ch_set _ _ _ _).trans (ch_set _ _ _ _)).trans (ch_set _ _ _ _)).trans (ch_set _ _ _ _)).trans (ch_set _ _ _ _)
theorem HashAt.ch {T : Nat → Prop} (H : HashAt b W bg h rest n) (hc : Ch T W W') (hb : ¬ T b) : HashAt b W' bg h rest n := by
  have cell : ∀ {o v}, W.cell? ⟨b, o, none⟩ = some v → W'.cell? ⟨b, o, none⟩ = some v := fun {o v} hh => (hc.cell (p := ⟨b, o, none⟩) (show b < W.heap.size from cell_lt H.c0) hb).trans hh
  exact ⟨cell H.c0, cell H.c1, cell H.c2, cell H.c3, cell H.c4, cell H.c5, cell H.c6, cell H.c7, fun o => (hc.frozen (p := ⟨b, o, none⟩) (show b < _ from cell_lt H.c0) hb).trans (H.fz o)⟩
end
theorem after_later {W0 : World} {x y : W5} {s : List UInt8} (hc : comp5 x s = y) (hs : s.length = 64) (hx : x.ok) (v : Later (Gr W0)) :
    Calls Tryz.prog 49 #[.agg #[.int .u32 x.a, .int .u32 x.b, .int .u32 x.c, .int .u32 x.d, .int .u32 x.e], .string ⟨s.toArray⟩] v.w fun e w' => e = .returned (.agg #[.int .u32 y.a, .int .u32 y.b, .int .u32 y.c, .int .u32 y.d, .int .u32 y.e]) ∧ ∃ z : Later (Gr W0), w' = z.w :=
  Calls.later ((after_any x s hs hx v.w).mono fun _ _ ⟨h1, h2⟩ => ⟨by rw [hc] at h1; exact h1, v.ok.trans h2⟩)

def lenB : Value → Nat | .string s => s.size | _ => 0
set_option maxHeartbeats 4000000 in
set_option maxRecDepth 100000 in
/-- The loop of Write, over a sum that has begun. -/
theorem write_any (b : Nat) (bg : Bool) (h : W5) (rest s : List UInt8) (n : Nat) (W : World) (H : HashAt b W bg h rest n) (hok : h.ok) (hl : rest.length + s.length ≤ 1000000) (hn : n + s.length ≤ 1000000) :
    Calls Tryz.prog 35 #[.pointer (some ⟨b, 0, none⟩), .string ⟨s.toArray⟩] W fun e W' => e = .returned (.tuple #[]) ∧
      HashAt b W' true (absorb (if bg then h else first5) (rest ++ s)).1 (absorb (if bg then h else first5) (rest ++ s)).2 (n + s.length) ∧ Ch (· = b) W W' := by
  obtain ⟨⟨yh, yr⟩, hy⟩ : ∃ y, absorb (if bg then h else first5) (rest ++ s) = y := ⟨_, rfl⟩
  rw [hy]
  obtain ⟨m, hm⟩ : ∃ m, n + s.length = m := ⟨_, rfl⟩
  rw [hm]
  have hmI : (n : Int) + s.length = m := by omega
  have hnI : (m : Int) ≤ 1000000 := by omega
  obtain ⟨u, hu⟩ : ∃ u, rest ++ s = u := ⟨_, rfl⟩
  have hcat : (⟨rest.toArray⟩ : ByteArray) ++ ⟨s.toArray⟩ = ⟨u.toArray⟩ := by rw [← hu]; exact cat_mk rest s
  have hul : u.length ≤ 1000000 := by rw [← hu, List.length_append]; omega
  have hz : ¬ 9223372036854775807 < rest.length + s.length := by omega
  rw [hu] at hy
  have H' := Lib.hid H
  have hok' := Lib.hid hok
  have hy' := Lib.hid hy
  have hul' := Lib.hid hul
  clear hu hy hl hn hm H hok hul
  have hbl := cell_lt H'.out.c0
  have q0 := H'.out.c0
  have q7 := H'.out.c7
  have q6 := H'.out.c6
  have f7 := H'.out.fz 7
  cases bg with
  | true =>
    go_enter Tryz.func35, Tryz.ntmps35
    go_wp2
    clear q0 q7 q6 f7 hcat
    go_loopw [1] (fun a wx => ∃ (ux : List UInt8) (hx : W5) (rx : List UInt8), a = .string ⟨ux.toArray⟩ ∧ ux.length ≤ 1000000 ∧ hx.ok ∧ absorb hx ux = (yh, yr) ∧ HashAt b wx true hx rx m ∧ Ch (· = b) W wx) (fun a _ => lenB a)
    case atStart => exact ⟨u, h, rest, rfl, hul'.out, hok'.out, hy'.out, H'.out.set7 m, ch_set _ _ _ _⟩
    case round =>
      obtain ⟨ux, hx, rx, rfl, hul, hok, hab, H, hC⟩ := hrel
      have H2 := Lib.hid H
      have hok2 := Lib.hid hok
      have hC2 := Lib.hid hC
      have hab2 := Lib.hid hab
      clear H hok hC hab
      have hbl2 := cell_lt H2.out.c0
      by_cases h64 : 64 ≤ ux.length
      · have h64I : (64 : Int) ≤ ux.length := by omega
        have hx1 : (⟨ux.toArray⟩ : ByteArray).extract 0 64 = ⟨(ux.take 64).toArray⟩ := by rw [extract_mk]; simp
        have hx2 : (⟨ux.toArray⟩ : ByteArray).extract 64 ux.length = ⟨(ux.drop 64).toArray⟩ := by rw [extract_mk]; simp
        obtain ⟨z, hz2⟩ : ∃ z, comp5 hx (ux.take 64) = z := ⟨_, rfl⟩
        have hab3 := Lib.hid (show absorb z (ux.drop 64) = (yh, yr) by rw [← hz2, ← absorb_long h64]; exact hab2.out)
        have hzok := Lib.hid (show z.ok by rw [← hz2]; exact plus_ok _ _)
        have htk := Lib.hid (show (ux.take 64).length = 64 by rw [List.length_take]; omega)
        have hdl := Lib.hid (show (ux.drop 64).length ≤ 1000000 by rw [List.length_drop]; omega)
        have hdl2 := Lib.hid (show (ux.drop 64).length < ux.length by rw [List.length_drop]; omega)
        obtain ⟨ua, hua⟩ : ∃ l, ux.take 64 = l := ⟨_, rfl⟩
        obtain ⟨ub, hub⟩ : ∃ l, ux.drop 64 = l := ⟨_, rfl⟩
        rw [hua] at hx1 hz2 htk
        rw [hub] at hx2 hab3 hdl hdl2
        have hz' := Lib.hid hz2
        clear hua hub hz2
        have e1 := H2.out.c1
        have e2 := H2.out.c2
        have e3 := H2.out.c3
        have e4 := H2.out.c4
        have e5 := H2.out.c5
        have t1 : ∀ v : Later (Gr wr), v.w.cell? ⟨b, 1, none⟩ = some (.int .u32 hx.a) := fun v => v.ok.cell e1
        have t2 : ∀ v : Later (Gr wr), v.w.cell? ⟨b, 2, none⟩ = some (.int .u32 hx.b) := fun v => v.ok.cell e2
        have t3 : ∀ v : Later (Gr wr), v.w.cell? ⟨b, 3, none⟩ = some (.int .u32 hx.c) := fun v => v.ok.cell e3
        have t4 : ∀ v : Later (Gr wr), v.w.cell? ⟨b, 4, none⟩ = some (.int .u32 hx.d) := fun v => v.ok.cell e4
        have t5 : ∀ v : Later (Gr wr), v.w.cell? ⟨b, 5, none⟩ = some (.int .u32 hx.e) := fun v => v.ok.cell e5
        haveI : Nonempty (Later (Gr wr)) := ⟨⟨wr, Gr.refl wr⟩⟩
        go_upto_region 7 with (fail)
        refine wp_region_later_tail (C := Gr wr) 10 (by kernel_rfl) (by kernel_rfl) (Gr.drew' _) ?_
        simp only [List.take_succ_cons, List.take_zero, List.drop_succ_cons, List.drop_zero]
        repeat (go_big_quiet_step (with_reducible exact after_later hz'.out htk.out hok2.out _))
        refine wpQuiet_nil ?_
        intro w9 hg9
        have H9 := Lib.hid (H2.out.gr hg9)
        have hC9 := Lib.hid (hC2.out.trans (hg9.to_ch (· = b)))
        clear hg9 t1 t2 t3 t4 t5 e1 e2 e3 e4 e5
        have e1 := H9.out.c1
        have e2 := H9.out.c2
        have e3 := H9.out.c3
        have e4 := H9.out.c4
        have e5 := H9.out.c5
        have f1 := H9.out.fz 1
        have f2 := H9.out.fz 2
        have f3 := H9.out.fz 3
        have f4 := H9.out.fz 4
        have f5 := H9.out.fz 5
        go_wp2
        go_roundw
        case rel => exact ⟨ub, z, rx, rfl, hdl.out, hzok.out, hab3.out, H9.out.setH z, hC9.out.trans (ch_setH w9 b z)⟩
        case measure => (show (⟨ub.toArray⟩ : ByteArray).size < (⟨ux.toArray⟩ : ByteArray).size); rw [size_mk, size_mk]; exact hdl2.out
      · have h64I : ¬ (64 : Int) ≤ ux.length := by omega
        have hend := Lib.hid (show hx = yh ∧ ux = yr by have := hab2.out; rw [absorb_short (by omega)] at this; injection this with h1 h2; exact ⟨h1, h2⟩)
        have e6 := H2.out.c6
        have f6 := H2.out.fz 6
        go_wp2
        go_end0
        refine ⟨rfl, ?_, hC2.out.trans (ch_set _ _ _ _)⟩
        rw [← hend.out.1, ← hend.out.2]
        exact H2.out.set6 ux
  | false =>
    obtain ⟨x, hx⟩ : ∃ x : W5, first5 = x := ⟨_, rfl⟩
    have hfirst := Lib.hid first_any
    unfold w5V at hfirst
    rw [hx] at hfirst
    have hxok := Lib.hid (show x.ok from hx ▸ first_ok)
    have hy2 := Lib.hid (show absorb x u = (yh, yr) by rw [← hx]; exact hy'.out)
    clear q0 q7 q6 f7 hx hy'
    have q0 := H'.out.c0
    go_enter Tryz.func35, Tryz.ntmps35
    go_wp2_with fail
    refine (hfirst.out _).mono ?_
    rintro e w1 ⟨rfl, hg⟩
    have H1 := Lib.hid (H'.out.gr hg)
    have hC1 := Lib.hid (hg.to_ch (· = b))
    have hbl1 := cell_lt H1.out.c0
    clear hg q0
    have q0 := H1.out.c0
    have q1 := H1.out.c1
    have q2 := H1.out.c2
    have q3 := H1.out.c3
    have q4 := H1.out.c4
    have q5 := H1.out.c5
    have q6 := H1.out.c6
    have q7 := H1.out.c7
    have f0 := H1.out.fz 0
    have f1 := H1.out.fz 1
    have f2 := H1.out.fz 2
    have f3 := H1.out.fz 3
    have f4 := H1.out.fz 4
    have f5 := H1.out.fz 5
    have f7 := H1.out.fz 7
    go_wp2
    clear q0 q1 q2 q3 q4 q5 q6 q7 f0 f1 f2 f3 f4 f5 f7 hcat
    go_loopw [1] (fun a wx => ∃ (ux : List UInt8) (hx : W5) (rx : List UInt8), a = .string ⟨ux.toArray⟩ ∧ ux.length ≤ 1000000 ∧ hx.ok ∧ absorb hx ux = (yh, yr) ∧ HashAt b wx true hx rx m ∧ Ch (· = b) W wx) (fun a _ => lenB a)
    case atStart => exact ⟨u, x, rest, rfl, hul'.out, hxok.out, hy2.out, ((H1.out.set0 true).setH x).set7 m, ((hC1.out.trans (ch_set _ _ _ _)).trans (ch_setH _ _ x)).trans (ch_set _ _ _ _)⟩
    case round =>
      obtain ⟨ux, hx, rx, rfl, hul, hok, hab, H, hC⟩ := hrel
      have H2 := Lib.hid H
      have hok2 := Lib.hid hok
      have hC2 := Lib.hid hC
      have hab2 := Lib.hid hab
      clear H hok hC hab
      have hbl2 := cell_lt H2.out.c0
      by_cases h64 : 64 ≤ ux.length
      · have h64I : (64 : Int) ≤ ux.length := by omega
        have hx1 : (⟨ux.toArray⟩ : ByteArray).extract 0 64 = ⟨(ux.take 64).toArray⟩ := by rw [extract_mk]; simp
        have hx2 : (⟨ux.toArray⟩ : ByteArray).extract 64 ux.length = ⟨(ux.drop 64).toArray⟩ := by rw [extract_mk]; simp
        obtain ⟨z, hz2⟩ : ∃ z, comp5 hx (ux.take 64) = z := ⟨_, rfl⟩
        have hab3 := Lib.hid (show absorb z (ux.drop 64) = (yh, yr) by rw [← hz2, ← absorb_long h64]; exact hab2.out)
        have hzok := Lib.hid (show z.ok by rw [← hz2]; exact plus_ok _ _)
        have htk := Lib.hid (show (ux.take 64).length = 64 by rw [List.length_take]; omega)
        have hdl := Lib.hid (show (ux.drop 64).length ≤ 1000000 by rw [List.length_drop]; omega)
        have hdl2 := Lib.hid (show (ux.drop 64).length < ux.length by rw [List.length_drop]; omega)
        obtain ⟨ua, hua⟩ : ∃ l, ux.take 64 = l := ⟨_, rfl⟩
        obtain ⟨ub, hub⟩ : ∃ l, ux.drop 64 = l := ⟨_, rfl⟩
        rw [hua] at hx1 hz2 htk
        rw [hub] at hx2 hab3 hdl hdl2
        have hz' := Lib.hid hz2
        clear hua hub hz2
        have e1 := H2.out.c1
        have e2 := H2.out.c2
        have e3 := H2.out.c3
        have e4 := H2.out.c4
        have e5 := H2.out.c5
        have t1 : ∀ v : Later (Gr wr), v.w.cell? ⟨b, 1, none⟩ = some (.int .u32 hx.a) := fun v => v.ok.cell e1
        have t2 : ∀ v : Later (Gr wr), v.w.cell? ⟨b, 2, none⟩ = some (.int .u32 hx.b) := fun v => v.ok.cell e2
        have t3 : ∀ v : Later (Gr wr), v.w.cell? ⟨b, 3, none⟩ = some (.int .u32 hx.c) := fun v => v.ok.cell e3
        have t4 : ∀ v : Later (Gr wr), v.w.cell? ⟨b, 4, none⟩ = some (.int .u32 hx.d) := fun v => v.ok.cell e4
        have t5 : ∀ v : Later (Gr wr), v.w.cell? ⟨b, 5, none⟩ = some (.int .u32 hx.e) := fun v => v.ok.cell e5
        haveI : Nonempty (Later (Gr wr)) := ⟨⟨wr, Gr.refl wr⟩⟩
        go_upto_region 7 with (fail)
        refine wp_region_later_tail (C := Gr wr) 10 (by kernel_rfl) (by kernel_rfl) (Gr.drew' _) ?_
        simp only [List.take_succ_cons, List.take_zero, List.drop_succ_cons, List.drop_zero]
        repeat (go_big_quiet_step (with_reducible exact after_later hz'.out htk.out hok2.out _))
        refine wpQuiet_nil ?_
        intro w9 hg9
        have H9 := Lib.hid (H2.out.gr hg9)
        have hC9 := Lib.hid (hC2.out.trans (hg9.to_ch (· = b)))
        clear hg9 t1 t2 t3 t4 t5 e1 e2 e3 e4 e5
        have e1 := H9.out.c1
        have e2 := H9.out.c2
        have e3 := H9.out.c3
        have e4 := H9.out.c4
        have e5 := H9.out.c5
        have f1 := H9.out.fz 1
        have f2 := H9.out.fz 2
        have f3 := H9.out.fz 3
        have f4 := H9.out.fz 4
        have f5 := H9.out.fz 5
        go_wp2
        go_roundw
        case rel => exact ⟨ub, z, rx, rfl, hdl.out, hzok.out, hab3.out, H9.out.setH z, hC9.out.trans (ch_setH w9 b z)⟩
        case measure => (show (⟨ub.toArray⟩ : ByteArray).size < (⟨ux.toArray⟩ : ByteArray).size); rw [size_mk, size_mk]; exact hdl2.out
      · have h64I : ¬ (64 : Int) ≤ ux.length := by omega
        have hend := Lib.hid (show hx = yh ∧ ux = yr by have := hab2.out; rw [absorb_short (by omega)] at this; injection this with h1 h2; exact ⟨h1, h2⟩)
        have e6 := H2.out.c6
        have f6 := H2.out.fz 6
        go_wp2
        go_end0
        refine ⟨rfl, ?_, hC2.out.trans (ch_set _ _ _ _)⟩
        rw [← hend.out.1, ← hend.out.2]
        exact H2.out.set6 ux
end Go.Proofs.YtheihlalgekojaaGreatDoor
