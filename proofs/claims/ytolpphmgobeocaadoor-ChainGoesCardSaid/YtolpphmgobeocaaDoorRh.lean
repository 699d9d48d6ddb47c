/-
  The walk over ChainGoes.
-/
import Derived.Test.YtolpphmgobeocaaDoorRg
namespace Go.Proofs.YtolpphmgobeocaaDoor
open Go.RowKit Go.Shelf
attribute [local go_sem] Oper.semAt_some

theorem goesB_none : ∀ (l : List Stp) (r : Rq), (goesB l r).2.2 = none → (goesB l r).1 = l.length
  | [], _, _ => rfl
  | s :: l, r, h => by
    unfold goesB at h ⊢
    cases hr : refuses s r with
    | some x => rw [hr] at h; cases h
    | none => rw [hr] at h; simpa using goesB_none l (turns s r) h
theorem goesB_some : ∀ (l : List Stp) (r : Rq) (y : Rp), (goesB l r).2.2 = some y → (goesB l r).1 < l.length
  | [], _, _, h => by cases h
  | s :: l, r, y, h => by
    unfold goesB at h ⊢
    cases hr : refuses s r with
    | some x => simp
    | none => rw [hr] at h; simpa using goesB_some l (turns s r) y h
theorem goesB_same : ∀ (l : List Stp) (r : Rq), (goesB l r).2.1 = { r with p := (goesB l r).2.1.p }
  | [], _ => rfl
  | s :: l, r => by
    unfold goesB
    cases hr : refuses s r with
    | some x => rfl
    | none =>
      have := goesB_same l (turns s r)
      dsimp only
      rw [this]
      unfold turns; split <;> rfl
theorem GotAt.gr {B nb : Nat} {W W' : World} {r : Rq} (h : GotAt B nb W r) (hg : Gr W W') : GotAt B nb W' r :=
  let ⟨g, cap, s, h1, h2, h3, h4⟩ := h
  ⟨g, cap, s, h1, hg.cell h2, h3.gr hg, ownsRow_gr h4 hg⟩
theorem rright_later {W : World} (s : Stp) (b : Bool) (h : rightB s = b) (hn : s.name.length ≤ 1000) (hv : s.value.length ≤ 1000) (x : Later (Gr W)) :
    Calls Tryd.prog 13 #[.agg #[.int .i64 s.kind, .string ⟨s.name.toArray⟩, .string ⟨s.value.toArray⟩, .int .i64 s.n]] x.w fun e w'' => e = .returned (.bool b) ∧ ∃ y : Later (Gr W), w'' = y.w :=
  Calls.later ((rright_is s b h x.w hn hv).mono fun _ _ ⟨he, hw⟩ => ⟨he, x.ok.trans hw⟩)
theorem right_later {W : World} (hG : G W) (s : Stp) (b : Bool) (h : rightB s = b) (hn : s.name.length ≤ 1000) (hv : s.value.length ≤ 1000) (x : Later (Gr W)) :
    Calls Tryd.prog 12 #[.agg #[.int .i64 s.kind, .string ⟨s.name.toArray⟩, .string ⟨s.value.toArray⟩, .int .i64 s.n]] x.w fun e w'' => e = .returned (.bool b) ∧ ∃ y : Later (Gr W), w'' = y.w :=
  Calls.later ((h ▸ right_any s x.w (hG.gr x.ok) hn hv).mono fun _ _ ⟨he, hw⟩ => ⟨he, x.ok.trans hw⟩)

set_option maxHeartbeats 8000000 in
set_option maxRecDepth 100000 in
theorem cgoes_any (lv sv tv : Value) (ss : List Stp) (r : Rq) (x0 : Rp) (w : World) (hG : G w) (hx : StepsAt w lv ss) (hf : FieldsAt w sv r.fs) (ht : FieldsAt w tv x0.fs) (hls : ss.length ≤ 9223372036854775807) (hlf : r.fs.length ≤ 9223372036854775807) (hlp : r.p.length ≤ 9223372036854775807) (hlb : r.b.length ≤ 9223372036854775807) (hlx : x0.fs.length ≤ 9223372036854775807) :
    Calls Tryd.prog 3 #[lv, r.V sv, x0.V tv] w fun e w' => e = .returned (.bool true) ∧ Gr w w' := by
  have hgr := Lib.hid (fun W (h : Gr w W) => great_any lv sv ss r W (hx.gr h) (hf.gr h) hls hlf hlp hlb)
  have hx' := Lib.hid hx
  have hf' := Lib.hid hf
  have ht' := Lib.hid ht
  obtain ⟨p, cap, rfl, hc⟩ := hx
  obtain ⟨q, cap2, rfl, -⟩ := hf
  obtain ⟨u, cap3, rfl, -⟩ := ht
  have hc' := Lib.hid hc
  have hG' := Lib.hid hG
  clear hG hc
  have hnf := fun (w : World) f x c => run_eql_func_nil (P := Tryd.prog) w Tryd.underlying40 f x c
  have hnn := fun (w : World) => run_eql_nil_nil (P := Tryd.prog) w Tryd.underlying40
  show Calls Tryd.prog 3 #[.slice p ss.length cap, .agg #[.string ⟨r.m.toArray⟩, .string ⟨r.p.toArray⟩, .string ⟨r.q.toArray⟩, .int .i64 r.v, .slice q r.fs.length cap2, .string ⟨r.b.toArray⟩, .bool r.c], .agg #[.int .i64 x0.code, .slice u x0.fs.length cap3, .string ⟨x0.b.toArray⟩]] w _
  go_enter Tryd.func3, Tryd.ntmps3
  go_wp2_with fail
  refine (hgr.out _ ((Gr.alloc _ _).alloc1 _)).mono ?_
  rintro e w1 ⟨b, rfl, hsm, hb1⟩
  have q0 : w1.cell? ⟨w.heap.size, 0, none⟩ = some (.string ⟨r.m.toArray⟩) := hb1.cell (by simp [go_sem])
  have q1 : w1.cell? ⟨w.heap.size, 1, none⟩ = some (.string ⟨r.p.toArray⟩) := hb1.cell (by simp [go_sem])
  have q2 : w1.cell? ⟨w.heap.size, 2, none⟩ = some (.string ⟨r.q.toArray⟩) := hb1.cell (by simp [go_sem])
  have q3 : w1.cell? ⟨w.heap.size, 3, none⟩ = some (.int .i64 r.v) := hb1.cell (by simp [go_sem])
  have q4 : w1.cell? ⟨w.heap.size, 4, none⟩ = some (.slice q r.fs.length cap2) := hb1.cell (by simp [go_sem])
  have q5 : w1.cell? ⟨w.heap.size, 5, none⟩ = some (.string ⟨r.b.toArray⟩) := hb1.cell (by simp [go_sem])
  have q6 : w1.cell? ⟨w.heap.size, 6, none⟩ = some (.bool r.c) := hb1.cell (by simp [go_sem])
  have x0c : w1.cell? ⟨w.heap.size + 1, 0, none⟩ = some (.int .i64 x0.code) := hb1.cell (by simp [go_sem])
  have x1c : w1.cell? ⟨w.heap.size + 1, 1, none⟩ = some (.slice u x0.fs.length cap3) := hb1.cell (by simp [go_sem])
  have x2c : w1.cell? ⟨w.heap.size + 1, 2, none⟩ = some (.string ⟨x0.b.toArray⟩) := hb1.cell (by simp [go_sem])
  have hg1 := Lib.hid (((Gr.alloc _ _).alloc1 _).trans hb1)
  clear hb1 hgr
  by_cases hbig : b = true ∨ 10 < x0.fs.length
  · rcases hbig with rfl | h8
    · go_wp2_with fail
      refine (wakes_any _ (hG'.out.gr hg1.out)).mono ?_
      rintro e w3 ⟨rfl, hb3⟩
      have hg3 := Lib.hid (hg1.out.trans hb3)
      clear hb3
      go_wp2
      go_ret
      exact ⟨rfl, hg3.out⟩
    · cases b
      all_goals go_wp2_with fail
      all_goals
        refine (wakes_any _ (hG'.out.gr hg1.out)).mono ?_
        rintro e w3 ⟨rfl, hb3⟩
        have hg3 := Lib.hid (hg1.out.trans hb3)
        clear hb3
        go_wp2
        go_ret
        exact ⟨rfl, hg3.out⟩
  · have hb : b = false := by cases b; rfl; exact absurd (.inl rfl) hbig
    subst hb
    have h10 : x0.fs.length ≤ 10 := by omega
    have hsm' := Lib.hid (hsm rfl)
    have hl12 := hsm'.out.l
    have hlI : (ss.length : Int) ≤ 12 := by omega
    have hgiv := Lib.hid (fun W (h : Gr w W) => given_any p cap ss W (hx'.out.gr h) (by omega) (fun s hs => by have := hsm'.out.s s hs; omega))
    clear hsm hbig
    go_wp2_with fail
    refine (hgiv.out _ hg1.out).mono ?_
    rintro e w2 ⟨gv, rfl, hgs, hb2⟩
    have hgs' := Lib.hid hgs
    obtain ⟨gp, gcap, rfl, hgc⟩ := hgs
    have hgc' := Lib.hid hgc
    replace q0 := hb2.cell q0
    replace q1 := hb2.cell q1
    replace q2 := hb2.cell q2
    replace q3 := hb2.cell q3
    replace q4 := hb2.cell q4
    replace q5 := hb2.cell q5
    replace q6 := hb2.cell q6
    replace x0c := hb2.cell x0c
    replace x1c := hb2.cell x1c
    replace x2c := hb2.cell x2c
    have hg2 := Lib.hid (hg1.out.trans hb2)
    obtain ⟨rb, hrb⟩ : ∃ b, ss.all rightB = b := ⟨_, rfl⟩
    rw [hrb]
    have hrb' := Lib.hid hrb
    clear hb2 hgc hgiv hrb
    go_wp2
    go_loopw [9] (fun i wr => ∃ k : Nat, k ≤ ss.length ∧ i = .int .i64 k ∧ Gr w2 wr) (fun i _ => ss.length - (intOf i).toNat)
    case atStart => exact ⟨0, Nat.zero_le _, rfl, Gr.refl _⟩
    case round =>
      obtain ⟨k, hk, rfl, hgr⟩ := hrel
      have hg := hg2.out.trans hgr
      by_cases hlt : k < ss.length
      · obtain ⟨b1, o1, rfl, c0, c1, c2, c3⟩ := hc'.out k hlt
        obtain ⟨b2, o2, rfl, d0, d1, d2, d3⟩ := hgc'.out k hlt
        obtain ⟨s, hs⟩ : ∃ s, ss[k] = s := ⟨_, rfl⟩
        have hsl := hsm'.out.s s (hs ▸ List.getElem_mem hlt)
        rw [hs] at c0 c1 c2 c3 d0 d1 d2 d3
        have t0 : ∀ x : Later (Gr wr), x.w.cell? ⟨b1, o1 + k * 4, none⟩ = some (.int .i64 s.kind) := fun x => (hg.trans x.ok).cell c0
        have t1 : ∀ x : Later (Gr wr), x.w.cell? ⟨b1, o1 + k * 4 + 1, none⟩ = some (.string ⟨s.name.toArray⟩) := fun x => (hg.trans x.ok).cell c1
        have t2 : ∀ x : Later (Gr wr), x.w.cell? ⟨b1, o1 + k * 4 + 2, none⟩ = some (.string ⟨s.value.toArray⟩) := fun x => (hg.trans x.ok).cell c2
        have t3 : ∀ x : Later (Gr wr), x.w.cell? ⟨b1, o1 + k * 4 + 3, none⟩ = some (.int .i64 s.n) := fun x => (hg.trans x.ok).cell c3
        have s0 : ∀ x : Later (Gr wr), x.w.cell? ⟨b2, o2 + k * 4, none⟩ = some (.int .i64 s.kind) := fun x => (hgr.trans x.ok).cell d0
        have s1 : ∀ x : Later (Gr wr), x.w.cell? ⟨b2, o2 + k * 4 + 1, none⟩ = some (.string ⟨s.name.toArray⟩) := fun x => (hgr.trans x.ok).cell d1
        have s2 : ∀ x : Later (Gr wr), x.w.cell? ⟨b2, o2 + k * 4 + 2, none⟩ = some (.string ⟨s.value.toArray⟩) := fun x => (hgr.trans x.ok).cell d2
        have s3 : ∀ x : Later (Gr wr), x.w.cell? ⟨b2, o2 + k * 4 + 3, none⟩ = some (.int .i64 s.n) := fun x => (hgr.trans x.ok).cell d3
        obtain ⟨c, hcr⟩ : ∃ c, rightB s = c := ⟨_, rfl⟩
        have hca := Lib.hid (fun x => right_later (W := wr) (hG'.out.gr hg) s c hcr (by omega) (by omega) x)
        have hcb := Lib.hid (fun x => rright_later (W := wr) s c hcr (by omega) (by omega) x)
        have hgr' := Lib.hid hgr
        haveI : Nonempty (Later (Gr wr)) := ⟨⟨_, Gr.refl _⟩⟩
        have hkI : (k : Int) < ss.length := by omega
        clear c0 c1 c2 c3 d0 d1 d2 d3 hg hgr hcr hs q0 q1 q2 q3 q4 q5 q6 x0c x1c x2c
        go_wp2
        refine wp_region_later (C := Gr wr) (by kernel_rfl) (by kernel_rfl) (Gr.drew' _) ?_
        repeat (go_big_quiet_step (first | with_reducible exact hca.out _ | with_reducible exact hcb.out _))
        refine wpQuiet_nil ?_
        intro w3 hg3
        have hg3' := Lib.hid (hgr'.out.trans hg3)
        clear hg3 t0 t1 t2 t3 s0 s1 s2 s3
        go_wp2
        go_roundw
        case rel => exact ⟨k + 1, by omega, by go_num, hg3'.out⟩
        case measure => simp [intOf]; omega
      · obtain rfl : k = ss.length := by omega
        have hgw := Lib.hid (hg2.out.trans hgr)
        have hgr' := Lib.hid hgr
        have hGr := Lib.hid (fun W (h : Gr wr W) => hG'.out.gr (hgw.out.trans h))
        replace q0 := hgr.cell q0
        replace q1 := hgr.cell q1
        replace q2 := hgr.cell q2
        replace q3 := hgr.cell q3
        replace q4 := hgr.cell q4
        replace q5 := hgr.cell q5
        replace q6 := hgr.cell q6
        replace x0c := hgr.cell x0c
        replace x1c := hgr.cell x1c
        replace x2c := hgr.cell x2c
        have hsl := Lib.hid (show ∀ s ∈ ss, s.name.length ≤ 1000 ∧ s.value.length ≤ 1000 from fun s hs => by have := hsm'.out.s s hs; omega)
        have hgsr := Lib.hid (hgs'.out.gr hgr)
        clear hgr hgc' hc' hgs'
        by_cases h8 : ss.length ≤ 8
        · have h8I : (ss.length : Int) ≤ 8 := by omega
          cases rb
          · have hwrap := Lib.hid (fun (g : Nat) (lb : Array Value) W (hW : Gr w W) => wrap_wrong p cap ss g lb W (hG'.out.gr hW) (hx'.out.gr hW) h8 hrb'.out hsl.out)
            clear q0 q1 q2 q3 q4 q5 q6 x0c x1c x2c
            go_wp2_with fail
            refine (hwrap.out 15 #[.pointer (some ⟨wr.heap.size, 0, none⟩), .pointer (some ⟨w.heap.size + 1, 0, none⟩)] _ (hgw.out.alloc1 (.cells #[.slice none 0 0] 38))).mono ?_
            rintro e w4 ⟨rfl, hb4⟩
            have hg4 := Lib.hid ((hgw.out.alloc1 _).trans hb4)
            clear hb4
            go_wp2_with fail
            refine (wakes_any _ (hG'.out.gr hg4.out)).mono ?_
            rintro e w5 ⟨rfl, hb5⟩
            have hg5 := Lib.hid (hg4.out.trans hb5)
            clear hb5
            go_wp2
            go_ret
            exact ⟨rfl, hg5.out⟩
          · have hrok := Lib.hid (show RqOk r from ⟨Nat.le_trans hsm'.out.f (by decide), fun f hf => ⟨Nat.le_trans (hsm'.out.g f hf).1 (by decide), Nat.le_trans (hsm'.out.g f hf).2 (by decide)⟩⟩)
            have hxB : w.heap.size + 1 < wr.heap.size := cell_lt (a := ⟨w.heap.size + 1, 0, none⟩) x0c
            obtain ⟨A, hA⟩ : ∃ A, wr.alloc (.cells #[.slice none 0 0] 38) = A := ⟨_, rfl⟩
            have hzA : A.heap.size = wr.heap.size + 1 := by rw [← hA]; simp
            have hgA : Gr wr A := by rw [← hA]; exact Gr.alloc _ _
            have n0 : A.cell? ⟨wr.heap.size, 0, none⟩ = some (.slice none 0 0) := by rw [← hA]; simp [go_sem]
            have nf : A.frozen? ⟨wr.heap.size, 0, none⟩ = false := by rw [← hA]; simp [go_sem]
            have hside : Side (fun k => k = wr.heap.size) (fun k => k < A.heap.size) A := ⟨fun k hk => hk, fun k hk => by (try dsimp only at hk); omega, hGr.out A hgA, fun k hk => (hGr.out A hgA).old k hk⟩
            have htx : ∀ W B, Agree (fun k => k < A.heap.size) A W → (∀ k, k < A.heap.size → k < B) → ∀ W', Ch (fun k => k = wr.heap.size ∨ B ≤ k) W W' → FieldsAt W' (.slice u x0.fs.length cap3) x0.fs := by
              intro W B hAg hB W' hch
              obtain ⟨p', c', hv, hcx⟩ := ht'.out.gr hgw.out
              refine ⟨p', c', hv, fun i hi => ?_⟩
              obtain ⟨b, off, hp, h1, h2⟩ := hcx i hi
              have key : ∀ {o v}, wr.cell? ⟨b, o, none⟩ = some v → W'.cell? ⟨b, o, none⟩ = some v := fun {o v} h => by
                have hb : b < wr.heap.size := cell_lt h
                have hb2 : b < A.heap.size := by omega
                have hbW := hAg.1
                have hBB := hB b hb2
                refine (hch.cell (p := ⟨b, o, none⟩) (Nat.lt_of_lt_of_le hb2 hbW) (fun e => ?_)).trans (hAg.cell (p := ⟨b, o, none⟩) hb2 (hgA.cell h))
                (try dsimp only at e); omega
              exact ⟨b, off, hp, key h1, key h2⟩
            have hH := goes_b wr.heap.size (w.heap.size + 1) x0 (.slice u x0.fs.length cap3) (fun k => k < A.heap.size) A n0 nf ⟨by omega, by omega⟩ (by omega) (hgA.cell x0c) (hgA.cell x1c) (hgA.cell x2c) (by omega) htx
            have hwrap := Lib.hid (wrap_ok p cap ss 15 #[.pointer (some ⟨wr.heap.size, 0, none⟩), .pointer (some ⟨w.heap.size + 1, 0, none⟩)] (fun k => k = wr.heap.size) (fun k => k < A.heap.size) x0.fs.length (RGoes wr.heap.size x0) A (hx'.out.gr (hgw.out.trans hgA)) h8 hrb'.out hsl.out
              (enters_of Tryd.func15 (by kernel_rfl) rfl) hside hH (closed_goes _ _) (by omega))
            have hgA' := Lib.hid hgA
            clear hside htx hH nf hgA
            go_wp2_with fail
            refine hwrap.out.mono ?_
            rintro e w4 ⟨f, g, lb, F2, rfl, hnow, hb4⟩
            obtain rfl := hnow.f
            have eg := hnow.enters
            replace n0 := hb4.cell n0
            have hgA4 := hgA'.out.trans hb4
            replace q0 := hgA4.cell q0
            replace q1 := hgA4.cell q1
            replace q2 := hgA4.cell q2
            replace q3 := hgA4.cell q3
            replace q4 := hgA4.cell q4
            replace q5 := hgA4.cell q5
            replace q6 := hgA4.cell q6
            have hcall := Lib.hid (hnow.call (Gr.refl _) r _ (hf'.out.gr (hgw.out.trans hgA4)) hrok.out)
            have hgA4' := Lib.hid hgA4
            have hzn := Lib.hid (show wr.heap.size < w4.heap.size from cell_lt (a := ⟨wr.heap.size, 0, none⟩) n0)
            clear hnow hb4 hgA4 hA hzA hwrap
            go_wp2_with fail
            refine hcall.out.mono ?_
            rintro e w5 ⟨x, t, rfl, hown, hxl, hR, hch⟩
            have hspec := through_spec ss r x hR
            have hg5 : Gr wr w5 := hgA4'.out.ch hch (fun k hk => by have := hzn.out; (try dsimp only at hk); omega)
            have hb5 : ∀ {k o v}, k < wr.heap.size → w4.cell? ⟨k, o, none⟩ = some v → w5.cell? ⟨k, o, none⟩ = some v := fun {k o v} hk h => (hch.cell (p := ⟨k, o, none⟩) (cell_lt h) (fun e => by have := hzn.out; (try dsimp only at e); omega)).trans h
            replace q0 := hb5 (by omega) q0
            replace q1 := hb5 (by omega) q1
            replace q2 := hb5 (by omega) q2
            replace q3 := hb5 (by omega) q3
            replace q4 := hb5 (by omega) q4
            replace q5 := hb5 (by omega) q5
            replace q6 := hb5 (by omega) q6
            replace x0c := hg5.cell x0c
            replace x1c := hg5.cell x1c
            replace x2c := hg5.cell x2c
            obtain ⟨p2, cap5, rfl⟩ := hown.slice
            have hownA := Lib.hid hown.at
            have hg5' := Lib.hid hg5
            have hcase : (∃ y, (goesB ss r).2.2 = some y ∧ x = y.more (backB (ss.take (goesB ss r).1) r.fs) ∧ w5.cell? ⟨wr.heap.size, 0, none⟩ = some (.slice none 0 0)) ∨
                ((goesB ss r).2.2 = none ∧ x = x0.more (backB ss r.fs) ∧ GotAt w4.heap.size wr.heap.size w5 (goesB ss r).2.1) := by
              rcases hspec with ⟨y, h1, h2, h3⟩ | ⟨h1, y, ⟨rfl, h2⟩, h3⟩
              · exact .inl ⟨y, h1, h2, (Below.cell h3 (p := ⟨wr.heap.size, 0, none⟩) hzn.out).trans n0⟩
              · exact .inr ⟨h1, h3, h2⟩
            clear hspec hR hch hb5 hown hcall n0 hg5
            rcases hcase with ⟨y, hy1, rfl, n0⟩ | ⟨hy1, rfl, hgot⟩
            · obtain ⟨n, hn⟩ : ∃ n, (goesB ss r).1 = n := ⟨_, rfl⟩
              obtain ⟨p1, hp1⟩ : ∃ p1, (goesB ss r).2.1.p = p1 := ⟨_, rfl⟩
              have hnl := goesB_some ss r y hy1
              rw [hn] at hnl hownA hxl ⊢
              obtain ⟨z, hz⟩ : ∃ z, y.more (backB (ss.take n) r.fs) = z := ⟨_, rfl⟩
              rw [hz] at hownA hxl ⊢
              have hy0 : y.fs = [] := by rcases goesB_with ss r y hy1 with rfl | rfl | rfl <;> rfl
              have hgoes := Lib.hid (show ∀ W, Gr wr W → Calls Tryd.prog 16 #[.slice gp ss.length gcap, .agg #[.string ⟨r.m.toArray⟩, .string ⟨r.p.toArray⟩, .string ⟨r.q.toArray⟩, .int .i64 r.v, .slice q r.fs.length cap2, .string ⟨r.b.toArray⟩, .bool r.c]] W (fun e w' => e = .returned (.tuple #[.int .i64 n, .agg #[.string ⟨r.m.toArray⟩, .string ⟨p1.toArray⟩, .string ⟨r.q.toArray⟩, .int .i64 r.v, .slice q r.fs.length cap2, .string ⟨r.b.toArray⟩, .bool r.c], .agg #[.int .i64 y.code, .slice none 0 0, .string ⟨y.b.toArray⟩]]) ∧ Gr W w') from fun W h =>
                (goes_any gp gcap q cap2 ss r W (hgsr.out.gr h) (hf'.out.gr (hgw.out.trans h)) (by omega) (fun s hs => (hsl.out s hs).1) hrok.out.1 (fun f hf => Nat.le_trans (hsm'.out.g f hf).1 (by decide)) (Nat.le_trans hsm'.out.p (by decide))).mono fun e w' ⟨he, hg⟩ => ⟨by rw [he, hn, hy1, goesB_same, hp1]; rfl, hg⟩)
              have hback := Lib.hid (show ∀ W, Gr wr W → Calls Tryd.prog 18 #[.slice gp ss.length gcap, .int .i64 n, .agg #[.string ⟨r.m.toArray⟩, .string ⟨r.p.toArray⟩, .string ⟨r.q.toArray⟩, .int .i64 r.v, .slice q r.fs.length cap2, .string ⟨r.b.toArray⟩, .bool r.c], .agg #[.int .i64 y.code, .slice none 0 0, .string ⟨y.b.toArray⟩]] W (AddsPost z W) from fun W h => by
                rw [← hz]
                exact back13_any gp gcap ss n r (.slice q r.fs.length cap2) y (.slice none 0 0) W (hgsr.out.gr h) (hf'.out.gr (hgw.out.trans h)) (by rw [hy0]; exact fieldsAt_nil _) (Nat.le_of_lt hnl) (by omega) (by rw [hy0]; exact Nat.zero_le _) (Nat.le_trans hsm'.out.f (by decide)) (fun f hf => Nat.le_trans (hsm'.out.g f hf).1 (by decide)) (fun s hs => (hsl.out s hs).1) (fun s hs => right_kind (List.all_eq_true.1 hrb'.out s hs)))
              have hzl : z.fs.length ≤ 100 := by
                have := hxl; omega
              have hnI : (n : Int) < ss.length := by omega
              have hownA' := hownA
              clear hy1 hn hp1 hz hy0 hxl hownA hnl x0c x1c x2c hnf hnn eg
              unfold Rp.V
              have hz5 : w.heap.size < w5.heap.size := cell_lt (a := ⟨w.heap.size, 0, none⟩) q0
              have hz6 : wr.heap.size < w5.heap.size := cell_lt (a := ⟨wr.heap.size, 0, none⟩) n0
              go_wp2_with fail
              refine (hgoes.out _ (hg5'.out.alloc1 _)).mono ?_
              rintro e w6 ⟨rfl, hb6⟩
              go_wp2
              have hb56 : Gr (w5.alloc (.cells #[.int .i64 z.code, .slice p2 z.fs.length cap5, .string ⟨z.b.toArray⟩] 27)) w6 := hb6
              have o0 : w6.cell? ⟨w5.heap.size, 0, none⟩ = some (.int .i64 z.code) := hb56.cell (by simp [go_sem])
              have o1 : w6.cell? ⟨w5.heap.size, 1, none⟩ = some (.slice p2 z.fs.length cap5) := hb56.cell (by simp [go_sem])
              have o2 : w6.cell? ⟨w5.heap.size, 2, none⟩ = some (.string ⟨z.b.toArray⟩) := hb56.cell (by simp [go_sem])
              have h56 : Gr w5 w6 := (Gr.alloc _ _).trans hb56
              replace q0 := h56.cell q0
              replace q1 := h56.cell q1
              replace q2 := h56.cell q2
              replace q3 := h56.cell q3
              replace q4 := h56.cell q4
              replace q5 := h56.cell q5
              replace q6 := h56.cell q6
              replace n0 := h56.cell n0
              have hg6 := Lib.hid (hg5'.out.trans h56)
              have hGo6 := Lib.hid (hownA'.out.gr h56)
              have hsame := Lib.hid (show ∀ t W, FieldsAt W (.slice p2 z.fs.length cap5) z.fs → FieldsAt W t z.fs → Calls Tryd.prog 17 #[.agg #[.int .i64 z.code, .slice p2 z.fs.length cap5, .string ⟨z.b.toArray⟩], z.V t] W (fun e w' => e = .returned (.bool true) ∧ Gr W w') from fun t W h1 h2 =>
                (same_any z z _ t W h1 h2 (by omega) (by omega)).mono fun e w' ⟨he, hg⟩ => ⟨by rw [he, sameB_refl], hg⟩)
              clear hb6 hb56 h56 hz5 hz6
              go_wp2
              obtain ⟨wB, hwB⟩ : ∃ wB, ((w6.alloc (.cells #[.string ⟨r.m.toArray⟩, .string ⟨p1.toArray⟩, .string ⟨r.q.toArray⟩, .int .i64 r.v, .slice q r.fs.length cap2, .string ⟨r.b.toArray⟩, .bool r.c] 25)).alloc (.cells #[.int .i64 y.code, .slice none 0 0, .string ⟨y.b.toArray⟩] 27)) = wB := ⟨_, rfl⟩
              rw [hwB]
              have h6B : Gr w6 wB := by rw [← hwB]; exact (Gr.alloc _ _).alloc1 _
              replace q0 := h6B.cell q0
              replace q1 := h6B.cell q1
              replace q2 := h6B.cell q2
              replace q3 := h6B.cell q3
              replace q4 := h6B.cell q4
              replace q5 := h6B.cell q5
              replace q6 := h6B.cell q6
              replace n0 := h6B.cell n0
              replace o0 := h6B.cell o0
              replace o1 := h6B.cell o1
              replace o2 := h6B.cell o2
              have f0 : wB.cell? ⟨w6.heap.size + 1, 0, none⟩ = some (.int .i64 y.code) := by rw [← hwB]; simp [go_sem]
              have f1 : wB.cell? ⟨w6.heap.size + 1, 1, none⟩ = some (.slice none 0 0) := by rw [← hwB]; simp [go_sem]
              have f2 : wB.cell? ⟨w6.heap.size + 1, 2, none⟩ = some (.string ⟨y.b.toArray⟩) := by rw [← hwB]; simp [go_sem]
              have hdw : Gr wr wB.drew := hg6.out.trans (h6B.trans (Gr.drew' _))
              have hGo : FieldsAt wB.drew (.slice p2 z.fs.length cap5) z.fs := hGo6.out.gr (h6B.trans (Gr.drew' _))
              clear hwB h6B
              go_region_held3 (fun w' => w'.cell? ⟨w.heap.size, 0, none⟩ = some (.string ⟨r.m.toArray⟩) ∧ w'.cell? ⟨w.heap.size, 1, none⟩ = some (.string ⟨r.p.toArray⟩) ∧ w'.cell? ⟨w.heap.size, 2, none⟩ = some (.string ⟨r.q.toArray⟩) ∧ w'.cell? ⟨w.heap.size, 3, none⟩ = some (.int .i64 r.v) ∧ w'.cell? ⟨w.heap.size, 4, none⟩ = some (.slice q r.fs.length cap2) ∧ w'.cell? ⟨w.heap.size, 5, none⟩ = some (.string ⟨r.b.toArray⟩) ∧ w'.cell? ⟨w.heap.size, 6, none⟩ = some (.bool r.c) ∧ w'.cell? ⟨wr.heap.size, 0, none⟩ = some (.slice none 0 0) ∧ w'.cell? ⟨w5.heap.size, 0, none⟩ = some (.int .i64 z.code) ∧ w'.cell? ⟨w5.heap.size, 1, none⟩ = some (.slice p2 z.fs.length cap5) ∧ w'.cell? ⟨w5.heap.size, 2, none⟩ = some (.string ⟨z.b.toArray⟩) ∧ w'.cell? ⟨w6.heap.size + 1, 0, none⟩ = some (.int .i64 y.code) ∧ w'.cell? ⟨w6.heap.size + 1, 1, none⟩ = some (.slice none 0 0) ∧ w'.cell? ⟨w6.heap.size + 1, 2, none⟩ = some (.string ⟨y.b.toArray⟩)) (go_keep)
                (first
                  | (go_at_call 18
                     refine (hback.out _ ?_).mono ?_
                     · assumption
                     rintro e wa ⟨t1, rfl, hown1, hgra⟩
                     have hf1 := hown1.at
                     have hgA : Gr wr wa := Gr.trans (by assumption) hgra
                     replace hGo := FieldsAt.gr hGo hgra
                     replace q0 := hgra.cell q0
                     replace q1 := hgra.cell q1
                     replace q2 := hgra.cell q2
                     replace q3 := hgra.cell q3
                     replace q4 := hgra.cell q4
                     replace q5 := hgra.cell q5
                     replace q6 := hgra.cell q6
                     replace n0 := hgra.cell n0
                     replace o0 := hgra.cell o0
                     replace o1 := hgra.cell o1
                     replace o2 := hgra.cell o2
                     replace f0 := hgra.cell f0
                     replace f1 := hgra.cell f1
                     replace f2 := hgra.cell f2
                     clear hown1 hgra)
                  | (go_at_call 17
                     refine (hsame.out _ _ ?_ ?_).mono ?_
                     · assumption
                     · assumption
                     rintro e wc ⟨rfl, hbc⟩
                     have hgC : Gr wr wc := Gr.trans (by assumption) hbc
                     replace q0 := hbc.cell q0
                     replace q1 := hbc.cell q1
                     replace q2 := hbc.cell q2
                     replace q3 := hbc.cell q3
                     replace q4 := hbc.cell q4
                     replace q5 := hbc.cell q5
                     replace q6 := hbc.cell q6
                     replace n0 := hbc.cell n0
                     replace o0 := hbc.cell o0
                     replace o1 := hbc.cell o1
                     replace o2 := hbc.cell o2
                     replace f0 := hbc.cell f0
                     replace f1 := hbc.cell f1
                     replace f2 := hbc.cell f2
                     clear hbc)
                  | (go_at_call 10
                     refine (wakes_any _ ?_).mono ?_
                     · exact hGr.out _ (by assumption)
                     rintro e wd ⟨rfl, hbd⟩
                     have hgD : Gr wr wd := Gr.trans (by assumption) hbd
                     replace q0 := hbd.cell q0
                     replace q1 := hbd.cell q1
                     replace q2 := hbd.cell q2
                     replace q3 := hbd.cell q3
                     replace q4 := hbd.cell q4
                     replace q5 := hbd.cell q5
                     replace q6 := hbd.cell q6
                     replace n0 := hbd.cell n0
                     replace o0 := hbd.cell o0
                     replace o1 := hbd.cell o1
                     replace o2 := hbd.cell o2
                     replace f0 := hbd.cell f0
                     replace f1 := hbd.cell f1
                     replace f2 := hbd.cell f2
                     clear hbd))
              all_goals go_wp2
              all_goals go_ret
              all_goals exact ⟨rfl, Gr.trans hgw.out (by assumption)⟩
            · obtain ⟨p1, hp1⟩ : ∃ p1, (goesB ss r).2.1.p = p1 := ⟨_, rfl⟩
              have hn1 := goesB_none ss r hy1
              have hr1 := goesB_same ss r
              rw [hp1] at hr1
              rw [hr1] at hgot
              obtain ⟨g9, cap8, s9, -, n0, ⟨r0, r1, r2, r3, r4, r5, r6⟩, hown9⟩ := hgot
              obtain ⟨p9, cap9, rfl⟩ := hown9.slice
              have hf9 := hown9.at
              dsimp only at r0 r1 r2 r3 r4 r5 r6 hf9
              obtain ⟨z, hz⟩ : ∃ z, x0.more (backB ss r.fs) = z := ⟨_, rfl⟩
              rw [hz] at hownA hxl ⊢
              have hgoes := Lib.hid (show ∀ W, Gr wr W → Calls Tryd.prog 16 #[.slice gp ss.length gcap, .agg #[.string ⟨r.m.toArray⟩, .string ⟨r.p.toArray⟩, .string ⟨r.q.toArray⟩, .int .i64 r.v, .slice q r.fs.length cap2, .string ⟨r.b.toArray⟩, .bool r.c]] W (fun e w' => e = .returned (.tuple #[.int .i64 ss.length, .agg #[.string ⟨r.m.toArray⟩, .string ⟨p1.toArray⟩, .string ⟨r.q.toArray⟩, .int .i64 r.v, .slice q r.fs.length cap2, .string ⟨r.b.toArray⟩, .bool r.c], .agg #[.int .i64 0, .slice none 0 0, .string ⟨#[]⟩]]) ∧ Gr W w') from fun W h =>
                (goes_any gp gcap q cap2 ss r W (hgsr.out.gr h) (hf'.out.gr (hgw.out.trans h)) (by omega) (fun s hs => (hsl.out s hs).1) hrok.out.1 (fun f hf => Nat.le_trans (hsm'.out.g f hf).1 (by decide)) (Nat.le_trans hsm'.out.p (by decide))).mono fun e w' ⟨he, hg⟩ => ⟨by rw [he, hn1, hy1, goesB_same, hp1]; rfl, hg⟩)
              have hback := Lib.hid (show ∀ W, Gr wr W → Calls Tryd.prog 18 #[.slice gp ss.length gcap, .int .i64 ss.length, .agg #[.string ⟨r.m.toArray⟩, .string ⟨r.p.toArray⟩, .string ⟨r.q.toArray⟩, .int .i64 r.v, .slice q r.fs.length cap2, .string ⟨r.b.toArray⟩, .bool r.c], .agg #[.int .i64 x0.code, .slice u x0.fs.length cap3, .string ⟨x0.b.toArray⟩]] W (AddsPost z W) from fun W h => by
                have hb := back13_any gp gcap ss ss.length r (.slice q r.fs.length cap2) x0 (.slice u x0.fs.length cap3) W (hgsr.out.gr h) (hf'.out.gr (hgw.out.trans h)) (ht'.out.gr (hgw.out.trans h)) (Nat.le_refl _) (by omega) (by omega) (Nat.le_trans hsm'.out.f (by decide)) (fun f hf => Nat.le_trans (hsm'.out.g f hf).1 (by decide)) (fun s hs => (hsl.out s hs).1) (fun s hs => right_kind (List.all_eq_true.1 hrb'.out s hs))
                rw [List.take_length, hz] at hb
                exact hb)
              have hzl : z.fs.length ≤ 100 := by
                have := hxl; omega
              have hfl := Lib.hid (show r.fs.length ≤ 9223372036854775807 from Nat.le_trans hsm'.out.f (by decide))
              have hsf := Lib.hid (show ∀ W, FieldsAt W (.slice p9 r.fs.length cap9) r.fs → FieldsAt W (.slice q r.fs.length cap2) r.fs → Calls Tryd.prog 19 #[.slice p9 r.fs.length cap9, .slice q r.fs.length cap2] W (fun e w' => e = .returned (.bool true) ∧ Gr W w') from fun W h1 h2 =>
                (samef_any _ _ r.fs r.fs W h1 h2 hfl.out hfl.out).mono fun e w' ⟨he, hg⟩ => ⟨by rw [he]; simp, hg⟩)
              clear hy1 hn1 hp1 hz hxl hr1 hnf hnn eg hown9
              unfold Rp.V
              have hz5 : w.heap.size < w5.heap.size := cell_lt (a := ⟨w.heap.size, 0, none⟩) q0
              have hz6 : wr.heap.size < w5.heap.size := cell_lt (a := ⟨wr.heap.size, 0, none⟩) n0
              go_wp2_with fail
              refine (hgoes.out _ (hg5'.out.alloc1 _)).mono ?_
              rintro e w6 ⟨rfl, hb6⟩
              have hb56 : Gr (w5.alloc (.cells #[.int .i64 z.code, .slice p2 z.fs.length cap5, .string ⟨z.b.toArray⟩] 27)) w6 := hb6
              have o0 : w6.cell? ⟨w5.heap.size, 0, none⟩ = some (.int .i64 z.code) := hb56.cell (by simp [go_sem])
              have o1 : w6.cell? ⟨w5.heap.size, 1, none⟩ = some (.slice p2 z.fs.length cap5) := hb56.cell (by simp [go_sem])
              have o2 : w6.cell? ⟨w5.heap.size, 2, none⟩ = some (.string ⟨z.b.toArray⟩) := hb56.cell (by simp [go_sem])
              have h56 : Gr w5 w6 := (Gr.alloc _ _).trans hb56
              replace q0 := h56.cell q0
              replace q1 := h56.cell q1
              replace q2 := h56.cell q2
              replace q3 := h56.cell q3
              replace q4 := h56.cell q4
              replace q5 := h56.cell q5
              replace q6 := h56.cell q6
              replace x0c := h56.cell x0c
              replace x1c := h56.cell x1c
              replace x2c := h56.cell x2c
              replace r0 := h56.cell r0
              replace r1 := h56.cell r1
              replace r2 := h56.cell r2
              replace r3 := h56.cell r3
              replace r4 := h56.cell r4
              replace r5 := h56.cell r5
              replace r6 := h56.cell r6
              replace n0 := h56.cell n0
              have hg6 := Lib.hid (hg5'.out.trans h56)
              have hGo6 := Lib.hid (hownA.out.gr h56)
              have hf96 := Lib.hid (FieldsAt.gr hf9 h56)
              have hsame := Lib.hid (show ∀ t W, FieldsAt W (.slice p2 z.fs.length cap5) z.fs → FieldsAt W t z.fs → Calls Tryd.prog 17 #[.agg #[.int .i64 z.code, .slice p2 z.fs.length cap5, .string ⟨z.b.toArray⟩], z.V t] W (fun e w' => e = .returned (.bool true) ∧ Gr W w') from fun t W h1 h2 =>
                (same_any z z _ t W h1 h2 (by omega) (by omega)).mono fun e w' ⟨he, hg⟩ => ⟨by rw [he, sameB_refl], hg⟩)
              clear hb6 hb56 h56 hz5 hz6 hf9
              go_wp2
              obtain ⟨wB, hwB⟩ : ∃ wB, ((w6.alloc (.cells #[.string ⟨r.m.toArray⟩, .string ⟨p1.toArray⟩, .string ⟨r.q.toArray⟩, .int .i64 r.v, .slice q r.fs.length cap2, .string ⟨r.b.toArray⟩, .bool r.c] 25)).alloc (.cells #[.int .i64 0, .slice none 0 0, .string ⟨#[]⟩] 27)) = wB := ⟨_, rfl⟩
              rw [hwB]
              have h6B : Gr w6 wB := by rw [← hwB]; exact (Gr.alloc _ _).alloc1 _
              replace q0 := h6B.cell q0
              replace q1 := h6B.cell q1
              replace q2 := h6B.cell q2
              replace q3 := h6B.cell q3
              replace q4 := h6B.cell q4
              replace q5 := h6B.cell q5
              replace q6 := h6B.cell q6
              replace x0c := h6B.cell x0c
              replace x1c := h6B.cell x1c
              replace x2c := h6B.cell x2c
              replace r0 := h6B.cell r0
              replace r1 := h6B.cell r1
              replace r2 := h6B.cell r2
              replace r3 := h6B.cell r3
              replace r4 := h6B.cell r4
              replace r5 := h6B.cell r5
              replace r6 := h6B.cell r6
              replace n0 := h6B.cell n0
              replace o0 := h6B.cell o0
              replace o1 := h6B.cell o1
              replace o2 := h6B.cell o2
              have i1 : wB.cell? ⟨w6.heap.size, 1, none⟩ = some (.string ⟨p1.toArray⟩) := by rw [← hwB]; simp [go_sem]
              have hdw : Gr wr wB.drew := hg6.out.trans (h6B.trans (Gr.drew' _))
              have hGo : FieldsAt wB.drew (.slice p2 z.fs.length cap5) z.fs := hGo6.out.gr (h6B.trans (Gr.drew' _))
              have hF9 : FieldsAt wB.drew (.slice p9 r.fs.length cap9) r.fs := hf96.out.gr (h6B.trans (Gr.drew' _))
              have hFr : FieldsAt wB.drew (.slice q r.fs.length cap2) r.fs := hf'.out.gr (hgw.out.trans hdw)
              clear hwB h6B hGo6 hf96
              simp only [List.append_eq, List.cons_append, List.nil_append]
              go_region_held3 (fun w' => w'.cell? ⟨w.heap.size, 0, none⟩ = some (.string ⟨r.m.toArray⟩) ∧ w'.cell? ⟨w.heap.size, 1, none⟩ = some (.string ⟨r.p.toArray⟩) ∧ w'.cell? ⟨w.heap.size, 2, none⟩ = some (.string ⟨r.q.toArray⟩) ∧ w'.cell? ⟨w.heap.size, 3, none⟩ = some (.int .i64 r.v) ∧ w'.cell? ⟨w.heap.size, 4, none⟩ = some (.slice q r.fs.length cap2) ∧ w'.cell? ⟨w.heap.size, 5, none⟩ = some (.string ⟨r.b.toArray⟩) ∧ w'.cell? ⟨w.heap.size, 6, none⟩ = some (.bool r.c) ∧ w'.cell? ⟨g9, 0, none⟩ = some (.string ⟨r.m.toArray⟩) ∧ w'.cell? ⟨g9, 1, none⟩ = some (.string ⟨p1.toArray⟩) ∧ w'.cell? ⟨g9, 2, none⟩ = some (.string ⟨r.q.toArray⟩) ∧ w'.cell? ⟨g9, 3, none⟩ = some (.int .i64 r.v) ∧ w'.cell? ⟨g9, 4, none⟩ = some (.slice p9 r.fs.length cap9) ∧ w'.cell? ⟨g9, 5, none⟩ = some (.string ⟨r.b.toArray⟩) ∧ w'.cell? ⟨g9, 6, none⟩ = some (.bool r.c) ∧ w'.cell? ⟨wr.heap.size, 0, none⟩ = some (.slice (some ⟨g9, 0, none⟩) 1 cap8) ∧ w'.cell? ⟨w6.heap.size, 1, none⟩ = some (.string ⟨p1.toArray⟩)) (go_keep)
                (first
                | (go_at_call 19
                   refine (hsf.out _ ?_ ?_).mono ?_
                   · assumption
                   · assumption
                   rintro e wc ⟨rfl, hbc⟩
                   have hgC : Gr wr wc := Gr.trans (by assumption) hbc
                   have hGo' := FieldsAt.gr hGo hbc
                   replace q0 := hbc.cell q0
                   replace q1 := hbc.cell q1
                   replace q2 := hbc.cell q2
                   replace q3 := hbc.cell q3
                   replace q4 := hbc.cell q4
                   replace q5 := hbc.cell q5
                   replace q6 := hbc.cell q6
                   replace x0c := hbc.cell x0c
                   replace x1c := hbc.cell x1c
                   replace x2c := hbc.cell x2c
                   replace r0 := hbc.cell r0
                   replace r1 := hbc.cell r1
                   replace r2 := hbc.cell r2
                   replace r3 := hbc.cell r3
                   replace r4 := hbc.cell r4
                   replace r5 := hbc.cell r5
                   replace r6 := hbc.cell r6
                   replace n0 := hbc.cell n0
                   replace i1 := hbc.cell i1
                   replace o0 := hbc.cell o0
                   replace o1 := hbc.cell o1
                   replace o2 := hbc.cell o2
                   clear hbc))
              all_goals go_wp2
              have hgC2 := Lib.hid hgC
              have hGo2 := Lib.hid hGo'
              clear r0 r1 r2 r3 r4 r5 r6 n0 i1 hdw hGo hF9 hFr hgC hGo' hsf
              have hdw : Gr wr wc.drew := hgC2.out.trans (Gr.drew' _)
              have hGo : FieldsAt wc.drew (.slice p2 z.fs.length cap5) z.fs := hGo2.out.gr (Gr.drew' _)
              go_region_held3 (fun w' => w'.cell? ⟨w.heap.size, 0, none⟩ = some (.string ⟨r.m.toArray⟩) ∧ w'.cell? ⟨w.heap.size, 1, none⟩ = some (.string ⟨r.p.toArray⟩) ∧ w'.cell? ⟨w.heap.size, 2, none⟩ = some (.string ⟨r.q.toArray⟩) ∧ w'.cell? ⟨w.heap.size, 3, none⟩ = some (.int .i64 r.v) ∧ w'.cell? ⟨w.heap.size, 4, none⟩ = some (.slice q r.fs.length cap2) ∧ w'.cell? ⟨w.heap.size, 5, none⟩ = some (.string ⟨r.b.toArray⟩) ∧ w'.cell? ⟨w.heap.size, 6, none⟩ = some (.bool r.c) ∧ w'.cell? ⟨w5.heap.size, 0, none⟩ = some (.int .i64 z.code) ∧ w'.cell? ⟨w5.heap.size, 1, none⟩ = some (.slice p2 z.fs.length cap5) ∧ w'.cell? ⟨w5.heap.size, 2, none⟩ = some (.string ⟨z.b.toArray⟩) ∧ w'.cell? ⟨w.heap.size + 1, 0, none⟩ = some (.int .i64 x0.code) ∧ w'.cell? ⟨w.heap.size + 1, 1, none⟩ = some (.slice u x0.fs.length cap3) ∧ w'.cell? ⟨w.heap.size + 1, 2, none⟩ = some (.string ⟨x0.b.toArray⟩)) (go_keep)
                (first
                  | (go_at_call 18
                     refine (hback.out _ ?_).mono ?_
                     · assumption
                     rintro e wa ⟨t1, rfl, hown1, hgra⟩
                     have hf1 := hown1.at
                     have hgA : Gr wr wa := Gr.trans (by assumption) hgra
                     replace hGo := FieldsAt.gr hGo hgra
                     replace q0 := hgra.cell q0
                     replace q1 := hgra.cell q1
                     replace q2 := hgra.cell q2
                     replace q3 := hgra.cell q3
                     replace q4 := hgra.cell q4
                     replace q5 := hgra.cell q5
                     replace q6 := hgra.cell q6
                     replace o0 := hgra.cell o0
                     replace o1 := hgra.cell o1
                     replace o2 := hgra.cell o2
                     replace x0c := hgra.cell x0c
                     replace x1c := hgra.cell x1c
                     replace x2c := hgra.cell x2c
                     clear hown1 hgra)
                  | (go_at_call 17
                     refine (hsame.out _ _ ?_ ?_).mono ?_
                     · assumption
                     · assumption
                     rintro e wd ⟨rfl, hbc⟩
                     have hgD : Gr wr wd := Gr.trans (by assumption) hbc
                     replace q0 := hbc.cell q0
                     replace q1 := hbc.cell q1
                     replace q2 := hbc.cell q2
                     replace q3 := hbc.cell q3
                     replace q4 := hbc.cell q4
                     replace q5 := hbc.cell q5
                     replace q6 := hbc.cell q6
                     replace o0 := hbc.cell o0
                     replace o1 := hbc.cell o1
                     replace o2 := hbc.cell o2
                     replace x0c := hbc.cell x0c
                     replace x1c := hbc.cell x1c
                     replace x2c := hbc.cell x2c
                     clear hbc)
                  | (go_at_call 10
                     refine (wakes_any _ ?_).mono ?_
                     · exact hGr.out _ (by assumption)
                     rintro e we ⟨rfl, hbd⟩
                     have hgE : Gr wr we := Gr.trans (by assumption) hbd
                     replace q0 := hbd.cell q0
                     replace q1 := hbd.cell q1
                     replace q2 := hbd.cell q2
                     replace q3 := hbd.cell q3
                     replace q4 := hbd.cell q4
                     replace q5 := hbd.cell q5
                     replace q6 := hbd.cell q6
                     replace o0 := hbd.cell o0
                     replace o1 := hbd.cell o1
                     replace o2 := hbd.cell o2
                     replace x0c := hbd.cell x0c
                     replace x1c := hbd.cell x1c
                     replace x2c := hbd.cell x2c
                     clear hbd))
              all_goals go_wp2
              all_goals go_ret
              all_goals exact ⟨rfl, Gr.trans hgw.out (by assumption)⟩
        · have hwrap := Lib.hid (fun (g : Nat) (lb : Array Value) W => wrap_full p ss.length cap g lb W (by omega) hls)
          have h8I : ¬ (ss.length : Int) ≤ 8 := by omega
          clear q0 q1 q2 q3 q4 q5 q6 x0c x1c x2c
          go_wp2_with fail
          refine (hwrap.out 15 #[.pointer (some ⟨wr.heap.size, 0, none⟩), .pointer (some ⟨w.heap.size + 1, 0, none⟩)] _).mono ?_
          rintro e w4 ⟨rfl, hb4⟩
          have hg4 := Lib.hid ((hgw.out.alloc1 _).trans hb4)
          clear hb4
          go_wp2_with fail
          refine (wakes_any _ (hG'.out.gr hg4.out)).mono ?_
          rintro e w5 ⟨rfl, hb5⟩
          have hg5 := Lib.hid (hg4.out.trans hb5)
          clear hb5
          go_wp2
          go_ret
          exact ⟨rfl, hg5.out⟩
end Go.Proofs.YtolpphmgobeocaaDoor
