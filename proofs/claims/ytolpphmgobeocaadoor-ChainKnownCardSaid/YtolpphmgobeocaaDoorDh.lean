/-
  The walk over ChainKnown. (Printed by mk_dh.py.)
-/
import Derived.Test.YtolpphmgobeocaaDoorDg
namespace Go.Proofs.YtolpphmgobeocaaDoor
open Go.RowKit Go.Shelf
attribute [local go_sem] Oper.semAt_some

def badV : List Value := [.int .i64 0, .string ⟨#[]⟩, .string ⟨#[]⟩, .int .i64 0, .int .i64 6, .string ⟨#[]⟩, .string ⟨#[]⟩, .int .i64 0, .int .i64 1, .string ⟨#[]⟩, .string ⟨#[]⟩, .int .i64 0, .int .i64 1, .string ⟨#[97, 32, 98]⟩, .string ⟨#[49]⟩, .int .i64 0, .int .i64 1, .string ⟨#[65]⟩, .string ⟨#[32, 49]⟩, .int .i64 0, .int .i64 1, .string ⟨#[99, 111, 110, 110, 101, 99, 116, 105, 111, 110]⟩, .string ⟨#[49]⟩, .int .i64 0, .int .i64 1, .string ⟨#[65]⟩, .string ⟨#[49]⟩, .int .i64 1, .int .i64 2, .string ⟨#[]⟩, .string ⟨#[]⟩, .int .i64 0, .int .i64 3, .string ⟨#[]⟩, .string ⟨#[]⟩, .int .i64 (-1), .int .i64 3, .string ⟨#[65]⟩, .string ⟨#[]⟩, .int .i64 0, .int .i64 4, .string ⟨#[]⟩, .string ⟨#[47]⟩, .int .i64 0, .int .i64 4, .string ⟨#[]⟩, .string ⟨#[97, 112, 105]⟩, .int .i64 0, .int .i64 4, .string ⟨#[]⟩, .string ⟨#[47, 97, 112, 105, 47]⟩, .int .i64 0, .int .i64 5, .string ⟨#[65]⟩, .string ⟨#[]⟩, .int .i64 0, .int .i64 5, .string ⟨#[65]⟩, .string ⟨#[85, 112, 103, 114, 97, 100, 101]⟩, .int .i64 0, .int .i64 1, .string ⟨#[65, 76, 76, 79, 87]⟩, .string ⟨#[71, 69, 84]⟩, .int .i64 0, .int .i64 1, .string ⟨#[115, 101, 99, 45, 119, 101, 98, 115, 111, 99, 107, 101, 116, 45, 97, 99, 99, 101, 112, 116]⟩, .string ⟨#[]⟩, .int .i64 0, .int .i64 5, .string ⟨#[65]⟩, .string ⟨#[83, 101, 99, 45, 87, 101, 98, 83, 111, 99, 107, 101, 116, 45, 86, 101, 114, 115, 105, 111, 110]⟩, .int .i64 0, .int .i64 1, .string ⟨#[67, 111, 110, 116, 101, 110, 116, 45, 76, 101, 110, 103, 116, 104]⟩, .string ⟨#[49]⟩, .int .i64 0, .int .i64 1, .string ⟨#[116, 114, 97, 110, 115, 102, 101, 114, 45, 101, 110, 99, 111, 100, 105, 110, 103]⟩, .string ⟨#[]⟩, .int .i64 0]
theorem badCells (W : World) (i : Nat) (hi : i < badK.length) : (W.alloc (.cells badV.toArray 35)).cell? ⟨W.heap.size, i * 4, none⟩ = some (.int .i64 badK[i].kind) ∧ (W.alloc (.cells badV.toArray 35)).cell? ⟨W.heap.size, i * 4 + 1, none⟩ = some (.string ⟨badK[i].name.toArray⟩) ∧ (W.alloc (.cells badV.toArray 35)).cell? ⟨W.heap.size, i * 4 + 2, none⟩ = some (.string ⟨badK[i].value.toArray⟩) ∧ (W.alloc (.cells badV.toArray 35)).cell? ⟨W.heap.size, i * 4 + 3, none⟩ = some (.int .i64 badK[i].n) :=
  match i, hi with
  | 0, _ => ⟨cell_new7 W badV 35 0 _ rfl, cell_new7 W badV 35 1 _ rfl, cell_new7 W badV 35 2 _ rfl, cell_new7 W badV 35 3 _ rfl⟩
  | 1, _ => ⟨cell_new7 W badV 35 4 _ rfl, cell_new7 W badV 35 5 _ rfl, cell_new7 W badV 35 6 _ rfl, cell_new7 W badV 35 7 _ rfl⟩
  | 2, _ => ⟨cell_new7 W badV 35 8 _ rfl, cell_new7 W badV 35 9 _ rfl, cell_new7 W badV 35 10 _ rfl, cell_new7 W badV 35 11 _ rfl⟩
  | 3, _ => ⟨cell_new7 W badV 35 12 _ rfl, cell_new7 W badV 35 13 _ rfl, cell_new7 W badV 35 14 _ rfl, cell_new7 W badV 35 15 _ rfl⟩
  | 4, _ => ⟨cell_new7 W badV 35 16 _ rfl, cell_new7 W badV 35 17 _ rfl, cell_new7 W badV 35 18 _ rfl, cell_new7 W badV 35 19 _ rfl⟩
  | 5, _ => ⟨cell_new7 W badV 35 20 _ rfl, cell_new7 W badV 35 21 _ rfl, cell_new7 W badV 35 22 _ rfl, cell_new7 W badV 35 23 _ rfl⟩
  | 6, _ => ⟨cell_new7 W badV 35 24 _ rfl, cell_new7 W badV 35 25 _ rfl, cell_new7 W badV 35 26 _ rfl, cell_new7 W badV 35 27 _ rfl⟩
  | 7, _ => ⟨cell_new7 W badV 35 28 _ rfl, cell_new7 W badV 35 29 _ rfl, cell_new7 W badV 35 30 _ rfl, cell_new7 W badV 35 31 _ rfl⟩
  | 8, _ => ⟨cell_new7 W badV 35 32 _ rfl, cell_new7 W badV 35 33 _ rfl, cell_new7 W badV 35 34 _ rfl, cell_new7 W badV 35 35 _ rfl⟩
  | 9, _ => ⟨cell_new7 W badV 35 36 _ rfl, cell_new7 W badV 35 37 _ rfl, cell_new7 W badV 35 38 _ rfl, cell_new7 W badV 35 39 _ rfl⟩
  | 10, _ => ⟨cell_new7 W badV 35 40 _ rfl, cell_new7 W badV 35 41 _ rfl, cell_new7 W badV 35 42 _ rfl, cell_new7 W badV 35 43 _ rfl⟩
  | 11, _ => ⟨cell_new7 W badV 35 44 _ rfl, cell_new7 W badV 35 45 _ rfl, cell_new7 W badV 35 46 _ rfl, cell_new7 W badV 35 47 _ rfl⟩
  | 12, _ => ⟨cell_new7 W badV 35 48 _ rfl, cell_new7 W badV 35 49 _ rfl, cell_new7 W badV 35 50 _ rfl, cell_new7 W badV 35 51 _ rfl⟩
  | 13, _ => ⟨cell_new7 W badV 35 52 _ rfl, cell_new7 W badV 35 53 _ rfl, cell_new7 W badV 35 54 _ rfl, cell_new7 W badV 35 55 _ rfl⟩
  | 14, _ => ⟨cell_new7 W badV 35 56 _ rfl, cell_new7 W badV 35 57 _ rfl, cell_new7 W badV 35 58 _ rfl, cell_new7 W badV 35 59 _ rfl⟩
  | 15, _ => ⟨cell_new7 W badV 35 60 _ rfl, cell_new7 W badV 35 61 _ rfl, cell_new7 W badV 35 62 _ rfl, cell_new7 W badV 35 63 _ rfl⟩
  | 16, _ => ⟨cell_new7 W badV 35 64 _ rfl, cell_new7 W badV 35 65 _ rfl, cell_new7 W badV 35 66 _ rfl, cell_new7 W badV 35 67 _ rfl⟩
  | 17, _ => ⟨cell_new7 W badV 35 68 _ rfl, cell_new7 W badV 35 69 _ rfl, cell_new7 W badV 35 70 _ rfl, cell_new7 W badV 35 71 _ rfl⟩
  | 18, _ => ⟨cell_new7 W badV 35 72 _ rfl, cell_new7 W badV 35 73 _ rfl, cell_new7 W badV 35 74 _ rfl, cell_new7 W badV 35 75 _ rfl⟩
  | 19, _ => ⟨cell_new7 W badV 35 76 _ rfl, cell_new7 W badV 35 77 _ rfl, cell_new7 W badV 35 78 _ rfl, cell_new7 W badV 35 79 _ rfl⟩
  | i + 20, h => absurd h (by show ¬ i + 20 < 20; omega)
theorem aCells (w : World) : (allocs w (tabK w.heap.size)).cell? ⟨w.heap.size, 0, none⟩ = some (.int .i64 1) ∧ (allocs w (tabK w.heap.size)).cell? ⟨w.heap.size, 1, none⟩ = some (.string ⟨#[65]⟩) ∧ (allocs w (tabK w.heap.size)).cell? ⟨w.heap.size, 2, none⟩ = some (.string ⟨#[49]⟩) ∧ (allocs w (tabK w.heap.size)).cell? ⟨w.heap.size, 3, none⟩ = some (.int .i64 0) :=
  ⟨allocs_cell (tabK w.heap.size) w 0 0 _ _ rfl rfl, allocs_cell (tabK w.heap.size) w 0 1 _ _ rfl rfl, allocs_cell (tabK w.heap.size) w 0 2 _ _ rfl rfl, allocs_cell (tabK w.heap.size) w 0 3 _ _ rfl rfl⟩
set_option maxHeartbeats 64000000 in
set_option maxRecDepth 100000 in
theorem cknown_any (w : World) (hG : G w) : Calls Tryd.prog 8 #[] w fun e w' => e = .returned (.bool true) ∧ Gr w w' := by
  have hG' := Lib.hid hG
  clear hG
  have hnf := fun (w : World) f x c => run_eql_func_nil (P := Tryd.prog) w Tryd.underlying40 f x c
  go_enter Tryd.func8, Tryd.ntmps8
  go_upto_region 8 with (fail)
  have hrows := Lib.hid (rowsAt w)
  have g1 := Lib.hid (allocs_gr (tabK w.heap.size) w)
  obtain ⟨a0, a1, a2, a3⟩ := aCells w
  show Code.wp _ _ _ _ (allocs w (tabK w.heap.size))
  generalize allocs w (tabK w.heap.size) = w1 at hrows g1 a0 a1 a2 a3 ⊢
  obtain ⟨N, hN⟩ : ∃ x, w.heap.size + 28 = x := ⟨_, rfl⟩
  rw [hN] at hrows ⊢
  clear hN
  have hnn := fun (w : World) => run_eql_nil_nil (P := Tryd.prog) w Tryd.underlying40
  have htellE := enters_of Tryd.func20 (by kernel_rfl) rfl
  go_wp2
  go_loopw [8] (fun i W => ∃ k : Nat, k ≤ 12 ∧ i = .int .i64 k ∧ Gr w1 W) (fun i _ => 12 - (intOf i).toNat)
  case atStart => exact ⟨0, by omega, rfl, Gr.refl _⟩
  case round =>
    obtain ⟨k, hk, rfl, hW⟩ := hrel
    have gr1 := Lib.hid (g1.out.trans hW)
    have hW' := Lib.hid hW
    by_cases hlt : k < 12
    · obtain ⟨sp, sc, fv, gv, h0, hs, hf, hg, h1, h2, h3, h4, h5, h6, h7, h8, h9, h10⟩ := (hrows.out k hlt).gr hW
      have hrow := List.all_eq_true.1 rowsB _ (List.getElem_mem (show k < rowsK.length from hlt))
      generalize rowsK[k]'hlt = x at hs hf hg h0 h1 h2 h3 h4 h5 h6 h7 h8 h9 h10 hrow
      obtain ⟨ss, ⟨m, pa, qu, v, rfs, rb, rc⟩, ⟨co, wfs, wb⟩⟩ := x
      simp only [rowB, Bool.and_eq_true, decide_eq_true_eq, List.all_eq_true] at hrow
      obtain ⟨r1, r2, r3, r4, r5, r6, r7⟩ := hrow
      dsimp only at hs hf hg h0 h1 h2 h3 h4 h5 h6 h7 h8 h9 h10 r1 r2 r3 r4 r5 r6 r7
      have hf' := Lib.hid hf
      have hg' := Lib.hid hg
      obtain ⟨pf, capf, rfl, _⟩ := hf
      obtain ⟨pg, capg, rfl, _⟩ := hg
      have hwrap := Lib.hid (wrap_ok sp sc ss 20 #[] (fun _ => False) Gb 0 RTell wr hs r1 (List.all_eq_true.2 r2) r3 htellE (hG'.out.gr gr1.out).side (tell_b _ _) (closed_tell _) (by decide))
      have rok := Lib.hid (show RqOk ⟨m, pa, qu, v, rfs, rb, rc⟩ from ⟨Nat.le_trans r4 (by decide), fun f hf => ⟨Nat.le_trans (r5 f hf).1 (by decide), Nat.le_trans (r5 f hf).2 (by decide)⟩⟩)
      have hsame := Lib.hid r7
      have hssl := r1
      have hwl := r6
      have hkI : (0 : Int) ≤ k := by omega
      have hkA : (k : Int) < 12 := by omega
      clear hs r2 r3 r4 r5 r7 hW r1 r6
      go_wp2_with fail
      refine hwrap.out.mono ?_
      rintro e w2 ⟨f, g, lb, F, rfl, hnow, hb1⟩
      obtain rfl := hnow.f
      have eg := hnow.enters
      have hnow' := Lib.hid hnow
      have g2 := Lib.hid (hW'.out.trans hb1)
      replace h1 := hb1.cell h1
      replace h2 := hb1.cell h2
      replace h3 := hb1.cell h3
      replace h4 := hb1.cell h4
      replace h5 := hb1.cell h5
      replace h6 := hb1.cell h6
      replace h7 := hb1.cell h7
      replace h8 := hb1.cell h8
      replace h9 := hb1.cell h9
      replace h10 := hb1.cell h10
      have hcall := Lib.hid (fun W (h : Gr w2 W) => hnow'.out.call h ⟨m, pa, qu, v, rfs, rb, rc⟩ _ (hf'.out.gr (hb1.trans h)) rok.out)
      have hgw := Lib.hid (fun W (h : Gr w2 W) => hg'.out.gr (hb1.trans h))
      have hdw : Gr w2 w2.drew := Gr.drew' w2
      clear hnow hb1 hwrap h0 a0 a1 a2 a3
      go_wp2
      go_region_held3 (fun W => W.cell? ⟨N, k * 11 + 1, none⟩ = some (.string ⟨m.toArray⟩) ∧ W.cell? ⟨N, k * 11 + 2, none⟩ = some (.string ⟨pa.toArray⟩) ∧ W.cell? ⟨N, k * 11 + 3, none⟩ = some (.string ⟨qu.toArray⟩) ∧ W.cell? ⟨N, k * 11 + 4, none⟩ = some (.int .i64 v) ∧ W.cell? ⟨N, k * 11 + 5, none⟩ = some (.slice pf rfs.length capf) ∧ W.cell? ⟨N, k * 11 + 6, none⟩ = some (.string ⟨rb.toArray⟩) ∧ W.cell? ⟨N, k * 11 + 7, none⟩ = some (.bool rc) ∧ W.cell? ⟨N, k * 11 + 8, none⟩ = some (.int .i64 co) ∧ W.cell? ⟨N, k * 11 + 9, none⟩ = some (.slice pg wfs.length capg) ∧ W.cell? ⟨N, k * 11 + 10, none⟩ = some (.string ⟨wb.toArray⟩)) (go_keep)
          (first
            | (refine (hcall.out _ ?_).mono ?_
               · assumption
               rintro e wa ⟨x1, t1, rfl, hown1, hl1, hR1, hch1⟩
               obtain rfl := tell_out [] ss ⟨m, pa, qu, v, rfs, rb, rc⟩ x1 hR1
               have hf1 := hown1.at
               rw [List.nil_append] at hf1 hl1
               have hZZ := gr_of_ch hch1
               have hgA : Gr w2 wa := Gr.trans (by assumption) hZZ
               replace h1 := hZZ.cell h1
               replace h2 := hZZ.cell h2
               replace h3 := hZZ.cell h3
               replace h4 := hZZ.cell h4
               replace h5 := hZZ.cell h5
               replace h6 := hZZ.cell h6
               replace h7 := hZZ.cell h7
               replace h8 := hZZ.cell h8
               replace h9 := hZZ.cell h9
               replace h10 := hZZ.cell h10
               clear hown1 hR1 hch1 hZZ)
            | (go_at_call 17
               refine (same_any (outB ss ⟨m, pa, qu, v, rfs, rb, rc⟩) ⟨co, wfs, wb⟩ _ _ _ ?_ ?_ (Nat.le_trans hl1 (by omega)) (Nat.le_trans hwl (by decide))).mono ?_
               · assumption
               · exact hgw.out _ (by assumption)
               rintro e wc ⟨rfl, hZZ⟩
               rw [hsame.out]
               have hgC : Gr w2 wc := Gr.trans (by assumption) hZZ
               replace h1 := hZZ.cell h1
               replace h2 := hZZ.cell h2
               replace h3 := hZZ.cell h3
               replace h4 := hZZ.cell h4
               replace h5 := hZZ.cell h5
               replace h6 := hZZ.cell h6
               replace h7 := hZZ.cell h7
               replace h8 := hZZ.cell h8
               replace h9 := hZZ.cell h9
               replace h10 := hZZ.cell h10
               clear hZZ))
      all_goals go_wp2
      all_goals go_roundw
      all_goals first
        | exact ⟨k + 1, hlt, by go_num, g2.out.trans (by assumption)⟩
        | (simp [intOf]; omega)
    · have hkA : ¬ (k : Int) < 12 := by omega
      replace a0 := hW.cell a0
      replace a1 := hW.cell a1
      replace a2 := hW.cell a2
      replace a3 := hW.cell a3
      clear hW hrows
      go_upto_region 15 with (fail)
      have hbad := Lib.hid (badCells wr)
      have gB := Gr.alloc wr (.cells badV.toArray 35)
      have g2 := Lib.hid (gr1.out.trans gB)
      replace a0 := gB.cell a0
      replace a1 := gB.cell a1
      replace a2 := gB.cell a2
      replace a3 := gB.cell a3
      show Code.wp _ _ _ _ (wr.alloc (.cells badV.toArray 35))
      obtain ⟨M, hM⟩ : ∃ x, wr.heap.size = x := ⟨_, rfl⟩
      rw [hM] at hbad ⊢
      generalize wr.alloc (.cells badV.toArray 35) = w3 at hbad gB g2 a0 a1 a2 a3 ⊢
      clear hM gB gr1 hW'
      go_wp2
      obtain ⟨wq, rfl⟩ : ∃ x, x = wr := ⟨_, rfl⟩
      go_loopw [12] (fun i W => ∃ k : Nat, k ≤ 20 ∧ i = .int .i64 k ∧ Gr w3 W) (fun i _ => 20 - (intOf i).toNat)
      case atStart => exact ⟨0, by omega, rfl, Gr.refl _⟩
      case round =>
        obtain ⟨j, hj, rfl, hX⟩ := hrel
        have g3 := Lib.hid (g2.out.trans hX)
        have hX' := Lib.hid hX
        by_cases hjt : j < 20
        · obtain ⟨c0, c1, c2, c3⟩ := hbad.out j hjt
          replace c0 := hX.cell c0
          replace c1 := hX.cell c1
          replace c2 := hX.cell c2
          replace c3 := hX.cell c3
          have hb := List.all_eq_true.1 badB _ (List.getElem_mem (show j < badK.length from hjt))
          generalize badK[j]'hjt = s at c0 c1 c2 c3 hb
          simp only [Bool.and_eq_true, decide_eq_true_eq, Bool.not_eq_true'] at hb
          obtain ⟨b1, b2, b3⟩ := hb
          obtain ⟨sk, sn, sv, si⟩ := s
          dsimp only at c0 c1 c2 c3 b2 b3
          have hsteps : StepsAt wr (.slice (some ⟨M, j * 4, none⟩) 1 (20 - j)) [⟨sk, sn, sv, si⟩] := ⟨_, _, rfl, fun q hq => by
            match q, hq with
            | 0, _ => exact ⟨M, j * 4, rfl, c0, c1, c2, c3⟩⟩
          have hwr := Lib.hid (wrap_wrong (some ⟨M, j * 4, none⟩) (20 - j) [⟨sk, sn, sv, si⟩] 20 #[] wr (hG'.out.gr g3.out) hsteps (by simp) (by simp [b1]) (fun s hs => by rw [List.mem_singleton] at hs; subst hs; exact ⟨b2, b3⟩))
          have hri := Lib.hid (fun W (hg : Gr wr W) => right_any ⟨sk, sn, sv, si⟩ W (hG'.out.gr (g3.out.trans hg)) b2 b3)
          rw [b1] at hri
          have hjI : (0 : Int) ≤ j := by omega
          have hjA : (j : Int) < 20 := by omega
          clear hsteps b1 b2 b3 hX
          go_wp2_with fail
          refine hwr.out.mono ?_
          rintro e w5 ⟨rfl, hb⟩
          have hr5 := Lib.hid (hri.out w5 hb)
          have g5 := Lib.hid (hX'.out.trans hb)
          replace c0 := hb.cell c0
          replace c1 := hb.cell c1
          replace c2 := hb.cell c2
          replace c3 := hb.cell c3
          clear hb hwr hri
          go_wp2_with fail
          refine hr5.out.mono ?_
          rintro e w6 ⟨rfl, hb⟩
          have g6 := Lib.hid (show Gr w3 w6 from g5.out.trans hb)
          clear hb hr5 c0 c1 c2 c3
          go_wp2
          go_roundw
          case rel => exact ⟨j + 1, hjt, by go_num, g6.out⟩
          case measure => simp [intOf]; omega
        · have hjA : ¬ (j : Int) < 20 := by omega
          replace a0 := hX.cell a0
          replace a1 := hX.cell a1
          replace a2 := hX.cell a2
          replace a3 := hX.cell a3
          clear hX hbad
          have hA : rightB ⟨1, [65], [], 0⟩ = true := by decide +kernel
          have hra := Lib.hid (fun W (hg : Gr w W) => right_any ⟨1, [65], [], 0⟩ W (hG'.out.gr hg) (by decide) (by decide))
          rw [hA] at hra
          go_wp2_with fail
          refine (wrap_full _ 9 9 _ #[] _ (by decide) (by decide)).mono ?_
          rintro e w5 ⟨rfl, hb⟩
          have g5 := Lib.hid (show Gr w w5 from Gr.trans (Gr.alloc1 g3.out _) hb)
          clear hb a0 a1 a2 a3 hA
          go_wp2_with fail
          refine (hra.out _ g5.out).mono ?_
          rintro e w6 ⟨rfl, hb⟩
          have g6 := Lib.hid (show Gr w w6 from g5.out.trans hb)
          clear hb
          go_wp2_with fail
          refine (wakes_any _ (hG'.out.gr g6.out)).mono ?_
          rintro e w7 ⟨rfl, hb⟩
          have g7 := Lib.hid (g6.out.trans hb)
          clear hb
          go_wp2
          go_ret
          exact ⟨rfl, g7.out⟩
end Go.Proofs.YtolpphmgobeocaaDoor
