/-
  Walks over package line: a request's line.
-/
import Derived.Test.YthcbfholifagjaaDoorLa
namespace Go.Proofs.YthcbfholifagjaaDoor
open Go.RowKit Go.Maps Go.ChangeMaps

theorem lawS : Keyed Tryd.prog 9 := string_keyed Tryd.underlying9
theorem zeroI (w : World) : (zeroValue 3).run Tryd.prog w = .ok (.int .i64 0) w := by kernel_rfl
/-- The map of the two versions, made, filled, and asked. -/
theorem proto_map (W : World) (p : List UInt8) (hp : p.length ≤ 1000000) :
    ∃ w1 w2, (Instr.mapUpdate 43 (.map (some W.heap.size)) (.string ⟨#[72, 84, 84, 80, 47, 49, 46, 48]⟩) (.int .i64 10)).run Tryd.prog (W.alloc (.map #[] 0)) = .ok () w1 ∧
      (Instr.mapUpdate 43 (.map (some W.heap.size)) (.string ⟨#[72, 84, 84, 80, 47, 49, 46, 49]⟩) (.int .i64 11)).run Tryd.prog w1 = .ok () w2 ∧
      (Instr.lookup 43 (.map (some W.heap.size)) (.string ⟨p.toArray⟩) false).run Tryd.prog w2 = .ok (.int .i64 (protoN p)) w2 ∧ Gr W w2 := by
  have h0 := World.ownsMap_made W Tryd.prog 9 (plainElem (H := Unit) Tryd.prog 3)
  have hk : ∀ l : List UInt8, l.length ≤ 1000000 → keyOf Tryd.prog 9 (.string ⟨l.toArray⟩) = some (.string l) := fun l hl =>
    WideMaps.keyOf_string_mk Tryd.underlying9 (s := ⟨l.toArray⟩) (by rw [size_mk]; unfold maxLen; omega)
  obtain ⟨w1, r1, o1, g1⟩ := h0.update lawS Tryd.underlying43 (by decide) (hk pH10 (by decide)) (plainElem_int Tryd.underlying3 (a := 10) (by decide))
  obtain ⟨w2, r2, o2, g2⟩ := o1.update lawS Tryd.underlying43 (by decide) (hk pH11 (by decide)) (plainElem_int Tryd.underlying3 (a := 11) (by decide))
  obtain ⟨c, r3, hat, _⟩ := o2.lookup_int lawS Tryd.underlying43 Tryd.underlying3 (zeroI w2) (hk p hp)
  have hB0 : Gr W (W.alloc (.map #[] 0)) := Gr.alloc _ _
  have hB1 : Gr W w1 := Below.grown hB0 g1 (Below.size hB0) (fun j hj => by cases hj; exact Nat.le_refl _)
  have hB2 : Gr W w2 := Below.grown hB1 g2 (Below.size hB1) (fun j hj => by cases hj; exact Nat.le_refl _)
  refine ⟨w1, w2, r1, r2, ?_, hB2⟩
  have hc : c = protoN p := by
    have i0 : IsMap (.map [] : DataW Unit) := isMap_empty
    unfold protoN
    by_cases e1 : p = pH10
    · subst e1
      rw [if_pos rfl]
      rw [atKey_put_other (by simp [pH10, pH11]), atKey_put_same i0 (lawS.key (hk _ (by decide)))] at hat
      exact (Lit.int.inj (DataW.lit.inj hat)).2.symm
    · rw [if_neg e1]
      by_cases e2 : p = pH11
      · subst e2
        rw [if_pos rfl]
        rw [atKey_put_same (i0.put _ _) (lawS.key (hk _ (by decide)))] at hat
        exact (Lit.int.inj (DataW.lit.inj hat)).2.symm
      · rw [if_neg e2]
        rw [atKey_put_other (by simpa using e2), atKey_put_other (by simpa using e1)] at hat
        have : (DataW.map [] : DataW Unit).atKey (.string p) (.lit (.int .i64 0)) = .lit (.int .i64 0) := rfl
        rw [this] at hat
        exact (Lit.int.inj (DataW.lit.inj hat)).2.symm
  rw [← hc]; exact r3

theorem results_tmp4 {fn : Func} {t u v x : Tmp} (h : fn.results = #[.tmp t, .tmp u, .tmp v, .tmp x]) (tmps : Array Value) (P : Program) (w : World) :
    (results fn tmps).run P w = .ok (.tuple #[tmps.getD t undef, tmps.getD u undef, tmps.getD v undef, tmps.getD x undef]) w := by
  simp [results, h]
/-- The result of Parse. -/
def lnV (r : List UInt8 × List UInt8 × Nat × Bool) : Value := .tuple #[.string ⟨r.1.toArray⟩, .string ⟨r.2.1.toArray⟩, .int .i64 r.2.2.1, .bool r.2.2.2]

set_option maxHeartbeats 2000000 in
set_option maxRecDepth 100000 in
theorem line_any (l : List UInt8) (w : World) (hG : G w) (hl : l.length ≤ 1000000) :
    Calls Tryd.prog 10 #[.string ⟨l.toArray⟩] w fun e w' => e = .returned (lnV (lineB l)) ∧ Gr w w' := by
  have a1 : (Lib.cut l [32]).1.length ≤ l.length := cut_le1 l [32]
  have a2 : (Lib.cut l [32]).2.1.length ≤ l.length := cut_le2 l [32]
  have hcut1 := cut_any l [32] w hG (by omega)
  obtain ⟨⟨m, r, d⟩, hc⟩ : ∃ c, Lib.cut l [32] = c := ⟨_, rfl⟩
  rw [hc] at a1 a2 hcut1
  dsimp only at a1 a2 hcut1
  have b1 : (Lib.cut r [32]).1.length ≤ r.length := cut_le1 r [32]
  have b2 : (Lib.cut r [32]).2.1.length ≤ r.length := cut_le2 r [32]
  have hcut2 := fun W (h : Gr w W) => cut_any r [32] W (hG.gr h) (by omega)
  obtain ⟨⟨t, p, d2⟩, hc2⟩ : ∃ c, Lib.cut r [32] = c := ⟨_, rfl⟩
  rw [hc2] at b1 b2
  rw [hc2] at hcut2
  dsimp only at b1 b2 hcut2
  have hT := Lib.hid (lineB_eq hc hc2)
  have hcut1' := Lib.hid hcut1
  have hcut2' := Lib.hid hcut2
  clear hc hc2 hcut1 hcut2
  go_enter Tryd.func10, Tryd.ntmps10
  go_wp2_with fail
  refine hcut1'.out.mono ?_
  rintro e w1 ⟨rfl, hg1⟩
  have hg1' := Lib.hid hg1
  clear hg1
  go_wp2_with fail
  refine (hcut2'.out _ hg1'.out).mono ?_
  rintro e w2 ⟨rfl, hg2⟩
  have hg2' := Lib.hid (hg1'.out.trans hg2)
  clear hg2
  go_wp2
  go_loop [2, 3, 10, 25] (fun s2 s3 _ i => ∃ k : Nat, k ≤ t.length ∧ s2 = .string ⟨m.toArray⟩ ∧ s3 = .string ⟨t.toArray⟩ ∧ i = .int .i64 k ∧ (t.take k).all isVis = true) (fun _ _ _ i => t.length - (intOf i).toNat)
  case atStart => exact ⟨0, Nat.zero_le _, rfl, rfl, rfl, rfl⟩
  case round =>
    obtain ⟨k, hk, rfl, rfl, rfl, hall⟩ := hrel
    have hall' := Lib.hid hall
    clear hall
    by_cases hlt : k < t.length
    · obtain ⟨c, hcd⟩ : ∃ c, (⟨t.toArray⟩ : ByteArray)[k]'(by rw [size_mk]; exact hlt) = c := ⟨_, rfl⟩
      have hc2 := Lib.hid (show t[k] = c from hcd)
      cases hv : isVis c
      · have hT' := Lib.hid (show lineB l = ([], [], 0, false) by rw [hT.out, all_false hlt (by rw [hc2.out]; exact hv)]; rfl)
        rw [vis_eq, decide_eq_false_iff_not] at hv
        have hr : (c.toNat : Int) < 33 ∨ (33 ≤ (c.toNat : Int) ∧ 126 < (c.toNat : Int)) := by omega
        clear hv
        rcases hr with h1 | ⟨h1, h2⟩
        all_goals
          go_wp2
          (try simp only [Exit.inBlock, Exit.then])
          refine bodyPost_ret (results_tmp4 rfl _ _ _) rfl ⟨by rw [hT'.out]; rfl, hg2'.out⟩
      · have hv' := Lib.hid hv
        rw [vis_eq, decide_eq_true_eq] at hv
        obtain ⟨h1, h2⟩ := hv
        have hnext := Lib.hid (all_take_succ hall'.out hlt (by rw [hc2.out]; exact hv'.out))
        go_wp2
        go_round
        case rel => exact ⟨k + 1, by omega, rfl, rfl, by go_num, hnext.out⟩
        case measure => simp [intOf]; omega
    · have hvis := Lib.hid (show t.all isVis = true by have := hall'.out; rwa [List.take_of_length_le (by omega)] at this)
      clear hall'
      obtain ⟨w3, w4, r1, r2, r3, hg4⟩ := proto_map w2 p (by omega)
      have hg4' := Lib.hid (hg2'.out.trans hg4)
      obtain ⟨n, hn⟩ : ∃ n, protoN p = n := ⟨_, rfl⟩
      rw [hn] at r3
      have hn' := Lib.hid hn
      have hT2 := Lib.hid (show lineB l = if tokB m && (!t.isEmpty && n != 0) then (m, t, n, true) else ([], [], 0, false) by rw [hT.out, hvis.out, hn]; rfl)
      have hmm := @run_makeMap Tryd.prog
      clear hg4 hn
      cases hm : tokB m
      · have hT3 := Lib.hid (show lineB l = ([], [], 0, false) by rw [hT2.out, hm]; rfl)
        have htok := Lib.hid (fun w => token_is m _ hm w (by omega))
        clear hm
        go_wp2_with fail
        refine (htok.out _).mono ?_
        rintro e w5 ⟨rfl, rfl⟩
        go_wp2
        (try simp only [Exit.inBlock, Exit.then])
        refine bodyPost_ret (results_tmp4 rfl _ _ _) rfl ⟨by rw [hT3.out]; rfl, hg4'.out⟩
      · have htok := Lib.hid (fun w => token_is m _ hm w (by omega))
        have hm' := Lib.hid hm
        clear hm
        cases ht : t.isEmpty
        · cases hnz : (n != 0)
          · have hT3 := Lib.hid (show lineB l = ([], [], 0, false) by rw [hT2.out, hm'.out, ht, hnz]; rfl)
            obtain rfl : n = 0 := by simpa using hnz
            clear hnz
            have ht' : (!t.isEmpty) = true := by rw [ht]; rfl
            go_wp2_with fail
            refine (htok.out _).mono ?_
            rintro e w5 ⟨rfl, rfl⟩
            go_wp2
            (try simp only [Exit.inBlock, Exit.then])
            refine bodyPost_ret (results_tmp4 rfl _ _ _) rfl ⟨by rw [hT3.out]; rfl, hg4'.out⟩
          · have hT3 := Lib.hid (show lineB l = (m, t, n, true) by rw [hT2.out, hm'.out, ht, hnz]; rfl)
            have hnz2 : ((n : Int) == 0) = false := by
              have : n ≠ 0 := by simpa using hnz
              exact beq_eq_false_iff_ne.2 (by omega)
            clear hnz
            have ht' : (!t.isEmpty) = true := by rw [ht]; rfl
            go_wp2_with fail
            refine (htok.out _).mono ?_
            rintro e w5 ⟨rfl, rfl⟩
            go_wp2
            (try simp only [Exit.inBlock, Exit.then])
            refine bodyPost_ret (results_tmp4 rfl _ _ _) rfl ⟨by rw [hT3.out]; rfl, hg4'.out⟩
        · have hT3 := Lib.hid (show lineB l = ([], [], 0, false) by rw [hT2.out, hm'.out, ht]; rfl)
          have ht' : (!t.isEmpty) = false := by rw [ht]; rfl
          go_wp2_with fail
          refine (htok.out _).mono ?_
          rintro e w5 ⟨rfl, rfl⟩
          go_wp2
          (try simp only [Exit.inBlock, Exit.then])
          refine bodyPost_ret (results_tmp4 rfl _ _ _) rfl ⟨by rw [hT3.out]; rfl, hg4'.out⟩
end Go.Proofs.YthcbfholifagjaaDoor
