/-
  Walks over package chain: lists of steps, and the library's way back through them.
-/
import Derived.Test.YtolpphmgobeocaaDoorCb
import Derived.RangeFuncBound
import Derived.RangeFuncCalls
import Derived.Shelf.Abstract
import Derived.Shelf.RegionOpen
import Derived.OwnWalkIn
import Derived.TacticsInMore
import Derived.LoopNIn
import Derived.LoopIn
namespace Go.Proofs.YtolpphmgobeocaaDoor
open Go.RowKit Go.Shelf
attribute [local go_sem] Oper.semAt_some

/-- A slice value that holds these steps. -/
def StepsAt (w : World) (v : Value) (ss : List Stp) : Prop :=
  ∃ p cap, v = .slice p ss.length cap ∧ ∀ i, (hi : i < ss.length) → ∃ b off, p = some ⟨b, off, none⟩ ∧ w.cell? ⟨b, off + i * 4, none⟩ = some (.int .i64 ss[i].kind) ∧ w.cell? ⟨b, off + i * 4 + 1, none⟩ = some (.string ⟨ss[i].name.toArray⟩) ∧ w.cell? ⟨b, off + i * 4 + 2, none⟩ = some (.string ⟨ss[i].value.toArray⟩) ∧ w.cell? ⟨b, off + i * 4 + 3, none⟩ = some (.int .i64 ss[i].n)
theorem StepsAt.gr {w w' : World} {v : Value} {ss : List Stp} (h : StepsAt w v ss) (hb : Gr w w') : StepsAt w' v ss := by
  obtain ⟨p, cap, hv, hc⟩ := h
  exact ⟨p, cap, hv, fun i hi => let ⟨b, off, hp, h0, h1, h2, h3⟩ := hc i hi; ⟨b, off, hp, hb.cell h0, hb.cell h1, hb.cell h2, hb.cell h3⟩⟩

set_option maxHeartbeats 1000000 in
theorem idxt_any (v : Value) (ss : List Stp) (g : Nat) (p : Stp → Bool) (w : World) (eg : ∀ args w, (callFunc g args).run Tryd.prog w = .ok (.enter g args) w)
    (hx : StepsAt w v ss) (hn : ss.length ≤ 9223372036854775807)
    (hp : ∀ x ∈ ss, ∀ W, Gr w W → Calls Tryd.prog g #[x.V] W fun e W' => e = .returned (.bool (p x)) ∧ Gr W W') :
    Calls Tryd.prog 49 #[v, .func (.func g) #[] #[]] w (Found (ss.any p) w) := by
  have hp' := Lib.hid hp
  clear hp
  obtain ⟨q, cap, rfl, hc⟩ := hx
  have hc' := Lib.hid hc
  clear hc
  go_enter Tryd.func49, Tryd.ntmps49
  go_wp2
  go_loopw [5, 8] (fun _ i wr => (∃ k : Nat, k ≤ ss.length ∧ i = .int .i64 k ∧ (ss.take k).any p = false) ∧ Gr w wr) (fun _ i _ => ss.length - (intOf i).toNat)
  case atStart => exact ⟨⟨0, Nat.zero_le _, rfl, rfl⟩, Gr.refl _⟩
  case round =>
    obtain ⟨⟨k, hk, rfl, hall⟩, hg⟩ := hrel
    have hall' := Lib.hid hall
    clear hall
    by_cases hlt : k < ss.length
    · obtain ⟨b, off, rfl, h0, h1, h2, h3⟩ := hc'.out k hlt
      have c0 := hg.cell h0
      have c1 := hg.cell h1
      have c2 := hg.cell h2
      have c3 := hg.cell h3
      clear h0 h1 h2 h3
      obtain ⟨x, hxd⟩ : ∃ x, ss[k] = x := ⟨_, rfl⟩
      have hmem : x ∈ ss := hxd ▸ List.getElem_mem hlt
      rw [hxd] at c0 c1 c2 c3
      have hxd' := Lib.hid hxd
      have hcall := Lib.hid (hp'.out x hmem _ hg)
      clear hxd
      cases hpk : p x
      all_goals have hpk' := Lib.hid hpk
      all_goals clear hpk
      all_goals go_wp2_with fail
      all_goals refine hcall.out.mono ?_
      all_goals rintro e w2 ⟨rfl, hb⟩
      all_goals rw [hpk'.out]
      all_goals go_wp2
      · go_roundw
        case rel => exact ⟨⟨k + 1, by omega, by go_num, any_take_succ hall'.out hlt (by rw [hxd'.out]; exact hpk'.out)⟩, hg.trans hb⟩
        case measure => simp [intOf]; omega
      · go_ret
        exact ⟨k, rfl, by rw [any_at hlt (by rw [hxd'.out]; exact hpk'.out)]; simp, hg.trans hb⟩
    · go_wp2
      go_ret
      exact ⟨-1, rfl, by rw [show ss.any p = false by rw [← hall'.out, List.take_of_length_le (by omega)]]; rfl, hg⟩

theorem containst_any (v : Value) (ss : List Stp) (g : Nat) (p : Stp → Bool) (w : World) (eg : ∀ args w, (callFunc g args).run Tryd.prog w = .ok (.enter g args) w)
    (hx : StepsAt w v ss) (hn : ss.length ≤ 9223372036854775807)
    (hp : ∀ x ∈ ss, ∀ W, Gr w W → Calls Tryd.prog g #[x.V] W fun e W' => e = .returned (.bool (p x)) ∧ Gr W W') :
    Calls Tryd.prog 30 #[v, .func (.func g) #[] #[]] w fun e w' => e = .returned (.bool (ss.any p)) ∧ Gr w w' := by
  have hp' := Lib.hid hp
  have hx' := Lib.hid hx
  clear hp hx
  obtain ⟨r, hr⟩ : ∃ r, ss.any p = r := ⟨_, rfl⟩
  have hr' := Lib.hid hr
  rw [hr]
  clear hr
  go_enter Tryd.func30, Tryd.ntmps30
  go_wp2_with fail
  refine (idxt_any v ss g p _ eg hx'.out hn hp'.out).mono ?_
  rintro e w2 ⟨n, rfl, hd, hb⟩
  rw [hr'.out] at hd
  have hd' := Lib.hid hd
  clear hd
  go_wp2
  go_ret
  exact ⟨ret_bool (by rw [← hd'.out]), hb⟩

set_option maxHeartbeats 1000000 in
theorem wrong_any (s : Stp) (w : World) (hG : G w) (hn : s.name.length ≤ 1000) (hv : s.value.length ≤ 1000) :
    Calls Tryd.prog 31 #[s.V] w fun e w' => e = .returned (.bool (!rightB s)) ∧ Gr w w' := by
  have hr := right_any s (w.alloc (.cells #[.int .i64 s.kind, .string ⟨s.name.toArray⟩, .string ⟨s.value.toArray⟩, .int .i64 s.n] 35)) (hG.gr (Gr.alloc _ _)) hn hv
  obtain ⟨b, hb⟩ : ∃ b, rightB s = b := ⟨_, rfl⟩
  rw [hb] at hr ⊢
  have hr' := Lib.hid hr
  clear hr hb
  unfold Stp.V at hr' ⊢
  go_enter Tryd.func31, Tryd.ntmps31
  go_wp2_with fail
  refine hr'.out.mono ?_
  rintro e w2 ⟨rfl, hb⟩
  go_wp2
  go_ret
  exact ⟨rfl, (Gr.alloc _ _).trans hb⟩

theorem anywrong_any (v : Value) (ss : List Stp) (w : World) (hG : G w) (hx : StepsAt w v ss) (hn : ss.length ≤ 9223372036854775807) (hl : ∀ s ∈ ss, s.name.length ≤ 1000 ∧ s.value.length ≤ 1000) :
    Calls Tryd.prog 30 #[v, .func (.func 31) #[] #[]] w fun e w' => e = .returned (.bool (!ss.all rightB)) ∧ Gr w w' := by
  rw [List.not_all_eq_any_not]
  refine containst_any v ss 31 (fun s => !rightB s) w (enters_of Tryd.func31 (by kernel_rfl) rfl) hx hn fun x hm W hW => wrong_any x W (hG.gr hW) (hl x hm).1 (hl x hm).2

theorem backward_any (p : Option Addr) (n cap : Nat) (w : World) :
    Calls Tryd.prog 34 #[.slice p n cap] w fun e w' => e = .returned (.func (.func 50) #[] #[.pointer (some ⟨w.heap.size, 0, none⟩)]) ∧ w.alloc (.cells #[.slice p n cap] 22) = w' := by
  go_enter Tryd.func34, Tryd.ntmps34
  go_wp2
  go_ret
  exact ⟨rfl, rfl⟩

/-- The first k steps, the last one first, each with its place. -/
def backN (ss : List Stp) : Nat → List (Nat × Stp)
  | 0 => []
  | k + 1 => (k, ss.getD k ⟨0, [], [], 0⟩) :: backN ss k
theorem backN_len (ss : List Stp) : ∀ k, (backN ss k).length = k
  | 0 => rfl
  | k + 1 => by rw [backN, List.length_cons, backN_len ss k]
theorem backN_split (ss : List Stp) : ∀ (n : Nat) (pre : List (Nat × Stp)) (x : Nat × Stp) (rest : List (Nat × Stp)), backN ss n = pre ++ x :: rest → ∃ k, k < n ∧ x = (k, ss.getD k ⟨0, [], [], 0⟩) ∧ rest = backN ss k ∧ pre.length + k + 1 = n
  | 0, pre, x, rest, h => by simp [backN] at h
  | n + 1, [], x, rest, h => by
    rw [backN, List.nil_append, List.cons.injEq] at h
    exact ⟨n, by omega, h.1.symm, h.2.symm, by simp⟩
  | n + 1, p :: pre, x, rest, h => by
    rw [backN, List.cons_append, List.cons.injEq] at h
    obtain ⟨k, h1, h2, h3, h4⟩ := backN_split ss n pre x rest h.2
    exact ⟨k, by omega, h2, h3, by simp; omega⟩
def encS (x : Nat × Stp) : Array Value := #[.int .i64 x.1, x.2.V]

set_option maxHeartbeats 2000000 in
theorem back_iter (v : Value) (ss : List Stp) (W0 : World) (bv : Nat) (hv : W0.cell? ⟨bv, 0, none⟩ = some v) (hn : ss.length ≤ 1000000) :
    IterC Tryd.prog 50 #[.pointer (some ⟨bv, 0, none⟩)] encS (backN ss ss.length) (fun k => k = bv) 0 (fun A => StepsAt A v ss) W0 := by
  intro W l J Jx U hsz hT hU hJ hJx hJG hY h0
  have gv : W.cell? ⟨bv, 0, none⟩ = some v := (World.cell?_of_block (hT bv rfl)).trans hv
  obtain ⟨p, cap, rfl, _⟩ := hJG _ _ h0
  have hJ' := Lib.hid hJ
  have hJx' := Lib.hid hJx
  have hY' := Lib.hid hY
  have hU' := Lib.hid hU
  have h0' := Lib.hid h0
  have hJG' := Lib.hid hJG
  clear hJ hJx hY hU h0 hT hv hJG
  have hfn : ∀ f, Fence.wide.fn f := fun _ => trivial
  have hdp : Fence.wide.depth = none := rfl
  have hint : IntKind.i64.wrap ((ss.length : Int) - 1) = (ss.length : Int) - 1 := by
    unfold IntKind.wrap; simp [IntKind.bits, IntKind.signed]; omega
  refine callsIn_of_wp Tryd.func50 rfl trivial ?_ rfl
  simp only [Tryd.ntmps50, List.size_toArray, List.length_cons, List.length_nil, Nat.reduceAdd, Nat.reduceSub, Array.replicate_succ, Array.replicate_zero, List.push_toArray, List.append_toArray, List.nil_append, List.cons_append]
  gi_wp2
  gi_loopw [3] (fun i wr => ∃ (pre : List (Nat × Stp)) (k : Nat), backN ss ss.length = pre ++ backN ss k ∧ k ≤ ss.length ∧ i = .int .i64 ((k : Int) - 1) ∧ W.heap.size ≤ wr.heap.size ∧ J pre wr ∧ wr.cell? ⟨bv, 0, none⟩ = some (.slice p ss.length cap))
    (fun i _ => (intOf i + 1).toNat)
  case atStart => exact ⟨[], ss.length, rfl, Nat.le_refl _, rfl, Nat.le_refl _, h0'.out, gv⟩
  case round =>
    clear gv
    obtain ⟨pre, k, hpre, hk, rfl, hwz, hj, g1⟩ := hrel
    have hwz' := Lib.hid hwz
    have hpre' := Lib.hid hpre
    have hj' := Lib.hid hj
    clear hwz hpre hj
    rcases k with _ | k
    · rw [show (((0 : Nat) : Int) - 1) = -1 from rfl]
      gi_wp2
      go_end0
      exact ⟨rfl, .inl (by rw [hpre'.out, backN, List.append_nil]; exact hj'.out)⟩
    · have hlt : k < ss.length := by omega
      rw [show (((k + 1 : Nat) : Int) - 1) = (k : Int) from by omega]
      obtain ⟨p', cap', hpc, hcells⟩ := hJG'.out _ _ hj'.out
      have e1 : p = p' := by injection hpc
      subst e1
      obtain ⟨b, off, rfl, c0, c1, c2, c3⟩ := hcells k hlt
      have hwk : IntKind.i64.wrap ((k : Int) - 1) = (k : Int) - 1 := by
        unfold IntKind.wrap; simp [IntKind.bits, IntKind.signed]; omega
      have hY2 := hY'.out pre (k, ss.getD k ⟨0, [], [], 0⟩) (backN ss k) wr hpre'.out hwz'.out hj'.out
      rw [show ss.getD k ⟨0, [], [], 0⟩ = ss[k] from by simp [hlt]] at hY2
      obtain ⟨x, hx⟩ : ∃ x, ss[k] = x := ⟨_, rfl⟩
      rw [hx] at c0 c1 c2 c3 hY2
      have hx' := Lib.hid hx
      clear hx hcells hpc
      unfold encS Stp.V at hY2
      dsimp only at hY2
      obtain ⟨fn, tmps, assign, body, hy, hR⟩ := hY2
      gi_wp2
      refine hR.mono ?_
      rintro e A (⟨rfl, hj2, hc2⟩ | ⟨rfl, hj2, hc2⟩)
      · have e1 : A.cell? ⟨bv, 0, none⟩ = some (.slice (some ⟨b, off, none⟩) ss.length cap) := (hc2.cell (cell_lt g1) (fun e => (hU'.out _ e).2 rfl)).trans g1
        have hj3 := Lib.hid hj2
        have hA := Lib.hid (Nat.le_trans hwz'.out hc2.size)
        clear g1 c0 c1 c2 c3 hc2 hj2
        gi_wp2
        go_roundw
        case rel =>
          exact ⟨pre ++ [(k, x)], k, by rw [hpre'.out, backN, List.append_assoc, show ss.getD k ⟨0, [], [], 0⟩ = x from by rw [← hx'.out]; simp [hlt]]; rfl, by omega, rfl, hA.out, hj3.out, e1⟩
        case measure => simp [intOf]
      · gi_wp2
        refine bodyPost_ret (results_none rfl _ _ _) rfl ?_
        exact ⟨rfl, .inr ⟨pre ++ [(k, x)], ⟨backN ss k, by rw [hpre'.out, backN, List.append_assoc, show ss.getD k ⟨0, [], [], 0⟩ = x from by rw [← hx'.out]; simp [hlt]]; rfl⟩, hj2⟩⟩
end Go.Proofs.YtolpphmgobeocaaDoor
