/-
  The library's iterator over the pieces of a text.
-/
import Derived.Test.YtheihlalgekojaaGreatDoorD
import Derived.Test.YtheihlalgekojaaGreatDoorP2
import Derived.RangeFuncBound
import Derived.RangeFuncCalls
import Derived.Shelf.Abstract
import Derived.Shelf.RegionOpen
import Derived.OwnWalkIn
import Derived.TacticsInMore
import Derived.LoopNIn
import Derived.LoopIn
namespace Go.Proofs.YtheihlalgekojaaGreatDoor
open Go.RowKit Go.Shelf
attribute [local go_sem] Oper.semAt_some

def strAt (w : World) (a : Addr) : Nat := match w.cell? a with | some (.string s) => s.size | _ => 0

set_option maxHeartbeats 1000000 in
theorem split_iter (s : List UInt8) (W0 : World) (b1 b2 b3 : Nat) (h1 : W0.cell? ⟨b1, 0, none⟩ = some (.string ⟨#[44]⟩)) (h2 : W0.cell? ⟨b2, 0, none⟩ = some (.string ⟨s.toArray⟩)) (f2 : W0.frozen? ⟨b2, 0, none⟩ = false)
    (h3 : W0.cell? ⟨b3, 0, none⟩ = some (.int .i64 0)) (hs : s.length ≤ 4611686018427387904) (h12 : b1 ≠ b2) (h32 : b3 ≠ b2) :
    IterC Tryz.prog 92 #[.pointer (some ⟨b1, 0, none⟩), .pointer (some ⟨b2, 0, none⟩), .pointer (some ⟨b3, 0, none⟩)] (fun x : List UInt8 => #[.string ⟨x.toArray⟩]) (splitB 44 s)
      (fun k => k = b1 ∨ k = b2 ∨ k = b3) 0 (fun _ => True) W0 := by
  intro W l J Jx U hsz hT hU hJ hJx _ hY h0
  have g1 : W.cell? ⟨b1, 0, none⟩ = some (.string ⟨#[44]⟩) := (World.cell?_of_block (hT b1 (.inl rfl))).trans h1
  have g2 : W.cell? ⟨b2, 0, none⟩ = some (.string ⟨s.toArray⟩) := (World.cell?_of_block (hT b2 (.inr (.inl rfl)))).trans h2
  have k2 : W.frozen? ⟨b2, 0, none⟩ = false := (World.frozen?_of_block (hT b2 (.inr (.inl rfl)))).trans f2
  have g3 : W.cell? ⟨b3, 0, none⟩ = some (.int .i64 0) := (World.cell?_of_block (hT b3 (.inr (.inr rfl)))).trans h3
  clear h1 h2 f2 h3 hT
  have hJ' := Lib.hid hJ
  have hJx' := Lib.hid hJx
  have hY' := Lib.hid hY
  have hU' := Lib.hid hU
  have h0' := Lib.hid h0
  clear hJ hJx hY hU h0
  have hfn : ∀ f, Fence.wide.fn f := fun _ => trivial
  have hdp : Fence.wide.depth = none := rfl
  refine callsIn_of_wp Tryz.func92 rfl trivial ?_ rfl
  simp only [Tryz.ntmps92, List.size_toArray, List.length_cons, List.length_nil, Nat.reduceAdd, Nat.reduceSub, Array.replicate_succ, Array.replicate_zero, List.push_toArray, List.append_toArray, List.nil_append, List.cons_append]
  gi_wp2
  gi_loopw [7, 8] (fun _ _ wr => ∃ (pre : List (List UInt8)) (t : List UInt8), splitB 44 s = pre ++ splitB 44 t ∧ t.length ≤ s.length ∧ W.heap.size ≤ wr.heap.size ∧ J pre wr ∧ wr.cell? ⟨b1, 0, none⟩ = some (.string ⟨#[44]⟩) ∧ wr.cell? ⟨b2, 0, none⟩ = some (.string ⟨t.toArray⟩) ∧ wr.frozen? ⟨b2, 0, none⟩ = false ∧ wr.cell? ⟨b3, 0, none⟩ = some (.int .i64 0))
    (fun _ _ wr => strAt wr ⟨b2, 0, none⟩)
  case atStart => exact ⟨[], s, rfl, Nat.le_refl _, Nat.le_refl _, h0'.out, g1, g2, k2, g3⟩
  case round =>
    clear g1 g2 k2 g3
    obtain ⟨pre, t, hpre, htl, hwz, hj, g1, g2, k2, g3⟩ := hrel
    have hwz' := Lib.hid hwz
    clear hwz
    have hpre' := Lib.hid hpre
    have hj' := Lib.hid hj
    have hm : strAt wr ⟨b2, 0, none⟩ = t.length := by unfold strAt; rw [g2]; exact size_mk t
    have hm' := Lib.hid hm
    clear hpre hj hm
    rcases indexByte_spec t 44 with ⟨hi, hno⟩ | ⟨k, hi, hk, hat, hbe⟩
    · -- the last piece
      have hsp := splitB_none 44 t hno
      obtain ⟨fn, tmps, assign, body, hy, hR⟩ := hY'.out pre t [] wr (by rw [hpre'.out, hsp]) hwz'.out hj'.out
      have hi' := Lib.hid hi
      have hsp' := Lib.hid hsp
      clear hi hsp hno
      gi_wp2_with (gi_at_call 93; refine (callsIn_wide.2 (Tryz.strings_Index_one ⟨t.toArray⟩ 44 _)).mono ?_; rintro e w' ⟨rfl, rfl⟩; rw [hi'.out])
      refine hR.mono ?_
      rintro e A (⟨rfl, hj2, hc2⟩ | ⟨rfl, hj2, hc2⟩)
      · gi_wp2
        go_end0
        exact ⟨rfl, .inl (by rw [hpre'.out, hsp'.out]; exact hj2)⟩
      · gi_wp2
        go_end0
        exact ⟨rfl, .inr ⟨pre ++ [t], ⟨[], by rw [hpre'.out, hsp'.out, List.append_nil]⟩, hj2⟩⟩
    · -- one more piece
      have hsp := splitB_at 44 t k hk hat hbe
      obtain ⟨x, hx⟩ : ∃ x, t.take k = x := ⟨_, rfl⟩
      obtain ⟨y, hyd⟩ : ∃ y, t.drop (k + 1) = y := ⟨_, rfl⟩
      rw [hx, hyd] at hsp
      have hyl : y.length < t.length := by rw [← hyd]; simp; omega
      have hx1 : (⟨t.toArray⟩ : ByteArray).extract 0 k = ⟨x.toArray⟩ := by rw [extract_mk, ← hx]; simp
      have hx2 : (⟨t.toArray⟩ : ByteArray).extract (k + 1) t.length = ⟨y.toArray⟩ := by rw [extract_mk, ← hyd]; simp
      obtain ⟨fn, tmps, assign, body, hy, hR⟩ := hY'.out pre x (splitB 44 y) wr (by rw [hpre'.out, hsp]) hwz'.out hj'.out
      have hi' := Lib.hid hi
      have hsp' := Lib.hid hsp
      clear hi hsp hbe hat hx hyd
      gi_wp2_with (gi_at_call 93; refine (callsIn_wide.2 (Tryz.strings_Index_one ⟨t.toArray⟩ 44 _)).mono ?_; rintro e w' ⟨rfl, rfl⟩; rw [hi'.out])
      refine hR.mono ?_
      rintro e A (⟨rfl, hj2, hc2⟩ | ⟨rfl, hj2, hc2⟩)
      · have e1 : A.cell? ⟨b1, 0, none⟩ = some (.string ⟨#[44]⟩) := (hc2.cell (cell_lt g1) (fun e => (hU'.out _ e).2 (.inl rfl))).trans g1
        have e2 : A.cell? ⟨b2, 0, none⟩ = some (.string ⟨t.toArray⟩) := (hc2.cell (cell_lt g2) (fun e => (hU'.out _ e).2 (.inr (.inl rfl)))).trans g2
        have e3 : A.cell? ⟨b3, 0, none⟩ = some (.int .i64 0) := (hc2.cell (cell_lt g3) (fun e => (hU'.out _ e).2 (.inr (.inr rfl)))).trans g3
        have j2 : A.frozen? ⟨b2, 0, none⟩ = false := (hc2.frozen (cell_lt g2) (fun e => (hU'.out _ e).2 (.inr (.inl rfl)))).trans k2
        clear g1 g2 g3 k2
        gi_wp2
        go_roundw
        case rel =>
          exact ⟨pre ++ [x], y, by rw [hpre'.out, hsp'.out, List.append_assoc]; rfl, by omega, by simpa using Nat.le_trans hwz'.out hc2.size, hJ'.out _ _ _ hj2 (Ch.setCell _ (.inl (.inr (.inl rfl))) _), cell_set_other e1 (fun e => h12 e.symm), cell_set_same e2, by rw [frozen_set]; exact j2, cell_set_other e3 (fun e => h32 e.symm)⟩
        case measure =>
          rw [hm'.out]
          unfold strAt
          rw [cell_set_same e2]
          simpa only [size_mk] using hyl
      · gi_wp2
        refine bodyPost_ret (results_none rfl _ _ _) rfl ?_
        exact ⟨rfl, .inr ⟨pre ++ [x], ⟨splitB 44 y, by rw [hpre'.out, hsp'.out, List.append_assoc]; rfl⟩, hj2⟩⟩
end Go.Proofs.YtheihlalgekojaaGreatDoor
