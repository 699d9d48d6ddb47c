/-
  Has, of package field.
-/
import Derived.Test.YtheihlalgekojaaGreatDoorI
import Derived.Test.YtheihlalgekojaaGreatDoorC
namespace Go.Proofs.YtheihlalgekojaaGreatDoor
open Go.RowKit Go.Shelf
attribute [local go_sem] Oper.semAt_some

set_option maxHeartbeats 2000000 in
theorem has_any (l word : List UInt8) (w : World) (hG : G w) (hl : l.length ≤ 4611686018427387904) (hw : word.length ≤ 9223372036854775807) :
    Calls Tryz.prog 28 #[.string ⟨l.toArray⟩, .string ⟨word.toArray⟩] w fun e w' => e = .returned (.bool (hasB l word)) ∧ Gr w w' := by
  refine (callsIn_wide (n := 0)).1 ?_
  have hfn : ∀ f, Fence.wide.fn f := fun _ => trivial
  have hdp : Fence.wide.depth = none := rfl
  have hG' := Lib.hid hG
  clear hG
  refine callsIn_of_wp_marks Tryz.func28 rfl trivial ?_ rfl
  simp only [Tryz.ntmps28, List.size_toArray, List.length_cons, List.length_nil, Nat.reduceAdd, Nat.reduceSub, Array.replicate_succ, Array.replicate_zero, List.push_toArray, List.append_toArray, List.nil_append, List.cons_append]
  gi_wp2_with (gi_at_call 43; refine (callsIn_wide.2 (each_any l _)).mono ?_; rintro e w' ⟨rfl, rfl⟩)
  obtain ⟨w3, hw3⟩ : ∃ w3, ((w.alloc (.cells #[.string ⟨word.toArray⟩] 9)).alloc (.cells #[.bool false] 4)).alloc (.cells #[.string ⟨l.toArray⟩] 9) = w3 := ⟨_, rfl⟩
  rw [hw3]
  have hs3 := Lib.hid (show w3.heap.size = w.heap.size + 3 by rw [← hw3]; simp)
  have c0 : w3.cell? ⟨w.heap.size, 0, none⟩ = some (.string ⟨word.toArray⟩) := by rw [← hw3]; simp [go_sem]
  have c1 : w3.cell? ⟨w.heap.size + 1, 0, none⟩ = some (.bool false) := by rw [← hw3]; simp [go_sem]
  have k1 : w3.frozen? ⟨w.heap.size + 1, 0, none⟩ = false := by rw [← hw3]; simp [go_sem]
  have c2 : w3.cell? ⟨w.heap.size + 1 + 1, 0, none⟩ = some (.string ⟨l.toArray⟩) := by rw [← hw3]; simp [go_sem]
  have hg3 : Gr w w3 := by rw [← hw3]; exact ((Gr.alloc w _).alloc1 _).alloc1 _
  clear hw3
  refine wpIn_range (gf := 57) rfl (enters_of Tryz.func57 (by kernel_rfl) rfl) (each_iter l w3 _ c2 hl) (Nat.le_refl _) (fun k hk => ⟨by rw [hs3.out]; (try dsimp only at hk); omega, rfl⟩) (fun _ => rfl)
    (fun pre A => Gr w A ∧ w3.heap.size ≤ A.heap.size ∧ A.cell? ⟨w.heap.size, 0, none⟩ = some (.string ⟨word.toArray⟩) ∧ A.cell? ⟨w.heap.size + 1, 0, none⟩ = some (.bool false) ∧ A.frozen? ⟨w.heap.size + 1, 0, none⟩ = false ∧ pre.any (fun p => alikeB p word) = false)
    (fun c pre A => c = .ret ∧ Gr w A ∧ A.cell? ⟨w.heap.size + 1, 0, none⟩ = some (.bool true) ∧ pre.any (fun p => alikeB p word) = true) (fun k => k = w.heap.size + 1)
    (fun k hk => ⟨by rw [hs3.out]; (try dsimp only at hk); omega, by (try dsimp only at hk ⊢); omega⟩) ?hI ?hIx (fun _ _ _ => trivial) ⟨hg3, Nat.le_refl _, c0, c1, k1, rfl⟩ ?round ?done ?stop
  case hI =>
    rintro pre A B ⟨h1, h2, h3, h4, h5, h6⟩ hch
    replace hch := hch.mono (T' := fun k => k = w.heap.size + 1 + 1 ∨ w3.heap.size ≤ k) (fun k hk => hk.imp id And.left)
    have e := hs3.out
    have hn : ∀ k, k < w.heap.size + 2 → ¬ (k = w.heap.size + 1 + 1 ∨ w3.heap.size ≤ k) := fun k hk h => by omega
    exact ⟨h1.ch hch (fun k hk => by omega), Nat.le_trans h2 hch.size, (hch.cell (cell_lt h3) (hn _ (by (try dsimp only); omega))).trans h3, (hch.cell (cell_lt h4) (hn _ (by (try dsimp only); omega))).trans h4, (hch.frozen (cell_lt h4) (hn _ (by (try dsimp only); omega))).trans h5, h6⟩
  case hIx =>
    rintro c pre A B ⟨rfl, h1, h4, h6⟩ hch
    replace hch := hch.mono (T' := fun k => k = w.heap.size + 1 + 1 ∨ w3.heap.size ≤ k) (fun k hk => hk.imp id And.left)
    have e := hs3.out
    have hn : ∀ k, k < w.heap.size + 2 → ¬ (k = w.heap.size + 1 + 1 ∨ w3.heap.size ≤ k) := fun k hk h => by omega
    exact ⟨rfl, h1.ch hch (fun k hk => by omega), (hch.cell (cell_lt h4) (hn _ (by (try dsimp only); omega))).trans h4, h6⟩
  case round =>
    intro l' pre x rest A hl' hlt hxs hI
    obtain ⟨h1, h2, h3, h4, h5, h6⟩ := hI
    have hxl : x.length ≤ 9223372036854775807 := by
      have := partsB_len l x (by rw [hxs]; simp)
      omega
    have h6' := Lib.hid h6
    have e := hs3.out
    have hne0 : w.heap.size ≠ l' := by omega
    have hne1 : w.heap.size + 1 ≠ l' := by omega
    have hne0' := Lib.hid hne0
    have hne1' := Lib.hid hne1
    have hll : w.heap.size ≤ l' := by omega
    have hz0 : w.heap.size < A.heap.size := by omega
    have hz1 : w.heap.size + 1 < A.heap.size := by omega
    clear h6 e hne0 hne1 hxs
    gi_wp2
    refine ⟨Ch.refl _ _, fun A2 hA2 => ?_⟩
    have d0 : A2.cell? ⟨w.heap.size, 0, none⟩ = some (.string ⟨word.toArray⟩) := (hA2.cell hz0 hne0'.out).trans h3
    have d1 : A2.cell? ⟨w.heap.size + 1, 0, none⟩ = some (.bool false) := (hA2.cell hz1 hne1'.out).trans h4
    have dk : A2.frozen? ⟨w.heap.size + 1, 0, none⟩ = false := (hA2.frozen hz1 hne1'.out).trans h5
    have hg2 : Gr w A2 := h1.ch hA2 (fun k hk => by (try dsimp only at hk); omega)
    have hsz2 : w3.heap.size ≤ A2.heap.size := Nat.le_trans h2 hA2.size
    clear h3 h4 h5 h1 hA2
    cases ha : alikeB x word
    all_goals have ha' := Lib.hid ha
    all_goals clear ha
    all_goals gi_wp2_with (gi_at_call 27; refine (CallsIn.inRound l' (callsIn_wide.2 (alike_any x word _ (hG'.out.gr hg2) hxl hw))).mono ?_; rintro e A3 ⟨rfl, hb⟩; rw [ha'.out]; have d0' := hb.cell d0; have d1' := hb.cell d1; have dk' := (Below.frozen hb (cell_lt d1)).trans dk)
    · exact ⟨hb.to_ch _, hg2.trans hb, Nat.le_trans hsz2 (Below.size hb), d0', d1', dk', by rw [List.any_append, h6'.out]; simp [ha'.out]⟩
    · exact ⟨(hb.to_ch _).trans (Ch.setCell (T := fun k => k = w.heap.size + 1) _ rfl _), rfl, (hg2.trans hb).setCell (by (try dsimp only); omega) _, cell_set_same d1', by rw [List.any_append]; simp [ha'.out]⟩
  case done =>
    rintro D A hD ⟨h1, h2, h3, h4, h5, h6⟩ hK
    have hres := Lib.hid (show hasB l word = false from h6)
    have hDn : D ≠ w.heap.size + 1 := by have := hs3.out; omega
    have hDn' := Lib.hid hDn
    clear h6 hDn
    gi_wp2
    have hK2 : (A.setCell ⟨w.heap.size + 1, 0, none⟩ (.bool false)).heap[D]? = some (.deferred (some [])) := (Below.heap_setCell _ _ _ _ hDn'.out).trans hK
    have hc2 : ((A.setCell ⟨w.heap.size + 1, 0, none⟩ (.bool false)).putObj D (.deferred none)).cell? ⟨w.heap.size + 1, 0, none⟩ = some (.bool false) :=
      (World.cell?_of_block (World.putObj_heap_other (Ne.symm hDn'.out))).trans (cell_set_same h4)
    refine ⟨by simp, .inl ⟨_, _, rfl, run_takeDeferred hK2, ?_⟩⟩
    refine ⟨.bool false, by simp [results, Tryz.results28, go_sem, hc2], by rw [hres.out], ?_⟩
    exact (h1.setCell (by (try dsimp only); omega) _).ch (Ch.putObj (T := fun k => k = D) _ rfl _) (fun k hk => by have := hs3.out; omega)
  case stop =>
    rintro D c pre A hD hpre ⟨rfl, h1, h4, h6⟩ hK
    have hres := Lib.hid (show hasB l word = true from by
      obtain ⟨r, hr⟩ := hpre
      unfold hasB; rw [← hr, List.any_append, h6]; rfl)
    have hDn : D ≠ w.heap.size + 1 := by have := hs3.out; omega
    have hDn' := Lib.hid hDn
    clear h6 hDn
    gi_wp2
    have hc2 : (A.putObj D (.deferred none)).cell? ⟨w.heap.size + 1, 0, none⟩ = some (.bool true) := (World.cell?_of_block (World.putObj_heap_other (Ne.symm hDn'.out))).trans h4
    refine ⟨by simp, .inl ⟨_, _, rfl, run_takeDeferred hK, ?_⟩⟩
    refine ⟨.bool true, by simp [results, Tryz.results28, go_sem, hc2], by rw [hres.out], ?_⟩
    exact h1.ch (Ch.putObj (T := fun k => k = D) _ rfl _) (fun k hk => by have := hs3.out; omega)
end Go.Proofs.YtheihlalgekojaaGreatDoor
