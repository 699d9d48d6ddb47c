/-
  The walk over FieldReads.
-/
import Derived.Test.YtpjocannogcejaaDoorL
namespace Go.Proofs.YtpjocannogcejaaDoor
open Go.RowKit Go.Shelf
attribute [local go_sem] Oper.semAt_some

theorem rparse_is (l n v : List UInt8) (ok : Bool) (h : parseB l = (n, v, ok)) (w : World) (hl : l.length ≤ 9223372036854775806) :
    Calls Tryd.prog 17 #[.string ⟨l.toArray⟩] w fun e w' => e = .returned (.tuple #[.agg #[.string ⟨n.toArray⟩, .string ⟨v.toArray⟩], .bool ok]) ∧ Gr w w' := by
  have := rparse_any l w hl
  rwa [h] at this

set_option maxHeartbeats 4000000 in
theorem reads_any (l t : List UInt8) (w : World) (hG : G w) (hl : l.length ≤ 9223372036854775807) (ht : t.length ≤ 9223372036854775807) :
    Calls Tryd.prog 4 #[.string ⟨l.toArray⟩, .string ⟨t.toArray⟩] w fun e w' => e = .returned (.bool true) ∧ Gr w w' := by
  refine (callsIn_wide (n := 0)).1 ?_
  have hfn : ∀ f, Fence.wide.fn f := fun _ => trivial
  have hdp : Fence.wide.depth = none := rfl
  have hG' := Lib.hid hG
  clear hG
  by_cases hsmall : l.length ≤ 3000 ∧ t.length ≤ 3000
  · obtain ⟨hls, hts⟩ := hsmall
    refine callsIn_of_wp_marks Tryd.func4 rfl trivial ?_ rfl
    simp only [Tryd.ntmps4, List.size_toArray, List.length_cons, List.length_nil, Nat.reduceAdd, Nat.reduceSub, Array.replicate_succ, Array.replicate_zero, List.push_toArray, List.append_toArray, List.nil_append, List.cons_append]
    gi_wp2_with fail
    refine (callsIn_wide.2 (awake_any _ (hG'.out.gr (Gr.alloc _ _)))).mono ?_
    rintro e w1 ⟨rfl, hb⟩
    have c1 : w1.cell? ⟨w.heap.size, 0, none⟩ = some (.bool false) := hb.cell (by simp [go_sem])
    have k1 : w1.frozen? ⟨w.heap.size, 0, none⟩ = false := (Below.frozen hb (by simp)).trans (by simp [go_sem])
    have hg1 := Lib.hid ((Gr.alloc _ _).trans hb)
    clear hb
    obtain ⟨⟨n, v, ok⟩, hp⟩ : ∃ r, parseB l = r := ⟨_, rfl⟩
    have hp' := Lib.hid hp
    clear hp
    gi_wp2_with fail
    refine (callsIn_wide.2 (parse_is l n v ok hp'.out _ (hG'.out.gr hg1.out) (by omega))).mono ?_
    rintro e w2 ⟨rfl, hb⟩
    have c2 := hb.cell c1
    have k2 := (Below.frozen hb (cell_lt c1)).trans k1
    have hg2 := Lib.hid (hg1.out.trans hb)
    clear hb c1 k1
    gi_wp2_with fail
    refine (callsIn_wide.2 (rparse_is l n v ok hp'.out _ (by omega))).mono ?_
    rintro e w3 ⟨rfl, hb⟩
    have c3 := (((Gr.alloc _ _).trans hb).cell c2)
    have k3 := (Below.frozen ((Gr.alloc _ _).trans hb) (cell_lt c2)).trans k2
    obtain ⟨hce3, _⟩ := hb.bcell
    have hz3 : w2.heap.size < w3.heap.size := by have := Below.size hb; simp at this; omega
    have hg3 := Lib.hid ((hg2.out.alloc1 _).trans hb)
    clear hb c2 k2
    gi_wp2_with fail
    refine (callsIn_wide.2 (token_any l _ (by omega))).mono ?_
    rintro e w4 ⟨rfl, rfl⟩
    gi_wp2_with fail
    refine (callsIn_wide.2 (rtoken_any l _ (by omega))).mono ?_
    rintro e w4 ⟨rfl, rfl⟩
    have c4 := (Gr.alloc w3 (.cells #[.string ⟨n.toArray⟩, .string ⟨v.toArray⟩] 23)).cell c3
    have k4 := (Below.frozen (Gr.alloc w3 (.cells #[.string ⟨n.toArray⟩, .string ⟨v.toArray⟩] 23)) (cell_lt c3)).trans k3
    have hg4 := Lib.hid (hg3.out.alloc1 (.cells #[.string ⟨n.toArray⟩, .string ⟨v.toArray⟩] 23))
    clear c3 k3 hce3 hz3
    generalize (w3.alloc (.cells #[.string ⟨n.toArray⟩, .string ⟨v.toArray⟩] 23)) = w4 at c4 k4 hg4 ⊢
    gi_wp2_with fail
    refine (callsIn_wide.2 (alike_any l t _ (hG'.out.gr hg4.out) (by omega) (by omega))).mono ?_
    rintro e w5 ⟨rfl, hb⟩
    have c5 := hb.cell c4
    have k5 := (Below.frozen hb (cell_lt c4)).trans k4
    have hg5 := Lib.hid (hg4.out.trans hb)
    clear hb c4 k4
    gi_wp2_with fail
    refine (callsIn_wide.2 (ralike_any l t _ (by omega) (by omega))).mono ?_
    rintro e w6 ⟨rfl, hb⟩
    have c6 := hb.cell c5
    have k6 := (Below.frozen hb (cell_lt c5)).trans k5
    have hg6 := Lib.hid (hg5.out.trans hb)
    clear hb c5 k5
    gi_wp2_with fail
    refine (callsIn_wide.2 (has_any l t _ (hG'.out.gr hg6.out) (by omega) (by omega))).mono ?_
    rintro e w7 ⟨rfl, hb⟩
    have c7 := hb.cell c6
    have k7 := (Below.frozen hb (cell_lt c6)).trans k6
    have hg7 := Lib.hid (hg6.out.trans hb)
    clear hb c6 k6
    gi_wp2_with fail
    refine (callsIn_wide.2 (rhas_any l t _ (by omega) (by omega))).mono ?_
    rintro e w8 ⟨rfl, hb⟩
    have c8 := hb.cell c7
    have k8 := (Below.frozen hb (cell_lt c7)).trans k7
    have hg8 := Lib.hid (hg7.out.trans hb)
    clear hb c7 k7
    gi_wp2_with fail
    refine (callsIn_wide.2 (rparts_any l _ (by omega))).mono ?_
    rintro e w9 ⟨ps, rfl, hstr, hb⟩
    have c9 := hb.cell c8
    have k9 := (Below.frozen hb (cell_lt c8)).trans k8
    have hg9 := Lib.hid (hg8.out.trans hb)
    clear hb c8 k8
    obtain ⟨pp, cap, rfl, hcell⟩ := hstr
    have hcell' := Lib.hid hcell
    clear hcell
    have hnf := fun (w : World) f x c => run_eql_func_nil (P := Tryd.prog) w Tryd.underlying27 f x c
    have hev : ∀ b, eachV b = Value.func (.func 28) #[] #[.pointer (some ⟨b, 0, none⟩)] := fun _ => rfl
    gi_wp2_with fail
    refine (callsIn_wide.2 (each_any _ _)).mono ?_
    rintro e wa ⟨rfl, rfl⟩
    gi_wp2_with fail
    refine (callsIn_wide.2 (each_any _ _)).mono ?_
    rintro e wa ⟨rfl, rfl⟩
    gi_wp2_with fail
    obtain ⟨wa, hwa⟩ : ∃ wa, (((w9.alloc (.cells #[.slice pp (partsB l).length cap] 34)).alloc (.cells #[.int .i64 0] 3)).alloc (.cells #[.string ⟨l.toArray⟩] 9)).alloc (.cells #[.string ⟨l.toArray⟩] 9) = wa := ⟨_, rfl⟩
    rw [hwa]
    have hsa := Lib.hid (show wa.heap.size = w9.heap.size + 4 by rw [← hwa]; simp)
    have hgra : Gr w9 wa := by rw [← hwa]; exact (((Gr.alloc _ _).alloc1 _).alloc1 _).alloc1 _
    have d0 := hgra.cell c9
    have kd := (Below.frozen hgra (cell_lt c9)).trans k9
    have d1 : wa.cell? ⟨w9.heap.size, 0, none⟩ = some (.slice pp (partsB l).length cap) := by rw [← hwa]; simp [go_sem]
    have d2 : wa.cell? ⟨w9.heap.size + 1, 0, none⟩ = some (.int .i64 0) := by rw [← hwa]; simp [go_sem]
    have k2 : wa.frozen? ⟨w9.heap.size + 1, 0, none⟩ = false := by rw [← hwa]; simp [go_sem]
    have d3 : wa.cell? ⟨w9.heap.size + 1 + 1 + 1, 0, none⟩ = some (.string ⟨l.toArray⟩) := by rw [← hwa]; simp [go_sem]
    have hw9 := Lib.hid (show w.heap.size < w9.heap.size from cell_lt c9)
    have hga := Lib.hid (hg9.out.trans hgra)
    have hcella := Lib.hid (show ∀ (i : Nat) (hi : i < (partsB l).length), ∃ b off, pp = some ⟨b, off, none⟩ ∧ b < w9.heap.size ∧ wa.cell? ⟨b, off + i, none⟩ = some (.string ⟨(partsB l)[i].toArray⟩) from fun i hi =>
      let ⟨b, off, h1, h2⟩ := hcell'.out i hi; ⟨b, off, h1, cell_lt h2, hgra.cell h2⟩)
    clear hwa hnf hev hcell' hgra c9 k9
    have hpn := Lib.hid (show (partsB l).length ≤ 3001 from Nat.le_trans (partsOf_len _) (Nat.le_trans (splitB_length 44 l) (by omega)))
    refine wpIn_range (gf := 28) rfl (enters_of Tryd.func28 (by kernel_rfl) rfl) (each_iter _ wa _ d3 (by omega)) (Nat.le_refl _) (fun k hk => ⟨by rw [hsa.out]; (try dsimp only at hk); omega, rfl⟩) (fun _ => rfl)
      (fun pre A => Ch (fun k => w9.heap.size ≤ k) wa A ∧ A.cell? ⟨w9.heap.size, 0, none⟩ = some (.slice pp (partsB l).length cap) ∧ A.cell? ⟨w9.heap.size + 1, 0, none⟩ = some (.int .i64 pre.length) ∧ A.frozen? ⟨w9.heap.size + 1, 0, none⟩ = false)
      (fun _ _ _ => False) (fun k => k = w9.heap.size + 1)
      (fun k hk => ⟨by rw [hsa.out]; (try dsimp only at hk); omega, by (try dsimp only at hk ⊢); omega⟩) ?hI (fun _ _ _ _ h _ => h) (fun _ _ _ => trivial) ⟨Ch.refl _ _, d1, d2, k2⟩ ?round ?done (fun _ _ _ _ _ _ h _ => h.elim)
    case hI =>
      rintro pre A B ⟨h1, h3, h4, h5⟩ hch
      have e := hsa.out
      have hn : ∀ k, k < w9.heap.size + 2 → ¬ (k = w9.heap.size + 1 + 1 + 1 ∨ wa.heap.size ≤ k) := fun k hk h => by omega
      exact ⟨h1.trans (hch.mono (fun k hk => by (try dsimp only at hk ⊢); omega)), (hch.cell (cell_lt h3) (hn _ (by (try dsimp only); omega))).trans h3, (hch.cell (cell_lt h4) (hn _ (by (try dsimp only); omega))).trans h4, (hch.frozen (cell_lt h4) (hn _ (by (try dsimp only); omega))).trans h5⟩
    case round =>
      intro l' pre x rest A hl' hlt hxs hI
      obtain ⟨h1, h3, h4, h5⟩ := hI
      have e := hsa.out
      have hne0' := Lib.hid (show w9.heap.size ≠ l' by omega)
      have hne1' := Lib.hid (show w9.heap.size + 1 ≠ l' by omega)
      have hll : w9.heap.size ≤ l' := by omega
      have hlen : pre.length < (partsB l).length := by rw [hxs]; simp
      have hget : (partsB l)[pre.length] = x := by simp [hxs]
      obtain ⟨b, off, rfl, hbl, hcx⟩ := hcella.out pre.length hlen
      rw [hget] at hcx
      have hcA := (h1.cell (cell_lt hcx) (by (try dsimp only); omega)).trans hcx
      have hnb : b ≠ l' := by omega
      have hbA : b < A.heap.size := by have := h1.size; omega
      have hnb' := Lib.hid hnb
      have hp3 := hpn.out
      clear e hxs hget hcx hnb
      gi_wp2
      refine ⟨Ch.refl _ _, fun A2 hA2 => ?_⟩
      have f3 := (hA2.cell (cell_lt h3) hne0'.out).trans h3
      have f4 := (hA2.cell (cell_lt h4) hne1'.out).trans h4
      have f5 := (hA2.frozen (cell_lt h4) hne1'.out).trans h5
      have fx := (hA2.cell (p := ⟨b, off + pre.length, none⟩) hbA hnb'.out).trans hcA
      have hc2 := Lib.hid (h1.trans (hA2.mono (fun k hk => by (try dsimp only at hk ⊢); omega)))
      clear h1 h3 h4 h5 hA2 hcA hbA
      gi_wp2
      exact ⟨Ch.setCell (T := fun k => k = w9.heap.size + 1) _ rfl _, hc2.out.trans (Ch.setCell _ (by (try dsimp only); omega) _), cell_set_other f3 (by (try dsimp only); omega), by rw [List.length_append]; exact cell_set_same f4, by rw [frozen_set]; exact f5⟩
    case done =>
      rintro D A hD ⟨h1, h3, h4, h5⟩ hK
      have g0 := (h1.cell (cell_lt d0) (by have := hw9.out; (try dsimp only); omega)).trans d0
      have gk := (h1.frozen (cell_lt d0) (by have := hw9.out; (try dsimp only); omega)).trans kd
      have hDn := Lib.hid (show D ≠ w.heap.size by have := hw9.out; have := hsa.out; omega)
      gi_wp2
      have hK2 : (A.setCell ⟨w.heap.size, 0, none⟩ (.bool true)).heap[D]? = some (.deferred (some [])) := (Below.heap_setCell _ _ _ _ hDn.out).trans hK
      have hc2 : ((A.setCell ⟨w.heap.size, 0, none⟩ (.bool true)).putObj D (.deferred none)).cell? ⟨w.heap.size, 0, none⟩ = some (.bool true) :=
        (World.cell?_of_block (World.putObj_heap_other (Ne.symm hDn.out))).trans (cell_set_same g0)
      refine ⟨by simp, .inl ⟨_, _, rfl, run_takeDeferred hK2, ?_⟩⟩
      refine ⟨.bool true, by simp [results, Tryd.results4, go_sem, hc2], rfl, ?_⟩
      have hgA : Gr w A := hga.out.ch h1 (fun k hk => by have := hw9.out; (try dsimp only at hk); omega)
      exact (hgA.setCell (Nat.le_refl _) _).ch (Ch.putObj (T := fun k => k = D) _ rfl _) (fun k hk => by have := hw9.out; have := hsa.out; omega)
  · refine callsIn_of_wp_marks Tryd.func4 rfl trivial ?_ rfl
    simp only [Tryd.ntmps4, List.size_toArray, List.length_cons, List.length_nil, Nat.reduceAdd, Nat.reduceSub, Array.replicate_succ, Array.replicate_zero, List.push_toArray, List.append_toArray, List.nil_append, List.cons_append]
    gi_wp2_with fail
    refine (callsIn_wide.2 (awake_any _ (hG'.out.gr (Gr.alloc _ _)))).mono ?_
    rintro e w1 ⟨rfl, hb⟩
    have c1 : w1.cell? ⟨w.heap.size, 0, none⟩ = some (.bool false) := hb.cell (by simp [go_sem])
    have k1 : w1.frozen? ⟨w.heap.size, 0, none⟩ = false := (Below.frozen hb (by simp)).trans (by simp [go_sem])
    have hg1 := Lib.hid ((Gr.alloc _ _).trans hb)
    clear hb
    have hor : 3000 < l.length ∨ (l.length ≤ 3000 ∧ 3000 < t.length) := by omega
    clear hsmall
    rcases hor with h | ⟨h, h2⟩
    all_goals gi_wp2_with fail
    all_goals
      have hc2 : (w1.setCell ⟨w.heap.size, 0, none⟩ (.bool true)).cell? ⟨w.heap.size, 0, none⟩ = some (.bool true) := cell_set_same c1
      exact ⟨.bool true, by simp [results, Tryd.results4, go_sem, hc2], rfl, hg1.out.setCell (Nat.le_refl _) _⟩
end Go.Proofs.YtpjocannogcejaaDoor
