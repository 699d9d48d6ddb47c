/-
  Walks over package sha: the words of a block's rounds.
-/
import Derived.Test.YtheihlalgekojaaDoorSb
import Derived.StillTail
import Derived.Test.YtheihlalgekojaaDoorAg
namespace Go.Proofs.YtheihlalgekojaaDoor
open Go.RowKit
attribute [local go_sem] Oper.semAt_some

def wordsV (s : List UInt8) : Value := .agg ((List.range 80).map fun j => Value.int .u32 (wS s j)).toArray
theorem bigN_word (s : List UInt8) (t : Nat) : bigN (s.drop (4 * t)) 4 = word0 s t := by
  have e : ∀ i, byteN (s.drop (4 * t)) i = byteN s (4 * t + i) := fun i => by simp [byteN, List.getD_eq_getElem?_getD]
  simp only [bigN, e, word0]
  simp
theorem rot1_later (C : World → Prop) {x r : Nat} (hr : rotW 1 x = r) (hx : x < 4294967296) (y : Later C) :
    Calls Tryd.prog 64 #[.int .u32 x, .int .i64 1] y.w fun e w' => e = .returned (.int .u32 r) ∧ ∃ z : Later C, w' = z.w :=
  Calls.later ((rot1_any x hx y.w).mono fun _ _ ⟨h1, h2⟩ => ⟨hr ▸ h1, h2 ▸ y.ok⟩)
theorem cells_step {wr : World} {b t W n : Nat} {f : Nat → Nat} (hc : ∀ j, j < n → wr.cell? ⟨b, j, none⟩ = some (.int .u32 ((if j < t then f j else 0 : Nat) : Int))) (ht : t < n) (hW : f t = W) :
    ∀ j, j < n → (wr.setCell ⟨b, t, none⟩ (.int .u32 W)).cell? ⟨b, j, none⟩ = some (.int .u32 ((if j < t + 1 then f j else 0 : Nat) : Int)) := fun j hj => by
  by_cases h : j = t
  · subst h; rw [if_pos (by omega), hW]; exact cell_set_same (hc j hj)
  · rw [cell_off (hc j hj) h]
    by_cases h2 : j < t
    · rw [if_pos h2, if_pos (by omega)]
    · rw [if_neg h2, if_neg (by omega)]
set_option maxHeartbeats 4000000 in
set_option maxRecDepth 100000 in
theorem schedule_any (s : List UInt8) (hs : s.length = 64) (w : World) : Calls Tryd.prog 62 #[.string ⟨s.toArray⟩] w fun e w' => e = .returned (wordsV s) ∧ Gr w w' := by
  have hs' := Lib.hid hs
  have hsl : s.length ≤ 64 := by omega
  have hsg : 64 ≤ s.length := by omega
  clear hs
  go_enter Tryd.func62, Tryd.ntmps62
  go_wp2
  obtain ⟨b, hb⟩ : ∃ b, w.heap.size = b := ⟨_, rfl⟩
  have hb' := Lib.hid hb
  have h80 : Tryd.zeroCells94 = Array.replicate 80 (.int .u32 0) := by kernel_rfl
  have hcs := Lib.hid (show ∀ j, j < 80 → (w.alloc (.cells Tryd.zeroCells94 94)).cell? ⟨b, j, none⟩ = some (.int .u32 ((if j < 0 then wS s j else 0 : Nat) : Int)) by
    intro j hj
    rw [← hb, h80]
    simp only [World.cell?, World.alloc_heap_new]
    rw [Array.getElem?_replicate, if_pos hj]; rfl)
  have hfz := Lib.hid (show ∀ j, (w.alloc (.cells Tryd.zeroCells94 94)).frozen? ⟨b, j, none⟩ = false from hb ▸ fun j => World.frozen?_alloc_at _ _ _ _ rfl)
  rw [hb]
  clear h80 hb
  go_loopw [4] (fun i wr => ∃ t : Nat, t ≤ 80 ∧ i = .int .i64 t ∧ (∀ j, j < 80 → wr.cell? ⟨b, j, none⟩ = some (.int .u32 ((if j < t then wS s j else 0 : Nat) : Int))) ∧ (∀ j, wr.frozen? ⟨b, j, none⟩ = false) ∧ Gr w wr) (fun i _ => 80 - (intOf i).toNat)
  case atStart => exact ⟨0, by omega, rfl, hcs.out, hfz.out, Gr.alloc _ _⟩
  case round =>
    obtain ⟨t, ht, rfl, hc, hf, hg⟩ := hrel
    have hc' := Lib.hid hc
    have hf' := Lib.hid hf
    have hg' := Lib.hid hg
    clear hc hf hg
    by_cases h80 : t < 80
    · have h80I : (t : Int) < 80 := by omega
      have hct := hc'.out t h80
      have hft := hf'.out t
      have hbl : b < wr.heap.size := cell_lt hct
      by_cases h16 : t < 16
      · have h16I : (t : Int) < 16 := by omega
        have hx : (⟨s.toArray⟩ : ByteArray).extract (4 * t) s.length = ⟨(s.drop (4 * t)).toArray⟩ := by rw [extract_mk]; simp
        obtain ⟨v, hv⟩ : ∃ v, s.drop (4 * t) = v := ⟨_, rfl⟩
        have hvl := Lib.hid (show 4 ≤ v.length by rw [← hv, List.length_drop]; omega)
        have hvl2 := Lib.hid (show v.length ≤ 1000000 by rw [← hv, List.length_drop]; omega)
        have hw0 := Lib.hid (show bigN v 4 = wS s t by rw [← hv, bigN_word, wS_low s h16])
        rw [hv] at hx
        obtain ⟨W, hW⟩ : ∃ W, wS s t = W := ⟨_, rfl⟩
        have hWl : (W : Int) < 4294967296 := by have := wS_lt s t; omega
        have hWw : IntKind.u32.wrap (W : Int) = W := by rw [Go.IntKind.wrap_u32']; omega
        rw [hW] at hw0
        have hW' := Lib.hid hW
        clear hv hW
        go_wp2_with fail
        refine (getBig_any v hvl.out hvl2.out _).mono ?_
        rintro e w1 ⟨he, rfl⟩
        rw [hw0.out] at he
        subst he
        go_wp2
        go_roundw
        case rel => exact ⟨t + 1, by omega, by go_num, cells_step hc'.out h80 hW'.out, fun j => frozen_set.trans (hf'.out j), hg'.out.setCell (Nat.le_of_eq hb'.out) _⟩
        case measure => simp [intOf]; omega
      · have h16I : ¬ (t : Int) < 16 := by omega
        have d1 := hc'.out (t - 3) (by omega)
        have d2 := hc'.out (t - 8) (by omega)
        have d3 := hc'.out (t - 14) (by omega)
        have d4 := hc'.out (t - 16) (by omega)
        rw [if_pos (by omega)] at d1 d2 d3 d4
        have hwr := wS_high s h16
        have k1 := wS_lt s (t - 3)
        have k2 := wS_lt s (t - 8)
        have k3 := wS_lt s (t - 14)
        have k4 := wS_lt s (t - 16)
        obtain ⟨x1, hx1⟩ : ∃ x, wS s (t - 3) = x := ⟨_, rfl⟩
        obtain ⟨x2, hx2⟩ : ∃ x, wS s (t - 8) = x := ⟨_, rfl⟩
        obtain ⟨x3, hx3⟩ : ∃ x, wS s (t - 14) = x := ⟨_, rfl⟩
        obtain ⟨x4, hx4⟩ : ∃ x, wS s (t - 16) = x := ⟨_, rfl⟩
        rw [hx1] at d1 k1
        rw [hx2] at d2 k2
        rw [hx3] at d3 k3
        rw [hx4] at d4 k4
        rw [hx1, hx2, hx3, hx4] at hwr
        have y1 := xor32 k1 k2
        have y2 := xor32 (xor_lt32 k1 k2) k3
        have y3 := xor32 (xor_lt32 (xor_lt32 k1 k2) k3) k4
        have yl := xor_lt32 (xor_lt32 (xor_lt32 k1 k2) k3) k4
        obtain ⟨z1, hz1⟩ : ∃ z, x1 ^^^ x2 = z := ⟨_, rfl⟩
        rw [hz1] at y1 y2 y3 yl hwr
        obtain ⟨z2, hz2⟩ : ∃ z, z1 ^^^ x3 = z := ⟨_, rfl⟩
        rw [hz2] at y2 y3 yl hwr
        obtain ⟨z3, hz3⟩ : ∃ z, z2 ^^^ x4 = z := ⟨_, rfl⟩
        rw [hz3] at y3 yl hwr
        obtain ⟨W, hW⟩ : ∃ W, wS s t = W := ⟨_, rfl⟩
        rw [hW] at hwr
        have hwr' := Lib.hid hwr.symm
        have yl' := Lib.hid yl
        have hW' := Lib.hid hW
        have e1 : IntKind.i64.wrap ((t : Int) - 3) = (t : Int) - 3 := IntWalk.i64_in _ (by omega)
        have e2 : IntKind.i64.wrap ((t : Int) - 8) = (t : Int) - 8 := IntWalk.i64_in _ (by omega)
        have e3 : IntKind.i64.wrap ((t : Int) - 14) = (t : Int) - 14 := IntWalk.i64_in _ (by omega)
        have e4 : IntKind.i64.wrap ((t : Int) - 16) = (t : Int) - 16 := IntWalk.i64_in _ (by omega)
        have p1 : 3 ≤ (t : Int) := by omega
        have p2 : 8 ≤ (t : Int) := by omega
        have p3 : 14 ≤ (t : Int) := by omega
        have p4 : 16 ≤ (t : Int) := by omega
        have n1 : ((t : Int) - 3).toNat = t - 3 := by omega
        have n2 : ((t : Int) - 8).toNat = t - 8 := by omega
        have n3 : ((t : Int) - 14).toNat = t - 14 := by omega
        have n4 : ((t : Int) - 16).toNat = t - 16 := by omega
        clear hx1 hx2 hx3 hx4 k1 k2 k3 k4 hz1 hz2 hz3 hwr hW yl
        have t1 : ∀ y : Later (Gr wr), y.w.cell? ⟨b, t - 3, none⟩ = some (.int .u32 x1) := fun y => y.ok.cell d1
        have t2 : ∀ y : Later (Gr wr), y.w.cell? ⟨b, t - 8, none⟩ = some (.int .u32 x2) := fun y => y.ok.cell d2
        have t3 : ∀ y : Later (Gr wr), y.w.cell? ⟨b, t - 14, none⟩ = some (.int .u32 x3) := fun y => y.ok.cell d3
        have t4 : ∀ y : Later (Gr wr), y.w.cell? ⟨b, t - 16, none⟩ = some (.int .u32 x4) := fun y => y.ok.cell d4
        haveI : Nonempty (Later (Gr wr)) := ⟨⟨wr, Gr.refl wr⟩⟩
        go_upto_region 6 with (fail)
        refine wp_region_later_tail (C := Gr wr) 22 (by kernel_rfl) (by kernel_rfl) (Gr.drew' _) ?_
        simp only [List.take_succ_cons, List.take_zero, List.drop_succ_cons, List.drop_zero]
        repeat (go_big_quiet_step (with_reducible exact rot1_later _ hwr'.out yl'.out _))
        refine wpQuiet_nil ?_
        intro w9 hg9
        have hc9 := Lib.hid (fun j (hj : j < 80) => hg9.cell (hc'.out j hj))
        have hf9 := Lib.hid (fun j => (Below.frozen hg9 (p := ⟨b, j, none⟩) hbl).trans (hf'.out j))
        have hct9 := hc9.out t h80
        have hft9 := hf9.out t
        have hg9' := Lib.hid (hg'.out.trans hg9)
        clear hg9 t1 t2 t3 t4 hct hft d1 d2 d3 d4
        go_wp2
        go_roundw
        case rel => exact ⟨t + 1, by omega, by go_num, cells_step hc9.out h80 hW'.out, fun j => frozen_set.trans (hf9.out j), hg9'.out.setCell (Nat.le_of_eq hb'.out) _⟩
        case measure => simp [intOf]; omega
    · obtain rfl : t = 80 := by omega
      have hcs : ∀ j v, ((List.range 80).map fun j => Value.int .u32 (wS s j))[j]? = some v → wr.cell? ⟨b, 0 + j, none⟩ = some v := fun j v hv => by
        rw [List.getElem?_map] at hv
        obtain ⟨k, hk, rfl⟩ := Option.map_eq_some_iff.1 hv
        obtain ⟨hj, hjk⟩ := List.getElem?_eq_some_iff.1 hk
        rw [List.length_range] at hj
        rw [List.getElem_range] at hjk
        subst hjk
        rw [Nat.zero_add]
        have := hc'.out j hj
        rw [if_pos hj] at this
        exact this
      have hcs' := Lib.hid hcs
      clear hcs
      go_upto_region 8 with (fail)
      refine wp_region_lit ?_
      have hsz : (Tryd.prog.info? 94).map (·.size) = some ((List.range 80).map fun j => Value.int .u32 (wS s j)).length := by rw [List.length_map, List.length_range]; kernel_rfl
      have hth : wr.there b 0 80 := fun j hj => by
        rw [Nat.zero_add]
        exact ⟨by rw [hc'.out j hj]; rfl, hf'.out j⟩
      obtain ⟨cs, hcsd⟩ : ∃ cs, ((List.range 80).map fun j => Value.int .u32 (wS s j)) = cs := ⟨_, rfl⟩
      have hone : ∀ v ∈ cs, v.oneCell' = true := by
        rw [← hcsd]; intro v hv
        obtain ⟨j, _, rfl⟩ := List.mem_map.1 hv
        rfl
      have hlen : cs.length = 80 := by rw [← hcsd, List.length_map, List.length_range]
      have hV : wordsV s = .agg cs.toArray := by rw [← hcsd]; rfl
      rw [hcsd] at hcs' hsz
      refine wpList_load_mid rfl 94 _ rfl b 0 rfl cs _ hcs'.out Tryd.underlying94 rfl hsz ?_
      refine wpList_store_mid rfl 94 _ _ rfl b 0 cs.toArray rfl rfl (by simpa [hlen] using hth) (by simpa using hsz) (all_oneCell_toArray hone) ?_
      have hV' := Lib.hid hV
      have hsz' := Lib.hid hsz
      have hat := Lib.hid (World.rangeAt_setCells_same wr b 0 cs (by rw [hlen]; exact hth))
      have hg9 := Lib.hid (Gr.setCells (Nat.le_of_eq hb'.out) cs 0 hg'.out)
      clear hV hsz hcsd hone hlen hth
      simp only [List.toList_toArray]
      generalize wr.setCells b 0 cs = w9 at hat hg9 ⊢
      go_wp2
      refine bodyPost_ret (results_cell rfl rfl (run_loadVar_mid w9 b 0 94 cs _ hat.out Tryd.underlying94 rfl hsz'.out)) rfl ⟨by rw [hV'.out], hg9.out⟩
end Go.Proofs.YtheihlalgekojaaDoor
