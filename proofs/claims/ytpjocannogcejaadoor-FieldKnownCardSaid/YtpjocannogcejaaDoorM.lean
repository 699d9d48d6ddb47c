/-
  The walk over FieldKnown.
-/
import Derived.Test.YtpjocannogcejaaDoorL
namespace Go.Proofs.YtpjocannogcejaaDoor
open Go.RowKit Go.Shelf
attribute [local go_sem] Oper.semAt_some

theorem cKn1 : parseB [72, 111, 115, 116, 32, 58, 32, 97] = ([], [], false) := by decide +kernel
theorem cKn2 : parseB [58, 32, 97] = ([], [], false) := by decide +kernel
theorem cKn3 : parseB [88, 58] = ([88], [], true) := by decide +kernel
theorem cKn4 : partsB [97, 44, 32, 44, 98, 44, 44, 32, 67, 32] = [[97], [98], [67]] := by decide +kernel
theorem cKn5 : hasB [117, 112, 103, 114, 97, 100, 101, 100] [117, 112, 103, 114, 97, 100, 101] = false := by decide +kernel
theorem cKn6 : tokB [] = false := by decide +kernel
theorem cKn7 : tokB [97, 32, 98] = false := by decide +kernel
theorem cKn8 : alikeB [] [] = true := by decide +kernel
theorem cKn9 : alikeB [64] [96] = false := by decide +kernel
/-- What the loop has put together. -/
def catB (pre : List (List UInt8)) : List UInt8 := (pre.map (fun p => p ++ [47])).flatten
theorem catB_append (a b : List (List UInt8)) : catB (a ++ b) = catB a ++ catB b := by simp [catB]
theorem catB_snoc (pre : List (List UInt8)) (x : List UInt8) : catB (pre ++ [x]) = catB pre ++ (x ++ [47]) := by simp [catB]

set_option maxHeartbeats 2000000 in
theorem known_any (w : World) (hG : G w) : Calls Tryd.prog 3 #[] w fun e w' => e = .returned (.bool true) ∧ Gr w w' := by
  refine (callsIn_wide (n := 0)).1 ?_
  have hfn : ∀ f, Fence.wide.fn f := fun _ => trivial
  have hdp : Fence.wide.depth = none := rfl
  have hG' := Lib.hid hG
  clear hG
  refine callsIn_of_wp_marks Tryd.func3 rfl trivial ?_ rfl
  simp only [Tryd.ntmps3, List.size_toArray, List.length_cons, List.length_nil, Nat.reduceAdd, Nat.reduceSub, Array.replicate_succ, Array.replicate_zero, List.push_toArray, List.append_toArray, List.nil_append, List.cons_append]
  gi_wp2_with fail
  refine (callsIn_wide.2 (parse_is _ _ _ _ cKn1 _ hG'.out (by decide))).mono ?_
  rintro e w1 ⟨rfl, hb⟩
  have hg1 := Lib.hid hb
  clear hb
  gi_wp2_with fail
  refine (callsIn_wide.2 (parse_is _ _ _ _ cKn2 _ (hG'.out.gr (hg1.out.alloc1 _)) (by decide))).mono ?_
  rintro e w2 ⟨rfl, hb⟩
  have hg2 := Lib.hid ((hg1.out.alloc1 _).trans hb)
  clear hb
  gi_wp2_with fail
  refine (callsIn_wide.2 (parse_is _ _ _ _ cKn3 _ (hG'.out.gr (hg2.out.alloc1 _)) (by decide))).mono ?_
  rintro e w3 ⟨rfl, hb⟩
  have hg3 := Lib.hid ((hg2.out.alloc1 _).trans hb)
  clear hb
  have hnf := fun (w : World) f x c => run_eql_func_nil (P := Tryd.prog) w Tryd.underlying27 f x c
  have hev : ∀ b, eachV b = Value.func (.func 28) #[] #[.pointer (some ⟨b, 0, none⟩)] := fun _ => rfl
  gi_wp2_with fail
  refine (callsIn_wide.2 (each_any _ _)).mono ?_
  rintro e w4 ⟨rfl, rfl⟩
  gi_wp2_with fail
  refine (callsIn_wide.2 (each_any _ _)).mono ?_
  rintro e w4 ⟨rfl, rfl⟩
  gi_wp2_with fail
  obtain ⟨w4, hw4⟩ : ∃ w4, (((w3.alloc (.cells #[.string ⟨#[88]⟩, .string ⟨#[]⟩] 23)).alloc (.cells #[.string ⟨#[]⟩] 9)).alloc (.cells #[.string ⟨#[97, 44, 32, 44, 98, 44, 44, 32, 67, 32]⟩] 9)).alloc (.cells #[.string ⟨#[97, 44, 32, 44, 98, 44, 44, 32, 67, 32]⟩] 9) = w4 := ⟨_, rfl⟩
  rw [hw4]
  have hs4 := Lib.hid (show w4.heap.size = w3.heap.size + 4 by rw [← hw4]; simp)
  have c0 : w4.cell? ⟨w3.heap.size, 0, none⟩ = some (.string ⟨#[88]⟩) := by rw [← hw4]; simp [go_sem]
  have c1 : w4.cell? ⟨w3.heap.size, 0 + 1, none⟩ = some (.string ⟨#[]⟩) := by rw [← hw4]; simp [go_sem]
  have c2 : w4.cell? ⟨w3.heap.size + 1, 0, none⟩ = some (.string ⟨#[]⟩) := by rw [← hw4]; simp [go_sem]
  have k2 : w4.frozen? ⟨w3.heap.size + 1, 0, none⟩ = false := by rw [← hw4]; simp [go_sem]
  have c3 : w4.cell? ⟨w3.heap.size + 1 + 1 + 1, 0, none⟩ = some (.string ⟨#[97, 44, 32, 44, 98, 44, 44, 32, 67, 32]⟩) := by rw [← hw4]; simp [go_sem]
  have hg4 : Gr w w4 := by rw [← hw4]; exact (((hg3.out.alloc1 _).alloc1 _).alloc1 _).alloc1 _
  have hw3 := Lib.hid (show w.heap.size ≤ w3.heap.size from Below.size hg3.out)
  clear hw4 hnf hev
  refine wpIn_range (gf := 28) rfl (enters_of Tryd.func28 (by kernel_rfl) rfl) (each_iter _ w4 _ c3 (by decide)) (Nat.le_refl _) (fun k hk => ⟨by rw [hs4.out]; (try dsimp only at hk); omega, rfl⟩) (fun _ => rfl)
    (fun pre A => Gr w A ∧ w4.heap.size ≤ A.heap.size ∧ A.cell? ⟨w3.heap.size, 0, none⟩ = some (.string ⟨#[88]⟩) ∧ A.cell? ⟨w3.heap.size, 0 + 1, none⟩ = some (.string ⟨#[]⟩) ∧ A.cell? ⟨w3.heap.size + 1, 0, none⟩ = some (.string ⟨(catB pre).toArray⟩) ∧ A.frozen? ⟨w3.heap.size + 1, 0, none⟩ = false)
    (fun _ _ _ => False) (fun k => k = w3.heap.size + 1)
    (fun k hk => ⟨by rw [hs4.out]; (try dsimp only at hk); omega, by (try dsimp only at hk ⊢); omega⟩) ?hI (fun _ _ _ _ h _ => h) (fun _ _ _ => trivial) ⟨hg4, Nat.le_refl _, c0, c1, c2, k2⟩ ?round ?done (fun _ _ _ _ _ _ h _ => h.elim)
  case hI =>
    rintro pre A B ⟨h1, h2, h3, h4, h5, h6⟩ hch
    have e := hs4.out
    have e2 := hw3.out
    have hn : ∀ k, k < w3.heap.size + 2 → ¬ (k = w3.heap.size + 1 + 1 + 1 ∨ w4.heap.size ≤ k) := fun k hk h => by omega
    exact ⟨h1.ch hch (fun k hk => by omega), Nat.le_trans h2 hch.size, (hch.cell (cell_lt h3) (hn _ (by (try dsimp only); omega))).trans h3, (hch.cell (cell_lt h4) (hn _ (by (try dsimp only); omega))).trans h4, (hch.cell (cell_lt h5) (hn _ (by (try dsimp only); omega))).trans h5, (hch.frozen (cell_lt h5) (hn _ (by (try dsimp only); omega))).trans h6⟩
  case round =>
    intro l' pre x rest A hl' hlt hxs hI
    obtain ⟨h1, h2, h3, h4, h5, h6⟩ := hI
    have e := hs4.out
    have e3 := hw3.out
    have hne0' := Lib.hid (show w3.heap.size ≠ l' by omega)
    have hne1' := Lib.hid (show w3.heap.size + 1 ≠ l' by omega)
    have hll : w.heap.size ≤ l' := by omega
    have hxl : x.length ≤ 1000 := by
      have := partsB_len [97, 44, 32, 44, 98, 44, 44, 32, 67, 32] x (by rw [hxs]; simp)
      simp at this; omega
    have hcl : (catB pre).length ≤ 1000 := by
      have h := congrArg (fun l => (catB l).length) (cKn4.symm.trans hxs)
      simp only [catB_append, List.length_append] at h
      have h6 : (catB [[97], [98], [67]]).length = 6 := rfl
      omega
    clear e e3 hxs
    gi_wp2
    refine ⟨Ch.refl _ _, fun A2 hA2 => ?_⟩
    have d3 := (hA2.cell (cell_lt h3) hne0'.out).trans h3
    have d4 := (hA2.cell (cell_lt h4) hne0'.out).trans h4
    have d5 := (hA2.cell (cell_lt h5) hne1'.out).trans h5
    have d6 := (hA2.frozen (cell_lt h5) hne1'.out).trans h6
    have hg2 : Gr w A2 := h1.ch hA2 (fun k hk => by (try dsimp only at hk); omega)
    have hsz2 : w4.heap.size ≤ A2.heap.size := Nat.le_trans h2 hA2.size
    have hsn := Lib.hid (catB_snoc pre x)
    obtain ⟨cb, hcb⟩ : ∃ cb, catB pre = cb := ⟨_, rfl⟩
    rw [hcb] at d5 hsn hcl
    clear h1 h2 h3 h4 h5 h6 hA2 hcb
    gi_wp2
    have hco : ((⟨cb.toArray⟩ : ByteArray) ++ ⟨x.toArray⟩ ++ ⟨#[47]⟩) = ⟨(catB (pre ++ [x])).toArray⟩ := by
      rw [cat_mk, hsn.out]
      exact (cat_mk (cb ++ x) [47]).trans (by rw [List.append_assoc])
    rw [hco]
    exact ⟨Ch.setCell (T := fun k => k = w3.heap.size + 1) _ rfl _, hg2.setCell (by (try dsimp only); have := hw3.out; omega) _, by simpa using hsz2, cell_set_other d3 (by (try dsimp only); omega), cell_set_other d4 (by (try dsimp only); omega), cell_set_same d5, by rw [frozen_set]; exact d6⟩
  case done =>
    rintro D A hD ⟨h1, h2, h3, h4, h5, h6⟩ hK
    rw [cKn4, show catB [[97], [98], [67]] = [97, 47, 98, 47, 67, 47] from rfl] at h5
    have hA := Lib.hid h1
    have hKA := Lib.hid hK
    clear h1 h2 h6 hK
    have hDl : D < A.heap.size := (Array.getElem?_eq_some_iff.1 hKA.out).1
    have hDl' := Lib.hid hDl
    clear hDl
    gi_wp2_with fail
    refine (callsIn_wide.2 (get_is _ [] _ [] 0 rfl _ (hG'.out.gr hA.out) ⟨none, 0, rfl, fun i hi => absurd hi (Nat.not_lt_zero _)⟩ (by decide) (fun f hf => by cases hf) (by decide))).mono ?_
    rintro e A1 ⟨rfl, hb⟩
    have hA1 := Lib.hid hb
    have e3 := hb.cell h3
    have e4 := hb.cell h4
    have e5 := hb.cell h5
    clear hb h3 h4 h5
    gi_wp2_with fail
    refine (callsIn_wide.2 (awake_any _ (hG'.out.gr (hA.out.trans hA1.out)))).mono ?_
    rintro e A2 ⟨rfl, hb⟩
    have hA2 := Lib.hid (hA1.out.trans hb)
    have f3 := hb.cell e3
    have f4 := hb.cell e4
    have f5 := hb.cell e5
    clear hb e3 e4 e5
    gi_wp2_with fail
    refine (callsIn_wide.2 (has_is _ _ _ cKn5 _ (hG'.out.gr (hA.out.trans hA2.out)) (by decide) (by decide))).mono ?_
    rintro e A3 ⟨rfl, hb⟩
    have hA3 := Lib.hid (hA2.out.trans hb)
    clear hb f3 f4 f5
    gi_wp2_with fail
    refine (callsIn_wide.2 (token_is _ _ cKn6 _ (by decide))).mono ?_
    rintro e A4 ⟨rfl, rfl⟩
    gi_wp2_with fail
    refine (callsIn_wide.2 (token_is _ _ cKn7 _ (by decide))).mono ?_
    rintro e A4 ⟨rfl, rfl⟩
    gi_wp2_with fail
    refine (callsIn_wide.2 (alike_is _ _ _ cKn8 _ (hG'.out.gr (hA.out.trans hA3.out)) (by decide) (by decide))).mono ?_
    rintro e A4 ⟨rfl, hb⟩
    have hA4 := Lib.hid (hA3.out.trans hb)
    clear hb
    gi_wp2_with fail
    refine (callsIn_wide.2 (alike_is _ _ _ cKn9 _ (hG'.out.gr (hA.out.trans hA4.out)) (by decide) (by decide))).mono ?_
    rintro e A5 ⟨rfl, hb⟩
    have hA5 := Lib.hid (hA4.out.trans hb)
    clear hb
    gi_wp2_with fail
    refine ⟨by simp, .inl ⟨_, _, rfl, run_takeDeferred ((Below.block hA5.out D hDl'.out).trans hKA.out), ?_⟩⟩
    exact ⟨_, results_tmp rfl _ _ _, rfl, (hA.out.trans hA5.out).ch (Ch.putObj (T := fun k => k = D) _ rfl _) (fun k hk => by have := hs4.out; have := hw3.out; omega)⟩
end Go.Proofs.YtpjocannogcejaaDoor
