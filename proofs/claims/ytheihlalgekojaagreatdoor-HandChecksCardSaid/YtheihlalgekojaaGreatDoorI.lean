/-
  The iterator over the parts of a value.
-/
import Derived.Test.YtheihlalgekojaaGreatDoorH
import Derived.Test.YtheihlalgekojaaGreatDoorD
namespace Go.Proofs.YtheihlalgekojaaGreatDoor
open Go.RowKit Go.Shelf
attribute [local go_sem] Oper.semAt_some

theorem RoundIn.inRd {F : Fence} {n : Nat} {P : Program} {l : Nat} {f : FuncId} {tmps : Array Value} {assign body : Code} {w : World} {R : Ending → World → Prop} (l' : Nat) (h : RoundIn F n P l f tmps assign body w R) : RoundIn (F.inRound l') n P l f tmps assign body w R := h

/-- The world behind strings.SplitSeq(s, a comma). -/
def splitW (w : World) (l : List UInt8) : World := ((w.alloc (.cells #[.string ⟨l.toArray⟩] 9)).alloc (.cells #[.string ⟨#[44]⟩] 9)).alloc (.cells #[.int .i64 0] 3)
def splitV (w : World) : Value := .func (.func 92) #[] #[.pointer (some ⟨w.heap.size + 1, 0, none⟩), .pointer (some ⟨w.heap.size, 0, none⟩), .pointer (some ⟨w.heap.size + 2, 0, none⟩)]

theorem splitseq1_any (l : List UInt8) (w : World) :
    Calls Tryz.prog 76 #[.string ⟨l.toArray⟩, .string ⟨#[44]⟩, .int .i64 0] w fun e w' => e = .returned (splitV w) ∧ splitW w l = w' := by
  go_enter Tryz.func76, Tryz.ntmps76
  go_wp2
  go_ret
  exact ⟨rfl, rfl⟩
theorem splitseq_any (l : List UInt8) (w : World) :
    Calls Tryz.prog 58 #[.string ⟨l.toArray⟩, .string ⟨#[44]⟩] w fun e w' => e = .returned (splitV w) ∧ splitW w l = w' := by
  go_enter Tryz.func58, Tryz.ntmps58
  go_wp2_with (go_at_call 76; refine (splitseq1_any l _).mono ?_; rintro e w' ⟨rfl, rfl⟩)
  go_ret
  exact ⟨rfl, rfl⟩
/-- The value of Each(s), its text in the box b. -/
def eachV (b : Nat) : Value := .func (.func 57) #[] #[.pointer (some ⟨b, 0, none⟩)]
theorem each_any (l : List UInt8) (w : World) :
    Calls Tryz.prog 43 #[.string ⟨l.toArray⟩] w fun e w' => e = .returned (eachV w.heap.size) ∧ w.alloc (.cells #[.string ⟨l.toArray⟩] 9) = w' := by
  go_enter Tryz.func43, Tryz.ntmps43
  go_wp2
  go_ret
  exact ⟨rfl, rfl⟩
theorem split_iter_w (s : List UInt8) (w : World) (hs : s.length ≤ 4611686018427387904) :
    IterC Tryz.prog 92 #[.pointer (some ⟨w.heap.size + 1, 0, none⟩), .pointer (some ⟨w.heap.size, 0, none⟩), .pointer (some ⟨w.heap.size + 2, 0, none⟩)] (fun x : List UInt8 => #[.string ⟨x.toArray⟩]) (splitB 44 s)
      (fun k => k = w.heap.size + 1 ∨ k = w.heap.size ∨ k = w.heap.size + 2) 0 (fun _ => True) (splitW w s) :=
  split_iter s _ _ _ _ (by simp [splitW, go_sem]) (by simp [splitW, go_sem]) (by simp [splitW, go_sem]) (by simp [splitW, go_sem]) hs (by omega) (by omega)

theorem partsB_at {l : List UInt8} {pre rest : List (List UInt8)} {x : List UInt8} (h : splitB 44 l = pre ++ x :: rest) (hx : trimB x ≠ []) : partsB l = partsOf pre ++ trimB x :: partsOf rest := by
  unfold partsB partsOf; rw [h]; simp [hx]

set_option maxHeartbeats 2000000 in
theorem each_iter (s : List UInt8) (W0 : World) (bv : Nat) (hv : W0.cell? ⟨bv, 0, none⟩ = some (.string ⟨s.toArray⟩)) (hs : s.length ≤ 4611686018427387904) :
    IterC Tryz.prog 57 #[.pointer (some ⟨bv, 0, none⟩)] (fun x : List UInt8 => #[.string ⟨x.toArray⟩]) (partsB s) (fun k => k = bv) 6 (fun _ => True) W0 := by
  intro W l J Jx U hsz hT hU hJ hJx _ hY h0
  have gv : W.cell? ⟨bv, 0, none⟩ = some (.string ⟨s.toArray⟩) := (World.cell?_of_block (hT bv rfl)).trans hv
  have hbv : bv < W.heap.size := cell_lt gv
  have gva : ∀ o, (W.alloc o).cell? ⟨bv, 0, none⟩ = some (.string ⟨s.toArray⟩) := fun o => (Gr.alloc W o).cell gv
  have hJ' := Lib.hid hJ
  have hJx' := Lib.hid hJx
  have hY' := Lib.hid hY
  have hU' := Lib.hid hU
  have h0' := Lib.hid h0
  clear hJ hJx hY hU h0 hv hT
  have hfn : ∀ f, Fence.wide.fn f := fun _ => trivial
  have hdp : Fence.wide.depth = none := rfl
  refine callsIn_of_wp_marks Tryz.func57 rfl trivial ?_ rfl
  simp only [Tryz.ntmps57, List.size_toArray, List.length_cons, List.length_nil, Nat.reduceAdd, Nat.reduceSub, Array.replicate_succ, Array.replicate_zero, List.push_toArray, List.append_toArray, List.nil_append, List.cons_append]
  gi_wp2_with (gi_at_call 58; refine (callsIn_wide.2 (splitseq_any s _)).mono ?_; rintro e w' ⟨rfl, rfl⟩)
  obtain ⟨Wb, hWb⟩ : ∃ Wb, W.alloc (.cells #[.func (.yield l) #[] #[]] 93) = Wb := ⟨_, rfl⟩
  rw [hWb]
  have hsb : Wb.heap.size = W.heap.size + 1 := by rw [← hWb]; simp
  have hsw : (splitW Wb s).heap.size = W.heap.size + 4 := by simp [splitW, hsb]
  have hby : (splitW Wb s).cell? ⟨W.heap.size, 0, none⟩ = some (.func (.yield l) #[] #[]) := by
    rw [← hWb]; simp [splitW, go_sem]
  have hch : ∀ T, Ch T W (splitW Wb s) := fun T => by
    rw [← hWb]; exact (((Ch.alloc _ _ _).trans (Ch.alloc _ _ _)).trans (Ch.alloc _ _ _)).trans (Ch.alloc _ _ _)
  have hsw' := Lib.hid hsw
  have hsb' := Lib.hid hsb
  clear hWb hsw hsb gva
  refine wpIn_range (gf := 92) rfl (enters_of Tryz.func92 (by kernel_rfl) rfl) (split_iter_w s Wb hs) (Nat.le_refl _) (fun k hk => ⟨by rw [hsw'.out]; have := hsb'.out; omega, rfl⟩) (fun _ => rfl)
    (fun pre A => J (partsOf pre) A ∧ A.cell? ⟨W.heap.size, 0, none⟩ = some (.func (.yield l) #[] #[])) (fun c _ A => c = .ret ∧ ∃ q, q <+: partsB s ∧ Jx q A) U
    (fun k hk => ⟨by rw [hsw'.out]; have := (hU'.out k hk).1; omega, by have := (hU'.out k hk).1; have := hsb'.out; omega⟩) ?hI ?hIx (fun _ _ _ => trivial) ⟨hJ'.out _ _ _ h0'.out (hch _), hby⟩ ?round ?done ?stop
  case hI =>
    rintro pre A B ⟨hj, hc⟩ hch
    have hs1 := hsw'.out
    have hs2 := hsb'.out
    refine ⟨hJ'.out _ _ _ hj (hch.mono (fun k hk => .inr (by omega))), (hch.cell (cell_lt hc) (fun hk => ?_)).trans hc⟩
    dsimp only at hk
    omega
  case hIx =>
    rintro c pre A B ⟨rfl, q, hq, hj⟩ hch
    have hs1 := hsw'.out
    have hs2 := hsb'.out
    exact ⟨rfl, q, hq, hJx'.out _ _ _ hj (hch.mono (fun k hk => .inr (by omega)))⟩
  case round =>
    intro l' pre x rest A hl hlt hxs hI
    have hzA := Lib.hid (show W.heap.size + 6 ≤ A.heap.size by have := hsw'.out; omega)
    obtain ⟨hj, hcy⟩ := hI
    have hj' := Lib.hid hj
    have hxs' := Lib.hid hxs
    have hxl : x.length ≤ 9223372036854775807 := by
      have := splitB_len 44 s x (by rw [hxs]; simp)
      omega
    clear hj hxs
    have hlW : W.heap.size ≠ l' := by have := hsw'.out; omega
    have hlW' := Lib.hid hlW
    have hWA : W.heap.size < A.heap.size := cell_lt hcy
    gi_wp2
    refine ⟨Ch.refl _ _, fun A2 hA2 => ?_⟩
    have hcy2 : A2.cell? ⟨W.heap.size, 0, none⟩ = some (.func (.yield l) #[] #[]) := (hA2.cell hWA hlW'.out).trans hcy
    have hA2' := Lib.hid hA2
    clear hcy hA2 hlW
    obtain ⟨y, hy⟩ : ∃ y, trimB x = y := ⟨_, rfl⟩
    have htr := trim_any x
    rw [hy] at htr
    have htr' := Lib.hid htr
    have hy' := Lib.hid hy
    clear htr hy
    have hgr : ∀ (T : Nat → Prop) B, Gr A2 B → Ch T A2 B := fun T B hB => Ch.of_below (B := A2.heap.size) hB (fun k hk hk2 => absurd hk2 (Nat.not_lt.2 hk))
    have hll : W.heap.size ≤ l' ∧ l' < W.heap.size + 6 := by have := hsw'.out; omega
    have hJ2 : ∀ B, Gr A2 B → J (partsOf pre) B := fun B hB => hJ'.out _ _ _ hj'.out ((hA2'.out.mono (fun k hk => .inr (by rw [hk]; exact hll))).trans (hgr _ B hB))
    have hU2 : ∀ B, Gr A2 B → Ch U A2 B := fun B hB => hgr U B hB
    clear hgr hll
    have hJ2' := Lib.hid hJ2
    have hU2' := Lib.hid hU2
    clear hJ2 hU2
    by_cases hye : y = []
    · have e1 : y.isEmpty = true := by simp [hye]
      have hye' := Lib.hid hye
      clear hye
      gi_wp2_with (gi_at_call 59; refine (CallsIn.inRound l' (callsIn_wide.2 (htr'.out _ hxl))).mono ?_; rintro e A3 ⟨rfl, hb⟩)
      exact ⟨hU2'.out _ hb, by rw [partsOf_snoc_0 _ _ (hy'.out.trans hye'.out)]; exact hJ2'.out _ hb, hb.cell hcy2⟩
    · have e1 : y.isEmpty = false := by simp [hye]
      have hye' := Lib.hid hye
      clear hye
      gi_wp2_with (gi_at_call 59; refine (CallsIn.inRound l' (callsIn_wide.2 (htr'.out _ hxl))).mono ?_; rintro e A3 ⟨rfl, hb⟩; have hcy3 := hb.cell hcy2; obtain ⟨fn, tmps, asg, bdy, hyl, hR⟩ := hY'.out (partsOf pre) y (partsOf rest) A3 (by rw [partsB_at hxs'.out (by rw [hy'.out]; exact hye'.out), hy'.out]) (Nat.le_trans (Nat.le_trans hzA.out hA2'.out.size) (Below.size hb)) (hJ2'.out _ hb))
      refine (RoundIn.inRd l' hR).mono ?_
      rintro e B (⟨rfl, hj2, hc2⟩ | ⟨rfl, hj2, hc2⟩)
      · gi_wp2
        exact ⟨(hU2'.out _ hb).trans hc2, by rw [partsOf_snoc_s _ _ (by rw [hy'.out]; exact hye'.out), hy'.out]; exact hj2, (hc2.cell (cell_lt hcy3) (fun e => by have := (hU'.out _ e).1; dsimp only at this; omega)).trans hcy3⟩
      · gi_wp2
        exact ⟨(hU2'.out _ hb).trans hc2, rfl, _, ⟨partsOf rest, by rw [partsB_at hxs'.out (by rw [hy'.out]; exact hye'.out), hy'.out]; simp⟩, hj2⟩
  case done =>
    rintro D A hD ⟨hj, hc⟩ hK
    gi_wp2
    refine ⟨by simp, .inl ⟨_, _, rfl, run_takeDeferred hK, ?_⟩⟩
    exact ⟨_, results_none rfl _ _ _, rfl, .inl (hJ'.out _ _ _ hj (Ch.putObj _ (.inr (by have := hsw'.out; omega)) _))⟩
  case stop =>
    rintro D c pre A hD hpre ⟨rfl, q, hq, hj⟩ hK
    gi_wp2
    refine ⟨by simp, .inl ⟨_, _, rfl, run_takeDeferred hK, ?_⟩⟩
    exact ⟨_, results_none rfl _ _ _, rfl, .inr ⟨q, hq, hJx'.out _ _ _ hj (Ch.putObj _ (.inr (by have := hsw'.out; omega)) _)⟩⟩
end Go.Proofs.YtheihlalgekojaaGreatDoor
