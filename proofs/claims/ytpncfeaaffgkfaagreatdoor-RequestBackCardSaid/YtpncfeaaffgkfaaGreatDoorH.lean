/-
  The library's iterator over the pieces of a text.
  The iterator over the parts of a value.
  Has, of package field.
-/
import Derived.Test.YtpncfeaaffgkfaaGreatDoorD
import Derived.Test.YtpncfeaaffgkfaaGreatDoorSp
import Derived.RangeFuncBound
import Derived.RangeFuncCalls
import Derived.Shelf.Abstract
import Derived.Shelf.RegionOpen
import Derived.OwnWalkIn
import Derived.TacticsInMore
import Derived.LoopNIn
import Derived.LoopIn
import Derived.Test.YtpncfeaaffgkfaaGreatDoorC
namespace Go.Proofs.YtpncfeaaffgkfaaGreatDoor
open Go.RowKit Go.Shelf
attribute [local go_sem] Oper.semAt_some

def strAt (w : World) (a : Addr) : Nat := match w.cell? a with | some (.string s) => s.size | _ => 0

set_option maxHeartbeats 1000000 in
theorem split_iter (s : List UInt8) (W0 : World) (b1 b2 b3 : Nat) (h1 : W0.cell? ⟨b1, 0, none⟩ = some (.string ⟨#[44]⟩)) (h2 : W0.cell? ⟨b2, 0, none⟩ = some (.string ⟨s.toArray⟩)) (f2 : W0.frozen? ⟨b2, 0, none⟩ = false)
    (h3 : W0.cell? ⟨b3, 0, none⟩ = some (.int .i64 0)) (hs : s.length ≤ 4611686018427387904) (h12 : b1 ≠ b2) (h32 : b3 ≠ b2) :
    IterC Tryz.prog 158 #[.pointer (some ⟨b1, 0, none⟩), .pointer (some ⟨b2, 0, none⟩), .pointer (some ⟨b3, 0, none⟩)] (fun x : List UInt8 => #[.string ⟨x.toArray⟩]) (splitB 44 s)
      (fun k => k = b1 ∨ k = b2 ∨ k = b3) 0 (fun _ => True) W0 := by
  intro W l J Jx U hsz hT hU hJ hJx _ hY h0
  have g1 : W.cell? ⟨b1, 0, none⟩ = some (.string ⟨#[44]⟩) := (World.cell?_of_block (hT b1 (.inl rfl))).trans h1
  have g2 : W.cell? ⟨b2, 0, none⟩ = some (.string ⟨s.toArray⟩) := (World.cell?_of_block (hT b2 (.inr (.inl rfl)))).trans h2
  have k2 : W.frozen? ⟨b2, 0, none⟩ = false := (World.frozen?_of_block (hT b2 (.inr (.inl rfl)))).trans f2
  have g3 : W.cell? ⟨b3, 0, none⟩ = some (.int .i64 0) := (World.cell?_of_block (hT b3 (.inr (.inr rfl)))).trans h3
  clear h1 h2 f2 h3 hT
  have hJ' := Lib.hid hJ
  have hJx' := Lib.hid hJx
  have hY' := Lib.hid hY
  have hU' := Lib.hid hU
  have h0' := Lib.hid h0
  clear hJ hJx hY hU h0
  have hfn : ∀ f, Fence.wide.fn f := fun _ => trivial
  have hdp : Fence.wide.depth = none := rfl
  refine callsIn_of_wp Tryz.func158 rfl trivial ?_ rfl
  simp only [Tryz.ntmps158, List.size_toArray, List.length_cons, List.length_nil, Nat.reduceAdd, Nat.reduceSub, Array.replicate_succ, Array.replicate_zero, List.push_toArray, List.append_toArray, List.nil_append, List.cons_append]
  gi_wp2
  gi_loopw [7, 8] (fun _ _ wr => ∃ (pre : List (List UInt8)) (t : List UInt8), splitB 44 s = pre ++ splitB 44 t ∧ t.length ≤ s.length ∧ W.heap.size ≤ wr.heap.size ∧ J pre wr ∧ wr.cell? ⟨b1, 0, none⟩ = some (.string ⟨#[44]⟩) ∧ wr.cell? ⟨b2, 0, none⟩ = some (.string ⟨t.toArray⟩) ∧ wr.frozen? ⟨b2, 0, none⟩ = false ∧ wr.cell? ⟨b3, 0, none⟩ = some (.int .i64 0))
    (fun _ _ wr => strAt wr ⟨b2, 0, none⟩)
  case atStart => exact ⟨[], s, rfl, Nat.le_refl _, Nat.le_refl _, h0'.out, g1, g2, k2, g3⟩
  case round =>
    clear g1 g2 k2 g3
    obtain ⟨pre, t, hpre, htl, hwz, hj, g1, g2, k2, g3⟩ := hrel
    have hwz' := Lib.hid hwz
    clear hwz
    have hpre' := Lib.hid hpre
    have hj' := Lib.hid hj
    have hm : strAt wr ⟨b2, 0, none⟩ = t.length := by unfold strAt; rw [g2]; exact size_mk t
    have hm' := Lib.hid hm
    clear hpre hj hm
    rcases indexByte_spec t 44 with ⟨hi, hno⟩ | ⟨k, hi, hk, hat, hbe⟩
    · -- the last piece
      have hsp := splitB_none 44 t hno
      obtain ⟨fn, tmps, assign, body, hy, hR⟩ := hY'.out pre t [] wr (by rw [hpre'.out, hsp]) hwz'.out hj'.out
      have hi' := Lib.hid hi
      have hsp' := Lib.hid hsp
      clear hi hsp hno
      gi_wp2_with (gi_at_call 41; refine (callsIn_wide.2 (Tryz.strings_Index_one ⟨t.toArray⟩ 44 _)).mono ?_; rintro e w' ⟨rfl, rfl⟩; rw [hi'.out])
      refine hR.mono ?_
      rintro e A (⟨rfl, hj2, hc2⟩ | ⟨rfl, hj2, hc2⟩)
      · gi_wp2
        go_end0
        exact ⟨rfl, .inl (by rw [hpre'.out, hsp'.out]; exact hj2)⟩
      · gi_wp2
        go_end0
        exact ⟨rfl, .inr ⟨pre ++ [t], ⟨[], by rw [hpre'.out, hsp'.out, List.append_nil]⟩, hj2⟩⟩
    · -- one more piece
      have hsp := splitB_at 44 t k hk hat hbe
      obtain ⟨x, hx⟩ : ∃ x, t.take k = x := ⟨_, rfl⟩
      obtain ⟨y, hyd⟩ : ∃ y, t.drop (k + 1) = y := ⟨_, rfl⟩
      rw [hx, hyd] at hsp
      have hyl : y.length < t.length := by rw [← hyd]; simp; omega
      have hx1 : (⟨t.toArray⟩ : ByteArray).extract 0 k = ⟨x.toArray⟩ := by rw [extract_mk, ← hx]; simp
      have hx2 : (⟨t.toArray⟩ : ByteArray).extract (k + 1) t.length = ⟨y.toArray⟩ := by rw [extract_mk, ← hyd]; simp
      obtain ⟨fn, tmps, assign, body, hy, hR⟩ := hY'.out pre x (splitB 44 y) wr (by rw [hpre'.out, hsp]) hwz'.out hj'.out
      have hi' := Lib.hid hi
      have hsp' := Lib.hid hsp
      clear hi hsp hbe hat hx hyd
      gi_wp2_with (gi_at_call 41; refine (callsIn_wide.2 (Tryz.strings_Index_one ⟨t.toArray⟩ 44 _)).mono ?_; rintro e w' ⟨rfl, rfl⟩; rw [hi'.out])
      refine hR.mono ?_
      rintro e A (⟨rfl, hj2, hc2⟩ | ⟨rfl, hj2, hc2⟩)
      · have e1 : A.cell? ⟨b1, 0, none⟩ = some (.string ⟨#[44]⟩) := (hc2.cell (cell_lt g1) (fun e => (hU'.out _ e).2 (.inl rfl))).trans g1
        have e2 : A.cell? ⟨b2, 0, none⟩ = some (.string ⟨t.toArray⟩) := (hc2.cell (cell_lt g2) (fun e => (hU'.out _ e).2 (.inr (.inl rfl)))).trans g2
        have e3 : A.cell? ⟨b3, 0, none⟩ = some (.int .i64 0) := (hc2.cell (cell_lt g3) (fun e => (hU'.out _ e).2 (.inr (.inr rfl)))).trans g3
        have j2 : A.frozen? ⟨b2, 0, none⟩ = false := (hc2.frozen (cell_lt g2) (fun e => (hU'.out _ e).2 (.inr (.inl rfl)))).trans k2
        clear g1 g2 g3 k2
        gi_wp2
        go_roundw
        case rel =>
          exact ⟨pre ++ [x], y, by rw [hpre'.out, hsp'.out, List.append_assoc]; rfl, by omega, by simpa using Nat.le_trans hwz'.out hc2.size, hJ'.out _ _ _ hj2 (Ch.setCell _ (.inl (.inr (.inl rfl))) _), cell_set_other e1 (fun e => h12 e.symm), cell_set_same e2, by rw [frozen_set]; exact j2, cell_set_other e3 (fun e => h32 e.symm)⟩
        case measure =>
          rw [hm'.out]
          unfold strAt
          rw [cell_set_same e2]
          simpa only [size_mk] using hyl
      · gi_wp2
        refine bodyPost_ret (results_none rfl _ _ _) rfl ?_
        exact ⟨rfl, .inr ⟨pre ++ [x], ⟨splitB 44 y, by rw [hpre'.out, hsp'.out, List.append_assoc]; rfl⟩, hj2⟩⟩
end Go.Proofs.YtpncfeaaffgkfaaGreatDoor
namespace Go.Proofs.YtpncfeaaffgkfaaGreatDoor
open Go.RowKit Go.Shelf
attribute [local go_sem] Oper.semAt_some

theorem RoundIn.inRd {F : Fence} {n : Nat} {P : Program} {l : Nat} {f : FuncId} {tmps : Array Value} {assign body : Code} {w : World} {R : Ending → World → Prop} (l' : Nat) (h : RoundIn F n P l f tmps assign body w R) : RoundIn (F.inRound l') n P l f tmps assign body w R := h

/-- The world behind strings.SplitSeq(s, a comma). -/
def splitW (w : World) (l : List UInt8) : World := ((w.alloc (.cells #[.string ⟨l.toArray⟩] 9)).alloc (.cells #[.string ⟨#[44]⟩] 9)).alloc (.cells #[.int .i64 0] 3)
def splitV (w : World) : Value := .func (.func 158) #[] #[.pointer (some ⟨w.heap.size + 1, 0, none⟩), .pointer (some ⟨w.heap.size, 0, none⟩), .pointer (some ⟨w.heap.size + 2, 0, none⟩)]

theorem splitseq1_any (l : List UInt8) (w : World) :
    Calls Tryz.prog 151 #[.string ⟨l.toArray⟩, .string ⟨#[44]⟩, .int .i64 0] w fun e w' => e = .returned (splitV w) ∧ splitW w l = w' := by
  go_enter Tryz.func151, Tryz.ntmps151
  go_wp2
  go_ret
  exact ⟨rfl, rfl⟩
theorem splitseq_any (l : List UInt8) (w : World) :
    Calls Tryz.prog 136 #[.string ⟨l.toArray⟩, .string ⟨#[44]⟩] w fun e w' => e = .returned (splitV w) ∧ splitW w l = w' := by
  go_enter Tryz.func136, Tryz.ntmps136
  go_wp2_with (go_at_call 151; refine (splitseq1_any l _).mono ?_; rintro e w' ⟨rfl, rfl⟩)
  go_ret
  exact ⟨rfl, rfl⟩
/-- The value of Each(s), its text in the box b. -/
def eachV (b : Nat) : Value := .func (.func 135) #[] #[.pointer (some ⟨b, 0, none⟩)]
theorem each_any (l : List UInt8) (w : World) :
    Calls Tryz.prog 112 #[.string ⟨l.toArray⟩] w fun e w' => e = .returned (eachV w.heap.size) ∧ w.alloc (.cells #[.string ⟨l.toArray⟩] 9) = w' := by
  go_enter Tryz.func112, Tryz.ntmps112
  go_wp2
  go_ret
  exact ⟨rfl, rfl⟩
theorem split_iter_w (s : List UInt8) (w : World) (hs : s.length ≤ 4611686018427387904) :
    IterC Tryz.prog 158 #[.pointer (some ⟨w.heap.size + 1, 0, none⟩), .pointer (some ⟨w.heap.size, 0, none⟩), .pointer (some ⟨w.heap.size + 2, 0, none⟩)] (fun x : List UInt8 => #[.string ⟨x.toArray⟩]) (splitB 44 s)
      (fun k => k = w.heap.size + 1 ∨ k = w.heap.size ∨ k = w.heap.size + 2) 0 (fun _ => True) (splitW w s) :=
  split_iter s _ _ _ _ (by simp [splitW, go_sem]) (by simp [splitW, go_sem]) (by simp [splitW, go_sem]) (by simp [splitW, go_sem]) hs (by omega) (by omega)

theorem partsB_at {l : List UInt8} {pre rest : List (List UInt8)} {x : List UInt8} (h : splitB 44 l = pre ++ x :: rest) (hx : trimB x ≠ []) : partsB l = partsOf pre ++ trimB x :: partsOf rest := by
  unfold partsB partsOf; rw [h]; simp [hx]

set_option maxHeartbeats 2000000 in
theorem each_iter (s : List UInt8) (W0 : World) (bv : Nat) (hv : W0.cell? ⟨bv, 0, none⟩ = some (.string ⟨s.toArray⟩)) (hs : s.length ≤ 4611686018427387904) :
    IterC Tryz.prog 135 #[.pointer (some ⟨bv, 0, none⟩)] (fun x : List UInt8 => #[.string ⟨x.toArray⟩]) (partsB s) (fun k => k = bv) 6 (fun _ => True) W0 := by
  intro W l J Jx U hsz hT hU hJ hJx _ hY h0
  have gv : W.cell? ⟨bv, 0, none⟩ = some (.string ⟨s.toArray⟩) := (World.cell?_of_block (hT bv rfl)).trans hv
  have hbv : bv < W.heap.size := cell_lt gv
  have gva : ∀ o, (W.alloc o).cell? ⟨bv, 0, none⟩ = some (.string ⟨s.toArray⟩) := fun o => (Gr.alloc W o).cell gv
  have hJ' := Lib.hid hJ
  have hJx' := Lib.hid hJx
  have hY' := Lib.hid hY
  have hU' := Lib.hid hU
  have h0' := Lib.hid h0
  clear hJ hJx hY hU h0 hv hT
  have hfn : ∀ f, Fence.wide.fn f := fun _ => trivial
  have hdp : Fence.wide.depth = none := rfl
  refine callsIn_of_wp_marks Tryz.func135 rfl trivial ?_ rfl
  simp only [Tryz.ntmps135, List.size_toArray, List.length_cons, List.length_nil, Nat.reduceAdd, Nat.reduceSub, Array.replicate_succ, Array.replicate_zero, List.push_toArray, List.append_toArray, List.nil_append, List.cons_append]
  gi_wp2_with (gi_at_call 136; refine (callsIn_wide.2 (splitseq_any s _)).mono ?_; rintro e w' ⟨rfl, rfl⟩)
  obtain ⟨Wb, hWb⟩ : ∃ Wb, W.alloc (.cells #[.func (.yield l) #[] #[]] 39) = Wb := ⟨_, rfl⟩
  rw [hWb]
  have hsb : Wb.heap.size = W.heap.size + 1 := by rw [← hWb]; simp
  have hsw : (splitW Wb s).heap.size = W.heap.size + 4 := by simp [splitW, hsb]
  have hby : (splitW Wb s).cell? ⟨W.heap.size, 0, none⟩ = some (.func (.yield l) #[] #[]) := by
    rw [← hWb]; simp [splitW, go_sem]
  have hch : ∀ T, Ch T W (splitW Wb s) := fun T => by
    rw [← hWb]; exact (((Ch.alloc _ _ _).trans (Ch.alloc _ _ _)).trans (Ch.alloc _ _ _)).trans (Ch.alloc _ _ _)
  have hsw' := Lib.hid hsw
  have hsb' := Lib.hid hsb
  clear hWb hsw hsb gva
  refine wpIn_range (gf := 158) rfl (enters_of Tryz.func158 (by kernel_rfl) rfl) (split_iter_w s Wb hs) (Nat.le_refl _) (fun k hk => ⟨by rw [hsw'.out]; have := hsb'.out; omega, rfl⟩) (fun _ => rfl)
    (fun pre A => J (partsOf pre) A ∧ A.cell? ⟨W.heap.size, 0, none⟩ = some (.func (.yield l) #[] #[])) (fun c _ A => c = .ret ∧ ∃ q, q <+: partsB s ∧ Jx q A) U
    (fun k hk => ⟨by rw [hsw'.out]; have := (hU'.out k hk).1; omega, by have := (hU'.out k hk).1; have := hsb'.out; omega⟩) ?hI ?hIx (fun _ _ _ => trivial) ⟨hJ'.out _ _ _ h0'.out (hch _), hby⟩ ?round ?done ?stop
  case hI =>
    rintro pre A B ⟨hj, hc⟩ hch
    have hs1 := hsw'.out
    have hs2 := hsb'.out
    refine ⟨hJ'.out _ _ _ hj (hch.mono (fun k hk => .inr (by omega))), (hch.cell (cell_lt hc) (fun hk => ?_)).trans hc⟩
    dsimp only at hk
    omega
  case hIx =>
    rintro c pre A B ⟨rfl, q, hq, hj⟩ hch
    have hs1 := hsw'.out
    have hs2 := hsb'.out
    exact ⟨rfl, q, hq, hJx'.out _ _ _ hj (hch.mono (fun k hk => .inr (by omega)))⟩
  case round =>
    intro l' pre x rest A hl hlt hxs hI
    have hzA := Lib.hid (show W.heap.size + 6 ≤ A.heap.size by have := hsw'.out; omega)
    obtain ⟨hj, hcy⟩ := hI
    have hj' := Lib.hid hj
    have hxs' := Lib.hid hxs
    have hxl : x.length ≤ 9223372036854775807 := by
      have := splitB_len 44 s x (by rw [hxs]; simp)
      omega
    clear hj hxs
    have hlW : W.heap.size ≠ l' := by have := hsw'.out; omega
    have hlW' := Lib.hid hlW
    have hWA : W.heap.size < A.heap.size := cell_lt hcy
    gi_wp2
    refine ⟨Ch.refl _ _, fun A2 hA2 => ?_⟩
    have hcy2 : A2.cell? ⟨W.heap.size, 0, none⟩ = some (.func (.yield l) #[] #[]) := (hA2.cell hWA hlW'.out).trans hcy
    have hA2' := Lib.hid hA2
    clear hcy hA2 hlW
    obtain ⟨y, hy⟩ : ∃ y, trimB x = y := ⟨_, rfl⟩
    have htr := trim_any x
    rw [hy] at htr
    have htr' := Lib.hid htr
    have hy' := Lib.hid hy
    clear htr hy
    have hgr : ∀ (T : Nat → Prop) B, Gr A2 B → Ch T A2 B := fun T B hB => Ch.of_below (B := A2.heap.size) hB (fun k hk hk2 => absurd hk2 (Nat.not_lt.2 hk))
    have hll : W.heap.size ≤ l' ∧ l' < W.heap.size + 6 := by have := hsw'.out; omega
    have hJ2 : ∀ B, Gr A2 B → J (partsOf pre) B := fun B hB => hJ'.out _ _ _ hj'.out ((hA2'.out.mono (fun k hk => .inr (by rw [hk]; exact hll))).trans (hgr _ B hB))
    have hU2 : ∀ B, Gr A2 B → Ch U A2 B := fun B hB => hgr U B hB
    clear hgr hll
    have hJ2' := Lib.hid hJ2
    have hU2' := Lib.hid hU2
    clear hJ2 hU2
    by_cases hye : y = []
    · have e1 : y.isEmpty = true := by simp [hye]
      have hye' := Lib.hid hye
      clear hye
      gi_wp2_with (gi_at_call 64; refine (CallsIn.inRound l' (callsIn_wide.2 (htr'.out _ hxl))).mono ?_; rintro e A3 ⟨rfl, hb⟩)
      exact ⟨hU2'.out _ hb, by rw [partsOf_snoc_0 _ _ (hy'.out.trans hye'.out)]; exact hJ2'.out _ hb, hb.cell hcy2⟩
    · have e1 : y.isEmpty = false := by simp [hye]
      have hye' := Lib.hid hye
      clear hye
      gi_wp2_with (gi_at_call 64; refine (CallsIn.inRound l' (callsIn_wide.2 (htr'.out _ hxl))).mono ?_; rintro e A3 ⟨rfl, hb⟩; have hcy3 := hb.cell hcy2; obtain ⟨fn, tmps, asg, bdy, hyl, hR⟩ := hY'.out (partsOf pre) y (partsOf rest) A3 (by rw [partsB_at hxs'.out (by rw [hy'.out]; exact hye'.out), hy'.out]) (Nat.le_trans (Nat.le_trans hzA.out hA2'.out.size) (Below.size hb)) (hJ2'.out _ hb))
      refine (RoundIn.inRd l' hR).mono ?_
      rintro e B (⟨rfl, hj2, hc2⟩ | ⟨rfl, hj2, hc2⟩)
      · gi_wp2
        exact ⟨(hU2'.out _ hb).trans hc2, by rw [partsOf_snoc_s _ _ (by rw [hy'.out]; exact hye'.out), hy'.out]; exact hj2, (hc2.cell (cell_lt hcy3) (fun e => by have := (hU'.out _ e).1; dsimp only at this; omega)).trans hcy3⟩
      · gi_wp2
        exact ⟨(hU2'.out _ hb).trans hc2, rfl, _, ⟨partsOf rest, by rw [partsB_at hxs'.out (by rw [hy'.out]; exact hye'.out), hy'.out]; simp⟩, hj2⟩
  case done =>
    rintro D A hD ⟨hj, hc⟩ hK
    gi_wp2
    refine ⟨by simp, .inl ⟨_, _, rfl, run_takeDeferred hK, ?_⟩⟩
    exact ⟨_, results_none rfl _ _ _, rfl, .inl (hJ'.out _ _ _ hj (Ch.putObj _ (.inr (by have := hsw'.out; omega)) _))⟩
  case stop =>
    rintro D c pre A hD hpre ⟨rfl, q, hq, hj⟩ hK
    gi_wp2
    refine ⟨by simp, .inl ⟨_, _, rfl, run_takeDeferred hK, ?_⟩⟩
    exact ⟨_, results_none rfl _ _ _, rfl, .inr ⟨q, hq, hJx'.out _ _ _ hj (Ch.putObj _ (.inr (by have := hsw'.out; omega)) _)⟩⟩
end Go.Proofs.YtpncfeaaffgkfaaGreatDoor
namespace Go.Proofs.YtpncfeaaffgkfaaGreatDoor
open Go.RowKit Go.Shelf
attribute [local go_sem] Oper.semAt_some

set_option maxHeartbeats 2000000 in
theorem has_any (l word : List UInt8) (w : World) (hG : G w) (hl : l.length ≤ 4611686018427387904) (hw : word.length ≤ 9223372036854775807) :
    Calls Tryz.prog 78 #[.string ⟨l.toArray⟩, .string ⟨word.toArray⟩] w fun e w' => e = .returned (.bool (hasB l word)) ∧ Gr w w' := by
  refine (callsIn_wide (n := 0)).1 ?_
  have hfn : ∀ f, Fence.wide.fn f := fun _ => trivial
  have hdp : Fence.wide.depth = none := rfl
  have hG' := Lib.hid hG
  clear hG
  refine callsIn_of_wp_marks Tryz.func78 rfl trivial ?_ rfl
  simp only [Tryz.ntmps78, List.size_toArray, List.length_cons, List.length_nil, Nat.reduceAdd, Nat.reduceSub, Array.replicate_succ, Array.replicate_zero, List.push_toArray, List.append_toArray, List.nil_append, List.cons_append]
  gi_wp2_with (gi_at_call 112; refine (callsIn_wide.2 (each_any l _)).mono ?_; rintro e w' ⟨rfl, rfl⟩)
  obtain ⟨w3, hw3⟩ : ∃ w3, ((w.alloc (.cells #[.string ⟨word.toArray⟩] 9)).alloc (.cells #[.bool false] 4)).alloc (.cells #[.string ⟨l.toArray⟩] 9) = w3 := ⟨_, rfl⟩
  rw [hw3]
  have hs3 := Lib.hid (show w3.heap.size = w.heap.size + 3 by rw [← hw3]; simp)
  have c0 : w3.cell? ⟨w.heap.size, 0, none⟩ = some (.string ⟨word.toArray⟩) := by rw [← hw3]; simp [go_sem]
  have c1 : w3.cell? ⟨w.heap.size + 1, 0, none⟩ = some (.bool false) := by rw [← hw3]; simp [go_sem]
  have k1 : w3.frozen? ⟨w.heap.size + 1, 0, none⟩ = false := by rw [← hw3]; simp [go_sem]
  have c2 : w3.cell? ⟨w.heap.size + 1 + 1, 0, none⟩ = some (.string ⟨l.toArray⟩) := by rw [← hw3]; simp [go_sem]
  have hg3 : Gr w w3 := by rw [← hw3]; exact ((Gr.alloc w _).alloc1 _).alloc1 _
  clear hw3
  refine wpIn_range (gf := 135) rfl (enters_of Tryz.func135 (by kernel_rfl) rfl) (each_iter l w3 _ c2 hl) (Nat.le_refl _) (fun k hk => ⟨by rw [hs3.out]; (try dsimp only at hk); omega, rfl⟩) (fun _ => rfl)
    (fun pre A => Gr w A ∧ w3.heap.size ≤ A.heap.size ∧ A.cell? ⟨w.heap.size, 0, none⟩ = some (.string ⟨word.toArray⟩) ∧ A.cell? ⟨w.heap.size + 1, 0, none⟩ = some (.bool false) ∧ A.frozen? ⟨w.heap.size + 1, 0, none⟩ = false ∧ pre.any (fun p => alikeB p word) = false)
    (fun c pre A => c = .ret ∧ Gr w A ∧ A.cell? ⟨w.heap.size + 1, 0, none⟩ = some (.bool true) ∧ pre.any (fun p => alikeB p word) = true) (fun k => k = w.heap.size + 1)
    (fun k hk => ⟨by rw [hs3.out]; (try dsimp only at hk); omega, by (try dsimp only at hk ⊢); omega⟩) ?hI ?hIx (fun _ _ _ => trivial) ⟨hg3, Nat.le_refl _, c0, c1, k1, rfl⟩ ?round ?done ?stop
  case hI =>
    rintro pre A B ⟨h1, h2, h3, h4, h5, h6⟩ hch
    replace hch := hch.mono (T' := fun k => k = w.heap.size + 1 + 1 ∨ w3.heap.size ≤ k) (fun k hk => hk.imp id And.left)
    have e := hs3.out
    have hn : ∀ k, k < w.heap.size + 2 → ¬ (k = w.heap.size + 1 + 1 ∨ w3.heap.size ≤ k) := fun k hk h => by omega
    exact ⟨h1.ch hch (fun k hk => by omega), Nat.le_trans h2 hch.size, (hch.cell (cell_lt h3) (hn _ (by (try dsimp only); omega))).trans h3, (hch.cell (cell_lt h4) (hn _ (by (try dsimp only); omega))).trans h4, (hch.frozen (cell_lt h4) (hn _ (by (try dsimp only); omega))).trans h5, h6⟩
  case hIx =>
    rintro c pre A B ⟨rfl, h1, h4, h6⟩ hch
    replace hch := hch.mono (T' := fun k => k = w.heap.size + 1 + 1 ∨ w3.heap.size ≤ k) (fun k hk => hk.imp id And.left)
    have e := hs3.out
    have hn : ∀ k, k < w.heap.size + 2 → ¬ (k = w.heap.size + 1 + 1 ∨ w3.heap.size ≤ k) := fun k hk h => by omega
    exact ⟨rfl, h1.ch hch (fun k hk => by omega), (hch.cell (cell_lt h4) (hn _ (by (try dsimp only); omega))).trans h4, h6⟩
  case round =>
    intro l' pre x rest A hl' hlt hxs hI
    obtain ⟨h1, h2, h3, h4, h5, h6⟩ := hI
    have hxl : x.length ≤ 9223372036854775807 := by
      have := partsB_len l x (by rw [hxs]; simp)
      omega
    have h6' := Lib.hid h6
    have e := hs3.out
    have hne0 : w.heap.size ≠ l' := by omega
    have hne1 : w.heap.size + 1 ≠ l' := by omega
    have hne0' := Lib.hid hne0
    have hne1' := Lib.hid hne1
    have hll : w.heap.size ≤ l' := by omega
    have hz0 : w.heap.size < A.heap.size := by omega
    have hz1 : w.heap.size + 1 < A.heap.size := by omega
    clear h6 e hne0 hne1 hxs
    gi_wp2
    refine ⟨Ch.refl _ _, fun A2 hA2 => ?_⟩
    have d0 : A2.cell? ⟨w.heap.size, 0, none⟩ = some (.string ⟨word.toArray⟩) := (hA2.cell hz0 hne0'.out).trans h3
    have d1 : A2.cell? ⟨w.heap.size + 1, 0, none⟩ = some (.bool false) := (hA2.cell hz1 hne1'.out).trans h4
    have dk : A2.frozen? ⟨w.heap.size + 1, 0, none⟩ = false := (hA2.frozen hz1 hne1'.out).trans h5
    have hg2 : Gr w A2 := h1.ch hA2 (fun k hk => by (try dsimp only at hk); omega)
    have hsz2 : w3.heap.size ≤ A2.heap.size := Nat.le_trans h2 hA2.size
    clear h3 h4 h5 h1 hA2
    cases ha : alikeB x word
    all_goals have ha' := Lib.hid ha
    all_goals clear ha
    all_goals gi_wp2_with (gi_at_call 33; refine (CallsIn.inRound l' (callsIn_wide.2 (alike_any x word _ (hG'.out.gr hg2) hxl hw))).mono ?_; rintro e A3 ⟨rfl, hb⟩; rw [ha'.out]; have d0' := hb.cell d0; have d1' := hb.cell d1; have dk' := (Below.frozen hb (cell_lt d1)).trans dk)
    · exact ⟨hb.to_ch _, hg2.trans hb, Nat.le_trans hsz2 (Below.size hb), d0', d1', dk', by rw [List.any_append, h6'.out]; simp [ha'.out]⟩
    · exact ⟨(hb.to_ch _).trans (Ch.setCell (T := fun k => k = w.heap.size + 1) _ rfl _), rfl, (hg2.trans hb).setCell (by (try dsimp only); omega) _, cell_set_same d1', by rw [List.any_append]; simp [ha'.out]⟩
  case done =>
    rintro D A hD ⟨h1, h2, h3, h4, h5, h6⟩ hK
    have hres := Lib.hid (show hasB l word = false from h6)
    have hDn : D ≠ w.heap.size + 1 := by have := hs3.out; omega
    have hDn' := Lib.hid hDn
    clear h6 hDn
    gi_wp2
    have hK2 : (A.setCell ⟨w.heap.size + 1, 0, none⟩ (.bool false)).heap[D]? = some (.deferred (some [])) := (Below.heap_setCell _ _ _ _ hDn'.out).trans hK
    have hc2 : ((A.setCell ⟨w.heap.size + 1, 0, none⟩ (.bool false)).putObj D (.deferred none)).cell? ⟨w.heap.size + 1, 0, none⟩ = some (.bool false) :=
      (World.cell?_of_block (World.putObj_heap_other (Ne.symm hDn'.out))).trans (cell_set_same h4)
    refine ⟨by simp, .inl ⟨_, _, rfl, run_takeDeferred hK2, ?_⟩⟩
    refine ⟨.bool false, by simp [results, Tryz.results78, go_sem, hc2], by rw [hres.out], ?_⟩
    exact (h1.setCell (by (try dsimp only); omega) _).ch (Ch.putObj (T := fun k => k = D) _ rfl _) (fun k hk => by have := hs3.out; omega)
  case stop =>
    rintro D c pre A hD hpre ⟨rfl, h1, h4, h6⟩ hK
    have hres := Lib.hid (show hasB l word = true from by
      obtain ⟨r, hr⟩ := hpre
      unfold hasB; rw [← hr, List.any_append, h6]; rfl)
    have hDn : D ≠ w.heap.size + 1 := by have := hs3.out; omega
    have hDn' := Lib.hid hDn
    clear h6 hDn
    gi_wp2
    have hc2 : (A.putObj D (.deferred none)).cell? ⟨w.heap.size + 1, 0, none⟩ = some (.bool true) := (World.cell?_of_block (World.putObj_heap_other (Ne.symm hDn'.out))).trans h4
    refine ⟨by simp, .inl ⟨_, _, rfl, run_takeDeferred hK, ?_⟩⟩
    refine ⟨.bool true, by simp [results, Tryz.results78, go_sem, hc2], by rw [hres.out], ?_⟩
    exact h1.ch (Ch.putObj (T := fun k => k = D) _ rfl _) (fun k hk => by have := hs3.out; omega)
end Go.Proofs.YtpncfeaaffgkfaaGreatDoor
