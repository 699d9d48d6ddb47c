/-
  The walk over ChainGoes: its handler, which keeps the request that it was asked.
-/
import Derived.Test.YtolpphmgobeocaaDoorCz
import Derived.Test.YtolpphmgobeocaaDoorRd
import Derived.Test.YtolpphmgobeocaaDoorRe
namespace Go.Proofs.YtolpphmgobeocaaDoor
open Go.RowKit Go.Shelf
attribute [local go_sem] Oper.semAt_some

def rqcells (r : Rq) (s : Value) : List Value := [.string ⟨r.m.toArray⟩, .string ⟨r.p.toArray⟩, .string ⟨r.q.toArray⟩, .int .i64 r.v, s, .string ⟨r.b.toArray⟩, .bool r.c]
theorem infoReq : (Tryd.prog.info? 25).map (fun i => (i.zero, i.size, i.bytes)) = some (some (.agg #[.string ⟨#[]⟩, .string ⟨#[]⟩, .string ⟨#[]⟩, .int .i64 0, .slice none 0 0, .string ⟨#[]⟩, .bool false]), 7, 104) := by kernel_rfl
/-- The variable nb holds one request, in memory of its own. -/
def GotAt (B nb : Nat) (W : World) (r : Rq) : Prop := ∃ g cap s, B ≤ g ∧ W.cell? ⟨nb, 0, none⟩ = some (.slice (some ⟨g, 0, none⟩) 1 cap) ∧ RqCell W g r s ∧ OwnF B W s r.fs
/-- The handler that keeps the request that it was asked, and answers x0. -/
def RGoes (nb : Nat) (x0 : Rp) (B : Nat) (r : Rq) (x : Rp) (_ W' : World) : Prop := x = x0 ∧ GotAt B nb W' r
theorem closed_goes (nb : Nat) (x0 : Rp) : Closed (fun k => k = nb) (RGoes nb x0) := by
  rintro B B' r x W W1 W2 W3 hB hW hT h01 ⟨h1, g, cap, s, hg, hn, hr, ho⟩ h23
  have old : ∀ {b o v}, B' ≤ b ∨ b < B → W2.cell? ⟨b, o, none⟩ = some v → W3.cell? ⟨b, o, none⟩ = some v := fun {b o v} hb h => (h23.cell (p := ⟨b, o, none⟩) (cell_lt h) (fun e => by (try dsimp only at e); omega)).trans h
  obtain ⟨r0, r1, r2, r3, r4, r5, r6⟩ := hr
  refine ⟨h1, g, cap, s, Nat.le_trans hB hg, old (.inr (hT nb rfl)) hn, ⟨old (.inl hg) r0, old (.inl hg) r1, old (.inl hg) r2, old (.inl hg) r3, old (.inl hg) r4, old (.inl hg) r5, old (.inl hg) r6⟩, ?_⟩
  exact World.ownsRow.mono (ho.ch h23 (fun k hk => hk.2)) hB

set_option maxHeartbeats 2000000 in
set_option maxRecDepth 100000 in
theorem goes_b (nb xb : Nat) (x0 : Rp) (t : Value) (F : Nat → Prop) (W0 : World) (hn : W0.cell? ⟨nb, 0, none⟩ = some (.slice none 0 0)) (hz : W0.frozen? ⟨nb, 0, none⟩ = false) (hF : F nb ∧ F xb) (hne : nb ≠ xb)
    (h0 : W0.cell? ⟨xb, 0, none⟩ = some (.int .i64 x0.code)) (h1 : W0.cell? ⟨xb, 1, none⟩ = some t) (h2 : W0.cell? ⟨xb, 2, none⟩ = some (.string ⟨x0.b.toArray⟩)) (hl : x0.fs.length ≤ 1000)
    (ht : ∀ W B, Agree F W0 W → (∀ k, F k → k < B) → ∀ W', Ch (fun k => k = nb ∨ B ≤ k) W W' → FieldsAt W' t x0.fs) :
    HandlesB 15 #[.pointer (some ⟨nb, 0, none⟩), .pointer (some ⟨xb, 0, none⟩)] (fun k => k = nb) F W0 x0.fs.length (RGoes nb x0) := by
  intro B W r s hA hs hB hT hFB _
  have hn1 := hA.cell (p := ⟨nb, 0, none⟩) hF.1 hn
  have hz1 : W.frozen? ⟨nb, 0, none⟩ = false := (World.frozen?_of_block (hA.2 nb hF.1)).trans hz
  have hlt : nb < W.heap.size := cell_lt hn1
  have hltB : nb < B := hT nb rfl
  have hxB : xb < B := hFB xb hF.2
  have e0 := hA.cell (p := ⟨xb, 0, none⟩) hF.2 h0
  have e1 := hA.cell (p := ⟨xb, 1, none⟩) hF.2 h1
  have e2 := hA.cell (p := ⟨xb, 2, none⟩) hF.2 h2
  have hxl : xb < W.heap.size := cell_lt e0
  have htW := Lib.hid (ht W B hA hFB)
  have htsl : FieldsAt W t x0.fs := ht W B hA hFB W (Ch.refl _ _)
  obtain ⟨p, cap, rfl⟩ := hs.slice
  obtain ⟨pt, capt, rfl, -⟩ := htsl
  have hs' := Lib.hid hs
  have hB' := Lib.hid hB
  obtain ⟨i0, hi, hz0, hzz, hz2⟩ := info_parts infoReq
  clear hs hA hT hn hz hF hB ht h0 h1 h2 hFB
  have hown0 : ∀ O1 O2 O3, (((W.alloc O1).alloc O2).alloc O3).ownsRow W.heap.size 25 7 (.slice none 0 0) 0 [] := fun O1 O2 O3 => World.ownsRow_nil _ _ _ _
  show Calls Tryd.prog 15 #[.agg #[.string ⟨r.m.toArray⟩, .string ⟨r.p.toArray⟩, .string ⟨r.q.toArray⟩, .int .i64 r.v, .slice p r.fs.length cap, .string ⟨r.b.toArray⟩, .bool r.c], .pointer (some ⟨nb, 0, none⟩), .pointer (some ⟨xb, 0, none⟩)] W _
  go_enter Tryd.func15, Tryd.ntmps15
  go_wp2_with (at_builtin; refine wpList_append_own _ rfl _ _ 38 rfl W.heap.size 25 i0 _ 7 104 Tryd.underlying38 hi hz0 hzz hz2 rfl (by decide) _ _ _ rfl (hown0 _ _ _) ⟨W.heap.size + 2, 0, none⟩ 1 1 (rqcells r (.slice p r.fs.length cap)) rfl rfl ?qc2 ?qc3 ?qc4 ?qc5 ?qc6 ?_)
  case qc2 =>
    intro j u hj
    have := cells_new ((W.alloc (.cells #[.string ⟨r.m.toArray⟩, .string ⟨r.p.toArray⟩, .string ⟨r.q.toArray⟩, .int .i64 r.v, .slice p r.fs.length cap, .string ⟨r.b.toArray⟩, .bool r.c] 25)).alloc (.cells #[.int .i64 0, .slice none 0 0, .string ⟨#[]⟩] 27)) (rqcells r (.slice p r.fs.length cap)) 25 j u hj
    simpa [rqcells] using this
  case qc3 =>
    intro u hu
    simp [rqcells] at hu
    rcases hu with rfl | rfl | rfl | rfl | rfl | rfl | rfl <;> rfl
  case qc4 => decide
  case qc5 => decide
  case qc6 => simp; omega
  intro v' w3 hown3 hgrow _
  have hgro := ch_grown hgrow
  have h03 : Gr W w3 := (((Gr.alloc W _).alloc1 _).alloc1 _).ch hgro (fun k e => by simp [Value.ownBlock] at e)
  obtain ⟨g, cap9, rfl, hgB, hgl, hgc⟩ := ownsRow_cell hown3 (by omega)
  have hrc : RqCell w3 g r (.slice p r.fs.length cap) := ⟨hgc 0 (by decide), hgc 1 (by decide), hgc 2 (by decide), hgc 3 (by decide), hgc 4 (by decide), hgc 5 (by decide), hgc 6 (by decide)⟩
  replace e0 := h03.cell e0
  replace e1 := h03.cell e1
  replace e2 := h03.cell e2
  have n0 := h03.cell hn1
  have nz : w3.frozen? ⟨nb, 0, none⟩ = false := (Below.frozen h03 (p := ⟨nb, 0, none⟩) hlt).trans hz1
  have kk : ∀ {k o x}, k < W.heap.size + 3 → (((W.alloc (.cells #[.string ⟨r.m.toArray⟩, .string ⟨r.p.toArray⟩, .string ⟨r.q.toArray⟩, .int .i64 r.v, .slice p r.fs.length cap, .string ⟨r.b.toArray⟩, .bool r.c] 25)).alloc (.cells #[.int .i64 0, .slice none 0 0, .string ⟨#[]⟩] 27)).alloc (.cells (rqcells r (.slice p r.fs.length cap)).toArray 25)).cell? ⟨k, o, none⟩ = some x → w3.cell? ⟨k, o, none⟩ = some x := fun {k o x} hk h =>
    (hgro.cell (p := ⟨k, o, none⟩) (by simp; omega) (fun e => by simp [Value.ownBlock] at e)).trans h
  have d0 : w3.cell? ⟨W.heap.size + 1, 0, none⟩ = some (.int .i64 0) := kk (by omega) (by simp [go_sem])
  have d1 : w3.cell? ⟨W.heap.size + 1, 1, none⟩ = some (.slice none 0 0) := kk (by omega) (by simp [go_sem])
  have d2 : w3.cell? ⟨W.heap.size + 1, 2, none⟩ = some (.string ⟨#[]⟩) := kk (by omega) (by simp [go_sem])
  have df : ∀ o, w3.frozen? ⟨W.heap.size + 1, o, none⟩ = false := fun o => (hgro.frozen (p := ⟨W.heap.size + 1, o, none⟩) (by simp) (fun e => by simp [Value.ownBlock] at e)).trans (by simp [go_sem])
  have n1 : ¬ (nb = xb) := hne
  have n2 : ¬ (nb = W.heap.size + 1) := by omega
  have n3 : ¬ (W.heap.size + 1 = nb) := by omega
  have n4 : ¬ (W.heap.size + 1 = xb) := by omega
  have hgne : g ≠ nb := by omega
  have hgn : W.heap.size ≤ g := hgB
  have hgd : g ≠ W.heap.size + 1 := fun e => by
    have := hgc 0 (by decide)
    rw [e, d0] at this
    cases this
  have hrc' := Lib.hid hrc
  have h03' := Lib.hid h03
  have hgx := Lib.hid (And.intro hgne (And.intro hgd hgn))
  clear hown3 hgrow hgro hgc hrc kk hown0 h03 hi hz0 hzz hz2 hgne hgd hgn hgB
  go_wp2
  obtain ⟨wf, hwf⟩ : ∃ wf, (((w3.setCell ⟨nb, 0, none⟩ (.slice (some ⟨g, 0, none⟩) 1 cap9)).setCell ⟨W.heap.size + 1, 0, none⟩ (.int .i64 x0.code)).setCell ⟨W.heap.size + 1, 1, none⟩ (.slice pt x0.fs.length capt)).setCell ⟨W.heap.size + 1, 2, none⟩ (.string ⟨x0.b.toArray⟩) = wf := ⟨_, rfl⟩
  have hs3 : Ch (fun k => k = W.heap.size + 1) (w3.setCell ⟨nb, 0, none⟩ (.slice (some ⟨g, 0, none⟩) 1 cap9)) wf := by rw [← hwf]; exact Ch.set3 _ _ _ _ _
  have hs1 : Ch (fun k => k = nb) w3 (w3.setCell ⟨nb, 0, none⟩ (.slice (some ⟨g, 0, none⟩) 1 cap9)) := Ch.setCell (T := fun k => k = nb) w3 (a := ⟨nb, 0, none⟩) rfl _
  have hs4 : Ch (fun k => k = nb ∨ k = W.heap.size + 1) w3 wf := (hs1.mono fun k hk => .inl hk).trans (hs3.mono fun k hk => .inr hk)
  have hsW : Ch (fun k => k = nb ∨ W.heap.size ≤ k) W wf := (h03'.out.to_ch _).trans (hs4.mono fun k hk => hk.imp id fun h => by (try dsimp only at h ⊢); omega)
  have hfin : Ch (fun k => k = nb ∨ B ≤ k) W wf := hsW.mono fun k hk => hk.imp id fun h => Nat.le_trans hB'.out h
  have hP : HPostB (fun k => k = nb) x0.fs.length (RGoes nb x0) B r W (.returned (Rp.V x0 (.slice pt x0.fs.length capt))) wf := by
    have old : ∀ {o v}, w3.cell? ⟨g, o, none⟩ = some v → wf.cell? ⟨g, o, none⟩ = some v := fun {o v} h => (hs4.cell (p := ⟨g, o, none⟩) hgl (fun e => e.elim hgx.out.1 hgx.out.2.1)).trans h
    obtain ⟨r0, r1, r2, r3, r4, r5, r6⟩ := hrc'.out
    refine ⟨x0, _, rfl, htW.out _ hfin, Nat.le_refl _, ⟨rfl, g, cap9, .slice p r.fs.length cap, Nat.le_trans hB'.out hgx.out.2.2, ?_, ⟨old r0, old r1, old r2, old r3, old r4, old r5, old r6⟩, ?_⟩, hfin⟩
    · exact (hs3.cell (p := ⟨nb, 0, none⟩) (cell_lt (cell_set_same n0)) n2).trans (cell_set_same n0)
    · exact ownsRow_old hs'.out hsW (fun k hk => hk.imp (fun h => by omega) id)
  rw [hwf]
  refine bodyPost_ret (v := Rp.V x0 (.slice pt x0.fs.length capt)) ?_ rfl hP
  rw [← hwf]
  simp [results, Tryd.results15, go_sem, Rp.V, d0, d1, d2, n1, n2, n3, n4]
end Go.Proofs.YtolpphmgobeocaaDoor
