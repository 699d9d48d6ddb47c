/-
  Requests: one is the same as itself; rows of requests. (Printed by mk_ym.py.)
  Plain laws of a body in chunks: the reference, line by line: no program in sight.
-/
import Derived.Test.YtpncfeaaffgkfaaGreatDoorYj
import Derived.BigQuiet
import Derived.Test.YtpncfeaaffgkfaaGreatDoorP1
namespace Go.Proofs.YtpncfeaaffgkfaaGreatDoor
open Go.RowKit
attribute [local go_sem] Oper.semAt_some

set_option maxHeartbeats 8000000 in
set_option maxRecDepth 100000 in
theorem same9_any (r : Rq) (s t : Value) (w : World) (hx : FieldsAt w s r.fs) (hy : FieldsAt w t r.fs) (hl : r.fs.length ≤ 1000000) :
    Calls Tryz.prog 18 #[r.V s, r.V t] w fun e w' => e = .returned (.bool true) ∧ Gr w w' := by
  obtain ⟨p, cap, rfl, hc⟩ := hx
  obtain ⟨q, cap2, rfl, hd⟩ := hy
  have hc' := Lib.hid hc
  have hd' := Lib.hid hd
  clear hc hd
  obtain ⟨m, pa, qu, v, fs, b, c⟩ := r
  unfold Rq.V
  dsimp only at hc' hd' hl ⊢
  have n0 : ((w.alloc (.cells #[.string ⟨m.toArray⟩, .string ⟨pa.toArray⟩, .string ⟨qu.toArray⟩, .int .i64 v, .slice p fs.length cap, .string ⟨b.toArray⟩, .bool c] 27)).alloc (.cells #[.string ⟨m.toArray⟩, .string ⟨pa.toArray⟩, .string ⟨qu.toArray⟩, .int .i64 v, .slice q fs.length cap2, .string ⟨b.toArray⟩, .bool c] 27)).cell? ⟨w.heap.size, 0, none⟩ = some (.string ⟨m.toArray⟩) := by simp [go_sem]
  have m0 : ((w.alloc (.cells #[.string ⟨m.toArray⟩, .string ⟨pa.toArray⟩, .string ⟨qu.toArray⟩, .int .i64 v, .slice p fs.length cap, .string ⟨b.toArray⟩, .bool c] 27)).alloc (.cells #[.string ⟨m.toArray⟩, .string ⟨pa.toArray⟩, .string ⟨qu.toArray⟩, .int .i64 v, .slice q fs.length cap2, .string ⟨b.toArray⟩, .bool c] 27)).cell? ⟨w.heap.size + 1, 0, none⟩ = some (.string ⟨m.toArray⟩) := by simp [go_sem]
  have n1 : ((w.alloc (.cells #[.string ⟨m.toArray⟩, .string ⟨pa.toArray⟩, .string ⟨qu.toArray⟩, .int .i64 v, .slice p fs.length cap, .string ⟨b.toArray⟩, .bool c] 27)).alloc (.cells #[.string ⟨m.toArray⟩, .string ⟨pa.toArray⟩, .string ⟨qu.toArray⟩, .int .i64 v, .slice q fs.length cap2, .string ⟨b.toArray⟩, .bool c] 27)).cell? ⟨w.heap.size, 1, none⟩ = some (.string ⟨pa.toArray⟩) := by simp [go_sem]
  have m1 : ((w.alloc (.cells #[.string ⟨m.toArray⟩, .string ⟨pa.toArray⟩, .string ⟨qu.toArray⟩, .int .i64 v, .slice p fs.length cap, .string ⟨b.toArray⟩, .bool c] 27)).alloc (.cells #[.string ⟨m.toArray⟩, .string ⟨pa.toArray⟩, .string ⟨qu.toArray⟩, .int .i64 v, .slice q fs.length cap2, .string ⟨b.toArray⟩, .bool c] 27)).cell? ⟨w.heap.size + 1, 1, none⟩ = some (.string ⟨pa.toArray⟩) := by simp [go_sem]
  have n2 : ((w.alloc (.cells #[.string ⟨m.toArray⟩, .string ⟨pa.toArray⟩, .string ⟨qu.toArray⟩, .int .i64 v, .slice p fs.length cap, .string ⟨b.toArray⟩, .bool c] 27)).alloc (.cells #[.string ⟨m.toArray⟩, .string ⟨pa.toArray⟩, .string ⟨qu.toArray⟩, .int .i64 v, .slice q fs.length cap2, .string ⟨b.toArray⟩, .bool c] 27)).cell? ⟨w.heap.size, 2, none⟩ = some (.string ⟨qu.toArray⟩) := by simp [go_sem]
  have m2 : ((w.alloc (.cells #[.string ⟨m.toArray⟩, .string ⟨pa.toArray⟩, .string ⟨qu.toArray⟩, .int .i64 v, .slice p fs.length cap, .string ⟨b.toArray⟩, .bool c] 27)).alloc (.cells #[.string ⟨m.toArray⟩, .string ⟨pa.toArray⟩, .string ⟨qu.toArray⟩, .int .i64 v, .slice q fs.length cap2, .string ⟨b.toArray⟩, .bool c] 27)).cell? ⟨w.heap.size + 1, 2, none⟩ = some (.string ⟨qu.toArray⟩) := by simp [go_sem]
  have n3 : ((w.alloc (.cells #[.string ⟨m.toArray⟩, .string ⟨pa.toArray⟩, .string ⟨qu.toArray⟩, .int .i64 v, .slice p fs.length cap, .string ⟨b.toArray⟩, .bool c] 27)).alloc (.cells #[.string ⟨m.toArray⟩, .string ⟨pa.toArray⟩, .string ⟨qu.toArray⟩, .int .i64 v, .slice q fs.length cap2, .string ⟨b.toArray⟩, .bool c] 27)).cell? ⟨w.heap.size, 3, none⟩ = some (.int .i64 v) := by simp [go_sem]
  have m3 : ((w.alloc (.cells #[.string ⟨m.toArray⟩, .string ⟨pa.toArray⟩, .string ⟨qu.toArray⟩, .int .i64 v, .slice p fs.length cap, .string ⟨b.toArray⟩, .bool c] 27)).alloc (.cells #[.string ⟨m.toArray⟩, .string ⟨pa.toArray⟩, .string ⟨qu.toArray⟩, .int .i64 v, .slice q fs.length cap2, .string ⟨b.toArray⟩, .bool c] 27)).cell? ⟨w.heap.size + 1, 3, none⟩ = some (.int .i64 v) := by simp [go_sem]
  have n4 : ((w.alloc (.cells #[.string ⟨m.toArray⟩, .string ⟨pa.toArray⟩, .string ⟨qu.toArray⟩, .int .i64 v, .slice p fs.length cap, .string ⟨b.toArray⟩, .bool c] 27)).alloc (.cells #[.string ⟨m.toArray⟩, .string ⟨pa.toArray⟩, .string ⟨qu.toArray⟩, .int .i64 v, .slice q fs.length cap2, .string ⟨b.toArray⟩, .bool c] 27)).cell? ⟨w.heap.size, 4, none⟩ = some (.slice p fs.length cap) := by simp [go_sem]
  have m4 : ((w.alloc (.cells #[.string ⟨m.toArray⟩, .string ⟨pa.toArray⟩, .string ⟨qu.toArray⟩, .int .i64 v, .slice p fs.length cap, .string ⟨b.toArray⟩, .bool c] 27)).alloc (.cells #[.string ⟨m.toArray⟩, .string ⟨pa.toArray⟩, .string ⟨qu.toArray⟩, .int .i64 v, .slice q fs.length cap2, .string ⟨b.toArray⟩, .bool c] 27)).cell? ⟨w.heap.size + 1, 4, none⟩ = some (.slice q fs.length cap2) := by simp [go_sem]
  have n5 : ((w.alloc (.cells #[.string ⟨m.toArray⟩, .string ⟨pa.toArray⟩, .string ⟨qu.toArray⟩, .int .i64 v, .slice p fs.length cap, .string ⟨b.toArray⟩, .bool c] 27)).alloc (.cells #[.string ⟨m.toArray⟩, .string ⟨pa.toArray⟩, .string ⟨qu.toArray⟩, .int .i64 v, .slice q fs.length cap2, .string ⟨b.toArray⟩, .bool c] 27)).cell? ⟨w.heap.size, 5, none⟩ = some (.string ⟨b.toArray⟩) := by simp [go_sem]
  have m5 : ((w.alloc (.cells #[.string ⟨m.toArray⟩, .string ⟨pa.toArray⟩, .string ⟨qu.toArray⟩, .int .i64 v, .slice p fs.length cap, .string ⟨b.toArray⟩, .bool c] 27)).alloc (.cells #[.string ⟨m.toArray⟩, .string ⟨pa.toArray⟩, .string ⟨qu.toArray⟩, .int .i64 v, .slice q fs.length cap2, .string ⟨b.toArray⟩, .bool c] 27)).cell? ⟨w.heap.size + 1, 5, none⟩ = some (.string ⟨b.toArray⟩) := by simp [go_sem]
  have n6 : ((w.alloc (.cells #[.string ⟨m.toArray⟩, .string ⟨pa.toArray⟩, .string ⟨qu.toArray⟩, .int .i64 v, .slice p fs.length cap, .string ⟨b.toArray⟩, .bool c] 27)).alloc (.cells #[.string ⟨m.toArray⟩, .string ⟨pa.toArray⟩, .string ⟨qu.toArray⟩, .int .i64 v, .slice q fs.length cap2, .string ⟨b.toArray⟩, .bool c] 27)).cell? ⟨w.heap.size, 6, none⟩ = some (.bool c) := by simp [go_sem]
  have m6 : ((w.alloc (.cells #[.string ⟨m.toArray⟩, .string ⟨pa.toArray⟩, .string ⟨qu.toArray⟩, .int .i64 v, .slice p fs.length cap, .string ⟨b.toArray⟩, .bool c] 27)).alloc (.cells #[.string ⟨m.toArray⟩, .string ⟨pa.toArray⟩, .string ⟨qu.toArray⟩, .int .i64 v, .slice q fs.length cap2, .string ⟨b.toArray⟩, .bool c] 27)).cell? ⟨w.heap.size + 1, 6, none⟩ = some (.bool c) := by simp [go_sem]
  have g0 := Lib.hid (((Gr.alloc w (.cells #[.string ⟨m.toArray⟩, .string ⟨pa.toArray⟩, .string ⟨qu.toArray⟩, .int .i64 v, .slice p fs.length cap, .string ⟨b.toArray⟩, .bool c] 27)).alloc1 (.cells #[.string ⟨m.toArray⟩, .string ⟨pa.toArray⟩, .string ⟨qu.toArray⟩, .int .i64 v, .slice q fs.length cap2, .string ⟨b.toArray⟩, .bool c] 27)))
  go_enter Tryz.func18, Tryz.ntmps18
  go_upto_region 3 with (fail)
  generalize ((w.alloc (.cells #[.string ⟨m.toArray⟩, .string ⟨pa.toArray⟩, .string ⟨qu.toArray⟩, .int .i64 v, .slice p fs.length cap, .string ⟨b.toArray⟩, .bool c] 27)).alloc (.cells #[.string ⟨m.toArray⟩, .string ⟨pa.toArray⟩, .string ⟨qu.toArray⟩, .int .i64 v, .slice q fs.length cap2, .string ⟨b.toArray⟩, .bool c] 27)) = w1 at g0 n0 m0 n1 m1 n2 m2 n3 m3 n4 m4 n5 m5 n6 m6 ⊢
  go_wp2
  go_loopw [5] (fun i wr => (∃ k : Nat, k ≤ fs.length ∧ i = .int .i64 k) ∧ Gr w1 wr) (fun i _ => fs.length - (intOf i).toNat)
  case atStart => exact ⟨⟨0, Nat.zero_le _, rfl⟩, Gr.refl _⟩
  case round =>
    obtain ⟨⟨k, hk, rfl⟩, hg⟩ := hrel
    replace n0 := hg.cell n0
    replace m0 := hg.cell m0
    replace n1 := hg.cell n1
    replace m1 := hg.cell m1
    replace n2 := hg.cell n2
    replace m2 := hg.cell m2
    replace n3 := hg.cell n3
    replace m3 := hg.cell m3
    replace n4 := hg.cell n4
    replace m4 := hg.cell m4
    replace n5 := hg.cell n5
    replace m5 := hg.cell m5
    replace n6 := hg.cell n6
    replace m6 := hg.cell m6
    by_cases hlt : k < fs.length
    · obtain ⟨bb, off, rfl, h1, h2⟩ := hc'.out k hlt
      obtain ⟨b2, off2, rfl, h3, h4⟩ := hd'.out k hlt
      have c1 := (g0.out.trans hg).cell h1
      have c2 := (g0.out.trans hg).cell h2
      have c3 := (g0.out.trans hg).cell h3
      have c4 := (g0.out.trans hg).cell h4
      clear h1 h2 h3 h4
      obtain ⟨⟨x1, x2⟩, hx⟩ : ∃ x, fs[k] = x := ⟨_, rfl⟩
      rw [hx] at c1 c2 c3 c4
      dsimp only at c1 c2 c3 c4
      have hkI : (0 : Int) ≤ k := by omega
      have hkA : (k : Int) < fs.length := by omega
      clear hx
      go_wp2
      go_quiet (fail)
      go_wp2
      go_roundw
      case rel => exact ⟨⟨k + 1, by omega, by go_num⟩, hg.trans (below_drewNm _ _)⟩
      case measure => simp [intOf]; omega
    · have hkA : ¬ (k : Int) < fs.length := by omega
      have hfin := Lib.hid (g0.out.trans hg)
      clear hg
      go_wp2
      go_ret
      exact ⟨rfl, hfin.out⟩
/-- A slice value that holds these requests, in blocks of S. -/
def ReqsIn (S : Nat → Prop) (W : World) (v : Value) (l : List Rq) : Prop :=
  ∃ p cap, v = .slice p l.length cap ∧ ∀ i, (hi : i < l.length) → ∃ b off fv, p = some ⟨b, off, none⟩ ∧ S b ∧ FieldsAt W fv l[i].fs ∧ (∀ a n c, fv = .slice (some a) n c → S a.block ∧ a.block < W.heap.size) ∧
    W.cell? ⟨b, off + i * 7, none⟩ = some (.string ⟨l[i].m.toArray⟩) ∧ W.cell? ⟨b, off + i * 7 + 1, none⟩ = some (.string ⟨l[i].p.toArray⟩) ∧ W.cell? ⟨b, off + i * 7 + 2, none⟩ = some (.string ⟨l[i].q.toArray⟩) ∧ W.cell? ⟨b, off + i * 7 + 3, none⟩ = some (.int .i64 l[i].v) ∧
    W.cell? ⟨b, off + i * 7 + 4, none⟩ = some fv ∧ W.cell? ⟨b, off + i * 7 + 5, none⟩ = some (.string ⟨l[i].b.toArray⟩) ∧ W.cell? ⟨b, off + i * 7 + 6, none⟩ = some (.bool l[i].c)
theorem ReqsIn.ch {S T : Nat → Prop} {W W' : World} {v : Value} {l : List Rq} (h : ReqsIn S W v l) (hc : Ch T W W') (hd : ∀ k, S k → ¬ T k) : ReqsIn S W' v l := by
  obtain ⟨p, cap, e, hcs⟩ := h
  refine ⟨p, cap, e, fun i hi => ?_⟩
  obtain ⟨b, off, fv, hp, hs, hf, hfs, h0, h1, h2, h3, h4, h5, h6⟩ := hcs i hi
  have k : ∀ {o u}, W.cell? ⟨b, o, none⟩ = some u → W'.cell? ⟨b, o, none⟩ = some u := fun {o u} hh => (hc.cell (p := ⟨b, o, none⟩) (cell_lt hh) (hd b hs)).trans hh
  exact ⟨b, off, fv, hp, hs, hf.ch hc (fun a n c e => hd _ (hfs a n c e).1), fun a n c e => ⟨(hfs a n c e).1, Nat.lt_of_lt_of_le (hfs a n c e).2 hc.size⟩, k h0, k h1, k h2, k h3, k h4, k h5, k h6⟩
theorem ReqsIn.gr {S : Nat → Prop} {W W' : World} {v : Value} {l : List Rq} (h : ReqsIn S W v l) (hg : Gr W W') : ReqsIn S W' v l :=
  h.ch (hg.to_ch (fun _ => False)) (fun _ _ h => h)
/-- It lies in blocks that are there. -/
theorem ReqsIn.here {S : Nat → Prop} {W : World} {v : Value} {l : List Rq} (h : ReqsIn S W v l) : ReqsIn (fun k => S k ∧ k < W.heap.size) W v l := by
  obtain ⟨p, cap, e, hcs⟩ := h
  refine ⟨p, cap, e, fun i hi => ?_⟩
  obtain ⟨b, off, fv, hp, hs, hf, hfs, h0, hr⟩ := hcs i hi
  exact ⟨b, off, fv, hp, ⟨hs, cell_lt h0⟩, hf, fun a n c e => ⟨hfs a n c e, (hfs a n c e).2⟩, h0, hr⟩
theorem ReqsIn.mono {S S' : Nat → Prop} {W : World} {v : Value} {l : List Rq} (h : ReqsIn S W v l) (hS : ∀ k, S k → S' k) : ReqsIn S' W v l := by
  obtain ⟨p, cap, e, hcs⟩ := h
  refine ⟨p, cap, e, fun i hi => ?_⟩
  obtain ⟨b, off, fv, hp, hs, hf, hfs, hr⟩ := hcs i hi
  exact ⟨b, off, fv, hp, hS _ hs, hf, fun a n c e => ⟨hS _ (hfs a n c e).1, (hfs a n c e).2⟩, hr⟩
/-- The rows of the requests' fields lie in blocks of S. -/
def FsS (S : Nat → Prop) (xs : List (Rq × Value)) : Prop := ∀ x ∈ xs, ∀ a n c, x.2 = .slice (some a) n c → S a.block
theorem FsS.nil (S : Nat → Prop) : FsS S [] := fun _ h => (by cases h)
theorem FsS.push {S : Nat → Prop} {xs : List (Rq × Value)} {r : Rq} {fv : Value} (h : FsS S xs) (hf : ∀ a n c, fv = .slice (some a) n c → S a.block) : FsS S (xs ++ [(r, fv)]) := fun x hx => by
  rcases List.mem_append.1 hx with hx | hx
  · exact h x hx
  · rw [List.mem_singleton] at hx; subst hx; exact hf
def rqc (x : Rq × Value) : List Value := [.string ⟨x.1.m.toArray⟩, .string ⟨x.1.p.toArray⟩, .string ⟨x.1.q.toArray⟩, .int .i64 x.1.v, x.2, .string ⟨x.1.b.toArray⟩, .bool x.1.c]
theorem infoReq9 : (Tryz.prog.info? 27).map (fun i => (i.zero, i.size, i.bytes)) = some (some (.agg #[.string ⟨#[]⟩, .string ⟨#[]⟩, .string ⟨#[]⟩, .int .i64 0, .slice none 0 0, .string ⟨#[]⟩, .bool false]), 7, 104) := by kernel_rfl
/-- Requests in memory of one's own, from block B on; their fields lie elsewhere. -/
structure RsW (B : Nat) (xs : List (Rq × Value)) (v : Value) (W : World) : Prop where
  own : W.ownsRow B 27 7 v xs.length (rcells rqc xs)
  fs : ∀ x ∈ xs, FieldsAt W x.2 x.1.fs
  sep : ∀ x ∈ xs, ∀ a n c, x.2 = .slice (some a) n c → v.ownBlock ≠ some a.block ∧ a.block < W.heap.size
theorem RsW.gr {B : Nat} {xs : List (Rq × Value)} {v : Value} {W W' : World} (h : RsW B xs v W) (hg : Gr W W') : RsW B xs v W' :=
  ⟨ownsRow_gr h.own hg, fun x hx => (h.fs x hx).gr hg, fun x hx a n c e => ⟨(h.sep x hx a n c e).1, Nat.lt_of_lt_of_le (h.sep x hx a n c e).2 (Below.size hg)⟩⟩
theorem RsW.nil (B : Nat) (W : World) : RsW B [] (.slice none 0 0) W := ⟨World.ownsRow_nil _ _ _ _, fun _ h => (by cases h), fun _ h => (by cases h)⟩
theorem RsW.push {B : Nat} {xs : List (Rq × Value)} {v v' fv : Value} {r : Rq} {W W9 : World} {o : Obj} (h : RsW B xs v W) (hf : FieldsAt W fv r.fs) (hs : ∀ a n c, fv = .slice (some a) n c → v.ownBlock ≠ some a.block ∧ a.block < W.heap.size)
    (hown : W9.ownsRow B 27 7 v' (xs.length + 1) (rcells rqc xs ++ rqc (r, fv))) (hgrow : (W.alloc o).grownBy W9 v.ownBlock) (hat : v'.ownBlock = v.ownBlock ∨ v'.ownBlock = some (W.alloc o).heap.size) :
    RsW B (xs ++ [(r, fv)]) v' W9 := by
  have hc : Ch (fun k => v.ownBlock = some k) W W9 := ((Gr.alloc W o).to_ch _).trans (Ch.of_grown hgrow)
  have hz : W.heap.size < (W.alloc o).heap.size := by simp
  have key : ∀ x ∈ xs ++ [(r, fv)], FieldsAt W x.2 x.1.fs ∧ ∀ a n c, x.2 = .slice (some a) n c → v.ownBlock ≠ some a.block ∧ a.block < W.heap.size := fun x hx => by
    rcases List.mem_append.1 hx with hx | hx
    · exact ⟨h.fs x hx, h.sep x hx⟩
    · rw [List.mem_singleton] at hx; subst hx; exact ⟨hf, hs⟩
  refine ⟨?_, fun x hx => (key x hx).1.ch hc (fun a n c e hk => ((key x hx).2 a n c e).1 hk), fun x hx a n c e => ?_⟩
  · rw [List.length_append, rcells_app, rcells_one1]; exact hown
  · obtain ⟨k1, k2⟩ := (key x hx).2 a n c e
    refine ⟨fun e2 => ?_, Nat.lt_of_lt_of_le k2 hc.size⟩
    rcases hat with e3 | e3
    · exact k1 (e3.symm.trans e2)
    · rw [e2] at e3
      injection e3 with e3
      omega
theorem RsW.at {B : Nat} {S : Nat → Prop} {xs : List (Rq × Value)} {v : Value} {W : World} (h : RsW B xs v W) (hS : FsS S xs) (hv : ∀ k, v.ownBlock = some k → S k) : ReqsIn S W v (xs.map (·.1)) := by
  by_cases h0 : 0 < xs.length
  · obtain ⟨g, cap, rfl, _, _, hc⟩ := ownsRow_cell h.own h0
    refine ⟨_, cap, by rw [List.length_map], fun i hi => ?_⟩
    rw [List.length_map] at hi
    have hcell : ∀ j, (hj : j < 7) → W.cell? ⟨g, i * 7 + j, none⟩ = (rqc xs[i])[j]? := fun j hj => by
      rw [hc (i * 7 + j) (by omega), rcells_get (k := 7) (fun _ => rfl) xs i j hi hj]
    refine ⟨g, 0, xs[i].2, rfl, hv g rfl, ?_, fun a n c e => ⟨hS _ (List.getElem_mem hi) a n c e, (h.sep _ (List.getElem_mem hi) a n c e).2⟩, ?_⟩
    · have := h.fs xs[i] (List.getElem_mem hi)
      simpa using this
    · simp only [List.getElem_map, Nat.zero_add]
      exact ⟨hcell 0 (by decide), hcell 1 (by decide), hcell 2 (by decide), hcell 3 (by decide), hcell 4 (by decide), hcell 5 (by decide), hcell 6 (by decide)⟩
  · have hn : xs = [] := List.eq_nil_of_length_eq_zero (by omega)
    subst hn
    rcases h.own.2 with ⟨rfl, _⟩ | ⟨g, cap, cur, rfl, _⟩
    · exact ⟨none, 0, rfl, fun i hi => absurd hi (Nat.not_lt_zero _)⟩
    · exact ⟨_, cap, rfl, fun i hi => absurd hi (Nat.not_lt_zero _)⟩
end Go.Proofs.YtpncfeaaffgkfaaGreatDoor
namespace Go.Proofs.YtpncfeaaffgkfaaGreatDoor

/-- A line from a place on: its text, the place behind it, what is wrong, whether it has ended. lim: none: a head's; some L: all bytes have to stand ahead of L. -/
def lineR (lim : Option Nat) : List UInt8 → Nat → List UInt8 → List UInt8 × Nat × Nat × Bool
  | _, i, [] => ([], i, 0, false)
  | acc, i, c :: t =>
    if (match lim with | some L => decide (L ≤ i) | none => false) then ([], i + 1, 431, false)
    else if crB acc != (c == 10) then ([], i + 1, 400, false)
    else if crB acc then (acc.dropLast, i + 1, 0, true)
    else if lim.isNone && decide (2048 ≤ acc.length) then ([], i + 1, 431, false)
    else lineR lim (acc ++ [c]) (i + 1) t

/-- What is asked of a reader that was fed. -/
def resC (x : Nat × Ck) : Nat × List UInt8 × Bool × Nat := (x.1, x.2.data, decide (x.2.st = 4 ∧ x.2.bad = 0), x.2.bad)

theorem line_head : ∀ (rest : List UInt8) (r : Ck) (i : Nat), r.st = 0 → r.tail = 0 → r.line.length ≤ 2048 → r.bad = 0 →
    (∃ txt nx, lineR none r.line i rest = (txt, nx, 0, true) ∧ i < nx ∧ nx - i ≤ rest.length ∧ feedC r rest = ((nx - i) + (feedC (headC { r with line := [] } txt) (rest.drop (nx - i))).1, (feedC (headC { r with line := [] } txt) (rest.drop (nx - i))).2)) ∨
    (∃ nx bad r', lineR none r.line i rest = ([], nx, bad, false) ∧ i ≤ nx ∧ nx - i ≤ rest.length ∧ feedC r rest = (nx - i, r') ∧ r'.data = r.data ∧ r'.bad = bad ∧ (bad = 0 → r'.st ≠ 4))
  | [], r, i, h0, _, _, hb => .inr ⟨i, 0, r, rfl, Nat.le_refl _, by simp, by simp [feedC], rfl, hb, fun _ => by omega⟩
  | c :: t, r, i, h0, h1, h2, hb => by
    rw [feed_cons (by omega)]
    have hs : stepC r c = letterC r c := by unfold stepC; rw [if_neg (by omega), if_neg (by omega)]
    have hl : letterC r c = if crB r.line != (c == 10) then wrongC r 400 else if crB r.line then headC { r with line := [] } r.line.dropLast else if r.line.length = 2048 then wrongC r 431 else { r with line := r.line ++ [c] } := by
      unfold letterC
      simp only [h0]
      rw [if_neg (show ¬ (0 = 3) by decide), if_neg (by omega)]
      simp only [h0, if_true, true_and]
    rw [hs, hl]
    unfold lineR
    dsimp only
    rw [if_neg (show ¬ (false = true) by decide)]
    by_cases e1 : (crB r.line != (c == 10)) = true
    · rw [if_pos e1, if_pos e1]
      exact .inr ⟨i + 1, 400, wrongC r 400, rfl, by omega, by (first | (simp; done) | (simp; omega)), by rw [feed_over rfl]; simp, rfl, rfl, fun h => by cases h⟩
    · rw [if_neg e1, if_neg e1]
      by_cases e2 : crB r.line = true
      · rw [if_pos e2, if_pos e2]
        refine .inl ⟨_, _, rfl, by omega, by (first | (simp; done) | (simp; omega)), ?_⟩
        rw [show i + 1 - i = 1 by omega, List.drop_succ_cons, List.drop_zero, Nat.add_comm]
      · rw [if_neg e2, if_neg e2]
        by_cases e3 : r.line.length = 2048
        · rw [if_pos e3, if_pos (by simp [e3])]
          exact .inr ⟨i + 1, 431, wrongC r 431, rfl, by omega, by (first | (simp; done) | (simp; omega)), by rw [feed_over rfl]; simp, rfl, rfl, fun h => by cases h⟩
        · rw [if_neg e3, if_neg (by simp; omega)]
          rcases line_head t { r with line := r.line ++ [c] } (i + 1) h0 h1 (by simp; omega) hb with ⟨txt, nx, k1, k2, k3, k4⟩ | ⟨nx, bad, r', k1, k2, k3, k4, k5, k6, k7⟩
          · refine .inl ⟨txt, nx, k1, by omega, by simp; omega, ?_⟩
            rw [k4, show nx - i = (nx - (i + 1)) + 1 by omega, List.drop_succ_cons]
            simp; omega
          · refine .inr ⟨nx, bad, r', k1, by omega, by simp; omega, ?_, k5, k6, k7⟩
            rw [k4, show nx - i = (nx - (i + 1)) + 1 by omega]
theorem line_tail : ∀ (rest : List UInt8) (r : Ck) (i L : Nat), r.st = 3 → r.tail + L = i + 2048 → r.bad = 0 →
    (∃ txt nx, lineR (some L) r.line i rest = (txt, nx, 0, true) ∧ i < nx ∧ nx ≤ L ∧ nx - i ≤ rest.length ∧ feedC r rest = ((nx - i) + (feedC (trailerC { r with line := [], tail := r.tail + (nx - i) } txt) (rest.drop (nx - i))).1, (feedC (trailerC { r with line := [], tail := r.tail + (nx - i) } txt) (rest.drop (nx - i))).2)) ∨
    (∃ nx bad r', lineR (some L) r.line i rest = ([], nx, bad, false) ∧ i ≤ nx ∧ nx - i ≤ rest.length ∧ feedC r rest = (nx - i, r') ∧ r'.data = r.data ∧ r'.bad = bad ∧ (bad = 0 → r'.st ≠ 4))
  | [], r, i, L, h0, _, hb => .inr ⟨i, 0, r, rfl, Nat.le_refl _, by simp, by simp [feedC], rfl, hb, fun _ => by omega⟩
  | c :: t, r, i, L, h0, h1, hb => by
    rw [feed_cons (by omega)]
    have hs : stepC r c = letterC r c := by unfold stepC; rw [if_neg (by omega), if_neg (by omega)]
    have hl : letterC r c = if 2048 < r.tail + 1 then wrongC { r with tail := r.tail + 1 } 431 else if crB r.line != (c == 10) then wrongC { r with tail := r.tail + 1 } 400 else if crB r.line then trailerC { r with line := [], tail := r.tail + 1 } r.line.dropLast else { r with line := r.line ++ [c], tail := r.tail + 1 } := by
      unfold letterC
      rw [if_pos h0]
      simp only [h0]
      rw [if_neg (show ¬ (3 = 0) by decide), if_neg (show ¬ (3 = 0 ∧ r.line.length = 2048) from fun h => by simp at h)]
    rw [hs, hl]
    unfold lineR
    dsimp only
    by_cases e0 : L ≤ i
    · rw [if_pos (show decide (L ≤ i) = true by simpa using e0), if_pos (show 2048 < r.tail + 1 by omega)]
      exact .inr ⟨i + 1, 431, wrongC { r with tail := r.tail + 1 } 431, rfl, by omega, by (first | (simp; done) | (simp; omega)), by rw [feed_over rfl]; simp, rfl, rfl, fun h => by cases h⟩
    · rw [if_neg (show ¬ decide (L ≤ i) = true by simpa using e0), if_neg (show ¬ 2048 < r.tail + 1 by omega)]
      by_cases e1 : (crB r.line != (c == 10)) = true
      · rw [if_pos e1, if_pos e1]
        exact .inr ⟨i + 1, 400, wrongC { r with tail := r.tail + 1 } 400, rfl, by omega, by (first | (simp; done) | (simp; omega)), by rw [feed_over rfl]; simp, rfl, rfl, fun h => by cases h⟩
      · rw [if_neg e1, if_neg e1]
        by_cases e2 : crB r.line = true
        · rw [if_pos e2, if_pos e2]
          refine .inl ⟨_, _, rfl, by omega, by omega, by (first | (simp; done) | (simp; omega)), ?_⟩
          rw [show i + 1 - i = 1 by omega, List.drop_succ_cons, List.drop_zero, Nat.add_comm]
        · rw [if_neg e2, if_neg e2, if_neg (by simp)]
          rcases line_tail t { r with line := r.line ++ [c], tail := r.tail + 1 } (i + 1) L h0 (by simp; omega) hb with ⟨txt, nx, k1, k2, k3, k4, k5⟩ | ⟨nx, bad, r', k1, k2, k3, k4, k5, k6, k7⟩
          · refine .inl ⟨txt, nx, k1, by omega, k3, by simp; omega, ?_⟩
            rw [k5, show nx - i = (nx - (i + 1)) + 1 by omega, List.drop_succ_cons]
            simp only [show r.tail + 1 + (nx - (i + 1)) = r.tail + (nx - (i + 1) + 1) by omega]
            simp; omega
          · refine .inr ⟨nx, bad, r', k1, by omega, by simp; omega, ?_, k5, k6, k7⟩
            rw [k4, show nx - i = (nx - (i + 1)) + 1 by omega]

/-- A reader at a head's begin. -/
def atHead (data : List UInt8) : Ck := ⟨0, [], 0, data, 0, 0, 0⟩
def atTail (data : List UInt8) (nf tail : Nat) : Ck := ⟨3, [], 0, data, nf, tail, 0⟩
def atEnd (data : List UInt8) : Ck := ⟨2, [], 0, data, 0, 0, 0⟩
/-- What the reading of s comes to when the first bytes up to at have been read and the reader stands at r. -/
def Now (s : List UInt8) (at' : Nat) (r : Ck) : Prop := feedC ck0 s = (at' + (feedC r (s.drop at')).1, (feedC r (s.drop at')).2)
theorem Now.begin (s : List UInt8) : Now s 0 (atHead []) := by unfold Now; rw [Nat.zero_add]; rfl
theorem Now.res {s : List UInt8} {a k : Nat} {r r' : Ck} (h : Now s a r) (hf : feedC r (s.drop a) = (k, r')) : resC (feedC ck0 s) = (a + k, r'.data, decide (r'.st = 4 ∧ r'.bad = 0), r'.bad) := by
  unfold Now at h; rw [h, hf]; rfl
theorem Now.move {s : List UInt8} {a k : Nat} {r r' : Ck} (h : Now s a r) (hf : feedC r (s.drop a) = (k + (feedC r' ((s.drop a).drop k)).1, (feedC r' ((s.drop a).drop k)).2)) : Now s (a + k) r' := by
  unfold Now at h ⊢
  rw [h, hf, List.drop_drop]
  simp; omega

section
variable {s data : List UInt8} {a : Nat}
/-- A head's line. -/
theorem head_line (h : Now s a (atHead data)) (ha : a ≤ s.length) :
    (∃ txt nx, lineR none [] a (s.drop a) = (txt, nx, 0, true) ∧ a < nx ∧ nx ≤ s.length ∧ Now s nx (headC (atHead data) txt)) ∨
    (∃ nx bad, lineR none [] a (s.drop a) = ([], nx, bad, false) ∧ a ≤ nx ∧ nx ≤ s.length ∧ resC (feedC ck0 s) = (nx, data, false, bad)) := by
  rcases line_head (s.drop a) (atHead data) a rfl rfl (by simp [atHead]) rfl with ⟨txt, nx, k1, k2, k3, k4⟩ | ⟨nx, bad, r', k1, k2, k3, k4, k5, k6, k7⟩
  · rw [List.length_drop] at k3
    refine .inl ⟨txt, nx, k1, k2, by omega, ?_⟩
    have := h.move k4
    rwa [show a + (nx - a) = nx by omega] at this
  · rw [List.length_drop] at k3
    refine .inr ⟨nx, bad, k1, k2, by omega, ?_⟩
    have hd : decide (r'.st = 4 ∧ r'.bad = 0) = false := by
      rw [decide_eq_false_iff_not]; rintro ⟨e1, e2⟩
      exact k7 (k6 ▸ e2) e1
    rw [h.res k4, hd, k5, k6, show a + (nx - a) = nx by omega]; rfl
theorem tail_line {nf at0 : Nat} (h : Now s a (atTail data nf (a - at0))) (h0 : at0 ≤ a) (ha : a ≤ s.length) :
    (∃ txt nx, lineR (some (at0 + 2048)) [] a (s.drop a) = (txt, nx, 0, true) ∧ a < nx ∧ nx ≤ s.length ∧ Now s nx (trailerC (atTail data nf (nx - at0)) txt)) ∨
    (∃ nx bad, lineR (some (at0 + 2048)) [] a (s.drop a) = ([], nx, bad, false) ∧ a ≤ nx ∧ nx ≤ s.length ∧ resC (feedC ck0 s) = (nx, data, false, bad)) := by
  rcases line_tail (s.drop a) (atTail data nf (a - at0)) a (at0 + 2048) rfl (by show a - at0 + (at0 + 2048) = a + 2048; omega) rfl with ⟨txt, nx, k1, k2, _, k3, k4⟩ | ⟨nx, bad, r', k1, k2, k3, k4, k5, k6, k7⟩
  · rw [List.length_drop] at k3
    refine .inl ⟨txt, nx, k1, k2, by omega, ?_⟩
    have := h.move k4
    rw [show a + (nx - a) = nx by omega] at this
    have e : ({ atTail data nf (a - at0) with line := [], tail := (atTail data nf (a - at0)).tail + (nx - a) } : Ck) = atTail data nf (nx - at0) := by
      show (⟨3, [], 0, data, nf, (a - at0) + (nx - a), 0⟩ : Ck) = ⟨3, [], 0, data, nf, nx - at0, 0⟩
      rw [show a - at0 + (nx - a) = nx - at0 by omega]
    rwa [e] at this
  · rw [List.length_drop] at k3
    refine .inr ⟨nx, bad, k1, k2, by omega, ?_⟩
    have hd : decide (r'.st = 4 ∧ r'.bad = 0) = false := by
      rw [decide_eq_false_iff_not]; rintro ⟨e1, e2⟩
      exact k7 (k6 ▸ e2) e1
    rw [h.res k4, hd, k5, k6, show a + (nx - a) = nx by omega]; rfl
theorem Now.over {r : Ck} (h : Now s a r) (hr : r.st = 4) : resC (feedC ck0 s) = (a, r.data, decide (r.bad = 0), r.bad) := by
  rw [h.res (feed_over hr _)]; simp [hr]
theorem head_none {txt : List UInt8} (h : Now s a (headC (atHead data) txt)) (hs : sizeC txt = none) : resC (feedC ck0 s) = (a, data, false, 400) := by
  unfold headC at h; rw [hs] at h
  rw [h.over rfl]; rfl
theorem head_large {txt : List UInt8} {n : Nat} (h : Now s a (headC (atHead data) txt)) (hs : sizeC txt = some n) (hn : 4096 < data.length + n) : resC (feedC ck0 s) = (a, data, false, 413) := by
  unfold headC at h; rw [hs] at h
  dsimp only at h
  rw [if_pos (show 4096 < (atHead data).data.length + n from hn)] at h
  rw [h.over rfl]; rfl
theorem head_zero {txt : List UInt8} (h : Now s a (headC (atHead data) txt)) (hs : sizeC txt = some 0) (hn : ¬ 4096 < data.length + 0) : Now s a (atTail data 0 (a - a)) := by
  unfold headC at h; rw [hs] at h
  dsimp only at h
  rw [if_neg (show ¬ 4096 < (atHead data).data.length + 0 from hn), if_pos rfl] at h
  rw [Nat.sub_self]; exact h
theorem head_some {txt : List UInt8} {n : Nat} (h : Now s a (headC (atHead data) txt)) (hs : sizeC txt = some n) (hn : ¬ 4096 < data.length + n) (h0 : n ≠ 0) : Now s a ⟨1, [], n, data, 0, 0, 0⟩ := by
  unfold headC at h; rw [hs] at h
  dsimp only at h
  rw [if_neg (show ¬ 4096 < (atHead data).data.length + n from hn), if_neg h0] at h
  exact h
theorem data_short {n : Nat} (h : Now s a ⟨1, [], n, data, 0, 0, 0⟩) (ha : a ≤ s.length) (hn : s.length < a + n) : resC (feedC ck0 s) = (s.length, data ++ s.drop a, false, 0) := by
  by_cases he : a = s.length
  · subst he
    have := h.res (k := 0) (r' := ⟨1, [], n, data, 0, 0, 0⟩) (by rw [List.drop_length]; rfl)
    rw [this, List.drop_length]; simp
  · have := h.res (feed_data (s.drop a) (r := ⟨1, [], n, data, 0, 0, 0⟩) rfl (by rw [List.length_drop]; omega) (by rw [List.length_drop]; show _ ≤ n; omega))
    rw [this]
    rw [List.length_drop, if_neg (by show ¬ n = s.length - a; omega), show a + (s.length - a) = s.length by omega]; rfl
theorem data_whole {n : Nat} (h : Now s a ⟨1, [], n, data, 0, 0, 0⟩) (h0 : n ≠ 0) (hn : a + n ≤ s.length) : Now s (a + n) (atEnd (data ++ (s.drop a).take n)) := by
  apply h.move
  have hl : ((s.drop a).take n).length = n := by rw [List.length_take, List.length_drop]; omega
  have := feed_app ((s.drop a).take n) ((s.drop a).drop n) ⟨1, [], n, data, 0, 0, 0⟩
  rw [List.take_append_drop] at this
  rw [this, feed_data _ rfl (by omega) (by rw [hl]; exact Nat.le_refl _)]
  simp only [hl, if_true, Nat.sub_self]
  rfl
theorem end_none (h : Now s a (atEnd data)) (ha : s.length ≤ a) : resC (feedC ck0 s) = (a, data, false, 0) := by
  rw [h.res (k := 0) (r' := atEnd data) (by rw [List.drop_of_length_le ha]; rfl)]; rfl
theorem end_bad (h : Now s a (atEnd data)) (ha : a < s.length) (hc : s[a] ≠ 13) : resC (feedC ck0 s) = (a + 1, data, false, 400) := by
  have hs : stepC (atEnd data) s[a] = wrongC (atEnd data) 400 := by
    show endC (atEnd data) s[a] = _
    unfold endC; rw [if_neg (by simpa [atEnd] using hc)]
  rw [h.res (k := 1) (r' := wrongC (atEnd data) 400) (by rw [List.drop_eq_getElem_cons ha, feed_cons (by simp [atEnd]), hs, feed_over rfl])]; rfl
theorem end_cr (h : Now s a (atEnd data)) (ha : a < s.length) (hc : s[a] = 13) : Now s (a + 1) { atEnd data with line := [13] } := by
  apply h.move
  have hs : stepC (atEnd data) s[a] = { atEnd data with line := [13] } := by
    show endC (atEnd data) s[a] = _
    unfold endC; rw [hc, if_pos (by simp [atEnd]), if_neg (by decide)]; rfl
  rw [List.drop_eq_getElem_cons ha, feed_cons (by simp [atEnd]), hs, List.drop_succ_cons, List.drop_zero]
  simp; omega
theorem end2_none (h : Now s a { atEnd data with line := [13] }) (ha : s.length ≤ a) : resC (feedC ck0 s) = (a, data, false, 0) := by
  rw [h.res (k := 0) (r' := { atEnd data with line := [13] }) (by rw [List.drop_of_length_le ha]; rfl)]; rfl
theorem end2_bad (h : Now s a { atEnd data with line := [13] }) (ha : a < s.length) (hc : s[a] ≠ 10) : resC (feedC ck0 s) = (a + 1, data, false, 400) := by
  have hs : stepC { atEnd data with line := [13] } s[a] = wrongC { atEnd data with line := [13] } 400 := by
    show endC { atEnd data with line := [13] } s[a] = _
    unfold endC; rw [if_neg (by simpa using hc)]
  rw [h.res (k := 1) (r' := wrongC { atEnd data with line := [13] } 400) (by rw [List.drop_eq_getElem_cons ha, feed_cons (by simp [atEnd]), hs, feed_over rfl])]; rfl
theorem end2_lf (h : Now s a { atEnd data with line := [13] }) (ha : a < s.length) (hc : s[a] = 10) : Now s (a + 1) (atHead data) := by
  apply h.move
  have hs : stepC { atEnd data with line := [13] } s[a] = atHead data := by
    show endC { atEnd data with line := [13] } s[a] = _
    unfold endC; rw [hc, if_pos (by simp), if_pos rfl]; rfl
  rw [List.drop_eq_getElem_cons ha, feed_cons (by simp [atEnd]), hs, List.drop_succ_cons, List.drop_zero]
  simp; omega
theorem tail_empty {nf tl : Nat} (h : Now s a (trailerC (atTail data nf tl) [])) : resC (feedC ck0 s) = (a, data, true, 0) := by
  unfold trailerC at h
  rw [if_pos (show ([] : List UInt8).isEmpty = true from rfl)] at h
  rw [h.over rfl]; rfl
theorem tail_bad {nf tl : Nat} {txt : List UInt8} (h : Now s a (trailerC (atTail data nf tl) txt)) (h0 : txt ≠ []) (hp : (parseB txt).2.2 = false) : resC (feedC ck0 s) = (a, data, false, 400) := by
  unfold trailerC at h
  rw [if_neg (by simpa using h0), if_neg (by rw [hp]; decide)] at h
  rw [h.over rfl]; rfl
theorem tail_many {nf tl : Nat} {txt : List UInt8} (h : Now s a (trailerC (atTail data nf tl) txt)) (h0 : txt ≠ []) (hp : (parseB txt).2.2 = true) (hn : 32 ≤ nf) : resC (feedC ck0 s) = (a, data, false, 431) := by
  unfold trailerC at h
  rw [if_neg (by simpa using h0), if_pos hp, if_pos (show 32 ≤ (atTail data nf tl).nf from hn)] at h
  rw [h.over rfl]; rfl
theorem tail_more {nf tl : Nat} {txt : List UInt8} (h : Now s a (trailerC (atTail data nf tl) txt)) (h0 : txt ≠ []) (hp : (parseB txt).2.2 = true) (hn : ¬ 32 ≤ nf) : Now s a (atTail data (nf + 1) tl) := by
  unfold trailerC at h
  rw [if_neg (by simpa using h0), if_pos hp, if_neg (show ¬ 32 ≤ (atTail data nf tl).nf from hn)] at h
  exact h
end
end Go.Proofs.YtpncfeaaffgkfaaGreatDoor
