/-
  Walks over package sha: the words behind a block.
-/
import Derived.Test.YtheihlalgekojaaGreatDoorSa
namespace Go.Proofs.YtheihlalgekojaaGreatDoor
open Go.RowKit
attribute [local go_sem] Oper.semAt_some

/-- Five words in a block of their own. -/
structure St5 (W : World) (k : Nat) (x : W5) : Prop where
  c0 : W.cell? ⟨k, 0, none⟩ = some (.int .u32 x.a)
  c1 : W.cell? ⟨k, 1, none⟩ = some (.int .u32 x.b)
  c2 : W.cell? ⟨k, 2, none⟩ = some (.int .u32 x.c)
  c3 : W.cell? ⟨k, 3, none⟩ = some (.int .u32 x.d)
  c4 : W.cell? ⟨k, 4, none⟩ = some (.int .u32 x.e)
  fz : ∀ o, W.frozen? ⟨k, o, none⟩ = false
theorem St5.gr {W W' : World} {k : Nat} {x : W5} (h : St5 W k x) (hg : Gr W W') : St5 W' k x :=
  ⟨hg.cell h.c0, hg.cell h.c1, hg.cell h.c2, hg.cell h.c3, hg.cell h.c4, fun o => (Below.frozen hg (p := ⟨k, o, none⟩) (show k < _ from cell_lt h.c0)).trans (h.fz o)⟩
theorem St5.fresh (W : World) (x : W5) (t : TypeId) : St5 (W.alloc (.cells #[.int .u32 x.a, .int .u32 x.b, .int .u32 x.c, .int .u32 x.d, .int .u32 x.e] t)) W.heap.size x :=
  ⟨cell_new7 _ [.int .u32 x.a, .int .u32 x.b, .int .u32 x.c, .int .u32 x.d, .int .u32 x.e] _ 0 _ rfl, cell_new7 _ [.int .u32 x.a, .int .u32 x.b, .int .u32 x.c, .int .u32 x.d, .int .u32 x.e] _ 1 _ rfl, cell_new7 _ [.int .u32 x.a, .int .u32 x.b, .int .u32 x.c, .int .u32 x.d, .int .u32 x.e] _ 2 _ rfl, cell_new7 _ [.int .u32 x.a, .int .u32 x.b, .int .u32 x.c, .int .u32 x.d, .int .u32 x.e] _ 3 _ rfl, cell_new7 _ [.int .u32 x.a, .int .u32 x.b, .int .u32 x.c, .int .u32 x.d, .int .u32 x.e] _ 4 _ rfl, fun o => World.frozen?_alloc_at _ _ _ _ rfl⟩

theorem St5.range {W : World} {k : Nat} {x : W5} (h : St5 W k x) : W.rangeAt k 0 [.int .u32 x.a, .int .u32 x.b, .int .u32 x.c, .int .u32 x.d, .int .u32 x.e] := fun j v hv => by
  rw [Nat.zero_add]
  match j, hv with
  | 0, hv => exact h.c0.trans hv
  | 1, hv => exact h.c1.trans hv
  | 2, hv => exact h.c2.trans hv
  | 3, hv => exact h.c3.trans hv
  | 4, hv => exact h.c4.trans hv
  | n + 5, hv => simp at hv
def W5.at (x : W5) : Nat → Nat
  | 0 => x.a | 1 => x.b | 2 => x.c | 3 => x.d | _ => x.e
theorem St5.at {W : World} {k : Nat} {x : W5} (h : St5 W k x) : ∀ j, j < 5 → W.cell? ⟨k, j, none⟩ = some (.int .u32 (x.at j))
  | 0, _ => h.c0 | 1, _ => h.c1 | 2, _ => h.c2 | 3, _ => h.c3 | 4, _ => h.c4
  | n + 5, hn => by omega
theorem rot5_later (C : World → Prop) {x r : Nat} (hr : rotW 5 x = r) (hx : x < 4294967296) (y : Later C) :
    Calls Tryz.prog 63 #[.int .u32 x, .int .i64 5] y.w fun e w' => e = .returned (.int .u32 r) ∧ ∃ z : Later C, w' = z.w :=
  Calls.later ((rot5_any x hx y.w).mono fun _ _ ⟨h1, h2⟩ => ⟨hr ▸ h1, h2 ▸ y.ok⟩)
theorem rot30_later (C : World → Prop) {x r : Nat} (hr : rotW 30 x = r) (hx : x < 4294967296) (y : Later C) :
    Calls Tryz.prog 63 #[.int .u32 x, .int .i64 30] y.w fun e w' => e = .returned (.int .u32 r) ∧ ∃ z : Later C, w' = z.w :=
  Calls.later ((rot30_any x hx y.w).mono fun _ _ ⟨h1, h2⟩ => ⟨hr ▸ h1, h2 ▸ y.ok⟩)
theorem addI (a b : Nat) : ((a : Int) + b) % 4294967296 = (addW a b : Int) := by unfold addW; rw [Int.natCast_emod]; rfl
theorem addV (a b : Nat) : IntKind.u32.wrap ((a : Int) + b) = (addW a b : Int) := by rw [Go.IntKind.wrap_u32', addI]
theorem cells_plus {wr : World} {b n z m : Nat} {f g : Nat → Nat} (hc : ∀ j, j < m → wr.cell? ⟨b, j, none⟩ = some (.int .u32 ((if j < n then addW (f j) (g j) else f j : Nat) : Int))) (hn : n < m) (hz : addW (f n) (g n) = z) :
    ∀ j, j < m → (wr.setCell ⟨b, n, none⟩ (.int .u32 z)).cell? ⟨b, j, none⟩ = some (.int .u32 ((if j < n + 1 then addW (f j) (g j) else f j : Nat) : Int)) := fun j hj => by
  by_cases h : j = n
  · subst h; rw [if_pos (by omega), hz]; exact cell_set_same (hc j hj)
  · rw [cell_off (hc j hj) h]
    by_cases h2 : j < n
    · rw [if_pos h2, if_pos (by omega)]
    · rw [if_neg h2, if_neg (by omega)]
theorem St5.set {W : World} {k : Nat} {x : W5} (h : St5 W k x) (y : W5) : St5 (((((W.setCell ⟨k, 0, none⟩ (.int .u32 y.a)).setCell ⟨k, 1, none⟩ (.int .u32 y.b)).setCell ⟨k, 2, none⟩ (.int .u32 y.c)).setCell ⟨k, 3, none⟩ (.int .u32 y.d)).setCell ⟨k, 4, none⟩ (.int .u32 y.e)) k y := by
  refine ⟨?_, ?_, ?_, ?_, ?_, fun o => frozen_set.trans (frozen_set.trans (frozen_set.trans (frozen_set.trans (frozen_set.trans (h.fz o)))))⟩
  · exact cell_off (cell_off (cell_off (cell_off (cell_set_same h.c0) (by decide)) (by decide)) (by decide)) (by decide)
  · exact cell_off (cell_off (cell_off (cell_set_same (cell_off h.c1 (by decide))) (by decide)) (by decide)) (by decide)
  · exact cell_off (cell_off (cell_set_same (cell_off (cell_off h.c2 (by decide)) (by decide))) (by decide)) (by decide)
  · exact cell_off (cell_set_same (cell_off (cell_off (cell_off h.c3 (by decide)) (by decide)) (by decide))) (by decide)
  · exact cell_set_same (cell_off (cell_off (cell_off (cell_off h.c4 (by decide)) (by decide)) (by decide)) (by decide))
theorem St5.apart {W : World} {k : Nat} {x : W5} (h : St5 W k x) {a : Addr} (ha : a.block ≠ k) (v : Value) : St5 (W.setCell a v) k x :=
  ⟨cell_set_other h.c0 ha, cell_set_other h.c1 ha, cell_set_other h.c2 ha, cell_set_other h.c3 ha, cell_set_other h.c4 ha, fun o => frozen_set.trans (h.fz o)⟩
set_option maxHeartbeats 4000000 in
set_option maxRecDepth 100000 in
theorem after_any (x : W5) (s : List UInt8) (hs : s.length = 64) (hx : x.ok) (w : World) :
    Calls Tryz.prog 49 #[w5V x, .string ⟨s.toArray⟩] w fun e w' => e = .returned (w5V (comp5 x s)) ∧ Gr w w' := by
  have hs' := Lib.hid hs
  have hx' := Lib.hid hx
  clear hs hx
  unfold w5V
  obtain ⟨xa, xb, xc, xd, xe⟩ := x
  dsimp only
  go_enter Tryz.func49, Tryz.ntmps49
  go_wp2_with fail
  refine (schedule_any s hs'.out _).mono ?_
  rintro e w1 ⟨rfl, hg⟩
  have q0 := Lib.hid ((((St5.fresh w ⟨xa, xb, xc, xd, xe⟩ 81).gr (Gr.alloc _ _)).gr (Gr.alloc _ _)).gr hg)
  have q1 := Lib.hid (((St5.fresh (w.alloc (.cells #[.int .u32 xa, .int .u32 xb, .int .u32 xc, .int .u32 xd, .int .u32 xe] 81)) ⟨0, 0, 0, 0, 0⟩ 81).gr (Gr.alloc _ _)).gr hg)
  have q2 := Lib.hid ((St5.fresh ((w.alloc (.cells #[.int .u32 xa, .int .u32 xb, .int .u32 xc, .int .u32 xd, .int .u32 xe] 81)).alloc (.cells #[.int .u32 (0 : Nat), .int .u32 (0 : Nat), .int .u32 (0 : Nat), .int .u32 (0 : Nat), .int .u32 (0 : Nat)] 81)) ⟨xa, xb, xc, xd, xe⟩ 81).gr hg)
  have g1 := Lib.hid (((((Gr.refl w).alloc1 _).alloc1 _).alloc1 _).trans hg)
  clear hg
  simp only [World.size_alloc] at q1 q2
  obtain ⟨b0, hb0⟩ : ∃ b, w.heap.size = b := ⟨_, rfl⟩
  rw [hb0] at q0 q1 q2
  obtain ⟨b1, hb1⟩ : ∃ b, b0 + 1 = b := ⟨_, rfl⟩
  rw [hb1] at q1 q2
  obtain ⟨b2, hb2⟩ : ∃ b, b1 + 1 = b := ⟨_, rfl⟩
  rw [hb2] at q2
  have hb0' := Lib.hid hb0
  have hb1' := Lib.hid hb1
  have hb2' := Lib.hid hb2
  obtain ⟨x, hxx⟩ : ∃ x : W5, ⟨xa, xb, xc, xd, xe⟩ = x := ⟨_, rfl⟩
  rw [hxx] at hx' q0 q2
  go_wp2
  clear hb0 hb1 hb2
  go_loopw [14] (fun i wr => ∃ t : Nat, t ≤ 80 ∧ i = .int .i64 t ∧ St5 wr b2 (roundsW s x t) ∧ St5 wr b0 x ∧ St5 wr b1 ⟨0, 0, 0, 0, 0⟩ ∧ Gr w wr) (fun i _ => 80 - (intOf i).toNat)
  case atStart => exact ⟨0, by omega, rfl, q2.out, q0.out, q1.out, g1.out⟩
  case round =>
    obtain ⟨t, ht, rfl, hr, h0, h1, hg⟩ := hrel
    have hr' := Lib.hid hr
    have h0' := Lib.hid h0
    have h1' := Lib.hid h1
    have hg' := Lib.hid hg
    clear hr h0 h1 hg
    by_cases h80 : t < 80
    · have h80I : (t : Int) < 80 := by omega
      obtain ⟨W, hW⟩ : ∃ W, wS s t = W := ⟨_, rfl⟩
      have hidx : (Instr.index 95 (wordsV s) (.int .i64 t)).run Tryz.prog wr = .ok (.int .u32 W) wr :=
        run_index_agg wr _ _ _ Tryz.underlying95 (Tryz.isAgg77 wr) (Tryz.sizeOf77 wr) h80 (by simp [h80, hW])
      obtain ⟨r, hrr⟩ : ∃ r, roundsW s x t = r := ⟨_, rfl⟩
      have hok := rounds_ok s hx'.out t
      rw [hrr] at hr' hok
      have hnext : roundsW s x (t + 1) = roundW t W r := by rw [roundsW, hrr, hW]
      obtain ⟨ra, rb, rc, rd, re⟩ := r
      obtain ⟨ok1, ok2, ok3, ok4, ok5⟩ := hok
      dsimp only at ok1 ok2 ok3 ok4 ok5
      obtain ⟨F, hF⟩ : ∃ F, mixF t rb rc rd = F := ⟨_, rfl⟩
      obtain ⟨K, hK⟩ : ∃ K, mixK t = K := ⟨_, rfl⟩
      obtain ⟨A, hA⟩ : ∃ A, rotW 5 ra = A := ⟨_, rfl⟩
      obtain ⟨B, hB⟩ : ∃ B, rotW 30 rb = B := ⟨_, rfl⟩
      obtain ⟨s1, hs1⟩ : ∃ q, addW A F = q := ⟨_, rfl⟩
      obtain ⟨s2, hs2⟩ : ∃ q, addW s1 re = q := ⟨_, rfl⟩
      obtain ⟨s3, hs3⟩ : ∃ q, addW s2 K = q := ⟨_, rfl⟩
      obtain ⟨s4, hs4⟩ : ∃ q, addW s3 W = q := ⟨_, rfl⟩
      have hnext' := Lib.hid (show roundsW s x (t + 1) = ⟨s4, ra, B, rc, rd⟩ by rw [hnext]; unfold roundW; rw [hA, hF, hs1, hs2, hK, hs3, hs4, hB])
      have u1 : IntKind.u32.wrap ((A : Int) + F) = s1 := by rw [addV, hs1]
      have u2 : IntKind.u32.wrap ((s1 : Int) + re) = s2 := by rw [addV, hs2]
      have u3 : IntKind.u32.wrap ((s2 : Int) + K) = s3 := by rw [addV, hs3]
      have u4 : IntKind.u32.wrap ((s3 : Int) + W) = s4 := by rw [addV, hs4]
      have hA' := Lib.hid hA
      have hB' := Lib.hid hB
      have hmix := Lib.hid (fun w0 => mixed_any t rb rc rd h80 ok2 ok3 ok4 w0)
      rw [hF, hK] at hmix
      have ok1' := Lib.hid ok1
      have ok2' := Lib.hid ok2
      have e0 := hr'.out.c0
      have e1 := hr'.out.c1
      have e2 := hr'.out.c2
      have e3 := hr'.out.c3
      have e4 := hr'.out.c4
      dsimp only at e0 e1 e2 e3 e4
      clear hW hrr hnext hF hK hA hB hs1 hs2 hs3 hs4 ok1 ok2 ok3 ok4 ok5
      go_wp2_with fail
      refine (hmix.out _).mono ?_
      rintro e w2 ⟨rfl, rfl⟩
      go_upto_region 6 with (fail)
      have t0 : ∀ y : Later (Gr wr), y.w.cell? ⟨b2, 0, none⟩ = some (.int .u32 ra) := fun y => y.ok.cell e0
      have t1 : ∀ y : Later (Gr wr), y.w.cell? ⟨b2, 1, none⟩ = some (.int .u32 rb) := fun y => y.ok.cell e1
      have t2 : ∀ y : Later (Gr wr), y.w.cell? ⟨b2, 2, none⟩ = some (.int .u32 rc) := fun y => y.ok.cell e2
      have t3 : ∀ y : Later (Gr wr), y.w.cell? ⟨b2, 3, none⟩ = some (.int .u32 rd) := fun y => y.ok.cell e3
      have t4 : ∀ y : Later (Gr wr), y.w.cell? ⟨b2, 4, none⟩ = some (.int .u32 re) := fun y => y.ok.cell e4
      haveI : Nonempty (Later (Gr wr)) := ⟨⟨wr, Gr.refl wr⟩⟩
      refine wp_region_later_tail (C := Gr wr) 22 (by kernel_rfl) (by kernel_rfl) (Gr.drew' _) ?_
      simp only [List.take_succ_cons, List.take_zero, List.drop_succ_cons, List.drop_zero]
      repeat (go_big_quiet_step (first | with_reducible exact rot5_later _ hA'.out ok1'.out _ | with_reducible exact rot30_later _ hB'.out ok2'.out _))
      refine wpQuiet_nil ?_
      intro w9 hg9
      have hr9 := Lib.hid (hr'.out.gr hg9)
      have h09 := Lib.hid (h0'.out.gr hg9)
      have h19 := Lib.hid (h1'.out.gr hg9)
      have hg9' := Lib.hid (hg'.out.trans hg9)
      clear hg9 t0 t1 t2 t3 t4 e0 e1 e2 e3 e4 u1 u2 u3 u4
      have e0 := hr9.out.c0
      have e1 := hr9.out.c1
      have e2 := hr9.out.c2
      have e3 := hr9.out.c3
      have e4 := hr9.out.c4
      have f0 := hr9.out.fz 0
      have f1 := hr9.out.fz 1
      have f2 := hr9.out.fz 2
      have f3 := hr9.out.fz 3
      have f4 := hr9.out.fz 4
      dsimp only at e0 e1 e2 e3 e4
      have hne0 := Lib.hid (show b2 ≠ b0 by have := hb1'.out; have := hb2'.out; omega)
      have hne1 := Lib.hid (show b2 ≠ b1 by have := hb2'.out; omega)
      have hbb := Lib.hid (show w.heap.size ≤ b2 by have := hb0'.out; have := hb1'.out; have := hb2'.out; omega)
      go_wp2
      go_roundw
      case rel =>
        refine ⟨t + 1, by omega, by go_num, ?_, ((((h09.out.apart hne0.out _).apart hne0.out _).apart hne0.out _).apart hne0.out _).apart hne0.out _, ((((h19.out.apart hne1.out _).apart hne1.out _).apart hne1.out _).apart hne1.out _).apart hne1.out _, ((((hg9'.out.setCell hbb.out _).setCell hbb.out _).setCell hbb.out _).setCell hbb.out _).setCell hbb.out _⟩
        rw [hnext'.out]; exact hr9.out.set ⟨s4, ra, B, rc, rd⟩
      case measure => simp [intOf]; omega
    · obtain rfl : t = 80 := by omega
      obtain ⟨y, hy⟩ : ∃ y, roundsW s x 80 = y := ⟨_, rfl⟩
      rw [hy] at hr'
      have hcomp := Lib.hid (show comp5 x s = plus5 x y by unfold comp5; rw [hy])
      clear hy
      go_wp2
      go_loopw [52] (fun i wx => ∃ n : Nat, n ≤ 5 ∧ i = .int .i64 n ∧ (∀ j, j < 5 → wx.cell? ⟨b0, j, none⟩ = some (.int .u32 ((if j < n then addW (x.at j) (y.at j) else x.at j : Nat) : Int))) ∧ (∀ o, wx.frozen? ⟨b0, o, none⟩ = false) ∧ St5 wx b2 y ∧ St5 wx b1 ⟨0, 0, 0, 0, 0⟩ ∧ Gr w wx) (fun i _ => 5 - (intOf i).toNat)
      case atStart => exact ⟨0, by omega, rfl, h0'.out.at, h0'.out.fz, hr'.out, h1'.out, hg'.out⟩
      case round =>
        obtain ⟨n, hn, rfl, k0, k1, k2, k3, k4⟩ := hrel
        have k0' := Lib.hid k0
        have k1' := Lib.hid k1
        have k2' := Lib.hid k2
        have k3' := Lib.hid k3
        have k4' := Lib.hid k4
        clear k0 k1 k2 k3 k4
        by_cases hn5 : n < 5
        · have hn5I : (n : Int) < 5 := by omega
          have e0 := k0'.out n hn5
          rw [if_neg (by omega)] at e0
          have e2 := k2'.out.at n hn5
          have hbl : b0 < wr.heap.size := cell_lt e0
          obtain ⟨p, hp⟩ : ∃ p, x.at n = p := ⟨_, rfl⟩
          obtain ⟨q, hq⟩ : ∃ q, y.at n = q := ⟨_, rfl⟩
          obtain ⟨z, hz⟩ : ∃ z, addW p q = z := ⟨_, rfl⟩
          rw [hp] at e0
          rw [hq] at e2
          have u1 : IntKind.u32.wrap ((p : Int) + q) = z := by rw [addV, hz]
          have hzz := Lib.hid (show addW (x.at n) (y.at n) = z by rw [hp, hq, hz])
          clear hp hq hz
          go_upto_region 11 with (fail)
          have t0 : ∀ v : Later (Gr wr), v.w.cell? ⟨b0, n, none⟩ = some (.int .u32 p) := fun v => v.ok.cell e0
          have t2 : ∀ v : Later (Gr wr), v.w.cell? ⟨b2, n, none⟩ = some (.int .u32 q) := fun v => v.ok.cell e2
          haveI : Nonempty (Later (Gr wr)) := ⟨⟨wr, Gr.refl wr⟩⟩
          refine wp_region_later_tail (C := Gr wr) 8 (by kernel_rfl) (by kernel_rfl) (Gr.drew' _) ?_
          simp only [List.take_succ_cons, List.take_zero, List.drop_succ_cons, List.drop_zero]
          repeat (go_big_quiet_step (fail))
          refine wpQuiet_nil ?_
          intro w9 hg9
          have hc9 := Lib.hid (fun j (hj : j < 5) => hg9.cell (k0'.out j hj))
          have hf9 := Lib.hid (fun j => (Below.frozen hg9 (p := ⟨b0, j, none⟩) hbl).trans (k1'.out j))
          have h29 := Lib.hid (k2'.out.gr hg9)
          have h19 := Lib.hid (k3'.out.gr hg9)
          have hg9' := Lib.hid (k4'.out.trans hg9)
          have e9 := hg9.cell e0
          have f9 := hf9.out n
          have hne0 := Lib.hid (show b0 ≠ b2 by have := hb1'.out; have := hb2'.out; omega)
          have hne1 := Lib.hid (show b0 ≠ b1 by have := hb1'.out; omega)
          clear hg9 t0 t2 e0 e2 u1
          go_wp2
          go_roundw
          case rel => exact ⟨n + 1, by omega, by go_num, cells_plus hc9.out hn5 hzz.out, fun j => frozen_set.trans (hf9.out j), h29.out.apart hne0.out _, h19.out.apart hne1.out _, hg9'.out.setCell (Nat.le_of_eq hb0'.out) _⟩
          case measure => simp [intOf]; omega
        · obtain rfl : n = 5 := by omega
          have e0 := k0'.out 0 (by decide)
          have e1 := k0'.out 1 (by decide)
          have e2 := k0'.out 2 (by decide)
          have e3 := k0'.out 3 (by decide)
          have e4 := k0'.out 4 (by decide)
          rw [if_pos (by decide)] at e0 e1 e2 e3 e4
          obtain ⟨p0, hp0⟩ : ∃ p, addW (x.at 0) (y.at 0) = p := ⟨_, rfl⟩
          obtain ⟨p1, hp1⟩ : ∃ p, addW (x.at 1) (y.at 1) = p := ⟨_, rfl⟩
          obtain ⟨p2, hp2⟩ : ∃ p, addW (x.at 2) (y.at 2) = p := ⟨_, rfl⟩
          obtain ⟨p3, hp3⟩ : ∃ p, addW (x.at 3) (y.at 3) = p := ⟨_, rfl⟩
          obtain ⟨p4, hp4⟩ : ∃ p, addW (x.at 4) (y.at 4) = p := ⟨_, rfl⟩
          rw [hp0] at e0
          rw [hp1] at e1
          rw [hp2] at e2
          rw [hp3] at e3
          rw [hp4] at e4
          have hres := Lib.hid (show w5V (comp5 x s) = .agg #[.int .u32 p0, .int .u32 p1, .int .u32 p2, .int .u32 p3, .int .u32 p4] by rw [hcomp.out, ← hp0, ← hp1, ← hp2, ← hp3, ← hp4]; rfl)
          clear hp0 hp1 hp2 hp3 hp4
          have r0 := k3'.out.c0
          have r1 := k3'.out.c1
          have r2 := k3'.out.c2
          have r3 := k3'.out.c3
          have r4 := k3'.out.c4
          have f0 := k3'.out.fz 0
          have f1 := k3'.out.fz 1
          have f2 := k3'.out.fz 2
          have f3 := k3'.out.fz 3
          have f4 := k3'.out.fz 4
          dsimp only at r0 r1 r2 r3 r4
          have hbb := Lib.hid (show w.heap.size ≤ b1 by have := hb0'.out; have := hb1'.out; omega)
          go_wp2
          have hfin := k3'.out.set ⟨p0, p1, p2, p3, p4⟩
          refine bodyPost_ret (results_cell rfl rfl (run_loadVar_mid _ b1 0 81 _ _ hfin.range Tryz.underlying81 rfl (by kernel_rfl))) rfl ⟨?_, ((((k4'.out.setCell hbb.out _).setCell hbb.out _).setCell hbb.out _).setCell hbb.out _).setCell hbb.out _⟩
          show Ending.returned _ = Ending.returned (w5V (comp5 ⟨xa, xb, xc, xd, xe⟩ s))
          rw [hxx, hres.out]
end Go.Proofs.YtheihlalgekojaaGreatDoor
