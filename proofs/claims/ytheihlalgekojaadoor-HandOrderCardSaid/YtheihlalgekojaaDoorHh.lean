/-
  The walk over HandVersions.
-/
import Derived.Test.YtheihlalgekojaaDoorHe
namespace Go.Proofs.YtheihlalgekojaaDoor
open Go.RowKit
attribute [local go_sem] Oper.semAt_some

/-- A request in a block. -/
structure ReqAt (b : Nat) (W : World) (m p q : List UInt8) (v : Int) (s : Value) (bd : List UInt8) (c : Bool) : Prop where
  c0 : W.cell? ⟨b, 0, none⟩ = some (.string ⟨m.toArray⟩)
  c1 : W.cell? ⟨b, 1, none⟩ = some (.string ⟨p.toArray⟩)
  c2 : W.cell? ⟨b, 2, none⟩ = some (.string ⟨q.toArray⟩)
  c3 : W.cell? ⟨b, 3, none⟩ = some (.int .i64 v)
  c4 : W.cell? ⟨b, 4, none⟩ = some s
  c5 : W.cell? ⟨b, 5, none⟩ = some (.string ⟨bd.toArray⟩)
  c6 : W.cell? ⟨b, 6, none⟩ = some (.bool c)
  fz : ∀ o, W.frozen? ⟨b, o, none⟩ = false
theorem ReqAt.gr {b : Nat} {W W' : World} {m p q : List UInt8} {v : Int} {s : Value} {bd : List UInt8} {c : Bool} (h : ReqAt b W m p q v s bd c) (g : Gr W W') : ReqAt b W' m p q v s bd c :=
  ⟨g.cell h.c0, g.cell h.c1, g.cell h.c2, g.cell h.c3, g.cell h.c4, g.cell h.c5, g.cell h.c6, fun o => (Below.frozen g (p := ⟨b, o, none⟩) (show b < _ from cell_lt h.c0)).trans (h.fz o)⟩
theorem ReqAt.put {b : Nat} {W : World} {m p q : List UInt8} {v : Int} {s : Value} {bd : List UInt8} {c : Bool} (h : ReqAt b W m p q v s bd c) {a : Addr} (ha : a.block ≠ b) (u : Value) : ReqAt b (W.setCell a u) m p q v s bd c :=
  ⟨cell_set_other h.c0 ha, cell_set_other h.c1 ha, cell_set_other h.c2 ha, cell_set_other h.c3 ha, cell_set_other h.c4 ha, cell_set_other h.c5 ha, cell_set_other h.c6 ha, fun o => frozen_set.trans (h.fz o)⟩
theorem reqAt_new (W : World) (m p q : List UInt8) (v : Int) (s : Value) (bd : List UInt8) (c : Bool) (t : TypeId) : ReqAt W.heap.size (W.alloc (.cells #[.string ⟨m.toArray⟩, .string ⟨p.toArray⟩, .string ⟨q.toArray⟩, .int .i64 v, s, .string ⟨bd.toArray⟩, .bool c] t)) m p q v s bd c :=
  ⟨cell_new7 W [.string ⟨m.toArray⟩, .string ⟨p.toArray⟩, .string ⟨q.toArray⟩, .int .i64 v, s, .string ⟨bd.toArray⟩, .bool c] t 0 _ rfl, cell_new7 W [.string ⟨m.toArray⟩, .string ⟨p.toArray⟩, .string ⟨q.toArray⟩, .int .i64 v, s, .string ⟨bd.toArray⟩, .bool c] t 1 _ rfl, cell_new7 W [.string ⟨m.toArray⟩, .string ⟨p.toArray⟩, .string ⟨q.toArray⟩, .int .i64 v, s, .string ⟨bd.toArray⟩, .bool c] t 2 _ rfl, cell_new7 W [.string ⟨m.toArray⟩, .string ⟨p.toArray⟩, .string ⟨q.toArray⟩, .int .i64 v, s, .string ⟨bd.toArray⟩, .bool c] t 3 _ rfl, cell_new7 W [.string ⟨m.toArray⟩, .string ⟨p.toArray⟩, .string ⟨q.toArray⟩, .int .i64 v, s, .string ⟨bd.toArray⟩, .bool c] t 4 _ rfl, cell_new7 W [.string ⟨m.toArray⟩, .string ⟨p.toArray⟩, .string ⟨q.toArray⟩, .int .i64 v, s, .string ⟨bd.toArray⟩, .bool c] t 5 _ rfl, cell_new7 W [.string ⟨m.toArray⟩, .string ⟨p.toArray⟩, .string ⟨q.toArray⟩, .int .i64 v, s, .string ⟨bd.toArray⟩, .bool c] t 6 _ rfl, fun o => World.frozen?_alloc_at _ _ _ _ (by simp)⟩
/-- A text's bytes, at the beginning of a block. -/
def BAt (b : Nat) (W : World) (l : List UInt8) : Prop := ∀ j, (h : j < l.length) → W.cell? ⟨b, j, none⟩ = some (.int .u8 (l[j].toNat : Int))
theorem BAt.gr {b : Nat} {W W' : World} {l : List UInt8} (h : BAt b W l) (g : Gr W W') : BAt b W' l := fun j hj => g.cell (h j hj)
theorem BAt.conv {b : Nat} {W : World} {l : List UInt8} (h : BAt b W l) (n cap : Nat) (hn : l.length = n) : (convert 37 9 (.slice (some ⟨b, 0, none⟩) n cap)).run Tryd.prog W = .ok (.string ⟨l.toArray⟩) W := by
  subst hn
  exact run_convert_bytes_back (P := Tryd.prog) W 37 9 5 ⟨b, 0, none⟩ cap l Tryd.underlying37 Tryd.underlying5 Tryd.underlying9 (fun j hj => by
    rw [Addr.add_mid, Nat.zero_add, h j hj])
theorem bat_new (W : World) (l : List UInt8) (t : TypeId) : BAt W.heap.size (W.alloc (.cells (bcells l).toArray t)) l := fun j hj => cell_new7 W _ t j _ (bcells_get l j hj)
theorem encode_later (C : World → Prop) (hC : ∀ W W', C W → Gr W W' → C W') {l r : List UInt8} (hr : encL l = r) (hl : l.length ≤ 900000) (y : Later C) :
    Calls Tryd.prog 15 #[.string ⟨l.toArray⟩] y.w fun e w' => e = .returned (.string ⟨r.toArray⟩) ∧ ∃ z : Later C, w' = z.w :=
  Calls.later ((encode_any l (by omega) y.w).mono fun _ _ ⟨h1, h2⟩ => ⟨hr ▸ h1, hC _ _ y.ok h2⟩)

set_option maxHeartbeats 8000000 in
set_option maxRecDepth 20000 in
theorem versions_any (v k : List UInt8) (hv : v.length ≤ 9223372036854775807) (hk : k.length = 16) (w : World) (hG : G w) :
    Calls Tryd.prog 6 #[.string ⟨v.toArray⟩, .agg (bcells k).toArray] w fun e w' => e = .returned (.bool true) ∧ Gr w w' := by
  have hG' := Lib.hid hG
  clear hG
  have hA : (bcells k).toArray.size = 16 := by simp [bcells_len, hk]
  have hb0 := Lib.hid (bat_new w k 35)
  obtain ⟨A, hAe⟩ : ∃ A, (bcells k).toArray = A := ⟨_, rfl⟩
  rw [hAe] at hA hb0 ⊢
  clear hAe
  have hk' := Lib.hid hk
  clear hk
  by_cases hlen : v.length ≤ 100
  · go_enter Tryd.func6, Tryd.ntmps6
    go_wp2_with fail
    refine (asks_made _).mono ?_
    rintro e w1 ⟨b1, hb1, rfl, hf1, hz1, _, g1⟩
    rw [World.size_alloc] at hb1
    have g1' := Lib.hid ((Gr.alloc w _).trans g1)
    replace hb0 := Lib.hid (hb0.out.gr g1)
    have hl1 : b1 < w1.heap.size := cell_lt (hf1 0 (by decide)).1
    have hbb := Lib.hid hb1
    clear g1 hb1
    unfold Rq.V askR
    go_upto_region 8 with (fail)
    have q0 := Lib.hid (reqAt_new w1 kGET [47, 119, 115] [] 11 (.slice (some ⟨b1, 0, none⟩) 5 5) [] false 27)
    have g2 := Gr.alloc w1 (.cells #[.string ⟨kGET.toArray⟩, .string ⟨#[47, 119, 115]⟩, .string ⟨#[]⟩, .int .i64 11, .slice (some ⟨b1, 0, none⟩) 5 5, .string ⟨#[]⟩, .bool false] 27)
    generalize hw2 : w1.alloc (.cells #[.string ⟨kGET.toArray⟩, .string ⟨#[47, 119, 115]⟩, .string ⟨#[]⟩, .int .i64 11, .slice (some ⟨b1, 0, none⟩) 5 5, .string ⟨#[]⟩, .bool false] 27) = w2
    have q1 : ReqAt w1.heap.size w2 kGET [47, 119, 115] [] 11 (.slice (some ⟨b1, 0, none⟩) 5 5) [] false := hw2 ▸ q0.out
    rw [hw2] at g2
    clear hw2 q0
    have n4 : ∀ y : Later (Gr w2), y.w.cell? ⟨w1.heap.size, 4, none⟩ = some (.slice (some ⟨b1, 0, none⟩) 5 5) := fun y => y.ok.cell q1.c4
    have hc : ∀ y : Later (Gr w2), (convert 37 9 (.slice (some ⟨w.heap.size, 0, none⟩) 16 16)).run Tryd.prog y.w = .ok (.string ⟨k.toArray⟩) y.w := fun y => (hb0.out.gr (g2.trans y.ok)).conv 16 16 hk'.out
    obtain ⟨R, hR⟩ : ∃ R, encL k = R := ⟨_, rfl⟩
    have hR' := Lib.hid hR
    have hkl := Lib.hid (show k.length ≤ 900000 by have := hk'.out; omega)
    clear hR
    haveI : Nonempty (Later (Gr w2)) := ⟨⟨w2, Gr.refl w2⟩⟩
    refine wp_region_later_tail (C := Gr w2) 7 (by kernel_rfl) (by kernel_rfl) (Gr.drew' _) ?_
    simp only [List.take_succ_cons, List.take_zero, List.drop_succ_cons, List.drop_zero]
    repeat (go_big_quiet_step (first | with_reducible exact encode_later _ (fun _ _ a b => Gr.trans a b) hR'.out hkl.out _))
    refine wpQuiet_nil ?_
    intro w3 hg3
    have g3 := Lib.hid (g1'.out.trans (g2.trans hg3))
    have hf3 := Lib.hid (hf1.gr (g2.trans hg3))
    have q3 := Lib.hid (q1.gr hg3)
    have hz3 : ∀ o, w3.frozen? ⟨b1, o, none⟩ = false := fun o => (Below.frozen (g2.trans hg3) (p := ⟨b1, o, none⟩) hl1).trans (hz1 o)
    have e7 : w3.cell? ⟨b1, 7, none⟩ = some (.string ⟨keyL.toArray⟩) := (hf3.out 3 (by decide)).2
    have e9 : w3.cell? ⟨b1, 9, none⟩ = some (.string ⟨k13.toArray⟩) := (hf3.out 4 (by decide)).2
    have z7 := hz3 7
    have z9 := hz3 9
    have hne : w1.heap.size ≠ b1 := by omega
    have p0 := q3.out.c0
    have p1 := q3.out.c1
    have p2 := q3.out.c2
    have p3 := q3.out.c3
    have p4 := q3.out.c4
    have p5 := q3.out.c5
    have p6 := q3.out.c6
    have hb1 := hbb.out
    have hbw := Lib.hid (show w.heap.size ≤ b1 by omega)
    clear n4 hc hf1 hz1 g1' q1 g2 hg3 hb0 hz3 hb1
    go_wp2_with fail
    have g4 := Lib.hid ((g3.out.setCell (p := ⟨b1, 7, none⟩) hbw.out (.string ⟨R.toArray⟩)).setCell (p := ⟨b1, 9, none⟩) hbw.out (.string ⟨v.toArray⟩))
    have hf4 : FTab b1 ((w3.setCell ⟨b1, 7, none⟩ (.string ⟨R.toArray⟩)).setCell ⟨b1, 9, none⟩ (.string ⟨v.toArray⟩)) (askFs R v) := (hf3.out.setv 3 (by decide) R).setv 4 (by simp [askFs]) v
    have q4 := Lib.hid ((q3.out.put (a := ⟨b1, 7, none⟩) (fun e => hne e.symm) (.string ⟨R.toArray⟩)).put (a := ⟨b1, 9, none⟩) (fun e => hne e.symm) (.string ⟨v.toArray⟩))
    have hck := check_ask (key := R) v (by rw [← hR'.out]; exact dec_enc k) hk'.out
    have hRl : R.length ≤ 800000 := by rw [← hR'.out, encL_len _ _ (Nat.le_refl _), hk'.out]; decide
    have hsh := Lib.hid (short_ask R v hRl (by omega))
    obtain ⟨w4, hw4⟩ : ∃ W, (w3.setCell ⟨b1, 7, none⟩ (.string ⟨R.toArray⟩)).setCell ⟨b1, 9, none⟩ (.string ⟨v.toArray⟩) = W := ⟨_, rfl⟩
    rw [hw4] at g4 hf4 q4 ⊢
    have hf4' := Lib.hid hf4
    clear hw4 hf4 g3 hf3 q3 e7 e9 z7 z9 p0 p1 p2 p3 p4 p5 p6 hRl
    by_cases h13 : v = k13
    · subst h13
      rw [if_pos rfl] at hck
      have haa := Lib.hid (accept_len R)
      obtain ⟨aa, haE⟩ : ∃ aa, acceptL R = aa := ⟨_, rfl⟩
      rw [haE] at haa hck
      have hans : answerB (checkB (askR R k13)) = (⟨101, [(kUpg, kWs), (kConn, kUpg), (kAcc, aa)], []⟩, true) := by rw [hck]; rfl
      have hans' := Lib.hid hans
      clear haE hans
      refine (check_is (r := askR R k13) hck _ _ (hG'.out.gr g4.out) (hf4'.out.at 5) hsh.out).mono ?_
      rintro e w5 ⟨rfl, hg⟩
      have g5 := Lib.hid (g4.out.trans hg)
      have q5 := Lib.hid (q4.out.gr hg)
      have hf5 := Lib.hid (hf4'.out.gr hg)
      have p0 := q5.out.c0
      have p1 := q5.out.c1
      have p2 := q5.out.c2
      have p3 := q5.out.c3
      have p4 := q5.out.c4
      have p5 := q5.out.c5
      have p6 := q5.out.c6
      clear hg hck q4 hf4' g4
      unfold ckV
      go_wp2_with fail
      refine (answer_is (r := askR R k13) hans'.out _ _ (hG'.out.gr g5.out) (hf5.out.at 5) hsh.out).mono ?_
      rintro e w6 ⟨t6, rfl, hf6, hg⟩
      have g6 := Lib.hid (g5.out.trans hg)
      clear hg q5 hf5 g5 p0 p1 p2 p3 p4 p5 p6 hans'
      obtain ⟨pp, cap6, rfl, _⟩ := hf6
      unfold Rp.V
      have ha1 : aa.isEmpty = false := by have := haa.out; cases aa with | nil => cases this | cons => rfl
      go_wp2_with fail
      refine (wakes_any _ (hG'.out.gr (g6.out.alloc1 _))).mono ?_
      rintro e w7 ⟨rfl, hg⟩
      go_wp2
      go_ret
      exact ⟨rfl, (g6.out.alloc1 _).trans hg⟩
    · rw [if_neg h13] at hck
      have hans : answerB (checkB (askR R v)) = (⟨426, [(kVer, k13)], kBadV⟩, false) := by rw [hck]; rfl
      have hans' := Lib.hid hans
      clear hans
      refine (check_is (r := askR R v) hck _ _ (hG'.out.gr g4.out) (hf4'.out.at 5) hsh.out).mono ?_
      rintro e w5 ⟨rfl, hg⟩
      have g5 := Lib.hid (g4.out.trans hg)
      have q5 := Lib.hid (q4.out.gr hg)
      have hf5 := Lib.hid (hf4'.out.gr hg)
      have p0 := q5.out.c0
      have p1 := q5.out.c1
      have p2 := q5.out.c2
      have p3 := q5.out.c3
      have p4 := q5.out.c4
      have p5 := q5.out.c5
      have p6 := q5.out.c6
      clear hg hck q4 hf4' g4
      unfold ckV
      go_wp2_with fail
      refine (answer_is (r := askR R v) hans'.out _ _ (hG'.out.gr g5.out) (hf5.out.at 5) hsh.out).mono ?_
      rintro e w6 ⟨t6, rfl, hf6, hg⟩
      have g6 := Lib.hid (g5.out.trans hg)
      clear hg q5 hf5 g5 p0 p1 p2 p3 p4 p5 p6 hans'
      have hf6' := Lib.hid hf6
      obtain ⟨pp, cap6, rfl, _⟩ := hf6
      unfold Rp.V
      have hvb : (v == [49, 51]) = false := beq_eq_false_iff_ne.2 h13
      go_wp2_with fail
      have hy := fieldsAt_new (w6.alloc (.cells #[.int .i64 426, .slice pp 1 cap6, .string ⟨kBadV.toArray⟩] 40)) [(kVer, k13)] 30 1
      rw [show (w6.alloc (.cells #[.int .i64 426, .slice pp 1 cap6, .string ⟨kBadV.toArray⟩] 40)).heap.size = w6.heap.size + 1 from by simp] at hy
      refine (same_any ⟨426, [(kVer, k13)], kBadV⟩ ⟨426, [(kVer, k13)], kBadV⟩ _ _ _ (hf6'.out.gr (((Gr.alloc _ _).alloc1 _).alloc1 _)) (hy.gr (Gr.alloc _ _)) (by decide) (by decide)).mono ?_
      rintro e w7 ⟨rfl, hg⟩
      have g7 := Lib.hid ((((g6.out.alloc1 _).alloc1 _).alloc1 _).trans hg)
      rw [sameB_refl]
      clear hg hy g6 hf6'
      go_wp2_with fail
      refine (wakes_any _ (hG'.out.gr g7.out)).mono ?_
      rintro e w8 ⟨rfl, hg⟩
      go_wp2
      go_ret
      exact ⟨rfl, g7.out.trans hg⟩
  · go_enter Tryd.func6, Tryd.ntmps6
    go_wp2_with fail
    refine (wakes_any _ (hG'.out.gr (Gr.alloc _ _))).mono ?_
    rintro e w1 ⟨rfl, g1⟩
    go_wp2
    go_ret
    exact ⟨rfl, (Gr.alloc _ _).trans g1⟩
end Go.Proofs.YtheihlalgekojaaDoor
