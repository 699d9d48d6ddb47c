/-
  Helpers for the walk over HandLacks.
  The walk over HandLacks, field 0.
  The walk over HandLacks, field 1.
  The walk over HandLacks, field 2.
  The walk over HandLacks, field 3.
  The walk over HandLacks, field 4.
  HandLacks, whichever field.
-/
import Derived.Test.YtheihlalgekojaaDoorHi
import Derived.Test.YtheihlalgekojaaDoorP21
namespace Go.Proofs.YtheihlalgekojaaDoor
open Go.RowKit
attribute [local go_sem] Oper.semAt_some
theorem OwnF.gr {B : Nat} {w w' : World} {v : Value} {fs : List Fl} (h : OwnF B w v fs) (g : Gr w w') : OwnF B w' v fs := h.ch (g.to_ch (fun _ => False)) (fun _ h => h.elim)
theorem OwnF.setv3 {B b : Nat} {w : World} {key ver u : List UInt8} (h : OwnF B w (.slice (some ⟨b, 0, none⟩) 5 5) (askFs key ver)) : OwnF B (w.setCell ⟨b, 7, none⟩ (.string ⟨u.toArray⟩)) (.slice (some ⟨b, 0, none⟩) 5 5) (askFs u ver) :=
  (World.ownsRow.stored h 7 (.string ⟨u.toArray⟩)).1
theorem FTab.some_all {b : Nat} {W : World} {fs : List Fl} (h : FTab b W fs) : ∀ i, (hi : i < fs.length) → W.cell? ⟨b, 0 + i * 2, none⟩ = some (.string ⟨fs[i].1.toArray⟩) ∧ W.cell? ⟨b, 0 + i * 2 + 1, none⟩ = some (.string ⟨fs[i].2.toArray⟩) := fun i hi => by
  rw [Nat.zero_add]
  exact h i hi
theorem lack_short (R : List UInt8) (h : R.length ≤ 800000) (n : Nat) : Short (lackFs R n) := by
  have hs := short_ask R k13 h (by decide)
  refine ⟨?_, fun f hf => ?_⟩
  · have : (askFs R k13).length = 5 := rfl
    simp only [lackFs, List.length_append, List.length_take, List.length_drop]; omega
  · rcases List.mem_append.1 hf with hf | hf
    · exact hs.2 f (List.mem_of_mem_take hf)
    · exact hs.2 f (List.mem_of_mem_drop hf)
theorem twice_short (R : List UInt8) (h : R.length ≤ 800000) (n : Nat) (hn : n < 5) : Short (twiceFs R n hn) := by
  have hs := short_ask R k13 h (by decide)
  refine ⟨?_, fun f hf => ?_⟩
  · have : (askFs R k13).length = 5 := rfl
    simp only [twiceFs, List.length_append, List.length_cons, List.length_nil]; omega
  · rcases List.mem_append.1 hf with hf | hf
    · exact hs.2 f hf
    · rw [List.mem_singleton] at hf
      subst hf
      have h1 := (hs.2 _ (List.getElem_mem (show n < (askFs R k13).length from hn))).1
      have h2 := (hs.2 _ (List.getElem_mem (show n < (askFs R k13).length from hn))).2
      exact ⟨by rw [List.length_map]; exact h1, h2⟩
theorem FTab.some_take {b : Nat} {W : World} {fs : List Fl} (h : FTab b W fs) (n : Nat) : ∀ i, (hi : i < (fs.take n).length) → W.cell? ⟨b, 0 + i * 2, none⟩ = some (.string ⟨(fs.take n)[i].1.toArray⟩) ∧ W.cell? ⟨b, 0 + i * 2 + 1, none⟩ = some (.string ⟨(fs.take n)[i].2.toArray⟩) := fun i hi => by
  rw [List.length_take] at hi
  rw [List.getElem_take, Nat.zero_add]
  exact h i (by omega)
theorem FTab.some_drop {b : Nat} {W : World} {fs : List Fl} (h : FTab b W fs) (d off : Nat) (ho : off = d * 2) : ∀ i, (hi : i < (fs.drop d).length) → W.cell? ⟨b, off + i * 2, none⟩ = some (.string ⟨(fs.drop d)[i].1.toArray⟩) ∧ W.cell? ⟨b, off + i * 2 + 1, none⟩ = some (.string ⟨(fs.drop d)[i].2.toArray⟩) := fun i hi => by
  rw [List.length_drop] at hi
  rw [List.getElem_drop, ho, ← Nat.add_mul]
  exact h (d + i) (by omega)
end Go.Proofs.YtheihlalgekojaaDoor
namespace Go.Proofs.YtheihlalgekojaaDoor
open Go.RowKit
attribute [local go_sem] Oper.semAt_some
set_option maxHeartbeats 16000000 in
set_option maxRecDepth 20000 in
theorem lacks0_any (k : List UInt8) (x : UInt8) (m : List UInt8) (ver : Int) (hm : m.length ≤ 9223372036854775807) (hk : k.length = 16) (hx : x.toNat % 5 = 0) (w : World) (hG : G w) :
    Calls Tryd.prog 5 #[.agg (bcells k).toArray, .int .u8 x.toNat, .string ⟨m.toArray⟩, .int .i64 ver] w fun e w' => e = .returned (.bool true) ∧ Gr w w' := by
  have hG' := Lib.hid hG
  clear hG
  have hA : (bcells k).toArray.size = 16 := by simp [bcells_len, hk]
  have hb0 := Lib.hid (bat_new w k 35)
  obtain ⟨A, hAe⟩ : ∃ A, (bcells k).toArray = A := ⟨_, rfl⟩
  rw [hAe] at hA hb0 ⊢
  clear hAe
  have hk' := Lib.hid hk
  clear hk
  go_enter Tryd.func5, Tryd.ntmps5
  go_wp2_with fail
  refine (asks_made _).mono ?_
  rintro e w1 ⟨b1, hb1, rfl, hf1, hz1, ho1, g1⟩
  rw [World.size_alloc] at hb1
  have g1' := Lib.hid ((Gr.alloc w _).trans g1)
  replace hb0 := Lib.hid (hb0.out.gr g1)
  have hoo := Lib.hid ho1
  clear ho1
  have hl1 : b1 < w1.heap.size := cell_lt (hf1 0 (by decide)).1
  have hbb := Lib.hid hb1
  clear g1 hb1
  unfold Rq.V askR
  go_upto_region 8 with (fail)
  have q0 := Lib.hid (reqAt_new w1 kGET [47, 119, 115] [] 11 (.slice (some ⟨b1, 0, none⟩) 5 5) [] false 27)
  have g2 := Gr.alloc w1 (.cells #[.string ⟨kGET.toArray⟩, .string ⟨#[47, 119, 115]⟩, .string ⟨#[]⟩, .int .i64 11, .slice (some ⟨b1, 0, none⟩) 5 5, .string ⟨#[]⟩, .bool false] 27)
  generalize hw2 : w1.alloc (.cells #[.string ⟨kGET.toArray⟩, .string ⟨#[47, 119, 115]⟩, .string ⟨#[]⟩, .int .i64 11, .slice (some ⟨b1, 0, none⟩) 5 5, .string ⟨#[]⟩, .bool false] 27) = w2
  have q1 : ReqAt w1.heap.size w2 kGET [47, 119, 115] [] 11 (.slice (some ⟨b1, 0, none⟩) 5 5) [] false := hw2 ▸ q0.out
  rw [hw2] at g2
  clear hw2 q0
  have n4 : ∀ y : Later (Gr w2), y.w.cell? ⟨w1.heap.size, 4, none⟩ = some (.slice (some ⟨b1, 0, none⟩) 5 5) := fun y => y.ok.cell q1.c4
  have hc : ∀ y : Later (Gr w2), (convert 37 9 (.slice (some ⟨w.heap.size, 0, none⟩) 16 16)).run Tryd.prog y.w = .ok (.string ⟨k.toArray⟩) y.w := fun y => (hb0.out.gr (g2.trans y.ok)).conv 16 16 hk'.out
  obtain ⟨R, hR⟩ : ∃ R, encL k = R := ⟨_, rfl⟩
  have hR' := Lib.hid hR
  have hkl := Lib.hid (show k.length ≤ 900000 by have := hk'.out; omega)
  clear hR
  haveI : Nonempty (Later (Gr w2)) := ⟨⟨w2, Gr.refl w2⟩⟩
  refine wp_region_later_tail (C := Gr w2) 7 (by kernel_rfl) (by kernel_rfl) (Gr.drew' _) ?_
  simp only [List.take_succ_cons, List.take_zero, List.drop_succ_cons, List.drop_zero]
  repeat (go_big_quiet_step (first | with_reducible exact encode_later _ (fun _ _ a b => Gr.trans a b) hR'.out hkl.out _))
  refine wpQuiet_nil ?_
  intro w3 hg3
  have g3 := Lib.hid (g1'.out.trans (g2.trans hg3))
  have hf3 := Lib.hid (hf1.gr (g2.trans hg3))
  have q3 := Lib.hid (q1.gr hg3)
  have hz3 : ∀ o, w3.frozen? ⟨b1, o, none⟩ = false := fun o => (Below.frozen (g2.trans hg3) (p := ⟨b1, o, none⟩) hl1).trans (hz1 o)
  have e7 : w3.cell? ⟨b1, 7, none⟩ = some (.string ⟨keyL.toArray⟩) := (hf3.out 3 (by decide)).2
  have z7 := hz3 7
  have hne : w1.heap.size ≠ b1 := by omega
  have ho3 := Lib.hid (hoo.out.gr (g2.trans hg3))
  have p0 := q3.out.c0
  have p1 := q3.out.c1
  have p2 := q3.out.c2
  have p3 := q3.out.c3
  have p4 := q3.out.c4
  have p5 := q3.out.c5
  have p6 := q3.out.c6
  have hb1 := hbb.out
  have hbw := Lib.hid (show w.heap.size ≤ b1 by omega)
  clear n4 hc hf1 hz1 g1' q1 g2 hg3 hb0 hz3 hb1
  go_wp2_with fail
  have g4 := Lib.hid ((g3.out.setCell (p := ⟨b1, 7, none⟩) hbw.out (.string ⟨R.toArray⟩)))
  have hf4 : FTab b1 (w3.setCell ⟨b1, 7, none⟩ (.string ⟨R.toArray⟩)) (askFs R k13) := hf3.out.setv 3 (by decide) R
  have q4 := Lib.hid ((q3.out.put (a := ⟨b1, 7, none⟩) (fun e => hne e.symm) (.string ⟨R.toArray⟩)))
  have hck := check_ask (key := R) k13 (by rw [← hR'.out]; exact dec_enc k) hk'.out
  have hRl : R.length ≤ 800000 := by rw [← hR'.out, encL_len _ _ (Nat.le_refl _), hk'.out]; decide
  have hRs := Lib.hid hRl
  have hsh := Lib.hid (short_ask R k13 hRl (by decide))
  obtain ⟨w4, hw4⟩ : ∃ W, w3.setCell ⟨b1, 7, none⟩ (.string ⟨R.toArray⟩) = W := ⟨_, rfl⟩
  rw [hw4] at g4 hf4 q4 ⊢
  have hw4h := hw4
  have hf4' := Lib.hid hf4
  clear hw4 hf4 g3 hf3 q3 e7 z7 p0 p1 p2 p3 p4 p5 p6 hRl
  have ho4 : Hid (OwnF b1 w4 (.slice (some ⟨b1, 0, none⟩) 5 5) (askFs R k13)) := Lib.hid (hw4h ▸ ho3.out.setv3)
  rw [if_pos rfl] at hck
  have haa := accept_len R
  obtain ⟨aa, haE⟩ : ∃ aa, acceptL R = aa := ⟨_, rfl⟩
  rw [haE] at haa hck
  clear haE
  refine (check_is (r := askR R k13) hck _ _ (hG'.out.gr g4.out) (hf4'.out.at 5) hsh.out).mono ?_
  rintro e w5 ⟨rfl, hg⟩
  have g5 := Lib.hid (g4.out.trans hg)
  have q5 := Lib.hid (q4.out.gr hg)
  have hf5 := Lib.hid (hf4'.out.gr hg)
  have p0 := q5.out.c0
  have p1 := q5.out.c1
  have p2 := q5.out.c2
  have p3 := q5.out.c3
  have p4 := q5.out.c4
  have p5 := q5.out.c5
  have p6 := q5.out.c6
  have hc28 : ((aa.length : Int) != 28) = false := by rw [haa]; rfl
  have hrem : (x.toNat : Int) % 5 = 0 := by omega
  have hrem2 : (x.toNat : Int).tmod 5 = 0 := by rw [Int.tmod_eq_emod_of_nonneg (by omega)]; exact hrem
  have hg5 := Lib.hid hg
  clear hg hck q4 hf4' g4
  unfold ckV
  go_upto_region 14 with (fail)
  have ho5 := Lib.hid (ho4.out.gr hg5.out)
  have hb5 : b1 < w5.heap.size := by have h1 : w1.heap.size < w5.heap.size := cell_lt p0; omega
  have g6 := Gr.alloc w5 (.cells #[.string ⟨kGET.toArray⟩, .string ⟨#[47, 119, 115]⟩, .string ⟨#[]⟩, .int .i64 11, .slice (some ⟨b1, 0, none⟩) 5 5, .string ⟨#[]⟩, .bool false] 27)
  have l6 := reqAt_new w5 kGET [47, 119, 115] [] 11 (.slice (some ⟨b1, 0, none⟩) 5 5) [] false 27
  generalize hw6 : w5.alloc (.cells #[.string ⟨kGET.toArray⟩, .string ⟨#[47, 119, 115]⟩, .string ⟨#[]⟩, .int .i64 11, .slice (some ⟨b1, 0, none⟩) 5 5, .string ⟨#[]⟩, .bool false] 27) = w6
  rw [show w5.alloc (.cells #[.string ⟨kGET.toArray⟩, .string ⟨[47, 119, 115].toArray⟩, .string ⟨[].toArray⟩, .int .i64 11, .slice (some ⟨b1, 0, none⟩) 5 5, .string ⟨[].toArray⟩, .bool false] 27) = w6 from hw6] at l6
  rw [hw6] at g6
  have hS := Lib.hid (fun (W : World) (hg : Gr w5 W) => (show W.cell? ⟨w1.heap.size, 4, none⟩ = some (.slice (some ⟨b1, 0, none⟩) 5 5) ∧ Gr w5 W from ⟨hg.cell p4, hg⟩))
  have hg56 := Lib.hid g6
  have hFT := Lib.hid (fun (W : World) (hg : Gr w6 W) => hf5.out.gr (g6.trans hg))
  have l6b := l6.c0
  have hL := Lib.hid (fun (W : World) (hg : Gr w6 W) => l6.gr hg)
  have q4 := g6.cell p4
  clear hw6 l6
  have hr1 : IntKind.i64.wrap ((0 : Int) + 1) = 1 := by decide
  have hr2 : IntKind.i64.wrap (1 : Int) = 1 := by decide
  go_region_held3 (fun w' => w'.cell? ⟨w1.heap.size, 4, none⟩ = some (.slice (some ⟨b1, 0, none⟩) 5 5) ∧ Gr w5 w')
    (first
      | exact hS.out _ hg56.out
      | exact hS.out _ (Gr.drew hg56.out)
      | (refine hS.out _ (Gr.trans hg56.out ?_); assumption)
      | exact hS.out _ (Gr.alloc1 hg56.out _)
      | exact hS.out _ (Gr.drew (Gr.alloc1 hg56.out _))
      | (refine hS.out _ (Gr.setCell (Gr.trans hg56.out ?_) (Nat.le_refl _) _); assumption))
    (first
      | (refine step_fields (by rfl) (.tmp 48) (.tmp 52) (by rfl) w6.heap.size _ [] (by rfl) (ownF_lit0 (Nat.le_refl _)) b1 0 0 5 ((askFs R k13).take 0) (by rfl) (by rfl) ((hFT.out _ (Gr.drew (Gr.alloc1 (Gr.refl _) _))).some_take 0) 0 (by rfl) (by decide) (by simp) ?_; intro p8 cap8 w8 hown8 hb8; have hG8 : Gr w6 w8 := Below.trans (Gr.drew (Gr.alloc1 (Gr.refl _) _)) hb8)
      | (refine step_fields (by rfl) (.tmp 53) (.tmp 58) (by rfl) w6.heap.size _ _ (by rfl) hown8 b1 2 4 4 ((askFs R k13).drop 1) (by rfl) (by rfl) ((hFT.out _ hG8).some_drop 1 2 rfl) 4 (by rfl) (by decide) (Below.size hG8) ?_; intro p9 cap9 w9 hown9 hb9; have hG9 : Gr w6 w9 := Below.trans hG8 hb9; have c9 := (hL.out _ hG9).c4; have z9 := (hL.out _ hG9).fz 4))
  have hne65 : (Value.slice p9 4 cap9).ownBlock ≠ some (⟨w5.heap.size, 4, none⟩ : Addr).block := fun e => by
    have := (World.ownsRow.lt hown9 _ e).1
    have := cell_lt l6b
    dsimp only at *
    omega
  have ff := Lib.hid ((hown9.put hne65 (.slice p9 4 cap9)).at)
  have ll := Lib.hid ((hL.out _ hG9).sets (.slice p9 4 cap9))
  have gg := Lib.hid (show Gr w5 (w9.setCell ⟨w5.heap.size, 4, none⟩ (.slice p9 4 cap9)) from Gr.setCell (Gr.trans hg56.out hG9) (Nat.le_refl _) _)
  generalize w9.setCell ⟨w5.heap.size, 4, none⟩ (.slice p9 4 cap9) = wa at ff ll gg ⊢
  have ff' : FieldsAt wa (.slice p9 4 cap9) (lackFs R 0) := ff.out
  have ffh := Lib.hid ff'
  have e0 := ll.out.c0
  have e1 := ll.out.c1
  have e2 := ll.out.c2
  have e3 := ll.out.c3
  have e4 := ll.out.c4
  have e5 := ll.out.c5
  have e6 := ll.out.c6
  have hlk := lack_check R 0 (by decide)
  have hsl := Lib.hid (show Short (lackFs R 0) from lack_short R hRs.out _)
  clear hown8 hb8 hG8 hown9 hb9 hG9 c9 z9 hne65 ff' ff hFT hL hS hr1 hr2 l6b
  go_wp2_with fail
  refine (check_is (r := askWith (lackFs R 0)) hlk _ _ (hG'.out.gr (g5.out.trans gg.out)) ffh.out hsl.out).mono ?_
  rintro e wb ⟨rfl, gb⟩
  have gb' := Lib.hid (gg.out.trans gb)
  have qb := Lib.hid (q5.out.gr gb'.out)
  have fb := Lib.hid (hf5.out.gr gb'.out)
  have hbb1 : b1 < wb.heap.size := Nat.lt_of_lt_of_le hb5 (Below.size gb'.out)
  clear gb e0 e1 e2 e3 e4 e5 e6 hlk hsl ffh ll gg p0 p1 p2 p3 p4 p5 p6 q4
  have p0 := qb.out.c0
  have p1 := qb.out.c1
  have p2 := qb.out.c2
  have p3 := qb.out.c3
  have p4 := qb.out.c4
  have p5 := qb.out.c5
  have p6 := qb.out.c6
  unfold ckV
  go_upto_region 22 with (fail)
  have g6 := Gr.alloc wb (.cells #[.string ⟨kGET.toArray⟩, .string ⟨#[47, 119, 115]⟩, .string ⟨#[]⟩, .int .i64 11, .slice (some ⟨b1, 0, none⟩) 5 5, .string ⟨#[]⟩, .bool false] 27)
  have l6 := reqAt_new wb kGET [47, 119, 115] [] 11 (.slice (some ⟨b1, 0, none⟩) 5 5) [] false 27
  generalize hw6 : wb.alloc (.cells #[.string ⟨kGET.toArray⟩, .string ⟨#[47, 119, 115]⟩, .string ⟨#[]⟩, .int .i64 11, .slice (some ⟨b1, 0, none⟩) 5 5, .string ⟨#[]⟩, .bool false] 27) = wc
  rw [show wb.alloc (.cells #[.string ⟨kGET.toArray⟩, .string ⟨[47, 119, 115].toArray⟩, .string ⟨[].toArray⟩, .int .i64 11, .slice (some ⟨b1, 0, none⟩) 5 5, .string ⟨[].toArray⟩, .bool false] 27) = wc from hw6] at l6
  rw [hw6] at g6
  obtain ⟨nm, hnm⟩ : ∃ l, ((askFs R k13)[0]'(show 0 < 5 by decide)).1 = l := ⟨_, rfl⟩
  obtain ⟨vl, hvl⟩ : ∃ l, ((askFs R k13)[0]'(show 0 < 5 by decide)).2 = l := ⟨_, rfl⟩
  have a1 : wb.cell? ⟨b1, 0, none⟩ = some (.string ⟨nm.toArray⟩) := hnm ▸ (fb.out 0 (show 0 < 5 by decide)).1
  have a2 : wb.cell? ⟨b1, 1, none⟩ = some (.string ⟨vl.toArray⟩) := hvl ▸ (fb.out 0 (show 0 < 5 by decide)).2
  have hnm' := Lib.hid hnm
  have hvl' := Lib.hid hvl
  have hnl := Lib.hid (show nm.length ≤ 1000000 by rw [← hnm]; show (kHost).length ≤ _; decide)
  have hS := Lib.hid (fun (W : World) (hg : Gr wb W) => (show W.cell? ⟨w1.heap.size, 4, none⟩ = some (.slice (some ⟨b1, 0, none⟩) 5 5) ∧ W.cell? ⟨b1, 0, none⟩ = some (.string ⟨nm.toArray⟩) ∧ W.cell? ⟨b1, 1, none⟩ = some (.string ⟨vl.toArray⟩) ∧ Gr wb W from ⟨hg.cell p4, hg.cell a1, hg.cell a2, hg⟩))
  have hgbc := Lib.hid g6
  have hFT := Lib.hid (fun (W : World) (hg : Gr wc W) => fb.out.gr (g6.trans hg))
  have l6b := l6.c0
  have hL := Lib.hid (fun (W : World) (hg : Gr wc W) => l6.gr hg)
  have q4 := g6.cell p4
  have q5' := g6.cell a1
  have q6 := g6.cell a2
  clear hw6 l6 hnm hvl
  go_region_held3 (fun w' => w'.cell? ⟨w1.heap.size, 4, none⟩ = some (.slice (some ⟨b1, 0, none⟩) 5 5) ∧ w'.cell? ⟨b1, 0, none⟩ = some (.string ⟨nm.toArray⟩) ∧ w'.cell? ⟨b1, 1, none⟩ = some (.string ⟨vl.toArray⟩) ∧ Gr wb w')
    (first
      | exact hS.out _ hgbc.out
      | exact hS.out _ (Gr.drew hgbc.out)
      | (refine hS.out _ (Gr.trans hgbc.out ?_); assumption)
      | exact hS.out _ (Gr.alloc1 hgbc.out _)
      | exact hS.out _ (Gr.drew (Gr.alloc1 hgbc.out _))
      | (refine hS.out _ (Gr.alloc1 (Gr.trans hgbc.out ?_) _); assumption)
      | (refine hS.out _ (Gr.setCell (Gr.trans hgbc.out ?_) (Nat.le_refl _) _); assumption))
    (first
      | (refine step_fields (by rfl) (.tmp 67) (.tmp 69) (by rfl) wc.heap.size _ [] (by rfl) (ownF_lit0 (Nat.le_refl _)) b1 0 5 5 (askFs R k13) (by rfl) (by rfl) ((hFT.out _ (Gr.drew (Gr.alloc1 (Gr.refl _) _))).some_all) 5 (by rfl) (by decide) (by simp) ?_; intro p8 cap8 w8 hown8 hb8; have hG8 : Gr wc w8 := Below.trans (Gr.drew (Gr.alloc1 (Gr.refl _) _)) hb8)
      | (go_simp; go_at_call 12; refine (low_any nm _ hnl.out).mono ?_; rintro e wd ⟨rfl, gd⟩; have hGd : Gr wc wd := Gr.trans hG8 gd; have hownd := OwnF.gr hown8 gd)
      | (refine step_fields (by rfl) (.tmp 70) (.tmp 85) (by rfl) wc.heap.size _ _ (by rfl) (World.ownsRow.alloc hownd _) wd.heap.size 0 1 1 [(nm.map lower, vl)] (by rfl) (by rfl) ((ftab_new wd [(nm.map lower, vl)] 30).some_all) 6 (by rfl) (by decide) (Nat.le_trans (Below.size hGd) (by simp)) ?_; intro p9 cap9 w9 hown9 hb9; have hG9 : Gr wc w9 := Below.trans (Gr.alloc1 hGd _) hb9; have c9 := (hL.out _ hG9).c4; have z9 := (hL.out _ hG9).fz 4))
  have hne65 : (Value.slice p9 6 cap9).ownBlock ≠ some (⟨wb.heap.size, 4, none⟩ : Addr).block := fun e => by
    have := (World.ownsRow.lt hown9 _ e).1
    have := cell_lt l6b
    dsimp only at *
    omega
  have ff := Lib.hid ((hown9.put hne65 (.slice p9 6 cap9)).at)
  have ll := Lib.hid ((hL.out _ hG9).sets (.slice p9 6 cap9))
  have gg := Lib.hid (show Gr wb (w9.setCell ⟨wb.heap.size, 4, none⟩ (.slice p9 6 cap9)) from Gr.setCell (Gr.trans hgbc.out hG9) (Nat.le_refl _) _)
  generalize w9.setCell ⟨wb.heap.size, 4, none⟩ (.slice p9 6 cap9) = wa at ff ll gg ⊢
  have htw : askFs R k13 ++ [(nm.map lower, vl)] = twiceFs R 0 (by decide) := by unfold twiceFs; rw [← hnm'.out, ← hvl'.out]
  have ff' : FieldsAt wa (.slice p9 6 cap9) (askFs R k13 ++ [(nm.map lower, vl)]) := ff.out
  rw [htw] at ff'
  have ffh := Lib.hid ff'
  have e0 := ll.out.c0
  have e1 := ll.out.c1
  have e2 := ll.out.c2
  have e3 := ll.out.c3
  have e4 := ll.out.c4
  have e5 := ll.out.c5
  have e6 := ll.out.c6
  have hlk := twice_check (R := R) (by rw [← hR'.out]; exact dec_enc k) hk'.out 0 (by decide)
  rw [if_neg (by decide)] at hlk
  have hsl := Lib.hid (show Short (twiceFs R 0 (by decide)) from twice_short R hRs.out _ _)
  clear hown8 hb8 hG8 hown9 hb9 hG9 c9 z9 hne65 ff' ff hFT hL hS l6b htw hnm' hvl' hnl hownd hGd gd a1 a2 q5' q6 q4
  go_wp2_with fail
  refine (check_is (r := askWith (twiceFs R 0 (by decide))) hlk _ _ (hG'.out.gr (g5.out.trans (gb'.out.trans gg.out))) ffh.out hsl.out).mono ?_
  rintro e we ⟨rfl, ge⟩
  have ge' := Lib.hid (gb'.out.trans (gg.out.trans ge))
  have qe := Lib.hid (q5.out.gr ge'.out)
  have fe := Lib.hid (hf5.out.gr ge'.out)
  clear ge e0 e1 e2 e3 e4 e5 e6 hlk hsl ffh ll gg p0 p1 p2 p3 p4 p5 p6
  have p0 := qe.out.c0
  have p1 := qe.out.c1
  have p2 := qe.out.c2
  have p3 := qe.out.c3
  have p4 := qe.out.c4
  have p5 := qe.out.c5
  have p6 := qe.out.c6
  unfold ckV
  go_wp2_with fail
  have hga := Lib.hid (show Gr w (we.alloc (.cells #[.string ⟨m.toArray⟩, .string ⟨#[47, 119, 115]⟩, .string ⟨#[]⟩, .int .i64 ver, .slice (some ⟨b1, 0, none⟩) 5 5, .string ⟨#[]⟩, .bool false] 27)) from (g5.out.trans ge'.out).alloc1 _)
  have fa := Lib.hid ((fe.out.gr (Gr.alloc we (.cells #[.string ⟨m.toArray⟩, .string ⟨#[47, 119, 115]⟩, .string ⟨#[]⟩, .int .i64 ver, .slice (some ⟨b1, 0, none⟩) 5 5, .string ⟨#[]⟩, .bool false] 27))).at 5)
  generalize we.alloc (.cells #[.string ⟨m.toArray⟩, .string ⟨#[47, 119, 115]⟩, .string ⟨#[]⟩, .int .i64 ver, .slice (some ⟨b1, 0, none⟩) 5 5, .string ⟨#[]⟩, .bool false] 27) = wf at hga fa ⊢
  have hck := check_ask (key := R) k13 (by rw [← hR'.out]; exact dec_enc k) hk'.out
  rw [if_pos rfl] at hck
  have hsh := Lib.hid (short_ask R k13 hRs.out (by decide))
  clear p0 p1 p2 p3 p4 p5 p6 fe qe
  by_cases h1 : m = kGET
  · by_cases h2 : ver = 11
    · subst h1 h2
      refine (check_is (r := askR R k13) hck _ _ (hG'.out.gr hga.out) fa.out hsh.out).mono ?_
      rintro e wg ⟨rfl, gg⟩
      have gz := Lib.hid (hga.out.trans gg)
      clear gg hck
      unfold ckV
      go_wp2_with fail
      refine (wakes_any _ (hG'.out.gr gz.out)).mono ?_
      rintro e wh ⟨rfl, gh⟩
      go_wp2
      go_ret
      exact ⟨rfl, gz.out.trans gh⟩
    · subst h1
      have hv : (ver == 11) = false := beq_eq_false_iff_ne.2 h2
      refine (check_is (r := ⟨kGET, [47, 119, 115], [], ver, askFs R k13, [], false⟩) (check_third (fun h => h2 h.2)) _ _ (hG'.out.gr hga.out) fa.out hsh.out).mono ?_
      rintro e wg ⟨rfl, gg⟩
      have gz := Lib.hid (hga.out.trans gg)
      clear gg hck h2
      unfold ckV
      go_wp2_with fail
      refine (wakes_any _ (hG'.out.gr gz.out)).mono ?_
      rintro e wh ⟨rfl, gh⟩
      go_wp2
      go_ret
      exact ⟨rfl, gz.out.trans gh⟩
  · have hv : (m == [71, 69, 84]) = false := beq_eq_false_iff_ne.2 h1
    refine (check_is (r := ⟨m, [47, 119, 115], [], ver, askFs R k13, [], false⟩) (check_third (fun h => h1 h.1)) _ _ (hG'.out.gr hga.out) fa.out hsh.out).mono ?_
    rintro e wg ⟨rfl, gg⟩
    have gz := Lib.hid (hga.out.trans gg)
    clear gg hck h1
    unfold ckV
    go_wp2_with fail
    refine (wakes_any _ (hG'.out.gr gz.out)).mono ?_
    rintro e wh ⟨rfl, gh⟩
    go_wp2
    go_ret
    exact ⟨rfl, gz.out.trans gh⟩
end Go.Proofs.YtheihlalgekojaaDoor
namespace Go.Proofs.YtheihlalgekojaaDoor
open Go.RowKit
attribute [local go_sem] Oper.semAt_some
set_option maxHeartbeats 16000000 in
set_option maxRecDepth 20000 in
theorem lacks1_any (k : List UInt8) (x : UInt8) (m : List UInt8) (ver : Int) (hm : m.length ≤ 9223372036854775807) (hk : k.length = 16) (hx : x.toNat % 5 = 1) (w : World) (hG : G w) :
    Calls Tryd.prog 5 #[.agg (bcells k).toArray, .int .u8 x.toNat, .string ⟨m.toArray⟩, .int .i64 ver] w fun e w' => e = .returned (.bool true) ∧ Gr w w' := by
  have hG' := Lib.hid hG
  clear hG
  have hA : (bcells k).toArray.size = 16 := by simp [bcells_len, hk]
  have hb0 := Lib.hid (bat_new w k 35)
  obtain ⟨A, hAe⟩ : ∃ A, (bcells k).toArray = A := ⟨_, rfl⟩
  rw [hAe] at hA hb0 ⊢
  clear hAe
  have hk' := Lib.hid hk
  clear hk
  go_enter Tryd.func5, Tryd.ntmps5
  go_wp2_with fail
  refine (asks_made _).mono ?_
  rintro e w1 ⟨b1, hb1, rfl, hf1, hz1, ho1, g1⟩
  rw [World.size_alloc] at hb1
  have g1' := Lib.hid ((Gr.alloc w _).trans g1)
  replace hb0 := Lib.hid (hb0.out.gr g1)
  have hoo := Lib.hid ho1
  clear ho1
  have hl1 : b1 < w1.heap.size := cell_lt (hf1 0 (by decide)).1
  have hbb := Lib.hid hb1
  clear g1 hb1
  unfold Rq.V askR
  go_upto_region 8 with (fail)
  have q0 := Lib.hid (reqAt_new w1 kGET [47, 119, 115] [] 11 (.slice (some ⟨b1, 0, none⟩) 5 5) [] false 27)
  have g2 := Gr.alloc w1 (.cells #[.string ⟨kGET.toArray⟩, .string ⟨#[47, 119, 115]⟩, .string ⟨#[]⟩, .int .i64 11, .slice (some ⟨b1, 0, none⟩) 5 5, .string ⟨#[]⟩, .bool false] 27)
  generalize hw2 : w1.alloc (.cells #[.string ⟨kGET.toArray⟩, .string ⟨#[47, 119, 115]⟩, .string ⟨#[]⟩, .int .i64 11, .slice (some ⟨b1, 0, none⟩) 5 5, .string ⟨#[]⟩, .bool false] 27) = w2
  have q1 : ReqAt w1.heap.size w2 kGET [47, 119, 115] [] 11 (.slice (some ⟨b1, 0, none⟩) 5 5) [] false := hw2 ▸ q0.out
  rw [hw2] at g2
  clear hw2 q0
  have n4 : ∀ y : Later (Gr w2), y.w.cell? ⟨w1.heap.size, 4, none⟩ = some (.slice (some ⟨b1, 0, none⟩) 5 5) := fun y => y.ok.cell q1.c4
  have hc : ∀ y : Later (Gr w2), (convert 37 9 (.slice (some ⟨w.heap.size, 0, none⟩) 16 16)).run Tryd.prog y.w = .ok (.string ⟨k.toArray⟩) y.w := fun y => (hb0.out.gr (g2.trans y.ok)).conv 16 16 hk'.out
  obtain ⟨R, hR⟩ : ∃ R, encL k = R := ⟨_, rfl⟩
  have hR' := Lib.hid hR
  have hkl := Lib.hid (show k.length ≤ 900000 by have := hk'.out; omega)
  clear hR
  haveI : Nonempty (Later (Gr w2)) := ⟨⟨w2, Gr.refl w2⟩⟩
  refine wp_region_later_tail (C := Gr w2) 7 (by kernel_rfl) (by kernel_rfl) (Gr.drew' _) ?_
  simp only [List.take_succ_cons, List.take_zero, List.drop_succ_cons, List.drop_zero]
  repeat (go_big_quiet_step (first | with_reducible exact encode_later _ (fun _ _ a b => Gr.trans a b) hR'.out hkl.out _))
  refine wpQuiet_nil ?_
  intro w3 hg3
  have g3 := Lib.hid (g1'.out.trans (g2.trans hg3))
  have hf3 := Lib.hid (hf1.gr (g2.trans hg3))
  have q3 := Lib.hid (q1.gr hg3)
  have hz3 : ∀ o, w3.frozen? ⟨b1, o, none⟩ = false := fun o => (Below.frozen (g2.trans hg3) (p := ⟨b1, o, none⟩) hl1).trans (hz1 o)
  have e7 : w3.cell? ⟨b1, 7, none⟩ = some (.string ⟨keyL.toArray⟩) := (hf3.out 3 (by decide)).2
  have z7 := hz3 7
  have hne : w1.heap.size ≠ b1 := by omega
  have ho3 := Lib.hid (hoo.out.gr (g2.trans hg3))
  have p0 := q3.out.c0
  have p1 := q3.out.c1
  have p2 := q3.out.c2
  have p3 := q3.out.c3
  have p4 := q3.out.c4
  have p5 := q3.out.c5
  have p6 := q3.out.c6
  have hb1 := hbb.out
  have hbw := Lib.hid (show w.heap.size ≤ b1 by omega)
  clear n4 hc hf1 hz1 g1' q1 g2 hg3 hb0 hz3 hb1
  go_wp2_with fail
  have g4 := Lib.hid ((g3.out.setCell (p := ⟨b1, 7, none⟩) hbw.out (.string ⟨R.toArray⟩)))
  have hf4 : FTab b1 (w3.setCell ⟨b1, 7, none⟩ (.string ⟨R.toArray⟩)) (askFs R k13) := hf3.out.setv 3 (by decide) R
  have q4 := Lib.hid ((q3.out.put (a := ⟨b1, 7, none⟩) (fun e => hne e.symm) (.string ⟨R.toArray⟩)))
  have hck := check_ask (key := R) k13 (by rw [← hR'.out]; exact dec_enc k) hk'.out
  have hRl : R.length ≤ 800000 := by rw [← hR'.out, encL_len _ _ (Nat.le_refl _), hk'.out]; decide
  have hRs := Lib.hid hRl
  have hsh := Lib.hid (short_ask R k13 hRl (by decide))
  obtain ⟨w4, hw4⟩ : ∃ W, w3.setCell ⟨b1, 7, none⟩ (.string ⟨R.toArray⟩) = W := ⟨_, rfl⟩
  rw [hw4] at g4 hf4 q4 ⊢
  have hw4h := hw4
  have hf4' := Lib.hid hf4
  clear hw4 hf4 g3 hf3 q3 e7 z7 p0 p1 p2 p3 p4 p5 p6 hRl
  have ho4 : Hid (OwnF b1 w4 (.slice (some ⟨b1, 0, none⟩) 5 5) (askFs R k13)) := Lib.hid (hw4h ▸ ho3.out.setv3)
  rw [if_pos rfl] at hck
  have haa := accept_len R
  obtain ⟨aa, haE⟩ : ∃ aa, acceptL R = aa := ⟨_, rfl⟩
  rw [haE] at haa hck
  clear haE
  refine (check_is (r := askR R k13) hck _ _ (hG'.out.gr g4.out) (hf4'.out.at 5) hsh.out).mono ?_
  rintro e w5 ⟨rfl, hg⟩
  have g5 := Lib.hid (g4.out.trans hg)
  have q5 := Lib.hid (q4.out.gr hg)
  have hf5 := Lib.hid (hf4'.out.gr hg)
  have p0 := q5.out.c0
  have p1 := q5.out.c1
  have p2 := q5.out.c2
  have p3 := q5.out.c3
  have p4 := q5.out.c4
  have p5 := q5.out.c5
  have p6 := q5.out.c6
  have hc28 : ((aa.length : Int) != 28) = false := by rw [haa]; rfl
  have hrem : (x.toNat : Int) % 5 = 1 := by omega
  have hrem2 : (x.toNat : Int).tmod 5 = 1 := by rw [Int.tmod_eq_emod_of_nonneg (by omega)]; exact hrem
  have hg5 := Lib.hid hg
  clear hg hck q4 hf4' g4
  unfold ckV
  go_upto_region 14 with (fail)
  have ho5 := Lib.hid (ho4.out.gr hg5.out)
  have hb5 : b1 < w5.heap.size := by have h1 : w1.heap.size < w5.heap.size := cell_lt p0; omega
  have g6 := Gr.alloc w5 (.cells #[.string ⟨kGET.toArray⟩, .string ⟨#[47, 119, 115]⟩, .string ⟨#[]⟩, .int .i64 11, .slice (some ⟨b1, 0, none⟩) 5 5, .string ⟨#[]⟩, .bool false] 27)
  have l6 := reqAt_new w5 kGET [47, 119, 115] [] 11 (.slice (some ⟨b1, 0, none⟩) 5 5) [] false 27
  generalize hw6 : w5.alloc (.cells #[.string ⟨kGET.toArray⟩, .string ⟨#[47, 119, 115]⟩, .string ⟨#[]⟩, .int .i64 11, .slice (some ⟨b1, 0, none⟩) 5 5, .string ⟨#[]⟩, .bool false] 27) = w6
  rw [show w5.alloc (.cells #[.string ⟨kGET.toArray⟩, .string ⟨[47, 119, 115].toArray⟩, .string ⟨[].toArray⟩, .int .i64 11, .slice (some ⟨b1, 0, none⟩) 5 5, .string ⟨[].toArray⟩, .bool false] 27) = w6 from hw6] at l6
  rw [hw6] at g6
  have hS := Lib.hid (fun (W : World) (hg : Gr w5 W) => (show W.cell? ⟨w1.heap.size, 4, none⟩ = some (.slice (some ⟨b1, 0, none⟩) 5 5) ∧ Gr w5 W from ⟨hg.cell p4, hg⟩))
  have hg56 := Lib.hid g6
  have hFT := Lib.hid (fun (W : World) (hg : Gr w6 W) => hf5.out.gr (g6.trans hg))
  have l6b := l6.c0
  have hL := Lib.hid (fun (W : World) (hg : Gr w6 W) => l6.gr hg)
  have q4 := g6.cell p4
  clear hw6 l6
  have hr1 : IntKind.i64.wrap ((1 : Int) + 1) = 2 := by decide
  have hr2 : IntKind.i64.wrap (2 : Int) = 2 := by decide
  go_region_held3 (fun w' => w'.cell? ⟨w1.heap.size, 4, none⟩ = some (.slice (some ⟨b1, 0, none⟩) 5 5) ∧ Gr w5 w')
    (first
      | exact hS.out _ hg56.out
      | exact hS.out _ (Gr.drew hg56.out)
      | (refine hS.out _ (Gr.trans hg56.out ?_); assumption)
      | exact hS.out _ (Gr.alloc1 hg56.out _)
      | exact hS.out _ (Gr.drew (Gr.alloc1 hg56.out _))
      | (refine hS.out _ (Gr.setCell (Gr.trans hg56.out ?_) (Nat.le_refl _) _); assumption))
    (first
      | (refine step_fields (by rfl) (.tmp 48) (.tmp 52) (by rfl) w6.heap.size _ [] (by rfl) (ownF_lit0 (Nat.le_refl _)) b1 0 1 5 ((askFs R k13).take 1) (by rfl) (by rfl) ((hFT.out _ (Gr.drew (Gr.alloc1 (Gr.refl _) _))).some_take 1) 1 (by rfl) (by decide) (by simp) ?_; intro p8 cap8 w8 hown8 hb8; have hG8 : Gr w6 w8 := Below.trans (Gr.drew (Gr.alloc1 (Gr.refl _) _)) hb8)
      | (refine step_fields (by rfl) (.tmp 53) (.tmp 58) (by rfl) w6.heap.size _ _ (by rfl) hown8 b1 4 3 3 ((askFs R k13).drop 2) (by rfl) (by rfl) ((hFT.out _ hG8).some_drop 2 4 rfl) 4 (by rfl) (by decide) (Below.size hG8) ?_; intro p9 cap9 w9 hown9 hb9; have hG9 : Gr w6 w9 := Below.trans hG8 hb9; have c9 := (hL.out _ hG9).c4; have z9 := (hL.out _ hG9).fz 4))
  have hne65 : (Value.slice p9 4 cap9).ownBlock ≠ some (⟨w5.heap.size, 4, none⟩ : Addr).block := fun e => by
    have := (World.ownsRow.lt hown9 _ e).1
    have := cell_lt l6b
    dsimp only at *
    omega
  have ff := Lib.hid ((hown9.put hne65 (.slice p9 4 cap9)).at)
  have ll := Lib.hid ((hL.out _ hG9).sets (.slice p9 4 cap9))
  have gg := Lib.hid (show Gr w5 (w9.setCell ⟨w5.heap.size, 4, none⟩ (.slice p9 4 cap9)) from Gr.setCell (Gr.trans hg56.out hG9) (Nat.le_refl _) _)
  generalize w9.setCell ⟨w5.heap.size, 4, none⟩ (.slice p9 4 cap9) = wa at ff ll gg ⊢
  have ff' : FieldsAt wa (.slice p9 4 cap9) (lackFs R 1) := ff.out
  have ffh := Lib.hid ff'
  have e0 := ll.out.c0
  have e1 := ll.out.c1
  have e2 := ll.out.c2
  have e3 := ll.out.c3
  have e4 := ll.out.c4
  have e5 := ll.out.c5
  have e6 := ll.out.c6
  have hlk := lack_check R 1 (by decide)
  have hsl := Lib.hid (show Short (lackFs R 1) from lack_short R hRs.out _)
  clear hown8 hb8 hG8 hown9 hb9 hG9 c9 z9 hne65 ff' ff hFT hL hS hr1 hr2 l6b
  go_wp2_with fail
  refine (check_is (r := askWith (lackFs R 1)) hlk _ _ (hG'.out.gr (g5.out.trans gg.out)) ffh.out hsl.out).mono ?_
  rintro e wb ⟨rfl, gb⟩
  have gb' := Lib.hid (gg.out.trans gb)
  have qb := Lib.hid (q5.out.gr gb'.out)
  have fb := Lib.hid (hf5.out.gr gb'.out)
  have hbb1 : b1 < wb.heap.size := Nat.lt_of_lt_of_le hb5 (Below.size gb'.out)
  clear gb e0 e1 e2 e3 e4 e5 e6 hlk hsl ffh ll gg p0 p1 p2 p3 p4 p5 p6 q4
  have p0 := qb.out.c0
  have p1 := qb.out.c1
  have p2 := qb.out.c2
  have p3 := qb.out.c3
  have p4 := qb.out.c4
  have p5 := qb.out.c5
  have p6 := qb.out.c6
  unfold ckV
  go_upto_region 22 with (fail)
  have g6 := Gr.alloc wb (.cells #[.string ⟨kGET.toArray⟩, .string ⟨#[47, 119, 115]⟩, .string ⟨#[]⟩, .int .i64 11, .slice (some ⟨b1, 0, none⟩) 5 5, .string ⟨#[]⟩, .bool false] 27)
  have l6 := reqAt_new wb kGET [47, 119, 115] [] 11 (.slice (some ⟨b1, 0, none⟩) 5 5) [] false 27
  generalize hw6 : wb.alloc (.cells #[.string ⟨kGET.toArray⟩, .string ⟨#[47, 119, 115]⟩, .string ⟨#[]⟩, .int .i64 11, .slice (some ⟨b1, 0, none⟩) 5 5, .string ⟨#[]⟩, .bool false] 27) = wc
  rw [show wb.alloc (.cells #[.string ⟨kGET.toArray⟩, .string ⟨[47, 119, 115].toArray⟩, .string ⟨[].toArray⟩, .int .i64 11, .slice (some ⟨b1, 0, none⟩) 5 5, .string ⟨[].toArray⟩, .bool false] 27) = wc from hw6] at l6
  rw [hw6] at g6
  obtain ⟨nm, hnm⟩ : ∃ l, ((askFs R k13)[1]'(show 1 < 5 by decide)).1 = l := ⟨_, rfl⟩
  obtain ⟨vl, hvl⟩ : ∃ l, ((askFs R k13)[1]'(show 1 < 5 by decide)).2 = l := ⟨_, rfl⟩
  have a1 : wb.cell? ⟨b1, 2, none⟩ = some (.string ⟨nm.toArray⟩) := hnm ▸ (fb.out 1 (show 1 < 5 by decide)).1
  have a2 : wb.cell? ⟨b1, 3, none⟩ = some (.string ⟨vl.toArray⟩) := hvl ▸ (fb.out 1 (show 1 < 5 by decide)).2
  have hnm' := Lib.hid hnm
  have hvl' := Lib.hid hvl
  have hnl := Lib.hid (show nm.length ≤ 1000000 by rw [← hnm]; show (kUpg).length ≤ _; decide)
  have hS := Lib.hid (fun (W : World) (hg : Gr wb W) => (show W.cell? ⟨w1.heap.size, 4, none⟩ = some (.slice (some ⟨b1, 0, none⟩) 5 5) ∧ W.cell? ⟨b1, 2, none⟩ = some (.string ⟨nm.toArray⟩) ∧ W.cell? ⟨b1, 3, none⟩ = some (.string ⟨vl.toArray⟩) ∧ Gr wb W from ⟨hg.cell p4, hg.cell a1, hg.cell a2, hg⟩))
  have hgbc := Lib.hid g6
  have hFT := Lib.hid (fun (W : World) (hg : Gr wc W) => fb.out.gr (g6.trans hg))
  have l6b := l6.c0
  have hL := Lib.hid (fun (W : World) (hg : Gr wc W) => l6.gr hg)
  have q4 := g6.cell p4
  have q5' := g6.cell a1
  have q6 := g6.cell a2
  clear hw6 l6 hnm hvl
  go_region_held3 (fun w' => w'.cell? ⟨w1.heap.size, 4, none⟩ = some (.slice (some ⟨b1, 0, none⟩) 5 5) ∧ w'.cell? ⟨b1, 2, none⟩ = some (.string ⟨nm.toArray⟩) ∧ w'.cell? ⟨b1, 3, none⟩ = some (.string ⟨vl.toArray⟩) ∧ Gr wb w')
    (first
      | exact hS.out _ hgbc.out
      | exact hS.out _ (Gr.drew hgbc.out)
      | (refine hS.out _ (Gr.trans hgbc.out ?_); assumption)
      | exact hS.out _ (Gr.alloc1 hgbc.out _)
      | exact hS.out _ (Gr.drew (Gr.alloc1 hgbc.out _))
      | (refine hS.out _ (Gr.alloc1 (Gr.trans hgbc.out ?_) _); assumption)
      | (refine hS.out _ (Gr.setCell (Gr.trans hgbc.out ?_) (Nat.le_refl _) _); assumption))
    (first
      | (refine step_fields (by rfl) (.tmp 67) (.tmp 69) (by rfl) wc.heap.size _ [] (by rfl) (ownF_lit0 (Nat.le_refl _)) b1 0 5 5 (askFs R k13) (by rfl) (by rfl) ((hFT.out _ (Gr.drew (Gr.alloc1 (Gr.refl _) _))).some_all) 5 (by rfl) (by decide) (by simp) ?_; intro p8 cap8 w8 hown8 hb8; have hG8 : Gr wc w8 := Below.trans (Gr.drew (Gr.alloc1 (Gr.refl _) _)) hb8)
      | (go_simp; go_at_call 12; refine (low_any nm _ hnl.out).mono ?_; rintro e wd ⟨rfl, gd⟩; have hGd : Gr wc wd := Gr.trans hG8 gd; have hownd := OwnF.gr hown8 gd)
      | (refine step_fields (by rfl) (.tmp 70) (.tmp 85) (by rfl) wc.heap.size _ _ (by rfl) (World.ownsRow.alloc hownd _) wd.heap.size 0 1 1 [(nm.map lower, vl)] (by rfl) (by rfl) ((ftab_new wd [(nm.map lower, vl)] 30).some_all) 6 (by rfl) (by decide) (Nat.le_trans (Below.size hGd) (by simp)) ?_; intro p9 cap9 w9 hown9 hb9; have hG9 : Gr wc w9 := Below.trans (Gr.alloc1 hGd _) hb9; have c9 := (hL.out _ hG9).c4; have z9 := (hL.out _ hG9).fz 4))
  have hne65 : (Value.slice p9 6 cap9).ownBlock ≠ some (⟨wb.heap.size, 4, none⟩ : Addr).block := fun e => by
    have := (World.ownsRow.lt hown9 _ e).1
    have := cell_lt l6b
    dsimp only at *
    omega
  have ff := Lib.hid ((hown9.put hne65 (.slice p9 6 cap9)).at)
  have ll := Lib.hid ((hL.out _ hG9).sets (.slice p9 6 cap9))
  have gg := Lib.hid (show Gr wb (w9.setCell ⟨wb.heap.size, 4, none⟩ (.slice p9 6 cap9)) from Gr.setCell (Gr.trans hgbc.out hG9) (Nat.le_refl _) _)
  generalize w9.setCell ⟨wb.heap.size, 4, none⟩ (.slice p9 6 cap9) = wa at ff ll gg ⊢
  have htw : askFs R k13 ++ [(nm.map lower, vl)] = twiceFs R 1 (by decide) := by unfold twiceFs; rw [← hnm'.out, ← hvl'.out]
  have ff' : FieldsAt wa (.slice p9 6 cap9) (askFs R k13 ++ [(nm.map lower, vl)]) := ff.out
  rw [htw] at ff'
  have ffh := Lib.hid ff'
  have e0 := ll.out.c0
  have e1 := ll.out.c1
  have e2 := ll.out.c2
  have e3 := ll.out.c3
  have e4 := ll.out.c4
  have e5 := ll.out.c5
  have e6 := ll.out.c6
  have hlk := twice_check (R := R) (by rw [← hR'.out]; exact dec_enc k) hk'.out 1 (by decide)
  rw [if_pos (by decide)] at hlk
  have hsl := Lib.hid (show Short (twiceFs R 1 (by decide)) from twice_short R hRs.out _ _)
  clear hown8 hb8 hG8 hown9 hb9 hG9 c9 z9 hne65 ff' ff hFT hL hS l6b htw hnm' hvl' hnl hownd hGd gd a1 a2 q5' q6 q4
  go_wp2_with fail
  refine (check_is (r := askWith (twiceFs R 1 (by decide))) hlk _ _ (hG'.out.gr (g5.out.trans (gb'.out.trans gg.out))) ffh.out hsl.out).mono ?_
  rintro e we ⟨rfl, ge⟩
  have ge' := Lib.hid (gb'.out.trans (gg.out.trans ge))
  have qe := Lib.hid (q5.out.gr ge'.out)
  have fe := Lib.hid (hf5.out.gr ge'.out)
  clear ge e0 e1 e2 e3 e4 e5 e6 hlk hsl ffh ll gg p0 p1 p2 p3 p4 p5 p6
  have p0 := qe.out.c0
  have p1 := qe.out.c1
  have p2 := qe.out.c2
  have p3 := qe.out.c3
  have p4 := qe.out.c4
  have p5 := qe.out.c5
  have p6 := qe.out.c6
  unfold ckV
  go_wp2_with fail
  have hga := Lib.hid (show Gr w (we.alloc (.cells #[.string ⟨m.toArray⟩, .string ⟨#[47, 119, 115]⟩, .string ⟨#[]⟩, .int .i64 ver, .slice (some ⟨b1, 0, none⟩) 5 5, .string ⟨#[]⟩, .bool false] 27)) from (g5.out.trans ge'.out).alloc1 _)
  have fa := Lib.hid ((fe.out.gr (Gr.alloc we (.cells #[.string ⟨m.toArray⟩, .string ⟨#[47, 119, 115]⟩, .string ⟨#[]⟩, .int .i64 ver, .slice (some ⟨b1, 0, none⟩) 5 5, .string ⟨#[]⟩, .bool false] 27))).at 5)
  generalize we.alloc (.cells #[.string ⟨m.toArray⟩, .string ⟨#[47, 119, 115]⟩, .string ⟨#[]⟩, .int .i64 ver, .slice (some ⟨b1, 0, none⟩) 5 5, .string ⟨#[]⟩, .bool false] 27) = wf at hga fa ⊢
  have hck := check_ask (key := R) k13 (by rw [← hR'.out]; exact dec_enc k) hk'.out
  rw [if_pos rfl] at hck
  have hsh := Lib.hid (short_ask R k13 hRs.out (by decide))
  clear p0 p1 p2 p3 p4 p5 p6 fe qe
  by_cases h1 : m = kGET
  · by_cases h2 : ver = 11
    · subst h1 h2
      refine (check_is (r := askR R k13) hck _ _ (hG'.out.gr hga.out) fa.out hsh.out).mono ?_
      rintro e wg ⟨rfl, gg⟩
      have gz := Lib.hid (hga.out.trans gg)
      clear gg hck
      unfold ckV
      go_wp2_with fail
      refine (wakes_any _ (hG'.out.gr gz.out)).mono ?_
      rintro e wh ⟨rfl, gh⟩
      go_wp2
      go_ret
      exact ⟨rfl, gz.out.trans gh⟩
    · subst h1
      have hv : (ver == 11) = false := beq_eq_false_iff_ne.2 h2
      refine (check_is (r := ⟨kGET, [47, 119, 115], [], ver, askFs R k13, [], false⟩) (check_third (fun h => h2 h.2)) _ _ (hG'.out.gr hga.out) fa.out hsh.out).mono ?_
      rintro e wg ⟨rfl, gg⟩
      have gz := Lib.hid (hga.out.trans gg)
      clear gg hck h2
      unfold ckV
      go_wp2_with fail
      refine (wakes_any _ (hG'.out.gr gz.out)).mono ?_
      rintro e wh ⟨rfl, gh⟩
      go_wp2
      go_ret
      exact ⟨rfl, gz.out.trans gh⟩
  · have hv : (m == [71, 69, 84]) = false := beq_eq_false_iff_ne.2 h1
    refine (check_is (r := ⟨m, [47, 119, 115], [], ver, askFs R k13, [], false⟩) (check_third (fun h => h1 h.1)) _ _ (hG'.out.gr hga.out) fa.out hsh.out).mono ?_
    rintro e wg ⟨rfl, gg⟩
    have gz := Lib.hid (hga.out.trans gg)
    clear gg hck h1
    unfold ckV
    go_wp2_with fail
    refine (wakes_any _ (hG'.out.gr gz.out)).mono ?_
    rintro e wh ⟨rfl, gh⟩
    go_wp2
    go_ret
    exact ⟨rfl, gz.out.trans gh⟩
end Go.Proofs.YtheihlalgekojaaDoor
namespace Go.Proofs.YtheihlalgekojaaDoor
open Go.RowKit
attribute [local go_sem] Oper.semAt_some
set_option maxHeartbeats 16000000 in
set_option maxRecDepth 20000 in
theorem lacks2_any (k : List UInt8) (x : UInt8) (m : List UInt8) (ver : Int) (hm : m.length ≤ 9223372036854775807) (hk : k.length = 16) (hx : x.toNat % 5 = 2) (w : World) (hG : G w) :
    Calls Tryd.prog 5 #[.agg (bcells k).toArray, .int .u8 x.toNat, .string ⟨m.toArray⟩, .int .i64 ver] w fun e w' => e = .returned (.bool true) ∧ Gr w w' := by
  have hG' := Lib.hid hG
  clear hG
  have hA : (bcells k).toArray.size = 16 := by simp [bcells_len, hk]
  have hb0 := Lib.hid (bat_new w k 35)
  obtain ⟨A, hAe⟩ : ∃ A, (bcells k).toArray = A := ⟨_, rfl⟩
  rw [hAe] at hA hb0 ⊢
  clear hAe
  have hk' := Lib.hid hk
  clear hk
  go_enter Tryd.func5, Tryd.ntmps5
  go_wp2_with fail
  refine (asks_made _).mono ?_
  rintro e w1 ⟨b1, hb1, rfl, hf1, hz1, ho1, g1⟩
  rw [World.size_alloc] at hb1
  have g1' := Lib.hid ((Gr.alloc w _).trans g1)
  replace hb0 := Lib.hid (hb0.out.gr g1)
  have hoo := Lib.hid ho1
  clear ho1
  have hl1 : b1 < w1.heap.size := cell_lt (hf1 0 (by decide)).1
  have hbb := Lib.hid hb1
  clear g1 hb1
  unfold Rq.V askR
  go_upto_region 8 with (fail)
  have q0 := Lib.hid (reqAt_new w1 kGET [47, 119, 115] [] 11 (.slice (some ⟨b1, 0, none⟩) 5 5) [] false 27)
  have g2 := Gr.alloc w1 (.cells #[.string ⟨kGET.toArray⟩, .string ⟨#[47, 119, 115]⟩, .string ⟨#[]⟩, .int .i64 11, .slice (some ⟨b1, 0, none⟩) 5 5, .string ⟨#[]⟩, .bool false] 27)
  generalize hw2 : w1.alloc (.cells #[.string ⟨kGET.toArray⟩, .string ⟨#[47, 119, 115]⟩, .string ⟨#[]⟩, .int .i64 11, .slice (some ⟨b1, 0, none⟩) 5 5, .string ⟨#[]⟩, .bool false] 27) = w2
  have q1 : ReqAt w1.heap.size w2 kGET [47, 119, 115] [] 11 (.slice (some ⟨b1, 0, none⟩) 5 5) [] false := hw2 ▸ q0.out
  rw [hw2] at g2
  clear hw2 q0
  have n4 : ∀ y : Later (Gr w2), y.w.cell? ⟨w1.heap.size, 4, none⟩ = some (.slice (some ⟨b1, 0, none⟩) 5 5) := fun y => y.ok.cell q1.c4
  have hc : ∀ y : Later (Gr w2), (convert 37 9 (.slice (some ⟨w.heap.size, 0, none⟩) 16 16)).run Tryd.prog y.w = .ok (.string ⟨k.toArray⟩) y.w := fun y => (hb0.out.gr (g2.trans y.ok)).conv 16 16 hk'.out
  obtain ⟨R, hR⟩ : ∃ R, encL k = R := ⟨_, rfl⟩
  have hR' := Lib.hid hR
  have hkl := Lib.hid (show k.length ≤ 900000 by have := hk'.out; omega)
  clear hR
  haveI : Nonempty (Later (Gr w2)) := ⟨⟨w2, Gr.refl w2⟩⟩
  refine wp_region_later_tail (C := Gr w2) 7 (by kernel_rfl) (by kernel_rfl) (Gr.drew' _) ?_
  simp only [List.take_succ_cons, List.take_zero, List.drop_succ_cons, List.drop_zero]
  repeat (go_big_quiet_step (first | with_reducible exact encode_later _ (fun _ _ a b => Gr.trans a b) hR'.out hkl.out _))
  refine wpQuiet_nil ?_
  intro w3 hg3
  have g3 := Lib.hid (g1'.out.trans (g2.trans hg3))
  have hf3 := Lib.hid (hf1.gr (g2.trans hg3))
  have q3 := Lib.hid (q1.gr hg3)
  have hz3 : ∀ o, w3.frozen? ⟨b1, o, none⟩ = false := fun o => (Below.frozen (g2.trans hg3) (p := ⟨b1, o, none⟩) hl1).trans (hz1 o)
  have e7 : w3.cell? ⟨b1, 7, none⟩ = some (.string ⟨keyL.toArray⟩) := (hf3.out 3 (by decide)).2
  have z7 := hz3 7
  have hne : w1.heap.size ≠ b1 := by omega
  have ho3 := Lib.hid (hoo.out.gr (g2.trans hg3))
  have p0 := q3.out.c0
  have p1 := q3.out.c1
  have p2 := q3.out.c2
  have p3 := q3.out.c3
  have p4 := q3.out.c4
  have p5 := q3.out.c5
  have p6 := q3.out.c6
  have hb1 := hbb.out
  have hbw := Lib.hid (show w.heap.size ≤ b1 by omega)
  clear n4 hc hf1 hz1 g1' q1 g2 hg3 hb0 hz3 hb1
  go_wp2_with fail
  have g4 := Lib.hid ((g3.out.setCell (p := ⟨b1, 7, none⟩) hbw.out (.string ⟨R.toArray⟩)))
  have hf4 : FTab b1 (w3.setCell ⟨b1, 7, none⟩ (.string ⟨R.toArray⟩)) (askFs R k13) := hf3.out.setv 3 (by decide) R
  have q4 := Lib.hid ((q3.out.put (a := ⟨b1, 7, none⟩) (fun e => hne e.symm) (.string ⟨R.toArray⟩)))
  have hck := check_ask (key := R) k13 (by rw [← hR'.out]; exact dec_enc k) hk'.out
  have hRl : R.length ≤ 800000 := by rw [← hR'.out, encL_len _ _ (Nat.le_refl _), hk'.out]; decide
  have hRs := Lib.hid hRl
  have hsh := Lib.hid (short_ask R k13 hRl (by decide))
  obtain ⟨w4, hw4⟩ : ∃ W, w3.setCell ⟨b1, 7, none⟩ (.string ⟨R.toArray⟩) = W := ⟨_, rfl⟩
  rw [hw4] at g4 hf4 q4 ⊢
  have hw4h := hw4
  have hf4' := Lib.hid hf4
  clear hw4 hf4 g3 hf3 q3 e7 z7 p0 p1 p2 p3 p4 p5 p6 hRl
  have ho4 : Hid (OwnF b1 w4 (.slice (some ⟨b1, 0, none⟩) 5 5) (askFs R k13)) := Lib.hid (hw4h ▸ ho3.out.setv3)
  rw [if_pos rfl] at hck
  have haa := accept_len R
  obtain ⟨aa, haE⟩ : ∃ aa, acceptL R = aa := ⟨_, rfl⟩
  rw [haE] at haa hck
  clear haE
  refine (check_is (r := askR R k13) hck _ _ (hG'.out.gr g4.out) (hf4'.out.at 5) hsh.out).mono ?_
  rintro e w5 ⟨rfl, hg⟩
  have g5 := Lib.hid (g4.out.trans hg)
  have q5 := Lib.hid (q4.out.gr hg)
  have hf5 := Lib.hid (hf4'.out.gr hg)
  have p0 := q5.out.c0
  have p1 := q5.out.c1
  have p2 := q5.out.c2
  have p3 := q5.out.c3
  have p4 := q5.out.c4
  have p5 := q5.out.c5
  have p6 := q5.out.c6
  have hc28 : ((aa.length : Int) != 28) = false := by rw [haa]; rfl
  have hrem : (x.toNat : Int) % 5 = 2 := by omega
  have hrem2 : (x.toNat : Int).tmod 5 = 2 := by rw [Int.tmod_eq_emod_of_nonneg (by omega)]; exact hrem
  have hg5 := Lib.hid hg
  clear hg hck q4 hf4' g4
  unfold ckV
  go_upto_region 14 with (fail)
  have ho5 := Lib.hid (ho4.out.gr hg5.out)
  have hb5 : b1 < w5.heap.size := by have h1 : w1.heap.size < w5.heap.size := cell_lt p0; omega
  have g6 := Gr.alloc w5 (.cells #[.string ⟨kGET.toArray⟩, .string ⟨#[47, 119, 115]⟩, .string ⟨#[]⟩, .int .i64 11, .slice (some ⟨b1, 0, none⟩) 5 5, .string ⟨#[]⟩, .bool false] 27)
  have l6 := reqAt_new w5 kGET [47, 119, 115] [] 11 (.slice (some ⟨b1, 0, none⟩) 5 5) [] false 27
  generalize hw6 : w5.alloc (.cells #[.string ⟨kGET.toArray⟩, .string ⟨#[47, 119, 115]⟩, .string ⟨#[]⟩, .int .i64 11, .slice (some ⟨b1, 0, none⟩) 5 5, .string ⟨#[]⟩, .bool false] 27) = w6
  rw [show w5.alloc (.cells #[.string ⟨kGET.toArray⟩, .string ⟨[47, 119, 115].toArray⟩, .string ⟨[].toArray⟩, .int .i64 11, .slice (some ⟨b1, 0, none⟩) 5 5, .string ⟨[].toArray⟩, .bool false] 27) = w6 from hw6] at l6
  rw [hw6] at g6
  have hS := Lib.hid (fun (W : World) (hg : Gr w5 W) => (show W.cell? ⟨w1.heap.size, 4, none⟩ = some (.slice (some ⟨b1, 0, none⟩) 5 5) ∧ Gr w5 W from ⟨hg.cell p4, hg⟩))
  have hg56 := Lib.hid g6
  have hFT := Lib.hid (fun (W : World) (hg : Gr w6 W) => hf5.out.gr (g6.trans hg))
  have l6b := l6.c0
  have hL := Lib.hid (fun (W : World) (hg : Gr w6 W) => l6.gr hg)
  have q4 := g6.cell p4
  clear hw6 l6
  have hr1 : IntKind.i64.wrap ((2 : Int) + 1) = 3 := by decide
  have hr2 : IntKind.i64.wrap (3 : Int) = 3 := by decide
  go_region_held3 (fun w' => w'.cell? ⟨w1.heap.size, 4, none⟩ = some (.slice (some ⟨b1, 0, none⟩) 5 5) ∧ Gr w5 w')
    (first
      | exact hS.out _ hg56.out
      | exact hS.out _ (Gr.drew hg56.out)
      | (refine hS.out _ (Gr.trans hg56.out ?_); assumption)
      | exact hS.out _ (Gr.alloc1 hg56.out _)
      | exact hS.out _ (Gr.drew (Gr.alloc1 hg56.out _))
      | (refine hS.out _ (Gr.setCell (Gr.trans hg56.out ?_) (Nat.le_refl _) _); assumption))
    (first
      | (refine step_fields (by rfl) (.tmp 48) (.tmp 52) (by rfl) w6.heap.size _ [] (by rfl) (ownF_lit0 (Nat.le_refl _)) b1 0 2 5 ((askFs R k13).take 2) (by rfl) (by rfl) ((hFT.out _ (Gr.drew (Gr.alloc1 (Gr.refl _) _))).some_take 2) 2 (by rfl) (by decide) (by simp) ?_; intro p8 cap8 w8 hown8 hb8; have hG8 : Gr w6 w8 := Below.trans (Gr.drew (Gr.alloc1 (Gr.refl _) _)) hb8)
      | (refine step_fields (by rfl) (.tmp 53) (.tmp 58) (by rfl) w6.heap.size _ _ (by rfl) hown8 b1 6 2 2 ((askFs R k13).drop 3) (by rfl) (by rfl) ((hFT.out _ hG8).some_drop 3 6 rfl) 4 (by rfl) (by decide) (Below.size hG8) ?_; intro p9 cap9 w9 hown9 hb9; have hG9 : Gr w6 w9 := Below.trans hG8 hb9; have c9 := (hL.out _ hG9).c4; have z9 := (hL.out _ hG9).fz 4))
  have hne65 : (Value.slice p9 4 cap9).ownBlock ≠ some (⟨w5.heap.size, 4, none⟩ : Addr).block := fun e => by
    have := (World.ownsRow.lt hown9 _ e).1
    have := cell_lt l6b
    dsimp only at *
    omega
  have ff := Lib.hid ((hown9.put hne65 (.slice p9 4 cap9)).at)
  have ll := Lib.hid ((hL.out _ hG9).sets (.slice p9 4 cap9))
  have gg := Lib.hid (show Gr w5 (w9.setCell ⟨w5.heap.size, 4, none⟩ (.slice p9 4 cap9)) from Gr.setCell (Gr.trans hg56.out hG9) (Nat.le_refl _) _)
  generalize w9.setCell ⟨w5.heap.size, 4, none⟩ (.slice p9 4 cap9) = wa at ff ll gg ⊢
  have ff' : FieldsAt wa (.slice p9 4 cap9) (lackFs R 2) := ff.out
  have ffh := Lib.hid ff'
  have e0 := ll.out.c0
  have e1 := ll.out.c1
  have e2 := ll.out.c2
  have e3 := ll.out.c3
  have e4 := ll.out.c4
  have e5 := ll.out.c5
  have e6 := ll.out.c6
  have hlk := lack_check R 2 (by decide)
  have hsl := Lib.hid (show Short (lackFs R 2) from lack_short R hRs.out _)
  clear hown8 hb8 hG8 hown9 hb9 hG9 c9 z9 hne65 ff' ff hFT hL hS hr1 hr2 l6b
  go_wp2_with fail
  refine (check_is (r := askWith (lackFs R 2)) hlk _ _ (hG'.out.gr (g5.out.trans gg.out)) ffh.out hsl.out).mono ?_
  rintro e wb ⟨rfl, gb⟩
  have gb' := Lib.hid (gg.out.trans gb)
  have qb := Lib.hid (q5.out.gr gb'.out)
  have fb := Lib.hid (hf5.out.gr gb'.out)
  have hbb1 : b1 < wb.heap.size := Nat.lt_of_lt_of_le hb5 (Below.size gb'.out)
  clear gb e0 e1 e2 e3 e4 e5 e6 hlk hsl ffh ll gg p0 p1 p2 p3 p4 p5 p6 q4
  have p0 := qb.out.c0
  have p1 := qb.out.c1
  have p2 := qb.out.c2
  have p3 := qb.out.c3
  have p4 := qb.out.c4
  have p5 := qb.out.c5
  have p6 := qb.out.c6
  unfold ckV
  go_upto_region 22 with (fail)
  have g6 := Gr.alloc wb (.cells #[.string ⟨kGET.toArray⟩, .string ⟨#[47, 119, 115]⟩, .string ⟨#[]⟩, .int .i64 11, .slice (some ⟨b1, 0, none⟩) 5 5, .string ⟨#[]⟩, .bool false] 27)
  have l6 := reqAt_new wb kGET [47, 119, 115] [] 11 (.slice (some ⟨b1, 0, none⟩) 5 5) [] false 27
  generalize hw6 : wb.alloc (.cells #[.string ⟨kGET.toArray⟩, .string ⟨#[47, 119, 115]⟩, .string ⟨#[]⟩, .int .i64 11, .slice (some ⟨b1, 0, none⟩) 5 5, .string ⟨#[]⟩, .bool false] 27) = wc
  rw [show wb.alloc (.cells #[.string ⟨kGET.toArray⟩, .string ⟨[47, 119, 115].toArray⟩, .string ⟨[].toArray⟩, .int .i64 11, .slice (some ⟨b1, 0, none⟩) 5 5, .string ⟨[].toArray⟩, .bool false] 27) = wc from hw6] at l6
  rw [hw6] at g6
  obtain ⟨nm, hnm⟩ : ∃ l, ((askFs R k13)[2]'(show 2 < 5 by decide)).1 = l := ⟨_, rfl⟩
  obtain ⟨vl, hvl⟩ : ∃ l, ((askFs R k13)[2]'(show 2 < 5 by decide)).2 = l := ⟨_, rfl⟩
  have a1 : wb.cell? ⟨b1, 4, none⟩ = some (.string ⟨nm.toArray⟩) := hnm ▸ (fb.out 2 (show 2 < 5 by decide)).1
  have a2 : wb.cell? ⟨b1, 5, none⟩ = some (.string ⟨vl.toArray⟩) := hvl ▸ (fb.out 2 (show 2 < 5 by decide)).2
  have hnm' := Lib.hid hnm
  have hvl' := Lib.hid hvl
  have hnl := Lib.hid (show nm.length ≤ 1000000 by rw [← hnm]; show (kConn).length ≤ _; decide)
  have hS := Lib.hid (fun (W : World) (hg : Gr wb W) => (show W.cell? ⟨w1.heap.size, 4, none⟩ = some (.slice (some ⟨b1, 0, none⟩) 5 5) ∧ W.cell? ⟨b1, 4, none⟩ = some (.string ⟨nm.toArray⟩) ∧ W.cell? ⟨b1, 5, none⟩ = some (.string ⟨vl.toArray⟩) ∧ Gr wb W from ⟨hg.cell p4, hg.cell a1, hg.cell a2, hg⟩))
  have hgbc := Lib.hid g6
  have hFT := Lib.hid (fun (W : World) (hg : Gr wc W) => fb.out.gr (g6.trans hg))
  have l6b := l6.c0
  have hL := Lib.hid (fun (W : World) (hg : Gr wc W) => l6.gr hg)
  have q4 := g6.cell p4
  have q5' := g6.cell a1
  have q6 := g6.cell a2
  clear hw6 l6 hnm hvl
  go_region_held3 (fun w' => w'.cell? ⟨w1.heap.size, 4, none⟩ = some (.slice (some ⟨b1, 0, none⟩) 5 5) ∧ w'.cell? ⟨b1, 4, none⟩ = some (.string ⟨nm.toArray⟩) ∧ w'.cell? ⟨b1, 5, none⟩ = some (.string ⟨vl.toArray⟩) ∧ Gr wb w')
    (first
      | exact hS.out _ hgbc.out
      | exact hS.out _ (Gr.drew hgbc.out)
      | (refine hS.out _ (Gr.trans hgbc.out ?_); assumption)
      | exact hS.out _ (Gr.alloc1 hgbc.out _)
      | exact hS.out _ (Gr.drew (Gr.alloc1 hgbc.out _))
      | (refine hS.out _ (Gr.alloc1 (Gr.trans hgbc.out ?_) _); assumption)
      | (refine hS.out _ (Gr.setCell (Gr.trans hgbc.out ?_) (Nat.le_refl _) _); assumption))
    (first
      | (refine step_fields (by rfl) (.tmp 67) (.tmp 69) (by rfl) wc.heap.size _ [] (by rfl) (ownF_lit0 (Nat.le_refl _)) b1 0 5 5 (askFs R k13) (by rfl) (by rfl) ((hFT.out _ (Gr.drew (Gr.alloc1 (Gr.refl _) _))).some_all) 5 (by rfl) (by decide) (by simp) ?_; intro p8 cap8 w8 hown8 hb8; have hG8 : Gr wc w8 := Below.trans (Gr.drew (Gr.alloc1 (Gr.refl _) _)) hb8)
      | (go_simp; go_at_call 12; refine (low_any nm _ hnl.out).mono ?_; rintro e wd ⟨rfl, gd⟩; have hGd : Gr wc wd := Gr.trans hG8 gd; have hownd := OwnF.gr hown8 gd)
      | (refine step_fields (by rfl) (.tmp 70) (.tmp 85) (by rfl) wc.heap.size _ _ (by rfl) (World.ownsRow.alloc hownd _) wd.heap.size 0 1 1 [(nm.map lower, vl)] (by rfl) (by rfl) ((ftab_new wd [(nm.map lower, vl)] 30).some_all) 6 (by rfl) (by decide) (Nat.le_trans (Below.size hGd) (by simp)) ?_; intro p9 cap9 w9 hown9 hb9; have hG9 : Gr wc w9 := Below.trans (Gr.alloc1 hGd _) hb9; have c9 := (hL.out _ hG9).c4; have z9 := (hL.out _ hG9).fz 4))
  have hne65 : (Value.slice p9 6 cap9).ownBlock ≠ some (⟨wb.heap.size, 4, none⟩ : Addr).block := fun e => by
    have := (World.ownsRow.lt hown9 _ e).1
    have := cell_lt l6b
    dsimp only at *
    omega
  have ff := Lib.hid ((hown9.put hne65 (.slice p9 6 cap9)).at)
  have ll := Lib.hid ((hL.out _ hG9).sets (.slice p9 6 cap9))
  have gg := Lib.hid (show Gr wb (w9.setCell ⟨wb.heap.size, 4, none⟩ (.slice p9 6 cap9)) from Gr.setCell (Gr.trans hgbc.out hG9) (Nat.le_refl _) _)
  generalize w9.setCell ⟨wb.heap.size, 4, none⟩ (.slice p9 6 cap9) = wa at ff ll gg ⊢
  have htw : askFs R k13 ++ [(nm.map lower, vl)] = twiceFs R 2 (by decide) := by unfold twiceFs; rw [← hnm'.out, ← hvl'.out]
  have ff' : FieldsAt wa (.slice p9 6 cap9) (askFs R k13 ++ [(nm.map lower, vl)]) := ff.out
  rw [htw] at ff'
  have ffh := Lib.hid ff'
  have e0 := ll.out.c0
  have e1 := ll.out.c1
  have e2 := ll.out.c2
  have e3 := ll.out.c3
  have e4 := ll.out.c4
  have e5 := ll.out.c5
  have e6 := ll.out.c6
  have hlk := twice_check (R := R) (by rw [← hR'.out]; exact dec_enc k) hk'.out 2 (by decide)
  rw [if_pos (by decide)] at hlk
  have hsl := Lib.hid (show Short (twiceFs R 2 (by decide)) from twice_short R hRs.out _ _)
  clear hown8 hb8 hG8 hown9 hb9 hG9 c9 z9 hne65 ff' ff hFT hL hS l6b htw hnm' hvl' hnl hownd hGd gd a1 a2 q5' q6 q4
  go_wp2_with fail
  refine (check_is (r := askWith (twiceFs R 2 (by decide))) hlk _ _ (hG'.out.gr (g5.out.trans (gb'.out.trans gg.out))) ffh.out hsl.out).mono ?_
  rintro e we ⟨rfl, ge⟩
  have ge' := Lib.hid (gb'.out.trans (gg.out.trans ge))
  have qe := Lib.hid (q5.out.gr ge'.out)
  have fe := Lib.hid (hf5.out.gr ge'.out)
  clear ge e0 e1 e2 e3 e4 e5 e6 hlk hsl ffh ll gg p0 p1 p2 p3 p4 p5 p6
  have p0 := qe.out.c0
  have p1 := qe.out.c1
  have p2 := qe.out.c2
  have p3 := qe.out.c3
  have p4 := qe.out.c4
  have p5 := qe.out.c5
  have p6 := qe.out.c6
  unfold ckV
  go_wp2_with fail
  have hga := Lib.hid (show Gr w (we.alloc (.cells #[.string ⟨m.toArray⟩, .string ⟨#[47, 119, 115]⟩, .string ⟨#[]⟩, .int .i64 ver, .slice (some ⟨b1, 0, none⟩) 5 5, .string ⟨#[]⟩, .bool false] 27)) from (g5.out.trans ge'.out).alloc1 _)
  have fa := Lib.hid ((fe.out.gr (Gr.alloc we (.cells #[.string ⟨m.toArray⟩, .string ⟨#[47, 119, 115]⟩, .string ⟨#[]⟩, .int .i64 ver, .slice (some ⟨b1, 0, none⟩) 5 5, .string ⟨#[]⟩, .bool false] 27))).at 5)
  generalize we.alloc (.cells #[.string ⟨m.toArray⟩, .string ⟨#[47, 119, 115]⟩, .string ⟨#[]⟩, .int .i64 ver, .slice (some ⟨b1, 0, none⟩) 5 5, .string ⟨#[]⟩, .bool false] 27) = wf at hga fa ⊢
  have hck := check_ask (key := R) k13 (by rw [← hR'.out]; exact dec_enc k) hk'.out
  rw [if_pos rfl] at hck
  have hsh := Lib.hid (short_ask R k13 hRs.out (by decide))
  clear p0 p1 p2 p3 p4 p5 p6 fe qe
  by_cases h1 : m = kGET
  · by_cases h2 : ver = 11
    · subst h1 h2
      refine (check_is (r := askR R k13) hck _ _ (hG'.out.gr hga.out) fa.out hsh.out).mono ?_
      rintro e wg ⟨rfl, gg⟩
      have gz := Lib.hid (hga.out.trans gg)
      clear gg hck
      unfold ckV
      go_wp2_with fail
      refine (wakes_any _ (hG'.out.gr gz.out)).mono ?_
      rintro e wh ⟨rfl, gh⟩
      go_wp2
      go_ret
      exact ⟨rfl, gz.out.trans gh⟩
    · subst h1
      have hv : (ver == 11) = false := beq_eq_false_iff_ne.2 h2
      refine (check_is (r := ⟨kGET, [47, 119, 115], [], ver, askFs R k13, [], false⟩) (check_third (fun h => h2 h.2)) _ _ (hG'.out.gr hga.out) fa.out hsh.out).mono ?_
      rintro e wg ⟨rfl, gg⟩
      have gz := Lib.hid (hga.out.trans gg)
      clear gg hck h2
      unfold ckV
      go_wp2_with fail
      refine (wakes_any _ (hG'.out.gr gz.out)).mono ?_
      rintro e wh ⟨rfl, gh⟩
      go_wp2
      go_ret
      exact ⟨rfl, gz.out.trans gh⟩
  · have hv : (m == [71, 69, 84]) = false := beq_eq_false_iff_ne.2 h1
    refine (check_is (r := ⟨m, [47, 119, 115], [], ver, askFs R k13, [], false⟩) (check_third (fun h => h1 h.1)) _ _ (hG'.out.gr hga.out) fa.out hsh.out).mono ?_
    rintro e wg ⟨rfl, gg⟩
    have gz := Lib.hid (hga.out.trans gg)
    clear gg hck h1
    unfold ckV
    go_wp2_with fail
    refine (wakes_any _ (hG'.out.gr gz.out)).mono ?_
    rintro e wh ⟨rfl, gh⟩
    go_wp2
    go_ret
    exact ⟨rfl, gz.out.trans gh⟩
end Go.Proofs.YtheihlalgekojaaDoor
namespace Go.Proofs.YtheihlalgekojaaDoor
open Go.RowKit
attribute [local go_sem] Oper.semAt_some
set_option maxHeartbeats 16000000 in
set_option maxRecDepth 20000 in
theorem lacks3_any (k : List UInt8) (x : UInt8) (m : List UInt8) (ver : Int) (hm : m.length ≤ 9223372036854775807) (hk : k.length = 16) (hx : x.toNat % 5 = 3) (w : World) (hG : G w) :
    Calls Tryd.prog 5 #[.agg (bcells k).toArray, .int .u8 x.toNat, .string ⟨m.toArray⟩, .int .i64 ver] w fun e w' => e = .returned (.bool true) ∧ Gr w w' := by
  have hG' := Lib.hid hG
  clear hG
  have hA : (bcells k).toArray.size = 16 := by simp [bcells_len, hk]
  have hb0 := Lib.hid (bat_new w k 35)
  obtain ⟨A, hAe⟩ : ∃ A, (bcells k).toArray = A := ⟨_, rfl⟩
  rw [hAe] at hA hb0 ⊢
  clear hAe
  have hk' := Lib.hid hk
  clear hk
  go_enter Tryd.func5, Tryd.ntmps5
  go_wp2_with fail
  refine (asks_made _).mono ?_
  rintro e w1 ⟨b1, hb1, rfl, hf1, hz1, ho1, g1⟩
  rw [World.size_alloc] at hb1
  have g1' := Lib.hid ((Gr.alloc w _).trans g1)
  replace hb0 := Lib.hid (hb0.out.gr g1)
  have hoo := Lib.hid ho1
  clear ho1
  have hl1 : b1 < w1.heap.size := cell_lt (hf1 0 (by decide)).1
  have hbb := Lib.hid hb1
  clear g1 hb1
  unfold Rq.V askR
  go_upto_region 8 with (fail)
  have q0 := Lib.hid (reqAt_new w1 kGET [47, 119, 115] [] 11 (.slice (some ⟨b1, 0, none⟩) 5 5) [] false 27)
  have g2 := Gr.alloc w1 (.cells #[.string ⟨kGET.toArray⟩, .string ⟨#[47, 119, 115]⟩, .string ⟨#[]⟩, .int .i64 11, .slice (some ⟨b1, 0, none⟩) 5 5, .string ⟨#[]⟩, .bool false] 27)
  generalize hw2 : w1.alloc (.cells #[.string ⟨kGET.toArray⟩, .string ⟨#[47, 119, 115]⟩, .string ⟨#[]⟩, .int .i64 11, .slice (some ⟨b1, 0, none⟩) 5 5, .string ⟨#[]⟩, .bool false] 27) = w2
  have q1 : ReqAt w1.heap.size w2 kGET [47, 119, 115] [] 11 (.slice (some ⟨b1, 0, none⟩) 5 5) [] false := hw2 ▸ q0.out
  rw [hw2] at g2
  clear hw2 q0
  have n4 : ∀ y : Later (Gr w2), y.w.cell? ⟨w1.heap.size, 4, none⟩ = some (.slice (some ⟨b1, 0, none⟩) 5 5) := fun y => y.ok.cell q1.c4
  have hc : ∀ y : Later (Gr w2), (convert 37 9 (.slice (some ⟨w.heap.size, 0, none⟩) 16 16)).run Tryd.prog y.w = .ok (.string ⟨k.toArray⟩) y.w := fun y => (hb0.out.gr (g2.trans y.ok)).conv 16 16 hk'.out
  obtain ⟨R, hR⟩ : ∃ R, encL k = R := ⟨_, rfl⟩
  have hR' := Lib.hid hR
  have hkl := Lib.hid (show k.length ≤ 900000 by have := hk'.out; omega)
  clear hR
  haveI : Nonempty (Later (Gr w2)) := ⟨⟨w2, Gr.refl w2⟩⟩
  refine wp_region_later_tail (C := Gr w2) 7 (by kernel_rfl) (by kernel_rfl) (Gr.drew' _) ?_
  simp only [List.take_succ_cons, List.take_zero, List.drop_succ_cons, List.drop_zero]
  repeat (go_big_quiet_step (first | with_reducible exact encode_later _ (fun _ _ a b => Gr.trans a b) hR'.out hkl.out _))
  refine wpQuiet_nil ?_
  intro w3 hg3
  have g3 := Lib.hid (g1'.out.trans (g2.trans hg3))
  have hf3 := Lib.hid (hf1.gr (g2.trans hg3))
  have q3 := Lib.hid (q1.gr hg3)
  have hz3 : ∀ o, w3.frozen? ⟨b1, o, none⟩ = false := fun o => (Below.frozen (g2.trans hg3) (p := ⟨b1, o, none⟩) hl1).trans (hz1 o)
  have e7 : w3.cell? ⟨b1, 7, none⟩ = some (.string ⟨keyL.toArray⟩) := (hf3.out 3 (by decide)).2
  have z7 := hz3 7
  have hne : w1.heap.size ≠ b1 := by omega
  have ho3 := Lib.hid (hoo.out.gr (g2.trans hg3))
  have p0 := q3.out.c0
  have p1 := q3.out.c1
  have p2 := q3.out.c2
  have p3 := q3.out.c3
  have p4 := q3.out.c4
  have p5 := q3.out.c5
  have p6 := q3.out.c6
  have hb1 := hbb.out
  have hbw := Lib.hid (show w.heap.size ≤ b1 by omega)
  clear n4 hc hf1 hz1 g1' q1 g2 hg3 hb0 hz3 hb1
  go_wp2_with fail
  have g4 := Lib.hid ((g3.out.setCell (p := ⟨b1, 7, none⟩) hbw.out (.string ⟨R.toArray⟩)))
  have hf4 : FTab b1 (w3.setCell ⟨b1, 7, none⟩ (.string ⟨R.toArray⟩)) (askFs R k13) := hf3.out.setv 3 (by decide) R
  have q4 := Lib.hid ((q3.out.put (a := ⟨b1, 7, none⟩) (fun e => hne e.symm) (.string ⟨R.toArray⟩)))
  have hck := check_ask (key := R) k13 (by rw [← hR'.out]; exact dec_enc k) hk'.out
  have hRl : R.length ≤ 800000 := by rw [← hR'.out, encL_len _ _ (Nat.le_refl _), hk'.out]; decide
  have hRs := Lib.hid hRl
  have hsh := Lib.hid (short_ask R k13 hRl (by decide))
  obtain ⟨w4, hw4⟩ : ∃ W, w3.setCell ⟨b1, 7, none⟩ (.string ⟨R.toArray⟩) = W := ⟨_, rfl⟩
  rw [hw4] at g4 hf4 q4 ⊢
  have hw4h := hw4
  have hf4' := Lib.hid hf4
  clear hw4 hf4 g3 hf3 q3 e7 z7 p0 p1 p2 p3 p4 p5 p6 hRl
  have ho4 : Hid (OwnF b1 w4 (.slice (some ⟨b1, 0, none⟩) 5 5) (askFs R k13)) := Lib.hid (hw4h ▸ ho3.out.setv3)
  rw [if_pos rfl] at hck
  have haa := accept_len R
  obtain ⟨aa, haE⟩ : ∃ aa, acceptL R = aa := ⟨_, rfl⟩
  rw [haE] at haa hck
  clear haE
  refine (check_is (r := askR R k13) hck _ _ (hG'.out.gr g4.out) (hf4'.out.at 5) hsh.out).mono ?_
  rintro e w5 ⟨rfl, hg⟩
  have g5 := Lib.hid (g4.out.trans hg)
  have q5 := Lib.hid (q4.out.gr hg)
  have hf5 := Lib.hid (hf4'.out.gr hg)
  have p0 := q5.out.c0
  have p1 := q5.out.c1
  have p2 := q5.out.c2
  have p3 := q5.out.c3
  have p4 := q5.out.c4
  have p5 := q5.out.c5
  have p6 := q5.out.c6
  have hc28 : ((aa.length : Int) != 28) = false := by rw [haa]; rfl
  have hrem : (x.toNat : Int) % 5 = 3 := by omega
  have hrem2 : (x.toNat : Int).tmod 5 = 3 := by rw [Int.tmod_eq_emod_of_nonneg (by omega)]; exact hrem
  have hg5 := Lib.hid hg
  clear hg hck q4 hf4' g4
  unfold ckV
  go_upto_region 14 with (fail)
  have ho5 := Lib.hid (ho4.out.gr hg5.out)
  have hb5 : b1 < w5.heap.size := by have h1 : w1.heap.size < w5.heap.size := cell_lt p0; omega
  have g6 := Gr.alloc w5 (.cells #[.string ⟨kGET.toArray⟩, .string ⟨#[47, 119, 115]⟩, .string ⟨#[]⟩, .int .i64 11, .slice (some ⟨b1, 0, none⟩) 5 5, .string ⟨#[]⟩, .bool false] 27)
  have l6 := reqAt_new w5 kGET [47, 119, 115] [] 11 (.slice (some ⟨b1, 0, none⟩) 5 5) [] false 27
  generalize hw6 : w5.alloc (.cells #[.string ⟨kGET.toArray⟩, .string ⟨#[47, 119, 115]⟩, .string ⟨#[]⟩, .int .i64 11, .slice (some ⟨b1, 0, none⟩) 5 5, .string ⟨#[]⟩, .bool false] 27) = w6
  rw [show w5.alloc (.cells #[.string ⟨kGET.toArray⟩, .string ⟨[47, 119, 115].toArray⟩, .string ⟨[].toArray⟩, .int .i64 11, .slice (some ⟨b1, 0, none⟩) 5 5, .string ⟨[].toArray⟩, .bool false] 27) = w6 from hw6] at l6
  rw [hw6] at g6
  have hS := Lib.hid (fun (W : World) (hg : Gr w5 W) => (show W.cell? ⟨w1.heap.size, 4, none⟩ = some (.slice (some ⟨b1, 0, none⟩) 5 5) ∧ Gr w5 W from ⟨hg.cell p4, hg⟩))
  have hg56 := Lib.hid g6
  have hFT := Lib.hid (fun (W : World) (hg : Gr w6 W) => hf5.out.gr (g6.trans hg))
  have l6b := l6.c0
  have hL := Lib.hid (fun (W : World) (hg : Gr w6 W) => l6.gr hg)
  have q4 := g6.cell p4
  clear hw6 l6
  have hr1 : IntKind.i64.wrap ((3 : Int) + 1) = 4 := by decide
  have hr2 : IntKind.i64.wrap (4 : Int) = 4 := by decide
  go_region_held3 (fun w' => w'.cell? ⟨w1.heap.size, 4, none⟩ = some (.slice (some ⟨b1, 0, none⟩) 5 5) ∧ Gr w5 w')
    (first
      | exact hS.out _ hg56.out
      | exact hS.out _ (Gr.drew hg56.out)
      | (refine hS.out _ (Gr.trans hg56.out ?_); assumption)
      | exact hS.out _ (Gr.alloc1 hg56.out _)
      | exact hS.out _ (Gr.drew (Gr.alloc1 hg56.out _))
      | (refine hS.out _ (Gr.setCell (Gr.trans hg56.out ?_) (Nat.le_refl _) _); assumption))
    (first
      | (refine step_fields (by rfl) (.tmp 48) (.tmp 52) (by rfl) w6.heap.size _ [] (by rfl) (ownF_lit0 (Nat.le_refl _)) b1 0 3 5 ((askFs R k13).take 3) (by rfl) (by rfl) ((hFT.out _ (Gr.drew (Gr.alloc1 (Gr.refl _) _))).some_take 3) 3 (by rfl) (by decide) (by simp) ?_; intro p8 cap8 w8 hown8 hb8; have hG8 : Gr w6 w8 := Below.trans (Gr.drew (Gr.alloc1 (Gr.refl _) _)) hb8)
      | (refine step_fields (by rfl) (.tmp 53) (.tmp 58) (by rfl) w6.heap.size _ _ (by rfl) hown8 b1 8 1 1 ((askFs R k13).drop 4) (by rfl) (by rfl) ((hFT.out _ hG8).some_drop 4 8 rfl) 4 (by rfl) (by decide) (Below.size hG8) ?_; intro p9 cap9 w9 hown9 hb9; have hG9 : Gr w6 w9 := Below.trans hG8 hb9; have c9 := (hL.out _ hG9).c4; have z9 := (hL.out _ hG9).fz 4))
  have hne65 : (Value.slice p9 4 cap9).ownBlock ≠ some (⟨w5.heap.size, 4, none⟩ : Addr).block := fun e => by
    have := (World.ownsRow.lt hown9 _ e).1
    have := cell_lt l6b
    dsimp only at *
    omega
  have ff := Lib.hid ((hown9.put hne65 (.slice p9 4 cap9)).at)
  have ll := Lib.hid ((hL.out _ hG9).sets (.slice p9 4 cap9))
  have gg := Lib.hid (show Gr w5 (w9.setCell ⟨w5.heap.size, 4, none⟩ (.slice p9 4 cap9)) from Gr.setCell (Gr.trans hg56.out hG9) (Nat.le_refl _) _)
  generalize w9.setCell ⟨w5.heap.size, 4, none⟩ (.slice p9 4 cap9) = wa at ff ll gg ⊢
  have ff' : FieldsAt wa (.slice p9 4 cap9) (lackFs R 3) := ff.out
  have ffh := Lib.hid ff'
  have e0 := ll.out.c0
  have e1 := ll.out.c1
  have e2 := ll.out.c2
  have e3 := ll.out.c3
  have e4 := ll.out.c4
  have e5 := ll.out.c5
  have e6 := ll.out.c6
  have hlk := lack_check R 3 (by decide)
  have hsl := Lib.hid (show Short (lackFs R 3) from lack_short R hRs.out _)
  clear hown8 hb8 hG8 hown9 hb9 hG9 c9 z9 hne65 ff' ff hFT hL hS hr1 hr2 l6b
  go_wp2_with fail
  refine (check_is (r := askWith (lackFs R 3)) hlk _ _ (hG'.out.gr (g5.out.trans gg.out)) ffh.out hsl.out).mono ?_
  rintro e wb ⟨rfl, gb⟩
  have gb' := Lib.hid (gg.out.trans gb)
  have qb := Lib.hid (q5.out.gr gb'.out)
  have fb := Lib.hid (hf5.out.gr gb'.out)
  have hbb1 : b1 < wb.heap.size := Nat.lt_of_lt_of_le hb5 (Below.size gb'.out)
  clear gb e0 e1 e2 e3 e4 e5 e6 hlk hsl ffh ll gg p0 p1 p2 p3 p4 p5 p6 q4
  have p0 := qb.out.c0
  have p1 := qb.out.c1
  have p2 := qb.out.c2
  have p3 := qb.out.c3
  have p4 := qb.out.c4
  have p5 := qb.out.c5
  have p6 := qb.out.c6
  unfold ckV
  go_upto_region 22 with (fail)
  have g6 := Gr.alloc wb (.cells #[.string ⟨kGET.toArray⟩, .string ⟨#[47, 119, 115]⟩, .string ⟨#[]⟩, .int .i64 11, .slice (some ⟨b1, 0, none⟩) 5 5, .string ⟨#[]⟩, .bool false] 27)
  have l6 := reqAt_new wb kGET [47, 119, 115] [] 11 (.slice (some ⟨b1, 0, none⟩) 5 5) [] false 27
  generalize hw6 : wb.alloc (.cells #[.string ⟨kGET.toArray⟩, .string ⟨#[47, 119, 115]⟩, .string ⟨#[]⟩, .int .i64 11, .slice (some ⟨b1, 0, none⟩) 5 5, .string ⟨#[]⟩, .bool false] 27) = wc
  rw [show wb.alloc (.cells #[.string ⟨kGET.toArray⟩, .string ⟨[47, 119, 115].toArray⟩, .string ⟨[].toArray⟩, .int .i64 11, .slice (some ⟨b1, 0, none⟩) 5 5, .string ⟨[].toArray⟩, .bool false] 27) = wc from hw6] at l6
  rw [hw6] at g6
  obtain ⟨nm, hnm⟩ : ∃ l, ((askFs R k13)[3]'(show 3 < 5 by decide)).1 = l := ⟨_, rfl⟩
  obtain ⟨vl, hvl⟩ : ∃ l, ((askFs R k13)[3]'(show 3 < 5 by decide)).2 = l := ⟨_, rfl⟩
  have a1 : wb.cell? ⟨b1, 6, none⟩ = some (.string ⟨nm.toArray⟩) := hnm ▸ (fb.out 3 (show 3 < 5 by decide)).1
  have a2 : wb.cell? ⟨b1, 7, none⟩ = some (.string ⟨vl.toArray⟩) := hvl ▸ (fb.out 3 (show 3 < 5 by decide)).2
  have hnm' := Lib.hid hnm
  have hvl' := Lib.hid hvl
  have hnl := Lib.hid (show nm.length ≤ 1000000 by rw [← hnm]; show (kKey).length ≤ _; decide)
  have hS := Lib.hid (fun (W : World) (hg : Gr wb W) => (show W.cell? ⟨w1.heap.size, 4, none⟩ = some (.slice (some ⟨b1, 0, none⟩) 5 5) ∧ W.cell? ⟨b1, 6, none⟩ = some (.string ⟨nm.toArray⟩) ∧ W.cell? ⟨b1, 7, none⟩ = some (.string ⟨vl.toArray⟩) ∧ Gr wb W from ⟨hg.cell p4, hg.cell a1, hg.cell a2, hg⟩))
  have hgbc := Lib.hid g6
  have hFT := Lib.hid (fun (W : World) (hg : Gr wc W) => fb.out.gr (g6.trans hg))
  have l6b := l6.c0
  have hL := Lib.hid (fun (W : World) (hg : Gr wc W) => l6.gr hg)
  have q4 := g6.cell p4
  have q5' := g6.cell a1
  have q6 := g6.cell a2
  clear hw6 l6 hnm hvl
  go_region_held3 (fun w' => w'.cell? ⟨w1.heap.size, 4, none⟩ = some (.slice (some ⟨b1, 0, none⟩) 5 5) ∧ w'.cell? ⟨b1, 6, none⟩ = some (.string ⟨nm.toArray⟩) ∧ w'.cell? ⟨b1, 7, none⟩ = some (.string ⟨vl.toArray⟩) ∧ Gr wb w')
    (first
      | exact hS.out _ hgbc.out
      | exact hS.out _ (Gr.drew hgbc.out)
      | (refine hS.out _ (Gr.trans hgbc.out ?_); assumption)
      | exact hS.out _ (Gr.alloc1 hgbc.out _)
      | exact hS.out _ (Gr.drew (Gr.alloc1 hgbc.out _))
      | (refine hS.out _ (Gr.alloc1 (Gr.trans hgbc.out ?_) _); assumption)
      | (refine hS.out _ (Gr.setCell (Gr.trans hgbc.out ?_) (Nat.le_refl _) _); assumption))
    (first
      | (refine step_fields (by rfl) (.tmp 67) (.tmp 69) (by rfl) wc.heap.size _ [] (by rfl) (ownF_lit0 (Nat.le_refl _)) b1 0 5 5 (askFs R k13) (by rfl) (by rfl) ((hFT.out _ (Gr.drew (Gr.alloc1 (Gr.refl _) _))).some_all) 5 (by rfl) (by decide) (by simp) ?_; intro p8 cap8 w8 hown8 hb8; have hG8 : Gr wc w8 := Below.trans (Gr.drew (Gr.alloc1 (Gr.refl _) _)) hb8)
      | (go_simp; go_at_call 12; refine (low_any nm _ hnl.out).mono ?_; rintro e wd ⟨rfl, gd⟩; have hGd : Gr wc wd := Gr.trans hG8 gd; have hownd := OwnF.gr hown8 gd)
      | (refine step_fields (by rfl) (.tmp 70) (.tmp 85) (by rfl) wc.heap.size _ _ (by rfl) (World.ownsRow.alloc hownd _) wd.heap.size 0 1 1 [(nm.map lower, vl)] (by rfl) (by rfl) ((ftab_new wd [(nm.map lower, vl)] 30).some_all) 6 (by rfl) (by decide) (Nat.le_trans (Below.size hGd) (by simp)) ?_; intro p9 cap9 w9 hown9 hb9; have hG9 : Gr wc w9 := Below.trans (Gr.alloc1 hGd _) hb9; have c9 := (hL.out _ hG9).c4; have z9 := (hL.out _ hG9).fz 4))
  have hne65 : (Value.slice p9 6 cap9).ownBlock ≠ some (⟨wb.heap.size, 4, none⟩ : Addr).block := fun e => by
    have := (World.ownsRow.lt hown9 _ e).1
    have := cell_lt l6b
    dsimp only at *
    omega
  have ff := Lib.hid ((hown9.put hne65 (.slice p9 6 cap9)).at)
  have ll := Lib.hid ((hL.out _ hG9).sets (.slice p9 6 cap9))
  have gg := Lib.hid (show Gr wb (w9.setCell ⟨wb.heap.size, 4, none⟩ (.slice p9 6 cap9)) from Gr.setCell (Gr.trans hgbc.out hG9) (Nat.le_refl _) _)
  generalize w9.setCell ⟨wb.heap.size, 4, none⟩ (.slice p9 6 cap9) = wa at ff ll gg ⊢
  have htw : askFs R k13 ++ [(nm.map lower, vl)] = twiceFs R 3 (by decide) := by unfold twiceFs; rw [← hnm'.out, ← hvl'.out]
  have ff' : FieldsAt wa (.slice p9 6 cap9) (askFs R k13 ++ [(nm.map lower, vl)]) := ff.out
  rw [htw] at ff'
  have ffh := Lib.hid ff'
  have e0 := ll.out.c0
  have e1 := ll.out.c1
  have e2 := ll.out.c2
  have e3 := ll.out.c3
  have e4 := ll.out.c4
  have e5 := ll.out.c5
  have e6 := ll.out.c6
  have hlk := twice_check (R := R) (by rw [← hR'.out]; exact dec_enc k) hk'.out 3 (by decide)
  rw [if_neg (by decide)] at hlk
  have hsl := Lib.hid (show Short (twiceFs R 3 (by decide)) from twice_short R hRs.out _ _)
  clear hown8 hb8 hG8 hown9 hb9 hG9 c9 z9 hne65 ff' ff hFT hL hS l6b htw hnm' hvl' hnl hownd hGd gd a1 a2 q5' q6 q4
  go_wp2_with fail
  refine (check_is (r := askWith (twiceFs R 3 (by decide))) hlk _ _ (hG'.out.gr (g5.out.trans (gb'.out.trans gg.out))) ffh.out hsl.out).mono ?_
  rintro e we ⟨rfl, ge⟩
  have ge' := Lib.hid (gb'.out.trans (gg.out.trans ge))
  have qe := Lib.hid (q5.out.gr ge'.out)
  have fe := Lib.hid (hf5.out.gr ge'.out)
  clear ge e0 e1 e2 e3 e4 e5 e6 hlk hsl ffh ll gg p0 p1 p2 p3 p4 p5 p6
  have p0 := qe.out.c0
  have p1 := qe.out.c1
  have p2 := qe.out.c2
  have p3 := qe.out.c3
  have p4 := qe.out.c4
  have p5 := qe.out.c5
  have p6 := qe.out.c6
  unfold ckV
  go_wp2_with fail
  have hga := Lib.hid (show Gr w (we.alloc (.cells #[.string ⟨m.toArray⟩, .string ⟨#[47, 119, 115]⟩, .string ⟨#[]⟩, .int .i64 ver, .slice (some ⟨b1, 0, none⟩) 5 5, .string ⟨#[]⟩, .bool false] 27)) from (g5.out.trans ge'.out).alloc1 _)
  have fa := Lib.hid ((fe.out.gr (Gr.alloc we (.cells #[.string ⟨m.toArray⟩, .string ⟨#[47, 119, 115]⟩, .string ⟨#[]⟩, .int .i64 ver, .slice (some ⟨b1, 0, none⟩) 5 5, .string ⟨#[]⟩, .bool false] 27))).at 5)
  generalize we.alloc (.cells #[.string ⟨m.toArray⟩, .string ⟨#[47, 119, 115]⟩, .string ⟨#[]⟩, .int .i64 ver, .slice (some ⟨b1, 0, none⟩) 5 5, .string ⟨#[]⟩, .bool false] 27) = wf at hga fa ⊢
  have hck := check_ask (key := R) k13 (by rw [← hR'.out]; exact dec_enc k) hk'.out
  rw [if_pos rfl] at hck
  have hsh := Lib.hid (short_ask R k13 hRs.out (by decide))
  clear p0 p1 p2 p3 p4 p5 p6 fe qe
  by_cases h1 : m = kGET
  · by_cases h2 : ver = 11
    · subst h1 h2
      refine (check_is (r := askR R k13) hck _ _ (hG'.out.gr hga.out) fa.out hsh.out).mono ?_
      rintro e wg ⟨rfl, gg⟩
      have gz := Lib.hid (hga.out.trans gg)
      clear gg hck
      unfold ckV
      go_wp2_with fail
      refine (wakes_any _ (hG'.out.gr gz.out)).mono ?_
      rintro e wh ⟨rfl, gh⟩
      go_wp2
      go_ret
      exact ⟨rfl, gz.out.trans gh⟩
    · subst h1
      have hv : (ver == 11) = false := beq_eq_false_iff_ne.2 h2
      refine (check_is (r := ⟨kGET, [47, 119, 115], [], ver, askFs R k13, [], false⟩) (check_third (fun h => h2 h.2)) _ _ (hG'.out.gr hga.out) fa.out hsh.out).mono ?_
      rintro e wg ⟨rfl, gg⟩
      have gz := Lib.hid (hga.out.trans gg)
      clear gg hck h2
      unfold ckV
      go_wp2_with fail
      refine (wakes_any _ (hG'.out.gr gz.out)).mono ?_
      rintro e wh ⟨rfl, gh⟩
      go_wp2
      go_ret
      exact ⟨rfl, gz.out.trans gh⟩
  · have hv : (m == [71, 69, 84]) = false := beq_eq_false_iff_ne.2 h1
    refine (check_is (r := ⟨m, [47, 119, 115], [], ver, askFs R k13, [], false⟩) (check_third (fun h => h1 h.1)) _ _ (hG'.out.gr hga.out) fa.out hsh.out).mono ?_
    rintro e wg ⟨rfl, gg⟩
    have gz := Lib.hid (hga.out.trans gg)
    clear gg hck h1
    unfold ckV
    go_wp2_with fail
    refine (wakes_any _ (hG'.out.gr gz.out)).mono ?_
    rintro e wh ⟨rfl, gh⟩
    go_wp2
    go_ret
    exact ⟨rfl, gz.out.trans gh⟩
end Go.Proofs.YtheihlalgekojaaDoor
namespace Go.Proofs.YtheihlalgekojaaDoor
open Go.RowKit
attribute [local go_sem] Oper.semAt_some
set_option maxHeartbeats 16000000 in
set_option maxRecDepth 20000 in
theorem lacks4_any (k : List UInt8) (x : UInt8) (m : List UInt8) (ver : Int) (hm : m.length ≤ 9223372036854775807) (hk : k.length = 16) (hx : x.toNat % 5 = 4) (w : World) (hG : G w) :
    Calls Tryd.prog 5 #[.agg (bcells k).toArray, .int .u8 x.toNat, .string ⟨m.toArray⟩, .int .i64 ver] w fun e w' => e = .returned (.bool true) ∧ Gr w w' := by
  have hG' := Lib.hid hG
  clear hG
  have hA : (bcells k).toArray.size = 16 := by simp [bcells_len, hk]
  have hb0 := Lib.hid (bat_new w k 35)
  obtain ⟨A, hAe⟩ : ∃ A, (bcells k).toArray = A := ⟨_, rfl⟩
  rw [hAe] at hA hb0 ⊢
  clear hAe
  have hk' := Lib.hid hk
  clear hk
  go_enter Tryd.func5, Tryd.ntmps5
  go_wp2_with fail
  refine (asks_made _).mono ?_
  rintro e w1 ⟨b1, hb1, rfl, hf1, hz1, ho1, g1⟩
  rw [World.size_alloc] at hb1
  have g1' := Lib.hid ((Gr.alloc w _).trans g1)
  replace hb0 := Lib.hid (hb0.out.gr g1)
  have hoo := Lib.hid ho1
  clear ho1
  have hl1 : b1 < w1.heap.size := cell_lt (hf1 0 (by decide)).1
  have hbb := Lib.hid hb1
  clear g1 hb1
  unfold Rq.V askR
  go_upto_region 8 with (fail)
  have q0 := Lib.hid (reqAt_new w1 kGET [47, 119, 115] [] 11 (.slice (some ⟨b1, 0, none⟩) 5 5) [] false 27)
  have g2 := Gr.alloc w1 (.cells #[.string ⟨kGET.toArray⟩, .string ⟨#[47, 119, 115]⟩, .string ⟨#[]⟩, .int .i64 11, .slice (some ⟨b1, 0, none⟩) 5 5, .string ⟨#[]⟩, .bool false] 27)
  generalize hw2 : w1.alloc (.cells #[.string ⟨kGET.toArray⟩, .string ⟨#[47, 119, 115]⟩, .string ⟨#[]⟩, .int .i64 11, .slice (some ⟨b1, 0, none⟩) 5 5, .string ⟨#[]⟩, .bool false] 27) = w2
  have q1 : ReqAt w1.heap.size w2 kGET [47, 119, 115] [] 11 (.slice (some ⟨b1, 0, none⟩) 5 5) [] false := hw2 ▸ q0.out
  rw [hw2] at g2
  clear hw2 q0
  have n4 : ∀ y : Later (Gr w2), y.w.cell? ⟨w1.heap.size, 4, none⟩ = some (.slice (some ⟨b1, 0, none⟩) 5 5) := fun y => y.ok.cell q1.c4
  have hc : ∀ y : Later (Gr w2), (convert 37 9 (.slice (some ⟨w.heap.size, 0, none⟩) 16 16)).run Tryd.prog y.w = .ok (.string ⟨k.toArray⟩) y.w := fun y => (hb0.out.gr (g2.trans y.ok)).conv 16 16 hk'.out
  obtain ⟨R, hR⟩ : ∃ R, encL k = R := ⟨_, rfl⟩
  have hR' := Lib.hid hR
  have hkl := Lib.hid (show k.length ≤ 900000 by have := hk'.out; omega)
  clear hR
  haveI : Nonempty (Later (Gr w2)) := ⟨⟨w2, Gr.refl w2⟩⟩
  refine wp_region_later_tail (C := Gr w2) 7 (by kernel_rfl) (by kernel_rfl) (Gr.drew' _) ?_
  simp only [List.take_succ_cons, List.take_zero, List.drop_succ_cons, List.drop_zero]
  repeat (go_big_quiet_step (first | with_reducible exact encode_later _ (fun _ _ a b => Gr.trans a b) hR'.out hkl.out _))
  refine wpQuiet_nil ?_
  intro w3 hg3
  have g3 := Lib.hid (g1'.out.trans (g2.trans hg3))
  have hf3 := Lib.hid (hf1.gr (g2.trans hg3))
  have q3 := Lib.hid (q1.gr hg3)
  have hz3 : ∀ o, w3.frozen? ⟨b1, o, none⟩ = false := fun o => (Below.frozen (g2.trans hg3) (p := ⟨b1, o, none⟩) hl1).trans (hz1 o)
  have e7 : w3.cell? ⟨b1, 7, none⟩ = some (.string ⟨keyL.toArray⟩) := (hf3.out 3 (by decide)).2
  have z7 := hz3 7
  have hne : w1.heap.size ≠ b1 := by omega
  have ho3 := Lib.hid (hoo.out.gr (g2.trans hg3))
  have p0 := q3.out.c0
  have p1 := q3.out.c1
  have p2 := q3.out.c2
  have p3 := q3.out.c3
  have p4 := q3.out.c4
  have p5 := q3.out.c5
  have p6 := q3.out.c6
  have hb1 := hbb.out
  have hbw := Lib.hid (show w.heap.size ≤ b1 by omega)
  clear n4 hc hf1 hz1 g1' q1 g2 hg3 hb0 hz3 hb1
  go_wp2_with fail
  have g4 := Lib.hid ((g3.out.setCell (p := ⟨b1, 7, none⟩) hbw.out (.string ⟨R.toArray⟩)))
  have hf4 : FTab b1 (w3.setCell ⟨b1, 7, none⟩ (.string ⟨R.toArray⟩)) (askFs R k13) := hf3.out.setv 3 (by decide) R
  have q4 := Lib.hid ((q3.out.put (a := ⟨b1, 7, none⟩) (fun e => hne e.symm) (.string ⟨R.toArray⟩)))
  have hck := check_ask (key := R) k13 (by rw [← hR'.out]; exact dec_enc k) hk'.out
  have hRl : R.length ≤ 800000 := by rw [← hR'.out, encL_len _ _ (Nat.le_refl _), hk'.out]; decide
  have hRs := Lib.hid hRl
  have hsh := Lib.hid (short_ask R k13 hRl (by decide))
  obtain ⟨w4, hw4⟩ : ∃ W, w3.setCell ⟨b1, 7, none⟩ (.string ⟨R.toArray⟩) = W := ⟨_, rfl⟩
  rw [hw4] at g4 hf4 q4 ⊢
  have hw4h := hw4
  have hf4' := Lib.hid hf4
  clear hw4 hf4 g3 hf3 q3 e7 z7 p0 p1 p2 p3 p4 p5 p6 hRl
  have ho4 : Hid (OwnF b1 w4 (.slice (some ⟨b1, 0, none⟩) 5 5) (askFs R k13)) := Lib.hid (hw4h ▸ ho3.out.setv3)
  rw [if_pos rfl] at hck
  have haa := accept_len R
  obtain ⟨aa, haE⟩ : ∃ aa, acceptL R = aa := ⟨_, rfl⟩
  rw [haE] at haa hck
  clear haE
  refine (check_is (r := askR R k13) hck _ _ (hG'.out.gr g4.out) (hf4'.out.at 5) hsh.out).mono ?_
  rintro e w5 ⟨rfl, hg⟩
  have g5 := Lib.hid (g4.out.trans hg)
  have q5 := Lib.hid (q4.out.gr hg)
  have hf5 := Lib.hid (hf4'.out.gr hg)
  have p0 := q5.out.c0
  have p1 := q5.out.c1
  have p2 := q5.out.c2
  have p3 := q5.out.c3
  have p4 := q5.out.c4
  have p5 := q5.out.c5
  have p6 := q5.out.c6
  have hc28 : ((aa.length : Int) != 28) = false := by rw [haa]; rfl
  have hrem : (x.toNat : Int) % 5 = 4 := by omega
  have hrem2 : (x.toNat : Int).tmod 5 = 4 := by rw [Int.tmod_eq_emod_of_nonneg (by omega)]; exact hrem
  have hg5 := Lib.hid hg
  clear hg hck q4 hf4' g4
  unfold ckV
  go_upto_region 14 with (fail)
  have ho5 := Lib.hid (ho4.out.gr hg5.out)
  have hb5 : b1 < w5.heap.size := by have h1 : w1.heap.size < w5.heap.size := cell_lt p0; omega
  have g6 := Gr.alloc w5 (.cells #[.string ⟨kGET.toArray⟩, .string ⟨#[47, 119, 115]⟩, .string ⟨#[]⟩, .int .i64 11, .slice (some ⟨b1, 0, none⟩) 5 5, .string ⟨#[]⟩, .bool false] 27)
  have l6 := reqAt_new w5 kGET [47, 119, 115] [] 11 (.slice (some ⟨b1, 0, none⟩) 5 5) [] false 27
  generalize hw6 : w5.alloc (.cells #[.string ⟨kGET.toArray⟩, .string ⟨#[47, 119, 115]⟩, .string ⟨#[]⟩, .int .i64 11, .slice (some ⟨b1, 0, none⟩) 5 5, .string ⟨#[]⟩, .bool false] 27) = w6
  rw [show w5.alloc (.cells #[.string ⟨kGET.toArray⟩, .string ⟨[47, 119, 115].toArray⟩, .string ⟨[].toArray⟩, .int .i64 11, .slice (some ⟨b1, 0, none⟩) 5 5, .string ⟨[].toArray⟩, .bool false] 27) = w6 from hw6] at l6
  rw [hw6] at g6
  have hS := Lib.hid (fun (W : World) (hg : Gr w5 W) => (show W.cell? ⟨w1.heap.size, 4, none⟩ = some (.slice (some ⟨b1, 0, none⟩) 5 5) ∧ Gr w5 W from ⟨hg.cell p4, hg⟩))
  have hg56 := Lib.hid g6
  have hFT := Lib.hid (fun (W : World) (hg : Gr w6 W) => hf5.out.gr (g6.trans hg))
  have l6b := l6.c0
  have hL := Lib.hid (fun (W : World) (hg : Gr w6 W) => l6.gr hg)
  have q4 := g6.cell p4
  clear hw6 l6
  have hr1 : IntKind.i64.wrap ((4 : Int) + 1) = 5 := by decide
  have hr2 : IntKind.i64.wrap (5 : Int) = 5 := by decide
  go_region_held3 (fun w' => w'.cell? ⟨w1.heap.size, 4, none⟩ = some (.slice (some ⟨b1, 0, none⟩) 5 5) ∧ Gr w5 w')
    (first
      | exact hS.out _ hg56.out
      | exact hS.out _ (Gr.drew hg56.out)
      | (refine hS.out _ (Gr.trans hg56.out ?_); assumption)
      | exact hS.out _ (Gr.alloc1 hg56.out _)
      | exact hS.out _ (Gr.drew (Gr.alloc1 hg56.out _))
      | (refine hS.out _ (Gr.setCell (Gr.trans hg56.out ?_) (Nat.le_refl _) _); assumption))
    (first
      | (refine step_fields (by rfl) (.tmp 48) (.tmp 52) (by rfl) w6.heap.size _ [] (by rfl) (ownF_lit0 (Nat.le_refl _)) b1 0 4 5 ((askFs R k13).take 4) (by rfl) (by rfl) ((hFT.out _ (Gr.drew (Gr.alloc1 (Gr.refl _) _))).some_take 4) 4 (by rfl) (by decide) (by simp) ?_; intro p8 cap8 w8 hown8 hb8; have hG8 : Gr w6 w8 := Below.trans (Gr.drew (Gr.alloc1 (Gr.refl _) _)) hb8)
      | (refine step_fields (by rfl) (.tmp 53) (.tmp 58) (by rfl) w6.heap.size _ _ (by rfl) hown8 b1 0 0 0 ((askFs R k13).drop 5) (by rfl) (by rfl) (fun i hi => absurd hi (by simp [askFs])) 4 (by rfl) (by decide) (Below.size hG8) ?_; intro p9 cap9 w9 hown9 hb9; have hG9 : Gr w6 w9 := Below.trans hG8 hb9; have c9 := (hL.out _ hG9).c4; have z9 := (hL.out _ hG9).fz 4))
  have hne65 : (Value.slice p9 4 cap9).ownBlock ≠ some (⟨w5.heap.size, 4, none⟩ : Addr).block := fun e => by
    have := (World.ownsRow.lt hown9 _ e).1
    have := cell_lt l6b
    dsimp only at *
    omega
  have ff := Lib.hid ((hown9.put hne65 (.slice p9 4 cap9)).at)
  have ll := Lib.hid ((hL.out _ hG9).sets (.slice p9 4 cap9))
  have gg := Lib.hid (show Gr w5 (w9.setCell ⟨w5.heap.size, 4, none⟩ (.slice p9 4 cap9)) from Gr.setCell (Gr.trans hg56.out hG9) (Nat.le_refl _) _)
  generalize w9.setCell ⟨w5.heap.size, 4, none⟩ (.slice p9 4 cap9) = wa at ff ll gg ⊢
  have ff' : FieldsAt wa (.slice p9 4 cap9) (lackFs R 4) := ff.out
  have ffh := Lib.hid ff'
  have e0 := ll.out.c0
  have e1 := ll.out.c1
  have e2 := ll.out.c2
  have e3 := ll.out.c3
  have e4 := ll.out.c4
  have e5 := ll.out.c5
  have e6 := ll.out.c6
  have hlk := lack_check R 4 (by decide)
  have hsl := Lib.hid (show Short (lackFs R 4) from lack_short R hRs.out _)
  clear hown8 hb8 hG8 hown9 hb9 hG9 c9 z9 hne65 ff' ff hFT hL hS hr1 hr2 l6b
  go_wp2_with fail
  refine (check_is (r := askWith (lackFs R 4)) hlk _ _ (hG'.out.gr (g5.out.trans gg.out)) ffh.out hsl.out).mono ?_
  rintro e wb ⟨rfl, gb⟩
  have gb' := Lib.hid (gg.out.trans gb)
  have qb := Lib.hid (q5.out.gr gb'.out)
  have fb := Lib.hid (hf5.out.gr gb'.out)
  have hbb1 : b1 < wb.heap.size := Nat.lt_of_lt_of_le hb5 (Below.size gb'.out)
  clear gb e0 e1 e2 e3 e4 e5 e6 hlk hsl ffh ll gg p0 p1 p2 p3 p4 p5 p6 q4
  have p0 := qb.out.c0
  have p1 := qb.out.c1
  have p2 := qb.out.c2
  have p3 := qb.out.c3
  have p4 := qb.out.c4
  have p5 := qb.out.c5
  have p6 := qb.out.c6
  unfold ckV
  go_upto_region 22 with (fail)
  have g6 := Gr.alloc wb (.cells #[.string ⟨kGET.toArray⟩, .string ⟨#[47, 119, 115]⟩, .string ⟨#[]⟩, .int .i64 11, .slice (some ⟨b1, 0, none⟩) 5 5, .string ⟨#[]⟩, .bool false] 27)
  have l6 := reqAt_new wb kGET [47, 119, 115] [] 11 (.slice (some ⟨b1, 0, none⟩) 5 5) [] false 27
  generalize hw6 : wb.alloc (.cells #[.string ⟨kGET.toArray⟩, .string ⟨#[47, 119, 115]⟩, .string ⟨#[]⟩, .int .i64 11, .slice (some ⟨b1, 0, none⟩) 5 5, .string ⟨#[]⟩, .bool false] 27) = wc
  rw [show wb.alloc (.cells #[.string ⟨kGET.toArray⟩, .string ⟨[47, 119, 115].toArray⟩, .string ⟨[].toArray⟩, .int .i64 11, .slice (some ⟨b1, 0, none⟩) 5 5, .string ⟨[].toArray⟩, .bool false] 27) = wc from hw6] at l6
  rw [hw6] at g6
  obtain ⟨nm, hnm⟩ : ∃ l, ((askFs R k13)[4]'(show 4 < 5 by decide)).1 = l := ⟨_, rfl⟩
  obtain ⟨vl, hvl⟩ : ∃ l, ((askFs R k13)[4]'(show 4 < 5 by decide)).2 = l := ⟨_, rfl⟩
  have a1 : wb.cell? ⟨b1, 8, none⟩ = some (.string ⟨nm.toArray⟩) := hnm ▸ (fb.out 4 (show 4 < 5 by decide)).1
  have a2 : wb.cell? ⟨b1, 9, none⟩ = some (.string ⟨vl.toArray⟩) := hvl ▸ (fb.out 4 (show 4 < 5 by decide)).2
  have hnm' := Lib.hid hnm
  have hvl' := Lib.hid hvl
  have hnl := Lib.hid (show nm.length ≤ 1000000 by rw [← hnm]; show (kVer).length ≤ _; decide)
  have hS := Lib.hid (fun (W : World) (hg : Gr wb W) => (show W.cell? ⟨w1.heap.size, 4, none⟩ = some (.slice (some ⟨b1, 0, none⟩) 5 5) ∧ W.cell? ⟨b1, 8, none⟩ = some (.string ⟨nm.toArray⟩) ∧ W.cell? ⟨b1, 9, none⟩ = some (.string ⟨vl.toArray⟩) ∧ Gr wb W from ⟨hg.cell p4, hg.cell a1, hg.cell a2, hg⟩))
  have hgbc := Lib.hid g6
  have hFT := Lib.hid (fun (W : World) (hg : Gr wc W) => fb.out.gr (g6.trans hg))
  have l6b := l6.c0
  have hL := Lib.hid (fun (W : World) (hg : Gr wc W) => l6.gr hg)
  have q4 := g6.cell p4
  have q5' := g6.cell a1
  have q6 := g6.cell a2
  clear hw6 l6 hnm hvl
  go_region_held3 (fun w' => w'.cell? ⟨w1.heap.size, 4, none⟩ = some (.slice (some ⟨b1, 0, none⟩) 5 5) ∧ w'.cell? ⟨b1, 8, none⟩ = some (.string ⟨nm.toArray⟩) ∧ w'.cell? ⟨b1, 9, none⟩ = some (.string ⟨vl.toArray⟩) ∧ Gr wb w')
    (first
      | exact hS.out _ hgbc.out
      | exact hS.out _ (Gr.drew hgbc.out)
      | (refine hS.out _ (Gr.trans hgbc.out ?_); assumption)
      | exact hS.out _ (Gr.alloc1 hgbc.out _)
      | exact hS.out _ (Gr.drew (Gr.alloc1 hgbc.out _))
      | (refine hS.out _ (Gr.alloc1 (Gr.trans hgbc.out ?_) _); assumption)
      | (refine hS.out _ (Gr.setCell (Gr.trans hgbc.out ?_) (Nat.le_refl _) _); assumption))
    (first
      | (refine step_fields (by rfl) (.tmp 67) (.tmp 69) (by rfl) wc.heap.size _ [] (by rfl) (ownF_lit0 (Nat.le_refl _)) b1 0 5 5 (askFs R k13) (by rfl) (by rfl) ((hFT.out _ (Gr.drew (Gr.alloc1 (Gr.refl _) _))).some_all) 5 (by rfl) (by decide) (by simp) ?_; intro p8 cap8 w8 hown8 hb8; have hG8 : Gr wc w8 := Below.trans (Gr.drew (Gr.alloc1 (Gr.refl _) _)) hb8)
      | (go_simp; go_at_call 12; refine (low_any nm _ hnl.out).mono ?_; rintro e wd ⟨rfl, gd⟩; have hGd : Gr wc wd := Gr.trans hG8 gd; have hownd := OwnF.gr hown8 gd)
      | (refine step_fields (by rfl) (.tmp 70) (.tmp 85) (by rfl) wc.heap.size _ _ (by rfl) (World.ownsRow.alloc hownd _) wd.heap.size 0 1 1 [(nm.map lower, vl)] (by rfl) (by rfl) ((ftab_new wd [(nm.map lower, vl)] 30).some_all) 6 (by rfl) (by decide) (Nat.le_trans (Below.size hGd) (by simp)) ?_; intro p9 cap9 w9 hown9 hb9; have hG9 : Gr wc w9 := Below.trans (Gr.alloc1 hGd _) hb9; have c9 := (hL.out _ hG9).c4; have z9 := (hL.out _ hG9).fz 4))
  have hne65 : (Value.slice p9 6 cap9).ownBlock ≠ some (⟨wb.heap.size, 4, none⟩ : Addr).block := fun e => by
    have := (World.ownsRow.lt hown9 _ e).1
    have := cell_lt l6b
    dsimp only at *
    omega
  have ff := Lib.hid ((hown9.put hne65 (.slice p9 6 cap9)).at)
  have ll := Lib.hid ((hL.out _ hG9).sets (.slice p9 6 cap9))
  have gg := Lib.hid (show Gr wb (w9.setCell ⟨wb.heap.size, 4, none⟩ (.slice p9 6 cap9)) from Gr.setCell (Gr.trans hgbc.out hG9) (Nat.le_refl _) _)
  generalize w9.setCell ⟨wb.heap.size, 4, none⟩ (.slice p9 6 cap9) = wa at ff ll gg ⊢
  have htw : askFs R k13 ++ [(nm.map lower, vl)] = twiceFs R 4 (by decide) := by unfold twiceFs; rw [← hnm'.out, ← hvl'.out]
  have ff' : FieldsAt wa (.slice p9 6 cap9) (askFs R k13 ++ [(nm.map lower, vl)]) := ff.out
  rw [htw] at ff'
  have ffh := Lib.hid ff'
  have e0 := ll.out.c0
  have e1 := ll.out.c1
  have e2 := ll.out.c2
  have e3 := ll.out.c3
  have e4 := ll.out.c4
  have e5 := ll.out.c5
  have e6 := ll.out.c6
  have hlk := twice_check (R := R) (by rw [← hR'.out]; exact dec_enc k) hk'.out 4 (by decide)
  rw [if_neg (by decide)] at hlk
  have hsl := Lib.hid (show Short (twiceFs R 4 (by decide)) from twice_short R hRs.out _ _)
  clear hown8 hb8 hG8 hown9 hb9 hG9 c9 z9 hne65 ff' ff hFT hL hS l6b htw hnm' hvl' hnl hownd hGd gd a1 a2 q5' q6 q4
  go_wp2_with fail
  refine (check_is (r := askWith (twiceFs R 4 (by decide))) hlk _ _ (hG'.out.gr (g5.out.trans (gb'.out.trans gg.out))) ffh.out hsl.out).mono ?_
  rintro e we ⟨rfl, ge⟩
  have ge' := Lib.hid (gb'.out.trans (gg.out.trans ge))
  have qe := Lib.hid (q5.out.gr ge'.out)
  have fe := Lib.hid (hf5.out.gr ge'.out)
  clear ge e0 e1 e2 e3 e4 e5 e6 hlk hsl ffh ll gg p0 p1 p2 p3 p4 p5 p6
  have p0 := qe.out.c0
  have p1 := qe.out.c1
  have p2 := qe.out.c2
  have p3 := qe.out.c3
  have p4 := qe.out.c4
  have p5 := qe.out.c5
  have p6 := qe.out.c6
  unfold ckV
  go_wp2_with fail
  have hga := Lib.hid (show Gr w (we.alloc (.cells #[.string ⟨m.toArray⟩, .string ⟨#[47, 119, 115]⟩, .string ⟨#[]⟩, .int .i64 ver, .slice (some ⟨b1, 0, none⟩) 5 5, .string ⟨#[]⟩, .bool false] 27)) from (g5.out.trans ge'.out).alloc1 _)
  have fa := Lib.hid ((fe.out.gr (Gr.alloc we (.cells #[.string ⟨m.toArray⟩, .string ⟨#[47, 119, 115]⟩, .string ⟨#[]⟩, .int .i64 ver, .slice (some ⟨b1, 0, none⟩) 5 5, .string ⟨#[]⟩, .bool false] 27))).at 5)
  generalize we.alloc (.cells #[.string ⟨m.toArray⟩, .string ⟨#[47, 119, 115]⟩, .string ⟨#[]⟩, .int .i64 ver, .slice (some ⟨b1, 0, none⟩) 5 5, .string ⟨#[]⟩, .bool false] 27) = wf at hga fa ⊢
  have hck := check_ask (key := R) k13 (by rw [← hR'.out]; exact dec_enc k) hk'.out
  rw [if_pos rfl] at hck
  have hsh := Lib.hid (short_ask R k13 hRs.out (by decide))
  clear p0 p1 p2 p3 p4 p5 p6 fe qe
  by_cases h1 : m = kGET
  · by_cases h2 : ver = 11
    · subst h1 h2
      refine (check_is (r := askR R k13) hck _ _ (hG'.out.gr hga.out) fa.out hsh.out).mono ?_
      rintro e wg ⟨rfl, gg⟩
      have gz := Lib.hid (hga.out.trans gg)
      clear gg hck
      unfold ckV
      go_wp2_with fail
      refine (wakes_any _ (hG'.out.gr gz.out)).mono ?_
      rintro e wh ⟨rfl, gh⟩
      go_wp2
      go_ret
      exact ⟨rfl, gz.out.trans gh⟩
    · subst h1
      have hv : (ver == 11) = false := beq_eq_false_iff_ne.2 h2
      refine (check_is (r := ⟨kGET, [47, 119, 115], [], ver, askFs R k13, [], false⟩) (check_third (fun h => h2 h.2)) _ _ (hG'.out.gr hga.out) fa.out hsh.out).mono ?_
      rintro e wg ⟨rfl, gg⟩
      have gz := Lib.hid (hga.out.trans gg)
      clear gg hck h2
      unfold ckV
      go_wp2_with fail
      refine (wakes_any _ (hG'.out.gr gz.out)).mono ?_
      rintro e wh ⟨rfl, gh⟩
      go_wp2
      go_ret
      exact ⟨rfl, gz.out.trans gh⟩
  · have hv : (m == [71, 69, 84]) = false := beq_eq_false_iff_ne.2 h1
    refine (check_is (r := ⟨m, [47, 119, 115], [], ver, askFs R k13, [], false⟩) (check_third (fun h => h1 h.1)) _ _ (hG'.out.gr hga.out) fa.out hsh.out).mono ?_
    rintro e wg ⟨rfl, gg⟩
    have gz := Lib.hid (hga.out.trans gg)
    clear gg hck h1
    unfold ckV
    go_wp2_with fail
    refine (wakes_any _ (hG'.out.gr gz.out)).mono ?_
    rintro e wh ⟨rfl, gh⟩
    go_wp2
    go_ret
    exact ⟨rfl, gz.out.trans gh⟩
end Go.Proofs.YtheihlalgekojaaDoor
namespace Go.Proofs.YtheihlalgekojaaDoor
open Go.RowKit
theorem lacks_any (k : List UInt8) (x : UInt8) (m : List UInt8) (ver : Int) (hm : m.length ≤ 9223372036854775807) (hk : k.length = 16) (w : World) (hG : G w) :
    Calls Tryd.prog 5 #[.agg (bcells k).toArray, .int .u8 x.toNat, .string ⟨m.toArray⟩, .int .i64 ver] w fun e w' => e = .returned (.bool true) ∧ Gr w w' := by
  have h : x.toNat % 5 = 0 ∨ x.toNat % 5 = 1 ∨ x.toNat % 5 = 2 ∨ x.toNat % 5 = 3 ∨ x.toNat % 5 = 4 := by omega
  rcases h with h | h | h | h | h
  · exact lacks0_any k x m ver hm hk h w hG
  · exact lacks1_any k x m ver hm hk h w hG
  · exact lacks2_any k x m ver hm hk h w hG
  · exact lacks3_any k x m ver hm hk h w hG
  · exact lacks4_any k x m ver hm hk h w hG
end Go.Proofs.YtheihlalgekojaaDoor
