/-
  The walk over HandKnown.
-/
import Derived.Test.YtheihlalgekojaaDoorHi
import Derived.Shelf.Abstract
namespace Go.Proofs.YtheihlalgekojaaDoor
open Go.RowKit
attribute [local go_sem] Oper.semAt_some
def kcell (x : KRow) : List Value := [.func (.func x.fn) #[] #[], .int .i64 x.code]
def noneR : Rq := ⟨[], [], [], 0, [], [], false⟩
theorem answer_none : answerB (checkB noneR) = (⟨400, [], kBadH⟩, false) := by
  have h : checkB noneR = ([], 400) := by decide +kernel
  rw [h]; rfl
theorem ktab_eq : (rcells kcell krows).toArray = #[.func (.func 18) #[] #[], .int .i64 101, .func (.func 19) #[] #[], .int .i64 426, .func (.func 20) #[] #[], .int .i64 400, .func (.func 21) #[] #[], .int .i64 400, .func (.func 22) #[] #[], .int .i64 400, .func (.func 23) #[] #[], .int .i64 400, .func (.func 24) #[] #[], .int .i64 400, .func (.func 25) #[] #[], .int .i64 400, .func (.func 26) #[] #[], .int .i64 101, .func (.func 27) #[] #[], .int .i64 400, .func (.func 28) #[] #[], .int .i64 400, .func (.func 29) #[] #[], .int .i64 400, .func (.func 30) #[] #[], .int .i64 101, .func (.func 31) #[] #[], .int .i64 400] := rfl
theorem kcells_at (w : World) (t : TypeId) (k : Nat) (hk : k < krows.length) :
    (w.alloc (.cells (rcells kcell krows).toArray t)).cell? ⟨w.heap.size, k * 2, none⟩ = some (.func (.func krows[k].fn) #[] #[]) ∧ (w.alloc (.cells (rcells kcell krows).toArray t)).cell? ⟨w.heap.size, k * 2 + 1, none⟩ = some (.int .i64 krows[k].code) :=
  ⟨cell_new7 w _ t (k * 2) _ ((rcells_get (f := kcell) (k := 2) (fun _ => rfl) krows k 0 hk (by decide)).trans rfl), cell_new7 w _ t (k * 2 + 1) _ ((rcells_get (f := kcell) (k := 2) (fun _ => rfl) krows k 1 hk (by decide)).trans rfl)⟩
theorem AsksPost.turnable {b : Nat} {w1 : World} {cs : Array Value} {t : TypeId} {w2 : World} (hw : w1.alloc (.cells cs t) = w2) (hc : cs = #[.string ⟨kGET.toArray⟩, .string ⟨#[47, 119, 115]⟩, .string ⟨#[]⟩, .int .i64 11, .slice (some ⟨b, 0, none⟩) 5 5, .string ⟨#[]⟩, .bool false]) (hf : FTab b w1 (askFs keyL k13)) (hz : ∀ o, w1.frozen? ⟨b, o, none⟩ = false) (ho : OwnF b w1 (.slice (some ⟨b, 0, none⟩) 5 5) (askFs keyL k13)) : Turnable w1.heap.size b w2 := by
  subst hw hc
  have hl : b < w1.heap.size := cell_lt (hf 0 (by decide)).1
  exact ⟨reqAt_new w1 kGET [47, 119, 115] [] 11 (.slice (some ⟨b, 0, none⟩) 5 5) [] false t, hf.gr (Gr.alloc _ _), fun o => (Below.frozen (Gr.alloc w1 _) (p := ⟨b, o, none⟩) hl).trans (hz o), World.ownsRow.alloc ho _, hl⟩
theorem krows_short : ∀ x ∈ krows, Short x.fs := by
  have h : ∀ x ∈ krows, x.fs.length ≤ 1000000 ∧ ∀ f ∈ x.fs, f.1.length ≤ 800000 ∧ f.2.length ≤ 800000 := by decide +kernel
  exact h

theorem krows_enter : ∀ x ∈ krows, ∀ args w, (callFunc x.fn args).run Tryd.prog w = .ok (.enter x.fn args) w := by
  intro x hx
  simp only [krows, List.mem_cons, List.not_mem_nil, or_false] at hx
  rcases hx with rfl | rfl | rfl | rfl | rfl | rfl | rfl | rfl | rfl | rfl | rfl | rfl | rfl | rfl
  · exact enters_of Tryd.func18 (by kernel_rfl) rfl
  · exact enters_of Tryd.func19 (by kernel_rfl) rfl
  · exact enters_of Tryd.func20 (by kernel_rfl) rfl
  · exact enters_of Tryd.func21 (by kernel_rfl) rfl
  · exact enters_of Tryd.func22 (by kernel_rfl) rfl
  · exact enters_of Tryd.func23 (by kernel_rfl) rfl
  · exact enters_of Tryd.func24 (by kernel_rfl) rfl
  · exact enters_of Tryd.func25 (by kernel_rfl) rfl
  · exact enters_of Tryd.func26 (by kernel_rfl) rfl
  · exact enters_of Tryd.func27 (by kernel_rfl) rfl
  · exact enters_of Tryd.func28 (by kernel_rfl) rfl
  · exact enters_of Tryd.func29 (by kernel_rfl) rfl
  · exact enters_of Tryd.func30 (by kernel_rfl) rfl
  · exact enters_of Tryd.func31 (by kernel_rfl) rfl
set_option maxHeartbeats 8000000 in
set_option maxRecDepth 20000 in
theorem known_any (w : World) (hG : G w) :
    Calls Tryd.prog 7 #[] w fun e w' => e = .returned (.bool true) ∧ Gr w w' := by
  have hG' := Lib.hid hG
  clear hG
  have hcells := Lib.hid (kcells_at w 47)
  have hg0 := Lib.hid (Gr.alloc w (.cells (rcells kcell krows).toArray 47))
  rw [ktab_eq] at hcells hg0
  go_enter Tryd.func7, Tryd.ntmps7
  go_wp2_with fail
  generalize w.alloc (.cells #[.func (.func 18) #[] #[], .int .i64 101, .func (.func 19) #[] #[], .int .i64 426, .func (.func 20) #[] #[], .int .i64 400, .func (.func 21) #[] #[], .int .i64 400, .func (.func 22) #[] #[], .int .i64 400, .func (.func 23) #[] #[], .int .i64 400, .func (.func 24) #[] #[], .int .i64 400, .func (.func 25) #[] #[], .int .i64 400, .func (.func 26) #[] #[], .int .i64 101, .func (.func 27) #[] #[], .int .i64 400, .func (.func 28) #[] #[], .int .i64 400, .func (.func 29) #[] #[], .int .i64 400, .func (.func 30) #[] #[], .int .i64 101, .func (.func 31) #[] #[], .int .i64 400] 47) = w0 at hcells hg0 ⊢
  go_loopw [2] (fun i wr => ∃ k : Nat, k ≤ 14 ∧ i = .int .i64 k ∧ Gr w0 wr) (fun i _ => 14 - (intOf i).toNat)
  case atStart => exact ⟨0, Nat.zero_le _, rfl, Gr.refl _⟩
  case round =>
    obtain ⟨k, hk, rfl, hg⟩ := hrel
    have hgr := Lib.hid (hg0.out.trans hg)
    by_cases hlt : k < 14
    · obtain ⟨c0, c1⟩ := hcells.out k hlt
      obtain ⟨x, hx⟩ : ∃ x, krows[k]'hlt = x := ⟨_, rfl⟩
      have hmem := Lib.hid (show x ∈ krows from hx ▸ List.getElem_mem hlt)
      rw [hx] at c0 c1
      have q0 := hg.cell c0
      have q1 := hg.cell c1
      have hsz : w.heap.size < wr.heap.size := cell_lt q0
      clear c0 c1 hx
      have hg' := Lib.hid hg
      have een := krows_enter x hmem.out
      clear hg
      go_wp2_with fail
      refine (asks_made _).mono ?_
      rintro e w1 ⟨b1, hb1, rfl, hf1, hz1, ho1, g1⟩
      have p0 := g1.cell q0
      have p1 := g1.cell q1
      have hb1' := Lib.hid hb1
      have hsz1 : w.heap.size < w1.heap.size := cell_lt p0
      have ht := Lib.hid (AsksPost.turnable rfl rfl hf1 hz1 ho1 : Turnable w1.heap.size b1 (w1.alloc (.cells #[.string ⟨kGET.toArray⟩, .string ⟨#[47, 119, 115]⟩, .string ⟨#[]⟩, .int .i64 11, .slice (some ⟨b1, 0, none⟩) 5 5, .string ⟨#[]⟩, .bool false] 27)))
      have g1' := Lib.hid g1
      have q1' := Lib.hid q1
      clear g1 q0 q1 hf1 hz1 ho1 hb1
      unfold Rq.V askR
      go_wp2_with fail
      refine (krows_turn x hmem.out _ _ _ ht.out).mono ?_
      rintro e w2 ⟨rfl, ⟨s2, hq2, hf2⟩, hbel⟩
      have zz := Lib.hid (show Gr wr w2 from Below.trans (g1'.out.alloc1 _) (Below.mono hbel hb1'.out))
      have p1 := zz.out.cell q1'.out
      have hq2' := Lib.hid hq2
      have hck := krows_check x hmem.out
      have hsh := Lib.hid (krows_short x hmem.out)
      have e0 := hq2.c0
      have e1 := hq2.c1
      have e2 := hq2.c2
      have e3 := hq2.c3
      have e4 := hq2.c4
      have e5 := hq2.c5
      have e6 := hq2.c6
      obtain ⟨pp, cap2, rfl, _⟩ := id hf2
      have hf2' := Lib.hid hf2
      have hkI : (k : Int) < 14 := by omega
      have hkA : (0 : Int) ≤ k := by omega
      clear hq2 hbel hf2 ht g1'
      by_cases h101 : x.code = 101
      · rw [if_pos h101, h101] at hck
        rw [h101] at p1
        go_wp2_with fail
        refine (check_is (r := x.r) hck _ _ (hG'.out.gr (hgr.out.trans zz.out)) hf2'.out hsh.out).mono ?_
        rintro e w3 ⟨rfl, g3⟩
        have p3 := g3.cell p1
        have g3' := Lib.hid (zz.out.trans g3)
        clear g3 p1 e0 e1 e2 e3 e4 e5 e6
        unfold ckV
        go_wp2
        go_roundw
        case rel => exact ⟨k + 1, by omega, by go_num, hg'.out.trans g3'.out⟩
        case measure => simp [intOf]; omega
      · rw [if_neg h101] at hck
        have hne : ((x.code : Int) == 101) = false := beq_eq_false_iff_ne.2 (fun e => h101 (by omega))
        go_wp2_with fail
        refine (check_is (r := x.r) hck _ _ (hG'.out.gr (hgr.out.trans zz.out)) hf2'.out hsh.out).mono ?_
        rintro e w3 ⟨rfl, g3⟩
        have p3 := g3.cell p1
        have g3' := Lib.hid (zz.out.trans g3)
        clear g3 p1 e0 e1 e2 e3 e4 e5 e6
        unfold ckV
        go_wp2
        go_roundw
        case rel => exact ⟨k + 1, by omega, by go_num, hg'.out.trans g3'.out⟩
        case measure => simp [intOf]; omega
    · clear hcells hg0
      go_wp2_with fail
      refine (asks_made _).mono ?_
      rintro e w3 ⟨b3, hb3, rfl, hf3, _, _, g3⟩
      go_wp2_with fail
      refine (answer_is answer_key _ _ (hG'.out.gr (hgr.out.trans g3)) (hf3.at 5) (short_ask _ _ (by decide) (by decide))).mono ?_
      rintro e w4 ⟨t4, rfl, hf4, hg4⟩
      have g4 := Lib.hid (hgr.out.trans (g3.trans hg4))
      have hf4' := Lib.hid hf4
      clear hf3 g3 hb3 hg4 hg
      obtain ⟨p4, cap4, rfl, _⟩ := hf4
      unfold Rp.V
      dsimp only [List.length_cons, List.length_nil, Nat.zero_add, Nat.reduceAdd]
      go_wp2_with fail
      have k0 : (w4.alloc (.cells #[.int .i64 101, .slice p4 3 cap4, .string ⟨#[]⟩] 40)).cell? ⟨w4.heap.size, 0, none⟩ = some (.int .i64 101) := by simp [go_sem]
      have k1 : (w4.alloc (.cells #[.int .i64 101, .slice p4 3 cap4, .string ⟨#[]⟩] 40)).cell? ⟨w4.heap.size, 1, none⟩ = some (.slice p4 3 cap4) := by simp [go_sem]
      have k2 : (w4.alloc (.cells #[.int .i64 101, .slice p4 3 cap4, .string ⟨#[]⟩] 40)).cell? ⟨w4.heap.size, 2, none⟩ = some (.string ⟨#[]⟩) := by simp [go_sem]
      refine (answer_is answer_none (.slice none 0 0) _ (hG'.out.gr (g4.out.alloc1 _)) (fieldsAt_none _ _) ⟨Nat.zero_le _, fun f hf => absurd hf (List.not_mem_nil)⟩).mono ?_
      rintro e w5 ⟨t5, rfl, hf5, g5⟩
      replace k0 := g5.cell k0
      replace k1 := g5.cell k1
      replace k2 := g5.cell k2
      have hk4 : w4.heap.size < w5.heap.size := cell_lt k0
      have hk5 : w4.heap.size < w5.heap.size + 1 := by omega
      have hk6 : w4.heap.size < w5.heap.size + 1 + 1 := by omega
      have hf45 := Lib.hid (hf4'.out.gr ((Gr.alloc w4 _).trans g5))
      have g5' := Lib.hid ((g4.out.alloc1 _).trans g5)
      have hf5' := Lib.hid hf5
      obtain ⟨p5, cap5, rfl, _⟩ := hf5
      clear g5 hf4'
      unfold Rp.V
      dsimp only [List.length_cons, List.length_nil, Nat.zero_add, Nat.reduceAdd]
      go_wp2_with fail
      have y0 : (w5.alloc (.cells #[.int .i64 400, .slice p5 0 cap5, .string ⟨kBadH.toArray⟩] 40)).cell? ⟨w5.heap.size, 0, none⟩ = some (.int .i64 400) := by simp [go_sem]
      have y1 : (w5.alloc (.cells #[.int .i64 400, .slice p5 0 cap5, .string ⟨kBadH.toArray⟩] 40)).cell? ⟨w5.heap.size, 1, none⟩ = some (.slice p5 0 cap5) := by simp [go_sem]
      have y2 : (w5.alloc (.cells #[.int .i64 400, .slice p5 0 cap5, .string ⟨kBadH.toArray⟩] 40)).cell? ⟨w5.heap.size, 2, none⟩ = some (.string ⟨kBadH.toArray⟩) := by simp [go_sem]
      have hy := fieldsAt_new (w5.alloc (.cells #[.int .i64 400, .slice p5 0 cap5, .string ⟨kBadH.toArray⟩] 40)) [(kUpg, kWs), (kConn, kUpg), (kAcc, accS)] 30 3
      rw [show (w5.alloc (.cells #[.int .i64 400, .slice p5 0 cap5, .string ⟨kBadH.toArray⟩] 40)).heap.size = w5.heap.size + 1 from by simp] at hy
      refine (same_any ⟨101, [(kUpg, kWs), (kConn, kUpg), (kAcc, accS)], []⟩ ⟨101, [(kUpg, kWs), (kConn, kUpg), (kAcc, accS)], []⟩ _ _ _ (hf45.out.gr (((Gr.alloc _ _).alloc1 _).alloc1 _)) (hy.gr (Gr.alloc _ _)) (by decide) (by decide)).mono ?_
      rintro e w6 ⟨rfl, g6⟩
      have m0 := g6.cell (((Gr.alloc _ _).alloc1 _).cell y0)
      have m1 := g6.cell (((Gr.alloc _ _).alloc1 _).cell y1)
      have m2 := g6.cell (((Gr.alloc _ _).alloc1 _).cell y2)
      have hf56 := Lib.hid (hf5'.out.gr ((((Gr.alloc _ _).alloc1 _).alloc1 _).trans g6))
      have g6' := Lib.hid ((((g5'.out.alloc1 _).alloc1 _).alloc1 _).trans g6)
      rw [sameB_refl]
      clear g6 y0 y1 y2 hy k0 k1 k2 hk4 hk5 hk6 hf45 hf5' g5'
      go_wp2_with fail
      refine (same_any ⟨400, [], kBadH⟩ ⟨400, [], kBadH⟩ _ (.slice none 0 0) _ hf56.out (fieldsAt_none _ _) (by decide) (by decide)).mono ?_
      rintro e w7 ⟨rfl, g7⟩
      rw [sameB_refl]
      have g7' := Lib.hid (g6'.out.trans g7)
      clear g7 m0 m1 m2 hf56
      go_wp2_with fail
      refine (wakes_any _ (hG'.out.gr g7'.out)).mono ?_
      rintro e w8 ⟨rfl, g8⟩
      go_wp2
      go_ret
      exact ⟨rfl, g7'.out.trans g8⟩
end Go.Proofs.YtheihlalgekojaaDoor
