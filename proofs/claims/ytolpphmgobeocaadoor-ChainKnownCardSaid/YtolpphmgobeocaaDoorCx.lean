/-
  The walk over Wrap.
-/
import Derived.Test.YtolpphmgobeocaaDoorCw
import Derived.Laws.EntriesVeiled
namespace Go.Proofs.YtolpphmgobeocaaDoor
open Go.RowKit Go.Shelf
attribute [local go_sem] Oper.semAt_some

def WrapPost (T : Nat → Prop) (m : Nat) (R : Nat → Rq → Rp → World → World → Prop) (ss : List Stp) (w : World) (e : Ending) (w' : World) : Prop :=
  ∃ f g lb F, e = .returned (.tuple #[f, .int .i64 0]) ∧ HNow T m R ss (fun _ => False) w' f g lb F ∧ Gr w w'

/-- What the loop of Wrap holds. -/
def IW (T : Nat → Prop) (m : Nat) (R : Nat → Rq → Rp → World → World → Prop) (ss : List Stp) (w : World) (bad : Nat → Prop) (n : Nat) (A : World) : Prop :=
  ∃ f g lb F, A.cell? ⟨w.heap.size, 0, none⟩ = some f ∧ A.frozen? ⟨w.heap.size, 0, none⟩ = false ∧ HNow T m R (ss.drop (ss.length - n)) bad A f g lb F ∧ Gr w A
theorem getD_lt {α : Type} {l : List α} {k : Nat} {d : α} (h : k < l.length) : l.getD k d = l[k] := by simp [h]

set_option maxHeartbeats 2000000 in
theorem wrap_ok (p : Option Addr) (cap : Nat) (ss : List Stp) (g : Nat) (lb : Array Value) (T F : Nat → Prop) (m : Nat) (R : Nat → Rq → Rp → World → World → Prop) (w : World) (hx : StepsAt w (.slice p ss.length cap) ss) (hlen : ss.length ≤ 8) (hright : ss.all rightB = true)
    (hl : ∀ s ∈ ss, s.name.length ≤ 1000 ∧ s.value.length ≤ 1000) (eg : ∀ args w, (callFunc g args).run Tryd.prog w = .ok (.enter g args) w) (hS : Side T F w) (hH : HandlesB g lb T F w m R) (hR : Closed T R) (hm : m ≤ 1000) :
    Calls Tryd.prog 14 #[.slice p ss.length cap, .func (.func g) #[] lb] w (WrapPost T m R ss w) := by
  refine (callsIn_wide (n := 0)).1 ?_
  have hfn : ∀ f, Fence.wide.fn f := fun _ => trivial
  have hdp : Fence.wide.depth = none := rfl
  have hnf := fun (w : World) f x c => run_eql_func_nil (P := Tryd.prog) w Tryd.underlying40 f x c
  have hcw := Lib.hid (fun W h => anywrong_any (.slice p ss.length cap) ss W (hS.g.gr h) (hx.gr h) (Nat.le_trans hlen (by decide)) hl)
  rw [hright] at hcw
  have hlenb : decide ((ss.length : Int) > 8) = false := by simp; omega
  have hx' := Lib.hid hx
  have hS' := Lib.hid hS
  have hH' := Lib.hid hH
  have hR' := Lib.hid hR
  have hl' := Lib.hid hl
  have hright' := Lib.hid hright
  have hlen' := Lib.hid hlen
  clear hx hS hH hR hl hright hlen
  refine callsIn_of_wp_marks Tryd.func14 rfl trivial ?_ rfl
  simp only [Tryd.ntmps14, List.size_toArray, List.length_cons, List.length_nil, Nat.reduceAdd, Nat.reduceSub, Array.replicate_succ, Array.replicate_zero, List.push_toArray, List.append_toArray, List.nil_append, List.cons_append]
  gi_wp2_with fail
  refine (callsIn_wide.2 (hcw.out _ (Gr.alloc _ _))).mono ?_
  rintro e w1 ⟨rfl, hb⟩
  have c1 : w1.cell? ⟨w.heap.size, 0, none⟩ = some (.func (.func g) #[] lb) := hb.cell (by simp [go_sem])
  have k1 : w1.frozen? ⟨w.heap.size, 0, none⟩ = false := (Below.frozen hb (by simp)).trans (by simp [go_sem])
  have hz1 : w.heap.size < w1.heap.size := cell_lt c1
  have hg1 := Lib.hid ((Gr.alloc _ _).trans hb)
  clear hb hcw
  gi_wp2_with fail
  refine (callsIn_wide.2 (backward_any _ _ _ _)).mono ?_
  rintro e w2 ⟨rfl, rfl⟩
  gi_wp2_with fail
  obtain ⟨wa, hwa⟩ : ∃ wa, ((w1.setCell ⟨w.heap.size, 0, none⟩ (.func (.func 32) #[] #[.pointer (some ⟨w1.heap.size, 0, none⟩)])).alloc (.cells #[.func (.func g) #[] lb] 40)).alloc (.cells #[.slice p ss.length cap] 22) = wa := ⟨_, rfl⟩
  rw [hwa]
  have hsa : wa.heap.size = w1.heap.size + 2 := by rw [← hwa]; simp
  have hga : Gr w wa := by rw [← hwa]; exact ((hg1.out.setCell (Nat.le_refl _) _).alloc1 _).alloc1 _
  have ca : wa.cell? ⟨w.heap.size, 0, none⟩ = some (.func (.func 32) #[] #[.pointer (some ⟨w1.heap.size, 0, none⟩)]) := by
    rw [← hwa]; exact ((Gr.alloc _ _).alloc1 _).cell (cell_set_same c1)
  have ka : wa.frozen? ⟨w.heap.size, 0, none⟩ = false := by
    rw [← hwa]; exact (Below.frozen ((Gr.alloc _ _).alloc1 _) (by simp; omega)).trans (frozen_set.trans k1)
  have ci : wa.cell? ⟨w1.heap.size, 0, none⟩ = some (.func (.func g) #[] lb) := by rw [← hwa]; simp [go_sem]
  have cb : wa.cell? ⟨w1.heap.size + 1, 0, none⟩ = some (.slice p ss.length cap) := by rw [← hwa]; simp [go_sem]
  obtain ⟨bad, hbad⟩ : ∃ bad : Nat → Prop, bad = fun k => k = w.heap.size ∨ k = w1.heap.size + 1 ∨ (w1.heap.size + 2 ≤ k ∧ k < w1.heap.size + 4) := ⟨_, rfl⟩
  have hb0 := Lib.hid (show ∀ k, bad k ↔ (k = w.heap.size ∨ k = w1.heap.size + 1 ∨ (w1.heap.size + 2 ≤ k ∧ k < w1.heap.size + 4)) from fun k => by rw [hbad])
  clear hbad
  have hag : Agree F w wa := Agree.ch (Agree.refl F w) (hga.to_ch (fun _ => False)) (fun _ _ h => h) hS'.out.old
  have hSa : Side T (fun k => F k ∨ k = w1.heap.size) wa := by
    have hS := hS'.out
    refine ⟨fun k hk => ?_, fun k hk => ?_, hS.G hag, fun k hk => .inl (hS.gF k hk)⟩
    · rcases hk with hk | hk
      · have := hS.old k hk; omega
      · omega
    · have := hS.told k hk; omega
  have hnow : HNow T m R [] bad wa (.func (.func 32) #[] #[.pointer (some ⟨w1.heap.size, 0, none⟩)]) 32 #[.pointer (some ⟨w1.heap.size, 0, none⟩)] (fun k => F k ∨ k = w1.heap.size) := by
    refine ⟨rfl, enters_of Tryd.func32 (by kernel_rfl) rfl, hSa, fun k hk hbk => ?_, ?_⟩
    · have hbk' := (hb0.out k).1 hbk
      rcases hk with hk | hk
      · have := hS'.out.old k hk; omega
      · omega
    · exact h_base (by omega) hSa (hH'.out.mono (fun k hk => .inl hk) hag) eg hR'.out _ ci (.inr rfl)
  have h0 := Lib.hid (show IW T m R ss w bad 0 wa from ⟨_, _, _, _, ca, ka, by rw [Nat.sub_zero, List.drop_length]; exact hnow, hga⟩)
  have hsa' := Lib.hid hsa
  have hx2 := Lib.hid (fun A (h : Gr w A) => hx'.out.gr h)
  have hlen2 := Lib.hid (Nat.le_trans hlen'.out (show 8 ≤ 1000000 by decide))
  clear hwa hnf hsa hga ca ka ci hag hSa hnow c1 k1 hg1 hlenb
  refine wpIn_range (gf := 50) rfl (enters_of Tryd.func50 (by kernel_rfl) rfl) (back_iter _ ss wa _ cb hlen2.out) (Nat.le_refl _) (fun k hk => ⟨by rw [hsa'.out]; (try dsimp only at hk); omega, rfl⟩) (fun _ => rfl)
    (fun pre A => IW T m R ss w bad pre.length A) (fun _ _ _ => False) (fun k => k = w.heap.size)
    (fun k hk => ⟨by rw [hsa'.out]; (try dsimp only at hk); omega, by (try dsimp only at hk ⊢); omega⟩) ?hI (fun _ _ _ _ h _ => h) (fun pre A h => let ⟨_, _, _, _, _, _, _, hg⟩ := h; hx2.out A hg) h0.out ?round ?done (fun _ _ _ _ _ _ h _ => h.elim)
  case hI =>
    rintro pre A B ⟨f, g2, lb2, F2, h1, h2, h3, h4⟩ hch
    have e := hsa'.out
    replace hch := hch.mono (T' := fun k => k = w1.heap.size + 1 ∨ (w1.heap.size + 2 ≤ k ∧ k < w1.heap.size + 4)) (fun k hk => hk.imp id fun h => by omega)
    have hn : ¬ (w.heap.size = w1.heap.size + 1 ∨ (w1.heap.size + 2 ≤ w.heap.size ∧ w.heap.size < w1.heap.size + 4)) := by omega
    exact ⟨f, g2, lb2, F2, (hch.cell (cell_lt h1) hn).trans h1, (hch.frozen (cell_lt h1) hn).trans h2, h3.ch hch (fun k hk => (hb0.out k).2 (.inr hk)), h4.ch hch (fun k hk => by (try dsimp only at hk); omega)⟩
  case round =>
    intro l' pre x rest A hl2 hlt hxs hI
    obtain ⟨k, hk, rfl, _, hlen3⟩ := backN_split ss _ _ _ _ hxs
    obtain ⟨f, g2, lb2, F2, h1, h2, h3, h4⟩ := hI
    rw [show ss.getD k ⟨0, [], [], 0⟩ = ss[k] from getD_lt hk]
    have hmem : ss[k] ∈ ss := List.getElem_mem hk
    have hdrop : ss.drop (ss.length - (pre ++ [(k, ss[k])]).length) = ss[k] :: ss.drop (ss.length - pre.length) := by
      rw [List.length_append, List.length_singleton, show ss.length - (pre.length + 1) = k by omega, show ss.length - pre.length = k + 1 by omega]
      exact List.drop_eq_getElem_cons hk
    have hr := List.all_eq_true.1 hright'.out _ hmem
    have hls := hl'.out _ hmem
    obtain ⟨s, hs⟩ : ∃ s, ss[k] = s := ⟨_, rfl⟩
    rw [hs] at hr hls hdrop ⊢
    have hkind := right_kind hr
    have hr2 := Lib.hid hr
    have hdrop' := Lib.hid hdrop
    have hkind' := Lib.hid hkind
    have hdl := Lib.hid (show m + (ss.drop (ss.length - pre.length)).length ≤ 1000000 by have := hlen'.out; rw [List.length_drop]; omega)
    have hl3 := Lib.hid hl2
    have hlt' := Lib.hid hlt
    obtain rfl := h3.f
    have h3' := Lib.hid h3
    have h4' := Lib.hid h4
    have hzA : w.heap.size < A.heap.size := cell_lt h1
    have hnl : ¬ (w.heap.size = l') := by have := hsa'.out; omega
    have hnl' := Lib.hid hnl
    clear hs hmem hdrop hr hkind hxs hlt hl2 h3 h4 hlen3 hnl
    unfold encS Stp.V
    dsimp only
    gi_wp2
    refine ⟨Ch.alloc _ _ _, fun A2 hA2 => ?_⟩
    have hgA : Gr A (A.alloc (.cells #[.int .i64 s.kind, .string ⟨s.name.toArray⟩, .string ⟨s.value.toArray⟩, .int .i64 s.n] 35)) := Gr.alloc _ _
    have hAl : ¬ (A.heap.size = l') := by have := hsa'.out; have := hl3.out; have := hlt'.out; omega
    have s0 : A2.cell? ⟨A.heap.size, 0, none⟩ = some (.int .i64 s.kind) := (hA2.cell (by simp) hAl).trans (by simp [go_sem])
    have s1 : A2.cell? ⟨A.heap.size, 1, none⟩ = some (.string ⟨s.name.toArray⟩) := (hA2.cell (by simp) hAl).trans (by simp [go_sem])
    have s2 : A2.cell? ⟨A.heap.size, 2, none⟩ = some (.string ⟨s.value.toArray⟩) := (hA2.cell (by simp) hAl).trans (by simp [go_sem])
    have s3 : A2.cell? ⟨A.heap.size, 3, none⟩ = some (.int .i64 s.n) := (hA2.cell (by simp) hAl).trans (by simp [go_sem])
    have f1 : A2.cell? ⟨w.heap.size, 0, none⟩ = some (.func (.func g2) #[] lb2) := (hA2.cell (by simp; omega) hnl'.out).trans (hgA.cell h1)
    have f2 : A2.frozen? ⟨w.heap.size, 0, none⟩ = false := (hA2.frozen (by simp; omega) hnl'.out).trans ((Below.frozen hgA hzA).trans h2)
    have hcA : Ch (fun k => k = l') A A2 := (hgA.to_ch _).trans hA2
    have hbl : bad l' := (hb0.out l').2 (by have := hsa'.out; have := hl3.out; omega)
    have h5 := Lib.hid (h3'.out.ch hcA (fun k hk => by rw [hk]; exact hbl))
    have h6 := Lib.hid (show Gr w A2 from h4'.out.ch hcA (fun k hk => by have := hsa'.out; have := hl3.out; (try dsimp only at hk); omega))
    have hz2 := Lib.hid (show w1.heap.size + 4 ≤ A2.heap.size by have := hcA.size; have := hlt'.out; have := hsa'.out; omega)
    have har := Lib.hid (around_any s g2 lb2 A2 hkind'.out)
    clear hA2 hAl hcA hbl hgA h1 h2 hzA
    unfold Stp.V at har
    gi_wp2_with fail
    refine (CallsIn.inRound l' (callsIn_wide.2 har.out)).mono ?_
    rintro e A3 ⟨rfl, rfl⟩
    have hgr : Gr A2 (arW s (.func (.func g2) #[] lb2) A2) := (Gr.alloc _ _).alloc1 _
    have f3 := hgr.cell f1
    have f4 := (Below.frozen hgr (cell_lt f1)).trans f2
    have h7 := Lib.hid (h5.out.step s hr2.out hls.1 hdl.out hR'.out (fun k hk => by have := (hb0.out k).1 hk; have := hz2.out; omega))
    clear f1 f2 s0 s1 s2 s3
    have hgr' := Lib.hid hgr
    clear hgr
    gi_wp2
    have h8 := h7.out.ch (Ch.setCell (T := fun k => k = w.heap.size) (arW s (.func (.func g2) #[] lb2) A2) (a := ⟨w.heap.size, 0, none⟩) rfl (.func (.func (arF s.kind)) #[] (arB s.kind A2.heap.size (A2.heap.size + 1)))) (fun k hk => (hb0.out k).2 (.inl hk))
    rw [← hdrop'.out] at h8
    exact ⟨(hgr'.out.to_ch _).trans (Ch.setCell (T := fun k => k = w.heap.size) _ (a := ⟨w.heap.size, 0, none⟩) rfl _), _, _, _, _, cell_set_same f3, frozen_set.trans f4, h8, (h6.out.trans hgr'.out).setCell (Nat.le_refl _) _⟩
  case done =>
    rintro D A hD ⟨f, g2, lb2, F2, h1, h2, h3, h4⟩ hK
    have h3' := Lib.hid h3
    have h4' := Lib.hid h4
    have hDz := Lib.hid hD
    clear h3 h4 hD
    gi_wp2
    refine ⟨by simp, .inl ⟨_, _, rfl, run_takeDeferred hK, ?_⟩⟩
    obtain rfl := h3'.out.f
    refine ⟨.tuple #[.func (.func g2) #[] lb2, .int .i64 0], by simp [results, Tryd.results14, go_sem], ?_⟩
    have hch : Ch (fun k => k = D) A (A.putObj D (.deferred none)) := Ch.putObj (T := fun k => k = D) _ rfl _
    have hDb : bad D := (hb0.out D).2 (by have := hsa'.out; have := hDz.out; omega)
    have h5 := h3'.out.ch hch (fun k hk => by rw [hk]; exact hDb)
    rw [backN_len, Nat.sub_self, List.drop_zero] at h5
    exact ⟨.func (.func g2) #[] lb2, g2, lb2, F2, rfl, ⟨h5.f, h5.enters, h5.side, fun _ _ h => h, h5.does⟩, h4'.out.ch hch (fun k hk => by have := hsa'.out; have := hDz.out; (try dsimp only at hk); omega)⟩

theorem run_equalIn_nil_nil {P : Program} (w : World) (d : Nat) {t : TypeId} {a b : Array TypeId} {v : Bool} (ht : P.underlying t = some (.func a b v)) :
    (Op.equalIn (d + 1) t .nilFunc .nilFunc).run P w = .ok true w := by
  simp [Op.equalIn, run_underlying ht]
/-- nil is nil. -/
theorem run_eql_nil_nil {P : Program} (w : World) {t : TypeId} {a b : Array TypeId} {v : Bool} (ht : P.underlying t = some (.func a b v)) :
    (binOp .eql t .nilFunc .nilFunc).run P w = .ok (.bool true) w := by
  simp only [binOp]
  simp [Op.equal, Op.maxDepth, run_equalIn_nil_nil w 9999 ht]
/-- Wrap, when there is a handler and the steps may not be: too many, or one that is not right. -/
def WrapNo (n : Int) (w : World) (e : Ending) (w' : World) : Prop := e = .returned (.tuple #[.nilFunc, .int .i64 n]) ∧ Gr w w'
set_option maxHeartbeats 2000000 in
theorem wrap_full (p : Option Addr) (n cap : Nat) (g : Nat) (lb : Array Value) (w : World) (hlen : 8 < n) (hn : n ≤ 9223372036854775807) :
    Calls Tryd.prog 14 #[.slice p n cap, .func (.func g) #[] lb] w (WrapNo 6 w) := by
  refine (callsIn_wide (n := 0)).1 ?_
  have hfn : ∀ f, Fence.wide.fn f := fun _ => trivial
  have hdp : Fence.wide.depth = none := rfl
  have hnf := fun (w : World) f x c => run_eql_func_nil (P := Tryd.prog) w Tryd.underlying40 f x c
  have hlenb : decide ((n : Int) > 8) = true := by simp; omega
  refine callsIn_of_wp_marks Tryd.func14 rfl trivial ?_ rfl
  simp only [Tryd.ntmps14, List.size_toArray, List.length_cons, List.length_nil, Nat.reduceAdd, Nat.reduceSub, Array.replicate_succ, Array.replicate_zero, List.push_toArray, List.append_toArray, List.nil_append, List.cons_append]
  gi_wp2_with fail
  exact ⟨.tuple #[.nilFunc, .int .i64 6], by simp [results, Tryd.results14, go_sem], rfl, Gr.alloc _ _⟩
set_option maxHeartbeats 2000000 in
theorem wrap_nil (p : Option Addr) (n cap : Nat) (w : World) :
    Calls Tryd.prog 14 #[.slice p n cap, .nilFunc] w (WrapNo 2 w) := by
  refine (callsIn_wide (n := 0)).1 ?_
  have hfn : ∀ f, Fence.wide.fn f := fun _ => trivial
  have hdp : Fence.wide.depth = none := rfl
  have hnf := fun (w : World) => run_eql_nil_nil (P := Tryd.prog) w Tryd.underlying40
  refine callsIn_of_wp_marks Tryd.func14 rfl trivial ?_ rfl
  simp only [Tryd.ntmps14, List.size_toArray, List.length_cons, List.length_nil, Nat.reduceAdd, Nat.reduceSub, Array.replicate_succ, Array.replicate_zero, List.push_toArray, List.append_toArray, List.nil_append, List.cons_append]
  gi_wp2_with fail
  exact ⟨.tuple #[.nilFunc, .int .i64 2], by simp [results, Tryd.results14, go_sem], rfl, Gr.alloc _ _⟩
set_option maxHeartbeats 2000000 in
theorem wrap_wrong (p : Option Addr) (cap : Nat) (ss : List Stp) (g : Nat) (lb : Array Value) (w : World) (hG : G w) (hx : StepsAt w (.slice p ss.length cap) ss) (hlen : ss.length ≤ 8) (hwrong : ss.all rightB = false)
    (hl : ∀ s ∈ ss, s.name.length ≤ 1000 ∧ s.value.length ≤ 1000) :
    Calls Tryd.prog 14 #[.slice p ss.length cap, .func (.func g) #[] lb] w (WrapNo 1 w) := by
  refine (callsIn_wide (n := 0)).1 ?_
  have hfn : ∀ f, Fence.wide.fn f := fun _ => trivial
  have hdp : Fence.wide.depth = none := rfl
  have hnf := fun (w : World) f x c => run_eql_func_nil (P := Tryd.prog) w Tryd.underlying40 f x c
  have hcw := Lib.hid (fun W h => anywrong_any (.slice p ss.length cap) ss W (hG.gr h) (hx.gr h) (Nat.le_trans hlen (by decide)) hl)
  rw [hwrong] at hcw
  have hlenb : decide ((ss.length : Int) > 8) = false := by simp; omega
  clear hx hG hl hwrong hlen
  refine callsIn_of_wp_marks Tryd.func14 rfl trivial ?_ rfl
  simp only [Tryd.ntmps14, List.size_toArray, List.length_cons, List.length_nil, Nat.reduceAdd, Nat.reduceSub, Array.replicate_succ, Array.replicate_zero, List.push_toArray, List.append_toArray, List.nil_append, List.cons_append]
  gi_wp2_with fail
  refine (callsIn_wide.2 (hcw.out _ (Gr.alloc _ _))).mono ?_
  rintro e w1 ⟨rfl, hb⟩
  have hg1 := Lib.hid ((Gr.alloc _ _).trans hb)
  clear hb hcw
  gi_wp2_with fail
  exact ⟨.tuple #[.nilFunc, .int .i64 1], by simp [results, Tryd.results14, go_sem], rfl, hg1.out⟩
end Go.Proofs.YtolpphmgobeocaaDoor
