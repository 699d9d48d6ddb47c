/-
  The walk over FieldParts.
-/
import Derived.Test.YtpjocannogcejaaDoorL
import Derived.Test.YtpjocannogcejaaDoorP4
import Derived.Test.YtpjocannogcejaaDoorK
import Derived.Maps.OwnIn
import Derived.Deep.AppendLies
namespace Go.Proofs.YtpjocannogcejaaDoor
open Go.RowKit Go.Shelf
attribute [local go_sem] Oper.semAt_some

/-- What every part of the walk keeps: the two texts, the result's cell. -/
structure PS (s t : List UInt8) (w A : World) : Prop where
  gr : Gr w A
  cs : A.cell? ⟨w.heap.size, 0, none⟩ = some (.string ⟨s.toArray⟩)
  ct : A.cell? ⟨w.heap.size + 1, 0, none⟩ = some (.string ⟨t.toArray⟩)
  cr : A.cell? ⟨w.heap.size + 1 + 1, 0, none⟩ = some (.bool false)
  kr : A.frozen? ⟨w.heap.size + 1 + 1, 0, none⟩ = false
theorem PS.lt {s t : List UInt8} {w A : World} (h : PS s t w A) : w.heap.size + 2 < A.heap.size := cell_lt h.cr
theorem PS.ch {s t : List UInt8} {w A B : World} {T : Nat → Prop} (h : PS s t w A) (hc : Ch T A B) (ht : ∀ k, T k → w.heap.size + 3 ≤ k) : PS s t w B :=
  have hn : ∀ k, k < w.heap.size + 3 → ¬ T k := fun k hk hT => by have := ht k hT; omega
  ⟨h.gr.ch hc (fun k hk => by have := ht k hk; omega), (hc.cell (cell_lt h.cs) (hn _ (by (try dsimp only); omega))).trans h.cs, (hc.cell (cell_lt h.ct) (hn _ (by (try dsimp only); omega))).trans h.ct,
    (hc.cell (cell_lt h.cr) (hn _ (by (try dsimp only); omega))).trans h.cr, (hc.frozen (cell_lt h.cr) (hn _ (by (try dsimp only); omega))).trans h.kr⟩
theorem PS.grow {s t : List UInt8} {w A B : World} (h : PS s t w A) (hb : Gr A B) : PS s t w B := h.ch (hb.to_ch (fun _ => False)) (fun _ e => e.elim)
/-- The slice of texts in the variable at block L; its row is where ok says. -/
def LRow (L : Nat) (ok : Nat → Prop) (xs : List (List UInt8)) (A : World) : Prop :=
  ∃ v, A.cell? ⟨L, 0, none⟩ = some v ∧ A.frozen? ⟨L, 0, none⟩ = false ∧ A.ownsRow 0 9 1 v xs.length (xs.map sv) ∧ ∀ k, v.ownBlock = some k → ok k
theorem ownsRow_same {A B : World} {base : Nat} {e : TypeId} {size : Nat} {v : Value} {n : Nat} {xs : List Value} (h : A.ownsRow base e size v n xs) (hb : ∀ k, v.ownBlock = some k → B.heap[k]? = A.heap[k]?) : B.ownsRow base e size v n xs := by
  obtain ⟨h1, h2⟩ := h
  rcases h2 with h2 | ⟨g, cap, cur, rfl, hg, hh, hr⟩
  · exact ⟨h1, .inl h2⟩
  · exact ⟨h1, .inr ⟨g, cap, cur, rfl, hg, (hb g rfl).trans hh, hr⟩⟩
theorem LRow.ch {L : Nat} {ok : Nat → Prop} {xs : List (List UInt8)} {A B : World} {T : Nat → Prop} (h : LRow L ok xs A) (hc : Ch T A B) (hL : ¬ T L) (ht : ∀ k, ok k → ¬ T k) : LRow L ok xs B := by
  obtain ⟨v, h1, h2, h3, h4⟩ := h
  exact ⟨v, (hc.cell (cell_lt h1) hL).trans h1, (hc.frozen (cell_lt h1) hL).trans h2, ownsRow_same h3 (fun k hk => hc.block k (h3.lt k hk).2 (ht k (h4 k hk))), h4⟩
theorem LRow.imp {L : Nat} {ok ok' : Nat → Prop} {xs : List (List UInt8)} {A : World} (h : LRow L ok xs A) (hi : ∀ k, ok k → k < A.heap.size → ok' k) : LRow L ok' xs A := by
  obtain ⟨v, h1, h2, h3, h4⟩ := h
  exact ⟨v, h1, h2, h3, fun k hk => hi k (h4 k hk) (h3.lt k hk).2⟩
theorem LRow.lt {L : Nat} {ok : Nat → Prop} {xs : List (List UInt8)} {A : World} (h : LRow L ok xs A) : L < A.heap.size := let ⟨_, h1, _⟩ := h; cell_lt h1
theorem LRow.new {L : Nat} {ok : Nat → Prop} {A : World} (h : A.cell? ⟨L, 0, none⟩ = some (.slice none 0 0)) (hf : A.frozen? ⟨L, 0, none⟩ = false) : LRow L ok [] A :=
  ⟨_, h, hf, World.ownsRow_nil _ _ _ _, fun k hk => by simp [Value.ownBlock] at hk⟩

theorem LRow.slice {L : Nat} {ok : Nat → Prop} {xs : List (List UInt8)} {A : World} (h : LRow L ok xs A) : ∃ p cap, A.cell? ⟨L, 0, none⟩ = some (.slice p xs.length cap) ∧ StrsAt A (.slice p xs.length cap) xs := by
  obtain ⟨v, h1, _, h3, _⟩ := h
  have hst := strsAt_of_owns h3
  obtain ⟨p, cap, rfl, _⟩ := id hst
  exact ⟨p, cap, h1, hst⟩
theorem deferred_ch {A B : World} {T : Nat → Prop} {D : Nat} (h : A.heap[D]? = some (.deferred (some []))) (hc : Ch T A B) (ht : ¬ T D) : B.heap[D]? = some (.deferred (some [])) := hc.get h ht
theorem grown_var {L : Nat} {ok : Nat → Prop} {A2 w5 : World} {o : Obj} {v : Value} (q1 : A2.cell? ⟨L, 0, none⟩ = some v) (q2 : A2.frozen? ⟨L, 0, none⟩ = false) (q4 : ∀ k, v.ownBlock = some k → ok k) (hL : ¬ ok L)
    (hgrow : (A2.alloc o).grownBy w5 v.ownBlock) : w5.cell? ⟨L, 0, none⟩ = some v ∧ w5.frozen? ⟨L, 0, none⟩ = false := by
  have hc2 : Ch ok (A2.alloc o) w5 := ⟨hgrow.os, hgrow.tape, hgrow.output, hgrow.size, fun k hk hn => hgrow.block k hk (fun e => hn (q4 k e.symm))⟩
  have hc0 : Ch ok A2 w5 := (Ch.alloc _ _ _).trans hc2
  exact ⟨(hc0.cell (cell_lt q1) hL).trans q1, (hc0.frozen (cell_lt q1) hL).trans q2⟩
theorem LRow.append {L : Nat} {ok : Nat → Prop} {pre : List (List UInt8)} {x : List UInt8} {A2 w5 : World} {o : Obj} {v v' : Value} (q1 : A2.cell? ⟨L, 0, none⟩ = some v) (q2 : A2.frozen? ⟨L, 0, none⟩ = false) (q4 : ∀ k, v.ownBlock = some k → ok k) (hL : ¬ ok L)
    (hown : w5.ownsRow 0 9 1 v' (pre.length + 1) (pre.map sv ++ [.string ⟨x.toArray⟩])) (hgrow : (A2.alloc o).grownBy w5 v.ownBlock) (hat : v'.ownBlock = v.ownBlock ∨ v'.ownBlock = some (A2.alloc o).heap.size) (hok : ok (A2.heap.size + 1)) :
    Ch (fun k => k = L ∨ ok k) A2 (w5.setCell ⟨L, 0, none⟩ v') ∧ LRow L ok (pre ++ [x]) (w5.setCell ⟨L, 0, none⟩ v') := by
  have hLlt := cell_lt q1
  have hc1 : Ch (fun k => k = L ∨ ok k) (A2.alloc o) w5 := ⟨hgrow.os, hgrow.tape, hgrow.output, hgrow.size, fun k hk hn => hgrow.block k hk (fun e => hn (.inr (q4 k e.symm)))⟩
  have hc2 : Ch ok (A2.alloc o) w5 := ⟨hgrow.os, hgrow.tape, hgrow.output, hgrow.size, fun k hk hn => hgrow.block k hk (fun e => hn (q4 k e.symm))⟩
  have hc0 : Ch ok A2 w5 := (Ch.alloc _ _ _).trans hc2
  have r1 := (hc0.cell hLlt hL).trans q1
  have r2 := (hc0.frozen hLlt hL).trans q2
  have hok' : ∀ k, v'.ownBlock = some k → ok k := fun k hk => by
    rcases hat with hat | hat
    · exact q4 k (hat.symm.trans hk)
    · rw [hat, World.size_alloc] at hk
      cases hk; exact hok
  refine ⟨((Ch.alloc _ _ _).trans hc1).trans (Ch.setCell _ (.inl rfl) _), v', cell_set_same r1, by rw [frozen_set]; exact r2, ?_, hok'⟩
  rw [List.length_append, List.map_append]
  exact ownsRow_same hown (fun k hk => Below.heap_setCell _ _ _ _ (fun e => hL (by have := hok' k hk; rw [e] at this; exact this)))

set_option maxHeartbeats 4000000 in
theorem parts_law_any (s t : List UInt8) (w : World) (hG : G w) (hs : s.length ≤ 9223372036854775807) (ht : t.length ≤ 9223372036854775807) :
    Calls Tryd.prog 8 #[.string ⟨s.toArray⟩, .string ⟨t.toArray⟩] w fun e w' => e = .returned (.bool true) ∧ Gr w w' := by
  refine (callsIn_wide (n := 0)).1 ?_
  have hfn : ∀ f, Fence.wide.fn f := fun _ => trivial
  have hdp : Fence.wide.depth = none := rfl
  have hG' := Lib.hid hG
  clear hG
  obtain ⟨i0, hi, hi0, hi1, hi2⟩ := info_parts infoStr
  refine callsIn_of_wp_marks Tryd.func8 rfl trivial ?_ rfl
  simp only [Tryd.ntmps8, List.size_toArray, List.length_cons, List.length_nil, Nat.reduceAdd, Nat.reduceSub, Array.replicate_succ, Array.replicate_zero, List.push_toArray, List.append_toArray, List.nil_append, List.cons_append]
  gi_wp2_with fail
  have hps0 : PS s t w (((w.alloc (.cells #[.string ⟨s.toArray⟩] 9)).alloc (.cells #[.string ⟨t.toArray⟩] 9)).alloc (.cells #[.bool false] 4)) :=
    ⟨((Gr.alloc _ _).alloc1 _).alloc1 _, by simp [go_sem], by simp [go_sem], by simp [go_sem], by simp [go_sem]⟩
  refine (callsIn_wide.2 (awake_any _ (hG'.out.gr hps0.gr))).mono ?_
  rintro e w1 ⟨rfl, hb⟩
  have hps1 := Lib.hid (hps0.grow hb)
  clear hb hps0
  by_cases hsmall : s.length ≤ 1000 ∧ t.length ≤ 1000
  · obtain ⟨hls, hlt⟩ := hsmall
    have hnf := fun (w : World) f x c => run_eql_func_nil (P := Tryd.prog) w Tryd.underlying27 f x c
    have hev : ∀ b, eachV b = Value.func (.func 28) #[] #[.pointer (some ⟨b, 0, none⟩)] := fun _ => rfl
    have c1 := hps1.out.cs
    have c2 := hps1.out.ct
    have hz1 : w.heap.size < w1.heap.size := by have := hps1.out.lt; omega
    have hz2 : w.heap.size + 1 < w1.heap.size := by have := hps1.out.lt; omega
    gi_wp2_with fail
    refine (callsIn_wide.2 (each_any _ _)).mono ?_
    rintro e wa ⟨rfl, rfl⟩
    gi_wp2_with fail
    refine (callsIn_wide.2 (each_any _ _)).mono ?_
    rintro e wa ⟨rfl, rfl⟩
    gi_wp2_with fail
    obtain ⟨wa, hwa⟩ : ∃ wa, ((w1.alloc (.cells #[.slice none 0 0] 34)).alloc (.cells #[.string ⟨s.toArray⟩] 9)).alloc (.cells #[.string ⟨s.toArray⟩] 9) = wa := ⟨_, rfl⟩
    rw [hwa]
    have hsa := Lib.hid (show wa.heap.size = w1.heap.size + 3 by rw [← hwa]; simp)
    have hgra : Gr w1 wa := by rw [← hwa]; exact ((Gr.alloc _ _).alloc1 _).alloc1 _
    have d1 : wa.cell? ⟨w1.heap.size, 0, none⟩ = some (.slice none 0 0) := by rw [← hwa]; simp [go_sem]
    have kd : wa.frozen? ⟨w1.heap.size, 0, none⟩ = false := by rw [← hwa]; simp [go_sem]
    have d3 : wa.cell? ⟨w1.heap.size + 1 + 1, 0, none⟩ = some (.string ⟨s.toArray⟩) := by rw [← hwa]; simp [go_sem]
    have hpsa := Lib.hid (hps1.out.grow hgra)
    have hlra := Lib.hid (LRow.new (ok := fun k => w1.heap.size + 11 ≤ k) d1 kd)
    have hz3 := Lib.hid hps1.out.lt
    have hns := Lib.hid (show (partsB s).length ≤ 1001 from Nat.le_trans (partsOf_len _) (Nat.le_trans (splitB_length 44 s) (by omega)))
    have hnt := Lib.hid (show (partsB t).length ≤ 1001 from Nat.le_trans (partsOf_len _) (Nat.le_trans (splitB_length 44 t) (by omega)))
    clear hwa hgra d1 kd c1 c2 hz1 hz2
    refine wpIn_range (gf := 28) rfl (enters_of Tryd.func28 (by kernel_rfl) rfl) (each_iter _ wa _ d3 (by omega)) (Nat.le_refl _) (fun k hk => ⟨by rw [hsa.out]; (try dsimp only at hk); omega, rfl⟩) (fun _ => rfl)
      (fun pre A => PS s t w A ∧ LRow w1.heap.size (fun k => w1.heap.size + 11 ≤ k) pre A)
      (fun _ _ _ => False) (fun k => k = w1.heap.size ∨ w1.heap.size + 11 ≤ k)
      (fun k hk => ⟨by rw [hsa.out]; (try dsimp only at hk); omega, by (try dsimp only at hk ⊢); omega⟩) ?hI1 (fun _ _ _ _ h _ => h) (fun _ _ _ => trivial) ⟨hpsa.out, hlra.out⟩ ?round1 ?done1 (fun _ _ _ _ _ _ h _ => h.elim)
    case hI1 =>
      rintro pre A B ⟨h1, h2⟩ hch
      have e := hsa.out
      have e3 := hz3.out
      exact ⟨h1.ch hch (fun k hk => by (try dsimp only at hk); omega), h2.ch hch (by (try dsimp only); omega) (fun k hk hT => by (try dsimp only at hk hT); omega)⟩
    case round1 =>
      intro l' pre x rest A hl' hlt' hxs hI
      obtain ⟨h1, h2⟩ := hI
      have e := hsa.out
      have e3 := hz3.out
      have e4 := hns.out
      rw [hxs] at e4
      simp only [List.length_append, List.length_cons] at e4
      have hlen := Lib.hid (show pre.length + 1 ≤ maxLen from by unfold maxLen; omega)
      have hby := Lib.hid (show (pre.length + 1) * 16 ≤ 140737488355328 from by omega)
      have hok : w1.heap.size + 11 ≤ A.heap.size := by omega
      clear e4 hxs
      gi_wp2
      refine ⟨Ch.refl _ _, fun A2 hA2 => ?_⟩
      have g1 := Lib.hid (h1.ch hA2 (fun k hk => by (try dsimp only at hk); omega))
      obtain ⟨v, q1, q2, q3, q4⟩ := h2.ch hA2 (by (try dsimp only); omega) (fun k hk hT => by (try dsimp only at hk hT); omega)
      have q3' := Lib.hid q3
      have q4' := Lib.hid q4
      have hok2 := Lib.hid (Nat.le_trans hok hA2.size)
      have hnL := Lib.hid (show ¬ w1.heap.size + 11 ≤ w1.heap.size by omega)
      clear h1 h2 hA2 e e3 hok q3 q4 hl' hlt'
      gi_wp2_with (gi_at_builtin; refine wpListIn_append_own_at _ rfl _ _ 34 rfl 0 9 i0 (.string ⟨#[]⟩) 1 16 Tryd.underlying34 hi hi0 hi1 hi2 rfl (by decide) _ _ _ rfl (q3'.out.alloc _) ⟨A2.heap.size, 0, none⟩ 1 1 [.string ⟨x.toArray⟩] rfl rfl (cell_one_new _ _ _) (by simp [Value.oneCell']) (hlen.out) (hby.out) (Nat.zero_le _) ?_; intro v' w5 hown2 hgrow _ hat; obtain ⟨r1, r2⟩ := grown_var q1 q2 q4'.out hnL.out hgrow; obtain ⟨g', cap', hv', _, _⟩ := hown2.form (Nat.succ_pos _); subst hv'; have hown2' := Lib.hid hown2; have hgrow' := Lib.hid hgrow; have hat' := Lib.hid hat; clear hown2 hgrow hat)
      obtain ⟨f1, f2⟩ := LRow.append q1 q2 q4'.out hnL.out hown2'.out hgrow'.out hat'.out (Nat.le_trans hok2.out (Nat.le_succ _))
      have e3 := hz3.out
      exact ⟨f1, g1.out.ch f1 (fun k hk => by (try dsimp only at hk); omega), f2⟩
    case done1 =>
      rintro D1 A1 hD1 ⟨hp, hl⟩ hK1
      have hnf := fun (w : World) f x c => run_eql_func_nil (P := Tryd.prog) w Tryd.underlying27 f x c
      have hev : ∀ b, eachV b = Value.func (.func 28) #[] #[.pointer (some ⟨b, 0, none⟩)] := fun _ => rfl
      have hD1' := Lib.hid (show w1.heap.size + 3 ≤ D1 ∧ D1 < w1.heap.size + 11 ∧ D1 < A1.heap.size by
        have := hsa.out
        have := (Array.getElem?_eq_some_iff.1 hK1).1
        omega)
      have hK1' := Lib.hid hK1
      have hl' := Lib.hid hl
      have hp' := Lib.hid hp
      obtain ⟨p1, cap1, c1, _⟩ := hl.slice
      have c2 := hp.ct
      have hz1 := hp.lt
      have hz2 : w.heap.size + 1 < A1.heap.size := by omega
      have hLz := hl.lt
      clear hK1 hl hp hD1 hlra hpsa d3
      gi_wp2_with fail
      refine (callsIn_wide.2 (each_any _ _)).mono ?_
      rintro e wb ⟨rfl, rfl⟩
      gi_wp2_with fail
      refine (callsIn_wide.2 (each_any _ _)).mono ?_
      rintro e wb ⟨rfl, rfl⟩
      gi_wp2_with fail
      obtain ⟨wb, hwb⟩ : ∃ wb, (A1.alloc (.cells #[.string ⟨t.toArray⟩] 9)).alloc (.cells #[.string ⟨t.toArray⟩] 9) = wb := ⟨_, rfl⟩
      rw [hwb]
      have hsb := Lib.hid (show wb.heap.size = A1.heap.size + 2 by rw [← hwb]; simp)
      have hgrb : Gr A1 wb := by rw [← hwb]; exact (Gr.alloc _ _).alloc1 _
      have d3 : wb.cell? ⟨A1.heap.size + 1, 0, none⟩ = some (.string ⟨t.toArray⟩) := by rw [← hwb]; simp [go_sem]
      have hpsb := Lib.hid (hp'.out.grow hgrb)
      have hLw := Lib.hid (show w1.heap.size < A1.heap.size from hLz)
      have hlrb := Lib.hid ((hl'.out.imp (ok' := fun k => (w1.heap.size + 11 ≤ k ∧ k < A1.heap.size) ∨ A1.heap.size + 10 ≤ k) (fun k h1 h2 => .inl ⟨h1, h2⟩)).ch (hgrb.to_ch (fun _ => False)) (fun e => e) (fun _ _ e => e))
      have hKb := Lib.hid (deferred_ch hK1'.out (hgrb.to_ch (fun _ => False)) (fun e => e))
      clear hwb hgrb c1 c2 hz1 hz2 hLz hl' hp' hK1'
      refine wpIn_range (gf := 28) rfl (enters_of Tryd.func28 (by kernel_rfl) rfl) (each_iter _ wb _ d3 (by omega)) (Nat.le_refl _) (fun k hk => ⟨by rw [hsb.out]; (try dsimp only at hk); omega, rfl⟩) (fun _ => rfl)
        (fun pre A => PS s t w A ∧ LRow w1.heap.size (fun k => (w1.heap.size + 11 ≤ k ∧ k < A1.heap.size) ∨ A1.heap.size + 10 ≤ k) (partsB s ++ pre) A ∧ A.heap[D1]? = some (.deferred (some [])))
        (fun _ _ _ => False) (fun k => k = w1.heap.size ∨ ((w1.heap.size + 11 ≤ k ∧ k < A1.heap.size) ∨ A1.heap.size + 10 ≤ k))
        (fun k hk => ⟨by rw [hsb.out]; have := hLw.out; (try dsimp only at hk); omega, by have := hLw.out; (try dsimp only at hk ⊢); omega⟩) ?hI2 (fun _ _ _ _ h _ => h) (fun _ _ _ => trivial) ⟨hpsb.out, by rw [List.append_nil]; exact hlrb.out, hKb.out⟩ ?round2 ?done2 (fun _ _ _ _ _ _ h _ => h.elim)
      case hI2 =>
        rintro pre A B ⟨h1, h2, h3⟩ hch
        have e := hsb.out
        have e2 := hD1'.out
        have e3 := hz3.out
        have e4 := hLw.out
        exact ⟨h1.ch hch (fun k hk => by (try dsimp only at hk); omega), h2.ch hch (by (try dsimp only); omega) (fun k hk hT => by (try dsimp only at hk hT); omega), deferred_ch h3 hch (by (try dsimp only); omega)⟩
      case round2 =>
        intro l' pre x rest A hl' hlt' hxs hI
        obtain ⟨h1, h2, h3⟩ := hI
        have e := hsb.out
        have e2 := hD1'.out
        have e3 := hz3.out
        have e4 := hnt.out
        have e5 := hns.out
        have e6 := hLw.out
        rw [hxs] at e4
        simp only [List.length_append, List.length_cons] at e4
        have hlen := Lib.hid (show (partsB s ++ pre).length + 1 ≤ maxLen from by unfold maxLen; rw [List.length_append]; omega)
        have hby := Lib.hid (show ((partsB s ++ pre).length + 1) * 16 ≤ 140737488355328 from by rw [List.length_append]; omega)
        have hok : A1.heap.size + 10 ≤ A.heap.size := by omega
        clear e4 e5 hxs
        gi_wp2
        refine ⟨Ch.refl _ _, fun A2 hA2 => ?_⟩
        have g1 := Lib.hid (h1.ch hA2 (fun k hk => by (try dsimp only at hk); omega))
        have g3 := Lib.hid (deferred_ch h3 hA2 (by (try dsimp only); omega))
        obtain ⟨v, q1, q2, q3, q4⟩ := h2.ch hA2 (by (try dsimp only); omega) (fun k hk hT => by (try dsimp only at hk hT); omega)
        have q3' := Lib.hid q3
        have q4' := Lib.hid q4
        have hok2 := Lib.hid (Nat.le_trans hok hA2.size)
        have hnL := Lib.hid (show ¬ ((w1.heap.size + 11 ≤ w1.heap.size ∧ w1.heap.size < A1.heap.size) ∨ A1.heap.size + 10 ≤ w1.heap.size) by omega)
        have hassoc := Lib.hid (List.append_assoc (partsB s) pre [x])
        obtain ⟨ps, hpsd⟩ : ∃ ps, partsB s ++ pre = ps := ⟨_, rfl⟩
        rw [hpsd] at q3' hlen hby hassoc
        clear h1 h2 h3 hA2 e e2 e3 e6 hok q3 q4 hl' hlt'
        gi_wp2_with (gi_at_builtin; refine wpListIn_append_own_at _ rfl _ _ 34 rfl 0 9 i0 (.string ⟨#[]⟩) 1 16 Tryd.underlying34 hi hi0 hi1 hi2 rfl (by decide) _ _ _ rfl (q3'.out.alloc _) ⟨A2.heap.size, 0, none⟩ 1 1 [.string ⟨x.toArray⟩] rfl rfl (cell_one_new _ _ _) (by simp [Value.oneCell']) (hlen.out) (hby.out) (Nat.zero_le _) ?_; intro v' w5 hown2 hgrow _ hat; obtain ⟨r1, r2⟩ := grown_var (ok := fun k => (w1.heap.size + 11 ≤ k ∧ k < A1.heap.size) ∨ A1.heap.size + 10 ≤ k) q1 q2 q4'.out hnL.out hgrow; obtain ⟨g', cap', hv', _, _⟩ := hown2.form (Nat.succ_pos _); subst hv'; have hown2' := Lib.hid hown2; have hgrow' := Lib.hid hgrow; have hat' := Lib.hid hat; clear hown2 hgrow hat)
        obtain ⟨f1, f2⟩ := LRow.append (ok := fun k => (w1.heap.size + 11 ≤ k ∧ k < A1.heap.size) ∨ A1.heap.size + 10 ≤ k) q1 q2 q4'.out hnL.out hown2'.out hgrow'.out hat'.out (.inr (Nat.le_trans hok2.out (Nat.le_succ _)))
        have e2 := hD1'.out
        have e3 := hz3.out
        have e6 := hLw.out
        exact ⟨f1, g1.out.ch f1 (fun k hk => by (try dsimp only at hk); omega), by rw [← hassoc.out]; exact f2, deferred_ch g3.out f1 (by (try dsimp only); omega)⟩
      case done2 =>
        rintro D2 A2 hD2 ⟨hp, hl, hK1⟩ hK2
        have hnf := fun (w : World) f x c => run_eql_func_nil (P := Tryd.prog) w Tryd.underlying27 f x c
        have hev : ∀ b, eachV b = Value.func (.func 28) #[] #[.pointer (some ⟨b, 0, none⟩)] := fun _ => rfl
        have hD2' := Lib.hid (show D1 < D2 ∧ D2 < A2.heap.size ∧ w1.heap.size < D1 by
          have := hsb.out
          have := hD1'.out
          have := (Array.getElem?_eq_some_iff.1 hK2).1
          omega)
        obtain ⟨ps, hpsd⟩ : ∃ ps, partsB s ++ partsB t = ps := ⟨_, rfl⟩
        have hps := Lib.hid hpsd
        rw [hpsd] at hl
        have hpl := Lib.hid (show ps.length ≤ 2002 from by rw [← hpsd, List.length_append]; have := hns.out; have := hnt.out; omega)
        have hsl := Lib.hid (show (partsB s).length ≤ ps.length from by rw [← hpsd, List.length_append]; omega)
        clear hpsd
        obtain ⟨x1, hx1⟩ : ∃ x, s ++ [32, 44, 9] = x := ⟨_, rfl⟩
        obtain ⟨x2, hx2⟩ : ∃ x, x1 ++ t = x := ⟨_, rfl⟩
        have e1 : (⟨s.toArray⟩ : ByteArray) ++ ⟨#[32, 44, 9]⟩ = ⟨x1.toArray⟩ := hx1 ▸ cat_mk s [32, 44, 9]
        have e2 : (⟨x1.toArray⟩ : ByteArray) ++ ⟨t.toArray⟩ = ⟨x2.toArray⟩ := hx2 ▸ cat_mk x1 t
        have n1 : x1.length ≤ 1003 := by rw [← hx1]; simp; omega
        have n2 : x2.length ≤ 2003 := by rw [← hx2]; simp; omega
        have hpx := Lib.hid (show partsB x2 = ps from by rw [← hx2, ← hx1, partsB_commas]; exact hps.out)
        clear hx1 hx2
        have hl' := Lib.hid hl
        have hp' := Lib.hid hp
        have hK1' := Lib.hid hK1
        have hK2' := Lib.hid hK2
        obtain ⟨p1, cap1, c1, _⟩ := hl.slice
        have c2 := hp.cs
        have c3 := hp.ct
        have hz1 : w.heap.size < A2.heap.size := by have := hp.lt; omega
        have hz2 : w.heap.size + 1 < A2.heap.size := by have := hp.lt; omega
        have hLz := hl.lt
        have hlen1 : (partsB s).length = (partsB s ++ []).length := by simp
        clear hK1 hK2 hl hp hD2 hlrb hpsb d3 hKb
        gi_wp2_with fail
        refine (callsIn_wide.2 (each_any _ _)).mono ?_
        rintro e wc ⟨rfl, rfl⟩
        obtain ⟨W3, hW3⟩ : ∃ W3, ((A2.alloc (.cells #[.string ⟨#[]⟩] 9)).alloc (.cells #[.int .i64 0] 3)).alloc (.cells #[.string ⟨x2.toArray⟩] 9) = W3 := ⟨_, rfl⟩
        rw [hW3]
        have hg3 : Gr A2 W3 := by rw [← hW3]; exact ((Gr.alloc _ _).alloc1 _).alloc1 _
        have hs3 : W3.heap.size = A2.heap.size + 1 + 1 + 1 := by rw [← hW3]; simp
        have b1 : W3.cell? ⟨A2.heap.size, 0, none⟩ = some (.string ⟨#[]⟩) := by rw [← hW3]; simp [go_sem]
        have b2 : W3.frozen? ⟨A2.heap.size, 0, none⟩ = false := by rw [← hW3]; simp [go_sem]
        have b3 : W3.cell? ⟨A2.heap.size + 1, 0, none⟩ = some (.int .i64 0) := by rw [← hW3]; simp [go_sem]
        have b4 : W3.frozen? ⟨A2.heap.size + 1, 0, none⟩ = false := by rw [← hW3]; simp [go_sem]
        have c2' := hg3.cell c2
        have c3' := hg3.cell c3
        have hszz : (((A2.alloc (.cells #[.string ⟨#[]⟩] 9)).alloc (.cells #[.int .i64 0] 3))).heap.size = A2.heap.size + 1 + 1 := by simp
        try rw [hszz]
        clear hW3 c2 c3 hszz
        gi_wp2_with fail
        refine (callsIn_wide.2 (each_any _ _)).mono ?_
        rintro e wc ⟨rfl, rfl⟩
        obtain ⟨wc, hwc⟩ : ∃ wc, W3.alloc (.cells #[.string ⟨x2.toArray⟩] 9) = wc := ⟨_, rfl⟩
        rw [hwc]
        have hgw : Gr W3 wc := by rw [← hwc]; exact Gr.alloc _ _
        have hsc := Lib.hid (show wc.heap.size = A2.heap.size + 4 by rw [← hwc]; simp [hs3])
        have d3 : wc.cell? ⟨W3.heap.size, 0, none⟩ = some (.string ⟨x2.toArray⟩) := by rw [← hwc]; simp [go_sem]
        rw [hs3] at d3
        have b1' := hgw.cell b1
        have b2' := (Below.frozen hgw (cell_lt b1)).trans b2
        have b3' := hgw.cell b3
        have b4' := (Below.frozen hgw (cell_lt b3)).trans b4
        have hgc := hg3.trans hgw
        have hpsc := Lib.hid (hp'.out.grow hgc)
        have hlrc := Lib.hid ((hl'.out.imp (ok' := fun k => k < A2.heap.size) (fun k _ h => h)).ch (hgc.to_ch (fun _ => False)) (fun e => e) (fun _ _ e => e))
        have hK1c := Lib.hid (deferred_ch hK1'.out (hgc.to_ch (fun _ => False)) (fun e => e))
        have hK2c := Lib.hid (deferred_ch hK2'.out (hgc.to_ch (fun _ => False)) (fun e => e))
        have hs3' := Lib.hid hs3
        have hLz' := Lib.hid hLz
        clear hwc hgw hgc b1 b2 b3 b4 c2' c3' hl' hp' hK1' hK2' hg3 c1 hz1 hz2 hLz
        gi_wp2_with fail
        refine wpIn_range (gf := 28) rfl (enters_of Tryd.func28 (by kernel_rfl) rfl) (each_iter _ wc _ d3 (by omega)) (Nat.le_refl _) (fun k hk => ⟨by rw [hsc.out]; have := hs3'.out; (try dsimp only at hk); omega, rfl⟩) (fun _ => rfl)
          (fun pre A => PS s t w A ∧ LRow w1.heap.size (fun k => k < A2.heap.size) ps A ∧ A.heap[D1]? = some (.deferred (some [])) ∧ A.heap[D2]? = some (.deferred (some [])) ∧
            A.cell? ⟨A2.heap.size, 0, none⟩ = some (.string ⟨(catC pre).toArray⟩) ∧ A.frozen? ⟨A2.heap.size, 0, none⟩ = false ∧ A.cell? ⟨A2.heap.size + 1, 0, none⟩ = some (.int .i64 pre.length) ∧ A.frozen? ⟨A2.heap.size + 1, 0, none⟩ = false)
          (fun _ _ _ => False) (fun k => k = A2.heap.size ∨ k = A2.heap.size + 1)
          (fun k hk => ⟨by rw [hsc.out]; (try dsimp only at hk); omega, by have := hs3'.out; (try dsimp only at hk ⊢); omega⟩) ?hI3 (fun _ _ _ _ h _ => h) (fun _ _ _ => trivial) ⟨hpsc.out, hlrc.out, hK1c.out, hK2c.out, b1', b2', b3', b4'⟩ ?round3 ?done3 (fun _ _ _ _ _ _ h _ => h.elim)
        case hI3 =>
          rintro pre A B ⟨h1, h2, h3, h4, h5, h6, h7, h8⟩ hch
          have e := hsc.out
          have e2 := hs3'.out
          have e3 := hz3.out
          have e4 := hLz'.out
          have e5 := hD2'.out
          exact ⟨h1.ch hch (fun k hk => by (try dsimp only at hk); omega), h2.ch hch (by (try dsimp only); omega) (fun k hk hT => by (try dsimp only at hk hT); omega), deferred_ch h3 hch (by (try dsimp only); omega), deferred_ch h4 hch (by (try dsimp only); omega),
            (hch.cell (cell_lt h5) (by (try dsimp only); omega)).trans h5, (hch.frozen (cell_lt h5) (by (try dsimp only); omega)).trans h6, (hch.cell (cell_lt h7) (by (try dsimp only); omega)).trans h7, (hch.frozen (cell_lt h7) (by (try dsimp only); omega)).trans h8⟩
        case round3 =>
          intro l' pre x rest A hl' hlt' hxs hI
          obtain ⟨h1, h2, h3, h4, h5, h6, h7, h8⟩ := hI
          have e := hsc.out
          have e2 := hs3'.out
          have e3 := hz3.out
          have e4 := hLz'.out
          have e5 := hD2'.out
          rw [hpx.out] at hxs
          have hxm : x ∈ partsB s ++ partsB t := by rw [hps.out, hxs]; simp
          have hpart : IsPart x := by
            rcases List.mem_append.1 hxm with h | h
            · exact partsB_isPart h
            · exact partsB_isPart h
          have hxl : x.length ≤ 1000 := by
            rcases List.mem_append.1 hxm with h | h
            · have := partsB_len s x h; omega
            · have := partsB_len t x h; omega
          have hcl : (catC pre).length ≤ 2004 := by
            have h9 : (catC (partsB x2)).length ≤ x2.length + 1 := catC_parts_len x2
            rw [hpx.out, hxs] at h9
            have h10 : catC (pre ++ x :: rest) = catC pre ++ catC (x :: rest) := by simp [catC]
            rw [h10, List.length_append] at h9
            omega
          have hhas := Lib.hid (has_comma hxm)
          have hne : x.isEmpty = false := by have := hpart.1; simp [this]
          have hplt : pre.length < ps.length := by rw [hxs]; simp
          have hget : ps[pre.length] = x := by simp [hxs]
          have hpl2 := hpl.out
          have hcs := Lib.hid (catC_snoc pre x)
          clear hxm hpart hxs
          gi_wp2
          refine ⟨Ch.refl _ _, fun A3 hA3 => ?_⟩
          have g1 := h1.ch hA3 (fun k hk => by (try dsimp only at hk); omega)
          have g2 := h2.ch hA3 (by (try dsimp only); omega) (fun k hk hT => by (try dsimp only at hk hT); omega)
          have g3 := deferred_ch h3 hA3 (by (try dsimp only); omega)
          have g4 := deferred_ch h4 hA3 (by (try dsimp only); omega)
          have g5 := (hA3.cell (cell_lt h5) (by (try dsimp only); omega)).trans h5
          have g6 := (hA3.frozen (cell_lt h5) (by (try dsimp only); omega)).trans h6
          have g7 := (hA3.cell (cell_lt h7) (by (try dsimp only); omega)).trans h7
          have g8 := (hA3.frozen (cell_lt h7) (by (try dsimp only); omega)).trans h8
          have g1' := Lib.hid g1
          have g2' := Lib.hid g2
          have g3' := Lib.hid g3
          have g4' := Lib.hid g4
          obtain ⟨p, cap, k1, hst⟩ := g2.slice
          obtain ⟨p', cap', hv', hc⟩ := hst
          cases hv'
          obtain ⟨b, off, rfl, hcx⟩ := hc pre.length hplt
          rw [hget] at hcx
          have k2 := g1.cs
          have k3 := g1.ct
          obtain ⟨y1, hy1⟩ : ∃ y, s ++ [44] = y := ⟨_, rfl⟩
          obtain ⟨y2, hy2⟩ : ∃ y, y1 ++ t = y := ⟨_, rfl⟩
          have v1 : (⟨s.toArray⟩ : ByteArray) ++ ⟨#[44]⟩ = ⟨y1.toArray⟩ := hy1 ▸ cat_mk s [44]
          have v2 : (⟨y1.toArray⟩ : ByteArray) ++ ⟨t.toArray⟩ = ⟨y2.toArray⟩ := hy2 ▸ cat_mk y1 t
          have m1 : y1.length ≤ 1001 := by rw [← hy1]; simp; omega
          have m2 : y2.length ≤ 2001 := by rw [← hy2]; simp; omega
          rw [hy1, hy2] at hhas
          obtain ⟨cb, hcb⟩ : ∃ cb, catC pre = cb := ⟨_, rfl⟩
          rw [hcb] at g5 hcs hcl
          obtain ⟨z1, hz1d⟩ : ∃ z, cb ++ [44] = z := ⟨_, rfl⟩
          obtain ⟨z2, hz2d⟩ : ∃ z, z1 ++ x = z := ⟨_, rfl⟩
          have v3 : (⟨cb.toArray⟩ : ByteArray) ++ ⟨#[44]⟩ = ⟨z1.toArray⟩ := hz1d ▸ cat_mk cb [44]
          have v4 : (⟨z1.toArray⟩ : ByteArray) ++ ⟨x.toArray⟩ = ⟨z2.toArray⟩ := hz2d ▸ cat_mk z1 x
          have m3 : z1.length ≤ 2005 := by rw [← hz1d]; simp; omega
          rw [hz1d, hz2d] at hcs
          have hle3 := Lib.hid (show w.heap.size + 3 ≤ A2.heap.size ∧ D1 < A2.heap.size ∧ D2 < A2.heap.size by omega)
          clear h1 h2 h3 h4 h5 h6 h7 h8 hA3 g1 g2 g3 g4 hc hy1 hy2 hcb hz1d hz2d hget e e2 e3 e4 e5 hl' hlt'
          gi_wp2_with fail
          refine (CallsIn.inRound l' (callsIn_wide.2 (has_is y2 x true hhas.out _ (hG'.out.gr g1'.out.gr) (by omega) (by omega)))).mono ?_
          rintro e A4 ⟨rfl, hb⟩
          have f1 := Lib.hid (g1'.out.grow hb)
          have f2 := Lib.hid (g2'.out.ch (hb.to_ch (fun _ => False)) (fun e => e) (fun _ _ e => e))
          have f3 := Lib.hid (deferred_ch g3'.out (hb.to_ch (fun _ => False)) (fun e => e))
          have f4 := Lib.hid (deferred_ch g4'.out (hb.to_ch (fun _ => False)) (fun e => e))
          have f5 := hb.cell g5
          have f6 := (Below.frozen hb (cell_lt g5)).trans g6
          have f7 := hb.cell g7
          have f8 := (Below.frozen hb (cell_lt g7)).trans g8
          have hb' := Lib.hid hb
          clear g5 g6 g7 g8 k1 k2 k3 hcx hb
          gi_wp2
          have e3 := hz3.out
          have e4 := hLz'.out
          have e5 := hle3.out
          have hW5 : Ch (fun k => k = A2.heap.size ∨ k = A2.heap.size + 1) A4 ((A4.setCell ⟨A2.heap.size, 0, none⟩ (.string ⟨z2.toArray⟩)).setCell ⟨A2.heap.size + 1, 0, none⟩ (.int .i64 (pre.length + 1))) := (Ch.setCell _ (.inl rfl) _).trans (Ch.setCell _ (.inr rfl) _)
          exact ⟨(hb'.out.to_ch _).trans hW5, f1.out.ch hW5 (fun k hk => by (try dsimp only at hk); omega), f2.out.ch hW5 (by (try dsimp only); omega) (fun k hk hT => by (try dsimp only at hk hT); omega), deferred_ch f3.out hW5 (by (try dsimp only); omega), deferred_ch f4.out hW5 (by (try dsimp only); omega),
            by rw [hcs.out]; exact cell_set_other (cell_set_same f5) (by (try dsimp only); omega), by rw [frozen_set, frozen_set]; exact f6, by rw [List.length_append]; exact cell_set_same (cell_set_other f7 (by (try dsimp only); omega)), by rw [frozen_set, frozen_set]; exact f8⟩
        case done3 =>
          rintro D3 A5 hD3 ⟨hp, hl, hK1, hK2, h5, h6, h7, h8⟩ hK3
          have hnf := fun (w : World) f x c => run_eql_func_nil (P := Tryd.prog) w Tryd.underlying27 f x c
          have hev : ∀ b, eachV b = Value.func (.func 28) #[] #[.pointer (some ⟨b, 0, none⟩)] := fun _ => rfl
          rw [hpx.out] at h5 h7
          have hD3' := Lib.hid (show D2 < D3 ∧ A2.heap.size + 4 ≤ D3 ∧ D3 < A5.heap.size by
            have := hsc.out
            have := hD2'.out
            have := (Array.getElem?_eq_some_iff.1 hK3).1
            omega)
          have hcp := Lib.hid (show partsB (catC ps) = ps from catC_parts (fun x hx => by
            rw [← hps.out] at hx
            rcases List.mem_append.1 hx with h | h
            · exact partsB_isPart h
            · exact partsB_isPart h))
          have hcl : (catC ps).length ≤ 2004 := by
            have h9 : (catC (partsB x2)).length ≤ x2.length + 1 := catC_parts_len x2
            rw [hpx.out] at h9; omega
          obtain ⟨cb, hcb⟩ : ∃ cb, catC ps = cb := ⟨_, rfl⟩
          rw [hcb] at h5 hcp hcl
          have hl' := Lib.hid hl
          have hp' := Lib.hid hp
          have hK1' := Lib.hid hK1
          have hK2' := Lib.hid hK2
          have hK3' := Lib.hid hK3
          obtain ⟨p1, cap1, c1, _⟩ := hl.slice
          have hsl' : (partsB s ++ []).length ≤ ps.length := by rw [List.append_nil]; exact hsl.out
          have hzI : A2.heap.size + 1 < A5.heap.size := cell_lt h7
          have hzB : A2.heap.size < A5.heap.size := cell_lt h5
          have hpl2 := hpl.out
          clear hK1 hK2 hK3 hl hp hD3 hlrc hpsc d3 hK1c hK2c hcb b1' b2' b3' b4'
          gi_wp2_with fail
          refine (callsIn_wide.2 (each_any _ _)).mono ?_
          rintro e wd ⟨rfl, rfl⟩
          gi_wp2_with fail
          refine (callsIn_wide.2 (each_any _ _)).mono ?_
          rintro e wd ⟨rfl, rfl⟩
          gi_wp2_with fail
          obtain ⟨wd, hwd⟩ : ∃ wd, ((A5.setCell ⟨A2.heap.size + 1, 0, none⟩ (.int .i64 0)).alloc (.cells #[.string ⟨cb.toArray⟩] 9)).alloc (.cells #[.string ⟨cb.toArray⟩] 9) = wd := ⟨_, rfl⟩
          rw [hwd]
          have hcd : Ch (fun k => k = A2.heap.size + 1) A5 wd := by rw [← hwd]; exact ((Ch.setCell (T := fun k => k = A2.heap.size + 1) _ rfl _).trans (Ch.alloc _ _ _)).trans (Ch.alloc _ _ _)
          have hsd := Lib.hid (show wd.heap.size = A5.heap.size + 2 by rw [← hwd]; simp)
          have d3 : wd.cell? ⟨A5.heap.size + 1, 0, none⟩ = some (.string ⟨cb.toArray⟩) := by rw [← hwd]; simp [go_sem]
          have i1 : wd.cell? ⟨A2.heap.size + 1, 0, none⟩ = some (.int .i64 0) := by
            rw [← hwd]; exact ((Gr.alloc _ _).alloc1 _).cell (cell_set_same h7)
          have i2 : wd.frozen? ⟨A2.heap.size + 1, 0, none⟩ = false := by
            rw [← hwd]; exact (Below.frozen ((Gr.alloc _ _).alloc1 _) (cell_lt (cell_set_same h7))).trans (by rw [frozen_set]; exact h8)
          have hle4 := Lib.hid (show w.heap.size + 3 ≤ A2.heap.size ∧ D1 < A2.heap.size ∧ D2 < A2.heap.size by have := hz3.out; have := hLz'.out; have := hD2'.out; omega)
          have hpsd := Lib.hid (hp'.out.ch hcd (fun k hk => by have := hle4.out; (try dsimp only at hk); omega))
          have hlrd := Lib.hid (hl'.out.ch hcd (by have := hLz'.out; (try dsimp only); omega) (fun k hk hT => by (try dsimp only at hk hT); omega))
          have hK1d := Lib.hid (deferred_ch hK1'.out hcd (by have := hle4.out; (try dsimp only); omega))
          have hK2d := Lib.hid (deferred_ch hK2'.out hcd (by have := hle4.out; (try dsimp only); omega))
          have hK3d := Lib.hid (deferred_ch hK3'.out hcd (by have := hD3'.out; (try dsimp only); omega))
          have hzI' := Lib.hid hzI
          clear hwd hcd hl' hp' hK1' hK2' hK3' h5 h6 h7 h8 c1 hzI hzB hsl'
          refine wpIn_range (gf := 28) rfl (enters_of Tryd.func28 (by kernel_rfl) rfl) (each_iter _ wd _ d3 (by omega)) (Nat.le_refl _) (fun k hk => ⟨by rw [hsd.out]; (try dsimp only at hk); omega, rfl⟩) (fun _ => rfl)
            (fun pre A => PS s t w A ∧ LRow w1.heap.size (fun k => k < A2.heap.size) ps A ∧ A.heap[D1]? = some (.deferred (some [])) ∧ A.heap[D2]? = some (.deferred (some [])) ∧ A.heap[D3]? = some (.deferred (some [])) ∧
              A.cell? ⟨A2.heap.size + 1, 0, none⟩ = some (.int .i64 pre.length) ∧ A.frozen? ⟨A2.heap.size + 1, 0, none⟩ = false)
            (fun _ _ _ => False) (fun k => k = A2.heap.size + 1)
            (fun k hk => ⟨by rw [hsd.out]; have := hzI'.out; (try dsimp only at hk); omega, by have := hzI'.out; (try dsimp only at hk ⊢); omega⟩) ?hI4 (fun _ _ _ _ h _ => h) (fun _ _ _ => trivial) ⟨hpsd.out, hlrd.out, hK1d.out, hK2d.out, hK3d.out, i1, i2⟩ ?round4 ?done4 (fun _ _ _ _ _ _ h _ => h.elim)
          case hI4 =>
            rintro pre A B ⟨h1, h2, h3, h4, h5, h7, h8⟩ hch
            have e := hsd.out
            have e3 := hle4.out
            have e4 := hLz'.out
            have e5 := hD3'.out
            have e6 := hzI'.out
            exact ⟨h1.ch hch (fun k hk => by (try dsimp only at hk); omega), h2.ch hch (by (try dsimp only); omega) (fun k hk hT => by (try dsimp only at hk hT); omega), deferred_ch h3 hch (by (try dsimp only); omega), deferred_ch h4 hch (by (try dsimp only); omega), deferred_ch h5 hch (by (try dsimp only); omega),
              (hch.cell (cell_lt h7) (by (try dsimp only); omega)).trans h7, (hch.frozen (cell_lt h7) (by (try dsimp only); omega)).trans h8⟩
          case round4 =>
            intro l' pre x rest A hl' hlt' hxs hI
            obtain ⟨h1, h2, h3, h4, h5, h7, h8⟩ := hI
            have e := hsd.out
            have e3 := hle4.out
            have e4 := hLz'.out
            have e5 := hD3'.out
            have e6 := hzI'.out
            rw [hcp.out] at hxs
            have hplt : pre.length < ps.length := by rw [hxs]; simp
            have hget : ps[pre.length] = x := by simp [hxs]
            have hpl2 := hpl.out
            clear hxs
            gi_wp2
            refine ⟨Ch.refl _ _, fun A3 hA3 => ?_⟩
            have g1 := h1.ch hA3 (fun k hk => by (try dsimp only at hk); omega)
            have g2 := h2.ch hA3 (by (try dsimp only); omega) (fun k hk hT => by (try dsimp only at hk hT); omega)
            have g3 := deferred_ch h3 hA3 (by (try dsimp only); omega)
            have g4 := deferred_ch h4 hA3 (by (try dsimp only); omega)
            have g5 := deferred_ch h5 hA3 (by (try dsimp only); omega)
            have g7 := (hA3.cell (cell_lt h7) (by (try dsimp only); omega)).trans h7
            have g8 := (hA3.frozen (cell_lt h7) (by (try dsimp only); omega)).trans h8
            have g1' := Lib.hid g1
            have g2' := Lib.hid g2
            have g3' := Lib.hid g3
            have g4' := Lib.hid g4
            have g5' := Lib.hid g5
            obtain ⟨p, cap, k1, hst⟩ := g2.slice
            obtain ⟨p', cap', hv', hc⟩ := hst
            cases hv'
            obtain ⟨b, off, rfl, hcx⟩ := hc pre.length hplt
            rw [hget] at hcx
            clear h1 h2 h3 h4 h5 h7 h8 hA3 g1 g2 g3 g4 g5 hc hget e e3 e4 e5 e6 hl' hlt'
            gi_wp2
            have e3 := hle4.out
            have e4 := hLz'.out
            have e5 := hD3'.out
            have hW5 : Ch (fun k => k = A2.heap.size + 1) A3 (A3.setCell ⟨A2.heap.size + 1, 0, none⟩ (.int .i64 (pre.length + 1))) := Ch.setCell (T := fun k => k = A2.heap.size + 1) _ rfl _
            exact ⟨hW5, g1'.out.ch hW5 (fun k hk => by (try dsimp only at hk); omega), g2'.out.ch hW5 (by (try dsimp only); omega) (fun k hk hT => by (try dsimp only at hk hT); omega), deferred_ch g3'.out hW5 (by (try dsimp only); omega), deferred_ch g4'.out hW5 (by (try dsimp only); omega), deferred_ch g5'.out hW5 (by (try dsimp only); omega),
              by rw [List.length_append]; exact cell_set_same g7, by rw [frozen_set]; exact g8⟩
          case done4 =>
            rintro D4 A6 hD4 ⟨h1, h2, h3, h4, h5, h7, h8⟩ hK4
            rw [hcp.out] at h7
            obtain ⟨p, cap, k1, _⟩ := h2.slice
            have k2 := h1.cr
            have k3 := h1.kr
            have hpl2 := hpl.out
            have h1' := Lib.hid h1
            have h3' := Lib.hid h3
            have h4' := Lib.hid h4
            have h5' := Lib.hid h5
            have hK4' := Lib.hid hK4
            have hD4' := Lib.hid hD4
            clear h1 h2 h3 h4 h5 hK4 hD4
            gi_wp2
            have e0 := hz3.out
            have e1' := hD1'.out
            have e2' := hD2'.out
            have e3' := hD3'.out
            have e4' := hD4'.out
            have e5' := hsd.out
            have q6 : Ch (fun k => k = w.heap.size + 1 + 1) A6 (A6.setCell ⟨w.heap.size + 1 + 1, 0, none⟩ (.bool true)) := Ch.setCell (T := fun k => k = w.heap.size + 1 + 1) _ rfl _
            have m4 := deferred_ch hK4'.out q6 (by (try dsimp only); omega)
            have m3 := deferred_ch h5'.out q6 (by (try dsimp only); omega)
            have m2' := deferred_ch h4'.out q6 (by (try dsimp only); omega)
            have m1' := deferred_ch h3'.out q6 (by (try dsimp only); omega)
            have r6 := cell_set_same (v := .bool true) k2
            have g6 := h1'.out.gr.ch q6 (fun k hk => by (try dsimp only at hk); omega)
            generalize (A6.setCell ⟨w.heap.size + 1 + 1, 0, none⟩ (.bool true)) = W6 at m4 m3 m2' m1' r6 g6 ⊢
            have q7 : Ch (fun k => k = D4) W6 (W6.putObj D4 (.deferred none)) := Ch.putObj (T := fun k => k = D4) _ rfl _
            have m3b := deferred_ch m3 q7 (by (try dsimp only); omega)
            have m2b := deferred_ch m2' q7 (by (try dsimp only); omega)
            have m1b := deferred_ch m1' q7 (by (try dsimp only); omega)
            have r7 := (q7.cell (cell_lt r6) (by (try dsimp only); omega)).trans r6
            have g7 := g6.ch q7 (fun k hk => by (try dsimp only at hk); omega)
            refine ⟨by simp, .inl ⟨_, _, rfl, run_takeDeferred m4, ?_⟩⟩
            generalize (W6.putObj D4 (.deferred none)) = W7 at m3b m2b m1b r7 g7 ⊢
            have q8 : Ch (fun k => k = D3) W7 (W7.putObj D3 (.deferred none)) := Ch.putObj (T := fun k => k = D3) _ rfl _
            have m2c := deferred_ch m2b q8 (by (try dsimp only); omega)
            have m1c := deferred_ch m1b q8 (by (try dsimp only); omega)
            have r8 := (q8.cell (cell_lt r7) (by (try dsimp only); omega)).trans r7
            have g8 := g7.ch q8 (fun k hk => by (try dsimp only at hk); omega)
            refine ⟨by simp, .inl ⟨_, _, rfl, run_takeDeferred m3b, ?_⟩⟩
            generalize (W7.putObj D3 (.deferred none)) = W8 at m2c m1c r8 g8 ⊢
            have q9 : Ch (fun k => k = D2) W8 (W8.putObj D2 (.deferred none)) := Ch.putObj (T := fun k => k = D2) _ rfl _
            have m1d := deferred_ch m1c q9 (by (try dsimp only); omega)
            have r9 := (q9.cell (cell_lt r8) (by (try dsimp only); omega)).trans r8
            have g9 := g8.ch q9 (fun k hk => by (try dsimp only at hk); omega)
            refine ⟨by simp, .inl ⟨_, _, rfl, run_takeDeferred m2c, ?_⟩⟩
            generalize (W8.putObj D2 (.deferred none)) = W9 at m1d r9 g9 ⊢
            have q10 : Ch (fun k => k = D1) W9 (W9.putObj D1 (.deferred none)) := Ch.putObj (T := fun k => k = D1) _ rfl _
            have r10 := (q10.cell (cell_lt r9) (by (try dsimp only); omega)).trans r9
            have g10 := g9.ch q10 (fun k hk => by (try dsimp only at hk); omega)
            refine ⟨by simp, .inl ⟨_, _, rfl, run_takeDeferred m1d, ?_⟩⟩
            exact ⟨.bool true, by simp [results, Tryd.results8, go_sem, r10], rfl, g10⟩
  · have c1 := hps1.out.cs
    have c2 := hps1.out.ct
    have c3 := hps1.out.cr
    have k3 := hps1.out.kr
    have hor : 1000 < s.length ∨ (s.length ≤ 1000 ∧ 1000 < t.length) := by omega
    clear hsmall
    rcases hor with h | ⟨h, h2⟩
    all_goals gi_wp2_with fail
    all_goals
      have hc2 : (w1.setCell ⟨w.heap.size + 1 + 1, 0, none⟩ (.bool true)).cell? ⟨w.heap.size + 1 + 1, 0, none⟩ = some (.bool true) := cell_set_same c3
      exact ⟨.bool true, by simp [results, Tryd.results8, go_sem, hc2], rfl, hps1.out.gr.setCell (by (try dsimp only); omega) _⟩
end Go.Proofs.YtpjocannogcejaaDoor
