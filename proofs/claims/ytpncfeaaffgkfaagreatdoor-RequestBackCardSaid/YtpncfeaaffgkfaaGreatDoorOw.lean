/-
  Rows of values of one cell, of one's own, a conversion's row too: an append of one value.
-/
import Derived.Test.YtpncfeaaffgkfaaGreatDoorRw
import Derived.Deep.Onto
import Derived.Laws.AppendOwn
import Derived.Lib.ConvBytes
namespace Go.Proofs.YtpncfeaaffgkfaaGreatDoor
open Go.RowKit
attribute [local go_sem] Oper.semAt_some

/-- A row of values of one cell, in memory of one's own, from block B on; what is marked of it lies behind its cells. -/
def OwnV (t : TypeId) (B : Nat) (W : World) (v : Value) (xs : List Value) : Prop :=
  (v = .slice none 0 0 ∧ xs = []) ∨
  ∃ g cap cur fz, v = .slice (some ⟨g, 0, none⟩) xs.length cap ∧ B ≤ g ∧ W.heap[g]? = some (.cells cur t fz) ∧ (cur.size ≤ fz.1 ∨ fz.2 = 0) ∧ xs.length ≤ cap ∧ cap ≤ maxLen ∧ cur.size = cap ∧ cur.toList.take xs.length = xs
theorem OwnV.nil (t : TypeId) (B : Nat) (W : World) : OwnV t B W (.slice none 0 0) [] := .inl ⟨rfl, rfl⟩
theorem OwnV.of {t : TypeId} {B : Nat} {W : World} {v : Value} {xs : List Value} (h : W.ownsRow B t 1 v xs.length xs) : OwnV t B W v xs := by
  rcases h.2 with ⟨rfl, hn⟩ | ⟨g, cap, cur, rfl, hb, hh, hn, hm, hcs, ht⟩
  · exact .inl ⟨rfl, List.eq_nil_of_length_eq_zero hn⟩
  · exact .inr ⟨g, cap, cur, (0, 0), rfl, hb, hh, .inr rfl, hn, hm, by simpa using hcs, by simpa using ht⟩
theorem OwnV.slice {t : TypeId} {B : Nat} {W : World} {v : Value} {xs : List Value} (h : OwnV t B W v xs) : ∃ p cap, v = .slice p xs.length cap := by
  rcases h with ⟨rfl, rfl⟩ | ⟨g, cap, cur, fz, rfl, _⟩
  · exact ⟨none, 0, rfl⟩
  · exact ⟨_, cap, rfl⟩
theorem OwnV.lt {t : TypeId} {B : Nat} {W : World} {v : Value} {xs : List Value} (h : OwnV t B W v xs) : ∀ k, v.ownBlock = some k → B ≤ k ∧ k < W.heap.size := by
  intro k hk
  rcases h with ⟨rfl, _⟩ | ⟨g, cap, cur, fz, rfl, hb, hh, _⟩
  · simp [Value.ownBlock] at hk
  · simp [Value.ownBlock] at hk
    subst hk
    exact ⟨hb, (Array.getElem?_eq_some_iff.1 hh).1⟩
theorem OwnV.cells {t : TypeId} {B : Nat} {W : World} {p : Addr} {n cap : Nat} {xs : List Value} (h : OwnV t B W (.slice (some p) n cap) xs) : p.off = 0 ∧ ∀ i u, xs[i]? = some u → W.cell? ⟨p.block, i, none⟩ = some u := by
  rcases h with ⟨e, _⟩ | ⟨g, cap, cur, fz, e, hb, hh, _, hn, _, hcs, ht⟩
  · cases e
  · injection e with e1 _ _
    injection e1 with e1
    subst e1
    refine ⟨rfl, fun i u hu => ?_⟩
    rw [cell_of_row W g i cur t fz hh]
    rw [← ht, List.getElem?_take] at hu
    split at hu
    · simpa using hu
    · cases hu
theorem OwnV.row {t : TypeId} {B : Nat} {W : World} {v : Value} {xs : List Value} (h : OwnV t B W v xs) (h0 : 0 < xs.length) :
    ∃ g cap, v = .slice (some ⟨g, 0, none⟩) xs.length cap ∧ B ≤ g ∧ g < W.heap.size ∧ (∀ i u, xs[i]? = some u → W.cell? ⟨g, i, none⟩ = some u) ∧ xs.length ≤ cap := by
  have h' := h
  rcases h with ⟨_, e⟩ | ⟨g, cap, cur, fz, rfl, hb, hh, hz, hn, hm, hcs, ht⟩
  · rw [e] at h0; cases h0
  · exact ⟨g, cap, rfl, hb, (Array.getElem?_eq_some_iff.1 hh).1, h'.cells.2, hn⟩
theorem OwnV.ch {t : TypeId} {B : Nat} {T : Nat → Prop} {W W' : World} {v : Value} {xs : List Value} (h : OwnV t B W v xs) (hc : Ch T W W') (hT : ∀ k, v.ownBlock = some k → ¬ T k) : OwnV t B W' v xs := by
  rcases h with h2 | ⟨g, cap, cur, fz, rfl, hb, hh, rest⟩
  · exact .inl h2
  · exact .inr ⟨g, cap, cur, fz, rfl, hb, hc.get hh (hT g rfl), rest⟩
theorem OwnV.gr {t : TypeId} {B : Nat} {W W' : World} {v : Value} {xs : List Value} (h : OwnV t B W v xs) (hb : Gr W W') : OwnV t B W' v xs := h.ch (hb.to_ch (fun _ => False)) (fun _ _ h => h.elim)
theorem OwnV.below {t : TypeId} {B C : Nat} {W W' : World} {v : Value} {xs : List Value} (h : OwnV t B W v xs) (hb : Below C W W') (hC : ∀ k, v.ownBlock = some k → k < C) : OwnV t B W' v xs := by
  rcases h with h2 | ⟨g, cap, cur, fz, rfl, hb2, hh, rest⟩
  · exact .inl h2
  · exact .inr ⟨g, cap, cur, fz, rfl, hb2, (hb.block g (hC g rfl)).trans hh, rest⟩
theorem store_marked (P : Program) (g o : Nat) (t : TypeId) (fz : Nat × Nat) (u : Value) (cur : Array Value) (w : World) (hg : w.heap[g]? = some (.cells cur t fz)) (ho : o < cur.size) (hz : cur.size ≤ fz.1 ∨ fz.2 = 0) (h1 : u.oneCell' = true) :
    (storeCells ⟨g, o, none⟩ [u] 0).run P w = .ok () (w.setRow g (cur.setIfInBounds o u)) := by
  have hadd : (⟨g, o, none⟩ : Addr).add 0 = ⟨g, o, none⟩ := by simp [Addr.add]
  have hcell : w.cell? ⟨g, o, none⟩ = some cur[o] := by simp [World.cell?, hg, ho]
  have hfro : w.frozen? ⟨g, o, none⟩ = false := by
    obtain ⟨lo, hi'⟩ := fz
    simp only [World.frozen?, hg, Bool.and_eq_false_iff, decide_eq_false_iff_not]
    simp only at hz
    omega
  have hst : (store ((⟨g, o, none⟩ : Addr).add 0) u).run P w = .ok () (w.setRow g (cur.setIfInBounds o u)) := by
    rw [hadd, run_store P w _ u _ h1, hcell]
    simp [hfro, setCell_eq_setRow w g o cur t fz u hg]
  simp only [storeCells, Sem.run_bind, hst, Result.andThen_ok]
  rfl
theorem run_app1 {W : World} (ts te ty : TypeId) (z u : Value) (bytes : Nat)
    (hts : Tryz.prog.underlying ts = some (.slice te)) (hinf : (Tryz.prog.info? te).map (fun i => (i.zero, i.size, i.bytes)) = some (some z, 1, bytes)) (hz1 : z.cells.size = 1)
    (B : Nat) (v : Value) (xs : List Value) (hown : OwnV te B W v xs) (ad : Addr) (c : Nat) (hu : W.cell? ad = some u) (h1 : u.oneCell' = true)
    (hlen : xs.length + 1 ≤ 1000000) (hb : bytes ≤ 64) (hB : B ≤ W.heap.size) :
    ∃ p cap W', (Builtin.append_ #[ts, ts] ty #[v, .slice (some ad) 1 c]).run Tryz.prog W = .ok (.slice p (xs.length + 1) cap) W' ∧ OwnV te B W' (.slice p (xs.length + 1) cap) (xs ++ [u]) ∧ Below B W W' ∧ (∀ g, v.ownBlock = some g → ∀ j x, xs[j]? = some x → W'.cell? ⟨g, j, none⟩ = some x) := by
  obtain ⟨i, hi, hz0, hzs, hz2⟩ := info_parts hinf
  have hnews : ∀ j x, [u][j]? = some x → W.cell? (ad.add j) = some x := by
    intro j x hj
    match j, hj with
    | 0, hj =>
      simp at hj; subst hj
      have : ad.add 0 = ad := by simp [Addr.add]
      rw [this]; exact hu
    | n + 1, hj => simp at hj
  have h40 : (xs.length + 1) * bytes ≤ 64000000 := by
    have : (xs.length + 1) * bytes ≤ 1000000 * 64 := Nat.mul_le_mul hlen hb
    omega
  have grown : ∀ (old : Nat), old < xs.length + 1 →
      OwnV te B (W.drew.alloc (.cells (xs.toArray ++ #[u] ++ Builtin.zeroCells z.cells (grownCap W (xs.length + 1) old te - (xs.length + 1))) te)) (.slice (some ⟨W.heap.size, 0, none⟩) (xs.length + 1) (grownCap W (xs.length + 1) old te)) (xs ++ [u]) ∧
      Below B W (W.drew.alloc (.cells (xs.toArray ++ #[u] ++ Builtin.zeroCells z.cells (grownCap W (xs.length + 1) old te - (xs.length + 1))) te)) := by
    intro old ho
    have hge := grownCap_ge W (xs.length + 1) old te
    have hcm : grownCap W (xs.length + 1) old te ≤ maxLen := grownCap_le_maxLen W (xs.length + 1) old te (by unfold maxLen; omega)
    refine ⟨.inr ⟨W.heap.size, _, _, (0, 0), by rw [List.length_append, List.length_singleton], hB, heap_alloc_new W.drew _, .inr rfl, by rw [List.length_append, List.length_singleton]; exact hge, hcm, ?_, ?_⟩, ⟨rfl, rfl, rfl, by simp, fun k hk => heap_alloc_old W.drew _ k (by show k < W.heap.size; omega)⟩⟩
    · simp only [Array.size_append, List.size_toArray, size_zeroCells, hz1, List.length_cons, List.length_nil]
      omega
    · simp only [Array.toList_append, List.append_assoc]
      rw [← List.append_assoc]
      exact List.take_left' (by simp)
  rcases hown with ⟨rfl, rfl⟩ | ⟨g, cap, cur, fz, rfl, hbg, hg, hfz, hnc, hcm, hcs, htake⟩
  · have hr := run_append_nil (P := Tryz.prog) W ts ty te i z hts hi hz0 ad 1 c [u] (by rw [hzs]; rfl) hnews (by decide) (by decide) (by rw [hz2]; omega)
    have hgr := grown 0 (by decide)
    simp only [List.length_nil, Nat.zero_add, List.nil_append, Array.empty_append] at hgr ⊢
    exact ⟨_, _, _, hr, hgr.1, hgr.2, fun g hg => by simp [Value.ownBlock] at hg⟩
  · have hold := (OwnV.cells (B := B) (t := te) (.inr ⟨g, cap, cur, fz, rfl, hbg, hg, hfz, hnc, hcm, hcs, htake⟩)).2
    by_cases hroom : xs.length + 1 ≤ cap
    · have hst := store_marked Tryz.prog g xs.length te fz u cur W hg (by omega) hfz h1
      have hf := run_firstCells_some (P := Tryz.prog) W i.size 1 ad 1 c [u] (by rw [hzs]; rfl) hnews
      rw [hzs] at hf
      refine ⟨some ⟨g, 0, none⟩, cap, W.setRow g (cur.setIfInBounds xs.length u), ?_, .inr ⟨g, cap, _, fz, by rw [List.length_append, List.length_singleton], hbg, setRow_heap W g cur _ te _ hg, by simpa using hfz, by rw [List.length_append, List.length_singleton]; exact hroom, hcm, by simpa using hcs, ?_⟩, ⟨rfl, rfl, rfl, by simp, fun k hk => setRow_other W g k _ (fun e => by omega)⟩, fun g2 hg2 j x hx => ?_⟩
      · simp [Builtin.append_, run_underlying hts, sizeOf, typeInfo, hi, hzs, Builtin.lenOf, hroom, hf, Addr.add_lit, hst]
      · rw [List.length_append, List.length_singleton, Array.toList_setIfInBounds, List.take_add_one, List.take_set_of_le (Nat.le_refl _), htake]
        have hlt : xs.length < cur.toList.length := by simp; omega
        rw [List.getElem?_set_self hlt]; rfl
      · simp only [Value.ownBlock, Option.some.injEq] at hg2
        subst hg2
        have hjl : j < xs.length := (List.getElem?_eq_some_iff.1 hx).1
        rw [cell_of_row _ g j _ te fz (setRow_heap W g cur _ te _ hg)]
        have h1 := hold j x hx
        rw [cell_of_row W g j cur te fz hg] at h1
        rw [Array.getElem?_setIfInBounds_ne (by omega)]; exact h1
    · have holds : ∀ j x, xs[j]? = some x → W.cell? ((⟨g, 0, none⟩ : Addr).add j) = some x := fun j x hx => by
        have e : (⟨g, 0, none⟩ : Addr).add j = ⟨g, j, none⟩ := by
          by_cases h0 : j = 0 <;> simp [Addr.add, h0]
        rw [e]
        exact (OwnV.cells (B := B) (t := te) (.inr ⟨g, cap, cur, fz, rfl, hbg, hg, hfz, hnc, hcm, hcs, htake⟩)).2 j x hx
      have hr := run_append_grow (P := Tryz.prog) W ts ty te i z hts hi hz0 ⟨g, 0, none⟩ xs.length cap xs (by rw [hzs]; omega) holds ad 1 c [u] (by rw [hzs]; rfl) hnews (by omega) (by omega) (growslice_fits (by omega) (by rw [hz2]; omega))
      have hgr := grown cap (by omega)
      refine ⟨_, _, _, hr, hgr.1, hgr.2, fun g2 hg2 j x hx => ?_⟩
      simp only [Value.ownBlock, Option.some.injEq] at hg2
      subst hg2
      have h1 := hold j x hx
      exact (World.cell?_of_block (heap_alloc_old W.drew _ g (by show g < W.heap.size; exact (Array.getElem?_eq_some_iff.1 hg).1))).trans h1
/-- An append of one value, laid in a block of its own, onto such a row: at its operation. -/
theorem wp_app1 {ops : Array Oper} {rest : List Oper} {o : Oper} {a : Act} {Q : Exit → Act → World → Prop} {W : World} (hgd : o.guard = none) (s x : Operand) (ts te te' : TypeId) (z u : Value) (bytes : Nat)
    (hts : Tryz.prog.underlying ts = some (.slice te)) (hinf : (Tryz.prog.info? te).map (fun i => (i.zero, i.size, i.bytes)) = some (some z, 1, bytes)) (hz1 : z.cells.size = 1)
    (ho : o.op = .call { callee := .builtin .append, args := #[s, x], argTypes := #[ts, ts] })
    (B : Nat) (v : Value) (xs : List Value) (hs : a.eval s = v) (hown : OwnV te B W v xs) (hx : a.eval x = .slice (some ⟨W.heap.size, 0, none⟩) 1 1) (h1 : u.oneCell' = true)
    (N : Nat) (hN : xs.length + 1 = N) (hlen : N ≤ 1000000) (hb : bytes ≤ 64) (hB : B ≤ W.heap.size)
    (h : ∀ p cap W', OwnV te B W' (.slice p N cap) (xs ++ [u]) → Below B W W' → wpList Tryz.prog ops Q rest (a.put o.dst (.slice p N cap)) W') :
    wpList Tryz.prog ops Q (o :: rest) a (W.alloc (.cells #[u] te')) := by
  refine wpList_plain hgd fun K hK => ?_
  have hal := Gr.alloc W (.cells #[u] te')
  have hc1 : (W.alloc (.cells #[u] te')).cell? ⟨W.heap.size, 0, none⟩ = some u := cell_new7 W [u] te' 0 u rfl
  obtain ⟨p, cap, W', hr, h2, h3, h4⟩ := run_app1 (W := W.alloc (.cells #[u] te')) ts te o.type z u bytes hts hinf hz1 B v xs (hown.gr hal) ⟨W.heap.size, 0, none⟩ 1 hc1 h1 (by omega) hb (by simp; omega)
  rw [hN] at hr h2
  unfold Oper.wp execOp
  simp only [ho, resolve, invoke, builtin, Sem.run_bind, Sem.run_pure, Result.andThen_ok, List.map_toArray, List.map_cons, List.map_nil, hs, hx, hr]
  exact hK _ _ (h p cap W' h2 (((Below.refl B W).alloc hB _).trans h3))
/-- The same as a step of a region that draws its order. -/
theorem step_app1 {w : World} {ops : Array Oper} {o : Oper} {a : Act} {K : Act → World → Prop} {Q : Exit → Act → World → Prop} {E : Prop} (hgd : o.guard = none) (s x : Operand) (ts te : TypeId) (z u : Value) (bytes : Nat)
    (hts : Tryz.prog.underlying ts = some (.slice te)) (hinf : (Tryz.prog.info? te).map (fun i => (i.zero, i.size, i.bytes)) = some (some z, 1, bytes)) (hz1 : z.cells.size = 1)
    (ho : o.op = .call { callee := .builtin .append, args := #[s, x], argTypes := #[ts, ts] })
    (B : Nat) (v : Value) (xs : List Value) (hs : a.eval s = v) (hown : OwnV te B w v xs) (b : Nat) (hx : a.eval x = .slice (some ⟨b, 0, none⟩) 1 1) (hu : w.cell? ⟨b, 0, none⟩ = some u) (h1 : u.oneCell' = true)
    (N : Nat) (hN : xs.length + 1 = N) (hlen : N ≤ 1000000) (hb : bytes ≤ 64) (hB : B ≤ w.heap.size)
    (h : ∀ p cap W', OwnV te B W' (.slice p N cap) (xs ++ [u]) → Below B w W' → (∀ g, v.ownBlock = some g → ∀ j x, xs[j]? = some x → W'.cell? ⟨g, j, none⟩ = some x) → K (a.put o.dst (.slice p N cap)) W') :
    if Region.wanted o (yielded ops a.tmps) = true then Oper.wp Tryz.prog o a w K Q else E := by
  have hw : Region.wanted o (yielded ops a.tmps) = true := by simp [Region.wanted, hgd]
  rw [if_pos hw]
  obtain ⟨p, cap, W', hr, h2, h3, h4⟩ := run_app1 (W := w) ts te o.type z u bytes hts hinf hz1 B v xs hown ⟨b, 0, none⟩ 1 hu h1 (by omega) hb hB
  rw [hN] at hr h2
  unfold Oper.wp execOp
  simp only [ho, resolve, invoke, builtin, Sem.run_bind, Sem.run_pure, Result.andThen_ok, List.map_toArray, List.map_cons, List.map_nil, hs, hx, hr]
  exact h p cap W' h2 h3 h4
theorem OwnV.drew {t : TypeId} {B : Nat} {W : World} {v : Value} {xs : List Value} (h : OwnV t B W v xs) : OwnV t B W.drew v xs := h
theorem OwnV.alloc {t : TypeId} {B : Nat} {W : World} {v : Value} {xs : List Value} (h : OwnV t B W v xs) (o : Obj) : OwnV t B (W.alloc o) v xs := h.gr (Gr.alloc W o)
theorem cell_one (W : World) (u : Value) (t : TypeId) : (W.alloc (.cells #[u] t)).cell? ⟨W.heap.size, 0, none⟩ = some u := cell_new7 W [u] t 0 u rfl
theorem OwnV.conv {B : Nat} (W : World) (l : List UInt8) (hl : l.length ≤ 1000000) (hB : B ≤ W.heap.size) :
    OwnV 5 B (Lib.bytesWorld W 5 ⟨l.toArray⟩) (.slice (some ⟨W.heap.size, 0, none⟩) l.length (grownCap W l.length 0 5)) (bcells l) := by
  have hge := grownCap_ge W l.length 0 5
  have hcm : grownCap W l.length 0 5 ≤ maxLen := grownCap_le_maxLen W l.length 0 5 (by unfold maxLen; omega)
  have hsz : (Lib.bytesCells W 5 ⟨l.toArray⟩).size = grownCap W l.length 0 5 := by
    simp only [Lib.bytesCells, Array.size_append, Array.size_map, Array.size_replicate]
    rw [show (⟨l.toArray⟩ : ByteArray).size = l.length from size_mk l]
    simp; omega
  refine .inr ⟨W.heap.size, _, _, _, by rw [bcells_len], hB, Lib.bytesWorld_at_new _ _ _, .inl (Nat.le_refl _), by rw [bcells_len]; exact hge, hcm, hsz, ?_⟩
  rw [bcells_len]
  have e : (Lib.bytesCells W 5 ⟨l.toArray⟩).toList = bcells l ++ (Array.replicate (grownCap W (⟨l.toArray⟩ : ByteArray).size 0 5 - (⟨l.toArray⟩ : ByteArray).size) (Value.int .u8 0)).toList := by
    simp [Lib.bytesCells, bcells]
  rw [e]
  exact List.take_left' (bcells_len l)
/-- Such a row of bytes as a text. -/
theorem conv_own {B : Nat} {W : World} {v : Value} {l : List UInt8} (h : OwnV 5 B W v (bcells l)) : (convert 40 9 v).run Tryz.prog W = .ok (.string ⟨l.toArray⟩) W := by
  have h' := h
  rcases h with ⟨rfl, hn⟩ | ⟨g, cap, cur, fz, rfl, _⟩
  · have hl : l = [] := by
      cases l with
      | nil => rfl
      | cons a t => simp [bcells] at hn
    subst hl
    exact run_convert_bytes_nil (P := Tryz.prog) W 40 5 Tryz.underlying40 Tryz.underlying5 0 0 _ Tryz.underlying9
  · rw [bcells_len]
    refine run_convert_bytes_back (P := Tryz.prog) W 40 9 5 ⟨g, 0, none⟩ cap l Tryz.underlying40 Tryz.underlying5 Tryz.underlying9 (fun j hj => ?_)
    have hc := h'.cells.2 j _ (bcells_get l j hj)
    have e : (⟨g, 0, none⟩ : Addr).add j = ⟨g, j, none⟩ := by
      by_cases h0 : j = 0 <;> simp [Addr.add, h0]
    rw [e]
    simpa using hc
end Go.Proofs.YtpncfeaaffgkfaaGreatDoor
