/-
  A text's lines: what the library's calls say. (Out of Vi, Vj, Vk.)
  Rows of fields in memory of one's own.
  Fields in memory that was made anew.
-/
import Derived.Test.YtpncfeaaffgkfaaGreatDoorSp
import Derived.Test.YtpncfeaaffgkfaaGreatDoorG
import Derived.Test.YtpncfeaaffgkfaaGreatDoorOw
import Derived.Maps.AppendAt
import Derived.Lib.Walk
import Derived.Lib.SliceRun
import Derived.Deep.Onto
import Derived.Test.YtpncfeaaffgkfaaGreatDoorRw
namespace Go.Proofs.YtpncfeaaffgkfaaGreatDoor
open Go.RowKit
attribute [local go_sem] Oper.semAt_some
/-- A slice value whose elements are these texts. -/
def TextsAt (w : World) (t : Value) (ls : List (List UInt8)) : Prop :=
  ∃ p cap, t = .slice p ls.length cap ∧ ls.length ≤ cap ∧ ∀ i, (hi : i < ls.length) → ∃ b off, p = some ⟨b, off, none⟩ ∧ w.cell? ⟨b, off + i, none⟩ = some (.string ⟨ls[i].toArray⟩)
theorem TextsAt.gr {w w' : World} {t : Value} {ls : List (List UInt8)} (h : TextsAt w t ls) (hg : Gr w w') : TextsAt w' t ls := by
  obtain ⟨p, cap, e, hle, hc⟩ := h
  refine ⟨p, cap, e, hle, fun i hi => ?_⟩
  obtain ⟨b, off, hp, h1⟩ := hc i hi
  exact ⟨b, off, hp, hg.cell h1⟩
theorem trimB_len8 (l : List UInt8) : (trimB l).length ≤ l.length := by
  rw [trimB_eq]
  unfold ldrop rdrop
  have h1 := (List.dropWhile_suffix (p := isBlank) (l := (l.reverse.dropWhile isBlank).reverse)).length_le
  have h2 := (List.dropWhile_suffix (p := isBlank) (l := l.reverse)).length_le
  simp only [List.length_reverse] at h1 h2 ⊢
  omega
theorem parse_len1 (l : List UInt8) : (parseB l).1.length ≤ l.length := by
  unfold parseB
  have h1 := cut_le1 l [58]
  split
  · exact h1
  · simp
theorem parse_len2 (l : List UInt8) : (parseB l).2.1.length ≤ l.length := by
  unfold parseB
  have h1 := cut_le2 l [58]
  split
  · exact Nat.le_trans (trimB_len8 _) h1
  · simp
theorem index_any (l sub : List UInt8) (w : World) (hG : G w) (hl : l.length < 4294967281) :
    Calls Tryz.prog 41 #[.string ⟨l.toArray⟩, .string ⟨sub.toArray⟩] w fun e w' => e = .returned (.int .i64 (Lib.index l sub)) ∧ w' = w := by
  obtain ⟨m, hm⟩ := hG.max
  exact Tryz.strings_Index ⟨l.toArray⟩ ⟨sub.toArray⟩ m w (by rw [size_mk]; exact hl) hm
theorem split_any (l : List UInt8) (w : World) (hG : G w) (hl : l.length < 4294967281) :
    Calls Tryz.prog 73 #[.string ⟨l.toArray⟩, .string ⟨#[13, 10]⟩] w fun e w' => (∃ v, e = .returned v ∧ TextsAt w' v (splitE l)) ∧ Gr w w' := by
  obtain ⟨m, hm⟩ := hG.max
  refine (Tryz.strings_Split ⟨l.toArray⟩ ⟨#[13, 10]⟩ m w (by rw [size_mk]; exact hl) hm (by decide)).mono ?_
  rintro e w' ⟨rfl, rfl⟩
  have hd := Lib.splitB_data ⟨#[13, 10]⟩ 0 (Lib.countB ⟨l.toArray⟩ ⟨#[13, 10]⟩) ⟨l.toArray⟩
  have hlen := Lib.splitB_all ⟨#[13, 10]⟩ (by decide) 0 _ ⟨l.toArray⟩ rfl
  have e2 : (Lib.splitB ⟨#[13, 10]⟩ 0 (Lib.countB ⟨l.toArray⟩ ⟨#[13, 10]⟩) ⟨l.toArray⟩).map (·.data.toList) = splitE l := hd.trans (splitE_count l)
  obtain ⟨L, hL⟩ : ∃ L, Lib.splitB ⟨#[13, 10]⟩ 0 (Lib.countB ⟨l.toArray⟩ ⟨#[13, 10]⟩) ⟨l.toArray⟩ = L := ⟨_, rfl⟩
  rw [hL] at e2 hlen ⊢
  rw [← hlen]
  refine ⟨⟨_, rfl, some ⟨w.heap.size, 0, none⟩, L.length, by rw [← e2, List.length_map], by rw [← e2, List.length_map]; exact Nat.le_refl _, fun i hi => ⟨w.heap.size, 0, rfl, ?_⟩⟩, Gr.alloc _ _⟩
  rw [Nat.zero_add]
  have hi2 : i < L.length := by rw [← e2, List.length_map] at hi; exact hi
  refine cell_new7 w (L.map Value.string) _ i _ ?_
  have e3 : (splitE l)[i] = L[i].data.toList := by simp [← e2]
  rw [e3]
  simp [hi2]
theorem ix0 (g n cap : Nat) (W : World) (_h : (0 : Int) < (n : Int) + 1) : (Sem.run Tryz.prog (Instr.indexAt 63 (Value.slice (some ⟨g, 0, none⟩) (n + 1) cap) (Value.int .i64 0)) W) = .ok (.pointer (some ⟨g, 0, none⟩)) W := by
  simp [go_sem]
end Go.Proofs.YtpncfeaaffgkfaaGreatDoor
namespace Go.Proofs.YtpncfeaaffgkfaaGreatDoor
open Go.RowKit Go.Shelf
attribute [local go_sem] Oper.semAt_some

/-- Fields, cell by cell. -/
def fcells (fs : List Fl) : List Value := fs.flatMap fun f => [.string ⟨f.1.toArray⟩, .string ⟨f.2.toArray⟩]
theorem fcells_len (fs : List Fl) : (fcells fs).length = fs.length * 2 := by
  unfold fcells
  induction fs with
  | nil => rfl
  | cons f t ih => rw [List.flatMap_cons, List.length_append, ih]; simp; omega
theorem fcells_get (fs : List Fl) (i : Nat) (hi : i < fs.length) : (fcells fs)[i * 2]? = some (.string ⟨fs[i].1.toArray⟩) ∧ (fcells fs)[i * 2 + 1]? = some (.string ⟨fs[i].2.toArray⟩) := by
  induction fs generalizing i with
  | nil => cases hi
  | cons f t ih =>
    cases i with
    | zero => exact ⟨rfl, rfl⟩
    | succ i =>
      have := ih i (by simpa using hi)
      rw [show (i + 1) * 2 = i * 2 + 1 + 1 by omega]
      exact this
theorem fcells_app (fs gs : List Fl) : fcells (fs ++ gs) = fcells fs ++ fcells gs := by simp [fcells]
theorem fcells_one (fs : List Fl) : ∀ u ∈ fcells fs, u.oneCell' = true := by
  intro u hu
  obtain ⟨f, _, hf⟩ := List.mem_flatMap.1 hu
  simp at hf
  rcases hf with rfl | rfl <;> rfl
theorem fcells_mem (fs : List Fl) (j : Nat) (u : Value) (h : (fcells fs)[j]? = some u) : ∃ i, ∃ hi : i < fs.length, (j = i * 2 ∧ u = .string ⟨fs[i].1.toArray⟩) ∨ (j = i * 2 + 1 ∧ u = .string ⟨fs[i].2.toArray⟩) := by
  have hj : j < (fcells fs).length := (List.getElem?_eq_some_iff.1 h).1
  rw [fcells_len] at hj
  have hi : j / 2 < fs.length := by omega
  obtain ⟨h1, h2⟩ := fcells_get fs (j / 2) hi
  refine ⟨j / 2, hi, ?_⟩
  rcases Nat.mod_two_eq_zero_or_one j with hm | hm
  · have e : j = j / 2 * 2 := by omega
    rw [← e, h] at h1
    exact .inl ⟨e, Option.some.inj h1⟩
  · have e : j = j / 2 * 2 + 1 := by omega
    rw [← e, h] at h2
    exact .inr ⟨e, Option.some.inj h2⟩
/-- A slice value in memory of its own, from block B on, that holds these fields. -/
def OwnF (B : Nat) (w : World) (v : Value) (fs : List Fl) : Prop := w.ownsRow B 45 2 v fs.length (fcells fs)
theorem OwnF.at {B : Nat} {w : World} {v : Value} {fs : List Fl} (h : OwnF B w v fs) : FieldsAt w v fs := by
  have h' := h
  obtain ⟨h1, h2⟩ := h
  rcases h2 with ⟨rfl, h0⟩ | ⟨g, cap, cur, rfl, hb, hh, hn, hm, hcs, ht⟩
  · exact ⟨none, 0, by rw [h0], fun i hi => by omega⟩
  · refine ⟨_, cap, rfl, fun i hi => ⟨g, 0, rfl, ?_, ?_⟩⟩
    · rw [Nat.zero_add, World.ownsRow.cellAt h' (i * 2) (by omega)]; exact (fcells_get fs i hi).1
    · rw [Nat.zero_add, World.ownsRow.cellAt h' (i * 2 + 1) (by omega)]; exact (fcells_get fs i hi).2
theorem OwnF.ch {B : Nat} {w w' : World} {v : Value} {fs : List Fl} {T : Nat → Prop} (h : OwnF B w v fs) (hc : Ch T w w') (ht : ∀ k, T k → k < B) : OwnF B w' v fs := by
  obtain ⟨h1, h2⟩ := h
  refine ⟨h1, ?_⟩
  rcases h2 with h2 | ⟨g, cap, cur, rfl, hb, hh, hn, hm, hcs, ht'⟩
  · exact .inl h2
  · exact .inr ⟨g, cap, cur, rfl, hb, hc.get hh (fun e => by have := ht _ e; omega), hn, hm, hcs, ht'⟩
theorem OwnF.put {B : Nat} {w : World} {v : Value} {fs : List Fl} (h : OwnF B w v fs) {a : Addr} (ha : v.ownBlock ≠ some a.block) (u : Value) : OwnF B (w.setCell a u) v fs := by
  obtain ⟨h1, h2⟩ := h
  refine ⟨h1, ?_⟩
  rcases h2 with h2 | ⟨g, cap, cur, rfl, hb, hh, hn, hm, hcs, ht'⟩
  · exact .inl h2
  · exact .inr ⟨g, cap, cur, rfl, hb, (Below.heap_setCell _ _ _ _ (fun e => ha (by rw [← e]; rfl))).trans hh, hn, hm, hcs, ht'⟩
theorem infoField : (Tryz.prog.info? 45).map (fun i => (i.zero, i.size, i.bytes)) = some (some (.agg #[.string ⟨#[]⟩, .string ⟨#[]⟩]), 2, 32) := by kernel_rfl

theorem cells_two (w : World) (x y : Value) (t : TypeId) : ∀ j u, [x, y][j]? = some u → (w.alloc (.cells #[x, y] t)).cell? ((⟨w.heap.size, 0, none⟩ : Addr).add j) = some u := by
  intro j u hj
  match j, hj with
  | 0, hj => simp at hj; subst hj; simp [Addr.add]
  | 1, hj => simp at hj; subst hj; simp [Addr.add]
theorem Ch.of_grown {w w' : World} {row : Option Nat} (h : w.grownBy w' row) : Ch (fun k => row = some k) w w' :=
  ⟨h.os, h.tape, h.output, h.size, fun k hk hn => h.block k hk (fun e => hn e.symm)⟩
theorem below_append {B : Nat} {wr w3 : World} {v : Value} {n : Nat} {xs : List Value} {e : TypeId} {size : Nat} {o : Obj} (hB : B < wr.heap.size) (h : wr.ownsRow B e size v n xs) (hg : ((wr.alloc o).drew).grownBy w3 v.ownBlock) : Below B wr w3 :=
  (((Below.refl B wr).alloc (Nat.le_of_lt hB) o).drew).trans ⟨hg.os, hg.tape, hg.output, hg.size, fun k hk => hg.block k (by show k < (wr.alloc o).heap.size; simp; omega) (fun e => by have := (h.lt k e.symm).1; omega)⟩
theorem below_append' {B : Nat} {wr w3 : World} {v : Value} {n : Nat} {xs : List Value} {e : TypeId} {size : Nat} {o : Obj} (hB : B < wr.heap.size) (h : wr.ownsRow B e size v n xs) (hg : (wr.alloc o).grownBy w3 v.ownBlock) : Below B wr w3 :=
  ((Below.refl B wr).alloc (Nat.le_of_lt hB) o).trans ⟨hg.os, hg.tape, hg.output, hg.size, fun k hk => hg.block k (by show k < (wr.alloc o).heap.size; simp; omega) (fun e => by have := (h.lt k e.symm).1; omega)⟩
/-- An append of fields that lie somewhere, at a step of a region that draws its order. -/
theorem step_fields {w : World} {ops : Array Oper} {o : Oper} {a : Act} {K : Act → World → Prop} {Q : Exit → Act → World → Prop} {E : Prop} (hgd : o.guard = none) (s x : Operand)
    (ho : o.op = .call { callee := .builtin .append, args := #[s, x], argTypes := #[25, 25] })
    (B : Nat) (v : Value) (fs : List Fl) (hs : a.eval s = v) (hown : OwnF B w v fs) (b off m c : Nat) (gs : List Fl) (hx : a.eval x = .slice (some ⟨b, off, none⟩) m c) (hl : gs.length = m)
    (hn : ∀ i, (hi : i < gs.length) → w.cell? ⟨b, off + i * 2, none⟩ = some (.string ⟨gs[i].1.toArray⟩) ∧ w.cell? ⟨b, off + i * 2 + 1, none⟩ = some (.string ⟨gs[i].2.toArray⟩))
    (N : Nat) (hN : fs.length + m = N) (h63 : N ≤ 1000000) (hB : B ≤ w.heap.size)
    (h : ∀ p cap w', OwnF B w' (.slice p N cap) (fs ++ gs) → Below B w w' → K (a.put o.dst (.slice p N cap)) w') :
    if Region.wanted o (yielded ops a.tmps) = true then Oper.wp Tryz.prog o a w K Q else E := by
  obtain ⟨i0, hi, hz0, hz1, hz2⟩ := info_parts infoField
  have hw : Region.wanted o (yielded ops a.tmps) = true := by simp [Region.wanted, hgd]
  rw [if_pos hw]
  have hnews : ∀ j u, (fcells gs)[j]? = some u → w.cell? ((⟨b, off, none⟩ : Addr).add j) = some u := fun j u h => by
    obtain ⟨i, hi, h | h⟩ := fcells_mem gs j u h
    · obtain ⟨rfl, rfl⟩ := h
      rw [Addr.add_lit]; exact (hn i hi).1
    · obtain ⟨rfl, rfl⟩ := h
      rw [Addr.add_lit]; exact (hn i hi).2
  obtain ⟨v', w', hr, h2, h3, _, _⟩ := run_append_own_at (P := Tryz.prog) w B 25 o.type 45 i0 (.agg #[.string ⟨#[]⟩, .string ⟨#[]⟩]) 2 32 Tryz.underlying25 hi hz0 hz1 hz2 rfl (by decide) v fs.length (fcells fs) hown ⟨b, off, none⟩ m c (fcells gs) (by rw [fcells_len, hl]) hnews (fcells_one gs) (by unfold maxLen; omega) (by omega) hB
  have h2' : OwnF B w' v' (fs ++ gs) := by
    unfold OwnF; rw [fcells_app, List.length_append, hl]; exact h2
  obtain ⟨p, cap, rfl, _⟩ := h2'.at
  rw [List.length_append, hl, hN] at h2' hr
  unfold Oper.wp execOp
  simp only [ho, resolve, invoke, builtin, Sem.run_bind, Sem.run_pure, Result.andThen_ok, List.map_toArray, List.map_cons, List.map_nil, hs, hx, hr]
  exact h p cap w' h2' ⟨h3.os, h3.tape, h3.output, h3.size, fun k hk => h3.block k (by omega) (fun e => by have := (World.ownsRow.lt hown k e.symm).1; omega)⟩
theorem ownF_lit0 {W : World} {B : Nat} (hB : B ≤ W.heap.size) : OwnF B (W.alloc (.cells #[] 45)) (.slice (some ⟨W.heap.size, 0, none⟩) 0 0) [] := World.ownsRow_lit W #[] 0 hB (by decide) rfl
end Go.Proofs.YtpncfeaaffgkfaaGreatDoor
namespace Go.Proofs.YtpncfeaaffgkfaaGreatDoor
open Go.RowKit
def fcell (f : Fl) : List Value := [.string ⟨f.1.toArray⟩, .string ⟨f.2.toArray⟩]
theorem fieldsAt_new (W : World) (fs : List Fl) (t : TypeId) (cap : Nat) : FieldsAt (W.alloc (.cells (rcells fcell fs).toArray t)) (.slice (some ⟨W.heap.size, 0, none⟩) fs.length cap) fs := by
  refine ⟨_, cap, rfl, fun i hi => ⟨W.heap.size, 0, rfl, ?_, ?_⟩⟩
  · rw [Nat.zero_add]
    exact cell_new7 W _ t (i * 2) _ ((rcells_get (f := fcell) (k := 2) (fun _ => rfl) fs i 0 hi (by decide)).trans rfl)
  · rw [Nat.zero_add]
    exact cell_new7 W _ t (i * 2 + 1) _ ((rcells_get (f := fcell) (k := 2) (fun _ => rfl) fs i 1 hi (by decide)).trans rfl)
theorem FieldsAt.put {W : World} {p : Addr} {n cap : Nat} {fs : List Fl} (h : FieldsAt W (.slice (some p) n cap) fs) {a : Addr} (ha : p.block ≠ a.block) (u : Value) : FieldsAt (W.setCell a u) (.slice (some p) n cap) fs := by
  obtain ⟨q, c, e, hc⟩ := h
  injection e with e1 e2 e3
  refine ⟨q, c, by rw [← e1, e2, e3], fun i hi => ?_⟩
  obtain ⟨b, off, hp, h1, h2⟩ := hc i hi
  have hb : b ≠ a.block := by
    rw [hp] at e1
    injection e1 with e1
    rw [e1] at ha
    exact ha
  exact ⟨b, off, hp, cell_set_other h1 (fun e => hb e.symm), cell_set_other h2 (fun e => hb e.symm)⟩
theorem fieldsAt_none (W : World) (cap : Nat) : FieldsAt W (.slice none 0 cap) [] := ⟨none, cap, rfl, fun _i hi => absurd hi (Nat.not_lt_zero _)⟩
end Go.Proofs.YtpncfeaaffgkfaaGreatDoor
