/-
  Walks over package chunk: what stands behind a chunk's bytes; a reader's questions.
-/
import Derived.Test.YtnopfoagioodjaaDoorKf
import Derived.Laws.IdiomStrings
import Derived.Laws.BytesArg
namespace Go.Proofs.YtnopfoagioodjaaDoor
open Go.RowKit
attribute [local go_sem] Oper.semAt_some

theorem conv_take {B : Nat} {W : World} {v : Value} {l : List UInt8} (h : OwnB B W v l) {g cap : Nat} (hv : v = .slice (some ⟨g, 0, none⟩) l.length cap) (k cap' : Nat) (hk : k ≤ l.length) :
    (convert 31 9 (.slice (some ⟨g, 0, none⟩) k cap')).run Tryd.prog W = .ok (.string ⟨(l.take k).toArray⟩) W := by
  have hl : (l.take k).length = k := by rw [List.length_take]; omega
  have := run_convert_bytes_back (P := Tryd.prog) W 31 9 5 ⟨g, 0, none⟩ cap' (l.take k) Tryd.underlying31 Tryd.underlying5 Tryd.underlying9 (fun j hj => by
    have hj' : j < l.length := by omega
    have hc := World.ownsRow.cells h (g := g) (by rw [hv]; rfl) j _ (bcells_get l j hj')
    rw [hc]; simp)
  rwa [hl] at this
theorem cell_new7 (W : World) (cs : List Value) (t : TypeId) (j : Nat) (u : Value) (h : cs[j]? = some u) : (W.alloc (.cells cs.toArray t)).cell? ⟨W.heap.size, j, none⟩ = some u := by
  have := cells_new W cs t j u h
  have e : (⟨W.heap.size, 0, none⟩ : Addr).add j = ⟨W.heap.size, j, none⟩ := by
    by_cases h0 : j = 0 <;> simp [Addr.add, h0]
  rwa [e] at this
theorem conv_all {B : Nat} {W : World} {v : Value} {l : List UInt8} (h : OwnB B W v l) : (convert 31 9 v).run Tryd.prog W = .ok (.string ⟨l.toArray⟩) W := by
  have h' := h
  rcases h.2 with ⟨rfl, hn⟩ | ⟨g, cap, cur, rfl, _⟩
  · have hl : l = [] := by
      have := h.1; cases l with
      | nil => rfl
      | cons a t => simp_all
    subst hl
    exact run_convert_bytes_nil (P := Tryd.prog) W 31 5 Tryd.underlying31 Tryd.underlying5 0 0 _ Tryd.underlying9
  · have := conv_take h' rfl l.length cap (Nat.le_refl _)
    rwa [List.take_length] at this

theorem own_snoc {B : Nat} {W : World} {v : Value} {l : List UInt8} {d : UInt8} (h : W.ownsRow B 5 1 v (l.length + 1) (bcells l ++ [.int .u8 d.toNat])) : OwnB B W v (l ++ [d]) := by
  unfold OwnB; rw [List.length_append, bcells_app]; exact h
section
variable {b : Nat} {W : World} {c : Ck} {lv dv : Value}
theorem Rd.appended (h : Rd b W c lv dv) {o : Obj} {w3 : World} {v' : Value} {l' : List UInt8} (hg : (W.alloc o).grownBy w3 lv.ownBlock) (hl : OwnB (b + 1) w3 v' l') (hat : v'.ownBlock = lv.ownBlock ∨ v'.ownBlock = some (W.alloc o).heap.size) :
    RdPost b lv dv W { c with line := l' } (w3.setCell ⟨b, 1, none⟩ v') ∧ (∃ u, w3.cell? ⟨b, 1, none⟩ = some u) ∧ w3.frozen? ⟨b, 1, none⟩ = false := by
  have hc : Ch (fun k => lv.ownBlock = some k) W w3 := (Ch.alloc _ W o).trans (ch_grown hg)
  have hb : ¬ (lv.ownBlock = some b) := fun e => by have := h.l.lt b e; omega
  have hsz : W.heap.size ≤ (W.alloc o).heap.size := (Ch.alloc (fun _ => False) W o).size
  have hat2 : v'.ownBlock = lv.ownBlock ∨ ∀ k, v'.ownBlock = some k → W.heap.size ≤ k := by
    rcases hat with e | e
    · exact .inl e
    · refine .inr fun k hk => ?_
      rw [e] at hk; injection hk with hk; omega
  refine ⟨⟨v', dv, h.relined hc hl hat2, ?_, fun k hk => ?_⟩, ⟨lv, (hc.cell (p := ⟨b, 1, none⟩) h.lt hb).trans h.c1⟩, (hc.frozen (p := ⟨b, 1, none⟩) h.lt hb).trans (h.fz 1)⟩
  · exact (hc.mono (fun k hk => .inr (.inl hk))).trans (fp_set _ 1 _)
  · rcases hk with hk | hk | hk
    · exact .inl (.inl hk)
    · rcases hat2 with e | e
      · exact .inl (.inr (.inl (e ▸ hk)))
      · exact .inr (e k hk)
    · exact .inl (.inr (.inr hk))
end

set_option maxHeartbeats 2000000 in
set_option maxRecDepth 20000 in
theorem end_any (b : Nat) (c : Ck) (d : UInt8) (lv dv : Value) (W : World) (h : Rd b W c lv dv) (hl : c.line = [] ∨ c.line = [13]) :
    Calls Tryd.prog 20 #[.pointer (some ⟨b, 0, none⟩), .int .u8 d.toNat] W fun e W' => e = .returned (.tuple #[]) ∧ RdPost b lv dv W (endC c d) W' := by
  obtain ⟨i0, hi, hz0, hz1, hz2⟩ := info_parts infoU8
  have h' := Lib.hid h
  obtain ⟨p, cap, hlv⟩ := ownsRow_slice h.l
  have q1 := h.c1
  have q0 := h.c0
  have z1 := h.fz 1
  have z0 := h.fz 0
  have hbl := h.lt
  have k0 : (⟨#[13, 10]⟩ : ByteArray)[0] = 13 := rfl
  have k1 : (⟨#[13, 10]⟩ : ByteArray)[1] = 10 := rfl
  rw [hlv] at q1
  obtain ⟨want, hwant⟩ : ∃ x : UInt8, x = if c.line.isEmpty then 13 else 10 := ⟨_, rfl⟩
  by_cases hd : d = want
  · rcases hl with hl | hl
    · have hw : want = 13 := by rw [hwant, hl]; rfl
      have hH := Lib.hid (show endC c d = { c with line := c.line ++ [d] } by unfold endC; rw [hl, if_pos (by rw [hd, hw]; rfl), if_neg (by rw [hd, hw]; decide)])
      have hl' := Lib.hid hl
      rw [hl] at q1
      simp only [List.length_nil] at q1
      have n13 : ((d.toNat : Int) != 13) = false := by rw [hd, hw]; rfl
      have n10 : ((d.toNat : Int) == 10) = false := by rw [hd, hw]; rfl
      have hlv' := Lib.hid hlv
      clear hl hw h hlv hwant hd
      go_enter Tryd.func20, Tryd.ntmps20
      go_wp2_with (at_builtin; refine wpList_append_own_at _ rfl _ _ 31 rfl (b + 1) 5 i0 (.int .u8 0) 1 1 Tryd.underlying31 hi hz0 hz1 hz2 rfl (by decide) lv c.line.length _ (by show Value.slice p 0 cap = lv; rw [hlv'.out, hl'.out]; rfl) (h'.out.l.alloc _) ⟨W.heap.size, 0, none⟩ 1 1 [.int .u8 d.toNat] rfl rfl (cell_one_new _ _ _) (by simp [Value.oneCell']) (by rw [hl'.out]; decide) (by rw [hl'.out]; decide) (by simp; omega) ?_; intro v' w3 hown hgrow _ hat; have hown2 := own_snoc hown; obtain ⟨g', cap', hv', _⟩ := OwnB.row hown2 (by simp); rw [show (c.line ++ [d]).length = c.line.length + 1 by simp] at hv'; subst hv'; obtain ⟨hp, ⟨u, hu⟩, hz⟩ := h'.out.appended hgrow (l' := c.line ++ [d]) hown2 hat; have hp' := Lib.hid hp; clear hp hown hown2 hgrow hat)
      go_wp2
      go_end0
      exact ⟨rfl, by rw [hH.out]; exact hp'.out⟩
    · have hw : want = 10 := by rw [hwant, hl]; rfl
      have hH := Lib.hid (show endC c d = { c with line := [], st := 0 } by unfold endC; rw [hl, if_pos (by rw [hd, hw]; rfl), if_pos (by rw [hd, hw])])
      rw [hl] at q1
      simp only [List.length_nil, List.length_cons, Nat.zero_add] at q1
      rw [hw] at hd
      subst hd
      clear hl hw h hlv hwant
      go_enter Tryd.func20, Tryd.ntmps20
      go_wp2
      go_end0
      refine ⟨rfl, ?_⟩
      rw [hH.out]
      have hr := (h'.out.set1 (OwnB.nil _ _) (fun k hk => by cases hk)).set0 0
      exact ⟨_, _, hr, (fp_set _ _ _).trans (fp_set _ _ _), fp_nil⟩
  · have hH := Lib.hid (show endC c d = wrongC c 400 by unfold endC; rw [← hwant, if_neg hd])
    rcases hl with hl | hl
    · have hw : want = 13 := by rw [hwant, hl]; rfl
      have hdb : ((d.toNat : Int) != 13) = true := by
        rw [bne_iff_ne]; intro e; exact hd (UInt8.toNat_inj.1 (by rw [hw]; show d.toNat = 13; omega))
      rw [hl] at q1
      simp only [List.length_nil] at q1
      clear hd h hl hlv hw hwant
      go_enter Tryd.func20, Tryd.ntmps20
      go_wp2_with fail
      refine (wrong_any b c 400 lv dv _ h'.out).mono ?_
      rintro e w2 ⟨rfl, hp⟩
      have hp' := Lib.hid hp
      clear hp
      go_wp2
      go_end0
      exact ⟨rfl, by rw [hH.out]; exact hp'.out⟩
    · have hw : want = 10 := by rw [hwant, hl]; rfl
      have hdb : ((d.toNat : Int) != 10) = true := by
        rw [bne_iff_ne]; intro e; exact hd (UInt8.toNat_inj.1 (by rw [hw]; show d.toNat = 10; omega))
      rw [hl] at q1
      simp only [List.length_nil, List.length_cons, Nat.zero_add] at q1
      clear hd h hl hlv hw hwant
      go_enter Tryd.func20, Tryd.ntmps20
      go_wp2_with fail
      refine (wrong_any b c 400 lv dv _ h'.out).mono ?_
      rintro e w2 ⟨rfl, hp⟩
      have hp' := Lib.hid hp
      clear hp
      go_wp2
      go_end0
      exact ⟨rfl, by rw [hH.out]; exact hp'.out⟩

set_option maxHeartbeats 2000000 in
theorem new_any (W : World) : Calls Tryd.prog 11 #[] W fun e W' => e = .returned (.pointer (some ⟨W.heap.size, 0, none⟩)) ∧ Rd W.heap.size W' ck0 (.slice none 0 0) (.slice none 0 0) ∧ Gr W W' := by
  go_enter Tryd.func11, Tryd.ntmps11
  go_wp2
  refine bodyPost_ret (v := .pointer (some ⟨W.heap.size, 0, none⟩)) (by simp [results, Tryd.results11, go_sem]) rfl ⟨rfl, ?_, Gr.alloc _ _⟩
  exact ⟨cell_new7 _ _ _ 0 _ rfl, cell_new7 _ _ _ 1 _ rfl, cell_new7 _ _ _ 2 _ rfl, cell_new7 _ _ _ 3 _ rfl, cell_new7 _ _ _ 4 _ rfl, cell_new7 _ _ _ 5 _ rfl, cell_new7 _ _ _ 6 _ rfl, fun o => World.frozen?_alloc_at _ _ _ _ rfl, OwnB.nil _ _, OwnB.nil _ _, fun k hk => by cases hk⟩

set_option maxHeartbeats 2000000 in
theorem data_any (b : Nat) (c : Ck) (lv dv : Value) (W : World) (h : Rd b W c lv dv) :
    Calls Tryd.prog 14 #[.pointer (some ⟨b, 0, none⟩)] W fun e W' => e = .returned (.string ⟨c.data.toArray⟩) ∧ W = W' := by
  have hc := conv_all h.d
  have q3 := h.c3
  clear h
  go_enter Tryd.func14, Tryd.ntmps14
  go_wp2
  refine bodyPost_ret (v := .string ⟨c.data.toArray⟩) (by simp [results, Tryd.results14, go_sem]) rfl ⟨rfl, rfl⟩

set_option maxHeartbeats 2000000 in
theorem done_any (b : Nat) (c : Ck) (lv dv : Value) (W : World) (h : Rd b W c lv dv) :
    Calls Tryd.prog 15 #[.pointer (some ⟨b, 0, none⟩)] W fun e W' => e = .returned (.bool (decide (c.st = 4 ∧ c.bad = 0))) ∧ W = W' := by
  have q0 := h.c0
  have q6 := h.c6
  clear h
  by_cases h4 : c.st = 4
  · by_cases h0 : c.bad = 0
    · have e4 : ((c.st : Int) == 4) = true := by rw [beq_iff_eq]; omega
      have e0 : ((c.bad : Int) == 0) = true := by rw [beq_iff_eq]; omega
      have hr := Lib.hid (show decide (c.st = 4 ∧ c.bad = 0) = true by simp [h4, h0])
      clear h4 h0
      go_enter Tryd.func15, Tryd.ntmps15
      go_wp2
      refine bodyPost_ret (v := .bool true) (by simp [results, Tryd.results15, go_sem]) rfl ⟨by rw [hr.out], rfl⟩
    · have e4 : ((c.st : Int) == 4) = true := by rw [beq_iff_eq]; omega
      have e0 : ((c.bad : Int) == 0) = false := beq_eq_false_iff_ne.2 (by omega)
      have hr := Lib.hid (show decide (c.st = 4 ∧ c.bad = 0) = false by simp [h4, h0])
      clear h4 h0
      go_enter Tryd.func15, Tryd.ntmps15
      go_wp2
      refine bodyPost_ret (v := .bool false) (by simp [results, Tryd.results15, go_sem]) rfl ⟨by rw [hr.out], rfl⟩
  · have e4 : ((c.st : Int) == 4) = false := beq_eq_false_iff_ne.2 (by omega)
    have hr := Lib.hid (show decide (c.st = 4 ∧ c.bad = 0) = false by simp [h4])
    clear h4
    go_enter Tryd.func15, Tryd.ntmps15
    go_wp2
    refine bodyPost_ret (v := .bool false) (by simp [results, Tryd.results15, go_sem]) rfl ⟨by rw [hr.out], rfl⟩

set_option maxHeartbeats 2000000 in
theorem bad_any (b : Nat) (c : Ck) (lv dv : Value) (W : World) (h : Rd b W c lv dv) :
    Calls Tryd.prog 16 #[.pointer (some ⟨b, 0, none⟩)] W fun e W' => e = .returned (.int .i64 c.bad) ∧ W = W' := by
  have q6 := h.c6
  clear h
  go_enter Tryd.func16, Tryd.ntmps16
  go_wp2
  refine bodyPost_ret (v := .int .i64 c.bad) (by simp [results, Tryd.results16, go_sem]) rfl ⟨rfl, rfl⟩
end Go.Proofs.YtnopfoagioodjaaDoor
