/-
  Walks over package chunk: what is wrong, a size, a head, a trailer.
-/
import Derived.Test.YtnopfoagioodjaaDoorKa
import Derived.RegionTactic
import Derived.ChangeAlike
namespace Go.Proofs.YtnopfoagioodjaaDoor
open Go.RowKit

theorem off_ne {b o i : Nat} (h : o ≠ i) : (⟨b, i, none⟩ : Addr) ≠ ⟨b, o, none⟩ := fun e => by injection e with _ e2 _; exact h e2.symm
theorem cell_off {W : World} {b o i : Nat} {u v : Value} (h : W.cell? ⟨b, o, none⟩ = some u) (hn : o ≠ i) : (W.setCell ⟨b, i, none⟩ v).cell? ⟨b, o, none⟩ = some u :=
  (World.cell?_setCell_other _ _ _ _ (off_ne hn)).trans h
theorem own_set {b i : Nat} {W : World} {u v : Value} {l : List UInt8} (h : OwnB (b + 1) W v l) : OwnB (b + 1) (W.setCell ⟨b, i, none⟩ u) v l :=
  ownsRow_ch h (Ch.setCell (T := fun k => k = b) W (a := ⟨b, i, none⟩) rfl u) (fun k hk => by (try dsimp only at hk); omega)
section
variable {b : Nat} {W : World} {c : Ck} {lv dv : Value}
theorem Rd.set0 (h : Rd b W c lv dv) (n : Nat) : Rd b (W.setCell ⟨b, 0, none⟩ (.int .i64 n)) { c with st := n } lv dv :=
  ⟨cell_set_same h.c0, cell_off h.c1 (by decide), cell_off h.c2 (by decide), cell_off h.c3 (by decide), cell_off h.c4 (by decide), cell_off h.c5 (by decide), cell_off h.c6 (by decide), fun o => frozen_set.trans (h.fz o), own_set h.l, own_set h.d, h.ne⟩
theorem Rd.set2 (h : Rd b W c lv dv) (n : Nat) : Rd b (W.setCell ⟨b, 2, none⟩ (.int .i64 n)) { c with left := n } lv dv :=
  ⟨cell_off h.c0 (by decide), cell_off h.c1 (by decide), cell_set_same h.c2, cell_off h.c3 (by decide), cell_off h.c4 (by decide), cell_off h.c5 (by decide), cell_off h.c6 (by decide), fun o => frozen_set.trans (h.fz o), own_set h.l, own_set h.d, h.ne⟩
theorem Rd.set4 (h : Rd b W c lv dv) (n : Nat) : Rd b (W.setCell ⟨b, 4, none⟩ (.int .i64 n)) { c with nf := n } lv dv :=
  ⟨cell_off h.c0 (by decide), cell_off h.c1 (by decide), cell_off h.c2 (by decide), cell_off h.c3 (by decide), cell_set_same h.c4, cell_off h.c5 (by decide), cell_off h.c6 (by decide), fun o => frozen_set.trans (h.fz o), own_set h.l, own_set h.d, h.ne⟩
theorem Rd.set5 (h : Rd b W c lv dv) (n : Nat) : Rd b (W.setCell ⟨b, 5, none⟩ (.int .i64 n)) { c with tail := n } lv dv :=
  ⟨cell_off h.c0 (by decide), cell_off h.c1 (by decide), cell_off h.c2 (by decide), cell_off h.c3 (by decide), cell_off h.c4 (by decide), cell_set_same h.c5, cell_off h.c6 (by decide), fun o => frozen_set.trans (h.fz o), own_set h.l, own_set h.d, h.ne⟩
theorem Rd.set6 (h : Rd b W c lv dv) (n : Nat) : Rd b (W.setCell ⟨b, 6, none⟩ (.int .i64 n)) { c with bad := n } lv dv :=
  ⟨cell_off h.c0 (by decide), cell_off h.c1 (by decide), cell_off h.c2 (by decide), cell_off h.c3 (by decide), cell_off h.c4 (by decide), cell_off h.c5 (by decide), cell_set_same h.c6, fun o => frozen_set.trans (h.fz o), own_set h.l, own_set h.d, h.ne⟩
theorem Rd.set1 (h : Rd b W c lv dv) {lv' : Value} {l' : List UInt8} (hl : OwnB (b + 1) W lv' l') (hne : ∀ k, lv'.ownBlock = some k → dv.ownBlock = some k → False) : Rd b (W.setCell ⟨b, 1, none⟩ lv') { c with line := l' } lv' dv :=
  ⟨cell_off h.c0 (by decide), cell_set_same h.c1, cell_off h.c2 (by decide), cell_off h.c3 (by decide), cell_off h.c4 (by decide), cell_off h.c5 (by decide), cell_off h.c6 (by decide), fun o => frozen_set.trans (h.fz o), own_set hl, own_set h.d, hne⟩
theorem Rd.set3 (h : Rd b W c lv dv) {dv' : Value} {d' : List UInt8} (hl : OwnB (b + 1) W dv' d') (hne : ∀ k, lv.ownBlock = some k → dv'.ownBlock = some k → False) : Rd b (W.setCell ⟨b, 3, none⟩ dv') { c with data := d' } lv dv' :=
  ⟨cell_off h.c0 (by decide), cell_off h.c1 (by decide), cell_off h.c2 (by decide), cell_set_same h.c3, cell_off h.c4 (by decide), cell_off h.c5 (by decide), cell_off h.c6 (by decide), fun o => frozen_set.trans (h.fz o), own_set h.l, own_set hl, hne⟩
theorem fp_set (W : World) (i : Nat) (v : Value) : Ch (Fp b lv dv) W (W.setCell ⟨b, i, none⟩ v) := Ch.setCell W (a := ⟨b, i, none⟩) (.inl rfl) v
theorem RdPost.of {W1 : World} {c1 : Ck} (h : Rd b W1 c1 lv dv) (hc : Ch (Fp b lv dv) W W1) : RdPost b lv dv W c1 W1 := ⟨lv, dv, h, hc, fun _ hk => .inl hk⟩
theorem RdPost.after {W1 W2 : World} {c2 : Ck} {lv1 dv1 : Value} (hc : Ch (Fp b lv dv) W W1) (hs : ∀ k, Fp b lv1 dv1 k → Fp b lv dv k ∨ W.heap.size ≤ k) (k : RdPost b lv1 dv1 W1 c2 W2) : RdPost b lv dv W c2 W2 := by
  obtain ⟨lv2, dv2, k1, k2, k3⟩ := k
  have hz := hc.size
  refine ⟨lv2, dv2, k1, ?_, fun j hj => ?_⟩
  · refine ⟨k2.os.trans hc.os, k2.tape.trans hc.tape, k2.output.trans hc.output, Nat.le_trans hc.size k2.size, fun j hj hn => ?_⟩
    exact (k2.block j (by omega) (fun e => (hs j e).elim hn (by omega))).trans (hc.block j hj hn)
  · rcases k3 j hj with e | e
    · exact hs j e
    · exact .inr (by omega)
theorem fp_self (k : Nat) (h : Fp b lv dv k) : Fp b lv dv k ∨ W.heap.size ≤ k := .inl h
theorem fp_nil (k : Nat) (h : Fp b (.slice none 0 0) dv k) : Fp b lv dv k ∨ W.heap.size ≤ k := by
  rcases h with h | h | h
  · exact .inl (.inl h)
  · cases h
  · exact .inl (.inr (.inr h))
end

set_option maxHeartbeats 1000000 in
theorem wrong_any (b : Nat) (c : Ck) (code : Nat) (lv dv : Value) (W : World) (h : Rd b W c lv dv) :
    Calls Tryd.prog 32 #[.pointer (some ⟨b, 0, none⟩), .int .i64 code] W fun e W' => e = .returned (.tuple #[]) ∧ RdPost b lv dv W (wrongC c code) W' := by
  have h' := Lib.hid h
  have c0 := h.c0
  have c6 := h.c6
  have f0 := h.fz 0
  have f6 := h.fz 6
  clear h
  go_enter Tryd.func32, Tryd.ntmps32
  go_wp2
  go_end0
  exact ⟨rfl, RdPost.of ((h'.out.set0 4).set6 code) ((fp_set _ _ _).trans (fp_set _ _ _))⟩
end Go.Proofs.YtnopfoagioodjaaDoor
