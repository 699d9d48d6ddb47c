/-
  A chunk's reader in memory: its cells, and two rows of bytes of its own.
  Walks over package chunk: what is wrong, a size, a head, a trailer.
-/
import Derived.Test.YtpncfeaaffgkfaaGreatDoorD
import Derived.Test.YtpncfeaaffgkfaaGreatDoorRw
import Derived.Test.YtpncfeaaffgkfaaGreatDoorP1
import Derived.Lib.AppendStr
import Derived.Maps.AppendAt
import Derived.RegionTactic
import Derived.ChangeAlike
namespace Go.Proofs.YtpncfeaaffgkfaaGreatDoor
open Go.RowKit

/-- The reader at block b. -/
structure Rd (b : Nat) (W : World) (c : Ck) (lv dv : Value) : Prop where
  c0 : W.cell? ⟨b, 0, none⟩ = some (.int .i64 c.st)
  c1 : W.cell? ⟨b, 1, none⟩ = some lv
  c2 : W.cell? ⟨b, 2, none⟩ = some (.int .i64 c.left)
  c3 : W.cell? ⟨b, 3, none⟩ = some dv
  c4 : W.cell? ⟨b, 4, none⟩ = some (.int .i64 c.nf)
  c5 : W.cell? ⟨b, 5, none⟩ = some (.int .i64 c.tail)
  c6 : W.cell? ⟨b, 6, none⟩ = some (.int .i64 c.bad)
  fz : ∀ o, W.frozen? ⟨b, o, none⟩ = false
  l : OwnB (b + 1) W lv c.line
  d : OwnB (b + 1) W dv c.data
  ne : ∀ k, lv.ownBlock = some k → dv.ownBlock = some k → False
/-- The blocks that a reader may write. -/
def Fp (b : Nat) (lv dv : Value) (k : Nat) : Prop := k = b ∨ lv.ownBlock = some k ∨ dv.ownBlock = some k
theorem Rd.lt {b : Nat} {W : World} {c : Ck} {lv dv : Value} (h : Rd b W c lv dv) : b < W.heap.size := cell_lt h.c0
theorem Rd.fp_lt {b : Nat} {W : World} {c : Ck} {lv dv : Value} (h : Rd b W c lv dv) (k : Nat) (hk : Fp b lv dv k) : b ≤ k ∧ k < W.heap.size := by
  rcases hk with rfl | hk | hk
  · exact ⟨Nat.le_refl _, h.lt⟩
  · have := h.l.lt k hk; omega
  · have := h.d.lt k hk; omega
theorem Rd.ch {b : Nat} {W W' : World} {c : Ck} {lv dv : Value} {T : Nat → Prop} (h : Rd b W c lv dv) (hc : Ch T W W') (hT : ∀ k, T k → ¬ Fp b lv dv k) : Rd b W' c lv dv := by
  have hb : ¬ T b := fun e => hT b e (.inl rfl)
  have cell : ∀ {o v}, W.cell? ⟨b, o, none⟩ = some v → W'.cell? ⟨b, o, none⟩ = some v := fun {o v} hh => (hc.cell (p := ⟨b, o, none⟩) h.lt hb).trans hh
  have row : ∀ {v l}, OwnB (b + 1) W v l → (∀ k, v.ownBlock = some k → ¬ T k) → OwnB (b + 1) W' v l := fun {v l} hh hn => by
    obtain ⟨h1, h2⟩ := hh
    refine ⟨h1, ?_⟩
    rcases h2 with h2 | ⟨g, cap, cur, rfl, hb, hh, hn2, hm, hcs, ht⟩
    · exact .inl h2
    · exact .inr ⟨g, cap, cur, rfl, hb, hc.get hh (hn g rfl), hn2, hm, hcs, ht⟩
  exact ⟨cell h.c0, cell h.c1, cell h.c2, cell h.c3, cell h.c4, cell h.c5, cell h.c6, fun o => (hc.frozen (p := ⟨b, o, none⟩) h.lt hb).trans (h.fz o),
    row h.l (fun k hk ht => hT k ht (.inr (.inl hk))), row h.d (fun k hk ht => hT k ht (.inr (.inr hk))), h.ne⟩
theorem Rd.gr {b : Nat} {W W' : World} {c : Ck} {lv dv : Value} (h : Rd b W c lv dv) (hg : Gr W W') : Rd b W' c lv dv := h.ch (hg.to_ch (fun _ => False)) (fun _ h => h.elim)
/-- What a step leaves: the reader's new state, nothing else turned. -/
def RdPost (b : Nat) (lv dv : Value) (W : World) (c' : Ck) (W' : World) : Prop :=
  ∃ lv' dv', Rd b W' c' lv' dv' ∧ Ch (Fp b lv dv) W W' ∧ ∀ k, Fp b lv' dv' k → Fp b lv dv k ∨ W.heap.size ≤ k
theorem RdPost.trans {b : Nat} {lv dv : Value} {W W1 W2 : World} {c1 c2 : Ck} (h : RdPost b lv dv W c1 W1) (k : ∀ lv1 dv1, Rd b W1 c1 lv1 dv1 → RdPost b lv1 dv1 W1 c2 W2) : RdPost b lv dv W c2 W2 := by
  obtain ⟨lv1, dv1, h1, h2, h3⟩ := h
  obtain ⟨lv2, dv2, k1, k2, k3⟩ := k lv1 dv1 h1
  have hs := h2.size
  refine ⟨lv2, dv2, k1, ?_, fun j hj => ?_⟩
  · refine ⟨k2.os.trans h2.os, k2.tape.trans h2.tape, k2.output.trans h2.output, Nat.le_trans h2.size k2.size, fun j hj hn => ?_⟩
    have : ¬ Fp b lv1 dv1 j := fun e => (h3 j e).elim hn (by omega)
    exact (k2.block j (by omega) this).trans (h2.block j hj hn)
  · rcases k3 j hj with e | e
    · exact h3 j e
    · exact .inr (by omega)
theorem RdPost.gr {b : Nat} {lv dv : Value} {W W1 : World} {c : Ck} {w : World} (h : RdPost b lv dv W c W1) (hr : ∀ k, Fp b lv dv k → w.heap.size ≤ k) (hg : Gr w W) : Gr w W1 := by
  obtain ⟨_, _, _, h2, _⟩ := h
  exact hg.ch h2 hr
/-- Appending a string's bytes: where the new slice lies. -/
theorem append_string_at {P : Program} (w : World) (base : Nat) (t u ty e : TypeId) (i : TypeInfo) (ht : P.underlying t = some (.slice e)) (hu : P.underlying u = some .string) (hi : P.info? e = some i) (hz : i.zero = some (.int .u8 0))
    (hsize : i.size = 1) (hby : i.bytes = 1) (v : Value) (n : Nat) (xs : List Value) (hown : w.ownsRow base e 1 v n xs) (s : ByteArray)
    (h63 : n + s.size ≤ maxLen) (hbytes : n + s.size ≤ 140737488355328) (hbase : base ≤ w.heap.size) :
    ∃ v' w', (Builtin.append_ #[t, u] ty #[v, .string s]).run P w = .ok v' w' ∧ w'.ownsRow base e 1 v' (n + s.size) (xs ++ Lib.strCells s) ∧ w.grownBy w' v.ownBlock ∧ (v'.ownBlock = v.ownBlock ∨ v'.ownBlock = some w.heap.size) := by
  obtain ⟨v', w', hr, h2, h3, h4⟩ := Lib.run_append_own_string (P := P) w base t u ty e i ht hu hi hz hsize hby v n xs hown s h63 hbytes hbase
  refine ⟨v', w', hr, h2, h3, ?_⟩
  have hsmall : n + s.size ≤ 9223372036854775807 := by simp only [maxLen] at h63; omega
  have hxl : xs.length = n := by simpa using hown.1
  rcases hown.2 with ⟨rfl, rfl⟩ | ⟨g, cap, cur, rfl, hbg, hg, hnc, hcm, hcs, htake⟩
  · by_cases hm : s.size = 0
    · rw [h4.2 ⟨rfl, hm⟩]; exact .inl rfl
    · have hr2 := run_append_nil_string (P := P) w t u ty e i (.int .u8 0) ht hu hi hz s (by omega) (by omega) (by rw [hby]; omega)
      rw [hr2] at hr
      injection hr with e1 _
      rw [← e1]; exact .inr rfl
  · by_cases hroom : n + s.size ≤ cap
    · have hcs' : cur.size = cap := by simpa using hcs
      have hr2 := Lib.run_append_room_string (P := P) w t u ty e i ht hu hi hsize g n cap cur hg s hroom (by omega)
      rw [hr2] at hr
      injection hr with e1 _
      rw [← e1]; exact .inl rfl
    · have holds : ∀ j u, xs[j]? = some u → w.cell? ((⟨g, 0, none⟩ : Addr).add j) = some u := hown.cells (g := g) rfl
      have hr2 := Lib.run_append_grow_string (P := P) w t u ty e i (.int .u8 0) ht hu hi hz ⟨g, 0, none⟩ n cap xs (by rw [hsize]; simpa using hxl) holds s (by omega) (by omega) (by rw [hby]; exact growslice_fits (by omega) (by omega))
      rw [hr2] at hr
      injection hr with e1 _
      rw [← e1]; exact .inr rfl
end Go.Proofs.YtpncfeaaffgkfaaGreatDoor
namespace Go.Proofs.YtpncfeaaffgkfaaGreatDoor
open Go.RowKit

theorem own_set {b i : Nat} {W : World} {u v : Value} {l : List UInt8} (h : OwnB (b + 1) W v l) : OwnB (b + 1) (W.setCell ⟨b, i, none⟩ u) v l :=
  ownsRow_ch h (Ch.setCell (T := fun k => k = b) W (a := ⟨b, i, none⟩) rfl u) (fun k hk => by (try dsimp only at hk); omega)
section
variable {b : Nat} {W : World} {c : Ck} {lv dv : Value}
theorem Rd.set0 (h : Rd b W c lv dv) (n : Nat) : Rd b (W.setCell ⟨b, 0, none⟩ (.int .i64 n)) { c with st := n } lv dv :=
  ⟨cell_set_same h.c0, cell_off h.c1 (by decide), cell_off h.c2 (by decide), cell_off h.c3 (by decide), cell_off h.c4 (by decide), cell_off h.c5 (by decide), cell_off h.c6 (by decide), fun o => frozen_set.trans (h.fz o), own_set h.l, own_set h.d, h.ne⟩
theorem Rd.set2 (h : Rd b W c lv dv) (n : Nat) : Rd b (W.setCell ⟨b, 2, none⟩ (.int .i64 n)) { c with left := n } lv dv :=
  ⟨cell_off h.c0 (by decide), cell_off h.c1 (by decide), cell_set_same h.c2, cell_off h.c3 (by decide), cell_off h.c4 (by decide), cell_off h.c5 (by decide), cell_off h.c6 (by decide), fun o => frozen_set.trans (h.fz o), own_set h.l, own_set h.d, h.ne⟩
theorem Rd.set4 (h : Rd b W c lv dv) (n : Nat) : Rd b (W.setCell ⟨b, 4, none⟩ (.int .i64 n)) { c with nf := n } lv dv :=
  ⟨cell_off h.c0 (by decide), cell_off h.c1 (by decide), cell_off h.c2 (by decide), cell_off h.c3 (by decide), cell_set_same h.c4, cell_off h.c5 (by decide), cell_off h.c6 (by decide), fun o => frozen_set.trans (h.fz o), own_set h.l, own_set h.d, h.ne⟩
theorem Rd.set5 (h : Rd b W c lv dv) (n : Nat) : Rd b (W.setCell ⟨b, 5, none⟩ (.int .i64 n)) { c with tail := n } lv dv :=
  ⟨cell_off h.c0 (by decide), cell_off h.c1 (by decide), cell_off h.c2 (by decide), cell_off h.c3 (by decide), cell_off h.c4 (by decide), cell_set_same h.c5, cell_off h.c6 (by decide), fun o => frozen_set.trans (h.fz o), own_set h.l, own_set h.d, h.ne⟩
theorem Rd.set6 (h : Rd b W c lv dv) (n : Nat) : Rd b (W.setCell ⟨b, 6, none⟩ (.int .i64 n)) { c with bad := n } lv dv :=
  ⟨cell_off h.c0 (by decide), cell_off h.c1 (by decide), cell_off h.c2 (by decide), cell_off h.c3 (by decide), cell_off h.c4 (by decide), cell_off h.c5 (by decide), cell_set_same h.c6, fun o => frozen_set.trans (h.fz o), own_set h.l, own_set h.d, h.ne⟩
theorem Rd.set1 (h : Rd b W c lv dv) {lv' : Value} {l' : List UInt8} (hl : OwnB (b + 1) W lv' l') (hne : ∀ k, lv'.ownBlock = some k → dv.ownBlock = some k → False) : Rd b (W.setCell ⟨b, 1, none⟩ lv') { c with line := l' } lv' dv :=
  ⟨cell_off h.c0 (by decide), cell_set_same h.c1, cell_off h.c2 (by decide), cell_off h.c3 (by decide), cell_off h.c4 (by decide), cell_off h.c5 (by decide), cell_off h.c6 (by decide), fun o => frozen_set.trans (h.fz o), own_set hl, own_set h.d, hne⟩
theorem Rd.set3 (h : Rd b W c lv dv) {dv' : Value} {d' : List UInt8} (hl : OwnB (b + 1) W dv' d') (hne : ∀ k, lv.ownBlock = some k → dv'.ownBlock = some k → False) : Rd b (W.setCell ⟨b, 3, none⟩ dv') { c with data := d' } lv dv' :=
  ⟨cell_off h.c0 (by decide), cell_off h.c1 (by decide), cell_off h.c2 (by decide), cell_set_same h.c3, cell_off h.c4 (by decide), cell_off h.c5 (by decide), cell_off h.c6 (by decide), fun o => frozen_set.trans (h.fz o), own_set h.l, own_set hl, hne⟩
theorem fp_set (W : World) (i : Nat) (v : Value) : Ch (Fp b lv dv) W (W.setCell ⟨b, i, none⟩ v) := Ch.setCell W (a := ⟨b, i, none⟩) (.inl rfl) v
theorem RdPost.of {W1 : World} {c1 : Ck} (h : Rd b W1 c1 lv dv) (hc : Ch (Fp b lv dv) W W1) : RdPost b lv dv W c1 W1 := ⟨lv, dv, h, hc, fun _ hk => .inl hk⟩
theorem RdPost.after {W1 W2 : World} {c2 : Ck} {lv1 dv1 : Value} (hc : Ch (Fp b lv dv) W W1) (hs : ∀ k, Fp b lv1 dv1 k → Fp b lv dv k ∨ W.heap.size ≤ k) (k : RdPost b lv1 dv1 W1 c2 W2) : RdPost b lv dv W c2 W2 := by
  obtain ⟨lv2, dv2, k1, k2, k3⟩ := k
  have hz := hc.size
  refine ⟨lv2, dv2, k1, ?_, fun j hj => ?_⟩
  · refine ⟨k2.os.trans hc.os, k2.tape.trans hc.tape, k2.output.trans hc.output, Nat.le_trans hc.size k2.size, fun j hj hn => ?_⟩
    exact (k2.block j (by omega) (fun e => (hs j e).elim hn (by omega))).trans (hc.block j hj hn)
  · rcases k3 j hj with e | e
    · exact hs j e
    · exact .inr (by omega)
theorem fp_self (k : Nat) (h : Fp b lv dv k) : Fp b lv dv k ∨ W.heap.size ≤ k := .inl h
theorem fp_nil (k : Nat) (h : Fp b (.slice none 0 0) dv k) : Fp b lv dv k ∨ W.heap.size ≤ k := by
  rcases h with h | h | h
  · exact .inl (.inl h)
  · cases h
  · exact .inl (.inr (.inr h))
end

set_option maxHeartbeats 1000000 in
theorem wrong_any (b : Nat) (c : Ck) (code : Nat) (lv dv : Value) (W : World) (h : Rd b W c lv dv) :
    Calls Tryz.prog 113 #[.pointer (some ⟨b, 0, none⟩), .int .i64 code] W fun e W' => e = .returned (.tuple #[]) ∧ RdPost b lv dv W (wrongC c code) W' := by
  have h' := Lib.hid h
  have c0 := h.c0
  have c6 := h.c6
  have f0 := h.fz 0
  have f6 := h.fz 6
  clear h
  go_enter Tryz.func113, Tryz.ntmps113
  go_wp2
  go_end0
  exact ⟨rfl, RdPost.of ((h'.out.set0 4).set6 code) ((fp_set _ _ _).trans (fp_set _ _ _))⟩
end Go.Proofs.YtpncfeaaffgkfaaGreatDoor
