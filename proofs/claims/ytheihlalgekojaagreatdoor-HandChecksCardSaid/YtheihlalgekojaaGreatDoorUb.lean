/-
  The document's SHA-1.
-/
import Derived.Test.YtheihlalgekojaaGreatDoorUa
import Derived.Test.YtheihlalgekojaaGreatDoorSf
import Derived.IntWalk
import Derived.Lib.AtoiErrMem
namespace Go.Proofs.YtheihlalgekojaaGreatDoor
open Go.RowKit
attribute [local go_sem] Oper.semAt_some

/-- Words, cell by cell. -/
def wcells (l : List Nat) : List Value := l.map fun (c : Nat) => Value.int .u32 (c : Int)
theorem wcells_len (l : List Nat) : (wcells l).length = l.length := by simp [wcells]
theorem wcells_app (a b : List Nat) : wcells (a ++ b) = wcells a ++ wcells b := by simp [wcells]
theorem infoU32 : (Tryz.prog.info? 77).map (fun i => (i.zero, i.size, i.bytes)) = some (some (.int .u32 0), 1, 4) := by kernel_rfl
def sliceLen : Value → Nat
  | .slice _ n _ => n
  | _ => 0
theorem bcells_snoc (l : List UInt8) (d : UInt8) : bcells l ++ [.int .u8 d.toNat] = bcells (l ++ [d]) := by simp [bcells]
theorem or4 {a b c d : Nat} (hb : b < 256) (hc : c < 256) (hd : d < 256) : a * 16777216 ||| b * 65536 ||| c * 256 ||| d = ((a * 256 + b) * 256 + c) * 256 + d := by
  have h1 : a * 16777216 ||| b * 65536 = (a * 256 + b) * 65536 := by
    have := Nat.two_pow_add_eq_or_of_lt (i := 24) (b := b * 65536) (by omega) a
    rw [show a * 16777216 = 2 ^ 24 * a by omega, ← this]; omega
  have h2 : (a * 256 + b) * 65536 ||| c * 256 = ((a * 256 + b) * 256 + c) * 256 := by
    have := Nat.two_pow_add_eq_or_of_lt (i := 16) (b := c * 256) (by omega) (a * 256 + b)
    rw [show (a * 256 + b) * 65536 = 2 ^ 16 * (a * 256 + b) by omega, ← this]; omega
  have h3 : ((a * 256 + b) * 256 + c) * 256 ||| d = ((a * 256 + b) * 256 + c) * 256 + d := by
    have := Nat.two_pow_add_eq_or_of_lt (i := 8) (b := d) (by omega) ((a * 256 + b) * 256 + c)
    rw [show ((a * 256 + b) * 256 + c) * 256 = 2 ^ 8 * ((a * 256 + b) * 256 + c) by omega, ← this]
  rw [h1, h2, h3]
/-- The first t words of a block's rounds. -/
def wRow (l : List UInt8) (t : Nat) : List Nat := (List.range t).map (wS l)
theorem wRow_len (l : List UInt8) (t : Nat) : (wRow l t).length = t := by simp [wRow]
theorem wRow_succ (l : List UInt8) (t : Nat) : wRow l (t + 1) = wRow l t ++ [wS l t] := by simp [wRow, List.range_succ]
theorem wRow_at (l : List UInt8) (t j : Nat) (h : j < t) : (wcells (wRow l t))[j]? = some (.int .u32 (wS l j)) := by simp [wcells, wRow, h]
theorem wRow_cells (l : List UInt8) (t : Nat) {z : Nat} (h : wS l t = z) : wcells (wRow l t) ++ [.int .u32 z] = wcells (wRow l (t + 1)) := by rw [wRow_succ, wcells_app, h]; rfl
theorem bcells_at (l : List UInt8) (i : Nat) (h : i < l.length) : (bcells l)[i]? = some (.int .u8 (byteN l i : Int)) := by
  rw [bcells_get l i h]; simp [byteN, h]
theorem OutAt.below {W W' : World} {b B : Nat} {l : List UInt8} (h : OutAt W b l) (g : Below B W W') (hb : b < B) : OutAt W' b l :=
  ⟨fun j hj => (Below.cell g (p := ⟨b, j, none⟩) hb).trans (h.1 j hj), fun j => (Below.frozen g (p := ⟨b, j, none⟩) hb).trans (h.2 j)⟩
theorem OutAt.set1 {W : World} {b : Nat} {l : List UInt8} {d : UInt8} (h : OutAt W b l) (hl : l.length < 20) : OutAt (W.setCell ⟨b, l.length, none⟩ (.int .u8 d.toNat)) b (l ++ [d]) :=
  ⟨fun j hj => by
    by_cases e : j = l.length
    · subst e; rw [cell_set_same (h.1 _ hl)]; simp
    · rw [cell_off (h.1 j hj) e]
      congr 4
      simp only [List.getD_eq_getElem?_getD]
      by_cases h2 : j < l.length
      · rw [List.getElem?_append_left h2]
      · rw [List.getElem?_eq_none (by omega), List.getElem?_eq_none (by rw [List.length_append, List.length_singleton]; omega)], fun j => frozen_set.trans (h.2 j)⟩
theorem get_at (x : W5) : ∀ j, x.get j = x.at j
  | 0 => rfl
  | 1 => rfl
  | 2 => rfl
  | 3 => rfl
  | n + 4 => rfl
set_option maxHeartbeats 8000000 in
set_option maxRecDepth 100000 in
theorem rsum_any (s : List UInt8) (hs : s.length ≤ 10000) (w : World) : Calls Tryz.prog 33 #[.string ⟨s.toArray⟩] w fun e w' => e = .returned (bytesV (shaL s)) ∧ Gr w w' := by
  have hcv : ∀ W : World, (convert 9 47 (.string ⟨s.toArray⟩)).run Tryz.prog W = .ok (.slice (some ⟨W.heap.size, 0, none⟩) (ByteArray.size ⟨s.toArray⟩) (grownCap W (ByteArray.size ⟨s.toArray⟩) 0 5)) (Lib.bytesWorld W 5 ⟨s.toArray⟩) := fun W =>
    Lib.run_convert_string_bytes W _ _ 5 _ Tryz.underlying9 Tryz.underlying47 Tryz.underlying5
  go_enter Tryz.func33, Tryz.ntmps33
  go_upto_region 2 with (fail)
  have o1 : OutAt (w.alloc (.cells #[.int .u8 0, .int .u8 0, .int .u8 0, .int .u8 0, .int .u8 0, .int .u8 0, .int .u8 0, .int .u8 0, .int .u8 0, .int .u8 0, .int .u8 0, .int .u8 0, .int .u8 0, .int .u8 0, .int .u8 0, .int .u8 0, .int .u8 0, .int .u8 0, .int .u8 0, .int .u8 0] 45)) w.heap.size [] := (show OutAt (w.alloc (.cells (Array.replicate 20 (.int .u8 0)) 45)) w.heap.size [] from ⟨fun j hj => (by
      simp only [World.cell?, World.alloc_heap_new]
      rw [Array.getElem?_replicate, if_pos hj]; rfl), fun j => World.frozen?_alloc_at _ _ _ _ rfl⟩)
  have g1 : Gr w (w.alloc (.cells #[.int .u8 0, .int .u8 0, .int .u8 0, .int .u8 0, .int .u8 0, .int .u8 0, .int .u8 0, .int .u8 0, .int .u8 0, .int .u8 0, .int .u8 0, .int .u8 0, .int .u8 0, .int .u8 0, .int .u8 0, .int .u8 0, .int .u8 0, .int .u8 0, .int .u8 0, .int .u8 0] 45)) := Gr.alloc _ _
  have hz1 : (w.alloc (.cells #[.int .u8 0, .int .u8 0, .int .u8 0, .int .u8 0, .int .u8 0, .int .u8 0, .int .u8 0, .int .u8 0, .int .u8 0, .int .u8 0, .int .u8 0, .int .u8 0, .int .u8 0, .int .u8 0, .int .u8 0, .int .u8 0, .int .u8 0, .int .u8 0, .int .u8 0, .int .u8 0] 45)).heap.size = w.heap.size + 1 := by simp
  generalize (w.alloc (.cells #[.int .u8 0, .int .u8 0, .int .u8 0, .int .u8 0, .int .u8 0, .int .u8 0, .int .u8 0, .int .u8 0, .int .u8 0, .int .u8 0, .int .u8 0, .int .u8 0, .int .u8 0, .int .u8 0, .int .u8 0, .int .u8 0, .int .u8 0, .int .u8 0, .int .u8 0, .int .u8 0] 45)) = W1 at o1 g1 hz1 ⊢
  have k2 := OwnV.conv (B := w.heap.size + 1) W1 s (by omega) (Nat.le_of_eq hz1.symm)
  have g2 : Below (w.heap.size + 1) W1 (Lib.bytesWorld W1 5 ⟨s.toArray⟩) := hz1 ▸ Lib.bytesWorld_below W1 5 ⟨s.toArray⟩
  have hz2 : w.heap.size + 1 ≤ (Lib.bytesWorld W1 5 ⟨s.toArray⟩).heap.size := by rw [Lib.bytesWorld_size]; omega
  rw [hz1] at k2
  generalize grownCap W1 s.length 0 5 = cap0 at k2 ⊢
  generalize Lib.bytesWorld W1 5 ⟨s.toArray⟩ = W2 at k2 g2 hz2 ⊢
  have o1' := Lib.hid o1
  have g1' := Lib.hid g1
  have g2' := Lib.hid g2
  have k2' := Lib.hid k2
  have hz1' := Lib.hid hz1
  clear o1 g1 g2 k2 hz1 hcv
  go_wp2_with (at_builtin; (refine wp_app1 (by rfl) _ _ 47 5 _ (.int .u8 0) (.int .u8 128) 1 Tryz.underlying47 infoU8 rfl rfl (w.heap.size + 1) _ (bcells s) rfl k2'.out rfl rfl (s.length + 1) (by rw [bcells_len]) (by omega) (by decide) hz2 ?_); intro p cap w1 hown1 hb1)
  have g3 : Below (w.heap.size + 1) W1 w1 := Below.trans g2'.out hb1
  have e1 : bcells s ++ [.int .u8 128] = bcells (s ++ [128] ++ List.replicate 0 0) := by simp [bcells]
  rw [e1] at hown1
  have hz3 := g3.size
  rw [hz1'.out] at hz3
  clear hz2 hb1 e1 k2'
  go_loopw [3] (fun bv W => ∃ z : Nat, z ≤ zerosN s.length ∧ ∃ p cap, bv = .slice p (s.length + 1 + z) cap ∧ OwnV 5 (w.heap.size + 1) W bv (bcells (s ++ [128] ++ List.replicate z 0)) ∧ Below (w.heap.size + 1) W1 W) (fun bv _ => s.length + 1 + zerosN s.length - sliceLen bv)
  case atStart => exact ⟨0, Nat.zero_le _, p, cap, rfl, hown1, g3⟩
  case round =>
    obtain ⟨z, hz, p2, cap2, rfl, ho, hg⟩ := hrel
    have ho' := Lib.hid ho
    have hg' := Lib.hid hg
    have hsz := Lib.hid (show w.heap.size + 1 ≤ wr.heap.size by have := hg.size; rw [hz1'.out] at this; exact this)
    clear ho hg hown1 g3 hz3
    have hzN : zerosN s.length ≤ 63 := by unfold zerosN; omega
    obtain ⟨N, hN⟩ : ∃ N, s.length + 1 + z = N := ⟨_, rfl⟩
    have hNI : ((s.length : Int) + 1 + z) = N := by omega
    obtain ⟨R, hR⟩ : ∃ R, (N : Int).tmod 64 = R := ⟨_, rfl⟩
    have hRN : R = ((N % 64 : Nat) : Int) := by rw [← hR]; rfl
    have hnz : (R = 56) ↔ z = zerosN s.length := by
      rw [hRN]
      unfold zerosN at hz ⊢
      omega
    by_cases hq : z = zerosN s.length
    · have hb : (R != 56) = false := by rw [hnz.2 hq]; rfl
      rw [hN]
      subst hq
      rw [hN] at ho'
      obtain ⟨L0, hL0⟩ : ∃ L0, s ++ [128] ++ List.replicate (zerosN s.length) 0 = L0 := ⟨_, rfl⟩
      rw [hL0] at ho'
      have hLl : L0.length = N := by rw [← hL0]; simp; omega
      have hpad := Lib.hid (show L0 ++ beB (s.length * 8) 8 = shaPad s by rw [← hL0]; rfl)
      have hw64 : IntKind.u64.wrap (s.length : Int) = s.length := by rw [Go.IntKind.wrap_u64]; omega
      obtain ⟨X, hX⟩ : ∃ X, s.length * 8 = X := ⟨_, rfl⟩
      have hXI : (s.length : Int) * 8 = X := by omega
      have hw65 : IntKind.u64.wrap (X : Int) = X := by rw [Go.IntKind.wrap_u64]; omega
      rw [hX] at hpad
      have hXb : X ≤ 80000 := by omega
      obtain ⟨wx, rfl⟩ : ∃ x, x = wr := ⟨wr, rfl⟩
      have hLb : N ≤ 11000 := by omega
      have hmod := Lib.hid (show (N + 8) % 64 = 0 by
        have := pad_len s
        rw [← hpad.out, List.length_append, beB_len, hLl] at this
        exact this)
      clear hRN hnz hL0 hX hz hzN hN
      go_upto_region 6 with (fail)
      clear hw64 hw65 hXI hb hR hNI
      go_wp2
      go_loopw [3, 5] (fun bv i W => ∃ (j : Nat) (acc : List UInt8), j ≤ 8 ∧ acc.length + j = N + 8 ∧ acc ++ beB X j = shaPad s ∧ i = .int .i64 ((j : Int) - 1) ∧ (∃ p cap, bv = .slice p acc.length cap) ∧ OwnV 5 (w.heap.size + 1) W bv (bcells acc) ∧ Below (w.heap.size + 1) W1 W) (fun _ i _ => (intOf i + 1).toNat)
      case atStart => exact ⟨8, L0, Nat.le_refl _, by omega, hpad.out, rfl, ⟨_, _, by rw [hLl]⟩, ho'.out, hg'.out⟩
      case round =>
        obtain ⟨j, acc, hj, hal, hacc, rfl, ⟨p5, cap5, rfl⟩, ho5, hg5⟩ := hrel
        have ho5' := Lib.hid ho5
        have hg5' := Lib.hid hg5
        have hacc' := Lib.hid hacc
        have hsz5 := Lib.hid (show w.heap.size + 1 ≤ wr.heap.size by have := hg5.size; rw [hz1'.out] at this; exact this)
        clear ho5 hg5 hacc
        cases j with
        | zero =>
          have hbb : acc = shaPad s := by have := hacc'.out; simpa [beB] using this
          obtain ⟨M, hM⟩ : ∃ M, (N + 8) / 64 = M := ⟨_, rfl⟩
          have hPl : acc.length = 64 * M := by have := hmod.out; omega
          have hres := Lib.hid (show shaL s = outL (hN acc M) by rw [sha_hN, ← hbb, hPl, Nat.mul_div_cancel_left _ (by decide)])
          have hM0 : 0 < M := by omega
          obtain ⟨g1, capx, hve, hg1b, hg1l, hby, _⟩ := ho5'.out.row (by rw [bcells_len]; omega)
          injection hve with hp5 hx1 hx2
          subst hp5
          subst hx2
          clear hx1
          have hby' := Lib.hid hby
          obtain ⟨N8, hN8⟩ : ∃ n, acc.length = n := ⟨_, rfl⟩
          rw [hN8]
          rw [hN8] at hPl
          have hM2 : M ≤ 200 := by omega
          have hN8' := Lib.hid hN8
          have hPl' := Lib.hid hPl
          clear hPl hbb hby hal hacc' hM hj hLl hpad ho' hg' hsz hN8 hmod
          go_wp2
          have q0 : St5 (wr.alloc (.cells #[.int .u32 1732584193, .int .u32 4023233417, .int .u32 2562383102, .int .u32 271733878, .int .u32 3285377520] 77)) wr.heap.size first5 := St5.fresh wr first5 _
          have q1 : Gr wr (wr.alloc (.cells #[.int .u32 1732584193, .int .u32 4023233417, .int .u32 2562383102, .int .u32 271733878, .int .u32 3285377520] 77)) := Gr.alloc _ _
          generalize (wr.alloc (.cells #[.int .u32 1732584193, .int .u32 4023233417, .int .u32 2562383102, .int .u32 271733878, .int .u32 3285377520] 77)) = Wh at q0 q1 ⊢
          obtain ⟨g2, hg2⟩ : ∃ g, wr.heap.size = g := ⟨_, rfl⟩
          rw [hg2] at q0 ⊢
          have q0' := Lib.hid q0
          have hg12 := Lib.hid (show g1 < g2 by rw [← hg2]; exact hg1l)
          have hgW5 := Lib.hid (hg5'.out.trans (Below.mono q1 hsz5.out))
          have hg2b' := Lib.hid (show w.heap.size + 1 ≤ Wh.heap.size from Nat.le_trans hsz5.out q1.size)
          have hg2b := Lib.hid (show w.heap.size + 1 ≤ g2 from hg2 ▸ hsz5.out)
          have hby5 := Lib.hid (fun i u h => q1.cell (hby'.out i u h))
          clear q0 hg2 hg1l hby' ho5' hg5' hsz5 q1
          try rw [show ((0 : Nat) : Int) - 1 = -1 from rfl]
          go_loopw [7] (fun at_ W => ∃ m : Nat, m ≤ M ∧ at_ = .int .i64 ((64 * m : Nat) : Int) ∧ St5 W g2 (hN acc m) ∧ Ch (· = g2) Wh W) (fun at_ _ => 64 * M - (intOf at_).toNat)
          case atStart => exact ⟨0, Nat.zero_le _, rfl, q0'.out, Ch.refl _ _⟩
          case round =>
            obtain ⟨m, hm, rfl, hst, hch⟩ := hrel
            have hst' := Lib.hid hst
            have hch' := Lib.hid hch
            have hbyr := Lib.hid (fun i u h => (hch.cell (p := ⟨g1, i, none⟩) (show g1 < Wh.heap.size from cell_lt (hby5.out i u h)) (show ¬ g1 = g2 by have := hg12.out; omega)).trans (hby5.out i u h))
            have hg2l : g2 < wr.heap.size := cell_lt hst.c0
            clear hst hch
            obtain ⟨wo, rfl⟩ : ∃ x, x = wr := ⟨wr, rfl⟩
            by_cases hlt : m < M
            · obtain ⟨A, hA⟩ : ∃ A, 64 * m = A := ⟨_, rfl⟩
              rw [hA]
              have hAI : (A : Int) < N8 := by have := hPl'.out; omega
              have hA64 : A + 64 ≤ N8 := by have := hPl'.out; omega
              obtain ⟨bl, hbl⟩ : ∃ l, blkN acc m = l := ⟨_, rfl⟩
              have hwd := Lib.hid (fun t (ht : t < 16) => show wS bl t = byteN acc (A + 4 * t) * 16777216 ||| byteN acc (A + 4 * t + 1) * 65536 ||| byteN acc (A + 4 * t + 2) * 256 ||| byteN acc (A + 4 * t + 3) by
                rw [or4 (byte_lt _ _) (byte_lt _ _) (byte_lt _ _), wS_low _ ht, ← hbl, blk_word _ _ _ ht, hA])
              have hbl' := Lib.hid hbl
              have hA' := Lib.hid hA
              obtain ⟨B3, hB3⟩ : ∃ b, wo.heap.size = b := ⟨_, rfl⟩
              have hB3' := Lib.hid hB3
              have hg1B := Lib.hid (show g1 < B3 by have := hg12.out; omega)
              have hg2B := Lib.hid (show g2 < B3 by omega)
              clear hbl hA hB3 hlt
              go_wp2
              go_loopw [8, 9] (fun wv i W => ∃ t : Nat, t ≤ 16 ∧ i = .int .i64 t ∧ (∃ p cap, wv = .slice p t cap) ∧ OwnV 77 B3 W wv (wcells (wRow bl t)) ∧ Gr wo W) (fun _ i _ => 16 - (intOf i).toNat)
              case atStart => exact ⟨0, by omega, rfl, ⟨none, 0, rfl⟩, OwnV.nil _ _ _, Gr.refl _⟩
              case round =>
                obtain ⟨t, ht, rfl, ⟨p4, cap4, rfl⟩, ho4, hg4⟩ := hrel
                have ho4' := Lib.hid ho4
                have hg4' := Lib.hid hg4
                have hsz4 := Lib.hid (show B3 ≤ wr.heap.size from hB3'.out ▸ hg4.size)
                clear ho4
                by_cases h16 : t < 16
                · have h16I : (t : Int) < 16 := by omega
                  obtain ⟨kk, hkk⟩ : ∃ k, A + 4 * t = k := ⟨_, rfl⟩
                  have hz := hwd.out t h16
                  rw [hkk] at hz
                  have hkN : kk + 3 < N8 := by omega
                  have hkb : kk ≤ 20000 := by have := hPl'.out; omega
                  have d0 := hg4.cell (hbyr.out kk _ (bcells_at acc kk (by rw [hN8'.out]; omega)))
                  have d1 := hg4.cell (hbyr.out (kk + 1) _ (bcells_at acc (kk + 1) (by rw [hN8'.out]; omega)))
                  have d2 := hg4.cell (hbyr.out (kk + 2) _ (bcells_at acc (kk + 2) (by rw [hN8'.out]; omega)))
                  have d3 := hg4.cell (hbyr.out (kk + 3) _ (bcells_at acc (kk + 3) (by rw [hN8'.out]; omega)))
                  have l0 := byte_lt acc kk
                  have l1 := byte_lt acc (kk + 1)
                  have l2 := byte_lt acc (kk + 2)
                  have l3 := byte_lt acc (kk + 3)
                  obtain ⟨n0, hn0⟩ : ∃ n, byteN acc kk = n := ⟨_, rfl⟩
                  obtain ⟨n1, hn1⟩ : ∃ n, byteN acc (kk + 1) = n := ⟨_, rfl⟩
                  obtain ⟨n2, hn2⟩ : ∃ n, byteN acc (kk + 2) = n := ⟨_, rfl⟩
                  obtain ⟨n3, hn3⟩ : ∃ n, byteN acc (kk + 3) = n := ⟨_, rfl⟩
                  rw [hn0, hn1, hn2, hn3] at hz
                  rw [hn0] at d0 l0
                  rw [hn1] at d1 l1
                  rw [hn2] at d2 l2
                  rw [hn3] at d3 l3
                  clear hn0 hn1 hn2 hn3
                  obtain ⟨y0, hy0⟩ : ∃ y, n0 * 16777216 = y := ⟨_, rfl⟩
                  obtain ⟨y1, hy1⟩ : ∃ y, n1 * 65536 = y := ⟨_, rfl⟩
                  obtain ⟨y2, hy2⟩ : ∃ y, n2 * 256 = y := ⟨_, rfl⟩
                  rw [hy0, hy1, hy2] at hz
                  have s0 : IntKind.u32.wrap ((n0 : Int) * 16777216) = y0 := by rw [Go.IntKind.wrap_u32']; omega
                  have s1 : IntKind.u32.wrap ((n1 : Int) * 65536) = y1 := by rw [Go.IntKind.wrap_u32']; omega
                  have s2 : IntKind.u32.wrap ((n2 : Int) * 256) = y2 := by rw [Go.IntKind.wrap_u32']; omega
                  have m0 : y0 < 4294967296 := by omega
                  have m1 : y1 < 4294967296 := by omega
                  have m2 : y2 < 4294967296 := by omega
                  have b1 := or32 m0 m1
                  have b1l := lor_lt32 m0 m1
                  obtain ⟨z1, hz1⟩ : ∃ z, y0 ||| y1 = z := ⟨_, rfl⟩
                  rw [hz1] at b1 b1l hz
                  have b2 := or32 b1l m2
                  have b2l := lor_lt32 b1l m2
                  obtain ⟨z2, hz2⟩ : ∃ z, z1 ||| y2 = z := ⟨_, rfl⟩
                  rw [hz2] at b2 b2l hz
                  have b3 := or32 b2l (show n3 < 4294967296 by omega)
                  obtain ⟨z3, hz3⟩ : ∃ z, z2 ||| n3 = z := ⟨_, rfl⟩
                  rw [hz3] at b3 hz
                  have v0 : IntKind.u32.wrap (n0 : Int) = n0 := by rw [Go.IntKind.wrap_u32']; omega
                  have v1 : IntKind.u32.wrap (n1 : Int) = n1 := by rw [Go.IntKind.wrap_u32']; omega
                  have v2 : IntKind.u32.wrap (n2 : Int) = n2 := by rw [Go.IntKind.wrap_u32']; omega
                  have v3 : IntKind.u32.wrap (n3 : Int) = n3 := by rw [Go.IntKind.wrap_u32']; omega
                  have k1 : IntKind.i64.wrap (4 * (t : Int)) = 4 * (t : Int) := IntWalk.i64_in _ (by omega)
                  have k2 : IntKind.i64.wrap ((A : Int) + 4 * (t : Int)) = kk := by rw [IntWalk.i64_in _ (by omega)]; omega
                  have k3 : IntKind.i64.wrap ((kk : Int) + 1) = (kk : Int) + 1 := IntWalk.i64_in _ (by omega)
                  have k4 : IntKind.i64.wrap ((kk : Int) + 2) = (kk : Int) + 2 := IntWalk.i64_in _ (by omega)
                  have k5 : IntKind.i64.wrap ((kk : Int) + 3) = (kk : Int) + 3 := IntWalk.i64_in _ (by omega)
                  have o1 : (kk : Int) < N8 := by omega
                  have o2 : (kk : Int) + 1 < N8 := by omega
                  have o3 : (kk : Int) + 2 < N8 := by omega
                  have o4 : (kk : Int) + 3 < N8 := by omega
                  have o5 : (0 : Int) ≤ (kk : Int) + 1 := by omega
                  have o6 : (0 : Int) ≤ (kk : Int) + 2 := by omega
                  have o7 : (0 : Int) ≤ (kk : Int) + 3 := by omega
                  have t1 : ((kk : Int) + 1).toNat = kk + 1 := by omega
                  have t2 : ((kk : Int) + 2).toNat = kk + 2 := by omega
                  have t3 : ((kk : Int) + 3).toNat = kk + 3 := by omega
                  have hzz := Lib.hid hz
                  clear hz hz1 hz2 hz3 hy0 hy1 hy2 m0 m1 m2 b1l b2l l0 l1 l2 l3 hkk hkN hkb hg4
                  have hwl : (wcells (wRow bl t)).length + 1 = t + 1 := by rw [wcells_len, wRow_len]
                  have ht6 : t + 1 ≤ 1000000 := by omega
                  have hgl : g1 < wr.heap.size := cell_lt d0
                  go_upto_region 19 with (fail)
                  go_region_held3 (fun w' => w'.cell? ⟨g1, kk, none⟩ = some (.int .u8 n0) ∧ w'.cell? ⟨g1, kk + 1, none⟩ = some (.int .u8 n1) ∧ w'.cell? ⟨g1, kk + 2, none⟩ = some (.int .u8 n2) ∧ w'.cell? ⟨g1, kk + 3, none⟩ = some (.int .u8 n3)) (go_keep) (first | (refine step_app1 (by rfl) (.tmp 67) (.tmp 97) 78 77 (.int .u32 0) (.int .u32 z3) 4 Tryz.underlying78 infoU32 rfl (by rfl) B3 (.slice p4 t cap4) (wcells (wRow bl t)) (by rfl) (OwnV.drew (OwnV.alloc ho4'.out _)) wr.heap.size (by rfl) (cell_one _ _ _) rfl (t + 1) hwl ht6 (by decide) (Nat.le_trans hsz4.out (by simp)) ?_; intro p6 cap6 w6 hown6 hb5 _; have hb6 := Below.trans (Below.drew ((Below.refl _ wr).alloc hsz4.out _)) hb5; have r0 := (Below.cell hb6 (p := ⟨g1, kk, none⟩) hg1B.out).trans d0; have r1 := (Below.cell hb6 (p := ⟨g1, kk + 1, none⟩) hg1B.out).trans d1; have r2 := (Below.cell hb6 (p := ⟨g1, kk + 2, none⟩) hg1B.out).trans d2; have r3 := (Below.cell hb6 (p := ⟨g1, kk + 3, none⟩) hg1B.out).trans d3))
                  all_goals clear b1 b2 b3 s0 s1 s2 v0 v1 v2 v3 k1 k2 k3 k4 k5 o1 o2 o3 o4 o5 o6 o7 t1 t2 t3 d0 d1 d2 d3 r0 r1 r2 r3
                  all_goals have hown7 := Lib.hid (show OwnV 77 B3 w6 (.slice p6 (t + 1) cap6) (wcells (wRow bl (t + 1))) from wRow_cells bl t hzz.out ▸ hown6)
                  all_goals have hg7 := Lib.hid (show Gr wo w6 from Below.trans hg4'.out (hB3'.out ▸ hb6))
                  all_goals clear hown6 hb6 hb5
                  all_goals go_wp2
                  all_goals go_roundw
                  case rel => exact ⟨t + 1, by omega, by go_num, ⟨p6, cap6, rfl⟩, hown7.out, hg7.out⟩
                  case measure => simp [intOf]; omega
                · obtain rfl : t = 16 := by omega
                  clear hg4
                  obtain ⟨wp, rfl⟩ : ∃ x, x = wr := ⟨wr, rfl⟩
                  go_wp2
                  try rw [show ((16 : Nat) : Int) = 16 from rfl]
                  go_loopw [8, 11] (fun wv i W => ∃ t : Nat, 16 ≤ t ∧ t ≤ 80 ∧ i = .int .i64 t ∧ (∃ p cap, wv = .slice p t cap) ∧ OwnV 77 B3 W wv (wcells (wRow bl t)) ∧ Gr wo W) (fun _ i _ => 80 - (intOf i).toNat)
                  case atStart => exact ⟨16, by omega, by omega, rfl, ⟨_, _, rfl⟩, ho4'.out, hg4'.out⟩
                  case round =>
                    obtain ⟨t, ht0, ht1, rfl, ⟨p5, cap5, rfl⟩, ho5, hg5⟩ := hrel
                    have ho5' := Lib.hid ho5
                    have hg5' := Lib.hid hg5
                    have hsz5 := Lib.hid (show B3 ≤ wr.heap.size from hB3'.out ▸ hg5.size)
                    obtain ⟨g3, capz, hve, hg3b, hg3l, hcw, _⟩ := ho5.row (by rw [wcells_len, wRow_len]; omega)
                    injection hve with hp5 hx1 hx2
                    subst hp5
                    subst hx2
                    clear hx1
                    clear ho5
                    by_cases h80 : t < 80
                    · have h80I : (t : Int) < 80 := by omega
                      have d1 := hcw (t - 3) _ (wRow_at bl t (t - 3) (by omega))
                      have d2 := hcw (t - 8) _ (wRow_at bl t (t - 8) (by omega))
                      have d3 := hcw (t - 14) _ (wRow_at bl t (t - 14) (by omega))
                      have d4 := hcw (t - 16) _ (wRow_at bl t (t - 16) (by omega))
                      have hwr := wS_high bl (show ¬ t < 16 by omega)
                      have k1 := wS_lt bl (t - 3)
                      have k2 := wS_lt bl (t - 8)
                      have k3 := wS_lt bl (t - 14)
                      have k4 := wS_lt bl (t - 16)
                      obtain ⟨x1, hx1⟩ : ∃ x, wS bl (t - 3) = x := ⟨_, rfl⟩
                      obtain ⟨x2, hx2⟩ : ∃ x, wS bl (t - 8) = x := ⟨_, rfl⟩
                      obtain ⟨x3, hx3⟩ : ∃ x, wS bl (t - 14) = x := ⟨_, rfl⟩
                      obtain ⟨x4, hx4⟩ : ∃ x, wS bl (t - 16) = x := ⟨_, rfl⟩
                      rw [hx1] at d1 k1
                      rw [hx2] at d2 k2
                      rw [hx3] at d3 k3
                      rw [hx4] at d4 k4
                      have a1 := Lib.hid (hx1 ▸ wRow_at bl t (t - 3) (by omega))
                      have a2 := Lib.hid (hx2 ▸ wRow_at bl t (t - 8) (by omega))
                      have a3 := Lib.hid (hx3 ▸ wRow_at bl t (t - 14) (by omega))
                      have a4 := Lib.hid (hx4 ▸ wRow_at bl t (t - 16) (by omega))
                      rw [hx1, hx2, hx3, hx4] at hwr
                      have y1 := xor32 k1 k2
                      have y2 := xor32 (xor_lt32 k1 k2) k3
                      have y3 := xor32 (xor_lt32 (xor_lt32 k1 k2) k3) k4
                      have yl := xor_lt32 (xor_lt32 (xor_lt32 k1 k2) k3) k4
                      obtain ⟨z1, hz1⟩ : ∃ z, x1 ^^^ x2 = z := ⟨_, rfl⟩
                      rw [hz1] at y1 y2 y3 yl hwr
                      obtain ⟨z2, hz2⟩ : ∃ z, z1 ^^^ x3 = z := ⟨_, rfl⟩
                      rw [hz2] at y2 y3 yl hwr
                      obtain ⟨z3, hz3⟩ : ∃ z, z2 ^^^ x4 = z := ⟨_, rfl⟩
                      rw [hz3] at y3 yl hwr
                      obtain ⟨Wt, hW⟩ : ∃ W, wS bl t = W := ⟨_, rfl⟩
                      rw [hW] at hwr
                      have hwr' := Lib.hid hwr.symm
                      have yl' := Lib.hid yl
                      have hW' := Lib.hid hW
                      have e1 : IntKind.i64.wrap ((t : Int) - 3) = (t : Int) - 3 := IntWalk.i64_in _ (by omega)
                      have e2 : IntKind.i64.wrap ((t : Int) - 8) = (t : Int) - 8 := IntWalk.i64_in _ (by omega)
                      have e3 : IntKind.i64.wrap ((t : Int) - 14) = (t : Int) - 14 := IntWalk.i64_in _ (by omega)
                      have e4 : IntKind.i64.wrap ((t : Int) - 16) = (t : Int) - 16 := IntWalk.i64_in _ (by omega)
                      have p1 : 3 ≤ (t : Int) := by omega
                      have p2 : 8 ≤ (t : Int) := by omega
                      have p3 : 14 ≤ (t : Int) := by omega
                      have p4 : 16 ≤ (t : Int) := by omega
                      have n1 : ((t : Int) - 3).toNat = t - 3 := by omega
                      have n2 : ((t : Int) - 8).toNat = t - 8 := by omega
                      have n3 : ((t : Int) - 14).toNat = t - 14 := by omega
                      have n4 : ((t : Int) - 16).toNat = t - 16 := by omega
                      have o1 : (t : Int) - 3 < t := by omega
                      have o2 : (t : Int) - 8 < t := by omega
                      have o3 : (t : Int) - 14 < t := by omega
                      have o4 : (t : Int) - 16 < t := by omega
                      clear hx1 hx2 hx3 hx4 k1 k2 k3 k4 hz1 hz2 hz3 hwr hW yl hcw hg5
                      have hwl : (wcells (wRow bl t)).length + 1 = t + 1 := by rw [wcells_len, wRow_len]
                      have ht6 : t + 1 ≤ 1000000 := by omega
                      go_upto_region 23 with (fail)
                      go_region_held3 (fun w' => w'.cell? ⟨g3, t - 3, none⟩ = some (.int .u32 x1) ∧ w'.cell? ⟨g3, t - 8, none⟩ = some (.int .u32 x2) ∧ w'.cell? ⟨g3, t - 14, none⟩ = some (.int .u32 x3) ∧ w'.cell? ⟨g3, t - 16, none⟩ = some (.int .u32 x4)) (go_keep) (first
                        | (refine step_app1 (by rfl) (.tmp 103) (.tmp 128) 78 77 (.int .u32 0) (.int .u32 Wt) 4 Tryz.underlying78 infoU32 rfl (by rfl) B3 (.slice (some ⟨g3, 0, none⟩) t cap5) (wcells (wRow bl t)) (by rfl) (OwnV.drew (OwnV.alloc ho5'.out _)) wr.heap.size (by rfl) (cell_one _ _ _) rfl (t + 1) hwl ht6 (by decide) (Nat.le_trans hsz5.out (by simp)) ?_; intro p6 cap6 w6 hown6 hb5 hc6; have hb6 := Below.trans (Below.drew ((Below.refl _ wr).alloc hsz5.out _)) hb5; have r1 := hc6 g3 rfl _ _ a1.out; have r2 := hc6 g3 rfl _ _ a2.out; have r3 := hc6 g3 rfl _ _ a3.out; have r4 := hc6 g3 rfl _ _ a4.out)
                        | (go_simp; go_at_call 47; refine (rrot1_any z3 yl'.out _).mono ?_; rintro e wz ⟨rfl, rfl⟩; rw [hwr'.out]))
                      all_goals clear e1 e2 e3 e4 p1 p2 p3 p4 n1 n2 n3 n4 o1 o2 o3 o4 y1 y2 y3 r1 r2 r3 r4 hc6
                      all_goals have hown7 := Lib.hid (show OwnV 77 B3 w6 (.slice p6 (t + 1) cap6) (wcells (wRow bl (t + 1))) from wRow_cells bl t hW'.out ▸ hown6)
                      all_goals have hg7 := Lib.hid (show Gr wo w6 from Below.trans hg5'.out (hB3'.out ▸ hb6))
                      all_goals clear hown6 hb6 hb5
                      all_goals go_wp2
                      all_goals go_roundw
                      case rel => exact ⟨t + 1, by omega, by omega, by go_num, ⟨p6, cap6, rfl⟩, hown7.out, hg7.out⟩
                      case measure => simp [intOf]; omega
                    · obtain rfl : t = 80 := by omega
                      have hcw' := Lib.hid hcw
                      have hst5 := Lib.hid (hst'.out.gr hg5)
                      clear hcw hg5
                      obtain ⟨wq, rfl⟩ : ∃ x, x = wr := ⟨wr, rfl⟩
                      have hok := hN_ok acc m
                      obtain ⟨h0, hh0⟩ : ∃ h, hN acc m = h := ⟨_, rfl⟩
                      rw [hh0] at hok hst5
                      have hh0' := Lib.hid hh0
                      have hok' := Lib.hid hok
                      clear hh0 hok
                      go_upto_region 24 with (fail)
                      have e0 : ∀ y : Later (Gr wq), y.w.cell? ⟨g2, 0, none⟩ = some (.int .u32 h0.a) := fun y => y.ok.cell hst5.out.c0
                      have e1 : ∀ y : Later (Gr wq), y.w.cell? ⟨g2, 1, none⟩ = some (.int .u32 h0.b) := fun y => y.ok.cell hst5.out.c1
                      have e2 : ∀ y : Later (Gr wq), y.w.cell? ⟨g2, 2, none⟩ = some (.int .u32 h0.c) := fun y => y.ok.cell hst5.out.c2
                      have e3 : ∀ y : Later (Gr wq), y.w.cell? ⟨g2, 3, none⟩ = some (.int .u32 h0.d) := fun y => y.ok.cell hst5.out.c3
                      have e4 : ∀ y : Later (Gr wq), y.w.cell? ⟨g2, 4, none⟩ = some (.int .u32 h0.e) := fun y => y.ok.cell hst5.out.c4
                      haveI : Nonempty (Later (Gr wq)) := ⟨⟨wq, Gr.refl wq⟩⟩
                      refine wp_region_later (C := Gr wq) (by kernel_rfl) (by kernel_rfl) (Gr.drew' _) ?_
                      repeat (go_big_quiet_step (fail))
                      refine wpQuiet_nil ?_
                      intro w9 hg9
                      have hg9' := Lib.hid hg9
                      clear hg9 e0 e1 e2 e3 e4
                      go_wp2
                      try rw [show ((80 : Nat) : Int) = 80 from rfl]
                      go_loopw [12, 13, 14, 15, 16, 17] (fun va vb vc vd ve i W => ∃ (t : Nat) (x : W5), t ≤ 80 ∧ roundsW bl h0 t = x ∧ va = .int .u32 x.a ∧ vb = .int .u32 x.b ∧ vc = .int .u32 x.c ∧ vd = .int .u32 x.d ∧ ve = .int .u32 x.e ∧ i = .int .i64 t ∧ Gr wq W) (fun _ _ _ _ _ i _ => 80 - (intOf i).toNat)
                      case atStart => exact ⟨0, h0, by omega, rfl, rfl, rfl, rfl, rfl, rfl, rfl, hg9'.out⟩
                      case round =>
                        obtain ⟨t, r, ht, hr, rfl, rfl, rfl, rfl, rfl, rfl, hg6⟩ := hrel
                        have hg6' := Lib.hid hg6
                        have hcell := Lib.hid (fun i u h => hg6.cell (hcw'.out i u h))
                        clear hg6
                        by_cases h80 : t < 80
                        · have h80I : (t : Int) < 80 := by omega
                          have hok2 := rounds_ok bl hok'.out t
                          rw [hr] at hok2
                          obtain ⟨Wt, hW⟩ : ∃ W, wS bl t = W := ⟨_, rfl⟩
                          have d0 := hcell.out t _ (wRow_at bl 80 t h80)
                          rw [hW] at d0
                          have hnext : roundsW bl h0 (t + 1) = roundW t Wt r := by rw [roundsW, hr, hW]
                          obtain ⟨ra, rb, rc, rd, re⟩ := r
                          obtain ⟨ok1, ok2, ok3, ok4, ok5⟩ := hok2
                          dsimp only at ok1 ok2 ok3 ok4 ok5
                          obtain ⟨F, hF⟩ : ∃ F, mixF t rb rc rd = F := ⟨_, rfl⟩
                          obtain ⟨K, hKd⟩ : ∃ K, mixK t = K := ⟨_, rfl⟩
                          obtain ⟨RA, hRA⟩ : ∃ A, rotW 5 ra = A := ⟨_, rfl⟩
                          obtain ⟨RB, hRB⟩ : ∃ B, rotW 30 rb = B := ⟨_, rfl⟩
                          obtain ⟨s1, hs1⟩ : ∃ q, addW RA F = q := ⟨_, rfl⟩
                          obtain ⟨s2, hs2⟩ : ∃ q, addW s1 re = q := ⟨_, rfl⟩
                          obtain ⟨s3, hs3⟩ : ∃ q, addW s2 K = q := ⟨_, rfl⟩
                          obtain ⟨s4, hs4⟩ : ∃ q, addW s3 Wt = q := ⟨_, rfl⟩
                          have hnext' := Lib.hid (show roundsW bl h0 (t + 1) = ⟨s4, ra, RB, rc, rd⟩ by rw [hnext]; unfold roundW; rw [hRA, hF, hs1, hs2, hKd, hs3, hs4, hRB])
                          have u1 : IntKind.u32.wrap ((RA : Int) + F) = s1 := by rw [addV, hs1]
                          have u2 : IntKind.u32.wrap ((s1 : Int) + re) = s2 := by rw [addV, hs2]
                          have u4 : IntKind.u32.wrap ((s3 : Int) + Wt) = s4 := by rw [addV, hs4]
                          have hRA' := Lib.hid hRA
                          have hRB' := Lib.hid hRB
                          have ok1' := Lib.hid ok1
                          have ok2' := Lib.hid ok2
                          clear hW hr hnext hRA hRB hs1 hs2 hs4
                          dsimp only
                          by_cases h20 : t < 20
                          · have x1 : bits .xor .u32 (rb : Int) (rc : Int) = ((rb ^^^ rc : Nat) : Int) := xor32 ok2 ok3
                            have x2 : bits .xor .u32 ((rb ^^^ rc : Nat) : Int) (rd : Int) = ((rb ^^^ rc ^^^ rd : Nat) : Int) := xor32 (xor_lt32 ok2 ok3) ok4
                            have x3 : bits .and .u32 (rb : Int) (rc : Int) = ((rb &&& rc : Nat) : Int) := and32 ok2 ok3
                            have x4 : bits .xor .u32 IntKind.u32.max (rb : Int) = ((4294967295 ^^^ rb : Nat) : Int) := xor32 (a := 4294967295) (by decide) ok2
                            have hsg : (if IntKind.u32.signed = true then (-1 : Int) else IntKind.u32.max) = IntKind.u32.max := rfl
                            have x5 : bits .and .u32 ((4294967295 ^^^ rb : Nat) : Int) (rd : Int) = (((4294967295 ^^^ rb) &&& rd : Nat) : Int) := and32 (xor_lt32 (by decide) ok2) ok4
                            have x6 : bits .xor .u32 ((rb &&& rc : Nat) : Int) (((4294967295 ^^^ rb) &&& rd : Nat) : Int) = (F : Int) := by rw [xor32 (and_lt32 ok2) (and_lt32 (xor_lt32 (by decide) ok2)), ← hF]; unfold mixF; rw [if_pos h20]
                            have hK : K = 1518500249 := by rw [← hKd]; unfold mixK; rw [if_pos h20]
                            have h1 : (t : Int) < 20 := by omega
                            clear hF hKd h20 ok1 ok2 ok3 ok4 ok5
                            have u3 : IntKind.u32.wrap ((s2 : Int) + 1518500249) = s3 := by rw [← hs3, hK]; exact addV s2 1518500249
                            clear hs3 hK
                            go_upto_region 35 with (fail)
                            have td : ∀ y : Later (Gr wr), y.w.cell? ⟨g3, t, none⟩ = some (.int .u32 Wt) := fun y => y.ok.cell d0
                            haveI : Nonempty (Later (Gr wr)) := ⟨⟨wr, Gr.refl wr⟩⟩
                            refine wp_region_later_tail (C := Gr wr) 13 (by kernel_rfl) (by kernel_rfl) (Gr.drew' _) ?_
                            simp only [List.take_succ_cons, List.take_zero, List.drop_succ_cons, List.drop_zero]
                            repeat (go_big_quiet_step (with_reducible exact rrot5_later _ hRA'.out ok1'.out _))
                            refine wpQuiet_nil ?_
                            intro w9 hg9
                            have hg9' := Lib.hid (hg6'.out.trans hg9)
                            clear hg9 td d0 u1 u2 u3 u4
                            go_wp2_with (go_at_call 47; refine (rrot30_any rb ok2'.out _).mono ?_; rintro e w10 ⟨rfl, rfl⟩; rw [hRB'.out])
                            go_roundw
                            case rel => exact ⟨t + 1, ⟨s4, ra, RB, rc, rd⟩, by omega, hnext'.out, rfl, rfl, rfl, rfl, rfl, by go_num, hg9'.out⟩
                            case measure => simp [intOf]; omega
                          · by_cases h40 : t < 40
                            · have x1 : bits .xor .u32 (rb : Int) (rc : Int) = ((rb ^^^ rc : Nat) : Int) := xor32 ok2 ok3
                              have x2 : bits .xor .u32 ((rb ^^^ rc : Nat) : Int) (rd : Int) = (F : Int) := by rw [xor32 (xor_lt32 ok2 ok3) ok4, ← hF]; unfold mixF; rw [if_neg h20, if_pos h40]
                              have hK : K = 1859775393 := by rw [← hKd]; unfold mixK; rw [if_neg h20, if_pos h40]
                              have h1 : ¬ (t : Int) < 20 := by omega
                              have h2 : ¬ (40 : Int) ≤ t := by omega
                              have h3 : ¬ (60 : Int) ≤ t := by omega
                              clear hF hKd h20 h40 ok1 ok2 ok3 ok4 ok5
                              have u3 : IntKind.u32.wrap ((s2 : Int) + 1859775393) = s3 := by rw [← hs3, hK]; exact addV s2 1859775393
                              clear hs3 hK
                              go_upto_region 35 with (fail)
                              have td : ∀ y : Later (Gr wr), y.w.cell? ⟨g3, t, none⟩ = some (.int .u32 Wt) := fun y => y.ok.cell d0
                              haveI : Nonempty (Later (Gr wr)) := ⟨⟨wr, Gr.refl wr⟩⟩
                              refine wp_region_later_tail (C := Gr wr) 13 (by kernel_rfl) (by kernel_rfl) (Gr.drew' _) ?_
                              simp only [List.take_succ_cons, List.take_zero, List.drop_succ_cons, List.drop_zero]
                              repeat (go_big_quiet_step (with_reducible exact rrot5_later _ hRA'.out ok1'.out _))
                              refine wpQuiet_nil ?_
                              intro w9 hg9
                              have hg9' := Lib.hid (hg6'.out.trans hg9)
                              clear hg9 td d0 u1 u2 u3 u4
                              go_wp2_with (go_at_call 47; refine (rrot30_any rb ok2'.out _).mono ?_; rintro e w10 ⟨rfl, rfl⟩; rw [hRB'.out])
                              go_roundw
                              case rel => exact ⟨t + 1, ⟨s4, ra, RB, rc, rd⟩, by omega, hnext'.out, rfl, rfl, rfl, rfl, rfl, by go_num, hg9'.out⟩
                              case measure => simp [intOf]; omega
                            · by_cases h60 : t < 60
                              · have x1 : bits .xor .u32 (rb : Int) (rc : Int) = ((rb ^^^ rc : Nat) : Int) := xor32 ok2 ok3
                                have x2 : bits .xor .u32 ((rb ^^^ rc : Nat) : Int) (rd : Int) = ((rb ^^^ rc ^^^ rd : Nat) : Int) := xor32 (xor_lt32 ok2 ok3) ok4
                                have x3 : bits .and .u32 (rb : Int) (rc : Int) = ((rb &&& rc : Nat) : Int) := and32 ok2 ok3
                                have x4 : bits .and .u32 (rb : Int) (rd : Int) = ((rb &&& rd : Nat) : Int) := and32 ok2 ok4
                                have x5 : bits .and .u32 (rc : Int) (rd : Int) = ((rc &&& rd : Nat) : Int) := and32 ok3 ok4
                                have x6 : bits .xor .u32 ((rb &&& rc : Nat) : Int) ((rb &&& rd : Nat) : Int) = (((rb &&& rc) ^^^ (rb &&& rd) : Nat) : Int) := xor32 (and_lt32 ok2) (and_lt32 ok2)
                                have x7 : bits .xor .u32 (((rb &&& rc) ^^^ (rb &&& rd) : Nat) : Int) ((rc &&& rd : Nat) : Int) = (F : Int) := by rw [xor32 (xor_lt32 (and_lt32 ok2) (and_lt32 ok2)) (and_lt32 ok3), ← hF]; unfold mixF; rw [if_neg h20, if_neg h40, if_pos h60]
                                have hK : K = 2400959708 := by rw [← hKd]; unfold mixK; rw [if_neg h20, if_neg h40, if_pos h60]
                                have h1 : ¬ (t : Int) < 20 := by omega
                                have h2 : (40 : Int) ≤ t := by omega
                                have h3 : (t : Int) < 60 := by omega
                                clear hF hKd h20 h40 h60 ok1 ok2 ok3 ok4 ok5
                                have u3 : IntKind.u32.wrap ((s2 : Int) + 2400959708) = s3 := by rw [← hs3, hK]; exact addV s2 2400959708
                                clear hs3 hK
                                go_upto_region 35 with (fail)
                                have td : ∀ y : Later (Gr wr), y.w.cell? ⟨g3, t, none⟩ = some (.int .u32 Wt) := fun y => y.ok.cell d0
                                haveI : Nonempty (Later (Gr wr)) := ⟨⟨wr, Gr.refl wr⟩⟩
                                refine wp_region_later_tail (C := Gr wr) 13 (by kernel_rfl) (by kernel_rfl) (Gr.drew' _) ?_
                                simp only [List.take_succ_cons, List.take_zero, List.drop_succ_cons, List.drop_zero]
                                repeat (go_big_quiet_step (with_reducible exact rrot5_later _ hRA'.out ok1'.out _))
                                refine wpQuiet_nil ?_
                                intro w9 hg9
                                have hg9' := Lib.hid (hg6'.out.trans hg9)
                                clear hg9 td d0 u1 u2 u3 u4
                                go_wp2_with (go_at_call 47; refine (rrot30_any rb ok2'.out _).mono ?_; rintro e w10 ⟨rfl, rfl⟩; rw [hRB'.out])
                                go_roundw
                                case rel => exact ⟨t + 1, ⟨s4, ra, RB, rc, rd⟩, by omega, hnext'.out, rfl, rfl, rfl, rfl, rfl, by go_num, hg9'.out⟩
                                case measure => simp [intOf]; omega
                              · have x1 : bits .xor .u32 (rb : Int) (rc : Int) = ((rb ^^^ rc : Nat) : Int) := xor32 ok2 ok3
                                have x2 : bits .xor .u32 ((rb ^^^ rc : Nat) : Int) (rd : Int) = (F : Int) := by rw [xor32 (xor_lt32 ok2 ok3) ok4, ← hF]; unfold mixF; rw [if_neg h20, if_neg h40, if_neg h60]
                                have hK : K = 3395469782 := by rw [← hKd]; unfold mixK; rw [if_neg h20, if_neg h40, if_neg h60]
                                have h1 : ¬ (t : Int) < 20 := by omega
                                have h2 : (40 : Int) ≤ t := by omega
                                have h3 : ¬ (t : Int) < 60 := by omega
                                have h4 : (60 : Int) ≤ t := by omega
                                clear hF hKd h20 h40 h60 ok1 ok2 ok3 ok4 ok5
                                have u3 : IntKind.u32.wrap ((s2 : Int) + 3395469782) = s3 := by rw [← hs3, hK]; exact addV s2 3395469782
                                clear hs3 hK
                                go_upto_region 35 with (fail)
                                have td : ∀ y : Later (Gr wr), y.w.cell? ⟨g3, t, none⟩ = some (.int .u32 Wt) := fun y => y.ok.cell d0
                                haveI : Nonempty (Later (Gr wr)) := ⟨⟨wr, Gr.refl wr⟩⟩
                                refine wp_region_later_tail (C := Gr wr) 13 (by kernel_rfl) (by kernel_rfl) (Gr.drew' _) ?_
                                simp only [List.take_succ_cons, List.take_zero, List.drop_succ_cons, List.drop_zero]
                                repeat (go_big_quiet_step (with_reducible exact rrot5_later _ hRA'.out ok1'.out _))
                                refine wpQuiet_nil ?_
                                intro w9 hg9
                                have hg9' := Lib.hid (hg6'.out.trans hg9)
                                clear hg9 td d0 u1 u2 u3 u4
                                go_wp2_with (go_at_call 47; refine (rrot30_any rb ok2'.out _).mono ?_; rintro e w10 ⟨rfl, rfl⟩; rw [hRB'.out])
                                go_roundw
                                case rel => exact ⟨t + 1, ⟨s4, ra, RB, rc, rd⟩, by omega, hnext'.out, rfl, rfl, rfl, rfl, rfl, by go_num, hg9'.out⟩
                                case measure => simp [intOf]; omega
                        · obtain rfl : t = 80 := by omega
                          have hst6 := Lib.hid (hst5.out.gr hg6'.out)
                          obtain ⟨ya, yb, yc, yd, ye⟩ := r
                          dsimp only
                          obtain ⟨p0, hp0⟩ : ∃ p, addW h0.a ya = p := ⟨_, rfl⟩
                          obtain ⟨p1, hp1⟩ : ∃ p, addW h0.b yb = p := ⟨_, rfl⟩
                          obtain ⟨p2, hp2⟩ : ∃ p, addW h0.c yc = p := ⟨_, rfl⟩
                          obtain ⟨p3, hp3⟩ : ∃ p, addW h0.d yd = p := ⟨_, rfl⟩
                          obtain ⟨p4, hp4⟩ : ∃ p, addW h0.e ye = p := ⟨_, rfl⟩
                          have u0 : IntKind.u32.wrap ((h0.a : Int) + ya) = p0 := by rw [addV, hp0]
                          have u1 : IntKind.u32.wrap ((h0.b : Int) + yb) = p1 := by rw [addV, hp1]
                          have u2 : IntKind.u32.wrap ((h0.c : Int) + yc) = p2 := by rw [addV, hp2]
                          have u3 : IntKind.u32.wrap ((h0.d : Int) + yd) = p3 := by rw [addV, hp3]
                          have u4 : IntKind.u32.wrap ((h0.e : Int) + ye) = p4 := by rw [addV, hp4]
                          have hfin := Lib.hid (show hN acc (m + 1) = ⟨p0, p1, p2, p3, p4⟩ by
                            show comp5 (hN acc m) (blkN acc m) = _
                            rw [hh0'.out, hbl'.out]; unfold comp5; rw [hr, ← hp0, ← hp1, ← hp2, ← hp3, ← hp4]; rfl)
                          have e0 := hst6.out.c0
                          have e1 := hst6.out.c1
                          have e2 := hst6.out.c2
                          have e3 := hst6.out.c3
                          have e4 := hst6.out.c4
                          have f0 := hst6.out.fz 0
                          have f1 := hst6.out.fz 1
                          have f2 := hst6.out.fz 2
                          have f3 := hst6.out.fz 3
                          have f4 := hst6.out.fz 4
                          have hgc := Lib.hid (hch'.out.trans ((hg5'.out.trans hg6'.out).to_ch (· = g2)))
                          have hat := Lib.hid (show 64 * (m + 1) = A + 64 by rw [← hA'.out]; omega)
                          have hwA : IntKind.i64.wrap ((A : Int) + 64) = (A : Int) + 64 := IntWalk.i64_in _ (by have := hPl'.out; omega)
                          clear hr hp0 hp1 hp2 hp3 hp4
                          go_wp2
                          go_roundw
                          case rel =>
                            refine ⟨m + 1, by have := hPl'.out; have := hA'.out; omega, by rw [hat.out]; rfl, hfin.out ▸ hst6.out.set ⟨p0, p1, p2, p3, p4⟩, ((((hgc.out.trans (ch_set _ _ _ _)).trans (ch_set _ _ _ _)).trans (ch_set _ _ _ _)).trans (ch_set _ _ _ _)).trans (ch_set _ _ _ _)⟩
                          case measure => simp [intOf, hwA]; have := hPl'.out; omega
            · obtain rfl : m = M := by omega
              have hAI : ¬ ((64 * m : Nat) : Int) < N8 := by have := hPl'.out; omega
              have hgb := Lib.hid (hgW5.out.trans (hch'.out.below hg2b'.out (fun k hk => hk ▸ hg2b.out)))
              have hbox := Lib.hid (o1'.out.below hgb.out (Nat.lt_succ_self _))
              obtain ⟨h9, hh9⟩ : ∃ h, hN acc m = h := ⟨_, rfl⟩
              rw [hh9] at hst' hres
              clear hh9
              obtain ⟨wv, rfl⟩ : ∃ x, x = wo := ⟨wo, rfl⟩
              go_upto_region 47 with (fail)
              have o2 : OutAt (wv.alloc (.cells #[.int .u8 0, .int .u8 0, .int .u8 0, .int .u8 0, .int .u8 0, .int .u8 0, .int .u8 0, .int .u8 0, .int .u8 0, .int .u8 0, .int .u8 0, .int .u8 0, .int .u8 0, .int .u8 0, .int .u8 0, .int .u8 0, .int .u8 0, .int .u8 0, .int .u8 0, .int .u8 0] 45)) wv.heap.size [] := (show OutAt (wv.alloc (.cells (Array.replicate 20 (.int .u8 0)) 45)) wv.heap.size [] from ⟨fun j hj => (by
                simp only [World.cell?, World.alloc_heap_new]
                rw [Array.getElem?_replicate, if_pos hj]; rfl), fun j => World.frozen?_alloc_at _ _ _ _ rfl⟩)
              have g9 : Gr wv (wv.alloc (.cells #[.int .u8 0, .int .u8 0, .int .u8 0, .int .u8 0, .int .u8 0, .int .u8 0, .int .u8 0, .int .u8 0, .int .u8 0, .int .u8 0, .int .u8 0, .int .u8 0, .int .u8 0, .int .u8 0, .int .u8 0, .int .u8 0, .int .u8 0, .int .u8 0, .int .u8 0, .int .u8 0] 45)) := Gr.alloc _ _
              generalize (wv.alloc (.cells #[.int .u8 0, .int .u8 0, .int .u8 0, .int .u8 0, .int .u8 0, .int .u8 0, .int .u8 0, .int .u8 0, .int .u8 0, .int .u8 0, .int .u8 0, .int .u8 0, .int .u8 0, .int .u8 0, .int .u8 0, .int .u8 0, .int .u8 0, .int .u8 0, .int .u8 0, .int .u8 0] 45)) = Wk at o2 g9 ⊢
              have hbox2 := Lib.hid (hbox.out.gr g9)
              have hst9 := Lib.hid (hst'.out.gr g9)
              have hgb2 := Lib.hid (hgb.out.trans (Below.mono g9 (show w.heap.size + 1 ≤ wv.heap.size from cell_lt (hbox.out.1 0 (by decide)))) )
              obtain ⟨bO, hbO⟩ : ∃ b, wv.heap.size = b := ⟨_, rfl⟩
              rw [hbO] at o2 ⊢
              have hg2O := Lib.hid (show g2 < bO by omega)
              have hbxO := Lib.hid (show w.heap.size + 1 ≤ bO by have := hg2b.out; omega)
              have o2' := Lib.hid o2
              clear o2 g9 hbO hAI
              go_wp2
              go_loopw [22] (fun i W => ∃ k : Nat, k ≤ 20 ∧ i = .int .i64 k ∧ OutAt W bO ((outL h9).take k) ∧ Ch (· = bO) Wk W) (fun i _ => 20 - (intOf i).toNat)
              case atStart => exact ⟨0, by omega, rfl, o2'.out, Ch.refl _ _⟩
              case round =>
                obtain ⟨k, hk, rfl, ho, hc⟩ := hrel
                have ho' := Lib.hid ho
                have hc' := Lib.hid hc
                clear hc
                by_cases hk20 : k < 20
                · have hk20I : (k : Int) < 20 := by omega
                  have hq : k / 4 < 5 := by omega
                  have hr4 : k % 4 < 4 := Nat.mod_lt _ (by decide)
                  have e0 := (hc'.out.cell (p := ⟨g2, k / 4, none⟩) (show g2 < Wk.heap.size from cell_lt hst9.out.c0) (show ¬ g2 = bO by have := hg2O.out; omega)).trans (hst9.out.at (k / 4) hq)
                  have hd0 := out_at h9 k hk20
                  rw [get_at] at hd0
                  obtain ⟨x, hx⟩ : ∃ x, h9.at (k / 4) = x := ⟨_, rfl⟩
                  rw [hx] at e0 hd0
                  have q1 : (k : Int).tdiv 4 = ((k / 4 : Nat) : Int) := rfl
                  have q2 : (k : Int).tmod 4 = ((k % 4 : Nat) : Int) := rfl
                  obtain ⟨q, hqq⟩ : ∃ q, k / 4 = q := ⟨_, rfl⟩
                  obtain ⟨r, hrr⟩ : ∃ r, k % 4 = r := ⟨_, rfl⟩
                  rw [hqq] at q1 e0 hq
                  rw [hrr] at q2 hd0 hr4
                  obtain ⟨d, hd⟩ : ∃ d, UInt8.ofNat (x / 256 ^ (3 - r)) = d := ⟨_, rfl⟩
                  rw [hd] at hd0
                  obtain ⟨sh, hsh⟩ : ∃ sh, 24 - 8 * r = sh := ⟨_, rfl⟩
                  have k1 : IntKind.i64.wrap (8 * (r : Int)) = 8 * (r : Int) := IntWalk.i64_in _ (by omega)
                  have k2 : IntKind.i64.wrap (24 - 8 * (r : Int)) = (sh : Int) := by rw [IntWalk.i64_in _ (by omega)]; omega
                  have k3 : IntKind.u64.wrap (sh : Int) = sh := by rw [Go.IntKind.wrap_u64]; omega
                  have k4 : (x : Int) / 2 ^ sh % 256 = (d.toNat : Int) := by
                    rw [← hd, UInt8.toNat_ofNat', show (256 : Nat) = 2 ^ 8 from rfl, ← Nat.pow_mul, show 8 * (3 - r) = sh by omega, Int.natCast_emod, Int.natCast_ediv]
                    simp
                  have hmin : min sh 32 = sh := by omega
                  have hqI : (q : Int) < 5 := by omega
                  have hshI : (0 : Int) ≤ sh := by omega
                  have c9 := ho.1 k hk20
                  have f9 := ho.2 k
                  have hlen := Lib.hid (show ((outL h9).take k).length = k by rw [List.length_take, out_len]; omega)
                  have hnx := Lib.hid (show (outL h9).take (k + 1) = (outL h9).take k ++ [d] by rw [List.take_add_one, hd0]; rfl)
                  have hset := Lib.hid (ho'.out.set1 (d := d) (by rw [hlen.out]; exact hk20))
                  rw [hlen.out] at hset
                  clear ho hx hqq hrr hd0 hd hsh
                  go_wp2
                  go_roundw
                  case rel => exact ⟨k + 1, by omega, by go_num, hnx.out ▸ hset.out, hc'.out.trans (ch_set _ _ _ _)⟩
                  case measure => simp [intOf]; omega
                · obtain rfl : k = 20 := by omega
                  have ho9 := Lib.hid (show OutAt wr bO (shaL s) by
                    rw [hres.out]
                    have := ho'.out
                    rwa [List.take_of_length_le (by rw [out_len]; decide)] at this)
                  have hbx9 := Lib.hid ((hbox2.out.ch hc'.out (show ¬ w.heap.size = bO by have := hbxO.out; omega)))
                  have hgb9 := Lib.hid (hgb2.out.trans (hc'.out.below (show w.heap.size + 1 ≤ Wk.heap.size from cell_lt (hbox2.out.1 0 (by decide))) (fun k hk => hk ▸ hbxO.out)))
                  have hlen : (bcells (shaL s)).length = 20 := by rw [bcells_len]; exact out_len _
                  have hV := Lib.hid (show bytesV (shaL s) = .agg (bcells (shaL s)).toArray from rfl)
                  have hld := Lib.hid (show ∀ j v, (bcells (shaL s))[j]? = some v → wr.cell? ⟨bO, 0 + j, none⟩ = some v from fun j v hv => by
                    have hj : j < 20 := by rw [← hlen]; exact (List.getElem?_eq_some_iff.1 hv).1
                    have hj2 : j < (shaL s).length := by rw [bcells_len] at hlen; omega
                    rw [Nat.zero_add, ho9.out.1 j hj, ← hv, bcells_get _ j hj2]; simp [hj2])
                  have hth : wr.there w.heap.size 0 20 := fun j hj => by
                    rw [Nat.zero_add]
                    exact ⟨by rw [hbx9.out.1 j hj]; rfl, hbx9.out.2 j⟩
                  have hsz : (Tryz.prog.info? 45).map (·.size) = some (bcells (shaL s)).length := by rw [hlen]; kernel_rfl
                  have hone := bcells_one (shaL s)
                  obtain ⟨cs, hcs⟩ : ∃ cs, bcells (shaL s) = cs := ⟨_, rfl⟩
                  rw [hcs] at hlen hV hld hsz hone
                  have hat := Lib.hid (World.rangeAt_setCells_same wr w.heap.size 0 cs (by rw [hlen]; exact hth))
                  have hg0 := Lib.hid (show Gr w (wr.setCells w.heap.size 0 cs) from Gr.setCells (Nat.le_refl _) cs 0 (g1'.out.trans (Below.mono hgb9.out (show W1.heap.size ≤ w.heap.size + 1 from Nat.le_of_eq hz1'.out))))
                  have hsz' := Lib.hid hsz
                  clear hcs ho
                  go_upto_region 51 with (fail)
                  refine wp_region_lit ?_
                  refine wpList_load_mid rfl 45 _ rfl bO 0 rfl cs _ hld.out Tryz.underlying45 rfl hsz ?_
                  refine wpList_store_mid rfl 45 _ _ rfl w.heap.size 0 cs.toArray rfl rfl (by simpa [hlen] using hth) (by simpa using hsz) (all_oneCell_toArray hone) ?_
                  clear hsz hone hlen hth
                  simp only [List.toList_toArray]
                  generalize wr.setCells w.heap.size 0 cs = wz at hat hg0 ⊢
                  go_wp2
                  refine bodyPost_ret (results_cell rfl rfl (run_loadVar_mid wz w.heap.size 0 45 cs _ hat.out Tryz.underlying45 rfl hsz'.out)) rfl ⟨by rw [hV.out], hg0.out⟩
        | succ q =>
          have hq8 : (q : Int) < 8 := by omega
          obtain ⟨d, hd⟩ : ∃ d, UInt8.ofNat (X / 256 ^ q) = d := ⟨_, rfl⟩
          have hdI : (X : Int) / 2 ^ (8 * q) % 256 = (d.toNat : Int) := by
            rw [← hd, UInt8.toNat_ofNat', show (256 : Nat) = 2 ^ 8 from rfl, ← Nat.pow_mul, Int.natCast_emod, Int.natCast_ediv]
            simp
          have hacc2 := Lib.hid (show (acc ++ [d]) ++ beB X q = shaPad s by rw [← hacc'.out, ← hd]; simp [beB])
          clear hd hacc'
          obtain ⟨A, hA⟩ : ∃ A, acc.length = A := ⟨_, rfl⟩
          rw [hA] at ho5' ⊢
          have hAb : A + 1 ≤ 1000000 := by omega
          have hAl : (bcells acc).length + 1 = A + 1 := by rw [bcells_len, hA]
          have hsn := Lib.hid (show (acc ++ [d]).length = A + 1 by simp [hA])
          go_wp2_with (at_builtin; go_loud (refine wp_app1 (by rfl) _ _ 47 5 _ (.int .u8 0) (.int .u8 d.toNat) 1 Tryz.underlying47 infoU8 rfl rfl (w.heap.size + 1) _ (bcells acc) rfl ho5'.out rfl rfl (A + 1) hAl hAb (by decide) hsz5.out ?_); intro p6 cap6 w6 hown6 hb6)
          have hown7 := Lib.hid (show OwnV 5 (w.heap.size + 1) w6 (.slice p6 (A + 1) cap6) (bcells (acc ++ [d])) from by
            rw [bcells_snoc] at hown6; exact hown6)
          have hg7 := Lib.hid (hg5'.out.trans hb6)
          clear hown6 hb6
          go_wp2
          go_roundw
          case rel => exact ⟨q, acc ++ [d], by omega, by rw [hsn.out]; omega, hacc2.out, rfl, ⟨p6, cap6, by rw [hsn.out]⟩, hown7.out, hg7.out⟩
          case measure => simp [intOf]
    · have hb : (R != 56) = true := by
        rw [bne_iff_ne]; exact fun e => hq (hnz.1 e)
      rw [hN]
      have hNb : N + 1 ≤ 1000000 := by omega
      have hbl : (bcells (s ++ [128] ++ List.replicate z 0)).length + 1 = N + 1 := by rw [bcells_len]; simp; omega
      rw [hN] at ho'
      clear hRN hnz
      go_wp2_with (at_builtin; (refine wp_app1 (by rfl) _ _ 47 5 _ (.int .u8 0) (.int .u8 0) 1 Tryz.underlying47 infoU8 rfl rfl (w.heap.size + 1) _ (bcells (s ++ [128] ++ List.replicate z 0)) rfl ho'.out rfl rfl (N + 1) hbl hNb (by decide) hsz.out ?_); intro p3 cap3 w3 hown3 hb3)
      have hown4 := Lib.hid (show OwnV 5 (w.heap.size + 1) w3 (.slice p3 (N + 1) cap3) (bcells (s ++ [128] ++ List.replicate (z + 1) 0)) from by
        rw [show (Value.int .u8 0) = .int .u8 ((0 : UInt8).toNat : Int) from rfl, bcells_snoc] at hown3
        rw [List.replicate_succ', ← List.append_assoc]; exact hown3)
      have hg4 := Lib.hid (hg'.out.trans hb3)
      clear hown3 hb3
      go_wp2
      go_roundw
      case rel => exact ⟨z + 1, by omega, p3, cap3, by rw [show s.length + 1 + (z + 1) = N + 1 by omega], hown4.out, hg4.out⟩
      case measure => simp [sliceLen]; omega
end Go.Proofs.YtheihlalgekojaaGreatDoor
