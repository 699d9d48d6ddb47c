/-
  The document's base64: letters of a text.
-/
import Derived.Test.YtheihlalgekojaaGreatDoorUa
import Derived.IntWalk
namespace Go.Proofs.YtheihlalgekojaaGreatDoor
open Go.RowKit
attribute [local go_sem] Oper.semAt_some

/-- Numbers, cell by cell. -/
def ncells (l : List Nat) : List Value := l.map fun (c : Nat) => Value.int .i64 (c : Int)
theorem ncells_len (l : List Nat) : (ncells l).length = l.length := by simp [ncells]
theorem ncells_app (a b : List Nat) : ncells (a ++ b) = ncells a ++ ncells b := by simp [ncells]
theorem ncells_at (l : List Nat) (i : Nat) (h : i < l.length) : (ncells l)[i]? = some (.int .i64 (l.getD i 0 : Nat)) := by simp [ncells, h]
theorem ncells_snoc (l : List Nat) (d : Nat) : ncells l ++ [.int .i64 d] = ncells (l ++ [d]) := by simp [ncells]
theorem infoInt : (Tryz.prog.info? 3).map (fun i => (i.zero, i.size, i.bytes)) = some (some (.int .i64 0), 1, 8) := by kernel_rfl
def sLen : Value → Nat
  | .slice _ n _ => n
  | _ => 0
theorem bcells_snoc' (l : List UInt8) (d : UInt8) : bcells l ++ [.int .u8 d.toNat] = bcells (l ++ [d]) := by simp [bcells]
theorem bitsL_take (s : List UInt8) (k : Nat) (h : k < s.length) : bitsL (s.take (k + 1)) = bitsL (s.take k) ++ bits8 s[k] := by
  unfold bitsL; rw [List.take_succ_eq_append_getElem h, List.flatMap_append]; simp
theorem sixes_take (l : List Nat) (k : Nat) (h : 6 * k + 6 ≤ l.length) : ((sixes l).map letB).take (k + 1) = ((sixes l).map letB).take k ++ [letB (numK (l.drop (6 * k)) 6)] := by
  rw [List.take_add_one, List.getElem?_map, sixes_at k l h]; rfl
set_option maxHeartbeats 8000000 in
set_option maxRecDepth 100000 in
theorem rencode_any (s : List UInt8) (hs : s.length ≤ 10000) (w : World) : Calls Tryz.prog 32 #[.string ⟨s.toArray⟩] w fun e w' => e = .returned (.string ⟨(encL s).toArray⟩) ∧ Gr w w' := by
  rw [← encR_eq]
  go_enter Tryz.func32, Tryz.ntmps32
  go_wp2
  go_loopw [3, 4] (fun bv i W => ∃ k : Nat, k ≤ s.length ∧ i = .int .i64 k ∧ (∃ p cap, bv = .slice p (8 * k) cap) ∧ OwnV 3 w.heap.size W bv (ncells (bitsL (s.take k))) ∧ Gr w W) (fun _ i _ => s.length - (intOf i).toNat)
  case atStart => exact ⟨0, Nat.zero_le _, rfl, ⟨none, 0, rfl⟩, OwnV.nil _ _ _, Gr.refl _⟩
  case round =>
    obtain ⟨k, hk, rfl, ⟨p1, cap1, rfl⟩, ho1, hg1⟩ := hrel
    have ho1' := Lib.hid ho1
    have hg1' := Lib.hid hg1
    clear ho1 hg1
    by_cases hlt : k < s.length
    · obtain ⟨c, hcd⟩ : ∃ c, (⟨s.toArray⟩ : ByteArray)[k]'(by rw [size_mk]; exact hlt) = c := ⟨_, rfl⟩
      have hc2 := Lib.hid (show s[k] = c from hcd)
      have hc8 : c.toNat < 256 := c.toNat_lt
      have hltI : (k : Int) < s.length := by omega
      obtain ⟨wx, rfl⟩ : ∃ x, x = wr := ⟨wr, rfl⟩
      go_wp2
      go_loopw [3, 5] (fun bv i W => ∃ q j : Nat, q + j = 8 ∧ i = .int .i64 ((j : Int) - 1) ∧ (∃ p cap, bv = .slice p (8 * k + q) cap) ∧ OwnV 3 w.heap.size W bv (ncells (bitsL (s.take k) ++ (bits8 c).take q)) ∧ Gr w W) (fun _ i _ => (intOf i + 1).toNat)
      case atStart => exact ⟨0, 8, rfl, rfl, ⟨_, _, rfl⟩, by simpa using ho1'.out, hg1'.out⟩
      case round =>
        obtain ⟨q, j, hqj, rfl, ⟨p2, cap2, rfl⟩, ho2, hg2⟩ := hrel
        have ho2' := Lib.hid ho2
        have hg2' := Lib.hid hg2
        have hsz2 := Lib.hid hg2.size
        clear ho2 hg2
        cases j with
        | zero =>
          obtain rfl : q = 8 := by omega
          have hnx := Lib.hid (show bitsL (s.take (k + 1)) = bitsL (s.take k) ++ (bits8 c).take 8 by rw [bitsL_take s k hlt, hc2.out]; rfl)
          go_wp2
          go_roundw
          case rel => exact ⟨k + 1, by omega, by go_num, ⟨p2, cap2, by rw [show 8 * (k + 1) = 8 * k + 8 by omega]⟩, hnx.out ▸ ho2'.out, hg2'.out⟩
          case measure => simp [intOf]; omega
        | succ r =>
          have hr7 : r = 7 - q := by omega
          have hq8 : q < 8 := by omega
          have hrI : (r : Int) < 8 := by omega
          obtain ⟨v, hv⟩ : ∃ v, c.toNat / 2 ^ r % 2 = v := ⟨_, rfl⟩
          have hvI : ((c.toNat : Int) / 2 ^ r).tmod 2 = (v : Int) := by
            rw [← hv, Int.natCast_emod, Int.natCast_ediv, Int.tmod_eq_emod_of_nonneg (Int.ediv_nonneg (by omega) (by exact_mod_cast Nat.zero_le _))]
            simp
          have hnx := Lib.hid (show (bits8 c).take (q + 1) = (bits8 c).take q ++ [v] by rw [bits8_take c q hq8, ← hr7, hv])
          obtain ⟨A, hA⟩ : ∃ A, 8 * k + q = A := ⟨_, rfl⟩
          have hA2 := Lib.hid (show 8 * k + (q + 1) = A + 1 by omega)
          rw [hA]
          have hAb : A + 1 ≤ 1000000 := by omega
          have hAl : (ncells (bitsL (s.take k) ++ (bits8 c).take q)).length + 1 = A + 1 := by
            rw [ncells_len, List.length_append, bitsL_len, List.length_take, List.length_take]
            have : (bits8 c).length = 8 := rfl
            omega
          rw [hA] at ho2'
          clear hA hv hr7
          go_wp2_with (at_builtin; (refine wp_app1 (by rfl) _ _ 59 3 _ (.int .i64 0) (.int .i64 v) 8 Tryz.underlying59 infoInt rfl rfl w.heap.size _ (ncells (bitsL (s.take k) ++ (bits8 c).take q)) rfl ho2'.out rfl rfl (A + 1) hAl hAb (by decide) hsz2.out ?_); intro p3 cap3 w3 hown3 hb3)
          have hown4 := Lib.hid (show OwnV 3 w.heap.size w3 (.slice p3 (A + 1) cap3) (ncells (bitsL (s.take k) ++ (bits8 c).take (q + 1))) from by
            rw [ncells_snoc, List.append_assoc] at hown3
            rw [hnx.out]; exact hown3)
          have hg4 := Lib.hid (Below.trans hg2'.out hb3)
          clear hown3 hb3
          go_wp2
          go_roundw
          case rel => exact ⟨q + 1, r, by omega, rfl, ⟨p3, cap3, by rw [hA2.out]⟩, hown4.out, hg4.out⟩
          case measure => simp [intOf]
    · obtain rfl : k = s.length := by omega
      have ho2 := Lib.hid (show OwnV 3 w.heap.size wr (.slice p1 (8 * s.length) cap1) (ncells (bitsL s ++ List.replicate 0 0)) by
        have := ho1'.out
        rw [List.take_length] at this
        simpa using this)
      obtain ⟨D, hD⟩ : ∃ D, (6 - 8 * s.length % 6) % 6 = D := ⟨_, rfl⟩
      have hpd := Lib.hid (show bitsL s ++ List.replicate D 0 = pad6 (bitsL s) by unfold pad6; rw [bitsL_len, ← hD, Nat.mul_comm])
      have hltN : ¬ (s.length : Int) < s.length := by omega
      obtain ⟨wx, rfl⟩ : ∃ x, x = wr := ⟨wr, rfl⟩
      obtain ⟨E, hE⟩ : ∃ E, 8 * s.length = E := ⟨_, rfl⟩
      rw [hE] at ho2 hD ⊢
      have hE' := Lib.hid hE
      have hEb : E ≤ 80000 := by omega
      clear hE ho1'
      go_wp2
      go_loopw [3] (fun bv W => ∃ z : Nat, z ≤ D ∧ (∃ p cap, bv = .slice p (E + z) cap) ∧ OwnV 3 w.heap.size W bv (ncells (bitsL s ++ List.replicate z 0)) ∧ Gr w W) (fun bv _ => E + D - sLen bv)
      case atStart => exact ⟨0, Nat.zero_le _, ⟨p1, cap1, rfl⟩, ho2.out, hg1'.out⟩
      case round =>
        obtain ⟨z, hz, ⟨p2, cap2, rfl⟩, ho3, hg3⟩ := hrel
        have ho3' := Lib.hid ho3
        have hg3' := Lib.hid hg3
        have hsz3 := Lib.hid hg3.size
        clear ho3 hg3
        have hD6 : D < 6 := by omega
        obtain ⟨N, hN⟩ : ∃ N, E + z = N := ⟨_, rfl⟩
        have hNI : ((E : Int) + z) = N := by omega
        obtain ⟨R, hR⟩ : ∃ R, (N : Int).tmod 6 = R := ⟨_, rfl⟩
        have hRN : R = ((N % 6 : Nat) : Int) := by rw [← hR]; rfl
        have hnz : (R = 0) ↔ z = D := by
          rw [hRN]
          omega
        rw [hN] at ho3' ⊢
        by_cases hq : z = D
        · have hb : (R != 0) = false := by rw [hnz.2 hq]; rfl
          subst hq
          have hl := Lib.hid (show (pad6 (bitsL s)).length = N by rw [← hpd.out, List.length_append, bitsL_len, List.length_replicate]; have := hE'.out; omega)
          rw [hpd.out] at ho3'
          obtain ⟨l, hld⟩ : ∃ l, pad6 (bitsL s) = l := ⟨_, rfl⟩
          have hN6 : N % 6 = 0 := by rw [← hl.out]; exact pad6_len _
          have hbit := Lib.hid (show ∀ x ∈ l, x < 2 from hld ▸ fun x hx => by
            rcases List.mem_append.1 hx with h | h
            · obtain ⟨c, _, h2⟩ := List.mem_flatMap.1 h
              exact bits8_lt c x h2
            · rw [List.eq_of_mem_replicate h]; decide)
          have hres := Lib.hid (show encR s = (sixes l).map letB ++ List.replicate ((4 - N / 6 % 4) % 4) 61 by
            unfold encR
            rw [hld]
            simp only [List.length_map, sixes_len]
            rw [← hld, hl.out])
          rw [hld] at ho3' hl
          have hNb : N ≤ 80006 := by omega
          obtain ⟨wy, rfl⟩ : ∃ x, x = wr := ⟨wr, rfl⟩
          clear hRN hnz hpd ho2 hz hD hD6 hEb hld
          go_upto_region 12 with (fail)
          clear hb hR hNI hN
          go_wp2
          go_loopw [6, 7] (fun bv i W => ∃ k : Nat, 6 * k ≤ N ∧ i = .int .i64 ((6 * k : Nat) : Int) ∧ (∃ p cap, bv = .slice p k cap) ∧ OwnV 5 wy.heap.size W bv (bcells (((sixes l).map letB).take k)) ∧ Gr wy W) (fun _ i _ => N - (intOf i).toNat)
          case atStart => exact ⟨0, Nat.zero_le _, rfl, ⟨none, 0, rfl⟩, OwnV.nil _ _ _, Gr.refl _⟩
          case round =>
            obtain ⟨k, hk, rfl, ⟨p4, cap4, rfl⟩, ho4, hg4⟩ := hrel
            have ho4' := Lib.hid ho4
            have hg4' := Lib.hid hg4
            have hsz4 := Lib.hid hg4.size
            clear ho4
            by_cases hlt2 : 6 * k < N
            · obtain ⟨A, hA⟩ : ∃ A, 6 * k = A := ⟨_, rfl⟩
              have hA6 : A + 6 ≤ N := by omega
              have hAI : (A : Int) < N := by omega
              obtain ⟨g3, capz, hve, hg3b, hg3l, hcw, _⟩ := ho3'.out.row (by rw [ncells_len, hl.out]; omega)
              injection hve with hp5 hx1 hx2
              subst hp5
              subst hx2
              clear hx1
              have hcl := Lib.hid (fun i (hi : i < N) => hg4.cell (hcw i _ (ncells_at l i (by rw [hl.out]; exact hi))))
              rw [hA]
              have hA' := Lib.hid hA
              obtain ⟨wz, rfl⟩ : ∃ x, x = wr := ⟨wr, rfl⟩
              clear hcw hg4 hA hlt2
              go_wp2
              go_loopw [8, 9] (fun n i W => ∃ q : Nat, q ≤ 6 ∧ n = .int .i64 (numK (l.drop A) q) ∧ i = .int .i64 q ∧ W = wz) (fun _ i _ => 6 - (intOf i).toNat)
              case atStart => exact ⟨0, by omega, rfl, rfl, rfl⟩
              case round =>
                obtain ⟨q, hq6, rfl, rfl, rfl⟩ := hrel
                have hnl := numK_lt (l.drop A) (fun x hx => hbit.out x (List.mem_of_mem_drop hx)) q
                by_cases hqq : q < 6
                · have hqI : (q : Int) < 6 := by omega
                  have d0 := hcl.out (A + q) (by omega)
                  have hx2 : l.getD (A + q) 0 < 2 := by
                    rw [List.getD_eq_getElem?_getD]
                    cases e : l[A + q]? with
                    | none => simp
                    | some x => simp; exact hbit.out x (List.mem_of_getElem? e)
                  have hnx := Lib.hid (show numK (l.drop A) (q + 1) = 2 * numK (l.drop A) q + l.getD (A + q) 0 by
                    show 2 * numK (l.drop A) q + (l.drop A).getD q 0 = _
                    simp only [List.getD_eq_getElem?_getD, List.getElem?_drop])
                  obtain ⟨n, hn⟩ : ∃ n, numK (l.drop A) q = n := ⟨_, rfl⟩
                  obtain ⟨x, hx⟩ : ∃ x, l.getD (A + q) 0 = x := ⟨_, rfl⟩
                  rw [hx] at d0 hx2 hnx
                  rw [hn] at hnl hnx ⊢
                  have hn64 : n < 64 := Nat.lt_of_lt_of_le hnl (Nat.pow_le_pow_right (by decide) (by omega : q ≤ 6))
                  have k1 : IntKind.i64.wrap (2 * (n : Int)) = 2 * (n : Int) := IntWalk.i64_in _ (by omega)
                  have k2 : IntKind.i64.wrap (2 * (n : Int) + x) = ((2 * n + x : Nat) : Int) := by rw [IntWalk.i64_in _ (by omega)]; omega
                  have k3 : IntKind.i64.wrap ((A : Int) + q) = ((A + q : Nat) : Int) := by rw [IntWalk.i64_in _ (by omega)]; omega
                  obtain ⟨kk, hkk⟩ : ∃ kk, A + q = kk := ⟨_, rfl⟩
                  rw [hkk] at k3 d0
                  have hkI : (kk : Int) < N := by omega
                  obtain ⟨y, hy⟩ : ∃ y, 2 * n + x = y := ⟨_, rfl⟩
                  rw [hy] at k2 hnx
                  clear hn hx hkk hy hnl
                  go_wp2
                  go_roundw
                  case rel => exact ⟨q + 1, by omega, by rw [hnx.out], by go_num, by first | trivial | rfl⟩
                  case measure => simp [intOf]; omega
                · obtain rfl : q = 6 := by omega
                  obtain ⟨n, hn⟩ : ∃ n, numK (l.drop A) 6 = n := ⟨_, rfl⟩
                  rw [hn] at hnl ⊢
                  have hn64 : n < 64 := hnl
                  have hnx := Lib.hid (show ((sixes l).map letB).take (k + 1) = ((sixes l).map letB).take k ++ [letB n] by
                    rw [sixes_take l k (by rw [hl.out, hA'.out]; exact hA6), hA'.out, hn])
                  have hk1 : k + 1 ≤ 1000000 := by have := hA'.out; omega
                  have hkl : (bcells (((sixes l).map letB).take k)).length + 1 = k + 1 := by
                    rw [bcells_len, List.length_take, List.length_map, sixes_len, hl.out]; have := hA'.out; omega
                  have hcall := Lib.hid (fun W => rletter_any n hn64 W)
                  obtain ⟨d, hd⟩ : ∃ d, letB n = d := ⟨_, rfl⟩
                  rw [hd] at hnx hcall
                  have k3 : IntKind.i64.wrap ((A : Int) + 6) = ((A + 6 : Nat) : Int) := by rw [IntWalk.i64_in _ (by omega)]; omega
                  have hA8 := Lib.hid (show 6 * (k + 1) = A + 6 by have := hA'.out; omega)
                  clear hn hd hnl
                  go_wp2_with (first
                    | (go_at_call 46; refine (hcall.out _).mono ?_; rintro e wc ⟨rfl, rfl⟩)
                    | (at_builtin; (refine wp_app1 (by rfl) _ _ 47 5 _ (.int .u8 0) (.int .u8 d.toNat) 1 Tryz.underlying47 infoU8 rfl rfl wy.heap.size _ (bcells (((sixes l).map letB).take k)) rfl ho4'.out rfl rfl (k + 1) hkl hk1 (by decide) hsz4.out ?_); intro p6 cap6 w6 hown6 hb6))
                  have hown7 := Lib.hid (show OwnV 5 wy.heap.size w6 (.slice p6 (k + 1) cap6) (bcells (((sixes l).map letB).take (k + 1))) from by
                    rw [bcells_snoc'] at hown6; rw [hnx.out]; exact hown6)
                  have hg7 := Lib.hid (Below.trans hg4'.out hb6)
                  clear hown6 hb6
                  go_wp2
                  go_roundw
                  case rel => exact ⟨k + 1, by rw [hA8.out]; exact hA6, by rw [hA8.out]; rfl, ⟨p6, cap6, rfl⟩, hown7.out, hg7.out⟩
                  case measure => simp [intOf]; omega
            · have hkN : 6 * k = N := by omega
              have hkd := Lib.hid (show N / 6 = k by omega)
              have hall := Lib.hid (show ((sixes l).map letB).take k = (sixes l).map letB from List.take_of_length_le (by rw [List.length_map, sixes_len, hl.out]; omega))
              rw [hall.out] at ho4'
              have hltN2 : ¬ ((6 * k : Nat) : Int) < N := by omega
              obtain ⟨o, hoo⟩ : ∃ o, (sixes l).map letB = o := ⟨_, rfl⟩
              rw [hkd.out, hoo] at hres
              rw [hoo] at ho4'
              have hol := Lib.hid (show o.length = k by rw [← hoo, List.length_map, sixes_len, hl.out]; exact hkd.out)
              obtain ⟨D2, hD2⟩ : ∃ D, (4 - k % 4) % 4 = D := ⟨_, rfl⟩
              rw [hD2] at hres
              obtain ⟨wz, rfl⟩ : ∃ x, x = wr := ⟨wr, rfl⟩
              have hgz := Lib.hid (hg3'.out.trans hg4'.out)
              have hwy := Lib.hid (hg3'.out.size)
              have hkb : k ≤ 20000 := by omega
              clear hall hoo hg4
              rw [hkN] at hltN2 ⊢
              clear hkN
              go_wp2
              go_loopw [6] (fun bv W => ∃ z : Nat, z ≤ D2 ∧ (∃ p cap, bv = .slice p (k + z) cap) ∧ OwnV 5 wy.heap.size W bv (bcells (o ++ List.replicate z 61)) ∧ Gr wy W) (fun bv _ => k + D2 - sLen bv)
              case atStart => exact ⟨0, Nat.zero_le _, ⟨p4, cap4, rfl⟩, by simpa using ho4'.out, hg4'.out⟩
              case round =>
                obtain ⟨z, hz, ⟨p7, cap7, rfl⟩, ho7, hg7⟩ := hrel
                have ho7' := Lib.hid ho7
                have hg7' := Lib.hid hg7
                have hsz7 := Lib.hid hg7.size
                clear ho7 hg7
                have hD6 : D2 < 4 := by omega
                obtain ⟨N2, hN2⟩ : ∃ N, k + z = N := ⟨_, rfl⟩
                have hNI : ((k : Int) + z) = N2 := by omega
                obtain ⟨R2, hR2⟩ : ∃ R, (N2 : Int).tmod 4 = R := ⟨_, rfl⟩
                have hRN : R2 = ((N2 % 4 : Nat) : Int) := by rw [← hR2]; rfl
                have hnz : (R2 = 0) ↔ z = D2 := by
                  rw [hRN]
                  omega
                rw [hN2] at ho7' ⊢
                by_cases hq : z = D2
                · have hb : (R2 != 0) = false := by rw [hnz.2 hq]; rfl
                  subst hq
                  rw [← hres.out] at ho7'
                  have hcv := conv_own ho7'.out
                  have hgf := Lib.hid (hg3'.out.trans hg7'.out)
                  clear hRN hnz hD2 hz hD6 hN2
                  go_wp2
                  go_ret
                  exact ⟨rfl, hgf.out⟩
                · have hb : (R2 != 0) = true := by
                    rw [bne_iff_ne]; exact fun e => hq (hnz.1 e)
                  have hNb2 : N2 + 1 ≤ 1000000 := by omega
                  have hbl : (bcells (o ++ List.replicate z 61)).length + 1 = N2 + 1 := by
                    rw [bcells_len, List.length_append, hol.out, List.length_replicate]; omega
                  clear hRN hnz
                  go_wp2_with (at_builtin; (refine wp_app1 (by rfl) _ _ 47 5 _ (.int .u8 0) (.int .u8 61) 1 Tryz.underlying47 infoU8 rfl rfl wy.heap.size _ (bcells (o ++ List.replicate z 61)) rfl ho7'.out rfl rfl (N2 + 1) hbl hNb2 (by decide) hsz7.out ?_); intro p8 cap8 w8 hown8 hb8)
                  have hown9 := Lib.hid (show OwnV 5 wy.heap.size w8 (.slice p8 (N2 + 1) cap8) (bcells (o ++ List.replicate (z + 1) 61)) from by
                    rw [show (Value.int .u8 61) = .int .u8 ((61 : UInt8).toNat : Int) from rfl, bcells_snoc'] at hown8
                    rw [List.replicate_succ', ← List.append_assoc]; exact hown8)
                  have hg9 := Lib.hid (Below.trans hg7'.out hb8)
                  clear hown8 hb8
                  go_wp2
                  go_roundw
                  case rel => exact ⟨z + 1, by omega, ⟨p8, cap8, by rw [show k + (z + 1) = N2 + 1 by omega]⟩, hown9.out, hg9.out⟩
                  case measure => simp [sLen]; omega
        · have hb : (R != 0) = true := by
            rw [bne_iff_ne]; exact fun e => hq (hnz.1 e)
          have hNb2 : N + 1 ≤ 1000000 := by omega
          have hbl : (ncells (bitsL s ++ List.replicate z 0)).length + 1 = N + 1 := by
            rw [ncells_len, List.length_append, bitsL_len, List.length_replicate]; have := hE'.out; omega
          clear hRN hnz
          go_wp2_with (at_builtin; (refine wp_app1 (by rfl) _ _ 59 3 _ (.int .i64 0) (.int .i64 0) 8 Tryz.underlying59 infoInt rfl rfl w.heap.size _ (ncells (bitsL s ++ List.replicate z 0)) rfl ho3'.out rfl rfl (N + 1) hbl hNb2 (by decide) hsz3.out ?_); intro p3 cap3 w3 hown3 hb3)
          have hown4 := Lib.hid (show OwnV 3 w.heap.size w3 (.slice p3 (N + 1) cap3) (ncells (bitsL s ++ List.replicate (z + 1) 0)) from by
            rw [show (Value.int .i64 0) = .int .i64 ((0 : Nat) : Int) from rfl, ncells_snoc] at hown3
            rw [List.replicate_succ', ← List.append_assoc]; exact hown3)
          have hg4 := Lib.hid (Below.trans hg3'.out hb3)
          clear hown3 hb3
          go_wp2
          go_roundw
          case rel => exact ⟨z + 1, by omega, ⟨p3, cap3, by rw [show E + (z + 1) = N + 1 by omega]⟩, hown4.out, hg4.out⟩
          case measure => simp [sLen]; omega
end Go.Proofs.YtheihlalgekojaaGreatDoor
