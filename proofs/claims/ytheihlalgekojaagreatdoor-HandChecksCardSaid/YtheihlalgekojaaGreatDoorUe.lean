/-
  The document's base64: a letter's number, the text of letters.
-/
import Derived.Test.YtheihlalgekojaaGreatDoorUc
import Derived.Test.YtheihlalgekojaaGreatDoorP26
import Derived.Test.YtheihlalgekojaaGreatDoorBb
namespace Go.Proofs.YtheihlalgekojaaGreatDoor
open Go.RowKit
attribute [local go_sem] Oper.semAt_some

theorem num_none {c : UInt8} (h : ∀ j, j < 64 → letB j ≠ c) : numB c = -1 := by
  have h2 := num_bd c
  by_cases h0 : isLet c = true
  · obtain ⟨n, hn, rfl⟩ := let_of h0
    exact absurd rfl (h n hn)
  · have : ¬ 0 ≤ numB c := by simpa [isLet] using h0
    omega
set_option maxHeartbeats 1000000 in
set_option maxRecDepth 20000 in
theorem rnumber_any (c : UInt8) (w : World) : Calls Tryz.prog 31 #[.int .u8 c.toNat] w fun e w' => e = .returned (.int .i64 (numB c)) ∧ w = w' := by
  go_enter Tryz.func31, Tryz.ntmps31
  go_wp2
  go_loopw [3] (fun i W => ∃ n : Nat, n ≤ 64 ∧ i = .int .i64 n ∧ (∀ j, j < n → letB j ≠ c) ∧ W = w) (fun i _ => 64 - (intOf i).toNat)
  case atStart => exact ⟨0, by omega, rfl, fun j h => absurd h (Nat.not_lt_zero _), rfl⟩
  case round =>
    obtain ⟨n, hn, rfl, hno, rfl⟩ := hrel
    have hno' := Lib.hid hno
    clear hno
    by_cases h64 : n < 64
    · have hI : (n : Int) < 64 := by omega
      obtain ⟨d, hd⟩ : ∃ d, letB n = d := ⟨_, rfl⟩
      have hcall := Lib.hid (rletter_any n h64)
      rw [hd] at hcall
      by_cases hdc : d = c
      · subst hdc
        have hnum := Lib.hid (show numB d = n by rw [← hd]; exact num_letB h64)
        clear hd
        go_wp2_with (go_at_call 46; refine (hcall.out _).mono ?_; rintro e wc ⟨rfl, rfl⟩)
        go_ret
        exact ⟨by rw [hnum.out]; rfl, rfl⟩
      · have hne : ((d.toNat : Int) == c.toNat) = false := by
          rw [beq_eq_false_iff_ne]; intro e; exact hdc (UInt8.toNat_inj.1 (by omega))
        have hnx := Lib.hid (show ∀ j, j < n + 1 → letB j ≠ c from fun j hj => by
          by_cases e : j = n
          · subst e; rw [hd]; exact hdc
          · exact hno'.out j (by omega))
        clear hd hdc
        go_wp2_with (go_at_call 46; refine (hcall.out _).mono ?_; rintro e wc ⟨rfl, rfl⟩)
        go_roundw
        case rel => exact ⟨n + 1, by omega, by go_num, hnx.out, by first | trivial | rfl⟩
        case measure => simp [intOf]; omega
    · obtain rfl : n = 64 := by omega
      have hnum := Lib.hid (num_none hno'.out)
      go_wp2
      go_ret
      exact ⟨by rw [hnum.out]; rfl, rfl⟩
theorem eights_take (l : List Nat) (k : Nat) (h : 8 * k + 8 ≤ l.length) : (eights l).take (k + 1) = (eights l).take k ++ [UInt8.ofNat (numK (l.drop (8 * k)) 8)] := by
  rw [List.take_add_one, eights_at k l h]; rfl
theorem lbits_take (s : List UInt8) (k : Nat) (h : k < s.length) : lbits (s.take (k + 1)) = lbits (s.take k) ++ bits6 (numB s[k]).toNat := by
  unfold lbits; rw [List.take_succ_eq_append_getElem h, List.flatMap_append]; simp
theorem lbits_lt (s : List UInt8) : ∀ x ∈ lbits s, x < 2 := by
  intro x hx
  obtain ⟨c, _, h⟩ := List.mem_flatMap.1 hx
  simp only [bits6, List.mem_cons, List.mem_nil_iff, or_false] at h
  rcases h with h | h | h | h | h | h <;> omega
theorem strip_succ (s : List UInt8) (q : Nat) : stripE s (q + 1) = if s.getD q 0 = 61 then stripE s q else q + 1 := rfl
theorem strip_le (s : List UInt8) : ∀ k, stripE s k ≤ k
  | 0 => Nat.le_refl _
  | k + 1 => by
    unfold stripE
    split
    · have := strip_le s k; omega
    · exact Nat.le_refl _
set_option maxHeartbeats 8000000 in
set_option maxRecDepth 100000 in
theorem rdecode_any (s : List UInt8) (hs : s.length ≤ 10000) (w : World) : Calls Tryz.prog 18 #[.string ⟨s.toArray⟩] w fun e w' => e = .returned (dcV (decL s)) ∧ Gr w w' := by
  rw [← decR_eq]
  obtain ⟨R, hR⟩ : ∃ R, decR s = R := ⟨_, rfl⟩
  have hR' := Lib.hid hR
  rw [hR]
  clear hR
  go_enter Tryz.func18, Tryz.ntmps18
  go_wp2
  go_loopw [4] (fun en W => ∃ k : Nat, k ≤ s.length ∧ en = .int .i64 k ∧ stripE s k = stripE s s.length ∧ W = w) (fun en _ => (intOf en).toNat)
  case atStart => exact ⟨s.length, Nat.le_refl _, rfl, rfl, rfl⟩
  case round =>
    obtain ⟨k, hk, rfl, hst, rfl⟩ := hrel
    have hst' := Lib.hid hst
    clear hst
    have hcase : (∃ q, k = q + 1 ∧ s.getD q 0 = 61) ∨ stripE s k = k := by
      cases k with
      | zero => exact .inr rfl
      | succ q =>
        by_cases h : s.getD q 0 = 61
        · exact .inl ⟨q, rfl, h⟩
        · right; rw [strip_succ, if_neg h]
    rcases hcase with ⟨q, rfl, hq⟩ | hsk
    · have hql : q < s.length := by omega
      obtain ⟨c, hcd⟩ : ∃ c, (⟨s.toArray⟩ : ByteArray)[q]'(by rw [size_mk]; exact hql) = c := ⟨_, rfl⟩
      have hc : c = 61 := by
        have h2 := hq
        rw [List.getD_eq_getElem?_getD, List.getElem?_eq_getElem hql] at h2
        rw [← hcd]; exact h2
      subst hc
      have hnx := Lib.hid (show stripE s q = stripE s s.length by
        have := hst'.out
        rw [strip_succ, if_pos hq] at this
        exact this)
      have k1 : IntKind.i64.wrap (((q + 1 : Nat) : Int) - 1) = q := by rw [IntWalk.i64_in _ (by omega)]; omega
      have k2 : (0 : Int) < ((q + 1 : Nat) : Int) := by omega
      have k3 : (q : Int) < s.length := by omega
      clear hq
      go_wp2
      go_roundw
      case rel => exact ⟨q, by omega, rfl, hnx.out, by first | trivial | rfl⟩
      case measure => simp [intOf]
    · have hen := Lib.hid (show stripE s s.length = k by rw [← hst'.out]; exact hsk)
      have hfin1 := Lib.hid (show R = if (s.take k).all isLet = true then (if encL (eights (lbits (s.take k))) = s then some (eights (lbits (s.take k))) else none) else none by
        rw [← hR'.out]; unfold decR okR outR; rw [hen.out])
      have htest : (k = 0) ∨ (∃ q c, k = q + 1 ∧ q < s.length ∧ (∃ h, (⟨s.toArray⟩ : ByteArray)[q]'h = c) ∧ c ≠ 61) := by
        cases k with
        | zero => exact .inl rfl
        | succ q =>
          have hql : q < s.length := by omega
          refine .inr ⟨q, s[q], rfl, hql, ⟨by rw [size_mk]; omega, rfl⟩, fun e => ?_⟩
          rw [strip_succ, if_pos (by rw [List.getD_eq_getElem?_getD, List.getElem?_eq_getElem hql]; exact e)] at hsk
          have := strip_le s q
          omega
      obtain ⟨l, hld⟩ : ∃ l, lbits (s.take k) = l := ⟨_, rfl⟩
      have hll : l.length = 6 * k := by rw [← hld, lbits_len, List.length_take]; omega
      have hbit := Lib.hid (show ∀ x ∈ l, x < 2 from hld ▸ lbits_lt _)
      rw [hld] at hfin1
      have hld' := Lib.hid hld
      have hll' := Lib.hid hll
      clear hsk hen hld hll
      obtain ⟨w0, rfl⟩ : ∃ x, x = wr := ⟨wr, rfl⟩
      rcases htest with hk0 | ⟨q, c, hkq, hql, ⟨hh, hcd⟩, hcn⟩
      case' inl =>
        have z1 : ¬ (0 : Int) < k := by omega
        clear hk0
        go_upto_region 4 with (fail)
        clear z1
        rename_i hx _ _
        clear hx
      case' inr =>
        have z1 : (0 : Int) < k := by omega
        have z2 : IntKind.i64.wrap ((k : Int) - 1) = q := by rw [IntWalk.i64_in _ (by omega)]; omega
        have z3 : (q : Int) < s.length := by omega
        have z4 : ((c.toNat : Int) == 61) = false := by
          rw [beq_eq_false_iff_ne]; intro e; exact hcn (UInt8.toNat_inj.1 (by simp; omega))
        clear hkq
        go_upto_region 4 with (fail)
        clear z1 z2 z3 z4 hcd hcn hql
      all_goals
        go_wp2
        go_loopw [5, 6] (fun bv i W => ∃ j : Nat, j ≤ k ∧ i = .int .i64 j ∧ (∃ p cap, bv = .slice p (6 * j) cap) ∧ OwnV 3 w0.heap.size W bv (ncells (lbits (s.take j))) ∧ (s.take j).all isLet = true ∧ Gr w0 W) (fun _ i _ => k - (intOf i).toNat)
        case atStart => exact ⟨0, Nat.zero_le _, rfl, ⟨none, 0, rfl⟩, OwnV.nil _ _ _, rfl, Gr.refl _⟩
        case round =>
          obtain ⟨j, hj, rfl, ⟨p1, cap1, rfl⟩, ho1, hall, hg1⟩ := hrel
          have ho1' := Lib.hid ho1
          have hg1' := Lib.hid hg1
          have hall' := Lib.hid hall
          clear ho1 hg1 hall
          by_cases hlt : j < k
          · have hjl : j < s.length := by omega
            obtain ⟨c, hcd⟩ : ∃ c, (⟨s.toArray⟩ : ByteArray)[j]'(by rw [size_mk]; exact hjl) = c := ⟨_, rfl⟩
            have hc2 := Lib.hid (show s[j] = c from hcd)
            have hjI : (j : Int) < k := by omega
            have hjI2 : (j : Int) < s.length := by omega
            have hcall := Lib.hid (rnumber_any c)
            cases hlet : isLet c
            · have hneg : numB c < 0 := by simpa [isLet] using hlet
              have hR2 := Lib.hid (show R = none by
                rw [hfin1.out, if_neg]
                intro h
                have := List.all_eq_true.1 h c (by
                  rw [← hc2.out]
                  exact List.mem_take_iff_getElem.2 ⟨j, by omega, rfl⟩)
                rw [hlet] at this; cases this)
              obtain ⟨v, hv⟩ : ∃ v, numB c = v := ⟨_, rfl⟩
              rw [hv] at hneg hcall
              clear hv hlet
              go_wp2_with (go_at_call 31; refine (hcall.out _).mono ?_; rintro e wc ⟨rfl, rfl⟩)
              go_ret2
              exact ⟨by rw [hR2.out]; rfl, hg1'.out⟩
            · obtain ⟨n, hn64, hnc⟩ := let_of hlet
              have hnum : numB c = n := by rw [hnc]; exact num_letB hn64
              have hb6 := Lib.hid (show lbits (s.take (j + 1)) = lbits (s.take j) ++ bits6 n by rw [lbits_take s j hjl, hc2.out, hnum]; rfl)
              have hall2 := Lib.hid (show (s.take (j + 1)).all isLet = true by
                rw [List.take_succ_eq_append_getElem hjl, List.all_append, hall'.out, hc2.out]; simp [hlet])
              rw [hnum] at hcall
              obtain ⟨wx, rfl⟩ : ∃ x, x = wr := ⟨wr, rfl⟩
              clear hnum hnc hlet
              go_wp2_with (go_at_call 31; refine (hcall.out _).mono ?_; rintro e wc ⟨rfl, rfl⟩)
              go_loopw [5, 8] (fun bv i W => ∃ q r : Nat, q + r = 6 ∧ i = .int .i64 ((r : Int) - 1) ∧ (∃ p cap, bv = .slice p (6 * j + q) cap) ∧ OwnV 3 w0.heap.size W bv (ncells (lbits (s.take j) ++ (bits6 n).take q)) ∧ Gr w0 W) (fun _ i _ => (intOf i + 1).toNat)
              case atStart => exact ⟨0, 6, rfl, rfl, ⟨_, _, rfl⟩, by simpa using ho1'.out, hg1'.out⟩
              case round =>
                obtain ⟨q, r, hqr, rfl, ⟨p2, cap2, rfl⟩, ho2, hg2⟩ := hrel
                have ho2' := Lib.hid ho2
                have hg2' := Lib.hid hg2
                have hsz2 := Lib.hid hg2.size
                clear ho2 hg2
                cases r with
                | zero =>
                  obtain rfl : q = 6 := by omega
                  have hnx := Lib.hid (show lbits (s.take (j + 1)) = lbits (s.take j) ++ (bits6 n).take 6 by rw [hb6.out]; rfl)
                  go_wp2
                  go_roundw
                  case rel => exact ⟨j + 1, by omega, by go_num, ⟨p2, cap2, by rw [show 6 * (j + 1) = 6 * j + 6 by omega]⟩, hnx.out ▸ ho2'.out, hall2.out, hg2'.out⟩
                  case measure => simp [intOf]; omega
                | succ r =>
                  have hr7 : r = 5 - q := by omega
                  have hq6 : q < 6 := by omega
                  have hrI : (r : Int) < 6 := by omega
                  obtain ⟨v, hv⟩ : ∃ v, n / 2 ^ r % 2 = v := ⟨_, rfl⟩
                  have hvI : ((n : Int) / 2 ^ r).tmod 2 = (v : Int) := by
                    rw [← hv, Int.natCast_emod, Int.natCast_ediv, Int.tmod_eq_emod_of_nonneg (Int.ediv_nonneg (by omega) (by exact_mod_cast Nat.zero_le _))]
                    simp
                  have hnx := Lib.hid (show (bits6 n).take (q + 1) = (bits6 n).take q ++ [v] by rw [bits6_take n q hq6, ← hr7, hv])
                  obtain ⟨A, hA⟩ : ∃ A, 6 * j + q = A := ⟨_, rfl⟩
                  have hA2 := Lib.hid (show 6 * j + (q + 1) = A + 1 by omega)
                  rw [hA]
                  have hAb : A + 1 ≤ 1000000 := by omega
                  have hAl : (ncells (lbits (s.take j) ++ (bits6 n).take q)).length + 1 = A + 1 := by
                    rw [ncells_len, List.length_append, lbits_len, List.length_take, List.length_take]
                    have : (bits6 n).length = 6 := rfl
                    omega
                  rw [hA] at ho2'
                  clear hA hv hr7
                  go_wp2_with (at_builtin; (refine wp_app1 (by rfl) _ _ 59 3 _ (.int .i64 0) (.int .i64 v) 8 Tryz.underlying59 infoInt rfl rfl w0.heap.size _ (ncells (lbits (s.take j) ++ (bits6 n).take q)) rfl ho2'.out rfl rfl (A + 1) hAl hAb (by decide) hsz2.out ?_); intro p3 cap3 w3 hown3 hb3)
                  have hown4 := Lib.hid (show OwnV 3 w0.heap.size w3 (.slice p3 (A + 1) cap3) (ncells (lbits (s.take j) ++ (bits6 n).take (q + 1))) from by
                    rw [ncells_snoc, List.append_assoc] at hown3
                    rw [hnx.out]; exact hown3)
                  have hg4 := Lib.hid (Below.trans hg2'.out hb3)
                  clear hown3 hb3
                  go_wp2
                  go_roundw
                  case rel => exact ⟨q + 1, r, by omega, rfl, ⟨p3, cap3, by rw [hA2.out]⟩, hown4.out, hg4.out⟩
                  case measure => simp [intOf]
          · obtain rfl : j = k := by omega
            rw [hld'.out] at ho1'
            have hfin2 := Lib.hid (show R = if encL (eights l) = s then some (eights l) else none by rw [hfin1.out, if_pos hall'.out])
            have hltN : ¬ (j : Int) < j := by omega
            obtain ⟨N, hN⟩ : ∃ N, 6 * j = N := ⟨_, rfl⟩
            rw [hN] at hll' ho1' ⊢
            have hNb : N ≤ 60000 := by omega
            obtain ⟨wy, rfl⟩ : ∃ x, x = wr := ⟨wr, rfl⟩
            clear hN
            go_wp2
            go_loopw [9, 10] (fun bv i W => ∃ m : Nat, 8 * m ≤ N ∧ i = .int .i64 ((8 * m : Nat) : Int) ∧ (∃ p cap, bv = .slice p m cap) ∧ OwnV 5 wy.heap.size W bv (bcells ((eights l).take m)) ∧ Gr wy W) (fun _ i _ => N - (intOf i).toNat)
            case atStart => exact ⟨0, Nat.zero_le _, rfl, ⟨none, 0, rfl⟩, OwnV.nil _ _ _, Gr.refl _⟩
            case round =>
              obtain ⟨m, hm, rfl, ⟨p4, cap4, rfl⟩, ho4, hg4⟩ := hrel
              have ho4' := Lib.hid ho4
              have hg4' := Lib.hid hg4
              have hsz4 := Lib.hid hg4.size
              clear ho4
              obtain ⟨A, hA⟩ : ∃ A, 8 * m = A := ⟨_, rfl⟩
              have hw8 : IntKind.i64.wrap ((A : Int) + 8) = ((A + 8 : Nat) : Int) := by rw [IntWalk.i64_in _ (by omega)]; omega
              by_cases hlt2 : A + 8 ≤ N
              · have hAI : ((A + 8 : Nat) : Int) ≤ N := by omega
                obtain ⟨g3, capz, hve, hg3b, hg3l, hcw, _⟩ := ho1'.out.row (by rw [ncells_len, hll'.out]; omega)
                injection hve with hp5 hx1 hx2
                subst hp5
                subst hx2
                clear hx1
                have hcl := Lib.hid (fun i (hi : i < N) => hg4.cell (hcw i _ (ncells_at l i (by rw [hll'.out]; exact hi))))
                rw [hA]
                have hA' := Lib.hid hA
                obtain ⟨wz, rfl⟩ : ∃ x, x = wr := ⟨wr, rfl⟩
                clear hcw hg4 hA
                go_wp2
                go_loopw [11, 12] (fun n i W => ∃ q : Nat, q ≤ 8 ∧ n = .int .i64 (numK (l.drop A) q) ∧ i = .int .i64 q ∧ W = wz) (fun _ i _ => 8 - (intOf i).toNat)
                case atStart => exact ⟨0, by omega, rfl, rfl, rfl⟩
                case round =>
                  obtain ⟨q, hq6, rfl, rfl, rfl⟩ := hrel
                  have hnl := numK_lt (l.drop A) (fun x hx => hbit.out x (List.mem_of_mem_drop hx)) q
                  by_cases hqq : q < 8
                  · have hqI : (q : Int) < 8 := by omega
                    have d0 := hcl.out (A + q) (by omega)
                    have hx2 : l.getD (A + q) 0 < 2 := by
                      rw [List.getD_eq_getElem?_getD]
                      cases e : l[A + q]? with
                      | none => simp
                      | some x => simp; exact hbit.out x (List.mem_of_getElem? e)
                    have hnx := Lib.hid (show numK (l.drop A) (q + 1) = 2 * numK (l.drop A) q + l.getD (A + q) 0 by
                      show 2 * numK (l.drop A) q + (l.drop A).getD q 0 = _
                      simp only [List.getD_eq_getElem?_getD, List.getElem?_drop])
                    obtain ⟨n, hn⟩ : ∃ n, numK (l.drop A) q = n := ⟨_, rfl⟩
                    obtain ⟨x, hx⟩ : ∃ x, l.getD (A + q) 0 = x := ⟨_, rfl⟩
                    rw [hx] at d0 hx2 hnx
                    rw [hn] at hnl hnx ⊢
                    have hn64 : n < 256 := Nat.lt_of_lt_of_le hnl (Nat.pow_le_pow_right (by decide) (by omega : q ≤ 8))
                    have k1 : IntKind.i64.wrap (2 * (n : Int)) = 2 * (n : Int) := IntWalk.i64_in _ (by omega)
                    have k2 : IntKind.i64.wrap (2 * (n : Int) + x) = ((2 * n + x : Nat) : Int) := by rw [IntWalk.i64_in _ (by omega)]; omega
                    have k3 : IntKind.i64.wrap ((A : Int) + q) = ((A + q : Nat) : Int) := by rw [IntWalk.i64_in _ (by omega)]; omega
                    obtain ⟨kk, hkk⟩ : ∃ kk, A + q = kk := ⟨_, rfl⟩
                    rw [hkk] at k3 d0
                    have hkI : (kk : Int) < N := by omega
                    obtain ⟨y, hy⟩ : ∃ y, 2 * n + x = y := ⟨_, rfl⟩
                    rw [hy] at k2 hnx
                    clear hn hx hkk hy hnl hw8
                    go_wp2
                    go_roundw
                    case rel => exact ⟨q + 1, by omega, by rw [hnx.out], by go_num, by first | trivial | rfl⟩
                    case measure => simp [intOf]; omega
                  · obtain rfl : q = 8 := by omega
                    obtain ⟨n, hn⟩ : ∃ n, numK (l.drop A) 8 = n := ⟨_, rfl⟩
                    rw [hn] at hnl ⊢
                    have hn64 : n < 256 := hnl
                    have hnx := Lib.hid (show (eights l).take (m + 1) = (eights l).take m ++ [UInt8.ofNat n] by
                      rw [eights_take l m (by rw [hll'.out, hA'.out]; exact hlt2), hA'.out, hn])
                    have hk1 : m + 1 ≤ 1000000 := by have := hA'.out; omega
                    have hkl : (bcells ((eights l).take m)).length + 1 = m + 1 := by
                      rw [bcells_len, List.length_take, eights_len, hll'.out]; have := hA'.out; omega
                    obtain ⟨d, hd⟩ : ∃ d, UInt8.ofNat n = d := ⟨_, rfl⟩
                    rw [hd] at hnx
                    have hA8 := Lib.hid (show 8 * (m + 1) = A + 8 by have := hA'.out; omega)
                    have hnd : (n : Int) = (d.toNat : Int) := by rw [← hd, UInt8.toNat_ofNat']; omega
                    rw [hnd]
                    have hu : IntKind.u8.wrap (d.toNat : Int) = (d.toNat : Int) := by rw [Go.IntKind.wrap_u8]; have := d.toNat_lt; omega
                    have hu2 : (d.toNat : Int) % 256 = (d.toNat : Int) := by have := d.toNat_lt; omega
                    clear hn hd hnl hnd
                    go_wp2_with (at_builtin; go_loud (refine wp_app1 (by rfl) _ _ 47 5 _ (.int .u8 0) (.int .u8 d.toNat) 1 Tryz.underlying47 infoU8 rfl rfl wy.heap.size _ (bcells ((eights l).take m)) rfl ho4'.out rfl rfl (m + 1) hkl hk1 (by decide) hsz4.out ?_); intro p6 cap6 w6 hown6 hb6)
                    have hown7 := Lib.hid (show OwnV 5 wy.heap.size w6 (.slice p6 (m + 1) cap6) (bcells ((eights l).take (m + 1))) from by
                      rw [bcells_snoc'] at hown6; rw [hnx.out]; exact hown6)
                    have hg7 := Lib.hid (Below.trans hg4'.out hb6)
                    clear hown6 hb6
                    go_wp2
                    go_roundw
                    case rel => exact ⟨m + 1, by rw [hA8.out]; exact hlt2, by rw [hA8.out]; rfl, ⟨p6, cap6, rfl⟩, hown7.out, hg7.out⟩
                    case measure => simp [intOf]; omega
              · have hAI : ¬ ((A + 8 : Nat) : Int) ≤ N := by omega
                have hall3 := Lib.hid (show (eights l).take m = eights l from List.take_of_length_le (by rw [eights_len, hll'.out]; omega))
                rw [hall3.out] at ho4'
                have hol : (eights l).length ≤ 7500 := by rw [eights_len, hll'.out]; omega
                obtain ⟨o, hoo⟩ : ∃ o, eights l = o := ⟨_, rfl⟩
                rw [hoo] at ho4' hfin2 hol
                have hcv := conv_own ho4'.out
                have henc := Lib.hid (fun W => rencode_any o (by omega) W)
                obtain ⟨E, hE⟩ : ∃ E, encL o = E := ⟨_, rfl⟩
                rw [hE] at henc hfin2
                have hgz := Lib.hid (hg1'.out.trans hg4'.out)
                rw [hA]
                obtain ⟨wz, rfl⟩ : ∃ x, x = wr := ⟨wr, rfl⟩
                clear hall3 hoo hE hg4 hA
                go_wp2_with fail
                refine (henc.out _).mono ?_
                rintro e wc ⟨rfl, hgc⟩
                have hcv2 := conv_own (ho4'.out.gr hgc)
                have hgf := Lib.hid (hgz.out.trans hgc)
                clear hgc
                by_cases he : E = s
                · have hR3 := Lib.hid (show R = some o by rw [hfin2.out, if_pos he])
                  have hne : (E == s) = true := by rw [he]; simp
                  clear he
                  go_wp2
                  go_ret2
                  exact ⟨by rw [hR3.out]; rfl, hgf.out⟩
                · have hR3 := Lib.hid (show R = none by rw [hfin2.out, if_neg he])
                  have hne : (E == s) = false := by simpa using he
                  clear he
                  go_wp2
                  go_ret2
                  exact ⟨by rw [hR3.out]; rfl, hgf.out⟩
end Go.Proofs.YtheihlalgekojaaGreatDoor
