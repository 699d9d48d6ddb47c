/-
  Plain laws of replies: what has bytes is read as it was; what is read has bytes; no program in sight.
-/
import Derived.Test.YtfcokldbpjkjpaaGreatDoorP31
import Derived.Test.YtfcokldbpjkjpaaGreatDoorP3
import Derived.Test.YtfcokldbpjkjpaaGreatDoorP8
import Derived.Lib.ItoaMem
namespace Go.Proofs.YtfcokldbpjkjpaaGreatDoor
theorem tok_no13 {l : List UInt8} (h : tokB l = true) : ∀ c ∈ l, c ≠ 13 := fun c hc e => by
  subst e
  unfold tokB at h
  rw [Bool.and_eq_true] at h
  exact absurd (List.all_eq_true.1 h.2 _ hc) (by decide)
theorem val_no13 {l : List UInt8} (h : l.all isVal = true) : ∀ c ∈ l, c ≠ 13 := fun c hc e => by
  subst e
  exact absurd (List.all_eq_true.1 h _ hc) (by decide)
theorem tok_ne {l : List UInt8} (h : tokB l = true) : l ≠ [] := by
  rintro rfl; cases h
theorem parse_self {n v : List UInt8} (h : parseB (n ++ [58] ++ v) = (n, v, true)) : tokB n = true ∧ v.all isVal = true ∧ trimB v = v := by
  rcases parse_cases (n ++ [58] ++ v) with e | ⟨m, x, _, h2, h3, h4⟩
  · rw [e] at h; simp at h
  · rw [h4] at h
    simp only [Prod.mk.injEq, and_true] at h
    obtain ⟨rfl, rfl⟩ := h
    exact ⟨h2, trim_all h3, trim_idem x⟩
theorem parse_blank {n v : List UInt8} (hn : tokB n = true) (hv : v.all isVal = true) (ht : trimB v = v) : parseB (n ++ [58, 32] ++ v) = (n, v, true) := by
  have e : n ++ [58, 32] ++ v = n ++ [58] ++ ([32] ++ v) := by simp
  have h1 : ([32] ++ v).all isVal = true := by rw [List.all_append, hv]; rfl
  have h2 : trimB ([32] ++ v) = v := by
    have := trim_pads (p := [32]) (q := []) (l := v) (by decide) rfl
    rw [List.append_nil] at this
    rw [this, ht]
  rw [e, parse_colon hn, if_pos h1, h2]
theorem parse_none58 {n v : List UInt8} (hn : tokB n = true) (hv : v.all isVal = true) (ht : trimB v = v) : parseB (n ++ [58] ++ v) = (n, v, true) := by
  rw [parse_colon hn, if_pos hv, ht]
theorem line_fine {n v : List UInt8} (hn : tokB n = true) (hv : v.all isVal = true) : LineOk (n ++ [58, 32] ++ v) := by
  refine ⟨by have := tok_ne hn; simp, fun c hc => ?_⟩
  rw [List.mem_append, List.mem_append] at hc
  rcases hc with (hc | hc) | hc
  · exact tok_no13 hn c hc
  · intro e; subst e; simp at hc
  · exact val_no13 hv c hc
theorem field_line {c : Int} {f : List UInt8 × List UInt8} (h : fieldOk c f = true) : LineOk (f.1 ++ [58, 32] ++ f.2) ∧ ∀ st : HdSt, stepH c st (f.1 ++ [58, 32] ++ f.2) = some (st.1 ++ [f], st.2.1, st.2.2) := by
  unfold fieldOk at h
  simp only [Bool.and_eq_true, decide_eq_true_eq, Bool.not_eq_true', Bool.or_eq_false_iff] at h
  obtain ⟨h1, h2, h3, h4⟩ := h
  obtain ⟨hn, hv, ht⟩ := parse_self h1
  refine ⟨line_fine hn hv, fun st => ?_⟩
  unfold stepH
  rw [parse_blank hn hv ht]
  simp only [h2, h3, h4]
  simp
theorem fold_fields {c : Int} : ∀ (fs : List (List UInt8 × List UInt8)) (st : HdSt), fs.all (fieldOk c) = true → foldH c st (fs.map fun f => f.1 ++ [58, 32] ++ f.2) = some (st.1 ++ fs, st.2.1, st.2.2)
  | [], st, _ => by simp [foldH]
  | f :: t, st, h => by
    rw [List.all_cons, Bool.and_eq_true] at h
    rw [List.map_cons]
    unfold foldH
    rw [(field_line h.1).2 st]
    show foldH c (st.1 ++ [f], st.2.1, st.2.2) _ = _
    rw [fold_fields t _ h.2]
    simp
theorem digs_val {l : List UInt8} (h : l.all digB = true) : l.all isVal = true := by
  rw [List.all_eq_true] at h ⊢
  intro c hc
  have := h c hc
  revert this
  exact u8_all (p := fun c => digB c = true → isVal c = true) (by decide +kernel) c
theorem dig_noblank {c : UInt8} : digB c = true → isBlank c = false := u8_all (p := fun c => digB c = true → isBlank c = false) (by decide +kernel) c

theorem dec_app : ∀ (a b : List UInt8) (acc : Nat), Lib.decFrom acc (a ++ b) = (Lib.decFrom acc a).bind fun n => Lib.decFrom n b
  | [], b, acc => rfl
  | c :: t, b, acc => by
    simp only [List.cons_append, Lib.decFrom]
    cases Lib.digitVal c with
    | none => rfl
    | some d => exact dec_app t b _
theorem dig_val32 {c : UInt8} (h : digB c = true) : Lib.digitVal c = some (c.toNat - 48) := by
  rw [dig_eq, decide_eq_true_eq] at h
  unfold Lib.digitVal
  rw [if_pos (by omega)]
theorem digit_of {d : Nat} (h : d < 10) : digB (UInt8.ofNat (48 + d)) = true ∧ Lib.digitVal (UInt8.ofNat (48 + d)) = some d := by
  have e : (UInt8.ofNat (48 + d)).toNat = 48 + d := by rw [UInt8.toNat_ofNat']; omega
  have h1 : digB (UInt8.ofNat (48 + d)) = true := by rw [dig_eq, e]; exact decide_eq_true (by omega)
  exact ⟨h1, by rw [dig_val32 h1, e]; congr 1; omega⟩
theorem decDigits_all : ∀ (k n : Nat), n ≤ k → (Lib.decDigits n).all digB = true ∧ Lib.decFrom 0 (Lib.decDigits n) = some n ∧ Lib.decDigits n ≠ []
  | 0, n, h => by
    obtain rfl : n = 0 := by omega
    rw [Lib.decDigits_one (by omega)]
    exact ⟨by decide, by decide, by simp⟩
  | k + 1, n, h => by
    by_cases h10 : n < 10
    · rw [Lib.decDigits_one h10]
      obtain ⟨h1, h2⟩ := digit_of h10
      refine ⟨by rw [List.all_cons, h1]; rfl, ?_, by simp⟩
      unfold Lib.decFrom
      rw [h2]
      show Lib.decFrom (0 * 10 + n) [] = _
      simp [Lib.decFrom]
    · obtain ⟨i1, i2, i3⟩ := decDigits_all k (n / 10) (by omega)
      rw [Lib.decDigits, dif_neg h10]
      obtain ⟨h1, h2⟩ := digit_of (Nat.mod_lt n (by omega : 0 < 10))
      refine ⟨by rw [List.all_append, i1, List.all_cons, h1]; rfl, ?_, by simp⟩
      rw [dec_app, i2]
      show Lib.decFrom (n / 10) _ = _
      unfold Lib.decFrom
      rw [h2]
      show Lib.decFrom (n / 10 * 10 + n % 10) [] = _
      unfold Lib.decFrom
      congr 1; omega
theorem decDigits_short : ∀ (j n : Nat), n < 10 ^ (j + 1) → (Lib.decDigits n).length ≤ j + 1
  | 0, n, h => by rw [Lib.decDigits_one (by simpa using h)]; simp
  | j + 1, n, h => by
    by_cases h10 : n < 10
    · rw [Lib.decDigits_one h10]; simp
    · rw [Lib.decDigits, dif_neg h10, List.length_append]
      have := decDigits_short j (n / 10) (by rw [Nat.div_lt_iff_lt_mul (by omega)]; rw [Nat.pow_succ] at h; exact h)
      simp; omega
theorem itoa_size {n : Nat} (h : n < 1000000) : (Lib.itoa (n : Int)).all digB = true ∧ Lib.itoa (n : Int) ≠ [] ∧ sizeN (Lib.itoa (n : Int)) = some n := by
  rw [Lib.itoa_nonneg]
  obtain ⟨h1, h2, h3⟩ := decDigits_all n n (Nat.le_refl _)
  have h4 := decDigits_short 5 n (by simpa using h)
  refine ⟨h1, h3, ?_⟩
  unfold sizeN Lib.decNat
  have he : (Lib.decDigits n).isEmpty = false := by simpa using h3
  rw [he, h1, decide_eq_true (by omega)]
  exact h2
theorem trim_digs {l : List UInt8} (h : l.all digB = true) : trimB l = l := by
  have hd : ∀ x ∈ l, isBlank x = false := fun x hx => dig_noblank (List.all_eq_true.1 h x hx)
  have h1 : ∀ m : List UInt8, (∀ x ∈ m, isBlank x = false) → m.dropWhile isBlank = m := fun m hm => by
    cases m with
    | nil => rfl
    | cons y t => rw [List.dropWhile_cons, hm y (by simp)]; rfl
  rw [trimB_eq]
  unfold ldrop rdrop
  rw [h1 l.reverse (fun x hx => hd x (by simpa using hx)), List.reverse_reverse, h1 _ hd]
theorem reason_val (c : Int) : (reasonL c).all isVal = true := by
  unfold reasonL
  repeat' split
  all_goals decide
theorem code_line {n : Nat} (h1 : 100 ≤ n) (h2 : n ≤ 599) : LineOk (aheadL ++ Lib.itoa (n : Int) ++ [32] ++ reasonL n) ∧ statB (aheadL ++ Lib.itoa (n : Int) ++ [32] ++ reasonL n) = (n, reasonL n, true) := by
  refine ⟨⟨by simp [aheadL], val_no13 ?_⟩, ?_⟩
  · rw [List.all_append, List.all_append, List.all_append, reason_val, digs_val (itoa_size (by omega)).1]; decide
  · rw [statB_back h1 (by omega), reason_val, decide_eq_true h2]; rfl
theorem size_line {c : Int} {n : Nat} (h : n < 1000000) (fs : List (List UInt8 × List UInt8)) (cl : Bool) : LineOk (kLen ++ [58, 32] ++ Lib.itoa (n : Int)) ∧ stepH c (fs, cl, none) (kLen ++ [58, 32] ++ Lib.itoa (n : Int)) = some (fs, cl, some n) := by
  obtain ⟨h1, _, h3⟩ := itoa_size h
  refine ⟨line_fine (by decide) (digs_val h1), ?_⟩
  unfold stepH
  rw [parse_blank (n := kLen) (by decide) (digs_val h1) (trim_digs h1)]
  have e1 : alikeB kLen kCod = false := by decide
  have e2 : alikeB kLen kLen = true := by decide
  simp only [e1, e2, h3]
  rfl
theorem hold_line {c : Int} (h : (c != 101) = true) (fs : List (List UInt8 × List UInt8)) (o : Option Nat) : LineOk (kHold ++ [58, 32] ++ kEnds) ∧ stepH c (fs, false, o) (kHold ++ [58, 32] ++ kEnds) = some (fs, true, o) := by
  refine ⟨line_fine (by decide) (by decide), ?_⟩
  unfold stepH
  rw [parse_blank (n := kHold) (v := kEnds) (by decide) (by decide) (by decide)]
  have e1 : alikeB kHold kCod = false := by decide
  have e2 : alikeB kHold kLen = false := by decide
  have e3 : alikeB kHold kHold = true := by decide
  simp only [e1, e2, e3, h]
  simp
theorem rightR_open {r : Rp} (h : rightR r = true) : ∃ n : Nat, r.code = n ∧ 100 ≤ n ∧ n ≤ 599 ∧ (bareB r.code = true → r.b = []) ∧ r.b.length ≤ 65536 ∧ r.fs.all (fieldOk r.code) = true := by
  unfold rightR at h
  simp only [Bool.and_eq_true, decide_eq_true_eq, Bool.not_eq_true', Bool.and_eq_false_iff, Bool.not_eq_false'] at h
  obtain ⟨h1, h2, h3, h4, h5⟩ := h
  refine ⟨r.code.toNat, by omega, by omega, by omega, fun hb => ?_, h4, h5⟩
  rcases h3 with h3 | h3
  · rw [hb] at h3; cases h3
  · simpa using h3
theorem lines_law {r : Rp} {close : Bool} (h : rightR r = true) (hc : (close && r.code == 101) = false) :
    (∀ l ∈ linesR r close, LineOk l) ∧ linesR r close ≠ [] ∧ ∃ n : Nat, r.code = n ∧ partsR (linesR r close) = some (n, r.fs, close, if bareB r.code then none else some r.b.length) := by
  obtain ⟨n, hn, h1, h2, h3, h4, h5⟩ := rightR_open h
  obtain ⟨k1, k2⟩ := code_line h1 h2
  have hz := fun fs cl => @size_line r.code r.b.length (by omega) fs cl
  have hfs : foldH r.code ([], false, none) (r.fs.map fun f => f.1 ++ [58, 32] ++ f.2) = some (r.fs, false, none) := by
    have := fold_fields r.fs ([], false, none) h5
    simpa using this
  have hcl : close = true → (r.code != 101) = true := fun e => by
    subst e
    rw [bne, Bool.not_eq_true']
    simpa using hc
  refine ⟨?_, by simp [linesR], n, hn, ?_⟩
  · intro l hl
    unfold linesR at hl
    simp only [List.mem_append] at hl
    rcases hl with ((hl | hl) | hl) | hl
    · rw [List.mem_singleton] at hl; subst hl; rw [hn]; exact k1
    · obtain ⟨f, hf, rfl⟩ := List.mem_map.1 hl
      exact (field_line (List.all_eq_true.1 h5 f hf)).1
    · split at hl
      · cases hl
      · rw [List.mem_singleton] at hl; subst hl; exact (hz [] false).1
    · split at hl
      · rename_i e
        rw [List.mem_singleton] at hl; subst hl; exact (hold_line (hcl e) [] none).1
      · cases hl
  · have hl : linesR r close = (aheadL ++ Lib.itoa (n : Int) ++ [32] ++ reasonL n) :: ((r.fs.map fun f => f.1 ++ [58, 32] ++ f.2) ++ ((if bareB r.code then [] else [kLen ++ [58, 32] ++ Lib.itoa r.b.length]) ++ (if close then [kHold ++ [58, 32] ++ kEnds] else []))) := by
      unfold linesR; rw [hn]; simp
    rw [hl]
    unfold partsR
    rw [List.headD_cons, k2]
    dsimp only [List.tail_cons]
    rw [← hn, foldH_app, hfs]
    show ((foldH r.code (r.fs, false, none) _).bind _) = _
    rw [foldH_app]
    have e1 : foldH r.code (r.fs, false, none) (if bareB r.code then [] else [kLen ++ [58, 32] ++ Lib.itoa r.b.length]) = some (r.fs, false, if bareB r.code then none else some r.b.length) := by
      cases bareB r.code
      · show foldH r.code (r.fs, false, none) [_] = _
        unfold foldH
        rw [(hz _ _).2]; rfl
      · rfl
    rw [e1]
    show ((foldH r.code (r.fs, false, if bareB r.code then none else some r.b.length) (if close then [kHold ++ [58, 32] ++ kEnds] else [])).bind _) = _
    have e2 : ∀ o, foldH r.code (r.fs, false, o) (if close then [kHold ++ [58, 32] ++ kEnds] else []) = some (r.fs, close, o) := fun o => by
      cases close
      · rfl
      · show foldH r.code (r.fs, false, o) [_] = _
        unfold foldH
        rw [(hold_line (hcl rfl) _ _).2]; rfl
    rw [e2]
    cases hb : bareB r.code <;> simp
theorem head_join (r : Rp) (close : Bool) : headR r close = joinE (linesR r close) ++ eol2 := by
  unfold headR
  rw [flat_join _ (by simp [linesR]), List.append_assoc]; rfl
/-- What has bytes is read as it was, whatever stands behind. -/
theorem read_back {r : Rp} {head close : Bool} (h : rightR r = true) (hc : (close && r.code == 101) = false) (behind : List UInt8) :
    readR (headR r close ++ (if head then [] else r.b) ++ behind) head = .good ⟨r.code, r.fs, if head then [] else r.b⟩ close (headR r close ++ (if head then [] else r.b)).length := by
  obtain ⟨h1, h2, n, hn, h3⟩ := lines_law h hc
  obtain ⟨_, _, _, _, hbare, _, _⟩ := rightR_open h
  have e : headR r close ++ (if head then [] else r.b) ++ behind = joinE (linesR r close) ++ (eol2 ++ ((if head then [] else r.b) ++ behind)) := by
    rw [head_join]; simp
  have hi : Lib.index (headR r close ++ (if head then [] else r.b) ++ behind) eol2 = (joinE (linesR r close)).length := by
    rw [e]; exact index_join _ _ h2 h1
  unfold readR
  rw [hi, if_neg (by omega), Int.toNat_natCast]
  have ht : (headR r close ++ (if head then [] else r.b) ++ behind).take (joinE (linesR r close)).length = joinE (linesR r close) := by
    rw [e, List.take_left']; rfl
  rw [ht, split_join _ h2 h1, h3]
  dsimp only
  have hlen : (headR r close).length = (joinE (linesR r close)).length + 4 := by rw [head_join, List.length_append]; rfl
  have hd : (headR r close ++ (if head then [] else r.b) ++ behind).drop ((joinE (linesR r close)).length + 4) = (if head then [] else r.b) ++ behind := by
    rw [← hlen, List.append_assoc, List.drop_left']; rfl
  have hk : (if head then 0 else (if bareB r.code then none else some r.b.length : Option Nat).getD 0) = (if head then [] else r.b).length := by
    cases head
    · cases hb : bareB r.code
      · rfl
      · rw [hbare hb]; rfl
    · rfl
  rw [hk, hd, if_neg (by rw [List.length_append, List.length_append, hlen]; omega), List.take_left', ← hn, List.length_append, hlen]
  rfl
theorem occ_take {s sep : List UInt8} {k i : Nat} (h : Lib.occAt (s.take k) sep i = true) (h0 : sep ≠ []) : Lib.occAt s sep i = true ∧ i + sep.length ≤ k := by
  unfold Lib.occAt at h ⊢
  rw [List.isPrefixOf_iff_prefix] at h ⊢
  rw [List.drop_take] at h
  refine ⟨h.trans (List.take_prefix _ _), ?_⟩
  have h1 := h.length_le
  rw [List.length_take] at h1
  have : 0 < sep.length := List.length_pos_iff.2 h0
  omega
theorem occ_into {s sep : List UInt8} {k i : Nat} (h : Lib.occAt s sep i = true) (hk : i + sep.length ≤ k) : Lib.occAt (s.take k) sep i = true := by
  unfold Lib.occAt at h ⊢
  rw [List.isPrefixOf_iff_prefix] at h ⊢
  obtain ⟨t, ht⟩ := h
  rw [List.drop_take, ← ht]
  refine ⟨t.take (k - i - sep.length), ?_⟩
  rw [List.take_append, List.take_of_length_le (l := sep) (by omega)]
theorem index_cut {s : List UInt8} {k at4 : Nat} (h : Lib.index s eol2 = at4) : Lib.index (s.take k) eol2 = -1 ∨ (at4 + 4 ≤ k ∧ Lib.index (s.take k) eol2 = at4) := by
  rcases Lib.index_spec (s.take k) eol2 with ⟨h1, _⟩ | ⟨i, h1, hi, ho, hno⟩
  · exact .inl h1
  · right
    obtain ⟨o1, o2⟩ := occ_take ho (by decide)
    have o2 : i + 4 ≤ k := o2
    rcases Lib.index_spec s eol2 with ⟨h2, hno2⟩ | ⟨j, h2, hj, ho2, hno2⟩
    · rw [h2] at h; omega
    · rw [h2] at h
      obtain rfl : j = at4 := by omega
      have hji : j ≤ i := by
        rcases Nat.lt_or_ge i j with hlt | hge
        · rw [hno2 i hlt] at o1; cases o1
        · exact hge
      have hij : i ≤ j := by
        rcases Nat.lt_or_ge j i with hlt | hge
        · have := hno j hlt
          rw [occ_into ho2 (show j + 4 ≤ k by omega)] at this; cases this
        · exact hge
      obtain rfl : i = j := by omega
      exact ⟨o2, h1⟩
/-- Every beginning is too short. -/
theorem read_cut {r : Rp} {head close : Bool} (h : rightR r = true) (hc : (close && r.code == 101) = false) {k : Nat} (hk : k < (headR r close ++ (if head then [] else r.b)).length) :
    readR ((headR r close ++ (if head then [] else r.b)).take k) head = .bad 7 ∨ (65536 ≤ k ∧ readR ((headR r close ++ (if head then [] else r.b)).take k) head = .bad 8) := by
  have hb := read_back (head := head) h hc []
  rw [List.append_nil] at hb
  obtain ⟨s, hs⟩ : ∃ s, headR r close ++ (if head then [] else r.b) = s := ⟨_, rfl⟩
  rw [hs] at hb hk ⊢
  have hl : (s.take k).length = k := by rw [List.length_take]; omega
  unfold readR at hb ⊢
  split at hb
  · split at hb <;> cases hb
  · rename_i hi
    obtain ⟨at4, ha⟩ : ∃ a : Nat, Lib.index s eol2 = a := by
      rcases Lib.index_spec s eol2 with ⟨h2, _⟩ | ⟨j, h2, _⟩
      · exact absurd h2 hi
      · exact ⟨j, h2⟩
    rcases index_cut (k := k) ha with e | ⟨h4, e⟩
    · rw [e, if_pos rfl, hl]
      by_cases h6 : k < 65536
      · left; rw [if_pos h6]
      · right; rw [if_neg h6]; exact ⟨by omega, rfl⟩
    · left
      rw [ha, Int.toNat_natCast] at hb
      rw [e, if_neg (by omega), Int.toNat_natCast, List.take_take, show min at4 k = at4 by omega]
      cases hp : partsR (splitE (s.take at4)) with
      | none => rw [hp] at hb; cases hb
      | some x =>
        obtain ⟨c, fs, cl, n⟩ := x
        rw [hp] at hb
        dsimp only at hb ⊢
        obtain ⟨K, hK⟩ : ∃ K, (if head = true then 0 else n.getD 0) = K := ⟨_, rfl⟩
        rw [hK] at hb ⊢
        split at hb
        · cases hb
        · rename_i hlt
          simp only [Rd10.good.injEq] at hb
          rw [if_pos (by rw [hl]; omega)]
theorem step_keeps {c : Int} {st st' : HdSt} {l : List UInt8} (h : stepH c st l = some st') (h1 : st.1.all (fieldOk c) = true) (h2 : (st.2.1 && c == 101) = false) : st'.1.all (fieldOk c) = true ∧ (st'.2.1 && c == 101) = false := by
  unfold stepH at h
  split at h
  · cases h
  · rename_i g1
    rw [Bool.not_eq_true] at g1
    simp only [Bool.or_eq_false_iff, Bool.not_eq_false'] at g1
    split at h
    · split at h
      · cases hz : sizeN (parseB l).2.1 with
        | none => rw [hz] at h; cases h
        | some m => rw [hz] at h; cases h; exact ⟨h1, h2⟩
      · cases h
    · rename_i g2
      split at h
      · rename_i g3
        split at h
        · cases h
          refine ⟨h1, ?_⟩
          simp only [Bool.and_eq_true, bne_iff_ne] at g3
          rw [show (c == 101) = false from beq_eq_false_iff_ne.2 g3.1]; rfl
        · cases h
      · rename_i g3
        cases h
        refine ⟨?_, h2⟩
        rw [List.all_append, h1, List.all_cons, List.all_nil, Bool.true_and, Bool.and_true]
        unfold fieldOk
        rcases parse_cases l with e | ⟨n, x, _, p2, p3, p4⟩
        · rw [e] at g1; cases g1.1
        · rw [p4] at g1 g2 g3 ⊢
          dsimp only at g1 g2 g3 ⊢
          rw [parse_none58 p2 (trim_all p3) (trim_idem x)]
          rw [Bool.not_eq_true] at g2 g3
          rw [g1.2, g2, g3]
          simp
theorem fold_keeps {c : Int} : ∀ (ls : List (List UInt8)) {st st' : HdSt}, foldH c st ls = some st' → st.1.all (fieldOk c) = true → (st.2.1 && c == 101) = false → st'.1.all (fieldOk c) = true ∧ (st'.2.1 && c == 101) = false
  | [], st, st', h, h1, h2 => by cases h; exact ⟨h1, h2⟩
  | l :: t, st, st', h, h1, h2 => by
    unfold foldH at h
    cases e : stepH c st l with
    | none => rw [e] at h; cases h
    | some y =>
      rw [e] at h
      obtain ⟨k1, k2⟩ := step_keeps e h1 h2
      exact fold_keeps t h k1 k2
/-- What is read has bytes. -/
theorem read_right {s : List UInt8} {head close : Bool} {r : Rp} {n : Nat} (h : readR s head = .good r close n) (hs : s.length ≤ 65536) : rightR r = true ∧ (close && r.code == 101) = false ∧ n ≤ s.length := by
  unfold readR at h
  split at h
  · split at h <;> cases h
  · obtain ⟨a, ha⟩ : ∃ a, (Lib.index s eol2).toNat = a := ⟨_, rfl⟩
    rw [ha] at h
    cases hp : partsR (splitE (s.take a)) with
    | none => rw [hp] at h; cases h
    | some x =>
      obtain ⟨c, fs, cl, o⟩ := x
      rw [hp] at h
      dsimp only at h
      obtain ⟨K, hK⟩ : ∃ K, (if head = true then 0 else o.getD 0) = K := ⟨_, rfl⟩
      rw [hK] at h
      split at h
      · cases h
      · rename_i hlt
        simp only [Rd10.good.injEq] at h
        obtain ⟨rfl, rfl, rfl⟩ := h
        unfold partsR at hp
        split at hp
        · rename_i c' r' hst
          obtain ⟨q1, q2, _, _⟩ := statB_true hst
          cases hf : foldH (c' : Int) ([], false, none) (splitE (s.take a)).tail with
          | none => rw [hf] at hp; cases hp
          | some st =>
            rw [hf] at hp
            obtain ⟨k1, k2⟩ := fold_keeps _ hf rfl rfl
            dsimp only [Option.bind] at hp
            split at hp
            · rename_i hb
              cases hp
              rw [beq_iff_eq] at hb
              refine ⟨?_, k2, by omega⟩
              have hlen : ((s.drop (a + 4)).take K).length ≤ 65536 := by
                rw [List.length_take, List.length_drop]; omega
              have hbb : (bareB (c : Int) && !((s.drop (a + 4)).take K).isEmpty) = false := by
                cases hc : bareB (c : Int)
                · rfl
                · rw [hc] at hb
                  dsimp only at hb
                  cases o with
                  | some _ => cases hb
                  | none => rw [← hK]; cases head <;> simp
              unfold rightR
              dsimp only at hlen hbb k1 ⊢
              rw [hbb, decide_eq_true hlen, k1, decide_eq_true (show 100 ≤ (c : Int) by omega), decide_eq_true (show (c : Int) ≤ 599 by omega)]
              rfl
            · cases hp
        · cases hp
theorem headR_len (r : Rp) (close : Bool) : 4 ≤ (headR r close).length := by rw [head_join, List.length_append]; show 4 ≤ _ + 4; omega
end Go.Proofs.YtfcokldbpjkjpaaGreatDoor
