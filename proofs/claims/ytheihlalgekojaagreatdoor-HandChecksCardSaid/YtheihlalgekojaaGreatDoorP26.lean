/-
  Plain laws of base64: what is read of letters has these letters; the document's reading, bit by bit.
-/
import Derived.Test.YtheihlalgekojaaGreatDoorP16
import Derived.Test.YtheihlalgekojaaGreatDoorP24
namespace Go.Proofs.YtheihlalgekojaaGreatDoor
theorem let_of {c : UInt8} (h : isLet c = true) : ∃ n, n < 64 ∧ c = letB n := by
  have h2 := num_bd c
  have h3 : 0 ≤ numB c := by simpa [isLet] using h
  exact ⟨(numB c).toNat, by omega, (let_num c h).symm⟩
theorem no_let61 : isLet 61 = false := by decide +kernel
theorem group_let {l : List UInt8} (h : (groupB l).2 = true) : ∀ c ∈ l, isLet c = true := by
  unfold groupB at h
  split at h
  · rename_i h2; exact List.all_eq_true.1 h2
  · cases h
theorem encG_2 (a b : UInt8) : encG [a, b] = [letB (a.toNat / 4), letB (a.toNat % 4 * 16 + b.toNat / 16), letB (b.toNat % 16 * 4), 61] := by
  have ha := UInt8.toNat_lt a
  have hb := UInt8.toNat_lt b
  have hm : min 3 [a, b].length = 2 := by simp
  simp only [encG, hm, grpN, grpB, bigN, byteN, List.nil_append, List.cons_append, List.getD_cons_zero, List.getD_cons_succ]
  show [letB _, letB _, letB _, 61] = [letB _, letB _, letB _, 61]
  simp only [List.getD_nil, UInt8.toNat_zero]
  congr 1
  · congr 1; omega
  congr 1
  · congr 1; omega
  congr 1
  · congr 1; omega
theorem encG_1 (a : UInt8) : encG [a] = [letB (a.toNat / 4), letB (a.toNat % 4 * 16), 61, 61] := by
  have ha := UInt8.toNat_lt a
  have hm : min 3 [a].length = 1 := by simp
  simp only [encG, hm, grpN, grpB, bigN, byteN, List.nil_append, List.cons_append, List.getD_cons_zero, List.getD_cons_succ]
  show [letB _, letB _, 61, 61] = [letB _, letB _, 61, 61]
  simp only [List.getD_nil, UInt8.toNat_zero]
  congr 1
  · congr 1; omega
  congr 1
  · congr 1; omega
theorem back4 {a b c d : UInt8} (h : (groupB [a, b, c, d]).2 = true) : ∃ x y z, (groupB [a, b, c, d]).1 = [x, y, z] ∧ ∀ t, encG (x :: y :: z :: t) = [a, b, c, d] := by
  have hl := group_let h
  obtain ⟨na, ha, rfl⟩ := let_of (hl a (by simp))
  obtain ⟨nb, hb, rfl⟩ := let_of (hl b (by simp))
  obtain ⟨nc, hc, rfl⟩ := let_of (hl c (by simp))
  obtain ⟨nd, hd, rfl⟩ := let_of (hl d (by simp))
  rw [group4 _ _ _ _ ha hb hc hd]
  refine ⟨_, _, _, rfl, fun t => ?_⟩
  rw [encG_3]
  simp only [UInt8.toNat_ofNat', List.map_cons, List.map_nil]
  congr 1
  · congr 1; omega
  congr 1
  · congr 1; omega
  congr 1
  · congr 1; omega
  congr 1
  · congr 1; omega
theorem back3 {a b c : UInt8} (h : (groupB [a, b, c]).2 = true) : ∃ x y, (groupB [a, b, c]).1 = [x, y] ∧ encG [x, y] = [a, b, c, 61] := by
  have hl := group_let h
  obtain ⟨na, ha, rfl⟩ := let_of (hl a (by simp))
  obtain ⟨nb, hb, rfl⟩ := let_of (hl b (by simp))
  obtain ⟨nc, hc, rfl⟩ := let_of (hl c (by simp))
  have h4 : nc % 4 = 0 := by
    unfold groupB at h
    rw [if_pos (by simp [isLet_letB ha, isLet_letB hb, isLet_letB hc])] at h
    have e : numV [letB na, letB nb, letB nc] = (na * 64 + nb) * 64 + nc := by simp [numV, num_letB ha, num_letB hb, num_letB hc]
    rw [e] at h
    simp at h
    omega
  rw [group3 _ _ _ ha hb hc h4]
  refine ⟨_, _, rfl, ?_⟩
  rw [encG_2]
  simp only [UInt8.toNat_ofNat']
  congr 1
  · congr 1; omega
  congr 1
  · congr 1; omega
  congr 1
  · congr 1; omega
theorem back2 {a b : UInt8} (h : (groupB [a, b]).2 = true) : ∃ x, (groupB [a, b]).1 = [x] ∧ encG [x] = [a, b, 61, 61] := by
  have hl := group_let h
  obtain ⟨na, ha, rfl⟩ := let_of (hl a (by simp))
  obtain ⟨nb, hb, rfl⟩ := let_of (hl b (by simp))
  have h4 : nb % 16 = 0 := by
    unfold groupB at h
    rw [if_pos (by simp [isLet_letB ha, isLet_letB hb])] at h
    have e : numV [letB na, letB nb] = na * 64 + nb := by simp [numV, num_letB ha, num_letB hb]
    rw [e] at h
    simp at h
    omega
  rw [group2 _ _ ha hb h4]
  refine ⟨_, rfl, ?_⟩
  rw [encG_1]
  simp only [UInt8.toNat_ofNat']
  congr 1
  · congr 1; omega
  congr 1
  · congr 1; omega
theorem trim_22 (a b : UInt8) (h : b = 61) : trimE [a, b, 61, 61] = [a, b] := by
  subst h
  unfold trimE Lib.trimSuffix; simp [Lib.hasSuffix, List.isSuffixOf, List.isPrefixOf]
theorem enc_decD : ∀ (k : Nat) (s t : List UInt8), s.length = 4 * k → decD s = some t → encL t = s
  | 0, s, t, hs, h => by
    have : s = [] := List.eq_nil_of_length_eq_zero (by omega)
    subst this
    rw [decD_nil] at h
    cases h; rfl
  | k + 1, s, t, hs, h => by
    match s, hs with
    | a :: b :: c :: d :: r, hs =>
      rw [decD_step (by simp), show (a :: b :: c :: d :: r).drop 4 = r from rfl] at h
      have hr : r.length = 4 * k := by simp only [List.length_cons] at hs; omega
      by_cases hg : (groupB (lastG (a :: b :: c :: d :: r))).2 = true
      · rw [if_pos hg] at h
        obtain ⟨t2, h2, rfl⟩ := Option.map_eq_some_iff.1 h
        have ih := enc_decD k r t2 hr h2
        unfold lastG at hg ⊢
        rw [show (a :: b :: c :: d :: r).drop 4 = r from rfl, show (a :: b :: c :: d :: r).take 4 = [a, b, c, d] from rfl] at hg ⊢
        cases hre : r.isEmpty with
        | false =>
          rw [hre] at hg
          rw [if_neg (by simp)] at hg ⊢
          obtain ⟨x, y, z, e1, e2⟩ := back4 hg
          rw [e1]
          show encL (x :: y :: z :: t2) = _
          rw [encL_step (by simp), e2]
          show [a, b, c, d] ++ encL t2 = _
          rw [ih]; rfl
        | true =>
          rw [hre] at hg
          rw [if_pos rfl] at hg ⊢
          have hr0 : r = [] := by simpa using hre
          subst hr0
          rw [decD_nil] at h2
          cases h2
          by_cases hd : d = 61
          · subst hd
            by_cases hc : c = 61
            · subst hc
              have e : trimE [a, b, 61, 61] = [a, b] := by
                by_cases hb : b = 61
                · exact trim_22 a b hb
                · exact trim_two hb
              rw [e] at hg ⊢
              obtain ⟨x, e1, e2⟩ := back2 hg
              rw [e1, List.append_nil, encL_step (by simp), e2]; rfl
            · rw [trim_one hc] at hg ⊢
              obtain ⟨x, y, e1, e2⟩ := back3 hg
              rw [e1, List.append_nil, encL_step (by simp), e2]; rfl
          · rw [trim_none hd] at hg ⊢
            obtain ⟨x, y, z, e1, e2⟩ := back4 hg
            rw [e1, List.append_nil, encL_step (by simp), e2]; rfl
      · rw [if_neg hg] at h; cases h
    | [], hs => simp at hs
    | [_], hs => simp at hs; omega
    | [_, _], hs => simp at hs; omega
    | [_, _, _], hs => simp at hs; omega
theorem enc_dec {s t : List UInt8} (h : decL s = some t) : encL t = s := by
  unfold decL at h
  split at h
  · exact enc_decD (s.length / 4) s t (by omega) h
  · cases h

/-- A text without the signs of equality at its end. -/
def stripE (s : List UInt8) : Nat → Nat
  | 0 => 0
  | k + 1 => if s.getD k 0 = 61 then stripE s k else k + 1
def bits6 (n : Nat) : List Nat := [n / 32 % 2, n / 16 % 2, n / 8 % 2, n / 4 % 2, n / 2 % 2, n % 2]
theorem bits6_at (n k : Nat) (hk : k < 6) : (bits6 n)[k]? = some (n / 2 ^ (5 - k) % 2) := by
  have : k = 0 ∨ k = 1 ∨ k = 2 ∨ k = 3 ∨ k = 4 ∨ k = 5 := by omega
  rcases this with h | h | h | h | h | h <;> subst h <;> simp [bits6]
theorem bits6_take (n k : Nat) (hk : k < 6) : (bits6 n).take (k + 1) = (bits6 n).take k ++ [n / 2 ^ (5 - k) % 2] := by
  rw [List.take_add_one, bits6_at n k hk]; rfl
/-- The bits of letters. -/
def lbits (s : List UInt8) : List Nat := s.flatMap fun c => bits6 (numB c).toNat
theorem lbits_len (s : List UInt8) : (lbits s).length = s.length * 6 := by
  unfold lbits
  induction s with
  | nil => rfl
  | cons c t ih => rw [List.flatMap_cons, List.length_append, ih]; simp [bits6]; omega
/-- The numbers of eight bits each. -/
def eights : List Nat → List UInt8
  | a :: b :: c :: d :: e :: f :: g :: h :: t => UInt8.ofNat (numK [a, b, c, d, e, f, g, h] 8) :: eights t
  | _ => []
theorem eights_short : ∀ (l : List Nat), l.length < 8 → eights l = []
  | [], _ => rfl
  | [_], _ => by simp [eights]
  | [_, _], _ => by simp [eights]
  | [_, _, _], _ => by simp [eights]
  | [_, _, _, _], _ => by simp [eights]
  | [_, _, _, _, _], _ => by simp [eights]
  | [_, _, _, _, _, _], _ => by simp [eights]
  | [_, _, _, _, _, _, _], _ => by simp [eights]
  | _ :: _ :: _ :: _ :: _ :: _ :: _ :: _ :: _, h => by simp at h; omega
theorem eights_at : ∀ (i : Nat) (l : List Nat), 8 * i + 8 ≤ l.length → (eights l)[i]? = some (UInt8.ofNat (numK (l.drop (8 * i)) 8))
  | i, l, hl => by
    match l, hl with
    | a :: b :: c :: d :: e :: f :: g :: h :: t, hl =>
      cases i with
      | zero => rfl
      | succ i =>
        show (eights t)[i]? = _
        rw [eights_at i t (by simp at hl; omega), show 8 * (i + 1) = 8 * i + 1 + 1 + 1 + 1 + 1 + 1 + 1 + 1 by omega]
        rfl
    | [], hl => simp at hl
    | [_], hl => simp at hl
    | [_, _], hl => simp at hl
    | [_, _, _], hl => simp at hl
    | [_, _, _, _], hl => simp at hl
    | [_, _, _, _, _], hl => simp at hl
    | [_, _, _, _, _, _], hl => simp at hl
    | [_, _, _, _, _, _, _], hl => simp at hl
theorem eights_len (l : List Nat) : (eights l).length = l.length / 8 := by
    match l with
    | a :: b :: c :: d :: e :: f :: g :: h :: t =>
      show (eights t).length + 1 = _
      rw [eights_len t]
      simp only [List.length_cons]; omega
    | [] => rfl
    | [_] => simp [eights]
    | [_, _] => simp [eights]
    | [_, _, _] => simp [eights]
    | [_, _, _, _] => simp [eights]
    | [_, _, _, _, _] => simp [eights]
    | [_, _, _, _, _, _] => simp [eights]
    | [_, _, _, _, _, _, _] => simp [eights]
theorem eights_bits (c : UInt8) (t : List Nat) : eights (bits8 c ++ t) = c :: eights t := by
  have hc := UInt8.toNat_lt c
  show UInt8.ofNat _ :: eights t = c :: eights t
  congr 1
  refine ofNat_toNat8 c _ ?_
  simp only [numK, List.getD_cons_zero, List.getD_cons_succ]
  omega
theorem eights_bitsL (z : List Nat) (hz : z.length < 8) : ∀ s : List UInt8, eights (bitsL s ++ z) = s
  | [] => eights_short z hz
  | c :: t => by
    rw [show bitsL (c :: t) ++ z = bits8 c ++ (bitsL t ++ z) by simp [bitsL], eights_bits, eights_bitsL z hz t]
theorem bits6_num (a b c d e f : Nat) (ha : a < 2) (hb : b < 2) (hc : c < 2) (hd : d < 2) (he : e < 2) (hf : f < 2) : bits6 (numK [a, b, c, d, e, f] 6) = [a, b, c, d, e, f] := by
  simp only [bits6, numK, List.getD_cons_zero, List.getD_cons_succ]
  congr 1
  · omega
  congr 1
  · omega
  congr 1
  · omega
  congr 1
  · omega
  congr 1
  · omega
  congr 1
  omega
theorem sixes_bits : ∀ (k : Nat) (l : List Nat), l.length = 6 * k → (∀ x ∈ l, x < 2) → lbits ((sixes l).map letB) = l ∧ ((sixes l).map letB).all isLet = true ∧ ∀ c ∈ (sixes l).map letB, c ≠ 61
  | 0, l, h, _ => by
    have : l = [] := List.eq_nil_of_length_eq_zero (by omega)
    subst this; exact ⟨rfl, rfl, fun c hc => absurd hc (by simp [sixes])⟩
  | k + 1, l, h, h2 => by
    match l, h with
    | a :: b :: c :: d :: e :: f :: t, h =>
      obtain ⟨i1, i2, i3⟩ := sixes_bits k t (by simp only [List.length_cons] at h; omega) (fun x hx => h2 x (by simp [hx]))
      have hn := numK_lt [a, b, c, d, e, f] (fun x hx => h2 x (by simp at hx ⊢; omega)) 6
      have hb := bits6_num a b c d e f (h2 a (by simp)) (h2 b (by simp)) (h2 c (by simp)) (h2 d (by simp)) (h2 e (by simp)) (h2 f (by simp))
      obtain ⟨n, hnn⟩ : ∃ n, numK [a, b, c, d, e, f] 6 = n := ⟨_, rfl⟩
      rw [hnn] at hn hb
      have es : sixes (a :: b :: c :: d :: e :: f :: t) = n :: sixes t := by rw [← hnn]; rfl
      rw [es]
      refine ⟨?_, ?_, ?_⟩
      · show lbits (letB n :: (sixes t).map letB) = _
        unfold lbits at i1 ⊢
        rw [List.flatMap_cons, i1, num_letB (by omega), Int.toNat_natCast, hb]; rfl
      · rw [List.map_cons, List.all_cons, i2, isLet_letB (by omega)]; rfl
      · intro c hc
        rw [List.map_cons, List.mem_cons] at hc
        rcases hc with rfl | hc
        · exact letB_ne (by omega)
        · exact i3 c hc
    | [], h => simp at h
    | [_], h => simp at h; omega
    | [_, _], h => simp at h; omega
    | [_, _, _], h => simp at h; omega
    | [_, _, _, _], h => simp at h; omega
    | [_, _, _, _, _], h => simp at h; omega
/-- What the document reads of letters. -/
def outR (s : List UInt8) : List UInt8 := eights (lbits (s.take (stripE s s.length)))
def okR (s : List UInt8) : Bool := (s.take (stripE s s.length)).all isLet
def decR (s : List UInt8) : Option (List UInt8) := if okR s = true then (if encL (outR s) = s then some (outR s) else none) else none
theorem strip_app (a : List UInt8) (ha : ∀ c ∈ a, c ≠ 61) : ∀ n, stripE (a ++ List.replicate n 61) (a.length + n) = a.length
  | 0 => by
    cases hl : a.length with
    | zero => rfl
    | succ m =>
      show (if _ then _ else _) = _
      rw [if_neg]
      rw [List.replicate_zero, List.append_nil, List.getD_eq_getElem?_getD, List.getElem?_eq_getElem (by omega)]
      exact ha _ (List.getElem_mem _)
  | n + 1 => by
    show (if _ then _ else _) = _
    rw [if_pos]
    · have e := strip_app a ha n
      have h2 : ∀ k, k ≤ a.length + n → stripE (a ++ List.replicate (n + 1) 61) k = stripE (a ++ List.replicate n 61) k := by
        intro k
        induction k with
        | zero => intro _; rfl
        | succ k ih =>
          intro hk
          show (if _ then _ else _) = (if _ then _ else _)
          rw [ih (by omega)]
          have : (a ++ List.replicate (n + 1) 61).getD k 0 = (a ++ List.replicate n 61).getD k 0 := by
            rw [List.replicate_succ', ← List.append_assoc, List.getD_eq_getElem?_getD, List.getD_eq_getElem?_getD, List.getElem?_append_left (by simp; omega)]
          rw [this]
      exact (h2 _ (Nat.le_refl _)).trans e
    · show (a ++ List.replicate (n + 1) 61).getD (a.length + n) 0 = 61
      rw [List.getD_eq_getElem?_getD, List.getElem?_append_right (by omega)]
      simp
theorem bitsL_lt (s : List UInt8) : ∀ x ∈ bitsL s, x < 2 := by
  intro x hx
  obtain ⟨c, _, h⟩ := List.mem_flatMap.1 hx
  exact bits8_lt c x h
theorem outR_enc (t : List UInt8) : okR (encL t) = true ∧ outR (encL t) = t := by
  have hp : ∀ x ∈ pad6 (bitsL t), x < 2 := by
    intro x hx
    rcases List.mem_append.1 hx with h | h
    · exact bitsL_lt t x h
    · rw [List.eq_of_mem_replicate h]; decide
  obtain ⟨h1, h2, h3⟩ := sixes_bits ((pad6 (bitsL t)).length / 6) (pad6 (bitsL t)) (by have := pad6_len (bitsL t); omega) hp
  obtain ⟨o, ho⟩ : ∃ o, (sixes (pad6 (bitsL t))).map letB = o := ⟨_, rfl⟩
  rw [ho] at h1 h2 h3
  have e : encL t = o ++ List.replicate ((4 - o.length % 4) % 4) 61 := by rw [← encR_eq, ← ho]; rfl
  have es : (encL t).take (stripE (encL t) (encL t).length) = o := by
    rw [e, List.length_append, List.length_replicate, strip_app o h3, List.take_left]
  unfold okR outR
  rw [es]
  exact ⟨h2, by rw [h1]; exact eights_bitsL _ (by rw [List.length_replicate]; omega) t⟩
/-- The document's reading is the program's. -/
theorem decR_eq (s : List UInt8) : decR s = decL s := by
  cases h : decL s with
  | some t =>
    have he := enc_dec h
    subst he
    obtain ⟨h1, h2⟩ := outR_enc t
    unfold decR
    rw [if_pos h1, h2, if_pos rfl]
  | none =>
    unfold decR
    split
    · split
      · rename_i h2
        rw [← h2, dec_enc] at h
        cases h
      · rfl
    · rfl
end Go.Proofs.YtheihlalgekojaaGreatDoor
