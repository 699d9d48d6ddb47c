/-
  Plain laws of requests: what the document says of a head is what the program says; no program in sight.
  Plain laws of requests: the request with which bytes begin; a parser stands as its bytes say; no program in sight.
-/
import Derived.Test.YtpncfeaaffgkfaaGreatDoorSp
import Derived.Test.YtpncfeaaffgkfaaGreatDoorP1
namespace Go.Proofs.YtpncfeaaffgkfaaGreatDoor

/-- A number's digits, at most 5000. -/
def numD : Nat → List UInt8 → Option Nat
  | a, [] => some a
  | a, c :: t => if qDig c then numD (min (10 * a + (c.toNat - 48)) 5000) t else none
def numberD (s : List UInt8) : Option Nat := if s.isEmpty then none else numD 0 s
def valD : Nat → List UInt8 → Nat
  | a, [] => a
  | a, c :: t => valD (a * 10 + (c.toNat - 48)) t
theorem valD_ge : ∀ (l : List UInt8) (a : Nat), a ≤ valD a l
  | [], _ => Nat.le_refl _
  | c :: t, a => Nat.le_trans (by omega) (valD_ge t (a * 10 + (c.toNat - 48)))
theorem qDig_iff {c : UInt8} : qDig c = true ↔ 48 ≤ c.toNat ∧ c.toNat ≤ 57 := by simp [qDig, UInt8.le_iff_toNat_le]
theorem numD_val : ∀ (l : List UInt8) (a : Nat), l.all qDig = true → numD (min a 5000) l = some (min (valD a l) 5000)
  | [], a, _ => rfl
  | c :: t, a, h => by
    simp only [List.all_cons, Bool.and_eq_true] at h
    unfold numD valD
    rw [if_pos h.1]
    have := numD_val t (a * 10 + (c.toNat - 48)) h.2
    have e : min (10 * min a 5000 + (c.toNat - 48)) 5000 = min (a * 10 + (c.toNat - 48)) 5000 := by omega
    rw [e]; exact this
theorem numD_none : ∀ (l : List UInt8) (a : Nat), l.all qDig = false → numD a l = none
  | [], a, h => by simp at h
  | c :: t, a, h => by
    unfold numD
    by_cases hc : qDig c = true
    · rw [if_pos hc]
      exact numD_none t _ (by simpa [hc] using h)
    · rw [if_neg hc]
theorem parse_val : ∀ (l : List UInt8) (a : Nat), l.all qDig = true → Lib.parseUint10 a l = .ok (valD a l) ∨ (Lib.parseUint10 a l = .range ∧ 5000 < valD a l)
  | [], a, _ => .inl rfl
  | c :: t, a, h => by
    simp only [List.all_cons, Bool.and_eq_true] at h
    have hd := qDig_iff.1 h.1
    unfold Lib.parseUint10 valD
    rw [if_pos hd]
    have hge := valD_ge t (a * 10 + (c.toNat - 48))
    split
    · exact .inr ⟨rfl, by omega⟩
    · split
      · exact .inr ⟨rfl, by omega⟩
      · exact parse_val t _ h.2
theorem number_num {s : List UInt8} (h0 : s ≠ []) (h : s.all qDig = true) : ∃ d, numberD s = some d ∧ 0 ≤ numQ s ∧ ((d ≤ 4096 ∧ numQ s = d) ∨ (4096 < d ∧ 4096 < numQ s)) := by
  have h1 := numD_val s 0 h
  rw [show min 0 5000 = 0 from rfl] at h1
  refine ⟨_, by unfold numberD; rw [if_neg (by simpa using h0), h1], ?_⟩
  have hq : numQ s = (match Lib.parseUint10 0 s with | .ok u => if 9223372036854775808 ≤ u then 4097 else (u : Int) | _ => 4097) := by
    unfold numQ Lib.atoiAll
    cases s with
    | nil => exact absurd rfl h0
    | cons c t =>
      have hd := qDig_iff.1 (by simp only [List.all_cons, Bool.and_eq_true] at h; exact h.1)
      have n43 : ¬ (c.toNat = 43 ∨ c.toNat = 45) := by omega
      have n45 : ¬ c.toNat = 45 := by omega
      dsimp only
      rw [if_neg n43]
      unfold Lib.parseMag
      rw [if_neg (by simp)]
      cases Lib.parseUint10 0 (c :: t) with
      | ok u =>
        dsimp only
        by_cases hu : 9223372036854775808 ≤ u
        · simp [n45, hu]
        · simp [n45, hu]
      | range => rfl
      | _ => rfl
  rw [hq]
  rcases parse_val s 0 h with e | ⟨e, h5⟩
  · rw [e]
    dsimp only
    split
    · exact ⟨by decide, .inr ⟨by omega, by decide⟩⟩
    · refine ⟨by omega, ?_⟩
      rcases Nat.lt_or_ge 4096 (valD 0 s) with h6 | h6
      · exact .inr ⟨by omega, by omega⟩
      · exact .inl ⟨by omega, by rw [Nat.min_eq_left (by omega)]⟩
  · rw [e]
    exact ⟨by decide, .inr ⟨by omega, by decide⟩⟩
theorem number_none {s : List UInt8} : numberD s = none ↔ (s.isEmpty || !s.all qDig) = true := by
  unfold numberD
  cases he : s.isEmpty with
  | true => simp
  | false =>
    rw [if_neg (by simp)]
    cases ha : s.all qDig with
    | true =>
      have h1 := numD_val s 0 ha
      rw [show min 0 5000 = 0 from rfl] at h1
      simp [h1]
    | false => simp [numD_none s 0 ha]
/-- The document's count over a head's fields. -/
structure DSt where
  fs : List Fl
  hosts : Nat
  coded : Nat
  len : Option Nat
  text : List UInt8
  cl : Bool
def stepD (st : DSt) (l : List UInt8) : Option DSt :=
  if !(parseB l).2.2 then none
  else if alikeB (parseB l).1 qTra && !alikeB (parseB l).2.1 qChunk then none
  else if alikeB (parseB l).1 qLen then
    match numberD (parseB l).2.1 with
    | none => none
    | some n => if st.len.isSome && (parseB l).2.1 != st.text then none else
      some ⟨st.fs ++ [((parseB l).1, (parseB l).2.1)], if alikeB (parseB l).1 qHost then st.hosts + 1 else st.hosts, if alikeB (parseB l).1 qTra then st.coded + 1 else st.coded, some n, (parseB l).2.1, st.cl || closeF ((parseB l).1, (parseB l).2.1)⟩
  else some ⟨st.fs ++ [((parseB l).1, (parseB l).2.1)], if alikeB (parseB l).1 qHost then st.hosts + 1 else st.hosts, if alikeB (parseB l).1 qTra then st.coded + 1 else st.coded, st.len, st.text, st.cl || closeF ((parseB l).1, (parseB l).2.1)⟩
def foldD : DSt → List (List UInt8) → Option DSt
  | st, [] => some st
  | st, l :: t => match stepD st l with
    | none => none
    | some st' => foldD st' t
def st0D (c : Bool) : DSt := ⟨[], 0, 0, none, [], c⟩
def headD9 (ls : List (List UInt8)) : HeadR :=
  if 33 < ls.length then .bad 431
  else
    let li := lineB (ls.headD [])
    let ta := targetB li.2.1
    if !(li.2.2.2 && ta.2.2) then .bad 400
    else match foldD (st0D (li.2.2.1 == 10)) ls.tail with
      | none => .bad 400
      | some st =>
        if (li.2.2.1 == 11 && st.hosts != 1) || (decide (1 < st.coded) || (st.coded == 1 && (li.2.2.1 == 10 || st.len.isSome))) then .bad 400
        else if 4096 < st.len.getD 0 then .bad 413
        else .good ⟨li.1, ta.1, ta.2.1, li.2.2.1, st.fs, [], st.cl⟩ (if st.coded == 1 then 0 else st.len.getD 0) (st.coded == 1)
structure DInv (c : Bool) (st : DSt) (done : List (List UInt8)) : Prop where
  f : fieldsL done = some st.fs
  h : st.hosts = (getB st.fs qHost).2
  t : st.coded = (getB st.fs qTra).2
  te : ∀ f ∈ st.fs, alikeB f.1 qTra = true → alikeB f.2 qChunk = true
  l0 : st.len = none ↔ (getB st.fs qLen).2 = 0
  l1 : ∀ n, st.len = some n → st.text = (getB st.fs qLen).1 ∧ numberD st.text = some n ∧ ∀ f ∈ st.fs, alikeB f.1 qLen = true → f.2 = st.text
  c : st.cl = (c || st.fs.any closeF)
theorem getB_cnt_snoc (fs : List Fl) (f : Fl) (name : List UInt8) : (getB (fs ++ [f]) name).2 = if alikeB f.1 name then (getB fs name).2 + 1 else (getB fs name).2 := by
  unfold getB
  cases h : alikeB f.1 name <;> simp [List.filter_append, h]
theorem fieldsL_snoc9 : ∀ {ls : List (List UInt8)} {fs : List Fl} {l : List UInt8}, fieldsL ls = some fs → (parseB l).2.2 = true → fieldsL (ls ++ [l]) = some (fs ++ [((parseB l).1, (parseB l).2.1)])
  | [], fs, l, h, hp => by cases h; simp [fieldsL, hp]
  | x :: t, fs, l, h, hp => by
    unfold fieldsL at h
    rw [List.cons_append]
    unfold fieldsL
    split at h
    · rename_i hx
      cases e : fieldsL t with
      | none => rw [e] at h; cases h
      | some gs =>
        rw [e] at h
        cases h
        rw [if_pos hx, fieldsL_snoc9 e hp]
        rfl
    · cases h
theorem DInv.step {c : Bool} {st st' : DSt} {done : List (List UInt8)} {l : List UInt8} (h : DInv c st done) (hs : stepD st l = some st') : DInv c st' (done ++ [l]) := by
  unfold stepD at hs
  split at hs
  · cases hs
  · rename_i hp
    have hp' : (parseB l).2.2 = true := by simpa using hp
    obtain ⟨f, hf⟩ : ∃ f : Fl, ((parseB l).1, (parseB l).2.1) = f := ⟨_, rfl⟩
    have hf1 : (parseB l).1 = f.1 := by rw [← hf]
    have hf2 : (parseB l).2.1 = f.2 := by rw [← hf]
    have hfl := fieldsL_snoc9 h.f hp'
    rw [hf] at hfl hs
    rw [hf1, hf2] at hs
    split at hs
    · cases hs
    · rename_i hte
      have hte' : alikeB f.1 qTra = true → alikeB f.2 qChunk = true := fun e => by simpa [e] using hte
      have tes : ∀ g ∈ st.fs ++ [f], alikeB g.1 qTra = true → alikeB g.2 qChunk = true := fun g hg => by
        rcases List.mem_append.1 hg with hg | hg
        · exact h.te g hg
        · rw [List.mem_singleton] at hg; subst hg; exact hte'
      split at hs
      · rename_i hlen
        cases hn : numberD f.2 with
        | none => rw [hn] at hs; cases hs
        | some n =>
          rw [hn] at hs
          dsimp only at hs
          split at hs
          · cases hs
          · rename_i hsame
            cases hs
            refine ⟨hfl, by rw [getB_cnt_snoc, ← h.h], by rw [getB_cnt_snoc, ← h.t], tes, ?_, ?_, by rw [List.any_append, h.c]; simp [Bool.or_assoc]⟩
            · rw [getB_cnt_snoc, if_pos hlen]; simp
            · intro m hm
              cases hm
              have hall : ∀ g ∈ st.fs, alikeB g.1 qLen = true → g.2 = f.2 := fun g hg ha => by
                cases hl : st.len with
                | none =>
                  have h0 := h.l0.1 hl
                  have : st.fs.filter (fun f => alikeB f.1 qLen) = [] := List.eq_nil_of_length_eq_zero h0
                  have hm : g ∈ st.fs.filter (fun f => alikeB f.1 qLen) := List.mem_filter.2 ⟨hg, ha⟩
                  rw [this] at hm; cases hm
                | some k =>
                  have e := (h.l1 k hl).2.2 g hg ha
                  rw [hl] at hsame
                  have : f.2 = st.text := by simpa using hsame
                  rw [e, this]
              refine ⟨?_, hn, ?_⟩
              · by_cases h0 : (getB st.fs qLen).2 = 0
                · rw [getB_snoc_0 _ _ _ hlen h0]
                · rw [getB_snoc_s _ _ _ hlen h0]
                  cases hl : st.len with
                  | none => exact absurd (h.l0.1 hl) h0
                  | some k =>
                    have e := (h.l1 k hl).1
                    rw [hl] at hsame
                    have : f.2 = st.text := by simpa using hsame
                    rw [← e, this]
              · intro g hg ha
                rcases List.mem_append.1 hg with hg | hg
                · exact hall g hg ha
                · rw [List.mem_singleton] at hg; subst hg; rfl
      · rename_i hlen
        have hlen' : alikeB f.1 qLen = false := by simpa using hlen
        cases hs
        refine ⟨hfl, by rw [getB_cnt_snoc, ← h.h], by rw [getB_cnt_snoc, ← h.t], tes, ?_, ?_, by rw [List.any_append, h.c]; simp [Bool.or_assoc]⟩
        · dsimp only
          rw [getB_snoc_f _ _ _ hlen']; exact h.l0
        · intro m hm
          dsimp only at hm ⊢
          obtain ⟨a1, a2, a3⟩ := h.l1 m hm
          rw [getB_snoc_f _ _ _ hlen']
          refine ⟨a1, a2, fun g hg ha => ?_⟩
          rcases List.mem_append.1 hg with hg | hg
          · exact a3 g hg ha
          · rw [List.mem_singleton] at hg; subst hg; rw [hlen'] at ha; cases ha
def BadTE (fs : List Fl) : Prop := ∃ f ∈ fs, alikeB f.1 qTra = true ∧ alikeB f.2 qChunk = false
def BadLen (fs : List Fl) : Prop := ∃ f ∈ fs, alikeB f.1 qLen = true ∧ (numberD f.2 = none ∨ f.2 ≠ (getB fs qLen).1)
theorem fieldsL_app : ∀ (a b : List (List UInt8)), fieldsL (a ++ b) = (fieldsL a).bind fun x => (fieldsL b).map fun y => x ++ y
  | [], b => by simp [fieldsL]
  | l :: t, b => by
    have e : ∀ x, fieldsL (l :: x) = if (parseB l).2.2 then (fieldsL x).map fun fs => ((parseB l).1, (parseB l).2.1) :: fs else none := fun x => rfl
    rw [List.cons_append, e, e, fieldsL_app t b]
    cases (parseB l).2.2 with
    | false => simp
    | true =>
      simp only [if_true]
      cases fieldsL t with
      | none => simp
      | some x =>
        cases fieldsL b with
        | none => simp
        | some y => simp
theorem getB_first_app (a b : List Fl) (name : List UInt8) (h : (getB a name).2 ≠ 0) : (getB (a ++ b) name).1 = (getB a name).1 := by
  unfold getB at h ⊢
  dsimp only at h ⊢
  rw [List.filter_append]
  cases hl : a.filter (fun f => alikeB f.1 name) with
  | nil => simp [hl] at h
  | cons x t => simp
theorem DInv.none {c : Bool} : ∀ (rest : List (List UInt8)) {st : DSt} {done : List (List UInt8)}, DInv c st done → foldD st rest = none → fieldsL (done ++ rest) = none ∨ ∃ fs, fieldsL (done ++ rest) = some fs ∧ (BadTE fs ∨ BadLen fs)
  | [], _, _, _, hn => by cases hn
  | l :: t, st, done, h, hn => by
    unfold foldD at hn
    cases hs : stepD st l with
    | some st' =>
      rw [hs] at hn
      have := DInv.none t (h.step hs) hn
      rwa [List.append_assoc] at this
    | none =>
      cases hf : fieldsL (done ++ l :: t) with
      | none => exact .inl rfl
      | some fs =>
        refine .inr ⟨fs, rfl, ?_⟩
        rw [fieldsL_app, h.f] at hf
        simp only [Option.bind_some, Option.map_eq_some_iff] at hf
        obtain ⟨y, hy, rfl⟩ := hf
        unfold fieldsL at hy
        split at hy
        · rename_i hp
          cases ht : fieldsL t with
          | none => rw [ht] at hy; cases hy
          | some z =>
            rw [ht] at hy
            simp only [Option.map_some, Option.some.injEq] at hy
            subst hy
            obtain ⟨f, hf⟩ : ∃ f : Fl, ((parseB l).1, (parseB l).2.1) = f := ⟨_, rfl⟩
            have hf1 : (parseB l).1 = f.1 := by rw [← hf]
            have hf2 : (parseB l).2.1 = f.2 := by rw [← hf]
            rw [hf]
            unfold stepD at hs
            rw [hp, hf, hf1, hf2] at hs
            simp only [Bool.not_true, Bool.false_eq_true, if_false] at hs
            split at hs
            · rename_i hte
              simp only [Bool.and_eq_true, Bool.not_eq_true'] at hte
              exact .inl ⟨f, by simp, hte.1, hte.2⟩
            · split at hs
              · rename_i hlen
                refine .inr ⟨f, by simp, hlen, ?_⟩
                cases hnn : numberD f.2 with
                | none => exact .inl rfl
                | some n =>
                  rw [hnn] at hs
                  dsimp only at hs
                  split at hs
                  · rename_i hd
                    cases hl : st.len with
                    | none => rw [hl] at hd; simp at hd
                    | some k =>
                      rw [hl] at hd
                      have hd' : f.2 ≠ st.text := by simpa using hd
                      have h0 : (getB st.fs qLen).2 ≠ 0 := fun e => by rw [h.l0.2 e] at hl; cases hl
                      rw [getB_first_app _ _ _ h0, ← (h.l1 k hl).1]
                      exact .inr hd'
                  · cases hs
              · cases hs
        · cases hy
theorem DInv.some {c : Bool} : ∀ (rest : List (List UInt8)) {st st' : DSt} {done : List (List UInt8)}, DInv c st done → foldD st rest = some st' → DInv c st' (done ++ rest)
  | [], st, st', done, h, hn => by cases hn; rwa [List.append_nil]
  | l :: t, st, st', done, h, hn => by
    unfold foldD at hn
    cases hs : stepD st l with
    | some st1 =>
      rw [hs] at hn
      have := DInv.some t (h.step hs) hn
      rwa [List.append_assoc] at this
    | none => rw [hs] at hn; cases hn
theorem DInv.start (c : Bool) : DInv c (st0D c) [] := ⟨rfl, rfl, rfl, (fun _ h => by cases h), by simp [st0D, getB], (fun n h => by cases h), by simp [st0D]⟩
theorem getB_pos {fs : List Fl} {f : Fl} {name : List UInt8} (hf : f ∈ fs) (ha : alikeB f.1 name = true) : 0 < (getB fs name).2 := by
  unfold getB
  exact List.length_pos_of_mem (List.mem_filter.2 ⟨hf, ha⟩)
theorem getB_only {fs : List Fl} {f : Fl} {name : List UInt8} (hf : f ∈ fs) (ha : alikeB f.1 name = true) (h1 : (getB fs name).2 = 1) : (getB fs name).1 = f.2 := by
  unfold getB at h1 ⊢
  have hm : f ∈ fs.filter (fun f => alikeB f.1 name) := List.mem_filter.2 ⟨hf, ha⟩
  obtain ⟨x, hx⟩ := List.length_eq_one_iff.1 h1
  rw [hx, List.mem_singleton] at hm
  subst hm
  simp [hx]
theorem getB_head {fs : List Fl} {name : List UInt8} (h : (getB fs name).2 ≠ 0) : ∃ f ∈ fs, alikeB f.1 name = true ∧ f.2 = (getB fs name).1 := by
  unfold getB at h ⊢
  cases hl : fs.filter (fun f => alikeB f.1 name) with
  | nil => simp [hl] at h
  | cons x t =>
    have := List.mem_filter.1 (hl ▸ List.mem_cons_self : x ∈ fs.filter (fun f => alikeB f.1 name))
    exact ⟨x, this.1, this.2, by simp⟩
theorem length_bad {fs : List Fl} (h : BadLen fs) : lengthQ fs = -1 := by
  obtain ⟨f, hf, ha, hb⟩ := h
  unfold lengthQ
  by_cases hany : fs.any (fun f => alikeB f.1 qLen && f.2 != (getB fs qLen).1) = true
  · rw [if_pos hany]
  · rw [if_neg hany]
    have he : f.2 = (getB fs qLen).1 := by
      by_cases e : f.2 = (getB fs qLen).1
      · exact e
      · exact absurd (List.any_eq_true.2 ⟨f, hf, by simp [ha, e]⟩) hany
    have hp := getB_pos hf ha
    rw [if_neg (by omega), ← he]
    rcases hb with hb | hb
    · rw [if_pos (number_none.1 hb)]
    · exact absurd he hb
theorem headD_eq (ls : List (List UInt8)) : headD9 ls = headQ ls := by
  unfold headD9 headQ
  by_cases h33 : 33 < ls.length
  · rw [if_pos h33, if_pos h33]
  · rw [if_neg h33, if_neg h33]
    dsimp only
    obtain ⟨⟨m, t, v, okL⟩, hli⟩ : ∃ x, lineB (ls.headD []) = x := ⟨_, rfl⟩
    rw [hli]
    dsimp only
    obtain ⟨⟨pa, qu, okT⟩, hta⟩ : ∃ x, targetB t = x := ⟨_, rfl⟩
    rw [hta]
    dsimp only
    cases hok : okL && okT with
    | false =>
      simp only [Bool.not_false, if_true, Bool.true_or]
      cases fieldsL ls.tail <;> rfl
    | true =>
      simp only [Bool.not_true, Bool.false_eq_true, if_false, Bool.false_or]
      cases hfo : foldD (st0D (v == 10)) ls.tail with
      | none =>
        rcases DInv.none ls.tail (DInv.start (v == 10)) hfo with e | ⟨fs, e, hb⟩
        · rw [List.nil_append] at e; rw [e]
        · rw [List.nil_append] at e; rw [e]
          dsimp only
          rcases hb with ⟨f, hf, ha, hc⟩ | hb
          · have hp := getB_pos hf ha
            split
            · rfl
            · rw [if_pos]
              by_cases h1 : 1 < (getB fs qTra).2
              · simp [h1]; omega
              · have h1' : (getB fs qTra).2 = 1 := by omega
                rw [getB_only hf ha h1', hc]
                simp [h1']
          · rw [length_bad hb]
            simp
      | some st =>
        have hi := DInv.some ls.tail (DInv.start (v == 10)) hfo
        rw [List.nil_append] at hi
        rw [hi.f]
        dsimp only
        have hlq : lengthQ st.fs = match st.len with | none => 0 | some _ => numQ st.text := by
          unfold lengthQ
          cases hl : st.len with
          | none =>
            have h0 := hi.l0.1 hl
            rw [if_neg, if_pos h0]
            intro e
            obtain ⟨f, hf, hx⟩ := List.any_eq_true.1 e
            simp only [Bool.and_eq_true] at hx
            have := getB_pos hf hx.1
            omega
          | some n =>
            obtain ⟨a1, a2, a3⟩ := hi.l1 n hl
            have h0 : (getB st.fs qLen).2 ≠ 0 := fun e => by rw [hi.l0.2 e] at hl; cases hl
            rw [if_neg, if_neg h0, if_neg, a1]
            · rw [← a1]
              intro e
              rw [number_none.2 e] at a2; cases a2
            · intro e
              obtain ⟨f, hf, hx⟩ := List.any_eq_true.1 e
              simp only [Bool.and_eq_true, bne_iff_ne] at hx
              exact hx.2 (by rw [a3 f hf hx.1, a1])
        have hnum : ∀ n, st.len = some n → 0 ≤ numQ st.text ∧ ((n ≤ 4096 ∧ numQ st.text = n) ∨ (4096 < n ∧ 4096 < numQ st.text)) := fun n hl => by
          obtain ⟨a1, a2, a3⟩ := hi.l1 n hl
          have hne : ¬ ((st.text.isEmpty || !st.text.all qDig) = true) := fun e => by rw [number_none.2 e] at a2; cases a2
          simp only [Bool.or_eq_true, not_or, Bool.not_eq_true, Bool.not_eq_false'] at hne
          obtain ⟨d, e1, e2, e3⟩ := number_num (s := st.text) (by simpa using hne.1) hne.2
          rw [a2] at e1
          cases e1
          exact ⟨e2, e3⟩
        have hneg : ¬ lengthQ st.fs < 0 := by
          rw [hlq]
          cases hl : st.len with
          | none => simp
          | some n => have := (hnum n hl).1; simp; omega
        have hte : (getB st.fs qTra).2 ≠ 0 → alikeB (getB st.fs qTra).1 qChunk = true := fun h => by
          obtain ⟨f, hf, ha, e⟩ := getB_head h
          rw [← e]; exact hi.te f hf ha
        rw [hi.h, hi.t, hi.c]
        have hl0 : (getB st.fs qLen).2 = 0 ↔ st.len = none := hi.l0.symm
        generalize hH : (getB st.fs qHost).2 = nh at *
        generalize hT : (getB st.fs qTra).2 = nt at *
        generalize hL : (getB st.fs qLen).2 = nl at *
        generalize hTv : alikeB (getB st.fs qTra).1 qChunk = av at *
        generalize hQ : lengthQ st.fs = q at *
        rw [decide_eq_false hneg, Bool.or_false]
        have hsome : st.len.isSome = decide (0 < nl) := by
          cases hl : st.len with
          | none => have := hl0.2 hl; simp [this]
          | some n =>
            have : nl ≠ 0 := fun e => by rw [hl0.1 e] at hl; cases hl
            simp; omega
        rw [hsome]
        cases hA : (v == 11 && nh != 1) with
        | true => simp
        | false =>
          simp only [Bool.false_or]
          rcases Nat.eq_zero_or_pos nt with h0 | h0
          · subst h0
            simp only [Nat.not_lt_zero, decide_false, Bool.false_or, Bool.false_and, Bool.false_eq_true, if_false]
            have hq : (4096 < st.len.getD 0 ↔ 4096 < q) ∧ (¬ 4096 < st.len.getD 0 → q.toNat = st.len.getD 0) := by
              rw [hlq]
              cases hl : st.len with
              | none => simp
              | some n =>
                obtain ⟨b1, b2⟩ := hnum n hl
                simp only [Option.getD_some]
                constructor
                · constructor <;> intro _ <;> omega
                · intro _; omega
            by_cases hb : 4096 < st.len.getD 0
            · rw [if_pos hb, if_pos (hq.1.1 hb)]
              simp
            · rw [if_neg hb, if_neg (fun e => hb (hq.1.2 e)), hq.2 hb]
              simp
          · have hav := hte (by omega)
            subst hav
            rcases Nat.lt_or_ge 1 nt with h1 | h1
            · have : (decide (1 < nt)) = true := by simpa using h1
              simp [this, h0]
            · have h1' : nt = 1 := by omega
              subst h1'
              simp only [Nat.lt_irrefl, decide_false, Bool.false_or, beq_self_eq_true, Bool.true_and, Nat.zero_lt_one, decide_true, Bool.not_true, Bool.or_false, if_true]
              cases hv : (v == 10 || decide (0 < nl)) with
              | true => simp
              | false =>
                simp only [Bool.or_eq_false_iff, decide_eq_false_iff_not, Nat.not_lt, Nat.le_zero] at hv
                have hln := hl0.1 hv.2
                rw [hln] at hlq
                dsimp only at hlq
                subst hlq
                rw [hln]
                simp
end Go.Proofs.YtpncfeaaffgkfaaGreatDoor
namespace Go.Proofs.YtpncfeaaffgkfaaGreatDoor

/-- What bytes begin with: no whole request; what is wrong; a request of so many bytes. -/
inductive OneR where
  | more
  | bad (c : Nat)
  | got (r : Rq) (n : Nat)
def oneQ (s : List UInt8) : OneR :=
  if decide (0 ≤ Lib.index s eol2) && decide (Lib.index s eol2 + 4 ≤ 2048) then
    match headQ (splitE (s.take (Lib.index s eol2).toNat)) with
    | .bad c => .bad c
    | .good r n ch =>
      if ch then
        if (feedC ck0 (s.drop ((Lib.index s eol2).toNat + 4))).2.bad ≠ 0 then .bad (feedC ck0 (s.drop ((Lib.index s eol2).toNat + 4))).2.bad
        else if (feedC ck0 (s.drop ((Lib.index s eol2).toNat + 4))).2.st = 4 then .got { r with b := (feedC ck0 (s.drop ((Lib.index s eol2).toNat + 4))).2.data } ((Lib.index s eol2).toNat + 4 + (feedC ck0 (s.drop ((Lib.index s eol2).toNat + 4))).1)
        else .more
      else if s.length < (Lib.index s eol2).toNat + 4 + n then .more
      else .got { r with b := (s.drop ((Lib.index s eol2).toNat + 4)).take n } ((Lib.index s eol2).toNat + 4 + n)
  else if 2048 ≤ s.length then .bad 431 else .more
theorem headQ_codes {ls : List (List UInt8)} {c : Nat} (h : headQ ls = .bad c) : c = 400 ∨ c = 413 ∨ c = 431 := by
  unfold headQ at h
  dsimp only at h
  repeat' split at h
  all_goals (first | (injection h with h; omega) | cases h)
theorem headQ_body {ls : List (List UInt8)} {r : Rq} {n : Nat} {ch : Bool} (h : headQ ls = .good r n ch) : r.b = [] ∧ n ≤ 4096 := by
  unfold headQ at h
  dsimp only at h
  repeat' split at h
  all_goals (first | (injection h with h1 h2 h3; subst h1; exact ⟨rfl, by omega⟩) | cases h)
theorem bad_st {c : Ck} (h : CkOk c) (hb : c.bad ≠ 0) : c.st = 4 := by
  by_cases e : c.st = 4
  · exact e
  · exact absurd (h.live e).1 hb
theorem ck0_feed (s : List UInt8) : CkOk (feedC ck0 s).2 := feed_ok s ck0_ok
theorem oneQ_codes {s : List UInt8} {c : Nat} (h : oneQ s = .bad c) : c = 400 ∨ c = 413 ∨ c = 431 := by
  unfold oneQ at h
  split at h
  · cases hh : headQ (splitE (s.take (Lib.index s eol2).toNat)) with
    | bad k => rw [hh] at h; injection h with h; subst h; exact headQ_codes hh
    | good r n ch =>
      rw [hh] at h
      dsimp only at h
      have := (ck0_feed (s.drop ((Lib.index s eol2).toNat + 4))).codes
      repeat' split at h
      all_goals (first | (injection h with h; omega) | cases h)
  · split at h
    · injection h with h; omega
    · cases h
/-- How the head's end is found, with more behind it. -/
theorem index_app {s : List UInt8} (t : List UInt8) (h : 0 ≤ Lib.index s eol2) : Lib.index (s ++ t) eol2 = Lib.index s eol2 := by
  obtain ⟨k, hk⟩ : ∃ k : Nat, Lib.index s eol2 = k := ⟨(Lib.index s eol2).toNat, by omega⟩
  rcases Lib.index_spec s eol2 with ⟨e, _⟩ | ⟨i, e, hi, ho, hno⟩
  · omega
  · have h4 := Lib.index_room s eol2 (by rw [e]; omega)
    rw [e] at h4 ⊢
    have e4 : eol2.length = 4 := rfl
    rw [e4] at h4
    have ht : (s ++ t).take s.length = s := by simp
    refine index_of ?_ (by rw [List.length_append]; omega) (fun j hj => ?_)
    · exact (occ_take (k := s.length) (by rw [ht]; exact ho) (by decide)).1
    · cases hx : Lib.occAt (s ++ t) eol2 j with
      | false => rfl
      | true =>
        have := occ_into (k := s.length) hx (by rw [e4]; omega)
        rw [ht, hno j hj] at this
        cases this
theorem index_le {s : List UInt8} (h : 0 ≤ Lib.index s eol2) : (Lib.index s eol2).toNat + 4 ≤ s.length := by
  have h4 := Lib.index_room s eol2 h
  have e4 : eol2.length = 4 := rfl
  rw [e4] at h4; omega
/-- Where bytes of at least 2048 have no head, more bytes give none. -/
theorem index_late {s : List UInt8} (t : List UInt8) (hs : 2048 ≤ s.length) (h : (decide (0 ≤ Lib.index s eol2) && decide (Lib.index s eol2 + 4 ≤ 2048)) = false) : (decide (0 ≤ Lib.index (s ++ t) eol2) && decide (Lib.index (s ++ t) eol2 + 4 ≤ 2048)) = false := by
  by_cases h0 : 0 ≤ Lib.index s eol2
  · rw [index_app t h0]; exact h
  · rw [Bool.and_eq_false_iff]
    by_cases h1 : 0 ≤ Lib.index (s ++ t) eol2
    · refine .inr (decide_eq_false fun h2 => h0 ?_)
      obtain ⟨k, hk⟩ : ∃ k : Nat, Lib.index (s ++ t) eol2 = k := ⟨(Lib.index (s ++ t) eol2).toNat, by omega⟩
      have := index_cut (k := s.length) hk
      rw [show (s ++ t).take s.length = s by simp] at this
      rcases this with e | ⟨_, e⟩
      · -- the head lies within the first 2048 bytes
        rcases Lib.index_spec (s ++ t) eol2 with ⟨e2, _⟩ | ⟨i, e2, hi, ho, hno⟩
        · omega
        · rw [hk] at e2
          have hik : i = k := by omega
          subst hik
          rw [hk] at h2
          have := occ_into (k := s.length) ho (by have e4 : eol2.length = 4 := rfl; rw [e4]; omega)
          rw [show (s ++ t).take s.length = s by simp] at this
          rcases Lib.index_spec s eol2 with ⟨_, hno2⟩ | ⟨j, e3, _⟩
          · have := hno2 i (by omega)
            simp_all
          · omega
      · omega
    · exact .inl (decide_eq_false h1)
theorem take_app_le {s t : List UInt8} {k : Nat} (h : k ≤ s.length) : (s ++ t).take k = s.take k := List.take_append_of_le_length h
theorem drop_app_le {s t : List UInt8} {k : Nat} (h : k ≤ s.length) : (s ++ t).drop k = s.drop k ++ t := List.drop_append_of_le_length h
/-- What is settled stays, whatever stands behind. -/
theorem one_app (s t : List UInt8) : match oneQ s with
    | .more => True
    | .bad c => oneQ (s ++ t) = .bad c
    | .got r n => oneQ (s ++ t) = .got r n ∧ n ≤ s.length ∧ 4 ≤ n := by
  cases hH : (decide (0 ≤ Lib.index s eol2) && decide (Lib.index s eol2 + 4 ≤ 2048)) with
  | true =>
    have hH' := hH
    simp only [Bool.and_eq_true, decide_eq_true_eq] at hH
    have hi := index_app t hH.1
    have hle := index_le hH.1
    obtain ⟨k, hk⟩ : ∃ k, (Lib.index s eol2).toNat = k := ⟨_, rfl⟩
    have h2 : oneQ (s ++ t) = match headQ (splitE (s.take k)) with
      | .bad c => .bad c
      | .good r n ch =>
        if ch then
          if (feedC ck0 (s.drop (k + 4) ++ t)).2.bad ≠ 0 then .bad (feedC ck0 (s.drop (k + 4) ++ t)).2.bad
          else if (feedC ck0 (s.drop (k + 4) ++ t)).2.st = 4 then .got { r with b := (feedC ck0 (s.drop (k + 4) ++ t)).2.data } (k + 4 + (feedC ck0 (s.drop (k + 4) ++ t)).1)
          else .more
        else if s.length + t.length < k + 4 + n then .more
        else .got { r with b := (s.drop (k + 4) ++ t).take n } (k + 4 + n) := by
      unfold oneQ
      rw [hi, hH', if_pos rfl, hk, take_app_le (by omega), drop_app_le (by omega), List.length_append]
    have h1 : oneQ s = match headQ (splitE (s.take k)) with
      | .bad c => .bad c
      | .good r n ch =>
        if ch then
          if (feedC ck0 (s.drop (k + 4))).2.bad ≠ 0 then .bad (feedC ck0 (s.drop (k + 4))).2.bad
          else if (feedC ck0 (s.drop (k + 4))).2.st = 4 then .got { r with b := (feedC ck0 (s.drop (k + 4))).2.data } (k + 4 + (feedC ck0 (s.drop (k + 4))).1)
          else .more
        else if s.length < k + 4 + n then .more
        else .got { r with b := (s.drop (k + 4)).take n } (k + 4 + n) := by
      unfold oneQ
      rw [hH', if_pos rfl, hk]
    rw [h1, h2]
    rw [hk] at hle
    have hfl : ∀ x, (feedC ck0 x).1 ≤ x.length := fun x => feed_le x ck0
    cases headQ (splitE (s.take k)) with
    | bad c => rfl
    | good r n ch =>
      dsimp only
      cases ch with
      | true =>
        simp only [if_true]
        have hfa := feed_app (s.drop (k + 4)) t ck0
        have hok := ck0_feed (s.drop (k + 4))
        have hl := hfl (s.drop (k + 4))
        rw [List.length_drop] at hl
        by_cases hb : (feedC ck0 (s.drop (k + 4))).2.bad = 0
        · rw [if_neg (by simpa using hb)]
          by_cases h4 : (feedC ck0 (s.drop (k + 4))).2.st = 4
          · rw [if_pos h4]
            rw [feed_over h4 t] at hfa
            dsimp only
            rw [hfa]
            dsimp only
            rw [if_neg (by simpa using hb), if_pos h4]
            exact ⟨rfl, by omega, by omega⟩
          · rw [if_neg h4]; trivial
        · rw [if_pos hb]
          have h4 := bad_st hok hb
          rw [feed_over h4 t] at hfa
          dsimp only
          rw [hfa]
          dsimp only
          rw [if_pos hb]
      | false =>
        simp only [Bool.false_eq_true, if_false]
        by_cases hn : s.length < k + 4 + n
        · rw [if_pos hn]; trivial
        · rw [if_neg hn]
          dsimp only
          rw [if_neg (by omega), List.take_append_of_le_length (by rw [List.length_drop]; omega)]
          exact ⟨rfl, by omega, by omega⟩
  | false =>
    by_cases h8 : 2048 ≤ s.length
    · have h1 : oneQ s = .bad 431 := by unfold oneQ; rw [hH, if_neg (by simp), if_pos h8]
      rw [h1]
      dsimp only
      unfold oneQ
      rw [index_late t h8 hH, if_neg (by simp), if_pos (by rw [List.length_append]; omega)]
    · have h1 : oneQ s = .more := by unfold oneQ; rw [hH, if_neg (by simp), if_neg h8]
      rw [h1]; trivial
/-- A parser stands as its bytes say. -/
inductive Stands (p : Ps) (s : List UInt8) : Prop where
  | wrong (h0 : p.bad ≠ 0) (h : ∀ t, oneQ (s ++ t) = .bad p.bad)
  | fresh (h : p = { ps0 with inp := s })
  | plain (r : Rq) (n : Nat) (h0 : p.bad = 0) (hh : p.head = true) (hi : (decide (0 ≤ Lib.index s eol2) && decide (Lib.index s eol2 + 4 ≤ 2048)) = true)
      (hq : headQ (splitE (s.take (Lib.index s eol2).toNat)) = .good r n false) (hl : p.len = n) (hr : p.r = r) (hc : p.ch = none)
      (hu : p.und = s.take ((Lib.index s eol2).toNat + 4)) (hp : p.inp = s.drop ((Lib.index s eol2).toNat + 4))
  | chunks (r : Rq) (n : Nat) (c : Ck) (u : List UInt8) (h0 : p.bad = 0) (hh : p.head = true) (hi : (decide (0 ≤ Lib.index s eol2) && decide (Lib.index s eol2 + 4 ≤ 2048)) = true)
      (hq : headQ (splitE (s.take (Lib.index s eol2).toNat)) = .good r n true) (hr : { p.r with b := [] } = { r with b := [] }) (hc : p.ch = some c) (hl : p.len = n)
      (hf : feedC ck0 u = (u.length, c)) (hok : c.st ≠ 4)
      (hu : p.und = s.take ((Lib.index s eol2).toNat + 4) ++ u) (hp : s.drop ((Lib.index s eol2).toNat + 4) = u ++ p.inp)
theorem stands_new : Stands ps0 [] := .fresh rfl
theorem Stands.all {p : Ps} {s : List UInt8} (h : Stands p s) (h0 : p.bad = 0) : p.und ++ p.inp = s := by
  cases h with
  | wrong h1 => exact absurd h0 h1
  | fresh h => subst h; rfl
  | plain r n _ hh hi hq hl hr hc hu hp => rw [hu, hp, List.take_append_drop]
  | chunks r n c u _ hh hi hq hr hc hl hf hok hu hp => rw [hu, List.append_assoc, ← hp, List.take_append_drop]
theorem Stands.feed {p : Ps} {s : List UInt8} (h : Stands p s) (t : List UInt8) : Stands (feedQ p t) (s ++ t) := by
  cases h with
  | wrong h0 h =>
    unfold feedQ
    rw [if_neg h0]
    exact .wrong h0 (fun x => by rw [List.append_assoc]; exact h _)
  | fresh h =>
    subst h
    exact .fresh rfl
  | plain r n h0 hh hi hq hl hr hc hu hp =>
    unfold feedQ
    rw [if_pos h0]
    have hi2 := hi
    simp only [Bool.and_eq_true, decide_eq_true_eq] at hi2
    have ha := index_app t hi2.1
    have hle := index_le hi2.1
    refine .plain r n h0 hh (by rw [ha]; exact hi) ?_ hl hr hc ?_ ?_
    · rw [ha, take_app_le (by omega)]; exact hq
    · rw [ha, take_app_le hle]; exact hu
    · rw [ha, drop_app_le hle]; dsimp only; rw [hp]
  | chunks r n c u h0 hh hi hq hr hc hl hf hok hu hp =>
    unfold feedQ
    rw [if_pos h0]
    have hi2 := hi
    simp only [Bool.and_eq_true, decide_eq_true_eq] at hi2
    have ha := index_app t hi2.1
    have hle := index_le hi2.1
    refine .chunks r n c u h0 hh (by rw [ha]; exact hi) ?_ hr hc hl hf hok ?_ ?_
    · rw [ha, take_app_le (by omega)]; exact hq
    · rw [ha, take_app_le hle]; exact hu
    · rw [ha, drop_app_le hle, hp, List.append_assoc]
theorem one_sticky {s : List UInt8} {c : Nat} (h : oneQ s = .bad c) (t : List UInt8) : oneQ (s ++ t) = .bad c := by
  have := one_app s t
  rw [h] at this; exact this
/-- What Next comes to. -/
def NextOk (p' : Ps) (o : Option Rq) (s : List UInt8) : Prop := match oneQ s with
  | .more => o = none ∧ p'.bad = 0 ∧ Stands p' s
  | .bad c => o = none ∧ p'.bad = c ∧ Stands p' s
  | .got r n => o = some r ∧ p' = { ps0 with inp := s.drop n }
theorem nextOk_bad {p' : Ps} {o : Option Rq} {s : List UInt8} {c : Nat} (h : oneQ s = .bad c) (ho : o = none) (hb : p'.bad = c) : NextOk p' o s := by
  have hc := oneQ_codes h
  unfold NextOk
  rw [h]
  exact ⟨ho, hb, .wrong (by omega) (fun t => by rw [hb]; exact one_sticky h t)⟩
theorem body_plain {p : Ps} {s : List UInt8} {r : Rq} {n : Nat} (h0 : p.bad = 0) (hh : p.head = true) (hi : (decide (0 ≤ Lib.index s eol2) && decide (Lib.index s eol2 + 4 ≤ 2048)) = true)
      (hq : headQ (splitE (s.take (Lib.index s eol2).toNat)) = .good r n false) (hl : p.len = n) (hr : p.r = r) (hc : p.ch = none)
      (hu : p.und = s.take ((Lib.index s eol2).toNat + 4)) (hp : p.inp = s.drop ((Lib.index s eol2).toNat + 4)) :
    NextOk (if (bodyQ p).2 then ({ ps0 with inp := (bodyQ p).1.inp }, some (bodyQ p).1.r) else ((bodyQ p).1, none)).1 (if (bodyQ p).2 then ({ ps0 with inp := (bodyQ p).1.inp }, some (bodyQ p).1.r) else ((bodyQ p).1, none)).2 s := by
  have hi2 := hi
  simp only [Bool.and_eq_true, decide_eq_true_eq] at hi2
  have hle := index_le hi2.1
  have hb : bodyQ p = if p.inp.length < p.len then (p, false) else ({ p with r := { p.r with b := p.inp.take p.len }, inp := p.inp.drop p.len }, true) := by unfold bodyQ; rw [hc]
  have ho : oneQ s = if s.length < (Lib.index s eol2).toNat + 4 + n then .more else .got { r with b := (s.drop ((Lib.index s eol2).toNat + 4)).take n } ((Lib.index s eol2).toNat + 4 + n) := by
    unfold oneQ
    rw [hi, if_pos rfl, hq]
    simp
  have hlen : p.inp.length = s.length - ((Lib.index s eol2).toNat + 4) := by rw [hp, List.length_drop]
  unfold NextOk
  rw [hb, ho]
  by_cases hs : p.inp.length < p.len
  · rw [if_pos hs, if_pos (by omega)]
    exact ⟨rfl, h0, .plain r n h0 hh hi hq hl hr hc hu hp⟩
  · rw [if_neg hs, if_neg (by omega)]
    dsimp only
    rw [if_pos rfl]
    refine ⟨?_, ?_⟩
    · dsimp only; rw [hr, hp, hl]
    · dsimp only; rw [hp, hl, List.drop_drop]
theorem body_chunks {p : Ps} {s : List UInt8} {r : Rq} {n : Nat} {c : Ck} {u : List UInt8} (_h0 : p.bad = 0) (hh : p.head = true) (hi : (decide (0 ≤ Lib.index s eol2) && decide (Lib.index s eol2 + 4 ≤ 2048)) = true)
      (hq : headQ (splitE (s.take (Lib.index s eol2).toNat)) = .good r n true) (hr : { p.r with b := [] } = { r with b := [] }) (hc : p.ch = some c) (hl : p.len = n)
      (hf : feedC ck0 u = (u.length, c)) (_hok : c.st ≠ 4)
      (hu : p.und = s.take ((Lib.index s eol2).toNat + 4) ++ u) (hp : s.drop ((Lib.index s eol2).toNat + 4) = u ++ p.inp) :
    NextOk (if (bodyQ p).2 then ({ ps0 with inp := (bodyQ p).1.inp }, some (bodyQ p).1.r) else ((bodyQ p).1, none)).1 (if (bodyQ p).2 then ({ ps0 with inp := (bodyQ p).1.inp }, some (bodyQ p).1.r) else ((bodyQ p).1, none)).2 s := by
  have hi2 := hi
  simp only [Bool.and_eq_true, decide_eq_true_eq] at hi2
  have hle := index_le hi2.1
  obtain ⟨⟨m, c'⟩, hfc⟩ : ∃ x, feedC c p.inp = x := ⟨_, rfl⟩
  have hfa := feed_app u p.inp ck0
  rw [hf] at hfa
  dsimp only at hfa
  rw [hfc, ← hp] at hfa
  dsimp only at hfa
  have hcok := ck0_feed (s.drop ((Lib.index s eol2).toNat + 4))
  rw [hfa] at hcok
  dsimp only at hcok
  have hm := feed_le p.inp c
  rw [hfc] at hm
  dsimp only at hm
  have hb : bodyQ p = ({ takesQ p m with ch := some c', bad := c'.bad, r := { p.r with b := c'.data } }, decide (c'.st = 4 ∧ c'.bad = 0)) := by unfold bodyQ; rw [hc]; dsimp only; rw [hfc]
  have ho : oneQ s = if c'.bad ≠ 0 then .bad c'.bad else if c'.st = 4 then .got { r with b := c'.data } ((Lib.index s eol2).toNat + 4 + (u.length + m)) else .more := by
    unfold oneQ
    rw [hi, if_pos rfl, hq]
    simp only [if_true]
    rw [hfa]
  by_cases hcb : c'.bad = 0
  · by_cases h4 : c'.st = 4
    · rw [if_neg (by simpa using hcb), if_pos h4] at ho
      unfold NextOk
      rw [hb, ho]
      dsimp only
      rw [decide_eq_true (show c'.st = 4 ∧ c'.bad = 0 from ⟨h4, hcb⟩), if_pos rfl]
      refine ⟨?_, ?_⟩
      · dsimp only
        have e1 : { p.r with b := c'.data } = { r with b := c'.data } := by
          have : ({ ({ p.r with b := [] } : Rq) with b := c'.data }) = { ({ r with b := [] } : Rq) with b := c'.data } := by rw [hr]
          exact this
        rw [e1]
      · dsimp only [takesQ]
        have e2 : p.inp.drop m = s.drop ((Lib.index s eol2).toNat + 4 + (u.length + m)) := by
          rw [← List.drop_drop, hp, ← List.drop_drop, List.drop_left]
        rw [e2]
    · rw [if_neg (by simpa using hcb), if_neg h4] at ho
      have hmall : m = p.inp.length := by
        by_cases e : m < p.inp.length
        · have := feed_short p.inp c (by rw [hfc]; exact e)
          rw [hfc] at this
          exact absurd this h4
        · omega
      unfold NextOk
      rw [hb, ho]
      dsimp only
      rw [decide_eq_false (show ¬ (c'.st = 4 ∧ c'.bad = 0) from fun e => h4 e.1), if_neg (by simp)]
      refine ⟨rfl, hcb, .chunks r n c' (u ++ p.inp) hcb hh hi hq ?_ rfl hl ?_ h4 ?_ ?_⟩
      · exact hr
      · rw [← hp, hfa, hp, List.length_append, hmall]
      · dsimp only [takesQ]
        rw [hu, hmall, List.take_length, List.append_assoc]
      · dsimp only [takesQ]
        rw [hmall, List.drop_length, List.append_nil, hp]
  · rw [if_pos hcb] at ho
    refine nextOk_bad ho ?_ ?_
    · rw [hb]
      dsimp only
      rw [decide_eq_false (show ¬ (c'.st = 4 ∧ c'.bad = 0) from fun e => hcb e.2), if_neg (by simp)]
    · rw [hb]
      dsimp only
      rw [decide_eq_false (show ¬ (c'.st = 4 ∧ c'.bad = 0) from fun e => hcb e.2), if_neg (by simp)]
theorem Stands.next {p : Ps} {s : List UInt8} (h : Stands p s) : NextOk (nextQ p).1 (nextQ p).2 s := by
  cases h with
  | wrong h0 h =>
    have h1 := h []
    rw [List.append_nil] at h1
    have e : nextQ p = (p, none) := by unfold nextQ; rw [if_pos h0]
    rw [e]
    exact nextOk_bad h1 rfl rfl
  | plain r n h0 hh hi hq hl hr hc hu hp =>
    have e : nextQ p = if (bodyQ p).2 then ({ ps0 with inp := (bodyQ p).1.inp }, some (bodyQ p).1.r) else ((bodyQ p).1, none) := by
      unfold nextQ
      rw [if_neg (by simpa using h0)]
      dsimp only
      rw [if_pos hh, hh, if_neg (by simp)]
    rw [e]
    exact body_plain h0 hh hi hq hl hr hc hu hp
  | chunks r n c u h0 hh hi hq hr hc hl hf hok hu hp =>
    have e : nextQ p = if (bodyQ p).2 then ({ ps0 with inp := (bodyQ p).1.inp }, some (bodyQ p).1.r) else ((bodyQ p).1, none) := by
      unfold nextQ
      rw [if_neg (by simpa using h0)]
      dsimp only
      rw [if_pos hh, hh, if_neg (by simp)]
    rw [e]
    exact body_chunks h0 hh hi hq hr hc hl hf hok hu hp
  | fresh h =>
    subst h
    have e : nextQ { ps0 with inp := s } = if !(headsQ { ps0 with inp := s }).head then (headsQ { ps0 with inp := s }, none) else if (bodyQ (headsQ { ps0 with inp := s })).2 then ({ ps0 with inp := (bodyQ (headsQ { ps0 with inp := s })).1.inp }, some (bodyQ (headsQ { ps0 with inp := s })).1.r) else ((bodyQ (headsQ { ps0 with inp := s })).1, none) := by
      unfold nextQ
      rw [if_neg (by simp [ps0])]
      rfl
    rw [e]
    cases hH : (decide (0 ≤ Lib.index s eol2) && decide (Lib.index s eol2 + 4 ≤ 2048)) with
    | false =>
      by_cases h8 : 2048 ≤ s.length
      · have h1 : oneQ s = .bad 431 := by unfold oneQ; rw [hH, if_neg (by simp), if_pos h8]
        have h2 : headsQ { ps0 with inp := s } = { ps0 with inp := s, bad := 431 } := by
          unfold headsQ
          rw [hH, if_neg (by simp), if_pos h8]
        rw [h2]
        exact nextOk_bad h1 rfl rfl
      · have h1 : oneQ s = .more := by unfold oneQ; rw [hH, if_neg (by simp), if_neg h8]
        have h2 : headsQ { ps0 with inp := s } = { ps0 with inp := s } := by
          unfold headsQ
          rw [hH, if_neg (by simp), if_neg h8]
        rw [h2]
        unfold NextOk
        rw [h1]
        exact ⟨rfl, rfl, .fresh rfl⟩
    | true =>
      have hi2 := hH
      simp only [Bool.and_eq_true, decide_eq_true_eq] at hi2
      have hle := index_le hi2.1
      cases hq : headQ (splitE (s.take (Lib.index s eol2).toNat)) with
      | bad c =>
        have hc := headQ_codes hq
        have h1 : oneQ s = .bad c := by unfold oneQ; rw [hH, if_pos rfl, hq]
        have h3 : readsQ { ps0 with inp := s } (s.take (Lib.index s eol2).toNat) = { ps0 with inp := s, bad := c } := by unfold readsQ; rw [hq]
        have h2 : headsQ { ps0 with inp := s } = { ps0 with inp := s, bad := c } := by
          unfold headsQ
          rw [hH, if_pos rfl]
          dsimp only
          rw [h3, if_neg (by show ¬ c = 0; omega)]
        rw [h2]
        exact nextOk_bad h1 rfl rfl
      | good r n ch =>
        have h3 : readsQ { ps0 with inp := s } (s.take (Lib.index s eol2).toNat) = { ps0 with inp := s, r := r, len := n, ch := if ch then some ck0 else none, bad := 0 } := by unfold readsQ; rw [hq]; rfl
        have h2 : headsQ { ps0 with inp := s } = takesQ { ps0 with inp := s, r := r, len := n, ch := if ch then some ck0 else none, bad := 0, head := true } ((Lib.index s eol2).toNat + 4) := by
          unfold headsQ
          rw [hH, if_pos rfl]
          dsimp only
          rw [h3, if_pos rfl]
        rw [h2]
        rw [if_neg (by simp [takesQ])]
        have hb := headQ_body hq
        cases ch with
        | false =>
          refine body_plain rfl rfl hH hq rfl rfl rfl ?_ rfl
          simp [takesQ, ps0]
        | true =>
          refine body_chunks (c := ck0) (u := []) rfl rfl hH hq rfl rfl rfl rfl (by decide) ?_ ?_
          · simp [takesQ, ps0]
          · simp [takesQ]
theorem Stands.idle {p : Ps} {s : List UInt8} (h : Stands p s) : idleQ p = (decide (p.bad = 0) && s.isEmpty) := by
  unfold idleQ
  by_cases h0 : p.bad = 0
  · rw [decide_eq_true h0, ← h.all h0]
    cases p.inp <;> cases p.und <;> rfl
  · rw [decide_eq_false h0]; rfl
theorem Stands.rest {p : Ps} {s : List UInt8} (h : Stands p s) : restQ p = if p.bad ≠ 0 then (p, []) else (ps0, s) := by
  unfold restQ
  by_cases h0 : p.bad = 0
  · rw [if_neg (by simpa using h0), if_neg (by simpa using h0), h.all h0]
  · rw [if_pos h0, if_pos h0]
/-- The requests of bytes, what is wrong behind them, what is left. -/
inductive Alls : List UInt8 → List Rq → Nat → List UInt8 → Prop where
  | more {s} (h : oneQ s = .more) : Alls s [] 0 s
  | bad {s c} (h : oneQ s = .bad c) : Alls s [] c []
  | got {s r n l c t} (h : oneQ s = .got r n) (k : Alls (s.drop n) l c t) : Alls s (r :: l) c t
theorem one_got {s : List UInt8} {r : Rq} {n : Nat} (h : oneQ s = .got r n) : n ≤ s.length ∧ 4 ≤ n := by
  have := one_app s []
  rw [h] at this
  exact this.2
theorem alls_total : ∀ (m : Nat) (s : List UInt8), s.length ≤ m → ∃ l c t, Alls s l c t
  | m, s, hm => by
    cases h : oneQ s with
    | more => exact ⟨_, _, _, .more h⟩
    | bad c => exact ⟨_, _, _, .bad h⟩
    | got r n =>
      have := one_got h
      cases m with
      | zero => omega
      | succ m =>
        obtain ⟨l, c, t, k⟩ := alls_total m (s.drop n) (by rw [List.length_drop]; omega)
        exact ⟨_, _, _, .got h k⟩
theorem alls_bad {s : List UInt8} {l : List Rq} {c : Nat} {t : List UInt8} (h : Alls s l c t) : (c = 0 ∨ c = 400 ∨ c = 413 ∨ c = 431) ∧ (c ≠ 0 → t = []) := by
  induction h with
  | more h => exact ⟨.inl rfl, fun e => absurd rfl e⟩
  | bad h => exact ⟨.inr (oneQ_codes h), fun _ => rfl⟩
  | got h k ih => exact ih
end Go.Proofs.YtpncfeaaffgkfaaGreatDoor
