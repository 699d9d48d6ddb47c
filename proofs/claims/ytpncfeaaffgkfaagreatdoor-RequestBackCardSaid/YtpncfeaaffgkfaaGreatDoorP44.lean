/-
  Plain laws of requests: the bytes of a request that may be are read as that request; no program in sight.
-/
import Derived.Test.YtpncfeaaffgkfaaGreatDoorP41
import Derived.Test.YtpncfeaaffgkfaaGreatDoorP8
import Derived.Lib.ItoaMem
namespace Go.Proofs.YtpncfeaaffgkfaaGreatDoor

theorem tok_no13 {l : List UInt8} (h : tokB l = true) : ∀ c ∈ l, c ≠ 13 := fun c hc e => by
  subst e
  unfold tokB at h
  rw [Bool.and_eq_true] at h
  exact absurd (List.all_eq_true.1 h.2 _ hc) (by decide)
theorem val_no13 {l : List UInt8} (h : l.all isVal = true) : ∀ c ∈ l, c ≠ 13 := fun c hc e => by
  subst e
  exact absurd (List.all_eq_true.1 h _ hc) (by decide)
theorem vis_no13 {l : List UInt8} (h : l.all isVis = true) : ∀ c ∈ l, c ≠ 13 := fun c hc e => by
  subst e
  exact absurd (List.all_eq_true.1 h _ hc) (by decide)
theorem tok_ne {l : List UInt8} (h : tokB l = true) : l ≠ [] := by
  rintro rfl; cases h
theorem parse_self {n v : List UInt8} (h : parseB (n ++ [58] ++ v) = (n, v, true)) : tokB n = true ∧ v.all isVal = true ∧ trimB v = v := by
  rcases parse_cases (n ++ [58] ++ v) with e | ⟨m, x, _, h2, h3, h4⟩
  · rw [e] at h; simp at h
  · rw [h4] at h
    simp only [Prod.mk.injEq, and_true] at h
    obtain ⟨rfl, rfl⟩ := h
    exact ⟨h2, trim_all h3, trim_idem x⟩
theorem parse_blank {n v : List UInt8} (hn : tokB n = true) (hv : v.all isVal = true) (ht : trimB v = v) : parseB (n ++ [58, 32] ++ v) = (n, v, true) := by
  have e : n ++ [58, 32] ++ v = n ++ [58] ++ ([32] ++ v) := by simp
  have h1 : ([32] ++ v).all isVal = true := by rw [List.all_append, hv]; rfl
  have h2 : trimB ([32] ++ v) = v := by
    have := trim_pads (p := [32]) (q := []) (l := v) (by decide) rfl
    rw [List.append_nil] at this
    rw [this, ht]
  rw [e, parse_colon hn, if_pos h1, h2]
theorem line_fine {n v : List UInt8} (hn : tokB n = true) (hv : v.all isVal = true) : LineOk (n ++ [58, 32] ++ v) := by
  refine ⟨by have := tok_ne hn; simp, fun c hc => ?_⟩
  rw [List.mem_append, List.mem_append] at hc
  rcases hc with (hc | hc) | hc
  · exact tok_no13 hn c hc
  · intro e; subst e; simp at hc
  · exact val_no13 hv c hc
theorem valD_snoc : ∀ (l : List UInt8) (a : Nat) (c : UInt8), valD a (l ++ [c]) = valD a l * 10 + (c.toNat - 48)
  | [], a, c => rfl
  | d :: t, a, c => by
    rw [List.cons_append]
    exact valD_snoc t (a * 10 + (d.toNat - 48)) c
theorem digit_of {d : Nat} (h : d < 10) : qDig (UInt8.ofNat (48 + d)) = true ∧ (UInt8.ofNat (48 + d)).toNat = 48 + d := by
  have e : (UInt8.ofNat (48 + d)).toNat = 48 + d := by rw [UInt8.toNat_ofNat']; omega
  exact ⟨qDig_iff.2 (by rw [e]; omega), e⟩
theorem decDigits_all : ∀ (k n : Nat), n ≤ k → (Lib.decDigits n).all qDig = true ∧ valD 0 (Lib.decDigits n) = n ∧ Lib.decDigits n ≠ []
  | 0, n, h => by
    obtain rfl : n = 0 := by omega
    rw [Lib.decDigits_one (by omega)]
    exact ⟨by decide, by decide, by simp⟩
  | k + 1, n, h => by
    by_cases h10 : n < 10
    · rw [Lib.decDigits_one h10]
      obtain ⟨h1, h2⟩ := digit_of h10
      refine ⟨by rw [List.all_cons, h1]; rfl, ?_, by simp⟩
      show 0 * 10 + ((UInt8.ofNat (48 + n)).toNat - 48) = n
      rw [h2]; omega
    · obtain ⟨i1, i2, i3⟩ := decDigits_all k (n / 10) (by omega)
      rw [Lib.decDigits, dif_neg h10]
      obtain ⟨h1, h2⟩ := digit_of (Nat.mod_lt n (by omega : 0 < 10))
      refine ⟨by rw [List.all_append, i1, List.all_cons, h1]; rfl, ?_, by simp⟩
      rw [valD_snoc, i2, h2]; omega
theorem decDigits_short : ∀ (j n : Nat), n < 10 ^ (j + 1) → (Lib.decDigits n).length ≤ j + 1
  | 0, n, h => by rw [Lib.decDigits_one (by simpa using h)]; simp
  | j + 1, n, h => by
    by_cases h10 : n < 10
    · rw [Lib.decDigits_one h10]; simp
    · rw [Lib.decDigits, dif_neg h10, List.length_append]
      have := decDigits_short j (n / 10) (by rw [Nat.div_lt_iff_lt_mul (by omega)]; rw [Nat.pow_succ] at h; exact h)
      simp; omega
theorem dig_noblank {c : UInt8} (h : qDig c = true) : isBlank c = false := by
  revert h
  exact u8_all (p := fun c => qDig c = true → isBlank c = false) (by decide +kernel) c
theorem dig_isVal {c : UInt8} (h : qDig c = true) : isVal c = true := by
  revert h
  exact u8_all (p := fun c => qDig c = true → isVal c = true) (by decide +kernel) c
theorem trim_digs {l : List UInt8} (h : l.all qDig = true) : trimB l = l := by
  have hd : ∀ x ∈ l, isBlank x = false := fun x hx => dig_noblank (List.all_eq_true.1 h x hx)
  have h1 : ∀ m : List UInt8, (∀ x ∈ m, isBlank x = false) → m.dropWhile isBlank = m := fun m hm => by
    cases m with
    | nil => rfl
    | cons y t => rw [List.dropWhile_cons, hm y (by simp)]; rfl
  rw [trimB_eq]
  unfold ldrop rdrop
  rw [h1 l.reverse (fun x hx => hd x (by simpa using hx)), List.reverse_reverse, h1 _ hd]
/-- A length as a text. -/
def numL (n : Nat) : List UInt8 := Lib.itoa (n : Int)
theorem numL_law {n : Nat} (h : n ≤ 4096) : (numL n).all qDig = true ∧ numL n ≠ [] ∧ numQ (numL n) = n ∧ (numL n).length ≤ 4 := by
  unfold numL
  rw [Lib.itoa_nonneg]
  obtain ⟨h1, h2, h3⟩ := decDigits_all n n (Nat.le_refl _)
  refine ⟨h1, h3, ?_, decDigits_short 3 n (by omega)⟩
  obtain ⟨d, k1, _, k3⟩ := number_num h3 h1
  have k4 := numD_val (Lib.decDigits n) 0 h1
  rw [h2, show min 0 5000 = 0 from rfl, show min n 5000 = n by omega] at k4
  unfold numberD at k1
  rw [if_neg (by simpa using h3), k4] at k1
  injection k1 with k1
  subst k1
  rcases k3 with k3 | k3
  · exact k3.2
  · omega
def hereL : List UInt8 := [104, 101, 114, 101]
/-- The four names that say something of a request. -/
def names4 : List (List UInt8) := [[104, 111, 115, 116], [99, 111, 110, 116, 101, 110, 116, 45, 108, 101, 110, 103, 116, 104], [116, 114, 97, 110, 115, 102, 101, 114, 45, 101, 110, 99, 111, 100, 105, 110, 103], [99, 111, 110, 110, 101, 99, 116, 105, 111, 110]]
def FieldMay (f : Fl) : Prop := parseB (f.1 ++ [58] ++ f.2) = (f.1, f.2, true) ∧ ∀ k ∈ names4, alikeB f.1 k = false
/-- A request that may be. -/
structure MayQ (r : Rq) : Prop where
  pq : (targetB (r.p ++ 63 :: r.q)).2.2 = true
  p : (targetB r.p).2.2 = true
  pp : (targetB r.p).1 = r.p
  m : tokB r.m = true
  b : r.b.length ≤ 4096
  n : r.fs.length ≤ 30
  fs : ∀ f ∈ r.fs, FieldMay f
def targQ (r : Rq) : List UInt8 := if r.q.isEmpty then r.p else r.p ++ 63 :: r.q
def fldQ (f : Fl) : List UInt8 := f.1 ++ [58, 32] ++ f.2
def wantF (r : Rq) : List Fl := (qHost, hereL) :: (r.fs ++ [(qLen, numL r.b.length)])
def headL (r : Rq) : List (List UInt8) := (r.m ++ 32 :: (targQ r ++ 32 :: pH11)) :: (wantF r).map fldQ
def bytesQ (r : Rq) : List UInt8 := (headL r).flatMap (· ++ eolL) ++ eolL ++ r.b
def wantQ (r : Rq) : Rq := { r with fs := wantF r, v := 11, c := false }
theorem MayQ.no63 {r : Rq} (h : MayQ r) : ∀ x ∈ r.p, x ≠ 63 := by
  have hp := h.p
  have hpp := h.pp
  obtain ⟨⟨p, q, b⟩, ht⟩ : ∃ x, targetB r.p = x := ⟨_, rfl⟩
  rw [ht] at hp hpp
  dsimp only at hp hpp
  subst hp hpp
  exact (targetB_true ht).2.2.2.2.1
theorem MayQ.target {r : Rq} (h : MayQ r) : targetB (targQ r) = (r.p, r.q, true) := by
  have h63 := h.no63
  unfold targQ
  cases hq : r.q with
  | nil =>
    have hp := h.p
    rw [target_ref] at hp
    rw [show ([] : List UInt8).isEmpty = true from rfl, if_pos rfl, target_ref]
    split at hp
    · rename_i hc
      rw [if_pos hc, cut_no63 h63]
    · cases hp
  | cons c t =>
    have hp := h.pq
    rw [target_ref] at hp
    rw [show (c :: t).isEmpty = false from rfl, if_neg (by simp), target_ref, ← hq]
    split at hp
    · rename_i hc
      rw [if_pos hc, cut_63 h63]
    · cases hp
theorem MayQ.line {r : Rq} (h : MayQ r) : lineB (r.m ++ 32 :: (targQ r ++ 32 :: pH11)) = (r.m, targQ r, 11, true) := by
  obtain ⟨h1, h2⟩ := target_vis h.target
  exact (lineB_of h.m h1 h2).2
theorem host_may : tokB qHost = true ∧ hereL.all isVal = true ∧ trimB hereL = hereL := by decide +kernel
theorem len_tok : tokB qLen = true := by decide +kernel
theorem MayQ.parts {r : Rq} (h : MayQ r) : ∀ f ∈ wantF r, tokB f.1 = true ∧ f.2.all isVal = true ∧ trimB f.2 = f.2 := fun f hf => by
  unfold wantF at hf
  rcases List.mem_cons.1 hf with e | hf
  · subst e; exact host_may
  · rcases List.mem_append.1 hf with hf | hf
    · exact parse_self (h.fs f hf).1
    · rw [List.mem_singleton] at hf
      subst hf
      have hd := (numL_law h.b).1
      refine ⟨len_tok, ?_, trim_digs hd⟩
      rw [List.all_eq_true] at hd ⊢
      exact fun x hx => dig_isVal (hd x hx)
theorem MayQ.lines {r : Rq} (h : MayQ r) : ∀ l ∈ headL r, LineOk l := fun l hl => by
  unfold headL at hl
  rcases List.mem_cons.1 hl with e | hl
  · subst e
    obtain ⟨h1, h2⟩ := target_vis h.target
    refine ⟨by simp, fun c hc => ?_⟩
    rcases List.mem_append.1 hc with hc | hc
    · exact tok_no13 h.m c hc
    · rcases List.mem_cons.1 hc with e | hc
      · subst e; decide
      · rcases List.mem_append.1 hc with hc | hc
        · exact vis_no13 h1 c hc
        · intro e; subst e; revert hc; decide
  · obtain ⟨f, hf, rfl⟩ := List.mem_map.1 hl
    obtain ⟨h1, h2, _⟩ := h.parts f hf
    exact line_fine h1 h2
theorem fieldsL_map : ∀ (fs : List Fl), (∀ f ∈ fs, tokB f.1 = true ∧ f.2.all isVal = true ∧ trimB f.2 = f.2) → fieldsL (fs.map fldQ) = some fs
  | [], _ => rfl
  | f :: t, h => by
    obtain ⟨h1, h2, h3⟩ := h f (List.mem_cons_self ..)
    have hp : parseB (fldQ f) = (f.1, f.2, true) := parse_blank h1 h2 h3
    rw [List.map_cons]
    unfold fieldsL
    rw [hp, if_pos rfl, fieldsL_map t (fun g hg => h g (List.mem_cons_of_mem _ hg))]
    rfl
theorem alike_low {a b : List UInt8} {c : List UInt8} (h : b.map lower = c.map lower) : alikeB a b = alikeB a c := by unfold alikeB; rw [h]
theorem MayQ.names {r : Rq} (h : MayQ r) : ∀ f ∈ r.fs, alikeB f.1 qHost = false ∧ alikeB f.1 qLen = false ∧ alikeB f.1 qTra = false ∧ alikeB f.1 qConn = false := fun f hf => by
  have k := (h.fs f hf).2
  refine ⟨?_, ?_, ?_, ?_⟩
  · rw [alike_low (c := [104, 111, 115, 116]) (by decide +kernel)]; exact k _ (by decide)
  · rw [alike_low (c := [99, 111, 110, 116, 101, 110, 116, 45, 108, 101, 110, 103, 116, 104]) (by decide +kernel)]; exact k _ (by decide)
  · rw [alike_low (c := [116, 114, 97, 110, 115, 102, 101, 114, 45, 101, 110, 99, 111, 100, 105, 110, 103]) (by decide +kernel)]; exact k _ (by decide)
  · rw [alike_low (c := [99, 111, 110, 110, 101, 99, 116, 105, 111, 110]) (by decide +kernel)]; exact k _ (by decide)
theorem filter_none {fs : List Fl} {n : List UInt8} (h : ∀ f ∈ fs, alikeB f.1 n = false) : fs.filter (fun f => alikeB f.1 n) = [] := by
  rw [List.filter_eq_nil_iff]
  intro f hf
  rw [h f hf]; simp
theorem MayQ.gets {r : Rq} (h : MayQ r) : getB (wantF r) qHost = (hereL, 1) ∧ getB (wantF r) qLen = (numL r.b.length, 1) ∧ (getB (wantF r) qTra).2 = 0 ∧ (wantF r).any closeF = false ∧ (wantF r).any (fun f => alikeB f.1 qLen && f.2 != (getB (wantF r) qLen).1) = false := by
  have k := h.names
  have f1 := filter_none (fun f hf => (k f hf).1)
  have f2 := filter_none (fun f hf => (k f hf).2.1)
  have f3 := filter_none (fun f hf => (k f hf).2.2.1)
  have g2 : getB (wantF r) qLen = (numL r.b.length, 1) := by
    unfold getB wantF
    rw [List.filter_cons, if_neg (show ¬ (alikeB qHost qLen = true) by decide +kernel), List.filter_append, f2, List.filter_cons, if_pos (show alikeB qLen qLen = true by decide +kernel)]
    rfl
  refine ⟨?_, g2, ?_, ?_, ?_⟩
  · unfold getB wantF
    rw [List.filter_cons, if_pos (show alikeB qHost qHost = true by decide +kernel), List.filter_append, f1, List.filter_cons, if_neg (show ¬ (alikeB qLen qHost = true) by decide +kernel)]
    rfl
  · unfold getB wantF
    rw [List.filter_cons, if_neg (show ¬ (alikeB qHost qTra = true) by decide +kernel), List.filter_append, f3, List.filter_cons, if_neg (show ¬ (alikeB qLen qTra = true) by decide +kernel)]
    rfl
  · rw [List.any_eq_false]
    intro f hf
    unfold wantF at hf
    unfold closeF
    rcases List.mem_cons.1 hf with e | hf
    · subst e
      rw [show alikeB qHost qConn = false by decide +kernel]; simp
    · rcases List.mem_append.1 hf with hf | hf
      · rw [(k f hf).2.2.2]; simp
      · rw [List.mem_singleton] at hf
        subst hf
        rw [show alikeB qLen qConn = false by decide +kernel]; simp
  · rw [List.any_eq_false, g2]
    intro f hf
    unfold wantF at hf
    rcases List.mem_cons.1 hf with e | hf
    · subst e
      rw [show alikeB qHost qLen = false by decide +kernel]; simp
    · rcases List.mem_append.1 hf with hf | hf
      · rw [(k f hf).2.1]; simp
      · rw [List.mem_singleton] at hf
        subst hf
        simp
theorem MayQ.length {r : Rq} (h : MayQ r) : lengthQ (wantF r) = r.b.length := by
  obtain ⟨_, g2, _, _, g5⟩ := h.gets
  obtain ⟨n1, n2, n3, _⟩ := numL_law h.b
  unfold lengthQ
  rw [g5, if_neg (by simp), g2, if_neg (by simp)]
  dsimp only
  rw [n1, show (numL r.b.length).isEmpty = false by simpa using n2, if_neg (by simp), n3]
theorem MayQ.head {r : Rq} (h : MayQ r) : headQ (headL r) = .good { wantQ r with b := [] } r.b.length false := by
  obtain ⟨g1, g2, g3, g4, g5⟩ := h.gets
  have hl := h.length
  have hb := h.b
  unfold headQ
  have hlen : ¬ 33 < (headL r).length := by
    have := h.n
    simp [headL, wantF]; omega
  rw [if_neg hlen, show (headL r).tail = (wantF r).map fldQ from rfl, fieldsL_map _ h.parts]
  dsimp only
  rw [show (headL r).headD [] = r.m ++ 32 :: (targQ r ++ 32 :: pH11) from rfl, h.line]
  dsimp only
  rw [h.target, hl, g1, g3, g4]
  dsimp only
  rw [if_neg (by simp), if_neg (by simp), if_neg (by omega)]
  simp [wantQ]
theorem joinE_len : ∀ (ls : List (List UInt8)), ls ≠ [] → (joinE ls).length + 2 = (ls.map fun l => l.length + 2).sum := fun ls h => by
  have := congrArg List.length (flat_join ls h)
  rw [List.length_append] at this
  have e : (ls.flatMap (· ++ eolL)).length = (ls.map fun l => l.length + 2).sum := by
    clear this h
    induction ls with
    | nil => rfl
    | cons l t ih => rw [List.flatMap_cons, List.length_append, ih, List.map_cons, List.sum_cons, List.length_append]; rfl
  rw [e] at this
  exact this.symm
/-- How much of a request is counted. -/
def sumQ (fs : List Fl) : Nat := (fs.map fun f => f.1.length + f.2.length + 4).sum
theorem one_bytes {r : Rq} (h : MayQ r) (hn : r.m.length + r.p.length + r.q.length + sumQ r.fs ≤ 1900) (x : List UInt8) :
    oneQ (bytesQ r ++ x) = .got (wantQ r) (bytesQ r).length := by
  have hne : headL r ≠ [] := by simp [headL]
  have hE : bytesQ r ++ x = joinE (headL r) ++ (eol2 ++ (r.b ++ x)) := by
    unfold bytesQ
    rw [flat_join _ hne]
    simp [eol2, eolL, List.append_assoc]
  have hlen : (bytesQ r).length = (joinE (headL r)).length + 4 + r.b.length := by
    have := congrArg List.length (show bytesQ r = joinE (headL r) ++ (eol2 ++ r.b) by
      unfold bytesQ
      rw [flat_join _ hne]
      simp [eol2, eolL, List.append_assoc])
    rw [this, List.length_append, List.length_append]
    show _ + (4 + _) = _
    omega
  have hsum : ∀ fs : List Fl, ((fs.map fldQ).map fun l => l.length + 2).sum = sumQ fs := fun fs => by
    unfold sumQ
    induction fs with
    | nil => rfl
    | cons f t ih =>
      simp only [List.map_cons, List.sum_cons] at ih ⊢
      rw [ih]
      simp [fldQ]; omega
  have hjl := joinE_len _ hne
  have hnum := (numL_law h.b).2.2.2
  have hj : (joinE (headL r)).length ≤ 1980 := by
    have hjl2 : (joinE (headL r)).length + 2 = (r.m ++ 32 :: (targQ r ++ 32 :: pH11)).length + 2 + sumQ (wantF r) := by rw [hjl, ← hsum]; rfl
    have ht : (targQ r).length ≤ r.p.length + r.q.length + 1 := by
      unfold targQ
      split
      · omega
      · simp; omega
    have e1 : sumQ (wantF r) = 12 + (sumQ r.fs + (18 + (numL r.b.length).length)) := by
      unfold sumQ wantF
      simp [qHost, hereL, qLen]; omega
    rw [e1] at hjl2
    have e2 : (r.m ++ 32 :: (targQ r ++ 32 :: pH11)).length = r.m.length + (targQ r).length + 10 := by simp [pH11]; omega
    rw [e2] at hjl2
    omega
  have hidx := index_join (headL r) (r.b ++ x) hne h.lines
  rw [← hE] at hidx
  unfold oneQ
  rw [hidx, if_pos (by simp; omega), Int.toNat_natCast]
  have htk : (bytesQ r ++ x).take (joinE (headL r)).length = joinE (headL r) := by rw [hE, List.take_left]
  have hdr : (bytesQ r ++ x).drop ((joinE (headL r)).length + 4) = r.b ++ x := by
    rw [hE, ← List.drop_drop, List.drop_left]
    rfl
  rw [htk, split_join _ hne h.lines, h.head]
  dsimp only
  rw [if_neg (by simp), hdr, List.take_left, if_neg (by rw [List.length_append, hlen]; omega), hlen]
  rfl
end Go.Proofs.YtpncfeaaffgkfaaGreatDoor
