/-
  Plain laws of a body in chunks: data only grows and stands in what was fed; what is put into chunks is read as it was: no program in sight.
-/
import Derived.Test.YtnopfoagioodjaaDoorP10
namespace Go.Proofs.YtnopfoagioodjaaDoor

theorem head_data (r : Ck) (s : List UInt8) : (headC r s).data = r.data := by
  unfold headC
  cases sizeC s with
  | none => rfl
  | some n => dsimp only; split; rfl; split <;> rfl
theorem trailer_data (r : Ck) (s : List UInt8) : (trailerC r s).data = r.data := by
  unfold trailerC; split; rfl; split; split <;> rfl; rfl
theorem letter_data (r : Ck) (c : UInt8) : (letterC r c).data = r.data := by
  unfold letterC
  have h : (if r.st = 3 then { r with tail := r.tail + 1 } else r).data = r.data := by split <;> rfl
  generalize (if r.st = 3 then { r with tail := r.tail + 1 } else r) = r1 at h
  dsimp only
  split
  · exact h
  · split
    · exact h
    · split
      · split
        · rw [head_data]; exact h
        · rw [trailer_data]; exact h
      · split <;> exact h
theorem end_data (r : Ck) (c : UInt8) : (endC r c).data = r.data := by
  unfold endC
  by_cases h : c = (if r.line.isEmpty then 13 else 10)
  · rw [if_pos h]; split <;> rfl
  · rw [if_neg h]; rfl
theorem letter0 {r : Ck} (h0 : r.st = 0) (h1 : r.tail = 0) (c : UInt8) : letterC r c = if crB r.line != (c == 10) then wrongC r 400 else if crB r.line then headC { r with line := [] } r.line.dropLast else if r.line.length = 2048 then wrongC r 431 else { r with line := r.line ++ [c] } := by
  unfold letterC
  simp only [h0]
  rw [if_neg (show ¬ (0 = 3) by decide), if_neg (by omega)]
  simp only [h0, if_true, true_and]
theorem letter3 {r : Ck} (h0 : r.st = 3) (c : UInt8) : letterC r c = if 2048 < r.tail + 1 then wrongC { r with tail := r.tail + 1 } 431 else if crB r.line != (c == 10) then wrongC { r with tail := r.tail + 1 } 400 else if crB r.line then trailerC { r with line := [], tail := r.tail + 1 } r.line.dropLast else { r with line := r.line ++ [c], tail := r.tail + 1 } := by
  unfold letterC
  rw [if_pos h0]
  simp only [h0]
  rw [if_neg (show ¬ (3 = 0) by decide), if_neg (show ¬ (3 = 0 ∧ r.line.length = 2048) from fun h => by simp at h)]
/-- What is read as data grows by a part of what was fed. -/
theorem feed_data_grows : ∀ (s : List UInt8) (r : Ck), ∃ d, (feedC r s).2.data = r.data ++ d ∧ d.Sublist s
  | [], r => ⟨[], by simp [feedC], .slnil⟩
  | c :: t, r => by
    by_cases h : r.st = 4
    · rw [feed_over h]; exact ⟨[], by simp, List.nil_sublist _⟩
    · rw [feed_cons h]
      obtain ⟨d, h1, h2⟩ := feed_data_grows t (stepC r c)
      by_cases h1' : r.st = 1
      · refine ⟨c :: d, ?_, h2.cons_cons c⟩
        have : (stepC r c).data = r.data ++ [c] := by unfold stepC; rw [if_pos h1']; rfl
        rw [h1, this]; simp
      · refine ⟨d, ?_, h2.cons c⟩
        have : (stepC r c).data = r.data := by
          unfold stepC; rw [if_neg h1']
          split
          · exact end_data r c
          · exact letter_data r c
        rw [h1, this]
/-- How far a text is found in another one, byte by byte. -/
def greedy : List UInt8 → List UInt8 → Nat
  | [], _ => 0
  | _, [] => 0
  | c :: t, d :: w => if c == d then greedy t w + 1 else greedy t (d :: w)
theorem greedy_sub : ∀ (s w : List UInt8), w.Sublist s → greedy s w = w.length
  | [], w, h => by rw [List.sublist_nil.1 h]; rfl
  | c :: t, [], _ => by simp [greedy]
  | c :: t, d :: w, h => by
    unfold greedy
    by_cases e : c = d
    · subst e
      rw [if_pos (by simp), greedy_sub t w (by
        cases h with
        | cons _ h => exact (List.sublist_cons_self _ _).trans h
        | cons_cons _ h => exact h)]
      simp
    · rw [if_neg (by simpa using e), greedy_sub t (d :: w) (by
        cases h with
        | cons _ h => exact h
        | cons_cons _ h => exact absurd rfl e)]

/-- Feeding a leads from r to r', whatever stands behind. -/
def Leads (r : Ck) (a : List UInt8) (r' : Ck) : Prop := feedC r a = (a.length, r')
theorem Leads.nil (r : Ck) : Leads r [] r := rfl
theorem Leads.trans {r r' r'' : Ck} {a b : List UInt8} (h : Leads r a r') (k : Leads r' b r'') : Leads r (a ++ b) r'' := by
  unfold Leads at *
  rw [feed_app, h, k, List.length_append]
theorem Leads.step {r : Ck} (h : r.st ≠ 4) (c : UInt8) : Leads r [c] (stepC r c) := by
  unfold Leads; rw [feed_cons h]; rfl
/-- A line's bytes, with neither CR nor LF. -/
theorem leads_text : ∀ (L : List UInt8) (r : Ck), r.st = 0 → r.tail = 0 → crB r.line = false → (∀ c ∈ L, c ≠ 13 ∧ c ≠ 10) → r.line.length + L.length ≤ 2048 → Leads r L { r with line := r.line ++ L }
  | [], r, _, _, _, _, _ => by unfold Leads; simp [feedC]
  | c :: t, r, h0, h1, h2, h3, h4 => by
    have hc := h3 c (List.mem_cons_self ..)
    have hs : stepC r c = { r with line := r.line ++ [c] } := by
      unfold stepC; rw [if_neg (by omega), if_neg (by omega)]
      rw [letter0 h0 h1, h2, if_neg (by simpa using hc.2), if_neg (by decide), if_neg (by simp at h4; omega)]
    have h5 := Leads.step (r := r) (by omega) c
    rw [hs] at h5
    have h6 := leads_text t { r with line := r.line ++ [c] } h0 h1 (by simpa [crB] using hc.1) (fun x hx => h3 x (List.mem_cons_of_mem _ hx)) (by simp at h4 ⊢; omega)
    have := h5.trans h6
    simpa using this
theorem leads_head {data L : List UInt8} (h3 : ∀ c ∈ L, c ≠ 13 ∧ c ≠ 10) (h4 : L.length ≤ 2000) : Leads (atHead data) (L ++ [13, 10]) (headC (atHead data) L) := by
  have h5 := leads_text L (atHead data) rfl rfl rfl h3 (by simp [atHead]; omega)
  have hcr : crB L = false := by
    unfold crB
    cases hl : L.getLast? with
    | none => rfl
    | some x => simpa using (h3 x (List.mem_of_getLast? hl)).1
  have hcr2 : crB (L ++ [13]) = true := by simp [crB]
  have s1 : stepC { atHead data with line := [] ++ L } 13 = { atHead data with line := L ++ [13] } := by
    show letterC { atHead data with line := [] ++ L } 13 = _
    rw [List.nil_append, letter0 rfl rfl]
    dsimp only
    rw [hcr, if_neg (by decide), if_neg (by decide), if_neg (by omega)]
  have s2 : stepC { atHead data with line := L ++ [13] } 10 = headC (atHead data) L := by
    show letterC { atHead data with line := L ++ [13] } 10 = _
    rw [letter0 rfl rfl]
    dsimp only
    rw [hcr2, if_neg (by decide), if_pos rfl, List.dropLast_concat]; rfl
  have k1 := Leads.step (r := { atHead data with line := [] ++ L }) (by simp [atHead]) 13
  rw [s1] at k1
  have k2 := Leads.step (r := { atHead data with line := L ++ [13] }) (by simp [atHead]) 10
  rw [s2] at k2
  have := (h5.trans k1).trans k2
  simpa using this
/-- A chunk: its head, its bytes, and what stands behind them. -/
theorem leads_chunk {data L x : List UInt8} (h3 : ∀ c ∈ L, c ≠ 13 ∧ c ≠ 10) (h4 : L.length ≤ 2000) (hs : sizeC L = some x.length) (h0 : x ≠ []) (hd : data.length + x.length ≤ 4096) :
    Leads (atHead data) (L ++ [13, 10] ++ x ++ [13, 10]) (atHead (data ++ x)) := by
  have k1 := leads_head (data := data) h3 h4
  have e : headC (atHead data) L = ⟨1, [], x.length, data, 0, 0, 0⟩ := by
    unfold headC; rw [hs]
    dsimp only
    rw [if_neg (show ¬ 4096 < (atHead data).data.length + x.length by show ¬ 4096 < data.length + x.length; omega), if_neg (by have := List.length_pos_iff.2 h0; omega)]; rfl
  rw [e] at k1
  have k2 : Leads ⟨1, [], x.length, data, 0, 0, 0⟩ x (atEnd (data ++ x)) := by
    unfold Leads
    rw [feed_data x rfl (List.length_pos_iff.2 h0) (Nat.le_refl _)]
    simp [atEnd]
  have k3 : Leads (atEnd (data ++ x)) [13] { atEnd (data ++ x) with line := [13] } := Leads.step (by simp [atEnd]) 13
  have k4 : Leads { atEnd (data ++ x) with line := [13] } [10] (atHead (data ++ x)) := Leads.step (by simp [atEnd]) 10
  have := ((k1.trans k2).trans k3).trans k4
  simpa using this
theorem leads_zero {data : List UInt8} (hd : data.length ≤ 4096) : Leads (atHead data) [48, 13, 10] (atTail data 0 0) := by
  have k1 := leads_head (data := data) (L := [48]) (by decide) (by decide)
  have e : headC (atHead data) [48] = atTail data 0 0 := by
    unfold headC
    rw [show sizeC [48] = some 0 by decide +kernel]
    dsimp only
    rw [if_neg (show ¬ 4096 < (atHead data).data.length + 0 by show ¬ 4096 < data.length + 0; omega), if_pos rfl]; rfl
  rw [e] at k1
  exact k1
def sumL : List UInt8 := [83, 117, 109, 58, 32, 110, 111, 110, 101]
/-- A line of trailers. -/
theorem leads_trail : ∀ (L : List UInt8) (r : Ck), r.st = 3 → crB r.line = false → (∀ c ∈ L, c ≠ 13 ∧ c ≠ 10) → r.tail + L.length ≤ 2048 → Leads r L { r with line := r.line ++ L, tail := r.tail + L.length }
  | [], r, _, _, _, _ => by unfold Leads; simp [feedC]
  | c :: t, r, h0, h2, h3, h4 => by
    have hc := h3 c (List.mem_cons_self ..)
    have hs : stepC r c = { r with line := r.line ++ [c], tail := r.tail + 1 } := by
      unfold stepC; rw [if_neg (by omega), if_neg (by omega)]
      rw [letter3 h0, if_neg (by simp at h4; omega), h2, if_neg (by simpa using hc.2), if_neg (by decide)]
    have h5 := Leads.step (r := r) (by omega) c
    rw [hs] at h5
    have h6 := leads_trail t { r with line := r.line ++ [c], tail := r.tail + 1 } h0 (by simpa [crB] using hc.1) (fun x hx => h3 x (List.mem_cons_of_mem _ hx)) (by simp at h4 ⊢; omega)
    have := h5.trans h6
    rw [show r.tail + 1 + t.length = r.tail + (t.length + 1) by omega] at this
    simpa using this
theorem leads_sum {data : List UInt8} : Leads (atTail data 0 0) (sumL ++ [13, 10]) (atTail data 1 11) := by
  have k0 := leads_trail sumL (atTail data 0 0) rfl rfl (by decide) (show 0 + 9 ≤ 2048 by decide)
  have k1 : Leads { atTail data 0 0 with line := sumL, tail := 9 } [13] { atTail data 0 0 with line := sumL ++ [13], tail := 10 } := Leads.step (by simp [atTail]) 13
  have s2 : stepC { atTail data 0 0 with line := sumL ++ [13], tail := 10 } 10 = trailerC { atTail data 0 0 with line := [], tail := 11 } sumL := rfl
  have e2 : trailerC { atTail data 0 0 with line := [], tail := 11 } sumL = atTail data 1 11 := by
    unfold trailerC
    rw [if_neg (by decide), if_pos (show (parseB sumL).2.2 = true by decide +kernel), if_neg (by show ¬ 32 ≤ 0; decide)]; rfl
  have k2 : Leads { atTail data 0 0 with line := sumL ++ [13], tail := 10 } [10] (atTail data 1 11) := by
    have := Leads.step (r := { atTail data 0 0 with line := sumL ++ [13], tail := 10 }) (by simp [atTail]) 10
    rw [s2, e2] at this
    exact this
  exact (k0.trans k1).trans k2
theorem leads_done {data : List UInt8} {nf tl : Nat} (ht : tl ≤ 2000) : Leads (atTail data nf tl) [13, 10] { atTail data nf (tl + 2) with st := 4 } := by
  have s1 : stepC (atTail data nf tl) 13 = { atTail data nf (tl + 1) with line := [13] } := by
    show letterC (atTail data nf tl) 13 = _
    rw [letter3 rfl, if_neg (by show ¬ 2048 < tl + 1; omega), if_neg (by simp [atTail, crB]), if_neg (by simp [atTail, crB])]; rfl
  have s2 : stepC { atTail data nf (tl + 1) with line := [13] } 10 = { atTail data nf (tl + 2) with st := 4 } := by
    show letterC { atTail data nf (tl + 1) with line := [13] } 10 = _
    rw [letter3 rfl, if_neg (by show ¬ 2048 < tl + 1 + 1; omega), if_neg (by simp [crB]), if_pos (by simp [crB])]; rfl
  have k1 := Leads.step (r := atTail data nf tl) (by simp [atTail]) 13
  rw [s1] at k1
  have k2 := Leads.step (r := { atTail data nf (tl + 1) with line := [13] }) (by simp [atTail]) 10
  rw [s2] at k2
  exact k1.trans k2
end Go.Proofs.YtnopfoagioodjaaDoor
