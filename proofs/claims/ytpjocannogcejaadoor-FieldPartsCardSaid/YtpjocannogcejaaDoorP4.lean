/-
  Plain laws: the parts of texts put together.
-/
import Derived.Test.YtpjocannogcejaaDoorP2
import Derived.Test.YtpjocannogcejaaDoorP3
namespace Go.Proofs.YtpjocannogcejaaDoor

theorem splitB_join (x y : List UInt8) : splitB 44 (x ++ 44 :: y) = splitB 44 x ++ splitB 44 y := by
  induction x with
  | nil => simp [splitB]
  | cons b t ih =>
    rw [List.cons_append, splitB_cons, splitB_cons]
    by_cases h : b = 44
    · rw [if_pos h, if_pos h, ih]; rfl
    · rw [if_neg h, if_neg h, ih]
      cases hs : splitB 44 t with
      | nil => exact absurd hs (splitB_ne 44 t)
      | cons p r => rfl
theorem partsB_join (x y : List UInt8) : partsB (x ++ 44 :: y) = partsB x ++ partsB y := by
  unfold partsB
  rw [splitB_join, List.map_append, List.filter_append]
theorem trim_blank_l {b : UInt8} (h : isBlank b = true) (l : List UInt8) : trimB (b :: l) = trimB l := by
  have := trim_pads (p := [b]) (q := []) (l := l) (by simp [h]) rfl
  simpa using this
theorem trim_blank_r {b : UInt8} (h : isBlank b = true) (l : List UInt8) : trimB (l ++ [b]) = trimB l := by
  have := trim_pads (p := []) (q := [b]) (l := l) rfl (by simp [h])
  simpa using this
theorem parts_blank_l {b : UInt8} (h : isBlank b = true) (h44 : b ≠ 44) (l : List UInt8) : partsB (b :: l) = partsB l := by
  unfold partsB
  rw [splitB_cons, if_neg h44]
  cases hs : splitB 44 l with
  | nil => exact absurd hs (splitB_ne 44 l)
  | cons p r => simp only [List.map_cons, trim_blank_l h]
theorem splitB_snoc {b : UInt8} (h44 : b ≠ 44) : ∀ (l : List UInt8), ∃ init last, splitB 44 l = init ++ [last] ∧ splitB 44 (l ++ [b]) = init ++ [last ++ [b]]
  | [] => ⟨[], [], rfl, by simp [splitB, h44]⟩
  | c :: t => by
    obtain ⟨init, last, h1, h2⟩ := splitB_snoc h44 t
    rw [List.cons_append, splitB_cons, splitB_cons, h1, h2]
    by_cases hc : c = 44
    · exact ⟨[] :: init, last, by rw [if_pos hc]; rfl, by rw [if_pos hc]; rfl⟩
    · rw [if_neg hc, if_neg hc]
      cases init with
      | nil => exact ⟨[], c :: last, rfl, rfl⟩
      | cons p r => exact ⟨(c :: p) :: r, last, rfl, rfl⟩
theorem parts_blank_r {b : UInt8} (h : isBlank b = true) (h44 : b ≠ 44) (l : List UInt8) : partsB (l ++ [b]) = partsB l := by
  obtain ⟨init, last, h1, h2⟩ := splitB_snoc h44 l
  unfold partsB
  rw [h1, h2]
  simp [trim_blank_r h]
theorem partsB_commas (s t : List UInt8) : partsB (s ++ [32, 44, 9] ++ t) = partsB s ++ partsB t := by
  have e : s ++ [32, 44, 9] ++ t = (s ++ [32]) ++ 44 :: (9 :: t) := by simp
  rw [e, partsB_join, parts_blank_r (by decide) (by decide), parts_blank_l (by decide) (by decide)]
theorem splitB_no44 : ∀ (l x : List UInt8), x ∈ splitB 44 l → ∀ c ∈ x, c ≠ 44
  | [], x, h => by
    have : x = [] := by simpa [splitB] using h
    simp [this]
  | b :: t, x, h => by
    have ih := splitB_no44 t
    rw [splitB_cons] at h
    split at h
    · rcases List.mem_cons.1 h with h | h
      · simp [h]
      · exact ih x h
    · rename_i hb
      cases hs : splitB 44 t with
      | nil => exact absurd hs (splitB_ne 44 t)
      | cons y r =>
        rw [hs] at h ih
        rcases List.mem_cons.1 h with h | h
        · intro c hc
          rw [h] at hc
          rcases List.mem_cons.1 hc with hc | hc
          · rw [hc]; exact hb
          · exact ih y (by simp) c hc
        · exact ih x (by simp [h])
/-- What a part is. -/
def IsPart (x : List UInt8) : Prop := x ≠ [] ∧ trimB x = x ∧ ∀ c ∈ x, c ≠ 44
theorem partsB_isPart {l x : List UInt8} (h : x ∈ partsB l) : IsPart x := by
  unfold partsB at h
  rw [List.mem_filter, List.mem_map] at h
  obtain ⟨⟨y, hy, rfl⟩, hne⟩ := h
  refine ⟨by simpa using hne, trim_idem y, fun c hc => splitB_no44 l y hy c ?_⟩
  have : (trimB y).all (fun c => y.contains c) = true := trim_all (by simp)
  have := List.all_eq_true.1 this c hc
  simpa using this
theorem partsB_part {x : List UInt8} (h : IsPart x) : partsB x = [x] := by
  obtain ⟨h1, h2, h3⟩ := h
  unfold partsB
  rw [splitB_none 44 x (fun j hj => h3 _ (List.getElem_mem hj))]
  simp [h2, h1]
/-- The parts, a comma ahead of each. -/
def catC (xs : List (List UInt8)) : List UInt8 := (xs.map (fun p => 44 :: p)).flatten
theorem catC_snoc (pre : List (List UInt8)) (x : List UInt8) : catC (pre ++ [x]) = catC pre ++ [44] ++ x := by simp [catC]
theorem partsB_catC : ∀ (xs : List (List UInt8)) (acc : List UInt8), (∀ x ∈ xs, IsPart x) → partsB (acc ++ catC xs) = partsB acc ++ xs
  | [], acc, _ => by simp [catC]
  | x :: r, acc, h => by
    have e : acc ++ catC (x :: r) = (acc ++ 44 :: x) ++ catC r := by simp [catC]
    rw [e, partsB_catC r _ (fun y hy => h y (by simp [hy])), partsB_join, partsB_part (h x (by simp))]
    simp
theorem catC_parts {xs : List (List UInt8)} (h : ∀ x ∈ xs, IsPart x) : partsB (catC xs) = xs := by
  have := partsB_catC xs [] h
  simpa [show partsB [] = [] from by decide] using this
theorem has_comma {s t x : List UInt8} (h : x ∈ partsB s ++ partsB t) : hasB (s ++ [44] ++ t) x = true := by
  have e : s ++ [44] ++ t = s ++ 44 :: t := by simp
  unfold hasB
  rw [e, partsB_join, List.any_eq_true]
  exact ⟨x, h, alike_refl x⟩
theorem splitB_sum : ∀ (l : List UInt8), ((splitB 44 l).map List.length).sum + (splitB 44 l).length = l.length + 1
  | [] => by simp [splitB]
  | b :: t => by
    have ih := splitB_sum t
    rw [splitB_cons]
    split
    · simp only [List.map_cons, List.sum_cons, List.length_cons, List.length_nil]; omega
    · cases hs : splitB 44 t with
      | nil => exact absurd hs (splitB_ne 44 t)
      | cons y r => rw [hs] at ih; simp only [List.map_cons, List.sum_cons, List.length_cons] at ih ⊢; omega
theorem partsOf_sum : ∀ (ps : List (List UInt8)), ((partsOf ps).map List.length).sum + (partsOf ps).length ≤ (ps.map List.length).sum + ps.length
  | [] => by simp [partsOf]
  | x :: r => by
    have ih := partsOf_sum r
    have hx := trimB_len x
    by_cases h : trimB x = []
    · have e : partsOf (x :: r) = partsOf r := by simp [partsOf, h]
      rw [e]; simp only [List.map_cons, List.sum_cons, List.length_cons]; omega
    · have e : partsOf (x :: r) = trimB x :: partsOf r := by simp [partsOf, h]
      rw [e]; simp only [List.map_cons, List.sum_cons, List.length_cons]; omega
theorem catC_len (xs : List (List UInt8)) : (catC xs).length = (xs.map List.length).sum + xs.length := by
  induction xs with
  | nil => rfl
  | cons x r ih => 
    have e : catC (x :: r) = 44 :: x ++ catC r := by simp [catC]
    rw [e, List.length_append, ih]; simp only [List.map_cons, List.sum_cons, List.length_cons]; omega
theorem catC_parts_len (l : List UInt8) : (catC (partsB l)).length ≤ l.length + 1 := by
  rw [catC_len]
  have h1 := partsOf_sum (splitB 44 l)
  have h2 := splitB_sum l
  have e : partsOf (splitB 44 l) = partsB l := rfl
  rw [e] at h1; omega
end Go.Proofs.YtpjocannogcejaaDoor
