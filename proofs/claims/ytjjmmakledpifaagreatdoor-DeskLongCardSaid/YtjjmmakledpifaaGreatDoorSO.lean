/-
  Drawn regions: orders; the abstract run, place by place.
-/
import Derived.Test.YtjjmmakledpifaaGreatDoorSN
set_option linter.unusedVariables false
set_option linter.unusedSimpArgs false
namespace Go.Ra
variable {P : Program} {m : Mp} {h : TB} {nx : Nat} {w : World} {nt : Nat} {a : Act} {z : TV} {ft : TF} {ex : Exec}

/-! Orders -/
def befOne (pre : List Nat) (o : Oper) : Nat := (dirs o).foldl (fun s j => s ||| (2 ^ j ||| (pre[j]?).getD 0)) 0
theorem befores_ext : ∀ (l : List Oper) (acc : List Nat), ∃ r, befores l acc = acc ++ r := by
  intro l
  induction l with
  | nil => intro acc; exact ⟨[], by simp [befores]⟩
  | cons o l ih =>
    intro acc
    obtain ⟨r, hr⟩ := ih (acc ++ [befOne acc o])
    exact ⟨_, hr.trans (List.append_assoc ..)⟩
theorem foldl_congr {α β : Type} {f g : β → α → β} : ∀ (l : List α) (s : β), (∀ s, ∀ a ∈ l, f s a = g s a) → l.foldl f s = l.foldl g s := by
  intro l
  induction l with
  | nil => intro s _; rfl
  | cons a l ih =>
    intro s h
    rw [List.foldl_cons, List.foldl_cons, h s a (List.mem_cons_self ..)]
    exact ih _ fun s b hb => h s b (List.mem_cons_of_mem _ hb)
theorem befores_get : ∀ (l : List Oper) (acc : List Nat) (j : Nat) (o : Oper), l[j]? = some o → (∀ d ∈ dirs o, d < acc.length + j) → (befores l acc)[acc.length + j]? = some (befOne (befores l acc) o) := by
  intro l
  induction l with
  | nil => intro acc j o hj; simp at hj
  | cons q l ih =>
    intro acc j o hj hd
    cases j with
    | zero =>
      obtain rfl : q = o := by simpa using hj
      obtain ⟨r, hr⟩ := befores_ext l (acc ++ [befOne acc q])
      have e : befores (q :: l) acc = acc ++ (befOne acc q :: r) := by
        show befores l (acc ++ [befOne acc q]) = _
        rw [hr, List.append_assoc]; rfl
      rw [e]
      rw [List.getElem?_append_right (by omega)]
      simp only [Nat.add_zero, Nat.sub_self, List.getElem?_cons_zero, Option.some.injEq]
      refine foldl_congr _ _ fun s d hd' => ?_
      rw [List.getElem?_append_left (by have := hd d hd'; omega)]
    | succ j =>
      have := ih (acc ++ [befOne acc q]) j o (by simpa using hj) (fun d hd' => by have := hd d hd'; simp; omega)
      rw [List.length_append, List.length_singleton, show acc.length + 1 + j = acc.length + (j + 1) by omega] at this
      exact this
theorem fold_bit {pre : List Nat} {i : Nat} : ∀ (l : List Nat) (s : Nat), (l.foldl (fun s j => s ||| (2 ^ j ||| (pre[j]?).getD 0)) s).testBit i = true → s.testBit i = true ∨ ∃ d ∈ l, i = d ∨ isPre pre i d = true := by
  intro l
  induction l with
  | nil => intro s h; exact .inl h
  | cons d l ih =>
    intro s h
    rw [List.foldl_cons] at h
    rcases ih _ h with h | ⟨d', h1, h2⟩
    · rw [Nat.testBit_or, Bool.or_eq_true, Nat.testBit_or, Bool.or_eq_true, Nat.testBit_two_pow] at h
      rcases h with h | h | h
      · exact .inl h
      · exact .inr ⟨d, List.mem_cons_self .., .inl (of_decide_eq_true h).symm⟩
      · exact .inr ⟨d, List.mem_cons_self .., .inr h⟩
    · exact .inr ⟨d', List.mem_cons_of_mem _ h1, h2⟩
theorem pre_listed {ops : Array Oper} (hd : ∀ (i : Nat) (o : Oper), ops[i]? = some o → ∀ d ∈ dirs o, d < i) {On : Nat → Prop} (hcl : ∀ (j : Nat) (o : Oper), ops[j]? = some o → On j → ∀ d ∈ dirs o, On d) :
    ∀ (j : Nat) (o : Oper), ops[j]? = some o → (∀ d ∈ dirs o, On d) → ∀ i, isPre (befores ops.toList []) i j = true → On i := by
  intro j
  induction j using Nat.strongRecOn with
  | ind j ih =>
    intro o ho hon i hi
    have hg := befores_get ops.toList [] j o (by simpa using ho) (by simpa using hd j o ho)
    simp only [List.length_nil, Nat.zero_add] at hg
    unfold isPre at hi
    rw [hg] at hi
    rcases fold_bit (dirs o) 0 hi with h | ⟨d, h1, h2⟩
    · simp at h
    · rcases h2 with rfl | h2
      · exact hon _ h1
      · have hlt := hd j o ho d h1
        have hsz := (Array.getElem?_eq_some_iff.1 ho).1
        have hod : ops[d]? = some (ops[d]'(by omega)) := by simp
        exact ih d hlt _ hod (hcl d _ hod (hon d h1)) i h2

theorem zipIdx_all {α : Type} {p : α × Nat → Bool} {ops : Array α} (h : ops.toList.zipIdx.all p = true) {i : Nat} {o : α} (ho : ops[i]? = some o) : p (o, i) = true := by
  rw [List.all_eq_true] at h
  refine h _ ?_
  rw [List.mem_zipIdx_iff_getElem?]
  simpa using ho
theorem idx_list (l : ADr) : l.idx = l.list.map (·.1) := by
  induction l with
  | nil => rfl
  | cons i c o l ih => simp [ADr.idx, ADr.list, ih]
theorem nodupN_nodup : ∀ (l : List Nat), nodupN l = true → l.Nodup := by
  intro l
  induction l with
  | nil => intro _; exact List.nodup_nil
  | cons a l ih =>
    intro h
    simp only [nodupN, Bool.and_eq_true, Bool.not_eq_true', List.contains_eq_mem, decide_eq_false_iff_not] at h
    exact List.nodup_cons.2 ⟨h.1, ih h.2⟩
/-- What the checks of a drawn region say. -/
structure DOk (P : Program) (nt : Nat) (ops : Array Oper) (l : ADr) (pre : List Nat) : Prop where
  own : ∀ (k k' : Nat) (x x' : It), l.list[k]? = some x → l.list[k']? = some x' → x.1 = x'.1 → k = k'
  all : ∀ i, i < ops.size → ∃ (k : Nat) (x : It), l.list[k]? = some x ∧ x.1 = i
  oper : ∀ (k : Nat) (x : It), l.list[k]? = some x → ∃ o, ops[x.1]? = some o ∧ cOper P nt ops o = some x.2.2
  calmly : Calmly pre (readsOf nt ops) l.calmDsts l.list
  staged : ∀ (k : Nat) (x : It), l.list[k]? = some x → Behind pre l.acts x.1 (bN l.list k) ∧ x.2.1.fits x.2.2.aop = true ∧ (∀ u v, x.2.1 = .reads u v → Behind pre l.acts x.1 u ∧ ∀ j, l.acts[v]? = some j → isPre pre x.1 j = true)
  data : ∀ (i : Nat) (o : Oper), ops[i]? = some o → ∀ t ∈ o.looksAt ops, ∀ (j : Nat) (o' : Oper), ops[j]? = some o' → o'.dst = some t → j ∈ l.acts ∨ isPre pre j i = true
  dirs : ∀ (i : Nat) (o : Oper), ops[i]? = some o → ∀ d ∈ dirs o, d < i
theorem cDrL_spec {ops : Array Oper} {cl : Nat → AOper → ACl} : ∀ (il : List Nat) (l : ADr), cDrL P nt ops cl il = some l → ∀ (k : Nat) (x : It), l.list[k]? = some x → ∃ o, ops[x.1]? = some o ∧ cOper P nt ops o = some x.2.2 := by
  intro il
  induction il with
  | nil =>
    intro l hl k x hk
    obtain rfl := Option.some.inj (show some ADr.nil = some l from hl)
    simp [ADr.list] at hk
  | cons i il ih =>
    intro l hl k x hk
    simp only [cDrL, Option.bind_eq_bind, Option.bind_eq_some_iff, Option.some.injEq] at hl
    obtain ⟨o, ho, ao, hao, l', hl', rfl⟩ := hl
    cases k with
    | zero =>
      obtain rfl : (i, cl i ao, ao) = x := by simpa [ADr.list] using hk
      exact ⟨o, ho, hao⟩
    | succ k => exact ih l' hl' k x (by simpa [ADr.list] using hk)
theorem cDr_ok {ops : Array Oper} {l : ADr} (hl : cDr P nt ops = some l) : DOk P nt ops l (befores ops.toList []) := by
  unfold cDr at hl
  simp only [Option.bind_eq_bind, Option.bind_eq_some_iff] at hl
  obtain ⟨r, hr, hl⟩ := hl
  split at hl
  · rename_i hok
    obtain rfl := Option.some.inj hl
    have hop := cDrL_spec _ _ hr
    simp only [drawOk, Bool.and_eq_true] at hok
    obtain ⟨h1, h2, h3, h4, h5, h6, h7⟩ := hok
    refine ⟨fun k k' x x' hk hk' he => ?_, fun i hi => ?_, hop, calmly_spec _ h4, fun k x hk => ?_, fun i o ho t ht j o' ho' hd => ?_, fun i o ho d hd => ?_⟩
    · have hn := nodupN_nodup _ h1
      rw [idx_list] at hn
      refine (List.getElem?_inj (l := r.list.map (·.1)) (by have := (List.getElem?_eq_some_iff.1 hk).1; simpa using this) hn).1 ?_
      rw [List.getElem?_map, List.getElem?_map, hk, hk']
      exact congrArg some he
    · rw [List.all_eq_true] at h2
      have := h2 i (List.mem_range.2 hi)
      simp only [List.contains_eq_mem, decide_eq_true_eq] at this
      rw [idx_list] at this
      obtain ⟨x, hx, rfl⟩ := List.mem_map.1 this
      obtain ⟨k, hk, hkx⟩ := List.getElem_of_mem hx
      exact ⟨k, x, by rw [List.getElem?_eq_getElem hk, hkx], rfl⟩
    · have := staged_spec r 0 h5 k x hk
      rwa [Nat.zero_add] at this
    · have := zipIdx_all h6 ho
      simp only [List.all_eq_true] at this
      have := zipIdx_all (List.all_eq_true.2 (this t ht)) ho'
      simp only [Bool.or_eq_true, bne_iff_ne, ne_eq, List.contains_eq_mem, decide_eq_true_eq] at this
      rcases this with h | h
      · exact absurd hd h
      · exact h
    · have := zipIdx_all h7 ho
      simp only [List.all_eq_true, decide_eq_true_eq] at this
      exact this d hd
  · cases hl

/-! The abstract run -/
abbrev Sn := TV × TB × Nat
def SL.nth : SL → Nat → Option (TV × TB)
  | .nil, _ => none
  | .cons z h l, n => if n = l.len then some (z, h) else l.nth n
theorem SL.nth_lt {l : SL} {z : TV} {h : TB} {n : Nat} (hn : n < l.len) : (SL.cons z h l).nth n = l.nth n := by
  show (if n = l.len then _ else _) = _
  rw [if_neg (by omega)]
theorem SL.nth_len {l : SL} {z : TV} {h : TB} : (SL.cons z h l).nth l.len = some (z, h) := by
  show (if l.len = l.len then _ else _) = _
  rw [if_pos rfl]
def snC (s : Sn) (σ : Nat → Sn) : Nat → Sn
  | 0 => s
  | k + 1 => σ k
theorem drawA_inv : ∀ (l : ADr) (z : TV) (h : TB) (nx : Nat) (hs : SL) (k : TV → TB → Nat → SL → R) (r : R), drawA ft ex l z h nx hs k = r → r ≠ .fail →
    ∃ (σ : Nat → Sn) (hs' : SL), σ 0 = (z, h, nx) ∧ (∀ (j : Nat) (x : It), l.list[j]? = some x → OperR ft ex x.2.2 (σ j).1 (σ j).2.1 (σ j).2.2 (σ (j + 1)).1 (σ (j + 1)).2.1 (σ (j + 1)).2.2) ∧
      (∀ n, n < hs.len → hs'.nth n = hs.nth n) ∧ (∀ j, actAt l.list j = true ∨ j = l.list.length → hs'.nth (hs.len + bN l.list j) = some ((σ j).1, (σ j).2.1)) ∧
      k (σ l.list.length).1 (σ l.list.length).2.1 (σ l.list.length).2.2 hs' = r := by
  intro l
  induction l with
  | nil =>
    intro z h nx hs k r hr hrf
    refine ⟨fun _ => (z, h, nx), .cons z h hs, rfl, fun j x hj => by simp [ADr.list] at hj, fun n hn => SL.nth_lt hn, fun j hj => ?_, hr⟩
    have : bN (ADr.nil).list j = 0 := rfl
    rw [this, Nat.add_zero]
    exact SL.nth_len
  | cons i c o l ih =>
    intro z h nx hs k r hr hrf
    have fin : ∀ (z' : TV) (h' : TB) (nx' : Nat) (hs1 : SL) (σ : Nat → Sn) (hs' : SL), OperR ft ex o z h nx z' h' nx' → σ 0 = (z', h', nx') →
        (∀ (j : Nat) (x : It), l.list[j]? = some x → OperR ft ex x.2.2 (σ j).1 (σ j).2.1 (σ j).2.2 (σ (j + 1)).1 (σ (j + 1)).2.1 (σ (j + 1)).2.2) →
        ∀ (j : Nat) (x : It), (ADr.cons i c o l).list[j]? = some x → OperR ft ex x.2.2 (snC (z, h, nx) σ j).1 (snC (z, h, nx) σ j).2.1 (snC (z, h, nx) σ j).2.2 (snC (z, h, nx) σ (j + 1)).1 (snC (z, h, nx) σ (j + 1)).2.1 (snC (z, h, nx) σ (j + 1)).2.2 := by
      intro z' h' nx' hs1 σ hs' h1 h2 h3 j x hj
      cases j with
      | zero =>
        obtain rfl : (i, c, o) = x := by simpa [ADr.list] using hj
        show OperR ft ex o z h nx (σ 0).1 (σ 0).2.1 (σ 0).2.2
        rw [h2]
        exact h1
      | succ j => exact h3 j x (by simpa [ADr.list] using hj)
    cases hc : c.isAct with
    | true =>
      obtain rfl : c = .acts := by cases c <;> first | rfl | (cases hc; done)
      obtain ⟨z', h', nx', h1, h2⟩ := operA_inv (show operA o ft ex z h nx (fun z' h' nx => drawA ft ex l z' h' nx (.cons z h hs) k) = r from hr) hrf
      obtain ⟨σ, hs', g1, g2, g3, g4, g5⟩ := ih z' h' nx' (.cons z h hs) k r h2 hrf
      refine ⟨snC (z, h, nx) σ, hs', rfl, fin z' h' nx' hs σ hs' h1 g1 g2, fun n hn => ?_, fun j hj => ?_, g5⟩
      · rw [g3 n (by show n < hs.len + 1; omega)]
        exact SL.nth_lt hn
      · cases j with
        | zero =>
          rw [bN_zero, Nat.add_zero, g3 hs.len (by show hs.len < hs.len + 1; omega)]
          exact SL.nth_len
        | succ j =>
          have := g4 j (by
            rcases hj with hj | hj
            · exact .inl (by simpa [actAt, ADr.list] using hj)
            · exact .inr (by simpa [ADr.list] using hj))
          show hs'.nth (hs.len + (1 + bN l.list j)) = _
          rw [← Nat.add_assoc]
          exact this
    | false =>
      obtain ⟨z', h', nx', h1, h2⟩ := operA_inv (show operA o ft ex z h nx (fun z h nx => drawA ft ex l z h nx hs k) = r from by cases c <;> first | exact hr | (cases hc; done)) hrf
      obtain ⟨σ, hs', g1, g2, g3, g4, g5⟩ := ih z' h' nx' hs k r h2 hrf
      refine ⟨snC (z, h, nx) σ, hs', rfl, fin z' h' nx' hs σ hs' h1 g1 g2, g3, fun j hj => ?_, g5⟩
      cases j with
      | zero =>
        rcases hj with hj | hj
        · have : actAt (ADr.cons i c o l).list 0 = c.isAct := rfl
          rw [this, hc] at hj
          cases hj
        · simp [ADr.list] at hj
      | succ j =>
        have := g4 j (by
          rcases hj with hj | hj
          · exact .inl (by simpa [actAt, ADr.list] using hj)
          · exact .inr (by simpa [ADr.list] using hj))
        show hs'.nth (hs.len + ((if c.isAct then 1 else 0) + bN l.list j)) = _
        rw [hc, if_neg (by simp), Nat.zero_add]
        exact this
theorem sameAt_spec {o : AOper} {zf : TV} {u v : Nat} : ∀ (hs : SL), sameAt o zf u v hs = true → ∀ (n : Nat) (z : TV) (h : TB), hs.nth n = some (z, h) → u ≤ n → n ≤ v → sameOne o zf z h = true := by
  intro hs
  induction hs with
  | nil => intro _ n z h hn; cases hn
  | cons z1 h1 hs ih =>
    intro hsame n z h hn hu hv
    replace hsame : (bif Nat.ble u hs.len && Nat.ble hs.len v then sameOne o zf z1 h1 && sameAt o zf u v hs else sameAt o zf u v hs) = true := hsame
    replace hn : (if n = hs.len then some (z1, h1) else hs.nth n) = some (z, h) := hn
    cases hb : (Nat.ble u hs.len && Nat.ble hs.len v) with
    | true =>
      rw [hb] at hsame
      rw [cond_true, Bool.and_eq_true] at hsame
      split at hn
      · cases hn; exact hsame.1
      · exact ih hsame.2 n z h hn hu hv
    | false =>
      rw [hb] at hsame
      rw [cond_false] at hsame
      split at hn
      · rename_i he
        subst he
        rw [nble_iff.2 hu, nble_iff.2 hv] at hb
        cases hb
      · exact ih hsame n z h hn hu hv
theorem drawChk_spec {zf : TV} {hs : SL} : ∀ (l : ADr), drawChk zf hs l = true → ∀ (k : Nat) (x : It) (u v : Nat), l.list[k]? = some x → x.2.1 = .reads u v → sameAt x.2.2 zf u v hs = true := by
  intro l
  induction l with
  | nil => intro _ k x u v hk; simp [ADr.list] at hk
  | cons i c o l ih =>
    intro hd k x u v hk hx
    cases k with
    | zero =>
      obtain rfl : (i, c, o) = x := by simpa [ADr.list] using hk
      obtain rfl : c = .reads u v := hx
      simp only [drawChk, Bool.and_eq_true] at hd
      exact hd.1
    | succ k =>
      refine ih ?_ k x u v (by simpa [ADr.list] using hk) hx
      cases c <;> simp only [drawChk, Bool.and_eq_true] at hd <;> first | exact hd.2 | exact hd
end Go.Ra
