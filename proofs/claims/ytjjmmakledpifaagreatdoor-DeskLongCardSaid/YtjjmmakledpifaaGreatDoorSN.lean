/-
  Drawn regions: what the checks say.
-/
import Derived.Test.YtjjmmakledpifaaGreatDoorSM
set_option linter.unusedVariables false
set_option linter.unusedSimpArgs false
namespace Go.Ra
variable {P : Program} {m : Mp} {h : TB} {nx : Nat} {w : World} {nt : Nat} {a : Act} {z : TV} {ft : TF} {ex : Exec}

abbrev It := Nat × ACl × AOper
def ADr.list : ADr → List It
  | .nil => []
  | .cons i c o l => (i, c, o) :: l.list
/-- Is the operation at a place an act? -/
def actAt (l : List It) (k : Nat) : Bool := match l[k]? with | some x => x.2.1.isAct | none => false
/-- How many acts stand ahead of a place. -/
def bN : List It → Nat → Nat
  | [], _ => 0
  | _ :: _, 0 => 0
  | x :: l, k + 1 => (if x.2.1.isAct then 1 else 0) + bN l k
theorem bN_zero (l : List It) : bN l 0 = 0 := by cases l <;> rfl
theorem bN_succ : ∀ (l : List It) (k : Nat), bN l (k + 1) = bN l k + if actAt l k then 1 else 0 := by
  intro l
  induction l with
  | nil => intro k; rfl
  | cons x l ih =>
    intro k
    cases k with
    | zero =>
      show (if x.2.1.isAct then 1 else 0) + bN l 0 = 0 + _
      rw [bN_zero]
      simp [actAt]
    | succ k =>
      show (if x.2.1.isAct then 1 else 0) + bN l (k + 1) = (if x.2.1.isAct then 1 else 0) + bN l k + _
      rw [ih k]
      have : actAt (x :: l) (k + 1) = actAt l k := by simp [actAt]
      rw [this]
      omega
theorem bN_mono (l : List It) {k k' : Nat} (h : k ≤ k') : bN l k ≤ bN l k' := by
  induction k' with
  | zero => obtain rfl : k = 0 := by omega
            exact Nat.le_refl _
  | succ k' ih =>
    rcases Nat.lt_or_ge k (k' + 1) with h1 | h1
    · have := ih (by omega)
      rw [bN_succ]; omega
    · obtain rfl : k = k' + 1 := by omega
      exact Nat.le_refl _
theorem bN_lt (l : List It) {k k' : Nat} (ha : actAt l k = true) (h : k < k') : bN l k < bN l k' := by
  have := bN_mono l (show k + 1 ≤ k' from h)
  rw [bN_succ, ha, if_pos rfl] at this
  omega
/-- Between two places with as many acts ahead no act stands. -/
theorem bN_calm (l : List It) {k k' : Nat} (h : k ≤ k') (hn : ∀ j, k ≤ j → j < k' → actAt l j = false) : bN l k' = bN l k := by
  induction k' with
  | zero => obtain rfl : k = 0 := by omega
            rfl
  | succ k' ih =>
    rcases Nat.lt_or_ge k (k' + 1) with h1 | h1
    · rw [bN_succ, ih (by omega) (fun j h2 h3 => hn j h2 (by omega)), hn k' (by omega) (by omega)]
      rfl
    · obtain rfl : k = k' + 1 := by omega
      rfl
theorem acts_get : ∀ (l : ADr) (k : Nat) (x : It), l.list[k]? = some x → x.2.1.isAct = true → l.acts[bN l.list k]? = some x.1 := by
  intro l
  induction l with
  | nil => intro k x hk; simp [ADr.list] at hk
  | cons i c o l ih =>
    intro k x hk hx
    cases k with
    | zero =>
      obtain rfl : (i, c, o) = x := by simpa [ADr.list] using hk
      cases c <;> first | (cases hx; done) | rfl
    | succ k =>
      have hk' : l.list[k]? = some x := by simpa [ADr.list] using hk
      have := ih k x hk' hx
      show (ADr.cons i c o l).acts[(if c.isAct then 1 else 0) + bN l.list k]? = _
      cases c with
      | acts =>
        show (i :: l.acts)[1 + bN l.list k]? = _
        rw [Nat.add_comm]
        simpa using this
      | _ =>
        show l.acts[0 + bN l.list k]? = _
        rw [Nat.zero_add]
        exact this
theorem acts_of : ∀ (l : ADr) (y j : Nat), l.acts[y]? = some j → ∃ k x, l.list[k]? = some x ∧ x.2.1.isAct = true ∧ x.1 = j ∧ bN l.list k = y := by
  intro l
  induction l with
  | nil => intro y j hy; simp [ADr.acts] at hy
  | cons i c o l ih =>
    intro y j hy
    have skip : c.isAct = false → l.acts[y]? = some j → ∃ k x, (ADr.cons i c o l).list[k]? = some x ∧ x.2.1.isAct = true ∧ x.1 = j ∧ bN (ADr.cons i c o l).list k = y := by
      intro hc hy
      obtain ⟨k, x, h1, h2, h3, h4⟩ := ih y j hy
      refine ⟨k + 1, x, by simpa [ADr.list] using h1, h2, h3, ?_⟩
      show (if c.isAct then 1 else 0) + bN l.list k = y
      rw [hc, h4]
      simp
    cases c with
    | acts =>
      have hy' : (i :: l.acts)[y]? = some j := hy
      cases y with
      | zero => exact ⟨0, (i, .acts, o), rfl, rfl, by simpa using hy', rfl⟩
      | succ y =>
        obtain ⟨k, x, h1, h2, h3, h4⟩ := ih y j (by simpa using hy')
        refine ⟨k + 1, x, by simpa [ADr.list] using h1, h2, h3, ?_⟩
        show 1 + bN l.list k = y + 1
        omega
    | calm => exact skip rfl hy
    | reads x' y' => exact skip rfl hy
    | makes => exact skip rfl hy
theorem bN_len (l : ADr) : bN l.list l.list.length = l.acts.length := by
  induction l with
  | nil => rfl
  | cons i c o l ih =>
    show (if c.isAct then 1 else 0) + bN l.list l.list.length = _
    rw [ih]
    cases c <;> simp [ACl.isAct, ADr.acts] <;> omega
theorem actAt_lt {l : List It} {k : Nat} (h : actAt l k = true) : k < l.length := by
  unfold actAt at h
  split at h
  · rename_i hx; exact (List.getElem?_eq_some_iff.1 hx).1
  · cases h
theorem actAt_some {l : List It} {k : Nat} {x : It} (h : l[k]? = some x) : actAt l k = x.2.1.isAct := by
  unfold actAt; rw [h]

theorem hasP_iff {p : Pth} {l : List Pth} : hasP p l = true ↔ p ∈ l := by
  unfold hasP
  rw [List.any_eq_true]
  constructor
  · rintro ⟨q, h1, h2⟩
    rw [Pth.beq_eq] at h2
    exact h2 ▸ h1
  · exact fun h => ⟨p, h, (Pth.beq_eq _ _).2 rfl⟩
theorem apart_iff {l m : List Pth} : apart l m = true ↔ ∀ p ∈ l, p ∉ m := by
  unfold apart
  rw [List.all_eq_true]
  constructor
  · intro h p hp hm
    have := List.all_eq_true.1 (h p hp) p hm
    rw [(Pth.beq_eq p p).2 rfl] at this
    cases this
  · intro h p hp
    rw [List.all_eq_true]
    intro q hq
    have : p.beq q = false := Pth.beq_false.2 fun e => h p hp (e ▸ hq)
    rw [this]; rfl
theorem dsts_mem : ∀ (l : ADr) (k : Nat) (x : It) (t : Pth), l.list[k]? = some x → t ∈ x.2.2.dst.path → t ∈ l.dsts := by
  intro l
  induction l with
  | nil => intro k x t hk; simp [ADr.list] at hk
  | cons i c o l ih =>
    intro k x t hk ht
    show t ∈ o.dst.path ++ l.dsts
    rw [List.mem_append]
    cases k with
    | zero =>
      obtain rfl : (i, c, o) = x := by simpa [ADr.list] using hk
      exact .inl ht
    | succ k => exact .inr (ih k x t (by simpa [ADr.list] using hk) ht)
theorem calmDsts_mem : ∀ (l : ADr) (k : Nat) (x : It) (t : Pth), l.list[k]? = some x → x.2.1.isAct = false → t ∈ x.2.2.dst.path → t ∈ l.calmDsts := by
  intro l
  induction l with
  | nil => intro k x t hk; simp [ADr.list] at hk
  | cons i c o l ih =>
    intro k x t hk hc ht
    show t ∈ (if c.isAct then [] else o.dst.path) ++ l.calmDsts
    rw [List.mem_append]
    cases k with
    | zero =>
      obtain rfl : (i, c, o) = x := by simpa [ADr.list] using hk
      left
      rw [if_neg (by rw [show c.isAct = false from hc]; simp)]
      exact ht
    | succ k => exact .inr (ih k x t (by simpa [ADr.list] using hk) hc ht)
theorem calmDsts_of : ∀ (l : ADr) (t : Pth), t ∈ l.calmDsts → ∃ (k : Nat) (x : It), l.list[k]? = some x ∧ x.2.1.isAct = false ∧ t ∈ x.2.2.dst.path := by
  intro l
  induction l with
  | nil => intro t ht; cases ht
  | cons i c o l ih =>
    intro t ht
    replace ht : t ∈ (if c.isAct then [] else o.dst.path) ++ l.calmDsts := ht
    rw [List.mem_append] at ht
    rcases ht with ht | ht
    · cases hc : c.isAct with
      | true => rw [hc] at ht; cases ht
      | false => rw [hc] at ht; exact ⟨0, (i, c, o), rfl, hc, ht⟩
    · obtain ⟨k, x, h1, h2⟩ := ih t ht
      exact ⟨k + 1, x, by simpa [ADr.list] using h1, h2⟩
theorem actDsts_mem : ∀ (l : ADr) (k : Nat) (x : It), l.list[k]? = some x → x.2.1.isAct = true → (x.1, x.2.2.dst.path) ∈ l.actDsts := by
  intro l
  induction l with
  | nil => intro k x hk; simp [ADr.list] at hk
  | cons i c o l ih =>
    intro k x hk hc
    show _ ∈ (if c.isAct then (i, o.dst.path) :: l.actDsts else l.actDsts)
    cases k with
    | zero =>
      obtain rfl : (i, c, o) = x := by simpa [ADr.list] using hk
      rw [if_pos hc]
      exact List.mem_cons_self ..
    | succ k =>
      have := ih k x (by simpa [ADr.list] using hk) hc
      split
      · exact List.mem_cons_of_mem _ this
      · exact this

/-- What `calmly` says, place by place. -/
structure Calmly (pre : List Nat) (rd : Nat → List Pth) (N : List Pth) (l : List It) : Prop where
  once : ∀ (k : Nat) (x : It), l[k]? = some x → ∀ t ∈ rd x.1, t ∈ N → ∀ (k' : Nat) (x' : It), k ≤ k' → l[k']? = some x' → t ∉ x'.2.2.dst.path
  act : ∀ (k : Nat) (x : It), l[k]? = some x → x.2.1.isAct = true → ∀ t ∈ x.2.2.dst.path, t ∉ N
  calm : ∀ (k : Nat) (x : It), l[k]? = some x → x.2.1.isAct = false → ∀ t ∈ x.2.2.dst.path, ∀ (k' : Nat) (x' : It), k < k' → l[k']? = some x' → t ∉ x'.2.2.dst.path
  acts : ∀ (k : Nat) (x : It), l[k]? = some x → x.2.1.isAct = false → ∀ (k' : Nat) (x' : It), k < k' → l[k']? = some x' → x'.2.1.isAct = true → isPre pre x.1 x'.1 = true ∨ ∀ t ∈ x'.2.2.dst.path, t ∉ rd x.1
theorem calmly_spec {pre : List Nat} {rd : Nat → List Pth} {N : List Pth} : ∀ (l : ADr), l.calmly pre rd N = true → Calmly pre rd N l.list := by
  intro l
  induction l with
  | nil => intro _; constructor <;> (intro k x hk; simp [ADr.list] at hk)
  | cons i c o l ih =>
    intro hc
    simp only [ADr.calmly, Bool.and_eq_true, List.all_eq_true, Bool.or_eq_true, Bool.not_eq_true'] at hc
    obtain ⟨h1, h2, h3⟩ := hc
    have I := ih h3
    have later : ∀ {k' : Nat} {x' : It}, (ADr.cons i c o l).list[k' + 1]? = some x' → l.list[k']? = some x' := fun h => by simpa [ADr.list] using h
    refine ⟨fun k x hk t ht hN k' x' hle hk' => ?_, fun k x hk ha t ht => ?_, fun k x hk ha t ht k' x' hlt hk' => ?_, fun k x hk ha k' x' hlt hk' ha' => ?_⟩
    · cases k with
      | zero =>
        obtain rfl : (i, c, o) = x := by simpa [ADr.list] using hk
        rcases h1 t ht with h | h
        · rw [hasP_iff.2 hN] at h; cases h
        · have := apart_iff.1 h t (List.mem_singleton.2 rfl)
          rw [List.mem_append, not_or] at this
          cases k' with
          | zero =>
            obtain rfl : (i, c, o) = x' := by simpa [ADr.list] using hk'
            exact this.1
          | succ k' => exact fun hm => this.2 (dsts_mem l k' x' t (later hk') hm)
      | succ k =>
        obtain ⟨k', rfl⟩ : ∃ j, k' = j + 1 := ⟨k' - 1, by omega⟩
        exact I.once k x (later hk) t ht hN k' x' (by omega) (later hk')
    · cases k with
      | zero =>
        obtain rfl : (i, c, o) = x := by simpa [ADr.list] using hk
        rw [if_pos ha] at h2
        exact apart_iff.1 h2 t ht
      | succ k => exact I.act k x (later hk) ha t ht
    · obtain ⟨k', rfl⟩ : ∃ j, k' = j + 1 := ⟨k' - 1, by omega⟩
      cases k with
      | zero =>
        obtain rfl : (i, c, o) = x := by simpa [ADr.list] using hk
        rw [if_neg (by rw [show c.isAct = false from ha]; simp), Bool.and_eq_true] at h2
        exact fun hm => apart_iff.1 h2.1 t ht (dsts_mem l k' x' t (later hk') hm)
      | succ k => exact I.calm k x (later hk) ha t ht k' x' (by omega) (later hk')
    · obtain ⟨k', rfl⟩ : ∃ j, k' = j + 1 := ⟨k' - 1, by omega⟩
      cases k with
      | zero =>
        obtain rfl : (i, c, o) = x := by simpa [ADr.list] using hk
        rw [if_neg (by rw [show c.isAct = false from ha]; simp), Bool.and_eq_true, List.all_eq_true] at h2
        have := h2.2 _ (actDsts_mem l k' x' (later hk') ha')
        rw [Bool.or_eq_true] at this
        exact this.imp id fun h t ht => apart_iff.1 h t ht
      | succ k => exact I.acts k x (later hk) ha k' x' (by omega) (later hk') ha'

def Behind (pre all : List Nat) (i b : Nat) : Prop := b = 0 ∨ ∃ j, all[b - 1]? = some j ∧ isPre pre j i = true
theorem behind_of {pre all : List Nat} {i b : Nat} (h : behindA pre all i b = true) : Behind pre all i b := by
  unfold behindA at h
  rw [Bool.or_eq_true, beq_iff_eq] at h
  rcases h with h | h
  · exact .inl h
  · split at h
    · rename_i j hj; exact .inr ⟨j, hj, h⟩
    · cases h
theorem staged_spec {pre all : List Nat} : ∀ (l : ADr) (b : Nat), l.staged pre all b = true → ∀ (k : Nat) (x : It), l.list[k]? = some x →
    Behind pre all x.1 (b + bN l.list k) ∧ x.2.1.fits x.2.2.aop = true ∧ (∀ u v, x.2.1 = .reads u v → Behind pre all x.1 u ∧ ∀ j, all[v]? = some j → isPre pre x.1 j = true) := by
  intro l
  induction l with
  | nil => intro b _ k x hk; simp [ADr.list] at hk
  | cons i c o l ih =>
    intro b hs k x hk
    simp only [ADr.staged, Bool.and_eq_true] at hs
    obtain ⟨h1, h2, h3, h4⟩ := hs
    cases k with
    | zero =>
      obtain rfl : (i, c, o) = x := by simpa [ADr.list] using hk
      rw [bN_zero]
      refine ⟨behind_of h1, h2, fun u v hc => ?_⟩
      obtain rfl : c = .reads u v := hc
      simp only [Bool.and_eq_true] at h3
      refine ⟨behind_of h3.1, fun j hj => ?_⟩
      have := h3.2
      rw [hj] at this
      exact this
    | succ k =>
      have := ih _ h4 k x (by simpa [ADr.list] using hk)
      show Behind pre all x.1 (b + ((if c.isAct then 1 else 0) + bN l.list k)) ∧ _
      cases hc : c.isAct with
      | true => rw [hc] at this; simpa [Nat.add_assoc] using this
      | false => rw [hc] at this; simpa using this
end Go.Ra
namespace Go.Ra
variable {P : Program} {m : Mp} {h : TB} {nx : Nat} {w : World} {nt : Nat} {a : Act} {z : TV} {ft : TF} {ex : Exec}

/-! Orders -/
def befOne (pre : List Nat) (o : Oper) : Nat := (dirs o).foldl (fun s j => s ||| (2 ^ j ||| (pre[j]?).getD 0)) 0
theorem befores_ext : ∀ (l : List Oper) (acc : List Nat), ∃ r, befores l acc = acc ++ r := by
  intro l
  induction l with
  | nil => intro acc; exact ⟨[], by simp [befores]⟩
  | cons o l ih =>
    intro acc
    obtain ⟨r, hr⟩ := ih (acc ++ [befOne acc o])
    exact ⟨_, hr.trans (List.append_assoc ..)⟩
theorem foldl_congr {α β : Type} {f g : β → α → β} : ∀ (l : List α) (s : β), (∀ s, ∀ a ∈ l, f s a = g s a) → l.foldl f s = l.foldl g s := by
  intro l
  induction l with
  | nil => intro s _; rfl
  | cons a l ih =>
    intro s h
    rw [List.foldl_cons, List.foldl_cons, h s a (List.mem_cons_self ..)]
    exact ih _ fun s b hb => h s b (List.mem_cons_of_mem _ hb)
theorem befores_get : ∀ (l : List Oper) (acc : List Nat) (j : Nat) (o : Oper), l[j]? = some o → (∀ d ∈ dirs o, d < acc.length + j) → (befores l acc)[acc.length + j]? = some (befOne (befores l acc) o) := by
  intro l
  induction l with
  | nil => intro acc j o hj; simp at hj
  | cons q l ih =>
    intro acc j o hj hd
    cases j with
    | zero =>
      obtain rfl : q = o := by simpa using hj
      obtain ⟨r, hr⟩ := befores_ext l (acc ++ [befOne acc q])
      have e : befores (q :: l) acc = acc ++ (befOne acc q :: r) := by
        show befores l (acc ++ [befOne acc q]) = _
        rw [hr, List.append_assoc]; rfl
      rw [e]
      rw [List.getElem?_append_right (by omega)]
      simp only [Nat.add_zero, Nat.sub_self, List.getElem?_cons_zero, Option.some.injEq]
      refine foldl_congr _ _ fun s d hd' => ?_
      rw [List.getElem?_append_left (by have := hd d hd'; omega)]
    | succ j =>
      have := ih (acc ++ [befOne acc q]) j o (by simpa using hj) (fun d hd' => by have := hd d hd'; simp; omega)
      rw [List.length_append, List.length_singleton, show acc.length + 1 + j = acc.length + (j + 1) by omega] at this
      exact this
theorem fold_bit {pre : List Nat} {i : Nat} : ∀ (l : List Nat) (s : Nat), (l.foldl (fun s j => s ||| (2 ^ j ||| (pre[j]?).getD 0)) s).testBit i = true → s.testBit i = true ∨ ∃ d ∈ l, i = d ∨ isPre pre i d = true := by
  intro l
  induction l with
  | nil => intro s h; exact .inl h
  | cons d l ih =>
    intro s h
    rw [List.foldl_cons] at h
    rcases ih _ h with h | ⟨d', h1, h2⟩
    · rw [Nat.testBit_or, Bool.or_eq_true, Nat.testBit_or, Bool.or_eq_true, Nat.testBit_two_pow] at h
      rcases h with h | h | h
      · exact .inl h
      · exact .inr ⟨d, List.mem_cons_self .., .inl (of_decide_eq_true h).symm⟩
      · exact .inr ⟨d, List.mem_cons_self .., .inr h⟩
    · exact .inr ⟨d', List.mem_cons_of_mem _ h1, h2⟩
theorem pre_listed {ops : Array Oper} (hd : ∀ (i : Nat) (o : Oper), ops[i]? = some o → ∀ d ∈ dirs o, d < i) {On : Nat → Prop} (hcl : ∀ (j : Nat) (o : Oper), ops[j]? = some o → On j → ∀ d ∈ dirs o, On d) :
    ∀ (j : Nat) (o : Oper), ops[j]? = some o → (∀ d ∈ dirs o, On d) → ∀ i, isPre (befores ops.toList []) i j = true → On i := by
  intro j
  induction j using Nat.strongRecOn with
  | ind j ih =>
    intro o ho hon i hi
    have hg := befores_get ops.toList [] j o (by simpa using ho) (by simpa using hd j o ho)
    simp only [List.length_nil, Nat.zero_add] at hg
    unfold isPre at hi
    rw [hg] at hi
    rcases fold_bit (dirs o) 0 hi with h | ⟨d, h1, h2⟩
    · simp at h
    · rcases h2 with rfl | h2
      · exact hon _ h1
      · have hlt := hd j o ho d h1
        have hsz := (Array.getElem?_eq_some_iff.1 ho).1
        have hod : ops[d]? = some (ops[d]'(by omega)) := by simp
        exact ih d hlt _ hod (hcl d _ hod (hon d h1)) i h2

theorem zipIdx_all {α : Type} {p : α × Nat → Bool} {ops : Array α} (h : ops.toList.zipIdx.all p = true) {i : Nat} {o : α} (ho : ops[i]? = some o) : p (o, i) = true := by
  rw [List.all_eq_true] at h
  refine h _ ?_
  rw [List.mem_zipIdx_iff_getElem?]
  simpa using ho
theorem idx_list (l : ADr) : l.idx = l.list.map (·.1) := by
  induction l with
  | nil => rfl
  | cons i c o l ih => simp [ADr.idx, ADr.list, ih]
theorem nodupN_nodup : ∀ (l : List Nat), nodupN l = true → l.Nodup := by
  intro l
  induction l with
  | nil => intro _; exact List.nodup_nil
  | cons a l ih =>
    intro h
    simp only [nodupN, Bool.and_eq_true, Bool.not_eq_true', List.contains_eq_mem, decide_eq_false_iff_not] at h
    exact List.nodup_cons.2 ⟨h.1, ih h.2⟩
/-- What the checks of a drawn region say. -/
structure DOk (P : Program) (nt : Nat) (ops : Array Oper) (l : ADr) (pre : List Nat) : Prop where
  own : ∀ (k k' : Nat) (x x' : It), l.list[k]? = some x → l.list[k']? = some x' → x.1 = x'.1 → k = k'
  all : ∀ i, i < ops.size → ∃ (k : Nat) (x : It), l.list[k]? = some x ∧ x.1 = i
  oper : ∀ (k : Nat) (x : It), l.list[k]? = some x → ∃ o, ops[x.1]? = some o ∧ cOper P nt ops o = some x.2.2
  calmly : Calmly pre (readsOf nt ops) l.calmDsts l.list
  staged : ∀ (k : Nat) (x : It), l.list[k]? = some x → Behind pre l.acts x.1 (bN l.list k) ∧ x.2.1.fits x.2.2.aop = true ∧ (∀ u v, x.2.1 = .reads u v → Behind pre l.acts x.1 u ∧ ∀ j, l.acts[v]? = some j → isPre pre x.1 j = true)
  data : ∀ (i : Nat) (o : Oper), ops[i]? = some o → ∀ t ∈ o.looksAt ops, ∀ (j : Nat) (o' : Oper), ops[j]? = some o' → o'.dst = some t → j ∈ l.acts ∨ isPre pre j i = true
  dirs : ∀ (i : Nat) (o : Oper), ops[i]? = some o → ∀ d ∈ dirs o, d < i
theorem cDrL_spec {ops : Array Oper} {cl : Nat → AOper → ACl} : ∀ (il : List Nat) (l : ADr), cDrL P nt ops cl il = some l → ∀ (k : Nat) (x : It), l.list[k]? = some x → ∃ o, ops[x.1]? = some o ∧ cOper P nt ops o = some x.2.2 := by
  intro il
  induction il with
  | nil =>
    intro l hl k x hk
    obtain rfl := Option.some.inj (show some ADr.nil = some l from hl)
    simp [ADr.list] at hk
  | cons i il ih =>
    intro l hl k x hk
    simp only [cDrL, Option.bind_eq_bind, Option.bind_eq_some_iff, Option.some.injEq] at hl
    obtain ⟨o, ho, ao, hao, l', hl', rfl⟩ := hl
    cases k with
    | zero =>
      obtain rfl : (i, cl i ao, ao) = x := by simpa [ADr.list] using hk
      exact ⟨o, ho, hao⟩
    | succ k => exact ih l' hl' k x (by simpa [ADr.list] using hk)
theorem cDr_ok {ops : Array Oper} {l : ADr} (hl : cDr P nt ops = some l) : DOk P nt ops l (befores ops.toList []) := by
  unfold cDr at hl
  simp only [Option.bind_eq_bind, Option.bind_eq_some_iff] at hl
  obtain ⟨r, hr, hl⟩ := hl
  split at hl
  · rename_i hok
    obtain rfl := Option.some.inj hl
    have hop := cDrL_spec _ _ hr
    simp only [drawOk, Bool.and_eq_true] at hok
    obtain ⟨h1, h2, h3, h4, h5, h6, h7⟩ := hok
    refine ⟨fun k k' x x' hk hk' he => ?_, fun i hi => ?_, hop, calmly_spec _ h4, fun k x hk => ?_, fun i o ho t ht j o' ho' hd => ?_, fun i o ho d hd => ?_⟩
    · have hn := nodupN_nodup _ h1
      rw [idx_list] at hn
      refine (List.getElem?_inj (l := r.list.map (·.1)) (by have := (List.getElem?_eq_some_iff.1 hk).1; simpa using this) hn).1 ?_
      rw [List.getElem?_map, List.getElem?_map, hk, hk']
      exact congrArg some he
    · rw [List.all_eq_true] at h2
      have := h2 i (List.mem_range.2 hi)
      simp only [List.contains_eq_mem, decide_eq_true_eq] at this
      rw [idx_list] at this
      obtain ⟨x, hx, rfl⟩ := List.mem_map.1 this
      obtain ⟨k, hk, hkx⟩ := List.getElem_of_mem hx
      exact ⟨k, x, by rw [List.getElem?_eq_getElem hk, hkx], rfl⟩
    · have := staged_spec r 0 h5 k x hk
      rwa [Nat.zero_add] at this
    · have := zipIdx_all h6 ho
      simp only [List.all_eq_true] at this
      have := zipIdx_all (List.all_eq_true.2 (this t ht)) ho'
      simp only [Bool.or_eq_true, bne_iff_ne, ne_eq, List.contains_eq_mem, decide_eq_true_eq] at this
      rcases this with h | h
      · exact absurd hd h
      · exact h
    · have := zipIdx_all h7 ho
      simp only [List.all_eq_true, decide_eq_true_eq] at this
      exact this d hd
  · cases hl

/-! The abstract run -/
abbrev Sn := TV × TB × Nat
def SL.nth : SL → Nat → Option (TV × TB)
  | .nil, _ => none
  | .cons z h l, n => if n = l.len then some (z, h) else l.nth n
theorem SL.nth_lt {l : SL} {z : TV} {h : TB} {n : Nat} (hn : n < l.len) : (SL.cons z h l).nth n = l.nth n := by
  show (if n = l.len then _ else _) = _
  rw [if_neg (by omega)]
theorem SL.nth_len {l : SL} {z : TV} {h : TB} : (SL.cons z h l).nth l.len = some (z, h) := by
  show (if l.len = l.len then _ else _) = _
  rw [if_pos rfl]
def snC (s : Sn) (σ : Nat → Sn) : Nat → Sn
  | 0 => s
  | k + 1 => σ k
theorem drawA_inv : ∀ (l : ADr) (z : TV) (h : TB) (nx : Nat) (hs : SL) (k : TV → TB → Nat → SL → R) (r : R), drawA ft ex l z h nx hs k = r → r ≠ .fail →
    ∃ (σ : Nat → Sn) (hs' : SL), σ 0 = (z, h, nx) ∧ (∀ (j : Nat) (x : It), l.list[j]? = some x → OperR ft ex x.2.2 (σ j).1 (σ j).2.1 (σ j).2.2 (σ (j + 1)).1 (σ (j + 1)).2.1 (σ (j + 1)).2.2) ∧
      (∀ n, n < hs.len → hs'.nth n = hs.nth n) ∧ (∀ j, actAt l.list j = true ∨ j = l.list.length → hs'.nth (hs.len + bN l.list j) = some ((σ j).1, (σ j).2.1)) ∧
      k (σ l.list.length).1 (σ l.list.length).2.1 (σ l.list.length).2.2 hs' = r := by
  intro l
  induction l with
  | nil =>
    intro z h nx hs k r hr hrf
    refine ⟨fun _ => (z, h, nx), .cons z h hs, rfl, fun j x hj => by simp [ADr.list] at hj, fun n hn => SL.nth_lt hn, fun j hj => ?_, hr⟩
    have : bN (ADr.nil).list j = 0 := rfl
    rw [this, Nat.add_zero]
    exact SL.nth_len
  | cons i c o l ih =>
    intro z h nx hs k r hr hrf
    have fin : ∀ (z' : TV) (h' : TB) (nx' : Nat) (hs1 : SL) (σ : Nat → Sn) (hs' : SL), OperR ft ex o z h nx z' h' nx' → σ 0 = (z', h', nx') →
        (∀ (j : Nat) (x : It), l.list[j]? = some x → OperR ft ex x.2.2 (σ j).1 (σ j).2.1 (σ j).2.2 (σ (j + 1)).1 (σ (j + 1)).2.1 (σ (j + 1)).2.2) →
        ∀ (j : Nat) (x : It), (ADr.cons i c o l).list[j]? = some x → OperR ft ex x.2.2 (snC (z, h, nx) σ j).1 (snC (z, h, nx) σ j).2.1 (snC (z, h, nx) σ j).2.2 (snC (z, h, nx) σ (j + 1)).1 (snC (z, h, nx) σ (j + 1)).2.1 (snC (z, h, nx) σ (j + 1)).2.2 := by
      intro z' h' nx' hs1 σ hs' h1 h2 h3 j x hj
      cases j with
      | zero =>
        obtain rfl : (i, c, o) = x := by simpa [ADr.list] using hj
        show OperR ft ex o z h nx (σ 0).1 (σ 0).2.1 (σ 0).2.2
        rw [h2]
        exact h1
      | succ j => exact h3 j x (by simpa [ADr.list] using hj)
    cases hc : c.isAct with
    | true =>
      obtain rfl : c = .acts := by cases c <;> first | rfl | (cases hc; done)
      obtain ⟨z', h', nx', h1, h2⟩ := operA_inv (show operA o ft ex z h nx (fun z' h' nx => drawA ft ex l z' h' nx (.cons z h hs) k) = r from hr) hrf
      obtain ⟨σ, hs', g1, g2, g3, g4, g5⟩ := ih z' h' nx' (.cons z h hs) k r h2 hrf
      refine ⟨snC (z, h, nx) σ, hs', rfl, fin z' h' nx' hs σ hs' h1 g1 g2, fun n hn => ?_, fun j hj => ?_, g5⟩
      · rw [g3 n (by show n < hs.len + 1; omega)]
        exact SL.nth_lt hn
      · cases j with
        | zero =>
          rw [bN_zero, Nat.add_zero, g3 hs.len (by show hs.len < hs.len + 1; omega)]
          exact SL.nth_len
        | succ j =>
          have := g4 j (by
            rcases hj with hj | hj
            · exact .inl (by simpa [actAt, ADr.list] using hj)
            · exact .inr (by simpa [ADr.list] using hj))
          show hs'.nth (hs.len + (1 + bN l.list j)) = _
          rw [← Nat.add_assoc]
          exact this
    | false =>
      obtain ⟨z', h', nx', h1, h2⟩ := operA_inv (show operA o ft ex z h nx (fun z h nx => drawA ft ex l z h nx hs k) = r from by cases c <;> first | exact hr | (cases hc; done)) hrf
      obtain ⟨σ, hs', g1, g2, g3, g4, g5⟩ := ih z' h' nx' hs k r h2 hrf
      refine ⟨snC (z, h, nx) σ, hs', rfl, fin z' h' nx' hs σ hs' h1 g1 g2, g3, fun j hj => ?_, g5⟩
      cases j with
      | zero =>
        rcases hj with hj | hj
        · have : actAt (ADr.cons i c o l).list 0 = c.isAct := rfl
          rw [this, hc] at hj
          cases hj
        · simp [ADr.list] at hj
      | succ j =>
        have := g4 j (by
          rcases hj with hj | hj
          · exact .inl (by simpa [actAt, ADr.list] using hj)
          · exact .inr (by simpa [ADr.list] using hj))
        show hs'.nth (hs.len + ((if c.isAct then 1 else 0) + bN l.list j)) = _
        rw [hc, if_neg (by simp), Nat.zero_add]
        exact this
theorem sameAt_spec {o : AOper} {zf : TV} {u v : Nat} : ∀ (hs : SL), sameAt o zf u v hs = true → ∀ (n : Nat) (z : TV) (h : TB), hs.nth n = some (z, h) → u ≤ n → n ≤ v → sameOne o zf z h = true := by
  intro hs
  induction hs with
  | nil => intro _ n z h hn; cases hn
  | cons z1 h1 hs ih =>
    intro hsame n z h hn hu hv
    replace hsame : (bif Nat.ble u hs.len && Nat.ble hs.len v then sameOne o zf z1 h1 && sameAt o zf u v hs else sameAt o zf u v hs) = true := hsame
    replace hn : (if n = hs.len then some (z1, h1) else hs.nth n) = some (z, h) := hn
    cases hb : (Nat.ble u hs.len && Nat.ble hs.len v) with
    | true =>
      rw [hb] at hsame
      rw [cond_true, Bool.and_eq_true] at hsame
      split at hn
      · cases hn; exact hsame.1
      · exact ih hsame.2 n z h hn hu hv
    | false =>
      rw [hb] at hsame
      rw [cond_false] at hsame
      split at hn
      · rename_i he
        subst he
        rw [nble_iff.2 hu, nble_iff.2 hv] at hb
        cases hb
      · exact ih hsame n z h hn hu hv
theorem drawChk_spec {zf : TV} {hs : SL} : ∀ (l : ADr), drawChk zf hs l = true → ∀ (k : Nat) (x : It) (u v : Nat), l.list[k]? = some x → x.2.1 = .reads u v → sameAt x.2.2 zf u v hs = true := by
  intro l
  induction l with
  | nil => intro _ k x u v hk; simp [ADr.list] at hk
  | cons i c o l ih =>
    intro hd k x u v hk hx
    cases k with
    | zero =>
      obtain rfl : (i, c, o) = x := by simpa [ADr.list] using hk
      obtain rfl : c = .reads u v := hx
      simp only [drawChk, Bool.and_eq_true] at hd
      exact hd.1
    | succ k =>
      refine ih ?_ k x u v (by simpa [ADr.list] using hk) hx
      cases c <;> simp only [drawChk, Bool.and_eq_true] at hd <;> first | exact hd.2 | exact hd
end Go.Ra
