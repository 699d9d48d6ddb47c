/-
  Drawn regions: what the checks say.
-/
import Derived.Test.YtjjmmakledpifaaGreatDoorSM
set_option linter.unusedVariables false
set_option linter.unusedSimpArgs false
namespace Go.Ra
variable {P : Program} {m : Mp} {h : TB} {nx : Nat} {w : World} {nt : Nat} {a : Act} {z : TV} {ft : TF} {ex : Exec}

abbrev It := Nat × ACl × AOper
def ADr.list : ADr → List It
  | .nil => []
  | .cons i c o l => (i, c, o) :: l.list
/-- Is the operation at a place an act? -/
def actAt (l : List It) (k : Nat) : Bool := match l[k]? with | some x => x.2.1.isAct | none => false
/-- How many acts stand ahead of a place. -/
def bN : List It → Nat → Nat
  | [], _ => 0
  | _ :: _, 0 => 0
  | x :: l, k + 1 => (if x.2.1.isAct then 1 else 0) + bN l k
theorem bN_zero (l : List It) : bN l 0 = 0 := by cases l <;> rfl
theorem bN_succ : ∀ (l : List It) (k : Nat), bN l (k + 1) = bN l k + if actAt l k then 1 else 0 := by
  intro l
  induction l with
  | nil => intro k; rfl
  | cons x l ih =>
    intro k
    cases k with
    | zero =>
      show (if x.2.1.isAct then 1 else 0) + bN l 0 = 0 + _
      rw [bN_zero]
      simp [actAt]
    | succ k =>
      show (if x.2.1.isAct then 1 else 0) + bN l (k + 1) = (if x.2.1.isAct then 1 else 0) + bN l k + _
      rw [ih k]
      have : actAt (x :: l) (k + 1) = actAt l k := by simp [actAt]
      rw [this]
      omega
theorem bN_mono (l : List It) {k k' : Nat} (h : k ≤ k') : bN l k ≤ bN l k' := by
  induction k' with
  | zero => obtain rfl : k = 0 := by omega
            exact Nat.le_refl _
  | succ k' ih =>
    rcases Nat.lt_or_ge k (k' + 1) with h1 | h1
    · have := ih (by omega)
      rw [bN_succ]; omega
    · obtain rfl : k = k' + 1 := by omega
      exact Nat.le_refl _
theorem bN_lt (l : List It) {k k' : Nat} (ha : actAt l k = true) (h : k < k') : bN l k < bN l k' := by
  have := bN_mono l (show k + 1 ≤ k' from h)
  rw [bN_succ, ha, if_pos rfl] at this
  omega
/-- Between two places with as many acts ahead no act stands. -/
theorem bN_calm (l : List It) {k k' : Nat} (h : k ≤ k') (hn : ∀ j, k ≤ j → j < k' → actAt l j = false) : bN l k' = bN l k := by
  induction k' with
  | zero => obtain rfl : k = 0 := by omega
            rfl
  | succ k' ih =>
    rcases Nat.lt_or_ge k (k' + 1) with h1 | h1
    · rw [bN_succ, ih (by omega) (fun j h2 h3 => hn j h2 (by omega)), hn k' (by omega) (by omega)]
      rfl
    · obtain rfl : k = k' + 1 := by omega
      rfl
theorem acts_get : ∀ (l : ADr) (k : Nat) (x : It), l.list[k]? = some x → x.2.1.isAct = true → l.acts[bN l.list k]? = some x.1 := by
  intro l
  induction l with
  | nil => intro k x hk; simp [ADr.list] at hk
  | cons i c o l ih =>
    intro k x hk hx
    cases k with
    | zero =>
      obtain rfl : (i, c, o) = x := by simpa [ADr.list] using hk
      cases c <;> first | (cases hx; done) | rfl
    | succ k =>
      have hk' : l.list[k]? = some x := by simpa [ADr.list] using hk
      have := ih k x hk' hx
      show (ADr.cons i c o l).acts[(if c.isAct then 1 else 0) + bN l.list k]? = _
      cases c with
      | acts =>
        show (i :: l.acts)[1 + bN l.list k]? = _
        rw [Nat.add_comm]
        simpa using this
      | _ =>
        show l.acts[0 + bN l.list k]? = _
        rw [Nat.zero_add]
        exact this
theorem acts_of : ∀ (l : ADr) (y j : Nat), l.acts[y]? = some j → ∃ k x, l.list[k]? = some x ∧ x.2.1.isAct = true ∧ x.1 = j ∧ bN l.list k = y := by
  intro l
  induction l with
  | nil => intro y j hy; simp [ADr.acts] at hy
  | cons i c o l ih =>
    intro y j hy
    have skip : c.isAct = false → l.acts[y]? = some j → ∃ k x, (ADr.cons i c o l).list[k]? = some x ∧ x.2.1.isAct = true ∧ x.1 = j ∧ bN (ADr.cons i c o l).list k = y := by
      intro hc hy
      obtain ⟨k, x, h1, h2, h3, h4⟩ := ih y j hy
      refine ⟨k + 1, x, by simpa [ADr.list] using h1, h2, h3, ?_⟩
      show (if c.isAct then 1 else 0) + bN l.list k = y
      rw [hc, h4]
      simp
    cases c with
    | acts =>
      have hy' : (i :: l.acts)[y]? = some j := hy
      cases y with
      | zero => exact ⟨0, (i, .acts, o), rfl, rfl, by simpa using hy', rfl⟩
      | succ y =>
        obtain ⟨k, x, h1, h2, h3, h4⟩ := ih y j (by simpa using hy')
        refine ⟨k + 1, x, by simpa [ADr.list] using h1, h2, h3, ?_⟩
        show 1 + bN l.list k = y + 1
        omega
    | calm => exact skip rfl hy
    | reads x' y' => exact skip rfl hy
    | makes => exact skip rfl hy
theorem bN_len (l : ADr) : bN l.list l.list.length = l.acts.length := by
  induction l with
  | nil => rfl
  | cons i c o l ih =>
    show (if c.isAct then 1 else 0) + bN l.list l.list.length = _
    rw [ih]
    cases c <;> simp [ACl.isAct, ADr.acts] <;> omega
theorem actAt_lt {l : List It} {k : Nat} (h : actAt l k = true) : k < l.length := by
  unfold actAt at h
  split at h
  · rename_i hx; exact (List.getElem?_eq_some_iff.1 hx).1
  · cases h
theorem actAt_some {l : List It} {k : Nat} {x : It} (h : l[k]? = some x) : actAt l k = x.2.1.isAct := by
  unfold actAt; rw [h]

theorem hasP_iff {p : Pth} {l : List Pth} : hasP p l = true ↔ p ∈ l := by
  unfold hasP
  rw [List.any_eq_true]
  constructor
  · rintro ⟨q, h1, h2⟩
    rw [Pth.beq_eq] at h2
    exact h2 ▸ h1
  · exact fun h => ⟨p, h, (Pth.beq_eq _ _).2 rfl⟩
theorem apart_iff {l m : List Pth} : apart l m = true ↔ ∀ p ∈ l, p ∉ m := by
  unfold apart
  rw [List.all_eq_true]
  constructor
  · intro h p hp hm
    have := List.all_eq_true.1 (h p hp) p hm
    rw [(Pth.beq_eq p p).2 rfl] at this
    cases this
  · intro h p hp
    rw [List.all_eq_true]
    intro q hq
    have : p.beq q = false := Pth.beq_false.2 fun e => h p hp (e ▸ hq)
    rw [this]; rfl
theorem dsts_mem : ∀ (l : ADr) (k : Nat) (x : It) (t : Pth), l.list[k]? = some x → t ∈ x.2.2.dst.path → t ∈ l.dsts := by
  intro l
  induction l with
  | nil => intro k x t hk; simp [ADr.list] at hk
  | cons i c o l ih =>
    intro k x t hk ht
    show t ∈ o.dst.path ++ l.dsts
    rw [List.mem_append]
    cases k with
    | zero =>
      obtain rfl : (i, c, o) = x := by simpa [ADr.list] using hk
      exact .inl ht
    | succ k => exact .inr (ih k x t (by simpa [ADr.list] using hk) ht)
theorem calmDsts_mem : ∀ (l : ADr) (k : Nat) (x : It) (t : Pth), l.list[k]? = some x → x.2.1.isAct = false → t ∈ x.2.2.dst.path → t ∈ l.calmDsts := by
  intro l
  induction l with
  | nil => intro k x t hk; simp [ADr.list] at hk
  | cons i c o l ih =>
    intro k x t hk hc ht
    show t ∈ (if c.isAct then [] else o.dst.path) ++ l.calmDsts
    rw [List.mem_append]
    cases k with
    | zero =>
      obtain rfl : (i, c, o) = x := by simpa [ADr.list] using hk
      left
      rw [if_neg (by rw [show c.isAct = false from hc]; simp)]
      exact ht
    | succ k => exact .inr (ih k x t (by simpa [ADr.list] using hk) hc ht)
theorem calmDsts_of : ∀ (l : ADr) (t : Pth), t ∈ l.calmDsts → ∃ (k : Nat) (x : It), l.list[k]? = some x ∧ x.2.1.isAct = false ∧ t ∈ x.2.2.dst.path := by
  intro l
  induction l with
  | nil => intro t ht; cases ht
  | cons i c o l ih =>
    intro t ht
    replace ht : t ∈ (if c.isAct then [] else o.dst.path) ++ l.calmDsts := ht
    rw [List.mem_append] at ht
    rcases ht with ht | ht
    · cases hc : c.isAct with
      | true => rw [hc] at ht; cases ht
      | false => rw [hc] at ht; exact ⟨0, (i, c, o), rfl, hc, ht⟩
    · obtain ⟨k, x, h1, h2⟩ := ih t ht
      exact ⟨k + 1, x, by simpa [ADr.list] using h1, h2⟩
theorem actDsts_mem : ∀ (l : ADr) (k : Nat) (x : It), l.list[k]? = some x → x.2.1.isAct = true → (x.1, x.2.2.dst.path) ∈ l.actDsts := by
  intro l
  induction l with
  | nil => intro k x hk; simp [ADr.list] at hk
  | cons i c o l ih =>
    intro k x hk hc
    show _ ∈ (if c.isAct then (i, o.dst.path) :: l.actDsts else l.actDsts)
    cases k with
    | zero =>
      obtain rfl : (i, c, o) = x := by simpa [ADr.list] using hk
      rw [if_pos hc]
      exact List.mem_cons_self ..
    | succ k =>
      have := ih k x (by simpa [ADr.list] using hk) hc
      split
      · exact List.mem_cons_of_mem _ this
      · exact this

/-- What `calmly` says, place by place. -/
structure Calmly (pre : List Nat) (rd : Nat → List Pth) (N : List Pth) (l : List It) : Prop where
  once : ∀ (k : Nat) (x : It), l[k]? = some x → ∀ t ∈ rd x.1, t ∈ N → ∀ (k' : Nat) (x' : It), k ≤ k' → l[k']? = some x' → t ∉ x'.2.2.dst.path
  act : ∀ (k : Nat) (x : It), l[k]? = some x → x.2.1.isAct = true → ∀ t ∈ x.2.2.dst.path, t ∉ N
  calm : ∀ (k : Nat) (x : It), l[k]? = some x → x.2.1.isAct = false → ∀ t ∈ x.2.2.dst.path, ∀ (k' : Nat) (x' : It), k < k' → l[k']? = some x' → t ∉ x'.2.2.dst.path
  acts : ∀ (k : Nat) (x : It), l[k]? = some x → x.2.1.isAct = false → ∀ (k' : Nat) (x' : It), k < k' → l[k']? = some x' → x'.2.1.isAct = true → isPre pre x.1 x'.1 = true ∨ ∀ t ∈ x'.2.2.dst.path, t ∉ rd x.1
theorem calmly_spec {pre : List Nat} {rd : Nat → List Pth} {N : List Pth} : ∀ (l : ADr), l.calmly pre rd N = true → Calmly pre rd N l.list := by
  intro l
  induction l with
  | nil => intro _; constructor <;> (intro k x hk; simp [ADr.list] at hk)
  | cons i c o l ih =>
    intro hc
    simp only [ADr.calmly, Bool.and_eq_true, List.all_eq_true, Bool.or_eq_true, Bool.not_eq_true'] at hc
    obtain ⟨h1, h2, h3⟩ := hc
    have I := ih h3
    have later : ∀ {k' : Nat} {x' : It}, (ADr.cons i c o l).list[k' + 1]? = some x' → l.list[k']? = some x' := fun h => by simpa [ADr.list] using h
    refine ⟨fun k x hk t ht hN k' x' hle hk' => ?_, fun k x hk ha t ht => ?_, fun k x hk ha t ht k' x' hlt hk' => ?_, fun k x hk ha k' x' hlt hk' ha' => ?_⟩
    · cases k with
      | zero =>
        obtain rfl : (i, c, o) = x := by simpa [ADr.list] using hk
        rcases h1 t ht with h | h
        · rw [hasP_iff.2 hN] at h; cases h
        · have := apart_iff.1 h t (List.mem_singleton.2 rfl)
          rw [List.mem_append, not_or] at this
          cases k' with
          | zero =>
            obtain rfl : (i, c, o) = x' := by simpa [ADr.list] using hk'
            exact this.1
          | succ k' => exact fun hm => this.2 (dsts_mem l k' x' t (later hk') hm)
      | succ k =>
        obtain ⟨k', rfl⟩ : ∃ j, k' = j + 1 := ⟨k' - 1, by omega⟩
        exact I.once k x (later hk) t ht hN k' x' (by omega) (later hk')
    · cases k with
      | zero =>
        obtain rfl : (i, c, o) = x := by simpa [ADr.list] using hk
        rw [if_pos ha] at h2
        exact apart_iff.1 h2 t ht
      | succ k => exact I.act k x (later hk) ha t ht
    · obtain ⟨k', rfl⟩ : ∃ j, k' = j + 1 := ⟨k' - 1, by omega⟩
      cases k with
      | zero =>
        obtain rfl : (i, c, o) = x := by simpa [ADr.list] using hk
        rw [if_neg (by rw [show c.isAct = false from ha]; simp), Bool.and_eq_true] at h2
        exact fun hm => apart_iff.1 h2.1 t ht (dsts_mem l k' x' t (later hk') hm)
      | succ k => exact I.calm k x (later hk) ha t ht k' x' (by omega) (later hk')
    · obtain ⟨k', rfl⟩ : ∃ j, k' = j + 1 := ⟨k' - 1, by omega⟩
      cases k with
      | zero =>
        obtain rfl : (i, c, o) = x := by simpa [ADr.list] using hk
        rw [if_neg (by rw [show c.isAct = false from ha]; simp), Bool.and_eq_true, List.all_eq_true] at h2
        have := h2.2 _ (actDsts_mem l k' x' (later hk') ha')
        rw [Bool.or_eq_true] at this
        exact this.imp id fun h t ht => apart_iff.1 h t ht
      | succ k => exact I.acts k x (later hk) ha k' x' (by omega) (later hk') ha'

def Behind (pre all : List Nat) (i b : Nat) : Prop := b = 0 ∨ ∃ j, all[b - 1]? = some j ∧ isPre pre j i = true
theorem behind_of {pre all : List Nat} {i b : Nat} (h : behindA pre all i b = true) : Behind pre all i b := by
  unfold behindA at h
  rw [Bool.or_eq_true, beq_iff_eq] at h
  rcases h with h | h
  · exact .inl h
  · split at h
    · rename_i j hj; exact .inr ⟨j, hj, h⟩
    · cases h
theorem staged_spec {pre all : List Nat} : ∀ (l : ADr) (b : Nat), l.staged pre all b = true → ∀ (k : Nat) (x : It), l.list[k]? = some x →
    Behind pre all x.1 (b + bN l.list k) ∧ x.2.1.fits x.2.2.aop = true ∧ (∀ u v, x.2.1 = .reads u v → Behind pre all x.1 u ∧ ∀ j, all[v]? = some j → isPre pre x.1 j = true) := by
  intro l
  induction l with
  | nil => intro b _ k x hk; simp [ADr.list] at hk
  | cons i c o l ih =>
    intro b hs k x hk
    simp only [ADr.staged, Bool.and_eq_true] at hs
    obtain ⟨h1, h2, h3, h4⟩ := hs
    cases k with
    | zero =>
      obtain rfl : (i, c, o) = x := by simpa [ADr.list] using hk
      rw [bN_zero]
      refine ⟨behind_of h1, h2, fun u v hc => ?_⟩
      obtain rfl : c = .reads u v := hc
      simp only [Bool.and_eq_true] at h3
      refine ⟨behind_of h3.1, fun j hj => ?_⟩
      have := h3.2
      rw [hj] at this
      exact this
    | succ k =>
      have := ih _ h4 k x (by simpa [ADr.list] using hk)
      show Behind pre all x.1 (b + ((if c.isAct then 1 else 0) + bN l.list k)) ∧ _
      cases hc : c.isAct with
      | true => rw [hc] at this; simpa [Nat.add_assoc] using this
      | false => rw [hc] at this; simpa using this
end Go.Ra
