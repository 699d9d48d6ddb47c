/-
  A program's functions, turned when they are asked for.
-/
import Derived.Test.YtjjmmakledpifaaGreatDoorSR
import Derived.Test.YtjjmmakledpifaaGreatDoorT0
set_option linter.unusedVariables false
set_option linter.unusedSimpArgs false
namespace Go.Ra
theorem pth_c0 {l n : Nat} (h : n % 8 = 0) : pth (l + 1) n = .c0 (pth l (n / 8)) := by
  conv => lhs; unfold pth
  have hm : Nat.mod n 8 = 0 := h
  simp only [hm]
  rfl
theorem pth_c1 {l n : Nat} (h : n % 8 = 1) : pth (l + 1) n = .c1 (pth l (n / 8)) := by
  conv => lhs; unfold pth
  have hm : Nat.mod n 8 = 1 := h
  simp only [hm]
  rfl
theorem pth_c2 {l n : Nat} (h : n % 8 = 2) : pth (l + 1) n = .c2 (pth l (n / 8)) := by
  conv => lhs; unfold pth
  have hm : Nat.mod n 8 = 2 := h
  simp only [hm]
  rfl
theorem pth_c3 {l n : Nat} (h : n % 8 = 3) : pth (l + 1) n = .c3 (pth l (n / 8)) := by
  conv => lhs; unfold pth
  have hm : Nat.mod n 8 = 3 := h
  simp only [hm]
  rfl
theorem pth_c4 {l n : Nat} (h : n % 8 = 4) : pth (l + 1) n = .c4 (pth l (n / 8)) := by
  conv => lhs; unfold pth
  have hm : Nat.mod n 8 = 4 := h
  simp only [hm]
  rfl
theorem pth_c5 {l n : Nat} (h : n % 8 = 5) : pth (l + 1) n = .c5 (pth l (n / 8)) := by
  conv => lhs; unfold pth
  have hm : Nat.mod n 8 = 5 := h
  simp only [hm]
  rfl
theorem pth_c6 {l n : Nat} (h : n % 8 = 6) : pth (l + 1) n = .c6 (pth l (n / 8)) := by
  conv => lhs; unfold pth
  have hm : Nat.mod n 8 = 6 := h
  simp only [hm]
  rfl
theorem pth_c7 {l n : Nat} (h : n % 8 = 7) : pth (l + 1) n = .c7 (pth l (n / 8)) := by
  conv => lhs; unfold pth
  have hm : Nat.mod n 8 = 7 := h
  simp only [hm]
  rfl
theorem tabL_get {P : Program} {ix g : Nat} {ts : List Nat} {gl : GL} {tp : Nat} {tf : AFn} : ∀ (l n acc wt : Nat), n < 8 ^ l → TF.get (pth l n) (tabL P ix g ts gl tp tf l acc wt) = fnAt P ix g ts gl tp tf (acc + n * wt) := by
  intro l
  induction l with
  | zero =>
    intro n acc wt hn
    obtain rfl : n = 0 := by simpa using hn
    rw [Nat.zero_mul]
    rfl
  | succ l ih =>
    intro n acc wt hn
    have hq : n / 8 < 8 ^ l := by rw [Nat.pow_succ] at hn; omega
    have key : ∀ i, n % 8 = i → fnAt P ix g ts gl tp tf (acc + i * wt + n / 8 * (8 * wt)) = fnAt P ix g ts gl tp tf (acc + n * wt) := by
      intro i hi
      congr 1
      have : n = n / 8 * 8 + i := by omega
      have e : n * wt = n / 8 * (8 * wt) + i * wt := by
        conv => lhs; rw [this]
        rw [Nat.add_mul, Nat.mul_assoc]
      omega
    have h8 : n % 8 < 8 := Nat.mod_lt _ (by omega)
    rcases (show n % 8 = 0 ∨ n % 8 = 1 ∨ n % 8 = 2 ∨ n % 8 = 3 ∨ n % 8 = 4 ∨ n % 8 = 5 ∨ n % 8 = 6 ∨ n % 8 = 7 by omega) with h | h | h | h | h | h | h | h
    · have e : pth (l + 1) n = .c0 (pth l (n / 8)) := pth_c0 h
      rw [e, ← key 0 h, Nat.zero_mul, Nat.add_zero]
      exact ih (n / 8) _ _ hq
    · have e : pth (l + 1) n = .c1 (pth l (n / 8)) := pth_c1 h
      rw [e, ← key 1 h, Nat.one_mul]
      exact ih (n / 8) _ _ hq
    · have e : pth (l + 1) n = .c2 (pth l (n / 8)) := pth_c2 h
      rw [e, ← key 2 h]
      exact ih (n / 8) _ _ hq
    · have e : pth (l + 1) n = .c3 (pth l (n / 8)) := pth_c3 h
      rw [e, ← key 3 h]
      exact ih (n / 8) _ _ hq
    · have e : pth (l + 1) n = .c4 (pth l (n / 8)) := pth_c4 h
      rw [e, ← key 4 h]
      exact ih (n / 8) _ _ hq
    · have e : pth (l + 1) n = .c5 (pth l (n / 8)) := pth_c5 h
      rw [e, ← key 5 h]
      exact ih (n / 8) _ _ hq
    · have e : pth (l + 1) n = .c6 (pth l (n / 8)) := pth_c6 h
      rw [e, ← key 6 h]
      exact ih (n / 8) _ _ hq
    · have e : pth (l + 1) n = .c7 (pth l (n / 8)) := pth_c7 h
      rw [e, ← key 7 h]
      exact ih (n / 8) _ _ hq
theorem memN_mem {k : Nat} : ∀ {l : List Nat}, memN k l = true → k ∈ l := by
  intro l
  induction l with
  | nil => intro h; cases h
  | cons a l ih =>
    intro h
    replace h : (Bool.rec (memN k l) true (Nat.beq k a) : Bool) = true := h
    cases hb : Nat.beq k a with
    | true => rw [nbeq_iff.1 hb]; exact List.mem_cons_self ..
    | false => rw [hb] at h; exact List.mem_cons_of_mem _ (ih h)
theorem tab_ok {P : Program} {ix g : Nat} {ts : List Nat} {gl : GL} {tp : Nat} {tf : AFn} (hch : ∀ (k : Nat) (fn : Func), P.funcs[k]? = some fn → okFn P fn = true) (hn : ∀ (k : Nat) (fn : Func), P.funcs[k]? = some fn → fn.name ≠ "runtime.NumGoroutine") (hok : IndexOk P ix g) (htr : ∀ f ∈ ts, TruthOk P f gl) (htp : tp < 8 ^ D → ∃ fn T g pv s gl, TrapOk P tp tf fn T g pv s gl) : FtOk P (tab P ix g ts gl tp tf) := by
  intro f hf
  have hg : TF.get (bid f) (tab P ix g ts gl tp tf) = fnAt P ix g ts gl tp tf f := by
    have := tabL_get (P := P) (ix := ix) (g := g) (ts := ts) (gl := gl) (tp := tp) (tf := tf) D f 0 1 hf
    rw [Nat.mul_one, Nat.zero_add] at this
    exact this
  rw [hg]
  unfold fnAt
  cases hb : Nat.beq f ix with
  | true =>
    obtain rfl := nbeq_iff.1 hb
    exact .inr (.inr (.inl ⟨g, rfl, hok⟩))
  | false =>
    cases hm : memN f ts with
    | true => exact .inr (.inr (.inr (.inl ⟨gl, rfl, htr f (memN_mem hm)⟩)))
    | false =>
    cases htq : Nat.beq f tp with
    | true =>
      obtain rfl := nbeq_iff.1 htq
      exact .inr (.inl (htp hf))
    | false =>
    cases hfn : P.funcs[f]? with
    | none => exact .inl rfl
    | some fn =>
      have hu := cFn_of P fn (hch f fn hfn)
      cases hc : cFnU P fn with
      | none => exact .inl (by show (Option.rec .no (fun a => a) (cFnU P fn) : AFn) = .no; rw [hc])
      | some a =>
        refine .inr (.inr (.inr (.inr ⟨fn, rfl, hn f fn hfn, ?_⟩)))
        show cFn P fn = some (Option.rec .no (fun a => a) (cFnU P fn) : AFn)
        rw [hu, hc]
end Go.Ra
