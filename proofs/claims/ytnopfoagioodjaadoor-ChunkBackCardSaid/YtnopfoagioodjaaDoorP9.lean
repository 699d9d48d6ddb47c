/-
  Plain laws of a body in chunks: the reader byte by byte, and the reference's lines: no program in sight.
-/
import Derived.Test.YtnopfoagioodjaaDoorP7
namespace Go.Proofs.YtnopfoagioodjaaDoor

/-- A reader: what it reads (0: a head, 1: data, 2: behind data, 3: trailers, 4: nothing more), the line under way, bytes to come, the data, trailers and their bytes, what is wrong. -/
structure Ck where
  st : Nat
  line : List UInt8
  left : Nat
  data : List UInt8
  nf : Nat
  tail : Nat
  bad : Nat
def ck0 : Ck := ⟨0, [], 0, [], 0, 0, 0⟩
def wrongC (r : Ck) (c : Nat) : Ck := { r with st := 4, bad := c }
def hexD (c : UInt8) : Nat := if 97 ≤ c then c.toNat - 87 else if 65 ≤ c then c.toNat - 55 else c.toNat - 48
def hexN (l : List UInt8) : Nat := l.foldl (fun x c => 16 * x + hexD c) 0
/-- What a head's line says. -/
def sizeC (s : List UInt8) : Option Nat :=
  if (Lib.cut s [59]).2.1.all isVal && (!(Lib.cut s [59]).1.isEmpty && (decide ((Lib.cut s [59]).1.length ≤ 8) && (Lib.cut s [59]).1.all isHex)) then some (hexN (Lib.cut s [59]).1) else none
def headC (r : Ck) (s : List UInt8) : Ck :=
  match sizeC s with
  | none => wrongC r 400
  | some n => if 4096 < r.data.length + n then wrongC r 413 else if n = 0 then { r with st := 3 } else { r with st := 1, left := n }
def trailerC (r : Ck) (s : List UInt8) : Ck :=
  if s.isEmpty then { r with st := 4 } else if (parseB s).2.2 then (if 32 ≤ r.nf then { r with nf := r.nf + 1, st := 4, bad := 431 } else { r with nf := r.nf + 1 }) else { r with nf := r.nf + 1, st := 4, bad := 400 }
def crB (l : List UInt8) : Bool := l.getLast? == some 13
def letterC (r0 : Ck) (c : UInt8) : Ck :=
  let r := if r0.st = 3 then { r0 with tail := r0.tail + 1 } else r0
  if 2048 < r.tail then wrongC r 431
  else if crB r.line != (c == 10) then wrongC r 400
  else if crB r.line then (if r.st = 0 then headC { r with line := [] } r.line.dropLast else trailerC { r with line := [] } r.line.dropLast)
  else if r.st = 0 ∧ r.line.length = 2048 then wrongC r 431
  else { r with line := r.line ++ [c] }
def endC (r : Ck) (c : UInt8) : Ck :=
  if c = (if r.line.isEmpty then 13 else 10) then (if c = 10 then { r with line := [], st := 0 } else { r with line := r.line ++ [c] }) else wrongC r 400
def dataC (r : Ck) (c : UInt8) : Ck := { r with data := r.data ++ [c], left := r.left - 1, st := if r.left = 1 then 2 else 1 }
def stepC (r : Ck) (c : UInt8) : Ck := if r.st = 1 then dataC r c else if r.st = 2 then endC r c else letterC r c
/-- What feeding does: how many bytes are read, and the reader. -/
def feedC : Ck → List UInt8 → Nat × Ck
  | r, [] => (0, r)
  | r, c :: t => if r.st = 4 then (0, r) else ((feedC (stepC r c) t).1 + 1, (feedC (stepC r c) t).2)
/-- What a reader that came to be may be. -/
structure CkOk (r : Ck) : Prop where
  st : r.st ≤ 4
  one : r.st = 1 → 1 ≤ r.left ∧ r.line = [] ∧ r.data.length + r.left ≤ 4096
  two : r.st = 2 → r.line = [] ∨ r.line = [13]
  zero : r.st = 0 → r.line.length ≤ 2048 ∧ r.tail = 0 ∧ r.nf = 0
  three : r.st = 3 → r.line.length ≤ r.tail ∧ r.tail ≤ 2048 ∧ r.nf ≤ 32
  data : r.data.length ≤ 4096
  live : r.st ≠ 4 → r.bad = 0 ∧ r.nf ≤ 32 ∧ r.tail ≤ 2048
  ends : r.st = 4 → r.nf ≤ 33 ∧ r.tail ≤ 2049 ∧ r.line.length ≤ 2048 ∧ r.left ≤ 4096
  early : r.st = 1 ∨ r.st = 2 → r.tail = 0 ∧ r.nf = 0 ∧ r.left ≤ 4096
  left : r.left ≤ 4096
  codes : r.bad = 0 ∨ r.bad = 400 ∨ r.bad = 413 ∨ r.bad = 431
theorem ck0_ok : CkOk ck0 := ⟨by decide, by decide, by decide, by decide, by decide, by decide, by decide, by decide, by decide, by decide, .inl rfl⟩

theorem wrong_ok {r : Ck} {c : Nat} (hc : c = 400 ∨ c = 413 ∨ c = 431) (h1 : r.data.length ≤ 4096) (h2 : r.nf ≤ 33) (h3 : r.tail ≤ 2049) (h4 : r.line.length ≤ 2048) (h5 : r.left ≤ 4096) : CkOk (wrongC r c) :=
  ⟨by simp [wrongC], fun h => by simp [wrongC] at h, fun h => by simp [wrongC] at h, fun h => by simp [wrongC] at h, fun h => by simp [wrongC] at h, h1, fun h => absurd rfl h, fun _ => ⟨h2, h3, h4, h5⟩, fun h => by simp [wrongC] at h, h5, .inr hc⟩
theorem head_ok {r : Ck} (s : List UInt8) (h1 : r.data.length ≤ 4096) (h2 : r.nf = 0) (h3 : r.tail = 0) (h4 : r.line = []) (h5 : r.left ≤ 4096) (h6 : r.bad = 0) : CkOk (headC r s) := by
  unfold headC
  cases sizeC s with
  | none => exact wrong_ok (.inl rfl) h1 (by omega) (by omega) (by rw [h4]; simp) h5
  | some n =>
    dsimp only
    split
    · exact wrong_ok (.inr (.inl rfl)) h1 (by omega) (by omega) (by rw [h4]; simp) h5
    · split
      · exact ⟨by simp, fun h => by simp at h, fun h => by simp at h, fun h => by simp at h, fun _ => ⟨by simp [h4], by simp [h3], by simp [h2]⟩, h1, fun _ => ⟨h6, by simp [h2], by simp [h3]⟩, fun h => by simp at h, fun h => by simp at h, h5, .inl h6⟩
      · exact ⟨by simp, fun _ => ⟨by simp; omega, h4, by simp; omega⟩, fun h => by simp at h, fun h => by simp at h, fun h => by simp at h, h1, fun _ => ⟨h6, by simp [h2], by simp [h3]⟩, fun h => by simp at h, fun _ => ⟨h3, h2, by simp; omega⟩, by simp; omega, .inl h6⟩
theorem trailer_ok {r : Ck} (s : List UInt8) (h0 : r.st = 3) (h1 : r.data.length ≤ 4096) (h2 : r.nf ≤ 32) (h3 : r.tail ≤ 2048) (h4 : r.line = []) (h5 : r.left ≤ 4096) (h6 : r.bad = 0) : CkOk (trailerC r s) := by
  unfold trailerC
  split
  · exact ⟨by simp, fun h => by simp at h, fun h => by simp at h, fun h => by simp at h, fun h => by simp at h, h1, fun h => absurd rfl h, fun _ => ⟨by simp; omega, by simp; omega, by simp [h4], h5⟩, fun h => by simp at h, h5, .inl h6⟩
  · split
    · split
      · exact ⟨by simp, fun h => by simp at h, fun h => by simp at h, fun h => by simp at h, fun h => by simp at h, h1, fun h => absurd rfl h, fun _ => ⟨by simp; omega, by simp; omega, by simp [h4], h5⟩, fun h => by simp at h, h5, .inr (.inr (.inr rfl))⟩
      · exact ⟨by simp [h0], fun h => by simp [h0] at h, fun h => by simp [h0] at h, fun h => by simp [h0] at h, fun _ => ⟨by simp [h4], h3, by simp; omega⟩, h1, fun _ => ⟨h6, by simp; omega, h3⟩, fun h => by simp [h0] at h, fun h => by simp [h0] at h, h5, .inl h6⟩
    · exact ⟨by simp, fun h => by simp at h, fun h => by simp at h, fun h => by simp at h, fun h => by simp at h, h1, fun h => absurd rfl h, fun _ => ⟨by simp; omega, by simp; omega, by simp [h4], h5⟩, fun h => by simp at h, h5, .inr (.inl rfl)⟩
theorem letter_ok {r0 : Ck} (c : UInt8) (h : CkOk r0) (hs : r0.st = 0 ∨ r0.st = 3) : CkOk (letterC r0 c) := by
  obtain ⟨b0, b1, b2⟩ := h.live (by omega)
  have hd := h.data
  have hl := h.left
  rcases hs with hs | hs
  · obtain ⟨z1, z2, z3⟩ := h.zero hs
    unfold letterC
    simp only [hs]
    rw [if_neg (show ¬ (0 = 3) by decide), if_neg (by omega)]
    split
    · exact wrong_ok (.inl rfl) hd (by omega) (by omega) z1 hl
    · split
      · exact head_ok _ hd z3 z2 rfl hl b0
      · split
        · exact wrong_ok (.inr (.inr rfl)) hd (by omega) (by omega) z1 hl
        · rename_i hn
          have hn2 : r0.line.length ≠ 2048 := fun e => hn ⟨hs, e⟩
          exact ⟨by simp [hs], fun h => by simp [hs] at h, fun h => by simp [hs] at h, fun _ => ⟨by simp; omega, z2, z3⟩, fun h => by simp [hs] at h, hd, fun _ => ⟨b0, b1, b2⟩, fun h => by simp [hs] at h, fun h => by simp [hs] at h, hl, h.codes⟩
  · obtain ⟨z1, z2, z3⟩ := h.three hs
    unfold letterC
    rw [if_pos hs]
    dsimp only
    split
    · exact wrong_ok (.inr (.inr rfl)) hd (by simp; omega) (by simp; omega) (by simp; omega) hl
    · rename_i ht
      split
      · exact wrong_ok (.inl rfl) hd (by simp; omega) (by simp; omega) (by simp; omega) hl
      · split
        · rw [if_neg (by omega)]
          exact trailer_ok _ hs hd z3 (by simp; omega) rfl hl b0
        · rw [if_neg (by omega)]
          exact ⟨by simp [hs], fun h => by simp [hs] at h, fun h => by simp [hs] at h, fun h => by simp [hs] at h, fun _ => ⟨by simp; omega, by simp; omega, z3⟩, hd, fun _ => ⟨b0, b1, by simp; omega⟩, fun h => by simp [hs] at h, fun h => by simp [hs] at h, hl, h.codes⟩
theorem end_ok {r : Ck} (c : UInt8) (h : CkOk r) (hs : r.st = 2) : CkOk (endC r c) := by
  obtain ⟨b0, b1, b2⟩ := h.live (by omega)
  obtain ⟨e1, e2, e3⟩ := h.early (.inr hs)
  have hln := h.two hs
  have hl2 : r.line.length ≤ 2048 := by rcases hln with h | h <;> rw [h] <;> simp
  unfold endC
  by_cases hc : c = (if r.line.isEmpty then 13 else 10)
  · rw [if_pos hc]
    by_cases hc10 : c = 10
    · rw [if_pos hc10]
      exact ⟨by simp, fun h => by simp at h, fun h => by simp at h, fun _ => ⟨by simp, e1, e2⟩, fun h => by simp at h, h.data, fun _ => ⟨b0, b1, b2⟩, fun h => by simp at h, fun h => by simp at h, e3, h.codes⟩
    · rw [if_neg hc10]
      have hle : r.line = [] := by
        rcases hln with h | h
        · exact h
        · rw [h] at hc; simp at hc; exact absurd hc hc10
      rw [hle] at hc ⊢
      simp at hc
      subst hc
      exact ⟨by simp [hs], fun h => by simp [hs] at h, fun _ => .inr rfl, fun h => by simp [hs] at h, fun h => by simp [hs] at h, h.data, fun _ => ⟨b0, b1, b2⟩, fun h => by simp [hs] at h, fun _ => ⟨e1, e2, e3⟩, e3, h.codes⟩
  · rw [if_neg hc]
    exact wrong_ok (.inl rfl) h.data (by omega) (by omega) hl2 e3
theorem data_ok {r : Ck} (c : UInt8) (h : CkOk r) (hs : r.st = 1) : CkOk (dataC r c) := by
  obtain ⟨b0, b1, b2⟩ := h.live (by omega)
  obtain ⟨e1, e2, e3⟩ := h.early (.inl hs)
  obtain ⟨o1, o2, o3⟩ := h.one hs
  unfold dataC
  by_cases h1 : r.left = 1
  · rw [if_pos h1]
    exact ⟨by simp, fun h => by simp at h, fun _ => .inl o2, fun h => by simp at h, fun h => by simp at h, by simp; omega, fun _ => ⟨b0, b1, b2⟩, fun h => by simp at h, fun _ => ⟨e1, e2, by simp; omega⟩, by simp; omega, h.codes⟩
  · rw [if_neg h1]
    exact ⟨by simp, fun _ => ⟨by simp; omega, o2, by simp; omega⟩, fun h => by simp at h, fun h => by simp at h, fun h => by simp at h, by simp; omega, fun _ => ⟨b0, b1, b2⟩, fun h => by simp at h, fun _ => ⟨e1, e2, by simp; omega⟩, by simp; omega, h.codes⟩
theorem step_ok {r : Ck} (c : UInt8) (h : CkOk r) (hs : r.st ≠ 4) : CkOk (stepC r c) := by
  unfold stepC
  have := h.st
  split
  · exact data_ok c h (by assumption)
  · split
    · exact end_ok c h (by assumption)
    · exact letter_ok c h (by omega)
theorem feed_ok : ∀ (s : List UInt8) {r : Ck}, CkOk r → CkOk (feedC r s).2
  | [], _, h => h
  | c :: t, r, h => by
    unfold feedC
    split
    · exact h
    · exact feed_ok t (step_ok c h (by assumption))
theorem feed_le : ∀ (s : List UInt8) (r : Ck), (feedC r s).1 ≤ s.length
  | [], _ => Nat.le_refl _
  | c :: t, r => by
    unfold feedC
    split
    · exact Nat.zero_le _
    · have := feed_le t (stepC r c); simp; omega
theorem feed_over {r : Ck} (h : r.st = 4) (s : List UInt8) : feedC r s = (0, r) := by
  cases s with
  | nil => rfl
  | cons c t => unfold feedC; rw [if_pos h]
theorem feed_cons {r : Ck} (h : r.st ≠ 4) (c : UInt8) (t : List UInt8) : feedC r (c :: t) = ((feedC (stepC r c) t).1 + 1, (feedC (stepC r c) t).2) := by
  rw [feedC, if_neg h]
/-- What is left unread: then the reader reads nothing more. -/
theorem feed_short : ∀ (s : List UInt8) (r : Ck), (feedC r s).1 < s.length → (feedC r s).2.st = 4
  | [], _, h => by simp at h
  | c :: t, r, h => by
    unfold feedC at h ⊢
    split
    · assumption
    · rename_i hs
      rw [if_neg hs] at h
      exact feed_short t _ (by simp at h; omega)
theorem feed_app : ∀ (a b : List UInt8) (r : Ck), feedC r (a ++ b) = ((feedC r a).1 + (feedC (feedC r a).2 b).1, (feedC (feedC r a).2 b).2)
  | [], b, r => by simp [feedC]
  | c :: t, b, r => by
    by_cases h : r.st = 4
    · simp [feed_over h]
    · rw [List.cons_append, feed_cons h, feed_cons h, feed_app t b]
      simp; omega
/-- Many bytes of data at a time. -/
theorem feed_data : ∀ (a : List UInt8) {r : Ck}, r.st = 1 → 1 ≤ a.length → a.length ≤ r.left → feedC r a = (a.length, { r with data := r.data ++ a, left := r.left - a.length, st := if r.left = a.length then 2 else 1 })
  | [], _, _, h, _ => by simp at h
  | [c], r, hs, _, h => by
    rw [feed_cons (by omega)]
    simp [feedC, stepC, hs, dataC]
  | c :: d :: t, r, hs, _, h => by
    simp only [List.length_cons] at h
    have hne : r.left ≠ 1 := by omega
    rw [feed_cons (by omega), show stepC r c = { r with data := r.data ++ [c], left := r.left - 1, st := 1 } by unfold stepC; rw [if_pos hs]; unfold dataC; rw [if_neg hne]]
    rw [feed_data (d :: t) rfl (by simp) (by simp; omega)]
    simp only [List.length_cons, Prod.mk.injEq, true_and]
    have e : (r.left - 1 = t.length + 1) = (r.left = t.length + 1 + 1) := by rw [eq_iff_iff]; omega
    simp only [e]
    simp
    omega
end Go.Proofs.YtnopfoagioodjaaDoor
