/-
  What abstract values, blocks and worlds stand for.
-/
import Derived.RangeFuncRecord
import Derived.RangeFuncNested
import Derived.Laws.World
import Derived.Laws.Sem
import Derived.Test.YtjjmmakledpifaaGreatDoorS1
set_option linter.unusedVariables false
set_option linter.unusedSimpArgs false
namespace Go.Ra

/-- Where a block lies: the model's block, the abstract number of its first cell, how many cells it has, and whether nobody writes it. -/
structure E where
  blk : Nat
  delta : Nat
  size : Nat
  ro : Bool
abbrev Mp := Pth → Option E
def Sub (m m' : Mp) : Prop := ∀ id e, m id = some e → m' id = some e
theorem Sub.refl (m : Mp) : Sub m m := fun _ _ h => h
theorem Sub.trans {a b c : Mp} (h : Sub a b) (k : Sub b c) : Sub a c := fun _ _ e => k _ _ (h _ _ e)

def maxInt : Nat := 9223372036854775807

mutual
inductive VRel (m : Mp) : AV → Value → Prop
  | undef (v : Value) : VRel m .undef v
  | bool (b : Bool) : VRel m (.bool b) (.bool b)
  | int (k : IntKind) (n : Int) : VRel m (.int k n) (.int k n)
  | icap (lo n : Nat) : lo ≤ n → n ≤ maxInt → VRel m (.icap lo) (.int .i64 (.ofNat n))
  | aint (n : Int) : VRel m .aint (.int .i64 n)
  | ilt (hi : Nat) (n : Int) : n < (hi : Int) → VRel m (.ilt hi) (.int .i64 n)
  | text (lo hi : Nat) (s : ByteArray) : lo ≤ s.data.toList.length → s.data.toList.length < hi → VRel m (.text lo hi) (.string s)
  | str (s : ByteArray) : VRel m (.str s.data.toList.length (packL s.data.toList)) (.string s)
  | ptr (id : Pth) (off : Nat) (e : E) : m id = some e → e.delta ≤ off → VRel m (.ptr id off) (.pointer (some ⟨e.blk, off - e.delta, none⟩))
  | nilptr : VRel m .nilptr (.pointer none)
  | slice (id : Pth) (off len lo : Nat) (ex : Bool) (k : Nat) (e : E) (a : Addr) (c : Nat) : m id = some e → e.delta ≤ off → len ≤ c → lo ≤ c → c ≤ maxInt → (ex = true → c = lo) →
      (off - e.delta) + c * k ≤ e.size → (c ≠ 0 → a = ⟨e.blk, off - e.delta, none⟩) → VRel m (.slice id off len lo ex k) (.slice (some a) len c)
  | nilslice : VRel m .nilslice (.slice none 0 0)
  | map (id : Pth) (e : E) : m id = some e → VRel m (.map id) (.map (some e.blk))
  | nilmap : VRel m .nilmap (.map none)
  | func (f : Nat) (a b : AV) (as bs : List Value) : f < 8 ^ D → VRels m a as → VRels m b bs → VRel m (.func (bid f) a b) (.func (.func f) ⟨as⟩ ⟨bs⟩)
  | yield (id : Pth) (e : E) : m id = some e → VRel m (.yield id) (.func (.yield e.blk) #[] #[])
  | nilfunc : VRel m .nilfunc .nilFunc
  | iface (t : TypeId) (a : AV) (v : Value) : VRel m a v → VRel m (.iface t a) (.iface t v)
  | nilIface : VRel m .nilIface .nilIface
  | agg (l : AV) (vs : List Value) : VRels m l vs → (∀ v ∈ vs, v.oneCell' = true) → VRel m (.agg l) (.agg ⟨vs⟩)
  | tuple (l : AV) (vs : List Value) : VRels m l vs → VRel m (.tuple l) (.tuple ⟨vs⟩)
inductive VRels (m : Mp) : AV → List Value → Prop
  | nil : VRels m .nl []
  | cons (a l : AV) (v : Value) (vs : List Value) : VRel m a v → VRels m l vs → VRels m (.cs a l) (v :: vs)
end

mutual
theorem VRel.mono {m m' : Mp} (hs : Sub m m') : ∀ {a : AV} {v : Value}, VRel m a v → VRel m' a v
  | _, _, .undef v => .undef v
  | _, _, .bool b => .bool b
  | _, _, .int k n => .int k n
  | _, _, .icap lo n h k => .icap lo n h k
  | _, _, .aint n => .aint n
  | _, _, .ilt hi n h => .ilt hi n h
  | _, _, .text lo hi s h k => .text lo hi s h k
  | _, _, .str s => .str s
  | _, _, .ptr id off e h k => .ptr id off e (hs _ _ h) k
  | _, _, .nilptr => .nilptr
  | _, _, .slice id off len lo ex k e a c h0 h1 h2 h3 h4 h5 h6 h7 => .slice id off len lo ex k e a c (hs _ _ h0) h1 h2 h3 h4 h5 h6 h7
  | _, _, .nilslice => .nilslice
  | _, _, .map id e h => .map id e (hs _ _ h)
  | _, _, .nilmap => .nilmap
  | _, _, .func f a b as bs hf ha hb => .func f a b as bs hf (VRels.mono hs ha) (VRels.mono hs hb)
  | _, _, .yield id e h => .yield id e (hs _ _ h)
  | _, _, .nilfunc => .nilfunc
  | _, _, .iface t a v h => .iface t a v (VRel.mono hs h)
  | _, _, .nilIface => .nilIface
  | _, _, .agg l vs h k => .agg l vs (VRels.mono hs h) k
  | _, _, .tuple l vs h => .tuple l vs (VRels.mono hs h)
theorem VRels.mono {m m' : Mp} (hs : Sub m m') : ∀ {l : AV} {vs : List Value}, VRels m l vs → VRels m' l vs
  | _, _, .nil => .nil
  | _, _, .cons a l v vs h t => .cons a l v vs (VRel.mono hs h) (VRels.mono hs t)
end

section lists
variable {m : Mp}
theorem VRels.len {l : AV} {vs : List Value} (h : VRels m l vs) : l.len = vs.length := by
  induction vs generalizing l with
  | nil => cases h; rfl
  | cons v vs ih => cases h with | cons a l _ _ h t => simp [ih t]
theorem VRels.nth {l : AV} {vs : List Value} (h : VRels m l vs) {i : Nat} (hi : i < l.len) : ∃ v, vs[i]? = some v ∧ VRel m (l.nth i) v := by
  induction vs generalizing l i with
  | nil => cases h; simp at hi
  | cons v vs ih =>
    cases h with
    | cons a l _ _ h t =>
      cases i with
      | zero => exact ⟨v, rfl, h⟩
      | succ i => simpa using ih t (by simpa using hi)
theorem VRels.app {l l' : AV} {vs vs' : List Value} (h : VRels m l vs) (h' : VRels m l' vs') : VRels m (l.app l') (vs ++ vs') := by
  induction vs generalizing l with
  | nil => cases h; exact h'
  | cons v vs ih => cases h with | cons a l _ _ h t => exact .cons _ _ _ _ h (ih t)
theorem VRels.drop {l : AV} {vs : List Value} (h : VRels m l vs) (n : Nat) : VRels m (l.drop n) (vs.drop n) := by
  induction n generalizing l vs with
  | zero => exact h
  | succ n ih =>
    cases h with
    | nil =>
      have := ih (l := .nl) (vs := []) .nil
      rw [List.drop_nil] at this ⊢
      exact this
    | cons a l v vs h t => exact ih t
theorem VRels.take {l : AV} {vs : List Value} (h : VRels m l vs) {n : Nat} (hn : n ≤ l.len) : VRels m (l.take n) (vs.take n) := by
  induction n generalizing l vs with
  | zero => exact .nil
  | succ n ih =>
    cases h with
    | nil => simp at hn
    | cons a l v vs h t => exact .cons _ _ _ _ h (ih t (by simpa using hn))
/-- A segment is replaced: as a list. -/
theorem VRels.seg {l c : AV} {vs cs : List Value} (h : VRels m l vs) (hc : VRels m c cs) {n : Nat} (hn : n + c.len ≤ l.len) :
    VRels m (l.seg n c) (vs.take n ++ (cs ++ vs.drop (n + cs.length))) := by
  induction n generalizing l vs with
  | zero => simpa [hc.len] using hc.app (h.drop cs.length)
  | succ n ih =>
    cases h with
    | nil => simp at hn
    | cons a l v vs h t =>
      have := ih t (by simp at hn; omega)
      rw [show n + 1 + cs.length = (n + cs.length) + 1 by omega, AV.seg_succ]
      exact .cons _ _ _ _ h this
theorem seg_len {l c : AV} {vs cs : List Value} (h : VRels m l vs) (hc : VRels m c cs) {n : Nat} (hn : n + c.len ≤ l.len) : (l.seg n c).len = l.len := by
  rw [(h.seg hc hn).len, h.len]
  have h1 := h.len
  have h2 := hc.len
  simp
  omega
theorem VRels.reps {w : AV} {ws : List Value} (h : VRels m w ws) (n : Nat) : VRels m (w.reps n) ((List.replicate n ws).flatten) := by
  induction n with
  | zero => exact .nil
  | succ n ih => rw [AV.reps_succ, List.replicate_succ, List.flatten_cons]; exact h.app ih
end lists

theorem VRel.one {m : Mp} {a : AV} {v : Value} (h : VRel m a v) (ho : a.one = true) : v.oneCell' = true := by
  cases h <;> first | rfl | (exfalso; revert ho; simp [AV.one]; done)
theorem VRel.cells {m : Mp} {a l : AV} {v : Value} (h : VRel m a v) (hl : a.cells = some l) : VRels m l v.cells.toList ∧ ∀ c ∈ v.cells.toList, c.oneCell' = true := by
  have key : ∀ (a : AV) (v : Value), VRel m a v → v.oneCell' = true → v.cells = #[v] → VRels m (.cs a .nl) v.cells.toList ∧ ∀ c ∈ v.cells.toList, c.oneCell' = true := by
    intro a v h1 h2 h3
    rw [h3]
    exact ⟨.cons _ _ _ _ h1 .nil, fun c hc => by simp at hc; subst hc; exact h2⟩
  cases a with
  | agg b =>
    cases h with | agg _ vs h k =>
    obtain rfl : b = l := by simpa [AV.cells] using hl
    exact ⟨h, k⟩
  | undef | nl | cs _ _ | tuple _ => exact absurd hl (by simp [AV.cells])
  | bool _ | int _ _ | icap _ | aint | ilt _ | text _ _ | str _ _ | ptr _ _ | nilptr | slice _ _ _ _ _ _ | nilslice | map _ | nilmap | func _ _ _ | yield _ | nilfunc | iface _ _ | nilIface =>
    have hl' := Option.some.inj hl
    subst hl'
    refine key _ _ h ?_ ?_ <;> cases h <;> rfl

theorem ones_all {m : Mp} {l : AV} {vs : List Value} (h : VRels m l vs) (ho : l.ones = true) : ∀ v ∈ vs, v.oneCell' = true := by
  induction vs generalizing l with
  | nil => intro v hv; cases hv
  | cons v vs ih =>
    cases h with
    | cons a l _ _ h t =>
      simp only [AV.ones, Bool.and_eq_true] at ho
      intro x hx
      cases hx with
      | head => exact h.one ho.1
      | tail _ hx => exact ih t ho.2 x hx

mutual
theorem absV_rel (m : Mp) : ∀ (v : Value) (a : AV), absV v = some a → VRel m a v
  | .bool b, a, h => by cases h; exact .bool b
  | .int k n, a, h => by cases h; exact .int k n
  | .string s, a, h => by cases h; exact .str s
  | .pointer none, a, h => by cases h; exact .nilptr
  | .pointer (some _), a, h => by simp [absV] at h
  | .slice none 0 0, a, h => by cases h; exact .nilslice
  | .slice none 0 (_ + 1), a, h => by simp [absV] at h
  | .slice none (_ + 1) _, a, h => by simp [absV] at h
  | .slice (some _) _ _, a, h => by simp [absV] at h
  | .map none, a, h => by cases h; exact .nilmap
  | .map (some _), a, h => by simp [absV] at h
  | .nilFunc, a, h => by cases h; exact .nilfunc
  | .nilIface, a, h => by cases h; exact .nilIface
  | .agg ⟨l⟩, a, h => by
    simp only [absV] at h
    cases hl : absL l with
    | none => simp [hl] at h
    | some b =>
      simp only [hl] at h
      split at h
      · rename_i ho; cases h; exact .agg _ _ (absL_rel m l b hl) (ones_all (absL_rel m l b hl) ho)
      · cases h
  | .tuple ⟨l⟩, a, h => by
    simp only [absV] at h
    cases hl : absL l with
    | none => simp [hl] at h
    | some b => simp only [hl, Option.map_some, Option.some.injEq] at h; subst h; exact .tuple _ _ (absL_rel m l b hl)
  | .float _ _, a, h => by simp [absV] at h
  | .complex _ _ _, a, h => by simp [absV] at h
  | .chan _, a, h => by simp [absV] at h
  | .func _ _ _, a, h => by simp [absV] at h
  | .iface _ _, a, h => by simp [absV] at h
theorem absL_rel (m : Mp) : ∀ (l : List Value) (a : AV), absL l = some a → VRels m a l
  | [], a, h => by cases h; exact .nil
  | v :: l, a, h => by
    simp only [absL] at h
    split at h
    · rename_i x y hx hy; cases h; exact .cons _ _ _ _ (absV_rel m v x hx) (absL_rel m l y hy)
    · cases h
end

/-! Worlds -/
/-- Slots. -/
def TRel (m : Mp) (nt : Nat) (z : TV) (tmps : Array Value) : Prop := nt ≤ tmps.size ∧ ∀ t, t < nt → VRel m (TV.get (pth (lev nt) t) z) (tmps.getD t undef)
theorem TRel.mono {m m' : Mp} (hs : Sub m m') {nt : Nat} {z : TV} {t : Array Value} (h : TRel m nt z t) : TRel m' nt z t := ⟨h.1, fun i hi => (h.2 i hi).mono hs⟩

/-- Maps' entries. -/
inductive MRel (m : Mp) : ME → List MapEntry → Prop
  | nil : MRel m .nil []
  | cons (k v : AV) (b : Nat) (l : ME) (k' v' : Value) (l' : List MapEntry) : VRel m k k' → VRel m v v' → MRel m l l' → MRel m (.cons k v b l) (⟨k', v', b⟩ :: l')
theorem MRel.mono {m m' : Mp} (hs : Sub m m') {l : ME} {l' : List MapEntry} (h : MRel m l l') : MRel m' l l' := by
  induction h with
  | nil => exact .nil
  | cons k v b l k' v' l' hk hv _ ih => exact .cons k v b l k' v' l' (hk.mono hs) (hv.mono hs) ih

def PJ.code : PJ → Code
  | .ret => .ret
  | .exit id => .exit id

variable (P : Program)
/-- A block that is a row of cells. -/
structure Row (m : Mp) (e : E) (fz : Nat) (elem : TypeId) (lo hi : Nat) (t : Tr) (cs : Array Value) (fr : Nat × Nat) : Prop where
  size : cs.size = e.size
  low : e.delta ≤ lo
  high : hi ≤ e.delta + e.size
  one : ∀ o, lo ≤ o → o < hi → ∀ v, cs[o - e.delta]? = some v → v.oneCell' = true
  cell : ∀ o, lo ≤ o → o < hi → ∃ v, cs[o - e.delta]? = some v ∧ VRel m (t.get o) v
  free : ∀ o, e.delta ≤ o → fz ≤ o + 1 → o < e.delta + e.size → ¬ (fr.1 ≤ o - e.delta ∧ o - e.delta < fr.2)
  mark : 1 ≤ fz → fr.1 ≠ fr.2 → fr.1 < fr.2 ∧ fr.1 < e.size
theorem one_all {cs : Array Value} {d lo hi : Nat} (h : ∀ v ∈ cs, v.oneCell' = true) : ∀ o, lo ≤ o → o < hi → ∀ v, cs[o - d]? = some v → v.oneCell' = true := fun o _ _ v hv => h v (Array.mem_of_getElem? hv)
def BRel (m : Mp) (e : E) (b : AB) (o : Option Obj) : Prop :=
  match b with
  | .dead => True
  | .cells fz elem lo hi t => ∃ cs fr, o = some (.cells cs elem fr) ∧ Row m e fz elem lo hi t cs fr
  | .map es clock => ∃ l, o = some (.map l clock) ∧ MRel m es l.toList
  | .siter len n pos => ∃ s : ByteArray, o = some (.stringIter s pos) ∧ s.data.toList.length = len ∧ packL s.data.toList = n
  | .loop st pd z ps as bd => ∃ r : Loop, o = some (.loop r) ∧ r.state = st ∧ r.pending = pd.map PJ.code ∧ ∃ nt, nt ≤ 4096 ∧ TRel m nt z r.tmps ∧ r.params.toList.mapM (cT nt) = some ps ∧ cCode P nt r.assign = some as ∧ cCode P nt r.body = some bd
theorem Row.mono {m m' : Mp} (hs : Sub m m') {e : E} {fz elem lo hi : Nat} {t : Tr} {cs : Array Value} {fr : Nat × Nat} (h : Row m e fz elem lo hi t cs fr) : Row m' e fz elem lo hi t cs fr :=
  ⟨h.size, h.low, h.high, h.one, fun o h1 h2 => let ⟨v, a, b⟩ := h.cell o h1 h2; ⟨v, a, b.mono hs⟩, h.free, h.mark⟩
theorem BRel.mono {m m' : Mp} (hs : Sub m m') {e : E} {b : AB} {o : Option Obj} (h : BRel P m e b o) : BRel P m' e b o := by
  cases b with
  | dead => trivial
  | cells => obtain ⟨cs, fr, h1, h2⟩ := h; exact ⟨cs, fr, h1, h2.mono hs⟩
  | map => obtain ⟨l, h1, h2⟩ := h; exact ⟨l, h1, h2.mono hs⟩
  | siter => exact h
  | loop => obtain ⟨r, h1, h2, h3, nt, h4, h5, h6⟩ := h; exact ⟨r, h1, h2, h3, nt, h4, h5.mono hs, h6⟩

def live : AB → Prop
  | .dead => False
  | _ => True
/-- A block that nobody writes. -/
def RoB (e : E) : AB → Prop
  | .dead => True
  | .cells fz _ _ _ _ => e.delta + e.size < fz ∧ 18446744073709551616 ≤ fz
  | _ => False
/-- How the abstract machine stands for a world. -/
structure Inv (m : Mp) (h : TB) (nx : Nat) (w : World) : Prop where
  blk : ∀ id e, m id = some e → BRel P m e (h.get id) w.heap[e.blk]?
  inj : ∀ id id' e e', m id = some e → m id' = some e' → live (h.get id) → live (h.get id') → e.blk = e'.blk → id = id'
  dom : ∀ id e, m id = some e → ∃ n, n < nx ∧ id = bid n
  top : nx ≤ 32768
  low : 8 ≤ nx
  glob : ∀ g, g < 8 → ∃ e, m (bid g) = some e ∧ e.blk = g ∧ e.delta = 0 ∧ e.ro = true
  ro : ∀ id e, m id = some e → e.ro = true → RoB e (h.get id)
  lim : ∀ id e, m id = some e → e.blk < w.heap.size

/-- How a world may have become another one, and the abstract machine's state with it. -/
structure Fr (m : Mp) (h : TB) (nx : Nat) (w : World) (m' : Mp) (h' : TB) (nx' : Nat) (w' : World) : Prop where
  sub : Sub m m'
  le : nx ≤ nx'
  old : ∀ n, n < nx → m (bid n) = none → m' (bid n) = none ∧ h'.get (bid n) = h.get (bid n)
  os : w'.os = w.os
  tape : w'.tape = w.tape
  output : w'.output = w.output
  size : w.heap.size ≤ w'.heap.size
  keep : ∀ r, r < w.heap.size → (∀ id e, m id = some e → e.blk = r → e.ro = true) → w'.heap[r]? = w.heap[r]?
  loops : ∀ (r : Nat) (l : Loop), w.heap[r]? = some (Obj.loop l) → ∃ l' : Loop, w'.heap[r]? = some (Obj.loop l')
  fresh : ∀ id e, m' id = some e → m id = none → w.heap.size ≤ e.blk ∨ ∃ id0 e0, m id0 = some e0 ∧ e0.blk = e.blk ∧ e0.ro = false
theorem Fr.refl (m : Mp) (h : TB) (nx : Nat) (w : World) : Fr m h nx w m h nx w :=
  ⟨Sub.refl m, Nat.le_refl _, fun _ _ e => ⟨e, rfl⟩, rfl, rfl, rfl, Nat.le_refl _, fun _ _ _ => rfl, fun r l hl => ⟨l, hl⟩, fun id e h1 h2 => by rw [h1] at h2; cases h2⟩
theorem Fr.trans {m m1 m2 : Mp} {h h1 h2 : TB} {nx nx1 nx2 : Nat} {w w1 w2 : World} (a : Fr m h nx w m1 h1 nx1 w1) (b : Fr m1 h1 nx1 w1 m2 h2 nx2 w2) : Fr m h nx w m2 h2 nx2 w2 := by
  refine ⟨a.sub.trans b.sub, Nat.le_trans a.le b.le, fun n hn hm => ?_, b.os.trans a.os, b.tape.trans a.tape, b.output.trans a.output, Nat.le_trans a.size b.size, fun r hr hk => ?_, fun r l hl => ?_, fun id e he hm => ?_⟩
  · obtain ⟨x1, x2⟩ := a.old n hn hm
    obtain ⟨y1, y2⟩ := b.old n (Nat.lt_of_lt_of_le hn a.le) x1
    exact ⟨y1, y2.trans x2⟩
  · rw [b.keep r (Nat.lt_of_lt_of_le hr a.size) ?_, a.keep r hr hk]
    intro id e he hb
    cases hm : m id with
    | some e0 =>
      have := a.sub _ _ hm
      rw [this] at he; cases he
      exact hk id _ hm hb
    | none =>
      rcases a.fresh id e he hm with h | ⟨id0, e0, h1, h2, h3⟩
      · omega
      · have := hk id0 e0 h1 (h2.trans hb)
        rw [this] at h3; cases h3
  · obtain ⟨l1, x⟩ := a.loops r l hl
    exact b.loops r l1 x
  · cases hm1 : m1 id with
    | some e1 =>
      have := b.sub _ _ hm1
      rw [this] at he; cases he
      exact a.fresh id _ hm1 hm
    | none =>
      rcases b.fresh id e he hm1 with h | ⟨id0, e0, h1, h2, h3⟩
      · exact .inl (Nat.le_trans a.size h)
      · cases hm0 : m id0 with
        | some e' =>
          have := a.sub _ _ hm0
          rw [this] at h1; cases h1
          exact .inr ⟨id0, _, hm0, h2, h3⟩
        | none =>
          rcases a.fresh id0 e0 h1 hm0 with h | ⟨id1, e1, k1, k2, k3⟩
          · exact .inl (h2 ▸ h)
          · exact .inr ⟨id1, e1, k1, k2.trans h2, k3⟩
end Go.Ra
