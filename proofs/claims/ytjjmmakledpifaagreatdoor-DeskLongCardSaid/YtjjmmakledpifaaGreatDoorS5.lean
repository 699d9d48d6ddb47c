/-
  Operations that only look: the memory's.
-/
import Derived.Laws.Cells
import Derived.Test.YtjjmmakledpifaaGreatDoorS4
set_option linter.unusedVariables false
set_option linter.unusedSimpArgs false
namespace Go.Ra

theorem add_eq (b o n : Nat) : (⟨b, o, none⟩ : Addr).add n = ⟨b, o + n, none⟩ := by
  unfold Addr.add
  split
  · rename_i h; subst h; rfl
  · rfl
theorem add_spot (a : Addr) (n : Nat) : a.add n = if n = 0 then a else ⟨a.block, a.off + n, none⟩ := rfl

theorem onBool_some {v : AV} {f : Bool → OA} {a : AV} (h : v.onBool f = some a) : ∃ b, v = .bool b ∧ f b = some a := by
  cases v <;> first | exact ⟨_, rfl, h⟩ | exact noA h
theorem onInt_some {v : AV} {f : IntKind → Int → OA} {a : AV} (h : v.onInt f = some a) : ∃ k n, v = .int k n ∧ f k n = some a := by
  cases v <;> first | exact ⟨_, _, rfl, h⟩ | exact noA h
theorem onStr_some {v : AV} {f : Nat → Nat → OA} {a : AV} (h : v.onStr f = some a) : ∃ l n, v = .str l n ∧ f l n = some a := by
  cases v <;> first | exact ⟨_, _, rfl, h⟩ | exact noA h
theorem onTxt_some {v : AV} {f g : Nat → Nat → OA} {a : AV} (h : v.onTxt f g = some a) : (∃ l n, v = .str l n ∧ f l n = some a) ∨ ∃ l n, v = .text l n ∧ g l n = some a := by
  cases v <;> first | exact .inl ⟨_, _, rfl, h⟩ | exact .inr ⟨_, _, rfl, h⟩ | exact noA h
theorem onPtr_some {v : AV} {f : Pth → Nat → OA} {a : AV} (h : v.onPtr f = some a) : ∃ p o, v = .ptr p o ∧ f p o = some a := by
  cases v <;> first | exact ⟨_, _, rfl, h⟩ | exact noA h
theorem onSlice_some {v : AV} {f : Pth → Nat → Nat → Nat → Bool → Nat → OA} {a : AV} (h : v.onSlice f = some a) : ∃ p o l c e k, v = .slice p o l c e k ∧ f p o l c e k = some a := by
  cases v <;> first | exact ⟨_, _, _, _, _, _, rfl, h⟩ | exact noA h
theorem onAgg_some {v : AV} {f : AV → OA} {a : AV} (h : v.onAgg f = some a) : ∃ l, v = .agg l ∧ f l = some a := by
  cases v <;> first | exact ⟨_, rfl, h⟩ | exact noA h
theorem onTuple_some {v : AV} {f : AV → OA} {a : AV} (h : v.onTuple f = some a) : ∃ l, v = .tuple l ∧ f l = some a := by
  cases v <;> first | exact ⟨_, rfl, h⟩ | exact noA h
theorem onNat_some {v : AV} {f : Nat → OA} {a : AV} (h : v.onNat f = some a) : ∃ k n, v = .int k (.ofNat n) ∧ f n = some a := by
  cases v with
  | int k n => cases n with
    | ofNat n => exact ⟨k, n, rfl, h⟩
    | negSucc n => exact noA h
  | _ => exact noA h
theorem noN {n : Nat} {p : Prop} (h : (none : Option Nat) = some n) : p := by cases h
theorem natOf_some {v : AV} {n : Nat} (h : v.natOf = some n) : ∃ k, v = .int k (.ofNat n) := by
  cases v with
  | int k n => cases n with
    | ofNat n => exact ⟨k, by obtain rfl := Option.some.inj (show some n = some _ from h); rfl⟩
    | negSucc n => exact noN h
  | _ => exact noN h
theorem onCells_some {b : AB} {f : Nat → TypeId → Nat → Nat → Tr → OA} {a : AV} (h : b.onCells f = some a) : ∃ fz e lo hi t, b = .cells fz e lo hi t ∧ f fz e lo hi t = some a := by
  cases b <;> first | exact ⟨_, _, _, _, _, rfl, h⟩ | exact noA h
theorem and_true' {a b : Bool} : (a && b) = true ↔ a = true ∧ b = true := by simp

variable {P : Program} {m : Mp} {h : TB} {nx : Nat} {w : World}

theorem Inv.row (I : Inv P m h nx w) {id : Pth} {e : E} (he : m id = some e) {fz elem lo hi : Nat} {t : Tr} (hb : h.get id = .cells fz elem lo hi t) :
    ∃ cs fr, w.heap[e.blk]? = some (.cells cs elem fr) ∧ Row m e fz elem lo hi t cs fr := by
  have := I.blk id e he
  rw [hb] at this
  exact this
theorem cell_of {blk o : Nat} {cs : Array Value} {elem : TypeId} {fr : Nat × Nat} (hw : w.heap[blk]? = some (.cells cs elem fr)) : w.cell? ⟨blk, o, none⟩ = cs[o]? := by
  simp [World.cell?, hw]
theorem Row.load {e : E} {fz elem lo hi : Nat} {t : Tr} {cs : Array Value} {fr : Nat × Nat} (R : Row m e fz elem lo hi t cs fr) (hw : w.heap[e.blk]? = some (.cells cs elem fr)) {off : Nat}
    (h1 : lo ≤ off) (h2 : off + 1 ≤ hi) : ∃ v, w.cell? ⟨e.blk, off - e.delta, none⟩ = some v ∧ v.oneCell' = true ∧ VRel m (t.get off) v := by
  obtain ⟨v, a, b⟩ := R.cell off h1 (by omega)
  exact ⟨v, by rw [cell_of hw]; exact a, R.one off h1 (by omega) v a, b⟩
/-- A stretch of cells. -/
theorem Row.loads {e : E} {fz elem lo hi : Nat} {t : Tr} {cs : Array Value} {fr : Nat × Nat} (R : Row m e fz elem lo hi t cs fr) (hw : w.heap[e.blk]? = some (.cells cs elem fr)) :
    ∀ (n : Nat) {off : Nat}, lo ≤ off → off + n ≤ hi → ∃ vs : List Value, vs.length = n ∧ VRels m (cellsOf t n off) vs ∧ (∀ v ∈ vs, v.oneCell' = true) ∧ ∀ j v, vs[j]? = some v → w.cell? ⟨e.blk, off - e.delta + j, none⟩ = some v := by
  intro n
  induction n with
  | zero => intro off _ _; exact ⟨[], rfl, .nil, (by simp), fun j v hj => by simp at hj⟩
  | succ n ih =>
    intro off h1 h2
    obtain ⟨v, a, b, c⟩ := R.load hw h1 (by omega)
    obtain ⟨vs, d, e', f, g⟩ := ih (off := off + 1) (by omega) (by omega)
    refine ⟨v :: vs, by simp [d], .cons _ _ _ _ c e', ?_, fun j u hj => ?_⟩
    · intro x hx
      cases hx with
      | head => exact b
      | tail _ hx => exact f x hx
    · cases j with
      | zero => simp at hj; subst hj; exact a
      | succ j =>
        have := g j u (by simpa using hj)
        have := R.low
        rw [show off - e.delta + (j + 1) = off + 1 - e.delta + j by omega]; assumption
theorem loads_run {b o : Nat} {vs : List Value} (hv : ∀ j v, vs[j]? = some v → w.cell? ⟨b, o + j, none⟩ = some v) : (loadCells ⟨b, o, none⟩ vs.length).run P w = .ok vs.toArray w :=
  run_loadCells_list w _ vs fun j v hj => by rw [add_eq]; exact hv j v hj
theorem cellsAt_some {id : Pth} {off n : Nat} {l : AV} (hl : cellsAt h id off n = some l) : ∃ fz elem lo hi t, h.get id = .cells fz elem lo hi t ∧ lo ≤ off ∧ off + n ≤ hi ∧ l = cellsOf t n off := by
  obtain ⟨fz, elem, lo, hi, t, hb, hl⟩ := onCells_some hl
  obtain ⟨hk, hl⟩ := whenA_some.1 hl
  rw [and_true', nble_iff, nble_iff] at hk
  exact ⟨fz, elem, lo, hi, t, hb, hk.1, hk.2, (Option.some.inj hl).symm⟩
theorem Inv.loads (I : Inv P m h nx w) {id : Pth} {e : E} (he : m id = some e) {off n : Nat} {l : AV} (hl : cellsAt h id off n = some l) :
    ∃ vs : List Value, vs.length = n ∧ VRels m l vs ∧ (∀ v ∈ vs, v.oneCell' = true) ∧ (∀ j v, vs[j]? = some v → w.cell? ⟨e.blk, off - e.delta + j, none⟩ = some v) ∧ (loadCells ⟨e.blk, off - e.delta, none⟩ n).run P w = .ok vs.toArray w := by
  obtain ⟨fz, elem, lo, hi, t, hb, h1, h2, rfl⟩ := cellsAt_some hl
  obtain ⟨cs, fr, hw, R⟩ := I.row he hb
  obtain ⟨vs, a, b, c, d⟩ := R.loads hw n h1 h2
  exact ⟨vs, a, b, c, d, by subst a; exact loads_run d⟩

/-- A type's cells, as the code's turning knows them. -/
theorem tyOf_some {t : TypeId} {n : Nat} {agg : Bool} (ht : tyOf P t = some (n, agg)) : (∀ w : World, (sizeOf t).run P w = .ok n w) ∧ (∀ w : World, (isAgg t).run P w = .ok agg w) ∧ (agg = false → n = 1) := by
  unfold tyOf at ht
  simp only [Option.bind_eq_bind, Option.bind_eq_some_iff] at ht
  obtain ⟨i, hi, d, hd, ht⟩ := ht
  split at ht
  · rename_i hc
    obtain ⟨rfl, rfl⟩ : i.size = n ∧ aggD d = agg := by simpa using ht
    refine ⟨fun w => ?_, fun w => ?_, fun hf => ?_⟩
    · simp [sizeOf, typeInfo, hi]
    · simp only [isAgg, Sem.run_bind, run_underlying hd, Result.andThen_ok]
      cases d <;> rfl
    · rw [hf] at hc; simpa using hc
  · cases ht
theorem size_run {t : TypeId} {i : TypeInfo} (hi : P.info? t = some i) (w : World) : (sizeOf t).run P w = .ok i.size w := by simp [sizeOf, typeInfo, hi]
theorem info_run {t : TypeId} {i : TypeInfo} (hi : P.info? t = some i) (w : World) : (typeInfo t).run P w = .ok i w := by simp [typeInfo, hi]
theorem zero_run {t : TypeId} {z : AV} (hz : zeroOf P t = some z) : ∃ v : Value, (∀ w : World, (zeroValue t).run P w = .ok v w) ∧ absV v = some z := by
  unfold zeroOf at hz
  simp only [Option.bind_eq_bind, Option.bind_eq_some_iff] at hz
  obtain ⟨i, hi, v, hv, hz⟩ := hz
  exact ⟨v, fun w => by simp [zeroValue, typeInfo, hi, hv], hz⟩
theorem zeroCells_run {t : TypeId} {l : AV} (hz : zeroCells P t = some l) : ∃ v : Value, (∀ w : World, (zeroValue t).run P w = .ok v w) ∧ (∀ m, VRels m l v.cells.toList) ∧ ∀ c ∈ v.cells.toList, c.oneCell' = true := by
  unfold zeroCells at hz
  split at hz
  · rename_i a ha
    obtain ⟨v, h1, h2⟩ := zero_run ha
    split at hz
    · rename_i l' hl
      split at hz
      · obtain rfl := Option.some.inj hz
        exact ⟨v, h1, fun m => ((absV_rel m v a h2).cells hl).1, ((absV_rel (fun _ => none) v a h2).cells hl).2⟩
      · cases hz
    · cases hz
  · cases hz

/-! Loads -/
theorem ld1_run (I : Inv P m h nx w) {t : TypeId} (ht : tyOf P t = some (1, false)) {x : AV} {x' : Value} (hx : VRel m x x') {v : AV}
    (hv : x.onPtr (fun id off => (h.get id).onCells fun _ _ lo hi t => whenA (Nat.ble lo off && Nat.ble (Nat.succ off) hi) (some (t.get off))) = some v) :
    ∃ v', (Instr.loadAt t x').run P w = .ok v' w ∧ VRel m v v' := by
  obtain ⟨id, off, rfl, hv⟩ := onPtr_some hv
  obtain ⟨fz, elem, lo, hi, tr, hb, hv⟩ := onCells_some hv
  obtain ⟨hk, hv⟩ := whenA_some.1 hv
  obtain rfl := Option.some.inj hv
  rw [and_true', nble_iff, nble_iff] at hk
  cases hx with | ptr _ _ e he hd =>
  obtain ⟨cs, fr, hw, R⟩ := I.row he hb
  obtain ⟨u, a, b, c⟩ := R.load hw hk.1 hk.2
  obtain ⟨t1, t2, _⟩ := tyOf_some ht
  exact ⟨u, by simp [Instr.loadAt, Instr.sureAddr, loadVar, t2, a], c⟩
theorem ldn_run (I : Inv P m h nx w) {t : TypeId} {n : Nat} (ht : tyOf P t = some (n, true)) {x : AV} {x' : Value} (hx : VRel m x x') {v : AV}
    (hv : x.onPtr (fun id off => (cellsAt h id off n).map .agg) = some v) : ∃ v', (Instr.loadAt t x').run P w = .ok v' w ∧ VRel m v v' := by
  obtain ⟨id, off, rfl, hv⟩ := onPtr_some hv
  obtain ⟨l, hl, rfl⟩ := Option.map_eq_some_iff.1 hv
  cases hx with | ptr _ _ e he hd =>
  obtain ⟨vs, a, b, c, _, d⟩ := I.loads he hl
  obtain ⟨t1, t2, _⟩ := tyOf_some ht
  exact ⟨.agg vs.toArray, by simp [Instr.loadAt, Instr.sureAddr, loadVar, t2, t1, d], .agg _ _ b c⟩
end Go.Ra
