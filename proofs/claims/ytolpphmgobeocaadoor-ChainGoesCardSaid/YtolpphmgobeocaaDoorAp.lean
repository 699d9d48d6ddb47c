/-
  Fields appended to a row of one's own, be they none, nil or some.
-/
import Derived.Test.YtolpphmgobeocaaDoorCc
namespace Go.Proofs.YtolpphmgobeocaaDoor
open Go.RowKit Go.Shelf
attribute [local go_sem] Oper.semAt_some

/-- Nothing is appended to a row of one's own. -/
theorem run_append_nothing (w : World) (base : Nat) (i : TypeInfo) (hi : Tryd.prog.info? 53 = some i) (v : Value) (n : Nat) (xs : List Value) (hown : w.ownsRow base 53 2 v n xs) (c : Nat) (ty : TypeId) :
    (Builtin.append_ #[23, 23] ty #[v, .slice none 0 c]).run Tryd.prog w = .ok v w := by
  rcases hown.2 with ⟨rfl, rfl⟩ | ⟨g, cap, cur, rfl, _, _, hnc, _, _, _⟩
  · simp [Builtin.append_, run_underlying Tryd.underlying23, sizeOf, typeInfo, hi, Builtin.lenOf, Builtin.firstCells]
  · simp [Builtin.append_, run_underlying Tryd.underlying23, sizeOf, typeInfo, hi, Builtin.lenOf, Builtin.firstCells, hnc, storeCells]
/-- Fields are appended to a row of one's own, be they none, nil or some. -/
theorem wpList_append_fs {w : World} {ops : Array Oper} {rest : List Oper} {o : Oper} {a : Act} {Q : Exit → Act → World → Prop} (hgd : o.guard = none) (s x : Operand)
    (ho : o.op = .call { callee := .builtin .append, args := #[s, x], argTypes := #[23, 23] })
    (base : Nat) (v : Value) (n : Nat) (xs : List Value) (hs : a.eval s = v) (hown : w.ownsRow base 53 2 v n xs)
    (A : Option Addr) (c : Nat) (fs : List Fl) (hx : a.eval x = .slice A fs.length c) (hf : FieldsAt w (.slice A fs.length c) fs) (hb : n + fs.length ≤ 1000000) (hbase : base ≤ w.heap.size)
    (h : ∀ v' w', w'.ownsRow base 53 2 v' (n + fs.length) (xs ++ fcells fs) → w.grownBy w' v.ownBlock → wpList Tryd.prog ops Q rest (a.put o.dst v') w') :
    wpList Tryd.prog ops Q (o :: rest) a w := by
  obtain ⟨i0, hi, hz0, hz1, hz2⟩ := info_parts infoField
  obtain ⟨p, cap, hv, hc⟩ := hf
  injection hv with h1 h2 h3
  subst h1
  cases A with
  | none =>
    have h0 : fs = [] := by
      cases fs with
      | nil => rfl
      | cons f t => obtain ⟨b, off, h, _⟩ := hc 0 (by simp); cases h
    subst h0
    refine wpList_plain hgd fun K hK => ?_
    have hrun := run_append_nothing w base i0 hi v n xs hown c o.type
    unfold Oper.wp
    have hx2 : a.eval x = .slice none 0 c := hx
    simp [execOp, ho, resolve, invoke, builtin, hs, hx2, hrun, Result.andThen]
    exact hK _ _ (h v w (by simpa [fcells] using hown) ⟨rfl, rfl, rfl, Nat.le_refl _, fun _ _ _ => rfl⟩)
  | some ad =>
    refine wpList_append_own _ hgd s x 23 ho base 53 i0 (.agg #[.string ⟨#[]⟩, .string ⟨#[]⟩]) 2 32 Tryd.underlying23 hi hz0 hz1 hz2 rfl (by decide) v n xs hs hown ad fs.length c (fcells fs) hx (fcells_len fs) (fun j u hj => ?_) (fcells_one fs) (by unfold maxLen; omega) (by omega) hbase fun v' w' h4 h5 _ => h v' w' h4 h5
    obtain ⟨i, hi, h | h⟩ := fcells_mem fs j u hj
    · obtain ⟨rfl, rfl⟩ := h
      obtain ⟨b, off, hp, h1, h2⟩ := hc i hi
      cases hp
      rw [Addr.add_lit]; exact h1
    · obtain ⟨rfl, rfl⟩ := h
      obtain ⟨b, off, hp, h1, h2⟩ := hc i hi
      cases hp
      rw [Addr.add_lit]; exact h2
end Go.Proofs.YtolpphmgobeocaaDoor
