/-
  A map of texts to counts.
-/
import Derived.Test.YtheihlalgekojaaDoorRf
import Derived.Test.YtheihlalgekojaaDoorP23
import Derived.Maps.OwnOps
import Derived.Maps.Views
namespace Go.Proofs.YtheihlalgekojaaDoor
open Go.RowKit Go.Maps
theorem lawS : Keyed Tryd.prog 9 := string_keyed Tryd.underlying9
theorem zeroI (w : World) : (zeroValue 3).run Tryd.prog w = .ok (.int .i64 0) w := by kernel_rfl
theorem keyS (l : List UInt8) (hl : l.length ≤ 1000000) : keyOf Tryd.prog 9 (.string ⟨l.toArray⟩) = some (.string l) :=
  WideMaps.keyOf_string_mk Tryd.underlying9 (s := ⟨l.toArray⟩) (by rw [size_mk]; unfold maxLen; omega)
/-- How many of the first k fields have a name that is l in small letters. -/
def cntTo (fs : List Fl) (k : Nat) (l : List UInt8) : Nat := ((fs.take k).filter fun f => f.1.map lower == l).length
/-- The map at block b counts the first k fields. -/
def Seen (b : Nat) (W : World) (fs : List Fl) (k : Nat) : Prop :=
  ∃ D : DataW Unit, W.ownsMap Tryd.prog 9 (plainElem (H := Unit) Tryd.prog 3) b k D ∧ IsMap D ∧
    ∀ l, l.length ≤ 1000000 → D.atKey (.string l) (.lit (.int .i64 0)) = .lit (.int .i64 (cntTo fs k l))
theorem seen_new (W : World) (fs : List Fl) : Seen W.heap.size (W.alloc (.map #[] 0)) fs 0 :=
  ⟨_, World.ownsMap_made W Tryd.prog 9 _, isMap_empty, fun l _ => by simp [cntTo]; rfl⟩
theorem Seen.gr {b : Nat} {W W' : World} {fs : List Fl} {k : Nat} (h : Seen b W fs k) (g : Gr W W') : Seen b W' fs k := by
  obtain ⟨D, ho, hm, hc⟩ := h
  exact ⟨D, ho.kept (row := none) ⟨g.os, g.tape, g.output, g.size, fun k hk _ => g.block k hk⟩ (by simp), hm, hc⟩
theorem Seen.look {b : Nat} {W : World} {fs : List Fl} {k : Nat} (h : Seen b W fs k) (l : List UInt8) (hl : l.length ≤ 1000000) :
    (Instr.lookup 31 (.map (some b)) (.string ⟨l.toArray⟩) false).run Tryd.prog W = .ok (.int .i64 (cntTo fs k l)) W := by
  obtain ⟨D, ho, _, hc⟩ := h
  obtain ⟨c, r, hat, _⟩ := ho.lookup_int lawS Tryd.underlying31 Tryd.underlying3 (zeroI W) (keyS l hl)
  rw [hc l hl] at hat
  rw [r, (Lit.int.inj (DataW.lit.inj hat)).2]
theorem cnt_step (fs : List Fl) (k : Nat) (hk : k < fs.length) (l : List UInt8) : cntTo fs (k + 1) l = cntTo fs k l + if fs[k].1.map lower = l then 1 else 0 := by
  unfold cntTo
  rw [List.take_succ_eq_append_getElem hk, List.filter_append, List.length_append]
  by_cases e : fs[k].1.map lower = l <;> simp [e]
theorem Seen.step {b : Nat} {W : World} {fs : List Fl} {k : Nat} (h : Seen b W fs k) (hk : k < fs.length) (h40 : fs.length ≤ 40) (hl : (fs[k].1.map lower).length ≤ 1000000) :
    ∃ w', (Instr.mapUpdate 31 (.map (some b)) (.string ⟨(fs[k].1.map lower).toArray⟩) (.int .i64 (cntTo fs k (fs[k].1.map lower) + 1))).run Tryd.prog W = .ok () w' ∧ Seen b w' fs (k + 1) ∧ W.grownBy w' (some b) := by
  obtain ⟨D, ho, hm, hc⟩ := h
  have hcl : cntTo fs k (fs[k].1.map lower) ≤ 40 := by
    unfold cntTo
    exact Nat.le_trans (List.length_filter_le _ _) (by rw [List.length_take]; omega)
  obtain ⟨w', r, o, g⟩ := ho.update lawS Tryd.underlying31 (by unfold maxLen; omega) (keyS _ hl) (plainElem_int Tryd.underlying3 (a := (cntTo fs k (fs[k].1.map lower) + 1)) (by simp [Lit.wf, IntKind.min, IntKind.max, IntKind.signed, IntKind.bits]; omega))
  refine ⟨w', r, ⟨_, o, hm.put _ _, fun l hl2 => ?_⟩, g⟩
  rw [cnt_step fs k hk]
  by_cases e : fs[k].1.map lower = l
  · subst e
    rw [atKey_put_same hm (lawS.key (keyS _ hl)), if_pos rfl]; rfl
  · rw [atKey_put_other (by simpa using fun h => e h.symm), hc l hl2, if_neg e]; rfl
theorem seen_cnt (fs : List Fl) (name : List UInt8) : cntTo fs fs.length (name.map lower) = cntB fs name := by
  unfold cntTo cntB getB alikeB
  rw [List.take_length]
end Go.Proofs.YtheihlalgekojaaDoor
