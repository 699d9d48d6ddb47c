/-
  Whole arrays and structs in memory, and results that lie in memory: plain helpers.
-/
import Derived.Test.YtheihlalgekojaaGreatDoorRf
import Derived.Deep.MidRow
import Derived.Tactics
namespace Go
open Go.RowKit
theorem Gr.setCells {w : World} {b : Nat} (hb : w.heap.size ≤ b) : ∀ (vs : List Value) (o : Nat) {W : World}, Gr w W → Gr w (W.setCells b o vs)
  | [], _, _, h => h
  | v :: r, o, _, h => Gr.setCells hb r (o + 1) (h.setCell (p := ⟨b, o, none⟩) hb v)
theorem results_cell {P : Program} {fn : Func} {t : Tmp} {ty : TypeId} (h : fn.results = #[.cell t ty]) {tmps : Array Value} {a : Addr} {v : Value} {w : World} (hx : tmps.getD t undef = .pointer (some a)) (hr : (loadVar ty a).run P w = .ok v w) :
    (results fn tmps).run P w = .ok v w := by
  rw [Array.getD_eq_getD_getElem?] at hx
  simp [results, h, hx, asAddr, hr]
/-- An element of an array by value: one that is one cell. -/
theorem run_index_agg {P : Program} (w : World) {t e : TypeId} {n : Nat} (cs : Array Value) (k : IntKind) (i : Nat) {v : Value} (h : P.underlying t = some (.array n e)) (ha : (isAgg e).run P w = .ok false w) (hs : (sizeOf e).run P w = .ok 1 w) (hi : i < n) (hv : cs[i]? = some v) :
    (Instr.index t (.agg cs) (.int k i)).run P w = .ok v w := by
  simp [Instr.index, run_underlying h, asIntOf, hi, part, ha, hs, hv]
end Go
