/-
  What the rows' lists give, and a world for the witness.
-/
import Derived.Test.YtglocckckdjalaaGreatDoorRows
import Derived.Test.YtglocckckdjalaaGreatDoorGd
import Derived.Test.YtglocckckdjalaaGreatDoorSh
import Derived.Lib.AppendIntMem
import Derived.PinnedBridge
import Derived.Lib.LaidU8
import Derived.Lib.LaidIn
import Derived.Stop.LaidErr
import Derived.Deep.DeepHandedRow
import Derived.Deep.DeepWitnessRowRef
import Derived.ProofKit
import Derived.Carry
import Derived.ShutString
import Derived.OpenShut
import Derived.Deep.Slices
import Derived.Deep.Fields
import Derived.ChangeSame
namespace Go.Proofs.YtglocckckdjalaaGreatDoor
open Go.RowKit Go.Lib

theorem own : ownKnob Tryz.prog.godebug = none := by kernel_rfl
def laidL : List (String × DataW Unit) := [("math/bits.deBruijn32tab", Rows.laid_math_bits_deBruijn32tab), ("math/bits.deBruijn64tab", Rows.laid_math_bits_deBruijn64tab), ("internal/strconv.uint64pow10", Rows.laid_internal_strconv_uint64pow10), ("unicode/utf8.acceptRanges", Rows.laid_unicode_utf8_acceptRanges), ("strconv.ErrRange", Rows.laid_strconv_ErrRange), ("strconv.ErrSyntax", Rows.laid_strconv_ErrSyntax), ("unicode/utf8.first", Rows.laid_unicode_utf8_first)]
theorem pow_eq : (Rows.laid_internal_strconv_uint64pow10 : DataW Unit) = Lib.tabData .u64 Lib.pow10Tab := by kernel_rfl
theorem gPow : Tryz.prog.globalNamed "internal/strconv.uint64pow10" = some 3 := by kernel_rfl
theorem gPowT : (Tryz.prog.globals[3]?).map (·.type) = some 471 := by kernel_rfl
theorem cellsU64 : Tryz.prog.cellsOf 159 = 1 := by kernel_rfl
theorem cellsPow : Tryz.prog.cellsOf 471 = 20 := by kernel_rfl
/-- What the list gives the runs. -/
theorem G_of {W : World} (hL : laidMetH Tryz.prog laidL W) (hsh : W.ShapedOpen Tryz.prog) : G W := by
  have hM : laidMet Tryz.prog laidL W := hL
  have h3 := hM.tail.tail
  rw [pow_eq] at h3
  have hp : Lib.TabIs Tryz.prog W "internal/strconv.uint64pow10" .u64 Lib.pow10Tab := Lib.tabIs_of_head gPow gPowT Tryz.underlying471 Tryz.underlying159 cellsU64 cellsPow h3
  have hsz : Tryz.prog.globals.size = 8 := by kernel_rfl
  refine ⟨?_, ?_, ?_⟩
  · obtain ⟨cs, h1, _⟩ := hsh.1 7 ((List.replicate 64 (Value.int .u8 0)).toArray) 493 (by rw [hsz]; omega) (by kernel_rfl)
    have := (Array.getElem?_eq_some_iff.1 h1).1
    omega
  · obtain ⟨cs, h1, h2, _⟩ := hsh.1 0 #[.int .i64 0] 3 (by rw [hsz]; omega) (by kernel_rfl)
    obtain ⟨m, hm⟩ := Tryz.laysM219.s1_3 W hsh
    refine ⟨m, cs, h1, ?_⟩
    have hc : cs[0]? = some (.int .i64 m) := by
      have h1' : W.heap[(0 : Nat)]? = some (.cells cs 3 (0, 0)) := h1
      have hm' : W.cell? ⟨0, 0, none⟩ = some (.int .i64 m) := hm
      unfold World.cell? at hm'
      rw [h1'] at hm'
      exact hm'
    obtain ⟨l⟩ := cs
    match l, h2, hc with
    | [x], _, hc =>
      obtain rfl : x = .int .i64 m := by simpa using hc
      rfl
  · obtain ⟨cs, h1, _⟩ := hsh.1 3 ((List.replicate 20 (Value.int .u64 0)).toArray) 471 (by rw [hsz]; omega) (by kernel_rfl)
    have h1' : W.heap[(3 : Nat)]? = some (.cells cs 471 (0, 0)) := h1
    unfold Lib.TabIs World.var? at hp
    rw [gPow] at hp
    simp only [Option.bind_some, h1'] at hp
    rw [h1', Option.some.inj hp]

/-- A world for the witness: the settled one, the tables holding what their initialisers lay, two sentinels. -/
noncomputable def laidWorld (os : Os) : World :=
  let w0 := World.holding Tryz.prog os ⟨#[.cells #[.string ⟨#[105, 110, 118, 97, 108, 105, 100, 32, 115, 121, 110, 116, 97, 120]⟩] 487, .cells #[.string ⟨#[118, 97, 108, 117, 101, 32, 111, 117, 116, 32, 111, 102, 32, 114, 97, 110, 103, 101]⟩] 487], #[], []⟩
  let low := (World.holding Tryz.prog default ⟨#[], #[], []⟩).heap.size
  let put (h : Array Obj) (g : Nat) (cs : Array Value) : Array Obj := h.modify g fun
    | .cells _ t frozen => .cells cs t frozen
    | o => o
  let h1 := put w0.heap 1 (Lib.firstTab.map fun z => Value.int .u8 z).toArray
  let h2 := put h1 2 ((List.range 16).flatMap fun i => [Value.int .u8 (Lib.accLo i), Value.int .u8 (Lib.accHi i)]).toArray
  let h3 := put h2 4 #[.iface 485 (.pointer (some ⟨low, 0, none⟩))]
  let h4 := put h3 5 #[.iface 485 (.pointer (some ⟨low + 1, 0, none⟩))]
  let h5 := put h4 3 (Lib.pow10Tab.map fun z => Value.int .u64 z).toArray
  let lits (d : DataW Unit) : Array Value := match d with | .agg ds => (ds.map fun | .lit (.int k z) => Value.int k z | _ => .bool false).toArray | _ => #[]
  let h6 := put h5 6 (lits Rows.laid_math_bits_deBruijn32tab)
  let h7 := put h6 7 (lits Rows.laid_math_bits_deBruijn64tab)
  { w0 with heap := h7 }
theorem laid_met (os : Os) (args : Array Value) : laidMet Tryz.prog laidL ((laidWorld os).forCall (fun _ _ => 0) ⟨#[], args, []⟩).memory :=
  laidMet_of_run' 8 (by kernel_rfl) (by kernel_rfl)
end Go.Proofs.YtglocckckdjalaaGreatDoor
