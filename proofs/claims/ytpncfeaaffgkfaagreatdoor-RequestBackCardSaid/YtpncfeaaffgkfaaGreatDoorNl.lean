/-
  What the rows' lists give, and a world for the witness.
-/
import Derived.Test.YtpncfeaaffgkfaaGreatDoorRows
import Derived.Test.YtpncfeaaffgkfaaGreatDoorRf
import Derived.PinnedBridge
import Derived.Lib.LaidU8
import Derived.Lib.LaidIn
import Derived.Stop.LaidErr
import Derived.Deep.DeepHandedRow
import Derived.Deep.DeepWitnessRowRef
import Derived.ProofKit
import Derived.Carry
import Derived.ShutString
import Derived.OpenShut
import Derived.Deep.Slices
import Derived.Deep.Fields
import Derived.ChangeSame
namespace Go.Proofs.YtpncfeaaffgkfaaGreatDoor
open Go.RowKit Go.Lib

theorem own : ownKnob Tryz.prog.godebug = none := by kernel_rfl
def laidL : List (String × DataW Unit) := [("math/bits.deBruijn32tab", Rows.laid_math_bits_deBruijn32tab), ("math/bits.deBruijn64tab", Rows.laid_math_bits_deBruijn64tab), ("internal/strconv.uint64pow10", Rows.laid_internal_strconv_uint64pow10), ("unicode/utf8.acceptRanges", Rows.laid_unicode_utf8_acceptRanges), ("strconv.ErrRange", Rows.laid_strconv_ErrRange), ("strconv.ErrSyntax", Rows.laid_strconv_ErrSyntax), ("unicode/utf8.first", Rows.laid_unicode_utf8_first)]
theorem accept_eq : (Rows.laid_unicode_utf8_acceptRanges : DataW Unit) = acceptData := by kernel_rfl
theorem first_eq : Rows.laid_unicode_utf8_first = firstData := Pinned.utf8First_eq
theorem pow_eq : (Rows.laid_internal_strconv_uint64pow10 : DataW Unit) = Lib.tabData .u64 Lib.pow10Tab := by kernel_rfl
theorem gSyn : Tryz.prog.globalNamed "strconv.ErrSyntax" = some 6 := by kernel_rfl
theorem gSynT : (Tryz.prog.globals[6]?).map (·.type) = some 72 := by kernel_rfl
theorem gRng : Tryz.prog.globalNamed "strconv.ErrRange" = some 7 := by kernel_rfl
theorem gRngT : (Tryz.prog.globals[7]?).map (·.type) = some 72 := by kernel_rfl
theorem gPow : Tryz.prog.globalNamed "internal/strconv.uint64pow10" = some 1 := by kernel_rfl
theorem gPowT : (Tryz.prog.globals[1]?).map (·.type) = some 137 := by kernel_rfl
theorem eStar : "*" ++ "errors.errorString" = "*errors.errorString" := by decide
theorem errRow (u : TypeId) (h : Tryz.prog.typeName? 3 u = some "*errors.errorString") : u = 170 :=
  typeName_ptr_named (nm := "errors.errorString") (by rw [eStar]; kernel_rfl) (by kernel_rfl) (by decide) u (by rw [eStar]; exact h)
theorem cellsErr : Tryz.prog.cellsOf 172 = 1 := by kernel_rfl
theorem cellsStr : Tryz.prog.cellsOf 9 = 1 := by kernel_rfl
theorem cellsU64 : Tryz.prog.cellsOf 91 = 1 := by kernel_rfl
theorem cellsPow : Tryz.prog.cellsOf 137 = 20 := by kernel_rfl
/-- What the list gives the walks. -/
theorem G_of {W : World} (hL : laidMetH Tryz.prog laidL W) (hsh : W.ShapedOpen Tryz.prog) : G W := by
  have hM : laidMet Tryz.prog laidL W := hL
  have h1 := Lib.laidMet.reads (n := "unicode/utf8.first") (d := Rows.laid_unicode_utf8_first) hM (.tail _ (.tail _ (.tail _ (.tail _ (.tail _ (.tail _ (.head _)))))))
  have h2 := Lib.laidMet.reads (n := "unicode/utf8.acceptRanges") (d := Rows.laid_unicode_utf8_acceptRanges) hM (.tail _ (.tail _ (.tail _ (.head _))))
  rw [first_eq] at h1
  rw [accept_eq] at h2
  have h3 := hM.tail.tail
  rw [pow_eq] at h3
  obtain ⟨a0, s0, hv0, -, -, -⟩ := laid_sentinel hM.tail.tail.tail.tail gRng gRngT Tryz.underlying72 errRow Tryz.underlying170 Tryz.underlying172 rfl rfl Tryz.underlying9 cellsErr cellsStr
  obtain ⟨a1, s1, hv1, -, -, -⟩ := laid_sentinel hM.tail.tail.tail.tail.tail gSyn gSynT Tryz.underlying72 errRow Tryz.underlying170 Tryz.underlying172 rfl rfl Tryz.underlying9 cellsErr cellsStr
  refine ⟨Tryz.laysM219.s1_3 W hsh, utf8Tabs_of_reads (ρ := Tryz.lays230_ren) { Tryz.lays230 with } ⟨by kernel_rfl, by kernel_rfl, by kernel_rfl, by kernel_rfl, by kernel_rfl, by kernel_rfl, by kernel_rfl⟩ h1 h2, ?_, ⟨_, _, by have h0 := World.var?_cell gSyn hv1 0; simpa using h0⟩, ⟨_, _, by have h0 := World.var?_cell gRng hv0 0; simpa using h0⟩⟩
  · exact Lib.tabIs_of_head gPow gPowT Tryz.underlying137 Tryz.underlying91 cellsU64 cellsPow h3

/-- A world for the witness: the settled one, the tables holding what their initialisers lay, two sentinels. -/
noncomputable def laidWorld (os : Os) : World :=
  let w0 := World.holding Tryz.prog os ⟨#[.cells #[.string ⟨#[105, 110, 118, 97, 108, 105, 100, 32, 115, 121, 110, 116, 97, 120]⟩] 172, .cells #[.string ⟨#[118, 97, 108, 117, 101, 32, 111, 117, 116, 32, 111, 102, 32, 114, 97, 110, 103, 101]⟩] 172], #[], []⟩
  let low := (World.holding Tryz.prog default ⟨#[], #[], []⟩).heap.size
  let put (h : Array Obj) (g : Nat) (cs : Array Value) : Array Obj := h.modify g fun
    | .cells _ t frozen => .cells cs t frozen
    | o => o
  let h1 := put w0.heap 2 (Lib.firstTab.map fun z => Value.int .u8 z).toArray
  let h2 := put h1 3 ((List.range 16).flatMap fun i => [Value.int .u8 (Lib.accLo i), Value.int .u8 (Lib.accHi i)]).toArray
  let h3 := put h2 6 #[.iface 170 (.pointer (some ⟨low, 0, none⟩))]
  let h4 := put h3 7 #[.iface 170 (.pointer (some ⟨low + 1, 0, none⟩))]
  let h5 := put h4 1 (Lib.pow10Tab.map fun z => Value.int .u64 z).toArray
  let lits (d : DataW Unit) : Array Value := match d with | .agg ds => (ds.map fun | .lit (.int k z) => Value.int k z | _ => .bool false).toArray | _ => #[]
  let h6 := put h5 4 (lits Rows.laid_math_bits_deBruijn32tab)
  let h7 := put h6 5 (lits Rows.laid_math_bits_deBruijn64tab)
  { w0 with heap := h7 }
theorem laid_met (os : Os) (args : Array Value) : laidMet Tryz.prog laidL ((laidWorld os).forCall (fun _ _ => 0) ⟨#[], args, []⟩).memory :=
  laidMet_of_run' 8 (by kernel_rfl) (by kernel_rfl)
end Go.Proofs.YtpncfeaaffgkfaaGreatDoor
