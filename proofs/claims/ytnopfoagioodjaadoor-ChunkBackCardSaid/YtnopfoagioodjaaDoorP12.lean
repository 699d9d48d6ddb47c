/-
  Plain laws of chunks' sizes in hexadecimal digits: no program in sight.
-/
import Derived.Test.YtnopfoagioodjaaDoorP9
namespace Go.Proofs.YtnopfoagioodjaaDoor
/-- Hexadecimal digits of a number. -/
def hexC (d : Nat) : UInt8 := if d < 10 then UInt8.ofNat (48 + d) else UInt8.ofNat (87 + d)
def hexF (n : Nat) : List UInt8 := if n < 16 then [hexC n] else if n < 256 then [hexC (n / 16), hexC (n % 16)] else if n < 4096 then [hexC (n / 256), hexC (n / 16 % 16), hexC (n % 16)] else [hexC (n / 4096), hexC (n / 256 % 16), hexC (n / 16 % 16), hexC (n % 16)]
def tailL : List UInt8 := [59, 110, 97, 109, 101, 61, 118, 97, 108, 117, 101]
set_option maxRecDepth 100000 in
theorem hexF_size : ∀ n : Fin 4097, 1 ≤ n.1 → sizeC (hexF n.1) = some n.1 ∧ sizeC (48 :: hexF n.1 ++ tailL) = some n.1 ∧ (hexF n.1).length ≤ 4 ∧ (hexF n.1).all (fun c => c != 13 && c != 10) = true := by decide +kernel
end Go.Proofs.YtnopfoagioodjaaDoor
