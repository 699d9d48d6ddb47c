/-
  Plain laws of ChunkKnown: the greatest body: no program in sight.
-/
import Derived.Test.YtnopfoagioodjaaDoorP11
import Derived.Lib.Repeat
namespace Go.Proofs.YtnopfoagioodjaaDoor

def xsL : List UInt8 := Lib.repeatL [120] 4096
theorem xs_len : xsL.length = 4096 := by unfold xsL; rw [Lib.repeatL_length]; rfl
def abL : List UInt8 := [97, 58, 32, 98]
theorem leads_ab {data : List UInt8} : Leads (atTail data 0 0) (abL ++ [13, 10]) (atTail data 1 6) := by
  have k0 := leads_trail abL (atTail data 0 0) rfl rfl (by decide) (show 0 + 4 ≤ 2048 by decide)
  have k1 : Leads { atTail data 0 0 with line := abL, tail := 4 } [13] { atTail data 0 0 with line := abL ++ [13], tail := 5 } := Leads.step (by simp [atTail]) 13
  have s2 : stepC { atTail data 0 0 with line := abL ++ [13], tail := 5 } 10 = trailerC { atTail data 0 0 with line := [], tail := 6 } abL := rfl
  have e2 : trailerC { atTail data 0 0 with line := [], tail := 6 } abL = atTail data 1 6 := by
    unfold trailerC
    rw [if_neg (by decide), if_pos (show (parseB abL).2.2 = true by decide +kernel), if_neg (by show ¬ 32 ≤ 0; decide)]; rfl
  have k2 : Leads { atTail data 0 0 with line := abL ++ [13], tail := 5 } [10] (atTail data 1 6) := by
    have := Leads.step (r := { atTail data 0 0 with line := abL ++ [13], tail := 5 }) (by simp [atTail]) 10
    rw [s2, e2] at this
    exact this
  exact (k0.trans k1).trans k2
theorem leads_zero2 {data : List UInt8} (hd : data.length ≤ 4096) : Leads (atHead data) [48, 48, 13, 10] (atTail data 0 0) := by
  have k1 := leads_head (data := data) (L := [48, 48]) (by decide) (by decide)
  have e : headC (atHead data) [48, 48] = atTail data 0 0 := by
    unfold headC
    rw [show sizeC [48, 48] = some 0 by decide +kernel]
    dsimp only
    rw [if_neg (show ¬ 4096 < (atHead data).data.length + 0 by show ¬ 4096 < data.length + 0; omega), if_pos rfl]; rfl
  rw [e] at k1
  exact k1
/-- The greatest body. -/
def greatL : List UInt8 := [49, 48, 48, 48, 13, 10] ++ xsL ++ [13, 10, 48, 48, 13, 10, 97, 58, 32, 98, 13, 10, 13, 10]
theorem great_len : greatL.length = 4116 := by unfold greatL; simp [xs_len]
theorem great_eq : feedC ck0 greatL = (4116, { atTail xsL 1 8 with st := 4 }) := by
  have k1 := leads_chunk (data := []) (L := [49, 48, 48, 48]) (x := xsL) (by decide) (by decide) (by rw [xs_len]; decide +kernel) (fun e => by have := xs_len; rw [e] at this; cases this) (by rw [xs_len]; decide)
  rw [List.nil_append] at k1
  have k2 := leads_zero2 (data := xsL) (by rw [xs_len]; decide)
  have k3 := leads_ab (data := xsL)
  have k4 := leads_done (data := xsL) (nf := 1) (tl := 6) (by decide)
  have := ((k1.trans k2).trans k3).trans k4
  have e : [49, 48, 48, 48] ++ [13, 10] ++ xsL ++ [13, 10] ++ [48, 48, 13, 10] ++ (abL ++ [13, 10]) ++ [13, 10] = greatL := by unfold greatL abL; simp
  rw [e] at this
  have h : feedC ck0 greatL = (greatL.length, { atTail xsL 1 (6 + 2) with st := 4 }) := this
  rw [h, great_len]
end Go.Proofs.YtnopfoagioodjaaDoor
