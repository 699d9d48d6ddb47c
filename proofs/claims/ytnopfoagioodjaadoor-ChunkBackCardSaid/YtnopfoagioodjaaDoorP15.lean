/-
  Plain laws of a text put into chunks: no program in sight.
-/
import Derived.Test.YtnopfoagioodjaaDoorP11
import Derived.Test.YtnopfoagioodjaaDoorP14
namespace Go.Proofs.YtnopfoagioodjaaDoor
/-- The head of a chunk of n bytes. -/
def headL (g : Bool) (n : Nat) : List UInt8 := if g then 48 :: hexF n ++ tailL else hexF n
theorem headL_ok (g : Bool) {n : Nat} (h1 : 1 ≤ n) (h2 : n ≤ 4096) : sizeC (headL g n) = some n ∧ (∀ c ∈ headL g n, c ≠ 13 ∧ c ≠ 10) ∧ (headL g n).length ≤ 16 := by
  obtain ⟨k1, k2, k3, k4⟩ := hexF_size ⟨n, by omega⟩ h1
  dsimp only at k1 k2 k3 k4
  have k5 : ∀ c ∈ hexF n, c ≠ 13 ∧ c ≠ 10 := fun c hc => by simpa using List.all_eq_true.1 k4 c hc
  have k6 : ∀ c ∈ tailL, c ≠ 13 ∧ c ≠ 10 := by decide
  have k7 : tailL.length = 11 := rfl
  cases g
  · exact ⟨k1, k5, by show (hexF n).length ≤ 16; omega⟩
  · refine ⟨k2, fun c hc => ?_, by show (48 :: hexF n ++ tailL).length ≤ 16; simp only [List.cons_append, List.length_cons, List.length_append]; omega⟩
    change c ∈ 48 :: hexF n ++ tailL at hc
    simp only [List.cons_append, List.mem_cons, List.mem_append] at hc
    rcases hc with rfl | hc | hc
    · decide
    · exact k5 c hc
    · exact k6 c hc
theorem leads_round {fed x body : List UInt8} (g : Bool) (h : Leads ck0 body (atHead fed)) (h0 : 1 ≤ x.length) (hd : fed.length + x.length ≤ 4096) :
    Leads ck0 (body ++ headL g x.length ++ [13, 10] ++ x ++ [13, 10]) (atHead (fed ++ x)) := by
  obtain ⟨k1, k2, k3⟩ := headL_ok g h0 (by omega)
  have := h.trans (leads_chunk k2 (by omega) k1 (List.length_pos_iff.1 h0) hd)
  simpa using this
theorem feed_done {a data : List UInt8} {nf tl : Nat} (h : Leads ck0 a (atTail data nf tl)) (ht : tl ≤ 2000) (b : List UInt8) : feedC ck0 (a ++ [13, 10] ++ b) = (a.length + 2, { atTail data nf (tl + 2) with st := 4 }) := by
  have h2 := h.trans (leads_done ht)
  unfold Leads at h2
  rw [feed_app, h2, feed_over rfl]; simp
end Go.Proofs.YtnopfoagioodjaaDoor
