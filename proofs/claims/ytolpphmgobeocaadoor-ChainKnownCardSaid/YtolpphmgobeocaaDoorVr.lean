/-
  Requests and replies as values.
-/
import Derived.Test.YtolpphmgobeocaaDoorChecked
import Derived.Test.YtolpphmgobeocaaDoorP5
namespace Go.Proofs.YtolpphmgobeocaaDoor
/-- A reply as a value; t: its fields'. -/
def Rp.V (x : Rp) (t : Value) : Value := .agg #[.int .i64 x.code, t, .string ⟨x.b.toArray⟩]
/-- A request as a value. -/
def Rq.V (r : Rq) (s : Value) : Value := .agg #[.string ⟨r.m.toArray⟩, .string ⟨r.p.toArray⟩, .string ⟨r.q.toArray⟩, .int .i64 r.v, s, .string ⟨r.b.toArray⟩, .bool r.c]
end Go.Proofs.YtolpphmgobeocaaDoor
