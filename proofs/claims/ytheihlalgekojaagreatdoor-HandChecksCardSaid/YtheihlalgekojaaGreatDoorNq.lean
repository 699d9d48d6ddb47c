/-
  Arguments of the handshake's statements, opened: requests, replies, keys.
-/
import Derived.Test.YtheihlalgekojaaGreatDoorNl
import Derived.Test.YtheihlalgekojaaGreatDoorVr
import Derived.Test.YtheihlalgekojaaGreatDoorOb
import Derived.Lib.SmallJoins
import Derived.OpenShut
namespace Go.Proofs.YtheihlalgekojaaGreatDoor
open Go.RowKit Go.Lib Go.Joins
section
open Go.ChangeShapes Go.WideShapes Go.Deep
variable {H : Type} {enc : TypeId × Value → H}
theorem str_at {W : World} {fuel : Nat} {v : Value} {x : DataW H × List MemPlace} (h : DataW.trod enc Tryz.prog W 0 (fun _ => true) true fuel 9 [v] = some x) :
    ∃ l : List UInt8, v = .string ⟨l.toArray⟩ ∧ l.length ≤ 9223372036854775807 := by
  obtain ⟨s, e, _, hl⟩ := DataW.trod_string Tryz.underlying9 h
  rw [List.cons.injEq] at e
  refine ⟨s.data.toList, by rw [e.1, show (⟨(s.data.toList).toArray⟩ : ByteArray) = s from Lib.mk_data s], ?_⟩
  have := size_mk s.data.toList
  rw [Lib.mk_data] at this
  rw [← this]; exact hl
theorem int_at {W : World} {fuel : Nat} {v : Value} {x : DataW H × List MemPlace} (h : DataW.trod enc Tryz.prog W 0 (fun _ => true) true fuel 3 [v] = some x) :
    ∃ n : Int, v = .int .i64 n := by
  obtain ⟨n, e, _⟩ := DataW.trod_int Tryz.underlying3 h
  rw [List.cons.injEq] at e
  exact ⟨n, e.1⟩
theorem bool_at {W : World} {fuel : Nat} {v : Value} {x : DataW H × List MemPlace} (h : DataW.trod enc Tryz.prog W 0 (fun _ => true) true fuel 4 [v] = some x) :
    ∃ b : Bool, v = .bool b := by
  obtain ⟨b, e, _⟩ := DataW.trod_bool Tryz.underlying4 h
  rw [List.cons.injEq] at e
  exact ⟨b, e.1⟩

theorem spot_none {W : World} {a : Addr} {v : Value} (h : W.cell? a = some v) : a = ⟨a.block, a.off, none⟩ ∨ ∃ y, a.spot = some y := by
  obtain ⟨b, off, spot⟩ := a
  cases spot with
  | none => exact .inl rfl
  | some y => exact .inr ⟨y, rfl⟩
theorem replyStruct : ∃ f0 f1 f2, Tryz.prog.underlying 30 = some (.struct #[f0, f1, f2]) ∧ f0.type = 3 ∧ f1.type = 22 ∧ f2.type = 9 ∧ oneCellFields Tryz.prog #[f0, f1, f2] = true := ⟨_, _, _, Tryz.underlying30, rfl, rfl, rfl, by kernel_rfl⟩
theorem replyCells : Tryz.prog.cellsOf 30 = 3 := by kernel_rfl
set_option maxRecDepth 100000 in
/-- An argument that is a reply. -/
theorem reply_of {W : World} {base : Nat} {v : Value} {d : DataW H} {p : List MemPlace} (hv : Value.okWide Tryz.prog W .any base 30 v) (h : DataW.Trod enc Tryz.prog W 0 (fun _ => true) true 30 v d p) :
    ∃ (x : Rp) (t : Value), v = x.V t ∧ FieldsAt W t x.fs ∧ x.fs.length ≤ 9223372036854775807 := by
  obtain ⟨f0, f1, f2, hs, ht0, ht1, ht2, hone⟩ := replyStruct
  obtain ⟨v0, v1, v2, y0, y1, y2, n, rfl, _, _, h0, h1, h2⟩ := open_agg3 hs hone replyCells hv h
  rw [ht0] at h0
  rw [ht1] at h1
  rw [ht2] at h2
  obtain ⟨c, rfl⟩ := int_at h0
  obtain ⟨fs, hf, hl, _⟩ := fields_at h1
  obtain ⟨b, rfl, _⟩ := str_at h2
  exact ⟨⟨c, fs, b⟩, v1, rfl, hf, hl⟩

theorem reqStruct : ∃ f0 f1 f2 f3 f4 f5 f6, Tryz.prog.underlying 24 = some (.struct #[f0, f1, f2, f3, f4, f5, f6]) ∧ f0.type = 9 ∧ f1.type = 9 ∧ f2.type = 9 ∧ f3.type = 3 ∧ f4.type = 22 ∧ f5.type = 9 ∧ f6.type = 4 ∧ oneCellFields Tryz.prog #[f0, f1, f2, f3, f4, f5, f6] = true :=
  ⟨_, _, _, _, _, _, _, Tryz.underlying24, rfl, rfl, rfl, rfl, rfl, rfl, rfl, by kernel_rfl⟩
theorem reqCells : Tryz.prog.cellsOf 24 = 7 := by kernel_rfl
theorem array7 {α : Type} {cs : Array α} (h : cs.size = 7) : ∃ c0 c1 c2 c3 c4 c5 c6, cs = #[c0, c1, c2, c3, c4, c5, c6] := by
  obtain ⟨l⟩ := cs
  match l, h with
  | [c0, c1, c2, c3, c4, c5, c6], _ => exact ⟨c0, c1, c2, c3, c4, c5, c6, rfl⟩
set_option maxRecDepth 100000 in
/-- An argument that is a request. -/
theorem req_of {W : World} {base : Nat} {v : Value} {d : DataW H} {p : List MemPlace} (hv : Value.okWide Tryz.prog W .any base 24 v) (h : DataW.Trod enc Tryz.prog W 0 (fun _ => true) true 24 v d p) :
    ∃ (r : Rq) (t : Value), v = r.V t ∧ FieldsAt W t r.fs ∧ r.fs.length ≤ 9223372036854775807 ∧ r.p.length ≤ 9223372036854775807 ∧ r.b.length ≤ 9223372036854775807 ∧ ∀ f ∈ r.fs, f.1.length ≤ 9223372036854775807 ∧ f.2.length ≤ 9223372036854775807 := by
  obtain ⟨f0, f1, f2, f3, f4, f5, f6, hs, ht0, ht1, ht2, ht3, ht4, ht5, ht6, hone⟩ := reqStruct
  obtain ⟨cs, rfl, hsz⟩ := okWide_struct hs hv
  obtain ⟨c0, c1, c2, c3, c4, c5, c6, rfl⟩ := array7 (hsz.trans reqCells)
  obtain ⟨fuel, hf⟩ := h
  obtain ⟨ys, n', _, _, hlen, hyl, hfs⟩ := DataW.trod_struct hs hf
  have key : ∀ (j : Nat) (f : Field) (c : Value), #[f0, f1, f2, f3, f4, f5, f6][j]? = some f → [c0, c1, c2, c3, c4, c5, c6][j]? = some c → ∃ y, DataW.trod enc Tryz.prog W 0 (fun _ => true) true n' f.type [c] = some y := fun j f c hj hc => by
    have hjl : j < 7 := (Array.getElem?_eq_some_iff.1 hj).1
    have h1 := hfs j f hj
    obtain ⟨ho, hk⟩ := hone_of hone j f hj
    rw [ho, hk] at h1
    have hcl : j < [c0, c1, c2, c3, c4, c5, c6].length := hjl
    have hone' : (([c0, c1, c2, c3, c4, c5, c6].drop j).take 1) = [c] := by
      rw [List.drop_eq_getElem_cons hcl]
      have := List.getElem?_eq_some_iff.1 hc
      obtain ⟨_, h2⟩ := this
      rw [h2]; rfl
    rw [show (Value.agg #[c0, c1, c2, c3, c4, c5, c6]).cells.toList = [c0, c1, c2, c3, c4, c5, c6] from rfl, hone'] at h1
    have hyl' : ys.length = 7 := hyl
    have hys : ys[j]? = some (ys[j]'(by omega)) := List.getElem?_eq_getElem (by omega)
    exact ⟨_, h1.trans hys⟩
  obtain ⟨y0, h0⟩ := key 0 f0 c0 rfl rfl
  obtain ⟨y1, h1⟩ := key 1 f1 c1 rfl rfl
  obtain ⟨y2, h2⟩ := key 2 f2 c2 rfl rfl
  obtain ⟨y3, h3⟩ := key 3 f3 c3 rfl rfl
  obtain ⟨y4, h4⟩ := key 4 f4 c4 rfl rfl
  obtain ⟨y5, h5⟩ := key 5 f5 c5 rfl rfl
  obtain ⟨y6, h6⟩ := key 6 f6 c6 rfl rfl
  rw [ht0] at h0
  rw [ht1] at h1
  rw [ht2] at h2
  rw [ht3] at h3
  rw [ht4] at h4
  rw [ht5] at h5
  rw [ht6] at h6
  obtain ⟨m, rfl, _⟩ := str_at h0
  obtain ⟨p, rfl, hp⟩ := str_at h1
  obtain ⟨q, rfl, _⟩ := str_at h2
  obtain ⟨vv, rfl⟩ := int_at h3
  obtain ⟨fs, hff, hl, hb⟩ := fields_at h4
  obtain ⟨b, rfl, hbl⟩ := str_at h5
  obtain ⟨c, rfl⟩ := bool_at h6
  exact ⟨⟨m, p, q, vv, fs, b, c⟩, c4, rfl, hff, hl, hp, hbl, hb⟩
theorem u8Cells : Tryz.prog.cellsOf 5 = 1 := by kernel_rfl
end
end Go.Proofs.YtheihlalgekojaaGreatDoor
