/-
  Arguments of the handshake's statements, opened: requests, replies, keys.
  A request as an argument: how long its parts may be.
-/
import Derived.Test.YtpncfeaaffgkfaaGreatDoorG
import Derived.Test.YtpncfeaaffgkfaaGreatDoorL
import Derived.Test.YtpncfeaaffgkfaaGreatDoorRw
import Derived.Lib.SmallJoins
import Derived.OpenShut
import Derived.SizedLaws
namespace Go.Proofs.YtpncfeaaffgkfaaGreatDoor
open Go.RowKit Go.Lib Go.Joins
section
open Go.ChangeShapes Go.WideShapes Go.Deep
variable {H : Type} {enc : TypeId × Value → H}
theorem str_at {W : World} {fuel : Nat} {v : Value} {x : DataW H × List MemPlace} (h : DataW.trod enc Tryz.prog W 0 (fun _ => true) true fuel 9 [v] = some x) :
    ∃ l : List UInt8, v = .string ⟨l.toArray⟩ ∧ l.length ≤ 9223372036854775807 := by
  obtain ⟨s, e, _, hl⟩ := DataW.trod_string Tryz.underlying9 h
  rw [List.cons.injEq] at e
  refine ⟨s.data.toList, by rw [e.1, show (⟨(s.data.toList).toArray⟩ : ByteArray) = s from Lib.mk_data s], ?_⟩
  have := size_mk s.data.toList
  rw [Lib.mk_data] at this
  rw [← this]; exact hl
theorem int_at {W : World} {fuel : Nat} {v : Value} {x : DataW H × List MemPlace} (h : DataW.trod enc Tryz.prog W 0 (fun _ => true) true fuel 3 [v] = some x) :
    ∃ n : Int, v = .int .i64 n := by
  obtain ⟨n, e, _⟩ := DataW.trod_int Tryz.underlying3 h
  rw [List.cons.injEq] at e
  exact ⟨n, e.1⟩
theorem bool_at {W : World} {fuel : Nat} {v : Value} {x : DataW H × List MemPlace} (h : DataW.trod enc Tryz.prog W 0 (fun _ => true) true fuel 4 [v] = some x) :
    ∃ b : Bool, v = .bool b := by
  obtain ⟨b, e, _⟩ := DataW.trod_bool Tryz.underlying4 h
  rw [List.cons.injEq] at e
  exact ⟨b, e.1⟩

theorem spot_none {W : World} {a : Addr} {v : Value} (h : W.cell? a = some v) : a = ⟨a.block, a.off, none⟩ ∨ ∃ y, a.spot = some y := by
  obtain ⟨b, off, spot⟩ := a
  cases spot with
  | none => exact .inl rfl
  | some y => exact .inr ⟨y, rfl⟩
theorem reqStruct : ∃ f0 f1 f2 f3 f4 f5 f6, Tryz.prog.underlying 27 = some (.struct #[f0, f1, f2, f3, f4, f5, f6]) ∧ f0.type = 9 ∧ f1.type = 9 ∧ f2.type = 9 ∧ f3.type = 3 ∧ f4.type = 25 ∧ f5.type = 9 ∧ f6.type = 4 ∧ oneCellFields Tryz.prog #[f0, f1, f2, f3, f4, f5, f6] = true :=
  ⟨_, _, _, _, _, _, _, Tryz.underlying27, rfl, rfl, rfl, rfl, rfl, rfl, rfl, by kernel_rfl⟩
theorem reqCells : Tryz.prog.cellsOf 27 = 7 := by kernel_rfl
theorem array7 {α : Type} {cs : Array α} (h : cs.size = 7) : ∃ c0 c1 c2 c3 c4 c5 c6, cs = #[c0, c1, c2, c3, c4, c5, c6] := by
  obtain ⟨l⟩ := cs
  match l, h with
  | [c0, c1, c2, c3, c4, c5, c6], _ => exact ⟨c0, c1, c2, c3, c4, c5, c6, rfl⟩
set_option maxRecDepth 100000 in
/-- An argument that is a request. -/
theorem req_of {W : World} {base : Nat} {v : Value} {d : DataW H} {p : List MemPlace} (hv : Value.okWide Tryz.prog W .any base 27 v) (h : DataW.Trod enc Tryz.prog W 0 (fun _ => true) true 27 v d p) :
    ∃ (r : Rq) (t : Value), v = r.V t ∧ FieldsAt W t r.fs ∧ r.fs.length ≤ 9223372036854775807 ∧ r.p.length ≤ 9223372036854775807 ∧ r.b.length ≤ 9223372036854775807 ∧ ∀ f ∈ r.fs, f.1.length ≤ 9223372036854775807 ∧ f.2.length ≤ 9223372036854775807 := by
  obtain ⟨f0, f1, f2, f3, f4, f5, f6, hs, ht0, ht1, ht2, ht3, ht4, ht5, ht6, hone⟩ := reqStruct
  obtain ⟨cs, rfl, hsz⟩ := okWide_struct hs hv
  obtain ⟨c0, c1, c2, c3, c4, c5, c6, rfl⟩ := array7 (hsz.trans reqCells)
  obtain ⟨fuel, hf⟩ := h
  obtain ⟨ys, n', _, _, hlen, hyl, hfs⟩ := DataW.trod_struct hs hf
  have key : ∀ (j : Nat) (f : Field) (c : Value), #[f0, f1, f2, f3, f4, f5, f6][j]? = some f → [c0, c1, c2, c3, c4, c5, c6][j]? = some c → ∃ y, DataW.trod enc Tryz.prog W 0 (fun _ => true) true n' f.type [c] = some y := fun j f c hj hc => by
    have hjl : j < 7 := (Array.getElem?_eq_some_iff.1 hj).1
    have h1 := hfs j f hj
    obtain ⟨ho, hk⟩ := hone_of hone j f hj
    rw [ho, hk] at h1
    have hcl : j < [c0, c1, c2, c3, c4, c5, c6].length := hjl
    have hone' : (([c0, c1, c2, c3, c4, c5, c6].drop j).take 1) = [c] := by
      rw [List.drop_eq_getElem_cons hcl]
      have := List.getElem?_eq_some_iff.1 hc
      obtain ⟨_, h2⟩ := this
      rw [h2]; rfl
    rw [show (Value.agg #[c0, c1, c2, c3, c4, c5, c6]).cells.toList = [c0, c1, c2, c3, c4, c5, c6] from rfl, hone'] at h1
    have hyl' : ys.length = 7 := hyl
    have hys : ys[j]? = some (ys[j]'(by omega)) := List.getElem?_eq_getElem (by omega)
    exact ⟨_, h1.trans hys⟩
  obtain ⟨y0, h0⟩ := key 0 f0 c0 rfl rfl
  obtain ⟨y1, h1⟩ := key 1 f1 c1 rfl rfl
  obtain ⟨y2, h2⟩ := key 2 f2 c2 rfl rfl
  obtain ⟨y3, h3⟩ := key 3 f3 c3 rfl rfl
  obtain ⟨y4, h4⟩ := key 4 f4 c4 rfl rfl
  obtain ⟨y5, h5⟩ := key 5 f5 c5 rfl rfl
  obtain ⟨y6, h6⟩ := key 6 f6 c6 rfl rfl
  rw [ht0] at h0
  rw [ht1] at h1
  rw [ht2] at h2
  rw [ht3] at h3
  rw [ht4] at h4
  rw [ht5] at h5
  rw [ht6] at h6
  obtain ⟨m, rfl, _⟩ := str_at h0
  obtain ⟨p, rfl, hp⟩ := str_at h1
  obtain ⟨q, rfl, _⟩ := str_at h2
  obtain ⟨vv, rfl⟩ := int_at h3
  obtain ⟨fs, hff, hl, hb⟩ := fields_at h4
  obtain ⟨b, rfl, hbl⟩ := str_at h5
  obtain ⟨c, rfl⟩ := bool_at h6
  exact ⟨⟨m, p, q, vv, fs, b, c⟩, c4, rfl, hff, hl, hp, hbl, hb⟩
theorem u8Cells : Tryz.prog.cellsOf 5 = 1 := by kernel_rfl
end
end Go.Proofs.YtpncfeaaffgkfaaGreatDoor
namespace Go.Proofs.YtpncfeaaffgkfaaGreatDoor
open Go.RowKit Go.Lib Go.Joins
section
open Go.ChangeShapes Go.WideShapes Go.Deep
variable {H : Type} {enc : TypeId × Value → H}
theorem wAll_mem {P : Program} {e : TypeId} {d : DataW H} {n : Nat} (hn : n ∈ d.weights P e) : ∀ {l : List (DataW H)}, d ∈ l → n ∈ DataW.weightsAll P e l
  | x :: l, hd => by
    simp only [DataW.weightsAll, List.mem_append]
    rcases List.mem_cons.1 hd with rfl | hd
    · exact .inl hn
    · exact .inr (wAll_mem hn hd)
theorem str_sz {W : World} {fuel : Nat} {l : List UInt8} {x : DataW H × List MemPlace} (h : DataW.trod enc Tryz.prog W 0 (fun _ => true) true fuel 9 [.string ⟨l.toArray⟩] = some x) :
    x.1 = .lit (.string l) := by
  obtain ⟨s, e, hx, _⟩ := DataW.trod_string Tryz.underlying9 h
  rw [List.cons.injEq] at e
  have e1 : (⟨l.toArray⟩ : ByteArray) = s := by
    have := e.1
    injection this
  rw [hx, ← e1]
set_option maxRecDepth 100000 in
theorem fields_sz {W : World} {fuel : Nat} {t : Value} {fs : List Fl} {x : DataW H × List MemPlace} (hf : DataW.trod enc Tryz.prog W 0 (fun _ => true) true fuel 25 [t] = some x) (ha : FieldsAt W t fs)
    (hw : ∀ n ∈ x.1.weights Tryz.prog 25, n ≤ reachBytes) : ∀ f ∈ fs, f.1.length ≤ reachBytes ∧ f.2.length ≤ reachBytes := by
  obtain ⟨f0, f1, hst, ht0, ht1, hone⟩ := fieldStruct
  obtain ⟨p, cap, rfl, hcell⟩ := ha
  intro f hf0
  obtain ⟨i, hi, rfl⟩ := List.getElem_of_mem hf0
  obtain ⟨b, off, rfl, c0, c1⟩ := hcell i hi
  rcases open_slice Tryz.underlying25 hf with ⟨h0, _⟩ | ⟨a, len, cap', m, n, D, Pl, hcs, _, _, _, hmm, hx, hall⟩
  · rw [List.cons.injEq] at h0
    have := h0.1
    injection this with e1
    cases e1
  · rw [List.cons.injEq, Value.slice.injEq] at hcs
    obtain ⟨⟨e1, e2, e3⟩, _⟩ := hcs
    injection e1 with e1
    subst e1 e2 e3
    obtain ⟨cs', hc, ht'⟩ := hall i (by rw [hmm]; split <;> omega)
    have hC : Tryz.prog.cellsOf 45 = 2 := by kernel_rfl
    rw [hC] at hc
    obtain ⟨ys, n', _, hy, hlen, hyl, hfl⟩ := DataW.trod_struct hst ht'
    obtain ⟨_, hcl, hat⟩ := World.cells?_some hc
    have hcl2 : cs'.length = 2 := hcl
    have key : ∀ (j : Nat) (f : Field), #[f0, f1][j]? = some f → ∃ (v : Value) (y : DataW H × List MemPlace), W.cell? (((⟨b, off, none⟩ : Addr).add (i * 2)).add j) = some v ∧ DataW.trod enc Tryz.prog W 0 (fun _ => true) true n' f.type [v] = some y ∧ ys[j]? = some y := fun j f hj => by
      have hjl : j < 2 := (Array.getElem?_eq_some_iff.1 hj).1
      have hcell := hat j hjl
      have hv : cs'[j]? = some (cs'[j]'(by omega)) := List.getElem?_eq_getElem (by omega)
      obtain ⟨ho, hk⟩ := hone_of hone j f hj
      have h1 := hfl j f hj
      rw [ho, hk] at h1
      have hone' : (cs'.drop j).take 1 = [cs'[j]'(by omega)] := by
        rw [List.drop_eq_getElem_cons (by omega)]
        rfl
      rw [hone'] at h1
      have hyl2 : ys.length = 2 := hyl
      have hys : ys[j]? = some (ys[j]'(by omega)) := List.getElem?_eq_getElem (by omega)
      exact ⟨_, _, by rw [hcell, hv], h1.trans hys, hys⟩
    obtain ⟨v0, y0, k0, t0, z0⟩ := key 0 f0 rfl
    obtain ⟨v1, y1, k1, t1, z1⟩ := key 1 f1 rfl
    have e0 : ((⟨b, off, none⟩ : Addr).add (i * 2)).add 0 = ⟨b, off + i * 2, none⟩ := by rw [Addr.add_lit]; rfl
    have e1 : ((⟨b, off, none⟩ : Addr).add (i * 2)).add 1 = ⟨b, off + i * 2 + 1, none⟩ := by rw [Addr.add_lit, Addr.add_lit]
    rw [e0, c0] at k0
    rw [e1, c1] at k1
    injection k0 with k0
    injection k1 with k1
    subst k0 k1
    rw [ht0] at t0
    rw [ht1] at t1
    have s0 := str_sz t0
    have s1 := str_sz t1
    have hD : ∀ nn ∈ (D i).weights Tryz.prog 45, nn ≤ reachBytes := fun nn hnn => by
      refine hw nn ?_
      rw [hx]
      simp only [DataW.weights, Tryz.underlying25, List.mem_cons, List.mem_append]
      exact .inr (.inl (wAll_mem hnn (List.mem_map.2 ⟨i, List.mem_range.2 hi, rfl⟩)))
    have hDi : D i = .agg (ys.map (·.1)) := congrArg Prod.fst hy
    have hin : ∀ (j : Nat) (f : Field) (y : DataW H × List MemPlace) (l : List UInt8), #[f0, f1][j]? = some f → ys[j]? = some y → y.1 = .lit (.string l) → l.length ≤ reachBytes := fun j f y l hj hyj hl => by
      refine hD _ ?_
      rw [hDi]
      simp only [DataW.weights, hst]
      refine DataW.weights_mem_each (j := j) (t := f.type) (d := y.1) ?_ ?_ _ (by rw [hl]; simp [DataW.weights])
      · rw [List.getElem?_map]; simpa using congrArg (Option.map (·.type)) hj
      · rw [List.getElem?_map, hyj]; rfl
    exact ⟨hin 0 f0 y0 _ rfl z0 s0, hin 1 f1 y1 _ rfl z1 s1⟩
/-- A nil argument has no room. -/
theorem fields_nil {W : World} {fuel : Nat} {t : Value} {x : DataW H × List MemPlace} (hf : DataW.trod enc Tryz.prog W 0 (fun _ => true) true fuel 25 [t] = some x) : ∀ n c, t = .slice none n c → t = .slice none 0 0 := by
  intro n c e
  rcases open_slice Tryz.underlying25 hf with ⟨h0, _⟩ | ⟨a, len, cap', m, nn, D, Pl, hcs, _⟩
  · rw [List.cons.injEq] at h0; exact h0.1
  · rw [List.cons.injEq] at hcs
    rw [hcs.1] at e
    cases e
set_option maxRecDepth 100000 in
/-- How long the parts of an argument are. -/
theorem req_sz {W : World} {r : Rq} {t : Value} {d : DataW H} {p : List MemPlace} (h : DataW.Trod enc Tryz.prog W 0 (fun _ => true) true 27 (r.V t) d p) (ha : FieldsAt W t r.fs)
    (hw : ∀ n ∈ d.weights Tryz.prog 27, n ≤ reachBytes) : r.m.length ≤ reachBytes ∧ r.p.length ≤ reachBytes ∧ r.q.length ≤ reachBytes ∧ (∀ f ∈ r.fs, f.1.length ≤ reachBytes ∧ f.2.length ≤ reachBytes) ∧ ∀ n c, t = .slice none n c → t = .slice none 0 0 := by
  obtain ⟨f0, f1, f2, f3, f4, f5, f6, hs, ht0, ht1, ht2, ht3, ht4, ht5, ht6, hone⟩ := reqStruct
  obtain ⟨fuel, hf⟩ := h
  obtain ⟨ys, n', _, hy, hlen, hyl, hfs⟩ := DataW.trod_struct hs hf
  have hyl2 : ys.length = 7 := hyl
  have hd : d = .agg (ys.map (·.1)) := congrArg Prod.fst hy
  have key : ∀ (j : Nat) (f : Field) (c : Value), #[f0, f1, f2, f3, f4, f5, f6][j]? = some f → [.string ⟨r.m.toArray⟩, .string ⟨r.p.toArray⟩, .string ⟨r.q.toArray⟩, .int .i64 r.v, t, .string ⟨r.b.toArray⟩, .bool r.c][j]? = some c → ∃ y, DataW.trod enc Tryz.prog W 0 (fun _ => true) true n' f.type [c] = some y ∧ ∀ n ∈ y.1.weights Tryz.prog f.type, n ≤ reachBytes := fun j f c hj hc => by
    have hjl : j < 7 := (Array.getElem?_eq_some_iff.1 hj).1
    have h1 := hfs j f hj
    obtain ⟨ho, hk⟩ := hone_of hone j f hj
    rw [ho, hk] at h1
    have hcl : j < [.string ⟨r.m.toArray⟩, .string ⟨r.p.toArray⟩, .string ⟨r.q.toArray⟩, .int .i64 r.v, t, .string ⟨r.b.toArray⟩, .bool r.c].length := hjl
    have hone' : (([.string ⟨r.m.toArray⟩, .string ⟨r.p.toArray⟩, .string ⟨r.q.toArray⟩, .int .i64 r.v, t, .string ⟨r.b.toArray⟩, .bool r.c].drop j).take 1) = [c] := by
      rw [List.drop_eq_getElem_cons hcl]
      obtain ⟨_, h2⟩ := List.getElem?_eq_some_iff.1 hc
      rw [h2]; rfl
    rw [show (r.V t).cells.toList = [.string ⟨r.m.toArray⟩, .string ⟨r.p.toArray⟩, .string ⟨r.q.toArray⟩, .int .i64 r.v, t, .string ⟨r.b.toArray⟩, .bool r.c] from rfl, hone'] at h1
    have hys : ys[j]? = some (ys[j]'(by omega)) := List.getElem?_eq_getElem (by omega)
    refine ⟨_, h1.trans hys, fun n hn => hw n ?_⟩
    rw [hd]
    simp only [DataW.weights, hs]
    refine DataW.weights_mem_each (j := j) (t := f.type) (d := (ys[j]'(by omega)).1) ?_ ?_ _ hn
    · rw [List.getElem?_map]; simpa using congrArg (Option.map (·.type)) hj
    · rw [List.getElem?_map, hys]; rfl
  obtain ⟨y0, h0, w0⟩ := key 0 f0 _ rfl rfl
  obtain ⟨y1, h1, w1⟩ := key 1 f1 _ rfl rfl
  obtain ⟨y2, h2, w2⟩ := key 2 f2 _ rfl rfl
  obtain ⟨y4, h4, w4⟩ := key 4 f4 _ rfl rfl
  rw [ht0] at h0
  rw [ht1] at h1
  rw [ht2] at h2
  rw [ht4] at h4 w4
  have s0 := str_sz h0
  have s1 := str_sz h1
  have s2 := str_sz h2
  exact ⟨w0 _ (by rw [s0]; simp [DataW.weights]), w1 _ (by rw [s1]; simp [DataW.weights]), w2 _ (by rw [s2]; simp [DataW.weights]), fields_sz h4 ha w4, fields_nil h4⟩
end
end Go.Proofs.YtpncfeaaffgkfaaGreatDoor
