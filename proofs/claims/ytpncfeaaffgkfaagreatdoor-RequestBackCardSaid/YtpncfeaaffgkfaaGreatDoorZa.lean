/-
  Requests: the walk over the law's bytes.
  Requests: the walk over the law's may.
  Requests: an append of fields that lie somewhere, at its operation; the law's sum.
  Requests: the walk over RequestBack, to where its request may be.
-/
import Derived.Test.YtpncfeaaffgkfaaGreatDoorYr
import Derived.Test.YtpncfeaaffgkfaaGreatDoorP44
import Derived.Test.YtpncfeaaffgkfaaGreatDoorLc
import Derived.Test.YtpncfeaaffgkfaaGreatDoorAl
import Derived.Test.YtpncfeaaffgkfaaGreatDoorG
import Derived.Laws.StructEq
import Derived.Laws.AppendOwnNone
namespace Go.Proofs.YtpncfeaaffgkfaaGreatDoor
open Go.RowKit
attribute [local go_sem] Oper.semAt_some

def baseQ (r : Rq) : List UInt8 := r.m ++ 32 :: (targQ r ++ [32, 72, 84, 84, 80, 47, 49, 46, 49, 13, 10, 72, 111, 115, 116, 58, 32, 104, 101, 114, 101, 13, 10])
def hdQ (r : Rq) (k : Nat) : List UInt8 := baseQ r ++ ((r.fs.take k).map fldQ).flatMap (· ++ eolL)
theorem hdQ_succ (r : Rq) (k : Nat) (h : k < r.fs.length) : hdQ r (k + 1) = hdQ r k ++ r.fs[k].1 ++ [58, 32] ++ r.fs[k].2 ++ [13, 10] := by
  unfold hdQ
  rw [List.take_succ_eq_append_getElem h, List.map_append, List.flatMap_append]
  simp [fldQ, eolL, List.append_assoc]
theorem sumQ_take (fs : List Fl) (k : Nat) : (((fs.take k).map fldQ).flatMap (· ++ eolL)).length ≤ sumQ fs := by
  unfold sumQ
  induction fs generalizing k with
  | nil => simp
  | cons f t ih =>
    cases k with
    | zero => simp
    | succ k =>
      have := ih k
      simp only [List.take_succ_cons, List.map_cons, List.flatMap_cons, List.length_append, List.sum_cons] at this ⊢
      simp [fldQ, eolL] at this ⊢
      omega
theorem sumQ_len (fs : List Fl) : fs.length ≤ sumQ fs ∧ ∀ f ∈ fs, f.1.length + f.2.length ≤ sumQ fs := by
  unfold sumQ
  induction fs with
  | nil => simp
  | cons f t ih =>
    refine ⟨by simp only [List.map_cons, List.sum_cons, List.length_cons]; omega, fun g hg => ?_⟩
    simp only [List.map_cons, List.sum_cons]
    rcases List.mem_cons.1 hg with rfl | hg
    · omega
    · have := ih.2 g hg; omega
theorem targQ_len (r : Rq) : (targQ r).length ≤ r.p.length + r.q.length + 1 := by
  unfold targQ
  split
  · omega
  · simp; omega
theorem hdQ_len (r : Rq) (k : Nat) : (hdQ r k).length ≤ r.m.length + r.p.length + r.q.length + 25 + sumQ r.fs := by
  unfold hdQ baseQ
  have h1 := sumQ_take r.fs k
  have h2 := targQ_len r
  rw [List.length_append, List.length_append, List.length_cons, List.length_append]
  simp only [List.length_cons, List.length_nil]
  omega
theorem hdQ_end (r : Rq) : hdQ r r.fs.length ++ [67, 111, 110, 116, 101, 110, 116, 45, 76, 101, 110, 103, 116, 104, 58, 32] ++ numL r.b.length ++ [13, 10, 13, 10] ++ r.b = bytesQ r := by
  unfold hdQ bytesQ headL wantF baseQ
  rw [List.take_length]
  simp [List.flatMap_append, fldQ, eolL, qHost, hereL, qLen, pH11, List.append_assoc]
set_option maxHeartbeats 16000000 in
set_option maxRecDepth 100000 in
theorem qbytes_any (r : Rq) (t : Value) (w : World) (hG : G w) (hf : FieldsAt w t r.fs) (hn : r.m.length + r.p.length + r.q.length + sumQ r.fs ≤ 1900) (hb : r.b.length ≤ 4096) :
    Calls Tryz.prog 20 #[r.V t] w fun e w' => e = .returned (.string ⟨(bytesQ r).toArray⟩) ∧ Gr w w' := by
  have hG' := Lib.hid hG
  have hf' := Lib.hid hf
  obtain ⟨pf, capf, rfl, _⟩ := hf
  have hlen := Lib.hid (fun k => hdQ_len r k)
  have hsucc := Lib.hid (fun k (h : k < r.fs.length) => hdQ_succ r k h)
  have hend := Lib.hid (hdQ_end r)
  have hbase := Lib.hid (show hdQ r 0 = r.m ++ 32 :: (targQ r ++ [32, 72, 84, 84, 80, 47, 49, 46, 49, 13, 10, 72, 111, 115, 116, 58, 32, 104, 101, 114, 101, 13, 10]) from by unfold hdQ baseQ; simp)
  have htq := Lib.hid (show targQ r = if r.q.isEmpty then r.p else r.p ++ 63 :: r.q from rfl)
  have hsl := Lib.hid (sumQ_len r.fs)
  have hfsl := (sumQ_len r.fs).1
  obtain ⟨Z, hZ⟩ : ∃ x, bytesQ r = x := ⟨_, rfl⟩
  rw [hZ] at hend ⊢
  obtain ⟨X, hX⟩ : ∃ f : Nat → List UInt8, hdQ r = f := ⟨_, rfl⟩
  rw [hX] at hlen hsucc hend hbase
  obtain ⟨tq, htq2⟩ : ∃ x, targQ r = x := ⟨_, rfl⟩
  rw [htq2] at hbase htq
  obtain ⟨sq, hsq⟩ : ∃ x, sumQ r.fs = x := ⟨_, rfl⟩
  rw [hsq] at hn hlen hsl hfsl
  obtain ⟨nl, hnl⟩ : ∃ x, numL r.b.length = x := ⟨_, rfl⟩
  have hnll : nl.length ≤ 4 := by rw [← hnl]; exact (numL_law hb).2.2.2
  have hnl' := Lib.hid (show Lib.itoa ((r.b.length : Nat) : Int) = nl from hnl)
  rw [hnl] at hend
  obtain ⟨m, pa, qu, v, rfs, rb, rc⟩ := r
  unfold Rq.V
  dsimp only at hf' hlen hsucc hend hbase htq hsl hfsl hn hb hnl' ⊢
  clear hG hZ hX htq2 hsq hnl
  have g1 := Lib.hid (Gr.alloc w (.cells #[.string ⟨m.toArray⟩, .string ⟨pa.toArray⟩, .string ⟨qu.toArray⟩, .int .i64 v, .slice pf rfs.length capf, .string ⟨rb.toArray⟩, .bool rc] 27))
  have y0 := cell_new7 w [.string ⟨m.toArray⟩, .string ⟨pa.toArray⟩, .string ⟨qu.toArray⟩, .int .i64 v, .slice pf rfs.length capf, .string ⟨rb.toArray⟩, .bool rc] 27 0 _ rfl
  have y1 := cell_new7 w [.string ⟨m.toArray⟩, .string ⟨pa.toArray⟩, .string ⟨qu.toArray⟩, .int .i64 v, .slice pf rfs.length capf, .string ⟨rb.toArray⟩, .bool rc] 27 1 _ rfl
  have y2 := cell_new7 w [.string ⟨m.toArray⟩, .string ⟨pa.toArray⟩, .string ⟨qu.toArray⟩, .int .i64 v, .slice pf rfs.length capf, .string ⟨rb.toArray⟩, .bool rc] 27 2 _ rfl
  have y4 := cell_new7 w [.string ⟨m.toArray⟩, .string ⟨pa.toArray⟩, .string ⟨qu.toArray⟩, .int .i64 v, .slice pf rfs.length capf, .string ⟨rb.toArray⟩, .bool rc] 27 4 _ rfl
  have y5 := cell_new7 w [.string ⟨m.toArray⟩, .string ⟨pa.toArray⟩, .string ⟨qu.toArray⟩, .int .i64 v, .slice pf rfs.length capf, .string ⟨rb.toArray⟩, .bool rc] 27 5 _ rfl
  go_enter Tryz.func20, Tryz.ntmps20
  go_upto_region 1 with (fail)
  obtain ⟨R, hRe⟩ : ∃ x, w.heap.size = x := ⟨_, rfl⟩
  rw [hRe] at y0 y1 y2 y4 y5 ⊢
  generalize (w.alloc (.cells #[.string ⟨m.toArray⟩, .string ⟨pa.toArray⟩, .string ⟨qu.toArray⟩, .int .i64 v, .slice pf rfs.length capf, .string ⟨rb.toArray⟩, .bool rc] 27)) = w1 at g1 y0 y1 y2 y4 y5 ⊢
  clear hRe
  obtain ⟨A1, hA1⟩ : ∃ x, m ++ [32] = x := ⟨_, rfl⟩
  have cA1 : (⟨m.toArray⟩ : ByteArray) ++ ⟨#[32]⟩ = ⟨A1.toArray⟩ := by rw [← hA1]; exact cat_mk m [32]
  obtain ⟨A2, hA2⟩ : ∃ x, A1 ++ pa = x := ⟨_, rfl⟩
  have cA2 : (⟨A1.toArray⟩ : ByteArray) ++ ⟨pa.toArray⟩ = ⟨A2.toArray⟩ := by rw [← hA2]; exact cat_mk A1 pa
  have lA1 : A1.length = m.length + 1 := by rw [← hA1]; simp
  have lA2 : A2.length = m.length + 1 + pa.length := by rw [← hA2]; simp [lA1]
  have z1 : ¬ 9223372036854775807 < m.length + 1 := by omega
  have z2 : ¬ 9223372036854775807 < A1.length + pa.length := by omega
  have hA2' := Lib.hid (show A2 = m ++ 32 :: pa by rw [← hA2, ← hA1]; simp)
  clear hA1 hA2
  cases hq : qu.isEmpty
  case' false =>
    have htq' := Lib.hid (show tq = pa ++ 63 :: qu by rw [htq.out, hq]; rfl)
    have hqI : (!qu.isEmpty) = true := by rw [hq]; rfl
    obtain ⟨A3, hA3⟩ : ∃ x, A2 ++ [63] = x := ⟨_, rfl⟩
    have cA3 : (⟨A2.toArray⟩ : ByteArray) ++ ⟨#[63]⟩ = ⟨A3.toArray⟩ := by rw [← hA3]; exact cat_mk A2 [63]
    obtain ⟨A4, hA4⟩ : ∃ x, A3 ++ qu = x := ⟨_, rfl⟩
    have cA4 : (⟨A3.toArray⟩ : ByteArray) ++ ⟨qu.toArray⟩ = ⟨A4.toArray⟩ := by rw [← hA4]; exact cat_mk A3 qu
    have lA3 : A3.length = A2.length + 1 := by rw [← hA3]; simp
    have lA4 : A4.length ≤ 4000 := by rw [← hA4]; simp; omega
    have z3 : ¬ 9223372036854775807 < A2.length + 1 := by omega
    have z4 : ¬ 9223372036854775807 < A3.length + qu.length := by omega
    have hA := Lib.hid (show A4 = m ++ 32 :: tq by rw [← hA4, ← hA3, hA2'.out, htq'.out]; simp)
    clear hA3 hA4 htq
    go_upto_region 4 with (fail)
  case' true =>
    have htq' := Lib.hid (show tq = pa by rw [htq.out, hq]; rfl)
    have hqI : (!qu.isEmpty) = false := by rw [hq]; rfl
    obtain ⟨A4, hA4⟩ : ∃ x, A2 = x := ⟨_, rfl⟩
    have hA := Lib.hid (show A4 = m ++ 32 :: tq by rw [← hA4, hA2'.out, htq'.out])
    have lA4 : A4.length ≤ 4000 := by rw [← hA4]; omega
    clear htq
    go_upto_region 4 with (fail)
    clear hA4
  all_goals
    obtain ⟨A5, hA5⟩ : ∃ x, A4 ++ [32, 72, 84, 84, 80, 47, 49, 46, 49, 13, 10, 72, 111, 115, 116, 58, 32, 104, 101, 114, 101, 13, 10] = x := ⟨_, rfl⟩
    have cA5 : (⟨A4.toArray⟩ : ByteArray) ++ ⟨#[32, 72, 84, 84, 80, 47, 49, 46, 49, 13, 10, 72, 111, 115, 116, 58, 32, 104, 101, 114, 101, 13, 10]⟩ = ⟨A5.toArray⟩ := by rw [← hA5]; exact cat_mk A4 _
    have hst := Lib.hid (show A5 = X 0 by rw [hbase.out, ← hA5, hA.out]; simp)
    have z5 : ¬ 9223372036854775807 < A4.length + 23 := by omega
    clear hA5 hA
    go_wp2
    go_loopw [3, 4] (fun tl i W => ∃ k : Nat, k ≤ rfs.length ∧ tl = .string ⟨(X k).toArray⟩ ∧ i = .int .i64 k ∧ Gr w1 W) (fun _ i _ => rfs.length - (intOf i).toNat)
    case atStart => exact ⟨0, Nat.zero_le _, by rw [← hst.out], rfl, Gr.refl _⟩
    case round =>
      obtain ⟨k, hk, rfl, rfl, hW⟩ := hrel
      replace y4 := hW.cell y4
      replace y5 := hW.cell y5
      have g2 := Lib.hid (g1.out.trans hW)
      have hW' := Lib.hid hW
      clear hW
      obtain ⟨x, hx⟩ : ∃ x, X k = x := ⟨_, rfl⟩
      have hxl := hlen.out k
      rw [hx] at hxl ⊢
      by_cases hlt : k < rfs.length
      · have hs := hsucc.out k hlt
        rw [hx] at hs
        obtain ⟨_, _, e', hcs⟩ := hf'.out.gr g2.out
        injection e' with e1 _ e3
        subst e1 e3
        obtain ⟨bl, off, rfl, c0, c1⟩ := hcs k hlt
        have hsz := hsl.out.2 _ (List.getElem_mem hlt)
        obtain ⟨⟨f1, f2⟩, hfk⟩ : ∃ f, rfs[k] = f := ⟨_, rfl⟩
        rw [hfk] at c0 c1 hs hsz
        dsimp only at c0 c1 hs hsz
        obtain ⟨B1, hB1⟩ : ∃ y, x ++ f1 = y := ⟨_, rfl⟩
        have cB1 : (⟨x.toArray⟩ : ByteArray) ++ ⟨f1.toArray⟩ = ⟨B1.toArray⟩ := by rw [← hB1]; exact cat_mk x f1
        obtain ⟨B2, hB2⟩ : ∃ y, B1 ++ [58, 32] = y := ⟨_, rfl⟩
        have cB2 : (⟨B1.toArray⟩ : ByteArray) ++ ⟨#[58, 32]⟩ = ⟨B2.toArray⟩ := by rw [← hB2]; exact cat_mk B1 [58, 32]
        obtain ⟨B3, hB3⟩ : ∃ y, B2 ++ f2 = y := ⟨_, rfl⟩
        have cB3 : (⟨B2.toArray⟩ : ByteArray) ++ ⟨f2.toArray⟩ = ⟨B3.toArray⟩ := by rw [← hB3]; exact cat_mk B2 f2
        obtain ⟨B4, hB4⟩ : ∃ y, B3 ++ [13, 10] = y := ⟨_, rfl⟩
        have cB4 : (⟨B3.toArray⟩ : ByteArray) ++ ⟨#[13, 10]⟩ = ⟨B4.toArray⟩ := by rw [← hB4]; exact cat_mk B3 [13, 10]
        have l1 : B1.length = x.length + f1.length := by rw [← hB1]; simp
        have l2 : B2.length = x.length + f1.length + 2 := by rw [← hB2]; simp [l1]
        have l3 : B3.length = x.length + f1.length + 2 + f2.length := by rw [← hB3]; simp [l2]
        have z6 : ¬ 9223372036854775807 < x.length + f1.length := by omega
        have z7 : ¬ 9223372036854775807 < B1.length + 2 := by omega
        have z8 : ¬ 9223372036854775807 < B2.length + f2.length := by omega
        have z9 : ¬ 9223372036854775807 < B3.length + 2 := by omega
        have hnext := Lib.hid (show B4 = X (k + 1) by rw [hs, ← hB4, ← hB3, ← hB2, ← hB1])
        have hkI : (0 : Int) ≤ k := by omega
        have hkA : (k : Int) < rfs.length := by omega
        clear hB1 hB2 hB3 hB4 hs hfk hcs hx hst
        go_wp2
        go_quiet (fail)
        go_wp2
        go_roundw
        case rel => exact ⟨k + 1, hlt, by rw [← hnext.out], by go_num, hW'.out.trans (below_drewNm _ _)⟩
        case measure => simp [intOf]; omega
      · have hkA : ¬ (k : Int) < rfs.length := by omega
        obtain rfl : k = rfs.length := by omega
        have he := hend.out
        rw [hx] at he
        obtain ⟨B1, hB1⟩ : ∃ y, x ++ [67, 111, 110, 116, 101, 110, 116, 45, 76, 101, 110, 103, 116, 104, 58, 32] = y := ⟨_, rfl⟩
        have cB1 : (⟨x.toArray⟩ : ByteArray) ++ ⟨#[67, 111, 110, 116, 101, 110, 116, 45, 76, 101, 110, 103, 116, 104, 58, 32]⟩ = ⟨B1.toArray⟩ := by rw [← hB1]; exact cat_mk x _
        obtain ⟨B2, hB2⟩ : ∃ y, B1 ++ nl = y := ⟨_, rfl⟩
        have cB2 : (⟨B1.toArray⟩ : ByteArray) ++ ⟨nl.toArray⟩ = ⟨B2.toArray⟩ := by rw [← hB2]; exact cat_mk B1 nl
        obtain ⟨B3, hB3⟩ : ∃ y, B2 ++ [13, 10, 13, 10] = y := ⟨_, rfl⟩
        have cB3 : (⟨B2.toArray⟩ : ByteArray) ++ ⟨#[13, 10, 13, 10]⟩ = ⟨B3.toArray⟩ := by rw [← hB3]; exact cat_mk B2 _
        have cB4 : (⟨B3.toArray⟩ : ByteArray) ++ ⟨rb.toArray⟩ = ⟨Z.toArray⟩ := by rw [← he, ← hB3, ← hB2, ← hB1]; exact cat_mk _ rb
        have l1 : B1.length = x.length + 16 := by rw [← hB1]; simp
        have l2 : B2.length = x.length + 16 + nl.length := by rw [← hB2]; simp [l1]
        have l3 : B3.length = x.length + 20 + nl.length := by rw [← hB3]; simp [l2]; omega
        have z6 : ¬ 9223372036854775807 < x.length + 16 := by omega
        have z7 : ¬ 9223372036854775807 < B1.length + nl.length := by omega
        have z8 : ¬ 9223372036854775807 < B2.length + 4 := by omega
        have z9 : ¬ 9223372036854775807 < B3.length + rb.length := by omega
        haveI : Nonempty (Later (Gr wr)) := ⟨⟨wr, Gr.refl wr⟩⟩
        replace y5 := fun (x : Later (Gr wr)) => x.ok.cell y5
        have hit : ∀ x : Later (Gr wr), Calls Tryz.prog 21 #[.int .i64 rb.length] x.w fun e w'' => e = .returned (.string ⟨nl.toArray⟩) ∧ ∃ y : Later (Gr wr), w'' = y.w := fun x =>
          Calls.later ((itoa_any rb.length (by omega) (by omega) x.w (hG'.out.gr (g2.out.trans x.ok))).mono fun _ _ ⟨he, hb⟩ => ⟨by rw [he, hnl'.out], x.ok.trans hb⟩)
        clear hB1 hB2 hB3 he hx hst
        go_upto_region 9 with (fail)
        refine wp_region_later (C := Gr wr) (by kernel_rfl) (by kernel_rfl) (Gr.drew' _) ?_
        repeat (go_big_quiet_step (first | with_reducible exact hit _))
        refine wpQuiet_nil ?_
        intro w9 hg9
        have hfin := Lib.hid (g2.out.trans hg9)
        clear y5 hit
        go_wp2
        go_ret
        exact ⟨rfl, hfin.out⟩
end Go.Proofs.YtpncfeaaffgkfaaGreatDoor
namespace Go.Proofs.YtpncfeaaffgkfaaGreatDoor
open Go.RowKit
attribute [local go_sem] Oper.semAt_some

theorem alloc_field {o : Oper} (h : o.op = .alloc 45) (a : Act) (W : World) :
    (execOp a.eval o).run Tryz.prog W = .ok (.value (.pointer (some ⟨W.heap.size, 0, none⟩))) (W.alloc (.cells #[.string ⟨#[]⟩, .string ⟨#[]⟩] 45)) := by
  obtain ⟨dst, op, type, pos, after, guard⟩ := o
  simp only at h
  subst h
  simp [go_sem]
theorem store_field {o : Oper} {a : Act} {w0 W : World} {p : Nat} {x0 y0 : Value} {x y : ByteArray} (i j : Operand) (h : o.op = .store 45 i j) (hi : a.eval i = .pointer (some ⟨p, 0, none⟩)) (hj : a.eval j = .agg #[.string x, .string y])
    (hW : Gr w0 W) (hp : w0.heap.size ≤ p) (hz : W.heap[p]? = some (.cells #[x0, y0] 45)) :
    ∃ W', (execOp a.eval o).run Tryz.prog W = .ok .skip W' ∧ Gr w0 W' ∧ W'.heap[p]? = some (.cells #[.string x, .string y] 45) := by
  obtain ⟨dst, op, type, pos, after, guard⟩ := o
  simp only at h
  subst h
  have u1 : W.cell? ⟨p, 0, none⟩ = some x0 := by simp [World.cell?, hz]
  have u2 : W.cell? ⟨p, 1, none⟩ = some y0 := by simp [World.cell?, hz]
  have u3 : W.frozen? ⟨p, 0, none⟩ = false := by simp [World.frozen?, hz]
  have u4 : W.frozen? ⟨p, 1, none⟩ = false := by simp [World.frozen?, hz]
  refine ⟨(W.setCell ⟨p, 0, none⟩ (.string x)).setCell ⟨p, 1, none⟩ (.string y), ?_, (hW.setCell hp _).setCell hp _, ?_⟩
  · obtain ⟨ρ, hρ⟩ : ∃ ρ, a.eval = ρ := ⟨_, rfl⟩
    rw [hρ] at hi hj ⊢
    simp [go_sem, hi, hj, u1, u2, u3, u4]
  · have hl := (Array.getElem?_eq_some_iff.1 hz).1
    simp only [World.setCell, Array.getElem?_modify, if_true, hz, Option.map_some]
    rfl
theorem parse_later {l n v : List UInt8} {ok : Bool} (h : parseB l = (n, v, ok)) (hl : l.length < 4294967281) {W : World} (x : Later (Gr W)) (hG : G x.w) :
    Calls Tryz.prog 32 #[.string ⟨l.toArray⟩] x.w fun e w'' => e = .returned (.tuple #[.agg #[.string ⟨n.toArray⟩, .string ⟨v.toArray⟩], .bool ok]) ∧ ∃ y : Later (Gr W), w'' = y.w :=
  Calls.later ((parse_is l n v ok h x.w hG hl).mono fun _ _ ⟨h1, h2⟩ => ⟨h1, x.ok.trans h2⟩)
theorem alike_later {a b : List UInt8} {c : Bool} (h : alikeB a b = c) {W : World} (x : Later (Gr W)) (hG : G x.w) (ha : a.length ≤ 9223372036854775807) (hb : b.length ≤ 9223372036854775807) :
    Calls Tryz.prog 33 #[.string ⟨a.toArray⟩, .string ⟨b.toArray⟩] x.w fun e w'' => e = .returned (.bool c) ∧ ∃ y : Later (Gr W), w'' = y.w :=
  Calls.later ((alike_any a b x.w hG ha hb).mono fun _ _ ⟨h1, h2⟩ => ⟨by rw [h1, h], x.ok.trans h2⟩)
theorem fieldEq (w : World) (a b c d : List UInt8) : (Op.equalIn 10000 45 (.agg #[.string ⟨a.toArray⟩, .string ⟨b.toArray⟩]) (.agg #[.string ⟨c.toArray⟩, .string ⟨d.toArray⟩])).run Tryz.prog w = .ok (a == c && b == d) w := by
  have ht : Tryz.prog.underlying 45 = some (.struct (Tryz.prog.fieldsOf 45)) := by kernel_rfl
  have hp : Tryz.prog.stoodInHeld 45 = false := by kernel_rfl
  have hfo : (Tryz.prog.fieldsOf 45).toList.map (fun f => (decide (f.name = "_"), f.type, f.offset)) = [(false, 9, 0), (false, 9, 1)] := by kernel_rfl
  rw [run_equalIn_agg w 9999 _ _ _ ht hp]
  generalize (Tryz.prog.fieldsOf 45).toList = l at hfo
  have hl : l.length = 2 := by simpa using congrArg List.length hfo
  match l, hl, hfo with
  | [f0, f1], _, h =>
    simp only [List.map_cons, List.map_nil, List.cons.injEq, Prod.mk.injEq, decide_eq_false_iff_not, and_true] at h
    obtain ⟨⟨n0, t0, o0⟩, n1, t1, o1⟩ := h
    cases hac : (a == c) <;> cases hbd : (b == d) <;> simp [Op.eqFields, n0, n1, t0, t1, o0, o1, go_sem, hac, hbd]
/-- What may answers. -/
def MayPost (Q : Prop) (w : World) (e : Ending) (w' : World) : Prop := ∃ b, e = .returned (.bool b) ∧ (b = true → Q) ∧ Gr w w'
theorem MayPost.no {Q : Prop} {w w' : World} (h : Gr w w') : MayPost Q w (.returned (.bool false)) w' := ⟨false, rfl, fun e => (by cases e), h⟩
set_option maxHeartbeats 32000000 in
set_option maxRecDepth 100000 in
theorem may_any (r : Rq) (t : Value) (w : World) (hG : G w) (hf : FieldsAt w t r.fs) (hm : r.m.length ≤ 1900) (hpq : r.p.length + r.q.length ≤ 1900) (hb : r.b.length ≤ 9223372036854775807) (hfl : r.fs.length ≤ 9223372036854775807) (hfs : r.fs.length ≤ 30 → ∀ f ∈ r.fs, f.1.length + f.2.length ≤ 1900) :
    Calls Tryz.prog 19 #[r.V t] w (MayPost (MayQ r) w) := by
  have hG' := Lib.hid hG
  have hf' := Lib.hid hf
  obtain ⟨pf, capf, rfl, _⟩ := hf
  have hyes := Lib.hid (fun W' (hg : Gr w W') (a : (targetB (r.p ++ 63 :: r.q)).2.2 = true) (b : (targetB r.p).2.2 = true) (c : (targetB r.p).1 = r.p) (d : tokB r.m = true) (e : r.b.length ≤ 4096) (f : r.fs.length ≤ 30) (g : ∀ k, (hk : k < r.fs.length) → FieldMay r.fs[k]) => (show MayPost (MayQ r) w (.returned (.bool true)) W' from ⟨true, rfl, fun _ => ⟨a, b, c, d, e, f, fun x hx => by obtain ⟨k, hk, rfl⟩ := List.getElem_of_mem hx; exact g k hk⟩, hg⟩))
  generalize MayQ r = Q at hyes ⊢
  have hfs' := Lib.hid hfs
  obtain ⟨m, pa, qu, v, rfs, rb, rc⟩ := r
  unfold Rq.V
  dsimp only at hf' hm hpq hb hfl hfs' hyes ⊢
  clear hG hfs
  have g1 := Lib.hid (Gr.alloc w (.cells #[.string ⟨m.toArray⟩, .string ⟨pa.toArray⟩, .string ⟨qu.toArray⟩, .int .i64 v, .slice pf rfs.length capf, .string ⟨rb.toArray⟩, .bool rc] 27))
  have y0 := cell_new7 w [.string ⟨m.toArray⟩, .string ⟨pa.toArray⟩, .string ⟨qu.toArray⟩, .int .i64 v, .slice pf rfs.length capf, .string ⟨rb.toArray⟩, .bool rc] 27 0 _ rfl
  have y1 := cell_new7 w [.string ⟨m.toArray⟩, .string ⟨pa.toArray⟩, .string ⟨qu.toArray⟩, .int .i64 v, .slice pf rfs.length capf, .string ⟨rb.toArray⟩, .bool rc] 27 1 _ rfl
  have y2 := cell_new7 w [.string ⟨m.toArray⟩, .string ⟨pa.toArray⟩, .string ⟨qu.toArray⟩, .int .i64 v, .slice pf rfs.length capf, .string ⟨rb.toArray⟩, .bool rc] 27 2 _ rfl
  have y4 := cell_new7 w [.string ⟨m.toArray⟩, .string ⟨pa.toArray⟩, .string ⟨qu.toArray⟩, .int .i64 v, .slice pf rfs.length capf, .string ⟨rb.toArray⟩, .bool rc] 27 4 _ rfl
  have y5 := cell_new7 w [.string ⟨m.toArray⟩, .string ⟨pa.toArray⟩, .string ⟨qu.toArray⟩, .int .i64 v, .slice pf rfs.length capf, .string ⟨rb.toArray⟩, .bool rc] 27 5 _ rfl
  go_enter Tryz.func19, Tryz.ntmps19
  go_upto_region 1 with (fail)
  obtain ⟨R, hRe⟩ : ∃ x, w.heap.size = x := ⟨_, rfl⟩
  rw [hRe] at y0 y1 y2 y4 y5 ⊢
  generalize (w.alloc (.cells #[.string ⟨m.toArray⟩, .string ⟨pa.toArray⟩, .string ⟨qu.toArray⟩, .int .i64 v, .slice pf rfs.length capf, .string ⟨rb.toArray⟩, .bool rc] 27)) = w1 at g1 y0 y1 y2 y4 y5 ⊢
  clear hRe
  obtain ⟨A1, hA1⟩ : ∃ x, pa ++ [63] = x := ⟨_, rfl⟩
  have cA1 : (⟨pa.toArray⟩ : ByteArray) ++ ⟨#[63]⟩ = ⟨A1.toArray⟩ := by rw [← hA1]; exact cat_mk pa [63]
  obtain ⟨A2, hA2⟩ : ∃ x, A1 ++ qu = x := ⟨_, rfl⟩
  have cA2 : (⟨A1.toArray⟩ : ByteArray) ++ ⟨qu.toArray⟩ = ⟨A2.toArray⟩ := by rw [← hA2]; exact cat_mk A1 qu
  have lA1 : A1.length = pa.length + 1 := by rw [← hA1]; simp
  have lA2 : A2.length ≤ 2000 := by rw [← hA2]; simp [lA1]; omega
  have z1 : ¬ 9223372036854775807 < pa.length + 1 := by omega
  have z2 : ¬ 9223372036854775807 < A1.length + qu.length := by omega
  have hA2' := Lib.hid (show pa ++ 63 :: qu = A2 by rw [← hA2, ← hA1]; simp)
  obtain ⟨⟨a1, a2, ok1⟩, hta⟩ : ∃ x, targetB A2 = x := ⟨_, rfl⟩
  obtain ⟨⟨b1, b2, ok2⟩, htb⟩ : ∃ x, targetB pa = x := ⟨_, rfl⟩
  have hta' := Lib.hid hta
  have htb' := Lib.hid htb
  obtain ⟨tk, htk⟩ : ∃ x, tokB m = x := ⟨_, rfl⟩
  have htk' := Lib.hid htk
  clear hA1 hA2 hta htb htk
  go_wp2_with fail
  refine (target_any A2 w1 (hG'.out.gr g1.out) (by omega)).mono ?_
  rw [hta'.out]
  rintro e w2 ⟨rfl, hb2⟩
  unfold tgV
  dsimp only
  have g2 := Lib.hid (g1.out.trans hb2)
  replace y0 := hb2.cell y0
  replace y1 := hb2.cell y1
  replace y4 := hb2.cell y4
  replace y5 := hb2.cell y5
  clear hb2 y2 g1 cA1 cA2
  go_wp2_with fail
  refine (target_any pa w2 (hG'.out.gr g2.out) (by omega)).mono ?_
  rw [htb'.out]
  rintro e w3 ⟨rfl, hb2⟩
  unfold tgV
  dsimp only
  have g3 := Lib.hid (g2.out.trans hb2)
  replace y0 := hb2.cell y0
  replace y1 := hb2.cell y1
  replace y4 := hb2.cell y4
  replace y5 := hb2.cell y5
  clear hb2 g2
  cases ok1
  case false =>
    go_wp2
    go_ret; exact MayPost.no g3.out
  cases ok2
  case false =>
    go_wp2
    go_ret; exact MayPost.no g3.out
  by_cases hp : b1 = pa
  case neg =>
    have hpI : (b1 == pa) = false := beq_eq_false_iff_ne.2 hp
    go_wp2
    go_ret; exact MayPost.no g3.out
  subst hp
  have htok := Lib.hid (show Calls Tryz.prog 31 #[.string ⟨m.toArray⟩] w3 fun e w' => e = .returned (.bool tk) ∧ w3 = w' from by rw [← htk'.out]; exact token_any m w3 (by omega))
  cases tk
  case false =>
    go_wp2_with fail
    refine htok.out.mono ?_
    rintro e w4 ⟨rfl, rfl⟩
    go_wp2
    go_ret; exact MayPost.no g3.out
  by_cases hb4 : rb.length ≤ 4096
  case neg =>
    have hbI : (4096 : Int) < rb.length := by omega
    go_wp2_with fail
    refine htok.out.mono ?_
    rintro e w4 ⟨rfl, rfl⟩
    go_wp2
    go_ret; exact MayPost.no g3.out
  by_cases h30 : rfs.length ≤ 30
  case neg =>
    have hbI : ¬ (4096 : Int) < rb.length := by omega
    have hfI : (30 : Int) < rfs.length := by omega
    go_wp2_with fail
    refine htok.out.mono ?_
    rintro e w4 ⟨rfl, rfl⟩
    go_wp2
    go_ret; exact MayPost.no g3.out
  have hbI : ¬ (4096 : Int) < rb.length := by omega
  have hfI : ¬ (30 : Int) < rfs.length := by omega
  have hfs2 := Lib.hid (hfs'.out h30)
  have hyes2 := Lib.hid (fun W' (hg : Gr w W') g => hyes.out W' hg (by rw [hA2'.out, hta'.out]) (by rw [htb'.out]) (by rw [htb'.out]) htk'.out hb4 h30 g)
  clear hyes hfs' hb4 hta' htb' htk' hA2'
  go_wp2_with fail
  refine htok.out.mono ?_
  rintro e w4 ⟨rfl, rfl⟩
  clear htok
  go_wp2
  have hEq := fieldEq
  have hEg : Tryz.prog.eqGuardType Tryz.prog.depth 45 = false := by kernel_rfl
  go_loopw [9] (fun i W => ∃ k : Nat, k ≤ rfs.length ∧ i = .int .i64 k ∧ Gr w3 W ∧ ∀ j, (hj : j < rfs.length) → j < k → FieldMay rfs[j]) (fun i _ => rfs.length - (intOf i).toNat)
  case atStart => exact ⟨0, Nat.zero_le _, rfl, Gr.refl _, fun j _ h => absurd h (Nat.not_lt_zero _)⟩
  case round =>
    obtain ⟨k, hk, rfl, hW, hdone⟩ := hrel
    replace y4 := hW.cell y4
    have g4 := Lib.hid (g3.out.trans hW)
    have hW' := Lib.hid hW
    have hdone' := Lib.hid hdone
    clear hW hdone
    by_cases hlt : k < rfs.length
    · obtain ⟨_, _, e', hcs⟩ := hf'.out.gr g4.out
      injection e' with e1 _ e3
      subst e1 e3
      obtain ⟨bl, off, rfl, c0, c1⟩ := hcs k hlt
      have hsz := hfs2.out _ (List.getElem_mem hlt)
      have hdn := Lib.hid (fun (h : FieldMay rfs[k]) => (show ∀ j, (hj : j < rfs.length) → j < k + 1 → FieldMay rfs[j] from fun j hj hjk => by
        by_cases e : j = k
        · subst e; exact h
        · exact hdone'.out j hj (by omega)))
      unfold FieldMay at hdn
      obtain ⟨⟨f1, f2⟩, hfk⟩ : ∃ f, rfs[k] = f := ⟨_, rfl⟩
      rw [hfk] at c0 c1 hsz hdn
      dsimp only at c0 c1 hsz hdn
      obtain ⟨B1, hB1⟩ : ∃ y, f1 ++ [58] = y := ⟨_, rfl⟩
      have cB1 : (⟨f1.toArray⟩ : ByteArray) ++ ⟨#[58]⟩ = ⟨B1.toArray⟩ := by rw [← hB1]; exact cat_mk f1 [58]
      obtain ⟨B2, hB2⟩ : ∃ y, B1 ++ f2 = y := ⟨_, rfl⟩
      have cB2 : (⟨B1.toArray⟩ : ByteArray) ++ ⟨f2.toArray⟩ = ⟨B2.toArray⟩ := by rw [← hB2]; exact cat_mk B1 f2
      have l1 : B1.length = f1.length + 1 := by rw [← hB1]; simp
      have l2 : B2.length ≤ 2000 := by rw [← hB2]; simp [l1]; omega
      have z6 : ¬ 9223372036854775807 < f1.length + 1 := by omega
      have z7 : ¬ 9223372036854775807 < B1.length + f2.length := by omega
      rw [hB1, hB2] at hdn
      obtain ⟨⟨n, u, ok⟩, hpb⟩ : ∃ x, parseB B2 = x := ⟨_, rfl⟩
      have hpb' := Lib.hid hpb
      rw [hpb] at hdn
      have hkI : (0 : Int) ≤ k := by omega
      have hkA : (k : Int) < rfs.length := by omega
      clear hB1 hB2 hcs hfk hpb
      go_upto_region 8 with (fail)
      refine wp_region_later_store (z := .cells #[.string ⟨#[]⟩, .string ⟨#[]⟩] 45) 19 18 (.cells #[.string ⟨n.toArray⟩, .string ⟨u.toArray⟩] 45) rfl rfl (by decide) rfl rfl rfl rfl (alloc_field rfl) (by kernel_rfl) (by kernel_rfl) (by kernel_rfl) ?_
      intro p W hW hp
      haveI : Nonempty (Later (Gr W)) := ⟨⟨W, Gr.refl W⟩⟩
      have t0 : ∀ x : Later (Gr W), x.w.cell? ⟨R, 4, none⟩ = _ := fun x => (hW.trans x.ok).cell y4
      have t1 : ∀ x : Later (Gr W), x.w.cell? ⟨bl, off + k * 2, none⟩ = _ := fun x => (hW.trans x.ok).cell c0
      have t2 : ∀ x : Later (Gr W), x.w.cell? ⟨bl, off + k * 2 + 1, none⟩ = _ := fun x => (hW.trans x.ok).cell c1
      have hGW' := Lib.hid (show ∀ x : Later (Gr W), G x.w from fun x => hG'.out.gr (g4.out.trans (hW.trans x.ok)))
      simp only [Oper.made, List.set_cons_zero, List.set_cons_succ, List.take_succ_cons, List.take_zero, List.drop_succ_cons, List.drop_zero]
      repeat (go_big_quiet_step (first | with_reducible exact parse_later hpb'.out (by omega) _ (hGW'.out _)))
      refine wpQuiet_nil ?_
      refine ⟨fun W9 hW9 hz9 => store_field (.tmp 10) (.tmp 85) rfl rfl rfl hW9 hp hz9, ?_⟩
      intro w8 hg8 hz8
      have u1 : w8.cell? ⟨p, 0, none⟩ = some (.string ⟨n.toArray⟩) := by simp [World.cell?, hz8]
      have u2 : w8.cell? ⟨p, 1, none⟩ = some (.string ⟨u.toArray⟩) := by simp [World.cell?, hz8]
      replace y4 := hg8.cell y4
      replace c0 := hg8.cell c0
      replace c1 := hg8.cell c1
      have g8 := Lib.hid (g4.out.trans hg8)
      have g83 := Lib.hid (hW'.out.trans hg8)
      clear hg8 hz8 t0 t1 t2 hGW' hW hp
      cases ok
      case false =>
        go_wp2
        go_quiet (fail)
        go_wp2
        go_ret
        exact MayPost.no (g8.out.trans (below_drewNm _ _))
      by_cases he : n = f1 ∧ u = f2
      case neg =>
        have heI : (n == f1 && u == f2) = false := by
          rw [Bool.and_eq_false_iff]
          by_cases h1 : n = f1
          · exact .inr (beq_eq_false_iff_ne.2 (fun e => he ⟨h1, e⟩))
          · exact .inl (beq_eq_false_iff_ne.2 h1)
        go_wp2
        go_quiet (fail)
        go_wp2
        go_ret
        exact MayPost.no (g8.out.trans (below_drewNm _ _))
      obtain ⟨rfl, rfl⟩ := he
      go_wp2
      go_quiet (fail)
      go_upto_region 11 with (fail)
      generalize hD : w8.drewN _ = w9
      have g89 : Gr w8 w9 := hD ▸ below_drewNm _ _
      replace u1 := g89.cell u1
      have g9 := Lib.hid (g8.out.trans g89)
      have g93 := Lib.hid (g83.out.trans g89)
      clear hD g89 u2 c0 c1 y4 g8 g83
      have gB := Gr.alloc w9 (.cells #[.string ⟨#[104, 111, 115, 116]⟩, .string ⟨#[99, 111, 110, 116, 101, 110, 116, 45, 108, 101, 110, 103, 116, 104]⟩, .string ⟨#[116, 114, 97, 110, 115, 102, 101, 114, 45, 101, 110, 99, 111, 100, 105, 110, 103]⟩, .string ⟨#[99, 111, 110, 110, 101, 99, 116, 105, 111, 110]⟩] 9)
      have hnm : ∀ j, (hj : j < names4.length) → (w9.alloc (.cells #[.string ⟨#[104, 111, 115, 116]⟩, .string ⟨#[99, 111, 110, 116, 101, 110, 116, 45, 108, 101, 110, 103, 116, 104]⟩, .string ⟨#[116, 114, 97, 110, 115, 102, 101, 114, 45, 101, 110, 99, 111, 100, 105, 110, 103]⟩, .string ⟨#[99, 111, 110, 110, 101, 99, 116, 105, 111, 110]⟩] 9)).cell? ⟨w9.heap.size, j, none⟩ = some (.string ⟨(names4[j]).toArray⟩) := fun j hj =>
        match j, hj with
        | 0, _ => cell_new7 w9 [.string ⟨#[104, 111, 115, 116]⟩, .string ⟨#[99, 111, 110, 116, 101, 110, 116, 45, 108, 101, 110, 103, 116, 104]⟩, .string ⟨#[116, 114, 97, 110, 115, 102, 101, 114, 45, 101, 110, 99, 111, 100, 105, 110, 103]⟩, .string ⟨#[99, 111, 110, 110, 101, 99, 116, 105, 111, 110]⟩] 9 0 _ rfl
        | 1, _ => cell_new7 w9 [.string ⟨#[104, 111, 115, 116]⟩, .string ⟨#[99, 111, 110, 116, 101, 110, 116, 45, 108, 101, 110, 103, 116, 104]⟩, .string ⟨#[116, 114, 97, 110, 115, 102, 101, 114, 45, 101, 110, 99, 111, 100, 105, 110, 103]⟩, .string ⟨#[99, 111, 110, 110, 101, 99, 116, 105, 111, 110]⟩] 9 1 _ rfl
        | 2, _ => cell_new7 w9 [.string ⟨#[104, 111, 115, 116]⟩, .string ⟨#[99, 111, 110, 116, 101, 110, 116, 45, 108, 101, 110, 103, 116, 104]⟩, .string ⟨#[116, 114, 97, 110, 115, 102, 101, 114, 45, 101, 110, 99, 111, 100, 105, 110, 103]⟩, .string ⟨#[99, 111, 110, 110, 101, 99, 116, 105, 111, 110]⟩] 9 2 _ rfl
        | 3, _ => cell_new7 w9 [.string ⟨#[104, 111, 115, 116]⟩, .string ⟨#[99, 111, 110, 116, 101, 110, 116, 45, 108, 101, 110, 103, 116, 104]⟩, .string ⟨#[116, 114, 97, 110, 115, 102, 101, 114, 45, 101, 110, 99, 111, 100, 105, 110, 103]⟩, .string ⟨#[99, 111, 110, 110, 101, 99, 116, 105, 111, 110]⟩] 9 3 _ rfl
        | j + 4, h => absurd h (by show ¬ j + 4 < 4; omega)
      have hnm' := Lib.hid hnm
      replace u1 := gB.cell u1
      have g10 := Lib.hid (g9.out.trans gB)
      have g103 := Lib.hid (g93.out.trans gB)
      clear hnm g9 g93
      go_upto_region 12 with (fail)
      obtain ⟨N, hN⟩ : ∃ x, w9.heap.size = x := ⟨_, rfl⟩
      rw [hN] at hnm' ⊢
      generalize (w9.alloc (.cells #[.string ⟨#[104, 111, 115, 116]⟩, .string ⟨#[99, 111, 110, 116, 101, 110, 116, 45, 108, 101, 110, 103, 116, 104]⟩, .string ⟨#[116, 114, 97, 110, 115, 102, 101, 114, 45, 101, 110, 99, 111, 100, 105, 110, 103]⟩, .string ⟨#[99, 111, 110, 110, 101, 99, 116, 105, 111, 110]⟩] 9)) = w10 at u1 g10 g103 hnm' ⊢
      clear gB hN
      have hnl : n.length ≤ 1900 := by omega
      go_wp2
      go_loopw [13] (fun i W => ∃ j : Nat, j ≤ 4 ∧ i = .int .i64 j ∧ Gr w10 W ∧ ∀ q, (hq : q < names4.length) → q < j → alikeB n names4[q] = false) (fun i _ => 4 - (intOf i).toNat)
      case atStart => exact ⟨0, Nat.zero_le _, rfl, Gr.refl _, fun q _ h => absurd h (Nat.not_lt_zero _)⟩
      case round =>
        obtain ⟨j, hj, rfl, hX, hnone⟩ := hrel
        replace u1 := hX.cell u1
        have gX := Lib.hid (g10.out.trans hX)
        have gX3 := Lib.hid (g103.out.trans hX)
        have hX' := Lib.hid hX
        have hnone' := Lib.hid hnone
        by_cases h4 : j < 4
        · have x1 := hX.cell (hnm'.out j h4)
          have hstep := Lib.hid (fun (h : alikeB n (names4[j]'h4) = false) => (show ∀ q, (hq : q < names4.length) → q < j + 1 → alikeB n names4[q] = false from fun q hq hqj => by
            by_cases e : q = j
            · subst e; exact h
            · exact hnone'.out q hq (by omega)))
          have hnml : (names4[j]'h4).length ≤ 100 := (show ∀ x ∈ names4, x.length ≤ 100 by decide) _ (List.getElem_mem _)
          obtain ⟨nm, hnm9⟩ : ∃ x, names4[j]'h4 = x := ⟨_, rfl⟩
          rw [hnm9] at x1 hstep hnml
          obtain ⟨ab, hab⟩ : ∃ x, alikeB n nm = x := ⟨_, rfl⟩
          have hab' := Lib.hid hab
          have hjI : (0 : Int) ≤ j := by omega
          have hjA : (j : Int) < 4 := by omega
          clear hX hnone hnm9 hab
          go_upto_region 15 with (fail)
          haveI : Nonempty (Later (Gr wr)) := ⟨⟨wr, Gr.refl wr⟩⟩
          have t1 : ∀ x : Later (Gr wr), x.w.cell? ⟨p, 0, none⟩ = _ := fun x => x.ok.cell u1
          have t2 : ∀ x : Later (Gr wr), x.w.cell? ⟨N, j, none⟩ = _ := fun x => x.ok.cell x1
          have hGW' := Lib.hid (show ∀ x : Later (Gr wr), G x.w from fun x => hG'.out.gr (gX.out.trans x.ok))
          refine wp_region_later (C := Gr wr) (by kernel_rfl) (by kernel_rfl) (Gr.drew' _) ?_
          repeat (go_big_quiet_step (first | with_reducible exact alike_later hab'.out _ (hGW'.out _) (by omega) (by omega)))
          refine wpQuiet_nil ?_
          intro w11 hg11
          have gY := Lib.hid (gX.out.trans hg11)
          have gYX := Lib.hid (hX'.out.trans hg11)
          clear t1 t2 hGW' u1 x1 hg11
          cases ab
          case true =>
            go_wp2
            go_ret
            exact MayPost.no gY.out
          go_wp2
          go_roundw
          case rel => exact ⟨j + 1, h4, by go_num, gYX.out, hstep.out hab'.out⟩
          case measure => simp [intOf]; omega
        · have hjA : ¬ (j : Int) < 4 := by omega
          obtain rfl : j = 4 := by omega
          have hrel9 := Lib.hid (hdn.out ⟨trivial, fun x hx => by
            obtain ⟨q, hq, rfl⟩ := List.getElem_of_mem hx
            exact hnone'.out q hq hq⟩)
          clear hX hnone u1
          go_wp2
          go_roundw
          case rel => exact ⟨k + 1, hlt, by go_num, gX3.out, hrel9.out⟩
          case measure => simp [intOf]; omega
    · have hkA : ¬ (k : Int) < rfs.length := by omega
      have hfin := Lib.hid (fun W' hg => hyes2.out W' hg (fun j hj => hdone'.out j hj (by omega)))
      go_wp2
      go_ret
      exact hfin.out _ g4.out
end Go.Proofs.YtpncfeaaffgkfaaGreatDoor
namespace Go.Proofs.YtpncfeaaffgkfaaGreatDoor
open Go.RowKit Go.Shelf
attribute [local go_sem] Oper.semAt_some

set_option maxRecDepth 100000 in
/-- An append of fields that lie somewhere (or nil) to a row of one's own. -/
theorem wpList_append_fields {w : World} {ops : Array Oper} {rest : List Oper} {o : Oper} {a : Act} {Q : Exit → Act → World → Prop} (hgd : o.guard = none) (s x : Operand)
    (ho : o.op = .call { callee := .builtin .append, args := #[s, x], argTypes := #[25, 25] })
    (B : Nat) (v tv : Value) (fs gs : List Fl) (hs : a.eval s = v) (hown : OwnF B w v fs) (hx : a.eval x = tv) (hg : FieldsAt w tv gs) (hnil : ∀ n c, tv = .slice none n c → tv = .slice none 0 0) (hlen : fs.length + gs.length ≤ 1000000) (hB : B ≤ w.heap.size)
    (h : ∀ v' w', OwnF B w' v' (fs ++ gs) → w.grownBy w' v.ownBlock → (v'.ownBlock = v.ownBlock ∨ v'.ownBlock = some w.heap.size) → wpList Tryz.prog ops Q rest (a.put o.dst v') w') :
    wpList Tryz.prog ops Q (o :: rest) a w := by
  obtain ⟨i0, hi, hz0, hz1, hz2⟩ := info_parts infoField
  obtain ⟨p, cap, rfl, hc⟩ := hg
  cases p with
  | none =>
    have e := hnil _ _ rfl
    have hgs : gs = [] := by
      injection e with _ e2 _
      exact List.eq_nil_of_length_eq_zero e2
    subst hgs
    rw [e] at hx
    refine wpList_append_own_none hgd s x 25 ho B 45 i0 2 Tryz.underlying25 hi v fs.length (fcells fs) hs hown hx ?_
    refine h v w (by rw [List.append_nil]; exact hown) ⟨rfl, rfl, rfl, Nat.le_refl _, fun _ _ _ => rfl⟩ (.inl rfl)
  | some ad =>
    have hnews : ∀ j u, (fcells gs)[j]? = some u → w.cell? (ad.add j) = some u := fun j u h => by
      obtain ⟨i, hi, h | h⟩ := fcells_mem gs j u h
      · obtain ⟨rfl, rfl⟩ := h
        obtain ⟨b, off, e, h1, _⟩ := hc i hi
        injection e with e
        subst e
        rw [Addr.add_lit]; exact h1
      · obtain ⟨rfl, rfl⟩ := h
        obtain ⟨b, off, e, _, h2⟩ := hc i hi
        injection e with e
        subst e
        rw [Addr.add_lit]; exact h2
    refine wpList_append_own_at _ hgd s x 25 ho B 45 i0 (.agg #[.string ⟨#[]⟩, .string ⟨#[]⟩]) 2 32 Tryz.underlying25 hi hz0 hz1 hz2 rfl (by decide) v fs.length (fcells fs) hs hown ad gs.length cap (fcells gs) hx (by rw [fcells_len]) hnews (fcells_one gs) (by unfold maxLen; omega) (by omega) hB ?_
    intro v' w' h2 h3 _ h5
    refine h v' w' ?_ h3 h5
    unfold OwnF; rw [fcells_app, List.length_append]; exact h2
/-- A call of a Go function of one argument, at a step of a region that draws its order. -/
theorem step_call1 {P : Program} {w : World} {ops : Array Oper} {o : Oper} {a : Act} {K : Act → World → Prop} {Q : Exit → Act → World → Prop} {E : Prop} (hgd : o.guard = none) (f : Nat) (x : Operand) (ts : Array TypeId)
    (ho : o.op = .call { callee := .value (.func f), args := #[x], argTypes := ts }) (u v : Value) (hu : a.eval x = u) (R : World → Prop) (hf : ∀ args w, (callFunc f args).run P w = .ok (.enter f args) w)
    (hC : Calls P f #[u] w fun e w' => e = .returned v ∧ R w') (h : ∀ w', R w' → K (a.put o.dst v) w') :
    if Region.wanted o (yielded ops a.tmps) = true then Oper.wp P o a w K Q else E := by
  have hw : Region.wanted o (yielded ops a.tmps) = true := by simp [Region.wanted, hgd]
  rw [if_pos hw]
  unfold Oper.wp
  have ef : a.eval (.func f) = .func (.func f) #[] #[] := rfl
  have e : execOp a.eval o = callFunc f (#[x].map a.eval) := by
    unfold execOp
    simp [ho, resolve, Deferred.ofValue, invoke, ef]
  rw [e, show #[x].map a.eval = #[u] by simp [hu], hf]
  simp only [Oper.upon]
  refine hC.mono fun e w' hh => ?_
  obtain ⟨rfl, hR⟩ := hh
  exact h w' hR
end Go.Proofs.YtpncfeaaffgkfaaGreatDoor
namespace Go.Proofs.YtpncfeaaffgkfaaGreatDoor
open Go.RowKit
attribute [local go_sem] Oper.semAt_some

def sumK (r : Rq) (k : Nat) : Nat := r.m.length + r.p.length + r.q.length + sumQ (r.fs.take k)
theorem sumK_zero (r : Rq) : sumK r 0 = r.m.length + r.p.length + r.q.length := by simp [sumK, sumQ]
theorem sumK_succ (r : Rq) (k : Nat) (h : k < r.fs.length) : sumK r (k + 1) = sumK r k + r.fs[k].1.length + r.fs[k].2.length + 4 := by
  unfold sumK sumQ
  rw [List.take_succ_eq_append_getElem h, List.map_append, List.sum_append]
  simp; omega
theorem sumK_le (r : Rq) (hm : r.m.length ≤ 140737488355328) (hp : r.p.length ≤ 140737488355328) (hq : r.q.length ≤ 140737488355328) (hf : ∀ f ∈ r.fs, f.1.length ≤ 140737488355328 ∧ f.2.length ≤ 140737488355328) : ∀ k, k ≤ 31 → k ≤ r.fs.length → sumK r k ≤ 3 * 140737488355328 + k * 300000000000000
  | 0, _, _ => by rw [sumK_zero]; omega
  | k + 1, h, h2 => by
    have := sumK_le r hm hp hq hf k (by omega) (by omega)
    obtain ⟨a, b⟩ := hf _ (List.getElem_mem (show k < r.fs.length by omega))
    rw [sumK_succ r k (by omega)]
    omega
theorem two_cells (W : World) (a b : List UInt8) : ∀ i, (hi : i < [(a, b)].length) → (W.alloc (.cells #[.string ⟨a.toArray⟩, .string ⟨b.toArray⟩] 45)).cell? ⟨W.heap.size, 0 + i * 2, none⟩ = some (.string ⟨([(a, b)][i]).1.toArray⟩) ∧ (W.alloc (.cells #[.string ⟨a.toArray⟩, .string ⟨b.toArray⟩] 45)).cell? ⟨W.heap.size, 0 + i * 2 + 1, none⟩ = some (.string ⟨([(a, b)][i]).2.toArray⟩) := fun i hi => by
  match i, hi with
  | 0, _ => exact ⟨cell_new7 W [.string ⟨a.toArray⟩, .string ⟨b.toArray⟩] 45 0 _ rfl, cell_new7 W [.string ⟨a.toArray⟩, .string ⟨b.toArray⟩] 45 1 _ rfl⟩
theorem bytesQ_len {r : Rq} (h : MayQ r) (hn : r.m.length + r.p.length + r.q.length + sumQ r.fs ≤ 1900) : (bytesQ r).length ≤ 7000 := by
  have h1 := hdQ_len r r.fs.length
  have h2 := congrArg List.length (hdQ_end r)
  have h3 := (numL_law h.b).2.2.2
  have h4 := h.b
  simp only [List.length_append, List.length_cons, List.length_nil] at h2
  omega
set_option maxHeartbeats 128000000 in
set_option maxRecDepth 100000 in
theorem qback_any (r : Rq) (t : Value) (behind : List UInt8) (w : World) (hG : G w) (hf : FieldsAt w t r.fs) (hm : r.m.length ≤ 140737488355328) (hp : r.p.length ≤ 140737488355328) (hq : r.q.length ≤ 140737488355328) (hb : r.b.length ≤ 9223372036854775807) (hfl : r.fs.length ≤ 9223372036854775807)
    (hfs : ∀ f ∈ r.fs, f.1.length ≤ 140737488355328 ∧ f.2.length ≤ 140737488355328) (hnil : ∀ n c, t = .slice none n c → t = .slice none 0 0) :
    Calls Tryz.prog 5 #[r.V t, .string ⟨behind.toArray⟩] w fun e w' => e = .returned (.bool true) ∧ Gr w w' := by
  have hG' := Lib.hid hG
  have hf' := Lib.hid hf
  have hnil' := Lib.hid hnil
  obtain ⟨pf, capf, rfl, _⟩ := hf
  have hS0 := Lib.hid (sumK_zero r)
  have hSs := Lib.hid (sumK_succ r)
  have hSl := Lib.hid (sumK_le r hm hp hq hfs)
  have hmay := Lib.hid (fun W hg a b c d => may_any r (.slice pf r.fs.length capf) W hg a b c hb hfl d)
  have hfs' := Lib.hid hfs
  have hSd := Lib.hid (show ∀ k, sumK r k = r.m.length + r.p.length + r.q.length + sumQ (r.fs.take k) from fun _ => rfl)
  obtain ⟨S, hS⟩ : ∃ S : Nat → Nat, sumK r = S := ⟨_, rfl⟩
  rw [hS] at hS0 hSs hSl hSd
  clear hG hfs hS hnil
  unfold Rq.V
  have g1 := Lib.hid (Gr.alloc w (.cells #[.string ⟨r.m.toArray⟩, .string ⟨r.p.toArray⟩, .string ⟨r.q.toArray⟩, .int .i64 r.v, .slice pf r.fs.length capf, .string ⟨r.b.toArray⟩, .bool r.c] 27))
  have y0 := cell_new7 w [.string ⟨r.m.toArray⟩, .string ⟨r.p.toArray⟩, .string ⟨r.q.toArray⟩, .int .i64 r.v, .slice pf r.fs.length capf, .string ⟨r.b.toArray⟩, .bool r.c] 27 0 _ rfl
  have y1 := cell_new7 w [.string ⟨r.m.toArray⟩, .string ⟨r.p.toArray⟩, .string ⟨r.q.toArray⟩, .int .i64 r.v, .slice pf r.fs.length capf, .string ⟨r.b.toArray⟩, .bool r.c] 27 1 _ rfl
  have y2 := cell_new7 w [.string ⟨r.m.toArray⟩, .string ⟨r.p.toArray⟩, .string ⟨r.q.toArray⟩, .int .i64 r.v, .slice pf r.fs.length capf, .string ⟨r.b.toArray⟩, .bool r.c] 27 2 _ rfl
  have y3 := cell_new7 w [.string ⟨r.m.toArray⟩, .string ⟨r.p.toArray⟩, .string ⟨r.q.toArray⟩, .int .i64 r.v, .slice pf r.fs.length capf, .string ⟨r.b.toArray⟩, .bool r.c] 27 3 _ rfl
  have y4 := cell_new7 w [.string ⟨r.m.toArray⟩, .string ⟨r.p.toArray⟩, .string ⟨r.q.toArray⟩, .int .i64 r.v, .slice pf r.fs.length capf, .string ⟨r.b.toArray⟩, .bool r.c] 27 4 _ rfl
  have y5 := cell_new7 w [.string ⟨r.m.toArray⟩, .string ⟨r.p.toArray⟩, .string ⟨r.q.toArray⟩, .int .i64 r.v, .slice pf r.fs.length capf, .string ⟨r.b.toArray⟩, .bool r.c] 27 5 _ rfl
  have y6 := cell_new7 w [.string ⟨r.m.toArray⟩, .string ⟨r.p.toArray⟩, .string ⟨r.q.toArray⟩, .int .i64 r.v, .slice pf r.fs.length capf, .string ⟨r.b.toArray⟩, .bool r.c] 27 6 _ rfl
  go_enter Tryz.func5, Tryz.ntmps5
  go_upto_region 1 with (fail)
  obtain ⟨R, hRe⟩ : ∃ x, w.heap.size = x := ⟨_, rfl⟩
  rw [hRe] at y0 y1 y2 y3 y4 y5 y6 ⊢
  generalize (w.alloc (.cells #[.string ⟨r.m.toArray⟩, .string ⟨r.p.toArray⟩, .string ⟨r.q.toArray⟩, .int .i64 r.v, .slice pf r.fs.length capf, .string ⟨r.b.toArray⟩, .bool r.c] 27)) = w1 at g1 y0 y1 y2 y3 y4 y5 y6 ⊢
  clear hRe
  go_wp2_with fail
  refine (awake9_any w1 (hG'.out.gr g1.out)).mono ?_
  rintro e w2 ⟨rfl, hb2⟩
  have g2 := Lib.hid (g1.out.trans hb2)
  replace y0 := hb2.cell y0
  replace y1 := hb2.cell y1
  replace y2 := hb2.cell y2
  replace y3 := hb2.cell y3
  replace y4 := hb2.cell y4
  replace y5 := hb2.cell y5
  replace y6 := hb2.cell y6
  clear hb2 g1
  have hst := Lib.hid (show S 0 = r.m.length + r.p.length + r.q.length from hS0.out)
  go_wp2
  go_loopw [5, 6] (fun nv iv W => ∃ k : Nat, k ≤ r.fs.length ∧ k ≤ 31 ∧ nv = .int .i64 (S k : Nat) ∧ iv = .int .i64 k ∧ Gr w2 W) (fun _ iv _ => 31 - (intOf iv).toNat)
  case atStart => exact ⟨0, Nat.zero_le _, by decide, by rw [hst.out]; simp, rfl, Gr.refl _⟩
  case round =>
    obtain ⟨k, hk, hk31, rfl, rfl, hW⟩ := hrel
    replace y0 := hW.cell y0
    replace y1 := hW.cell y1
    replace y2 := hW.cell y2
    replace y3 := hW.cell y3
    replace y4 := hW.cell y4
    replace y5 := hW.cell y5
    replace y6 := hW.cell y6
    have g3 := Lib.hid (g2.out.trans hW)
    have hW' := Lib.hid hW
    clear hW
    obtain ⟨sk, hsk⟩ : ∃ x, S k = x := ⟨_, rfl⟩
    have hskl := hSl.out k hk31 hk
    rw [hsk] at hskl ⊢
    have hskI : (sk : Int) ≤ 100000000000000000 := by omega
    by_cases hlt : k < r.fs.length ∧ k ≤ 30
    · obtain ⟨hlt, h30⟩ := hlt
      have hs := hSs.out k hlt
      rw [hsk] at hs
      obtain ⟨l1, l2⟩ := hfs'.out _ (List.getElem_mem hlt)
      obtain ⟨_, _, e', hcs⟩ := hf'.out.gr g3.out
      injection e' with e1 _ e3
      subst e1 e3
      obtain ⟨bl, off, rfl, c0, c1⟩ := hcs k hlt
      obtain ⟨⟨f1, f2⟩, hfk⟩ : ∃ f, r.fs[k] = f := ⟨_, rfl⟩
      rw [hfk] at c0 c1 hs l1 l2
      dsimp only at c0 c1 hs l1 l2
      have hnext := Lib.hid hs
      have hkI : (0 : Int) ≤ k := by omega
      have hkA : (k : Int) < r.fs.length := by omega
      have hkB : (k : Int) ≤ 30 := by omega
      have l1I : (f1.length : Int) ≤ 140737488355328 := by omega
      have l2I : (f2.length : Int) ≤ 140737488355328 := by omega
      clear hcs hfk hs hsk hst
      go_wp2
      go_quiet (fail)
      go_wp2
      go_roundw
      case rel => exact ⟨k + 1, hlt, by omega, by rw [hnext.out]; simp, by go_num, hW'.out.trans (below_drewNm _ _)⟩
      case measure => simp [intOf]; omega
    · have hkk : r.fs.length ≤ 30 → k = r.fs.length := fun h => by
        by_cases h2 : k < r.fs.length
        · exact absurd ⟨h2, by omega⟩ hlt
        · omega
      have hSk := hSd.out k
      rw [hsk] at hSk
      have hkk' := Lib.hid hkk
      have hSk' := Lib.hid hSk
      clear hkk hst
      by_cases hA : k < r.fs.length
      case' pos =>
        have hwhich := Lib.hid (show 30 < r.fs.length ∨ True from .inr trivial)
        have hkA : (k : Int) < r.fs.length := by omega
        have hkB : ¬ (k : Int) ≤ 30 := fun e => hlt ⟨hA, by omega⟩
        clear hlt
        go_upto_region 8 with (fail)
      case' neg =>
        have hkA : ¬ (k : Int) < r.fs.length := by omega
        clear hlt
        go_upto_region 8 with (fail)
      all_goals
        by_cases h19 : sk ≤ 1900
        case neg =>
          have h19I : (1900 : Int) < sk := by omega
          go_wp2
          go_ret
          exact ⟨rfl, g3.out⟩
        have h19I : ¬ (1900 : Int) < sk := by omega
        have hmm := Lib.hid (hmay.out wr (hG'.out.gr g3.out) (hf'.out.gr g3.out) (by have := hSk'.out; omega) (by have := hSk'.out; omega) (fun h f hf => by
          have e := hkk'.out h
          have h2 := hSk'.out
          rw [e, List.take_length] at h2
          have := (sumQ_len r.fs).2 f hf
          omega))
        unfold Rq.V at hmm
        go_wp2_with fail
        refine hmm.out.mono ?_
        rintro e w4 ⟨b, rfl, hMq, hg⟩
        have g4 := Lib.hid (g3.out.trans hg)
        replace y0 := hg.cell y0
        replace y1 := hg.cell y1
        replace y2 := hg.cell y2
        replace y3 := hg.cell y3
        replace y4 := hg.cell y4
        replace y5 := hg.cell y5
        replace y6 := hg.cell y6
        have hMq' := Lib.hid hMq
        clear hg hMq hmm
        cases b
        case false =>
          go_wp2
          go_ret
          exact ⟨rfl, g4.out⟩
        have hM := hMq'.out rfl
        first
          | (exfalso; have h30 := hM.n; omega)
          | skip
      by_cases hbe : behind.length ≤ 300
      case neg =>
        have hbeI : (300 : Int) < behind.length := by omega
        go_wp2
        go_ret
        exact ⟨rfl, g4.out⟩
      have hbeI : ¬ (300 : Int) < behind.length := by omega
      have hn : r.m.length + r.p.length + r.q.length + sumQ r.fs ≤ 1900 := by
        have h2 := hSk'.out
        rw [hkk'.out hM.n, List.take_length] at h2
        omega
      have hone := Lib.hid (fun x => one_bytes hM hn x)
      have hbl := Lib.hid (bytesQ_len hM hn)
      have hby := Lib.hid (qbytes_any r (.slice pf r.fs.length capf) w4 (hG'.out.gr g4.out) (hf'.out.gr g4.out) hn hM.b)
      have hM' := Lib.hid hM
      unfold Rq.V at hby
      obtain ⟨Z, hZ⟩ : ∃ x, bytesQ r = x := ⟨_, rfl⟩
      rw [hZ] at hone hbl hby
      clear hMq' hM hZ hSk' hkk' hn
      go_wp2_with fail
      refine hby.out.mono ?_
      rintro e w5 ⟨rfl, hg⟩
      have g5 := Lib.hid (g4.out.trans hg)
      replace y0 := hg.cell y0
      replace y1 := hg.cell y1
      replace y2 := hg.cell y2
      replace y3 := hg.cell y3
      replace y4 := hg.cell y4
      replace y5 := hg.cell y5
      replace y6 := hg.cell y6
      clear hg hby g4 g3
      go_upto_region 12 with (fail)
      have g6 := Lib.hid (g5.out.alloc1 (.cells #[.string ⟨r.m.toArray⟩, .string ⟨r.p.toArray⟩, .string ⟨r.q.toArray⟩, .int .i64 r.v, .slice pf r.fs.length capf, .string ⟨r.b.toArray⟩, .bool r.c] 27))
      have hRR : R < w5.heap.size := cell_lt y0
      have gA := Gr.alloc w5 (.cells #[.string ⟨r.m.toArray⟩, .string ⟨r.p.toArray⟩, .string ⟨r.q.toArray⟩, .int .i64 r.v, .slice pf r.fs.length capf, .string ⟨r.b.toArray⟩, .bool r.c] 27)
      have x0 := cell_new7 w5 [.string ⟨r.m.toArray⟩, .string ⟨r.p.toArray⟩, .string ⟨r.q.toArray⟩, .int .i64 r.v, .slice pf r.fs.length capf, .string ⟨r.b.toArray⟩, .bool r.c] 27 0 _ rfl
      have x1 := cell_new7 w5 [.string ⟨r.m.toArray⟩, .string ⟨r.p.toArray⟩, .string ⟨r.q.toArray⟩, .int .i64 r.v, .slice pf r.fs.length capf, .string ⟨r.b.toArray⟩, .bool r.c] 27 1 _ rfl
      have x2 := cell_new7 w5 [.string ⟨r.m.toArray⟩, .string ⟨r.p.toArray⟩, .string ⟨r.q.toArray⟩, .int .i64 r.v, .slice pf r.fs.length capf, .string ⟨r.b.toArray⟩, .bool r.c] 27 2 _ rfl
      have x3 := cell_new7 w5 [.string ⟨r.m.toArray⟩, .string ⟨r.p.toArray⟩, .string ⟨r.q.toArray⟩, .int .i64 r.v, .slice pf r.fs.length capf, .string ⟨r.b.toArray⟩, .bool r.c] 27 3 _ rfl
      have x4 := cell_new7 w5 [.string ⟨r.m.toArray⟩, .string ⟨r.p.toArray⟩, .string ⟨r.q.toArray⟩, .int .i64 r.v, .slice pf r.fs.length capf, .string ⟨r.b.toArray⟩, .bool r.c] 27 4 _ rfl
      have x5 := cell_new7 w5 [.string ⟨r.m.toArray⟩, .string ⟨r.p.toArray⟩, .string ⟨r.q.toArray⟩, .int .i64 r.v, .slice pf r.fs.length capf, .string ⟨r.b.toArray⟩, .bool r.c] 27 5 _ rfl
      have x6 := cell_new7 w5 [.string ⟨r.m.toArray⟩, .string ⟨r.p.toArray⟩, .string ⟨r.q.toArray⟩, .int .i64 r.v, .slice pf r.fs.length capf, .string ⟨r.b.toArray⟩, .bool r.c] 27 6 _ rfl
      replace y0 := gA.cell y0
      replace y1 := gA.cell y1
      replace y2 := gA.cell y2
      replace y3 := gA.cell y3
      replace y4 := gA.cell y4
      replace y5 := gA.cell y5
      replace y6 := gA.cell y6
      have xz : ∀ o, (w5.alloc (.cells #[.string ⟨r.m.toArray⟩, .string ⟨r.p.toArray⟩, .string ⟨r.q.toArray⟩, .int .i64 r.v, .slice pf r.fs.length capf, .string ⟨r.b.toArray⟩, .bool r.c] 27)).frozen? ⟨w5.heap.size, o, none⟩ = false := fun o => by simp [go_sem]
      clear gA
      obtain ⟨R3, hR3⟩ : ∃ x, w5.heap.size = x := ⟨_, rfl⟩
      rw [hR3] at x0 x1 x2 x3 x4 x5 x6 xz hRR ⊢
      generalize (w5.alloc (.cells #[.string ⟨r.m.toArray⟩, .string ⟨r.p.toArray⟩, .string ⟨r.q.toArray⟩, .int .i64 r.v, .slice pf r.fs.length capf, .string ⟨r.b.toArray⟩, .bool r.c] 27)) = w6 at g6 y0 y1 y2 y3 y4 y5 y6 x0 x1 x2 x3 x4 x5 x6 xz ⊢
      go_upto_region 14 with (fail)
      have c2 : Ch (fun k => k = R3) w6 ((w6.setCell ⟨R3, 3, none⟩ (.int .i64 11)).setCell ⟨R3, 6, none⟩ (.bool false)) := (Ch.putB (B := R3) (o := 3) w6 _).trans (Ch.putB (B := R3) (o := 6) _ _)
      have hRne : R ≠ R3 := by omega
      have g7 := Lib.hid ((g6.out.setCell (p := ⟨R3, 3, none⟩) (by show w.heap.size ≤ R3; have := Below.size g5.out; omega) (.int .i64 11)).setCell (p := ⟨R3, 6, none⟩) (by show w.heap.size ≤ R3; have := Below.size g5.out; omega) (.bool false))
      replace y5 := (c2.cell (cell_lt y5) hRne).trans y5
      replace y4 := (c2.cell (cell_lt y4) hRne).trans y4
      have v0 : ((w6.setCell ⟨R3, 3, none⟩ (.int .i64 11)).setCell ⟨R3, 6, none⟩ (.bool false)).cell? ⟨R3, 0, none⟩ = some (.string ⟨r.m.toArray⟩) := by simp [go_sem, x0]
      have v1 : ((w6.setCell ⟨R3, 3, none⟩ (.int .i64 11)).setCell ⟨R3, 6, none⟩ (.bool false)).cell? ⟨R3, 1, none⟩ = some (.string ⟨r.p.toArray⟩) := by simp [go_sem, x1]
      have v2 : ((w6.setCell ⟨R3, 3, none⟩ (.int .i64 11)).setCell ⟨R3, 6, none⟩ (.bool false)).cell? ⟨R3, 2, none⟩ = some (.string ⟨r.q.toArray⟩) := by simp [go_sem, x2]
      have v3 : ((w6.setCell ⟨R3, 3, none⟩ (.int .i64 11)).setCell ⟨R3, 6, none⟩ (.bool false)).cell? ⟨R3, 3, none⟩ = some (.int .i64 11) := by simp [go_sem, x3]
      have v4 : ((w6.setCell ⟨R3, 3, none⟩ (.int .i64 11)).setCell ⟨R3, 6, none⟩ (.bool false)).cell? ⟨R3, 4, none⟩ = some (.slice pf r.fs.length capf) := by simp [go_sem, x4]
      have v5 : ((w6.setCell ⟨R3, 3, none⟩ (.int .i64 11)).setCell ⟨R3, 6, none⟩ (.bool false)).cell? ⟨R3, 5, none⟩ = some (.string ⟨r.b.toArray⟩) := by simp [go_sem, x5]
      have v6 : ((w6.setCell ⟨R3, 3, none⟩ (.int .i64 11)).setCell ⟨R3, 6, none⟩ (.bool false)).cell? ⟨R3, 6, none⟩ = some (.bool false) := by simp [go_sem, x6]
      have vz : ∀ o, ((w6.setCell ⟨R3, 3, none⟩ (.int .i64 11)).setCell ⟨R3, 6, none⟩ (.bool false)).frozen? ⟨R3, o, none⟩ = false := fun o => by simp [go_sem, xz]
      clear c2 x0 x1 x2 x3 x4 x5 x6 xz y0 y1 y2 y3 y6 g6
      generalize ((w6.setCell ⟨R3, 3, none⟩ (.int .i64 11)).setCell ⟨R3, 6, none⟩ (.bool false)) = w7 at g7 y4 y5 v0 v1 v2 v3 v4 v5 v6 vz ⊢
      have hRw7 : R3 < w7.heap.size := cell_lt v0
      have hRw7b : R < w7.heap.size := cell_lt y4
      have gB := Gr.alloc w7 (.cells #[.string ⟨#[72, 111, 115, 116]⟩, .string ⟨#[104, 101, 114, 101]⟩] 45)
      have o1 : OwnF w7.heap.size (w7.alloc (.cells #[.string ⟨#[72, 111, 115, 116]⟩, .string ⟨#[104, 101, 114, 101]⟩] 45)) (.slice (some ⟨w7.heap.size, 0, none⟩) 1 1) [(qHost, hereL)] := World.ownsRow_lit w7 #[.string ⟨#[72, 111, 115, 116]⟩, .string ⟨#[104, 101, 114, 101]⟩] 1 (Nat.le_refl _) (by decide) rfl
      have f8 := hf'.out.gr (g7.out.trans gB)
      have hl9 : [(qHost, hereL)].length + r.fs.length ≤ 1000000 := by have := hM'.out.n; simp; omega
      have hB8 : w7.heap.size ≤ (w7.alloc (.cells #[.string ⟨#[72, 111, 115, 116]⟩, .string ⟨#[104, 101, 114, 101]⟩] 45)).heap.size := by simp
      go_wp2_with (at_builtin; refine wpList_append_fields rfl _ _ rfl w7.heap.size _ _ [(qHost, hereL)] r.fs rfl o1 rfl f8 hnil'.out hl9 hB8 ?_)
      intro v' w9 hown9 hgrow9 hat9
      have hch9 : Ch (fun k => k = w7.heap.size) (w7.alloc (.cells #[.string ⟨#[72, 111, 115, 116]⟩, .string ⟨#[104, 101, 114, 101]⟩] 45)) w9 := (Ch.of_grown hgrow9).mono (fun k e => by injection e with e; exact e.symm)
      have hRn9 : R3 ≠ w7.heap.size := by omega
      have hRn8 : R ≠ w7.heap.size := by omega
      replace y5 := (hch9.cell (cell_lt (gB.cell y5)) hRn8).trans (gB.cell y5)
      replace v0 := (hch9.cell (cell_lt (gB.cell v0)) hRn9).trans (gB.cell v0)
      replace v1 := (hch9.cell (cell_lt (gB.cell v1)) hRn9).trans (gB.cell v1)
      replace v2 := (hch9.cell (cell_lt (gB.cell v2)) hRn9).trans (gB.cell v2)
      replace v3 := (hch9.cell (cell_lt (gB.cell v3)) hRn9).trans (gB.cell v3)
      replace v4 := (hch9.cell (cell_lt (gB.cell v4)) hRn9).trans (gB.cell v4)
      replace v5 := (hch9.cell (cell_lt (gB.cell v5)) hRn9).trans (gB.cell v5)
      replace v6 := (hch9.cell (cell_lt (gB.cell v6)) hRn9).trans (gB.cell v6)
      replace vz := fun o => (hch9.frozen (p := ⟨R3, o, none⟩) (Nat.lt_of_lt_of_le hRw7 (Below.size gB)) hRn9).trans ((Below.frozen gB (show (⟨R3, o, none⟩ : Addr).block < w7.heap.size from hRw7)).trans (vz o))
      have g9 := Lib.hid ((g7.out.trans gB).ch hch9 (fun k e => by subst e; exact Below.size g7.out))
      obtain ⟨p9, cap9, rfl, _⟩ := hown9.at
      rw [show ((qHost, hereL) :: r.fs).length = r.fs.length + 1 from rfl] at hown9
      try (rw [show ((qHost, hereL) :: r.fs).length = r.fs.length + 1 from rfl])
      have hR9 : (Value.slice p9 (r.fs.length + 1) cap9).ownBlock ≠ some R3 := fun e => by have := (World.ownsRow.lt hown9 _ e).1; omega
      have o10 := OwnF.put hown9 (a := ⟨R3, 4, none⟩) hR9 (.slice p9 (r.fs.length + 1) cap9)
      have c10 := Ch.putB (B := R3) (o := 4) w9 (.slice p9 (r.fs.length + 1) cap9)
      have q5 := (c10.cell (cell_lt y5) (show ¬ R = R3 by omega)).trans y5
      have q4 : (w9.setCell ⟨R3, 4, none⟩ (.slice p9 (r.fs.length + 1) cap9)).cell? ⟨R3, 4, none⟩ = some (.slice p9 (r.fs.length + 1) cap9) := cell_set_same v4
      have g10 := Lib.hid (g9.out.setCell (p := ⟨R3, 4, none⟩) (by show w.heap.size ≤ R3; have := Below.size g5.out; omega) (.slice p9 (r.fs.length + 1) cap9))
      have q0 : (w9.setCell ⟨R3, 4, none⟩ (.slice p9 (r.fs.length + 1) cap9)).cell? ⟨R3, 0, none⟩ = some (.string ⟨r.m.toArray⟩) := by simp [go_sem, v0]
      have q1 : (w9.setCell ⟨R3, 4, none⟩ (.slice p9 (r.fs.length + 1) cap9)).cell? ⟨R3, 1, none⟩ = some (.string ⟨r.p.toArray⟩) := by simp [go_sem, v1]
      have q2 : (w9.setCell ⟨R3, 4, none⟩ (.slice p9 (r.fs.length + 1) cap9)).cell? ⟨R3, 2, none⟩ = some (.string ⟨r.q.toArray⟩) := by simp [go_sem, v2]
      have q3 : (w9.setCell ⟨R3, 4, none⟩ (.slice p9 (r.fs.length + 1) cap9)).cell? ⟨R3, 3, none⟩ = some (.int .i64 11) := by simp [go_sem, v3]
      have q7 : (w9.setCell ⟨R3, 4, none⟩ (.slice p9 (r.fs.length + 1) cap9)).cell? ⟨R3, 5, none⟩ = some (.string ⟨r.b.toArray⟩) := by simp [go_sem, v5]
      have q6 : (w9.setCell ⟨R3, 4, none⟩ (.slice p9 (r.fs.length + 1) cap9)).cell? ⟨R3, 6, none⟩ = some (.bool false) := by simp [go_sem, v6]
      have qz : ∀ o, (w9.setCell ⟨R3, 4, none⟩ (.slice p9 (r.fs.length + 1) cap9)).frozen? ⟨R3, o, none⟩ = false := fun o => by simp [go_sem, vz]
      have hsz10 := c10.size
      have hsz9 := hch9.size
      have hszB := Below.size gB
      obtain ⟨N1, hN1⟩ : ∃ x, w7.heap.size = x := ⟨_, rfl⟩
      rw [hN1] at o10 hRn9 hRn8 hRw7 hszB
      have hN10 : N1 ≤ (w9.setCell ⟨R3, 4, none⟩ (.slice p9 (r.fs.length + 1) cap9)).heap.size := by omega
      clear o1 f8 hl9 hB8 hown9 hgrow9 hat9 hch9 hR9 c10 y4 y5 v0 v1 v2 v3 v5 v6 g9 g7 hsz10 hsz9 hszB
      go_upto_region 15 with (fail)
      clear vz v4 gB hN1
      generalize (w9.setCell ⟨R3, 4, none⟩ (.slice p9 (r.fs.length + 1) cap9)) = wa at o10 q0 q1 q2 q3 q4 q5 q6 q7 qz g10 hN10 ⊢
      obtain ⟨nl, hnl⟩ : ∃ x, numL r.b.length = x := ⟨_, rfl⟩
      have hit := Lib.hid (fun W (hg : Gr wa W) => (show Calls Tryz.prog 21 #[.int .i64 r.b.length] W fun e w'' => e = .returned (.string ⟨nl.toArray⟩) ∧ Gr W w'' from (itoa_any r.b.length (by omega) (by omega) W (hG'.out.gr (g10.out.trans hg))).mono fun _ _ ⟨he, hb⟩ => ⟨by rw [he, ← hnl]; rfl, hb⟩))
      have hSx := Lib.hid (fun (W : World) (hg : Below N1 wa W) => (show W.cell? ⟨R3, 4, none⟩ = some (.slice p9 (r.fs.length + 1) cap9) ∧ W.cell? ⟨R, 5, none⟩ = some (.string ⟨r.b.toArray⟩) ∧ Below N1 wa W from ⟨(Below.cell hg (p := ⟨R3, 4, none⟩) hRw7).trans q4, (Below.cell hg (p := ⟨R, 5, none⟩) (show R < N1 by omega)).trans q5, hg⟩))
      have hgr := Lib.hid (fun (W : World) (hg : Gr wa W) => (show Below N1 wa W from Below.mono hg hN10))
      have hot := Lib.hid (fun (W : World) (hg : Gr wa W) => (show OwnF N1 W (.slice p9 (r.fs.length + 1) cap9) ((qHost, hereL) :: r.fs) from ownsRow_gr o10 hg))
      have hn9b := hM'.out.n
      have hitE := enters_of Tryz.func21 (by kernel_rfl) rfl
      go_region_law (first
            | (refine step_call1 (by rfl) 21 (.tmp 83) #[3] (by rfl) (.int .i64 r.b.length) (.string ⟨nl.toArray⟩) (by rfl) _ hitE (hit.out _ (by first | exact Gr.drew' _ | exact Gr.refl _)) ?_; intro wb hbb; have hGb : Gr wa wb := Gr.trans (by first | exact Gr.drew' _ | exact Gr.refl _) hbb; have q4b := hGb.cell q4; have q5b := hGb.cell q5; have hRb : R3 < wb.heap.size := cell_lt q4b)
            | (refine step_fields (by rfl) (.tmp 80) (.tmp 86) (by rfl) N1 _ _ (by rfl) (hot.out _ (by first | exact Gr.alloc1 hGb _ | exact Gr.drew (Gr.alloc1 hGb _))) wb.heap.size 0 1 1 [(qLen, nl)] (by rfl) (by rfl) (fun i hi => two_cells wb qLen nl i hi) (r.fs.length + 1 + 1) rfl (by omega) (by have := Below.size hGb; simp; omega) ?_; intro pc9 capc9 wc hownc hbc; have hBc : Below N1 wa wc := Below.trans (hgr.out _ (by first | exact Gr.alloc1 hGb _ | exact Gr.drew (Gr.alloc1 hGb _))) hbc; have c9 := (Below.cell hBc (p := ⟨R3, 4, none⟩) hRw7).trans q4; have z9 := (Below.frozen hBc (show (⟨R3, 4, none⟩ : Addr).block < N1 from hRw7)).trans (qz 4)))
      all_goals
        have e0 := (Below.cell hBc (p := ⟨R3, 0, none⟩) hRw7).trans q0
        have e1 := (Below.cell hBc (p := ⟨R3, 1, none⟩) hRw7).trans q1
        have e2 := (Below.cell hBc (p := ⟨R3, 2, none⟩) hRw7).trans q2
        have e3 := (Below.cell hBc (p := ⟨R3, 3, none⟩) hRw7).trans q3
        have e5 := (Below.cell hBc (p := ⟨R3, 5, none⟩) hRw7).trans q7
        have e6 := (Below.cell hBc (p := ⟨R3, 6, none⟩) hRw7).trans q6
        have hRc : (Value.slice pc9 (r.fs.length + 1 + 1) capc9).ownBlock ≠ some R3 := fun e => by have := (World.ownsRow.lt hownc _ e).1; omega
        have oF := (OwnF.put hownc (a := ⟨R3, 4, none⟩) hRc (.slice pc9 (r.fs.length + 1 + 1) capc9)).at
        rw [show ((qHost, hereL) :: r.fs) ++ [(qLen, nl)] = wantF r by rw [← hnl]; rfl] at oF
        have oF' := Lib.hid oF
        have gF := Lib.hid (Gr.setCell (Below.trans g10.out (Below.mono hBc (by have := Below.size g5.out; omega))) (p := ⟨R3, 4, none⟩) (by show w.heap.size ≤ R3; have := Below.size g5.out; omega) (.slice pc9 (r.fs.length + 1 + 1) capc9))
        have k0 : (wc.setCell ⟨R3, 4, none⟩ (.slice pc9 (r.fs.length + 1 + 1) capc9)).cell? ⟨R3, 0, none⟩ = some (.string ⟨r.m.toArray⟩) := by simp [go_sem, e0]
        have k1 : (wc.setCell ⟨R3, 4, none⟩ (.slice pc9 (r.fs.length + 1 + 1) capc9)).cell? ⟨R3, 1, none⟩ = some (.string ⟨r.p.toArray⟩) := by simp [go_sem, e1]
        have k2 : (wc.setCell ⟨R3, 4, none⟩ (.slice pc9 (r.fs.length + 1 + 1) capc9)).cell? ⟨R3, 2, none⟩ = some (.string ⟨r.q.toArray⟩) := by simp [go_sem, e2]
        have k3 : (wc.setCell ⟨R3, 4, none⟩ (.slice pc9 (r.fs.length + 1 + 1) capc9)).cell? ⟨R3, 3, none⟩ = some (.int .i64 11) := by simp [go_sem, e3]
        have k4 : (wc.setCell ⟨R3, 4, none⟩ (.slice pc9 (r.fs.length + 1 + 1) capc9)).cell? ⟨R3, 4, none⟩ = some (.slice pc9 (r.fs.length + 1 + 1) capc9) := cell_set_same c9
        have k5 : (wc.setCell ⟨R3, 4, none⟩ (.slice pc9 (r.fs.length + 1 + 1) capc9)).cell? ⟨R3, 5, none⟩ = some (.string ⟨r.b.toArray⟩) := by simp [go_sem, e5]
        have k6 : (wc.setCell ⟨R3, 4, none⟩ (.slice pc9 (r.fs.length + 1 + 1) capc9)).cell? ⟨R3, 6, none⟩ = some (.bool false) := by simp [go_sem, e6]
        clear e0 e1 e2 e3 e5 e6 hRc oF q0 q1 q2 q3 q4 q5 q6 q7 qz hBc c9 z9 hownc hbc q4b q5b hGb hbb hRb o10 g10 hSx hgr hot hit
        generalize (wc.setCell ⟨R3, 4, none⟩ (.slice pc9 (r.fs.length + 1 + 1) capc9)) = wf at oF' gF k0 k1 k2 k3 k4 k5 k6 ⊢
        have hWl := Lib.hid (show (wantF r).length = r.fs.length + 1 + 1 by simp [wantF])
        have hn1 := Lib.hid (show nextQ { ps0 with inp := Z ++ (Z ++ behind) } = ({ ps0 with inp := Z ++ behind }, some (wantQ r)) by
          have h := stands_got (p := { ps0 with inp := Z ++ (Z ++ behind) }) (.fresh rfl) (hone.out (Z ++ behind))
          rw [h, List.drop_left])
        have hn2 := Lib.hid (show nextQ { ps0 with inp := Z ++ behind } = ({ ps0 with inp := behind }, some (wantQ r)) by
          have h := stands_got (p := { ps0 with inp := Z ++ behind }) (.fresh rfl) (hone.out behind)
          rw [h, List.drop_left])
        obtain ⟨Z2, hZ2⟩ : ∃ x, Z ++ Z = x := ⟨_, rfl⟩
        obtain ⟨Z3, hZ3⟩ : ∃ x, Z ++ (Z ++ behind) = x := ⟨_, rfl⟩
        have cz2 : (⟨Z.toArray⟩ : ByteArray) ++ ⟨Z.toArray⟩ = ⟨Z2.toArray⟩ := by rw [← hZ2]; exact cat_mk Z Z
        have cz3 : (⟨Z2.toArray⟩ : ByteArray) ++ ⟨behind.toArray⟩ = ⟨Z3.toArray⟩ := by rw [← hZ3, ← hZ2, ← List.append_assoc]; exact cat_mk (Z ++ Z) behind
        have lz2 : Z2.length ≤ 14000 := by have := hbl.out; rw [← hZ2]; simp; omega
        have lz3 := Lib.hid (show Z3.length ≤ 15000 by have := hbl.out; rw [← hZ3]; simp; omega)
        have lz4 := Lib.hid (show (Z ++ behind).length ≤ 15000 by have := hbl.out; simp; omega)
        have zz1 : ¬ 9223372036854775807 < Z.length + Z.length := by have := hbl.out; omega
        have zz2 : ¬ 9223372036854775807 < Z2.length + behind.length := by omega
        rw [hZ3] at hn1
        clear hZ2 hZ3
        go_wp2_with fail
        refine (PsL.new (w := wf) (hG'.out.gr gF.out) (Gr.refl wf)).mono ?_
        rintro e w20 ⟨rfl, h20, hg20⟩
        have h20' := Lib.hid h20
        clear h20 hg20
        obtain ⟨B, hB⟩ : ∃ x, wf.heap.size = x := ⟨_, rfl⟩
        rw [hB] at h20' ⊢
        clear hB
        go_wp2_with fail
        refine (h20'.out.feed Z3 (by have := lz3.out; show 0 + Z3.length ≤ _; omega)).mono ?_
        rintro e w21 ⟨rfl, T21, h21, _, _⟩
        rw [feed0] at h21
        have h21' := Lib.hid h21
        clear h21 h20' cz2 cz3 zz1 zz2 lz2
        go_wp2_with fail
        refine (h21'.out.next (hG'.out.gr (gF.out.trans h21'.out.g)) _ _ hn1.out (by have := lz3.out; show Z3.length + 0 ≤ _; omega)).mono ?_
        rintro e w22 ⟨rv, T22, rfl, hF, hO, hlt, h22, _, _⟩
        have hFa := Lib.hid hF
        have hOa := Lib.hid hO
        obtain ⟨pa1, ca1, rfl, _⟩ := hF
        rw [show (rqO (some (wantQ r))).fs.length = r.fs.length + 1 + 1 from hWl.out] at hFa hOa ⊢
        rw [show (rqO (some (wantQ r))).V (.slice pa1 (r.fs.length + 1 + 1) ca1) = .agg #[.string ⟨r.m.toArray⟩, .string ⟨r.p.toArray⟩, .string ⟨r.q.toArray⟩, .int .i64 11, .slice pa1 (r.fs.length + 1 + 1) ca1, .string ⟨r.b.toArray⟩, .bool false] from rfl, show (some (wantQ r)).isSome = true from rfl]
        have gA := Gr.alloc w22 (.cells #[.string ⟨r.m.toArray⟩, .string ⟨r.p.toArray⟩, .string ⟨r.q.toArray⟩, .int .i64 11, .slice pa1 (r.fs.length + 1 + 1) ca1, .string ⟨r.b.toArray⟩, .bool false] 27)
        have y0 := cell_new7 w22 [.string ⟨r.m.toArray⟩, .string ⟨r.p.toArray⟩, .string ⟨r.q.toArray⟩, .int .i64 11, .slice pa1 (r.fs.length + 1 + 1) ca1, .string ⟨r.b.toArray⟩, .bool false] 27 0 _ rfl
        have y1 := cell_new7 w22 [.string ⟨r.m.toArray⟩, .string ⟨r.p.toArray⟩, .string ⟨r.q.toArray⟩, .int .i64 11, .slice pa1 (r.fs.length + 1 + 1) ca1, .string ⟨r.b.toArray⟩, .bool false] 27 1 _ rfl
        have y2 := cell_new7 w22 [.string ⟨r.m.toArray⟩, .string ⟨r.p.toArray⟩, .string ⟨r.q.toArray⟩, .int .i64 11, .slice pa1 (r.fs.length + 1 + 1) ca1, .string ⟨r.b.toArray⟩, .bool false] 27 2 _ rfl
        have y3 := cell_new7 w22 [.string ⟨r.m.toArray⟩, .string ⟨r.p.toArray⟩, .string ⟨r.q.toArray⟩, .int .i64 11, .slice pa1 (r.fs.length + 1 + 1) ca1, .string ⟨r.b.toArray⟩, .bool false] 27 3 _ rfl
        have y4 := cell_new7 w22 [.string ⟨r.m.toArray⟩, .string ⟨r.p.toArray⟩, .string ⟨r.q.toArray⟩, .int .i64 11, .slice pa1 (r.fs.length + 1 + 1) ca1, .string ⟨r.b.toArray⟩, .bool false] 27 4 _ rfl
        have y5 := cell_new7 w22 [.string ⟨r.m.toArray⟩, .string ⟨r.p.toArray⟩, .string ⟨r.q.toArray⟩, .int .i64 11, .slice pa1 (r.fs.length + 1 + 1) ca1, .string ⟨r.b.toArray⟩, .bool false] 27 5 _ rfl
        have y6 := cell_new7 w22 [.string ⟨r.m.toArray⟩, .string ⟨r.p.toArray⟩, .string ⟨r.q.toArray⟩, .int .i64 11, .slice pa1 (r.fs.length + 1 + 1) ca1, .string ⟨r.b.toArray⟩, .bool false] 27 6 _ rfl
        have hlt3 := Lib.hid (show ¬ T22 w22.heap.size from fun e => Nat.lt_irrefl _ (h22.lt _ e))
        have h23' := Lib.hid (h22.gr gA)
        have hFa4 := Lib.hid (hFa.out.gr gA)
        clear hO hlt h22 h21' hFa
        go_upto_region 19 with (fail)
        obtain ⟨Ra, hRa⟩ : ∃ x, w22.heap.size = x := ⟨_, rfl⟩
        rw [hRa] at y0 y1 y2 y3 y4 y5 y6 hlt3 ⊢
        generalize (w22.alloc (.cells #[.string ⟨r.m.toArray⟩, .string ⟨r.p.toArray⟩, .string ⟨r.q.toArray⟩, .int .i64 11, .slice pa1 (r.fs.length + 1 + 1) ca1, .string ⟨r.b.toArray⟩, .bool false] 27)) = w23 at y0 y1 y2 y3 y4 y5 y6 h23' hFa4 ⊢
        clear gA hRa
        go_wp2_with fail
        refine (h23'.out.next (hG'.out.gr (gF.out.trans h23'.out.g)) _ _ hn2.out (by have := lz4.out; show (Z ++ behind).length + 0 ≤ _; omega)).mono ?_
        rintro e w24 ⟨rv, T24, rfl, hF, hO, hlt, h24, hC24, _⟩
        have hFb := Lib.hid hF
        obtain ⟨pb1, cb1, rfl, _⟩ := hF
        rw [show (rqO (some (wantQ r))).fs.length = r.fs.length + 1 + 1 from hWl.out] at hFb ⊢
        rw [show (rqO (some (wantQ r))).V (.slice pb1 (r.fs.length + 1 + 1) cb1) = .agg #[.string ⟨r.m.toArray⟩, .string ⟨r.p.toArray⟩, .string ⟨r.q.toArray⟩, .int .i64 11, .slice pb1 (r.fs.length + 1 + 1) cb1, .string ⟨r.b.toArray⟩, .bool false] from rfl, show (some (wantQ r)).isSome = true from rfl]
        have hFa5 := Lib.hid (hFa4.out.ch hC24 hOa.out)
        replace y0 := (hC24.cell (cell_lt y0) hlt3.out).trans y0
        replace y1 := (hC24.cell (cell_lt y1) hlt3.out).trans y1
        replace y2 := (hC24.cell (cell_lt y2) hlt3.out).trans y2
        replace y3 := (hC24.cell (cell_lt y3) hlt3.out).trans y3
        replace y4 := (hC24.cell (cell_lt y4) hlt3.out).trans y4
        replace y5 := (hC24.cell (cell_lt y5) hlt3.out).trans y5
        replace y6 := (hC24.cell (cell_lt y6) hlt3.out).trans y6
        have gA := Gr.alloc w24 (.cells #[.string ⟨r.m.toArray⟩, .string ⟨r.p.toArray⟩, .string ⟨r.q.toArray⟩, .int .i64 11, .slice pb1 (r.fs.length + 1 + 1) cb1, .string ⟨r.b.toArray⟩, .bool false] 27)
        have z0 := cell_new7 w24 [.string ⟨r.m.toArray⟩, .string ⟨r.p.toArray⟩, .string ⟨r.q.toArray⟩, .int .i64 11, .slice pb1 (r.fs.length + 1 + 1) cb1, .string ⟨r.b.toArray⟩, .bool false] 27 0 _ rfl
        have z1 := cell_new7 w24 [.string ⟨r.m.toArray⟩, .string ⟨r.p.toArray⟩, .string ⟨r.q.toArray⟩, .int .i64 11, .slice pb1 (r.fs.length + 1 + 1) cb1, .string ⟨r.b.toArray⟩, .bool false] 27 1 _ rfl
        have z2 := cell_new7 w24 [.string ⟨r.m.toArray⟩, .string ⟨r.p.toArray⟩, .string ⟨r.q.toArray⟩, .int .i64 11, .slice pb1 (r.fs.length + 1 + 1) cb1, .string ⟨r.b.toArray⟩, .bool false] 27 2 _ rfl
        have z3 := cell_new7 w24 [.string ⟨r.m.toArray⟩, .string ⟨r.p.toArray⟩, .string ⟨r.q.toArray⟩, .int .i64 11, .slice pb1 (r.fs.length + 1 + 1) cb1, .string ⟨r.b.toArray⟩, .bool false] 27 3 _ rfl
        have z4 := cell_new7 w24 [.string ⟨r.m.toArray⟩, .string ⟨r.p.toArray⟩, .string ⟨r.q.toArray⟩, .int .i64 11, .slice pb1 (r.fs.length + 1 + 1) cb1, .string ⟨r.b.toArray⟩, .bool false] 27 4 _ rfl
        have z5 := cell_new7 w24 [.string ⟨r.m.toArray⟩, .string ⟨r.p.toArray⟩, .string ⟨r.q.toArray⟩, .int .i64 11, .slice pb1 (r.fs.length + 1 + 1) cb1, .string ⟨r.b.toArray⟩, .bool false] 27 5 _ rfl
        have z6 := cell_new7 w24 [.string ⟨r.m.toArray⟩, .string ⟨r.p.toArray⟩, .string ⟨r.q.toArray⟩, .int .i64 11, .slice pb1 (r.fs.length + 1 + 1) cb1, .string ⟨r.b.toArray⟩, .bool false] 27 6 _ rfl
        replace y0 := gA.cell y0
        replace y1 := gA.cell y1
        replace y2 := gA.cell y2
        replace y3 := gA.cell y3
        replace y4 := gA.cell y4
        replace y5 := gA.cell y5
        replace y6 := gA.cell y6
        have h25' := Lib.hid (h24.gr gA)
        have hFa6 := Lib.hid (hFa5.out.gr gA)
        have hFb6 := Lib.hid (hFb.out.gr gA)
        clear hO hlt h24 hC24 hFa4 hFa5 hFb h23' hlt3 hOa
        go_upto_region 20 with (fail)
        obtain ⟨Rb, hRb⟩ : ∃ x, w24.heap.size = x := ⟨_, rfl⟩
        rw [hRb] at z0 z1 z2 z3 z4 z5 z6 ⊢
        generalize (w24.alloc (.cells #[.string ⟨r.m.toArray⟩, .string ⟨r.p.toArray⟩, .string ⟨r.q.toArray⟩, .int .i64 11, .slice pb1 (r.fs.length + 1 + 1) cb1, .string ⟨r.b.toArray⟩, .bool false] 27)) = w25 at y0 y1 y2 y3 y4 y5 y6 z0 z1 z2 z3 z4 z5 z6 h25' hFa6 hFb6 ⊢
        clear gA hRb
        replace k0 := h25'.out.g.cell k0
        replace k1 := h25'.out.g.cell k1
        replace k2 := h25'.out.g.cell k2
        replace k3 := h25'.out.g.cell k3
        replace k4 := h25'.out.g.cell k4
        replace k5 := h25'.out.g.cell k5
        replace k6 := h25'.out.g.cell k6
        have hFw := Lib.hid (oF'.out.gr h25'.out.g)
        have hl6 : (wantQ r).fs.length ≤ 1000000 := by
          have e : (wantQ r).fs.length = r.fs.length + 1 + 1 := hWl.out
          have := hM'.out.n
          omega
        have hs1 := Lib.hid (show Calls Tryz.prog 18 #[.agg #[.string ⟨r.m.toArray⟩, .string ⟨r.p.toArray⟩, .string ⟨r.q.toArray⟩, .int .i64 11, .slice pa1 (r.fs.length + 1 + 1) ca1, .string ⟨r.b.toArray⟩, .bool false], .agg #[.string ⟨r.m.toArray⟩, .string ⟨r.p.toArray⟩, .string ⟨r.q.toArray⟩, .int .i64 11, .slice pc9 (r.fs.length + 1 + 1) capc9, .string ⟨r.b.toArray⟩, .bool false]] w25 fun e w' => e = .returned (.bool true) ∧ Gr w25 w' from same9_any (wantQ r) _ _ w25 hFa6.out hFw.out hl6)
        have hs2 := Lib.hid (fun W (hg : Gr w25 W) => (show Calls Tryz.prog 18 #[.agg #[.string ⟨r.m.toArray⟩, .string ⟨r.p.toArray⟩, .string ⟨r.q.toArray⟩, .int .i64 11, .slice pb1 (r.fs.length + 1 + 1) cb1, .string ⟨r.b.toArray⟩, .bool false], .agg #[.string ⟨r.m.toArray⟩, .string ⟨r.p.toArray⟩, .string ⟨r.q.toArray⟩, .int .i64 11, .slice pc9 (r.fs.length + 1 + 1) capc9, .string ⟨r.b.toArray⟩, .bool false]] W fun e w' => e = .returned (.bool true) ∧ Gr W w' from same9_any (wantQ r) _ _ W (hFb6.out.gr hg) (hFw.out.gr hg) hl6))
        clear hl6
        go_wp2_with fail
        refine hs1.out.mono ?_
        rintro e w26 ⟨rfl, hb⟩
        have h26' := Lib.hid (h25'.out.gr hb)
        have hs3 := Lib.hid (hs2.out _ hb)
        replace z0 := hb.cell z0
        replace z1 := hb.cell z1
        replace z2 := hb.cell z2
        replace z3 := hb.cell z3
        replace z4 := hb.cell z4
        replace z5 := hb.cell z5
        replace z6 := hb.cell z6
        replace k0 := hb.cell k0
        replace k1 := hb.cell k1
        replace k2 := hb.cell k2
        replace k3 := hb.cell k3
        replace k4 := hb.cell k4
        replace k5 := hb.cell k5
        replace k6 := hb.cell k6
        clear hb hs1 hs2 h25' y0 y1 y2 y3 y4 y5 y6
        go_wp2_with fail
        refine hs3.out.mono ?_
        rintro e w27 ⟨rfl, hb⟩
        have h27' := Lib.hid (h26'.out.gr hb)
        clear hb hs3 h26' z0 z1 z2 z3 z4 z5 z6 k0 k1 k2 k3 k4 k5 k6
        go_wp2_with fail
        refine (h27'.out.rest behind ps0 (by show restQ { ps0 with inp := behind } = _; rfl) (by show behind.length + 0 ≤ _; omega)).mono ?_
        rintro e w28 ⟨rfl, T28, h28, _, _⟩
        have hgf := Lib.hid (gF.out.trans h28.g)
        clear h28 h27'
        go_wp2
        go_ret
        exact ⟨rfl, hgf.out⟩
end Go.Proofs.YtpncfeaaffgkfaaGreatDoor
