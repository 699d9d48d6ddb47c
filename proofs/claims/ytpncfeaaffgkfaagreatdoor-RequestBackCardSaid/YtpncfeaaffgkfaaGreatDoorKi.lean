/-
  Walks over package chunk: a byte of a line, whatever it is.
  Walks over package chunk: feeding.
  The walk over chunk's awake.
-/
import Derived.Test.YtpncfeaaffgkfaaGreatDoorKh1
import Derived.Test.YtpncfeaaffgkfaaGreatDoorKh2
import Derived.Test.YtpncfeaaffgkfaaGreatDoorKh3
import Derived.Test.YtpncfeaaffgkfaaGreatDoorKh4
import Derived.Deep.AppendLies
import Derived.Deep.RegionLaw
namespace Go.Proofs.YtpncfeaaffgkfaaGreatDoor
open Go.RowKit

theorem cletter_any (b : Nat) (c : Ck) (d : UInt8) (lv dv : Value) (W : World) (hG : G W) (hb : 7 < b) (h : Rd b W c lv dv) (hok : CkOk c) (hs : c.st = 0 ∨ c.st = 3) :
    Calls Tryz.prog 81 #[.pointer (some ⟨b, 0, none⟩), .int .u8 d.toNat] W fun e W' => e = .returned (.tuple #[]) ∧ RdPost b lv dv W (letterC c d) W' := by
  by_cases hl : c.line = []
  · rcases hs with hs | hs
    · cases hd : d == 10
      · exact letter_ae0 b c d lv dv W hG hb h hok hl hs hd
      · exact letter_we0 b c d lv dv W hG hb h hok hl hs hd
    · by_cases hm : 2048 < c.tail + 1
      · exact letter_te3 b c d lv dv W hG hb h hok hl hs hm
      · cases hd : d == 10
        · exact letter_ae3 b c d lv dv W hG hb h hok hl hs hd hm
        · exact letter_we3 b c d lv dv W hG hb h hok hl hs hd hm
  · obtain ⟨L, x, hl⟩ : ∃ L x, c.line = L ++ [x] := ⟨c.line.dropLast, c.line.getLast hl, (List.dropLast_concat_getLast hl).symm⟩
    rcases hs with hs | hs
    · cases hc : crB c.line
      · cases hd : d == 10
        · by_cases h2 : c.line.length = 2048
          · exact letter_mn0 b c d lv dv W hG hb h hok L x hl hs hc hd h2
          · exact letter_an0 b c d lv dv W hG hb h hok L x hl hs hc hd h2
        · exact letter_wnf0 b c d lv dv W hG hb h hok L x hl hs hc hd
      · cases hd : d == 10
        · exact letter_wnt0 b c d lv dv W hG hb h hok L x hl hs hc hd
        · exact letter_ln0 b c d lv dv W hG hb h hok L x hl hs hc hd
    · by_cases hm : 2048 < c.tail + 1
      · cases hc : crB c.line
        · exact letter_tnf3 b c d lv dv W hG hb h hok L x hl hs hc hm
        · exact letter_tnt3 b c d lv dv W hG hb h hok L x hl hs hc hm
      · cases hc : crB c.line
        · cases hd : d == 10
          · exact letter_an3 b c d lv dv W hG hb h hok L x hl hs hc hd hm
          · exact letter_wnf3 b c d lv dv W hG hb h hok L x hl hs hc hd hm
        · cases hd : d == 10
          · exact letter_wnt3 b c d lv dv W hG hb h hok L x hl hs hc hd hm
          · exact letter_ln3 b c d lv dv W hG hb h hok L x hl hs hc hd hm
end Go.Proofs.YtpncfeaaffgkfaaGreatDoor
namespace Go.Proofs.YtpncfeaaffgkfaaGreatDoor
open Go.RowKit
attribute [local go_sem] Oper.semAt_some

theorem step_append_string {P : Program} {w : World} {ops : Array Oper} {o : Oper} {a : Act} {K : Act → World → Prop} {Q : Exit → Act → World → Prop} {E : Prop} (hgd : o.guard = none) (s x : Operand) (t u : TypeId)
    (ho : o.op = .call { callee := .builtin .append, args := #[s, x], argTypes := #[t, u] })
    (base : Nat) (e : TypeId) (i : TypeInfo) (ht : P.underlying t = some (.slice e)) (hu : P.underlying u = some .string) (hi : P.info? e = some i) (hz : i.zero = some (.int .u8 0)) (hsize : i.size = 1) (hby : i.bytes = 1)
    (v : Value) (n : Nat) (xs : List Value) (hs : a.eval s = v) (hown : w.ownsRow base e 1 v n xs) (str : ByteArray) (hx : a.eval x = .string str) (h0 : 0 < str.size)
    (h63 : n + str.size ≤ maxLen) (hbytes : n + str.size ≤ 140737488355328) (hbase : base ≤ w.heap.size) (N : Nat) (hN : n + str.size = N)
    (h : ∀ g cap w', w'.ownsRow base e 1 (.slice (some ⟨g, 0, none⟩) N cap) N (xs ++ Lib.strCells str) → w.grownBy w' v.ownBlock → (v.ownBlock = some g ∨ g = w.heap.size) → K (a.put o.dst (.slice (some ⟨g, 0, none⟩) N cap)) w') :
    if Region.wanted o (yielded ops a.tmps) = true then Oper.wp P o a w K Q else E := by
  have hw : Region.wanted o (yielded ops a.tmps) = true := by simp [Region.wanted, hgd]
  rw [if_pos hw]
  obtain ⟨v', w', hr, h2, h3, h5⟩ := append_string_at (P := P) w base t u o.type e i ht hu hi hz hsize hby v n xs hown str h63 hbytes hbase
  rw [hN] at h2
  obtain ⟨g, cap, hv, _, _⟩ := World.ownsRow.form h2 (by omega)
  subst hv
  unfold Oper.wp execOp
  simp only [ho, resolve, invoke, builtin, Sem.run_bind, Sem.run_pure, Result.andThen_ok, List.map_toArray, List.map_cons, List.map_nil, hs, hx, hr]
  exact h g cap w' h2 h3 (h5.imp (fun e => e.symm) (fun e => Option.some.inj e))

/-- Feeding: k bytes have been read. -/
def FeedRel (b : Nat) (lv dv : Value) (W : World) (c : Ck) (s : List UInt8) (k : Nat) (wr : World) : Prop :=
  ∃ r lv' dv', Rd b wr r lv' dv' ∧ Ch (Fp b lv dv) W wr ∧ (∀ j, Fp b lv' dv' j → Fp b lv dv j ∨ W.heap.size ≤ j) ∧ CkOk r ∧ feedC c s = (k + (feedC r (s.drop k)).1, (feedC r (s.drop k)).2)
theorem FeedRel.next {b : Nat} {lv dv lv' dv' : Value} {W wr w2 : World} {c r r2 : Ck} {s : List UInt8} {k m : Nat} (hC : Ch (Fp b lv dv) W wr) (hS : ∀ j, Fp b lv' dv' j → Fp b lv dv j ∨ W.heap.size ≤ j)
    (hp : RdPost b lv' dv' wr r2 w2) (hok : CkOk r2) (he : feedC c s = (k + (feedC r (s.drop k)).1, (feedC r (s.drop k)).2)) (hs : feedC r (s.drop k) = (m + (feedC r2 (s.drop (k + m))).1, (feedC r2 (s.drop (k + m))).2)) : FeedRel b lv dv W c s (k + m) w2 := by
  obtain ⟨lv2, dv2, h1, h2, h3⟩ := RdPost.after hC hS hp
  refine ⟨r2, lv2, dv2, h1, h2, h3, hok, ?_⟩
  rw [he, hs]; simp; omega
theorem feed_one {r : Ck} {s : List UInt8} {k : Nat} {d : UInt8} (hk : k < s.length) (hd : s[k] = d) (h4 : r.st ≠ 4) : feedC r (s.drop k) = (1 + (feedC (stepC r d) (s.drop (k + 1))).1, (feedC (stepC r d) (s.drop (k + 1))).2) := by
  rw [List.drop_eq_getElem_cons hk, hd, feed_cons h4, Nat.add_comm]
theorem feed_many {r : Ck} {s : List UInt8} {k m : Nat} (h1 : r.st = 1) (h0 : 1 ≤ m) (hl : m ≤ r.left) (hk : k + m ≤ s.length) :
    feedC r (s.drop k) = (m + (feedC { r with data := r.data ++ (s.drop k).take m, left := r.left - m, st := if r.left = m then 2 else 1 } (s.drop (k + m))).1, (feedC { r with data := r.data ++ (s.drop k).take m, left := r.left - m, st := if r.left = m then 2 else 1 } (s.drop (k + m))).2) := by
  have hl2 : ((s.drop k).take m).length = m := by rw [List.length_take, List.length_drop]; omega
  have := feed_app ((s.drop k).take m) ((s.drop k).drop m) r
  rw [List.take_append_drop] at this
  rw [this, feed_data _ h1 (by omega) (by omega), hl2, List.drop_drop]
theorem many_ok {r : Ck} {a : List UInt8} (h : CkOk r) (h1 : r.st = 1) (h0 : 1 ≤ a.length) (hl : a.length ≤ r.left) : CkOk { r with data := r.data ++ a, left := r.left - a.length, st := if r.left = a.length then 2 else 1 } := by
  have := feed_ok a h
  rw [feed_data a h1 h0 hl] at this
  exact this

theorem Rd.grown {b : Nat} {W w9 : World} {c : Ck} {lv dv v' : Value} {a : List UInt8} (hR : Rd b W c lv dv) (h0 : 0 < a.length) {N : Nat} (hN : c.data.length + a.length = N) (hown : w9.ownsRow (b + 1) 5 1 v' N (bcells c.data ++ Lib.strCells ⟨a.toArray⟩)) (hgrow : W.grownBy w9 dv.ownBlock) (hat : v'.ownBlock = dv.ownBlock ∨ v'.ownBlock = some W.heap.size) :
    (Rd b (w9.setCell ⟨b, 3, none⟩ v') { c with data := c.data ++ a } lv v' ∧ Ch (Fp b lv dv) W (w9.setCell ⟨b, 3, none⟩ v') ∧ ∀ j, Fp b lv v' j → Fp b lv dv j ∨ W.heap.size ≤ j) ∧
    w9.cell? ⟨b, 3, none⟩ = some dv ∧ w9.frozen? ⟨b, 3, none⟩ = false ∧ w9.cell? ⟨b, 2, none⟩ = some (.int .i64 c.left) ∧ w9.frozen? ⟨b, 2, none⟩ = false ∧ w9.cell? ⟨b, 0, none⟩ = some (.int .i64 c.st) ∧ w9.frozen? ⟨b, 0, none⟩ = false := by
  have hown2 : OwnB (b + 1) w9 v' (c.data ++ a) := by
    unfold OwnB; rw [List.length_append, bcells_app, ← strCells_eq a, hN]; exact hown
  obtain ⟨g9, cap9, hv9, _⟩ := OwnB.row hown2 (by simp; omega)
  have hc9 : Ch (fun j => dv.ownBlock = some j) W w9 := ch_grown hgrow
  have hat2 : v'.ownBlock = dv.ownBlock ∨ ∀ j, v'.ownBlock = some j → W.heap.size ≤ j := by
    rcases hat with e | e
    · exact .inl e
    · refine .inr fun j hj => ?_
      rw [e] at hj; injection hj with hj; omega
  have hb9 : ¬ (dv.ownBlock = some b) := fun e => by have := hR.d.lt b e; omega
  refine ⟨⟨hR.redata hc9 hown2 hat2, (hc9.mono (fun j hj => .inr (.inr hj))).trans (fp_set _ _ _), fun j hj => ?_⟩,
    (hc9.cell (p := ⟨b, 3, none⟩) hR.lt hb9).trans hR.c3, (hc9.frozen (p := ⟨b, 3, none⟩) hR.lt hb9).trans (hR.fz 3), (hc9.cell (p := ⟨b, 2, none⟩) hR.lt hb9).trans hR.c2,
    (hc9.frozen (p := ⟨b, 2, none⟩) hR.lt hb9).trans (hR.fz 2), (hc9.cell (p := ⟨b, 0, none⟩) hR.lt hb9).trans hR.c0, (hc9.frozen (p := ⟨b, 0, none⟩) hR.lt hb9).trans (hR.fz 0)⟩
  rcases hj with hj | hj | hj
  · exact .inl (.inl hj)
  · exact .inl (.inr (.inl hj))
  · rcases hat2 with e | e
    · exact .inl (.inr (.inr (e ▸ hj)))
    · exact .inr (e j hj)

set_option maxHeartbeats 8000000 in
set_option maxRecDepth 20000 in
theorem cfeed_any (b : Nat) (c : Ck) (s : List UInt8) (lv dv : Value) (W : World) (hG : G W) (hb : 7 < b) (h : Rd b W c lv dv) (hok : CkOk c) (hl : s.length ≤ 1000000) :
    Calls Tryz.prog 44 #[.pointer (some ⟨b, 0, none⟩), .string ⟨s.toArray⟩] W fun e W' => e = .returned (.int .i64 (feedC c s).1) ∧ RdPost b lv dv W (feedC c s).2 W' := by
  obtain ⟨i0, hi, hz0, hz1, hz2⟩ := info_parts infoU8
  have h' := Lib.hid h
  have hG' := Lib.hid hG
  have hb' := Lib.hid hb
  have hst := Lib.hid (show FeedRel b lv dv W c s 0 W from ⟨c, lv, dv, h, Ch.refl _ _, fun _ hj => .inl hj, hok, by simp⟩)
  have hfp := Lib.hid (fun j => h.fp_lt j)
  have hmx := Lib.hid (cell_lt hG.max.choose_spec)
  clear h hG hb hok
  go_enter Tryz.func44, Tryz.ntmps44
  go_wp2
  go_loopw [5] (fun i wr => ∃ k : Nat, k ≤ s.length ∧ i = .int .i64 k ∧ FeedRel b lv dv W c s k wr) (fun i _ => s.length - (intOf i).toNat)
  case atStart => exact ⟨0, Nat.zero_le _, rfl, hst.out⟩
  case round =>
    obtain ⟨k, hk, rfl, r, lv', dv', hR, hC, hS, hok, he⟩ := hrel
    have hGr := Lib.hid (hG'.out.ch hC (fun g hg e => by
      have h1 := hb'.out; have h2 := hfp.out _ e; omega))
    have hR' := Lib.hid hR
    have hC' := Lib.hid hC
    have hS' := Lib.hid hS
    have hok' := Lib.hid hok
    have he' := Lib.hid he
    have q0 := hR.c0
    by_cases hkl : k < s.length
    · by_cases h4 : r.st = 4
      · rw [h4] at q0
        have hfin := Lib.hid (show feedC c s = (k, r) by rw [he, feed_over h4]; rfl)
        clear hR hC hS hok he h4
        go_wp2
        refine bodyPost_ret (v := .int .i64 k) (by simp [results, Tryz.results44, go_sem]) rfl ⟨by rw [hfin.out], ?_⟩
        rw [hfin.out]
        exact ⟨lv', dv', hR'.out, hC'.out, hS'.out⟩
      · obtain ⟨d, hd⟩ : ∃ d, (⟨s.toArray⟩ : ByteArray)[k]'(by rw [size_mk]; exact hkl) = d := ⟨_, rfl⟩
        have hnx := Lib.hid (feed_one hkl (show s[k] = d from hd) h4)
        have hokd := Lib.hid (step_ok d hok h4)
        by_cases h1 : r.st = 1
        · rw [h1] at q0
          obtain ⟨o1, o2, o3⟩ := hok.one h1
          obtain ⟨m, hm⟩ : ∃ m, min r.left (s.length - k) = m := ⟨_, rfl⟩
          have hm0 : 1 ≤ m := by omega
          have hml : m ≤ r.left := by omega
          have hmk : k + m ≤ s.length := by omega
          have hmin : min (r.left : Int) ((s.length : Int) - k) = m := by omega
          obtain ⟨a, ha⟩ : ∃ a, (s.drop k).take m = a := ⟨_, rfl⟩
          have hal : a.length = m := by rw [← ha, List.length_take, List.length_drop]; omega
          have hx : (⟨s.toArray⟩ : ByteArray).extract k (k + m) = ⟨a.toArray⟩ := by rw [extract_mk, ← ha]; simp [List.drop_take]
          have hnx2 := feed_many h1 hm0 hml hmk
          rw [ha] at hnx2
          have hok2 := many_ok (a := a) hok h1 (by omega) (by omega)
          rw [hal] at hok2
          have q2 := hR.c2
          have q3 := hR.c3
          obtain ⟨pd, cd, hdv⟩ := ownsRow_slice hR.d
          obtain ⟨km, hkm⟩ : ∃ km, k + m = km := ⟨_, rfl⟩
          obtain ⟨lm, hlm⟩ : ∃ lm, r.left - m = lm := ⟨_, rfl⟩
          have hkmI : (k : Int) + m = km := by omega
          have hlmI : (r.left : Int) - m = lm := by omega
          have hkm1 : (km : Int) ≤ s.length := by omega
          have hkm2 : (k : Int) ≤ km := by omega
          have hkmB : (km : Int) ≤ 1000000 := by omega
          have hkm2n : k ≤ km := by omega
          have hwr : IntKind.i64.wrap (km : Int) = km := by unfold IntKind.wrap; simp [IntKind.bits, IntKind.signed]; omega
          have hlo : (r.left : Int) ≤ 4096 := by omega
          have hlmB : (lm : Int) ≤ 4096 := by omega
          rw [hkm] at hx
          rw [hlm] at hnx2 hok2
          have hnx3 := Lib.hid hnx2
          have hok3 := Lib.hid hok2
          have hm0' : 1 ≤ (m : Int) := by omega
          have hmB : (m : Int) ≤ 4096 := by omega
          have hkm' := Lib.hid hkm
          have hkms : km ≤ s.length := by omega
          have hdl := Lib.hid (show r.data.length ≤ 4096 from hok.data)
          have hal' := Lib.hid hal
          obtain ⟨n9, hn9⟩ : ∃ n9, r.data.length + a.length = n9 := ⟨_, rfl⟩
          have hn9' := Lib.hid hn9
          have hRd := Lib.hid (hR.ch (Ch.drew (fun _ => False) wr) (fun _ h => h.elim))
          have hblr := hR.lt
          have hRlt := Lib.hid hblr
          rw [hdv] at q3
          have hdv' := Lib.hid hdv
          have h1' := Lib.hid h1
          have hkI : (k : Int) < s.length := by omega
          have hal0 := Lib.hid (show 0 < a.length by omega)
          clear hR hC hS hok he h4 hm ha hnx2 hok2 hdv hkm o2 o3 hnx hokd hal hn9
          by_cases hz : lm = 0
          · have hlz : ((lm : Int) == 0) = true := by rw [beq_iff_eq]; omega
            have hH2 := Lib.hid (show ({ r with data := r.data ++ a, left := lm, st := if r.left = m then 2 else 1 } : Ck) = { { { r with data := r.data ++ a } with left := lm } with st := 2 } from by rw [if_pos (by omega)])
            clear hz hlm h1
            go_wp2_with fail
            go_region_law (refine step_append_string (by rfl) (.tmp 44) (.tmp 50) 40 9 (by rfl) (b + 1) 5 i0 Tryz.underlying40 Tryz.underlying9 hi hz0 hz1 hz2 dv' r.data.length (bcells r.data) (by exact hdv'.out.symm) hRd.out.d ⟨a.toArray⟩ (by rfl) (by rw [size_mk]; exact hal0.out) (by rw [size_mk, hal'.out]; have := hdl.out; unfold maxLen; omega) (by rw [size_mk, hal'.out]; have := hdl.out; omega) hRlt.out n9 (by rw [size_mk]; exact hn9'.out) ?_; intro g9 cap9 w9 hown hgrow hat; obtain ⟨hp, u3, y3, u2, y2, u0, y0⟩ := hRd.out.grown hal0.out hn9'.out hown hgrow (hat.imp (fun e => e.symm) (fun e => congrArg some e)); rw [h1'.out] at u0; have hp' := Lib.hid hp; clear hp hown hgrow hat)
            go_wp2
            go_round
            case rel =>
              refine ⟨km, hkms, rfl, ?_⟩
              obtain ⟨x1, x2, x3⟩ := hp'.out
              have hpost : RdPost b lv' dv' wr { r with data := r.data ++ a, left := lm, st := if r.left = m then 2 else 1 } (((w9.setCell ⟨b, 3, none⟩ (.slice (some ⟨g9, 0, none⟩) n9 cap9)).setCell ⟨b, 2, none⟩ (.int .i64 lm)).setCell ⟨b, 0, none⟩ (.int .i64 2)) := by
                rw [hH2.out]; exact RdPost.after (Ch.drew (Fp b lv' dv') wr) fp_self ⟨lv', _, (x1.set2 lm).set0 2, x2.trans ((fp_set _ _ _).trans (fp_set _ _ _)), x3⟩
              have := FeedRel.next hC'.out hS'.out hpost hok3.out he'.out (by rw [hnx3.out, hkm'.out])
              rwa [hkm'.out] at this
            case measure => simp [intOf]; omega
          · have hlz : ((lm : Int) == 0) = false := beq_eq_false_iff_ne.2 (by omega)
            have hH2 := Lib.hid (show ({ r with data := r.data ++ a, left := lm, st := if r.left = m then 2 else 1 } : Ck) = { { r with data := r.data ++ a } with left := lm } from by rw [if_neg (by omega), h1])
            clear hz hlm h1
            go_wp2_with fail
            go_region_law (refine step_append_string (by rfl) (.tmp 44) (.tmp 50) 40 9 (by rfl) (b + 1) 5 i0 Tryz.underlying40 Tryz.underlying9 hi hz0 hz1 hz2 dv' r.data.length (bcells r.data) (by exact hdv'.out.symm) hRd.out.d ⟨a.toArray⟩ (by rfl) (by rw [size_mk]; exact hal0.out) (by rw [size_mk, hal'.out]; have := hdl.out; unfold maxLen; omega) (by rw [size_mk, hal'.out]; have := hdl.out; omega) hRlt.out n9 (by rw [size_mk]; exact hn9'.out) ?_; intro g9 cap9 w9 hown hgrow hat; obtain ⟨hp, u3, y3, u2, y2, u0, y0⟩ := hRd.out.grown hal0.out hn9'.out hown hgrow (hat.imp (fun e => e.symm) (fun e => congrArg some e)); rw [h1'.out] at u0; have hp' := Lib.hid hp; clear hp hown hgrow hat)
            go_wp2
            go_round
            case rel =>
              refine ⟨km, hkms, rfl, ?_⟩
              obtain ⟨x1, x2, x3⟩ := hp'.out
              have hpost : RdPost b lv' dv' wr { r with data := r.data ++ a, left := lm, st := if r.left = m then 2 else 1 } ((w9.setCell ⟨b, 3, none⟩ (.slice (some ⟨g9, 0, none⟩) n9 cap9)).setCell ⟨b, 2, none⟩ (.int .i64 lm)) := by
                rw [hH2.out]; exact RdPost.after (Ch.drew (Fp b lv' dv') wr) fp_self ⟨lv', _, x1.set2 lm, x2.trans (fp_set _ _ _), x3⟩
              have := FeedRel.next hC'.out hS'.out hpost hok3.out he'.out (by rw [hnx3.out, hkm'.out])
              rwa [hkm'.out] at this
            case measure => simp [intOf]; omega
        · by_cases h2 : r.st = 2
          · rw [h2] at q0
            have hstep : stepC r d = endC r d := by unfold stepC; rw [if_neg h1, if_pos h2]
            rw [hstep] at hnx hokd
            have hend := Lib.hid (end_any b r d lv' dv' wr hR (hok.two h2))
            clear hR hC hS hok he h4 h1 h2 hstep
            go_wp2_with fail
            refine (hend.out).mono ?_
            rintro e w2 ⟨rfl, hp⟩
            have hrel2 := Lib.hid (FeedRel.next hC'.out hS'.out hp hokd.out he'.out hnx.out)
            clear hp
            go_wp2
            go_round
            case rel => exact ⟨k + 1, by omega, by go_num, hrel2.out⟩
            case measure => simp [intOf]; omega
          · have hstep : stepC r d = letterC r d := by unfold stepC; rw [if_neg h1, if_neg h2]
            have hs03 : r.st = 0 ∨ r.st = 3 := by have := hok.st; omega
            rw [hstep] at hnx hokd
            have hlet := Lib.hid (cletter_any b r d lv' dv' wr hGr.out hb'.out hR hok hs03)
            clear hR hC hS hok he h4 h1 h2 hstep
            rcases hs03 with h0 | h0
            all_goals
              rw [h0] at q0
              clear h0
              go_wp2_with fail
              refine (hlet.out).mono ?_
              rintro e w2 ⟨rfl, hp⟩
              have hrel2 := Lib.hid (FeedRel.next hC'.out hS'.out hp hokd.out he'.out hnx.out)
              clear hp
              go_wp2
              go_round
              case rel => exact ⟨k + 1, by omega, by go_num, hrel2.out⟩
              case measure => simp [intOf]; omega
    · obtain rfl : k = s.length := by omega
      have hfin := Lib.hid (show feedC c s = (s.length, r) by rw [he, List.drop_length]; rfl)
      clear hR hC hS hok he
      go_wp2
      refine bodyPost_ret (v := .int .i64 s.length) (by simp [results, Tryz.results44, go_sem]) rfl ⟨by rw [hfin.out], ?_⟩
      rw [hfin.out]
      exact ⟨lv', dv', hR'.out, hC'.out, hS'.out⟩
end Go.Proofs.YtpncfeaaffgkfaaGreatDoor
namespace Go.Proofs.YtpncfeaaffgkfaaGreatDoor
open Go.RowKit
attribute [local go_sem] Oper.semAt_some

theorem cfeed_is (b : Nat) (c c' : Ck) (s : List UInt8) (n : Nat) (he : feedC c s = (n, c')) (lv dv : Value) (W : World) (hG : G W) (hb : 7 < b) (h : Rd b W c lv dv) (hok : CkOk c) (hl : s.length ≤ 1000000) :
    Calls Tryz.prog 44 #[.pointer (some ⟨b, 0, none⟩), .string ⟨s.toArray⟩] W fun e W' => e = .returned (.int .i64 n) ∧ RdPost b lv dv W c' W' := by
  have := cfeed_any b c s lv dv W hG hb h hok hl
  rw [he] at this; exact this
theorem data_is (b : Nat) (c : Ck) (l : List UInt8) (hl : c.data = l) (lv dv : Value) (W : World) (h : Rd b W c lv dv) :
    Calls Tryz.prog 46 #[.pointer (some ⟨b, 0, none⟩)] W fun e W' => e = .returned (.string ⟨l.toArray⟩) ∧ W = W' := hl ▸ data_any b c lv dv W h
theorem done_is (b : Nat) (c : Ck) (f : Bool) (hf : decide (c.st = 4 ∧ c.bad = 0) = f) (lv dv : Value) (W : World) (h : Rd b W c lv dv) :
    Calls Tryz.prog 47 #[.pointer (some ⟨b, 0, none⟩)] W fun e W' => e = .returned (.bool f) ∧ W = W' := hf ▸ done_any b c lv dv W h
theorem bad_is (b : Nat) (c : Ck) (n : Nat) (hn : c.bad = n) (lv dv : Value) (W : World) (h : Rd b W c lv dv) :
    Calls Tryz.prog 45 #[.pointer (some ⟨b, 0, none⟩)] W fun e W' => e = .returned (.int .i64 n) ∧ W = W' := hn ▸ bad_any b c lv dv W h
/-- A reader that was made in this call. -/
theorem RdPost.made {b : Nat} {w W W' : World} {c' : Ck} {lv dv : Value} {c : Ck} (h : RdPost b lv dv W c' W') (hR : Rd b W c lv dv) (hb : w.heap.size ≤ b) (hg : Gr w W) : Gr w W' :=
  h.gr (fun k hk => Nat.le_trans hb (hR.fp_lt k hk).1) hg

def awakeL : List UInt8 := [53, 59, 97, 61, 98, 13, 10, 104, 101, 108, 108, 111, 13, 10, 48, 13, 10, 13, 10, 109, 111, 114, 101]
theorem awake_eq : (feedC ck0 awakeL).1 = 19 ∧ (feedC ck0 awakeL).2.data = [104, 101, 108, 108, 111] ∧ (feedC ck0 awakeL).2.st = 4 ∧ (feedC ck0 awakeL).2.bad = 0 := by decide +kernel
end Go.Proofs.YtpncfeaaffgkfaaGreatDoor
