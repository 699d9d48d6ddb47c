/-
  Replies: Read by the document.
-/
import Derived.Test.YtfcokldbpjkjpaaGreatDoorVj
import Derived.Test.YtfcokldbpjkjpaaGreatDoorVf
import Derived.Test.YtfcokldbpjkjpaaGreatDoorP33
import Derived.Test.YtfcokldbpjkjpaaGreatDoorLf
namespace Go.Proofs.YtfcokldbpjkjpaaGreatDoor
open Go.RowKit
attribute [local go_sem] Oper.semAt_some

theorem cut4 {s : List UInt8} {k : Nat} : ((s.take (k + 4)).drop k == [13, 10, 13, 10]) = Lib.occAt s eol2 k := by
  have e : (s.take (k + 4)).drop k = (s.drop k).take 4 := by rw [List.drop_take, show k + 4 - k = 4 by omega]
  rw [e, Bool.eq_iff_iff, beq_iff_eq]
  unfold Lib.occAt
  rw [List.isPrefixOf_iff_prefix, List.prefix_iff_eq_take]
  exact eq_comm
theorem index_of {s : List UInt8} {k : Nat} (h : Lib.occAt s eol2 k = true) (h4 : k + 4 ≤ s.length) (hno : ∀ j, j < k → Lib.occAt s eol2 j = false) : Lib.index s eol2 = k := by
  rcases Lib.index_spec s eol2 with ⟨_, h2⟩ | ⟨i, h1, _, h2, h3⟩
  · rw [h2 k (by omega)] at h; cases h
  · rw [h1]
    have a : ¬ i < k := fun hi => by rw [hno i hi] at h2; cases h2
    have b : ¬ k < i := fun hi => by rw [h3 k hi] at h; cases h
    omega
theorem index_not {s : List UInt8} {k : Nat} (h4 : s.length < k + 4) (hno : ∀ j, j < k → Lib.occAt s eol2 j = false) : Lib.index s eol2 = -1 := by
  rcases Lib.index_spec s eol2 with ⟨h1, _⟩ | ⟨i, h1, _, h2, h3⟩
  · exact h1
  · have hr := Lib.index_room s eol2 (by rw [h1]; omega)
    rw [h1] at hr
    have hl : eol2.length = 4 := rfl
    rw [hno i (by omega)] at h2; cases h2
theorem step_no {s : List UInt8} {k : Nat} (hno : ∀ j, j < k → Lib.occAt s eol2 j = false) (h : Lib.occAt s eol2 k = false) : ∀ j, j < k + 1 → Lib.occAt s eol2 j = false := fun j hj => by
  by_cases e : j = k
  · subst e; exact h
  · exact hno j (by omega)
/-- Where Read stands: its answer (block B), nothing (block B + 1). -/
def RdW (w W : World) : Prop := Gr w W ∧ w.heap.size + 1 < W.heap.size ∧ W.cell? ⟨w.heap.size, 0, none⟩ = some (.int .i64 0) ∧ W.cell? ⟨w.heap.size, 1, none⟩ = some (.slice none 0 0) ∧ W.cell? ⟨w.heap.size, 2, none⟩ = some (.string ⟨#[]⟩) ∧
  W.cell? ⟨w.heap.size + 1, 0, none⟩ = some (.int .i64 0) ∧ W.cell? ⟨w.heap.size + 1, 1, none⟩ = some (.slice none 0 0) ∧ W.cell? ⟨w.heap.size + 1, 2, none⟩ = some (.string ⟨#[]⟩) ∧ ∀ o, W.frozen? ⟨w.heap.size, o, none⟩ = false
theorem RdW.below {w W W' : World} {C : Nat} (h : RdW w W) (hg : Below C W W') (hC : w.heap.size + 1 < C) : RdW w W' := by
  obtain ⟨h0, h1, a0, a1, a2, b0, b1, b2, hf⟩ := h
  have k : ∀ {b o u}, b < C → W.cell? ⟨b, o, none⟩ = some u → W'.cell? ⟨b, o, none⟩ = some u := fun {b o u} hb h => (Below.cell hg (p := ⟨b, o, none⟩) hb).trans h
  exact ⟨Below.trans h0 (Below.mono hg (by omega)), Nat.lt_of_lt_of_le h1 (Below.size hg), k (by omega) a0, k (by omega) a1, k (by omega) a2, k (by omega) b0, k (by omega) b1, k (by omega) b2, fun o => (Below.frozen hg (show (⟨w.heap.size, o, none⟩ : Addr).block < C by show w.heap.size < C; omega)).trans (hf o)⟩
theorem RdW.gr {w W W' : World} (h : RdW w W) (hg : Gr W W') : RdW w W' := h.below hg h.2.1
theorem RdW.bad {w W : World} (h : RdW w W) (n : Nat) (z : Int) (hz : z = n) {x : Rd10} (hx : x = .bad n) :
    ReadPost x w (.returned (.tuple #[.agg #[.int .i64 0, .slice none 0 0, .string ⟨#[]⟩], .bool false, .int .i64 0, .int .i64 z])) (((W.setCell ⟨w.heap.size, 0, none⟩ (.int .i64 0)).setCell ⟨w.heap.size, 1, none⟩ (.slice none 0 0)).setCell ⟨w.heap.size, 2, none⟩ (.string ⟨#[]⟩)) :=
  readPost_bad n z hz hx (((h.1.setCell (Nat.le_refl _) _).setCell (Nat.le_refl _) _).setCell (Nat.le_refl _) _)
theorem ix0 (g n cap : Nat) (W : World) (h : (0 : Int) < (n : Int) + 1) : (Sem.run Tryz.prog (Instr.indexAt 60 (Value.slice (some ⟨g, 0, none⟩) (n + 1) cap) (Value.int .i64 0)) W) = .ok (.pointer (some ⟨g, 0, none⟩)) W := by
  simp [go_sem]
/-- Where the scan for lines stands. -/
def LRel (w : World) (B2 : Nat) (t : List UInt8) (v a i : Value) (W : World) : Prop := ∃ (L : List (List UInt8)) (a' i' : Nat) (p : Option Addr) (cap : Nat), v = .slice p L.length cap ∧ a = .int .i64 a' ∧ i = .int .i64 i' ∧ SplI t L a' i' ∧ i' ≤ t.length ∧ L.length ≤ i' ∧ OwnV 9 B2 W (.slice p L.length cap) (L.map sV) ∧ B2 ≤ W.heap.size ∧ RdW w W
theorem SplI.le {t : List UInt8} {L : List (List UInt8)} {a i : Nat} (h : SplI t L a i) (h1 : t[i]? = some 13) : a ≤ i := by
  rcases h.2.2.1 with h3 | ⟨_, h3⟩
  · exact h3
  · rw [h1] at h3; cases h3
/-- Where the going through the lines stands. -/
def QRel (w4 : World) (c : Int) (tl : List (List UInt8)) (le cs n i : Value) (W : World) : Prop := ∃ (j : Nat) (st : RSt), j ≤ tl.length ∧ foldR c st0R (tl.take j) = some st ∧ le = .int .i64 st.lens ∧ cs = .int .i64 st.cls ∧ n = .int .i64 st.n ∧ i = .int .i64 ((j : Int) + 1) ∧ st.n < 1000000 ∧ PW w4 c st.fs W
theorem QRel.next {w4 W : World} {c : Int} {tl : List (List UInt8)} {j : Nat} {st st' : RSt} (hj : j < tl.length) (hst : foldR c st0R (tl.take j) = some st) (h : stepR c st tl[j] = some st') (hn : st'.n < 1000000) (hW : PW w4 c st'.fs W) {i : Int} (hi : i = (j : Int) + 2) {le cs n : Int} (h1 : le = st'.lens) (h2 : cs = st'.cls) (h3 : n = st'.n) :
    QRel w4 c tl (.int .i64 le) (.int .i64 cs) (.int .i64 n) (.int .i64 i) W :=
  ⟨j + 1, st', hj, by rw [List.take_succ_eq_append_getElem hj, foldR_app, hst]; show (stepR c st tl[j]).bind _ = _; rw [h]; rfl, by rw [h1], by rw [h2], by rw [h3], by rw [hi]; congr 1, hn, hW⟩
theorem foldR_none {c : Int} {tl : List (List UInt8)} {j : Nat} {st : RSt} (hj : j < tl.length) (hst : foldR c st0R (tl.take j) = some st) (h : stepR c st tl[j] = none) : foldR c st0R tl = none := by
  have e : tl = tl.take j ++ tl[j] :: tl.drop (j + 1) := by
    rw [← List.drop_eq_getElem_cons hj, List.take_append_drop]
  rw [e, foldR_app, hst]
  show (stepR c st tl[j]).bind _ = _
  rw [h]; rfl
theorem sizeN_lt {s : List UInt8} {m : Nat} (h : sizeN s = some m) : m < 1000000 := by
  by_cases h0 : s = []
  · rw [size_no (.inl h0)] at h; cases h
  · by_cases h6 : 6 < s.length
    · rw [size_no (.inr (.inl h6))] at h; cases h
    · cases hd : s.all digB
      · rw [size_no (.inr (.inr hd))] at h; cases h
      · obtain ⟨n, h1, _, h2⟩ := size_ok h0 (by omega) hd
        rw [h1] at h; cases h; exact h2
/-- What a line does. -/
theorem stepR_ways (c : Int) (fs : List Fl) (cls lens n : Nat) (l n1 v1 : List UInt8) (okp a1 a2 a3 : Bool) (z : Int)
    (hP : parseB l = (n1, v1, okp)) (h1 : alikeB n1 kCod = a1) (h2 : alikeB n1 kLen = a2) (h3 : alikeB n1 kHold = a3) (hz : sizeI (sizeN v1) = z) :
    (okp = false ∧ stepR c ⟨fs, cls, lens, n⟩ l = none) ∨
    (okp = true ∧ a1 = true ∧ stepR c ⟨fs, cls, lens, n⟩ l = none) ∨
    (okp = true ∧ a1 = false ∧ a2 = true ∧ z = -1 ∧ stepR c ⟨fs, cls, lens, n⟩ l = none) ∨
    (okp = true ∧ a1 = false ∧ a2 = true ∧ (∃ m : Nat, z = m ∧ ¬ (m : Int) < 0 ∧ m < 1000000 ∧ stepR c ⟨fs, cls, lens, n⟩ l = some ⟨fs, cls, lens + 1, m⟩)) ∨
    (okp = true ∧ a1 = false ∧ a2 = false ∧ (c != 101) = true ∧ a3 = true ∧ v1 = kEnds ∧ stepR c ⟨fs, cls, lens, n⟩ l = some ⟨fs, cls + 1, lens, n⟩) ∨
    (okp = true ∧ a1 = false ∧ a2 = false ∧ (c != 101) = true ∧ a3 = true ∧ (v1 == [99, 108, 111, 115, 101]) = false ∧ stepR c ⟨fs, cls, lens, n⟩ l = none) ∨
    (okp = true ∧ a1 = false ∧ a2 = false ∧ (c != 101) = false ∧ stepR c ⟨fs, cls, lens, n⟩ l = some ⟨fs ++ [(n1, v1)], cls, lens, n⟩) ∨
    (okp = true ∧ a1 = false ∧ a2 = false ∧ (c != 101) = true ∧ a3 = false ∧ stepR c ⟨fs, cls, lens, n⟩ l = some ⟨fs ++ [(n1, v1)], cls, lens, n⟩) := by
  unfold stepR
  rw [hP]
  dsimp only
  rw [h1, h2, h3]
  cases okp
  · left; exact ⟨rfl, rfl⟩
  · right
    cases a1
    · right
      cases a2
      · right; right
        cases hc : (c != 101)
        · right; right; left; exact ⟨rfl, rfl, rfl, rfl, rfl⟩
        · cases a3
          · right; right; right; exact ⟨rfl, rfl, rfl, rfl, rfl, rfl⟩
          · cases hv : (v1 == kEnds)
            · right; left; exact ⟨rfl, rfl, rfl, rfl, rfl, hv, rfl⟩
            · left; exact ⟨rfl, rfl, rfl, rfl, rfl, beq_iff_eq.1 hv, rfl⟩
      · cases ho : sizeN v1 with
        | none => left; rw [ho] at hz; exact ⟨rfl, rfl, rfl, hz.symm, rfl⟩
        | some m =>
          right; left
          rw [ho] at hz
          exact ⟨rfl, rfl, rfl, m, hz.symm, by omega, sizeN_lt ho, rfl⟩
    · left; exact ⟨rfl, rfl, rfl⟩
set_option maxHeartbeats 32000000 in
set_option maxRecDepth 100000 in
theorem rread_any (s : List UInt8) (head : Bool) (w : World) (hl : s.length ≤ 800000) :
    Calls Tryz.prog 19 #[.string ⟨s.toArray⟩, .bool head] w (ReadPost (readR s head) w) := by
  have hl2 : ¬ 9223372036854775807 < s.length := by omega
  have hRd0 : RdW w ((w.alloc (.cells #[.int .i64 0, .slice none 0 0, .string ⟨#[]⟩] 24)).alloc (.cells #[.int .i64 0, .slice none 0 0, .string ⟨#[]⟩] 24)) :=
    ⟨(Gr.alloc _ _).alloc1 _, by simp, by simp [go_sem], by simp [go_sem], by simp [go_sem], by simp [go_sem], by simp [go_sem], by simp [go_sem], fun o => by simp [go_sem]⟩
  go_enter Tryz.func19, Tryz.ntmps19
  go_wp2
  generalize ((w.alloc (.cells #[.int .i64 0, .slice none 0 0, .string ⟨#[]⟩] 24)).alloc (.cells #[.int .i64 0, .slice none 0 0, .string ⟨#[]⟩] 24)) = w1 at hRd0 ⊢
  have hRd1 := Lib.hid hRd0
  clear hRd0
  go_loopw [9, 10] (fun en i W => ∃ k : Nat, k ≤ s.length ∧ en = .int .i64 (-1) ∧ i = .int .i64 k ∧ (∀ j, j < k → Lib.occAt s eol2 j = false) ∧ RdW w W) (fun _ i _ => s.length - (intOf i).toNat)
  case atStart => exact ⟨0, Nat.zero_le _, rfl, rfl, fun j h => absurd h (Nat.not_lt_zero _), hRd1.out⟩
  case round =>
    obtain ⟨k, hk, rfl, rfl, hno, hRd0⟩ := hrel
    have hno' := Lib.hid hno
    have hRd := Lib.hid hRd0
    clear hno hRd0 hRd1
    have hkb : k ≤ 800000 := by omega
    by_cases hk4 : k + 4 ≤ s.length
    · have hk4I : (k : Int) + 4 ≤ s.length := by omega
      have hex : (⟨s.toArray⟩ : ByteArray).extract k (k + 4) = ⟨((s.take (k + 4)).drop k).toArray⟩ := extract_mk _ _ _
      have hcut := @cut4 s k
      obtain ⟨x, hx⟩ : ∃ x, (s.take (k + 4)).drop k = x := ⟨_, rfl⟩
      rw [hx] at hex hcut
      clear hx
      by_cases hocc : Lib.occAt s eol2 k = true
      · rw [hocc, beq_iff_eq] at hcut
        subst hcut
        have hix := Lib.hid (index_of hocc hk4 hno'.out)
        have hR0 := Lib.hid (readR_at (head := head) hix.out)
        clear hocc hno'
        have hk0 : ¬ (k : Int) < 0 := by omega
        go_wp2
        obtain ⟨t, ht⟩ : ∃ t, s.take k = t := ⟨_, rfl⟩
        have htl : t.length = k := by rw [← ht, List.length_take]; omega
        have htg : ∀ j, j < k → t[j]? = s[j]? := fun j hj => by rw [← ht, List.getElem?_take, if_pos hj]
        have htg' := Lib.hid htg
        have ht' := Lib.hid ht
        obtain ⟨B2, hB2⟩ : ∃ b, wr.heap.size = b := ⟨_, rfl⟩
        have hB2' := Lib.hid (show w.heap.size + 1 < B2 by rw [← hB2]; exact hRd.out.2.1)
        have hRs := Lib.hid (show LRel w B2 t (.slice none 0 0) (.int .i64 0) (.int .i64 0) wr from ⟨[], 0, 0, none, 0, rfl, rfl, rfl, SplI.start t, Nat.zero_le _, Nat.le_refl _, OwnV.nil _ _ _, by omega, hRd.out⟩)
        clear htg ht hB2 hRd
        go_loopw [11, 12, 13] (fun v a i W => LRel w B2 t v a i W) (fun _ _ i _ => k - (intOf i).toNat)
        case atStart => exact hRs.out
        case round =>
          obtain ⟨L, a, i, p, cap, rfl, rfl, rfl, hS, hil, hLi, ho, hbz, hRd0⟩ := hrel
          have hS' := Lib.hid hS
          have ho' := Lib.hid ho
          have hRd := Lib.hid hRd0
          have hbz' := Lib.hid hbz
          have hal := hS.2.1
          clear hS ho hRd0 hRs hbz
          have hib : i ≤ 800000 := by omega
          have hab : a ≤ 800000 := by omega
          by_cases hik : i + 1 < k
          · have hikI : (i : Int) + 1 < k := by omega
            have hi1 : i < s.length := by omega
            have hi2 : i + 1 < s.length := by omega
            obtain ⟨c, hc⟩ : ∃ c, (⟨s.toArray⟩ : ByteArray)[i]'(by rw [size_mk]; exact hi1) = c := ⟨_, rfl⟩
            obtain ⟨d, hd⟩ : ∃ d, (⟨s.toArray⟩ : ByteArray)[i + 1]'(by rw [size_mk]; exact hi2) = d := ⟨_, rfl⟩
            have hct : t[i]? = some c := by rw [htg'.out i (by omega), List.getElem?_eq_getElem hi1]; exact congrArg some hc
            have hdt : t[i + 1]? = some d := by rw [htg'.out (i + 1) (by omega), List.getElem?_eq_getElem hi2]; exact congrArg some hd
            have hct' := Lib.hid hct
            have hdt' := Lib.hid hdt
            clear hct hdt
            by_cases h13 : c = 13
            · have h13b : ((c.toNat : Int) == 13) = true := by rw [h13]; rfl
              by_cases h10 : d = 10
              · have h10b : ((d.toNat : Int) == 10) = true := by rw [h10]; rfl
                have hai : a ≤ i := hS'.out.le (by rw [hct'.out, h13])
                have hex2 : (⟨s.toArray⟩ : ByteArray).extract a i = ⟨((t.take i).drop a).toArray⟩ := by
                  rw [extract_mk, ← ht'.out, List.take_take, show min i k = i by omega]
                have hfound := Lib.hid (hS'.out.found (by rw [hct'.out, h13]) (by rw [hdt'.out, h10]))
                obtain ⟨x, hx⟩ : ∃ x, (t.take i).drop a = x := ⟨_, rfl⟩
                rw [hx] at hex2 hfound
                have hLl : (L.map sV).length + 1 = L.length + 1 := by simp
                have hLb : L.length + 1 ≤ 1000000 := by omega
                clear hx h13 h10
                go_wp2_with (at_builtin; (refine wp_app1 (by rfl) _ _ 60 9 _ (.string ⟨#[]⟩) (.string ⟨x.toArray⟩) 16 Tryz.underlying60 infoS rfl rfl B2 _ (L.map sV) rfl ho'.out rfl rfl (L.length + 1) hLl hLb (by decide) hbz'.out ?_); intro p3 cap3 w3 hown3 hb3)
                have hrel2 := Lib.hid (show LRel w B2 t (.slice p3 (L.length + 1) cap3) (.int .i64 ((i : Int) + 2)) (.int .i64 ((i : Int) + 1)) w3 from
                  ⟨L ++ [x], i + 2, i + 1, p3, cap3, by simp, rfl, rfl, hfound.out, by omega, by simp; omega, by rw [List.length_append, List.map_append]; exact hown3, Nat.le_trans hbz'.out (Below.size hb3), hRd.out.below hb3 hB2'.out⟩)
                clear hown3 hb3
                go_wp2
                go_roundw
                case rel => exact hrel2.out
                case measure => simp [intOf]; omega
              · have h10b : ((d.toNat : Int) == 10) = false := by
                  rw [beq_eq_false_iff_ne]; intro e; exact h10 (UInt8.toNat_inj.1 (by have h9 : (d.toNat : Int) = 10 := e; show d.toNat = 10; omega))
                have hrel2 := Lib.hid (show LRel w B2 t (.slice p L.length cap) (.int .i64 a) (.int .i64 ((i : Int) + 1)) wr from
                  ⟨L, a, i + 1, p, cap, rfl, rfl, rfl, hS'.out.other (fun h => h10 (by rw [hdt'.out] at h; exact Option.some.inj h.2)), by omega, by omega, ho'.out, hbz'.out, hRd.out⟩)
                clear h13 h10
                go_wp2
                go_roundw
                case rel => exact hrel2.out
                case measure => simp [intOf]; omega
            · have h13b : ((c.toNat : Int) == 13) = false := by
                rw [beq_eq_false_iff_ne]; intro e; exact h13 (UInt8.toNat_inj.1 (by have h9 : (c.toNat : Int) = 13 := e; show c.toNat = 13; omega))
              have hrel2 := Lib.hid (show LRel w B2 t (.slice p L.length cap) (.int .i64 a) (.int .i64 ((i : Int) + 1)) wr from
                ⟨L, a, i + 1, p, cap, rfl, rfl, rfl, hS'.out.other (fun h => h13 (by rw [hct'.out] at h; exact Option.some.inj h.1)), by omega, by omega, ho'.out, hbz'.out, hRd.out⟩)
              clear h13
              go_wp2
              go_roundw
              case rel => exact hrel2.out
              case measure => simp [intOf]; omega
          · have hikI : ¬ (i : Int) + 1 < k := by omega
            have hls := hS'.out.done (by omega)
            have hak : a ≤ k := by omega
            have hex2 : (⟨s.toArray⟩ : ByteArray).extract a k = ⟨(t.drop a).toArray⟩ := by rw [extract_mk, ht'.out]
            obtain ⟨x, hx⟩ : ∃ x, t.drop a = x := ⟨_, rfl⟩
            rw [hx] at hex2 hls
            have hLl : (L.map sV).length + 1 = L.length + 1 := by simp
            have hLb : L.length + 1 ≤ 1000000 := by omega
            have hls' := Lib.hid hls
            clear hx hls
            go_upto_region 21 with (at_builtin; (refine wp_app1 (by rfl) _ _ 60 9 _ (.string ⟨#[]⟩) (.string ⟨x.toArray⟩) 16 Tryz.underlying60 infoS rfl rfl B2 _ (L.map sV) rfl ho'.out rfl rfl (L.length + 1) hLl hLb (by decide) hbz'.out ?_); intro p3 cap3 w3 hown3 hb3)
            have hRd3 := Lib.hid (hRd.out.below hb3 hB2'.out)
            clear hRd
            obtain ⟨l0, tl, hlt⟩ : ∃ a b, L ++ [x] = a :: b := by
              cases L with
              | nil => exact ⟨x, [], rfl⟩
              | cons y z => exact ⟨y, z ++ [x], rfl⟩
            have hNl : L.length = tl.length := by
              have := congrArg List.length hlt
              rw [List.length_append, List.length_cons] at this
              simpa using this
            have hown4 : OwnV 9 B2 w3 (.slice p3 (L.length + 1) cap3) ((l0 :: tl).map sV) := by
              rw [← hlt, List.map_append]; exact hown3
            rw [hNl] at hown4
            rw [hNl]
            obtain ⟨g, cap4, e4, hg1, hg2, hcell, _⟩ := hown4.row (by simp)
            injection e4 with e4 e5 e6
            subst e4
            clear e5 e6
            have hcs := Lib.hid (show ∀ i, (hi : i < (l0 :: tl).length) → w3.cell? ⟨g, i, none⟩ = some (.string ⟨((l0 :: tl)[i]).toArray⟩) from fun i hi => hcell i _ (by rw [List.getElem?_map, List.getElem?_eq_getElem hi]; rfl))
            have hls2 := Lib.hid (show splitE t = l0 :: tl by rw [hls'.out, hlt])
            have hc0 : w3.cell? ⟨g, 0, none⟩ = some (.string ⟨l0.toArray⟩) := hcs.out 0 (by simp)
            have htb : tl.length ≤ 800000 := by omega
            have hsz := Lib.hid (fun l (hl : l ∈ l0 :: tl) => (show l.length ≤ 800000 from by
              have := (splitE_len _ t (Nat.le_refl _)).2 l (by rw [hls2.out]; exact hl)
              omega))
            have hR1' := hR0.out
            rw [ht'.out, hls2.out] at hR1'
            have hR1 := Lib.hid hR1'
            have h0I : (0 : Int) < (tl.length : Int) + 1 := by omega
            have hix0 := fun W => ix0 g tl.length cap3 W h0I
            clear hown3 hb3 hlt hNl hown4 hcell hls' hex2 hR1'
            have hst := Lib.hid (fun W => rstatus_any l0 W (by have := hsz.out l0 (by simp); omega))
            clear hLl hLb hib hab hik hikI hal hil hLi hak htl
            go_wp2_with fail
            refine (hst.out _).mono ?_
            rintro e w4 ⟨rfl, hb4⟩
            have hRd4 := Lib.hid (hRd3.out.gr hb4)
            have hcs4 := Lib.hid (fun i hi => hb4.cell (hcs.out i hi))
            have hg4 : g < w4.heap.size := Nat.lt_of_lt_of_le hg2 (Below.size hb4)
            clear hb4 hRd3 hcs hc0 hst hg2 hix0
            obtain ⟨⟨c, r0, ok0⟩, hsb⟩ : ∃ y, statB l0 = y := ⟨_, rfl⟩
            rw [hsb]
            unfold stV
            dsimp only
            have hsb' := Lib.hid hsb
            clear hsb
            cases ok0 with
            | false =>
              have hR := Lib.hid (show readR s head = .bad 8 by rw [hR1.out, parts_bad (by rw [hsb'.out])])
              have hRd := hRd4
              have hfin := Lib.hid (hRd.out.bad 8 8 rfl hR.out)
              obtain ⟨_, _, c0, c1, c2, n0, n1, n2, f0⟩ := hRd.out
              go_wp2
              refine bodyPost_ret (v := .tuple #[.agg #[.int .i64 0, .slice none 0 0, .string ⟨#[]⟩], .bool false, .int .i64 0, .int .i64 8]) ?_ rfl hfin.out
              simp [results, Tryz.results19, go_sem, c0, c1, c2]
            | true =>
              have hpr := Lib.hid (parts_ref (tl := tl) hsb'.out)
              have hnone0 := Lib.hid (show foldR c st0R tl = none → readR s head = .bad 8 from fun h => by rw [hR1.out, hpr.out, h])
              have hP0 := Lib.hid (show PW w4 c [] (w4.alloc (.cells #[.int .i64 c, .slice none 0 0, .string ⟨#[]⟩] 24)) from
                ⟨.slice none 0 0, by simp [go_sem], by simp [go_sem], by simp [go_sem], World.ownsRow_nil _ _ _ _, fun o => by simp [go_sem], by simp, Gr.alloc _ _⟩)
              go_wp2
              generalize (w4.alloc (.cells #[.int .i64 c, .slice none 0 0, .string ⟨#[]⟩] 24)) = w5 at hP0 ⊢
              go_loopw [18, 19, 20, 21] (fun le cs n i W => QRel w4 c tl le cs n i W) (fun _ _ _ i _ => tl.length + 1 - (intOf i).toNat)
              case atStart => exact ⟨0, st0R, Nat.zero_le _, rfl, rfl, rfl, rfl, rfl, by decide, hP0.out⟩
              case round =>
                obtain ⟨j, ⟨fs, cls, lens, n⟩, hjl, hst, rfl, rfl, rfl, rfl, hn6, hPW⟩ := hrel
                obtain ⟨_, _, hfl, hcl, hll, hnz⟩ := foldR_grows _ hst
                rw [List.length_take] at hfl hcl hll
                unfold st0R at hfl hcl hll hnz
                dsimp only at hPW hn6 hfl hcl hll hnz ⊢
                have hfl2 : fs.length ≤ 800000 := by simp at hfl; omega
                have hcl2 : cls ≤ 800000 := by omega
                have hll2 : lens ≤ 800000 := by omega
                have hnz' := Lib.hid hnz
                have hPW5 := Lib.hid hPW
                have hst' := Lib.hid hst
                clear hfl hcl hll hnz hst hP0
                by_cases hj : j < tl.length
                · have d1 := hPW.w.cell (hcs4.out (j + 1) (by simp; omega))
                  have hsl9 := hsz.out ((l0 :: tl)[j + 1]'(by simp; omega)) (List.getElem_mem _)
                  have hnone := Lib.hid (show stepR c ⟨fs, cls, lens, n⟩ tl[j] = none → readR s head = .bad 8 from fun h => hnone0.out (foldR_none hj hst'.out h))
                  obtain ⟨l, hl⟩ : ∃ x, tl[j] = x := ⟨_, rfl⟩
                  have hl9 : (l0 :: tl)[j + 1]'(by simp; omega) = l := hl
                  rw [hl9] at d1 hsl9
                  have hjI : (j : Int) + 1 < (tl.length : Int) + 1 := by omega
                  have hpc := Lib.hid (fun W => rparse_any l W (by omega))
                  obtain ⟨⟨n1, v1, okp⟩, hP⟩ : ∃ x, parseB l = x := ⟨_, rfl⟩
                  rw [hP] at hpc
                  have hpl1 : n1.length ≤ l.length := by have := parse_len1 l; rw [hP] at this; exact this
                  have hpl2 : v1.length ≤ l.length := by have := parse_len2 l; rw [hP] at this; exact this
                  have hways := stepR_ways c fs cls lens n l n1 v1 okp _ _ _ _ hP rfl rfl rfl rfl
                  have q1 := Lib.hid (fun W => ralike_any n1 kcod W (by omega) (by decide))
                  have q2 := Lib.hid (fun W => ralike_any n1 klen W (by omega) (by decide))
                  have q3 := Lib.hid (fun W => ralike_any n1 khold W (by omega) (by decide))
                  have qz := Lib.hid (fun W => rsize10_any v1 (by omega) W)
                  obtain ⟨x1, x2, x3⟩ := alike10 n1
                  rw [x1] at q2
                  rw [x2] at q1
                  rw [x3] at q3
                  obtain ⟨a1, ha1⟩ : ∃ a, alikeB n1 kCod = a := ⟨_, rfl⟩
                  obtain ⟨a2, ha2⟩ : ∃ a, alikeB n1 kLen = a := ⟨_, rfl⟩
                  obtain ⟨a3, ha3⟩ : ∃ a, alikeB n1 kHold = a := ⟨_, rfl⟩
                  obtain ⟨z, hzz⟩ : ∃ a, sizeI (sizeN v1) = a := ⟨_, rfl⟩
                  rw [ha1] at q1 hways
                  rw [ha2] at q2 hways
                  rw [ha3] at q3 hways
                  rw [hzz] at qz hways
                  rw [← hl] at hways
                  clear ha1 ha2 ha3 hzz hP hl hl9 hPW x1 x2 x3
                  go_wp2_with fail
                  refine (hpc.out _).mono ?_
                  rintro e w3 ⟨rfl, hb3⟩
                  have hPW3 := Lib.hid (hPW5.out.gr hb3)
                  clear hb3 d1 hPW5
                  unfold pVal
                  dsimp only
                  go_upto_region 30 with (fail)
                  have y0 : (w3.alloc (.cells #[.string ⟨n1.toArray⟩, .string ⟨v1.toArray⟩] 41)).cell? ⟨w3.heap.size, 0, none⟩ = some (.string ⟨n1.toArray⟩) := cell_new7 w3 [.string ⟨n1.toArray⟩, .string ⟨v1.toArray⟩] _ 0 _ rfl
                  have y1 : (w3.alloc (.cells #[.string ⟨n1.toArray⟩, .string ⟨v1.toArray⟩] 41)).cell? ⟨w3.heap.size, 1, none⟩ = some (.string ⟨v1.toArray⟩) := cell_new7 w3 [.string ⟨n1.toArray⟩, .string ⟨v1.toArray⟩] _ 1 _ rfl
                  have hPW6 := Lib.hid (hPW3.out.gr (Gr.alloc w3 (.cells #[.string ⟨n1.toArray⟩, .string ⟨v1.toArray⟩] 41)))
                  generalize w3.alloc (.cells #[.string ⟨n1.toArray⟩, .string ⟨v1.toArray⟩] 41) = w6 at y0 y1 hPW6 ⊢
                  clear hPW3
                  rcases hways with ⟨rfl, hs9⟩ | ⟨rfl, rfl, hs9⟩ | ⟨rfl, rfl, rfl, rfl, hs9⟩ | ⟨rfl, rfl, rfl, m, rfl, hm0, hm6, hs9⟩ | ⟨rfl, rfl, rfl, hc1, rfl, rfl, hs9⟩ | ⟨rfl, rfl, rfl, hc1, rfl, hv2, hs9⟩ | ⟨rfl, rfl, rfl, hc1, hs9⟩ | ⟨rfl, rfl, rfl, hc1, rfl, hs9⟩
                  · have hR := Lib.hid (hnone.out hs9)
                    have hRd := Lib.hid (hRd4.out.gr hPW6.out.w)
                    clear hs9
                    have hfin := Lib.hid (hRd.out.bad 8 8 rfl hR.out)
                    obtain ⟨_, _, c0, c1, c2, n0, n1, n2, f0⟩ := hRd.out
                    go_wp2
                    refine bodyPost_ret (v := .tuple #[.agg #[.int .i64 0, .slice none 0 0, .string ⟨#[]⟩], .bool false, .int .i64 0, .int .i64 8]) ?_ rfl hfin.out
                    simp [results, Tryz.results19, go_sem, c0, c1, c2]
                  · have hs9 := Lib.hid hs9
                    go_wp2_with fail
                    refine (q1.out _).mono ?_
                    rintro e w7 ⟨rfl, hb⟩
                    have hPW7 := Lib.hid (hPW6.out.gr hb)
                    replace y0 := hb.cell y0
                    replace y1 := hb.cell y1
                    clear hb hPW6
                    have hR := Lib.hid (hnone.out hs9.out)
                    have hRd := Lib.hid (hRd4.out.gr hPW7.out.w)
                    have hfin := Lib.hid (hRd.out.bad 8 8 rfl hR.out)
                    obtain ⟨_, _, c0, c1, c2, n0, n1, n2, f0⟩ := hRd.out
                    go_wp2
                    refine bodyPost_ret (v := .tuple #[.agg #[.int .i64 0, .slice none 0 0, .string ⟨#[]⟩], .bool false, .int .i64 0, .int .i64 8]) ?_ rfl hfin.out
                    simp [results, Tryz.results19, go_sem, c0, c1, c2]
                  · have hs9 := Lib.hid hs9
                    go_wp2_with fail
                    refine (q1.out _).mono ?_
                    rintro e w7 ⟨rfl, hb⟩
                    have hPW7 := Lib.hid (hPW6.out.gr hb)
                    replace y0 := hb.cell y0
                    replace y1 := hb.cell y1
                    clear hb hPW6
                    go_wp2_with fail
                    refine (q2.out _).mono ?_
                    rintro e w8 ⟨rfl, hb⟩
                    have hPW8 := Lib.hid (hPW7.out.gr hb)
                    replace y0 := hb.cell y0
                    replace y1 := hb.cell y1
                    clear hb hPW7
                    go_wp2_with fail
                    refine (qz.out _).mono ?_
                    rintro e w9 ⟨rfl, rfl⟩
                    have hR := Lib.hid (hnone.out hs9.out)
                    have hRd := Lib.hid (hRd4.out.gr hPW8.out.w)
                    have hfin := Lib.hid (hRd.out.bad 8 8 rfl hR.out)
                    obtain ⟨_, _, c0, c1, c2, n0, n1, n2, f0⟩ := hRd.out
                    go_wp2
                    refine bodyPost_ret (v := .tuple #[.agg #[.int .i64 0, .slice none 0 0, .string ⟨#[]⟩], .bool false, .int .i64 0, .int .i64 8]) ?_ rfl hfin.out
                    simp [results, Tryz.results19, go_sem, c0, c1, c2]
                  · have hnext := Lib.hid (fun W (hW : PW w4 c (⟨fs, cls, lens + 1, m⟩ : RSt).fs W) => QRel.next hj hst'.out hs9 (by first | exact hn6 | exact hm6) hW (show (j : Int) + 1 + 1 = (j : Int) + 2 by omega) (le := _) (cs := _) (n := _) rfl rfl rfl)
                    clear hs9
                    go_wp2_with fail
                    refine (q1.out _).mono ?_
                    rintro e w7 ⟨rfl, hb⟩
                    have hPW7 := Lib.hid (hPW6.out.gr hb)
                    replace y0 := hb.cell y0
                    replace y1 := hb.cell y1
                    clear hb hPW6
                    go_wp2_with fail
                    refine (q2.out _).mono ?_
                    rintro e w8 ⟨rfl, hb⟩
                    have hPW8 := Lib.hid (hPW7.out.gr hb)
                    replace y0 := hb.cell y0
                    replace y1 := hb.cell y1
                    clear hb hPW7
                    go_wp2_with fail
                    refine (qz.out _).mono ?_
                    rintro e w9 ⟨rfl, rfl⟩
                    go_wp2
                    go_roundw
                    case rel => exact hnext.out _ hPW8.out
                    case measure => simp [intOf]; omega
                  · have hnext := Lib.hid (fun W (hW : PW w4 c (⟨fs, cls + 1, lens, n⟩ : RSt).fs W) => QRel.next hj hst'.out hs9 (by first | exact hn6 | exact hm6) hW (show (j : Int) + 1 + 1 = (j : Int) + 2 by omega) (le := _) (cs := _) (n := _) rfl rfl rfl)
                    clear hs9
                    unfold kEnds at *
                    go_wp2_with fail
                    refine (q1.out _).mono ?_
                    rintro e w7 ⟨rfl, hb⟩
                    have hPW7 := Lib.hid (hPW6.out.gr hb)
                    replace y0 := hb.cell y0
                    replace y1 := hb.cell y1
                    clear hb hPW6
                    go_wp2_with fail
                    refine (q2.out _).mono ?_
                    rintro e w8 ⟨rfl, hb⟩
                    have hPW8 := Lib.hid (hPW7.out.gr hb)
                    replace y0 := hb.cell y0
                    replace y1 := hb.cell y1
                    clear hb hPW7
                    go_wp2_with fail
                    refine (q3.out _).mono ?_
                    rintro e w9 ⟨rfl, hb⟩
                    have hPW9 := Lib.hid (hPW8.out.gr hb)
                    replace y0 := hb.cell y0
                    replace y1 := hb.cell y1
                    clear hb hPW8
                    go_wp2
                    go_roundw
                    case rel => exact hnext.out _ hPW9.out
                    case measure => simp [intOf]; omega
                  · have hs9 := Lib.hid hs9
                    go_wp2_with fail
                    refine (q1.out _).mono ?_
                    rintro e w7 ⟨rfl, hb⟩
                    have hPW7 := Lib.hid (hPW6.out.gr hb)
                    replace y0 := hb.cell y0
                    replace y1 := hb.cell y1
                    clear hb hPW6
                    go_wp2_with fail
                    refine (q2.out _).mono ?_
                    rintro e w8 ⟨rfl, hb⟩
                    have hPW8 := Lib.hid (hPW7.out.gr hb)
                    replace y0 := hb.cell y0
                    replace y1 := hb.cell y1
                    clear hb hPW7
                    go_wp2_with fail
                    refine (q3.out _).mono ?_
                    rintro e w9 ⟨rfl, hb⟩
                    have hPW9 := Lib.hid (hPW8.out.gr hb)
                    replace y0 := hb.cell y0
                    replace y1 := hb.cell y1
                    clear hb hPW8
                    have hR := Lib.hid (hnone.out hs9.out)
                    have hRd := Lib.hid (hRd4.out.gr hPW9.out.w)
                    have hfin := Lib.hid (hRd.out.bad 8 8 rfl hR.out)
                    obtain ⟨_, _, c0, c1, c2, n0, n1, n2, f0⟩ := hRd.out
                    go_wp2
                    refine bodyPost_ret (v := .tuple #[.agg #[.int .i64 0, .slice none 0 0, .string ⟨#[]⟩], .bool false, .int .i64 0, .int .i64 8]) ?_ rfl hfin.out
                    simp [results, Tryz.results19, go_sem, c0, c1, c2]
                  · have hnext := Lib.hid (fun W (hW : PW w4 c (⟨fs ++ [(n1, v1)], cls, lens, n⟩ : RSt).fs W) => QRel.next hj hst'.out hs9 (by first | exact hn6 | exact hm6) hW (show (j : Int) + 1 + 1 = (j : Int) + 2 by omega) (le := _) (cs := _) (n := _) rfl rfl rfl)
                    clear hs9
                    go_wp2_with fail
                    refine (q1.out _).mono ?_
                    rintro e w7 ⟨rfl, hb⟩
                    have hPW7 := Lib.hid (hPW6.out.gr hb)
                    replace y0 := hb.cell y0
                    replace y1 := hb.cell y1
                    clear hb hPW6
                    go_wp2_with fail
                    refine (q2.out _).mono ?_
                    rintro e w8 ⟨rfl, hb⟩
                    have hPW8 := Lib.hid (hPW7.out.gr hb)
                    replace y0 := hb.cell y0
                    replace y1 := hb.cell y1
                    clear hb hPW7
                    obtain ⟨v, m0, m1, m2, ho, hfz, hz, hgw⟩ := hPW8.out
                    obtain ⟨pv, capv, rfl, _⟩ := ho.at
                    have ho' := Lib.hid ho
                    have hA : ∀ O, (w8.alloc O).ownsRow (w4.heap.size + 1) 41 2 (.slice pv fs.length capv) fs.length (fcells fs) := fun O => World.ownsRow.alloc ho O
                    obtain ⟨i0, hi, hz0, hz1, hzb⟩ := info_parts infoField
                    clear ho
                    go_wp2_with (at_builtin; refine wpList_append_own _ rfl _ _ 22 rfl (w4.heap.size + 1) 41 i0 (.agg #[.string ⟨#[]⟩, .string ⟨#[]⟩]) 2 32 Tryz.underlying22 hi hz0 hz1 hzb rfl (by decide) _ _ _ rfl (hA _) ⟨w8.heap.size, 0, none⟩ 1 1 [.string ⟨n1.toArray⟩, .string ⟨v1.toArray⟩] rfl rfl ?qc2 ?qc3 ?qc4 ?qc5 ?qc6 ?_)
                    case qc2 => exact cells_two _ _ _ _
                    case qc3 => simp [Value.oneCell']
                    case qc4 => unfold maxLen; omega
                    case qc5 => omega
                    case qc6 => simp; omega
                    intro v' w9 hown3 hgrow _
                    have hown4 : OwnF (w4.heap.size + 1) w9 v' (fs ++ [(n1, v1)]) := by
                      unfold OwnF; rw [fcells_app, List.length_append]; exact hown3
                    obtain ⟨hP9, r1, r2⟩ := PW.push m0 m1 m2 ho'.out hfz hz hgw hown4 hgrow
                    obtain ⟨p9, c9, rfl, _⟩ := hown4.at
                    have hlen9 : (fs ++ [(n1, v1)]).length = fs.length + 1 := by simp
                    rw [hlen9] at hP9 ⊢
                    have hP9' := Lib.hid hP9
                    clear hlen9 hown3 hgrow hA hi hz0 hz1 hzb m0 m1 m2 hfz hgw hown4 hP9
                    go_wp2
                    go_roundw
                    case rel => exact hnext.out _ hP9'.out
                    case measure => simp [intOf]; omega
                  · have hnext := Lib.hid (fun W (hW : PW w4 c (⟨fs ++ [(n1, v1)], cls, lens, n⟩ : RSt).fs W) => QRel.next hj hst'.out hs9 (by first | exact hn6 | exact hm6) hW (show (j : Int) + 1 + 1 = (j : Int) + 2 by omega) (le := _) (cs := _) (n := _) rfl rfl rfl)
                    clear hs9
                    go_wp2_with fail
                    refine (q1.out _).mono ?_
                    rintro e w7 ⟨rfl, hb⟩
                    have hPW7 := Lib.hid (hPW6.out.gr hb)
                    replace y0 := hb.cell y0
                    replace y1 := hb.cell y1
                    clear hb hPW6
                    go_wp2_with fail
                    refine (q2.out _).mono ?_
                    rintro e w8 ⟨rfl, hb⟩
                    have hPW8 := Lib.hid (hPW7.out.gr hb)
                    replace y0 := hb.cell y0
                    replace y1 := hb.cell y1
                    clear hb hPW7
                    go_wp2_with fail
                    refine (q3.out _).mono ?_
                    rintro e w9 ⟨rfl, hb⟩
                    have hPW9 := Lib.hid (hPW8.out.gr hb)
                    replace y0 := hb.cell y0
                    replace y1 := hb.cell y1
                    clear hb hPW8
                    obtain ⟨v, m0, m1, m2, ho, hfz, hz, hgw⟩ := hPW9.out
                    obtain ⟨pv, capv, rfl, _⟩ := ho.at
                    have ho' := Lib.hid ho
                    have hA : ∀ O, (w9.alloc O).ownsRow (w4.heap.size + 1) 41 2 (.slice pv fs.length capv) fs.length (fcells fs) := fun O => World.ownsRow.alloc ho O
                    obtain ⟨i0, hi, hz0, hz1, hzb⟩ := info_parts infoField
                    clear ho
                    go_wp2_with (at_builtin; refine wpList_append_own _ rfl _ _ 22 rfl (w4.heap.size + 1) 41 i0 (.agg #[.string ⟨#[]⟩, .string ⟨#[]⟩]) 2 32 Tryz.underlying22 hi hz0 hz1 hzb rfl (by decide) _ _ _ rfl (hA _) ⟨w9.heap.size, 0, none⟩ 1 1 [.string ⟨n1.toArray⟩, .string ⟨v1.toArray⟩] rfl rfl ?qc2 ?qc3 ?qc4 ?qc5 ?qc6 ?_)
                    case qc2 => exact cells_two _ _ _ _
                    case qc3 => simp [Value.oneCell']
                    case qc4 => unfold maxLen; omega
                    case qc5 => omega
                    case qc6 => simp; omega
                    intro v' w10 hown3 hgrow _
                    have hown4 : OwnF (w4.heap.size + 1) w10 v' (fs ++ [(n1, v1)]) := by
                      unfold OwnF; rw [fcells_app, List.length_append]; exact hown3
                    obtain ⟨hP9, r1, r2⟩ := PW.push m0 m1 m2 ho'.out hfz hz hgw hown4 hgrow
                    obtain ⟨p9, c9, rfl, _⟩ := hown4.at
                    have hlen9 : (fs ++ [(n1, v1)]).length = fs.length + 1 := by simp
                    rw [hlen9] at hP9 ⊢
                    have hP9' := Lib.hid hP9
                    clear hlen9 hown3 hgrow hA hi hz0 hz1 hzb m0 m1 m2 hfz hgw hown4 hP9
                    go_wp2
                    go_roundw
                    case rel => exact hnext.out _ hP9'.out
                    case measure => simp [intOf]; omega
                · have hjt : j = tl.length := by omega
                  subst hjt
                  rw [List.take_length] at hst'
                  have hjI : ¬ (tl.length : Int) + 1 < (tl.length : Int) + 1 := by omega
                  have hb10 := Lib.hid (fun W => rbare10_any c W)
                  have hpr2 := Lib.hid (show partsR (l0 :: tl) = if (decide (cls ≤ 1) && decide (lens ≤ 1)) && (bareB c == (lens == 0)) then some (c, fs, cls == 1, if lens = 0 then none else some n) else none from by rw [hpr.out, hst'.out]; rfl)
                  have hRd5 := Lib.hid (hRd4.out.gr hPW.w)
                  clear hPW
                  by_cases hf1 : (1 : Int) < lens
                  · have hR := Lib.hid (show readR s head = .bad 8 by rw [hR1.out, hpr2.out, decide_eq_false (show ¬ lens ≤ 1 by omega)]; simp)
                    have hRd := hRd5
                    have hfin := Lib.hid (hRd.out.bad 8 8 rfl hR.out)
                    obtain ⟨_, _, c0, c1, c2, n0, n1, n2, f0⟩ := hRd.out
                    go_wp2
                    refine bodyPost_ret (v := .tuple #[.agg #[.int .i64 0, .slice none 0 0, .string ⟨#[]⟩], .bool false, .int .i64 0, .int .i64 8]) ?_ rfl hfin.out
                    simp [results, Tryz.results19, go_sem, c0, c1, c2]
                  · by_cases hf2 : (1 : Int) < cls
                    · have hR := Lib.hid (show readR s head = .bad 8 by rw [hR1.out, hpr2.out, decide_eq_false (show ¬ cls ≤ 1 by omega)]; simp)
                      have hRd := hRd5
                      have hfin := Lib.hid (hRd.out.bad 8 8 rfl hR.out)
                      obtain ⟨_, _, c0, c1, c2, n0, n1, n2, f0⟩ := hRd.out
                      go_wp2
                      refine bodyPost_ret (v := .tuple #[.agg #[.int .i64 0, .slice none 0 0, .string ⟨#[]⟩], .bool false, .int .i64 0, .int .i64 8]) ?_ rfl hfin.out
                      simp [results, Tryz.results19, go_sem, c0, c1, c2]
                    · have hle : lens = 0 ∨ lens = 1 := by omega
                      have hfin2 : (decide (cls ≤ 1) && decide (lens ≤ 1)) = true := by rw [decide_eq_true (show cls ≤ 1 by omega), decide_eq_true (show lens ≤ 1 by omega)]; rfl
                      have hpr3 := Lib.hid (show partsR (l0 :: tl) = if (bareB c == (lens == 0)) then some (c, fs, cls == 1, if lens = 0 then none else some n) else none from by rw [hpr2.out, hfin2, Bool.true_and])
                      clear hfin2 hpr2
                      obtain ⟨bb, hbb⟩ : ∃ b, bareB c = b := ⟨_, rfl⟩
                      rw [hbb] at hb10
                      have hpr4 := hpr3.out
                      rw [hbb] at hpr4
                      have hpr5 := Lib.hid hpr4
                      clear hpr4 hpr3 hbb
                      rcases hle with rfl | rfl
                      · cases bb
                        · have hR := Lib.hid (show readR s head = .bad 8 by rw [hR1.out, hpr5.out]; rfl)
                          have hRd := hRd5
                          have hfin := Lib.hid (hRd.out.bad 8 8 rfl hR.out)
                          obtain ⟨_, _, c0, c1, c2, n0, n1, n2, f0⟩ := hRd.out
                          go_wp2_with fail
                          refine (hb10.out _).mono ?_
                          rintro e w9 ⟨rfl, rfl⟩
                          go_wp2
                          refine bodyPost_ret (v := .tuple #[.agg #[.int .i64 0, .slice none 0 0, .string ⟨#[]⟩], .bool false, .int .i64 0, .int .i64 8]) ?_ rfl hfin.out
                          simp [results, Tryz.results19, go_sem, c0, c1, c2]
                        · have hR9 : readR s head = if s.length < k + 4 + (if head then 0 else n) then .bad 7 else .good ⟨c, fs, (s.drop (k + 4)).take (if head then 0 else n)⟩ (cls == 1) (k + 4 + (if head then 0 else n)) := by
                            rw [hR1.out, hpr5.out]
                            have h0 := hnz'.out rfl
                            simp [h0]
                          have hR9' := Lib.hid hR9
                          clear hR9
                          have hce : ((cls : Int) == 1) = (cls == 1) := by
                            have : cls = 0 ∨ cls = 1 := by omega
                            rcases this with rfl | rfl <;> rfl
                          obtain ⟨v, m0, m1, m2, ho, hfz, hz, hgw⟩ := hPW5.out
                          obtain ⟨pv, capv, rfl, _⟩ := ho.at
                          have hnb1 : ∀ p : Addr, pv = some p → p.block ≠ w4.heap.size := fun p e => by
                            subst e
                            have := (World.ownsRow.lt ho p.block rfl).1
                            omega
                          have hnb2 : ∀ p : Addr, pv = some p → p.block ≠ w.heap.size := fun p e => by
                            subst e
                            have := (World.ownsRow.lt ho p.block rfl).1
                            have := hRd4.out.2.1
                            omega
                          have hne : w.heap.size ≠ w4.heap.size := by have := hRd4.out.2.1; omega
                          have hfat := Lib.hid ho.at
                          have hgW := Lib.hid hRd5.out.1
                          have hww := Lib.hid (show w.heap.size ≤ w4.heap.size by have := hRd4.out.2.1; omega)
                          clear ho hgw
                          cases head
                          · by_cases hlt : s.length < k + 4 + n
                            · have hltI : (s.length : Int) < (k : Int) + 4 + n := by omega
                              have hR := Lib.hid (show readR s false = .bad 7 by rw [hR9'.out]; exact if_pos hlt)
                              have hRd := hRd5
                              clear hlt hce
                              have hfin := Lib.hid (hRd.out.bad 7 7 rfl hR.out)
                              obtain ⟨_, _, c0, c1, c2, n0, n1, n2, f0⟩ := hRd.out
                              go_wp2_with fail
                              refine (hb10.out _).mono ?_
                              rintro e w9 ⟨rfl, rfl⟩
                              go_wp2
                              refine bodyPost_ret (v := .tuple #[.agg #[.int .i64 0, .slice none 0 0, .string ⟨#[]⟩], .bool false, .int .i64 0, .int .i64 7]) ?_ rfl hfin.out
                              simp [results, Tryz.results19, go_sem, c0, c1, c2]
                            · have hltI : ¬ (s.length : Int) < (k : Int) + 4 + n := by omega
                              have hRg : readR s false = .good ⟨c, fs, (s.drop (k + 4)).take n⟩ (cls == 1) (k + 4 + n) := by rw [hR9'.out]; exact if_neg hlt
                              obtain ⟨K, hK⟩ : ∃ K, n = K := ⟨_, rfl⟩
                              subst hK
                              have hex9 : (⟨s.toArray⟩ : ByteArray).extract (k + 4) (k + 4 + n) = ⟨((s.drop (k + 4)).take n).toArray⟩ := by rw [extract_mk, List.drop_take, show k + 4 + n - (k + 4) = n by omega]
                              obtain ⟨bd, hbd⟩ : ∃ b, (s.drop (k + 4)).take n = b := ⟨_, rfl⟩
                              rw [hbd] at hex9 hRg
                              have hfin := Lib.hid (show ReadPost (readR s false) w (.returned (.tuple #[.agg #[.int .i64 c, .slice pv fs.length capv, .string ⟨bd.toArray⟩], .bool ((cls : Int) == 1), .int .i64 ((k : Int) + 4 + n), .int .i64 0])) ((((wr.setCell ⟨w4.heap.size, 2, none⟩ (.string ⟨bd.toArray⟩)).setCell ⟨w.heap.size, 0, none⟩ (.int .i64 c)).setCell ⟨w.heap.size, 1, none⟩ (.slice pv fs.length capv)).setCell ⟨w.heap.size, 2, none⟩ (.string ⟨bd.toArray⟩)) from by
                                rw [hRg, hce]
                                exact ⟨.slice pv fs.length capv, by simp only [rdV, rdR, rdC, rdN, rdE, Rp.V, Int.natCast_add, Int.natCast_zero, Int.add_zero]; rfl, (((hfat.out.put' hnb1 2 _).put' hnb2 0 _).put' hnb2 1 _).put' hnb2 2 _, ((((hgW.out.setCell hww.out _).setCell (Nat.le_refl _) _).setCell (Nat.le_refl _) _).setCell (Nat.le_refl _) _)⟩)
                              obtain ⟨_, _, c0, c1, c2, n0, n1, n2, f0⟩ := hRd5.out
                              have hfz2 := hfz 2
                              clear hRg hce hlt
                              go_wp2_with fail
                              refine (hb10.out _).mono ?_
                              rintro e w9 ⟨rfl, rfl⟩
                              go_wp2
                              refine bodyPost_ret (v := .tuple #[.agg #[.int .i64 c, .slice pv fs.length capv, .string ⟨bd.toArray⟩], .bool ((cls : Int) == 1), .int .i64 ((k : Int) + 4 + n), .int .i64 0]) ?_ rfl hfin.out
                              simp [results, Tryz.results19, go_sem, c0, c1, c2, m0, m1, m2, hne, Ne.symm hne]
                          · have hlt : ¬ s.length < k + 4 + 0 := by omega
                            have hltI : ¬ (s.length : Int) < (k : Int) + 4 := by omega
                            have hRg : readR s true = .good ⟨c, fs, []⟩ (cls == 1) (k + 4 + 0) := by rw [hR9'.out]; exact if_neg hlt
                            have hfin := Lib.hid (show ReadPost (readR s true) w (.returned (.tuple #[.agg #[.int .i64 c, .slice pv fs.length capv, .string ByteArray.empty], .bool ((cls : Int) == 1), .int .i64 ((k : Int) + 4), .int .i64 0])) ((((wr.setCell ⟨w4.heap.size, 2, none⟩ (.string ByteArray.empty)).setCell ⟨w.heap.size, 0, none⟩ (.int .i64 c)).setCell ⟨w.heap.size, 1, none⟩ (.slice pv fs.length capv)).setCell ⟨w.heap.size, 2, none⟩ (.string ByteArray.empty)) from by
                              rw [hRg, hce]
                              exact ⟨.slice pv fs.length capv, by simp only [rdV, rdR, rdC, rdN, rdE, Rp.V, Int.natCast_add, Int.natCast_zero, Int.add_zero]; rfl, (((hfat.out.put' hnb1 2 _).put' hnb2 0 _).put' hnb2 1 _).put' hnb2 2 _, ((((hgW.out.setCell hww.out _).setCell (Nat.le_refl _) _).setCell (Nat.le_refl _) _).setCell (Nat.le_refl _) _)⟩)
                            obtain ⟨_, _, c0, c1, c2, n0, n1, n2, f0⟩ := hRd5.out
                            have hfz2 := hfz 2
                            clear hRg hce hlt
                            go_wp2_with fail
                            refine (hb10.out _).mono ?_
                            rintro e w9 ⟨rfl, rfl⟩
                            go_wp2
                            refine bodyPost_ret (v := .tuple #[.agg #[.int .i64 c, .slice pv fs.length capv, .string ByteArray.empty], .bool ((cls : Int) == 1), .int .i64 ((k : Int) + 4), .int .i64 0]) ?_ rfl hfin.out
                            simp [results, Tryz.results19, go_sem, c0, c1, c2, m0, m1, m2, hne, Ne.symm hne]
                      · cases bb
                        · have hR9 : readR s head = if s.length < k + 4 + (if head then 0 else n) then .bad 7 else .good ⟨c, fs, (s.drop (k + 4)).take (if head then 0 else n)⟩ (cls == 1) (k + 4 + (if head then 0 else n)) := by
                            rw [hR1.out, hpr5.out]
                            simp
                          have hR9' := Lib.hid hR9
                          clear hR9
                          have hce : ((cls : Int) == 1) = (cls == 1) := by
                            have : cls = 0 ∨ cls = 1 := by omega
                            rcases this with rfl | rfl <;> rfl
                          obtain ⟨v, m0, m1, m2, ho, hfz, hz, hgw⟩ := hPW5.out
                          obtain ⟨pv, capv, rfl, _⟩ := ho.at
                          have hnb1 : ∀ p : Addr, pv = some p → p.block ≠ w4.heap.size := fun p e => by
                            subst e
                            have := (World.ownsRow.lt ho p.block rfl).1
                            omega
                          have hnb2 : ∀ p : Addr, pv = some p → p.block ≠ w.heap.size := fun p e => by
                            subst e
                            have := (World.ownsRow.lt ho p.block rfl).1
                            have := hRd4.out.2.1
                            omega
                          have hne : w.heap.size ≠ w4.heap.size := by have := hRd4.out.2.1; omega
                          have hfat := Lib.hid ho.at
                          have hgW := Lib.hid hRd5.out.1
                          have hww := Lib.hid (show w.heap.size ≤ w4.heap.size by have := hRd4.out.2.1; omega)
                          clear ho hgw
                          cases head
                          · by_cases hlt : s.length < k + 4 + n
                            · have hltI : (s.length : Int) < (k : Int) + 4 + n := by omega
                              have hR := Lib.hid (show readR s false = .bad 7 by rw [hR9'.out]; exact if_pos hlt)
                              have hRd := hRd5
                              clear hlt hce
                              have hfin := Lib.hid (hRd.out.bad 7 7 rfl hR.out)
                              obtain ⟨_, _, c0, c1, c2, n0, n1, n2, f0⟩ := hRd.out
                              go_wp2_with fail
                              refine (hb10.out _).mono ?_
                              rintro e w9 ⟨rfl, rfl⟩
                              go_wp2
                              refine bodyPost_ret (v := .tuple #[.agg #[.int .i64 0, .slice none 0 0, .string ⟨#[]⟩], .bool false, .int .i64 0, .int .i64 7]) ?_ rfl hfin.out
                              simp [results, Tryz.results19, go_sem, c0, c1, c2]
                            · have hltI : ¬ (s.length : Int) < (k : Int) + 4 + n := by omega
                              have hRg : readR s false = .good ⟨c, fs, (s.drop (k + 4)).take n⟩ (cls == 1) (k + 4 + n) := by rw [hR9'.out]; exact if_neg hlt
                              obtain ⟨K, hK⟩ : ∃ K, n = K := ⟨_, rfl⟩
                              subst hK
                              have hex9 : (⟨s.toArray⟩ : ByteArray).extract (k + 4) (k + 4 + n) = ⟨((s.drop (k + 4)).take n).toArray⟩ := by rw [extract_mk, List.drop_take, show k + 4 + n - (k + 4) = n by omega]
                              obtain ⟨bd, hbd⟩ : ∃ b, (s.drop (k + 4)).take n = b := ⟨_, rfl⟩
                              rw [hbd] at hex9 hRg
                              have hfin := Lib.hid (show ReadPost (readR s false) w (.returned (.tuple #[.agg #[.int .i64 c, .slice pv fs.length capv, .string ⟨bd.toArray⟩], .bool ((cls : Int) == 1), .int .i64 ((k : Int) + 4 + n), .int .i64 0])) ((((wr.setCell ⟨w4.heap.size, 2, none⟩ (.string ⟨bd.toArray⟩)).setCell ⟨w.heap.size, 0, none⟩ (.int .i64 c)).setCell ⟨w.heap.size, 1, none⟩ (.slice pv fs.length capv)).setCell ⟨w.heap.size, 2, none⟩ (.string ⟨bd.toArray⟩)) from by
                                rw [hRg, hce]
                                exact ⟨.slice pv fs.length capv, by simp only [rdV, rdR, rdC, rdN, rdE, Rp.V, Int.natCast_add, Int.natCast_zero, Int.add_zero]; rfl, (((hfat.out.put' hnb1 2 _).put' hnb2 0 _).put' hnb2 1 _).put' hnb2 2 _, ((((hgW.out.setCell hww.out _).setCell (Nat.le_refl _) _).setCell (Nat.le_refl _) _).setCell (Nat.le_refl _) _)⟩)
                              obtain ⟨_, _, c0, c1, c2, n0, n1, n2, f0⟩ := hRd5.out
                              have hfz2 := hfz 2
                              clear hRg hce hlt
                              go_wp2_with fail
                              refine (hb10.out _).mono ?_
                              rintro e w9 ⟨rfl, rfl⟩
                              go_wp2
                              refine bodyPost_ret (v := .tuple #[.agg #[.int .i64 c, .slice pv fs.length capv, .string ⟨bd.toArray⟩], .bool ((cls : Int) == 1), .int .i64 ((k : Int) + 4 + n), .int .i64 0]) ?_ rfl hfin.out
                              simp [results, Tryz.results19, go_sem, c0, c1, c2, m0, m1, m2, hne, Ne.symm hne]
                          · have hlt : ¬ s.length < k + 4 + 0 := by omega
                            have hltI : ¬ (s.length : Int) < (k : Int) + 4 := by omega
                            have hRg : readR s true = .good ⟨c, fs, []⟩ (cls == 1) (k + 4 + 0) := by rw [hR9'.out]; exact if_neg hlt
                            have hfin := Lib.hid (show ReadPost (readR s true) w (.returned (.tuple #[.agg #[.int .i64 c, .slice pv fs.length capv, .string ByteArray.empty], .bool ((cls : Int) == 1), .int .i64 ((k : Int) + 4), .int .i64 0])) ((((wr.setCell ⟨w4.heap.size, 2, none⟩ (.string ByteArray.empty)).setCell ⟨w.heap.size, 0, none⟩ (.int .i64 c)).setCell ⟨w.heap.size, 1, none⟩ (.slice pv fs.length capv)).setCell ⟨w.heap.size, 2, none⟩ (.string ByteArray.empty)) from by
                              rw [hRg, hce]
                              exact ⟨.slice pv fs.length capv, by simp only [rdV, rdR, rdC, rdN, rdE, Rp.V, Int.natCast_add, Int.natCast_zero, Int.add_zero]; rfl, (((hfat.out.put' hnb1 2 _).put' hnb2 0 _).put' hnb2 1 _).put' hnb2 2 _, ((((hgW.out.setCell hww.out _).setCell (Nat.le_refl _) _).setCell (Nat.le_refl _) _).setCell (Nat.le_refl _) _)⟩)
                            obtain ⟨_, _, c0, c1, c2, n0, n1, n2, f0⟩ := hRd5.out
                            have hfz2 := hfz 2
                            clear hRg hce hlt
                            go_wp2_with fail
                            refine (hb10.out _).mono ?_
                            rintro e w9 ⟨rfl, rfl⟩
                            go_wp2
                            refine bodyPost_ret (v := .tuple #[.agg #[.int .i64 c, .slice pv fs.length capv, .string ByteArray.empty], .bool ((cls : Int) == 1), .int .i64 ((k : Int) + 4), .int .i64 0]) ?_ rfl hfin.out
                            simp [results, Tryz.results19, go_sem, c0, c1, c2, m0, m1, m2, hne, Ne.symm hne]
                        · have hR := Lib.hid (show readR s head = .bad 8 by rw [hR1.out, hpr5.out]; rfl)
                          have hRd := hRd5
                          have hfin := Lib.hid (hRd.out.bad 8 8 rfl hR.out)
                          obtain ⟨_, _, c0, c1, c2, n0, n1, n2, f0⟩ := hRd.out
                          go_wp2_with fail
                          refine (hb10.out _).mono ?_
                          rintro e w9 ⟨rfl, rfl⟩
                          go_wp2
                          refine bodyPost_ret (v := .tuple #[.agg #[.int .i64 0, .slice none 0 0, .string ⟨#[]⟩], .bool false, .int .i64 0, .int .i64 8]) ?_ rfl hfin.out
                          simp [results, Tryz.results19, go_sem, c0, c1, c2]
      · have hocc2 : Lib.occAt s eol2 k = false := by simpa using hocc
        rw [hocc2] at hcut
        have hnx := Lib.hid (step_no hno'.out hocc2)
        clear hocc hocc2
        go_wp2
        go_roundw
        case rel => exact ⟨k + 1, by omega, rfl, by go_num, hnx.out, hRd.out⟩
        case measure => simp [intOf]; omega
    · have hk4I : ¬ (k : Int) + 4 ≤ s.length := by omega
      have hRn := readR_none (head := head) (index_not (by omega) hno'.out)
      clear hno'
      by_cases h6 : s.length < 65536
      · rw [if_pos h6] at hRn
        have hR := Lib.hid hRn
        have h6I : (s.length : Int) < 65536 := by omega
        clear hRn h6
        have hfin := Lib.hid (hRd.out.bad 7 7 rfl hR.out)
        obtain ⟨_, _, c0, c1, c2, n0, n1, n2, f0⟩ := hRd.out
        go_wp2
        refine bodyPost_ret (v := .tuple #[.agg #[.int .i64 0, .slice none 0 0, .string ⟨#[]⟩], .bool false, .int .i64 0, .int .i64 7]) ?_ rfl hfin.out
        simp [results, Tryz.results19, go_sem, c0, c1, c2]
      · rw [if_neg h6] at hRn
        have hR := Lib.hid hRn
        have h6I : decide ((s.length : Int) < 65536) = false := decide_eq_false (by omega)
        clear hRn h6
        have hfin := Lib.hid (hRd.out.bad 8 8 rfl hR.out)
        obtain ⟨_, _, c0, c1, c2, n0, n1, n2, f0⟩ := hRd.out
        go_wp2
        refine bodyPost_ret (v := .tuple #[.agg #[.int .i64 0, .slice none 0 0, .string ⟨#[]⟩], .bool false, .int .i64 0, .int .i64 8]) ?_ rfl hfin.out
        simp [results, Tryz.results19, go_sem, c0, c1, c2]
end Go.Proofs.YtfcokldbpjkjpaaGreatDoor
