/-
  Requests: a head's first line; what fields say of a body's length.
-/
import Derived.Test.YtpncfeaaffgkfaaGreatDoorLc
import Derived.Test.YtpncfeaaffgkfaaGreatDoorL
namespace Go.Proofs.YtpncfeaaffgkfaaGreatDoor
open Go.RowKit
attribute [local go_sem] Oper.semAt_some

def digsQ : List UInt8 := [48, 49, 50, 51, 52, 53, 54, 55, 56, 57]
theorem digs_eqq (c : UInt8) : digsQ.contains c = digB c := by
  refine u8_all (p := fun c => digsQ.contains c = digB c) ?_ c
  decide +kernel
theorem dw_nilq {α : Type} (p : α → Bool) : ∀ l : List α, (l.dropWhile p).isEmpty = l.all p
  | [] => rfl
  | a :: t => by
    cases h : p a
    · simp [List.dropWhile, h]
    · simp [List.dropWhile, h, dw_nilq p t]
theorem all_revq {α : Type} (p : α → Bool) (l : List α) : l.reverse.all p = l.all p := by simp
theorem mem_twq {α : Type} {p : α → Bool} : ∀ {l : List α} {x : α}, x ∈ l.takeWhile p → p x = true
  | a :: t, x, h => by
    rw [List.takeWhile_cons] at h
    split at h
    · rename_i ha
      rcases List.mem_cons.1 h with rfl | h
      · exact ha
      · exact mem_twq h
    · cases h
theorem trims_allq (l cs : List UInt8) : (Lib.trimS l cs).isEmpty = l.all (cs.contains ·) := by
  have e : ∀ x, (Lib.trimLeftS x cs).isEmpty = x.all (cs.contains ·) := fun x => dw_nilq _ x
  unfold Lib.trimS
  rw [e]
  have h2 : Lib.trimRightS l cs = (l.reverse.dropWhile (cs.contains ·)).reverse := rfl
  rw [h2, all_revq, Bool.eq_iff_iff, List.all_eq_true, List.all_eq_true]
  constructor
  · intro h x hx
    have hr : x ∈ l.reverse := by simpa using hx
    rw [← List.takeWhile_append_dropWhile (p := (cs.contains ·)) (l := l.reverse), List.mem_append] at hr
    rcases hr with hr | hr
    · exact mem_twq hr
    · exact h x hr
  · intro h x hx
    exact h x (by simpa using (List.dropWhile_sublist _).subset hx)
theorem trimq_any (l : List UInt8) (w : World) (hl : l.length ≤ 9223372036854775807) :
    Calls Tryz.prog 64 #[.string ⟨l.toArray⟩, .string ⟨#[48, 49, 50, 51, 52, 53, 54, 55, 56, 57]⟩] w fun e w' => e = .returned (.string ⟨(Lib.trimS l digsQ).toArray⟩) ∧ Gr w w' :=
  Any.strings_Trim_laid Tryz.lays160 (by kernel_rfl) ⟨l.toArray⟩ ⟨#[48, 49, 50, 51, 52, 53, 54, 55, 56, 57]⟩ w (by rw [size_mk]; exact hl) (by decide) (ascii_of_all (by decide))
/-- Atoi of any text: a number and an error, or none. -/
def AtoiPost (s : List UInt8) (w : World) (e : Ending) (w' : World) : Prop := ∃ (v : Int) (ev : Value), e = .returned (.tuple #[.int .i64 v, ev]) ∧ ((ev = .nilIface ∧ numQ s = v) ∨ ((∃ N : Nat, ev = .iface 154 (.pointer (some ⟨N, 0, none⟩))) ∧ numQ s = 4097)) ∧ Gr w w'
theorem atoiq_any (l : List UInt8) (hl : l.length ≤ 1000000) (w : World) (hG : G w) : Calls Tryz.prog 111 #[.string ⟨l.toArray⟩] w (AtoiPost l w) := by
  obtain ⟨te, pe, hs⟩ := hG.syn
  obtain ⟨te2, pe2, hs2⟩ := hG.rng
  cases h : Lib.atoiAll l with
  | ok v => exact (Tryz.strconv_Atoi_ok ⟨l.toArray⟩ (by rw [size_mk]; omega) v h w).mono fun _ _ ⟨he, hw⟩ => ⟨v, .nilIface, he, .inl ⟨rfl, by unfold numQ; rw [h]⟩, by
      rcases hw with rfl | ⟨t, rfl⟩
      · exact Gr.refl _
      · exact Lib.bytesWorld_below _ _ _⟩
  | range => exact (Tryz.strconv_Atoi_range ⟨l.toArray⟩ (by rw [size_mk]; omega) h (.iface te2 pe2) w hs2 (.inr ⟨te2, pe2, rfl⟩)).mono fun _ _ ⟨N, he, _, _, hb⟩ => ⟨_, _, he, .inr ⟨⟨N, rfl⟩, by unfold numQ; rw [h]⟩, hb⟩
  | _ => exact (Tryz.strconv_Atoi_syntax ⟨l.toArray⟩ (by rw [size_mk]; omega) h (.iface te pe) w hs (.inr ⟨te, pe, rfl⟩)).mono fun _ _ ⟨N, he, _, _, hb⟩ => ⟨0, _, he, .inr ⟨⟨N, rfl⟩, by unfold numQ; rw [h]⟩, hb⟩
theorem line_len2 (l : List UInt8) : (lineB l).2.1.length ≤ l.length := by
  unfold lineB
  dsimp only
  split
  · have h1 := cut_le2 l [32]
    have h2 := cut_le1 (Lib.cut l [32]).2.1 [32]
    exact Nat.le_trans h2 h1
  · simp
/-- What a head's first line says. -/
def firstQ (s : List UInt8) : Rq × Bool := (⟨(lineB s).1, (targetB (lineB s).2.1).1, (targetB (lineB s).2.1).2.1, (lineB s).2.2.1, [], [], false⟩, (lineB s).2.2.2 && (targetB (lineB s).2.1).2.2)
set_option maxHeartbeats 8000000 in
set_option maxRecDepth 100000 in
theorem first_any (s : List UInt8) (w : World) (hG : G w) (hl : s.length ≤ 900000) :
    Calls Tryz.prog 74 #[.string ⟨s.toArray⟩] w fun e w' => e = .returned (.tuple #[(firstQ s).1.V (.slice none 0 0), .bool (firstQ s).2]) ∧ Gr w w' := by
  have hG' := Lib.hid hG
  obtain ⟨⟨m, t, v, ok⟩, h1⟩ : ∃ r, lineB s = r := ⟨_, rfl⟩
  have htl : t.length ≤ s.length := by have := line_len2 s; rw [h1] at this; exact this
  obtain ⟨⟨p, q, is⟩, h2⟩ : ∃ r, targetB t = r := ⟨_, rfl⟩
  have hF : firstQ s = (⟨m, p, q, v, [], [], false⟩, ok && is) := by unfold firstQ; rw [h1]; dsimp only; rw [h2]
  rw [hF]
  unfold Rq.V
  dsimp only
  have c1' := Lib.hid (fun W h => line_is s m t v ok h1 W h (by omega))
  have c2' := Lib.hid (fun W h => target_is t p q is h2 W h (by omega))
  clear h1 h2 hF hG
  have g0 := Lib.hid (Gr.alloc w (.cells #[.string ⟨#[]⟩, .string ⟨#[]⟩, .string ⟨#[]⟩, .int .i64 0, .slice none 0 0, .string ⟨#[]⟩, .bool false] 27))
  have c0 : (w.alloc (.cells #[.string ⟨#[]⟩, .string ⟨#[]⟩, .string ⟨#[]⟩, .int .i64 0, .slice none 0 0, .string ⟨#[]⟩, .bool false] 27)).cell? ⟨w.heap.size, 0, none⟩ = some (.string ⟨#[]⟩) := by simp [go_sem]
  have c1 : (w.alloc (.cells #[.string ⟨#[]⟩, .string ⟨#[]⟩, .string ⟨#[]⟩, .int .i64 0, .slice none 0 0, .string ⟨#[]⟩, .bool false] 27)).cell? ⟨w.heap.size, 1, none⟩ = some (.string ⟨#[]⟩) := by simp [go_sem]
  have c2 : (w.alloc (.cells #[.string ⟨#[]⟩, .string ⟨#[]⟩, .string ⟨#[]⟩, .int .i64 0, .slice none 0 0, .string ⟨#[]⟩, .bool false] 27)).cell? ⟨w.heap.size, 2, none⟩ = some (.string ⟨#[]⟩) := by simp [go_sem]
  have c3 : (w.alloc (.cells #[.string ⟨#[]⟩, .string ⟨#[]⟩, .string ⟨#[]⟩, .int .i64 0, .slice none 0 0, .string ⟨#[]⟩, .bool false] 27)).cell? ⟨w.heap.size, 3, none⟩ = some (.int .i64 0) := by simp [go_sem]
  have c4 : (w.alloc (.cells #[.string ⟨#[]⟩, .string ⟨#[]⟩, .string ⟨#[]⟩, .int .i64 0, .slice none 0 0, .string ⟨#[]⟩, .bool false] 27)).cell? ⟨w.heap.size, 4, none⟩ = some (.slice none 0 0) := by simp [go_sem]
  have c5 : (w.alloc (.cells #[.string ⟨#[]⟩, .string ⟨#[]⟩, .string ⟨#[]⟩, .int .i64 0, .slice none 0 0, .string ⟨#[]⟩, .bool false] 27)).cell? ⟨w.heap.size, 5, none⟩ = some (.string ⟨#[]⟩) := by simp [go_sem]
  have c6 : (w.alloc (.cells #[.string ⟨#[]⟩, .string ⟨#[]⟩, .string ⟨#[]⟩, .int .i64 0, .slice none 0 0, .string ⟨#[]⟩, .bool false] 27)).cell? ⟨w.heap.size, 6, none⟩ = some (.bool false) := by simp [go_sem]
  have f0 : ∀ o, (w.alloc (.cells #[.string ⟨#[]⟩, .string ⟨#[]⟩, .string ⟨#[]⟩, .int .i64 0, .slice none 0 0, .string ⟨#[]⟩, .bool false] 27)).frozen? ⟨w.heap.size, o, none⟩ = false := fun o => by simp [go_sem]
  have hz : w.heap.size < (w.alloc (.cells #[.string ⟨#[]⟩, .string ⟨#[]⟩, .string ⟨#[]⟩, .int .i64 0, .slice none 0 0, .string ⟨#[]⟩, .bool false] 27)).heap.size := by simp
  go_enter Tryz.func74, Tryz.ntmps74
  go_upto_region 1 with (fail)
  generalize (w.alloc (.cells #[.string ⟨#[]⟩, .string ⟨#[]⟩, .string ⟨#[]⟩, .int .i64 0, .slice none 0 0, .string ⟨#[]⟩, .bool false] 27)) = w1 at g0 c0 c1 c2 c3 c4 c5 c6 f0 hz ⊢
  go_wp2_with fail
  refine (c1'.out _ (hG'.out.gr g0.out)).mono ?_
  rintro e w2 ⟨rfl, hb⟩
  replace c0 := hb.cell c0
  replace c1 := hb.cell c1
  replace c2 := hb.cell c2
  replace c3 := hb.cell c3
  replace c4 := hb.cell c4
  replace c5 := hb.cell c5
  replace c6 := hb.cell c6
  replace f0 := fun o => (Below.frozen hb (show (⟨w.heap.size, o, none⟩ : Addr).block < w1.heap.size from hz)).trans (f0 o)
  replace hz := Nat.lt_of_lt_of_le hz (Below.size hb)
  have g2 := Lib.hid (g0.out.trans hb)
  clear hb
  go_wp2_with fail
  refine (c2'.out _ (hG'.out.gr g2.out)).mono ?_
  rintro e w3 ⟨rfl, hb⟩
  replace c0 := hb.cell c0
  replace c1 := hb.cell c1
  replace c2 := hb.cell c2
  replace c3 := hb.cell c3
  replace c4 := hb.cell c4
  replace c5 := hb.cell c5
  replace c6 := hb.cell c6
  replace f0 := fun o => (Below.frozen hb (show (⟨w.heap.size, o, none⟩ : Addr).block < w2.heap.size from hz)).trans (f0 o)
  have g3 := Lib.hid (g2.out.trans hb)
  clear hb hz
  have hS := Lib.hid (fun v0 v1 v2 v3 v4 v5 v6 => (((((((g3.out.setCell (p := ⟨w.heap.size, 0, none⟩) (Nat.le_refl _) v0).setCell (p := ⟨w.heap.size, 1, none⟩) (Nat.le_refl _) v1).setCell (p := ⟨w.heap.size, 2, none⟩) (Nat.le_refl _) v2).setCell (p := ⟨w.heap.size, 3, none⟩) (Nat.le_refl _) v3).setCell (p := ⟨w.heap.size, 4, none⟩) (Nat.le_refl _) v4).setCell (p := ⟨w.heap.size, 5, none⟩) (Nat.le_refl _) v5).setCell (p := ⟨w.heap.size, 6, none⟩) (Nat.le_refl _) v6))
  cases ok with
  | false =>
    go_wp2
    refine bodyPost_ret (v := .tuple #[.agg #[.string ⟨m.toArray⟩, .string ⟨p.toArray⟩, .string ⟨q.toArray⟩, .int .i64 v, .slice none 0 0, .string ⟨#[]⟩, .bool false], .bool false]) ?_ rfl ⟨rfl, hS.out _ _ _ _ _ _ _⟩
    simp [results, Tryz.results74, go_sem, c0, c1, c2, c3, c4, c5, c6]
  | true =>
    go_wp2
    refine bodyPost_ret (v := .tuple #[.agg #[.string ⟨m.toArray⟩, .string ⟨p.toArray⟩, .string ⟨q.toArray⟩, .int .i64 v, .slice none 0 0, .string ⟨#[]⟩, .bool false], .bool is]) ?_ rfl ⟨rfl, hS.out _ _ _ _ _ _ _⟩
    simp [results, Tryz.results74, go_sem, c0, c1, c2, c3, c4, c5, c6]
theorem any_take_false {α : Type} {l : List α} {p : α → Bool} {k : Nat} (h : (l.take k).any p = false) (hk : k < l.length) (hp : p l[k] = false) : (l.take (k + 1)).any p = false := by
  rw [List.take_succ_eq_append_getElem hk, List.any_append, h, List.any_cons, hp]; rfl
theorem any_at {α : Type} {l : List α} {p : α → Bool} {k : Nat} (hk : k < l.length) (hp : p l[k] = true) : l.any p = true := by
  rw [List.any_eq_true]; exact ⟨_, List.getElem_mem hk, hp⟩
set_option maxHeartbeats 8000000 in
set_option maxRecDepth 100000 in
theorem length_any (fs : List Fl) (t : Value) (w : World) (hG : G w) (hf : FieldsAt w t fs) (hn : fs.length ≤ 100000) (hs : ∀ f ∈ fs, f.1.length ≤ 900000 ∧ f.2.length ≤ 900000) :
    Calls Tryz.prog 77 #[t] w fun e w' => e = .returned (.int .i64 (lengthQ fs)) ∧ Gr w w' := by
  have hG' := Lib.hid hG
  have hget := Lib.hid (get_any t fs qLen w hG hf (by omega) (fun f hm => by have := hs f hm; omega) (by decide))
  obtain ⟨p, cap, rfl, hc⟩ := hf
  have hc' := Lib.hid hc
  have hs' := Lib.hid hs
  have hvl : (getB fs qLen).1.length ≤ 900000 := by
    unfold getB
    cases hx : (fs.filter fun f => alikeB f.1 qLen) with
    | nil => simp
    | cons a b =>
      have hm : a ∈ fs := (List.mem_filter.1 (hx ▸ List.mem_cons_self : a ∈ fs.filter fun f => alikeB f.1 qLen)).1
      simpa using (hs a hm).2
  have hL : lengthQ fs = if fs.any (fun f => alikeB f.1 qLen && f.2 != (getB fs qLen).1) then -1 else if (getB fs qLen).2 = 0 then 0 else if (getB fs qLen).1.isEmpty || !(getB fs qLen).1.all qDig then -1 else numQ (getB fs qLen).1 := rfl
  obtain ⟨⟨value, many⟩, hgb⟩ : ∃ x, getB fs qLen = x := ⟨_, rfl⟩
  rw [hgb] at hget hL hvl
  dsimp only at hget hL hvl
  have hL' := Lib.hid hL
  clear hc hs hgb hL hG
  go_enter Tryz.func77, Tryz.ntmps77
  go_wp2_with fail
  refine hget.out.mono ?_
  rintro e w1 ⟨rfl, hb⟩
  have g1 := Lib.hid hb
  clear hb
  go_wp2
  go_loopw [16] (fun i W => ∃ k : Nat, k ≤ fs.length ∧ i = .int .i64 k ∧ (fs.take k).any (fun f => alikeB f.1 qLen && f.2 != value) = false ∧ Gr w W) (fun i _ => fs.length - (intOf i).toNat)
  case atStart => exact ⟨0, Nat.zero_le _, rfl, rfl, g1.out⟩
  case round =>
    obtain ⟨k, hk, rfl, hany, hg⟩ := hrel
    have hany' := Lib.hid hany
    have hg' := Lib.hid hg
    clear hany
    by_cases hlt : k < fs.length
    · obtain ⟨b, off, rfl, h1, h2⟩ := hc'.out k hlt
      have d1 := hg.cell h1
      have d2 := hg.cell h2
      have hx9 := hs'.out _ (List.getElem_mem hlt)
      have hbad := Lib.hid (fun h => @any_at _ fs (fun f => alikeB f.1 qLen && f.2 != value) k hlt h)
      have hgood := Lib.hid (fun h => @any_take_false _ fs (fun f => alikeB f.1 qLen && f.2 != value) k hany'.out hlt h)
      obtain ⟨⟨xn, xv⟩, hx⟩ : ∃ x, fs[k] = x := ⟨_, rfl⟩
      rw [hx] at d1 d2 hx9 hbad hgood
      dsimp only at d1 d2 hx9 hbad hgood
      have hkI : (k : Int) < fs.length := by omega
      have q1 := Lib.hid (fun W hGW => alike_any xn qLen W hGW (by omega) (by decide))
      obtain ⟨a1, ha1⟩ : ∃ a, alikeB xn qLen = a := ⟨_, rfl⟩
      rw [ha1] at q1 hbad hgood
      clear ha1 hx h1 h2 hg
      have y0 : (wr.alloc (.cells #[.string ⟨xn.toArray⟩, .string ⟨xv.toArray⟩] 45)).cell? ⟨wr.heap.size, 0, none⟩ = some (.string ⟨xn.toArray⟩) := cell_new7 wr [.string ⟨xn.toArray⟩, .string ⟨xv.toArray⟩] _ 0 _ rfl
      have y1 : (wr.alloc (.cells #[.string ⟨xn.toArray⟩, .string ⟨xv.toArray⟩] 45)).cell? ⟨wr.heap.size, 1, none⟩ = some (.string ⟨xv.toArray⟩) := cell_new7 wr [.string ⟨xn.toArray⟩, .string ⟨xv.toArray⟩] _ 1 _ rfl
      have gx := Gr.alloc wr (.cells #[.string ⟨xn.toArray⟩, .string ⟨xv.toArray⟩] 45)
      go_upto_region 5 with (fail)
      generalize wr.alloc (.cells #[.string ⟨xn.toArray⟩, .string ⟨xv.toArray⟩] 45) = w2 at y0 y1 gx ⊢
      have g2 := Lib.hid (hg'.out.trans gx)
      clear gx d1 d2
      go_wp2_with fail
      refine (q1.out _ (hG'.out.gr g2.out)).mono ?_
      rintro e w3 ⟨rfl, hb⟩
      replace y1 := hb.cell y1
      have g3 := Lib.hid (g2.out.trans hb)
      clear hb y0
      cases a1 with
      | false =>
        have hok := Lib.hid (hgood.out rfl)
        go_wp2
        go_roundw
        case rel => exact ⟨k + 1, by omega, by go_num, hok.out, g3.out⟩
        case measure => simp [intOf]; omega
      | true =>
        cases hv : (xv == value)
        case true =>
          have hok := Lib.hid (hgood.out (by rw [beq_iff_eq] at hv; rw [hv]; simp))
          rw [beq_iff_eq] at hv
          subst hv
          go_wp2
          go_roundw
          case rel => exact ⟨k + 1, by omega, by go_num, hok.out, g3.out⟩
          case measure => simp [intOf]; omega
        case false =>
          have hfin := Lib.hid (show lengthQ fs = -1 by rw [hL'.out, hbad.out (by rw [bne, hv]; rfl)]; rfl)
          go_wp2
          go_ret
          exact ⟨by rw [hfin.out]; rfl, g3.out⟩
    · have hkl : k = fs.length := by omega
      have hkI : ¬ (k : Int) < fs.length := by omega
      have hL2 : lengthQ fs = if many = 0 then 0 else if value.isEmpty || !value.all qDig then -1 else numQ value := by
        rw [hL'.out]
        have h9 := hany'.out
        rw [hkl, List.take_length] at h9
        rw [h9]; rfl
      have hL2' := Lib.hid hL2
      clear hL2 hkl hg
      by_cases hm0 : many = 0
      · have hfin := Lib.hid (show lengthQ fs = 0 by rw [hL2'.out, if_pos hm0])
        subst hm0
        go_wp2
        go_ret
        exact ⟨by rw [hfin.out]; rfl, hg'.out⟩
      · have hmI : ((many : Int) == 0) = false := beq_eq_false_iff_ne.2 (by omega)
        cases hve : value.isEmpty with
        | true =>
          have hfin := Lib.hid (show lengthQ fs = -1 by rw [hL2'.out, if_neg hm0, hve]; rfl)
          clear hm0
          go_wp2
          go_ret
          exact ⟨by rw [hfin.out]; rfl, hg'.out⟩
        | false =>
          have ht := Lib.hid (fun W => trimq_any value W (by omega))
          have hta : (Lib.trimS value digsQ).isEmpty = value.all qDig := by
            rw [trims_allq]
            congr 1
            funext c
            exact digs_eqq c
          obtain ⟨tt, htt⟩ : ∃ x, Lib.trimS value digsQ = x := ⟨_, rfl⟩
          rw [htt] at ht hta
          have htt0 := htt
          clear htt htt0
          cases hdg : value.all qDig with
          | false =>
            have hfin := Lib.hid (show lengthQ fs = -1 by rw [hL2'.out, if_neg hm0, hdg, Bool.or_comm]; rfl)
            have hte : tt.isEmpty = false := hta.trans hdg
            clear hm0 hta hdg
            go_wp2_with fail
            refine (ht.out _).mono ?_
            rintro e w2 ⟨rfl, hb⟩
            have g2 := Lib.hid (hg'.out.trans hb)
            clear hb
            go_wp2
            go_ret
            exact ⟨by rw [hfin.out]; rfl, g2.out⟩
          | true =>
            have hfin := Lib.hid (show lengthQ fs = numQ value by rw [hL2'.out, if_neg hm0, hve, hdg]; rfl)
            have hte : tt = [] := by simpa using hta.trans hdg
            subst hte
            have hat := Lib.hid (fun W hGW => atoiq_any value (by omega) W hGW)
            clear hm0 hta hdg
            go_wp2_with fail
            refine (ht.out _).mono ?_
            rintro e w2 ⟨rfl, hb⟩
            have g2 := Lib.hid (hg'.out.trans hb)
            clear hb
            go_wp2_with fail
            refine (hat.out _ (hG'.out.gr g2.out)).mono ?_
            rintro e w3 ⟨v, ev, rfl, hv, hb⟩
            have g3 := Lib.hid (g2.out.trans hb)
            clear hb
            rcases hv with ⟨rfl, hv⟩ | ⟨⟨N, rfl⟩, hv⟩
            · have hf2 := Lib.hid (hfin.out.trans hv)
              clear hv
              go_wp2
              go_ret
              exact ⟨by rw [hf2.out]; rfl, g3.out⟩
            · have hf2 := Lib.hid (hfin.out.trans hv)
              clear hv
              go_wp2
              go_ret
              exact ⟨by rw [hf2.out]; rfl, g3.out⟩
end Go.Proofs.YtpncfeaaffgkfaaGreatDoor
