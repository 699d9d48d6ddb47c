/-
  Replies: what a Content-Length says.
-/
import Derived.Test.YtfcokldbpjkjpaaGreatDoorVa
import Derived.Lib.SlTrimSet
import Derived.Shelf.Strings.SlTrimAscii
namespace Go.Proofs.YtfcokldbpjkjpaaGreatDoor
open Go.RowKit
attribute [local go_sem] Oper.semAt_some

def digsL : List UInt8 := [48, 49, 50, 51, 52, 53, 54, 55, 56, 57]
theorem digs_eq (c : UInt8) : digsL.contains c = digB c := by
  refine u8_all (p := fun c => digsL.contains c = digB c) ?_ c
  decide +kernel
theorem dw_nil {α : Type} (p : α → Bool) : ∀ l : List α, (l.dropWhile p).isEmpty = l.all p
  | [] => rfl
  | a :: t => by
    cases h : p a
    · simp [List.dropWhile, h]
    · simp [List.dropWhile, h, dw_nil p t]
theorem all_rev {α : Type} (p : α → Bool) (l : List α) : l.reverse.all p = l.all p := by simp
theorem mem_tw {α : Type} {p : α → Bool} : ∀ {l : List α} {x : α}, x ∈ l.takeWhile p → p x = true
  | a :: t, x, h => by
    rw [List.takeWhile_cons] at h
    split at h
    · rename_i ha
      rcases List.mem_cons.1 h with rfl | h
      · exact ha
      · exact mem_tw h
    · cases h
theorem trims_all (l cs : List UInt8) : (Lib.trimS l cs).isEmpty = l.all (cs.contains ·) := by
  have e : ∀ x, (Lib.trimLeftS x cs).isEmpty = x.all (cs.contains ·) := fun x => dw_nil _ x
  unfold Lib.trimS
  rw [e]
  have h2 : Lib.trimRightS l cs = (l.reverse.dropWhile (cs.contains ·)).reverse := rfl
  rw [h2, all_rev, Bool.eq_iff_iff, List.all_eq_true, List.all_eq_true]
  constructor
  · intro h x hx
    have hr : x ∈ l.reverse := by simpa using hx
    rw [← List.takeWhile_append_dropWhile (p := (cs.contains ·)) (l := l.reverse), List.mem_append] at hr
    rcases hr with hr | hr
    · exact mem_tw hr
    · exact h x hr
  · intro h x hx
    exact h x (by simpa using (List.dropWhile_sublist _).subset hx)
theorem dig_val {c : UInt8} (h : digB c = true) : Lib.digitVal c = some (c.toNat - 48) := by
  rw [dig_eq, decide_eq_true_eq] at h
  unfold Lib.digitVal
  rw [if_pos (by omega)]
theorem dec_all : ∀ (l : List UInt8) (acc : Nat), l.all digB = true → ∃ n, Lib.decFrom acc l = some n ∧ n < (acc + 1) * 10 ^ l.length
  | [], acc, _ => ⟨acc, rfl, by simp⟩
  | c :: t, acc, h => by
    rw [List.all_cons, Bool.and_eq_true] at h
    have hv := dig_val h.1
    have h2 := h.1
    rw [dig_eq, decide_eq_true_eq] at h2
    obtain ⟨n, h3, h4⟩ := dec_all t (acc * 10 + (c.toNat - 48)) h.2
    refine ⟨n, by rw [Lib.decFrom, hv]; exact h3, Nat.lt_of_lt_of_le h4 ?_⟩
    rw [List.length_cons, Nat.pow_succ, Nat.mul_comm (10 ^ t.length) 10, ← Nat.mul_assoc]
    exact Nat.mul_le_mul_right _ (by omega)
theorem size_ok {s : List UInt8} (h0 : s ≠ []) (h6 : s.length ≤ 6) (hd : s.all digB = true) : ∃ n, sizeN s = some n ∧ Lib.atoi s = some (n : Int) ∧ n < 1000000 := by
  obtain ⟨n, h1, h2⟩ := dec_all s 0 hd
  have he : s.isEmpty = false := by simpa using h0
  have hn : Lib.decNat s = some n := by unfold Lib.decNat; rw [he]; exact h1
  refine ⟨n, ?_, ?_, ?_⟩
  · unfold sizeN
    rw [he, hd, decide_eq_true h6]
    exact hn
  · cases s with
    | nil => exact absurd rfl h0
    | cons c t =>
      have hc : digB c = true := by rw [List.all_cons, Bool.and_eq_true] at hd; exact hd.1
      rw [dig_eq, decide_eq_true_eq] at hc
      have e1 : (c == 45) = false := beq_eq_false_iff_ne.2 fun e => by subst e; simp at hc
      have e2 : (c == 43) = false := beq_eq_false_iff_ne.2 fun e => by subst e; simp at hc
      simp only [Lib.atoi, e1, e2, Bool.false_eq_true, if_false, hn]
      rfl
  · have : 10 ^ s.length ≤ 10 ^ 6 := Nat.pow_le_pow_right (by decide) h6
    omega
theorem size_no {s : List UInt8} (h : s = [] ∨ 6 < s.length ∨ s.all digB = false) : sizeN s = none := by
  unfold sizeN
  rw [if_neg]
  rcases h with rfl | h | h
  · simp
  · simp; intro _ h2; omega
  · rw [h]; simp
/-- What a size is as a number: below 0: it is none. -/
def sizeI (o : Option Nat) : Int := match o with
  | some n => n
  | none => -1
theorem trimd_any (l : List UInt8) (w : World) (hl : l.length ≤ 9223372036854775807) :
    Calls Tryz.prog 48 #[.string ⟨l.toArray⟩, .string ⟨#[48, 49, 50, 51, 52, 53, 54, 55, 56, 57]⟩] w fun e w' => e = .returned (.string ⟨(Lib.trimS l digsL).toArray⟩) ∧ Gr w w' :=
  Any.strings_Trim_laid Tryz.lays160 (by kernel_rfl) ⟨l.toArray⟩ ⟨#[48, 49, 50, 51, 52, 53, 54, 55, 56, 57]⟩ w (by rw [size_mk]; exact hl) (by decide) (ascii_of_all (by decide))
/-- Atoi of any text: a number and an error, or none. -/
def AtoiAll (w : World) (e : Ending) (w' : World) : Prop := ∃ (v : Int) (ev : Value), e = .returned (.tuple #[.int .i64 v, ev]) ∧ (ev = .nilIface ∨ ∃ N : Nat, ev = .iface 132 (.pointer (some ⟨N, 0, none⟩))) ∧ Gr w w'
theorem atoi_all (l : List UInt8) (hl : l.length ≤ 1000000) (w : World) (hG : G w) : Calls Tryz.prog 81 #[.string ⟨l.toArray⟩] w (AtoiAll w) := by
  obtain ⟨te, pe, hs⟩ := hG.syn
  obtain ⟨te2, pe2, hs2⟩ := hG.rng
  cases h : Lib.atoiAll l with
  | ok v => exact (Tryz.strconv_Atoi_ok ⟨l.toArray⟩ (by rw [size_mk]; omega) v h w).mono fun _ _ ⟨he, hw⟩ => ⟨v, .nilIface, he, .inl rfl, by
      rcases hw with rfl | ⟨t, rfl⟩
      · exact Gr.refl _
      · exact Lib.bytesWorld_below _ _ _⟩
  | range => exact (Tryz.strconv_Atoi_range ⟨l.toArray⟩ (by rw [size_mk]; omega) h (.iface te2 pe2) w hs2 (.inr ⟨te2, pe2, rfl⟩)).mono fun _ _ ⟨N, he, _, _, hb⟩ => ⟨_, _, he, .inr ⟨N, rfl⟩, hb⟩
  | _ => exact (Tryz.strconv_Atoi_syntax ⟨l.toArray⟩ (by rw [size_mk]; omega) h (.iface te pe) w hs (.inr ⟨te, pe, rfl⟩)).mono fun _ _ ⟨N, he, _, _, hb⟩ => ⟨0, _, he, .inr ⟨N, rfl⟩, hb⟩
set_option maxHeartbeats 2000000 in
set_option maxRecDepth 20000 in
theorem size_any (s : List UInt8) (hs : s.length ≤ 1000000) (w : World) (hG : G w) : Calls Tryz.prog 56 #[.string ⟨s.toArray⟩] w fun e w' => e = .returned (.int .i64 (sizeI (sizeN s))) ∧ Gr w w' := by
  have hG' := Lib.hid hG
  clear hG
  have ht := Lib.hid (fun W => trimd_any s W (by omega))
  have hta : (Lib.trimS s digsL).isEmpty = s.all digB := by
    rw [trims_all]
    congr 1
    funext c
    exact digs_eq c
  by_cases h6 : s.length ≤ 6
  · have h6I : ¬ (6 : Int) < s.length := by omega
    cases hat : Lib.atoi s with
    | none =>
      have hz := Lib.hid (show sizeI (sizeN s) = -1 by
        rw [size_no]
        · rfl
        · by_cases h0 : s = []
          · exact .inl h0
          · cases hd : s.all digB
            · exact .inr (.inr rfl)
            · obtain ⟨n, _, h2, _⟩ := size_ok h0 h6 hd
              rw [hat] at h2; cases h2)
      go_enter Tryz.func56, Tryz.ntmps56
      go_wp2_with fail
      refine (atoi_none s hat (by omega) _ hG'.out).mono ?_
      rintro e w1 ⟨N, rfl, g1⟩
      have g1' := Lib.hid g1
      clear g1
      go_wp2
      go_ret
      exact ⟨by rw [hz.out]; rfl, g1'.out⟩
    | some v =>
      have h0 : s ≠ [] := fun e => by rw [e] at hat; cases hat
      obtain ⟨x, hx⟩ : ∃ x, Lib.trimS s digsL = x := ⟨_, rfl⟩
      rw [hx] at ht hta
      cases hd : s.all digB
      · have hz := Lib.hid (show sizeI (sizeN s) = -1 by rw [size_no (.inr (.inr hd))]; rfl)
        rw [hd] at hta
        have hat' := Lib.hid hat
        clear hx hat hd h0
        go_enter Tryz.func56, Tryz.ntmps56
        go_wp2_with fail
        refine (atoi_some s v hat'.out (by omega) _).mono ?_
        rintro e w1 ⟨rfl, g1⟩
        have g1' := Lib.hid g1
        clear g1
        go_wp2_with fail
        refine (ht.out _).mono ?_
        rintro e w2 ⟨rfl, g2⟩
        have g2' := Lib.hid (g1'.out.trans g2)
        clear g2
        go_wp2
        go_ret
        exact ⟨by rw [hz.out]; rfl, g2'.out⟩
      · obtain ⟨n, h1, h2, _⟩ := size_ok h0 h6 hd
        rw [hat] at h2
        have hv := Option.some.inj h2
        have hz := Lib.hid (show sizeI (sizeN s) = v by rw [h1, hv]; rfl)
        rw [hd] at hta
        have hat' := Lib.hid hat
        clear hx hat hd h0 h1 h2 hv
        go_enter Tryz.func56, Tryz.ntmps56
        go_wp2_with fail
        refine (atoi_some s v hat'.out (by omega) _).mono ?_
        rintro e w1 ⟨rfl, g1⟩
        have g1' := Lib.hid g1
        clear g1
        go_wp2_with fail
        refine (ht.out _).mono ?_
        rintro e w2 ⟨rfl, g2⟩
        have g2' := Lib.hid (g1'.out.trans g2)
        clear g2
        go_wp2
        go_ret
        exact ⟨by rw [hz.out]; rfl, g2'.out⟩
  · have h6I : (6 : Int) < s.length := by omega
    have hz := Lib.hid (show sizeI (sizeN s) = -1 by rw [size_no (.inr (.inl (by omega)))]; rfl)
    clear h6 hta
    go_enter Tryz.func56, Tryz.ntmps56
    go_wp2_with fail
    refine (atoi_all s hs _ hG'.out).mono ?_
    rintro e w1 ⟨v, ev, rfl, hev, g1⟩
    have g1' := Lib.hid g1
    clear g1
    rcases hev with rfl | ⟨N, rfl⟩
    all_goals
      go_wp2
      go_ret
      exact ⟨by rw [hz.out]; rfl, g1'.out⟩
set_option maxHeartbeats 2000000 in
set_option maxRecDepth 20000 in
theorem rsize10_any (s : List UInt8) (hs : s.length ≤ 1000000) (w : World) : Calls Tryz.prog 37 #[.string ⟨s.toArray⟩] w fun e w' => e = .returned (.int .i64 (sizeI (sizeN s))) ∧ w = w' := by
  by_cases hb : s = [] ∨ 6 < s.length
  · have hz := Lib.hid (show sizeI (sizeN s) = -1 by
      rw [size_no]
      · rfl
      · rcases hb with h | h
        · exact .inl h
        · exact .inr (.inl h))
    rcases hb with rfl | h
    · go_enter Tryz.func37, Tryz.ntmps37
      go_wp2
      go_ret
      exact ⟨by rw [hz.out]; rfl, rfl⟩
    · have hI : (6 : Int) < s.length := by omega
      have hI2 : ((s.length : Int) == 0) = false := beq_eq_false_iff_ne.2 (by omega)
      go_enter Tryz.func37, Tryz.ntmps37
      go_wp2
      go_ret
      exact ⟨by rw [hz.out]; rfl, rfl⟩
  · have h0 : s ≠ [] := fun e => hb (.inl e)
    have h6 : s.length ≤ 6 := by omega
    have hl0 : 0 < s.length := List.length_pos_iff.2 h0
    have hI : ¬ (6 : Int) < s.length := by omega
    have hI2 : ((s.length : Int) == 0) = false := beq_eq_false_iff_ne.2 (by omega)
    have h0' := Lib.hid h0
    clear hb h0
    go_enter Tryz.func37, Tryz.ntmps37
    go_wp2
    go_loopw [3, 4] (fun n i W => ∃ k acc : Nat, k ≤ s.length ∧ n = .int .i64 acc ∧ i = .int .i64 k ∧ (s.take k).all digB = true ∧ Lib.decFrom 0 (s.take k) = some acc ∧ acc < 10 ^ k ∧ W = w) (fun _ i _ => s.length - (intOf i).toNat)
    case atStart => exact ⟨0, 0, Nat.zero_le _, rfl, rfl, rfl, rfl, by decide, rfl⟩
    case round =>
      obtain ⟨k, acc, hk, rfl, rfl, hall, hdec, hacc, rfl⟩ := hrel
      have hall' := Lib.hid hall
      have hdec' := Lib.hid hdec
      clear hall hdec
      have hp : 10 ^ k ≤ 10 ^ 6 := Nat.pow_le_pow_right (by decide) (by omega)
      have hac2 : acc < 1000000 := by omega
      by_cases hlt : k < s.length
      · obtain ⟨c, hcd⟩ : ∃ c, (⟨s.toArray⟩ : ByteArray)[k]'(by rw [size_mk]; exact hlt) = c := ⟨_, rfl⟩
        have hc2 := Lib.hid (show s[k] = c from hcd)
        have hkI : (k : Int) < s.length := by omega
        cases hd : digB c
        · have hz := Lib.hid (show sizeI (sizeN s) = -1 by
            rw [size_no (.inr (.inr (all_false hlt (by rw [hc2.out]; exact hd))))]; rfl)
          rw [dig_eq, decide_eq_false_iff_not] at hd
          have hw : (c.toNat : Int) < 48 ∨ (¬ (c.toNat : Int) < 48 ∧ 57 < (c.toNat : Int)) := by omega
          clear hd hp hacc
          rcases hw with h1 | ⟨h1, h2⟩
          all_goals
            go_wp2
            go_ret
            exact ⟨by rw [hz.out]; rfl, rfl⟩
        · have hdv := dig_val hd
          have hnx := Lib.hid (all_take_succ hall'.out hlt (by rw [hc2.out]; exact hd))
          have hdn := Lib.hid (Lib.decFrom_take s k 0 acc c (c.toNat - 48) hdec'.out (by rw [List.getElem?_eq_getElem hlt, hc2.out]) hdv)
          rw [dig_eq, decide_eq_true_eq] at hd
          have h1 : ¬ (c.toNat : Int) < 48 := by omega
          have h2 : ¬ 57 < (c.toNat : Int) := by omega
          have k1 : IntKind.i64.wrap (10 * (acc : Int)) = 10 * (acc : Int) := IntWalk.i64_in _ (by omega)
          have k2 : IntKind.i64.wrap (10 * (acc : Int) + c.toNat) = 10 * (acc : Int) + c.toNat := IntWalk.i64_in _ (by omega)
          have k3 : IntKind.i64.wrap (10 * (acc : Int) + c.toNat - 48) = ((acc * 10 + (c.toNat - 48) : Nat) : Int) := by rw [IntWalk.i64_in _ (by omega)]; omega
          have hpw := Lib.hid (show acc * 10 + (c.toNat - 48) < 10 ^ (k + 1) by rw [Nat.pow_succ]; omega)
          obtain ⟨y, hy⟩ : ∃ y, acc * 10 + (c.toNat - 48) = y := ⟨_, rfl⟩
          rw [hy] at k3 hpw hdn
          clear hd hp hacc hy hdv
          go_wp2
          go_roundw
          case rel => exact ⟨k + 1, y, by omega, rfl, by go_num, hnx.out, hdn.out, hpw.out, by first | trivial | rfl⟩
          case measure => simp [intOf]; omega
      · obtain rfl : k = s.length := by omega
        have hz := Lib.hid (show sizeI (sizeN s) = acc by
          have h1 := hall'.out
          have h2 := hdec'.out
          rw [List.take_length] at h1 h2
          have he : s.isEmpty = false := by simpa using h0'.out
          have : sizeN s = some acc := by
            unfold sizeN
            rw [he, h1, decide_eq_true h6]
            show Lib.decNat s = some acc
            unfold Lib.decNat
            rw [he]; exact h2
          rw [this]; rfl)
        go_wp2
        go_ret
        exact ⟨by rw [hz.out]; rfl, rfl⟩
end Go.Proofs.YtfcokldbpjkjpaaGreatDoor
