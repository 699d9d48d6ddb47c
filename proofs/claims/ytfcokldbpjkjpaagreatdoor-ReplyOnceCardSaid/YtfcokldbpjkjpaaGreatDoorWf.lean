/-
  Replies: the walk over ReplyOnce.
-/
import Derived.Test.YtfcokldbpjkjpaaGreatDoorWe
namespace Go.Proofs.YtfcokldbpjkjpaaGreatDoor
open Go.RowKit
attribute [local go_sem] Oper.semAt_some

def fsum : List (List UInt8 × List UInt8) → Nat
  | [] => 0
  | f :: t => f.1.length + f.2.length + fsum t
theorem fsum_app : ∀ (a b : List (List UInt8 × List UInt8)), fsum (a ++ b) = fsum a + fsum b
  | [], b => by simp [fsum]
  | f :: t, b => by
    have := fsum_app t b
    simp only [List.cons_append, fsum]; omega
theorem fsum_mem : ∀ {fs : List (List UInt8 × List UInt8)} {f : List UInt8 × List UInt8}, f ∈ fs → f.1.length + f.2.length ≤ fsum fs
  | a :: t, f, h => by
    rcases List.mem_cons.1 h with rfl | h
    · simp only [fsum]; omega
    · have := fsum_mem h
      simp only [fsum]; omega
def lsum : List (List UInt8) → Nat
  | [] => 0
  | l :: t => l.length + lsum t
theorem fl_fsum : ∀ (fs : List (List UInt8 × List UInt8)), (fs.flatMap fline).length = fsum fs + 4 * fs.length
  | [] => by simp [fsum]
  | f :: t => by
    have := fl_fsum t
    simp only [List.flatMap_cons, List.length_append, fsum, List.length_cons]
    have e : (fline f).length = f.1.length + f.2.length + 4 := by simp [fline, eolL]; omega
    omega
theorem stepH_sum {c : Int} {st st' : HdSt} {l : List UInt8} (h : stepH c st l = some st') : fsum st'.1 ≤ fsum st.1 + 2 * l.length := by
  unfold stepH at h
  split at h
  · cases h
  · split at h
    · split at h
      · cases hz : sizeN (parseB l).2.1 with
        | none => rw [hz] at h; cases h
        | some m => rw [hz] at h; cases h; simp
      · cases h
    · split at h
      · split at h
        · cases h; simp
        · cases h
      · cases h
        have h1 := parse_len1 l
        have h2 := parse_len2 l
        rw [fsum_app]
        simp only [fsum]; omega
theorem foldH_sum {c : Int} : ∀ (ls : List (List UInt8)) {st st' : HdSt}, foldH c st ls = some st' → fsum st'.1 ≤ fsum st.1 + 2 * lsum ls
  | [], st, st', h => by cases h; simp
  | l :: t, st, st', h => by
    unfold foldH at h
    cases e : stepH c st l with
    | none => rw [e] at h; cases h
    | some y =>
      rw [e] at h
      have a := stepH_sum e
      have b := foldH_sum t h
      simp only [lsum]; omega
theorem lsum_split : ∀ (n : Nat) (s : List UInt8), s.length ≤ n → lsum (splitE s) ≤ s.length
  | 0, s, h => by
    obtain rfl : s = [] := List.eq_nil_of_length_eq_zero (by omega)
    simp [splitE, lsum]
  | n + 1, [], h => by simp [splitE, lsum]
  | n + 1, c :: t, h => by
    rw [List.length_cons] at h
    by_cases hc : c = 13 ∧ t.head? = some 10
    · obtain ⟨rfl, h2⟩ := hc
      cases t with
      | nil => simp at h2
      | cons d t =>
        simp at h2; subst h2
        rw [List.length_cons] at h
        have h1 := lsum_split n t (by omega)
        rw [splitE_eol]
        simp only [lsum, List.length_cons, List.length_nil]; omega
    · have h1 := lsum_split n t (by omega)
      rw [splitE_other hc]
      obtain ⟨a, b, hab⟩ : ∃ a b, splitE t = a :: b := by
        cases e : splitE t with
        | nil => exact absurd e (splitE_ne t)
        | cons a b => exact ⟨a, b, rfl⟩
      rw [hab] at h1 ⊢
      simp only [List.headD_cons, List.tail_cons, lsum, List.length_cons] at h1 ⊢
      omega
theorem good_open {s : List UInt8} {head cl : Bool} {r : Rp} {n : Nat} (h : readR s head = .good r cl n) : fsum r.fs ≤ 2 * s.length ∧ r.b.length ≤ s.length := by
  rcases Lib.index_spec s eol2 with ⟨hix, _⟩ | ⟨i, hix, hi, _, _⟩
  · rw [readR_none hix] at h
    split at h <;> cases h
  · rw [readR_at hix] at h
    have z1 := lsum_split _ (s.take i) (Nat.le_refl _)
    rw [List.length_take] at z1
    cases hp : partsR (splitE (s.take i)) with
    | none => rw [hp] at h; cases h
    | some y =>
      obtain ⟨c, fs, cl2, o⟩ := y
      rw [hp] at h
      dsimp only at h
      obtain ⟨K, hK⟩ : ∃ K, (if head = true then 0 else o.getD 0) = K := ⟨_, rfl⟩
      rw [hK] at h
      split at h
      · cases h
      · simp only [Rd10.good.injEq] at h
        obtain ⟨rfl, rfl, rfl⟩ := h
        refine ⟨?_, by show (List.take _ _).length ≤ _; rw [List.length_take, List.length_drop]; omega⟩
        unfold partsR at hp
        split at hp
        · rename_i c' r' hst
          cases hf : foldH (c' : Int) ([], false, none) (splitE (s.take i)).tail with
          | none => rw [hf] at hp; cases hp
          | some st =>
            rw [hf] at hp
            have h9 := foldH_sum _ hf
            dsimp only [Option.bind] at hp
            split at hp
            · cases hp
              have h8 : lsum (splitE (s.take i)).tail ≤ lsum (splitE (s.take i)) := by
                cases splitE (s.take i) with
                | nil => simp [lsum]
                | cons a b => simp [lsum]
              simp only [fsum] at h9
              show fsum fs ≤ _
              omega
            · cases hp
        · cases hp
theorem readR_bad {s : List UInt8} {head : Bool} {e : Nat} (h : readR s head = .bad e) : e = 7 ∨ e = 8 := by
  unfold readR at h
  split at h
  · split at h
    · cases h; exact .inl rfl
    · cases h; exact .inr rfl
  · split at h
    · cases h; exact .inr rfl
    · dsimp only at h
      revert h
      generalize (if head = true then 0 else _) = K
      intro h
      split at h
      · cases h; exact .inl rfl
      · cases h
theorem head_len2 {r : Rp} (close : Bool) (hf : fsum r.fs ≤ 40000) (hl : r.fs.length ≤ 20001) (hb : r.b.length ≤ 20000) (hc : 0 ≤ r.code ∧ r.code ≤ 9223372036854775807) : (headR r close).length ≤ 200000 := by
  rw [head_eq]
  have h1 := fl_fsum r.fs
  have h5 := Lib.itoa_length_le r.code (by omega) (by omega)
  have h6 := Lib.itoa_length_le r.b.length (by omega) (by omega)
  have h7 := reason_len r.code
  have e1 : (line1 r.code).length ≤ 100 := by simp [line1, aheadL, eolL]; omega
  have e2 : (lineN r).length ≤ 100 := by
    unfold lineN
    split
    · simp
    · simp [kLen, eolL]; omega
  have e3 : (lineC close).length ≤ 100 := by cases close <;> decide
  simp only [List.length_append]
  have e4 : eolL.length = 2 := rfl
  omega
set_option maxHeartbeats 16000000 in
set_option maxRecDepth 100000 in
theorem once10_any (s : List UInt8) (head : Bool) (w : World) (hG : G w) (hs : s.length ≤ 9223372036854775807) :
    Calls Tryz.prog 8 #[.string ⟨s.toArray⟩, .bool head] w fun e w' => e = .returned (.bool true) ∧ Gr w w' := by
  have hG' := Lib.hid hG
  clear hG
  by_cases hl : s.length ≤ 20000
  · have hlI : ¬ (20000 : Int) < s.length := by omega
    cases hx : readR s head with
    | bad ee =>
      have hrd := Lib.hid (fun W (hg : Gr w W) => read_is s head _ hx W (hG'.out.gr hg) (by omega))
      have hsm := Lib.hid (fun t' W (h2 : FieldsAt W t' []) => same_is ⟨0, [], []⟩ ⟨0, [], []⟩ true (sameB_refl _) t' (.slice none 0 0) W h2 (fieldsAt_none _ _) (by simp) (by simp))
      have hee := readR_bad hx
      unfold ReadPost rdV at hrd
      unfold Rp.V at hrd hsm
      dsimp only [rdR, rdC, rdN, rdE] at hrd hsm
      clear hx hl
      rcases hee with rfl | rfl
      all_goals
        go_enter Tryz.func8, Tryz.ntmps8
        go_wp2_with fail
        refine (awake10_any _ hG'.out).mono ?_
        rintro e w1 ⟨rfl, hb⟩
        have g1 := Lib.hid hb
        clear hb
        go_wp2_with fail
        refine (hrd.out _ g1.out).mono ?_
        rintro e w2 ⟨v, rfl, hF, hb⟩
        have g2 := Lib.hid (g1.out.trans hb)
        obtain ⟨pv, cv, rfl, _⟩ := id hF
        have gq := Gr.alloc w2 (.cells #[.int .i64 0, .slice pv 0 cv, .string ⟨#[]⟩] 24)
        have b0 : (w2.alloc (.cells #[.int .i64 0, .slice pv 0 cv, .string ⟨#[]⟩] 24)).cell? ⟨w2.heap.size, 0, none⟩ = some (.int .i64 0) := by simp [go_sem]
        have b1 : (w2.alloc (.cells #[.int .i64 0, .slice pv 0 cv, .string ⟨#[]⟩] 24)).cell? ⟨w2.heap.size, 1, none⟩ = some (.slice pv 0 cv) := by simp [go_sem]
        have b2 : (w2.alloc (.cells #[.int .i64 0, .slice pv 0 cv, .string ⟨#[]⟩] 24)).cell? ⟨w2.heap.size, 2, none⟩ = some (.string ⟨#[]⟩) := by simp [go_sem]
        have hF2 := Lib.hid (show FieldsAt (w2.alloc (.cells #[.int .i64 0, .slice pv 0 cv, .string ⟨#[]⟩] 24)) (.slice pv 0 cv) [] from hF.gr gq)
        clear hb hF
        go_upto_region 6 with (fail)
        generalize (w2.alloc (.cells #[.int .i64 0, .slice pv 0 cv, .string ⟨#[]⟩] 24)) = w3 at gq b0 b1 b2 hF2 ⊢
        have g3 := Lib.hid (g2.out.trans gq)
        clear gq
        go_wp2_with fail
        refine (hsm.out _ _ hF2.out).mono ?_
        rintro e w4 ⟨rfl, hb⟩
        have g4 := Lib.hid (g3.out.trans hb)
        clear hb
        go_wp2
        go_ret
        exact ⟨rfl, g4.out⟩
    | good r cl n =>
      obtain ⟨hR, hc9, hns⟩ := read_right hx (by omega)
      obtain ⟨hfs, hbs⟩ := good_open hx
      have hfl := readR_len s head
      rw [hx] at hfl
      have hfl2 : r.fs.length ≤ 20001 := by simp only [rdR] at hfl; omega
      obtain ⟨cn, hcn, hc1, hc2, _, hb6, _⟩ := rightR_open hR
      have hhl := head_len2 cl (by omega) hfl2 (by omega) (r := r) ⟨by omega, by omega⟩
      have htx : ∀ f ∈ r.fs, f.1.length ≤ 1000000 ∧ f.2.length ≤ 1000000 := fun f hf => by have := fsum_mem hf; omega
      have hT : bytesR r false cl = some (headR r cl ++ r.b) := by unfold bytesR; rw [hR, hc9]; rfl
      have hrb := read_back (head := false) hR hc9 []
      simp only [Bool.false_eq_true, if_false, List.append_nil] at hrb
      have hTl : (headR r cl ++ r.b).length ≤ 800000 := by rw [List.length_append]; omega
      obtain ⟨T, hTe⟩ : ∃ T, headR r cl ++ r.b = T := ⟨_, rfl⟩
      rw [hTe] at hT hrb hTl
      have hrd := Lib.hid (fun W (hg : Gr w W) => read_is s head _ hx W (hG'.out.gr hg) (by omega))
      have hrd2 := Lib.hid (fun W (hg : Gr w W) => read_is T false _ hrb W (hG'.out.gr hg) hTl)
      have hri := Lib.hid (fun t W (hg : Gr w W) (hf : FieldsAt W t r.fs) => right_is r t true hR W (hG'.out.gr hg) hf (by omega) htx (by omega))
      have hby := Lib.hid (fun t W (hg : Gr w W) (hf : FieldsAt W t r.fs) => bytes_is r t false cl _ hT W (hG'.out.gr hg) hf (by omega) htx (by omega) (by omega))
      have hsm := Lib.hid (fun t' t W (h1 : FieldsAt W t' r.fs) (h2 : FieldsAt W t r.fs) => same_is r r true (sameB_refl _) t' t W h1 h2 (by omega) (by omega))
      clear hT hrb hTe hhl htx hx hR hc9 hfs hbs hfl hcn hc1 hc2 hb6
      obtain ⟨c, fs, b⟩ := r
      unfold ReadPost rdV at hrd hrd2
      unfold Rp.V at hrd hrd2 hri hby hsm
      unfold byteV at hby
      dsimp only [rdR, rdC, rdN, rdE] at hrd hrd2 hri hby hsm hfl2
      have hnI : (n : Int) ≤ s.length := by omega
      have hn0 : (0 : Int) ≤ n := by omega
      clear hl hns
      go_enter Tryz.func8, Tryz.ntmps8
      go_wp2_with fail
      refine (awake10_any _ hG'.out).mono ?_
      rintro e w1 ⟨rfl, hb⟩
      have g1 := Lib.hid hb
      clear hb
      go_wp2_with fail
      refine (hrd.out _ g1.out).mono ?_
      rintro e w2 ⟨v, rfl, hF, hb⟩
      have g2 := Lib.hid (g1.out.trans hb)
      obtain ⟨pv, cv, rfl, _⟩ := id hF
      have gq := Gr.alloc w2 (.cells #[.int .i64 c, .slice pv fs.length cv, .string ⟨b.toArray⟩] 24)
      have b0 : (w2.alloc (.cells #[.int .i64 c, .slice pv fs.length cv, .string ⟨b.toArray⟩] 24)).cell? ⟨w2.heap.size, 0, none⟩ = some (.int .i64 c) := by simp [go_sem]
      have b1 : (w2.alloc (.cells #[.int .i64 c, .slice pv fs.length cv, .string ⟨b.toArray⟩] 24)).cell? ⟨w2.heap.size, 1, none⟩ = some (.slice pv fs.length cv) := by simp [go_sem]
      have b2 : (w2.alloc (.cells #[.int .i64 c, .slice pv fs.length cv, .string ⟨b.toArray⟩] 24)).cell? ⟨w2.heap.size, 2, none⟩ = some (.string ⟨b.toArray⟩) := by simp [go_sem]
      have hF2 := Lib.hid (show FieldsAt (w2.alloc (.cells #[.int .i64 c, .slice pv fs.length cv, .string ⟨b.toArray⟩] 24)) (.slice pv fs.length cv) fs from hF.gr gq)
      clear hb hF
      go_upto_region 6 with (fail)
      generalize (w2.alloc (.cells #[.int .i64 c, .slice pv fs.length cv, .string ⟨b.toArray⟩] 24)) = w3 at gq b0 b1 b2 hF2 ⊢
      have g3 := Lib.hid (g2.out.trans gq)
      clear gq
      go_wp2_with fail
      refine (hri.out _ _ g3.out hF2.out).mono ?_
      rintro e w4 ⟨rfl, hb⟩
      replace b0 := hb.cell b0
      replace b1 := hb.cell b1
      replace b2 := hb.cell b2
      have g4 := Lib.hid (g3.out.trans hb)
      have hF4 := Lib.hid (hF2.out.gr hb)
      clear hb
      go_wp2_with fail
      refine (hby.out _ _ g4.out hF4.out).mono ?_
      rintro e w5 ⟨rfl, hb⟩
      replace b0 := hb.cell b0
      replace b1 := hb.cell b1
      replace b2 := hb.cell b2
      have g5 := Lib.hid (g4.out.trans hb)
      have hF5 := Lib.hid (hF4.out.gr hb)
      clear hb
      go_wp2_with fail
      refine (hrd2.out _ g5.out).mono ?_
      rintro e w6 ⟨v, rfl, hF, hb⟩
      have g6 := Lib.hid (g5.out.trans hb)
      have hF6 := Lib.hid (hF5.out.gr hb)
      obtain ⟨pv2, cv2, rfl, _⟩ := id hF
      replace b0 := hb.cell b0
      replace b1 := hb.cell b1
      replace b2 := hb.cell b2
      have gq := Gr.alloc w6 (.cells #[.int .i64 c, .slice pv2 fs.length cv2, .string ⟨b.toArray⟩] 24)
      have d0 : (w6.alloc (.cells #[.int .i64 c, .slice pv2 fs.length cv2, .string ⟨b.toArray⟩] 24)).cell? ⟨w6.heap.size, 0, none⟩ = some (.int .i64 c) := by simp [go_sem]
      have d1 : (w6.alloc (.cells #[.int .i64 c, .slice pv2 fs.length cv2, .string ⟨b.toArray⟩] 24)).cell? ⟨w6.heap.size, 1, none⟩ = some (.slice pv2 fs.length cv2) := by simp [go_sem]
      have d2 : (w6.alloc (.cells #[.int .i64 c, .slice pv2 fs.length cv2, .string ⟨b.toArray⟩] 24)).cell? ⟨w6.heap.size, 2, none⟩ = some (.string ⟨b.toArray⟩) := by simp [go_sem]
      have hF7 := Lib.hid (show FieldsAt (w6.alloc (.cells #[.int .i64 c, .slice pv2 fs.length cv2, .string ⟨b.toArray⟩] 24)) (.slice pv2 fs.length cv2) fs from hF.gr gq)
      have hF8 := Lib.hid (hF6.out.gr gq)
      replace b0 := gq.cell b0
      replace b1 := gq.cell b1
      replace b2 := gq.cell b2
      clear hb hF
      go_upto_region 12 with (fail)
      generalize (w6.alloc (.cells #[.int .i64 c, .slice pv2 fs.length cv2, .string ⟨b.toArray⟩] 24)) = w7 at gq b0 b1 b2 d0 d1 d2 hF7 hF8 ⊢
      have g7 := Lib.hid (g6.out.trans gq)
      clear gq
      go_wp2_with fail
      refine (hsm.out _ _ _ hF7.out hF8.out).mono ?_
      rintro e w8 ⟨rfl, hb⟩
      have g8 := Lib.hid (g7.out.trans hb)
      clear hb
      go_wp2
      go_ret
      exact ⟨rfl, g8.out⟩
  · have hlI : (20000 : Int) < s.length := by omega
    clear hl
    go_enter Tryz.func8, Tryz.ntmps8
    go_wp2_with fail
    refine (awake10_any _ hG'.out).mono ?_
    rintro e w1 ⟨rfl, hb⟩
    have g1 := Lib.hid hb
    clear hb
    go_wp2
    go_ret
    exact ⟨rfl, g1.out⟩
end Go.Proofs.YtfcokldbpjkjpaaGreatDoor
