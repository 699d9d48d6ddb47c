/-
  The chapter's examples of requests. (Printed by mk_yq.py.)
-/
import Derived.Test.YtpncfeaaffgkfaaGreatDoorP43
namespace Go.Proofs.YtpncfeaaffgkfaaGreatDoor
open Go.RowKit
attribute [local go_sem] Oper.semAt_some

def codeS (s : List UInt8) : Nat := match oneS s with
  | .more => 0
  | .bad c => c
  | .got _ _ => 0
theorem codeS_eq (s : List UInt8) : codeQ s = codeS s := by unfold codeQ codeS; rw [oneS_eq]; rfl
def kq_a : List UInt8 := [71, 69, 84, 32, 47, 32, 72, 84, 84, 80, 47, 49, 46, 49, 13, 10, 13, 10]
theorem kc_a : codeQ kq_a = 400 := by rw [codeS_eq]; kernel_rfl
def kq_b : List UInt8 := [71, 69, 84, 32, 47, 32, 72, 84, 84, 80, 47, 49, 46, 48, 13, 10, 67, 111, 110, 116, 101, 110, 116, 45, 76, 101, 110, 103, 116, 104, 58, 32, 53, 48, 48, 48, 13, 10, 13, 10]
theorem kc_b : codeQ kq_b = 413 := by rw [codeS_eq]; kernel_rfl
def kq_c : List UInt8 := [71, 69, 84, 32, 47, 32, 72, 84, 84, 80, 47, 49, 46, 49, 13, 10, 72, 111, 115, 116, 58, 32, 120, 13, 10, 72, 111, 115, 116, 58, 32, 120, 13, 10, 13, 10]
theorem kc_c : codeQ kq_c = 400 := by rw [codeS_eq]; kernel_rfl
def kq_d : List UInt8 := [71, 69, 84, 32, 47, 32, 72, 84, 84, 80, 47, 49, 46, 49, 13, 10, 72, 111, 115, 116, 58, 32, 120, 13, 10, 84, 114, 97, 110, 115, 102, 101, 114, 45, 69, 110, 99, 111, 100, 105, 110, 103, 58, 32, 99, 104, 117, 110, 107, 101, 100, 13, 10, 67, 111, 110, 116, 101, 110, 116, 45, 76, 101, 110, 103, 116, 104, 58, 32, 49, 13, 10, 13, 10]
theorem kc_d : codeQ kq_d = 400 := by rw [codeS_eq]; kernel_rfl
def kq_e : List UInt8 := [71, 69, 84, 32, 47, 32, 72, 84, 84, 80, 47, 49, 46, 49, 13, 10, 72, 111, 115, 116, 58, 32, 120, 13, 10, 67, 111, 110, 116, 101, 110, 116, 45, 76, 101, 110, 103, 116, 104, 58, 32, 53, 13, 10, 67, 111, 110, 116, 101, 110, 116, 45, 76, 101, 110, 103, 116, 104, 58, 32, 48, 53, 13, 10, 13, 10]
theorem kc_e : codeQ kq_e = 400 := by rw [codeS_eq]; kernel_rfl
def kq_f : List UInt8 := [71, 69, 84, 32, 47, 32, 72, 84, 84, 80, 47, 49, 46, 49, 13, 10, 72, 111, 115, 116, 58, 32, 120, 13, 10, 67, 111, 110, 116, 101, 110, 116, 45, 76, 101, 110, 103, 116, 104, 58, 32, 53, 44, 32, 53, 13, 10, 13, 10]
theorem kc_f : codeQ kq_f = 400 := by rw [codeS_eq]; kernel_rfl
def kq_g : List UInt8 := [71, 69, 84, 32, 47, 32, 72, 84, 84, 80, 47, 49, 46, 49, 13, 10, 72, 111, 115, 116, 58, 32, 120, 13, 10, 97, 58, 32, 98, 13, 10, 32, 99, 13, 10, 13, 10]
theorem kc_g : codeQ kq_g = 400 := by rw [codeS_eq]; kernel_rfl
def kq_h : List UInt8 := [71, 69, 84, 32, 47, 32, 72, 84, 84, 80, 47, 49, 46, 49, 13, 10, 72, 111, 115, 116, 58, 32, 120, 13, 10, 84, 114, 97, 110, 115, 102, 101, 114, 45, 69, 110, 99, 111, 100, 105, 110, 103, 58, 32, 103, 122, 105, 112, 13, 10, 13, 10]
theorem kc_h : codeQ kq_h = 400 := by rw [codeS_eq]; kernel_rfl
def kq_i : List UInt8 := [71, 69, 84, 32, 47, 32, 72, 84, 84, 80, 47, 49, 46, 49, 13, 10, 72, 111, 115, 116, 58, 32, 120, 13, 10, 67, 111, 110, 116, 101, 110, 116, 45, 76, 101, 110, 103, 116, 104, 58, 32, 57, 57, 57, 57, 57, 57, 57, 57, 57, 57, 57, 57, 57, 57, 57, 57, 57, 57, 57, 57, 57, 57, 57, 57, 57, 57, 13, 10, 13, 10]
theorem kc_i : codeQ kq_i = 413 := by rw [codeS_eq]; kernel_rfl
def kq_m : List UInt8 := [71, 69, 84, 32, 47, 32, 72, 84, 84, 80, 47, 49, 46, 49, 13, 10, 72, 111, 115, 116, 58, 32, 120, 13, 10, 84, 114, 97, 110, 115, 102, 101, 114, 45, 69, 110, 99, 111, 100, 105, 110, 103, 58, 32, 67, 104, 117, 110, 107, 101, 100, 13, 10, 13, 10, 120, 13, 10]
theorem kc_m : codeQ kq_m = 400 := by rw [codeS_eq]; kernel_rfl
def kq_p : List UInt8 := [80, 79, 83, 84, 32, 47, 32, 72, 84, 84, 80, 47, 49, 46, 49, 13, 10, 72, 111, 115, 116, 58, 32, 120, 13, 10, 67, 111, 110, 116, 101, 110, 116, 45, 76, 101, 110, 103, 116, 104, 58, 32, 50, 13, 10, 13, 10, 104, 105]
def kr_p : Rq := ⟨[80, 79, 83, 84], [47], [], 11, [([72, 111, 115, 116], [120]), ([67, 111, 110, 116, 101, 110, 116, 45, 76, 101, 110, 103, 116, 104], [50])], [104, 105], false⟩
theorem kp_one : oneQ kq_p = .got kr_p 49 := by rw [← oneS_eq]; kernel_rfl
set_option maxRecDepth 100000 in
theorem kp_next : nextQ { ps0 with inp := kq_p } = ({ ps0 with inp := kq_p.drop 49 }, some kr_p) := by
  have h := (Stands.fresh (p := { ps0 with inp := kq_p }) (s := kq_p) rfl).next
  unfold NextOk at h
  rw [kp_one] at h
  exact Prod.ext h.2 h.1
theorem index_rep (n : Nat) : Lib.index (List.replicate n 120) eol2 = -1 := by
  rcases Lib.index_spec (List.replicate n 120) eol2 with ⟨h, _⟩ | ⟨i, h, hi, ho, _⟩
  · exact h
  · exfalso
    unfold Lib.occAt at ho
    rw [List.drop_replicate] at ho
    cases hn : n - i with
    | zero => rw [hn] at ho; cases ho
    | succ k =>
      rw [hn, List.replicate_succ] at ho
      simp [eol2, List.isPrefixOf] at ho
theorem code_rep (n : Nat) : codeQ (List.replicate n 120) = if 2048 ≤ n then 431 else 0 := by
  unfold codeQ oneQ
  rw [index_rep, if_neg (by decide), List.length_replicate]
  split
  · rename_i h
    split at h
    · cases h
    · rw [if_neg (by assumption)]
  · rename_i c h
    split at h
    · cases h; rw [if_pos (by assumption)]
    · cases h
  · rename_i h
    split at h <;> cases h
theorem repeatL_one (c : UInt8) (n : Nat) : Lib.repeatL [c] n = List.replicate n c := by
  induction n with
  | zero => rfl
  | succ n ih => unfold Lib.repeatL; rw [ih, List.replicate_succ]; rfl
theorem rep9_any (n : Nat) (hn : n ≤ 5000) (w : World) : Calls Tryz.prog 23 #[.string ⟨#[120]⟩, .int .i64 n] w fun e w' => e = .returned (.string ⟨(List.replicate n (120 : UInt8)).toArray⟩) ∧ Gr w w' := by
  rw [← repeatL_one]
  exact Tryz.strings_Repeat ⟨#[120]⟩ n w (by omega) (by show 1 * n ≤ _; omega)
set_option maxHeartbeats 16000000 in
set_option maxRecDepth 100000 in
theorem qknown_any (w : World) (hG : G w) : Calls Tryz.prog 7 #[] w fun e w' => e = .returned (.bool true) ∧ Gr w w' := by
  have hG' := Lib.hid hG
  clear hG
  go_enter Tryz.func7, Tryz.ntmps7
  go_wp2_with fail
  refine (PsL.new (w := w) hG'.out (Gr.refl w)).mono ?_
  rintro e w1 ⟨rfl, h1, hg1⟩
  have h1' := Lib.hid h1
  clear h1 hg1
  obtain ⟨B, hB⟩ : ∃ x, w.heap.size = x := ⟨_, rfl⟩
  rw [hB] at h1' ⊢
  clear hB
  go_wp2_with fail
  refine (h1'.out.feed kq_p (by decide)).mono ?_
  rintro e w2 ⟨rfl, T2, h2, _, _⟩
  rw [feed0] at h2
  have h2' := Lib.hid h2
  clear h2 h1'
  go_wp2_with fail
  refine (h2'.out.next (h2'.out.G hG'.out) _ _ kp_next (by decide)).mono ?_
  rintro e w3 ⟨rv, T3, rfl, hF, _, _, h3, _, _⟩
  obtain ⟨pf, capf, rfl, _⟩ := hF
  rw [show (rqO (some kr_p)).V (.slice pf (rqO (some kr_p)).fs.length capf) = .agg #[.string ⟨#[80, 79, 83, 84]⟩, .string ⟨#[47]⟩, .string ⟨#[]⟩, .int .i64 11, .slice pf 2 capf, .string ⟨#[104, 105]⟩, .bool false] from rfl, show (some kr_p).isSome = true from rfl]
  have gA := Gr.alloc w3 (.cells #[.string ⟨#[80, 79, 83, 84]⟩, .string ⟨#[47]⟩, .string ⟨#[]⟩, .int .i64 11, .slice pf 2 capf, .string ⟨#[104, 105]⟩, .bool false] 27)
  have y5 := cell_new7 w3 [.string ⟨#[80, 79, 83, 84]⟩, .string ⟨#[47]⟩, .string ⟨#[]⟩, .int .i64 11, .slice pf 2 capf, .string ⟨#[104, 105]⟩, .bool false] 27 5 _ rfl
  have h4 := Lib.hid (h3.gr gA)
  have hi := Lib.hid (show idleQ ({ ps0 with inp := kq_p.drop 49 } : Ps) = true from rfl)
  clear h3 h2' gA
  go_upto_region 4 with (fail)
  obtain ⟨R, hRe⟩ : ∃ x, w3.heap.size = x := ⟨_, rfl⟩
  rw [hRe] at y5 ⊢
  generalize (w3.alloc (.cells #[.string ⟨#[80, 79, 83, 84]⟩, .string ⟨#[47]⟩, .string ⟨#[]⟩, .int .i64 11, .slice pf 2 capf, .string ⟨#[104, 105]⟩, .bool false] 27)) = w4 at y5 h4 ⊢
  clear hRe
  have qa := Lib.hid (code_any kq_a 400 kc_a w4 (h4.out.G hG'.out) (by decide))
  unfold kq_a at qa
  go_wp2_with fail
  refine (qa.out).mono ?_
  rintro e w5 ⟨rfl, hb⟩
  have h5 := Lib.hid (h4.out.gr hb)
  replace y5 := hb.cell y5
  clear hb h4
  have qb := Lib.hid (code_any kq_b 413 kc_b w5 (h5.out.G hG'.out) (by decide))
  unfold kq_b at qb
  go_wp2_with fail
  refine (qb.out).mono ?_
  rintro e w6 ⟨rfl, hb⟩
  have h6 := Lib.hid (h5.out.gr hb)
  replace y5 := hb.cell y5
  clear hb h5
  have qc := Lib.hid (code_any kq_c 400 kc_c w6 (h6.out.G hG'.out) (by decide))
  unfold kq_c at qc
  go_wp2_with fail
  refine (qc.out).mono ?_
  rintro e w7 ⟨rfl, hb⟩
  have h7 := Lib.hid (h6.out.gr hb)
  replace y5 := hb.cell y5
  clear hb h6
  have qd := Lib.hid (code_any kq_d 400 kc_d w7 (h7.out.G hG'.out) (by decide))
  unfold kq_d at qd
  go_wp2_with fail
  refine (qd.out).mono ?_
  rintro e w8 ⟨rfl, hb⟩
  have h8 := Lib.hid (h7.out.gr hb)
  replace y5 := hb.cell y5
  clear hb h7
  have qe := Lib.hid (code_any kq_e 400 kc_e w8 (h8.out.G hG'.out) (by decide))
  unfold kq_e at qe
  go_wp2_with fail
  refine (qe.out).mono ?_
  rintro e w9 ⟨rfl, hb⟩
  have h9 := Lib.hid (h8.out.gr hb)
  replace y5 := hb.cell y5
  clear hb h8
  have qf := Lib.hid (code_any kq_f 400 kc_f w9 (h9.out.G hG'.out) (by decide))
  unfold kq_f at qf
  go_wp2_with fail
  refine (qf.out).mono ?_
  rintro e w10 ⟨rfl, hb⟩
  have h10 := Lib.hid (h9.out.gr hb)
  replace y5 := hb.cell y5
  clear hb h9
  have qg := Lib.hid (code_any kq_g 400 kc_g w10 (h10.out.G hG'.out) (by decide))
  unfold kq_g at qg
  go_wp2_with fail
  refine (qg.out).mono ?_
  rintro e w11 ⟨rfl, hb⟩
  have h11 := Lib.hid (h10.out.gr hb)
  replace y5 := hb.cell y5
  clear hb h10
  have qh := Lib.hid (code_any kq_h 400 kc_h w11 (h11.out.G hG'.out) (by decide))
  unfold kq_h at qh
  go_wp2_with fail
  refine (qh.out).mono ?_
  rintro e w12 ⟨rfl, hb⟩
  have h12 := Lib.hid (h11.out.gr hb)
  replace y5 := hb.cell y5
  clear hb h11
  have qi := Lib.hid (code_any kq_i 413 kc_i w12 (h12.out.G hG'.out) (by decide))
  unfold kq_i at qi
  go_wp2_with fail
  refine (qi.out).mono ?_
  rintro e w13 ⟨rfl, hb⟩
  have h13 := Lib.hid (h12.out.gr hb)
  replace y5 := hb.cell y5
  clear hb h12
  go_wp2_with fail
  refine (rep9_any 2048 (by decide) w13).mono ?_
  rintro e w14 ⟨rfl, hb⟩
  have h14 := Lib.hid (h13.out.gr hb)
  replace y5 := hb.cell y5
  clear hb h13
  obtain ⟨X2048, hX2048⟩ : ∃ x, List.replicate 2048 (120 : UInt8) = x := ⟨_, rfl⟩
  have q2048 := Lib.hid (code_any (List.replicate 2048 120) 431 (by rw [code_rep]; rfl) w14 (h14.out.G hG'.out) (by rw [List.length_replicate]; decide))
  rw [hX2048] at q2048 ⊢
  clear hX2048
  go_wp2_with fail
  refine (q2048.out).mono ?_
  rintro e w15 ⟨rfl, hb⟩
  have h15 := Lib.hid (h14.out.gr hb)
  replace y5 := hb.cell y5
  clear hb h14
  go_wp2_with fail
  refine (rep9_any 2047 (by decide) w15).mono ?_
  rintro e w16 ⟨rfl, hb⟩
  have h16 := Lib.hid (h15.out.gr hb)
  replace y5 := hb.cell y5
  clear hb h15
  obtain ⟨X2047, hX2047⟩ : ∃ x, List.replicate 2047 (120 : UInt8) = x := ⟨_, rfl⟩
  have q2047 := Lib.hid (code_any (List.replicate 2047 120) 0 (by rw [code_rep]; rfl) w16 (h16.out.G hG'.out) (by rw [List.length_replicate]; decide))
  rw [hX2047] at q2047 ⊢
  clear hX2047
  go_wp2_with fail
  refine (q2047.out).mono ?_
  rintro e w17 ⟨rfl, hb⟩
  have h17 := Lib.hid (h16.out.gr hb)
  replace y5 := hb.cell y5
  clear hb h16
  have qm := Lib.hid (code_any kq_m 400 kc_m w17 (h17.out.G hG'.out) (by decide))
  unfold kq_m at qm
  go_wp2_with fail
  refine (qm.out).mono ?_
  rintro e w18 ⟨rfl, hb⟩
  have h18 := Lib.hid (h17.out.gr hb)
  replace y5 := hb.cell y5
  clear hb h17
  go_wp2_with fail
  refine (awake9_any w18 (h18.out.G hG'.out)).mono ?_
  rintro e w19 ⟨rfl, hb⟩
  have h19 := Lib.hid (h18.out.gr hb)
  replace y5 := hb.cell y5
  clear hb h18
  go_wp2_with fail
  refine (h19.out.idle true hi.out).mono ?_
  rintro e w99 ⟨rfl, rfl⟩
  have hg := Lib.hid h19.out.g
  clear h19
  go_wp2
  go_ret
  exact ⟨rfl, hg.out⟩
end Go.Proofs.YtpncfeaaffgkfaaGreatDoor
