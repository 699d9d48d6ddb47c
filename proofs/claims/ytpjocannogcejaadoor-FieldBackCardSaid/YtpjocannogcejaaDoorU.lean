/-
  The walk over FieldBack.
-/
import Derived.Test.YtpjocannogcejaaDoorL
import Derived.Test.YtpjocannogcejaaDoorP3
import Derived.Test.YtpjocannogcejaaDoorAl
namespace Go.Proofs.YtpjocannogcejaaDoor
open Go.RowKit

set_option maxHeartbeats 1000000 in
theorem pads_any (n : UInt8) (w : World) : Calls Tryd.prog 23 #[.int .u8 n.toNat] w fun e w' => e = .returned (.string ⟨(padB n).toArray⟩) ∧ Gr w w' := by
  have hn5 : n.toNat < 256 := n.toNat_lt
  go_enter Tryd.func23, Tryd.ntmps23
  go_wp2_with fail
  go_loopw [3, 4] (fun s i wr => ∃ k : Nat, k ≤ n.toNat % 5 ∧ s = .string ⟨(padL n.toNat k).toArray⟩ ∧ i = .int .u8 k ∧ Gr w wr) (fun _ i _ => n.toNat % 5 - (intOf i).toNat)
  case atStart => exact ⟨0, Nat.zero_le _, rfl, rfl, Gr.refl _⟩
  case round =>
    obtain ⟨k, hk, rfl, rfl, hg⟩ := hrel
    by_cases hkl : k < n.toNat % 5
    · have hcv : ∀ (W : World) (c : UInt8), (convert 38 9 (.slice (some ⟨W.heap.size, 0, none⟩) 1 1)).run Tryd.prog (W.alloc (.cells #[.int .u8 c.toNat] 5)) = .ok (.string ⟨#[c]⟩) (W.alloc (.cells #[.int .u8 c.toNat] 5)) := fun W c =>
        run_convert_bytes_back _ _ _ 5 ⟨W.heap.size, 0, none⟩ 1 [c] Tryd.underlying38 Tryd.underlying5 Tryd.underlying9 (fun j hj => by
          have : j = 0 := by simpa using hj
          subst this
          simp [Addr.add, go_sem])
      have hsucc := padL_succ n.toNat k
      have hpl := padL_len n.toNat k
      obtain ⟨q, hq⟩ : ∃ q, padL n.toNat k = q := ⟨_, rfl⟩
      rw [hq] at hsucc hpl ⊢
      have hql : q.length ≤ 5 := by omega
      clear hpl
      go_wp2
      go_roundw
      case rel =>
        refine ⟨k + 1, by omega, ?_, by go_num, hg.alloc1 _⟩
        rw [hsucc]
        have e : (⟨#[32, 9]⟩ : ByteArray)[(n.toNat + k) % 2]'(by have : ByteArray.size ⟨#[32, 9]⟩ = 2 := rfl; omega) = padAt n.toNat k := by
          unfold padAt
          rcases Nat.mod_two_eq_zero_or_one (n.toNat + k) with h | h
          · simp only [h]; rfl
          · simp only [h]; rfl
        rw [e]
        exact congrArg Value.string (cat_mk q [padAt n.toNat k])
      case measure => simp [intOf]; omega
    · obtain rfl : k = n.toNat % 5 := by omega
      go_wp2
      go_ret
      exact ⟨rfl, hg⟩

theorem blank_ne {c : UInt8} (h : isBlank c = false) : ((c.toNat : Int) == 32) = false ∧ ((c.toNat : Int) == 9) = false := by
  rw [blank_eq, decide_eq_false_iff_not] at h
  exact ⟨beq_eq_false_iff_ne.2 (fun e => h (.inr e)), beq_eq_false_iff_ne.2 (fun e => h (.inl e))⟩

theorem alloc_field {o : Oper} (h : o.op = .alloc 23) (a : Act) (W : World) :
    (execOp a.eval o).run Tryd.prog W = .ok (.value (.pointer (some ⟨W.heap.size, 0, none⟩))) (W.alloc (.cells #[.string ⟨#[]⟩, .string ⟨#[]⟩] 23)) := by
  obtain ⟨dst, op, type, pos, after, guard⟩ := o
  simp only at h
  subst h
  simp [go_sem]
theorem store_field {o : Oper} {a : Act} {w0 W : World} {p : Nat} {x0 y0 : Value} {x y : ByteArray} (i j : Operand) (h : o.op = .store 23 i j) (hi : a.eval i = .pointer (some ⟨p, 0, none⟩)) (hj : a.eval j = .agg #[.string x, .string y])
    (hW : Gr w0 W) (hp : w0.heap.size ≤ p) (hz : W.heap[p]? = some (.cells #[x0, y0] 23)) :
    ∃ W', (execOp a.eval o).run Tryd.prog W = .ok .skip W' ∧ Gr w0 W' ∧ W'.heap[p]? = some (.cells #[.string x, .string y] 23) := by
  obtain ⟨dst, op, type, pos, after, guard⟩ := o
  simp only at h
  subst h
  have u1 : W.cell? ⟨p, 0, none⟩ = some x0 := by simp [World.cell?, hz]
  have u2 : W.cell? ⟨p, 1, none⟩ = some y0 := by simp [World.cell?, hz]
  have u3 : W.frozen? ⟨p, 0, none⟩ = false := by simp [World.frozen?, hz]
  have u4 : W.frozen? ⟨p, 1, none⟩ = false := by simp [World.frozen?, hz]
  refine ⟨(W.setCell ⟨p, 0, none⟩ (.string x)).setCell ⟨p, 1, none⟩ (.string y), ?_, (hW.setCell hp _).setCell hp _, ?_⟩
  · obtain ⟨ρ, hρ⟩ : ∃ ρ, a.eval = ρ := ⟨_, rfl⟩
    rw [hρ] at hi hj ⊢
    simp [go_sem, hi, hj, u1, u2, u3, u4]
  · have hl := (Array.getElem?_eq_some_iff.1 hz).1
    simp only [World.setCell, Array.getElem?_modify, if_true, hz, Option.map_some]
    rfl
theorem pads_later {b : UInt8} {pb : List UInt8} {W : World} (h : ∀ w : World, Calls Tryd.prog 23 #[.int .u8 b.toNat] w fun e w' => e = .returned (.string ⟨pb.toArray⟩) ∧ Gr w w') (x : Later (Gr W)) :
    Calls Tryd.prog 23 #[.int .u8 b.toNat] x.w fun e w'' => e = .returned (.string ⟨pb.toArray⟩) ∧ ∃ y : Later (Gr W), w'' = y.w :=
  Calls.later ((h x.w).mono fun _ _ ⟨h1, h2⟩ => ⟨h1, x.ok.trans h2⟩)
theorem parse_later {l n v : List UInt8} {ok : Bool} (h : parseB l = (n, v, ok)) (hl : l.length < 4294967281) {W : World} (x : Later (Gr W)) (hG : G x.w) :
    Calls Tryd.prog 10 #[.string ⟨l.toArray⟩] x.w fun e w'' => e = .returned (.tuple #[.agg #[.string ⟨n.toArray⟩, .string ⟨v.toArray⟩], .bool ok]) ∧ ∃ y : Later (Gr W), w'' = y.w :=
  Calls.later ((parse_is l n v ok h x.w hG hl).mono fun _ _ ⟨h1, h2⟩ => ⟨h1, x.ok.trans h2⟩)
set_option maxHeartbeats 2000000 in
theorem back_any (name value : List UInt8) (a b : UInt8) (w : World) (hG : G w) (hn : name.length ≤ 9223372036854775807) (hv : value.length ≤ 9223372036854775807) :
    Calls Tryd.prog 7 #[.string ⟨name.toArray⟩, .string ⟨value.toArray⟩, .int .u8 a.toNat, .int .u8 b.toNat] w fun e w' => e = .returned (.bool true) ∧ Gr w w' := by
  have hG' := Lib.hid hG
  clear hG
  go_enter Tryd.func7, Tryd.ntmps7
  go_wp2_with fail
  refine (awake_any _ hG'.out).mono ?_
  rintro e w1 ⟨rfl, hbb⟩
  have hg1 := Lib.hid hbb
  clear hbb
  by_cases hl : name.length ≤ 2000 ∧ value.length ≤ 2000
  · obtain ⟨hln, hlv⟩ := hl
    have law := back_law (name := name) (value := value) (padB_blank a) (padB_blank b)
    have hpa : (padB a).length ≤ 5 := by unfold padB; rw [padL_len]; omega
    have hpb : (padB b).length ≤ 5 := by unfold padB; rw [padL_len]; omega
    obtain ⟨pa, hpad⟩ : ∃ x, padB a = x := ⟨_, rfl⟩
    obtain ⟨pb, hpbd⟩ : ∃ x, padB b = x := ⟨_, rfl⟩
    have hca := pads_any a
    have hcb := pads_any b
    rw [hpad] at hca hpa
    rw [hpbd] at hcb hpb
    rw [hpad, hpbd] at law
    have hca' := Lib.hid hca
    have hcb' := Lib.hid hcb
    clear hca hcb hpad hpbd
    obtain ⟨x1, hx1⟩ : ∃ x, name ++ [58] = x := ⟨_, rfl⟩
    obtain ⟨x2, hx2⟩ : ∃ x, x1 ++ pa = x := ⟨_, rfl⟩
    obtain ⟨x3, hx3⟩ : ∃ x, x2 ++ value = x := ⟨_, rfl⟩
    obtain ⟨x4, hx4⟩ : ∃ x, x3 ++ pb = x := ⟨_, rfl⟩
    rw [hx1, hx2, hx3, hx4] at law
    have e1 : (⟨name.toArray⟩ : ByteArray) ++ ⟨#[58]⟩ = ⟨x1.toArray⟩ := hx1 ▸ cat_mk name [58]
    have e2 : (⟨x1.toArray⟩ : ByteArray) ++ ⟨pa.toArray⟩ = ⟨x2.toArray⟩ := hx2 ▸ cat_mk x1 pa
    have e3 : (⟨x2.toArray⟩ : ByteArray) ++ ⟨value.toArray⟩ = ⟨x3.toArray⟩ := hx3 ▸ cat_mk x2 value
    have e4 : (⟨x3.toArray⟩ : ByteArray) ++ ⟨pb.toArray⟩ = ⟨x4.toArray⟩ := hx4 ▸ cat_mk x3 pb
    have n1 : x1.length ≤ 2001 := by rw [← hx1]; simp; omega
    have n2 : x2.length ≤ 2006 := by rw [← hx2]; simp; omega
    have n3 : x3.length ≤ 4006 := by rw [← hx3]; simp; omega
    have n4 : x4.length ≤ 4011 := by rw [← hx4]; simp; omega
    clear hx1 hx2 hx3 hx4
    have law' := Lib.hid law
    clear law
    go_wp2_with fail
    refine (hca'.out _).mono ?_
    rintro e w2 ⟨rfl, hbb⟩
    have hg2 := Lib.hid (hg1.out.trans hbb)
    clear hbb
    go_wp2_with fail
    refine (hcb'.out _).mono ?_
    rintro e w3 ⟨rfl, hbb⟩
    have hg3 := Lib.hid (hg2.out.trans hbb)
    clear hbb
    rcases law'.out with hp | ⟨n, v, hp, ht, hends, hp1, hp2, hnn, hnl, hvl⟩
    · have hp' := Lib.hid hp
      clear hp
      go_wp2_with fail
      refine (parse_is x4 [] [] false hp'.out _ (hG'.out.gr hg3.out) (by omega)).mono ?_
      rintro e w4 ⟨rfl, hbb⟩
      have hg4 := Lib.hid (hg3.out.trans hbb)
      clear hbb
      go_wp2_with fail
      go_ret
      exact ⟨rfl, hg4.out.alloc1 _⟩
    · have hnl2 : n.length ≤ 4011 := by omega
      have hvl2 : v.length ≤ 4011 := by omega
      obtain ⟨y1, hy1⟩ : ∃ x, n ++ [58] = x := ⟨_, rfl⟩
      obtain ⟨y2, hy2⟩ : ∃ x, y1 ++ v = x := ⟨_, rfl⟩
      obtain ⟨y3, hy3⟩ : ∃ x, y1 ++ pb = x := ⟨_, rfl⟩
      obtain ⟨y4, hy4⟩ : ∃ x, y3 ++ v = x := ⟨_, rfl⟩
      obtain ⟨y5, hy5⟩ : ∃ x, y4 ++ pa = x := ⟨_, rfl⟩
      rw [hy1, hy2] at hp1
      rw [hy1, hy3, hy4, hy5] at hp2
      have d1 : (⟨n.toArray⟩ : ByteArray) ++ ⟨#[58]⟩ = ⟨y1.toArray⟩ := hy1 ▸ cat_mk n [58]
      have d2 : (⟨y1.toArray⟩ : ByteArray) ++ ⟨v.toArray⟩ = ⟨y2.toArray⟩ := hy2 ▸ cat_mk y1 v
      have d3 : (⟨y1.toArray⟩ : ByteArray) ++ ⟨pb.toArray⟩ = ⟨y3.toArray⟩ := hy3 ▸ cat_mk y1 pb
      have d4 : (⟨y3.toArray⟩ : ByteArray) ++ ⟨v.toArray⟩ = ⟨y4.toArray⟩ := hy4 ▸ cat_mk y3 v
      have d5 : (⟨y4.toArray⟩ : ByteArray) ++ ⟨pa.toArray⟩ = ⟨y5.toArray⟩ := hy5 ▸ cat_mk y4 pa
      have m1 : y1.length ≤ 4012 := by rw [← hy1]; simp; omega
      have m2 : y2.length ≤ 8100 := by rw [← hy2]; simp; omega
      have m3 : y3.length ≤ 4100 := by rw [← hy3]; simp; omega
      have m4 : y4.length ≤ 8200 := by rw [← hy4]; simp; omega
      have m5 : y5.length ≤ 8300 := by rw [← hy5]; simp; omega
      clear hy1 hy2 hy3 hy4 hy5
      have hp' := Lib.hid hp
      have ht' := Lib.hid ht
      have hp1' := Lib.hid hp1
      have hp2' := Lib.hid hp2
      have hnn' := Lib.hid hnn
      clear hp ht hp1 hp2 hnn law'
      obtain ⟨tn, htn⟩ : ∃ t, tokB name = t := ⟨_, rfl⟩
      have htn' := Lib.hid htn
      rw [htn] at hnn'
      clear htn
      go_wp2_with fail
      refine (parse_is x4 n v true hp'.out _ (hG'.out.gr hg3.out) (by omega)).mono ?_
      rintro e w4 ⟨rfl, hbb⟩
      have hg4 := Lib.hid (hg3.out.trans hbb)
      clear hbb
      by_cases hv0 : v.length = 0
      · go_wp2_with fail
        refine (token_is n true ht'.out _ (by omega)).mono ?_
        rintro e w5 ⟨rfl, rfl⟩
        have q1 : (w4.alloc (.cells #[.string ⟨n.toArray⟩, .string ⟨v.toArray⟩] 23)).cell? ⟨w4.heap.size, 0, none⟩ = some (.string ⟨n.toArray⟩) := by simp [go_sem]
        have q2 : (w4.alloc (.cells #[.string ⟨n.toArray⟩, .string ⟨v.toArray⟩] 23)).cell? ⟨w4.heap.size, 1, none⟩ = some (.string ⟨v.toArray⟩) := by simp [go_sem]
        have hg5 := Lib.hid (hg4.out.alloc1 (.cells #[.string ⟨n.toArray⟩, .string ⟨v.toArray⟩] 23))
        generalize (w4.alloc (.cells #[.string ⟨n.toArray⟩, .string ⟨v.toArray⟩] 23)) = w5 at q1 q2 hg5 ⊢
        go_wp2_with fail
        refine (parse_is y2 n v true hp1'.out _ (hG'.out.gr hg5.out) (by omega)).mono ?_
        rintro e w6 ⟨rfl, hbb⟩
        have r1 := hbb.cell q1
        have r2 := hbb.cell q2
        have hg6 := Lib.hid (hg5.out.trans hbb)
        clear hbb q1 q2
        go_wp2_with fail
        have s1 : (w6.alloc (.cells #[.string ⟨n.toArray⟩, .string ⟨v.toArray⟩] 23)).cell? ⟨w4.heap.size, 0, none⟩ = some (.string ⟨n.toArray⟩) := (Gr.alloc _ _).cell r1
        have s2 : (w6.alloc (.cells #[.string ⟨n.toArray⟩, .string ⟨v.toArray⟩] 23)).cell? ⟨w4.heap.size, 1, none⟩ = some (.string ⟨v.toArray⟩) := (Gr.alloc _ _).cell r2
        have s3 : (w6.alloc (.cells #[.string ⟨n.toArray⟩, .string ⟨v.toArray⟩] 23)).cell? ⟨w6.heap.size, 0, none⟩ = some (.string ⟨n.toArray⟩) := by simp [go_sem]
        have s4 : (w6.alloc (.cells #[.string ⟨n.toArray⟩, .string ⟨v.toArray⟩] 23)).cell? ⟨w6.heap.size, 1, none⟩ = some (.string ⟨v.toArray⟩) := by simp [go_sem]
        have hg7 := Lib.hid (hg6.out.alloc1 (.cells #[.string ⟨n.toArray⟩, .string ⟨v.toArray⟩] 23))
        clear r1 r2
        generalize (w6.alloc (.cells #[.string ⟨n.toArray⟩, .string ⟨v.toArray⟩] 23)) = w7 at s1 s2 s3 s4 hg7 ⊢
        have z1 : ¬ 9223372036854775807 < n.length + 1 := by omega
        have z2 : ¬ 9223372036854775807 < y1.length + pb.length := by omega
        have z3 : ¬ 9223372036854775807 < y3.length + v.length := by omega
        have z4 : ¬ 9223372036854775807 < y4.length + pa.length := by omega
        refine wp_region_later_store (z := .cells #[.string ⟨#[]⟩, .string ⟨#[]⟩] 23) 17 16 (.cells #[.string ⟨n.toArray⟩, .string ⟨v.toArray⟩] 23) rfl rfl (by decide) rfl rfl rfl rfl (alloc_field rfl) (by kernel_rfl) (by kernel_rfl) (by kernel_rfl) ?_
        intro p W hW hp
        haveI : Nonempty (Later (Gr W)) := ⟨⟨W, Gr.refl W⟩⟩
        have t1 : ∀ x : Later (Gr W), x.w.cell? ⟨w4.heap.size, 0, none⟩ = some (.string ⟨n.toArray⟩) := fun x => (hW.trans x.ok).cell s1
        have t2 : ∀ x : Later (Gr W), x.w.cell? ⟨w4.heap.size, 1, none⟩ = some (.string ⟨v.toArray⟩) := fun x => (hW.trans x.ok).cell s2
        have hGW : ∀ x : Later (Gr W), G x.w := fun x => hG'.out.gr (hg7.out.trans (hW.trans x.ok))
        have hGW' := Lib.hid hGW
        clear hGW
        simp only [Oper.made, List.set_cons_zero, List.set_cons_succ, List.take_succ_cons, List.take_zero, List.drop_succ_cons, List.drop_zero]
        repeat (go_big_quiet_step (first | with_reducible exact pads_later hcb'.out _ | with_reducible exact pads_later hca'.out _ | with_reducible exact parse_later hp2'.out (by omega) _ (hGW'.out _)))
        refine wpQuiet_nil ?_
        refine ⟨fun W9 hW9 hz9 => store_field (.tmp 13) (.tmp 110) rfl rfl rfl hW9 hp hz9, ?_⟩
        intro w8 hg8 hz8
        have u1 : w8.cell? ⟨p, 0, none⟩ = some (.string ⟨n.toArray⟩) := by simp [World.cell?, hz8]
        have u2 : w8.cell? ⟨p, 1, none⟩ = some (.string ⟨v.toArray⟩) := by simp [World.cell?, hz8]
        have k1 := hg8.cell s1
        have k2 := hg8.cell s2
        have k3 := hg8.cell s3
        have k4 := hg8.cell s4
        have hg8' := Lib.hid (hg7.out.trans hg8)
        clear hg8 hz8 s1 s2 s3 s4 t1 t2
        go_wp2_with fail
        refine (token_is name tn htn'.out _ (by omega)).mono ?_
        rintro e w9 ⟨rfl, rfl⟩
        cases tn
        · go_wp2_with fail
          go_ret
          exact ⟨by simp, hg8'.out⟩
        · obtain rfl : n = name := hnn'.out rfl
          go_wp2_with fail
          go_ret
          exact ⟨by simp, hg8'.out⟩
      · obtain ⟨m, hm⟩ : ∃ m, v.length = m + 1 := ⟨v.length - 1, by omega⟩
        obtain ⟨hb0, hb1⟩ := hends (by omega)
        obtain ⟨c0, hc0⟩ : ∃ c, (⟨v.toArray⟩ : ByteArray)[0]'(by rw [size_mk]; omega) = c := ⟨_, rfl⟩
        obtain ⟨c1, hc1⟩ : ∃ c, (⟨v.toArray⟩ : ByteArray)[m]'(by rw [size_mk]; omega) = c := ⟨_, rfl⟩
        obtain ⟨t1, t2⟩ := blank_ne (c := c0) (by rw [← hc0]; exact hb0)
        obtain ⟨t3, t4⟩ := blank_ne (c := c1) (by rw [← hc1]; simp only [hm, Nat.add_sub_cancel] at hb1; exact hb1)
        clear hends hb0 hb1
        go_wp2_with fail
        refine (token_is n true ht'.out _ (by omega)).mono ?_
        rintro e w5 ⟨rfl, rfl⟩
        have q1 : (w4.alloc (.cells #[.string ⟨n.toArray⟩, .string ⟨v.toArray⟩] 23)).cell? ⟨w4.heap.size, 0, none⟩ = some (.string ⟨n.toArray⟩) := by simp [go_sem]
        have q2 : (w4.alloc (.cells #[.string ⟨n.toArray⟩, .string ⟨v.toArray⟩] 23)).cell? ⟨w4.heap.size, 1, none⟩ = some (.string ⟨v.toArray⟩) := by simp [go_sem]
        have hg5 := Lib.hid (hg4.out.alloc1 (.cells #[.string ⟨n.toArray⟩, .string ⟨v.toArray⟩] 23))
        generalize (w4.alloc (.cells #[.string ⟨n.toArray⟩, .string ⟨v.toArray⟩] 23)) = w5 at q1 q2 hg5 ⊢
        go_wp2_with fail
        refine (parse_is y2 n v true hp1'.out _ (hG'.out.gr hg5.out) (by omega)).mono ?_
        rintro e w6 ⟨rfl, hbb⟩
        have r1 := hbb.cell q1
        have r2 := hbb.cell q2
        have hg6 := Lib.hid (hg5.out.trans hbb)
        clear hbb q1 q2
        go_wp2_with fail
        have s1 : (w6.alloc (.cells #[.string ⟨n.toArray⟩, .string ⟨v.toArray⟩] 23)).cell? ⟨w4.heap.size, 0, none⟩ = some (.string ⟨n.toArray⟩) := (Gr.alloc _ _).cell r1
        have s2 : (w6.alloc (.cells #[.string ⟨n.toArray⟩, .string ⟨v.toArray⟩] 23)).cell? ⟨w4.heap.size, 1, none⟩ = some (.string ⟨v.toArray⟩) := (Gr.alloc _ _).cell r2
        have s3 : (w6.alloc (.cells #[.string ⟨n.toArray⟩, .string ⟨v.toArray⟩] 23)).cell? ⟨w6.heap.size, 0, none⟩ = some (.string ⟨n.toArray⟩) := by simp [go_sem]
        have s4 : (w6.alloc (.cells #[.string ⟨n.toArray⟩, .string ⟨v.toArray⟩] 23)).cell? ⟨w6.heap.size, 1, none⟩ = some (.string ⟨v.toArray⟩) := by simp [go_sem]
        have hg7 := Lib.hid (hg6.out.alloc1 (.cells #[.string ⟨n.toArray⟩, .string ⟨v.toArray⟩] 23))
        clear r1 r2
        generalize (w6.alloc (.cells #[.string ⟨n.toArray⟩, .string ⟨v.toArray⟩] 23)) = w7 at s1 s2 s3 s4 hg7 ⊢
        have z1 : ¬ 9223372036854775807 < n.length + 1 := by omega
        have z2 : ¬ 9223372036854775807 < y1.length + pb.length := by omega
        have z3 : ¬ 9223372036854775807 < y3.length + (m + 1) := by omega
        have z4 : ¬ 9223372036854775807 < y4.length + pa.length := by omega
        refine wp_region_later_store (z := .cells #[.string ⟨#[]⟩, .string ⟨#[]⟩] 23) 17 16 (.cells #[.string ⟨n.toArray⟩, .string ⟨v.toArray⟩] 23) rfl rfl (by decide) rfl rfl rfl rfl (alloc_field rfl) (by kernel_rfl) (by kernel_rfl) (by kernel_rfl) ?_
        intro p W hW hp
        haveI : Nonempty (Later (Gr W)) := ⟨⟨W, Gr.refl W⟩⟩
        have t1 : ∀ x : Later (Gr W), x.w.cell? ⟨w4.heap.size, 0, none⟩ = some (.string ⟨n.toArray⟩) := fun x => (hW.trans x.ok).cell s1
        have t2 : ∀ x : Later (Gr W), x.w.cell? ⟨w4.heap.size, 1, none⟩ = some (.string ⟨v.toArray⟩) := fun x => (hW.trans x.ok).cell s2
        have hGW : ∀ x : Later (Gr W), G x.w := fun x => hG'.out.gr (hg7.out.trans (hW.trans x.ok))
        have hGW' := Lib.hid hGW
        clear hGW
        simp only [Oper.made, List.set_cons_zero, List.set_cons_succ, List.take_succ_cons, List.take_zero, List.drop_succ_cons, List.drop_zero]
        repeat (go_big_quiet_step (first | with_reducible exact pads_later hcb'.out _ | with_reducible exact pads_later hca'.out _ | with_reducible exact parse_later hp2'.out (by omega) _ (hGW'.out _)))
        refine wpQuiet_nil ?_
        refine ⟨fun W9 hW9 hz9 => store_field (.tmp 13) (.tmp 110) rfl rfl rfl hW9 hp hz9, ?_⟩
        intro w8 hg8 hz8
        have u1 : w8.cell? ⟨p, 0, none⟩ = some (.string ⟨n.toArray⟩) := by simp [World.cell?, hz8]
        have u2 : w8.cell? ⟨p, 1, none⟩ = some (.string ⟨v.toArray⟩) := by simp [World.cell?, hz8]
        have k1 := hg8.cell s1
        have k2 := hg8.cell s2
        have k3 := hg8.cell s3
        have k4 := hg8.cell s4
        have hg8' := Lib.hid (hg7.out.trans hg8)
        clear hg8 hz8 s1 s2 s3 s4 t1 t2
        go_wp2_with fail
        refine (token_is name tn htn'.out _ (by omega)).mono ?_
        rintro e w9 ⟨rfl, rfl⟩
        cases tn
        · go_wp2_with fail
          go_ret
          exact ⟨by simp, hg8'.out⟩
        · obtain rfl : n = name := hnn'.out rfl
          go_wp2_with fail
          go_ret
          exact ⟨by simp, hg8'.out⟩
  · have hor : 2000 < name.length ∨ (name.length ≤ 2000 ∧ 2000 < value.length) := by omega
    clear hl
    rcases hor with h | ⟨h, h2⟩
    all_goals go_wp2
    all_goals go_ret
    all_goals exact ⟨rfl, hg1.out⟩
end Go.Proofs.YtpjocannogcejaaDoor
