/-
  Replies: whether one may be.
-/
import Derived.Test.YtfcokldbpjkjpaaGreatDoorVb
import Derived.Test.YtfcokldbpjkjpaaGreatDoorC
import Derived.Test.YtfcokldbpjkjpaaGreatDoorD
import Derived.Test.YtfcokldbpjkjpaaGreatDoorVr
import Derived.Test.YtfcokldbpjkjpaaGreatDoorOf
namespace Go.Proofs.YtfcokldbpjkjpaaGreatDoor
open Go.RowKit
attribute [local go_sem] Oper.semAt_some

theorem allx_false {α : Type} {l : List α} {p : α → Bool} {k : Nat} (hk : k < l.length) (h : p l[k] = false) : l.all p = false := by
  rw [List.all_eq_false]
  exact ⟨l[k], List.getElem_mem hk, by rw [h]; decide⟩
theorem allx_succ {α : Type} {l : List α} {p : α → Bool} {k : Nat} (h : (l.take k).all p = true) (hk : k < l.length) (hp : p l[k] = true) : (l.take (k + 1)).all p = true := by
  rw [List.take_succ_eq_append_getElem hk, List.all_append, h, List.all_cons, hp]; rfl
theorem right_ways (r : Rp) : (r.code < 100 ∧ rightR r = false) ∨ (¬ r.code < 100 ∧ 599 < r.code ∧ rightR r = false) ∨
    (¬ r.code < 100 ∧ ¬ 599 < r.code ∧ bareB r.code = true ∧ r.b.isEmpty = false ∧ rightR r = false) ∨
    (¬ r.code < 100 ∧ ¬ 599 < r.code ∧ bareB r.code = true ∧ r.b = [] ∧ rightR r = r.fs.all (fieldOk r.code)) ∨
    (¬ r.code < 100 ∧ ¬ 599 < r.code ∧ bareB r.code = false ∧ 65536 < (r.b.length : Int) ∧ rightR r = false) ∨
    (¬ r.code < 100 ∧ ¬ 599 < r.code ∧ bareB r.code = false ∧ ¬ 65536 < (r.b.length : Int) ∧ rightR r = r.fs.all (fieldOk r.code)) := by
  unfold rightR
  by_cases h1 : r.code < 100
  · left; refine ⟨h1, ?_⟩; rw [decide_eq_false (by omega)]; rfl
  · right
    by_cases h2 : 599 < r.code
    · left; refine ⟨h1, h2, ?_⟩; rw [decide_eq_false (show ¬ r.code ≤ 599 by omega)]; simp
    · right
      have e1 : decide (100 ≤ r.code) = true := decide_eq_true (by omega)
      have e2 : decide (r.code ≤ 599) = true := decide_eq_true (by omega)
      cases hb : bareB r.code
      · right; right
        by_cases h3 : 65536 < (r.b.length : Int)
        · left; refine ⟨h1, h2, rfl, h3, ?_⟩; rw [decide_eq_false (show ¬ r.b.length ≤ 65536 by omega)]; simp
        · right; refine ⟨h1, h2, rfl, h3, ?_⟩; rw [e1, e2, decide_eq_true (show r.b.length ≤ 65536 by omega)]; simp
      · cases he : r.b.isEmpty
        · left; exact ⟨h1, h2, rfl, rfl, by simp⟩
        · right; left
          have hbe : r.b = [] := by simpa using he
          refine ⟨h1, h2, rfl, hbe, ?_⟩
          rw [e1, e2, hbe]; simp
/-- Whether a field is a reply's own. -/
theorem own_ways (c : Int) (a1 a2 a3 : Bool) : (a1 = true ∧ (a1 || (a2 || (c != 101 && a3))) = true) ∨ (a1 = false ∧ a2 = true ∧ (a1 || (a2 || (c != 101 && a3))) = true) ∨
    (a1 = false ∧ a2 = false ∧ (c != 101) = false ∧ (a1 || (a2 || (c != 101 && a3))) = false) ∨
    (a1 = false ∧ a2 = false ∧ (c != 101) = true ∧ a3 = true ∧ (a1 || (a2 || (c != 101 && a3))) = true) ∨
    (a1 = false ∧ a2 = false ∧ (c != 101) = true ∧ a3 = false ∧ (a1 || (a2 || (c != 101 && a3))) = false) := by
  cases a1 <;> cases a2 <;> cases a3 <;> cases (c != 101) <;> simp
set_option maxHeartbeats 8000000 in
set_option maxRecDepth 20000 in
theorem right_any (r : Rp) (t : Value) (w : World) (hG : G w) (hf : FieldsAt w t r.fs) (hlf : r.fs.length ≤ 1000000) (hs : ∀ f ∈ r.fs, f.1.length ≤ 1000000 ∧ f.2.length ≤ 1000000) (hlb : r.b.length ≤ 9223372036854775807) :
    Calls Tryz.prog 14 #[r.V t] w fun e w' => e = .returned (.bool (rightR r)) ∧ Gr w w' := by
  have hG' := Lib.hid hG
  have hs' := Lib.hid hs
  obtain ⟨p, cap, rfl, hc⟩ := hf
  have hc' := Lib.hid hc
  have hways := right_ways r
  obtain ⟨R, hR⟩ : ∃ R, rightR r = R := ⟨_, rfl⟩
  rw [hR] at hways ⊢
  have hR' := Lib.hid hR
  clear hc hs hG hR
  obtain ⟨c, fs, b⟩ := r
  unfold Rp.V
  dsimp only at hc' hs' hways hlf hlb ⊢
  have g0 := Lib.hid (Gr.alloc w (.cells #[.int .i64 c, .slice p fs.length cap, .string ⟨b.toArray⟩] 24))
  have n0 : (w.alloc (.cells #[.int .i64 c, .slice p fs.length cap, .string ⟨b.toArray⟩] 24)).cell? ⟨w.heap.size, 0, none⟩ = some (.int .i64 c) := by simp [go_sem]
  have n1 : (w.alloc (.cells #[.int .i64 c, .slice p fs.length cap, .string ⟨b.toArray⟩] 24)).cell? ⟨w.heap.size, 1, none⟩ = some (.slice p fs.length cap) := by simp [go_sem]
  have n2 : (w.alloc (.cells #[.int .i64 c, .slice p fs.length cap, .string ⟨b.toArray⟩] 24)).cell? ⟨w.heap.size, 2, none⟩ = some (.string ⟨b.toArray⟩) := by simp [go_sem]
  rcases hways with ⟨h1, hr⟩ | ⟨h1, h2, hr⟩ | ⟨h1, h2, hb, h3, hr⟩ | ⟨h1, h2, hb, h3, hr⟩ | ⟨h1, h2, hb, h3, hr⟩ | ⟨h1, h2, hb, h3, hr⟩
  · go_enter Tryz.func14, Tryz.ntmps14
    go_wp2
    go_ret
    exact ⟨by first | rfl | (rw [hr]; rfl), g0.out⟩
  · go_enter Tryz.func14, Tryz.ntmps14
    go_wp2
    go_ret
    exact ⟨by first | rfl | (rw [hr]; rfl), g0.out⟩
  · go_enter Tryz.func14, Tryz.ntmps14
    go_wp2_with (go_at_call 25; refine (barec_any c _).mono ?_; rintro e w' ⟨rfl, rfl⟩; rw [hb])
    go_ret
    exact ⟨by first | rfl | (rw [hr]; rfl), g0.out⟩
  case' inr.inr.inr.inl =>
    subst h3
    go_enter Tryz.func14, Tryz.ntmps14
    go_wp2_with (go_at_call 25; refine (barec_any c _).mono ?_; rintro e w' ⟨rfl, rfl⟩; rw [hb])
  case inr.inr.inr.inr.inl =>
    go_enter Tryz.func14, Tryz.ntmps14
    go_wp2_with (go_at_call 25; refine (barec_any c _).mono ?_; rintro e w' ⟨rfl, rfl⟩; rw [hb])
    go_ret
    exact ⟨by first | rfl | (rw [hr]; rfl), g0.out⟩
  case' inr.inr.inr.inr.inr =>
    go_enter Tryz.func14, Tryz.ntmps14
    go_wp2_with (go_at_call 25; refine (barec_any c _).mono ?_; rintro e w' ⟨rfl, rfl⟩; rw [hb])
  all_goals
    have hr' := Lib.hid hr
    (try clear h3)
    clear h1 h2 hb hr n2
    generalize (w.alloc (.cells #[.int .i64 c, .slice p fs.length cap, .string _] 24)) = w1 at g0 n0 n1 ⊢
    go_wp2
    go_loopw [35] (fun i W => ∃ k : Nat, k ≤ fs.length ∧ i = .int .i64 k ∧ (fs.take k).all (fieldOk c) = true ∧ Gr w1 W) (fun i _ => fs.length - (intOf i).toNat)
    case atStart => exact ⟨0, Nat.zero_le _, rfl, rfl, Gr.refl _⟩
    case round =>
      obtain ⟨k, hk, rfl, hall, hg⟩ := hrel
      have hall' := Lib.hid hall
      have hg' := Lib.hid hg
      replace n0 := hg.cell n0
      clear hall n1
      by_cases hlt : k < fs.length
      · obtain ⟨bf, off, rfl, d1, d2⟩ := hc'.out k hlt
        replace d1 := (g0.out.trans hg).cell d1
        replace d2 := (g0.out.trans hg).cell d2
        have hxs := hs'.out _ (List.getElem_mem hlt)
        obtain ⟨⟨xn, xv⟩, hx⟩ : ∃ x, fs[k] = x := ⟨_, rfl⟩
        rw [hx] at d1 d2 hxs
        dsimp only at d1 d2 hxs
        have hkI : (k : Int) < fs.length := by omega
        have hcat1 : (⟨xn.toArray⟩ : ByteArray) ++ ⟨#[58]⟩ = ⟨(xn ++ [58]).toArray⟩ := cat_mk xn [58]
        have hcat2 : (⟨(xn ++ [58]).toArray⟩ : ByteArray) ++ ⟨xv.toArray⟩ = ⟨(xn ++ [58] ++ xv).toArray⟩ := cat_mk _ xv
        have hz1 : ¬ 9223372036854775807 < xn.length + 1 := by omega
        have hz2 : ¬ 9223372036854775807 < (xn ++ [58]).length + xv.length := by rw [List.length_append]; show ¬ _ < _ + 1 + _; omega
        have hbad := Lib.hid (show fieldOk c (xn, xv) = false → R = false from fun h => by
          have h9 : fieldOk c fs[k] = false := by rw [hx]; exact h
          rw [hr'.out]; exact allx_false (p := fieldOk c) hlt h9)
        have hgood := Lib.hid (show fieldOk c (xn, xv) = true → (fs.take (k + 1)).all (fieldOk c) = true from fun h => by
          have h9 : fieldOk c fs[k] = true := by rw [hx]; exact h
          exact allx_succ (p := fieldOk c) hall'.out hlt h9)
        have hpl : (xn ++ [58] ++ xv).length < 4294967281 := by rw [List.length_append, List.length_append]; show _ + 1 + _ < _; omega
        have hfo : fieldOk c (xn, xv) = (decide (parseB (xn ++ [58] ++ xv) = (xn, xv, true)) && !(alikeB xn kLen || (alikeB xn kCod || (c != 101 && alikeB xn kHold)))) := rfl
        have hpc := Lib.hid (fun W hGW => parse_any (xn ++ [58] ++ xv) W hGW hpl)
        obtain ⟨⟨g1, g2, ok⟩, hP⟩ : ∃ x, parseB (xn ++ [58] ++ xv) = x := ⟨_, rfl⟩
        rw [hP] at hpc hfo
        obtain ⟨cat, hcat⟩ : ∃ x, xn ++ [58] = x := ⟨_, rfl⟩
        rw [hcat] at hcat1 hcat2 hz2 hpc
        obtain ⟨cat2, hcc⟩ : ∃ x, cat ++ xv = x := ⟨_, rfl⟩
        rw [hcc] at hcat2 hpc
        have q1 := Lib.hid (fun W hGW => alike_any xn kLen W hGW (by omega) (by decide))
        have q2 := Lib.hid (fun W hGW => alike_any xn kCod W hGW (by omega) (by decide))
        have q3 := Lib.hid (fun W hGW => alike_any xn kHold W hGW (by omega) (by decide))
        have how := own_ways c (alikeB xn kLen) (alikeB xn kCod) (alikeB xn kHold)
        obtain ⟨a1, ha1⟩ : ∃ a, alikeB xn kLen = a := ⟨_, rfl⟩
        obtain ⟨a2, ha2⟩ : ∃ a, alikeB xn kCod = a := ⟨_, rfl⟩
        obtain ⟨a3, ha3⟩ : ∃ a, alikeB xn kHold = a := ⟨_, rfl⟩
        rw [ha1] at q1 how hfo
        rw [ha2] at q2 how hfo
        rw [ha3] at q3 how hfo
        obtain ⟨own, hown⟩ : ∃ o, (a1 || (a2 || (c != 101 && a3))) = o := ⟨_, rfl⟩
        rw [hown] at how hfo
        have hfo' := Lib.hid hfo
        clear hfo hown ha1 ha2 ha3 hP hcat hcc hx hxs hpl hg
        go_upto_region 6 with (fail)
        have x0 : (wr.alloc (.cells #[.string ⟨xn.toArray⟩, .string ⟨xv.toArray⟩] 41)).cell? ⟨wr.heap.size, 0, none⟩ = some (.string ⟨xn.toArray⟩) := cell_new7 wr [.string ⟨xn.toArray⟩, .string ⟨xv.toArray⟩] _ 0 _ rfl
        have x1 : (wr.alloc (.cells #[.string ⟨xn.toArray⟩, .string ⟨xv.toArray⟩] 41)).cell? ⟨wr.heap.size, 1, none⟩ = some (.string ⟨xv.toArray⟩) := cell_new7 wr [.string ⟨xn.toArray⟩, .string ⟨xv.toArray⟩] _ 1 _ rfl
        have gx : Gr wr (wr.alloc (.cells #[.string ⟨xn.toArray⟩, .string ⟨xv.toArray⟩] 41)) := Gr.alloc _ _
        generalize wr.alloc (.cells #[.string ⟨xn.toArray⟩, .string ⟨xv.toArray⟩] 41) = w2 at x0 x1 gx ⊢
        replace n0 := gx.cell n0
        have g2' := Lib.hid (hg'.out.trans gx)
        clear gx d1 d2
        go_wp2_with fail
        refine (hpc.out _ (hG'.out.gr (g0.out.trans g2'.out))).mono ?_
        rintro e w3 ⟨rfl, hb3⟩
        replace n0 := hb3.cell n0
        replace x0 := hb3.cell x0
        replace x1 := hb3.cell x1
        have g3' := Lib.hid (g2'.out.trans hb3)
        clear hb3 hcat1 hcat2 hz1 hz2
        unfold pVal
        go_upto_region 7 with (fail)
        have y0 : (w3.alloc (.cells #[.string ⟨g1.toArray⟩, .string ⟨g2.toArray⟩] 41)).cell? ⟨w3.heap.size, 0, none⟩ = some (.string ⟨g1.toArray⟩) := cell_new7 w3 [.string ⟨g1.toArray⟩, .string ⟨g2.toArray⟩] _ 0 _ rfl
        have y1 : (w3.alloc (.cells #[.string ⟨g1.toArray⟩, .string ⟨g2.toArray⟩] 41)).cell? ⟨w3.heap.size, 1, none⟩ = some (.string ⟨g2.toArray⟩) := cell_new7 w3 [.string ⟨g1.toArray⟩, .string ⟨g2.toArray⟩] _ 1 _ rfl
        have gy : Gr w3 (w3.alloc (.cells #[.string ⟨g1.toArray⟩, .string ⟨g2.toArray⟩] 41)) := Gr.alloc _ _
        generalize w3.alloc (.cells #[.string ⟨g1.toArray⟩, .string ⟨g2.toArray⟩] 41) = w4 at y0 y1 gy ⊢
        replace n0 := gy.cell n0
        replace x0 := gy.cell x0
        replace x1 := gy.cell x1
        have g4' := Lib.hid (g3'.out.trans gy)
        clear gy
        go_wp2_with fail
        refine (q1.out _ (hG'.out.gr (g0.out.trans g4'.out))).mono ?_
        rintro e w5 ⟨rfl, hb5⟩
        replace n0 := hb5.cell n0
        replace x0 := hb5.cell x0
        replace x1 := hb5.cell x1
        replace y0 := hb5.cell y0
        replace y1 := hb5.cell y1
        have g5' := Lib.hid (g4'.out.trans hb5)
        clear hb5
        rcases how with ⟨rfl, rfl⟩ | ⟨rfl, rfl, rfl⟩ | ⟨rfl, rfl, hc1, rfl⟩ | ⟨rfl, rfl, hc1, rfl, rfl⟩ | ⟨rfl, rfl, hc1, rfl, rfl⟩
        · cases ok with
          | false =>
            have hfin := Lib.hid (hbad.out (by rw [hfo'.out]; simp))
            go_wp2
            go_ret
            exact ⟨by rw [hfin.out]; rfl, g0.out.trans g5'.out⟩
          | true =>
            by_cases hn : g1 = xn
            · subst hn
              by_cases hv : g2 = xv
              · subst hv
                have hfin := Lib.hid (hbad.out (by rw [hfo'.out]; simp))
                go_wp2
                go_ret
                exact ⟨by rw [hfin.out]; rfl, g0.out.trans g5'.out⟩
              · have hfin := Lib.hid (hbad.out (by rw [hfo'.out]; simp [hv]))
                go_wp2
                go_ret
                exact ⟨by rw [hfin.out]; rfl, g0.out.trans g5'.out⟩
            · have hfin := Lib.hid (hbad.out (by rw [hfo'.out]; simp [hn]))
              go_wp2
              go_ret
              exact ⟨by rw [hfin.out]; rfl, g0.out.trans g5'.out⟩
        · go_wp2_with fail
          refine (q2.out _ (hG'.out.gr (g0.out.trans g5'.out))).mono ?_
          rintro e w6 ⟨rfl, hb⟩
          replace n0 := hb.cell n0
          replace x0 := hb.cell x0
          replace x1 := hb.cell x1
          replace y0 := hb.cell y0
          replace y1 := hb.cell y1
          have g6' := Lib.hid (g5'.out.trans hb)
          clear hb
          cases ok with
          | false =>
            have hfin := Lib.hid (hbad.out (by rw [hfo'.out]; simp))
            go_wp2
            go_ret
            exact ⟨by rw [hfin.out]; rfl, g0.out.trans g6'.out⟩
          | true =>
            by_cases hn : g1 = xn
            · subst hn
              by_cases hv : g2 = xv
              · subst hv
                have hfin := Lib.hid (hbad.out (by rw [hfo'.out]; simp))
                go_wp2
                go_ret
                exact ⟨by rw [hfin.out]; rfl, g0.out.trans g6'.out⟩
              · have hfin := Lib.hid (hbad.out (by rw [hfo'.out]; simp [hv]))
                go_wp2
                go_ret
                exact ⟨by rw [hfin.out]; rfl, g0.out.trans g6'.out⟩
            · have hfin := Lib.hid (hbad.out (by rw [hfo'.out]; simp [hn]))
              go_wp2
              go_ret
              exact ⟨by rw [hfin.out]; rfl, g0.out.trans g6'.out⟩
        · go_wp2_with fail
          refine (q2.out _ (hG'.out.gr (g0.out.trans g5'.out))).mono ?_
          rintro e w6 ⟨rfl, hb⟩
          replace n0 := hb.cell n0
          replace x0 := hb.cell x0
          replace x1 := hb.cell x1
          replace y0 := hb.cell y0
          replace y1 := hb.cell y1
          have g6' := Lib.hid (g5'.out.trans hb)
          clear hb
          cases ok with
          | false =>
            have hfin := Lib.hid (hbad.out (by rw [hfo'.out]; simp))
            go_wp2
            go_ret
            exact ⟨by rw [hfin.out]; rfl, g0.out.trans g6'.out⟩
          | true =>
            by_cases hn : g1 = xn
            · subst hn
              by_cases hv : g2 = xv
              · subst hv
                have hnx := Lib.hid (hgood.out (by rw [hfo'.out]; simp))
                go_wp2
                go_roundw
                case rel => exact ⟨k + 1, by omega, by go_num, hnx.out, g6'.out⟩
                case measure => simp [intOf]; omega
              · have hfin := Lib.hid (hbad.out (by rw [hfo'.out]; simp [hv]))
                go_wp2
                go_ret
                exact ⟨by rw [hfin.out]; rfl, g0.out.trans g6'.out⟩
            · have hfin := Lib.hid (hbad.out (by rw [hfo'.out]; simp [hn]))
              go_wp2
              go_ret
              exact ⟨by rw [hfin.out]; rfl, g0.out.trans g6'.out⟩
        · go_wp2_with fail
          refine (q2.out _ (hG'.out.gr (g0.out.trans g5'.out))).mono ?_
          rintro e w6 ⟨rfl, hb⟩
          replace n0 := hb.cell n0
          replace x0 := hb.cell x0
          replace x1 := hb.cell x1
          replace y0 := hb.cell y0
          replace y1 := hb.cell y1
          have g6' := Lib.hid (g5'.out.trans hb)
          clear hb
          go_wp2_with fail
          refine (q3.out _ (hG'.out.gr (g0.out.trans g6'.out))).mono ?_
          rintro e w7 ⟨rfl, hb⟩
          replace n0 := hb.cell n0
          replace x0 := hb.cell x0
          replace x1 := hb.cell x1
          replace y0 := hb.cell y0
          replace y1 := hb.cell y1
          have g7' := Lib.hid (g6'.out.trans hb)
          clear hb
          cases ok with
          | false =>
            have hfin := Lib.hid (hbad.out (by rw [hfo'.out]; simp))
            go_wp2
            go_ret
            exact ⟨by rw [hfin.out]; rfl, g0.out.trans g7'.out⟩
          | true =>
            by_cases hn : g1 = xn
            · subst hn
              by_cases hv : g2 = xv
              · subst hv
                have hfin := Lib.hid (hbad.out (by rw [hfo'.out]; simp))
                go_wp2
                go_ret
                exact ⟨by rw [hfin.out]; rfl, g0.out.trans g7'.out⟩
              · have hfin := Lib.hid (hbad.out (by rw [hfo'.out]; simp [hv]))
                go_wp2
                go_ret
                exact ⟨by rw [hfin.out]; rfl, g0.out.trans g7'.out⟩
            · have hfin := Lib.hid (hbad.out (by rw [hfo'.out]; simp [hn]))
              go_wp2
              go_ret
              exact ⟨by rw [hfin.out]; rfl, g0.out.trans g7'.out⟩
        · go_wp2_with fail
          refine (q2.out _ (hG'.out.gr (g0.out.trans g5'.out))).mono ?_
          rintro e w6 ⟨rfl, hb⟩
          replace n0 := hb.cell n0
          replace x0 := hb.cell x0
          replace x1 := hb.cell x1
          replace y0 := hb.cell y0
          replace y1 := hb.cell y1
          have g6' := Lib.hid (g5'.out.trans hb)
          clear hb
          go_wp2_with fail
          refine (q3.out _ (hG'.out.gr (g0.out.trans g6'.out))).mono ?_
          rintro e w7 ⟨rfl, hb⟩
          replace n0 := hb.cell n0
          replace x0 := hb.cell x0
          replace x1 := hb.cell x1
          replace y0 := hb.cell y0
          replace y1 := hb.cell y1
          have g7' := Lib.hid (g6'.out.trans hb)
          clear hb
          cases ok with
          | false =>
            have hfin := Lib.hid (hbad.out (by rw [hfo'.out]; simp))
            go_wp2
            go_ret
            exact ⟨by rw [hfin.out]; rfl, g0.out.trans g7'.out⟩
          | true =>
            by_cases hn : g1 = xn
            · subst hn
              by_cases hv : g2 = xv
              · subst hv
                have hnx := Lib.hid (hgood.out (by rw [hfo'.out]; simp))
                go_wp2
                go_roundw
                case rel => exact ⟨k + 1, by omega, by go_num, hnx.out, g7'.out⟩
                case measure => simp [intOf]; omega
              · have hfin := Lib.hid (hbad.out (by rw [hfo'.out]; simp [hv]))
                go_wp2
                go_ret
                exact ⟨by rw [hfin.out]; rfl, g0.out.trans g7'.out⟩
            · have hfin := Lib.hid (hbad.out (by rw [hfo'.out]; simp [hn]))
              go_wp2
              go_ret
              exact ⟨by rw [hfin.out]; rfl, g0.out.trans g7'.out⟩
      · obtain rfl : k = fs.length := by omega
        have hfin := Lib.hid (show R = true by rw [hr'.out, ← hall'.out, List.take_length])
        go_wp2
        go_ret
        exact ⟨by rw [hfin.out]; rfl, g0.out.trans hg'.out⟩
end Go.Proofs.YtfcokldbpjkjpaaGreatDoor
