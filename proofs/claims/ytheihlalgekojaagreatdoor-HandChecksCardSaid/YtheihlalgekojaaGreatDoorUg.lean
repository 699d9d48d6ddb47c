/-
  The document's handshake: Check.
-/
import Derived.Test.YtheihlalgekojaaGreatDoorUf
import Derived.Test.YtheihlalgekojaaGreatDoorUe
import Derived.Test.YtheihlalgekojaaGreatDoorUz
import Derived.Test.YtheihlalgekojaaGreatDoorHe
namespace Go.Proofs.YtheihlalgekojaaGreatDoor
open Go.RowKit
attribute [local go_sem] Oper.semAt_some

theorem many_mem {fs : List Fl} {name x : List UInt8} (h : x ∈ manyB fs name) : ∃ f ∈ fs, f.2 = x := by
  unfold manyB at h
  obtain ⟨f, hf, rfl⟩ := List.mem_map.1 h
  exact ⟨f, (List.mem_filter.1 hf).1, rfl⟩
theorem StrsAt.first {w : World} {p : Option Addr} {n cap : Nat} {xs : List (List UInt8)} (h : StrsAt w (.slice p n cap) xs) (h1 : n = 1) (hn : xs.length = n) : ∃ b off, p = some ⟨b, off, none⟩ ∧ w.cell? ⟨b, off, none⟩ = some (.string ⟨(xs.headD []).toArray⟩) := by
  obtain ⟨q, c, e, hc⟩ := h
  injection e with e1 _ _
  subst e1
  obtain ⟨b, off, hp, hcell⟩ := hc 0 (by omega)
  refine ⟨b, off, hp, ?_⟩
  rw [Nat.add_zero] at hcell
  cases xs with
  | nil => simp at hn; omega
  | cons a t => exact hcell
set_option maxHeartbeats 8000000 in
set_option maxRecDepth 20000 in
theorem rcheck_any (r : Rq) (t : Value) (w : World) (hf : FieldsAt w t r.fs) (h40 : r.fs.length ≤ 40) (hs : ∀ f ∈ r.fs, f.1.length ≤ 200 ∧ f.2.length ≤ 200) :
    Calls Tryz.prog 7 #[r.V t] w fun e w' => e = .returned (ckV (checkB r)) ∧ Gr w w' := by
  rw [← refCk_eq]
  have hsh : Short r.fs := ⟨by omega, fun f h => by have := hs f h; omega⟩
  obtain ⟨R, hR⟩ : ∃ R, refCk r = R := ⟨_, rfl⟩
  rw [hR]
  have hml : ∀ name, ∀ x ∈ manyB r.fs name, x.length ≤ 200 := fun name x hx => by
    obtain ⟨f, hf, rfl⟩ := many_mem hx
    exact (hs f hf).2
  have hmn : ∀ name, (manyB r.fs name).length ≤ 40 := fun name => Nat.le_trans (many_len _ _) h40
  have o1 := Lib.hid (fun W (hg : Gr w W) => many_any t r.fs khost W (hf.gr hg) hsh (by decide))
  have o2 := Lib.hid (fun W (hg : Gr w W) => many_any t r.fs kupg W (hf.gr hg) hsh (by decide))
  have o3 := Lib.hid (fun W (hg : Gr w W) => many_any t r.fs kconn W (hf.gr hg) hsh (by decide))
  have o4 := Lib.hid (fun W (hg : Gr w W) => many_any t r.fs kkey W (hf.gr hg) hsh (by decide))
  have o5 := Lib.hid (fun W (hg : Gr w W) => many_any t r.fs kver W (hf.gr hg) hsh (by decide))
  have a2 := Lib.hid (fun v W (h : StrsAt W v (manyB r.fs kupg)) => hasw_any v _ kWs W h (Nat.le_trans (hmn _) (by decide)) (fun x hx => Nat.le_trans (hml _ x hx) (by decide)) (by decide))
  have a3 := Lib.hid (fun v W (h : StrsAt W v (manyB r.fs kconn)) => hasw_any v _ kupg W h (Nat.le_trans (hmn _) (by decide)) (fun x hx => Nat.le_trans (hml _ x hx) (by decide)) (by decide))
  obtain ⟨kv, hkv⟩ : ∃ x, (manyB r.fs kkey).headD [] = x := ⟨_, rfl⟩
  obtain ⟨vv, hvv⟩ : ∃ x, (manyB r.fs kver).headD [] = x := ⟨_, rfl⟩
  have hkl : kv.length ≤ 200 := by
    rw [← hkv]
    cases e : manyB r.fs kkey with
    | nil => simp
    | cons a b => exact hml kkey a (by rw [e]; simp)
  obtain ⟨d, hd⟩ : ∃ d, decL kv = d := ⟨_, rfl⟩
  have od := Lib.hid (fun W => rdecode_any kv (by omega) W)
  rw [hd] at od
  have oa := Lib.hid (fun W => raccept_any kv (by omega) W)
  have hfst4 := Lib.hid (fun W p n cap (h : StrsAt W (.slice p n cap) (manyB r.fs kkey)) h1 hn => hkv ▸ h.first h1 hn)
  have hfst5 := Lib.hid (fun W p n cap (h : StrsAt W (.slice p n cap) (manyB r.fs kver)) h1 hn => hvv ▸ h.first h1 hn)
  obtain ⟨y1, hy1⟩ : ∃ y, hasAny (manyB r.fs kupg) kWs = y := ⟨_, rfl⟩
  obtain ⟨y2, hy2⟩ : ∃ y, hasAny (manyB r.fs kconn) kupg = y := ⟨_, rfl⟩
  obtain ⟨n1, hn1⟩ : ∃ n, (manyB r.fs khost).length = n := ⟨_, rfl⟩
  obtain ⟨n4, hn4⟩ : ∃ n, (manyB r.fs kkey).length = n := ⟨_, rfl⟩
  obtain ⟨n5, hn5⟩ : ∃ n, (manyB r.fs kver).length = n := ⟨_, rfl⟩
  have hR' := Lib.hid (show R = if (r.m != kGET || (r.v != 11 || n1 != 1)) then ([], 400)
      else if (!y1 || !y2) then ([], 400)
      else if (n4 != 1 || n5 != 1) then ([], 400)
      else match d with
        | none => ([], 400)
        | some t => if t.length ≠ 16 then ([], 400) else if vv ≠ k13 then ([], 426) else (acceptL kv, 101) by
    rw [← hR]; unfold refCk; rw [hy1, hy2, hn1, hn4, hn5, hkv, hd, hvv]; rfl)
  unfold ManyPost at o1 o2 o3 o4 o5
  rw [hn1] at o1
  rw [hn4] at o4
  rw [hn5] at o5
  rw [hy1] at a2
  rw [hy2] at a3
  have hn4' := Lib.hid hn4
  have hn5' := Lib.hid hn5
  obtain ⟨p, cap, ht, _⟩ := hf
  subst ht
  clear hR hkv hvv hd hy1 hy2 hkl hs hsh hml hmn h40 hn1 hn4 hn5
  unfold Rq.V
  obtain ⟨m, pp, q, ver, fs, bd, cl⟩ := r
  dsimp only at hR' o1 o2 o3 o4 o5 a2 a3 hfst4 hfst5 hn4' hn5' ⊢
  have g0 := Lib.hid (Gr.alloc w (.cells #[.string ⟨m.toArray⟩, .string ⟨pp.toArray⟩, .string ⟨q.toArray⟩, .int .i64 ver, .slice p fs.length cap, .string ⟨bd.toArray⟩, .bool cl] 24))
  have q0 : (w.alloc (.cells #[.string ⟨m.toArray⟩, .string ⟨pp.toArray⟩, .string ⟨q.toArray⟩, .int .i64 ver, .slice p fs.length cap, .string ⟨bd.toArray⟩, .bool cl] 24)).cell? ⟨w.heap.size, 0, none⟩ = some (.string ⟨m.toArray⟩) := by simp [go_sem]
  have q3 : (w.alloc (.cells #[.string ⟨m.toArray⟩, .string ⟨pp.toArray⟩, .string ⟨q.toArray⟩, .int .i64 ver, .slice p fs.length cap, .string ⟨bd.toArray⟩, .bool cl] 24)).cell? ⟨w.heap.size, 3, none⟩ = some (.int .i64 ver) := by simp [go_sem]
  have q4 : (w.alloc (.cells #[.string ⟨m.toArray⟩, .string ⟨pp.toArray⟩, .string ⟨q.toArray⟩, .int .i64 ver, .slice p fs.length cap, .string ⟨bd.toArray⟩, .bool cl] 24)).cell? ⟨w.heap.size, 4, none⟩ = some (.slice p fs.length cap) := by simp [go_sem]
  cases hc1 : (m != kGET)
  · have e1 : (m == [71, 69, 84]) = true := by have := hc1; simpa [kGET] using this
    cases hc2 : (ver != 11)
    · cases hc3 : (n1 != 1)
      · have i3 : ((n1 : Int) != 1) = false := by rw [bne_eq_false_iff_eq] at hc3 ⊢; omega
        go_enter Tryz.func7, Tryz.ntmps7
        go_wp2_with fail
        refine (o1.out _ g0.out).mono ?_
        rintro e w1 ⟨p1, capp1, rfl, hsp1, hb⟩
        have g1 := Lib.hid (g0.out.trans hb)
        have hsp1' := Lib.hid hsp1
        clear hsp1
        replace q4 := hb.cell q4
        clear hb
        cases y1 with
        | false =>
          have hfin := Lib.hid (show R = ([], 400) by rw [hR'.out]; simp [hc1, hc2, hc3])
          go_wp2_with fail
          refine (o2.out _ g1.out).mono ?_
          rintro e w2 ⟨p2, capp2, rfl, hsp2, hb⟩
          have g2 := Lib.hid (g1.out.trans hb)
          have hsp2' := Lib.hid hsp2
          clear hsp2
          replace q4 := hb.cell q4
          clear hb
          go_wp2_with fail
          refine (a2.out _ _ hsp2'.out).mono ?_
          rintro e w3 ⟨rfl, hb⟩
          have g3 := Lib.hid (g2.out.trans hb)
          replace q4 := hb.cell q4
          clear hb
          go_wp2
          go_ret2
          exact ⟨by rw [hfin.out]; rfl, g3.out⟩
        | true =>
          go_wp2_with fail
          refine (o2.out _ g1.out).mono ?_
          rintro e w2 ⟨p2, capp2, rfl, hsp2, hb⟩
          have g2 := Lib.hid (g1.out.trans hb)
          have hsp2' := Lib.hid hsp2
          clear hsp2
          replace q4 := hb.cell q4
          clear hb
          go_wp2_with fail
          refine (a2.out _ _ hsp2'.out).mono ?_
          rintro e w3 ⟨rfl, hb⟩
          have g3 := Lib.hid (g2.out.trans hb)
          replace q4 := hb.cell q4
          clear hb
          go_wp2_with fail
          refine (o3.out _ g3.out).mono ?_
          rintro e w4 ⟨p3, capp3, rfl, hsp3, hb⟩
          have g4 := Lib.hid (g3.out.trans hb)
          have hsp3' := Lib.hid hsp3
          clear hsp3
          replace q4 := hb.cell q4
          clear hb
          go_wp2_with fail
          refine (a3.out _ _ hsp3'.out).mono ?_
          rintro e w5 ⟨rfl, hb⟩
          have g5 := Lib.hid (g4.out.trans hb)
          replace q4 := hb.cell q4
          clear hb
          cases y2 with
          | false =>
            have hfin := Lib.hid (show R = ([], 400) by rw [hR'.out]; simp [hc1, hc2, hc3])
            go_wp2
            go_ret2
            exact ⟨by rw [hfin.out]; rfl, g5.out⟩
          | true =>
            go_wp2_with fail
            refine (o4.out _ g5.out).mono ?_
            rintro e w6 ⟨p4, capp4, rfl, hsp4, hb⟩
            have g6 := Lib.hid (g5.out.trans hb)
            have hsp4' := Lib.hid hsp4
            clear hsp4
            replace q4 := hb.cell q4
            clear hb
            go_wp2_with fail
            refine (o5.out _ g6.out).mono ?_
            rintro e w7 ⟨p5, capp5, rfl, hsp5, hb⟩
            have g7 := Lib.hid (g6.out.trans hb)
            have hsp5' := Lib.hid hsp5
            clear hsp5
            have hsp4 := Lib.hid (hsp4'.out.gr hb)
            replace q4 := hb.cell q4
            clear hb
            cases hc4 : (n4 != 1)
            · have i4 : ((n4 : Int) != 1) = false := by rw [bne_eq_false_iff_eq] at hc4 ⊢; omega
              cases hc5 : (n5 != 1)
              · have i5 : ((n5 : Int) != 1) = false := by rw [bne_eq_false_iff_eq] at hc5 ⊢; omega
                obtain rfl : n4 = 1 := by simpa using hc4
                obtain rfl : n5 = 1 := by simpa using hc5
                obtain ⟨b4, off4, rfl, d4⟩ := hfst4.out _ _ _ _ hsp4.out rfl hn4'.out
                obtain ⟨b5, off5, rfl, d5⟩ := hfst5.out _ _ _ _ hsp5'.out rfl hn5'.out
                go_wp2_with fail
                refine (od.out _).mono ?_
                rintro e w8 ⟨rfl, hb⟩
                have g8 := Lib.hid (g7.out.trans hb)
                replace d4 := hb.cell d4
                replace d5 := hb.cell d5
                clear hb
                cases d with
                | none =>
                  have hfin := Lib.hid (show R = ([], 400) by rw [hR'.out]; simp [hc1, hc2, hc3])
                  unfold dcV
                  go_wp2
                  go_ret2
                  exact ⟨by rw [hfin.out]; rfl, g8.out⟩
                | some dt =>
                  unfold dcV
                  by_cases hl : dt.length = 16
                  · have hlI : ((dt.length : Int) != 16) = false := by rw [bne_eq_false_iff_eq]; omega
                    cases hvv : (vv != k13)
                    · have e3 : (vv == [49, 51]) = true := by have := hvv; simpa [k13] using this
                      have hfin := Lib.hid (show R = (acceptL kv, 101) by rw [hR'.out]; have := hvv; simp at this; simp [hc1, hc2, hc3, hl, this])
                      clear hl hvv
                      go_wp2_with fail
                      refine (oa.out _).mono ?_
                      rintro e w9 ⟨rfl, hb⟩
                      have g9 := Lib.hid (g8.out.trans hb)
                      clear hb
                      go_wp2
                      go_ret2
                      exact ⟨by rw [hfin.out]; rfl, g9.out⟩
                    · have e3 : (vv == [49, 51]) = false := by have := hvv; simpa [k13] using this
                      have hfin := Lib.hid (show R = ([], 426) by rw [hR'.out]; have := hvv; simp at this; simp [hc1, hc2, hc3, hl, this])
                      clear hl hvv
                      go_wp2
                      go_ret2
                      exact ⟨by rw [hfin.out]; rfl, g8.out⟩
                  · have hlI : ((dt.length : Int) != 16) = true := by rw [bne_iff_ne]; omega
                    have hfin := Lib.hid (show R = ([], 400) by rw [hR'.out]; simp [hc1, hc2, hc3, hl])
                    clear hl
                    go_wp2
                    go_ret2
                    exact ⟨by rw [hfin.out]; rfl, g8.out⟩
              · have i5 : ((n5 : Int) != 1) = true := by rw [bne_iff_ne] at hc5 ⊢; omega
                have hfin := Lib.hid (show R = ([], 400) by rw [hR'.out]; simp [hc1, hc2, hc3, hc4, hc5])
                go_wp2
                go_ret2
                exact ⟨by rw [hfin.out]; rfl, g7.out⟩
            · have i4 : ((n4 : Int) != 1) = true := by rw [bne_iff_ne] at hc4 ⊢; omega
              have hfin := Lib.hid (show R = ([], 400) by rw [hR'.out]; simp [hc1, hc2, hc3, hc4])
              go_wp2
              go_ret2
              exact ⟨by rw [hfin.out]; rfl, g7.out⟩
      · have i3 : ((n1 : Int) != 1) = true := by rw [bne_iff_ne] at hc3 ⊢; omega
        have hfin := Lib.hid (show R = ([], 400) by rw [hR'.out]; simp [hc1, hc2, hc3])
        go_enter Tryz.func7, Tryz.ntmps7
        go_wp2_with fail
        refine (o1.out _ g0.out).mono ?_
        rintro e w1 ⟨p1, capp1, rfl, hsp1, hb⟩
        have g1 := Lib.hid (g0.out.trans hb)
        have hsp1' := Lib.hid hsp1
        clear hsp1
        replace q4 := hb.cell q4
        clear hb
        go_wp2
        go_ret2
        exact ⟨by rw [hfin.out]; rfl, g1.out⟩
    · have hfin := Lib.hid (show R = ([], 400) by rw [hR'.out]; simp [hc1, hc2])
      go_enter Tryz.func7, Tryz.ntmps7
      go_wp2
      go_ret2
      exact ⟨by rw [hfin.out]; rfl, g0.out⟩
  · have e1 : (m == [71, 69, 84]) = false := by have := hc1; simpa [kGET] using this
    have hfin := Lib.hid (show R = ([], 400) by rw [hR'.out]; simp [hc1])
    go_enter Tryz.func7, Tryz.ntmps7
    go_wp2
    go_ret2
    exact ⟨by rw [hfin.out]; rfl, g0.out⟩
end Go.Proofs.YtheihlalgekojaaGreatDoor
