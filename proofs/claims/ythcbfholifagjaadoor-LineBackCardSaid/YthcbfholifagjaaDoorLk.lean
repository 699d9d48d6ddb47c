/-
  The walk over LineBack.
-/
import Derived.Test.YthcbfholifagjaaDoorLj
namespace Go.Proofs.YthcbfholifagjaaDoor
open Go.RowKit

def httpL : List UInt8 := [32, 72, 84, 84, 80, 47, 49, 46]
def verD : Nat → List UInt8
  | 0 => [48]
  | _ => [49]
/-- What the law asks of a method and a target in a line of version v, beside it. -/
structure BackRow (me ta m t : List UInt8) (n v : Nat) (ok : Bool) : Prop where
  yes : ok = true → m ++ [32] ++ t = me ++ [32] ++ ta ∧ n = v ∧ tokB m = true ∧ t.isEmpty = false
  no : ok = false → m = [] ∧ t = [] ∧ n = 0
  has : tokB me = true → (targetB ta).2.2 = true → ok = true ∧ m = me ∧ t = ta
theorem cat_end {x y a b : List UInt8} (h : x ++ a = y ++ b) (hl : a.length = b.length) : x = y ∧ a = b := by
  have h1 : x.length = y.length := by have := congrArg List.length h; simp at this; omega
  exact List.append_inj h h1
theorem backRow {me ta m t l : List UInt8} {n v : Nat} {ok : Bool} {p : List UInt8} (hv : (v = 10 ∧ p = pH10) ∨ (v = 11 ∧ p = pH11)) (hl : l = me ++ 32 :: (ta ++ 32 :: p)) (h : lineB l = (m, t, n, ok)) : BackRow me ta m t n v ok := by
  constructor
  · intro hok
    subst hok
    obtain ⟨h1, h2, h3, h4⟩ := lineB_true h
    have key : ∀ p', p'.length = p.length → l = m ++ 32 :: (t ++ 32 :: p') → m ++ [32] ++ t = me ++ [32] ++ ta ∧ p' = p := fun p' hp hm => by
      have e : (m ++ [32] ++ t) ++ 32 :: p' = (me ++ [32] ++ ta) ++ 32 :: p := by
        have : m ++ 32 :: (t ++ 32 :: p') = me ++ 32 :: (ta ++ 32 :: p) := by rw [← hm, hl]
        simpa using this
      obtain ⟨e1, e2⟩ := cat_end e (by simp [hp])
      exact ⟨e1, (List.cons.inj e2).2⟩
    have hpl : p.length = 8 := by rcases hv with ⟨_, rfl⟩ | ⟨_, rfl⟩ <;> rfl
    have ht : t.isEmpty = false := by cases t <;> simp at h2 ⊢
    rcases h4 with ⟨rfl, hm⟩ | ⟨rfl, hm⟩
    · obtain ⟨e1, e2⟩ := key pH10 (by rw [hpl]; rfl) hm
      rcases hv with ⟨rfl, rfl⟩ | ⟨rfl, rfl⟩
      · exact ⟨e1, rfl, h1, ht⟩
      · exact absurd e2 (by decide)
    · obtain ⟨e1, e2⟩ := key pH11 (by rw [hpl]; rfl) hm
      rcases hv with ⟨rfl, rfl⟩ | ⟨rfl, rfl⟩
      · exact absurd e2 (by decide)
      · exact ⟨e1, rfl, h1, ht⟩
  · intro hok; subst hok; exact lineB_false h
  · intro hm ht
    obtain ⟨⟨a, b, c⟩, hx⟩ : ∃ x, targetB ta = x := ⟨_, rfl⟩
    rw [hx] at ht
    dsimp only at ht
    subst ht
    obtain ⟨k1, k2⟩ := target_vis hx
    obtain ⟨q1, q2⟩ := lineB_of hm k1 k2
    rcases hv with ⟨rfl, rfl⟩ | ⟨rfl, rfl⟩
    · rw [hl, q1] at h; simp at h; exact ⟨h.2.2.2, h.1.symm, h.2.1.symm⟩
    · rw [hl, q2] at h; simp at h; exact ⟨h.2.2.2, h.1.symm, h.2.1.symm⟩

set_option maxHeartbeats 8000000 in
set_option maxRecDepth 100000 in
theorem lback_any (me ta s : List UInt8) (w : World) (hG : G w) (hm0 : me.length ≤ 9223372036854775807) (ht0 : ta.length ≤ 9223372036854775807) (hs : s.length ≤ 9223372036854775807) :
    Calls Tryd.prog 5 #[.string ⟨me.toArray⟩, .string ⟨ta.toArray⟩, .string ⟨s.toArray⟩] w fun e w' => e = .returned (.bool true) ∧ Gr w w' := by
  have hG' := Lib.hid hG
  clear hG
  by_cases hl : me.length ≤ 1000 ∧ ta.length ≤ 1000 ∧ s.length ≤ 1000
  · obtain ⟨hl1, hl2, hl3⟩ := hl
    obtain ⟨a1, ha1⟩ : ∃ a, me ++ [32] = a := ⟨_, rfl⟩
    have e1 : (⟨me.toArray⟩ : ByteArray) ++ ⟨#[32]⟩ = ⟨a1.toArray⟩ := ha1 ▸ cat_mk me [32]
    have l1 : a1.length ≤ 1001 := by rw [← ha1]; simp; omega
    obtain ⟨a2, ha2⟩ : ∃ a, a1 ++ ta = a := ⟨_, rfl⟩
    have e2 : (⟨a1.toArray⟩ : ByteArray) ++ ⟨ta.toArray⟩ = ⟨a2.toArray⟩ := ha2 ▸ cat_mk a1 ta
    have l2 : a2.length ≤ 2001 := by rw [← ha2, List.length_append]; omega
    obtain ⟨a3, ha3⟩ : ∃ a, a2 ++ httpL = a := ⟨_, rfl⟩
    have e3 : (⟨a2.toArray⟩ : ByteArray) ++ (⟨#[32, 72, 84, 84, 80, 47, 49, 46]⟩ : ByteArray) = ⟨a3.toArray⟩ := ha3 ▸ cat_mk a2 httpL
    have l3 : a3.length ≤ 2020 := by rw [← ha3, List.length_append]; simp [httpL]; omega
    have ha2' := Lib.hid (show me ++ [32] ++ ta = a2 by rw [ha1, ha2])
    -- a row of version v
    have hrow : ∀ (d : List UInt8) (v : Nat), ((v = 10 ∧ d = [48]) ∨ (v = 11 ∧ d = [49])) → ∃ (L m t : List UInt8) (n : Nat) (ok : Bool), a3 ++ d = L ∧ L.length ≤ 2021 ∧ lineB L = (m, t, n, ok) ∧ BackRow me ta m t n v ok ∧ m.length ≤ 2021 ∧ t.length ≤ 2021 := by
      intro d v hd
      obtain ⟨⟨m, t, n, ok⟩, hx⟩ : ∃ x, lineB (a3 ++ d) = x := ⟨_, rfl⟩
      have hdl : d.length = 1 := by rcases hd with ⟨_, rfl⟩ | ⟨_, rfl⟩ <;> rfl
      have hL : (a3 ++ d).length ≤ 2021 := by rw [List.length_append]; omega
      have hb : BackRow me ta m t n v ok := by
        rcases hd with ⟨rfl, rfl⟩ | ⟨rfl, rfl⟩
        · exact backRow (p := pH10) (.inl ⟨rfl, rfl⟩) (by rw [← ha3, ← ha2, ← ha1]; simp [httpL, pH10]) hx
        · exact backRow (p := pH11) (.inr ⟨rfl, rfl⟩) (by rw [← ha3, ← ha2, ← ha1]; simp [httpL, pH11]) hx
      have hmt : m.length ≤ 2021 ∧ t.length ≤ 2021 := by
        cases ok
        · obtain ⟨h1, h2, _⟩ := hb.no rfl
          rw [h1, h2]; simp
        · have := congrArg List.length (hb.yes rfl).1
          simp at this
          omega
      exact ⟨a3 ++ d, m, t, n, ok, rfl, hL, hx, hb, hmt.1, hmt.2⟩
    obtain ⟨⟨tp, tq, tis⟩, htg⟩ : ∃ x, targetB ta = x := ⟨_, rfl⟩
    have c2 := Lib.hid (fun W h => target_is ta tp tq tis htg W h (by omega))
    obtain ⟨tm, htm⟩ : ∃ b, tokB me = b := ⟨_, rfl⟩
    have c3 := Lib.hid (fun w => token_is me tm htm w hm0)
    have hhas := Lib.hid (And.intro htm (show (targetB ta).2.2 = tis by rw [htg]))
    have hrow' := Lib.hid hrow
    -- the text
    obtain ⟨⟨sm, st, sn, sok⟩, hsl⟩ : ∃ x, lineB s = x := ⟨_, rfl⟩
    have c5 := Lib.hid (fun W h => line_is s sm st sn sok hsl W h (by omega))
    obtain ⟨b1, hb1⟩ : ∃ a, sm ++ [32] = a := ⟨_, rfl⟩
    have f1 : (⟨sm.toArray⟩ : ByteArray) ++ ⟨#[32]⟩ = ⟨b1.toArray⟩ := hb1 ▸ cat_mk sm [32]
    obtain ⟨b2, hb2⟩ : ∃ a, b1 ++ st = a := ⟨_, rfl⟩
    have f2 : (⟨b1.toArray⟩ : ByteArray) ++ ⟨st.toArray⟩ = ⟨b2.toArray⟩ := hb2 ▸ cat_mk b1 st
    obtain ⟨b3, hb3⟩ : ∃ a, b2 ++ httpL = a := ⟨_, rfl⟩
    have f3 : (⟨b2.toArray⟩ : ByteArray) ++ (⟨#[32, 72, 84, 84, 80, 47, 49, 46]⟩ : ByteArray) = ⟨b3.toArray⟩ := hb3 ▸ cat_mk b2 httpL
    have hsec : sok = false ∨ (sok = true ∧ ∃ k : Nat, sn = 10 + k ∧ ((k = 0 ∧ b3 ++ [48] = s) ∨ (k = 1 ∧ b3 ++ [49] = s))) := by
      cases sok
      · exact .inl rfl
      · obtain ⟨_, _, _, h4⟩ := lineB_true hsl
        refine .inr ⟨rfl, ?_⟩
        rcases h4 with ⟨rfl, h4⟩ | ⟨rfl, h4⟩
        · exact ⟨0, rfl, .inl ⟨rfl, by rw [h4, ← hb3, ← hb2, ← hb1]; simp [httpL, pH10]⟩⟩
        · exact ⟨1, rfl, .inr ⟨rfl, by rw [h4, ← hb3, ← hb2, ← hb1]; simp [httpL, pH11]⟩⟩
    have hlen3 : ∀ d : List UInt8, d.length = 1 → b3 ++ d = s → b3.length ≤ 1000 ∧ b2.length ≤ 1000 ∧ b1.length ≤ 1000 ∧ sm.length ≤ 1000 ∧ st.length ≤ 1000 := fun d hd h => by
      have h1 := congrArg List.length h
      have h2 := congrArg List.length hb3
      have h3 := congrArg List.length hb2
      have h4 := congrArg List.length hb1
      simp at h1 h2 h3 h4
      omega
    have hlen3' := Lib.hid hlen3
    have hi0 := Lib.hid (fun W h => itoa_is 0 [48] (by decide +kernel) (by decide) (by decide) W h)
    have hi1 := Lib.hid (fun W h => itoa_is 1 [49] (by decide +kernel) (by decide) (by decide) W h)
    clear ha1 ha2 ha3 hrow htg htm hsl hb1 hb2 hb3 hlen3
    go_enter Tryd.func5, Tryd.ntmps5
    go_wp2_with fail
    refine (awake_any _ hG'.out).mono ?_
    rintro e w1 ⟨rfl, hb⟩
    have g1 := Lib.hid hb
    clear hb
    go_wp2
    go_loopw [7] (fun i wr => (i = .int .i64 10 ∨ i = .int .i64 11 ∨ i = .int .i64 12) ∧ Gr w wr) (fun i _ => (12 - intOf i).toNat)
    case atStart => exact ⟨.inl rfl, g1.out⟩
    case round =>
      obtain ⟨hv, hgr⟩ := hrel
      have g2 := Lib.hid hgr
      clear hgr
      rcases hv with rfl | rfl | rfl
      · obtain ⟨L, m, t, n, ok, hL, hLl, hx, hbr, hml, htl⟩ := hrow'.out [48] 10 (.inl ⟨rfl, rfl⟩)
        have eL : (⟨a3.toArray⟩ : ByteArray) ++ ⟨#[48]⟩ = ⟨L.toArray⟩ := hL ▸ cat_mk a3 [48]
        have c1 := Lib.hid (fun W h => line_is L m t n ok hx W h (by omega))
        have hbr' := Lib.hid hbr
        clear hL hx hbr
        go_wp2_with fail
        refine (hi0.out _ (hG'.out.gr g2.out)).mono ?_
        rintro e w3 ⟨rfl, hb⟩
        have g3 := Lib.hid (g2.out.trans hb)
        clear hb
        go_wp2_with fail
        refine (c1.out _ (hG'.out.gr g3.out)).mono ?_
        rintro e w4 ⟨rfl, hb⟩
        have g4 := Lib.hid (g3.out.trans hb)
        clear hb
        cases ok
        · obtain ⟨rfl, rfl, rfl⟩ := hbr'.out.no rfl
          have hno : tm = false ∨ (tm = true ∧ tis = false) := by
            cases tm
            · exact .inl rfl
            · cases tis
              · exact .inr ⟨rfl, rfl⟩
              · have := (hbr'.out.has hhas.out.1 hhas.out.2).1
                cases this
          go_wp2_with fail
          refine (c2.out _ (hG'.out.gr g4.out)).mono ?_
          rintro e w5 ⟨rfl, hb⟩
          have g5 := Lib.hid (g4.out.trans hb)
          clear hb
          rcases hno with rfl | ⟨rfl, rfl⟩
          all_goals
            go_wp2_with fail
            refine (c3.out _).mono ?_
            rintro e w6 ⟨rfl, rfl⟩
            go_wp2
            go_roundw
            case rel => exact ⟨.inr (.inl (by go_num)), g5.out⟩
            case measure => simp [intOf]
        · obtain ⟨y1, rfl, y3, y4⟩ := hbr'.out.yes rfl
          have y5 := Lib.hid y1
          have c4 := Lib.hid (fun w => token_is m _ y3 w (by omega))
          obtain ⟨d1, hd1⟩ : ∃ a, m ++ [32] = a := ⟨_, rfl⟩
          have j1 : (⟨m.toArray⟩ : ByteArray) ++ ⟨#[32]⟩ = ⟨d1.toArray⟩ := hd1 ▸ cat_mk m [32]
          have j1l : d1.length ≤ 2022 := by rw [← hd1]; simp; omega
          have j2 : (⟨d1.toArray⟩ : ByteArray) ++ ⟨t.toArray⟩ = ⟨a2.toArray⟩ := by rw [cat_mk, ← hd1, y5.out, ha2'.out]
          clear y1 y3 hd1
          go_wp2_with fail
          refine (c4.out _).mono ?_
          rintro e w5 ⟨rfl, rfl⟩
          go_wp2_with fail
          refine (c2.out _ (hG'.out.gr g4.out)).mono ?_
          rintro e w5 ⟨rfl, hb⟩
          have g5 := Lib.hid (g4.out.trans hb)
          clear hb
          have hno : tm = false ∨ (tm = true ∧ tis = false) ∨ (tm = true ∧ tis = true ∧ m = me ∧ t = ta) := by
            cases tm
            · exact .inl rfl
            · cases tis
              · exact .inr (.inl ⟨rfl, rfl⟩)
              · exact .inr (.inr ⟨rfl, rfl, (hbr'.out.has hhas.out.1 hhas.out.2).2⟩)
          rcases hno with rfl | ⟨rfl, rfl⟩ | ⟨rfl, rfl, rfl, rfl⟩
          all_goals
            go_wp2_with fail
            refine (c3.out _).mono ?_
            rintro e w6 ⟨rfl, rfl⟩
            go_wp2
            go_roundw
            case rel => exact ⟨.inr (.inl (by go_num)), g5.out⟩
            case measure => simp [intOf]
      · obtain ⟨L, m, t, n, ok, hL, hLl, hx, hbr, hml, htl⟩ := hrow'.out [49] 11 (.inr ⟨rfl, rfl⟩)
        have eL : (⟨a3.toArray⟩ : ByteArray) ++ ⟨#[49]⟩ = ⟨L.toArray⟩ := hL ▸ cat_mk a3 [49]
        have c1 := Lib.hid (fun W h => line_is L m t n ok hx W h (by omega))
        have hbr' := Lib.hid hbr
        clear hL hx hbr
        go_wp2_with fail
        refine (hi1.out _ (hG'.out.gr g2.out)).mono ?_
        rintro e w3 ⟨rfl, hb⟩
        have g3 := Lib.hid (g2.out.trans hb)
        clear hb
        go_wp2_with fail
        refine (c1.out _ (hG'.out.gr g3.out)).mono ?_
        rintro e w4 ⟨rfl, hb⟩
        have g4 := Lib.hid (g3.out.trans hb)
        clear hb
        cases ok
        · obtain ⟨rfl, rfl, rfl⟩ := hbr'.out.no rfl
          have hno : tm = false ∨ (tm = true ∧ tis = false) := by
            cases tm
            · exact .inl rfl
            · cases tis
              · exact .inr ⟨rfl, rfl⟩
              · have := (hbr'.out.has hhas.out.1 hhas.out.2).1
                cases this
          go_wp2_with fail
          refine (c2.out _ (hG'.out.gr g4.out)).mono ?_
          rintro e w5 ⟨rfl, hb⟩
          have g5 := Lib.hid (g4.out.trans hb)
          clear hb
          rcases hno with rfl | ⟨rfl, rfl⟩
          all_goals
            go_wp2_with fail
            refine (c3.out _).mono ?_
            rintro e w6 ⟨rfl, rfl⟩
            go_wp2
            go_roundw
            case rel => exact ⟨.inr (.inr (by go_num)), g5.out⟩
            case measure => simp [intOf]
        · obtain ⟨y1, rfl, y3, y4⟩ := hbr'.out.yes rfl
          have y5 := Lib.hid y1
          have c4 := Lib.hid (fun w => token_is m _ y3 w (by omega))
          obtain ⟨d1, hd1⟩ : ∃ a, m ++ [32] = a := ⟨_, rfl⟩
          have j1 : (⟨m.toArray⟩ : ByteArray) ++ ⟨#[32]⟩ = ⟨d1.toArray⟩ := hd1 ▸ cat_mk m [32]
          have j1l : d1.length ≤ 2022 := by rw [← hd1]; simp; omega
          have j2 : (⟨d1.toArray⟩ : ByteArray) ++ ⟨t.toArray⟩ = ⟨a2.toArray⟩ := by rw [cat_mk, ← hd1, y5.out, ha2'.out]
          clear y1 y3 hd1
          go_wp2_with fail
          refine (c4.out _).mono ?_
          rintro e w5 ⟨rfl, rfl⟩
          go_wp2_with fail
          refine (c2.out _ (hG'.out.gr g4.out)).mono ?_
          rintro e w5 ⟨rfl, hb⟩
          have g5 := Lib.hid (g4.out.trans hb)
          clear hb
          have hno : tm = false ∨ (tm = true ∧ tis = false) ∨ (tm = true ∧ tis = true ∧ m = me ∧ t = ta) := by
            cases tm
            · exact .inl rfl
            · cases tis
              · exact .inr (.inl ⟨rfl, rfl⟩)
              · exact .inr (.inr ⟨rfl, rfl, (hbr'.out.has hhas.out.1 hhas.out.2).2⟩)
          rcases hno with rfl | ⟨rfl, rfl⟩ | ⟨rfl, rfl, rfl, rfl⟩
          all_goals
            go_wp2_with fail
            refine (c3.out _).mono ?_
            rintro e w6 ⟨rfl, rfl⟩
            go_wp2
            go_roundw
            case rel => exact ⟨.inr (.inr (by go_num)), g5.out⟩
            case measure => simp [intOf]
      · go_wp2_with fail
        refine (c5.out _ (hG'.out.gr g2.out)).mono ?_
        rintro e w3 ⟨rfl, hb⟩
        have g3 := Lib.hid (g2.out.trans hb)
        clear hb
        rcases hsec with rfl | ⟨rfl, k, rfl, hk⟩
        · go_wp2
          go_ret
          exact ⟨rfl, g3.out⟩
        · rcases hk with ⟨rfl, hk⟩ | ⟨rfl, hk⟩
          · obtain ⟨q1, q2, q3, q4, q5⟩ := hlen3'.out _ rfl hk
            have f4 : (⟨b3.toArray⟩ : ByteArray) ++ ⟨#[48]⟩ = ⟨s.toArray⟩ := hk ▸ cat_mk b3 [48]
            clear hk
            go_wp2_with fail
            refine (hi0.out _ (hG'.out.gr g3.out)).mono ?_
            rintro e w4 ⟨rfl, hb⟩
            have g4 := Lib.hid (g3.out.trans hb)
            clear hb
            go_wp2
            go_ret
            exact ⟨rfl, g4.out⟩
          · obtain ⟨q1, q2, q3, q4, q5⟩ := hlen3'.out _ rfl hk
            have f4 : (⟨b3.toArray⟩ : ByteArray) ++ ⟨#[49]⟩ = ⟨s.toArray⟩ := hk ▸ cat_mk b3 [49]
            clear hk
            go_wp2_with fail
            refine (hi1.out _ (hG'.out.gr g3.out)).mono ?_
            rintro e w4 ⟨rfl, hb⟩
            have g4 := Lib.hid (g3.out.trans hb)
            clear hb
            go_wp2
            go_ret
            exact ⟨rfl, g4.out⟩
  · have hor : 1000 < me.length ∨ (me.length ≤ 1000 ∧ 1000 < ta.length) ∨ (me.length ≤ 1000 ∧ ta.length ≤ 1000 ∧ 1000 < s.length) := by omega
    clear hl
    rcases hor with h1 | ⟨h1, h2⟩ | ⟨h1, h2, h3⟩
    all_goals
      go_enter Tryd.func5, Tryd.ntmps5
      go_wp2_with fail
      refine (awake_any _ hG'.out).mono ?_
      rintro e w1 ⟨rfl, hb⟩
      have g1 := Lib.hid hb
      clear hb
      go_wp2
      go_ret
      exact ⟨rfl, g1.out⟩
end Go.Proofs.YthcbfholifagjaaDoor
