/-
  Closed functions that say true, as things of their own.
-/
import Derived.Below
import Derived.Test.YtjjmmakledpifaaGreatDoorSK
import Derived.Lib.Overlaps
import Derived.Lib.SlKeysI
import Derived.Laws.AppendOwn
import Derived.MapKept
set_option linter.unusedVariables false
set_option linter.unusedSimpArgs false
namespace Go.Ra
variable {P : Program} {m : Mp} {h : TB} {nx : Nat} {w : World} {nt : Nat} {a : Act} {z : TV} {ft : TF} {ex : Exec}

/-! Equal values -/
theorem sameK_eq {a b : IntKind} (h : sameK a b = true) : a = b := by
  cases a <;> cases b <;> first | rfl | (cases h; done)
theorem eqI_same {a b : Int} (h : eqI a b = true) : a = b := by
  cases a <;> cases b
  · exact congrArg _ (nbeq_iff.1 h)
  · cases h
  · cases h
  · exact congrArg _ (nbeq_iff.1 h)
theorem AV.beq_eq : ∀ (a b : AV), a.beq b = true → a = b := by
  intro a
  induction a <;> intro b hb <;> cases b <;> simp only [AV.beq, Bool.and_eq_true, reduceCtorEq] at hb
  case undef.undef => rfl
  case nl.nl => rfl
  case cs.cs iha ihb _ _ => rw [iha _ hb.1, ihb _ hb.2]
  case bool.bool => rw [beq_iff_eq.1 hb]
  case int.int => rw [sameK_eq hb.1, eqI_same hb.2]
  case icap.icap => rw [nbeq_iff.1 hb]
  case aint.aint => rfl
  case ilt.ilt => rw [nbeq_iff.1 hb]
  case text.text => rw [nbeq_iff.1 hb.1, nbeq_iff.1 hb.2]
  case str.str => rw [nbeq_iff.1 hb.1, nbeq_iff.1 hb.2]
  case ptr.ptr => rw [(Pth.beq_eq _ _).1 hb.1, nbeq_iff.1 hb.2]
  case nilptr.nilptr => rfl
  case slice.slice =>
    obtain ⟨h1, h2, h3, h4, h5, h6⟩ := hb
    rw [(Pth.beq_eq _ _).1 h1, nbeq_iff.1 h2, nbeq_iff.1 h3, nbeq_iff.1 h4, beq_iff_eq.1 h5, nbeq_iff.1 h6]
  case nilslice.nilslice => rfl
  case map.map => rw [(Pth.beq_eq _ _).1 hb]
  case nilmap.nilmap => rfl
  case func.func iha ihb _ _ _ => rw [(Pth.beq_eq _ _).1 hb.1, iha _ hb.2.1, ihb _ hb.2.2]
  case yield.yield => rw [(Pth.beq_eq _ _).1 hb]
  case nilfunc.nilfunc => rfl
  case iface.iface ih _ _ => rw [nbeq_iff.1 hb.1, ih _ hb.2]
  case nilIface.nilIface => rfl
  case agg.agg ih _ => rw [ih _ hb]
  case tuple.tuple ih _ => rw [ih _ hb]

/-- Values in which no block's name stands. -/
def AV.flat : AV → Bool
  | .int _ _ | .aint | .bool _ | .str _ _ => true
  | _ => false
def flatL : AV → Bool
  | .nl => true
  | .cs a l => a.flat && flatL l
  | _ => false
theorem VRel.flat {m m' : Mp} {a : AV} {v : Value} (h : VRel m a v) (hf : a.flat = true) : VRel m' a v := by
  cases h <;> first | exact .int _ _ | exact .aint _ | exact .bool _ | exact .str _ | exact Bool.noConfusion hf
theorem VRels.flat {m m' : Mp} {l : AV} {vs : List Value} (h : VRels m l vs) (hf : flatL l = true) : VRels m' l vs := by
  induction vs generalizing l with
  | nil => cases h; exact .nil
  | cons v vs ih =>
    cases h with | cons a l _ _ h t =>
    simp only [flatL, Bool.and_eq_true] at hf
    exact .cons _ _ _ _ (h.flat hf.1) (ih t hf.2)
def GL.flat : GL → Bool
  | .nil => true
  | .cons g _ _ c l => decide (g < 8) && (flatL c && l.flat)
/-- What the globals hold. -/
def GlW (w : World) : GL → Prop
  | .nil => True
  | .cons g el n c l => (∃ cs fr, w.heap[g]? = some (.cells cs el fr) ∧ cs.size < 18446744073709551616 ∧ (∀ v ∈ cs.toList.take n, v.oneCell' = true) ∧ (fr.1 ≠ fr.2 → fr.1 < fr.2 ∧ fr.1 < cs.size) ∧ n ≤ cs.size ∧ VRels (fun _ => none) c (cs.toList.take n)) ∧ GlW w l
theorem Inv.glW (I : Inv P m h nx w) : ∀ (l : GL), l.flat = true → glFit h l = true → GlW w l := by
  intro l
  induction l with
  | nil => intro _ _; trivial
  | cons g el n c l ih =>
    intro hf hx
    simp only [GL.flat, Bool.and_eq_true, decide_eq_true_eq] at hf
    simp only [glFit, Bool.and_eq_true] at hx
    refine ⟨?_, ih hf.2.2 hx.2⟩
    obtain ⟨e, g1, g2, g3, g4⟩ := I.glob g hf.1
    have hB := I.blk _ e g1
    have hR := I.ro _ e g1 g4
    have hx1 := hx.1
    cases hb : h.get (bid g) with
    | cells fz e' lo hi t =>
      rw [hb] at hB hR hx1
      simp only [Bool.and_eq_true] at hx1
      obtain ⟨x1, x2, x3, x4, x5⟩ := hx1
      obtain rfl := nbeq_iff.1 x1
      obtain rfl := nbeq_iff.1 x2
      obtain rfl := nbeq_iff.1 x3
      obtain rfl := nbeq_iff.1 x4
      obtain ⟨cs, fr, b1, b2⟩ := hB
      have hsz : cs.size < 18446744073709551616 := by
        have := b2.size
        have := hR.1
        omega
      have hn : n ≤ cs.size := by
        have := b2.size
        have := b2.high
        omega
      refine ⟨cs, fr, by rw [← g2]; exact b1, hsz, fun v hv => ?_, fun hne => ?_, hn, ?_⟩
      · obtain ⟨i, hi, hiv⟩ := List.mem_iff_getElem.1 hv
        have hlt : i < n := by
          have h0 := hi
          rw [List.length_take] at h0
          omega
        have h0 : (cs.toList.take n)[i]? = some v := by rw [List.getElem?_eq_getElem hi, hiv]
        rw [List.getElem?_take_of_lt hlt] at h0
        exact b2.one i (Nat.zero_le _) (by omega) v (by rw [g3, Nat.sub_zero, ← Array.getElem?_toList]; exact h0)
      · have := b2.mark (by omega) hne
        rwa [← b2.size] at this
      · obtain ⟨vs, k1, k2, k3, k4⟩ := b2.loads b1 n (off := 0) (Nat.le_refl _) (by omega)
        have he : vs = cs.toList.take n := by
          apply List.ext_getElem?
          intro j
          by_cases hj : j < n
          · have hv : vs[j]? = some (vs[j]'(by omega)) := by simp
            have := k4 j _ hv
            rw [cell_of b1, g3] at this
            rw [hv, List.getElem?_take_of_lt hj, ← this]
            simp
          · rw [List.getElem?_eq_none (by omega), List.getElem?_eq_none (by simp; omega)]
        rw [← he]
        have := AV.beq_eq _ _ x5
        rw [this] at k2
        exact k2.flat hf.2.1
    | _ => rw [hb] at hx1; cases hx1
/-- A function of which it is proved that it says true and leaves what lay as it was, wherever the globals hold what is asked. -/
def TruthOk (P : Program) (f : Nat) (l : GL) : Prop := l.flat = true ∧ (∀ a w, (callFunc f a).run P w = .ok (.enter f a) w) ∧ ∀ w : World, 8 ≤ w.heap.size → GlW w l →
  Calls P f #[] w fun e w' => e = .returned (.bool true) ∧ RowKit.Below w.heap.size w w'
theorem Inv.below (I : Inv P m h nx w) {w' : World} (hb : RowKit.Below w.heap.size w w') : Inv P m h nx w' ∧ Fr m h nx w m h nx w' := by
  refine ⟨⟨fun id e he => ?_, I.inj, I.dom, I.top, I.low, I.glob, I.ro, fun id e he => Nat.lt_of_lt_of_le (I.lim id e he) hb.size⟩, ?_⟩
  · rw [hb.block _ (I.lim id e he)]
    exact I.blk id e he
  · refine ⟨Sub.refl m, Nat.le_refl _, fun _ _ e => ⟨e, rfl⟩, hb.os, hb.tape, hb.output, hb.size, fun r hr _ => hb.block r hr, fun r l hl => ⟨l, ?_⟩, fun id e h1 h2 => by rw [h1] at h2; cases h2⟩
    rw [hb.block r (Array.getElem?_eq_some_iff.1 hl).1]
    exact hl
theorem Inv.size (I : Inv P m h nx w) : 8 ≤ w.heap.size := by
  obtain ⟨e, g1, g2, _⟩ := I.glob (8 - 1) (by omega)
  have := I.lim _ e g1
  omega
theorem truth_sound (I : Inv P m h nx w) {f : Nat} {gl : GL} (hok : TruthOk P f gl) {args : AV} {l : List Value} (ha : VRels m args l) {v : AV} {h' : TB} {nx' : Nat} (hx : extA (.truth gl) args h nx = .ok v h' nx') :
    Calls P f ⟨l⟩ w fun e w' => ∃ v', e = .returned v' ∧ Acted P m h nx w v h' nx' v' w' := by
  unfold extA at hx
  split at hx
  case h_6 =>
    rename_i gl' hq
    cases hq
    cases ha
    cases hfit : glFit h gl with
    | false => rw [hfit] at hx; cases hx
    | true =>
      rw [hfit] at hx
      cases hx
      refine (hok.2.2 w I.size (I.glW gl hok.1 hfit)).mono fun e w' he => ?_
      obtain ⟨rfl, hb⟩ := he
      obtain ⟨i1, i2⟩ := I.below hb
      exact ⟨_, rfl, m, .bool _, i1, i2⟩
  all_goals first | (rename_i hq _; cases hq; done) | (rename_i hq; cases hq; done) | cases hx | skip
end Go.Ra
namespace Go.Ra
variable {P : Program} {m : Mp} {h : TB} {nx : Nat} {w : World} {nt : Nat} {a : Act} {z : TV} {ft : TF} {ex : Exec}

def OverOk (P : Program) (f : Nat) : Prop := ∃ (fn : Func) (t e size rs : Nat), P.funcs[f]? = some fn ∧ fn.name ≠ "runtime.NumGoroutine" ∧ fn.body = none ∧ Extern.findNext fn = none ∧ Extern.find fn = some (Extern.SlicesOverlaps.overlaps #[t, t] #[rs]) ∧ P.underlying t = some (.slice e) ∧ ∀ w, (Go.sizeOf e).run P w = .ok size w
theorem over_sound (I : Inv P m h nx w) {f : Nat} (hok : OverOk P f) {args : AV} {l : List Value} (ha : VRels m args l) {v : AV} {h' : TB} {nx' : Nat} (hx : extA .overlaps args h nx = .ok v h' nx') :
    ∃ v' w', (callFunc f ⟨l⟩).run P w = .ok (.value v') w' ∧ Acted P m h nx w v h' nx' v' w' := by
  obtain ⟨fn, t, el, size, rs, hf, hno, hb, q1, q2, ht, hz⟩ := hok
  unfold extA at hx
  split at hx
  case h_7 =>
    rename_i p o l1 _ _ _ q o' l2 _ _ _ _
    split at hx
    · rename_i fz e1 lo hi t1 fz2 e2 lo2 hi2 t2 hb1 hb2
      cases hcond : (!p.beq q && (Nat.ble 1 fz && (Nat.ble fz (Nat.succ o) && (Nat.ble lo o && (Nat.ble (Nat.succ o) hi && (Nat.ble (Nat.succ lo2) hi2 && (Nat.ble 1 l1 && Nat.ble 1 l2))))))) with
      | false => rw [hcond] at hx; cases hx
      | true =>
        rw [hcond] at hx
        simp only [Bool.and_eq_true, nble_iff] at hcond
        obtain ⟨k0, k1, k2, k3, k4, k5, k6, k7⟩ := hcond
        cases hx
        cases ha with | cons _ _ v1 _ hv1 ht1 =>
        cases ht1 with | cons _ _ v2 _ hv2 ht2 =>
        cases ht2
        cases hv1 with | slice _ _ _ _ _ _ ea aa ca hea hda hla hloa hma hexa hsa hada =>
        cases hv2 with | slice _ _ _ _ _ _ eb ab cb heb hdb hlb hlob hmb hexb hsb hadb =>
        obtain ⟨cs1, fr1, hw1, R1⟩ := I.row hea hb1
        obtain ⟨cs2, fr2, hw2, R2⟩ := I.row heb hb2
        have hne : ea.blk ≠ eb.blk := fun e => by
          have := I.inj p q ea eb hea heb (by rw [hb1]; trivial) (by rw [hb2]; trivial) e
          subst this
          rw [(Pth.beq_eq p p).2 rfl] at k0
          cases k0
        have h1 := R1.size
        have h2 := R1.high
        have h3 := R2.size
        have h4 := R2.high
        have h5 := R2.low
        have ea1 := hada (by omega)
        have eb1 := hadb (by omega)
        have hr := Lib.run_overlaps_apart (P := P) w t rs el ht size hz aa ab l1 ca l2 cb (by rw [ea1, eb1]; exact hne) e1 e2 cs1.size cs2.size
          (by rw [ea1]; simp [World.shape?, hw1]) (by rw [eb1]; simp [World.shape?, hw2]) (by omega)
          (by
            rw [ea1]
            have := R1.free o hda (by omega) (by omega)
            simp only [World.frozen?, hw1]
            simpa using this)
          (by
            rw [ea1]
            simp only [World.frozen?, hw1]
            have hfree := R1.free (ea.delta + ea.size - 1) (by omega) (by omega) (by omega)
            by_cases hfr : fr1.1 = fr1.2
            · simp; omega
            · have := R1.mark k1 hfr
              simp
              omega)
        exact ⟨_, w, callFunc_ext hf hno hb q1 q2 hr, acted_pure I (.bool _)⟩
    · cases hx
  all_goals first | (rename_i hq _; cases hq; done) | (rename_i hq; cases hq; done) | cases hx | skip

/-! Calls of which it is known what they yield -/
def KnownOk (P : Program) (f : Nat) (l : GL) (a v : AV) : Prop := l.flat = true ∧ flatL a = true ∧ v.flat = true ∧ (∀ x w, (callFunc f x).run P w = .ok (.enter f x) w) ∧ ∀ (vs : List Value) (w : World), VRels (fun _ => none) a vs → 8 ≤ w.heap.size → GlW w l →
  Calls P f ⟨vs⟩ w fun e w' => (∃ v' m', e = .returned v' ∧ VRel m' v v') ∧ RowKit.Below w.heap.size w w'
theorem known_sound (I : Inv P m h nx w) {f : Nat} {gl : GL} {a u : AV} (hok : KnownOk P f gl a u) {args : AV} {l : List Value} (ha : VRels m args l) {v : AV} {h' : TB} {nx' : Nat} (hx : extA (.known gl a u) args h nx = .ok v h' nx') :
    Calls P f ⟨l⟩ w fun e w' => ∃ v', e = .returned v' ∧ Acted P m h nx w v h' nx' v' w' := by
  replace hx : (bif AV.beq args a && glFit h gl then CR.ok u h nx else .fail) = .ok v h' nx' := hx
  cases hc : (AV.beq args a && glFit h gl) with
  | false => rw [hc] at hx; cases hx
  | true =>
    rw [hc] at hx
    rw [Bool.and_eq_true] at hc
    obtain rfl := AV.beq_eq _ _ hc.1
    cases hx
    refine (hok.2.2.2.2 l w (ha.flat hok.2.1) I.size (I.glW gl hok.1 hc.2)).mono fun e w' he => ?_
    obtain ⟨⟨v', m', rfl, hv⟩, hb⟩ := he
    obtain ⟨i1, i2⟩ := I.below hb
    exact ⟨_, rfl, m, hv.flat hok.2.2.1, i1, i2⟩

/-! A map's keys, sorted -/
structure SortedOk (P : Program) (f : Nat) (kp : Pth) (el : TypeId) : Prop where
  enters : ∀ a w, (callFunc f a).run P w = .ok (.enter f a) w
  run : ∀ (k : Nat), k < 8 ^ D → kp = bid k → ∀ (w : World) (b mb : Nat) (es : Array MapEntry) (ck : Nat) (ks : List Int), w.cell? ⟨b, 0, none⟩ = some (.map (some mb)) → w.heap[mb]? = some (.map es ck) → es.toList.map (·.key) = ks.map (Value.int .i64) → MapKept.Stamped es ck →
    (∀ z ∈ ks, 0 ≤ z ∧ z ≤ 9223372036854775807) → ks.length ≤ 1000 → Calls P f #[.func (.func k) #[] #[.pointer (some ⟨b, 0, none⟩)]] w fun e w' => ∃ (v : Value) (ss : List Int), e = .returned v ∧ ss.Perm ks ∧ ss.Pairwise (· ≤ ·) ∧ w'.ownsRow w.heap.size el 1 v ss.length (ss.map (Value.int .i64)) ∧ (ss = [] → v = .slice none 0 0) ∧ RowKit.Below w.heap.size w w'
def avI : List Int → AV
  | [] => .nl
  | a :: l => .cs (.int .i64 a) (avI l)
theorem avI_rel (m : Mp) : ∀ l : List Int, VRels m (avI l) (l.map (Value.int .i64)) := by
  intro l
  induction l with
  | nil => exact .nil
  | cons a l ih => exact .cons _ _ _ _ (.int _ _) ih
theorem avI_len : ∀ l : List Int, (avI l).len = l.length := by
  intro l
  induction l with
  | nil => rfl
  | cons a l ih => show (avI l).len + 1 = _; rw [ih]; rfl
def insL (a : Int) : List Int → List Int
  | [] => [a]
  | b :: l => if a ≤ b then a :: b :: l else b :: insL a l
theorem leI_iff (a b : Int) : leI a b = decide (a ≤ b) := by rw [leI_eq]
theorem insI_av (a : Int) : ∀ l : List Int, insI a (avI l) = avI (insL a l) := by
  intro l
  induction l with
  | nil => rfl
  | cons b l ih =>
    show (bif leI a b then AV.cs (.int .i64 a) (.cs (.int .i64 b) (avI l)) else .cs (.int .i64 b) (insI a (avI l))) = avI (if a ≤ b then a :: b :: l else b :: insL a l)
    rw [leI_iff, ih]
    by_cases h : a ≤ b
    · simp [h, avI]
    · simp [h, avI]
theorem hasI_av (a : Int) : ∀ l : List Int, hasI a (avI l) = decide (a ∈ l) := by
  intro l
  induction l with
  | nil => rfl
  | cons b l ih =>
    show (eqI a b || hasI a (avI l)) = _
    rw [ih, Bool.eq_iff_iff, eqI_eq]
    simp
theorem insL_perm (a : Int) : ∀ l : List Int, (insL a l).Perm (a :: l) := by
  intro l
  induction l with
  | nil => exact .refl _
  | cons b l ih =>
    unfold insL
    split
    · exact .refl _
    · exact (ih.cons b).trans (.swap a b l)
theorem insL_sorted (a : Int) : ∀ l : List Int, l.Pairwise (· ≤ ·) → (insL a l).Pairwise (· ≤ ·) := by
  intro l
  induction l with
  | nil => intro _; simp [insL]
  | cons b l ih =>
    intro h
    rw [List.pairwise_cons] at h
    unfold insL
    split
    · rename_i hab
      rw [List.pairwise_cons]
      refine ⟨fun c hc => ?_, List.pairwise_cons.2 h⟩
      rcases List.mem_cons.1 hc with rfl | hc
      · exact hab
      · exact Int.le_trans hab (h.1 c hc)
    · rename_i hab
      rw [List.pairwise_cons]
      refine ⟨fun c hc => ?_, ih h.2⟩
      rcases List.mem_cons.1 ((insL_perm a l).mem_iff.1 hc) with rfl | hc
      · omega
      · exact h.1 c hc
theorem sorted_eq : ∀ (l1 l2 : List Int), l1.Perm l2 → l1.Pairwise (· ≤ ·) → l2.Pairwise (· ≤ ·) → l1 = l2 := by
  intro l1
  induction l1 with
  | nil => intro l2 hp _ _; exact (List.nil_perm.1 hp).symm
  | cons a l1 ih =>
    intro l2 hp h1 h2
    cases l2 with
    | nil => exact absurd hp.symm (by simp)
    | cons b l2 =>
      rw [List.pairwise_cons] at h1 h2
      have hab : a = b := by
        have q1 : a ∈ b :: l2 := hp.mem_iff.1 (List.mem_cons_self ..)
        have q2 : b ∈ a :: l1 := hp.mem_iff.2 (List.mem_cons_self ..)
        rcases List.mem_cons.1 q1 with h | h
        · exact h
        · rcases List.mem_cons.1 q2 with h' | h'
          · exact h'.symm
          · have := h1.1 b h'
            have := h2.1 a h
            omega
      subst hab
      rw [ih l2 (List.Perm.cons_inv hp) h1.2 h2.2]
theorem keysI_some {ck : Nat} : ∀ (es : ME) (lo : Nat) (L : AV) (l : List MapEntry), keysI ck lo es = some L → MRel m es l →
    ∃ ks ss : List Int, L = avI ss ∧ l.map (·.key) = ks.map (Value.int .i64) ∧ ss.Perm ks ∧ ss.Pairwise (· ≤ ·) ∧ ks.Nodup ∧ (∀ z ∈ ks, 0 ≤ z ∧ z ≤ 9223372036854775807) ∧ (∀ x ∈ l, lo ≤ x.born ∧ x.born < ck) ∧ (l.map (·.born)).Nodup ∧ lo ≤ ck := by
  intro es
  induction es with
  | nil =>
    intro lo L l hk hm
    unfold keysI at hk
    cases hb : Nat.ble lo ck with
    | false => rw [hb] at hk; cases hk
    | true =>
      rw [hb] at hk
      cases hk
      cases hm
      exact ⟨[], [], rfl, rfl, .refl _, .nil, .nil, by simp, by simp, by simp, nble_iff.1 hb⟩
  | cons k v b es ih =>
    intro lo L l hk hm
    obtain ⟨a, rfl⟩ : ∃ a, k = .int .i64 (.ofNat a) := by
      cases k with
      | int kk n =>
        cases kk with
        | i64 =>
          cases n with
          | negSucc a => cases (show none = some L from hk)
          | ofNat a => exact ⟨a, rfl⟩
        | _ => cases (show none = some L from hk)
      | _ => cases (show none = some L from hk)
    · replace hk : (bif Nat.ble a 9223372036854775807 && Nat.ble lo b then match keysI ck (Nat.succ b) es with
        | some v => bif hasI (.ofNat a) v then none else some (insI (.ofNat a) v)
        | none => none
        else none) = some L := hk
      cases hc : (Nat.ble a 9223372036854775807 && Nat.ble lo b) with
      | false => rw [hc] at hk; cases hk
      | true =>
        rw [hc] at hk
        simp only [Bool.and_eq_true, nble_iff] at hc
        simp only [cond_true] at hk
        cases hr : keysI ck (Nat.succ b) es with
        | none => rw [hr] at hk; cases hk
        | some L2 =>
          rw [hr] at hk
          cases hm with | cons _ _ _ _ k' v' l' hk' hv' hl' =>
          cases hk'
          obtain ⟨ks, ss, rfl, g2, g3, g4, g5, g6, g7, g8, g9⟩ := ih _ _ _ hr hl'
          simp only at hk
          rw [hasI_av] at hk
          by_cases hin : (Int.ofNat a) ∈ ss
          · rw [decide_eq_true hin] at hk; cases hk
          · rw [decide_eq_false hin] at hk
            simp only [cond_false, Option.some.injEq] at hk
            subst hk
            refine ⟨Int.ofNat a :: ks, insL (Int.ofNat a) ss, insI_av _ _, by simp [g2], (insL_perm _ _).trans (g3.cons _), insL_sorted _ _ g4, List.nodup_cons.2 ⟨fun h => hin (g3.mem_iff.2 h), g5⟩, fun z hz => ?_, fun x hx => ?_, ?_, by omega⟩
            · rcases List.mem_cons.1 hz with rfl | hz
              · exact ⟨by simp, by have := hc.1; show (a : Int) ≤ _; omega⟩
              · exact g6 z hz
            · rcases List.mem_cons.1 hx with rfl | hx
              · exact ⟨hc.2, by show b < ck; omega⟩
              · have := g7 x hx
                exact ⟨by omega, this.2⟩
            · rw [List.map_cons, List.nodup_cons]
              refine ⟨fun h => ?_, g8⟩
              obtain ⟨x, hx, hxb⟩ := List.mem_map.1 h
              have := (g7 x hx).1
              have hxb : x.born = b := hxb
              omega
/-- A block of a world gets a name. -/
theorem Inv.christen (I : Inv P m h nx w) {w' : World} (hb : RowKit.Below w.heap.size w w') (hn : nx ≤ 32767) {e : E} (hg : w.heap.size ≤ e.blk) (hlt : e.blk < w'.heap.size) (hro : e.ro = false) {b : AB} (hB : BRel P (m.ext nx e) e b w'.heap[e.blk]?) :
    Inv P (m.ext nx e) (TB.set (bid nx) b h) (nx + 1) w' ∧ Fr m h nx w (m.ext nx e) (TB.set (bid nx) b h) (nx + 1) w' := by
  obtain ⟨I', _⟩ := I.below hb
  have hf := I.fresh (Nat.le_refl _) hn
  have hs : Sub m (m.ext nx e) := Mp.ext_sub hf
  have hid : ∀ id e', m.ext nx e id = some e' → (id = bid nx ∧ e' = e) ∨ (id ≠ bid nx ∧ m id = some e') := by
    intro id e' h
    unfold Mp.ext at h
    split at h
    · rename_i hi; exact .inl ⟨hi, (Option.some.inj h).symm⟩
    · rename_i hi; exact .inr ⟨hi, h⟩
  have hgt : ∀ id, id ≠ bid nx → id.plen = D → (TB.set (bid nx) b h).get id = h.get id := fun id h1 h2 => by rw [TB.get_set (by rw [h2, plen_bid]), if_neg h1]
  have hgn : (TB.set (bid nx) b h).get (bid nx) = b := by rw [TB.get_set rfl, if_pos rfl]
  refine ⟨⟨fun id e' h' => ?_, fun id id' e1 e2 h1 h2 l1 l2 hb' => ?_, fun id e' h' => ?_, by omega, by have := I.low; omega, fun g hg' => ?_, fun id e' h' hr => ?_, fun id e' h' => ?_⟩, ?_⟩
  · rcases hid id e' h' with ⟨rfl, rfl⟩ | ⟨h1, h2⟩
    · rw [hgn]; exact hB
    · rw [hgt id h1 (I.plen h2)]; exact (I'.blk id e' h2).mono P hs
  · rcases hid id e1 h1 with ⟨rfl, rfl⟩ | ⟨k1, k2⟩ <;> rcases hid id' e2 h2 with ⟨rfl, rfl⟩ | ⟨k3, k4⟩
    · rfl
    · have := I.lim id' e2 k4
      omega
    · have := I.lim id e1 k2
      omega
    · rw [hgt id k1 (I.plen k2)] at l1
      rw [hgt id' k3 (I.plen k4)] at l2
      exact I.inj id id' e1 e2 k2 k4 l1 l2 hb'
  · rcases hid id e' h' with ⟨rfl, rfl⟩ | ⟨h1, h2⟩
    · exact ⟨nx, by omega, rfl⟩
    · obtain ⟨n, k1, k2⟩ := I.dom id e' h2
      exact ⟨n, by omega, k2⟩
  · obtain ⟨e', k1, k2⟩ := I.glob g hg'
    exact ⟨e', hs _ _ k1, k2⟩
  · rcases hid id e' h' with ⟨rfl, rfl⟩ | ⟨h1, h2⟩
    · rw [hro] at hr; cases hr
    · rw [hgt id h1 (I.plen h2)]; exact I.ro id e' h2 hr
  · rcases hid id e' h' with ⟨rfl, rfl⟩ | ⟨h1, h2⟩
    · exact hlt
    · exact I'.lim id e' h2
  · refine ⟨hs, by omega, fun n hn' hm => ?_, hb.os, hb.tape, hb.output, hb.size, fun r hr _ => hb.block r hr, fun r l hl => ⟨l, ?_⟩, fun id e' h1 h2 => ?_⟩
    · have hne : bid n ≠ bid nx := fun e => by have := bid_inj (by omega) hn e; omega
      exact ⟨by unfold Mp.ext; rw [if_neg hne]; exact hm, hgt _ hne (plen_bid n)⟩
    · rw [hb.block r (Array.getElem?_eq_some_iff.1 hl).1]; exact hl
    · rcases hid id e' h1 with ⟨rfl, rfl⟩ | ⟨k1, k2⟩
      · exact .inl hg
      · rw [h2] at k2; cases k2
theorem sorted_sound (I : Inv P m h nx w) {f : Nat} {kp : Pth} {el : TypeId} (hok : SortedOk P f kp el) {args : AV} {l : List Value} (ha : VRels m args l) {v : AV} {h' : TB} {nx' : Nat} (hx : extA (.sorted kp el) args h nx = .ok v h' nx') :
    Calls P f ⟨l⟩ w fun e w' => ∃ v', e = .returned v' ∧ Acted P m h nx w v h' nx' v' w' := by
  unfold extA at hx
  split at hx
  case h_8 =>
    rename_i kp' el' f0 id off hq
    cases hq
    cases hcond : (f0.beq kp && (Nat.beq off 0 && Nat.ble nx 32767)) with
    | false => rw [hcond] at hx; cases hx
    | true =>
    rw [hcond] at hx
    simp only [Bool.and_eq_true, nble_iff, nbeq_iff] at hcond
    obtain ⟨q1, rfl, q3⟩ := hcond
    obtain rfl := (Pth.beq_eq _ _).1 q1
    simp only [cond_true] at hx
    cases ha with | cons _ _ v1 _ hv ht =>
    cases ht
    cases hv with | func k _ _ l1 l2 hlt g1 g2 =>
    cases g1
    cases g2 with | cons _ _ x0 _ g3 g4 =>
    cases g4
    cases g3 with | ptr _ _ e he hd =>
    split at hx
    · rename_i mid hcell
      cases hbk : h.get id with
      | cells fz el0 lo hi t =>
        rw [hbk] at hcell
        obtain ⟨hc1, hc2⟩ := whenA_some.1 (show whenA (Nat.beq lo 0 && Nat.ble 1 hi) (some (t.get 0)) = some (.map mid) from hcell)
        simp only [Bool.and_eq_true, nble_iff, nbeq_iff] at hc1
        obtain ⟨rfl, hc1⟩ := hc1
        obtain ⟨cs, fr, hw, R⟩ := I.row he hbk
        have hdl : e.delta = 0 := by have := R.low; omega
        obtain ⟨u, hu1, hu2⟩ := R.cell 0 (Nat.le_refl _) (by omega)
        rw [Option.some.inj hc2] at hu2
        cases hu2 with | map _ e2 he2 =>
        rw [hdl, Nat.sub_zero] at hu1
        have hcl : w.cell? ⟨e.blk, 0, none⟩ = some (.map (some e2.blk)) := by rw [cell_of hw]; exact hu1
        split at hx
        · rename_i es ck hmb
          have hB := I.blk mid e2 he2
          rw [hmb] at hB
          obtain ⟨ml, hml, hM⟩ := hB
          cases hk : keysI ck 0 es with
          | none => rw [hk] at hx; cases hx
          | some L =>
            rw [hk] at hx
            obtain ⟨ks, ss, rfl, p2, p3, p4, p5, p6, p7, p8, p9⟩ := keysI_some es 0 L _ hk hM
            have hlen : ss.length ≤ 1000 := by
              cases ss with
              | nil => simp
              | cons a ss =>
                cases hq : Nat.ble (avI (a :: ss)).len 1000 with
                | false =>
                  replace hx : (bif Nat.ble (avI (a :: ss)).len 1000 then CR.ok (.slice (bid nx) 0 (avI (a :: ss)).len (avI (a :: ss)).len false 1) (TB.set (bid nx) (.cells 1 el 0 (avI (a :: ss)).len (Tr.sets (avI (a :: ss)) 0 .leaf)) h) (Nat.succ nx) else .fail) = .ok v h' nx' := hx
                  rw [hq] at hx; cases hx
                | true => rw [nble_iff, avI_len] at hq; exact hq
            have hkl : ks.length = ss.length := p3.length_eq.symm
            have hst : MapKept.Stamped ml ck := ⟨fun x hx => (p7 x hx).2, p8, by rw [p2]; exact List.pairwise_map.2 (p5.imp fun h e => h (by injection e))⟩
            rw [hdl]
            refine (hok.run k hlt rfl w e.blk e2.blk ml ck ks hcl hml p2 hst p6 (by omega)).mono fun ee w' hee => ?_
            obtain ⟨v', ss', rfl, s1, s2, s3, s4, hbel⟩ := hee
            obtain rfl : ss' = ss := sorted_eq _ _ (s1.trans p3.symm) s2 p4
            cases hss : ss' with
            | nil =>
              subst hss
              cases hx
              rw [s4 rfl]
              obtain ⟨i1, i2⟩ := I.below hbel
              exact ⟨_, rfl, m, .nilslice, i1, i2⟩
            | cons a0 s0 =>
              obtain ⟨x1, x2⟩ := s3
              have hne : ss'.length ≠ 0 := by rw [hss]; simp
              rcases x2 with ⟨_, x3⟩ | ⟨g, cap, cur, rfl, x4, x5, x6, x7, x8, x9⟩
              · exact absurd x3 hne
              · rw [hss] at hx
                replace hx : (bif Nat.ble (avI (a0 :: s0)).len 1000 then CR.ok (.slice (bid nx) 0 (avI (a0 :: s0)).len (avI (a0 :: s0)).len false 1) (TB.set (bid nx) (.cells 1 el 0 (avI (a0 :: s0)).len (Tr.sets (avI (a0 :: s0)) 0 .leaf)) h) (Nat.succ nx) else .fail) = .ok v h' nx' := hx
                rw [← hss, avI_len, nble_iff.2 hlen] at hx
                cases hx
                rw [Nat.mul_one] at x8 x9
                have hgl := (Array.getElem?_eq_some_iff.1 x5).1
                have hcl2 : ∀ o, o < ss'.length → cur[o]? = (ss'.map (Value.int .i64))[o]? := fun o ho => by
                  rw [← x9, List.getElem?_take_of_lt ho, Array.getElem?_toList]
                have hB : BRel P (m.ext nx ⟨g, 0, cap, false⟩) ⟨g, 0, cap, false⟩ (.cells 1 el 0 ss'.length (Tr.sets (avI ss') 0 .leaf)) w'.heap[g]? := by
                  refine ⟨cur, (0, 0), x5, ⟨x8, Nat.le_refl _, by show ss'.length ≤ 0 + cap; omega, fun o _ ho v hv => ?_, fun o _ ho => ?_, fun o _ _ _ hh => by simp at hh, fun _ hh => absurd rfl hh⟩⟩
                  · have hv : cur[o]? = some v := hv
                    rw [hcl2 o ho, List.getElem?_map] at hv
                    obtain ⟨z, _, rfl⟩ := Option.map_eq_some_iff.1 hv
                    rfl
                  · obtain ⟨z, hz⟩ : ∃ z, ss'[o]? = some z := ⟨_, List.getElem?_eq_getElem ho⟩
                    refine ⟨.int .i64 z, by show cur[o]? = _; rw [hcl2 o ho, List.getElem?_map, hz]; rfl, ?_⟩
                    exact sets_rel (avI_rel _ ss') 0 .leaf o _ (fun _ _ => by rw [Nat.sub_zero, List.getElem?_map, hz]; rfl) (fun hc => by rw [List.length_map] at hc; omega)
                obtain ⟨i1, i2⟩ := I.christen hbel q3 (e := ⟨g, 0, cap, false⟩) x4 hgl rfl hB
                refine ⟨_, rfl, _, ?_, i1, i2⟩
                exact .slice _ _ _ _ _ _ _ _ _ (Mp.ext_self _ _ _) (Nat.le_refl _) x6 x6 (by simpa [maxInt, maxLen] using x7) (fun hh => by cases hh) (by show 0 - 0 + cap * 1 ≤ cap; omega) (fun _ => rfl)
        · cases hx
      | _ => rw [hbk] at hcell; cases hcell
    · cases hx
  all_goals first | (rename_i hq _; cases hq; done) | (rename_i hq; cases hq; done) | cases hx | skip
end Go.Ra
