/-
  A program's functions, turned when they are asked for.
-/
import Derived.Test.YtjjmmakledpifaaGreatDoorSR
import Derived.Test.YtjjmmakledpifaaGreatDoorT0
import Derived.Below
set_option linter.unusedVariables false
set_option linter.unusedSimpArgs false
namespace Go.Ra
theorem pth_c0 {l n : Nat} (h : n % 8 = 0) : pth (l + 1) n = .c0 (pth l (n / 8)) := by
  conv => lhs; unfold pth
  have hm : Nat.mod n 8 = 0 := h
  simp only [hm]
  rfl
theorem pth_c1 {l n : Nat} (h : n % 8 = 1) : pth (l + 1) n = .c1 (pth l (n / 8)) := by
  conv => lhs; unfold pth
  have hm : Nat.mod n 8 = 1 := h
  simp only [hm]
  rfl
theorem pth_c2 {l n : Nat} (h : n % 8 = 2) : pth (l + 1) n = .c2 (pth l (n / 8)) := by
  conv => lhs; unfold pth
  have hm : Nat.mod n 8 = 2 := h
  simp only [hm]
  rfl
theorem pth_c3 {l n : Nat} (h : n % 8 = 3) : pth (l + 1) n = .c3 (pth l (n / 8)) := by
  conv => lhs; unfold pth
  have hm : Nat.mod n 8 = 3 := h
  simp only [hm]
  rfl
theorem pth_c4 {l n : Nat} (h : n % 8 = 4) : pth (l + 1) n = .c4 (pth l (n / 8)) := by
  conv => lhs; unfold pth
  have hm : Nat.mod n 8 = 4 := h
  simp only [hm]
  rfl
theorem pth_c5 {l n : Nat} (h : n % 8 = 5) : pth (l + 1) n = .c5 (pth l (n / 8)) := by
  conv => lhs; unfold pth
  have hm : Nat.mod n 8 = 5 := h
  simp only [hm]
  rfl
theorem pth_c6 {l n : Nat} (h : n % 8 = 6) : pth (l + 1) n = .c6 (pth l (n / 8)) := by
  conv => lhs; unfold pth
  have hm : Nat.mod n 8 = 6 := h
  simp only [hm]
  rfl
theorem pth_c7 {l n : Nat} (h : n % 8 = 7) : pth (l + 1) n = .c7 (pth l (n / 8)) := by
  conv => lhs; unfold pth
  have hm : Nat.mod n 8 = 7 := h
  simp only [hm]
  rfl
theorem tabL_get {P : Program} {ov : List (Nat × AFn)} : ∀ (l n acc wt : Nat), n < 8 ^ l → TF.get (pth l n) (tabL P ov l acc wt) = fnAt P ov (acc + n * wt) := by
  intro l
  induction l with
  | zero =>
    intro n acc wt hn
    obtain rfl : n = 0 := by simpa using hn
    rw [Nat.zero_mul]
    rfl
  | succ l ih =>
    intro n acc wt hn
    have hq : n / 8 < 8 ^ l := by rw [Nat.pow_succ] at hn; omega
    have key : ∀ i, n % 8 = i → fnAt P ov (acc + i * wt + n / 8 * (8 * wt)) = fnAt P ov (acc + n * wt) := by
      intro i hi
      congr 1
      have : n = n / 8 * 8 + i := by omega
      have e : n * wt = n / 8 * (8 * wt) + i * wt := by
        conv => lhs; rw [this]
        rw [Nat.add_mul, Nat.mul_assoc]
      omega
    have h8 : n % 8 < 8 := Nat.mod_lt _ (by omega)
    rcases (show n % 8 = 0 ∨ n % 8 = 1 ∨ n % 8 = 2 ∨ n % 8 = 3 ∨ n % 8 = 4 ∨ n % 8 = 5 ∨ n % 8 = 6 ∨ n % 8 = 7 by omega) with h | h | h | h | h | h | h | h
    · have e : pth (l + 1) n = .c0 (pth l (n / 8)) := pth_c0 h
      rw [e, ← key 0 h, Nat.zero_mul, Nat.add_zero]
      exact ih (n / 8) _ _ hq
    · have e : pth (l + 1) n = .c1 (pth l (n / 8)) := pth_c1 h
      rw [e, ← key 1 h, Nat.one_mul]
      exact ih (n / 8) _ _ hq
    · have e : pth (l + 1) n = .c2 (pth l (n / 8)) := pth_c2 h
      rw [e, ← key 2 h]
      exact ih (n / 8) _ _ hq
    · have e : pth (l + 1) n = .c3 (pth l (n / 8)) := pth_c3 h
      rw [e, ← key 3 h]
      exact ih (n / 8) _ _ hq
    · have e : pth (l + 1) n = .c4 (pth l (n / 8)) := pth_c4 h
      rw [e, ← key 4 h]
      exact ih (n / 8) _ _ hq
    · have e : pth (l + 1) n = .c5 (pth l (n / 8)) := pth_c5 h
      rw [e, ← key 5 h]
      exact ih (n / 8) _ _ hq
    · have e : pth (l + 1) n = .c6 (pth l (n / 8)) := pth_c6 h
      rw [e, ← key 6 h]
      exact ih (n / 8) _ _ hq
    · have e : pth (l + 1) n = .c7 (pth l (n / 8)) := pth_c7 h
      rw [e, ← key 7 h]
      exact ih (n / 8) _ _ hq
theorem look_mem {k : Nat} {d : AFn} : ∀ {l : List (Nat × AFn)}, (∃ p ∈ l, p.1 = k ∧ lookO k d l = p.2) ∨ lookO k d l = d := by
  intro l
  induction l with
  | nil => exact .inr rfl
  | cons a l ih =>
    have e : lookO k d (a :: l) = Bool.rec (lookO k d l) a.2 (Nat.beq k a.1) := rfl
    rw [e]
    cases hb : Nat.beq k a.1 with
    | true => exact .inl ⟨a, List.mem_cons_self .., (nbeq_iff.1 hb).symm, rfl⟩
    | false =>
      rcases ih with ⟨p, h1, h2, h3⟩ | h
      · exact .inl ⟨p, List.mem_cons_of_mem _ h1, h2, h3⟩
      · exact .inr h
theorem tab_ok {P : Program} {ov : List (Nat × AFn)} (hch : ∀ (k : Nat) (fn : Func), P.funcs[k]? = some fn → okFn P fn = true) (hn : ∀ (k : Nat) (fn : Func), P.funcs[k]? = some fn → fn.name ≠ "runtime.NumGoroutine") (hov : ∀ p ∈ ov, FnOk P p.1 p.2) : FtOk P (tab P ov) := by
  intro f hf
  have hg : TF.get (bid f) (tab P ov) = fnAt P ov f := by
    have := tabL_get (P := P) (ov := ov) D f 0 1 hf
    rw [Nat.mul_one, Nat.zero_add] at this
    exact this
  rw [hg]
  unfold fnAt
  rcases look_mem (k := f) (d := Option.rec .no (fun fn => Option.rec .no (fun a => a) (cFnU P fn)) P.funcs[f]?) (l := ov) with ⟨p, h1, rfl, h3⟩ | h
  · rw [h3]
    exact hov p h1
  · rw [h]
    cases hfn : P.funcs[f]? with
    | none => exact .inl rfl
    | some fn =>
      have hu := cFn_of P fn (hch f fn hfn)
      cases hc : cFnU P fn with
      | none => exact .inl (by show (Option.rec .no (fun a => a) (cFnU P fn) : AFn) = .no; rw [hc])
      | some a =>
        refine .inr (.inr (.inr (.inr (.inr (.inr (.inr ⟨fn, hfn, hn f fn hfn, ?_⟩))))))
        show cFn P fn = some (Option.rec .no (fun a => a) (cFnU P fn) : AFn)
        rw [hu, hc]
end Go.Ra
namespace Go.Ra
variable {P : Program} {W : World} {ft : TF}

/-- The globals' names. -/
noncomputable def glo (sz : Nat → Nat) : Mp := fun id => open Classical in if h : ∃ g, g < 8 ∧ id = bid g then some ⟨h.choose, 0, sz h.choose, true⟩ else none
theorem glo_at {sz : Nat → Nat} {g : Nat} (hg : g < 8) : glo sz (bid g) = some ⟨g, 0, sz g, true⟩ := by
  unfold glo
  have h : ∃ g', g' < 8 ∧ bid g = bid g' := ⟨g, hg, rfl⟩
  rw [dif_pos h]
  have h1 := h.choose_spec
  have : h.choose = g := (bid_inj (by omega) (by omega) h1.2).symm
  rw [this]
theorem glo_some {sz : Nat → Nat} {id : Pth} {e : E} (h : glo sz id = some e) : ∃ g, g < 8 ∧ id = bid g ∧ e = ⟨g, 0, sz g, true⟩ := by
  unfold glo at h
  split at h
  · rename_i hx
    exact ⟨hx.choose, hx.choose_spec.1, hx.choose_spec.2, (Option.some.inj h).symm⟩
  · cases h
theorem start_inv {sz : Nat → Nat} {kb : Nat → AB} {h0 : TB} {nx : Nat} (hget : ∀ g, g < 8 → h0.get (bid g) = kb g) (hb : ∀ g, g < 8 → BRel P (glo sz) ⟨g, 0, sz g, true⟩ (kb g) W.heap[g]?) (hro : ∀ g, g < 8 → RoB ⟨g, 0, sz g, true⟩ (kb g))
    (hsize : 8 ≤ W.heap.size) (h1 : 8 ≤ nx) (h2 : nx ≤ 32768) : Inv P (glo sz) h0 nx W := by
  refine ⟨fun id e he => ?_, fun id id' e e' he he' _ _ hbe => ?_, fun id e he => ?_, h2, h1, fun g hg => ⟨_, glo_at hg, rfl, rfl, rfl⟩, fun id e he _ => ?_, fun id e he => ?_⟩
  · obtain ⟨g, hg, rfl, rfl⟩ := glo_some he
    rw [hget g hg]
    exact hb g hg
  · obtain ⟨g, hg, rfl, rfl⟩ := glo_some he
    obtain ⟨g', hg', rfl, rfl⟩ := glo_some he'
    rw [show g = g' from hbe]
  · obtain ⟨g, hg, rfl, rfl⟩ := glo_some he
    exact ⟨g, by omega, rfl⟩
  · obtain ⟨g, hg, rfl, rfl⟩ := glo_some he
    rw [hget g hg]
    exact hro g hg
  · obtain ⟨g, hg, rfl, rfl⟩ := glo_some he
    show g < W.heap.size
    omega
theorem says_true {c : CR} (h : saysTrue c = true) : ∃ h' nx', c = .ok (.bool true) h' nx' := by
  cases c with
  | fail => cases h
  | ok v h' nx' =>
    cases v with
    | bool b =>
      obtain rfl : b = true := h
      exact ⟨h', nx', rfl⟩
    | _ => cases h
/-- What a closed run says of the program: the call yields true and leaves what lay as it was. -/
theorem law_run (hm : P.follows .mixedOrders = true) (hft : FtOk P ft) {sz : Nat → Nat} {h0 : TB} {nx n f : Nat} (I : Inv P (glo sz) h0 nx W) {args : AV} {l : List Value} (ha : VRels (glo sz) args l) (hf : f < 8 ^ D) (hfn : isFn (TF.get (bid f) ft) = true)
    (hrun : saysTrue (callA ft (exec ft n) (bid f) args h0 nx) = true) : Calls P f ⟨l⟩ W fun e W' => e = .returned (.bool true) ∧ RowKit.Below W.heap.size W W' := by
  obtain ⟨h', nx', hc⟩ := says_true hrun
  rcases calls_run hm hft n f args h0 nx _ h' nx' (glo sz) W l hf I ha hc with ⟨h1, _⟩ | ⟨_, h2⟩
  · rw [hfn] at h1; cases h1
  · refine (callsIn_wide.1 h2).mono fun e W' he => ?_
    obtain ⟨v', rfl, m', hv, _, F⟩ := he
    cases hv
    exact ⟨rfl, F.os, F.tape, F.output, F.size, fun r hr => F.keep r hr fun id e he _ => by
      obtain ⟨g, _, _, rfl⟩ := glo_some he
      rfl⟩
/-! Starts out of what the globals hold -/
noncomputable def kbL : GL → Nat → AB
  | .nil, _ => .dead
  | .cons g' el n c l, g => if g = g' then .cells 18446744073709551616 el 0 n (Tr.sets c 0 .leaf) else kbL l g
/-- The globals' sizes in a world. -/
def szW (w : World) (g : Nat) : Nat := match w.heap[g]? with
  | some (.cells cs _ _) => cs.size
  | _ => 0
theorem glH_get : ∀ (l : GL), l.flat = true → ∀ g, g < 8 → (glH l).get (bid g) = kbL l g := by
  intro l
  induction l with
  | nil => intro _ g _; exact TB.gt_leaf _ _
  | cons g' el n c l ih =>
    intro hf g hg
    simp only [GL.flat, Bool.and_eq_true, decide_eq_true_eq] at hf
    show (TB.set (bid g') _ (glH l)).get (bid g) = if g = g' then _ else kbL l g
    rw [TB.get_set (by rw [plen_bid, plen_bid])]
    by_cases e : g = g'
    · subst e; rw [if_pos rfl, if_pos rfl]
    · rw [if_neg (fun h => e (bid_inj (by omega) (by omega) h)), if_neg e]
      exact ih hf.2.2 g hg
theorem kbL_rel : ∀ (l : GL), l.flat = true → GlW W l → ∀ g, g < 8 → BRel P (glo (szW W)) ⟨g, 0, szW W g, true⟩ (kbL l g) W.heap[g]? ∧ RoB ⟨g, 0, szW W g, true⟩ (kbL l g) := by
  intro l
  induction l with
  | nil => intro _ _ g _; exact ⟨trivial, trivial⟩
  | cons g' el n c l ih =>
    intro hf hG g hg
    simp only [GL.flat, Bool.and_eq_true, decide_eq_true_eq] at hf
    obtain ⟨⟨cs, fr, h1, h2, h3, h4, h5, h6⟩, h7⟩ := hG
    show BRel P _ _ (if g = g' then _ else kbL l g) _ ∧ RoB _ (if g = g' then _ else kbL l g)
    by_cases e : g = g'
    · subst e
      rw [if_pos rfl]
      have hsz : szW W g = cs.size := by unfold szW; rw [h1]
      rw [hsz]
      have hlen : (cs.toList.take n).length = n := by rw [List.length_take, Array.length_toList]; omega
      refine ⟨⟨cs, fr, h1, rfl, Nat.le_refl _, by show n ≤ 0 + cs.size; omega, fun o _ ho v hv => h3 v ?_, fun o _ ho => ?_, fun o _ h8 h9 => ?_, fun _ hne => h4 hne⟩, by show 0 + cs.size < 18446744073709551616; omega, Nat.le_refl _⟩
      · refine List.mem_of_getElem? (i := o) ?_
        rw [List.getElem?_take_of_lt ho, Array.getElem?_toList]
        exact hv
      · have hv : cs[o]? = some (cs[o]'(by omega)) := by simp
        refine ⟨_, hv, ?_⟩
        refine sets_rel (h6.flat hf.2.1) 0 .leaf o _ (fun _ h => ?_) (fun h => by omega)
        rw [Nat.sub_zero, List.getElem?_take_of_lt ho]
        simp
      · exfalso
        have : o < 0 + cs.size := h9
        omega
    · rw [if_neg e]
      exact ih hf.2.2 h7 g hg
theorem start_gl {l : GL} (hf : l.flat = true) (hsize : 8 ≤ W.heap.size) (hG : GlW W l) {nx : Nat} (h1 : 8 ≤ nx) (h2 : nx ≤ 32768) : Inv P (glo (szW W)) (glH l) nx W :=
  start_inv (glH_get l hf) (fun g hg => (kbL_rel l hf hG g hg).1) (fun g hg => (kbL_rel (P := P) l hf hG g hg).2) hsize h1 h2
/-- A closed function whose run says true. -/
theorem truth_run (hm : P.follows .mixedOrders = true) (hft : FtOk P ft) {l : GL} (hl : l.flat = true) {nx n f : Nat} (h1 : 8 ≤ nx) (h2 : nx ≤ 32768) (hf : f < 8 ^ D) (henter : ∀ a w, (callFunc f a).run P w = .ok (.enter f a) w) (hfn : isFn (TF.get (bid f) ft) = true)
    (hrun : saysTrue (callA ft (exec ft n) (bid f) .nl (glH l) nx) = true) : TruthOk P f l :=
  ⟨hl, henter, fun w hsize hG => law_run hm hft (start_gl hl hsize hG h1 h2) .nil hf hfn hrun⟩
/-- A call whose arguments name no block, from any world. -/
theorem known_run (hm : P.follows .mixedOrders = true) (hft : FtOk P ft) {l : GL} (hl : l.flat = true) {nx n f : Nat} (h1 : 8 ≤ nx) (h2 : nx ≤ 32768) (hf : f < 8 ^ D) {args : AV} {vs : List Value} (ha : ∀ m : Mp, VRels m args vs) (hfn : isFn (TF.get (bid f) ft) = true) {v : AV}
    (hrun : saysV v (callA ft (exec ft n) (bid f) args (glH l) nx) = true) (w : World) (hsize : 8 ≤ w.heap.size) (hG : GlW w l) : Calls P f ⟨vs⟩ w fun e w' => (∃ v' m', e = .returned v' ∧ VRel m' v v') ∧ RowKit.Below w.heap.size w w' := by
  cases hc : callA ft (exec ft n) (bid f) args (glH l) nx with
  | fail => rw [hc] at hrun; cases hrun
  | ok u h' nx' =>
    rw [hc] at hrun
    obtain rfl := AV.beq_eq _ _ hrun
    rcases calls_run hm hft n f args _ nx _ h' nx' (glo (szW w)) w vs hf (start_gl hl hsize hG h1 h2) (ha _) hc with ⟨h1, _⟩ | ⟨_, h2⟩
    · rw [hfn] at h1; cases h1
    · refine (callsIn_wide.1 h2).mono fun e W' he => ?_
      obtain ⟨v', rfl, m', hv, _, F⟩ := he
      exact ⟨⟨v', m', rfl, hv⟩, F.os, F.tape, F.output, F.size, fun r hr => F.keep r hr fun id e he _ => by
        obtain ⟨g, _, _, rfl⟩ := glo_some he
        rfl⟩
theorem known_ok (hm : P.follows .mixedOrders = true) (hft : FtOk P ft) {l : GL} (hl : l.flat = true) {nx n f : Nat} (h1 : 8 ≤ nx) (h2 : nx ≤ 32768) (hf : f < 8 ^ D) (henter : ∀ a w, (callFunc f a).run P w = .ok (.enter f a) w) (hfn : isFn (TF.get (bid f) ft) = true) {a v : AV} (ha : flatL a = true) (hv : v.flat = true)
    (hrun : saysV v (callA ft (exec ft n) (bid f) a (glH l) nx) = true) : KnownOk P f l a v :=
  ⟨hl, ha, hv, henter, fun vs w hvs hs hG => known_run hm hft hl h1 h2 hf (fun m => hvs.flat ha) hfn hrun w hs hG⟩
/-- A text that a short number stands for. -/
theorem str_is {m : Mp} {n k : Nat} {v : Value} (h : VRel m (.str n k) v) {s : ByteArray} (hs : packB s = .str n k) : v = .string s := by
  generalize ha : AV.str n k = a at h hs
  cases h <;> first | (cases ha; done) | skip
  rename_i b
  unfold packB at hs
  injection hs with e1 e2
  have := packL_inj e1 e2
  have hd : s.data = b.data := Array.toList_inj.1 this
  cases s; cases b
  simp only at hd
  rw [hd]
/-- Do the checks of n functions from number k on hold? -/
noncomputable def okAt (P : Program) (k : Nat) : Bool := Option.rec true (fun fn => okFn P fn) P.funcs[k]?
noncomputable def okFrom (P : Program) (n : Nat) : Nat → Bool := Nat.rec (motive := fun _ => Nat → Bool) (fun _ => true) (fun _ ih k => Bool.rec false (ih (Nat.succ k)) (okAt P k)) n
theorem okFrom_at : ∀ (n k : Nat), okFrom P n k = true → ∀ j, k ≤ j → j < k + n → okAt P j = true := by
  intro n
  induction n with
  | zero => intro k _ j h1 h2; omega
  | succ n ih =>
    intro k h j h1 h2
    replace h : (Bool.rec false (okFrom P n (Nat.succ k)) (okAt P k) : Bool) = true := h
    cases hk : okAt P k with
    | false => rw [hk] at h; cases h
    | true =>
      rw [hk] at h
      rcases Nat.lt_or_ge k j with h3 | h3
      · exact ih (k + 1) h j h3 (by omega)
      · obtain rfl : j = k := by omega
        exact hk
theorem okAt_fn {k : Nat} {fn : Func} (h : okAt P k = true) (hf : P.funcs[k]? = some fn) : okFn P fn = true := by
  unfold okAt at h
  rw [hf] at h
  exact h
end Go.Ra
namespace Go.Ra
variable {P : Program} {m : Mp} {h h1 h2 : TB} {nx : Nat} {w : World} {ft : TF} {fn : Func}

/-! What is given up -/
def Weak (b2 b1 : AB) : Prop := b2 = .dead ∨ (∃ fz e lo hi t1 t2, b1 = .cells fz e lo hi t1 ∧ b2 = .cells fz e lo hi t2 ∧ ∀ o, lo ≤ o → o < hi → t2.get o = t1.get o ∨ t2.get o = .undef) ∨ ∃ es ck, b1 = .map es ck ∧ b2 = .map es ck
theorem BRel.weak {e : E} {b1 b2 : AB} {o : Option Obj} (hb : BRel P m e b1 o) (hw : Weak b2 b1) : BRel P m e b2 o := by
  rcases hw with rfl | ⟨fz, el, lo, hi, t1, t2, rfl, rfl, ht⟩ | ⟨es, ck, rfl, rfl⟩
  · trivial
  · obtain ⟨cs, fr, h1, R⟩ := hb
    refine ⟨cs, fr, h1, R.size, R.low, R.high, R.one, fun o k1 k2 => ?_, R.free, R.mark⟩
    obtain ⟨v, hv, hr⟩ := R.cell o k1 k2
    refine ⟨v, hv, ?_⟩
    rcases ht o k1 k2 with e | e
    · rw [e]; exact hr
    · rw [e]; exact .undef _
  · exact hb
theorem live_weak {b1 b2 : AB} (hw : Weak b2 b1) (hl : live b2) : live b1 := by
  rcases hw with rfl | ⟨fz, el, lo, hi, t1, t2, rfl, rfl, ht⟩ | ⟨es, ck, rfl, rfl⟩
  · exact hl.elim
  · trivial
  · trivial
theorem RoB.weak {e : E} {b1 b2 : AB} (hb : RoB e b1) (hw : Weak b2 b1) : RoB e b2 := by
  rcases hw with rfl | ⟨fz, el, lo, hi, t1, t2, rfl, rfl, ht⟩ | ⟨es, ck, rfl, rfl⟩
  · trivial
  · exact hb
  · exact hb
theorem Inv.weak (I : Inv P m h1 nx w) (hw : ∀ id : Pth, id.plen = D → Weak (h2.get id) (h1.get id)) : Inv P m h2 nx w :=
  ⟨fun id e he => (I.blk id e he).weak (hw id (I.plen he)), fun id id' e e' k1 k2 l1 l2 hb => I.inj id id' e e' k1 k2 (live_weak (hw id (I.plen k1)) l1) (live_weak (hw id' (I.plen k2)) l2) hb, I.dom, I.top, I.low, I.glob, fun id e he hr => (I.ro id e he hr).weak (hw id (I.plen he)), I.lim⟩

/-! The state as a list -/
theorem sets_at : ∀ (l : AV) (n : Nat) (t : Tr) (k : Nat), (Tr.sets l n t).get k = .undef ∨ (n ≤ k ∧ k < n + l.len ∧ (Tr.sets l n t).get k = l.nth (k - n)) ∨ ((k < n ∨ n + l.len ≤ k) ∧ (Tr.sets l n t).get k = t.get k) := by
  intro l
  induction l with
  | cs a l _ ih =>
    intro n t k
    have e : Tr.sets (.cs a l) n t = Tr.sets l (n + 1) (t.set a n) := rfl
    have hl : (AV.cs a l).len = l.len + 1 := rfl
    rw [e, hl]
    rcases ih (n + 1) (t.set a n) k with h | ⟨h1, h2, h3⟩ | ⟨h1, h2⟩
    · exact .inl h
    · refine .inr (.inl ⟨by omega, by omega, ?_⟩)
      rw [h3]
      obtain ⟨j, rfl⟩ : ∃ j, k = n + 1 + j := ⟨k - (n + 1), by omega⟩
      rw [show n + 1 + j - (n + 1) = j by omega, show n + 1 + j - n = j + 1 by omega]
      rfl
    · rw [h2]
      rcases Tr.get_set t a n k with ⟨h3, rfl⟩ | h3 | ⟨h3, h4⟩
      · refine .inr (.inl ⟨Nat.le_refl _, by omega, ?_⟩)
        rw [h3, Nat.sub_self]
        rfl
      · exact .inl h3
      · exact .inr (.inr ⟨by omega, h3⟩)
  | _ =>
    intro n t k
    exact .inr (.inr ⟨by show k < n ∨ n + 0 ≤ k; omega, rfl⟩)
theorem cellsOf_nth (t : Tr) : ∀ (n o j : Nat), j < n → (cellsOf t n o).nth j = t.get (o + j) := by
  intro n
  induction n with
  | zero => intro o j hj; omega
  | succ n ih =>
    intro o j hj
    have e : cellsOf t (n + 1) o = .cs (t.get o) (cellsOf t n (o + 1)) := rfl
    rw [e]
    cases j with
    | zero => rfl
    | succ j =>
      show (cellsOf t n (o + 1)).nth j = _
      rw [ih (o + 1) j (by omega)]
      congr 1
      omega
theorem cellsOf_len (t : Tr) : ∀ (n o : Nat), (cellsOf t n o).len = n := by
  intro n
  induction n with
  | zero => intro o; rfl
  | succ n ih => intro o; show (cellsOf t n (o + 1)).len + 1 = n + 1; rw [ih]
theorem ME.beq_eq : ∀ (a b : ME), a.beq b = true → a = b := by
  intro a
  induction a with
  | nil => intro b h; cases b with
    | nil => rfl
    | cons => cases h
  | cons k v n l ih =>
    intro b h
    cases b with
    | nil => cases h
    | cons k' v' n' l' =>
      simp only [ME.beq, Bool.and_eq_true] at h
      rw [AV.beq_eq _ _ h.1, AV.beq_eq _ _ h.2.1, nbeq_iff.1 h.2.2.1, ih _ h.2.2.2]
theorem hit_weak {h : TB} {x : HI} (hf : x.fits h = true) : Weak x.ab (h.get (bid x.num)) := by
  cases x with
  | c n fz e lo hi L =>
    simp only [HI.fits] at hf
    show Weak (.cells fz e lo hi (Tr.sets L lo .leaf)) (h.get (bid n))
    cases hb : h.get (bid n) with
    | cells fz' e' lo' hi' t =>
      rw [hb] at hf
      simp only [Bool.and_eq_true] at hf
      obtain ⟨k1, k2, k3, k4, k5⟩ := hf
      obtain rfl := nbeq_iff.1 k1
      obtain rfl := nbeq_iff.1 k2
      obtain rfl := nbeq_iff.1 k3
      obtain rfl := nbeq_iff.1 k4
      have k5 := AV.beq_eq _ _ k5
      refine .inr (.inl ⟨_, _, _, _, t, _, rfl, rfl, fun o q1 q2 => ?_⟩)
      rw [← k5, show hi'.sub lo' = hi' - lo' from rfl]
      rcases sets_at (cellsOf t (hi' - lo') lo') lo' .leaf o with q | ⟨_, _, q⟩ | ⟨q, _⟩
      · exact .inr q
      · rw [q, cellsOf_nth t _ _ _ (by omega)]
        exact .inl (by congr 1; omega)
      · rw [cellsOf_len] at q; omega
    | _ => rw [hb] at hf; cases hf
  | m n es ck =>
    simp only [HI.fits] at hf
    show Weak (.map es ck) (h.get (bid n))
    cases hb : h.get (bid n) with
    | map es' ck' =>
      rw [hb] at hf
      simp only [Bool.and_eq_true] at hf
      have k1 := ME.beq_eq _ _ hf.1
      have k2 := nbeq_iff.1 hf.2
      subst k1; subst k2
      exact .inr (.inr ⟨_, _, rfl, rfl⟩)
    | _ => rw [hb] at hf; cases hf
theorem hOf_weak {h : TB} : ∀ (l : List HI), hFits h l = true → ∀ id : Pth, id.plen = D → Weak ((hOf l).get id) (h.get id) := by
  intro l
  induction l with
  | nil => intro _ id _; exact .inl (TB.gt_leaf _ _)
  | cons x l ih =>
    intro hf id hid
    simp only [hFits, Bool.and_eq_true] at hf
    show Weak ((TB.set (bid x.num) x.ab (hOf l)).get id) _
    rw [TB.get_set (by rw [hid, plen_bid])]
    split
    · rename_i e
      rw [e]
      exact hit_weak hf.1
    · exact ih hf.2 id hid
theorem zOf_at {z : TV} : ∀ (l : List (Pth × AV)), zFits z l = true → ∀ p : Pth, (∀ q ∈ l, q.1.plen = p.plen) → TV.get p (zOf l) = .undef ∨ TV.get p (zOf l) = TV.get p z := by
  intro l
  induction l with
  | nil => intro _ p _; exact .inl TV.get_leaf
  | cons x l ih =>
    intro hf p hp
    simp only [zFits, Bool.and_eq_true] at hf
    have e : TV.get p (zOf (x :: l)) = if p = x.1 then x.2 else TV.get p (zOf l) := TV.get_set (hp x (List.mem_cons_self ..)).symm
    rw [e]
    split
    · rename_i e
      right
      rw [e]
      exact (AV.beq_eq _ _ hf.1).symm
    · exact ih hf.2 p fun q hq => hp q (List.mem_cons_of_mem _ hq)
theorem TRel.weak {nt : Nat} {z1 z2 : TV} {tmps : Array Value} (hT : TRel m nt z1 tmps) (hw : ∀ t, t < nt → TV.get (pth (lev nt) t) z2 = .undef ∨ TV.get (pth (lev nt) t) z2 = TV.get (pth (lev nt) t) z1) : TRel m nt z2 tmps :=
  ⟨hT.1, fun t ht => by
    rcases hw t ht with e | e
    · rw [e]; exact .undef _
    · rw [e]; exact hT.2 t ht⟩

/-! What a part of a function's code goes on to -/
theorem Marks0.app {B base : Nat} {l1 l2 : List Deferred} (hB : B ≤ base) (h1 : Marks0 base m w l1) (h2 : Marks0 B m w l2) (hlt : ∀ d ∈ l2, ∀ D, d.target = .collected D → D < base) : Marks0 B m w (l1 ++ l2) := by
  refine ⟨fun d hd => ?_, ?_⟩
  · rcases List.mem_append.1 hd with hd | hd
    · obtain ⟨D, k1, k2, k3, k4⟩ := h1.1 d hd
      exact ⟨D, k1, Nat.le_trans hB k2, k3, k4⟩
    · exact h2.1 d hd
  · rw [List.map_append, List.nodup_append]
    refine ⟨h1.2, h2.2, fun a ha b hb e => ?_⟩
    obtain ⟨d1, g1, rfl⟩ := List.mem_map.1 ha
    obtain ⟨d2, g2, rfl⟩ := List.mem_map.1 hb
    obtain ⟨D, k1, k2, _, _⟩ := h1.1 d1 g1
    have := hlt d2 g2 D (by rw [← e, k1])
    omega
theorem below_away {B D : Nat} {w0 : World} (hb : RowKit.Below B w0 w) (hD : B ≤ D) (o : Obj) : RowKit.Below B w0 (w.putObj D o) :=
  ⟨hb.os, hb.tape, hb.output, by simpa using hb.size, fun k hk => (World.putObj_heap_other (by omega)).trans (hb.block k hk)⟩
theorem leaves_below {B : Nat} {w0 : World} {h : TB} {tmps : Array Value} {R : Ending → World → Prop} {u : FrameMode} (hu : u ≠ .run) : ∀ (ds : List Deferred) (w : World), Inv P m h nx w → RowKit.Below B w0 w → Marks0 B m w ds →
    (∀ w', Inv P m h nx w' → RowKit.Below B w0 w' → LeavesInM Fence.wide 0 P fn tmps R [] u w') → LeavesInM Fence.wide 0 P fn tmps R ds u w := by
  intro ds
  induction ds with
  | nil => exact fun w I hb _ hr => hr w I hb
  | cons d ds ih =>
    intro w I hb K hr
    obtain ⟨D, h1, h2, h3, h4⟩ := K.1 d (List.mem_cons_self ..)
    refine ⟨hu, .inl ⟨D, w.putObj D (.deferred none), h1, run_takeDeferred h3, ?_⟩⟩
    refine ih _ (I.away h4 _) (below_away hb h2 _) ⟨fun d' hd' => ?_, ?_⟩ hr
    · obtain ⟨D', k1, k2, k3, k4⟩ := K.1 d' (List.mem_cons_of_mem _ hd')
      refine ⟨D', k1, k2, ?_, k4⟩
      rw [World.putObj_heap_other ?_]
      · exact k3
      · rintro rfl
        have := K.2
        rw [List.map_cons, List.nodup_cons] at this
        exact this.1 (by rw [h1, ← k1]; exact List.mem_map_of_mem hd')
    · have := K.2
      rw [List.map_cons, List.nodup_cons] at this
      exact this.2
/-- From here on, the function returns true, and leaves what lay below B as it was. -/
def GoesTo (P : Program) (fn : Func) (c : Code) (z : TV) (h : TB) (nx : Nat) : Prop := ∀ (B : Nat) (w0 : World) (m : Mp) (a : Act) (w : World), TRel m fn.ntmps z a.tmps → Inv P m h nx w → (∀ id e, m id = some e → e.blk < B → e.ro = true) → RowKit.Below B w0 w → B ≤ w.heap.size → Marks0 B m w a.defers →
  c.wpIn Fence.wide 0 P (bodyPostM Fence.wide 0 P fn fun e w' => e = .returned (.bool true) ∧ RowKit.Below B w0 w') a w
theorem below_fr {B : Nat} {w0 w' : World} {m' : Mp} {h' : TB} {nx' : Nat} (hr : ∀ id e, m id = some e → e.blk < B → e.ro = true) (hb : RowKit.Below B w0 w) (hB : B ≤ w.heap.size) (F : Fr m h nx w m' h' nx' w') : RowKit.Below B w0 w' :=
  ⟨F.os.trans hb.os, F.tape.trans hb.tape, F.output.trans hb.output, Nat.le_trans hb.size F.size, fun k hk => (F.keep k (by omega) fun id e he hbk => hr id e he (by omega)).trans (hb.block k hk)⟩
theorem ro_fr {B : Nat} {w' : World} {m' : Mp} {h' : TB} {nx' : Nat} (hr : ∀ id e, m id = some e → e.blk < B → e.ro = true) (hB : B ≤ w.heap.size) (F : Fr m h nx w m' h' nx' w') : ∀ id e, m' id = some e → e.blk < B → e.ro = true := by
  intro id e he hlt
  cases hm : m id with
  | some e0 =>
    have := F.sub _ _ hm
    rw [this] at he; cases he
    exact hr id _ hm hlt
  | none =>
    rcases F.fresh id e he hm with hx | ⟨id0, e0, k1, k2, k3⟩
    · omega
    · have := hr id0 e0 k1 (by omega)
      rw [this] at k3; cases k3
theorem goes_end (hm : P.follows .mixedOrders = true) (hft : FtOk P ft) {n : Nat} {c : Code} {ac : ACode} {res : List ARes} {z : TV} (hn : fn.ntmps ≤ 4096) (hc : cCode P fn.ntmps c = some ac) (hres : fn.results.toList.mapM (cRes P fn.ntmps) = some res)
    (hrun : saysTrue (endA (exec ft n ac z h nx) res) = true) : GoesTo P fn c z h nx := by
  intro B w0 m a w hT I hr hb hB hK
  have hex := (exec_sound hft (fun _ hc hr => drawn_sound hm hc hr) n).1
  obtain ⟨h', nx', hend⟩ := says_true hrun
  have S : St P (.mk m h nx w a.defers) fn.ntmps m z h nx a w := ⟨hT, I, Fr.refl _ _ _ _, Marks.none⟩
  generalize hr1 : exec ft n ac z h nx = r at hend
  have hrf : r ≠ .fail := by rintro rfl; cases hend
  refine wpIn_mono (F := Fence.wide) (hex c fn.ntmps ac _ none m z h nx a w r hn hc trivial S hr1 hrf).1 fun e a' w' hq => ?_
  have fin : ∀ {m1 z1 h1 nx1}, doneA res z1 h1 nx1 = .ok (.bool true) h' nx' → St P (.mk m h nx w a.defers) fn.ntmps m1 z1 h1 nx1 a' w' → LeavesInM Fence.wide 0 P fn a'.tmps (fun e w' => e = .returned (.bool true) ∧ RowKit.Below B w0 w') a'.defers .returning w' := by
    intro m1 z1 h1 nx1 hd S1
    obtain ⟨c1, g1, g2, rfl, rfl⟩ := doneA_inv hd
    obtain ⟨ml, hml, hm0⟩ := S1.K
    rw [hml]
    refine leaves_marks (s := (.mk m h nx w a.defers)) (by simp) ml w' S1.I S1.F hm0 fun w2 I2 F2 => ?_
    refine leaves_below (by simp) a.defers w2 I2 (below_fr hr hb hB F2) (hK.step F2) fun w3 I3 hb3 => ?_
    obtain ⟨v', k1, k2⟩ := results_run I3 S1.T hres g1
    rw [← g2] at k2
    cases k2
    exact ⟨_, k1, rfl, hb3⟩
  cases e with
  | normal =>
    obtain ⟨m1, z1, h1, nx1, rfl, S1⟩ := hq
    exact fin hend S1
  | ret =>
    obtain ⟨m1, z1, h1, nx1, rfl, S1⟩ := hq
    exact fin hend S1
  | exit id =>
    obtain ⟨m1, z1, h1, nx1, rfl, S1⟩ := hq
    cases hend
  | goto l => exact hq.elim
  | panic ch => exact hq.elim
  | outgrown => exact hq.elim
theorem goes_step (hm : P.follows .mixedOrders = true) (hft : FtOk P ft) {n : Nat} {c c2 : Code} {ac : ACode} {z z1 : TV} {h1 : TB} {nx1 : Nat} (hn : fn.ntmps ≤ 4096) (hc : cCode P fn.ntmps c = some ac) (hrun : exec ft n ac z h nx = .norm z1 h1 nx1)
    (hgo : GoesTo P fn c2 z1 h1 nx1) : GoesTo P fn (.seq c c2) z h nx := by
  intro B w0 m a w hT I hr hb hB hK
  have hex := (exec_sound hft (fun _ hc hr => drawn_sound hm hc hr) n).1
  have S : St P (.mk m h nx w a.defers) fn.ntmps m z h nx a w := ⟨hT, I, Fr.refl _ _ _ _, Marks.none⟩
  refine wpIn_seq (wpIn_mono (F := Fence.wide) (hex c fn.ntmps ac _ none m z h nx a w _ hn hc trivial S hrun (by simp)).1 fun e a' w' hq => ?_)
  cases e with
  | normal =>
    obtain ⟨m1, _, _, _, hq, S1⟩ := hq
    cases hq
    obtain ⟨ml, hml, hm0⟩ := S1.K
    refine hgo B w0 m1 a' w' S1.T S1.I (ro_fr hr hB S1.F) (below_fr hr hb hB S1.F) (Nat.le_trans hB S1.F.size) ?_
    rw [hml]
    refine Marks0.app hB hm0 (hK.step S1.F) fun d hd D hD => ?_
    obtain ⟨D', k1, k2, k3, k4⟩ := hK.1 d hd
    rw [k1] at hD
    injection hD with hD
    subst hD
    exact (Array.getElem?_eq_some_iff.1 k3).1
  | _ => exact post_norm (by simp) hq
theorem goes_weak {c : Code} {z z2 : TV} {h2 : TB} (hz : ∀ t, t < fn.ntmps → TV.get (pth (lev fn.ntmps) t) z2 = .undef ∨ TV.get (pth (lev fn.ntmps) t) z2 = TV.get (pth (lev fn.ntmps) t) z) (hh : ∀ id : Pth, id.plen = D → Weak (h2.get id) (h.get id)) (hgo : GoesTo P fn c z2 h2 nx) : GoesTo P fn c z h nx :=
  fun B w0 m a w hT I hr hb hB hK => hgo B w0 m a w (hT.weak hz) (I.weak hh) hr hb hB hK
def chain : List Code → Code → Code
  | [], r => r
  | c :: l, r => .seq c (chain l r)
theorem goes_chain (hm : P.follows .mixedOrders = true) (hft : FtOk P ft) {n : Nat} (hn : fn.ntmps ≤ 4096) {r : Code} {z1 : TV} {h1 : TB} {nx1 : Nat} (hgo : GoesTo P fn r z1 h1 nx1) : ∀ (cs : List Code) (acs : List ACode) (z : TV) (h : TB) (nx : Nat),
    cs.mapM (cCode P fn.ntmps) = some acs → execs ft n acs z h nx = .norm z1 h1 nx1 → GoesTo P fn (chain cs r) z h nx := by
  intro cs
  induction cs with
  | nil =>
    intro acs z h nx hc hx
    obtain rfl : [] = acs := by simpa using hc
    cases (show R.norm z h nx = .norm z1 h1 nx1 from hx)
    exact hgo
  | cons c cs ih =>
    intro acs z h nx hc hx
    rw [List.mapM_cons] at hc
    simp only [Option.bind_eq_bind, Option.bind_eq_some_iff, Option.pure_def, Option.some.injEq] at hc
    obtain ⟨ac, hac, al, hal, rfl⟩ := hc
    replace hx : (match exec ft n ac z h nx with | .norm z h nx => execs ft n al z h nx | _ => .fail) = .norm z1 h1 nx1 := hx
    cases he : exec ft n ac z h nx with
    | norm z' h' nx' =>
      rw [he] at hx
      exact goes_step hm hft hn hac he (ih al z' h' nx' hal hx)
    | _ => rw [he] at hx; cases hx
/-- A part of a run: its end is told as a list. -/
theorem goes_cut (hm : P.follows .mixedOrders = true) (hft : FtOk P ft) {n : Nat} (hn : fn.ntmps ≤ 4096) {cs : List Code} {acs : List ACode} {r : Code} {z : TV} {zl : List (Pth × AV)} {hl : List HI} {nx1 : Nat} (hc : cs.mapM (cCode P fn.ntmps) = some acs)
    (hrun : cutAt (execs ft n acs z h nx) zl hl nx1 = true) (hz : zl.all (fun q => q.1.plen == lev fn.ntmps) = true) (hgo : GoesTo P fn r (zOf zl) (hOf hl) nx1) : GoesTo P fn (chain cs r) z h nx := by
  cases hr : execs ft n acs z h nx with
  | norm z1 h1 nx' =>
    rw [hr] at hrun
    simp only [cutAt, Bool.and_eq_true] at hrun
    obtain ⟨k1, k2, k3⟩ := hrun
    obtain rfl := nbeq_iff.1 k1
    refine goes_chain hm hft hn (goes_weak (fun t ht => ?_) (hOf_weak hl k3) hgo) cs acs z h nx hc hr
    refine zOf_at zl k2 _ fun q hq => ?_
    rw [plen_pth]
    simpa using List.all_eq_true.1 hz q hq
  | _ => rw [hr] at hrun; cases hrun
theorem goes_truth {f : Nat} {l : GL} {c : Code} (hl : l.flat = true) {nx : Nat} (h1 : 8 ≤ nx) (h2 : nx ≤ 32768) (hf : P.funcs[f]? = some fn) (hno : fn.name ≠ "runtime.NumGoroutine") (hb : fn.body = some c) (hn : fn.ntmps ≤ 4096) (hgo : GoesTo P fn c (.leaf .undef) (glH l) nx) : TruthOk P f l := by
  refine ⟨hl, fun a w => callFunc_enter hf hno hb, fun w hsize hG => ?_⟩
  refine (callsIn_wide (n := 0)).1 (callsIn_of_wp_marks hf hb trivial ?_)
  have hT := enter_rel (m := glo (szW w)) (nt := fn.ntmps) (args := .nl) (l := []) .nil (k := 0) hn (Nat.zero_le _)
  refine hgo w.heap.size w (glo (szW w)) _ w hT (start_gl hl hsize hG h1 h2) (fun id e he _ => ?_) (RowKit.Below.refl _ _) (Nat.le_refl _) ⟨fun d hd => (by cases hd), by simp⟩
  obtain ⟨g, _, _, rfl⟩ := glo_some he
  rfl
end Go.Ra
