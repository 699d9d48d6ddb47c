/-
  A closed run, from a world whose globals are told.
-/
import Derived.Below
import Derived.Test.YtjjmmakledpifaaGreatDoorT1
set_option linter.unusedVariables false
set_option linter.unusedSimpArgs false
namespace Go.Ra
variable {P : Program} {W : World} {ft : TF}

/-- The globals' names. -/
noncomputable def glo (sz : Nat → Nat) : Mp := fun id => open Classical in if h : ∃ g, g < 8 ∧ id = bid g then some ⟨h.choose, 0, sz h.choose, true⟩ else none
theorem glo_at {sz : Nat → Nat} {g : Nat} (hg : g < 8) : glo sz (bid g) = some ⟨g, 0, sz g, true⟩ := by
  unfold glo
  have h : ∃ g', g' < 8 ∧ bid g = bid g' := ⟨g, hg, rfl⟩
  rw [dif_pos h]
  have h1 := h.choose_spec
  have : h.choose = g := (bid_inj (by omega) (by omega) h1.2).symm
  rw [this]
theorem glo_some {sz : Nat → Nat} {id : Pth} {e : E} (h : glo sz id = some e) : ∃ g, g < 8 ∧ id = bid g ∧ e = ⟨g, 0, sz g, true⟩ := by
  unfold glo at h
  split at h
  · rename_i hx
    exact ⟨hx.choose, hx.choose_spec.1, hx.choose_spec.2, (Option.some.inj h).symm⟩
  · cases h
theorem start_inv {sz : Nat → Nat} {kb : Nat → AB} {h0 : TB} {nx : Nat} (hget : ∀ g, g < 8 → h0.get (bid g) = kb g) (hb : ∀ g, g < 8 → BRel P (glo sz) ⟨g, 0, sz g, true⟩ (kb g) W.heap[g]?) (hro : ∀ g, g < 8 → RoB ⟨g, 0, sz g, true⟩ (kb g))
    (hsize : 8 ≤ W.heap.size) (h1 : 8 ≤ nx) (h2 : nx ≤ 32768) : Inv P (glo sz) h0 nx W := by
  refine ⟨fun id e he => ?_, fun id id' e e' he he' _ _ hbe => ?_, fun id e he => ?_, h2, h1, fun g hg => ⟨_, glo_at hg, rfl, rfl, rfl⟩, fun id e he _ => ?_, fun id e he => ?_⟩
  · obtain ⟨g, hg, rfl, rfl⟩ := glo_some he
    rw [hget g hg]
    exact hb g hg
  · obtain ⟨g, hg, rfl, rfl⟩ := glo_some he
    obtain ⟨g', hg', rfl, rfl⟩ := glo_some he'
    rw [show g = g' from hbe]
  · obtain ⟨g, hg, rfl, rfl⟩ := glo_some he
    exact ⟨g, by omega, rfl⟩
  · obtain ⟨g, hg, rfl, rfl⟩ := glo_some he
    rw [hget g hg]
    exact hro g hg
  · obtain ⟨g, hg, rfl, rfl⟩ := glo_some he
    show g < W.heap.size
    omega
theorem says_true {c : CR} (h : saysTrue c = true) : ∃ h' nx', c = .ok (.bool true) h' nx' := by
  cases c with
  | fail => cases h
  | ok v h' nx' =>
    cases v with
    | bool b =>
      obtain rfl : b = true := h
      exact ⟨h', nx', rfl⟩
    | _ => cases h
/-- What a closed run says of the program: the call yields true and leaves what lay as it was. -/
theorem law_run (hm : P.follows .mixedOrders = true) (hft : FtOk P ft) {sz : Nat → Nat} {h0 : TB} {nx n f : Nat} (I : Inv P (glo sz) h0 nx W) {args : AV} {l : List Value} (ha : VRels (glo sz) args l) (hf : f < 8 ^ D) (hfn : isFn (TF.get (bid f) ft) = true)
    (hrun : saysTrue (callA ft (exec ft n) (bid f) args h0 nx) = true) : Calls P f ⟨l⟩ W fun e W' => e = .returned (.bool true) ∧ RowKit.Below W.heap.size W W' := by
  obtain ⟨h', nx', hc⟩ := says_true hrun
  rcases calls_run hm hft n f args h0 nx _ h' nx' (glo sz) W l hf I ha hc with ⟨h1, _⟩ | ⟨_, h2⟩
  · rw [hfn] at h1; cases h1
  · refine (callsIn_wide.1 h2).mono fun e W' he => ?_
    obtain ⟨v', rfl, m', hv, _, F⟩ := he
    cases hv
    exact ⟨rfl, F.os, F.tape, F.output, F.size, fun r hr => F.keep r hr fun id e he _ => by
      obtain ⟨g, _, _, rfl⟩ := glo_some he
      rfl⟩
/-! Starts out of what the globals hold -/
noncomputable def kbL : GL → Nat → AB
  | .nil, _ => .dead
  | .cons g' el n c l, g => if g = g' then .cells 18446744073709551616 el 0 n (Tr.sets c 0 .leaf) else kbL l g
/-- The globals' sizes in a world. -/
def szW (w : World) (g : Nat) : Nat := match w.heap[g]? with
  | some (.cells cs _ _) => cs.size
  | _ => 0
theorem glH_get : ∀ (l : GL), l.flat = true → ∀ g, g < 8 → (glH l).get (bid g) = kbL l g := by
  intro l
  induction l with
  | nil => intro _ g _; exact TB.gt_leaf _ _
  | cons g' el n c l ih =>
    intro hf g hg
    simp only [GL.flat, Bool.and_eq_true, decide_eq_true_eq] at hf
    show (TB.set (bid g') _ (glH l)).get (bid g) = if g = g' then _ else kbL l g
    rw [TB.get_set (by rw [plen_bid, plen_bid])]
    by_cases e : g = g'
    · subst e; rw [if_pos rfl, if_pos rfl]
    · rw [if_neg (fun h => e (bid_inj (by omega) (by omega) h)), if_neg e]
      exact ih hf.2.2 g hg
theorem kbL_rel : ∀ (l : GL), l.flat = true → GlW W l → ∀ g, g < 8 → BRel P (glo (szW W)) ⟨g, 0, szW W g, true⟩ (kbL l g) W.heap[g]? ∧ RoB ⟨g, 0, szW W g, true⟩ (kbL l g) := by
  intro l
  induction l with
  | nil => intro _ _ g _; exact ⟨trivial, trivial⟩
  | cons g' el n c l ih =>
    intro hf hG g hg
    simp only [GL.flat, Bool.and_eq_true, decide_eq_true_eq] at hf
    obtain ⟨⟨cs, fr, h1, h2, h3, h4, h5, h6⟩, h7⟩ := hG
    show BRel P _ _ (if g = g' then _ else kbL l g) _ ∧ RoB _ (if g = g' then _ else kbL l g)
    by_cases e : g = g'
    · subst e
      rw [if_pos rfl]
      have hsz : szW W g = cs.size := by unfold szW; rw [h1]
      rw [hsz]
      have hlen : (cs.toList.take n).length = n := by rw [List.length_take, Array.length_toList]; omega
      refine ⟨⟨cs, fr, h1, rfl, Nat.le_refl _, by show n ≤ 0 + cs.size; omega, h3, fun o _ ho => ?_, fun o _ h8 h9 => ?_, fun _ hne => h4 hne⟩, by show 0 + cs.size < 18446744073709551616; omega, Nat.le_refl _⟩
      · have hv : cs[o]? = some (cs[o]'(by omega)) := by simp
        refine ⟨_, hv, ?_⟩
        refine sets_rel (h6.flat hf.2.1) 0 .leaf o _ (fun _ h => ?_) (fun h => by omega)
        rw [Nat.sub_zero, List.getElem?_take_of_lt ho]
        simp
      · exfalso
        have : o < 0 + cs.size := h9
        omega
    · rw [if_neg e]
      exact ih hf.2.2 h7 g hg
theorem start_gl {l : GL} (hf : l.flat = true) (hsize : 8 ≤ W.heap.size) (hG : GlW W l) {nx : Nat} (h1 : 8 ≤ nx) (h2 : nx ≤ 32768) : Inv P (glo (szW W)) (glH l) nx W :=
  start_inv (glH_get l hf) (fun g hg => (kbL_rel l hf hG g hg).1) (fun g hg => (kbL_rel (P := P) l hf hG g hg).2) hsize h1 h2
/-- A closed function whose run says true. -/
theorem truth_run (hm : P.follows .mixedOrders = true) (hft : FtOk P ft) {l : GL} (hl : l.flat = true) {nx n f : Nat} (h1 : 8 ≤ nx) (h2 : nx ≤ 32768) (hf : f < 8 ^ D) (henter : ∀ a w, (callFunc f a).run P w = .ok (.enter f a) w) (hfn : isFn (TF.get (bid f) ft) = true)
    (hrun : saysTrue (callA ft (exec ft n) (bid f) .nl (glH l) nx) = true) : TruthOk P f l :=
  ⟨hl, henter, fun w hsize hG => law_run hm hft (start_gl hl hsize hG h1 h2) .nil hf hfn hrun⟩
/-- A call whose arguments name no block, from any world. -/
theorem known_run (hm : P.follows .mixedOrders = true) (hft : FtOk P ft) {l : GL} (hl : l.flat = true) {nx n f : Nat} (h1 : 8 ≤ nx) (h2 : nx ≤ 32768) (hf : f < 8 ^ D) {args : AV} {vs : List Value} (ha : ∀ m : Mp, VRels m args vs) (hfn : isFn (TF.get (bid f) ft) = true) {v : AV}
    (hrun : saysV v (callA ft (exec ft n) (bid f) args (glH l) nx) = true) (w : World) (hsize : 8 ≤ w.heap.size) (hG : GlW w l) : Calls P f ⟨vs⟩ w fun e w' => (∃ v' m', e = .returned v' ∧ VRel m' v v') ∧ RowKit.Below w.heap.size w w' := by
  cases hc : callA ft (exec ft n) (bid f) args (glH l) nx with
  | fail => rw [hc] at hrun; cases hrun
  | ok u h' nx' =>
    rw [hc] at hrun
    obtain rfl := AV.beq_eq _ _ hrun
    rcases calls_run hm hft n f args _ nx _ h' nx' (glo (szW w)) w vs hf (start_gl hl hsize hG h1 h2) (ha _) hc with ⟨h1, _⟩ | ⟨_, h2⟩
    · rw [hfn] at h1; cases h1
    · refine (callsIn_wide.1 h2).mono fun e W' he => ?_
      obtain ⟨v', rfl, m', hv, _, F⟩ := he
      exact ⟨⟨v', m', rfl, hv⟩, F.os, F.tape, F.output, F.size, fun r hr => F.keep r hr fun id e he _ => by
        obtain ⟨g, _, _, rfl⟩ := glo_some he
        rfl⟩
/-- A text that a short number stands for. -/
theorem str_is {m : Mp} {n k : Nat} {v : Value} (h : VRel m (.str n k) v) {s : ByteArray} (hs : packB s = .str n k) : v = .string s := by
  generalize ha : AV.str n k = a at h hs
  cases h <;> first | (cases ha; done) | skip
  rename_i b
  unfold packB at hs
  injection hs with e1 e2
  have := packL_inj e1 e2
  have hd : s.data = b.data := Array.toList_inj.1 this
  cases s; cases b
  simp only at hd
  rw [hd]
/-- Do the checks of n functions from number k on hold? -/
noncomputable def okAt (P : Program) (k : Nat) : Bool := Option.rec true (fun fn => okFn P fn) P.funcs[k]?
noncomputable def okFrom (P : Program) (n : Nat) : Nat → Bool := Nat.rec (motive := fun _ => Nat → Bool) (fun _ => true) (fun _ ih k => Bool.rec false (ih (Nat.succ k)) (okAt P k)) n
theorem okFrom_at : ∀ (n k : Nat), okFrom P n k = true → ∀ j, k ≤ j → j < k + n → okAt P j = true := by
  intro n
  induction n with
  | zero => intro k _ j h1 h2; omega
  | succ n ih =>
    intro k h j h1 h2
    replace h : (Bool.rec false (okFrom P n (Nat.succ k)) (okAt P k) : Bool) = true := h
    cases hk : okAt P k with
    | false => rw [hk] at h; cases h
    | true =>
      rw [hk] at h
      rcases Nat.lt_or_ge k j with h3 | h3
      · exact ih (k + 1) h j h3 (by omega)
      · obtain rfl : j = k := by omega
        exact hk
theorem okAt_fn {k : Nat} {fn : Func} (h : okAt P k = true) (hf : P.funcs[k]? = some fn) : okFn P fn = true := by
  unfold okAt at h
  rw [hf] at h
  exact h
end Go.Ra
