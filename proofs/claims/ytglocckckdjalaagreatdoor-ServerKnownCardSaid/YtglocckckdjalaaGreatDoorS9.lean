/-
  Operations that only look: comparisons, maps, the rest; all of them.
-/
import Derived.ChangeKeysEq
import Derived.Test.YtglocckckdjalaaGreatDoorS8
set_option linter.unusedVariables false
set_option linter.unusedSimpArgs false
namespace Go.Ra
variable {P : Program} {m : Mp} {h : TB} {nx : Nat} {w : World}

/-! Kinds -/
theorem kdTy_some {t : TypeId} {s : Nat} (ht : kdTy P t = some s) : (s = 0 ∧ ∃ k, P.underlying t = some (.int k)) ∨ (s = 1 ∧ P.underlying t = some .string) ∨ (s = 2 ∧ P.underlying t = some .bool) := by
  unfold kdTy at ht
  split at ht
  · rename_i k hk; exact .inl ⟨(Option.some.inj ht).symm, k, hk⟩
  · rename_i hk; exact .inr (.inl ⟨(Option.some.inj ht).symm, hk⟩)
  · rename_i hk; exact .inr (.inr ⟨(Option.some.inj ht).symm, hk⟩)
  · cases ht
theorem key0 {v : AV} (h : v.key 0 = true) : ∃ k n, v = .int k n := by
  cases v <;> first | exact ⟨_, _, rfl⟩ | (exfalso; revert h; decide) | (exfalso; exact Bool.noConfusion h)
theorem key1 {v : AV} (h : v.key 1 = true) : ∃ l n, v = .str l n := by
  cases v <;> first | exact ⟨_, _, rfl⟩ | (exfalso; exact Bool.noConfusion h)
theorem key2 {v : AV} (h : v.key 2 = true) : ∃ b, v = .bool b := by
  cases v <;> first | exact ⟨_, rfl⟩ | (exfalso; exact Bool.noConfusion h)
theorem sameC_kd {x y : AV} {b : Bool} (h : sameC x y = some b) {s : Nat} (hx : x.key s = true) : y.key s = true := by
  cases x <;> first | (cases (show (none : Option Bool) = some b from h)) | skip
  · rename_i c
    cases y <;> first | (cases (show (none : Option Bool) = some b from h)) | exact hx
  · rename_i k n
    cases y <;> first | (cases (show (none : Option Bool) = some b from h)) | exact hx
  · rename_i l n
    cases y <;> first | (cases (show (none : Option Bool) = some b from h)) | exact hx
theorem sameC_int {k k' : IntKind} {a c : Int} {b : Bool} (h : sameC (.int k a) (.int k' c) = some b) : k = k' ∧ b = (a == c) := by
  replace h : (Bool.rec none (some (eqI a c)) (sameK k k') : Option Bool) = some b := h
  cases hk : sameK k k' with
  | false => rw [hk] at h; cases h
  | true =>
    rw [hk] at h
    exact ⟨sameK_iff.1 hk, by rw [← eqI_eq]; exact (Option.some.inj h).symm⟩
theorem sameC_str {x y : List UInt8} {b : Bool} (h : sameC (.str x.length (packL x)) (.str y.length (packL y)) = some b) : b = (x == y) := by
  have := Option.some.inj (show some (eqS x.length (packL x) y.length (packL y)) = some b from h)
  rw [← this, eqS_eq, Bool.eq_iff_iff]; simp
theorem sameC_bool {x y b : Bool} (h : sameC (.bool x) (.bool y) = some b) : b = (x == y) := (Option.some.inj (show some (x == y) = some b from h)).symm
theorem bytes_beq (x y : ByteArray) : (x == y) = (x.data.toList == y.data.toList) := by
  rw [beq_toListBytes, ByteArray.toList_eq, ByteArray.toList_eq]

/-- Two cells, held against each other. -/
theorem sameC_run {t : TypeId} {s : Nat} (ht : kdTy P t = some s) {x y : AV} {x' y' : Value} (hx : VRel m x x') (hy : VRel m y y') (kx : x.key s = true) (ky : y.key s = true) {b : Bool} (hb : sameC x y = some b) (d : Nat) (w : World) :
    (Op.equalIn (d + 1) t x' y').run P w = .ok b w := by
  rcases kdTy_some ht with ⟨rfl, k, hu⟩ | ⟨rfl, hu⟩ | ⟨rfl, hu⟩
  · obtain ⟨k1, n1, rfl⟩ := key0 kx
    obtain ⟨k2, n2, rfl⟩ := key0 ky
    cases hx; cases hy
    obtain ⟨rfl, rfl⟩ := sameC_int hb
    exact run_equalIn_int w d t _ _ _ _ hu
  · obtain ⟨l1, n1, rfl⟩ := key1 kx
    obtain ⟨l2, n2, rfl⟩ := key1 ky
    cases hx with | str s1 =>
    cases hy with | str s2 =>
    obtain rfl := sameC_str hb
    rw [run_equalIn_string w d t _ _ hu, ByteArray.toList_eq, ByteArray.toList_eq]
  · obtain ⟨b1, rfl⟩ := key2 kx
    obtain ⟨b2, rfl⟩ := key2 ky
    cases hx; cases hy
    obtain rfl := sameC_bool hb
    exact run_equalIn_bool' w d t _ _ hu
theorem key_nl {s : Nat} (hs : s ≤ 2) (n : Nat) : (AV.nl.nth n).key s = false := by
  have e : ∀ n, AV.nl.nth n = .undef := by
    intro n
    induction n with
    | zero => rfl
    | succ n ih => rw [AV.nth_succ]; exact ih
  rw [e]
  match s, hs with
  | 0, _ | 1, _ | 2, _ => rfl
theorem nth_key {l : AV} {vs : List Value} (hl : VRels m l vs) {n s : Nat} (hs : s ≤ 2) (hk : (l.nth n).key s = true) : ∃ v, vs[n]? = some v ∧ VRel m (l.nth n) v := by
  rcases Nat.lt_or_ge n l.len with h | h
  · exact hl.nth h
  · exfalso
    have : ∀ (vs : List Value) (l : AV) (n : Nat), VRels m l vs → l.len ≤ n → (l.nth n).key s = false := by
      intro vs
      induction vs with
      | nil => intro l n hl _; cases hl; exact key_nl hs n
      | cons v vs ih =>
        intro l n hl hn
        cases hl with | cons a l _ _ h t =>
        cases n with
        | zero => simp at hn
        | succ n => exact ih l n t (by simpa using hn)
    rw [this vs l n hl h] at hk
    cases hk
theorem kdTy_le {t : TypeId} {s : Nat} (ht : kdTy P t = some s) : s ≤ 2 := by rcases kdTy_some ht with ⟨rfl, _⟩ | ⟨rfl, _⟩ | ⟨rfl, _⟩ <;> omega
theorem kdTy_agg {t : TypeId} {s : Nat} (ht : kdTy P t = some s) (w : World) : (isAgg t).run P w = .ok false w := by
  rcases kdTy_some ht with ⟨rfl, k, hu⟩ | ⟨rfl, hu⟩ | ⟨rfl, hu⟩ <;> simp [isAgg, run_underlying hu]
theorem eqagg_run {d : Nat} {a b : AV} {as bs : List Value} (ha : VRels m a as) (hb : VRels m b bs) : ∀ (fs : List Field) (offs : List (Nat × Nat)) (r : Bool), offsOf P fs = some offs → sameOffs a b offs = some r →
    (Op.eqFields (d + 1) as.toArray bs.toArray fs).run P w = .ok r w := by
  intro fs
  induction fs with
  | nil =>
    intro offs r ho hr
    obtain rfl := Option.some.inj (show some [] = some offs from ho)
    obtain rfl := Option.some.inj (show some true = some r from hr)
    rfl
  | cons f fs ih =>
    intro offs r ho hr
    unfold offsOf at ho
    split at ho
    · rename_i k l hk hl
      split at ho
      · rename_i hn
        obtain rfl := Option.some.inj ho
        unfold sameOffs at hr
        cases hc : ((a.nth f.offset).key k && (b.nth f.offset).key k) with
        | false => rw [hc] at hr; cases hr
        | true =>
          rw [hc] at hr
          rw [and_true'] at hc
          obtain ⟨x, hx, rx⟩ := nth_key ha (kdTy_le hk) hc.1
          obtain ⟨y, hy, ry⟩ := nth_key hb (kdTy_le hk) hc.2
          have p1 : (part f.type as.toArray f.offset).run P w = .ok x w := by simp [part, kdTy_agg hk, hx]
          have p2 : (part f.type bs.toArray f.offset).run P w = .ok y w := by simp [part, kdTy_agg hk, hy]
          simp only [Op.eqFields, Sem.run_ite, Sem.run_bind, p1, p2, Result.andThen_ok]
          rw [if_pos hn]
          simp only [cond_true] at hr
          split at hr
          · rename_i he
            rw [sameC_run hk rx ry hc.1 hc.2 he d w]
            simp only [Result.andThen_ok, Bool.not_true, Bool.false_eq_true, if_false]
            exact ih l r hl hr
          · rename_i he
            obtain rfl := Option.some.inj hr
            rw [sameC_run hk rx ry hc.1 hc.2 he d w]
            simp
          · cases hr
      · cases ho
    · cases ho

theorem eqitems_run {d k e c : Nat} {a b : AV} {as bs : List Value} (ha : VRels m a as) (hb : VRels m b bs) (hk : kdTy P e = some k) : ∀ (is : List Nat) (r : Bool), sameOffs a b (is.map fun i => (i * c, k)) = some r →
    (Op.eqItems (d + 1) e c as.toArray bs.toArray is).run P w = .ok r w := by
  intro is
  induction is with
  | nil =>
    intro r hr
    obtain rfl := Option.some.inj (show some true = some r from hr)
    simp [Op.eqItems]
  | cons i is ih =>
    intro r hr
    rw [List.map_cons] at hr
    unfold sameOffs at hr
    cases hc : ((a.nth (i * c)).key k && (b.nth (i * c)).key k) with
    | false => rw [hc] at hr; cases hr
    | true =>
      rw [hc] at hr
      rw [and_true'] at hc
      obtain ⟨x, hx, rx⟩ := nth_key ha (kdTy_le hk) hc.1
      obtain ⟨y, hy, ry⟩ := nth_key hb (kdTy_le hk) hc.2
      have p1 : (part e as.toArray (i * c)).run P w = .ok x w := by simp [part, kdTy_agg hk, hx]
      have p2 : (part e bs.toArray (i * c)).run P w = .ok y w := by simp [part, kdTy_agg hk, hy]
      simp only [Op.eqItems, Sem.run_ite, Sem.run_bind, p1, p2, Result.andThen_ok]
      simp only [cond_true] at hr
      split at hr
      · rename_i he
        rw [sameC_run hk rx ry hc.1 hc.2 he d w]
        simp only [Result.andThen_ok, Bool.not_true, Bool.false_eq_true, if_false]
        exact ih r hr
      · rename_i he
        obtain rfl := Option.some.inj hr
        rw [sameC_run hk rx ry hc.1 hc.2 he d w]
        simp
      · cases hr

/-! Maps -/
theorem checkKey_run {t : TypeId} {s : Nat} (ht : kdTy P t = some s) (e : Bool) (d : Nat) {v : AV} {v' : Value} (hv : VRel m v v') (hk : v.key s = true) (w : World) : (Instr.checkKey e (d + 1) t v').run P w = .ok () w := by
  rcases kdTy_some ht with ⟨rfl, k, hu⟩ | ⟨rfl, hu⟩ | ⟨rfl, hu⟩
  · obtain ⟨k1, n1, rfl⟩ := key0 hk; cases hv; simp [Instr.checkKey, run_underlying hu]
  · obtain ⟨k1, n1, rfl⟩ := key1 hk; cases hv; simp [Instr.checkKey, run_underlying hu]
  · obtain ⟨k1, rfl⟩ := key2 hk; cases hv; simp [Instr.checkKey, run_underlying hu]
theorem keyW0 {m : Mp} {v : AV} {v' : Value} (hv : VRel m v v') (h : v.keyW 0 = true) : ∃ k n, v' = .int k n := by
  cases hv <;> first | exact ⟨_, _, rfl⟩ | (exfalso; exact Bool.noConfusion h)
theorem keyW1 {m : Mp} {v : AV} {v' : Value} (hv : VRel m v v') (h : v.keyW 1 = true) : ∃ s, v' = .string s := by
  cases hv <;> first | exact ⟨_, rfl⟩ | (exfalso; exact Bool.noConfusion h)
theorem keyW2 {m : Mp} {v : AV} {v' : Value} (hv : VRel m v v') (h : v.keyW 2 = true) : ∃ b, v' = .bool b := by
  cases hv <;> first | exact ⟨_, rfl⟩ | (exfalso; exact Bool.noConfusion h)
theorem checkKeyW_run {t : TypeId} {s : Nat} (ht : kdTy P t = some s) (e : Bool) (d : Nat) {v : AV} {v' : Value} (hv : VRel m v v') (hk : v.keyW s = true) (w : World) : (Instr.checkKey e (d + 1) t v').run P w = .ok () w := by
  rcases kdTy_some ht with ⟨rfl, k, hu⟩ | ⟨rfl, hu⟩ | ⟨rfl, hu⟩
  · obtain ⟨k1, n1, rfl⟩ := keyW0 hv hk; simp [Instr.checkKey, run_underlying hu]
  · obtain ⟨k1, rfl⟩ := keyW1 hv hk; simp [Instr.checkKey, run_underlying hu]
  · obtain ⟨k1, rfl⟩ := keyW2 hv hk; simp [Instr.checkKey, run_underlying hu]
theorem sameNow_eq {t : TypeId} {s : Nat} {d : TypeDesc} (ht : kdTy P t = some s) (hd : P.underlying t = some d) {x y : AV} {x' y' : Value} (hx : VRel m x x') (hy : VRel m y y') (kx : x.key s = true) {b : Bool} (hb : sameC x y = some b) :
    Instr.sameNow d x' y' = some b := by
  have ky := sameC_kd hb kx
  rcases kdTy_some ht with ⟨rfl, k, hu⟩ | ⟨rfl, hu⟩ | ⟨rfl, hu⟩
  · obtain ⟨k1, n1, rfl⟩ := key0 kx
    obtain ⟨k2, n2, rfl⟩ := key0 ky
    cases hx; cases hy
    obtain ⟨rfl, rfl⟩ := sameC_int hb
    rw [hu] at hd; cases hd
    simp [Instr.sameNow]
  · obtain ⟨l1, n1, rfl⟩ := key1 kx
    obtain ⟨l2, n2, rfl⟩ := key1 ky
    cases hx with | str s1 =>
    cases hy with | str s2 =>
    obtain rfl := sameC_str hb
    rw [hu] at hd; cases hd
    simp [Instr.sameNow, bytes_beq]
  · obtain ⟨b1, rfl⟩ := key2 kx
    obtain ⟨b2, rfl⟩ := key2 ky
    cases hx; cases hy
    obtain rfl := sameC_bool hb
    rw [hu] at hd; cases hd
    simp [Instr.sameNow]
theorem find_run {t : TypeId} {s : Nat} {d : TypeDesc} (ht : kdTy P t = some s) (hd : P.underlying t = some d) {k : AV} {k' : Value} (hk : VRel m k k') (kk : k.key s = true) {es : ME} {l : List MapEntry} (hes : MRel m es l) :
    ∀ (i : Nat) (r : OA), es.find k = some r → (r = none ∧ Instr.findNow d k' l i = some none) ∨ ∃ v j v', r = some v ∧ Instr.findNow d k' l i = some (some (j, v')) ∧ VRel m v v' := by
  induction hes with
  | nil => intro i r hr; exact .inl ⟨(Option.some.inj hr).symm, rfl⟩
  | cons k1 v1 b es k1' v1' l h1 h2 _ ih =>
    intro i r hr
    unfold ME.find at hr
    split at hr
    · rename_i he
      obtain rfl := Option.some.inj hr
      refine .inr ⟨v1, i, v1', rfl, ?_, h2⟩
      simp [Instr.findNow, sameNow_eq ht hd hk h1 kk he]
    · rename_i he
      rcases ih (i + 1) r hr with ⟨rfl, hf⟩ | ⟨v, j, v', rfl, hf, hv⟩
      · exact .inl ⟨rfl, by simp [Instr.findNow, sameNow_eq ht hd hk h1 kk he, hf]⟩
      · exact .inr ⟨v, j, v', rfl, by simp [Instr.findNow, sameNow_eq ht hd hk h1 kk he, hf], hv⟩
    · cases hr
theorem find_run' {t : TypeId} {s : Nat} {d : TypeDesc} (ht : kdTy P t = some s) (hd : P.underlying t = some d) {k : AV} {k' : Value} (hk : VRel m k k') {es : ME} (kk : (k.key s || es.isNil) = true) {l : List MapEntry} (hes : MRel m es l) :
    ∀ (i : Nat) (r : OA), es.find k = some r → (r = none ∧ Instr.findNow d k' l i = some none) ∨ ∃ v j v', r = some v ∧ Instr.findNow d k' l i = some (some (j, v')) ∧ VRel m v v' := by
  rw [Bool.or_eq_true] at kk
  rcases kk with kk | kk
  · exact find_run ht hd hk kk hes
  · intro i r hr
    cases hes with
    | nil => exact .inl ⟨(Option.some.inj hr).symm, rfl⟩
    | cons => cases kk
theorem okA_rel {ok : Bool} {v : AV} {v' : Value} {t : Bool} (hv : VRel m v v') : VRel m (okA ok v t) (if ok then .tuple #[v', .bool t] else v') := by
  cases ok with
  | false => exact hv
  | true => exact .tuple _ _ (.cons _ _ _ _ hv (.cons _ _ _ _ (.bool t) .nil))
theorem lookup_run (I : Inv P m h nx w) {t k e : TypeId} {s : Nat} {zv : AV} (ht : P.underlying t = some (.map k e)) (hz : zeroOf P e = some zv) (hk : kdTy P k = some s) {x i : AO} {z : TV} {ok : Bool} {v : AV} {x' i' : Value}
    (hx : VRel m (x.ev z) x') (hi : VRel m (i.ev z) i') (hv : pLookup s zv x i ok z h = some v) : ∃ v', (Instr.lookup t x' i' ok).run P w = .ok v' w ∧ VRel m v v' := by
  obtain ⟨zc, hz1, hz2⟩ := zero_run hz
  have hzr := absV_rel m zc zv hz2
  unfold pLookup at hv
  split at hv
  · rename_i hx'
    rw [hx'] at hx
    cases hx
    obtain ⟨hkey, hv⟩ := whenA_some.1 hv
    obtain rfl := Option.some.inj hv
    obtain ⟨d, hd⟩ : ∃ d, P.underlying k = some d := by rcases kdTy_some hk with ⟨_, _, h⟩ | ⟨_, h⟩ | ⟨_, h⟩ <;> exact ⟨_, h⟩
    refine ⟨_, ?_, okA_rel hzr⟩
    simp only [Instr.lookup, Sem.run_bind, run_underlying ht, Result.andThen_ok, Sem.run_pure, Instr.findKey, run_underlying hd, Instr.findNow, hz1]
    rw [show (10000 : Nat) = 9999 + 1 from rfl, checkKeyW_run hk _ 9999 hi hkey w]
    simp [Instr.findNow, hz1]
  · rename_i id hx'
    rw [hx'] at hx
    cases hx with | map _ e0 he0 =>
    obtain ⟨hkey, hv⟩ := whenA_some.1 hv
    split at hv
    · rename_i es clock hb
      have hB := I.blk id e0 he0
      rw [hb] at hB
      obtain ⟨l, hw, hM⟩ := hB
      obtain ⟨d, hd⟩ : ∃ d, P.underlying k = some d := by rcases kdTy_some hk with ⟨_, _, h⟩ | ⟨_, h⟩ | ⟨_, h⟩ <;> exact ⟨_, h⟩
      have hg : (getObj e0.blk).run P w = .ok (.map l clock) w := by simp [getObj, Sem.run, hw]
      have base : ∀ (r : Option (Nat × Value)), Instr.findNow d i' l.toList 0 = some r → (Instr.lookup t (.map (some e0.blk)) i' ok).run P w = .ok (match r with
          | some (_, u) => if ok then .tuple #[u, .bool true] else u
          | none => if ok then .tuple #[zc, .bool false] else zc) w := by
        intro r hr
        simp only [Instr.lookup, Sem.run_bind, run_underlying ht, Result.andThen_ok, Sem.run_pure, hg]
        rw [show (10000 : Nat) = 9999 + 1 from rfl, checkKeyW_run hk _ 9999 hi hkey w]
        simp only [Result.andThen_ok, Instr.findKey, Sem.run_bind, run_underlying hd, hr, Sem.run_pure]
        cases r with
        | none => simp [hz1]
        | some p => obtain ⟨j, u⟩ := p; simp
      cases hkk : ((i.ev z).key s || es.isNil) with
      | false => rw [hkk] at hv; cases hv
      | true =>
      rw [hkk, cond_true] at hv
      split at hv
      · rename_i u hf
        obtain rfl := Option.some.inj hv
        rcases find_run' hk hd hi hkk hM 0 _ hf with ⟨h1, _⟩ | ⟨v1, j, v1', h1, h2, h3⟩
        · cases h1
        · cases h1
          exact ⟨_, base _ h2, okA_rel h3⟩
      · rename_i hf
        obtain rfl := Option.some.inj hv
        rcases find_run' hk hd hi hkk hM 0 _ hf with ⟨_, h2⟩ | ⟨v1, j, v1', h1, h2, h3⟩
        · exact ⟨_, base _ h2, okA_rel hzr⟩
        · cases h1
      · cases hv
    · cases hv
  · cases hv

/-! Lengths and such -/
theorem MRel.len {es : ME} {l : List MapEntry} (h : MRel m es l) : es.len = l.length := by
  induction h with
  | nil => rfl
  | cons _ _ _ _ _ _ _ _ _ _ ih => simp [ME.len, ih]
theorem mm_run {ts : Array TypeId} {t : TypeId} {isMax : Bool} : ∀ (ys : AV) (vs : List Value) (x v : AV) (x' : Value), VRel m x x' → VRels m ys vs → mmL isMax x ys = some v →
    ∃ v', (vs.foldlM (if isMax then Builtin.max2 else Builtin.min2) x').run P w = .ok v' w ∧ VRel m v v' := by
  intro ys vs
  induction vs generalizing ys with
  | nil =>
    intro x v x' hx hy hv
    cases hy
    obtain rfl := Option.some.inj (show some x = some v from hv)
    exact ⟨x', rfl, hx⟩
  | cons y' vs ih =>
    intro x v x' hx hy hv
    cases hy with | cons y l _ _ h t =>
    unfold mmL at hv
    split at hv
    · rename_i u hu
      obtain ⟨k, a, rfl, hu⟩ := onInt_some hu
      obtain ⟨k', b, rfl, hu⟩ := onInt_some (show y.onInt _ = some u from hu)
      cases hx; cases h
      obtain rfl := Option.some.inj hu
      have e : (if isMax then Builtin.max2 else Builtin.min2) (.int k a) (.int k' b) = (pure (.int k (Bool.rec (Bool.rec b a (leI a b)) (Bool.rec b a (leI b a)) isMax : Int)) : Sem Value) := by
        cases isMax with
        | true =>
          rw [if_pos rfl]
          simp only [Builtin.max2, leI_eq]
          congr 2
          cases hd : decide (b ≤ a) <;> simp at hd <;> simp <;> omega
        | false =>
          rw [if_neg (by simp)]
          simp only [Builtin.min2, leI_eq]
          congr 2
          cases hd : decide (a ≤ b) <;> simp at hd <;> simp <;> omega
      rw [List.foldlM_cons, e, pure_bind]
      exact ih l _ v _ (.int _ _) t hv
    · cases hv
end Go.Ra
