/-
  Operations that only look: the others.
-/
import Derived.Laws.Slices
import Derived.Laws.StructEq
import Derived.Laws.Pointers
import Derived.Laws.Cover3
import Derived.Test.YtglocckckdjalaaGreatDoorS5
set_option linter.unusedVariables false
set_option linter.unusedSimpArgs false
namespace Go.Ra
variable {P : Program} {m : Mp} {h : TB} {nx : Nat} {w : World}

/-! Literals -/
theorem fold_set (off : Nat) : ∀ (vs A B C : List Value) (j : Nat), A.length = off + j → B.length = vs.length →
    (vs.zipIdx j).foldl (fun (cs : Array Value) (p : Value × Nat) => cs.setIfInBounds (off + p.2) p.1) (A ++ (B ++ C)).toArray = (A ++ (vs ++ C)).toArray := by
  intro vs
  induction vs with
  | nil => intro A B C j _ hB; obtain rfl : B = [] := List.length_eq_zero_iff.1 hB; rfl
  | cons v vs ih =>
    intro A B C j hA hB
    cases B with
    | nil => simp at hB
    | cons b B =>
      rw [List.zipIdx_cons, List.foldl_cons]
      have e : ((A ++ (b :: B ++ C)).toArray.setIfInBounds (off + j) v) = ((A ++ [v]) ++ (B ++ C)).toArray := by
        rw [← hA]
        apply Array.toList_inj.1
        simp
      rw [e, ih (A ++ [v]) B C (j + 1) (by simp [hA]; omega) (by simpa using hB)]
      simp
theorem fill_run {nt : Nat} {z : TV} {ρ : Operand → Value} {place : Nat → Option (Nat × Nat)} : ∀ (ps : List (Nat × Operand)) (l : APs) (acc : AV) (cells : List Value) (r : AV),
    cParts nt place ps = some l → (∀ p ∈ ps, ∀ x, cO nt p.2 = some x → VRel m (x.ev z) (ρ p.2)) → VRels m acc cells → (∀ v ∈ cells, v.oneCell' = true) → l.fill z acc = some r →
    ∃ cells' : List Value, Instr.fill place cells.toArray (ps.map fun p => (p.1, ρ p.2)) = some cells'.toArray ∧ VRels m r cells' ∧ (∀ v ∈ cells', v.oneCell' = true) ∧ cells'.length = cells.length := by
  intro ps
  induction ps with
  | nil =>
    intro l acc cells r hl _ ha ho hr
    obtain rfl := Option.some.inj hl
    obtain rfl := Option.some.inj hr
    exact ⟨cells, rfl, ha, ho, rfl⟩
  | cons p ps ih =>
    intro l acc cells r hl hO ha ho hr
    obtain ⟨i, x⟩ := p
    simp only [cParts, Option.bind_eq_bind, Option.bind_eq_some_iff] at hl
    obtain ⟨⟨off, n⟩, hp, a, hx, l', hl', hl⟩ := hl
    obtain rfl := Option.some.inj hl
    simp only [APs.fill] at hr
    split at hr
    · rename_i c hc
      cases hcond : (Nat.beq c.len n && Nat.ble (Nat.add off n) acc.len) with
      | false => rw [hcond] at hr; cases hr
      | true =>
        rw [hcond] at hr
        rw [and_true', nbeq_iff, nble_iff] at hcond
        obtain ⟨e1, e2⟩ := hcond
        replace e2 : off + n ≤ acc.len := e2
        obtain ⟨k1, k2⟩ := (hO (i, x) List.mem_cons_self a hx).cells hc
        have hlen := k1.len
        have hal := ha.len
        obtain ⟨cells', g1, g2, g3, g4⟩ := ih l' (acc.seg off c) _ r hl' (fun p hp => hO p (List.mem_cons_of_mem _ hp)) (ha.seg k1 (by omega)) (by
          intro v hv
          simp only [List.mem_append] at hv
          rcases hv with hv | hv | hv
          · exact ho v (List.mem_of_mem_take hv)
          · exact k2 v hv
          · exact ho v (List.mem_of_mem_drop hv)) hr
        refine ⟨cells', ?_, g2, g3, ?_⟩
        · simp only [List.map_cons, Instr.fill, hp]
          have hsz : (ρ x).cells.size = n := by rw [← e1, hlen]; simp
          have hn : (ρ x).cells.toList.length = n := by simpa using hsz
          rw [if_neg (by simp [hsz]; omega)]
          rw [← g1]
          congr 1
          have hAB : cells = cells.take off ++ ((cells.drop off).take n ++ cells.drop (off + n)) := by
            rw [← List.drop_drop, List.take_append_drop, List.take_append_drop]
          have := fold_set off (ρ x).cells.toList (cells.take off) ((cells.drop off).take n) (cells.drop (off + n)) 0 (by simp; omega) (by simp [hsz]; omega)
          rw [← hAB] at this
          rw [← Array.foldl_toList, Array.toList_zipIdx, this, hn]
        · rw [g4]
          have hn : (ρ x).cells.toList.length = n := by rw [← e1, hlen]
          simp only [List.length_append, List.length_take, List.length_drop, hn]
          omega
    · cases hr

/-! Pointers' and other things' equality with nil -/
theorem isNil_true {x : AV} (hx : isNil x = some true) : (nilSort x = 1 ∧ x = .nilptr) ∨ (nilSort x = 2 ∧ x = .nilslice) ∨ (nilSort x = 3 ∧ x = .nilmap) ∨ (nilSort x = 4 ∧ x = .nilfunc) ∨ (nilSort x = 5 ∧ x = .nilIface) := by
  cases x <;> simp [isNil] at hx <;> simp [nilSort]
theorem eqNil_some {s : Nat} {x y : AV} {b : Bool} (he : eqNil s x y = some b) : nilSort x = s ∧ nilSort y = s ∧ ((isNil x = some true ∧ isNil y = some b) ∨ (isNil x = some false ∧ isNil y = some true ∧ b = false) ∨ ∃ p o o', x = .ptr p o ∧ y = .ptr p o' ∧ b = Nat.beq o o') := by
  unfold eqNil at he
  cases hc : (Nat.beq (nilSort x) s && Nat.beq (nilSort y) s) with
  | false => rw [hc] at he; cases he
  | true =>
    rw [hc] at he
    rw [and_true', nbeq_iff, nbeq_iff] at hc
    refine ⟨hc.1, hc.2, ?_⟩
    simp only [cond_true] at he
    split at he
    · rename_i h1 h2; exact .inl ⟨h1, by rw [h2, he]⟩
    · rename_i h1 h2; exact .inr (.inl ⟨h1, h2, (Option.some.inj he).symm⟩)
    · split at he
      · rename_i p o q o' _ _
        cases hq : p.beq q with
        | false => rw [hq] at he; cases he
        | true =>
          rw [hq] at he
          rw [Pth.beq_eq] at hq
          subst hq
          exact .inr (.inr ⟨p, o, o', rfl, rfl, (Option.some.inj he).symm⟩)
      · cases he
theorem guard_none {op : BinOp} {t : TypeId} {x y : Operand} {a b : Value} (h1 : ¬ (a = .nilIface ∧ b = .nilIface)) (h2 : ∀ c d, ¬ (a = .agg c ∧ b = .agg d)) : (eqGuard op t x y a b).run P w = .ok () w := by
  unfold eqGuard
  have key : Sem.run P (match a, b with
      | .nilIface, .nilIface => (do
        if (x matches .const _) || (y matches .const _) then return
        if ← Op.eqGuardIn Op.maxDepth t a b then unsupported (.noEntry "binop/eql: two nil values of an interface type with methods, neither of them the literal nil") : Sem Unit)
      | .agg _, .agg _ => (do
        if !(← program).eqGuardType (← program).depth t then return
        if ← Op.eqGuardIn Op.maxDepth t a b then unsupported (.noEntry "binop/eql: two nil values of an interface type with methods, in a part of a struct or an array") : Sem Unit)
      | _, _ => pure ()) w = .ok () w := by
    split
    · exact absurd ⟨rfl, rfl⟩ h1
    · exact absurd ⟨rfl, rfl⟩ (h2 _ _)
    · rfl
  cases op <;> first | rfl | exact key
theorem matches_const (x y : Operand) : nilIfaceC x = true ∨ nilIfaceC y = true → ((x matches .const _) || (y matches .const _)) = true := by
  have n1 : ∀ x : Operand, nilIfaceC x = true → (x matches .const _) = true := by
    intro x
    cases x with
    | const v => intro _; rfl
    | tmp _ | global _ | func _ => intro hx; exact Bool.noConfusion hx
  intro hc
  rcases hc with hc | hc
  · rw [n1 x hc]; rfl
  · rw [n1 y hc]; simp
theorem guard_iface {op : BinOp} {t : TypeId} {x y : Operand} (hc : nilIfaceC x = true ∨ nilIfaceC y = true) : (eqGuard op t x y .nilIface .nilIface).run P w = .ok () w := by
  have := matches_const x y hc
  unfold eqGuard
  have e : ∀ (c : Bool) (y : Sem Unit), c = true → (if c = true then (pure () : Sem Unit) else y).run P w = .ok () w := fun c y h => by rw [if_pos h]; rfl
  cases op <;> first | rfl | (rw [if_neg (by decide)]; dsimp only; exact e _ _ this)
theorem neg_rel (n : Bool) (b : Bool) : VRel m (neg n b) (.bool (if n then !b else b)) := by cases n <;> exact .bool _

/-- Equality of things that may be nil. -/
theorem eqnilIn_run (d : Nat) {t : TypeId} {x y : AV} {x' y' : Value} {s : Nat} {b : Bool} (hx : VRel m x x') (hy : VRel m y y') (he : eqNil s x y = some b)
    (ht : (∃ e i, s = 1 ∧ P.underlying t = some (.pointer e) ∧ P.info? e = some i ∧ i.size ≠ 0) ∨ (∃ e, s = 2 ∧ P.underlying t = some (.slice e)) ∨ (∃ k e, s = 3 ∧ P.underlying t = some (.map k e)) ∨
      (∃ a r c, s = 4 ∧ P.underlying t = some (.func a r c)) ∨ (∃ ms, s = 5 ∧ P.underlying t = some (.interface ms))) (h5 : s = 5 → isNil x = some true ∨ isNil y = some true) :
    (Op.equalIn (d + 1) t x' y').run P w = .ok b w := by
  obtain ⟨s1, s2, hcase⟩ := eqNil_some he
  rcases ht with ⟨e, i, rfl, ht, hi, hz⟩ | ⟨e, rfl, ht⟩ | ⟨k, e, rfl, ht⟩ | ⟨a, r, c, rfl, ht⟩ | ⟨ms, rfl, ht⟩
  · -- pointers
    cases x <;> simp [nilSort] at s1 <;> cases y <;> simp [nilSort] at s2
    · rename_i p o q o'
      rcases hcase with h | h | ⟨p', a, a', h1, h2, rfl⟩
      · simp [isNil] at h
      · simp [isNil] at h
      · cases h1; cases h2
        cases hx with | ptr _ _ ex hex hdx =>
        cases hy with | ptr _ _ ey hey hdy =>
        rw [hex] at hey; cases hey
        simp only [Op.equalIn, Sem.run_bind, run_underlying ht, Result.andThen_ok, size_run hi, ne_eq, hz, not_false_eq_true, if_true, sameAddr, beq_self_eq_true, Sem.run_pure]
        congr 1
        rw [Bool.eq_iff_iff, nbeq_iff]
        simp
        omega
    · cases hx; cases hy
      obtain rfl : b = false := by rcases hcase with h | h | ⟨_, _, _, _, h, _⟩ <;> simp_all [isNil]
      simp [Op.equalIn, run_underlying ht]
    · cases hx; cases hy
      obtain rfl : b = false := by rcases hcase with h | h | ⟨_, _, _, h, _, _⟩ <;> simp_all [isNil]
      simp [Op.equalIn, run_underlying ht]
    · cases hx; cases hy
      obtain rfl : b = true := by rcases hcase with h | h | ⟨_, _, _, h, _, _⟩ <;> simp_all [isNil]
      simp [Op.equalIn, run_underlying ht]
  · cases x <;> simp [nilSort] at s1 <;> cases y <;> simp [nilSort] at s2
    · rcases hcase with h | h | ⟨_, _, _, h, _, _⟩ <;> simp [isNil] at h
    · cases hx; cases hy
      obtain rfl : b = false := by rcases hcase with h | h | ⟨_, _, _, _, h, _⟩ <;> simp_all [isNil]
      simp [Op.equalIn, run_underlying ht]
    · cases hx; cases hy
      obtain rfl : b = false := by rcases hcase with h | h | ⟨_, _, _, h, _, _⟩ <;> simp_all [isNil]
      simp [Op.equalIn, run_underlying ht]
    · cases hx; cases hy
      obtain rfl : b = true := by rcases hcase with h | h | ⟨_, _, _, h, _, _⟩ <;> simp_all [isNil]
      simp [Op.equalIn, run_underlying ht]
  · cases x <;> simp [nilSort] at s1 <;> cases y <;> simp [nilSort] at s2
    · rcases hcase with h | h | ⟨_, _, _, h, _, _⟩ <;> simp [isNil] at h
    · cases hx; cases hy
      obtain rfl : b = false := by rcases hcase with h | h | ⟨_, _, _, _, h, _⟩ <;> simp_all [isNil]
      simp [Op.equalIn, run_underlying ht]
    · cases hx; cases hy
      obtain rfl : b = false := by rcases hcase with h | h | ⟨_, _, _, h, _, _⟩ <;> simp_all [isNil]
      simp [Op.equalIn, run_underlying ht]
    · cases hx; cases hy
      obtain rfl : b = true := by rcases hcase with h | h | ⟨_, _, _, h, _, _⟩ <;> simp_all [isNil]
      simp [Op.equalIn, run_underlying ht]
  · cases x <;> simp [nilSort] at s1 <;> cases y <;> simp [nilSort] at s2
    all_goals first
      | (exfalso; rcases hcase with h | h | ⟨_, _, _, h, _, _⟩ <;> simp [isNil] at h; done)
      | (cases hx; cases hy
         first
           | (obtain rfl : b = false := by rcases hcase with h | h | ⟨_, _, _, h, h', _⟩ <;> simp_all [isNil]
              simp [Op.equalIn, run_underlying ht]; done)
           | (obtain rfl : b = true := by rcases hcase with h | h | ⟨_, _, _, h, h', _⟩ <;> simp_all [isNil]
              simp [Op.equalIn, run_underlying ht]; done))
  · cases x <;> simp [nilSort] at s1 <;> cases y <;> simp [nilSort] at s2
    · rcases hcase with h | h | ⟨_, _, _, h, _, _⟩ <;> simp [isNil] at h
    · cases hx; cases hy
      obtain rfl : b = false := by rcases hcase with h | h | ⟨_, _, _, _, h, _⟩ <;> simp_all [isNil]
      simp [Op.equalIn, run_underlying ht]
    · cases hx; cases hy
      obtain rfl : b = false := by rcases hcase with h | h | ⟨_, _, _, h, _, _⟩ <;> simp_all [isNil]
      simp [Op.equalIn, run_underlying ht]
    · cases hx; cases hy
      obtain rfl : b = true := by rcases hcase with h | h | ⟨_, _, _, h, _, _⟩ <;> simp_all [isNil]
      simp [Op.equalIn, run_underlying ht]
theorem eqnil_run {t : TypeId} {x y : AV} {x' y' : Value} {s : Nat} {b : Bool} (hx : VRel m x x') (hy : VRel m y y') (he : eqNil s x y = some b)
    (ht : (∃ e i, s = 1 ∧ P.underlying t = some (.pointer e) ∧ P.info? e = some i ∧ i.size ≠ 0) ∨ (∃ e, s = 2 ∧ P.underlying t = some (.slice e)) ∨ (∃ k e, s = 3 ∧ P.underlying t = some (.map k e)) ∨
      (∃ a r c, s = 4 ∧ P.underlying t = some (.func a r c)) ∨ (∃ ms, s = 5 ∧ P.underlying t = some (.interface ms))) (h5 : s = 5 → isNil x = some true ∨ isNil y = some true) :
    (Op.equal t x' y').run P w = .ok b w := eqnilIn_run 9999 hx hy he ht h5
end Go.Ra
