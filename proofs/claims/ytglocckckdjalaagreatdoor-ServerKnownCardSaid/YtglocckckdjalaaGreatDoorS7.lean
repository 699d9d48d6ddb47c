/-
  Operations that only look: slices, elements, conversions.
-/
import Derived.Laws.BytesString
import Derived.Test.YtglocckckdjalaaGreatDoorS6
set_option linter.unusedVariables false
set_option linter.unusedSimpArgs false
namespace Go.Ra
variable {P : Program} {m : Mp} {h : TB} {nx : Nat} {w : World}

theorem bits_and3 {a b c : Bool} : (a && (b && c)) = true ↔ a = true ∧ b = true ∧ c = true := by simp
theorem bits_and4 {a b c d : Bool} : (a && (b && (c && d))) = true ↔ a = true ∧ b = true ∧ c = true ∧ d = true := by simp

theorem VRel.int_inv {k : IntKind} {n : Int} {v : Value} (h : VRel m (.int k n) v) : v = .int k n := by cases h; rfl
/-! Bounds -/
theorem bound_run {v : Value} {n y : Nat} {code : BoundsCode} {k : IntKind} (hv : v = .int k (n : Int)) (hn : n ≤ y) : (Instr.sliceBound v y code).run P w = .ok n w := by
  subst hv
  simp only [Instr.sliceBound, asIntOf, Sem.run_bind, Sem.run_pure, Result.andThen_ok]
  rw [if_pos ⟨by omega, by omega⟩]
  simp
/-- What an optional bound is: a number, or what stands for it. -/
theorem optNat_some {nt : Nat} {a : Act} {z : TV} {x : Option Operand} {x' : Option AO} (hx : cOo nt x = some x') (hO : ∀ y ∈ x, ∀ q, cO nt y = some q → VRel m (q.ev z) (a.eval y)) {d n : Nat} (hn : optNat x' d z = some n) :
    (x = none ∧ n = d) ∨ ∃ y k, x = some y ∧ a.eval y = .int k (n : Int) := by
  cases x with
  | none =>
    obtain rfl := Option.some.inj hx
    exact .inl ⟨rfl, (Option.some.inj hn).symm⟩
  | some y =>
    simp only [cOo, Option.map_eq_some_iff] at hx
    obtain ⟨q, hq, rfl⟩ := hx
    obtain ⟨k, hk⟩ := natOf_some hn
    have := hO y rfl q hq
    rw [hk] at this
    exact .inr ⟨y, k, rfl, this.int_inv⟩
theorem bounds_run {isSlice : Bool} {len cap l u : Nat} {lo hi : Option Value} (hl : (lo = none ∧ l = 0) ∨ ∃ k, lo = some (.int k (l : Int))) (hu : (hi = none ∧ u = len) ∨ ∃ k, hi = some (.int k (u : Int)))
    (h1 : l ≤ u) (h2 : u ≤ cap) : (Instr.sliceBounds isSlice len cap lo hi none).run P w = .ok (l, u, cap) w := by
  rcases hl with ⟨rfl, rfl⟩ | ⟨k, rfl⟩ <;> rcases hu with ⟨rfl, rfl⟩ | ⟨k', rfl⟩ <;> simp [Instr.sliceBounds, bound_run rfl h1, bound_run rfl h2]
theorem bounds3_run {isSlice : Bool} {len cap l u q : Nat} {lo : Option Value} {k' k'' : IntKind} (hl : (lo = none ∧ l = 0) ∨ ∃ k, lo = some (.int k (l : Int)))
    (h1 : l ≤ u) (h2 : u ≤ q) (h3 : q ≤ cap) : (Instr.sliceBounds isSlice len cap lo (some (.int k' (u : Int))) (some (.int k'' (q : Int)))).run P w = .ok (l, u, q) w := by
  rcases hl with ⟨rfl, rfl⟩ | ⟨k, rfl⟩ <;> simp [Instr.sliceBounds, bound_run rfl h1, bound_run rfl h2, bound_run rfl h3]

theorem map_eval {a : Act} {x : Option Operand} {l d : Nat} (hx : (x = none ∧ l = d) ∨ ∃ y k, x = some y ∧ a.eval y = .int k (l : Int)) : (x.map a.eval = none ∧ l = d) ∨ ∃ k, x.map a.eval = some (.int k (l : Int)) := by
  rcases hx with ⟨rfl, rfl⟩ | ⟨y, k, rfl, h⟩
  · exact .inl ⟨rfl, rfl⟩
  · exact .inr ⟨k, by simp [h]⟩

theorem slstr_run {t : TypeId} (ht : P.underlying t = some .string) {x' : Value} {len n l u : Nat} (hx : VRel m (.str len n) x') {lo hi : Option Value}
    (hl : (lo = none ∧ l = 0) ∨ ∃ k, lo = some (.int k (l : Int))) (hu : (hi = none ∧ u = len) ∨ ∃ k, hi = some (.int k (u : Int))) (h1 : l ≤ u) (h2 : u ≤ len) :
    ∃ v', (Instr.sliceAt t x' lo hi none).run P w = .ok v' w ∧ VRel m (subStr n l u) v' := by
  cases hx with | str s =>
  have hs : s.size = s.data.toList.length := (Array.length_toList).symm
  refine ⟨.string (s.extract l u), ?_, ?_⟩
  · simp only [Instr.sliceAt, Instr.slice, Sem.run_bind, run_underlying ht, Result.andThen_ok]
    have := bounds_run (P := P) (w := w) (isSlice := false) (len := s.size) (cap := s.size) (l := l) (u := u) (lo := lo) (hi := hi) hl (by rw [hs]; exact hu) h1 (by rw [hs]; exact h2)
    simp [this]
  · rw [subStr_eq _ _ _ h1 h2]
    have e : (s.extract l u).data.toList = (s.data.toList.drop l).take (u - l) := by
      rw [ByteArray.data_extract]
      simp [List.extract_eq_take_drop]
    exact .str' _ (by rw [e]) (by rw [e])
theorem sltxt_run {t : TypeId} (ht : P.underlying t = some .string) {x' : Value} {a b u : Nat} (hx : VRel m (.text a b) x') {k : IntKind} (hu : u ≤ a) :
    ∃ v', (Instr.sliceAt t x' none (some (.int k (u : Int))) none).run P w = .ok v' w ∧ VRel m (.text u (Nat.succ u)) v' := by
  cases hx with | text _ _ s h1 h2 =>
  have hs : s.size = s.data.toList.length := (Array.length_toList).symm
  refine ⟨.string (s.extract 0 u), ?_, ?_⟩
  · simp only [Instr.sliceAt, Instr.slice, Sem.run_bind, run_underlying ht, Result.andThen_ok]
    have := bounds_run (P := P) (w := w) (isSlice := false) (len := s.size) (cap := s.size) (l := 0) (u := u) (lo := none) (hi := some (.int k (u : Int))) (.inl ⟨rfl, rfl⟩) (.inr ⟨k, rfl⟩) (Nat.zero_le _) (by omega)
    simp [this]
  · have e : (s.extract 0 u).data.toList.length = u := by
      rw [ByteArray.data_extract]
      simp
      omega
    exact .text _ _ _ (by omega) (by omega)
theorem slsl_run {t el : TypeId} {i : TypeInfo} (ht : P.underlying t = some (.slice el)) (hi : P.info? el = some i) {x' : Value} {id : Pth} {off len c l u : Nat} {ex : Bool}
    (hx : VRel m (.slice id off len c ex i.size) x') {lo up : Option Value}
    (hl : (lo = none ∧ l = 0) ∨ ∃ k, lo = some (.int k (l : Int))) (hu : (up = none ∧ u = len) ∨ ∃ k, up = some (.int k (u : Int))) (h1 : l ≤ u) (h2 : u ≤ c) :
    ∃ v', (Instr.sliceAt t x' lo up none).run P w = .ok v' w ∧ VRel m (.slice id (off + l * i.size) (u - l) (c - l) ex i.size) v' := by
  cases hx with | slice _ _ _ _ _ _ e a cc he hd hlen hlo hmax hex hsz haddr =>
  have hb := bounds_run (P := P) (w := w) (isSlice := true) (len := len) (cap := cc) (l := l) (u := u) (lo := lo) (hi := up) hl hu h1 (by omega)
  refine ⟨.slice (if cc = l then some a else (some a).map (·.add (l * i.size))) (u - l) (cc - l), ?_, ?_⟩
  · simp only [Instr.sliceAt, Instr.slice, Sem.run_bind, run_underlying ht, Result.andThen_ok, hb, size_run hi]
    rfl
  · have hmul : (off + l * i.size - e.delta) + (cc - l) * i.size ≤ e.size := by
      have : (cc - l) * i.size + l * i.size = cc * i.size := by rw [← Nat.add_mul]; congr 1; omega
      omega
    by_cases hc : cc = l
    · subst hc
      rw [if_pos rfl]
      refine .slice _ _ _ _ _ _ e a _ he (by omega) (by omega) (by omega) (by omega) (fun h => ?_) hmul (fun h => by omega)
      have := hex h
      omega
    · rw [if_neg hc]
      refine .slice _ _ _ _ _ _ e _ _ he (by omega) (by omega) (by omega) (by omega) (fun h => ?_) hmul (fun h => ?_)
      · have := hex h; omega
      · rw [haddr (by omega)]
        show (⟨e.blk, off - e.delta, none⟩ : Addr).add (l * i.size) = _
        rw [add_eq]
        congr 1
        omega
theorem slsl3_run {t el : TypeId} {i : TypeInfo} (ht : P.underlying t = some (.slice el)) (hi : P.info? el = some i) {x' : Value} {id : Pth} {off len c l u q : Nat} {ex : Bool}
    (hx : VRel m (.slice id off len c ex i.size) x') {lo : Option Value} {k' k'' : IntKind}
    (hl : (lo = none ∧ l = 0) ∨ ∃ k, lo = some (.int k (l : Int))) (h1 : l ≤ u) (h2 : u ≤ q) (h3 : q ≤ c) :
    ∃ v', (Instr.sliceAt t x' lo (some (.int k' (u : Int))) (some (.int k'' (q : Int)))).run P w = .ok v' w ∧ VRel m (.slice id (off + l * i.size) (u - l) (q - l) true i.size) v' := by
  cases hx with | slice _ _ _ _ _ _ e a cc he hd hlen hlo hmax hex hsz haddr =>
  have hb := bounds3_run (P := P) (w := w) (isSlice := true) (len := len) (cap := cc) (l := l) (u := u) (q := q) (lo := lo) (k' := k') (k'' := k'') hl h1 h2 (by omega)
  refine ⟨.slice (if q = l then some a else (some a).map (·.add (l * i.size))) (u - l) (q - l), ?_, ?_⟩
  · simp only [Instr.sliceAt, Instr.slice, Sem.run_bind, run_underlying ht, Result.andThen_ok, hb, size_run hi]
    rfl
  · have hmul : (off + l * i.size - e.delta) + (q - l) * i.size ≤ e.size := by
      have : (q - l) * i.size + l * i.size = q * i.size := by rw [← Nat.add_mul]; congr 1; omega
      have : q * i.size ≤ cc * i.size := Nat.mul_le_mul_right _ (by omega)
      omega
    by_cases hc : q = l
    · subst hc
      rw [if_pos rfl]
      exact .slice _ _ _ _ _ _ e a _ he (by omega) (by omega) (by omega) (by omega) (fun h => rfl) hmul (fun h => by omega)
    · rw [if_neg hc]
      refine .slice _ _ _ _ _ _ e _ _ he (by omega) (by omega) (by omega) (by omega) (fun h => rfl) hmul (fun h => ?_)
      rw [haddr (by omega)]
      show (⟨e.blk, off - e.delta, none⟩ : Addr).add (l * i.size) = _
      rw [add_eq]
      congr 1
      omega
theorem slnil_run {t el : TypeId} {i : TypeInfo} (ht : P.underlying t = some (.slice el)) (hi : P.info? el = some i) {lo up mx : Option Value}
    (hl : (lo = none) ∨ ∃ k, lo = some (.int k 0)) (hu : (up = none) ∨ ∃ k, up = some (.int k 0)) (hm : (mx = none) ∨ ∃ k, up ≠ none ∧ mx = some (.int k 0)) :
    (Instr.sliceAt t (.slice none 0 0) lo up mx).run P w = .ok (.slice none 0 0) w := by
  have b : ∀ k (c : BoundsCode) (w : World), (Instr.sliceBound (.int k 0) 0 c).run P w = .ok 0 w := fun k c w => bound_run (n := 0) (k := k) rfl (Nat.le_refl _)
  simp only [Instr.sliceAt, Instr.slice, Sem.run_bind, run_underlying ht, Result.andThen_ok]
  rcases hl with rfl | ⟨k, rfl⟩ <;> rcases hu with rfl | ⟨k', rfl⟩ <;> rcases hm with rfl | ⟨k'', hne, rfl⟩ <;> first
    | (exact absurd rfl hne)
    | simp [Instr.sliceBounds, b, size_run hi]
theorem slarr_run (I : Inv P m h nx w) {t el : TypeId} {i : TypeInfo} {n : Nat} (ht : P.underlying t = some (.array n el)) (hi : P.info? el = some i) {x' : Value} {id : Pth} {off l u : Nat}
    (hx : VRel m (.ptr id off) x') {lo hi' : Option Value} (hl : (lo = none ∧ l = 0) ∨ ∃ k, lo = some (.int k (l : Int))) (hu : (hi' = none ∧ u = n) ∨ ∃ k, hi' = some (.int k (u : Int)))
    (h1 : l ≤ u) (h2 : u ≤ n) (hn : n ≤ maxInt) {fz elem lo' hi2 : Nat} {tr : Tr} (hb : h.get id = .cells fz elem lo' hi2 tr) (h3 : lo' ≤ off) (h4 : off + n * i.size ≤ hi2) :
    ∃ v', (Instr.sliceAt t x' lo hi' none).run P w = .ok v' w ∧ VRel m (.slice id (off + l * i.size) (u - l) (n - l) true i.size) v' := by
  cases hx with | ptr _ _ e he hd =>
  obtain ⟨cs, fr, hw, R⟩ := I.row he hb
  have hbd := bounds_run (P := P) (w := w) (isSlice := false) (len := n) (cap := n) (l := l) (u := u) (lo := lo) (hi := hi') hl hu h1 h2
  refine ⟨.slice (some (if n = l then (⟨e.blk, off - e.delta, none⟩ : Addr) else (⟨e.blk, off - e.delta, none⟩ : Addr).add (l * i.size))) (u - l) (n - l), ?_, ?_⟩
  · simp only [Instr.sliceAt, Sem.run_bind, run_underlying ht, Result.andThen_ok, Instr.sureAddr, Sem.run_pure, hbd, size_run hi]
  · have hmul : (off + l * i.size - e.delta) + (n - l) * i.size ≤ e.size := by
      have : (n - l) * i.size + l * i.size = n * i.size := by rw [← Nat.add_mul]; congr 1; omega
      have := R.high
      omega
    by_cases hc : n = l
    · subst hc
      rw [if_pos rfl]
      exact .slice _ _ _ _ _ _ e _ _ he (by omega) (by omega) (by omega) (by omega) (fun h => rfl) hmul (fun h => by omega)
    · rw [if_neg hc]
      refine .slice _ _ _ _ _ _ e _ _ he (by omega) (by omega) (by omega) (by omega) (fun h => rfl) hmul (fun h => ?_)
      rw [add_eq]
      congr 1
      omega

/-! Elements -/
theorem faddr_run {t : TypeId} {fs : Array Field} {f : Field} {k : Nat} {i : TypeInfo} (ht : P.underlying t = some (.struct fs)) (hf : fs[k]? = some f) (hi : P.info? f.type = some i) (hz : i.size ≠ 0)
    {x' : Value} {id : Pth} {off : Nat} (hx : VRel m (.ptr id off) x') : ∃ v', (Instr.fieldAt t x' k).run P w = .ok v' w ∧ VRel m (.ptr id (off + f.offset)) v' := by
  cases hx with | ptr _ _ e he hd =>
  refine ⟨.pointer (some ⟨e.blk, off - e.delta + f.offset, none⟩), ?_, ?_⟩
  · simp [Instr.fieldAt, run_underlying ht, hf, Instr.sureAddr, fieldPlace, size_run hi, hz, add_eq]
  · rw [show off - e.delta + f.offset = off + f.offset - e.delta by omega]
    exact .ptr _ _ e he (by omega)
theorem iasl_run {t el : TypeId} {i : TypeInfo} (ht : P.underlying t = some (.slice el)) (hi : P.info? el = some i) {x' y' : Value} {id : Pth} {off len c n : Nat} {ex : Bool} {k : IntKind}
    (hx : VRel m (.slice id off len c ex i.size) x') (hy : VRel m (.int k (.ofNat n)) y') (hn : n < len) : ∃ v', (Instr.indexAt t x' y').run P w = .ok v' w ∧ VRel m (.ptr id (off + n * i.size)) v' := by
  cases hx with | slice _ _ _ _ _ _ e a cc he hd hlen hlo hmax hex hsz haddr =>
  cases hy
  rw [haddr (by omega)]
  refine ⟨.pointer (some ⟨e.blk, off - e.delta + n * i.size, none⟩), ?_, ?_⟩
  · simp only [Instr.indexAt, asIntOf, Sem.run_bind, Sem.run_pure, run_underlying ht, Result.andThen_ok]
    have e1 : (0 : Int) ≤ Int.ofNat n ∧ Int.ofNat n < (len : Int) := ⟨Int.natCast_nonneg n, Int.ofNat_lt.2 hn⟩
    simp [e1, size_run hi, add_eq]
    intro hc
    exact absurd (Int.ofNat_lt.2 hn) (by omega)
  · rw [show off - e.delta + n * i.size = off + n * i.size - e.delta by omega]
    exact .ptr _ _ e he (by omega)
theorem iaarr_run {t el : TypeId} {i : TypeInfo} {len : Nat} (ht : P.underlying t = some (.array len el)) (hi : P.info? el = some i) {x' y' : Value} {id : Pth} {off n : Nat} {k : IntKind}
    (hx : VRel m (.ptr id off) x') (hy : VRel m (.int k (.ofNat n)) y') (hn : n < len) : ∃ v', (Instr.indexAt t x' y').run P w = .ok v' w ∧ VRel m (.ptr id (off + n * i.size)) v' := by
  cases hx with | ptr _ _ e he hd =>
  cases hy
  refine ⟨.pointer (some ⟨e.blk, off - e.delta + n * i.size, none⟩), ?_, ?_⟩
  · simp only [Instr.indexAt, asIntOf, Sem.run_bind, Sem.run_pure, run_underlying ht, Result.andThen_ok, Instr.sureAddr]
    have e1 : (0 : Int) ≤ Int.ofNat n ∧ Int.ofNat n < (len : Int) := ⟨Int.natCast_nonneg n, Int.ofNat_lt.2 hn⟩
    simp [e1, size_run hi, add_eq]
    intro hc
    exact absurd (Int.ofNat_lt.2 hn) (by omega)
  · rw [show off - e.delta + n * i.size = off + n * i.size - e.delta by omega]
    exact .ptr _ _ e he (by omega)
theorem part_run {t : TypeId} {n : Nat} {agg : Bool} (ht : tyOf P t = some (n, agg)) {l : AV} {vs : List Value} (hv : VRels m l vs) (ho : ∀ v ∈ vs, v.oneCell' = true) {off : Nat} (hoff : off + n ≤ l.len) :
    ∃ v', (part t vs.toArray off).run P w = .ok v' w ∧ VRel m (partA l off n agg) v' := by
  obtain ⟨t1, t2, t3⟩ := tyOf_some ht
  cases agg with
  | true =>
    refine ⟨.agg ((vs.drop off).take n).toArray, ?_, .agg _ _ ((hv.drop off).take ?_) fun v h => ho v (List.mem_of_mem_drop (List.mem_of_mem_take h))⟩
    · simp only [part, Sem.run_bind, t2, t1, Result.andThen_ok, if_true, Sem.run_pure]
      congr 2
      simp [List.extract_eq_take_drop]
    · have h1 := (hv.drop off).len
      have h2 := hv.len
      rw [h1]; simp; omega
  | false =>
    have hn := t3 rfl
    subst hn
    obtain ⟨v, a, b⟩ := hv.nth (i := off) (by omega)
    exact ⟨v, by simp [part, t2, a], b⟩
theorem ixstr_run {t : TypeId} (ht : P.underlying t = some .string) {x' y' : Value} {len n i : Nat} {k : IntKind} (hx : VRel m (.str len n) x') (hy : VRel m (.int k (.ofNat i)) y') (hi : i < len) :
    ∃ v', (Instr.index t x' y').run P w = .ok v' w ∧ VRel m (.int .u8 (.ofNat (byteAt n i))) v' := by
  cases hx with | str s =>
  cases hy
  refine ⟨.int .u8 ((s.data.toList[i]'hi).toNat : Int), ?_, ?_⟩
  · simp only [Instr.index, asIntOf, Sem.run_bind, Sem.run_pure, run_underlying ht, Result.andThen_ok]
    have e1 : (0 : Int) ≤ Int.ofNat i := Int.natCast_nonneg i
    have e2 : s[(Int.ofNat i).toNat]? = some (s.data.toList[i]'hi) := by
      have hs : i < s.size := by show i < s.data.size; rw [← Array.length_toList]; exact hi
      show s[i]? = _
      rw [getElem?_pos s i hs]
      simp [ByteArray.getElem_eq_getElem_data]
    simp only [if_pos e1, e2, Sem.run_pure]
  · rw [byteAt_lt hi]; exact .int _ _
end Go.Ra
