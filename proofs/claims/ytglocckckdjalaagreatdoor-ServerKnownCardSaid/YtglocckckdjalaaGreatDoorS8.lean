/-
  Operations that only look: conversions, comparisons, maps, the rest.
-/
import Derived.Orders
import Derived.Test.YtglocckckdjalaaGreatDoorS7
set_option linter.unusedVariables false
set_option linter.unusedSimpArgs false
namespace Go.Ra
variable {P : Program} {m : Mp} {h : TB} {nx : Nat} {w : World}

theorem un_run {op : UnOp} {x v : AV} {x' : Value} (hx : VRel m x x') (hv : unA op x = some v) : ∃ v', (Op.unary op x').run P w = .ok v' w ∧ VRel m v v' := by
  cases op with
  | plus => exact noA hv
  | not =>
    obtain ⟨b, rfl, hv⟩ := onBool_some (show x.onBool _ = some v from hv)
    obtain rfl := Option.some.inj hv
    cases hx
    exact ⟨.bool (!b), rfl, .bool _⟩
  | neg =>
    obtain ⟨k, n, rfl, hv⟩ := onInt_some (show x.onInt _ = some v from hv)
    obtain rfl := Option.some.inj hv
    cases hx
    refine ⟨.int k (k.wrap (0 - n)), rfl, ?_⟩
    rw [subI_eq]; exact .int _ _
  | xor =>
    obtain ⟨k, n, rfl, hv⟩ := onInt_some (show x.onInt _ = some v from hv)
    cases hx
    cases n with
    | negSucc n =>
      cases k with
      | i64 =>
        obtain ⟨hk, hv⟩ := whenA_some.1 (show whenA _ _ = some v from hv)
        obtain rfl := Option.some.inj hv
        rw [nble_iff] at hk
        refine ⟨.int .i64 (.ofNat n), ?_, .int _ _⟩
        show (Op.intBits .xor .i64 (-1) (Int.negSucc n)).run P w = _
        simp only [Op.intBits, Sem.run_pure, Result.ok.injEq, and_true, Value.int.injEq, true_and]
        rw [show (BitVec.ofInt (IntKind.bits .i64) (-1) ^^^ BitVec.ofInt (IntKind.bits .i64) (Int.negSucc n)).toNat = n from ?_]
        · exact wrap_id .i64 _ (by simpa [maxN] using hk)
        · show (BitVec.ofInt 64 (-1) ^^^ BitVec.ofInt 64 (Int.negSucc n)).toNat = n
          rw [show BitVec.ofInt 64 (-1) = BitVec.allOnes 64 from rfl, BitVec.allOnes_xor, BitVec.toNat_not]
          simp only [BitVec.toNat_ofInt]
          omega
      | _ => exact noA hv
    | ofNat n =>
      have key : ∀ (w' : Nat), n < 2 ^ w' → (BitVec.ofInt w' ((2 ^ w' - 1 : Nat) : Int) ^^^ BitVec.ofInt w' (Int.ofNat n)).toNat = 2 ^ w' - 1 - n := by
        intro w' hn
        have e : BitVec.ofInt w' ((2 ^ w' - 1 : Nat) : Int) = BitVec.allOnes w' := by
          rw [show ((2 ^ w' - 1 : Nat) : Int) = Int.ofNat (2 ^ w' - 1) from rfl]
          apply BitVec.eq_of_toNat_eq
          simp [BitVec.toNat_allOnes]
        rw [e, BitVec.allOnes_xor, BitVec.toNat_not]
        have : (BitVec.ofInt w' (Int.ofNat n)).toNat = n := by
          show (BitVec.ofInt w' (n : Int)).toNat = n
          simp [Nat.mod_eq_of_lt hn]
        rw [this]
      cases k with
      | i8 | i16 | i32 => exact noA hv
      | i64 =>
        obtain ⟨hk, hv⟩ := whenA_some.1 (show whenA _ _ = some v from hv)
        obtain rfl := Option.some.inj hv
        rw [nble_iff] at hk
        refine ⟨.int .i64 (.negSucc n), ?_, .int _ _⟩
        have := key 64 (by omega)
        show (Op.intBits .xor .i64 (-1) (Int.ofNat n)).run P w = _
        simp only [Op.intBits, Sem.run_pure, Result.ok.injEq, and_true, Value.int.injEq, true_and]
        rw [show (BitVec.ofInt (IntKind.bits .i64) (-1) ^^^ BitVec.ofInt (IntKind.bits .i64) (Int.ofNat n)).toNat = 18446744073709551615 - n from this]
        simp only [IntKind.wrap, IntKind.signed, IntKind.bits]
        simp
        omega
      | u8 =>
        obtain ⟨hk, hv⟩ := whenA_some.1 (show whenA _ _ = some v from hv)
        obtain rfl := Option.some.inj hv
        rw [nble_iff] at hk
        refine ⟨.int .u8 (.ofNat (255 - n)), ?_, .int _ _⟩
        have := key 8 (by omega)
        show (Op.intBits .xor .u8 255 (Int.ofNat n)).run P w = _
        simp only [Op.intBits, Sem.run_pure, Result.ok.injEq, and_true, Value.int.injEq, true_and]
        rw [show (BitVec.ofInt (IntKind.bits .u8) 255 ^^^ BitVec.ofInt (IntKind.bits .u8) (Int.ofNat n)).toNat = 255 - n from this]
        exact wrap_id .u8 _ (by simp [maxN])
      | u16 =>
        obtain ⟨hk, hv⟩ := whenA_some.1 (show whenA _ _ = some v from hv)
        obtain rfl := Option.some.inj hv
        rw [nble_iff] at hk
        refine ⟨.int .u16 (.ofNat (65535 - n)), ?_, .int _ _⟩
        have := key 16 (by omega)
        show (Op.intBits .xor .u16 65535 (Int.ofNat n)).run P w = _
        simp only [Op.intBits, Sem.run_pure, Result.ok.injEq, and_true, Value.int.injEq, true_and]
        rw [show (BitVec.ofInt (IntKind.bits .u16) 65535 ^^^ BitVec.ofInt (IntKind.bits .u16) (Int.ofNat n)).toNat = 65535 - n from this]
        exact wrap_id .u16 _ (by simp [maxN])
      | u32 =>
        obtain ⟨hk, hv⟩ := whenA_some.1 (show whenA _ _ = some v from hv)
        obtain rfl := Option.some.inj hv
        rw [nble_iff] at hk
        refine ⟨.int .u32 (.ofNat (4294967295 - n)), ?_, .int _ _⟩
        have := key 32 (by omega)
        show (Op.intBits .xor .u32 4294967295 (Int.ofNat n)).run P w = _
        simp only [Op.intBits, Sem.run_pure, Result.ok.injEq, and_true, Value.int.injEq, true_and]
        rw [show (BitVec.ofInt (IntKind.bits .u32) 4294967295 ^^^ BitVec.ofInt (IntKind.bits .u32) (Int.ofNat n)).toNat = 4294967295 - n from this]
        exact wrap_id .u32 _ (by simp [maxN])
      | u64 =>
        obtain ⟨hk, hv⟩ := whenA_some.1 (show whenA _ _ = some v from hv)
        obtain rfl := Option.some.inj hv
        rw [nble_iff] at hk
        refine ⟨.int .u64 (.ofNat (18446744073709551615 - n)), ?_, .int _ _⟩
        have := key 64 (by omega)
        show (Op.intBits .xor .u64 18446744073709551615 (Int.ofNat n)).run P w = _
        simp only [Op.intBits, Sem.run_pure, Result.ok.injEq, and_true, Value.int.injEq, true_and]
        rw [show (BitVec.ofInt (IntKind.bits .u64) 18446744073709551615 ^^^ BitVec.ofInt (IntKind.bits .u64) (Int.ofNat n)).toNat = 18446744073709551615 - n from this]
        exact wrap_id .u64 _ (by simp [maxN])

theorem cvi_run {s d : TypeId} {k : IntKind} {ds : TypeDesc} (hs : P.underlying s = some ds) (hd : P.underlying d = some (.int k)) {x v : AV} {x' : Value} (hx : VRel m x x') (hv : cvI k x = some v) :
    ∃ v', (convert s d x').run P w = .ok v' w ∧ VRel m v v' := by
  obtain ⟨k', n, rfl, hv⟩ := onInt_some (show x.onInt _ = some v from hv)
  obtain rfl := Option.some.inj hv
  cases hx
  refine ⟨.int k (k.wrap n), ?_, ?_⟩
  · simp [convert, run_underlying hs, run_underlying hd, Conv.intToInt]
  · cases n with
    | ofNat n => rw [show k.wrap (Int.ofNat n) = wrapN k n from (wrapN_eq k n).symm]; exact .int _ _
    | negSucc n => exact .int _ _

/-! Bytes -/
theorem packA_some {l : AV} {vs : List Value} (hl : VRels m l vs) : ∀ {q : Nat × Nat}, packA l = some q → ∃ bs : List UInt8, vs = bs.map (fun b => Value.int .u8 (b.toNat : Int)) ∧ bs.length = q.1 ∧ packL bs = q.2 := by
  induction vs generalizing l with
  | nil =>
    intro q hq
    cases hl
    obtain rfl := Option.some.inj (show some ((0 : Nat), (0 : Nat)) = some q from hq)
    exact ⟨[], rfl, rfl, rfl⟩
  | cons v vs ih =>
    intro q hq
    cases hl with | cons a l _ _ h t =>
    cases a with
    | int k n =>
      cases k with
      | u8 =>
        cases n with
        | ofNat b =>
          cases hb : Nat.ble b 255 with
          | false =>
            replace hq : (Bool.rec none ((packA l).map fun q => (Nat.succ q.1, Nat.add b (Nat.mul 256 q.2))) (Nat.ble b 255) : Option (Nat × Nat)) = some q := hq
            rw [hb] at hq; cases hq
          | true =>
            replace hq : (Bool.rec none ((packA l).map fun q => (Nat.succ q.1, Nat.add b (Nat.mul 256 q.2))) (Nat.ble b 255) : Option (Nat × Nat)) = some q := hq
            rw [hb] at hq
            obtain ⟨q', hq', rfl⟩ := Option.map_eq_some_iff.1 hq
            obtain ⟨bs, rfl, h2, h3⟩ := ih t hq'
            rw [nble_iff] at hb
            cases h
            refine ⟨UInt8.ofNat b :: bs, ?_, by simp [h2], ?_⟩
            · simp only [List.map_cons, List.cons.injEq, Value.int.injEq, true_and, and_true]
              show (b : Int) = _
              rw [UInt8.toNat_ofNat_of_lt' (by show b < 256; omega)]
            · rw [packL_cons, h3, UInt8.toNat_ofNat_of_lt' (by show b < 256; omega)]; rfl
        | negSucc b => cases (show (none : Option (Nat × Nat)) = some q from hq)
      | _ => cases (show (none : Option (Nat × Nat)) = some q from hq)
    | _ => cases (show (none : Option (Nat × Nat)) = some q from hq)
theorem foldl_push (bs : List UInt8) : ∀ s : ByteArray, (bs.map (fun b => (b.toNat : Int))).foldl (fun r n => r.push (UInt8.ofNat n.toNat)) s = ⟨(s.data.toList ++ bs).toArray⟩ := by
  induction bs with
  | nil => intro s; simp
  | cons b bs ih =>
    intro s
    rw [List.map_cons, List.foldl_cons, ih]
    congr 1
    simp [ByteArray.push]
theorem b2s_run (I : Inv P m h nx w) {s d e : TypeId} (hs : P.underlying s = some (.slice e)) (he : P.underlying e = some (.int .u8)) (hd : P.underlying d = some .string) {x : AO} {z : TV} {v : AV} {x' : Value}
    (hx : VRel m (x.ev z) x') (hv : pB2s x z h = some v) : ∃ v', (convert s d x').run P w = .ok v' w ∧ VRel m v v' := by
  unfold pB2s at hv
  split at hv
  · rename_i hx'
    rw [hx'] at hx
    cases hx
    obtain rfl := Option.some.inj hv
    exact ⟨.string .empty, by rw [run_convert_bytes_string w s d e _ _ _ hs he hd]; rfl, .str' _ rfl rfl⟩
  · rename_i id off len c ex k hx'
    rw [hx'] at hx
    cases hx with | slice _ _ _ _ _ _ e0 a cc he0 hd0 hlen hlo hmax hex hsz haddr =>
    cases hk : Nat.beq k 1 with
    | false => rw [hk] at hv; cases hv
    | true =>
      rw [hk] at hv
      obtain rfl := nbeq_iff.1 hk
      cases h0 : Nat.beq len 0 with
      | true =>
        rw [h0] at hv
        obtain rfl := Option.some.inj hv
        obtain rfl := nbeq_iff.1 h0
        refine ⟨.string .empty, ?_, .str' _ rfl rfl⟩
        rw [run_convert_bytes_string w s d e _ _ _ hs he hd]
        rfl
      | false =>
        rw [h0] at hv
        simp only [cond_true, cond_false] at hv
        split at hv
        · rename_i l hl
          obtain ⟨q, hq, rfl⟩ := Option.map_eq_some_iff.1 hv
          obtain ⟨vs, h1, h2, h3, h4, h5⟩ := I.loads he0 hl
          obtain ⟨bs, rfl, h6, h7⟩ := packA_some h2 hq
          have hne : len ≠ 0 := fun e => by subst e; simp at h0
          rw [haddr (by omega)]
          refine ⟨.string ⟨bs.toArray⟩, ?_, .str' _ h6 h7⟩
          rw [run_convert_bytes_string w s d e _ _ _ hs he hd, run_bytesToString w _ len cc (bs.map fun b => (b.toNat : Int)) (by rw [h5]; simp [Function.comp_def]), foldl_push]
          rfl
        · cases hv
  · cases hv

/-! Pointers as raw ones, and back -/
theorem rowAt_mono (fits : TypeId → Bool) : ∀ (d : Nat) (e : TypeId) (c c' off n : Nat), c ≤ c' → rowAt P fits d e c off n = true → rowAt P fits d e c' off n = true := by
  intro d
  cases d with
  | zero => intro e c c' off n _ h; simp [rowAt] at h
  | succ d =>
    intro e c c' off n hc h
    unfold rowAt at h ⊢
    by_cases h0 : P.cellsOf e = 0
    · simp only [h0, if_true] at h; cases h
    · simp only [h0, if_false, Bool.or_eq_true, Bool.and_eq_true, decide_eq_true_eq] at h ⊢
      rcases h with ⟨⟨h1, h2⟩, h3⟩ | ⟨h1, h2⟩
      · exact .inl ⟨⟨h1, by omega⟩, h3⟩
      · exact .inr ⟨by omega, h2⟩
theorem liesAt_mono : ∀ (d : Nat) (e : TypeId) (c c' off : Nat) (u : TypeId) (n : Nat), c ≤ c' → liesAt P d e c off u n = true → liesAt P d e c' off u n = true := by
  intro d
  induction d with
  | zero => intro e c c' off u n _ h; simp [liesAt] at h
  | succ d ih =>
    intro e c c' off u n hc h
    unfold liesAt at h ⊢
    simp only [Bool.or_eq_true] at h ⊢
    rcases h with h | h
    · exact .inl (rowAt_mono _ _ _ _ _ _ _ hc h)
    · right
      revert h
      split
      · exact ih _ _ _ _ _ _ hc
      · exact id
theorem tabHas_some {u : TypeId} {e off hi : Nat} (ht : tabHas (placesOf P u) e off hi = true) : ∃ n, n ≤ hi ∧ n ≠ 0 ∧ n = P.cellsOf e ∧ liesAt P P.depth e 1 off u 1 = true := by
  have key : ∀ l : List (TypeId × Nat × Nat), (∀ x ∈ l, x.2.2 ≠ 0 ∧ x.2.2 = P.cellsOf x.1 ∧ liesAt P P.depth x.1 1 x.2.1 u 1 = true) → tabHas l e off hi = true → ∃ n, n ≤ hi ∧ n ≠ 0 ∧ n = P.cellsOf e ∧ liesAt P P.depth e 1 off u 1 = true := by
    intro l
    induction l with
    | nil => intro _ h; cases h
    | cons x l ih =>
      intro hl h
      obtain ⟨e', off', n⟩ := x
      unfold tabHas at h
      cases hc : (Nat.beq e e' && (Nat.beq off off' && Nat.ble n hi)) with
      | true =>
        rw [bits_and3, nbeq_iff, nbeq_iff, nble_iff] at hc
        obtain ⟨rfl, rfl, hn⟩ := hc
        have := hl _ List.mem_cons_self
        exact ⟨n, hn, this.1, this.2.1, this.2.2⟩
      | false =>
        rw [hc] at h
        exact ih (fun x hx => hl x (List.mem_cons_of_mem _ hx)) h
  refine key _ (fun x hx => ?_) ht
  unfold placesOf at hx
  rw [List.mem_filter] at hx
  obtain ⟨_, hx⟩ := hx
  simpa [and_assoc] using hx
theorem view_none (w : World) {b : Nat} {cs : Array Value} {elem : TypeId} {fr : Nat × Nat} (hw : w.heap[b]? = some (.cells cs elem fr)) : (viewAt b).run P w = .ok none w := by
  simp [viewAt, World.shape?, hw]
theorem shape_some (w : World) {b : Nat} {cs : Array Value} {elem : TypeId} {fr : Nat × Nat} (hw : w.heap[b]? = some (.cells cs elem fr)) : w.shape? b = some (elem, cs.size) := by simp [World.shape?, hw]
theorem cvp0_run (I : Inv P m h nx w) {s d t : TypeId} {i : TypeInfo} (hs : P.underlying s = some (.pointer t)) (hd : P.underlying d = some .unsafePointer) (hi : P.info? t = some i) (hz : i.size ≠ 0)
    {x : AO} {z : TV} {v : AV} {x' : Value} (hx : VRel m (x.ev z) x') (hv : pCvp0 x z h = some v) : ∃ v', (convert s d x').run P w = .ok v' w ∧ VRel m v v' := by
  unfold pCvp0 at hv
  split at hv
  · rename_i hx'
    rw [hx'] at hx
    cases hx
    obtain rfl := Option.some.inj hv
    exact ⟨.pointer none, by simp [convert, run_underlying hs, run_underlying hd, Conv.unsafePointer], .nilptr⟩
  · rename_i id off hx'
    rw [hx'] at hx
    obtain ⟨fz, elem, lo, hi', tr, hb, hv⟩ := onCells_some hv
    obtain ⟨hk, hv⟩ := whenA_some.1 hv
    obtain rfl := Option.some.inj hv
    rw [and_true', nble_iff, nble_iff] at hk
    have hx2 := hx
    cases hx with | ptr _ _ e he hde =>
    obtain ⟨cs, fr, hw, R⟩ := I.row he hb
    refine ⟨_, ?_, hx2⟩
    have h1 := R.high
    have h2 := R.size
    have h3 : ¬ (cs.size ≤ off - e.delta) := by omega
    simp [convert, run_underlying hs, run_underlying hd, Conv.unsafePointer, Conv.seenAt, view_none w hw, cellsIn, shape_some w hw, size_run hi, hz, h3]
  · cases hv
theorem cvp1_run (I : Inv P m h nx w) {s d u : TypeId} {i : TypeInfo} (hs : P.underlying s = some .unsafePointer) (hd : P.underlying d = some (.pointer u)) (hi : P.info? u = some i) (hz : i.size ≠ 0)
    {x : AO} {z : TV} {v : AV} {x' : Value} (hx : VRel m (x.ev z) x') (hv : pCvp1 (placesOf P u) x z h = some v) : ∃ v', (convert s d x').run P w = .ok v' w ∧ VRel m v v' := by
  unfold pCvp1 at hv
  split at hv
  · rename_i hx'
    rw [hx'] at hx
    cases hx
    obtain rfl := Option.some.inj hv
    exact ⟨.pointer none, by simp [convert, run_underlying hs, run_underlying hd, Conv.unsafePointer], .nilptr⟩
  · rename_i id off hx'
    rw [hx'] at hx
    obtain ⟨fz, elem, lo, hi', tr, hb, hv⟩ := onCells_some hv
    obtain ⟨hk, hv⟩ := whenA_some.1 hv
    obtain rfl := Option.some.inj hv
    rw [and_true', nbeq_iff] at hk
    obtain ⟨rfl, hk⟩ := hk
    obtain ⟨n, g1, g2, rfl, g4⟩ := tabHas_some hk
    have hx2 := hx
    cases hx with | ptr _ _ e he hde =>
    obtain ⟨cs, fr, hw, R⟩ := I.row he hb
    refine ⟨_, ?_, hx2⟩
    have h1 := R.high
    have h2 := R.size
    have h4 := R.low
    have hd0 : e.delta = 0 := by omega
    have h3 : liesAt P P.depth elem (cs.size / P.cellsOf elem) (off - e.delta) u 1 = true := by
      rw [hd0, Nat.sub_zero]
      refine liesAt_mono _ _ 1 _ _ _ _ ?_ g4
      rw [Nat.le_div_iff_mul_le (by omega)]
      omega
    simp [convert, run_underlying hs, run_underlying hd, Conv.unsafePointer, Conv.seenAt, view_none w hw, size_run hi, hz, variablesAt, shape_some w hw, h3]
  · cases hv
end Go.Ra
