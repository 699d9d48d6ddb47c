/-
  Operations that make a block.
-/
import Derived.Test.YtjjmmakledpifaaGreatDoorSA
set_option linter.unusedVariables false
set_option linter.unusedSimpArgs false
namespace Go.Ra
variable {P : Program} {m : Mp} {h : TB} {nx : Nat} {w : World} {nt : Nat} {a : Act} {z : TV}

theorem sets_rel {vs : List Value} : ∀ {l : AV}, VRels m l vs → ∀ (n : Nat) (t : Tr) (k : Nat) (v : Value), (n ≤ k → k < n + vs.length → vs[k - n]? = some v) → (k < n ∨ n + vs.length ≤ k → VRel m (t.get k) v) → VRel m ((Tr.sets l n t).get k) v := by
  induction vs with
  | nil =>
    intro l hl n t k v _ h2
    cases hl
    exact h2 (by simp; omega)
  | cons u vs ih =>
    intro l hl n t k v h1 h2
    cases hl with | cons b l _ _ hb ht =>
    rw [sets_cs]
    refine ih ht (n + 1) _ k v (fun k1 k2 => ?_) (fun k1 => ?_)
    · have := h1 (by omega) (by simp; omega)
      rw [show k - n = (k - (n + 1)) + 1 by omega] at this
      simpa using this
    · rcases Tr.get_set t b n k with ⟨e, rfl⟩ | e | ⟨e, hne⟩
      · rw [e]
        have := h1 (Nat.le_refl _) (by simp)
        simp at this
        subst this
        exact hb
      · rw [e]; exact .undef _
      · rw [e]
        exact h2 (by simp; omega)

theorem live_some {e : E} {b : AB} {o : Option Obj} (hb : BRel P m e b o) (hl : live b) : ∃ x, o = some x := by
  cases b with
  | dead => exact hl.elim
  | cells => obtain ⟨_, _, h1, _⟩ := hb; exact ⟨_, h1⟩
  | map => obtain ⟨_, h1, _⟩ := hb; exact ⟨_, h1⟩
  | siter => obtain ⟨_, h1, _⟩ := hb; exact ⟨_, h1⟩
  | loop => obtain ⟨_, h1, _⟩ := hb; exact ⟨_, h1⟩
theorem Inv.plen (I : Inv P m h nx w) {id : Pth} {e : E} (he : m id = some e) : id.plen = D := by
  obtain ⟨n, _, rfl⟩ := I.dom id e he
  exact plen_bid n
theorem Inv.lt (I : Inv P m h nx w) {id : Pth} {e : E} (he : m id = some e) (hl : live (h.get id)) : e.blk < w.heap.size := by
  obtain ⟨x, hx⟩ := live_some (I.blk id e he) hl
  exact (Array.getElem?_eq_some_iff.1 hx).1
theorem Inv.fresh (I : Inv P m h nx w) {n : Nat} (h1 : nx ≤ n) (h2 : n ≤ 32767) : m (bid n) = none := by
  cases hm : m (bid n) with
  | none => rfl
  | some e =>
    obtain ⟨k, hk, hb⟩ := I.dom _ e hm
    have := I.top
    have := bid_inj h2 (by omega) hb
    omega
/-- A map from names to blocks, with one more. -/
def Mp.ext (m : Mp) (n : Nat) (e : E) : Mp := fun id => if id = bid n then some e else m id
theorem Mp.ext_self (m : Mp) (n : Nat) (e : E) : m.ext n e (bid n) = some e := by simp [Mp.ext]
theorem Mp.ext_sub {m : Mp} {n : Nat} {e : E} (hn : m (bid n) = none) : Sub m (m.ext n e) := by
  intro id e' h
  unfold Mp.ext
  split
  · rename_i he; subst he; rw [hn] at h; cases h
  · exact h
def _root_.Go.World.more (w : World) (o : Obj) (d : Nat) : World := { w with heap := w.heap.push o, drawn := d }
theorem more_old {w : World} {o : Obj} {d r : Nat} (hr : r < w.heap.size) : (w.more o d).heap[r]? = w.heap[r]? := by
  show (w.heap.push o)[r]? = _
  rw [Array.getElem?_push_lt hr, Array.getElem?_eq_getElem hr]
theorem more_new {w : World} {o : Obj} {d : Nat} : (w.more o d).heap[w.heap.size]? = some o := by
  show (w.heap.push o)[w.heap.size]? = _
  simp
/-- One block more. -/
theorem Inv.more (I : Inv P m h nx w) (hn : nx ≤ 32767) {e : E} (he : e.blk = w.heap.size) (hro : e.ro = false) {b : AB} {o : Obj} {d : Nat} (hb : BRel P (m.ext nx e) e b (some o)) :
    Inv P (m.ext nx e) (TB.set (bid nx) b h) (nx + 1) (w.more o d) ∧ Fr m h nx w (m.ext nx e) (TB.set (bid nx) b h) (nx + 1) (w.more o d) := by
  have hf := I.fresh (Nat.le_refl _) hn
  have hs : Sub m (m.ext nx e) := Mp.ext_sub hf
  have hid : ∀ id e', m.ext nx e id = some e' → (id = bid nx ∧ e' = e) ∨ (id ≠ bid nx ∧ m id = some e') := by
    intro id e' h
    unfold Mp.ext at h
    split at h
    · rename_i hi; exact .inl ⟨hi, (Option.some.inj h).symm⟩
    · rename_i hi; exact .inr ⟨hi, h⟩
  have hg : ∀ id, id ≠ bid nx → id.plen = D → (TB.set (bid nx) b h).get id = h.get id := by
    intro id h1 h2
    rw [TB.get_set (by rw [h2, plen_bid]), if_neg h1]
  have hgn : (TB.set (bid nx) b h).get (bid nx) = b := by rw [TB.get_set rfl, if_pos rfl]
  refine ⟨⟨fun id e' h' => ?_, fun id id' e1 e2 h1 h2 l1 l2 hb' => ?_, fun id e' h' => ?_, by omega, by have := I.low; omega, fun g hg' => ?_, fun id e' h' hr => ?_, fun id e' h' => ?_⟩, ?_⟩
  · rcases hid id e' h' with ⟨rfl, rfl⟩ | ⟨h1, h2⟩
    · rw [hgn, he, more_new]; exact hb
    · rw [hg id h1 (I.plen h2)]
      have hB := I.blk id e' h2
      by_cases hl : live (h.get id)
      · rw [more_old (I.lt h2 hl)]; exact hB.mono P hs
      · cases hx : h.get id <;> rw [hx] at hl <;> first | trivial | exact absurd trivial hl
  · rcases hid id e1 h1 with ⟨rfl, rfl⟩ | ⟨k1, k2⟩ <;> rcases hid id' e2 h2 with ⟨rfl, rfl⟩ | ⟨k3, k4⟩
    · rfl
    · rw [hg id' k3 (I.plen k4)] at l2
      have := I.lt k4 l2
      omega
    · rw [hg id k1 (I.plen k2)] at l1
      have := I.lt k2 l1
      omega
    · rw [hg id k1 (I.plen k2)] at l1
      rw [hg id' k3 (I.plen k4)] at l2
      exact I.inj id id' e1 e2 k2 k4 l1 l2 hb'
  · rcases hid id e' h' with ⟨rfl, rfl⟩ | ⟨h1, h2⟩
    · exact ⟨nx, by omega, rfl⟩
    · obtain ⟨n, k1, k2⟩ := I.dom id e' h2
      exact ⟨n, by omega, k2⟩
  · obtain ⟨e', k1, k2⟩ := I.glob g hg'
    exact ⟨e', hs _ _ k1, k2⟩
  · rcases hid id e' h' with ⟨rfl, rfl⟩ | ⟨h1, h2⟩
    · rw [hro] at hr; cases hr
    · rw [hg id h1 (I.plen h2)]; exact I.ro id e' h2 hr
  · have hsz : (w.more o d).heap.size = w.heap.size + 1 := by show (w.heap.push o).size = _; simp
    rcases hid id e' h' with ⟨rfl, rfl⟩ | ⟨h1, h2⟩
    · omega
    · have := I.lim id e' h2; omega
  · refine ⟨hs, by omega, fun n hn' hm => ?_, rfl, rfl, rfl, ?_, fun r hr _ => more_old hr, fun r l hl => ⟨l, ?_⟩, fun id e' h1 h2 => ?_⟩
    · have hne : bid n ≠ bid nx := fun e => by have := bid_inj (by omega) hn e; omega
      exact ⟨by unfold Mp.ext; rw [if_neg hne]; exact hm, hg _ hne (plen_bid n)⟩
    · show w.heap.size ≤ (w.heap.push o).size
      simp
    · rw [more_old (Array.getElem?_eq_some_iff.1 hl).1]; exact hl
    · rcases hid id e' h1 with ⟨rfl, rfl⟩ | ⟨k1, k2⟩
      · exact .inl (by omega)
      · rw [h2] at k2; cases k2

/-- A new row of cells. -/
theorem row_new {e : E} {l : AV} {vs : List Value} (hl : VRels m l vs) (ho : ∀ v ∈ vs, v.oneCell' = true) {elem : TypeId} {rest : List Value} (hr : ∀ v ∈ rest, v.oneCell' = true) (hd : e.delta = 0) (hs : e.size = vs.length + rest.length) {fr : Nat × Nat} (hfr : ∀ o, o < e.size → ¬ (fr.1 ≤ o ∧ o < fr.2)) {fz : Nat} (hfz : 1 ≤ fz → fr.1 = fr.2) :
    Row m e fz elem 0 l.len (Tr.sets l 0 .leaf) (vs ++ rest).toArray fr := by
  have hlen := hl.len
  refine ⟨by simp [hs], by omega, by omega, one_all fun v hv => ?_, fun o h1 h2 => ?_, fun o h1 h2 h3 => ?_, fun h1 h2 => absurd (hfz h1) h2⟩
  · simp only [List.mem_toArray, List.mem_append] at hv
    exact hv.elim (ho v) (hr v)
  · obtain ⟨v, g1, g2⟩ := hl.nth h2
    refine ⟨v, by rw [hd]; simp [List.getElem?_append_left (show o < vs.length by omega), g1], ?_⟩
    exact sets_rel hl 0 .leaf o v (fun _ _ => by simpa using g1) (fun hc => by omega)
  · rw [hd]; exact hfr o (by omega)

theorem fin_make {s : Sem Value} {v' : Value} {w' : World} (hs : s.run P w = .ok v' w') : (do pure (Next.value (← s)) : Sem Next).run P w = .ok (.value v') w' := by simp [hs]
theorem newRow_run (w : World) (elem : TypeId) (cells : Array Value) : (newRow elem cells).run P w = .ok ⟨w.heap.size, 0, none⟩ (w.more (.cells cells elem) w.drawn) := rfl
theorem newVar_run (w : World) (t : TypeId) (v : Value) : (newVar t v).run P w = .ok ⟨w.heap.size, 0, none⟩ (w.more (.cells v.cells t) w.drawn) := rfl

/-- What is said of an operation that makes a block. -/
def Makes (P : Program) (m : Mp) (h : TB) (nx : Nat) (w : World) (v : AV) (b : AB) (v' : Value) (w' : World) : Prop :=
  ∃ e : E, e.blk = w.heap.size ∧ VRel (m.ext nx e) v v' ∧ Inv P (m.ext nx e) (TB.set (bid nx) b h) (nx + 1) w' ∧ Fr m h nx w (m.ext nx e) (TB.set (bid nx) b h) (nx + 1) w'
/-- .. whatever the block's name. -/
def Makes0 (P : Program) (m : Mp) (nx : Nat) (w : World) (v : AV) (b : AB) (v' : Value) (w' : World) : Prop :=
  ∃ (e : E) (o : Obj) (d : Nat), e.blk = w.heap.size ∧ e.ro = false ∧ w' = w.more o d ∧ VRel (m.ext nx e) v v' ∧ BRel P (m.ext nx e) e b (some o)

theorem zeros_get (l : List Value) (n : Nat) : (Array.range (n * l.length)).map (fun i => l.toArray[i % l.length]!) = ((List.replicate n l).flatten).toArray := by
  apply Array.toList_inj.1
  simp only [Array.toList_map, Array.toList_range]
  induction n with
  | zero => simp
  | succ n ih =>
    rw [List.replicate_succ', List.flatten_append, ← ih, Nat.succ_mul, List.range_add, List.map_append]
    congr 1
    rw [List.map_map]
    apply List.ext_getElem?
    intro i
    by_cases hi : i < l.length
    · have h1 : (n * l.length + i) % l.length = i := by rw [Nat.mul_comm, Nat.mul_add_mod, Nat.mod_eq_of_lt hi]
      simp [hi, h1]
    · simp [List.getElem?_eq_none (Nat.le_of_not_lt hi), hi]

theorem make0_cells (hf : m (bid nx) = none) {l : AV} {vs rest : List Value} (hl : VRels m l vs) (ho : ∀ v ∈ vs, v.oneCell' = true) (hr : ∀ v ∈ rest, v.oneCell' = true) {elem : TypeId} {fr : Nat × Nat}
    (hfr : ∀ o, o < vs.length + rest.length → ¬ (fr.1 ≤ o ∧ o < fr.2)) {d : Nat} {v : AV} {v' : Value} {hi : Nat} (hhi : hi = l.len)
    (hval : ∀ m' : Mp, m' (bid nx) = some ⟨w.heap.size, 0, vs.length + rest.length, false⟩ → VRel m' v v') (fz : Nat := 1) (hfz : 1 ≤ fz → fr.1 = fr.2 := by intro _; rfl) :
    Makes0 P m nx w v (.cells fz elem 0 hi (Tr.sets l 0 .leaf)) v' (w.more (.cells (vs ++ rest).toArray elem fr) d) := by
  subst hhi
  refine ⟨⟨w.heap.size, 0, vs.length + rest.length, false⟩, _, d, rfl, rfl, rfl, hval _ (Mp.ext_self _ _ _), ?_⟩
  exact ⟨_, _, rfl, row_new (hl.mono (Mp.ext_sub hf)) ho hr rfl rfl hfr hfz⟩
theorem makes_cells (I : Inv P m h nx w) (hn : nx ≤ 32767) {l : AV} {vs rest : List Value} (hl : VRels m l vs) (ho : ∀ v ∈ vs, v.oneCell' = true) (hr : ∀ v ∈ rest, v.oneCell' = true) {elem : TypeId} {fr : Nat × Nat}
    (hfr : ∀ o, o < vs.length + rest.length → ¬ (fr.1 ≤ o ∧ o < fr.2)) {d : Nat} {v : AV} {v' : Value} {hi : Nat} (hhi : hi = l.len)
    (hval : ∀ m' : Mp, m' (bid nx) = some ⟨w.heap.size, 0, vs.length + rest.length, false⟩ → VRel m' v v') (fz : Nat := 1) (hfz : 1 ≤ fz → fr.1 = fr.2 := by intro _; rfl) :
    Makes P m h nx w v (.cells fz elem 0 hi (Tr.sets l 0 .leaf)) v' (w.more (.cells (vs ++ rest).toArray elem fr) d) := by
  obtain ⟨e, o', d', h2, h3, h0, h4, h5⟩ := make0_cells (P := P) (d := d) (w := w) (I.fresh (Nat.le_refl _) hn) hl ho hr hfr hhi hval fz hfz
  rw [h0]
  exact ⟨e, h2, h4, I.more hn h2 h3 h5⟩
theorem cut_cap (need old : Nat) (elem : TypeId) (t : Nat) (hn : need ≤ 4611686018427387904) : need ≤ Question.cut (.appendCap need old elem) t ∧ Question.cut (.appendCap need old elem) t ≤ maxInt := by
  show need ≤ need + t % (2 ^ 63 - need) ∧ need + t % (2 ^ 63 - need) ≤ maxInt
  have : t % (2 ^ 63 - need) < 2 ^ 63 - need := Nat.mod_lt _ (by omega)
  simp only [maxInt]
  omega
theorem bytesL_rel (l : List UInt8) : ∀ (f i : Nat), i + f ≤ l.length → VRels m (bytesL (packL l) f i) (((l.drop i).take f).map fun b => Value.int .u8 (b.toNat : Int)) := by
  intro f
  induction f with
  | zero => intro i _; simp; exact .nil
  | succ f ih =>
    intro i hi
    have e : (l.drop i).take (f + 1) = l[i]'(by omega) :: (l.drop (i + 1)).take f := by
      rw [List.drop_eq_getElem_cons (by omega), List.take_succ_cons]
    rw [e, List.map_cons]
    show VRels m (.cs (.int .u8 (.ofNat (byteAt (packL l) i))) (bytesL (packL l) f (Nat.succ i))) _
    rw [byteAt_lt (by omega)]
    exact .cons _ _ _ _ (.int _ _) (ih (i + 1) (by omega))
theorem freeze_more {w : World} {cs : Array Value} {elem : TypeId} {d n : Nat} : (w.more (.cells cs elem (0, 0)) d).freeze ⟨w.heap.size, n, none⟩ 1 = w.more (.cells cs elem (n, n + 1)) d := by
  unfold World.freeze World.more
  simp only [Nat.succ_ne_zero, if_false, World.mk.injEq, and_true]
  apply Array.ext
  · simp
  · intro i h1 h2
    simp only [Array.size_modify, Array.size_push] at h1
    rw [Array.getElem_modify]
    by_cases hi : w.heap.size = i
    · subst hi; simp
    · rw [if_neg hi, Array.getElem_push_lt (by omega), Array.getElem_push_lt (by omega)]

theorem cellTr_some {v : AV} {q : Nat × Tr} (hq : cellTr v = some q) : ∃ l, v.cells = some l ∧ q = (l.len, Tr.sets l 0 .leaf) := by
  cases v with
  | agg l => exact ⟨l, rfl, (Option.some.inj hq).symm⟩
  | undef | nl | cs _ _ | tuple _ => cases (show (none : Option (Nat × Tr)) = some q from hq)
  | bool _ | int _ _ | icap _ | aint | ilt _ | text _ _ | str _ _ | ptr _ _ | nilptr | slice _ _ _ _ _ _ | nilslice | map _ | nilmap | func _ _ _ | yield _ | nilfunc | iface _ _ | nilIface => exact ⟨_, rfl, (Option.some.inj hq).symm⟩

theorem fev_cls {ao : AOp} {z : TV} {id : Pth} {q : AV × AB} (h : fev ao z id = some q) : ao.cls = 1 := by
  cases ao <;> first | rfl | (cases (show (none : Option (AV × AB)) = some q from h))

set_option maxHeartbeats 2000000 in
theorem fev_make (hmf : m (bid nx) = none) {o : Oper} {ao : AOp} {v : AV} {b : AB} (hc : cOp P nt o = some ao) (hO : OpsRel m nt z a o.op.operands) (hv : fev ao z (bid nx) = some (v, b)) :
    ∃ v' w', (execOp a.eval o).run P w = .ok (.value v') w' ∧ Makes0 P m nx w v b v' w' := by
  have noF : ∀ {q : AV × AB} {p : Prop}, (none : Option (AV × AB)) = some q → p := fun h => by cases h
  obtain ⟨dst, op, ty, pos, after, guard⟩ := o
  cases op with
  | alloc e =>
    simp only [cOp_eq, cOpS, Option.bind_eq_bind, Option.bind_eq_some_iff, Option.some.injEq] at hc
    obtain ⟨zc, hz, rfl⟩ := hc
    obtain ⟨rfl, rfl⟩ : AV.ptr (bid nx) 0 = v ∧ _ = b := by simpa using Option.some.inj hv
    obtain ⟨zv, hz1, hz2, hz3⟩ := zeroCells_run hz
    refine ⟨.pointer (some ⟨w.heap.size, 0, none⟩), w.more (.cells zv.cells e) w.drawn, fin_make ?_, ?_⟩
    · simp only [Instr.alloc, Sem.run_bind, hz1, Result.andThen_ok, newVar_run, Sem.run_pure]
    · have := make0_cells (P := P) (elem := e) (fr := (0, 0)) (d := w.drawn) (rest := []) (v := .ptr (bid nx) 0) (v' := .pointer (some ⟨w.heap.size, 0, none⟩)) hmf (hz2 m) hz3 (by simp) (by intro o _; simp) rfl (fun m' hm' => .ptr _ _ _ hm' (Nat.le_refl _))
      simpa using this
  | box e x =>
    simp only [cOp_eq, cOpS, Option.bind_eq_bind, Option.bind_eq_some_iff, Option.some.injEq] at hc
    obtain ⟨p, hp, rfl⟩ := hc
    have h1 := hO x (by simp [Op.operands]) p hp
    obtain ⟨q, hq, hv⟩ := Option.map_eq_some_iff.1 (show (cellTr (p.ev z)).map _ = some (v, b) from hv)
    obtain ⟨rfl, rfl⟩ : AV.ptr (bid nx) 0 = v ∧ AB.cells 1 e 0 q.1 q.2 = b := by simpa using hv
    have hcell := cellTr_some hq
    obtain ⟨l, hl, rfl⟩ := hcell
    obtain ⟨k1, k2⟩ := h1.cells hl
    refine ⟨.pointer (some ⟨w.heap.size, 0, none⟩), w.more (.cells (a.eval x).cells e) w.drawn, fin_make ?_, ?_⟩
    · simp only [Instr.box, Sem.run_bind, newVar_run, Result.andThen_ok, Sem.run_pure]
    · have := make0_cells (P := P) (elem := e) (fr := (0, 0)) (d := w.drawn) (rest := []) (v := .ptr (bid nx) 0) (v' := .pointer (some ⟨w.heap.size, 0, none⟩)) hmf k1 k2 (by simp) (by intro o _; simp) rfl (fun m' hm' => .ptr _ _ _ hm' (Nat.le_refl _))
      simpa using this
  | buildSlice t n ps =>
    simp only [cOp_eq, cOpS, Option.bind_eq_bind, Option.bind_eq_some_iff] at hc
    obtain ⟨el, hel, j, hj, zc, hz, hc⟩ := hc
    split at hc
    · rename_i hcond
      simp only [Bool.and_eq_true, decide_eq_true_eq, Bool.or_eq_true, beq_iff_eq] at hcond
      obtain ⟨c1, c2, c3⟩ := hcond
      simp only [Option.bind_eq_some_iff, Option.some.injEq] at hc
      obtain ⟨l, hl, rfl⟩ := hc
      obtain ⟨c, hf, hv⟩ := Option.map_eq_some_iff.1 (show (l.fill z (zc.reps n)).map _ = some (v, b) from hv)
      obtain ⟨rfl, rfl⟩ : AV.slice (bid nx) 0 n n true j.size = v ∧ AB.cells 1 el 0 (Nat.mul n j.size) (Tr.sets c 0 .leaf) = b := by simpa using hv
      have hops : ∀ p ∈ ps.toList, ∀ x, cO nt p.2 = some x → VRel m (x.ev z) (a.eval p.2) := fun p hp x hx => hO p.2 (by
        simp only [Op.operands, List.mem_toArray, List.mem_map]
        exact ⟨p, hp, rfl⟩) x hx
      have hmap : (ps.map fun x => (x.1, a.eval x.2)).toList = ps.toList.map fun p => (p.1, a.eval p.2) := by simp
      have ht : P.underlying t = some (.slice el) := by
        unfold isSliceOf at hel
        simp only [Option.bind_eq_bind, Option.bind_eq_some_iff] at hel
        obtain ⟨d, hd, hel⟩ := hel
        split at hel
        · obtain rfl := Option.some.inj hel; exact hd
        · cases hel
      -- the zeros
      have hzero : ∃ zs : List Value, (∀ w : World, (if n * j.size = 0 then (pure #[] : Sem (Array Value)) else do pure (← zeroValue el).cells).run P w = .ok zs.toArray w) ∧ VRels m zc zs ∧ (∀ v ∈ zs, v.oneCell' = true) ∧ (n * j.size ≠ 0 → zs.length = j.size) := by
        unfold rowZero at hz
        split at hz
        · rename_i h0
          obtain rfl := Option.some.inj hz
          exact ⟨[], fun w => by rw [if_pos h0]; rfl, .nil, (by simp), fun h => absurd h0 h⟩
        · rename_i h0
          obtain ⟨zv, hz1, hz2, hz3⟩ := zeroCells_run hz
          refine ⟨zv.cells.toList, fun w => ?_, hz2 m, hz3, fun _ => ?_⟩
          · rw [if_neg h0]; simp [hz1]
          · rcases c3 with c3 | c3
            · exact absurd c3 h0
            · rw [← (hz2 m).len, c3]
      obtain ⟨zs, z1, z2, z3, z4⟩ := hzero
      have hrep : (Array.range (n * j.size)).map (fun i => zs.toArray[i % zs.toArray.size]!) = ((List.replicate n zs).flatten).toArray := by
        by_cases h0 : n * j.size = 0
        · rw [h0]
          have : (List.replicate n zs).flatten = [] := by
            unfold rowZero at hz
            rw [if_pos h0] at hz
            obtain rfl := Option.some.inj hz
            cases z2
            simp
          rw [this]; simp
        · have := z4 h0
          rw [← this]
          exact zeros_get zs n
      have hreps := z2.reps n
      have hrepo : ∀ v ∈ (List.replicate n zs).flatten, v.oneCell' = true := by
        intro v hv
        obtain ⟨l', h1, h2⟩ := List.mem_flatten.1 hv
        rw [(List.mem_replicate.1 h1).2] at h2
        exact z3 v h2
      obtain ⟨cells', g1, g2, g3, g4⟩ := fill_run ps.toList l (zc.reps n) _ c hl hops hreps hrepo hf
      have hlen : cells'.length = n * j.size := by
        rw [g4]
        have := congrArg Array.size hrep
        simpa using this.symm
      refine ⟨.slice (some ⟨w.heap.size, 0, none⟩) n n, w.more (.cells cells'.toArray el) w.drawn, fin_make ?_, ?_⟩
      · have g1' : Instr.fill (fun i => some (i * j.size, j.size)) ((Array.range (n * j.size)).map (fun i => zs.toArray[i % zs.toArray.size]!)) (ps.map fun x => (x.1, a.eval x.2)).toList = some cells'.toArray := by rw [hmap, hrep]; exact g1
        simp only [Instr.buildSlice, Sem.run_bind, run_underlying ht, Result.andThen_ok, size_run hj]
        rw [if_neg (by omega)]
        have zz := z1 w
        by_cases h0 : n * j.size = 0
        · rw [if_pos h0] at zz ⊢
          have e0 : (#[] : Array Value) = zs.toArray := by simpa using zz
          simp only [Sem.run_bind, Sem.run_pure, Result.andThen_ok]
          rw [e0]
          simp only [g1', Sem.run_bind, newRow_run, Result.andThen_ok, Sem.run_pure]
        · rw [if_neg h0] at zz ⊢
          simp only [Sem.run_bind, Sem.run_pure] at zz
          cases hzv : (zeroValue el).run P w with
          | halt x w' => rw [hzv] at zz; cases zz
          | ok zv w' =>
            rw [hzv] at zz
            simp only [Result.andThen_ok, Result.ok.injEq] at zz
            obtain ⟨e1, rfl⟩ := zz
            simp only [Sem.run_bind, hzv, Sem.run_pure, Result.andThen_ok, e1]
            simp only [g1', Sem.run_bind, newRow_run, Result.andThen_ok, Sem.run_pure]
      · have := make0_cells (P := P) (elem := el) (fr := (0, 0)) (d := w.drawn) (rest := []) (v := .slice (bid nx) 0 n n true j.size) (v' := .slice (some ⟨w.heap.size, 0, none⟩) n n) (hi := Nat.mul n j.size) hmf g2 g3 (by simp) (by intro o _; simp) (by rw [g2.len, hlen]; rfl)
          (fun m' hm' => .slice _ _ _ _ _ _ _ _ _ hm' (Nat.le_refl _) (Nat.le_refl _) (Nat.le_refl _) (by simp [maxInt]; omega) (fun _ => rfl) (by simp [hlen]) (fun _ => rfl))
        simpa using this
    · cases hc
  | convert s d x =>
    simp only [cOp_eq, cOpS, Option.bind_eq_bind, Option.bind_eq_some_iff] at hc
    obtain ⟨p, hp, ds, hs, dd, hd, hc⟩ := hc
    have h1 := hO x (by simp [Op.operands]) p hp
    split at hc
    · obtain rfl := Option.some.inj hc; exact noF hv
    · obtain rfl := Option.some.inj hc; exact noF hv
    · simp only [Option.bind_eq_some_iff] at hc
      obtain ⟨de, he, hc⟩ := hc
      split at hc
      · rename_i e hcx
        obtain rfl := Option.some.inj hc
        replace hv : fS2b e p z (bid nx) = some (v, b) := hv
        unfold fS2b at hv
        split at hv
        · rename_i len n hp'
          cases hlen : Nat.ble len 4611686018427387904 with
          | false => rw [hlen] at hv; exact noF hv
          | true =>
            rw [hlen] at hv
            rw [nble_iff] at hlen
            obtain ⟨rfl, rfl⟩ : AV.slice (bid nx) 0 len len false 1 = v ∧ _ = b := by simpa using Option.some.inj hv
            rw [hp'] at h1
            generalize hu : a.eval x = u at h1
            cases h1 with | str s0 =>
            have hsz : s0.size = s0.data.toList.length := (Array.length_toList).symm
            obtain ⟨q1, q2⟩ := cut_cap s0.size 0 e (w.tape w.drawn (.appendCap s0.size 0 e)) (by rw [hsz]; exact hlen)
            generalize hcap : Question.cut (.appendCap s0.size 0 e) (w.tape w.drawn (.appendCap s0.size 0 e)) = cap at q1 q2
            have hrel := bytesL_rel (m := m) s0.data.toList s0.data.toList.length 0 (by omega)
            simp only [List.drop_zero, List.take_length] at hrel
            refine ⟨.slice (some ⟨w.heap.size, 0, none⟩) s0.size cap, w.more (.cells ((s0.data.toList.map fun (b : UInt8) => Value.int .u8 (b.toNat : Int)) ++ List.replicate (cap - s0.size) (Value.int .u8 0)).toArray e (cap, cap + 1)) (w.drawn + 1), fin_make ?_, ?_⟩
            · rw [hu]
              have hcells : (s0.data.map (fun (b : UInt8) => Value.int .u8 (b.toNat : Int)) ++ Array.replicate (cap - s0.size) (Value.int .u8 0)) = ((s0.data.toList.map fun (b : UInt8) => Value.int .u8 (b.toNat : Int)) ++ List.replicate (cap - s0.size) (Value.int .u8 0)).toArray := by
                apply Array.toList_inj.1; simp
              have hcs : ((s0.data.toList.map fun (b : UInt8) => Value.int .u8 (b.toNat : Int)) ++ List.replicate (cap - s0.size) (Value.int .u8 0)).toArray.size = cap := by simp; omega
              simp only [convert, Sem.run_bind, run_underlying hs, run_underlying hd, run_underlying he, Result.andThen_ok, Conv.stringToBytes, run_choose, Question.forced, Bool.false_eq_true, if_false, hcap, hcells, newRow_run]
              have hsh : World.shape? ({ w with drawn := w.drawn + 1 }.more (.cells ((s0.data.toList.map fun (b : UInt8) => Value.int .u8 (b.toNat : Int)) ++ List.replicate (cap - s0.size) (Value.int .u8 0)).toArray e (0, 0)) (w.drawn + 1)) w.heap.size = some (e, cap) := by
                unfold World.shape?
                have := more_new (w := { w with drawn := w.drawn + 1 }) (o := .cells ((s0.data.toList.map fun (b : UInt8) => Value.int .u8 (b.toNat : Int)) ++ List.replicate (cap - s0.size) (Value.int .u8 0)).toArray e (0, 0)) (d := w.drawn + 1)
                rw [this]
                simp only [hcs]
              simp only [markStringish, Sem.run_bind, run_shape, Result.andThen_ok, hsh, run_freeze, Sem.run_pure]
              congr 1
              exact freeze_more (w := { w with drawn := w.drawn + 1 })
            · refine make0_cells (P := P) (hi := s0.data.toList.length) hmf hrel (by simp [Value.oneCell']) (by simp [Value.oneCell']) (fun o ho => ?_) (by rw [hrel.len]; simp) (fun m' hm' => ?_) 0 (fun h => by omega)
              · simp only [List.length_map, List.length_replicate] at ho
                omega
              · refine .slice _ _ _ _ _ _ _ _ _ hm' (Nat.le_refl _) q1 (by omega) q2 (fun h => by cases h) ?_ (fun _ => rfl)
                simp
                omega
        · exact noF hv
      · cases hc
    · simp only [Option.bind_eq_some_iff] at hc
      obtain ⟨de, he, hc⟩ := hc
      split at hc
      · obtain rfl := Option.some.inj hc; exact noF hv
      · cases hc
    · simp only [Option.bind_eq_some_iff] at hc
      obtain ⟨j, hj, hc⟩ := hc
      split at hc
      · obtain rfl := Option.some.inj hc; exact noF hv
      · cases hc
    · simp only [Option.bind_eq_some_iff] at hc
      obtain ⟨j, hj, hc⟩ := hc
      split at hc
      · obtain rfl := Option.some.inj hc; exact noF hv
      · cases hc
    · cases hc
  | makeMap t r =>
    have main : ∀ {k e : TypeId}, P.underlying t = some (.map k e) → ao = .mkmap → ((Instr.makeMap t (r.map a.eval)).run P w = .ok (.map (some w.heap.size)) (w.more (.map #[] 0) w.drawn)) →
        ∃ v' w', (execOp a.eval ⟨dst, .makeMap t r, ty, pos, after, guard⟩).run P w = .ok (.value v') w' ∧ Makes0 P m nx w v b v' w' := by
      intro k e _ he hrun
      subst he
      obtain ⟨rfl, rfl⟩ : AV.map (bid nx) = v ∧ AB.map .nil 0 = b := by simpa using Option.some.inj hv
      refine ⟨_, _, fin_make hrun, ⟨w.heap.size, 0, 0, false⟩, _, _, rfl, rfl, rfl, .map _ _ (Mp.ext_self _ _ _), ⟨#[], rfl, .nil⟩⟩
    cases r with
    | none =>
      simp only [cOp_eq, cOpS, Option.bind_eq_bind, Option.bind_eq_some_iff] at hc
      obtain ⟨d, hd, hc⟩ := hc
      split at hc
      · exact main hd (Option.some.inj hc).symm (by simp only [Instr.makeMap, Option.map_none, Sem.run_bind, Sem.run_pure, Result.andThen_ok]; rfl)
      · cases hc
    | some r =>
      cases r with
      | const c =>
        cases c with
        | int k n =>
          simp only [cOp_eq, cOpS, Option.bind_eq_bind, Option.bind_eq_some_iff] at hc
          obtain ⟨d, hd, hc⟩ := hc
          split at hc
          · refine main hd (Option.some.inj hc).symm ?_
            simp only [Instr.makeMap, Option.map_some, Sem.run_bind, run_underlying hd, Result.andThen_ok, asInt, asIntOf, Act.eval, Sem.run_pure]
            rfl
          · cases hc
        | _ => simp [cOp_eq, cOpS] at hc
      | _ => simp [cOp_eq, cOpS] at hc
  | makeSlice t l c =>
    simp only [cOp_eq, cOpS, Option.bind_eq_bind, Option.bind_eq_some_iff] at hc
    obtain ⟨el, hel, j, hj, zc, hz, hc⟩ := hc
    split at hc
    · rename_i hzl
      simp only [Option.bind_eq_some_iff, Option.some.injEq] at hc
      obtain ⟨p, hp, q, hq, rfl⟩ := hc
      have h1 := hO l (by simp [Op.operands]) p hp
      have h2 := hO c (by simp [Op.operands]) q hq
      have ht : P.underlying t = some (.slice el) := by
        unfold isSliceOf at hel
        simp only [Option.bind_eq_bind, Option.bind_eq_some_iff] at hel
        obtain ⟨d, hd, hel⟩ := hel
        split at hel
        · obtain rfl := Option.some.inj hel; exact hd
        · cases hel
      obtain ⟨zv, hz1, hz2, hz3⟩ := zeroCells_run hz
      have hzl' : zv.cells.toList.length = j.size := by rw [← (hz2 m).len]; simpa using hzl
      replace hv : fMkslice el j.size j.bytes zc p q z (bid nx) = some (v, b) := hv
      unfold fMkslice at hv
      split at hv
      · rename_i nl nc hnl hnc
        cases hcond : (Nat.ble nl nc && Nat.ble (Nat.mul nc (Nat.succ j.bytes)) 281474976710656) with
        | false => rw [hcond] at hv; exact noF hv
        | true =>
          rw [hcond] at hv
          rw [and_true', nble_iff, nble_iff] at hcond
          obtain ⟨k1, k2⟩ := hcond
          replace k2 : nc * (j.bytes + 1) ≤ 281474976710656 := k2
          obtain ⟨rfl, rfl⟩ : AV.slice (bid nx) 0 nl nc true j.size = v ∧ AB.cells 1 el 0 (Nat.mul nc j.size) (Tr.sets (zc.reps nc) 0 .leaf) = b := by simpa using Option.some.inj hv
          obtain ⟨ka, ea⟩ := natOf_some hnl
          obtain ⟨kb, eb⟩ := natOf_some hnc
          rw [ea] at h1
          rw [eb] at h2
          have f1 := h1.int_inv
          have f2 := h2.int_inv
          have hnc1 : nc ≤ 281474976710656 := Nat.le_trans (Nat.le_mul_of_pos_right nc (Nat.succ_pos _)) k2
          have hbc : j.bytes * nc ≤ 281474976710656 := by
            rw [Nat.mul_add, Nat.mul_one] at k2
            rw [Nat.mul_comm]; omega
          have w1 : IntKind.i64.wrap (Int.ofNat nl) = (nl : Int) := wrap_id .i64 nl (by simp [maxN]; omega)
          have w2 : IntKind.i64.wrap (Int.ofNat nc) = (nc : Int) := wrap_id .i64 nc (by simp [maxN]; omega)
          have hreps := (hz2 m).reps nc
          have hrepo : ∀ v ∈ (List.replicate nc zv.cells.toList).flatten, v.oneCell' = true := by
            intro v hv
            obtain ⟨l', h1, h2⟩ := List.mem_flatten.1 hv
            rw [(List.mem_replicate.1 h1).2] at h2
            exact hz3 v h2
          have hflen : (List.replicate nc zv.cells.toList).flatten.length = nc * j.size := by simp [hzl']
          have hrow : (if nc * j.size = 0 then (pure #[] : Sem (Array Value)) else do pure (← zeroValue el).cells).run P w = .ok (if nc * j.size = 0 then #[] else zv.cells) w := by
            split
            · rfl
            · simp [hz1]
          have hcells : (Array.range (nc * j.size)).map (fun i => (if nc * j.size = 0 then #[] else zv.cells)[i % (if nc * j.size = 0 then #[] else zv.cells).size]!) = ((List.replicate nc zv.cells.toList).flatten).toArray := by
            split
            · rename_i h0
              rw [h0]
              have : (List.replicate nc zv.cells.toList).flatten = [] := List.length_eq_zero_iff.1 (by rw [hflen]; exact h0)
              rw [this]; simp
            · have := zeros_get zv.cells.toList nc
              rw [hzl'] at this
              have e : zv.cells.size = j.size := by rw [← hzl']; simp
              rw [e]
              simpa using this
          refine ⟨.slice (some ⟨w.heap.size, 0, none⟩) nl nc, w.more (.cells ((List.replicate nc zv.cells.toList).flatten).toArray el) w.drawn, fin_make ?_, ?_⟩
          · rw [f1, f2]
            simp only [Instr.makeSlice, Sem.run_bind, run_underlying ht, Result.andThen_ok, asInt, asIntOf, Sem.run_pure, info_run hj, w1, w2]
            have c1 : (decide ((nc : Int) < 0) || decide ((j.bytes : Int) * nc > 2 ^ 48)) = false := by
              rw [Bool.or_eq_false_iff, decide_eq_false_iff_not, decide_eq_false_iff_not]
              refine ⟨by omega, ?_⟩
              have : ((j.bytes : Int) * nc) = ((j.bytes * nc : Nat) : Int) := by push_cast; rfl
              rw [this]
              omega
            have c2 : ((decide ((nc : Int) < 0) || decide ((j.bytes : Int) * nc > 2 ^ 48)) || decide ((nl : Int) < 0) || decide ((nl : Int) > nc)) = false := by
              rw [c1, Bool.or_eq_false_iff, Bool.or_eq_false_iff, decide_eq_false_iff_not, decide_eq_false_iff_not]
              exact ⟨⟨rfl, by omega⟩, by omega⟩
            simp only [c2, Bool.false_eq_true, if_false, Sem.run_bind, run_askRoom, Result.andThen_ok, size_run hj, Int.toNat_natCast]
            by_cases h0 : nc * j.size = 0
            · rw [if_pos h0]
              rw [if_pos h0] at hcells
              simp only [Sem.run_bind, Sem.run_pure, Result.andThen_ok, hcells, newRow_run]
            · rw [if_neg h0]
              rw [if_neg h0] at hcells
              simp only [Sem.run_bind, hz1, Sem.run_pure, Result.andThen_ok, hcells, newRow_run]
          · have := make0_cells (P := P) (elem := el) (fr := (0, 0)) (d := w.drawn) (rest := []) (v := .slice (bid nx) 0 nl nc true j.size) (v' := .slice (some ⟨w.heap.size, 0, none⟩) nl nc) (hi := Nat.mul nc j.size) hmf hreps hrepo (by simp) (by intro o _; simp) (by rw [hreps.len, hflen]; rfl)
              (fun m' hm' => .slice _ _ _ _ _ _ _ _ _ hm' (Nat.le_refl _) k1 (Nat.le_refl _) (by simp [maxInt]; omega) (fun _ => rfl) (by rw [hflen]; simp) (fun _ => rfl))
            simpa using this
      · exact noF hv
    · cases hc
  | range t x =>
    simp only [cOp_eq, cOpS, Option.bind_eq_bind, Option.bind_eq_some_iff] at hc
    obtain ⟨d, hd, hc⟩ := hc
    split at hc
    · obtain ⟨p, hp, rfl⟩ := Option.map_eq_some_iff.1 hc
      have h1 := hO x (by simp [Op.operands]) p hp
      replace hv : fRng p z (bid nx) = some (v, b) := hv
      unfold fRng at hv
      split at hv
      · rename_i len n hp'
        obtain ⟨rfl, rfl⟩ : AV.ptr (bid nx) 0 = v ∧ AB.siter len n 0 = b := by simpa using Option.some.inj hv
        rw [hp'] at h1
        generalize hu : a.eval x = u at h1
        cases h1 with | str s0 =>
        refine ⟨.pointer (some ⟨w.heap.size, 0, none⟩), w.more (.stringIter s0 0) w.drawn, fin_make ?_, ⟨w.heap.size, 0, 0, false⟩, _, _, rfl, rfl, rfl, ?_, ⟨s0, rfl, rfl, rfl⟩⟩
        · rw [hu]
          simp only [Instr.range, Sem.run_bind, run_underlying hd, Result.andThen_ok, Sem.run_pure]
          rfl
        · exact .ptr _ _ ⟨w.heap.size, 0, 0, false⟩ (Mp.ext_self _ _ _) (Nat.le_refl _)
      · exact noF hv
    · cases hc
  | move x => obtain ⟨p, hp, rfl⟩ := Option.map_eq_some_iff.1 hc; exact noF hv
  | assign x => obtain ⟨p, hp, rfl⟩ := Option.map_eq_some_iff.1 hc; exact noF hv
  | pick c x y => simp only [cOp_eq, cOpS, Option.bind_eq_bind, Option.bind_eq_some_iff, Option.some.injEq] at hc; obtain ⟨_, _, _, _, _, _, rfl⟩ := hc; exact noF hv
  | build t ps =>
    simp only [cOp_eq, cOpS, Option.bind_eq_bind, Option.bind_eq_some_iff] at hc
    obtain ⟨zc, hz, d, hd, hc⟩ := hc
    split at hc
    · simp only [Option.bind_eq_some_iff, Option.some.injEq] at hc
      obtain ⟨_, _, _, _, rfl⟩ := hc
      exact noF hv
    · simp only [Option.bind_eq_some_iff, Option.some.injEq] at hc
      obtain ⟨_, _, _, _, rfl⟩ := hc
      exact noF hv
    · cases hc
  | load t x =>
    simp only [cOp_eq, cOpS, Option.bind_eq_bind, Option.bind_eq_some_iff, Option.some.injEq] at hc
    obtain ⟨⟨n, agg⟩, ht, p, hp, rfl⟩ := hc
    cases agg <;> exact noF hv
  | nilCheck x => obtain ⟨p, hp, rfl⟩ := Option.map_eq_some_iff.1 hc; exact noF hv
  | binOp op t x y ty' =>
    simp only [cOp_eq, cOpS, Option.bind_eq_bind, Option.bind_eq_some_iff] at hc
    obtain ⟨p, hp, q, hq, d, hd, hc⟩ := hc
    have eqs : ∀ (n : Bool) (op : BinOp) (lit : Bool), cEq P t d op n p q lit = some ao → ao.cls = 0 := by
      intro n op lit hc
      unfold cEq at hc
      split at hc
      · obtain rfl := Option.some.inj hc; rfl
      · obtain rfl := Option.some.inj hc; rfl
      · obtain rfl := Option.some.inj hc; rfl
      · simp only [Option.bind_eq_bind, Option.bind_eq_some_iff] at hc
        obtain ⟨_, _, hc⟩ := hc
        split at hc
        · obtain rfl := Option.some.inj hc; rfl
        · cases hc
      · obtain rfl := Option.some.inj hc; rfl
      · obtain rfl := Option.some.inj hc; rfl
      · obtain rfl := Option.some.inj hc; rfl
      · split at hc
        · obtain rfl := Option.some.inj hc; rfl
        · cases hc
      · split at hc
        · obtain ⟨_, _, rfl⟩ := Option.map_eq_some_iff.1 hc; rfl
        · cases hc
      · split at hc
        · obtain ⟨_, _, rfl⟩ := Option.map_eq_some_iff.1 hc; rfl
        · cases hc
      · cases hc
    have h0 : ao.cls = 0 := by
      cases op
      case eql => exact eqs _ _ _ hc
      case neq => exact eqs _ _ _ hc
      all_goals
        (simp only at hc
         split at hc
         · obtain rfl := Option.some.inj hc; rfl
         · obtain rfl := Option.some.inj hc; rfl
         · cases hc)
    exact absurd h0 (by rw [fev_cls hv]; decide)
  | unOp op t x => obtain ⟨p, hp, rfl⟩ := Option.map_eq_some_iff.1 hc; exact noF hv
  | makeInterface t x =>
    simp only [cOp_eq, cOpS, Option.bind_eq_bind, Option.bind_eq_some_iff] at hc
    obtain ⟨d, hd, hc⟩ := hc
    split at hc
    · cases hc
    · simp only [Option.bind_eq_some_iff, Option.some.injEq] at hc
      obtain ⟨p, hp, rfl⟩ := hc
      exact noF hv
  | makeFunc f xs ys =>
    cases f with
    | func f =>
      simp only [cOp_eq, cOpS] at hc
      split at hc
      · simp only [Option.bind_eq_bind, Option.bind_eq_some_iff, Option.some.injEq] at hc
        obtain ⟨p, hp, q, hq, rfl⟩ := hc
        exact noF hv
      · cases hc
    | _ => simp [cOp_eq, cOpS] at hc
  | slice t x lo up mx =>
    simp only [cOp_eq, cOpS, Option.bind_eq_bind, Option.bind_eq_some_iff] at hc
    obtain ⟨p, hp, l, hl, u, hu, q, hq, d, hd, hc⟩ := hc
    split at hc
    · split at hc
      · obtain rfl := Option.some.inj hc; exact noF hv
      · cases hc
    · simp only [Option.bind_eq_some_iff, Option.some.injEq] at hc
      obtain ⟨i, hi, rfl⟩ := hc
      exact noF hv
    · simp only [Option.bind_eq_some_iff] at hc
      obtain ⟨i, hi, hc⟩ := hc
      split at hc
      · obtain rfl := Option.some.inj hc; exact noF hv
      · cases hc
    · cases hc
  | fieldAddr t x f =>
    simp only [cOp_eq, cOpS, Option.bind_eq_bind, Option.bind_eq_some_iff] at hc
    obtain ⟨d, hd, hc⟩ := hc
    split at hc
    · simp only [Option.bind_eq_some_iff] at hc
      obtain ⟨fd, hf, j, hj, hc⟩ := hc
      split at hc
      · simp only [Option.bind_eq_some_iff, Option.some.injEq] at hc
        obtain ⟨p, hp, rfl⟩ := hc
        exact noF hv
      · cases hc
    · cases hc
  | field t x f =>
    simp only [cOp_eq, cOpS, Option.bind_eq_bind, Option.bind_eq_some_iff] at hc
    obtain ⟨d, hd, hc⟩ := hc
    split at hc
    · simp only [Option.bind_eq_some_iff, Option.some.injEq] at hc
      obtain ⟨fd, hf, ⟨n, agg⟩, ht, p, hp, rfl⟩ := hc
      exact noF hv
    · cases hc
  | indexAddr t x i =>
    simp only [cOp_eq, cOpS, Option.bind_eq_bind, Option.bind_eq_some_iff] at hc
    obtain ⟨p, hp, q, hq, d, hd, hc⟩ := hc
    split at hc
    · simp only [Option.bind_eq_some_iff, Option.some.injEq] at hc
      obtain ⟨j, hj, rfl⟩ := hc
      exact noF hv
    · simp only [Option.bind_eq_some_iff, Option.some.injEq] at hc
      obtain ⟨j, hj, rfl⟩ := hc
      exact noF hv
    · cases hc
  | index t x i =>
    simp only [cOp_eq, cOpS, Option.bind_eq_bind, Option.bind_eq_some_iff] at hc
    obtain ⟨p, hp, q, hq, d, hd, hc⟩ := hc
    split at hc
    · simp only [Option.bind_eq_some_iff, Option.some.injEq] at hc
      obtain ⟨⟨k, agg⟩, ht, rfl⟩ := hc
      exact noF hv
    · obtain rfl := Option.some.inj hc; exact noF hv
    · cases hc
  | lookup t x i ok =>
    simp only [cOp_eq, cOpS, Option.bind_eq_bind, Option.bind_eq_some_iff] at hc
    obtain ⟨d, hd, hc⟩ := hc
    split at hc
    · simp only [Option.bind_eq_some_iff, Option.some.injEq] at hc
      obtain ⟨zc, hz, s, hs, p, hp, q, hq, rfl⟩ := hc
      exact noF hv
    · cases hc
  | extract x i => obtain ⟨p, hp, rfl⟩ := Option.map_eq_some_iff.1 hc; exact noF hv
  | store t x y =>
    simp only [cOp_eq, cOpS, Option.bind_eq_bind, Option.bind_eq_some_iff, Option.some.injEq] at hc
    obtain ⟨⟨n, agg⟩, ht, p, hp, q, hq, rfl⟩ := hc
    exact noF hv
  | mapUpdate t m' k x =>
    simp only [cOp_eq, cOpS, Option.bind_eq_bind, Option.bind_eq_some_iff] at hc
    obtain ⟨d, hd, hc⟩ := hc
    split at hc
    · simp only [Option.bind_eq_some_iff, Option.some.injEq] at hc
      obtain ⟨_, _, _, _, _, _, _, _, rfl⟩ := hc
      exact noF hv
    · cases hc
  | insert t m' k x =>
    simp only [cOp_eq, cOpS, Option.bind_eq_bind, Option.bind_eq_some_iff] at hc
    obtain ⟨d, hd, hc⟩ := hc
    split at hc
    · simp only [Option.bind_eq_some_iff, Option.some.injEq] at hc
      obtain ⟨_, _, _, _, _, _, _, _, rfl⟩ := hc
      exact noF hv
    · cases hc
  | next x b =>
    cases b with
    | false => simp [cOp_eq, cOpS] at hc
    | true =>
      obtain ⟨p, hp, rfl⟩ := Option.map_eq_some_iff.1 (show (cO nt x).map .next = some ao from hc)
      exact noF hv
  | call c =>
    obtain ⟨callee, args, argTypes⟩ := c
    cases callee with
    | invoke r n => simp [cOp_eq, cOpS] at hc
    | value f =>
      cases f with
      | func f =>
        simp only [cOp_eq, cOpS] at hc
        split at hc
        · simp only [Option.bind_eq_bind, Option.bind_eq_some_iff, Option.some.injEq] at hc
          obtain ⟨_, _, rfl⟩ := hc
          exact noF hv
        · cases hc
      | _ =>
        simp only [cOp_eq, cOpS, Option.bind_eq_bind, Option.bind_eq_some_iff, Option.some.injEq] at hc
        obtain ⟨_, _, _, _, rfl⟩ := hc
        exact noF hv
    | builtin b =>
      exfalso
      cases b <;> first | (simp [cOp_eq, cOpS] at hc; done) | skip
      case append =>
        simp only [cOp_eq, cOpS, Option.bind_eq_bind, Option.bind_eq_some_iff] at hc
        obtain ⟨_, _, _, _, _, _, _, _, _, _, _, _, _, _, _, _, hc⟩ := hc
        split at hc
        · simp only [Option.bind_eq_some_iff, Option.some.injEq] at hc
          obtain ⟨_, _, _, _, rfl⟩ := hc
          exact noF hv
        · split at hc
          · simp only [Option.bind_eq_some_iff, Option.some.injEq] at hc
            obtain ⟨_, _, _, _, rfl⟩ := hc
            exact noF hv
          · cases hc
        · simp only [Option.bind_eq_some_iff, Option.some.injEq] at hc
          obtain ⟨_, _, _, _, rfl⟩ := hc
          exact noF hv
      case cap =>
        simp only [cOp_eq, cOpS, Option.bind_eq_bind, Option.bind_eq_some_iff] at hc
        obtain ⟨t, ht, x, hx, d, hd, hc⟩ := hc
        split at hc
        · obtain rfl := Option.some.inj hc; exact noF hv
        · obtain ⟨p, hp, rfl⟩ := Option.map_eq_some_iff.1 hc; exact noF hv
        · cases hc
      case delete =>
        simp only [cOp_eq, cOpS, Option.bind_eq_bind, Option.bind_eq_some_iff] at hc
        obtain ⟨_, _, _, _, _, _, d, hd, hc⟩ := hc
        split at hc
        · simp only [Option.bind_eq_some_iff, Option.some.injEq] at hc
          obtain ⟨_, _, _, _, _, _, rfl⟩ := hc
          exact noF hv
        · cases hc
      case clear =>
        simp only [cOp_eq, cOpS, Option.bind_eq_bind, Option.bind_eq_some_iff] at hc
        obtain ⟨_, _, _, _, _, _, hc⟩ := hc
        split at hc
        · simp only [Option.bind_eq_some_iff, Option.some.injEq] at hc
          obtain ⟨_, _, _, _, rfl⟩ := hc
          exact noF hv
        · cases hc
      case copy =>
        simp only [cOp_eq, cOpS, Option.bind_eq_bind, Option.bind_eq_some_iff, Option.some.injEq] at hc
        obtain ⟨_, _, _, _, _, _, _, _, _, _, _, _, _, _, rfl⟩ := hc
        exact noF hv
      case len =>
        simp only [cOp_eq, cOpS, Option.bind_eq_bind, Option.bind_eq_some_iff] at hc
        obtain ⟨t, ht, x, hx, d, hd, hc⟩ := hc
        split at hc
        · obtain rfl := Option.some.inj hc; exact noF hv
        · simp only [Option.bind_eq_some_iff] at hc
          obtain ⟨d', hd', hc⟩ := hc
          split at hc
          · obtain rfl := Option.some.inj hc; exact noF hv
          · cases hc
        · obtain ⟨p, hp, rfl⟩ := Option.map_eq_some_iff.1 hc; exact noF hv
        · obtain ⟨p, hp, rfl⟩ := Option.map_eq_some_iff.1 hc; exact noF hv
        · obtain ⟨p, hp, rfl⟩ := Option.map_eq_some_iff.1 hc; exact noF hv
        · cases hc
      case max =>
        simp only [cOp_eq, cOpS, Option.bind_eq_bind, Option.bind_eq_some_iff, Option.some.injEq] at hc
        obtain ⟨x, hx, p, hp, q, hq, rfl⟩ := hc
        exact noF hv
      case min =>
        simp only [cOp_eq, cOpS, Option.bind_eq_bind, Option.bind_eq_some_iff, Option.some.injEq] at hc
        obtain ⟨x, hx, p, hp, q, hq, rfl⟩ := hc
        exact noF hv
      case unsafeSliceData =>
        simp only [cOp_eq, cOpS, Option.bind_eq_bind, Option.bind_eq_some_iff] at hc
        obtain ⟨x, hx, hc⟩ := hc
        split at hc
        · simp only [Option.bind_eq_some_iff, Option.some.injEq] at hc
          obtain ⟨p, hp, rfl⟩ := hc
          exact noF hv
        · cases hc
      case unsafeString =>
        simp only [cOp_eq, cOpS, Option.bind_eq_bind, Option.bind_eq_some_iff] at hc
        obtain ⟨_, _, _, _, _, _, d, hd, hc⟩ := hc
        split at hc
        · simp only [Option.bind_eq_some_iff] at hc
          obtain ⟨d', hd', hc⟩ := hc
          split at hc
          · split at hc
            · simp only [Option.bind_eq_some_iff, Option.some.injEq] at hc
              obtain ⟨_, _, _, _, rfl⟩ := hc
              exact noF hv
            · cases hc
          · cases hc
        · cases hc
  | _ => exfalso; simp [cOp_eq, cOpS] at hc
theorem fev_sound (I : Inv P m h nx w) (hn : nx ≤ 32767) {o : Oper} {ao : AOp} {v : AV} {b : AB} (hc : cOp P nt o = some ao) (hO : OpsRel m nt z a o.op.operands) (hv : fev ao z (bid nx) = some (v, b)) :
    ∃ v' w', (execOp a.eval o).run P w = .ok (.value v') w' ∧ Makes P m h nx w v b v' w' := by
  obtain ⟨v', w', h1, e, o', d, h2, h3, rfl, h4, h5⟩ := fev_make (w := w) (I.fresh (Nat.le_refl _) hn) hc hO hv
  exact ⟨v', _, h1, e, h2, h4, I.more hn h2 h3 h5⟩
end Go.Ra
