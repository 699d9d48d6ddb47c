/-
  Plain laws of HandOrder: the fields turned, with others between, are asked alike: no program in sight.
-/
import Derived.Test.YtheihlalgekojaaDoorP21
namespace Go.Proofs.YtheihlalgekojaaDoor
def othF : Fl := ([88, 45, 79, 116, 104, 101, 114], [119, 101, 98, 115, 111, 99, 107, 101, 116])
/-- The first m rounds: another field, and the field number (i + k) mod n. -/
def ordL (fs : List Fl) (k : Nat) : Nat → List Fl
  | 0 => []
  | m + 1 => ordL fs k m ++ [othF, fs.getD ((m + k) % fs.length) othF]
def rotL (fs : List Fl) (k : Nat) : Nat → List Fl
  | 0 => []
  | m + 1 => rotL fs k m ++ [fs.getD ((m + k) % fs.length) othF]
theorem ord_filter (p : Fl → Bool) (hp : p othF = false) (fs : List Fl) (k : Nat) : ∀ m, (ordL fs k m).filter p = (rotL fs k m).filter p
  | 0 => rfl
  | m + 1 => by
    unfold ordL rotL
    rw [List.filter_append, List.filter_append, ord_filter p hp fs k m]
    simp [hp]
theorem ord_any (p : Fl → Bool) (hp : p othF = false) (fs : List Fl) (k : Nat) : ∀ m, (ordL fs k m).any p = (rotL fs k m).any p
  | 0 => rfl
  | m + 1 => by
    unfold ordL rotL
    rw [List.any_append, List.any_append, ord_any p hp fs k m]
    simp [hp]
theorem rot_len (fs : List Fl) (k : Nat) : ∀ m, (rotL fs k m).length = m
  | 0 => rfl
  | m + 1 => by rw [rotL, List.length_append, rot_len fs k m]; rfl
theorem rot_get (fs : List Fl) (k : Nat) : ∀ m i, (h : i < m) → (rotL fs k m)[i]? = some (fs.getD ((i + k) % fs.length) othF)
  | 0, i, h => by omega
  | m + 1, i, h => by
    unfold rotL
    by_cases e : i < m
    · rw [List.getElem?_append_left (by rw [rot_len]; exact e)]; exact rot_get fs k m i e
    · have : i = m := by omega
      subst this
      rw [List.getElem?_append_right (by rw [rot_len]; exact Nat.le_refl _), rot_len]; simp
theorem rot_eq (fs : List Fl) (k : Nat) (hk : k < fs.length) : rotL fs k fs.length = fs.drop k ++ fs.take k := by
  apply List.ext_getElem?
  intro i
  by_cases hi : i < fs.length
  · rw [rot_get fs k _ i hi]
    by_cases h2 : i < fs.length - k
    · rw [List.getElem?_append_left (by rw [List.length_drop]; exact h2), List.getElem?_drop, Nat.mod_eq_of_lt (by omega), Nat.add_comm]
      simp [List.getD, show k + i < fs.length by omega]
    · rw [List.getElem?_append_right (by rw [List.length_drop]; omega), List.length_drop]
      have e : (i + k) % fs.length = i - (fs.length - k) := by
        rw [show i + k = (i - (fs.length - k)) + fs.length by omega, Nat.add_mod_right, Nat.mod_eq_of_lt (by omega)]
      rw [e, List.getElem?_take_of_lt (by omega)]
      simp [List.getD, show i - (fs.length - k) < fs.length by omega]
  · rw [List.getElem?_eq_none (by rw [rot_len]; omega), List.getElem?_eq_none (by rw [List.length_append, List.length_drop, List.length_take]; omega)]
theorem rot_perm (fs : List Fl) (k : Nat) (hk : k < fs.length) : (rotL fs k fs.length).Perm fs := by
  rw [rot_eq fs k hk]
  exact (List.perm_append_comm).trans (by rw [List.take_append_drop])
theorem perm_small {α : Type} {a b : List α} (h : a.Perm b) (h1 : b.length ≤ 1) : a = b := by
  match b, h1 with
  | [], _ => exact h.eq_nil
  | [x], _ => exact List.perm_singleton.1 h
theorem ord_perm (p : Fl → Bool) (hp : p othF = false) (fs : List Fl) (k : Nat) (hk : k < fs.length) : ((ordL fs k fs.length).filter p).Perm (fs.filter p) := by
  rw [ord_filter p hp]
  exact (rot_perm fs k hk).filter p
theorem ord_any_eq (p : Fl → Bool) (hp : p othF = false) (fs : List Fl) (k : Nat) (hk : k < fs.length) : (ordL fs k fs.length).any p = fs.any p := by
  rw [ord_any p hp, Bool.eq_iff_iff, List.any_eq_true, List.any_eq_true]
  exact ⟨fun ⟨x, hx, h⟩ => ⟨x, (rot_perm fs k hk).mem_iff.1 hx, h⟩, fun ⟨x, hx, h⟩ => ⟨x, (rot_perm fs k hk).mem_iff.2 hx, h⟩⟩
theorem oth_no : alikeB othF.1 kHost = false ∧ alikeB othF.1 kKey = false ∧ alikeB othF.1 kVer = false ∧ alikeB othF.1 kUpg = false ∧ alikeB othF.1 kConn = false := by decide +kernel
/-- How many fields there are of a name. -/
def cntB (fs : List Fl) (name : List UInt8) : Nat := (getB fs name).2
theorem ord_cnt (name : List UInt8) (hp : alikeB othF.1 name = false) (fs : List Fl) (k : Nat) (hk : k < fs.length) : cntB (ordL fs k fs.length) name = cntB fs name :=
  (ord_perm (fun f => alikeB f.1 name) hp fs k hk).length_eq
theorem ord_one (name : List UInt8) (hp : alikeB othF.1 name = false) (fs : List Fl) (k : Nat) (hk : k < fs.length) (h1 : cntB fs name ≤ 1) : oneB (ordL fs k fs.length) name = oneB fs name := by
  have := perm_small (ord_perm (fun f => alikeB f.1 name) hp fs k hk) h1
  unfold oneB getB
  rw [this]
theorem many_bad {r : Rq} (h : 1 < cntB r.fs kHost ∨ 1 < cntB r.fs kKey ∨ 1 < cntB r.fs kVer) : checkB r = ([], 400) := by
  unfold checkB
  rw [if_pos]
  have ho : (oneB r.fs kHost).2 = false ∨ (oneB r.fs kKey).2 = false ∨ (oneB r.fs kVer).2 = false := by
    rcases h with h | h | h
    · left; unfold cntB at h; simp [oneB]; omega
    · right; left; unfold cntB at h; simp [oneB]; omega
    · right; right; unfold cntB at h; simp [oneB]; omega
  rcases ho with h | h | h <;> simp [h]
theorem ord_check (r : Rq) (p q b : List UInt8) (k : Nat) (hk : k < r.fs.length) (h1 : cntB r.fs kHost ≤ 1) (h2 : cntB r.fs kKey ≤ 1) (h3 : cntB r.fs kVer ≤ 1) :
    checkB { r with p := p, q := q, b := b, fs := ordL r.fs k r.fs.length } = checkB r := by
  obtain ⟨o1, o2, o3, o4, o5⟩ := oth_no
  unfold checkB
  dsimp only
  rw [ord_one kHost o1 _ _ hk h1, ord_one kKey o2 _ _ hk h2, ord_one kVer o3 _ _ hk h3]
  have a1 : asksB (ordL r.fs k r.fs.length) kUpg kWs = asksB r.fs kUpg kWs := ord_any_eq _ (by simp [o4]) _ _ hk
  have a2 : asksB (ordL r.fs k r.fs.length) kConn kupg = asksB r.fs kConn kupg := ord_any_eq _ (by simp [o5]) _ _ hk
  rw [a1, a2]
theorem ord_bad (r : Rq) (p q b : List UInt8) (k : Nat) (hk : k < r.fs.length) (h : 1 < cntB r.fs kHost ∨ 1 < cntB r.fs kKey ∨ 1 < cntB r.fs kVer) :
    checkB { r with p := p, q := q, b := b, fs := ordL r.fs k r.fs.length } = ([], 400) := by
  obtain ⟨o1, o2, o3, o4, o5⟩ := oth_no
  refine many_bad ?_
  dsimp only
  rw [ord_cnt kHost o1 _ _ hk, ord_cnt kKey o2 _ _ hk, ord_cnt kVer o3 _ _ hk]
  exact h
theorem tmod_turn (turn n K : Int) (hn : 0 < n) (hK : turn % n = K) : (turn.tmod n < 0 ∧ turn.tmod n + n = K) ∨ (¬ turn.tmod n < 0 ∧ turn.tmod n = K) := by
  have h := @Int.tmod_eq_emod turn n
  have h1 := Int.emod_nonneg turn (by omega : n ≠ 0)
  have h2 := Int.emod_lt_of_pos turn hn
  by_cases h0 : 0 ≤ turn
  · rw [if_pos (.inl h0)] at h
    right; omega
  · by_cases hd : n ∣ turn
    · have := Int.emod_eq_zero_of_dvd hd
      have := Int.tmod_eq_zero_of_dvd hd
      right; omega
    · rw [if_neg (by intro h; rcases h with h | h <;> omega)] at h
      have h3 : 0 < turn % n := by
        rcases Int.lt_or_eq_of_le h1 with h | h
        · exact h
        · exact absurd (Int.dvd_of_emod_eq_zero h.symm) hd
      rw [Int.natAbs_of_nonneg (by omega)] at h
      left; omega
theorem ord_none (r : Rq) (p q b : List UInt8) (h : r.fs = []) : checkB { r with p := p, q := q, b := b, fs := [] } = checkB r := by
  unfold checkB
  dsimp only
  rw [h]
end Go.Proofs.YtheihlalgekojaaDoor
