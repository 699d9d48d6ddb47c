/-
  Plain laws of the request that asks rightly: no program in sight.
  Plain laws: a request that lacks a field, or has one twice: no program in sight.
-/
import Derived.Test.YtheihlalgekojaaGreatDoorP19
import Derived.Test.YtheihlalgekojaaGreatDoorP16
namespace Go.Proofs.YtheihlalgekojaaGreatDoor
def kKA : List UInt8 := [107, 101, 101, 112, 45, 97, 108, 105, 118, 101, 44, 32, 85, 112, 103, 114, 97, 100, 101]
/-- The request that asks rightly, with a key and a version. -/
def askFs (key ver : List UInt8) : List Fl := [(kHost, [97]), (kUpg, kWs), (kConn, kKA), (kKey, key), (kVer, ver)]
def askR (key ver : List UInt8) : Rq := ⟨kGET, [47, 119, 115], [], 11, askFs key ver, [], false⟩
theorem names_no : (alikeB kHost kUpg = false ∧ alikeB kHost kConn = false ∧ alikeB kHost kKey = false ∧ alikeB kHost kVer = false) ∧
    (alikeB kUpg kHost = false ∧ alikeB kUpg kConn = false ∧ alikeB kUpg kKey = false ∧ alikeB kUpg kVer = false) ∧
    (alikeB kConn kHost = false ∧ alikeB kConn kUpg = false ∧ alikeB kConn kKey = false ∧ alikeB kConn kVer = false) ∧
    (alikeB kKey kHost = false ∧ alikeB kKey kUpg = false ∧ alikeB kKey kConn = false ∧ alikeB kKey kVer = false) ∧
    (alikeB kVer kHost = false ∧ alikeB kVer kUpg = false ∧ alikeB kVer kConn = false ∧ alikeB kVer kKey = false) := by decide +kernel
theorem names_yes : alikeB kHost kHost = true ∧ alikeB kUpg kUpg = true ∧ alikeB kConn kConn = true ∧ alikeB kKey kKey = true ∧ alikeB kVer kVer = true := by decide +kernel
theorem values_yes : hasB kWs kWs = true ∧ hasB kKA kupg = true := by decide +kernel
theorem one_ask (key ver : List UInt8) : oneB (askFs key ver) kHost = ([97], true) ∧ oneB (askFs key ver) kKey = (key, true) ∧ oneB (askFs key ver) kVer = (ver, true) := by
  obtain ⟨⟨a1, a2, a3, a4⟩, ⟨b1, b2, b3, b4⟩, ⟨c1, c2, c3, c4⟩, ⟨d1, d2, d3, d4⟩, e1, e2, e3, e4⟩ := names_no
  obtain ⟨y1, y2, y3, y4, y5⟩ := names_yes
  unfold oneB getB askFs
  simp [*]
theorem asks_ask (key ver : List UInt8) : asksB (askFs key ver) kUpg kWs = true ∧ asksB (askFs key ver) kConn kupg = true := by
  obtain ⟨y1, y2, y3, y4, y5⟩ := names_yes
  obtain ⟨v1, v2⟩ := values_yes
  unfold asksB askFs
  simp [*]
theorem check_ask {key t : List UInt8} (ver : List UInt8) (h : decL key = some t) (h16 : t.length = 16) : checkB (askR key ver) = if ver = k13 then (acceptL key, 101) else ([], 426) := by
  obtain ⟨o1, o2, o3⟩ := one_ask key ver
  obtain ⟨q1, q2⟩ := asks_ask key ver
  unfold checkB askR
  dsimp only
  rw [o1, o2, o3, q1, q2]
  simp only [h]
  by_cases hv : ver = k13 <;> simp [h16, hv]
theorem keyL_dec : ∃ t, decL keyL = some t ∧ t.length = 16 := by
  refine ⟨[116, 104, 101, 32, 115, 97, 109, 112, 108, 101, 32, 110, 111, 110, 99, 101], ?_, rfl⟩
  decide +kernel
def accS : List UInt8 := [115, 51, 112, 80, 76, 77, 66, 105, 84, 120, 97, 81, 57, 107, 89, 71, 122, 122, 104, 90, 82, 98, 75, 43, 120, 79, 111, 61]
theorem check_key : checkB (askR keyL k13) = (accS, 101) := by
  obtain ⟨t, h, h16⟩ := keyL_dec
  rw [check_ask k13 h h16, if_pos rfl, accept_key]; rfl
theorem answer_key : answerB (checkB (askR keyL k13)) = (⟨101, [(kUpg, kWs), (kConn, kUpg), (kAcc, accS)], []⟩, true) := by rw [check_key]; rfl
def postR : Rq := ⟨[80, 79, 83, 84], [], [], 0, [], [], false⟩
theorem check_post : checkB postR = ([], 400) := by decide +kernel
/-- What is not asked by GET and HTTP/1.1. -/
theorem check_third {r : Rq} (h : ¬ (r.m = kGET ∧ r.v = 11)) : checkB r = ([], 400) := by
  unfold checkB
  rw [if_pos]
  by_cases h1 : r.m = kGET
  · have h2 : r.v ≠ 11 := fun e => h ⟨h1, e⟩
    simp [h2]
  · simp [h1]
end Go.Proofs.YtheihlalgekojaaGreatDoor
namespace Go.Proofs.YtheihlalgekojaaGreatDoor
theorem lower_lower (c : UInt8) : lower (lower c) = lower c := byte_all (p := fun c => lower (lower c) = lower c) (by decide +kernel) c
theorem alike_low (a b : List UInt8) : alikeB (a.map lower) b = alikeB a b := by
  unfold alikeB
  rw [List.map_map, show lower ∘ lower = lower from funext lower_lower]
def lackFs (R : List UInt8) (n : Nat) : List Fl := (askFs R k13).take n ++ (askFs R k13).drop (n + 1)
def twiceFs (R : List UInt8) (n : Nat) (h : n < 5) : List Fl := askFs R k13 ++ [(((askFs R k13)[n]'h).1.map lower, ((askFs R k13)[n]'h).2)]
def askWith (fs : List Fl) : Rq := ⟨kGET, [47, 119, 115], [], 11, fs, [], false⟩
theorem lack_check (R : List UInt8) : ∀ n, n < 5 → checkB (askWith (lackFs R n)) = ([], 400) := by
  intro n hn
  obtain ⟨⟨a1, a2, a3, a4⟩, ⟨b1, b2, b3, b4⟩, ⟨c1, c2, c3, c4⟩, ⟨d1, d2, d3, d4⟩, e1, e2, e3, e4⟩ := names_no
  obtain ⟨y1, y2, y3, y4, y5⟩ := names_yes
  obtain ⟨v1, v2⟩ := values_yes
  match n, hn with
  | 0, _ => simp [checkB, askWith, lackFs, askFs, oneB, getB, asksB, *]
  | 1, _ => simp [checkB, askWith, lackFs, askFs, oneB, getB, asksB, *]
  | 2, _ => simp [checkB, askWith, lackFs, askFs, oneB, getB, asksB, *]
  | 3, _ => simp [checkB, askWith, lackFs, askFs, oneB, getB, asksB, *]
  | 4, _ => simp [checkB, askWith, lackFs, askFs, oneB, getB, asksB, *]
theorem twice_check {R t : List UInt8} (h : decL R = some t) (h16 : t.length = 16) : ∀ n, (hn : n < 5) → checkB (askWith (twiceFs R n hn)) = if n = 1 ∨ n = 2 then (acceptL R, 101) else ([], 400) := by
  intro n hn
  obtain ⟨⟨a1, a2, a3, a4⟩, ⟨b1, b2, b3, b4⟩, ⟨c1, c2, c3, c4⟩, ⟨d1, d2, d3, d4⟩, e1, e2, e3, e4⟩ := names_no
  obtain ⟨y1, y2, y3, y4, y5⟩ := names_yes
  obtain ⟨v1, v2⟩ := values_yes
  match n, hn with
  | 0, _ => simp [checkB, askWith, twiceFs, askFs, oneB, getB, asksB, alike_low, *]
  | 1, _ => simp [checkB, askWith, twiceFs, askFs, oneB, getB, asksB, alike_low, *]
  | 2, _ => simp [checkB, askWith, twiceFs, askFs, oneB, getB, asksB, alike_low, *]
  | 3, _ => simp [checkB, askWith, twiceFs, askFs, oneB, getB, asksB, alike_low, *]
  | 4, _ => simp [checkB, askWith, twiceFs, askFs, oneB, getB, asksB, alike_low, *]
end Go.Proofs.YtheihlalgekojaaGreatDoor
