/-
  Walks over package chunk: a byte of a line, whatever it is.
-/
import Derived.Test.YtnopfoagioodjaaDoorKh1
import Derived.Test.YtnopfoagioodjaaDoorKh2
import Derived.Test.YtnopfoagioodjaaDoorKh3
import Derived.Test.YtnopfoagioodjaaDoorKh4
namespace Go.Proofs.YtnopfoagioodjaaDoor
open Go.RowKit

theorem cletter_any (b : Nat) (c : Ck) (d : UInt8) (lv dv : Value) (W : World) (hG : G W) (hb : 1 < b) (h : Rd b W c lv dv) (hok : CkOk c) (hs : c.st = 0 ∨ c.st = 3) :
    Calls Tryd.prog 21 #[.pointer (some ⟨b, 0, none⟩), .int .u8 d.toNat] W fun e W' => e = .returned (.tuple #[]) ∧ RdPost b lv dv W (letterC c d) W' := by
  by_cases hl : c.line = []
  · rcases hs with hs | hs
    · cases hd : d == 10
      · exact letter_ae0 b c d lv dv W hG hb h hok hl hs hd
      · exact letter_we0 b c d lv dv W hG hb h hok hl hs hd
    · by_cases hm : 2048 < c.tail + 1
      · exact letter_te3 b c d lv dv W hG hb h hok hl hs hm
      · cases hd : d == 10
        · exact letter_ae3 b c d lv dv W hG hb h hok hl hs hd hm
        · exact letter_we3 b c d lv dv W hG hb h hok hl hs hd hm
  · obtain ⟨L, x, hl⟩ : ∃ L x, c.line = L ++ [x] := ⟨c.line.dropLast, c.line.getLast hl, (List.dropLast_concat_getLast hl).symm⟩
    rcases hs with hs | hs
    · cases hc : crB c.line
      · cases hd : d == 10
        · by_cases h2 : c.line.length = 2048
          · exact letter_mn0 b c d lv dv W hG hb h hok L x hl hs hc hd h2
          · exact letter_an0 b c d lv dv W hG hb h hok L x hl hs hc hd h2
        · exact letter_wnf0 b c d lv dv W hG hb h hok L x hl hs hc hd
      · cases hd : d == 10
        · exact letter_wnt0 b c d lv dv W hG hb h hok L x hl hs hc hd
        · exact letter_ln0 b c d lv dv W hG hb h hok L x hl hs hc hd
    · by_cases hm : 2048 < c.tail + 1
      · cases hc : crB c.line
        · exact letter_tnf3 b c d lv dv W hG hb h hok L x hl hs hc hm
        · exact letter_tnt3 b c d lv dv W hG hb h hok L x hl hs hc hm
      · cases hc : crB c.line
        · cases hd : d == 10
          · exact letter_an3 b c d lv dv W hG hb h hok L x hl hs hc hd hm
          · exact letter_wnf3 b c d lv dv W hG hb h hok L x hl hs hc hd hm
        · cases hd : d == 10
          · exact letter_wnt3 b c d lv dv W hG hb h hok L x hl hs hc hd hm
          · exact letter_ln3 b c d lv dv W hG hb h hok L x hl hs hc hd hm
end Go.Proofs.YtnopfoagioodjaaDoor
