/-
  publishes, in parts: its code's pieces; the states between them (written by Cut.lean).
-/
import Derived.Test.YtglocckckdjalaaGreatDoorUa
namespace Go.Proofs.YtglocckckdjalaaGreatDoor
open Go.Ra
def I (n : Nat) : AV := .int .i64 (.ofNat n)
def B (n : Nat) : AV := .int .u8 (.ofNat n)
def L : List AV → AV
  | [] => .nl
  | a :: l => .cs a (L l)
/-- The first statements of code, and the rest. -/
def splitC : Nat → Code → List Code × Code
  | 0, c => ([], c)
  | k + 1, .seq a b => (a :: (splitC k b).1, (splitC k b).2)
  | _, c => ([], c)
noncomputable def pubN : Nat := Tryz.f18.ntmps
noncomputable def pubB : Code := Option.rec .skip (fun c => c) Tryz.f18.body
noncomputable def pub1 : List Code := (splitC 4 pubB).1
noncomputable def pubR1 : Code := (splitC 4 pubB).2
noncomputable def pub2 : List Code := (splitC 1 pubR1).1
noncomputable def pubR2 : Code := (splitC 1 pubR1).2
noncomputable def acs (l : List Code) : List ACode := Option.rec [] (fun l => l) (l.mapM (cCodeU Tryz.prog pubN))
noncomputable def pubA : ACode := Option.rec .bad (fun c => c) (cCodeU Tryz.prog pubN pubR2)
noncomputable def pubL : List ARes := Option.rec [] (fun l => l) (Tryz.f18.results.toList.mapM (cRes Tryz.prog pubN))
/-- The slots behind part 1. -/
noncomputable def pubZ1 : List (Pth × AV) := [(pth 3 1, (.ptr (bid 1068) 0))]
/-- The blocks. -/
noncomputable def pubH1 : List HI := [
  .c 0 18446744073709551616 3 0 1 (L [.aint]),
  .c 3 18446744073709551616 471 0 20 (L [(.int .u64 (.ofNat 1)), (.int .u64 (.ofNat 10)), (.int .u64 (.ofNat 100)), (.int .u64 (.ofNat 1000)), (.int .u64 (.ofNat 10000)), (.int .u64 (.ofNat 100000)), (.int .u64 (.ofNat 1000000)), (.int .u64 (.ofNat 10000000)), (.int .u64 (.ofNat 100000000)), (.int .u64 (.ofNat 1000000000)), (.int .u64 (.ofNat 10000000000)), (.int .u64 (.ofNat 100000000000)), (.int .u64 (.ofNat 1000000000000)), (.int .u64 (.ofNat 10000000000000)), (.int .u64 (.ofNat 100000000000000)), (.int .u64 (.ofNat 1000000000000000)), (.int .u64 (.ofNat 10000000000000000)), (.int .u64 (.ofNat 100000000000000000)), (.int .u64 (.ofNat 1000000000000000000)), (.int .u64 (.ofNat 10000000000000000000))]),
  .c 1033 1 28 0 8 (L [(.str 3 5522759), (.str 1 47), (I 1), (.str 4 1701670760), (.str 3 5522759), (.str 3 7567151), (I 4), (.str 0 0)]),
  .c 1036 1 28 0 8 (L [(.str 3 5522759), (.str 1 47), (I 1), (.str 4 1701670760), (.str 3 5522759), (.str 3 7567151), (I 4), (.str 0 0)]),
  .c 1037 1 165 0 5 (L [(.map (bid 1054)), .nilptr, .nilptr, (.str 1 47), (.map (bid 1043))]),
  .c 1038 1 167 0 3 (L [(I 32), (.ptr (bid 1037) 0), (.slice (bid 1056) 0 2 2 false 1)]),
  .c 1039 1 116 0 2 (L [(.slice (bid 1036) 0 2 2 false 4), (.ptr (bid 1038) 0)]),
  .m 1043 (.cons (.str 3 5522759) (.agg (L [(.str 3 5522759), (.str 1 47), (I 1), (.str 4 1701670760)])) 0 .nil) 1,
  .m 1051 (.cons (.str 3 5522759) (.agg (L [(.str 3 5522759), (.str 3 7567151), (I 4), (.str 0 0)])) 0 .nil) 1,
  .c 1053 1 165 0 5 (L [.nilmap, .nilptr, .nilptr, (.str 3 7567151), (.map (bid 1051))]),
  .m 1054 (.cons (.str 2 29559) (.ptr (bid 1053) 0) 0 .nil) 1,
  .c 1056 1 9 0 2 (L [(.str 1 47), (.str 3 7567151)]),
  .c 1057 1 70 0 1 (L [(.ptr (bid 1039) 0)]),
  .c 1059 1 43 0 1 (L [(.func (bid 47) .nl (L [(.ptr (bid 1057) 0)]))]),
  .m 1062 .nil 0,
  .m 1063 .nil 0,
  .m 1064 .nil 0,
  .c 1065 1 137 0 2 (L [(.map (bid 1063)), (.map (bid 1064))]),
  .c 1066 1 86 0 2 (L [(.map (bid 1062)), (.ptr (bid 1065) 0)]),
  .c 1067 1 89 0 1 (L [(.slice (bid 1125) 0 2 2 false 2)]),
  .c 1068 1 52 0 13 (L [(.slice (bid 1033) 0 2 2 false 4), .nilslice, (I 2), (I 100), (I 10), (I 20), (I 5), (.func (bid 74) .nl (L [(.ptr (bid 1059) 0)])), (.slice (bid 1130) 0 2 2 false 1), (.ptr (bid 1066) 0), (.ptr (bid 1067) 0), (I 0), (.bool false)]),
  .c 1070 1 307 0 4 (L [(I 4), (I 0), (I 0), .nilslice]),
  .c 1071 1 310 0 4 (L [(I 2), (I 0), (I 0), .nilslice]),
  .c 1072 1 251 0 7 (L [(.ptr (bid 1070) 0), (.ptr (bid 1071) 0), .nilptr, .nilptr, (.bool false), (.bool false), (.bool false)]),
  .c 1076 1 261 0 13 (L [(.str 0 0), (.str 0 0), (.bool false), (.str 0 0), (.str 0 0), (.str 0 0), (I 0), .nilslice, (.str 0 0), (.bool false), (I 0), .nilptr, (I 0)]),
  .c 1077 1 157 0 7 (L [(.func (bid 74) .nl (L [(.ptr (bid 1059) 0)])), (I 100), (I 1), (.ptr (bid 1076) 0), .nilptr, (.ptr (bid 1072) 0), (.bool false)]),
  .c 1083 1 268 0 4 (L [(I 65536), (I 0), (.slice (bid 1107) 0 153 153 false 1), (.bool true)]),
  .c 1084 1 151 0 8 (L [(.bool false), (.bool false), (.bool false), (.bool false), (.ptr (bid 1083) 0), .nilslice, (I 0), (I 0)]),
  .c 1085 1 101 0 3 (L [(.ptr (bid 1084) 0), (.ptr (bid 1077) 0), (.bool false)]),
  .c 1107 1 5 0 153 (L [(B 71), (B 69), (B 84), (B 32), (B 47), (B 119), (B 115), (B 32), (B 72), (B 84), (B 84), (B 80), (B 47), (B 49), (B 46), (B 49), (B 13), (B 10), (B 72), (B 111), (B 115), (B 116), (B 58), (B 32), (B 97), (B 13), (B 10), (B 85), (B 112), (B 103), (B 114), (B 97), (B 100), (B 101), (B 58), (B 32), (B 119), (B 101), (B 98), (B 115), (B 111), (B 99), (B 107), (B 101), (B 116), (B 13), (B 10), (B 67), (B 111), (B 110), (B 110), (B 101), (B 99), (B 116), (B 105), (B 111), (B 110), (B 58), (B 32), (B 85), (B 112), (B 103), (B 114), (B 97), (B 100), (B 101), (B 13), (B 10), (B 83), (B 101), (B 99), (B 45), (B 87), (B 101), (B 98), (B 83), (B 111), (B 99), (B 107), (B 101), (B 116), (B 45), (B 75), (B 101), (B 121), (B 58), (B 32), (B 100), (B 71), (B 104), (B 108), (B 73), (B 72), (B 78), (B 104), (B 98), (B 88), (B 66), (B 115), (B 90), (B 83), (B 66), (B 117), (B 98), (B 50), (B 53), (B 106), (B 90), (B 81), (B 61), (B 61), (B 13), (B 10), (B 83), (B 101), (B 99), (B 45), (B 87), (B 101), (B 98), (B 83), (B 111), (B 99), (B 107), (B 101), (B 116), (B 45), (B 86), (B 101), (B 114), (B 115), (B 105), (B 111), (B 110), (B 58), (B 32), (B 49), (B 51), (B 13), (B 10), (B 13), (B 10), (B 129), (B 133), (B 1), (B 2), (B 3), (B 4), (B 82), (B 87), (B 65), (B 36), (B 96)]),
  .c 1109 1 307 0 4 (L [(I 4), (I 0), (I 0), .nilslice]),
  .c 1110 1 310 0 4 (L [(I 2), (I 0), (I 0), .nilslice]),
  .c 1111 1 251 0 7 (L [(.ptr (bid 1109) 0), (.ptr (bid 1110) 0), .nilptr, .nilptr, (.bool false), (.bool false), (.bool false)]),
  .c 1115 1 261 0 13 (L [(.str 0 0), (.str 0 0), (.bool false), (.str 0 0), (.str 0 0), (.str 0 0), (I 0), .nilslice, (.str 0 0), (.bool false), (I 0), .nilptr, (I 0)]),
  .c 1116 1 157 0 7 (L [(.func (bid 74) .nl (L [(.ptr (bid 1059) 0)])), (I 100), (I 1), (.ptr (bid 1115) 0), .nilptr, (.ptr (bid 1111) 0), (.bool false)]),
  .c 1125 1 207 0 4 (L [(I 0), (I 10), (I 1), (I 10)]),
  .c 1126 1 268 0 4 (L [(I 65536), (I 0), (.slice (bid 1150) 0 153 153 false 1), (.bool true)]),
  .c 1127 1 151 0 8 (L [(.bool false), (.bool false), (.bool false), (.bool false), (.ptr (bid 1126) 0), .nilslice, (I 0), (I 0)]),
  .c 1128 1 101 0 3 (L [(.ptr (bid 1127) 0), (.ptr (bid 1116) 0), (.bool false)]),
  .c 1130 1 96 0 2 (L [(.ptr (bid 1085) 0), (.ptr (bid 1128) 0)]),
  .c 1150 1 5 0 153 (L [(B 71), (B 69), (B 84), (B 32), (B 47), (B 119), (B 115), (B 32), (B 72), (B 84), (B 84), (B 80), (B 47), (B 49), (B 46), (B 49), (B 13), (B 10), (B 72), (B 111), (B 115), (B 116), (B 58), (B 32), (B 97), (B 13), (B 10), (B 85), (B 112), (B 103), (B 114), (B 97), (B 100), (B 101), (B 58), (B 32), (B 119), (B 101), (B 98), (B 115), (B 111), (B 99), (B 107), (B 101), (B 116), (B 13), (B 10), (B 67), (B 111), (B 110), (B 110), (B 101), (B 99), (B 116), (B 105), (B 111), (B 110), (B 58), (B 32), (B 85), (B 112), (B 103), (B 114), (B 97), (B 100), (B 101), (B 13), (B 10), (B 83), (B 101), (B 99), (B 45), (B 87), (B 101), (B 98), (B 83), (B 111), (B 99), (B 107), (B 101), (B 116), (B 45), (B 75), (B 101), (B 121), (B 58), (B 32), (B 100), (B 71), (B 104), (B 108), (B 73), (B 72), (B 78), (B 104), (B 98), (B 88), (B 66), (B 115), (B 90), (B 83), (B 66), (B 117), (B 98), (B 50), (B 53), (B 106), (B 90), (B 81), (B 61), (B 61), (B 13), (B 10), (B 83), (B 101), (B 99), (B 45), (B 87), (B 101), (B 98), (B 83), (B 111), (B 99), (B 107), (B 101), (B 116), (B 45), (B 86), (B 101), (B 114), (B 115), (B 105), (B 111), (B 110), (B 58), (B 32), (B 49), (B 51), (B 13), (B 10), (B 13), (B 10), (B 129), (B 133), (B 1), (B 2), (B 3), (B 4), (B 82), (B 87), (B 65), (B 36), (B 96)])]
/-- The slots behind part 2. -/
noncomputable def pubZ2 : List (Pth × AV) := [(pth 3 1, (.ptr (bid 1068) 0))]
/-- The blocks. -/
noncomputable def pubH2 : List HI := [
  .c 0 18446744073709551616 3 0 1 (L [.aint]),
  .c 3 18446744073709551616 471 0 20 (L [(.int .u64 (.ofNat 1)), (.int .u64 (.ofNat 10)), (.int .u64 (.ofNat 100)), (.int .u64 (.ofNat 1000)), (.int .u64 (.ofNat 10000)), (.int .u64 (.ofNat 100000)), (.int .u64 (.ofNat 1000000)), (.int .u64 (.ofNat 10000000)), (.int .u64 (.ofNat 100000000)), (.int .u64 (.ofNat 1000000000)), (.int .u64 (.ofNat 10000000000)), (.int .u64 (.ofNat 100000000000)), (.int .u64 (.ofNat 1000000000000)), (.int .u64 (.ofNat 10000000000000)), (.int .u64 (.ofNat 100000000000000)), (.int .u64 (.ofNat 1000000000000000)), (.int .u64 (.ofNat 10000000000000000)), (.int .u64 (.ofNat 100000000000000000)), (.int .u64 (.ofNat 1000000000000000000)), (.int .u64 (.ofNat 10000000000000000000))]),
  .c 1033 1 28 0 8 (L [(.str 3 5522759), (.str 1 47), (I 1), (.str 4 1701670760), (.str 3 5522759), (.str 3 7567151), (I 4), (.str 0 0)]),
  .c 1036 1 28 0 8 (L [(.str 3 5522759), (.str 1 47), (I 1), (.str 4 1701670760), (.str 3 5522759), (.str 3 7567151), (I 4), (.str 0 0)]),
  .c 1037 1 165 0 5 (L [(.map (bid 1054)), .nilptr, .nilptr, (.str 1 47), (.map (bid 1043))]),
  .c 1038 1 167 0 3 (L [(I 32), (.ptr (bid 1037) 0), (.slice (bid 1056) 0 2 2 false 1)]),
  .c 1039 1 116 0 2 (L [(.slice (bid 1036) 0 2 2 false 4), (.ptr (bid 1038) 0)]),
  .m 1043 (.cons (.str 3 5522759) (.agg (L [(.str 3 5522759), (.str 1 47), (I 1), (.str 4 1701670760)])) 0 .nil) 1,
  .m 1051 (.cons (.str 3 5522759) (.agg (L [(.str 3 5522759), (.str 3 7567151), (I 4), (.str 0 0)])) 0 .nil) 1,
  .c 1053 1 165 0 5 (L [.nilmap, .nilptr, .nilptr, (.str 3 7567151), (.map (bid 1051))]),
  .m 1054 (.cons (.str 2 29559) (.ptr (bid 1053) 0) 0 .nil) 1,
  .c 1056 1 9 0 2 (L [(.str 1 47), (.str 3 7567151)]),
  .c 1057 1 70 0 1 (L [(.ptr (bid 1039) 0)]),
  .c 1059 1 43 0 1 (L [(.func (bid 47) .nl (L [(.ptr (bid 1057) 0)]))]),
  .m 1062 (.cons (I 0) (I 0) 0 (.cons (I 1) (I 0) 1 .nil)) 2,
  .m 1063 (.cons (.str 1 97) (.slice (bid 1838) 0 2 2 false 1) 0 .nil) 1,
  .m 1064 (.cons (I 0) (.slice (bid 1759) 0 1 1 false 1) 0 (.cons (I 1) (.slice (bid 1840) 0 1 1 false 1) 1 .nil)) 2,
  .c 1065 1 137 0 2 (L [(.map (bid 1063)), (.map (bid 1064))]),
  .c 1066 1 86 0 2 (L [(.map (bid 1062)), (.ptr (bid 1065) 0)]),
  .c 1067 1 89 0 1 (L [(.slice (bid 1125) 0 2 2 false 2)]),
  .c 1068 1 52 0 13 (L [(.slice (bid 1033) 0 2 2 false 4), .nilslice, (I 2), (I 100), (I 10), (I 20), (I 5), (.func (bid 74) .nl (L [(.ptr (bid 1059) 0)])), (.slice (bid 1130) 0 2 2 false 1), (.ptr (bid 1066) 0), (.ptr (bid 1067) 0), (I 0), (.bool false)]),
  .c 1070 1 307 0 4 (L [(I 4), (I 1), (I 0), (.slice (bid 1410) 0 4 4 true 1)]),
  .c 1071 1 310 0 4 (L [(I 2), (I 0), (I 0), .nilslice]),
  .c 1072 1 251 0 7 (L [(.ptr (bid 1070) 0), (.ptr (bid 1071) 0), .nilptr, .nilptr, (.bool false), (.bool false), (.bool false)]),
  .c 1076 1 261 0 13 (L [(.str 0 0), (.str 0 0), (.bool false), (.str 0 0), (.str 0 0), (.str 0 0), (I 0), .nilslice, (.str 0 0), (.bool false), (I 0), .nilptr, (I 0)]),
  .c 1077 1 157 0 7 (L [(.func (bid 74) .nl (L [(.ptr (bid 1059) 0)])), (I 100), (I 2), (.ptr (bid 1076) 0), (.ptr (bid 1416) 0), (.ptr (bid 1072) 0), (.bool false)]),
  .c 1083 1 268 0 4 (L [(I 65536), (I 153), (.slice (bid 1107) 0 153 153 false 1), (.bool true)]),
  .c 1084 1 151 0 8 (L [(.bool false), (.bool false), (.bool false), (.bool false), (.ptr (bid 1083) 0), (.slice (bid 1429) 0 129 129 false 1), (I 0), (.int .i64 (.negSucc 128))]),
  .c 1085 1 101 0 3 (L [(.ptr (bid 1084) 0), (.ptr (bid 1077) 0), (.bool false)]),
  .c 1107 1 5 0 153 (L [(B 71), (B 69), (B 84), (B 32), (B 47), (B 119), (B 115), (B 32), (B 72), (B 84), (B 84), (B 80), (B 47), (B 49), (B 46), (B 49), (B 13), (B 10), (B 72), (B 111), (B 115), (B 116), (B 58), (B 32), (B 97), (B 13), (B 10), (B 85), (B 112), (B 103), (B 114), (B 97), (B 100), (B 101), (B 58), (B 32), (B 119), (B 101), (B 98), (B 115), (B 111), (B 99), (B 107), (B 101), (B 116), (B 13), (B 10), (B 67), (B 111), (B 110), (B 110), (B 101), (B 99), (B 116), (B 105), (B 111), (B 110), (B 58), (B 32), (B 85), (B 112), (B 103), (B 114), (B 97), (B 100), (B 101), (B 13), (B 10), (B 83), (B 101), (B 99), (B 45), (B 87), (B 101), (B 98), (B 83), (B 111), (B 99), (B 107), (B 101), (B 116), (B 45), (B 75), (B 101), (B 121), (B 58), (B 32), (B 100), (B 71), (B 104), (B 108), (B 73), (B 72), (B 78), (B 104), (B 98), (B 88), (B 66), (B 115), (B 90), (B 83), (B 66), (B 117), (B 98), (B 50), (B 53), (B 106), (B 90), (B 81), (B 61), (B 61), (B 13), (B 10), (B 83), (B 101), (B 99), (B 45), (B 87), (B 101), (B 98), (B 83), (B 111), (B 99), (B 107), (B 101), (B 116), (B 45), (B 86), (B 101), (B 114), (B 115), (B 105), (B 111), (B 110), (B 58), (B 32), (B 49), (B 51), (B 13), (B 10), (B 13), (B 10), (B 129), (B 133), (B 1), (B 2), (B 3), (B 4), (B 82), (B 87), (B 65), (B 36), (B 96)]),
  .c 1109 1 307 0 4 (L [(I 4), (I 1), (I 0), (.slice (bid 1658) 0 4 4 true 1)]),
  .c 1110 1 310 0 4 (L [(I 2), (I 0), (I 0), .nilslice]),
  .c 1111 1 251 0 7 (L [(.ptr (bid 1109) 0), (.ptr (bid 1110) 0), .nilptr, .nilptr, (.bool false), (.bool false), (.bool false)]),
  .c 1115 1 261 0 13 (L [(.str 0 0), (.str 0 0), (.bool false), (.str 0 0), (.str 0 0), (.str 0 0), (I 0), .nilslice, (.str 0 0), (.bool false), (I 0), .nilptr, (I 0)]),
  .c 1116 1 157 0 7 (L [(.func (bid 74) .nl (L [(.ptr (bid 1059) 0)])), (I 100), (I 2), (.ptr (bid 1115) 0), (.ptr (bid 1664) 0), (.ptr (bid 1111) 0), (.bool false)]),
  .c 1125 1 207 0 4 (L [(I 0), (I 20), (I 1), (I 20)]),
  .c 1126 1 268 0 4 (L [(I 65536), (I 153), (.slice (bid 1150) 0 153 153 false 1), (.bool true)]),
  .c 1127 1 151 0 8 (L [(.bool false), (.bool false), (.bool false), (.bool false), (.ptr (bid 1126) 0), (.slice (bid 1677) 0 129 129 false 1), (I 0), (.int .i64 (.negSucc 128))]),
  .c 1128 1 101 0 3 (L [(.ptr (bid 1127) 0), (.ptr (bid 1116) 0), (.bool false)]),
  .c 1130 1 96 0 2 (L [(.ptr (bid 1085) 0), (.ptr (bid 1128) 0)]),
  .c 1150 1 5 0 153 (L [(B 71), (B 69), (B 84), (B 32), (B 47), (B 119), (B 115), (B 32), (B 72), (B 84), (B 84), (B 80), (B 47), (B 49), (B 46), (B 49), (B 13), (B 10), (B 72), (B 111), (B 115), (B 116), (B 58), (B 32), (B 97), (B 13), (B 10), (B 85), (B 112), (B 103), (B 114), (B 97), (B 100), (B 101), (B 58), (B 32), (B 119), (B 101), (B 98), (B 115), (B 111), (B 99), (B 107), (B 101), (B 116), (B 13), (B 10), (B 67), (B 111), (B 110), (B 110), (B 101), (B 99), (B 116), (B 105), (B 111), (B 110), (B 58), (B 32), (B 85), (B 112), (B 103), (B 114), (B 97), (B 100), (B 101), (B 13), (B 10), (B 83), (B 101), (B 99), (B 45), (B 87), (B 101), (B 98), (B 83), (B 111), (B 99), (B 107), (B 101), (B 116), (B 45), (B 75), (B 101), (B 121), (B 58), (B 32), (B 100), (B 71), (B 104), (B 108), (B 73), (B 72), (B 78), (B 104), (B 98), (B 88), (B 66), (B 115), (B 90), (B 83), (B 66), (B 117), (B 98), (B 50), (B 53), (B 106), (B 90), (B 81), (B 61), (B 61), (B 13), (B 10), (B 83), (B 101), (B 99), (B 45), (B 87), (B 101), (B 98), (B 83), (B 111), (B 99), (B 107), (B 101), (B 116), (B 45), (B 86), (B 101), (B 114), (B 115), (B 105), (B 111), (B 110), (B 58), (B 32), (B 49), (B 51), (B 13), (B 10), (B 13), (B 10), (B 129), (B 133), (B 1), (B 2), (B 3), (B 4), (B 82), (B 87), (B 65), (B 36), (B 96)]),
  .c 1410 1 9 0 4 (L [(.str 0 0), (.str 0 0), (.str 0 0), (.str 0 0)]),
  .c 1414 1 313 0 11 (L [(I 100), (.bool true), (I 0), (I 0), (I 0), .nilptr, .nilslice, (.ptr (bid 1704) 0), (.bool false), (.bool true), (I 0)]),
  .c 1415 1 317 0 14 (L [(.bool true), (I 0), (.str 0 0), (.bool true), (I 0), (I 1), (.bool true), (B 1), (B 2), (B 3), (B 4), (.int .u64 (.ofNat 5)), (.bool true), (I 5)]),
  .c 1416 1 258 0 5 (L [(.ptr (bid 1415) 0), (.ptr (bid 1414) 0), (I 1), (I 0), (.str 0 0)]),
  .c 1429 1 5 0 129 (L [(B 72), (B 84), (B 84), (B 80), (B 47), (B 49), (B 46), (B 49), (B 32), (B 49), (B 48), (B 49), (B 32), (B 83), (B 119), (B 105), (B 116), (B 99), (B 104), (B 105), (B 110), (B 103), (B 32), (B 80), (B 114), (B 111), (B 116), (B 111), (B 99), (B 111), (B 108), (B 115), (B 13), (B 10), (B 85), (B 112), (B 103), (B 114), (B 97), (B 100), (B 101), (B 58), (B 32), (B 119), (B 101), (B 98), (B 115), (B 111), (B 99), (B 107), (B 101), (B 116), (B 13), (B 10), (B 67), (B 111), (B 110), (B 110), (B 101), (B 99), (B 116), (B 105), (B 111), (B 110), (B 58), (B 32), (B 85), (B 112), (B 103), (B 114), (B 97), (B 100), (B 101), (B 13), (B 10), (B 83), (B 101), (B 99), (B 45), (B 87), (B 101), (B 98), (B 83), (B 111), (B 99), (B 107), (B 101), (B 116), (B 45), (B 65), (B 99), (B 99), (B 101), (B 112), (B 116), (B 58), (B 32), (B 115), (B 51), (B 112), (B 80), (B 76), (B 77), (B 66), (B 105), (B 84), (B 120), (B 97), (B 81), (B 57), (B 107), (B 89), (B 71), (B 122), (B 122), (B 104), (B 90), (B 82), (B 98), (B 75), (B 43), (B 120), (B 79), (B 111), (B 61), (B 13), (B 10), (B 13), (B 10)]),
  .c 1658 1 9 0 4 (L [(.str 0 0), (.str 0 0), (.str 0 0), (.str 0 0)]),
  .c 1662 1 313 0 11 (L [(I 100), (.bool true), (I 0), (I 0), (I 0), .nilptr, .nilslice, (.ptr (bid 1781) 0), (.bool false), (.bool true), (I 0)]),
  .c 1663 1 317 0 14 (L [(.bool true), (I 0), (.str 0 0), (.bool true), (I 0), (I 1), (.bool true), (B 1), (B 2), (B 3), (B 4), (.int .u64 (.ofNat 5)), (.bool true), (I 5)]),
  .c 1664 1 258 0 5 (L [(.ptr (bid 1663) 0), (.ptr (bid 1662) 0), (I 1), (I 0), (.str 0 0)]),
  .c 1677 1 5 0 129 (L [(B 72), (B 84), (B 84), (B 80), (B 47), (B 49), (B 46), (B 49), (B 32), (B 49), (B 48), (B 49), (B 32), (B 83), (B 119), (B 105), (B 116), (B 99), (B 104), (B 105), (B 110), (B 103), (B 32), (B 80), (B 114), (B 111), (B 116), (B 111), (B 99), (B 111), (B 108), (B 115), (B 13), (B 10), (B 85), (B 112), (B 103), (B 114), (B 97), (B 100), (B 101), (B 58), (B 32), (B 119), (B 101), (B 98), (B 115), (B 111), (B 99), (B 107), (B 101), (B 116), (B 13), (B 10), (B 67), (B 111), (B 110), (B 110), (B 101), (B 99), (B 116), (B 105), (B 111), (B 110), (B 58), (B 32), (B 85), (B 112), (B 103), (B 114), (B 97), (B 100), (B 101), (B 13), (B 10), (B 83), (B 101), (B 99), (B 45), (B 87), (B 101), (B 98), (B 83), (B 111), (B 99), (B 107), (B 101), (B 116), (B 45), (B 65), (B 99), (B 99), (B 101), (B 112), (B 116), (B 58), (B 32), (B 115), (B 51), (B 112), (B 80), (B 76), (B 77), (B 66), (B 105), (B 84), (B 120), (B 97), (B 81), (B 57), (B 107), (B 89), (B 71), (B 122), (B 122), (B 104), (B 90), (B 82), (B 98), (B 75), (B 43), (B 120), (B 79), (B 111), (B 61), (B 13), (B 10), (B 13), (B 10)]),
  .c 1704 1 396 0 6 (L [(I 0), (B 0), (B 0), (.int .i32 (.ofNat 97)), (I 5), (.bool false)]),
  .c 1759 1 9 0 1 (L [(.str 1 97)]),
  .c 1781 1 396 0 6 (L [(I 0), (B 0), (B 0), (.int .i32 (.ofNat 97)), (I 5), (.bool false)]),
  .c 1838 1 3 0 2 (L [(I 0), (I 1)]),
  .c 1840 1 9 0 1 (L [(.str 1 97)])]
end Go.Proofs.YtglocckckdjalaaGreatDoor
