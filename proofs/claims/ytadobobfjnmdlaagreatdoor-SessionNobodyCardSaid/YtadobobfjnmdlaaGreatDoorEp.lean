/-
  The laws of sessions: none, and one that nobody made. (Printed by mk_ep.py.)
-/
import Derived.Test.YtadobobfjnmdlaaGreatDoorEm
set_option linter.unnecessarySimpa false
set_option linter.unusedVariables false
set_option linter.unusedSimpArgs false
set_option maxHeartbeats 16000000
set_option maxRecDepth 100000
open Go.Lib (hid)
namespace Go.Proofs.YtadobobfjnmdlaaGreatDoor
open Go.RowKit Go.Shelf
attribute [local go_sem] Oper.semAt_some
def NoS (p:Value) (W:World):Prop:=p=.pointer none∨∃ b,p=.pointer (some ⟨b,0,none⟩)∧W.cell? ⟨b,5,none⟩=some (.pointer none)
theorem NoS.gr {p:Value} {W W':World} (h:NoS p W) (g:Gr W W'):NoS p W':=h.imp id fun ⟨b,e,c⟩=>⟨b,e,g.cell c⟩
section
variable {p:Value} {W:World}
theorem nobox_waits (W:World):Calls Tryz.prog 51 #[.pointer none] W fun e w'=>e=.returned (.bool false)∧W=w':=by
 have hn:=hid (show Calls Tryz.prog 74 #[.pointer none] W fun e w'=>e=.returned (.bool true)∧W=w' from by
  go_enter Tryz.func74,Tryz.ntmps74
  go_wp2
  go_ret
  exact ⟨rfl,rfl⟩)
 go_enter Tryz.func51,Tryz.ntmps51
 go_wp2_with (fail)
 refine hn.out.mono ?_
 rintro e w1 ⟨rfl,rfl⟩
 go_wp2
 go_ret
 exact ⟨rfl,rfl⟩
theorem nobox_ended (W:World):Calls Tryz.prog 50 #[.pointer none] W fun e w'=>e=.returned (.bool true)∧W=w':=by
 have hn:=hid (show Calls Tryz.prog 74 #[.pointer none] W fun e w'=>e=.returned (.bool true)∧W=w' from by
  go_enter Tryz.func74,Tryz.ntmps74
  go_wp2
  go_ret
  exact ⟨rfl,rfl⟩)
 go_enter Tryz.func50,Tryz.ntmps50
 go_wp2_with (fail)
 refine hn.out.mono ?_
 rintro e w1 ⟨rfl,rfl⟩
 go_wp2
 go_ret
 exact ⟨rfl,rfl⟩
theorem no_state (h:NoS p W):Calls Tryz.prog 20 #[p] W fun e w'=>e=.returned (.int .i64 3)∧W=w':=by
 rcases h with rfl | ⟨b,rfl,c5⟩
 all_goals
  go_enter Tryz.func20,Tryz.ntmps20
  go_wp2
  go_ret
  exact ⟨rfl,rfl⟩
theorem no_feed (h:NoS p W) (s:ByteArray):Calls Tryz.prog 12 #[p,.string s] W fun e w'=>e=.returned (.tuple #[])∧W=w':=by
 have hs:=hid (no_state h)
 rcases h with rfl | ⟨b,rfl,c5⟩
 all_goals
  go_enter Tryz.func12,Tryz.ntmps12
  go_wp2_with (fail)
  refine hs.out.mono ?_
  rintro e w1 ⟨rfl,rfl⟩
  go_wp2
  refine bodyPost_ret (v:=.tuple #[]) (by simp [results,Tryz.results12,go_sem]) rfl ?_
  exact ⟨rfl,rfl⟩
theorem no_finish (h:NoS p W):Calls Tryz.prog 16 #[p] W fun e w'=>e=.returned (.tuple #[])∧W=w':=by
 have hs:=hid (no_state h)
 rcases h with rfl | ⟨b,rfl,c5⟩
 all_goals
  go_enter Tryz.func16,Tryz.ntmps16
  go_wp2_with (fail)
  refine hs.out.mono ?_
  rintro e w1 ⟨rfl,rfl⟩
  go_wp2
  refine bodyPost_ret (v:=.tuple #[]) (by simp [results,Tryz.results16,go_sem]) rfl ?_
  exact ⟨rfl,rfl⟩
theorem no_hears (h:NoS p W):Calls Tryz.prog 21 #[p] W fun e w'=>e=.returned (.bool false)∧W=w':=by
 have hs:=hid (no_state h)
 rcases h with rfl | ⟨b,rfl,c5⟩
 all_goals
  go_enter Tryz.func21,Tryz.ntmps21
  go_wp2_with (fail)
  refine hs.out.mono ?_
  rintro e w1 ⟨rfl,rfl⟩
  go_wp2
  go_ret
  exact ⟨rfl,rfl⟩
theorem no_waiting (h:NoS p W):Calls Tryz.prog 22 #[p] W fun e w'=>e=.returned (.bool false)∧W=w':=by
 have hs:=hid (no_state h)
 rcases h with rfl | ⟨b,rfl,c5⟩
 all_goals
  go_enter Tryz.func22,Tryz.ntmps22
  go_wp2_with (fail)
  refine hs.out.mono ?_
  rintro e w1 ⟨rfl,rfl⟩
  go_wp2
  go_ret
  exact ⟨rfl,rfl⟩
theorem no_takes (h:NoS p W):Calls Tryz.prog 23 #[p] W fun e w'=>e=.returned (.bool false)∧W=w':=by
 have hs:=hid (no_state h)
 rcases h with rfl | ⟨b,rfl,c5⟩
 all_goals
  go_enter Tryz.func23,Tryz.ntmps23
  go_wp2_with (fail)
  refine hs.out.mono ?_
  rintro e w1 ⟨rfl,rfl⟩
  go_wp2
  go_ret
  exact ⟨rfl,rfl⟩
theorem no_fresh (h:NoS p W):Calls Tryz.prog 24 #[p] W fun e w'=>e=.returned (.bool false)∧W=w':=by
 have hs:=hid (no_state h)
 rcases h with rfl | ⟨b,rfl,c5⟩
 all_goals
  go_enter Tryz.func24,Tryz.ntmps24
  go_wp2_with (fail)
  refine hs.out.mono ?_
  rintro e w1 ⟨rfl,rfl⟩
  go_wp2
  go_ret
  exact ⟨rfl,rfl⟩
theorem no_stop (h:NoS p W):Calls Tryz.prog 30 #[p] W fun e w'=>e=.returned (.tuple #[])∧W=w':=by
 have hs:=hid (no_state h)
 have hh:=hid (no_hears h)
 rcases h with rfl | ⟨b,rfl,c5⟩
 all_goals
  go_enter Tryz.func30,Tryz.ntmps30
  go_wp2_with (fail)
  refine hs.out.mono ?_
  rintro e w1 ⟨rfl,rfl⟩
  go_wp2_with (fail)
  refine hh.out.mono ?_
  rintro e w1 ⟨rfl,rfl⟩
  go_wp2
  go_end0
  exact ⟨rfl,rfl⟩
theorem no_lapse (h:NoS p W):Calls Tryz.prog 17 #[p] W fun e w'=>e=.returned (.tuple #[])∧W=w':=by
 have hw:=hid (no_waiting h)
 have ht:=hid (no_stop h)
 rcases h with rfl | ⟨b,rfl,c5⟩
 all_goals
  go_enter Tryz.func17,Tryz.ntmps17
  go_wp2_with (fail)
  refine hw.out.mono ?_
  rintro e w1 ⟨rfl,rfl⟩
  go_wp2_with (fail)
  refine ht.out.mono ?_
  rintro e w1 ⟨rfl,rfl⟩
  go_wp2
  go_end0
  exact ⟨rfl,rfl⟩
theorem no_fail (h:NoS p W):Calls Tryz.prog 31 #[p] W fun e w'=>e=.returned (.tuple #[])∧W=w':=by
 rcases h with rfl | ⟨b,rfl,c5⟩
 all_goals
  go_enter Tryz.func31,Tryz.ntmps31
  go_wp2
  refine bodyPost_ret (v:=.tuple #[]) (by simp [results,Tryz.results31,go_sem]) rfl ?_
  exact ⟨rfl,rfl⟩
theorem no_out (h:NoS p W):Calls Tryz.prog 14 #[p] W fun e w'=>e=.returned (.tuple #[.string ⟨#[]⟩,.bool false,.bool false])∧W=w':=by
 rcases h with rfl | ⟨b,rfl,c5⟩
 all_goals
  go_enter Tryz.func14,Tryz.ntmps14
  go_wp2
  refine bodyPost_ret (v:=.tuple #[.string ⟨#[]⟩,.bool false,.bool false]) (by simp [results,Tryz.results14,go_sem]) rfl ?_
  exact ⟨rfl,rfl⟩
theorem no_next (h:NoS p W):Calls Tryz.prog 13 #[p] W fun e w'=>e=.returned (.tuple #[.agg #[.int .i64 0,.int .i64 0,.string ⟨#[]⟩],.bool false])∧Gr W w':=by
 have ht:=hid (no_takes (h.gr (Gr.alloc W (.cells #[.int .i64 0,.int .i64 0,.string ⟨#[]⟩] 28))))
 rcases h with rfl | ⟨b,rfl,c5⟩
 all_goals
  go_enter Tryz.func13,Tryz.ntmps13
  go_wp2_with (fail)
  refine ht.out.mono ?_
  rintro e w1 ⟨rfl,rfl⟩
  go_wp2
  refine bodyPost_ret (v:=.tuple #[.agg #[.int .i64 0,.int .i64 0,.string ⟨#[]⟩],.bool false]) (by simp [results,Tryz.results13,go_sem]) rfl ?_
  exact ⟨rfl,Gr.alloc _ _⟩
theorem no_send (h:NoS p W) (op:Int) (s:ByteArray):Calls Tryz.prog 15 #[p,.int .i64 op,.string s] W fun e w'=>(∃ n:Int,(n==0)=false∧e=.returned (.int .i64 n))∧W=w':=by
 have hh:=hid (no_hears h)
 rcases h with rfl | ⟨b,rfl,c5⟩
 ·clear hh
  go_enter Tryz.func15,Tryz.ntmps15
  go_wp2
  go_ret
  exact ⟨⟨2,rfl,rfl⟩,rfl⟩
 ·go_enter Tryz.func15,Tryz.ntmps15
  go_wp2_with (fail)
  refine hh.out.mono ?_
  rintro e w1 ⟨rfl,rfl⟩
  go_wp2
  go_ret
  exact ⟨⟨11,rfl,rfl⟩,rfl⟩
theorem no_Waits (h:NoS p W):Calls Tryz.prog 26 #[p] W fun e w'=>e=.returned (.bool false)∧W=w':=by
 have hb:=hid (nobox_waits W)
 rcases h with rfl | ⟨b,rfl,c5⟩
 ·go_enter Tryz.func26,Tryz.ntmps26
  go_wp2
  go_ret
  exact ⟨rfl,rfl⟩
 ·go_enter Tryz.func26,Tryz.ntmps26
  go_wp2_with (fail)
  refine hb.out.mono ?_
  rintro e w1 ⟨rfl,rfl⟩
  go_wp2
  go_ret
  exact ⟨rfl,rfl⟩
theorem no_Ended (h:NoS p W):Calls Tryz.prog 25 #[p] W fun e w'=>e=.returned (.bool true)∧W=w':=by
 have hb:=hid (nobox_ended W)
 rcases h with rfl | ⟨b,rfl,c5⟩
 ·go_enter Tryz.func25,Tryz.ntmps25
  go_wp2
  go_ret
  exact ⟨rfl,rfl⟩
 ·go_enter Tryz.func25,Tryz.ntmps25
  go_wp2_with (fail)
  refine hb.out.mono ?_
  rintro e w1 ⟨rfl,rfl⟩
  go_wp2
  go_ret
  exact ⟨rfl,rfl⟩
end
theorem run_eqfIn_nil {P:Program} (w:World) (d:Nat) {t:TypeId} {a b:Array TypeId} {v:Bool} (ht:P.underlying t=some (.func a b v)) :
  (Op.equalIn (d+1) t .nilFunc .nilFunc).run P w=.ok true w:=by
 simp [Op.equalIn,run_underlying ht]
theorem run_eqf_nil {P:Program} (w:World) {t:TypeId} {a b:Array TypeId} {v:Bool} (ht:P.underlying t=some (.func a b v)) :
  (binOp .eql t .nilFunc .nilFunc).run P w=.ok (.bool true) w:=by
 simp only [binOp]
 simp [Op.equal,Op.maxDepth,run_eqfIn_nil w 9999 ht]
structure NbAt (R b:Nat) (W:World):Prop where
 r0:W.cell? ⟨R,0,none⟩=some (.pointer none)
 r1:W.cell? ⟨R,1,none⟩=some (.pointer (some ⟨b,0,none⟩))
 c5:W.cell? ⟨b,5,none⟩=some (.pointer none)
theorem NbAt.gr {R b:Nat} {W W':World} (h:NbAt R b W) (g:Gr W W'):NbAt R b W':=⟨g.cell h.r0,g.cell h.r1,g.cell h.c5⟩
theorem new_nil (W:World):Calls Tryz.prog 10 #[.nilFunc,.int .i64 1,.int .i64 1] W fun e w'=>e=.returned (.tuple #[.pointer none,.int .i64 2])∧W=w':=by
 have hnf:=fun (w:World)=>run_eqf_nil (P:=Tryz.prog) w Tryz.underlying62
 go_enter Tryz.func10,Tryz.ntmps10
 go_wp2
 refine bodyPost_ret (v:=.tuple #[.pointer none,.int .i64 2]) (by simp [results,Tryz.results10,go_sem]) rfl ?_
 exact ⟨rfl,rfl⟩
theorem nobody28_any (s:List UInt8) (op:Int) (w:World) (hG:G w):Calls Tryz.prog 6 #[.string ⟨s.toArray⟩,.int .i64 op] w fun e w'=>e=.returned (.bool true)∧Gr w w':=by
 have hG':=hid hG
 have hnn:=hid (new_nil w)
 clear hG
 obtain ⟨s2,hs2⟩:∃ x:ByteArray,(if 1000<s.length then (⟨(s.take 1000).toArray⟩:ByteArray) else ⟨s.toArray⟩)=x:=⟨_,rfl⟩
 by_cases hl:1000<s.length
 ·rw [if_pos hl] at hs2
  have hI:(1000:Int)<s.length:=by omega
  go_enter Tryz.func6,Tryz.ntmps6
  go_wp2_with (fail)
  refine hnn.out.mono ?_
  rintro e w1 ⟨rfl,rfl⟩
  clear hnn
  go_upto_region 8 with (fail)
  obtain ⟨w1,hw1⟩:∃ w1,(w.alloc (.cells #[.nilFunc,.int .i64 0,.int .i64 0,.pointer none,.pointer none,.pointer none,.bool false] 67)).alloc (.cells #[.pointer none,.pointer (some ⟨w.heap.size,0,none⟩)] 32)=w1:=⟨_,rfl⟩
  try rw [hw1]
  have g1:=hid (show Gr w w1 from hw1▸(Gr.alloc _ _).alloc1 _)
  have n1:=hid (show NbAt (w.heap.size+1) w.heap.size w1 from by
   rw [←hw1]
   exact ⟨by simpa using cell_new7 (w.alloc (.cells #[.nilFunc,.int .i64 0,.int .i64 0,.pointer none,.pointer none,.pointer none,.bool false] 67)) [.pointer none,.pointer (some ⟨w.heap.size,0,none⟩)] 32 0 _ rfl,by simpa using cell_new7 (w.alloc (.cells #[.nilFunc,.int .i64 0,.int .i64 0,.pointer none,.pointer none,.pointer none,.bool false] 67)) [.pointer none,.pointer (some ⟨w.heap.size,0,none⟩)] 32 1 _ rfl,(Gr.alloc _ _).cell (cell_new7 _ _ _ 5 _ rfl)⟩)
  clear hw1
  go_loopw [35] (fun i wr=>∃ k:Nat,k≤2∧i=.int .i64 k∧NbAt (w.heap.size+1) w.heap.size wr∧Gr w wr) (fun i _=>2 - (intOf i).toNat)
  case atStart=>exact ⟨0,by decide,rfl,n1.out,g1.out⟩
  case round =>
   obtain ⟨k,hk,rfl,hn,hg⟩:=hrel
   clear n1 g1
   by_cases h2:k=2
   ·subst h2
    have hwk:=hid (wakes28_any wr (hG'.out.gr hg))
    have hg':=hid hg
    clear hn hg
    go_wp2_with (fail)
    refine hwk.out.mono ?_
    rintro e w2 ⟨rfl,g2⟩
    go_wp2
    go_ret
    exact ⟨rfl,hg'.out.trans g2⟩
   ·have r0:=hn.r0
    have r1:=hn.r1
    have hkI:(k:Int)<2:=by omega
    obtain ⟨pp,hpp,hcell⟩:∃ pp,NoS pp wr∧wr.cell? ⟨w.heap.size+1,k,none⟩=some pp:=by
     rcases (show k=0∨k=1 by omega) with rfl | rfl
     ·exact ⟨_,.inl rfl,r0⟩
     ·exact ⟨_,.inr ⟨_,rfl,hn.c5⟩,r1⟩
    have hn':=hid hn
    have hg':=hid hg
    have f1:=hid (fun s=>no_feed hpp s)
    have f2:=hid (no_finish hpp)
    have f3:=hid (no_stop hpp)
    have f4:=hid (no_lapse hpp)
    have f5:=hid (no_fail hpp)
    have f6:=hid (no_next hpp)
    have hpp':=hid hpp
    clear hn hg r0 r1 hpp
    go_wp2_with (fail)
    refine (f1.out _).mono ?_
    rintro e w1 ⟨rfl,rfl⟩
    go_wp2_with (fail)
    refine f2.out.mono ?_
    rintro e w1 ⟨rfl,rfl⟩
    go_wp2_with (fail)
    refine f3.out.mono ?_
    rintro e w1 ⟨rfl,rfl⟩
    go_wp2_with (fail)
    refine f4.out.mono ?_
    rintro e w1 ⟨rfl,rfl⟩
    go_wp2_with (fail)
    refine f5.out.mono ?_
    rintro e w1 ⟨rfl,rfl⟩
    go_wp2_with (fail)
    refine f6.out.mono ?_
    rintro e w2 ⟨rfl,g2⟩
    clear f1 f2 f3 f4 f5 f6
    go_upto_region 16 with (fail)
    have g3:=hid (g2.trans (Gr.alloc w2 (.cells #[.int .i64 0,.int .i64 0,.string ⟨#[]⟩] 28)))
    obtain ⟨w3,hw3⟩:∃ w3,w2.alloc (.cells #[.int .i64 0,.int .i64 0,.string ⟨#[]⟩] 28)=w3:=⟨_,rfl⟩
    rw [hw3] at g3
    rw [hw3]
    clear g2
    clear hw3
    have hp3:=hpp'.out.gr g3.out
    have n1:=hid (no_out hp3)
    have n2:=hid (fun o s=>no_send hp3 o s)
    have n3:=hid (no_state hp3)
    have n4:=hid (no_hears hp3)
    have n5:=hid (no_waiting hp3)
    have n6:=hid (no_fresh hp3)
    have n7:=hid (no_takes hp3)
    have n8:=hid (no_Waits hp3)
    have n9:=hid (no_Ended hp3)
    clear hp3
    go_wp2_with (fail)
    refine n1.out.mono ?_
    rintro e w1 ⟨rfl,rfl⟩
    go_wp2_with (fail)
    refine (n2.out _ _).mono ?_
    rintro e w1 ⟨⟨nz,hnz,rfl⟩,rfl⟩
    go_wp2_with (fail)
    refine n3.out.mono ?_
    rintro e w1 ⟨rfl,rfl⟩
    go_wp2_with (fail)
    refine n4.out.mono ?_
    rintro e w1 ⟨rfl,rfl⟩
    go_wp2_with (fail)
    refine n5.out.mono ?_
    rintro e w1 ⟨rfl,rfl⟩
    go_wp2_with (fail)
    refine n6.out.mono ?_
    rintro e w1 ⟨rfl,rfl⟩
    go_wp2_with (fail)
    refine n7.out.mono ?_
    rintro e w1 ⟨rfl,rfl⟩
    go_wp2_with (fail)
    refine n8.out.mono ?_
    rintro e w1 ⟨rfl,rfl⟩
    go_wp2_with (fail)
    refine n9.out.mono ?_
    rintro e w1 ⟨rfl,rfl⟩
    clear n1 n2 n3 n4 n5 n6 n7 n8 n9 hcell
    go_wp2
    go_roundw
    case rel=>exact ⟨k+1,by omega,by go_num,hn'.out.gr g3.out,hg'.out.trans g3.out⟩
    case measure=>simp [intOf];omega
 ·have hI:¬(1000:Int)<s.length:=by omega
  go_enter Tryz.func6,Tryz.ntmps6
  go_wp2_with (fail)
  refine hnn.out.mono ?_
  rintro e w1 ⟨rfl,rfl⟩
  clear hnn
  go_upto_region 8 with (fail)
  obtain ⟨w1,hw1⟩:∃ w1,(w.alloc (.cells #[.nilFunc,.int .i64 0,.int .i64 0,.pointer none,.pointer none,.pointer none,.bool false] 67)).alloc (.cells #[.pointer none,.pointer (some ⟨w.heap.size,0,none⟩)] 32)=w1:=⟨_,rfl⟩
  try rw [hw1]
  have g1:=hid (show Gr w w1 from hw1▸(Gr.alloc _ _).alloc1 _)
  have n1:=hid (show NbAt (w.heap.size+1) w.heap.size w1 from by
   rw [←hw1]
   exact ⟨by simpa using cell_new7 (w.alloc (.cells #[.nilFunc,.int .i64 0,.int .i64 0,.pointer none,.pointer none,.pointer none,.bool false] 67)) [.pointer none,.pointer (some ⟨w.heap.size,0,none⟩)] 32 0 _ rfl,by simpa using cell_new7 (w.alloc (.cells #[.nilFunc,.int .i64 0,.int .i64 0,.pointer none,.pointer none,.pointer none,.bool false] 67)) [.pointer none,.pointer (some ⟨w.heap.size,0,none⟩)] 32 1 _ rfl,(Gr.alloc _ _).cell (cell_new7 _ _ _ 5 _ rfl)⟩)
  clear hw1
  go_loopw [35] (fun i wr=>∃ k:Nat,k≤2∧i=.int .i64 k∧NbAt (w.heap.size+1) w.heap.size wr∧Gr w wr) (fun i _=>2 - (intOf i).toNat)
  case atStart=>exact ⟨0,by decide,rfl,n1.out,g1.out⟩
  case round =>
   obtain ⟨k,hk,rfl,hn,hg⟩:=hrel
   clear n1 g1
   by_cases h2:k=2
   ·subst h2
    have hwk:=hid (wakes28_any wr (hG'.out.gr hg))
    have hg':=hid hg
    clear hn hg
    go_wp2_with (fail)
    refine hwk.out.mono ?_
    rintro e w2 ⟨rfl,g2⟩
    go_wp2
    go_ret
    exact ⟨rfl,hg'.out.trans g2⟩
   ·have r0:=hn.r0
    have r1:=hn.r1
    have hkI:(k:Int)<2:=by omega
    obtain ⟨pp,hpp,hcell⟩:∃ pp,NoS pp wr∧wr.cell? ⟨w.heap.size+1,k,none⟩=some pp:=by
     rcases (show k=0∨k=1 by omega) with rfl | rfl
     ·exact ⟨_,.inl rfl,r0⟩
     ·exact ⟨_,.inr ⟨_,rfl,hn.c5⟩,r1⟩
    have hn':=hid hn
    have hg':=hid hg
    have f1:=hid (fun s=>no_feed hpp s)
    have f2:=hid (no_finish hpp)
    have f3:=hid (no_stop hpp)
    have f4:=hid (no_lapse hpp)
    have f5:=hid (no_fail hpp)
    have f6:=hid (no_next hpp)
    have hpp':=hid hpp
    clear hn hg r0 r1 hpp
    go_wp2_with (fail)
    refine (f1.out _).mono ?_
    rintro e w1 ⟨rfl,rfl⟩
    go_wp2_with (fail)
    refine f2.out.mono ?_
    rintro e w1 ⟨rfl,rfl⟩
    go_wp2_with (fail)
    refine f3.out.mono ?_
    rintro e w1 ⟨rfl,rfl⟩
    go_wp2_with (fail)
    refine f4.out.mono ?_
    rintro e w1 ⟨rfl,rfl⟩
    go_wp2_with (fail)
    refine f5.out.mono ?_
    rintro e w1 ⟨rfl,rfl⟩
    go_wp2_with (fail)
    refine f6.out.mono ?_
    rintro e w2 ⟨rfl,g2⟩
    clear f1 f2 f3 f4 f5 f6
    go_upto_region 16 with (fail)
    have g3:=hid (g2.trans (Gr.alloc w2 (.cells #[.int .i64 0,.int .i64 0,.string ⟨#[]⟩] 28)))
    obtain ⟨w3,hw3⟩:∃ w3,w2.alloc (.cells #[.int .i64 0,.int .i64 0,.string ⟨#[]⟩] 28)=w3:=⟨_,rfl⟩
    rw [hw3] at g3
    rw [hw3]
    clear g2
    clear hw3
    have hp3:=hpp'.out.gr g3.out
    have n1:=hid (no_out hp3)
    have n2:=hid (fun o s=>no_send hp3 o s)
    have n3:=hid (no_state hp3)
    have n4:=hid (no_hears hp3)
    have n5:=hid (no_waiting hp3)
    have n6:=hid (no_fresh hp3)
    have n7:=hid (no_takes hp3)
    have n8:=hid (no_Waits hp3)
    have n9:=hid (no_Ended hp3)
    clear hp3
    go_wp2_with (fail)
    refine n1.out.mono ?_
    rintro e w1 ⟨rfl,rfl⟩
    go_wp2_with (fail)
    refine (n2.out _ _).mono ?_
    rintro e w1 ⟨⟨nz,hnz,rfl⟩,rfl⟩
    go_wp2_with (fail)
    refine n3.out.mono ?_
    rintro e w1 ⟨rfl,rfl⟩
    go_wp2_with (fail)
    refine n4.out.mono ?_
    rintro e w1 ⟨rfl,rfl⟩
    go_wp2_with (fail)
    refine n5.out.mono ?_
    rintro e w1 ⟨rfl,rfl⟩
    go_wp2_with (fail)
    refine n6.out.mono ?_
    rintro e w1 ⟨rfl,rfl⟩
    go_wp2_with (fail)
    refine n7.out.mono ?_
    rintro e w1 ⟨rfl,rfl⟩
    go_wp2_with (fail)
    refine n8.out.mono ?_
    rintro e w1 ⟨rfl,rfl⟩
    go_wp2_with (fail)
    refine n9.out.mono ?_
    rintro e w1 ⟨rfl,rfl⟩
    clear n1 n2 n3 n4 n5 n6 n7 n8 n9 hcell
    go_wp2
    go_roundw
    case rel=>exact ⟨k+1,by omega,by go_num,hn'.out.gr g3.out,hg'.out.trans g3.out⟩
    case measure=>simp [intOf];omega
end Go.Proofs.YtadobobfjnmdlaaGreatDoor
