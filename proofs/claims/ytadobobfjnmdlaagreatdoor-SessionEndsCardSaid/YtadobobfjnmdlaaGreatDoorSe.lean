/-
  Walks over package sha: a sum under way.
-/
import Derived.Test.YtadobobfjnmdlaaGreatDoorSb
import Derived.Lib.Repeat
import Derived.Laws.IdiomCopy
set_option linter.unnecessarySimpa false
set_option linter.unusedVariables false
set_option linter.unusedSimpArgs false
set_option maxHeartbeats 16000000
set_option maxRecDepth 100000
open Go.Lib (hid)
namespace Go.Proofs.YtadobobfjnmdlaaGreatDoor
open Go.RowKit
attribute [local go_sem] Oper.semAt_some
structure HashAt (b:Nat) (W:World) (bg:Bool) (h:W5) (rest:List UInt8) (n:Nat):Prop where
 c0:W.cell? ⟨b,0,none⟩=some (.bool bg)
 c1:W.cell? ⟨b,1,none⟩=some (.int .u32 h.a)
 c2:W.cell? ⟨b,2,none⟩=some (.int .u32 h.b)
 c3:W.cell? ⟨b,3,none⟩=some (.int .u32 h.c)
 c4:W.cell? ⟨b,4,none⟩=some (.int .u32 h.d)
 c5:W.cell? ⟨b,5,none⟩=some (.int .u32 h.e)
 c6:W.cell? ⟨b,6,none⟩=some (.string ⟨rest.toArray⟩)
 c7:W.cell? ⟨b,7,none⟩=some (.int .i64 n)
 fz:∀ o,W.frozen? ⟨b,o,none⟩=false
section
variable {b:Nat} {W W':World} {bg:Bool} {h:W5} {rest:List UInt8} {n:Nat}
theorem HashAt.gr (H:HashAt b W bg h rest n) (hg:Gr W W'):HashAt b W' bg h rest n :=
 ⟨hg.cell H.c0,hg.cell H.c1,hg.cell H.c2,hg.cell H.c3,hg.cell H.c4,hg.cell H.c5,hg.cell H.c6,hg.cell H.c7,fun o=>(Below.frozen hg (p:=⟨b,o,none⟩) (show b<_ from cell_lt H.c0)).trans (H.fz o)⟩
theorem HashAt.set0 (H:HashAt b W bg h rest n) (v:Bool):HashAt b (W.setCell ⟨b,0,none⟩ (.bool v)) v h rest n :=
 ⟨cell_set_same H.c0,cell_off H.c1 (by decide),cell_off H.c2 (by decide),cell_off H.c3 (by decide),cell_off H.c4 (by decide),cell_off H.c5 (by decide),cell_off H.c6 (by decide),cell_off H.c7 (by decide),fun o=>frozen_set.trans (H.fz o)⟩
theorem HashAt.set1 (H:HashAt b W bg h rest n) (v:Nat):HashAt b (W.setCell ⟨b,1,none⟩ (.int .u32 v)) bg { h with a:=v } rest n :=
 ⟨cell_off H.c0 (by decide),cell_set_same H.c1,cell_off H.c2 (by decide),cell_off H.c3 (by decide),cell_off H.c4 (by decide),cell_off H.c5 (by decide),cell_off H.c6 (by decide),cell_off H.c7 (by decide),fun o=>frozen_set.trans (H.fz o)⟩
theorem HashAt.set2 (H:HashAt b W bg h rest n) (v:Nat):HashAt b (W.setCell ⟨b,2,none⟩ (.int .u32 v)) bg { h with b:=v } rest n :=
 ⟨cell_off H.c0 (by decide),cell_off H.c1 (by decide),cell_set_same H.c2,cell_off H.c3 (by decide),cell_off H.c4 (by decide),cell_off H.c5 (by decide),cell_off H.c6 (by decide),cell_off H.c7 (by decide),fun o=>frozen_set.trans (H.fz o)⟩
theorem HashAt.set3 (H:HashAt b W bg h rest n) (v:Nat):HashAt b (W.setCell ⟨b,3,none⟩ (.int .u32 v)) bg { h with c:=v } rest n :=
 ⟨cell_off H.c0 (by decide),cell_off H.c1 (by decide),cell_off H.c2 (by decide),cell_set_same H.c3,cell_off H.c4 (by decide),cell_off H.c5 (by decide),cell_off H.c6 (by decide),cell_off H.c7 (by decide),fun o=>frozen_set.trans (H.fz o)⟩
theorem HashAt.set4 (H:HashAt b W bg h rest n) (v:Nat):HashAt b (W.setCell ⟨b,4,none⟩ (.int .u32 v)) bg { h with d:=v } rest n :=
 ⟨cell_off H.c0 (by decide),cell_off H.c1 (by decide),cell_off H.c2 (by decide),cell_off H.c3 (by decide),cell_set_same H.c4,cell_off H.c5 (by decide),cell_off H.c6 (by decide),cell_off H.c7 (by decide),fun o=>frozen_set.trans (H.fz o)⟩
theorem HashAt.set5 (H:HashAt b W bg h rest n) (v:Nat):HashAt b (W.setCell ⟨b,5,none⟩ (.int .u32 v)) bg { h with e:=v } rest n :=
 ⟨cell_off H.c0 (by decide),cell_off H.c1 (by decide),cell_off H.c2 (by decide),cell_off H.c3 (by decide),cell_off H.c4 (by decide),cell_set_same H.c5,cell_off H.c6 (by decide),cell_off H.c7 (by decide),fun o=>frozen_set.trans (H.fz o)⟩
theorem HashAt.set6 (H:HashAt b W bg h rest n) (v:List UInt8):HashAt b (W.setCell ⟨b,6,none⟩ (.string ⟨v.toArray⟩)) bg h v n :=
 ⟨cell_off H.c0 (by decide),cell_off H.c1 (by decide),cell_off H.c2 (by decide),cell_off H.c3 (by decide),cell_off H.c4 (by decide),cell_off H.c5 (by decide),cell_set_same H.c6,cell_off H.c7 (by decide),fun o=>frozen_set.trans (H.fz o)⟩
theorem HashAt.set7 (H:HashAt b W bg h rest n) (v:Nat):HashAt b (W.setCell ⟨b,7,none⟩ (.int .i64 v)) bg h rest v :=
 ⟨cell_off H.c0 (by decide),cell_off H.c1 (by decide),cell_off H.c2 (by decide),cell_off H.c3 (by decide),cell_off H.c4 (by decide),cell_off H.c5 (by decide),cell_off H.c6 (by decide),cell_set_same H.c7,fun o=>frozen_set.trans (H.fz o)⟩
def setH (W:World) (b:Nat) (x:W5):World:=((((W.setCell ⟨b,1,none⟩ (.int .u32 x.a)).setCell ⟨b,2,none⟩ (.int .u32 x.b)).setCell ⟨b,3,none⟩ (.int .u32 x.c)).setCell ⟨b,4,none⟩ (.int .u32 x.d)).setCell ⟨b,5,none⟩ (.int .u32 x.e)
theorem HashAt.setH (H:HashAt b W bg h rest n) (x:W5):HashAt b (setH W b x) bg x rest n :=
 ((((H.set1 x.a).set2 x.b).set3 x.c).set4 x.d).set5 x.e
theorem ch_set (W:World) (b o:Nat) (v:Value):Ch (·=b) W (W.setCell ⟨b,o,none⟩ v):=Ch.setCell (T:=(·=b)) W (a:=⟨b,o,none⟩) rfl v
theorem ch_setH (W:World) (b:Nat) (x:W5):Ch (·=b) W (Go.Proofs.YtadobobfjnmdlaaGreatDoor.setH W b x) :=
 ((((ch_set _ _ _ _).trans (ch_set _ _ _ _)).trans (ch_set _ _ _ _)).trans (ch_set _ _ _ _)).trans (ch_set _ _ _ _)
end
theorem after_later {W0:World} {x y:W5} {s:List UInt8} (hc:comp5 x s=y) (hs:s.length=64) (hx:x.ok) (v:Later (Gr W0)) :
  Calls Tryz.prog 247 #[.agg #[.int .u32 x.a,.int .u32 x.b,.int .u32 x.c,.int .u32 x.d,.int .u32 x.e],.string ⟨s.toArray⟩] v.w fun e w'=>e=.returned (.agg #[.int .u32 y.a,.int .u32 y.b,.int .u32 y.c,.int .u32 y.d,.int .u32 y.e])∧∃ z:Later (Gr W0),w'=z.w :=
 Calls.later ((after_any x s hs hx v.w).mono fun _ _ ⟨h1,h2⟩=>⟨by rw[hc] at h1;exact h1,v.ok.trans h2⟩)
def lenB:Value→Nat | .string s=>s.size | _=>0
theorem write_any (b:Nat) (bg:Bool) (h:W5) (rest s:List UInt8) (n:Nat) (W:World) (H:HashAt b W bg h rest n) (hok:h.ok) (hl:rest.length+s.length≤1000000) (hn:n+s.length≤1000000) :
  Calls Tryz.prog 213 #[.pointer (some ⟨b,0,none⟩),.string ⟨s.toArray⟩] W fun e W'=>e=.returned (.tuple #[]) ∧
   HashAt b W' true (absorb (if bg then h else first5) (rest++s)).1 (absorb (if bg then h else first5) (rest++s)).2 (n+s.length)∧Ch (·=b) W W':=by
 obtain⟨⟨yh,yr⟩,hy⟩:∃ y,absorb (if bg then h else first5) (rest++s)=y:=⟨_,rfl⟩
 rw[hy]
 obtain⟨m,hm⟩:∃ m,n+s.length=m:=⟨_,rfl⟩
 rw[hm]
 have hmI:(n:Int)+s.length=m:=by omega
 have hnI:(m:Int)≤1000000:=by omega
 obtain⟨u,hu⟩:∃ u,rest++s=u:=⟨_,rfl⟩
 have hcat:(⟨rest.toArray⟩:ByteArray)++⟨s.toArray⟩=⟨u.toArray⟩:=by rw[←hu];exact cat_mk rest s
 have hul:u.length≤1000000:=by rw[←hu,List.length_append];omega
 have hz:¬9223372036854775807<rest.length+s.length:=by omega
 rw[hu] at hy
 have H':=hid H
 have hok':=hid hok
 have hy':=hid hy
 have hul':=hid hul
 clear hu hy hl hn hm H hok hul
 have hbl:=cell_lt H'.out.c0
 have q0:=H'.out.c0
 have q7:=H'.out.c7
 have q6:=H'.out.c6
 have f7:=H'.out.fz 7
 cases bg with
 | true =>
  go_enter Tryz.func213,Tryz.ntmps213
  go_wp2
  clear q0 q7 q6 f7 hcat
  go_loopw [1] (fun a wx=>∃ (ux:List UInt8) (hx:W5) (rx:List UInt8),a=.string ⟨ux.toArray⟩∧ux.length≤1000000∧hx.ok∧absorb hx ux=(yh,yr)∧HashAt b wx true hx rx m∧Ch (·=b) W wx) (fun a _=>lenB a)
  case atStart=>exact⟨u,h,rest,rfl,hul'.out,hok'.out,hy'.out,H'.out.set7 m,ch_set _ _ _ _⟩
  case round =>
   obtain⟨ux,hx,rx,rfl,hul,hok,hab,H,hC⟩:=hrel
   have H2:=hid H
   have hok2:=hid hok
   have hC2:=hid hC
   have hab2:=hid hab
   clear H hok hC hab
   have hbl2:=cell_lt H2.out.c0
   by_cases h64:64≤ux.length
   ·have h64I:(64:Int)≤ux.length:=by omega
    have hx1:(⟨ux.toArray⟩:ByteArray).extract 0 64=⟨(ux.take 64).toArray⟩:=by rw[extract_mk];simp
    have hx2:(⟨ux.toArray⟩:ByteArray).extract 64 ux.length=⟨(ux.drop 64).toArray⟩:=by rw[extract_mk];simp
    obtain⟨z,hz2⟩:∃ z,comp5 hx (ux.take 64)=z:=⟨_,rfl⟩
    have hab3:=hid (show absorb z (ux.drop 64)=(yh,yr) by rw[←hz2,←absorb_long h64];exact hab2.out)
    have hzok:=hid (show z.ok by rw[←hz2];exact plus_ok _ _)
    have htk:=hid (show (ux.take 64).length=64 by rw[List.length_take];omega)
    have hdl:=hid (show (ux.drop 64).length≤1000000 by rw[List.length_drop];omega)
    have hdl2:=hid (show (ux.drop 64).length<ux.length by rw[List.length_drop];omega)
    obtain⟨ua,hua⟩:∃ l,ux.take 64=l:=⟨_,rfl⟩
    obtain⟨ub,hub⟩:∃ l,ux.drop 64=l:=⟨_,rfl⟩
    rw[hua] at hx1 hz2 htk
    rw[hub] at hx2 hab3 hdl hdl2
    have hz':=hid hz2
    clear hua hub hz2
    have e1:=H2.out.c1
    have e2:=H2.out.c2
    have e3:=H2.out.c3
    have e4:=H2.out.c4
    have e5:=H2.out.c5
    have t1:∀ v:Later (Gr wr),v.w.cell? ⟨b,1,none⟩=some (.int .u32 hx.a):=fun v=>v.ok.cell e1
    have t2:∀ v:Later (Gr wr),v.w.cell? ⟨b,2,none⟩=some (.int .u32 hx.b):=fun v=>v.ok.cell e2
    have t3:∀ v:Later (Gr wr),v.w.cell? ⟨b,3,none⟩=some (.int .u32 hx.c):=fun v=>v.ok.cell e3
    have t4:∀ v:Later (Gr wr),v.w.cell? ⟨b,4,none⟩=some (.int .u32 hx.d):=fun v=>v.ok.cell e4
    have t5:∀ v:Later (Gr wr),v.w.cell? ⟨b,5,none⟩=some (.int .u32 hx.e):=fun v=>v.ok.cell e5
    haveI:Nonempty (Later (Gr wr)):=⟨⟨wr,Gr.refl wr⟩⟩
    go_upto_region 7 with (fail)
    refine wp_region_later_tail (C:=Gr wr) 10 (by kernel_rfl) (by kernel_rfl) (Gr.drew' _) ?_
    simp only[List.take_succ_cons,List.take_zero,List.drop_succ_cons,List.drop_zero]
    repeat (go_big_quiet_step (with_reducible exact after_later hz'.out htk.out hok2.out _))
    refine wpQuiet_nil ?_
    intro w9 hg9
    have H9:=hid (H2.out.gr hg9)
    have hC9:=hid (hC2.out.trans (hg9.to_ch (·=b)))
    clear hg9 t1 t2 t3 t4 t5 e1 e2 e3 e4 e5
    have e1:=H9.out.c1
    have e2:=H9.out.c2
    have e3:=H9.out.c3
    have e4:=H9.out.c4
    have e5:=H9.out.c5
    have f1:=H9.out.fz 1
    have f2:=H9.out.fz 2
    have f3:=H9.out.fz 3
    have f4:=H9.out.fz 4
    have f5:=H9.out.fz 5
    go_wp2
    go_roundw
    case rel=>exact⟨ub,z,rx,rfl,hdl.out,hzok.out,hab3.out,H9.out.setH z,hC9.out.trans (ch_setH w9 b z)⟩
    case measure=>(show (⟨ub.toArray⟩:ByteArray).size<(⟨ux.toArray⟩:ByteArray).size);rw[size_mk,size_mk];exact hdl2.out
   ·have h64I:¬(64:Int)≤ux.length:=by omega
    have hend:=hid (show hx=yh∧ux=yr by have:=hab2.out;rw[absorb_short (by omega)] at this;injection this with h1 h2;exact⟨h1,h2⟩)
    have e6:=H2.out.c6
    have f6:=H2.out.fz 6
    go_wp2
    go_end0
    refine⟨rfl,?_,hC2.out.trans (ch_set _ _ _ _)⟩
    rw[←hend.out.1,←hend.out.2]
    exact H2.out.set6 ux
 | false =>
  obtain⟨x,hx⟩:∃ x:W5,first5=x:=⟨_,rfl⟩
  have hfirst:=hid shafirst_any
  unfold w5V at hfirst
  rw[hx] at hfirst
  have hxok:=hid (show x.ok from hx▸first_ok)
  have hy2:=hid (show absorb x u=(yh,yr) by rw[←hx];exact hy'.out)
  clear q0 q7 q6 f7 hx hy'
  have q0:=H'.out.c0
  go_enter Tryz.func213,Tryz.ntmps213
  go_wp2_with fail
  refine (hfirst.out _).mono ?_
  rintro e w1 ⟨rfl,hg⟩
  have H1:=hid (H'.out.gr hg)
  have hC1:=hid (hg.to_ch (·=b))
  have hbl1:=cell_lt H1.out.c0
  clear hg q0
  have q0:=H1.out.c0
  have q1:=H1.out.c1
  have q2:=H1.out.c2
  have q3:=H1.out.c3
  have q4:=H1.out.c4
  have q5:=H1.out.c5
  have q6:=H1.out.c6
  have q7:=H1.out.c7
  have f0:=H1.out.fz 0
  have f1:=H1.out.fz 1
  have f2:=H1.out.fz 2
  have f3:=H1.out.fz 3
  have f4:=H1.out.fz 4
  have f5:=H1.out.fz 5
  have f7:=H1.out.fz 7
  go_wp2
  clear q0 q1 q2 q3 q4 q5 q6 q7 f0 f1 f2 f3 f4 f5 f7 hcat
  go_loopw [1] (fun a wx=>∃ (ux:List UInt8) (hx:W5) (rx:List UInt8),a=.string ⟨ux.toArray⟩∧ux.length≤1000000∧hx.ok∧absorb hx ux=(yh,yr)∧HashAt b wx true hx rx m∧Ch (·=b) W wx) (fun a _=>lenB a)
  case atStart=>exact⟨u,x,rest,rfl,hul'.out,hxok.out,hy2.out,((H1.out.set0 true).setH x).set7 m,((hC1.out.trans (ch_set _ _ _ _)).trans (ch_setH _ _ x)).trans (ch_set _ _ _ _)⟩
  case round =>
   obtain⟨ux,hx,rx,rfl,hul,hok,hab,H,hC⟩:=hrel
   have H2:=hid H
   have hok2:=hid hok
   have hC2:=hid hC
   have hab2:=hid hab
   clear H hok hC hab
   have hbl2:=cell_lt H2.out.c0
   by_cases h64:64≤ux.length
   ·have h64I:(64:Int)≤ux.length:=by omega
    have hx1:(⟨ux.toArray⟩:ByteArray).extract 0 64=⟨(ux.take 64).toArray⟩:=by rw[extract_mk];simp
    have hx2:(⟨ux.toArray⟩:ByteArray).extract 64 ux.length=⟨(ux.drop 64).toArray⟩:=by rw[extract_mk];simp
    obtain⟨z,hz2⟩:∃ z,comp5 hx (ux.take 64)=z:=⟨_,rfl⟩
    have hab3:=hid (show absorb z (ux.drop 64)=(yh,yr) by rw[←hz2,←absorb_long h64];exact hab2.out)
    have hzok:=hid (show z.ok by rw[←hz2];exact plus_ok _ _)
    have htk:=hid (show (ux.take 64).length=64 by rw[List.length_take];omega)
    have hdl:=hid (show (ux.drop 64).length≤1000000 by rw[List.length_drop];omega)
    have hdl2:=hid (show (ux.drop 64).length<ux.length by rw[List.length_drop];omega)
    obtain⟨ua,hua⟩:∃ l,ux.take 64=l:=⟨_,rfl⟩
    obtain⟨ub,hub⟩:∃ l,ux.drop 64=l:=⟨_,rfl⟩
    rw[hua] at hx1 hz2 htk
    rw[hub] at hx2 hab3 hdl hdl2
    have hz':=hid hz2
    clear hua hub hz2
    have e1:=H2.out.c1
    have e2:=H2.out.c2
    have e3:=H2.out.c3
    have e4:=H2.out.c4
    have e5:=H2.out.c5
    have t1:∀ v:Later (Gr wr),v.w.cell? ⟨b,1,none⟩=some (.int .u32 hx.a):=fun v=>v.ok.cell e1
    have t2:∀ v:Later (Gr wr),v.w.cell? ⟨b,2,none⟩=some (.int .u32 hx.b):=fun v=>v.ok.cell e2
    have t3:∀ v:Later (Gr wr),v.w.cell? ⟨b,3,none⟩=some (.int .u32 hx.c):=fun v=>v.ok.cell e3
    have t4:∀ v:Later (Gr wr),v.w.cell? ⟨b,4,none⟩=some (.int .u32 hx.d):=fun v=>v.ok.cell e4
    have t5:∀ v:Later (Gr wr),v.w.cell? ⟨b,5,none⟩=some (.int .u32 hx.e):=fun v=>v.ok.cell e5
    haveI:Nonempty (Later (Gr wr)):=⟨⟨wr,Gr.refl wr⟩⟩
    go_upto_region 7 with (fail)
    refine wp_region_later_tail (C:=Gr wr) 10 (by kernel_rfl) (by kernel_rfl) (Gr.drew' _) ?_
    simp only[List.take_succ_cons,List.take_zero,List.drop_succ_cons,List.drop_zero]
    repeat (go_big_quiet_step (with_reducible exact after_later hz'.out htk.out hok2.out _))
    refine wpQuiet_nil ?_
    intro w9 hg9
    have H9:=hid (H2.out.gr hg9)
    have hC9:=hid (hC2.out.trans (hg9.to_ch (·=b)))
    clear hg9 t1 t2 t3 t4 t5 e1 e2 e3 e4 e5
    have e1:=H9.out.c1
    have e2:=H9.out.c2
    have e3:=H9.out.c3
    have e4:=H9.out.c4
    have e5:=H9.out.c5
    have f1:=H9.out.fz 1
    have f2:=H9.out.fz 2
    have f3:=H9.out.fz 3
    have f4:=H9.out.fz 4
    have f5:=H9.out.fz 5
    go_wp2
    go_roundw
    case rel=>exact⟨ub,z,rx,rfl,hdl.out,hzok.out,hab3.out,H9.out.setH z,hC9.out.trans (ch_setH w9 b z)⟩
    case measure=>(show (⟨ub.toArray⟩:ByteArray).size<(⟨ux.toArray⟩:ByteArray).size);rw[size_mk,size_mk];exact hdl2.out
   ·have h64I:¬(64:Int)≤ux.length:=by omega
    have hend:=hid (show hx=yh∧ux=yr by have:=hab2.out;rw[absorb_short (by omega)] at this;injection this with h1 h2;exact⟨h1,h2⟩)
    have e6:=H2.out.c6
    have f6:=H2.out.fz 6
    go_wp2
    go_end0
    refine⟨rfl,?_,hC2.out.trans (ch_set _ _ _ _)⟩
    rw[←hend.out.1,←hend.out.2]
    exact H2.out.set6 ux
theorem HashAt.fresh (W:World) (bg:Bool) (h:W5) (rest:List UInt8) (n:Nat) (t:TypeId):HashAt W.heap.size (W.alloc (.cells #[.bool bg,.int .u32 h.a,.int .u32 h.b,.int .u32 h.c,.int .u32 h.d,.int .u32 h.e,.string ⟨rest.toArray⟩,.int .i64 n] t)) bg h rest n :=
 let cs:List Value:=[.bool bg,.int .u32 h.a,.int .u32 h.b,.int .u32 h.c,.int .u32 h.d,.int .u32 h.e,.string ⟨rest.toArray⟩,.int .i64 n]
 ⟨cell_new7 W cs t 0 _ rfl,cell_new7 W cs t 1 _ rfl,cell_new7 W cs t 2 _ rfl,cell_new7 W cs t 3 _ rfl,cell_new7 W cs t 4 _ rfl,cell_new7 W cs t 5 _ rfl,cell_new7 W cs t 6 _ rfl,cell_new7 W cs t 7 _ rfl,fun o=>World.frozen?_alloc_at _ _ _ _ rfl⟩
theorem step_copy {P:Program} {w:World} {ops:Array Oper} {o:Oper} {a:Act} {K:Act→World→Prop} {Q:Exit→Act→World→Prop} {E:Prop} (hgd:o.guard=none) (s x:Operand) (t u elem:TypeId)
  (ho:o.op=.call { callee:=.builtin .copy,args:=#[s,x],argTypes:=#[t,u] }) (b off dLen dCap:Nat) (a0:Addr) (sLen sCap:Nat) (cs:List Value)
  (hs:a.eval s=.slice (some ⟨b,off,none⟩) dLen dCap) (hx:a.eval x=.slice (some a0) sLen sCap) (hu:P.underlying t=some (.slice elem)) (hz:(P.info? elem).map (·.size)=some 1) (hn:cs.length=Nat.min sLen dLen)
  (hsrc:∀ j v,cs[j]?=some v→w.cell? (a0.add j)=some v) (hc:∀ j,j<cs.length→(w.cell? ⟨b,off+j,none⟩).isSome=true) (hf:∀ j,j<cs.length→w.frozen? ⟨b,off+j,none⟩=false) (h1:∀ v∈cs,v.oneCell'=true)
  (h:K (a.put o.dst (goInt cs.length)) (w.setCells b off cs)) :
  if Region.wanted o (yielded ops a.tmps)=true then Oper.wp P o a w K Q else E:=by
 have hw:Region.wanted o (yielded ops a.tmps)=true:=by simp[Region.wanted,hgd]
 rw[if_pos hw]
 have hr:=run_copy_cells (P:=P) w t u o.type elem b off dLen dCap a0 sLen sCap cs hu hz hn hsrc hc hf h1
 unfold Oper.wp execOp
 simp only[ho,resolve,invoke,builtin,Sem.run_bind,Sem.run_pure,Result.andThen_ok,List.map_toArray,List.map_cons,List.map_nil,hs,hx,hr]
 exact h
def OutAt (W:World) (b:Nat) (l:List UInt8):Prop:=(∀ j,j<20→W.cell? ⟨b,j,none⟩=some (.int .u8 ((l.getD j 0).toNat:Int)))∧∀ j,W.frozen? ⟨b,j,none⟩=false
theorem OutAt.lt {W:World} {b:Nat} {l:List UInt8} (h:OutAt W b l):b<W.heap.size:=cell_lt (h.1 0 (by decide))
theorem OutAt.ch {T:Nat→Prop} {W W':World} {b:Nat} {l:List UInt8} (h:OutAt W b l) (hc:Ch T W W') (hb:¬T b):OutAt W' b l :=
 ⟨fun j hj=>(hc.cell (p:=⟨b,j,none⟩) h.lt hb).trans (h.1 j hj),fun j=>(hc.frozen (p:=⟨b,j,none⟩) h.lt hb).trans (h.2 j)⟩
theorem OutAt.gr {W W':World} {b:Nat} {l:List UInt8} (h:OutAt W b l) (hg:Gr W W'):OutAt W' b l:=h.ch (hg.to_ch (fun _=>False)) (fun h=>h)
def outN (h:W5):Nat→List UInt8
 | 0=>[]
 | i+1=>outN h i++beB (h.at i) 4
theorem outN_len (h:W5):∀ i,(outN h i).length=4*i
 | 0=>rfl
 | i+1=>by rw[outN,List.length_append,outN_len h i,beB_len];omega
theorem outN_all (h:W5):outN h 5=outL h:=by simp[outN,outL,W5.at]
theorem at_lt {h:W5} (hk:h.ok):∀ i,h.at i<4294967296
 | 0=>hk.a | 1=>hk.b | 2=>hk.c | 3=>hk.d | _+4=>hk.e
theorem OutAt.next {W:World} {b:Nat} {l x:List UInt8} (h:OutAt W b l) (hx:l.length+x.length≤20):OutAt (W.setCells b l.length (bcells x)) b (l++x):=by
 refine⟨fun j hj=>?_,fun j=>by rw[World.frozen?_setCells];exact h.2 j⟩
 by_cases h1:j<l.length
 ·rw[World.cell?_setCells_out b _ _ W ⟨b,j,none⟩ (fun _ _=>.inl h1),h.1 j hj]
  simp[List.getD_eq_getElem?_getD,List.getElem?_append_left h1]
 ·by_cases h2:j<l.length+x.length
  ·have e:j=l.length+(j - l.length):=by omega
   have hb:j - l.length<(bcells x).length:=by rw[bcells_len];omega
   rw[e,World.cell?_setCells_in b (bcells x) l.length W (fun i hi=>by rw[h.1 _ (by rw[bcells_len] at hi;omega)];rfl) (j - l.length) hb]
   have hx2:j - l.length<x.length:=by omega
   simp[bcells,List.getD_eq_getElem?_getD,hx2]
  ·rw[World.cell?_setCells_out b _ _ W ⟨b,j,none⟩ (fun _ _=>.inr (by rw[bcells_len];show _≤j;omega)),h.1 j hj]
   simp[List.getD_eq_getElem?_getD,List.getElem?_eq_none (show l.length≤j by omega),List.getElem?_eq_none (show (l++x).length≤j by rw[List.length_append];omega)]
theorem repeat_zero:∀ n,Lib.repeatL [0] n=List.replicate n 0
 | 0=>rfl
 | n+1=>by rw[Lib.repeatL,repeat_zero n];rfl
def bytesV (l:List UInt8):Value:=.agg (bcells l).toArray
def padOf (r n:Nat):List UInt8:=[128]++List.replicate ((120 - (r+1) % 64) % 64) 0++beB (n*8) 8
theorem sumM_any (b:Nat) (h:W5) (rest:List UInt8) (n:Nat) (W:World) (H:HashAt b W true h rest n) (hok:h.ok) (hr:rest.length<64) (hn:n≤900000) :
  Calls Tryz.prog 214 #[.pointer (some ⟨b,0,none⟩)] W fun e W'=>e=.returned (bytesV (outL (absorb h (rest++padOf rest.length n)).1))∧Gr W W':=by
 have H':=hid H
 have q0:=H.c0
 have q1:=H.c1
 have q2:=H.c2
 have q3:=H.c3
 have q4:=H.c4
 have q5:=H.c5
 have q6:=H.c6
 have q7:=H.c7
 have hbl:=cell_lt H.c0
 have hnI:(n:Int)≤900000:=by omega
 clear H
 obtain⟨⟨h1,r1⟩,hx1⟩:∃ x,absorb h (rest++[128])=x:=⟨_,rfl⟩
 obtain⟨z,hz⟩:∃ z,(120 - r1.length) % 64=z:=⟨_,rfl⟩
 obtain⟨⟨h2,r2⟩,hx2⟩:∃ x,absorb h1 (r1++List.replicate z 0)=x:=⟨_,rfl⟩
 obtain⟨⟨h3,r3⟩,hx3⟩:∃ x,absorb h2 (r2++beB (n*8) 8)=x:=⟨_,rfl⟩
 have hok1:h1.ok:=by have:=(absorb_ok _ (l:=rest++[128]) hok (Nat.le_refl _)).1;rwa [hx1] at this
 have hok2:h2.ok:=by have:=(absorb_ok _ (l:=r1++List.replicate z 0) hok1 (Nat.le_refl _)).1;rwa [hx2] at this
 have hok3:h3.ok:=by have:=(absorb_ok _ (l:=r2++beB (n*8) 8) hok2 (Nat.le_refl _)).1;rwa [hx3] at this
 have hl1:r1.length=(rest.length+1) % 64:=by have:=absorb_mod _ h (rest++[128]) (Nat.le_refl _);rw[hx1] at this;simpa using this
 have hl2:r2.length<64:=by have:=(absorb_ok _ (l:=r1++List.replicate z 0) hok1 (Nat.le_refl _)).2;rwa [hx2] at this
 have hall:(absorb h (rest++padOf rest.length n)).1=h3:=by
  have e:rest++padOf rest.length n=(rest++[128])++(List.replicate z 0++beB (n*8) 8):=by unfold padOf;rw[←hl1,hz];simp
  rw[e,absorb_app _ _ _ _ (Nat.le_refl _),hx1]
  dsimp only
  rw[←List.append_assoc,absorb_app _ _ _ _ (Nat.le_refl _),hx2]
  dsimp only
  rw[hx3]
 rw[hall]
 have hz64:z<64:=by omega
 have hl164:r1.length<64:=by omega
 have w1:=hid (fun b W H=>write_any b true h rest [128] n W H hok (by simp;omega) (by simp;omega))
 simp only[if_true,hx1] at w1
 have w2:=hid (fun b W H=>write_any b true h1 r1 (List.replicate z 0) (n+1) W H hok1 (by simp;omega) (by simp;omega))
 simp only[if_true,hx2] at w2
 have w3:=hid (fun b W m (hm:m≤910000) H=>write_any b true h2 r2 (beB (n*8) 8) m W H hok2 (by simp[beB_len];omega) (by simp[beB_len];omega))
 simp only[if_true,hx3] at w3
 obtain⟨N8,hN8⟩:∃ m,n*8=m:=⟨_,rfl⟩
 have hN8I:(n:Int)*8=N8:=by omega
 have hN8l:=hid (show N8<18446744073709551616 by omega)
 rw[hN8] at w3
 have hok3':=hid hok3
 have hz1:(120 - (r1.length:Int)) % 64=z:=by omega
 have hz2:(120 - (r1.length:Int)).tmod 64=z:=by rw[Int.tmod_eq_emod_of_nonneg (by omega)];exact hz1
 have hl1I:(r1.length:Int)<64:=by omega
 clear hx1 hx2 hx3 hok hok1 hok2 hok3 hl1 hl2 hall hz hr hN8
 go_enter Tryz.func214,Tryz.ntmps214
 go_wp2_with fail
 have o1:OutAt ((W.alloc (.cells #[.int .u8 0,.int .u8 0,.int .u8 0,.int .u8 0,.int .u8 0,.int .u8 0,.int .u8 0,.int .u8 0,.int .u8 0,.int .u8 0,.int .u8 0,.int .u8 0,.int .u8 0,.int .u8 0,.int .u8 0,.int .u8 0,.int .u8 0,.int .u8 0,.int .u8 0,.int .u8 0] 221)).alloc (.cells #[.bool true,.int .u32 h.a,.int .u32 h.b,.int .u32 h.c,.int .u32 h.d,.int .u32 h.e,.string ⟨rest.toArray⟩,.int .i64 n] 279)) W.heap.size []:=OutAt.gr (W:=W.alloc (.cells (Array.replicate 20 (.int .u8 0)) 221)) ⟨fun j hj=>(by
   simp only[World.cell?,World.alloc_heap_new]
   rw[Array.getElem?_replicate,if_pos hj];rfl),fun j=>World.frozen?_alloc_at _ _ _ _ rfl⟩ (Gr.alloc _ _)
 have g1:Gr W ((W.alloc (.cells #[.int .u8 0,.int .u8 0,.int .u8 0,.int .u8 0,.int .u8 0,.int .u8 0,.int .u8 0,.int .u8 0,.int .u8 0,.int .u8 0,.int .u8 0,.int .u8 0,.int .u8 0,.int .u8 0,.int .u8 0,.int .u8 0,.int .u8 0,.int .u8 0,.int .u8 0,.int .u8 0] 221)).alloc (.cells #[.bool true,.int .u32 h.a,.int .u32 h.b,.int .u32 h.c,.int .u32 h.d,.int .u32 h.e,.string ⟨rest.toArray⟩,.int .i64 n] 279)):=(Gr.alloc _ _).alloc1 _
 have k1:=HashAt.fresh (W.alloc (.cells #[.int .u8 0,.int .u8 0,.int .u8 0,.int .u8 0,.int .u8 0,.int .u8 0,.int .u8 0,.int .u8 0,.int .u8 0,.int .u8 0,.int .u8 0,.int .u8 0,.int .u8 0,.int .u8 0,.int .u8 0,.int .u8 0,.int .u8 0,.int .u8 0,.int .u8 0,.int .u8 0] 221)) true h rest n 279
 rw[World.size_alloc] at k1
 generalize ((W.alloc (.cells #[.int .u8 0,.int .u8 0,.int .u8 0,.int .u8 0,.int .u8 0,.int .u8 0,.int .u8 0,.int .u8 0,.int .u8 0,.int .u8 0,.int .u8 0,.int .u8 0,.int .u8 0,.int .u8 0,.int .u8 0,.int .u8 0,.int .u8 0,.int .u8 0,.int .u8 0,.int .u8 0] 221)).alloc (.cells #[.bool true,.int .u32 h.a,.int .u32 h.b,.int .u32 h.c,.int .u32 h.d,.int .u32 h.e,.string ⟨rest.toArray⟩,.int .i64 n] 279))=W1 at o1 g1 k1 ⊢
 obtain⟨b0,hb0⟩:∃ b,W.heap.size=b:=⟨_,rfl⟩
 obtain⟨b1,hb1⟩:∃ b,W.heap.size+1=b:=⟨_,rfl⟩
 rw[hb1] at k1
 rw[hb0] at o1
 have hb0':=hid hb0
 have hb1':=hid hb1
 have hne:=hid (show ¬(b0=b1) by omega)
 have hW1:=hid (show W.heap.size≤b1 by omega)
 rw[hb1]
 simp only[hb0]
 clear hb0 hb1 q0 q1 q2 q3 q4 q5 q6 q7 hbl
 refine (w1.out _ _ k1).mono ?_
 rintro e W2 ⟨rfl,k2,c2⟩
 have o2:=hid (o1.ch c2 hne.out)
 have g2:=hid (g1.ch c2 (fun k hk=>hk▸hW1.out))
 have k2':=hid k2
 clear o1 g1 k1 k2 c2
 have e6:=k2'.out.c6
 go_wp2_with fail
 refine (Tryz.strings_Repeat ⟨#[0]⟩ z W2 (by omega) (by show 1*z≤_;omega)).mono ?_
 rintro e W3 ⟨he,hg⟩
 rw[show (Lib.repeatL (⟨#[0]⟩:ByteArray).data.toList z)=List.replicate z 0 from repeat_zero z] at he
 subst he
 have o3:=hid (o2.out.gr hg)
 have g3:=hid (g2.out.trans hg)
 have k3:=hid (k2'.out.gr hg)
 clear hg e6
 go_wp2_with fail
 refine (w2.out _ _ k3.out).mono ?_
 rintro e W4 ⟨rfl,k4,c4⟩
 have o4:=hid (o3.out.ch c4 hne.out)
 have g4:=hid (g3.out.ch c4 (fun k hk=>hk▸hW1.out))
 have k4':=hid k4
 clear k4 c4
 go_wp2_with fail
 refine (putBig_any N8 8 (by decide) hN8l.out W4).mono ?_
 rintro e W5 ⟨v,rfl,hown,hg⟩
 have o5:=hid (o4.out.gr hg)
 have g5:=hid (g4.out.trans hg)
 have k5:=hid (k4'.out.gr hg)
 have hcv:=conv_all hown
 clear hg
 go_wp2_with fail
 refine (w3.out _ _ _ (by simp;omega) k5.out).mono ?_
 rintro e W6 ⟨rfl,k6,c6⟩
 have o6:=hid (o5.out.ch c6 hne.out)
 have g6:=hid (g5.out.ch c6 (fun k hk=>hk▸hW1.out))
 have k6':=hid k6
 clear k6 c6 hcv hown
 have e1:=k6'.out.c1
 have e2:=k6'.out.c2
 have e3:=k6'.out.c3
 have e4:=k6'.out.c4
 have e5:=k6'.out.c5
 go_wp2
 clear e1 e2 e3 e4 e5
 have g6':=g6.out
 go_loopw [31] (fun i wx=>∃ k:Nat,k≤5∧i=.int .i64 k∧OutAt wx b0 (outN h3 k)∧Gr W wx) (fun i _=>5 - (intOf i).toNat)
 case atStart=>exact⟨0,by omega,rfl,o6.out,g6'⟩
 case round =>
  obtain⟨k,hk,rfl,ho,hg⟩:=hrel
  have ho':=hid ho
  have hg':=hid hg
  clear ho hg g6'
  by_cases hk5:k<5
  ·have hk5I:(k:Int)<5:=by omega
   obtain⟨wv,hwv⟩:∃ x,h3.at k=x:=⟨_,rfl⟩
   have hwl:wv<4294967296:=hwv▸at_lt hok3'.out k
   have hwI:(wv:Int)<4294967296:=by omega
   have hwc:IntKind.u64.wrap (wv:Int)=wv:=by rw[Go.IntKind.wrap_u64];omega
   have hidx:(Instr.index 277 (.agg #[.int .u32 h3.a,.int .u32 h3.b,.int .u32 h3.c,.int .u32 h3.d,.int .u32 h3.e]) (.int .i64 k)).run Tryz.prog wr=.ok (.int .u32 wv) wr :=
    run_index_agg wr _ _ _ Tryz.underlying277 (Tryz.isAgg234 wr) (Tryz.sizeOf234 wr) hk5 (by
     rw[←hwv]
     match k,hk5 with
     | 0,_=>rfl
     | 1,_=>rfl
     | 2,_=>rfl
     | 3,_=>rfl
     | 4,_=>rfl)
   have hpb:=hid (fun w0=>putBig_any wv 4 (by decide) (by omega) w0)
   have hwv':=hid hwv
   clear hwv hwl
   have a1:IntKind.i64.wrap (4*(k:Int))=4*(k:Int):=IntWalk.i64_in _ (by omega)
   have a2:(4*(k:Int))≤20:=by omega
   have a3:0≤4*(k:Int):=by omega
   have a4:(4*(k:Int)).toNat=4*k:=by omega
   have a5:¬20=4*k:=by omega
   have a6:¬4*k=20:=by omega
   go_upto_region 11 with (fail)
   clear hidx
   go_region_held3 (fun _=>True) (trivial) (first | (go_at_call 249;refine (hpb.out _).mono ?_;rintro e w7 ⟨v9,rfl,hown,hg7⟩;have ho7:=hid (ho'.out.gr ((Gr.drew' _).trans hg7));have hg7':=hid ((hg'.out.drew).trans hg7);obtain⟨g9,cap9,hv9,hgb9,hgs9,hcells9,hcap9⟩:=OwnB.row hown (by rw[beB_len];decide);rw[beB_len] at hv9;subst hv9;have hown':=hid hown;clear hown hg7 hcells9) | (refine step_copy (by rfl) (.tmp 37) (.tmp 40) 100 100 5 (by rfl) b0 (4*k) (20 - 4*k) (20 - 4*k) ⟨g9,0,none⟩ 4 cap9 (bcells (beB wv 4)) (by rfl) (by rfl) Tryz.underlying100 (by kernel_rfl) (by rw[bcells_len,beB_len];exact (Nat.min_eq_left (by omega)).symm) (fun j u hj=>World.ownsRow.cells hown'.out (g:=g9) rfl j u hj) (fun j hj=>by rw[ho7.out.1 _ (by rw[bcells_len,beB_len] at hj;omega)];rfl) (fun j _=>ho7.out.2 _) (bcells_one _) ?_))
   go_wp2
   go_roundw
   case rel =>
    refine⟨k+1,by omega,by go_num,?_,Gr.setCells (Nat.le_of_eq hb0'.out) _ _ hg7'.out⟩
    have:=ho7.out.next (x:=beB wv 4) (by rw[outN_len,beB_len];omega)
    rw[outN_len] at this
    rw[outN,hwv'.out];exact this
   case measure=>simp[intOf];omega
  ·obtain rfl:k=5:=by omega
   have ho9:=hid (show OutAt wr b0 (outL h3) by rw[←outN_all];exact ho'.out)
   have hrng:wr.rangeAt b0 0 (bcells (outL h3)):=fun j v hv=>by
    have hj:j<(bcells (outL h3)).length:=(List.getElem?_eq_some_iff.1 hv).1
    rw[bcells_len,out_len] at hj
    rw[Nat.zero_add,ho9.out.1 j hj,←hv,bcells_get _ _ (by rw[out_len];exact hj)]
    simp[List.getD_eq_getElem?_getD,List.getElem?_eq_getElem (show j<(outL h3).length by rw[out_len];exact hj)]
   have hth:wr.there b0 0 (bcells (outL h3)).length:=fun j hj=>by
    rw[bcells_len,out_len] at hj
    rw[Nat.zero_add]
    exact⟨by rw[ho9.out.1 j hj];rfl,ho9.out.2 j⟩
   have hsz:(Tryz.prog.info? 221).map (·.size)=some (bcells (outL h3)).length:=by rw[bcells_len,out_len];kernel_rfl
   obtain⟨cs,hcs⟩:∃ cs,bcells (outL h3)=cs:=⟨_,rfl⟩
   have hone:∀ v∈cs,v.oneCell'=true:=hcs▸bcells_one _
   have hV:=hid (show bytesV (outL h3)=.agg cs.toArray by rw[←hcs];rfl)
   rw[hcs] at hrng hth hsz
   have hrng':=hid hrng
   have hth':=hid hth
   have hsz':=hid hsz
   have hone':=hid hone
   clear hrng hth hsz hone hcs
   go_upto_region 13 with (fail)
   refine wp_region_lit ?_
   refine wpList_load_mid rfl 221 _ rfl b0 0 rfl cs _ hrng'.out Tryz.underlying221 rfl hsz'.out ?_
   refine wpList_store_mid rfl 221 _ _ rfl b0 0 cs.toArray rfl rfl (by simpa using hth'.out) (by simpa using hsz'.out) (all_oneCell_toArray hone'.out) ?_
   have hat:=hid (World.rangeAt_setCells_same wr b0 0 cs hth'.out)
   have hg9:=hid (Gr.setCells (Nat.le_of_eq hb0'.out) cs 0 hg'.out)
   simp only[List.toList_toArray]
   generalize wr.setCells b0 0 cs=w9 at hat hg9 ⊢
   go_wp2
   refine bodyPost_ret (results_cell rfl rfl (run_loadVar_mid w9 b0 0 221 cs _ hat.out Tryz.underlying221 rfl hsz'.out)) rfl ⟨by rw[hV.out],hg9.out⟩
theorem shaNew_any (W:World):Calls Tryz.prog 212 #[] W fun e W'=>e=.returned (.pointer (some ⟨W.heap.size,0,none⟩))∧HashAt W.heap.size W' false ⟨0,0,0,0,0⟩ [] 0∧Gr W W':=by
 go_enter Tryz.func212,Tryz.ntmps212
 go_wp2
 refine bodyPost_ret (v:=.pointer (some ⟨W.heap.size,0,none⟩)) (by simp[results,Tryz.results212,go_sem]) rfl ⟨rfl,HashAt.fresh W false ⟨0,0,0,0,0⟩ [] 0 _,Gr.alloc _ _⟩
theorem sum_any (s:List UInt8) (hs:s.length≤900000) (w:World):Calls Tryz.prog 172 #[.string ⟨s.toArray⟩] w fun e w'=>e=.returned (bytesV (shaL s))∧Gr w w':=by
 obtain⟨⟨h1,r1⟩,hx⟩:∃ x,absorb first5 s=x:=⟨_,rfl⟩
 have hok:h1.ok:=by have:=(absorb_ok _ (l:=s) first_ok (Nat.le_refl _)).1;rwa [hx] at this
 have hl:r1.length<64:=by have:=(absorb_ok _ (l:=s) first_ok (Nat.le_refl _)).2;rwa [hx] at this
 have hm:r1.length=s.length % 64:=by have:=absorb_mod _ first5 s (Nat.le_refl _);rwa [hx] at this
 have hfin:outL (absorb h1 (r1++padOf r1.length s.length)).1=shaL s:=by
  unfold shaL
  have e:shaPad s=s++padOf r1.length s.length:=by
   unfold shaPad padOf zerosN
   rw[hm,show (s.length % 64+1) % 64=(s.length+1) % 64 by omega];simp
  rw[e,absorb_app _ first5 s _ (Nat.le_refl _),hx]
 have w1:=hid (fun b W H=>write_any b false ⟨0,0,0,0,0⟩ [] s 0 W H ⟨by decide,by decide,by decide,by decide,by decide⟩ (by simp;omega) (by omega))
 simp only[Bool.false_eq_true,if_false,List.nil_append,hx,Nat.zero_add] at w1
 have w2:=hid (fun b W H=>sumM_any b h1 r1 s.length W H hok hl hs)
 rw[hfin] at w2
 clear hx hok hl hm hfin
 go_enter Tryz.func172,Tryz.ntmps172
 go_wp2_with fail
 have o1:OutAt (w.alloc (.cells #[.int .u8 0,.int .u8 0,.int .u8 0,.int .u8 0,.int .u8 0,.int .u8 0,.int .u8 0,.int .u8 0,.int .u8 0,.int .u8 0,.int .u8 0,.int .u8 0,.int .u8 0,.int .u8 0,.int .u8 0,.int .u8 0,.int .u8 0,.int .u8 0,.int .u8 0,.int .u8 0] 221)) w.heap.size []:=(show OutAt (w.alloc (.cells (Array.replicate 20 (.int .u8 0)) 221)) w.heap.size [] from⟨fun j hj=>(by
   simp only[World.cell?,World.alloc_heap_new]
   rw[Array.getElem?_replicate,if_pos hj];rfl),fun j=>World.frozen?_alloc_at _ _ _ _ rfl⟩)
 have g1:Gr w (w.alloc (.cells #[.int .u8 0,.int .u8 0,.int .u8 0,.int .u8 0,.int .u8 0,.int .u8 0,.int .u8 0,.int .u8 0,.int .u8 0,.int .u8 0,.int .u8 0,.int .u8 0,.int .u8 0,.int .u8 0,.int .u8 0,.int .u8 0,.int .u8 0,.int .u8 0,.int .u8 0,.int .u8 0] 221)):=Gr.alloc _ _
 generalize (w.alloc (.cells #[.int .u8 0,.int .u8 0,.int .u8 0,.int .u8 0,.int .u8 0,.int .u8 0,.int .u8 0,.int .u8 0,.int .u8 0,.int .u8 0,.int .u8 0,.int .u8 0,.int .u8 0,.int .u8 0,.int .u8 0,.int .u8 0,.int .u8 0,.int .u8 0,.int .u8 0,.int .u8 0] 221))=W1 at o1 g1 ⊢
 obtain⟨b0,hb0⟩:∃ b,w.heap.size=b:=⟨_,rfl⟩
 rw[hb0] at o1
 simp only[hb0]
 have hb0':=hid hb0
 clear hb0
 have o1':=hid o1
 have g1':=hid g1
 clear o1 g1
 refine (shaNew_any W1).mono ?_
 rintro e W2 ⟨rfl,k2,hg⟩
 have o2:=hid (o1'.out.gr hg)
 have g2:=hid (g1'.out.trans hg)
 have k2':=hid k2
 have hz2:=hid (show b0<W1.heap.size from o1'.out.lt)
 have hz3:=hid (show w.heap.size≤W1.heap.size from g1'.out.size)
 clear k2 hg
 go_wp2_with fail
 refine (w1.out _ _ k2'.out).mono ?_
 rintro e W3 ⟨rfl,k3,c3⟩
 have o3:=hid (o2.out.ch c3 (by have:=hz2.out;omega))
 have g3:=hid (g2.out.ch c3 (fun k hk=>hk▸hz3.out))
 have k3':=hid k3
 clear k3 c3
 go_wp2_with fail
 refine (w2.out _ _ k3'.out).mono ?_
 rintro e W4 ⟨rfl,hg⟩
 have o4:=hid (o3.out.gr hg)
 have g4:=hid (g3.out.trans hg)
 clear hg
 have hlen:(bcells (shaL s)).length=20:=by rw[bcells_len];exact out_len _
 have hst:(storeCells ⟨b0,0,none⟩ (bcells (shaL s)) 0).run Tryz.prog W4=.ok () (W4.setCells b0 0 (bcells (shaL s))):=run_storeCells_cells b0 0 (bcells (shaL s)) 0 W4 (fun j hj=>by rw[hlen] at hj;rw[Nat.zero_add,o4.out.1 j hj];rfl) (fun j _=>by rw[Nat.zero_add];exact o4.out.2 j) (bcells_one _)
 have hat:=hid (World.rangeAt_setCells_same W4 b0 0 (bcells (shaL s)) (fun j hj=>by rw[hlen] at hj;rw[Nat.zero_add];exact⟨by rw[o4.out.1 j hj];rfl,o4.out.2 j⟩))
 have hg9:=hid (Gr.setCells (Nat.le_of_eq hb0'.out) (bcells (shaL s)) 0 g4.out)
 have hsz:=hid (show (Tryz.prog.info? 221).map (·.size)=some (bcells (shaL s)).length by rw[hlen];kernel_rfl)
 unfold bytesV
 obtain⟨cs,hcs⟩:∃ cs,bcells (shaL s)=cs:=⟨_,rfl⟩
 rw[hcs] at hst hlen hat hg9 hsz ⊢
 have hV:=hid (show bytesV (shaL s)=.agg cs.toArray by rw[←hcs];rfl)
 clear hcs
 go_wp2
 refine bodyPost_ret (results_cell rfl rfl (run_loadVar_mid _ b0 0 221 cs _ hat.out Tryz.underlying221 rfl hsz.out)) rfl ⟨by rw[hV.out],hg9.out⟩
end Go.Proofs.YtadobobfjnmdlaaGreatDoor
