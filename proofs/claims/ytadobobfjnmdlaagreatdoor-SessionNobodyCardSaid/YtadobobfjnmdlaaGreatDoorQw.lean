/-
  The reader of frames in memory: data are told, or their end.
-/
import Derived.Test.YtadobobfjnmdlaaGreatDoorQr
import Derived.Test.YtadobobfjnmdlaaGreatDoorQa
import Derived.Test.YtadobobfjnmdlaaGreatDoorQb
import Derived.RangeFuncBound
import Derived.RangeFuncCalls
import Derived.Shelf.Abstract
import Derived.Shelf.RegionOpen
import Derived.TacticsInMore
import Derived.LoopNIn
import Derived.LoopIn
import Derived.BigGuardIn
set_option linter.unusedVariables false
set_option linter.unusedSimpArgs false
set_option maxHeartbeats 16000000
set_option maxRecDepth 100000
open Go.Lib (hid)
namespace Go.Proofs.YtadobobfjnmdlaaGreatDoor
open Go.RowKit Go.Shelf
attribute [local go_sem] Oper.semAt_some
theorem fmask_later (h:Hd) (a:Nat) (s:List UInt8) (W:World) (hs:s.length≤4611686018427387900) (y:Later (Gr W)) :
  Calls Tryz.prog 78 #[.agg #[.int .u8 h.k0.toNat,.int .u8 h.k1.toNat,.int .u8 h.k2.toNat,.int .u8 h.k3.toNat],.int .i64 a,.string ⟨s.toArray⟩] y.w fun e w'=>e=.returned (.string ⟨(maskH h a s).toArray⟩)∧∃ z:Later (Gr W),w'=z.w :=
 Calls.later ((fmask_any h a s y.w hs).mono fun _ w' ⟨h1,h2⟩=>⟨h1,y.ok.trans h2⟩)
theorem frgoes_fin {b:Nat} {W:World} {r:Fr} (k:FrS b W r) (hk:FrOk r) (h0:r.h.len - r.told=0) :
  Calls Tryz.prog 182 #[.pointer (some ⟨b,0,none⟩)] W (FrPost b W ({ r with st:=0 },some .fin)):=by
 obtain ⟨w1,hw1⟩:∃ w1,W.alloc (.cells #[.int .i64 0,.int .i64 0,.bool false,.int .i64 0,.string ⟨#[]⟩] 159)=w1:=⟨_,rfl⟩
 have g1:Gr W w1:=hw1▸Gr.alloc _ _
 have hz:=hid (hw1▸evZ_new W _:EvZ W.heap.size w1)
 have k1:=k.gr g1
 have hb:=k.lt
 have hbr:b≠W.heap.size:=by omega
 have hrb:W.heap.size≠b:=by omega
 have c1:=k1.c1
 have c11:=k1.h.c8
 have c13:=k1.c13
 have fz:=k1.fz
 have hb1:b<w1.heap.size:=k1.lt
 have k1':=hid k1
 have g1':=hid g1
 obtain ⟨_,hl2,hl3,_⟩:=hk
 obtain ⟨ln,hln⟩:∃ n,r.h.len=n:=⟨_,rfl⟩
 obtain ⟨td,htd⟩:∃ n,r.told=n:=⟨_,rfl⟩
 rw [hln] at c11 h0 hl2 hl3
 rw [htd] at c13 h0 hl3
 have hlf:(ln:Int) - td=0:=by omega
 have hlw:IntKind.i64.wrap (ln:Int)=ln:=IntWalk.i64_in _ (by omega)
 have hlI:(ln:Int)≤9223372036854775807:=by omega
 haveI:Nonempty (Later (Gr w1)):=⟨⟨w1,Gr.refl w1⟩⟩
 have t11:∀ y:Later (Gr w1),y.w.cell? ⟨b,11,none⟩=some (.int .u64 ln):=fun y=>y.ok.cell c11
 have t13:∀ y:Later (Gr w1),y.w.cell? ⟨b,13,none⟩=some (.int .i64 td):=fun y=>y.ok.cell c13
 clear k k1 g1 hln htd
 go_enter Tryz.func182,Tryz.ntmps182
 go_upto_region 1 with (fail)
 refine wp_region_later (C:=Gr w1) (by kernel_rfl) (by kernel_rfl) (Gr.drew' _) ?_
 repeat (go_big_quiet_step (fail))
 refine wpQuiet_nil ?_
 intro w9 hg9
 have d1:=hg9.cell c1
 have dz:∀ o,w9.frozen? ⟨b,o,none⟩=false:=fun o=>(Below.frozen hg9 (p:=⟨b,o,none⟩) hb1).trans (fz o)
 obtain ⟨z0,z1,z2,z3,z4,zf⟩:=hz.out.gr hg9
 have hlt:W.heap.size<w9.heap.size:=cell_lt z0
 have hb9:b<w9.heap.size:=cell_lt d1
 have hg9':=hid hg9
 clear t11 t13 c1 c11 c13 fz hg9
 go_wp2
 refine bodyPost_ret (v:=.tuple #[Fev.V .fin,.bool true]) (by simp [results,Tryz.results182,go_sem,Fev.V,z0,z1,z2,z3,z4,hlt,hbr,hrb]) rfl ⟨rfl,?_⟩
 exact ((k1'.out.gr hg9'.out).setSt 0).told5 ((g1'.out.to_ch _).trans ((hg9'.out.to_ch _).trans (Ch.setCell (T:=fun j=>j=b) _ (a:=⟨b,1,none⟩) rfl _))) hb (Nat.le_refl _) _ _ _ _ _
theorem frgoes_none {b:Nat} {W:World} {r:Fr} (k:FrS b W r) (hk:FrOk r) (h0:r.h.len - r.told≠0) (hm:min (r.h.len - r.told) r.inp.length=0) :
  Calls Tryz.prog 182 #[.pointer (some ⟨b,0,none⟩)] W (FrPost b W (r,none)):=by
 obtain ⟨w1,hw1⟩:∃ w1,W.alloc (.cells #[.int .i64 0,.int .i64 0,.bool false,.int .i64 0,.string ⟨#[]⟩] 159)=w1:=⟨_,rfl⟩
 have g1:Gr W w1:=hw1▸Gr.alloc _ _
 have hz:=hid (hw1▸evZ_new W _:EvZ W.heap.size w1)
 have k1:=k.gr g1
 have hb:=k.lt
 have hbr:b≠W.heap.size:=by omega
 have hrb:W.heap.size≠b:=by omega
 have c2:=k1.c2
 have c11:=k1.h.c8
 have c13:=k1.c13
 have fz:=k1.fz
 have hb1:b<w1.heap.size:=k1.lt
 have k1':=hid k1
 have g1':=hid g1
 obtain ⟨hil,hl2,hl3,_⟩:=hk
 obtain ⟨p,hp⟩:∃ p,r.inp=p:=⟨_,rfl⟩
 obtain ⟨ln,hln⟩:∃ n,r.h.len=n:=⟨_,rfl⟩
 obtain ⟨td,htd⟩:∃ n,r.told=n:=⟨_,rfl⟩
 rw [hp] at c2 hil hm
 rw [hln] at c11 h0 hl2 hl3 hm
 rw [htd] at c13 h0 hl3 hm
 obtain ⟨lf,hlfd⟩:∃ n,ln - td=n:=⟨_,rfl⟩
 rw [hlfd] at h0 hm
 have hlf:(ln:Int) - td=lf:=by omega
 have hlfI:((lf:Int)==0)=false:=beq_eq_false_iff_ne.2 (by omega)
 have hlw:IntKind.i64.wrap (ln:Int)=ln:=IntWalk.i64_in _ (by omega)
 have hlw2:IntKind.i64.wrap (lf:Int)=lf:=IntWalk.i64_in _ (by omega)
 have hlI:(ln:Int)≤9223372036854775807:=by omega
 obtain ⟨m,hmd⟩:∃ m,min lf p.length=m:=⟨_,rfl⟩
 have hmI:min (lf:Int) (p.length:Int)=m:=by omega
 rw [hmd] at hm
 haveI:Nonempty (Later (Gr w1)):=⟨⟨w1,Gr.refl w1⟩⟩
 have t11:∀ y:Later (Gr w1),y.w.cell? ⟨b,11,none⟩=some (.int .u64 ln):=fun y=>y.ok.cell c11
 have t13:∀ y:Later (Gr w1),y.w.cell? ⟨b,13,none⟩=some (.int .i64 td):=fun y=>y.ok.cell c13
 have hmp:m≤p.length:=by omega
 have hmlf:m≤lf:=by omega
 have hsumN:td+lf≤9223372036854775807:=by omega
 have hall:=hid (And.intro hp (And.intro hln (And.intro htd (And.intro hlfd hmd))))
 clear k k1 g1 hln htd hp hlfd hmd
 go_enter Tryz.func182,Tryz.ntmps182
 go_upto_region 1 with (fail)
 refine wp_region_later (C:=Gr w1) (by kernel_rfl) (by kernel_rfl) (Gr.drew' _) ?_
 repeat (go_big_quiet_step (fail))
 refine wpQuiet_nil ?_
 intro w9 hg9
 have d2:=hg9.cell c2
 have d13:=hg9.cell c13
 have dz:∀ o,w9.frozen? ⟨b,o,none⟩=false:=fun o=>(Below.frozen hg9 (p:=⟨b,o,none⟩) hb1).trans (fz o)
 have hz9:=hz.out.gr hg9
 have k9:=k1'.out.gr hg9
 have k9':=hid k9
 have hz9':=hid hz9
 have hlt:W.heap.size<w9.heap.size:=hz9.lt
 have hb9:b<w9.heap.size:=cell_lt d2
 have hg9':=hid (g1'.out.trans hg9)
 clear t11 t13 c2 c11 c13 fz hg9 hz k1' g1' hw1
 obtain ⟨z0,z1,z2,z3,z4,zf⟩:=hz9
 subst hm
 clear k9
 go_wp2
 refine bodyPost_ret (v:=.tuple #[ev0V,.bool false]) (by simp [results,Tryz.results182,go_sem,ev0V,z0,z1,z2,z3,z4,hlt,hbr,hrb]) rfl ⟨rfl,?_⟩
 exact k9'.out.told5 (hg9'.out.to_ch _) hb (Nat.le_refl _) _ _ _ _ _
theorem frgoes_piece {b:Nat} {W:World} {r:Fr} (k:FrS b W r) (hk:FrOk r) (h0:r.h.len - r.told≠0) (hm:min (r.h.len - r.told) r.inp.length≠0) :
  Calls Tryz.prog 182 #[.pointer (some ⟨b,0,none⟩)] W (FrPost b W ({ r with inp:=r.inp.drop (min (r.h.len - r.told) r.inp.length),told:=r.told+min (r.h.len - r.told) r.inp.length },some (.piece (maskH r.h r.told (r.inp.take (min (r.h.len - r.told) r.inp.length)))))):=by
 obtain ⟨w1,hw1⟩:∃ w1,W.alloc (.cells #[.int .i64 0,.int .i64 0,.bool false,.int .i64 0,.string ⟨#[]⟩] 159)=w1:=⟨_,rfl⟩
 have g1:Gr W w1:=hw1▸Gr.alloc _ _
 have hz:=hid (hw1▸evZ_new W _:EvZ W.heap.size w1)
 have k1:=k.gr g1
 have hb:=k.lt
 have hbr:b≠W.heap.size:=by omega
 have hrb:W.heap.size≠b:=by omega
 have c2:=k1.c2
 have c11:=k1.h.c8
 have c13:=k1.c13
 have fz:=k1.fz
 have hb1:b<w1.heap.size:=k1.lt
 have k1':=hid k1
 have g1':=hid g1
 obtain ⟨hil,hl2,hl3,_⟩:=hk
 obtain ⟨p,hp⟩:∃ p,r.inp=p:=⟨_,rfl⟩
 obtain ⟨ln,hln⟩:∃ n,r.h.len=n:=⟨_,rfl⟩
 obtain ⟨td,htd⟩:∃ n,r.told=n:=⟨_,rfl⟩
 rw [hp] at c2 hil hm
 rw [hln] at c11 h0 hl2 hl3 hm
 rw [htd] at c13 h0 hl3 hm
 obtain ⟨lf,hlfd⟩:∃ n,ln - td=n:=⟨_,rfl⟩
 rw [hlfd] at h0 hm
 have hlf:(ln:Int) - td=lf:=by omega
 have hlfI:((lf:Int)==0)=false:=beq_eq_false_iff_ne.2 (by omega)
 have hlw:IntKind.i64.wrap (ln:Int)=ln:=IntWalk.i64_in _ (by omega)
 have hlw2:IntKind.i64.wrap (lf:Int)=lf:=IntWalk.i64_in _ (by omega)
 have hlI:(ln:Int)≤9223372036854775807:=by omega
 obtain ⟨m,hmd⟩:∃ m,min lf p.length=m:=⟨_,rfl⟩
 have hmI:min (lf:Int) (p.length:Int)=m:=by omega
 rw [hmd] at hm
 haveI:Nonempty (Later (Gr w1)):=⟨⟨w1,Gr.refl w1⟩⟩
 have t11:∀ y:Later (Gr w1),y.w.cell? ⟨b,11,none⟩=some (.int .u64 ln):=fun y=>y.ok.cell c11
 have t13:∀ y:Later (Gr w1),y.w.cell? ⟨b,13,none⟩=some (.int .i64 td):=fun y=>y.ok.cell c13
 have hmp:m≤p.length:=by omega
 have hmlf:m≤lf:=by omega
 have hsumN:td+lf≤9223372036854775807:=by omega
 have hall:=hid (And.intro hp (And.intro hln (And.intro htd (And.intro hlfd hmd))))
 clear k k1 g1 hln htd hp hlfd hmd
 go_enter Tryz.func182,Tryz.ntmps182
 go_upto_region 1 with (fail)
 refine wp_region_later (C:=Gr w1) (by kernel_rfl) (by kernel_rfl) (Gr.drew' _) ?_
 repeat (go_big_quiet_step (fail))
 refine wpQuiet_nil ?_
 intro w9 hg9
 have d2:=hg9.cell c2
 have d13:=hg9.cell c13
 have dz:∀ o,w9.frozen? ⟨b,o,none⟩=false:=fun o=>(Below.frozen hg9 (p:=⟨b,o,none⟩) hb1).trans (fz o)
 have hz9:=hz.out.gr hg9
 have k9:=k1'.out.gr hg9
 have k9':=hid k9
 have hz9':=hid hz9
 have hlt:W.heap.size<w9.heap.size:=hz9.lt
 have hb9:b<w9.heap.size:=cell_lt d2
 have hg9':=hid (g1'.out.trans hg9)
 clear t11 t13 c2 c11 c13 fz hg9 hz k1' g1' hw1
 have hmz:((m:Int)==0)=false:=beq_eq_false_iff_ne.2 (by omega)
 clear hm hlf hlfI hlw hlw2 hz9
 go_upto_region 8 with (fail)
 haveI:Nonempty (Later (Gr w9)):=⟨⟨w9,Gr.refl w9⟩⟩
 obtain ⟨f0,f1,f2,f3,f4,f5,f6,f7,f8,f9⟩:=k9'.out.h
 have u4:∀ y:Later (Gr w9),y.w.cell? ⟨b,7,none⟩=some (.int .u8 r.h.k0.toNat):=fun y=>y.ok.cell f4
 have u5:∀ y:Later (Gr w9),y.w.cell? ⟨b,8,none⟩=some (.int .u8 r.h.k1.toNat):=fun y=>y.ok.cell f5
 have u6:∀ y:Later (Gr w9),y.w.cell? ⟨b,9,none⟩=some (.int .u8 r.h.k2.toNat):=fun y=>y.ok.cell f6
 have u7:∀ y:Later (Gr w9),y.w.cell? ⟨b,10,none⟩=some (.int .u8 r.h.k3.toNat):=fun y=>y.ok.cell f7
 have u2:∀ y:Later (Gr w9),y.w.cell? ⟨b,2,none⟩=some (.string ⟨p.toArray⟩):=fun y=>y.ok.cell d2
 have u13:∀ y:Later (Gr w9),y.w.cell? ⟨b,13,none⟩=some (.int .i64 td):=fun y=>y.ok.cell d13
 have hx1:(⟨p.toArray⟩:ByteArray).extract 0 m=⟨(p.take m).toArray⟩:=by rw [extract_mk];simp
 have hmk:=hid (fmask_later r.h td (p.take m) w9 (by rw [List.length_take];omega))
 obtain ⟨q,hq⟩:∃ q,maskH r.h td (p.take m)=q:=⟨_,rfl⟩
 rw [hq] at hmk
 have hq':=hid hq
 clear f0 f1 f2 f3 f4 f5 f6 f7 f8 f9 hq d2 d13 k9
 refine wp_region_later (C:=Gr w9) (by kernel_rfl) (by kernel_rfl) (Gr.drew' _) ?_
 repeat (go_big_quiet_step (with_reducible exact hmk.out _))
 refine wpQuiet_nil ?_
 intro wa hga
 have ka:=k9'.out.gr hga
 have hza:=hz9'.out.gr hga
 have e2:wa.cell? ⟨b,2,none⟩=some (.string ⟨p.toArray⟩):=u2 ⟨wa,hga⟩
 have e13:wa.cell? ⟨b,13,none⟩=some (.int .i64 td):=u13 ⟨wa,hga⟩
 have ez:=ka.fz
 have hba:b<wa.heap.size:=ka.lt
 have ka':=hid ka
 have hza':=hid hza
 have hga':=hid (hg9'.out.trans hga)
 have hx2:(⟨p.toArray⟩:ByteArray).extract m p.length=⟨(p.drop m).toArray⟩:=by rw [extract_mk];simp
 have hsum:IntKind.i64.wrap ((td:Int)+m)=(td:Int)+m:=IntWalk.i64_in _ (by omega)
 clear u2 u4 u5 u6 u7 u13 hmk ka hza hga hg9' k9' hz9' dz hb9 hlt hx1
 go_upto_region 9 with (fail)
 go_cut [] (fun wx=>FrS b wx { r with inp:=p.drop m,told:=td+m }∧Ch (fun j=>j=b) wa wx)
 case first =>
  clear hall hq' hza' hga' hb hbr hrb hmz hmI
  go_big_region
  all_goals
   go_wp2
   go_meet
   exact ⟨((ka'.out.setInp (p.drop m)).setTold (td+m)).gr (Gr.drew' _),((Ch.setCell (T:=fun j=>j=b) _ (a:=⟨b,2,none⟩) rfl _).trans (Ch.setCell (T:=fun j=>j=b) _ (a:=⟨b,13,none⟩) rfl _)).trans (Ch.drew _ _)⟩
 case rest =>
  obtain ⟨kc,hc⟩:=hcut
  obtain ⟨z0,z1,z2,z3,z4,zf⟩:=hza'.out.ch hc hrb
  have hltc:W.heap.size<wc.heap.size:=cell_lt z0
  have kc':=hid kc
  have hc':=hid hc
  clear kc hc e2 e13 ez
  go_wp2
  refine bodyPost_ret (v:=.tuple #[Fev.V (.piece q),.bool true]) (by simp [results,Tryz.results182,go_sem,Fev.V,z0,z1,z2,z3,z4,hltc,hbr,hrb]) rfl ?_
  obtain ⟨hp,hln,htd,hlfd,hmd⟩:=hall.out
  rw [hp,hln,htd,hlfd,hmd,hq'.out]
  exact ⟨rfl,kc'.out.told5 ((hga'.out.to_ch _).trans hc'.out) hb (Nat.le_refl _) (.int .i64 2) (.int .i64 0) (.bool false) (.int .i64 0) (.string ⟨q.toArray⟩)⟩
theorem frgoes_any {b:Nat} {W:World} {r:Fr} (k:FrS b W r) (hk:FrOk r) (h2:r.st≠2) (h0:r.st≠0) :
  Calls Tryz.prog 182 #[.pointer (some ⟨b,0,none⟩)] W (FrPost b W (frNext r)):=by
 unfold frNext
 rw [if_neg h2,if_neg h0]
 by_cases h:r.h.len - r.told=0
 ·rw [if_pos h];exact frgoes_fin k hk h
 ·rw [if_neg h]
  by_cases hm:min (r.h.len - r.told) r.inp.length=0
  ·rw [if_pos hm];exact frgoes_none k hk h hm
  ·rw [if_neg hm];exact frgoes_piece k hk h hm
structure Evp where
 a0:Int
 a1:Int
 a2:Bool
 a3:Int
 a4:List UInt8
def Evp.V (x:Evp):Value:=.agg #[.int .i64 x.a0,.int .i64 x.a1,.bool x.a2,.int .i64 x.a3,.string ⟨x.a4.toArray⟩]
def evp:Option Fev→Evp
 | none=>⟨0,0,false,0,[]⟩
 | some (.begin' f o n)=>⟨1,o,f,n,[]⟩
 | some (.piece s)=>⟨2,0,false,0,s⟩
 | some .fin=>⟨3,0,false,0,[]⟩
 | some .fail=>⟨4,0,false,0,[]⟩
theorem fevT_evp (o:Option Fev):fevT o=.tuple #[(evp o).V,.bool o.isSome]:=by
 cases o with
 | none=>rfl
 | some e=>cases e <;> rfl
theorem frstep_any {b:Nat} {W:World} {r:Fr} (k:FrS b W r) (hk:FrOk r) :
  Calls Tryz.prog 147 #[.pointer (some ⟨b,0,none⟩)] W (FrPost b W (frNext r)):=by
 obtain ⟨w1,hw1⟩:∃ w1,W.alloc (.cells #[.int .i64 0,.int .i64 0,.bool false,.int .i64 0,.string ⟨#[]⟩] 159)=w1:=⟨_,rfl⟩
 have g1:Gr W w1:=hw1▸Gr.alloc _ _
 have hz:=hw1▸evZ_new W 159
 have k1:=k.gr g1
 have hb:=k.lt
 have hbr:b≠W.heap.size:=by omega
 have hrb:W.heap.size≠b:=by omega
 have c1:=k1.c1
 have k1':=hid k1
 have g1':=hid g1
 have hz':=hid hz
 by_cases h2:r.st=2
 ·have hv:=hid (show frNext r=(r,none) by unfold frNext;rw [if_pos h2])
  rw [h2] at c1
  obtain ⟨z0,z1,z2,z3,z4,zf⟩:=hz
  clear k k1 g1
  go_enter Tryz.func147,Tryz.ntmps147
  go_wp2
  refine bodyPost_ret (v:=.tuple #[ev0V,.bool false]) (by simp [results,Tryz.results147,go_sem,ev0V,z0,z1,z2,z3,z4]) rfl ?_
  rw [hv.out]
  exact ⟨rfl,k1'.out.told5 (g1'.out.to_ch _) hb (Nat.le_refl _) _ _ _ _ _⟩
 ·have hI2:((r.st:Int)==2)=false:=beq_eq_false_iff_ne.2 (by omega)
  by_cases h0:r.st=0
  ·have hbg:=hid (frbegins_any k1 hk h0)
   rw [h0] at c1
   clear k k1 g1 hz h2 hI2
   go_enter Tryz.func147,Tryz.ntmps147
   go_wp2_with (fail)
   refine (hbg.out).mono ?_
   rintro e w2 ⟨rfl,k2,hc2⟩
   obtain ⟨z0,z1,z2,z3,z4,zf⟩:=hz'.out.ch hc2 hrb
   have k2':=hid k2
   have hc2':=hid hc2
   rw [fevT_evp]
   obtain ⟨x,hx⟩:∃ x,frNext r=x:=⟨_,rfl⟩
   have hx':=hid hx
   rw [hx]
   obtain ⟨y,hy⟩:∃ y,evp x.2=y:=⟨_,rfl⟩
   have hy':=hid hy
   rw [hy]
   obtain ⟨v,hv⟩:∃ v,x.2.isSome=v:=⟨_,rfl⟩
   have hv':=hid hv
   rw [hv]
   unfold Evp.V
   clear k2 hc2 hx hy hv hbg c1
   go_wp2
   refine bodyPost_ret (v:=.tuple #[y.V,.bool v]) (by simp [results,Tryz.results147,go_sem,Evp.V,z0,z1,z2,z3,z4]) rfl ⟨?_,?_⟩
   ·rw [fevT_evp,hx'.out,hy'.out,hv'.out]
   ·exact k2'.out.told5 ((g1'.out.to_ch _).trans hc2'.out) hb (Nat.le_refl _) _ _ _ _ _
  ·have hbg:=hid (frgoes_any k1 hk h2 h0)
   have hI0:((r.st:Int)==0)=false:=beq_eq_false_iff_ne.2 (by omega)
   clear k k1 g1 hz h2
   go_enter Tryz.func147,Tryz.ntmps147
   go_wp2_with (fail)
   refine (hbg.out).mono ?_
   rintro e w2 ⟨rfl,k2,hc2⟩
   obtain ⟨z0,z1,z2,z3,z4,zf⟩:=hz'.out.ch hc2 hrb
   have k2':=hid k2
   have hc2':=hid hc2
   rw [fevT_evp]
   obtain ⟨x,hx⟩:∃ x,frNext r=x:=⟨_,rfl⟩
   have hx':=hid hx
   rw [hx]
   obtain ⟨y,hy⟩:∃ y,evp x.2=y:=⟨_,rfl⟩
   have hy':=hid hy
   rw [hy]
   obtain ⟨v,hv⟩:∃ v,x.2.isSome=v:=⟨_,rfl⟩
   have hv':=hid hv
   rw [hv]
   unfold Evp.V
   clear k2 hc2 hx hy hv hbg c1
   go_wp2
   refine bodyPost_ret (v:=.tuple #[y.V,.bool v]) (by simp [results,Tryz.results147,go_sem,Evp.V,z0,z1,z2,z3,z4]) rfl ⟨?_,?_⟩
   ·rw [fevT_evp,hx'.out,hy'.out,hv'.out]
   ·exact k2'.out.told5 ((g1'.out.to_ch _).trans hc2'.out) hb (Nat.le_refl _) _ _ _ _ _
theorem frall_any (b:Nat) (W:World) :
  Calls Tryz.prog 120 #[.pointer (some ⟨b,0,none⟩)] W fun e w'=>e=.returned (.func (.func 146) #[] #[.pointer (some ⟨W.heap.size,0,none⟩)])∧W.alloc (.cells #[.pointer (some ⟨b,0,none⟩)] 116)=w':=by
 go_enter Tryz.func120,Tryz.ntmps120
 go_wp2
 go_ret
 exact ⟨rfl,rfl⟩
def encE (y:Evp):Array Value:=#[y.V]
def FrM (b:Nat) (r:Fr) (y:Evp) (W A:World):Prop:=(frNext r).2.isSome=true∧evp (frNext r).2=y∧FrS b A (frNext r).1∧Ch (fun j=>j=b) W A
def FrN (b:Nat) (r:Fr) (W A:World):Prop:=(frNext r).2.isSome=false∧FrS b A (frNext r).1∧Ch (fun j=>j=b) W A
theorem frall_iter {b:Nat} {W0:World} {r:Fr} (bv:Nat) (hv:W0.cell? ⟨bv,0,none⟩=some (.pointer (some ⟨b,0,none⟩))) (k0:FrS b W0 r) (hk:FrOk r) :
  IterF Tryz.prog 146 #[.pointer (some ⟨bv,0,none⟩)] encE (FrM b r) (FrN b r) W0:=by
 intro W l Jx hg hY
 have gv:=hg.cell hv
 have hst:=hid (frstep_any (k0.gr hg) hk)
 have hY':=hid hY
 clear hY hv k0 hg
 have hfn:∀ f,Fence.wide.fn f:=fun _=>trivial
 have hdp:Fence.wide.depth=none:=rfl
 refine callsIn_of_wp Tryz.func146 rfl trivial ?_ rfl
 simp only [Tryz.ntmps146,List.size_toArray,List.length_cons,List.length_nil,Nat.reduceAdd,Nat.reduceSub,Array.replicate_succ,Array.replicate_zero,List.push_toArray,List.append_toArray,List.nil_append,List.cons_append]
 gi_wp2_with (fail)
 refine (callsIn_wide.2 hst.out).mono ?_
 rintro e w2 ⟨rfl,k2,hc2⟩
 rw [fevT_evp]
 obtain ⟨y,hy⟩:∃ y,evp (frNext r).2=y:=⟨_,rfl⟩
 have hy':=hid hy
 rw [hy]
 obtain ⟨v,hv⟩:∃ v,(frNext r).2.isSome=v:=⟨_,rfl⟩
 have hv':=hid hv
 rw [hv]
 have k2':=hid k2
 have hc2':=hid hc2
 unfold Evp.V
 clear k2 hc2 hy hv hst gv
 gi_wp2
 obtain ⟨w3,hw3⟩:∃ w3,w2.alloc (.cells #[.int .i64 y.a0,.int .i64 y.a1,.bool y.a2,.int .i64 y.a3,.string ⟨y.a4.toArray⟩] 159)=w3:=⟨_,rfl⟩
 rw [hw3]
 have d0:w3.cell? ⟨w2.heap.size,0,none⟩=some (.int .i64 y.a0):=by rw [←hw3];exact cell_new7 _ _ _ 0 _ rfl
 have d1:w3.cell? ⟨w2.heap.size,1,none⟩=some (.int .i64 y.a1):=by rw [←hw3];exact cell_new7 _ _ _ 1 _ rfl
 have d2:w3.cell? ⟨w2.heap.size,2,none⟩=some (.bool y.a2):=by rw [←hw3];exact cell_new7 _ _ _ 2 _ rfl
 have d3:w3.cell? ⟨w2.heap.size,3,none⟩=some (.int .i64 y.a3):=by rw [←hw3];exact cell_new7 _ _ _ 3 _ rfl
 have d4:w3.cell? ⟨w2.heap.size,4,none⟩=some (.string ⟨y.a4.toArray⟩):=by rw [←hw3];exact cell_new7 _ _ _ 4 _ rfl
 have g3:=hid (show Gr w2 w3 from hw3▸Gr.alloc _ _)
 clear hw3
 gi_loopw [3,4] (fun v3 v4 wr=>v3=.pointer (some ⟨w2.heap.size,0,none⟩)∧v4=.bool v∧wr=w3) (fun _ _ _=>0)
 case atStart=>exact ⟨rfl,rfl,rfl⟩
 case round =>
  obtain ⟨rfl,rfl,rfl⟩:=hrel
  cases v with
  | false =>
   gi_wp2_with (refine wpListIn_skip (by rfl) (by rfl) ?_)
   go_end0
   exact ⟨rfl,.inl ⟨hv'.out,k2'.out.gr g3.out,hc2'.out.trans (g3.out.to_ch _)⟩⟩
  | true =>
   have hY2:=hY'.out y wr ⟨hv'.out,hy'.out,k2'.out.gr g3.out,hc2'.out.trans (g3.out.to_ch _)⟩
   unfold encE Evp.V at hY2
   obtain ⟨gn,tmps,assign,body,hyy,hR⟩:=hY2
   gi_wp2
   refine hR.mono ?_
   rintro e B ⟨rfl,hJ⟩
   gi_wp2
   go_end0
   exact ⟨rfl,.inr hJ⟩
structure EvC (rb:Nat) (W:World) (y:Evp):Prop where
 k:W.cell? ⟨rb,0,none⟩=some (.int .i64 y.a0)
 o:W.cell? ⟨rb,1,none⟩=some (.int .i64 y.a1)
 f:W.cell? ⟨rb,2,none⟩=some (.bool y.a2)
 l:W.cell? ⟨rb,3,none⟩=some (.int .i64 y.a3)
 t:W.cell? ⟨rb,4,none⟩=some (.string ⟨y.a4.toArray⟩)
theorem EvC.ch {rb:Nat} {T:Nat→Prop} {W W':World} {y:Evp} (h:EvC rb W y) (hc:Ch T W W') (hT:¬T rb):EvC rb W' y :=
 have cc:∀ {j v},W.cell? ⟨rb,j,none⟩=some v→W'.cell? ⟨rb,j,none⟩=some v:=fun {j v} hh=>(hc.cell (p:=⟨rb,j,none⟩) (cell_lt hh) hT).trans hh
 ⟨cc h.k,cc h.o,cc h.f,cc h.l,cc h.t⟩
theorem EvZ.put {rb:Nat} {W:World} (h:EvZ rb W) (y:Evp):EvC rb (((((W.setCell ⟨rb,0,none⟩ (.int .i64 y.a0)).setCell ⟨rb,1,none⟩ (.int .i64 y.a1)).setCell ⟨rb,2,none⟩ (.bool y.a2)).setCell ⟨rb,3,none⟩ (.int .i64 y.a3)).setCell ⟨rb,4,none⟩ (.string ⟨y.a4.toArray⟩)) y :=
 ⟨by simp [go_sem,h.k],by simp [go_sem,h.o],by simp [go_sem,h.f],by simp [go_sem,h.l],by simp [go_sem,h.t]⟩
theorem frnext_any {b:Nat} {W:World} {r:Fr} (k:FrS b W r) (hk:FrOk r) :
  Calls Tryz.prog 96 #[.pointer (some ⟨b,0,none⟩)] W (FrPost b W (frNext r)):=by
 refine (callsIn_wide (n:=0)).1 ?_
 have hfn:∀ f,Fence.wide.fn f:=fun _=>trivial
 have hdp:Fence.wide.depth=none:=rfl
 have hb:=k.lt
 obtain ⟨w1,hw1⟩:∃ w1,W.alloc (.cells #[.int .i64 0,.int .i64 0,.bool false,.int .i64 0,.string ⟨#[]⟩] 159)=w1:=⟨_,rfl⟩
 obtain ⟨w2,hw2⟩:∃ w2,w1.alloc (.cells #[.bool false] 4)=w2:=⟨_,rfl⟩
 obtain ⟨w3,hw3⟩:∃ w3,w2.alloc (.cells #[.pointer (some ⟨b,0,none⟩)] 116)=w3:=⟨_,rfl⟩
 have g1:Gr W w1:=hw1▸Gr.alloc _ _
 have g2:Gr w1 w2:=hw2▸Gr.alloc _ _
 have g3:Gr w2 w3:=hw3▸Gr.alloc _ _
 have s1:w1.heap.size=W.heap.size+1:=by rw [←hw1];simp
 have s2:w2.heap.size=W.heap.size+2:=by rw [←hw2];simp;omega
 have s3:w3.heap.size=W.heap.size+3:=by rw [←hw3];simp;omega
 have hz3:=((hw1▸evZ_new W _:EvZ W.heap.size w1).gr g2).gr g3
 have hb3:w3.cell? ⟨W.heap.size+1,0,none⟩=some (.bool false):=g3.cell (by rw [←hw2,←s1];exact cell_new7 _ _ _ 0 _ rfl)
 have hbz:∀ o,w3.frozen? ⟨W.heap.size+1,o,none⟩=false:=fun o=>(Below.frozen g3 (p:=⟨W.heap.size+1,o,none⟩) (by (try dsimp only);omega)).trans (by rw [←hw2,←s1];exact World.frozen?_alloc_at _ _ _ _ rfl)
 have hbv:w3.cell? ⟨W.heap.size+2,0,none⟩=some (.pointer (some ⟨b,0,none⟩)):=by rw [←hw3,←s2];exact cell_new7 _ _ _ 0 _ rfl
 have g13:Gr W w3:=(g1.trans g2).trans g3
 have k3:=k.gr g13
 refine callsIn_of_wp_marks Tryz.func96 rfl trivial ?_ rfl
 simp only [Tryz.ntmps96,List.size_toArray,List.length_cons,List.length_nil,Nat.reduceAdd,Nat.reduceSub,Array.replicate_succ,Array.replicate_zero,List.push_toArray,List.append_toArray,List.nil_append,List.cons_append]
 have k3':=hid k3
 have hz3':=hid hz3
 have hb3':=hid hb3
 have hbz':=hid hbz
 have hbv':=hid hbv
 have g13':=hid g13
 have s1':=hid s1
 have s2':=hid s2
 have s3':=hid s3
 have hw1':=hid hw1
 have hw2':=hid hw2
 have hw3':=hid hw3
 clear k k3 hz3 hb3 hbz hbv g13 g1 g2 g3 s1 s2 s3 hw1 hw2 hw3
 gi_wp2_with (gi_at_call 120;refine (callsIn_wide.2 (frall_any b _)).mono ?_;rintro e w' ⟨rfl,rfl⟩)
 rw [hw1'.out,hw2'.out,hw3'.out]
 have e3:=s3'.out
 have hbw:b≠w3.heap.size+1:=by omega
 have hr0:W.heap.size≠w3.heap.size+1:=by omega
 have hr1:W.heap.size+1≠w3.heap.size+1:=by omega
 have h01:W.heap.size≠W.heap.size+1:=by omega
 have hb0:b≠W.heap.size:=by omega
 have hb1:b≠W.heap.size+1:=by omega
 have hbw':=hid hbw
 have hr0':=hid hr0
 have hr1':=hid hr1
 clear e3 hbw hr0 hr1 hw1' hw2' hw3'
 refine wpIn_range1 (gf:=146) rfl (enters_of Tryz.func146 (by kernel_rfl) rfl) (frall_iter (W.heap.size+2) hbv'.out k3'.out hk) (fun j=>j=b) (fun j hj=>by have:=s3'.out;(try dsimp only at hj);omega) (fun _ _ _ h=>h.2.2.2) (fun _ _ h=>h.2.2) (fun _=>rfl)
  (fun c A=>c=.ret∧(frNext r).2.isSome=true∧FrS b A (frNext r).1∧EvC W.heap.size A (evp (frNext r).2)∧A.cell? ⟨W.heap.size+1,0,none⟩=some (.bool true)∧Ch (fun j=>j=b) W A)
  (fun j=>j=W.heap.size∨j=W.heap.size+1) (fun j hj=>by have:=s3'.out;(try dsimp only at hj);omega) ?hIx ?round ?done ?stop
 case hIx =>
  rintro c A B ⟨rfl,h1,h2,h3,h4,h5⟩ hc
  have e:=s3'.out
  exact ⟨rfl,h1,h2.ch hc hbw'.out,h3.ch hc hr0'.out,(hc.cell (p:=⟨W.heap.size+1,0,none⟩) (cell_lt h4) hr1'.out).trans h4,h5.drop_new hc (fun j hj=>.inr (by (try dsimp only at hj);omega))⟩
 case round =>
  rintro l' y W1 A hl' hg1 hs1 ⟨hv,hy,hk1,hc1⟩
  have e:=s3'.out
  have hzA:=hid ((hz3'.out.gr hg1).ch hc1 (fun e=>hb0 e.symm))
  have hbA:=hid ((hc1.cell (p:=⟨W.heap.size+1,0,none⟩) (show W.heap.size+1<W1.heap.size by omega) (fun e=>hb1 e.symm)).trans (hg1.cell hb3'.out))
  have hbzA:=hid (show ∀ o,A.frozen? ⟨W.heap.size+1,o,none⟩=false from fun o=>(hc1.frozen (p:=⟨W.heap.size+1,o,none⟩) (show W.heap.size+1<W1.heap.size by omega) (fun e=>hb1 e.symm)).trans ((Below.frozen hg1 (p:=⟨W.heap.size+1,o,none⟩) (show W.heap.size+1<w3.heap.size by omega)).trans (hbz'.out o)))
  have hCA:=hid ((g13'.out.to_ch _).trans ((hg1.to_ch _).trans hc1))
  have hk1':=hid hk1
  have hv':=hid hv
  have hy':=hid hy
  have hlA:l'<A.heap.size:=by have:=hc1.size;omega
  have hl0:¬(W.heap.size=l'):=by omega
  have hl1:¬(W.heap.size+1=l'):=by omega
  have hlb:¬(b=l'):=by omega
  have hAl:¬(A.heap.size=l'):=by omega
  have hWl:W.heap.size≤l':=by omega
  have h0A:W.heap.size<A.heap.size:=hzA.out.lt
  have h1A:W.heap.size+1<A.heap.size:=cell_lt hbA.out
  clear hg1 hc1 hk1 hv hy hs1 e
  unfold encE Evp.V
  gi_wp2
  refine ⟨Ch.alloc _ _ _,fun A2 hA2=>?_⟩
  have y0:A2.cell? ⟨A.heap.size,0,none⟩=some (.int .i64 y.a0):=(hA2.cell (p:=⟨A.heap.size,0,none⟩) (by simp) hAl).trans (cell_new7 _ _ _ 0 _ rfl)
  have y1:A2.cell? ⟨A.heap.size,1,none⟩=some (.int .i64 y.a1):=(hA2.cell (p:=⟨A.heap.size,1,none⟩) (by simp) hAl).trans (cell_new7 _ _ _ 1 _ rfl)
  have y2:A2.cell? ⟨A.heap.size,2,none⟩=some (.bool y.a2):=(hA2.cell (p:=⟨A.heap.size,2,none⟩) (by simp) hAl).trans (cell_new7 _ _ _ 2 _ rfl)
  have y3:A2.cell? ⟨A.heap.size,3,none⟩=some (.int .i64 y.a3):=(hA2.cell (p:=⟨A.heap.size,3,none⟩) (by simp) hAl).trans (cell_new7 _ _ _ 3 _ rfl)
  have y4:A2.cell? ⟨A.heap.size,4,none⟩=some (.string ⟨y.a4.toArray⟩):=(hA2.cell (p:=⟨A.heap.size,4,none⟩) (by simp) hAl).trans (cell_new7 _ _ _ 4 _ rfl)
  have hAA:Ch (fun j=>j=l') A A2:=(Ch.alloc _ _ _).trans hA2
  have hz2:=hzA.out.ch hAA hl0
  have hz2':=hid hz2
  obtain ⟨z0,z1,z2,z3,z4,zf⟩:=hz2
  have b0:A2.cell? ⟨W.heap.size+1,0,none⟩=some (.bool false):=(hAA.cell (p:=⟨W.heap.size+1,0,none⟩) h1A hl1).trans hbA.out
  have bz:∀ o,A2.frozen? ⟨W.heap.size+1,o,none⟩=false:=fun o=>(hAA.frozen (p:=⟨W.heap.size+1,o,none⟩) h1A hl1).trans (hbzA.out o)
  have k2':=hid (hk1'.out.ch hAA hlb)
  have c2':=hid (hCA.out.drop_new hAA (fun j hj=>.inr (by (try dsimp only at hj);omega)))
  clear hA2 hAA hzA hbA hbzA hCA hk1'
  gi_wp2
  have e5:=ch5 (rb:=W.heap.size) A2 (.int .i64 y.a0) (.int .i64 y.a1) (.bool y.a2) (.int .i64 y.a3) (.string ⟨y.a4.toArray⟩)
  have e6:Ch (fun j=>j=W.heap.size+1) _ _:=Ch.setCell (T:=fun j=>j=W.heap.size+1) (((((A2.setCell ⟨W.heap.size,0,none⟩ (.int .i64 y.a0)).setCell ⟨W.heap.size,1,none⟩ (.int .i64 y.a1)).setCell ⟨W.heap.size,2,none⟩ (.bool y.a2)).setCell ⟨W.heap.size,3,none⟩ (.int .i64 y.a3)).setCell ⟨W.heap.size,4,none⟩ (.string ⟨y.a4.toArray⟩)) (a:=⟨W.heap.size+1,0,none⟩) rfl (.bool true)
  have b5:=(e5.cell (p:=⟨W.heap.size+1,0,none⟩) (cell_lt b0) (fun e=>h01 e.symm)).trans b0
  refine ⟨(e5.mono (fun j hj=>.inl hj)).trans (e6.mono (fun j hj=>.inr hj)),rfl,hv'.out,(k2'.out.ch e5 hb0).ch e6 hb1,?_,cell_set_same b5,(c2'.out.drop_new e5 (fun j hj=>.inr (Nat.le_of_eq (show j=W.heap.size from hj).symm))).drop_new e6 (fun j hj=>.inr (by rw [show j=W.heap.size+1 from hj];omega))⟩
  rw [hy'.out]
  exact (hz2'.out.put y).ch e6 h01
 case done =>
  rintro D W1 W2 A hD hg1 hs1 ⟨hv,hk2,hc2⟩ hcA hK
  have e:=s3'.out
  have hz1:=((hz3'.out.gr hg1).ch hc2 (fun e=>hb0 e.symm)).ch hcA hr0'.out
  have b1:A.cell? ⟨W.heap.size+1,0,none⟩=some (.bool false):=by
   have q1:=(hc2.cell (p:=⟨W.heap.size+1,0,none⟩) (show W.heap.size+1<W1.heap.size by omega) (fun e=>hb1 e.symm)).trans (hg1.cell hb3'.out)
   exact (hcA.cell (p:=⟨W.heap.size+1,0,none⟩) (cell_lt q1) hr1'.out).trans q1
  have bz:∀ o,A.frozen? ⟨W.heap.size+1,o,none⟩=false:=fun o=>by
   have q1:=(hc2.frozen (p:=⟨W.heap.size+1,o,none⟩) (show W.heap.size+1<W1.heap.size by omega) (fun e=>hb1 e.symm)).trans ((Below.frozen hg1 (p:=⟨W.heap.size+1,o,none⟩) (show W.heap.size+1<w3.heap.size by omega)).trans (hbz'.out o))
   exact (hcA.frozen (p:=⟨W.heap.size+1,o,none⟩) (show W.heap.size+1<W2.heap.size by have:=hc2.size;omega) hr1'.out).trans q1
  have kA:=hid (hk2.ch hcA hbw'.out)
  have cA:=hid (((g13'.out.to_ch (fun j=>j=b)).trans ((hg1.to_ch _).trans hc2)).drop_new hcA (fun j hj=>.inr (by (try dsimp only at hj);omega)))
  have hD0:D≠W.heap.size:=by omega
  have hD1:D≠W.heap.size+1:=by omega
  have hDb:¬(b=D):=by omega
  have hDW:W.heap.size≤D:=by omega
  have hz1':=hid hz1
  obtain ⟨z0,z1,z2,z3,z4,zf⟩:=hz1
  have hv':=hid hv
  clear hg1 hs1 hk2 hc2 hcA e hv
  gi_wp2
  have e5:=ch5 (rb:=W.heap.size) A (.int .i64 0) (.int .i64 0) (.bool false) (.int .i64 0) (.string ⟨#[]⟩)
  obtain ⟨A5,hA5⟩:∃ A5,((((A.setCell ⟨W.heap.size,0,none⟩ (.int .i64 0)).setCell ⟨W.heap.size,1,none⟩ (.int .i64 0)).setCell ⟨W.heap.size,2,none⟩ (.bool false)).setCell ⟨W.heap.size,3,none⟩ (.int .i64 0)).setCell ⟨W.heap.size,4,none⟩ (.string ⟨#[]⟩)=A5:=⟨_,rfl⟩
  rw [hA5] at e5 ⊢
  have b5:=(e5.cell (p:=⟨W.heap.size+1,0,none⟩) (cell_lt b1) (fun e=>h01 e.symm)).trans b1
  have e6:Ch (fun j=>j=W.heap.size+1) A5 (A5.setCell ⟨W.heap.size+1,0,none⟩ (.bool false)):=Ch.setCell (T:=fun j=>j=W.heap.size+1) A5 (a:=⟨W.heap.size+1,0,none⟩) rfl _
  have c6:=(hA5▸hz1'.out.put ⟨0,0,false,0,[]⟩:EvC W.heap.size A5 ⟨0,0,false,0,[]⟩).ch e6 h01
  have hK2:(A5.setCell ⟨W.heap.size+1,0,none⟩ (.bool false)).heap[D]?=some (.deferred (some [])):=e6.get (e5.get hK hD0) hD1
  have e7:Ch (fun j=>j=D) (A5.setCell ⟨W.heap.size+1,0,none⟩ (.bool false)) ((A5.setCell ⟨W.heap.size+1,0,none⟩ (.bool false)).putObj D (.deferred none)):=Ch.putObj (T:=fun j=>j=D) _ rfl _
  obtain ⟨x0,x1,x2,x3,x4⟩:=c6.ch e7 (fun e=>hD0 e.symm)
  have x5:=(e7.cell (p:=⟨W.heap.size+1,0,none⟩) (by rw [World.size_setCell];exact cell_lt b5) (fun e=>hD1 e.symm)).trans (cell_set_same (v:=.bool false) b5)
  refine ⟨by simp,.inl ⟨_,_,rfl,run_takeDeferred hK2,?_⟩⟩
  refine ⟨.tuple #[ev0V,.bool false],by simp [results,Tryz.results96,go_sem,ev0V,x0,x1,x2,x3,x4,x5],?_,((kA.out.ch e5 hb0).ch e6 hb1).ch e7 hDb,((cA.out.drop_new e5 (fun j hj=>.inr (Nat.le_of_eq (show j=W.heap.size from hj).symm))).drop_new e6 (fun j hj=>.inr (by rw [show j=W.heap.size+1 from hj];omega))).drop_new e7 (fun j hj=>.inr (by rw [show j=D from hj];exact hDW))⟩
  cases ho:(frNext r).2 with
  | none=>rfl
  | some x=>have:=hv'.out;rw [ho] at this;cases this
 case stop =>
  rintro D c A hD ⟨rfl,hv,hkA,hC,hB,hc⟩ hK
  have e:=s3'.out
  have hD0:D≠W.heap.size:=by omega
  have hD1:D≠W.heap.size+1:=by omega
  have hDb:¬(b=D):=by omega
  have hDW:W.heap.size≤D:=by omega
  have e7:Ch (fun j=>j=D) A (A.putObj D (.deferred none)):=Ch.putObj (T:=fun j=>j=D) _ rfl _
  obtain ⟨x0,x1,x2,x3,x4⟩:=hC.ch e7 (fun e=>hD0 e.symm)
  have x5:=(e7.cell (p:=⟨W.heap.size+1,0,none⟩) (cell_lt hB) (fun e=>hD1 e.symm)).trans hB
  have hkA':=hid hkA
  have hc':=hid hc
  have hv':=hid hv
  clear hkA hc hC hB e hv
  gi_wp2
  refine ⟨by simp,.inl ⟨_,_,rfl,run_takeDeferred hK,?_⟩⟩
  refine ⟨.tuple #[(evp (frNext r).2).V,.bool true],by simp [results,Tryz.results96,go_sem,Evp.V,x0,x1,x2,x3,x4,x5],?_,hkA'.out.ch e7 hDb,hc'.out.drop_new e7 (fun j hj=>.inr (by rw [show j=D from hj];exact hDW))⟩
  rw [fevT_evp,hv'.out]
end Go.Proofs.YtadobobfjnmdlaaGreatDoor
