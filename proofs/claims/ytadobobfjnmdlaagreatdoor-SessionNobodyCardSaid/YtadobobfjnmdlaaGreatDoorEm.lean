/-
  The document's frames: their bytes. (Printed by mk_em.py.)
-/
import Derived.Test.YtadobobfjnmdlaaGreatDoorEj
import Derived.Test.YtadobobfjnmdlaaGreatDoorEc
import Derived.Test.YtadobobfjnmdlaaGreatDoorP19
set_option linter.unusedVariables false
set_option linter.unusedSimpArgs false
set_option maxHeartbeats 16000000
set_option maxRecDepth 100000
open Go.Lib (hid)
namespace Go.Proofs.YtadobobfjnmdlaaGreatDoor
open Go.RowKit Go.Shelf
attribute [local go_sem] Oper.semAt_some
theorem cells_add_new (W:World) (l:List Value) (t:TypeId):∀ j u,l[j]?=some u→(W.alloc (.cells l.toArray t)).cell? ((⟨W.heap.size,0,none⟩:Addr).add j)=some u:=fun j u h=>by
 have:=cell_new7 W l t j u h
 by_cases e:j=0
 ·subst e;simpa [Addr.add] using this
 ·simp only [Addr.add,e];simpa using this
theorem rmask_later (k0 k1 k2 k3:UInt8) (s:List UInt8) (W:World) (hs:s.length≤100000) (y:Later (Gr W)) :
  Calls Tryz.prog 58 #[.agg #[.int .u8 k0.toNat,.int .u8 k1.toNat,.int .u8 k2.toNat,.int .u8 k3.toNat],.int .i64 0,.string ⟨s.toArray⟩] y.w fun e w'=>e=.returned (.string ⟨(maskB k0 k1 k2 k3 0 s).toArray⟩)∧∃ z:Later (Gr W),w'=z.w :=
 Calls.later ((rmask_any k0 k1 k2 k3 s y.w hs).mono fun _ w' ⟨h1,h2⟩=>⟨h1,y.ok.trans h2⟩)
theorem rmask0_later (s:List UInt8) (W:World) (hs:s.length≤100000) (y:Later (Gr W)) :
  Calls Tryz.prog 58 #[.agg #[.int .u8 0,.int .u8 0,.int .u8 0,.int .u8 0],.int .i64 0,.string ⟨s.toArray⟩] y.w fun e w'=>e=.returned (.string ⟨s.toArray⟩)∧∃ z:Later (Gr W),w'=z.w:=by
 have h:=rmask_later 0 0 0 0 s W hs y
 rw [maskB_zero] at h
 exact h
theorem rmask1_later (s:List UInt8) (W:World) (hs:s.length≤100000) (y:Later (Gr W)) :
  Calls Tryz.prog 58 #[.agg #[.int .u8 1,.int .u8 2,.int .u8 3,.int .u8 4],.int .i64 0,.string ⟨s.toArray⟩] y.w fun e w'=>e=.returned (.string ⟨(maskB 1 2 3 4 0 s).toArray⟩)∧∃ z:Later (Gr W),w'=z.w :=
 rmask_later 1 2 3 4 s W hs y
def maskF (op:Nat) (s:List UInt8):List UInt8:=[UInt8.ofNat (128+op),UInt8.ofNat (128+s.length),1,2,3,4]++maskB 1 2 3 4 0 s
theorem rfbytes_short (op:Nat) (s:List UInt8) (W:World) (h:op≤15) (hn:s.length≤125):Calls Tryz.prog 29 #[.agg #[.bool true,.int .i64 0,.int .i64 op,.bool false,.int .u8 0,.int .u8 0,.int .u8 0,.int .u8 0,.string ⟨s.toArray⟩]] W fun e w'=>e=.returned (.tuple #[.string ⟨(outF op s).toArray⟩,.int .i64 0])∧Gr W w':=by
 have h0:¬(op:Int)<0:=by omega
 have h1:¬(15:Int)<(op:Int):=by omega
 obtain ⟨y0,hy0⟩:∃ y,UInt8.ofNat (128+op)=y:=⟨_,rfl⟩
 have hq1:(y0.toNat:Int)=(op:Int)+128:=by rw [←hy0];simp [UInt8.toNat_ofNat'] <;> omega
 have hq0w0:IntKind.i64.wrap ((op:Int)+128)=(op:Int)+128:=IntWalk.i64_in _ (by omega)
 obtain ⟨i0,hi,hz0,hz1,hz2⟩:=info_parts infoU8
 have hsl:s.length≤100000:=by omega
 have hv0:outF op s=[UInt8.ofNat (128+op),UInt8.ofNat s.length]++s:=by unfold outF;rw [if_neg (by omega)];unfold numF;rw [if_pos hn];rfl
 obtain ⟨y1,hy1⟩:∃ y,UInt8.ofNat s.length=y:=⟨_,rfl⟩
 have hq2:(y1.toNat:Int)=(s.length:Int):=by rw [←hy1];simp [UInt8.toNat_ofNat'] <;> omega
 rw [hy0,hy1] at hv0
 have hv:=hid hv0
 clear hv0 hy0 hy1
 go_enter Tryz.func29,Tryz.ntmps29
 go_upto_region 13 with (fail)
 obtain ⟨w4,hw4⟩:∃ w4,(W.alloc (.cells #[.bool true,.int .i64 0,.int .i64 op,.bool false,.int .u8 0,.int .u8 0,.int .u8 0,.int .u8 0,.string ⟨s.toArray⟩] 56)).alloc (.cells #[.int .u8 ((op:Int)+128)] 5)=w4:=⟨_,rfl⟩
 try rw [hw4]
 have g4:Gr W w4:=by rw [←hw4];exact (Gr.alloc _ _).alloc1 _
 have s4:W.heap.size+1≤w4.heap.size:=by rw [←hw4];simp
 have e3:w4.cell? ⟨W.heap.size,3,none⟩=some (.bool false):=by rw [←hw4];exact (Gr.alloc _ _).cell (cell_new7 _ _ _ 3 _ rfl)
 have e4:w4.cell? ⟨W.heap.size,4,none⟩=some (.int .u8 0):=by rw [←hw4];exact (Gr.alloc _ _).cell (cell_new7 _ _ _ 4 _ rfl)
 have e5:w4.cell? ⟨W.heap.size,5,none⟩=some (.int .u8 0):=by rw [←hw4];exact (Gr.alloc _ _).cell (cell_new7 _ _ _ 5 _ rfl)
 have e6:w4.cell? ⟨W.heap.size,6,none⟩=some (.int .u8 0):=by rw [←hw4];exact (Gr.alloc _ _).cell (cell_new7 _ _ _ 6 _ rfl)
 have e7:w4.cell? ⟨W.heap.size,7,none⟩=some (.int .u8 0):=by rw [←hw4];exact (Gr.alloc _ _).cell (cell_new7 _ _ _ 7 _ rfl)
 have e8:w4.cell? ⟨W.heap.size,8,none⟩=some (.string ⟨s.toArray⟩):=by rw [←hw4];exact (Gr.alloc _ _).cell (cell_new7 _ _ _ 8 _ rfl)
 have o4:w4.ownsRow (W.heap.size+1) 5 1 (.slice (some ⟨W.heap.size+1,0,none⟩) 1 1) 1 (bcells [y0]):=by
  have hl:=World.ownsRow_lit (base:=W.heap.size+1) (size:=1) (e:=5) (W.alloc (.cells #[.bool true,.int .i64 0,.int .i64 op,.bool false,.int .u8 0,.int .u8 0,.int .u8 0,.int .u8 0,.string ⟨s.toArray⟩] 56)) #[.int .u8 ((op:Int)+128)] 1 (by simp) (by decide) rfl
  rw [World.size_alloc,hw4] at hl
  have e:bcells [y0]=#[Value.int .u8 ((op:Int)+128)].toList:=by rw [bcells_cons,hq1];rfl
  rw [e]
  exact hl
 have o4':=hid o4
 have g4':=hid g4
 have s4':=hid s4
 have hoA:∀ O,(w4.alloc O).ownsRow (W.heap.size+1) 5 1 (.slice (some ⟨W.heap.size+1,0,none⟩) 1 1) 1 (bcells [y0]):=fun O=>World.ownsRow.alloc o4'.out O
 have hcA:∀ j u,([.int .u8 (s.length:Int)]:List Value)[j]?=some u→(w4.alloc (.cells ([.int .u8 (s.length:Int)]:List Value).toArray 5)).cell? ((⟨w4.heap.size,0,none⟩:Addr).add j)=some u:=cells_add_new w4 _ _
 clear hw4 g4 s4 o4
 go_wp2_with (at_builtin;refine wpList_append_own _ rfl _ _ 100 rfl (W.heap.size+1) 5 i0 (.int .u8 0) 1 1 Tryz.underlying100 hi hz0 hz1 hz2 rfl (by decide) _ _ _ rfl (hoA _) ⟨w4.heap.size,0,none⟩ 1 1 [.int .u8 (s.length:Int)] rfl rfl hcA (by simp [Value.oneCell']) (by unfold maxLen;decide) (by decide) (by simp;have:=s4'.out;omega) ?_)
 intro v5 w5 hown5 hgrow5 _
 have hc5:Ch (fun j=>j=W.heap.size+1) w4 w5:=(((Gr.alloc w4 _).to_ch _).trans (ch_grown hgrow5)).mono (fun j e=>by simpa [Value.ownBlock,eq_comm] using e)
 have hE:¬(W.heap.size=W.heap.size+1):=by omega
 have cc:∀ {j u},w4.cell? ⟨W.heap.size,j,none⟩=some u→w5.cell? ⟨W.heap.size,j,none⟩=some u:=fun {j u} hh=>(hc5.cell (p:=⟨W.heap.size,j,none⟩) (cell_lt hh) hE).trans hh
 replace e3:=cc e3
 replace e4:=cc e4
 replace e5:=cc e5
 replace e6:=cc e6
 replace e7:=cc e7
 replace e8:=cc e8
 have g5':=hid (g4'.out.ch hc5 (fun j e=>by rw [show j=W.heap.size+1 from e];exact Nat.le_succ _))
 have s5':=hid (Nat.le_trans s4'.out hc5.size)
 have hown6:OwnB (W.heap.size+1) w5 v5 [y0,y1]:=by
  have e:bcells [y0,y1]=bcells [y0]++[.int .u8 (s.length:Int)]:=by
   simp only [bcells,List.map,List.cons_append,List.nil_append]
   rw [hq2]
  unfold OwnB
  rw [e]
  exact hown5
 have hown6':=hid hown6
 obtain ⟨p5,cap5,rfl⟩:=hown6.slice
 clear hown6 hown5 hgrow5 hc5 cc hcA hoA
 haveI:Nonempty (Later (Gr w5)):=⟨⟨w5,Gr.refl w5⟩⟩
 have hcb:∀ y:Later (Gr w5),(convert 100 9 (.slice p5 2 cap5)).run Tryz.prog y.w=.ok (.string ⟨([y0,y1]:List UInt8).toArray⟩) y.w:=fun y=>conv_all (ownsRow_gr hown6'.out y.ok)
 have t4:∀ y:Later (Gr w5),y.w.cell? ⟨W.heap.size,4,none⟩=some (.int .u8 0):=fun y=>y.ok.cell e4
 have t5:∀ y:Later (Gr w5),y.w.cell? ⟨W.heap.size,5,none⟩=some (.int .u8 0):=fun y=>y.ok.cell e5
 have t6:∀ y:Later (Gr w5),y.w.cell? ⟨W.heap.size,6,none⟩=some (.int .u8 0):=fun y=>y.ok.cell e6
 have t7:∀ y:Later (Gr w5),y.w.cell? ⟨W.heap.size,7,none⟩=some (.int .u8 0):=fun y=>y.ok.cell e7
 have t8:∀ y:Later (Gr w5),y.w.cell? ⟨W.heap.size,8,none⟩=some (.string ⟨s.toArray⟩):=fun y=>y.ok.cell e8
 have hmk:=hid (rmask0_later s w5 hsl)
 have hcat:(⟨([y0,y1]:List UInt8).toArray⟩:ByteArray)++(⟨(s).toArray⟩:ByteArray)=⟨([y0,y1]++s).toArray⟩:=cat_mk _ _
 go_upto_region 24 with (fail)
 clear e3 e4 e5 e6 e7 e8
 refine wp_region_later (C:=Gr w5) (by kernel_rfl) (by kernel_rfl) (Gr.drew' _) ?_
 repeat (go_big_quiet_step (with_reducible exact hmk.out _))
 refine wpQuiet_nil ?_
 intro w9 hg9
 have hgz:=hid (g5'.out.trans hg9)
 clear t4 t5 t6 t7 t8 hcb hg9
 go_wp2
 refine bodyPost_ret (v:=.tuple #[.string ⟨([y0,y1]++s).toArray⟩,.int .i64 0]) (by simp [results,Tryz.results29,go_sem]) rfl ⟨by rw [hv.out],hgz.out⟩
theorem rfbytes_mask (op:Nat) (s:List UInt8) (W:World) (h:op≤15) (hn:s.length≤125):Calls Tryz.prog 29 #[.agg #[.bool true,.int .i64 0,.int .i64 op,.bool true,.int .u8 1,.int .u8 2,.int .u8 3,.int .u8 4,.string ⟨s.toArray⟩]] W fun e w'=>e=.returned (.tuple #[.string ⟨(maskF op s).toArray⟩,.int .i64 0])∧Gr W w':=by
 have h0:¬(op:Int)<0:=by omega
 have h1:¬(15:Int)<(op:Int):=by omega
 obtain ⟨y0,hy0⟩:∃ y,UInt8.ofNat (128+op)=y:=⟨_,rfl⟩
 have hq1:(y0.toNat:Int)=(op:Int)+128:=by rw [←hy0];simp [UInt8.toNat_ofNat'] <;> omega
 have hq0w0:IntKind.i64.wrap ((op:Int)+128)=(op:Int)+128:=IntWalk.i64_in _ (by omega)
 obtain ⟨i0,hi,hz0,hz1,hz2⟩:=info_parts infoU8
 have hsl:s.length≤100000:=by omega
 have hv0:maskF op s=[UInt8.ofNat (128+op),UInt8.ofNat (128+s.length),1,2,3,4]++maskB 1 2 3 4 0 s:=rfl
 obtain ⟨y1,hy1⟩:∃ y,UInt8.ofNat (128+s.length)=y:=⟨_,rfl⟩
 have hq2:(y1.toNat:Int)=128+(s.length:Int):=by rw [←hy1];simp [UInt8.toNat_ofNat'] <;> omega
 have hq2w:IntKind.i64.wrap (128+(s.length:Int))=128+(s.length:Int):=IntWalk.i64_in _ (by omega)
 rw [hy0,hy1] at hv0
 have hv:=hid hv0
 clear hv0 hy0 hy1
 go_enter Tryz.func29,Tryz.ntmps29
 go_upto_region 13 with (fail)
 obtain ⟨w4,hw4⟩:∃ w4,(W.alloc (.cells #[.bool true,.int .i64 0,.int .i64 op,.bool true,.int .u8 1,.int .u8 2,.int .u8 3,.int .u8 4,.string ⟨s.toArray⟩] 56)).alloc (.cells #[.int .u8 ((op:Int)+128)] 5)=w4:=⟨_,rfl⟩
 try rw [hw4]
 have g4:Gr W w4:=by rw [←hw4];exact (Gr.alloc _ _).alloc1 _
 have s4:W.heap.size+1≤w4.heap.size:=by rw [←hw4];simp
 have e3:w4.cell? ⟨W.heap.size,3,none⟩=some (.bool true):=by rw [←hw4];exact (Gr.alloc _ _).cell (cell_new7 _ _ _ 3 _ rfl)
 have e4:w4.cell? ⟨W.heap.size,4,none⟩=some (.int .u8 1):=by rw [←hw4];exact (Gr.alloc _ _).cell (cell_new7 _ _ _ 4 _ rfl)
 have e5:w4.cell? ⟨W.heap.size,5,none⟩=some (.int .u8 2):=by rw [←hw4];exact (Gr.alloc _ _).cell (cell_new7 _ _ _ 5 _ rfl)
 have e6:w4.cell? ⟨W.heap.size,6,none⟩=some (.int .u8 3):=by rw [←hw4];exact (Gr.alloc _ _).cell (cell_new7 _ _ _ 6 _ rfl)
 have e7:w4.cell? ⟨W.heap.size,7,none⟩=some (.int .u8 4):=by rw [←hw4];exact (Gr.alloc _ _).cell (cell_new7 _ _ _ 7 _ rfl)
 have e8:w4.cell? ⟨W.heap.size,8,none⟩=some (.string ⟨s.toArray⟩):=by rw [←hw4];exact (Gr.alloc _ _).cell (cell_new7 _ _ _ 8 _ rfl)
 have o4:w4.ownsRow (W.heap.size+1) 5 1 (.slice (some ⟨W.heap.size+1,0,none⟩) 1 1) 1 (bcells [y0]):=by
  have hl:=World.ownsRow_lit (base:=W.heap.size+1) (size:=1) (e:=5) (W.alloc (.cells #[.bool true,.int .i64 0,.int .i64 op,.bool true,.int .u8 1,.int .u8 2,.int .u8 3,.int .u8 4,.string ⟨s.toArray⟩] 56)) #[.int .u8 ((op:Int)+128)] 1 (by simp) (by decide) rfl
  rw [World.size_alloc,hw4] at hl
  have e:bcells [y0]=#[Value.int .u8 ((op:Int)+128)].toList:=by rw [bcells_cons,hq1];rfl
  rw [e]
  exact hl
 have o4':=hid o4
 have g4':=hid g4
 have s4':=hid s4
 have hoA:∀ O,(w4.alloc O).ownsRow (W.heap.size+1) 5 1 (.slice (some ⟨W.heap.size+1,0,none⟩) 1 1) 1 (bcells [y0]):=fun O=>World.ownsRow.alloc o4'.out O
 have hcA:∀ j u,([.int .u8 (128+(s.length:Int))]:List Value)[j]?=some u→(w4.alloc (.cells ([.int .u8 (128+(s.length:Int))]:List Value).toArray 5)).cell? ((⟨w4.heap.size,0,none⟩:Addr).add j)=some u:=cells_add_new w4 _ _
 clear hw4 g4 s4 o4
 go_wp2_with (at_builtin;refine wpList_append_own _ rfl _ _ 100 rfl (W.heap.size+1) 5 i0 (.int .u8 0) 1 1 Tryz.underlying100 hi hz0 hz1 hz2 rfl (by decide) _ _ _ rfl (hoA _) ⟨w4.heap.size,0,none⟩ 1 1 [.int .u8 (128+(s.length:Int))] rfl rfl hcA (by simp [Value.oneCell']) (by unfold maxLen;decide) (by decide) (by simp;have:=s4'.out;omega) ?_)
 intro v5 w5 hown5 hgrow5 _
 have hc5:Ch (fun j=>j=W.heap.size+1) w4 w5:=(((Gr.alloc w4 _).to_ch _).trans (ch_grown hgrow5)).mono (fun j e=>by simpa [Value.ownBlock,eq_comm] using e)
 have hE:¬(W.heap.size=W.heap.size+1):=by omega
 have cc:∀ {j u},w4.cell? ⟨W.heap.size,j,none⟩=some u→w5.cell? ⟨W.heap.size,j,none⟩=some u:=fun {j u} hh=>(hc5.cell (p:=⟨W.heap.size,j,none⟩) (cell_lt hh) hE).trans hh
 replace e3:=cc e3
 replace e4:=cc e4
 replace e5:=cc e5
 replace e6:=cc e6
 replace e7:=cc e7
 replace e8:=cc e8
 have g5':=hid (g4'.out.ch hc5 (fun j e=>by rw [show j=W.heap.size+1 from e];exact Nat.le_succ _))
 have s5':=hid (Nat.le_trans s4'.out hc5.size)
 have hown6:OwnB (W.heap.size+1) w5 v5 [y0,y1]:=by
  have e:bcells [y0,y1]=bcells [y0]++[.int .u8 (128+(s.length:Int))]:=by
   simp only [bcells,List.map,List.cons_append,List.nil_append]
   rw [hq2]
  unfold OwnB
  rw [e]
  exact hown5
 have hown6':=hid hown6
 obtain ⟨p5,cap5,rfl⟩:=hown6.slice
 clear hown6 hown5 hgrow5 hc5 cc hcA hoA
 have hoB:∀ O,(w5.alloc O).ownsRow (W.heap.size+1) 5 1 (.slice p5 2 cap5) 2 (bcells [y0,y1]):=fun O=>World.ownsRow.alloc hown6'.out O
 have hcB:∀ j u,([.int .u8 1,.int .u8 2,.int .u8 3,.int .u8 4]:List Value)[j]?=some u→(w5.alloc (.cells ([.int .u8 1,.int .u8 2,.int .u8 3,.int .u8 4]:List Value).toArray 5)).cell? ((⟨w5.heap.size,0,none⟩:Addr).add j)=some u:=cells_add_new w5 _ _
 go_upto_region 23 with (fail)
 go_wp2_with (at_builtin;refine wpList_append_own _ rfl _ _ 100 rfl (W.heap.size+1) 5 i0 (.int .u8 0) 1 1 Tryz.underlying100 hi hz0 hz1 hz2 rfl (by decide) _ _ _ rfl (hoB _) ⟨w5.heap.size,0,none⟩ 4 4 [.int .u8 1,.int .u8 2,.int .u8 3,.int .u8 4] rfl rfl hcB (by simp [Value.oneCell']) (by unfold maxLen;decide) (by decide) (by simp;have:=s5'.out;omega) ?_)
 intro v7 w7 hown7 hgrow7 _
 have hc7:Ch (fun j=>(Value.slice p5 2 cap5).ownBlock=some j) w5 w7:=((Gr.alloc w5 _).to_ch _).trans (ch_grown hgrow7)
 have hb7:¬((Value.slice p5 2 cap5).ownBlock=some W.heap.size):=fun e=>by have:=(World.ownsRow.lt hown6'.out _ e).1;omega
 have cc7:∀ {j u},w5.cell? ⟨W.heap.size,j,none⟩=some u→w7.cell? ⟨W.heap.size,j,none⟩=some u:=fun {j u} hh=>(hc7.cell (p:=⟨W.heap.size,j,none⟩) (cell_lt hh) hb7).trans hh
 replace e4:=cc7 e4
 replace e5:=cc7 e5
 replace e6:=cc7 e6
 replace e7:=cc7 e7
 replace e8:=cc7 e8
 have g7':=hid (g5'.out.ch hc7 (fun j e=>by have:=(World.ownsRow.lt hown6'.out _ e).1;omega))
 have hown8:OwnB (W.heap.size+1) w7 v7 [y0,y1,1,2,3,4]:=hown7
 have hown8':=hid hown8
 obtain ⟨p7,cap7,rfl⟩:=hown8.slice
 clear hown8 hown7 hgrow7 hc7 cc7 hcB hoB hb7
 haveI:Nonempty (Later (Gr w7)):=⟨⟨w7,Gr.refl w7⟩⟩
 have hcb:∀ y:Later (Gr w7),(convert 100 9 (.slice p7 6 cap7)).run Tryz.prog y.w=.ok (.string ⟨([y0,y1,1,2,3,4]:List UInt8).toArray⟩) y.w:=fun y=>conv_all (ownsRow_gr hown8'.out y.ok)
 have t4:∀ y:Later (Gr w7),y.w.cell? ⟨W.heap.size,4,none⟩=some (.int .u8 1):=fun y=>y.ok.cell e4
 have t5:∀ y:Later (Gr w7),y.w.cell? ⟨W.heap.size,5,none⟩=some (.int .u8 2):=fun y=>y.ok.cell e5
 have t6:∀ y:Later (Gr w7),y.w.cell? ⟨W.heap.size,6,none⟩=some (.int .u8 3):=fun y=>y.ok.cell e6
 have t7:∀ y:Later (Gr w7),y.w.cell? ⟨W.heap.size,7,none⟩=some (.int .u8 4):=fun y=>y.ok.cell e7
 have t8:∀ y:Later (Gr w7),y.w.cell? ⟨W.heap.size,8,none⟩=some (.string ⟨s.toArray⟩):=fun y=>y.ok.cell e8
 have hmk:=hid (rmask1_later s w7 hsl)
 have hcat:(⟨([y0,y1,1,2,3,4]:List UInt8).toArray⟩:ByteArray)++(⟨(maskB 1 2 3 4 0 s).toArray⟩:ByteArray)=⟨([y0,y1,1,2,3,4]++maskB 1 2 3 4 0 s).toArray⟩:=cat_mk _ _
 have hml:=maskB_len 1 2 3 4 s 0
 obtain ⟨ms,hms⟩:∃ ms,maskB 1 2 3 4 0 s=ms:=⟨_,rfl⟩
 rw [hms] at hml hcat hmk hv
 go_upto_region 24 with (fail)
 clear e3 e4 e5 e6 e7 e8
 refine wp_region_later (C:=Gr w7) (by kernel_rfl) (by kernel_rfl) (Gr.drew' _) ?_
 repeat (go_big_quiet_step (with_reducible exact hmk.out _))
 refine wpQuiet_nil ?_
 intro w9 hg9
 have hgz:=hid (g7'.out.trans hg9)
 clear t4 t5 t6 t7 t8 hcb hg9
 go_wp2
 refine bodyPost_ret (v:=.tuple #[.string ⟨([y0,y1,1,2,3,4]++ms).toArray⟩,.int .i64 0]) (by simp [results,Tryz.results29,go_sem]) rfl ⟨by rw [hv.out],hgz.out⟩
structure SnL (w:World) (b:Nat) (T:Nat→Prop) (s:Ss) (W:World):Prop where
 at':SnAt b (.func (.func 11) #[] #[]) T W s
 gr:Gr w W
 base:∀ k,T k→w.heap.size≤k
section
variable {w:World} {b:Nat} {T:Nat→Prop} {s:Ss} {W:World} {n:Nat}
theorem SnL.pst {s':Ss} {W':World} (h:SnL w b T s W) (p:Pst (SnAt b (.func (.func 11) #[] #[])) T W s' W'):SnL w b (Add T W W') s' W' :=
 ⟨p.1,h.gr.ch p.2 h.base,fun k e=>e.elim (h.base k) (fun e=>Nat.le_trans (Below.size h.gr) e.1)⟩
def LnPost (w:World) (b:Nat) (T:Nat→Prop) (W:World) (s':Ss) (W':World):Prop :=
 ∃ T',SnL w b T' s' W'∧Ch T W W'∧∀ k,k<W.heap.size→¬T k→¬T' k
theorem SnL.ln {s':Ss} {W':World} (h:SnL w b T s W) (p:Pst (SnAt b (.func (.func 11) #[] #[])) T W s' W'):LnPost w b T W s' W' :=
 ⟨_,h.pst p,p.2,fun k hk hn e=>e.elim hn (fun e=>absurd hk (Nat.not_lt.2 e.1))⟩
theorem SnL.ch {S:Nat→Prop} {W':World} (h:SnL w b T s W) (hc:Ch S W W') (hS:∀ k,S k→¬T k∧w.heap.size≤k):SnL w b T s W' :=
 ⟨(snKin b _).frame h.at' hc (fun k e e2=>(hS k e2).1 e),h.gr.ch hc (fun k e=>(hS k e).2),h.base⟩
theorem SnL.grow {W':World} (h:SnL w b T s W) (g:Gr W W'):SnL w b T s W':=h.ch (g.to_ch (fun _=>False)) (fun _ e=>e.elim)
theorem SnL.hi (h:SnL w b T s W) (hG:G w):Hi T:=fun k e=>Nat.lt_of_lt_of_le hG.lt (h.base k e)
theorem SnL.lt (h:SnL w b T s W):∀ k,T k→k<W.heap.size:=h.at'.2
theorem sok_some (hS:Sok s):s.st=2→s.c.isSome=true:=fun e=>by
 obtain ⟨c,hc,_⟩:=hS.b e
 rw [hc];rfl
theorem lsn_new (hG:G w) (hg:Gr w W) (q limit:Nat) (h1:1≤q) (h2:q≤64) (hlim:limit≤1099511627776) :
  Calls Tryz.prog 10 #[.func (.func 11) #[] #[],.int .i64 q,.int .i64 limit] W fun e w'=>∃ b,e=.returned (.tuple #[.pointer (some ⟨b,0,none⟩),.int .i64 0])∧SnL w b (New W w') (ss0 q limit) w'∧Gr W w':=by
 refine (sn_new W (hG.gr hg) q limit h1 h2 hlim).mono ?_
 rintro e w' ⟨b,rfl,h,g⟩
 exact ⟨b,rfl,⟨h,hg.trans g,fun k e=>Nat.le_trans (Below.size hg) e.1⟩,g⟩
theorem lsn_feed (h:SnL w b T s W) (hB:SsB n s) (hS:Sok s) (x:List UInt8) (hn:n+x.length≤90000) :
  Calls Tryz.prog 12 #[.pointer (some ⟨b,0,none⟩),.string ⟨x.toArray⟩] W fun e w'=>e=.returned (.tuple #[])∧LnPost w b T W (ssFeed s x) w':=by
 refine (sn_feed h.at' x (sok_some hS) (by have:=hB.p.sum;omega) (fun c hc=>by have:=(hB.w c hc).b.r.i;omega)).mono ?_
 rintro e w' ⟨rfl,hp⟩
 exact ⟨rfl,h.ln hp⟩
theorem lsn_next (h:SnL w b T s W) (hG:G w) (hB:SsB n s) (hS:Sok s) (hn:n≤90000) :
  Calls Tryz.prog 13 #[.pointer (some ⟨b,0,none⟩)] W fun e w'=>e=.returned (.tuple #[sevO (ssNext serveH s).2,.bool (ssNext serveH s).2.isSome])∧LnPost w b T W (ssNext serveH s).1 w':=by
 refine (sn_next (F:=fun _=>False) (n:=n) h.at' (hG.gr h.gr) (h.hi hG) (serve_hnd W) (fun _ e=>e.elim) hB.lim hS.a (fun _=>hB.p.le hn) (by omega) (fun e=>?_)).mono ?_
 ·obtain ⟨c,hc,_⟩:=hS.b e
  exact ⟨c,hc,(hB.w c hc).b,fun x hx=>((hB.w c hc).next.2 x hx).1⟩
 ·rintro e w' ⟨rfl,hp⟩
  exact ⟨rfl,h.ln hp⟩
theorem lsn_out (h:SnL w b T s W) (hB:SsB n s) (hS:Sok s) (hn:n≤90000) :
  Calls Tryz.prog 14 #[.pointer (some ⟨b,0,none⟩)] W fun e w'=>e=.returned (outV (ssOut s).2)∧LnPost w b T W (ssOut s).1 w':=by
 refine (sn_out h.at' hS.x (fun it hi=>?_)).mono ?_
 ·exact ((hB.x.next).2 it hi).imp_right (fun e=>Nat.le_trans e (by omega))
 ·rintro e w' ⟨rfl,hp⟩
  exact ⟨rfl,h.ln hp⟩
end
theorem lframe_any (op:Nat) (s:List UInt8) (W:World) (h:op≤15) (hn:s.length≤125) :
  Calls Tryz.prog 32 #[.bool true,.int .i64 op,.string ⟨s.toArray⟩] W fun e w'=>e=.returned (.string ⟨(maskF op s).toArray⟩)∧Gr W w':=by
 have hb:=hid (fun W=>rfbytes_mask op s W h hn)
 obtain ⟨m,hm⟩:∃ m,maskF op s=m:=⟨_,rfl⟩
 rw [hm] at hb
 have hm':=hid hm
 clear hm h hn
 go_enter Tryz.func32,Tryz.ntmps32
 go_wp2_with (fail)
 refine (hb.out _).mono ?_
 rintro e w1 ⟨rfl,g1⟩
 go_wp2
 go_ret
 exact ⟨by rw [hm'.out];rfl,g1⟩
theorem frm_mask:maskF 9 [120]=frmL:=by kernel_rfl
theorem get_home:getB' [47]=getL:=by kernel_rfl
theorem wk_ok:Sok wkS1∧Sok wkS2∧Sok wkS3∧Sok wkS4∧Sok wkS5∧Sok wkS6∧Sok wkS7:=by
 have h0:=sok0 (q:=2) (limit:=100) (by decide)
 have h1:=h0.feed wakeL
 rw [wake_feed] at h1
 have h2:=h1.next (H:=serveH)
 rw [wake_next1] at h2
 have h3:=h2.next (H:=serveH)
 rw [wake_next2] at h3
 have h4:=h3.next (H:=serveH)
 rw [wake_next3] at h4
 have h5:=h4.out
 rw [wake_out1] at h5
 have h6:=h5.out
 rw [wake_out2] at h6
 have h7:=h6.out
 rw [wake_out3] at h7
 exact ⟨h1,h2,h3,h4,h5,h6,h7⟩
theorem wake_len:wakeL.length≤1000:=by decide +kernel
theorem wk_b:SsB 1000 wkS1∧SsB 1000 wkS2∧SsB 1000 wkS3∧SsB 1000 wkS4∧SsB 1000 wkS5∧SsB 1000 wkS6∧SsB 1000 wkS7:=by
 have h0:=ss0_b (q:=2) (limit:=100) (by decide)
 have h1:=(h0.feed wakeL).le (m:=1000) (by rw [Nat.zero_add];exact wake_len)
 rw [wake_feed] at h1
 have h2:=h1.next (H:=serveH)
 rw [wake_next1] at h2
 have h3:=h2.next (H:=serveH)
 rw [wake_next2] at h3
 have h4:=h3.next (H:=serveH)
 rw [wake_next3] at h4
 have h5:=h4.out
 rw [wake_out1] at h5
 have h6:=h5.out
 rw [wake_out2] at h6
 have h7:=h6.out
 rw [wake_out3] at h7
 exact ⟨h1,h2,h3,h4,h5,h6,h7⟩
section
variable {w:World} {b:Nat} {T:Nat→Prop} {W:World}
theorem wk_next1 (h:SnL w b T wkS1 W) (hG:G w):Calls Tryz.prog 13 #[.pointer (some ⟨b,0,none⟩)] W fun e w'=>e=.returned (.tuple #[.agg #[.int .i64 3,.int .i64 0,.string ⟨#[]⟩],.bool true])∧LnPost w b T W wkS2 w':=by
 have:=lsn_next h hG wk_b.1 wk_ok.1 (by decide)
 rw [wake_next1] at this
 exact this
theorem wk_next2 (h:SnL w b T wkS2 W) (hG:G w):Calls Tryz.prog 13 #[.pointer (some ⟨b,0,none⟩)] W fun e w'=>e=.returned (.tuple #[.agg #[.int .i64 1,.int .i64 0,.string ⟨#[]⟩],.bool true])∧LnPost w b T W wkS3 w':=by
 have:=lsn_next h hG wk_b.2.1 wk_ok.2.1 (by decide)
 rw [wake_next2] at this
 exact this
theorem wk_next3 (h:SnL w b T wkS3 W) (hG:G w):Calls Tryz.prog 13 #[.pointer (some ⟨b,0,none⟩)] W fun e w'=>e=.returned (.tuple #[.agg #[.int .i64 3,.int .i64 0,.string ⟨#[]⟩],.bool true])∧LnPost w b T W wkS4 w':=by
 have:=lsn_next h hG wk_b.2.2.1 wk_ok.2.2.1 (by decide)
 rw [wake_next3] at this
 exact this
theorem wk_out1 (h:SnL w b T wkS4 W):Calls Tryz.prog 14 #[.pointer (some ⟨b,0,none⟩)] W fun e w'=>e=.returned (.tuple #[.string ⟨homeL.toArray⟩,.bool false,.bool true])∧LnPost w b T W wkS5 w':=by
 have:=lsn_out h wk_b.2.2.2.1 wk_ok.2.2.2.1 (by decide)
 rw [wake_out1] at this
 exact this
theorem wk_out2 (h:SnL w b T wkS5 W):Calls Tryz.prog 14 #[.pointer (some ⟨b,0,none⟩)] W fun e w'=>e=.returned (.tuple #[.string ⟨toldL.toArray⟩,.bool false,.bool true])∧LnPost w b T W wkS6 w':=by
 have:=lsn_out h wk_b.2.2.2.2.1 wk_ok.2.2.2.2.1 (by decide)
 rw [wake_out2] at this
 exact this
theorem wk_out3 (h:SnL w b T wkS6 W):Calls Tryz.prog 14 #[.pointer (some ⟨b,0,none⟩)] W fun e w'=>e=.returned (.tuple #[.string ⟨#[138,1,120]⟩,.bool false,.bool true])∧LnPost w b T W wkS7 w':=by
 have:=lsn_out h wk_b.2.2.2.2.2.1 wk_ok.2.2.2.2.2.1 (by decide)
 rw [wake_out3] at this
 exact this
end
theorem wakes28_any (w:World) (hG:G w):Calls Tryz.prog 7 #[] w fun e w'=>e=.returned (.bool true)∧Gr w w':=by
 have hG':=hid hG
 have hnw:=hid (lsn_new hG (Gr.refl w) 2 100 (by decide) (by decide) (by decide))
 have hget:=hid (fun W=>lget_any [47] (by decide) W)
 have hfr:=hid (fun W=>lframe_any 9 [120] W (by decide) (by decide))
 rw [frm_mask] at hfr
 rw [get_home] at hget
 have hgl:getL.length≤1000:=by decide +kernel
 have hal:askL.length≤1000:=by decide +kernel
 have hfl:frmL.length≤1000:=by decide +kernel
 have c1:(⟨getL.toArray⟩:ByteArray)++⟨askL.toArray⟩=⟨(getL++askL).toArray⟩:=cat_mk _ _
 have c2:(⟨(getL++askL).toArray⟩:ByteArray)++⟨frmL.toArray⟩=⟨wakeL.toArray⟩:=by
  refine (cat_mk _ _).trans ?_
  rw [List.append_assoc];rfl
 have hask:=hid (fun W=>lask_any W)
 have htold:=hid (fun W=>ltold_any W)
 have hfeed:=hid (fun b T W (h:SnL w b T (ss0 2 100) W)=>lsn_feed h (ss0_b (q:=2) (limit:=100) (by decide)) (sok0 (by decide)) wakeL (by have:=wake_len;omega))
 rw [wake_feed] at hfeed
 have hho:homeL=[72,84,84,80,47,49,46,49,32,50,48,48,32,79,75,13,10,67,111,110,116,101,110,116,45,76,101,110,103,116,104,58,32,52,13,10,13,10,104,111,109,101]:=rfl
 have hho':=hid hho
 obtain ⟨gl,egl⟩:∃ x,getL=x:=⟨_,rfl⟩
 obtain ⟨al,eal⟩:∃ x,askL=x:=⟨_,rfl⟩
 obtain ⟨fl,efl⟩:∃ x,frmL=x:=⟨_,rfl⟩
 obtain ⟨wl,ewl⟩:∃ x,wakeL=x:=⟨_,rfl⟩
 obtain ⟨tl,etl⟩:∃ x,toldL=x:=⟨_,rfl⟩
 rw [egl] at hget c1 c2 hgl
 rw [eal] at hask c1 c2 hal
 rw [efl] at hfr c2 hfl
 rw [ewl] at hfeed c2
 rw [etl] at htold
 have etl':=hid etl
 have hn1:¬9223372036854775807<gl.length+al.length:=by omega
 have hn2:¬9223372036854775807<gl.length+al.length+fl.length:=by omega
 clear hG hho egl eal efl ewl hgl hal hfl etl
 go_enter Tryz.func7,Tryz.ntmps7
 go_wp2_with (fail)
 refine hnw.out.mono ?_
 rintro e w1 ⟨b,rfl,h1,g1⟩
 have h1':=hid h1
 clear h1 g1 hnw
 go_wp2_with (fail)
 refine (hget.out _).mono ?_
 rintro e w2 ⟨rfl,rfl⟩
 go_wp2_with (fail)
 refine (hask.out _).mono ?_
 rintro e w2 ⟨rfl,rfl⟩
 go_wp2_with (fail)
 refine (hfr.out _).mono ?_
 rintro e w2 ⟨rfl,g2⟩
 have h2':=hid (h1'.out.grow g2)
 clear g2 h1' hget hask hfr
 go_wp2_with (fail)
 refine (hfeed.out _ _ _ h2'.out).mono ?_
 rintro e w3 ⟨rfl,T3,h3,_,_⟩
 have h3':=hid h3
 clear h3 h2' hfeed c1 c2 hn1 hn2
 go_wp2_with (fail)
 refine (wk_next1 h3'.out hG'.out).mono ?_
 rintro e w4 ⟨rfl,T4,h4,c4,n4⟩
 go_upto_region 6 with (fail)
 obtain ⟨v1,hv1⟩:∃ v,w4.alloc (.cells #[.int .i64 3,.int .i64 0,.string ⟨#[]⟩] 28)=v:=⟨_,rfl⟩
 try rw [hv1]
 have gv1:Gr w4 v1:=hv1▸Gr.alloc w4 _
 have x1:v1.cell? ⟨w4.heap.size,0,none⟩=some (.int .i64 3):=by rw [←hv1];exact cell_new7 _ _ _ 0 _ rfl
 have a1:¬T4 w4.heap.size:=fun e=>absurd (h4.lt _ e) (Nat.lt_irrefl _)
 have z1:w4.heap.size<v1.heap.size:=by rw [←hv1];simp
 have hv1':=hid (h4.grow gv1)
 clear h4 c4 n4 gv1 hv1 h3'
 go_wp2_with (fail)
 refine (wk_next2 hv1'.out hG'.out).mono ?_
 rintro e w5 ⟨rfl,T5,h5,c5,n5⟩
 replace x1:=(c5.cell (p:=⟨w4.heap.size,0,none⟩) (cell_lt x1) a1).trans x1
 replace a1:=n5 _ z1 a1
 replace z1:=Nat.lt_of_lt_of_le z1 c5.size
 go_upto_region 7 with (fail)
 obtain ⟨v2,hv2⟩:∃ v,w5.alloc (.cells #[.int .i64 1,.int .i64 0,.string ⟨#[]⟩] 28)=v:=⟨_,rfl⟩
 try rw [hv2]
 have gv2:Gr w5 v2:=hv2▸Gr.alloc w5 _
 have x2:v2.cell? ⟨w5.heap.size,0,none⟩=some (.int .i64 1):=by rw [←hv2];exact cell_new7 _ _ _ 0 _ rfl
 have a2:¬T5 w5.heap.size:=fun e=>absurd (h5.lt _ e) (Nat.lt_irrefl _)
 have z2:w5.heap.size<v2.heap.size:=by rw [←hv2];simp
 replace x1:=gv2.cell x1
 replace z1:=Nat.lt_of_lt_of_le z1 (Below.size gv2)
 have hv2':=hid (h5.grow gv2)
 clear h5 c5 n5 gv2 hv2 hv1'
 go_wp2_with (fail)
 refine (wk_next3 hv2'.out hG'.out).mono ?_
 rintro e w6 ⟨rfl,T6,h6,c6,n6⟩
 replace x1:=(c6.cell (p:=⟨w4.heap.size,0,none⟩) (cell_lt x1) a1).trans x1
 replace a1:=n6 _ z1 a1
 replace z1:=Nat.lt_of_lt_of_le z1 c6.size
 replace x2:=(c6.cell (p:=⟨w5.heap.size,0,none⟩) (cell_lt x2) a2).trans x2
 replace a2:=n6 _ z2 a2
 replace z2:=Nat.lt_of_lt_of_le z2 c6.size
 go_upto_region 8 with (fail)
 obtain ⟨v3,hv3⟩:∃ v,w6.alloc (.cells #[.int .i64 3,.int .i64 0,.string ⟨#[]⟩] 28)=v:=⟨_,rfl⟩
 try rw [hv3]
 have gv3:Gr w6 v3:=hv3▸Gr.alloc w6 _
 have x3:v3.cell? ⟨w6.heap.size,0,none⟩=some (.int .i64 3):=by rw [←hv3];exact cell_new7 _ _ _ 0 _ rfl
 have a3:¬T6 w6.heap.size:=fun e=>absurd (h6.lt _ e) (Nat.lt_irrefl _)
 have z3:w6.heap.size<v3.heap.size:=by rw [←hv3];simp
 replace x1:=gv3.cell x1
 replace z1:=Nat.lt_of_lt_of_le z1 (Below.size gv3)
 replace x2:=gv3.cell x2
 replace z2:=Nat.lt_of_lt_of_le z2 (Below.size gv3)
 have hv3':=hid (h6.grow gv3)
 clear h6 c6 n6 gv3 hv3 hv2'
 have hhr:=hid (sn_hears hv3'.out.at' (sok_some wk_ok.2.2.2.1))
 rw [wake_hears] at hhr
 go_wp2_with (fail)
 refine hhr.out.mono ?_
 rintro e w7 ⟨rfl,rfl⟩
 clear hhr
 go_wp2_with (fail)
 refine (wk_out1 hv3'.out).mono ?_
 rintro e w7 ⟨rfl,T7,h7,c7,n7⟩
 replace x1:=(c7.cell (p:=⟨w4.heap.size,0,none⟩) (cell_lt x1) a1).trans x1
 replace a1:=n7 _ z1 a1
 replace z1:=Nat.lt_of_lt_of_le z1 c7.size
 replace x2:=(c7.cell (p:=⟨w5.heap.size,0,none⟩) (cell_lt x2) a2).trans x2
 replace a2:=n7 _ z2 a2
 replace z2:=Nat.lt_of_lt_of_le z2 c7.size
 replace x3:=(c7.cell (p:=⟨w6.heap.size,0,none⟩) (cell_lt x3) a3).trans x3
 replace a3:=n7 _ z3 a3
 replace z3:=Nat.lt_of_lt_of_le z3 c7.size
 have ho1':=hid h7
 clear h7 c7 n7 hv3'
 go_wp2_with (fail)
 refine (wk_out2 ho1'.out).mono ?_
 rintro e w8 ⟨rfl,T8,h8,c8,n8⟩
 replace x1:=(c8.cell (p:=⟨w4.heap.size,0,none⟩) (cell_lt x1) a1).trans x1
 replace a1:=n8 _ z1 a1
 replace z1:=Nat.lt_of_lt_of_le z1 c8.size
 replace x2:=(c8.cell (p:=⟨w5.heap.size,0,none⟩) (cell_lt x2) a2).trans x2
 replace a2:=n8 _ z2 a2
 replace z2:=Nat.lt_of_lt_of_le z2 c8.size
 replace x3:=(c8.cell (p:=⟨w6.heap.size,0,none⟩) (cell_lt x3) a3).trans x3
 replace a3:=n8 _ z3 a3
 replace z3:=Nat.lt_of_lt_of_le z3 c8.size
 have ho2':=hid h8
 clear h8 c8 n8 ho1'
 go_wp2_with (fail)
 refine (wk_out3 ho2'.out).mono ?_
 rintro e w9 ⟨rfl,T9,h9,c9,n9⟩
 replace x1:=(c9.cell (p:=⟨w4.heap.size,0,none⟩) (cell_lt x1) a1).trans x1
 replace a1:=n9 _ z1 a1
 replace z1:=Nat.lt_of_lt_of_le z1 c9.size
 replace x2:=(c9.cell (p:=⟨w5.heap.size,0,none⟩) (cell_lt x2) a2).trans x2
 replace a2:=n9 _ z2 a2
 replace z2:=Nat.lt_of_lt_of_le z2 c9.size
 replace x3:=(c9.cell (p:=⟨w6.heap.size,0,none⟩) (cell_lt x3) a3).trans x3
 replace a3:=n9 _ z3 a3
 replace z3:=Nat.lt_of_lt_of_le z3 c9.size
 have ho3':=hid h9
 clear h9 c9 n9 ho2'
 have hwt:=hid (sn_waits ho3'.out.at')
 rw [wake_waits] at hwt
 rw [hho'.out]
 go_wp2_with (fail)
 refine (htold.out _).mono ?_
 rintro e w10 ⟨rfl,rfl⟩
 go_wp2_with (fail)
 refine hwt.out.mono ?_
 rintro e w10 ⟨rfl,rfl⟩
 go_wp2
 go_ret
 exact ⟨rfl,ho3'.out.gr⟩
end Go.Proofs.YtadobobfjnmdlaaGreatDoor
