/-
  The document's frames: their bytes. (Printed by mk_em.py.)
-/
import Derived.Test.YtadobobfjnmdlaaGreatDoorEj
set_option linter.unnecessarySimpa false
set_option linter.unusedVariables false
set_option linter.unusedSimpArgs false
set_option maxHeartbeats 16000000
set_option maxRecDepth 100000
open Go.Lib (hid)
open Go.Proofs.Tryz
namespace Go.Proofs.YtadobobfjnmdlaaGreatDoor
open Go.RowKit Go.Shelf
attribute [local go_sem] Oper.semAt_some
theorem cells_add_new (W:World) (l:List Value) (t:TypeId):∀ j u,l[j]?=some u→(W.alloc (.cells l.toArray t)).cell? ((⟨W.heap.size,0,none⟩:Addr).add j)=some u:=λj u h=>by
 have:=cell_new7 W l t j u h
 by_cases e:j=0
 ·subst e;simpa[Addr.add] using this
 ·simp only[Addr.add,e];simpa using this
theorem rmask_later (k0 k1 k2 k3:UInt8) (s:List UInt8) (W:World) (hs:s.length≤100000) (y:Later (Gr W)) :
  Calls prog 58 #[.agg #[.int .u8 k0.toNat,.int .u8 k1.toNat,.int .u8 k2.toNat,.int .u8 k3.toNat],.int .i64 0,.string ⟨s.toArray⟩] y.w λe w'=>e=.returned (.string ⟨(maskB k0 k1 k2 k3 0 s).toArray⟩)∧∃ z:Later (Gr W),w'=z.w :=
 Calls.later ((rmask_any k0 k1 k2 k3 s y.w hs).mono λ_ w' ⟨h1,h2⟩=>⟨h1,y.ok.trans h2⟩)
theorem rmask0_later (s:List UInt8) (W:World) (hs:s.length≤100000) (y:Later (Gr W)) :
  Calls prog 58 #[.agg #[.int .u8 0,.int .u8 0,.int .u8 0,.int .u8 0],.int .i64 0,.string ⟨s.toArray⟩] y.w λe w'=>e=.returned (.string ⟨s.toArray⟩)∧∃ z:Later (Gr W),w'=z.w:=by
 have h:=rmask_later 0 0 0 0 s W hs y
 rw[maskB_zero] at h
 exact h
theorem rmask1_later (s:List UInt8) (W:World) (hs:s.length≤100000) (y:Later (Gr W)) :
  Calls prog 58 #[.agg #[.int .u8 1,.int .u8 2,.int .u8 3,.int .u8 4],.int .i64 0,.string ⟨s.toArray⟩] y.w λe w'=>e=.returned (.string ⟨(maskB 1 2 3 4 0 s).toArray⟩)∧∃ z:Later (Gr W),w'=z.w :=
 rmask_later 1 2 3 4 s W hs y
def maskF (op:Nat) (s:List UInt8):List UInt8:=[UInt8.ofNat (128+op),UInt8.ofNat (128+s.length),1,2,3,4]++maskB 1 2 3 4 0 s
theorem rfbytes_short (op:Nat) (s:List UInt8) (W:World) (h:op≤15) (hn:s.length≤125):Calls prog 29 #[.agg #[.bool true,.int .i64 0,.int .i64 op,.bool false,.int .u8 0,.int .u8 0,.int .u8 0,.int .u8 0,.string ⟨s.toArray⟩]] W λe w'=>e=.returned (.tuple #[.string ⟨(outF op s).toArray⟩,.int .i64 0])∧Gr W w':=by
 have h0:¬(op:Int)<0:=by omega
 have h1:¬(15:Int)<(op:Int):=by omega
 obtain⟨y0,hy0⟩:∃ y,UInt8.ofNat (128+op)=y:=⟨_,rfl⟩
 have hq1:(y0.toNat:Int)=(op:Int)+128:=by rw[←hy0];simp[UInt8.toNat_ofNat'] <;> omega
 have hq0w0:IntKind.i64.wrap ((op:Int)+128)=(op:Int)+128:=IntWalk.i64_in _ (by omega)
 obtain⟨i0,hi,hz0,hz1,hz2⟩:=info_parts infoU8
 have hsl:s.length≤100000:=by omega
 have hv0:outF op s=[UInt8.ofNat (128+op),UInt8.ofNat s.length]++s:=by unfold outF;rw[if_neg (by omega)];unfold numF;rw[if_pos hn];rfl
 obtain⟨y1,hy1⟩:∃ y,UInt8.ofNat s.length=y:=⟨_,rfl⟩
 have hq2:(y1.toNat:Int)=(s.length:Int):=by rw[←hy1];simp[UInt8.toNat_ofNat'] <;> omega
 rw[hy0,hy1] at hv0
 have hv:=hid hv0
 clear hv0 hy0 hy1
 go_enter func29,ntmps29
 go_upto_region 13 with (fail)
 obtain⟨w4,hw4⟩:∃ w4,(W.alloc (.cells #[.bool true,.int .i64 0,.int .i64 op,.bool false,.int .u8 0,.int .u8 0,.int .u8 0,.int .u8 0,.string ⟨s.toArray⟩] 56)).alloc (.cells #[.int .u8 ((op:Int)+128)] 5)=w4:=⟨_,rfl⟩
 try rw[hw4]
 have g4:Gr W w4:=by rw[←hw4];exact (Gr.alloc _ _).alloc1 _
 have s4:W.heap.size+1≤w4.heap.size:=by rw[←hw4];simp
 have e3:w4.cell? ⟨W.heap.size,3,none⟩=some (.bool false):=by rw[←hw4];exact (Gr.alloc _ _).cell (cell_new7 _ _ _ 3 _ rfl)
 have e4:w4.cell? ⟨W.heap.size,4,none⟩=some (.int .u8 0):=by rw[←hw4];exact (Gr.alloc _ _).cell (cell_new7 _ _ _ 4 _ rfl)
 have e5:w4.cell? ⟨W.heap.size,5,none⟩=some (.int .u8 0):=by rw[←hw4];exact (Gr.alloc _ _).cell (cell_new7 _ _ _ 5 _ rfl)
 have e6:w4.cell? ⟨W.heap.size,6,none⟩=some (.int .u8 0):=by rw[←hw4];exact (Gr.alloc _ _).cell (cell_new7 _ _ _ 6 _ rfl)
 have e7:w4.cell? ⟨W.heap.size,7,none⟩=some (.int .u8 0):=by rw[←hw4];exact (Gr.alloc _ _).cell (cell_new7 _ _ _ 7 _ rfl)
 have e8:w4.cell? ⟨W.heap.size,8,none⟩=some (.string ⟨s.toArray⟩):=by rw[←hw4];exact (Gr.alloc _ _).cell (cell_new7 _ _ _ 8 _ rfl)
 have o4:w4.ownsRow (W.heap.size+1) 5 1 (.slice (some ⟨W.heap.size+1,0,none⟩) 1 1) 1 (bcells [y0]):=by
  have hl:=World.ownsRow_lit (base:=W.heap.size+1) (size:=1) (e:=5) (W.alloc (.cells #[.bool true,.int .i64 0,.int .i64 op,.bool false,.int .u8 0,.int .u8 0,.int .u8 0,.int .u8 0,.string ⟨s.toArray⟩] 56)) #[.int .u8 ((op:Int)+128)] 1 (by simp) (by decide) rfl
  rw[World.size_alloc,hw4] at hl
  have e:bcells [y0]=#[Value.int .u8 ((op:Int)+128)].toList:=by rw[bcells_cons,hq1];rfl
  rw[e]
  exact hl
 have o4':=hid o4
 have g4':=hid g4
 have s4':=hid s4
 have hoA:∀ O,(w4.alloc O).ownsRow (W.heap.size+1) 5 1 (.slice (some ⟨W.heap.size+1,0,none⟩) 1 1) 1 (bcells [y0]):=λO=>World.ownsRow.alloc o4'.out O
 have hcA:∀ j u,([.int .u8 (s.length:Int)]:List Value)[j]?=some u→(w4.alloc (.cells ([.int .u8 (s.length:Int)]:List Value).toArray 5)).cell? ((⟨w4.heap.size,0,none⟩:Addr).add j)=some u:=cells_add_new w4 _ _
 clear hw4 g4 s4 o4
 go_wp2_with (at_builtin;refine wpList_append_own _ rfl _ _ 100 rfl (W.heap.size+1) 5 i0 (.int .u8 0) 1 1 underlying100 hi hz0 hz1 hz2 rfl (by decide) _ _ _ rfl (hoA _) ⟨w4.heap.size,0,none⟩ 1 1 [.int .u8 (s.length:Int)] rfl rfl hcA (by simp[Value.oneCell']) (by unfold maxLen;decide) (by decide) (by simp;have:=s4'.out;omega) ?_)
 intro v5 w5 hown5 hgrow5 _
 have hc5:Ch (λj=>j=W.heap.size+1) w4 w5:=(((Gr.alloc w4 _).to_ch _).trans (ch_grown hgrow5)).mono (λj e=>by simpa[Value.ownBlock,eq_comm] using e)
 have hE:¬(W.heap.size=W.heap.size+1):=by omega
 have cc:∀ {j u},w4.cell? ⟨W.heap.size,j,none⟩=some u→w5.cell? ⟨W.heap.size,j,none⟩=some u:=fun {j u} hh=>(hc5.cell (p:=⟨W.heap.size,j,none⟩) (cell_lt hh) hE).trans hh
 replace e3:=cc e3
 replace e4:=cc e4
 replace e5:=cc e5
 replace e6:=cc e6
 replace e7:=cc e7
 replace e8:=cc e8
 have g5':=hid (g4'.out.ch hc5 (λj e=>by rw[show j=W.heap.size+1 from e];exact Nat.le_succ _))
 have s5':=hid (Nat.le_trans s4'.out hc5.size)
 have hown6:OwnB (W.heap.size+1) w5 v5 [y0,y1]:=by
  have e:bcells [y0,y1]=bcells [y0]++[.int .u8 (s.length:Int)]:=by
   simp only[bcells,List.map,List.cons_append,List.nil_append]
   rw[hq2]
  unfold OwnB
  rw[e]
  exact hown5
 have hown6':=hid hown6
 obtain⟨p5,cap5,rfl⟩:=hown6.slice
 clear hown6 hown5 hgrow5 hc5 cc hcA hoA
 haveI:Nonempty (Later (Gr w5)):=⟨⟨w5,Gr.refl w5⟩⟩
 have hcb:∀ y:Later (Gr w5),(convert 100 9 (.slice p5 2 cap5)).run prog y.w=.ok (.string ⟨([y0,y1]:List UInt8).toArray⟩) y.w:=λy=>conv_all (ownsRow_gr hown6'.out y.ok)
 have t4:∀ y:Later (Gr w5),y.w.cell? ⟨W.heap.size,4,none⟩=some (.int .u8 0):=λy=>y.ok.cell e4
 have t5:∀ y:Later (Gr w5),y.w.cell? ⟨W.heap.size,5,none⟩=some (.int .u8 0):=λy=>y.ok.cell e5
 have t6:∀ y:Later (Gr w5),y.w.cell? ⟨W.heap.size,6,none⟩=some (.int .u8 0):=λy=>y.ok.cell e6
 have t7:∀ y:Later (Gr w5),y.w.cell? ⟨W.heap.size,7,none⟩=some (.int .u8 0):=λy=>y.ok.cell e7
 have t8:∀ y:Later (Gr w5),y.w.cell? ⟨W.heap.size,8,none⟩=some (.string ⟨s.toArray⟩):=λy=>y.ok.cell e8
 have hmk:=hid (rmask0_later s w5 hsl)
 have hcat:(⟨([y0,y1]:List UInt8).toArray⟩:ByteArray)++(⟨(s).toArray⟩:ByteArray)=⟨([y0,y1]++s).toArray⟩:=cat_mk _ _
 go_upto_region 24 with (fail)
 clear e3 e4 e5 e6 e7 e8
 refine wp_region_later (C:=Gr w5) (by kernel_rfl) (by kernel_rfl) (Gr.drew' _) ?_
 repeat (go_big_quiet_step (with_reducible exact hmk.out _))
 refine wpQuiet_nil ?_
 intro w9 hg9
 have hgz:=hid (g5'.out.trans hg9)
 clear t4 t5 t6 t7 t8 hcb hg9
 go_wp2
 refine bodyPost_ret (v:=.tuple #[.string ⟨([y0,y1]++s).toArray⟩,.int .i64 0]) (by simp[results,results29,go_sem]) rfl ⟨by rw[hv.out],hgz.out⟩
theorem rfbytes_mask (op:Nat) (s:List UInt8) (W:World) (h:op≤15) (hn:s.length≤125):Calls prog 29 #[.agg #[.bool true,.int .i64 0,.int .i64 op,.bool true,.int .u8 1,.int .u8 2,.int .u8 3,.int .u8 4,.string ⟨s.toArray⟩]] W λe w'=>e=.returned (.tuple #[.string ⟨(maskF op s).toArray⟩,.int .i64 0])∧Gr W w':=by
 have h0:¬(op:Int)<0:=by omega
 have h1:¬(15:Int)<(op:Int):=by omega
 obtain⟨y0,hy0⟩:∃ y,UInt8.ofNat (128+op)=y:=⟨_,rfl⟩
 have hq1:(y0.toNat:Int)=(op:Int)+128:=by rw[←hy0];simp[UInt8.toNat_ofNat'] <;> omega
 have hq0w0:IntKind.i64.wrap ((op:Int)+128)=(op:Int)+128:=IntWalk.i64_in _ (by omega)
 obtain⟨i0,hi,hz0,hz1,hz2⟩:=info_parts infoU8
 have hsl:s.length≤100000:=by omega
 have hv0:maskF op s=[UInt8.ofNat (128+op),UInt8.ofNat (128+s.length),1,2,3,4]++maskB 1 2 3 4 0 s:=rfl
 obtain⟨y1,hy1⟩:∃ y,UInt8.ofNat (128+s.length)=y:=⟨_,rfl⟩
 have hq2:(y1.toNat:Int)=128+(s.length:Int):=by rw[←hy1];simp[UInt8.toNat_ofNat'] <;> omega
 have hq2w:IntKind.i64.wrap (128+(s.length:Int))=128+(s.length:Int):=IntWalk.i64_in _ (by omega)
 rw[hy0,hy1] at hv0
 have hv:=hid hv0
 clear hv0 hy0 hy1
 go_enter func29,ntmps29
 go_upto_region 13 with (fail)
 obtain⟨w4,hw4⟩:∃ w4,(W.alloc (.cells #[.bool true,.int .i64 0,.int .i64 op,.bool true,.int .u8 1,.int .u8 2,.int .u8 3,.int .u8 4,.string ⟨s.toArray⟩] 56)).alloc (.cells #[.int .u8 ((op:Int)+128)] 5)=w4:=⟨_,rfl⟩
 try rw[hw4]
 have g4:Gr W w4:=by rw[←hw4];exact (Gr.alloc _ _).alloc1 _
 have s4:W.heap.size+1≤w4.heap.size:=by rw[←hw4];simp
 have e3:w4.cell? ⟨W.heap.size,3,none⟩=some (.bool true):=by rw[←hw4];exact (Gr.alloc _ _).cell (cell_new7 _ _ _ 3 _ rfl)
 have e4:w4.cell? ⟨W.heap.size,4,none⟩=some (.int .u8 1):=by rw[←hw4];exact (Gr.alloc _ _).cell (cell_new7 _ _ _ 4 _ rfl)
 have e5:w4.cell? ⟨W.heap.size,5,none⟩=some (.int .u8 2):=by rw[←hw4];exact (Gr.alloc _ _).cell (cell_new7 _ _ _ 5 _ rfl)
 have e6:w4.cell? ⟨W.heap.size,6,none⟩=some (.int .u8 3):=by rw[←hw4];exact (Gr.alloc _ _).cell (cell_new7 _ _ _ 6 _ rfl)
 have e7:w4.cell? ⟨W.heap.size,7,none⟩=some (.int .u8 4):=by rw[←hw4];exact (Gr.alloc _ _).cell (cell_new7 _ _ _ 7 _ rfl)
 have e8:w4.cell? ⟨W.heap.size,8,none⟩=some (.string ⟨s.toArray⟩):=by rw[←hw4];exact (Gr.alloc _ _).cell (cell_new7 _ _ _ 8 _ rfl)
 have o4:w4.ownsRow (W.heap.size+1) 5 1 (.slice (some ⟨W.heap.size+1,0,none⟩) 1 1) 1 (bcells [y0]):=by
  have hl:=World.ownsRow_lit (base:=W.heap.size+1) (size:=1) (e:=5) (W.alloc (.cells #[.bool true,.int .i64 0,.int .i64 op,.bool true,.int .u8 1,.int .u8 2,.int .u8 3,.int .u8 4,.string ⟨s.toArray⟩] 56)) #[.int .u8 ((op:Int)+128)] 1 (by simp) (by decide) rfl
  rw[World.size_alloc,hw4] at hl
  have e:bcells [y0]=#[Value.int .u8 ((op:Int)+128)].toList:=by rw[bcells_cons,hq1];rfl
  rw[e]
  exact hl
 have o4':=hid o4
 have g4':=hid g4
 have s4':=hid s4
 have hoA:∀ O,(w4.alloc O).ownsRow (W.heap.size+1) 5 1 (.slice (some ⟨W.heap.size+1,0,none⟩) 1 1) 1 (bcells [y0]):=λO=>World.ownsRow.alloc o4'.out O
 have hcA:∀ j u,([.int .u8 (128+(s.length:Int))]:List Value)[j]?=some u→(w4.alloc (.cells ([.int .u8 (128+(s.length:Int))]:List Value).toArray 5)).cell? ((⟨w4.heap.size,0,none⟩:Addr).add j)=some u:=cells_add_new w4 _ _
 clear hw4 g4 s4 o4
 go_wp2_with (at_builtin;refine wpList_append_own _ rfl _ _ 100 rfl (W.heap.size+1) 5 i0 (.int .u8 0) 1 1 underlying100 hi hz0 hz1 hz2 rfl (by decide) _ _ _ rfl (hoA _) ⟨w4.heap.size,0,none⟩ 1 1 [.int .u8 (128+(s.length:Int))] rfl rfl hcA (by simp[Value.oneCell']) (by unfold maxLen;decide) (by decide) (by simp;have:=s4'.out;omega) ?_)
 intro v5 w5 hown5 hgrow5 _
 have hc5:Ch (λj=>j=W.heap.size+1) w4 w5:=(((Gr.alloc w4 _).to_ch _).trans (ch_grown hgrow5)).mono (λj e=>by simpa[Value.ownBlock,eq_comm] using e)
 have hE:¬(W.heap.size=W.heap.size+1):=by omega
 have cc:∀ {j u},w4.cell? ⟨W.heap.size,j,none⟩=some u→w5.cell? ⟨W.heap.size,j,none⟩=some u:=fun {j u} hh=>(hc5.cell (p:=⟨W.heap.size,j,none⟩) (cell_lt hh) hE).trans hh
 replace e3:=cc e3
 replace e4:=cc e4
 replace e5:=cc e5
 replace e6:=cc e6
 replace e7:=cc e7
 replace e8:=cc e8
 have g5':=hid (g4'.out.ch hc5 (λj e=>by rw[show j=W.heap.size+1 from e];exact Nat.le_succ _))
 have s5':=hid (Nat.le_trans s4'.out hc5.size)
 have hown6:OwnB (W.heap.size+1) w5 v5 [y0,y1]:=by
  have e:bcells [y0,y1]=bcells [y0]++[.int .u8 (128+(s.length:Int))]:=by
   simp only[bcells,List.map,List.cons_append,List.nil_append]
   rw[hq2]
  unfold OwnB
  rw[e]
  exact hown5
 have hown6':=hid hown6
 obtain⟨p5,cap5,rfl⟩:=hown6.slice
 clear hown6 hown5 hgrow5 hc5 cc hcA hoA
 have hoB:∀ O,(w5.alloc O).ownsRow (W.heap.size+1) 5 1 (.slice p5 2 cap5) 2 (bcells [y0,y1]):=λO=>World.ownsRow.alloc hown6'.out O
 have hcB:∀ j u,([.int .u8 1,.int .u8 2,.int .u8 3,.int .u8 4]:List Value)[j]?=some u→(w5.alloc (.cells ([.int .u8 1,.int .u8 2,.int .u8 3,.int .u8 4]:List Value).toArray 5)).cell? ((⟨w5.heap.size,0,none⟩:Addr).add j)=some u:=cells_add_new w5 _ _
 go_upto_region 23 with (fail)
 go_wp2_with (at_builtin;refine wpList_append_own _ rfl _ _ 100 rfl (W.heap.size+1) 5 i0 (.int .u8 0) 1 1 underlying100 hi hz0 hz1 hz2 rfl (by decide) _ _ _ rfl (hoB _) ⟨w5.heap.size,0,none⟩ 4 4 [.int .u8 1,.int .u8 2,.int .u8 3,.int .u8 4] rfl rfl hcB (by simp[Value.oneCell']) (by unfold maxLen;decide) (by decide) (by simp;have:=s5'.out;omega) ?_)
 intro v7 w7 hown7 hgrow7 _
 have hc7:Ch (λj=>(Value.slice p5 2 cap5).ownBlock=some j) w5 w7:=((Gr.alloc w5 _).to_ch _).trans (ch_grown hgrow7)
 have hb7:¬((Value.slice p5 2 cap5).ownBlock=some W.heap.size):=λe=>by have:=(World.ownsRow.lt hown6'.out _ e).1;omega
 have cc7:∀ {j u},w5.cell? ⟨W.heap.size,j,none⟩=some u→w7.cell? ⟨W.heap.size,j,none⟩=some u:=fun {j u} hh=>(hc7.cell (p:=⟨W.heap.size,j,none⟩) (cell_lt hh) hb7).trans hh
 replace e4:=cc7 e4
 replace e5:=cc7 e5
 replace e6:=cc7 e6
 replace e7:=cc7 e7
 replace e8:=cc7 e8
 have g7':=hid (g5'.out.ch hc7 (λj e=>by have:=(World.ownsRow.lt hown6'.out _ e).1;omega))
 have hown8:OwnB (W.heap.size+1) w7 v7 [y0,y1,1,2,3,4]:=hown7
 have hown8':=hid hown8
 obtain⟨p7,cap7,rfl⟩:=hown8.slice
 clear hown8 hown7 hgrow7 hc7 cc7 hcB hoB hb7
 haveI:Nonempty (Later (Gr w7)):=⟨⟨w7,Gr.refl w7⟩⟩
 have hcb:∀ y:Later (Gr w7),(convert 100 9 (.slice p7 6 cap7)).run prog y.w=.ok (.string ⟨([y0,y1,1,2,3,4]:List UInt8).toArray⟩) y.w:=λy=>conv_all (ownsRow_gr hown8'.out y.ok)
 have t4:∀ y:Later (Gr w7),y.w.cell? ⟨W.heap.size,4,none⟩=some (.int .u8 1):=λy=>y.ok.cell e4
 have t5:∀ y:Later (Gr w7),y.w.cell? ⟨W.heap.size,5,none⟩=some (.int .u8 2):=λy=>y.ok.cell e5
 have t6:∀ y:Later (Gr w7),y.w.cell? ⟨W.heap.size,6,none⟩=some (.int .u8 3):=λy=>y.ok.cell e6
 have t7:∀ y:Later (Gr w7),y.w.cell? ⟨W.heap.size,7,none⟩=some (.int .u8 4):=λy=>y.ok.cell e7
 have t8:∀ y:Later (Gr w7),y.w.cell? ⟨W.heap.size,8,none⟩=some (.string ⟨s.toArray⟩):=λy=>y.ok.cell e8
 have hmk:=hid (rmask1_later s w7 hsl)
 have hcat:(⟨([y0,y1,1,2,3,4]:List UInt8).toArray⟩:ByteArray)++(⟨(maskB 1 2 3 4 0 s).toArray⟩:ByteArray)=⟨([y0,y1,1,2,3,4]++maskB 1 2 3 4 0 s).toArray⟩:=cat_mk _ _
 have hml:=maskB_len 1 2 3 4 s 0
 obtain⟨ms,hms⟩:∃ ms,maskB 1 2 3 4 0 s=ms:=⟨_,rfl⟩
 rw[hms] at hml hcat hmk hv
 go_upto_region 24 with (fail)
 clear e3 e4 e5 e6 e7 e8
 refine wp_region_later (C:=Gr w7) (by kernel_rfl) (by kernel_rfl) (Gr.drew' _) ?_
 repeat (go_big_quiet_step (with_reducible exact hmk.out _))
 refine wpQuiet_nil ?_
 intro w9 hg9
 have hgz:=hid (g7'.out.trans hg9)
 clear t4 t5 t6 t7 t8 hcb hg9
 go_wp2
 refine bodyPost_ret (v:=.tuple #[.string ⟨([y0,y1,1,2,3,4]++ms).toArray⟩,.int .i64 0]) (by simp[results,results29,go_sem]) rfl ⟨by rw[hv.out],hgz.out⟩
structure SnL (w:World) (b:Nat) (T:Nat→Prop) (s:Ss) (W:World):Prop where
 at':SnAt b (.func (.func 11) #[] #[]) T W s
 gr:Gr w W
 base:∀ k,T k→w.heap.size≤k
section
variable {w:World} {b:Nat} {T:Nat→Prop} {s:Ss} {W:World} {n:Nat}
theorem SnL.pst {s':Ss} {W':World} (h:SnL w b T s W) (p:Pst (SnAt b (.func (.func 11) #[] #[])) T W s' W'):SnL w b (Add T W W') s' W' :=
 ⟨p.1,h.gr.ch p.2 h.base,λk e=>e.elim (h.base k) (λe=>Nat.le_trans (Below.size h.gr) e.1)⟩
def LnPost (w:World) (b:Nat) (T:Nat→Prop) (W:World) (s':Ss) (W':World):Prop :=
 ∃ T',SnL w b T' s' W'∧Ch T W W'∧∀ k,k<W.heap.size→¬T k→¬T' k
theorem SnL.ln {s':Ss} {W':World} (h:SnL w b T s W) (p:Pst (SnAt b (.func (.func 11) #[] #[])) T W s' W'):LnPost w b T W s' W' :=
 ⟨_,h.pst p,p.2,λk hk hn e=>e.elim hn (λe=>absurd hk (Nat.not_lt.2 e.1))⟩
theorem SnL.ch {S:Nat→Prop} {W':World} (h:SnL w b T s W) (hc:Ch S W W') (hS:∀ k,S k→¬T k∧w.heap.size≤k):SnL w b T s W' :=
 ⟨(snKin b _).frame h.at' hc (λk e e2=>(hS k e2).1 e),h.gr.ch hc (λk e=>(hS k e).2),h.base⟩
theorem SnL.grow {W':World} (h:SnL w b T s W) (g:Gr W W'):SnL w b T s W':=h.ch (g.to_ch (λ_=>False)) (λ_ e=>e.elim)
theorem SnL.hi (h:SnL w b T s W) (hG:G w):Hi T:=λk e=>Nat.lt_of_lt_of_le hG.lt (h.base k e)
theorem SnL.lt (h:SnL w b T s W):∀ k,T k→k<W.heap.size:=h.at'.2
theorem sok_some (hS:Sok s):s.st=2→s.c.isSome=true:=λe=>by
 obtain⟨c,hc,_⟩:=hS.b e
 rw[hc];rfl
theorem lsn_new (hG:G w) (hg:Gr w W) (q limit:Nat) (h1:1≤q) (h2:q≤64) (hlim:limit≤1099511627776) :
  Calls prog 10 #[.func (.func 11) #[] #[],.int .i64 q,.int .i64 limit] W λe w'=>∃ b,e=.returned (.tuple #[.pointer (some ⟨b,0,none⟩),.int .i64 0])∧SnL w b (New W w') (ss0 q limit) w'∧Gr W w':=by
 refine (sn_new W (hG.gr hg) q limit h1 h2 hlim).mono ?_
 rintro e w'⟨b,rfl,h,g⟩
 exact⟨b,rfl,⟨h,hg.trans g,λk e=>Nat.le_trans (Below.size hg) e.1⟩,g⟩
theorem lsn_feed (h:SnL w b T s W) (hB:SsB n s) (hS:Sok s) (x:List UInt8) (hn:n+x.length≤90000) :
  Calls prog 12 #[.pointer (some ⟨b,0,none⟩),.string ⟨x.toArray⟩] W λe w'=>e=.returned (.tuple #[])∧LnPost w b T W (ssFeed s x) w':=by
 refine (sn_feed h.at' x (sok_some hS) (by have:=hB.p.sum;omega) (λc hc=>by have:=(hB.w c hc).b.r.i;omega)).mono ?_
 rintro e w'⟨rfl,hp⟩
 exact⟨rfl,h.ln hp⟩
theorem lsn_next (h:SnL w b T s W) (hG:G w) (hB:SsB n s) (hS:Sok s) (hn:n≤90000) :
  Calls prog 13 #[.pointer (some ⟨b,0,none⟩)] W λe w'=>e=.returned (.tuple #[sevO (ssNext serveH s).2,.bool (ssNext serveH s).2.isSome])∧LnPost w b T W (ssNext serveH s).1 w':=by
 refine (sn_next (F:=λ_=>False) (n:=n) h.at' (hG.gr h.gr) (h.hi hG) (serve_hnd W) (λ_ e=>e.elim) hB.lim hS.a (λ_=>hB.p.le hn) (by omega) (λe=>?_)).mono ?_
 ·obtain⟨c,hc,_⟩:=hS.b e
  exact⟨c,hc,(hB.w c hc).b,λx hx=>((hB.w c hc).next.2 x hx).1⟩
 ·rintro e w'⟨rfl,hp⟩
  exact⟨rfl,h.ln hp⟩
theorem lsn_out (h:SnL w b T s W) (hB:SsB n s) (hS:Sok s) (hn:n≤90000) :
  Calls prog 14 #[.pointer (some ⟨b,0,none⟩)] W λe w'=>e=.returned (outV (ssOut s).2)∧LnPost w b T W (ssOut s).1 w':=by
 refine (sn_out h.at' hS.x (λit hi=>?_)).mono ?_
 ·exact ((hB.x.next).2 it hi).imp_right (λe=>Nat.le_trans e (by omega))
 ·rintro e w'⟨rfl,hp⟩
  exact⟨rfl,h.ln hp⟩
end
theorem lframe_any (op:Nat) (s:List UInt8) (W:World) (h:op≤15) (hn:s.length≤125) :
  Calls prog 32 #[.bool true,.int .i64 op,.string ⟨s.toArray⟩] W λe w'=>e=.returned (.string ⟨(maskF op s).toArray⟩)∧Gr W w':=by
 have hb:=hid (λW=>rfbytes_mask op s W h hn)
 obtain⟨m,hm⟩:∃ m,maskF op s=m:=⟨_,rfl⟩
 rw[hm] at hb
 have hm':=hid hm
 clear hm h hn
 go_enter func32,ntmps32
 go_wp2_with fail
 refine (hb.out _).mono ?_
 rintro e w1⟨rfl,g1⟩
 go_wp2
 go_ret
 exact⟨by rw[hm'.out];rfl,g1⟩
end Go.Proofs.YtadobobfjnmdlaaGreatDoor
namespace Go.Proofs.YtadobobfjnmdlaaGreatDoor
theorem flat_le {m:Nat}:∀ (ls:List (List UInt8)),(∀ l∈ls,l.length≤m)→(ls.flatMap (·++eolL)).length≤ls.length*(m+2)
 | [],_=>Nat.zero_le _
 | l :: t,h=>by
  have ih:=flat_le t (λx hx=>h x (List.mem_cons_of_mem _ hx))
  have h1:=h l (List.mem_cons_self ..)
  rw[List.flatMap_cons,List.length_append,List.length_append,List.length_cons,Nat.succ_mul]
  have:eolL.length=2:=rfl
  omega
theorem reason_le (c:Int):(reasonL c).length≤40:=by
 unfold reasonL
 repeat' split
 all_goals decide
theorem bytes_le {x:Rp} (h:RpSm x) {hd cl:Bool} {b:List UInt8} (e:bytesR x hd cl=some b):b.length≤3000000000000:=by
 obtain⟨h1,h2,h3,h4,h5⟩:=h
 have hi:=Lib.itoa_length_le x.code h4 h5
 have hj:=Lib.itoa_length_le (x.b.length:Int) (by omega) (by omega)
 have hr:=reason_le x.code
 have hl:∀ l∈linesR x cl,l.length≤2000002:=by
  intro l hl
  unfold linesR at hl
  rw[List.mem_append,List.mem_append,List.mem_append] at hl
  rcases hl with ((hl | hl) | hl) | hl
  ·rw[List.mem_singleton] at hl
   subst hl
   simp only[List.length_append,List.length_singleton]
   have:aheadL.length=9:=rfl
   omega
  ·obtain⟨f,hf,rfl⟩:=List.mem_map.1 hl
   have:=h2 f hf
   simp only[List.length_append,List.length_cons,List.length_nil]
   omega
  ·split at hl
   ·cases hl
   ·rw[List.mem_singleton] at hl
    subst hl
    simp only[List.length_append,List.length_cons,List.length_nil]
    have:kLen.length=14:=rfl
    omega
  ·split at hl
   ·rw[List.mem_singleton] at hl
    subst hl
    decide
   ·cases hl
 have hn:(linesR x cl).length≤1000003:=by
  unfold linesR
  simp only[List.length_append,List.length_map,List.length_singleton]
  have a1:(if bareB x.code then ([]:List (List UInt8)) else [kLen++[58,32]++Lib.itoa x.b.length]).length≤1:=by split <;> simp
  have a2:(if cl then [kHold++[58,32]++kEnds] else ([]:List (List UInt8))).length≤1:=by split <;> simp
  omega
 have hf:=flat_le _ hl
 have hm:(linesR x cl).length*(2000002+2)≤1000003*2000004:=Nat.mul_le_mul hn (Nat.le_refl _)
 unfold bytesR at e
 split at e
 ·cases e
 ·cases e
  unfold headR
  rw[List.length_append,List.length_append]
  have:eolL.length=2:=rfl
  have a3:(if hd then ([]:List UInt8) else x.b).length≤1000000:=by split <;> simp[h3]
  omega
theorem noRp_sm:RpSm noRp:=⟨Nat.zero_le _,(λf hf=>by cases hf),by decide,by decide,by decide⟩
theorem putB_le {x:Rp} (h:RpSm x) (hd cl:Bool):(putB x hd cl).length≤3000000000000:=by
 unfold putB
 split
 ·rename_i b e
  exact bytes_le h e
 ·cases e:bytesR noRp hd cl with
  | none=>exact Nat.zero_le _
  | some b=>exact bytes_le noRp_sm e
def RepsB (s:Ss):Prop:=∀ t∈s.x.reps,t.length≤3000000000000
theorem repsB_new (q limit:Nat):RepsB (ss0 q limit):=λt ht=>by cases ht
theorem RepsB.puts {s:Ss} (h:RepsB s) {x:Rp} (hx:RpSm x) (hd cl:Bool):RepsB (ssPuts s x hd cl):=by
 have h1:∀ t∈(bxReply s.x (putB x hd cl)).1.reps,t.length≤3000000000000:=by
  unfold bxReply
  split
  ·exact h
  ·split
   ·exact h
   ·intro t ht
    rcases List.mem_append.1 ht with ht | ht
    ·exact h t ht
    ·rw[List.mem_singleton] at ht
     subst ht
     exact putB_le hx hd cl
 unfold ssPuts
 split <;> exact h1
theorem RepsB.answers {s:Ss} (h:RepsB s) {r:Rq} (hr:RqSm r):RepsB (ssAnswers serveH s r).1:=by
 unfold ssAnswers
 split
 ·split
  ·exact h.puts (answer_sm r) _ _
  ·exact h.puts (answer_sm r) _ _
 ·exact h.puts (serve_sm hr) _ _
theorem RepsB.asks {n:Nat} {s:Ss} (h:RepsB s) (hB:SsB n s) (hn:n≤100000):RepsB (ssAsks serveH s).1:=by
 have hp:=hB.p.next
 unfold ssAsks
 split
 ·rename_i p r hq
  rw[hq] at hp
  exact RepsB.answers (s:={ s with p:=p }) h ((hp.2.1 r rfl).sm hn)
 ·rename_i p hq
  rw[hq] at hp
  have hb:p.bad≤431:=hp.2.2 rfl
  split
  ·exact h
  ·have hr:=reason_le (p.bad:Int)
   exact RepsB.puts (s:={ s with p:=p }) h (x:=⟨p.bad,[],reasonL p.bad⟩) ⟨Nat.zero_le _,(λf hf=>by cases hf),Nat.le_trans hr (by decide),(show -9223372036854775808≤(p.bad:Int) by omega),(show (p.bad:Int)≤9223372036854775807 by omega)⟩ _ _
theorem says_reps (s:Ss):(ssSays s).1.x.reps=s.x.reps:=by
 have hp:∀ (x:Bx) (t:List UInt8),(bxPong x t).1.reps=x.reps:=λx t=>by unfold bxPong;split <;> rfl
 have hc:∀ (x:Bx) (t:List UInt8),(bxClose x t).1.reps=x.reps:=λx t=>by unfold bxClose;split <;> rfl
 have hg:∀ (s:Ss) (a b:Nat),(ssGone s a b).x.reps=s.x.reps:=λs a b=>by
  unfold ssGone
  split
  ·exact hc _ _
  ·rfl
 unfold ssSays
 cases wnNext (ssWn s) with
 | mk c o =>
  cases o with
  | none=>rfl
  | some x =>
   cases x with
   | message op t=>rfl
   | ping t=>exact hp _ _
   | closing code=>exact hg _ _ _
   | failing code=>exact hg _ _ _
theorem RepsB.next {n:Nat} {s:Ss} (h:RepsB s) (hB:SsB n s) (hn:n≤100000):RepsB (ssNext serveH s).1:=by
 unfold ssNext
 split
 ·exact h
 ·dsimp only
  have h1:RepsB (ssAsks serveH s).1:=h.asks hB hn
  have h2:RepsB (ssSays s).1:=λt ht=>h t (by rw[←says_reps s];exact ht)
  by_cases q:s.st=1
  ·rw[if_pos q]
   split
   ·exact h1
   ·exact h1
  ·rw[if_neg q]
   split
   ·exact h2
   ·exact h2
theorem RepsB.feed {s:Ss} (h:RepsB s) (b:List UInt8):RepsB (ssFeed s b):=by
 unfold ssFeed
 split
 ·exact h
 ·split
  ·exact h
  ·exact h
theorem bxNext_reps (x:Bx):(∀ t∈(bxNext x).1.reps,t∈x.reps)∧∀ it,(bxNext x).2=some it→it.kind=1→it.text∈x.reps∨it∈x.msgs:=by
 obtain⟨q,reps,pong,msgs,close,closed,ends,told⟩:=x
 unfold bxNext
 dsimp only
 cases reps with
 | cons s l=>exact⟨λt ht=>List.mem_cons_of_mem _ ht,λit e k=>by cases e;exact .inl (List.mem_cons_self ..)⟩
 | nil =>
  cases pong with
  | some s=>exact⟨λt ht=>ht,λit e k=>by cases e;cases k⟩
  | none =>
   cases msgs with
   | cons x l=>exact⟨λt ht=>ht,λit e k=>by cases e;exact .inr (List.mem_cons_self ..)⟩
   | nil =>
    cases close with
    | some s=>exact⟨λt ht=>ht,λit e k=>by cases e;cases k⟩
    | none =>
     dsimp only
     split
     ·exact⟨λt ht=>ht,λit e k=>by cases e;cases k⟩
     ·exact⟨λt ht=>ht,λit e k=>by cases e⟩
theorem RepsB.out {s:Ss} (h:RepsB s):RepsB (ssOut s).1:=λt ht=>h t ((bxNext_reps s.x).1 t ht)
theorem numF_le (n:Nat):(numF n).length≤9:=by
 unfold numF
 repeat' split
 all_goals first | decide | simp
theorem outF_le (op:Int) (s:List UInt8):(outF op s).length≤s.length+10:=by
 unfold outF
 split
 ·exact Nat.zero_le _
 ·have:=numF_le s.length
  rw[List.length_cons,List.length_append];omega
theorem out_le {n:Nat} {s:Ss} (h:RepsB s) (hB:SsB n s) (hn:n≤100000):(toldS (ssOut s).2).length≤3000000000000:=by
 unfold ssOut
 dsimp only
 cases e:(bxNext s.x).2 with
 | none=>exact Nat.zero_le _
 | some it =>
  show (outB' it).1.length≤_
  have h1:=(bxNext_reps s.x).2 it e
  have h2:=hB.x.next.2 it e
  unfold outB'
  split
  ·rename_i hk
   rcases h1 hk with h1 | h1
   ·exact h _ h1
   ·have:=hB.x.m it h1
    show it.text.length≤_
    omega
  ·split
   ·exact Nat.zero_le _
   ·rename_i hk _
    have h2:=h2.resolve_left hk
    have:=outF_le (if it.kind=2 then 10 else if it.kind=3 then it.op else 8) it.text
    show (outF _ _).length≤_
    omega
section
variable {H:Rq→Rp} {limit:Nat}
theorem KDs.snoc {k k1 k2:Kern} {bs:List (List UInt8)} {b t t2:List UInt8} {l l2:List (Nat×List UInt8)} (h:KDs H limit k bs t l k1) (h2:KD H limit (kFeed k1 b) t2 l2 k2):KDs H limit k (bs++[b]) (t++t2) (l++l2) k2:=by
 induction h with
 | nil =>
  have:=KDs.cons h2 KDs.nil
  rw[List.append_nil,List.append_nil] at this
  exact this
 | cons h1 hs ih =>
  have:=KDs.cons h1 (ih h2)
  rw[←List.append_assoc,←List.append_assoc] at this
  exact this
structure Tlk (H:Rq→Rp) (limit:Nat) (done:List UInt8) (bs:List (List UInt8)) (s:Ss) (t:List UInt8) (l:List (Nat×List UInt8)) (k:Kern):Prop where
 ds:KDs H limit (.http []) bs t l k
 fl:bs.flatten=done
 rep:Rep limit s k
 ok:KOk k
 sz:kSize k≤done.length
theorem Tlk.start (q:Nat):Tlk H limit [] [] (ss0 q limit) [] [] (.http []):=⟨.nil,rfl,rep_new q limit,trivial,Nat.le_refl _⟩
theorem Tlk.more {done:List UInt8} {bs:List (List UInt8)} {s:Ss} {t:List UInt8} {l:List (Nat×List UInt8)} {k:Kern} (h:Tlk H limit done bs s t l k) (b:List UInt8) :
  ∃ t2 l2 k2 m s2,Runs H (ssFeed s b) t2 l2 m s2∧m≤done.length+b.length+2∧Tlk H limit (done++b) (bs++[b]) s2 (t++t2) (l++l2) k2:=by
 have hk:=h.ok.feed b
 obtain⟨t2,l2,k2,hd⟩:=KD.ex (H:=H) (limit:=limit) (kFeed k b)
 obtain⟨m,s2,hr,hrep,hm⟩:=runs_of hd hk _ (h.rep.feed h.ok b)
 have hs:=kSize_feed k b
 have hz:=hd.keeps hk
 refine⟨t2,l2,k2,m,s2,hr,by have:=h.sz;omega,⟨h.ds.snoc hd,?_,hrep,hz.1,?_⟩⟩
 ·rw[List.flatten_append,h.fl];simp
 ·have:=h.sz
  have:=hz.2
  rw[List.length_append];omega
end
theorem talk_same {limit:Nat} {b:List UInt8} {cs bs:List (List UInt8)} {s1 s2:Ss} {t1 t2:List UInt8} {l1 l2:List (Nat×List UInt8)} {k1 k2:Kern} (h1:Tlk serveH limit b cs s1 t1 l1 k1) (h2:Tlk serveH limit b bs s2 t2 l2 k2) (ha:cs≠[]) (hb:bs≠[]) :
  t1=t2∧l1=l2∧s1.st=s2.st:=by
 obtain⟨e1,e2,e3⟩:=KDs.same (k:=.http []) trivial ha hb (h1.fl.trans h2.fl.symm) h1.ds h2.ds
 refine⟨e1,e2,?_⟩
 rw[h1.rep.st,h2.rep.st,e3]
