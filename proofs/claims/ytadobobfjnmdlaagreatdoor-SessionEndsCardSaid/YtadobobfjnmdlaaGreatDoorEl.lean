/-
  The document's frames: masked data.
-/
import Derived.Lib.BufferRead
import Derived.LoopTactic
import Derived.Test.YtadobobfjnmdlaaGreatDoorEi
set_option linter.unnecessarySimpa false
set_option linter.unusedVariables false
set_option linter.unusedSimpArgs false
set_option maxHeartbeats 16000000
set_option maxRecDepth 100000
open Go.Lib (hid)
namespace Go.Proofs.YtadobobfjnmdlaaGreatDoor
open Go.RowKit
attribute [local go_sem] Oper.semAt_some
def keyB (k0 k1 k2 k3:UInt8) (i:Nat):UInt8:=if i=0 then k0 else if i=1 then k1 else if i=2 then k2 else k3
def maskB (k0 k1 k2 k3:UInt8):Nat→List UInt8→List UInt8
 | _,[]=>[]
 | a,c :: t=>(c^^^keyB k0 k1 k2 k3 a) :: maskB k0 k1 k2 k3 ((a+1) % 4) t
theorem maskB_len (k0 k1 k2 k3:UInt8):∀ (s:List UInt8) (a:Nat),(maskB k0 k1 k2 k3 a s).length=s.length
 | [],_=>rfl
 | _ :: t,a=>by
  unfold maskB
  rw[List.length_cons,List.length_cons,maskB_len k0 k1 k2 k3 t]
theorem maskB_get (k0 k1 k2 k3:UInt8):∀ (s:List UInt8) (a i:Nat) (h:i<s.length),a<4→(maskB k0 k1 k2 k3 a s)[i]?=some (s[i]^^^keyB k0 k1 k2 k3 ((a+i) % 4))
 | c :: t,a,0,h,ha=>by
  unfold maskB
  have:(a+0) % 4=a:=by rw[Nat.add_zero];exact Nat.mod_eq_of_lt ha
  rw[this];rfl
 | c :: t,a,i+1,h,ha=>by
  unfold maskB
  rw[List.getElem?_cons_succ,maskB_get k0 k1 k2 k3 t ((a+1) % 4) i (by simpa using h) (Nat.mod_lt _ (by decide))]
  have:((a+1) % 4+i) % 4=(a+(i+1)) % 4:=by omega
  rw[this];rfl
theorem maskB_zero (s:List UInt8):∀ a,maskB 0 0 0 0 a s=s:=by
 induction s with
 | nil=>intro _;rfl
 | cons c t ih =>
  intro a
  unfold maskB
  rw[ih]
  have:keyB 0 0 0 0 a=0:=by unfold keyB;simp
  rw[this,UInt8.xor_zero]
theorem OwnV.back {B:Nat} {W:World} {v:Value} {l:List UInt8} (h:OwnV 5 B W v (bcells l)):(convert 100 9 v).run Tryz.prog W=.ok (.string ⟨l.toArray⟩) W:=by
 have hl:(bcells l).length=l.length:=bcells_len l
 by_cases h0:l=[]
 ·subst h0
  rcases h with⟨rfl,_⟩ | ⟨g,cap,cur,fz,rfl,_⟩
  ·exact Lib.run_convert_nil_bytes W _ _ 5 0 Tryz.underlying100 Tryz.underlying5 Tryz.underlying9
  ·exact run_convert_bytes_back (P:=Tryz.prog) W 100 9 5 ⟨g,0,none⟩ cap [] Tryz.underlying100 Tryz.underlying5 Tryz.underlying9 (fun j hj=>absurd hj (Nat.not_lt_zero _))
 ·have hp:0<l.length:=List.length_pos_iff.2 h0
  obtain⟨g,cap,rfl,_,_,hc,_⟩:=h.row (by rw[hl];exact hp)
  rw[hl]
  refine run_convert_bytes_back (P:=Tryz.prog) W 100 9 5 ⟨g,0,none⟩ cap l Tryz.underlying100 Tryz.underlying5 Tryz.underlying9 (fun j hj=>?_)
  have:=hc j (.int .u8 ((l[j]'hj).toNat:Int)) (bcells_get l j hj)
  by_cases e:j=0
  ·subst e;simpa[Addr.add] using this
  ·simp only[Addr.add,e];simpa using this
theorem xor_u8 (c k:UInt8):bits .xor .u8 (c.toNat:Int) (k.toNat:Int)=((c^^^k).toNat:Int):=by
 rw[Go.u8_xor_nat c.toNat k.toNat c.toNat_lt k.toNat_lt,UInt8.toNat_xor]
theorem bcells_snoc (l:List UInt8) (c:UInt8):bcells (l++[c])=bcells l++[.int .u8 (c.toNat:Int)]:=by unfold bcells;rw[List.map_append];rfl
theorem rmask_any (k0 k1 k2 k3:UInt8) (s:List UInt8) (w:World) (hs:s.length≤100000) :
  Calls Tryz.prog 58 #[.agg #[.int .u8 k0.toNat,.int .u8 k1.toNat,.int .u8 k2.toNat,.int .u8 k3.toNat],.int .i64 0,.string ⟨s.toArray⟩] w fun e w'=>e=.returned (.string ⟨(maskB k0 k1 k2 k3 0 s).toArray⟩)∧Gr w w':=by
 obtain⟨W0,hW0⟩:∃ W0,w.alloc (.cells #[.int .u8 k0.toNat,.int .u8 k1.toNat,.int .u8 k2.toNat,.int .u8 k3.toNat] 54)=W0:=⟨_,rfl⟩
 have g0:=hid (show Gr w W0 from hW0▸Gr.alloc w _)
 have hkey:∀ j,j<4→W0.cell? ⟨w.heap.size,j,none⟩=some (.int .u8 (keyB k0 k1 k2 k3 j).toNat):=fun j hj=>by
  rw[←hW0]
  match j,hj with
  | 0,_=>exact cell_new7 _ _ _ 0 _ rfl
  | 1,_=>exact cell_new7 _ _ _ 1 _ rfl
  | 2,_=>exact cell_new7 _ _ _ 2 _ rfl
  | 3,_=>exact cell_new7 _ _ _ 3 _ rfl
 have hkey':=hid hkey
 have hz0:=hid (show W0.heap.size=w.heap.size+1 by rw[←hW0];simp)
 have hs':=hid hs
 have hml:=hid (maskB_len k0 k1 k2 k3 s 0)
 have hmg:=hid (fun i h=>maskB_get k0 k1 k2 k3 s 0 i h (by decide))
 obtain⟨m,hm⟩:∃ m,maskB k0 k1 k2 k3 0 s=m:=⟨_,rfl⟩
 rw[hm] at hml hmg
 clear hkey hs
 go_enter Tryz.func58,Tryz.ntmps58
 go_upto_region 6 with (fail)
 try rw[hW0]
 have hm':=hid hm
 clear hW0 hm
 go_loopw [1,7,8] (fun at' b i wr=>∃ k:Nat,k≤s.length∧at'=.int .i64 ((k % 4:Nat):Int)∧i=.int .i64 k∧OwnV 5 (w.heap.size+1) wr b (bcells (m.take k))∧Gr W0 wr) (fun _ _ i _=>s.length - (intOf i).toNat)
 case atStart=>exact⟨0,Nat.zero_le _,rfl,rfl,OwnV.nil _ _ _,Gr.refl _⟩
 case round =>
  obtain⟨k,hk,rfl,rfl,ho,hg⟩:=hrel
  have ho':=hid ho
  have hg':=hid hg
  obtain⟨pb,capb,rfl⟩:=ho.slice
  rw[bcells_len,List.length_take,Nat.min_eq_left (by have:=hml.out;omega)]
  rw[bcells_len,List.length_take,Nat.min_eq_left (by have:=hml.out;omega)] at ho'
  by_cases hlt:k<s.length
  ·have hI:(k:Int)<s.length:=by omega
   obtain⟨c,hc⟩:∃ c,(⟨s.toArray⟩:ByteArray)[k]'(by rw[size_mk];exact hlt)=c:=⟨_,rfl⟩
   obtain⟨a4,ha4⟩:∃ a,k % 4=a:=⟨_,rfl⟩
   have h4:a4<4:=by omega
   have h4I:(a4:Int)<4:=by omega
   obtain⟨kb,hkb⟩:∃ x,keyB k0 k1 k2 k3 a4=x:=⟨_,rfl⟩
   have q:=hg.cell (hkey'.out a4 h4)
   rw[hkb] at q
   have hmk:=hmg.out k hlt
   rw[Nat.zero_add,ha4,hkb] at hmk
   have hsk:s[k]=c:=by rw[←hc];rfl
   rw[hsk] at hmk
   obtain⟨z,hz⟩:∃ z,c^^^kb=z:=⟨_,rfl⟩
   rw[hz] at hmk
   have hxor:bits .xor .u8 (c.toNat:Int) (kb.toNat:Int)=(z.toNat:Int):=by rw[←hz];exact xor_u8 c kb
   have hsn:=hid (show bcells (m.take (k+1))=bcells (m.take k)++[.int .u8 (z.toNat:Int)] by
    rw[List.take_add_one,hmk]
    exact bcells_snoc _ _)
   have hwl:(bcells (m.take k)).length+1=k+1:=by rw[bcells_len,List.length_take,Nat.min_eq_left (by have:=hml.out;omega)]
   have hk6:k+1≤1000000:=by have:=hs'.out;omega
   have hsz:=hid (show w.heap.size+1≤wr.heap.size by have:=Below.size hg;have:=hz0.out;omega)
   have ha4':=hid ha4
   have hql:w.heap.size<wr.heap.size:=cell_lt q
   clear hmk hsk hz hkb ho hg
   rw[ha4]
   clear ha4
   go_upto_region 8 with (fail)
   go_region_held3 (fun w'=>w'.cell? ⟨w.heap.size,a4,none⟩=some (.int .u8 kb.toNat)) (go_keep) (first
    |(refine step_app1 (by rfl) (.tmp 20) (.tmp 28) 100 5 (.int .u8 0) (.int .u8 z.toNat) 1 Tryz.underlying100 infoU8 rfl (by rfl) (w.heap.size+1) (.slice pb k capb) (bcells (m.take k)) (by rfl) (OwnV.drew (OwnV.alloc ho'.out _)) wr.heap.size (by rfl) (cell_one _ _ _) rfl (k+1) hwl hk6 (by decide) (Nat.le_trans hsz.out (by simp)) ?_;intro p6 cap6 w6 hown6 hb5 _;have hb6:=Below.trans (Below.drew ((Below.refl _ wr).alloc hsz.out _)) hb5;have q6:=(Below.cell hb6 (p:=⟨w.heap.size,a4,none⟩) (Nat.lt_succ_self _)).trans q))
   all_goals
    have hown7:=hid (show OwnV 5 (w.heap.size+1) w6 (.slice p6 (k+1) cap6) (bcells (m.take (k+1))) from hsn.out▸hown6)
    have hg7:=hid (show Gr W0 w6 from Below.trans hg'.out (hz0.out.symm▸hb6))
    clear hown6 hb6 hb5 q q6 hc hxor
    by_cases h3:a4=3
    ·subst h3
     go_wp2
     go_roundw
     case rel=>exact⟨k+1,by omega,by have:=ha4'.out;rw[show (k+1) % 4=0 by omega];rfl,by go_num,hown7.out,hg7.out⟩
     case measure=>simp[intOf];omega
    ·have h3I:((a4:Int)+1==4)=false:=beq_false_of_ne (by omega)
     go_wp2
     go_roundw
     case rel=>exact⟨k+1,by omega,by have:=ha4'.out;rw[show (k+1) % 4=a4+1 by omega];go_num,by go_num,hown7.out,hg7.out⟩
     case measure=>simp[intOf];omega
  ·obtain rfl:k=s.length:=by omega
   have hcv:=ho'.out.back
   rw[List.take_of_length_le (by have:=hml.out;omega)] at hcv
   clear ho hg ho' hkey' hmg
   go_wp2
   go_ret
   exact⟨by rw[hm'.out];rfl,g0.out.trans hg'.out⟩
open Go.Shelf
theorem cells_add_new (W:World) (l:List Value) (t:TypeId):∀ j u,l[j]?=some u→(W.alloc (.cells l.toArray t)).cell? ((⟨W.heap.size,0,none⟩:Addr).add j)=some u:=fun j u h=>by
 have:=cell_new7 W l t j u h
 by_cases e:j=0
 ·subst e;simpa[Addr.add] using this
 ·simp only[Addr.add,e];simpa using this
theorem rmask_later (k0 k1 k2 k3:UInt8) (s:List UInt8) (W:World) (hs:s.length≤100000) (y:Later (Gr W)) :
  Calls Tryz.prog 58 #[.agg #[.int .u8 k0.toNat,.int .u8 k1.toNat,.int .u8 k2.toNat,.int .u8 k3.toNat],.int .i64 0,.string ⟨s.toArray⟩] y.w fun e w'=>e=.returned (.string ⟨(maskB k0 k1 k2 k3 0 s).toArray⟩)∧∃ z:Later (Gr W),w'=z.w :=
 Calls.later ((rmask_any k0 k1 k2 k3 s y.w hs).mono fun _ w' ⟨h1,h2⟩=>⟨h1,y.ok.trans h2⟩)
theorem rmask0_later (s:List UInt8) (W:World) (hs:s.length≤100000) (y:Later (Gr W)) :
  Calls Tryz.prog 58 #[.agg #[.int .u8 0,.int .u8 0,.int .u8 0,.int .u8 0],.int .i64 0,.string ⟨s.toArray⟩] y.w fun e w'=>e=.returned (.string ⟨s.toArray⟩)∧∃ z:Later (Gr W),w'=z.w:=by
 have h:=rmask_later 0 0 0 0 s W hs y
 rw[maskB_zero] at h
 exact h
theorem rmask1_later (s:List UInt8) (W:World) (hs:s.length≤100000) (y:Later (Gr W)) :
  Calls Tryz.prog 58 #[.agg #[.int .u8 1,.int .u8 2,.int .u8 3,.int .u8 4],.int .i64 0,.string ⟨s.toArray⟩] y.w fun e w'=>e=.returned (.string ⟨(maskB 1 2 3 4 0 s).toArray⟩)∧∃ z:Later (Gr W),w'=z.w :=
 rmask_later 1 2 3 4 s W hs y
def maskF (op:Nat) (s:List UInt8):List UInt8:=[UInt8.ofNat (128+op),UInt8.ofNat (128+s.length),1,2,3,4]++maskB 1 2 3 4 0 s
theorem rfbytes_short (op:Nat) (s:List UInt8) (W:World) (h:op≤15) (hn:s.length≤125):Calls Tryz.prog 29 #[.agg #[.bool true,.int .i64 0,.int .i64 op,.bool false,.int .u8 0,.int .u8 0,.int .u8 0,.int .u8 0,.string ⟨s.toArray⟩]] W fun e w'=>e=.returned (.tuple #[.string ⟨(outF op s).toArray⟩,.int .i64 0])∧Gr W w':=by
 have h0:¬(op:Int)<0:=by omega
 have h1:¬(15:Int)<(op:Int):=by omega
 obtain⟨y0,hy0⟩:∃ y,UInt8.ofNat (128+op)=y:=⟨_,rfl⟩
 have hq1:(y0.toNat:Int)=(op:Int)+128:=by rw[←hy0];simp[UInt8.toNat_ofNat'] <;> omega
 have hq0w0:IntKind.i64.wrap ((op:Int)+128)=(op:Int)+128:=IntWalk.i64_in _ (by omega)
 obtain⟨i0,hi,hz0,hz1,hz2⟩:=info_parts infoU8
 have hsl:s.length≤100000:=by omega
 have hv0:outF op s=[UInt8.ofNat (128+op),UInt8.ofNat s.length]++s:=by unfold outF;rw[if_neg (by omega)];unfold numF;rw[if_pos hn];rfl
 obtain⟨y1,hy1⟩:∃ y,UInt8.ofNat s.length=y:=⟨_,rfl⟩
 have hq2:(y1.toNat:Int)=(s.length:Int):=by rw[←hy1];simp[UInt8.toNat_ofNat'] <;> omega
 rw[hy0,hy1] at hv0
 have hv:=hid hv0
 clear hv0 hy0 hy1
 go_enter Tryz.func29,Tryz.ntmps29
 go_upto_region 13 with (fail)
 obtain⟨w4,hw4⟩:∃ w4,(W.alloc (.cells #[.bool true,.int .i64 0,.int .i64 op,.bool false,.int .u8 0,.int .u8 0,.int .u8 0,.int .u8 0,.string ⟨s.toArray⟩] 56)).alloc (.cells #[.int .u8 ((op:Int)+128)] 5)=w4:=⟨_,rfl⟩
 try rw[hw4]
 have g4:Gr W w4:=by rw[←hw4];exact (Gr.alloc _ _).alloc1 _
 have s4:W.heap.size+1≤w4.heap.size:=by rw[←hw4];simp
 have e3:w4.cell? ⟨W.heap.size,3,none⟩=some (.bool false):=by rw[←hw4];exact (Gr.alloc _ _).cell (cell_new7 _ _ _ 3 _ rfl)
 have e4:w4.cell? ⟨W.heap.size,4,none⟩=some (.int .u8 0):=by rw[←hw4];exact (Gr.alloc _ _).cell (cell_new7 _ _ _ 4 _ rfl)
 have e5:w4.cell? ⟨W.heap.size,5,none⟩=some (.int .u8 0):=by rw[←hw4];exact (Gr.alloc _ _).cell (cell_new7 _ _ _ 5 _ rfl)
 have e6:w4.cell? ⟨W.heap.size,6,none⟩=some (.int .u8 0):=by rw[←hw4];exact (Gr.alloc _ _).cell (cell_new7 _ _ _ 6 _ rfl)
 have e7:w4.cell? ⟨W.heap.size,7,none⟩=some (.int .u8 0):=by rw[←hw4];exact (Gr.alloc _ _).cell (cell_new7 _ _ _ 7 _ rfl)
 have e8:w4.cell? ⟨W.heap.size,8,none⟩=some (.string ⟨s.toArray⟩):=by rw[←hw4];exact (Gr.alloc _ _).cell (cell_new7 _ _ _ 8 _ rfl)
 have o4:w4.ownsRow (W.heap.size+1) 5 1 (.slice (some ⟨W.heap.size+1,0,none⟩) 1 1) 1 (bcells [y0]):=by
  have hl:=World.ownsRow_lit (base:=W.heap.size+1) (size:=1) (e:=5) (W.alloc (.cells #[.bool true,.int .i64 0,.int .i64 op,.bool false,.int .u8 0,.int .u8 0,.int .u8 0,.int .u8 0,.string ⟨s.toArray⟩] 56)) #[.int .u8 ((op:Int)+128)] 1 (by simp) (by decide) rfl
  rw[World.size_alloc,hw4] at hl
  have e:bcells [y0]=#[Value.int .u8 ((op:Int)+128)].toList:=by rw[bcells_cons,hq1];rfl
  rw[e]
  exact hl
 have o4':=hid o4
 have g4':=hid g4
 have s4':=hid s4
 have hoA:∀ O,(w4.alloc O).ownsRow (W.heap.size+1) 5 1 (.slice (some ⟨W.heap.size+1,0,none⟩) 1 1) 1 (bcells [y0]):=fun O=>World.ownsRow.alloc o4'.out O
 have hcA:∀ j u,([.int .u8 (s.length:Int)]:List Value)[j]?=some u→(w4.alloc (.cells ([.int .u8 (s.length:Int)]:List Value).toArray 5)).cell? ((⟨w4.heap.size,0,none⟩:Addr).add j)=some u:=cells_add_new w4 _ _
 clear hw4 g4 s4 o4
 go_wp2_with (at_builtin;refine wpList_append_own _ rfl _ _ 100 rfl (W.heap.size+1) 5 i0 (.int .u8 0) 1 1 Tryz.underlying100 hi hz0 hz1 hz2 rfl (by decide) _ _ _ rfl (hoA _) ⟨w4.heap.size,0,none⟩ 1 1 [.int .u8 (s.length:Int)] rfl rfl hcA (by simp[Value.oneCell']) (by unfold maxLen;decide) (by decide) (by simp;have:=s4'.out;omega) ?_)
 intro v5 w5 hown5 hgrow5 _
 have hc5:Ch (fun j=>j=W.heap.size+1) w4 w5:=(((Gr.alloc w4 _).to_ch _).trans (ch_grown hgrow5)).mono (fun j e=>by simpa[Value.ownBlock,eq_comm] using e)
 have hE:¬(W.heap.size=W.heap.size+1):=by omega
 have cc:∀ {j u},w4.cell? ⟨W.heap.size,j,none⟩=some u→w5.cell? ⟨W.heap.size,j,none⟩=some u:=fun {j u} hh=>(hc5.cell (p:=⟨W.heap.size,j,none⟩) (cell_lt hh) hE).trans hh
 replace e3:=cc e3
 replace e4:=cc e4
 replace e5:=cc e5
 replace e6:=cc e6
 replace e7:=cc e7
 replace e8:=cc e8
 have g5':=hid (g4'.out.ch hc5 (fun j e=>by rw[show j=W.heap.size+1 from e];exact Nat.le_succ _))
 have s5':=hid (Nat.le_trans s4'.out hc5.size)
 have hown6:OwnB (W.heap.size+1) w5 v5 [y0,y1]:=by
  have e:bcells [y0,y1]=bcells [y0]++[.int .u8 (s.length:Int)]:=by
   simp only[bcells,List.map,List.cons_append,List.nil_append]
   rw[hq2]
  unfold OwnB
  rw[e]
  exact hown5
 have hown6':=hid hown6
 obtain⟨p5,cap5,rfl⟩:=hown6.slice
 clear hown6 hown5 hgrow5 hc5 cc hcA hoA
 haveI:Nonempty (Later (Gr w5)):=⟨⟨w5,Gr.refl w5⟩⟩
 have hcb:∀ y:Later (Gr w5),(convert 100 9 (.slice p5 2 cap5)).run Tryz.prog y.w=.ok (.string ⟨([y0,y1]:List UInt8).toArray⟩) y.w:=fun y=>conv_all (ownsRow_gr hown6'.out y.ok)
 have t4:∀ y:Later (Gr w5),y.w.cell? ⟨W.heap.size,4,none⟩=some (.int .u8 0):=fun y=>y.ok.cell e4
 have t5:∀ y:Later (Gr w5),y.w.cell? ⟨W.heap.size,5,none⟩=some (.int .u8 0):=fun y=>y.ok.cell e5
 have t6:∀ y:Later (Gr w5),y.w.cell? ⟨W.heap.size,6,none⟩=some (.int .u8 0):=fun y=>y.ok.cell e6
 have t7:∀ y:Later (Gr w5),y.w.cell? ⟨W.heap.size,7,none⟩=some (.int .u8 0):=fun y=>y.ok.cell e7
 have t8:∀ y:Later (Gr w5),y.w.cell? ⟨W.heap.size,8,none⟩=some (.string ⟨s.toArray⟩):=fun y=>y.ok.cell e8
 have hmk:=hid (rmask0_later s w5 hsl)
 have hcat:(⟨([y0,y1]:List UInt8).toArray⟩:ByteArray)++(⟨(s).toArray⟩:ByteArray)=⟨([y0,y1]++s).toArray⟩:=cat_mk _ _
 go_upto_region 24 with (fail)
 clear e3 e4 e5 e6 e7 e8
 refine wp_region_later (C:=Gr w5) (by kernel_rfl) (by kernel_rfl) (Gr.drew' _) ?_
 repeat (go_big_quiet_step (with_reducible exact hmk.out _))
 refine wpQuiet_nil ?_
 intro w9 hg9
 have hgz:=hid (g5'.out.trans hg9)
 clear t4 t5 t6 t7 t8 hcb hg9
 go_wp2
 refine bodyPost_ret (v:=.tuple #[.string ⟨([y0,y1]++s).toArray⟩,.int .i64 0]) (by simp[results,Tryz.results29,go_sem]) rfl ⟨by rw[hv.out],hgz.out⟩
theorem rfbytes_mask (op:Nat) (s:List UInt8) (W:World) (h:op≤15) (hn:s.length≤125):Calls Tryz.prog 29 #[.agg #[.bool true,.int .i64 0,.int .i64 op,.bool true,.int .u8 1,.int .u8 2,.int .u8 3,.int .u8 4,.string ⟨s.toArray⟩]] W fun e w'=>e=.returned (.tuple #[.string ⟨(maskF op s).toArray⟩,.int .i64 0])∧Gr W w':=by
 have h0:¬(op:Int)<0:=by omega
 have h1:¬(15:Int)<(op:Int):=by omega
 obtain⟨y0,hy0⟩:∃ y,UInt8.ofNat (128+op)=y:=⟨_,rfl⟩
 have hq1:(y0.toNat:Int)=(op:Int)+128:=by rw[←hy0];simp[UInt8.toNat_ofNat'] <;> omega
 have hq0w0:IntKind.i64.wrap ((op:Int)+128)=(op:Int)+128:=IntWalk.i64_in _ (by omega)
 obtain⟨i0,hi,hz0,hz1,hz2⟩:=info_parts infoU8
 have hsl:s.length≤100000:=by omega
 have hv0:maskF op s=[UInt8.ofNat (128+op),UInt8.ofNat (128+s.length),1,2,3,4]++maskB 1 2 3 4 0 s:=rfl
 obtain⟨y1,hy1⟩:∃ y,UInt8.ofNat (128+s.length)=y:=⟨_,rfl⟩
 have hq2:(y1.toNat:Int)=128+(s.length:Int):=by rw[←hy1];simp[UInt8.toNat_ofNat'] <;> omega
 have hq2w:IntKind.i64.wrap (128+(s.length:Int))=128+(s.length:Int):=IntWalk.i64_in _ (by omega)
 rw[hy0,hy1] at hv0
 have hv:=hid hv0
 clear hv0 hy0 hy1
 go_enter Tryz.func29,Tryz.ntmps29
 go_upto_region 13 with (fail)
 obtain⟨w4,hw4⟩:∃ w4,(W.alloc (.cells #[.bool true,.int .i64 0,.int .i64 op,.bool true,.int .u8 1,.int .u8 2,.int .u8 3,.int .u8 4,.string ⟨s.toArray⟩] 56)).alloc (.cells #[.int .u8 ((op:Int)+128)] 5)=w4:=⟨_,rfl⟩
 try rw[hw4]
 have g4:Gr W w4:=by rw[←hw4];exact (Gr.alloc _ _).alloc1 _
 have s4:W.heap.size+1≤w4.heap.size:=by rw[←hw4];simp
 have e3:w4.cell? ⟨W.heap.size,3,none⟩=some (.bool true):=by rw[←hw4];exact (Gr.alloc _ _).cell (cell_new7 _ _ _ 3 _ rfl)
 have e4:w4.cell? ⟨W.heap.size,4,none⟩=some (.int .u8 1):=by rw[←hw4];exact (Gr.alloc _ _).cell (cell_new7 _ _ _ 4 _ rfl)
 have e5:w4.cell? ⟨W.heap.size,5,none⟩=some (.int .u8 2):=by rw[←hw4];exact (Gr.alloc _ _).cell (cell_new7 _ _ _ 5 _ rfl)
 have e6:w4.cell? ⟨W.heap.size,6,none⟩=some (.int .u8 3):=by rw[←hw4];exact (Gr.alloc _ _).cell (cell_new7 _ _ _ 6 _ rfl)
 have e7:w4.cell? ⟨W.heap.size,7,none⟩=some (.int .u8 4):=by rw[←hw4];exact (Gr.alloc _ _).cell (cell_new7 _ _ _ 7 _ rfl)
 have e8:w4.cell? ⟨W.heap.size,8,none⟩=some (.string ⟨s.toArray⟩):=by rw[←hw4];exact (Gr.alloc _ _).cell (cell_new7 _ _ _ 8 _ rfl)
 have o4:w4.ownsRow (W.heap.size+1) 5 1 (.slice (some ⟨W.heap.size+1,0,none⟩) 1 1) 1 (bcells [y0]):=by
  have hl:=World.ownsRow_lit (base:=W.heap.size+1) (size:=1) (e:=5) (W.alloc (.cells #[.bool true,.int .i64 0,.int .i64 op,.bool true,.int .u8 1,.int .u8 2,.int .u8 3,.int .u8 4,.string ⟨s.toArray⟩] 56)) #[.int .u8 ((op:Int)+128)] 1 (by simp) (by decide) rfl
  rw[World.size_alloc,hw4] at hl
  have e:bcells [y0]=#[Value.int .u8 ((op:Int)+128)].toList:=by rw[bcells_cons,hq1];rfl
  rw[e]
  exact hl
 have o4':=hid o4
 have g4':=hid g4
 have s4':=hid s4
 have hoA:∀ O,(w4.alloc O).ownsRow (W.heap.size+1) 5 1 (.slice (some ⟨W.heap.size+1,0,none⟩) 1 1) 1 (bcells [y0]):=fun O=>World.ownsRow.alloc o4'.out O
 have hcA:∀ j u,([.int .u8 (128+(s.length:Int))]:List Value)[j]?=some u→(w4.alloc (.cells ([.int .u8 (128+(s.length:Int))]:List Value).toArray 5)).cell? ((⟨w4.heap.size,0,none⟩:Addr).add j)=some u:=cells_add_new w4 _ _
 clear hw4 g4 s4 o4
 go_wp2_with (at_builtin;refine wpList_append_own _ rfl _ _ 100 rfl (W.heap.size+1) 5 i0 (.int .u8 0) 1 1 Tryz.underlying100 hi hz0 hz1 hz2 rfl (by decide) _ _ _ rfl (hoA _) ⟨w4.heap.size,0,none⟩ 1 1 [.int .u8 (128+(s.length:Int))] rfl rfl hcA (by simp[Value.oneCell']) (by unfold maxLen;decide) (by decide) (by simp;have:=s4'.out;omega) ?_)
 intro v5 w5 hown5 hgrow5 _
 have hc5:Ch (fun j=>j=W.heap.size+1) w4 w5:=(((Gr.alloc w4 _).to_ch _).trans (ch_grown hgrow5)).mono (fun j e=>by simpa[Value.ownBlock,eq_comm] using e)
 have hE:¬(W.heap.size=W.heap.size+1):=by omega
 have cc:∀ {j u},w4.cell? ⟨W.heap.size,j,none⟩=some u→w5.cell? ⟨W.heap.size,j,none⟩=some u:=fun {j u} hh=>(hc5.cell (p:=⟨W.heap.size,j,none⟩) (cell_lt hh) hE).trans hh
 replace e3:=cc e3
 replace e4:=cc e4
 replace e5:=cc e5
 replace e6:=cc e6
 replace e7:=cc e7
 replace e8:=cc e8
 have g5':=hid (g4'.out.ch hc5 (fun j e=>by rw[show j=W.heap.size+1 from e];exact Nat.le_succ _))
 have s5':=hid (Nat.le_trans s4'.out hc5.size)
 have hown6:OwnB (W.heap.size+1) w5 v5 [y0,y1]:=by
  have e:bcells [y0,y1]=bcells [y0]++[.int .u8 (128+(s.length:Int))]:=by
   simp only[bcells,List.map,List.cons_append,List.nil_append]
   rw[hq2]
  unfold OwnB
  rw[e]
  exact hown5
 have hown6':=hid hown6
 obtain⟨p5,cap5,rfl⟩:=hown6.slice
 clear hown6 hown5 hgrow5 hc5 cc hcA hoA
 have hoB:∀ O,(w5.alloc O).ownsRow (W.heap.size+1) 5 1 (.slice p5 2 cap5) 2 (bcells [y0,y1]):=fun O=>World.ownsRow.alloc hown6'.out O
 have hcB:∀ j u,([.int .u8 1,.int .u8 2,.int .u8 3,.int .u8 4]:List Value)[j]?=some u→(w5.alloc (.cells ([.int .u8 1,.int .u8 2,.int .u8 3,.int .u8 4]:List Value).toArray 5)).cell? ((⟨w5.heap.size,0,none⟩:Addr).add j)=some u:=cells_add_new w5 _ _
 go_upto_region 23 with (fail)
 go_wp2_with (at_builtin;refine wpList_append_own _ rfl _ _ 100 rfl (W.heap.size+1) 5 i0 (.int .u8 0) 1 1 Tryz.underlying100 hi hz0 hz1 hz2 rfl (by decide) _ _ _ rfl (hoB _) ⟨w5.heap.size,0,none⟩ 4 4 [.int .u8 1,.int .u8 2,.int .u8 3,.int .u8 4] rfl rfl hcB (by simp[Value.oneCell']) (by unfold maxLen;decide) (by decide) (by simp;have:=s5'.out;omega) ?_)
 intro v7 w7 hown7 hgrow7 _
 have hc7:Ch (fun j=>(Value.slice p5 2 cap5).ownBlock=some j) w5 w7:=((Gr.alloc w5 _).to_ch _).trans (ch_grown hgrow7)
 have hb7:¬((Value.slice p5 2 cap5).ownBlock=some W.heap.size):=fun e=>by have:=(World.ownsRow.lt hown6'.out _ e).1;omega
 have cc7:∀ {j u},w5.cell? ⟨W.heap.size,j,none⟩=some u→w7.cell? ⟨W.heap.size,j,none⟩=some u:=fun {j u} hh=>(hc7.cell (p:=⟨W.heap.size,j,none⟩) (cell_lt hh) hb7).trans hh
 replace e4:=cc7 e4
 replace e5:=cc7 e5
 replace e6:=cc7 e6
 replace e7:=cc7 e7
 replace e8:=cc7 e8
 have g7':=hid (g5'.out.ch hc7 (fun j e=>by have:=(World.ownsRow.lt hown6'.out _ e).1;omega))
 have hown8:OwnB (W.heap.size+1) w7 v7 [y0,y1,1,2,3,4]:=hown7
 have hown8':=hid hown8
 obtain⟨p7,cap7,rfl⟩:=hown8.slice
 clear hown8 hown7 hgrow7 hc7 cc7 hcB hoB hb7
 haveI:Nonempty (Later (Gr w7)):=⟨⟨w7,Gr.refl w7⟩⟩
 have hcb:∀ y:Later (Gr w7),(convert 100 9 (.slice p7 6 cap7)).run Tryz.prog y.w=.ok (.string ⟨([y0,y1,1,2,3,4]:List UInt8).toArray⟩) y.w:=fun y=>conv_all (ownsRow_gr hown8'.out y.ok)
 have t4:∀ y:Later (Gr w7),y.w.cell? ⟨W.heap.size,4,none⟩=some (.int .u8 1):=fun y=>y.ok.cell e4
 have t5:∀ y:Later (Gr w7),y.w.cell? ⟨W.heap.size,5,none⟩=some (.int .u8 2):=fun y=>y.ok.cell e5
 have t6:∀ y:Later (Gr w7),y.w.cell? ⟨W.heap.size,6,none⟩=some (.int .u8 3):=fun y=>y.ok.cell e6
 have t7:∀ y:Later (Gr w7),y.w.cell? ⟨W.heap.size,7,none⟩=some (.int .u8 4):=fun y=>y.ok.cell e7
 have t8:∀ y:Later (Gr w7),y.w.cell? ⟨W.heap.size,8,none⟩=some (.string ⟨s.toArray⟩):=fun y=>y.ok.cell e8
 have hmk:=hid (rmask1_later s w7 hsl)
 have hcat:(⟨([y0,y1,1,2,3,4]:List UInt8).toArray⟩:ByteArray)++(⟨(maskB 1 2 3 4 0 s).toArray⟩:ByteArray)=⟨([y0,y1,1,2,3,4]++maskB 1 2 3 4 0 s).toArray⟩:=cat_mk _ _
 have hml:=maskB_len 1 2 3 4 s 0
 obtain⟨ms,hms⟩:∃ ms,maskB 1 2 3 4 0 s=ms:=⟨_,rfl⟩
 rw[hms] at hml hcat hmk hv
 go_upto_region 24 with (fail)
 clear e3 e4 e5 e6 e7 e8
 refine wp_region_later (C:=Gr w7) (by kernel_rfl) (by kernel_rfl) (Gr.drew' _) ?_
 repeat (go_big_quiet_step (with_reducible exact hmk.out _))
 refine wpQuiet_nil ?_
 intro w9 hg9
 have hgz:=hid (g7'.out.trans hg9)
 clear t4 t5 t6 t7 t8 hcb hg9
 go_wp2
 refine bodyPost_ret (v:=.tuple #[.string ⟨([y0,y1,1,2,3,4]++ms).toArray⟩,.int .i64 0]) (by simp[results,Tryz.results29,go_sem]) rfl ⟨by rw[hv.out],hgz.out⟩
structure SnL (w:World) (b:Nat) (T:Nat→Prop) (s:Ss) (W:World):Prop where
 at':SnAt b (.func (.func 11) #[] #[]) T W s
 gr:Gr w W
 base:∀ k,T k→w.heap.size≤k
section
variable {w:World} {b:Nat} {T:Nat→Prop} {s:Ss} {W:World} {n:Nat}
theorem SnL.pst {s':Ss} {W':World} (h:SnL w b T s W) (p:Pst (SnAt b (.func (.func 11) #[] #[])) T W s' W'):SnL w b (Add T W W') s' W' :=
 ⟨p.1,h.gr.ch p.2 h.base,fun k e=>e.elim (h.base k) (fun e=>Nat.le_trans (Below.size h.gr) e.1)⟩
def LnPost (w:World) (b:Nat) (T:Nat→Prop) (W:World) (s':Ss) (W':World):Prop :=
 ∃ T',SnL w b T' s' W'∧Ch T W W'∧∀ k,k<W.heap.size→¬T k→¬T' k
theorem SnL.ln {s':Ss} {W':World} (h:SnL w b T s W) (p:Pst (SnAt b (.func (.func 11) #[] #[])) T W s' W'):LnPost w b T W s' W' :=
 ⟨_,h.pst p,p.2,fun k hk hn e=>e.elim hn (fun e=>absurd hk (Nat.not_lt.2 e.1))⟩
theorem SnL.ch {S:Nat→Prop} {W':World} (h:SnL w b T s W) (hc:Ch S W W') (hS:∀ k,S k→¬T k∧w.heap.size≤k):SnL w b T s W' :=
 ⟨(snKin b _).frame h.at' hc (fun k e e2=>(hS k e2).1 e),h.gr.ch hc (fun k e=>(hS k e).2),h.base⟩
theorem SnL.grow {W':World} (h:SnL w b T s W) (g:Gr W W'):SnL w b T s W':=h.ch (g.to_ch (fun _=>False)) (fun _ e=>e.elim)
theorem SnL.hi (h:SnL w b T s W) (hG:G w):Hi T:=fun k e=>Nat.lt_of_lt_of_le hG.lt (h.base k e)
theorem SnL.lt (h:SnL w b T s W):∀ k,T k→k<W.heap.size:=h.at'.2
theorem sok_some (hS:Sok s):s.st=2→s.c.isSome=true:=fun e=>by
 obtain⟨c,hc,_⟩:=hS.b e
 rw[hc];rfl
theorem lsn_new (hG:G w) (hg:Gr w W) (q limit:Nat) (h1:1≤q) (h2:q≤64) (hlim:limit≤1099511627776) :
  Calls Tryz.prog 10 #[.func (.func 11) #[] #[],.int .i64 q,.int .i64 limit] W fun e w'=>∃ b,e=.returned (.tuple #[.pointer (some ⟨b,0,none⟩),.int .i64 0])∧SnL w b (New W w') (ss0 q limit) w'∧Gr W w':=by
 refine (sn_new W (hG.gr hg) q limit h1 h2 hlim).mono ?_
 rintro e w' ⟨b,rfl,h,g⟩
 exact⟨b,rfl,⟨h,hg.trans g,fun k e=>Nat.le_trans (Below.size hg) e.1⟩,g⟩
theorem lsn_feed (h:SnL w b T s W) (hB:SsB n s) (hS:Sok s) (x:List UInt8) (hn:n+x.length≤90000) :
  Calls Tryz.prog 12 #[.pointer (some ⟨b,0,none⟩),.string ⟨x.toArray⟩] W fun e w'=>e=.returned (.tuple #[])∧LnPost w b T W (ssFeed s x) w':=by
 refine (sn_feed h.at' x (sok_some hS) (by have:=hB.p.sum;omega) (fun c hc=>by have:=(hB.w c hc).b.r.i;omega)).mono ?_
 rintro e w' ⟨rfl,hp⟩
 exact⟨rfl,h.ln hp⟩
theorem lsn_next (h:SnL w b T s W) (hG:G w) (hB:SsB n s) (hS:Sok s) (hn:n≤90000) :
  Calls Tryz.prog 13 #[.pointer (some ⟨b,0,none⟩)] W fun e w'=>e=.returned (.tuple #[sevO (ssNext serveH s).2,.bool (ssNext serveH s).2.isSome])∧LnPost w b T W (ssNext serveH s).1 w':=by
 refine (sn_next (F:=fun _=>False) (n:=n) h.at' (hG.gr h.gr) (h.hi hG) (serve_hnd W) (fun _ e=>e.elim) hB.lim hS.a (fun _=>hB.p.le hn) (by omega) (fun e=>?_)).mono ?_
 ·obtain⟨c,hc,_⟩:=hS.b e
  exact⟨c,hc,(hB.w c hc).b,fun x hx=>((hB.w c hc).next.2 x hx).1⟩
 ·rintro e w' ⟨rfl,hp⟩
  exact⟨rfl,h.ln hp⟩
theorem lsn_out (h:SnL w b T s W) (hB:SsB n s) (hS:Sok s) (hn:n≤90000) :
  Calls Tryz.prog 14 #[.pointer (some ⟨b,0,none⟩)] W fun e w'=>e=.returned (outV (ssOut s).2)∧LnPost w b T W (ssOut s).1 w':=by
 refine (sn_out h.at' hS.x (fun it hi=>?_)).mono ?_
 ·exact ((hB.x.next).2 it hi).imp_right (fun e=>Nat.le_trans e (by omega))
 ·rintro e w' ⟨rfl,hp⟩
  exact⟨rfl,h.ln hp⟩
theorem lsn_send (h:SnL w b T s W) (hS:Sok s) (op:Int) (t:List UInt8) :
  Calls Tryz.prog 15 #[.pointer (some ⟨b,0,none⟩),.int .i64 op,.string ⟨t.toArray⟩] W fun e w'=>e=.returned (.int .i64 (ssSend s op t).2)∧LnPost w b T W (ssSend s op t).1 w':=by
 refine (sn_send h.at' (sok_some hS) op t).mono ?_
 rintro e w' ⟨rfl,hp⟩
 exact⟨rfl,h.ln hp⟩
theorem lsn_finish (h:SnL w b T s W) (hS:Sok s) :
  Calls Tryz.prog 16 #[.pointer (some ⟨b,0,none⟩)] W fun e w'=>e=.returned (.tuple #[])∧LnPost w b T W (ssFinish s) w':=by
 refine (sn_finish h.at' (sok_some hS)).mono ?_
 rintro e w' ⟨rfl,hp⟩
 exact⟨rfl,h.ln hp⟩
theorem lsn_lapse (h:SnL w b T s W) (hS:Sok s) :
  Calls Tryz.prog 17 #[.pointer (some ⟨b,0,none⟩)] W fun e w'=>e=.returned (.tuple #[])∧LnPost w b T W (ssLapse s) w':=by
 refine (sn_lapse h.at' (sok_some hS)).mono ?_
 rintro e w' ⟨rfl,hp⟩
 exact⟨rfl,h.ln hp⟩
end
theorem lframe_any (op:Nat) (s:List UInt8) (W:World) (h:op≤15) (hn:s.length≤125) :
  Calls Tryz.prog 32 #[.bool true,.int .i64 op,.string ⟨s.toArray⟩] W fun e w'=>e=.returned (.string ⟨(maskF op s).toArray⟩)∧Gr W w':=by
 have hb:=hid (fun W=>rfbytes_mask op s W h hn)
 obtain⟨m,hm⟩:∃ m,maskF op s=m:=⟨_,rfl⟩
 rw[hm] at hb
 have hm':=hid hm
 clear hm h hn
 go_enter Tryz.func32,Tryz.ntmps32
 go_wp2_with (fail)
 refine (hb.out _).mono ?_
 rintro e w1 ⟨rfl,g1⟩
 go_wp2
 go_ret
 exact⟨by rw[hm'.out];rfl,g1⟩
end Go.Proofs.YtadobobfjnmdlaaGreatDoor
