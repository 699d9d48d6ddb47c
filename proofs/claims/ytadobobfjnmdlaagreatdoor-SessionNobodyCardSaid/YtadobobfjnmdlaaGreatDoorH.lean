/-
  The library's iterator over the pieces of a text.
-/
import Derived.Test.YtadobobfjnmdlaaGreatDoorGd
import Derived.Test.YtadobobfjnmdlaaGreatDoorP7
import Derived.RangeFuncBound
import Derived.RangeFuncCalls
import Derived.Shelf.Abstract
import Derived.Shelf.RegionOpen
import Derived.OwnWalkIn
import Derived.TacticsInMore
import Derived.LoopNIn
import Derived.LoopIn
import Derived.Test.YtadobobfjnmdlaaGreatDoorChecked
import Derived.Test.YtadobobfjnmdlaaGreatDoorLa
set_option maxHeartbeats 16000000
set_option maxRecDepth 100000
open Go.Lib (hid)
namespace Go.Proofs.YtadobobfjnmdlaaGreatDoor
open Go.RowKit Go.Shelf
attribute [local go_sem] Oper.semAt_some
def strAt (w:World) (a:Addr):Nat:=match w.cell? a with | some (.string s)=>s.size | _=>0
theorem split_iter (s:List UInt8) (W0:World) (b1 b2 b3:Nat) (h1:W0.cell? ⟨b1,0,none⟩=some (.string ⟨#[44]⟩)) (h2:W0.cell? ⟨b2,0,none⟩=some (.string ⟨s.toArray⟩)) (f2:W0.frozen? ⟨b2,0,none⟩=false)
  (h3:W0.cell? ⟨b3,0,none⟩=some (.int .i64 0)) (hs:s.length≤4611686018427387904) (h12:b1≠b2) (h32:b3≠b2) :
  IterC Tryz.prog 265 #[.pointer (some ⟨b1,0,none⟩),.pointer (some ⟨b2,0,none⟩),.pointer (some ⟨b3,0,none⟩)] (fun x:List UInt8=>#[.string ⟨x.toArray⟩]) (splitB 44 s)
   (fun k=>k=b1∨k=b2∨k=b3) 0 (fun _=>True) W0:=by
 intro W l J Jx U hsz hT hU hJ hJx _ hY h0
 have g1:W.cell? ⟨b1,0,none⟩=some (.string ⟨#[44]⟩):=(World.cell?_of_block (hT b1 (.inl rfl))).trans h1
 have g2:W.cell? ⟨b2,0,none⟩=some (.string ⟨s.toArray⟩):=(World.cell?_of_block (hT b2 (.inr (.inl rfl)))).trans h2
 have k2:W.frozen? ⟨b2,0,none⟩=false:=(World.frozen?_of_block (hT b2 (.inr (.inl rfl)))).trans f2
 have g3:W.cell? ⟨b3,0,none⟩=some (.int .i64 0):=(World.cell?_of_block (hT b3 (.inr (.inr rfl)))).trans h3
 clear h1 h2 f2 h3 hT
 have hJ':=hid hJ
 have hJx':=hid hJx
 have hY':=hid hY
 have hU':=hid hU
 have h0':=hid h0
 clear hJ hJx hY hU h0
 have hfn:∀ f,Fence.wide.fn f:=fun _=>trivial
 have hdp:Fence.wide.depth=none:=rfl
 refine callsIn_of_wp Tryz.func265 rfl trivial ?_ rfl
 simp only [Tryz.ntmps265,List.size_toArray,List.length_cons,List.length_nil,Nat.reduceAdd,Nat.reduceSub,Array.replicate_succ,Array.replicate_zero,List.push_toArray,List.append_toArray,List.nil_append,List.cons_append]
 gi_wp2
 gi_loopw [7,8] (fun _ _ wr=>∃ (pre:List (List UInt8)) (t:List UInt8),splitB 44 s=pre++splitB 44 t∧t.length≤s.length∧W.heap.size≤wr.heap.size∧J pre wr∧wr.cell? ⟨b1,0,none⟩=some (.string ⟨#[44]⟩)∧wr.cell? ⟨b2,0,none⟩=some (.string ⟨t.toArray⟩)∧wr.frozen? ⟨b2,0,none⟩=false∧wr.cell? ⟨b3,0,none⟩=some (.int .i64 0))
  (fun _ _ wr=>strAt wr ⟨b2,0,none⟩)
 case atStart=>exact ⟨[],s,rfl,Nat.le_refl _,Nat.le_refl _,h0'.out,g1,g2,k2,g3⟩
 case round =>
  clear g1 g2 k2 g3
  obtain ⟨pre,t,hpre,htl,hwz,hj,g1,g2,k2,g3⟩:=hrel
  have hwz':=hid hwz
  clear hwz
  have hpre':=hid hpre
  have hj':=hid hj
  have hm:strAt wr ⟨b2,0,none⟩=t.length:=by unfold strAt;rw [g2];exact size_mk t
  have hm':=hid hm
  clear hpre hj hm
  rcases indexByte_spec t 44 with ⟨hi,hno⟩ | ⟨k,hi,hk,hat,hbe⟩
  ·-- the last piece
   have hsp:=splitB_none 44 t hno
   obtain ⟨fn,tmps,assign,body,hy,hR⟩:=hY'.out pre t [] wr (by rw [hpre'.out,hsp]) hwz'.out hj'.out
   have hi':=hid hi
   have hsp':=hid hsp
   clear hi hsp hno
   gi_wp2_with (gi_at_call 105;refine (callsIn_wide.2 (Tryz.strings_Index_one ⟨t.toArray⟩ 44 _)).mono ?_;rintro e w' ⟨rfl,rfl⟩;rw [hi'.out])
   refine hR.mono ?_
   rintro e A (⟨rfl,hj2,hc2⟩ | ⟨rfl,hj2,hc2⟩)
   ·gi_wp2
    go_end0
    exact ⟨rfl,.inl (by rw [hpre'.out,hsp'.out];exact hj2)⟩
   ·gi_wp2
    go_end0
    exact ⟨rfl,.inr ⟨pre++[t],⟨[],by rw [hpre'.out,hsp'.out,List.append_nil]⟩,hj2⟩⟩
  ·-- one more piece
   have hsp:=splitB_at 44 t k hk hat hbe
   obtain ⟨x,hx⟩:∃ x,t.take k=x:=⟨_,rfl⟩
   obtain ⟨y,hyd⟩:∃ y,t.drop (k+1)=y:=⟨_,rfl⟩
   rw [hx,hyd] at hsp
   have hyl:y.length<t.length:=by rw [←hyd];simp;omega
   have hx1:(⟨t.toArray⟩:ByteArray).extract 0 k=⟨x.toArray⟩:=by rw [extract_mk,←hx];simp
   have hx2:(⟨t.toArray⟩:ByteArray).extract (k+1) t.length=⟨y.toArray⟩:=by rw [extract_mk,←hyd];simp
   obtain ⟨fn,tmps,assign,body,hy,hR⟩:=hY'.out pre x (splitB 44 y) wr (by rw [hpre'.out,hsp]) hwz'.out hj'.out
   have hi':=hid hi
   have hsp':=hid hsp
   clear hi hsp hbe hat hx hyd
   gi_wp2_with (gi_at_call 105;refine (callsIn_wide.2 (Tryz.strings_Index_one ⟨t.toArray⟩ 44 _)).mono ?_;rintro e w' ⟨rfl,rfl⟩;rw [hi'.out])
   refine hR.mono ?_
   rintro e A (⟨rfl,hj2,hc2⟩ | ⟨rfl,hj2,hc2⟩)
   ·have e1:A.cell? ⟨b1,0,none⟩=some (.string ⟨#[44]⟩):=(hc2.cell (cell_lt g1) (fun e=>(hU'.out _ e).2 (.inl rfl))).trans g1
    have e2:A.cell? ⟨b2,0,none⟩=some (.string ⟨t.toArray⟩):=(hc2.cell (cell_lt g2) (fun e=>(hU'.out _ e).2 (.inr (.inl rfl)))).trans g2
    have e3:A.cell? ⟨b3,0,none⟩=some (.int .i64 0):=(hc2.cell (cell_lt g3) (fun e=>(hU'.out _ e).2 (.inr (.inr rfl)))).trans g3
    have j2:A.frozen? ⟨b2,0,none⟩=false:=(hc2.frozen (cell_lt g2) (fun e=>(hU'.out _ e).2 (.inr (.inl rfl)))).trans k2
    clear g1 g2 g3 k2
    gi_wp2
    go_roundw
    case rel =>
     exact ⟨pre++[x],y,by rw [hpre'.out,hsp'.out,List.append_assoc];rfl,by omega,by simpa using Nat.le_trans hwz'.out hc2.size,hJ'.out _ _ _ hj2 (Ch.setCell _ (.inl (.inr (.inl rfl))) _),cell_set_other e1 (fun e=>h12 e.symm),cell_set_same e2,by rw [frozen_set];exact j2,cell_set_other e3 (fun e=>h32 e.symm)⟩
    case measure =>
     rw [hm'.out]
     unfold strAt
     rw [cell_set_same e2]
     simpa only [size_mk] using hyl
   ·gi_wp2
    refine bodyPost_ret (results_none rfl _ _ _) rfl ?_
    exact ⟨rfl,.inr ⟨pre++[x],⟨splitB 44 y,by rw [hpre'.out,hsp'.out,List.append_assoc];rfl⟩,hj2⟩⟩
theorem RoundIn.inRd {F:Fence} {n:Nat} {P:Program} {l:Nat} {f:FuncId} {tmps:Array Value} {assign body:Code} {w:World} {R:Ending→World→Prop} (l':Nat) (h:RoundIn F n P l f tmps assign body w R):RoundIn (F.inRound l') n P l f tmps assign body w R:=h
def splitW (w:World) (l:List UInt8):World:=((w.alloc (.cells #[.string ⟨l.toArray⟩] 9)).alloc (.cells #[.string ⟨#[44]⟩] 9)).alloc (.cells #[.int .i64 0] 3)
def splitV (w:World):Value:=.func (.func 265) #[] #[.pointer (some ⟨w.heap.size+1,0,none⟩),.pointer (some ⟨w.heap.size,0,none⟩),.pointer (some ⟨w.heap.size+2,0,none⟩)]
theorem splitseq1_any (l:List UInt8) (w:World) :
  Calls Tryz.prog 242 #[.string ⟨l.toArray⟩,.string ⟨#[44]⟩,.int .i64 0] w fun e w'=>e=.returned (splitV w)∧splitW w l=w':=by
 go_enter Tryz.func242,Tryz.ntmps242
 go_wp2
 go_ret
 exact ⟨rfl,rfl⟩
theorem splitseq_any (l:List UInt8) (w:World) :
  Calls Tryz.prog 208 #[.string ⟨l.toArray⟩,.string ⟨#[44]⟩] w fun e w'=>e=.returned (splitV w)∧splitW w l=w':=by
 go_enter Tryz.func208,Tryz.ntmps208
 go_wp2_with (go_at_call 242;refine (splitseq1_any l _).mono ?_;rintro e w' ⟨rfl,rfl⟩)
 go_ret
 exact ⟨rfl,rfl⟩
def eachV (b:Nat):Value:=.func (.func 207) #[] #[.pointer (some ⟨b,0,none⟩)]
theorem each_any (l:List UInt8) (w:World) :
  Calls Tryz.prog 166 #[.string ⟨l.toArray⟩] w fun e w'=>e=.returned (eachV w.heap.size)∧w.alloc (.cells #[.string ⟨l.toArray⟩] 9)=w':=by
 go_enter Tryz.func166,Tryz.ntmps166
 go_wp2
 go_ret
 exact ⟨rfl,rfl⟩
theorem split_iter_w (s:List UInt8) (w:World) (hs:s.length≤4611686018427387904) :
  IterC Tryz.prog 265 #[.pointer (some ⟨w.heap.size+1,0,none⟩),.pointer (some ⟨w.heap.size,0,none⟩),.pointer (some ⟨w.heap.size+2,0,none⟩)] (fun x:List UInt8=>#[.string ⟨x.toArray⟩]) (splitB 44 s)
   (fun k=>k=w.heap.size+1∨k=w.heap.size∨k=w.heap.size+2) 0 (fun _=>True) (splitW w s) :=
 split_iter s _ _ _ _ (by simp [splitW,go_sem]) (by simp [splitW,go_sem]) (by simp [splitW,go_sem]) (by simp [splitW,go_sem]) hs (by omega) (by omega)
theorem partsB_at {l:List UInt8} {pre rest:List (List UInt8)} {x:List UInt8} (h:splitB 44 l=pre++x :: rest) (hx:trimB x≠[]):partsB l=partsOf pre++trimB x :: partsOf rest:=by
 unfold partsB partsOf;rw [h];simp [hx]
theorem each_iter (s:List UInt8) (W0:World) (bv:Nat) (hv:W0.cell? ⟨bv,0,none⟩=some (.string ⟨s.toArray⟩)) (hs:s.length≤4611686018427387904) :
  IterC Tryz.prog 207 #[.pointer (some ⟨bv,0,none⟩)] (fun x:List UInt8=>#[.string ⟨x.toArray⟩]) (partsB s) (fun k=>k=bv) 6 (fun _=>True) W0:=by
 intro W l J Jx U hsz hT hU hJ hJx _ hY h0
 have gv:W.cell? ⟨bv,0,none⟩=some (.string ⟨s.toArray⟩):=(World.cell?_of_block (hT bv rfl)).trans hv
 have hbv:bv<W.heap.size:=cell_lt gv
 have gva:∀ o,(W.alloc o).cell? ⟨bv,0,none⟩=some (.string ⟨s.toArray⟩):=fun o=>(Gr.alloc W o).cell gv
 have hJ':=hid hJ
 have hJx':=hid hJx
 have hY':=hid hY
 have hU':=hid hU
 have h0':=hid h0
 clear hJ hJx hY hU h0 hv hT
 have hfn:∀ f,Fence.wide.fn f:=fun _=>trivial
 have hdp:Fence.wide.depth=none:=rfl
 refine callsIn_of_wp_marks Tryz.func207 rfl trivial ?_ rfl
 simp only [Tryz.ntmps207,List.size_toArray,List.length_cons,List.length_nil,Nat.reduceAdd,Nat.reduceSub,Array.replicate_succ,Array.replicate_zero,List.push_toArray,List.append_toArray,List.nil_append,List.cons_append]
 gi_wp2_with (gi_at_call 208;refine (callsIn_wide.2 (splitseq_any s _)).mono ?_;rintro e w' ⟨rfl,rfl⟩)
 obtain ⟨Wb,hWb⟩:∃ Wb,W.alloc (.cells #[.func (.yield l) #[] #[]] 166)=Wb:=⟨_,rfl⟩
 rw [hWb]
 have hsb:Wb.heap.size=W.heap.size+1:=by rw [←hWb];simp
 have hsw:(splitW Wb s).heap.size=W.heap.size+4:=by simp [splitW,hsb]
 have hby:(splitW Wb s).cell? ⟨W.heap.size,0,none⟩=some (.func (.yield l) #[] #[]):=by
  rw [←hWb];simp [splitW,go_sem]
 have hch:∀ T,Ch T W (splitW Wb s):=fun T=>by
  rw [←hWb];exact (((Ch.alloc _ _ _).trans (Ch.alloc _ _ _)).trans (Ch.alloc _ _ _)).trans (Ch.alloc _ _ _)
 have hsw':=hid hsw
 have hsb':=hid hsb
 clear hWb hsw hsb gva
 refine wpIn_range (gf:=265) rfl (enters_of Tryz.func265 (by kernel_rfl) rfl) (split_iter_w s Wb hs) (Nat.le_refl _) (fun k hk=>⟨by rw [hsw'.out];have:=hsb'.out;omega,rfl⟩) (fun _=>rfl)
  (fun pre A=>J (partsOf pre) A∧A.cell? ⟨W.heap.size,0,none⟩=some (.func (.yield l) #[] #[])) (fun c _ A=>c=.ret∧∃ q,q <+: partsB s∧Jx q A) U
  (fun k hk=>⟨by rw [hsw'.out];have:=(hU'.out k hk).1;omega,by have:=(hU'.out k hk).1;have:=hsb'.out;omega⟩) ?hI ?hIx (fun _ _ _=>trivial) ⟨hJ'.out _ _ _ h0'.out (hch _),hby⟩ ?round ?done ?stop
 case hI =>
  rintro pre A B ⟨hj,hc⟩ hch
  have hs1:=hsw'.out
  have hs2:=hsb'.out
  refine ⟨hJ'.out _ _ _ hj (hch.mono (fun k hk=>.inr (by omega))),(hch.cell (cell_lt hc) (fun hk=>?_)).trans hc⟩
  dsimp only at hk
  omega
 case hIx =>
  rintro c pre A B ⟨rfl,q,hq,hj⟩ hch
  have hs1:=hsw'.out
  have hs2:=hsb'.out
  exact ⟨rfl,q,hq,hJx'.out _ _ _ hj (hch.mono (fun k hk=>.inr (by omega)))⟩
 case round =>
  intro l' pre x rest A hl hlt hxs hI
  have hzA:=hid (show W.heap.size+6≤A.heap.size by have:=hsw'.out;omega)
  obtain ⟨hj,hcy⟩:=hI
  have hj':=hid hj
  have hxs':=hid hxs
  have hxl:x.length≤9223372036854775807:=by
   have:=splitB_len 44 s x (by rw [hxs];simp)
   omega
  clear hj hxs
  have hlW:W.heap.size≠l':=by have:=hsw'.out;omega
  have hlW':=hid hlW
  have hWA:W.heap.size<A.heap.size:=cell_lt hcy
  gi_wp2
  refine ⟨Ch.refl _ _,fun A2 hA2=>?_⟩
  have hcy2:A2.cell? ⟨W.heap.size,0,none⟩=some (.func (.yield l) #[] #[]):=(hA2.cell hWA hlW'.out).trans hcy
  have hA2':=hid hA2
  clear hcy hA2 hlW
  obtain ⟨y,hy⟩:∃ y,trimB x=y:=⟨_,rfl⟩
  have htr:=trim_any x
  rw [hy] at htr
  have htr':=hid htr
  have hy':=hid hy
  clear htr hy
  have hgr:∀ (T:Nat→Prop) B,Gr A2 B→Ch T A2 B:=fun T B hB=>Ch.of_below (B:=A2.heap.size) hB (fun k hk hk2=>absurd hk2 (Nat.not_lt.2 hk))
  have hll:W.heap.size≤l'∧l'<W.heap.size+6:=by have:=hsw'.out;omega
  have hJ2:∀ B,Gr A2 B→J (partsOf pre) B:=fun B hB=>hJ'.out _ _ _ hj'.out ((hA2'.out.mono (fun k hk=>.inr (by rw [hk];exact hll))).trans (hgr _ B hB))
  have hU2:∀ B,Gr A2 B→Ch U A2 B:=fun B hB=>hgr U B hB
  clear hgr hll
  have hJ2':=hid hJ2
  have hU2':=hid hU2
  clear hJ2 hU2
  by_cases hye:y=[]
  ·have e1:y.isEmpty=true:=by simp [hye]
   have hye':=hid hye
   clear hye
   gi_wp2_with (gi_at_call 162;refine (CallsIn.inRound l' (callsIn_wide.2 (htr'.out _ hxl))).mono ?_;rintro e A3 ⟨rfl,hb⟩)
   exact ⟨hU2'.out _ hb,by rw [partsOf_snoc_0 _ _ (hy'.out.trans hye'.out)];exact hJ2'.out _ hb,hb.cell hcy2⟩
  ·have e1:y.isEmpty=false:=by simp [hye]
   have hye':=hid hye
   clear hye
   gi_wp2_with (gi_at_call 162;refine (CallsIn.inRound l' (callsIn_wide.2 (htr'.out _ hxl))).mono ?_;rintro e A3 ⟨rfl,hb⟩;have hcy3:=hb.cell hcy2;obtain ⟨fn,tmps,asg,bdy,hyl,hR⟩:=hY'.out (partsOf pre) y (partsOf rest) A3 (by rw [partsB_at hxs'.out (by rw [hy'.out];exact hye'.out),hy'.out]) (Nat.le_trans (Nat.le_trans hzA.out hA2'.out.size) (Below.size hb)) (hJ2'.out _ hb))
   refine (RoundIn.inRd l' hR).mono ?_
   rintro e B (⟨rfl,hj2,hc2⟩ | ⟨rfl,hj2,hc2⟩)
   ·gi_wp2
    exact ⟨(hU2'.out _ hb).trans hc2,by rw [partsOf_snoc_s _ _ (by rw [hy'.out];exact hye'.out),hy'.out];exact hj2,(hc2.cell (cell_lt hcy3) (fun e=>by have:=(hU'.out _ e).1;dsimp only at this;omega)).trans hcy3⟩
   ·gi_wp2
    exact ⟨(hU2'.out _ hb).trans hc2,rfl,_,⟨partsOf rest,by rw [partsB_at hxs'.out (by rw [hy'.out];exact hye'.out),hy'.out];simp⟩,hj2⟩
 case done =>
  rintro D A hD ⟨hj,hc⟩ hK
  gi_wp2
  refine ⟨by simp,.inl ⟨_,_,rfl,run_takeDeferred hK,?_⟩⟩
  exact ⟨_,results_none rfl _ _ _,rfl,.inl (hJ'.out _ _ _ hj (Ch.putObj _ (.inr (by have:=hsw'.out;omega)) _))⟩
 case stop =>
  rintro D c pre A hD hpre ⟨rfl,q,hq,hj⟩ hK
  gi_wp2
  refine ⟨by simp,.inl ⟨_,_,rfl,run_takeDeferred hK,?_⟩⟩
  exact ⟨_,results_none rfl _ _ _,rfl,.inr ⟨q,hq,hJx'.out _ _ _ hj (Ch.putObj _ (.inr (by have:=hsw'.out;omega)) _)⟩⟩
theorem has_any (l word:List UInt8) (w:World) (hG:G w) (hl:l.length≤4611686018427387904) (hw:word.length≤9223372036854775807) :
  Calls Tryz.prog 134 #[.string ⟨l.toArray⟩,.string ⟨word.toArray⟩] w fun e w'=>e=.returned (.bool (hasB l word))∧Gr w w':=by
 refine (callsIn_wide (n:=0)).1 ?_
 have hfn:∀ f,Fence.wide.fn f:=fun _=>trivial
 have hdp:Fence.wide.depth=none:=rfl
 have hG':=hid hG
 clear hG
 refine callsIn_of_wp_marks Tryz.func134 rfl trivial ?_ rfl
 simp only [Tryz.ntmps134,List.size_toArray,List.length_cons,List.length_nil,Nat.reduceAdd,Nat.reduceSub,Array.replicate_succ,Array.replicate_zero,List.push_toArray,List.append_toArray,List.nil_append,List.cons_append]
 gi_wp2_with (gi_at_call 166;refine (callsIn_wide.2 (each_any l _)).mono ?_;rintro e w' ⟨rfl,rfl⟩)
 obtain ⟨w3,hw3⟩:∃ w3,((w.alloc (.cells #[.string ⟨word.toArray⟩] 9)).alloc (.cells #[.bool false] 4)).alloc (.cells #[.string ⟨l.toArray⟩] 9)=w3:=⟨_,rfl⟩
 rw [hw3]
 have hs3:=hid (show w3.heap.size=w.heap.size+3 by rw [←hw3];simp)
 have c0:w3.cell? ⟨w.heap.size,0,none⟩=some (.string ⟨word.toArray⟩):=by rw [←hw3];simp [go_sem]
 have c1:w3.cell? ⟨w.heap.size+1,0,none⟩=some (.bool false):=by rw [←hw3];simp [go_sem]
 have k1:w3.frozen? ⟨w.heap.size+1,0,none⟩=false:=by rw [←hw3];simp [go_sem]
 have c2:w3.cell? ⟨w.heap.size+1+1,0,none⟩=some (.string ⟨l.toArray⟩):=by rw [←hw3];simp [go_sem]
 have hg3:Gr w w3:=by rw [←hw3];exact ((Gr.alloc w _).alloc1 _).alloc1 _
 clear hw3
 refine wpIn_range (gf:=207) rfl (enters_of Tryz.func207 (by kernel_rfl) rfl) (each_iter l w3 _ c2 hl) (Nat.le_refl _) (fun k hk=>⟨by rw [hs3.out];(try dsimp only at hk);omega,rfl⟩) (fun _=>rfl)
  (fun pre A=>Gr w A∧w3.heap.size≤A.heap.size∧A.cell? ⟨w.heap.size,0,none⟩=some (.string ⟨word.toArray⟩)∧A.cell? ⟨w.heap.size+1,0,none⟩=some (.bool false)∧A.frozen? ⟨w.heap.size+1,0,none⟩=false∧pre.any (fun p=>alikeB p word)=false)
  (fun c pre A=>c=.ret∧Gr w A∧A.cell? ⟨w.heap.size+1,0,none⟩=some (.bool true)∧pre.any (fun p=>alikeB p word)=true) (fun k=>k=w.heap.size+1)
  (fun k hk=>⟨by rw [hs3.out];(try dsimp only at hk);omega,by (try dsimp only at hk ⊢);omega⟩) ?hI ?hIx (fun _ _ _=>trivial) ⟨hg3,Nat.le_refl _,c0,c1,k1,rfl⟩ ?round ?done ?stop
 case hI =>
  rintro pre A B ⟨h1,h2,h3,h4,h5,h6⟩ hch
  replace hch:=hch.mono (T':=fun k=>k=w.heap.size+1+1∨w3.heap.size≤k) (fun k hk=>hk.imp id And.left)
  have e:=hs3.out
  have hn:∀ k,k<w.heap.size+2→¬(k=w.heap.size+1+1∨w3.heap.size≤k):=fun k hk h=>by omega
  exact ⟨h1.ch hch (fun k hk=>by omega),Nat.le_trans h2 hch.size,(hch.cell (cell_lt h3) (hn _ (by (try dsimp only);omega))).trans h3,(hch.cell (cell_lt h4) (hn _ (by (try dsimp only);omega))).trans h4,(hch.frozen (cell_lt h4) (hn _ (by (try dsimp only);omega))).trans h5,h6⟩
 case hIx =>
  rintro c pre A B ⟨rfl,h1,h4,h6⟩ hch
  replace hch:=hch.mono (T':=fun k=>k=w.heap.size+1+1∨w3.heap.size≤k) (fun k hk=>hk.imp id And.left)
  have e:=hs3.out
  have hn:∀ k,k<w.heap.size+2→¬(k=w.heap.size+1+1∨w3.heap.size≤k):=fun k hk h=>by omega
  exact ⟨rfl,h1.ch hch (fun k hk=>by omega),(hch.cell (cell_lt h4) (hn _ (by (try dsimp only);omega))).trans h4,h6⟩
 case round =>
  intro l' pre x rest A hl' hlt hxs hI
  obtain ⟨h1,h2,h3,h4,h5,h6⟩:=hI
  have hxl:x.length≤9223372036854775807:=by
   have:=partsB_len l x (by rw [hxs];simp)
   omega
  have h6':=hid h6
  have e:=hs3.out
  have hne0:w.heap.size≠l':=by omega
  have hne1:w.heap.size+1≠l':=by omega
  have hne0':=hid hne0
  have hne1':=hid hne1
  have hll:w.heap.size≤l':=by omega
  have hz0:w.heap.size<A.heap.size:=by omega
  have hz1:w.heap.size+1<A.heap.size:=by omega
  clear h6 e hne0 hne1 hxs
  gi_wp2
  refine ⟨Ch.refl _ _,fun A2 hA2=>?_⟩
  have d0:A2.cell? ⟨w.heap.size,0,none⟩=some (.string ⟨word.toArray⟩):=(hA2.cell hz0 hne0'.out).trans h3
  have d1:A2.cell? ⟨w.heap.size+1,0,none⟩=some (.bool false):=(hA2.cell hz1 hne1'.out).trans h4
  have dk:A2.frozen? ⟨w.heap.size+1,0,none⟩=false:=(hA2.frozen hz1 hne1'.out).trans h5
  have hg2:Gr w A2:=h1.ch hA2 (fun k hk=>by (try dsimp only at hk);omega)
  have hsz2:w3.heap.size≤A2.heap.size:=Nat.le_trans h2 hA2.size
  clear h3 h4 h5 h1 hA2
  cases ha:alikeB x word
  all_goals have ha':=hid ha
  all_goals clear ha
  all_goals gi_wp2_with (gi_at_call 133;refine (CallsIn.inRound l' (callsIn_wide.2 (alike_any x word _ (hG'.out.gr hg2) hxl hw))).mono ?_;rintro e A3 ⟨rfl,hb⟩;rw [ha'.out];have d0':=hb.cell d0;have d1':=hb.cell d1;have dk':=(Below.frozen hb (cell_lt d1)).trans dk)
  ·exact ⟨hb.to_ch _,hg2.trans hb,Nat.le_trans hsz2 (Below.size hb),d0',d1',dk',by rw [List.any_append,h6'.out];simp [ha'.out]⟩
  ·exact ⟨(hb.to_ch _).trans (Ch.setCell (T:=fun k=>k=w.heap.size+1) _ rfl _),rfl,(hg2.trans hb).setCell (by (try dsimp only);omega) _,cell_set_same d1',by rw [List.any_append];simp [ha'.out]⟩
 case done =>
  rintro D A hD ⟨h1,h2,h3,h4,h5,h6⟩ hK
  have hres:=hid (show hasB l word=false from h6)
  have hDn:D≠w.heap.size+1:=by have:=hs3.out;omega
  have hDn':=hid hDn
  clear h6 hDn
  gi_wp2
  have hK2:(A.setCell ⟨w.heap.size+1,0,none⟩ (.bool false)).heap[D]?=some (.deferred (some [])):=(Below.heap_setCell _ _ _ _ hDn'.out).trans hK
  have hc2:((A.setCell ⟨w.heap.size+1,0,none⟩ (.bool false)).putObj D (.deferred none)).cell? ⟨w.heap.size+1,0,none⟩=some (.bool false) :=
   (World.cell?_of_block (World.putObj_heap_other (Ne.symm hDn'.out))).trans (cell_set_same h4)
  refine ⟨by simp,.inl ⟨_,_,rfl,run_takeDeferred hK2,?_⟩⟩
  refine ⟨.bool false,by simp [results,Tryz.results134,go_sem,hc2],by rw [hres.out],?_⟩
  exact (h1.setCell (by (try dsimp only);omega) _).ch (Ch.putObj (T:=fun k=>k=D) _ rfl _) (fun k hk=>by have:=hs3.out;omega)
 case stop =>
  rintro D c pre A hD hpre ⟨rfl,h1,h4,h6⟩ hK
  have hres:=hid (show hasB l word=true from by
   obtain ⟨r,hr⟩:=hpre
   unfold hasB;rw [←hr,List.any_append,h6];rfl)
  have hDn:D≠w.heap.size+1:=by have:=hs3.out;omega
  have hDn':=hid hDn
  clear h6 hDn
  gi_wp2
  have hc2:(A.putObj D (.deferred none)).cell? ⟨w.heap.size+1,0,none⟩=some (.bool true):=(World.cell?_of_block (World.putObj_heap_other (Ne.symm hDn'.out))).trans h4
  refine ⟨by simp,.inl ⟨_,_,rfl,run_takeDeferred hK,?_⟩⟩
  refine ⟨.bool true,by simp [results,Tryz.results134,go_sem,hc2],by rw [hres.out],?_⟩
  exact h1.ch (Ch.putObj (T:=fun k=>k=D) _ rfl _) (fun k hk=>by have:=hs3.out;omega)
end Go.Proofs.YtadobobfjnmdlaaGreatDoor
namespace Go.Proofs.YtadobobfjnmdlaaGreatDoor
open Go.RowKit
theorem get_is (v:Value) (fs:List Fl) (name r:List UInt8) (n:Nat) (h:getB fs name=(r,n)) (w:World) (hG:G w) (hf:FieldsAt w v fs) (hn:fs.length≤9223372036854775807)
  (hl:∀ f∈fs,f.1.length≤9223372036854775807) (hln:name.length≤9223372036854775807) :
  Calls Tryz.prog 131 #[v,.string ⟨name.toArray⟩] w fun e w'=>e=.returned (.tuple #[.string ⟨r.toArray⟩,.int .i64 n])∧Gr w w':=by
 have:=get_any v fs name w hG hf hn hl hln
 rwa [h] at this
theorem alike_is (a b:List UInt8) (r:Bool) (h:alikeB a b=r) (w:World) (hG:G w) (hla:a.length≤9223372036854775807) (hlb:b.length≤9223372036854775807) :
  Calls Tryz.prog 133 #[.string ⟨a.toArray⟩,.string ⟨b.toArray⟩] w fun e w'=>e=.returned (.bool r)∧Gr w w':=h▸alike_any a b w hG hla hlb
theorem has_is (l word:List UInt8) (r:Bool) (h:hasB l word=r) (w:World) (hG:G w) (hl:l.length≤4611686018427387904) (hw:word.length≤9223372036854775807) :
  Calls Tryz.prog 134 #[.string ⟨l.toArray⟩,.string ⟨word.toArray⟩] w fun e w'=>e=.returned (.bool r)∧Gr w w':=h▸has_any l word w hG hl hw
end Go.Proofs.YtadobobfjnmdlaaGreatDoor
namespace Go.Proofs.YtadobobfjnmdlaaGreatDoor
def Rp.V (x:Rp) (t:Value):Value:=.agg #[.int .i64 x.code,t,.string ⟨x.b.toArray⟩]
def Rq.V (r:Rq) (s:Value):Value:=.agg #[.string ⟨r.m.toArray⟩,.string ⟨r.p.toArray⟩,.string ⟨r.q.toArray⟩,.int .i64 r.v,s,.string ⟨r.b.toArray⟩,.bool r.c]
end Go.Proofs.YtadobobfjnmdlaaGreatDoor
namespace Go.Proofs.YtadobobfjnmdlaaGreatDoor
open Go.RowKit
attribute [local go_sem] Oper.semAt_some
def digsQ:List UInt8:=[48,49,50,51,52,53,54,55,56,57]
theorem digs_eqq (c:UInt8):digsQ.contains c=digB c:=by
 refine u8_all (p:=fun c=>digsQ.contains c=digB c) ?_ c
 decide +kernel
theorem dw_nilq {α:Type} (p:α→Bool):∀ l:List α,(l.dropWhile p).isEmpty=l.all p
 | []=>rfl
 | a :: t=>by
  cases h:p a
  ·simp [List.dropWhile,h]
  ·simp [List.dropWhile,h,dw_nilq p t]
theorem all_revq {α:Type} (p:α→Bool) (l:List α):l.reverse.all p=l.all p:=by simp
theorem mem_twq {α:Type} {p:α→Bool}:∀ {l:List α} {x:α},x∈l.takeWhile p→p x=true
 | a :: t,x,h=>by
  rw [List.takeWhile_cons] at h
  split at h
  ·rename_i ha
   rcases List.mem_cons.1 h with rfl | h
   ·exact ha
   ·exact mem_twq h
  ·cases h
theorem trims_allq (l cs:List UInt8):(Lib.trimS l cs).isEmpty=l.all (cs.contains ·):=by
 have e:∀ x,(Lib.trimLeftS x cs).isEmpty=x.all (cs.contains ·):=fun x=>dw_nilq _ x
 unfold Lib.trimS
 rw [e]
 have h2:Lib.trimRightS l cs=(l.reverse.dropWhile (cs.contains ·)).reverse:=rfl
 rw [h2,all_revq,Bool.eq_iff_iff,List.all_eq_true,List.all_eq_true]
 constructor
 ·intro h x hx
  have hr:x∈l.reverse:=by simpa using hx
  rw [←List.takeWhile_append_dropWhile (p:=(cs.contains ·)) (l:=l.reverse),List.mem_append] at hr
  rcases hr with hr | hr
  ·exact mem_twq hr
  ·exact h x hr
 ·intro h x hx
  exact h x (by simpa using (List.dropWhile_sublist _).subset hx)
theorem trimq_any (l:List UInt8) (w:World) (hl:l.length≤9223372036854775807) :
  Calls Tryz.prog 162 #[.string ⟨l.toArray⟩,.string ⟨#[48,49,50,51,52,53,54,55,56,57]⟩] w fun e w'=>e=.returned (.string ⟨(Lib.trimS l digsQ).toArray⟩)∧Gr w w' :=
 Any.strings_Trim_laid Tryz.lays160 (by kernel_rfl) ⟨l.toArray⟩ ⟨#[48,49,50,51,52,53,54,55,56,57]⟩ w (by rw [size_mk];exact hl) (by decide) (ascii_of_all (by decide))
def AtoiPost (s:List UInt8) (w:World) (e:Ending) (w':World):Prop:=∃ (v:Int) (ev:Value),e=.returned (.tuple #[.int .i64 v,ev])∧((ev=.nilIface∧numQ s=v)∨((∃ N:Nat,ev=.iface 270 (.pointer (some ⟨N,0,none⟩)))∧numQ s=4097))∧Gr w w'
theorem atoiq_any (l:List UInt8) (hl:l.length≤1000000) (w:World) (hG:G w):Calls Tryz.prog 163 #[.string ⟨l.toArray⟩] w (AtoiPost l w):=by
 obtain ⟨te,pe,hs⟩:=hG.syn
 obtain ⟨te2,pe2,hs2⟩:=hG.rng
 cases h:Lib.atoiAll l with
 | ok v=>exact (Tryz.strconv_Atoi_ok ⟨l.toArray⟩ (by rw [size_mk];omega) v h w).mono fun _ _ ⟨he,hw⟩=>⟨v,.nilIface,he,.inl ⟨rfl,by unfold numQ;rw [h]⟩,by
   rcases hw with rfl | ⟨t,rfl⟩
   ·exact Gr.refl _
   ·exact Lib.bytesWorld_below _ _ _⟩
 | range=>exact (Tryz.strconv_Atoi_range ⟨l.toArray⟩ (by rw [size_mk];omega) h (.iface te2 pe2) w hs2 (.inr ⟨te2,pe2,rfl⟩)).mono fun _ _ ⟨N,he,_,_,hb⟩=>⟨_,_,he,.inr ⟨⟨N,rfl⟩,by unfold numQ;rw [h]⟩,hb⟩
 | _=>exact (Tryz.strconv_Atoi_syntax ⟨l.toArray⟩ (by rw [size_mk];omega) h (.iface te pe) w hs (.inr ⟨te,pe,rfl⟩)).mono fun _ _ ⟨N,he,_,_,hb⟩=>⟨0,_,he,.inr ⟨⟨N,rfl⟩,by unfold numQ;rw [h]⟩,hb⟩
theorem line_len2 (l:List UInt8):(lineB l).2.1.length≤l.length:=by
 unfold lineB
 dsimp only
 split
 ·have h1:=cut_le2 l [32]
  have h2:=cut_le1 (Lib.cut l [32]).2.1 [32]
  exact Nat.le_trans h2 h1
 ·simp
def firstQ (s:List UInt8):Rq×Bool:=(⟨(lineB s).1,(targetB (lineB s).2.1).1,(targetB (lineB s).2.1).2.1,(lineB s).2.2.1,[],[],false⟩,(lineB s).2.2.2&&(targetB (lineB s).2.1).2.2)
theorem first_any (s:List UInt8) (w:World) (hG:G w) (hl:s.length≤900000) :
  Calls Tryz.prog 129 #[.string ⟨s.toArray⟩] w fun e w'=>e=.returned (.tuple #[(firstQ s).1.V (.slice none 0 0),.bool (firstQ s).2])∧Gr w w':=by
 have hG':=hid hG
 obtain ⟨⟨m,t,v,ok⟩,h1⟩:∃ r,lineB s=r:=⟨_,rfl⟩
 have htl:t.length≤s.length:=by have:=line_len2 s;rw [h1] at this;exact this
 obtain ⟨⟨p,q,is⟩,h2⟩:∃ r,targetB t=r:=⟨_,rfl⟩
 have hF:firstQ s=(⟨m,p,q,v,[],[],false⟩,ok&&is):=by unfold firstQ;rw [h1];dsimp only;rw [h2]
 rw [hF]
 unfold Rq.V
 dsimp only
 have c1':=hid (fun W h=>line_is s m t v ok h1 W h (by omega))
 have c2':=hid (fun W h=>target_is t p q is h2 W h (by omega))
 clear h1 h2 hF hG
 have g0:=hid (Gr.alloc w (.cells #[.string ⟨#[]⟩,.string ⟨#[]⟩,.string ⟨#[]⟩,.int .i64 0,.slice none 0 0,.string ⟨#[]⟩,.bool false] 78))
 have c0:(w.alloc (.cells #[.string ⟨#[]⟩,.string ⟨#[]⟩,.string ⟨#[]⟩,.int .i64 0,.slice none 0 0,.string ⟨#[]⟩,.bool false] 78)).cell? ⟨w.heap.size,0,none⟩=some (.string ⟨#[]⟩):=by simp [go_sem]
 have c1:(w.alloc (.cells #[.string ⟨#[]⟩,.string ⟨#[]⟩,.string ⟨#[]⟩,.int .i64 0,.slice none 0 0,.string ⟨#[]⟩,.bool false] 78)).cell? ⟨w.heap.size,1,none⟩=some (.string ⟨#[]⟩):=by simp [go_sem]
 have c2:(w.alloc (.cells #[.string ⟨#[]⟩,.string ⟨#[]⟩,.string ⟨#[]⟩,.int .i64 0,.slice none 0 0,.string ⟨#[]⟩,.bool false] 78)).cell? ⟨w.heap.size,2,none⟩=some (.string ⟨#[]⟩):=by simp [go_sem]
 have c3:(w.alloc (.cells #[.string ⟨#[]⟩,.string ⟨#[]⟩,.string ⟨#[]⟩,.int .i64 0,.slice none 0 0,.string ⟨#[]⟩,.bool false] 78)).cell? ⟨w.heap.size,3,none⟩=some (.int .i64 0):=by simp [go_sem]
 have c4:(w.alloc (.cells #[.string ⟨#[]⟩,.string ⟨#[]⟩,.string ⟨#[]⟩,.int .i64 0,.slice none 0 0,.string ⟨#[]⟩,.bool false] 78)).cell? ⟨w.heap.size,4,none⟩=some (.slice none 0 0):=by simp [go_sem]
 have c5:(w.alloc (.cells #[.string ⟨#[]⟩,.string ⟨#[]⟩,.string ⟨#[]⟩,.int .i64 0,.slice none 0 0,.string ⟨#[]⟩,.bool false] 78)).cell? ⟨w.heap.size,5,none⟩=some (.string ⟨#[]⟩):=by simp [go_sem]
 have c6:(w.alloc (.cells #[.string ⟨#[]⟩,.string ⟨#[]⟩,.string ⟨#[]⟩,.int .i64 0,.slice none 0 0,.string ⟨#[]⟩,.bool false] 78)).cell? ⟨w.heap.size,6,none⟩=some (.bool false):=by simp [go_sem]
 have f0:∀ o,(w.alloc (.cells #[.string ⟨#[]⟩,.string ⟨#[]⟩,.string ⟨#[]⟩,.int .i64 0,.slice none 0 0,.string ⟨#[]⟩,.bool false] 78)).frozen? ⟨w.heap.size,o,none⟩=false:=fun o=>by simp [go_sem]
 have hz:w.heap.size<(w.alloc (.cells #[.string ⟨#[]⟩,.string ⟨#[]⟩,.string ⟨#[]⟩,.int .i64 0,.slice none 0 0,.string ⟨#[]⟩,.bool false] 78)).heap.size:=by simp
 go_enter Tryz.func129,Tryz.ntmps129
 go_upto_region 1 with (fail)
 generalize (w.alloc (.cells #[.string ⟨#[]⟩,.string ⟨#[]⟩,.string ⟨#[]⟩,.int .i64 0,.slice none 0 0,.string ⟨#[]⟩,.bool false] 78))=w1 at g0 c0 c1 c2 c3 c4 c5 c6 f0 hz ⊢
 go_wp2_with fail
 refine (c1'.out _ (hG'.out.gr g0.out)).mono ?_
 rintro e w2 ⟨rfl,hb⟩
 replace c0:=hb.cell c0
 replace c1:=hb.cell c1
 replace c2:=hb.cell c2
 replace c3:=hb.cell c3
 replace c4:=hb.cell c4
 replace c5:=hb.cell c5
 replace c6:=hb.cell c6
 replace f0:=fun o=>(Below.frozen hb (show (⟨w.heap.size,o,none⟩:Addr).block<w1.heap.size from hz)).trans (f0 o)
 replace hz:=Nat.lt_of_lt_of_le hz (Below.size hb)
 have g2:=hid (g0.out.trans hb)
 clear hb
 go_wp2_with fail
 refine (c2'.out _ (hG'.out.gr g2.out)).mono ?_
 rintro e w3 ⟨rfl,hb⟩
 replace c0:=hb.cell c0
 replace c1:=hb.cell c1
 replace c2:=hb.cell c2
 replace c3:=hb.cell c3
 replace c4:=hb.cell c4
 replace c5:=hb.cell c5
 replace c6:=hb.cell c6
 replace f0:=fun o=>(Below.frozen hb (show (⟨w.heap.size,o,none⟩:Addr).block<w2.heap.size from hz)).trans (f0 o)
 have g3:=hid (g2.out.trans hb)
 clear hb hz
 have hS:=hid (fun v0 v1 v2 v3 v4 v5 v6=>(((((((g3.out.setCell (p:=⟨w.heap.size,0,none⟩) (Nat.le_refl _) v0).setCell (p:=⟨w.heap.size,1,none⟩) (Nat.le_refl _) v1).setCell (p:=⟨w.heap.size,2,none⟩) (Nat.le_refl _) v2).setCell (p:=⟨w.heap.size,3,none⟩) (Nat.le_refl _) v3).setCell (p:=⟨w.heap.size,4,none⟩) (Nat.le_refl _) v4).setCell (p:=⟨w.heap.size,5,none⟩) (Nat.le_refl _) v5).setCell (p:=⟨w.heap.size,6,none⟩) (Nat.le_refl _) v6))
 cases ok with
 | false =>
  go_wp2
  refine bodyPost_ret (v:=.tuple #[.agg #[.string ⟨m.toArray⟩,.string ⟨p.toArray⟩,.string ⟨q.toArray⟩,.int .i64 v,.slice none 0 0,.string ⟨#[]⟩,.bool false],.bool false]) ?_ rfl ⟨rfl,hS.out _ _ _ _ _ _ _⟩
  simp [results,Tryz.results129,go_sem,c0,c1,c2,c3,c4,c5,c6]
 | true =>
  go_wp2
  refine bodyPost_ret (v:=.tuple #[.agg #[.string ⟨m.toArray⟩,.string ⟨p.toArray⟩,.string ⟨q.toArray⟩,.int .i64 v,.slice none 0 0,.string ⟨#[]⟩,.bool false],.bool is]) ?_ rfl ⟨rfl,hS.out _ _ _ _ _ _ _⟩
  simp [results,Tryz.results129,go_sem,c0,c1,c2,c3,c4,c5,c6]
theorem any_take_false {α:Type} {l:List α} {p:α→Bool} {k:Nat} (h:(l.take k).any p=false) (hk:k<l.length) (hp:p l[k]=false):(l.take (k+1)).any p=false:=by
 rw [List.take_succ_eq_append_getElem hk,List.any_append,h,List.any_cons,hp];rfl
theorem any_at {α:Type} {l:List α} {p:α→Bool} {k:Nat} (hk:k<l.length) (hp:p l[k]=true):l.any p=true:=by
 rw [List.any_eq_true];exact ⟨_,List.getElem_mem hk,hp⟩
theorem length_any (fs:List Fl) (t:Value) (w:World) (hG:G w) (hf:FieldsAt w t fs) (hn:fs.length≤100000) (hs:∀ f∈fs,f.1.length≤900000∧f.2.length≤900000) :
  Calls Tryz.prog 132 #[t] w fun e w'=>e=.returned (.int .i64 (lengthQ fs))∧Gr w w':=by
 have hG':=hid hG
 have hget:=hid (get_any t fs qLen w hG hf (by omega) (fun f hm=>by have:=hs f hm;omega) (by decide))
 obtain ⟨p,cap,rfl,hc⟩:=hf
 have hc':=hid hc
 have hs':=hid hs
 have hvl:(getB fs qLen).1.length≤900000:=by
  unfold getB
  cases hx:(fs.filter fun f=>alikeB f.1 qLen) with
  | nil=>simp
  | cons a b =>
   have hm:a∈fs:=(List.mem_filter.1 (hx▸List.mem_cons_self:a∈fs.filter fun f=>alikeB f.1 qLen)).1
   simpa using (hs a hm).2
 have hL:lengthQ fs=if fs.any (fun f=>alikeB f.1 qLen&&f.2 != (getB fs qLen).1) then -1 else if (getB fs qLen).2=0 then 0 else if (getB fs qLen).1.isEmpty||!(getB fs qLen).1.all qDig then -1 else numQ (getB fs qLen).1:=rfl
 obtain ⟨⟨value,many⟩,hgb⟩:∃ x,getB fs qLen=x:=⟨_,rfl⟩
 rw [hgb] at hget hL hvl
 dsimp only at hget hL hvl
 have hL':=hid hL
 clear hc hs hgb hL hG
 go_enter Tryz.func132,Tryz.ntmps132
 go_wp2_with fail
 refine hget.out.mono ?_
 rintro e w1 ⟨rfl,hb⟩
 have g1:=hid hb
 clear hb
 go_wp2
 go_loopw [16] (fun i W=>∃ k:Nat,k≤fs.length∧i=.int .i64 k∧(fs.take k).any (fun f=>alikeB f.1 qLen&&f.2 != value)=false∧Gr w W) (fun i _=>fs.length - (intOf i).toNat)
 case atStart=>exact ⟨0,Nat.zero_le _,rfl,rfl,g1.out⟩
 case round =>
  obtain ⟨k,hk,rfl,hany,hg⟩:=hrel
  have hany':=hid hany
  have hg':=hid hg
  clear hany
  by_cases hlt:k<fs.length
  ·obtain ⟨b,off,rfl,h1,h2⟩:=hc'.out k hlt
   have d1:=hg.cell h1
   have d2:=hg.cell h2
   have hx9:=hs'.out _ (List.getElem_mem hlt)
   have hbad:=hid (fun h=>@any_at _ fs (fun f=>alikeB f.1 qLen&&f.2 != value) k hlt h)
   have hgood:=hid (fun h=>@any_take_false _ fs (fun f=>alikeB f.1 qLen&&f.2 != value) k hany'.out hlt h)
   obtain ⟨⟨xn,xv⟩,hx⟩:∃ x,fs[k]=x:=⟨_,rfl⟩
   rw [hx] at d1 d2 hx9 hbad hgood
   dsimp only at d1 d2 hx9 hbad hgood
   have hkI:(k:Int)<fs.length:=by omega
   have q1:=hid (fun W hGW=>alike_any xn qLen W hGW (by omega) (by decide))
   obtain ⟨a1,ha1⟩:∃ a,alikeB xn qLen=a:=⟨_,rfl⟩
   rw [ha1] at q1 hbad hgood
   clear ha1 hx h1 h2 hg
   have y0:(wr.alloc (.cells #[.string ⟨xn.toArray⟩,.string ⟨xv.toArray⟩] 80)).cell? ⟨wr.heap.size,0,none⟩=some (.string ⟨xn.toArray⟩):=cell_new7 wr [.string ⟨xn.toArray⟩,.string ⟨xv.toArray⟩] _ 0 _ rfl
   have y1:(wr.alloc (.cells #[.string ⟨xn.toArray⟩,.string ⟨xv.toArray⟩] 80)).cell? ⟨wr.heap.size,1,none⟩=some (.string ⟨xv.toArray⟩):=cell_new7 wr [.string ⟨xn.toArray⟩,.string ⟨xv.toArray⟩] _ 1 _ rfl
   have gx:=Gr.alloc wr (.cells #[.string ⟨xn.toArray⟩,.string ⟨xv.toArray⟩] 80)
   go_upto_region 5 with (fail)
   generalize wr.alloc (.cells #[.string ⟨xn.toArray⟩,.string ⟨xv.toArray⟩] 80)=w2 at y0 y1 gx ⊢
   have g2:=hid (hg'.out.trans gx)
   clear gx d1 d2
   go_wp2_with fail
   refine (q1.out _ (hG'.out.gr g2.out)).mono ?_
   rintro e w3 ⟨rfl,hb⟩
   replace y1:=hb.cell y1
   have g3:=hid (g2.out.trans hb)
   clear hb y0
   cases a1 with
   | false =>
    have hok:=hid (hgood.out rfl)
    go_wp2
    go_roundw
    case rel=>exact ⟨k+1,by omega,by go_num,hok.out,g3.out⟩
    case measure=>simp [intOf];omega
   | true =>
    cases hv:(xv==value)
    case true =>
     have hok:=hid (hgood.out (by rw [beq_iff_eq] at hv;rw [hv];simp))
     rw [beq_iff_eq] at hv
     subst hv
     go_wp2
     go_roundw
     case rel=>exact ⟨k+1,by omega,by go_num,hok.out,g3.out⟩
     case measure=>simp [intOf];omega
    case false =>
     have hfin:=hid (show lengthQ fs = -1 by rw [hL'.out,hbad.out (by rw [bne,hv];rfl)];rfl)
     go_wp2
     go_ret
     exact ⟨by rw [hfin.out];rfl,g3.out⟩
  ·have hkl:k=fs.length:=by omega
   have hkI:¬(k:Int)<fs.length:=by omega
   have hL2:lengthQ fs=if many=0 then 0 else if value.isEmpty||!value.all qDig then -1 else numQ value:=by
    rw [hL'.out]
    have h9:=hany'.out
    rw [hkl,List.take_length] at h9
    rw [h9];rfl
   have hL2':=hid hL2
   clear hL2 hkl hg
   by_cases hm0:many=0
   ·have hfin:=hid (show lengthQ fs=0 by rw [hL2'.out,if_pos hm0])
    subst hm0
    go_wp2
    go_ret
    exact ⟨by rw [hfin.out];rfl,hg'.out⟩
   ·have hmI:((many:Int)==0)=false:=beq_eq_false_iff_ne.2 (by omega)
    cases hve:value.isEmpty with
    | true =>
     have hfin:=hid (show lengthQ fs = -1 by rw [hL2'.out,if_neg hm0,hve];rfl)
     clear hm0
     go_wp2
     go_ret
     exact ⟨by rw [hfin.out];rfl,hg'.out⟩
    | false =>
     have ht:=hid (fun W=>trimq_any value W (by omega))
     have hta:(Lib.trimS value digsQ).isEmpty=value.all qDig:=by
      rw [trims_allq]
      congr 1
      funext c
      exact digs_eqq c
     obtain ⟨tt,htt⟩:∃ x,Lib.trimS value digsQ=x:=⟨_,rfl⟩
     rw [htt] at ht hta
     have htt0:=htt
     clear htt htt0
     cases hdg:value.all qDig with
     | false =>
      have hfin:=hid (show lengthQ fs = -1 by rw [hL2'.out,if_neg hm0,hdg,Bool.or_comm];rfl)
      have hte:tt.isEmpty=false:=hta.trans hdg
      clear hm0 hta hdg
      go_wp2_with fail
      refine (ht.out _).mono ?_
      rintro e w2 ⟨rfl,hb⟩
      have g2:=hid (hg'.out.trans hb)
      clear hb
      go_wp2
      go_ret
      exact ⟨by rw [hfin.out];rfl,g2.out⟩
     | true =>
      have hfin:=hid (show lengthQ fs=numQ value by rw [hL2'.out,if_neg hm0,hve,hdg];rfl)
      have hte:tt=[]:=by simpa using hta.trans hdg
      subst hte
      have hat:=hid (fun W hGW=>atoiq_any value (by omega) W hGW)
      clear hm0 hta hdg
      go_wp2_with fail
      refine (ht.out _).mono ?_
      rintro e w2 ⟨rfl,hb⟩
      have g2:=hid (hg'.out.trans hb)
      clear hb
      go_wp2_with fail
      refine (hat.out _ (hG'.out.gr g2.out)).mono ?_
      rintro e w3 ⟨v,ev,rfl,hv,hb⟩
      have g3:=hid (g2.out.trans hb)
      clear hb
      rcases hv with ⟨rfl,hv⟩ | ⟨⟨N,rfl⟩,hv⟩
      ·have hf2:=hid (hfin.out.trans hv)
       clear hv
       go_wp2
       go_ret
       exact ⟨by rw [hf2.out];rfl,g3.out⟩
      ·have hf2:=hid (hfin.out.trans hv)
       clear hv
       go_wp2
       go_ret
       exact ⟨by rw [hf2.out];rfl,g3.out⟩
end Go.Proofs.YtadobobfjnmdlaaGreatDoor
