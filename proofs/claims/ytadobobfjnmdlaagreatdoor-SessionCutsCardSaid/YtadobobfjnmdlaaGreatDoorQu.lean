/-
  The reader of frames in memory: whether a head may be.
-/
import Derived.Test.YtadobobfjnmdlaaGreatDoorQq
set_option linter.unnecessarySimpa false
set_option linter.unusedVariables false
set_option linter.unusedSimpArgs false
set_option maxHeartbeats 16000000
set_option maxRecDepth 100000
open Go.Lib (hid)
open Go.Proofs.Tryz
namespace Go.Proofs.YtadobobfjnmdlaaGreatDoor
open Go.RowKit Go.Shelf
attribute [local go_sem] Oper.semAt_some
theorem fop_later (n:Nat) (W:World) (y:Later (Gr W)):Calls prog 257 #[.int .i64 n] y.w λe w'=>e=.returned (.bool (opH n))∧∃ z:Later (Gr W),w'=z.w :=
 Calls.later ((fop_any n y.w).mono λ_ w' ⟨h1,h2⟩=>⟨h1,h2▸y.ok⟩)
theorem frmay_any (b:Nat) (W:World) (h:Hd) (c0:W.cell? ⟨b,0,none⟩=some (.bool true)) :
  Calls prog 225 #[.pointer (some ⟨b,0,none⟩),h.V] W λe w'=>e=.returned (.bool (mayH true h))∧Gr W w':=by
 obtain⟨fin,rsv,op,masked,k0,k1,k2,k3,len,least⟩:=h
 have hop0:=λw=>fop_later op w
 obtain⟨vo,ho⟩:∃ v,opH op=v:=⟨_,rfl⟩
 rw[ho] at hop0
 obtain⟨sm,hsm⟩:∃ v,(decide (op<8)||(fin&&decide (len≤125)))=v:=⟨_,rfl⟩
 have hv:=hid (show mayH true ⟨fin,rsv,op,masked,k0,k1,k2,k3,len,least⟩=(rsv==0&&(vo&&(masked==true&&(sm&&(least&&decide (len≤9223372036854775807)))))) by unfold mayH;dsimp only;rw[ho,hsm])
 have hop:=hid hop0
 have hb:b<W.heap.size:=cell_lt c0
 clear hop0 ho
 unfold Hd.V
 dsimp only
 obtain⟨w1,hw1⟩:∃ w1,W.alloc (.cells #[.bool fin,.int .i64 rsv,.int .i64 op,.bool masked,.int .u8 k0.toNat,.int .u8 k1.toNat,.int .u8 k2.toNat,.int .u8 k3.toNat,.int .u64 len,.bool least] 152)=w1:=⟨_,rfl⟩
 have g1:Gr W w1:=by rw[←hw1];exact Gr.alloc _ _
 have d0:w1.cell? ⟨W.heap.size,0,none⟩=some (.bool fin):=by rw[←hw1];exact cell_new7 _ _ _ 0 _ rfl
 have d1:w1.cell? ⟨W.heap.size,1,none⟩=some (.int .i64 rsv):=by rw[←hw1];exact cell_new7 _ _ _ 1 _ rfl
 have d2:w1.cell? ⟨W.heap.size,2,none⟩=some (.int .i64 op):=by rw[←hw1];exact cell_new7 _ _ _ 2 _ rfl
 have d3:w1.cell? ⟨W.heap.size,3,none⟩=some (.bool masked):=by rw[←hw1];exact cell_new7 _ _ _ 3 _ rfl
 have d8:w1.cell? ⟨W.heap.size,8,none⟩=some (.int .u64 len):=by rw[←hw1];exact cell_new7 _ _ _ 8 _ rfl
 have d9:w1.cell? ⟨W.heap.size,9,none⟩=some (.bool least):=by rw[←hw1];exact cell_new7 _ _ _ 9 _ rfl
 have e0:=g1.cell c0
 have g1':=hid g1
 clear g1 c0
 go_enter func225,ntmps225
 go_upto_region 1 with (fail)
 clear hw1
 go_cut [5] (λv wx=>v=.bool sm∧wx=w1)
 case first =>
  by_cases h8:op<8
  ·have h8I:(op:Int)<8:=by omega
   rw[decide_eq_true h8,Bool.true_or] at hsm
   subst hsm
   go_wp2
   go_meet
   exact⟨rfl,rfl⟩
  ·have h8I:¬(op:Int)<8:=by omega
   rw[decide_eq_false h8,Bool.false_or] at hsm
   cases fin with
   | false =>
    rw[Bool.false_and] at hsm
    subst hsm
    go_wp2
    go_meet
    exact⟨rfl,rfl⟩
   | true =>
    rw[Bool.true_and] at hsm
    have hlI:decide ((len:Int)≤125)=sm:=by rw[←hsm];simp only[decide_eq_decide];omega
    go_wp2
    go_meet
    exact⟨rfl,rfl⟩
 case rest =>
  obtain⟨rfl,rfl⟩:=hcut
  haveI:Nonempty (Later (Gr wc)):=⟨⟨wc,Gr.refl wc⟩⟩
  have t0:∀ y:Later (Gr wc),y.w.cell? ⟨b,0,none⟩=some (.bool true):=λy=>y.ok.cell e0
  have t1:∀ y:Later (Gr wc),y.w.cell? ⟨W.heap.size,1,none⟩=some (.int .i64 rsv):=λy=>y.ok.cell d1
  have t2:∀ y:Later (Gr wc),y.w.cell? ⟨W.heap.size,2,none⟩=some (.int .i64 op):=λy=>y.ok.cell d2
  have t3:∀ y:Later (Gr wc),y.w.cell? ⟨W.heap.size,3,none⟩=some (.bool masked):=λy=>y.ok.cell d3
  have t8:∀ y:Later (Gr wc),y.w.cell? ⟨W.heap.size,8,none⟩=some (.int .u64 len):=λy=>y.ok.cell d8
  have t9:∀ y:Later (Gr wc),y.w.cell? ⟨W.heap.size,9,none⟩=some (.bool least):=λy=>y.ok.cell d9
  have hop1:=hid (hop.out wc)
  clear d0 d1 d2 d3 d8 d9 e0 hop hsm
  by_cases hr:rsv=0
  ·subst hr
   cases vo with
   | true =>
    cases masked with
    | true =>
     cases sm with
     | true =>
      cases least with
      | true =>
       have hlI:decide ((len:Int)≤9223372036854775807)=decide (len≤9223372036854775807):=by simp only[decide_eq_decide];omega
       obtain⟨vl,hvl⟩:∃ v,decide (len≤9223372036854775807)=v:=⟨_,rfl⟩
       rw[hvl] at hlI
       have hvl':=hid hvl
       clear hvl
       go_upto_region 2 with (fail)
       refine wp_region_later (C:=Gr wc) (by kernel_rfl) (by kernel_rfl) (Gr.drew' _) ?_
       repeat (go_big_quiet_step (with_reducible exact hop1.out _))
       refine wpQuiet_nil ?_
       intro w9 hg9
       have hg9':=hid (g1'.out.trans hg9)
       clear t0 t1 t2 t3 t8 t9 hg9
       go_wp2
       go_ret
       exact⟨by rw[hv.out,hvl'.out];rfl,hg9'.out⟩
      | false =>
       go_upto_region 2 with (fail)
       refine wp_region_later (C:=Gr wc) (by kernel_rfl) (by kernel_rfl) (Gr.drew' _) ?_
       repeat (go_big_quiet_step (with_reducible exact hop1.out _))
       refine wpQuiet_nil ?_
       intro w9 hg9
       have hg9':=hid (g1'.out.trans hg9)
       clear t0 t1 t2 t3 t8 t9 hg9
       go_wp2
       go_ret
       exact⟨by rw[hv.out];rfl,hg9'.out⟩
     | false =>
      go_upto_region 2 with (fail)
      refine wp_region_later (C:=Gr wc) (by kernel_rfl) (by kernel_rfl) (Gr.drew' _) ?_
      repeat (go_big_quiet_step (with_reducible exact hop1.out _))
      refine wpQuiet_nil ?_
      intro w9 hg9
      have hg9':=hid (g1'.out.trans hg9)
      clear t0 t1 t2 t3 t8 t9 hg9
      go_wp2
      go_ret
      exact⟨by rw[hv.out];rfl,hg9'.out⟩
    | false =>
     go_upto_region 2 with (fail)
     refine wp_region_later (C:=Gr wc) (by kernel_rfl) (by kernel_rfl) (Gr.drew' _) ?_
     repeat (go_big_quiet_step (with_reducible exact hop1.out _))
     refine wpQuiet_nil ?_
     intro w9 hg9
     have hg9':=hid (g1'.out.trans hg9)
     clear t0 t1 t2 t3 t8 t9 hg9
     go_wp2
     go_ret
     exact⟨by rw[hv.out];rfl,hg9'.out⟩
   | false =>
    go_upto_region 2 with (fail)
    refine wp_region_later (C:=Gr wc) (by kernel_rfl) (by kernel_rfl) (Gr.drew' _) ?_
    repeat (go_big_quiet_step (with_reducible exact hop1.out _))
    refine wpQuiet_nil ?_
    intro w9 hg9
    have hg9':=hid (g1'.out.trans hg9)
    clear t0 t1 t2 t3 t8 t9 hg9
    go_wp2
    go_ret
    exact⟨by rw[hv.out];rfl,hg9'.out⟩
  ·have hz:((rsv:Int)==0)=false:=beq_eq_false_iff_ne.2 (by omega)
   have hz2:=hid (beq_eq_false_iff_ne.2 hr)
   clear hr
   go_upto_region 2 with (fail)
   refine wp_region_later (C:=Gr wc) (by kernel_rfl) (by kernel_rfl) (Gr.drew' _) ?_
   repeat (go_big_quiet_step (with_reducible exact hop1.out _))
   refine wpQuiet_nil ?_
   intro w9 hg9
   have hg9':=hid (g1'.out.trans hg9)
   clear t0 t1 t2 t3 t8 t9 hg9
   go_wp2
   go_ret
   exact⟨by rw[hv.out,hz2.out];rfl,hg9'.out⟩
def Fev.V:Fev→Value
 | .begin' f o n=>.agg #[.int .i64 1,.int .i64 o,.bool f,.int .i64 n,.string ⟨#[]⟩]
 | .piece s=>.agg #[.int .i64 2,.int .i64 0,.bool false,.int .i64 0,.string ⟨s.toArray⟩]
 | .fin=>.agg #[.int .i64 3,.int .i64 0,.bool false,.int .i64 0,.string ⟨#[]⟩]
 | .fail=>.agg #[.int .i64 4,.int .i64 0,.bool false,.int .i64 0,.string ⟨#[]⟩]
def ev0V:Value:=.agg #[.int .i64 0,.int .i64 0,.bool false,.int .i64 0,.string ⟨#[]⟩]
def fevT:Option Fev→Value
 | none=>.tuple #[ev0V,.bool false]
 | some e=>.tuple #[e.V,.bool true]
structure EvZ (rb:Nat) (W:World):Prop where
 k:W.cell? ⟨rb,0,none⟩=some (.int .i64 0)
 o:W.cell? ⟨rb,1,none⟩=some (.int .i64 0)
 f:W.cell? ⟨rb,2,none⟩=some (.bool false)
 l:W.cell? ⟨rb,3,none⟩=some (.int .i64 0)
 t:W.cell? ⟨rb,4,none⟩=some (.string ⟨#[]⟩)
 fz:∀ o,W.frozen? ⟨rb,o,none⟩=false
theorem EvZ.lt {rb:Nat} {W:World} (h:EvZ rb W):rb<W.heap.size:=cell_lt h.k
theorem EvZ.ch {rb:Nat} {T:Nat→Prop} {W W':World} (h:EvZ rb W) (hc:Ch T W W') (hT:¬T rb):EvZ rb W' :=
 have cc:∀ {j v},W.cell? ⟨rb,j,none⟩=some v→W'.cell? ⟨rb,j,none⟩=some v:=fun {j v} hh=>(hc.cell (p:=⟨rb,j,none⟩) (cell_lt hh) hT).trans hh
 ⟨cc h.k,cc h.o,cc h.f,cc h.l,cc h.t,λo=>(hc.frozen (p:=⟨rb,o,none⟩) h.lt hT).trans (h.fz o)⟩
theorem EvZ.gr {rb:Nat} {W W':World} (h:EvZ rb W) (g:Gr W W'):EvZ rb W':=h.ch (g.to_ch (λ_=>False)) id
theorem evZ_new (W:World) (t:TypeId):EvZ W.heap.size (W.alloc (.cells #[.int .i64 0,.int .i64 0,.bool false,.int .i64 0,.string ⟨#[]⟩] t)) :=
 ⟨cell_new7 _ _ _ 0 _ rfl,cell_new7 _ _ _ 1 _ rfl,cell_new7 _ _ _ 2 _ rfl,cell_new7 _ _ _ 3 _ rfl,cell_new7 _ _ _ 4 _ rfl,λ_=>World.frozen?_alloc_at _ _ _ _ rfl⟩
theorem ch5 {rb:Nat} (W:World) (v0 v1 v2 v3 v4:Value):Ch (λk=>k=rb) W (((((W.setCell ⟨rb,0,none⟩ v0).setCell ⟨rb,1,none⟩ v1).setCell ⟨rb,2,none⟩ v2).setCell ⟨rb,3,none⟩ v3).setCell ⟨rb,4,none⟩ v4) :=
 ((((Ch.setCell (T:=λk=>k=rb) _ (a:=⟨rb,0,none⟩) rfl _).trans (Ch.setCell (T:=λk=>k=rb) _ (a:=⟨rb,1,none⟩) rfl _)).trans (Ch.setCell (T:=λk=>k=rb) _ (a:=⟨rb,2,none⟩) rfl _)).trans (Ch.setCell (T:=λk=>k=rb) _ (a:=⟨rb,3,none⟩) rfl _)).trans (Ch.setCell (T:=λk=>k=rb) _ (a:=⟨rb,4,none⟩) rfl _)
def FrPost (b:Nat) (W:World) (x:Fr×Option Fev) (e:Ending) (W':World):Prop:=e=.returned (fevT x.2)∧FrS b W' x.1∧Ch (λj=>j=b) W W'
theorem FrS.told5 {b rb:Nat} {W W2:World} {r:Fr} (k:FrS b W2 r) (hc:Ch (λj=>j=b) W W2) (hb:b<W.heap.size) (hr:W.heap.size≤rb) (v0 v1 v2 v3 v4:Value) :
  FrS b (((((W2.setCell ⟨rb,0,none⟩ v0).setCell ⟨rb,1,none⟩ v1).setCell ⟨rb,2,none⟩ v2).setCell ⟨rb,3,none⟩ v3).setCell ⟨rb,4,none⟩ v4) r∧Ch (λj=>j=b) W (((((W2.setCell ⟨rb,0,none⟩ v0).setCell ⟨rb,1,none⟩ v1).setCell ⟨rb,2,none⟩ v2).setCell ⟨rb,3,none⟩ v3).setCell ⟨rb,4,none⟩ v4) :=
 ⟨k.ch (ch5 W2 v0 v1 v2 v3 v4) (by (try dsimp only);omega),hc.drop_new (ch5 W2 v0 v1 v2 v3 v4) (λj hj=>.inr (by rw[show j=rb from hj];exact hr))⟩
theorem frbegins_none {b:Nat} {W:World} {r:Fr} (k:FrS b W r) (hk:FrOk r) (hh:headH r.inp=none) :
  Calls prog 181 #[.pointer (some ⟨b,0,none⟩)] W (FrPost b W (r,none)):=by
 obtain⟨w1,hw1⟩:∃ w1,W.alloc (.cells #[.int .i64 0,.int .i64 0,.bool false,.int .i64 0,.string ⟨#[]⟩] 159)=w1:=⟨_,rfl⟩
 have g1:Gr W w1:=hw1▸Gr.alloc _ _
 have hz:=hid (hw1▸evZ_new W _:EvZ W.heap.size w1)
 have k1:=k.gr g1
 have c2:=k1.c2
 have hb:=k.lt
 obtain⟨p,hp⟩:∃ p,r.inp=p:=⟨_,rfl⟩
 have hrh:=rhead_any2 r.inp w1 hk.1
 unfold headV at hrh
 rw[hh] at hrh
 rw[hp] at c2 hrh
 have hrh:=hid hrh
 have k1':=hid k1
 have g1':=hid g1
 clear k k1 g1 hh hp
 go_enter func181,ntmps181
 go_wp2_with fail
 refine (hrh.out).mono ?_
 rintro e w2⟨rfl,hg2⟩
 obtain⟨z0,z1,z2,z3,z4,zf⟩:=hz.out.gr hg2
 have hlt:W.heap.size<w2.heap.size:=cell_lt z0
 have hg2':=hid hg2
 clear hg2 c2
 unfold Hd.V hd0
 dsimp only
 go_wp2
 refine bodyPost_ret (v:=.tuple #[ev0V,.bool false]) (by simp[results,results181,go_sem,ev0V,z0,z1,z2,z3,z4,hlt]) rfl ⟨rfl,?_⟩
 have hf:=(k1'.out.gr hg2'.out).told5 ((g1'.out.to_ch _).trans (hg2'.out.to_ch _)) hb (Nat.le_refl _) (.int .i64 0) (.int .i64 0) (.bool false) (.int .i64 0) (.string ⟨#[]⟩)
 exact⟨hf.1.gr (Gr.alloc _ _),hf.2.trans (Ch.alloc _ _ _)⟩
theorem may_len {h:Hd} (e:mayH true h=true):h.len≤9223372036854775807:=by
 unfold mayH at e
 simp at e
 omega
theorem headH_le {s:List UInt8} {h:Hd} {n:Nat} (e:headH s=some (h,n)):n≤s.length:=by
 unfold headH at e
 split at e
 ·cases e
 ·cases e;omega
theorem FrS.setAll {b:Nat} {W:World} {r:Fr} (k:FrS b W r) (st:Nat) (q:List UInt8) (h:Hd) (n:Nat) :
  FrS b (((((((((((((W.setCell ⟨b,1,none⟩ (.int .i64 st)).setCell ⟨b,2,none⟩ (.string ⟨q.toArray⟩)).setCell ⟨b,3,none⟩ (.bool h.fin)).setCell ⟨b,4,none⟩ (.int .i64 h.rsv)).setCell ⟨b,5,none⟩ (.int .i64 h.op)).setCell ⟨b,6,none⟩ (.bool h.masked)).setCell ⟨b,7,none⟩ (.int .u8 h.k0.toNat)).setCell ⟨b,8,none⟩ (.int .u8 h.k1.toNat)).setCell ⟨b,9,none⟩ (.int .u8 h.k2.toNat)).setCell ⟨b,10,none⟩ (.int .u8 h.k3.toNat)).setCell ⟨b,11,none⟩ (.int .u64 h.len)).setCell ⟨b,12,none⟩ (.bool h.least)).setCell ⟨b,13,none⟩ (.int .i64 n)) ⟨st,q,h,n⟩:=by
 obtain⟨c0,c1,c2,⟨f0,f1,f2,f3,f4,f5,f6,f7,f8,f9⟩,c13,fz⟩:=k
 refine⟨?_,?_,?_,⟨?_,?_,?_,?_,?_,?_,?_,?_,?_,?_⟩,?_,λo=>by simp only[frozen_set];exact fz o⟩
 ·simp[go_sem,c0]
 ·simp[go_sem,c1]
 ·simp[go_sem,c2]
 ·simp[go_sem,f0]
 ·simp[go_sem,f1]
 ·simp[go_sem,f2]
 ·simp[go_sem,f3]
 ·simp[go_sem,f4]
 ·simp[go_sem,f5]
 ·simp[go_sem,f6]
 ·simp[go_sem,f7]
 ·simp[go_sem,f8]
 ·simp[go_sem,f9]
 ·simp[go_sem,c13]
theorem chAll {b:Nat} (W:World) (v1 v2 v3 v4 v5 v6 v7 v8 v9 v10 v11 v12 v13:Value) :
  Ch (λj=>j=b) W (((((((((((((W.setCell ⟨b,1,none⟩ v1).setCell ⟨b,2,none⟩ v2).setCell ⟨b,3,none⟩ v3).setCell ⟨b,4,none⟩ v4).setCell ⟨b,5,none⟩ v5).setCell ⟨b,6,none⟩ v6).setCell ⟨b,7,none⟩ v7).setCell ⟨b,8,none⟩ v8).setCell ⟨b,9,none⟩ v9).setCell ⟨b,10,none⟩ v10).setCell ⟨b,11,none⟩ v11).setCell ⟨b,12,none⟩ v12).setCell ⟨b,13,none⟩ v13):=by
 have s:∀ (w:World) (o:Nat) (v:Value),Ch (λj=>j=b) w (w.setCell ⟨b,o,none⟩ v):=λw o v=>Ch.setCell (T:=λj=>j=b) w (a:=⟨b,o,none⟩) rfl v
 exact ((((((((((((s _ _ _).trans (s _ _ _)).trans (s _ _ _)).trans (s _ _ _)).trans (s _ _ _)).trans (s _ _ _)).trans (s _ _ _)).trans (s _ _ _)).trans (s _ _ _)).trans (s _ _ _)).trans (s _ _ _)).trans (s _ _ _)).trans (s _ _ _)
theorem frbegins_fail {b:Nat} {W:World} {r:Fr} {h:Hd} {n:Nat} (k:FrS b W r) (hk:FrOk r) (hh:headH r.inp=some (h,n)) (hm:mayH true h=false) :
  Calls prog 181 #[.pointer (some ⟨b,0,none⟩)] W (FrPost b W ({ r with st:=2,inp:=[] },some .fail)):=by
 obtain⟨w1,hw1⟩:∃ w1,W.alloc (.cells #[.int .i64 0,.int .i64 0,.bool false,.int .i64 0,.string ⟨#[]⟩] 159)=w1:=⟨_,rfl⟩
 have g1:Gr W w1:=hw1▸Gr.alloc _ _
 have hz:=hid (hw1▸evZ_new W _:EvZ W.heap.size w1)
 have k1:=k.gr g1
 have c2:=k1.c2
 have hb:=k.lt
 have hk':=hid hk
 have hh':=hid hh
 obtain⟨p,hp⟩:∃ p,r.inp=p:=⟨_,rfl⟩
 have hrh:=rhead_any2 r.inp w1 hk.1
 unfold headV at hrh
 rw[hh] at hrh
 rw[hp] at c2 hrh
 have hp':=hid hp
 have hrh:=hid hrh
 have k1':=hid k1
 have g1':=hid g1
 have hmy:=hid (λw c=>frmay_any b w h c)
 rw[hm] at hmy
 have hm':=hid hm
 obtain⟨fin,rsv,op,masked,x0,x1,x2,x3,len,least⟩:=h
 clear k k1 g1 hh hp hm hk
 unfold Hd.V at hrh hmy
 dsimp only at hrh hmy
 go_enter func181,ntmps181
 go_wp2_with fail
 refine (hrh.out).mono ?_
 rintro e w2⟨rfl,hg2⟩
 have g2:=g1'.out.trans hg2
 have k2':=hid (k1'.out.gr hg2)
 have hz2:=hid (hz.out.gr hg2)
 have g2':=hid g2
 have e0:=(k1'.out.gr hg2).c0
 have hb2:b<w2.heap.size:=(k1'.out.gr hg2).lt
 have hlt:W.heap.size<w2.heap.size:=(hz.out.gr hg2).lt
 clear hg2 c2 hz hrh g2 k1' hw1
 obtain⟨w3,hw3⟩:∃ w3,w2.alloc (.cells #[.bool fin,.int .i64 rsv,.int .i64 op,.bool masked,.int .u8 x0.toNat,.int .u8 x1.toNat,.int .u8 x2.toNat,.int .u8 x3.toNat,.int .u64 len,.bool least] 152)=w3:=⟨_,rfl⟩
 have g3:Gr w2 w3:=hw3▸Gr.alloc _ _
 have hd3:HdO w2.heap.size 0 w3 ⟨fin,rsv,op,masked,x0,x1,x2,x3,len,least⟩:=by
  rw[←hw3]
  exact⟨cell_new7 _ _ _ 0 _ rfl,cell_new7 _ _ _ 1 _ rfl,cell_new7 _ _ _ 2 _ rfl,cell_new7 _ _ _ 3 _ rfl,cell_new7 _ _ _ 4 _ rfl,cell_new7 _ _ _ 5 _ rfl,cell_new7 _ _ _ 6 _ rfl,cell_new7 _ _ _ 7 _ rfl,cell_new7 _ _ _ 8 _ rfl,cell_new7 _ _ _ 9 _ rfl⟩
 have g3':=hid g3
 have hd3':=hid hd3
 obtain⟨d0,d1,d2,d3,d4,d5,d6,d7,d8,d9⟩:=hd3
 simp only[Nat.zero_add] at d1 d2 d3 d4 d5 d6 d7 d8 d9
 have hmy3:=hid (hmy.out w3 (g3.cell e0))
 clear g3 hmy e0
 go_wp2_with fail
 refine (hmy3.out).mono ?_
 rintro e w4⟨rfl,hg4⟩
 have g4:=g3'.out.trans hg4
 have k4:=k2'.out.gr g4
 have k4':=hid k4
 have hz4:=hz2.out.gr g4
 have hg4':=hid hg4
 have g4':=hid (g2'.out.trans g4)
 have hd4:=hd3'.out.ch (hg4.to_ch (λ_=>False)) id
 have hd4':=hid hd4
 have hb4:b<w4.heap.size:=k4.lt
 have hlt4:W.heap.size<w4.heap.size:=hz4.lt
 obtain⟨z0,z1,z2,z3,z4,zf⟩:=hz4
 have hbr:b≠W.heap.size:=by omega
 have hrb:W.heap.size≠b:=by omega
 have c1:=k4.c1
 have c2:=k4.c2
 have fz:=k4.fz
 clear d0 d1 d2 d3 d4 d5 d6 d7 d8 d9 hmy3 hg4 g4 k4 hz2
 clear hd4 hd4' hd3'
 go_wp2
 refine bodyPost_ret (v:=.tuple #[Fev.V .fail,.bool true]) (by simp[results,results181,go_sem,Fev.V,z0,z1,z2,z3,z4,hlt4,hbr,hrb]) rfl ⟨rfl,?_⟩
 exact ((k4'.out.setSt 2).setInp []).told5 ((g4'.out.to_ch _).trans ((Ch.setCell (T:=λj=>j=b) _ (a:=⟨b,1,none⟩) rfl _).trans (Ch.setCell (T:=λj=>j=b) _ (a:=⟨b,2,none⟩) rfl _))) hb (Nat.le_refl _) _ _ _ _ _
theorem frbegins_ok {b:Nat} {W:World} {r:Fr} {h:Hd} {n:Nat} (k:FrS b W r) (hk:FrOk r) (hh:headH r.inp=some (h,n)) (hm:mayH true h=true) (hn:n≤r.inp.length) :
  Calls prog 181 #[.pointer (some ⟨b,0,none⟩)] W (FrPost b W ({ r with st:=1,inp:=r.inp.drop n,h:=h,told:=0 },some (.begin' h.fin h.op h.len))):=by
 obtain⟨w1,hw1⟩:∃ w1,W.alloc (.cells #[.int .i64 0,.int .i64 0,.bool false,.int .i64 0,.string ⟨#[]⟩] 159)=w1:=⟨_,rfl⟩
 have g1:Gr W w1:=hw1▸Gr.alloc _ _
 have hz:=hid (hw1▸evZ_new W _:EvZ W.heap.size w1)
 have k1:=k.gr g1
 have c2:=k1.c2
 have hb:=k.lt
 have hk':=hid hk
 have hh':=hid hh
 obtain⟨p,hp⟩:∃ p,r.inp=p:=⟨_,rfl⟩
 have hrh:=rhead_any2 r.inp w1 hk.1
 unfold headV at hrh
 rw[hh] at hrh
 rw[hp] at c2 hrh
 have hp':=hid hp
 have hrh:=hid hrh
 have k1':=hid k1
 have g1':=hid g1
 have hmy:=hid (λw c=>frmay_any b w h c)
 rw[hm] at hmy
 have hm':=hid hm
 obtain⟨fin,rsv,op,masked,x0,x1,x2,x3,len,least⟩:=h
 clear k k1 g1 hh hp hm hk
 unfold Hd.V at hrh hmy
 dsimp only at hrh hmy
 go_enter func181,ntmps181
 go_wp2_with fail
 refine (hrh.out).mono ?_
 rintro e w2⟨rfl,hg2⟩
 have g2:=g1'.out.trans hg2
 have k2':=hid (k1'.out.gr hg2)
 have hz2:=hid (hz.out.gr hg2)
 have g2':=hid g2
 have e0:=(k1'.out.gr hg2).c0
 have hb2:b<w2.heap.size:=(k1'.out.gr hg2).lt
 have hlt:W.heap.size<w2.heap.size:=(hz.out.gr hg2).lt
 clear hg2 c2 hz hrh g2 k1' hw1
 obtain⟨w3,hw3⟩:∃ w3,w2.alloc (.cells #[.bool fin,.int .i64 rsv,.int .i64 op,.bool masked,.int .u8 x0.toNat,.int .u8 x1.toNat,.int .u8 x2.toNat,.int .u8 x3.toNat,.int .u64 len,.bool least] 152)=w3:=⟨_,rfl⟩
 have g3:Gr w2 w3:=hw3▸Gr.alloc _ _
 have hd3:HdO w2.heap.size 0 w3 ⟨fin,rsv,op,masked,x0,x1,x2,x3,len,least⟩:=by
  rw[←hw3]
  exact⟨cell_new7 _ _ _ 0 _ rfl,cell_new7 _ _ _ 1 _ rfl,cell_new7 _ _ _ 2 _ rfl,cell_new7 _ _ _ 3 _ rfl,cell_new7 _ _ _ 4 _ rfl,cell_new7 _ _ _ 5 _ rfl,cell_new7 _ _ _ 6 _ rfl,cell_new7 _ _ _ 7 _ rfl,cell_new7 _ _ _ 8 _ rfl,cell_new7 _ _ _ 9 _ rfl⟩
 have g3':=hid g3
 have hd3':=hid hd3
 obtain⟨d0,d1,d2,d3,d4,d5,d6,d7,d8,d9⟩:=hd3
 simp only[Nat.zero_add] at d1 d2 d3 d4 d5 d6 d7 d8 d9
 have hmy3:=hid (hmy.out w3 (g3.cell e0))
 clear g3 hmy e0
 go_wp2_with fail
 refine (hmy3.out).mono ?_
 rintro e w4⟨rfl,hg4⟩
 have g4:=g3'.out.trans hg4
 have k4:=k2'.out.gr g4
 have k4':=hid k4
 have hz4:=hz2.out.gr g4
 have hg4':=hid hg4
 have g4':=hid (g2'.out.trans g4)
 have hd4:=hd3'.out.ch (hg4.to_ch (λ_=>False)) id
 have hd4':=hid hd4
 have hb4:b<w4.heap.size:=k4.lt
 have hlt4:W.heap.size<w4.heap.size:=hz4.lt
 obtain⟨z0,z1,z2,z3,z4,zf⟩:=hz4
 have hbr:b≠W.heap.size:=by omega
 have hrb:W.heap.size≠b:=by omega
 have c1:=k4.c1
 have c2:=k4.c2
 have fz:=k4.fz
 clear d0 d1 d2 d3 d4 d5 d6 d7 d8 d9 hmy3 hg4 g4 k4 hz2
 rw[hp'.out] at c2 hn
 have hx:(⟨p.toArray⟩:ByteArray).extract n p.length=⟨(p.drop n).toArray⟩:=by rw[extract_mk];simp
 obtain⟨a0,a1,a2,a3,a4,a5,a6,a7,a8,a9⟩:=hd4
 simp only[Nat.zero_add] at a1 a2 a3 a4 a5 a6 a7 a8 a9
 obtain⟨f0,f1,f2,f3,f4,f5,f6,f7,f8,f9⟩:=k4'.out.h
 have c13:=k4'.out.c13
 have hb23:b≠w2.heap.size:=by omega
 have h23:w2.heap.size≠b:=by omega
 go_upto_region 7 with (fail)
 go_cut [] (λwx=>FrS b wx ⟨1,p.drop n,⟨fin,rsv,op,masked,x0,x1,x2,x3,len,least⟩,0⟩∧Ch (λj=>j=b) w4 wx)
 case first =>
  clear z0 z1 z2 z3 z4 zf hlt4 hbr hrb hk' hh' hp' g1' g2' k2' g3' hg4' g4' hd4' hd3' hb hb2 hlt hw3
  go_big_region
  all_goals
   go_wp2
   go_meet
   exact⟨(k4'.out.setAll 1 (p.drop n) ⟨fin,rsv,op,masked,x0,x1,x2,x3,len,least⟩ 0).gr (Gr.drew' _),(chAll w4 _ _ _ _ _ _ _ _ _ _ _ _ _).trans (Ch.drew _ _)⟩
 case rest =>
  obtain⟨k5,hc5⟩:=hcut
  have k5':=hid k5
  have hc5':=hid hc5
  have hz5:EvZ W.heap.size wc:=(EvZ.mk z0 z1 z2 z3 z4 zf).ch hc5 hrb
  have hd5:=hd4'.out.ch hc5 h23
  have hlt5:W.heap.size<wc.heap.size:=hz5.lt
  have hl5:(len:Int)≤9223372036854775807:=by
   have h9:len≤9223372036854775807:=may_len hm'.out
   omega
  clear z0 z1 z2 z3 z4 zf a0 a1 a2 a3 a4 a5 a6 a7 a8 a9 f0 f1 f2 f3 f4 f5 f6 f7 f8 f9 c13 c1 c2 fz k5 hc5 hlt4
  obtain⟨z0,z1,z2,z3,z4,zf⟩:=hz5
  obtain⟨a0,a1,a2,a3,a4,a5,a6,a7,a8,a9⟩:=hd5
  simp only[Nat.zero_add] at a1 a2 a3 a4 a5 a6 a7 a8 a9
  have hlw:IntKind.i64.wrap (len:Int)=len:=IntWalk.i64_in _ (by omega)
  go_wp2
  refine bodyPost_ret (v:=.tuple #[Fev.V (.begin' fin op len),.bool true]) (by simp[results,results181,go_sem,Fev.V,z0,z1,z2,z3,z4,hlt5,hbr,hrb]) rfl ⟨rfl,?_⟩
  have e:=k5'.out.told5 ((g4'.out.to_ch _).trans hc5'.out) hb (Nat.le_refl _) (.int .i64 1) (.int .i64 op) (.bool fin) (.int .i64 len) (.string ⟨#[]⟩)
  rw[←hp'.out] at e
  exact e
theorem frbegins_any {b:Nat} {W:World} {r:Fr} (k:FrS b W r) (hk:FrOk r) (h0:r.st=0) :
  Calls prog 181 #[.pointer (some ⟨b,0,none⟩)] W (FrPost b W (frNext r)):=by
 unfold frNext
 rw[if_neg (by omega),if_pos h0]
 cases hh:headH r.inp with
 | none=>exact frbegins_none k hk hh
 | some x =>
  obtain⟨h,n⟩:=x
  dsimp only
  cases hm:mayH true h with
  | false=>exact frbegins_fail k hk hh hm
  | true=>exact frbegins_ok k hk hh hm (headH_le hh)
theorem fmask_later (h:Hd) (a:Nat) (s:List UInt8) (W:World) (hs:s.length≤4611686018427387900) (y:Later (Gr W)) :
  Calls prog 78 #[.agg #[.int .u8 h.k0.toNat,.int .u8 h.k1.toNat,.int .u8 h.k2.toNat,.int .u8 h.k3.toNat],.int .i64 a,.string ⟨s.toArray⟩] y.w λe w'=>e=.returned (.string ⟨(maskH h a s).toArray⟩)∧∃ z:Later (Gr W),w'=z.w :=
 Calls.later ((fmask_any h a s y.w hs).mono λ_ w' ⟨h1,h2⟩=>⟨h1,y.ok.trans h2⟩)
theorem frgoes_fin {b:Nat} {W:World} {r:Fr} (k:FrS b W r) (hk:FrOk r) (h0:r.h.len - r.told=0) :
  Calls prog 182 #[.pointer (some ⟨b,0,none⟩)] W (FrPost b W ({ r with st:=0 },some .fin)):=by
 obtain⟨w1,hw1⟩:∃ w1,W.alloc (.cells #[.int .i64 0,.int .i64 0,.bool false,.int .i64 0,.string ⟨#[]⟩] 159)=w1:=⟨_,rfl⟩
 have g1:Gr W w1:=hw1▸Gr.alloc _ _
 have hz:=hid (hw1▸evZ_new W _:EvZ W.heap.size w1)
 have k1:=k.gr g1
 have hb:=k.lt
 have hbr:b≠W.heap.size:=by omega
 have hrb:W.heap.size≠b:=by omega
 have c1:=k1.c1
 have c11:=k1.h.c8
 have c13:=k1.c13
 have fz:=k1.fz
 have hb1:b<w1.heap.size:=k1.lt
 have k1':=hid k1
 have g1':=hid g1
 obtain⟨_,hl2,hl3,_⟩:=hk
 obtain⟨ln,hln⟩:∃ n,r.h.len=n:=⟨_,rfl⟩
 obtain⟨td,htd⟩:∃ n,r.told=n:=⟨_,rfl⟩
 rw[hln] at c11 h0 hl2 hl3
 rw[htd] at c13 h0 hl3
 have hlf:(ln:Int) - td=0:=by omega
 have hlw:IntKind.i64.wrap (ln:Int)=ln:=IntWalk.i64_in _ (by omega)
 have hlI:(ln:Int)≤9223372036854775807:=by omega
 haveI:Nonempty (Later (Gr w1)):=⟨⟨w1,Gr.refl w1⟩⟩
 have t11:∀ y:Later (Gr w1),y.w.cell? ⟨b,11,none⟩=some (.int .u64 ln):=λy=>y.ok.cell c11
 have t13:∀ y:Later (Gr w1),y.w.cell? ⟨b,13,none⟩=some (.int .i64 td):=λy=>y.ok.cell c13
 clear k k1 g1 hln htd
 go_enter func182,ntmps182
 go_upto_region 1 with (fail)
 refine wp_region_later (C:=Gr w1) (by kernel_rfl) (by kernel_rfl) (Gr.drew' _) ?_
 repeat (go_big_quiet_step (fail))
 refine wpQuiet_nil ?_
 intro w9 hg9
 have d1:=hg9.cell c1
 have dz:∀ o,w9.frozen? ⟨b,o,none⟩=false:=λo=>(Below.frozen hg9 (p:=⟨b,o,none⟩) hb1).trans (fz o)
 obtain⟨z0,z1,z2,z3,z4,zf⟩:=hz.out.gr hg9
 have hlt:W.heap.size<w9.heap.size:=cell_lt z0
 have hb9:b<w9.heap.size:=cell_lt d1
 have hg9':=hid hg9
 clear t11 t13 c1 c11 c13 fz hg9
 go_wp2
 refine bodyPost_ret (v:=.tuple #[Fev.V .fin,.bool true]) (by simp[results,results182,go_sem,Fev.V,z0,z1,z2,z3,z4,hlt,hbr,hrb]) rfl ⟨rfl,?_⟩
 exact ((k1'.out.gr hg9'.out).setSt 0).told5 ((g1'.out.to_ch _).trans ((hg9'.out.to_ch _).trans (Ch.setCell (T:=λj=>j=b) _ (a:=⟨b,1,none⟩) rfl _))) hb (Nat.le_refl _) _ _ _ _ _
theorem frgoes_none {b:Nat} {W:World} {r:Fr} (k:FrS b W r) (hk:FrOk r) (h0:r.h.len - r.told≠0) (hm:min (r.h.len - r.told) r.inp.length=0) :
  Calls prog 182 #[.pointer (some ⟨b,0,none⟩)] W (FrPost b W (r,none)):=by
 obtain⟨w1,hw1⟩:∃ w1,W.alloc (.cells #[.int .i64 0,.int .i64 0,.bool false,.int .i64 0,.string ⟨#[]⟩] 159)=w1:=⟨_,rfl⟩
 have g1:Gr W w1:=hw1▸Gr.alloc _ _
 have hz:=hid (hw1▸evZ_new W _:EvZ W.heap.size w1)
 have k1:=k.gr g1
 have hb:=k.lt
 have hbr:b≠W.heap.size:=by omega
 have hrb:W.heap.size≠b:=by omega
 have c2:=k1.c2
 have c11:=k1.h.c8
 have c13:=k1.c13
 have fz:=k1.fz
 have hb1:b<w1.heap.size:=k1.lt
 have k1':=hid k1
 have g1':=hid g1
 obtain⟨hil,hl2,hl3,_⟩:=hk
 obtain⟨p,hp⟩:∃ p,r.inp=p:=⟨_,rfl⟩
 obtain⟨ln,hln⟩:∃ n,r.h.len=n:=⟨_,rfl⟩
 obtain⟨td,htd⟩:∃ n,r.told=n:=⟨_,rfl⟩
 rw[hp] at c2 hil hm
 rw[hln] at c11 h0 hl2 hl3 hm
 rw[htd] at c13 h0 hl3 hm
 obtain⟨lf,hlfd⟩:∃ n,ln - td=n:=⟨_,rfl⟩
 rw[hlfd] at h0 hm
 have hlf:(ln:Int) - td=lf:=by omega
 have hlfI:((lf:Int)==0)=false:=beq_eq_false_iff_ne.2 (by omega)
 have hlw:IntKind.i64.wrap (ln:Int)=ln:=IntWalk.i64_in _ (by omega)
 have hlw2:IntKind.i64.wrap (lf:Int)=lf:=IntWalk.i64_in _ (by omega)
 have hlI:(ln:Int)≤9223372036854775807:=by omega
 obtain⟨m,hmd⟩:∃ m,min lf p.length=m:=⟨_,rfl⟩
 have hmI:min (lf:Int) (p.length:Int)=m:=by omega
 rw[hmd] at hm
 haveI:Nonempty (Later (Gr w1)):=⟨⟨w1,Gr.refl w1⟩⟩
 have t11:∀ y:Later (Gr w1),y.w.cell? ⟨b,11,none⟩=some (.int .u64 ln):=λy=>y.ok.cell c11
 have t13:∀ y:Later (Gr w1),y.w.cell? ⟨b,13,none⟩=some (.int .i64 td):=λy=>y.ok.cell c13
 have hmp:m≤p.length:=by omega
 have hmlf:m≤lf:=by omega
 have hsumN:td+lf≤9223372036854775807:=by omega
 have hall:=hid (And.intro hp (And.intro hln (And.intro htd (And.intro hlfd hmd))))
 clear k k1 g1 hln htd hp hlfd hmd
 go_enter func182,ntmps182
 go_upto_region 1 with (fail)
 refine wp_region_later (C:=Gr w1) (by kernel_rfl) (by kernel_rfl) (Gr.drew' _) ?_
 repeat (go_big_quiet_step (fail))
 refine wpQuiet_nil ?_
 intro w9 hg9
 have d2:=hg9.cell c2
 have d13:=hg9.cell c13
 have dz:∀ o,w9.frozen? ⟨b,o,none⟩=false:=λo=>(Below.frozen hg9 (p:=⟨b,o,none⟩) hb1).trans (fz o)
 have hz9:=hz.out.gr hg9
 have k9:=k1'.out.gr hg9
 have k9':=hid k9
 have hz9':=hid hz9
 have hlt:W.heap.size<w9.heap.size:=hz9.lt
 have hb9:b<w9.heap.size:=cell_lt d2
 have hg9':=hid (g1'.out.trans hg9)
 clear t11 t13 c2 c11 c13 fz hg9 hz k1' g1' hw1
 obtain⟨z0,z1,z2,z3,z4,zf⟩:=hz9
 subst hm
 clear k9
 go_wp2
 refine bodyPost_ret (v:=.tuple #[ev0V,.bool false]) (by simp[results,results182,go_sem,ev0V,z0,z1,z2,z3,z4,hlt,hbr,hrb]) rfl ⟨rfl,?_⟩
 exact k9'.out.told5 (hg9'.out.to_ch _) hb (Nat.le_refl _) _ _ _ _ _
theorem frgoes_piece {b:Nat} {W:World} {r:Fr} (k:FrS b W r) (hk:FrOk r) (h0:r.h.len - r.told≠0) (hm:min (r.h.len - r.told) r.inp.length≠0) :
  Calls prog 182 #[.pointer (some ⟨b,0,none⟩)] W (FrPost b W ({ r with inp:=r.inp.drop (min (r.h.len - r.told) r.inp.length),told:=r.told+min (r.h.len - r.told) r.inp.length },some (.piece (maskH r.h r.told (r.inp.take (min (r.h.len - r.told) r.inp.length)))))):=by
 obtain⟨w1,hw1⟩:∃ w1,W.alloc (.cells #[.int .i64 0,.int .i64 0,.bool false,.int .i64 0,.string ⟨#[]⟩] 159)=w1:=⟨_,rfl⟩
 have g1:Gr W w1:=hw1▸Gr.alloc _ _
 have hz:=hid (hw1▸evZ_new W _:EvZ W.heap.size w1)
 have k1:=k.gr g1
 have hb:=k.lt
 have hbr:b≠W.heap.size:=by omega
 have hrb:W.heap.size≠b:=by omega
 have c2:=k1.c2
 have c11:=k1.h.c8
 have c13:=k1.c13
 have fz:=k1.fz
 have hb1:b<w1.heap.size:=k1.lt
 have k1':=hid k1
 have g1':=hid g1
 obtain⟨hil,hl2,hl3,_⟩:=hk
 obtain⟨p,hp⟩:∃ p,r.inp=p:=⟨_,rfl⟩
 obtain⟨ln,hln⟩:∃ n,r.h.len=n:=⟨_,rfl⟩
 obtain⟨td,htd⟩:∃ n,r.told=n:=⟨_,rfl⟩
 rw[hp] at c2 hil hm
 rw[hln] at c11 h0 hl2 hl3 hm
 rw[htd] at c13 h0 hl3 hm
 obtain⟨lf,hlfd⟩:∃ n,ln - td=n:=⟨_,rfl⟩
 rw[hlfd] at h0 hm
 have hlf:(ln:Int) - td=lf:=by omega
 have hlfI:((lf:Int)==0)=false:=beq_eq_false_iff_ne.2 (by omega)
 have hlw:IntKind.i64.wrap (ln:Int)=ln:=IntWalk.i64_in _ (by omega)
 have hlw2:IntKind.i64.wrap (lf:Int)=lf:=IntWalk.i64_in _ (by omega)
 have hlI:(ln:Int)≤9223372036854775807:=by omega
 obtain⟨m,hmd⟩:∃ m,min lf p.length=m:=⟨_,rfl⟩
 have hmI:min (lf:Int) (p.length:Int)=m:=by omega
 rw[hmd] at hm
 haveI:Nonempty (Later (Gr w1)):=⟨⟨w1,Gr.refl w1⟩⟩
 have t11:∀ y:Later (Gr w1),y.w.cell? ⟨b,11,none⟩=some (.int .u64 ln):=λy=>y.ok.cell c11
 have t13:∀ y:Later (Gr w1),y.w.cell? ⟨b,13,none⟩=some (.int .i64 td):=λy=>y.ok.cell c13
 have hmp:m≤p.length:=by omega
 have hmlf:m≤lf:=by omega
 have hsumN:td+lf≤9223372036854775807:=by omega
 have hall:=hid (And.intro hp (And.intro hln (And.intro htd (And.intro hlfd hmd))))
 clear k k1 g1 hln htd hp hlfd hmd
 go_enter func182,ntmps182
 go_upto_region 1 with (fail)
 refine wp_region_later (C:=Gr w1) (by kernel_rfl) (by kernel_rfl) (Gr.drew' _) ?_
 repeat (go_big_quiet_step (fail))
 refine wpQuiet_nil ?_
 intro w9 hg9
 have d2:=hg9.cell c2
 have d13:=hg9.cell c13
 have dz:∀ o,w9.frozen? ⟨b,o,none⟩=false:=λo=>(Below.frozen hg9 (p:=⟨b,o,none⟩) hb1).trans (fz o)
 have hz9:=hz.out.gr hg9
 have k9:=k1'.out.gr hg9
 have k9':=hid k9
 have hz9':=hid hz9
 have hlt:W.heap.size<w9.heap.size:=hz9.lt
 have hb9:b<w9.heap.size:=cell_lt d2
 have hg9':=hid (g1'.out.trans hg9)
 clear t11 t13 c2 c11 c13 fz hg9 hz k1' g1' hw1
 have hmz:((m:Int)==0)=false:=beq_eq_false_iff_ne.2 (by omega)
 clear hm hlf hlfI hlw hlw2 hz9
 go_upto_region 8 with (fail)
 haveI:Nonempty (Later (Gr w9)):=⟨⟨w9,Gr.refl w9⟩⟩
 obtain⟨f0,f1,f2,f3,f4,f5,f6,f7,f8,f9⟩:=k9'.out.h
 have u4:∀ y:Later (Gr w9),y.w.cell? ⟨b,7,none⟩=some (.int .u8 r.h.k0.toNat):=λy=>y.ok.cell f4
 have u5:∀ y:Later (Gr w9),y.w.cell? ⟨b,8,none⟩=some (.int .u8 r.h.k1.toNat):=λy=>y.ok.cell f5
 have u6:∀ y:Later (Gr w9),y.w.cell? ⟨b,9,none⟩=some (.int .u8 r.h.k2.toNat):=λy=>y.ok.cell f6
 have u7:∀ y:Later (Gr w9),y.w.cell? ⟨b,10,none⟩=some (.int .u8 r.h.k3.toNat):=λy=>y.ok.cell f7
 have u2:∀ y:Later (Gr w9),y.w.cell? ⟨b,2,none⟩=some (.string ⟨p.toArray⟩):=λy=>y.ok.cell d2
 have u13:∀ y:Later (Gr w9),y.w.cell? ⟨b,13,none⟩=some (.int .i64 td):=λy=>y.ok.cell d13
 have hx1:(⟨p.toArray⟩:ByteArray).extract 0 m=⟨(p.take m).toArray⟩:=by rw[extract_mk];simp
 have hmk:=hid (fmask_later r.h td (p.take m) w9 (by rw[List.length_take];omega))
 obtain⟨q,hq⟩:∃ q,maskH r.h td (p.take m)=q:=⟨_,rfl⟩
 rw[hq] at hmk
 have hq':=hid hq
 clear f0 f1 f2 f3 f4 f5 f6 f7 f8 f9 hq d2 d13 k9
 refine wp_region_later (C:=Gr w9) (by kernel_rfl) (by kernel_rfl) (Gr.drew' _) ?_
 repeat (go_big_quiet_step (with_reducible exact hmk.out _))
 refine wpQuiet_nil ?_
 intro wa hga
 have ka:=k9'.out.gr hga
 have hza:=hz9'.out.gr hga
 have e2:wa.cell? ⟨b,2,none⟩=some (.string ⟨p.toArray⟩):=u2 ⟨wa,hga⟩
 have e13:wa.cell? ⟨b,13,none⟩=some (.int .i64 td):=u13 ⟨wa,hga⟩
 have ez:=ka.fz
 have hba:b<wa.heap.size:=ka.lt
 have ka':=hid ka
 have hza':=hid hza
 have hga':=hid (hg9'.out.trans hga)
 have hx2:(⟨p.toArray⟩:ByteArray).extract m p.length=⟨(p.drop m).toArray⟩:=by rw[extract_mk];simp
 have hsum:IntKind.i64.wrap ((td:Int)+m)=(td:Int)+m:=IntWalk.i64_in _ (by omega)
 clear u2 u4 u5 u6 u7 u13 hmk ka hza hga hg9' k9' hz9' dz hb9 hlt hx1
 go_upto_region 9 with (fail)
 go_cut [] (λwx=>FrS b wx { r with inp:=p.drop m,told:=td+m }∧Ch (λj=>j=b) wa wx)
 case first =>
  clear hall hq' hza' hga' hb hbr hrb hmz hmI
  go_big_region
  all_goals
   go_wp2
   go_meet
   exact⟨((ka'.out.setInp (p.drop m)).setTold (td+m)).gr (Gr.drew' _),((Ch.setCell (T:=λj=>j=b) _ (a:=⟨b,2,none⟩) rfl _).trans (Ch.setCell (T:=λj=>j=b) _ (a:=⟨b,13,none⟩) rfl _)).trans (Ch.drew _ _)⟩
 case rest =>
  obtain⟨kc,hc⟩:=hcut
  obtain⟨z0,z1,z2,z3,z4,zf⟩:=hza'.out.ch hc hrb
  have hltc:W.heap.size<wc.heap.size:=cell_lt z0
  have kc':=hid kc
  have hc':=hid hc
  clear kc hc e2 e13 ez
  go_wp2
  refine bodyPost_ret (v:=.tuple #[Fev.V (.piece q),.bool true]) (by simp[results,results182,go_sem,Fev.V,z0,z1,z2,z3,z4,hltc,hbr,hrb]) rfl ?_
  obtain⟨hp,hln,htd,hlfd,hmd⟩:=hall.out
  rw[hp,hln,htd,hlfd,hmd,hq'.out]
  exact⟨rfl,kc'.out.told5 ((hga'.out.to_ch _).trans hc'.out) hb (Nat.le_refl _) (.int .i64 2) (.int .i64 0) (.bool false) (.int .i64 0) (.string ⟨q.toArray⟩)⟩
theorem frgoes_any {b:Nat} {W:World} {r:Fr} (k:FrS b W r) (hk:FrOk r) (h2:r.st≠2) (h0:r.st≠0) :
  Calls prog 182 #[.pointer (some ⟨b,0,none⟩)] W (FrPost b W (frNext r)):=by
 unfold frNext
 rw[if_neg h2,if_neg h0]
 by_cases h:r.h.len - r.told=0
 ·rw[if_pos h];exact frgoes_fin k hk h
 ·rw[if_neg h]
  by_cases hm:min (r.h.len - r.told) r.inp.length=0
  ·rw[if_pos hm];exact frgoes_none k hk h hm
  ·rw[if_neg hm];exact frgoes_piece k hk h hm
