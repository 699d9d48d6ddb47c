/-
  Walks over package sha: the words behind a block.
-/
import Derived.Test.YtadobobfjnmdlaaGreatDoorEe
set_option linter.unnecessarySimpa false
set_option linter.unusedVariables false
set_option linter.unusedSimpArgs false
set_option maxHeartbeats 16000000
set_option maxRecDepth 100000
open Go.Lib (hid)
open Go.Proofs.Tryz
namespace Go.Proofs.YtadobobfjnmdlaaGreatDoor
open Go.RowKit
attribute [local go_sem] Oper.semAt_some
structure St5 (W:World) (k:Nat) (x:W5):Prop where
 c0:W.cell? ⟨k,0,none⟩=some (.int .u32 x.a)
 c1:W.cell? ⟨k,1,none⟩=some (.int .u32 x.b)
 c2:W.cell? ⟨k,2,none⟩=some (.int .u32 x.c)
 c3:W.cell? ⟨k,3,none⟩=some (.int .u32 x.d)
 c4:W.cell? ⟨k,4,none⟩=some (.int .u32 x.e)
 fz:∀ o,W.frozen? ⟨k,o,none⟩=false
theorem St5.gr {W W':World} {k:Nat} {x:W5} (h:St5 W k x) (hg:Gr W W'):St5 W' k x :=
 ⟨hg.cell h.c0,hg.cell h.c1,hg.cell h.c2,hg.cell h.c3,hg.cell h.c4,λo=>(Below.frozen hg (p:=⟨k,o,none⟩) (show k<_ from cell_lt h.c0)).trans (h.fz o)⟩
theorem St5.fresh (W:World) (x:W5) (t:TypeId):St5 (W.alloc (.cells #[.int .u32 x.a,.int .u32 x.b,.int .u32 x.c,.int .u32 x.d,.int .u32 x.e] t)) W.heap.size x :=
 ⟨cell_new7 _ [.int .u32 x.a,.int .u32 x.b,.int .u32 x.c,.int .u32 x.d,.int .u32 x.e] _ 0 _ rfl,cell_new7 _ [.int .u32 x.a,.int .u32 x.b,.int .u32 x.c,.int .u32 x.d,.int .u32 x.e] _ 1 _ rfl,cell_new7 _ [.int .u32 x.a,.int .u32 x.b,.int .u32 x.c,.int .u32 x.d,.int .u32 x.e] _ 2 _ rfl,cell_new7 _ [.int .u32 x.a,.int .u32 x.b,.int .u32 x.c,.int .u32 x.d,.int .u32 x.e] _ 3 _ rfl,cell_new7 _ [.int .u32 x.a,.int .u32 x.b,.int .u32 x.c,.int .u32 x.d,.int .u32 x.e] _ 4 _ rfl,λo=>World.frozen?_alloc_at _ _ _ _ rfl⟩
theorem St5.range {W:World} {k:Nat} {x:W5} (h:St5 W k x):W.rangeAt k 0 [.int .u32 x.a,.int .u32 x.b,.int .u32 x.c,.int .u32 x.d,.int .u32 x.e]:=λj v hv=>by
 rw[Nat.zero_add]
 match j,hv with
 | 0,hv=>exact h.c0.trans hv
 | 1,hv=>exact h.c1.trans hv
 | 2,hv=>exact h.c2.trans hv
 | 3,hv=>exact h.c3.trans hv
 | 4,hv=>exact h.c4.trans hv
 | n+5,hv=>simp at hv
def W5.at (x:W5):Nat→Nat
 | 0=>x.a | 1=>x.b | 2=>x.c | 3=>x.d | _=>x.e
theorem St5.at {W:World} {k:Nat} {x:W5} (h:St5 W k x):∀ j,j<5→W.cell? ⟨k,j,none⟩=some (.int .u32 (x.at j))
 | 0,_=>h.c0 | 1,_=>h.c1 | 2,_=>h.c2 | 3,_=>h.c3 | 4,_=>h.c4
 | n+5,hn=>by omega
theorem rot5_later (C:World→Prop) {x r:Nat} (hr:rotW 5 x=r) (hx:x<4294967296) (y:Later C) :
  Calls prog 269 #[.int .u32 x,.int .i64 5] y.w λe w'=>e=.returned (.int .u32 r)∧∃ z:Later C,w'=z.w :=
 Calls.later ((rot5_any x hx y.w).mono λ_ _ ⟨h1,h2⟩=>⟨hr▸h1,h2▸y.ok⟩)
theorem rot30_later (C:World→Prop) {x r:Nat} (hr:rotW 30 x=r) (hx:x<4294967296) (y:Later C) :
  Calls prog 269 #[.int .u32 x,.int .i64 30] y.w λe w'=>e=.returned (.int .u32 r)∧∃ z:Later C,w'=z.w :=
 Calls.later ((rot30_any x hx y.w).mono λ_ _ ⟨h1,h2⟩=>⟨hr▸h1,h2▸y.ok⟩)
theorem addI (a b:Nat):((a:Int)+b) % 4294967296=(addW a b:Int):=by unfold addW;rw[Int.natCast_emod];rfl
theorem addV (a b:Nat):IntKind.u32.wrap ((a:Int)+b)=(addW a b:Int):=by rw[Go.IntKind.wrap_u32',addI]
theorem cells_plus {wr:World} {b n z m:Nat} {f g:Nat→Nat} (hc:∀ j,j<m→wr.cell? ⟨b,j,none⟩=some (.int .u32 ((if j<n then addW (f j) (g j) else f j:Nat):Int))) (hn:n<m) (hz:addW (f n) (g n)=z) :
  ∀ j,j<m→(wr.setCell ⟨b,n,none⟩ (.int .u32 z)).cell? ⟨b,j,none⟩=some (.int .u32 ((if j<n+1 then addW (f j) (g j) else f j:Nat):Int)):=λj hj=>by
 by_cases h:j=n
 ·subst h;rw[if_pos (by omega),hz];exact cell_set_same (hc j hj)
 ·rw[cell_off (hc j hj) h]
  by_cases h2:j<n
  ·rw[if_pos h2,if_pos (by omega)]
  ·rw[if_neg h2,if_neg (by omega)]
theorem St5.set {W:World} {k:Nat} {x:W5} (h:St5 W k x) (y:W5):St5 (((((W.setCell ⟨k,0,none⟩ (.int .u32 y.a)).setCell ⟨k,1,none⟩ (.int .u32 y.b)).setCell ⟨k,2,none⟩ (.int .u32 y.c)).setCell ⟨k,3,none⟩ (.int .u32 y.d)).setCell ⟨k,4,none⟩ (.int .u32 y.e)) k y:=by
 refine⟨?_,?_,?_,?_,?_,λo=>frozen_set.trans (frozen_set.trans (frozen_set.trans (frozen_set.trans (frozen_set.trans (h.fz o)))))⟩
 ·exact cell_off (cell_off (cell_off (cell_off (cell_set_same h.c0) (by decide)) (by decide)) (by decide)) (by decide)
 ·exact cell_off (cell_off (cell_off (cell_set_same (cell_off h.c1 (by decide))) (by decide)) (by decide)) (by decide)
 ·exact cell_off (cell_off (cell_set_same (cell_off (cell_off h.c2 (by decide)) (by decide))) (by decide)) (by decide)
 ·exact cell_off (cell_set_same (cell_off (cell_off (cell_off h.c3 (by decide)) (by decide)) (by decide))) (by decide)
 ·exact cell_set_same (cell_off (cell_off (cell_off (cell_off h.c4 (by decide)) (by decide)) (by decide)) (by decide))
theorem St5.apart {W:World} {k:Nat} {x:W5} (h:St5 W k x) {a:Addr} (ha:a.block≠k) (v:Value):St5 (W.setCell a v) k x :=
 ⟨cell_set_other h.c0 ha,cell_set_other h.c1 ha,cell_set_other h.c2 ha,cell_set_other h.c3 ha,cell_set_other h.c4 ha,λo=>frozen_set.trans (h.fz o)⟩
theorem after_any (x:W5) (s:List UInt8) (hs:s.length=64) (hx:x.ok) (w:World) :
  Calls prog 247 #[w5V x,.string ⟨s.toArray⟩] w λe w'=>e=.returned (w5V (comp5 x s))∧Gr w w':=by
 have hs':=hid hs
 have hx':=hid hx
 clear hs hx
 unfold w5V
 obtain⟨xa,xb,xc,xd,xe⟩:=x
 dsimp only
 go_enter func247,ntmps247
 go_wp2_with fail
 refine (schedule_any s hs'.out _).mono ?_
 rintro e w1⟨rfl,hg⟩
 have q0:=hid ((((St5.fresh w ⟨xa,xb,xc,xd,xe⟩ 277).gr (Gr.alloc _ _)).gr (Gr.alloc _ _)).gr hg)
 have q1:=hid (((St5.fresh (w.alloc (.cells #[.int .u32 xa,.int .u32 xb,.int .u32 xc,.int .u32 xd,.int .u32 xe] 277)) ⟨0,0,0,0,0⟩ 277).gr (Gr.alloc _ _)).gr hg)
 have q2:=hid ((St5.fresh ((w.alloc (.cells #[.int .u32 xa,.int .u32 xb,.int .u32 xc,.int .u32 xd,.int .u32 xe] 277)).alloc (.cells #[.int .u32 (0:Nat),.int .u32 (0:Nat),.int .u32 (0:Nat),.int .u32 (0:Nat),.int .u32 (0:Nat)] 277)) ⟨xa,xb,xc,xd,xe⟩ 277).gr hg)
 have g1:=hid (((((Gr.refl w).alloc1 _).alloc1 _).alloc1 _).trans hg)
 clear hg
 simp only[World.size_alloc] at q1 q2
 obtain⟨b0,hb0⟩:∃ b,w.heap.size=b:=⟨_,rfl⟩
 rw[hb0] at q0 q1 q2
 obtain⟨b1,hb1⟩:∃ b,b0+1=b:=⟨_,rfl⟩
 rw[hb1] at q1 q2
 obtain⟨b2,hb2⟩:∃ b,b1+1=b:=⟨_,rfl⟩
 rw[hb2] at q2
 have hb0':=hid hb0
 have hb1':=hid hb1
 have hb2':=hid hb2
 obtain⟨x,hxx⟩:∃ x:W5,⟨xa,xb,xc,xd,xe⟩=x:=⟨_,rfl⟩
 rw[hxx] at hx' q0 q2
 go_wp2
 clear hb0 hb1 hb2
 go_loopw [14] (λi wr=>∃ t:Nat,t≤80∧i=.int .i64 t∧St5 wr b2 (roundsW s x t)∧St5 wr b0 x∧St5 wr b1 ⟨0,0,0,0,0⟩∧Gr w wr) (λi _=>80 - (intOf i).toNat)
 case atStart=>exact⟨0,by omega,rfl,q2.out,q0.out,q1.out,g1.out⟩
 case round =>
  obtain⟨t,ht,rfl,hr,h0,h1,hg⟩:=hrel
  have hr':=hid hr
  have h0':=hid h0
  have h1':=hid h1
  have hg':=hid hg
  clear hr h0 h1 hg
  by_cases h80:t<80
  ·have h80I:(t:Int)<80:=by omega
   obtain⟨W,hW⟩:∃ W,wS s t=W:=⟨_,rfl⟩
   have hidx:(Instr.index 296 (wordsV s) (.int .i64 t)).run prog wr=.ok (.int .u32 W) wr :=
    run_index_agg wr _ _ _ underlying296 (isAgg234 wr) (sizeOf234 wr) h80 (by simp[h80,hW])
   obtain⟨r,hrr⟩:∃ r,roundsW s x t=r:=⟨_,rfl⟩
   have hok:=rounds_ok s hx'.out t
   rw[hrr] at hr' hok
   have hnext:roundsW s x (t+1)=roundW t W r:=by rw[roundsW,hrr,hW]
   obtain⟨ra,rb,rc,rd,re⟩:=r
   obtain⟨ok1,ok2,ok3,ok4,ok5⟩:=hok
   dsimp only at ok1 ok2 ok3 ok4 ok5
   obtain⟨F,hF⟩:∃ F,mixF t rb rc rd=F:=⟨_,rfl⟩
   obtain⟨K,hK⟩:∃ K,mixK t=K:=⟨_,rfl⟩
   obtain⟨A,hA⟩:∃ A,rotW 5 ra=A:=⟨_,rfl⟩
   obtain⟨B,hB⟩:∃ B,rotW 30 rb=B:=⟨_,rfl⟩
   obtain⟨s1,hs1⟩:∃ q,addW A F=q:=⟨_,rfl⟩
   obtain⟨s2,hs2⟩:∃ q,addW s1 re=q:=⟨_,rfl⟩
   obtain⟨s3,hs3⟩:∃ q,addW s2 K=q:=⟨_,rfl⟩
   obtain⟨s4,hs4⟩:∃ q,addW s3 W=q:=⟨_,rfl⟩
   have hnext':=hid (show roundsW s x (t+1)=⟨s4,ra,B,rc,rd⟩ by rw[hnext];unfold roundW;rw[hA,hF,hs1,hs2,hK,hs3,hs4,hB])
   have u1:IntKind.u32.wrap ((A:Int)+F)=s1:=by rw[addV,hs1]
   have u2:IntKind.u32.wrap ((s1:Int)+re)=s2:=by rw[addV,hs2]
   have u3:IntKind.u32.wrap ((s2:Int)+K)=s3:=by rw[addV,hs3]
   have u4:IntKind.u32.wrap ((s3:Int)+W)=s4:=by rw[addV,hs4]
   have hA':=hid hA
   have hB':=hid hB
   have hmix:=hid (λw0=>mixed_any t rb rc rd h80 ok2 ok3 ok4 w0)
   rw[hF,hK] at hmix
   have ok1':=hid ok1
   have ok2':=hid ok2
   have e0:=hr'.out.c0
   have e1:=hr'.out.c1
   have e2:=hr'.out.c2
   have e3:=hr'.out.c3
   have e4:=hr'.out.c4
   dsimp only at e0 e1 e2 e3 e4
   clear hW hrr hnext hF hK hA hB hs1 hs2 hs3 hs4 ok1 ok2 ok3 ok4 ok5
   go_wp2_with fail
   refine (hmix.out _).mono ?_
   rintro e w2⟨rfl,rfl⟩
   go_upto_region 6 with (fail)
   have t0:∀ y:Later (Gr wr),y.w.cell? ⟨b2,0,none⟩=some (.int .u32 ra):=λy=>y.ok.cell e0
   have t1:∀ y:Later (Gr wr),y.w.cell? ⟨b2,1,none⟩=some (.int .u32 rb):=λy=>y.ok.cell e1
   have t2:∀ y:Later (Gr wr),y.w.cell? ⟨b2,2,none⟩=some (.int .u32 rc):=λy=>y.ok.cell e2
   have t3:∀ y:Later (Gr wr),y.w.cell? ⟨b2,3,none⟩=some (.int .u32 rd):=λy=>y.ok.cell e3
   have t4:∀ y:Later (Gr wr),y.w.cell? ⟨b2,4,none⟩=some (.int .u32 re):=λy=>y.ok.cell e4
   haveI:Nonempty (Later (Gr wr)):=⟨⟨wr,Gr.refl wr⟩⟩
   refine wp_region_later_tail (C:=Gr wr) 22 (by kernel_rfl) (by kernel_rfl) (Gr.drew' _) ?_
   simp only[List.take_succ_cons,List.take_zero,List.drop_succ_cons,List.drop_zero]
   repeat (go_big_quiet_step (first | with_reducible exact rot5_later _ hA'.out ok1'.out _ | with_reducible exact rot30_later _ hB'.out ok2'.out _))
   refine wpQuiet_nil ?_
   intro w9 hg9
   have hr9:=hid (hr'.out.gr hg9)
   have h09:=hid (h0'.out.gr hg9)
   have h19:=hid (h1'.out.gr hg9)
   have hg9':=hid (hg'.out.trans hg9)
   clear hg9 t0 t1 t2 t3 t4 e0 e1 e2 e3 e4 u1 u2 u3 u4
   have e0:=hr9.out.c0
   have e1:=hr9.out.c1
   have e2:=hr9.out.c2
   have e3:=hr9.out.c3
   have e4:=hr9.out.c4
   have f0:=hr9.out.fz 0
   have f1:=hr9.out.fz 1
   have f2:=hr9.out.fz 2
   have f3:=hr9.out.fz 3
   have f4:=hr9.out.fz 4
   dsimp only at e0 e1 e2 e3 e4
   have hne0:=hid (show b2≠b0 by have:=hb1'.out;have:=hb2'.out;omega)
   have hne1:=hid (show b2≠b1 by have:=hb2'.out;omega)
   have hbb:=hid (show w.heap.size≤b2 by have:=hb0'.out;have:=hb1'.out;have:=hb2'.out;omega)
   go_wp2
   go_roundw
   case rel =>
    refine⟨t+1,by omega,by go_num,?_,((((h09.out.apart hne0.out _).apart hne0.out _).apart hne0.out _).apart hne0.out _).apart hne0.out _,((((h19.out.apart hne1.out _).apart hne1.out _).apart hne1.out _).apart hne1.out _).apart hne1.out _,((((hg9'.out.setCell hbb.out _).setCell hbb.out _).setCell hbb.out _).setCell hbb.out _).setCell hbb.out _⟩
    rw[hnext'.out];exact hr9.out.set ⟨s4,ra,B,rc,rd⟩
   case measure=>simp[intOf];omega
  ·obtain rfl:t=80:=by omega
   obtain⟨y,hy⟩:∃ y,roundsW s x 80=y:=⟨_,rfl⟩
   rw[hy] at hr'
   have hcomp:=hid (show comp5 x s=plus5 x y by unfold comp5;rw[hy])
   clear hy
   go_wp2
   go_loopw [52] (λi wx=>∃ n:Nat,n≤5∧i=.int .i64 n∧(∀ j,j<5→wx.cell? ⟨b0,j,none⟩=some (.int .u32 ((if j<n then addW (x.at j) (y.at j) else x.at j:Nat):Int)))∧(∀ o,wx.frozen? ⟨b0,o,none⟩=false)∧St5 wx b2 y∧St5 wx b1 ⟨0,0,0,0,0⟩∧Gr w wx) (λi _=>5 - (intOf i).toNat)
   case atStart=>exact⟨0,by omega,rfl,h0'.out.at,h0'.out.fz,hr'.out,h1'.out,hg'.out⟩
   case round =>
    obtain⟨n,hn,rfl,k0,k1,k2,k3,k4⟩:=hrel
    have k0':=hid k0
    have k1':=hid k1
    have k2':=hid k2
    have k3':=hid k3
    have k4':=hid k4
    clear k0 k1 k2 k3 k4
    by_cases hn5:n<5
    ·have hn5I:(n:Int)<5:=by omega
     have e0:=k0'.out n hn5
     rw[if_neg (by omega)] at e0
     have e2:=k2'.out.at n hn5
     have hbl:b0<wr.heap.size:=cell_lt e0
     obtain⟨p,hp⟩:∃ p,x.at n=p:=⟨_,rfl⟩
     obtain⟨q,hq⟩:∃ q,y.at n=q:=⟨_,rfl⟩
     obtain⟨z,hz⟩:∃ z,addW p q=z:=⟨_,rfl⟩
     rw[hp] at e0
     rw[hq] at e2
     have u1:IntKind.u32.wrap ((p:Int)+q)=z:=by rw[addV,hz]
     have hzz:=hid (show addW (x.at n) (y.at n)=z by rw[hp,hq,hz])
     clear hp hq hz
     go_upto_region 11 with (fail)
     have t0:∀ v:Later (Gr wr),v.w.cell? ⟨b0,n,none⟩=some (.int .u32 p):=λv=>v.ok.cell e0
     have t2:∀ v:Later (Gr wr),v.w.cell? ⟨b2,n,none⟩=some (.int .u32 q):=λv=>v.ok.cell e2
     haveI:Nonempty (Later (Gr wr)):=⟨⟨wr,Gr.refl wr⟩⟩
     refine wp_region_later_tail (C:=Gr wr) 8 (by kernel_rfl) (by kernel_rfl) (Gr.drew' _) ?_
     simp only[List.take_succ_cons,List.take_zero,List.drop_succ_cons,List.drop_zero]
     repeat (go_big_quiet_step (fail))
     refine wpQuiet_nil ?_
     intro w9 hg9
     have hc9:=hid (λj (hj:j<5)=>hg9.cell (k0'.out j hj))
     have hf9:=hid (λj=>(Below.frozen hg9 (p:=⟨b0,j,none⟩) hbl).trans (k1'.out j))
     have h29:=hid (k2'.out.gr hg9)
     have h19:=hid (k3'.out.gr hg9)
     have hg9':=hid (k4'.out.trans hg9)
     have e9:=hg9.cell e0
     have f9:=hf9.out n
     have hne0:=hid (show b0≠b2 by have:=hb1'.out;have:=hb2'.out;omega)
     have hne1:=hid (show b0≠b1 by have:=hb1'.out;omega)
     clear hg9 t0 t2 e0 e2 u1
     go_wp2
     go_roundw
     case rel=>exact⟨n+1,by omega,by go_num,cells_plus hc9.out hn5 hzz.out,λj=>frozen_set.trans (hf9.out j),h29.out.apart hne0.out _,h19.out.apart hne1.out _,hg9'.out.setCell (Nat.le_of_eq hb0'.out) _⟩
     case measure=>simp[intOf];omega
    ·obtain rfl:n=5:=by omega
     have e0:=k0'.out 0 (by decide)
     have e1:=k0'.out 1 (by decide)
     have e2:=k0'.out 2 (by decide)
     have e3:=k0'.out 3 (by decide)
     have e4:=k0'.out 4 (by decide)
     rw[if_pos (by decide)] at e0 e1 e2 e3 e4
     obtain⟨p0,hp0⟩:∃ p,addW (x.at 0) (y.at 0)=p:=⟨_,rfl⟩
     obtain⟨p1,hp1⟩:∃ p,addW (x.at 1) (y.at 1)=p:=⟨_,rfl⟩
     obtain⟨p2,hp2⟩:∃ p,addW (x.at 2) (y.at 2)=p:=⟨_,rfl⟩
     obtain⟨p3,hp3⟩:∃ p,addW (x.at 3) (y.at 3)=p:=⟨_,rfl⟩
     obtain⟨p4,hp4⟩:∃ p,addW (x.at 4) (y.at 4)=p:=⟨_,rfl⟩
     rw[hp0] at e0
     rw[hp1] at e1
     rw[hp2] at e2
     rw[hp3] at e3
     rw[hp4] at e4
     have hres:=hid (show w5V (comp5 x s)=.agg #[.int .u32 p0,.int .u32 p1,.int .u32 p2,.int .u32 p3,.int .u32 p4] by rw[hcomp.out,←hp0,←hp1,←hp2,←hp3,←hp4];rfl)
     clear hp0 hp1 hp2 hp3 hp4
     have r0:=k3'.out.c0
     have r1:=k3'.out.c1
     have r2:=k3'.out.c2
     have r3:=k3'.out.c3
     have r4:=k3'.out.c4
     have f0:=k3'.out.fz 0
     have f1:=k3'.out.fz 1
     have f2:=k3'.out.fz 2
     have f3:=k3'.out.fz 3
     have f4:=k3'.out.fz 4
     dsimp only at r0 r1 r2 r3 r4
     have hbb:=hid (show w.heap.size≤b1 by have:=hb0'.out;have:=hb1'.out;omega)
     go_wp2
     have hfin:=k3'.out.set ⟨p0,p1,p2,p3,p4⟩
     refine bodyPost_ret (results_cell rfl rfl (run_loadVar_mid _ b1 0 277 _ _ hfin.range underlying277 rfl (by kernel_rfl))) rfl ⟨?_,((((k4'.out.setCell hbb.out _).setCell hbb.out _).setCell hbb.out _).setCell hbb.out _).setCell hbb.out _⟩
     show Ending.returned _=Ending.returned (w5V (comp5 ⟨xa,xb,xc,xd,xe⟩ s))
     rw[hxx,hres.out]
structure HashAt (b:Nat) (W:World) (bg:Bool) (h:W5) (rest:List UInt8) (n:Nat):Prop where
 c0:W.cell? ⟨b,0,none⟩=some (.bool bg)
 c1:W.cell? ⟨b,1,none⟩=some (.int .u32 h.a)
 c2:W.cell? ⟨b,2,none⟩=some (.int .u32 h.b)
 c3:W.cell? ⟨b,3,none⟩=some (.int .u32 h.c)
 c4:W.cell? ⟨b,4,none⟩=some (.int .u32 h.d)
 c5:W.cell? ⟨b,5,none⟩=some (.int .u32 h.e)
 c6:W.cell? ⟨b,6,none⟩=some (.string ⟨rest.toArray⟩)
 c7:W.cell? ⟨b,7,none⟩=some (.int .i64 n)
 fz:∀ o,W.frozen? ⟨b,o,none⟩=false
section
variable {b:Nat} {W W':World} {bg:Bool} {h:W5} {rest:List UInt8} {n:Nat}
theorem HashAt.gr (H:HashAt b W bg h rest n) (hg:Gr W W'):HashAt b W' bg h rest n :=
 ⟨hg.cell H.c0,hg.cell H.c1,hg.cell H.c2,hg.cell H.c3,hg.cell H.c4,hg.cell H.c5,hg.cell H.c6,hg.cell H.c7,λo=>(Below.frozen hg (p:=⟨b,o,none⟩) (show b<_ from cell_lt H.c0)).trans (H.fz o)⟩
theorem HashAt.set0 (H:HashAt b W bg h rest n) (v:Bool):HashAt b (W.setCell ⟨b,0,none⟩ (.bool v)) v h rest n :=
 ⟨cell_set_same H.c0,cell_off H.c1 (by decide),cell_off H.c2 (by decide),cell_off H.c3 (by decide),cell_off H.c4 (by decide),cell_off H.c5 (by decide),cell_off H.c6 (by decide),cell_off H.c7 (by decide),λo=>frozen_set.trans (H.fz o)⟩
theorem HashAt.set1 (H:HashAt b W bg h rest n) (v:Nat):HashAt b (W.setCell ⟨b,1,none⟩ (.int .u32 v)) bg { h with a:=v } rest n :=
 ⟨cell_off H.c0 (by decide),cell_set_same H.c1,cell_off H.c2 (by decide),cell_off H.c3 (by decide),cell_off H.c4 (by decide),cell_off H.c5 (by decide),cell_off H.c6 (by decide),cell_off H.c7 (by decide),λo=>frozen_set.trans (H.fz o)⟩
theorem HashAt.set2 (H:HashAt b W bg h rest n) (v:Nat):HashAt b (W.setCell ⟨b,2,none⟩ (.int .u32 v)) bg { h with b:=v } rest n :=
 ⟨cell_off H.c0 (by decide),cell_off H.c1 (by decide),cell_set_same H.c2,cell_off H.c3 (by decide),cell_off H.c4 (by decide),cell_off H.c5 (by decide),cell_off H.c6 (by decide),cell_off H.c7 (by decide),λo=>frozen_set.trans (H.fz o)⟩
theorem HashAt.set3 (H:HashAt b W bg h rest n) (v:Nat):HashAt b (W.setCell ⟨b,3,none⟩ (.int .u32 v)) bg { h with c:=v } rest n :=
 ⟨cell_off H.c0 (by decide),cell_off H.c1 (by decide),cell_off H.c2 (by decide),cell_set_same H.c3,cell_off H.c4 (by decide),cell_off H.c5 (by decide),cell_off H.c6 (by decide),cell_off H.c7 (by decide),λo=>frozen_set.trans (H.fz o)⟩
theorem HashAt.set4 (H:HashAt b W bg h rest n) (v:Nat):HashAt b (W.setCell ⟨b,4,none⟩ (.int .u32 v)) bg { h with d:=v } rest n :=
 ⟨cell_off H.c0 (by decide),cell_off H.c1 (by decide),cell_off H.c2 (by decide),cell_off H.c3 (by decide),cell_set_same H.c4,cell_off H.c5 (by decide),cell_off H.c6 (by decide),cell_off H.c7 (by decide),λo=>frozen_set.trans (H.fz o)⟩
theorem HashAt.set5 (H:HashAt b W bg h rest n) (v:Nat):HashAt b (W.setCell ⟨b,5,none⟩ (.int .u32 v)) bg { h with e:=v } rest n :=
 ⟨cell_off H.c0 (by decide),cell_off H.c1 (by decide),cell_off H.c2 (by decide),cell_off H.c3 (by decide),cell_off H.c4 (by decide),cell_set_same H.c5,cell_off H.c6 (by decide),cell_off H.c7 (by decide),λo=>frozen_set.trans (H.fz o)⟩
theorem HashAt.set6 (H:HashAt b W bg h rest n) (v:List UInt8):HashAt b (W.setCell ⟨b,6,none⟩ (.string ⟨v.toArray⟩)) bg h v n :=
 ⟨cell_off H.c0 (by decide),cell_off H.c1 (by decide),cell_off H.c2 (by decide),cell_off H.c3 (by decide),cell_off H.c4 (by decide),cell_off H.c5 (by decide),cell_set_same H.c6,cell_off H.c7 (by decide),λo=>frozen_set.trans (H.fz o)⟩
theorem HashAt.set7 (H:HashAt b W bg h rest n) (v:Nat):HashAt b (W.setCell ⟨b,7,none⟩ (.int .i64 v)) bg h rest v :=
 ⟨cell_off H.c0 (by decide),cell_off H.c1 (by decide),cell_off H.c2 (by decide),cell_off H.c3 (by decide),cell_off H.c4 (by decide),cell_off H.c5 (by decide),cell_off H.c6 (by decide),cell_set_same H.c7,λo=>frozen_set.trans (H.fz o)⟩
def setH (W:World) (b:Nat) (x:W5):World:=((((W.setCell ⟨b,1,none⟩ (.int .u32 x.a)).setCell ⟨b,2,none⟩ (.int .u32 x.b)).setCell ⟨b,3,none⟩ (.int .u32 x.c)).setCell ⟨b,4,none⟩ (.int .u32 x.d)).setCell ⟨b,5,none⟩ (.int .u32 x.e)
theorem HashAt.setH (H:HashAt b W bg h rest n) (x:W5):HashAt b (setH W b x) bg x rest n :=
 ((((H.set1 x.a).set2 x.b).set3 x.c).set4 x.d).set5 x.e
theorem ch_set (W:World) (b o:Nat) (v:Value):Ch (·=b) W (W.setCell ⟨b,o,none⟩ v):=Ch.setCell (T:=(·=b)) W (a:=⟨b,o,none⟩) rfl v
theorem ch_setH (W:World) (b:Nat) (x:W5):Ch (·=b) W (Go.Proofs.YtadobobfjnmdlaaGreatDoor.setH W b x) :=
 ((((ch_set _ _ _ _).trans (ch_set _ _ _ _)).trans (ch_set _ _ _ _)).trans (ch_set _ _ _ _)).trans (ch_set _ _ _ _)
end
theorem after_later {W0:World} {x y:W5} {s:List UInt8} (hc:comp5 x s=y) (hs:s.length=64) (hx:x.ok) (v:Later (Gr W0)) :
  Calls prog 247 #[.agg #[.int .u32 x.a,.int .u32 x.b,.int .u32 x.c,.int .u32 x.d,.int .u32 x.e],.string ⟨s.toArray⟩] v.w λe w'=>e=.returned (.agg #[.int .u32 y.a,.int .u32 y.b,.int .u32 y.c,.int .u32 y.d,.int .u32 y.e])∧∃ z:Later (Gr W0),w'=z.w :=
 Calls.later ((after_any x s hs hx v.w).mono λ_ _ ⟨h1,h2⟩=>⟨by rw[hc] at h1;exact h1,v.ok.trans h2⟩)
def lenB:Value→Nat | .string s=>s.size | _=>0
theorem write_any (b:Nat) (bg:Bool) (h:W5) (rest s:List UInt8) (n:Nat) (W:World) (H:HashAt b W bg h rest n) (hok:h.ok) (hl:rest.length+s.length≤1000000) (hn:n+s.length≤1000000) :
  Calls prog 213 #[.pointer (some ⟨b,0,none⟩),.string ⟨s.toArray⟩] W λe W'=>e=.returned (.tuple #[]) ∧
   HashAt b W' true (absorb (if bg then h else first5) (rest++s)).1 (absorb (if bg then h else first5) (rest++s)).2 (n+s.length)∧Ch (·=b) W W':=by
 obtain⟨⟨yh,yr⟩,hy⟩:∃ y,absorb (if bg then h else first5) (rest++s)=y:=⟨_,rfl⟩
 rw[hy]
 obtain⟨m,hm⟩:∃ m,n+s.length=m:=⟨_,rfl⟩
 rw[hm]
 have hmI:(n:Int)+s.length=m:=by omega
 have hnI:(m:Int)≤1000000:=by omega
 obtain⟨u,hu⟩:∃ u,rest++s=u:=⟨_,rfl⟩
 have hcat:(⟨rest.toArray⟩:ByteArray)++⟨s.toArray⟩=⟨u.toArray⟩:=by rw[←hu];exact cat_mk rest s
 have hul:u.length≤1000000:=by rw[←hu,List.length_append];omega
 have hz:¬9223372036854775807<rest.length+s.length:=by omega
 rw[hu] at hy
 have H':=hid H
 have hok':=hid hok
 have hy':=hid hy
 have hul':=hid hul
 clear hu hy hl hn hm H hok hul
 have hbl:=cell_lt H'.out.c0
 have q0:=H'.out.c0
 have q7:=H'.out.c7
 have q6:=H'.out.c6
 have f7:=H'.out.fz 7
 cases bg with
 | true =>
  go_enter func213,ntmps213
  go_wp2
  clear q0 q7 q6 f7 hcat
  go_loopw [1] (λa wx=>∃ (ux:List UInt8) (hx:W5) (rx:List UInt8),a=.string ⟨ux.toArray⟩∧ux.length≤1000000∧hx.ok∧absorb hx ux=(yh,yr)∧HashAt b wx true hx rx m∧Ch (·=b) W wx) (λa _=>lenB a)
  case atStart=>exact⟨u,h,rest,rfl,hul'.out,hok'.out,hy'.out,H'.out.set7 m,ch_set _ _ _ _⟩
  case round =>
   obtain⟨ux,hx,rx,rfl,hul,hok,hab,H,hC⟩:=hrel
   have H2:=hid H
   have hok2:=hid hok
   have hC2:=hid hC
   have hab2:=hid hab
   clear H hok hC hab
   have hbl2:=cell_lt H2.out.c0
   by_cases h64:64≤ux.length
   ·have h64I:(64:Int)≤ux.length:=by omega
    have hx1:(⟨ux.toArray⟩:ByteArray).extract 0 64=⟨(ux.take 64).toArray⟩:=by rw[extract_mk];simp
    have hx2:(⟨ux.toArray⟩:ByteArray).extract 64 ux.length=⟨(ux.drop 64).toArray⟩:=by rw[extract_mk];simp
    obtain⟨z,hz2⟩:∃ z,comp5 hx (ux.take 64)=z:=⟨_,rfl⟩
    have hab3:=hid (show absorb z (ux.drop 64)=(yh,yr) by rw[←hz2,←absorb_long h64];exact hab2.out)
    have hzok:=hid (show z.ok by rw[←hz2];exact plus_ok _ _)
    have htk:=hid (show (ux.take 64).length=64 by rw[List.length_take];omega)
    have hdl:=hid (show (ux.drop 64).length≤1000000 by rw[List.length_drop];omega)
    have hdl2:=hid (show (ux.drop 64).length<ux.length by rw[List.length_drop];omega)
    obtain⟨ua,hua⟩:∃ l,ux.take 64=l:=⟨_,rfl⟩
    obtain⟨ub,hub⟩:∃ l,ux.drop 64=l:=⟨_,rfl⟩
    rw[hua] at hx1 hz2 htk
    rw[hub] at hx2 hab3 hdl hdl2
    have hz':=hid hz2
    clear hua hub hz2
    have e1:=H2.out.c1
    have e2:=H2.out.c2
    have e3:=H2.out.c3
    have e4:=H2.out.c4
    have e5:=H2.out.c5
    have t1:∀ v:Later (Gr wr),v.w.cell? ⟨b,1,none⟩=some (.int .u32 hx.a):=λv=>v.ok.cell e1
    have t2:∀ v:Later (Gr wr),v.w.cell? ⟨b,2,none⟩=some (.int .u32 hx.b):=λv=>v.ok.cell e2
    have t3:∀ v:Later (Gr wr),v.w.cell? ⟨b,3,none⟩=some (.int .u32 hx.c):=λv=>v.ok.cell e3
    have t4:∀ v:Later (Gr wr),v.w.cell? ⟨b,4,none⟩=some (.int .u32 hx.d):=λv=>v.ok.cell e4
    have t5:∀ v:Later (Gr wr),v.w.cell? ⟨b,5,none⟩=some (.int .u32 hx.e):=λv=>v.ok.cell e5
    haveI:Nonempty (Later (Gr wr)):=⟨⟨wr,Gr.refl wr⟩⟩
    go_upto_region 7 with (fail)
    refine wp_region_later_tail (C:=Gr wr) 10 (by kernel_rfl) (by kernel_rfl) (Gr.drew' _) ?_
    simp only[List.take_succ_cons,List.take_zero,List.drop_succ_cons,List.drop_zero]
    repeat (go_big_quiet_step (with_reducible exact after_later hz'.out htk.out hok2.out _))
    refine wpQuiet_nil ?_
    intro w9 hg9
    have H9:=hid (H2.out.gr hg9)
    have hC9:=hid (hC2.out.trans (hg9.to_ch (·=b)))
    clear hg9 t1 t2 t3 t4 t5 e1 e2 e3 e4 e5
    have e1:=H9.out.c1
    have e2:=H9.out.c2
    have e3:=H9.out.c3
    have e4:=H9.out.c4
    have e5:=H9.out.c5
    have f1:=H9.out.fz 1
    have f2:=H9.out.fz 2
    have f3:=H9.out.fz 3
    have f4:=H9.out.fz 4
    have f5:=H9.out.fz 5
    go_wp2
    go_roundw
    case rel=>exact⟨ub,z,rx,rfl,hdl.out,hzok.out,hab3.out,H9.out.setH z,hC9.out.trans (ch_setH w9 b z)⟩
    case measure=>(show (⟨ub.toArray⟩:ByteArray).size<(⟨ux.toArray⟩:ByteArray).size);rw[size_mk,size_mk];exact hdl2.out
   ·have h64I:¬(64:Int)≤ux.length:=by omega
    have hend:=hid (show hx=yh∧ux=yr by have:=hab2.out;rw[absorb_short (by omega)] at this;injection this with h1 h2;exact⟨h1,h2⟩)
    have e6:=H2.out.c6
    have f6:=H2.out.fz 6
    go_wp2
    go_end0
    refine⟨rfl,?_,hC2.out.trans (ch_set _ _ _ _)⟩
    rw[←hend.out.1,←hend.out.2]
    exact H2.out.set6 ux
 | false =>
  obtain⟨x,hx⟩:∃ x:W5,first5=x:=⟨_,rfl⟩
  have hfirst:=hid shafirst_any
  unfold w5V at hfirst
  rw[hx] at hfirst
  have hxok:=hid (show x.ok from hx▸first_ok)
  have hy2:=hid (show absorb x u=(yh,yr) by rw[←hx];exact hy'.out)
  clear q0 q7 q6 f7 hx hy'
  have q0:=H'.out.c0
  go_enter func213,ntmps213
  go_wp2_with fail
  refine (hfirst.out _).mono ?_
  rintro e w1⟨rfl,hg⟩
  have H1:=hid (H'.out.gr hg)
  have hC1:=hid (hg.to_ch (·=b))
  have hbl1:=cell_lt H1.out.c0
  clear hg q0
  have q0:=H1.out.c0
  have q1:=H1.out.c1
  have q2:=H1.out.c2
  have q3:=H1.out.c3
  have q4:=H1.out.c4
  have q5:=H1.out.c5
  have q6:=H1.out.c6
  have q7:=H1.out.c7
  have f0:=H1.out.fz 0
  have f1:=H1.out.fz 1
  have f2:=H1.out.fz 2
  have f3:=H1.out.fz 3
  have f4:=H1.out.fz 4
  have f5:=H1.out.fz 5
  have f7:=H1.out.fz 7
  go_wp2
  clear q0 q1 q2 q3 q4 q5 q6 q7 f0 f1 f2 f3 f4 f5 f7 hcat
  go_loopw [1] (λa wx=>∃ (ux:List UInt8) (hx:W5) (rx:List UInt8),a=.string ⟨ux.toArray⟩∧ux.length≤1000000∧hx.ok∧absorb hx ux=(yh,yr)∧HashAt b wx true hx rx m∧Ch (·=b) W wx) (λa _=>lenB a)
  case atStart=>exact⟨u,x,rest,rfl,hul'.out,hxok.out,hy2.out,((H1.out.set0 true).setH x).set7 m,((hC1.out.trans (ch_set _ _ _ _)).trans (ch_setH _ _ x)).trans (ch_set _ _ _ _)⟩
  case round =>
   obtain⟨ux,hx,rx,rfl,hul,hok,hab,H,hC⟩:=hrel
   have H2:=hid H
   have hok2:=hid hok
   have hC2:=hid hC
   have hab2:=hid hab
   clear H hok hC hab
   have hbl2:=cell_lt H2.out.c0
   by_cases h64:64≤ux.length
   ·have h64I:(64:Int)≤ux.length:=by omega
    have hx1:(⟨ux.toArray⟩:ByteArray).extract 0 64=⟨(ux.take 64).toArray⟩:=by rw[extract_mk];simp
    have hx2:(⟨ux.toArray⟩:ByteArray).extract 64 ux.length=⟨(ux.drop 64).toArray⟩:=by rw[extract_mk];simp
    obtain⟨z,hz2⟩:∃ z,comp5 hx (ux.take 64)=z:=⟨_,rfl⟩
    have hab3:=hid (show absorb z (ux.drop 64)=(yh,yr) by rw[←hz2,←absorb_long h64];exact hab2.out)
    have hzok:=hid (show z.ok by rw[←hz2];exact plus_ok _ _)
    have htk:=hid (show (ux.take 64).length=64 by rw[List.length_take];omega)
    have hdl:=hid (show (ux.drop 64).length≤1000000 by rw[List.length_drop];omega)
    have hdl2:=hid (show (ux.drop 64).length<ux.length by rw[List.length_drop];omega)
    obtain⟨ua,hua⟩:∃ l,ux.take 64=l:=⟨_,rfl⟩
    obtain⟨ub,hub⟩:∃ l,ux.drop 64=l:=⟨_,rfl⟩
    rw[hua] at hx1 hz2 htk
    rw[hub] at hx2 hab3 hdl hdl2
    have hz':=hid hz2
    clear hua hub hz2
    have e1:=H2.out.c1
    have e2:=H2.out.c2
    have e3:=H2.out.c3
    have e4:=H2.out.c4
    have e5:=H2.out.c5
    have t1:∀ v:Later (Gr wr),v.w.cell? ⟨b,1,none⟩=some (.int .u32 hx.a):=λv=>v.ok.cell e1
    have t2:∀ v:Later (Gr wr),v.w.cell? ⟨b,2,none⟩=some (.int .u32 hx.b):=λv=>v.ok.cell e2
    have t3:∀ v:Later (Gr wr),v.w.cell? ⟨b,3,none⟩=some (.int .u32 hx.c):=λv=>v.ok.cell e3
    have t4:∀ v:Later (Gr wr),v.w.cell? ⟨b,4,none⟩=some (.int .u32 hx.d):=λv=>v.ok.cell e4
    have t5:∀ v:Later (Gr wr),v.w.cell? ⟨b,5,none⟩=some (.int .u32 hx.e):=λv=>v.ok.cell e5
    haveI:Nonempty (Later (Gr wr)):=⟨⟨wr,Gr.refl wr⟩⟩
    go_upto_region 7 with (fail)
    refine wp_region_later_tail (C:=Gr wr) 10 (by kernel_rfl) (by kernel_rfl) (Gr.drew' _) ?_
    simp only[List.take_succ_cons,List.take_zero,List.drop_succ_cons,List.drop_zero]
    repeat (go_big_quiet_step (with_reducible exact after_later hz'.out htk.out hok2.out _))
    refine wpQuiet_nil ?_
    intro w9 hg9
    have H9:=hid (H2.out.gr hg9)
    have hC9:=hid (hC2.out.trans (hg9.to_ch (·=b)))
    clear hg9 t1 t2 t3 t4 t5 e1 e2 e3 e4 e5
    have e1:=H9.out.c1
    have e2:=H9.out.c2
    have e3:=H9.out.c3
    have e4:=H9.out.c4
    have e5:=H9.out.c5
    have f1:=H9.out.fz 1
    have f2:=H9.out.fz 2
    have f3:=H9.out.fz 3
    have f4:=H9.out.fz 4
    have f5:=H9.out.fz 5
    go_wp2
    go_roundw
    case rel=>exact⟨ub,z,rx,rfl,hdl.out,hzok.out,hab3.out,H9.out.setH z,hC9.out.trans (ch_setH w9 b z)⟩
    case measure=>(show (⟨ub.toArray⟩:ByteArray).size<(⟨ux.toArray⟩:ByteArray).size);rw[size_mk,size_mk];exact hdl2.out
   ·have h64I:¬(64:Int)≤ux.length:=by omega
    have hend:=hid (show hx=yh∧ux=yr by have:=hab2.out;rw[absorb_short (by omega)] at this;injection this with h1 h2;exact⟨h1,h2⟩)
    have e6:=H2.out.c6
    have f6:=H2.out.fz 6
    go_wp2
    go_end0
    refine⟨rfl,?_,hC2.out.trans (ch_set _ _ _ _)⟩
    rw[←hend.out.1,←hend.out.2]
    exact H2.out.set6 ux
