/-
  Requests: the walk over Next, New, Rest.
-/
import Derived.Test.YtadobobfjnmdlaaGreatDoorP42
set_option linter.unnecessarySimpa false
set_option linter.unusedVariables false
set_option linter.unusedSimpArgs false
set_option maxHeartbeats 16000000
set_option maxRecDepth 100000
open Go.Lib (hid)
open Go.Proofs.Tryz
namespace Go.Proofs.YtadobobfjnmdlaaGreatDoor
open Go.RowKit
attribute [local go_sem] Oper.semAt_some
theorem headsQ_len (p:Ps):(headsQ p).inp.length+(headsQ p).und.length=p.inp.length+p.und.length:=by
 unfold headsQ
 split
 ·rw[readsQ_eq]
  obtain⟨i1,i2⟩:=readsP_inp p (splitE (p.inp.take (Lib.index p.inp eol2).toNat))
  split
  ·unfold takesQ
   dsimp only
   rw[i1,i2,List.length_append,List.length_take,List.length_drop];omega
  ·dsimp only;rw[i1,i2]
 ·split <;> rfl
theorem body_any (B:Nat) (T:Nat→Prop) (p:Ps) (fv cv:Value) (w:World) (hG:G w) (h:PsAt B T w p fv cv) (hl:p.inp.length≤90000) (hu:p.und.length≤90000) :
  Calls prog 91 #[.pointer (some ⟨B,0,none⟩)] w λe w'=>e=.returned (.bool (bodyQ p).2)∧PsPost B T w (bodyQ p).1 w':=by
 cases hc:p.ch with
 | none=>exact body_none B T p fv cv w h hc hl
 | some c=>exact body_some B T p fv cv c w hG h hc hl hu
theorem PsPost.keep {B:Nat} {T:Nat→Prop} {W W':World} {p':Ps} (h:PsPost B T W p' W') {a:Addr} {v:Value} (hc:W.cell? a=some v) (hn:¬T a.block):W'.cell? a=some v:=by
 obtain⟨_,_,_,_,h2,_,_⟩:=h
 exact (h2.cell (cell_lt hc) hn).trans hc
theorem PsPost.keepf {B:Nat} {T:Nat→Prop} {W W':World} {p':Ps} (h:PsPost B T W p' W') {b:Nat} (hb:b<W.heap.size) (hn:¬T b) (hz:∀ o,W.frozen? ⟨b,o,none⟩=false):∀ o,W'.frozen? ⟨b,o,none⟩=false:=by
 obtain⟨_,_,_,_,h2,_,_⟩:=h
 exact λo=>(h2.frozen (p:=⟨b,o,none⟩) hb hn).trans (hz o)
theorem PsAt.reset {B:Nat} {T:Nat→Prop} {W:World} {p:Ps} {fv cv:Value} (h:PsAt B T W p fv cv) (i:List UInt8) :
  PsAt B T (((((((((((((W.setCell ⟨B,0,none⟩ (.string ⟨i.toArray⟩)).setCell ⟨B,1,none⟩ (.string ⟨#[]⟩)).setCell ⟨B,2,none⟩ (.bool false)).setCell ⟨B,3,none⟩ (.string ⟨#[]⟩)).setCell ⟨B,4,none⟩ (.string ⟨#[]⟩)).setCell ⟨B,5,none⟩ (.string ⟨#[]⟩)).setCell ⟨B,6,none⟩ (.int .i64 0)).setCell ⟨B,7,none⟩ (.slice none 0 0)).setCell ⟨B,8,none⟩ (.string ⟨#[]⟩)).setCell ⟨B,9,none⟩ (.bool false)).setCell ⟨B,10,none⟩ (.int .i64 0)).setCell ⟨B,11,none⟩ (.pointer none)).setCell ⟨B,12,none⟩ (.int .i64 0))
   { ps0 with inp:=i } (.slice none 0 0) (.pointer none):=by
 refine⟨?_,?_,?_,?_,?_,?_,?_,?_,?_,?_,?_,?_,?_,λo=>by simp[go_sem,h.fz],⟨none,0,rfl,λi hi=>absurd hi (Nat.not_lt_zero _)⟩,λa n c e=>(by cases e),rfl,h.tb,λk hk=>⟨(h.tl k hk).1,by simpa using (h.tl k hk).2⟩,h.gb,λa n c e=>(by cases e)⟩
 all_goals simp[go_sem,h.c0,h.c1,h.c2,h.c3,h.c4,h.c5,h.c6,h.c7,h.c8,h.c9,h.c10,h.c11,h.c12,ps0,rq0]
theorem chB13 {B:Nat} {T:Nat→Prop} (hT:T B) (W:World) (v0 v1 v2 v3 v4 v5 v6 v7 v8 v9 v10 v11 v12:Value) :
  Ch T W (((((((((((((W.setCell ⟨B,0,none⟩ v0).setCell ⟨B,1,none⟩ v1).setCell ⟨B,2,none⟩ v2).setCell ⟨B,3,none⟩ v3).setCell ⟨B,4,none⟩ v4).setCell ⟨B,5,none⟩ v5).setCell ⟨B,6,none⟩ v6).setCell ⟨B,7,none⟩ v7).setCell ⟨B,8,none⟩ v8).setCell ⟨B,9,none⟩ v9).setCell ⟨B,10,none⟩ v10).setCell ⟨B,11,none⟩ v11).setCell ⟨B,12,none⟩ v12) :=
 ((((((((((((Ch.setCell W (a:=⟨B,0,none⟩) hT _).trans (Ch.setCell _ (a:=⟨B,1,none⟩) hT _)).trans (Ch.setCell _ (a:=⟨B,2,none⟩) hT _)).trans (Ch.setCell _ (a:=⟨B,3,none⟩) hT _)).trans (Ch.setCell _ (a:=⟨B,4,none⟩) hT _)).trans (Ch.setCell _ (a:=⟨B,5,none⟩) hT _)).trans (Ch.setCell _ (a:=⟨B,6,none⟩) hT _)).trans (Ch.setCell _ (a:=⟨B,7,none⟩) hT _)).trans (Ch.setCell _ (a:=⟨B,8,none⟩) hT _)).trans (Ch.setCell _ (a:=⟨B,9,none⟩) hT _)).trans (Ch.setCell _ (a:=⟨B,10,none⟩) hT _)).trans (Ch.setCell _ (a:=⟨B,11,none⟩) hT _)).trans (Ch.setCell _ (a:=⟨B,12,none⟩) hT _)
theorem chR7 {R:Nat} {T:Nat→Prop} (hT:T R) (W:World) (v0 v1 v2 v3 v4 v5 v6:Value) :
  Ch T W (((((((W.setCell ⟨R,0,none⟩ v0).setCell ⟨R,1,none⟩ v1).setCell ⟨R,2,none⟩ v2).setCell ⟨R,3,none⟩ v3).setCell ⟨R,4,none⟩ v4).setCell ⟨R,5,none⟩ v5).setCell ⟨R,6,none⟩ v6) :=
 ((((((Ch.setCell W (a:=⟨R,0,none⟩) hT _).trans (Ch.setCell _ (a:=⟨R,1,none⟩) hT _)).trans (Ch.setCell _ (a:=⟨R,2,none⟩) hT _)).trans (Ch.setCell _ (a:=⟨R,3,none⟩) hT _)).trans (Ch.setCell _ (a:=⟨R,4,none⟩) hT _)).trans (Ch.setCell _ (a:=⟨R,5,none⟩) hT _)).trans (Ch.setCell _ (a:=⟨R,6,none⟩) hT _)
def rqO:Option Rq→Rq
 | none=>rq0
 | some r=>r
theorem PsPost.apart {B R:Nat} {T:Nat→Prop} {w w1 W:World} {p p':Ps} {fv0 cv0:Value} (h:PsAt B T w p fv0 cv0) (hR:R=w.heap.size) (hg:Gr w w1) (hlt:R<w1.heap.size) (hp:PsPost B T w1 p' W) :
  ∃ T' fv cv,PsAt B T' W p' fv cv∧Ch T w W∧(∀ k,T' k→T k∨w.heap.size≤k)∧¬T' R∧(∀ a n c,fv=.slice (some a) n c→a.block≠R):=by
 obtain⟨T',fv,cv,h1,h2,h3,h4⟩:=hp
 have hT:∀ k,T k→k<w.heap.size:=λk hk=>(h.tl k hk).2
 have hsz:=Below.size hg
 refine⟨T',fv,cv,h1,(hg.to_ch T).trans h2,λk hk=>(h3 k hk).imp id (λe=>by omega),λe=>?_,λa n c e=>?_⟩
 ·rcases h3 R e with e | e
  ·have:=hT R e;omega
  ·omega
 ·rcases h4 a n c e with⟨n0,c0,e2⟩ | e2
  ·have h7:=hg.cell h.c7
   rw[h7] at e2
   have:=h.fb a n0 c0 (Option.some.inj e2)
   omega
  ·omega
theorem qnew_any (w:World) (hG:G w) :
  Calls prog 38 #[] w λe w'=>e=.returned (.pointer (some ⟨w.heap.size,0,none⟩))∧PsAt w.heap.size (λk=>k=w.heap.size) w' ps0 (.slice none 0 0) (.pointer none)∧Gr w w':=by
 have hlt:=hG.lt
 go_enter func38,ntmps38
 go_wp2
 refine bodyPost_ret (v:=.pointer (some ⟨w.heap.size,0,none⟩)) (by simp[results,results38,go_sem]) rfl ⟨rfl,?_,Gr.alloc _ _⟩
 exact⟨cell_new7 _ _ _ 0 _ rfl,cell_new7 _ _ _ 1 _ rfl,cell_new7 _ _ _ 2 _ rfl,cell_new7 _ _ _ 3 _ rfl,cell_new7 _ _ _ 4 _ rfl,cell_new7 _ _ _ 5 _ rfl,cell_new7 _ _ _ 6 _ rfl,cell_new7 _ _ _ 7 _ rfl,cell_new7 _ _ _ 8 _ rfl,cell_new7 _ _ _ 9 _ rfl,cell_new7 _ _ _ 10 _ rfl,cell_new7 _ _ _ 11 _ rfl,cell_new7 _ _ _ 12 _ rfl,
  λo=>World.frozen?_alloc_at _ _ _ _ rfl,⟨none,0,rfl,λi hi=>absurd hi (Nat.not_lt_zero _)⟩,λa n c e=>(by cases e),rfl,rfl,λk hk=>(by subst hk;exact⟨Nat.le_refl _,by simp⟩),hlt,λa n c e=>(by cases e)⟩
theorem qrest_any (B:Nat) (T:Nat→Prop) (p:Ps) (fv cv:Value) (w:World) (h:PsAt B T w p fv cv) (hl:p.inp.length+p.und.length≤90000) :
  Calls prog 113 #[.pointer (some ⟨B,0,none⟩)] w λe w'=>e=.returned (.string ⟨(restQ p).2.toArray⟩)∧PsPost B T w (restQ p).1 w':=by
 have h':=hid h
 have c12:=h.c12
 by_cases hb:p.bad=0
 ·rw[hb] at c12
  obtain⟨x,hx⟩:∃ x,p.und++p.inp=x:=⟨_,rfl⟩
  have hq:=hid (show restQ p=(ps0,x) by unfold restQ;rw[if_neg (by simpa using hb),hx])
  have hcat:(⟨p.und.toArray⟩:ByteArray)++⟨p.inp.toArray⟩=⟨x.toArray⟩:=by rw[cat_mk,hx]
  have hcl:¬9223372036854775807<p.und.length+p.inp.length:=by omega
  haveI:Nonempty (Later (Gr w)):=⟨⟨w,Gr.refl w⟩⟩
  have t0:∀ x:Later (Gr w),x.w.cell? ⟨B,0,none⟩=some (.string ⟨p.inp.toArray⟩):=λx=>x.ok.cell h.c0
  have t1:∀ x:Later (Gr w),x.w.cell? ⟨B,1,none⟩=some (.string ⟨p.und.toArray⟩):=λx=>x.ok.cell h.c1
  clear hb hx h
  go_enter func113,ntmps113
  go_upto_region 3 with (fail)
  refine wp_region_later (C:=Gr w) (by kernel_rfl) (by kernel_rfl) (Gr.drew' _) ?_
  repeat (go_big_quiet_step (fail))
  refine wpQuiet_nil ?_
  intro w9 hg9
  have hg:=hid hg9
  have hP:=h'.out.gr hg9
  have hP':=hid hP
  have d0:=hP.c0
  have d1:=hP.c1
  have d2:=hP.c2
  have d3:=hP.c3
  have d4:=hP.c4
  have d5:=hP.c5
  have d6:=hP.c6
  have d7:=hP.c7
  have d8:=hP.c8
  have d9:=hP.c9
  have d10:=hP.c10
  have d11:=hP.c11
  have d12:=hP.c12
  have dz:=hP.fz
  have hfin:=hid (show PsPost B T w ps0 _ from PsPost.ahead h'.out.lt hg9 ⟨T,_,_,hP.reset [],chB13 hP.tb _ _ _ _ _ _ _ _ _ _ _ _ _ _,λ_ hk=>.inl hk,λa n c e=>(by cases e)⟩)
  clear t0 t1 hg9 hP hcat hcl
  go_wp2
  go_ret
  exact⟨by rw[hq.out];rfl,by rw[hq.out];exact hfin.out⟩
 ·have hbI:((p.bad:Int) != 0)=true:=by rw[bne_iff_ne];omega
  have hq:=hid (show restQ p=(p,[]) by unfold restQ;rw[if_pos hb])
  clear hb h
  go_enter func113,ntmps113
  go_wp2
  go_ret
  exact⟨by rw[hq.out];rfl,by rw[hq.out];exact PsPost.of_gr h'.out (Gr.refl _)⟩
def RowOf (B:Nat) (w:World) (a:Addr):Prop:=(∃ n0 c0,w.cell? ⟨B,7,none⟩=some (.slice (some a) n0 c0))∨w.heap.size≤a.block
def NextPostW (B:Nat) (T:Nat→Prop) (w:World) (x:Ps×Option Rq) (e:Ending) (w':World):Prop :=
 ∃ rv T' fv cv,e=.returned (.tuple #[(rqO x.2).V rv,.bool x.2.isSome])∧FieldsAt w' rv (rqO x.2).fs∧FOut T' rv∧(∀ a n c,rv=.slice (some a) n c→a.block<w'.heap.size)∧PsAt B T' w' x.1 fv cv∧Ch T w w'∧(∀ k,T' k→T k∨w.heap.size≤k) ∧
  (∀ a n c,rv=.slice (some a) n c→RowOf B w a)∧∀ a n c,fv=.slice (some a) n c→RowOf B w a
theorem PsPost.apart2 {B R:Nat} {T:Nat→Prop} {w w1 W:World} {p p':Ps} {fv0 cv0:Value} (h:PsAt B T w p fv0 cv0) (hR:R=w.heap.size) (hg:Gr w w1) (hlt:R<w1.heap.size) (hp:PsPost B T w1 p' W) :
  ∃ T' fv cv,PsAt B T' W p' fv cv∧Ch T w W∧(∀ k,T' k→T k∨w.heap.size≤k)∧¬T' R∧(∀ a n c,fv=.slice (some a) n c→a.block≠R)∧∀ a n c,fv=.slice (some a) n c→RowOf B w a:=by
 obtain⟨T',fv,cv,h1,h2,h3,h4,h5⟩:=PsPost.apart h hR hg hlt hp
 refine⟨T',fv,cv,h1,h2,h3,h4,h5,λa n c e=>?_⟩
 obtain⟨T2,fv2,cv2,k1,_,_,k4⟩:=hp
 have e7:fv2=fv:=Option.some.inj (k1.c7.symm.trans h1.c7)
 rcases k4 a n c (e7.trans e) with⟨n0,c0,e2⟩ | e2
 ·exact .inl ⟨n0,c0,(Below.cell hg (p:=⟨B,7,none⟩) h.lt).symm.trans e2⟩
 ·exact .inr (Nat.le_trans (Below.size hg) e2)
theorem NextPostW.no {B R:Nat} {T:Nat→Prop} {w w1 W:World} {p p':Ps} {fv0 cv0:Value} (h:PsAt B T w p fv0 cv0) (hR:R=w.heap.size) (hg:Gr w w1) (hlt:R<w1.heap.size) (hp:PsPost B T w1 p' W) (v0 v1 v2 v3 v4 v5 v6:Value) :
  NextPostW B T w (p',none) (.returned (.tuple #[.agg #[.string ⟨#[]⟩,.string ⟨#[]⟩,.string ⟨#[]⟩,.int .i64 0,.slice none 0 0,.string ⟨#[]⟩,.bool false],.bool false]))
   (((((((W.setCell ⟨R,0,none⟩ v0).setCell ⟨R,1,none⟩ v1).setCell ⟨R,2,none⟩ v2).setCell ⟨R,3,none⟩ v3).setCell ⟨R,4,none⟩ v4).setCell ⟨R,5,none⟩ v5).setCell ⟨R,6,none⟩ v6):=by
 obtain⟨T',fv,cv,h1,h2,h3,h4,h5,h8⟩:=PsPost.apart2 h hR hg hlt hp
 have c2:=chR7 (T:=λk=>k=R) (R:=R) rfl W v0 v1 v2 v3 v4 v5 v6
 generalize (((((((W.setCell ⟨R,0,none⟩ v0).setCell ⟨R,1,none⟩ v1).setCell ⟨R,2,none⟩ v2).setCell ⟨R,3,none⟩ v3).setCell ⟨R,4,none⟩ v4).setCell ⟨R,5,none⟩ v5).setCell ⟨R,6,none⟩ v6)=W3 at c2 ⊢
 refine⟨.slice none 0 0,T',fv,cv,rfl,⟨none,0,rfl,λi hi=>absurd hi (Nat.not_lt_zero _)⟩,λa n c e=>(by cases e),λa n c e=>(by cases e),h1.ch_out c2 (λk hk ht=>h4 (by rw[←hk];exact ht)) (λa n c e hk=>h5 a n c e hk),?_,h3,λa n c e=>(by cases e),h8⟩
 exact⟨c2.os.trans h2.os,c2.tape.trans h2.tape,c2.output.trans h2.output,Nat.le_trans h2.size c2.size,λk hk hn=>(c2.block k (Nat.lt_of_lt_of_le hk h2.size) (λe=>by omega)).trans (h2.block k hk hn)⟩
theorem NextPostW.yes {B R:Nat} {T:Nat→Prop} {w w1 W W2:World} {p p':Ps} {fv0 cv0 rv:Value} {r:Rq} {i:List UInt8} (h:PsAt B T w p fv0 cv0) (hR:R=w.heap.size) (hg:Gr w w1) (hlt:R<w1.heap.size) (hp:PsPost B T w1 p' W)
  (hr:p'.r=r) (_hi:p'.inp=i) (h7:W.cell? ⟨B,7,none⟩=some rv) (hg2:Gr W W2) (v0 v1 v2 v3 v4 v5 v6:Value) :
  NextPostW B T w ({ ps0 with inp:=i },some r) (.returned (.tuple #[r.V rv,.bool true]))
   ((((((((((((((((((((W2.setCell ⟨B,0,none⟩ (.string ⟨i.toArray⟩)).setCell ⟨B,1,none⟩ (.string ⟨#[]⟩)).setCell ⟨B,2,none⟩ (.bool false)).setCell ⟨B,3,none⟩ (.string ⟨#[]⟩)).setCell ⟨B,4,none⟩ (.string ⟨#[]⟩)).setCell ⟨B,5,none⟩ (.string ⟨#[]⟩)).setCell ⟨B,6,none⟩ (.int .i64 0)).setCell ⟨B,7,none⟩ (.slice none 0 0)).setCell ⟨B,8,none⟩ (.string ⟨#[]⟩)).setCell ⟨B,9,none⟩ (.bool false)).setCell ⟨B,10,none⟩ (.int .i64 0)).setCell ⟨B,11,none⟩ (.pointer none)).setCell ⟨B,12,none⟩ (.int .i64 0)).setCell ⟨R,0,none⟩ v0).setCell ⟨R,1,none⟩ v1).setCell ⟨R,2,none⟩ v2).setCell ⟨R,3,none⟩ v3).setCell ⟨R,4,none⟩ v4).setCell ⟨R,5,none⟩ v5).setCell ⟨R,6,none⟩ v6):=by
 obtain⟨T',fv,cv,h1,h2,h3,h4,h5,h8⟩:=PsPost.apart2 h hR hg hlt hp
 have e7:fv=rv:=Option.some.inj (h1.c7.symm.trans h7)
 subst e7 hr
 have k1:=h1.gr hg2
 have k2:=k1.reset i
 have c1:=chB13 (T:=T') h1.tb W2 (.string ⟨i.toArray⟩) (.string ⟨#[]⟩) (.bool false) (.string ⟨#[]⟩) (.string ⟨#[]⟩) (.string ⟨#[]⟩) (.int .i64 0) (.slice none 0 0) (.string ⟨#[]⟩) (.bool false) (.int .i64 0) (.pointer none) (.int .i64 0)
 generalize hW3:(((((((((((((W2.setCell ⟨B,0,none⟩ (.string ⟨i.toArray⟩)).setCell ⟨B,1,none⟩ (.string ⟨#[]⟩)).setCell ⟨B,2,none⟩ (.bool false)).setCell ⟨B,3,none⟩ (.string ⟨#[]⟩)).setCell ⟨B,4,none⟩ (.string ⟨#[]⟩)).setCell ⟨B,5,none⟩ (.string ⟨#[]⟩)).setCell ⟨B,6,none⟩ (.int .i64 0)).setCell ⟨B,7,none⟩ (.slice none 0 0)).setCell ⟨B,8,none⟩ (.string ⟨#[]⟩)).setCell ⟨B,9,none⟩ (.bool false)).setCell ⟨B,10,none⟩ (.int .i64 0)).setCell ⟨B,11,none⟩ (.pointer none)).setCell ⟨B,12,none⟩ (.int .i64 0))=W3 at k2 c1 ⊢
 have c2:=chR7 (T:=λk=>k=R) (R:=R) rfl W3 v0 v1 v2 v3 v4 v5 v6
 have hs2:=Below.size hg2
 have hs1:=c1.size
 have hs3:=c2.size
 have hs0:=h2.size
 refine⟨fv,T',.slice none 0 0,.pointer none,rfl,((k1.f.ch c1 k1.fo).ch c2 (λa n c e hk=>h5 a n c e hk)),h1.fo,λa n c e=>?_,k2.ch_out c2 (λk hk ht=>h4 (by rw[←hk];exact ht)) (λa n c e=>by cases e),?_,h3,h8,λa n c e=>(by cases e)⟩
 ·have:=h1.fb a n c e;omega
 ·refine⟨c2.os.trans (c1.os.trans (hg2.os.trans h2.os)),c2.tape.trans (c1.tape.trans (hg2.tape.trans h2.tape)),c2.output.trans (c1.output.trans (hg2.output.trans h2.output)),by omega,λk hk hn=>?_⟩
  have n1:¬T' k:=λe=>(h3 k e).elim hn (by omega)
  exact (c2.block k (by omega) (λe=>by omega)).trans ((c1.block k (by omega) n1).trans ((hg2.block k (by omega)).trans (h2.block k hk hn)))
theorem next_any2 (B:Nat) (T:Nat→Prop) (p:Ps) (fv cv:Value) (w:World) (hG:G w) (h:PsAt B T w p fv cv) (hl:p.inp.length+p.und.length≤90000) :
  Calls prog 67 #[.pointer (some ⟨B,0,none⟩)] w (NextPostW B T w (nextQ p)):=by
 have hG':=hid hG
 have h':=hid h
 have hR:∀ (o:Nat) (u:Value),([.string ⟨#[]⟩,.string ⟨#[]⟩,.string ⟨#[]⟩,.int .i64 0,.slice none 0 0,.string ⟨#[]⟩,.bool false]:List Value)[o]?=some u→_:=λ(o:Nat) (u:Value) (h:([.string ⟨#[]⟩,.string ⟨#[]⟩,.string ⟨#[]⟩,.int .i64 0,.slice none 0 0,.string ⟨#[]⟩,.bool false]:List Value)[o]?=some u)=>cell_new7 w [.string ⟨#[]⟩,.string ⟨#[]⟩,.string ⟨#[]⟩,.int .i64 0,.slice none 0 0,.string ⟨#[]⟩,.bool false] 78 o u h
 have r0:=hR 0 _ rfl
 have r1:=hR 1 _ rfl
 have r2:=hR 2 _ rfl
 have r3:=hR 3 _ rfl
 have r4:=hR 4 _ rfl
 have r5:=hR 5 _ rfl
 have r6:=hR 6 _ rfl
 have rf:∀ o,(w.alloc (.cells #[.string ⟨#[]⟩,.string ⟨#[]⟩,.string ⟨#[]⟩,.int .i64 0,.slice none 0 0,.string ⟨#[]⟩,.bool false] 78)).frozen? ⟨w.heap.size,o,none⟩=false:=λo=>by simp[go_sem]
 have hlt:w.heap.size<(w.alloc (.cells #[.string ⟨#[]⟩,.string ⟨#[]⟩,.string ⟨#[]⟩,.int .i64 0,.slice none 0 0,.string ⟨#[]⟩,.bool false] 78)).heap.size:=by simp
 have g1:=Gr.alloc w (.cells #[.string ⟨#[]⟩,.string ⟨#[]⟩,.string ⟨#[]⟩,.int .i64 0,.slice none 0 0,.string ⟨#[]⟩,.bool false] 78)
 clear hR
 go_enter func67,ntmps67
 go_upto_region 1 with (fail)
 obtain⟨R,hRe⟩:∃ x,w.heap.size=x:=⟨_,rfl⟩
 rw[hRe] at r0 r1 r2 r3 r4 r5 r6 rf hlt ⊢
 generalize (w.alloc (.cells #[.string ⟨#[]⟩,.string ⟨#[]⟩,.string ⟨#[]⟩,.int .i64 0,.slice none 0 0,.string ⟨#[]⟩,.bool false] 78))=w1 at r0 r1 r2 r3 r4 r5 r6 rf hlt g1 ⊢
 have hRe':=hid hRe
 have g1':=hid g1
 have hnT:¬T R:=λe=>by have:=(h.tl R e).2;omega
 have h1:=h.gr g1
 have h1':=hid h1
 have c12:=h1.c12
 have c2:=h1.c2
 clear h hRe g1
 by_cases hb:p.bad=0
 ·rw[hb] at c12
  have hq0:=hid (show nextQ p=if !(if p.head then p else headsQ p).head then ((if p.head then p else headsQ p),none) else if (bodyQ (if p.head then p else headsQ p)).2 then ({ ps0 with inp:=(bodyQ (if p.head then p else headsQ p)).1.inp },some (bodyQ (if p.head then p else headsQ p)).1.r) else ((bodyQ (if p.head then p else headsQ p)).1,none) by
   unfold nextQ
   rw[if_neg (by simpa using hb)])
  clear hb
  have hlen:=headsQ_len p
  cases hh:p.head
  case' false =>
   rw[hh] at c2
   have hq1:nextQ p=if !(headsQ p).head then (headsQ p,none) else if (bodyQ (headsQ p)).2 then ({ ps0 with inp:=(bodyQ (headsQ p)).1.inp },some (bodyQ (headsQ p)).1.r) else ((bodyQ (headsQ p)).1,none):=by
    rw[hq0.out,hh];rfl
   obtain⟨p2,hp2⟩:∃ x,headsQ p=x:=⟨_,rfl⟩
   have hca:=hid (heads_any B T p fv cv w1 (hG'.out.gr g1'.out) h1'.out (by omega) (by omega))
   rw[hp2] at hq1 hca hlen
   have hq:=hid hq1
   clear hq1 hp2 hh hq0 h1
   go_wp2_with fail
   refine hca.out.mono ?_
   rintro e w2⟨rfl,hp0⟩
   have hp:=hid hp0
   clear hp0 hca c12 c2
  case' true =>
   rw[hh] at c2
   have hq1:nextQ p=if !p.head then (p,none) else if (bodyQ p).2 then ({ ps0 with inp:=(bodyQ p).1.inp },some (bodyQ p).1.r) else ((bodyQ p).1,none):=by
    rw[hq0.out,if_pos hh]
   have hp0:PsPost B T w1 p w1:=PsPost.of_gr h1'.out (Gr.refl _)
   replace hlen:p.inp.length+p.und.length=p.inp.length+p.und.length:=rfl
   clear hh hq0 h1
   go_upto_region 5 with (fail)
   obtain⟨w2,hw2,hp1⟩:∃ w2,w1=w2∧PsPost B T w1 p w2:=⟨_,rfl,hp0⟩
   rw[hw2]
   obtain⟨p2,hp2⟩:∃ x,p=x:=⟨_,rfl⟩
   rw[hp2] at hp1 hq1
   have hlen2:p2.inp.length+p2.und.length=p.inp.length+p.und.length:=by rw[hp2]
   replace hlen:=hlen2
   have hp:=hid hp1
   have hq:=hid (show nextQ p=if !p2.head then (p2,none) else if (bodyQ p2).2 then ({ ps0 with inp:=(bodyQ p2).1.inp },some (bodyQ p2).1.r) else ((bodyQ p2).1,none) by rw[hp2];exact hq1)
   clear hlen2 hp1 hp0 hw2 hq1 hp2 c12 c2
  all_goals
   have hp':=hp.out
   obtain⟨T2,fv2,cv2,hP2,hC2,hS2,hF2⟩:=hp.out
   have hP2':=hid hP2
   have hC2':=hid hC2
   have hS2':=hid hS2
   have hF2':=hid hF2
   have c2:=hP2.c2
   have s0:=hp'.keep r0 hnT
   have s1:=hp'.keep r1 hnT
   have s2:=hp'.keep r2 hnT
   have s3:=hp'.keep r3 hnT
   have s4:=hp'.keep r4 hnT
   have s5:=hp'.keep r5 hnT
   have s6:=hp'.keep r6 hnT
   have sf:=hp'.keepf hlt hnT rf
   have hG2:=hid (hp'.G h1'.out (hG'.out.gr g1'.out))
   have hba:=hid (body_any B T2 p2 fv2 cv2 w2 hG2.out hP2 (by omega) (by omega))
   clear hP2 hC2 hS2 hF2 hp'
   cases hh2:p2.head
   ·rw[hh2] at c2
    have hq2:=hid (show nextQ p=(p2,none) by rw[hq.out,hh2];rfl)
    clear hh2 hq r0 r1 r2 r3 r4 r5 r6 rf hba
    go_wp2
    refine bodyPost_ret (v:=.tuple #[.agg #[.string ⟨#[]⟩,.string ⟨#[]⟩,.string ⟨#[]⟩,.int .i64 0,.slice none 0 0,.string ⟨#[]⟩,.bool false],.bool false]) (by simp[results,results67,go_sem,s0,s1,s2,s3,s4,s5,s6]) rfl ?_
    rw[hq2.out]
    exact NextPostW.no h'.out hRe'.out.symm g1'.out hlt hp.out _ _ _ _ _ _ _
   ·rw[hh2] at c2
    obtain⟨⟨p3,bb⟩,hx⟩:∃ x,bodyQ p2=x:=⟨_,rfl⟩
    have hq2:=hid (show nextQ p=if bb then ({ ps0 with inp:=p3.inp },some p3.r) else (p3,none) by rw[hq.out,hh2,hx];rfl)
    rw[hx] at hba
    dsimp only at hba
    clear hh2 hq hx s0 s1 s2 s3 s4 s5 s6 sf
    go_wp2_with fail
    refine hba.out.mono ?_
    rintro e w3⟨rfl,hb3⟩
    have hp3:=hid (PsPost.next hP2'.out hC2'.out ⟨hS2'.out,hF2'.out⟩ hb3)
    have s0:=hp3.out.keep r0 hnT
    have s1:=hp3.out.keep r1 hnT
    have s2:=hp3.out.keep r2 hnT
    have s3:=hp3.out.keep r3 hnT
    have s4:=hp3.out.keep r4 hnT
    have s5:=hp3.out.keep r5 hnT
    have s6:=hp3.out.keep r6 hnT
    have sf:=hp3.out.keepf hlt hnT rf
    clear hba hb3 hP2' hC2' hS2' hF2' r0 r1 r2 r3 r4 r5 r6 rf c2
    cases bb with
    | false =>
     go_wp2
     refine bodyPost_ret (v:=.tuple #[.agg #[.string ⟨#[]⟩,.string ⟨#[]⟩,.string ⟨#[]⟩,.int .i64 0,.slice none 0 0,.string ⟨#[]⟩,.bool false],.bool false]) (by simp[results,results67,go_sem,s0,s1,s2,s3,s4,s5,s6]) rfl ?_
     rw[hq2.out]
     exact NextPostW.no h'.out hRe'.out.symm g1'.out hlt hp3.out _ _ _ _ _ _ _
    | true =>
     obtain⟨T3,fv3,cv3,hP3,_,hS3,_⟩:=hp3.out
     obtain⟨inp3,und3,head3,⟨m3,pa3,q3,v3,fs3,b3,cl3⟩,len3,ch3,bad3⟩:=p3
     have d0:=hP3.c0
     have d1:=hP3.c1
     have d2:=hP3.c2
     have d3:=hP3.c3
     have d4:=hP3.c4
     have d5:=hP3.c5
     have d6:=hP3.c6
     have d7:=hP3.c7
     have d8:=hP3.c8
     have d9:=hP3.c9
     have d10:=hP3.c10
     have d11:=hP3.c11
     have d12:=hP3.c12
     have dz:=hP3.fz
     dsimp only at d0 d1 d2 d3 d4 d5 d6 d7 d8 d9 d10 d11 d12
     obtain⟨pf,capf,hfv,_⟩:=hP3.f
     subst hfv
     have hlt3:=hP3.lt
     have hR3:=cell_lt s0
     have d7':=d7
     clear hP3 hS3
     go_upto_region 8 with (fail)
     have g4:=Gr.alloc w3 (.cells #[.string ⟨m3.toArray⟩,.string ⟨pa3.toArray⟩,.string ⟨q3.toArray⟩,.int .i64 v3,.slice pf fs3.length capf,.string ⟨b3.toArray⟩,.bool cl3] 78)
     have y0:=cell_new7 w3 [.string ⟨m3.toArray⟩,.string ⟨pa3.toArray⟩,.string ⟨q3.toArray⟩,.int .i64 v3,.slice pf fs3.length capf,.string ⟨b3.toArray⟩,.bool cl3] 78 0 _ rfl
     have y1:=cell_new7 w3 [.string ⟨m3.toArray⟩,.string ⟨pa3.toArray⟩,.string ⟨q3.toArray⟩,.int .i64 v3,.slice pf fs3.length capf,.string ⟨b3.toArray⟩,.bool cl3] 78 1 _ rfl
     have y2:=cell_new7 w3 [.string ⟨m3.toArray⟩,.string ⟨pa3.toArray⟩,.string ⟨q3.toArray⟩,.int .i64 v3,.slice pf fs3.length capf,.string ⟨b3.toArray⟩,.bool cl3] 78 2 _ rfl
     have y3:=cell_new7 w3 [.string ⟨m3.toArray⟩,.string ⟨pa3.toArray⟩,.string ⟨q3.toArray⟩,.int .i64 v3,.slice pf fs3.length capf,.string ⟨b3.toArray⟩,.bool cl3] 78 3 _ rfl
     have y4:=cell_new7 w3 [.string ⟨m3.toArray⟩,.string ⟨pa3.toArray⟩,.string ⟨q3.toArray⟩,.int .i64 v3,.slice pf fs3.length capf,.string ⟨b3.toArray⟩,.bool cl3] 78 4 _ rfl
     have y5:=cell_new7 w3 [.string ⟨m3.toArray⟩,.string ⟨pa3.toArray⟩,.string ⟨q3.toArray⟩,.int .i64 v3,.slice pf fs3.length capf,.string ⟨b3.toArray⟩,.bool cl3] 78 5 _ rfl
     have y6:=cell_new7 w3 [.string ⟨m3.toArray⟩,.string ⟨pa3.toArray⟩,.string ⟨q3.toArray⟩,.int .i64 v3,.slice pf fs3.length capf,.string ⟨b3.toArray⟩,.bool cl3] 78 6 _ rfl
     replace d0:=g4.cell d0
     replace d1:=g4.cell d1
     replace d2:=g4.cell d2
     replace d3:=g4.cell d3
     replace d4:=g4.cell d4
     replace d5:=g4.cell d5
     replace d6:=g4.cell d6
     replace d7:=g4.cell d7
     replace d8:=g4.cell d8
     replace d9:=g4.cell d9
     replace d10:=g4.cell d10
     replace d11:=g4.cell d11
     replace d12:=g4.cell d12
     replace s0:=g4.cell s0
     replace s1:=g4.cell s1
     replace s2:=g4.cell s2
     replace s3:=g4.cell s3
     replace s4:=g4.cell s4
     replace s5:=g4.cell s5
     replace s6:=g4.cell s6
     have hB3:B<w3.heap.size:=hlt3
     replace dz:=λo=>(Below.frozen g4 (show (⟨B,o,none⟩:Addr).block<w3.heap.size from hB3)).trans (dz o)
     replace sf:=λo=>(Below.frozen g4 (show (⟨R,o,none⟩:Addr).block<w3.heap.size from hR3)).trans (sf o)
     have hQB:w3.heap.size≠B:=by omega
     have hRB:R≠B:=by have:=h'.out.lt;have:=hRe'.out;omega
     have hfin:=hid (λv0 v1 v2 v3' v4 v5 v6=>NextPostW.yes (W2:=(w3.alloc (.cells #[.string ⟨m3.toArray⟩,.string ⟨pa3.toArray⟩,.string ⟨q3.toArray⟩,.int .i64 v3,.slice pf fs3.length capf,.string ⟨b3.toArray⟩,.bool cl3] 78))) h'.out hRe'.out.symm g1'.out hlt hp3.out rfl rfl d7' g4 v0 v1 v2 v3' v4 v5 v6)
     clear hB3 hR3 hlt3 g4 d7'
     generalize (w3.alloc (.cells #[.string ⟨m3.toArray⟩,.string ⟨pa3.toArray⟩,.string ⟨q3.toArray⟩,.int .i64 v3,.slice pf fs3.length capf,.string ⟨b3.toArray⟩,.bool cl3] 78))=w4 at *
     go_upto_region 9 with (fail)
     have c13:=chB13 (T:=λk=>k=B) rfl w4 (.string ⟨inp3.toArray⟩) (.string ⟨#[]⟩) (.bool false) (.string ⟨#[]⟩) (.string ⟨#[]⟩) (.string ⟨#[]⟩) (.int .i64 0) (.slice none 0 0) (.string ⟨#[]⟩) (.bool false) (.int .i64 0) (.pointer none) (.int .i64 0)
     have s0':=s0
     have hRw:R<w4.heap.size:=cell_lt s0
     replace y0:=(c13.cell (cell_lt y0) hQB).trans y0
     replace y1:=(c13.cell (cell_lt y1) hQB).trans y1
     replace y2:=(c13.cell (cell_lt y2) hQB).trans y2
     replace y3:=(c13.cell (cell_lt y3) hQB).trans y3
     replace y4:=(c13.cell (cell_lt y4) hQB).trans y4
     replace y5:=(c13.cell (cell_lt y5) hQB).trans y5
     replace y6:=(c13.cell (cell_lt y6) hQB).trans y6
     replace s0:=(c13.cell (cell_lt s0) hRB).trans s0
     replace s1:=(c13.cell (cell_lt s1) hRB).trans s1
     replace s2:=(c13.cell (cell_lt s2) hRB).trans s2
     replace s3:=(c13.cell (cell_lt s3) hRB).trans s3
     replace s4:=(c13.cell (cell_lt s4) hRB).trans s4
     replace s5:=(c13.cell (cell_lt s5) hRB).trans s5
     replace s6:=(c13.cell (cell_lt s6) hRB).trans s6
     replace sf:=λo=>(c13.frozen (p:=⟨R,o,none⟩) hRw hRB).trans (sf o)
     clear c13 d0 d1 d2 d3 d4 d5 d6 d7 d8 d9 d10 d11 d12 dz
     generalize (((((((((((((w4.setCell ⟨B,0,none⟩ (.string ⟨inp3.toArray⟩)).setCell ⟨B,1,none⟩ (.string ⟨#[]⟩)).setCell ⟨B,2,none⟩ (.bool false)).setCell ⟨B,3,none⟩ (.string ⟨#[]⟩)).setCell ⟨B,4,none⟩ (.string ⟨#[]⟩)).setCell ⟨B,5,none⟩ (.string ⟨#[]⟩)).setCell ⟨B,6,none⟩ (.int .i64 0)).setCell ⟨B,7,none⟩ (.slice none 0 0)).setCell ⟨B,8,none⟩ (.string ⟨#[]⟩)).setCell ⟨B,9,none⟩ (.bool false)).setCell ⟨B,10,none⟩ (.int .i64 0)).setCell ⟨B,11,none⟩ (.pointer none)).setCell ⟨B,12,none⟩ (.int .i64 0))=w5 at hfin y0 y1 y2 y3 y4 y5 y6 s0 s1 s2 s3 s4 s5 s6 sf ⊢
     clear s0' hRw
     go_wp2
     refine bodyPost_ret (v:=.tuple #[.agg #[.string ⟨m3.toArray⟩,.string ⟨pa3.toArray⟩,.string ⟨q3.toArray⟩,.int .i64 v3,.slice pf fs3.length capf,.string ⟨b3.toArray⟩,.bool cl3],.bool true]) (by simp[results,results67,go_sem,s0,s1,s2,s3,s4,s5,s6]) rfl ?_
     rw[hq2.out]
     exact hfin.out _ _ _ _ _ _ _
 ·have hbI:((p.bad:Int) != 0)=true:=by rw[bne_iff_ne];omega
  have hq:=hid (show nextQ p=(p,none) by unfold nextQ;rw[if_pos hb])
  clear hb h1
  go_wp2
  refine bodyPost_ret (v:=.tuple #[.agg #[.string ⟨#[]⟩,.string ⟨#[]⟩,.string ⟨#[]⟩,.int .i64 0,.slice none 0 0,.string ⟨#[]⟩,.bool false],.bool false]) (by simp[results,results67,go_sem,r0,r1,r2,r3,r4,r5,r6]) rfl ?_
  rw[hq.out]
  exact NextPostW.no h'.out hRe'.out.symm g1'.out hlt (PsPost.of_gr h1'.out (Gr.refl _)) _ _ _ _ _ _ _
end Go.Proofs.YtadobobfjnmdlaaGreatDoor
namespace Go
open Go.RowKit
def New (W W':World) (k:Nat):Prop:=W.heap.size≤k∧k<W'.heap.size
def Add (T:Nat→Prop) (W W':World) (k:Nat):Prop:=T k∨New W W' k
def Pst {α:Type} (At:(Nat→Prop)→World→α→Prop) (T:Nat→Prop) (W:World) (x:α) (W':World):Prop:=At (Add T W W') W' x∧Ch T W W'
structure Kin {α:Type} (At:(Nat→Prop)→World→α→Prop):Prop where
 mono:∀ {T T':Nat→Prop} {W:World} {x:α},At T W x→(∀ k,T k→T' k)→(∀ k,T' k→k<W.heap.size)→At T' W x
 frame:∀ {T S:Nat→Prop} {W W':World} {x:α},At T W x→Ch S W W'→(∀ k,T k→¬S k)→At T W' x
 lt:∀ {T:Nat→Prop} {W:World} {x:α},At T W x→∀ k,T k→k<W.heap.size
theorem Ch.trans_new {T:Nat→Prop} {W W1 W2:World} (h:Ch T W W1) (k:Ch (Add T W W1) W1 W2):Ch T W W2 :=
 ⟨k.os.trans h.os,k.tape.trans h.tape,k.output.trans h.output,Nat.le_trans h.size k.size,λj hj hn =>
  (k.block j (Nat.lt_of_lt_of_le hj h.size) (λe=>e.elim hn (λe=>absurd hj (Nat.not_lt.2 e.1)))).trans (h.block j hj hn)⟩
theorem Ch.drop_new {T:Nat→Prop} {W W1 W2:World} {S:Nat→Prop} (h:Ch T W W1) (k:Ch S W1 W2) (hs:∀ j,S j→T j∨W.heap.size≤j):Ch T W W2 :=
 ⟨k.os.trans h.os,k.tape.trans h.tape,k.output.trans h.output,Nat.le_trans h.size k.size,λj hj hn =>
  (k.block j (Nat.lt_of_lt_of_le hj h.size) (λe=>(hs j e).elim hn (λe=>absurd hj (Nat.not_lt.2 e)))).trans (h.block j hj hn)⟩
theorem Kin.gr {α:Type} {At:(Nat→Prop)→World→α→Prop} (F:Kin At) {T:Nat→Prop} {W W':World} {x:α} (h:At T W x) (g:Gr W W'):At T W' x :=
 F.frame h (g.to_ch (λ_=>False)) (λ_ _ e=>e)
theorem Kin.wide {α:Type} {At:(Nat→Prop)→World→α→Prop} (F:Kin At) {T:Nat→Prop} {W W0:World} {x:α} (h:At T W x) (hs:W0.heap.size≤W.heap.size):At (Add T W0 W) W x :=
 F.mono h (λ_ e=>.inl e) (λk e=>e.elim (F.lt h k) (λe=>e.2))
theorem Kin.pst {α:Type} {At:(Nat→Prop)→World→α→Prop} (F:Kin At) {T:Nat→Prop} {W W':World} {x:α} (h:At T W' x) (c:Ch T W W'):Pst At T W x W':=⟨F.wide h c.size,c⟩
theorem Kin.of_gr {α:Type} {At:(Nat→Prop)→World→α→Prop} (F:Kin At) {T:Nat→Prop} {W W':World} {x:α} (h:At T W x) (g:Gr W W'):Pst At T W x W':=F.pst (F.gr h g) (g.to_ch T)
theorem Kin.trans {α:Type} {At:(Nat→Prop)→World→α→Prop} (F:Kin At) {T:Nat→Prop} {W W1 W2:World} {x y:α} (h:Pst At T W x W1) (k:Pst At (Add T W W1) W1 y W2):Pst At T W y W2:=by
 have s1:=h.2.size
 have s2:=k.2.size
 refine⟨F.mono k.1 (λj e=>?_) (λj e=>?_),h.2.trans_new k.2⟩
 ·rcases e with (e | e) | e
  ·exact .inl e
  ·exact .inr ⟨e.1,Nat.lt_of_lt_of_le e.2 s2⟩
  ·exact .inr ⟨Nat.le_trans s1 e.1,e.2⟩
 ·rcases e with e | e
  ·exact Nat.lt_of_lt_of_le (F.lt h.1 j (.inl e)) s2
  ·exact e.2
theorem Kin.behind {α:Type} {At:(Nat→Prop)→World→α→Prop} (F:Kin At) {T:Nat→Prop} {W W1 W2:World} {x:α} (h:Pst At T W x W1) (g:Gr W1 W2):Pst At T W x W2:=F.trans h (F.of_gr h.1 g)
theorem Kin.ahead {α:Type} {At:(Nat→Prop)→World→α→Prop} (F:Kin At) {T:Nat→Prop} {W W1 W2:World} {x:α} (g:Gr W W1) (h:Pst At T W1 x W2):Pst At T W x W2:=by
 have s1:=Below.size g
 have s2:=h.2.size
 refine⟨F.mono h.1 (λj e=>?_) (λj e=>?_),(g.to_ch T).trans h.2⟩
 ·rcases e with e | e
  ·exact .inl e
  ·exact .inr ⟨Nat.le_trans s1 e.1,e.2⟩
 ·rcases e with e | e
  ·exact F.lt h.1 j (.inl e)
  ·exact e.2
def recol (c:Nat→Nat) (W W':World) (j:Nat) (k:Nat):Nat:=if W.heap.size≤k∧k<W'.heap.size then j else c k
theorem recol_old {c:Nat→Nat} {W W':World} {j k:Nat} (h:k<W.heap.size):recol c W W' j k=c k:=by unfold recol;rw[if_neg (by omega)]
theorem recol_new {c:Nat→Nat} {W W':World} {j k:Nat} (h:W.heap.size≤k) (h2:k<W'.heap.size):recol c W W' j k=j:=by unfold recol;rw[if_pos ⟨h,h2⟩]
theorem recol_cases (c:Nat→Nat) (W W':World) (j k:Nat):(New W W' k∧recol c W W' j k=j)∨(¬New W W' k∧recol c W W' j k=c k):=by
 by_cases h:W.heap.size≤k∧k<W'.heap.size
 ·exact .inl ⟨h,by unfold recol;rw[if_pos h]⟩
 ·exact .inr ⟨h,by unfold recol;rw[if_neg h]⟩
theorem Kin.own {α:Type} {At:(Nat→Prop)→World→α→Prop} (F:Kin At) {c:Nat→Nat} {W W':World} {j:Nat} {x:α} (h:Pst At (λk=>c k=j) W x W') (hc:∀ k,c k≠0→k<W.heap.size) (hj:j≠0):At (λk=>recol c W W' j k=j) W' x:=by
 refine F.mono h.1 (λk e=>?_) (λk e=>?_)
 ·rcases e with e | e
  ·have e':c k=j:=e
   have:k<W.heap.size:=hc k (by rw[e'];exact hj)
   show recol c W W' j k=j
   rw[recol_old this];exact e
  ·exact recol_new e.1 e.2
 ·rcases recol_cases c W W' j k with⟨h1,_⟩ | ⟨_,h2⟩
  ·exact h1.2
  ·have e':c k=j:=h2▸e
   exact Nat.lt_of_lt_of_le (hc k (by rw[e'];exact hj)) h.2.size
theorem Kin.rest {α:Type} {At:(Nat→Prop)→World→α→Prop} (F:Kin At) {c:Nat→Nat} {W W':World} {i j:Nat} {x:α} {S:Nat→Prop} (h:At (λk=>c k=i) W x) (hc:Ch S W W') (hs:∀ k,S k→c k=j) (hij:i≠j) (hi:i≠0) (hl:∀ k,c k≠0→k<W.heap.size):At (λk=>recol c W W' j k=i) W' x:=by
 refine F.mono (F.frame h hc (λk e es=>?_)) (λk e=>?_) (λk e=>?_)
 ·exact hij ((show c k=i from e).symm.trans (hs k es))
 ·have e':c k=i:=e
  show recol c W W' j k=i
  rw[recol_old (hl k (by rw[e'];exact hi))];exact e
 ·rcases recol_cases c W W' j k with⟨_,h2⟩ | ⟨_,h2⟩
  ·exact absurd ((show recol c W W' j k=i from e).symm.trans h2) hij
  ·have e':c k=i:=h2▸e
   exact Nat.lt_of_lt_of_le (hl k (by rw[e'];exact hi)) hc.size
theorem recol_lt {c:Nat→Nat} {W W':World} {j:Nat} (hl:∀ k,c k≠0→k<W.heap.size) (hs:W.heap.size≤W'.heap.size):∀ k,recol c W W' j k≠0→k<W'.heap.size:=by
 intro k e
 rcases recol_cases c W W' j k with⟨h1,_⟩ | ⟨_,h2⟩
 ·exact h1.2
 ·exact Nat.lt_of_lt_of_le (hl k (by rw[h2] at e;exact e)) hs
