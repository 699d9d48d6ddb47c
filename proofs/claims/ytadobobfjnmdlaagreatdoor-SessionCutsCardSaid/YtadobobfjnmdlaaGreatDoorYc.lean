/-
  Requests: the parser in memory.
-/
import Derived.Test.YtadobobfjnmdlaaGreatDoorKh4
import Derived.Deep.RegionHeld3
set_option linter.unnecessarySimpa false
set_option linter.unusedVariables false
set_option linter.unusedSimpArgs false
set_option maxHeartbeats 16000000
set_option maxRecDepth 100000
open Go.Lib (hid)
open Go.Proofs.Tryz
namespace Go.Proofs.YtadobobfjnmdlaaGreatDoor
open Go.RowKit
def ChAt (T:Nat→Prop) (W:World) (o:Option Ck) (cv:Value):Prop:=match o with
 | none=>cv=.pointer none
 | some c=>∃ b lv dv,cv=.pointer (some ⟨b,0,none⟩)∧Rd b W c lv dv∧CkOk c∧5<b∧∀ k,Fp b lv dv k→T k
def FOut (T:Nat→Prop) (v:Value):Prop:=∀ a n c,v=.slice (some a) n c→¬T a.block
structure PsAt (B:Nat) (T:Nat→Prop) (W:World) (p:Ps) (fv cv:Value):Prop where
 c0:W.cell? ⟨B,0,none⟩=some (.string ⟨p.inp.toArray⟩)
 c1:W.cell? ⟨B,1,none⟩=some (.string ⟨p.und.toArray⟩)
 c2:W.cell? ⟨B,2,none⟩=some (.bool p.head)
 c3:W.cell? ⟨B,3,none⟩=some (.string ⟨p.r.m.toArray⟩)
 c4:W.cell? ⟨B,4,none⟩=some (.string ⟨p.r.p.toArray⟩)
 c5:W.cell? ⟨B,5,none⟩=some (.string ⟨p.r.q.toArray⟩)
 c6:W.cell? ⟨B,6,none⟩=some (.int .i64 p.r.v)
 c7:W.cell? ⟨B,7,none⟩=some fv
 c8:W.cell? ⟨B,8,none⟩=some (.string ⟨p.r.b.toArray⟩)
 c9:W.cell? ⟨B,9,none⟩=some (.bool p.r.c)
 c10:W.cell? ⟨B,10,none⟩=some (.int .i64 p.len)
 c11:W.cell? ⟨B,11,none⟩=some cv
 c12:W.cell? ⟨B,12,none⟩=some (.int .i64 p.bad)
 fz:∀ o,W.frozen? ⟨B,o,none⟩=false
 f:FieldsAt W fv p.r.fs
 fo:FOut T fv
 ch:ChAt (λk=>T k∧k≠B) W p.ch cv
 tb:T B
 tl:∀ k,T k→B≤k∧k<W.heap.size
 gb:5<B
 fb:∀ a n c,fv=.slice (some a) n c→a.block<W.heap.size
theorem FieldsAt.ch {T:Nat→Prop} {W W':World} {v:Value} {fs:List Fl} (h:FieldsAt W v fs) (hc:Ch T W W') (ho:FOut T v):FieldsAt W' v fs:=by
 obtain⟨p,cap,e,hcs⟩:=h
 refine⟨p,cap,e,λi hi=>?_⟩
 obtain⟨b,off,hp,h1,h2⟩:=hcs i hi
 have hb:¬T b:=ho ⟨b,off,none⟩ _ _ (by rw[e,hp])
 exact⟨b,off,hp,(hc.cell (p:=⟨b,off+i*2,none⟩) (cell_lt h1) hb).trans h1,(hc.cell (p:=⟨b,off+i*2+1,none⟩) (cell_lt h2) hb).trans h2⟩
theorem ChAt.gr {T:Nat→Prop} {W W':World} {o:Option Ck} {cv:Value} (h:ChAt T W o cv) (hg:Gr W W'):ChAt T W' o cv:=by
 cases o with
 | none=>exact h
 | some c =>
  obtain⟨b,lv,dv,h1,h2,h3⟩:=h
  exact⟨b,lv,dv,h1,h2.gr hg,h3⟩
theorem ChAt.ch {T S:Nat→Prop} {W W':World} {o:Option Ck} {cv:Value} (h:ChAt T W o cv) (hc:Ch S W W') (hd:∀ k,S k→¬T k):ChAt T W' o cv:=by
 cases o with
 | none=>exact h
 | some c =>
  obtain⟨b,lv,dv,h1,h2,h3,h4,h5⟩:=h
  exact⟨b,lv,dv,h1,h2.ch hc (λk hk hf=>hd k hk (h5 k hf)),h3,h4,h5⟩
theorem PsAt.lt {B:Nat} {T:Nat→Prop} {W:World} {p:Ps} {fv cv:Value} (h:PsAt B T W p fv cv):B<W.heap.size:=cell_lt h.c0
theorem PsAt.gr {B:Nat} {T:Nat→Prop} {W W':World} {p:Ps} {fv cv:Value} (h:PsAt B T W p fv cv) (hg:Gr W W'):PsAt B T W' p fv cv :=
 ⟨hg.cell h.c0,hg.cell h.c1,hg.cell h.c2,hg.cell h.c3,hg.cell h.c4,hg.cell h.c5,hg.cell h.c6,hg.cell h.c7,hg.cell h.c8,hg.cell h.c9,hg.cell h.c10,hg.cell h.c11,hg.cell h.c12,
  λo=>(Below.frozen hg (show (⟨B,o,none⟩:Addr).block<W.heap.size from h.lt)).trans (h.fz o),h.f.gr hg,h.fo,h.ch.gr hg,h.tb,λk hk=>⟨(h.tl k hk).1,Nat.lt_of_lt_of_le (h.tl k hk).2 (Below.size hg)⟩,h.gb,λa n c e=>Nat.lt_of_lt_of_le (h.fb a n c e) (Below.size hg)⟩
theorem PsAt.ch_out {B:Nat} {T S:Nat→Prop} {W W':World} {p:Ps} {fv cv:Value} (h:PsAt B T W p fv cv) (hc:Ch S W W') (hd:∀ k,S k→¬T k) (hf:FOut S fv):PsAt B T W' p fv cv:=by
 have hB:¬S B:=λe=>hd B e h.tb
 have cell:∀ {o v},W.cell? ⟨B,o,none⟩=some v→W'.cell? ⟨B,o,none⟩=some v:=fun {o v} hh=>(hc.cell (p:=⟨B,o,none⟩) h.lt hB).trans hh
 exact⟨cell h.c0,cell h.c1,cell h.c2,cell h.c3,cell h.c4,cell h.c5,cell h.c6,cell h.c7,cell h.c8,cell h.c9,cell h.c10,cell h.c11,cell h.c12,
  λo=>(hc.frozen (p:=⟨B,o,none⟩) h.lt hB).trans (h.fz o),h.f.ch hc hf,h.fo,h.ch.ch hc (λk hk ht=>hd k hk ht.1),h.tb,λk hk=>⟨(h.tl k hk).1,Nat.lt_of_lt_of_le (h.tl k hk).2 hc.size⟩,h.gb,λa n c e=>Nat.lt_of_lt_of_le (h.fb a n c e) hc.size⟩
def PsPost (B:Nat) (T:Nat→Prop) (W:World) (p':Ps) (W':World):Prop :=
 ∃ T' fv cv,PsAt B T' W' p' fv cv∧Ch T W W'∧(∀ k,T' k→T k∨W.heap.size≤k)∧∀ a n c,fv=.slice (some a) n c→(∃ n0 c0,W.cell? ⟨B,7,none⟩=some (.slice (some a) n0 c0))∨W.heap.size≤a.block
theorem PsPost.trans {B:Nat} {T:Nat→Prop} {W W1 W2:World} {p1 p2:Ps} (h:PsPost B T W p1 W1) (k:∀ T1 fv cv,PsAt B T1 W1 p1 fv cv→PsPost B T1 W1 p2 W2):PsPost B T W p2 W2:=by
 obtain⟨T1,fv1,cv1,h1,h2,h3,h4⟩:=h
 obtain⟨T2,fv2,cv2,k1,k2,k3,k4⟩:=k T1 fv1 cv1 h1
 have hs:=h2.size
 refine⟨T2,fv2,cv2,k1,?_,λj hj=>?_,λa n c e=>(k4 a n c e).elim (λ⟨n0,c0,e2⟩=>h4 a n0 c0 (Option.some.inj (h1.c7.symm.trans e2))) (λe=>.inr (by omega))⟩
 ·refine⟨k2.os.trans h2.os,k2.tape.trans h2.tape,k2.output.trans h2.output,Nat.le_trans h2.size k2.size,λj hj hn=>?_⟩
  have:¬T1 j:=λe=>(h3 j e).elim hn (by omega)
  exact (k2.block j (by omega) this).trans (h2.block j hj hn)
 ·rcases k3 j hj with e | e
  ·exact h3 j e
  ·exact .inr (by omega)
theorem PsPost.G {B:Nat} {T:Nat→Prop} {W W1:World} {p p':Ps} {fv cv:Value} (h:PsPost B T W p' W1) (hp:PsAt B T W p fv cv) (hG:G W):G W1:=by
 obtain⟨_,_,_,_,h2,_,_⟩:=h
 exact hG.ch h2 (λg hg hk=>by have:=(hp.tl g hk).1;have:=hp.gb;omega)
theorem PsPost.of_gr {B:Nat} {T:Nat→Prop} {W W':World} {p:Ps} {fv cv:Value} (hp:PsAt B T W p fv cv) (hg:Gr W W'):PsPost B T W p W' :=
 ⟨T,fv,cv,hp.gr hg,hg.to_ch T,λ_ hk=>.inl hk,λ_a n c e=>.inl ⟨n,c,e▸hp.c7⟩⟩
theorem PsPost.ahead {B:Nat} {T:Nat→Prop} {W W1 W2:World} {p':Ps} (hB:B<W.heap.size) (hg:Gr W W1) (h:PsPost B T W1 p' W2):PsPost B T W p' W2:=by
 obtain⟨T2,fv,cv,h1,h2,h3,h4⟩:=h
 have hs:=Below.size hg
 exact⟨T2,fv,cv,h1,(hg.to_ch T).trans h2,λk hk=>(h3 k hk).imp id (λe=>by omega),λa n c e=>(h4 a n c e).elim (λ⟨n0,c0,e2⟩=>.inl ⟨n0,c0,(Below.cell hg (p:=⟨B,7,none⟩) hB).symm.trans e2⟩) (λe=>.inr (by omega))⟩
theorem PsPost.behind {B:Nat} {T:Nat→Prop} {W W1 W2:World} {p':Ps} (h:PsPost B T W p' W1) (hg:Gr W1 W2):PsPost B T W p' W2:=by
 obtain⟨T2,fv,cv,h1,h2,h3,h4⟩:=h
 exact⟨T2,fv,cv,h1.gr hg,h2.trans (hg.to_ch T),h3,h4⟩
theorem Ch.putB {B o:Nat} (W:World) (v:Value):Ch (λk=>k=B) W (W.setCell ⟨B,o,none⟩ v):=Ch.setCell (T:=λk=>k=B) W (a:=⟨B,o,none⟩) rfl v
theorem ChAt.put {T:Nat→Prop} {B:Nat} {W:World} {o:Option Ck} {cv:Value} (h:ChAt (λk=>T k∧k≠B) W o cv) (j:Nat) (v:Value):ChAt (λk=>T k∧k≠B) (W.setCell ⟨B,j,none⟩ v) o cv :=
 h.ch (Ch.putB W v) (λ_ hk ht=>ht.2 hk)
theorem FieldsAt.putB {T:Nat→Prop} {B:Nat} {W:World} {fv:Value} {fs:List Fl} (h:FieldsAt W fv fs) (ho:FOut T fv) (hT:T B) (j:Nat) (v:Value):FieldsAt (W.setCell ⟨B,j,none⟩ v) fv fs :=
 h.ch (Ch.putB W v) (λa n c e hk=>ho a n c e (by rw[show a.block=B from hk];exact hT))
attribute [local go_sem] Oper.semAt_some
theorem PsAt.two {B:Nat} {T:Nat→Prop} {W:World} {p:Ps} {fv cv:Value} (h:PsAt B T W p fv cv) (i u:List UInt8) :
  PsAt B T ((W.setCell ⟨B,1,none⟩ (.string ⟨u.toArray⟩)).setCell ⟨B,0,none⟩ (.string ⟨i.toArray⟩)) { p with inp:=i,und:=u } fv cv:=by
 refine⟨?_,?_,?_,?_,?_,?_,?_,?_,?_,?_,?_,?_,?_,λo=>by simp[go_sem,h.fz],(h.f.putB h.fo h.tb 1 _).putB h.fo h.tb 0 _,h.fo,(h.ch.put 1 _).put 0 _,h.tb,λk hk=>⟨(h.tl k hk).1,by simpa using (h.tl k hk).2⟩,h.gb,λa n c e=>by simpa using h.fb a n c e⟩
 all_goals simp[go_sem,h.c0,h.c1,h.c2,h.c3,h.c4,h.c5,h.c6,h.c7,h.c8,h.c9,h.c10,h.c11,h.c12]
theorem PsAt.inp {B:Nat} {T:Nat→Prop} {W:World} {p:Ps} {fv cv:Value} (h:PsAt B T W p fv cv) (i:List UInt8) :
  PsAt B T (W.setCell ⟨B,0,none⟩ (.string ⟨i.toArray⟩)) { p with inp:=i } fv cv:=by
 refine⟨?_,?_,?_,?_,?_,?_,?_,?_,?_,?_,?_,?_,?_,λo=>by simp[go_sem,h.fz],h.f.putB h.fo h.tb 0 _,h.fo,h.ch.put 0 _,h.tb,λk hk=>⟨(h.tl k hk).1,by simpa using (h.tl k hk).2⟩,h.gb,λa n c e=>by simpa using h.fb a n c e⟩
 all_goals simp[go_sem,h.c0,h.c1,h.c2,h.c3,h.c4,h.c5,h.c6,h.c7,h.c8,h.c9,h.c10,h.c11,h.c12]
theorem PsAt.sbad {B:Nat} {T:Nat→Prop} {W:World} {p:Ps} {fv cv:Value} (h:PsAt B T W p fv cv) (n:Nat) :
  PsAt B T (W.setCell ⟨B,12,none⟩ (.int .i64 n)) { p with bad:=n } fv cv:=by
 refine⟨?_,?_,?_,?_,?_,?_,?_,?_,?_,?_,?_,?_,?_,λo=>by simp[go_sem,h.fz],h.f.putB h.fo h.tb 12 _,h.fo,h.ch.put 12 _,h.tb,λk hk=>⟨(h.tl k hk).1,by simpa using (h.tl k hk).2⟩,h.gb,λa n c e=>by simpa using h.fb a n c e⟩
 all_goals simp[go_sem,h.c0,h.c1,h.c2,h.c3,h.c4,h.c5,h.c6,h.c7,h.c8,h.c9,h.c10,h.c11,h.c12]
theorem PsAt.shead {B:Nat} {T:Nat→Prop} {W:World} {p:Ps} {fv cv:Value} (h:PsAt B T W p fv cv) (b:Bool) :
  PsAt B T (W.setCell ⟨B,2,none⟩ (.bool b)) { p with head:=b } fv cv:=by
 refine⟨?_,?_,?_,?_,?_,?_,?_,?_,?_,?_,?_,?_,?_,λo=>by simp[go_sem,h.fz],h.f.putB h.fo h.tb 2 _,h.fo,h.ch.put 2 _,h.tb,λk hk=>⟨(h.tl k hk).1,by simpa using (h.tl k hk).2⟩,h.gb,λa n c e=>by simpa using h.fb a n c e⟩
 all_goals simp[go_sem,h.c0,h.c1,h.c2,h.c3,h.c4,h.c5,h.c6,h.c7,h.c8,h.c9,h.c10,h.c11,h.c12]
theorem PsAt.chT {B o:Nat} {T:Nat→Prop} {W:World} {p:Ps} {fv cv:Value} (h:PsAt B T W p fv cv) (v:Value):Ch T W (W.setCell ⟨B,o,none⟩ v):=Ch.setCell W (a:=⟨B,o,none⟩) h.tb v
theorem PsPost.put1 {B o:Nat} {T:Nat→Prop} {W:World} {p p':Ps} {fv cv:Value} (h:PsAt B T W p fv cv) (v:Value) (h':PsAt B T (W.setCell ⟨B,o,none⟩ v) p' fv cv):PsPost B T W p' (W.setCell ⟨B,o,none⟩ v) :=
 ⟨T,fv,cv,h',h.chT v,λ_ hk=>.inl hk,λ_a n c e=>.inl ⟨n,c,e▸h.c7⟩⟩
theorem pfeed_any (B:Nat) (T:Nat→Prop) (p:Ps) (fv cv:Value) (s:List UInt8) (W:World) (h:PsAt B T W p fv cv) (hl:p.inp.length+s.length≤4611686018427387904) :
  Calls prog 39 #[.pointer (some ⟨B,0,none⟩),.string ⟨s.toArray⟩] W λe W'=>e=.returned (.tuple #[])∧PsPost B T W (feedQ p s) W':=by
 have h':=hid h
 have c0:=h.c0
 have c12:=h.c12
 have fz:=h.fz
 by_cases hb:p.bad=0
 ·have hq:=hid (show feedQ p s={ p with inp:=p.inp++s } by unfold feedQ;rw[if_pos hb])
  rw[hb] at c12
  have hcat:(⟨p.inp.toArray⟩:ByteArray)++⟨s.toArray⟩=⟨(p.inp++s).toArray⟩:=cat_mk p.inp s
  have hcl:¬9223372036854775807<p.inp.length+s.length:=by omega
  clear hb h
  go_enter func39,ntmps39
  go_wp2
  go_end0
  exact⟨rfl,by rw[hq.out];exact PsPost.put1 h'.out _ (h'.out.inp _)⟩
 ·have hq:=hid (show feedQ p s=p by unfold feedQ;rw[if_neg hb])
  have hbI:((p.bad:Int)==0)=false:=beq_eq_false_iff_ne.2 (by omega)
  clear hb h
  go_enter func39,ntmps39
  go_wp2
  go_end0
  exact⟨rfl,by rw[hq.out];exact PsPost.of_gr h'.out (Gr.refl _)⟩
theorem takes_any (B:Nat) (T:Nat→Prop) (p:Ps) (fv cv:Value) (n:Nat) (W:World) (h:PsAt B T W p fv cv) (hn:n≤p.inp.length) (hl:p.inp.length+p.und.length≤4611686018427387904) :
  Calls prog 107 #[.pointer (some ⟨B,0,none⟩),.int .i64 n] W λe W'=>e=.returned (.tuple #[])∧PsPost B T W (takesQ p n) W':=by
 have h':=hid h
 have hnI:(n:Int)≤p.inp.length:=by omega
 have hex1:(⟨p.inp.toArray⟩:ByteArray).extract 0 n=⟨(p.inp.take n).toArray⟩:=by rw[extract_mk];simp
 have hex2:(⟨p.inp.toArray⟩:ByteArray).extract n p.inp.length=⟨(p.inp.drop n).toArray⟩:=by rw[extract_mk,List.take_of_length_le (Nat.le_refl _)]
 have htl:(p.inp.take n).length≤p.inp.length:=by rw[List.length_take];omega
 obtain⟨x1,hx1⟩:∃ x,p.inp.take n=x:=⟨_,rfl⟩
 obtain⟨x2,hx2⟩:∃ x,p.inp.drop n=x:=⟨_,rfl⟩
 have hq:=hid (show takesQ p n={ p with inp:=x2,und:=p.und++x1 } by unfold takesQ;rw[hx1,hx2])
 rw[hx1] at hex1 htl
 rw[hx2] at hex2
 have hcat:(⟨p.und.toArray⟩:ByteArray)++⟨x1.toArray⟩=⟨(p.und++x1).toArray⟩:=cat_mk p.und x1
 have hcl:¬9223372036854775807<p.und.length+x1.length:=by omega
 haveI:Nonempty (Later (Gr W)):=⟨⟨W,Gr.refl W⟩⟩
 have t0:∀ x:Later (Gr W),x.w.cell? ⟨B,0,none⟩=some (.string ⟨p.inp.toArray⟩):=λx=>x.ok.cell h.c0
 have t1:∀ x:Later (Gr W),x.w.cell? ⟨B,1,none⟩=some (.string ⟨p.und.toArray⟩):=λx=>x.ok.cell h.c1
 clear h hx1 hx2 htl hn
 go_enter func107,ntmps107
 go_upto_region 0 with (fail)
 refine wp_region_later_tail (C:=Gr W) 13 (by kernel_rfl) (by kernel_rfl) (Gr.drew' _) ?_
 simp only[List.take_succ_cons,List.take_zero,List.drop_succ_cons,List.drop_zero]
 repeat (go_big_quiet_step (fail))
 refine wpQuiet_nil ?_
 intro w9 hg9
 have h9:=h'.out.gr hg9
 have h9':=hid h9
 have c0:=h9.c0
 have c1:=h9.c1
 have fz:=h9.fz
 have hg:=hid hg9
 clear t0 t1 h9 hg9
 go_wp2
 go_end0
 exact⟨rfl,by
  rw[hq.out]
  exact PsPost.ahead h'.out.lt hg.out ⟨T,fv,cv,h9'.out.two x2 (p.und++x1),(h9'.out.chT _).trans (Ch.setCell _ (a:=⟨B,0,none⟩) h9'.out.tb _),λ_ hk=>.inl hk,λa n c e=>.inl ⟨n,c,e▸h9'.out.c7⟩⟩⟩
theorem pbad_any (B:Nat) (T:Nat→Prop) (p:Ps) (fv cv:Value) (W:World) (h:PsAt B T W p fv cv) :
  Calls prog 69 #[.pointer (some ⟨B,0,none⟩)] W λe W'=>e=.returned (.int .i64 p.bad)∧W=W':=by
 have c12:=h.c12
 clear h
 go_enter func69,ntmps69
 go_wp2
 go_ret
 exact⟨rfl,rfl⟩
def readsP (p:Ps) (ls:List (List UInt8)):Ps:=match headQ ls with
 | .bad _=>p
 | .good r n ch=>{ p with r:=r,len:=n,ch:=if ch then some ck0 else p.ch }
def readsN (ls:List (List UInt8)):Nat:=match headQ ls with
 | .bad c=>c
 | .good _ _ _=>0
theorem readsQ_eq (p:Ps) (s:List UInt8):readsQ p s={ readsP p (splitE s) with bad:=readsN (splitE s) }:=by
 unfold readsQ readsP readsN
 cases headQ (splitE s) <;> rfl
theorem PsAt.sreq {B:Nat} {T:Nat→Prop} {W:World} {p:Ps} {fv cv:Value} (h:PsAt B T W p fv cv) (r:Rq) (n:Nat) (fv':Value) (hf:FieldsAt W fv' r.fs) (ho:FOut T fv') (hfb:∀ a n c,fv'=.slice (some a) n c→a.block<W.heap.size) :
  PsAt B T ((((((((W.setCell ⟨B,3,none⟩ (.string ⟨r.m.toArray⟩)).setCell ⟨B,4,none⟩ (.string ⟨r.p.toArray⟩)).setCell ⟨B,5,none⟩ (.string ⟨r.q.toArray⟩)).setCell ⟨B,6,none⟩ (.int .i64 r.v)).setCell ⟨B,7,none⟩ fv').setCell ⟨B,8,none⟩ (.string ⟨r.b.toArray⟩)).setCell ⟨B,9,none⟩ (.bool r.c)).setCell ⟨B,10,none⟩ (.int .i64 n))
   { p with r:=r,len:=n } fv' cv:=by
 refine⟨?_,?_,?_,?_,?_,?_,?_,?_,?_,?_,?_,?_,?_,λo=>by simp[go_sem,h.fz],?_,ho,?_,h.tb,λk hk=>⟨(h.tl k hk).1,by simpa using (h.tl k hk).2⟩,h.gb,λa n c e=>by simpa using hfb a n c e⟩
 ·simp[go_sem,h.c0]
 ·simp[go_sem,h.c1]
 ·simp[go_sem,h.c2]
 ·simp[go_sem,h.c3]
 ·simp[go_sem,h.c4]
 ·simp[go_sem,h.c5]
 ·simp[go_sem,h.c6]
 ·simp[go_sem,h.c7]
 ·simp[go_sem,h.c8]
 ·simp[go_sem,h.c9]
 ·simp[go_sem,h.c10]
 ·simp[go_sem,h.c11]
 ·simp[go_sem,h.c12]
 ·exact (((((((hf.putB ho h.tb 3 _).putB ho h.tb 4 _).putB ho h.tb 5 _).putB ho h.tb 6 _).putB ho h.tb 7 _).putB ho h.tb 8 _).putB ho h.tb 9 _).putB ho h.tb 10 _
 ·exact ((((((((h.ch.put 3 _).put 4 _).put 5 _).put 6 _).put 7 _).put 8 _).put 9 _).put 10 _)
theorem PsAt.schunk {B b:Nat} {T:Nat→Prop} {W:World} {p:Ps} {fv cv:Value} (h:PsAt B T W p fv cv) (hr:Rd b W ck0 (.slice none 0 0) (.slice none 0 0)) (hb:∀ k,T k→k<b) (hf:∀ a n c,fv=.slice (some a) n c→a.block<b) :
  PsAt B (λk=>T k∨k=b) (W.setCell ⟨B,11,none⟩ (.pointer (some ⟨b,0,none⟩))) { p with ch:=some ck0 } fv (.pointer (some ⟨b,0,none⟩)):=by
 have hBb:=hb B h.tb
 have hfp:∀ k,Fp b (.slice none 0 0) (.slice none 0 0) k→k=b:=λk hk=>by
  rcases hk with hk | hk | hk
  ·exact hk
  ·simp[Value.ownBlock] at hk
  ·simp[Value.ownBlock] at hk
 refine⟨?_,?_,?_,?_,?_,?_,?_,?_,?_,?_,?_,?_,?_,λo=>by simp[go_sem,h.fz],h.f.putB h.fo h.tb 11 _,λa n c e hk=>?_,?_,.inl h.tb,λk hk=>?_,h.gb,λa n c e=>by simpa using h.fb a n c e⟩
 ·simp[go_sem,h.c0]
 ·simp[go_sem,h.c1]
 ·simp[go_sem,h.c2]
 ·simp[go_sem,h.c3]
 ·simp[go_sem,h.c4]
 ·simp[go_sem,h.c5]
 ·simp[go_sem,h.c6]
 ·simp[go_sem,h.c7]
 ·simp[go_sem,h.c8]
 ·simp[go_sem,h.c9]
 ·simp[go_sem,h.c10]
 ·simp[go_sem,h.c11]
 ·simp[go_sem,h.c12]
 ·rcases hk with hk | hk
  ·exact h.fo a n c e hk
  ·have:=hf a n c e;omega
 ·refine⟨b,_,_,rfl,hr.ch (Ch.putB W _) (λk hk hf=>by have:=hfp k hf;omega),ck0_ok,by have:=h.gb;omega,λk hk=>?_⟩
  have:=hfp k hk
  exact⟨.inr this,by omega⟩
 ·rcases hk with hk | rfl
  ·exact⟨(h.tl k hk).1,by simpa using (h.tl k hk).2⟩
  ·exact⟨by omega,by simpa using hr.lt⟩
