/-
  Requests: the walk over reads. (Printed by mk_yf.py.)
-/
import Derived.Test.YtadobobfjnmdlaaGreatDoorYc
set_option linter.unnecessarySimpa false
set_option linter.unusedVariables false
set_option linter.unusedSimpArgs false
set_option maxHeartbeats 16000000
set_option maxRecDepth 100000
open Go.Lib (hid)
open Go.Proofs.Tryz
namespace Go.Proofs.YtadobobfjnmdlaaGreatDoor
open Go.RowKit
attribute [local go_sem] Oper.semAt_some
theorem fieldsL_texts:∀ {ls:List (List UInt8)} {fs:List Fl} {n:Nat},fieldsL ls=some fs→(∀ l∈ls,l.length≤n)→∀ f∈fs,f.1.length≤n∧f.2.length≤n
 | [],fs,n,h,_,f,hf=>by cases h;cases hf
 | l :: t,fs,n,h,hl,f,hf=>by
  unfold fieldsL at h
  split at h
  ·cases e:fieldsL t with
   | none=>rw[e] at h;cases h
   | some gs =>
    rw[e] at h
    cases h
    rcases List.mem_cons.1 hf with rfl | hf
    ·have:=hl l (by simp)
     exact⟨Nat.le_trans (parse_len1 l) this,Nat.le_trans (parse_len2 l) this⟩
    ·exact fieldsL_texts e (λx hx=>hl x (by simp[hx])) f hf
  ·cases h
theorem getB_le1 {fs:List Fl} {name:List UInt8} {n:Nat} (h:∀ f∈fs,f.2.length≤n):(getB fs name).1.length≤n:=by
 unfold getB
 cases hx:(fs.filter λf=>alikeB f.1 name) with
 | nil=>simp
 | cons a b =>
  have hm:a∈fs:=(List.mem_filter.1 (hx▸List.mem_cons_self:a∈fs.filter λf=>alikeB f.1 name)).1
  simpa using h a hm
theorem headQ_long {ls:List (List UInt8)} (h:33<ls.length):headQ ls=.bad 431:=by unfold headQ;rw[if_pos h]
theorem headQ_at {l0:List UInt8} {tl:List (List UInt8)} (h:¬33<(l0 :: tl).length):headQ (l0 :: tl)=match fieldsL tl with
  | none=>.bad 400
  | some fs=>if !(firstQ l0).2||(((firstQ l0).1.v==11&&(getB fs qHost).2 != 1)||decide (lengthQ fs<0)) then .bad 400
   else if decide (0<(getB fs qTra).2)&&((firstQ l0).1.v==10||(decide (0<(getB fs qLen).2)||(decide (1<(getB fs qTra).2)||!alikeB (getB fs qTra).1 qChunk))) then .bad 400
   else if 4096<lengthQ fs then .bad 413
   else .good { (firstQ l0).1 with fs:=fs,c:=(firstQ l0).1.v==10||fs.any closeF } (lengthQ fs).toNat (decide (0<(getB fs qTra).2)):=by
 have hv:∀ (a:Nat) (n:Nat),((a:Int)==(n:Int))=(a==n):=λa n=>by rw[Bool.eq_iff_iff,beq_iff_eq,beq_iff_eq];omega
 unfold headQ
 rw[if_neg h]
 simp only[List.tail_cons,List.headD_cons]
 cases fieldsL tl with
 | none=>rfl
 | some fs =>
  have h11:=hv (lineB l0).2.2.1 11
  have h10:=hv (lineB l0).2.2.1 10
  unfold firstQ
  dsimp only
  have e11:(((lineB l0).2.2.1:Int)==11)=((lineB l0).2.2.1==11):=h11
  have e10:(((lineB l0).2.2.1:Int)==10)=((lineB l0).2.2.1==10):=h10
  rw[e11,e10]
  rfl
structure RW (w:World) (R N:Nat) (rq:Rq) (xv fw:Value) (fs:List Fl) (W:World):Prop where
 c0:W.cell? ⟨R,0,none⟩=some (.string ⟨rq.m.toArray⟩)
 c1:W.cell? ⟨R,1,none⟩=some (.string ⟨rq.p.toArray⟩)
 c2:W.cell? ⟨R,2,none⟩=some (.string ⟨rq.q.toArray⟩)
 c3:W.cell? ⟨R,3,none⟩=some (.int .i64 rq.v)
 c4:W.cell? ⟨R,4,none⟩=some xv
 c5:W.cell? ⟨R,5,none⟩=some (.string ⟨rq.b.toArray⟩)
 c6:W.cell? ⟨R,6,none⟩=some (.bool rq.c)
 fz:∀ o,W.frozen? ⟨R,o,none⟩=false
 own:OwnF N W fw fs
 lt:R<W.heap.size
 rn:R<N
 le:w.heap.size≤R
 g:Gr w W
theorem RW.gr {w W W':World} {R N:Nat} {rq:Rq} {xv fw:Value} {fs:List Fl} (h:RW w R N rq xv fw fs W) (hg:Gr W W'):RW w R N rq xv fw fs W' :=
 ⟨hg.cell h.c0,hg.cell h.c1,hg.cell h.c2,hg.cell h.c3,hg.cell h.c4,hg.cell h.c5,hg.cell h.c6,λo=>(Below.frozen hg (show (⟨R,o,none⟩:Addr).block<W.heap.size from h.lt)).trans (h.fz o),
  h.own.ch (hg.to_ch (λ_=>False)) (λ_ e=>e.elim),Nat.lt_of_lt_of_le h.lt (Below.size hg),h.rn,h.le,h.g.trans hg⟩
theorem RW.put6 {w W:World} {R N:Nat} {rq:Rq} {xv fw:Value} {fs:List Fl} (h:RW w R N rq xv fw fs W) (c:Bool):RW w R N { rq with c:=c } xv fw fs (W.setCell ⟨R,6,none⟩ (.bool c)):=by
 refine⟨?_,?_,?_,?_,?_,?_,?_,λo=>by simp[go_sem,h.fz],?_,by simpa using h.lt,h.rn,h.le,h.g.setCell h.le _⟩
 ·simp[go_sem,h.c0]
 ·simp[go_sem,h.c1]
 ·simp[go_sem,h.c2]
 ·simp[go_sem,h.c3]
 ·simp[go_sem,h.c4]
 ·simp[go_sem,h.c5]
 ·simp[go_sem,h.c6]
 ·exact h.own.ch (Ch.putB W _) (λk e=>by have:=h.rn;omega)
theorem RW.put4 {w W:World} {R N:Nat} {rq:Rq} {xv fw:Value} {fs:List Fl} (h:RW w R N rq xv fw fs W):RW w R N rq fw fw fs (W.setCell ⟨R,4,none⟩ fw):=by
 refine⟨?_,?_,?_,?_,?_,?_,?_,λo=>by simp[go_sem,h.fz],?_,by simpa using h.lt,h.rn,h.le,h.g.setCell h.le _⟩
 ·simp[go_sem,h.c0]
 ·simp[go_sem,h.c1]
 ·simp[go_sem,h.c2]
 ·simp[go_sem,h.c3]
 ·simp[go_sem,h.c4]
 ·simp[go_sem,h.c5]
 ·simp[go_sem,h.c6]
 ·exact h.own.ch (Ch.putB W _) (λk e=>by have:=h.rn;omega)
theorem RW.fld {w W:World} {R N capv:Nat} {rq:Rq} {xv:Value} {pv:Option Addr} {fs:List Fl} (h:RW w R N rq xv (.slice pv fs.length capv) fs W) (k:Nat) (hk:k<fs.length) :
  ∃ b off,pv=some ⟨b,off,none⟩∧W.cell? ⟨b,off+k*2,none⟩=some (.string ⟨fs[k].1.toArray⟩)∧W.cell? ⟨b,off+k*2+1,none⟩=some (.string ⟨fs[k].2.toArray⟩):=by
 obtain⟨p9,c9,e9,hc9⟩:=h.own.at
 injection e9 with e9 e10 e11
 rw[e9]
 exact hc9 k hk
theorem RW.row {w W:World} {R N:Nat} {rq:Rq} {xv fw:Value} {fs:List Fl} (h:RW w R N rq xv fw fs W) {a:Addr} {n c:Nat} (e:fw=.slice (some a) n c):w.heap.size≤a.block:=by
 have:=(World.ownsRow.lt h.own a.block (by rw[e];rfl)).1
 have:=h.rn
 have:=h.le
 omega
theorem any_step {c0:Bool} {fs:List Fl} {k:Nat} {x:Fl} (hk:k<fs.length) (hx:fs[k]=x):(c0||(fs.take (k+1)).any closeF)=((c0||(fs.take k).any closeF)||(alikeB x.1 qConn&&hasB x.2 qClose)):=by
 rw[List.take_succ_eq_append_getElem hk,hx]
 simp[closeF,Bool.or_assoc]
theorem OwnF.out {N:Nat} {W:World} {v:Value} {fs:List Fl} {T:Nat→Prop} (h:OwnF N W v fs) (hT:∀ k,T k→k<N):FOut T v:=by
 intro a n c e hk
 obtain⟨h1,h2⟩:=h
 rcases h2 with⟨rfl,_⟩ | ⟨g,cap,cur,rfl,hb,_⟩
 ·cases e
 ·injection e with e1 _ _
  injection e1 with e1
  subst e1
  have:=hT _ hk
  dsimp only at this
  omega
theorem OwnF.in {N:Nat} {W:World} {v:Value} {fs:List Fl} (h:OwnF N W v fs):∀ a n c,v=.slice (some a) n c→a.block<W.heap.size:=by
 intro a n c e
 have:=World.ownsRow.lt h a.block (by rw[e];rfl)
 exact this.2
def ReadsPost (B:Nat) (T:Nat→Prop) (W:World) (p:Ps) (ls:List (List UInt8)) (e:Ending) (W':World):Prop:=e=.returned (.int .i64 (readsN ls))∧PsPost B T W (readsP p ls) W'
theorem ReadsPost.bad {B:Nat} {T:Nat→Prop} {W W':World} {p:Ps} {fv cv:Value} {ls:List (List UInt8)} (h:PsAt B T W p fv cv) (hg:Gr W W') (c:Nat) (z:Int) (hz:z=c) (hh:headQ ls=.bad c):ReadsPost B T W p ls (.returned (.int .i64 z)) W':=by
 subst hz
 unfold ReadsPost readsN readsP
 rw[hh]
 exact⟨rfl,PsPost.of_gr h hg⟩
theorem sreq_at {B R N:Nat} {T:Nat→Prop} {w wr:World} {p:Ps} {fv cv fw:Value} {m pa qu:List UInt8} {v:Int} {cc:Bool} {fs:List Fl} {n:Int} (h:PsAt B T w p fv cv) (hR:RW w R N ⟨m,pa,qu,v,[],[],cc⟩ fw fw fs wr) (hn:0≤n) :
  PsAt B T ((((((((wr.setCell ⟨B,3,none⟩ (.string ⟨m.toArray⟩)).setCell ⟨B,4,none⟩ (.string ⟨pa.toArray⟩)).setCell ⟨B,5,none⟩ (.string ⟨qu.toArray⟩)).setCell ⟨B,6,none⟩ (.int .i64 v)).setCell ⟨B,7,none⟩ fw).setCell ⟨B,8,none⟩ (.string ⟨#[]⟩)).setCell ⟨B,9,none⟩ (.bool cc)).setCell ⟨B,10,none⟩ (.int .i64 n))
   { p with r:=⟨m,pa,qu,v,fs,[],cc⟩,len:=n.toNat } fw cv:=by
 have:=(h.gr hR.g).sreq ⟨m,pa,qu,v,fs,[],cc⟩ n.toNat fw hR.own.at (hR.own.out (λk hk=>by have:=(h.tl k hk).2;have:=hR.le;have:=hR.rn;omega)) hR.own.in
 rw[show ((n.toNat:Nat):Int)=n by omega] at this
 exact this
theorem set8_ch {B:Nat} {T:Nat→Prop} (hT:T B) (wr:World) (v3 v4 v5 v6 v7 v8 v9 v10:Value):Ch T wr ((((((((wr.setCell ⟨B,3,none⟩ v3).setCell ⟨B,4,none⟩ v4).setCell ⟨B,5,none⟩ v5).setCell ⟨B,6,none⟩ v6).setCell ⟨B,7,none⟩ v7).setCell ⟨B,8,none⟩ v8).setCell ⟨B,9,none⟩ v9).setCell ⟨B,10,none⟩ v10) :=
 (((((((Ch.setCell wr (a:=⟨B,3,none⟩) hT _).trans (Ch.setCell _ (a:=⟨B,4,none⟩) hT _)).trans (Ch.setCell _ (a:=⟨B,5,none⟩) hT _)).trans (Ch.setCell _ (a:=⟨B,6,none⟩) hT _)).trans (Ch.setCell _ (a:=⟨B,7,none⟩) hT _)).trans (Ch.setCell _ (a:=⟨B,8,none⟩) hT _)).trans (Ch.setCell _ (a:=⟨B,9,none⟩) hT _)).trans (Ch.setCell _ (a:=⟨B,10,none⟩) hT _)
theorem ReadsPost.good {B R N:Nat} {T:Nat→Prop} {w wr:World} {p:Ps} {fv cv fw:Value} {ls:List (List UInt8)} {m pa qu:List UInt8} {v:Int} {cc:Bool} {fs:List Fl} {n:Int} (h:PsAt B T w p fv cv) (hR:RW w R N ⟨m,pa,qu,v,[],[],cc⟩ fw fw fs wr) (hn:0≤n)
  (hh:headQ ls=.good ⟨m,pa,qu,v,fs,[],cc⟩ n.toNat false) :
  ReadsPost B T w p ls (.returned (.int .i64 0)) ((((((((wr.setCell ⟨B,3,none⟩ (.string ⟨m.toArray⟩)).setCell ⟨B,4,none⟩ (.string ⟨pa.toArray⟩)).setCell ⟨B,5,none⟩ (.string ⟨qu.toArray⟩)).setCell ⟨B,6,none⟩ (.int .i64 v)).setCell ⟨B,7,none⟩ fw).setCell ⟨B,8,none⟩ (.string ⟨#[]⟩)).setCell ⟨B,9,none⟩ (.bool cc)).setCell ⟨B,10,none⟩ (.int .i64 n)):=by
 unfold ReadsPost readsN readsP
 rw[hh]
 exact⟨rfl,⟨T,fw,cv,sreq_at h hR hn,(hR.g.to_ch T).trans (set8_ch h.tb _ _ _ _ _ _ _ _ _),λ_ hk=>.inl hk,λa n c e=>.inr (hR.row e)⟩⟩
theorem ReadsPost.chunk {B R N b:Nat} {T:Nat→Prop} {w wr w3:World} {p:Ps} {fv cv fw:Value} {ls:List (List UInt8)} {m pa qu:List UInt8} {v:Int} {cc:Bool} {fs:List Fl} {n:Int} (h:PsAt B T w p fv cv) (hR:RW w R N ⟨m,pa,qu,v,[],[],cc⟩ fw fw fs wr) (hn:0≤n)
  (hh:headQ ls=.good ⟨m,pa,qu,v,fs,[],cc⟩ n.toNat true)
  (hb:((((((((wr.setCell ⟨B,3,none⟩ (.string ⟨m.toArray⟩)).setCell ⟨B,4,none⟩ (.string ⟨pa.toArray⟩)).setCell ⟨B,5,none⟩ (.string ⟨qu.toArray⟩)).setCell ⟨B,6,none⟩ (.int .i64 v)).setCell ⟨B,7,none⟩ fw).setCell ⟨B,8,none⟩ (.string ⟨#[]⟩)).setCell ⟨B,9,none⟩ (.bool cc)).setCell ⟨B,10,none⟩ (.int .i64 n)).heap.size=b)
  (hr:Rd b w3 ck0 (.slice none 0 0) (.slice none 0 0))
  (hg:Gr ((((((((wr.setCell ⟨B,3,none⟩ (.string ⟨m.toArray⟩)).setCell ⟨B,4,none⟩ (.string ⟨pa.toArray⟩)).setCell ⟨B,5,none⟩ (.string ⟨qu.toArray⟩)).setCell ⟨B,6,none⟩ (.int .i64 v)).setCell ⟨B,7,none⟩ fw).setCell ⟨B,8,none⟩ (.string ⟨#[]⟩)).setCell ⟨B,9,none⟩ (.bool cc)).setCell ⟨B,10,none⟩ (.int .i64 n)) w3) :
  ReadsPost B T w p ls (.returned (.int .i64 0)) (w3.setCell ⟨B,11,none⟩ (.pointer (some ⟨b,0,none⟩))):=by
 unfold ReadsPost readsN readsP
 rw[hh]
 have hsz:b=wr.heap.size:=by rw[←hb];simp
 have hwr:=Below.size hR.g
 have h1:=(sreq_at h hR hn).gr hg
 have hb1:∀ k,T k→k<b:=λk hk=>by have:=(h.tl k hk).2;omega
 refine⟨rfl,⟨_,fw,_,h1.schunk hr hb1 (λa n c e=>by have:=hR.own.in a n c e;omega),?_,λk hk=>?_,λa n c e=>.inr (hR.row e)⟩⟩
 ·exact (((hR.g.to_ch T).trans (set8_ch h.tb _ _ _ _ _ _ _ _ _)).trans (hg.to_ch T)).trans (Ch.setCell _ (a:=⟨B,11,none⟩) h.tb _)
 ·rcases hk with hk | rfl
  ·exact .inl hk
  ·exact .inr (by omega)
theorem reads_any (B:Nat) (T:Nat→Prop) (p:Ps) (fv cv:Value) (s:List UInt8) (w:World) (hG:G w) (h:PsAt B T w p fv cv) (hl:s.length≤100000) :
  Calls prog 106 #[.pointer (some ⟨B,0,none⟩),.string ⟨s.toArray⟩] w (ReadsPost B T w p (splitE s)):=by
 have hG':=hid hG
 have h':=hid h
 have hsp:=hid (split_any s w hG (by omega))
 obtain⟨l0,tl,hls⟩:∃ a b,splitE s=a :: b:=by
  cases e:splitE s with
  | nil=>exact absurd e (splitE_ne _)
  | cons a b=>exact⟨a,b,rfl⟩
 obtain⟨z1,z2⟩:=splitE_len _ s (Nat.le_refl _)
 rw[hls] at hsp z1 z2 ⊢
 have hz2:=hid z2
 have htl9:tl.length≤100000:=by simp at z1;omega
 have hfi:=hid (λW hGW=>first_any l0 W hGW (by have:=z2 l0 (by simp);omega))
 clear z1 z2 hls h hG
 go_enter func106,ntmps106
 go_wp2_with fail
 refine hsp.out.mono ?_
 rintro e w1⟨⟨tv,rfl,hT⟩,hb⟩
 have g1:=hid hb
 obtain⟨pt,capt,rfl,hle,hc⟩:=hT
 obtain⟨b,off,rfl,k0⟩:=hc 0 (by simp)
 have hlen1:(l0 :: tl).length=tl.length+1:=rfl
 rw[hlen1] at hle ⊢
 have hcells:∀ i,(hi:i<tl.length)→w1.cell? ⟨b,off+1+i,none⟩=some (.string ⟨tl[i].toArray⟩):=λi hi=>by
  obtain⟨b',off',e,h⟩:=hc (i+1) (by simp;omega)
  injection e with e
  injection e with e1 e2
  subst e1;subst e2
  rw[show off+1+i=off+(i+1) by omega]
  simpa using h
 have hc':=hid hcells
 have k0':w1.cell? ⟨b,off,none⟩=some (.string ⟨l0.toArray⟩):=by simpa using k0
 clear hb hc hcells k0 hsp
 have hsub:((tl.length+1:Nat):Int) - 1=tl.length:=by omega
 by_cases h33:32<tl.length
 ·have hfin:=hid (ReadsPost.bad h'.out g1.out 431 431 rfl (headQ_long (by rw[hlen1];omega)))
  have h33I:(32:Int)<tl.length:=by omega
  clear h33
  go_wp2
  go_ret
  exact hfin.out
 ·have h33I:¬(32:Int)<tl.length:=by omega
  have hq:=hid (headQ_at (l0:=l0) (tl:=tl) (by rw[hlen1];omega))
  go_wp2_with fail
  refine (hfi.out _ (hG'.out.gr g1.out)).mono ?_
  rintro e w2⟨rfl,hb⟩
  have g2:=hid (g1.out.trans hb)
  have hc2:=hid (λi hi=>hb.cell (hc'.out i hi))
  obtain⟨⟨rq,okL⟩,hF1⟩:∃ x,firstQ l0=x:=⟨_,rfl⟩
  have hrqz:rq.fs=[]∧rq.b=[]∧rq.c=false:=by
   have e1:(firstQ l0).1.fs=[]∧(firstQ l0).1.b=[]∧(firstQ l0).1.c=false:=⟨rfl,rfl,rfl⟩
   rw[hF1] at e1;exact e1
  rw[hF1] at hq ⊢
  obtain⟨m,pa,qu,v,rfs,rb,rc⟩:=rq
  obtain⟨rfl,rfl,rfl⟩:=hrqz
  unfold Rq.V
  dsimp only at hq ⊢
  have g3:=g2.out.trans (Gr.alloc w2 (.cells #[.string ⟨m.toArray⟩,.string ⟨pa.toArray⟩,.string ⟨qu.toArray⟩,.int .i64 v,.slice none 0 0,.string ⟨#[]⟩,.bool false] 78))
  have hR:=λ(o:Nat) (u:Value) (h:([.string ⟨m.toArray⟩,.string ⟨pa.toArray⟩,.string ⟨qu.toArray⟩,.int .i64 v,.slice none 0 0,.string ⟨#[]⟩,.bool false]:List Value)[o]?=some u)=>cell_new7 w2 [.string ⟨m.toArray⟩,.string ⟨pa.toArray⟩,.string ⟨qu.toArray⟩,.int .i64 v,.slice none 0 0,.string ⟨#[]⟩,.bool false] 78 o u h
  clear hb hc' hfi hF1 k0'
  have r0:=hR 0 _ rfl
  have r1:=hR 1 _ rfl
  have r2:=hR 2 _ rfl
  have r3:=hR 3 _ rfl
  have r4:=hR 4 _ rfl
  have r5:=hR 5 _ rfl
  have r6:=hR 6 _ rfl
  have hRf:∀ o,(w2.alloc (.cells #[.string ⟨m.toArray⟩,.string ⟨pa.toArray⟩,.string ⟨qu.toArray⟩,.int .i64 v,.slice none 0 0,.string ⟨#[]⟩,.bool false] 78)).frozen? ⟨w2.heap.size,o,none⟩=false:=λo=>by simp[go_sem]
  have hRb:w2.heap.size<(w2.alloc (.cells #[.string ⟨m.toArray⟩,.string ⟨pa.toArray⟩,.string ⟨qu.toArray⟩,.int .i64 v,.slice none 0 0,.string ⟨#[]⟩,.bool false] 78)).heap.size:=by simp
  have hRw:w.heap.size≤w2.heap.size:=Below.size g2.out
  have hc3:=λi hi=>(Gr.alloc w2 (.cells #[.string ⟨m.toArray⟩,.string ⟨pa.toArray⟩,.string ⟨qu.toArray⟩,.int .i64 v,.slice none 0 0,.string ⟨#[]⟩,.bool false] 78)).cell (hc2.out i hi)
  clear hR hc2
  go_upto_region 5 with (fail)
  obtain⟨R,hRe⟩:∃ x,w2.heap.size=x:=⟨_,rfl⟩
  rw[hRe] at r0 r1 r2 r3 r4 r5 r6 hRb hRw hRf ⊢
  generalize (w2.alloc (.cells #[.string ⟨m.toArray⟩,.string ⟨pa.toArray⟩,.string ⟨qu.toArray⟩,.int .i64 v,.slice none 0 0,.string ⟨#[]⟩,.bool false] 78))=w3 at r0 r1 r2 r3 r4 r5 r6 hRb hRf hc3 g3 ⊢
  have g3':=hid g3
  have hRf':=hid hRf
  have hfl:=hid (λt (ht:TextsAt w3 t tl)=>qfields_any tl t w3 (hG'.out.gr g3) ht htl9 (λl hl=>by have:=hz2.out l (by simp[hl]);omega))
  have hc3':=hid hc3
  clear hc3 hRf g3 g2 g1 hRe
  go_wp2_with fail
  case' inl =>
   have ht0:tl.length=0:=by omega
   have hta:=hid (show TextsAt w3 (.slice (some ⟨b,off,none⟩) tl.length 0) tl from⟨_,_,rfl,by omega,λi hi=>by omega⟩)
   clear ht0 hc3' hle
  case' inr =>
   have hta:=hid (show TextsAt w3 (.slice (some ⟨b,off+1,none⟩) tl.length (capt - 1)) tl from⟨_,_,rfl,by omega,λi hi=>⟨b,off+1,rfl,hc3'.out i hi⟩⟩)
   clear hc3' hle
  all_goals
   refine (hfl.out _ hta.out).mono ?_
   clear hta hfl
   rintro e w4⟨fw,okF,rfl,g34,hF⟩
   obtain⟨fs,hFo,hFt,hFn,hFq⟩:∃ fs,OwnF w3.heap.size w4 fw fs∧(∀ f∈fs,f.1.length≤900000∧f.2.length≤900000)∧fs.length≤100000∧headQ (l0 :: tl)=(if (!okL||!okF)||((v==11&&(getB fs qHost).2 != 1)||decide (lengthQ fs<0)) then .bad 400
     else if decide (0<(getB fs qTra).2)&&(v==10||(decide (0<(getB fs qLen).2)||(decide (1<(getB fs qTra).2)||!alikeB (getB fs qTra).1 qChunk))) then .bad 400
     else if 4096<lengthQ fs then .bad 413
     else .good { m:=m,p:=pa,q:=qu,v:=v,fs:=fs,b:=[],c:=v==10||fs.any closeF } (lengthQ fs).toNat (decide (0<(getB fs qTra).2))):=by
    rcases hF with⟨e1,rfl,rfl⟩ | ⟨fs,e1,e2,rfl,ho⟩
    ·refine⟨[],World.ownsRow_nil _ _ _ _,(by simp),Nat.zero_le _,?_⟩
     rw[hq.out,e1]
     simp
    ·refine⟨fs,ho,?_,by omega,?_⟩
     ·intro f hf
      have h9:∀ l∈tl,l.length≤900000:=λl hl=>by have:=hz2.out l (by simp[hl]);omega
      exact fieldsL_texts e1 h9 f hf
     ·rw[hq.out,e1]
      simp
   clear hF hq hz2
   obtain⟨pv,capv,rfl,hjunk⟩:=hFo.at
   clear hjunk
   have hRW:=hid (show RW w R w3.heap.size ⟨m,pa,qu,v,[],[],false⟩ (.slice none 0 0) (.slice pv fs.length capv) fs w4 from
    ⟨g34.cell r0,g34.cell r1,g34.cell r2,g34.cell r3,g34.cell r4,g34.cell r5,g34.cell r6,λo=>(Below.frozen g34 (show (⟨R,o,none⟩:Addr).block<w3.heap.size from hRb)).trans (hRf'.out o),hFo,Nat.lt_of_lt_of_le hRb (Below.size g34),hRb,hRw,g3'.out.trans g34⟩)
   clear r0 r1 r2 r3 r4 r5 r6 hRf' hRb hRw g3' g34 hFo
   generalize w3.heap.size=N at hRW
   obtain⟨⟨vh,nh⟩,ehost⟩:∃ x,getB fs qHost=x:=⟨_,rfl⟩
   obtain⟨⟨vt,nt⟩,etra⟩:∃ x,getB fs qTra=x:=⟨_,rfl⟩
   obtain⟨⟨vl,nl⟩,elen⟩:∃ x,getB fs qLen=x:=⟨_,rfl⟩
   have hvt:vt.length≤900000:=by have:=getB_le1 (name:=qTra) (λf hf=>(hFt f hf).2);rw[etra] at this;exact this
   have k1:=hid (λW hGW hf=>get_is (.slice pv fs.length capv) fs qHost vh nh ehost W hGW hf (by omega) (λf hm=>by have:=hFt f hm;omega) (by decide))
   have k2:=hid (λW hGW hf=>get_is (.slice pv fs.length capv) fs qTra vt nt etra W hGW hf (by omega) (λf hm=>by have:=hFt f hm;omega) (by decide))
   have k3:=hid (λW hGW hf=>get_is (.slice pv fs.length capv) fs qLen vl nl elen W hGW hf (by omega) (λf hm=>by have:=hFt f hm;omega) (by decide))
   have k4:=hid (λW hGW hf=>length_any fs (.slice pv fs.length capv) W hGW hf hFn hFt)
   rw[ehost,etra,elen] at hFq
   obtain⟨n,hn⟩:∃ x,lengthQ fs=x:=⟨_,rfl⟩
   rw[hn] at hFq k4
   obtain⟨al,hal⟩:∃ x,alikeB vt qChunk=x:=⟨_,rfl⟩
   have qa:=hid (λW hGW=>alike_is vt qChunk al hal W hGW (by omega) (by decide))
   dsimp only at hFq
   rw[hal] at hFq
   have hq:=hid hFq
   clear hal
   have hFt':=hid hFt
   clear hFq hFt ehost etra elen hn
   go_wp2_with fail
   refine (k1.out _ (hG'.out.gr hRW.out.g) hRW.out.own.at).mono ?_
   rintro e w5⟨rfl,hb⟩
   have hRW5:=hid (hRW.out.gr hb)
   clear hb hRW
   go_wp2_with fail
   refine (k2.out _ (hG'.out.gr hRW5.out.g) hRW5.out.own.at).mono ?_
   rintro e w6⟨rfl,hb⟩
   have hRW6:=hid (hRW5.out.gr hb)
   clear hb hRW5
   go_wp2_with fail
   refine (k3.out _ (hG'.out.gr hRW6.out.g) hRW6.out.own.at).mono ?_
   rintro e w7⟨rfl,hb⟩
   have hRW7:=hid (hRW6.out.gr hb)
   clear hb hRW6
   go_wp2_with fail
   refine (k4.out _ (hG'.out.gr hRW7.out.g) hRW7.out.own.at).mono ?_
   rintro e w8⟨rfl,hb⟩
   have hRW8:=hid (hRW7.out.gr hb)
   clear hb hRW7 k1 k2 k3 k4
   go_upto_region 10 with (fail)
   have r3:=hRW8.out.c3
   cases okL with
   | false =>
    have hbad:=hid (ReadsPost.bad (h'.out) hRW8.out.g 400 400 rfl (by rw[hq.out];simp ))
    have r3:=hRW8.out.c3
    clear hRW8
    go_wp2
    go_ret
    exact hbad.out
   | true =>
    cases okF with
    | false =>
     have hbad:=hid (ReadsPost.bad (h'.out) hRW8.out.g 400 400 rfl (by rw[hq.out];simp ))
     have r3:=hRW8.out.c3
     clear hRW8
     go_wp2
     go_ret
     exact hbad.out
    | true =>
     by_cases hv11:v=11
     ·subst hv11
      by_cases hnh:nh=1
      ·subst hnh
       by_cases hneg:n<0
       ·have hbad:=hid (ReadsPost.bad (h'.out) hRW8.out.g 400 400 rfl (by rw[hq.out];simp[hneg]))
        have r3:=hRW8.out.c3
        clear hRW8
        go_wp2
        go_ret
        exact hbad.out
       ·go_upto_region 12 with (fail)
        by_cases hnt:nt=0
        ·subst hnt
         by_cases hbig:4096<n
         ·have hbad:=hid (ReadsPost.bad (h'.out) hRW8.out.g 413 413 rfl (by rw[hq.out];simp[hneg,hbig]))
          clear hRW8
          go_wp2
          go_ret
          exact hbad.out
         ·have hgood0:headQ (l0 :: tl)=.good ⟨m,pa,qu,11,fs,[],(11:Int)==10||fs.any closeF⟩ n.toNat false:=by rw[hq.out];simp[hneg,hbig]
          have hgood:=hid (show headQ (l0 :: tl)=.good ⟨m,pa,qu,11,fs,[],false||fs.any closeF⟩ n.toNat false from by rw[hgood0];first | rfl | simp[])
          clear hgood0 hq
          have r3:=hRW8.out.c3
          have r4:=hRW8.out.c4
          have r6:=hRW8.out.c6
          have rf:=hRW8.out.fz
          go_upto_region 17 with (fail)
          have hR17:=hid (show RW w R N ⟨m,pa,qu,11,[],[],false⟩ (.slice pv fs.length capv) (.slice pv fs.length capv) fs ((w8.setCell ⟨R,4,none⟩ (.slice pv fs.length capv)).setCell ⟨R,6,none⟩ (.bool false)) from (hRW8.out.put4).put6 _)
          generalize ((w8.setCell ⟨R,4,none⟩ (.slice pv fs.length capv)).setCell ⟨R,6,none⟩ (.bool false))=w17 at hR17 ⊢
          clear r3 r4 r6 rf hRW8 qa hvt
          go_wp2
          go_loopw [107] (λi W=>∃ k:Nat,k≤fs.length∧i=.int .i64 k∧RW w R N ⟨m,pa,qu,11,[],[],false||(fs.take k).any closeF⟩ (.slice pv fs.length capv) (.slice pv fs.length capv) fs W) (λi _=>fs.length - (intOf i).toNat)
          case atStart=>exact⟨0,Nat.zero_le _,rfl,by simpa using hR17.out⟩
          case round =>
           obtain⟨k,hk,rfl,hRk⟩:=hrel
           have hRk':=hid hRk
           by_cases hlt:k<fs.length
           ·obtain⟨b9,o9,rfl,h1,h2⟩:=hRk.fld k hlt
            have hx9:=hFt'.out _ (List.getElem_mem hlt)
            have hst:=hid (λx (hx:fs[k]=x)=>any_step (c0:=false) hlt hx)
            obtain⟨⟨xn,xv⟩,hx⟩:∃ x,fs[k]=x:=⟨_,rfl⟩
            rw[hx] at h1 h2 hx9
            have hst':=hid (hst.out _ hx)
            obtain⟨ck,hck⟩:∃ x,(false||(fs.take k).any closeF)=x:=⟨_,rfl⟩
            rw[hck] at hRk' hst'
            obtain⟨a1,ha1⟩:∃ x,alikeB xn qConn=x:=⟨_,rfl⟩
            obtain⟨a2,ha2⟩:∃ x,hasB xv qClose=x:=⟨_,rfl⟩
            dsimp only at h1 h2 hx9 hst'
            have q1:=hid (λW hGW=>alike_is xn qConn a1 ha1 W hGW (by omega) (by decide))
            have q2:=hid (λW hGW=>has_is xv qClose a2 ha2 W hGW (by omega) (by decide))
            rw[ha1,ha2] at hst'
            have hkI:(k:Int)<fs.length:=by omega
            clear hRk hst hx hck ha1 ha2
            go_upto_region 20 with (fail)
            have y0:(wr.alloc (.cells #[.string ⟨xn.toArray⟩,.string ⟨xv.toArray⟩] 80)).cell? ⟨wr.heap.size,0,none⟩=some (.string ⟨xn.toArray⟩):=cell_new7 wr [.string ⟨xn.toArray⟩,.string ⟨xv.toArray⟩] _ 0 _ rfl
            have y1:(wr.alloc (.cells #[.string ⟨xn.toArray⟩,.string ⟨xv.toArray⟩] 80)).cell? ⟨wr.heap.size,1,none⟩=some (.string ⟨xv.toArray⟩):=cell_new7 wr [.string ⟨xn.toArray⟩,.string ⟨xv.toArray⟩] _ 1 _ rfl
            have hR18:=hid (hRk'.out.gr (Gr.alloc wr (.cells #[.string ⟨xn.toArray⟩,.string ⟨xv.toArray⟩] 80)))
            generalize wr.alloc (.cells #[.string ⟨xn.toArray⟩,.string ⟨xv.toArray⟩] 80)=w18 at y0 y1 hR18 ⊢
            clear hRk' h1 h2
            cases ck with
            | true =>
             have r6:=hR18.out.c6
             have rf:=hR18.out.fz
             have hrel9:=hid (show RW w R N ⟨m,pa,qu,11,[],[],false||(fs.take (k+1)).any closeF⟩ (.slice (some ⟨b9,o9,none⟩) fs.length capv) (.slice (some ⟨b9,o9,none⟩) fs.length capv) fs (w18.setCell ⟨R,6,none⟩ (.bool true)) from by
              rw[hst'.out]
              simpa using hR18.out.put6 true)
             clear hR18
             go_wp2
             go_roundw
             case rel=>exact⟨k+1,hlt,rfl,hrel9.out⟩
             case measure=>simp[intOf];omega
            | false =>
             have r6:=hR18.out.c6
             go_wp2_with fail
             refine (q1.out _ (hG'.out.gr hR18.out.g)).mono ?_
             rintro e w19⟨rfl,hb⟩
             have hR19:=hid (hR18.out.gr hb)
             replace y1:=hb.cell y1
             clear hb hR18 y0 r6
             cases a1 with
             | false =>
              have r6:=hR19.out.c6
              have rf:=hR19.out.fz
              have hrel9:=hid (show RW w R N ⟨m,pa,qu,11,[],[],false||(fs.take (k+1)).any closeF⟩ (.slice (some ⟨b9,o9,none⟩) fs.length capv) (.slice (some ⟨b9,o9,none⟩) fs.length capv) fs (w19.setCell ⟨R,6,none⟩ (.bool false)) from by
               rw[hst'.out]
               simpa using hR19.out.put6 false)
              clear hR19
              go_wp2
              go_roundw
              case rel=>exact⟨k+1,hlt,rfl,hrel9.out⟩
              case measure=>simp[intOf];omega
             | true =>
              go_wp2_with fail
              refine (q2.out _ (hG'.out.gr hR19.out.g)).mono ?_
              rintro e w20⟨rfl,hb⟩
              have hR20:=hid (hR19.out.gr hb)
              clear hb hR19 y1
              have r6:=hR20.out.c6
              have rf:=hR20.out.fz
              have hrel9:=hid (show RW w R N ⟨m,pa,qu,11,[],[],false||(fs.take (k+1)).any closeF⟩ (.slice (some ⟨b9,o9,none⟩) fs.length capv) (.slice (some ⟨b9,o9,none⟩) fs.length capv) fs (w20.setCell ⟨R,6,none⟩ (.bool a2)) from by
               rw[hst'.out]
               simpa using hR20.out.put6 a2)
              clear hR20
              go_wp2
              go_roundw
              case rel=>exact⟨k+1,hlt,rfl,hrel9.out⟩
              case measure=>simp[intOf];omega
           ·have hkl:k=fs.length:=by omega
            subst hkl
            rw[List.take_length] at hRk
            have hkI:¬(fs.length:Int)<fs.length:=by omega
            clear hRk'
            obtain⟨cc,hcc⟩:∃ x,(false||fs.any closeF)=x:=⟨_,rfl⟩
            rw[hcc] at hRk
            have hgood2:=hid (show headQ (l0 :: tl)=.good ⟨m,pa,qu,11,fs,[],cc⟩ n.toNat false from by rw[hgood.out,←hcc])
            have hn0:0≤n:=by omega
            have hR30:=hid hRk
            have hP30:=h'.out.gr hRk.g
            have r0:=hRk.c0
            have r1:=hRk.c1
            have r2:=hRk.c2
            have r3:=hRk.c3
            have r4:=hRk.c4
            have r5:=hRk.c5
            have r6:=hRk.c6
            have c3:=hP30.c3
            have c4:=hP30.c4
            have c5:=hP30.c5
            have c6:=hP30.c6
            have c7:=hP30.c7
            have c8:=hP30.c8
            have c9:=hP30.c9
            have c10:=hP30.c10
            have c11:=hP30.c11
            have fzB:=hP30.fz
            clear hcc hRk hP30
            have hfin:=hid (ReadsPost.good h'.out hR30.out hn0 hgood2.out)
            go_wp2
            go_ret
            exact hfin.out
        ·have hntI:(0:Int)<nt:=by omega
         have hntN:0<nt:=by omega
         by_cases hnl:nl=0
         ·subst hnl
          by_cases hn1:nt=1
          ·subst hn1
           go_wp2_with fail
           refine (qa.out _ (hG'.out.gr hRW8.out.g)).mono ?_
           rintro e w9⟨rfl,hb⟩
           have hRW9:=hid (hRW8.out.gr hb)
           clear hb hRW8
           cases al with
           | false =>
            have hbad:=hid (ReadsPost.bad (h'.out) hRW9.out.g 400 400 rfl (by rw[hq.out];simp))
            clear hRW9
            go_wp2
            go_ret
            exact hbad.out
           | true =>
            by_cases hbig:4096<n
            ·have hbad:=hid (ReadsPost.bad (h'.out) hRW9.out.g 413 413 rfl (by rw[hq.out];simp[hneg,hbig]))
             clear hRW9
             go_wp2
             go_ret
             exact hbad.out
            ·have hgood0:headQ (l0 :: tl)=.good ⟨m,pa,qu,11,fs,[],(11:Int)==10||fs.any closeF⟩ n.toNat true:=by rw[hq.out];simp[hneg,hbig]
             have hgood:=hid (show headQ (l0 :: tl)=.good ⟨m,pa,qu,11,fs,[],false||fs.any closeF⟩ n.toNat true from by rw[hgood0];first | rfl | simp[])
             clear hgood0 hq
             have r3:=hRW9.out.c3
             have r4:=hRW9.out.c4
             have r6:=hRW9.out.c6
             have rf:=hRW9.out.fz
             go_upto_region 17 with (fail)
             have hR17:=hid (show RW w R N ⟨m,pa,qu,11,[],[],false⟩ (.slice pv fs.length capv) (.slice pv fs.length capv) fs ((w9.setCell ⟨R,4,none⟩ (.slice pv fs.length capv)).setCell ⟨R,6,none⟩ (.bool false)) from (hRW9.out.put4).put6 _)
             generalize ((w9.setCell ⟨R,4,none⟩ (.slice pv fs.length capv)).setCell ⟨R,6,none⟩ (.bool false))=w17 at hR17 ⊢
             clear r3 r4 r6 rf hRW9 qa hvt
             go_wp2
             go_loopw [107] (λi W=>∃ k:Nat,k≤fs.length∧i=.int .i64 k∧RW w R N ⟨m,pa,qu,11,[],[],false||(fs.take k).any closeF⟩ (.slice pv fs.length capv) (.slice pv fs.length capv) fs W) (λi _=>fs.length - (intOf i).toNat)
             case atStart=>exact⟨0,Nat.zero_le _,rfl,by simpa using hR17.out⟩
             case round =>
              obtain⟨k,hk,rfl,hRk⟩:=hrel
              have hRk':=hid hRk
              by_cases hlt:k<fs.length
              ·obtain⟨b9,o9,rfl,h1,h2⟩:=hRk.fld k hlt
               have hx9:=hFt'.out _ (List.getElem_mem hlt)
               have hst:=hid (λx (hx:fs[k]=x)=>any_step (c0:=false) hlt hx)
               obtain⟨⟨xn,xv⟩,hx⟩:∃ x,fs[k]=x:=⟨_,rfl⟩
               rw[hx] at h1 h2 hx9
               have hst':=hid (hst.out _ hx)
               obtain⟨ck,hck⟩:∃ x,(false||(fs.take k).any closeF)=x:=⟨_,rfl⟩
               rw[hck] at hRk' hst'
               obtain⟨a1,ha1⟩:∃ x,alikeB xn qConn=x:=⟨_,rfl⟩
               obtain⟨a2,ha2⟩:∃ x,hasB xv qClose=x:=⟨_,rfl⟩
               dsimp only at h1 h2 hx9 hst'
               have q1:=hid (λW hGW=>alike_is xn qConn a1 ha1 W hGW (by omega) (by decide))
               have q2:=hid (λW hGW=>has_is xv qClose a2 ha2 W hGW (by omega) (by decide))
               rw[ha1,ha2] at hst'
               have hkI:(k:Int)<fs.length:=by omega
               clear hRk hst hx hck ha1 ha2
               go_upto_region 20 with (fail)
               have y0:(wr.alloc (.cells #[.string ⟨xn.toArray⟩,.string ⟨xv.toArray⟩] 80)).cell? ⟨wr.heap.size,0,none⟩=some (.string ⟨xn.toArray⟩):=cell_new7 wr [.string ⟨xn.toArray⟩,.string ⟨xv.toArray⟩] _ 0 _ rfl
               have y1:(wr.alloc (.cells #[.string ⟨xn.toArray⟩,.string ⟨xv.toArray⟩] 80)).cell? ⟨wr.heap.size,1,none⟩=some (.string ⟨xv.toArray⟩):=cell_new7 wr [.string ⟨xn.toArray⟩,.string ⟨xv.toArray⟩] _ 1 _ rfl
               have hR18:=hid (hRk'.out.gr (Gr.alloc wr (.cells #[.string ⟨xn.toArray⟩,.string ⟨xv.toArray⟩] 80)))
               generalize wr.alloc (.cells #[.string ⟨xn.toArray⟩,.string ⟨xv.toArray⟩] 80)=w18 at y0 y1 hR18 ⊢
               clear hRk' h1 h2
               cases ck with
               | true =>
                have r6:=hR18.out.c6
                have rf:=hR18.out.fz
                have hrel9:=hid (show RW w R N ⟨m,pa,qu,11,[],[],false||(fs.take (k+1)).any closeF⟩ (.slice (some ⟨b9,o9,none⟩) fs.length capv) (.slice (some ⟨b9,o9,none⟩) fs.length capv) fs (w18.setCell ⟨R,6,none⟩ (.bool true)) from by
                 rw[hst'.out]
                 simpa using hR18.out.put6 true)
                clear hR18
                go_wp2
                go_roundw
                case rel=>exact⟨k+1,hlt,rfl,hrel9.out⟩
                case measure=>simp[intOf];omega
               | false =>
                have r6:=hR18.out.c6
                go_wp2_with fail
                refine (q1.out _ (hG'.out.gr hR18.out.g)).mono ?_
                rintro e w19⟨rfl,hb⟩
                have hR19:=hid (hR18.out.gr hb)
                replace y1:=hb.cell y1
                clear hb hR18 y0 r6
                cases a1 with
                | false =>
                 have r6:=hR19.out.c6
                 have rf:=hR19.out.fz
                 have hrel9:=hid (show RW w R N ⟨m,pa,qu,11,[],[],false||(fs.take (k+1)).any closeF⟩ (.slice (some ⟨b9,o9,none⟩) fs.length capv) (.slice (some ⟨b9,o9,none⟩) fs.length capv) fs (w19.setCell ⟨R,6,none⟩ (.bool false)) from by
                  rw[hst'.out]
                  simpa using hR19.out.put6 false)
                 clear hR19
                 go_wp2
                 go_roundw
                 case rel=>exact⟨k+1,hlt,rfl,hrel9.out⟩
                 case measure=>simp[intOf];omega
                | true =>
                 go_wp2_with fail
                 refine (q2.out _ (hG'.out.gr hR19.out.g)).mono ?_
                 rintro e w20⟨rfl,hb⟩
                 have hR20:=hid (hR19.out.gr hb)
                 clear hb hR19 y1
                 have r6:=hR20.out.c6
                 have rf:=hR20.out.fz
                 have hrel9:=hid (show RW w R N ⟨m,pa,qu,11,[],[],false||(fs.take (k+1)).any closeF⟩ (.slice (some ⟨b9,o9,none⟩) fs.length capv) (.slice (some ⟨b9,o9,none⟩) fs.length capv) fs (w20.setCell ⟨R,6,none⟩ (.bool a2)) from by
                  rw[hst'.out]
                  simpa using hR20.out.put6 a2)
                 clear hR20
                 go_wp2
                 go_roundw
                 case rel=>exact⟨k+1,hlt,rfl,hrel9.out⟩
                 case measure=>simp[intOf];omega
              ·have hkl:k=fs.length:=by omega
               subst hkl
               rw[List.take_length] at hRk
               have hkI:¬(fs.length:Int)<fs.length:=by omega
               clear hRk'
               obtain⟨cc,hcc⟩:∃ x,(false||fs.any closeF)=x:=⟨_,rfl⟩
               rw[hcc] at hRk
               have hgood2:=hid (show headQ (l0 :: tl)=.good ⟨m,pa,qu,11,fs,[],cc⟩ n.toNat true from by rw[hgood.out,←hcc])
               have hn0:0≤n:=by omega
               have hR30:=hid hRk
               have hP30:=h'.out.gr hRk.g
               have r0:=hRk.c0
               have r1:=hRk.c1
               have r2:=hRk.c2
               have r3:=hRk.c3
               have r4:=hRk.c4
               have r5:=hRk.c5
               have r6:=hRk.c6
               have c3:=hP30.c3
               have c4:=hP30.c4
               have c5:=hP30.c5
               have c6:=hP30.c6
               have c7:=hP30.c7
               have c8:=hP30.c8
               have c9:=hP30.c9
               have c10:=hP30.c10
               have c11:=hP30.c11
               have fzB:=hP30.fz
               clear hcc hRk hP30
               go_wp2_with fail
               refine (new_any _).mono ?_
               rintro e w3⟨rfl,hr3,hg3⟩
               have hP31:=(sreq_at h'.out hR30.out hn0).gr hg3
               have d11:=hP31.c11
               have dz:=hP31.fz
               clear hP31
               have hfin:=hid (λb hb hr=>ReadsPost.chunk (b:=b) (w3:=w3) h'.out hR30.out hn0 hgood2.out hb hr hg3)
               clear hg3
               generalize hbk:((((((((wr.setCell ⟨B,3,none⟩ (.string ⟨m.toArray⟩)).setCell ⟨B,4,none⟩ (.string ⟨pa.toArray⟩)).setCell ⟨B,5,none⟩ (.string ⟨qu.toArray⟩)).setCell ⟨B,6,none⟩ (.int .i64 11)).setCell ⟨B,7,none⟩ (.slice pv fs.length capv)).setCell ⟨B,8,none⟩ (.string ⟨#[]⟩)).setCell ⟨B,9,none⟩ (.bool cc)).setCell ⟨B,10,none⟩ (.int .i64 n)).heap.size=bk at hr3 ⊢
               have hfin3:=hid (hfin.out bk hbk hr3)
               clear hbk hr3 hfin
               go_wp2
               go_ret
               exact hfin3.out
          ·have hnI:(1:Int)<nt:=by omega
           have hnN:1<nt:=by omega
           have hbad:=hid (ReadsPost.bad (h'.out) hRW8.out.g 400 400 rfl (by rw[hq.out];simp[hneg,hnN,hnt]))
           clear hRW8
           go_wp2
           go_ret
           exact hbad.out
         ·have hnI:(0:Int)<nl:=by omega
          have hnN:0<nl:=by omega
          have hbad:=hid (ReadsPost.bad (h'.out) hRW8.out.g 400 400 rfl (by rw[hq.out];simp[hneg,hnN,hntN]))
          clear hRW8
          go_wp2
          go_ret
          exact hbad.out
      ·have hnI:¬(nh:Int)=1:=by omega
       have hbad:=hid (ReadsPost.bad (h'.out) hRW8.out.g 400 400 rfl (by rw[hq.out];simp[hnh]))
       have r3:=hRW8.out.c3
       clear hRW8
       go_wp2
       go_ret
       exact hbad.out
     ·by_cases hneg:n<0
      ·have hbad:=hid (ReadsPost.bad (h'.out) hRW8.out.g 400 400 rfl (by rw[hq.out];simp[hneg]))
       have r3:=hRW8.out.c3
       clear hRW8
       go_wp2
       go_ret
       exact hbad.out
      ·go_upto_region 12 with (fail)
       by_cases hnt:nt=0
       ·subst hnt
        by_cases hbig:4096<n
        ·have hbad:=hid (ReadsPost.bad (h'.out) hRW8.out.g 413 413 rfl (by rw[hq.out];simp[hv11,hneg,hbig]))
         clear hRW8
         go_wp2
         go_ret
         exact hbad.out
        ·have hgood0:headQ (l0 :: tl)=.good ⟨m,pa,qu,v,fs,[],(v:Int)==10||fs.any closeF⟩ n.toNat false:=by rw[hq.out];simp[hv11,hneg,hbig]
         have hgood:=hid (show headQ (l0 :: tl)=.good ⟨m,pa,qu,v,fs,[],(decide (v=10))||fs.any closeF⟩ n.toNat false from by rw[hgood0];first | rfl | simp[hv11])
         clear hgood0 hq
         have r3:=hRW8.out.c3
         have r4:=hRW8.out.c4
         have r6:=hRW8.out.c6
         have rf:=hRW8.out.fz
         go_upto_region 17 with (fail)
         have hR17:=hid (show RW w R N ⟨m,pa,qu,v,[],[],(decide (v=10))⟩ (.slice pv fs.length capv) (.slice pv fs.length capv) fs ((w8.setCell ⟨R,4,none⟩ (.slice pv fs.length capv)).setCell ⟨R,6,none⟩ (.bool (decide (v=10)))) from (hRW8.out.put4).put6 _)
         generalize ((w8.setCell ⟨R,4,none⟩ (.slice pv fs.length capv)).setCell ⟨R,6,none⟩ (.bool (decide (v=10))))=w17 at hR17 ⊢
         clear r3 r4 r6 rf hRW8 qa hvt hv11
         go_wp2
         go_loopw [107] (λi W=>∃ k:Nat,k≤fs.length∧i=.int .i64 k∧RW w R N ⟨m,pa,qu,v,[],[],(decide (v=10))||(fs.take k).any closeF⟩ (.slice pv fs.length capv) (.slice pv fs.length capv) fs W) (λi _=>fs.length - (intOf i).toNat)
         case atStart=>exact⟨0,Nat.zero_le _,rfl,by simpa using hR17.out⟩
         case round =>
          obtain⟨k,hk,rfl,hRk⟩:=hrel
          have hRk':=hid hRk
          by_cases hlt:k<fs.length
          ·obtain⟨b9,o9,rfl,h1,h2⟩:=hRk.fld k hlt
           have hx9:=hFt'.out _ (List.getElem_mem hlt)
           have hst:=hid (λx (hx:fs[k]=x)=>any_step (c0:=(decide (v=10))) hlt hx)
           obtain⟨⟨xn,xv⟩,hx⟩:∃ x,fs[k]=x:=⟨_,rfl⟩
           rw[hx] at h1 h2 hx9
           have hst':=hid (hst.out _ hx)
           obtain⟨ck,hck⟩:∃ x,((decide (v=10))||(fs.take k).any closeF)=x:=⟨_,rfl⟩
           rw[hck] at hRk' hst'
           obtain⟨a1,ha1⟩:∃ x,alikeB xn qConn=x:=⟨_,rfl⟩
           obtain⟨a2,ha2⟩:∃ x,hasB xv qClose=x:=⟨_,rfl⟩
           dsimp only at h1 h2 hx9 hst'
           have q1:=hid (λW hGW=>alike_is xn qConn a1 ha1 W hGW (by omega) (by decide))
           have q2:=hid (λW hGW=>has_is xv qClose a2 ha2 W hGW (by omega) (by decide))
           rw[ha1,ha2] at hst'
           have hkI:(k:Int)<fs.length:=by omega
           clear hRk hst hx hck ha1 ha2
           go_upto_region 20 with (fail)
           have y0:(wr.alloc (.cells #[.string ⟨xn.toArray⟩,.string ⟨xv.toArray⟩] 80)).cell? ⟨wr.heap.size,0,none⟩=some (.string ⟨xn.toArray⟩):=cell_new7 wr [.string ⟨xn.toArray⟩,.string ⟨xv.toArray⟩] _ 0 _ rfl
           have y1:(wr.alloc (.cells #[.string ⟨xn.toArray⟩,.string ⟨xv.toArray⟩] 80)).cell? ⟨wr.heap.size,1,none⟩=some (.string ⟨xv.toArray⟩):=cell_new7 wr [.string ⟨xn.toArray⟩,.string ⟨xv.toArray⟩] _ 1 _ rfl
           have hR18:=hid (hRk'.out.gr (Gr.alloc wr (.cells #[.string ⟨xn.toArray⟩,.string ⟨xv.toArray⟩] 80)))
           generalize wr.alloc (.cells #[.string ⟨xn.toArray⟩,.string ⟨xv.toArray⟩] 80)=w18 at y0 y1 hR18 ⊢
           clear hRk' h1 h2
           cases ck with
           | true =>
            have r6:=hR18.out.c6
            have rf:=hR18.out.fz
            have hrel9:=hid (show RW w R N ⟨m,pa,qu,v,[],[],(decide (v=10))||(fs.take (k+1)).any closeF⟩ (.slice (some ⟨b9,o9,none⟩) fs.length capv) (.slice (some ⟨b9,o9,none⟩) fs.length capv) fs (w18.setCell ⟨R,6,none⟩ (.bool true)) from by
             rw[hst'.out]
             simpa using hR18.out.put6 true)
            clear hR18
            go_wp2
            go_roundw
            case rel=>exact⟨k+1,hlt,rfl,hrel9.out⟩
            case measure=>simp[intOf];omega
           | false =>
            have r6:=hR18.out.c6
            go_wp2_with fail
            refine (q1.out _ (hG'.out.gr hR18.out.g)).mono ?_
            rintro e w19⟨rfl,hb⟩
            have hR19:=hid (hR18.out.gr hb)
            replace y1:=hb.cell y1
            clear hb hR18 y0 r6
            cases a1 with
            | false =>
             have r6:=hR19.out.c6
             have rf:=hR19.out.fz
             have hrel9:=hid (show RW w R N ⟨m,pa,qu,v,[],[],(decide (v=10))||(fs.take (k+1)).any closeF⟩ (.slice (some ⟨b9,o9,none⟩) fs.length capv) (.slice (some ⟨b9,o9,none⟩) fs.length capv) fs (w19.setCell ⟨R,6,none⟩ (.bool false)) from by
              rw[hst'.out]
              simpa using hR19.out.put6 false)
             clear hR19
             go_wp2
             go_roundw
             case rel=>exact⟨k+1,hlt,rfl,hrel9.out⟩
             case measure=>simp[intOf];omega
            | true =>
             go_wp2_with fail
             refine (q2.out _ (hG'.out.gr hR19.out.g)).mono ?_
             rintro e w20⟨rfl,hb⟩
             have hR20:=hid (hR19.out.gr hb)
             clear hb hR19 y1
             have r6:=hR20.out.c6
             have rf:=hR20.out.fz
             have hrel9:=hid (show RW w R N ⟨m,pa,qu,v,[],[],(decide (v=10))||(fs.take (k+1)).any closeF⟩ (.slice (some ⟨b9,o9,none⟩) fs.length capv) (.slice (some ⟨b9,o9,none⟩) fs.length capv) fs (w20.setCell ⟨R,6,none⟩ (.bool a2)) from by
              rw[hst'.out]
              simpa using hR20.out.put6 a2)
             clear hR20
             go_wp2
             go_roundw
             case rel=>exact⟨k+1,hlt,rfl,hrel9.out⟩
             case measure=>simp[intOf];omega
          ·have hkl:k=fs.length:=by omega
           subst hkl
           rw[List.take_length] at hRk
           have hkI:¬(fs.length:Int)<fs.length:=by omega
           clear hRk'
           obtain⟨cc,hcc⟩:∃ x,((decide (v=10))||fs.any closeF)=x:=⟨_,rfl⟩
           rw[hcc] at hRk
           have hgood2:=hid (show headQ (l0 :: tl)=.good ⟨m,pa,qu,v,fs,[],cc⟩ n.toNat false from by rw[hgood.out,←hcc])
           have hn0:0≤n:=by omega
           have hR30:=hid hRk
           have hP30:=h'.out.gr hRk.g
           have r0:=hRk.c0
           have r1:=hRk.c1
           have r2:=hRk.c2
           have r3:=hRk.c3
           have r4:=hRk.c4
           have r5:=hRk.c5
           have r6:=hRk.c6
           have c3:=hP30.c3
           have c4:=hP30.c4
           have c5:=hP30.c5
           have c6:=hP30.c6
           have c7:=hP30.c7
           have c8:=hP30.c8
           have c9:=hP30.c9
           have c10:=hP30.c10
           have c11:=hP30.c11
           have fzB:=hP30.fz
           clear hcc hRk hP30
           have hfin:=hid (ReadsPost.good h'.out hR30.out hn0 hgood2.out)
           go_wp2
           go_ret
           exact hfin.out
       ·have hntI:(0:Int)<nt:=by omega
        have hntN:0<nt:=by omega
        by_cases hv10:v=10
        ·subst hv10
         have hbad:=hid (ReadsPost.bad (h'.out) hRW8.out.g 400 400 rfl (by rw[hq.out];simp[hneg,hntN]))
         clear hRW8
         go_wp2
         go_ret
         exact hbad.out
        ·have hv10b:(v==10)=false:=beq_eq_false_iff_ne.2 hv10
         by_cases hnl:nl=0
         ·subst hnl
          by_cases hn1:nt=1
          ·subst hn1
           go_wp2_with fail
           refine (qa.out _ (hG'.out.gr hRW8.out.g)).mono ?_
           rintro e w9⟨rfl,hb⟩
           have hRW9:=hid (hRW8.out.gr hb)
           clear hb hRW8
           cases al with
           | false =>
            have hbad:=hid (ReadsPost.bad (h'.out) hRW9.out.g 400 400 rfl (by rw[hq.out];simp[hv11]))
            clear hRW9
            go_wp2
            go_ret
            exact hbad.out
           | true =>
            by_cases hbig:4096<n
            ·have hbad:=hid (ReadsPost.bad (h'.out) hRW9.out.g 413 413 rfl (by rw[hq.out];simp[hv11,hneg,hv10,hbig]))
             clear hRW9
             go_wp2
             go_ret
             exact hbad.out
            ·have hgood0:headQ (l0 :: tl)=.good ⟨m,pa,qu,v,fs,[],(v:Int)==10||fs.any closeF⟩ n.toNat true:=by rw[hq.out];simp[hv11,hneg,hv10,hbig]
             have hgood:=hid (show headQ (l0 :: tl)=.good ⟨m,pa,qu,v,fs,[],false||fs.any closeF⟩ n.toNat true from by rw[hgood0];first | rfl | simp[hv10])
             clear hgood0 hq
             have r3:=hRW9.out.c3
             have r4:=hRW9.out.c4
             have r6:=hRW9.out.c6
             have rf:=hRW9.out.fz
             go_upto_region 17 with (fail)
             have hR17:=hid (show RW w R N ⟨m,pa,qu,v,[],[],false⟩ (.slice pv fs.length capv) (.slice pv fs.length capv) fs ((w9.setCell ⟨R,4,none⟩ (.slice pv fs.length capv)).setCell ⟨R,6,none⟩ (.bool false)) from (hRW9.out.put4).put6 _)
             generalize ((w9.setCell ⟨R,4,none⟩ (.slice pv fs.length capv)).setCell ⟨R,6,none⟩ (.bool false))=w17 at hR17 ⊢
             clear r3 r4 r6 rf hRW9 qa hvt hv11 hv10
             go_wp2
             go_loopw [107] (λi W=>∃ k:Nat,k≤fs.length∧i=.int .i64 k∧RW w R N ⟨m,pa,qu,v,[],[],false||(fs.take k).any closeF⟩ (.slice pv fs.length capv) (.slice pv fs.length capv) fs W) (λi _=>fs.length - (intOf i).toNat)
             case atStart=>exact⟨0,Nat.zero_le _,rfl,by simpa using hR17.out⟩
             case round =>
              obtain⟨k,hk,rfl,hRk⟩:=hrel
              have hRk':=hid hRk
              by_cases hlt:k<fs.length
              ·obtain⟨b9,o9,rfl,h1,h2⟩:=hRk.fld k hlt
               have hx9:=hFt'.out _ (List.getElem_mem hlt)
               have hst:=hid (λx (hx:fs[k]=x)=>any_step (c0:=false) hlt hx)
               obtain⟨⟨xn,xv⟩,hx⟩:∃ x,fs[k]=x:=⟨_,rfl⟩
               rw[hx] at h1 h2 hx9
               have hst':=hid (hst.out _ hx)
               obtain⟨ck,hck⟩:∃ x,(false||(fs.take k).any closeF)=x:=⟨_,rfl⟩
               rw[hck] at hRk' hst'
               obtain⟨a1,ha1⟩:∃ x,alikeB xn qConn=x:=⟨_,rfl⟩
               obtain⟨a2,ha2⟩:∃ x,hasB xv qClose=x:=⟨_,rfl⟩
               dsimp only at h1 h2 hx9 hst'
               have q1:=hid (λW hGW=>alike_is xn qConn a1 ha1 W hGW (by omega) (by decide))
               have q2:=hid (λW hGW=>has_is xv qClose a2 ha2 W hGW (by omega) (by decide))
               rw[ha1,ha2] at hst'
               have hkI:(k:Int)<fs.length:=by omega
               clear hRk hst hx hck ha1 ha2
               go_upto_region 20 with (fail)
               have y0:(wr.alloc (.cells #[.string ⟨xn.toArray⟩,.string ⟨xv.toArray⟩] 80)).cell? ⟨wr.heap.size,0,none⟩=some (.string ⟨xn.toArray⟩):=cell_new7 wr [.string ⟨xn.toArray⟩,.string ⟨xv.toArray⟩] _ 0 _ rfl
               have y1:(wr.alloc (.cells #[.string ⟨xn.toArray⟩,.string ⟨xv.toArray⟩] 80)).cell? ⟨wr.heap.size,1,none⟩=some (.string ⟨xv.toArray⟩):=cell_new7 wr [.string ⟨xn.toArray⟩,.string ⟨xv.toArray⟩] _ 1 _ rfl
               have hR18:=hid (hRk'.out.gr (Gr.alloc wr (.cells #[.string ⟨xn.toArray⟩,.string ⟨xv.toArray⟩] 80)))
               generalize wr.alloc (.cells #[.string ⟨xn.toArray⟩,.string ⟨xv.toArray⟩] 80)=w18 at y0 y1 hR18 ⊢
               clear hRk' h1 h2
               cases ck with
               | true =>
                have r6:=hR18.out.c6
                have rf:=hR18.out.fz
                have hrel9:=hid (show RW w R N ⟨m,pa,qu,v,[],[],false||(fs.take (k+1)).any closeF⟩ (.slice (some ⟨b9,o9,none⟩) fs.length capv) (.slice (some ⟨b9,o9,none⟩) fs.length capv) fs (w18.setCell ⟨R,6,none⟩ (.bool true)) from by
                 rw[hst'.out]
                 simpa using hR18.out.put6 true)
                clear hR18
                go_wp2
                go_roundw
                case rel=>exact⟨k+1,hlt,rfl,hrel9.out⟩
                case measure=>simp[intOf];omega
               | false =>
                have r6:=hR18.out.c6
                go_wp2_with fail
                refine (q1.out _ (hG'.out.gr hR18.out.g)).mono ?_
                rintro e w19⟨rfl,hb⟩
                have hR19:=hid (hR18.out.gr hb)
                replace y1:=hb.cell y1
                clear hb hR18 y0 r6
                cases a1 with
                | false =>
                 have r6:=hR19.out.c6
                 have rf:=hR19.out.fz
                 have hrel9:=hid (show RW w R N ⟨m,pa,qu,v,[],[],false||(fs.take (k+1)).any closeF⟩ (.slice (some ⟨b9,o9,none⟩) fs.length capv) (.slice (some ⟨b9,o9,none⟩) fs.length capv) fs (w19.setCell ⟨R,6,none⟩ (.bool false)) from by
                  rw[hst'.out]
                  simpa using hR19.out.put6 false)
                 clear hR19
                 go_wp2
                 go_roundw
                 case rel=>exact⟨k+1,hlt,rfl,hrel9.out⟩
                 case measure=>simp[intOf];omega
                | true =>
                 go_wp2_with fail
                 refine (q2.out _ (hG'.out.gr hR19.out.g)).mono ?_
                 rintro e w20⟨rfl,hb⟩
                 have hR20:=hid (hR19.out.gr hb)
                 clear hb hR19 y1
                 have r6:=hR20.out.c6
                 have rf:=hR20.out.fz
                 have hrel9:=hid (show RW w R N ⟨m,pa,qu,v,[],[],false||(fs.take (k+1)).any closeF⟩ (.slice (some ⟨b9,o9,none⟩) fs.length capv) (.slice (some ⟨b9,o9,none⟩) fs.length capv) fs (w20.setCell ⟨R,6,none⟩ (.bool a2)) from by
                  rw[hst'.out]
                  simpa using hR20.out.put6 a2)
                 clear hR20
                 go_wp2
                 go_roundw
                 case rel=>exact⟨k+1,hlt,rfl,hrel9.out⟩
                 case measure=>simp[intOf];omega
              ·have hkl:k=fs.length:=by omega
               subst hkl
               rw[List.take_length] at hRk
               have hkI:¬(fs.length:Int)<fs.length:=by omega
               clear hRk'
               obtain⟨cc,hcc⟩:∃ x,(false||fs.any closeF)=x:=⟨_,rfl⟩
               rw[hcc] at hRk
               have hgood2:=hid (show headQ (l0 :: tl)=.good ⟨m,pa,qu,v,fs,[],cc⟩ n.toNat true from by rw[hgood.out,←hcc])
               have hn0:0≤n:=by omega
               have hR30:=hid hRk
               have hP30:=h'.out.gr hRk.g
               have r0:=hRk.c0
               have r1:=hRk.c1
               have r2:=hRk.c2
               have r3:=hRk.c3
               have r4:=hRk.c4
               have r5:=hRk.c5
               have r6:=hRk.c6
               have c3:=hP30.c3
               have c4:=hP30.c4
               have c5:=hP30.c5
               have c6:=hP30.c6
               have c7:=hP30.c7
               have c8:=hP30.c8
               have c9:=hP30.c9
               have c10:=hP30.c10
               have c11:=hP30.c11
               have fzB:=hP30.fz
               clear hcc hRk hP30
               go_wp2_with fail
               refine (new_any _).mono ?_
               rintro e w3⟨rfl,hr3,hg3⟩
               have hP31:=(sreq_at h'.out hR30.out hn0).gr hg3
               have d11:=hP31.c11
               have dz:=hP31.fz
               clear hP31
               have hfin:=hid (λb hb hr=>ReadsPost.chunk (b:=b) (w3:=w3) h'.out hR30.out hn0 hgood2.out hb hr hg3)
               clear hg3
               generalize hbk:((((((((wr.setCell ⟨B,3,none⟩ (.string ⟨m.toArray⟩)).setCell ⟨B,4,none⟩ (.string ⟨pa.toArray⟩)).setCell ⟨B,5,none⟩ (.string ⟨qu.toArray⟩)).setCell ⟨B,6,none⟩ (.int .i64 v)).setCell ⟨B,7,none⟩ (.slice pv fs.length capv)).setCell ⟨B,8,none⟩ (.string ⟨#[]⟩)).setCell ⟨B,9,none⟩ (.bool cc)).setCell ⟨B,10,none⟩ (.int .i64 n)).heap.size=bk at hr3 ⊢
               have hfin3:=hid (hfin.out bk hbk hr3)
               clear hbk hr3 hfin
               go_wp2
               go_ret
               exact hfin3.out
          ·have hnI:(1:Int)<nt:=by omega
           have hnN:1<nt:=by omega
           have hbad:=hid (ReadsPost.bad (h'.out) hRW8.out.g 400 400 rfl (by rw[hq.out];simp[hv11,hneg,hnN,hnt]))
           clear hRW8
           go_wp2
           go_ret
           exact hbad.out
         ·have hnI:(0:Int)<nl:=by omega
          have hnN:0<nl:=by omega
          have hbad:=hid (ReadsPost.bad (h'.out) hRW8.out.g 400 400 rfl (by rw[hq.out];simp[hv11,hneg,hnN,hntN]))
          clear hRW8
          go_wp2
          go_ret
          exact hbad.out
