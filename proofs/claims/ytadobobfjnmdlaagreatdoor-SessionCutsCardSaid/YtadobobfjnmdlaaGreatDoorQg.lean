/-
  Rings of what waits in memory: all that are there. (Begun from XQc by mk_ri2.py.)
-/
import Derived.Test.YtadobobfjnmdlaaGreatDoorQe
import Derived.Test.YtadobobfjnmdlaaGreatDoorJr
set_option linter.unnecessarySimpa false
set_option linter.unusedVariables false
set_option linter.unusedSimpArgs false
set_option maxHeartbeats 16000000
set_option maxRecDepth 100000
open Go.Lib (hid)
open Go.Proofs.Tryz
namespace Go.Proofs.YtadobobfjnmdlaaGreatDoor
open Go.RowKit Go.Shelf
attribute [local go_sem] Oper.semAt_some
def RiAt (B mx:Nat) (T:Nat→Prop) (W:World) (xs:List It):Prop:=(∃ R m f lv,RgI B R m f W mx xs lv∧T B∧(0<m→T R))∧∀ k,T k→k<W.heap.size
theorem riKin (B mx:Nat):Kin (RiAt B mx) :=
 ⟨fun {T T' W x} ⟨⟨R,m,f,lv,h,h1,h2⟩,_⟩ ht hl=>⟨⟨R,m,f,lv,h,ht _ h1,λe=>ht _ (h2 e)⟩,hl⟩,
  fun {T S W W' x} ⟨⟨R,m,f,lv,h,h1,h2⟩,hl⟩ hc hs=>⟨⟨R,m,f,lv,h.ch hc (hs _ h1) (λe=>hs _ (h2 e)),h1,h2⟩,λk hk=>Nat.lt_of_lt_of_le (hl k hk) hc.size⟩,
  fun {T W x} h=>h.2⟩
theorem ilen_at {B mx:Nat} {T:Nat→Prop} {W:World} {xs:List It} (h:RiAt B mx T W xs) :
  Calls prog 84 #[.pointer (some ⟨B,0,none⟩)] W λe w'=>e=.returned (.int .i64 xs.length)∧W=w':=by
 obtain⟨⟨R,m,f,lv,h,_⟩,_⟩:=h
 exact ilen_any h
theorem ipop_none_at {B mx:Nat} {T:Nat→Prop} {W:World} (h:RiAt B mx T W []) :
  Calls prog 76 #[.pointer (some ⟨B,0,none⟩)] W λe w'=>e=.returned (.tuple #[it0.V,.bool false])∧Gr W w':=by
 obtain⟨⟨R,m,f,lv,h,_⟩,_⟩:=h
 exact ipop_none h
theorem ipop_some_at {B mx:Nat} {T:Nat→Prop} {W:World} {a:It} {l:List It} (h:RiAt B mx T W (a :: l)) :
  Calls prog 76 #[.pointer (some ⟨B,0,none⟩)] W λe w'=>e=.returned (.tuple #[a.V,.bool true])∧Pst (RiAt B mx) T W l w':=by
 obtain⟨⟨R,m,f,lv,h,hB,hR⟩,hl⟩:=h
 have hm:0<m:=by have:=h.hn;simp at this;omega
 refine (ipop_some h).mono ?_
 rintro e w'⟨rfl,h1,hc⟩
 have hc':Ch T W w':=hc.mono (λk hk=>by rcases hk with rfl | rfl;exact hB;exact hR hm)
 exact⟨rfl,(riKin B mx).pst ⟨⟨R,m,_,lv,h1,hB,hR⟩,λk hk=>Nat.lt_of_lt_of_le (hl k hk) hc.size⟩ hc'⟩
theorem inew_at (q:Nat) (W:World) (h1:1≤q) (h2:q≤65536) :
  Calls prog 63 #[.int .i64 q] W λe w'=>e=.returned (.tuple #[.pointer (some ⟨W.heap.size,0,none⟩),.int .i64 0])∧RiAt W.heap.size q (λk=>k=W.heap.size) w' []∧Gr W w'∧w'.heap.size=W.heap.size+1:=by
 have a1:¬(q:Int)<1:=by omega
 have a2:¬(65536:Int)<q:=by omega
 go_enter func63,ntmps63
 go_wp2
 go_ret2
 refine⟨rfl,⟨⟨W.heap.size+1,0,0,.slice none 0 0,⟨cell_new7 _ _ _ 0 _ rfl,cell_new7 _ _ _ 1 _ rfl,cell_new7 _ _ _ 2 _ rfl,cell_new7 _ _ _ 3 _ rfl,.inl ⟨rfl,rfl⟩,λo=>World.frozen?_alloc_at _ _ _ _ rfl,λh=>absurd h (Nat.lt_irrefl 0),Nat.le_refl _,Nat.zero_le _,h2,.inr ⟨rfl,rfl⟩,λi hi=>absurd hi (Nat.not_lt_zero _),λj hj=>absurd hj (Nat.not_lt_zero _),λh=>absurd h (Nat.lt_irrefl 0)⟩,rfl,λh=>absurd h (Nat.lt_irrefl 0)⟩,λk hk=>by subst hk;simp⟩,Gr.alloc _ _,by simp⟩
def TxP (pv:Value) (T:Nat→Prop) (W:World) (o:Option (List UInt8)):Prop:=match o with
 | none=>pv=.pointer none
 | some s=>∃ t,pv=.pointer (some ⟨t,0,none⟩)∧T t∧W.cell? ⟨t,0,none⟩=some (.string ⟨s.toArray⟩)
theorem TxP.mono {pv:Value} {T T':Nat→Prop} {W:World} {o:Option (List UInt8)} (h:TxP pv T W o) (ht:∀ k,T k→T' k):TxP pv T' W o:=by
 cases o with
 | none=>exact h
 | some s=>obtain⟨t,h1,h2,h3⟩:=h;exact⟨t,h1,ht _ h2,h3⟩
theorem TxP.frame {pv:Value} {T S:Nat→Prop} {W W':World} {o:Option (List UInt8)} (h:TxP pv T W o) (hc:Ch S W W') (hs:∀ k,T k→¬S k):TxP pv T W' o:=by
 cases o with
 | none=>exact h
 | some s=>obtain⟨t,h1,h2,h3⟩:=h;exact⟨t,h1,h2,(hc.cell (p:=⟨t,0,none⟩) (cell_lt h3) (hs _ h2)).trans h3⟩
structure BxS (b:Nat) (c:Nat→Nat) (W:World) (x:Bx) (r1 r2:Nat) (pv cv:Value):Prop where
 c0:W.cell? ⟨b,0,none⟩=some (.pointer (some ⟨r1,0,none⟩))
 c1:W.cell? ⟨b,1,none⟩=some (.pointer (some ⟨r2,0,none⟩))
 c2:W.cell? ⟨b,2,none⟩=some pv
 c3:W.cell? ⟨b,3,none⟩=some cv
 c4:W.cell? ⟨b,4,none⟩=some (.bool x.closed)
 c5:W.cell? ⟨b,5,none⟩=some (.bool x.ends)
 c6:W.cell? ⟨b,6,none⟩=some (.bool x.told)
 fz:∀ o,W.frozen? ⟨b,o,none⟩=false
 cb:c b=1
 k1:RgAt r1 4 (λk=>c k=2) W x.reps
 k2:RiAt r2 x.q (λk=>c k=3) W x.msgs
 k3:TxP pv (λk=>c k=4) W x.pong
 k4:TxP cv (λk=>c k=4) W x.close
 lt:∀ k,c k≠0→k<W.heap.size
theorem BxS.frame {b:Nat} {c:Nat→Nat} {S:Nat→Prop} {W W':World} {x:Bx} {r1 r2:Nat} {pv cv:Value} (h:BxS b c W x r1 r2 pv cv) (hc:Ch S W W') (hs:∀ k,c k≠0→¬S k):BxS b c W' x r1 r2 pv cv:=by
 have hb:¬S b:=hs b (by rw[h.cb];decide)
 have cc:∀ {o v},W.cell? ⟨b,o,none⟩=some v→W'.cell? ⟨b,o,none⟩=some v:=fun {o v} hh=>(hc.cell (p:=⟨b,o,none⟩) (cell_lt hh) hb).trans hh
 have sj:∀ j,j≠0→∀ k,c k=j→¬S k:=λj hj k hk=>hs k (by rw[hk];exact hj)
 exact⟨cc h.c0,cc h.c1,cc h.c2,cc h.c3,cc h.c4,cc h.c5,cc h.c6,λo=>(hc.frozen (p:=⟨b,o,none⟩) (show b<W.heap.size from cell_lt h.c0) hb).trans (h.fz o),h.cb,
  (rgKin _ _).frame h.k1 hc (sj 2 (by decide)),(riKin _ _).frame h.k2 hc (sj 3 (by decide)),h.k3.frame hc (sj 4 (by decide)),h.k4.frame hc (sj 4 (by decide)),λk hk=>Nat.lt_of_lt_of_le (h.lt k hk) hc.size⟩
theorem BxS.gr {b:Nat} {c:Nat→Nat} {W W':World} {x:Bx} {r1 r2:Nat} {pv cv:Value} (h:BxS b c W x r1 r2 pv cv) (g:Gr W W'):BxS b c W' x r1 r2 pv cv:=h.frame (g.to_ch (λ_=>False)) (λ_ _ e=>e)
theorem recol_imp {c:Nat→Nat} {W W':World} {j:Nat}:∀ k,recol c W W' j k≠0→c k≠0∨New W W' k:=λk e=>by
 rcases recol_cases c W W' j k with⟨h,_⟩ | ⟨_,h⟩
 ·exact .inr h
 ·exact .inl (by rwa [h] at e)
theorem BxS.give {b:Nat} {c:Nat→Nat} {W W0:World} {x:Bx} {r1 r2:Nat} {pv cv:Value} (h:BxS b c W x r1 r2 pv cv) (hl:∀ k,c k≠0→k<W0.heap.size) (j:Nat) (hj:j≠0):BxS b (recol c W0 W j) W x r1 r2 pv cv:=by
 have hle:∀ k,recol c W0 W j k≠0→k<W.heap.size:=λk e=>(recol_imp k e).elim (h.lt k) (λe=>e.2)
 have up:∀ i,i≠0→∀ k,c k=i→recol c W0 W j k=i:=λi hi k hk=>by rw[recol_old (hl k (by rw[hk];exact hi))];exact hk
 have lo:∀ i,i≠0→∀ k,recol c W0 W j k=i→k<W.heap.size:=λi hi k hk=>hle k (by rw[hk];exact hi)
 exact⟨h.c0,h.c1,h.c2,h.c3,h.c4,h.c5,h.c6,h.fz,up 1 (by decide) b h.cb,(rgKin _ _).mono h.k1 (up 2 (by decide)) (lo 2 (by decide)),(riKin _ _).mono h.k2 (up 3 (by decide)) (lo 3 (by decide)),h.k3.mono (up 4 (by decide)),h.k4.mono (up 4 (by decide)),hle⟩
theorem BxS.reps {b:Nat} {c:Nat→Nat} {W W':World} {x:Bx} {r1 r2:Nat} {pv cv:Value} (h:BxS b c W x r1 r2 pv cv) {l:List (List UInt8)} (k:Pst (RgAt r1 4) (λk=>c k=2) W l W'):BxS b (recol c W W' 2) W' { x with reps:=l } r1 r2 pv cv:=by
 have hb:¬c b=2:=by rw[h.cb];decide
 have cc:∀ {o v},W.cell? ⟨b,o,none⟩=some v→W'.cell? ⟨b,o,none⟩=some v:=fun {o v} hh=>(k.2.cell (p:=⟨b,o,none⟩) (cell_lt hh) hb).trans hh
 have hlb:b<W.heap.size:=cell_lt h.c0
 refine⟨cc h.c0,cc h.c1,cc h.c2,cc h.c3,cc h.c4,cc h.c5,cc h.c6,λo=>(k.2.frozen (p:=⟨b,o,none⟩) hlb hb).trans (h.fz o),by rw[recol_old hlb];exact h.cb,
  (rgKin _ _).own k h.lt (by decide),(riKin _ _).rest h.k2 k.2 (λ_ e=>e) (by decide) (by decide) h.lt,?_,?_,recol_lt h.lt k.2.size⟩
 ·exact (h.k3.frame k.2 (λk e e2=>by rw[e] at e2;cases e2)).mono (λk e=>by rw[recol_old (h.lt k (by rw[e];decide))];exact e)
 ·exact (h.k4.frame k.2 (λk e e2=>by rw[e] at e2;cases e2)).mono (λk e=>by rw[recol_old (h.lt k (by rw[e];decide))];exact e)
theorem BxS.msgs {b:Nat} {c:Nat→Nat} {W W':World} {x:Bx} {r1 r2:Nat} {pv cv:Value} (h:BxS b c W x r1 r2 pv cv) {l:List It} (k:Pst (RiAt r2 x.q) (λk=>c k=3) W l W'):BxS b (recol c W W' 3) W' { x with msgs:=l } r1 r2 pv cv:=by
 have hb:¬c b=3:=by rw[h.cb];decide
 have cc:∀ {o v},W.cell? ⟨b,o,none⟩=some v→W'.cell? ⟨b,o,none⟩=some v:=fun {o v} hh=>(k.2.cell (p:=⟨b,o,none⟩) (cell_lt hh) hb).trans hh
 have hlb:b<W.heap.size:=cell_lt h.c0
 refine⟨cc h.c0,cc h.c1,cc h.c2,cc h.c3,cc h.c4,cc h.c5,cc h.c6,λo=>(k.2.frozen (p:=⟨b,o,none⟩) hlb hb).trans (h.fz o),by rw[recol_old hlb];exact h.cb,
  (rgKin _ _).rest h.k1 k.2 (λ_ e=>e) (by decide) (by decide) h.lt,(riKin _ _).own k h.lt (by decide),?_,?_,recol_lt h.lt k.2.size⟩
 ·exact (h.k3.frame k.2 (λk e e2=>by rw[e] at e2;cases e2)).mono (λk e=>by rw[recol_old (h.lt k (by rw[e];decide))];exact e)
 ·exact (h.k4.frame k.2 (λk e e2=>by rw[e] at e2;cases e2)).mono (λk e=>by rw[recol_old (h.lt k (by rw[e];decide))];exact e)
theorem BxS.parts {b:Nat} {c:Nat→Nat} {W:World} {x:Bx} {r1 r2:Nat} {pv cv:Value} (h:BxS b c W x r1 r2 pv cv) (o:Nat) (v:Value) :
  RgAt r1 4 (λk=>c k=2) (W.setCell ⟨b,o,none⟩ v) x.reps∧RiAt r2 x.q (λk=>c k=3) (W.setCell ⟨b,o,none⟩ v) x.msgs∧(∀ {q:Option (List UInt8)} {u:Value},TxP u (λk=>c k=4) W q→TxP u (λk=>c k=4) (W.setCell ⟨b,o,none⟩ v) q)∧∀ k,c k≠0→k<(W.setCell ⟨b,o,none⟩ v).heap.size:=by
 have hc:=Ch.setCell (T:=λk=>k=b) W (a:=⟨b,o,none⟩) rfl v
 have sj:∀ j,j≠1→∀ k,c k=j→¬k=b:=λj hj k hk e=>by rw[e,h.cb] at hk;exact hj hk.symm
 exact⟨(rgKin _ _).frame h.k1 hc (sj 2 (by decide)),(riKin _ _).frame h.k2 hc (sj 3 (by decide)),fun {q u} hq=>hq.frame hc (sj 4 (by decide)),λk hk=>by rw[World.size_setCell];exact h.lt k hk⟩
theorem BxS.setPong {b:Nat} {c:Nat→Nat} {W:World} {x:Bx} {r1 r2:Nat} {pv cv:Value} (h:BxS b c W x r1 r2 pv cv) {q:Option (List UInt8)} {u:Value} (hq:TxP u (λk=>c k=4) W q):BxS b c (W.setCell ⟨b,2,none⟩ u) { x with pong:=q } r1 r2 u cv :=
 let p:=h.parts 2 u
 ⟨cell_off h.c0 (by decide),cell_off h.c1 (by decide),cell_set_same h.c2,cell_off h.c3 (by decide),cell_off h.c4 (by decide),cell_off h.c5 (by decide),cell_off h.c6 (by decide),λo=>by rw[frozen_set];exact h.fz o,h.cb,p.1,p.2.1,p.2.2.1 hq,p.2.2.1 h.k4,p.2.2.2⟩
theorem BxS.setClose {b:Nat} {c:Nat→Nat} {W:World} {x:Bx} {r1 r2:Nat} {pv cv:Value} (h:BxS b c W x r1 r2 pv cv) {q:Option (List UInt8)} {u:Value} (hq:TxP u (λk=>c k=4) W q):BxS b c (W.setCell ⟨b,3,none⟩ u) { x with close:=q } r1 r2 pv u :=
 let p:=h.parts 3 u
 ⟨cell_off h.c0 (by decide),cell_off h.c1 (by decide),cell_off h.c2 (by decide),cell_set_same h.c3,cell_off h.c4 (by decide),cell_off h.c5 (by decide),cell_off h.c6 (by decide),λo=>by rw[frozen_set];exact h.fz o,h.cb,p.1,p.2.1,p.2.2.1 h.k3,p.2.2.1 hq,p.2.2.2⟩
theorem BxS.setClosed {b:Nat} {c:Nat→Nat} {W:World} {x:Bx} {r1 r2:Nat} {pv cv:Value} (h:BxS b c W x r1 r2 pv cv) (v:Bool):BxS b c (W.setCell ⟨b,4,none⟩ (.bool v)) { x with closed:=v } r1 r2 pv cv :=
 let p:=h.parts 4 (.bool v)
 ⟨cell_off h.c0 (by decide),cell_off h.c1 (by decide),cell_off h.c2 (by decide),cell_off h.c3 (by decide),cell_set_same h.c4,cell_off h.c5 (by decide),cell_off h.c6 (by decide),λo=>by rw[frozen_set];exact h.fz o,h.cb,p.1,p.2.1,p.2.2.1 h.k3,p.2.2.1 h.k4,p.2.2.2⟩
theorem BxS.setEnds {b:Nat} {c:Nat→Nat} {W:World} {x:Bx} {r1 r2:Nat} {pv cv:Value} (h:BxS b c W x r1 r2 pv cv) (v:Bool):BxS b c (W.setCell ⟨b,5,none⟩ (.bool v)) { x with ends:=v } r1 r2 pv cv :=
 let p:=h.parts 5 (.bool v)
 ⟨cell_off h.c0 (by decide),cell_off h.c1 (by decide),cell_off h.c2 (by decide),cell_off h.c3 (by decide),cell_off h.c4 (by decide),cell_set_same h.c5,cell_off h.c6 (by decide),λo=>by rw[frozen_set];exact h.fz o,h.cb,p.1,p.2.1,p.2.2.1 h.k3,p.2.2.1 h.k4,p.2.2.2⟩
theorem BxS.setTold {b:Nat} {c:Nat→Nat} {W:World} {x:Bx} {r1 r2:Nat} {pv cv:Value} (h:BxS b c W x r1 r2 pv cv) (v:Bool):BxS b c (W.setCell ⟨b,6,none⟩ (.bool v)) { x with told:=v } r1 r2 pv cv :=
 let p:=h.parts 6 (.bool v)
 ⟨cell_off h.c0 (by decide),cell_off h.c1 (by decide),cell_off h.c2 (by decide),cell_off h.c3 (by decide),cell_off h.c4 (by decide),cell_off h.c5 (by decide),cell_set_same h.c6,λo=>by rw[frozen_set];exact h.fz o,h.cb,p.1,p.2.1,p.2.2.1 h.k3,p.2.2.1 h.k4,p.2.2.2⟩
def BxAt (b:Nat) (T:Nat→Prop) (W:World) (x:Bx):Prop:=(∃ c r1 r2 pv cv,BxS b c W x r1 r2 pv cv∧∀ k,c k≠0→T k)∧∀ k,T k→k<W.heap.size
theorem bxKin (b:Nat):Kin (BxAt b) :=
 ⟨fun {T T' W x} ⟨⟨c,r1,r2,pv,cv,h,h1⟩,_⟩ ht hl=>⟨⟨c,r1,r2,pv,cv,h,λk e=>ht _ (h1 k e)⟩,hl⟩,
  fun {T S W W' x} ⟨⟨c,r1,r2,pv,cv,h,h1⟩,hl⟩ hc hs=>⟨⟨c,r1,r2,pv,cv,h.frame hc (λk e=>hs k (h1 k e)),h1⟩,λk hk=>Nat.lt_of_lt_of_le (hl k hk) hc.size⟩,
  fun {T W x} h=>h.2⟩
theorem BxS.pst {b:Nat} {c:Nat→Nat} {T:Nat→Prop} {W W':World} {x:Bx} {r1 r2:Nat} {pv cv:Value} (h:BxS b c W' x r1 r2 pv cv) (hl:∀ k,T k→k<W.heap.size) (hc:Ch T W W') (hk:∀ k,c k≠0→T k∨New W W' k):Pst (BxAt b) T W x W' :=
 ⟨⟨⟨c,r1,r2,pv,cv,h,hk⟩,λk e=>e.elim (λe=>Nat.lt_of_lt_of_le (hl k e) hc.size) (λe=>e.2)⟩,hc⟩
theorem bnone_any {b:Nat} {c:Nat→Nat} {W:World} {x:Bx} {r1 r2:Nat} {pv cv:Value} (h:BxS b c W x r1 r2 pv cv) :
  Calls prog 74 #[.pointer (some ⟨b,0,none⟩)] W λe w'=>e=.returned (.bool false)∧W=w':=by
 have c1:=h.c1
 clear h
 go_enter func74,ntmps74
 go_wp2
 go_ret
 exact⟨rfl,rfl⟩
theorem bshut_any {b:Nat} {c:Nat→Nat} {W:World} {x:Bx} {r1 r2:Nat} {pv cv:Value} (h:BxS b c W x r1 r2 pv cv) :
  Calls prog 79 #[.pointer (some ⟨b,0,none⟩)] W λe w'=>e=.returned (.bool (bxShut x))∧W=w':=by
 have c4:=h.c4
 have c5:=h.c5
 have hn:=hid (bnone_any h)
 unfold bxShut
 obtain⟨v4,e4⟩:∃ v,x.closed=v:=⟨_,rfl⟩
 obtain⟨v5,e5⟩:∃ v,x.ends=v:=⟨_,rfl⟩
 rw[e4] at c4 ⊢
 rw[e5] at c5 ⊢
 clear h e4 e5
 cases v4
 all_goals
  go_enter func79,ntmps79
  go_wp2_with fail
  refine (hn.out).mono ?_
  rintro e w1⟨rfl,rfl⟩
  go_wp2
  go_ret
  exact⟨rfl,rfl⟩
theorem breplies_any {b:Nat} {c:Nat→Nat} {W:World} {x:Bx} {r1 r2:Nat} {pv cv:Value} (h:BxS b c W x r1 r2 pv cv) :
  Calls prog 49 #[.pointer (some ⟨b,0,none⟩)] W λe w'=>e=.returned (.int .i64 x.reps.length)∧W=w':=by
 have c0:=h.c0
 have hn:=hid (bnone_any h)
 have h1:=hid (rlen_at h.k1)
 clear h
 go_enter func49,ntmps49
 go_wp2_with fail
 refine (hn.out).mono ?_
 rintro e w1⟨rfl,rfl⟩
 go_wp2_with fail
 refine (h1.out).mono ?_
 rintro e w1⟨rfl,rfl⟩
 go_wp2
 go_ret
 exact⟨rfl,rfl⟩
theorem BxS.same {b:Nat} {c:Nat→Nat} {T:Nat→Prop} {W W':World} {x:Bx} {r1 r2:Nat} {pv cv:Value} (h:BxS b c W x r1 r2 pv cv) (hT:∀ k,c k≠0→T k) (hl:∀ k,T k→k<W.heap.size) (g:Gr W W'):Pst (BxAt b) T W x W' :=
 (h.gr g).pst hl (g.to_ch T) (λk e=>.inl (hT k e))
theorem breply_any {b:Nat} {T:Nat→Prop} {W:World} {x:Bx} (s:List UInt8) (h:BxAt b T W x) :
  Calls prog 95 #[.pointer (some ⟨b,0,none⟩),.string ⟨s.toArray⟩] W λe w'=>e=.returned (.int .i64 (bxReply x s).2)∧Pst (BxAt b) T W (bxReply x s).1 w':=by
 obtain⟨⟨c,r1,r2,pv,cv,h,hT⟩,hl⟩:=h
 have c0:=h.c0
 have c4:=h.c4
 have c5:=h.c5
 have h':=hid h
 have hT':=hid hT
 have hl':=hid hl
 have hn:=hid (bnone_any h)
 obtain⟨v4,e4⟩:∃ v,x.closed=v:=⟨_,rfl⟩
 obtain⟨v5,e5⟩:∃ v,x.ends=v:=⟨_,rfl⟩
 have hv:=hid (show bxReply x s=if (v4||v5)=true then (x,11) else if 4≤x.reps.length then (x,6) else ({ x with reps:=x.reps++[s] },0) by unfold bxReply bxShut;rw[e4,e5])
 rw[e4] at c4
 rw[e5] at c5
 clear h hT hl e4 e5
 by_cases hs:(v4||v5)=true
 ·have hv2:=hid (hv.out.trans (if_pos hs))
  rw[hv2.out]
  clear hv
  cases v4 <;> cases v5
  ·exact absurd hs (by decide)
  all_goals
   clear hs
   go_enter func95,ntmps95
   go_wp2_with fail
   refine (hn.out).mono ?_
   rintro e w1⟨rfl,rfl⟩
   go_wp2
   go_ret
   exact⟨rfl,h'.out.same hT'.out hl'.out (Gr.refl _)⟩
 ·have e4:v4=false:=by cases v4 <;> simp_all
  have e5:v5=false:=by cases v5 <;> simp_all
  subst e4
  subst e5
  rw[if_neg (by decide)] at hv
  by_cases hf:4≤x.reps.length
  ·have hv2:=hid (hv.out.trans (if_pos hf))
   rw[hv2.out]
   have hp:=hid (rpush_full_at s h'.out.k1 hf)
   clear hv hs hf
   go_enter func95,ntmps95
   go_wp2_with fail
   refine (hn.out).mono ?_
   rintro e w1⟨rfl,rfl⟩
   go_wp2_with fail
   refine (hp.out).mono ?_
   rintro e w1⟨rfl,hg⟩
   go_wp2
   go_ret
   exact⟨rfl,h'.out.same hT'.out hl'.out hg⟩
  ·have hv2:=hid (hv.out.trans (if_neg hf))
   rw[hv2.out]
   have hp:=hid (rpush_at s h'.out.k1 (by omega))
   clear hv hs hf
   go_enter func95,ntmps95
   go_wp2_with fail
   refine (hn.out).mono ?_
   rintro e w1⟨rfl,rfl⟩
   go_wp2_with fail
   refine (hp.out).mono ?_
   rintro e w1⟨rfl,hP⟩
   go_wp2
   go_ret
   refine⟨rfl,(h'.out.reps hP).pst hl'.out (hP.2.mono (λk e=>hT'.out k (by rw[show c k=2 from e];decide))) (λk e=>(recol_imp k e).imp (hT'.out k) id)⟩
theorem bpong_any {b:Nat} {T:Nat→Prop} {W:World} {x:Bx} (s:List UInt8) (h:BxAt b T W x) :
  Calls prog 73 #[.pointer (some ⟨b,0,none⟩),.string ⟨s.toArray⟩] W λe w'=>e=.returned (.int .i64 (bxPong x s).2)∧Pst (BxAt b) T W (bxPong x s).1 w':=by
 obtain⟨⟨c,r1,r2,pv,cv,h,hT⟩,hl⟩:=h
 obtain⟨w1,hw1⟩:∃ w1,W.alloc (.cells #[.string ⟨s.toArray⟩] 9)=w1:=⟨_,rfl⟩
 have g1:Gr W w1:=hw1▸Gr.alloc _ _
 have hn1:w1.cell? ⟨W.heap.size,0,none⟩=some (.string ⟨s.toArray⟩):=hw1▸cell_new7 _ _ _ 0 _ rfl
 have hsz1:w1.heap.size=W.heap.size+1:=by rw[←hw1];simp
 have h1:=(h.gr g1).give h.lt 4 (by decide)
 have hlt:=h.lt
 clear h
 have c2:=h1.c2
 have fz:=h1.fz
 have hbl:b<w1.heap.size:=cell_lt c2
 have hn:=hid (bnone_any h1)
 have hs0:=bshut_any h1
 obtain⟨v,ev⟩:∃ v,bxShut x=v:=⟨_,rfl⟩
 rw[ev] at hs0
 have hs:=hid hs0
 have hv:=hid (show bxPong x s=if v=true then (x,11) else ({ x with pong:=some s },0) by unfold bxPong;rw[ev])
 have h1':=hid h1
 have hT':=hid hT
 have hl':=hid hl
 have g1':=hid g1
 have hn1':=hid hn1
 clear h1 hT hl ev hs0 g1 hn1
 cases v with
 | true =>
  rw[hv.out,if_pos rfl]
  clear hv
  go_enter func73,ntmps73
  go_wp2_with fail
  refine (hn.out).mono ?_
  rintro e w1⟨rfl,rfl⟩
  go_wp2_with fail
  refine (hs.out).mono ?_
  rintro e w1⟨rfl,rfl⟩
  go_wp2
  go_ret
  exact⟨rfl,h1'.out.pst hl'.out (g1'.out.to_ch T) (λk e=>(recol_imp k e).imp (hT'.out k) id)⟩
 | false =>
  rw[hv.out,if_neg (by decide)]
  clear hv
  go_enter func73,ntmps73
  go_wp2_with fail
  refine (hn.out).mono ?_
  rintro e w1⟨rfl,rfl⟩
  go_wp2_with fail
  refine (hs.out).mono ?_
  rintro e w1⟨rfl,rfl⟩
  go_wp2
  go_ret
  have hq:TxP (.pointer (some ⟨W.heap.size,0,none⟩)) (λk=>recol c W w1 4 k=4) w1 (some s):=⟨W.heap.size,rfl,recol_new (Nat.le_refl _) (by rw[hsz1];exact Nat.lt_succ_self _),hn1'.out⟩
  refine⟨rfl,(h1'.out.setPong hq).pst hl'.out ((g1'.out.to_ch T).trans (Ch.setCell w1 (a:=⟨b,2,none⟩) (hT'.out b ?_) _)) (λk e=>(recol_imp k e).imp (hT'.out k) (λe=>⟨e.1,by rw[World.size_setCell];exact e.2⟩))⟩
  have:=h1'.out.cb
  rcases recol_cases c W w1 4 b with⟨_,e⟩ | ⟨_,e⟩
  ·rw[e] at this;cases this
  ·rw[e] at this;rw[this];decide
theorem bclose_any {b:Nat} {T:Nat→Prop} {W:World} {x:Bx} (s:List UInt8) (h:BxAt b T W x) :
  Calls prog 89 #[.pointer (some ⟨b,0,none⟩),.string ⟨s.toArray⟩] W λe w'=>e=.returned (.int .i64 (bxClose x s).2)∧Pst (BxAt b) T W (bxClose x s).1 w':=by
 obtain⟨⟨c,r1,r2,pv,cv,h,hT⟩,hl⟩:=h
 obtain⟨w1,hw1⟩:∃ w1,W.alloc (.cells #[.string ⟨s.toArray⟩] 9)=w1:=⟨_,rfl⟩
 have g1:Gr W w1:=hw1▸Gr.alloc _ _
 have hn1:w1.cell? ⟨W.heap.size,0,none⟩=some (.string ⟨s.toArray⟩):=hw1▸cell_new7 _ _ _ 0 _ rfl
 have hsz1:w1.heap.size=W.heap.size+1:=by rw[←hw1];simp
 have h1:=(h.gr g1).give h.lt 4 (by decide)
 have hlt:=h.lt
 clear h
 have c3:=h1.c3
 have c4:=h1.c4
 have fz:=h1.fz
 have hbl:b<w1.heap.size:=cell_lt c3
 have hn:=hid (bnone_any h1)
 have hs0:=bshut_any h1
 obtain⟨v,ev⟩:∃ v,bxShut x=v:=⟨_,rfl⟩
 rw[ev] at hs0
 have hs:=hid hs0
 have hv:=hid (show bxClose x s=if v=true then (x,11) else ({ x with close:=some s,closed:=true },0) by unfold bxClose;rw[ev])
 have h1':=hid h1
 have hT':=hid hT
 have hl':=hid hl
 have g1':=hid g1
 have hn1':=hid hn1
 clear h1 hT hl ev hs0 g1 hn1
 cases v with
 | true =>
  rw[hv.out,if_pos rfl]
  clear hv
  go_enter func89,ntmps89
  go_wp2_with fail
  refine (hn.out).mono ?_
  rintro e w1⟨rfl,rfl⟩
  go_wp2_with fail
  refine (hs.out).mono ?_
  rintro e w1⟨rfl,rfl⟩
  go_wp2
  go_ret
  exact⟨rfl,h1'.out.pst hl'.out (g1'.out.to_ch T) (λk e=>(recol_imp k e).imp (hT'.out k) id)⟩
 | false =>
  rw[hv.out,if_neg (by decide)]
  clear hv
  go_enter func89,ntmps89
  go_wp2_with fail
  refine (hn.out).mono ?_
  rintro e w1⟨rfl,rfl⟩
  go_wp2_with fail
  refine (hs.out).mono ?_
  rintro e w1⟨rfl,rfl⟩
  go_wp2
  go_ret
  have hq:TxP (.pointer (some ⟨W.heap.size,0,none⟩)) (λk=>recol c W w1 4 k=4) w1 (some s):=⟨W.heap.size,rfl,recol_new (Nat.le_refl _) (by rw[hsz1];exact Nat.lt_succ_self _),hn1'.out⟩
  have hbT:T b:=hT'.out b (by
   have:=h1'.out.cb
   rcases recol_cases c W w1 4 b with⟨_,e⟩ | ⟨_,e⟩
   ·rw[e] at this;cases this
   ·rw[e] at this;rw[this];decide)
  exact⟨rfl,((h1'.out.setClose hq).setClosed true).pst hl'.out ((g1'.out.to_ch T).trans ((Ch.setCell w1 (a:=⟨b,3,none⟩) hbT _).trans (Ch.setCell _ (a:=⟨b,4,none⟩) hbT _))) (λk e=>(recol_imp k e).imp (hT'.out k) (λe=>⟨e.1,by rw[World.size_setCell,World.size_setCell];exact e.2⟩))⟩
theorem bend_any {b:Nat} {T:Nat→Prop} {W:World} {x:Bx} (h:BxAt b T W x) :
  Calls prog 81 #[.pointer (some ⟨b,0,none⟩)] W λe w'=>e=.returned (.tuple #[])∧Pst (BxAt b) T W (bxEnd x) w':=by
 obtain⟨⟨c,r1,r2,pv,cv,h,hT⟩,hl⟩:=h
 have c5:=h.c5
 have fz:=h.fz
 have hn:=hid (bnone_any h)
 have h':=hid h
 have hT':=hid hT
 have hl':=hid hl
 clear h hT hl
 go_enter func81,ntmps81
 go_wp2_with fail
 refine (hn.out).mono ?_
 rintro e w1⟨rfl,rfl⟩
 go_wp2
 go_end0
 exact⟨rfl,(h'.out.setEnds true).pst hl'.out (Ch.setCell _ (a:=⟨b,5,none⟩) (hT'.out b (by rw[h'.out.cb];decide)) _) (λk e=>.inl (hT'.out k e))⟩
def SkP (cv:Value) (T:Nat→Prop) (W:World) (o:Option Wn):Prop:=match o with
 | none=>cv=.pointer none
 | some c=>∃ k,cv=.pointer (some ⟨k,0,none⟩)∧WnAt k T W c
theorem SkP.mono {cv:Value} {T T':Nat→Prop} {W:World} {o:Option Wn} (h:SkP cv T W o) (ht:∀ k,T k→T' k) (hl:∀ k,T' k→k<W.heap.size):SkP cv T' W o:=by
 cases o with
 | none=>exact h
 | some c=>obtain⟨k,e,h⟩:=h;exact⟨k,e,(wnKin k).mono h ht hl⟩
theorem SkP.frame {cv:Value} {T S:Nat→Prop} {W W':World} {o:Option Wn} (h:SkP cv T W o) (hc:Ch S W W') (hs:∀ k,T k→¬S k):SkP cv T W' o:=by
 cases o with
 | none=>exact h
 | some c=>obtain⟨k,e,h⟩:=h;exact⟨k,e,(wnKin k).frame h hc hs⟩
structure SnS (b:Nat) (hv:Value) (c:Nat→Nat) (W:World) (s:Ss) (pb bb:Nat) (cv:Value):Prop where
 c0:W.cell? ⟨b,0,none⟩=some hv
 c1:W.cell? ⟨b,1,none⟩=some (.int .i64 s.limit)
 c2:W.cell? ⟨b,2,none⟩=some (.int .i64 s.st)
 c3:W.cell? ⟨b,3,none⟩=some (.pointer (some ⟨pb,0,none⟩))
 c4:W.cell? ⟨b,4,none⟩=some cv
 c5:W.cell? ⟨b,5,none⟩=some (.pointer (some ⟨bb,0,none⟩))
 c6:W.cell? ⟨b,6,none⟩=some (.bool s.fresh)
 fz:∀ o,W.frozen? ⟨b,o,none⟩=false
 cb:c b=1
 kp:PqAt pb (λk=>c k=2) W s.p
 kw:SkP cv (λk=>c k=3) W s.c
 kx:BxAt bb (λk=>c k=4) W s.x
 lt:∀ k,c k≠0→k<W.heap.size
section
variable {b:Nat} {hv:Value} {c:Nat→Nat} {W:World} {s:Ss} {pb bb:Nat} {cv:Value}
theorem SnS.blt (h:SnS b hv c W s pb bb cv):b<W.heap.size:=cell_lt h.c0
theorem SnS.frame {S:Nat→Prop} {W':World} (h:SnS b hv c W s pb bb cv) (hc:Ch S W W') (hs:∀ k,c k≠0→¬S k):SnS b hv c W' s pb bb cv:=by
 have hb:¬S b:=hs b (by rw[h.cb];decide)
 have cc:∀ {o v},W.cell? ⟨b,o,none⟩=some v→W'.cell? ⟨b,o,none⟩=some v:=fun {o v} hh=>(hc.cell (p:=⟨b,o,none⟩) (cell_lt hh) hb).trans hh
 have sj:∀ j,j≠0→∀ k,c k=j→¬S k:=λj hj k hk=>hs k (by rw[hk];exact hj)
 exact⟨cc h.c0,cc h.c1,cc h.c2,cc h.c3,cc h.c4,cc h.c5,cc h.c6,λo=>(hc.frozen (p:=⟨b,o,none⟩) h.blt hb).trans (h.fz o),h.cb,
  (pqKin _).frame h.kp hc (sj 2 (by decide)),h.kw.frame hc (sj 3 (by decide)),(bxKin _).frame h.kx hc (sj 4 (by decide)),λk hk=>Nat.lt_of_lt_of_le (h.lt k hk) hc.size⟩
theorem SnS.gr {W':World} (h:SnS b hv c W s pb bb cv) (g:Gr W W'):SnS b hv c W' s pb bb cv:=h.frame (g.to_ch (λ_=>False)) (λ_ _ e=>e)
theorem SnS.own {S:Nat→Prop} {W':World} {j:Nat} (h:SnS b hv c W s pb bb cv) (hc:Ch S W W') (hs:∀ k,S k→c k=j) (hj:j≠1) :
  (∀ {o v},W.cell? ⟨b,o,none⟩=some v→W'.cell? ⟨b,o,none⟩=some v)∧(∀ o,W'.frozen? ⟨b,o,none⟩=false)∧recol c W W' j b=1:=by
 have hb:¬S b:=λe=>hj ((hs b e).symm.trans h.cb)
 exact⟨fun {o v} hh=>(hc.cell (p:=⟨b,o,none⟩) (cell_lt hh) hb).trans hh,λo=>(hc.frozen (p:=⟨b,o,none⟩) h.blt hb).trans (h.fz o),by rw[recol_old h.blt];exact h.cb⟩
theorem SnS.skrest {S:Nat→Prop} {W':World} {j:Nat} (h:SnS b hv c W s pb bb cv) (hc:Ch S W W') (hs:∀ k,S k→c k=j) (hj:j≠3):SkP cv (λk=>recol c W W' j k=3) W' s.c:=by
 refine (h.kw.frame hc (λk e e2=>hj ((hs k e2).symm.trans e))).mono (λk e=>?_) (λk e=>recol_lt h.lt hc.size k (by rw[e];decide))
 have e':c k=3:=e
 show recol c W W' j k=3
 rw[recol_old (h.lt k (by rw[e'];decide))];exact e'
theorem SnS.setP {W':World} {p:Ps} (h:SnS b hv c W s pb bb cv) (k:Pst (PqAt pb) (λk=>c k=2) W p W'):SnS b hv (recol c W W' 2) W' { s with p:=p } pb bb cv :=
 let z:=h.own k.2 (λ_ e=>e) (by decide)
 ⟨z.1 h.c0,z.1 h.c1,z.1 h.c2,z.1 h.c3,z.1 h.c4,z.1 h.c5,z.1 h.c6,z.2.1,z.2.2,(pqKin pb).own k h.lt (by decide),h.skrest k.2 (λ_ e=>e) (by decide),(bxKin bb).rest h.kx k.2 (λ_ e=>e) (by decide) (by decide) h.lt,recol_lt h.lt k.2.size⟩
theorem SnS.setX {W':World} {x:Bx} (h:SnS b hv c W s pb bb cv) (k:Pst (BxAt bb) (λk=>c k=4) W x W'):SnS b hv (recol c W W' 4) W' { s with x:=x } pb bb cv :=
 let z:=h.own k.2 (λ_ e=>e) (by decide)
 ⟨z.1 h.c0,z.1 h.c1,z.1 h.c2,z.1 h.c3,z.1 h.c4,z.1 h.c5,z.1 h.c6,z.2.1,z.2.2,(pqKin pb).rest h.kp k.2 (λ_ e=>e) (by decide) (by decide) h.lt,h.skrest k.2 (λ_ e=>e) (by decide),(bxKin bb).own k h.lt (by decide),recol_lt h.lt k.2.size⟩
theorem SnS.setW {W':World} {w w':Wn} {k0:Nat} (h:SnS b hv c W s pb bb (.pointer (some ⟨k0,0,none⟩))) (_hw:s.c=some w) (k:Pst (WnAt k0) (λk=>c k=3) W w' W'):SnS b hv (recol c W W' 3) W' { s with c:=some w' } pb bb (.pointer (some ⟨k0,0,none⟩)) :=
 let z:=h.own k.2 (λ_ e=>e) (by decide)
 ⟨z.1 h.c0,z.1 h.c1,z.1 h.c2,z.1 h.c3,z.1 h.c4,z.1 h.c5,z.1 h.c6,z.2.1,z.2.2,(pqKin pb).rest h.kp k.2 (λ_ e=>e) (by decide) (by decide) h.lt,⟨k0,rfl,(wnKin k0).own k h.lt (by decide)⟩,(bxKin bb).rest h.kx k.2 (λ_ e=>e) (by decide) (by decide) h.lt,recol_lt h.lt k.2.size⟩
theorem SnS.parts (h:SnS b hv c W s pb bb cv) (o:Nat) (v:Value) :
  PqAt pb (λk=>c k=2) (W.setCell ⟨b,o,none⟩ v) s.p∧(∀ {u:Value} {q:Option Wn},SkP u (λk=>c k=3) W q→SkP u (λk=>c k=3) (W.setCell ⟨b,o,none⟩ v) q)∧BxAt bb (λk=>c k=4) (W.setCell ⟨b,o,none⟩ v) s.x∧(∀ k,c k≠0→k<(W.setCell ⟨b,o,none⟩ v).heap.size):=by
 have hc:=Ch.setCell (T:=λk=>k=b) W (a:=⟨b,o,none⟩) rfl v
 have sj:∀ j,j≠1→∀ k,c k=j→¬k=b:=λj hj k hk e=>by rw[e,h.cb] at hk;exact hj hk.symm
 exact⟨(pqKin _).frame h.kp hc (sj 2 (by decide)),fun {u q} hq=>hq.frame hc (sj 3 (by decide)),(bxKin _).frame h.kx hc (sj 4 (by decide)),λk hk=>by rw[World.size_setCell];exact h.lt k hk⟩
theorem SnS.setSt (h:SnS b hv c W s pb bb cv) (n:Nat):SnS b hv c (W.setCell ⟨b,2,none⟩ (.int .i64 n)) { s with st:=n } pb bb cv :=
 let p:=h.parts 2 (.int .i64 n)
 ⟨cell_off h.c0 (by decide),cell_off h.c1 (by decide),cell_set_same h.c2,cell_off h.c3 (by decide),cell_off h.c4 (by decide),cell_off h.c5 (by decide),cell_off h.c6 (by decide),λo=>by rw[frozen_set];exact h.fz o,h.cb,p.1,p.2.1 h.kw,p.2.2.1,p.2.2.2⟩
theorem SnS.setFresh (h:SnS b hv c W s pb bb cv) (f:Bool):SnS b hv c (W.setCell ⟨b,6,none⟩ (.bool f)) { s with fresh:=f } pb bb cv :=
 let p:=h.parts 6 (.bool f)
 ⟨cell_off h.c0 (by decide),cell_off h.c1 (by decide),cell_off h.c2 (by decide),cell_off h.c3 (by decide),cell_off h.c4 (by decide),cell_off h.c5 (by decide),cell_set_same h.c6,λo=>by rw[frozen_set];exact h.fz o,h.cb,p.1,p.2.1 h.kw,p.2.2.1,p.2.2.2⟩
theorem SnS.setC (h:SnS b hv c W s pb bb cv) {u:Value} {q:Option Wn} (hq:SkP u (λk=>c k=3) W q):SnS b hv c (W.setCell ⟨b,4,none⟩ u) { s with c:=q } pb bb u :=
 let p:=h.parts 4 u
 ⟨cell_off h.c0 (by decide),cell_off h.c1 (by decide),cell_off h.c2 (by decide),cell_off h.c3 (by decide),cell_set_same h.c4,cell_off h.c5 (by decide),cell_off h.c6 (by decide),λo=>by rw[frozen_set];exact h.fz o,h.cb,p.1,p.2.1 hq,p.2.2.1,p.2.2.2⟩
theorem SnS.give {W0:World} (h:SnS b hv c W s pb bb cv) (hl:∀ k,c k≠0→k<W0.heap.size) (j:Nat) (hj:j≠0):SnS b hv (recol c W0 W j) W s pb bb cv:=by
 have hle:∀ k,recol c W0 W j k≠0→k<W.heap.size:=λk e=>(recol_imp k e).elim (h.lt k) (λe=>e.2)
 have up:∀ i,i≠0→∀ k,c k=i→recol c W0 W j k=i:=λi hi k hk=>by rw[recol_old (hl k (by rw[hk];exact hi))];exact hk
 have lo:∀ i,i≠0→∀ k,recol c W0 W j k=i→k<W.heap.size:=λi hi k hk=>hle k (by rw[hk];exact hi)
 exact⟨h.c0,h.c1,h.c2,h.c3,h.c4,h.c5,h.c6,h.fz,up 1 (by decide) b h.cb,(pqKin _).mono h.kp (up 2 (by decide)) (lo 2 (by decide)),h.kw.mono (up 3 (by decide)) (lo 3 (by decide)),(bxKin _).mono h.kx (up 4 (by decide)) (lo 4 (by decide)),hle⟩
end
def SnAt (b:Nat) (hv:Value) (T:Nat→Prop) (W:World) (s:Ss):Prop:=(∃ c pb bb cv,SnS b hv c W s pb bb cv∧∀ k,c k≠0→T k)∧∀ k,T k→k<W.heap.size
theorem snKin (b:Nat) (hv:Value):Kin (SnAt b hv) :=
 ⟨fun {T T' W x} ⟨⟨c,pb,bb,cv,h,h1⟩,_⟩ ht hl=>⟨⟨c,pb,bb,cv,h,λk e=>ht _ (h1 k e)⟩,hl⟩,
  fun {T S W W' x} ⟨⟨c,pb,bb,cv,h,h1⟩,hl⟩ hc hs=>⟨⟨c,pb,bb,cv,h.frame hc (λk e=>hs k (h1 k e)),h1⟩,λk hk=>Nat.lt_of_lt_of_le (hl k hk) hc.size⟩,
  fun {T W x} h=>h.2⟩
theorem SnS.pst {b:Nat} {hv:Value} {c:Nat→Nat} {T:Nat→Prop} {W W':World} {s:Ss} {pb bb:Nat} {cv:Value} (h:SnS b hv c W' s pb bb cv) (hl:∀ k,T k→k<W.heap.size) (hc:Ch T W W') (ht:∀ k,c k≠0→Add T W W' k):Pst (SnAt b hv) T W s W' :=
 ⟨⟨⟨c,pb,bb,cv,h,ht⟩,addw_lt hc.size hl⟩,hc⟩
