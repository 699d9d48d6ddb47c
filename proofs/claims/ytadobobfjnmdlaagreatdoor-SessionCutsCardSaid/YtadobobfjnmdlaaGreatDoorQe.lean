/-
  Rings of texts in memory: a push, a new one; rings as things.
-/
import Derived.Test.YtadobobfjnmdlaaGreatDoorRg
set_option linter.unnecessarySimpa false
set_option linter.unusedVariables false
set_option linter.unusedSimpArgs false
set_option maxHeartbeats 16000000
set_option maxRecDepth 100000
open Go.Lib (hid)
open Go.Proofs.Tryz
namespace Go.Proofs.YtadobobfjnmdlaaGreatDoor
open Go.RowKit Go.Shelf
attribute [local go_sem] Oper.semAt_some
theorem RgS.push {B R m f:Nat} {W W6:World} {mx:Nat} {xs:List (List UInt8)} {x:List UInt8} {lv:Value} (h:RgS B R m f W mx xs lv) (hlt:xs.length<m) (g:Gr (W.setCell ⟨B,2,none⟩ (.int .i64 ((xs.length:Int)+1))) W6) :
  RgS B R m f (W6.setCell ⟨R,(f+xs.length) % m,none⟩ (.string ⟨x.toArray⟩)) mx (xs++[x]) lv:=by
 have hm0:0<m:=by omega
 have hf:f<m:=by rcases h.hf with e | e <;> omega
 have hne:=h.ne hm0
 have hRB:∀ {o p:Nat},(⟨R,o,none⟩:Addr).block≠(⟨B,p,none⟩:Addr).block:=fun {_ _}=>hne
 have hBR:∀ {o p:Nat},(⟨B,o,none⟩:Addr).block≠(⟨R,p,none⟩:Addr).block:=fun {_ _} e=>hne e.symm
 refine⟨cell_set_other (g.cell (cell_off h.c0 (by decide))) hRB,cell_set_other (g.cell (cell_off h.c1 (by decide))) hRB,?_,cell_set_other (g.cell (cell_off h.c3 (by decide))) hRB,h.hl,λo=>?_,λhm o=>?_,by simp;omega,h.hm,h.hM,h.hf,λi hi=>?_,λj hj=>?_,h.ne⟩
 ·have:=cell_set_other (v:=.string ⟨x.toArray⟩) (a:=⟨R,(f+xs.length) % m,none⟩) (g.cell (cell_set_same h.c2)) (hRB (p:=2))
  simpa using this
 ·rw[frozen_set]
  exact (Below.frozen g (by simpa using cell_lt h.c0)).trans (frozen_set.trans (h.fz o))
 ·rw[frozen_set]
  exact (Below.frozen g (by simpa using cell_lt (h.all 0 hm0).choose_spec)).trans (frozen_set.trans (h.fr hm o))
 ·rw[List.length_append,List.length_singleton] at hi
  by_cases hix:i<xs.length
  ·have e:(xs++[x])[i]=xs[i]:=by rw[List.getElem_append_left hix]
   rw[e]
   have hr:=h.row i hix
   have hne2:(f+i) % m≠(f+xs.length) % m:=by
    intro e2
    rcases Nat.lt_or_ge (f+i) m with h2 | h2
    ·rcases Nat.lt_or_ge (f+xs.length) m with h3 | h3
     ·rw[Nat.mod_eq_of_lt h2,Nat.mod_eq_of_lt h3] at e2;omega
     ·rw[Nat.mod_eq_of_lt h2,Nat.mod_eq_sub_mod h3,Nat.mod_eq_of_lt (by omega)] at e2;omega
    ·have h3:m≤f+xs.length:=by omega
     rw[Nat.mod_eq_sub_mod h2,Nat.mod_eq_of_lt (by omega),Nat.mod_eq_sub_mod h3,Nat.mod_eq_of_lt (by omega)] at e2;omega
   exact cell_off (g.cell (cell_set_other hr hBR)) hne2
  ·obtain rfl:i=xs.length:=by omega
   have e:(xs++[x])[xs.length]=x:=by simp
   rw[e]
   obtain⟨u,hu⟩:=h.all ((f+xs.length) % m) (Nat.mod_lt _ hm0)
   exact cell_set_same (g.cell (cell_set_other hu hBR))
 ·obtain⟨u,hu⟩:=h.all j hj
  by_cases hjf:j=(f+xs.length) % m
  ·subst hjf
   exact⟨x,cell_set_same (g.cell (cell_set_other hu hBR))⟩
  ·exact⟨u,cell_off (g.cell (cell_set_other hu hBR)) hjf⟩
theorem spush_full {B R m f:Nat} {W:World} {mx:Nat} {xs:List (List UInt8)} {lv:Value} (x:List UInt8) (h:RgS B R m f W mx xs lv) (hf:mx≤xs.length) :
  Calls prog 119 #[.pointer (some ⟨B,0,none⟩),.string ⟨x.toArray⟩] W λe w'=>e=.returned (.bool false)∧Gr W w':=by
 have c0:=h.c0
 have c2:=h.c2
 have hfI:(mx:Int)≤xs.length:=by omega
 clear h
 go_enter func119,ntmps119
 go_wp2
 go_quiet (fail)
 go_wp2
 go_ret
 exact⟨rfl,below_drewNm _ _⟩
def SPush (B R m mx:Nat) (xs:List (List UInt8)) (x:List UInt8) (W w':World):Prop :=
 ∃ R' m' f' lv',RgS B R' m' f' w' mx (xs++[x]) lv'∧Ch (λk=>k=B∨(0<m∧k=R)) W w'∧((R'=R∧m'=m)∨W.heap.size≤R')
theorem spush_some {B R m f:Nat} {W:World} {mx:Nat} {xs:List (List UInt8)} {lv:Value} (x:List UInt8) (h:RgS B R m f W mx xs lv) (hf:xs.length<mx) :
  Calls prog 119 #[.pointer (some ⟨B,0,none⟩),.string ⟨x.toArray⟩] W λe w'=>e=.returned (.bool true) ∧
   SPush B R m mx xs x W w':=by
 have h':=hid h
 have c0:=h.c0
 have c2:=h.c2
 have c3:=h.c3
 have hfI:¬(mx:Int)≤xs.length:=by omega
 obtain⟨p,rfl⟩:∃ p,lv=.slice p m m:=by
  rcases h.hl with⟨e,e2⟩ | ⟨_,e2⟩
  ·exact⟨none,by rw[e2,e]⟩
  ·exact⟨_,e2⟩
 have hmm:=h.hn
 have hmx:=h.hM
 clear h
 go_enter func119,ntmps119
 go_wp2
 go_quiet (fail)
 obtain⟨wd,hwd⟩:∃ wd,W.drewN nq=wd:=⟨_,rfl⟩
 have gd:Gr W wd:=hwd▸below_drewNm _ _
 obtain⟨b,hb⟩:∃ b,((xs.length:Int)==(m:Int))=b:=⟨_,rfl⟩
 replace c2:=gd.cell c2
 replace c3:=gd.cell c3
 have gd':=hid gd
 go_wp2
 rw[hwd]
 clear hwd c0
 go_quiet (fail)
 go_upto_if 27 with (fail)
 obtain⟨we,hwe⟩:∃ we,wd.drewN nq=we:=⟨_,rfl⟩
 have ge:=hid (gd'.out.trans (show Gr wd we from hwe▸below_drewNm _ _))
 go_cut [] (λwx=>∃ R' m' f',RgS B R' m' f' wx mx xs (.slice (some ⟨R',0,none⟩) m' m')∧xs.length<m'∧Ch (λk=>k=B) W wx∧((R'=R∧m'=m)∨W.heap.size≤R'))
 case first =>
  rw[hwe]
  clear hwe c2 c3
  cases b with
  | true =>
   have hb':xs.length=m:=by have:=eq_of_beq hb;omega
   go_wp2_with fail
   refine (sgrow_any (h'.out.gr ge.out) hb' (by omega)).mono ?_
   rintro e wg⟨rfl,R',hR',hg,hc⟩
   go_wp2
   go_meet
   exact⟨R',_,0,hg,by unfold gsz;omega,(ge.out.to_ch _).trans hc,.inr (Nat.le_trans (Below.size ge.out) hR')⟩
  | false =>
   have hb':¬((xs.length:Int)=m):=beq_eq_false_iff_ne.1 hb
   have hg:=h'.out.gr ge.out
   have hl:=hg.hl
   go_wp2
   go_meet
   obtain⟨_,e⟩:=hl.resolve_left (λe=>by have:=e.1;omega)
   rw[e] at hg
   exact⟨R,m,f,hg,by omega,ge.out.to_ch _,.inl ⟨rfl,rfl⟩⟩
 case rest =>
  obtain⟨R',m',f',hg,hlt,hch,hor⟩:=hcut
  have hg':=hid hg
  have hch':=hid hch
  have hor':=hid hor
  have c2:=hg.c2
  have fz:=hg.fz
  clear hg hch hor h' ge hwe hb
  go_upto_region 6 with (fail)
  obtain⟨w5,hw5⟩:∃ x,wc.setCell ⟨B,2,none⟩ (.int .i64 ((xs.length:Int)+1))=x:=⟨_,rfl⟩
  rw[hw5]
  have hm0:0<m':=by omega
  have hm6:m'≤65536:=Nat.le_trans hg'.out.hm hg'.out.hM
  have hf':f'<m':=by rcases hg'.out.hf with e | e <;> omega
  have hne:=hg'.out.ne hm0
  have e1:w5.cell? ⟨B,1,none⟩=some (.int .i64 f'):=by rw[←hw5];exact cell_off hg'.out.c1 (by decide)
  have e2:w5.cell? ⟨B,2,none⟩=some (.int .i64 ((xs.length:Int)+1)):=by rw[←hw5];exact cell_set_same c2
  have e3:w5.cell? ⟨B,3,none⟩=some (.slice (some ⟨R',0,none⟩) m' m'):=by rw[←hw5];exact cell_off hg'.out.c3 (by decide)
  have hn6:xs.length≤65536:=by omega
  obtain⟨q,hq⟩:∃ q,(f'+xs.length) % m'=q:=⟨_,rfl⟩
  have hql:q<m':=hq▸Nat.mod_lt _ hm0
  haveI:Nonempty (Later (Gr w5)):=⟨⟨w5,Gr.refl w5⟩⟩
  have t2:∀ x:Later (Gr w5),x.w.cell? ⟨B,2,none⟩=some (.int .i64 ((xs.length:Int)+1)):=λx=>x.ok.cell e2
  have t3:∀ x:Later (Gr w5),x.w.cell? ⟨B,3,none⟩=some (.slice (some ⟨R',0,none⟩) m' m'):=λx=>x.ok.cell e3
  have hpl2:=hid (splace_later (R:=R') (m:=m') (i:=xs.length) e1 e3 hm0 hm6 hf' hn6)
  simp only[hq] at hpl2
  have hwr:IntKind.i64.wrap ((xs.length:Int)+1 - 1)=xs.length:=by rw[show (xs.length:Int)+1 - 1=xs.length by omega];exact IntWalk.i64_in _ (by omega)
  have hwr2:(xs.length:Int)+1 - 1=xs.length:=by omega
  clear e1 e2 e3 c2 fz
  refine wp_region_later_tail (C:=Gr w5) 12 (by kernel_rfl) (by kernel_rfl) (Gr.drew' _) ?_
  simp only[List.take_succ_cons,List.take_zero,List.drop_succ_cons,List.drop_zero]
  repeat (go_big_quiet_step (with_reducible exact hpl2.out _))
  refine wpQuiet_nil ?_
  intro w9 hg9
  have hBR:∀ {o p:Nat},(⟨B,o,none⟩:Addr).block≠(⟨R',p,none⟩:Addr).block:=fun {_ _} e=>hne e.symm
  obtain⟨u,hu⟩:=hg'.out.all q hql
  have hu9:w9.cell? ⟨R',q,none⟩=some (.string ⟨u.toArray⟩):=hg9.cell (hw5▸cell_set_other hu hBR)
  have hz9:∀ o,w9.frozen? ⟨R',o,none⟩=false:=λo=>by
   have hz:=hg'.out.fr hm0 o
   refine (Below.frozen hg9 (p:=⟨R',o,none⟩) (by rw[←hw5];simpa using cell_lt hu)).trans ?_
   rw[←hw5,frozen_set];exact hz
  have hg9':=hid hg9
  clear t2 t3 hu hg9
  go_wp2
  go_ret
  subst hw5
  subst hq
  refine⟨rfl,R',m',f',_,hg'.out.push hlt hg9'.out,?_,hor'.out⟩
  have k1:Ch (λk=>k=B∨(0<m∧k=R)) W w9:=(hch'.out.mono (λ_ e=>.inl e)).trans ((Ch.setCell _ (a:=⟨B,2,none⟩) (.inl rfl) _).trans (hg9'.out.to_ch _))
  refine k1.drop_new (Ch.setCell (T:=λk=>k=R') _ rfl _) (λj hj=>?_)
  have hj':j=R':=hj
  subst hj'
  rcases hor'.out with⟨e1,e2⟩ | e
  ·exact .inl (.inr ⟨by omega,e1⟩)
  ·exact .inr e
def RgAt (B mx:Nat) (T:Nat→Prop) (W:World) (xs:List (List UInt8)):Prop:=(∃ R m f lv,RgS B R m f W mx xs lv∧T B∧(0<m→T R))∧∀ k,T k→k<W.heap.size
theorem rgKin (B mx:Nat):Kin (RgAt B mx) :=
 ⟨fun {T T' W x} ⟨⟨R,m,f,lv,h,h1,h2⟩,_⟩ ht hl=>⟨⟨R,m,f,lv,h,ht _ h1,λe=>ht _ (h2 e)⟩,hl⟩,
  fun {T S W W' x} ⟨⟨R,m,f,lv,h,h1,h2⟩,hl⟩ hc hs=>⟨⟨R,m,f,lv,h.ch hc (hs _ h1) (λe=>hs _ (h2 e)),h1,h2⟩,λk hk=>Nat.lt_of_lt_of_le (hl k hk) hc.size⟩,
  fun {T W x} h=>h.2⟩
theorem rlen_at {B mx:Nat} {T:Nat→Prop} {W:World} {xs:List (List UInt8)} (h:RgAt B mx T W xs) :
  Calls prog 83 #[.pointer (some ⟨B,0,none⟩)] W λe w'=>e=.returned (.int .i64 xs.length)∧W=w':=by
 obtain⟨⟨R,m,f,lv,h,_⟩,_⟩:=h
 exact slen_any h
theorem rpop_none_at {B mx:Nat} {T:Nat→Prop} {W:World} (h:RgAt B mx T W []) :
  Calls prog 75 #[.pointer (some ⟨B,0,none⟩)] W λe w'=>e=.returned (.tuple #[.string ⟨#[]⟩,.bool false])∧W=w':=by
 obtain⟨⟨R,m,f,lv,h,_⟩,_⟩:=h
 exact spop_none h
theorem rpop_some_at {B mx:Nat} {T:Nat→Prop} {W:World} {a:List UInt8} {l:List (List UInt8)} (h:RgAt B mx T W (a :: l)) :
  Calls prog 75 #[.pointer (some ⟨B,0,none⟩)] W λe w'=>e=.returned (.tuple #[.string ⟨a.toArray⟩,.bool true])∧Pst (RgAt B mx) T W l w':=by
 obtain⟨⟨R,m,f,lv,h,hB,hR⟩,hl⟩:=h
 have hm:0<m:=by have:=h.hn;simp at this;omega
 refine (spop_some h).mono ?_
 rintro e w'⟨rfl,h1,hc⟩
 have hc':Ch T W w':=hc.mono (λk hk=>by rcases hk with rfl | rfl;exact hB;exact hR hm)
 exact⟨rfl,(rgKin B mx).pst ⟨⟨R,m,_,lv,h1,hB,hR⟩,λk hk=>Nat.lt_of_lt_of_le (hl k hk) hc.size⟩ hc'⟩
theorem rpush_full_at {B mx:Nat} {T:Nat→Prop} {W:World} {xs:List (List UInt8)} (x:List UInt8) (h:RgAt B mx T W xs) (hf:mx≤xs.length) :
  Calls prog 119 #[.pointer (some ⟨B,0,none⟩),.string ⟨x.toArray⟩] W λe w'=>e=.returned (.bool false)∧Gr W w':=by
 obtain⟨⟨R,m,f,lv,h,_⟩,_⟩:=h
 exact spush_full x h hf
theorem rpush_at {B mx:Nat} {T:Nat→Prop} {W:World} {xs:List (List UInt8)} (x:List UInt8) (h:RgAt B mx T W xs) (hf:xs.length<mx) :
  Calls prog 119 #[.pointer (some ⟨B,0,none⟩),.string ⟨x.toArray⟩] W λe w'=>e=.returned (.bool true)∧Pst (RgAt B mx) T W (xs++[x]) w':=by
 obtain⟨⟨R,m,f,lv,h,hB,hR⟩,hl⟩:=h
 refine (spush_some x h hf).mono ?_
 rintro e w'⟨rfl,R',m',f',lv',h1,hc,hor⟩
 have hc':Ch T W w':=hc.mono (λk hk=>by
  rcases hk with rfl | ⟨h0,rfl⟩
  ·exact hB
  ·exact hR h0)
 refine⟨rfl,⟨⟨R',m',f',lv',h1,.inl hB,λh0=>?_⟩,λk hk=>?_⟩,hc'⟩
 ·rcases hor with⟨e1,e2⟩ | e
  ·subst e1;subst e2;exact .inl (hR h0)
  ·exact .inr ⟨e,cell_lt (h1.all 0 h0).choose_spec⟩
 ·rcases hk with hk | hk
  ·exact Nat.lt_of_lt_of_le (hl k hk) hc.size
  ·exact hk.2
theorem rnew_at (q:Nat) (W:World) (h1:1≤q) (h2:q≤65536) :
  Calls prog 62 #[.int .i64 q] W λe w'=>e=.returned (.tuple #[.pointer (some ⟨W.heap.size,0,none⟩),.int .i64 0])∧RgAt W.heap.size q (λk=>k=W.heap.size) w' []∧Gr W w'∧w'.heap.size=W.heap.size+1:=by
 have a1:¬(q:Int)<1:=by omega
 have a2:¬(65536:Int)<q:=by omega
 go_enter func62,ntmps62
 go_wp2
 go_ret2
 refine⟨rfl,⟨⟨W.heap.size+1,0,0,.slice none 0 0,⟨cell_new7 _ _ _ 0 _ rfl,cell_new7 _ _ _ 1 _ rfl,cell_new7 _ _ _ 2 _ rfl,cell_new7 _ _ _ 3 _ rfl,.inl ⟨rfl,rfl⟩,λo=>World.frozen?_alloc_at _ _ _ _ rfl,λh=>absurd h (Nat.lt_irrefl 0),Nat.le_refl _,Nat.zero_le _,h2,.inr ⟨rfl,rfl⟩,λi hi=>absurd hi (Nat.not_lt_zero _),λj hj=>absurd hj (Nat.not_lt_zero _),λh=>absurd h (Nat.lt_irrefl 0)⟩,rfl,λh=>absurd h (Nat.lt_irrefl 0)⟩,λk hk=>by subst hk;simp⟩,Gr.alloc _ _,by simp⟩
end Go.Proofs.YtadobobfjnmdlaaGreatDoor
namespace Go.Proofs.YtadobobfjnmdlaaGreatDoor
open Go.RowKit
attribute [local go_sem] Oper.semAt_some
def It.V (x:It):Value:=.agg #[.int .i64 x.kind,.int .i64 x.op,.string ⟨x.text.toArray⟩]
structure ItC (b j:Nat) (W:World) (x:It):Prop where
 k:W.cell? ⟨b,j*3,none⟩=some (.int .i64 x.kind)
 o:W.cell? ⟨b,j*3+1,none⟩=some (.int .i64 x.op)
 t:W.cell? ⟨b,j*3+2,none⟩=some (.string ⟨x.text.toArray⟩)
theorem ItC.gr {b j:Nat} {W W':World} {x:It} (h:ItC b j W x) (g:Gr W W'):ItC b j W' x:=⟨g.cell h.k,g.cell h.o,g.cell h.t⟩
theorem ItC.lt {b j:Nat} {W:World} {x:It} (h:ItC b j W x):b<W.heap.size:=cell_lt h.k
theorem ItC.other {b j B o:Nat} {W:World} {x:It} {v:Value} (h:ItC b j W x) (hn:B≠b):ItC b j (W.setCell ⟨B,o,none⟩ v) x :=
 ⟨cell_set_other h.k hn,cell_set_other h.o hn,cell_set_other h.t hn⟩
def putI (W:World) (b j:Nat) (x:It):World:=((W.setCell ⟨b,j*3,none⟩ (.int .i64 x.kind)).setCell ⟨b,j*3+1,none⟩ (.int .i64 x.op)).setCell ⟨b,j*3+2,none⟩ (.string ⟨x.text.toArray⟩)
theorem ItC.put {b j:Nat} {W:World} {x:It} (h:ItC b j W x) (y:It):ItC b j (putI W b j y) y :=
 ⟨cell_off (cell_off (cell_set_same h.k) (by omega)) (by omega),cell_off (cell_set_same (cell_off h.o (by omega))) (by omega),cell_set_same (cell_off (cell_off h.t (by omega)) (by omega))⟩
theorem ItC.putO {b j i:Nat} {W:World} {x:It} (h:ItC b j W x) (hn:j≠i) (y:It):ItC b j (putI W b i y) x :=
 ⟨cell_off (cell_off (cell_off h.k (by omega)) (by omega)) (by omega),cell_off (cell_off (cell_off h.o (by omega)) (by omega)) (by omega),cell_off (cell_off (cell_off h.t (by omega)) (by omega)) (by omega)⟩
theorem putI_other {b j B o:Nat} {W:World} {v:Value} {y:It} (h:W.cell? ⟨B,o,none⟩=some v) (hn:b≠B):(putI W b j y).cell? ⟨B,o,none⟩=some v :=
 cell_set_other (cell_set_other (cell_set_other h hn) hn) hn
theorem putI_frozen {b j B o:Nat} {W:World} {y:It}:(putI W b j y).frozen? ⟨B,o,none⟩=W.frozen? ⟨B,o,none⟩:=by unfold putI;rw[frozen_set,frozen_set,frozen_set]
theorem putI_ch {b j:Nat} {T:Nat→Prop} (W:World) (y:It) (hT:T b):Ch T W (putI W b j y):=((Ch.setCell _ hT _).trans (Ch.setCell _ hT _)).trans (Ch.setCell _ hT _)
theorem putI_size {b j:Nat} {W:World} {y:It}:(putI W b j y).heap.size=W.heap.size:=by unfold putI;simp
structure RgI (B R m f:Nat) (W:World) (max:Nat) (xs:List It) (lv:Value):Prop where
 c0:W.cell? ⟨B,0,none⟩=some (.int .i64 max)
 c1:W.cell? ⟨B,1,none⟩=some (.int .i64 f)
 c2:W.cell? ⟨B,2,none⟩=some (.int .i64 xs.length)
 c3:W.cell? ⟨B,3,none⟩=some lv
 hl:(m=0∧lv=.slice none 0 0)∨(0<m∧lv=.slice (some ⟨R,0,none⟩) m m)
 fz:∀ o,W.frozen? ⟨B,o,none⟩=false
 fr:0<m→∀ o,W.frozen? ⟨R,o,none⟩=false
 hn:xs.length≤m
 hm:m≤max
 hM:max≤65536
 hf:f<m∨(m=0∧f=0)
 row:∀ i (h:i<xs.length),ItC R ((f+i) % m) W xs[i]
 all:∀ j,j<m→∃ u:It,ItC R j W u
 ne:0<m→R≠B
theorem RgI.gr {B R m f:Nat} {W W':World} {max:Nat} {xs:List It} {lv:Value} (h:RgI B R m f W max xs lv) (g:Gr W W'):RgI B R m f W' max xs lv :=
 ⟨g.cell h.c0,g.cell h.c1,g.cell h.c2,g.cell h.c3,h.hl,λo=>(Below.frozen g (show B<W.heap.size from cell_lt h.c0)).trans (h.fz o),
  λhm o=>(Below.frozen g (show R<W.heap.size from (h.all 0 hm).choose_spec.lt)).trans (h.fr hm o),h.hn,h.hm,h.hM,h.hf,λi hi=>(h.row i hi).gr g,λj hj=>(h.all j hj).imp λ_ hu=>hu.gr g,h.ne⟩
theorem iplace_any (B R m f i:Nat) (W:World) (c1:W.cell? ⟨B,1,none⟩=some (.int .i64 f)) (c3:W.cell? ⟨B,3,none⟩=some (.slice (some ⟨R,0,none⟩) m m)) (hm:0<m) (hm2:m≤65536) (hf:f<m) (hi:i≤65536) :
  Calls prog 101 #[.pointer (some ⟨B,0,none⟩),.int .i64 i] W λe w'=>e=.returned (.int .i64 ((f+i) % m:Nat))∧Gr W w':=by
 have hmI:((m:Int)==0)=false:=beq_eq_false_iff_ne.2 (by omega)
 go_enter func101,ntmps101
 go_wp2
 go_quiet (fail)
 go_wp2
 go_ret
 exact⟨by simp,below_drewNm _ _⟩
theorem iplace_later {B R m f i:Nat} {W:World} (c1:W.cell? ⟨B,1,none⟩=some (.int .i64 f)) (c3:W.cell? ⟨B,3,none⟩=some (.slice (some ⟨R,0,none⟩) m m)) (hm:0<m) (hm2:m≤65536) (hf:f<m) (hi:i≤65536) (x:Later (Gr W)) :
  Calls prog 101 #[.pointer (some ⟨B,0,none⟩),.int .i64 i] x.w λe w'=>e=.returned (.int .i64 ((f+i) % m:Nat))∧∃ y:Later (Gr W),w'=y.w :=
 Calls.later ((iplace_any B R m f i x.w (x.ok.cell c1) (x.ok.cell c3) hm hm2 hf hi).mono λ_ w' ⟨he,hg⟩=>⟨he,x.ok.trans hg⟩)
theorem ilen_any {B R m f:Nat} {W:World} {max:Nat} {xs:List It} {lv:Value} (h:RgI B R m f W max xs lv) :
  Calls prog 84 #[.pointer (some ⟨B,0,none⟩)] W λe w'=>e=.returned (.int .i64 xs.length)∧W=w':=by
 have c2:=h.c2
 clear h
 go_enter func84,ntmps84
 go_wp2
 go_ret
 exact⟨rfl,rfl⟩
theorem iat_none {B R m f:Nat} {W:World} {max:Nat} {xs:List It} {lv:Value} (h:RgI B R m f W max xs lv) (i:Nat) (hi:xs.length≤i) :
  Calls prog 100 #[.pointer (some ⟨B,0,none⟩),.int .i64 i] W λe w'=>e=.returned (.tuple #[it0.V,.bool false])∧Gr W w':=by
 have c2:=h.c2
 have hB:B<W.heap.size:=cell_lt h.c0
 have hi0:¬(i:Int)<0:=by omega
 have hi1:(xs.length:Int)≤i:=by omega
 clear h
 go_enter func100,ntmps100
 go_wp2
 refine bodyPost_ret (v:=.tuple #[it0.V,.bool false]) (by simp[results,results100,go_sem,It.V,it0]) rfl ⟨rfl,?_⟩
 exact ((Gr.refl W).alloc1 _).alloc1 _
theorem iat_some {B R m f:Nat} {W:World} {max:Nat} {xs:List It} {lv:Value} (h:RgI B R m f W max xs lv) (i:Nat) (hi:i<xs.length) :
  Calls prog 100 #[.pointer (some ⟨B,0,none⟩),.int .i64 i] W λe w'=>e=.returned (.tuple #[xs[i].V,.bool true])∧Gr W w':=by
 have c2:=h.c2
 have hn:=h.hn
 have hB:B<W.heap.size:=cell_lt h.c0
 have hm2:m≤65536:=Nat.le_trans h.hm h.hM
 have hm0:0<m:=by omega
 have hf:f<m:=by rcases h.hf with e | e <;> omega
 obtain⟨_,rfl⟩:0<m∧lv=.slice (some ⟨R,0,none⟩) m m:=by
  rcases h.hl with e | e
  ·omega
  ·exact e
 have hrow:=h.row i hi
 have hpl:(f+i) % m<m:=Nat.mod_lt _ hm0
 have h':=hid h
 obtain⟨x,hx⟩:∃ x,xs[i]=x:=⟨_,rfl⟩
 rw[hx] at hrow ⊢
 obtain⟨p,hp⟩:∃ p,(f+i) % m=p:=⟨_,rfl⟩
 rw[hp] at hpl hrow
 have hi0:¬(i:Int)<0:=by omega
 have hi1:¬(xs.length:Int)≤i:=by omega
 have hp':=hid hp
 have hrow':=hid hrow
 have hi6:i≤65536:=by omega
 clear h hrow hp
 go_enter func100,ntmps100
 go_upto_region 4 with (fail)
 obtain⟨w1,hw1⟩:∃ x,W.alloc (.cells #[.int .i64 0,.int .i64 0,.string ⟨#[]⟩] 81)=x:=⟨_,rfl⟩
 rw[hw1]
 have g1:Gr W w1:=by rw[←hw1];exact Gr.alloc _ _
 have hs1:w1.heap.size=W.heap.size+1:=by rw[←hw1];simp
 have d0:w1.cell? ⟨W.heap.size,0,none⟩=some (.int .i64 0):=by rw[←hw1];exact cell_new7 _ _ _ 0 _ rfl
 have d1:w1.cell? ⟨W.heap.size,1,none⟩=some (.int .i64 0):=by rw[←hw1];exact cell_new7 _ _ _ 1 _ rfl
 have d2:w1.cell? ⟨W.heap.size,2,none⟩=some (.string ⟨#[]⟩):=by rw[←hw1];exact cell_new7 _ _ _ 2 _ rfl
 have dz:∀ o,w1.frozen? ⟨W.heap.size,o,none⟩=false:=λo=>by rw[←hw1];exact World.frozen?_alloc_at _ _ _ _ rfl
 have hr1:=hrow'.out.gr g1
 haveI:Nonempty (Later (Gr w1)):=⟨⟨w1,Gr.refl w1⟩⟩
 have t3:∀ x:Later (Gr w1),x.w.cell? ⟨B,3,none⟩=some (.slice (some ⟨R,0,none⟩) m m):=λx=>x.ok.cell (g1.cell h'.out.c3)
 have tk:∀ y:Later (Gr w1),y.w.cell? ⟨R,p*3,none⟩=some (.int .i64 x.kind):=λy=>y.ok.cell hr1.k
 have t_o:∀ y:Later (Gr w1),y.w.cell? ⟨R,p*3+1,none⟩=some (.int .i64 x.op):=λy=>y.ok.cell hr1.o
 have tt:∀ y:Later (Gr w1),y.w.cell? ⟨R,p*3+2,none⟩=some (.string ⟨x.text.toArray⟩):=λy=>y.ok.cell hr1.t
 have hpl2:=iplace_later (R:=R) (m:=m) (g1.cell h'.out.c1) (g1.cell h'.out.c3) hm0 hm2 hf hi6
 simp only[hp'.out] at hpl2
 have hpl2:=hid hpl2
 clear c2 hr1
 have hg1:=hid g1
 refine wp_region_later_tail (C:=Gr w1) 9 (by kernel_rfl) (by kernel_rfl) (Gr.drew' _) ?_
 simp only[List.take_succ_cons,List.take_zero,List.drop_succ_cons,List.drop_zero]
 repeat (go_big_quiet_step (with_reducible exact hpl2.out _))
 refine wpQuiet_nil ?_
 intro w9 hg9
 have e0:=hg9.cell d0
 have e1:=hg9.cell d1
 have e2:=hg9.cell d2
 have ez:∀ o,w9.frozen? ⟨W.heap.size,o,none⟩=false:=λo=>(Below.frozen hg9 (p:=⟨W.heap.size,o,none⟩) (by rw[hs1];exact Nat.lt_succ_self _)).trans (dz o)
 have hg9':=hid hg9
 clear t3 tk t_o tt d0 d1 d2 dz hg9
 go_wp2
 refine bodyPost_ret (v:=.tuple #[x.V,.bool true]) (by simp[results,results100,go_sem,It.V,e0,e1,e2]) rfl ⟨rfl,?_⟩
 exact (((hg1.out.trans hg9'.out).setCell (p:=⟨W.heap.size,0,none⟩) (Nat.le_refl _) _).setCell (p:=⟨W.heap.size,1,none⟩) (Nat.le_refl _) _).setCell (p:=⟨W.heap.size,2,none⟩) (Nat.le_refl _) _
theorem ipop_none {B R m f:Nat} {W:World} {max:Nat} {lv:Value} (h:RgI B R m f W max [] lv) :
  Calls prog 76 #[.pointer (some ⟨B,0,none⟩)] W λe w'=>e=.returned (.tuple #[it0.V,.bool false])∧Gr W w':=by
 have h0:=hid (λW' (g:Gr W W')=>iat_none (h.gr g) 0 (Nat.le_refl _))
 clear h
 go_enter func76,ntmps76
 go_wp2_with fail
 refine (h0.out _ (Gr.alloc _ _)).mono ?_
 rintro e w1⟨rfl,hg1⟩
 have d0:=hg1.cell (cell_new7 W [.int .i64 0,.int .i64 0,.string ⟨#[]⟩] 81 0 _ rfl)
 have d1:=hg1.cell (cell_new7 W [.int .i64 0,.int .i64 0,.string ⟨#[]⟩] 81 1 _ rfl)
 have d2:=hg1.cell (cell_new7 W [.int .i64 0,.int .i64 0,.string ⟨#[]⟩] 81 2 _ rfl)
 have dz:∀ o,w1.frozen? ⟨W.heap.size,o,none⟩=false:=λo=>(Below.frozen hg1 (p:=⟨W.heap.size,o,none⟩) (by simp)).trans (World.frozen?_alloc_at _ _ _ _ rfl)
 have hlt:W.heap.size<w1.heap.size:=cell_lt d0
 have hg1':=hid ((Gr.alloc W _).trans hg1)
 clear hg1
 unfold It.V it0
 dsimp only
 go_wp2
 refine bodyPost_ret (v:=.tuple #[.agg #[.int .i64 (0:Nat),.int .i64 0,.string ⟨[].toArray⟩],.bool false]) (by simp[results,results76,go_sem,d0,d1,d2,hlt]) rfl ⟨rfl,?_⟩
 exact (((hg1'.out.setCell (p:=⟨W.heap.size,0,none⟩) (Nat.le_refl _) _).setCell (p:=⟨W.heap.size,1,none⟩) (Nat.le_refl _) _).setCell (p:=⟨W.heap.size,2,none⟩) (Nat.le_refl _) _).alloc1 _
theorem RgI.ch {B R m f:Nat} {W W':World} {mx:Nat} {xs:List It} {lv:Value} {T:Nat→Prop} (h:RgI B R m f W mx xs lv) (hc:Ch T W W') (hB:¬T B) (hR:0<m→¬T R):RgI B R m f W' mx xs lv:=by
 have cb:∀ {o v},W.cell? ⟨B,o,none⟩=some v→W'.cell? ⟨B,o,none⟩=some v:=fun {o v} hh=>(hc.cell (p:=⟨B,o,none⟩) (cell_lt hh) hB).trans hh
 have cr:0<m→∀ {o v},W.cell? ⟨R,o,none⟩=some v→W'.cell? ⟨R,o,none⟩=some v:=λhm {o v} hh=>(hc.cell (p:=⟨R,o,none⟩) (cell_lt hh) (hR hm)).trans hh
 have ci:0<m→∀ {j x},ItC R j W x→ItC R j W' x:=λhm {j x} hh=>⟨cr hm hh.k,cr hm hh.o,cr hm hh.t⟩
 exact⟨cb h.c0,cb h.c1,cb h.c2,cb h.c3,h.hl,λo=>(hc.frozen (p:=⟨B,o,none⟩) (show B<W.heap.size from cell_lt h.c0) hB).trans (h.fz o),
  λhm o=>(hc.frozen (p:=⟨R,o,none⟩) (show R<W.heap.size from (h.all 0 hm).choose_spec.lt) (hR hm)).trans (h.fr hm o),h.hn,h.hm,h.hM,h.hf,
  λi hi=>ci (by have:=h.hn;omega) (h.row i hi),λj hj=>(h.all j hj).imp λ_ hu=>ci (by omega) hu,h.ne⟩
theorem RgI.pop {B R m f:Nat} {W W2 W3:World} {max:Nat} {a:It} {l:List It} {lv:Value} (h:RgI B R m f W max (a :: l) lv) (h2:putI W R f it0=W2) (g:Gr W2 W3) :
  RgI B R m ((f+1) % m) ((W3.setCell ⟨B,1,none⟩ (.int .i64 ((f+1) % m:Nat))).setCell ⟨B,2,none⟩ (.int .i64 l.length)) max l lv:=by
 have hn:=h.hn
 simp only[List.length_cons] at hn
 have hm0:0<m:=by omega
 have hf:f<m:=by rcases h.hf with e | e <;> omega
 have hne:=h.ne hm0
 subst h2
 refine⟨?_,?_,?_,?_,h.hl,λo=>?_,λhm o=>?_,by omega,h.hm,h.hM,.inl (Nat.mod_lt _ hm0),λi hi=>?_,λj hj=>?_,h.ne⟩
 ·exact cell_off (cell_off (g.cell (putI_other h.c0 hne)) (by decide)) (by decide)
 ·exact cell_off (cell_set_same (g.cell (putI_other h.c1 hne))) (by decide)
 ·exact cell_set_same (cell_off (g.cell (putI_other h.c2 hne)) (by decide))
 ·exact cell_off (cell_off (g.cell (putI_other h.c3 hne)) (by decide)) (by decide)
 ·rw[frozen_set,frozen_set]
  exact (Below.frozen g (by rw[putI_size];exact (show B<W.heap.size from cell_lt h.c0))).trans (putI_frozen.trans (h.fz o))
 ·rw[frozen_set,frozen_set]
  exact (Below.frozen g (by rw[putI_size];exact (h.all 0 hm0).choose_spec.lt)).trans (putI_frozen.trans (h.fr hm o))
 ·have hr:=h.row (i+1) (by simp;omega)
  have e:((f+1) % m+i) % m=(f+(i+1)) % m:=by rw[Nat.mod_add_mod,show f+1+i=f+(i+1) by omega]
  rw[e]
  have hne2:(f+(i+1)) % m≠f:=by
   intro e2
   have h1:i+1<m:=by omega
   rcases Nat.lt_or_ge (f+(i+1)) m with h2 | h2
   ·rw[Nat.mod_eq_of_lt h2] at e2;omega
   ·rw[Nat.mod_eq_sub_mod h2,Nat.mod_eq_of_lt (by omega)] at e2;omega
  exact (((hr.putO hne2 it0).gr g).other (Ne.symm hne)).other (Ne.symm hne)
 ·obtain⟨u,hu⟩:=h.all j hj
  by_cases hjf:j=f
  ·subst hjf
   exact⟨it0,(((hu.put it0).gr g).other (Ne.symm hne)).other (Ne.symm hne)⟩
  ·exact⟨u,(((hu.putO hjf it0).gr g).other (Ne.symm hne)).other (Ne.symm hne)⟩
theorem ipop_some {B R m f:Nat} {W:World} {max:Nat} {a:It} {l:List It} {lv:Value} (h:RgI B R m f W max (a :: l) lv) :
  Calls prog 76 #[.pointer (some ⟨B,0,none⟩)] W λe w'=>e=.returned (.tuple #[a.V,.bool true])∧RgI B R m ((f+1) % m) w' max l lv∧Ch (λk=>k=B∨k=R) W w':=by
 have h0:=hid (λW' (g:Gr W W')=>iat_some (h.gr g) 0 (Nat.zero_lt_succ _))
 have h':=hid h
 have hn:=h.hn
 simp only[List.length_cons] at hn
 have hm2:m≤65536:=Nat.le_trans h.hm h.hM
 have hm0:0<m:=by omega
 have hf:f<m:=by rcases h.hf with e | e <;> omega
 obtain⟨_,rfl⟩:0<m∧lv=.slice (some ⟨R,0,none⟩) m m:=by
  rcases h.hl with e | e
  ·omega
  ·exact e
 have hne:=h.ne hm0
 clear h
 go_enter func76,ntmps76
 go_wp2_with fail
 refine (h0.out _ (Gr.alloc _ _)).mono ?_
 rintro e w1⟨rfl,hg1⟩
 have d0:=hg1.cell (cell_new7 W [.int .i64 0,.int .i64 0,.string ⟨#[]⟩] 81 0 _ rfl)
 have d1:=hg1.cell (cell_new7 W [.int .i64 0,.int .i64 0,.string ⟨#[]⟩] 81 1 _ rfl)
 have d2:=hg1.cell (cell_new7 W [.int .i64 0,.int .i64 0,.string ⟨#[]⟩] 81 2 _ rfl)
 have dz:∀ o,w1.frozen? ⟨W.heap.size,o,none⟩=false:=λo=>(Below.frozen hg1 (p:=⟨W.heap.size,o,none⟩) (by simp)).trans (World.frozen?_alloc_at _ _ _ _ rfl)
 have hlt:W.heap.size<w1.heap.size:=cell_lt d0
 have hg1':=hid ((Gr.alloc W _).trans hg1)
 have hae:(a :: l)[0]=a:=rfl
 unfold It.V
 rw[hae]
 clear hg1 h0
 go_upto_region 4 with (fail)
 obtain⟨w2,hw2⟩:∃ x,(w1.alloc (.cells #[.int .i64 a.kind,.int .i64 a.op,.string ⟨a.text.toArray⟩] 81)).alloc (.cells #[.int .i64 0,.int .i64 0,.string ⟨#[]⟩] 81)=x:=⟨_,rfl⟩
 rw[hw2]
 have g12:Gr w1 w2:=by rw[←hw2];exact (Gr.alloc _ _).alloc1 _
 have g2:=hg1'.out.trans g12
 have p0:=g12.cell d0
 have p1:=g12.cell d1
 have p2:=g12.cell d2
 have pz:∀ o,w2.frozen? ⟨W.heap.size,o,none⟩=false:=λo=>(Below.frozen g12 (p:=⟨W.heap.size,o,none⟩) hlt).trans (dz o)
 have a0:w2.cell? ⟨w1.heap.size,0,none⟩=some (.int .i64 a.kind):=by rw[←hw2];exact (Gr.alloc _ _).cell (cell_new7 _ _ _ 0 _ rfl)
 have a1:w2.cell? ⟨w1.heap.size,1,none⟩=some (.int .i64 a.op):=by rw[←hw2];exact (Gr.alloc _ _).cell (cell_new7 _ _ _ 1 _ rfl)
 have a2:w2.cell? ⟨w1.heap.size,2,none⟩=some (.string ⟨a.text.toArray⟩):=by rw[←hw2];exact (Gr.alloc _ _).cell (cell_new7 _ _ _ 2 _ rfl)
 have n0:w2.cell? ⟨w1.heap.size+1,0,none⟩=some (.int .i64 0):=by rw[←hw2];simp[go_sem]
 have n1:w2.cell? ⟨w1.heap.size+1,1,none⟩=some (.int .i64 0):=by rw[←hw2];simp[go_sem]
 have n2:w2.cell? ⟨w1.heap.size+1,2,none⟩=some (.string ⟨#[]⟩):=by rw[←hw2];simp[go_sem]
 have h1:=h'.out.gr g2
 have h1':=hid h1
 have hRW:R<W.heap.size:=(h'.out.all 0 hm0).choose_spec.lt
 have hBW:B<W.heap.size:=cell_lt h'.out.c0
 have hg2':=hid g2
 have c1:=h1.c1
 have c3:=h1.c3
 haveI:Nonempty (Later (Gr w2)):=⟨⟨w2,Gr.refl w2⟩⟩
 have t1:∀ x:Later (Gr w2),x.w.cell? ⟨B,1,none⟩=some (.int .i64 f):=λx=>x.ok.cell c1
 have t3:∀ x:Later (Gr w2),x.w.cell? ⟨B,3,none⟩=some (.slice (some ⟨R,0,none⟩) m m):=λx=>x.ok.cell c3
 have tn0:∀ x:Later (Gr w2),x.w.cell? ⟨w1.heap.size+1,0,none⟩=some (.int .i64 0):=λx=>x.ok.cell n0
 have tn1:∀ x:Later (Gr w2),x.w.cell? ⟨w1.heap.size+1,1,none⟩=some (.int .i64 0):=λx=>x.ok.cell n1
 have tn2:∀ x:Later (Gr w2),x.w.cell? ⟨w1.heap.size+1,2,none⟩=some (.string ⟨#[]⟩):=λx=>x.ok.cell n2
 clear h1 hw2 g12 d0 d1 d2 dz g2 n0 n1 n2
 refine wp_region_later_tail (C:=Gr w2) 10 (by kernel_rfl) (by kernel_rfl) (Gr.drew' _) ?_
 simp only[List.take_succ_cons,List.take_zero,List.drop_succ_cons,List.drop_zero]
 repeat (go_big_quiet_step (fail))
 refine wpQuiet_nil ?_
 intro w9 hg9
 have h9:=hid (h1'.out.gr hg9)
 obtain⟨u,hu⟩:=h9.out.all f hf
 have u0:=hu.k
 have u1:=hu.o
 have u2:=hu.t
 have fr9:∀ o,w9.frozen? ⟨R,o,none⟩=false:=h9.out.fr hm0
 have hg:=hid (hg2'.out.trans hg9)
 have q0:=hg9.cell p0
 have q1:=hg9.cell p1
 have q2:=hg9.cell p2
 have qz:∀ o,w9.frozen? ⟨W.heap.size,o,none⟩=false:=λo=>(Below.frozen hg9 (p:=⟨W.heap.size,o,none⟩) (show W.heap.size<w2.heap.size from cell_lt p0)).trans (pz o)
 have b0:=hg9.cell a0
 have b1:=hg9.cell a1
 have b2:=hg9.cell a2
 clear t1 t3 tn0 tn1 tn2 hg9 c1 c3 p0 p1 p2 pz a0 a1 a2 hu
 have hn1:(l.length:Int)+1 - 1=l.length:=by omega
 go_upto_region 5 with (fail)
 obtain⟨W2,hW2⟩:∃ x,putI w9 R f it0=x:=⟨_,rfl⟩
 have hW2e:((w9.setCell ⟨R,f*3,none⟩ (.int .i64 0)).setCell ⟨R,f*3+1,none⟩ (.int .i64 0)).setCell ⟨R,f*3+2,none⟩ (.string ⟨#[]⟩)=W2:=hW2
 rw[hW2e]
 have d1:W2.cell? ⟨B,1,none⟩=some (.int .i64 f):=hW2▸putI_other h9.out.c1 hne
 have d2:W2.cell? ⟨B,2,none⟩=some (.int .i64 ((l.length:Int)+1)):=hW2▸putI_other h9.out.c2 hne
 have d3:W2.cell? ⟨B,3,none⟩=some (.slice (some ⟨R,0,none⟩) m m):=hW2▸putI_other h9.out.c3 hne
 have dz:∀ o,W2.frozen? ⟨B,o,none⟩=false:=λo=>hW2▸putI_frozen.trans (h9.out.fz o)
 have w1R:R≠w1.heap.size:=by omega
 have wR:R≠W.heap.size:=by omega
 have wB:W.heap.size≠B:=by omega
 have w1B:w1.heap.size≠B:=by omega
 have r0:W2.cell? ⟨W.heap.size,0,none⟩=some (.int .i64 0):=hW2▸putI_other q0 wR
 have r1:W2.cell? ⟨W.heap.size,1,none⟩=some (.int .i64 0):=hW2▸putI_other q1 wR
 have r2:W2.cell? ⟨W.heap.size,2,none⟩=some (.string ⟨#[]⟩):=hW2▸putI_other q2 wR
 have rz:∀ o,W2.frozen? ⟨W.heap.size,o,none⟩=false:=λo=>hW2▸putI_frozen.trans (qz o)
 have s0:W2.cell? ⟨w1.heap.size,0,none⟩=some (.int .i64 a.kind):=hW2▸putI_other b0 w1R
 have s1:W2.cell? ⟨w1.heap.size,1,none⟩=some (.int .i64 a.op):=hW2▸putI_other b1 w1R
 have s2:W2.cell? ⟨w1.heap.size,2,none⟩=some (.string ⟨a.text.toArray⟩):=hW2▸putI_other b2 w1R
 have hW2':=hid hW2
 have dR:=hid (show ∀ w':World,(w'.cell? ⟨B,1,none⟩=some (.int .i64 f)∧w'.cell? ⟨B,3,none⟩=some (.slice (some ⟨R,0,none⟩) m m))→Calls prog 101 #[.pointer (some ⟨B,0,none⟩),.int .i64 1] w' λe w9=>e=.returned (.int .i64 ((f+1) % m:Nat))∧Gr w' w9 from
  λw' hw=>iplace_any B R m f 1 w' hw.1 hw.2 hm0 hm2 hf (by omega))
 have dZ:=hid (show ∀ w9,Gr W2 w9→∀ o,w9.frozen? ⟨B,o,none⟩=false from λw9 hg9 o=>(Below.frozen hg9 (show B<W2.heap.size from cell_lt d1)).trans (dz o))
 have aR:=hid (show ∀ w9,Gr W2 w9→(w9.cell? ⟨W.heap.size,0,none⟩=some (.int .i64 0)∧w9.cell? ⟨W.heap.size,1,none⟩=some (.int .i64 0)∧w9.cell? ⟨W.heap.size,2,none⟩=some (.string ⟨#[]⟩)∧(∀ o,w9.frozen? ⟨W.heap.size,o,none⟩=false)) ∧
   (w9.cell? ⟨w1.heap.size,0,none⟩=some (.int .i64 a.kind)∧w9.cell? ⟨w1.heap.size,1,none⟩=some (.int .i64 a.op)∧w9.cell? ⟨w1.heap.size,2,none⟩=some (.string ⟨a.text.toArray⟩)) from
  λw9 g=>⟨⟨g.cell r0,g.cell r1,g.cell r2,λo=>(Below.frozen g (p:=⟨W.heap.size,o,none⟩) (show W.heap.size<W2.heap.size from cell_lt r0)).trans (rz o)⟩,g.cell s0,g.cell s1,g.cell s2⟩)
 clear hW2 hW2e dz q0 q1 q2 qz b0 b1 b2 u0 u1 u2 fr9 r0 r1 r2 rz s0 s1 s2
 have hll:(l.length:Int)<65537:=by omega
 have hwr1:IntKind.i64.wrap ((l.length:Int)+1 - 1)=l.length:=by rw[hn1];exact IntWalk.i64_in _ (by omega)
 have hwr2:IntKind.i64.wrap (l.length:Int)=l.length:=IntWalk.i64_in _ (by omega)
 go_region_law (first | (go_simp;go_at_call 101;refine (dR.out W2.drew ⟨d1,d3⟩).mono ?_;rintro e wd ⟨rfl,gd⟩;have hgd:Gr W2 wd:=Gr.trans (Gr.drew (Gr.refl _)) gd;have hgd':=hid hgd;replace d1:=gd.cell d1;replace d2:=gd.cell d2;have z1:=dZ.out _ hgd 1;have z2:=dZ.out _ hgd 2))
 all_goals
  obtain⟨⟨y0,y1,y2,yz⟩,x0,x1,x2⟩:=aR.out _ hgd
  go_wp2
  refine bodyPost_ret (v:=.tuple #[a.V,.bool true]) (by simp[results,results76,go_sem,It.V,y0,y1,y2,wB]) rfl ⟨rfl,?_,?_⟩
  ·have hp:=h9.out.pop hW2'.out hgd'.out
   refine hp.ch (T:=λk=>k=W.heap.size) (((Ch.setCell (T:=λk=>k=W.heap.size) _ (a:=⟨W.heap.size,0,none⟩) rfl _).trans (Ch.setCell (T:=λk=>k=W.heap.size) _ (a:=⟨W.heap.size,1,none⟩) rfl _)).trans (Ch.setCell (T:=λk=>k=W.heap.size) _ (a:=⟨W.heap.size,2,none⟩) rfl _)) (λe=>wB e.symm) (λ_ e=>wR e)
  ·have k1:Ch (λk=>k=B∨k=R) W wd:=(hg.out.to_ch _).trans ((hW2'.out▸putI_ch w9 it0 (.inr rfl):Ch (λk=>k=B∨k=R) w9 W2).trans (hgd'.out.to_ch _))
   have k2:=k1.trans ((Ch.setCell (T:=λk=>k=B∨k=R) wd (a:=⟨B,1,none⟩) (.inl rfl) (.int .i64 ((f+1) % m:Nat))).trans (Ch.setCell (T:=λk=>k=B∨k=R) _ (a:=⟨B,2,none⟩) (.inl rfl) (.int .i64 l.length)))
   exact k2.drop_new (((Ch.setCell (T:=λk=>k=W.heap.size) _ (a:=⟨W.heap.size,0,none⟩) rfl _).trans (Ch.setCell (T:=λk=>k=W.heap.size) _ (a:=⟨W.heap.size,1,none⟩) rfl _)).trans (Ch.setCell (T:=λk=>k=W.heap.size) _ (a:=⟨W.heap.size,2,none⟩) rfl _)) (λj hj=>.inr (Nat.le_of_eq (show j=W.heap.size from hj).symm))
