/-
  Rings of texts in memory: places, looks.
-/
import Derived.Test.YtadobobfjnmdlaaGreatDoorUu
set_option linter.unnecessarySimpa false
set_option linter.unusedVariables false
set_option linter.unusedSimpArgs false
set_option maxHeartbeats 16000000
set_option maxRecDepth 100000
open Go.Lib (hid)
open Go.Proofs.Tryz
namespace Go.Proofs.YtadobobfjnmdlaaGreatDoor
open Go.RowKit
attribute [local go_sem] Oper.semAt_some
structure RgS (B R m f:Nat) (W:World) (max:Nat) (xs:List (List UInt8)) (lv:Value):Prop where
 c0:W.cell? ⟨B,0,none⟩=some (.int .i64 max)
 c1:W.cell? ⟨B,1,none⟩=some (.int .i64 f)
 c2:W.cell? ⟨B,2,none⟩=some (.int .i64 xs.length)
 c3:W.cell? ⟨B,3,none⟩=some lv
 hl:(m=0∧lv=.slice none 0 0)∨(0<m∧lv=.slice (some ⟨R,0,none⟩) m m)
 fz:∀ o,W.frozen? ⟨B,o,none⟩=false
 fr:0<m→∀ o,W.frozen? ⟨R,o,none⟩=false
 hn:xs.length≤m
 hm:m≤max
 hM:max≤65536
 hf:f<m∨(m=0∧f=0)
 row:∀ i (h:i<xs.length),W.cell? ⟨R,(f+i) % m,none⟩=some (.string ⟨xs[i].toArray⟩)
 all:∀ j,j<m→∃ u:List UInt8,W.cell? ⟨R,j,none⟩=some (.string ⟨u.toArray⟩)
 ne:0<m→R≠B
theorem RgS.gr {B R m f:Nat} {W W':World} {max:Nat} {xs:List (List UInt8)} {lv:Value} (h:RgS B R m f W max xs lv) (g:Gr W W'):RgS B R m f W' max xs lv :=
 ⟨g.cell h.c0,g.cell h.c1,g.cell h.c2,g.cell h.c3,h.hl,λo=>(Below.frozen g (show B<W.heap.size from cell_lt h.c0)).trans (h.fz o),
  λhm o=>(Below.frozen g (show R<W.heap.size from cell_lt (h.all 0 hm).choose_spec)).trans (h.fr hm o),h.hn,h.hm,h.hM,h.hf,λi hi=>g.cell (h.row i hi),λj hj=>(h.all j hj).imp λ_ hu=>g.cell hu,h.ne⟩
theorem splace_any (B R m f i:Nat) (W:World) (c1:W.cell? ⟨B,1,none⟩=some (.int .i64 f)) (c3:W.cell? ⟨B,3,none⟩=some (.slice (some ⟨R,0,none⟩) m m)) (hm:0<m) (hm2:m≤65536) (hf:f<m) (hi:i≤65536) :
  Calls prog 99 #[.pointer (some ⟨B,0,none⟩),.int .i64 i] W λe w'=>e=.returned (.int .i64 ((f+i) % m:Nat))∧Gr W w':=by
 have hmI:((m:Int)==0)=false:=beq_eq_false_iff_ne.2 (by omega)
 go_enter func99,ntmps99
 go_wp2
 go_quiet (fail)
 go_wp2
 go_ret
 exact⟨by simp,below_drewNm _ _⟩
theorem splace_later {B R m f i:Nat} {W:World} (c1:W.cell? ⟨B,1,none⟩=some (.int .i64 f)) (c3:W.cell? ⟨B,3,none⟩=some (.slice (some ⟨R,0,none⟩) m m)) (hm:0<m) (hm2:m≤65536) (hf:f<m) (hi:i≤65536) (x:Later (Gr W)) :
  Calls prog 99 #[.pointer (some ⟨B,0,none⟩),.int .i64 i] x.w λe w'=>e=.returned (.int .i64 ((f+i) % m:Nat))∧∃ y:Later (Gr W),w'=y.w :=
 Calls.later ((splace_any B R m f i x.w (x.ok.cell c1) (x.ok.cell c3) hm hm2 hf hi).mono λ_ w' ⟨he,hg⟩=>⟨he,x.ok.trans hg⟩)
theorem slen_any {B R m f:Nat} {W:World} {max:Nat} {xs:List (List UInt8)} {lv:Value} (h:RgS B R m f W max xs lv) :
  Calls prog 83 #[.pointer (some ⟨B,0,none⟩)] W λe w'=>e=.returned (.int .i64 xs.length)∧W=w':=by
 have c2:=h.c2
 clear h
 go_enter func83,ntmps83
 go_wp2
 go_ret
 exact⟨rfl,rfl⟩
theorem sat_none {B R m f:Nat} {W:World} {max:Nat} {xs:List (List UInt8)} {lv:Value} (h:RgS B R m f W max xs lv) (i:Nat) (hi:xs.length≤i) :
  Calls prog 98 #[.pointer (some ⟨B,0,none⟩),.int .i64 i] W λe w'=>e=.returned (.tuple #[.string ⟨#[]⟩,.bool false])∧W=w':=by
 have c2:=h.c2
 have hi0:¬(i:Int)<0:=by omega
 have hi1:(xs.length:Int)≤i:=by omega
 clear h
 go_enter func98,ntmps98
 go_wp2
 go_ret2
 exact⟨rfl,rfl⟩
theorem sat_some {B R m f:Nat} {W:World} {max:Nat} {xs:List (List UInt8)} {lv:Value} (h:RgS B R m f W max xs lv) (i:Nat) (hi:i<xs.length) :
  Calls prog 98 #[.pointer (some ⟨B,0,none⟩),.int .i64 i] W λe w'=>e=.returned (.tuple #[.string ⟨xs[i].toArray⟩,.bool true])∧Gr W w':=by
 have c2:=h.c2
 have hn:=h.hn
 have hm2:m≤65536:=Nat.le_trans h.hm h.hM
 have hm0:0<m:=by omega
 have hf:f<m:=by rcases h.hf with e | e <;> omega
 obtain⟨_,rfl⟩:0<m∧lv=.slice (some ⟨R,0,none⟩) m m:=by
  rcases h.hl with e | e
  ·omega
  ·exact e
 have hrow:=h.row i hi
 have hpl:(f+i) % m<m:=Nat.mod_lt _ hm0
 haveI:Nonempty (Later (Gr W)):=⟨⟨W,Gr.refl W⟩⟩
 have t3:∀ x:Later (Gr W),x.w.cell? ⟨B,3,none⟩=some (.slice (some ⟨R,0,none⟩) m m):=λx=>x.ok.cell h.c3
 have tr:∀ x:Later (Gr W),x.w.cell? ⟨R,(f+i) % m,none⟩=some (.string ⟨xs[i].toArray⟩):=λx=>x.ok.cell hrow
 have k1:=hid h.c1
 have k3:=hid h.c3
 obtain⟨p,hp⟩:∃ p,(f+i) % m=p:=⟨_,rfl⟩
 have hpl2:=splace_later (R:=R) (m:=m) k1.out k3.out hm0 hm2 hf (show i≤65536 by omega)
 rw[hp] at hpl tr hrow
 simp only[hp] at hpl2
 have hpl2:=hid hpl2
 have hi0:¬(i:Int)<0:=by omega
 have hi1:¬(xs.length:Int)≤i:=by omega
 clear h
 go_enter func98,ntmps98
 go_wp2
 refine wp_region_later (C:=Gr W) (by kernel_rfl) (by kernel_rfl) (Gr.drew' _) ?_
 repeat (go_big_quiet_step (with_reducible exact hpl2.out _))
 refine wpQuiet_nil ?_
 intro w9 hg9
 have hg:=hid hg9
 clear t3 tr hg9
 go_wp2
 go_ret2
 exact⟨rfl,hg.out⟩
theorem spop_none {B R m f:Nat} {W:World} {max:Nat} {lv:Value} (h:RgS B R m f W max [] lv) :
  Calls prog 75 #[.pointer (some ⟨B,0,none⟩)] W λe w'=>e=.returned (.tuple #[.string ⟨#[]⟩,.bool false])∧W=w':=by
 have h0:=hid (sat_none h 0 (Nat.le_refl _))
 clear h
 go_enter func75,ntmps75
 go_wp2_with fail
 refine (h0.out).mono ?_
 rintro e w1⟨rfl,rfl⟩
 go_wp2
 go_ret2
 exact⟨rfl,rfl⟩
theorem RgS.pop {B R m f:Nat} {W W2 W3:World} {max:Nat} {a:List UInt8} {l:List (List UInt8)} {lv:Value} (h:RgS B R m f W max (a :: l) lv) (h2:W.setCell ⟨R,f,none⟩ (.string ⟨#[]⟩)=W2) (g:Gr W2 W3) :
  RgS B R m ((f+1) % m) ((W3.setCell ⟨B,1,none⟩ (.int .i64 ((f+1) % m:Nat))).setCell ⟨B,2,none⟩ (.int .i64 l.length)) max l lv:=by
 have hn:=h.hn
 simp only[List.length_cons] at hn
 have hm0:0<m:=by omega
 have hf:f<m:=by rcases h.hf with e | e <;> omega
 have hne:=h.ne hm0
 subst h2
 have hRB:∀ {o p:Nat},(⟨R,o,none⟩:Addr).block≠(⟨B,p,none⟩:Addr).block:=fun {_ _}=>hne
 have hBR:∀ {o p:Nat},(⟨B,o,none⟩:Addr).block≠(⟨R,p,none⟩:Addr).block:=fun {_ _} e=>hne e.symm
 have rowc:∀ {j:Nat} {u:Value} {w:World} {x y:Value} {o1 o2:Nat},w.cell? ⟨R,j,none⟩=some u→((w.setCell ⟨B,o1,none⟩ x).setCell ⟨B,o2,none⟩ y).cell? ⟨R,j,none⟩=some u:=λhh=>cell_set_other (cell_set_other hh hBR) hBR
 refine⟨?_,?_,?_,?_,h.hl,λo=>?_,λhm o=>?_,by omega,h.hm,h.hM,.inl (Nat.mod_lt _ hm0),λi hi=>?_,λj hj=>?_,h.ne⟩
 ·exact cell_off (cell_off (g.cell (cell_set_other h.c0 hRB)) (by decide)) (by decide)
 ·exact cell_off (cell_set_same (g.cell (cell_set_other h.c1 hRB))) (by decide)
 ·exact cell_set_same (cell_off (g.cell (cell_set_other h.c2 hRB)) (by decide))
 ·exact cell_off (cell_off (g.cell (cell_set_other h.c3 hRB)) (by decide)) (by decide)
 ·rw[frozen_set,frozen_set]
  exact (Below.frozen g (by simpa using cell_lt h.c0)).trans (frozen_set.trans (h.fz o))
 ·rw[frozen_set,frozen_set]
  exact (Below.frozen g (by simpa using cell_lt (h.all 0 hm0).choose_spec)).trans (frozen_set.trans (h.fr hm o))
 ·have hr:=h.row (i+1) (by simp;omega)
  have e:((f+1) % m+i) % m=(f+(i+1)) % m:=by rw[Nat.mod_add_mod,show f+1+i=f+(i+1) by omega]
  rw[e]
  refine rowc (g.cell ?_)
  have hne2:(f+(i+1)) % m≠f:=by
   intro e2
   have h1:i+1<m:=by omega
   rcases Nat.lt_or_ge (f+(i+1)) m with h2 | h2
   ·rw[Nat.mod_eq_of_lt h2] at e2;omega
   ·rw[Nat.mod_eq_sub_mod h2,Nat.mod_eq_of_lt (by omega)] at e2;omega
  exact cell_off hr hne2
 ·obtain⟨u,hu⟩:=h.all j hj
  by_cases hjf:j=f
  ·subst hjf
   exact⟨[],rowc (g.cell (cell_set_same hu))⟩
  ·exact⟨u,rowc (g.cell (cell_off hu hjf))⟩
theorem spop_some {B R m f:Nat} {W:World} {max:Nat} {a:List UInt8} {l:List (List UInt8)} {lv:Value} (h:RgS B R m f W max (a :: l) lv) :
  Calls prog 75 #[.pointer (some ⟨B,0,none⟩)] W λe w'=>e=.returned (.tuple #[.string ⟨a.toArray⟩,.bool true])∧RgS B R m ((f+1) % m) w' max l lv∧Ch (λk=>k=B∨k=R) W w':=by
 have h0:=hid (sat_some h 0 (Nat.zero_lt_succ _))
 have h':=hid h
 have hn:=h.hn
 simp only[List.length_cons] at hn
 have hm2:m≤65536:=Nat.le_trans h.hm h.hM
 have hm0:0<m:=by omega
 have hf:f<m:=by rcases h.hf with e | e <;> omega
 obtain⟨_,rfl⟩:0<m∧lv=.slice (some ⟨R,0,none⟩) m m:=by
  rcases h.hl with e | e
  ·omega
  ·exact e
 have hne:=h.ne hm0
 clear h
 go_enter func75,ntmps75
 go_wp2_with fail
 refine (h0.out).mono ?_
 rintro e w1⟨rfl,hg1⟩
 have h1:=h'.out.gr hg1
 have h1':=hid h1
 have hg1:=hid hg1
 obtain⟨u,hu⟩:=h1.all f hf
 have c1:=h1.c1
 have c3:=h1.c3
 have fr:=h1.fr hm0
 haveI:Nonempty (Later (Gr w1)):=⟨⟨w1,Gr.refl w1⟩⟩
 have t1:∀ x:Later (Gr w1),x.w.cell? ⟨B,1,none⟩=some (.int .i64 f):=λx=>x.ok.cell c1
 have t3:∀ x:Later (Gr w1),x.w.cell? ⟨B,3,none⟩=some (.slice (some ⟨R,0,none⟩) m m):=λx=>x.ok.cell c3
 clear h1 h0
 go_upto_region 4 with (fail)
 refine wp_region_later_tail (C:=Gr w1) 10 (by kernel_rfl) (by kernel_rfl) (Gr.drew' _) ?_
 simp only[List.take_succ_cons,List.take_zero,List.drop_succ_cons,List.drop_zero]
 repeat (go_big_quiet_step (fail))
 refine wpQuiet_nil ?_
 intro w9 hg9
 have h9:=hid (h1'.out.gr hg9)
 have hu9:=hg9.cell hu
 have fr9:∀ o,w9.frozen? ⟨R,o,none⟩=false:=h9.out.fr hm0
 have hg:=hid (hg1.out.trans hg9)
 clear t1 t3 hg9 hu fr c1 c3
 have hn1:(l.length:Int)+1 - 1=l.length:=by omega
 go_upto_region 5 with (fail)
 obtain⟨W2,hW2⟩:∃ x,w9.setCell ⟨R,f,none⟩ (.string ⟨#[]⟩)=x:=⟨_,rfl⟩
 rw[hW2]
 have hRB:∀ {o p:Nat},(⟨R,o,none⟩:Addr).block≠(⟨B,p,none⟩:Addr).block:=fun {_ _}=>hne
 have d1:W2.cell? ⟨B,1,none⟩=some (.int .i64 f):=hW2▸cell_set_other h9.out.c1 hRB
 have d2:W2.cell? ⟨B,2,none⟩=some (.int .i64 ((l.length:Int)+1)):=hW2▸cell_set_other h9.out.c2 hRB
 have d3:W2.cell? ⟨B,3,none⟩=some (.slice (some ⟨R,0,none⟩) m m):=hW2▸cell_set_other h9.out.c3 hRB
 have dz:∀ o,W2.frozen? ⟨B,o,none⟩=false:=λo=>hW2▸frozen_set.trans (h9.out.fz o)
 have hW2':=hid hW2
 have dR:=hid (show ∀ w':World,(w'.cell? ⟨B,1,none⟩=some (.int .i64 f)∧w'.cell? ⟨B,3,none⟩=some (.slice (some ⟨R,0,none⟩) m m))→Calls prog 99 #[.pointer (some ⟨B,0,none⟩),.int .i64 1] w' λe w9=>e=.returned (.int .i64 ((f+1) % m:Nat))∧Gr w' w9 from
  λw' hw=>splace_any B R m f 1 w' hw.1 hw.2 hm0 hm2 hf (by omega))
 have dZ:=hid (show ∀ w9,Gr W2 w9→∀ o,w9.frozen? ⟨B,o,none⟩=false from λw9 hg9 o=>(Below.frozen hg9 (show B<W2.heap.size from cell_lt d1)).trans (dz o))
 clear hW2 dz
 have hll:(l.length:Int)<65537:=by omega
 have hwr1:IntKind.i64.wrap ((l.length:Int)+1 - 1)=l.length:=by rw[hn1];exact IntWalk.i64_in _ (by omega)
 have hwr2:IntKind.i64.wrap (l.length:Int)=l.length:=IntWalk.i64_in _ (by omega)
 go_region_law (first | (go_simp;go_at_call 99;refine (dR.out W2.drew ⟨d1,d3⟩).mono ?_;rintro e wd ⟨rfl,gd⟩;have hgd:Gr W2 wd:=Gr.trans (Gr.drew (Gr.refl _)) gd;have hgd':=hid hgd;replace d1:=gd.cell d1;replace d2:=gd.cell d2;have z1:=dZ.out _ hgd 1;have z2:=dZ.out _ hgd 2))
 all_goals
  go_wp2
  go_ret2
  refine⟨rfl,?_,?_⟩
  ·have hp:=h9.out.pop hW2'.out hgd'.out
   exact hp
  ·have c1:Ch (λk=>k=B∨k=R) w9 W2:=hW2'.out▸Ch.setCell w9 (a:=⟨R,f,none⟩) (.inr rfl) _
   exact ((hg.out.to_ch _).trans (c1.trans (hgd'.out.to_ch _))).trans ((Ch.setCell _ (a:=⟨B,1,none⟩) (.inl rfl) _).trans (Ch.setCell _ (a:=⟨B,2,none⟩) (.inl rfl) _))
open Go.Shelf
def idxs {α:Type}:Nat→List α→List (Nat×α)
 | _,[]=>[]
 | i,a :: l=>(i,a) :: idxs (i+1) l
theorem idxs_len {α:Type}:∀ (l:List α) (i:Nat),(idxs i l).length=l.length
 | [],_=>rfl
 | _ :: l,i=>by rw[idxs,List.length_cons,idxs_len l,List.length_cons]
theorem idxs_get {α:Type}:∀ (l:List α) (i k:Nat) (h:k<(idxs i l).length) (h2:k<l.length),(idxs i l)[k]=(i+k,l[k])
 | [],_,_,h,_=>absurd h (Nat.not_lt_zero _)
 | a :: l,i,0,_,_=>rfl
 | a :: l,i,k+1,h,h2=>by
  simp only[idxs,List.getElem_cons_succ]
  rw[idxs_get l (i+1) k]
  rw[show i+1+k=i+(k+1) by omega]
theorem idxs_at {α:Type} {l:List α} {pre rest:List (Nat×α)} {x:Nat×α} (h:idxs 0 l=pre++x :: rest):∃ hk:pre.length<l.length,x=(pre.length,l[pre.length]):=by
 have h1:pre.length<(idxs 0 l).length:=by rw[h];simp
 have h2:pre.length<l.length:=by rwa [idxs_len] at h1
 refine⟨h2,?_⟩
 have h3:=idxs_get l 0 pre.length h1 h2
 rw[Nat.zero_add] at h3
 rw[←h3]
 simp[h]
theorem idxs_split {α:Type} (l:List α) (k:Nat) (h:k<l.length):idxs 0 l=(idxs 0 l).take k++(k,l[k]) :: (idxs 0 l).drop (k+1):=by
 have h1:k<(idxs 0 l).length:=by rw[idxs_len];exact h
 have h2:=idxs_get l 0 k h1 h
 rw[Nat.zero_add] at h2
 rw[←h2,←List.drop_eq_getElem_cons h1,List.take_append_drop]
theorem idxs_take {α:Type} (l:List α) (k:Nat) (h:k<l.length):(idxs 0 l).take k++[(k,l[k])]=(idxs 0 l).take (k+1):=by
 have h1:k<(idxs 0 l).length:=by rw[idxs_len];exact h
 have h2:=idxs_get l 0 k h1 h
 rw[Nat.zero_add] at h2
 rw[←h2]
 simp[List.take_concat_get]
def scel (s:List UInt8):List Value:=[.string ⟨s.toArray⟩]
theorem infoStrQ:(prog.info? 9).map (λi=>(i.zero,i.size,i.bytes))=some (some (.string ⟨#[]⟩),1,16):=by kernel_rfl
def encR (x:Nat×List UInt8):Array Value:=#[.int .i64 x.1,.string ⟨x.2.toArray⟩]
theorem sall_any (B:Nat) (W:World) :
  Calls prog 180 #[.pointer (some ⟨B,0,none⟩)] W λe w'=>e=.returned (.func (.func 223) #[] #[.pointer (some ⟨W.heap.size,0,none⟩)])∧W.alloc (.cells #[.pointer (some ⟨B,0,none⟩)] 104)=w':=by
 go_enter func180,ntmps180
 go_wp2
 go_ret
 exact⟨rfl,rfl⟩
theorem sall_iter {B R m f:Nat} {W0:World} {max:Nat} {xs:List (List UInt8)} {lv:Value} (bv:Nat) (hv:W0.cell? ⟨bv,0,none⟩=some (.pointer (some ⟨B,0,none⟩))) :
  IterO prog 223 #[.pointer (some ⟨bv,0,none⟩)] encR (idxs 0 xs) (λk=>k=bv) (λA=>RgS B R m f A max xs lv) W0:=by
 intro W l J Jx U hsz hT hU hJ hJx hJG hY h0
 have gv:W.cell? ⟨bv,0,none⟩=some (.pointer (some ⟨B,0,none⟩)):=(World.cell?_of_block (hT bv rfl)).trans hv
 have hR0:=hJG _ _ h0
 have hn6:xs.length≤65536:=Nat.le_trans hR0.hn (Nat.le_trans hR0.hm hR0.hM)
 obtain⟨i0,hi,hz0,hz1,hzb⟩:=info_parts infoStrQ
 have hJ':=hid hJ
 have hJx':=hid hJx
 have hY':=hid hY
 have hU':=hid hU
 have h0':=hid h0
 have hR0':=hid hR0
 have gv':=hid gv
 clear hJ hJx hY hU h0 hT hv hJG hR0
 have hfn:∀ f,Fence.wide.fn f:=λ_=>trivial
 have hdp:Fence.wide.depth=none:=rfl
 refine callsIn_of_wp func223 rfl trivial ?_ rfl
 simp only[ntmps223,List.size_toArray,List.length_cons,List.length_nil,Nat.reduceAdd,Nat.reduceSub,Array.replicate_succ,Array.replicate_zero,List.push_toArray,List.append_toArray,List.nil_append,List.cons_append]
 gi_wp2_with (fail)
 refine (callsIn_wide.2 (slen_any hR0'.out)).mono ?_
 rintro e w1⟨rfl,rfl⟩
 clear gv
 gi_wp2
 gi_loopw [3,11] (λvl i wr=>∃ k:Nat,k≤xs.length∧i=.int .i64 k∧wr.ownsRow W.heap.size 9 1 vl k (rcells scel (xs.take k))∧Gr W wr) (λ_ i _=>xs.length - (intOf i).toNat)
 case atStart=>exact⟨0,Nat.zero_le _,rfl,World.ownsRow_nil _ _ _ _,Gr.refl _⟩
 case round =>
  obtain⟨k,hk,rfl,hown,hg⟩:=hrel
  have gv:=hg.cell gv'.out
  obtain⟨pv,cv,rfl⟩:=ownsRow_slice hown
  have hown':=hid hown
  have hg':=hid hg
  clear hown hg
  by_cases hlt:k<xs.length
  ·gi_wp2_with (fail)
   refine (callsIn_wide.2 (sat_some (hR0'.out.gr hg'.out) k hlt)).mono ?_
   rintro e w2⟨rfl,hg2⟩
   have hoA:∀ O,(w2.alloc O).ownsRow W.heap.size 9 1 (.slice pv k cv) k (rcells scel (xs.take k)):=λO=>World.ownsRow.alloc (ownsRow_gr hown'.out hg2) O
   have hbz:=Nat.le_trans (Below.size hg'.out) (Below.size hg2)
   have k2:∀ j u,[Value.string ⟨xs[k].toArray⟩][j]?=some u→(w2.alloc (.cells #[.string ⟨xs[k].toArray⟩] 9)).cell? ((⟨w2.heap.size,0,none⟩:Addr).add j)=some u:=cells_new w2 [.string ⟨xs[k].toArray⟩] 9
   have k3:∀ u∈[Value.string ⟨xs[k].toArray⟩],u.oneCell'=true:=by simp[Value.oneCell']
   have k4:k+1≤maxLen:=by unfold maxLen;omega
   have k5:(k+1)*16≤140737488355328:=by omega
   have k6:W.heap.size≤(w2.alloc (.cells #[.string ⟨xs[k].toArray⟩] 9)).heap.size:=by simp;omega
   have hg2':=hid (hg'.out.trans hg2)
   clear gv hg2
   gi_wp2_with (gi_at_builtin;refine wpListIn_append_own _ rfl _ _ 86 rfl W.heap.size 9 i0 (.string ⟨#[]⟩) 1 16 underlying86 hi hz0 hz1 hzb rfl (by decide) _ _ _ rfl (hoA _) ⟨w2.heap.size,0,none⟩ 1 1 [.string ⟨xs[k].toArray⟩] rfl rfl k2 k3 k4 k5 k6 ?_)
   intro vs' w3 hown3 hgrow3 _
   have hrel9:∃ j:Nat,j≤xs.length∧Value.int .i64 ((k:Int)+1)=.int .i64 j∧w3.ownsRow W.heap.size 9 1 vs' j (rcells scel (xs.take j))∧Gr W w3:=by
    refine⟨k+1,by omega,by simp,?_,?_⟩
    ·rw[List.take_succ_eq_append_getElem hlt,rcells_app,rcells_one1]
     exact hown3
    ·refine (hg2'.out.alloc1 _).ch (ch_grown hgrow3) (λj hj=>?_)
     exact ((hown'.out.lt j hj).1)
   have hrel9':=hid hrel9
   clear hrel9 hown3 hgrow3 k2 k3 k4 k5 k6 hoA
   gi_wp2
   go_roundw
   case rel=>exact hrel9'.out
   case measure=>simp[intOf];omega
  ·obtain rfl:k=xs.length:=by omega
   have hst:=hown'.out
   rw[List.take_length] at hst
   have hst':=hid hst
   have hsz0:=hid (Below.size hg'.out)
   have hJ1:=hid (hJ'.out _ _ _ h0'.out (hg'.out.to_ch _))
   have hcell:∀ k (h:k<xs.length),∃ g,pv=some ⟨g,0,none⟩∧W.heap.size≤g∧g<wr.heap.size∧wr.cell? ⟨g,k,none⟩=some (.string ⟨xs[k].toArray⟩):=λk h=>by
    obtain⟨g,cap,e,h1,h2,h3⟩:=ownsRow_cell hst (by omega)
    cases e
    refine⟨g,rfl,h1,h2,?_⟩
    have:=rcells_get (f:=scel) (k:=1) (λ_=>rfl) xs k 0 h (by decide)
    rw[h3 k (by omega)]
    simpa[scel] using this
   have hcell':=hid hcell
   clear hst hcell gv
   gi_wp2
   gi_loopw [27] (λi w'=>∃ k:Nat,k≤xs.length∧i=.int .i64 k∧J ((idxs 0 xs).take k) w'∧W.heap.size≤w'.heap.size∧Ch (λj=>j<W.heap.size) wr w') (λi _=>xs.length - (intOf i).toNat)
   case atStart=>exact⟨0,Nat.zero_le _,rfl,hJ1.out,hsz0.out,Ch.refl _ _⟩
   case round =>
    obtain⟨k,hk,rfl,hj,hwz,hch⟩:=hrel
    have hj':=hid hj
    have hch':=hid hch
    clear hj hch
    by_cases hlt:k<xs.length
    ·obtain⟨g,rfl,hg1,hg2,hg3⟩:=hcell'.out k hlt
     have hc:wr.cell? ⟨g,k,none⟩=some (.string ⟨xs[k].toArray⟩):=(hch'.out.cell (p:=⟨g,k,none⟩) hg2 (by (try dsimp only);omega)).trans hg3
     have hY2:=hY'.out _ _ _ wr (idxs_split xs k hlt) hwz hj'.out
     unfold encR at hY2
     dsimp only at hY2
     obtain⟨fn,tmps,assign,body,hy,hR⟩:=hY2
     clear hg3
     gi_wp2
     refine hR.mono ?_
     rintro e A (⟨rfl,hj2,hc2⟩ | ⟨rfl,hj2,hc2⟩)
     ·rw[idxs_take xs k hlt] at hj2
      have hj3:=hid hj2
      have hA:=hid (Nat.le_trans hwz hc2.size)
      have hch2:=hid (hch'.out.trans (hc2.mono (λj hj=>(hU'.out j hj).1)))
      clear hc hc2 hj2 hy hR
      gi_wp2
      go_roundw
      case rel=>exact⟨k+1,by omega,by simp,hj3.out,hA.out,hch2.out⟩
      case measure=>simp[intOf];omega
     ·gi_wp2
      refine bodyPost_ret (results_none rfl _ _ _) rfl ?_
      exact⟨rfl,.inr ⟨_,⟨(idxs 0 xs).drop (k+1),by rw[List.append_assoc];exact (idxs_split xs k hlt).symm⟩,hj2⟩⟩
    ·obtain rfl:k=xs.length:=by omega
     gi_wp2
     go_end0
     refine⟨rfl,.inl ?_⟩
     have:=hj'.out
     rwa [List.take_of_length_le (by rw[idxs_len];exact Nat.le_refl _)] at this
theorem wp_then_false {P:Program} {c:Code} {J:Act→World→Prop} {Q':Exit→Act→World→Prop} {a:Act} {w:World} (h:c.wp P (Exit.then J (λ_ _ _=>False)) a w):c.wp P (Exit.then J Q') a w:=by
 refine wp_mono h ?_
 intro e a w he
 cases e <;> first | exact he | exact he.elim
def gsz (m mx:Nat):Nat:=min (max (2*m) 8) mx
structure GrowF (z:Value) (n st:Nat) (W wx:World) (V R':Nat):Prop where
 gr:Gr W wx
 vl:W.heap.size≤V
 rl:W.heap.size≤R'
 vr:V≠R'
 vc:wx.cell? ⟨V,0,none⟩=some (.slice (some ⟨R',0,none⟩) n n)
 rc:∀ j,j<n*st→wx.cell? ⟨R',j,none⟩=some z
 rz:∀ o,wx.frozen? ⟨R',o,none⟩=false
 rs:R'<wx.heap.size
theorem GrowF.drew {z:Value} {n st V R':Nat} {W wx:World} (h:GrowF z n st W wx V R'):GrowF z n st W wx.drew V R':=⟨h.gr.drew,h.vl,h.rl,h.vr,h.vc,h.rc,h.rz,h.rs⟩
theorem repl_cell (W:World) (m:Nat) (z:Value) (t:TypeId) (j:Nat) (h:j<m):(W.alloc (.cells (Array.replicate m z) t)).cell? ⟨W.heap.size,j,none⟩=some z:=by
 have:=cell_new7 W (List.replicate m z) t j z (by rw[List.getElem?_replicate,if_pos h])
 simpa using this
theorem growA (W:World) (z:Value) (n st m:Nat) (t t2:TypeId) (hm:m=n*st):GrowF z n st W ((W.alloc (.cells (Array.replicate m z) t)).alloc (.cells #[.slice (some ⟨W.heap.size,0,none⟩) n n] t2)) (W.heap.size+1) W.heap.size:=by
 subst hm
 refine⟨((Gr.refl W).alloc1 _).alloc1 _,by omega,Nat.le_refl _,by omega,by simp[go_sem],λj hj=>?_,λo=>by simp[go_sem],by simp;omega⟩
 exact (Gr.alloc _ _).cell (repl_cell W _ z t j hj)
theorem growB (W:World) (z:Value) (n st m:Nat) (t t2:TypeId) (hm:m=n*st):GrowF z n st W ((W.alloc (.cells #[.slice (some ⟨W.heap.size+1,0,none⟩) n n] t2)).alloc (.cells (Array.replicate m z) t)) W.heap.size (W.heap.size+1):=by
 subst hm
 refine⟨((Gr.refl W).alloc1 _).alloc1 _,Nat.le_refl _,by omega,by omega,by simp[go_sem],λj hj=>?_,λo=>by simp[go_sem],by simp⟩
 have h:=repl_cell (W.alloc (.cells #[.slice (some ⟨W.heap.size+1,0,none⟩) n n] t2)) _ z t j hj
 rwa [World.size_alloc] at h
theorem RgS.ch {B R m f:Nat} {W W':World} {mx:Nat} {xs:List (List UInt8)} {lv:Value} {T:Nat→Prop} (h:RgS B R m f W mx xs lv) (hc:Ch T W W') (hB:¬T B) (hR:0<m→¬T R):RgS B R m f W' mx xs lv:=by
 have cb:∀ {o v},W.cell? ⟨B,o,none⟩=some v→W'.cell? ⟨B,o,none⟩=some v:=fun {o v} hh=>(hc.cell (p:=⟨B,o,none⟩) (cell_lt hh) hB).trans hh
 have cr:0<m→∀ {o v},W.cell? ⟨R,o,none⟩=some v→W'.cell? ⟨R,o,none⟩=some v:=λhm {o v} hh=>(hc.cell (p:=⟨R,o,none⟩) (cell_lt hh) (hR hm)).trans hh
 exact⟨cb h.c0,cb h.c1,cb h.c2,cb h.c3,h.hl,λo=>(hc.frozen (p:=⟨B,o,none⟩) (show B<W.heap.size from cell_lt h.c0) hB).trans (h.fz o),
  λhm o=>(hc.frozen (p:=⟨R,o,none⟩) (show R<W.heap.size from cell_lt (h.all 0 hm).choose_spec) (hR hm)).trans (h.fr hm o),h.hn,h.hm,h.hM,h.hf,
  λi hi=>cr (by have:=h.hn;omega) (h.row i hi),λj hj=>(h.all j hj).imp λ_ hu=>cr (by omega) hu,h.ne⟩
theorem sgrow_any {B R m f:Nat} {W:World} {mx:Nat} {xs:List (List UInt8)} {lv:Value} (h:RgS B R m f W mx xs lv) (hx:xs.length=m) (hlt:m<mx) :
  Calls prog 145 #[.pointer (some ⟨B,0,none⟩)] W λe w'=>e=.returned (.tuple #[])∧∃ R',W.heap.size≤R'∧RgS B R' (gsz m mx) 0 w' mx xs (.slice (some ⟨R',0,none⟩) (gsz m mx) (gsz m mx))∧Ch (λk=>k=B) W w':=by
 have h':=hid h
 have hm6:m≤65536:=Nat.le_trans h.hm h.hM
 have hM6:=h.hM
 have c0:=h.c0
 have c3:=h.c3
 obtain⟨p,rfl⟩:∃ p,lv=.slice p m m:=by
  rcases h.hl with⟨e,e2⟩ | ⟨_,e2⟩
  ·exact⟨none,by rw[e2,e]⟩
  ·exact⟨_,e2⟩
 obtain⟨i0,hi,hz0,hz1,hzb⟩:=info_parts infoStrQ
 obtain⟨n,hn⟩:∃ n,gsz m mx=n:=⟨_,rfl⟩
 have hnm:m<n∧0<n∧n≤mx:=by rw[←hn];unfold gsz;omega
 have hsz:min (max (IntKind.i64.wrap (2*(m:Int))) 8) (mx:Int)=(n:Int):=by
  rw[IntWalk.i64_in _ (by omega),←hn];unfold gsz;omega
 have hmk:∀ w:World,(Instr.makeSlice 86 (.int .i64 n) (.int .i64 n)).run prog w=.ok (.slice (some ⟨w.heap.size,0,none⟩) n n) (w.alloc (.cells (List.replicate n (Value.string ⟨#[]⟩)).toArray 9)):=λw=>by
  have hr:=run_make (P:=prog) w 86 9 i0 _ underlying86 hi hz0 .i64 .i64 n n (by omega) (Int.le_refl _) (by rw[hzb];omega) (by omega)
  simp only[Int.toNat_natCast] at hr
  rw[hr,hz1,Nat.mul_one]
  congr 3
  rw[←toList_madeCells_one]
  simp[Value.cells]
 clear h hi hz0 hz1 hzb
 have hBz:B<W.heap.size:=cell_lt c0
 have hBz1:B<W.heap.size+1:=by omega
 rw[hn]
 refine (callsIn_wide (n:=0)).1 ?_
 refine callsIn_of_wp_marks func145 rfl trivial ?_ rfl
 simp only[ntmps145,List.size_toArray,List.length_cons,List.length_nil,Nat.reduceAdd,Nat.reduceSub,Array.replicate_succ,Array.replicate_zero,List.push_toArray,List.append_toArray,List.nil_append,List.cons_append]
 refine (wpIn_wide (n:=0)).2 ?_
 go_upto_region 0 with (fail)
 go_cut [2] from 5 to 17 (λv wx=>∃ V R',v=.pointer (some ⟨V,0,none⟩)∧GrowF (.string ⟨#[]⟩) n 1 W wx V R')
 case first =>
  refine wp_then_false ?_
  go_region_law (fail)
  all_goals
   go_wp2
   go_meet
   first
    | exact⟨_,_,rfl,(growA W _ n 1 _ _ _ (Nat.mul_one n).symm).drew⟩
    | exact⟨_,_,rfl,(growB W _ n 1 _ _ _ (Nat.mul_one n).symm).drew⟩
 case rest =>
  obtain⟨V,R',rfl,hF⟩:=hcut
  have h1':=hid (h'.out.gr hF.gr)
  have hF':=hid hF
  clear c0 c3 hmk hF hBz hBz1 hsz
  go_wp2_with (go_at_call 180;refine (sall_any B _).mono ?_;rintro e w' ⟨rfl,rfl⟩)
  obtain⟨w2,hw2⟩:∃ x,wc.alloc (.cells #[.pointer (some ⟨B,0,none⟩)] 104)=x:=⟨_,rfl⟩
  rw[hw2]
  have hs2:=hid (show w2.heap.size=wc.heap.size+1 by rw[←hw2];simp)
  have hb2:w2.cell? ⟨wc.heap.size,0,none⟩=some (.pointer (some ⟨B,0,none⟩)):=by rw[←hw2];simp[go_sem]
  have hg2:Gr wc w2:=by rw[←hw2];exact Gr.alloc _ _
  have hF2:=hid (show GrowF (.string ⟨#[]⟩) n 1 W w2 V R' from⟨hF'.out.gr.trans hg2,hF'.out.vl,hF'.out.rl,hF'.out.vr,hg2.cell hF'.out.vc,λj hj=>hg2.cell (hF'.out.rc j hj),λo=>(Below.frozen hg2 (p:=⟨R',o,none⟩) hF'.out.rs).trans (hF'.out.rz o),Nat.lt_of_lt_of_le hF'.out.rs (Below.size hg2)⟩)
  clear hw2
  refine (wpIn_wide (n:=0)).1 ?_
  refine wpIn_range2 (gf:=223) rfl (enters_of func223 (by kernel_rfl) rfl) (sall_iter (B:=B) (R:=R) (m:=m) (f:=f) (max:=mx) (xs:=xs) (lv:=.slice p m m) wc.heap.size hb2) (Nat.le_refl _) (λk hk=>⟨by rw[hs2.out];(try dsimp only at hk);omega,rfl⟩) (λ_=>rfl)
   (λpre A=>Gr W A∧w2.heap.size≤A.heap.size∧A.cell? ⟨V,0,none⟩=some (.slice (some ⟨R',0,none⟩) n n)∧(∀ o,A.frozen? ⟨R',o,none⟩=false)∧(∀ j,j<n→∃ u:List UInt8,A.cell? ⟨R',j,none⟩=some (.string ⟨u.toArray⟩))∧∀ j (hj:j<xs.length),j<pre.length→A.cell? ⟨R',j,none⟩=some (.string ⟨xs[j].toArray⟩))
   (λ_ _ _=>False) (λk=>k=R')
   (λk hk=>⟨by have:=hF2.out.rs;(try dsimp only at hk);omega,by have:=hF'.out.rs;(try dsimp only at hk ⊢);omega⟩) ?hI (λ_ _ _ _ h _=>h.elim) (λ_ _ h=>h'.out.gr h.1) ⟨hF2.out.gr,Nat.le_refl _,hF2.out.vc,hF2.out.rz,λj hj=>⟨[],hF2.out.rc j (by omega)⟩,λj _ h=>absurd h (Nat.not_lt_zero _)⟩ ?round ?done (λ_ _ _ _ _ _ h _=>h.elim)
  case hI =>
   rintro pre A B'⟨g,k0,k1,k2,k3,k4⟩ hch
   have e2:=hs2.out
   have eW:=Below.size hF'.out.gr
   have hr:¬(R'=wc.heap.size∨w2.heap.size≤R'):=by have:=hF'.out.rs;omega
   have hv:¬(V=wc.heap.size∨w2.heap.size≤V):=by have:V<wc.heap.size:=cell_lt hF'.out.vc;omega
   have hrl:R'<A.heap.size:=by have:=hF2.out.rs;omega
   exact⟨g.ch hch (λk hk=>by omega),Nat.le_trans k0 hch.size,(hch.cell (p:=⟨V,0,none⟩) (cell_lt k1) hv).trans k1,λo=>(hch.frozen (p:=⟨R',o,none⟩) hrl hr).trans (k2 o),
    λj hj=>(k3 j hj).imp λu hu=>(hch.cell (p:=⟨R',j,none⟩) hrl hr).trans hu,λj hj h=>(hch.cell (p:=⟨R',j,none⟩) hrl hr).trans (k4 j hj h)⟩
  case round =>
   intro l' pre x rest A hl' hlt2 hxs hI
   obtain⟨hk,rfl⟩:=idxs_at hxs
   obtain⟨g,k0,k1,k2,k3,k4⟩:=hI
   obtain⟨y,hy⟩:∃ y,xs[pre.length]=y:=⟨_,rfl⟩
   obtain⟨k,hkk⟩:∃ k,pre.length=k:=⟨_,rfl⟩
   have hkn:k<n:=by omega
   have eW:=Below.size hF'.out.gr
   have e2:=hs2.out
   have hrl:R'<wc.heap.size:=hF'.out.rs
   have hvl:V<wc.heap.size:=cell_lt hF'.out.vc
   have hne1:¬(R'=l'):=by omega
   have hne2:¬(V=l'):=by omega
   have hvr:=hF'.out.vr
   have hRA:R'<A.heap.size:=by omega
   have hWR:=hF'.out.rl
   have hWl:W.heap.size≤l':=by omega
   obtain⟨u,hu⟩:=k3 k hkn
   rw[hy]
   rw[hkk]
   unfold encR
   have hI':=hid (And.intro g (And.intro k0 (And.intro k1 (And.intro k2 (And.intro k3 k4)))))
   have hy':=hid (show ∀ h:pre.length<xs.length,xs[pre.length]=y from λ_=>hy)
   have hkk':=hid hkk
   have hk':=hid hk
   clear hxs k0 k2 k3 k4 hkk
   gi_wp2
   refine⟨Ch.refl _ _,λA2 hA2=>?_⟩
   obtain⟨g,k0,k1,k2,k3,k4⟩:=hI'.out
   have d1:A2.cell? ⟨V,0,none⟩=some (.slice (some ⟨R',0,none⟩) n n):=(hA2.cell (p:=⟨V,0,none⟩) (cell_lt k1) hne2).trans k1
   have d2:A2.cell? ⟨R',k,none⟩=some (.string ⟨u.toArray⟩):=(hA2.cell (p:=⟨R',k,none⟩) hRA hne1).trans hu
   have dz:∀ o,A2.frozen? ⟨R',o,none⟩=false:=λo=>(hA2.frozen (p:=⟨R',o,none⟩) hRA hne1).trans (k2 o)
   have hd:=hid (show (Gr W A2∧w2.heap.size≤A2.heap.size)∧((∀ j,j<n→∃ u:List UInt8,A2.cell? ⟨R',j,none⟩=some (.string ⟨u.toArray⟩))∧∀ j (hj:j<xs.length),j<pre.length→A2.cell? ⟨R',j,none⟩=some (.string ⟨xs[j].toArray⟩)) from
    ⟨⟨g.ch hA2 (λk hk=>by (try dsimp only at hk);omega),Nat.le_trans k0 hA2.size⟩,λj hj=>(k3 j hj).imp λu hu=>(hA2.cell (p:=⟨R',j,none⟩) hRA hne1).trans hu,λj hj h=>(hA2.cell (p:=⟨R',j,none⟩) hRA hne1).trans (k4 j hj h)⟩)
   clear g k0 k1 k2 k3 k4 hA2 hu
   gi_wp2
   have hVR:(⟨R',k,none⟩:Addr).block≠(⟨V,0,none⟩:Addr).block:=λe=>hvr e.symm
   refine⟨Ch.setCell (T:=λk=>k=R') _ rfl _,hd.out.1.1.setCell hWR _,by rw[World.size_setCell];exact hd.out.1.2,cell_set_other d1 hVR,λo=>by rw[frozen_set];exact dz o,λj hj=>?_,λj hj h=>?_⟩
   ·by_cases hjk:j=k
    ·subst hjk;exact⟨y,cell_set_same d2⟩
    ·obtain⟨u2,hu2⟩:=hd.out.2.1 j hj
     exact⟨u2,cell_off hu2 hjk⟩
   ·rw[List.length_append,List.length_singleton,hkk'.out] at h
    by_cases hjk:j=k
    ·subst hjk
     rw[cell_set_same d2]
     have e:=hy'.out (by rw[hkk'.out];exact hj)
     simp only[hkk'.out] at e
     rw[←e]
    ·exact cell_off (hd.out.2.2 j hj (by rw[hkk'.out];omega)) hjk
  case done =>
   rintro D A hD⟨g,k0,k1,k2,k3,k4⟩ hK
   have hA:=h'.out.gr g
   have hne:=hF'.out.vr
   have hVz:V<wc.heap.size:=cell_lt hF'.out.vc
   have hBz:B<W.heap.size:=cell_lt h'.out.c0
   have hWR:=hF'.out.rl
   have hWV:=hF'.out.vl
   have hDz:W.heap.size≤D:=by have:=hs2.out;have:=Below.size hF'.out.gr;omega
   have c1:=hA.c1
   have c3:=hA.c3
   have fz:=hA.fz
   have hall:=hid (And.intro g (And.intro k2 (And.intro k3 k4)))
   have hA':=hid hA
   have hK':=hid hK
   rw[idxs_len] at k4
   have k4':=hid k4
   clear hA g k0 k2 k3 k4 hK
   go_wp2
   have hDn:D≠B:=by omega
   have hK2:((A.setCell ⟨B,3,none⟩ (.slice (some ⟨R',0,none⟩) n n)).setCell ⟨B,1,none⟩ (.int .i64 0)).heap[D]?=some (.deferred (some [])) :=
    (Below.heap_setCell _ ⟨B,1,none⟩ _ _ hDn).trans ((Below.heap_setCell _ ⟨B,3,none⟩ _ _ hDn).trans hK'.out)
   refine⟨by simp,.inl ⟨_,_,rfl,run_takeDeferred hK2,?_⟩⟩
   refine⟨.tuple #[],results_none rfl _ _ _,rfl,R',hWR,?_,?_⟩
   ·obtain⟨g,k2,k3,_⟩:=hall.out
    have hcD:=Ch.putObj (T:=λk=>k=D) ((A.setCell ⟨B,3,none⟩ (.slice (some ⟨R',0,none⟩) n n)).setCell ⟨B,1,none⟩ (.int .i64 0)) rfl (.deferred none)
    have hRD:R'≠D:=by have:=hF2.out.rs;omega
    have hRB:R'≠B:=by omega
    have cb:∀ {o v},((A.setCell ⟨B,3,none⟩ (.slice (some ⟨R',0,none⟩) n n)).setCell ⟨B,1,none⟩ (.int .i64 0)).cell? ⟨B,o,none⟩=some v→_:=fun {o v} hh=>(hcD.cell (p:=⟨B,o,none⟩) (cell_lt hh) (λe=>hDn e.symm)).trans hh
    have cr:∀ {o v},A.cell? ⟨R',o,none⟩=some v→_:=fun {o v} hh =>
     (hcD.cell (p:=⟨R',o,none⟩) (by have:=cell_lt hh;simpa using this) hRD).trans (cell_set_other (v:=.int .i64 0) (a:=⟨B,1,none⟩) (cell_set_other (v:=.slice (some ⟨R',0,none⟩) n n) (a:=⟨B,3,none⟩) hh (λe=>hRB e.symm)) (λe=>hRB e.symm))
    have hBA:B<A.heap.size:=cell_lt c1
    have hRA:R'<A.heap.size:=cell_lt (k3 0 hnm.2.1).choose_spec
    refine⟨cb (cell_off (cell_off hA'.out.c0 (by decide)) (by decide)),cb (cell_set_same (cell_off c1 (by decide))),cb (cell_off (cell_off hA'.out.c2 (by decide)) (by decide)),cb (cell_off (cell_set_same c3) (by decide)),.inr ⟨hnm.2.1,rfl⟩,λo=>?_,λ_ o=>?_,by omega,hnm.2.2,hM6,.inl hnm.2.1,λi hi=>?_,λj hj=>?_,λ_=>hRB⟩
    ·refine (hcD.frozen (p:=⟨B,o,none⟩) (by simpa using hBA) (λe=>hDn e.symm)).trans ?_
     rw[frozen_set,frozen_set];exact fz o
    ·refine (hcD.frozen (p:=⟨R',o,none⟩) (by simpa using hRA) hRD).trans ?_
     rw[frozen_set,frozen_set];exact k2 o
    ·rw[show (0+i) % n=i by rw[Nat.zero_add];exact Nat.mod_eq_of_lt (by omega)]
     exact cr (k4'.out i hi hi)
    ·exact (k3 j hj).imp λu hu=>cr hu
   ·have c1:Ch (λk=>k=B) W ((A.setCell ⟨B,3,none⟩ (.slice (some ⟨R',0,none⟩) n n)).setCell ⟨B,1,none⟩ (.int .i64 0)) :=
     ((hall.out.1.to_ch _).trans (Ch.setCell (T:=λk=>k=B) _ (a:=⟨B,3,none⟩) rfl _)).trans (Ch.setCell (T:=λk=>k=B) _ (a:=⟨B,1,none⟩) rfl _)
    exact c1.drop_new (Ch.putObj (T:=λk=>k=D) _ rfl _) (λj hj=>.inr (by (try dsimp only at hj);omega))
