/-
  Rings of texts in memory: more places, a push, a new one.
-/
import Derived.Test.YtadobobfjnmdlaaGreatDoorJt
import Derived.Deep.RegionHeld3
set_option linter.unusedVariables false
set_option linter.unusedSimpArgs false
set_option maxHeartbeats 16000000
set_option maxRecDepth 100000
open Go.Lib (hid)
namespace Go.Proofs.YtadobobfjnmdlaaGreatDoor
open Go.RowKit Go.Shelf
attribute [local go_sem] Oper.semAt_some
theorem wp_then_false {P:Program} {c:Code} {J:Act→World→Prop} {Q':Exit→Act→World→Prop} {a:Act} {w:World} (h:c.wp P (Exit.then J (fun _ _ _=>False)) a w):c.wp P (Exit.then J Q') a w:=by
 refine wp_mono h ?_
 intro e a w he
 cases e <;> first | exact he | exact he.elim
def gsz (m mx:Nat):Nat:=min (max (2*m) 8) mx
structure GrowF (z:Value) (n st:Nat) (W wx:World) (V R':Nat):Prop where
 gr:Gr W wx
 vl:W.heap.size≤V
 rl:W.heap.size≤R'
 vr:V≠R'
 vc:wx.cell? ⟨V,0,none⟩=some (.slice (some ⟨R',0,none⟩) n n)
 rc:∀ j,j<n*st→wx.cell? ⟨R',j,none⟩=some z
 rz:∀ o,wx.frozen? ⟨R',o,none⟩=false
 rs:R'<wx.heap.size
theorem GrowF.drew {z:Value} {n st V R':Nat} {W wx:World} (h:GrowF z n st W wx V R'):GrowF z n st W wx.drew V R':=⟨h.gr.drew,h.vl,h.rl,h.vr,h.vc,h.rc,h.rz,h.rs⟩
theorem repl_cell (W:World) (m:Nat) (z:Value) (t:TypeId) (j:Nat) (h:j<m):(W.alloc (.cells (Array.replicate m z) t)).cell? ⟨W.heap.size,j,none⟩=some z:=by
 have:=cell_new7 W (List.replicate m z) t j z (by rw [List.getElem?_replicate,if_pos h])
 simpa using this
theorem growA (W:World) (z:Value) (n st m:Nat) (t t2:TypeId) (hm:m=n*st):GrowF z n st W ((W.alloc (.cells (Array.replicate m z) t)).alloc (.cells #[.slice (some ⟨W.heap.size,0,none⟩) n n] t2)) (W.heap.size+1) W.heap.size:=by
 subst hm
 refine ⟨((Gr.refl W).alloc1 _).alloc1 _,by omega,Nat.le_refl _,by omega,by simp [go_sem],fun j hj=>?_,fun o=>by simp [go_sem],by simp;omega⟩
 exact (Gr.alloc _ _).cell (repl_cell W _ z t j hj)
theorem growB (W:World) (z:Value) (n st m:Nat) (t t2:TypeId) (hm:m=n*st):GrowF z n st W ((W.alloc (.cells #[.slice (some ⟨W.heap.size+1,0,none⟩) n n] t2)).alloc (.cells (Array.replicate m z) t)) W.heap.size (W.heap.size+1):=by
 subst hm
 refine ⟨((Gr.refl W).alloc1 _).alloc1 _,Nat.le_refl _,by omega,by omega,by simp [go_sem],fun j hj=>?_,fun o=>by simp [go_sem],by simp⟩
 have h:=repl_cell (W.alloc (.cells #[.slice (some ⟨W.heap.size+1,0,none⟩) n n] t2)) _ z t j hj
 rwa [World.size_alloc] at h
theorem RgS.ch {B R m f:Nat} {W W':World} {mx:Nat} {xs:List (List UInt8)} {lv:Value} {T:Nat→Prop} (h:RgS B R m f W mx xs lv) (hc:Ch T W W') (hB:¬T B) (hR:0<m→¬T R):RgS B R m f W' mx xs lv:=by
 have cb:∀ {o v},W.cell? ⟨B,o,none⟩=some v→W'.cell? ⟨B,o,none⟩=some v:=fun {o v} hh=>(hc.cell (p:=⟨B,o,none⟩) (cell_lt hh) hB).trans hh
 have cr:0<m→∀ {o v},W.cell? ⟨R,o,none⟩=some v→W'.cell? ⟨R,o,none⟩=some v:=fun hm {o v} hh=>(hc.cell (p:=⟨R,o,none⟩) (cell_lt hh) (hR hm)).trans hh
 exact ⟨cb h.c0,cb h.c1,cb h.c2,cb h.c3,h.hl,fun o=>(hc.frozen (p:=⟨B,o,none⟩) (show B<W.heap.size from cell_lt h.c0) hB).trans (h.fz o),
  fun hm o=>(hc.frozen (p:=⟨R,o,none⟩) (show R<W.heap.size from cell_lt (h.all 0 hm).choose_spec) (hR hm)).trans (h.fr hm o),h.hn,h.hm,h.hM,h.hf,
  fun i hi=>cr (by have:=h.hn;omega) (h.row i hi),fun j hj=>(h.all j hj).imp fun _ hu=>cr (by omega) hu,h.ne⟩
theorem sgrow_any {B R m f:Nat} {W:World} {mx:Nat} {xs:List (List UInt8)} {lv:Value} (h:RgS B R m f W mx xs lv) (hx:xs.length=m) (hlt:m<mx) :
  Calls Tryz.prog 145 #[.pointer (some ⟨B,0,none⟩)] W fun e w'=>e=.returned (.tuple #[])∧∃ R',W.heap.size≤R'∧RgS B R' (gsz m mx) 0 w' mx xs (.slice (some ⟨R',0,none⟩) (gsz m mx) (gsz m mx))∧Ch (fun k=>k=B) W w':=by
 have h':=hid h
 have hm6:m≤65536:=Nat.le_trans h.hm h.hM
 have hM6:=h.hM
 have c0:=h.c0
 have c3:=h.c3
 obtain ⟨p,rfl⟩:∃ p,lv=.slice p m m:=by
  rcases h.hl with ⟨e,e2⟩ | ⟨_,e2⟩
  ·exact ⟨none,by rw [e2,e]⟩
  ·exact ⟨_,e2⟩
 obtain ⟨i0,hi,hz0,hz1,hzb⟩:=info_parts infoStrQ
 obtain ⟨n,hn⟩:∃ n,gsz m mx=n:=⟨_,rfl⟩
 have hnm:m<n∧0<n∧n≤mx:=by rw [←hn];unfold gsz;omega
 have hsz:min (max (IntKind.i64.wrap (2*(m:Int))) 8) (mx:Int)=(n:Int):=by
  rw [IntWalk.i64_in _ (by omega),←hn];unfold gsz;omega
 have hmk:∀ w:World,(Instr.makeSlice 86 (.int .i64 n) (.int .i64 n)).run Tryz.prog w=.ok (.slice (some ⟨w.heap.size,0,none⟩) n n) (w.alloc (.cells (List.replicate n (Value.string ⟨#[]⟩)).toArray 9)):=fun w=>by
  have hr:=run_make (P:=Tryz.prog) w 86 9 i0 _ Tryz.underlying86 hi hz0 .i64 .i64 n n (by omega) (Int.le_refl _) (by rw [hzb];omega) (by omega)
  simp only [Int.toNat_natCast] at hr
  rw [hr,hz1,Nat.mul_one]
  congr 3
  rw [←toList_madeCells_one]
  simp [Value.cells]
 clear h hi hz0 hz1 hzb
 have hBz:B<W.heap.size:=cell_lt c0
 have hBz1:B<W.heap.size+1:=by omega
 rw [hn]
 refine (callsIn_wide (n:=0)).1 ?_
 refine callsIn_of_wp_marks Tryz.func145 rfl trivial ?_ rfl
 simp only [Tryz.ntmps145,List.size_toArray,List.length_cons,List.length_nil,Nat.reduceAdd,Nat.reduceSub,Array.replicate_succ,Array.replicate_zero,List.push_toArray,List.append_toArray,List.nil_append,List.cons_append]
 refine (wpIn_wide (n:=0)).2 ?_
 go_upto_region 0 with (fail)
 go_cut [2] from 5 to 17 (fun v wx=>∃ V R',v=.pointer (some ⟨V,0,none⟩)∧GrowF (.string ⟨#[]⟩) n 1 W wx V R')
 case first =>
  refine wp_then_false ?_
  go_region_law (fail)
  all_goals
   go_wp2
   go_meet
   first
    | exact ⟨_,_,rfl,(growA W _ n 1 _ _ _ (Nat.mul_one n).symm).drew⟩
    | exact ⟨_,_,rfl,(growB W _ n 1 _ _ _ (Nat.mul_one n).symm).drew⟩
 case rest =>
  obtain ⟨V,R',rfl,hF⟩:=hcut
  have h1':=hid (h'.out.gr hF.gr)
  have hF':=hid hF
  clear c0 c3 hmk hF hBz hBz1 hsz
  go_wp2_with (go_at_call 180;refine (sall_any B _).mono ?_;rintro e w' ⟨rfl,rfl⟩)
  obtain ⟨w2,hw2⟩:∃ x,wc.alloc (.cells #[.pointer (some ⟨B,0,none⟩)] 104)=x:=⟨_,rfl⟩
  rw [hw2]
  have hs2:=hid (show w2.heap.size=wc.heap.size+1 by rw [←hw2];simp)
  have hb2:w2.cell? ⟨wc.heap.size,0,none⟩=some (.pointer (some ⟨B,0,none⟩)):=by rw [←hw2];simp [go_sem]
  have hg2:Gr wc w2:=by rw [←hw2];exact Gr.alloc _ _
  have hF2:=hid (show GrowF (.string ⟨#[]⟩) n 1 W w2 V R' from ⟨hF'.out.gr.trans hg2,hF'.out.vl,hF'.out.rl,hF'.out.vr,hg2.cell hF'.out.vc,fun j hj=>hg2.cell (hF'.out.rc j hj),fun o=>(Below.frozen hg2 (p:=⟨R',o,none⟩) hF'.out.rs).trans (hF'.out.rz o),Nat.lt_of_lt_of_le hF'.out.rs (Below.size hg2)⟩)
  clear hw2
  refine (wpIn_wide (n:=0)).1 ?_
  refine wpIn_range2 (gf:=223) rfl (enters_of Tryz.func223 (by kernel_rfl) rfl) (sall_iter (B:=B) (R:=R) (m:=m) (f:=f) (max:=mx) (xs:=xs) (lv:=.slice p m m) wc.heap.size hb2) (Nat.le_refl _) (fun k hk=>⟨by rw [hs2.out];(try dsimp only at hk);omega,rfl⟩) (fun _=>rfl)
   (fun pre A=>Gr W A∧w2.heap.size≤A.heap.size∧A.cell? ⟨V,0,none⟩=some (.slice (some ⟨R',0,none⟩) n n)∧(∀ o,A.frozen? ⟨R',o,none⟩=false)∧(∀ j,j<n→∃ u:List UInt8,A.cell? ⟨R',j,none⟩=some (.string ⟨u.toArray⟩))∧∀ j (hj:j<xs.length),j<pre.length→A.cell? ⟨R',j,none⟩=some (.string ⟨xs[j].toArray⟩))
   (fun _ _ _=>False) (fun k=>k=R')
   (fun k hk=>⟨by have:=hF2.out.rs;(try dsimp only at hk);omega,by have:=hF'.out.rs;(try dsimp only at hk ⊢);omega⟩) ?hI (fun _ _ _ _ h _=>h.elim) (fun _ _ h=>h'.out.gr h.1) ⟨hF2.out.gr,Nat.le_refl _,hF2.out.vc,hF2.out.rz,fun j hj=>⟨[],hF2.out.rc j (by omega)⟩,fun j _ h=>absurd h (Nat.not_lt_zero _)⟩ ?round ?done (fun _ _ _ _ _ _ h _=>h.elim)
  case hI =>
   rintro pre A B' ⟨g,k0,k1,k2,k3,k4⟩ hch
   have e2:=hs2.out
   have eW:=Below.size hF'.out.gr
   have hr:¬(R'=wc.heap.size∨w2.heap.size≤R'):=by have:=hF'.out.rs;omega
   have hv:¬(V=wc.heap.size∨w2.heap.size≤V):=by have:V<wc.heap.size:=cell_lt hF'.out.vc;omega
   have hrl:R'<A.heap.size:=by have:=hF2.out.rs;omega
   exact ⟨g.ch hch (fun k hk=>by omega),Nat.le_trans k0 hch.size,(hch.cell (p:=⟨V,0,none⟩) (cell_lt k1) hv).trans k1,fun o=>(hch.frozen (p:=⟨R',o,none⟩) hrl hr).trans (k2 o),
    fun j hj=>(k3 j hj).imp fun u hu=>(hch.cell (p:=⟨R',j,none⟩) hrl hr).trans hu,fun j hj h=>(hch.cell (p:=⟨R',j,none⟩) hrl hr).trans (k4 j hj h)⟩
  case round =>
   intro l' pre x rest A hl' hlt2 hxs hI
   obtain ⟨hk,rfl⟩:=idxs_at hxs
   obtain ⟨g,k0,k1,k2,k3,k4⟩:=hI
   obtain ⟨y,hy⟩:∃ y,xs[pre.length]=y:=⟨_,rfl⟩
   obtain ⟨k,hkk⟩:∃ k,pre.length=k:=⟨_,rfl⟩
   have hkn:k<n:=by omega
   have eW:=Below.size hF'.out.gr
   have e2:=hs2.out
   have hrl:R'<wc.heap.size:=hF'.out.rs
   have hvl:V<wc.heap.size:=cell_lt hF'.out.vc
   have hne1:¬(R'=l'):=by omega
   have hne2:¬(V=l'):=by omega
   have hvr:=hF'.out.vr
   have hRA:R'<A.heap.size:=by omega
   have hWR:=hF'.out.rl
   have hWl:W.heap.size≤l':=by omega
   obtain ⟨u,hu⟩:=k3 k hkn
   rw [hy]
   rw [hkk]
   unfold encR
   have hI':=hid (And.intro g (And.intro k0 (And.intro k1 (And.intro k2 (And.intro k3 k4)))))
   have hy':=hid (show ∀ h:pre.length<xs.length,xs[pre.length]=y from fun _=>hy)
   have hkk':=hid hkk
   have hk':=hid hk
   clear hxs k0 k2 k3 k4 hkk
   gi_wp2
   refine ⟨Ch.refl _ _,fun A2 hA2=>?_⟩
   obtain ⟨g,k0,k1,k2,k3,k4⟩:=hI'.out
   have d1:A2.cell? ⟨V,0,none⟩=some (.slice (some ⟨R',0,none⟩) n n):=(hA2.cell (p:=⟨V,0,none⟩) (cell_lt k1) hne2).trans k1
   have d2:A2.cell? ⟨R',k,none⟩=some (.string ⟨u.toArray⟩):=(hA2.cell (p:=⟨R',k,none⟩) hRA hne1).trans hu
   have dz:∀ o,A2.frozen? ⟨R',o,none⟩=false:=fun o=>(hA2.frozen (p:=⟨R',o,none⟩) hRA hne1).trans (k2 o)
   have hd:=hid (show (Gr W A2∧w2.heap.size≤A2.heap.size)∧((∀ j,j<n→∃ u:List UInt8,A2.cell? ⟨R',j,none⟩=some (.string ⟨u.toArray⟩))∧∀ j (hj:j<xs.length),j<pre.length→A2.cell? ⟨R',j,none⟩=some (.string ⟨xs[j].toArray⟩)) from
    ⟨⟨g.ch hA2 (fun k hk=>by (try dsimp only at hk);omega),Nat.le_trans k0 hA2.size⟩,fun j hj=>(k3 j hj).imp fun u hu=>(hA2.cell (p:=⟨R',j,none⟩) hRA hne1).trans hu,fun j hj h=>(hA2.cell (p:=⟨R',j,none⟩) hRA hne1).trans (k4 j hj h)⟩)
   clear g k0 k1 k2 k3 k4 hA2 hu
   gi_wp2
   have hVR:(⟨R',k,none⟩:Addr).block≠(⟨V,0,none⟩:Addr).block:=fun e=>hvr e.symm
   refine ⟨Ch.setCell (T:=fun k=>k=R') _ rfl _,hd.out.1.1.setCell hWR _,by rw [World.size_setCell];exact hd.out.1.2,cell_set_other d1 hVR,fun o=>by rw [frozen_set];exact dz o,fun j hj=>?_,fun j hj h=>?_⟩
   ·by_cases hjk:j=k
    ·subst hjk;exact ⟨y,cell_set_same d2⟩
    ·obtain ⟨u2,hu2⟩:=hd.out.2.1 j hj
     exact ⟨u2,cell_off hu2 hjk⟩
   ·rw [List.length_append,List.length_singleton,hkk'.out] at h
    by_cases hjk:j=k
    ·subst hjk
     rw [cell_set_same d2]
     have e:=hy'.out (by rw [hkk'.out];exact hj)
     simp only [hkk'.out] at e
     rw [←e]
    ·exact cell_off (hd.out.2.2 j hj (by rw [hkk'.out];omega)) hjk
  case done =>
   rintro D A hD ⟨g,k0,k1,k2,k3,k4⟩ hK
   have hA:=h'.out.gr g
   have hne:=hF'.out.vr
   have hVz:V<wc.heap.size:=cell_lt hF'.out.vc
   have hBz:B<W.heap.size:=cell_lt h'.out.c0
   have hWR:=hF'.out.rl
   have hWV:=hF'.out.vl
   have hDz:W.heap.size≤D:=by have:=hs2.out;have:=Below.size hF'.out.gr;omega
   have c1:=hA.c1
   have c3:=hA.c3
   have fz:=hA.fz
   have hall:=hid (And.intro g (And.intro k2 (And.intro k3 k4)))
   have hA':=hid hA
   have hK':=hid hK
   rw [idxs_len] at k4
   have k4':=hid k4
   clear hA g k0 k2 k3 k4 hK
   go_wp2
   have hDn:D≠B:=by omega
   have hK2:((A.setCell ⟨B,3,none⟩ (.slice (some ⟨R',0,none⟩) n n)).setCell ⟨B,1,none⟩ (.int .i64 0)).heap[D]?=some (.deferred (some [])) :=
    (Below.heap_setCell _ ⟨B,1,none⟩ _ _ hDn).trans ((Below.heap_setCell _ ⟨B,3,none⟩ _ _ hDn).trans hK'.out)
   refine ⟨by simp,.inl ⟨_,_,rfl,run_takeDeferred hK2,?_⟩⟩
   refine ⟨.tuple #[],results_none rfl _ _ _,rfl,R',hWR,?_,?_⟩
   ·obtain ⟨g,k2,k3,_⟩:=hall.out
    have hcD:=Ch.putObj (T:=fun k=>k=D) ((A.setCell ⟨B,3,none⟩ (.slice (some ⟨R',0,none⟩) n n)).setCell ⟨B,1,none⟩ (.int .i64 0)) rfl (.deferred none)
    have hRD:R'≠D:=by have:=hF2.out.rs;omega
    have hRB:R'≠B:=by omega
    have cb:∀ {o v},((A.setCell ⟨B,3,none⟩ (.slice (some ⟨R',0,none⟩) n n)).setCell ⟨B,1,none⟩ (.int .i64 0)).cell? ⟨B,o,none⟩=some v→_:=fun {o v} hh=>(hcD.cell (p:=⟨B,o,none⟩) (cell_lt hh) (fun e=>hDn e.symm)).trans hh
    have cr:∀ {o v},A.cell? ⟨R',o,none⟩=some v→_:=fun {o v} hh =>
     (hcD.cell (p:=⟨R',o,none⟩) (by have:=cell_lt hh;simpa using this) hRD).trans (cell_set_other (v:=.int .i64 0) (a:=⟨B,1,none⟩) (cell_set_other (v:=.slice (some ⟨R',0,none⟩) n n) (a:=⟨B,3,none⟩) hh (fun e=>hRB e.symm)) (fun e=>hRB e.symm))
    have hBA:B<A.heap.size:=cell_lt c1
    have hRA:R'<A.heap.size:=cell_lt (k3 0 hnm.2.1).choose_spec
    refine ⟨cb (cell_off (cell_off hA'.out.c0 (by decide)) (by decide)),cb (cell_set_same (cell_off c1 (by decide))),cb (cell_off (cell_off hA'.out.c2 (by decide)) (by decide)),cb (cell_off (cell_set_same c3) (by decide)),.inr ⟨hnm.2.1,rfl⟩,fun o=>?_,fun _ o=>?_,by omega,hnm.2.2,hM6,.inl hnm.2.1,fun i hi=>?_,fun j hj=>?_,fun _=>hRB⟩
    ·refine (hcD.frozen (p:=⟨B,o,none⟩) (by simpa using hBA) (fun e=>hDn e.symm)).trans ?_
     rw [frozen_set,frozen_set];exact fz o
    ·refine (hcD.frozen (p:=⟨R',o,none⟩) (by simpa using hRA) hRD).trans ?_
     rw [frozen_set,frozen_set];exact k2 o
    ·rw [show (0+i) % n=i by rw [Nat.zero_add];exact Nat.mod_eq_of_lt (by omega)]
     exact cr (k4'.out i hi hi)
    ·exact (k3 j hj).imp fun u hu=>cr hu
   ·have c1:Ch (fun k=>k=B) W ((A.setCell ⟨B,3,none⟩ (.slice (some ⟨R',0,none⟩) n n)).setCell ⟨B,1,none⟩ (.int .i64 0)) :=
     ((hall.out.1.to_ch _).trans (Ch.setCell (T:=fun k=>k=B) _ (a:=⟨B,3,none⟩) rfl _)).trans (Ch.setCell (T:=fun k=>k=B) _ (a:=⟨B,1,none⟩) rfl _)
    exact c1.drop_new (Ch.putObj (T:=fun k=>k=D) _ rfl _) (fun j hj=>.inr (by (try dsimp only at hj);omega))
theorem RgS.push {B R m f:Nat} {W W6:World} {mx:Nat} {xs:List (List UInt8)} {x:List UInt8} {lv:Value} (h:RgS B R m f W mx xs lv) (hlt:xs.length<m) (g:Gr (W.setCell ⟨B,2,none⟩ (.int .i64 ((xs.length:Int)+1))) W6) :
  RgS B R m f (W6.setCell ⟨R,(f+xs.length) % m,none⟩ (.string ⟨x.toArray⟩)) mx (xs++[x]) lv:=by
 have hm0:0<m:=by omega
 have hf:f<m:=by rcases h.hf with e | e <;> omega
 have hne:=h.ne hm0
 have hRB:∀ {o p:Nat},(⟨R,o,none⟩:Addr).block≠(⟨B,p,none⟩:Addr).block:=fun {_ _}=>hne
 have hBR:∀ {o p:Nat},(⟨B,o,none⟩:Addr).block≠(⟨R,p,none⟩:Addr).block:=fun {_ _} e=>hne e.symm
 refine ⟨cell_set_other (g.cell (cell_off h.c0 (by decide))) hRB,cell_set_other (g.cell (cell_off h.c1 (by decide))) hRB,?_,cell_set_other (g.cell (cell_off h.c3 (by decide))) hRB,h.hl,fun o=>?_,fun hm o=>?_,by simp;omega,h.hm,h.hM,h.hf,fun i hi=>?_,fun j hj=>?_,h.ne⟩
 ·have:=cell_set_other (v:=.string ⟨x.toArray⟩) (a:=⟨R,(f+xs.length) % m,none⟩) (g.cell (cell_set_same h.c2)) (hRB (p:=2))
  simpa using this
 ·rw [frozen_set]
  exact (Below.frozen g (by simpa using cell_lt h.c0)).trans (frozen_set.trans (h.fz o))
 ·rw [frozen_set]
  exact (Below.frozen g (by simpa using cell_lt (h.all 0 hm0).choose_spec)).trans (frozen_set.trans (h.fr hm o))
 ·rw [List.length_append,List.length_singleton] at hi
  by_cases hix:i<xs.length
  ·have e:(xs++[x])[i]=xs[i]:=by rw [List.getElem_append_left hix]
   rw [e]
   have hr:=h.row i hix
   have hne2:(f+i) % m≠(f+xs.length) % m:=by
    intro e2
    rcases Nat.lt_or_ge (f+i) m with h2 | h2
    ·rcases Nat.lt_or_ge (f+xs.length) m with h3 | h3
     ·rw [Nat.mod_eq_of_lt h2,Nat.mod_eq_of_lt h3] at e2;omega
     ·rw [Nat.mod_eq_of_lt h2,Nat.mod_eq_sub_mod h3,Nat.mod_eq_of_lt (by omega)] at e2;omega
    ·have h3:m≤f+xs.length:=by omega
     rw [Nat.mod_eq_sub_mod h2,Nat.mod_eq_of_lt (by omega),Nat.mod_eq_sub_mod h3,Nat.mod_eq_of_lt (by omega)] at e2;omega
   exact cell_off (g.cell (cell_set_other hr hBR)) hne2
  ·obtain rfl:i=xs.length:=by omega
   have e:(xs++[x])[xs.length]=x:=by simp
   rw [e]
   obtain ⟨u,hu⟩:=h.all ((f+xs.length) % m) (Nat.mod_lt _ hm0)
   exact cell_set_same (g.cell (cell_set_other hu hBR))
 ·obtain ⟨u,hu⟩:=h.all j hj
  by_cases hjf:j=(f+xs.length) % m
  ·subst hjf
   exact ⟨x,cell_set_same (g.cell (cell_set_other hu hBR))⟩
  ·exact ⟨u,cell_off (g.cell (cell_set_other hu hBR)) hjf⟩
theorem spush_full {B R m f:Nat} {W:World} {mx:Nat} {xs:List (List UInt8)} {lv:Value} (x:List UInt8) (h:RgS B R m f W mx xs lv) (hf:mx≤xs.length) :
  Calls Tryz.prog 119 #[.pointer (some ⟨B,0,none⟩),.string ⟨x.toArray⟩] W fun e w'=>e=.returned (.bool false)∧Gr W w':=by
 have c0:=h.c0
 have c2:=h.c2
 have hfI:(mx:Int)≤xs.length:=by omega
 clear h
 go_enter Tryz.func119,Tryz.ntmps119
 go_wp2
 go_quiet (fail)
 go_wp2
 go_ret
 exact ⟨rfl,below_drewNm _ _⟩
def SPush (B R m mx:Nat) (xs:List (List UInt8)) (x:List UInt8) (W w':World):Prop :=
 ∃ R' m' f' lv',RgS B R' m' f' w' mx (xs++[x]) lv'∧Ch (fun k=>k=B∨(0<m∧k=R)) W w'∧((R'=R∧m'=m)∨W.heap.size≤R')
theorem spush_some {B R m f:Nat} {W:World} {mx:Nat} {xs:List (List UInt8)} {lv:Value} (x:List UInt8) (h:RgS B R m f W mx xs lv) (hf:xs.length<mx) :
  Calls Tryz.prog 119 #[.pointer (some ⟨B,0,none⟩),.string ⟨x.toArray⟩] W fun e w'=>e=.returned (.bool true) ∧
   SPush B R m mx xs x W w':=by
 have h':=hid h
 have c0:=h.c0
 have c2:=h.c2
 have c3:=h.c3
 have hfI:¬(mx:Int)≤xs.length:=by omega
 obtain ⟨p,rfl⟩:∃ p,lv=.slice p m m:=by
  rcases h.hl with ⟨e,e2⟩ | ⟨_,e2⟩
  ·exact ⟨none,by rw [e2,e]⟩
  ·exact ⟨_,e2⟩
 have hmm:=h.hn
 have hmx:=h.hM
 clear h
 go_enter Tryz.func119,Tryz.ntmps119
 go_wp2
 go_quiet (fail)
 obtain ⟨wd,hwd⟩:∃ wd,W.drewN nq=wd:=⟨_,rfl⟩
 have gd:Gr W wd:=hwd▸below_drewNm _ _
 obtain ⟨b,hb⟩:∃ b,((xs.length:Int)==(m:Int))=b:=⟨_,rfl⟩
 replace c2:=gd.cell c2
 replace c3:=gd.cell c3
 have gd':=hid gd
 go_wp2
 rw [hwd]
 clear hwd c0
 go_quiet (fail)
 go_upto_if 27 with (fail)
 obtain ⟨we,hwe⟩:∃ we,wd.drewN nq=we:=⟨_,rfl⟩
 have ge:=hid (gd'.out.trans (show Gr wd we from hwe▸below_drewNm _ _))
 go_cut [] (fun wx=>∃ R' m' f',RgS B R' m' f' wx mx xs (.slice (some ⟨R',0,none⟩) m' m')∧xs.length<m'∧Ch (fun k=>k=B) W wx∧((R'=R∧m'=m)∨W.heap.size≤R'))
 case first =>
  rw [hwe]
  clear hwe c2 c3
  cases b with
  | true =>
   have hb':xs.length=m:=by have:=eq_of_beq hb;omega
   go_wp2_with (fail)
   refine (sgrow_any (h'.out.gr ge.out) hb' (by omega)).mono ?_
   rintro e wg ⟨rfl,R',hR',hg,hc⟩
   go_wp2
   go_meet
   exact ⟨R',_,0,hg,by unfold gsz;omega,(ge.out.to_ch _).trans hc,.inr (Nat.le_trans (Below.size ge.out) hR')⟩
  | false =>
   have hb':¬((xs.length:Int)=m):=beq_eq_false_iff_ne.1 hb
   have hg:=h'.out.gr ge.out
   have hl:=hg.hl
   go_wp2
   go_meet
   obtain ⟨_,e⟩:=hl.resolve_left (fun e=>by have:=e.1;omega)
   rw [e] at hg
   exact ⟨R,m,f,hg,by omega,ge.out.to_ch _,.inl ⟨rfl,rfl⟩⟩
 case rest =>
  obtain ⟨R',m',f',hg,hlt,hch,hor⟩:=hcut
  have hg':=hid hg
  have hch':=hid hch
  have hor':=hid hor
  have c2:=hg.c2
  have fz:=hg.fz
  clear hg hch hor h' ge hwe hb
  go_upto_region 6 with (fail)
  obtain ⟨w5,hw5⟩:∃ x,wc.setCell ⟨B,2,none⟩ (.int .i64 ((xs.length:Int)+1))=x:=⟨_,rfl⟩
  rw [hw5]
  have hm0:0<m':=by omega
  have hm6:m'≤65536:=Nat.le_trans hg'.out.hm hg'.out.hM
  have hf':f'<m':=by rcases hg'.out.hf with e | e <;> omega
  have hne:=hg'.out.ne hm0
  have e1:w5.cell? ⟨B,1,none⟩=some (.int .i64 f'):=by rw [←hw5];exact cell_off hg'.out.c1 (by decide)
  have e2:w5.cell? ⟨B,2,none⟩=some (.int .i64 ((xs.length:Int)+1)):=by rw [←hw5];exact cell_set_same c2
  have e3:w5.cell? ⟨B,3,none⟩=some (.slice (some ⟨R',0,none⟩) m' m'):=by rw [←hw5];exact cell_off hg'.out.c3 (by decide)
  have hn6:xs.length≤65536:=by omega
  obtain ⟨q,hq⟩:∃ q,(f'+xs.length) % m'=q:=⟨_,rfl⟩
  have hql:q<m':=hq▸Nat.mod_lt _ hm0
  haveI:Nonempty (Later (Gr w5)):=⟨⟨w5,Gr.refl w5⟩⟩
  have t2:∀ x:Later (Gr w5),x.w.cell? ⟨B,2,none⟩=some (.int .i64 ((xs.length:Int)+1)):=fun x=>x.ok.cell e2
  have t3:∀ x:Later (Gr w5),x.w.cell? ⟨B,3,none⟩=some (.slice (some ⟨R',0,none⟩) m' m'):=fun x=>x.ok.cell e3
  have hpl2:=hid (splace_later (R:=R') (m:=m') (i:=xs.length) e1 e3 hm0 hm6 hf' hn6)
  simp only [hq] at hpl2
  have hwr:IntKind.i64.wrap ((xs.length:Int)+1 - 1)=xs.length:=by rw [show (xs.length:Int)+1 - 1=xs.length by omega];exact IntWalk.i64_in _ (by omega)
  have hwr2:(xs.length:Int)+1 - 1=xs.length:=by omega
  clear e1 e2 e3 c2 fz
  refine wp_region_later_tail (C:=Gr w5) 12 (by kernel_rfl) (by kernel_rfl) (Gr.drew' _) ?_
  simp only [List.take_succ_cons,List.take_zero,List.drop_succ_cons,List.drop_zero]
  repeat (go_big_quiet_step (with_reducible exact hpl2.out _))
  refine wpQuiet_nil ?_
  intro w9 hg9
  have hBR:∀ {o p:Nat},(⟨B,o,none⟩:Addr).block≠(⟨R',p,none⟩:Addr).block:=fun {_ _} e=>hne e.symm
  obtain ⟨u,hu⟩:=hg'.out.all q hql
  have hu9:w9.cell? ⟨R',q,none⟩=some (.string ⟨u.toArray⟩):=hg9.cell (hw5▸cell_set_other hu hBR)
  have hz9:∀ o,w9.frozen? ⟨R',o,none⟩=false:=fun o=>by
   have hz:=hg'.out.fr hm0 o
   refine (Below.frozen hg9 (p:=⟨R',o,none⟩) (by rw [←hw5];simpa using cell_lt hu)).trans ?_
   rw [←hw5,frozen_set];exact hz
  have hg9':=hid hg9
  clear t2 t3 hu hg9
  go_wp2
  go_ret
  subst hw5
  subst hq
  refine ⟨rfl,R',m',f',_,hg'.out.push hlt hg9'.out,?_,hor'.out⟩
  have k1:Ch (fun k=>k=B∨(0<m∧k=R)) W w9:=(hch'.out.mono (fun _ e=>.inl e)).trans ((Ch.setCell _ (a:=⟨B,2,none⟩) (.inl rfl) _).trans (hg9'.out.to_ch _))
  refine k1.drop_new (Ch.setCell (T:=fun k=>k=R') _ rfl _) (fun j hj=>?_)
  have hj':j=R':=hj
  subst hj'
  rcases hor'.out with ⟨e1,e2⟩ | e
  ·exact .inl (.inr ⟨by omega,e1⟩)
  ·exact .inr e
def RgAt (B mx:Nat) (T:Nat→Prop) (W:World) (xs:List (List UInt8)):Prop:=(∃ R m f lv,RgS B R m f W mx xs lv∧T B∧(0<m→T R))∧∀ k,T k→k<W.heap.size
theorem rgKin (B mx:Nat):Kin (RgAt B mx) :=
 ⟨fun {T T' W x} ⟨⟨R,m,f,lv,h,h1,h2⟩,_⟩ ht hl=>⟨⟨R,m,f,lv,h,ht _ h1,fun e=>ht _ (h2 e)⟩,hl⟩,
  fun {T S W W' x} ⟨⟨R,m,f,lv,h,h1,h2⟩,hl⟩ hc hs=>⟨⟨R,m,f,lv,h.ch hc (hs _ h1) (fun e=>hs _ (h2 e)),h1,h2⟩,fun k hk=>Nat.lt_of_lt_of_le (hl k hk) hc.size⟩,
  fun {T W x} h=>h.2⟩
theorem rlen_at {B mx:Nat} {T:Nat→Prop} {W:World} {xs:List (List UInt8)} (h:RgAt B mx T W xs) :
  Calls Tryz.prog 83 #[.pointer (some ⟨B,0,none⟩)] W fun e w'=>e=.returned (.int .i64 xs.length)∧W=w':=by
 obtain ⟨⟨R,m,f,lv,h,_⟩,_⟩:=h
 exact slen_any h
theorem rpop_none_at {B mx:Nat} {T:Nat→Prop} {W:World} (h:RgAt B mx T W []) :
  Calls Tryz.prog 75 #[.pointer (some ⟨B,0,none⟩)] W fun e w'=>e=.returned (.tuple #[.string ⟨#[]⟩,.bool false])∧W=w':=by
 obtain ⟨⟨R,m,f,lv,h,_⟩,_⟩:=h
 exact spop_none h
theorem rpop_some_at {B mx:Nat} {T:Nat→Prop} {W:World} {a:List UInt8} {l:List (List UInt8)} (h:RgAt B mx T W (a :: l)) :
  Calls Tryz.prog 75 #[.pointer (some ⟨B,0,none⟩)] W fun e w'=>e=.returned (.tuple #[.string ⟨a.toArray⟩,.bool true])∧Pst (RgAt B mx) T W l w':=by
 obtain ⟨⟨R,m,f,lv,h,hB,hR⟩,hl⟩:=h
 have hm:0<m:=by have:=h.hn;simp at this;omega
 refine (spop_some h).mono ?_
 rintro e w' ⟨rfl,h1,hc⟩
 have hc':Ch T W w':=hc.mono (fun k hk=>by rcases hk with rfl | rfl;exact hB;exact hR hm)
 exact ⟨rfl,(rgKin B mx).pst ⟨⟨R,m,_,lv,h1,hB,hR⟩,fun k hk=>Nat.lt_of_lt_of_le (hl k hk) hc.size⟩ hc'⟩
theorem rpush_full_at {B mx:Nat} {T:Nat→Prop} {W:World} {xs:List (List UInt8)} (x:List UInt8) (h:RgAt B mx T W xs) (hf:mx≤xs.length) :
  Calls Tryz.prog 119 #[.pointer (some ⟨B,0,none⟩),.string ⟨x.toArray⟩] W fun e w'=>e=.returned (.bool false)∧Gr W w':=by
 obtain ⟨⟨R,m,f,lv,h,_⟩,_⟩:=h
 exact spush_full x h hf
theorem rpush_at {B mx:Nat} {T:Nat→Prop} {W:World} {xs:List (List UInt8)} (x:List UInt8) (h:RgAt B mx T W xs) (hf:xs.length<mx) :
  Calls Tryz.prog 119 #[.pointer (some ⟨B,0,none⟩),.string ⟨x.toArray⟩] W fun e w'=>e=.returned (.bool true)∧Pst (RgAt B mx) T W (xs++[x]) w':=by
 obtain ⟨⟨R,m,f,lv,h,hB,hR⟩,hl⟩:=h
 refine (spush_some x h hf).mono ?_
 rintro e w' ⟨rfl,R',m',f',lv',h1,hc,hor⟩
 have hc':Ch T W w':=hc.mono (fun k hk=>by
  rcases hk with rfl | ⟨h0,rfl⟩
  ·exact hB
  ·exact hR h0)
 refine ⟨rfl,⟨⟨R',m',f',lv',h1,.inl hB,fun h0=>?_⟩,fun k hk=>?_⟩,hc'⟩
 ·rcases hor with ⟨e1,e2⟩ | e
  ·subst e1;subst e2;exact .inl (hR h0)
  ·exact .inr ⟨e,cell_lt (h1.all 0 h0).choose_spec⟩
 ·rcases hk with hk | hk
  ·exact Nat.lt_of_lt_of_le (hl k hk) hc.size
  ·exact hk.2
theorem rnew_at (q:Nat) (W:World) (h1:1≤q) (h2:q≤65536) :
  Calls Tryz.prog 62 #[.int .i64 q] W fun e w'=>e=.returned (.tuple #[.pointer (some ⟨W.heap.size,0,none⟩),.int .i64 0])∧RgAt W.heap.size q (fun k=>k=W.heap.size) w' []∧Gr W w'∧w'.heap.size=W.heap.size+1:=by
 have a1:¬(q:Int)<1:=by omega
 have a2:¬(65536:Int)<q:=by omega
 go_enter Tryz.func62,Tryz.ntmps62
 go_wp2
 go_ret2
 refine ⟨rfl,⟨⟨W.heap.size+1,0,0,.slice none 0 0,⟨cell_new7 _ _ _ 0 _ rfl,cell_new7 _ _ _ 1 _ rfl,cell_new7 _ _ _ 2 _ rfl,cell_new7 _ _ _ 3 _ rfl,.inl ⟨rfl,rfl⟩,fun o=>World.frozen?_alloc_at _ _ _ _ rfl,fun h=>absurd h (Nat.lt_irrefl 0),Nat.le_refl _,Nat.zero_le _,h2,.inr ⟨rfl,rfl⟩,fun i hi=>absurd hi (Nat.not_lt_zero _),fun j hj=>absurd hj (Nat.not_lt_zero _),fun h=>absurd h (Nat.lt_irrefl 0)⟩,rfl,fun h=>absurd h (Nat.lt_irrefl 0)⟩,fun k hk=>by subst hk;simp⟩,Gr.alloc _ _,by simp⟩
end Go.Proofs.YtadobobfjnmdlaaGreatDoor
