/-
  The reader of frames in memory: the next event.
-/
import Derived.Test.YtadobobfjnmdlaaGreatDoorQu
import Derived.Lib.UnsafeStr
set_option linter.unnecessarySimpa false
set_option linter.unusedVariables false
set_option linter.unusedSimpArgs false
set_option maxHeartbeats 16000000
set_option maxRecDepth 100000
open Go.Lib (hid)
open Go.Proofs.Tryz
namespace Go.Proofs.YtadobobfjnmdlaaGreatDoor
open Go.RowKit Go.Shelf
attribute [local go_sem] Oper.semAt_some
structure Evp where
 a0:Int
 a1:Int
 a2:Bool
 a3:Int
 a4:List UInt8
def Evp.V (x:Evp):Value:=.agg #[.int .i64 x.a0,.int .i64 x.a1,.bool x.a2,.int .i64 x.a3,.string ⟨x.a4.toArray⟩]
def evp:Option Fev→Evp
 | none=>⟨0,0,false,0,[]⟩
 | some (.begin' f o n)=>⟨1,o,f,n,[]⟩
 | some (.piece s)=>⟨2,0,false,0,s⟩
 | some .fin=>⟨3,0,false,0,[]⟩
 | some .fail=>⟨4,0,false,0,[]⟩
theorem fevT_evp (o:Option Fev):fevT o=.tuple #[(evp o).V,.bool o.isSome]:=by
 cases o with
 | none=>rfl
 | some e=>cases e <;> rfl
theorem frstep_any {b:Nat} {W:World} {r:Fr} (k:FrS b W r) (hk:FrOk r) :
  Calls prog 147 #[.pointer (some ⟨b,0,none⟩)] W (FrPost b W (frNext r)):=by
 obtain⟨w1,hw1⟩:∃ w1,W.alloc (.cells #[.int .i64 0,.int .i64 0,.bool false,.int .i64 0,.string ⟨#[]⟩] 159)=w1:=⟨_,rfl⟩
 have g1:Gr W w1:=hw1▸Gr.alloc _ _
 have hz:=hw1▸evZ_new W 159
 have k1:=k.gr g1
 have hb:=k.lt
 have hbr:b≠W.heap.size:=by omega
 have hrb:W.heap.size≠b:=by omega
 have c1:=k1.c1
 have k1':=hid k1
 have g1':=hid g1
 have hz':=hid hz
 by_cases h2:r.st=2
 ·have hv:=hid (show frNext r=(r,none) by unfold frNext;rw[if_pos h2])
  rw[h2] at c1
  obtain⟨z0,z1,z2,z3,z4,zf⟩:=hz
  clear k k1 g1
  go_enter func147,ntmps147
  go_wp2
  refine bodyPost_ret (v:=.tuple #[ev0V,.bool false]) (by simp[results,results147,go_sem,ev0V,z0,z1,z2,z3,z4]) rfl ?_
  rw[hv.out]
  exact⟨rfl,k1'.out.told5 (g1'.out.to_ch _) hb (Nat.le_refl _) _ _ _ _ _⟩
 ·have hI2:((r.st:Int)==2)=false:=beq_eq_false_iff_ne.2 (by omega)
  by_cases h0:r.st=0
  ·have hbg:=hid (frbegins_any k1 hk h0)
   rw[h0] at c1
   clear k k1 g1 hz h2 hI2
   go_enter func147,ntmps147
   go_wp2_with fail
   refine (hbg.out).mono ?_
   rintro e w2⟨rfl,k2,hc2⟩
   obtain⟨z0,z1,z2,z3,z4,zf⟩:=hz'.out.ch hc2 hrb
   have k2':=hid k2
   have hc2':=hid hc2
   rw[fevT_evp]
   obtain⟨x,hx⟩:∃ x,frNext r=x:=⟨_,rfl⟩
   have hx':=hid hx
   rw[hx]
   obtain⟨y,hy⟩:∃ y,evp x.2=y:=⟨_,rfl⟩
   have hy':=hid hy
   rw[hy]
   obtain⟨v,hv⟩:∃ v,x.2.isSome=v:=⟨_,rfl⟩
   have hv':=hid hv
   rw[hv]
   unfold Evp.V
   clear k2 hc2 hx hy hv hbg c1
   go_wp2
   refine bodyPost_ret (v:=.tuple #[y.V,.bool v]) (by simp[results,results147,go_sem,Evp.V,z0,z1,z2,z3,z4]) rfl ⟨?_,?_⟩
   ·rw[fevT_evp,hx'.out,hy'.out,hv'.out]
   ·exact k2'.out.told5 ((g1'.out.to_ch _).trans hc2'.out) hb (Nat.le_refl _) _ _ _ _ _
  ·have hbg:=hid (frgoes_any k1 hk h2 h0)
   have hI0:((r.st:Int)==0)=false:=beq_eq_false_iff_ne.2 (by omega)
   clear k k1 g1 hz h2
   go_enter func147,ntmps147
   go_wp2_with fail
   refine (hbg.out).mono ?_
   rintro e w2⟨rfl,k2,hc2⟩
   obtain⟨z0,z1,z2,z3,z4,zf⟩:=hz'.out.ch hc2 hrb
   have k2':=hid k2
   have hc2':=hid hc2
   rw[fevT_evp]
   obtain⟨x,hx⟩:∃ x,frNext r=x:=⟨_,rfl⟩
   have hx':=hid hx
   rw[hx]
   obtain⟨y,hy⟩:∃ y,evp x.2=y:=⟨_,rfl⟩
   have hy':=hid hy
   rw[hy]
   obtain⟨v,hv⟩:∃ v,x.2.isSome=v:=⟨_,rfl⟩
   have hv':=hid hv
   rw[hv]
   unfold Evp.V
   clear k2 hc2 hx hy hv hbg c1
   go_wp2
   refine bodyPost_ret (v:=.tuple #[y.V,.bool v]) (by simp[results,results147,go_sem,Evp.V,z0,z1,z2,z3,z4]) rfl ⟨?_,?_⟩
   ·rw[fevT_evp,hx'.out,hy'.out,hv'.out]
   ·exact k2'.out.told5 ((g1'.out.to_ch _).trans hc2'.out) hb (Nat.le_refl _) _ _ _ _ _
theorem frall_any (b:Nat) (W:World) :
  Calls prog 120 #[.pointer (some ⟨b,0,none⟩)] W λe w'=>e=.returned (.func (.func 146) #[] #[.pointer (some ⟨W.heap.size,0,none⟩)])∧W.alloc (.cells #[.pointer (some ⟨b,0,none⟩)] 116)=w':=by
 go_enter func120,ntmps120
 go_wp2
 go_ret
 exact⟨rfl,rfl⟩
def encE (y:Evp):Array Value:=#[y.V]
def FrM (b:Nat) (r:Fr) (y:Evp) (W A:World):Prop:=(frNext r).2.isSome=true∧evp (frNext r).2=y∧FrS b A (frNext r).1∧Ch (λj=>j=b) W A
def FrN (b:Nat) (r:Fr) (W A:World):Prop:=(frNext r).2.isSome=false∧FrS b A (frNext r).1∧Ch (λj=>j=b) W A
theorem frall_iter {b:Nat} {W0:World} {r:Fr} (bv:Nat) (hv:W0.cell? ⟨bv,0,none⟩=some (.pointer (some ⟨b,0,none⟩))) (k0:FrS b W0 r) (hk:FrOk r) :
  IterF prog 146 #[.pointer (some ⟨bv,0,none⟩)] encE (FrM b r) (FrN b r) W0:=by
 intro W l Jx hg hY
 have gv:=hg.cell hv
 have hst:=hid (frstep_any (k0.gr hg) hk)
 have hY':=hid hY
 clear hY hv k0 hg
 have hfn:∀ f,Fence.wide.fn f:=λ_=>trivial
 have hdp:Fence.wide.depth=none:=rfl
 refine callsIn_of_wp func146 rfl trivial ?_ rfl
 simp only[ntmps146,List.size_toArray,List.length_cons,List.length_nil,Nat.reduceAdd,Nat.reduceSub,Array.replicate_succ,Array.replicate_zero,List.push_toArray,List.append_toArray,List.nil_append,List.cons_append]
 gi_wp2_with (fail)
 refine (callsIn_wide.2 hst.out).mono ?_
 rintro e w2⟨rfl,k2,hc2⟩
 rw[fevT_evp]
 obtain⟨y,hy⟩:∃ y,evp (frNext r).2=y:=⟨_,rfl⟩
 have hy':=hid hy
 rw[hy]
 obtain⟨v,hv⟩:∃ v,(frNext r).2.isSome=v:=⟨_,rfl⟩
 have hv':=hid hv
 rw[hv]
 have k2':=hid k2
 have hc2':=hid hc2
 unfold Evp.V
 clear k2 hc2 hy hv hst gv
 gi_wp2
 obtain⟨w3,hw3⟩:∃ w3,w2.alloc (.cells #[.int .i64 y.a0,.int .i64 y.a1,.bool y.a2,.int .i64 y.a3,.string ⟨y.a4.toArray⟩] 159)=w3:=⟨_,rfl⟩
 rw[hw3]
 have d0:w3.cell? ⟨w2.heap.size,0,none⟩=some (.int .i64 y.a0):=by rw[←hw3];exact cell_new7 _ _ _ 0 _ rfl
 have d1:w3.cell? ⟨w2.heap.size,1,none⟩=some (.int .i64 y.a1):=by rw[←hw3];exact cell_new7 _ _ _ 1 _ rfl
 have d2:w3.cell? ⟨w2.heap.size,2,none⟩=some (.bool y.a2):=by rw[←hw3];exact cell_new7 _ _ _ 2 _ rfl
 have d3:w3.cell? ⟨w2.heap.size,3,none⟩=some (.int .i64 y.a3):=by rw[←hw3];exact cell_new7 _ _ _ 3 _ rfl
 have d4:w3.cell? ⟨w2.heap.size,4,none⟩=some (.string ⟨y.a4.toArray⟩):=by rw[←hw3];exact cell_new7 _ _ _ 4 _ rfl
 have g3:=hid (show Gr w2 w3 from hw3▸Gr.alloc _ _)
 clear hw3
 gi_loopw [3,4] (λv3 v4 wr=>v3=.pointer (some ⟨w2.heap.size,0,none⟩)∧v4=.bool v∧wr=w3) (λ_ _ _=>0)
 case atStart=>exact⟨rfl,rfl,rfl⟩
 case round =>
  obtain⟨rfl,rfl,rfl⟩:=hrel
  cases v with
  | false =>
   gi_wp2_with (refine wpListIn_skip (by rfl) (by rfl) ?_)
   go_end0
   exact⟨rfl,.inl ⟨hv'.out,k2'.out.gr g3.out,hc2'.out.trans (g3.out.to_ch _)⟩⟩
  | true =>
   have hY2:=hY'.out y wr ⟨hv'.out,hy'.out,k2'.out.gr g3.out,hc2'.out.trans (g3.out.to_ch _)⟩
   unfold encE Evp.V at hY2
   obtain⟨gn,tmps,assign,body,hyy,hR⟩:=hY2
   gi_wp2
   refine hR.mono ?_
   rintro e B⟨rfl,hJ⟩
   gi_wp2
   go_end0
   exact⟨rfl,.inr hJ⟩
structure EvC (rb:Nat) (W:World) (y:Evp):Prop where
 k:W.cell? ⟨rb,0,none⟩=some (.int .i64 y.a0)
 o:W.cell? ⟨rb,1,none⟩=some (.int .i64 y.a1)
 f:W.cell? ⟨rb,2,none⟩=some (.bool y.a2)
 l:W.cell? ⟨rb,3,none⟩=some (.int .i64 y.a3)
 t:W.cell? ⟨rb,4,none⟩=some (.string ⟨y.a4.toArray⟩)
theorem EvC.ch {rb:Nat} {T:Nat→Prop} {W W':World} {y:Evp} (h:EvC rb W y) (hc:Ch T W W') (hT:¬T rb):EvC rb W' y :=
 have cc:∀ {j v},W.cell? ⟨rb,j,none⟩=some v→W'.cell? ⟨rb,j,none⟩=some v:=fun {j v} hh=>(hc.cell (p:=⟨rb,j,none⟩) (cell_lt hh) hT).trans hh
 ⟨cc h.k,cc h.o,cc h.f,cc h.l,cc h.t⟩
theorem EvZ.put {rb:Nat} {W:World} (h:EvZ rb W) (y:Evp):EvC rb (((((W.setCell ⟨rb,0,none⟩ (.int .i64 y.a0)).setCell ⟨rb,1,none⟩ (.int .i64 y.a1)).setCell ⟨rb,2,none⟩ (.bool y.a2)).setCell ⟨rb,3,none⟩ (.int .i64 y.a3)).setCell ⟨rb,4,none⟩ (.string ⟨y.a4.toArray⟩)) y :=
 ⟨by simp[go_sem,h.k],by simp[go_sem,h.o],by simp[go_sem,h.f],by simp[go_sem,h.l],by simp[go_sem,h.t]⟩
theorem frnext_any {b:Nat} {W:World} {r:Fr} (k:FrS b W r) (hk:FrOk r) :
  Calls prog 96 #[.pointer (some ⟨b,0,none⟩)] W (FrPost b W (frNext r)):=by
 refine (callsIn_wide (n:=0)).1 ?_
 have hfn:∀ f,Fence.wide.fn f:=λ_=>trivial
 have hdp:Fence.wide.depth=none:=rfl
 have hb:=k.lt
 obtain⟨w1,hw1⟩:∃ w1,W.alloc (.cells #[.int .i64 0,.int .i64 0,.bool false,.int .i64 0,.string ⟨#[]⟩] 159)=w1:=⟨_,rfl⟩
 obtain⟨w2,hw2⟩:∃ w2,w1.alloc (.cells #[.bool false] 4)=w2:=⟨_,rfl⟩
 obtain⟨w3,hw3⟩:∃ w3,w2.alloc (.cells #[.pointer (some ⟨b,0,none⟩)] 116)=w3:=⟨_,rfl⟩
 have g1:Gr W w1:=hw1▸Gr.alloc _ _
 have g2:Gr w1 w2:=hw2▸Gr.alloc _ _
 have g3:Gr w2 w3:=hw3▸Gr.alloc _ _
 have s1:w1.heap.size=W.heap.size+1:=by rw[←hw1];simp
 have s2:w2.heap.size=W.heap.size+2:=by rw[←hw2];simp;omega
 have s3:w3.heap.size=W.heap.size+3:=by rw[←hw3];simp;omega
 have hz3:=((hw1▸evZ_new W _:EvZ W.heap.size w1).gr g2).gr g3
 have hb3:w3.cell? ⟨W.heap.size+1,0,none⟩=some (.bool false):=g3.cell (by rw[←hw2,←s1];exact cell_new7 _ _ _ 0 _ rfl)
 have hbz:∀ o,w3.frozen? ⟨W.heap.size+1,o,none⟩=false:=λo=>(Below.frozen g3 (p:=⟨W.heap.size+1,o,none⟩) (by (try dsimp only);omega)).trans (by rw[←hw2,←s1];exact World.frozen?_alloc_at _ _ _ _ rfl)
 have hbv:w3.cell? ⟨W.heap.size+2,0,none⟩=some (.pointer (some ⟨b,0,none⟩)):=by rw[←hw3,←s2];exact cell_new7 _ _ _ 0 _ rfl
 have g13:Gr W w3:=(g1.trans g2).trans g3
 have k3:=k.gr g13
 refine callsIn_of_wp_marks func96 rfl trivial ?_ rfl
 simp only[ntmps96,List.size_toArray,List.length_cons,List.length_nil,Nat.reduceAdd,Nat.reduceSub,Array.replicate_succ,Array.replicate_zero,List.push_toArray,List.append_toArray,List.nil_append,List.cons_append]
 have k3':=hid k3
 have hz3':=hid hz3
 have hb3':=hid hb3
 have hbz':=hid hbz
 have hbv':=hid hbv
 have g13':=hid g13
 have s1':=hid s1
 have s2':=hid s2
 have s3':=hid s3
 have hw1':=hid hw1
 have hw2':=hid hw2
 have hw3':=hid hw3
 clear k k3 hz3 hb3 hbz hbv g13 g1 g2 g3 s1 s2 s3 hw1 hw2 hw3
 gi_wp2_with (gi_at_call 120;refine (callsIn_wide.2 (frall_any b _)).mono ?_;rintro e w' ⟨rfl,rfl⟩)
 rw[hw1'.out,hw2'.out,hw3'.out]
 have e3:=s3'.out
 have hbw:b≠w3.heap.size+1:=by omega
 have hr0:W.heap.size≠w3.heap.size+1:=by omega
 have hr1:W.heap.size+1≠w3.heap.size+1:=by omega
 have h01:W.heap.size≠W.heap.size+1:=by omega
 have hb0:b≠W.heap.size:=by omega
 have hb1:b≠W.heap.size+1:=by omega
 have hbw':=hid hbw
 have hr0':=hid hr0
 have hr1':=hid hr1
 clear e3 hbw hr0 hr1 hw1' hw2' hw3'
 refine wpIn_range1 (gf:=146) rfl (enters_of func146 (by kernel_rfl) rfl) (frall_iter (W.heap.size+2) hbv'.out k3'.out hk) (λj=>j=b) (λj hj=>by have:=s3'.out;(try dsimp only at hj);omega) (λ_ _ _ h=>h.2.2.2) (λ_ _ h=>h.2.2) (λ_=>rfl)
  (λc A=>c=.ret∧(frNext r).2.isSome=true∧FrS b A (frNext r).1∧EvC W.heap.size A (evp (frNext r).2)∧A.cell? ⟨W.heap.size+1,0,none⟩=some (.bool true)∧Ch (λj=>j=b) W A)
  (λj=>j=W.heap.size∨j=W.heap.size+1) (λj hj=>by have:=s3'.out;(try dsimp only at hj);omega) ?hIx ?round ?done ?stop
 case hIx =>
  rintro c A B⟨rfl,h1,h2,h3,h4,h5⟩ hc
  have e:=s3'.out
  exact⟨rfl,h1,h2.ch hc hbw'.out,h3.ch hc hr0'.out,(hc.cell (p:=⟨W.heap.size+1,0,none⟩) (cell_lt h4) hr1'.out).trans h4,h5.drop_new hc (λj hj=>.inr (by (try dsimp only at hj);omega))⟩
 case round =>
  rintro l' y W1 A hl' hg1 hs1⟨hv,hy,hk1,hc1⟩
  have e:=s3'.out
  have hzA:=hid ((hz3'.out.gr hg1).ch hc1 (λe=>hb0 e.symm))
  have hbA:=hid ((hc1.cell (p:=⟨W.heap.size+1,0,none⟩) (show W.heap.size+1<W1.heap.size by omega) (λe=>hb1 e.symm)).trans (hg1.cell hb3'.out))
  have hbzA:=hid (show ∀ o,A.frozen? ⟨W.heap.size+1,o,none⟩=false from λo=>(hc1.frozen (p:=⟨W.heap.size+1,o,none⟩) (show W.heap.size+1<W1.heap.size by omega) (λe=>hb1 e.symm)).trans ((Below.frozen hg1 (p:=⟨W.heap.size+1,o,none⟩) (show W.heap.size+1<w3.heap.size by omega)).trans (hbz'.out o)))
  have hCA:=hid ((g13'.out.to_ch _).trans ((hg1.to_ch _).trans hc1))
  have hk1':=hid hk1
  have hv':=hid hv
  have hy':=hid hy
  have hlA:l'<A.heap.size:=by have:=hc1.size;omega
  have hl0:¬(W.heap.size=l'):=by omega
  have hl1:¬(W.heap.size+1=l'):=by omega
  have hlb:¬(b=l'):=by omega
  have hAl:¬(A.heap.size=l'):=by omega
  have hWl:W.heap.size≤l':=by omega
  have h0A:W.heap.size<A.heap.size:=hzA.out.lt
  have h1A:W.heap.size+1<A.heap.size:=cell_lt hbA.out
  clear hg1 hc1 hk1 hv hy hs1 e
  unfold encE Evp.V
  gi_wp2
  refine⟨Ch.alloc _ _ _,λA2 hA2=>?_⟩
  have y0:A2.cell? ⟨A.heap.size,0,none⟩=some (.int .i64 y.a0):=(hA2.cell (p:=⟨A.heap.size,0,none⟩) (by simp) hAl).trans (cell_new7 _ _ _ 0 _ rfl)
  have y1:A2.cell? ⟨A.heap.size,1,none⟩=some (.int .i64 y.a1):=(hA2.cell (p:=⟨A.heap.size,1,none⟩) (by simp) hAl).trans (cell_new7 _ _ _ 1 _ rfl)
  have y2:A2.cell? ⟨A.heap.size,2,none⟩=some (.bool y.a2):=(hA2.cell (p:=⟨A.heap.size,2,none⟩) (by simp) hAl).trans (cell_new7 _ _ _ 2 _ rfl)
  have y3:A2.cell? ⟨A.heap.size,3,none⟩=some (.int .i64 y.a3):=(hA2.cell (p:=⟨A.heap.size,3,none⟩) (by simp) hAl).trans (cell_new7 _ _ _ 3 _ rfl)
  have y4:A2.cell? ⟨A.heap.size,4,none⟩=some (.string ⟨y.a4.toArray⟩):=(hA2.cell (p:=⟨A.heap.size,4,none⟩) (by simp) hAl).trans (cell_new7 _ _ _ 4 _ rfl)
  have hAA:Ch (λj=>j=l') A A2:=(Ch.alloc _ _ _).trans hA2
  have hz2:=hzA.out.ch hAA hl0
  have hz2':=hid hz2
  obtain⟨z0,z1,z2,z3,z4,zf⟩:=hz2
  have b0:A2.cell? ⟨W.heap.size+1,0,none⟩=some (.bool false):=(hAA.cell (p:=⟨W.heap.size+1,0,none⟩) h1A hl1).trans hbA.out
  have bz:∀ o,A2.frozen? ⟨W.heap.size+1,o,none⟩=false:=λo=>(hAA.frozen (p:=⟨W.heap.size+1,o,none⟩) h1A hl1).trans (hbzA.out o)
  have k2':=hid (hk1'.out.ch hAA hlb)
  have c2':=hid (hCA.out.drop_new hAA (λj hj=>.inr (by (try dsimp only at hj);omega)))
  clear hA2 hAA hzA hbA hbzA hCA hk1'
  gi_wp2
  have e5:=ch5 (rb:=W.heap.size) A2 (.int .i64 y.a0) (.int .i64 y.a1) (.bool y.a2) (.int .i64 y.a3) (.string ⟨y.a4.toArray⟩)
  have e6:Ch (λj=>j=W.heap.size+1) _ _:=Ch.setCell (T:=λj=>j=W.heap.size+1) (((((A2.setCell ⟨W.heap.size,0,none⟩ (.int .i64 y.a0)).setCell ⟨W.heap.size,1,none⟩ (.int .i64 y.a1)).setCell ⟨W.heap.size,2,none⟩ (.bool y.a2)).setCell ⟨W.heap.size,3,none⟩ (.int .i64 y.a3)).setCell ⟨W.heap.size,4,none⟩ (.string ⟨y.a4.toArray⟩)) (a:=⟨W.heap.size+1,0,none⟩) rfl (.bool true)
  have b5:=(e5.cell (p:=⟨W.heap.size+1,0,none⟩) (cell_lt b0) (λe=>h01 e.symm)).trans b0
  refine⟨(e5.mono (λj hj=>.inl hj)).trans (e6.mono (λj hj=>.inr hj)),rfl,hv'.out,(k2'.out.ch e5 hb0).ch e6 hb1,?_,cell_set_same b5,(c2'.out.drop_new e5 (λj hj=>.inr (Nat.le_of_eq (show j=W.heap.size from hj).symm))).drop_new e6 (λj hj=>.inr (by rw[show j=W.heap.size+1 from hj];omega))⟩
  rw[hy'.out]
  exact (hz2'.out.put y).ch e6 h01
 case done =>
  rintro D W1 W2 A hD hg1 hs1⟨hv,hk2,hc2⟩ hcA hK
  have e:=s3'.out
  have hz1:=((hz3'.out.gr hg1).ch hc2 (λe=>hb0 e.symm)).ch hcA hr0'.out
  have b1:A.cell? ⟨W.heap.size+1,0,none⟩=some (.bool false):=by
   have q1:=(hc2.cell (p:=⟨W.heap.size+1,0,none⟩) (show W.heap.size+1<W1.heap.size by omega) (λe=>hb1 e.symm)).trans (hg1.cell hb3'.out)
   exact (hcA.cell (p:=⟨W.heap.size+1,0,none⟩) (cell_lt q1) hr1'.out).trans q1
  have bz:∀ o,A.frozen? ⟨W.heap.size+1,o,none⟩=false:=λo=>by
   have q1:=(hc2.frozen (p:=⟨W.heap.size+1,o,none⟩) (show W.heap.size+1<W1.heap.size by omega) (λe=>hb1 e.symm)).trans ((Below.frozen hg1 (p:=⟨W.heap.size+1,o,none⟩) (show W.heap.size+1<w3.heap.size by omega)).trans (hbz'.out o))
   exact (hcA.frozen (p:=⟨W.heap.size+1,o,none⟩) (show W.heap.size+1<W2.heap.size by have:=hc2.size;omega) hr1'.out).trans q1
  have kA:=hid (hk2.ch hcA hbw'.out)
  have cA:=hid (((g13'.out.to_ch (λj=>j=b)).trans ((hg1.to_ch _).trans hc2)).drop_new hcA (λj hj=>.inr (by (try dsimp only at hj);omega)))
  have hD0:D≠W.heap.size:=by omega
  have hD1:D≠W.heap.size+1:=by omega
  have hDb:¬(b=D):=by omega
  have hDW:W.heap.size≤D:=by omega
  have hz1':=hid hz1
  obtain⟨z0,z1,z2,z3,z4,zf⟩:=hz1
  have hv':=hid hv
  clear hg1 hs1 hk2 hc2 hcA e hv
  gi_wp2
  have e5:=ch5 (rb:=W.heap.size) A (.int .i64 0) (.int .i64 0) (.bool false) (.int .i64 0) (.string ⟨#[]⟩)
  obtain⟨A5,hA5⟩:∃ A5,((((A.setCell ⟨W.heap.size,0,none⟩ (.int .i64 0)).setCell ⟨W.heap.size,1,none⟩ (.int .i64 0)).setCell ⟨W.heap.size,2,none⟩ (.bool false)).setCell ⟨W.heap.size,3,none⟩ (.int .i64 0)).setCell ⟨W.heap.size,4,none⟩ (.string ⟨#[]⟩)=A5:=⟨_,rfl⟩
  rw[hA5] at e5 ⊢
  have b5:=(e5.cell (p:=⟨W.heap.size+1,0,none⟩) (cell_lt b1) (λe=>h01 e.symm)).trans b1
  have e6:Ch (λj=>j=W.heap.size+1) A5 (A5.setCell ⟨W.heap.size+1,0,none⟩ (.bool false)):=Ch.setCell (T:=λj=>j=W.heap.size+1) A5 (a:=⟨W.heap.size+1,0,none⟩) rfl _
  have c6:=(hA5▸hz1'.out.put ⟨0,0,false,0,[]⟩:EvC W.heap.size A5 ⟨0,0,false,0,[]⟩).ch e6 h01
  have hK2:(A5.setCell ⟨W.heap.size+1,0,none⟩ (.bool false)).heap[D]?=some (.deferred (some [])):=e6.get (e5.get hK hD0) hD1
  have e7:Ch (λj=>j=D) (A5.setCell ⟨W.heap.size+1,0,none⟩ (.bool false)) ((A5.setCell ⟨W.heap.size+1,0,none⟩ (.bool false)).putObj D (.deferred none)):=Ch.putObj (T:=λj=>j=D) _ rfl _
  obtain⟨x0,x1,x2,x3,x4⟩:=c6.ch e7 (λe=>hD0 e.symm)
  have x5:=(e7.cell (p:=⟨W.heap.size+1,0,none⟩) (by rw[World.size_setCell];exact cell_lt b5) (λe=>hD1 e.symm)).trans (cell_set_same (v:=.bool false) b5)
  refine⟨by simp,.inl ⟨_,_,rfl,run_takeDeferred hK2,?_⟩⟩
  refine⟨.tuple #[ev0V,.bool false],by simp[results,results96,go_sem,ev0V,x0,x1,x2,x3,x4,x5],?_,((kA.out.ch e5 hb0).ch e6 hb1).ch e7 hDb,((cA.out.drop_new e5 (λj hj=>.inr (Nat.le_of_eq (show j=W.heap.size from hj).symm))).drop_new e6 (λj hj=>.inr (by rw[show j=W.heap.size+1 from hj];omega))).drop_new e7 (λj hj=>.inr (by rw[show j=D from hj];exact hDW))⟩
  cases ho:(frNext r).2 with
  | none=>rfl
  | some x=>have:=hv'.out;rw[ho] at this;cases this
 case stop =>
  rintro D c A hD⟨rfl,hv,hkA,hC,hB,hc⟩ hK
  have e:=s3'.out
  have hD0:D≠W.heap.size:=by omega
  have hD1:D≠W.heap.size+1:=by omega
  have hDb:¬(b=D):=by omega
  have hDW:W.heap.size≤D:=by omega
  have e7:Ch (λj=>j=D) A (A.putObj D (.deferred none)):=Ch.putObj (T:=λj=>j=D) _ rfl _
  obtain⟨x0,x1,x2,x3,x4⟩:=hC.ch e7 (λe=>hD0 e.symm)
  have x5:=(e7.cell (p:=⟨W.heap.size+1,0,none⟩) (cell_lt hB) (λe=>hD1 e.symm)).trans hB
  have hkA':=hid hkA
  have hc':=hid hc
  have hv':=hid hv
  clear hkA hc hC hB e hv
  gi_wp2
  refine⟨by simp,.inl ⟨_,_,rfl,run_takeDeferred hK,?_⟩⟩
  refine⟨.tuple #[(evp (frNext r).2).V,.bool true],by simp[results,results96,go_sem,Evp.V,x0,x1,x2,x3,x4,x5],?_,hkA'.out.ch e7 hDb,hc'.out.drop_new e7 (λj hj=>.inr (by rw[show j=D from hj];exact hDW))⟩
  rw[fevT_evp,hv'.out]
theorem sizeBd:(prog.info? 147).map (·.size)=some 2:=by kernel_rfl
theorem liesJoiner:liesAt prog prog.depth 150 (11 / prog.cellsOf 150) 5 147 1=true:=by kernel_rfl
structure BdJ (b:Nat) (W:World) (l:List UInt8) (v:Value):Prop where
 ca:W.cell? ⟨b,5,none⟩=some (.pointer none)∨W.cell? ⟨b,5,none⟩=some (.pointer (some ⟨b,5,none⟩))
 cv:W.cell? ⟨b,6,none⟩=some v
 own:W.ownsRow 0 5 1 v l.length (bcells l)
 ne:v.ownBlock≠some b
 cp:∀ a n c,v=.slice (some a) n c→c≠0
 sh:W.shape? b=some (150,11)
 fz:∀ o,W.frozen? ⟨b,o,none⟩=false
theorem shape_ch {b:Nat} {T:Nat→Prop} {W W':World} (hc:Ch T W W') (hT:¬T b) (hb:b<W.heap.size):W'.shape? b=W.shape? b:=by
 unfold World.shape?
 rw[hc.block b hb hT]
theorem shape_set {b c o:Nat} {W:World} {v:Value}:(W.setCell ⟨c,o,none⟩ v).shape? b=W.shape? b:=by
 unfold World.shape? World.setCell
 by_cases h:c=b
 ·subst h
  simp only[Array.getElem?_modify,if_true]
  cases W.heap[c]? with
  | none=>rfl
  | some o=>cases o <;> simp
 ·simp only[Array.getElem?_modify,if_neg h]
theorem BdJ.ch {b:Nat} {T:Nat→Prop} {W W':World} {l:List UInt8} {v:Value} (h:BdJ b W l v) (hc:Ch T W W') (hb:¬T b) (hv:∀ k,v.ownBlock=some k→¬T k):BdJ b W' l v:=by
 have hlt:b<W.heap.size:=cell_lt h.cv
 have cc:∀ {j u},W.cell? ⟨b,j,none⟩=some u→W'.cell? ⟨b,j,none⟩=some u:=fun {j u} hh=>(hc.cell (p:=⟨b,j,none⟩) hlt hb).trans hh
 refine⟨h.ca.imp cc cc,cc h.cv,⟨h.own.1,?_⟩,h.ne,h.cp,(shape_ch hc hb hlt).trans h.sh,λo=>(hc.frozen (p:=⟨b,o,none⟩) hlt hb).trans (h.fz o)⟩
 rcases h.own.2 with e | ⟨g,cap,cur,rfl,h1,h2,rest⟩
 ·exact .inl e
 ·exact .inr ⟨g,cap,cur,rfl,h1,hc.get h2 (hv g rfl),rest⟩
theorem BdJ.set {b o:Nat} {W:World} {l:List UInt8} {v u:Value} (h:BdJ b W l v) (h5:o≠5) (h6:o≠6):BdJ b (W.setCell ⟨b,o,none⟩ u) l v:=by
 refine⟨h.ca.imp (λe=>cell_off e (Ne.symm h5)) (λe=>cell_off e (Ne.symm h5)),cell_off h.cv (Ne.symm h6),⟨h.own.1,?_⟩,h.ne,h.cp,shape_set.trans h.sh,λo=>by rw[frozen_set];exact h.fz o⟩
 rcases h.own.2 with e | ⟨g,cap,cur,rfl,h1,h2,rest⟩
 ·exact .inl e
 ·refine .inr ⟨g,cap,cur,rfl,h1,(Ch.setCell (T:=λk=>k=b) W (a:=⟨b,o,none⟩) rfl u).get h2 (λe=>h.ne (by rw[show b=g from e.symm];rfl)),rest⟩
theorem jcheck_any {b:Nat} {W:World} {l:List UInt8} {v:Value} (h:BdJ b W l v) :
  Calls prog 143 #[.pointer (some ⟨b,5,none⟩)] W λe w'=>e=.returned (.tuple #[])∧(W.setCell ⟨b,5,none⟩ (.pointer (some ⟨b,5,none⟩))=w'∨(W=w'∧W.cell? ⟨b,5,none⟩=some (.pointer (some ⟨b,5,none⟩)))):=by
 obtain⟨j,hj,hjs⟩:=Option.map_eq_some_iff.1 sizeBd
 have hsh:=h.sh
 have hfz:=h.fz 5
 rcases h.ca with h0 | h0
 ·clear h
  go_enter func143,ntmps143
  go_wp2
  rw[Lib.run_to_unsafe W ⟨b,5,none⟩ underlying145 underlying225 hj (by rw[hjs];decide) hsh (show 5<11 by decide)]
  simp only[Result.andThen]
  rw[Oper.upon_value]
  go_wp2
  rw[run_callFunc_extern func178 (by kernel_rfl) (by kernel_rfl) (by kernel_rfl) (e:=Extern.AbiNoEscape.same) (by kernel_rfl)]
  rw[Lib.run_noEscape]
  simp only[Result.andThen]
  rw[Oper.upon_value]
  go_wp2
  rw[Lib.run_from_unsafe W ⟨b,5,none⟩ underlying225 underlying145 hj hsh liesJoiner]
  simp only[Result.andThen]
  rw[Oper.upon_value]
  go_wp2
  go_end0
  exact⟨rfl,.inl rfl⟩
 ·clear h
  go_enter func143,ntmps143
  go_wp2
  rw[Lib.run_neq_ptr_same W _ underlying145 hj]
  go_wp2
  go_end0
  exact⟨rfl,.inr ⟨rfl,h0⟩⟩
def CapOk (v:Value):Prop:=∀ a n c,v=.slice (some a) n c→c≠0
theorem run_app_str_at {P:Program} (w:World) (t u ty e:TypeId) (i:TypeInfo) (ht:P.underlying t=some (.slice e)) (hu:P.underlying u=some .string) (hi:P.info? e=some i) (hz:i.zero=some (.int .u8 0)) (hsize:i.size=1) (hby:i.bytes=1)
  (v:Value) (n:Nat) (xs:List Value) (hown:w.ownsRow 0 e 1 v n xs) (s:ByteArray) (h63:n+s.size≤maxLen) (hbytes:n+s.size≤140737488355328) {v':Value} {w':World} (hr:(Builtin.append_ #[t,u] ty #[v,.string s]).run P w=.ok v' w')
  (hown':w'.ownsRow 0 e 1 v' (n+s.size) (xs++Lib.strCells s)):(v'.ownBlock=v.ownBlock∨v'.ownBlock=some w.heap.size)∧(CapOk v→CapOk v'):=by
 have hsmall:n+s.size≤9223372036854775807:=by simp only[maxLen] at h63;omega
 have hxl:xs.length=n:=by simpa using hown.1
 have h':=hown
 rcases hown.2 with⟨rfl,rfl⟩ | ⟨g,cap,cur,rfl,hbg,hg,hnc,hcm,hcs,htake⟩
 ·by_cases hm:s.size=0
  ·rcases hown'.2 with⟨rfl,_⟩ | ⟨g,cap,cur,rfl,hbg,hg,hnc,hcm,hcs,htake⟩
   ·exact⟨.inl rfl,λ_ a n c e=>by cases e⟩
   ·obtain⟨v2,w2,hr2,_,_,h4⟩:=Lib.run_append_own_string (P:=P) w 0 t u ty e i ht hu hi hz hsize hby _ 0 xs h' s h63 hbytes (Nat.zero_le _)
    have e1:=hr.symm.trans hr2
    injection e1 with e1 _
    have e2:=h4.2 ⟨rfl,hm⟩
    rw[e2] at e1
    cases e1
  ·have hr2:=run_append_nil_string (P:=P) w t u ty e i (.int .u8 0) ht hu hi hz s (by omega) (by omega) (by rw[hby];omega)
   have e1:=hr.symm.trans hr2
   injection e1 with e1 _
   rw[e1]
   refine⟨.inr rfl,λ_ a n1 c e'=>?_⟩
   injection e' with _ _ e3
   have:=grownCap_ge w s.size 0 e
   omega
 ·by_cases hroom:n+s.size≤cap
  ·have hr2:=Lib.run_append_room_string (P:=P) w t u ty e i ht hu hi hsize g n cap cur hg s hroom (by rw[show cur.size=cap from by simpa using hcs];exact hroom)
   have e1:=hr.symm.trans hr2
   injection e1 with e1 _
   rw[e1]
   refine⟨.inl rfl,λhc a n c e=>?_⟩
   injection e with _ _ e3
   rw[←e3]
   exact hc _ _ _ rfl
  ·have holds:∀ j u,xs[j]?=some u→w.cell? ((⟨g,0,none⟩:Addr).add j)=some u:=h'.cells (g:=g) rfl
   have hr2:=Lib.run_append_grow_string (P:=P) w t u ty e i (.int .u8 0) ht hu hi hz ⟨g,0,none⟩ n cap xs (by rw[hsize];simpa using hxl) holds s (by omega) (by omega) (by rw[hby];exact growslice_fits (by omega) (by omega))
   have e1:=hr.symm.trans hr2
   injection e1 with e1 _
   rw[e1]
   refine⟨.inr rfl,λ_ a n1 c e'=>?_⟩
   injection e' with _ e2 e3
   have:=grownCap_ge w (n+s.size) cap e
   omega
theorem wpList_app_str_at {P:Program} {w:World} {ops:Array Oper} {rest:List Oper} {o:Oper} {a:Act} {Q:Exit→Act→World→Prop} (hgd:o.guard=none) (sl x:Operand) (t u:TypeId)
  (ho:o.op=.call { callee:=.builtin .append,args:=#[sl,x],argTypes:=#[t,u] })
  (e:TypeId) (i:TypeInfo) (ht:P.underlying t=some (.slice e)) (hu:P.underlying u=some .string) (hi:P.info? e=some i) (hz:i.zero=some (.int .u8 0)) (hsize:i.size=1) (hby:i.bytes=1)
  (v:Value) (n:Nat) (xs:List Value) (hs:a.eval sl=v) (hown:w.ownsRow 0 e 1 v n xs) (s:ByteArray) (hx:a.eval x=.string s) (h63:n+s.size≤maxLen) (hbytes:n+s.size≤140737488355328)
  (h:∀ v' w',w'.ownsRow 0 e 1 v' (n+s.size) (xs++Lib.strCells s)→w.grownBy w' v.ownBlock→(v'.ownBlock=v.ownBlock∨v'.ownBlock=some w.heap.size)∧(CapOk v→CapOk v')→wpList P ops Q rest (a.put o.dst v') w'):wpList P ops Q (o :: rest) a w:=by
 refine wpList_plain hgd λK hK=>?_
 obtain⟨v',w',hr,h2,h3,h4⟩:=Lib.run_append_own_string (P:=P) w 0 t u o.type e i ht hu hi hz hsize hby v n xs hown s h63 hbytes (Nat.zero_le _)
 unfold Oper.wp execOp
 simp only[ho,resolve,invoke,builtin,Sem.run_bind,Sem.run_pure,Result.andThen_ok,List.map_toArray,List.map_cons,List.map_nil,hs,hx,hr]
 exact hK _ _ (h v' w' h2 h3 (run_app_str_at w t u o.type e i ht hu hi hz hsize hby v n xs hown s h63 hbytes hr h2))
def JwPost (b:Nat) (l:List UInt8) (v:Value) (W W':World):Prop :=
 ∃ v',BdJ b W' l v'∧Ch (λk=>k=b∨v.ownBlock=some k) W W'∧(∀ g,v'.ownBlock=some g→v.ownBlock=some g∨W.heap.size≤g)∧∀ o,o≠5→o≠6→W'.cell? ⟨b,o,none⟩=W.cell? ⟨b,o,none⟩
theorem jwrite_any {b:Nat} {W:World} {l s:List UInt8} {v:Value} (h:BdJ b W l v) (hlen:l.length+s.length≤140737488355328) :
  Calls prog 115 #[.pointer (some ⟨b,5,none⟩),.string ⟨s.toArray⟩] W λe w'=>e=.returned (.tuple #[.int .i64 s.length,.nilIface])∧JwPost b (l++s) v W w':=by
 obtain⟨i0,hi,hz0,hz1,hz2⟩:=info_parts infoByte
 have hck:=hid (jcheck_any h)
 have h':=hid h
 clear h
 go_enter func115,ntmps115
 go_wp2_with fail
 refine (hck.out).mono ?_
 rintro e w1⟨rfl,hw1⟩
 have h1:BdJ b w1 l v∧Ch (λk=>k=b) W w1∧∀ o,o≠5→w1.cell? ⟨b,o,none⟩=W.cell? ⟨b,o,none⟩:=by
  rcases hw1 with rfl | ⟨rfl,_⟩
  ·have hc:=Ch.setCell (T:=λk=>k=b) W (a:=⟨b,5,none⟩) rfl (.pointer (some ⟨b,5,none⟩))
   refine⟨⟨.inr ?_,cell_off h'.out.cv (by decide),⟨h'.out.own.1,?_⟩,h'.out.ne,h'.out.cp,shape_set.trans h'.out.sh,λo=>by rw[frozen_set];exact h'.out.fz o⟩,hc,λo ho=>World.cell?_setCell_other _ _ _ _ (off_ne ho)⟩
   ·rcases h'.out.ca with e | e <;> exact cell_set_same e
   ·rcases h'.out.own.2 with e | ⟨g,cap,cur,rfl,q1,q2,rest⟩
    ·exact .inl e
    ·exact .inr ⟨g,cap,cur,rfl,q1,hc.get q2 (λe=>h'.out.ne (by rw[show b=g from e.symm];rfl)),rest⟩
  ·exact⟨h'.out,Ch.refl _ _,λ_ _=>rfl⟩
 obtain⟨h1,hc1,ho1⟩:=h1
 have h1':=hid h1
 have hc1':=hid hc1
 have ho1':=hid ho1
 have c6:=h1.cv
 have hown:=h1.own
 have fz6:=h1.fz 6
 have hb:b<w1.heap.size:=cell_lt c6
 clear hw1 hck h1 hc1 ho1
 go_wp2_with (at_builtin;refine wpList_app_str_at rfl _ _ 100 9 rfl 5 i0 underlying100 underlying9 hi hz0 hz1 hz2 _ _ _ rfl hown ⟨s.toArray⟩ rfl ?c3 ?c4 ?_)
 case c3=>unfold maxLen;rw[size_mk];omega
 case c4=>rw[size_mk];omega
 intro v' w2 hown' hgrow hat hcp
 have hcp':=hid (hcp h1'.out.cp)
 clear hcp
 have hc2:Ch (λk=>v.ownBlock=some k) w1 w2:=ch_grown hgrow
 have hnb:¬(v.ownBlock=some b):=h1'.out.ne
 have d6:w2.cell? ⟨b,6,none⟩=some v:=(hc2.cell (p:=⟨b,6,none⟩) hb hnb).trans c6
 have dz:w2.frozen? ⟨b,6,none⟩=false:=(hc2.frozen (p:=⟨b,6,none⟩) hb hnb).trans fz6
 have hb2:b<w2.heap.size:=cell_lt d6
 obtain⟨pv,cv,rfl⟩:=ownsRow_slice hown'
 have hown2:=hid hown'
 have hc2':=hid hc2
 have hat':=hid hat
 clear hown hown' hgrow hat hc2 c6 fz6
 go_wp2
 go_ret2
 have hst:w2.ownsRow 0 5 1 (.slice pv (l.length+s.length) cv) (l++s).length (bcells (l++s)):=by
  have e:=hown2.out
  rw[strCells_eq,←bcells_app] at e
  rw[List.length_append]
  exact e
 have hne:(Value.slice pv (l.length+s.length) cv).ownBlock≠some b:=by
  rcases hat'.out with e | e
  ·rw[e];exact h1'.out.ne
  ·rw[e];intro e2;injection e2 with e2;omega
 have hcb:Ch (λk=>k=b) w2 (w2.setCell ⟨b,6,none⟩ (.slice pv (l.length+s.length) cv)):=Ch.setCell (T:=λk=>k=b) w2 (a:=⟨b,6,none⟩) rfl _
 refine⟨rfl,.slice pv (l.length+s.length) cv,⟨?_,cell_set_same d6,⟨hst.1,?_⟩,hne,hcp'.out,?_,λo=>?_⟩,?_,?_,λo h5 h6=>?_⟩
 ·have cc:∀ {u},w1.cell? ⟨b,5,none⟩=some u→(w2.setCell ⟨b,6,none⟩ (.slice pv (l.length+s.length) cv)).cell? ⟨b,5,none⟩=some u:=fun {u} hh=>cell_off ((hc2'.out.cell (p:=⟨b,5,none⟩) hb hnb).trans hh) (by decide)
  exact h1'.out.ca.imp cc cc
 ·rcases hst.2 with e | ⟨g,cap,cur,e,q1,q2,rest⟩
  ·exact .inl e
  ·exact .inr ⟨g,cap,cur,e,q1,hcb.get q2 (λe2=>hne (by rw[e];show some g=some b;rw[show g=b from e2])),rest⟩
 ·rw[shape_set,shape_ch hc2'.out hnb hb];exact h1'.out.sh
 ·rw[frozen_set];exact (hc2'.out.frozen (p:=⟨b,o,none⟩) hb hnb).trans (h1'.out.fz o)
 ·exact ((hc1'.out.mono (λ_ e=>.inl e)).trans (hc2'.out.mono (λ_ e=>.inr e))).trans (hcb.mono (λ_ e=>.inl e))
 ·intro g hg
  rcases hat'.out with e | e
  ·exact .inl (e▸hg)
  ·rw[e] at hg;injection hg with hg;subst hg;exact .inr hc1'.out.size
 ·exact (World.cell?_setCell_other _ _ _ _ (off_ne h6)).trans ((hc2'.out.cell (p:=⟨b,o,none⟩) hb hnb).trans (ho1'.out o h5))
