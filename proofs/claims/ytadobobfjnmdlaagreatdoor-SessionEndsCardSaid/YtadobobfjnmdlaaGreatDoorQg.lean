/-
  Rings of what waits in memory: all that are there. (Begun from XQc by mk_ri2.py.)
-/
import Derived.Test.YtadobobfjnmdlaaGreatDoorQe
set_option linter.unnecessarySimpa false
set_option linter.unusedVariables false
set_option linter.unusedSimpArgs false
set_option maxHeartbeats 16000000
set_option maxRecDepth 100000
open Go.Lib (hid)
namespace Go.Proofs.YtadobobfjnmdlaaGreatDoor
open Go.RowKit Go.Shelf
attribute [local go_sem] Oper.semAt_some
def icel (x:It):List Value:=[.int .i64 x.kind,.int .i64 x.op,.string ⟨x.text.toArray⟩]
theorem infoItem:(Tryz.prog.info? 81).map (fun i=>(i.zero,i.size,i.bytes))=some (some (.agg #[.int .i64 0,.int .i64 0,.string ⟨#[]⟩]),3,32):=by kernel_rfl
def encI (x:Nat×It):Array Value:=#[.int .i64 x.1,x.2.V]
theorem iall_any (B:Nat) (W:World) :
  Calls Tryz.prog 124 #[.pointer (some ⟨B,0,none⟩)] W fun e w'=>e=.returned (.func (.func 152) #[] #[.pointer (some ⟨W.heap.size,0,none⟩)])∧W.alloc (.cells #[.pointer (some ⟨B,0,none⟩)] 107)=w':=by
 go_enter Tryz.func124,Tryz.ntmps124
 go_wp2
 go_ret
 exact⟨rfl,rfl⟩
theorem iall_iter {B R m f:Nat} {W0:World} {max:Nat} {xs:List It} {lv:Value} (bv:Nat) (hv:W0.cell? ⟨bv,0,none⟩=some (.pointer (some ⟨B,0,none⟩))) :
  IterO Tryz.prog 152 #[.pointer (some ⟨bv,0,none⟩)] encI (idxs 0 xs) (fun k=>k=bv) (fun A=>RgI B R m f A max xs lv) W0:=by
 intro W l J Jx U hsz hT hU hJ hJx hJG hY h0
 have gv:W.cell? ⟨bv,0,none⟩=some (.pointer (some ⟨B,0,none⟩)):=(World.cell?_of_block (hT bv rfl)).trans hv
 have hR0:=hJG _ _ h0
 have hn6:xs.length≤65536:=Nat.le_trans hR0.hn (Nat.le_trans hR0.hm hR0.hM)
 obtain⟨i0,hi,hz0,hz1,hzb⟩:=info_parts infoItem
 have hJ':=hid hJ
 have hJx':=hid hJx
 have hY':=hid hY
 have hU':=hid hU
 have h0':=hid h0
 have hR0':=hid hR0
 have gv':=hid gv
 clear hJ hJx hY hU h0 hT hv hJG hR0
 have hfn:∀ f,Fence.wide.fn f:=fun _=>trivial
 have hdp:Fence.wide.depth=none:=rfl
 refine callsIn_of_wp Tryz.func152 rfl trivial ?_ rfl
 simp only[Tryz.ntmps152,List.size_toArray,List.length_cons,List.length_nil,Nat.reduceAdd,Nat.reduceSub,Array.replicate_succ,Array.replicate_zero,List.push_toArray,List.append_toArray,List.nil_append,List.cons_append]
 gi_wp2_with (fail)
 refine (callsIn_wide.2 (ilen_any hR0'.out)).mono ?_
 rintro e w1 ⟨rfl,rfl⟩
 clear gv
 gi_wp2
 gi_loopw [3,11] (fun vl i wr=>∃ k:Nat,k≤xs.length∧i=.int .i64 k∧wr.ownsRow W.heap.size 81 3 vl k (rcells icel (xs.take k))∧Gr W wr) (fun _ i _=>xs.length - (intOf i).toNat)
 case atStart=>exact⟨0,Nat.zero_le _,rfl,World.ownsRow_nil _ _ _ _,Gr.refl _⟩
 case round =>
  obtain⟨k,hk,rfl,hown,hg⟩:=hrel
  have gv:=hg.cell gv'.out
  obtain⟨pv,cv,rfl⟩:=ownsRow_slice hown
  have hown':=hid hown
  have hg':=hid hg
  clear hown hg
  by_cases hlt:k<xs.length
  ·gi_wp2_with (fail)
   refine (callsIn_wide.2 (iat_some (hR0'.out.gr hg'.out) k hlt)).mono ?_
   rintro e w2 ⟨rfl,hg2⟩
   obtain⟨x,hx⟩:∃ x,xs[k]=x:=⟨_,rfl⟩
   rw[hx]
   have hx':=hid hx
   clear hx
   have hoA:∀ O O2,((w2.alloc O).alloc O2).ownsRow W.heap.size 81 3 (.slice pv k cv) k (rcells icel (xs.take k)):=fun O O2=>World.ownsRow.alloc (World.ownsRow.alloc (ownsRow_gr hown'.out hg2) O) O2
   have hbz:=Nat.le_trans (Below.size hg'.out) (Below.size hg2)
   have k2:∀ j u,[Value.int .i64 x.kind,.int .i64 x.op,.string ⟨x.text.toArray⟩][j]?=some u→((w2.alloc (.cells #[.int .i64 x.kind,.int .i64 x.op,.string ⟨x.text.toArray⟩] 81)).alloc (.cells #[.int .i64 x.kind,.int .i64 x.op,.string ⟨x.text.toArray⟩] 81)).cell? ((⟨w2.heap.size+1,0,none⟩:Addr).add j)=some u:=fun j u hj=>by
    have:=cells_new (w2.alloc (.cells #[.int .i64 x.kind,.int .i64 x.op,.string ⟨x.text.toArray⟩] 81)) [.int .i64 x.kind,.int .i64 x.op,.string ⟨x.text.toArray⟩] 81 j u hj
    rwa [World.size_alloc] at this
   have k3:∀ u∈[Value.int .i64 x.kind,.int .i64 x.op,.string ⟨x.text.toArray⟩],u.oneCell'=true:=by simp[Value.oneCell']
   have k4:k+1≤maxLen:=by unfold maxLen;omega
   have k5:(k+1)*32≤140737488355328:=by omega
   have k6:W.heap.size≤((w2.alloc (.cells #[.int .i64 x.kind,.int .i64 x.op,.string ⟨x.text.toArray⟩] 81)).alloc (.cells #[.int .i64 x.kind,.int .i64 x.op,.string ⟨x.text.toArray⟩] 81)).heap.size:=by simp;omega
   have hg2':=hid (hg'.out.trans hg2)
   unfold It.V
   clear gv hg2
   gi_wp2_with (gi_at_builtin;refine wpListIn_append_own _ rfl _ _ 142 rfl W.heap.size 81 i0 (.agg #[.int .i64 0,.int .i64 0,.string ⟨#[]⟩]) 3 32 Tryz.underlying142 hi hz0 hz1 hzb rfl (by decide) _ _ _ rfl (hoA _ _) ⟨w2.heap.size+1,0,none⟩ 1 1 [.int .i64 x.kind,.int .i64 x.op,.string ⟨x.text.toArray⟩] rfl rfl k2 k3 k4 k5 k6 ?_)
   intro vs' w3 hown3 hgrow3 _
   have hrel9:∃ j:Nat,j≤xs.length∧Value.int .i64 ((k:Int)+1)=.int .i64 j∧w3.ownsRow W.heap.size 81 3 vs' j (rcells icel (xs.take j))∧Gr W w3:=by
    refine⟨k+1,by omega,by simp,?_,?_⟩
    ·rw[List.take_succ_eq_append_getElem hlt,rcells_app,rcells_one1,hx'.out]
     exact hown3
    ·refine ((hg2'.out.alloc1 _).alloc1 _).ch (ch_grown hgrow3) (fun j hj=>?_)
     exact ((hown'.out.lt j hj).1)
   have hrel9':=hid hrel9
   clear hrel9 hown3 hgrow3 k2 k3 k4 k5 k6 hoA
   gi_wp2
   go_roundw
   case rel=>exact hrel9'.out
   case measure=>simp[intOf];omega
  ·obtain rfl:k=xs.length:=by omega
   have hst:=hown'.out
   rw[List.take_length] at hst
   have hst':=hid hst
   have hsz0:=hid (Below.size hg'.out)
   have hJ1:=hid (hJ'.out _ _ _ h0'.out (hg'.out.to_ch _))
   have hcell:∀ k (h:k<xs.length),∃ g,pv=some ⟨g,0,none⟩∧W.heap.size≤g∧g<wr.heap.size∧ItC g k wr xs[k]:=fun k h=>by
    obtain⟨g,cap,e,h1,h2,h3⟩:=ownsRow_cell hst (by omega)
    cases e
    refine⟨g,rfl,h1,h2,?_⟩
    have e0:=rcells_get (f:=icel) (k:=3) (fun _=>rfl) xs k 0 h (by decide)
    have e1:=rcells_get (f:=icel) (k:=3) (fun _=>rfl) xs k 1 h (by decide)
    have e2:=rcells_get (f:=icel) (k:=3) (fun _=>rfl) xs k 2 h (by decide)
    exact⟨(h3 (k*3) (by omega)).trans e0,(h3 (k*3+1) (by omega)).trans e1,(h3 (k*3+2) (by omega)).trans e2⟩
   have hcell':=hid hcell
   clear hst hcell gv
   gi_wp2
   gi_loopw [27] (fun i w'=>∃ k:Nat,k≤xs.length∧i=.int .i64 k∧J ((idxs 0 xs).take k) w'∧W.heap.size≤w'.heap.size∧Ch (fun j=>j<W.heap.size) wr w') (fun i _=>xs.length - (intOf i).toNat)
   case atStart=>exact⟨0,Nat.zero_le _,rfl,hJ1.out,hsz0.out,Ch.refl _ _⟩
   case round =>
    obtain⟨k,hk,rfl,hj,hwz,hch⟩:=hrel
    have hj':=hid hj
    have hch':=hid hch
    clear hj hch
    by_cases hlt:k<xs.length
    ·obtain⟨g,rfl,hg1,hg2,hg3⟩:=hcell'.out k hlt
     obtain⟨x,hx⟩:∃ x,xs[k]=x:=⟨_,rfl⟩
     have keep:∀ {o v},_→wr.cell? ⟨g,o,none⟩=some v:=fun {o v} hh=>(hch'.out.cell (p:=⟨g,o,none⟩) hg2 (by (try dsimp only);omega)).trans hh
     rw[hx] at hg3
     have c0:=keep hg3.k
     have c1:=keep hg3.o
     have c2:=keep hg3.t
     have gA:=Gr.alloc wr (.cells #[.int .i64 x.kind,.int .i64 x.op,.string ⟨x.text.toArray⟩] 81)
     have hY2:=hY'.out _ _ _ _ (idxs_split xs k hlt) (Nat.le_trans hwz (Below.size gA)) (hJ'.out _ _ _ hj'.out (gA.to_ch _))
     rw[hx] at hY2
     have hx':=hid hx
     unfold encI It.V at hY2
     dsimp only at hY2
     obtain⟨fn,tmps,assign,body,hy,hR⟩:=hY2
     clear hg3 keep hx
     gi_wp2
     refine hR.mono ?_
     rintro e A (⟨rfl,hj2,hc2⟩ | ⟨rfl,hj2,hc2⟩)
     ·rw[←hx'.out,idxs_take xs k hlt] at hj2
      have hj3:=hid hj2
      have hA:=hid (Nat.le_trans hwz (Nat.le_trans (Below.size gA) hc2.size))
      have hch2:=hid (hch'.out.trans ((gA.to_ch _).trans (hc2.mono (fun j hj=>(hU'.out j hj).1))))
      clear c0 c1 c2 gA hc2 hj2 hy hR
      gi_wp2
      go_roundw
      case rel=>exact⟨k+1,by omega,by simp,hj3.out,hA.out,hch2.out⟩
      case measure=>simp[intOf];omega
     ·gi_wp2
      refine bodyPost_ret (results_none rfl _ _ _) rfl ?_
      exact⟨rfl,.inr ⟨_,⟨(idxs 0 xs).drop (k+1),by rw[←hx'.out,List.append_assoc];exact (idxs_split xs k hlt).symm⟩,hj2⟩⟩
    ·obtain rfl:k=xs.length:=by omega
     gi_wp2
     go_end0
     refine⟨rfl,.inl ?_⟩
     have:=hj'.out
     rwa [List.take_of_length_le (by rw[idxs_len];exact Nat.le_refl _)] at this
structure GrowI (n:Nat) (W wx:World) (V R':Nat):Prop where
 gr:Gr W wx
 vl:W.heap.size≤V
 rl:W.heap.size≤R'
 vr:V≠R'
 vc:wx.cell? ⟨V,0,none⟩=some (.slice (some ⟨R',0,none⟩) n n)
 rc:∀ j,j<n→ItC R' j wx it0
 rz:∀ o,wx.frozen? ⟨R',o,none⟩=false
 rs:R'<wx.heap.size
theorem GrowI.drew {n V R':Nat} {W wx:World} (h:GrowI n W wx V R'):GrowI n W wx.drew V R':=⟨h.gr.drew,h.vl,h.rl,h.vr,h.vc,fun j hj=>⟨(h.rc j hj).k,(h.rc j hj).o,(h.rc j hj).t⟩,h.rz,h.rs⟩
theorem zrow_cell (W:World) (n:Nat) (t:TypeId) (j:Nat) (h:j<n):ItC W.heap.size j (W.alloc (.cells (madeCells #[.int .i64 0,.int .i64 0,.string ⟨#[]⟩] (n*3)) t)) it0:=by
 have key:∀ k,k<3→(W.alloc (.cells (madeCells #[.int .i64 0,.int .i64 0,.string ⟨#[]⟩] (n*3)) t)).cell? ⟨W.heap.size,j*3+k,none⟩=#[Value.int .i64 0,.int .i64 0,.string ⟨#[]⟩][k]?:=fun k hk=>by
  have hlt:j*3+k<n*3:=by omega
  have:=cell_new7 W (madeCells #[.int .i64 0,.int .i64 0,.string ⟨#[]⟩] (n*3)).toList t (j*3+k) (#[Value.int .i64 0,.int .i64 0,.string ⟨#[]⟩][(j*3+k) % 3]!) (by
   simp[madeCells,hlt])
  rw[show (j*3+k) % 3=k by omega] at this
  rw[Array.toArray_toList] at this
  rw[this]
  match k,hk with
  | 0,_=>rfl
  | 1,_=>rfl
  | 2,_=>rfl
 exact⟨key 0 (by decide),key 1 (by decide),key 2 (by decide)⟩
theorem growIA (W:World) (n:Nat) (t t2:TypeId):GrowI n W ((W.alloc (.cells (madeCells #[.int .i64 0,.int .i64 0,.string ⟨#[]⟩] (n*3)) t)).alloc (.cells #[.slice (some ⟨W.heap.size,0,none⟩) n n] t2)) (W.heap.size+1) W.heap.size:=by
 refine⟨((Gr.refl W).alloc1 _).alloc1 _,by omega,Nat.le_refl _,by omega,by simp[go_sem],fun j hj=>?_,fun o=>by simp[go_sem],by simp;omega⟩
 exact (zrow_cell W n t j hj).gr (Gr.alloc _ _)
theorem growIB (W:World) (n:Nat) (t t2:TypeId):GrowI n W ((W.alloc (.cells #[.slice (some ⟨W.heap.size+1,0,none⟩) n n] t2)).alloc (.cells (madeCells #[.int .i64 0,.int .i64 0,.string ⟨#[]⟩] (n*3)) t)) W.heap.size (W.heap.size+1):=by
 refine⟨((Gr.refl W).alloc1 _).alloc1 _,Nat.le_refl _,by omega,by omega,by simp[go_sem],fun j hj=>?_,fun o=>by simp[go_sem],by simp⟩
 have h:=zrow_cell (W.alloc (.cells #[.slice (some ⟨W.heap.size+1,0,none⟩) n n] t2)) n t j hj
 rwa [World.size_alloc] at h
theorem ItC.ch {b j:Nat} {T:Nat→Prop} {W W':World} {x:It} (h:ItC b j W x) (hc:Ch T W W') (hT:¬T b):ItC b j W' x :=
 ⟨(hc.cell (p:=⟨b,j*3,none⟩) h.lt hT).trans h.k,(hc.cell (p:=⟨b,j*3+1,none⟩) h.lt hT).trans h.o,(hc.cell (p:=⟨b,j*3+2,none⟩) h.lt hT).trans h.t⟩
theorem igrow_any {B R m f:Nat} {W:World} {mx:Nat} {xs:List It} {lv:Value} (h:RgI B R m f W mx xs lv) (hx:xs.length=m) (hlt:m<mx) :
  Calls Tryz.prog 102 #[.pointer (some ⟨B,0,none⟩)] W fun e w'=>e=.returned (.tuple #[])∧∃ R',W.heap.size≤R'∧RgI B R' (gsz m mx) 0 w' mx xs (.slice (some ⟨R',0,none⟩) (gsz m mx) (gsz m mx))∧Ch (fun k=>k=B) W w':=by
 have h':=hid h
 have hm6:m≤65536:=Nat.le_trans h.hm h.hM
 have hM6:=h.hM
 have c0:=h.c0
 have c3:=h.c3
 obtain⟨p,rfl⟩:∃ p,lv=.slice p m m:=by
  rcases h.hl with⟨e,e2⟩ | ⟨_,e2⟩
  ·exact⟨none,by rw[e2,e]⟩
  ·exact⟨_,e2⟩
 obtain⟨i0,hi,hz0,hz1,hzb⟩:=info_parts infoItem
 obtain⟨n,hn⟩:∃ n,gsz m mx=n:=⟨_,rfl⟩
 have hnm:m<n∧0<n∧n≤mx:=by rw[←hn];unfold gsz;omega
 have hsz:min (max (IntKind.i64.wrap (2*(m:Int))) 8) (mx:Int)=(n:Int):=by
  rw[IntWalk.i64_in _ (by omega),←hn];unfold gsz;omega
 have hmk:∀ w:World,(Instr.makeSlice 142 (.int .i64 n) (.int .i64 n)).run Tryz.prog w=.ok (.slice (some ⟨w.heap.size,0,none⟩) n n) (w.alloc (.cells (madeCells #[.int .i64 0,.int .i64 0,.string ⟨#[]⟩] (n*3)) 81)):=fun w=>by
  have hr:=run_make (P:=Tryz.prog) w 142 81 i0 _ Tryz.underlying142 hi hz0 .i64 .i64 n n (by omega) (Int.le_refl _) (by rw[hzb];omega) (by omega)
  simp only[Int.toNat_natCast] at hr
  rw[hr,hz1]
  rfl
 clear h hi hz0 hz1 hzb
 have hBz:B<W.heap.size:=cell_lt c0
 have hBz1:B<W.heap.size+1:=by omega
 rw[hn]
 refine (callsIn_wide (n:=0)).1 ?_
 refine callsIn_of_wp_marks Tryz.func102 rfl trivial ?_ rfl
 simp only[Tryz.ntmps102,List.size_toArray,List.length_cons,List.length_nil,Nat.reduceAdd,Nat.reduceSub,Array.replicate_succ,Array.replicate_zero,List.push_toArray,List.append_toArray,List.nil_append,List.cons_append]
 refine (wpIn_wide (n:=0)).2 ?_
 go_upto_region 0 with (fail)
 go_cut [2] from 5 to 17 (fun v wx=>∃ V R',v=.pointer (some ⟨V,0,none⟩)∧GrowI n W wx V R')
 case first =>
  refine wp_then_false ?_
  go_region_law (fail)
  all_goals
   go_wp2
   go_meet
   first
    | exact⟨_,_,rfl,(growIA W n _ _).drew⟩
    | exact⟨_,_,rfl,(growIB W n _ _).drew⟩
 case rest =>
  obtain⟨V,R',rfl,hF⟩:=hcut
  have h1':=hid (h'.out.gr hF.gr)
  have hF':=hid hF
  clear c0 c3 hmk hF hBz hBz1 hsz
  go_wp2_with (go_at_call 124;refine (iall_any B _).mono ?_;rintro e w' ⟨rfl,rfl⟩)
  obtain⟨w2,hw2⟩:∃ x,wc.alloc (.cells #[.pointer (some ⟨B,0,none⟩)] 107)=x:=⟨_,rfl⟩
  rw[hw2]
  have hs2:=hid (show w2.heap.size=wc.heap.size+1 by rw[←hw2];simp)
  have hb2:w2.cell? ⟨wc.heap.size,0,none⟩=some (.pointer (some ⟨B,0,none⟩)):=by rw[←hw2];simp[go_sem]
  have hg2:Gr wc w2:=by rw[←hw2];exact Gr.alloc _ _
  have hF2:=hid (show GrowI n W w2 V R' from⟨hF'.out.gr.trans hg2,hF'.out.vl,hF'.out.rl,hF'.out.vr,hg2.cell hF'.out.vc,fun j hj=>(hF'.out.rc j hj).gr hg2,fun o=>(Below.frozen hg2 (p:=⟨R',o,none⟩) hF'.out.rs).trans (hF'.out.rz o),Nat.lt_of_lt_of_le hF'.out.rs (Below.size hg2)⟩)
  clear hw2
  refine (wpIn_wide (n:=0)).1 ?_
  refine wpIn_range2 (gf:=152) rfl (enters_of Tryz.func152 (by kernel_rfl) rfl) (iall_iter (B:=B) (R:=R) (m:=m) (f:=f) (max:=mx) (xs:=xs) (lv:=.slice p m m) wc.heap.size hb2) (Nat.le_refl _) (fun k hk=>⟨by rw[hs2.out];(try dsimp only at hk);omega,rfl⟩) (fun _=>rfl)
   (fun pre A=>Gr W A∧w2.heap.size≤A.heap.size∧A.cell? ⟨V,0,none⟩=some (.slice (some ⟨R',0,none⟩) n n)∧(∀ o,A.frozen? ⟨R',o,none⟩=false)∧(∀ j,j<n→∃ u:It,ItC R' j A u)∧∀ j (hj:j<xs.length),j<pre.length→ItC R' j A xs[j])
   (fun _ _ _=>False) (fun k=>k=R')
   (fun k hk=>⟨by have:=hF2.out.rs;(try dsimp only at hk);omega,by have:=hF'.out.rs;(try dsimp only at hk ⊢);omega⟩) ?hI (fun _ _ _ _ h _=>h.elim) (fun _ _ h=>h'.out.gr h.1) ⟨hF2.out.gr,Nat.le_refl _,hF2.out.vc,hF2.out.rz,fun j hj=>⟨it0,hF2.out.rc j hj⟩,fun j _ h=>absurd h (Nat.not_lt_zero _)⟩ ?round ?done (fun _ _ _ _ _ _ h _=>h.elim)
  case hI =>
   rintro pre A B' ⟨g,k0,k1,k2,k3,k4⟩ hch
   have e2:=hs2.out
   have eW:=Below.size hF'.out.gr
   have hr:¬(R'=wc.heap.size∨w2.heap.size≤R'):=by have:=hF'.out.rs;omega
   have hv:¬(V=wc.heap.size∨w2.heap.size≤V):=by have:V<wc.heap.size:=cell_lt hF'.out.vc;omega
   have hrl:R'<A.heap.size:=by have:=hF2.out.rs;omega
   exact⟨g.ch hch (fun k hk=>by omega),Nat.le_trans k0 hch.size,(hch.cell (p:=⟨V,0,none⟩) (cell_lt k1) hv).trans k1,fun o=>(hch.frozen (p:=⟨R',o,none⟩) hrl hr).trans (k2 o),
    fun j hj=>(k3 j hj).imp fun u hu=>hu.ch hch hr,fun j hj h=>(k4 j hj h).ch hch hr⟩
  case round =>
   intro l' pre x rest A hl' hlt2 hxs hI
   obtain⟨hk,rfl⟩:=idxs_at hxs
   obtain⟨g,k0,k1,k2,k3,k4⟩:=hI
   obtain⟨y,hy⟩:∃ y,xs[pre.length]=y:=⟨_,rfl⟩
   obtain⟨k,hkk⟩:∃ k,pre.length=k:=⟨_,rfl⟩
   have hkn:k<n:=by omega
   have eW:=Below.size hF'.out.gr
   have e2:=hs2.out
   have hrl:R'<wc.heap.size:=hF'.out.rs
   have hvl:V<wc.heap.size:=cell_lt hF'.out.vc
   have hne1:¬(R'=l'):=by omega
   have hne2:¬(V=l'):=by omega
   have hvr:=hF'.out.vr
   have hRA:R'<A.heap.size:=by omega
   have hWR:=hF'.out.rl
   have hWl:W.heap.size≤l':=by omega
   obtain⟨u,hu⟩:=k3 k hkn
   rw[hy]
   rw[hkk]
   unfold encI It.V
   have hI':=hid (And.intro g (And.intro k0 (And.intro k1 (And.intro k2 (And.intro k3 k4)))))
   have hy':=hid (show ∀ h:pre.length<xs.length,xs[pre.length]=y from fun _=>hy)
   have hkk':=hid hkk
   have hk':=hid hk
   clear hxs k0 k2 k3 k4 hkk
   gi_wp2
   refine⟨Ch.alloc _ _ _,fun A2 hA3=>?_⟩
   have hlA:¬(A.heap.size=l'):=by omega
   have y0:A2.cell? ⟨A.heap.size,0,none⟩=some (.int .i64 y.kind):=(hA3.cell (p:=⟨A.heap.size,0,none⟩) (by simp) hlA).trans (cell_new7 _ _ _ 0 _ rfl)
   have y1:A2.cell? ⟨A.heap.size,1,none⟩=some (.int .i64 y.op):=(hA3.cell (p:=⟨A.heap.size,1,none⟩) (by simp) hlA).trans (cell_new7 _ _ _ 1 _ rfl)
   have y2:A2.cell? ⟨A.heap.size,2,none⟩=some (.string ⟨y.text.toArray⟩):=(hA3.cell (p:=⟨A.heap.size,2,none⟩) (by simp) hlA).trans (cell_new7 _ _ _ 2 _ rfl)
   have hA2:Ch (fun x=>x=l') A A2:=(Ch.alloc _ _ _).trans hA3
   obtain⟨g,k0,k1,k2,k3,k4⟩:=hI'.out
   have d1:A2.cell? ⟨V,0,none⟩=some (.slice (some ⟨R',0,none⟩) n n):=(hA2.cell (p:=⟨V,0,none⟩) (cell_lt k1) hne2).trans k1
   have d2:ItC R' k A2 u:=hu.ch hA2 hne1
   have d2k:=d2.k
   have d2o:=d2.o
   have d2t:=d2.t
   have dz:∀ o,A2.frozen? ⟨R',o,none⟩=false:=fun o=>(hA2.frozen (p:=⟨R',o,none⟩) hRA hne1).trans (k2 o)
   have hd:=hid (show (Gr W A2∧w2.heap.size≤A2.heap.size)∧((∀ j,j<n→∃ u:It,ItC R' j A2 u)∧∀ j (hj:j<xs.length),j<pre.length→ItC R' j A2 xs[j]) from
    ⟨⟨g.ch hA2 (fun k hk=>by (try dsimp only at hk);omega),Nat.le_trans k0 hA2.size⟩,fun j hj=>(k3 j hj).imp fun u hu=>hu.ch hA2 hne1,fun j hj h=>(k4 j hj h).ch hA2 hne1⟩)
   have d2':=hid d2
   clear g k0 k1 k2 k3 k4 hA2 hA3 hu d2
   gi_wp2
   have e0:Ch (fun k=>k=R') A2 (putI A2 R' k y):=putI_ch A2 y rfl
   refine⟨e0,(hd.out.1.1).ch e0 (fun j hj=>(show j=R' from hj)▸hWR),by rw[World.size_setCell,World.size_setCell,World.size_setCell];exact hd.out.1.2,putI_other d1 (fun e=>hvr e.symm),fun o=>by rw[frozen_set,frozen_set,frozen_set];exact dz o,fun j hj=>?_,fun j hj h=>?_⟩
   ·by_cases hjk:j=k
    ·subst hjk;exact⟨y,d2'.out.put y⟩
    ·obtain⟨u2,hu2⟩:=hd.out.2.1 j hj
     exact⟨u2,hu2.putO hjk y⟩
   ·rw[List.length_append,List.length_singleton,hkk'.out] at h
    by_cases hjk:j=k
    ·subst hjk
     have e:=hy'.out (by rw[hkk'.out];exact hj)
     simp only[hkk'.out] at e
     rw[e]
     exact d2'.out.put y
    ·exact (hd.out.2.2 j hj (by rw[hkk'.out];omega)).putO hjk y
  case done =>
   rintro D A hD ⟨g,k0,k1,k2,k3,k4⟩ hK
   have hA:=h'.out.gr g
   have hne:=hF'.out.vr
   have hVz:V<wc.heap.size:=cell_lt hF'.out.vc
   have hBz:B<W.heap.size:=cell_lt h'.out.c0
   have hWR:=hF'.out.rl
   have hWV:=hF'.out.vl
   have hDz:W.heap.size≤D:=by have:=hs2.out;have:=Below.size hF'.out.gr;omega
   have c1:=hA.c1
   have c3:=hA.c3
   have fz:=hA.fz
   have hall:=hid (And.intro g (And.intro k2 (And.intro k3 k4)))
   have hA':=hid hA
   have hK':=hid hK
   rw[idxs_len] at k4
   have k4':=hid k4
   clear hA g k0 k2 k3 k4 hK
   go_wp2
   have hDn:D≠B:=by omega
   have hK2:((A.setCell ⟨B,3,none⟩ (.slice (some ⟨R',0,none⟩) n n)).setCell ⟨B,1,none⟩ (.int .i64 0)).heap[D]?=some (.deferred (some [])) :=
    (Below.heap_setCell _ ⟨B,1,none⟩ _ _ hDn).trans ((Below.heap_setCell _ ⟨B,3,none⟩ _ _ hDn).trans hK'.out)
   refine⟨by simp,.inl ⟨_,_,rfl,run_takeDeferred hK2,?_⟩⟩
   refine⟨.tuple #[],results_none rfl _ _ _,rfl,R',hWR,?_,?_⟩
   ·obtain⟨g,k2,k3,_⟩:=hall.out
    have hcD:=Ch.putObj (T:=fun k=>k=D) ((A.setCell ⟨B,3,none⟩ (.slice (some ⟨R',0,none⟩) n n)).setCell ⟨B,1,none⟩ (.int .i64 0)) rfl (.deferred none)
    have hRD:R'≠D:=by have:=hF2.out.rs;omega
    have hRB:R'≠B:=by omega
    have cb:∀ {o v},((A.setCell ⟨B,3,none⟩ (.slice (some ⟨R',0,none⟩) n n)).setCell ⟨B,1,none⟩ (.int .i64 0)).cell? ⟨B,o,none⟩=some v→_:=fun {o v} hh=>(hcD.cell (p:=⟨B,o,none⟩) (cell_lt hh) (fun e=>hDn e.symm)).trans hh
    have cr:∀ {j x},ItC R' j A x→_:=fun {j x} hh=>((hh.other (B:=B) (o:=3) (v:=.slice (some ⟨R',0,none⟩) n n) hRB.symm).other (B:=B) (o:=1) (v:=.int .i64 0) hRB.symm).ch hcD hRD
    have hBA:B<A.heap.size:=cell_lt c1
    have hRA:R'<A.heap.size:=(k3 0 hnm.2.1).choose_spec.lt
    refine⟨cb (cell_off (cell_off hA'.out.c0 (by decide)) (by decide)),cb (cell_set_same (cell_off c1 (by decide))),cb (cell_off (cell_off hA'.out.c2 (by decide)) (by decide)),cb (cell_off (cell_set_same c3) (by decide)),.inr ⟨hnm.2.1,rfl⟩,fun o=>?_,fun _ o=>?_,by omega,hnm.2.2,hM6,.inl hnm.2.1,fun i hi=>?_,fun j hj=>?_,fun _=>hRB⟩
    ·refine (hcD.frozen (p:=⟨B,o,none⟩) (by simpa using hBA) (fun e=>hDn e.symm)).trans ?_
     rw[frozen_set,frozen_set];exact fz o
    ·refine (hcD.frozen (p:=⟨R',o,none⟩) (by simpa using hRA) hRD).trans ?_
     rw[frozen_set,frozen_set];exact k2 o
    ·rw[show (0+i) % n=i by rw[Nat.zero_add];exact Nat.mod_eq_of_lt (by omega)]
     exact cr (k4'.out i hi hi)
    ·exact (k3 j hj).imp fun u hu=>cr hu
   ·have c1:Ch (fun k=>k=B) W ((A.setCell ⟨B,3,none⟩ (.slice (some ⟨R',0,none⟩) n n)).setCell ⟨B,1,none⟩ (.int .i64 0)) :=
     ((hall.out.1.to_ch _).trans (Ch.setCell (T:=fun k=>k=B) _ (a:=⟨B,3,none⟩) rfl _)).trans (Ch.setCell (T:=fun k=>k=B) _ (a:=⟨B,1,none⟩) rfl _)
    exact c1.drop_new (Ch.putObj (T:=fun k=>k=D) _ rfl _) (fun j hj=>.inr (by (try dsimp only at hj);omega))
theorem RgI.push {B R m f:Nat} {W W6:World} {mx:Nat} {xs:List It} {x:It} {lv:Value} (h:RgI B R m f W mx xs lv) (hlt:xs.length<m) (g:Gr (W.setCell ⟨B,2,none⟩ (.int .i64 ((xs.length:Int)+1))) W6) :
  RgI B R m f (putI W6 R ((f+xs.length) % m) x) mx (xs++[x]) lv:=by
 have hm0:0<m:=by omega
 have hf:f<m:=by rcases h.hf with e | e <;> omega
 have hne:=h.ne hm0
 refine⟨putI_other (g.cell (cell_off h.c0 (by decide))) hne,putI_other (g.cell (cell_off h.c1 (by decide))) hne,?_,putI_other (g.cell (cell_off h.c3 (by decide))) hne,h.hl,fun o=>?_,fun hm o=>?_,by simp;omega,h.hm,h.hM,h.hf,fun i hi=>?_,fun j hj=>?_,h.ne⟩
 ·have:=putI_other (j:=(f+xs.length) % m) (y:=x) (g.cell (cell_set_same h.c2)) hne
  simpa using this
 ·rw[putI_frozen]
  exact (Below.frozen g (by simpa using cell_lt h.c0)).trans (frozen_set.trans (h.fz o))
 ·rw[putI_frozen]
  exact (Below.frozen g (by simpa using (h.all 0 hm0).choose_spec.lt)).trans (frozen_set.trans (h.fr hm o))
 ·rw[List.length_append,List.length_singleton] at hi
  by_cases hix:i<xs.length
  ·have e:(xs++[x])[i]=xs[i]:=by rw[List.getElem_append_left hix]
   rw[e]
   have hr:=h.row i hix
   have hne2:(f+i) % m≠(f+xs.length) % m:=by
    intro e2
    rcases Nat.lt_or_ge (f+i) m with h2 | h2
    ·rcases Nat.lt_or_ge (f+xs.length) m with h3 | h3
     ·rw[Nat.mod_eq_of_lt h2,Nat.mod_eq_of_lt h3] at e2;omega
     ·rw[Nat.mod_eq_of_lt h2,Nat.mod_eq_sub_mod h3,Nat.mod_eq_of_lt (by omega)] at e2;omega
    ·have h3:m≤f+xs.length:=by omega
     rw[Nat.mod_eq_sub_mod h2,Nat.mod_eq_of_lt (by omega),Nat.mod_eq_sub_mod h3,Nat.mod_eq_of_lt (by omega)] at e2;omega
   exact ((hr.other hne.symm).gr g).putO hne2 x
  ·obtain rfl:i=xs.length:=by omega
   have e:(xs++[x])[xs.length]=x:=by simp
   rw[e]
   obtain⟨u,hu⟩:=h.all ((f+xs.length) % m) (Nat.mod_lt _ hm0)
   exact ((hu.other hne.symm).gr g).put x
 ·obtain⟨u,hu⟩:=h.all j hj
  by_cases hjf:j=(f+xs.length) % m
  ·subst hjf
   exact⟨x,((hu.other hne.symm).gr g).put x⟩
  ·exact⟨u,((hu.other hne.symm).gr g).putO hjf x⟩
theorem ipush_full {B R m f:Nat} {W:World} {mx:Nat} {xs:List It} {lv:Value} (x:It) (h:RgI B R m f W mx xs lv) (hf:mx≤xs.length) :
  Calls Tryz.prog 80 #[.pointer (some ⟨B,0,none⟩),x.V] W fun e w'=>e=.returned (.bool false)∧Gr W w':=by
 have c0:=h.c0
 have c2:=h.c2
 have hfI:(mx:Int)≤xs.length:=by omega
 have hBz:B<W.heap.size:=cell_lt c0
 clear h
 unfold It.V
 go_enter Tryz.func80,Tryz.ntmps80
 go_wp2
 go_quiet (fail)
 go_wp2
 go_ret
 exact⟨rfl,Gr.trans (Gr.alloc W _) (below_drewNm _ _)⟩
theorem drewN_size (w:World):∀ n,(w.drewN n).heap.size=w.heap.size
 | 0=>rfl
 | n+1=>by rw[World.drewN]
structure ItX (b:Nat) (W:World) (x:It):Prop where
 k:W.cell? ⟨b,0,none⟩=some (.int .i64 x.kind)
 o:W.cell? ⟨b,1,none⟩=some (.int .i64 x.op)
 t:W.cell? ⟨b,2,none⟩=some (.string ⟨x.text.toArray⟩)
theorem ItX.lt {b:Nat} {W:World} {x:It} (h:ItX b W x):b<W.heap.size:=cell_lt h.k
theorem ItX.ch {b:Nat} {T:Nat→Prop} {W W':World} {x:It} (h:ItX b W x) (hc:Ch T W W') (hT:¬T b):ItX b W' x :=
 ⟨(hc.cell (p:=⟨b,0,none⟩) h.lt hT).trans h.k,(hc.cell (p:=⟨b,1,none⟩) h.lt hT).trans h.o,(hc.cell (p:=⟨b,2,none⟩) h.lt hT).trans h.t⟩
def IPush (B R m mx:Nat) (xs:List It) (x:It) (W w':World):Prop :=
 ∃ R' m' f' lv',RgI B R' m' f' w' mx (xs++[x]) lv'∧Ch (fun k=>k=B∨(0<m∧k=R)) W w'∧((R'=R∧m'=m)∨W.heap.size≤R')
theorem ipush_some {B R m f:Nat} {W:World} {mx:Nat} {xs:List It} {lv:Value} (x:It) (h:RgI B R m f W mx xs lv) (hf:xs.length<mx) :
  Calls Tryz.prog 80 #[.pointer (some ⟨B,0,none⟩),x.V] W fun e w'=>e=.returned (.bool true) ∧
   IPush B R m mx xs x W w':=by
 have h':=hid h
 have c0:=h.c0
 have c2:=h.c2
 have c3:=h.c3
 have hfI:¬(mx:Int)≤xs.length:=by omega
 obtain⟨p,rfl⟩:∃ p,lv=.slice p m m:=by
  rcases h.hl with⟨e,e2⟩ | ⟨_,e2⟩
  ·exact⟨none,by rw[e2,e]⟩
  ·exact⟨_,e2⟩
 have hmm:=h.hn
 have hmx:=h.hM
 have hBz:B<W.heap.size:=cell_lt c0
 clear h
 unfold It.V
 go_enter Tryz.func80,Tryz.ntmps80
 go_wp2
 go_quiet (fail)
 obtain⟨wd,hwd⟩:∃ wd,(W.alloc (.cells #[.int .i64 x.kind,.int .i64 x.op,.string ⟨x.text.toArray⟩] 81)).drewN nq=wd:=⟨_,rfl⟩
 have gd:Gr W wd:=hwd▸Gr.trans (Gr.alloc W _) (below_drewNm _ _)
 have hsz:wd.heap.size=W.heap.size+1:=by rw[←hwd,drewN_size];simp
 have gx:Gr (W.alloc (.cells #[.int .i64 x.kind,.int .i64 x.op,.string ⟨x.text.toArray⟩] 81)) wd:=hwd▸below_drewNm _ _
 have x0:wd.cell? ⟨W.heap.size,0,none⟩=some (.int .i64 x.kind):=gx.cell (cell_new7 _ _ _ 0 _ rfl)
 have x1:wd.cell? ⟨W.heap.size,1,none⟩=some (.int .i64 x.op):=gx.cell (cell_new7 _ _ _ 1 _ rfl)
 have x2:wd.cell? ⟨W.heap.size,2,none⟩=some (.string ⟨x.text.toArray⟩):=gx.cell (cell_new7 _ _ _ 2 _ rfl)
 obtain⟨b,hb⟩:∃ b,((xs.length:Int)==(m:Int))=b:=⟨_,rfl⟩
 replace c2:=gd.cell c2
 replace c3:=gd.cell c3
 have gd':=hid gd
 go_wp2
 rw[hwd]
 clear hwd c0 gx
 go_quiet (fail)
 go_upto_if 27 with (fail)
 obtain⟨we,hwe⟩:∃ we,wd.drewN nq=we:=⟨_,rfl⟩
 have gde:Gr wd we:=hwe▸below_drewNm _ _
 have ge:=hid (gd'.out.trans gde)
 have hxe:=hid (show ItX W.heap.size we x from⟨gde.cell x0,gde.cell x1,gde.cell x2⟩)
 clear x0 x1 x2 gde
 go_cut [] (fun wx=>∃ R' m' f',RgI B R' m' f' wx mx xs (.slice (some ⟨R',0,none⟩) m' m')∧xs.length<m'∧Ch (fun k=>k=B) W wx∧((R'=R∧m'=m)∨W.heap.size≤R')∧ItX W.heap.size wx x∧R'≠W.heap.size)
 case first =>
  rw[hwe]
  clear hwe c2 c3
  cases b with
  | true =>
   have hb':xs.length=m:=by have:=eq_of_beq hb;omega
   go_wp2_with (fail)
   refine (igrow_any (h'.out.gr ge.out) hb' (by omega)).mono ?_
   rintro e wg ⟨rfl,R',hR',hg,hc⟩
   go_wp2
   go_meet
   exact⟨R',_,0,hg,by unfold gsz;omega,(ge.out.to_ch _).trans hc,.inr (Nat.le_trans (Below.size ge.out) hR'),hxe.out.ch hc (by (try dsimp only);omega),by have:=hxe.out.lt;omega⟩
  | false =>
   have hb':¬((xs.length:Int)=m):=beq_eq_false_iff_ne.1 hb
   have hg:=h'.out.gr ge.out
   have hl:=hg.hl
   go_wp2
   go_meet
   obtain⟨_,e⟩:=hl.resolve_left (fun e=>by have:=e.1;omega)
   rw[e] at hg
   exact⟨R,m,f,hg,by omega,ge.out.to_ch _,.inl ⟨rfl,rfl⟩,hxe.out,by have:=(h'.out.all 0 (by omega)).choose_spec.lt;omega⟩
 case rest =>
  obtain⟨R',m',f',hg,hlt,hch,hor,hX,hRx⟩:=hcut
  have hg':=hid hg
  have hch':=hid hch
  have hor':=hid hor
  have c2:=hg.c2
  have fz:=hg.fz
  have hX':=hid hX
  clear hg hch hor h' ge hwe hb hX hxe
  go_upto_region 6 with (fail)
  obtain⟨w5,hw5⟩:∃ x,wc.setCell ⟨B,2,none⟩ (.int .i64 ((xs.length:Int)+1))=x:=⟨_,rfl⟩
  rw[hw5]
  have hm0:0<m':=by omega
  have hm6:m'≤65536:=Nat.le_trans hg'.out.hm hg'.out.hM
  have hf':f'<m':=by rcases hg'.out.hf with e | e <;> omega
  have hne:=hg'.out.ne hm0
  have e1:w5.cell? ⟨B,1,none⟩=some (.int .i64 f'):=by rw[←hw5];exact cell_off hg'.out.c1 (by decide)
  have e2:w5.cell? ⟨B,2,none⟩=some (.int .i64 ((xs.length:Int)+1)):=by rw[←hw5];exact cell_set_same c2
  have e3:w5.cell? ⟨B,3,none⟩=some (.slice (some ⟨R',0,none⟩) m' m'):=by rw[←hw5];exact cell_off hg'.out.c3 (by decide)
  have hn6:xs.length≤65536:=by omega
  obtain⟨q,hq⟩:∃ q,(f'+xs.length) % m'=q:=⟨_,rfl⟩
  have hql:q<m':=hq▸Nat.mod_lt _ hm0
  have hX5:ItX W.heap.size w5 x:=hX'.out.ch (hw5▸Ch.setCell (T:=fun k=>k=B) _ (a:=⟨B,2,none⟩) rfl _) (by (try dsimp only);omega)
  have v0:∀ y:Later (Gr w5),y.w.cell? ⟨W.heap.size,0,none⟩=some (.int .i64 x.kind):=fun y=>y.ok.cell hX5.k
  have v1:∀ y:Later (Gr w5),y.w.cell? ⟨W.heap.size,1,none⟩=some (.int .i64 x.op):=fun y=>y.ok.cell hX5.o
  have v2:∀ y:Later (Gr w5),y.w.cell? ⟨W.heap.size,2,none⟩=some (.string ⟨x.text.toArray⟩):=fun y=>y.ok.cell hX5.t
  haveI:Nonempty (Later (Gr w5)):=⟨⟨w5,Gr.refl w5⟩⟩
  have t2:∀ x:Later (Gr w5),x.w.cell? ⟨B,2,none⟩=some (.int .i64 ((xs.length:Int)+1)):=fun x=>x.ok.cell e2
  have t3:∀ x:Later (Gr w5),x.w.cell? ⟨B,3,none⟩=some (.slice (some ⟨R',0,none⟩) m' m'):=fun x=>x.ok.cell e3
  have hpl2:=hid (iplace_later (R:=R') (m:=m') (i:=xs.length) e1 e3 hm0 hm6 hf' hn6)
  simp only[hq] at hpl2
  have hwr:IntKind.i64.wrap ((xs.length:Int)+1 - 1)=xs.length:=by rw[show (xs.length:Int)+1 - 1=xs.length by omega];exact IntWalk.i64_in _ (by omega)
  have hwr2:(xs.length:Int)+1 - 1=xs.length:=by omega
  clear e1 e2 e3 c2 fz
  refine wp_region_later_tail (C:=Gr w5) 12 (by kernel_rfl) (by kernel_rfl) (Gr.drew' _) ?_
  simp only[List.take_succ_cons,List.take_zero,List.drop_succ_cons,List.drop_zero]
  repeat (go_big_quiet_step (with_reducible exact hpl2.out _))
  refine wpQuiet_nil ?_
  intro w9 hg9
  have hBR:∀ {o p:Nat},(⟨B,o,none⟩:Addr).block≠(⟨R',p,none⟩:Addr).block:=fun {_ _} e=>hne e.symm
  obtain⟨u,hu⟩:=hg'.out.all q hql
  have hu9:=(hw5▸hu.other (B:=B) (o:=2) (v:=.int .i64 ((xs.length:Int)+1)) hne.symm:ItC R' q w5 u).gr hg9
  have u0:=hu9.k
  have u1:=hu9.o
  have u2:=hu9.t
  have hz9:∀ o,w9.frozen? ⟨R',o,none⟩=false:=fun o=>by
   have hz:=hg'.out.fr hm0 o
   refine (Below.frozen hg9 (p:=⟨R',o,none⟩) (by rw[←hw5];simpa using hu.lt)).trans ?_
   rw[←hw5,frozen_set];exact hz
  have hg9':=hid hg9
  clear t2 t3 hu hg9 hu9 v0 v1 v2 hX5
  go_wp2
  go_ret
  subst hw5
  subst hq
  refine⟨rfl,R',m',f',_,hg'.out.push hlt hg9'.out,?_,hor'.out⟩
  have k1:Ch (fun k=>k=B∨(0<m∧k=R)) W w9:=(hch'.out.mono (fun _ e=>.inl e)).trans ((Ch.setCell _ (a:=⟨B,2,none⟩) (.inl rfl) _).trans (hg9'.out.to_ch _))
  refine k1.drop_new (putI_ch (T:=fun k=>k=R') w9 x rfl) (fun j hj=>?_)
  have hj':j=R':=hj
  subst hj'
  rcases hor'.out with⟨e1,e2⟩ | e
  ·exact .inl (.inr ⟨by omega,e1⟩)
  ·exact .inr e
def RiAt (B mx:Nat) (T:Nat→Prop) (W:World) (xs:List It):Prop:=(∃ R m f lv,RgI B R m f W mx xs lv∧T B∧(0<m→T R))∧∀ k,T k→k<W.heap.size
theorem riKin (B mx:Nat):Kin (RiAt B mx) :=
 ⟨fun {T T' W x} ⟨⟨R,m,f,lv,h,h1,h2⟩,_⟩ ht hl=>⟨⟨R,m,f,lv,h,ht _ h1,fun e=>ht _ (h2 e)⟩,hl⟩,
  fun {T S W W' x} ⟨⟨R,m,f,lv,h,h1,h2⟩,hl⟩ hc hs=>⟨⟨R,m,f,lv,h.ch hc (hs _ h1) (fun e=>hs _ (h2 e)),h1,h2⟩,fun k hk=>Nat.lt_of_lt_of_le (hl k hk) hc.size⟩,
  fun {T W x} h=>h.2⟩
theorem ilen_at {B mx:Nat} {T:Nat→Prop} {W:World} {xs:List It} (h:RiAt B mx T W xs) :
  Calls Tryz.prog 84 #[.pointer (some ⟨B,0,none⟩)] W fun e w'=>e=.returned (.int .i64 xs.length)∧W=w':=by
 obtain⟨⟨R,m,f,lv,h,_⟩,_⟩:=h
 exact ilen_any h
theorem ipop_none_at {B mx:Nat} {T:Nat→Prop} {W:World} (h:RiAt B mx T W []) :
  Calls Tryz.prog 76 #[.pointer (some ⟨B,0,none⟩)] W fun e w'=>e=.returned (.tuple #[it0.V,.bool false])∧Gr W w':=by
 obtain⟨⟨R,m,f,lv,h,_⟩,_⟩:=h
 exact ipop_none h
theorem ipop_some_at {B mx:Nat} {T:Nat→Prop} {W:World} {a:It} {l:List It} (h:RiAt B mx T W (a :: l)) :
  Calls Tryz.prog 76 #[.pointer (some ⟨B,0,none⟩)] W fun e w'=>e=.returned (.tuple #[a.V,.bool true])∧Pst (RiAt B mx) T W l w':=by
 obtain⟨⟨R,m,f,lv,h,hB,hR⟩,hl⟩:=h
 have hm:0<m:=by have:=h.hn;simp at this;omega
 refine (ipop_some h).mono ?_
 rintro e w' ⟨rfl,h1,hc⟩
 have hc':Ch T W w':=hc.mono (fun k hk=>by rcases hk with rfl | rfl;exact hB;exact hR hm)
 exact⟨rfl,(riKin B mx).pst ⟨⟨R,m,_,lv,h1,hB,hR⟩,fun k hk=>Nat.lt_of_lt_of_le (hl k hk) hc.size⟩ hc'⟩
theorem ipush_full_at {B mx:Nat} {T:Nat→Prop} {W:World} {xs:List It} (x:It) (h:RiAt B mx T W xs) (hf:mx≤xs.length) :
  Calls Tryz.prog 80 #[.pointer (some ⟨B,0,none⟩),x.V] W fun e w'=>e=.returned (.bool false)∧Gr W w':=by
 obtain⟨⟨R,m,f,lv,h,_⟩,_⟩:=h
 exact ipush_full x h hf
theorem ipush_at {B mx:Nat} {T:Nat→Prop} {W:World} {xs:List It} (x:It) (h:RiAt B mx T W xs) (hf:xs.length<mx) :
  Calls Tryz.prog 80 #[.pointer (some ⟨B,0,none⟩),x.V] W fun e w'=>e=.returned (.bool true)∧Pst (RiAt B mx) T W (xs++[x]) w':=by
 obtain⟨⟨R,m,f,lv,h,hB,hR⟩,hl⟩:=h
 refine (ipush_some x h hf).mono ?_
 rintro e w' ⟨rfl,R',m',f',lv',h1,hc,hor⟩
 have hc':Ch T W w':=hc.mono (fun k hk=>by
  rcases hk with rfl | ⟨h0,rfl⟩
  ·exact hB
  ·exact hR h0)
 refine⟨rfl,⟨⟨R',m',f',lv',h1,.inl hB,fun h0=>?_⟩,fun k hk=>?_⟩,hc'⟩
 ·rcases hor with⟨e1,e2⟩ | e
  ·subst e1;subst e2;exact .inl (hR h0)
  ·exact .inr ⟨e,(h1.all 0 h0).choose_spec.lt⟩
 ·rcases hk with hk | hk
  ·exact Nat.lt_of_lt_of_le (hl k hk) hc.size
  ·exact hk.2
theorem inew_at (q:Nat) (W:World) (h1:1≤q) (h2:q≤65536) :
  Calls Tryz.prog 63 #[.int .i64 q] W fun e w'=>e=.returned (.tuple #[.pointer (some ⟨W.heap.size,0,none⟩),.int .i64 0])∧RiAt W.heap.size q (fun k=>k=W.heap.size) w' []∧Gr W w'∧w'.heap.size=W.heap.size+1:=by
 have a1:¬(q:Int)<1:=by omega
 have a2:¬(65536:Int)<q:=by omega
 go_enter Tryz.func63,Tryz.ntmps63
 go_wp2
 go_ret2
 refine⟨rfl,⟨⟨W.heap.size+1,0,0,.slice none 0 0,⟨cell_new7 _ _ _ 0 _ rfl,cell_new7 _ _ _ 1 _ rfl,cell_new7 _ _ _ 2 _ rfl,cell_new7 _ _ _ 3 _ rfl,.inl ⟨rfl,rfl⟩,fun o=>World.frozen?_alloc_at _ _ _ _ rfl,fun h=>absurd h (Nat.lt_irrefl 0),Nat.le_refl _,Nat.zero_le _,h2,.inr ⟨rfl,rfl⟩,fun i hi=>absurd hi (Nat.not_lt_zero _),fun j hj=>absurd hj (Nat.not_lt_zero _),fun h=>absurd h (Nat.lt_irrefl 0)⟩,rfl,fun h=>absurd h (Nat.lt_irrefl 0)⟩,fun k hk=>by subst hk;simp⟩,Gr.alloc _ _,by simp⟩
end Go.Proofs.YtadobobfjnmdlaaGreatDoor
