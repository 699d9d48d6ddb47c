/-
  Rows of values of one cell, of one's own, a conversion's row too: an append of one value.
-/
import Derived.Test.YtadobobfjnmdlaaGreatDoorP9
import Derived.Laws.AppendOwn
import Derived.Lib.ConvBytes
import Derived.Lib.Walk
import Derived.Lib.SliceRun
import Derived.Maps.Own
import Derived.Maps.OwnOps
import Derived.Maps.Views
set_option linter.unnecessarySimpa false
set_option linter.unusedVariables false
set_option linter.unusedSimpArgs false
set_option maxHeartbeats 16000000
set_option maxRecDepth 100000
open Go.Lib (hid)
open Go.Proofs.Tryz
namespace Go.Proofs.YtadobobfjnmdlaaGreatDoor
open Go.RowKit
attribute [local go_sem] Oper.semAt_some
theorem old_heap (w:World) (o:Obj) (i:Nat) (h:i<w.heap.size):(w.alloc o).heap[i]?=w.heap[i]?:=by
 show (w.heap.push o)[i]?=w.heap[i]?
 rw[Array.getElem?_push,if_neg (Nat.ne_of_lt h)]
def OwnV (t:TypeId) (B:Nat) (W:World) (v:Value) (xs:List Value):Prop :=
 (v=.slice none 0 0∧xs=[]) ∨
 ∃ g cap cur fz,v=.slice (some ⟨g,0,none⟩) xs.length cap∧B≤g∧W.heap[g]?=some (.cells cur t fz)∧(cur.size≤fz.1∨fz.2=0)∧xs.length≤cap∧cap≤maxLen∧cur.size=cap∧cur.toList.take xs.length=xs
theorem OwnV.nil (t:TypeId) (B:Nat) (W:World):OwnV t B W (.slice none 0 0) []:=.inl ⟨rfl,rfl⟩
theorem OwnV.slice {t:TypeId} {B:Nat} {W:World} {v:Value} {xs:List Value} (h:OwnV t B W v xs):∃ p cap,v=.slice p xs.length cap:=by
 rcases h with⟨rfl,rfl⟩ | ⟨g,cap,cur,fz,rfl,_⟩
 ·exact⟨none,0,rfl⟩
 ·exact⟨_,cap,rfl⟩
theorem OwnV.cells {t:TypeId} {B:Nat} {W:World} {p:Addr} {n cap:Nat} {xs:List Value} (h:OwnV t B W (.slice (some p) n cap) xs):p.off=0∧∀ i u,xs[i]?=some u→W.cell? ⟨p.block,i,none⟩=some u:=by
 rcases h with⟨e,_⟩ | ⟨g,cap,cur,fz,e,hb,hh,_,hn,_,hcs,ht⟩
 ·cases e
 ·injection e with e1 _ _
  injection e1 with e1
  subst e1
  refine⟨rfl,λi u hu=>?_⟩
  rw[cell_of_row W g i cur t fz hh]
  rw[←ht,List.getElem?_take] at hu
  split at hu
  ·simpa using hu
  ·cases hu
theorem OwnV.row {t:TypeId} {B:Nat} {W:World} {v:Value} {xs:List Value} (h:OwnV t B W v xs) (h0:0<xs.length) :
  ∃ g cap,v=.slice (some ⟨g,0,none⟩) xs.length cap∧B≤g∧g<W.heap.size∧(∀ i u,xs[i]?=some u→W.cell? ⟨g,i,none⟩=some u)∧xs.length≤cap:=by
 have h':=h
 rcases h with⟨_,e⟩ | ⟨g,cap,cur,fz,rfl,hb,hh,hz,hn,hm,hcs,ht⟩
 ·rw[e] at h0;cases h0
 ·exact⟨g,cap,rfl,hb,(Array.getElem?_eq_some_iff.1 hh).1,h'.cells.2,hn⟩
theorem OwnV.ch {t:TypeId} {B:Nat} {T:Nat→Prop} {W W':World} {v:Value} {xs:List Value} (h:OwnV t B W v xs) (hc:Ch T W W') (hT:∀ k,v.ownBlock=some k→¬T k):OwnV t B W' v xs:=by
 rcases h with h2 | ⟨g,cap,cur,fz,rfl,hb,hh,rest⟩
 ·exact .inl h2
 ·exact .inr ⟨g,cap,cur,fz,rfl,hb,hc.get hh (hT g rfl),rest⟩
theorem OwnV.gr {t:TypeId} {B:Nat} {W W':World} {v:Value} {xs:List Value} (h:OwnV t B W v xs) (hb:Gr W W'):OwnV t B W' v xs:=h.ch (hb.to_ch (λ_=>False)) (λ_ _ h=>h.elim)
theorem store_marked (P:Program) (g o:Nat) (t:TypeId) (fz:Nat×Nat) (u:Value) (cur:Array Value) (w:World) (hg:w.heap[g]?=some (.cells cur t fz)) (ho:o<cur.size) (hz:cur.size≤fz.1∨fz.2=0) (h1:u.oneCell'=true) :
  (storeCells ⟨g,o,none⟩ [u] 0).run P w=.ok () (w.setRow g (cur.setIfInBounds o u)):=by
 have hadd:(⟨g,o,none⟩:Addr).add 0=⟨g,o,none⟩:=by simp[Addr.add]
 have hcell:w.cell? ⟨g,o,none⟩=some cur[o]:=by simp[World.cell?,hg,ho]
 have hfro:w.frozen? ⟨g,o,none⟩=false:=by
  obtain⟨lo,hi'⟩:=fz
  simp only[World.frozen?,hg,Bool.and_eq_false_iff,decide_eq_false_iff_not]
  simp only at hz
  omega
 have hst:(store ((⟨g,o,none⟩:Addr).add 0) u).run P w=.ok () (w.setRow g (cur.setIfInBounds o u)):=by
  rw[hadd,run_store P w _ u _ h1,hcell]
  simp[hfro,setCell_eq_setRow w g o cur t fz u hg]
 simp only[storeCells,Sem.run_bind,hst,Result.andThen_ok]
 rfl
theorem run_app1 {W:World} (ts te ty:TypeId) (z u:Value) (bytes:Nat)
  (hts:prog.underlying ts=some (.slice te)) (hinf:(prog.info? te).map (λi=>(i.zero,i.size,i.bytes))=some (some z,1,bytes)) (hz1:z.cells.size=1)
  (B:Nat) (v:Value) (xs:List Value) (hown:OwnV te B W v xs) (ad:Addr) (c:Nat) (hu:W.cell? ad=some u) (h1:u.oneCell'=true)
  (hlen:xs.length+1≤1000000) (hb:bytes≤64) (hB:B≤W.heap.size) :
  ∃ p cap W',(Builtin.append_ #[ts,ts] ty #[v,.slice (some ad) 1 c]).run prog W=.ok (.slice p (xs.length+1) cap) W'∧OwnV te B W' (.slice p (xs.length+1) cap) (xs++[u])∧Below B W W'∧(∀ g,v.ownBlock=some g→∀ j x,xs[j]?=some x→W'.cell? ⟨g,j,none⟩=some x):=by
 obtain⟨i,hi,hz0,hzs,hz2⟩:=info_parts hinf
 have hnews:∀ j x,[u][j]?=some x→W.cell? (ad.add j)=some x:=by
  intro j x hj
  match j,hj with
  | 0,hj =>
   simp at hj;subst hj
   have:ad.add 0=ad:=by simp[Addr.add]
   rw[this];exact hu
  | n+1,hj=>simp at hj
 have h40:(xs.length+1)*bytes≤64000000:=by
  have:(xs.length+1)*bytes≤1000000*64:=Nat.mul_le_mul hlen hb
  omega
 have grown:∀ (old:Nat),old<xs.length+1 →
   OwnV te B (W.drew.alloc (.cells (xs.toArray++#[u]++Builtin.zeroCells z.cells (grownCap W (xs.length+1) old te - (xs.length+1))) te)) (.slice (some ⟨W.heap.size,0,none⟩) (xs.length+1) (grownCap W (xs.length+1) old te)) (xs++[u]) ∧
   Below B W (W.drew.alloc (.cells (xs.toArray++#[u]++Builtin.zeroCells z.cells (grownCap W (xs.length+1) old te - (xs.length+1))) te)):=by
  intro old ho
  have hge:=grownCap_ge W (xs.length+1) old te
  have hcm:grownCap W (xs.length+1) old te≤maxLen:=grownCap_le_maxLen W (xs.length+1) old te (by unfold maxLen;omega)
  refine⟨.inr ⟨W.heap.size,_,_,(0,0),by rw[List.length_append,List.length_singleton],hB,heap_alloc_new W.drew _,.inr rfl,by rw[List.length_append,List.length_singleton];exact hge,hcm,?_,?_⟩,⟨rfl,rfl,rfl,by simp,λk hk=>old_heap W.drew _ k (by show k<W.heap.size;omega)⟩⟩
  ·simp only[Array.size_append,List.size_toArray,size_zeroCells,hz1,List.length_cons,List.length_nil]
   omega
  ·simp only[Array.toList_append,List.append_assoc]
   rw[←List.append_assoc]
   exact List.take_left' (by simp)
 rcases hown with⟨rfl,rfl⟩ | ⟨g,cap,cur,fz,rfl,hbg,hg,hfz,hnc,hcm,hcs,htake⟩
 ·have hr:=run_append_nil (P:=prog) W ts ty te i z hts hi hz0 ad 1 c [u] (by rw[hzs];rfl) hnews (by decide) (by decide) (by rw[hz2];omega)
  have hgr:=grown 0 (by decide)
  simp only[List.length_nil,Nat.zero_add,List.nil_append,Array.empty_append] at hgr ⊢
  exact⟨_,_,_,hr,hgr.1,hgr.2,λg hg=>by simp[Value.ownBlock] at hg⟩
 ·have hold:=(OwnV.cells (B:=B) (t:=te) (.inr ⟨g,cap,cur,fz,rfl,hbg,hg,hfz,hnc,hcm,hcs,htake⟩)).2
  by_cases hroom:xs.length+1≤cap
  ·have hst:=store_marked prog g xs.length te fz u cur W hg (by omega) hfz h1
   have hf:=run_firstCells_some (P:=prog) W i.size 1 ad 1 c [u] (by rw[hzs];rfl) hnews
   rw[hzs] at hf
   refine⟨some ⟨g,0,none⟩,cap,W.setRow g (cur.setIfInBounds xs.length u),?_,.inr ⟨g,cap,_,fz,by rw[List.length_append,List.length_singleton],hbg,setRow_heap W g cur _ te _ hg,by simpa using hfz,by rw[List.length_append,List.length_singleton];exact hroom,hcm,by simpa using hcs,?_⟩,⟨rfl,rfl,rfl,by simp,λk hk=>setRow_other W g k _ (λe=>by omega)⟩,λg2 hg2 j x hx=>?_⟩
   ·simp[Builtin.append_,run_underlying hts,sizeOf,typeInfo,hi,hzs,Builtin.lenOf,hroom,hf,Addr.add_lit,hst]
   ·rw[List.length_append,List.length_singleton,Array.toList_setIfInBounds,List.take_add_one,List.take_set_of_le (Nat.le_refl _),htake]
    have hlt:xs.length<cur.toList.length:=by simp;omega
    rw[List.getElem?_set_self hlt];rfl
   ·simp only[Value.ownBlock,Option.some.injEq] at hg2
    subst hg2
    have hjl:j<xs.length:=(List.getElem?_eq_some_iff.1 hx).1
    rw[cell_of_row _ g j _ te fz (setRow_heap W g cur _ te _ hg)]
    have h1:=hold j x hx
    rw[cell_of_row W g j cur te fz hg] at h1
    rw[Array.getElem?_setIfInBounds_ne (by omega)];exact h1
  ·have holds:∀ j x,xs[j]?=some x→W.cell? ((⟨g,0,none⟩:Addr).add j)=some x:=λj x hx=>by
    have e:(⟨g,0,none⟩:Addr).add j=⟨g,j,none⟩:=by
     by_cases h0:j=0 <;> simp[Addr.add,h0]
    rw[e]
    exact (OwnV.cells (B:=B) (t:=te) (.inr ⟨g,cap,cur,fz,rfl,hbg,hg,hfz,hnc,hcm,hcs,htake⟩)).2 j x hx
   have hr:=run_append_grow (P:=prog) W ts ty te i z hts hi hz0 ⟨g,0,none⟩ xs.length cap xs (by rw[hzs];omega) holds ad 1 c [u] (by rw[hzs];rfl) hnews (by omega) (by omega) (growslice_fits (by omega) (by rw[hz2];omega))
   have hgr:=grown cap (by omega)
   refine⟨_,_,_,hr,hgr.1,hgr.2,λg2 hg2 j x hx=>?_⟩
   simp only[Value.ownBlock,Option.some.injEq] at hg2
   subst hg2
   have h1:=hold j x hx
   exact (World.cell?_of_block (old_heap W.drew _ g (by show g<W.heap.size;exact (Array.getElem?_eq_some_iff.1 hg).1))).trans h1
theorem wp_app1 {ops:Array Oper} {rest:List Oper} {o:Oper} {a:Act} {Q:Exit→Act→World→Prop} {W:World} (hgd:o.guard=none) (s x:Operand) (ts te te':TypeId) (z u:Value) (bytes:Nat)
  (hts:prog.underlying ts=some (.slice te)) (hinf:(prog.info? te).map (λi=>(i.zero,i.size,i.bytes))=some (some z,1,bytes)) (hz1:z.cells.size=1)
  (ho:o.op=.call { callee:=.builtin .append,args:=#[s,x],argTypes:=#[ts,ts] })
  (B:Nat) (v:Value) (xs:List Value) (hs:a.eval s=v) (hown:OwnV te B W v xs) (hx:a.eval x=.slice (some ⟨W.heap.size,0,none⟩) 1 1) (h1:u.oneCell'=true)
  (N:Nat) (hN:xs.length+1=N) (hlen:N≤1000000) (hb:bytes≤64) (hB:B≤W.heap.size)
  (h:∀ p cap W',OwnV te B W' (.slice p N cap) (xs++[u])→Below B W W'→wpList prog ops Q rest (a.put o.dst (.slice p N cap)) W') :
  wpList prog ops Q (o :: rest) a (W.alloc (.cells #[u] te')):=by
 refine wpList_plain hgd λK hK=>?_
 have hal:=Gr.alloc W (.cells #[u] te')
 have hc1:(W.alloc (.cells #[u] te')).cell? ⟨W.heap.size,0,none⟩=some u:=cell_new7 W [u] te' 0 u rfl
 obtain⟨p,cap,W',hr,h2,h3,h4⟩:=run_app1 (W:=W.alloc (.cells #[u] te')) ts te o.type z u bytes hts hinf hz1 B v xs (hown.gr hal) ⟨W.heap.size,0,none⟩ 1 hc1 h1 (by omega) hb (by simp;omega)
 rw[hN] at hr h2
 unfold Oper.wp execOp
 simp only[ho,resolve,invoke,builtin,Sem.run_bind,Sem.run_pure,Result.andThen_ok,List.map_toArray,List.map_cons,List.map_nil,hs,hx,hr]
 exact hK _ _ (h p cap W' h2 (((Below.refl B W).alloc hB _).trans h3))
theorem step_app1 {w:World} {ops:Array Oper} {o:Oper} {a:Act} {K:Act→World→Prop} {Q:Exit→Act→World→Prop} {E:Prop} (hgd:o.guard=none) (s x:Operand) (ts te:TypeId) (z u:Value) (bytes:Nat)
  (hts:prog.underlying ts=some (.slice te)) (hinf:(prog.info? te).map (λi=>(i.zero,i.size,i.bytes))=some (some z,1,bytes)) (hz1:z.cells.size=1)
  (ho:o.op=.call { callee:=.builtin .append,args:=#[s,x],argTypes:=#[ts,ts] })
  (B:Nat) (v:Value) (xs:List Value) (hs:a.eval s=v) (hown:OwnV te B w v xs) (b:Nat) (hx:a.eval x=.slice (some ⟨b,0,none⟩) 1 1) (hu:w.cell? ⟨b,0,none⟩=some u) (h1:u.oneCell'=true)
  (N:Nat) (hN:xs.length+1=N) (hlen:N≤1000000) (hb:bytes≤64) (hB:B≤w.heap.size)
  (h:∀ p cap W',OwnV te B W' (.slice p N cap) (xs++[u])→Below B w W'→(∀ g,v.ownBlock=some g→∀ j x,xs[j]?=some x→W'.cell? ⟨g,j,none⟩=some x)→K (a.put o.dst (.slice p N cap)) W') :
  if Region.wanted o (yielded ops a.tmps)=true then Oper.wp prog o a w K Q else E:=by
 have hw:Region.wanted o (yielded ops a.tmps)=true:=by simp[Region.wanted,hgd]
 rw[if_pos hw]
 obtain⟨p,cap,W',hr,h2,h3,h4⟩:=run_app1 (W:=w) ts te o.type z u bytes hts hinf hz1 B v xs hown ⟨b,0,none⟩ 1 hu h1 (by omega) hb hB
 rw[hN] at hr h2
 unfold Oper.wp execOp
 simp only[ho,resolve,invoke,builtin,Sem.run_bind,Sem.run_pure,Result.andThen_ok,List.map_toArray,List.map_cons,List.map_nil,hs,hx,hr]
 exact h p cap W' h2 h3 h4
theorem OwnV.drew {t:TypeId} {B:Nat} {W:World} {v:Value} {xs:List Value} (h:OwnV t B W v xs):OwnV t B W.drew v xs:=h
theorem OwnV.alloc {t:TypeId} {B:Nat} {W:World} {v:Value} {xs:List Value} (h:OwnV t B W v xs) (o:Obj):OwnV t B (W.alloc o) v xs:=h.gr (Gr.alloc W o)
theorem cell_one (W:World) (u:Value) (t:TypeId):(W.alloc (.cells #[u] t)).cell? ⟨W.heap.size,0,none⟩=some u:=cell_new7 W [u] t 0 u rfl
def TextsAt (w:World) (t:Value) (ls:List (List UInt8)):Prop :=
 ∃ p cap,t=.slice p ls.length cap∧ls.length≤cap∧∀ i,(hi:i<ls.length)→∃ b off,p=some ⟨b,off,none⟩∧w.cell? ⟨b,off+i,none⟩=some (.string ⟨ls[i].toArray⟩)
theorem trimB_len8 (l:List UInt8):(trimB l).length≤l.length:=by
 rw[trimB_eq]
 unfold ldrop rdrop
 have h1:=(List.dropWhile_suffix (p:=isBlank) (l:=(l.reverse.dropWhile isBlank).reverse)).length_le
 have h2:=(List.dropWhile_suffix (p:=isBlank) (l:=l.reverse)).length_le
 simp only[List.length_reverse] at h1 h2 ⊢
 omega
theorem parse_len1 (l:List UInt8):(parseB l).1.length≤l.length:=by
 unfold parseB
 have h1:=cut_le1 l [58]
 split
 ·exact h1
 ·simp
theorem parse_len2 (l:List UInt8):(parseB l).2.1.length≤l.length:=by
 unfold parseB
 have h1:=cut_le2 l [58]
 split
 ·exact Nat.le_trans (trimB_len8 _) h1
 ·simp
theorem index_any (l sub:List UInt8) (w:World) (hG:G w) (hl:l.length<4294967281) :
  Calls prog 105 #[.string ⟨l.toArray⟩,.string ⟨sub.toArray⟩] w λe w'=>e=.returned (.int .i64 (Lib.index l sub))∧w'=w:=by
 obtain⟨m,hm⟩:=hG.max
 exact Tryz.strings_Index ⟨l.toArray⟩ ⟨sub.toArray⟩ m w (by rw[size_mk];exact hl) hm
theorem split_any (l:List UInt8) (w:World) (hG:G w) (hl:l.length<4294967281) :
  Calls prog 128 #[.string ⟨l.toArray⟩,.string ⟨#[13,10]⟩] w λe w'=>(∃ v,e=.returned v∧TextsAt w' v (splitE l))∧Gr w w':=by
 obtain⟨m,hm⟩:=hG.max
 refine (Tryz.strings_Split ⟨l.toArray⟩ ⟨#[13,10]⟩ m w (by rw[size_mk];exact hl) hm (by decide)).mono ?_
 rintro e w'⟨rfl,rfl⟩
 have hd:=Lib.splitB_data ⟨#[13,10]⟩ 0 (Lib.countB ⟨l.toArray⟩ ⟨#[13,10]⟩) ⟨l.toArray⟩
 have hlen:=Lib.splitB_all ⟨#[13,10]⟩ (by decide) 0 _ ⟨l.toArray⟩ rfl
 have e2:(Lib.splitB ⟨#[13,10]⟩ 0 (Lib.countB ⟨l.toArray⟩ ⟨#[13,10]⟩) ⟨l.toArray⟩).map (·.data.toList)=splitE l:=hd.trans (splitE_count l)
 obtain⟨L,hL⟩:∃ L,Lib.splitB ⟨#[13,10]⟩ 0 (Lib.countB ⟨l.toArray⟩ ⟨#[13,10]⟩) ⟨l.toArray⟩=L:=⟨_,rfl⟩
 rw[hL] at e2 hlen ⊢
 rw[←hlen]
 refine⟨⟨_,rfl,some ⟨w.heap.size,0,none⟩,L.length,by rw[←e2,List.length_map],by rw[←e2,List.length_map];exact Nat.le_refl _,λi hi=>⟨w.heap.size,0,rfl,?_⟩⟩,Gr.alloc _ _⟩
 rw[Nat.zero_add]
 have hi2:i<L.length:=by rw[←e2,List.length_map] at hi;exact hi
 refine cell_new7 w (L.map Value.string) _ i _ ?_
 have e3:(splitE l)[i]=L[i].data.toList:=by simp[←e2]
 rw[e3]
 simp[hi2]
end Go.Proofs.YtadobobfjnmdlaaGreatDoor
namespace Go.Proofs.YtadobobfjnmdlaaGreatDoor
open Go.RowKit Go.Shelf
attribute [local go_sem] Oper.semAt_some
def fcells (fs:List Fl):List Value:=fs.flatMap λf=>[.string ⟨f.1.toArray⟩,.string ⟨f.2.toArray⟩]
theorem fcells_get (fs:List Fl) (i:Nat) (hi:i<fs.length):(fcells fs)[i*2]?=some (.string ⟨fs[i].1.toArray⟩)∧(fcells fs)[i*2+1]?=some (.string ⟨fs[i].2.toArray⟩):=by
 induction fs generalizing i with
 | nil=>cases hi
 | cons f t ih =>
  cases i with
  | zero=>exact⟨rfl,rfl⟩
  | succ i =>
   have:=ih i (by simpa using hi)
   rw[show (i+1)*2=i*2+1+1 by omega]
   exact this
theorem fcells_app (fs gs:List Fl):fcells (fs++gs)=fcells fs++fcells gs:=by simp[fcells]
def OwnF (B:Nat) (w:World) (v:Value) (fs:List Fl):Prop:=w.ownsRow B 80 2 v fs.length (fcells fs)
theorem OwnF.at {B:Nat} {w:World} {v:Value} {fs:List Fl} (h:OwnF B w v fs):FieldsAt w v fs:=by
 have h':=h
 obtain⟨h1,h2⟩:=h
 rcases h2 with⟨rfl,h0⟩ | ⟨g,cap,cur,rfl,hb,hh,hn,hm,hcs,ht⟩
 ·exact⟨none,0,by rw[h0],λi hi=>by omega⟩
 ·refine⟨_,cap,rfl,λi hi=>⟨g,0,rfl,?_,?_⟩⟩
  ·rw[Nat.zero_add,World.ownsRow.cellAt h' (i*2) (by omega)];exact (fcells_get fs i hi).1
  ·rw[Nat.zero_add,World.ownsRow.cellAt h' (i*2+1) (by omega)];exact (fcells_get fs i hi).2
theorem OwnF.ch {B:Nat} {w w':World} {v:Value} {fs:List Fl} {T:Nat→Prop} (h:OwnF B w v fs) (hc:Ch T w w') (ht:∀ k,T k→k<B):OwnF B w' v fs:=by
 obtain⟨h1,h2⟩:=h
 refine⟨h1,?_⟩
 rcases h2 with h2 | ⟨g,cap,cur,rfl,hb,hh,hn,hm,hcs,ht'⟩
 ·exact .inl h2
 ·exact .inr ⟨g,cap,cur,rfl,hb,hc.get hh (λe=>by have:=ht _ e;omega),hn,hm,hcs,ht'⟩
theorem infoField:(prog.info? 80).map (λi=>(i.zero,i.size,i.bytes))=some (some (.agg #[.string ⟨#[]⟩,.string ⟨#[]⟩]),2,32):=by kernel_rfl
theorem cells_two (w:World) (x y:Value) (t:TypeId):∀ j u,[x,y][j]?=some u→(w.alloc (.cells #[x,y] t)).cell? ((⟨w.heap.size,0,none⟩:Addr).add j)=some u:=by
 intro j u hj
 match j,hj with
 | 0,hj=>simp at hj;subst hj;simp[Addr.add]
 | 1,hj=>simp at hj;subst hj;simp[Addr.add]
theorem Ch.of_grown {w w':World} {row:Option Nat} (h:w.grownBy w' row):Ch (λk=>row=some k) w w' :=
 ⟨h.os,h.tape,h.output,h.size,λk hk hn=>h.block k hk (λe=>hn e.symm)⟩
end Go.Proofs.YtadobobfjnmdlaaGreatDoor
namespace Go.Proofs.YtadobobfjnmdlaaGreatDoor
open Go.RowKit
def fcell (f:Fl):List Value:=[.string ⟨f.1.toArray⟩,.string ⟨f.2.toArray⟩]
theorem fieldsAt_new (W:World) (fs:List Fl) (t:TypeId) (cap:Nat):FieldsAt (W.alloc (.cells (rcells fcell fs).toArray t)) (.slice (some ⟨W.heap.size,0,none⟩) fs.length cap) fs:=by
 refine⟨_,cap,rfl,λi hi=>⟨W.heap.size,0,rfl,?_,?_⟩⟩
 ·rw[Nat.zero_add]
  exact cell_new7 W _ t (i*2) _ ((rcells_get (f:=fcell) (k:=2) (λ_=>rfl) fs i 0 hi (by decide)).trans rfl)
 ·rw[Nat.zero_add]
  exact cell_new7 W _ t (i*2+1) _ ((rcells_get (f:=fcell) (k:=2) (λ_=>rfl) fs i 1 hi (by decide)).trans rfl)
theorem fieldsAt_none (W:World) (cap:Nat):FieldsAt W (.slice none 0 cap) []:=⟨none,cap,rfl,λ_i hi=>absurd hi (Nat.not_lt_zero _)⟩
end Go.Proofs.YtadobobfjnmdlaaGreatDoor
namespace Go.Proofs.YtadobobfjnmdlaaGreatDoor
open Go.RowKit Go.Maps Go.ChangeMaps
def IdxYes (w:World) (e:Ending) (w':World):Prop:=∃ n:Int,0≤n∧e=.returned (.int .i64 n)∧w=w'
def IdxNo (w:World) (e:Ending) (w':World):Prop:=∃ n:Int,n<0∧e=.returned (.int .i64 n)∧w=w'
theorem idx_yes (M:List UInt8) (c:UInt8) (h:M.contains c=true) (w:World):Calls prog 218 #[.string ⟨M.toArray⟩,.int .u8 c.toNat] w (IdxYes w) :=
 (Tryz.strings_IndexByte ⟨M.toArray⟩ c.toNat w).mono λe w' ⟨he,hw⟩=>⟨_,by
  have:=indexByte_nonneg M c
  rw[h,decide_eq_true_eq] at this
  rw[toNat_u8];exact this,he,hw.symm⟩
theorem idx_no (M:List UInt8) (c:UInt8) (h:M.contains c=false) (w:World):Calls prog 218 #[.string ⟨M.toArray⟩,.int .u8 c.toNat] w (IdxNo w) :=
 (Tryz.strings_IndexByte ⟨M.toArray⟩ c.toNat w).mono λe w' ⟨he,hw⟩=>⟨_,by
  have:=indexByte_nonneg M c
  rw[h,decide_eq_false_iff_not] at this
  rw[toNat_u8]
  show Lib.indexByte M c<0
  omega,he,hw.symm⟩
def moreL (q:Bool):List UInt8:=if q then [63] else []
theorem path_more (q:Bool) (c:UInt8):(isPath c||(q&&c==63))=(isLetter c||(pmarks++moreL q).contains c):=by
 unfold isPath moreL
 cases q
 ·simp
 ·rw[if_pos rfl,List.contains_append,Bool.true_and,Bool.or_assoc]
  congr 2
  rw[Bool.eq_iff_iff];simp
theorem letter_ways {c:UInt8} (h:isLetter c=true):(97≤(c.toNat:Int)∧(c.toNat:Int)≤122)∨(65≤(c.toNat:Int)∧(c.toNat:Int)≤90)∨(48≤(c.toNat:Int)∧(c.toNat:Int)≤57):=by
 rw[letter_eq] at h;simpa using h
theorem letter_not {c:UInt8} (h:isLetter c=false):(c.toNat:Int)<48∨(57<(c.toNat:Int)∧(c.toNat:Int)<65)∨(90<(c.toNat:Int)∧(c.toNat:Int)<97)∨122<(c.toNat:Int):=by
 rw[letter_eq] at h
 simp only[decide_eq_false_iff_not] at h
 omega
theorem plain_next {q:Bool} {l:List UInt8} {k:Nat} (hk:k<l.length) (h:(isLetter l[k]||(pmarks++moreL q).contains l[k])=true):plainT q (l.drop k)=plainT q (l.drop (k+1)):=by
 rw[List.drop_eq_getElem_cons hk];exact plainT_path _ ((path_more q _).trans h)
theorem plain_bad {q:Bool} {l:List UInt8} {k:Nat} (hk:k<l.length) (h:(isLetter l[k]||(pmarks++moreL q).contains l[k])=false) (h2:l[k]≠37):plainT q (l.drop k)=false:=by
 rw[List.drop_eq_getElem_cons hk];exact plainT_bad _ ((path_more q _).trans h) h2
theorem plain_pct3 {q:Bool} {l:List UInt8} {k:Nat} (hk:k+2<l.length) (h:l[k]=37):plainT q (l.drop k)=(isHex l[k+1]&&isHex l[k+2]&&plainT q (l.drop (k+3))):=by
 rw[List.drop_eq_getElem_cons (by omega),h,plainT_pct,List.drop_eq_getElem_cons (show k+1<l.length by omega),List.drop_eq_getElem_cons (show k+1+1<l.length by omega)];rfl
theorem plain_short {q:Bool} {l:List UInt8} {k:Nat} (hk:k<l.length) (hs:l.length≤k+2) (h:l[k]=37):plainT q (l.drop k)=false:=by
 rw[List.drop_eq_getElem_cons hk,h,plainT_pct]
 have hl:(l.drop (k+1)).length≤1:=by rw[List.length_drop];omega
 match l.drop (k+1),hl with
 | [],_=>rfl
 | [a],_=>rfl
theorem plain_any (q:Bool) (l:List UInt8) (w:World) (hl:l.length≤1000000) :
  Calls prog 195 #[.string ⟨l.toArray⟩,.string ⟨(moreL q).toArray⟩] w λe w'=>e=.returned (.bool (plainT q l))∧w=w':=by
 obtain⟨m,hm⟩:∃ m,moreL q=m:=⟨_,rfl⟩
 have hml:m.length≤1:=by rw[←hm];cases q <;> decide
 obtain⟨M,hM⟩:∃ M,pmarks++m=M:=⟨_,rfl⟩
 have hcat:(⟨#[45,46,95,126,33,36,38,39,40,41,42,43,44,59,61,58,64,47]⟩:ByteArray)++⟨m.toArray⟩=⟨M.toArray⟩:=by rw[←hM];exact cat_mk pmarks m
 have hM':=hid (show pmarks++moreL q=M by rw[hm,hM])
 rw[hm]
 clear hm hM
 go_enter func195,ntmps195
 go_wp2
 go_loop [5] (λi=>∃ k:Nat,k≤l.length∧i=.int .i64 k∧plainT q (l.drop k)=plainT q l) (λi=>l.length - (intOf i).toNat)
 case atStart=>exact⟨0,Nat.zero_le _,rfl,rfl⟩
 case round =>
  obtain⟨k,hk,rfl,hT⟩:=hrel
  have hT':=hid hT
  clear hT
  have hlI:(l.length:Int)≤1000000:=by omega
  by_cases hlt:k<l.length
  ·obtain⟨c,hc⟩:∃ c,(⟨l.toArray⟩:ByteArray)[k]'(by rw[size_mk];exact hlt)=c:=⟨_,rfl⟩
   have hc2:=hid (show l[k]=c from hc)
   cases hL:isLetter c
   ·have hr:=letter_not hL
    cases hC:M.contains c
    ·have hnp:=hid (show (isLetter l[k]||(pmarks++moreL q).contains l[k])=false by rw[hc2.out,hM'.out,hL,hC];rfl)
     have hidx:=hid (λw=>idx_no M c hC w)
     clear hL hC
     by_cases h37:c=37
     ·have h37':=hid (show l[k]=37 by rw[hc2.out,h37])
      have hI1:37≤(c.toNat:Int):=by rw[h37];decide
      have hI2:(c.toNat:Int)≤37:=by rw[h37];decide
      have hI3:((c.toNat:Int)==37)=true:=by rw[h37];decide
      clear h37 hr
      by_cases hk2:k+2<l.length
      ·obtain⟨a,ha⟩:∃ c,(⟨l.toArray⟩:ByteArray)[k+1]'(by rw[size_mk];omega)=c:=⟨_,rfl⟩
       obtain⟨b,hb⟩:∃ c,(⟨l.toArray⟩:ByteArray)[k+2]'(by rw[size_mk];omega)=c:=⟨_,rfl⟩
       have ha2:=hid (show l[k+1]=a from ha)
       have hb2:=hid (show l[k+2]=b from hb)
       have hp:=hid (plain_pct3 (q:=q) hk2 h37'.out)
       cases hA:isHex a
       ·have hia:=hid (λw=>idx_no hexesL a hA w)
        have hA':=hid hA
        clear hA
        go_wp2_with fail
        refine (hidx.out _).mono ?_
        rintro e w2⟨n,hn,rfl,rfl⟩
        go_wp2_with fail
        refine (hia.out _).mono ?_
        rintro e w2⟨n2,hn2,rfl,rfl⟩
        go_wp2
        go_ret
        exact⟨ret_bool (by rw[←hT'.out,hp.out,ha2.out,hA'.out];rfl),rfl⟩
       ·have hia:=hid (λw=>idx_yes hexesL a hA w)
        have hA':=hid hA
        clear hA
        cases hB:isHex b
        ·have hib:=hid (λw=>idx_no hexesL b hB w)
         have hB':=hid hB
         clear hB
         go_wp2_with fail
         refine (hidx.out _).mono ?_
         rintro e w2⟨n,hn,rfl,rfl⟩
         go_wp2_with fail
         refine (hia.out _).mono ?_
         rintro e w2⟨n2,hn2,rfl,rfl⟩
         go_wp2_with fail
         refine (hib.out _).mono ?_
         rintro e w2⟨n3,hn3,rfl,rfl⟩
         go_wp2
         go_ret
         exact⟨ret_bool (by rw[←hT'.out,hp.out,hb2.out,hB'.out,Bool.and_false];rfl),rfl⟩
        ·have hib:=hid (λw=>idx_yes hexesL b hB w)
         have hB':=hid hB
         clear hB
         go_wp2_with fail
         refine (hidx.out _).mono ?_
         rintro e w2⟨n,hn,rfl,rfl⟩
         go_wp2_with fail
         refine (hia.out _).mono ?_
         rintro e w2⟨n2,hn2,rfl,rfl⟩
         go_wp2_with fail
         refine (hib.out _).mono ?_
         rintro e w2⟨n3,hn3,rfl,rfl⟩
         go_wp2
         go_round
         case rel=>exact⟨k+3,by omega,by go_num,by rw[←hT'.out,hp.out,ha2.out,hb2.out,hA'.out,hB'.out];rfl⟩
         case measure=>simp[intOf];omega
      ·have hp:=hid (plain_short (q:=q) hlt (by omega) h37'.out)
       have hk3:¬((k:Int)+2<l.length):=by omega
       go_wp2_with fail
       refine (hidx.out _).mono ?_
       rintro e w2⟨n,hn,rfl,rfl⟩
       go_wp2
       go_ret
       exact⟨ret_bool (by rw[←hT'.out,hp.out]),rfl⟩
     ·have hI3:((c.toNat:Int)==37)=false:=beq_eq_false_iff_ne.2 (λe=>h37 (UInt8.toNat_inj.1 (show c.toNat=37 by omega)))
      have hp:=hid (plain_bad hlt hnp.out (by rw[hc2.out];exact h37))
      clear h37
      rcases hr with h1 | ⟨h1,h2⟩ | ⟨h1,h2⟩ | h1
      all_goals
       go_wp2_with fail
       refine (hidx.out _).mono ?_
       rintro e w2⟨n,hn,rfl,rfl⟩
       go_wp2
       go_ret
       exact⟨ret_bool (by rw[←hT'.out,hp.out]),rfl⟩
    ·have hidx:=hid (λw=>idx_yes M c hC w)
     have hn:=hid (plain_next hlt (show (isLetter l[k]||(pmarks++moreL q).contains l[k])=true by rw[hc2.out,hM'.out,hC,Bool.or_true]))
     clear hL hC
     rcases hr with h1 | ⟨h1,h2⟩ | ⟨h1,h2⟩ | h1
     all_goals
      go_wp2_with fail
      refine (hidx.out _).mono ?_
      rintro e w2⟨n,hn2,rfl,rfl⟩
      go_wp2
      go_round
      case rel=>exact⟨k+1,by omega,by go_num,by rw[←hT'.out,hn.out]⟩
      case measure=>simp[intOf];omega
   ·have hr:=letter_ways hL
    have hn:=hid (plain_next (q:=q) hlt (by rw[hc2.out,hL];rfl))
    clear hL
    rcases hr with⟨h1,h2⟩ | ⟨h1,h2⟩ | ⟨h1,h2⟩
    all_goals
     go_wp2
     go_round
     case rel=>exact⟨k+1,by omega,by go_num,by rw[←hT'.out,hn.out]⟩
     case measure=>simp[intOf];omega
  ·go_wp2
   go_ret
   exact⟨ret_bool (by rw[←hT'.out,List.drop_of_length_le (by omega)];rfl),rfl⟩
theorem plain_is (q:Bool) (l:List UInt8) (b:Bool) (h:plainT q l=b) (w:World) (hl:l.length≤1000000) :
  Calls prog 195 #[.string ⟨l.toArray⟩,.string ⟨(moreL q).toArray⟩] w λe w'=>e=.returned (.bool b)∧w=w':=h▸plain_any q l w hl
def tgV (r:List UInt8×List UInt8×Bool):Value:=.tuple #[.string ⟨r.1.toArray⟩,.string ⟨r.2.1.toArray⟩,.bool r.2.2]
theorem target_eq {l p q:List UInt8} {d:Bool} (h:Lib.cut l [63]=(p,q,d)):targetB l=if decide (l.length≤512)&&((Lib.hasPrefix p [47])&&(plainT false p&&plainT true q)) then (p,q,true) else ([],[],false):=by
 unfold targetB;rw[h]
theorem prefix_is (l p:List UInt8) (b:Bool) (h:Lib.hasPrefix l p=b) (w:World):Calls prog 194 #[.string ⟨l.toArray⟩,.string ⟨p.toArray⟩] w λe w'=>e=.returned (.bool b)∧w=w' :=
 (Tryz.strings_HasPrefix ⟨l.toArray⟩ ⟨p.toArray⟩ w).mono λe w' ⟨he,hw⟩=>⟨by rw[he];exact congrArg (λb=>Ending.returned (.bool b)) h,hw.symm⟩
theorem target_any (l:List UInt8) (w:World) (hG:G w) (hl:l.length≤1000000) :
  Calls prog 161 #[.string ⟨l.toArray⟩] w λe w'=>e=.returned (tgV (targetB l))∧Gr w w':=by
 have hc1:(Lib.cut l [63]).1.length≤l.length:=cut_le1 l [63]
 have hc2:(Lib.cut l [63]).2.1.length≤l.length:=cut_le2 l [63]
 have hcut:=cut_any l [63] w hG (by omega)
 obtain⟨⟨p,q,d⟩,hc⟩:∃ c,Lib.cut l [63]=c:=⟨_,rfl⟩
 rw[hc] at hc1 hc2 hcut
 have hT:=target_eq hc
 dsimp only at hc1 hc2 hcut
 have hcut':=hid hcut
 clear hc hcut
 by_cases h5:l.length≤512
 ·have h5':¬(512<(l.length:Int)):=by omega
  cases h1:Lib.hasPrefix p [47]
  ·have hT':=hid (show targetB l=([],[],false) by rw[hT,h1];simp)
   have k1:=hid (λw=>prefix_is p [47] _ h1 w)
   clear hT h1
   go_enter func161,ntmps161
   go_wp2_with fail
   refine hcut'.out.mono ?_
   rintro e w1⟨rfl,hg⟩
   go_wp2_with fail
   refine (k1.out _).mono ?_
   rintro e w2⟨rfl,rfl⟩
   go_wp2
   go_ret3
   exact⟨by rw[hT'.out];rfl,hg⟩
  ·have k1:=hid (λw=>prefix_is p [47] _ h1 w)
   cases h2:plainT false p
   ·have hT':=hid (show targetB l=([],[],false) by rw[hT,h1,h2];simp)
    have k2:=hid (λw=>plain_is false p _ h2 w (by omega))
    clear hT h1 h2
    go_enter func161,ntmps161
    go_wp2_with fail
    refine hcut'.out.mono ?_
    rintro e w1⟨rfl,hg⟩
    go_wp2_with fail
    refine (k1.out _).mono ?_
    rintro e w2⟨rfl,rfl⟩
    go_wp2_with fail
    refine (k2.out _).mono ?_
    rintro e w2⟨rfl,rfl⟩
    go_wp2
    go_ret3
    exact⟨by rw[hT'.out];rfl,hg⟩
   ·have k2:=hid (λw=>plain_is false p _ h2 w (by omega))
    cases h3:plainT true q
    all_goals
     have k3:=hid (λw=>plain_is true q _ h3 w (by omega))
     have hT':=hid hT
     have h1':=hid h1
     have h2':=hid h2
     have h3':=hid h3
     have h6:=hid h5
     clear hT h1 h2 h3
     go_enter func161,ntmps161
     go_wp2_with fail
     refine hcut'.out.mono ?_
     rintro e w1⟨rfl,hg⟩
     go_wp2_with fail
     refine (k1.out _).mono ?_
     rintro e w2⟨rfl,rfl⟩
     go_wp2_with fail
     refine (k2.out _).mono ?_
     rintro e w2⟨rfl,rfl⟩
     go_wp2_with fail
     refine (k3.out _).mono ?_
     rintro e w2⟨rfl,rfl⟩
     go_wp2
     go_ret3
     exact⟨by rw[hT'.out,h1'.out,h2'.out,h3'.out,decide_eq_true h6.out];rfl,hg⟩
 ·have h5':512<(l.length:Int):=by omega
  have hT':=hid (show targetB l=([],[],false) by rw[hT,decide_eq_false h5];rfl)
  clear hT h5
  go_enter func161,ntmps161
  go_wp2_with fail
  refine hcut'.out.mono ?_
  rintro e w1⟨rfl,hg⟩
  go_wp2
  go_ret3
  exact⟨by rw[hT'.out];rfl,hg⟩
