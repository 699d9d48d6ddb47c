/-
  Rows of one's own memory that hold elements of several cells: plain laws.
-/
import Derived.Test.YtadobobfjnmdlaaGreatDoorP0
import Derived.Laws.OwnMore
import Derived.Deep.Onto
import Derived.Maps.AppendAt
import Derived.Test.YtadobobfjnmdlaaGreatDoorChecked
import Derived.WalkKit
import Derived.Lib.AppendStr
import Derived.Laws.IdiomStrings
import Derived.Laws.BytesArg
import Derived.Laws.AppendOwn
import Derived.Lib.ConvBytes
import Derived.Test.YtadobobfjnmdlaaGreatDoorP7
import Derived.Test.YtadobobfjnmdlaaGreatDoorGd
import Derived.Lib.Walk
import Derived.Lib.SliceRun
set_option maxHeartbeats 16000000
set_option maxRecDepth 100000
open Go.Lib (hid)
namespace Go.Proofs.YtadobobfjnmdlaaGreatDoor
open Go.RowKit
section
variable {α:Type} (f:α→List Value) (k:Nat)
def rcells (xs:List α):List Value:=xs.flatMap f
variable {f k}
theorem rcells_app (xs ys:List α):rcells f (xs++ys)=rcells f xs++rcells f ys:=by simp [rcells]
theorem rcells_one1 (x:α):rcells f [x]=f x:=by simp [rcells]
theorem rcells_get (hk:∀ x,(f x).length=k) (xs:List α) (i j:Nat) (hi:i<xs.length) (hj:j<k):(rcells f xs)[i*k+j]?=(f xs[i])[j]?:=by
 unfold rcells
 induction xs generalizing i with
 | nil=>cases hi
 | cons x t ih =>
  rw [List.flatMap_cons]
  cases i with
  | zero=>rw [Nat.zero_mul,Nat.zero_add,List.getElem?_append_left (by rw [hk];exact hj)];rfl
  | succ i =>
   rw [List.getElem?_append_right (by rw [hk,Nat.succ_mul];omega),hk,show (i+1)*k+j - k=i*k+j by rw [Nat.succ_mul];omega]
   exact ih i (by simpa using hi)
end
theorem ownsRow_ch {w w':World} {B:Nat} {e:TypeId} {size n:Nat} {v:Value} {xs:List Value} {T:Nat→Prop} (h:w.ownsRow B e size v n xs) (hc:Ch T w w') (ht:∀ k,T k→k<B):w'.ownsRow B e size v n xs:=by
 obtain ⟨h1,h2⟩:=h
 refine ⟨h1,?_⟩
 rcases h2 with h2 | ⟨g,cap,cur,rfl,hb,hh,hn,hm,hcs,ht'⟩
 ·exact .inl h2
 ·exact .inr ⟨g,cap,cur,rfl,hb,hc.get hh (fun e=>by have:=ht _ e;omega),hn,hm,hcs,ht'⟩
theorem ownsRow_gr {w w':World} {B:Nat} {e:TypeId} {size n:Nat} {v:Value} {xs:List Value} (h:w.ownsRow B e size v n xs) (hc:Gr w w'):w'.ownsRow B e size v n xs :=
 ownsRow_ch h (hc.to_ch (fun _=>False)) (fun _ h=>h.elim)
theorem ownsRow_slice {w:World} {B:Nat} {e:TypeId} {size n:Nat} {v:Value} {xs:List Value} (h:w.ownsRow B e size v n xs):∃ p cap,v=.slice p n cap:=by
 rcases h.2 with ⟨rfl,h0⟩ | ⟨g,cap,cur,rfl,_⟩
 ·exact ⟨none,0,by rw [h0]⟩
 ·exact ⟨_,cap,rfl⟩
theorem ownsRow_cell {w:World} {B:Nat} {e:TypeId} {size n:Nat} {v:Value} {xs:List Value} (h:w.ownsRow B e size v n xs) (hn:0<n):∃ g cap,v=.slice (some ⟨g,0,none⟩) n cap∧B≤g∧g<w.heap.size∧∀ j,j<n*size→w.cell? ⟨g,j,none⟩=xs[j]?:=by
 have h':=h
 rcases h.2 with ⟨_,h0⟩ | ⟨g,cap,cur,rfl,hb,hh,_⟩
 ·omega
 ·exact ⟨g,cap,rfl,hb,(Array.getElem?_eq_some_iff.1 hh).1,fun j hj=>World.ownsRow.cellAt h' j hj⟩
theorem ch_grown {w w':World} {row:Option Nat} (h:w.grownBy w' row):Ch (fun k=>row=some k) w w' :=
 ⟨h.os,h.tape,h.output,h.size,fun k hk hn=>h.block k hk (fun e=>hn e.symm)⟩
theorem cells_new (w:World) (cs:List Value) (t:TypeId):∀ j u,cs[j]?=some u→(w.alloc (.cells cs.toArray t)).cell? ((⟨w.heap.size,0,none⟩:Addr).add j)=some u:=by
 intro j u hj
 have hh:(w.alloc (.cells cs.toArray t)).heap[w.heap.size]?=some (.cells cs.toArray t (0,0)):=World.alloc_heap_new w _
 have e:(⟨w.heap.size,0,none⟩:Addr).add j=⟨w.heap.size,j,none⟩:=by
  by_cases h0:j=0 <;> simp [Addr.add,h0]
 rw [e]
 simp only [World.cell?,hh]
 simpa using hj
end Go.Proofs.YtadobobfjnmdlaaGreatDoor
namespace Go.Proofs.YtadobobfjnmdlaaGreatDoor
open Go.RowKit
attribute [local go_sem] Oper.semAt_some
theorem infoU8:(Tryz.prog.info? 5).map (fun i=>(i.zero,i.size,i.bytes))=some (some (.int .u8 0),1,1):=by kernel_rfl
def bcells (l:List UInt8):List Value:=l.map fun c=>Value.int .u8 (c.toNat:Int)
theorem bcells_len (l:List UInt8):(bcells l).length=l.length:=by simp [bcells]
theorem bcells_app (a b:List UInt8):bcells (a++b)=bcells a++bcells b:=by simp [bcells]
theorem bcells_get (l:List UInt8) (i:Nat) (h:i<l.length):(bcells l)[i]?=some (.int .u8 (l[i].toNat:Int)):=by simp [bcells,h]
theorem bcells_one (l:List UInt8):∀ u∈bcells l,u.oneCell'=true:=by
 intro u hu
 obtain ⟨c,_,rfl⟩:=List.mem_map.1 hu
 rfl
theorem strCells_eq (l:List UInt8):Lib.strCells ⟨l.toArray⟩=bcells l:=by simp [Lib.strCells,bcells]
abbrev OwnB (B:Nat) (W:World) (v:Value) (l:List UInt8):Prop:=W.ownsRow B 5 1 v l.length (bcells l)
theorem OwnB.row {B:Nat} {W:World} {v:Value} {l:List UInt8} (h:OwnB B W v l) (h0:0<l.length):∃ g cap,v=.slice (some ⟨g,0,none⟩) l.length cap∧B≤g∧g<W.heap.size∧(∀ i,(hi:i<l.length)→W.cell? ⟨g,i,none⟩=some (.int .u8 (l[i].toNat:Int)))∧l.length≤cap:=by
 rcases h.2 with ⟨_,hn⟩ | ⟨g,cap,cur,rfl,hb,hh,hn,hm,hcs,ht⟩
 ·omega
 ·refine ⟨g,cap,rfl,hb,(h.lt g rfl).2,fun i hi=>?_,hn⟩
  have:=World.ownsRow.cells h (g:=g) rfl i _ (bcells_get l i hi)
  have e:(⟨g,0,none⟩:Addr).add i=⟨g,i,none⟩:=by
   by_cases h0:i=0
   ·subst h0;rfl
   ·simp [Addr.add,h0]
  rwa [e] at this
theorem OwnB.nil (B:Nat) (W:World):OwnB B W (.slice none 0 0) []:=World.ownsRow_nil _ _ _ _
theorem conv_take {B:Nat} {W:World} {v:Value} {l:List UInt8} (h:OwnB B W v l) {g cap:Nat} (hv:v=.slice (some ⟨g,0,none⟩) l.length cap) (k cap':Nat) (hk:k≤l.length) :
  (convert 100 9 (.slice (some ⟨g,0,none⟩) k cap')).run Tryz.prog W=.ok (.string ⟨(l.take k).toArray⟩) W:=by
 have hl:(l.take k).length=k:=by rw [List.length_take];omega
 have:=run_convert_bytes_back (P:=Tryz.prog) W 100 9 5 ⟨g,0,none⟩ cap' (l.take k) Tryz.underlying100 Tryz.underlying5 Tryz.underlying9 (fun j hj=>by
  have hj':j<l.length:=by omega
  have hc:=World.ownsRow.cells h (g:=g) (by rw [hv];rfl) j _ (bcells_get l j hj')
  rw [hc];simp)
 rwa [hl] at this
theorem cell_new7 (W:World) (cs:List Value) (t:TypeId) (j:Nat) (u:Value) (h:cs[j]?=some u):(W.alloc (.cells cs.toArray t)).cell? ⟨W.heap.size,j,none⟩=some u:=by
 have:=cells_new W cs t j u h
 have e:(⟨W.heap.size,0,none⟩:Addr).add j=⟨W.heap.size,j,none⟩:=by
  by_cases h0:j=0 <;> simp [Addr.add,h0]
 rwa [e] at this
theorem conv_all {B:Nat} {W:World} {v:Value} {l:List UInt8} (h:OwnB B W v l):(convert 100 9 v).run Tryz.prog W=.ok (.string ⟨l.toArray⟩) W:=by
 have h':=h
 rcases h.2 with ⟨rfl,hn⟩ | ⟨g,cap,cur,rfl,_⟩
 ·have hl:l=[]:=by
   have:=h.1;cases l with
   | nil=>rfl
   | cons a t=>simp_all
  subst hl
  exact run_convert_bytes_nil (P:=Tryz.prog) W 100 5 Tryz.underlying100 Tryz.underlying5 0 0 _ Tryz.underlying9
 ·have:=conv_take h' rfl l.length cap (Nat.le_refl _)
  rwa [List.take_length] at this
theorem own_snoc {B:Nat} {W:World} {v:Value} {l:List UInt8} {d:UInt8} (h:W.ownsRow B 5 1 v (l.length+1) (bcells l++[.int .u8 d.toNat])):OwnB B W v (l++[d]):=by
 unfold OwnB;rw [List.length_append,bcells_app];exact h
theorem cell_one_new' (w:World) (x:Value) (t:TypeId) {n:Nat} (hn:n=w.heap.size):∀ j u,[x][j]?=some u→(w.alloc (.cells #[x] t)).cell? ((⟨n,0,none⟩:Addr).add j)=some u:=hn▸cell_one_new w x t
theorem off_ne {b o i:Nat} (h:o≠i):(⟨b,i,none⟩:Addr)≠⟨b,o,none⟩:=fun e=>by injection e with _ e2 _;exact h e2.symm
theorem cell_off {W:World} {b o i:Nat} {u v:Value} (h:W.cell? ⟨b,o,none⟩=some u) (hn:o≠i):(W.setCell ⟨b,i,none⟩ v).cell? ⟨b,o,none⟩=some u :=
 (World.cell?_setCell_other _ _ _ _ (off_ne hn)).trans h
theorem OwnB.slice {B:Nat} {W:World} {v:Value} {l:List UInt8} (h:OwnB B W v l):∃ p cap,v=.slice p l.length cap:=by
 rcases h.2 with ⟨rfl,hn⟩ | ⟨g,cap,cur,rfl,_⟩
 ·exact ⟨none,0,by rw [hn]⟩
 ·exact ⟨_,cap,rfl⟩
theorem old_heap (w:World) (o:Obj) (i:Nat) (h:i<w.heap.size):(w.alloc o).heap[i]?=w.heap[i]?:=by
 show (w.heap.push o)[i]?=w.heap[i]?
 rw [Array.getElem?_push,if_neg (Nat.ne_of_lt h)]
def OwnV (t:TypeId) (B:Nat) (W:World) (v:Value) (xs:List Value):Prop :=
 (v=.slice none 0 0∧xs=[]) ∨
 ∃ g cap cur fz,v=.slice (some ⟨g,0,none⟩) xs.length cap∧B≤g∧W.heap[g]?=some (.cells cur t fz)∧(cur.size≤fz.1∨fz.2=0)∧xs.length≤cap∧cap≤maxLen∧cur.size=cap∧cur.toList.take xs.length=xs
theorem OwnV.nil (t:TypeId) (B:Nat) (W:World):OwnV t B W (.slice none 0 0) []:=.inl ⟨rfl,rfl⟩
theorem OwnV.slice {t:TypeId} {B:Nat} {W:World} {v:Value} {xs:List Value} (h:OwnV t B W v xs):∃ p cap,v=.slice p xs.length cap:=by
 rcases h with ⟨rfl,rfl⟩ | ⟨g,cap,cur,fz,rfl,_⟩
 ·exact ⟨none,0,rfl⟩
 ·exact ⟨_,cap,rfl⟩
theorem OwnV.cells {t:TypeId} {B:Nat} {W:World} {p:Addr} {n cap:Nat} {xs:List Value} (h:OwnV t B W (.slice (some p) n cap) xs):p.off=0∧∀ i u,xs[i]?=some u→W.cell? ⟨p.block,i,none⟩=some u:=by
 rcases h with ⟨e,_⟩ | ⟨g,cap,cur,fz,e,hb,hh,_,hn,_,hcs,ht⟩
 ·cases e
 ·injection e with e1 _ _
  injection e1 with e1
  subst e1
  refine ⟨rfl,fun i u hu=>?_⟩
  rw [cell_of_row W g i cur t fz hh]
  rw [←ht,List.getElem?_take] at hu
  split at hu
  ·simpa using hu
  ·cases hu
theorem OwnV.row {t:TypeId} {B:Nat} {W:World} {v:Value} {xs:List Value} (h:OwnV t B W v xs) (h0:0<xs.length) :
  ∃ g cap,v=.slice (some ⟨g,0,none⟩) xs.length cap∧B≤g∧g<W.heap.size∧(∀ i u,xs[i]?=some u→W.cell? ⟨g,i,none⟩=some u)∧xs.length≤cap:=by
 have h':=h
 rcases h with ⟨_,e⟩ | ⟨g,cap,cur,fz,rfl,hb,hh,hz,hn,hm,hcs,ht⟩
 ·rw [e] at h0;cases h0
 ·exact ⟨g,cap,rfl,hb,(Array.getElem?_eq_some_iff.1 hh).1,h'.cells.2,hn⟩
theorem OwnV.ch {t:TypeId} {B:Nat} {T:Nat→Prop} {W W':World} {v:Value} {xs:List Value} (h:OwnV t B W v xs) (hc:Ch T W W') (hT:∀ k,v.ownBlock=some k→¬T k):OwnV t B W' v xs:=by
 rcases h with h2 | ⟨g,cap,cur,fz,rfl,hb,hh,rest⟩
 ·exact .inl h2
 ·exact .inr ⟨g,cap,cur,fz,rfl,hb,hc.get hh (hT g rfl),rest⟩
theorem OwnV.gr {t:TypeId} {B:Nat} {W W':World} {v:Value} {xs:List Value} (h:OwnV t B W v xs) (hb:Gr W W'):OwnV t B W' v xs:=h.ch (hb.to_ch (fun _=>False)) (fun _ _ h=>h.elim)
theorem store_marked (P:Program) (g o:Nat) (t:TypeId) (fz:Nat×Nat) (u:Value) (cur:Array Value) (w:World) (hg:w.heap[g]?=some (.cells cur t fz)) (ho:o<cur.size) (hz:cur.size≤fz.1∨fz.2=0) (h1:u.oneCell'=true) :
  (storeCells ⟨g,o,none⟩ [u] 0).run P w=.ok () (w.setRow g (cur.setIfInBounds o u)):=by
 have hadd:(⟨g,o,none⟩:Addr).add 0=⟨g,o,none⟩:=by simp [Addr.add]
 have hcell:w.cell? ⟨g,o,none⟩=some cur[o]:=by simp [World.cell?,hg,ho]
 have hfro:w.frozen? ⟨g,o,none⟩=false:=by
  obtain ⟨lo,hi'⟩:=fz
  simp only [World.frozen?,hg,Bool.and_eq_false_iff,decide_eq_false_iff_not]
  simp only at hz
  omega
 have hst:(store ((⟨g,o,none⟩:Addr).add 0) u).run P w=.ok () (w.setRow g (cur.setIfInBounds o u)):=by
  rw [hadd,run_store P w _ u _ h1,hcell]
  simp [hfro,setCell_eq_setRow w g o cur t fz u hg]
 simp only [storeCells,Sem.run_bind,hst,Result.andThen_ok]
 rfl
theorem run_app1 {W:World} (ts te ty:TypeId) (z u:Value) (bytes:Nat)
  (hts:Tryz.prog.underlying ts=some (.slice te)) (hinf:(Tryz.prog.info? te).map (fun i=>(i.zero,i.size,i.bytes))=some (some z,1,bytes)) (hz1:z.cells.size=1)
  (B:Nat) (v:Value) (xs:List Value) (hown:OwnV te B W v xs) (ad:Addr) (c:Nat) (hu:W.cell? ad=some u) (h1:u.oneCell'=true)
  (hlen:xs.length+1≤1000000) (hb:bytes≤64) (hB:B≤W.heap.size) :
  ∃ p cap W',(Builtin.append_ #[ts,ts] ty #[v,.slice (some ad) 1 c]).run Tryz.prog W=.ok (.slice p (xs.length+1) cap) W'∧OwnV te B W' (.slice p (xs.length+1) cap) (xs++[u])∧Below B W W'∧(∀ g,v.ownBlock=some g→∀ j x,xs[j]?=some x→W'.cell? ⟨g,j,none⟩=some x):=by
 obtain ⟨i,hi,hz0,hzs,hz2⟩:=info_parts hinf
 have hnews:∀ j x,[u][j]?=some x→W.cell? (ad.add j)=some x:=by
  intro j x hj
  match j,hj with
  | 0,hj =>
   simp at hj;subst hj
   have:ad.add 0=ad:=by simp [Addr.add]
   rw [this];exact hu
  | n+1,hj=>simp at hj
 have h40:(xs.length+1)*bytes≤64000000:=by
  have:(xs.length+1)*bytes≤1000000*64:=Nat.mul_le_mul hlen hb
  omega
 have grown:∀ (old:Nat),old<xs.length+1 →
   OwnV te B (W.drew.alloc (.cells (xs.toArray++#[u]++Builtin.zeroCells z.cells (grownCap W (xs.length+1) old te - (xs.length+1))) te)) (.slice (some ⟨W.heap.size,0,none⟩) (xs.length+1) (grownCap W (xs.length+1) old te)) (xs++[u]) ∧
   Below B W (W.drew.alloc (.cells (xs.toArray++#[u]++Builtin.zeroCells z.cells (grownCap W (xs.length+1) old te - (xs.length+1))) te)):=by
  intro old ho
  have hge:=grownCap_ge W (xs.length+1) old te
  have hcm:grownCap W (xs.length+1) old te≤maxLen:=grownCap_le_maxLen W (xs.length+1) old te (by unfold maxLen;omega)
  refine ⟨.inr ⟨W.heap.size,_,_,(0,0),by rw [List.length_append,List.length_singleton],hB,heap_alloc_new W.drew _,.inr rfl,by rw [List.length_append,List.length_singleton];exact hge,hcm,?_,?_⟩,⟨rfl,rfl,rfl,by simp,fun k hk=>old_heap W.drew _ k (by show k<W.heap.size;omega)⟩⟩
  ·simp only [Array.size_append,List.size_toArray,size_zeroCells,hz1,List.length_cons,List.length_nil]
   omega
  ·simp only [Array.toList_append,List.append_assoc]
   rw [←List.append_assoc]
   exact List.take_left' (by simp)
 rcases hown with ⟨rfl,rfl⟩ | ⟨g,cap,cur,fz,rfl,hbg,hg,hfz,hnc,hcm,hcs,htake⟩
 ·have hr:=run_append_nil (P:=Tryz.prog) W ts ty te i z hts hi hz0 ad 1 c [u] (by rw [hzs];rfl) hnews (by decide) (by decide) (by rw [hz2];omega)
  have hgr:=grown 0 (by decide)
  simp only [List.length_nil,Nat.zero_add,List.nil_append,Array.empty_append] at hgr ⊢
  exact ⟨_,_,_,hr,hgr.1,hgr.2,fun g hg=>by simp [Value.ownBlock] at hg⟩
 ·have hold:=(OwnV.cells (B:=B) (t:=te) (.inr ⟨g,cap,cur,fz,rfl,hbg,hg,hfz,hnc,hcm,hcs,htake⟩)).2
  by_cases hroom:xs.length+1≤cap
  ·have hst:=store_marked Tryz.prog g xs.length te fz u cur W hg (by omega) hfz h1
   have hf:=run_firstCells_some (P:=Tryz.prog) W i.size 1 ad 1 c [u] (by rw [hzs];rfl) hnews
   rw [hzs] at hf
   refine ⟨some ⟨g,0,none⟩,cap,W.setRow g (cur.setIfInBounds xs.length u),?_,.inr ⟨g,cap,_,fz,by rw [List.length_append,List.length_singleton],hbg,setRow_heap W g cur _ te _ hg,by simpa using hfz,by rw [List.length_append,List.length_singleton];exact hroom,hcm,by simpa using hcs,?_⟩,⟨rfl,rfl,rfl,by simp,fun k hk=>setRow_other W g k _ (fun e=>by omega)⟩,fun g2 hg2 j x hx=>?_⟩
   ·simp [Builtin.append_,run_underlying hts,sizeOf,typeInfo,hi,hzs,Builtin.lenOf,hroom,hf,Addr.add_lit,hst]
   ·rw [List.length_append,List.length_singleton,Array.toList_setIfInBounds,List.take_add_one,List.take_set_of_le (Nat.le_refl _),htake]
    have hlt:xs.length<cur.toList.length:=by simp;omega
    rw [List.getElem?_set_self hlt];rfl
   ·simp only [Value.ownBlock,Option.some.injEq] at hg2
    subst hg2
    have hjl:j<xs.length:=(List.getElem?_eq_some_iff.1 hx).1
    rw [cell_of_row _ g j _ te fz (setRow_heap W g cur _ te _ hg)]
    have h1:=hold j x hx
    rw [cell_of_row W g j cur te fz hg] at h1
    rw [Array.getElem?_setIfInBounds_ne (by omega)];exact h1
  ·have holds:∀ j x,xs[j]?=some x→W.cell? ((⟨g,0,none⟩:Addr).add j)=some x:=fun j x hx=>by
    have e:(⟨g,0,none⟩:Addr).add j=⟨g,j,none⟩:=by
     by_cases h0:j=0 <;> simp [Addr.add,h0]
    rw [e]
    exact (OwnV.cells (B:=B) (t:=te) (.inr ⟨g,cap,cur,fz,rfl,hbg,hg,hfz,hnc,hcm,hcs,htake⟩)).2 j x hx
   have hr:=run_append_grow (P:=Tryz.prog) W ts ty te i z hts hi hz0 ⟨g,0,none⟩ xs.length cap xs (by rw [hzs];omega) holds ad 1 c [u] (by rw [hzs];rfl) hnews (by omega) (by omega) (growslice_fits (by omega) (by rw [hz2];omega))
   have hgr:=grown cap (by omega)
   refine ⟨_,_,_,hr,hgr.1,hgr.2,fun g2 hg2 j x hx=>?_⟩
   simp only [Value.ownBlock,Option.some.injEq] at hg2
   subst hg2
   have h1:=hold j x hx
   exact (World.cell?_of_block (old_heap W.drew _ g (by show g<W.heap.size;exact (Array.getElem?_eq_some_iff.1 hg).1))).trans h1
theorem wp_app1 {ops:Array Oper} {rest:List Oper} {o:Oper} {a:Act} {Q:Exit→Act→World→Prop} {W:World} (hgd:o.guard=none) (s x:Operand) (ts te te':TypeId) (z u:Value) (bytes:Nat)
  (hts:Tryz.prog.underlying ts=some (.slice te)) (hinf:(Tryz.prog.info? te).map (fun i=>(i.zero,i.size,i.bytes))=some (some z,1,bytes)) (hz1:z.cells.size=1)
  (ho:o.op=.call { callee:=.builtin .append,args:=#[s,x],argTypes:=#[ts,ts] })
  (B:Nat) (v:Value) (xs:List Value) (hs:a.eval s=v) (hown:OwnV te B W v xs) (hx:a.eval x=.slice (some ⟨W.heap.size,0,none⟩) 1 1) (h1:u.oneCell'=true)
  (N:Nat) (hN:xs.length+1=N) (hlen:N≤1000000) (hb:bytes≤64) (hB:B≤W.heap.size)
  (h:∀ p cap W',OwnV te B W' (.slice p N cap) (xs++[u])→Below B W W'→wpList Tryz.prog ops Q rest (a.put o.dst (.slice p N cap)) W') :
  wpList Tryz.prog ops Q (o :: rest) a (W.alloc (.cells #[u] te')):=by
 refine wpList_plain hgd fun K hK=>?_
 have hal:=Gr.alloc W (.cells #[u] te')
 have hc1:(W.alloc (.cells #[u] te')).cell? ⟨W.heap.size,0,none⟩=some u:=cell_new7 W [u] te' 0 u rfl
 obtain ⟨p,cap,W',hr,h2,h3,h4⟩:=run_app1 (W:=W.alloc (.cells #[u] te')) ts te o.type z u bytes hts hinf hz1 B v xs (hown.gr hal) ⟨W.heap.size,0,none⟩ 1 hc1 h1 (by omega) hb (by simp;omega)
 rw [hN] at hr h2
 unfold Oper.wp execOp
 simp only [ho,resolve,invoke,builtin,Sem.run_bind,Sem.run_pure,Result.andThen_ok,List.map_toArray,List.map_cons,List.map_nil,hs,hx,hr]
 exact hK _ _ (h p cap W' h2 (((Below.refl B W).alloc hB _).trans h3))
theorem step_app1 {w:World} {ops:Array Oper} {o:Oper} {a:Act} {K:Act→World→Prop} {Q:Exit→Act→World→Prop} {E:Prop} (hgd:o.guard=none) (s x:Operand) (ts te:TypeId) (z u:Value) (bytes:Nat)
  (hts:Tryz.prog.underlying ts=some (.slice te)) (hinf:(Tryz.prog.info? te).map (fun i=>(i.zero,i.size,i.bytes))=some (some z,1,bytes)) (hz1:z.cells.size=1)
  (ho:o.op=.call { callee:=.builtin .append,args:=#[s,x],argTypes:=#[ts,ts] })
  (B:Nat) (v:Value) (xs:List Value) (hs:a.eval s=v) (hown:OwnV te B w v xs) (b:Nat) (hx:a.eval x=.slice (some ⟨b,0,none⟩) 1 1) (hu:w.cell? ⟨b,0,none⟩=some u) (h1:u.oneCell'=true)
  (N:Nat) (hN:xs.length+1=N) (hlen:N≤1000000) (hb:bytes≤64) (hB:B≤w.heap.size)
  (h:∀ p cap W',OwnV te B W' (.slice p N cap) (xs++[u])→Below B w W'→(∀ g,v.ownBlock=some g→∀ j x,xs[j]?=some x→W'.cell? ⟨g,j,none⟩=some x)→K (a.put o.dst (.slice p N cap)) W') :
  if Region.wanted o (yielded ops a.tmps)=true then Oper.wp Tryz.prog o a w K Q else E:=by
 have hw:Region.wanted o (yielded ops a.tmps)=true:=by simp [Region.wanted,hgd]
 rw [if_pos hw]
 obtain ⟨p,cap,W',hr,h2,h3,h4⟩:=run_app1 (W:=w) ts te o.type z u bytes hts hinf hz1 B v xs hown ⟨b,0,none⟩ 1 hu h1 (by omega) hb hB
 rw [hN] at hr h2
 unfold Oper.wp execOp
 simp only [ho,resolve,invoke,builtin,Sem.run_bind,Sem.run_pure,Result.andThen_ok,List.map_toArray,List.map_cons,List.map_nil,hs,hx,hr]
 exact h p cap W' h2 h3 h4
theorem OwnV.drew {t:TypeId} {B:Nat} {W:World} {v:Value} {xs:List Value} (h:OwnV t B W v xs):OwnV t B W.drew v xs:=h
theorem OwnV.alloc {t:TypeId} {B:Nat} {W:World} {v:Value} {xs:List Value} (h:OwnV t B W v xs) (o:Obj):OwnV t B (W.alloc o) v xs:=h.gr (Gr.alloc W o)
theorem cell_one (W:World) (u:Value) (t:TypeId):(W.alloc (.cells #[u] t)).cell? ⟨W.heap.size,0,none⟩=some u:=cell_new7 W [u] t 0 u rfl
def TextsAt (w:World) (t:Value) (ls:List (List UInt8)):Prop :=
 ∃ p cap,t=.slice p ls.length cap∧ls.length≤cap∧∀ i,(hi:i<ls.length)→∃ b off,p=some ⟨b,off,none⟩∧w.cell? ⟨b,off+i,none⟩=some (.string ⟨ls[i].toArray⟩)
theorem trimB_len8 (l:List UInt8):(trimB l).length≤l.length:=by
 rw [trimB_eq]
 unfold ldrop rdrop
 have h1:=(List.dropWhile_suffix (p:=isBlank) (l:=(l.reverse.dropWhile isBlank).reverse)).length_le
 have h2:=(List.dropWhile_suffix (p:=isBlank) (l:=l.reverse)).length_le
 simp only [List.length_reverse] at h1 h2 ⊢
 omega
theorem parse_len1 (l:List UInt8):(parseB l).1.length≤l.length:=by
 unfold parseB
 have h1:=cut_le1 l [58]
 split
 ·exact h1
 ·simp
theorem parse_len2 (l:List UInt8):(parseB l).2.1.length≤l.length:=by
 unfold parseB
 have h1:=cut_le2 l [58]
 split
 ·exact Nat.le_trans (trimB_len8 _) h1
 ·simp
theorem index_any (l sub:List UInt8) (w:World) (hG:G w) (hl:l.length<4294967281) :
  Calls Tryz.prog 105 #[.string ⟨l.toArray⟩,.string ⟨sub.toArray⟩] w fun e w'=>e=.returned (.int .i64 (Lib.index l sub))∧w'=w:=by
 obtain ⟨m,hm⟩:=hG.max
 exact Tryz.strings_Index ⟨l.toArray⟩ ⟨sub.toArray⟩ m w (by rw [size_mk];exact hl) hm
theorem split_any (l:List UInt8) (w:World) (hG:G w) (hl:l.length<4294967281) :
  Calls Tryz.prog 128 #[.string ⟨l.toArray⟩,.string ⟨#[13,10]⟩] w fun e w'=>(∃ v,e=.returned v∧TextsAt w' v (splitE l))∧Gr w w':=by
 obtain ⟨m,hm⟩:=hG.max
 refine (Tryz.strings_Split ⟨l.toArray⟩ ⟨#[13,10]⟩ m w (by rw [size_mk];exact hl) hm (by decide)).mono ?_
 rintro e w' ⟨rfl,rfl⟩
 have hd:=Lib.splitB_data ⟨#[13,10]⟩ 0 (Lib.countB ⟨l.toArray⟩ ⟨#[13,10]⟩) ⟨l.toArray⟩
 have hlen:=Lib.splitB_all ⟨#[13,10]⟩ (by decide) 0 _ ⟨l.toArray⟩ rfl
 have e2:(Lib.splitB ⟨#[13,10]⟩ 0 (Lib.countB ⟨l.toArray⟩ ⟨#[13,10]⟩) ⟨l.toArray⟩).map (·.data.toList)=splitE l:=hd.trans (splitE_count l)
 obtain ⟨L,hL⟩:∃ L,Lib.splitB ⟨#[13,10]⟩ 0 (Lib.countB ⟨l.toArray⟩ ⟨#[13,10]⟩) ⟨l.toArray⟩=L:=⟨_,rfl⟩
 rw [hL] at e2 hlen ⊢
 rw [←hlen]
 refine ⟨⟨_,rfl,some ⟨w.heap.size,0,none⟩,L.length,by rw [←e2,List.length_map],by rw [←e2,List.length_map];exact Nat.le_refl _,fun i hi=>⟨w.heap.size,0,rfl,?_⟩⟩,Gr.alloc _ _⟩
 rw [Nat.zero_add]
 have hi2:i<L.length:=by rw [←e2,List.length_map] at hi;exact hi
 refine cell_new7 w (L.map Value.string) _ i _ ?_
 have e3:(splitE l)[i]=L[i].data.toList:=by simp [←e2]
 rw [e3]
 simp [hi2]
end Go.Proofs.YtadobobfjnmdlaaGreatDoor
namespace Go.Proofs.YtadobobfjnmdlaaGreatDoor
open Go.RowKit Go.Shelf
attribute [local go_sem] Oper.semAt_some
def fcells (fs:List Fl):List Value:=fs.flatMap fun f=>[.string ⟨f.1.toArray⟩,.string ⟨f.2.toArray⟩]
theorem fcells_get (fs:List Fl) (i:Nat) (hi:i<fs.length):(fcells fs)[i*2]?=some (.string ⟨fs[i].1.toArray⟩)∧(fcells fs)[i*2+1]?=some (.string ⟨fs[i].2.toArray⟩):=by
 induction fs generalizing i with
 | nil=>cases hi
 | cons f t ih =>
  cases i with
  | zero=>exact ⟨rfl,rfl⟩
  | succ i =>
   have:=ih i (by simpa using hi)
   rw [show (i+1)*2=i*2+1+1 by omega]
   exact this
theorem fcells_app (fs gs:List Fl):fcells (fs++gs)=fcells fs++fcells gs:=by simp [fcells]
def OwnF (B:Nat) (w:World) (v:Value) (fs:List Fl):Prop:=w.ownsRow B 80 2 v fs.length (fcells fs)
theorem OwnF.at {B:Nat} {w:World} {v:Value} {fs:List Fl} (h:OwnF B w v fs):FieldsAt w v fs:=by
 have h':=h
 obtain ⟨h1,h2⟩:=h
 rcases h2 with ⟨rfl,h0⟩ | ⟨g,cap,cur,rfl,hb,hh,hn,hm,hcs,ht⟩
 ·exact ⟨none,0,by rw [h0],fun i hi=>by omega⟩
 ·refine ⟨_,cap,rfl,fun i hi=>⟨g,0,rfl,?_,?_⟩⟩
  ·rw [Nat.zero_add,World.ownsRow.cellAt h' (i*2) (by omega)];exact (fcells_get fs i hi).1
  ·rw [Nat.zero_add,World.ownsRow.cellAt h' (i*2+1) (by omega)];exact (fcells_get fs i hi).2
theorem OwnF.ch {B:Nat} {w w':World} {v:Value} {fs:List Fl} {T:Nat→Prop} (h:OwnF B w v fs) (hc:Ch T w w') (ht:∀ k,T k→k<B):OwnF B w' v fs:=by
 obtain ⟨h1,h2⟩:=h
 refine ⟨h1,?_⟩
 rcases h2 with h2 | ⟨g,cap,cur,rfl,hb,hh,hn,hm,hcs,ht'⟩
 ·exact .inl h2
 ·exact .inr ⟨g,cap,cur,rfl,hb,hc.get hh (fun e=>by have:=ht _ e;omega),hn,hm,hcs,ht'⟩
theorem infoField:(Tryz.prog.info? 80).map (fun i=>(i.zero,i.size,i.bytes))=some (some (.agg #[.string ⟨#[]⟩,.string ⟨#[]⟩]),2,32):=by kernel_rfl
theorem cells_two (w:World) (x y:Value) (t:TypeId):∀ j u,[x,y][j]?=some u→(w.alloc (.cells #[x,y] t)).cell? ((⟨w.heap.size,0,none⟩:Addr).add j)=some u:=by
 intro j u hj
 match j,hj with
 | 0,hj=>simp at hj;subst hj;simp [Addr.add]
 | 1,hj=>simp at hj;subst hj;simp [Addr.add]
theorem Ch.of_grown {w w':World} {row:Option Nat} (h:w.grownBy w' row):Ch (fun k=>row=some k) w w' :=
 ⟨h.os,h.tape,h.output,h.size,fun k hk hn=>h.block k hk (fun e=>hn e.symm)⟩
end Go.Proofs.YtadobobfjnmdlaaGreatDoor
namespace Go.Proofs.YtadobobfjnmdlaaGreatDoor
open Go.RowKit
def fcell (f:Fl):List Value:=[.string ⟨f.1.toArray⟩,.string ⟨f.2.toArray⟩]
theorem fieldsAt_new (W:World) (fs:List Fl) (t:TypeId) (cap:Nat):FieldsAt (W.alloc (.cells (rcells fcell fs).toArray t)) (.slice (some ⟨W.heap.size,0,none⟩) fs.length cap) fs:=by
 refine ⟨_,cap,rfl,fun i hi=>⟨W.heap.size,0,rfl,?_,?_⟩⟩
 ·rw [Nat.zero_add]
  exact cell_new7 W _ t (i*2) _ ((rcells_get (f:=fcell) (k:=2) (fun _=>rfl) fs i 0 hi (by decide)).trans rfl)
 ·rw [Nat.zero_add]
  exact cell_new7 W _ t (i*2+1) _ ((rcells_get (f:=fcell) (k:=2) (fun _=>rfl) fs i 1 hi (by decide)).trans rfl)
theorem fieldsAt_none (W:World) (cap:Nat):FieldsAt W (.slice none 0 cap) []:=⟨none,cap,rfl,fun _i hi=>absurd hi (Nat.not_lt_zero _)⟩
end Go.Proofs.YtadobobfjnmdlaaGreatDoor
