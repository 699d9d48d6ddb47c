/-
  Rows of bytes of one's own: laws and conversions.
-/
import Derived.Test.YtadobobfjnmdlaaGreatDoorChecked
import Derived.Test.YtadobobfjnmdlaaGreatDoorP5
import Derived.Lib.AppendStr
import Derived.Laws.IdiomStrings
import Derived.Laws.BytesArg
import Derived.Laws.AppendOwn
import Derived.Lib.ConvBytes
import Derived.Lib.Walk
import Derived.Lib.SliceRun
import Derived.Maps.Own
import Derived.Maps.OwnOps
import Derived.Maps.Views
set_option linter.unnecessarySimpa false
set_option linter.unusedVariables false
set_option linter.unusedSimpArgs false
set_option maxHeartbeats 16000000
set_option maxRecDepth 100000
open Go.Proofs.Tryz
namespace Go.Proofs.YtadobobfjnmdlaaGreatDoor
open Go.RowKit
attribute [local go_sem] Oper.semAt_some
theorem bL:(prog.info? 5).map (λi=>(i.zero,i.size,i.bytes))=some (some (.int .u8 0),1,1):=by kernel_rfl
def am (l:List UInt8):List Value:=l.map λc=>Value.int .u8 (c.toNat:Int)
theorem bq (l:List UInt8):(am l).length=l.length:=by simp[am]
theorem gK (a b:List UInt8):am (a++b)=am a++am b:=by simp[am]
theorem fD (l:List UInt8)(i:Nat)(h:i<l.length):(am l)[i]?=some (.int .u8 (l[i].toNat:Int)):=by simp[am,h]
theorem gL (l:List UInt8):∀u∈am l,u.oneCell'=true:=by
 intro u a;obtain⟨c,_,rfl⟩:=List.mem_map.1 a;rfl
theorem lT (l:List UInt8):Lib.strCells ⟨l.toArray⟩=am l:=by simp[Lib.strCells,am]
abbrev OwnB (B:Nat)(W:World)(v:Value)(l:List UInt8):Prop:=W.ownsRow B 5 1 v l.length (am l)
theorem OwnB.row {B:Nat}{W:World}{v:Value}{l:List UInt8}(h:OwnB B W v l)(h0:0<l.length):∃g cap,v=.slice (some ⟨g,0,none⟩) l.length cap∧B≤g∧g<W.heap.size∧(∀i,(hi:i<l.length)→W.cell? ⟨g,i,none⟩=some (.int .u8 (l[i].toNat:Int)))∧l.length≤cap:=by
 rcases h.2 with⟨_,hn⟩ | ⟨g,cap,a,rfl,b,d,hn,hm,c,f⟩
 ·omega
 ·refine⟨g,cap,rfl,b,(h.lt g rfl).2,λi hi=>?_,hn⟩;have:=World.ownsRow.cells h (g:=g) rfl i _ (fD l i hi);have e:(⟨g,0,none⟩:Addr).add i=⟨g,i,none⟩:=by
   by_cases h0:i=0
   ·subst h0;rfl
   ·simp[Addr.add,h0]
  rwa [e]at this
theorem OwnB.nil (B:Nat)(W:World):OwnB B W (.slice none 0 0) []:=World.ownsRow_nil _ _ _ _
theorem lp {B:Nat}{W:World}{v:Value}{l:List UInt8}(h:OwnB B W v l){g cap:Nat}(d:v=.slice (some ⟨g,0,none⟩) l.length cap)(k a:Nat)(f:k≤l.length) :
  (convert 100 9 (.slice (some ⟨g,0,none⟩) k a)).run prog W=.ok (.string ⟨(l.take k).toArray⟩) W:=by
 have hl:(l.take k).length=k:=by rw[List.length_take];omega
 have:=run_convert_bytes_back (P:=prog) W 100 9 5 ⟨g,0,none⟩ a (l.take k) underlying100 underlying5 underlying9 (λj e=>by
  have b:j<l.length:=by omega
  have c:=World.ownsRow.cells h (g:=g) (by rw[d];rfl) j _ (fD l j b);rw[c];simp)
 rwa [hl]at this
theorem aa (W:World)(cs:List Value)(t:TypeId)(j:Nat)(u:Value)(h:cs[j]?=some u):(W.alloc (.cells cs.toArray t)).cell? ⟨W.heap.size,j,none⟩=some u:=by
 have:=lD W cs t j u h;have e:(⟨W.heap.size,0,none⟩:Addr).add j=⟨W.heap.size,j,none⟩:=by
  by_cases h0:j=0 <;> simp[Addr.add,h0]
 rwa [e]at this
theorem fE {B:Nat}{W:World}{v:Value}{l:List UInt8}(h:OwnB B W v l):(convert 100 9 v).run prog W=.ok (.string ⟨l.toArray⟩) W:=by
 have c:=h;rcases h.2 with⟨rfl,hn⟩ | ⟨g,cap,b,rfl,_⟩
 ·have hl:l=[]:=by
   have:=h.1;cases l with
   | nil=>rfl
   | cons a t=>simp_all
  subst hl;exact run_convert_bytes_nil (P:=prog) W 100 5 underlying100 underlying5 0 0 _ underlying9
 ·have:=lp c rfl l.length cap (qv _)
  rwa [List.take_length]at this
theorem gq {B:Nat}{W:World}{v:Value}{l:List UInt8}{d:UInt8}(h:W.ownsRow B 5 1 v (l.length+1) (am l++[.int .u8 d.toNat])):OwnB B W v (l++[d]):=by
 unfold OwnB;rw[qw,gK];exact h
theorem eF (w:World)(x:Value)(t:TypeId){n:Nat}(hn:n=w.heap.size):∀j u,[x][j]?=some u→(w.alloc (.cells #[x] t)).cell? ((⟨n,0,none⟩:Addr).add j)=some u:=hn▸cell_one_new w x t
theorem vy {b o i:Nat}(h:o≠i):(⟨b,i,none⟩:Addr)≠⟨b,o,none⟩:=λe=>by injection e with _ e2 _;exact h e2.symm
theorem ac {W:World}{b o i:Nat}{u v:Value}(h:W.cell? ⟨b,o,none⟩=some u)(hn:o≠i):(W.setCell ⟨b,i,none⟩ v).cell? ⟨b,o,none⟩=some u :=
 (World.cell?_setCell_other _ _ _ _ (vy hn)).trans h
theorem OwnB.slice {B:Nat}{W:World}{v:Value}{l:List UInt8}(h:OwnB B W v l):∃p cap,v=.slice p l.length cap:=by
 rcases h.2 with⟨rfl,hn⟩ | ⟨g,cap,a,rfl,_⟩
 ·exact⟨none,0,by rw[hn]⟩
 ·exact⟨_,cap,rfl⟩
theorem sT (w:World)(o:Obj)(i:Nat)(h:i<w.heap.size):(w.alloc o).heap[i]?=w.heap[i]?:=by
 show(w.heap.push o)[i]?=w.heap[i]?;rw[Array.getElem?_push,if_neg (Nat.ne_of_lt h)]
def OwnV (t:TypeId)(B:Nat)(W:World)(v:Value)(xs:List Value):Prop :=
 (v=.slice none 0 0∧xs=[]) ∨
 ∃g cap cur fz,v=.slice (some ⟨g,0,none⟩) xs.length cap∧B≤g∧W.heap[g]?=some (.cells cur t fz)∧(cur.size≤fz.1∨fz.2=0)∧xs.length≤cap∧cap≤maxLen∧cur.size=cap∧cur.toList.take xs.length=xs
theorem OwnV.nil (t:TypeId)(B:Nat)(W:World):OwnV t B W (.slice none 0 0) []:=.inl ⟨rfl,rfl⟩
theorem OwnV.slice {t:TypeId}{B:Nat}{W:World}{v:Value}{xs:List Value}(h:OwnV t B W v xs):∃p cap,v=.slice p xs.length cap:=by
 rcases h with⟨rfl,rfl⟩ | ⟨g,cap,a,fz,rfl,_⟩
 ·exact⟨none,0,rfl⟩
 ·exact⟨_,cap,rfl⟩
theorem OwnV.cells {t:TypeId}{B:Nat}{W:World}{p:Addr}{n cap:Nat}{xs:List Value}(h:OwnV t B W (.slice (some p) n cap) xs):p.off=0∧∀i u,xs[i]?=some u→W.cell? ⟨p.block,i,none⟩=some u:=by
 rcases h with⟨e,_⟩ | ⟨g,cap,b,fz,e,j,d,_,hn,_,c,f⟩
 ·cases e
 ·injection e with e1 _ _;injection e1 with e1;subst e1;refine⟨rfl,λi u a=>?_⟩;rw[cell_of_row W g i b t fz d];rw[←f,List.getElem?_take]at a;split at a
  ·simpa using a
  ·cases a
theorem OwnV.row {t:TypeId}{B:Nat}{W:World}{v:Value}{xs:List Value}(h:OwnV t B W v xs)(h0:0<xs.length) :
  ∃g cap,v=.slice (some ⟨g,0,none⟩) xs.length cap∧B≤g∧g<W.heap.size∧(∀i u,xs[i]?=some u→W.cell? ⟨g,i,none⟩=some u)∧xs.length≤cap:=by
 have b:=h;rcases h with⟨_,e⟩ | ⟨g,cap,a,fz,rfl,c,f,k,hn,hm,d,j⟩
 ·rw[e]at h0;cases h0
 ·exact⟨g,cap,rfl,c,(Array.getElem?_eq_some_iff.1 f).1,b.cells.2,hn⟩
theorem OwnV.ch {t:TypeId}{B:Nat}{T:Nat→Prop}{W b:World}{v:Value}{xs:List Value}(h:OwnV t B W v xs)(f:Ch T W b)(d:∀k,v.ownBlock=some k→¬T k):OwnV t B b v xs:=by
 rcases h with c | ⟨g,cap,a,fz,rfl,e,i,rest⟩
 ·exact .inl c
 ·exact .inr ⟨g,cap,a,fz,rfl,e,f.get i (d g rfl),rest⟩
theorem OwnV.gr {t:TypeId}{B:Nat}{W a:World}{v:Value}{xs:List Value}(h:OwnV t B W v xs)(b:Gr W a):OwnV t B a v xs:=h.ch (b.to_ch (λ_=>False)) (λ_ _ h=>h.elim)
theorem qQ (P:Program)(g o:Nat)(t:TypeId)(fz:Nat×Nat)(u:Value)(a:Array Value)(w:World)(e:w.heap[g]?=some (.cells a t fz))(j:o<a.size)(k:a.size≤fz.1∨fz.2=0)(h:u.oneCell'=true) :
  (storeCells ⟨g,o,none⟩ [u] 0).run P w=.ok () (w.setRow g (a.setIfInBounds o u)):=by
 have c:(⟨g,o,none⟩:Addr).add 0=⟨g,o,none⟩:=by simp[Addr.add]
 have b:w.cell? ⟨g,o,none⟩=some a[o]:=by simp[World.cell?,e,j]
 have d:w.frozen? ⟨g,o,none⟩=false:=by
  obtain⟨l,i⟩:=fz;simp only[World.frozen?,e,Bool.and_eq_false_iff,decide_eq_false_iff_not];simp only at k;omega
 have f:(store ((⟨g,o,none⟩:Addr).add 0) u).run P w=.ok () (w.setRow g (a.setIfInBounds o u)):=by
  rw[c,run_store P w _ u _ h,b];simp[d,setCell_eq_setRow w g o a t fz u e]
 simp only[storeCells,Sem.run_bind,f,Result.andThen_ok];rfl
theorem sU {W:World}(S a ty:TypeId)(z u:Value)(bytes:Nat)
  (E:prog.underlying S=some (.slice a)) (J:(prog.info? a).map (λi=>(i.zero,i.size,i.bytes))=some (some z,1,bytes)) (Z:z.cells.size=1)
  (B:Nat) (v:Value) (xs:List Value) (N:OwnV a B W v xs) (w:Addr) (c:Nat) (hu:W.cell? w=some u) (F:u.oneCell'=true)
  (L:xs.length+1≤1000000) (hb:bytes≤64) (hB:B≤W.heap.size) :
  ∃p cap T,(Builtin.append_ #[S,S] ty #[v,.slice (some w) 1 c]).run prog W=.ok (.slice p (xs.length+1) cap) T∧OwnV a B T (.slice p (xs.length+1) cap) (xs++[u])∧Below B W T∧(∀g,v.ownBlock=some g→∀j x,xs[j]?=some x→T.cell? ⟨g,j,none⟩=some x):=by
 obtain⟨i,hi,O,l,R⟩:=info_parts J;have d:∀j x,[u][j]?=some x→W.cell? (w.add j)=some x:=by
  intro j x H
  match j,H with
  | 0,H =>
   simp at H;subst H;have:w.add 0=w:=(by simp[Addr.add]);rw[this];exact hu
  | n+1,H=>simp at H
 have a0:(xs.length+1)*bytes≤64000000:=by
  have:(xs.length+1)*bytes≤1000000*64:=Nat.mul_le_mul L hb;omega
 have grown:∀(old:Nat),old<xs.length+1 →
   OwnV a B (W.drew.alloc (.cells (xs.toArray++#[u]++Builtin.zeroCells z.cells (grownCap W (xs.length+1) old a - (xs.length+1))) a)) (.slice (some ⟨W.heap.size,0,none⟩) (xs.length+1) (grownCap W (xs.length+1) old a)) (xs++[u]) ∧
   Below B W (W.drew.alloc (.cells (xs.toArray++#[u]++Builtin.zeroCells z.cells (grownCap W (xs.length+1) old a - (xs.length+1))) a)):=by
  intro old ho;have U:=grownCap_ge W (xs.length+1) old a;have m:grownCap W (xs.length+1) old a≤maxLen:=grownCap_le_maxLen W (xs.length+1) old a (by unfold maxLen;omega);refine⟨.inr ⟨W.heap.size,_,_,(0,0),by rw[qw,List.length_singleton],hB,heap_alloc_new W.drew _,.inr rfl,by rw[qw,List.length_singleton];exact U,m,?_,?_⟩,⟨rfl,rfl,rfl,by simp,λk hk=>sT W.drew _ k (by show k<W.heap.size;omega)⟩⟩
  ·simp only[Array.size_append,List.size_toArray,size_zeroCells,Z,List.length_cons,List.length_nil];omega
  ·simp only[Array.toList_append,List.append_assoc];rw[←List.append_assoc];exact List.take_left' (by simp)
 rcases N with⟨rfl,rfl⟩ | ⟨g,cap,b,fz,rfl,A,s,r,M,m,C,f⟩
 ·have X:=run_append_nil (P:=prog) W S ty a i z E hi O w 1 c [u] (by rw[l];rfl) d (by decide) (by decide) (by rw[R];omega);have h:=grown 0 (by decide);simp only[List.length_nil,Nat.zero_add,List.nil_append,Array.empty_append]at h ⊢;exact⟨_,_,_,X,h.1,h.2,λg s=>by simp[Value.ownBlock]at s⟩
 ·have y:=(OwnV.cells (B:=B) (t:=a) (.inr ⟨g,cap,b,fz,rfl,A,s,r,M,m,C,f⟩)).2;by_cases q:xs.length+1≤cap
  ·have Y:=qQ prog g xs.length a fz u b W s (by omega) r F;have hf:=run_firstCells_some (P:=prog) W i.size 1 w 1 c [u] (by rw[l];rfl) d;rw[l]at hf;refine⟨some ⟨g,0,none⟩,cap,W.setRow g (b.setIfInBounds xs.length u),?_,.inr ⟨g,cap,_,fz,by rw[qw,List.length_singleton],A,setRow_heap W g b _ a _ s,by simpa using r,by rw[qw,List.length_singleton];exact q,m,by simpa using C,?_⟩,⟨rfl,rfl,rfl,by simp,λk hk=>setRow_other W g k _ (λe=>by omega)⟩,λg2 o j x I=>?_⟩
   ·simp[Builtin.append_,run_underlying E,sizeOf,typeInfo,hi,l,Builtin.lenOf,q,hf,Addr.add_lit,Y]
   ·rw[qw,List.length_singleton,Array.toList_setIfInBounds,List.take_add_one,List.take_set_of_le (qv _),f];have V:xs.length<b.toList.length:=(by simp;omega);rw[List.getElem?_set_self V];rfl
   ·simp only[Value.ownBlock,Option.some.injEq]at o;subst o;have a1:j<xs.length:=(List.getElem?_eq_some_iff.1 I).1;rw[cell_of_row _ g j _ a fz (setRow_heap W g b _ a _ s)];have F:=y j x I;rw[cell_of_row W g j b a fz s]at F;rw[Array.getElem?_setIfInBounds_ne (by omega)];exact F
  ·have D:∀j x,xs[j]?=some x→W.cell? ((⟨g,0,none⟩:Addr).add j)=some x:=λj x I=>by
    have e:(⟨g,0,none⟩:Addr).add j=⟨g,j,none⟩:=by
     by_cases h0:j=0 <;> simp[Addr.add,h0]
    rw[e];exact(OwnV.cells (B:=B) (t:=a) (.inr ⟨g,cap,b,fz,rfl,A,s,r,M,m,C,f⟩)).2 j x I
   have X:=run_append_grow (P:=prog) W S ty a i z E hi O ⟨g,0,none⟩ xs.length cap xs (by rw[l];omega) D w 1 c [u] (by rw[l];rfl) d (by omega) (by omega) (growslice_fits (by omega) (by rw[R];omega));have h:=grown cap (by omega);refine⟨_,_,_,X,h.1,h.2,λg2 o j x I=>?_⟩;simp only[Value.ownBlock,Option.some.injEq]at o;subst o;have F:=y j x I;exact(World.cell?_of_block (sT W.drew _ g (by show g<W.heap.size;exact(Array.getElem?_eq_some_iff.1 s).1))).trans F
theorem xH {ops:Array Oper}{rest:List Oper}{o:Oper}{a:Act}{Q:Exit→Act→World→Prop}{W:World}(l:o.guard=none)(s x:Operand)(g f b:TypeId)(z u:Value)(bytes:Nat)
  (m:prog.underlying g=some (.slice f)) (d:(prog.info? f).map (λi=>(i.zero,i.size,i.bytes))=some (some z,1,bytes)) (n:z.cells.size=1)
  (F:o.op=.call { callee:=.builtin .append,args:=#[s,x],argTypes:=#[g,g] })
  (B:Nat) (v:Value) (xs:List Value) (hs:a.eval s=v) (e:OwnV f B W v xs) (H:a.eval x=.slice (some ⟨W.heap.size,0,none⟩) 1 1) (w:u.oneCell'=true)
  (N:Nat) (D:xs.length+1=N) (r:N≤1000000) (E:bytes≤64) (A:B≤W.heap.size)
  (h:∀p cap c,OwnV f B c (.slice p N cap) (xs++[u])→Below B W c→wpList prog ops Q rest (a.put o.dst (.slice p N cap)) c) :
  wpList prog ops Q (o :: rest) a (W.alloc (.cells #[u] b)):=by
 refine wpList_plain l λK C=>?_;have j:=Gr.alloc W (.cells #[u] b);have k:(W.alloc (.cells #[u] b)).cell? ⟨W.heap.size,0,none⟩=some u:=aa W [u] b 0 u rfl;obtain⟨p,cap,c,t,q,y,I⟩:=sU (W:=W.alloc (.cells #[u] b)) g f o.type z u bytes m d n B v xs (e.gr j) ⟨W.heap.size,0,none⟩ 1 k w (by omega) E (by simp;omega);rw[D]at t q;unfold Oper.wp execOp;simp only[F,resolve,invoke,builtin,Sem.run_bind,Sem.run_pure,Result.andThen_ok,List.map_toArray,List.map_cons,List.map_nil,hs,H,t];exact C _ _ (h p cap c q (((Below.refl B W).alloc A _).trans y))
theorem zn {w:World}{ops:Array Oper}{o:Oper}{a:Act}{K:Act→World→Prop}{Q:Exit→Act→World→Prop}{E:Prop}(l:o.guard=none)(s x:Operand)(k f:TypeId)(z u:Value)(bytes:Nat)
  (m:prog.underlying k=some (.slice f)) (d:(prog.info? f).map (λi=>(i.zero,i.size,i.bytes))=some (some z,1,bytes)) (n:z.cells.size=1)
  (I:o.op=.call { callee:=.builtin .append,args:=#[s,x],argTypes:=#[k,k] })
  (B:Nat) (v:Value) (xs:List Value) (hs:a.eval s=v) (e:OwnV f B w v xs) (b:Nat) (M:a.eval x=.slice (some ⟨b,0,none⟩) 1 1) (J:w.cell? ⟨b,0,none⟩=some u) (y:u.oneCell'=true)
  (N:Nat) (F:xs.length+1=N) (r:N≤1000000) (H:bytes≤64) (D:B≤w.heap.size)
  (h:∀p cap c,OwnV f B c (.slice p N cap) (xs++[u])→Below B w c→(∀g,v.ownBlock=some g→∀j x,xs[j]?=some x→c.cell? ⟨g,j,none⟩=some x)→K (a.put o.dst (.slice p N cap)) c) :
  if Region.wanted o (yielded ops a.tmps)=true then Oper.wp prog o a w K Q else E:=by
 have L:Region.wanted o (yielded ops a.tmps)=true:=by simp[Region.wanted,l]
 rw[if_pos L];obtain⟨p,cap,c,t,q,A,C⟩:=sU (W:=w) k f o.type z u bytes m d n B v xs e ⟨b,0,none⟩ 1 J y (by omega) H D;rw[F]at t q;unfold Oper.wp execOp;simp only[I,resolve,invoke,builtin,Sem.run_bind,Sem.run_pure,Result.andThen_ok,List.map_toArray,List.map_cons,List.map_nil,hs,M,t];exact h p cap c q A C
theorem OwnV.drew {t:TypeId}{B:Nat}{W:World}{v:Value}{xs:List Value}(h:OwnV t B W v xs):OwnV t B W.drew v xs:=h
theorem OwnV.alloc {t:TypeId}{B:Nat}{W:World}{v:Value}{xs:List Value}(h:OwnV t B W v xs)(o:Obj):OwnV t B (W.alloc o) v xs:=h.gr (Gr.alloc W o)
theorem Cf (W:World)(u:Value)(t:TypeId):(W.alloc (.cells #[u] t)).cell? ⟨W.heap.size,0,none⟩=some u:=aa W [u] t 0 u rfl
def ko (w:World)(t:Value)(ls:List (List UInt8)):Prop :=
 ∃p cap,t=.slice p ls.length cap∧ls.length≤cap∧∀i,(hi:i<ls.length)→∃b off,p=some ⟨b,off,none⟩∧w.cell? ⟨b,off+i,none⟩=some (.string ⟨ls[i].toArray⟩)
theorem vz (l:List UInt8):(bm l).length≤l.length:=by
 rw[dW];unfold cM bU;have a:=(List.dropWhile_suffix (p:=ay) (l:=(l.reverse.dropWhile ay).reverse)).length_le;have b:=(List.dropWhile_suffix (p:=ay) (l:=l.reverse)).length_le;simp only[List.length_reverse]at a b ⊢;omega
theorem ni (l:List UInt8):(ax l).1.length≤l.length:=by
 unfold ax;have a:=dY l [58];split
 ·exact a
 ·simp
theorem nj (l:List UInt8):(ax l).2.1.length≤l.length:=by
 unfold ax;have a:=eG l [58];split
 ·exact qy (vz _) a
 ·simp
theorem zo (l a:List UInt8)(w:World)(b:G w)(hl:l.length<4294967281) :
  Calls prog 105 #[.string ⟨l.toArray⟩,.string ⟨a.toArray⟩] w λe w'=>e=.returned (.int .i64 (Lib.index l a))∧w'=w:=by
 obtain⟨m,hm⟩:=b.max;exact Tryz.strings_Index ⟨l.toArray⟩ ⟨a.toArray⟩ m w (by rw[aj];exact hl) hm
theorem zp (l:List UInt8)(w:World)(c:G w)(hl:l.length<4294967281) :
  Calls prog 128 #[.string ⟨l.toArray⟩,.string ⟨#[13,10]⟩] w λe w'=>(∃v,e=.returned v∧ko w' v (au l))∧Gr w w':=by
 obtain⟨m,hm⟩:=c.max;refine(Tryz.strings_Split ⟨l.toArray⟩ ⟨#[13,10]⟩ m w (by rw[aj];exact hl) hm (by decide)).mono ?_;rintro e w'⟨rfl,rfl⟩;have f:=Lib.splitB_data ⟨#[13,10]⟩ 0 (Lib.countB ⟨l.toArray⟩ ⟨#[13,10]⟩) ⟨l.toArray⟩;have a:=Lib.splitB_all ⟨#[13,10]⟩ (by decide) 0 _ ⟨l.toArray⟩ rfl;have e2:(Lib.splitB ⟨#[13,10]⟩ 0 (Lib.countB ⟨l.toArray⟩ ⟨#[13,10]⟩) ⟨l.toArray⟩).map (·.data.toList)=au l:=f.trans (qU l);obtain⟨L,d⟩:∃L,Lib.splitB ⟨#[13,10]⟩ 0 (Lib.countB ⟨l.toArray⟩ ⟨#[13,10]⟩) ⟨l.toArray⟩=L:=⟨_,rfl⟩;rw[d]at e2 a ⊢;rw[←a];refine⟨⟨_,rfl,some ⟨w.heap.size,0,none⟩,L.length,by rw[←e2,List.length_map],by rw[←e2,List.length_map];exact qv _,λi hi=>⟨w.heap.size,0,rfl,?_⟩⟩,Gr.alloc _ _⟩;rw[Nat.zero_add];have b:i<L.length:=by rw[←e2,List.length_map]at hi;exact hi
 refine aa w (L.map Value.string) _ i _ ?_;have e3:(au l)[i]=L[i].data.toList:=by simp[←e2]
 rw[e3];simp[b]
theorem ix0 (g n cap:Nat)(W:World)(a:(0:Int)<(n:Int)+1):(Sem.run prog (Instr.indexAt 86 (Value.slice (some ⟨g,0,none⟩) (n+1) cap) (Value.int .i64 0)) W)=.ok (.pointer (some ⟨g,0,none⟩)) W:=by
 simp[go_sem]
end Go.Proofs.YtadobobfjnmdlaaGreatDoor
namespace Go.Proofs.YtadobobfjnmdlaaGreatDoor
open Go.RowKit Go.Shelf
attribute [local go_sem] Oper.semAt_some
def fY (fs:List Fl):List Value:=fs.flatMap λf=>[.string ⟨f.1.toArray⟩,.string ⟨f.2.toArray⟩]
theorem nk (fs:List Fl)(i:Nat)(hi:i<fs.length):(fY fs)[i*2]?=some (.string ⟨fs[i].1.toArray⟩)∧(fY fs)[i*2+1]?=some (.string ⟨fs[i].2.toArray⟩):=by
 induction fs generalizing i with
 | nil=>cases hi
 | cons f t a =>
  cases i with
  | zero=>exact⟨rfl,rfl⟩
  | succ i =>
   have:=a i (by simpa using hi);rw[show(i+1)*2=i*2+1+1 by omega];exact this
theorem jD (fs a:List Fl):fY (fs++a)=fY fs++fY a:=by simp[fY]
def OwnF (B:Nat)(w:World)(v:Value)(fs:List Fl):Prop:=w.ownsRow B 80 2 v fs.length (fY fs)
theorem OwnF.at {B:Nat}{w:World}{v:Value}{fs:List Fl}(h:OwnF B w v fs):FieldsAt w v fs:=by
 have a:=h;obtain⟨e,c⟩:=h;rcases c with⟨rfl,h0⟩ | ⟨g,cap,b,rfl,f,j,hn,hm,d,k⟩
 ·exact⟨none,0,by rw[h0],λi hi=>by omega⟩
 ·refine⟨_,cap,rfl,λi hi=>⟨g,0,rfl,?_,?_⟩⟩
  ·rw[Nat.zero_add,World.ownsRow.cellAt a (i*2) (by omega)];exact(nk fs i hi).1
  ·rw[Nat.zero_add,World.ownsRow.cellAt a (i*2+1) (by omega)];exact(nk fs i hi).2
theorem OwnF.ch {B:Nat}{w w':World}{v:Value}{fs:List Fl}{T:Nat→Prop}(h:OwnF B w v fs)(j:Ch T w w')(m:∀k,T k→k<B):OwnF B w' v fs:=by
 obtain⟨f,b⟩:=h;refine⟨f,?_⟩;rcases b with b | ⟨g,cap,a,rfl,i,l,hn,hm,c,d⟩
 ·exact .inl b
 ·exact .inr ⟨g,cap,a,rfl,i,j.get l (λe=>by have:=m _ e;omega),hn,hm,c,d⟩
theorem OwnF.put {B:Nat}{w:World}{v:Value}{fs:List Fl}(h:OwnF B w v fs){a:Addr}(j:v.ownBlock≠some a.block)(u:Value):OwnF B (w.setCell a u) v fs:=by
 obtain⟨i,c⟩:=h;refine⟨i,?_⟩;rcases c with c | ⟨g,cap,b,rfl,k,l,hn,hm,d,f⟩
 ·exact .inl c
 ·exact .inr ⟨g,cap,b,rfl,k,(Below.heap_setCell _ _ _ _ (λe=>j (by rw[←e];rfl))).trans l,hn,hm,d,f⟩
theorem lq:(prog.info? 80).map (λi=>(i.zero,i.size,i.bytes))=some (some (.agg #[.string ⟨#[]⟩,.string ⟨#[]⟩]),2,32):=by kernel_rfl
theorem lr (w:World)(x y:Value)(t:TypeId):∀j u,[x,y][j]?=some u→(w.alloc (.cells #[x,y] t)).cell? ((⟨w.heap.size,0,none⟩:Addr).add j)=some u:=by
 intro j u a
 match j,a with
 | 0,a=>simp at a;subst a;simp[Addr.add]
 | 1,a=>simp at a;subst a;simp[Addr.add]
theorem Ch.of_grown {w w':World}{row:Option Nat}(h:w.grownBy w' row):Ch (λk=>row=some k) w w' :=
 ⟨h.os,h.tape,h.output,h.size,λk a hn=>h.block k a (λe=>hn e.symm)⟩
end Go.Proofs.YtadobobfjnmdlaaGreatDoor
namespace Go.Proofs.YtadobobfjnmdlaaGreatDoor
open Go.RowKit
def Cg (f:Fl):List Value:=[.string ⟨f.1.toArray⟩,.string ⟨f.2.toArray⟩]
theorem kq (W:World)(fs:List Fl)(t:TypeId)(cap:Nat):FieldsAt (W.alloc (.cells (dF Cg fs).toArray t)) (.slice (some ⟨W.heap.size,0,none⟩) fs.length cap) fs:=by
 refine⟨_,cap,rfl,λi hi=>⟨W.heap.size,0,rfl,?_,?_⟩⟩
 ·rw[Nat.zero_add];exact aa W _ t (i*2) _ ((ew (f:=Cg) (k:=2) (λ_=>rfl) fs i 0 hi (by decide)).trans rfl)
 ·rw[Nat.zero_add];exact aa W _ t (i*2+1) _ ((ew (f:=Cg) (k:=2) (λ_=>rfl) fs i 1 hi (by decide)).trans rfl)
theorem FieldsAt.put {W:World}{p:Addr}{n cap:Nat}{fs:List Fl}(h:FieldsAt W (.slice (some p) n cap) fs){a:Addr}(d:p.block≠a.block)(u:Value):FieldsAt (W.setCell a u) (.slice (some p) n cap) fs:=by
 obtain⟨q,c,e,l⟩:=h;injection e with e1 e2 e3;refine⟨q,c,by rw[←e1,e2,e3],λi hi=>?_⟩;obtain⟨b,off,g,j,k⟩:=l i hi;have f:b≠a.block:=by
  rw[g]at e1;injection e1 with e1;rw[e1]at d;exact d
 exact⟨b,off,g,ai j (λe=>f e.symm),ai k (λe=>f e.symm)⟩
theorem bN (W:World)(cap:Nat):FieldsAt W (.slice none 0 cap) []:=⟨none,cap,rfl,λa hi=>absurd hi (Nat.not_lt_zero _)⟩
end Go.Proofs.YtadobobfjnmdlaaGreatDoor
namespace Go.Proofs.YtadobobfjnmdlaaGreatDoor
open Go.RowKit Go.Maps Go.ChangeMaps
def E4 (w:World)(e:Ending)(w':World):Prop:=∃n:Int,0≤n∧e=.returned (.int .i64 n)∧w=w'
def FV (w:World)(e:Ending)(w':World):Prop:=∃n:Int,n<0∧e=.returned (.int .i64 n)∧w=w'
theorem qR (M:List UInt8)(c:UInt8)(h:M.contains c=true)(w:World):Calls prog 218 #[.string ⟨M.toArray⟩,.int .u8 c.toNat] w (E4 w) :=
 (Tryz.strings_IndexByte ⟨M.toArray⟩ c.toNat w).mono λe w' ⟨a,b⟩=>⟨_,by
  have:=et M c;rw[h,decide_eq_true_eq]at this;rw[sY];exact this,a,b.symm⟩
theorem vA (M:List UInt8)(c:UInt8)(h:M.contains c=false)(w:World):Calls prog 218 #[.string ⟨M.toArray⟩,.int .u8 c.toNat] w (FV w) :=
 (Tryz.strings_IndexByte ⟨M.toArray⟩ c.toNat w).mono λe w' ⟨a,b⟩=>⟨_,by
  have:=et M c;rw[h,decide_eq_false_iff_not]at this;rw[sY];show Lib.indexByte M c<0;omega,a,b.symm⟩
def je (q:Bool):List UInt8:=if q then [63] else []
theorem pw (q:Bool)(c:UInt8):(ll c||(q&&c==63))=(aV c||(gJ++je q).contains c):=by
 unfold ll je;cases q
 ·simp
 ·rw[if_pos rfl,List.contains_append,Bool.true_and,Bool.or_assoc];congr 2;rw[Bool.eq_iff_iff];simp
theorem sW {c:UInt8}(h:aV c=true):(97≤(c.toNat:Int)∧(c.toNat:Int)≤122)∨(65≤(c.toNat:Int)∧(c.toNat:Int)≤90)∨(48≤(c.toNat:Int)∧(c.toNat:Int)≤57):=by
 rw[gt]at h;simpa using h
theorem vB {c:UInt8}(h:aV c=false):(c.toNat:Int)<48∨(57<(c.toNat:Int)∧(c.toNat:Int)<65)∨(90<(c.toNat:Int)∧(c.toNat:Int)<97)∨122<(c.toNat:Int):=by
 rw[gt]at h;simp only[decide_eq_false_iff_not]at h;omega
theorem np {q:Bool}{l:List UInt8}{k:Nat}(a:k<l.length)(h:(aV l[k]||(gJ++je q).contains l[k])=true):bE q (l.drop k)=bE q (l.drop (k+1)):=by
 rw[List.drop_eq_getElem_cons a];exact sS _ ((pw q _).trans h)
theorem zq {q:Bool}{l:List UInt8}{k:Nat}(b:k<l.length)(h:(aV l[k]||(gJ++je q).contains l[k])=false)(a:l[k]≠37):bE q (l.drop k)=false:=by
 rw[List.drop_eq_getElem_cons b];exact vp _ ((pw q _).trans h) a
theorem vC {q:Bool}{l:List UInt8}{k:Nat}(a:k+2<l.length)(h:l[k]=37):bE q (l.drop k)=(dM l[k+1]&&dM l[k+2]&&bE q (l.drop (k+3))):=by
 rw[List.drop_eq_getElem_cons (by omega),h,ng,List.drop_eq_getElem_cons (show k+1<l.length by omega),List.drop_eq_getElem_cons (show k+1+1<l.length by omega)];rfl
theorem sX {q:Bool}{l:List UInt8}{k:Nat}(b:k<l.length)(hs:l.length≤k+2)(h:l[k]=37):bE q (l.drop k)=false:=by
 rw[List.drop_eq_getElem_cons b,h,ng];have hl:(l.drop (k+1)).length≤1:=by rw[List.length_drop];omega
 match l.drop (k+1),hl with
 | [],_=>rfl
 | [a],_=>rfl
theorem zr (q:Bool)(l:List UInt8)(w:World)(hl:l.length≤1000000) :
  Calls prog 195 #[.string ⟨l.toArray⟩,.string ⟨(je q).toArray⟩] w λe w'=>e=.returned (.bool (bE q l))∧w=w':=by
 obtain⟨m,hm⟩:∃m,je q=m:=⟨_,rfl⟩;have a0:m.length≤1:=by rw[←hm];cases q <;> decide
 obtain⟨M,hM⟩:∃M,gJ++m=M:=⟨_,rfl⟩;have R:(⟨#[45,46,95,126,33,36,38,39,40,41,42,43,44,59,61,58,64,47]⟩:ByteArray)++⟨m.toArray⟩=⟨M.toArray⟩:=by rw[←hM];exact aL gJ m
 have E:=qq (show gJ++je q=M by rw[hm,hM]);rw[hm];clear hm hM;go_enter func195,ntmps195;go_wp2;go_loop [5] (λi=>∃k:Nat,k≤l.length∧i=.int .i64 k∧bE q (l.drop k)=bE q l) (λi=>l.length - (intOf i).toNat)
 case atStart=>exact⟨0,qx _,rfl,rfl⟩
 case round =>
  obtain⟨k,hk,rfl,P⟩:=hrel;have g:=qq P;clear P;have Z:(l.length:Int)≤1000000:=by omega
  by_cases j:k<l.length
  ·obtain⟨c,X⟩:∃c,(⟨l.toArray⟩:ByteArray)[k]'(by rw[aj];exact j)=c:=⟨_,rfl⟩;have h:=qq (show l[k]=c from X);cases v:aV c
   ·have I:=vB v;cases D:M.contains c
    ·have O:=qq (show(aV l[k]||(gJ++je q).contains l[k])=false by rw[h.out,E.out,v,D];rfl);have d:=qq (λw=>vA M c D w);clear v D;by_cases f:c=37
     ·have s:=qq (show l[k]=37 by rw[h.out,f]);have T:37≤(c.toNat:Int):=(by rw[f];decide);have U:(c.toNat:Int)≤37:=(by rw[f];decide);have J:((c.toNat:Int)==37)=true:=(by rw[f];decide);clear f I;by_cases L:k+2<l.length
      ·obtain⟨a,V⟩:∃c,(⟨l.toArray⟩:ByteArray)[k+1]'(by rw[aj];omega)=c:=⟨_,rfl⟩;obtain⟨b,W⟩:∃c,(⟨l.toArray⟩:ByteArray)[k+2]'(by rw[aj];omega)=c:=⟨_,rfl⟩;have F:=qq (show l[k+1]=a from V);have H:=qq (show l[k+2]=b from W);have z:=qq (vC (q:=q) L s.out);cases B:dM a
       ·have r:=qq (λw=>vA iw a B w);have t:=qq B;clear B;go_wp2_with fail;refine(d.out _).mono ?_;rintro e p⟨n,hn,rfl,rfl⟩;go_wp2_with fail;refine(r.out _).mono ?_;rintro e p⟨S,y,rfl,rfl⟩;go_wp2;go_ret;exact⟨aW (by rw[←g.out,z.out,F.out,t.out];rfl),rfl⟩
       ·have r:=qq (λw=>qR iw a B w);have t:=qq B;clear B;cases C:dM b
        ·have x:=qq (λw=>vA iw b C w);have u:=qq C;clear C;go_wp2_with fail;refine(d.out _).mono ?_;rintro e p⟨n,hn,rfl,rfl⟩;go_wp2_with fail;refine(r.out _).mono ?_;rintro e p⟨S,y,rfl,rfl⟩;go_wp2_with fail;refine(x.out _).mono ?_;rintro e p⟨n3,N,rfl,rfl⟩;go_wp2;go_ret;exact⟨aW (by rw[←g.out,z.out,H.out,u.out,Bool.and_false];rfl),rfl⟩
        ·have x:=qq (λw=>qR iw b C w);have u:=qq C;clear C;go_wp2_with fail;refine(d.out _).mono ?_;rintro e p⟨n,hn,rfl,rfl⟩;go_wp2_with fail;refine(r.out _).mono ?_;rintro e p⟨S,y,rfl,rfl⟩;go_wp2_with fail;refine(x.out _).mono ?_;rintro e p⟨n3,N,rfl,rfl⟩;go_wp2;go_round
         case rel=>exact⟨k+3,by omega,by go_num,by rw[←g.out,z.out,F.out,H.out,t.out,u.out];rfl⟩
         case measure=>simp[intOf];omega
      ·have z:=qq (sX (q:=q) j (by omega) s.out);have Y:¬((k:Int)+2<l.length):=(by omega);go_wp2_with fail;refine(d.out _).mono ?_;rintro e p⟨n,hn,rfl,rfl⟩;go_wp2;go_ret;exact⟨aW (by rw[←g.out,z.out]),rfl⟩
     ·have J:((c.toNat:Int)==37)=false:=qk.2 (λe=>f (UInt8.toNat_inj.1 (show c.toNat=37 by omega)));have z:=qq (zq j O.out (by rw[h.out];exact f));clear f;rcases I with o | ⟨o,A⟩ | ⟨o,A⟩ | o;all_goals
       go_wp2_with fail;refine(d.out _).mono ?_;rintro e p⟨n,hn,rfl,rfl⟩;go_wp2;go_ret;exact⟨aW (by rw[←g.out,z.out]),rfl⟩
    ·have d:=qq (λw=>qR M c D w);have hn:=qq (np j (show(aV l[k]||(gJ++je q).contains l[k])=true by rw[h.out,E.out,D,Bool.or_true]));clear v D;rcases I with o | ⟨o,A⟩ | ⟨o,A⟩ | o;all_goals
      go_wp2_with fail;refine(d.out _).mono ?_;rintro e p⟨n,y,rfl,rfl⟩;go_wp2;go_round
      case rel=>exact⟨k+1,by omega,by go_num,by rw[←g.out,hn.out]⟩
      case measure=>simp[intOf];omega
   ·have I:=sW v;have hn:=qq (np (q:=q) j (by rw[h.out,v];rfl));clear v;rcases I with⟨o,A⟩ | ⟨o,A⟩ | ⟨o,A⟩;all_goals
     go_wp2;go_round
     case rel=>exact⟨k+1,by omega,by go_num,by rw[←g.out,hn.out]⟩
     case measure=>simp[intOf];omega
  ·go_wp2;go_ret;exact⟨aW (by rw[←g.out,List.drop_of_length_le (by omega)];rfl),rfl⟩
theorem nr (q:Bool)(l:List UInt8)(b:Bool)(h:bE q l=b)(w:World)(hl:l.length≤1000000) :
  Calls prog 195 #[.string ⟨l.toArray⟩,.string ⟨(je q).toArray⟩] w λe w'=>e=.returned (.bool b)∧w=w':=h▸zr q l w hl
def tgV (r:List UInt8×List UInt8×Bool):Value:=.tuple #[.string ⟨r.1.toArray⟩,.string ⟨r.2.1.toArray⟩,.bool r.2.2]
theorem zs {l p q:List UInt8}{d:Bool}(h:Lib.cut l [63]=(p,q,d)):cJ l=if decide (l.length≤512)&&((Lib.hasPrefix p [47])&&(bE false p&&bE true q)) then(p,q,true) else([],[],false):=by
 unfold cJ;rw[h]
theorem px (l p:List UInt8)(b:Bool)(h:Lib.hasPrefix l p=b)(w:World):Calls prog 194 #[.string ⟨l.toArray⟩,.string ⟨p.toArray⟩] w λe w'=>e=.returned (.bool b)∧w=w' :=
 (Tryz.strings_HasPrefix ⟨l.toArray⟩ ⟨p.toArray⟩ w).mono λe w' ⟨a,c⟩=>⟨by rw[a];exact congrArg (λb=>Ending.returned (.bool b)) h,c.symm⟩
theorem vD (l:List UInt8)(w:World)(z:G w)(hl:l.length≤1000000) :
  Calls prog 161 #[.string ⟨l.toArray⟩] w λe w'=>e=.returned (tgV (cJ l))∧Gr w w':=by
 have j:(Lib.cut l [63]).1.length≤l.length:=dY l [63];have k:(Lib.cut l [63]).2.1.length≤l.length:=eG l [63];have hcut:=ki l [63] w z (by omega);obtain⟨⟨p,q,d⟩,v⟩:∃c,Lib.cut l [63]=c:=⟨_,rfl⟩;rw[v]at j k hcut;have g:=zs v;dsimp only at j k hcut;have a:=qq hcut;clear v hcut;by_cases t:l.length≤512
 ·have u:¬(512<(l.length:Int)):=by omega
  cases f:Lib.hasPrefix p [47]
  ·have b:=qq (show cJ l=([],[],false) by rw[g,f];simp);have k1:=qq (λw=>px p [47] _ f w);clear g f;go_enter func161,ntmps161;go_wp2_with fail;refine a.out.mono ?_;rintro e x⟨rfl,h⟩;go_wp2_with fail;refine(k1.out _).mono ?_;rintro e m⟨rfl,rfl⟩;go_wp2;go_ret3;exact⟨by rw[b.out];rfl,h⟩
  ·have k1:=qq (λw=>px p [47] _ f w);cases i:bE false p
   ·have b:=qq (show cJ l=([],[],false) by rw[g,f,i];simp);have k2:=qq (λw=>nr false p _ i w (by omega));clear g f i;go_enter func161,ntmps161;go_wp2_with fail;refine a.out.mono ?_;rintro e x⟨rfl,h⟩;go_wp2_with fail;refine(k1.out _).mono ?_;rintro e m⟨rfl,rfl⟩;go_wp2_with fail;refine(k2.out _).mono ?_;rintro e m⟨rfl,rfl⟩;go_wp2;go_ret3;exact⟨by rw[b.out];rfl,h⟩
   ·have k2:=qq (λw=>nr false p _ i w (by omega));cases r:bE true q;all_goals
     have k3:=qq (λw=>nr true q _ r w (by omega));have b:=qq g;have n:=qq f;have o:=qq i;have s:=qq r;have y:=qq t;clear g f i r;go_enter func161,ntmps161;go_wp2_with fail;refine a.out.mono ?_;rintro e x⟨rfl,h⟩;go_wp2_with fail;refine(k1.out _).mono ?_;rintro e m⟨rfl,rfl⟩;go_wp2_with fail;refine(k2.out _).mono ?_;rintro e m⟨rfl,rfl⟩;go_wp2_with fail;refine(k3.out _).mono ?_;rintro e m⟨rfl,rfl⟩;go_wp2;go_ret3;exact⟨by rw[b.out,n.out,o.out,s.out,decide_eq_true y.out];rfl,h⟩
 ·have u:512<(l.length:Int):=by omega
  have b:=qq (show cJ l=([],[],false) by rw[g,decide_eq_false t];rfl);clear g t;go_enter func161,ntmps161;go_wp2_with fail;refine a.out.mono ?_;rintro e x⟨rfl,h⟩;go_wp2;go_ret3;exact⟨by rw[b.out];rfl,h⟩
theorem gM (c:UInt8)(w:World):Calls prog 85 #[.int .u8 c.toNat] w λe w'=>e=.returned (.bool (fF c))∧w=w':=by
 go_enter func85,ntmps85;go_wp2;go_loop [3] (λi=>∃k:Nat,k≤77∧i=.int .i64 k∧(jE.take k).contains c=false) (λi=>77 - (intOf i).toNat)
 case atStart=>exact⟨0,qx _,rfl,rfl⟩
 case round =>
  obtain⟨k,g,rfl,d⟩:=hrel;have a:=qq d;clear d;by_cases b:k<77
  ·go_wp2
   ·have f:((((jE[k]'b).toNat:Nat):Int)==(c.toNat:Int))=true:=(by assumption);go_ret;exact⟨aW (by rw[←kr];exact(sZ (l:=jE) b (by rw[Cj];simpa using f)).symm),rfl⟩
   ·have f:((((jE[k]'b).toNat:Nat):Int)==(c.toNat:Int))=false:=(by assumption);go_round
    case rel=>exact⟨k+1,by omega,by go_num,jG (l:=jE) a.out b (by rw[Cj];simpa using f)⟩
    case measure=>simp[intOf];omega
  ·go_wp2;go_ret;obtain rfl:k=77:=(by omega);exact⟨aW (by rw[←kr,←a.out];rfl),rfl⟩
