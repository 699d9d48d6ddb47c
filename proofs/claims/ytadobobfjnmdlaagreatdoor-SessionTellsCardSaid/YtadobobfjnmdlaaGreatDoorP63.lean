/-
  Plain laws of sessions: what acts come to; the end that was told; no program in sight.
-/
import Derived.Test.YtadobobfjnmdlaaGreatDoorEm
set_option linter.unnecessarySimpa false
set_option linter.unusedVariables false
set_option linter.unusedSimpArgs false
set_option maxHeartbeats 16000000
set_option maxRecDepth 100000
open Go.Proofs.Tryz
namespace Go.Proofs.YtadobobfjnmdlaaGreatDoor
structure Ac where
 d:UInt8
 o:UInt8
 t:List UInt8
def cn (l:List Ac):Nat:=(l.map λa=>a.t.length).sum
def gR (l:List Ac):Bool:=decide (120<l.length)||(l.any (λa=>decide (3000<a.t.length))||decide (15000<cn l))
theorem vR (l:List Ac)(a:Ac):cn (l++[a])=cn l+a.t.length:=by unfold cn;simp
theorem nT (l:List Ac)(i:Nat)(h:i<l.length):cn (l.take (i+1))=cn (l.take i)+l[i].t.length:=by
 rw[List.take_succ_eq_append_getElem h,vR]
theorem CE (l:List Ac)(i:Nat):cn (l.take i)≤cn l:=by
 have e:cn l=cn (l.take i)+cn (l.drop i):=by
  unfold cn;rw[←List.sum_append,←List.map_append,List.take_append_drop]
 omega
open Go.RowKit Go.Shelf
attribute [local go_sem] Oper.semAt_some
def ActsAt (W:World)(p:Option Addr)(l:List Ac):Prop :=
 ∀(i:Nat) (h:i<l.length),∃b off,p=some ⟨b,off,none⟩∧W.cell? ⟨b,off+i*3,none⟩=some (.int .u8 l[i].d.toNat)∧W.cell? ⟨b,off+i*3+1,none⟩=some (.int .u8 l[i].o.toNat)∧W.cell? ⟨b,off+i*3+2,none⟩=some (.string ⟨l[i].t.toArray⟩)
theorem ActsAt.gr {W a:World}{p:Option Addr}{l:List Ac}(h:ActsAt W p l)(g:Gr W a):ActsAt a p l:=λi hi=>by
 obtain⟨b,off,e,c,d,f⟩:=h i hi;exact⟨b,off,e,g.cell c,g.cell d,g.cell f⟩
def CF (W:World)(l:List Ac)(n i:Value)(wr:World):Prop :=
 ∃k:Nat,k≤l.length∧i=.int .i64 k∧n=.int .i64 (cn (l.take k))∧(∀j (hj:j<l.length),j<k→l[j].t.length≤3000)∧cn (l.take k)≤3000*k∧wr=W
theorem tD (p:Option Addr)(cap:Nat)(l:List Ac)(W:World)(h:ActsAt W p l)(hl:l.length≤9223372036854775807) :
  Calls prog 9 #[.slice p l.length cap] W λe w'=>e=.returned (.bool (gR l))∧W=w':=by
 by_cases f:120<l.length
 ·have S:(120:Int)<l.length:=by omega
  have y:=qq (show gR l=true by unfold gR;rw[decide_eq_true f];rfl);clear f h;go_enter func9,ntmps9;go_wp2;go_ret;exact⟨by rw[y.out];rfl,rfl⟩
 ·have S:¬(120:Int)<l.length:=by omega
  have R:=qq h;have d:=qq f;clear h f;go_enter func9,ntmps9;go_upto_region 5 with(fail);go_loopw [3,4] (λn i wr=>CF W l n i wr) (λ_ i _=>l.length - (intOf i).toNat)
  case atStart=>exact⟨0,qx _,rfl,rfl,λj z h=>absurd h (Nat.not_lt_zero _),qx _,rfl⟩
  case round =>
   obtain⟨k,X,rfl,rfl,F,v,rfl⟩:=hrel;have g:=qq F;have c:=qq v;clear F v;by_cases s:k<l.length
   ·have V:(k:Int)<l.length:=(by omega);obtain⟨b,off,rfl,c0,c1,c2⟩:=R.out k s;have hn:=qq (nT l k s);have J:=qq (show ∃a,a=l[k]from⟨_,rfl⟩);obtain⟨a,B⟩:=J.out;rw[←B]at c0 c1 c2 hn;have C:=qq B;clear B J;by_cases L:3000<a.t.length
    ·have M:(3000:Int)<a.t.length:=(by omega);have y:=qq (show gR l=true by
      have:l.any (λa=>decide (3000<a.t.length))=true:=List.any_eq_true.2 ⟨l[k],List.getElem_mem s,by rw[←C.out];exact decide_eq_true L⟩;unfold gR;rw[this];simp)
     clear L;go_wp2;go_ret;exact⟨by rw[y.out];rfl,rfl⟩
    ·have M:¬(3000:Int)<a.t.length:=(by omega);have D:(cn (l.take k):Int)+(a.t.length:Int)=((cn (l.take (k+1)):Nat):Int):=(by have:=hn.out;omega);have N:IntKind.i64.wrap ((cn (l.take (k+1)):Nat):Int)=((cn (l.take (k+1)):Nat):Int):=IntWalk.i64_in _ (by have:=hn.out;have:=c.out;have:=d.out;omega);have I:=qq (show ∀j (z:j<l.length),j<k+1→l[j].t.length≤3000 from λj z U=>by
      by_cases e:j=k
      ·subst e;rw[←C.out];omega
      ·exact g.out j z (by omega))
     have o:=qq (show cn (l.take (k+1))≤3000*(k+1) by have:=hn.out;have:=c.out;omega);obtain⟨w,m⟩:∃w,cn (l.take k)=w:=⟨_,rfl⟩;obtain⟨P,x⟩:∃P,cn (l.take (k+1))=P:=⟨_,rfl⟩;rw[m]at D;rw[x]at D N;have T:=qq (show P≤400000 by have:=o.out;have:=d.out;omega);have E:=qq x;rw[m];clear hn c g L x;go_wp2;go_roundw
     case rel=>exact⟨k+1,s,by go_num,by rw[E.out],I.out,o.out,rfl⟩
     case measure=>simp[intOf];omega
   ·obtain rfl:k=l.length:=(by omega);rw[List.take_length]at c ⊢;have u:l.any (λa=>decide (3000<a.t.length))=false:=by
     rw[List.any_eq_false];intro a B;obtain⟨j,z,rfl⟩:=List.getElem_of_mem B;have:=g.out j z z;simp;omega
    have y:=qq (show gR l=decide (15000<cn l) by unfold gR;rw[decide_eq_false d.out,u];rfl);obtain⟨w,m⟩:∃w,cn l=w:=⟨_,rfl⟩;rw[m]at y ⊢;clear u g c m;by_cases r:15000<w
    ·have A:(15000:Int)<w:=(by omega);have O:=qq (decide_eq_true r);clear r;go_wp2;go_ret;exact⟨by rw[y.out,O.out];rfl,rfl⟩
    ·have A:¬(15000:Int)<w:=(by omega);have O:=qq (decide_eq_false r);clear r;go_wp2;go_ret;exact⟨by rw[y.out,O.out];first | rfl | exact congrArg (λq=>Ending.returned (Value.bool q)) (decide_eq_false (by omega)),rfl⟩
open Go.Lib
section
open Go.ChangeShapes Go.WideShapes Go.Deep
variable {H:Type} {enc:TypeId×Value→H}
theorem zU:∃a b c,prog.underlying 38=some (.struct #[a,b,c])∧a.type = 5∧b.type = 5∧c.type = 9∧oneCellFields prog #[a,b,c]=true:=⟨_,_,_,underlying38,rfl,rfl,rfl,by kernel_rfl⟩
theorem Ee {W:World}{base:Nat}{v:Value}{d:DataW H}{p:List MemPlace}(U:Value.okWide prog W .any base 30 v)(h:DataW.Trod enc prog W 0 (λ_=>true) true 30 v d p) :
  ∃(l:List Ac) (pa:Option Addr) (cap:Nat),v=.slice pa l.length cap∧ActsAt W pa l∧l.length≤9223372036854775807:=by
 obtain⟨a0,c,e,rfl⟩:=okWide_slice underlying30 U;obtain⟨I,hf⟩:=h;obtain⟨P,R,S,C,D,E,F,m⟩:=zU;rcases kj underlying30 C m (by kernel_rfl) hf with h0 | ⟨a,len,cap,h0,hm,z⟩
 ·rw[show(Value.slice a0 c e).cells.toList=[.slice a0 c e]from rfl,List.cons.injEq,Value.slice.injEq]at h0;obtain⟨⟨rfl,rfl,rfl⟩,_⟩:=h0;exact⟨[],none,0,rfl,λi hi=>absurd hi (Nat.not_lt_zero _),by simp⟩
 ·rw[show(Value.slice a0 c e).cells.toList=[.slice a0 c e]from rfl,List.cons.injEq,Value.slice.injEq]at h0;obtain⟨⟨rfl,rfl,rfl⟩,_⟩:=h0;have key:∀i,i<c→∃x:Ac,W.cell? (a.add (i*3))=some (.int .u8 x.d.toNat)∧W.cell? (a.add (i*3+1))=some (.int .u8 x.o.toNat)∧W.cell? (a.add (i*3+2))=some (.string ⟨x.t.toArray⟩):=λi hi=>by
   obtain⟨v0,y0,Z,c0,J⟩:=z i hi 0 P rfl;obtain⟨v1,y1,n1,c1,L⟩:=z i hi 1 R rfl;obtain⟨v2,y2,n2,c2,M⟩:=z i hi 2 S rfl;rw[D]at J;rw[E]at L;rw[F]at M;obtain⟨z0,e0,_,V⟩:=DataW.trod_int underlying5 J;obtain⟨z1,e1,_,X⟩:=DataW.trod_int underlying5 L;obtain⟨q,e2,_,Y⟩:=DataW.trod_string underlying9 M;simp at e0 e1 e2;subst e0 e1 e2;obtain⟨N,rfl⟩:=xF V;obtain⟨O,rfl⟩:=xF X;refine⟨⟨N,O,q.data.toList⟩,c0,c1,?_⟩;rw[show(⟨(q.data.toList).toArray⟩:ByteArray)=q from Lib.mk_data q];exact c2
  have k:∀i:Fin c,∃x:Ac,W.cell? (a.add (i.1*3))=some (.int .u8 x.d.toNat)∧W.cell? (a.add (i.1*3+1))=some (.int .u8 x.o.toNat)∧W.cell? (a.add (i.1*3+2))=some (.string ⟨x.t.toArray⟩):=λi=>key i.1 i.2
  let g:Fin c→Ac:=λi=>Classical.choose (k i)
  have T:∀i,_:=λi=>Classical.choose_spec (k i);refine⟨List.ofFn g,some a,e,by simp,λi hi=>?_,by simp;exact hm⟩;have j:i<c:=by simpa using hi
  obtain⟨r,s,u⟩:=T ⟨i,j⟩;obtain⟨x0,h0,_⟩:=key 0 (by omega);have A:(List.ofFn g)[i]'hi=g ⟨i,j⟩:=by simp
  rw[A];change W.cell? (a.add (i*3))=some (.int .u8 (g ⟨i,j⟩).d.toNat)at r;change W.cell? (a.add (i*3+1))=some (.int .u8 (g ⟨i,j⟩).o.toNat)at s;change W.cell? (a.add (i*3+2))=some (.string ⟨(g ⟨i,j⟩).t.toArray⟩)at u;obtain⟨b,off,f⟩:=a;have B:f=none:=by
   rw[show(⟨b,off,f⟩:Addr).add (0*3)=⟨b,off,f⟩from rfl]at h0;unfold World.cell? at h0;split at h0
   ·cases f with
    | none=>rfl
    | some y=>simp at h0
   ·cases h0
  subst B;have w:∀n,(⟨b,off,none⟩:Addr).add n=⟨b,off+n,none⟩:=λn=>by
   unfold Addr.add;by_cases h:n=0
   ·subst h;rfl
   ·simp[h]
  rw[w]at r s u;exact⟨b,off,rfl,r,s,u⟩
end
theorem CG {s:Ss}(h:Sok s):Sok (eD s):=by
 unfold eD;split
 ·exact my (s:=dn s) h.x
 ·unfold dD;split
  ·exact h.ends
  ·split
   ·rename_i i d;have f:s.st=2:=by
     unfold cG at d;rw[Bool.and_eq_true]at d;exact eq_of_beq d.1
    obtain⟨c,g,hs⟩:=h.b f;refine⟨h.a,λ_=>⟨cS c,by dsimp only;rw[g];rfl,?_⟩,(h.x.close _).2.1.trans h.e,(h.x.close _).1⟩;unfold cS;split
    ·exact .inr rfl
    ·exact hs
   ·exact h
theorem xP {m:Nat}:∀(a:List (List UInt8)),(∀l∈a,l.length≤m)→(a.flatMap (·++ba)).length≤a.length*(m+2)
 | [],_=>qx _
 | l :: t,h=>by
  have d:=xP t (λx b=>h x (List.mem_cons_of_mem _ b));have c:=h l (List.mem_cons_self ..);rw[List.flatMap_cons,qw,qw,List.length_cons,Nat.succ_mul];have:ba.length=2:=rfl;omega
theorem zV (c:Int):(aU c).length≤40:=by
 unfold aU
 repeat' split
 all_goals decide
section
variable {H:Rq→Rp} {limit:Nat}
end
def PW (w:World)(c:Int)(fs:List Fl)(W:World):Prop :=
 ∃v,W.cell? ⟨w.heap.size,0,none⟩=some (.int .i64 c)∧W.cell? ⟨w.heap.size,1,none⟩=some v∧W.cell? ⟨w.heap.size,2,none⟩=some (.string ⟨#[]⟩) ∧
  OwnF (w.heap.size+1) W v fs∧(∀o,W.frozen? ⟨w.heap.size,o,none⟩=false)∧w.heap.size<W.heap.size∧Gr w W
theorem PW.gr {w W b:World}{c:Int}{fs:List Fl}(h:PW w c fs W)(a:Gr W b):PW w c fs b:=by
 obtain⟨v,h0,e,f,g,hf,d,i⟩:=h;exact⟨v,a.cell h0,a.cell e,a.cell f,g.ch (a.to_ch (λ_=>False)) (λ_ h=>h.elim),λo=>(Below.frozen a (show(⟨w.heap.size,o,none⟩:Addr).block<W.heap.size from d)).trans (hf o),qj d (Below.size a),i.trans a⟩
theorem PW.w {w W:World}{c:Int}{fs:List Fl}(h:PW w c fs W):Gr w W:=by
 obtain⟨v,h0,b,d,e,hf,f,a⟩:=h;exact a
theorem PW.push {w W b:World}{c:Int}{fs:List Fl}{f:Fl}{v n:Value}{o:Obj}(h0:W.cell? ⟨w.heap.size,0,none⟩=some (.int .i64 c))(t:W.cell? ⟨w.heap.size,1,none⟩=some v)(A:W.cell? ⟨w.heap.size,2,none⟩=some (.string ⟨#[]⟩))
  (x:OwnF (w.heap.size+1) W v fs) (hf:∀o,W.frozen? ⟨w.heap.size,o,none⟩=false) (y:w.heap.size<W.heap.size) (B:Gr w W) (d:OwnF (w.heap.size+1) b n (fs++[f])) (g:(W.alloc o).grownBy b v.ownBlock) :
  PW w c (fs++[f]) (b.setCell ⟨w.heap.size,1,none⟩ n)∧b.cell? ⟨w.heap.size,1,none⟩=some v∧b.frozen? ⟨w.heap.size,1,none⟩=false:=by
 have a:=Ch.of_grown g;have q:=Gr.alloc W o;have i:w.heap.size<(W.alloc o).heap.size:=qj y (Below.size q);have l:v.ownBlock≠some w.heap.size:=λe=>by have:=(World.ownsRow.lt x _ e).1;omega
 have m:n.ownBlock≠some w.heap.size:=λe=>by have:=(World.ownsRow.lt d _ e).1;omega
 have r:∀ {j u},W.cell? ⟨w.heap.size,j,none⟩=some u→b.cell? ⟨w.heap.size,j,none⟩=some u:=fun {j u} h=>(a.cell (p:=⟨w.heap.size,j,none⟩) i l).trans (q.cell h);have z:∀j,b.frozen? ⟨w.heap.size,j,none⟩=false:=λj=>(a.frozen (p:=⟨w.heap.size,j,none⟩) i l).trans ((Below.frozen q (show(⟨w.heap.size,j,none⟩:Addr).block<W.heap.size from y)).trans (hf j));have s:Gr w b:=(B.trans q).ch a (λk e=>by have:=(World.ownsRow.lt x _ e).1;omega);refine⟨⟨n,?_,?_,?_,d.put m n,λo=>by simp[go_sem,z],?_,s.setCell (qv _) _⟩,r t,z 1⟩
 ·simp[go_sem,r h0]
 ·simp[go_sem,r t]
 ·simp[go_sem,r A]
 ·have:=a.size;simpa using qj i this
def rdR (x:Rd10):Rp:=match x with
 | .good r _ _=>r
 | .bad _=>⟨0,[],[]⟩
def rdC (x:Rd10):Bool:=match x with
 | .good _ c _=>c
 | .bad _=>false
def rdN (x:Rd10):Nat:=match x with
 | .good _ _ n=>n
 | .bad _=>0
def rdE (x:Rd10):Nat:=match x with
 | .good _ _ _=>0
 | .bad e=>e
def rdV (x:Rd10)(v:Value):Value:=.tuple #[(rdR x).V v,.bool (rdC x),.int .i64 (rdN x),.int .i64 (rdE x)]
def fK (x:Rd10)(w:World)(e:Ending)(w':World):Prop:=∃v,e=.returned (rdV x v)∧FieldsAt w' v (rdR x).fs∧Gr w w'
theorem qW (n:Nat)(z:Int)(b:z=n){x:Rd10}(a:x=.bad n){w w':World}(h:Gr w w'):fK x w (.returned (.tuple #[.agg #[.int .i64 0,.slice none 0 0,.string ⟨#[]⟩],.bool false,.int .i64 0,.int .i64 z])) w':=by
 subst b a;exact⟨.slice none 0 0,rfl,bN _ _,h⟩
theorem FieldsAt.put' {W:World}{a:Option Addr}{n cap:Nat}{fs:List Fl}(h:FieldsAt W (.slice a n cap) fs){b:Nat}(g:∀p:Addr,a=some p→p.block≠b)(o:Nat)(u:Value):FieldsAt (W.setCell ⟨b,o,none⟩ u) (.slice a n cap) fs:=by
 cases a with
 | none =>
  obtain⟨l,c9,d,e⟩:=h;injection d with d c _;refine⟨none,cap,by rw[c],λi hi=>?_⟩;obtain⟨j,k,f,_⟩:=e i hi;rw[←d]at f;cases f
 | some p=>exact h.put (g p rfl) u
theorem vS {s:List UInt8}{head:Bool}(h:Lib.index s ar = -1):aP s head=if s.length<65536 then .bad 7 else .bad 8:=by
 unfold aP;rw[if_pos h]
theorem CH {s:List UInt8}{head:Bool}{i:Nat}(h:Lib.index s ar=i):aP s head=match fH (au (s.take i))with
  | none=>.bad 8
  | some (c,fs,close,n)=>if s.length<i+4+(if head then 0 else n.getD 0) then .bad 7 else .good ⟨c,fs,(s.drop (i+4)).take (if head then 0 else n.getD 0)⟩ close (i+4+(if head then 0 else n.getD 0)):=by
 unfold aP;rw[h,if_neg (by omega),Int.toNat_natCast];rfl
theorem Ef (c:UInt8)(w:World):Calls prog 87 #[.int .u8 c.toNat] w λe w'=>e=.returned (.int .u8 (aY c).toNat)∧w=w':=by
 have a:=qq (ix c);go_enter func87,ntmps87;go_wp2;all_goals go_ret
 all_goals refine⟨?_,rfl⟩
 all_goals rw[a.out]
 all_goals (first | rw[if_neg (by omega)] | rw[if_pos (by omega)])
 all_goals rfl
def lenOf:Value→Nat | .string s=>s.size | _=>0
theorem CI (l:List UInt8)(w:World)(hl:l.length≤9223372036854775807) :
  Calls prog 86 #[.string ⟨l.toArray⟩] w λe w'=>e=.returned (.string ⟨(bm l).toArray⟩)∧w=w':=by
 have n:=qq (na l);go_enter func86,ntmps86;go_wp2;go_loop [0] (λt=>∃x:List UInt8,t=.string ⟨x.toArray⟩∧x.length≤l.length∧cM x=cM l) (λt=>lenOf t)
 case atStart=>exact⟨l,rfl,qv _,rfl⟩
 case round =>
  obtain⟨x,rfl,P,U⟩:=hrel;have C:=qq U;clear U;have v:(x.length=0∨∃h:0<x.length,ay x[0]=false)∨∃h:0<x.length,ay x[0]=true:=by
   cases x with
   | nil=>exact .inl (.inl rfl)
   | cons c t =>
    cases h:ay c
    ·exact .inl (.inr ⟨by simp,h⟩)
    ·exact .inr ⟨by simp,h⟩
  rcases v with u | ⟨h0,I⟩
  ·have p:cM x=x:=by
    rcases u with h | ⟨h,E⟩
    ·rw[List.eq_nil_of_length_eq_zero h];rfl
    ·cases x with
     | nil=>rfl
     | cons c t=>exact cI E
   have o:=qq p;clear p;have A:x.length=0∨∃h:0<x.length,(((((⟨x.toArray⟩:ByteArray)[0]'(by rw[aj];exact h)).toNat:Nat):Int)==9)=false∧(((((⟨x.toArray⟩:ByteArray)[0]'(by rw[aj];exact h)).toNat:Nat):Int)==32)=false:=by
    rcases u with h | ⟨h,E⟩
    ·exact .inl h
    ·refine .inr ⟨h,?_⟩;rw[iu]at E;simp at E;exact⟨qk.2 E.1,qk.2 E.2⟩
   clear u;rcases A with h0 | ⟨h0,f,b⟩;(all_goals go_wp2);all_goals
    (try clear f b);(try clear h0);go_loop [0] (λt=>∃y:List UInt8,t=.string ⟨y.toArray⟩∧y.length≤l.length∧bU y=bU x) (λt=>lenOf t)
    case atStart=>exact⟨x,rfl,P,rfl⟩
    case round =>
     obtain⟨y,rfl,Z,V⟩:=hrel;have m:=qq V;clear V;by_cases hn:y.length=0
     ·have R:=qq (List.eq_nil_of_length_eq_zero hn);go_wp2;go_ret;refine⟨?_,rfl⟩;have:bm l=y:=(by rw[n.out,←C.out,o.out,←m.out,R.out];rfl);rw[this];rfl
     ·obtain⟨k,X⟩:∃k,y.length=k+1:=⟨y.length - 1,by omega⟩;have M:k<y.length:=(by omega);obtain⟨d,W⟩:∃d,(⟨y.toArray⟩:ByteArray)[k]'(by rw[aj];exact M)=d:=⟨_,rfl⟩;have s:=qq (show y[k]=d from W);obtain⟨F,S⟩:∃F,(⟨y.toArray⟩:ByteArray).extract 0 k=⟨F.toArray⟩∧F=y.take k:=⟨y.take k,by rw[av];simp,rfl⟩;obtain⟨a0,D⟩:=S;have r:=qq D;have z:=qq X;have q:F.length<y.length:=(by rw[D];simp;omega);clear D;clear hn;rcases(by
       by_cases f:(d.toNat:Int)=9
       ·exact .inr (.inl (by simp[f]))
       ·by_cases b:(d.toNat:Int)=32
        ·exact .inr (.inr ⟨qk.2 f,by simp[b]⟩)
        ·exact .inl ⟨qk.2 f,qk.2 b⟩:(((d.toNat:Int)==9)=false∧((d.toNat:Int)==32)=false)∨((d.toNat:Int)==9)=true∨((d.toNat:Int)==9)=false∧((d.toNat:Int)==32)=true)with⟨e9,e32⟩ | e9 | ⟨e9,e32⟩
      ·go_wp2;go_ret;refine⟨?_,rfl⟩;have a:ay d=false:=(by rw[iu];simp only[qk]at e9 e32;simp[e9,e32]);have:bm l=y:=(by rw[n.out,←C.out,o.out,←m.out];exact B8 z.out (by rw[s.out];exact a));rw[this];rfl
      ·have a:ay d=true:=(by rw[iu];simp only[beq_iff_eq]at e9;simp[e9]);have i:=qq a;clear a;go_wp2;go_round
       case rel=>exact⟨F,rfl,by omega,by rw[←m.out,r.out];exact nb z.out (by rw[s.out];exact i.out)⟩
       case measure=>simp only[lenOf,aj];exact q
      ·have a:ay d=true:=(by rw[iu];simp only[beq_iff_eq]at e32;simp[e32]);have i:=qq a;clear a;go_wp2;go_round
       case rel=>exact⟨F,rfl,by omega,by rw[←m.out,r.out];exact nb z.out (by rw[s.out];exact i.out)⟩
       case measure=>simp only[lenOf,aj];exact q
  ·obtain⟨c,T⟩:∃c,(⟨x.toArray⟩:ByteArray)[0]'(by rw[aj];exact h0)=c:=⟨_,rfl⟩;obtain⟨L,j⟩:∃L,x=c :: L:=by
    cases x with
    | nil=>simp at h0
    | cons d t=>exact⟨t,by rw[←T];rfl⟩
   have Y:(⟨x.toArray⟩:ByteArray).extract 1 x.length=⟨L.toArray⟩:=(by rw[av,j];simp);have g:ay c=true:=(by rw[←T];exact I);have J:=qq g;have N:L.length<x.length:=(by rw[j];simp);have O:=qq j;have B:((c.toNat:Int)==9)=true∨((c.toNat:Int)==9)=false∧((c.toNat:Int)==32)=true:=by
    rw[iu]at g;by_cases f:(c.toNat:Int)=9
    ·exact .inl (by simp[f])
    ·refine .inr ⟨qk.2 f,?_⟩;simp[f]at g;simp[g]
   clear I j g;rcases B with f | ⟨f,b⟩;(all_goals go_wp2);all_goals
    go_round
    case rel=>exact⟨L,rfl,by omega,by rw[←C.out,O.out,dX J.out]⟩
    case measure=>simp only[lenOf,aj];exact N
theorem pK {w:World}(c:UInt8)(x:Later (Gr w)):Calls prog 87 #[.int .u8 c.toNat] x.w λe a=>e=.returned (.int .u8 (aY c).toNat)∧∃y:Later (Gr w),a=y.w :=
 Calls.later ((Ef c x.w).mono λ_ _ ⟨b,d⟩=>⟨b,d▸x.ok⟩)
theorem jQ (a b:List UInt8)(w:World)(x:a.length≤9223372036854775807)(u:b.length≤9223372036854775807) :
  Calls prog 54 #[.string ⟨a.toArray⟩,.string ⟨b.toArray⟩] w λe w'=>e=.returned (.bool (an a b))∧Gr w w':=by
 by_cases p:a.length=b.length
 ·go_enter func54,ntmps54;have o:((a.length:Int) != b.length)=false:=by simp[p]
  go_wp2;go_loopw [4,5] (λ_ i wr=>(∃k:Nat,k≤a.length∧i=.int .i64 k∧(a.take k).map aY=(b.take k).map aY)∧Gr w wr) (λ_ i _=>a.length - (intOf i).toNat)
  case atStart=>exact⟨⟨0,qx _,rfl,rfl⟩,Gr.refl _⟩
  case round =>
   obtain⟨⟨k,y,rfl,g⟩,v⟩:=hrel;have d:=qq g;clear g;by_cases j:k<a.length
   ·have f:k<b.length:=(by omega);obtain⟨ca,r⟩:∃c,(⟨a.toArray⟩:ByteArray)[k]'(by rw[aj];exact j)=c:=⟨_,rfl⟩;obtain⟨cb,s⟩:∃c,(⟨b.toArray⟩:ByteArray)[k]'(by rw[aj];exact f)=c:=⟨_,rfl⟩;have l:=qq (show a[k]=ca from r);have m:=qq (show b[k]=cb from s);haveI:Nonempty (Later (Gr w)):=⟨⟨w,Gr.refl w⟩⟩;have t:=v.trans (Gr.drew' _);have next:=qq (show aY ca=aY cb→(a.take (k+1)).map aY=(b.take (k+1)).map aY from λe=>by
     rw[List.take_succ_eq_append_getElem j,List.take_succ_eq_append_getElem f,List.map_append,List.map_append,d.out];simp[l.out,m.out,e])
    have bad:=qq (show aY ca≠aY cb→an a b=false from λh=>sP j f (by rw[l.out,m.out];exact h));go_wp2;refine ah (C:=Gr w) (by kernel_rfl) (by kernel_rfl) t ?_;(repeat (go_big_quiet_step (first | with_reducible exact pK ca _ | with_reducible exact pK cb _)));refine wpQuiet_nil ?_;intro z n;go_wp2
    ·have q:(((aY ca).toNat:Int) != (aY cb).toNat)=true:=(by assumption);go_ret;exact⟨aW (bad.out (λe=>by rw[e]at q;simp at q)).symm,n⟩
    ·have q:(((aY ca).toNat:Int) != (aY cb).toNat)=false:=(by assumption);go_roundw
     case rel=>exact⟨⟨k+1,by omega,by go_num,next.out (zi q)⟩,n⟩
     case measure=>simp[intOf];omega
   ·go_wp2;go_ret;refine⟨aW ?_,v⟩;have h:=d.out;rw[List.take_of_length_le (by omega),List.take_of_length_le (by omega)]at h;unfold an;rw[h];simp
 ·have o:((a.length:Int) != b.length)=true:=by rw[bne_iff_ne];omega
  go_enter func54,ntmps54;go_wp2;go_ret;refine⟨aW ?_,Gr.refl _⟩;unfold an;exact(qk.2 (λe=>p (by simpa using congrArg List.length e))).symm
theorem vT (C:World→Prop)(l:List UInt8)(hl:l.length≤9223372036854775807)(x:Later C):Calls prog 86 #[.string ⟨l.toArray⟩] x.w λe a=>e=.returned (.string ⟨(bm l).toArray⟩)∧∃y:Later C,a=y.w :=
 Calls.later ((CI l x.w hl).mono λ_ _ ⟨b,c⟩=>⟨b,c▸x.ok⟩)
theorem vU (l:List UInt8)(w:World)(hl:l.length≤9223372036854775806) :
  Calls prog 53 #[.string ⟨l.toArray⟩] w λe w'=>e=.returned (eK (ax l))∧Gr w w':=by
 go_enter func53,ntmps53;go_wp2;go_loop [4] (λi=>∃k:Nat,k≤l.length∧i=.int .i64 k∧(l.take k).all fF=true) (λi=>l.length - (intOf i).toNat)
 case atStart=>exact⟨0,qx _,rfl,rfl⟩
 case round =>
  obtain⟨k,N,rfl,t⟩:=hrel;have b:=qq t;clear t;by_cases p:k<l.length
  ·obtain⟨c,hc⟩:∃c,(⟨l.toArray⟩:ByteArray)[k]'(by rw[aj];exact p)=c:=⟨_,rfl⟩;have o:=qq (show l[k]=c from hc);cases Z:fF c;(all_goals have j:=qq Z);all_goals clear Z
   ·by_cases h0:k=0
    ·subst h0;have a:=qq (jB N b.out (.inl rfl) (λh=>by rw[o.out];exact j.out));go_wp2_with (go_at_call 85;refine(gM c _).mono ?_;rintro e w' ⟨rfl,rfl⟩;rw[j.out]);refine bodyPost_ret (v:=eK ([],[],false)) (by simp[results,results53,go_sem,eK]) rfl ⟨by rw[a.out],?_⟩;exact Gr.alloc _ _
    ·have O:((k:Int)==0)=false:=qk.2 (by omega);have P:((k:Int)==l.length)=false:=qk.2 (by omega);by_cases n:(c.toNat:Int)=58
     ·have y:((c.toNat:Int) != 58)=false:=(by simp[n]);have x:=qq n;clear n;go_wp2_with (go_at_call 85;refine(gM c _).mono ?_;rintro e w' ⟨rfl,rfl⟩;rw[j.out]);have D:=qq (Ca p b.out (by omega) (by rw[o.out];exact UInt8.toNat_inj.1 (by have:=x.out;show c.toNat=58;omega)));obtain⟨v,R⟩:∃v,v=l.drop (k+1):=⟨_,rfl⟩;have T:v.length=l.length - (k+1):=(by rw[R];simp);have a0:v.length+(k+1)≤l.length:=(by omega);have a1:l.length≤v.length+(k+1):=(by omega);have s:=qq R;clear T R;go_loop [5] (λi=>∃m:Nat,m≤v.length∧i=.int .i64 (k+1+m:Nat)∧(v.take m).all aT=true) (λi=>l.length - (intOf i).toNat)
      case atStart=>exact⟨0,qx _,rfl,rfl⟩
      case round =>
       obtain⟨m,hm,rfl,E⟩:=hrel;have u:=qq E;clear E;by_cases B:m<v.length
       ·have M:k+1+m<l.length:=(by omega);obtain⟨d,hd⟩:∃d,(⟨l.toArray⟩:ByteArray)[k+1+m]'(by rw[aj];exact M)=d:=⟨_,rfl⟩;have z:=qq (show v[m]=d from by rw[←hd];show v[m]=l[k+1+m];simp[s.out]);cases r:aT d
        ·have g:=qq r;clear r;have a:=qq (show ax l=([],[],false)from by rw[D.out,←s.out,gu B (by rw[z.out];exact g.out)];rfl);have f:((d.toNat:Int) != 9)=true∧((d.toNat:Int)<32∨(32≤(d.toNat:Int)∧((d.toNat:Int)==127)=true)):=by
          have:=g.out;rw[qS]at this;simp at this;refine⟨by rw[bne_iff_ne];exact this.1,?_⟩;by_cases J:(d.toNat:Int)<32
          ·exact .inl J
          ·exact .inr ⟨by omega,by rw[beq_iff_eq];have:=this.2 (by omega);omega⟩
         obtain⟨t9,(I | ⟨I,F⟩)⟩:=f;(all_goals go_wp2);(all_goals refine bodyPost_ret (v:=eK ([],[],false)) (by simp[results,results53,go_sem,eK]) rfl ⟨by rw[a.out],?_⟩);all_goals exact Gr.alloc _ _
        ·have g:=qq r;clear r;have f:((d.toNat:Int) != 9)=false∨((d.toNat:Int) != 9)=true∧32≤(d.toNat:Int)∧((d.toNat:Int)==127)=false:=by
          have:=g.out;rw[qS]at this;simp only[decide_eq_true_eq]at this;rcases this with h | ⟨h1,h2⟩
          ·exact .inl (by simp[h])
          ·exact .inr ⟨by rw[bne_iff_ne];omega,h1,qk.2 h2⟩
         obtain t9 | ⟨t9,I,F⟩:=f;(all_goals go_wp2);all_goals
          go_round
          case rel=>exact⟨m+1,by omega,by go_num,cP u.out B (by rw[z.out];exact g.out)⟩
          case measure=>simp[intOf];omega
       ·have S:=qq (show v.all aT=true from by rw[←u.out,List.take_of_length_le (by omega)]);have a:=qq (show ax l=(l.take k,bm v,true)from by rw[D.out,←s.out,S.out];rfl);have U:(⟨l.toArray⟩:ByteArray).extract 0 k=⟨(l.take k).toArray⟩:=(by rw[av];simp);have a3:(⟨l.toArray⟩:ByteArray).extract (k+1) l.length=⟨v.toArray⟩:=(by rw[av,s.out];simp);obtain⟨X,q⟩:∃X,l.take k=X:=⟨_,rfl⟩;have V:=qq q;rw[q]at U;clear q;go_wp2;obtain⟨W,Y⟩:∃W,w.alloc (Obj.cells #[Value.string { data:=#[] },Value.string { data:=#[] }] 80)=W:=⟨_,rfl⟩;rw[Y];haveI:Nonempty (Later (Gr W)):=⟨⟨W,Gr.refl W⟩⟩;refine ak (C:=Gr W) 9 (by kernel_rfl) (by kernel_rfl) (Gr.drew' _) ?_;simp only[List.take_succ_cons,List.take_zero,List.drop_succ_cons,List.drop_zero];(repeat (go_big_quiet_step (exact vT (Gr W) v (by omega) _)));refine wpQuiet_nil ?_;intro w2 A;obtain⟨L,a2⟩:=A.bcell;subst Y;go_wp2;refine bodyPost_ret (v:=eK (X,bm v,true)) (by simp[results,results53,go_sem,eK,L]) rfl ⟨by rw[a.out,V.out],?_⟩;exact(((Gr.alloc w _).trans A).setCell (qv _) _).setCell (qv _) _
     ·have y:((c.toNat:Int) != 58)=true:=(by rw[bne_iff_ne];exact n);have a:=qq (jB N b.out (.inr (.inr ⟨p,λe=>n (by rw[o.out]at e;rw[e];rfl),by rw[o.out];exact j.out⟩)) (λh=>by rw[o.out];exact j.out));clear n;go_wp2_with (go_at_call 85;refine(gM c _).mono ?_;rintro e w' ⟨rfl,rfl⟩;rw[j.out]);refine bodyPost_ret (v:=eK ([],[],false)) (by simp[results,results53,go_sem,eK]) rfl ⟨by rw[a.out],?_⟩;exact Gr.alloc _ _
   ·go_wp2_with (go_at_call 85;refine(gM c _).mono ?_;rintro e w' ⟨rfl,rfl⟩;rw[j.out]);go_round
    case rel=>exact⟨k+1,by omega,by go_num,cP b.out p (by rw[o.out];exact j.out)⟩
    case measure=>simp[intOf];omega
  ·have P:((k:Int)==l.length)=true:=(by rw[beq_iff_eq];omega);have a:=qq (jB N b.out (.inr (.inl (by omega))) (λh=>absurd h p));by_cases h0:k=0
   ·subst h0;go_wp2;refine bodyPost_ret (v:=eK ([],[],false)) (by simp[results,results53,go_sem,eK]) rfl ⟨by rw[a.out],?_⟩;exact Gr.alloc _ _
   ·have O:((k:Int)==0)=false:=qk.2 (by omega);go_wp2;refine bodyPost_ret (v:=eK ([],[],false)) (by simp[results,results53,go_sem,eK]) rfl ⟨by rw[a.out],?_⟩;exact Gr.alloc _ _
def Ff:List UInt8:=[99,111,110,116,101,110,116,45,108,101,110,103,116,104]
def Fg:List UInt8:=[116,114,97,110,115,102,101,114,45,101,110,99,111,100,105,110,103]
def CJ:List UInt8:=[99,111,110,110,101,99,116,105,111,110]
theorem Eg (a:List UInt8):an a Ff=an a dq∧an a Fg=an a ky∧an a CJ=an a cx:=by
 have e1:Ff.map aY=dq.map aY:=by decide +kernel
 have e2:Fg.map aY=ky.map aY:=by decide +kernel
 have e3:CJ.map aY=cx.map aY:=by decide +kernel
 unfold an;rw[e1,e2,e3];exact⟨rfl,rfl,rfl⟩
def sV (x:List UInt8):Value:=.string ⟨x.toArray⟩
theorem EM:(prog.info? 9).map (λi=>(i.zero,i.size,i.bytes))=some (some (.string ⟨#[]⟩),1,16):=by kernel_rfl
