/-
  A session in memory: a new one.
-/
import Derived.Test.YtadobobfjnmdlaaGreatDoorEh
import Derived.Lib.BufferRead
import Derived.LoopTactic
set_option linter.unnecessarySimpa false
set_option linter.unusedVariables false
set_option linter.unusedSimpArgs false
set_option maxHeartbeats 16000000
set_option maxRecDepth 100000
open Go.Proofs.Tryz
namespace Go.Proofs.YtadobobfjnmdlaaGreatDoor
open Go.RowKit Go.Shelf
attribute [local go_sem] Oper.semAt_some
theorem EQ {g:Nat}{y:Array Value}(W:World)(F:G W)(q limit:Nat)(D:1≤q)(E:q≤64)(h:limit≤1099511627776) :
  Calls prog 10 #[.func (.func g) #[] y,.int .i64 q,.int .i64 limit] W λe w'=>∃b,e=.returned (.tuple #[.pointer (some ⟨b,0,none⟩),.int .i64 0])∧bT b (.func (.func g) #[] y) (New W w') w' (ss0 q limit)∧Gr W w':=by
 have L:=qq (CT q W D E);have R:=qq (λW=>xA W limit h);have s:=qq F;have N:=λ(w:World) f x c=>lu (P:=prog) w underlying62 f x c;clear F D E h;go_enter func10,ntmps10;go_wp2_with fail;refine L.out.mono ?_;rintro e n⟨l,rfl,J,A⟩;have u:=qq J;have i:=qq A;clear J A;go_wp2_with fail;refine(R.out n).mono ?_;rintro e z⟨S,rfl,_,B⟩;have d:=qq B;clear B;have O:=qq (AW (s.out.gr (i.out.trans d.out)));go_wp2_with fail;refine O.out.mono ?_;rintro e w3⟨m,rfl,I,C⟩;have t:=qq I;have j:=qq C;clear I C;go_wp2;refine bodyPost_ret (v:=.tuple #[.pointer (some ⟨w3.heap.size,0,none⟩),.int .i64 0]) (by simp[results,results10,go_sem]) rfl ?_;obtain⟨p,a⟩:∃p,w3.alloc (.cells #[.func (.func g) #[] y,.int .i64 limit,.int .i64 1,.pointer (some ⟨m,0,none⟩),.pointer none,.pointer (some ⟨l,0,none⟩),.bool false] 67)=p:=⟨_,rfl⟩;rw[a];have r:Gr w3 p:=a▸Gr.alloc _ _;have X:p.heap.size=w3.heap.size+1:=by rw[←a];simp
 have T:=Below.size i.out;have U:=Below.size d.out;have V:=Below.size j.out;have M:=((i.out.trans d.out).trans j.out).trans r;refine⟨_,rfl,⟨⟨λk=>if k=w3.heap.size then 1 else if z.heap.size≤k∧k<w3.heap.size then 2 else if W.heap.size≤k∧k<n.heap.size then 4 else 0,m,l,.pointer none,?_,?_⟩,λk e=>e.2⟩,M⟩
 ·refine⟨by rw[←a];exact aa _ _ _ 0 _ rfl,by rw[←a];exact aa _ _ _ 1 _ rfl,by rw[←a];exact aa _ _ _ 2 _ rfl,by rw[←a];exact aa _ _ _ 3 _ rfl,by rw[←a];exact aa _ _ _ 4 _ rfl,by rw[←a];exact aa _ _ _ 5 _ rfl,by rw[←a];exact aa _ _ _ 6 _ rfl,
   λo=>by rw[←a];exact World.frozen?_alloc_at _ _ _ _ rfl,if_pos rfl,?_,rfl,?_,?_⟩
  ·refine(lG m).mono ((lG m).gr t.out r) (λk e=>?_) (λk e=>?_)
   ·show(if k=w3.heap.size then 1 else if z.heap.size≤k∧k<w3.heap.size then 2 else if W.heap.size≤k∧k<n.heap.size then 4 else 0)=2;rw[if_neg (by have:=e.2;omega),if_pos ⟨e.1,e.2⟩]
   ·(try dsimp only at e);split at e
    ·cases e
    ·split at e
     ·omega
     ·split at e <;> cases e
  ·refine(eZ l).mono ((eZ l).gr u.out ((d.out.trans j.out).trans r)) (λk e=>?_) (λk e=>?_)
   ·show(if k=w3.heap.size then 1 else if z.heap.size≤k∧k<w3.heap.size then 2 else if W.heap.size≤k∧k<n.heap.size then 4 else 0)=4;have e1:=e.1;have e2:=e.2;rw[if_neg (by omega),if_neg (by omega),if_pos ⟨e1,e2⟩]
   ·(try dsimp only at e);split at e
    ·cases e
    ·split at e
     ·cases e
     ·split at e
      ·omega
      ·cases e
  ·intro k e;(try dsimp only at e);split at e
   ·omega
   ·split at e
    ·omega
    ·split at e
     ·omega
     ·exact absurd rfl e
 ·intro k e;try dsimp only at e
  refine⟨?_,?_⟩ <;> (repeat' split at e) <;> first | omega | exact absurd rfl e
section
variable {H:Rq→Rp} {limit:Nat}
theorem KD.det {k k1:Kern}{t:List UInt8}{l:List (Nat×List UInt8)}(h:KD H limit k t l k1):∀ {d l' c},KD H limit k d l' c→t=d∧l=l'∧k1=c:=by
 induction h with
 | over=>intro d l' c g;cases g;exact⟨rfl,rfl,rfl⟩
 | more h =>
  intro d l' c g;cases g with
  | more _=>exact⟨rfl,rfl,rfl⟩
  | bad g=>rw[h]at g;cases g
  | got g _ _=>rw[h]at g;cases g
  | close g _=>rw[h]at g;cases g
  | up g _ _=>rw[h]at g;cases g
 | bad h =>
  intro d l' c g;cases g with
  | more g=>rw[h]at g;cases g
  | bad g=>rw[h]at g;cases g;exact⟨rfl,rfl,rfl⟩
  | got g _ _=>rw[h]at g;cases g
  | close g _=>rw[h]at g;cases g
  | up g _ _=>rw[h]at g;cases g
 | got h b _ e =>
  intro d l' c g;cases g with
  | more g=>rw[h]at g;cases g
  | bad g=>rw[h]at g;cases g
  | got g a gk =>
   rw[h]at g;cases g;rw[b]at a;cases a;obtain⟨rfl,rfl,rfl⟩:=e gk;exact⟨rfl,rfl,rfl⟩
  | close g a=>rw[h]at g;cases g;rw[b]at a;cases a
  | up g a _=>rw[h]at g;cases g;rw[b]at a;cases a
 | close h b =>
  intro d l' c g;cases g with
  | more g=>rw[h]at g;cases g
  | bad g=>rw[h]at g;cases g
  | got g a _=>rw[h]at g;cases g;rw[b]at a;cases a
  | close g a=>rw[h]at g;cases g;rw[b]at a;cases a;exact⟨rfl,rfl,rfl⟩
  | up g a _=>rw[h]at g;cases g;rw[b]at a;cases a
 | up h b _ e =>
  intro d l' c g;cases g with
  | more g=>rw[h]at g;cases g
  | bad g=>rw[h]at g;cases g
  | got g a _=>rw[h]at g;cases g;rw[b]at a;cases a
  | close g a=>rw[h]at g;cases g;rw[b]at a;cases a
  | up g a gk =>
   rw[h]at g;cases g;rw[b]at a;cases a;obtain⟨rfl,rfl,rfl⟩:=e gk;exact⟨rfl,rfl,rfl⟩
 | sock h =>
  intro d l' c g;cases g with
  | sock g =>
   obtain⟨rfl,rfl⟩:=h.det g;exact⟨rfl,rfl,rfl⟩
inductive KDs (H:Rq→Rp) (limit:Nat):Kern→List (List UInt8)→List UInt8→List (Nat×List UInt8)→Kern→Prop where
 | nil {k:Kern}:KDs H limit k [] [] [] k
 | cons {k k1 k2:Kern} {b:List UInt8} {bs:List (List UInt8)} {t t2:List UInt8} {l l2:List (Nat×List UInt8)} (h:KD H limit (j5 k b) t l k1) (hs:KDs H limit k1 bs t2 l2 k2):KDs H limit k (b :: bs) (t++t2) (l++l2) k2
theorem yj (k:Kern)(a b:List UInt8):j5 k (a++b)=j5 (j5 k a) b:=by
 cases k with
 | http s=>exact congrArg Kern.http (List.append_assoc s a b).symm
 | sock c=>exact congrArg Kern.sock (mO c a b)
 | over=>rfl
theorem KDs.one {k k2:Kern}{b:List UInt8}{a:List (List UInt8)}{t:List UInt8}{l:List (Nat×List UInt8)}(e:KOk k)(h:KDs H limit k (b :: a) t l k2):KD H limit (j5 k (b++a.flatten)) t l k2:=by
 induction a generalizing k b t l with
 | nil =>
  cases h with
  | cons c hs =>
   cases hs with
   | nil=>rw[List.append_nil,List.append_nil,List.flatten_nil,List.append_nil];exact c
 | cons f a i =>
  cases h with
  | cons c hs =>
   have d:=(c.keeps (e.feed b)).1;have g:=i d hs;obtain⟨m,j,k3,e1,e2⟩:=c.feed (e.feed b) (f++a.flatten);obtain⟨rfl,rfl,rfl⟩:=e1.det g;rw[←yj]at e2;exact e2
theorem KDs.same {k k1 k2:Kern}{cs c:List (List UInt8)}{h i:List UInt8}{f g:List (Nat×List UInt8)}(e:KOk k)(m:cs≠[])(n:c≠[])(d:cs.flatten=c.flatten)
  (j:KDs H limit k cs h f k1) (l:KDs H limit k c i g k2):h=i∧f=g∧k1=k2:=by
 cases cs with
 | nil=>exact absurd rfl m
 | cons a cs =>
  cases c with
  | nil=>exact absurd rfl n
  | cons b c =>
   have e1:=KDs.one e j;have e2:=KDs.one e l;have d:a++cs.flatten=b++c.flatten:=d;rw[d]at e1;exact e1.det e2
theorem Rep.feed {s:Ss}{k:Kern}(h:Rep limit s k)(f:KOk k)(b:List UInt8):Rep limit (cE s b) (j5 k b):=by
 cases h with
 | http a hl e c =>
  unfold cE;rw[if_pos a];exact .http a hl (e.feed b) c
 | sock a d c =>
  unfold cE;rw[if_neg (by omega),if_pos a];exact .sock a (by dsimp only;rw[d];rfl) c
 | over a c =>
  unfold cE;rw[if_neg (by omega),if_neg (by omega)];exact .over a c
def stK:Kern→Nat
 | .http _=>1
 | .sock _=>2
 | .over=>3
theorem Rep.st {s:Ss}{k:Kern}(h:Rep limit s k):s.st=stK k:=by cases h <;> assumption
end
def jv:List UInt8→List (List UInt8)
 | []=>[[]]
 | [c]=>[[c]]
 | c :: d :: t=>if c=13∧d=10 then [] :: jv t else match jv (d :: t)with
  | []=>[[c]]
  | l :: r=>(c :: l) :: r
theorem kT:∀s:List UInt8,jv s=au s
 | []=>by simp[jv,au]
 | [c]=>by simp[jv,au]
 | c :: d :: t=>by
  have a:=kT t;have b:=kT (d :: t);unfold jv;rw[au];by_cases h:c=13∧d=10
  ·rw[if_pos h,if_pos (by simpa using h),a];rfl
  ·rw[if_neg h,if_neg (by simpa using h),b];rfl
def FK (s:List UInt8):OneR :=
 if decide (0≤Lib.index s ar)&&decide (Lib.index s ar+4≤2048) then
  match headQ (jv (s.take (Lib.index s ar).toNat))with
  | .bad c=>.bad c
  | .good r n ch =>
   if ch then
    if (feedC ck0 (s.drop ((Lib.index s ar).toNat+4))).2.bad≠0 then .bad (feedC ck0 (s.drop ((Lib.index s ar).toNat+4))).2.bad
    else if (feedC ck0 (s.drop ((Lib.index s ar).toNat+4))).2.st=4 then .got { r with b:=(feedC ck0 (s.drop ((Lib.index s ar).toNat+4))).2.data } ((Lib.index s ar).toNat+4+(feedC ck0 (s.drop ((Lib.index s ar).toNat+4))).1)
    else .more
   else if s.length<(Lib.index s ar).toNat+4+n then .more
   else .got { r with b:=(s.drop ((Lib.index s ar).toNat+4)).take n } ((Lib.index s ar).toNat+4+n)
 else if 2048≤s.length then .bad 431 else .more
theorem xo (s:List UInt8):FK s=bW s:=by
 unfold FK bW;rw[kT];rfl
def aX (r:Rq):Rp :=
 if r.p=[47] then ⟨200,[],[104,111,109,101]⟩ else if r.p=[47,119,115] then ⟨101,[],[]⟩ else if r.p=[47,101,99,104,111] then ⟨200,[([88,45,77,101,116,104,111,100],r.m)],r.b⟩
 else if r.p=[47,98,97,100] then ⟨999,[],[]⟩ else ⟨404,[],[110,111,116,32,102,111,117,110,100]⟩
def rL:List UInt8:=[71,69,84,32,47,32,72,84,84,80,47,49,46,49,13,10,72,111,115,116,58,32,97,13,10,13,10]
def mQ:List UInt8:=[71,69,84,32,47,119,115,32,72,84,84,80,47,49,46,49,13,10,72,111,115,116,58,32,97,13,10,85,112,103,114,97,100,101,58,32,119,101,98,115,111,99,107,101,116,13,10,67,111,110,110,101,99,116,105,111,110,58,32,85,112,103,114,97,100,101,13,10,83,101,99,45,87,101,98,83,111,99,107,101,116,45,75,101,121,58,32,100,71,104,108,73,72,78,104,98,88,66,115,90,83,66,117,98,50,53,106,90,81,61,61,13,10,83,101,99,45,87,101,98,83,111,99,107,101,116,45,86,101,114,115,105,111,110,58,32,49,51,13,10,13,10]
def oC:List UInt8:=[137,129,1,2,3,4,121]
def pc:List UInt8:=[72,84,84,80,47,49,46,49,32,50,48,48,32,79,75,13,10,67,111,110,116,101,110,116,45,76,101,110,103,116,104,58,32,52,13,10,13,10,104,111,109,101]
def mR:List UInt8:=[72,84,84,80,47,49,46,49,32,49,48,49,32,83,119,105,116,99,104,105,110,103,32,80,114,111,116,111,99,111,108,115,13,10,85,112,103,114,97,100,101,58,32,119,101,98,115,111,99,107,101,116,13,10,67,111,110,110,101,99,116,105,111,110,58,32,85,112,103,114,97,100,101,13,10,83,101,99,45,87,101,98,83,111,99,107,101,116,45,65,99,99,101,112,116,58,32,115,51,112,80,76,77,66,105,84,120,97,81,57,107,89,71,122,122,104,90,82,98,75,43,120,79,111,61,13,10,13,10]
def ja:List UInt8:=rL++(mQ++oC)
def ER:Rq:=⟨[71,69,84],[47],[],11,[([72,111,115,116],[97])],[],false⟩
def FL:Rq:=⟨[71,69,84],[47,119,115],[],11,[([72,111,115,116],[97]),([85,112,103,114,97,100,101],[119,101,98,115,111,99,107,101,116]),([67,111,110,110,101,99,116,105,111,110],[85,112,103,114,97,100,101]),([83,101,99,45,87,101,98,83,111,99,107,101,116,45,75,101,121],[100,71,104,108,73,72,78,104,98,88,66,115,90,83,66,117,98,50,53,106,90,81,61,61]),([83,101,99,45,87,101,98,83,111,99,107,101,116,45,86,101,114,115,105,111,110],[49,51])],[],false⟩
theorem Bl:bW ja=.got ER rL.length:=by rw[←xo];kernel_rfl
theorem Bm:bW (mQ++oC)=.got FL mQ.length:=by rw[←xo];kernel_rfl
def yk:Ss:=⟨100,1,{ ps0 with inp:=ja },none,bx0 2,true⟩
def uv:Ss:=⟨100,1,{ ps0 with inp:=mQ++oC },none,{ bx0 2 with reps:=[pc] },true⟩
def ym:Ss:=⟨100,2,ps0,some (aN (wn0 100) oC),{ bx0 2 with reps:=[pc,mR] },true⟩
def wkC:Wn:=⟨⟨0,[],mkH oC,1⟩,jn0 100,1,0,[120]⟩
def oD:Ss:=⟨100,2,ps0,some wkC,{ bx0 2 with reps:=[pc,mR],pong:=some [120] },true⟩
theorem rM {H:Rq→Rp}{s:Ss}{b:List UInt8}{r:Rq}{n:Nat}(hs:Stands s.p b)(h:bW b=.got r n):cF H s=((aZ H { s with p:={ ps0 with inp:=b.drop n } } r).1,some (aZ H { s with p:={ ps0 with inp:=b.drop n } } r).2):=by
 have hn:=hs.next;unfold eT at hn;rw[h]at hn;obtain⟨e1,e2⟩:=hn;unfold cF;rw[show bu s.p=((bu s.p).1,(bu s.p).2)from rfl,e1,e2]
theorem kU:cE (ss0 2 100) ja=yk:=by kernel_rfl
theorem xp {H:Rq→Rp}{s a:Ss}{e:Sev}(b:cW s=true)(c:s.st=1)(d:a.st≠3)(h:cF H s=(a,some e)):bj H s=(a,some e):=by
 unfold bj;rw[b,if_neg (by decide),if_pos c,h];simp[d]
theorem jw:bj aX yk=(uv,some .done):=by
 refine xp rfl rfl (by decide) ?_;rw[rM (s:=yk) (b:=ja) (.fresh rfl) Bl];kernel_rfl
theorem jx:bj aX uv=(ym,some .upgraded):=by
 refine xp rfl rfl (by decide) ?_;rw[rM (s:=uv) (b:=mQ++oC) (.fresh rfl) Bm];kernel_rfl
theorem jy:bj aX ym=(oD,some .done):=by kernel_rfl
theorem uw:cG oD=true:=rfl
def yn:Ss:={ oD with x:={ bx0 2 with reps:=[mR],pong:=some [120] } }
def yo:Ss:={ oD with x:={ bx0 2 with pong:=some [120] } }
def Bn:Ss:={ oD with x:=bx0 2 }
theorem kV:bR oD=(yn,some (pc,false)):=rfl
theorem kW:bR yn=(yo,some (mR,false)):=rfl
theorem kX:bR yo=(Bn,some ([138,1,120],false)):=by kernel_rfl
theorem uy:iL Bn.x=false:=rfl
theorem rN {r:Rq}(h:RqSm r):uf (aX r):=by
 obtain⟨_,_,a,_,_,g⟩:=h;have nil:∀(c:Int) (b:List UInt8),b.length≤1000000→-9223372036854775808≤c→c≤9223372036854775807→uf ⟨c,[],b⟩:=λc b d e a=>⟨qx _,(λf hf=>by cases hf),d,e,a⟩;unfold aX;split
 ·exact nil _ _ (by decide) (by decide) (by decide)
 ·split
  ·exact nil _ _ (by decide) (by decide) (by decide)
  ·split
   ·refine⟨by(show 1≤1000000;decide),?_,qy g (by decide),by(show -9223372036854775808≤(200:Int);decide),by(show(200:Int)≤9223372036854775807;decide)⟩;intro f hf;rcases List.mem_cons.1 hf with rfl | hf
    ·exact⟨by(show 8≤1000000;decide),qy a (by decide)⟩
    ·cases hf
   ·split
    ·exact nil _ _ (by decide) (by decide) (by decide)
    ·exact nil _ _ (by decide) (by decide) (by decide)
theorem oE (W:World)(n v:List UInt8)(t:TypeId){a:World}(g:Gr (W.alloc (.cells #[.string ⟨n.toArray⟩,.string ⟨v.toArray⟩] t)) a):FieldsAt a (.slice (some ⟨W.heap.size,0,none⟩) 1 1) [(n,v)] :=
 ⟨some ⟨W.heap.size,0,none⟩,1,rfl,λi hi=>by
  match i,hi with
  | 0,_=>exact⟨W.heap.size,0,rfl,g.cell (aa _ _ _ 0 _ rfl),g.cell (aa _ _ _ 1 _ rfl)⟩⟩
theorem yp (W0:World):Hnd 11 #[] (λ_=>False) aX W0:=by
 refine⟨λ_ e=>e.elim,enters_of func11 (by kernel_rfl) rfl,?_,λr h=>rN h⟩;intro W r s _ _ hf _;obtain⟨n,g,rfl,_⟩:=hf;show Calls prog 11 #[r.V (.slice n r.fs.length g)] W _;unfold Rq.V;by_cases h0:r.p=[47]
 ·have f:=qq (show aX r=⟨200,[],[104,111,109,101]⟩ by unfold aX;rw[if_pos h0]);have j:(r.p==[47])=true:=beq_iff_eq.2 h0;clear h0;go_enter func11,ntmps11;go_wp2;refine bodyPost_ret (v:=.agg #[.int .i64 200,.slice none 0 0,.string ⟨#[104,111,109,101]⟩]) (by simp[results,results11,go_sem]) rfl ?_;rw[f.out];exact⟨.slice none 0 0,rfl,bN _ 0,(Gr.alloc _ _).alloc1 _⟩
 by_cases a:r.p=[47,119,115]
 ·have f:=qq (show aX r=⟨101,[],[]⟩ by unfold aX;rw[if_neg h0,if_pos a]);have j:(r.p==[47])=false:=beq_false_of_ne h0;have k:(r.p==[47,119,115])=true:=beq_iff_eq.2 a;clear h0 a;go_enter func11,ntmps11;go_wp2;refine bodyPost_ret (v:=.agg #[.int .i64 101,.slice none 0 0,.string ⟨#[]⟩]) (by simp[results,results11,go_sem]) rfl ?_;rw[f.out];exact⟨.slice none 0 0,rfl,bN _ 0,(Gr.alloc _ _).alloc1 _⟩
 by_cases d:r.p=[47,101,99,104,111]
 ·have f:=qq (show aX r=⟨200,[([88,45,77,101,116,104,111,100],r.m)],r.b⟩ by unfold aX;rw[if_neg h0,if_neg a,if_pos d]);have j:(r.p==[47])=false:=beq_false_of_ne h0;have k:(r.p==[47,119,115])=false:=beq_false_of_ne a;have l:(r.p==[47,101,99,104,111])=true:=beq_iff_eq.2 d;clear h0 a d;go_enter func11,ntmps11;go_wp2;refine bodyPost_ret (v:=.agg #[.int .i64 200,.slice (some ⟨W.heap.size+1+1,0,none⟩) 1 1,.string ⟨r.b.toArray⟩]) (by simp[results,results11,go_sem]) rfl ?_;rw[f.out];exact⟨.slice (some ⟨W.heap.size+1+1,0,none⟩) 1 1,rfl,by simpa using oE ((W.alloc (.cells #[.string ⟨r.m.toArray⟩,.string ⟨r.p.toArray⟩,.string ⟨r.q.toArray⟩,.int .i64 r.v,.slice n r.fs.length g,.string ⟨r.b.toArray⟩,.bool r.c] 78)).alloc (.cells #[.int .i64 200,.slice (some ⟨W.heap.size+1+1,0,none⟩) 1 1,.string ⟨r.b.toArray⟩] 51)) [88,45,77,101,116,104,111,100] r.m 80 (Gr.refl _),((Gr.alloc _ _).alloc1 _).alloc1 _⟩
 by_cases i:r.p=[47,98,97,100]
 ·have f:=qq (show aX r=⟨999,[],[]⟩ by unfold aX;rw[if_neg h0,if_neg a,if_neg d,if_pos i]);have j:(r.p==[47])=false:=beq_false_of_ne h0;have k:(r.p==[47,119,115])=false:=beq_false_of_ne a;have l:(r.p==[47,101,99,104,111])=false:=beq_false_of_ne d;have o:(r.p==[47,98,97,100])=true:=beq_iff_eq.2 i;clear h0 a d i;go_enter func11,ntmps11;go_wp2;refine bodyPost_ret (v:=.agg #[.int .i64 999,.slice none 0 0,.string ⟨#[]⟩]) (by simp[results,results11,go_sem]) rfl ?_;rw[f.out];exact⟨.slice none 0 0,rfl,bN _ 0,(Gr.alloc _ _).alloc1 _⟩
 have f:=qq (show aX r=⟨404,[],[110,111,116,32,102,111,117,110,100]⟩ by unfold aX;rw[if_neg h0,if_neg a,if_neg d,if_neg i]);have j:(r.p==[47])=false:=beq_false_of_ne h0;have k:(r.p==[47,119,115])=false:=beq_false_of_ne a;have l:(r.p==[47,101,99,104,111])=false:=beq_false_of_ne d;have o:(r.p==[47,98,97,100])=false:=beq_false_of_ne i;clear h0 a d i;go_enter func11,ntmps11;go_wp2;refine bodyPost_ret (v:=.agg #[.int .i64 404,.slice none 0 0,.string ⟨#[110,111,116,32,102,111,117,110,100]⟩]) (by simp[results,results11,go_sem]) rfl ?_;rw[f.out];exact⟨.slice none 0 0,rfl,bN _ 0,(Gr.alloc _ _).alloc1 _⟩
def xq (p:List UInt8):List UInt8:=[71,69,84,32]++(p++[32,72,84,84,80,47,49,46,49,13,10,72,111,115,116,58,32,97,13,10,13,10])
theorem Bo (p:List UInt8)(b:p.length≤100000)(W:World):Calls prog 18 #[.string ⟨p.toArray⟩] W λe w'=>e=.returned (.string ⟨(xq p).toArray⟩)∧W=w':=by
 have c1:(⟨#[71,69,84,32]⟩:ByteArray)++⟨p.toArray⟩=⟨([71,69,84,32]++p).toArray⟩:=aL _ _;have c2:(⟨([71,69,84,32]++p).toArray⟩:ByteArray)++⟨#[32,72,84,84,80,47,49,46,49,13,10,72,111,115,116,58,32,97,13,10,13,10]⟩=⟨(xq p).toArray⟩:=by
  refine(aL ([71,69,84,32]++p) [32,72,84,84,80,47,49,46,49,13,10,72,111,115,116,58,32,97,13,10,13,10]).trans ?_;unfold xq;rw[List.append_assoc]
 have hl:¬9223372036854775807<4+p.length:=by omega
 have a:¬9223372036854775807<4+p.length+22:=by omega
 go_enter func18,ntmps18;go_wp2;go_ret;exact⟨rfl,rfl⟩
theorem Bp (W:World):Calls prog 19 #[] W λe w'=>e=.returned (.string ⟨mQ.toArray⟩)∧W=w':=by
 go_enter func19,ntmps19;go_wp2;go_ret;exact⟨rfl,rfl⟩
theorem yq (W:World):Calls prog 33 #[] W λe w'=>e=.returned (.string ⟨mR.toArray⟩)∧W=w':=by
 go_enter func33,ntmps33;go_wp2;go_ret;exact⟨rfl,rfl⟩
def yt (k0 k1 k2 k3:UInt8)(i:Nat):UInt8:=if i=0 then k0 else if i=1 then k1 else if i=2 then k2 else k3
def eH (k0 k1 k2 k3:UInt8):Nat→List UInt8→List UInt8
 | _,[]=>[]
 | a,c :: t=>(c^^^yt k0 k1 k2 k3 a) :: eH k0 k1 k2 k3 ((a+1) % 4) t
theorem kY (k0 k1 k2 k3:UInt8):∀(s:List UInt8) (a:Nat),(eH k0 k1 k2 k3 a s).length=s.length
 | [],_=>rfl
 | _ :: t,a=>by
  unfold eH;rw[List.length_cons,List.length_cons,kY k0 k1 k2 k3 t]
theorem pg (k0 k1 k2 k3:UInt8):∀(s:List UInt8) (a i:Nat) (h:i<s.length),a<4→(eH k0 k1 k2 k3 a s)[i]?=some (s[i]^^^yt k0 k1 k2 k3 ((a+i) % 4))
 | c :: t,a,0,h,ha=>by
  unfold eH;have:(a+0) % 4=a:=by rw[Nat.add_zero];exact Nat.mod_eq_of_lt ha
  rw[this];rfl
 | c :: t,a,i+1,h,ha=>by
  unfold eH;rw[List.getElem?_cons_succ,pg k0 k1 k2 k3 t ((a+1) % 4) i (by simpa using h) (Nat.mod_lt _ (by decide))];have:((a+1) % 4+i) % 4=(a+(i+1)) % 4:=by omega
  rw[this];rfl
theorem uz (s:List UInt8):∀a,eH 0 0 0 0 a s=s:=by
 induction s with
 | nil=>intro _;rfl
 | cons c t b =>
  intro a;unfold eH;rw[b];have:yt 0 0 0 0 a=0:=by unfold yt;simp
  rw[this,UInt8.xor_zero]
theorem OwnV.back {B:Nat}{W:World}{v:Value}{l:List UInt8}(h:OwnV 5 B W v (am l)):(convert 100 9 v).run prog W=.ok (.string ⟨l.toArray⟩) W:=by
 have hl:(am l).length=l.length:=bq l;by_cases h0:l=[]
 ·subst h0;rcases h with⟨rfl,_⟩ | ⟨g,cap,b,fz,rfl,_⟩
  ·exact Lib.run_convert_nil_bytes W _ _ 5 0 underlying100 underlying5 underlying9
  ·exact run_convert_bytes_back (P:=prog) W 100 9 5 ⟨g,0,none⟩ cap [] underlying100 underlying5 underlying9 (λj a=>absurd a (Nat.not_lt_zero _))
 ·have d:0<l.length:=List.length_pos_iff.2 h0;obtain⟨g,cap,rfl,_,_,c,_⟩:=h.row (by rw[hl];exact d);rw[hl];refine run_convert_bytes_back (P:=prog) W 100 9 5 ⟨g,0,none⟩ cap l underlying100 underlying5 underlying9 (λj a=>?_);have:=c j (.int .u8 ((l[j]'a).toNat:Int)) (fD l j a);by_cases e:j=0
  ·subst e;simpa[Addr.add]using this
  ·simp only[Addr.add,e];simpa using this
theorem ES (c k:UInt8):bits .xor .u8 (c.toNat:Int) (k.toNat:Int)=((c^^^k).toNat:Int):=by
 rw[Go.u8_xor_nat c.toNat k.toNat c.toNat_lt k.toNat_lt,UInt8.toNat_xor]
theorem rO (l:List UInt8)(c:UInt8):am (l++[c])=am l++[.int .u8 (c.toNat:Int)]:=by unfold am;rw[List.map_append];rfl
theorem yu (k0 k1 k2 k3:UInt8)(s:List UInt8)(w:World)(hs:s.length≤100000) :
  Calls prog 58 #[.agg #[.int .u8 k0.toNat,.int .u8 k1.toNat,.int .u8 k2.toNat,.int .u8 k3.toNat],.int .i64 0,.string ⟨s.toArray⟩] w λe w'=>e=.returned (.string ⟨(eH k0 k1 k2 k3 0 s).toArray⟩)∧Gr w w':=by
 obtain⟨W0,d⟩:∃W0,w.alloc (.cells #[.int .u8 k0.toNat,.int .u8 k1.toNat,.int .u8 k2.toNat,.int .u8 k3.toNat] 54)=W0:=⟨_,rfl⟩;have g0:=qq (show Gr w W0 from d▸Gr.alloc w _);have v:∀j,j<4→W0.cell? ⟨w.heap.size,j,none⟩=some (.int .u8 (yt k0 k1 k2 k3 j).toNat):=λj hj=>by
  rw[←d]
  match j,hj with
  | 0,_=>exact aa _ _ _ 0 _ rfl
  | 1,_=>exact aa _ _ _ 1 _ rfl
  | 2,_=>exact aa _ _ _ 2 _ rfl
  | 3,_=>exact aa _ _ _ 3 _ rfl
 have f:=qq v;have P:=qq (show W0.heap.size=w.heap.size+1 by rw[←d];simp);have W:=qq hs;have l:=qq (kY k0 k1 k2 k3 s 0);have B:=qq (λi h=>pg k0 k1 k2 k3 s 0 i h (by decide));obtain⟨m,hm⟩:∃m,eH k0 k1 k2 k3 0 s=m:=⟨_,rfl⟩;rw[hm]at l B;clear v hs;go_enter func58,ntmps58;go_upto_region 6 with(fail);try rw[d]
 have V:=qq hm;clear d hm;go_loopw [1,7,8] (λat' b i wr=>∃k:Nat,k≤s.length∧at'=.int .i64 ((k % 4:Nat):Int)∧i=.int .i64 k∧OwnV 5 (w.heap.size+1) wr b (am (m.take k))∧Gr W0 wr) (λ_ _ i _=>s.length - (intOf i).toNat)
 case atStart=>exact⟨0,qx _,rfl,rfl,OwnV.nil _ _ _,Gr.refl _⟩
 case round =>
  obtain⟨k,hk,rfl,rfl,R,F⟩:=hrel;have t:=qq R;have I:=qq F;obtain⟨pb,D,rfl⟩:=R.slice;rw[bq,List.length_take,Nat.min_eq_left (by have:=l.out;omega)];rw[bq,List.length_take,Nat.min_eq_left (by have:=l.out;omega)]at t;by_cases L:k<s.length
  ·have hI:(k:Int)<s.length:=(by omega);obtain⟨c,hc⟩:∃c,(⟨s.toArray⟩:ByteArray)[k]'(by rw[aj];exact L)=c:=⟨_,rfl⟩;obtain⟨a4,r⟩:∃a,k % 4=a:=⟨_,rfl⟩;have h4:a4<4:=(by omega);have a1:(a4:Int)<4:=(by omega);obtain⟨S,A⟩:∃x,yt k0 k1 k2 k3 a4=x:=⟨_,rfl⟩;have q:=F.cell (f.out a4 h4);rw[A]at q;have g:=B.out k L;rw[Nat.zero_add,r,A]at g;have M:s[k]=c:=(by rw[←hc];rfl);rw[M]at g;obtain⟨z,Z⟩:∃z,c^^^S=z:=⟨_,rfl⟩;rw[Z]at g;have O:bits .xor .u8 (c.toNat:Int) (S.toNat:Int)=(z.toNat:Int):=(by rw[←Z];exact ES c S);have X:=qq (show am (m.take (k+1))=am (m.take k)++[.int .u8 (z.toNat:Int)] by
    rw[List.take_add_one,g];exact rO _ _)
   have Y:(am (m.take k)).length+1=k+1:=(by rw[bq,List.length_take,Nat.min_eq_left (by have:=l.out;omega)]);have U:k+1≤1000000:=(by have:=W.out;omega);have N:=qq (show w.heap.size+1≤wr.heap.size by have:=Below.size F;have:=P.out;omega);have u:=qq r;have a2:w.heap.size<wr.heap.size:=ae q;clear g M Z A R F;rw[r];clear r;go_upto_region 8 with(fail);go_region_held3 (λw'=>w'.cell? ⟨w.heap.size,a4,none⟩=some (.int .u8 S.toNat)) (go_keep) (first
    |(refine zn (by rfl) (.tmp 20) (.tmp 28) 100 5 (.int .u8 0) (.int .u8 z.toNat) 1 underlying100 bL rfl (by rfl) (w.heap.size+1) (.slice pb k D) (am (m.take k)) (by rfl) (OwnV.drew (OwnV.alloc t.out _)) wr.heap.size (by rfl) (Cf _ _ _) rfl (k+1) Y U (by decide) (qy N.out (by simp)) ?_;intro p6 C w6 n E _;have y:=Below.trans (Below.drew ((Below.refl _ wr).alloc N.out _)) E;have q6:=(Below.cell y (p:=⟨w.heap.size,a4,none⟩) (Nat.lt_succ_self _)).trans q))
   all_goals
    have o:=qq (show OwnV 5 (w.heap.size+1) w6 (.slice p6 (k+1) C) (am (m.take (k+1)))from X.out▸n);have J:=qq (show Gr W0 w6 from Below.trans I.out (P.out.symm▸y));clear n y E q q6 hc O;by_cases h3:a4=3
    ·subst h3;go_wp2;go_roundw
     case rel=>exact⟨k+1,by omega,by have:=u.out;rw[show(k+1) % 4=0 by omega];rfl,by go_num,o.out,J.out⟩
     case measure=>simp[intOf];omega
    ·have a0:((a4:Int)+1==4)=false:=beq_false_of_ne (by omega);go_wp2;go_roundw
     case rel=>exact⟨k+1,by omega,by have:=u.out;rw[show(k+1) % 4=a4+1 by omega];go_num,by go_num,o.out,J.out⟩
     case measure=>simp[intOf];omega
  ·obtain rfl:k=s.length:=(by omega);have T:=t.out.back;rw[List.take_of_length_le (by have:=l.out;omega)]at T;clear R F t f B;go_wp2;go_ret;exact⟨by rw[V.out];rfl,g0.out.trans I.out⟩
