/-
  Walks over package sha: numbers as bytes, bytes as numbers, the first words.
-/
import Derived.Test.YtadobobfjnmdlaaGreatDoorUw
import Derived.Deep.MidRow
import Derived.Tactics
set_option linter.unnecessarySimpa false
set_option linter.unusedVariables false
set_option linter.unusedSimpArgs false
set_option maxHeartbeats 16000000
set_option maxRecDepth 100000
open Go.Proofs.Tryz
namespace Go.Proofs.YtadobobfjnmdlaaGreatDoor
open Go.RowKit
attribute [local go_sem] Oper.semAt_some
def w5V (x:W5):Value:=.agg #[.int .u32 x.a,.int .u32 x.b,.int .u32 x.c,.int .u32 x.d,.int .u32 x.e]
theorem ro (w:World):Calls prog 246 #[] w λe w'=>e=.returned (w5V eP)∧Gr w w':=by
 go_enter func246,ntmps246;go_wp2;refine bodyPost_ret (v:=w5V eP) (by simp[results,results246,go_sem,w5V,eP]) rfl ⟨rfl,Gr.alloc _ _⟩
theorem wG (s:List UInt8)(hs:4≤s.length)(hl:s.length≤1000000)(w:World):Calls prog 278 #[.string ⟨s.toArray⟩,.int .i64 4] w λe w'=>e=.returned (.int .u64 (gZ s 4))∧w=w':=by
 go_enter func278,ntmps278;go_wp2;go_loop [4,7] (λx i=>∃k:Nat,k≤4∧i=.int .i64 k∧x=.int .u64 (gZ s k)) (λ_ i=>4 - (intOf i).toNat)
 case atStart=>exact⟨0,by omega,rfl,rfl⟩
 case round =>
  obtain⟨k,y,rfl,rfl⟩:=hrel;obtain⟨m,hm⟩:∃m,gZ s k=m:=⟨_,rfl⟩;have a:=qq hm;rw[hm];by_cases r:k<4
  ·have f:(k:Int)<4:=(by omega);obtain⟨c,p⟩:∃c,(⟨s.toArray⟩:ByteArray)[k]'(by rw[aj];omega)=c:=⟨_,rfl⟩;have l:fq s k=c.toNat:=(by unfold fq;rw[List.getD_eq_getElem?_getD,List.getElem?_eq_getElem (by omega)];exact congrArg UInt8.toNat p);have d:=qq l;have g:m<256 ^ 3:=qj (hm▸mo s k) (Nat.pow_le_pow_right (by decide) (by omega));have u:(m:Int)≤16777215:=(by omega);have v:bits .or .u64 ((m:Int)*256) (c.toNat:Int)=((m*256+c.toNat:Nat):Int):=by
    have j:=Go.u64_or_nat (m*256) c.toNat (by omega) (by have:=c.toNat_lt;omega);rw[Go.nat_join 8 (m*256) c.toNat (by omega) (by have:=c.toNat_lt;omega)]at j;rw[←j];rfl
   have t:k<s.length:=(by omega);have q:IntKind.u64.wrap (c.toNat:Int)=c.toNat:=(by rw[Go.IntKind.wrap_u64];have:=c.toNat_lt;omega);clear hm l g;go_wp2;go_round
   case rel=>exact⟨k+1,by omega,by go_num,by rw[gZ,a.out,d.out];go_num⟩
   case measure=>simp[intOf];omega
  ·have f:¬(k:Int)<4:=(by omega);have o:k=4:=(by omega);go_wp2;go_ret;exact⟨by rw[←a.out,o];rfl,rfl⟩
theorem og (x n:Nat)(hn:n≤8)(D:x<18446744073709551616)(w:World) :
  Calls prog 249 #[.slice none 0 0,.int .u64 x,.int .i64 n] w λe w'=>∃v,e=.returned v∧OwnB w.heap.size w' v (beB x n)∧Gr w w':=by
 obtain⟨N,hi,z,A,B⟩:=info_parts bL;have I:(n:Int)≤8:=by omega
 have M:=qq D;clear D;go_enter func249,ntmps249;go_wp2;go_loopw [0,7] (λb i wr=>∃(j:Nat) (c:List UInt8),j+c.length=n∧c++beB x j=beB x n∧i=.int .i64 ((j:Int) - 1)∧OwnB w.heap.size wr b c∧Gr w wr) (λ_ i _=>(intOf i+1).toNat)
 case atStart=>exact⟨n,[],by simp,rfl,rfl,OwnB.nil _ _,Gr.refl _⟩
 case round =>
  obtain⟨j,c,O,o,rfl,r,C⟩:=hrel;have a:=qq r;have m:=qq C;have f:=qq o;clear r C o;cases j with
  | zero =>
   have F:=qq (show c=beB x n by have:=f.out;simpa[beB]using this);go_wp2;go_ret;exact⟨_,rfl,F.out▸a.out,m.out⟩
  | succ q =>
   have J:(q:Int)<8:=(by omega);obtain⟨d,u⟩:∃d,UInt8.ofNat (x / 256 ^ q)=d:=⟨_,rfl⟩;have H:(x:Int) / 2 ^ (8*q) % 256=(d.toNat:Int):=by
    rw[←u,UInt8.toNat_ofNat',show(256:Nat)=2 ^ 8 from rfl,←Nat.pow_mul,Int.natCast_emod,Int.natCast_ediv];simp
   have s:=qq (show(c++[d])++beB x q=beB x n by rw[←f.out,←u];simp[beB]);obtain⟨p,cap,L⟩:=a.out.slice;subst L;have E:c.length≤8:=(by omega);clear u f;go_wp2_with (at_builtin;refine wpList_append_own _ rfl _ _ 100 rfl w.heap.size 5 N (.int .u8 0) 1 1 underlying100 hi z A B rfl (by decide) _ _ _ rfl (World.ownsRow.alloc a.out _) ⟨wr.heap.size,0,none⟩ 1 1 [.int .u8 d.toNat] rfl rfl (cell_one_new _ _ _) (by simp[Value.oneCell']) (by unfold maxLen;omega) (by omega) (by have:=Below.size m.out;simp;omega) ?_;intro P R l g _);have t:=qq (gq l);have y:=qq (Below.grown (m.out.alloc1 _) g (Below.size (m.out.alloc1 _)) (λk e=>(a.out.lt k e).1));clear l g;go_wp2;go_roundw
   case rel=>exact⟨q,c++[d],by simp;omega,s.out,rfl,t.out,y.out⟩
   case measure=>simp[intOf]
end Go.Proofs.YtadobobfjnmdlaaGreatDoor
namespace Go
open Go.RowKit
theorem Gr.setCells {w:World}{b:Nat}(a:w.heap.size≤b):∀(c:List Value) (o:Nat) {W:World},Gr w W→Gr w (W.setCells b o c)
 | [],_,_,h=>h
 | v :: r,o,_,h=>Gr.setCells a r (o+1) (h.setCell (p:=⟨b,o,none⟩) a v)
theorem fg {P:Program}{fn:Func}{t:Tmp}{d:TypeId}(h:fn.results=#[.cell t d]){tmps:Array Value}{a:Addr}{v:Value}{w:World}(c:tmps.getD t undef=.pointer (some a))(e:(loadVar d a).run P w=.ok v w) :
  (results fn tmps).run P w=.ok v w:=by
 rw[Array.getD_eq_getD_getElem?]at c;simp[results,h,c,asAddr,e]
theorem jj {P:Program}(w:World){t e:TypeId}{n:Nat}(cs:Array Value)(k:IntKind)(i:Nat){v:Value}(h:P.underlying t=some (.array n e))(a:(isAgg e).run P w=.ok false w)(hs:(sizeOf e).run P w=.ok 1 w)(hi:i<n)(c:cs[i]?=some v) :
  (Instr.index t (.agg cs) (.int k i)).run P w=.ok v w:=by
 simp[Instr.index,run_underlying h,asIntOf,hi,part,a,hs,c]
end Go
namespace Go.Proofs.YtadobobfjnmdlaaGreatDoor
open Go.RowKit
attribute [local go_sem] Oper.semAt_some
def wH (s:List UInt8):Value:=.agg ((List.range 80).map λj=>Value.int .u32 (wS s j)).toArray
theorem Ar (s:List UInt8)(t:Nat):gZ (s.drop (4*t)) 4=oT s t:=by
 have e:∀i,fq (s.drop (4*t)) i=fq s (4*t+i):=λi=>by simp[fq,List.getD_eq_getElem?_getD]
 simp only[gZ,e,oT];simp
theorem wI (C:World→Prop){x r:Nat}(d:gY 1 x=r)(f:x<4294967296)(y:Later C) :
  Calls prog 269 #[.int .u32 x,.int .i64 1] y.w λe w'=>e=.returned (.int .u32 r)∧∃z:Later C,w'=z.w :=
 Calls.later ((Do x f y.w).mono λ_ _ ⟨a,c⟩=>⟨d▸a,c▸y.ok⟩)
theorem oh {wr:World}{b t W n:Nat}{f:Nat→Nat}(c:∀j,j<n→wr.cell? ⟨b,j,none⟩=some (.int .u32 ((if j<t then f j else 0:Nat):Int)))(g:t<n)(e:f t=W) :
  ∀j,j<n→(wr.setCell ⟨b,t,none⟩ (.int .u32 W)).cell? ⟨b,j,none⟩=some (.int .u32 ((if j<t+1 then f j else 0:Nat):Int)):=λj d=>by
 by_cases h:j=t
 ·subst h;rw[if_pos (by omega),e];exact af (c j d)
 ·rw[ac (c j d) h];by_cases a:j<t
  ·rw[if_pos a,if_pos (by omega)]
  ·rw[if_neg a,if_neg (by omega)]
theorem rp (s:List UInt8)(hs:s.length=64)(w:World):Calls prog 267 #[.string ⟨s.toArray⟩] w λe w'=>e=.returned (wH s)∧Gr w w':=by
 have b7:=qq hs;have b9:s.length≤64:=by omega
 have b8:64≤s.length:=by omega
 clear hs;go_enter func267,ntmps267;go_wp2;obtain⟨b,S⟩:∃b,w.heap.size=b:=⟨_,rfl⟩;have F:=qq S;have d:Tryz.zeroCells296=Array.replicate 80 (.int .u32 0):=by kernel_rfl
 have q:=qq (show ∀j,j<80→(w.alloc (.cells Tryz.zeroCells296 296)).cell? ⟨b,j,none⟩=some (.int .u32 ((if j<0 then wS s j else 0:Nat):Int)) by
  intro j u;rw[←S,d];simp only[World.cell?,World.alloc_heap_new];rw[Array.getElem?_replicate,if_pos u];rfl)
 have a9:=qq (show ∀j,(w.alloc (.cells Tryz.zeroCells296 296)).frozen? ⟨b,j,none⟩=false from S▸λj=>World.frozen?_alloc_at _ _ _ _ rfl);rw[S];clear d S;go_loopw [4] (λi wr=>∃t:Nat,t≤80∧i=.int .i64 t∧(∀j,j<80→wr.cell? ⟨b,j,none⟩=some (.int .u32 ((if j<t then wS s j else 0:Nat):Int)))∧(∀j,wr.frozen? ⟨b,j,none⟩=false)∧Gr w wr) (λi _=>80 - (intOf i).toNat)
 case atStart=>exact⟨0,by omega,rfl,q.out,a9.out,Gr.alloc _ _⟩
 case round =>
  obtain⟨t,ht,rfl,hc,hf,hg⟩:=hrel;have a:=qq hc;have r:=qq hf;have H:=qq hg;clear hc hf hg;by_cases d:t<80
  ·have b2:(t:Int)<80:=(by omega);have U:=a.out t d;have a8:=r.out t;have a7:b<wr.heap.size:=ae U;by_cases O:t<16
   ·have P:(t:Int)<16:=(by omega);have hx:(⟨s.toArray⟩:ByteArray).extract (4*t) s.length=⟨(s.drop (4*t)).toArray⟩:=(by rw[av];simp);obtain⟨v,o⟩:∃v,s.drop (4*t)=v:=⟨_,rfl⟩;have b0:=qq (show 4≤v.length by rw[←o,List.length_drop];omega);have a0:=qq (show v.length≤1000000 by rw[←o,List.length_drop];omega);have a1:=qq (show gZ v 4=wS s t by rw[←o,Ar,AZ s O]);rw[o]at hx;obtain⟨W,D⟩:∃W,wS s t=W:=⟨_,rfl⟩;have b5:(W:Int)<4294967296:=(by have:=rC s t;omega);have b6:IntKind.u32.wrap (W:Int)=W:=(by rw[Go.IntKind.wrap_u32'];omega);rw[D]at a1;have E:=qq D;clear o D;go_wp2_with fail;refine(wG v b0.out a0.out _).mono ?_;rintro e w1⟨he,rfl⟩;rw[a1.out]at he;subst he;go_wp2;go_roundw
    case rel=>exact⟨t+1,by omega,by go_num,oh a.out d E.out,λj=>ag.trans (r.out j),H.out.setCell (Nat.le_of_eq F.out) _⟩
    case measure=>simp[intOf];omega
   ·have P:¬(t:Int)<16:=(by omega);have d1:=a.out (t - 3) (by omega);have d2:=a.out (t - 8) (by omega);have d3:=a.out (t - 14) (by omega);have d4:=a.out (t - 16) (by omega);rw[if_pos (by omega)]at d1 d2 d3 d4;have g:=xj s O;have k1:=rC s (t - 3);have k2:=rC s (t - 8);have k3:=rC s (t - 14);have k4:=rC s (t - 16);obtain⟨x1,J⟩:∃x,wS s (t - 3)=x:=⟨_,rfl⟩;obtain⟨x2,L⟩:∃x,wS s (t - 8)=x:=⟨_,rfl⟩;obtain⟨x3,M⟩:∃x,wS s (t - 14)=x:=⟨_,rfl⟩;obtain⟨x4,N⟩:∃x,wS s (t - 16)=x:=⟨_,rfl⟩;rw[J]at d1 k1;rw[L]at d2 k2;rw[M]at d3 k3;rw[N]at d4 k4;rw[J,L,M,N]at g;have y1:=iK k1 k2;have y2:=iK (bZ k1 k2) k3;have y3:=iK (bZ (bZ k1 k2) k3) k4;have yl:=bZ (bZ (bZ k1 k2) k3) k4;obtain⟨z1,a3⟩:∃z,x1^^^x2=z:=⟨_,rfl⟩;rw[a3]at y1 y2 y3 yl g;obtain⟨z2,a4⟩:∃z,z1^^^x3=z:=⟨_,rfl⟩;rw[a4]at y2 y3 yl g;obtain⟨z3,a5⟩:∃z,z2^^^x4=z:=⟨_,rfl⟩;rw[a5]at y3 yl g;obtain⟨W,D⟩:∃W,wS s t=W:=⟨_,rfl⟩;rw[D]at g;have a2:=qq g.symm;have b1:=qq yl;have E:=qq D;have e1:IntKind.i64.wrap ((t:Int) - 3)=(t:Int) - 3:=IntWalk.i64_in _ (by omega);have e2:IntKind.i64.wrap ((t:Int) - 8)=(t:Int) - 8:=IntWalk.i64_in _ (by omega);have e3:IntKind.i64.wrap ((t:Int) - 14)=(t:Int) - 14:=IntWalk.i64_in _ (by omega);have e4:IntKind.i64.wrap ((t:Int) - 16)=(t:Int) - 16:=IntWalk.i64_in _ (by omega);have p1:3≤(t:Int):=(by omega);have p2:8≤(t:Int):=(by omega);have p3:14≤(t:Int):=(by omega);have p4:16≤(t:Int):=(by omega);have n1:((t:Int) - 3).toNat=t - 3:=(by omega);have n2:((t:Int) - 8).toNat=t - 8:=(by omega);have n3:((t:Int) - 14).toNat=t - 14:=(by omega);have n4:((t:Int) - 16).toNat=t - 16:=(by omega);clear J L M N k1 k2 k3 k4 a3 a4 a5 g D yl;have t1:∀y:Later (Gr wr),y.w.cell? ⟨b,t - 3,none⟩=some (.int .u32 x1):=λy=>y.ok.cell d1;have t2:∀y:Later (Gr wr),y.w.cell? ⟨b,t - 8,none⟩=some (.int .u32 x2):=λy=>y.ok.cell d2;have t3:∀y:Later (Gr wr),y.w.cell? ⟨b,t - 14,none⟩=some (.int .u32 x3):=λy=>y.ok.cell d3;have t4:∀y:Later (Gr wr),y.w.cell? ⟨b,t - 16,none⟩=some (.int .u32 x4):=λy=>y.ok.cell d4;haveI:Nonempty (Later (Gr wr)):=⟨⟨wr,Gr.refl wr⟩⟩;go_upto_region 6 with(fail);refine ak (C:=Gr wr) 22 (by kernel_rfl) (by kernel_rfl) (Gr.drew' _) ?_;simp only[List.take_succ_cons,List.take_zero,List.drop_succ_cons,List.drop_zero];(repeat (go_big_quiet_step (with_reducible exact wI _ a2.out b1.out _)));refine wpQuiet_nil ?_;intro w9 f;have T:=qq (λj (u:j<80)=>f.cell (a.out j u));have V:=qq (λj=>(Below.frozen f (p:=⟨b,j,none⟩) a7).trans (r.out j));have b3:=T.out t d;have b4:=V.out t;have X:=qq (H.out.trans f);clear f t1 t2 t3 t4 U a8 d1 d2 d3 d4;go_wp2;go_roundw
    case rel=>exact⟨t+1,by omega,by go_num,oh T.out d E.out,λj=>ag.trans (V.out j),X.out.setCell (Nat.le_of_eq F.out) _⟩
    case measure=>simp[intOf];omega
  ·obtain rfl:t=80:=(by omega);have q:∀j v,((List.range 80).map λj=>Value.int .u32 (wS s j))[j]?=some v→wr.cell? ⟨b,0+j,none⟩=some v:=λj v o=>by
    rw[List.getElem?_map]at o;obtain⟨k,hk,rfl⟩:=Option.map_eq_some_iff.1 o;obtain⟨u,Y⟩:=List.getElem?_eq_some_iff.1 hk;rw[List.length_range]at u;rw[List.getElem_range]at Y;subst Y;rw[Nat.zero_add];have:=a.out j u;rw[if_pos u]at this;exact this
   have A:=qq q;clear q;go_upto_region 8 with(fail);refine wp_region_lit ?_;have m:(prog.info? 296).map (·.size)=some ((List.range 80).map λj=>Value.int .u32 (wS s j)).length:=(by rw[List.length_map,List.length_range];kernel_rfl);have I:wr.there b 0 80:=λj u=>by
    rw[Nat.zero_add];exact⟨by rw[a.out j u];rfl,r.out j⟩
   obtain⟨cs,c⟩:∃cs,((List.range 80).map λj=>Value.int .u32 (wS s j))=cs:=⟨_,rfl⟩;have B:∀v∈cs,v.oneCell'=true:=by
    rw[←c];intro v o;obtain⟨j,_,rfl⟩:=List.mem_map.1 o;rfl
   have l:cs.length=80:=(by rw[←c,List.length_map,List.length_range]);have hV:wH s=.agg cs.toArray:=(by rw[←c];rfl);rw[c]at A m;refine wpList_load_mid rfl 296 _ rfl b 0 rfl cs _ A.out underlying296 rfl m ?_;refine wpList_store_mid rfl 296 _ _ rfl b 0 cs.toArray rfl rfl (by simpa[l]using I) (by simpa using m) (all_oneCell_toArray B) ?_;have a6:=qq hV;have Z:=qq m;have R:=qq (World.rangeAt_setCells_same wr b 0 cs (by rw[l];exact I));have f:=qq (Gr.setCells (Nat.le_of_eq F.out) cs 0 H.out);clear hV m c B l I;simp only[List.toList_toArray];generalize wr.setCells b 0 cs=w9 at R f ⊢;go_wp2;refine bodyPost_ret (fg rfl rfl (run_loadVar_mid w9 b 0 296 cs _ R.out underlying296 rfl Z.out)) rfl ⟨by rw[a6.out],f.out⟩
structure St5 (W:World)(k:Nat)(x:W5):Prop where
 c0:W.cell? ⟨k,0,none⟩=some (.int .u32 x.a)
 c1:W.cell? ⟨k,1,none⟩=some (.int .u32 x.b)
 c2:W.cell? ⟨k,2,none⟩=some (.int .u32 x.c)
 c3:W.cell? ⟨k,3,none⟩=some (.int .u32 x.d)
 c4:W.cell? ⟨k,4,none⟩=some (.int .u32 x.e)
 fz:∀o,W.frozen? ⟨k,o,none⟩=false
theorem St5.gr {W W':World}{k:Nat}{x:W5}(h:St5 W k x)(a:Gr W W'):St5 W' k x :=
 ⟨a.cell h.c0,a.cell h.c1,a.cell h.c2,a.cell h.c3,a.cell h.c4,λo=>(Below.frozen a (p:=⟨k,o,none⟩) (show k<_ from ae h.c0)).trans (h.fz o)⟩
theorem St5.fresh (W:World)(x:W5)(t:TypeId):St5 (W.alloc (.cells #[.int .u32 x.a,.int .u32 x.b,.int .u32 x.c,.int .u32 x.d,.int .u32 x.e] t)) W.heap.size x :=
 ⟨aa _ [.int .u32 x.a,.int .u32 x.b,.int .u32 x.c,.int .u32 x.d,.int .u32 x.e] _ 0 _ rfl,aa _ [.int .u32 x.a,.int .u32 x.b,.int .u32 x.c,.int .u32 x.d,.int .u32 x.e] _ 1 _ rfl,aa _ [.int .u32 x.a,.int .u32 x.b,.int .u32 x.c,.int .u32 x.d,.int .u32 x.e] _ 2 _ rfl,aa _ [.int .u32 x.a,.int .u32 x.b,.int .u32 x.c,.int .u32 x.d,.int .u32 x.e] _ 3 _ rfl,aa _ [.int .u32 x.a,.int .u32 x.b,.int .u32 x.c,.int .u32 x.d,.int .u32 x.e] _ 4 _ rfl,λo=>World.frozen?_alloc_at _ _ _ _ rfl⟩
theorem St5.range {W:World}{k:Nat}{x:W5}(h:St5 W k x):W.rangeAt k 0 [.int .u32 x.a,.int .u32 x.b,.int .u32 x.c,.int .u32 x.d,.int .u32 x.e]:=λj v f=>by
 rw[Nat.zero_add]
 match j,f with
 | 0,f=>exact h.c0.trans f
 | 1,f=>exact h.c1.trans f
 | 2,f=>exact h.c2.trans f
 | 3,f=>exact h.c3.trans f
 | 4,f=>exact h.c4.trans f
 | n+5,f=>simp at f
def W5.at (x:W5):Nat→Nat
 | 0=>x.a | 1=>x.b | 2=>x.c | 3=>x.d | _=>x.e
theorem St5.at {W:World}{k:Nat}{x:W5}(h:St5 W k x):∀j,j<5→W.cell? ⟨k,j,none⟩=some (.int .u32 (x.at j))
 | 0,_=>h.c0 | 1,_=>h.c1 | 2,_=>h.c2 | 3,_=>h.c3 | 4,_=>h.c4
 | n+5,hn=>by omega
theorem wJ (C:World→Prop){x r:Nat}(d:gY 5 x=r)(f:x<4294967296)(y:Later C) :
  Calls prog 269 #[.int .u32 x,.int .i64 5] y.w λe w'=>e=.returned (.int .u32 r)∧∃z:Later C,w'=z.w :=
 Calls.later ((Dp x f y.w).mono λ_ _ ⟨a,c⟩=>⟨d▸a,c▸y.ok⟩)
theorem tR (C:World→Prop){x r:Nat}(d:gY 30 x=r)(f:x<4294967296)(y:Later C) :
  Calls prog 269 #[.int .u32 x,.int .i64 30] y.w λe w'=>e=.returned (.int .u32 r)∧∃z:Later C,w'=z.w :=
 Calls.later ((AB x f y.w).mono λ_ _ ⟨a,c⟩=>⟨d▸a,c▸y.ok⟩)
theorem GE (a b:Nat):((a:Int)+b) % 4294967296=(ef a b:Int):=by unfold ef;rw[Int.natCast_emod];rfl
theorem Dh (a b:Nat):IntKind.u32.wrap ((a:Int)+b)=(ef a b:Int):=by rw[Go.IntKind.wrap_u32',GE]
theorem wK {wr:World}{b n z m:Nat}{f g:Nat→Nat}(c:∀j,j<m→wr.cell? ⟨b,j,none⟩=some (.int .u32 ((if j<n then ef (f j) (g j) else f j:Nat):Int)))(hn:n<m)(e:ef (f n) (g n)=z) :
  ∀j,j<m→(wr.setCell ⟨b,n,none⟩ (.int .u32 z)).cell? ⟨b,j,none⟩=some (.int .u32 ((if j<n+1 then ef (f j) (g j) else f j:Nat):Int)):=λj d=>by
 by_cases h:j=n
 ·subst h;rw[if_pos (by omega),e];exact af (c j d)
 ·rw[ac (c j d) h];by_cases a:j<n
  ·rw[if_pos a,if_pos (by omega)]
  ·rw[if_neg a,if_neg (by omega)]
theorem St5.set {W:World}{k:Nat}{x:W5}(h:St5 W k x)(y:W5):St5 (((((W.setCell ⟨k,0,none⟩ (.int .u32 y.a)).setCell ⟨k,1,none⟩ (.int .u32 y.b)).setCell ⟨k,2,none⟩ (.int .u32 y.c)).setCell ⟨k,3,none⟩ (.int .u32 y.d)).setCell ⟨k,4,none⟩ (.int .u32 y.e)) k y:=by
 refine⟨?_,?_,?_,?_,?_,λo=>ag.trans (ag.trans (ag.trans (ag.trans (ag.trans (h.fz o)))))⟩
 ·exact ac (ac (ac (ac (af h.c0) (by decide)) (by decide)) (by decide)) (by decide)
 ·exact ac (ac (ac (af (ac h.c1 (by decide))) (by decide)) (by decide)) (by decide)
 ·exact ac (ac (af (ac (ac h.c2 (by decide)) (by decide))) (by decide)) (by decide)
 ·exact ac (af (ac (ac (ac h.c3 (by decide)) (by decide)) (by decide))) (by decide)
 ·exact af (ac (ac (ac (ac h.c4 (by decide)) (by decide)) (by decide)) (by decide))
theorem St5.apart {W:World}{k:Nat}{x:W5}(h:St5 W k x){a:Addr}(c:a.block≠k)(v:Value):St5 (W.setCell a v) k x :=
 ⟨ai h.c0 c,ai h.c1 c,ai h.c2 c,ai h.c3 c,ai h.c4 c,λo=>ag.trans (h.fz o)⟩
theorem As (x:W5)(s:List UInt8)(hs:s.length=64)(hx:x.ok)(w:World) :
  Calls prog 247 #[w5V x,.string ⟨s.toArray⟩] w λe w'=>e=.returned (w5V (i6 x s))∧Gr w w':=by
 have e6:=qq hs;have c8:=qq hx;clear hs hx;unfold w5V;obtain⟨xa,xb,xc,xd,xe⟩:=x;dsimp only;go_enter func247,ntmps247;go_wp2_with fail;refine(rp s e6.out _).mono ?_;rintro e w1⟨rfl,O⟩;have q0:=qq ((((St5.fresh w ⟨xa,xb,xc,xd,xe⟩ 277).gr (Gr.alloc _ _)).gr (Gr.alloc _ _)).gr O);have q1:=qq (((St5.fresh (w.alloc (.cells #[.int .u32 xa,.int .u32 xb,.int .u32 xc,.int .u32 xd,.int .u32 xe] 277)) ⟨0,0,0,0,0⟩ 277).gr (Gr.alloc _ _)).gr O);have q2:=qq ((St5.fresh ((w.alloc (.cells #[.int .u32 xa,.int .u32 xb,.int .u32 xc,.int .u32 xd,.int .u32 xe] 277)).alloc (.cells #[.int .u32 (0:Nat),.int .u32 (0:Nat),.int .u32 (0:Nat),.int .u32 (0:Nat),.int .u32 (0:Nat)] 277)) ⟨xa,xb,xc,xd,xe⟩ 277).gr O);have g1:=qq (((((Gr.refl w).alloc1 _).alloc1 _).alloc1 _).trans O);clear O;simp only[World.size_alloc]at q1 q2;obtain⟨L,V⟩:∃b,w.heap.size=b:=⟨_,rfl⟩;rw[V]at q0 q1 q2;obtain⟨R,X⟩:∃b,L+1=b:=⟨_,rfl⟩;rw[X]at q1 q2;obtain⟨E,Y⟩:∃b,R+1=b:=⟨_,rfl⟩;rw[Y]at q2;have H:=qq V;have m:=qq X;have D:=qq Y;obtain⟨x,c9⟩:∃x:W5,⟨xa,xb,xc,xd,xe⟩=x:=⟨_,rfl⟩;rw[c9]at c8 q0 q2;go_wp2;clear V X Y;go_loopw [14] (λi wr=>∃t:Nat,t≤80∧i=.int .i64 t∧St5 wr E (fa s x t)∧St5 wr L x∧St5 wr R ⟨0,0,0,0,0⟩∧Gr w wr) (λi _=>80 - (intOf i).toNat)
 case atStart=>exact⟨0,by omega,rfl,q2.out,q0.out,q1.out,g1.out⟩
 case round =>
  obtain⟨t,ht,rfl,hr,h0,h1,O⟩:=hrel;have l:=qq hr;have S:=qq h0;have b7:=qq h1;have c5:=qq O;clear hr h0 h1 O;by_cases U:t<80
  ·have f5:(t:Int)<80:=(by omega);obtain⟨W,hW⟩:∃W,wS s t=W:=⟨_,rfl⟩;have f6:(Instr.index 296 (wH s) (.int .i64 t)).run prog wr=.ok (.int .u32 W) wr :=
    jj wr _ _ _ underlying296 (isAgg234 wr) (sizeOf234 wr) U (by simp[U,hW])
   obtain⟨r,a6⟩:∃r,fa s x t=r:=⟨_,rfl⟩;have c6:=oU s c8.out t;rw[a6]at l c6;have J:fa s x (t+1)=qg t W r:=(by rw[fa,a6,hW]);obtain⟨ra,rb,rc,rd,re⟩:=r;obtain⟨b4,N,b5,b6,d4⟩:=c6;dsimp only at b4 N b5 b6 d4;obtain⟨F,hF⟩:∃F,AX t rb rc rd=F:=⟨_,rfl⟩;obtain⟨K,hK⟩:∃K,AY t=K:=⟨_,rfl⟩;obtain⟨A,hA⟩:∃A,gY 5 ra=A:=⟨_,rfl⟩;obtain⟨B,hB⟩:∃B,gY 30 rb=B:=⟨_,rfl⟩;obtain⟨s1,a7⟩:∃q,ef A F=q:=⟨_,rfl⟩;obtain⟨s2,a8⟩:∃q,ef s1 re=q:=⟨_,rfl⟩;obtain⟨s3,a9⟩:∃q,ef s2 K=q:=⟨_,rfl⟩;obtain⟨s4,b3⟩:∃q,ef s3 W=q:=⟨_,rfl⟩;have M:=qq (show fa s x (t+1)=⟨s4,ra,B,rc,rd⟩ by rw[J];unfold qg;rw[hA,hF,a7,a8,hK,a9,b3,hB]);have u1:IntKind.u32.wrap ((A:Int)+F)=s1:=(by rw[Dh,a7]);have u2:IntKind.u32.wrap ((s1:Int)+re)=s2:=(by rw[Dh,a8]);have u3:IntKind.u32.wrap ((s2:Int)+K)=s3:=(by rw[Dh,a9]);have u4:IntKind.u32.wrap ((s3:Int)+W)=s4:=(by rw[Dh,b3]);have d7:=qq hA;have d8:=qq hB;have P:=qq (λw0=>AC t rb rc rd U N b5 b6 w0);rw[hF,hK]at P;have d2:=qq b4;have d3:=qq N;have e0:=l.out.c0;have e1:=l.out.c1;have e2:=l.out.c2;have e3:=l.out.c3;have e4:=l.out.c4;dsimp only at e0 e1 e2 e3 e4;clear hW a6 J hF hK hA hB a7 a8 a9 b3 b4 N b5 b6 d4;go_wp2_with fail;refine(P.out _).mono ?_;rintro e w2⟨rfl,rfl⟩;go_upto_region 6 with(fail);have t0:∀y:Later (Gr wr),y.w.cell? ⟨E,0,none⟩=some (.int .u32 ra):=λy=>y.ok.cell e0;have t1:∀y:Later (Gr wr),y.w.cell? ⟨E,1,none⟩=some (.int .u32 rb):=λy=>y.ok.cell e1;have t2:∀y:Later (Gr wr),y.w.cell? ⟨E,2,none⟩=some (.int .u32 rc):=λy=>y.ok.cell e2;have t3:∀y:Later (Gr wr),y.w.cell? ⟨E,3,none⟩=some (.int .u32 rd):=λy=>y.ok.cell e3;have t4:∀y:Later (Gr wr),y.w.cell? ⟨E,4,none⟩=some (.int .u32 re):=λy=>y.ok.cell e4;haveI:Nonempty (Later (Gr wr)):=⟨⟨wr,Gr.refl wr⟩⟩;refine ak (C:=Gr wr) 22 (by kernel_rfl) (by kernel_rfl) (Gr.drew' _) ?_;simp only[List.take_succ_cons,List.take_zero,List.drop_succ_cons,List.drop_zero];(repeat (go_big_quiet_step (first | with_reducible exact wJ _ d7.out d2.out _ | with_reducible exact tR _ d8.out d3.out _)));refine wpQuiet_nil ?_;intro w9 a;have k:=qq (l.out.gr a);have d5:=qq (S.out.gr a);have T:=qq (b7.out.gr a);have I:=qq (c5.out.trans a);clear a t0 t1 t2 t3 t4 e0 e1 e2 e3 e4 u1 u2 u3 u4;have e0:=k.out.c0;have e1:=k.out.c1;have e2:=k.out.c2;have e3:=k.out.c3;have e4:=k.out.c4;have f0:=k.out.fz 0;have f1:=k.out.fz 1;have f2:=k.out.fz 2;have f3:=k.out.fz 3;have f4:=k.out.fz 4;dsimp only at e0 e1 e2 e3 e4;have f:=qq (show E≠L by have:=m.out;have:=D.out;omega);have g:=qq (show E≠R by have:=D.out;omega);have d:=qq (show w.heap.size≤E by have:=H.out;have:=m.out;have:=D.out;omega);go_wp2;go_roundw
   case rel =>
    refine⟨t+1,by omega,by go_num,?_,((((d5.out.apart f.out _).apart f.out _).apart f.out _).apart f.out _).apart f.out _,((((T.out.apart g.out _).apart g.out _).apart g.out _).apart g.out _).apart g.out _,((((I.out.setCell d.out _).setCell d.out _).setCell d.out _).setCell d.out _).setCell d.out _⟩;rw[M.out];exact k.out.set ⟨s4,ra,B,rc,rd⟩
   case measure=>simp[intOf];omega
  ·obtain rfl:t=80:=(by omega);obtain⟨y,hy⟩:∃y,fa s x 80=y:=⟨_,rfl⟩;rw[hy]at l;have Z:=qq (show i6 x s=A6 x y by unfold i6;rw[hy]);clear hy;go_wp2;go_loopw [52] (λi wx=>∃n:Nat,n≤5∧i=.int .i64 n∧(∀j,j<5→wx.cell? ⟨L,j,none⟩=some (.int .u32 ((if j<n then ef (x.at j) (y.at j) else x.at j:Nat):Int)))∧(∀o,wx.frozen? ⟨L,o,none⟩=false)∧St5 wx E y∧St5 wx R ⟨0,0,0,0,0⟩∧Gr w wx) (λi _=>5 - (intOf i).toNat)
   case atStart=>exact⟨0,by omega,rfl,S.out.at,S.out.fz,l.out,b7.out,c5.out⟩
   case round =>
    obtain⟨n,hn,rfl,k0,k1,k2,k3,k4⟩:=hrel;have u:=qq k0;have e8:=qq k1;have d0:=qq k2;have c:=qq k3;have d1:=qq k4;clear k0 k1 k2 k3 k4;by_cases a0:n<5
    ·have f7:(n:Int)<5:=(by omega);have e0:=u.out n a0;rw[if_neg (by omega)]at e0;have e2:=d0.out.at n a0;have d9:L<wr.heap.size:=ae e0;obtain⟨p,hp⟩:∃p,x.at n=p:=⟨_,rfl⟩;obtain⟨q,hq⟩:∃q,y.at n=q:=⟨_,rfl⟩;obtain⟨z,hz⟩:∃z,ef p q=z:=⟨_,rfl⟩;rw[hp]at e0;rw[hq]at e2;have u1:IntKind.u32.wrap ((p:Int)+q)=z:=(by rw[Dh,hz]);have e7:=qq (show ef (x.at n) (y.at n)=z by rw[hp,hq,hz]);clear hp hq hz;go_upto_region 11 with(fail);have t0:∀v:Later (Gr wr),v.w.cell? ⟨L,n,none⟩=some (.int .u32 p):=λv=>v.ok.cell e0;have t2:∀v:Later (Gr wr),v.w.cell? ⟨E,n,none⟩=some (.int .u32 q):=λv=>v.ok.cell e2;haveI:Nonempty (Later (Gr wr)):=⟨⟨wr,Gr.refl wr⟩⟩;refine ak (C:=Gr wr) 8 (by kernel_rfl) (by kernel_rfl) (Gr.drew' _) ?_;simp only[List.take_succ_cons,List.take_zero,List.drop_succ_cons,List.drop_zero];(repeat (go_big_quiet_step (fail)));refine wpQuiet_nil ?_;intro w9 a;have e5:=qq (λj (hj:j<5)=>a.cell (u.out j hj));have b8:=qq (λj=>(Below.frozen a (p:=⟨L,j,none⟩) d9).trans (e8.out j));have d6:=qq (d0.out.gr a);have T:=qq (c.out.gr a);have I:=qq (d1.out.trans a);have e9:=a.cell e0;have f9:=b8.out n;have f:=qq (show L≠E by have:=m.out;have:=D.out;omega);have g:=qq (show L≠R by have:=m.out;omega);clear a t0 t2 e0 e2 u1;go_wp2;go_roundw
     case rel=>exact⟨n+1,by omega,by go_num,wK e5.out a0 e7.out,λj=>ag.trans (b8.out j),d6.out.apart f.out _,T.out.apart g.out _,I.out.setCell (Nat.le_of_eq H.out) _⟩
     case measure=>simp[intOf];omega
    ·obtain rfl:n=5:=(by omega);have e0:=u.out 0 (by decide);have e1:=u.out 1 (by decide);have e2:=u.out 2 (by decide);have e3:=u.out 3 (by decide);have e4:=u.out 4 (by decide);rw[if_pos (by decide)]at e0 e1 e2 e3 e4;obtain⟨p0,a1⟩:∃p,ef (x.at 0) (y.at 0)=p:=⟨_,rfl⟩;obtain⟨p1,a2⟩:∃p,ef (x.at 1) (y.at 1)=p:=⟨_,rfl⟩;obtain⟨p2,a3⟩:∃p,ef (x.at 2) (y.at 2)=p:=⟨_,rfl⟩;obtain⟨p3,a4⟩:∃p,ef (x.at 3) (y.at 3)=p:=⟨_,rfl⟩;obtain⟨p4,a5⟩:∃p,ef (x.at 4) (y.at 4)=p:=⟨_,rfl⟩;rw[a1]at e0;rw[a2]at e1;rw[a3]at e2;rw[a4]at e3;rw[a5]at e4;have c7:=qq (show w5V (i6 x s)=.agg #[.int .u32 p0,.int .u32 p1,.int .u32 p2,.int .u32 p3,.int .u32 p4] by rw[Z.out,←a1,←a2,←a3,←a4,←a5];rfl);clear a1 a2 a3 a4 a5;have r0:=c.out.c0;have r1:=c.out.c1;have r2:=c.out.c2;have r3:=c.out.c3;have r4:=c.out.c4;have f0:=c.out.fz 0;have f1:=c.out.fz 1;have f2:=c.out.fz 2;have f3:=c.out.fz 3;have f4:=c.out.fz 4;dsimp only at r0 r1 r2 r3 r4;have d:=qq (show w.heap.size≤R by have:=H.out;have:=m.out;omega);go_wp2;have b9:=c.out.set ⟨p0,p1,p2,p3,p4⟩;refine bodyPost_ret (fg rfl rfl (run_loadVar_mid _ R 0 277 _ _ b9.range underlying277 rfl (by kernel_rfl))) rfl ⟨?_,((((d1.out.setCell d.out _).setCell d.out _).setCell d.out _).setCell d.out _).setCell d.out _⟩;show Ending.returned _=Ending.returned (w5V (i6 ⟨xa,xb,xc,xd,xe⟩ s));rw[c9,c7.out]
structure HashAt (b:Nat)(W:World)(bg:Bool)(h:W5)(rest:List UInt8)(n:Nat):Prop where
 c0:W.cell? ⟨b,0,none⟩=some (.bool bg)
 c1:W.cell? ⟨b,1,none⟩=some (.int .u32 h.a)
 c2:W.cell? ⟨b,2,none⟩=some (.int .u32 h.b)
 c3:W.cell? ⟨b,3,none⟩=some (.int .u32 h.c)
 c4:W.cell? ⟨b,4,none⟩=some (.int .u32 h.d)
 c5:W.cell? ⟨b,5,none⟩=some (.int .u32 h.e)
 c6:W.cell? ⟨b,6,none⟩=some (.string ⟨rest.toArray⟩)
 c7:W.cell? ⟨b,7,none⟩=some (.int .i64 n)
 fz:∀o,W.frozen? ⟨b,o,none⟩=false
section
variable {b:Nat} {W W':World} {bg:Bool} {h:W5} {rest:List UInt8} {n:Nat}
theorem HashAt.gr (H:HashAt b W bg h rest n)(a:Gr W W'):HashAt b W' bg h rest n :=
 ⟨a.cell H.c0,a.cell H.c1,a.cell H.c2,a.cell H.c3,a.cell H.c4,a.cell H.c5,a.cell H.c6,a.cell H.c7,λo=>(Below.frozen a (p:=⟨b,o,none⟩) (show b<_ from ae H.c0)).trans (H.fz o)⟩
theorem HashAt.set0 (H:HashAt b W bg h rest n)(v:Bool):HashAt b (W.setCell ⟨b,0,none⟩ (.bool v)) v h rest n :=
 ⟨af H.c0,ac H.c1 (by decide),ac H.c2 (by decide),ac H.c3 (by decide),ac H.c4 (by decide),ac H.c5 (by decide),ac H.c6 (by decide),ac H.c7 (by decide),λo=>ag.trans (H.fz o)⟩
theorem HashAt.set1 (H:HashAt b W bg h rest n)(v:Nat):HashAt b (W.setCell ⟨b,1,none⟩ (.int .u32 v)) bg { h with a:=v } rest n :=
 ⟨ac H.c0 (by decide),af H.c1,ac H.c2 (by decide),ac H.c3 (by decide),ac H.c4 (by decide),ac H.c5 (by decide),ac H.c6 (by decide),ac H.c7 (by decide),λo=>ag.trans (H.fz o)⟩
theorem HashAt.set2 (H:HashAt b W bg h rest n)(v:Nat):HashAt b (W.setCell ⟨b,2,none⟩ (.int .u32 v)) bg { h with b:=v } rest n :=
 ⟨ac H.c0 (by decide),ac H.c1 (by decide),af H.c2,ac H.c3 (by decide),ac H.c4 (by decide),ac H.c5 (by decide),ac H.c6 (by decide),ac H.c7 (by decide),λo=>ag.trans (H.fz o)⟩
theorem HashAt.set3 (H:HashAt b W bg h rest n)(v:Nat):HashAt b (W.setCell ⟨b,3,none⟩ (.int .u32 v)) bg { h with c:=v } rest n :=
 ⟨ac H.c0 (by decide),ac H.c1 (by decide),ac H.c2 (by decide),af H.c3,ac H.c4 (by decide),ac H.c5 (by decide),ac H.c6 (by decide),ac H.c7 (by decide),λo=>ag.trans (H.fz o)⟩
theorem HashAt.set4 (H:HashAt b W bg h rest n)(v:Nat):HashAt b (W.setCell ⟨b,4,none⟩ (.int .u32 v)) bg { h with d:=v } rest n :=
 ⟨ac H.c0 (by decide),ac H.c1 (by decide),ac H.c2 (by decide),ac H.c3 (by decide),af H.c4,ac H.c5 (by decide),ac H.c6 (by decide),ac H.c7 (by decide),λo=>ag.trans (H.fz o)⟩
theorem HashAt.set5 (H:HashAt b W bg h rest n)(v:Nat):HashAt b (W.setCell ⟨b,5,none⟩ (.int .u32 v)) bg { h with e:=v } rest n :=
 ⟨ac H.c0 (by decide),ac H.c1 (by decide),ac H.c2 (by decide),ac H.c3 (by decide),ac H.c4 (by decide),af H.c5,ac H.c6 (by decide),ac H.c7 (by decide),λo=>ag.trans (H.fz o)⟩
theorem HashAt.set6 (H:HashAt b W bg h rest n)(v:List UInt8):HashAt b (W.setCell ⟨b,6,none⟩ (.string ⟨v.toArray⟩)) bg h v n :=
 ⟨ac H.c0 (by decide),ac H.c1 (by decide),ac H.c2 (by decide),ac H.c3 (by decide),ac H.c4 (by decide),ac H.c5 (by decide),af H.c6,ac H.c7 (by decide),λo=>ag.trans (H.fz o)⟩
theorem HashAt.set7 (H:HashAt b W bg h rest n)(v:Nat):HashAt b (W.setCell ⟨b,7,none⟩ (.int .i64 v)) bg h rest v :=
 ⟨ac H.c0 (by decide),ac H.c1 (by decide),ac H.c2 (by decide),ac H.c3 (by decide),ac H.c4 (by decide),ac H.c5 (by decide),ac H.c6 (by decide),af H.c7,λo=>ag.trans (H.fz o)⟩
def setH (W:World)(b:Nat)(x:W5):World:=((((W.setCell ⟨b,1,none⟩ (.int .u32 x.a)).setCell ⟨b,2,none⟩ (.int .u32 x.b)).setCell ⟨b,3,none⟩ (.int .u32 x.c)).setCell ⟨b,4,none⟩ (.int .u32 x.d)).setCell ⟨b,5,none⟩ (.int .u32 x.e)
theorem HashAt.setH (H:HashAt b W bg h rest n)(x:W5):HashAt b (setH W b x) bg x rest n :=
 ((((H.set1 x.a).set2 x.b).set3 x.c).set4 x.d).set5 x.e
theorem gh (W:World)(b o:Nat)(v:Value):Ch (·=b) W (W.setCell ⟨b,o,none⟩ v):=Ch.setCell (T:=(·=b)) W (a:=⟨b,o,none⟩) rfl v
theorem rt (W:World)(b:Nat)(x:W5):Ch (·=b) W (Go.Proofs.YtadobobfjnmdlaaGreatDoor.setH W b x) :=
 ((((gh _ _ _ _).trans (gh _ _ _ _)).trans (gh _ _ _ _)).trans (gh _ _ _ _)).trans (gh _ _ _ _)
end
theorem mc {W0:World}{x y:W5}{s:List UInt8}(i:i6 x s=y)(hs:s.length=64)(j:x.ok)(v:Later (Gr W0)) :
  Calls prog 247 #[.agg #[.int .u32 x.a,.int .u32 x.b,.int .u32 x.c,.int .u32 x.d,.int .u32 x.e],.string ⟨s.toArray⟩] v.w λe w'=>e=.returned (.agg #[.int .u32 y.a,.int .u32 y.b,.int .u32 y.c,.int .u32 y.d,.int .u32 y.e])∧∃z:Later (Gr W0),w'=z.w :=
 Calls.later ((As x s hs j v.w).mono λ_ _ ⟨f,g⟩=>⟨by rw[i]at f;exact f,v.ok.trans g⟩)
def Gb:Value→Nat | .string s=>s.size | _=>0
theorem iV (b:Nat)(bg:Bool)(h:W5)(rest s:List UInt8)(n:Nat)(W:World)(H:HashAt b W bg h rest n)(B:h.ok)(hl:rest.length+s.length≤1000000)(hn:n+s.length≤1000000) :
  Calls prog 213 #[.pointer (some ⟨b,0,none⟩),.string ⟨s.toArray⟩] W λe W'=>e=.returned (.tuple #[]) ∧
   HashAt b W' true (bx (if bg then h else eP) (rest++s)).1 (bx (if bg then h else eP) (rest++s)).2 (n+s.length)∧Ch (·=b) W W':=by
 obtain⟨⟨yh,yr⟩,hy⟩:∃y,bx (if bg then h else eP) (rest++s)=y:=⟨_,rfl⟩;rw[hy];obtain⟨m,hm⟩:∃m,n+s.length=m:=⟨_,rfl⟩;rw[hm];have b0:(n:Int)+s.length=m:=by omega
 have b1:(m:Int)≤1000000:=by omega
 obtain⟨u,hu⟩:∃u,rest++s=u:=⟨_,rfl⟩;have T:(⟨rest.toArray⟩:ByteArray)++⟨s.toArray⟩=⟨u.toArray⟩:=by rw[←hu];exact aL rest s
 have R:u.length≤1000000:=by rw[←hu,qw];omega
 have hz:¬9223372036854775807<rest.length+s.length:=by omega
 rw[hu]at hy;have S:=qq H;have a4:=qq B;have a1:=qq hy;have U:=qq R;clear hu hy hl hn hm H B R;have a9:=ae S.out.c0;have q0:=S.out.c0;have q7:=S.out.c7;have q6:=S.out.c6;have f7:=S.out.fz 7;cases bg with
 | true =>
  go_enter func213,ntmps213;go_wp2;clear q0 q7 q6 f7 T;go_loopw [1] (λa wx=>∃(f:List UInt8) (g:W5) (rx:List UInt8),a=.string ⟨f.toArray⟩∧f.length≤1000000∧g.ok∧bx g f=(yh,yr)∧HashAt b wx true g rx m∧Ch (·=b) W wx) (λa _=>Gb a)
  case atStart=>exact⟨u,h,rest,rfl,U.out,a4.out,a1.out,S.out.set7 m,gh _ _ _ _⟩
  case round =>
   obtain⟨f,g,rx,rfl,R,B,I,H,hC⟩:=hrel;have k:=qq H;have L:=qq B;have F:=qq hC;have q:=qq I;clear H B hC I;have a3:=ae k.out.c0;by_cases X:64≤f.length
   ·have E:(64:Int)≤f.length:=(by omega);have Z:(⟨f.toArray⟩:ByteArray).extract 0 64=⟨(f.take 64).toArray⟩:=(by rw[av];simp);have a0:(⟨f.toArray⟩:ByteArray).extract 64 f.length=⟨(f.drop 64).toArray⟩:=(by rw[av];simp);obtain⟨z,j⟩:∃z,i6 g (f.take 64)=z:=⟨_,rfl⟩;have r:=qq (show bx z (f.drop 64)=(yh,yr) by rw[←j,←dJ X];exact q.out);have P:=qq (show z.ok by rw[←j];exact qh _ _);have M:=qq (show(f.take 64).length=64 by rw[List.length_take];omega);have J:=qq (show(f.drop 64).length≤1000000 by rw[List.length_drop];omega);have t:=qq (show(f.drop 64).length<f.length by rw[List.length_drop];omega);obtain⟨ua,N⟩:∃l,f.take 64=l:=⟨_,rfl⟩;obtain⟨ub,O⟩:∃l,f.drop 64=l:=⟨_,rfl⟩;rw[N]at Z j M;rw[O]at a0 r J t;have a2:=qq j;clear N O j;have e1:=k.out.c1;have e2:=k.out.c2;have e3:=k.out.c3;have e4:=k.out.c4;have V:=k.out.c5;have t1:∀v:Later (Gr wr),v.w.cell? ⟨b,1,none⟩=some (.int .u32 g.a):=λv=>v.ok.cell e1;have t2:∀v:Later (Gr wr),v.w.cell? ⟨b,2,none⟩=some (.int .u32 g.b):=λv=>v.ok.cell e2;have t3:∀v:Later (Gr wr),v.w.cell? ⟨b,3,none⟩=some (.int .u32 g.c):=λv=>v.ok.cell e3;have t4:∀v:Later (Gr wr),v.w.cell? ⟨b,4,none⟩=some (.int .u32 g.d):=λv=>v.ok.cell e4;have t5:∀v:Later (Gr wr),v.w.cell? ⟨b,5,none⟩=some (.int .u32 g.e):=λv=>v.ok.cell V;haveI:Nonempty (Later (Gr wr)):=⟨⟨wr,Gr.refl wr⟩⟩;go_upto_region 7 with(fail);refine ak (C:=Gr wr) 10 (by kernel_rfl) (by kernel_rfl) (Gr.drew' _) ?_;simp only[List.take_succ_cons,List.take_zero,List.drop_succ_cons,List.drop_zero];(repeat (go_big_quiet_step (with_reducible exact mc a2.out M.out L.out _)));refine wpQuiet_nil ?_;intro w9 D;have i:=qq (k.out.gr D);have Y:=qq (F.out.trans (D.to_ch (·=b)));clear D t1 t2 t3 t4 t5 e1 e2 e3 e4 V;have e1:=i.out.c1;have e2:=i.out.c2;have e3:=i.out.c3;have e4:=i.out.c4;have V:=i.out.c5;have f1:=i.out.fz 1;have f2:=i.out.fz 2;have f3:=i.out.fz 3;have f4:=i.out.fz 4;have f5:=i.out.fz 5;go_wp2;go_roundw
    case rel=>exact⟨ub,z,rx,rfl,J.out,P.out,r.out,i.out.setH z,Y.out.trans (rt w9 b z)⟩
    case measure=>(show(⟨ub.toArray⟩:ByteArray).size<(⟨f.toArray⟩:ByteArray).size);rw[aj,aj];exact t.out
   ·have E:¬(64:Int)≤f.length:=(by omega);have A:=qq (show g=yh∧f=yr by have:=q.out;rw[cg (by omega)]at this;injection this with h1 h2;exact⟨h1,h2⟩);have e6:=k.out.c6;have f6:=k.out.fz 6;go_wp2;go_end0;refine⟨rfl,?_,F.out.trans (gh _ _ _ _)⟩;rw[←A.out.1,←A.out.2];exact k.out.set6 f
 | false =>
  obtain⟨x,g⟩:∃x:W5,eP=x:=⟨_,rfl⟩;have o:=qq ro;unfold w5V at o;rw[g]at o;have a5:=qq (show x.ok from g▸mG);have a7:=qq (show bx x u=(yh,yr) by rw[←g];exact a1.out);clear q0 q7 q6 f7 g a1;have q0:=S.out.c0;go_enter func213,ntmps213;go_wp2_with fail;refine(o.out _).mono ?_;rintro e w1⟨rfl,hg⟩;have p:=qq (S.out.gr hg);have a6:=qq (hg.to_ch (·=b));have a8:=ae p.out.c0;clear hg q0;have q0:=p.out.c0;have q1:=p.out.c1;have q2:=p.out.c2;have q3:=p.out.c3;have q4:=p.out.c4;have q5:=p.out.c5;have q6:=p.out.c6;have q7:=p.out.c7;have f0:=p.out.fz 0;have f1:=p.out.fz 1;have f2:=p.out.fz 2;have f3:=p.out.fz 3;have f4:=p.out.fz 4;have f5:=p.out.fz 5;have f7:=p.out.fz 7;go_wp2;clear q0 q1 q2 q3 q4 q5 q6 q7 f0 f1 f2 f3 f4 f5 f7 T;go_loopw [1] (λa wx=>∃(f:List UInt8) (g:W5) (rx:List UInt8),a=.string ⟨f.toArray⟩∧f.length≤1000000∧g.ok∧bx g f=(yh,yr)∧HashAt b wx true g rx m∧Ch (·=b) W wx) (λa _=>Gb a)
  case atStart=>exact⟨u,x,rest,rfl,U.out,a5.out,a7.out,((p.out.set0 true).setH x).set7 m,((a6.out.trans (gh _ _ _ _)).trans (rt _ _ x)).trans (gh _ _ _ _)⟩
  case round =>
   obtain⟨f,g,rx,rfl,R,B,I,H,hC⟩:=hrel;have k:=qq H;have L:=qq B;have F:=qq hC;have q:=qq I;clear H B hC I;have a3:=ae k.out.c0;by_cases X:64≤f.length
   ·have E:(64:Int)≤f.length:=(by omega);have Z:(⟨f.toArray⟩:ByteArray).extract 0 64=⟨(f.take 64).toArray⟩:=(by rw[av];simp);have a0:(⟨f.toArray⟩:ByteArray).extract 64 f.length=⟨(f.drop 64).toArray⟩:=(by rw[av];simp);obtain⟨z,j⟩:∃z,i6 g (f.take 64)=z:=⟨_,rfl⟩;have r:=qq (show bx z (f.drop 64)=(yh,yr) by rw[←j,←dJ X];exact q.out);have P:=qq (show z.ok by rw[←j];exact qh _ _);have M:=qq (show(f.take 64).length=64 by rw[List.length_take];omega);have J:=qq (show(f.drop 64).length≤1000000 by rw[List.length_drop];omega);have t:=qq (show(f.drop 64).length<f.length by rw[List.length_drop];omega);obtain⟨ua,N⟩:∃l,f.take 64=l:=⟨_,rfl⟩;obtain⟨ub,O⟩:∃l,f.drop 64=l:=⟨_,rfl⟩;rw[N]at Z j M;rw[O]at a0 r J t;have a2:=qq j;clear N O j;have e1:=k.out.c1;have e2:=k.out.c2;have e3:=k.out.c3;have e4:=k.out.c4;have V:=k.out.c5;have t1:∀v:Later (Gr wr),v.w.cell? ⟨b,1,none⟩=some (.int .u32 g.a):=λv=>v.ok.cell e1;have t2:∀v:Later (Gr wr),v.w.cell? ⟨b,2,none⟩=some (.int .u32 g.b):=λv=>v.ok.cell e2;have t3:∀v:Later (Gr wr),v.w.cell? ⟨b,3,none⟩=some (.int .u32 g.c):=λv=>v.ok.cell e3;have t4:∀v:Later (Gr wr),v.w.cell? ⟨b,4,none⟩=some (.int .u32 g.d):=λv=>v.ok.cell e4;have t5:∀v:Later (Gr wr),v.w.cell? ⟨b,5,none⟩=some (.int .u32 g.e):=λv=>v.ok.cell V;haveI:Nonempty (Later (Gr wr)):=⟨⟨wr,Gr.refl wr⟩⟩;go_upto_region 7 with(fail);refine ak (C:=Gr wr) 10 (by kernel_rfl) (by kernel_rfl) (Gr.drew' _) ?_;simp only[List.take_succ_cons,List.take_zero,List.drop_succ_cons,List.drop_zero];(repeat (go_big_quiet_step (with_reducible exact mc a2.out M.out L.out _)));refine wpQuiet_nil ?_;intro w9 D;have i:=qq (k.out.gr D);have Y:=qq (F.out.trans (D.to_ch (·=b)));clear D t1 t2 t3 t4 t5 e1 e2 e3 e4 V;have e1:=i.out.c1;have e2:=i.out.c2;have e3:=i.out.c3;have e4:=i.out.c4;have V:=i.out.c5;have f1:=i.out.fz 1;have f2:=i.out.fz 2;have f3:=i.out.fz 3;have f4:=i.out.fz 4;have f5:=i.out.fz 5;go_wp2;go_roundw
    case rel=>exact⟨ub,z,rx,rfl,J.out,P.out,r.out,i.out.setH z,Y.out.trans (rt w9 b z)⟩
    case measure=>(show(⟨ub.toArray⟩:ByteArray).size<(⟨f.toArray⟩:ByteArray).size);rw[aj,aj];exact t.out
   ·have E:¬(64:Int)≤f.length:=(by omega);have A:=qq (show g=yh∧f=yr by have:=q.out;rw[cg (by omega)]at this;injection this with h1 h2;exact⟨h1,h2⟩);have e6:=k.out.c6;have f6:=k.out.fz 6;go_wp2;go_end0;refine⟨rfl,?_,F.out.trans (gh _ _ _ _)⟩;rw[←A.out.1,←A.out.2];exact k.out.set6 f
