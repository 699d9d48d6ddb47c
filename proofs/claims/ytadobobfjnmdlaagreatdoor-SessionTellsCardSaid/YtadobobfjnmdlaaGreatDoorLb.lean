/-
  Walks over package line: a request's line.
-/
import Derived.Test.YtadobobfjnmdlaaGreatDoorOb
import Derived.Sort.Grow
import Derived.Lib.SmallJoins
import Derived.RangeFuncBound
import Derived.RangeFuncCalls
import Derived.Shelf.Abstract
import Derived.Shelf.RegionOpen
import Derived.OwnWalkIn
import Derived.TacticsInMore
import Derived.LoopNIn
import Derived.LoopIn
set_option linter.unnecessarySimpa false
set_option linter.unusedVariables false
set_option linter.unusedSimpArgs false
set_option maxHeartbeats 16000000
set_option maxRecDepth 100000
open Go.Proofs.Tryz
namespace Go.Proofs.YtadobobfjnmdlaaGreatDoor
open Go.RowKit Go.Maps Go.ChangeMaps
theorem B0:Keyed prog 9:=string_keyed underlying9
theorem FS (w:World):(zeroValue 3).run prog w=.ok (.int .i64 0) w:=by kernel_rfl
theorem za (W:World)(p:List UInt8)(r:p.length≤1000000) :
  ∃h d,(Instr.mapUpdate 238 (.map (some W.heap.size)) (.string ⟨#[72,84,84,80,47,49,46,48]⟩) (.int .i64 10)).run prog (W.alloc (.map #[] 0))=.ok () h ∧
   (Instr.mapUpdate 238 (.map (some W.heap.size)) (.string ⟨#[72,84,84,80,47,49,46,49]⟩) (.int .i64 11)).run prog h=.ok () d ∧
   (Instr.lookup 238 (.map (some W.heap.size)) (.string ⟨p.toArray⟩) false).run prog d=.ok (.int .i64 (jC p)) d∧Gr W d:=by
 have h0:=World.ownsMap_made W prog 9 (plainElem (H:=Unit) prog 3);have g:∀l:List UInt8,l.length≤1000000→keyOf prog 9 (.string ⟨l.toArray⟩)=some (.string l):=λl hl =>
  WideMaps.keyOf_string_mk underlying9 (s:=⟨l.toArray⟩) (by rw[aj];unfold maxLen;omega)
 obtain⟨h,v,t,n⟩:=h0.update B0 underlying238 (by decide) (g D2 (by decide)) (plainElem_int underlying3 (a:=10) (by decide));obtain⟨d,w,u,o⟩:=t.update B0 underlying238 (by decide) (g D3 (by decide)) (plainElem_int underlying3 (a:=11) (by decide));obtain⟨c,x,b,_⟩:=u.lookup_int B0 underlying238 underlying3 (FS d) (g p r);have e:Gr W (W.alloc (.map #[] 0)):=Gr.alloc _ _;have f:Gr W h:=Below.grown e n (Below.size e) (λj k=>by cases k;exact qv _);have i:Gr W d:=Below.grown f o (Below.size f) (λj k=>by cases k;exact qv _);refine⟨h,d,v,w,?_,i⟩;have q:c=jC p:=by
  have m:IsMap (.map []:DataW Unit):=isMap_empty;unfold jC;by_cases e1:p=D2
  ·subst e1;rw[if_pos rfl];rw[atKey_put_other (by simp[D2,D3]),atKey_put_same m (B0.key (g _ (by decide)))]at b;exact(Lit.int.inj (DataW.lit.inj b)).2.symm
  ·rw[if_neg e1];by_cases e2:p=D3
   ·subst e2;rw[if_pos rfl];rw[atKey_put_same (m.put _ _) (B0.key (g _ (by decide)))]at b;exact(Lit.int.inj (DataW.lit.inj b)).2.symm
   ·rw[if_neg e2];rw[atKey_put_other (by simpa using e2),atKey_put_other (by simpa using e1)]at b;have:(DataW.map []:DataW Unit).atKey (.string p) (.lit (.int .i64 0))=.lit (.int .i64 0):=rfl;rw[this]at b;exact(Lit.int.inj (DataW.lit.inj b)).2.symm
 rw[←q];exact x
theorem dU {fn:Func}{t u v x:Tmp}(h:fn.results=#[.tmp t,.tmp u,.tmp v,.tmp x])(tmps:Array Value)(P:Program)(w:World) :
  (results fn tmps).run P w=.ok (.tuple #[tmps.getD t undef,tmps.getD u undef,tmps.getD v undef,tmps.getD x undef]) w:=by
 simp[results,h]
def lnV (r:List UInt8×List UInt8×Nat×Bool):Value:=.tuple #[.string ⟨r.1.toArray⟩,.string ⟨r.2.1.toArray⟩,.int .i64 r.2.2.1,.bool r.2.2.2]
theorem B3 (l:List UInt8)(w:World)(X:G w)(hl:l.length≤1000000) :
  Calls prog 160 #[.string ⟨l.toArray⟩] w λe w'=>e=.returned (lnV (bV l))∧Gr w w':=by
 have a1:(Lib.cut l [32]).1.length≤l.length:=dY l [32];have a2:(Lib.cut l [32]).2.1.length≤l.length:=eG l [32];have a:=ki l [32] w X (by omega);obtain⟨⟨m,r,d⟩,O⟩:∃c,Lib.cut l [32]=c:=⟨_,rfl⟩;rw[O]at a1 a2 a;dsimp only at a1 a2 a;have T:(Lib.cut r [32]).1.length≤r.length:=dY r [32];have U:(Lib.cut r [32]).2.1.length≤r.length:=eG r [32];have b:=λW (h:Gr w W)=>ki r [32] W (X.gr h) (by omega);obtain⟨⟨t,p,d2⟩,o⟩:∃c,Lib.cut r [32]=c:=⟨_,rfl⟩;rw[o]at T U;rw[o]at b;dsimp only at T U b;have Y:=qq (Ce O o);have v:=qq a;have x:=qq b;clear O o a b;go_enter func160,ntmps160;go_wp2_with fail;refine v.out.mono ?_;rintro e w1⟨rfl,H⟩;have z:=qq H;clear H;go_wp2_with fail;refine(x.out _ z.out).mono ?_;rintro e w2⟨rfl,I⟩;have A:=qq (z.out.trans I);clear I;go_wp2;go_loop [2,3,10,25] (λs2 s3 _ i=>∃k:Nat,k≤t.length∧s2=.string ⟨m.toArray⟩∧s3=.string ⟨t.toArray⟩∧i=.int .i64 k∧(t.take k).all nd=true) (λ_ _ _ i=>t.length - (intOf i).toNat)
 case atStart=>exact⟨0,qx _,rfl,rfl,rfl,rfl⟩
 case round =>
  obtain⟨k,hk,rfl,rfl,rfl,y⟩:=hrel;have j:=qq y;clear y;by_cases B:k<t.length
  ·obtain⟨c,P⟩:∃c,(⟨t.toArray⟩:ByteArray)[k]'(by rw[aj];exact B)=c:=⟨_,rfl⟩;have o:=qq (show t[k]=c from P);cases F:nd c
   ·have N:=qq (show bV l=([],[],0,false) by rw[Y.out,gu B (by rw[o.out];exact F)];rfl);rw[Cd,decide_eq_false_iff_not]at F;have hr:(c.toNat:Int)<33∨(33≤(c.toNat:Int)∧126<(c.toNat:Int)):=(by omega);clear F;rcases hr with V | ⟨V,h2⟩;all_goals
     go_wp2
     (try simp only[Exit.inBlock,Exit.then])
     refine bodyPost_ret (dU rfl _ _ _) rfl ⟨by rw[N.out];rfl,A.out⟩
   ·have R:=qq F;rw[Cd,decide_eq_true_eq]at F;obtain⟨V,h2⟩:=F;have D:=qq (cP j.out B (by rw[o.out];exact R.out));go_wp2;go_round
    case rel=>exact⟨k+1,by omega,rfl,rfl,by go_num,D.out⟩
    case measure=>simp[intOf];omega
  ·have M:=qq (show t.all nd=true by have:=j.out;rwa [List.take_of_length_le (by omega)]at this);clear j;obtain⟨w3,w4,r1,r2,r3,J⟩:=za w2 p (by omega);have q:=qq (A.out.trans J);obtain⟨n,hn⟩:∃n,jC p=n:=⟨_,rfl⟩;rw[hn]at r3;have a3:=qq hn;have u:=qq (show bV l=if eh m&&(!t.isEmpty&&n != 0) then(m,t,n,true) else([],[],0,false) by rw[Y.out,M.out,hn];rfl);have a0:=@run_makeMap prog;clear J hn;cases hm:eh m
   ·have g:=qq (show bV l=([],[],0,false) by rw[u.out,hm];rfl);have f:=qq (λw=>ir m _ hm w (by omega));clear hm;go_wp2_with fail;refine(f.out _).mono ?_;rintro e S⟨rfl,rfl⟩;go_wp2
    (try simp only[Exit.inBlock,Exit.then])
    refine bodyPost_ret (dU rfl _ _ _) rfl ⟨by rw[g.out];rfl,q.out⟩
   ·have f:=qq (λw=>ir m _ hm w (by omega));have C:=qq hm;clear hm;cases E:t.isEmpty
    ·cases s:(n != 0)
     ·have g:=qq (show bV l=([],[],0,false) by rw[u.out,C.out,E,s];rfl);obtain rfl:n=0:=(by simpa using s);clear s;have L:(!t.isEmpty)=true:=(by rw[E];rfl);go_wp2_with fail;refine(f.out _).mono ?_;rintro e S⟨rfl,rfl⟩;go_wp2
      (try simp only[Exit.inBlock,Exit.then])
      refine bodyPost_ret (dU rfl _ _ _) rfl ⟨by rw[g.out];rfl,q.out⟩
     ·have g:=qq (show bV l=(m,t,n,true) by rw[u.out,C.out,E,s];rfl);have Z:((n:Int)==0)=false:=by
       have:n≠0:=(by simpa using s);exact qk.2 (by omega)
      clear s;have L:(!t.isEmpty)=true:=(by rw[E];rfl);go_wp2_with fail;refine(f.out _).mono ?_;rintro e S⟨rfl,rfl⟩;go_wp2
      (try simp only[Exit.inBlock,Exit.then])
      refine bodyPost_ret (dU rfl _ _ _) rfl ⟨by rw[g.out];rfl,q.out⟩
    ·have g:=qq (show bV l=([],[],0,false) by rw[u.out,C.out,E];rfl);have L:(!t.isEmpty)=false:=(by rw[E];rfl);go_wp2_with fail;refine(f.out _).mono ?_;rintro e S⟨rfl,rfl⟩;go_wp2
     (try simp only[Exit.inBlock,Exit.then])
     refine bodyPost_ret (dU rfl _ _ _) rfl ⟨by rw[g.out];rfl,q.out⟩
theorem DW (w:World)(k:Nat)(os:Array Obj):Gr w (Sort.grow (w.drewN k) os):=by
 have h:=below_drewNm w k;refine⟨h.os,h.tape,h.output,?_,λi hi=>?_⟩
 ·have:=h.size;(first | (simp[Sort.grow];done) | (simp[Sort.grow];omega))
 ·have a:=h.block i hi;rw[←a];exact Array.getElem?_append_left (qj hi h.size)
theorem m6 (n:Int)(h0:-9223372036854775808≤n)(a:n≤9223372036854775807)(w:World)(b:G w) :
  Calls prog 116 #[.int .i64 n] w λe w'=>e=.returned (.string ⟨(Lib.itoa n).toArray⟩)∧Gr w w' :=
 (Tryz.strconv_Itoa n h0 a w b.pow).mono λ_ _ ⟨c,k,os,d⟩=>⟨c,d▸DW w k os⟩
def stV (r:Nat×List UInt8×Bool):Value:=.tuple #[.int .i64 r.1,.string ⟨r.2.1.toArray⟩,.bool r.2.2]
theorem zb {a b c d:UInt8}{y:List UInt8}:dh (aC++a :: b :: c :: d :: y)=if (d==32&&y.all aT) then(match fC a b c with | some n=>(n,y,true) | none=>(0,[],false)) else(0,[],false):=by
 have e:(Lib.hasPrefix (aC++a :: b :: c :: d :: y) aC&&(decide (13≤(aC++a :: b :: c :: d :: y).length)&&(((aC++a :: b :: c :: d :: y)[12]?==some 32)&&((aC++a :: b :: c :: d :: y).drop 13).all aT)))=(d==32&&y.all aT):=by
  have e1:Lib.hasPrefix (aC++a :: b :: c :: d :: y) aC=true:=List.isPrefixOf_iff_prefix.2 (List.prefix_append _ _);rw[e1];simp[aC]
 unfold dh;rw[e];rfl
theorem DX {t:List UInt8}(h:4≤t.length):∃a b c d y,t=a :: b :: c :: d :: y:=by
 match t,h with
 | a :: b :: c :: d :: y,_=>exact⟨a,b,c,d,y,rfl⟩
theorem m7 {w:World}(n:Int)(h0:-9223372036854775808≤n)(b:n≤9223372036854775807)(s:List UInt8)(hs:Lib.itoa n=s)(c:G w)(x:Later (Gr w)) :
  Calls prog 116 #[.int .i64 n] x.w λe a=>e=.returned (.string ⟨s.toArray⟩)∧∃y:Later (Gr w),a=y.w :=
 Calls.later ((m6 n h0 b x.w (c.gr x.ok)).mono λ_ _ ⟨d,f⟩=>⟨hs▸d,x.ok.trans f⟩)
theorem oJ {l:List UInt8}(h:13≤l.length)(e:Lib.hasPrefix l aC=true):∃a b c d y,l=aC++a :: b :: c :: d :: y:=by
 obtain⟨t,rfl⟩:=List.isPrefixOf_iff_prefix.1 e;obtain⟨a,b,c,d,y,rfl⟩:=DX (t:=t) (by simp[aC]at h;omega);exact⟨a,b,c,d,y,rfl⟩
theorem zc {l:List UInt8}(h:Lib.hasPrefix l aC=false):l.take 9≠aC:=λe=>by
 have:Lib.hasPrefix l aC=true:=List.isPrefixOf_iff_prefix.2 ⟨l.drop 9,by rw[←e,List.take_append_drop]⟩;rw[this]at h;cases h
def FT (a b c:UInt8)(n i:Value):Prop :=
 (i=.int .i64 9∧n=.int .i64 0)∨(i=.int .i64 10∧n=.int .i64 ((a.toNat:Int) - 48)) ∨
 (i=.int .i64 11∧dQ b=true∧n=.int .i64 (10*((a.toNat:Int) - 48)+((b.toNat:Int) - 48))) ∨
 (i=.int .i64 12∧dQ b=true∧dQ c=true∧n=.int .i64 (100*((a.toNat:Int) - 48)+10*((b.toNat:Int) - 48)+((c.toNat:Int) - 48)))
theorem sK (l:List UInt8)(w:World)(hl:l.length≤900000) :
  Calls prog 52 #[.string ⟨l.toArray⟩] w λe w'=>e=.returned (stV (dh l))∧Gr w w':=by
 have b3:(l.length:Int)≤900000:=by omega
 by_cases C:13≤l.length
 ·have N:¬((l.length:Int)<13):=by omega
  cases V:Lib.hasPrefix l aC
  ·have F:=qq (kn (l:=l) (.inl (by rw[V];rfl)));have Y:(⟨l.toArray⟩:ByteArray).extract 0 9=⟨(l.take 9).toArray⟩:=(by rw[av];simp);have I:=zc V;obtain⟨t9,W⟩:∃t9,l.take 9=t9:=⟨_,rfl⟩;rw[W]at Y I;have e1:(!(t9==([72,84,84,80,47,49,46,49,32]:List UInt8)))=true:=(by simpa[aC]using I);clear I W V;go_enter func52,ntmps52;go_wp2;go_ret3;exact⟨by rw[F.out];rfl,Gr.refl _⟩
  ·obtain⟨a,b,c,d,y,j⟩:=oJ C V;have F:=zb (a:=a) (b:=b) (c:=c) (d:=d) (y:=y);rw[←j]at F;have Y:(⟨l.toArray⟩:ByteArray).extract 0 9=⟨#[72,84,84,80,47,49,46,49,32]⟩:=(by rw[av,j];rfl);have a7:(⟨l.toArray⟩:ByteArray).extract 13 l.length=⟨y.toArray⟩:=(by rw[av,j];simp[aC]);have i9:(⟨l.toArray⟩:ByteArray)[9]'(by rw[aj];omega)=a:=(by subst j;rfl);have a4:(⟨l.toArray⟩:ByteArray)[10]'(by rw[aj];omega)=b:=(by subst j;rfl);have a5:(⟨l.toArray⟩:ByteArray)[11]'(by rw[aj];omega)=c:=(by subst j;rfl);have a6:(⟨l.toArray⟩:ByteArray)[12]'(by rw[aj];omega)=d:=(by subst j;rfl);have z:l.drop 13=y:=(by rw[j];rfl);have q:=qq z;have P:=qq F;clear j V F z;by_cases g:d=32
   ·have R:((d.toNat:Int) != 32)=false:=(by rw[g];rfl);have s:=qq (show dh l=if y.all aT then(match fC a b c with | some n=>(n,y,true) | none=>(0,[],false)) else(0,[],false) by rw[P.out,g,show((32:UInt8)==32)=true from rfl,Bool.true_and] <;> rfl)
    clear g;cases t:qO a
    ·have m:=qq (show dh l=(0,[],false) by
      rw[s.out];unfold fC;rw[t];cases y.all aT <;> rfl)
     rw[iR,decide_eq_false_iff_not]at t;have f:(a.toNat:Int)<49∨(49≤(a.toNat:Int)∧53<(a.toNat:Int)):=(by omega);clear t;rcases f with J | ⟨J,O⟩;all_goals
      go_enter func52,ntmps52;go_wp2;go_ret3;exact⟨by rw[m.out];rfl,Gr.refl _⟩
    ·have S:=qq t;rw[iR,decide_eq_true_eq]at t;obtain⟨a1,a2⟩:=t;go_enter func52,ntmps52;go_wp2;go_loop [5,6] (λn i=>FT a b c n i) (λ_ i=>(12 - intOf i).toNat)
     case atStart=>exact .inl ⟨rfl,rfl⟩
     case round =>
      unfold FT at hrel;rcases hrel with⟨rfl,rfl⟩ | ⟨rfl,rfl⟩ | ⟨rfl,p,rfl⟩ | ⟨rfl,p,B,rfl⟩
      ·go_wp2;go_round
       case rel=>exact .inr (.inl ⟨rfl,by go_num⟩)
       case measure=>simp[intOf]
      ·cases p:dQ b
       ·have m:=qq (show dh l=(0,[],false) by
         rw[s.out];unfold fC;rw[p];cases y.all aT <;> simp)
        rw[dc,decide_eq_false_iff_not]at p;have f:(b.toNat:Int)<48∨(48≤(b.toNat:Int)∧57<(b.toNat:Int)):=(by omega);clear p;rcases f with J | ⟨J,O⟩;all_goals
         go_wp2;go_ret3;exact⟨by rw[m.out];rfl,Gr.refl _⟩
       ·have H:=qq p;rw[dc,decide_eq_true_eq]at p;obtain⟨Z,b2⟩:=p;go_wp2;go_round
        case rel=>exact .inr (.inr (.inl ⟨rfl,H.out,by go_num⟩))
        case measure=>simp[intOf]
      ·have H:=qq p;rw[dc,decide_eq_true_eq]at p;obtain⟨Z,b2⟩:=p;cases B:dQ c
       ·have m:=qq (show dh l=(0,[],false) by
         rw[s.out];unfold fC;rw[B];cases y.all aT <;> simp)
        rw[dc,decide_eq_false_iff_not]at B;have f:(c.toNat:Int)<48∨(48≤(c.toNat:Int)∧57<(c.toNat:Int)):=(by omega);clear B;rcases f with J | ⟨J,O⟩;all_goals
         go_wp2;go_ret3;exact⟨by rw[m.out];rfl,Gr.refl _⟩
       ·have a0:=qq B;rw[dc,decide_eq_true_eq]at B;obtain⟨c1,c2⟩:=B;go_wp2;go_round
        case rel=>exact .inr (.inr (.inr ⟨rfl,H.out,a0.out,by go_num⟩))
        case measure=>simp[intOf]
      ·have v:=qq (show fC a b c=some (100*(a.toNat - 48)+10*(b.toNat - 48)+(c.toNat - 48)) by unfold fC;rw[S.out,p,B];rfl);rw[dc,decide_eq_true_eq]at p B;obtain⟨Z,b2⟩:=p;obtain⟨c1,c2⟩:=B;obtain⟨n,hn,U⟩:∃n:Nat,100*(a.toNat - 48)+10*(b.toNat - 48)+(c.toNat - 48)=n∧100*((a.toNat:Int) - 48)+10*((b.toNat:Int) - 48)+((c.toNat:Int) - 48)=(n:Int):=⟨_,rfl,by omega⟩;rw[hn]at v;rw[U];have m:=qq (show dh l=if y.all aT then(n,y,true) else(0,[],false) by rw[s.out,v.out]);clear hn U a1 a2 Z b2 c1 c2 i9 a4 a5 a6 R;go_wp2;go_loop [7] (λi=>∃k:Nat,13≤k∧k≤l.length∧i=.int .i64 k∧((l.drop 13).take (k - 13)).all aT=true) (λi=>l.length - (intOf i).toNat)
       case atStart=>exact⟨13,qv _,C,rfl,rfl⟩
       case round =>
        obtain⟨k,a9,b0,rfl,E⟩:=hrel;have o:=qq E;clear E;by_cases a3:k<l.length
        ·obtain⟨x,hx⟩:∃c,(⟨l.toArray⟩:ByteArray)[k]'(by rw[aj];exact a3)=c:=⟨_,rfl⟩;have T:k - 13<(l.drop 13).length:=(by rw[List.length_drop];omega);have X:=qq (show(l.drop 13)[k - 13]=x by
          rw[List.getElem_drop];have e:l[k]=x:=hx;rw[←e];congr 1;omega)
         have u:=qS x;cases L:aT x
         ·have D:=qq (show dh l=(0,[],false) by
           rw[m.out,←q.out,gu T (by rw[X.out];exact L)];rfl)
          rw[L]at u;have r:¬((x.toNat:Int)=9∨(32≤(x.toNat:Int)∧(x.toNat:Int)≠127)):=of_decide_eq_false u.symm;have h9:((x.toNat:Int) != 9)=true:=(by rw[bne_iff_ne];omega);clear u L;by_cases a8:(x.toNat:Int)<32
          ·clear r;go_wp2;go_ret3;exact⟨by rw[D.out];rfl,Gr.refl _⟩
          ·have M:((x.toNat:Int)==127)=true:=(by rw[beq_iff_eq];omega);clear r;go_wp2;go_ret3;exact⟨by rw[D.out];rfl,Gr.refl _⟩
         ·have A:=qq (show((l.drop 13).take (k+1 - 13)).all aT=true by
           rw[show k+1 - 13=(k - 13)+1 by omega];exact cP o.out T (by rw[X.out];exact L))
          rw[L]at u;have r:(x.toNat:Int)=9∨(32≤(x.toNat:Int)∧(x.toNat:Int)≠127):=of_decide_eq_true u.symm;clear u L;rcases r with h | ⟨J,O⟩
          ·have h9:((x.toNat:Int) != 9)=false:=(by rw[h];rfl);clear h;go_wp2;go_round
           case rel=>exact⟨k+1,by omega,by omega,by go_num,A.out⟩
           case measure=>simp[intOf];omega
          ·have M:((x.toNat:Int)==127)=false:=qk.2 O;have h9:((x.toNat:Int) != 9)=true:=(by rw[bne_iff_ne];omega);clear O;go_wp2;go_round
           case rel=>exact⟨k+1,by omega,by omega,by go_num,A.out⟩
           case measure=>simp[intOf];omega
        ·obtain rfl:k=l.length:=(by omega);have D:=qq (show dh l=(n,y,true) by
          have h:=o.out;rw[List.take_of_length_le (by rw[List.length_drop];omega),q.out]at h;rw[m.out,h];rfl)
         clear o;go_wp2;go_quiet (fail);go_wp2;go_ret3;exact⟨by rw[D.out];rfl,below_drewNm _ _⟩
   ·have R:((d.toNat:Int) != 32)=true:=bne_iff_ne.2 (λe=>g (UInt8.toNat_inj.1 (show d.toNat=32 by omega)));have s:=qq (show dh l=(0,[],false) by rw[P.out,show(d==32)=false from qk.2 g];rfl);clear g;go_enter func52,ntmps52;go_wp2;go_ret3;exact⟨by rw[s.out];rfl,Gr.refl _⟩
 ·have F:=qq (kn (l:=l) (.inl (by rw[decide_eq_false C];simp)));have N:(l.length:Int)<13:=by omega
  clear C;go_enter func52,ntmps52;go_wp2;go_ret3;exact⟨by rw[F.out];rfl,Gr.refl _⟩
theorem DY (l m t:List UInt8)(v:Nat)(b:Bool)(h:bV l=(m,t,v,b))(w:World)(a:G w)(hl:l.length≤1000000) :
  Calls prog 160 #[.string ⟨l.toArray⟩] w λe w'=>e=.returned (.tuple #[.string ⟨m.toArray⟩,.string ⟨t.toArray⟩,.int .i64 v,.bool b])∧Gr w w':=by
 have:=B3 l w a hl;rw[h]at this;exact this
theorem zd (l p q:List UInt8)(b:Bool)(h:cJ l=(p,q,b))(w:World)(a:G w)(hl:l.length≤1000000) :
  Calls prog 161 #[.string ⟨l.toArray⟩] w λe w'=>e=.returned (.tuple #[.string ⟨p.toArray⟩,.string ⟨q.toArray⟩,.bool b])∧Gr w w':=by
 have:=vD l w a hl;rw[h]at this;exact this
attribute [local go_sem] Oper.semAt_some
theorem qI {a:List (List UInt8)}{k:Nat}(b:k<a.length)(h:(ax a[k]).2.2=false):br a=none:=by
 induction a generalizing k with
 | nil=>simp at b
 | cons l t c =>
  unfold br;cases k with
  | zero =>
   rw[show(l :: t)[0]=l from rfl]at h;rw[h];rfl
  | succ k =>
   rw[c (k:=k) (by simpa using b) h];split <;> rfl
theorem qJ {a:List (List UInt8)}{fs:List Fl}{l n v:List UInt8}(h:br a=some fs)(b:ax l=(n,v,true)):br (a++[l])=some (fs++[(n,v)]):=by
 induction a generalizing fs with
 | nil =>
  cases h;simp[br,b]
 | cons x t d =>
  unfold br at h;rw[List.cons_append];unfold br;split at h
  ·rename_i c;cases e:br t with
   | none=>rw[e]at h;cases h
   | some f =>
    rw[e]at h;cases h;rw[if_pos c,d e];rfl
  ·cases h
def DZ (ls:List (List UInt8))(w:World)(e:Ending)(w':World):Prop :=
 ∃v b,e=.returned (.tuple #[v,.bool b])∧Gr w w'∧((br ls=none∧v=.slice none 0 0∧b=false)∨∃fs,br ls=some fs∧fs.length=ls.length∧b=true∧OwnF w.heap.size w' v fs)
def B4 (w:World)(ls:List (List UInt8))(v i:Value)(W:World):Prop :=
 ∃(k:Nat) (fs:List Fl) (p:Option Addr) (cap:Nat),k≤ls.length∧i=.int .i64 k∧v=.slice p fs.length cap∧fs.length=k∧br (ls.take k)=some fs∧OwnF w.heap.size W (.slice p fs.length cap) fs∧Gr w W
theorem sL (a:List (List UInt8))(t:Value)(w:World)(hG:G w)(hf:ko w t a)(hn:a.length≤100000)(hs:∀l∈a,l.length≤900000) :
  Calls prog 130 #[t] w (DZ a w):=by
 have V:=qq hG;obtain⟨p,cap,rfl,_,hc⟩:=hf;have a0:=qq hc;have a3:=qq hs;clear hc hs hG;go_enter func130,ntmps130;go_wp2;go_loopw [4,11] (λv i W=>B4 w a v i W) (λ_ i _=>a.length - (intOf i).toNat)
 case atStart=>exact⟨0,[],none,0,qx _,rfl,rfl,rfl,rfl,World.ownsRow_nil _ _ _ _,Gr.refl _⟩
 case round =>
  obtain⟨k,fs,pv,cv,hk,rfl,rfl,E,z,ho,U⟩:=hrel;have u:=qq z;have I:=qq ho;have a5:fs.length≤100000:=by omega
  have s:=qq E;clear E;have r:=qq U;by_cases n:k<a.length
  ·obtain⟨b,off,rfl,h1⟩:=a0.out k n;have d1:=U.cell h1;have N:=a3.out _ (List.getElem_mem n);have d:=qq (λh=>@qI a k n h);have B:a.take (k+1)=a.take k++[a[k]]:=List.take_succ_eq_append_getElem n;obtain⟨l,hl⟩:∃x,a[k]=x:=⟨_,rfl⟩;rw[hl]at d1 N d B;have a1:(k:Int)<a.length:=(by omega);have M:l.length<4294967281:=(by omega);have L:=qq (λW X=>iP l W X M);obtain⟨⟨g,j,a4⟩,Y⟩:∃x,ax l=x:=⟨_,rfl⟩;rw[Y]at L d;have Z:=qq Y;have P:=qq B;clear Y B hl h1 z M ho U;go_wp2_with fail;refine(L.out _ (V.out.gr r.out)).mono ?_;rintro e w3⟨rfl,y⟩;unfold eK;dsimp only;have y0:(w3.alloc (.cells #[.string ⟨g.toArray⟩,.string ⟨j.toArray⟩] 80)).cell? ⟨w3.heap.size,0,none⟩=some (.string ⟨g.toArray⟩):=aa w3 [.string ⟨g.toArray⟩,.string ⟨j.toArray⟩] _ 0 _ rfl;have y1:(w3.alloc (.cells #[.string ⟨g.toArray⟩,.string ⟨j.toArray⟩] 80)).cell? ⟨w3.heap.size,1,none⟩=some (.string ⟨j.toArray⟩):=aa w3 [.string ⟨g.toArray⟩,.string ⟨j.toArray⟩] _ 1 _ rfl;have C:=y.trans (Gr.alloc w3 (.cells #[.string ⟨g.toArray⟩,.string ⟨j.toArray⟩] 80));clear d1;cases a4 with
   | false =>
    have a2:=qq (d.out rfl);have g9:=qq (r.out.trans C);clear C y;go_wp2;go_ret2;exact⟨_,false,rfl,g9.out,.inl ⟨a2.out,rfl,rfl⟩⟩
   | true =>
    go_upto_region 8 with(fail);generalize w3.alloc (.cells #[.string ⟨g.toArray⟩,.string ⟨j.toArray⟩] 80)=w4 at y0 y1 C ⊢;have A:=(I.out.ch (C.to_ch (λ_=>False)) (λ_ h=>h.elim));have g4:=qq (r.out.trans C);have J:=qq A;have hA:∀O,(w4.alloc O).ownsRow w.heap.size 80 2 (.slice pv fs.length cv) fs.length (fY fs):=λO=>World.ownsRow.alloc A O;obtain⟨i0,hi,R,S,T⟩:=info_parts lq;have a6:=Below.size g4.out;clear C y A;go_wp2_with (at_builtin;refine wpList_append_own _ rfl _ _ 49 rfl w.heap.size 80 i0 (.agg #[.string ⟨#[]⟩,.string ⟨#[]⟩]) 2 32 underlying49 hi R S T rfl (by decide) _ _ _ rfl (hA _) ⟨w4.heap.size,0,none⟩ 1 1 [.string ⟨g.toArray⟩,.string ⟨j.toArray⟩] rfl rfl ?qc2 ?qc3 ?qc4 ?qc5 ?qc6 ?_)
    case qc2=>exact lr _ _ _ _
    case qc3=>simp[Value.oneCell']
    case qc4=>unfold maxLen;omega
    case qc5=>omega
    case qc6=>simp;omega
    intro v' w9 o m _;have f:OwnF w.heap.size w9 v' (fs++[(g,j)]):=by
     unfold OwnF;rw[jD,qw];exact o
    obtain⟨p9,c9,rfl,_⟩:=f.at;have c:(fs++[(g,j)]).length=fs.length+1:=(by simp);have q:=qq (show B4 w a (.slice p9 (fs++[(g,j)]).length c9) (.int .i64 ((k:Int)+1)) w9 from
     ⟨k+1,fs++[(g,j)],p9,c9,n,rfl,rfl,by rw[c,s.out],by rw[P.out];exact qJ u.out Z.out,f,(g4.out.alloc1 _).ch (Ch.of_grown m) (λk e=>(World.ownsRow.lt J.out k e).1)⟩)
    rw[c]at q ⊢;clear o m hA hi R S T f c;go_wp2;go_roundw
    case rel=>exact q.out
    case measure=>simp[intOf];omega
  ·have H:k=a.length:=(by omega);have a1:¬(k:Int)<a.length:=(by omega);have D:=qq (show br a=some fs by have:=u.out;rwa [H,List.take_length]at this);have F:=qq (s.out.trans H);clear z U ho;go_wp2;go_ret2;exact⟨_,true,rfl,r.out,.inr ⟨fs,D.out,F.out,rfl,I.out⟩⟩
open Go.Shelf
def xE (w:World)(a:Addr):Nat:=match w.cell? a with | some (.string s)=>s.size | _=>0
theorem vi (s:List UInt8)(W0:World)(o h p:Nat)(X:W0.cell? ⟨o,0,none⟩=some (.string ⟨#[44]⟩))(Y:W0.cell? ⟨h,0,none⟩=some (.string ⟨s.toArray⟩))(V:W0.frozen? ⟨h,0,none⟩=false)
  (Z:W0.cell? ⟨p,0,none⟩=some (.int .i64 0)) (hs:s.length≤4611686018427387904) (M:o≠h) (N:p≠h) :
  xI prog 265 #[.pointer (some ⟨o,0,none⟩),.pointer (some ⟨h,0,none⟩),.pointer (some ⟨p,0,none⟩)] (λx:List UInt8=>#[.string ⟨x.toArray⟩]) (splitB 44 s)
   (λk=>k=o∨k=h∨k=p) 0 (λ_=>True) W0:=by
 intro W l J Jx U a3 B hU hJ z _ hY h0;have v:W.cell? ⟨o,0,none⟩=some (.string ⟨#[44]⟩):=(World.cell?_of_block (B o (.inl rfl))).trans X;have q:W.cell? ⟨h,0,none⟩=some (.string ⟨s.toArray⟩):=(World.cell?_of_block (B h (.inr (.inl rfl)))).trans Y;have k2:W.frozen? ⟨h,0,none⟩=false:=(World.frozen?_of_block (B h (.inr (.inl rfl)))).trans V;have w:W.cell? ⟨p,0,none⟩=some (.int .i64 0):=(World.cell?_of_block (B p (.inr (.inr rfl)))).trans Z;clear X Y V Z B;have O:=qq hJ;have a0:=qq z;have C:=qq hY;have m:=qq hU;have L:=qq h0;clear hJ z hY hU h0;have a2:∀f,Fence.wide.fn f:=λ_=>trivial;have a1:Fence.wide.depth=none:=rfl;refine callsIn_of_wp func265 rfl trivial ?_ rfl;simp only[ntmps265,List.size_toArray,List.length_cons,List.length_nil,Nat.reduceAdd,Nat.reduceSub,Array.replicate_succ,Array.replicate_zero,List.push_toArray,List.append_toArray,List.nil_append,List.cons_append];gi_wp2;gi_loopw [7,8] (λ_ _ wr=>∃(g:List (List UInt8)) (t:List UInt8),splitB 44 s=g++splitB 44 t∧t.length≤s.length∧W.heap.size≤wr.heap.size∧J g wr∧wr.cell? ⟨o,0,none⟩=some (.string ⟨#[44]⟩)∧wr.cell? ⟨h,0,none⟩=some (.string ⟨t.toArray⟩)∧wr.frozen? ⟨h,0,none⟩=false∧wr.cell? ⟨p,0,none⟩=some (.int .i64 0))
  (λ_ _ wr=>xE wr ⟨h,0,none⟩)
 case atStart=>exact⟨[],s,rfl,qv _,qv _,L.out,v,q,k2,w⟩
 case round =>
  clear v q k2 w;obtain⟨g,t,r,a4,I,hj,v,q,k2,w⟩:=hrel;have j:=qq I;clear I;have a:=qq r;have F:=qq hj;have hm:xE wr ⟨h,0,none⟩=t.length:=by unfold xE;rw[q];exact aj t
  have R:=qq hm;clear r hj hm;rcases nL t 44 with⟨hi,H⟩ | ⟨k,hi,hk,D,E⟩
  ·have c:=lZ 44 t H;obtain⟨fn,tmps,assign,body,hy,P⟩:=C.out g t [] wr (by rw[a.out,c]) j.out F.out;have u:=qq hi;have d:=qq c;clear hi c H;gi_wp2_with (gi_at_call 105;refine(callsIn_wide.2 (Tryz.strings_Index_one ⟨t.toArray⟩ 44 _)).mono ?_;rintro e w' ⟨rfl,rfl⟩;rw[u.out]);refine P.mono ?_;rintro e A (⟨rfl,i,b⟩ | ⟨rfl,i,b⟩)
   ·gi_wp2;go_end0;exact⟨rfl,.inl (by rw[a.out,d.out];exact i)⟩
   ·gi_wp2;go_end0;exact⟨rfl,.inr ⟨g++[t],⟨[],by rw[a.out,d.out,List.append_nil]⟩,i⟩⟩
  ·have c:=pI 44 t k hk D E;obtain⟨x,S⟩:∃x,t.take k=x:=⟨_,rfl⟩;obtain⟨y,n⟩:∃y,t.drop (k+1)=y:=⟨_,rfl⟩;rw[S,n]at c;have T:y.length<t.length:=(by rw[←n];simp;omega);have a5:(⟨t.toArray⟩:ByteArray).extract 0 k=⟨x.toArray⟩:=(by rw[av,←S];simp);have a6:(⟨t.toArray⟩:ByteArray).extract (k+1) t.length=⟨y.toArray⟩:=(by rw[av,←n];simp);obtain⟨fn,tmps,assign,body,hy,P⟩:=C.out g x (splitB 44 y) wr (by rw[a.out,c]) j.out F.out;have u:=qq hi;have d:=qq c;clear hi c E D S n;gi_wp2_with (gi_at_call 105;refine(callsIn_wide.2 (Tryz.strings_Index_one ⟨t.toArray⟩ 44 _)).mono ?_;rintro e w' ⟨rfl,rfl⟩;rw[u.out]);refine P.mono ?_;rintro e A (⟨rfl,i,b⟩ | ⟨rfl,i,b⟩)
   ·have e1:A.cell? ⟨o,0,none⟩=some (.string ⟨#[44]⟩):=(b.cell (ae v) (λe=>(m.out _ e).2 (.inl rfl))).trans v;have e2:A.cell? ⟨h,0,none⟩=some (.string ⟨t.toArray⟩):=(b.cell (ae q) (λe=>(m.out _ e).2 (.inr (.inl rfl)))).trans q;have e3:A.cell? ⟨p,0,none⟩=some (.int .i64 0):=(b.cell (ae w) (λe=>(m.out _ e).2 (.inr (.inr rfl)))).trans w;have j2:A.frozen? ⟨h,0,none⟩=false:=(b.frozen (ae q) (λe=>(m.out _ e).2 (.inr (.inl rfl)))).trans k2;clear v q w k2;gi_wp2;go_roundw
    case rel =>
     exact⟨g++[x],y,by rw[a.out,d.out,List.append_assoc];rfl,by omega,by simpa using qy j.out b.size,O.out _ _ _ i (Ch.setCell _ (.inl (.inr (.inl rfl))) _),ai e1 (λe=>M e.symm),af e2,by rw[ag];exact j2,ai e3 (λe=>N e.symm)⟩
    case measure =>
     rw[R.out];unfold xE;rw[af e2];simpa only[aj]using T
   ·gi_wp2;refine bodyPost_ret (results_none rfl _ _ _) rfl ?_;exact⟨rfl,.inr ⟨g++[x],⟨splitB 44 y,by rw[a.out,d.out,List.append_assoc];rfl⟩,i⟩⟩
theorem RoundIn.inRd {F:Fence}{n:Nat}{P:Program}{l:Nat}{f:FuncId}{tmps:Array Value}{assign body:Code}{w:World}{R:Ending→World→Prop}(l':Nat)(h:RoundIn F n P l f tmps assign body w R):RoundIn (F.inRound l') n P l f tmps assign body w R:=h
def eS (w:World)(l:List UInt8):World:=((w.alloc (.cells #[.string ⟨l.toArray⟩] 9)).alloc (.cells #[.string ⟨#[44]⟩] 9)).alloc (.cells #[.int .i64 0] 3)
def B5 (w:World):Value:=.func (.func 265) #[] #[.pointer (some ⟨w.heap.size+1,0,none⟩),.pointer (some ⟨w.heap.size,0,none⟩),.pointer (some ⟨w.heap.size+2,0,none⟩)]
theorem oK (l:List UInt8)(w:World) :
  Calls prog 242 #[.string ⟨l.toArray⟩,.string ⟨#[44]⟩,.int .i64 0] w λe w'=>e=.returned (B5 w)∧eS w l=w':=by
 go_enter func242,ntmps242;go_wp2;go_ret;exact⟨rfl,rfl⟩
theorem qK (l:List UInt8)(w:World) :
  Calls prog 208 #[.string ⟨l.toArray⟩,.string ⟨#[44]⟩] w λe w'=>e=.returned (B5 w)∧eS w l=w':=by
 go_enter func208,ntmps208;go_wp2_with (go_at_call 242;refine(oK l _).mono ?_;rintro e w' ⟨rfl,rfl⟩);go_ret;exact⟨rfl,rfl⟩
def FU (b:Nat):Value:=.func (.func 207) #[] #[.pointer (some ⟨b,0,none⟩)]
theorem B6 (l:List UInt8)(w:World) :
  Calls prog 166 #[.string ⟨l.toArray⟩] w λe w'=>e=.returned (FU w.heap.size)∧w.alloc (.cells #[.string ⟨l.toArray⟩] 9)=w':=by
 go_enter func166,ntmps166;go_wp2;go_ret;exact⟨rfl,rfl⟩
theorem qL (s:List UInt8)(w:World)(hs:s.length≤4611686018427387904) :
  xI prog 265 #[.pointer (some ⟨w.heap.size+1,0,none⟩),.pointer (some ⟨w.heap.size,0,none⟩),.pointer (some ⟨w.heap.size+2,0,none⟩)] (λx:List UInt8=>#[.string ⟨x.toArray⟩]) (splitB 44 s)
   (λk=>k=w.heap.size+1∨k=w.heap.size∨k=w.heap.size+2) 0 (λ_=>True) (eS w s) :=
 vi s _ _ _ _ (by simp[eS,go_sem]) (by simp[eS,go_sem]) (by simp[eS,go_sem]) (by simp[eS,go_sem]) hs (by omega) (by omega)
theorem pr {l:List UInt8}{a rest:List (List UInt8)}{x:List UInt8}(h:splitB 44 l=a++x :: rest)(b:bm x≠[]):jL l=cX a++bm x :: cX rest:=by
 unfold jL cX;rw[h];simp[b]
theorem ze (s:List UInt8)(W0:World)(N:Nat)(hv:W0.cell? ⟨N,0,none⟩=some (.string ⟨s.toArray⟩))(hs:s.length≤4611686018427387904) :
  xI prog 207 #[.pointer (some ⟨N,0,none⟩)] (λx:List UInt8=>#[.string ⟨x.toArray⟩]) (jL s) (λk=>k=N) 6 (λ_=>True) W0:=by
 intro W l J Jx U c5 hT hU hJ a1 _ hY h0;have gv:W.cell? ⟨N,0,none⟩=some (.string ⟨s.toArray⟩):=(World.cell?_of_block (hT N rfl)).trans hv;have c1:N<W.heap.size:=ae gv;have a8:∀o,(W.alloc o).cell? ⟨N,0,none⟩=some (.string ⟨s.toArray⟩):=λo=>(Gr.alloc W o).cell gv;have t:=qq hJ;have C:=qq a1;have b1:=qq hY;have P:=qq hU;have a9:=qq h0;clear hJ a1 hY hU h0 hv hT;have c3:∀f,Fence.wide.fn f:=λ_=>trivial;have c2:Fence.wide.depth=none:=rfl;refine callsIn_of_wp_marks func207 rfl trivial ?_ rfl;simp only[ntmps207,List.size_toArray,List.length_cons,List.length_nil,Nat.reduceAdd,Nat.reduceSub,Array.replicate_succ,Array.replicate_zero,List.push_toArray,List.append_toArray,List.nil_append,List.cons_append];gi_wp2_with (gi_at_call 208;refine(callsIn_wide.2 (qK s _)).mono ?_;rintro e w' ⟨rfl,rfl⟩);obtain⟨M,n⟩:∃M,W.alloc (.cells #[.func (.yield l) #[] #[]] 166)=M:=⟨_,rfl⟩;rw[n];have X:M.heap.size=W.heap.size+1:=by rw[←n];simp
 have a6:(eS M s).heap.size=W.heap.size+4:=by simp[eS,X]
 have b2:(eS M s).cell? ⟨W.heap.size,0,none⟩=some (.func (.yield l) #[] #[]):=by
  rw[←n];simp[eS,go_sem]
 have i:∀T,Ch T W (eS M s):=λT=>by
  rw[←n];exact(((Ch.alloc _ _ _).trans (Ch.alloc _ _ _)).trans (Ch.alloc _ _ _)).trans (Ch.alloc _ _ _)
 have a:=qq a6;have h:=qq X;clear n a6 X a8;refine nu (gf:=265) rfl (enters_of func265 (by kernel_rfl) rfl) (qL s M hs) (qv _) (λk p=>⟨by rw[a.out];have:=h.out;omega,rfl⟩) (λ_=>rfl)
  (λg A=>J (cX g) A∧A.cell? ⟨W.heap.size,0,none⟩=some (.func (.yield l) #[] #[])) (λc _ A=>c=.ret∧∃q,q <+: jL s∧Jx q A) U
  (λk p=>⟨by rw[a.out];have:=(P.out k p).1;omega,by have:=(P.out k p).1;have:=h.out;omega⟩) ?hI ?hIx (λ_ _ _=>trivial) ⟨t.out _ _ _ a9.out (i _),b2⟩ ?round ?done ?stop
 case hI =>
  rintro g A B⟨r,hc⟩ i;have b5:=a.out;have b6:=h.out;refine⟨t.out _ _ _ r (i.mono (λk p=>.inr (by omega))),(i.cell (ae hc) (λp=>?_)).trans hc⟩;dsimp only at p;omega
 case hIx =>
  rintro c g A B⟨rfl,q,hq,r⟩ i;have b5:=a.out;have b6:=h.out;exact⟨rfl,q,hq,C.out _ _ _ r (i.mono (λk p=>.inr (by omega)))⟩
 case round =>
  intro l' g x rest A hl c4 Z hI;have b7:=qq (show W.heap.size+6≤A.heap.size by have:=a.out;omega);obtain⟨r,R⟩:=hI;have b3:=qq r;have I:=qq Z;have a7:x.length≤9223372036854775807:=by
   have:=jK 44 s x (by rw[Z];simp);omega
  clear r Z;have a3:W.heap.size≠l':=by have:=a.out;omega
  have a4:=qq a3;have b0:W.heap.size<A.heap.size:=ae R;gi_wp2;refine⟨Ch.refl _ _,λL O=>?_⟩;have E:L.cell? ⟨W.heap.size,0,none⟩=some (.func (.yield l) #[] #[]):=(O.cell b0 a4.out).trans R;have w:=qq O;clear R O a3;obtain⟨y,hy⟩:∃y,bm x=y:=⟨_,rfl⟩;have Y:=sM x;rw[hy]at Y;have H:=qq Y;have d:=qq hy;clear Y hy;have S:∀(T:Nat→Prop) B,Gr L B→Ch T L B:=λT B hB=>Ch.of_below (B:=L.heap.size) hB (λk p b4=>absurd b4 (Nat.not_lt.2 p));have a5:W.heap.size≤l'∧l'<W.heap.size+6:=by have:=a.out;omega
  have a0:∀B,Gr L B→J (cX g) B:=λB hB=>t.out _ _ _ b3.out ((w.out.mono (λk p=>.inr (by rw[p];exact a5))).trans (S _ B hB));have a2:∀B,Gr L B→Ch U L B:=λB hB=>S U B hB;clear S a5;have z:=qq a0;have m:=qq a2;clear a0 a2;by_cases j:y=[]
  ·have e1:y.isEmpty=true:=(by simp[j]);have b:=qq j;clear j;gi_wp2_with (gi_at_call 162;refine(CallsIn.inRound l' (callsIn_wide.2 (H.out _ a7))).mono ?_;rintro e A3 ⟨rfl,u⟩);exact⟨m.out _ u,by rw[nM _ _ (d.out.trans b.out)];exact z.out _ u,u.cell E⟩
  ·have e1:y.isEmpty=false:=(by simp[j]);have b:=qq j;clear j;gi_wp2_with (gi_at_call 162;refine(CallsIn.inRound l' (callsIn_wide.2 (H.out _ a7))).mono ?_;rintro e A3 ⟨rfl,u⟩;have F:=u.cell E;obtain⟨fn,tmps,b9,c0,c6,hR⟩:=b1.out (cX g) y (cX rest) A3 (by rw[pr I.out (by rw[d.out];exact b.out),d.out]) (qy (qy b7.out w.out.size) (Below.size u)) (z.out _ u));refine(RoundIn.inRd l' hR).mono ?_;rintro e B (⟨rfl,V,v⟩ | ⟨rfl,V,v⟩)
   ·gi_wp2;exact⟨(m.out _ u).trans v,by rw[nN _ _ (by rw[d.out];exact b.out),d.out];exact V,(v.cell (ae F) (λe=>by have:=(P.out _ e).1;dsimp only at this;omega)).trans F⟩
   ·gi_wp2;exact⟨(m.out _ u).trans v,rfl,_,⟨cX rest,by rw[pr I.out (by rw[d.out];exact b.out),d.out];simp⟩,V⟩
 case done =>
  rintro D A hD⟨r,hc⟩ hK;gi_wp2;refine⟨by simp,.inl ⟨_,_,rfl,run_takeDeferred hK,?_⟩⟩;exact⟨_,results_none rfl _ _ _,rfl,.inl (t.out _ _ _ r (Ch.putObj _ (.inr (by have:=a.out;omega)) _))⟩
 case stop =>
  rintro D c g A hD b8⟨rfl,q,hq,r⟩ hK;gi_wp2;refine⟨by simp,.inl ⟨_,_,rfl,run_takeDeferred hK,?_⟩⟩;exact⟨_,results_none rfl _ _ _,rfl,.inr ⟨q,hq,C.out _ _ _ r (Ch.putObj _ (.inr (by have:=a.out;omega)) _)⟩⟩
