/-
  Replies: whether one may be.
-/
import Derived.Test.YtadobobfjnmdlaaGreatDoorYj
import Derived.Test.YtadobobfjnmdlaaGreatDoorChecked
set_option linter.unnecessarySimpa false
set_option linter.unusedVariables false
set_option linter.unusedSimpArgs false
set_option maxHeartbeats 16000000
set_option maxRecDepth 100000
open Go.Proofs.Tryz
namespace Go.Proofs.YtadobobfjnmdlaaGreatDoor
open Go.RowKit
attribute [local go_sem] Oper.semAt_some
theorem wW {α:Type}{l:List α}{p:α→Bool}{k:Nat}(a:k<l.length)(h:p l[k]=false):l.all p=false:=by
 rw[List.all_eq_false];exact⟨l[k],List.getElem_mem a,by rw[h];decide⟩
theorem AN {α:Type}{l:List α}{p:α→Bool}{k:Nat}(h:(l.take k).all p=true)(a:k<l.length)(b:p l[k]=true):(l.take (k+1)).all p=true:=by
 rw[List.take_succ_eq_append_getElem a,List.all_append,h,List.all_cons,b];rfl
theorem wX (r:Rp):(r.code<100∧cK r=false)∨(¬r.code<100∧599<r.code∧cK r=false) ∨
  (¬r.code<100∧¬599<r.code∧bF r.code=true∧r.b.isEmpty=false∧cK r=false) ∨
  (¬r.code<100∧¬599<r.code∧bF r.code=true∧r.b=[]∧cK r=r.fs.all (bH r.code)) ∨
  (¬r.code<100∧¬599<r.code∧bF r.code=false∧65536<(r.b.length:Int)∧cK r=false) ∨
  (¬r.code<100∧¬599<r.code∧bF r.code=false∧¬65536<(r.b.length:Int)∧cK r=r.fs.all (bH r.code)):=by
 unfold cK;by_cases a:r.code<100
 ·left;refine⟨a,?_⟩;rw[decide_eq_false (by omega)];rfl
 ·right;by_cases c:599<r.code
  ·left;refine⟨a,c,?_⟩;rw[decide_eq_false (show ¬r.code≤599 by omega)];simp
  ·right;have e1:decide (100≤r.code)=true:=decide_eq_true (by omega);have e2:decide (r.code≤599)=true:=decide_eq_true (by omega);cases g:bF r.code
   ·right;right;by_cases e:65536<(r.b.length:Int)
    ·left;refine⟨a,c,rfl,e,?_⟩;rw[decide_eq_false (show ¬r.b.length≤65536 by omega)];simp
    ·right;refine⟨a,c,rfl,e,?_⟩;rw[e1,e2,decide_eq_true (show r.b.length≤65536 by omega)];simp
   ·cases f:r.b.isEmpty
    ·left;exact⟨a,c,rfl,rfl,by simp⟩
    ·right;left;have d:r.b=[]:=(by simpa using f);refine⟨a,c,rfl,d,?_⟩;rw[e1,e2,d];simp
theorem Dr (c:Int)(a1 a2 a3:Bool):(a1=true∧(a1||(a2||(c != 101&&a3)))=true)∨(a1=false∧a2=true∧(a1||(a2||(c != 101&&a3)))=true) ∨
  (a1=false∧a2=false∧(c != 101)=false∧(a1||(a2||(c != 101&&a3)))=false) ∨
  (a1=false∧a2=false∧(c != 101)=true∧a3=true∧(a1||(a2||(c != 101&&a3)))=true) ∨
  (a1=false∧a2=false∧(c != 101)=true∧a3=false∧(a1||(a2||(c != 101&&a3)))=false):=by
 cases a1 <;> cases a2 <;> cases a3 <;> cases (c != 101) <;> simp
theorem AO (r:Rp)(t:Value)(w:World)(hG:G w)(hf:FieldsAt w t r.fs)(c4:r.fs.length≤1000000)(hs:∀f∈r.fs,f.1.length≤1000000∧f.2.length≤1000000)(c3:r.b.length≤9223372036854775807) :
  Calls prog 114 #[r.V t] w λe w'=>e=.returned (.bool (cK r))∧Gr w w':=by
 have B:=qq hG;have b9:=qq hs;obtain⟨p,cap,rfl,hc⟩:=hf;have b3:=qq hc;have H:=wX r;obtain⟨R,hR⟩:∃R,cK r=R:=⟨_,rfl⟩;rw[hR]at H ⊢;have c7:=qq hR;clear hc hs hG hR;obtain⟨c,fs,b⟩:=r;unfold Rp.V;dsimp only at b3 b9 H c4 c3 ⊢;have n:=qq (Gr.alloc w (.cells #[.int .i64 c,.slice p fs.length cap,.string ⟨b.toArray⟩] 51));have v:(w.alloc (.cells #[.int .i64 c,.slice p fs.length cap,.string ⟨b.toArray⟩] 51)).cell? ⟨w.heap.size,0,none⟩=some (.int .i64 c):=by simp[go_sem]
 have n1:(w.alloc (.cells #[.int .i64 c,.slice p fs.length cap,.string ⟨b.toArray⟩] 51)).cell? ⟨w.heap.size,1,none⟩=some (.slice p fs.length cap):=by simp[go_sem]
 have n2:(w.alloc (.cells #[.int .i64 c,.slice p fs.length cap,.string ⟨b.toArray⟩] 51)).cell? ⟨w.heap.size,2,none⟩=some (.string ⟨b.toArray⟩):=by simp[go_sem]
 rcases H with⟨h1,X⟩ | ⟨h1,h2,X⟩ | ⟨h1,h2,j,h3,X⟩ | ⟨h1,h2,j,h3,X⟩ | ⟨h1,h2,j,h3,X⟩ | ⟨h1,h2,j,h3,X⟩
 ·go_enter func114,ntmps114;go_wp2;go_ret;exact⟨by first | rfl | (rw[X];rfl),n.out⟩
 ·go_enter func114,ntmps114;go_wp2;go_ret;exact⟨by first | rfl | (rw[X];rfl),n.out⟩
 ·go_enter func114,ntmps114;go_wp2_with (go_at_call 117;refine(fm c _).mono ?_;rintro e w' ⟨rfl,rfl⟩;rw[j]);go_ret;exact⟨by first | rfl | (rw[X];rfl),n.out⟩
 case' inr.inr.inr.inl =>
  subst h3;go_enter func114,ntmps114;go_wp2_with (go_at_call 117;refine(fm c _).mono ?_;rintro e w' ⟨rfl,rfl⟩;rw[j])
 case inr.inr.inr.inr.inl =>
  go_enter func114,ntmps114;go_wp2_with (go_at_call 117;refine(fm c _).mono ?_;rintro e w' ⟨rfl,rfl⟩;rw[j]);go_ret;exact⟨by first | rfl | (rw[X];rfl),n.out⟩
 case' inr.inr.inr.inr.inr =>
  go_enter func114,ntmps114;go_wp2_with (go_at_call 117;refine(fm c _).mono ?_;rintro e w' ⟨rfl,rfl⟩;rw[j])
 all_goals
  have b8:=qq X
  (try clear h3)
  clear h1 h2 j X n2;generalize (w.alloc (.cells #[.int .i64 c,.slice p fs.length cap,.string _] 51))=w1 at n v n1 ⊢;go_wp2;go_loopw [35] (λi W=>∃k:Nat,k≤fs.length∧i=.int .i64 k∧(fs.take k).all (bH c)=true∧Gr w1 W) (λi _=>fs.length - (intOf i).toNat)
  case atStart=>exact⟨0,qx _,rfl,rfl,Gr.refl _⟩
  case round =>
   obtain⟨k,hk,rfl,a0,hg⟩:=hrel;have O:=qq a0;have b6:=qq hg;replace v:=hg.cell v;clear a0 n1;by_cases Y:k<fs.length
   ·obtain⟨bf,off,rfl,d1,d2⟩:=b3.out k Y;replace d1:=(n.out.trans hg).cell d1;replace d2:=(n.out.trans hg).cell d2;have a7:=b9.out _ (List.getElem_mem Y);obtain⟨⟨m,u⟩,hx⟩:∃x,fs[k]=x:=⟨_,rfl⟩;rw[hx]at d1 d2 a7;dsimp only at d1 d2 a7;have c8:(k:Int)<fs.length:=(by omega);have S:(⟨m.toArray⟩:ByteArray)++⟨#[58]⟩=⟨(m++[58]).toArray⟩:=aL m [58];have E:(⟨(m++[58]).toArray⟩:ByteArray)++⟨u.toArray⟩=⟨(m++[58]++u).toArray⟩:=aL _ u;have c5:¬9223372036854775807<m.length+1:=(by omega);have c0:¬9223372036854775807<(m++[58]).length+u.length:=(by rw[qw];show ¬_<_+1+_;omega);have l:=qq (show bH c (m,u)=false→R=false from λh=>by
     have h9:bH c fs[k]=false:=(by rw[hx];exact h);rw[b8.out];exact wW (p:=bH c) Y h9)
    have T:=qq (show bH c (m,u)=true→(fs.take (k+1)).all (bH c)=true from λh=>by
     have h9:bH c fs[k]=true:=(by rw[hx];exact h);exact AN (p:=bH c) O.out Y h9)
    have b7:(m++[58]++u).length<4294967281:=(by rw[qw,qw];show _+1+_<_;omega);have F:bH c (m,u)=(decide (ax (m++[58]++u)=(m,u,true))&&!(an m dq||(an m ky||(c != 101&&an m cx)))):=rfl;have Z:=qq (λW C=>iP (m++[58]++u) W C b7);obtain⟨⟨M,N,ok⟩,hP⟩:∃x,ax (m++[58]++u)=x:=⟨_,rfl⟩;rw[hP]at Z F;obtain⟨c1,a4⟩:∃x,m++[58]=x:=⟨_,rfl⟩;rw[a4]at S E c0 Z;obtain⟨c6,b5⟩:∃x,c1++u=x:=⟨_,rfl⟩;rw[b5]at E Z;have q1:=qq (λW C=>cO m dq W C (by omega) (by decide));have q2:=qq (λW C=>cO m ky W C (by omega) (by decide));have q3:=qq (λW C=>cO m cx W C (by omega) (by decide));have U:=Dr c (an m dq) (an m ky) (an m cx);obtain⟨a1,b0⟩:∃a,an m dq=a:=⟨_,rfl⟩;obtain⟨a2,b1⟩:∃a,an m ky=a:=⟨_,rfl⟩;obtain⟨a3,b2⟩:∃a,an m cx=a:=⟨_,rfl⟩;rw[b0]at q1 U F;rw[b1]at q2 U F;rw[b2]at q3 U F;obtain⟨own,a5⟩:∃o,(a1||(a2||(c != 101&&a3)))=o:=⟨_,rfl⟩;rw[a5]at U F;have g:=qq F;clear F a5 b0 b1 b2 hP a4 b5 hx a7 b7 hg;go_upto_region 6 with(fail);have z:(wr.alloc (.cells #[.string ⟨m.toArray⟩,.string ⟨u.toArray⟩] 80)).cell? ⟨wr.heap.size,0,none⟩=some (.string ⟨m.toArray⟩):=aa wr [.string ⟨m.toArray⟩,.string ⟨u.toArray⟩] _ 0 _ rfl;have A:(wr.alloc (.cells #[.string ⟨m.toArray⟩,.string ⟨u.toArray⟩] 80)).cell? ⟨wr.heap.size,1,none⟩=some (.string ⟨u.toArray⟩):=aa wr [.string ⟨m.toArray⟩,.string ⟨u.toArray⟩] _ 1 _ rfl;have gx:Gr wr (wr.alloc (.cells #[.string ⟨m.toArray⟩,.string ⟨u.toArray⟩] 80)):=Gr.alloc _ _;generalize wr.alloc (.cells #[.string ⟨m.toArray⟩,.string ⟨u.toArray⟩] 80)=w2 at z A gx ⊢;replace v:=gx.cell v;have a8:=qq (b6.out.trans gx);clear gx d1 d2;go_wp2_with fail;refine(Z.out _ (B.out.gr (n.out.trans a8.out))).mono ?_;rintro e w3⟨rfl,P⟩;replace v:=P.cell v;replace z:=P.cell z;replace A:=P.cell A;have c2:=qq (a8.out.trans P);clear P S E c5 c0;unfold eK;go_upto_region 7 with(fail);have I:(w3.alloc (.cells #[.string ⟨M.toArray⟩,.string ⟨N.toArray⟩] 80)).cell? ⟨w3.heap.size,0,none⟩=some (.string ⟨M.toArray⟩):=aa w3 [.string ⟨M.toArray⟩,.string ⟨N.toArray⟩] _ 0 _ rfl;have J:(w3.alloc (.cells #[.string ⟨M.toArray⟩,.string ⟨N.toArray⟩] 80)).cell? ⟨w3.heap.size,1,none⟩=some (.string ⟨N.toArray⟩):=aa w3 [.string ⟨M.toArray⟩,.string ⟨N.toArray⟩] _ 1 _ rfl;have gy:Gr w3 (w3.alloc (.cells #[.string ⟨M.toArray⟩,.string ⟨N.toArray⟩] 80)):=Gr.alloc _ _;generalize w3.alloc (.cells #[.string ⟨M.toArray⟩,.string ⟨N.toArray⟩] 80)=w4 at I J gy ⊢;replace v:=gy.cell v;replace z:=gy.cell z;replace A:=gy.cell A;have a9:=qq (c2.out.trans gy);clear gy;go_wp2_with fail;refine(q1.out _ (B.out.gr (n.out.trans a9.out))).mono ?_;rintro e w5⟨rfl,D⟩;replace v:=D.cell v;replace z:=D.cell z;replace A:=D.cell A;replace I:=D.cell I;replace J:=D.cell J;have s:=qq (a9.out.trans D);clear D;rcases U with⟨rfl,rfl⟩ | ⟨rfl,rfl,rfl⟩ | ⟨rfl,rfl,b4,rfl⟩ | ⟨rfl,rfl,b4,rfl,rfl⟩ | ⟨rfl,rfl,b4,rfl,rfl⟩
    ·cases ok with
     | false =>
      have d:=qq (l.out (by rw[g.out];simp));go_wp2;go_ret;exact⟨by rw[d.out];rfl,n.out.trans s.out⟩
     | true =>
      by_cases hn:M=m
      ·subst hn;by_cases L:N=u
       ·subst L;have d:=qq (l.out (by rw[g.out];simp));go_wp2;go_ret;exact⟨by rw[d.out];rfl,n.out.trans s.out⟩
       ·have d:=qq (l.out (by rw[g.out];simp[L]));go_wp2;go_ret;exact⟨by rw[d.out];rfl,n.out.trans s.out⟩
      ·have d:=qq (l.out (by rw[g.out];simp[hn]));go_wp2;go_ret;exact⟨by rw[d.out];rfl,n.out.trans s.out⟩
    ·go_wp2_with fail;refine(q2.out _ (B.out.gr (n.out.trans s.out))).mono ?_;rintro e w6⟨rfl,j⟩;replace v:=j.cell v;replace z:=j.cell z;replace A:=j.cell A;replace I:=j.cell I;replace J:=j.cell J;have q:=qq (s.out.trans j);clear j;cases ok with
     | false =>
      have d:=qq (l.out (by rw[g.out];simp));go_wp2;go_ret;exact⟨by rw[d.out];rfl,n.out.trans q.out⟩
     | true =>
      by_cases hn:M=m
      ·subst hn;by_cases L:N=u
       ·subst L;have d:=qq (l.out (by rw[g.out];simp));go_wp2;go_ret;exact⟨by rw[d.out];rfl,n.out.trans q.out⟩
       ·have d:=qq (l.out (by rw[g.out];simp[L]));go_wp2;go_ret;exact⟨by rw[d.out];rfl,n.out.trans q.out⟩
      ·have d:=qq (l.out (by rw[g.out];simp[hn]));go_wp2;go_ret;exact⟨by rw[d.out];rfl,n.out.trans q.out⟩
    ·go_wp2_with fail;refine(q2.out _ (B.out.gr (n.out.trans s.out))).mono ?_;rintro e w6⟨rfl,j⟩;replace v:=j.cell v;replace z:=j.cell z;replace A:=j.cell A;replace I:=j.cell I;replace J:=j.cell J;have q:=qq (s.out.trans j);clear j;cases ok with
     | false =>
      have d:=qq (l.out (by rw[g.out];simp));go_wp2;go_ret;exact⟨by rw[d.out];rfl,n.out.trans q.out⟩
     | true =>
      by_cases hn:M=m
      ·subst hn;by_cases L:N=u
       ·subst L;have a6:=qq (T.out (by rw[g.out];simp));go_wp2;go_roundw
        case rel=>exact⟨k+1,by omega,by go_num,a6.out,q.out⟩
        case measure=>simp[intOf];omega
       ·have d:=qq (l.out (by rw[g.out];simp[L]));go_wp2;go_ret;exact⟨by rw[d.out];rfl,n.out.trans q.out⟩
      ·have d:=qq (l.out (by rw[g.out];simp[hn]));go_wp2;go_ret;exact⟨by rw[d.out];rfl,n.out.trans q.out⟩
    ·go_wp2_with fail;refine(q2.out _ (B.out.gr (n.out.trans s.out))).mono ?_;rintro e w6⟨rfl,j⟩;replace v:=j.cell v;replace z:=j.cell z;replace A:=j.cell A;replace I:=j.cell I;replace J:=j.cell J;have q:=qq (s.out.trans j);clear j;go_wp2_with fail;refine(q3.out _ (B.out.gr (n.out.trans q.out))).mono ?_;rintro e w7⟨rfl,j⟩;replace v:=j.cell v;replace z:=j.cell z;replace A:=j.cell A;replace I:=j.cell I;replace J:=j.cell J;have y:=qq (q.out.trans j);clear j;cases ok with
     | false =>
      have d:=qq (l.out (by rw[g.out];simp));go_wp2;go_ret;exact⟨by rw[d.out];rfl,n.out.trans y.out⟩
     | true =>
      by_cases hn:M=m
      ·subst hn;by_cases L:N=u
       ·subst L;have d:=qq (l.out (by rw[g.out];simp));go_wp2;go_ret;exact⟨by rw[d.out];rfl,n.out.trans y.out⟩
       ·have d:=qq (l.out (by rw[g.out];simp[L]));go_wp2;go_ret;exact⟨by rw[d.out];rfl,n.out.trans y.out⟩
      ·have d:=qq (l.out (by rw[g.out];simp[hn]));go_wp2;go_ret;exact⟨by rw[d.out];rfl,n.out.trans y.out⟩
    ·go_wp2_with fail;refine(q2.out _ (B.out.gr (n.out.trans s.out))).mono ?_;rintro e w6⟨rfl,j⟩;replace v:=j.cell v;replace z:=j.cell z;replace A:=j.cell A;replace I:=j.cell I;replace J:=j.cell J;have q:=qq (s.out.trans j);clear j;go_wp2_with fail;refine(q3.out _ (B.out.gr (n.out.trans q.out))).mono ?_;rintro e w7⟨rfl,j⟩;replace v:=j.cell v;replace z:=j.cell z;replace A:=j.cell A;replace I:=j.cell I;replace J:=j.cell J;have y:=qq (q.out.trans j);clear j;cases ok with
     | false =>
      have d:=qq (l.out (by rw[g.out];simp));go_wp2;go_ret;exact⟨by rw[d.out];rfl,n.out.trans y.out⟩
     | true =>
      by_cases hn:M=m
      ·subst hn;by_cases L:N=u
       ·subst L;have a6:=qq (T.out (by rw[g.out];simp));go_wp2;go_roundw
        case rel=>exact⟨k+1,by omega,by go_num,a6.out,y.out⟩
        case measure=>simp[intOf];omega
       ·have d:=qq (l.out (by rw[g.out];simp[L]));go_wp2;go_ret;exact⟨by rw[d.out];rfl,n.out.trans y.out⟩
      ·have d:=qq (l.out (by rw[g.out];simp[hn]));go_wp2;go_ret;exact⟨by rw[d.out];rfl,n.out.trans y.out⟩
   ·obtain rfl:k=fs.length:=(by omega);have d:=qq (show R=true by rw[b8.out,←O.out,List.take_length]);go_wp2;go_ret;exact⟨by rw[d.out];rfl,n.out.trans b6.out⟩
open Go.Shelf
theorem infoByte:(prog.info? 5).map (λi=>(i.zero,i.size,i.bytes))=some (some (.int .u8 0),1,1):=by kernel_rfl
theorem sizeBuilder:(prog.info? 147).map (·.size)=some 2:=by kernel_rfl
theorem liesBuilder:liesAt prog prog.depth 147 (2 / prog.cellsOf 147) 0 147 1=true:=by kernel_rfl
abbrev Bld (B b:Nat)(bs:List Value)(w:World):Prop:=Lib.IsBuilder 147 5 B b bs w
theorem ow (b:Nat)(w:World)(h0:w.cell? ⟨b,0,none⟩=some (.pointer (some ⟨b,0,none⟩))) :
  Calls prog 143 #[.pointer (some ⟨b,0,none⟩)] w λe w'=>e=.returned (.tuple #[])∧w'=w:=by
 obtain⟨j,a,_⟩:=Option.map_eq_some_iff.1 sizeBuilder;go_enter func143,ntmps143;go_wp2;rw[Lib.run_neq_ptr_same w _ underlying145 a];go_wp2;go_end0;exact⟨rfl,rfl⟩
theorem mm (b:Nat)(w:World)(h0:w.cell? ⟨b,0,none⟩=some (.pointer none))(a:w.shape? b=some (147,2))(f:w.frozen? ⟨b,0,none⟩=false) :
  Calls prog 143 #[.pointer (some ⟨b,0,none⟩)] w λe w'=>e=.returned (.tuple #[])∧w'=w.setCell ⟨b,0,none⟩ (.pointer (some ⟨b,0,none⟩)):=by
 obtain⟨j,d,c⟩:=Option.map_eq_some_iff.1 sizeBuilder;go_enter func143,ntmps143;go_wp2;rw[Lib.run_to_unsafe w ⟨b,0,none⟩ underlying145 underlying225 d (by rw[c];decide) a (Nat.zero_lt_succ 1)];simp only[Result.andThen];rw[Oper.upon_value];go_wp2;rw[run_callFunc_extern func178 (by kernel_rfl) (by kernel_rfl) (by kernel_rfl) (e:=Extern.AbiNoEscape.same) (by kernel_rfl)];rw[Lib.run_noEscape];simp only[Result.andThen];rw[Oper.upon_value];go_wp2;rw[Lib.run_from_unsafe w ⟨b,0,none⟩ underlying225 underlying145 d a liesBuilder];simp only[Result.andThen];rw[Oper.upon_value];go_wp2;go_end0;exact⟨rfl,rfl⟩
theorem jk (B b:Nat)(a:List Value)(w:World)(h:Bld B b a w) :
  Calls prog 143 #[.pointer (some ⟨b,0,none⟩)] w λe w'=>e=.returned (.tuple #[])∧(Lib.BuilderAt 147 5 B b (.pointer (some ⟨b,0,none⟩)) a w'∧Below B w w'):=by
 rcases h with h | h
 ·refine(mm b w h.cell0 h.shape h.frozen0).mono ?_;rintro e w'⟨rfl,rfl⟩;exact⟨rfl,h.used _,(Below.refl B w).setCell (p:=⟨b,0,none⟩) h.1 _⟩
 ·refine(ow b w h.cell0).mono ?_;rintro e w'⟨rfl,rfl⟩;exact⟨rfl,h,Below.refl B _⟩
theorem cQ (B b:Nat)(n:List Value)(c:Int)(w:World)(h:Bld B b n w)(D:n.length+1≤140737488355328)(I:B≤w.heap.size) :
  Calls prog 215 #[.pointer (some ⟨b,0,none⟩),.int .u8 c] w λe w'=>e=.returned .nilIface∧(Bld B b (n++[.int .u8 c]) w'∧Below B w w'):=by
 obtain⟨M,hi,y,z,A⟩:=info_parts infoByte;go_enter func215,ntmps215;go_wp2_with fail;refine(jk B b n _ h).mono ?_;rintro e o⟨rfl,H,f⟩;obtain⟨C,v,l,m,x⟩:=H;have c0:o.cell? ⟨b,0,none⟩=some (.pointer (some ⟨b,0,none⟩)):=by rw[Lib.cell_of_heap l];rfl
 have c1:o.cell? ⟨b,1,none⟩=some v:=by rw[Lib.cell_of_heap l];rfl
 go_wp2_with (at_builtin;refine wpList_append_own _ rfl _ _ 100 rfl B 5 M (.int .u8 0) 1 1 underlying100 hi y z A rfl (by decide) _ _ _ rfl (m.alloc _) ⟨o.heap.size,0,none⟩ 1 1 [.int .u8 c] rfl rfl ?c1 ?c2 ?c3 ?c4 ?c5 ?_)
 case c1 =>
  intro j u q
  match j,q with
  | 0,q=>simp at q;subst q;simp[Addr.add]
 case c2=>intro u E;simp at E;subst E;rfl
 case c3=>unfold maxLen;omega
 case c4=>omega
 case c5=>have:=f.size;simp;omega
 intro N r d a _;have t:b<o.heap.size:=by
  rcases Nat.lt_or_ge b o.heap.size with s | s
  ·exact s
  ·simp[Array.getElem?_eq_none s]at l
 have i:r.heap[b]?=some (.cells #[.pointer (some ⟨b,0,none⟩),v] 147 (0,0)):=by
  rw[a.block b (by simp;omega) (λe=>x e.symm),Lib.alloc_old o _ b t];exact l
 have O:r.cell? ⟨b,0,none⟩=some (.pointer (some ⟨b,0,none⟩)):=by rw[Lib.cell_of_heap i];rfl
 have d1:r.cell? ⟨b,1,none⟩=some v:=by rw[Lib.cell_of_heap i];rfl
 have P:r.frozen? ⟨b,1,none⟩=false:=Lib.frozen_of_heap i 1;obtain⟨g,cap,rfl⟩:∃g cap,N=.slice (some ⟨g,0,none⟩) (n.length+1) cap:=by
  rcases d.2 with⟨_,h0⟩ | ⟨g,cap,F,L,_⟩
  ·omega
  ·exact⟨g,cap,L⟩
 go_wp2;go_ret;refine⟨rfl,.inr ?_,?_⟩
 ·exact Lib.BuilderAt.put (T:=147) (e:=5) C i (bs':=n++[.int .u8 c]) (by simpa using d) (by decide)
 ·exact((f.alloc (by have:=f.size;omega) _).grown a (by have:=f.size;simp;omega) (λk J=>(m.lt k J).1)).setCell (p:=⟨b,1,none⟩) C _
theorem gU (B b:Nat)(l:List Value)(s:ByteArray)(w:World)(h:Bld B b l w)(C:l.length+s.size≤140737488355328)(H:B≤w.heap.size) :
  Calls prog 115 #[.pointer (some ⟨b,0,none⟩),.string s] w λe w'=>e=.returned (.tuple #[.int .i64 s.size,.nilIface])∧(Bld B b (l++Lib.strCells s) w'∧Below B w w'):=by
 obtain⟨J,hi,u,x,y⟩:=info_parts infoByte;go_enter func115,ntmps115;go_wp2_with fail;refine(jk B b l _ h).mono ?_;rintro e m⟨rfl,F,j⟩;obtain⟨A,v,f,i,r⟩:=F;have c0:m.cell? ⟨b,0,none⟩=some (.pointer (some ⟨b,0,none⟩)):=by rw[Lib.cell_of_heap f];rfl
 have c1:m.cell? ⟨b,1,none⟩=some v:=by rw[Lib.cell_of_heap f];rfl
 go_wp2_with (at_builtin;refine Lib.wpList_append_own_string _ rfl _ _ 100 9 rfl B 5 J underlying100 underlying9 hi u x y _ _ _ rfl i s rfl ?c3 ?c4 ?c5 ?_)
 case c3=>unfold maxLen;omega
 case c4=>omega
 case c5=>have:=j.size;omega
 intro L n c a _;have q:b<m.heap.size:=by
  rcases Nat.lt_or_ge b m.heap.size with o | o
  ·exact o
  ·simp[Array.getElem?_eq_none o]at f
 have d:n.heap[b]?=some (.cells #[.pointer (some ⟨b,0,none⟩),v] 147 (0,0)):=by
  rw[a.block b q (λe=>r e.symm)];exact f
 have M:n.cell? ⟨b,0,none⟩=some (.pointer (some ⟨b,0,none⟩)):=by rw[Lib.cell_of_heap d];rfl
 have d1:n.cell? ⟨b,1,none⟩=some v:=by rw[Lib.cell_of_heap d];rfl
 have N:n.frozen? ⟨b,1,none⟩=false:=Lib.frozen_of_heap d 1;obtain⟨z,D,cap,rfl⟩:∃z D cap,L=.slice z D cap:=by
  rcases c.2 with⟨t,_⟩ | ⟨g,cap,E,t,_⟩
  ·exact⟨_,_,_,t⟩
  ·exact⟨_,_,_,t⟩
 go_wp2;go_ret2;refine⟨rfl,.inr ?_,?_⟩
 ·exact Lib.BuilderAt.put (T:=147) (e:=5) A d (bs':=l++Lib.strCells s) (by simpa[Lib.strCells_length]using c) (by decide)
 ·exact(j.grown a (by have:=j.size;omega) (λk I=>(i.lt k I).1)).setCell (p:=⟨b,1,none⟩) A _
