/-
  Walks over package b64: a letter's number.
-/
import Derived.Test.YtadobobfjnmdlaaGreatDoorSf
import Derived.Laws.RangeAny
import Derived.WalkMore
set_option linter.unnecessarySimpa false
set_option linter.unusedVariables false
set_option linter.unusedSimpArgs false
set_option maxHeartbeats 16000000
set_option maxRecDepth 100000
open Go.Proofs.Tryz
namespace Go.Proofs.YtadobobfjnmdlaaGreatDoor
open Go.RowKit
attribute [local go_sem] Oper.semAt_some
def uc:ByteArray:=⟨#[65,66,67,68,69,70,71,72,73,74,75,76,77,78,79,80,81,82,83,84,85,86,87,88,89,90,97,98,99,100,101,102,103,104,105,106,107,108,109,110,111,112,113,114,115,116,117,118,119,120,121,122,48,49,50,51,52,53,54,55,56,57,43,47]⟩
theorem oR:uc.size=64:=rfl
theorem rA:∀j:Fin 64,(uc[j.1]'(by have:=j.2;rw[oR];exact this)).toNat<128:=by decide +kernel
theorem AS (r:Nat)(h:128≤r):∃(L:List UInt8) (m:Nat) (c:UInt8),Utf8.encode (r:Int)=⟨L.toArray⟩∧L.length=m+1∧m≤3∧L[m]?=some c∧128≤c.toNat:=by
 obtain⟨c,b,a⟩:∃c,128≤c∧(if Utf8.valid (r:Int) then(r:Int).toNat else Utf8.runeError)=c:=by
  refine⟨_,?_,rfl⟩;split
  ·omega
  ·decide
 unfold Utf8.encode;simp only[a];have e:∀x,(UInt8.ofNat (128+x % 64)).toNat=128+x % 64:=λx=>by rw[UInt8.toNat_ofNat'];omega
 rw[if_neg (by omega)];split
 ·exact⟨[_,_],1,_,rfl,rfl,by omega,rfl,by rw[e];omega⟩
 ·split
  ·exact⟨[_,_,_],2,_,rfl,rfl,by omega,rfl,by rw[e];omega⟩
  ·exact⟨[_,_,_,_],3,_,rfl,rfl,by omega,rfl,by rw[e];omega⟩
theorem oz {W0:World}{T:List UInt8}{c:UInt8}(h:Lib.indexByte T c = -1)(v:Later (Gr W0)) :
  Calls prog 218 #[.string ⟨T.toArray⟩,.int .u8 c.toNat] v.w λe w'=>e=.returned (.int .i64 (-1))∧∃z:Later (Gr W0),w'=z.w :=
 Calls.later ((Tryz.strings_IndexByte ⟨T.toArray⟩ c.toNat v.w).mono λ_ _ ⟨a,b⟩=>⟨by
  have e:((c.toNat:Int).toNat.toUInt8)=c:=by simp
  rw[e]at a;exact a.trans (congrArg (λz=>Ending.returned (.int .i64 z)) h),b▸v.ok⟩)
theorem qd (r:Nat)(Z:128≤r)(h2:r≤2147483647)(w:World) :
  Calls prog 245 #[.string uc,.int .i32 r] w λe w'=>e=.returned (.int .i64 (-1))∧Gr w w':=by
 have z:¬(r:Int)<128:=by omega
 have A:(r:Int)≤2147483647:=by omega
 have n:=oR;by_cases hE:r=65533
 ·subst hE;have V:=qq n;have a:=qq rA;obtain⟨S,f⟩:∃S,uc=S:=⟨_,rfl⟩;rw[f];have a2:=qq (show S.size=64 from f▸rfl);have b:=qq (show ∀j (R:j<S.size),S[j].toNat<128 by subst f;exact λj R=>rA ⟨j,R⟩);clear f n z A;go_enter func245,ntmps245;go_wp2;go_loopw [6] (λ_ M=>∃k:Nat,k≤S.size∧M=w.iter S k) (λ_ M=>S.size - M.iterPos w.heap.size)
  case atStart=>exact⟨0,qx _,rfl⟩
  case round =>
   obtain⟨k,hk,rfl⟩:=hrel;by_cases g:k<S.size
   ·have y:=run_next_ascii (P:=prog) w S k 0 g (b.out k g);obtain⟨c,B⟩:∃c,S[k]=c:=⟨_,rfl⟩;have H:c.toNat<128:=B▸b.out k g;rw[B]at y;have a3:((c.toNat:Int)==65533)=false:=qk.2 (by omega);clear B;go_wp2;go_roundw
    case rel=>exact⟨k+1,by omega,rfl⟩
    case measure=>simp;omega
   ·have y:=run_next_end (P:=prog) w S k 0 g;go_wp2;go_ret;exact⟨rfl,Gr.alloc _ _⟩
 ·have D:((r:Int)==65533)=false:=qk.2 (by omega);cases J:Lib.validRune (r:Int)
  ·go_enter func245,ntmps245;go_wp2_with fail;refine(Tryz.utf8_ValidRune _ _).mono ?_;rintro e Y⟨rfl,rfl⟩;rw[J];go_wp2;go_ret;exact⟨rfl,Gr.refl _⟩
  ·obtain⟨L,m,c,o,p,a5,h,B⟩:=AS r Z;obtain⟨S,f⟩:∃S:List UInt8,ic=S:=⟨_,rfl⟩;have b:S.length=64:=f▸rfl;have a:∀x∈S,x.toNat<128:=f▸lI;have u:uc=⟨S.toArray⟩:=f▸rfl;rw[u];clear u f n;have T:(m:Int)≤3:=(by omega);have E:(L.length:Int) - 1=m:=(by omega);have F:L.length≤4:=(by omega);have l:m<L.length:=(by omega);have v:m<S.length:=(by omega);obtain⟨d,hd⟩:∃d,(⟨S.toArray⟩:ByteArray)[m]'(by rw[aj];exact v)=d:=⟨_,rfl⟩;have I:d.toNat<128:=a d (by rw[←hd];exact List.getElem_mem v);have a4:(⟨L.toArray⟩:ByteArray)[m]'(by rw[aj];exact l)=c:=by
    have:L[m]'l=c:=(by rw[List.getElem?_eq_getElem l]at h;exact Option.some.inj h);exact this
   have a7:((d.toNat:Int) != c.toNat)=true:=(by rw[bne_iff_ne];omega);have X:(⟨S.toArray⟩:ByteArray).extract (m+1) S.length=⟨(S.drop (m+1)).toArray⟩:=(by rw[av,List.take_of_length_le (qv _)]);have a1:S.length≤64:=(by omega);have a6:(m:Int)+1≤S.length:=(by omega);have t:=qq (fu c (S.drop (m+1)) (λx X e=>by have:=a x (List.mem_of_mem_drop X);rw[e]at this;omega));have a0:=qq o;have N:=qq p;have O:=qq b;clear h a p b;go_enter func245,ntmps245;go_wp2_with fail;refine(Tryz.utf8_ValidRune _ _).mono ?_;rintro e Y⟨rfl,rfl⟩;rw[J];go_wp2;go_step3;go_wp2;clear E F o J D z A;go_loop [9] (λi=>i=.int .i64 m) (λ_=>0)
   case atStart=>rfl
   case round =>
    obtain rfl:=hrel;go_wp2;go_step3;go_wp2;haveI U:∀W,Nonempty (Later (Gr W)):=λW=>⟨⟨_,Gr.refl W⟩⟩;refine ah (C:=Gr _) (by kernel_rfl) (by kernel_rfl) (Gr.drew' _) ?_;(repeat (go_big_quiet_step (fail)));refine wpQuiet_nil ?_;intro w8 q;have e1:IntKind.i64.wrap ((m:Int)+1)=(m:Int)+1:=IntWalk.i64_in _ (by omega);have e2:((m:Int)+1).toNat=m+1:=(by omega);have e3:0≤(m:Int)+1:=(by omega);go_wp2;refine ah (C:=Gr _) (by kernel_rfl) (by kernel_rfl) (Gr.drew' _) ?_;(repeat (go_big_quiet_step (with_reducible exact oz t.out _)));refine wpQuiet_nil ?_;intro w9 s;have hg:=qq (q.trans s);clear e1 e2 e3 q s;go_wp2;simp only[Exit.noGoto_ret,Exit.inBlock];show bodyPost _ _ (λe w'=>e=.returned (.int .i64 (-1))∧Gr Y w') Exit.ret _ _;go_ret;exact⟨rfl,hg.out⟩
theorem xZ (c:UInt8)(b:c.toNat<128)(w:World):Calls prog 211 #[.int .i32 c.toNat] w λe w'=>e=.returned (.int .i64 (jY c))∧w=w':=by
 have hi:=qq (Tryz.strings_IndexRune_ascii uc c.toNat);have a:(c.toNat:Int)<128:=by omega
 go_enter func211,ntmps211;go_wp2_with fail;refine(hi.out w (by omega) (by omega)).mono ?_;rintro e d⟨rfl,rfl⟩;go_wp2;go_ret;refine⟨?_,rfl⟩;have e:((c.toNat:Int).toNat.toUInt8)=c:=by simp
 first | rfl | (rw[e];rfl) | (simp[jY,uc,ic])
theorem ud (r:Nat)(a:128≤r)(b:r≤2147483647)(w:World):Calls prog 211 #[.int .i32 r] w λe w'=>e=.returned (.int .i64 (-1))∧Gr w w':=by
 go_enter func211,ntmps211;go_wp2_with fail;refine(qd r a b w).mono ?_;rintro e d⟨rfl,c⟩;go_wp2;go_ret;exact⟨rfl,c⟩
theorem x6 {m c:Nat}(hm:m<4294967296)(d:c<64):bits .or .i64 ((m:Int)*64) (c:Int)=((m*64+c:Nat):Int):=by
 have h:=oq (a:=m*64) (b:=c) (by omega) (by omega);rw[Go.nat_join 6 (m*64) c (by omega) (by omega)]at h;rw[←h];rfl
theorem jV {m k:Nat}(hm:m<4294967296)(c:k≤32):bits .and .i64 (m:Int) ((2 ^ k - 1:Nat):Int)=((m % 2 ^ k:Nat):Int):=by
 have d:2 ^ k≤2 ^ 32:=Nat.pow_le_pow_right (by decide) c;have h:=mf (a:=m) (b:=2 ^ k - 1) (by omega) (by omega);rw[Nat.and_two_pow_sub_one_eq_mod m k]at h;exact h
def grV (r:List UInt8×Bool):Value:=.tuple #[.string ⟨r.1.toArray⟩,.bool r.2]
theorem x7 (s:List UInt8)(hs:s.length≤4)(w:World):Calls prog 171 #[.string ⟨s.toArray⟩] w λe w'=>e=.returned (grV (eq s))∧Gr w w':=by
 obtain⟨R,hR⟩:∃R,eq s=R:=⟨_,rfl⟩;rw[hR];have T:=qq hR;clear hR;obtain⟨S,hS⟩:∃S:ByteArray,⟨s.toArray⟩=S:=⟨_,rfl⟩;have D:=qq (show S.size=s.length by rw[←hS,aj]);have a2:=qq (show ∀j (hj:j<S.size) (b4:j<s.length),S[j]=s[j] by subst hS;exact λj hj b4=>rfl);have c4:=qq (show S.size≤4 by rw[D.out];exact hs);rw[hS];clear hS;go_enter func171,ntmps171;go_wp2;go_loopw [4,5] (λx n wx=>∃k:Nat,k≤s.length∧(s.take k).all mL=true∧x=.int .i64 (qi (s.take k))∧n=.int .i64 (6*k:Nat)∧wx=w.iter S k) (λ_ _ wx=>S.size - wx.iterPos w.heap.size)
 case atStart=>exact⟨0,qx _,rfl,rfl,rfl,rfl⟩
 case round =>
  obtain⟨k,hk,M,rfl,rfl,rfl⟩:=hrel;have p:=qq M;clear M;obtain⟨m,hm⟩:∃m,qi (s.take k)=m:=⟨_,rfl⟩;have b6:=qq hm;rw[hm];by_cases I:k<s.length
  ·have y:k<S.size:=(by rw[D.out];exact I);have J:m<64 ^ 3:=qj (hm▸ql k _ (by rw[List.length_take];omega)) (Nat.pow_le_pow_right (by decide) (by omega));have b7:(m:Int)≤262143:=(by omega);have c9:(k:Int)≤3:=(by omega);have a0:=List.take_succ_eq_append_getElem I;obtain⟨c,hc⟩:∃c,s[k]=c:=⟨_,rfl⟩;rw[hc]at a0;have B:S[k]=c:=(by rw[a2.out k y I,hc]);have O:=qq a0;have E:=qq (show mL c=false→eq s=([],false)from λh=>by
    unfold eq;rw[if_neg];rw[List.all_eq_true];intro ha;have:=ha c (hc▸List.getElem_mem I);rw[h]at this;cases this)
   clear a0 hc hm;by_cases t:c.toNat<128
   ·have F:=run_next_ascii (P:=prog) w S k 0 y (by rw[B];exact t);rw[B]at F;have L:=qq (λW=>xZ c t W);obtain⟨a4,H⟩:=ui c;clear B;by_cases h0:0≤jY c
    ·obtain⟨v,hv⟩:∃v:Nat,jY c=v:=⟨(jY c).toNat,by omega⟩;rw[hv]at L H;have c8:=x6 (m:=m) (c:=v) (by omega) (by omega);have Y:=qq (show qi (s.take (k+1))=m*64+v by rw[O.out,oX,b6.out,hv];rfl);have a3:=qq (show(s.take (k+1)).all mL=true by rw[O.out,List.all_append,p.out];simp[mL,h0]);have d1:(v:Int)<64:=H;clear hv h0 a4 H J;go_wp2_with fail;refine(L.out _).mono ?_;rintro e w1⟨rfl,rfl⟩;go_wp2;go_roundw
     case rel=>exact⟨k+1,by omega,a3.out,by rw[Y.out];go_num,by go_num,rfl⟩
     case measure=>simp;omega
    ·have hv:jY c = -1:=(by omega);rw[hv]at L;have g:=qq ((E.out (by simp[mL];omega)).symm.trans T.out);clear hv h0 a4 H J;go_wp2_with fail;refine(L.out _).mono ?_;rintro e w1⟨rfl,rfl⟩;go_wp2;go_ret2;exact⟨by rw[←g.out];rfl,Gr.alloc _ _⟩
   ·have V:=decode_high S k y (by rw[B];omega);have X:=decode_le S k;have F:=run_next_any (P:=prog) w S k 0 y;obtain⟨r,hr⟩:∃r,(Utf8.decode S k).1=r:=⟨_,rfl⟩;rw[hr]at V X F;have b9:=qq (λW=>ud r V.1 X W);have g:=qq ((E.out (by simp[mL,Ba (show 128≤c.toNat by omega)])).symm.trans T.out);clear hr V X B J t;go_wp2_with fail;refine(b9.out _).mono ?_;rintro e w1⟨rfl,hg⟩;go_wp2;go_ret2;exact⟨by rw[←g.out];rfl,(show Gr w (w.iter S (k+(Utf8.decode S k).2))from Gr.alloc _ _).trans hg⟩
  ·obtain rfl:k=s.length:=(by omega);have F:=run_next_end (P:=prog) w S s.length 0 (by rw[D.out];omega);rw[List.take_length]at hm p;have J:m<64 ^ 4:=qj (hm▸ql s.length _ rfl) (Nat.pow_le_pow_right (by decide) hs);have b7:(m:Int)≤16777215:=(by omega);have g:=qq (show R=(ie m (6*s.length) (6*s.length / 8),decide (m % 2 ^ (6*s.length % 8)=0)) by
    rw[←T.out];unfold eq;rw[if_pos p.out,hm])
   have a5:=qq (show Gr w (w.iter S s.length)from Gr.alloc _ _);clear hm;go_wp2;clear F;obtain⟨w1,b1⟩:∃w1,w.iter S s.length=w1:=⟨_,rfl⟩;rw[b1]at a5 ⊢;clear b1;obtain⟨N,hN⟩:∃N,6*s.length=N:=⟨_,rfl⟩;rw[hN]at g;have b3:=qq hN;have a1:6*(s.length:Int)=N:=(by omega);have c1:N≤24:=(by omega);clear hN;rw[a1];clear a1;go_loopw [5,10] (λn o wx=>∃j:Nat,8*j≤N∧n=.int .i64 ((N:Int) - 8 - 8*j)∧o=.string ⟨(ie m N j).toArray⟩∧(ie m N j).length=j∧Gr w wx) (λn _ _=>(intOf n+8).toNat)
   case atStart=>exact⟨0,by omega,by simp,rfl,rfl,a5.out⟩
   case round =>
    obtain⟨j,hj,rfl,rfl,a6,hg⟩:=hrel;have A:=qq hg;have a7:=qq a6;have b5:(ie m N j).length≤24:=(by omega);clear hg a6;obtain⟨o,ho⟩:∃o,ie m N j=o:=⟨_,rfl⟩;rw[ho]at b5 ⊢;have Z:=qq ho;clear ho;by_cases hq:8*(j+1)≤N
    ·obtain⟨q,b0⟩:∃q,N - 8*(j+1)=q:=⟨_,rfl⟩;have b2:(N:Int) - 8 - 8*j=q:=(by omega);rw[b2];have c3:(q:Int)≤24:=(by omega);obtain⟨d,hd⟩:∃d,UInt8.ofNat (m / 2 ^ q)=d:=⟨_,rfl⟩;have c7:(m:Int) / 2 ^ q % 256=(d.toNat:Int):=by
      rw[←hd,UInt8.toNat_ofNat',Int.natCast_emod,Int.natCast_ediv];simp
     have a9:=qq (show ie m N (j+1)=o++[d] by rw[ie,Z.out,b0,hd]);have c2:(⟨o.toArray⟩:ByteArray)++⟨#[d]⟩=⟨(o++[d]).toArray⟩:=aL o [d];have c5:¬9223372036854775807<o.length+1:=(by omega);have c6:∀cap,(convert 100 9 (.slice (some ⟨wr.heap.size,0,none⟩) 1 cap)).run prog (wr.alloc (.cells #[.int .u8 d.toNat] 5))=.ok (.string ⟨#[d]⟩) (wr.alloc (.cells #[.int .u8 d.toNat] 5)):=λcap =>
      run_convert_bytes_back _ _ _ 5 ⟨wr.heap.size,0,none⟩ cap [d] underlying100 underlying5 underlying9 (λj hj=>by
       obtain rfl:j=0:=(by simpa using hj);simp[Addr.add,go_sem])
     have c0:=qq (show(q:Int) - 8=(N:Int) - 8 - 8*((j+1:Nat):Int) by omega);clear hd b0 b2;go_wp2;go_roundw
     case rel=>exact⟨j+1,hq,by rw[c0.out],by rw[a9.out],by rw[a9.out,qw,←Z.out,a7.out];rfl,A.out.alloc1 _⟩
     case measure=>simp[intOf];omega
    ·have a8:(N:Int) - 8 - 8*j<0:=(by omega);obtain⟨z,hz⟩:∃z:Int,(N:Int) - 8 - 8*j=z:=⟨_,rfl⟩;rw[hz]at a8 ⊢;have d2:-8≤z:=(by omega);have b:=qq (show R=(o,decide (m % 2 ^ (N % 8)=0)) by
      rw[g.out,←Z.out,show N / 8=j by omega])
     haveI d0:∀W,Nonempty (Later (Gr W)):=λW=>⟨⟨_,Gr.refl W⟩⟩;have b8:=b3.out;have U:N=0∨N=6∨N=12∨N=18∨N=24:=(by omega);clear hz b8 hq;rcases U with rfl | rfl | rfl | rfl | rfl
     ·obtain⟨f,hf⟩:∃f,decide (m % 1=0)=f:=⟨_,rfl⟩;have u:bits .and .i64 (m:Int) 0=((m % 1:Nat):Int):=jV (k:=0) (by omega) (by omega);have i:=qq (show true=f by rw[←hf,Bool.eq_iff_iff];simp;omega);have a:=qq (show R=(o,f) by rw[b.out,←hf]);clear hf;go_wp2;refine ah (C:=Gr _) (by kernel_rfl) (by kernel_rfl) (Gr.drew' _) ?_;(repeat (go_big_quiet_step (fail)));refine wpQuiet_nil ?_;intro w9 l;go_wp2;go_ret2;refine⟨?_,A.out.trans l⟩;rw[a.out];unfold grV;rw[←i.out];rfl
     ·obtain⟨f,hf⟩:∃f,decide (m % 64=0)=f:=⟨_,rfl⟩;have u:bits .and .i64 (m:Int) 63=((m % 64:Nat):Int):=jV (k:=6) (by omega) (by omega);have i:=qq (show((m:Int) % 64==0)=f by rw[←hf,Bool.eq_iff_iff];simp;omega);have a:=qq (show R=(o,f) by rw[b.out,←hf]);clear hf;go_wp2;refine ah (C:=Gr _) (by kernel_rfl) (by kernel_rfl) (Gr.drew' _) ?_;(repeat (go_big_quiet_step (fail)));refine wpQuiet_nil ?_;intro w9 l;go_wp2;go_ret2;refine⟨?_,A.out.trans l⟩;rw[a.out];unfold grV;rw[←i.out];rfl
     ·obtain⟨f,hf⟩:∃f,decide (m % 16=0)=f:=⟨_,rfl⟩;have u:bits .and .i64 (m:Int) 15=((m % 16:Nat):Int):=jV (k:=4) (by omega) (by omega);have i:=qq (show((m:Int) % 16==0)=f by rw[←hf,Bool.eq_iff_iff];simp;omega);have a:=qq (show R=(o,f) by rw[b.out,←hf]);clear hf;go_wp2;refine ah (C:=Gr _) (by kernel_rfl) (by kernel_rfl) (Gr.drew' _) ?_;(repeat (go_big_quiet_step (fail)));refine wpQuiet_nil ?_;intro w9 l;go_wp2;go_ret2;refine⟨?_,A.out.trans l⟩;rw[a.out];unfold grV;rw[←i.out];rfl
     ·obtain⟨f,hf⟩:∃f,decide (m % 4=0)=f:=⟨_,rfl⟩;have u:bits .and .i64 (m:Int) 3=((m % 4:Nat):Int):=jV (k:=2) (by omega) (by omega);have i:=qq (show((m:Int) % 4==0)=f by rw[←hf,Bool.eq_iff_iff];simp;omega);have a:=qq (show R=(o,f) by rw[b.out,←hf]);clear hf;go_wp2;refine ah (C:=Gr _) (by kernel_rfl) (by kernel_rfl) (Gr.drew' _) ?_;(repeat (go_big_quiet_step (fail)));refine wpQuiet_nil ?_;intro w9 l;go_wp2;go_ret2;refine⟨?_,A.out.trans l⟩;rw[a.out];unfold grV;rw[←i.out];rfl
     ·obtain⟨f,hf⟩:∃f,decide (m % 1=0)=f:=⟨_,rfl⟩;have u:bits .and .i64 (m:Int) 0=((m % 1:Nat):Int):=jV (k:=0) (by omega) (by omega);have i:=qq (show true=f by rw[←hf,Bool.eq_iff_iff];simp;omega);have a:=qq (show R=(o,f) by rw[b.out,←hf]);clear hf;go_wp2;refine ah (C:=Gr _) (by kernel_rfl) (by kernel_rfl) (Gr.drew' _) ?_;(repeat (go_big_quiet_step (fail)));refine wpQuiet_nil ?_;intro w9 l;go_wp2;go_ret2;refine⟨?_,A.out.trans l⟩;rw[a.out];unfold grV;rw[←i.out];rfl
theorem Bld.gr {B b:Nat}{d:List Value}{W e:World}(h:Bld B b d W)(n:Gr W e)(q:B≤W.heap.size):Bld B b d e:=by
 have key:∀p,Lib.BuilderAt 147 5 B b p d W→Lib.BuilderAt 147 5 B b p d e:=λp h=>by
  obtain⟨s,v,c,a,m⟩:=h;have k:b<W.heap.size:=by
   rcases Nat.lt_or_ge b W.heap.size with i | i
   ·exact i
   ·simp[Array.getElem?_eq_none i]at c
  refine⟨s,v,(Below.block n b k).trans c,⟨a.1,?_⟩,m⟩;rcases a.2 with r | ⟨g,cap,f,rfl,t,o,l,hm,j,u⟩
  ·exact .inl r
  ·exact .inr ⟨g,cap,f,rfl,t,(Below.block n g (Array.getElem?_eq_some_iff.1 o).1).trans o,l,hm,j,u⟩
 exact h.imp (key _) (key _)
theorem AU {s o:List UInt8}{f:Bool}(h:eq s=(o,f))(hs:s.length≤4)(w:World):Calls prog 171 #[.string ⟨s.toArray⟩] w λe w'=>e=.returned (.tuple #[.string ⟨o.toArray⟩,.bool f])∧Gr w w':=by
 have:=x7 s hs w;rw[h]at this;exact this
theorem xi (s:List UInt8)(hs:s.length≤4)(w:World):Calls prog 170 #[.string ⟨s.toArray⟩,.string ⟨#[61]⟩] w λe w'=>e=.returned (.string ⟨(Lib.trimSuffix s [61]).toArray⟩)∧w=w' :=
 (Tryz.strings_TrimSuffix ⟨s.toArray⟩ ⟨#[61]⟩ w (by rw[aj];omega)).mono λ_ _ ⟨a,b⟩=>⟨a,b.symm⟩
def dcV:Option (List UInt8)→Value
 | none=>.tuple #[.string ⟨#[]⟩,.bool false]
 | some t=>.tuple #[.string ⟨t.toArray⟩,.bool true]
theorem ue (s:List UInt8)(hs:s.length≤1000000)(w:World):Calls prog 139 #[.string ⟨s.toArray⟩] w λe w'=>e=.returned (dcV (uk s))∧Gr w w':=by
 obtain⟨R,U⟩:∃R,uk s=R:=⟨_,rfl⟩;rw[U];have b1:(s.length:Int)≤1000000:=by omega
 by_cases h4:s.length % 4=0
 ·have J:=qq (show(kP s).map (([]:List UInt8)++·)=R by
   rw[←U];unfold uk;rw[if_pos h4];show(kP s).map _=kP s;cases kP s <;> simp)
  have A:((s.length:Int) % 4 != 0)=false:=by rw[bne_eq_false_iff_eq];omega
  have T:((s.length:Int).tmod 4 != 0)=false:=by rw[Int.tmod_eq_emod_of_nonneg (by omega)];exact A
  clear U;go_enter func139,ntmps139;go_wp2;obtain⟨b,hb⟩:∃b,w.heap.size=b:=⟨_,rfl⟩;have hB:=qq hb;have h0:=qq (show Bld b b (Lib.byteCells []) (w.alloc (.cells #[.pointer none,.slice none 0 0] 147))from hb▸Lib.fresh_isBuilder _ _ w);have g0:=qq (Gr.alloc w (.cells #[.pointer none,.slice none 0 0] 147));rw[hb];clear hb A T;go_loopw [0] (λa wr=>∃(rest out:List UInt8),a=.string ⟨rest.toArray⟩∧out.length+rest.length≤1000000∧rest.length % 4=0∧(kP rest).map (out++·)=R∧Bld b b (Lib.byteCells out) wr∧Gr w wr) (λa _=>Gd a)
  case atStart=>exact⟨s,[],rfl,by simpa using hs,h4,J.out,h0.out,g0.out⟩
  case round =>
   obtain⟨rest,out,rfl,a6,a0,E,V,hg⟩:=hrel;have h:=qq E;have t:=qq V;have M:=qq hg;have F:=qq a0;have u:=qq (show b≤wr.heap.size by have:=Below.size hg;have:=hB.out;omega);clear E V hg a0;by_cases Z:0<rest.length
   ·have a9:(0:Int)<rest.length:=(by omega);have b0:(4:Int)≤rest.length:=(by have:=F.out;omega);have a7:(⟨rest.toArray⟩:ByteArray).extract 0 4=⟨(rest.take 4).toArray⟩:=(by rw[av];simp);have a8:(⟨rest.toArray⟩:ByteArray).extract 4 rest.length=⟨(rest.drop 4).toArray⟩:=(by rw[av];simp);have c:=qq (yf Z);have O:=qq (yg rest);have d:=qq (show o0 rest=if (rest.drop 4).isEmpty then rG (rest.take 4) else rest.take 4 from rfl);have S:=qq (show(rest.take 4).length≤4 by rw[List.length_take];omega);have y:=qq (show(rest.drop 4).length+4=rest.length by rw[List.length_drop];omega);obtain⟨ra,a1⟩:∃l,rest.take 4=l:=⟨_,rfl⟩;obtain⟨rb,a2⟩:∃l,rest.drop 4=l:=⟨_,rfl⟩;obtain⟨g,Y⟩:∃l,o0 rest=l:=⟨_,rfl⟩;rw[a1]at a7 d S;rw[a2]at a8 c d y;rw[Y]at c O d;obtain⟨⟨o,f⟩,B⟩:∃x,eq g=x:=⟨_,rfl⟩;have P:=qq (show o.length≤3 by have:=ye O.out;rw[B]at this;exact this);rw[B]at c;dsimp only at c;have D:=qq (λW=>AU B O.out W);have a3:=qq a6;have a4:=qq (λW (H:Bld b b (Lib.byteCells out) W) hW=>gU b b (Lib.byteCells out) ⟨o.toArray⟩ W H (by have:=P.out;have:=a3.out;rw[cu,aj];omega) hW);clear a1 a2 Y B;cases C:rb.isEmpty
    ·rw[C]at d;obtain rfl:g=ra:=d.out;go_wp2_with fail;refine(D.out _).mono ?_;rintro e w2⟨rfl,i⟩;have L:=qq (Bld.gr t.out i u.out);have k:=qq (M.out.trans i);have v:=qq (show b≤w2.heap.size by have:=Below.size i;have:=u.out;omega);clear i;cases f
     ·have j:=qq (show R=none by rw[←h.out,c.out];rfl);go_wp2;go_ret2;exact⟨by rw[j.out];rfl,k.out⟩
     ·have q:=qq (show(kP rb).map ((out++o)++·)=R by
       rw[←h.out,c.out,if_pos rfl];cases kP rb <;> simp)
      go_wp2_with fail;refine(a4.out _ L.out v.out).mono ?_;rintro e w3⟨rfl,p,m⟩;have r:=qq (show Bld b b (Lib.byteCells (out++o)) w3 by
       have e:Lib.byteCells out++Lib.strCells ⟨o.toArray⟩=Lib.byteCells (out++o):=(by simp[Lib.byteCells,Lib.strCells]);rw[e]at p;exact p)
      have n:=qq (Below.trans k.out (hB.out▸m));clear p m;go_wp2;go_roundw
      case rel=>exact⟨rb,out++o,rfl,by have:=y.out;have:=P.out;rw[qw];omega,by have:=y.out;have:=F.out;omega,q.out,r.out,n.out⟩
      case measure=>(show(⟨rb.toArray⟩:ByteArray).size<(⟨rest.toArray⟩:ByteArray).size);rw[aj,aj];have:=y.out;omega
    ·rw[C]at d;obtain rfl:rb=[]:=List.isEmpty_iff.1 C;have N:g=Lib.trimSuffix (Lib.trimSuffix ra [61]) [61]:=d.out;have I:=qq (λW=>xi ra S.out W);have z:=qq (λW=>xi (Lib.trimSuffix ra [61]) (by have:=S.out;unfold Lib.trimSuffix;split;(rw[List.length_take];omega);omega) W);obtain⟨ga,X⟩:∃l,Lib.trimSuffix ra [61]=l:=⟨_,rfl⟩;rw[X]at I z N;rw[←N]at z;clear X N d C;go_wp2_with fail;refine(I.out _).mono ?_;rintro e w1⟨rfl,rfl⟩;go_wp2_with fail;refine(z.out _).mono ?_;rintro e w1⟨rfl,rfl⟩;go_wp2_with fail;refine(D.out _).mono ?_;rintro e w2⟨rfl,i⟩;have L:=qq (Bld.gr t.out i u.out);have k:=qq (M.out.trans i);have v:=qq (show b≤w2.heap.size by have:=Below.size i;have:=u.out;omega);clear i;cases f
     ·have j:=qq (show R=none by rw[←h.out,c.out];rfl);go_wp2;go_ret2;exact⟨by rw[j.out];rfl,k.out⟩
     ·have q:=qq (show(kP ([]:List UInt8)).map ((out++o)++·)=R by
       rw[←h.out,c.out,if_pos rfl];cases kP ([]:List UInt8) <;> simp)
      go_wp2_with fail;refine(a4.out _ L.out v.out).mono ?_;rintro e w3⟨rfl,p,m⟩;have r:=qq (show Bld b b (Lib.byteCells (out++o)) w3 by
       have e:Lib.byteCells out++Lib.strCells ⟨o.toArray⟩=Lib.byteCells (out++o):=(by simp[Lib.byteCells,Lib.strCells]);rw[e]at p;exact p)
      have n:=qq (Below.trans k.out (hB.out▸m));clear p m;go_wp2;go_roundw
      case rel=>exact⟨([]:List UInt8),out++o,rfl,by have:=y.out;have:=P.out;rw[qw];simp only[List.length_nil]at *;omega,rfl,q.out,r.out,n.out⟩
      case measure=>(show 0<(⟨rest.toArray⟩:ByteArray).size);rw[aj];exact Z
   ·have a5:rest=[]:=List.eq_nil_of_length_eq_zero (by omega);subst a5;have j:=qq (show R=some out by rw[←h.out,Bd];simp);go_wp2_with fail;refine(Tryz.Builder_String_any b b out wr t.out u.out).mono ?_;rintro e w3⟨rfl,m⟩;have n:=qq (Below.trans M.out (hB.out▸m));clear m;go_wp2;go_ret2;exact⟨by rw[j.out];rfl,n.out⟩
 ·have A:((s.length:Int) % 4 != 0)=true:=by rw[bne_iff_ne];omega
  have T:((s.length:Int).tmod 4 != 0)=true:=by rw[Int.tmod_eq_emod_of_nonneg (by omega)];exact A
  have J:=qq (show R=none by rw[←U];unfold uk;rw[if_neg h4]);clear U h4;go_enter func139,ntmps139;go_wp2;go_ret2;exact⟨by rw[J.out];rfl,Gr.refl _⟩
def oS (fs:List Fl):Prop:=fs.length≤1000000∧∀f∈fs,f.1.length≤800000∧f.2.length≤800000
theorem mD {fs:List Fl}(h:oS fs)(name:List UInt8):(bl fs name).1.length≤800000∧(bl fs name).2≤1000000:=by
 refine⟨?_,qy (xG fs name) h.1⟩;unfold bl;cases a:(fs.filter λf=>an f.1 name)with
 | nil=>simp
 | cons f t =>
  have hm:f∈fs.filter λf=>an f.1 name:=by rw[a];exact List.mem_cons_self ..
  simpa using(h.2 f (List.mem_filter.1 hm).1).2
theorem qe (v:Value)(fs:List Fl)(name:List UInt8)(w:World)(d:G w)(hf:FieldsAt w v fs)(hs:oS fs)(j:name.length≤1000) :
  Calls prog 138 #[v,.string ⟨name.toArray⟩] w λe w'=>e=.returned (.tuple #[.string ⟨(jZ fs name).1.toArray⟩,.bool (jZ fs name).2])∧Gr w w':=by
 obtain⟨⟨x,n⟩,c⟩:∃x,bl fs name=x:=⟨_,rfl⟩;have hn:=(mD hs name).2;rw[c]at hn;dsimp only at hn;have a:=qq (qM v fs name w d hf (by have:=hs.1;omega) (λf hf=>by have:=(hs.2 f hf).1;omega) (by omega));rw[c]at a;have h:((n:Int)==1)=(n==1):=by rw[Bool.eq_iff_iff];simp;omega
 have g:=qq (show jZ fs name=(x,n==1) by unfold jZ;rw[c]);rw[g.out];obtain⟨f,b⟩:∃f,(n==1)=f:=⟨_,rfl⟩;rw[b]at h ⊢;clear c b;obtain⟨p,cap,rfl,_⟩:=hf;go_enter func138,ntmps138;go_wp2_with fail;refine a.out.mono ?_;rintro e k⟨rfl,i⟩;go_wp2;go_ret2;exact⟨rfl,i⟩
theorem rB (v:Value)(fs:List Fl)(name a:List UInt8)(w:World)(M:G w)(hf:FieldsAt w v fs)(hs:oS fs)(U:name.length≤1000)(V:a.length≤1000) :
  Calls prog 140 #[v,.string ⟨name.toArray⟩,.string ⟨a.toArray⟩] w λe w'=>e=.returned (.bool (eX fs name a))∧Gr w w':=by
 have I:=qq hs;have j:=qq M;have T:(fs.length:Int)≤1000000:=by have:=hs.1;omega
 obtain⟨p,cap,rfl,N⟩:=hf;have F:=qq N;obtain⟨R,E⟩:∃R,eX fs name a=R:=⟨_,rfl⟩;rw[E];have A:=qq E;clear N hs M E;go_enter func140,ntmps140;go_wp2;go_loopw [11] (λi wr=>(∃k:Nat,k≤fs.length∧i=.int .i64 k∧eX (fs.take k) name a=false)∧Gr w wr) (λi _=>fs.length - (intOf i).toNat)
 case atStart=>exact⟨⟨0,qx _,rfl,rfl⟩,Gr.refl _⟩
 case round =>
  obtain⟨⟨k,X,rfl,B⟩,D⟩:=hrel;have l:=qq B;clear B;by_cases u:k<fs.length
  ·obtain⟨b,off,rfl,J,L⟩:=F.out k u;have c1:=D.cell J;have c2:=D.cell L;have d:=qq (D.trans (Gr.alloc wr (.cells #[.string ⟨fs[k].1.toArray⟩,.string ⟨fs[k].2.toArray⟩] 80)));have x:=qq (List.take_succ_eq_append_getElem u);obtain⟨f,s⟩:∃f,fs[k]=f:=⟨_,rfl⟩;have o:f∈fs:=s▸List.getElem_mem u;obtain⟨P,S⟩:=I.out.2 f o;rw[s]at c1 c2 x d;have C:=qq (show(an f.1 name&&kC f.2 a)=true→R=true from λh=>by
    rw[←A.out];unfold eX;exact List.any_eq_true.2 ⟨f,o,h⟩)
   have H:(k:Int)<fs.length:=(by omega);clear s J L D o;have m:=qq (λW h=>cO f.1 name W h (by omega) (by omega));have q:=qq (λW h=>xu f.2 a W h (by omega) (by omega));cases r:an f.1 name
   ·rw[r]at m;have hn:=qq (show eX (fs.take (k+1)) name a=false by rw[x.out];unfold eX;rw[List.any_append];have:=l.out;unfold eX at this;rw[this];simp[r]);clear r;go_wp2_with fail;refine(m.out _ (j.out.gr d.out)).mono ?_;rintro e O⟨rfl,c⟩;have g:=qq (d.out.trans c);clear c;go_wp2;go_roundw
    case rel=>exact⟨⟨k+1,by omega,by go_num,hn.out⟩,g.out⟩
    case measure=>simp[intOf];omega
   ·rw[r]at m;cases z:kC f.2 a
    ·rw[z]at q;have hn:=qq (show eX (fs.take (k+1)) name a=false by rw[x.out];unfold eX;rw[List.any_append];have:=l.out;unfold eX at this;rw[this];simp[r,z]);clear r z;have y:(wr.alloc (.cells #[.string ⟨f.1.toArray⟩,.string ⟨f.2.toArray⟩] 80)).cell? ⟨wr.heap.size,1,none⟩=some (.string ⟨f.2.toArray⟩):=(by simp[go_sem]);go_wp2_with fail;refine(m.out _ (j.out.gr d.out)).mono ?_;rintro e O⟨rfl,c⟩;have g:=qq (d.out.trans c);replace y:=c.cell y;clear c;go_wp2_with fail;refine(q.out _ (j.out.gr g.out)).mono ?_;rintro e w3⟨rfl,c⟩;have t:=qq (g.out.trans c);clear c y;go_wp2;go_roundw
     case rel=>exact⟨⟨k+1,by omega,by go_num,hn.out⟩,t.out⟩
     case measure=>simp[intOf];omega
    ·rw[z]at q;have n:=qq (C.out (by rw[r,z];rfl));clear r z;have y:(wr.alloc (.cells #[.string ⟨f.1.toArray⟩,.string ⟨f.2.toArray⟩] 80)).cell? ⟨wr.heap.size,1,none⟩=some (.string ⟨f.2.toArray⟩):=(by simp[go_sem]);go_wp2_with fail;refine(m.out _ (j.out.gr d.out)).mono ?_;rintro e O⟨rfl,c⟩;have g:=qq (d.out.trans c);replace y:=c.cell y;clear c;go_wp2_with fail;refine(q.out _ (j.out.gr g.out)).mono ?_;rintro e w3⟨rfl,c⟩;have t:=qq (g.out.trans c);clear c y;go_wp2;go_ret;exact⟨by rw[n.out];rfl,t.out⟩
  ·have H:¬(k:Int)<fs.length:=(by omega);have n:=qq (show R=false by rw[←A.out,←l.out,List.take_of_length_le (by omega)]);go_wp2;go_ret;exact⟨by rw[n.out];rfl,D⟩
