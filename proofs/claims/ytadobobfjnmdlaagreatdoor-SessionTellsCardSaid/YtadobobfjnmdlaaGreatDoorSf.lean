/-
  Walks over package sha: the sum's bytes.
-/
import Derived.Test.YtadobobfjnmdlaaGreatDoorSb
import Derived.Lib.Repeat
import Derived.Laws.IdiomCopy
set_option linter.unnecessarySimpa false
set_option linter.unusedVariables false
set_option linter.unusedSimpArgs false
set_option maxHeartbeats 16000000
set_option maxRecDepth 100000
open Go.Proofs.Tryz
namespace Go.Proofs.YtadobobfjnmdlaaGreatDoor
open Go.RowKit
attribute [local go_sem] Oper.semAt_some
theorem HashAt.fresh (W:World)(f:Bool)(h:W5)(rest:List UInt8)(n:Nat)(t:TypeId):HashAt W.heap.size (W.alloc (.cells #[.bool f,.int .u32 h.a,.int .u32 h.b,.int .u32 h.c,.int .u32 h.d,.int .u32 h.e,.string ⟨rest.toArray⟩,.int .i64 n] t)) f h rest n :=
 let cs:List Value:=[.bool f,.int .u32 h.a,.int .u32 h.b,.int .u32 h.c,.int .u32 h.d,.int .u32 h.e,.string ⟨rest.toArray⟩,.int .i64 n]
 ⟨aa W cs t 0 _ rfl,aa W cs t 1 _ rfl,aa W cs t 2 _ rfl,aa W cs t 3 _ rfl,aa W cs t 4 _ rfl,aa W cs t 5 _ rfl,aa W cs t 6 _ rfl,aa W cs t 7 _ rfl,λo=>World.frozen?_alloc_at _ _ _ _ rfl⟩
theorem Au {P:Program}{w:World}{ops:Array Oper}{o:Oper}{a:Act}{K:Act→World→Prop}{Q:Exit→Act→World→Prop}{E:Prop}(k:o.guard=none)(s x:Operand)(t u d:TypeId)
  (n:o.op=.call { callee:=.builtin .copy,args:=#[s,x],argTypes:=#[t,u] }) (b off c f:Nat) (a0:Addr) (e g:Nat) (cs:List Value)
  (hs:a.eval s=.slice (some ⟨b,off,none⟩) c f) (y:a.eval x=.slice (some a0) e g) (q:P.underlying t=some (.slice d)) (z:(P.info? d).map (·.size)=some 1) (hn:cs.length=Nat.min e c)
  (i:∀j v,cs[j]?=some v→w.cell? (a0.add j)=some v) (m:∀j,j<cs.length→(w.cell? ⟨b,off+j,none⟩).isSome=true) (hf:∀j,j<cs.length→w.frozen? ⟨b,off+j,none⟩=false) (l:∀v∈cs,v.oneCell'=true)
  (h:K (a.put o.dst (goInt cs.length)) (w.setCells b off cs)) :
  if Region.wanted o (yielded ops a.tmps)=true then Oper.wp P o a w K Q else E:=by
 have r:Region.wanted o (yielded ops a.tmps)=true:=by simp[Region.wanted,k]
 rw[if_pos r];have p:=run_copy_cells (P:=P) w t u o.type d b off c f a0 e g cs q z hn i m hf l;unfold Oper.wp execOp;simp only[n,resolve,invoke,builtin,Sem.run_bind,Sem.run_pure,Result.andThen_ok,List.map_toArray,List.map_cons,List.map_nil,hs,y,p];exact h
def OutAt (W:World)(b:Nat)(l:List UInt8):Prop:=(∀j,j<20→W.cell? ⟨b,j,none⟩=some (.int .u8 ((l.getD j 0).toNat:Int)))∧∀j,W.frozen? ⟨b,j,none⟩=false
theorem OutAt.lt {W:World}{b:Nat}{l:List UInt8}(h:OutAt W b l):b<W.heap.size:=ae (h.1 0 (by decide))
theorem OutAt.ch {T:Nat→Prop}{W a:World}{b:Nat}{l:List UInt8}(h:OutAt W b l)(d:Ch T W a)(c:¬T b):OutAt a b l :=
 ⟨λj e=>(d.cell (p:=⟨b,j,none⟩) h.lt c).trans (h.1 j e),λj=>(d.frozen (p:=⟨b,j,none⟩) h.lt c).trans (h.2 j)⟩
theorem OutAt.gr {W a:World}{b:Nat}{l:List UInt8}(h:OutAt W b l)(c:Gr W a):OutAt a b l:=h.ch (c.to_ch (λ_=>False)) (λh=>h)
def wL (h:W5):Nat→List UInt8
 | 0=>[]
 | i+1=>wL h i++beB (h.at i) 4
theorem ol (h:W5):∀i,(wL h i).length=4*i
 | 0=>rfl
 | i+1=>by rw[wL,qw,ol h i,eC];omega
theorem Di (h:W5):wL h 5=jp h:=by simp[wL,jp,W5.at]
theorem Gc {h:W5}(f:h.ok):∀i,h.at i<4294967296
 | 0=>f.a | 1=>f.b | 2=>f.c | 3=>f.d | _+4=>f.e
theorem OutAt.next {W:World}{b:Nat}{l x:List UInt8}(h:OutAt W b l)(k:l.length+x.length≤20):OutAt (W.setCells b l.length (am x)) b (l++x):=by
 refine⟨λj d=>?_,λj=>by rw[World.frozen?_setCells];exact h.2 j⟩;by_cases c:j<l.length
 ·rw[World.cell?_setCells_out b _ _ W ⟨b,j,none⟩ (λ_ _=>.inl c),h.1 j d];simp[List.getD_eq_getElem?_getD,List.getElem?_append_left c]
 ·by_cases g:j<l.length+x.length
  ·have e:j=l.length+(j - l.length):=(by omega);have f:j - l.length<(am x).length:=(by rw[bq];omega);rw[e,World.cell?_setCells_in b (am x) l.length W (λi hi=>by rw[h.1 _ (by rw[bq]at hi;omega)];rfl) (j - l.length) f];have a:j - l.length<x.length:=(by omega);simp[am,List.getD_eq_getElem?_getD,a]
  ·rw[World.cell?_setCells_out b _ _ W ⟨b,j,none⟩ (λ_ _=>.inr (by rw[bq];show _≤j;omega)),h.1 j d];simp[List.getD_eq_getElem?_getD,List.getElem?_eq_none (show l.length≤j by omega),List.getElem?_eq_none (show(l++x).length≤j by rw[qw];omega)]
theorem me:∀n,Lib.repeatL [0] n=List.replicate n 0
 | 0=>rfl
 | n+1=>by rw[Lib.repeatL,me n];rfl
def lF (l:List UInt8):Value:=.agg (am l).toArray
def oo (r n:Nat):List UInt8:=[128]++List.replicate ((120 - (r+1) % 64) % 64) 0++beB (n*8) 8
theorem Dj (b:Nat)(h:W5)(rest:List UInt8)(n:Nat)(W:World)(H:HashAt b W true h rest n)(a0:h.ok)(hr:rest.length<64)(hn:n≤900000) :
  Calls prog 214 #[.pointer (some ⟨b,0,none⟩)] W λe W'=>e=.returned (lF (jp (bx h (rest++oo rest.length n)).1))∧Gr W W':=by
 have H':=qq H;have q0:=H.c0;have q1:=H.c1;have q2:=H.c2;have q3:=H.c3;have q4:=H.c4;have q5:=H.c5;have q6:=H.c6;have q7:=H.c7;have d8:=ae H.c0;have g0:(n:Int)≤900000:=by omega
 clear H;obtain⟨⟨h1,E⟩,B⟩:∃x,bx h (rest++[128])=x:=⟨_,rfl⟩;obtain⟨z,hz⟩:∃z,(120 - E.length) % 64=z:=⟨_,rfl⟩;obtain⟨⟨h2,r2⟩,C⟩:∃x,bx h1 (E++List.replicate z 0)=x:=⟨_,rfl⟩;obtain⟨⟨o,r3⟩,M⟩:∃x,bx h2 (r2++beB (n*8) 8)=x:=⟨_,rfl⟩;have p:h1.ok:=by have:=(ep _ (l:=rest++[128]) a0 (qv _)).1;rwa [B]at this
 have w:h2.ok:=by have:=(ep _ (l:=E++List.replicate z 0) p (qv _)).1;rwa [C]at this
 have P:o.ok:=by have:=(ep _ (l:=r2++beB (n*8) 8) w (qv _)).1;rwa [M]at this
 have d3:E.length=(rest.length+1) % 64:=by have:=jo _ h (rest++[128]) (qv _);rw[B]at this;simpa using this
 have e8:r2.length<64:=by have:=(ep _ (l:=E++List.replicate z 0) p (qv _)).2;rwa [C]at this
 have N:(bx h (rest++oo rest.length n)).1=o:=by
  have e:rest++oo rest.length n=(rest++[128])++(List.replicate z 0++beB (n*8) 8):=by unfold oo;rw[←d3,hz];simp
  rw[e,gG _ _ _ _ (qv _),B];dsimp only;rw[←List.append_assoc,gG _ _ _ _ (qv _),C];dsimp only;rw[M]
 rw[N];have f9:z<64:=by omega
 have e7:E.length<64:=by omega
 have w1:=qq (λb W H=>iV b true h rest [128] n W H a0 (by simp;omega) (by simp;omega));simp only[if_true,B]at w1;have w2:=qq (λb W H=>iV b true h1 E (List.replicate z 0) (n+1) W H p (by simp;omega) (by simp;omega));simp only[if_true,C]at w2;have w3:=qq (λb W m (hm:m≤910000) H=>iV b true h2 r2 (beB (n*8) 8) m W H w (by simp[eC];omega) (by simp[eC];omega));simp only[if_true,M]at w3;obtain⟨N8,b7⟩:∃m,n*8=m:=⟨_,rfl⟩;have f3:(n:Int)*8=N8:=by omega
 have b8:=qq (show N8<18446744073709551616 by omega);rw[b7]at w3;have a7:=qq P;have f1:(120 - (E.length:Int)) % 64=z:=by omega
 have h0:(120 - (E.length:Int)).tmod 64=z:=by rw[Int.tmod_eq_emod_of_nonneg (by omega)];exact f1
 have f8:(E.length:Int)<64:=by omega
 clear B C M a0 p w P d3 e8 N hz hr b7;go_enter func214,ntmps214;go_wp2_with fail;have o1:OutAt ((W.alloc (.cells #[.int .u8 0,.int .u8 0,.int .u8 0,.int .u8 0,.int .u8 0,.int .u8 0,.int .u8 0,.int .u8 0,.int .u8 0,.int .u8 0,.int .u8 0,.int .u8 0,.int .u8 0,.int .u8 0,.int .u8 0,.int .u8 0,.int .u8 0,.int .u8 0,.int .u8 0,.int .u8 0] 221)).alloc (.cells #[.bool true,.int .u32 h.a,.int .u32 h.b,.int .u32 h.c,.int .u32 h.d,.int .u32 h.e,.string ⟨rest.toArray⟩,.int .i64 n] 279)) W.heap.size []:=OutAt.gr (W:=W.alloc (.cells (Array.replicate 20 (.int .u8 0)) 221)) ⟨λj q=>(by
   simp only[World.cell?,World.alloc_heap_new];rw[Array.getElem?_replicate,if_pos q];rfl),λj=>World.frozen?_alloc_at _ _ _ _ rfl⟩ (Gr.alloc _ _)
 have g1:Gr W ((W.alloc (.cells #[.int .u8 0,.int .u8 0,.int .u8 0,.int .u8 0,.int .u8 0,.int .u8 0,.int .u8 0,.int .u8 0,.int .u8 0,.int .u8 0,.int .u8 0,.int .u8 0,.int .u8 0,.int .u8 0,.int .u8 0,.int .u8 0,.int .u8 0,.int .u8 0,.int .u8 0,.int .u8 0] 221)).alloc (.cells #[.bool true,.int .u32 h.a,.int .u32 h.b,.int .u32 h.c,.int .u32 h.d,.int .u32 h.e,.string ⟨rest.toArray⟩,.int .i64 n] 279)):=(Gr.alloc _ _).alloc1 _;have k1:=HashAt.fresh (W.alloc (.cells #[.int .u8 0,.int .u8 0,.int .u8 0,.int .u8 0,.int .u8 0,.int .u8 0,.int .u8 0,.int .u8 0,.int .u8 0,.int .u8 0,.int .u8 0,.int .u8 0,.int .u8 0,.int .u8 0,.int .u8 0,.int .u8 0,.int .u8 0,.int .u8 0,.int .u8 0,.int .u8 0] 221)) true h rest n 279;rw[World.size_alloc]at k1;generalize ((W.alloc (.cells #[.int .u8 0,.int .u8 0,.int .u8 0,.int .u8 0,.int .u8 0,.int .u8 0,.int .u8 0,.int .u8 0,.int .u8 0,.int .u8 0,.int .u8 0,.int .u8 0,.int .u8 0,.int .u8 0,.int .u8 0,.int .u8 0,.int .u8 0,.int .u8 0,.int .u8 0,.int .u8 0] 221)).alloc (.cells #[.bool true,.int .u32 h.a,.int .u32 h.b,.int .u32 h.c,.int .u32 h.d,.int .u32 h.e,.string ⟨rest.toArray⟩,.int .i64 n] 279))=W1 at o1 g1 k1 ⊢;obtain⟨s,F⟩:∃b,W.heap.size=b:=⟨_,rfl⟩;obtain⟨b1,I⟩:∃b,W.heap.size+1=b:=⟨_,rfl⟩;rw[I]at k1;rw[F]at o1;have O:=qq F;have f4:=qq I;have X:=qq (show ¬(s=b1) by omega);have U:=qq (show W.heap.size≤b1 by omega);rw[I];simp only[F];clear F I q0 q1 q2 q3 q4 q5 q6 q7 d8;refine(w1.out _ _ k1).mono ?_;rintro e W2⟨rfl,k2,c2⟩;have o2:=qq (o1.ch c2 X.out);have g2:=qq (g1.ch c2 (λk hk=>hk▸U.out));have d7:=qq k2;clear o1 g1 k1 k2 c2;have e6:=d7.out.c6;go_wp2_with fail;refine(Tryz.strings_Repeat ⟨#[0]⟩ z W2 (by omega) (by show 1*z≤_;omega)).mono ?_;rintro e W3⟨he,r⟩;rw[show(Lib.repeatL (⟨#[0]⟩:ByteArray).data.toList z)=List.replicate z 0 from me z]at he;subst he;have o3:=qq (o2.out.gr r);have g3:=qq (g2.out.trans r);have k3:=qq (d7.out.gr r);clear r e6;go_wp2_with fail;refine(w2.out _ _ k3.out).mono ?_;rintro e W4⟨rfl,k4,c4⟩;have o4:=qq (o3.out.ch c4 X.out);have g4:=qq (g3.out.ch c4 (λk hk=>hk▸U.out));have f2:=qq k4;clear k4 c4;go_wp2_with fail;refine(og N8 8 (by decide) b8.out W4).mono ?_;rintro e W5⟨v,rfl,f,r⟩;have o5:=qq (o4.out.gr r);have g5:=qq (g4.out.trans r);have k5:=qq (f2.out.gr r);have e0:=fE f;clear r;go_wp2_with fail;refine(w3.out _ _ _ (by simp;omega) k5.out).mono ?_;rintro e W6⟨rfl,k6,c6⟩;have o6:=qq (o5.out.ch c6 X.out);have g6:=qq (g5.out.ch c6 (λk hk=>hk▸U.out));have D:=qq k6;clear k6 c6 e0 f;have e1:=D.out.c1;have e2:=D.out.c2;have e3:=D.out.c3;have e4:=D.out.c4;have e5:=D.out.c5;go_wp2;clear e1 e2 e3 e4 e5;have b6:=g6.out;go_loopw [31] (λi wx=>∃k:Nat,k≤5∧i=.int .i64 k∧OutAt wx s (wL o k)∧Gr W wx) (λi _=>5 - (intOf i).toNat)
 case atStart=>exact⟨0,by omega,rfl,o6.out,b6⟩
 case round =>
  obtain⟨k,hk,rfl,ho,r⟩:=hrel;have d4:=qq ho;have c8:=qq r;clear ho r b6;by_cases d2:k<5
  ·have f7:(k:Int)<5:=(by omega);obtain⟨T,L⟩:∃x,o.at k=x:=⟨_,rfl⟩;have f0:T<4294967296:=L▸Gc a7.out k;have g7:(T:Int)<4294967296:=(by omega);have g8:IntKind.u64.wrap (T:Int)=T:=(by rw[Go.IntKind.wrap_u64];omega);have d1:(Instr.index 277 (.agg #[.int .u32 o.a,.int .u32 o.b,.int .u32 o.c,.int .u32 o.d,.int .u32 o.e]) (.int .i64 k)).run prog wr=.ok (.int .u32 T) wr :=
    jj wr _ _ _ underlying277 (isAgg234 wr) (sizeOf234 wr) d2 (by
     rw[←L]
     match k,d2 with
     | 0,_=>rfl
     | 1,_=>rfl
     | 2,_=>rfl
     | 3,_=>rfl
     | 4,_=>rfl)
   have e9:=qq (λw0=>og T 4 (by decide) (by omega) w0);have d6:=qq L;clear L f0;have a1:IntKind.i64.wrap (4*(k:Int))=4*(k:Int):=IntWalk.i64_in _ (by omega);have a2:(4*(k:Int))≤20:=(by omega);have a3:0≤4*(k:Int):=(by omega);have a4:(4*(k:Int)).toNat=4*k:=(by omega);have a5:¬20=4*k:=(by omega);have a6:¬4*k=20:=(by omega);go_upto_region 11 with(fail);clear d1;go_region_held3 (λ_=>True) (trivial) (first | (go_at_call 249;refine(e9.out _).mono ?_;rintro e w7 ⟨v9,rfl,f,V⟩;have Y:=qq (d4.out.gr ((Gr.drew' _).trans V));have c9:=qq ((c8.out.drew).trans V);obtain⟨g9,b5,d5,f5,f6,t,d9⟩:=OwnB.row f (by rw[eC];decide);rw[eC]at d5;subst d5;have a9:=qq f;clear f V t) | (refine Au (by rfl) (.tmp 37) (.tmp 40) 100 100 5 (by rfl) s (4*k) (20 - 4*k) (20 - 4*k) ⟨g9,0,none⟩ 4 b5 (am (beB T 4)) (by rfl) (by rfl) underlying100 (by kernel_rfl) (by rw[bq,eC];exact(Nat.min_eq_left (by omega)).symm) (λj u q=>World.ownsRow.cells a9.out (g:=g9) rfl j u q) (λj q=>by rw[Y.out.1 _ (by rw[bq,eC]at q;omega)];rfl) (λj _=>Y.out.2 _) (gL _) ?_));go_wp2;go_roundw
   case rel =>
    refine⟨k+1,by omega,by go_num,?_,Gr.setCells (Nat.le_of_eq O.out) _ _ c9.out⟩;have:=Y.out.next (x:=beB T 4) (by rw[ol,eC];omega);rw[ol]at this;rw[wL,d6.out];exact this
   case measure=>simp[intOf];omega
  ·obtain rfl:k=5:=(by omega);have Z:=qq (show OutAt wr s (jp o) by rw[←Di];exact d4.out);have y:wr.rangeAt s 0 (am (jp o)):=λj v hv=>by
    have q:j<(am (jp o)).length:=(List.getElem?_eq_some_iff.1 hv).1;rw[bq,fM]at q;rw[Nat.zero_add,Z.out.1 j q,←hv,fD _ _ (by rw[fM];exact q)];simp[List.getD_eq_getElem?_getD,List.getElem?_eq_getElem (show j<(jp o).length by rw[fM];exact q)]
   have b4:wr.there s 0 (am (jp o)).length:=λj q=>by
    rw[bq,fM]at q;rw[Nat.zero_add];exact⟨by rw[Z.out.1 j q];rfl,Z.out.2 j⟩
   have b3:(prog.info? 221).map (·.size)=some (am (jp o)).length:=(by rw[bq,fM];kernel_rfl);obtain⟨cs,J⟩:∃cs,am (jp o)=cs:=⟨_,rfl⟩;have R:∀v∈cs,v.oneCell'=true:=J▸gL _;have hV:=qq (show lF (jp o)=.agg cs.toArray by rw[←J];rfl);rw[J]at y b4 b3;have b2:=qq y;have S:=qq b4;have A:=qq b3;have a8:=qq R;clear y b4 b3 R J;go_upto_region 13 with(fail);refine wp_region_lit ?_;refine wpList_load_mid rfl 221 _ rfl s 0 rfl cs _ b2.out underlying221 rfl A.out ?_;refine wpList_store_mid rfl 221 _ _ rfl s 0 cs.toArray rfl rfl (by simpa using S.out) (by simpa using A.out) (all_oneCell_toArray a8.out) ?_;have b9:=qq (World.rangeAt_setCells_same wr s 0 cs S.out);have d0:=qq (Gr.setCells (Nat.le_of_eq O.out) cs 0 c8.out);simp only[List.toList_toArray];generalize wr.setCells s 0 cs=w9 at b9 d0 ⊢;go_wp2;refine bodyPost_ret (fg rfl rfl (run_loadVar_mid w9 s 0 221 cs _ b9.out underlying221 rfl A.out)) rfl ⟨by rw[hV.out],d0.out⟩
theorem wM (W:World):Calls prog 212 #[] W λe a=>e=.returned (.pointer (some ⟨W.heap.size,0,none⟩))∧HashAt W.heap.size a false ⟨0,0,0,0,0⟩ [] 0∧Gr W a:=by
 go_enter func212,ntmps212;go_wp2;refine bodyPost_ret (v:=.pointer (some ⟨W.heap.size,0,none⟩)) (by simp[results,results212,go_sem]) rfl ⟨rfl,HashAt.fresh W false ⟨0,0,0,0,0⟩ [] 0 _,Gr.alloc _ _⟩
theorem Ey (s:List UInt8)(hs:s.length≤900000)(w:World):Calls prog 172 #[.string ⟨s.toArray⟩] w λe w'=>e=.returned (lF (jq s))∧Gr w w':=by
 obtain⟨⟨C,n⟩,m⟩:∃x,bx eP s=x:=⟨_,rfl⟩;have t:C.ok:=by have:=(ep _ (l:=s) mG (qv _)).1;rwa [m]at this
 have hl:n.length<64:=by have:=(ep _ (l:=s) mG (qv _)).2;rwa [m]at this
 have hm:n.length=s.length % 64:=by have:=jo _ eP s (qv _);rwa [m]at this
 have d:jp (bx C (n++oo n.length s.length)).1=jq s:=by
  unfold jq;have e:uh s=s++oo n.length s.length:=by
   unfold uh oo A7;rw[hm,show(s.length % 64+1) % 64=(s.length+1) % 64 by omega];simp
  rw[e,gG _ eP s _ (qv _),m]
 have L:=qq (λb W H=>iV b false ⟨0,0,0,0,0⟩ [] s 0 W H ⟨by decide,by decide,by decide,by decide,by decide⟩ (by simp;omega) (by omega));simp only[Bool.false_eq_true,if_false,List.nil_append,m,Nat.zero_add]at L;have M:=qq (λb W H=>Dj b C n s.length W H t hl hs);rw[d]at M;clear m t hl hm d;go_enter func172,ntmps172;go_wp2_with fail;have z:OutAt (w.alloc (.cells #[.int .u8 0,.int .u8 0,.int .u8 0,.int .u8 0,.int .u8 0,.int .u8 0,.int .u8 0,.int .u8 0,.int .u8 0,.int .u8 0,.int .u8 0,.int .u8 0,.int .u8 0,.int .u8 0,.int .u8 0,.int .u8 0,.int .u8 0,.int .u8 0,.int .u8 0,.int .u8 0] 221)) w.heap.size []:=(show OutAt (w.alloc (.cells (Array.replicate 20 (.int .u8 0)) 221)) w.heap.size []from⟨λj h=>(by
   simp only[World.cell?,World.alloc_heap_new];rw[Array.getElem?_replicate,if_pos h];rfl),λj=>World.frozen?_alloc_at _ _ _ _ rfl⟩)
 have B:Gr w (w.alloc (.cells #[.int .u8 0,.int .u8 0,.int .u8 0,.int .u8 0,.int .u8 0,.int .u8 0,.int .u8 0,.int .u8 0,.int .u8 0,.int .u8 0,.int .u8 0,.int .u8 0,.int .u8 0,.int .u8 0,.int .u8 0,.int .u8 0,.int .u8 0,.int .u8 0,.int .u8 0,.int .u8 0] 221)):=Gr.alloc _ _;generalize (w.alloc (.cells #[.int .u8 0,.int .u8 0,.int .u8 0,.int .u8 0,.int .u8 0,.int .u8 0,.int .u8 0,.int .u8 0,.int .u8 0,.int .u8 0,.int .u8 0,.int .u8 0,.int .u8 0,.int .u8 0,.int .u8 0,.int .u8 0,.int .u8 0,.int .u8 0,.int .u8 0,.int .u8 0] 221))=W1 at z B ⊢;obtain⟨i,c⟩:∃b,w.heap.size=b:=⟨_,rfl⟩;rw[c]at z;simp only[c];have q:=qq c;clear c;have v:=qq z;have o:=qq B;clear z B;refine(wM W1).mono ?_;rintro e W2⟨rfl,k2,g⟩;have T:=qq (v.out.gr g);have N:=qq (o.out.trans g);have I:=qq k2;have E:=qq (show i<W1.heap.size from v.out.lt);have F:=qq (show w.heap.size≤W1.heap.size from o.out.size);clear k2 g;go_wp2_with fail;refine(L.out _ _ I.out).mono ?_;rintro e V⟨rfl,k3,c3⟩;have U:=qq (T.out.ch c3 (by have:=E.out;omega));have O:=qq (N.out.ch c3 (λk S=>S▸F.out));have J:=qq k3;clear k3 c3;go_wp2_with fail;refine(M.out _ _ J.out).mono ?_;rintro e y⟨rfl,g⟩;have A:=qq (U.out.gr g);have P:=qq (O.out.trans g);clear g;have a:(am (jq s)).length=20:=by rw[bq];exact fM _
 have D:(storeCells ⟨i,0,none⟩ (am (jq s)) 0).run prog y=.ok () (y.setCells i 0 (am (jq s))):=run_storeCells_cells i 0 (am (jq s)) 0 y (λj h=>by rw[a]at h;rw[Nat.zero_add,A.out.1 j h];rfl) (λj _=>by rw[Nat.zero_add];exact A.out.2 j) (gL _);have p:=qq (World.rangeAt_setCells_same y i 0 (am (jq s)) (λj h=>by rw[a]at h;rw[Nat.zero_add];exact⟨by rw[A.out.1 j h];rfl,A.out.2 j⟩));have r:=qq (Gr.setCells (Nat.le_of_eq q.out) (am (jq s)) 0 P.out);have u:=qq (show(prog.info? 221).map (·.size)=some (am (jq s)).length by rw[a];kernel_rfl);unfold lF;obtain⟨cs,f⟩:∃cs,am (jq s)=cs:=⟨_,rfl⟩;rw[f]at D a p r u ⊢;have R:=qq (show lF (jq s)=.agg cs.toArray by rw[←f];rfl);clear f;go_wp2;refine bodyPost_ret (fg rfl rfl (run_loadVar_mid _ i 0 221 cs _ p.out underlying221 rfl u.out)) rfl ⟨by rw[R.out],r.out⟩
theorem mf {a b:Nat}(c:a<4611686018427387904)(d:b<4611686018427387904):bits .and .i64 (a:Int) (b:Int)=((a&&&b:Nat):Int):=by
 have e:a&&&b≤a:=Nat.and_le_left;show IntKind.i64.wrap ((BitVec.ofInt 64 (a:Int)&&&BitVec.ofInt 64 (b:Int)).toNat:Int)=_;rw[BitVec.toNat_and,Go.ofInt_u64 a (by omega),Go.ofInt_u64 b (by omega),IntKind.wrap_i64];omega
theorem oq {a b:Nat}(c:a<4611686018427387904)(d:b<4611686018427387904):bits .or .i64 (a:Int) (b:Int)=((a ||| b:Nat):Int):=by
 have e:a ||| b<2 ^ 62:=Nat.or_lt_two_pow (by omega) (by omega);show IntKind.i64.wrap ((BitVec.ofInt 64 (a:Int) ||| BitVec.ofInt 64 (b:Int)).toNat:Int)=_;rw[BitVec.toNat_or,Go.ofInt_u64 a (by omega),Go.ofInt_u64 b (by omega),IntKind.wrap_i64];omega
theorem Dk {m c:Nat}(hm:m<4294967296)(d:c<256):bits .or .i64 ((m:Int)*256) (c:Int)=((m*256+c:Nat):Int):=by
 have h:=oq (a:=m*256) (b:=c) (by omega) (by omega);rw[Go.nat_join 8 (m*256) c (by omega) (by omega)]at h;rw[←h];rfl
theorem eO {m:Nat}(hm:m<4294967296):bits .and .i64 (m:Int) 63=((m % 64:Nat):Int):=by
 have h:=mf (a:=m) (b:=63) (by omega) (by omega);rw[show(m&&&63:Nat)=m % 2 ^ 6 from Nat.and_two_pow_sub_one_eq_mod m 6]at h;exact h
theorem mB:∀d:Fin 64,((⟨#[65,66,67,68,69,70,71,72,73,74,75,76,77,78,79,80,81,82,83,84,85,86,87,88,89,90,97,98,99,100,101,102,103,104,105,106,107,108,109,110,111,112,113,114,115,116,117,118,119,120,121,122,48,49,50,51,52,53,54,55,56,57,43,47]⟩:ByteArray)[d.1]'(by have:=d.2;exact qj this (by decide)))=mH d.1:=by decide +kernel
def Gd:Value→Nat | .string s=>s.size | _=>0
theorem Av (out:List UInt8)(c:UInt8):Lib.byteCells out++[Value.int .u8 (c.toNat:Int)]=Lib.byteCells (out++[c]):=by simp[Lib.byteCells]
theorem cu (l:List UInt8):(Lib.byteCells l).length=l.length:=by simp[Lib.byteCells]
theorem wN (s:List UInt8)(hs:s.length≤1000000)(w:World):Calls prog 173 #[.string ⟨s.toArray⟩] w λe w'=>e=.returned (.string ⟨(mh s).toArray⟩)∧Gr w w':=by
 obtain⟨R,hR⟩:∃R,mh s=R:=⟨_,rfl⟩;rw[hR];have a7:=qq hR;have a8:R.length≤1400000:=by rw[←hR,mJ _ _ (qv _)];omega
 clear hR;go_enter func173,ntmps173;go_wp2;obtain⟨b,M⟩:∃b,w.heap.size=b:=⟨_,rfl⟩;have L:=qq M;have h0:=qq (show Bld b b (Lib.byteCells []) (w.alloc (.cells #[.pointer none,.slice none 0 0] 147))from M▸Lib.fresh_isBuilder _ _ w);have g0:=qq (Gr.alloc w (.cells #[.pointer none,.slice none 0 0] 147));rw[M];clear M;go_loopw [0] (λa wr=>∃(rest out:List UInt8),a=.string ⟨rest.toArray⟩∧rest.length≤1000000∧out++mh rest=R∧Bld b b (Lib.byteCells out) wr∧Gr w wr) (λa _=>Gd a)
 case atStart=>exact⟨s,[],rfl,hs,a7.out,h0.out,g0.out⟩
 case round =>
  obtain⟨rest,out,rfl,c7,H,V,hg⟩:=hrel;have I:=qq H;have N:=qq V;have S:=qq hg;have a4:out.length+(mh rest).length≤1400000:=by rw[←qw,H];exact a8
  clear H V hg;by_cases a5:0<rest.length
  ·have c6:rest.isEmpty=false:=(by simpa using List.length_pos_iff.1 a5);obtain⟨n,hn⟩:∃n,min 3 rest.length=n:=⟨_,rfl⟩;have c3:min (3:Int) rest.length=n:=(by omega);have b2:=qq hn;have c2:(n:Int)≤3:=(by omega);have c1:(1:Int)≤n:=(by omega);have c4:(n:Int)≤rest.length:=(by omega);have J:=qq (oW a5);have b6:out.length+4≤1400000:=(by rw[J.out,qw,rE]at a4;omega);have b4:(⟨rest.toArray⟩:ByteArray).extract n rest.length=⟨(rest.drop 3).toArray⟩:=by
    rw[av,←hn];by_cases h3:3≤rest.length
    ·rw[Nat.min_eq_left h3];simp
    ·rw[Nat.min_eq_right (by omega),List.take_length,List.drop_length,List.drop_of_length_le (show rest.length≤3 by omega)]
   have Y:=qq (show(rest.drop 3).length≤1000000 by rw[List.length_drop];omega);have O:=qq (show(rest.drop 3).length<rest.length by rw[List.length_drop];omega);have a3:∀j,j<n↔j<3∧j<rest.length:=λj=>(by omega);have P:=qq a3;clear hn a3 a4;go_wp2;go_loop [5,18] (λx i=>∃j:Nat,j≤3∧i=.int .i64 j∧x=.int .i64 (gZ rest j)) (λ_ i=>3 - (intOf i).toNat)
   case atStart=>exact⟨0,by omega,rfl,rfl⟩
   case round =>
    obtain⟨j,hj,rfl,rfl⟩:=hrel;obtain⟨m,hm⟩:∃m,gZ rest j=m:=⟨_,rfl⟩;have a1:=qq hm;rw[hm];by_cases b9:j<3
    ·have b5:(j:Int)<3:=(by omega);have a2:m<256 ^ 2:=qj (hm▸mo rest j) (Nat.pow_le_pow_right (by decide) (by omega));have c0:(m:Int)≤65535:=(by omega);by_cases r:j<n
     ·have z:(j:Int)<n:=(by omega);have a0:j<rest.length:=((P.out j).1 r).2;obtain⟨c,hc⟩:∃c,(⟨rest.toArray⟩:ByteArray)[j]'(by rw[aj];exact a0)=c:=⟨_,rfl⟩;have M:=qq (show fq rest j=c.toNat by unfold fq;rw[List.getD_eq_getElem?_getD,List.getElem?_eq_getElem a0];exact congrArg UInt8.toNat hc);have c5:=Dk (m:=m) (c:=c.toNat) (by omega) c.toNat_lt;have b0:(c.toNat:Int)≤255:=(by have:=c.toNat_lt;omega);clear hm a2;go_wp2;go_round
      case rel=>exact⟨j+1,by omega,by go_num,by rw[gZ,a1.out,M.out];go_num⟩
      case measure=>simp[intOf];omega
     ·have z:¬(j:Int)<n:=(by omega);have M:=qq (show fq rest j=0 by
       have:¬(j<3∧j<rest.length):=λh=>r ((P.out j).2 h);unfold fq;rw[List.getD_eq_getElem?_getD,List.getElem?_eq_none (by omega)];rfl)
      clear hm a2;go_wp2;go_round
      case rel=>exact⟨j+1,by omega,by go_num,by rw[gZ,a1.out,M.out];go_num⟩
      case measure=>simp[intOf];omega
    ·obtain rfl:j=3:=(by omega);obtain rfl:gZ rest 3=m:=hm;obtain⟨X,hX⟩:∃X,gZ rest 3=X:=⟨_,rfl⟩;have b8:X<16777216:=(by have:=mo rest 3;rw[hX]at this;exact this);have b7:(X:Int)<16777216:=(by omega);rw[hX];have a9:=qq hX;clear hX;go_wp2;go_loopw [33] (λi wx=>∃j:Nat,j≤4∧i=.int .i64 j∧Bld b b (Lib.byteCells (out++js n X j)) wx∧Gr w wx) (λi _=>4 - (intOf i).toNat)
     case atStart=>exact⟨0,by omega,rfl,by simpa[js]using N.out,S.out⟩
     case round =>
      obtain⟨j,hj,rfl,U,T⟩:=hrel;have y:=qq T;have t:=qq (show(out++js n X j).length+1≤140737488355328 by rw[qw,mI];omega);have A:=qq (show b≤wr.heap.size by have:=Below.size T;have:=L.out;omega);have u:=qq U;clear U T;have b1:j=0∨j=1∨j=2∨j=3∨j=4:=(by omega);rcases b1 with rfl | rfl | rfl | rfl | rfl
      ·have F:((0:Nat):Int)<4:=(by decide);by_cases r:0≤n
       ·have z:(0:Int)≤n:=(by omega);obtain⟨d,B⟩:∃d,X / 262144 % 64=d:=⟨_,rfl⟩;have v:d<64:=(by omega);have D:bits .and .i64 ((X:Int) / 262144) 63=(d:Int):=by
         have:=eO (m:=X / 262144) (by omega);rw[B,Int.natCast_ediv]at this;exact this
        have q:bits .and .i64 (X:Int) 63=(((X % 64:Nat)):Int):=eO (by omega);have C:=mB ⟨d,v⟩;dsimp only at C;have p:=qq (show jr n X 0=mH d by unfold jr;rw[if_pos r,←B]);clear B q;go_wp2_with fail;refine(cQ b b _ (mH d).toNat wr u.out (by rw[cu];exact t.out) A.out).mono ?_;rintro e w3⟨rfl,o,g⟩;have f:=qq o;have k:=qq (Below.trans y.out (L.out▸g));clear o g;go_wp2;go_roundw
        case rel=>exact⟨1,by decide,by go_num,by rw[Av,List.append_assoc,←p.out]at f;exact f.out,k.out⟩
        case measure=>simp[intOf]
       ·exact absurd r (by omega)
      ·have F:((1:Nat):Int)<4:=(by decide);by_cases r:1≤n
       ·have z:(1:Int)≤n:=(by omega);obtain⟨d,B⟩:∃d,X / 4096 % 64=d:=⟨_,rfl⟩;have v:d<64:=(by omega);have D:bits .and .i64 ((X:Int) / 4096) 63=(d:Int):=by
         have:=eO (m:=X / 4096) (by omega);rw[B,Int.natCast_ediv]at this;exact this
        have q:bits .and .i64 (X:Int) 63=(((X % 64:Nat)):Int):=eO (by omega);have C:=mB ⟨d,v⟩;dsimp only at C;have p:=qq (show jr n X 1=mH d by unfold jr;rw[if_pos r,←B]);clear B q;go_wp2_with fail;refine(cQ b b _ (mH d).toNat wr u.out (by rw[cu];exact t.out) A.out).mono ?_;rintro e w3⟨rfl,o,g⟩;have f:=qq o;have k:=qq (Below.trans y.out (L.out▸g));clear o g;go_wp2;go_roundw
        case rel=>exact⟨2,by decide,by go_num,by rw[Av,List.append_assoc,←p.out]at f;exact f.out,k.out⟩
        case measure=>simp[intOf]
       ·exact absurd r (by omega)
      ·have F:((2:Nat):Int)<4:=(by decide);by_cases r:2≤n
       ·have z:(2:Int)≤n:=(by omega);obtain⟨d,B⟩:∃d,X / 64 % 64=d:=⟨_,rfl⟩;have v:d<64:=(by omega);have D:bits .and .i64 ((X:Int) / 64) 63=(d:Int):=by
         have:=eO (m:=X / 64) (by omega);rw[B,Int.natCast_ediv]at this;exact this
        have q:bits .and .i64 (X:Int) 63=(((X % 64:Nat)):Int):=eO (by omega);have C:=mB ⟨d,v⟩;dsimp only at C;have p:=qq (show jr n X 2=mH d by unfold jr;rw[if_pos r,←B]);clear B q;go_wp2_with fail;refine(cQ b b _ (mH d).toNat wr u.out (by rw[cu];exact t.out) A.out).mono ?_;rintro e w3⟨rfl,o,g⟩;have f:=qq o;have k:=qq (Below.trans y.out (L.out▸g));clear o g;go_wp2;go_roundw
        case rel=>exact⟨3,by decide,by go_num,by rw[Av,List.append_assoc,←p.out]at f;exact f.out,k.out⟩
        case measure=>simp[intOf]
       ·have z:¬(2:Int)≤n:=(by omega);have p:=qq (show jr n X 2=61 by unfold jr;rw[if_neg r]);go_wp2_with fail;refine(cQ b b _ 61 wr u.out (by rw[cu];exact t.out) A.out).mono ?_;rintro e w3⟨rfl,o,g⟩;have f:=qq (show Bld b b (Lib.byteCells (out++js n X 2++[(61:UInt8)])) w3 from(Av (out++js n X 2) 61)▸o);have k:=qq (Below.trans y.out (L.out▸g));clear o g;go_wp2;go_roundw
        case rel=>exact⟨3,by decide,by go_num,by rw[List.append_assoc,←p.out]at f;exact f.out,k.out⟩
        case measure=>simp[intOf]
      ·have F:((3:Nat):Int)<4:=(by decide);by_cases r:3≤n
       ·have z:(3:Int)≤n:=(by omega);obtain⟨d,B⟩:∃d,X / 1 % 64=d:=⟨_,rfl⟩;have v:d<64:=(by omega);have D:bits .and .i64 ((X:Int) / 1) 63=(d:Int):=by
         have:=eO (m:=X / 1) (by omega);rw[B,Int.natCast_ediv]at this;exact this
        have q:bits .and .i64 (X:Int) 63=(((X % 64:Nat)):Int):=eO (by omega);have C:=mB ⟨d,v⟩;dsimp only at C;have p:=qq (show jr n X 3=mH d by unfold jr;rw[if_pos r,←B]);have W:X % 64=d:=(by rw[←B,Nat.div_one]);rw[W]at q;clear B W D;go_wp2_with fail;refine(cQ b b _ (mH d).toNat wr u.out (by rw[cu];exact t.out) A.out).mono ?_;rintro e w3⟨rfl,o,g⟩;have f:=qq o;have k:=qq (Below.trans y.out (L.out▸g));clear o g;go_wp2;go_roundw
        case rel=>exact⟨4,by decide,by go_num,by rw[Av,List.append_assoc,←p.out]at f;exact f.out,k.out⟩
        case measure=>simp[intOf]
       ·have z:¬(3:Int)≤n:=(by omega);have p:=qq (show jr n X 3=61 by unfold jr;rw[if_neg r]);go_wp2_with fail;refine(cQ b b _ 61 wr u.out (by rw[cu];exact t.out) A.out).mono ?_;rintro e w3⟨rfl,o,g⟩;have f:=qq (show Bld b b (Lib.byteCells (out++js n X 3++[(61:UInt8)])) w3 from(Av (out++js n X 3) 61)▸o);have k:=qq (Below.trans y.out (L.out▸g));clear o g;go_wp2;go_roundw
        case rel=>exact⟨4,by decide,by go_num,by rw[List.append_assoc,←p.out]at f;exact f.out,k.out⟩
        case measure=>simp[intOf]
      ·have E:=qq (show out++js n X 4++mh (rest.drop 3)=R by
        rw[←I.out,J.out,List.append_assoc];unfold A8;rw[b2.out,a9.out])
       obtain⟨rb,a6⟩:∃l,rest.drop 3=l:=⟨_,rfl⟩;rw[a6]at b4 Y O E;clear a6;go_wp2;go_roundw
       case rel=>exact⟨rb,out++js n X 4,rfl,Y.out,E.out,u.out,y.out⟩
       case measure=>(show(⟨rb.toArray⟩:ByteArray).size<(⟨rest.toArray⟩:ByteArray).size);rw[aj,aj];exact O.out
  ·have b3:rest=[]:=List.eq_nil_of_length_eq_zero (by omega);subst b3;have Z:=qq (show out=R by rw[←I.out,A9,List.append_nil]);have A:=qq (show b≤wr.heap.size by have:=Below.size S.out;have:=L.out;omega);go_wp2_with fail;refine(Tryz.Builder_String_any b b out wr N.out A.out).mono ?_;rintro e w3⟨rfl,g⟩;have k:=qq (Below.trans S.out (L.out▸g));clear g;go_wp2;go_ret;exact⟨by rw[←Z.out];rfl,k.out⟩
theorem wO (k:List UInt8)(D:k.length≤800000)(w:World):Calls prog 141 #[.string ⟨k.toArray⟩] w λe w'=>e=.returned (.string ⟨(fN k).toArray⟩)∧Gr w w':=by
 have f:(⟨k.toArray⟩:ByteArray)++⟨#[50,53,56,69,65,70,65,53,45,69,57,49,52,45,52,55,68,65,45,57,53,67,65,45,67,53,65,66,48,68,67,56,53,66,49,49]⟩=⟨(k++rF).toArray⟩:=aL k rF;have C:¬9223372036854775807<k.length+36:=by omega
 obtain⟨u,s⟩:∃u,k++rF=u:=⟨_,rfl⟩;have y:=qq (show u.length≤900000 by rw[←s,qw];show _+36≤_;omega);obtain⟨L,r⟩:∃L,jq u=L:=⟨_,rfl⟩;have d:fN k=mh L:=by unfold fN;rw[s,r]
 have i:L.length=20:=r▸fM _;rw[s]at f;rw[d];have g:=qq (λW=>Ey u y.out W);rw[r]at g;have n:=qq (λW=>wN L (by omega) W);clear s r d;go_enter func141,ntmps141;go_wp2_with fail;refine(g.out _).mono ?_;rintro e a⟨rfl,o⟩;have z:=qq o;clear o f;have b:(am L).length=20:=by rw[bq];exact i
 have q:OutAt (a.alloc (.cells #[.int .u8 0,.int .u8 0,.int .u8 0,.int .u8 0,.int .u8 0,.int .u8 0,.int .u8 0,.int .u8 0,.int .u8 0,.int .u8 0,.int .u8 0,.int .u8 0,.int .u8 0,.int .u8 0,.int .u8 0,.int .u8 0,.int .u8 0,.int .u8 0,.int .u8 0,.int .u8 0] 221)) a.heap.size []:=(show OutAt (a.alloc (.cells (Array.replicate 20 (.int .u8 0)) 221)) a.heap.size []from⟨λj c=>(by
   simp only[World.cell?,World.alloc_heap_new];rw[Array.getElem?_replicate,if_pos c];rfl),λj=>World.frozen?_alloc_at _ _ _ _ rfl⟩)
 have A:=qq (z.out.trans (Gr.alloc a (.cells #[.int .u8 0,.int .u8 0,.int .u8 0,.int .u8 0,.int .u8 0,.int .u8 0,.int .u8 0,.int .u8 0,.int .u8 0,.int .u8 0,.int .u8 0,.int .u8 0,.int .u8 0,.int .u8 0,.int .u8 0,.int .u8 0,.int .u8 0,.int .u8 0,.int .u8 0,.int .u8 0] 221)));have t:=qq (show w.heap.size≤a.heap.size from z.out.size);unfold lF;have x:(storeCells ⟨a.heap.size,0,none⟩ (am L) 0).run prog (a.alloc (.cells #[.int .u8 0,.int .u8 0,.int .u8 0,.int .u8 0,.int .u8 0,.int .u8 0,.int .u8 0,.int .u8 0,.int .u8 0,.int .u8 0,.int .u8 0,.int .u8 0,.int .u8 0,.int .u8 0,.int .u8 0,.int .u8 0,.int .u8 0,.int .u8 0,.int .u8 0,.int .u8 0] 221))=.ok () ((a.alloc (.cells #[.int .u8 0,.int .u8 0,.int .u8 0,.int .u8 0,.int .u8 0,.int .u8 0,.int .u8 0,.int .u8 0,.int .u8 0,.int .u8 0,.int .u8 0,.int .u8 0,.int .u8 0,.int .u8 0,.int .u8 0,.int .u8 0,.int .u8 0,.int .u8 0,.int .u8 0,.int .u8 0] 221)).setCells a.heap.size 0 (am L)):=run_storeCells_cells a.heap.size 0 (am L) 0 _ (λj c=>by rw[b]at c;rw[Nat.zero_add,q.1 j c];rfl) (λj _=>by rw[Nat.zero_add];exact q.2 j) (gL _);have l:=World.rangeAt_setCells_same (a.alloc (.cells #[.int .u8 0,.int .u8 0,.int .u8 0,.int .u8 0,.int .u8 0,.int .u8 0,.int .u8 0,.int .u8 0,.int .u8 0,.int .u8 0,.int .u8 0,.int .u8 0,.int .u8 0,.int .u8 0,.int .u8 0,.int .u8 0,.int .u8 0,.int .u8 0,.int .u8 0,.int .u8 0] 221)) a.heap.size 0 (am L) (λj c=>by rw[b]at c;rw[Nat.zero_add];exact⟨by rw[q.1 j c];rfl,q.2 j⟩);have p:=qq (Gr.setCells t.out (am L) 0 A.out);have v:(convert 100 9 (.slice (some ⟨a.heap.size,0,none⟩) 20 20)).run prog ((a.alloc (.cells #[.int .u8 0,.int .u8 0,.int .u8 0,.int .u8 0,.int .u8 0,.int .u8 0,.int .u8 0,.int .u8 0,.int .u8 0,.int .u8 0,.int .u8 0,.int .u8 0,.int .u8 0,.int .u8 0,.int .u8 0,.int .u8 0,.int .u8 0,.int .u8 0,.int .u8 0,.int .u8 0] 221)).setCells a.heap.size 0 (am L))=.ok (.string ⟨L.toArray⟩) ((a.alloc (.cells #[.int .u8 0,.int .u8 0,.int .u8 0,.int .u8 0,.int .u8 0,.int .u8 0,.int .u8 0,.int .u8 0,.int .u8 0,.int .u8 0,.int .u8 0,.int .u8 0,.int .u8 0,.int .u8 0,.int .u8 0,.int .u8 0,.int .u8 0,.int .u8 0,.int .u8 0,.int .u8 0] 221)).setCells a.heap.size 0 (am L)):=by
  have:=run_convert_bytes_back (P:=prog) ((a.alloc (.cells #[.int .u8 0,.int .u8 0,.int .u8 0,.int .u8 0,.int .u8 0,.int .u8 0,.int .u8 0,.int .u8 0,.int .u8 0,.int .u8 0,.int .u8 0,.int .u8 0,.int .u8 0,.int .u8 0,.int .u8 0,.int .u8 0,.int .u8 0,.int .u8 0,.int .u8 0,.int .u8 0] 221)).setCells a.heap.size 0 (am L)) 100 9 5 ⟨a.heap.size,0,none⟩ 20 L underlying100 underlying5 underlying9 (λj c=>by
   have h:=l j _ (fD L j c);rw[Addr.add_mid];exact h)
  rwa [i]at this
 clear l q;obtain⟨cs,m⟩:∃cs,am L=cs:=⟨_,rfl⟩;rw[m]at x b p v ⊢;clear m;go_wp2_with fail;refine(n.out _).mono ?_;rintro e w3⟨rfl,o⟩;have B:=qq (p.out.trans o);clear o;go_wp2;go_ret;exact⟨rfl,B.out⟩
