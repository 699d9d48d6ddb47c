/-
  Has, of package field.
-/
import Derived.Test.YtadobobfjnmdlaaGreatDoorLb
import Derived.Test.YtadobobfjnmdlaaGreatDoorChecked
import Derived.RegionTactic
import Derived.ChangeAlike
set_option linter.unnecessarySimpa false
set_option linter.unusedVariables false
set_option linter.unusedSimpArgs false
set_option maxHeartbeats 16000000
set_option maxRecDepth 100000
open Go.Proofs.Tryz
namespace Go.Proofs.YtadobobfjnmdlaaGreatDoor
open Go.RowKit Go.Shelf
attribute [local go_sem] Oper.semAt_some
theorem xu (l a:List UInt8)(w:World)(hG:G w)(hl:l.length≤4611686018427387904)(hw:a.length≤9223372036854775807) :
  Calls prog 134 #[.string ⟨l.toArray⟩,.string ⟨a.toArray⟩] w λe w'=>e=.returned (.bool (kC l a))∧Gr w w':=by
 refine(callsIn_wide (n:=0)).1 ?_;have a7:∀f,Fence.wide.fn f:=λ_=>trivial;have a6:Fence.wide.depth=none:=rfl;have a1:=qq hG;clear hG;refine callsIn_of_wp_marks func134 rfl trivial ?_ rfl;simp only[ntmps134,List.size_toArray,List.length_cons,List.length_nil,Nat.reduceAdd,Nat.reduceSub,Array.replicate_succ,Array.replicate_zero,List.push_toArray,List.append_toArray,List.nil_append,List.cons_append];gi_wp2_with (gi_at_call 166;refine(callsIn_wide.2 (B6 l _)).mono ?_;rintro e w' ⟨rfl,rfl⟩);obtain⟨w3,i⟩:∃w3,((w.alloc (.cells #[.string ⟨a.toArray⟩] 9)).alloc (.cells #[.bool false] 4)).alloc (.cells #[.string ⟨l.toArray⟩] 9)=w3:=⟨_,rfl⟩;rw[i];have g:=qq (show w3.heap.size=w.heap.size+3 by rw[←i];simp);have c0:w3.cell? ⟨w.heap.size,0,none⟩=some (.string ⟨a.toArray⟩):=by rw[←i];simp[go_sem]
 have c1:w3.cell? ⟨w.heap.size+1,0,none⟩=some (.bool false):=by rw[←i];simp[go_sem]
 have k1:w3.frozen? ⟨w.heap.size+1,0,none⟩=false:=by rw[←i];simp[go_sem]
 have c2:w3.cell? ⟨w.heap.size+1+1,0,none⟩=some (.string ⟨l.toArray⟩):=by rw[←i];simp[go_sem]
 have a3:Gr w w3:=by rw[←i];exact((Gr.alloc w _).alloc1 _).alloc1 _
 clear i;refine nu (gf:=207) rfl (enters_of func207 (by kernel_rfl) rfl) (ze l w3 _ c2 hl) (qv _) (λk j=>⟨by rw[g.out];(try dsimp only at j);omega,rfl⟩) (λ_=>rfl)
  (λm A=>Gr w A∧w3.heap.size≤A.heap.size∧A.cell? ⟨w.heap.size,0,none⟩=some (.string ⟨a.toArray⟩)∧A.cell? ⟨w.heap.size+1,0,none⟩=some (.bool false)∧A.frozen? ⟨w.heap.size+1,0,none⟩=false∧m.any (λp=>an p a)=false)
  (λc m A=>c=.ret∧Gr w A∧A.cell? ⟨w.heap.size+1,0,none⟩=some (.bool true)∧m.any (λp=>an p a)=true) (λk=>k=w.heap.size+1)
  (λk j=>⟨by rw[g.out];(try dsimp only at j);omega,by(try dsimp only at j ⊢);omega⟩) ?hI ?hIx (λ_ _ _=>trivial) ⟨a3,qv _,c0,c1,k1,rfl⟩ ?round ?done ?stop
 case hI =>
  rintro m A B⟨z,X,M,q,P,t⟩ d;replace d:=d.mono (T':=λk=>k=w.heap.size+1+1∨w3.heap.size≤k) (λk j=>j.imp id And.left);have e:=g.out;have hn:∀k,k<w.heap.size+2→¬(k=w.heap.size+1+1∨w3.heap.size≤k):=λk j h=>by omega
  exact⟨z.ch d (λk j=>by omega),qy X d.size,(d.cell (ae M) (hn _ (by(try dsimp only);omega))).trans M,(d.cell (ae q) (hn _ (by(try dsimp only);omega))).trans q,(d.frozen (ae q) (hn _ (by(try dsimp only);omega))).trans P,t⟩
 case hIx =>
  rintro c m A B⟨rfl,z,q,t⟩ d;replace d:=d.mono (T':=λk=>k=w.heap.size+1+1∨w3.heap.size≤k) (λk j=>j.imp id And.left);have e:=g.out;have hn:∀k,k<w.heap.size+2→¬(k=w.heap.size+1+1∨w3.heap.size≤k):=λk j h=>by omega
  exact⟨rfl,z.ch d (λk j=>by omega),(d.cell (ae q) (hn _ (by(try dsimp only);omega))).trans q,t⟩
 case round =>
  intro l' m x rest A a8 b0 U hI;obtain⟨z,X,M,q,P,t⟩:=hI;have a4:x.length≤9223372036854775807:=by
   have:=vL l x (by rw[U];simp);omega
  have a0:=qq t;have e:=g.out;have E:w.heap.size≠l':=by omega
  have F:w.heap.size+1≠l':=by omega
  have L:=qq E;have v:=qq F;have a9:w.heap.size≤l':=by omega
  have a5:w.heap.size<A.heap.size:=by omega
  have V:w.heap.size+1<A.heap.size:=by omega
  clear t e E F U;gi_wp2;refine⟨Ch.refl _ _,λN s=>?_⟩;have d0:N.cell? ⟨w.heap.size,0,none⟩=some (.string ⟨a.toArray⟩):=(s.cell a5 L.out).trans M;have d1:N.cell? ⟨w.heap.size+1,0,none⟩=some (.bool false):=(s.cell V v.out).trans q;have dk:N.frozen? ⟨w.heap.size+1,0,none⟩=false:=(s.frozen V v.out).trans P;have J:Gr w N:=z.ch s (λk j=>by(try dsimp only at j);omega);have S:w3.heap.size≤N.heap.size:=qy X s.size;clear M q P z s;cases ha:an x a;all_goals have H:=qq ha
  all_goals clear ha
  all_goals gi_wp2_with (gi_at_call 133;refine(CallsIn.inRound l' (callsIn_wide.2 (cO x a _ (a1.out.gr J) a4 hw))).mono ?_;rintro e A3 ⟨rfl,C⟩;rw[H.out];have Y:=C.cell d0;have O:=C.cell d1;have Z:=(Below.frozen C (ae d1)).trans dk)
  ·exact⟨C.to_ch _,J.trans C,qy S (Below.size C),Y,O,Z,by rw[List.any_append,a0.out];simp[H.out]⟩
  ·exact⟨(C.to_ch _).trans (Ch.setCell (T:=λk=>k=w.heap.size+1) _ rfl _),rfl,(J.trans C).setCell (by(try dsimp only);omega) _,af O,by rw[List.any_append];simp[H.out]⟩
 case done =>
  rintro D A hD⟨z,X,M,q,P,t⟩ hK;have y:=qq (show kC l a=false from t);have u:D≠w.heap.size+1:=by have:=g.out;omega
  have o:=qq u;clear t u;gi_wp2;have a2:(A.setCell ⟨w.heap.size+1,0,none⟩ (.bool false)).heap[D]?=some (.deferred (some [])):=(Below.heap_setCell _ _ _ _ o.out).trans hK;have I:((A.setCell ⟨w.heap.size+1,0,none⟩ (.bool false)).putObj D (.deferred none)).cell? ⟨w.heap.size+1,0,none⟩=some (.bool false) :=
   (World.cell?_of_block (World.putObj_heap_other (Ne.symm o.out))).trans (af q)
  refine⟨by simp,.inl ⟨_,_,rfl,run_takeDeferred a2,?_⟩⟩;refine⟨.bool false,by simp[results,results134,go_sem,I],by rw[y.out],?_⟩;exact(z.setCell (by(try dsimp only);omega) _).ch (Ch.putObj (T:=λk=>k=D) _ rfl _) (λk j=>by have:=g.out;omega)
 case stop =>
  rintro D c m A hD R⟨rfl,z,q,t⟩ hK;have y:=qq (show kC l a=true from by
   obtain⟨r,hr⟩:=R;unfold kC;rw[←hr,List.any_append,t];rfl)
  have u:D≠w.heap.size+1:=by have:=g.out;omega
  have o:=qq u;clear t u;gi_wp2;have I:(A.putObj D (.deferred none)).cell? ⟨w.heap.size+1,0,none⟩=some (.bool true):=(World.cell?_of_block (World.putObj_heap_other (Ne.symm o.out))).trans q;refine⟨by simp,.inl ⟨_,_,rfl,run_takeDeferred hK,?_⟩⟩;refine⟨.bool true,by simp[results,results134,go_sem,I],by rw[y.out],?_⟩;exact z.ch (Ch.putObj (T:=λk=>k=D) _ rfl _) (λk j=>by have:=g.out;omega)
theorem uE (v:Value)(fs:List Fl)(name r:List UInt8)(n:Nat)(h:bl fs name=(r,n))(w:World)(d:G w)(hf:FieldsAt w v fs)(hn:fs.length≤9223372036854775807)
  (hl:∀f∈fs,f.1.length≤9223372036854775807) (a:name.length≤9223372036854775807) :
  Calls prog 131 #[v,.string ⟨name.toArray⟩] w λe w'=>e=.returned (.tuple #[.string ⟨r.toArray⟩,.int .i64 n])∧Gr w w':=by
 have:=qM v fs name w d hf hn hl a
 rwa [h]at this
theorem ik (a b:List UInt8)(r:Bool)(h:an a b=r)(w:World)(g:G w)(d:a.length≤9223372036854775807)(f:b.length≤9223372036854775807) :
  Calls prog 133 #[.string ⟨a.toArray⟩,.string ⟨b.toArray⟩] w λe w'=>e=.returned (.bool r)∧Gr w w':=h▸cO a b w g d f
theorem qB (l a:List UInt8)(r:Bool)(h:kC l a=r)(w:World)(d:G w)(hl:l.length≤4611686018427387904)(f:a.length≤9223372036854775807) :
  Calls prog 134 #[.string ⟨l.toArray⟩,.string ⟨a.toArray⟩] w λe w'=>e=.returned (.bool r)∧Gr w w':=h▸xu l a w d hl f
def Rp.V (x:Rp)(t:Value):Value:=.agg #[.int .i64 x.code,t,.string ⟨x.b.toArray⟩]
def Rq.V (r:Rq)(s:Value):Value:=.agg #[.string ⟨r.m.toArray⟩,.string ⟨r.p.toArray⟩,.string ⟨r.q.toArray⟩,.int .i64 r.v,s,.string ⟨r.b.toArray⟩,.bool r.c]
def r7:List UInt8:=[48,49,50,51,52,53,54,55,56,57]
theorem BB (c:UInt8):r7.contains c=dQ c:=by
 refine jF (p:=λc=>r7.contains c=dQ c) ?_ c;decide +kernel
theorem xw {α:Type}(p:α→Bool):∀l:List α,(l.dropWhile p).isEmpty=l.all p
 | []=>rfl
 | a :: t=>by
  cases h:p a
  ·simp[List.dropWhile,h]
  ·simp[List.dropWhile,h,xw p t]
theorem BC {α:Type}(p:α→Bool)(l:List α):l.reverse.all p=l.all p:=by simp
theorem xx {α:Type}{p:α→Bool}:∀ {l:List α} {x:α},x∈l.takeWhile p→p x=true
 | a :: t,x,h=>by
  rw[List.takeWhile_cons]at h;split at h
  ·rename_i d;rcases List.mem_cons.1 h with rfl | h
   ·exact d
   ·exact xx h
  ·cases h
theorem uF (l cs:List UInt8):(Lib.trimS l cs).isEmpty=l.all (cs.contains ·):=by
 have e:∀x,(Lib.trimLeftS x cs).isEmpty=x.all (cs.contains ·):=λx=>xw _ x;unfold Lib.trimS;rw[e];have f:Lib.trimRightS l cs=(l.reverse.dropWhile (cs.contains ·)).reverse:=rfl;rw[f,BC,Bool.eq_iff_iff,List.all_eq_true,List.all_eq_true];constructor
 ·intro h x d;have a:x∈l.reverse:=by simpa using d
  rw[←List.takeWhile_append_dropWhile (p:=(cs.contains ·)) (l:=l.reverse),List.mem_append]at a;rcases a with a | a
  ·exact xx a
  ·exact h x a
 ·intro h x d;exact h x (by simpa using(List.dropWhile_sublist _).subset d)
theorem yB (l:List UInt8)(w:World)(hl:l.length≤9223372036854775807) :
  Calls prog 162 #[.string ⟨l.toArray⟩,.string ⟨#[48,49,50,51,52,53,54,55,56,57]⟩] w λe w'=>e=.returned (.string ⟨(Lib.trimS l r7).toArray⟩)∧Gr w w' :=
 Any.strings_Trim_laid lays160 (by kernel_rfl) ⟨l.toArray⟩ ⟨#[48,49,50,51,52,53,54,55,56,57]⟩ w (by rw[aj];exact hl) (by decide) (ascii_of_all (by decide))
def BD (s:List UInt8)(w:World)(e:Ending)(w':World):Prop:=∃(v:Int) (ev:Value),e=.returned (.tuple #[.int .i64 v,ev])∧((ev=.nilIface∧qV s=v)∨((∃N:Nat,ev=.iface 270 (.pointer (some ⟨N,0,none⟩)))∧qV s=4097))∧Gr w w'
theorem yC (l:List UInt8)(hl:l.length≤1000000)(w:World)(i:G w):Calls prog 163 #[.string ⟨l.toArray⟩] w (BD l w):=by
 obtain⟨k,j,hs⟩:=i.syn;obtain⟨e,d,g⟩:=i.rng;cases h:Lib.atoiAll l with
 | ok v=>exact(Tryz.strconv_Atoi_ok ⟨l.toArray⟩ (by rw[aj];omega) v h w).mono λ_ _ ⟨a,m⟩=>⟨v,.nilIface,a,.inl ⟨rfl,by unfold qV;rw[h]⟩,by
   rcases m with rfl | ⟨t,rfl⟩
   ·exact Gr.refl _
   ·exact Lib.bytesWorld_below _ _ _⟩
 | range=>exact(Tryz.strconv_Atoi_range ⟨l.toArray⟩ (by rw[aj];omega) h (.iface e d) w g (.inr ⟨e,d,rfl⟩)).mono λ_ _ ⟨N,a,_,_,f⟩=>⟨_,_,a,.inr ⟨⟨N,rfl⟩,by unfold qV;rw[h]⟩,f⟩
 | _=>exact(Tryz.strconv_Atoi_syntax ⟨l.toArray⟩ (by rw[aj];omega) h (.iface k j) w hs (.inr ⟨k,j,rfl⟩)).mono λ_ _ ⟨N,a,_,_,f⟩=>⟨0,_,a,.inr ⟨⟨N,rfl⟩,by unfold qV;rw[h]⟩,f⟩
theorem yD (l:List UInt8):(bV l).2.1.length≤l.length:=by
 unfold bV;dsimp only;split
 ·have a:=eG l [32];have d:=dY (Lib.cut l [32]).2.1 [32];exact qy d a
 ·simp
def dT (s:List UInt8):Rq×Bool:=(⟨(bV s).1,(cJ (bV s).2.1).1,(cJ (bV s).2.1).2.1,(bV s).2.2.1,[],[],false⟩,(bV s).2.2.2&&(cJ (bV s).2.1).2.2)
theorem yE (s:List UInt8)(w:World)(y:G w)(hl:s.length≤900000) :
  Calls prog 129 #[.string ⟨s.toArray⟩] w λe w'=>e=.returned (.tuple #[(dT s).1.V (.slice none 0 0),.bool (dT s).2])∧Gr w w':=by
 have g:=qq y;obtain⟨⟨m,t,v,ok⟩,i⟩:∃r,bV s=r:=⟨_,rfl⟩;have B:t.length≤s.length:=by have:=yD s;rw[i]at this;exact this
 obtain⟨⟨p,q,u⟩,n⟩:∃r,cJ t=r:=⟨_,rfl⟩;have hF:dT s=(⟨m,p,q,v,[],[],false⟩,ok&&u):=by unfold dT;rw[i];dsimp only;rw[n]
 rw[hF];unfold Rq.V;dsimp only;have j:=qq (λW h=>DY s m t v ok i W h (by omega));have k:=qq (λW h=>zd t p q u n W h (by omega));clear i n hF y;have l:=qq (Gr.alloc w (.cells #[.string ⟨#[]⟩,.string ⟨#[]⟩,.string ⟨#[]⟩,.int .i64 0,.slice none 0 0,.string ⟨#[]⟩,.bool false] 78));have c0:(w.alloc (.cells #[.string ⟨#[]⟩,.string ⟨#[]⟩,.string ⟨#[]⟩,.int .i64 0,.slice none 0 0,.string ⟨#[]⟩,.bool false] 78)).cell? ⟨w.heap.size,0,none⟩=some (.string ⟨#[]⟩):=by simp[go_sem]
 have c1:(w.alloc (.cells #[.string ⟨#[]⟩,.string ⟨#[]⟩,.string ⟨#[]⟩,.int .i64 0,.slice none 0 0,.string ⟨#[]⟩,.bool false] 78)).cell? ⟨w.heap.size,1,none⟩=some (.string ⟨#[]⟩):=by simp[go_sem]
 have c2:(w.alloc (.cells #[.string ⟨#[]⟩,.string ⟨#[]⟩,.string ⟨#[]⟩,.int .i64 0,.slice none 0 0,.string ⟨#[]⟩,.bool false] 78)).cell? ⟨w.heap.size,2,none⟩=some (.string ⟨#[]⟩):=by simp[go_sem]
 have c3:(w.alloc (.cells #[.string ⟨#[]⟩,.string ⟨#[]⟩,.string ⟨#[]⟩,.int .i64 0,.slice none 0 0,.string ⟨#[]⟩,.bool false] 78)).cell? ⟨w.heap.size,3,none⟩=some (.int .i64 0):=by simp[go_sem]
 have c4:(w.alloc (.cells #[.string ⟨#[]⟩,.string ⟨#[]⟩,.string ⟨#[]⟩,.int .i64 0,.slice none 0 0,.string ⟨#[]⟩,.bool false] 78)).cell? ⟨w.heap.size,4,none⟩=some (.slice none 0 0):=by simp[go_sem]
 have c5:(w.alloc (.cells #[.string ⟨#[]⟩,.string ⟨#[]⟩,.string ⟨#[]⟩,.int .i64 0,.slice none 0 0,.string ⟨#[]⟩,.bool false] 78)).cell? ⟨w.heap.size,5,none⟩=some (.string ⟨#[]⟩):=by simp[go_sem]
 have c6:(w.alloc (.cells #[.string ⟨#[]⟩,.string ⟨#[]⟩,.string ⟨#[]⟩,.int .i64 0,.slice none 0 0,.string ⟨#[]⟩,.bool false] 78)).cell? ⟨w.heap.size,6,none⟩=some (.bool false):=by simp[go_sem]
 have f:∀o,(w.alloc (.cells #[.string ⟨#[]⟩,.string ⟨#[]⟩,.string ⟨#[]⟩,.int .i64 0,.slice none 0 0,.string ⟨#[]⟩,.bool false] 78)).frozen? ⟨w.heap.size,o,none⟩=false:=λo=>by simp[go_sem]
 have d:w.heap.size<(w.alloc (.cells #[.string ⟨#[]⟩,.string ⟨#[]⟩,.string ⟨#[]⟩,.int .i64 0,.slice none 0 0,.string ⟨#[]⟩,.bool false] 78)).heap.size:=by simp
 go_enter func129,ntmps129;go_upto_region 1 with(fail);generalize (w.alloc (.cells #[.string ⟨#[]⟩,.string ⟨#[]⟩,.string ⟨#[]⟩,.int .i64 0,.slice none 0 0,.string ⟨#[]⟩,.bool false] 78))=w1 at l c0 c1 c2 c3 c4 c5 c6 f d ⊢;go_wp2_with fail;refine(j.out _ (g.out.gr l.out)).mono ?_;rintro e L⟨rfl,a⟩;replace c0:=a.cell c0;replace c1:=a.cell c1;replace c2:=a.cell c2;replace c3:=a.cell c3;replace c4:=a.cell c4;replace c5:=a.cell c5;replace c6:=a.cell c6;replace f:=λo=>(Below.frozen a (show(⟨w.heap.size,o,none⟩:Addr).block<w1.heap.size from d)).trans (f o);replace d:=qj d (Below.size a);have x:=qq (l.out.trans a);clear a;go_wp2_with fail;refine(k.out _ (g.out.gr x.out)).mono ?_;rintro e w3⟨rfl,a⟩;replace c0:=a.cell c0;replace c1:=a.cell c1;replace c2:=a.cell c2;replace c3:=a.cell c3;replace c4:=a.cell c4;replace c5:=a.cell c5;replace c6:=a.cell c6;replace f:=λo=>(Below.frozen a (show(⟨w.heap.size,o,none⟩:Addr).block<L.heap.size from d)).trans (f o);have A:=qq (x.out.trans a);clear a d;have z:=qq (λC D E F H I J=>(((((((A.out.setCell (p:=⟨w.heap.size,0,none⟩) (qv _) C).setCell (p:=⟨w.heap.size,1,none⟩) (qv _) D).setCell (p:=⟨w.heap.size,2,none⟩) (qv _) E).setCell (p:=⟨w.heap.size,3,none⟩) (qv _) F).setCell (p:=⟨w.heap.size,4,none⟩) (qv _) H).setCell (p:=⟨w.heap.size,5,none⟩) (qv _) I).setCell (p:=⟨w.heap.size,6,none⟩) (qv _) J));cases ok with
 | false =>
  go_wp2;refine bodyPost_ret (v:=.tuple #[.agg #[.string ⟨m.toArray⟩,.string ⟨p.toArray⟩,.string ⟨q.toArray⟩,.int .i64 v,.slice none 0 0,.string ⟨#[]⟩,.bool false],.bool false]) ?_ rfl ⟨rfl,z.out _ _ _ _ _ _ _⟩;simp[results,results129,go_sem,c0,c1,c2,c3,c4,c5,c6]
 | true =>
  go_wp2;refine bodyPost_ret (v:=.tuple #[.agg #[.string ⟨m.toArray⟩,.string ⟨p.toArray⟩,.string ⟨q.toArray⟩,.int .i64 v,.slice none 0 0,.string ⟨#[]⟩,.bool false],.bool u]) ?_ rfl ⟨rfl,z.out _ _ _ _ _ _ _⟩;simp[results,results129,go_sem,c0,c1,c2,c3,c4,c5,c6]
theorem mU {α:Type}{l:List α}{p:α→Bool}{k:Nat}(h:(l.take k).any p=false)(a:k<l.length)(d:p l[k]=false):(l.take (k+1)).any p=false:=by
 rw[List.take_succ_eq_append_getElem a,List.any_append,h,List.any_cons,d];rfl
theorem ET {α:Type}{l:List α}{p:α→Bool}{k:Nat}(a:k<l.length)(d:p l[k]=true):l.any p=true:=by
 rw[List.any_eq_true];exact⟨_,List.getElem_mem a,d⟩
theorem uG (fs:List Fl)(t:Value)(w:World)(hG:G w)(hf:FieldsAt w t fs)(hn:fs.length≤100000)(hs:∀f∈fs,f.1.length≤900000∧f.2.length≤900000) :
  Calls prog 132 #[t] w λe w'=>e=.returned (.int .i64 (bS fs))∧Gr w w':=by
 have O:=qq hG;have y:=qq (qM t fs eu w hG hf (by omega) (λf hm=>by have:=hs f hm;omega) (by decide));obtain⟨p,cap,rfl,hc⟩:=hf;have a4:=qq hc;have a6:=qq hs;have a0:(bl fs eu).1.length≤900000:=by
  unfold bl;cases hx:(fs.filter λf=>an f.1 eu)with
  | nil=>simp
  | cons a b =>
   have hm:a∈fs:=(List.mem_filter.1 (hx▸List.mem_cons_self:a∈fs.filter λf=>an f.1 eu)).1;simpa using(hs a hm).2
 have hL:bS fs=if fs.any (λf=>an f.1 eu&&f.2 != (bl fs eu).1) then -1 else if (bl fs eu).2=0 then 0 else if (bl fs eu).1.isEmpty||!(bl fs eu).1.all CA then -1 else qV (bl fs eu).1:=rfl;obtain⟨⟨d,A⟩,U⟩:∃x,bl fs eu=x:=⟨_,rfl⟩;rw[U]at y hL a0;dsimp only at y hL a0;have P:=qq hL;clear hc hs U hL hG;go_enter func132,ntmps132;go_wp2_with fail;refine y.out.mono ?_;rintro e w1⟨rfl,m⟩;have g1:=qq m;clear m;go_wp2;go_loopw [16] (λi W=>∃k:Nat,k≤fs.length∧i=.int .i64 k∧(fs.take k).any (λf=>an f.1 eu&&f.2 != d)=false∧Gr w W) (λi _=>fs.length - (intOf i).toNat)
 case atStart=>exact⟨0,qx _,rfl,rfl,g1.out⟩
 case round =>
  obtain⟨k,hk,rfl,D,T⟩:=hrel;have s:=qq D;have u:=qq T;clear D;by_cases B:k<fs.length
  ·obtain⟨b,off,rfl,h1,h2⟩:=a4.out k B;have d1:=T.cell h1;have d2:=T.cell h2;have a2:=a6.out _ (List.getElem_mem B);have o:=qq (λh=>@ET _ fs (λf=>an f.1 eu&&f.2 != d) k B h);have j:=qq (λh=>@mU _ fs (λf=>an f.1 eu&&f.2 != d) k s.out B h);obtain⟨⟨C,E⟩,hx⟩:∃x,fs[k]=x:=⟨_,rfl⟩;rw[hx]at d1 d2 a2 o j;dsimp only at d1 d2 a2 o j;have a5:(k:Int)<fs.length:=(by omega);have q1:=qq (λW H=>cO C eu W H (by omega) (by decide));obtain⟨a1,S⟩:∃a,an C eu=a:=⟨_,rfl⟩;rw[S]at q1 o j;clear S hx h1 h2 T;have y0:(wr.alloc (.cells #[.string ⟨C.toArray⟩,.string ⟨E.toArray⟩] 80)).cell? ⟨wr.heap.size,0,none⟩=some (.string ⟨C.toArray⟩):=aa wr [.string ⟨C.toArray⟩,.string ⟨E.toArray⟩] _ 0 _ rfl;have y1:(wr.alloc (.cells #[.string ⟨C.toArray⟩,.string ⟨E.toArray⟩] 80)).cell? ⟨wr.heap.size,1,none⟩=some (.string ⟨E.toArray⟩):=aa wr [.string ⟨C.toArray⟩,.string ⟨E.toArray⟩] _ 1 _ rfl;have gx:=Gr.alloc wr (.cells #[.string ⟨C.toArray⟩,.string ⟨E.toArray⟩] 80);go_upto_region 5 with(fail);generalize wr.alloc (.cells #[.string ⟨C.toArray⟩,.string ⟨E.toArray⟩] 80)=w2 at y0 y1 gx ⊢;have F:=qq (u.out.trans gx);clear gx d1 d2;go_wp2_with fail;refine(q1.out _ (O.out.gr F.out)).mono ?_;rintro e w3⟨rfl,m⟩;replace y1:=m.cell y1;have M:=qq (F.out.trans m);clear m y0;cases a1 with
   | false =>
    have J:=qq (j.out rfl);go_wp2;go_roundw
    case rel=>exact⟨k+1,by omega,by go_num,J.out,M.out⟩
    case measure=>simp[intOf];omega
   | true =>
    cases r:(E==d)
    case true =>
     have J:=qq (j.out (by rw[beq_iff_eq]at r;rw[r];simp));rw[beq_iff_eq]at r;subst r;go_wp2;go_roundw
     case rel=>exact⟨k+1,by omega,by go_num,J.out,M.out⟩
     case measure=>simp[intOf];omega
    case false =>
     have g:=qq (show bS fs = -1 by rw[P.out,o.out (by rw[bne,r];rfl)];rfl);go_wp2;go_ret;exact⟨by rw[g.out];rfl,M.out⟩
  ·have V:k=fs.length:=(by omega);have a5:¬(k:Int)<fs.length:=(by omega);have R:bS fs=if A=0 then 0 else if d.isEmpty||!d.all CA then -1 else qV d:=by
    rw[P.out];have h9:=s.out;rw[V,List.take_length]at h9;rw[h9];rfl
   have n:=qq R;clear R V T;by_cases l:A=0
   ·have g:=qq (show bS fs=0 by rw[n.out,if_pos l]);subst l;go_wp2;go_ret;exact⟨by rw[g.out];rfl,u.out⟩
   ·have a7:((A:Int)==0)=false:=qk.2 (by omega);cases Z:d.isEmpty with
    | true =>
     have g:=qq (show bS fs = -1 by rw[n.out,if_neg l,Z];rfl);clear l;go_wp2;go_ret;exact⟨by rw[g.out];rfl,u.out⟩
    | false =>
     have ht:=qq (λW=>yB d W (by omega));have z:(Lib.trimS d r7).isEmpty=d.all CA:=by
      rw[uF];congr 1;funext c;exact BB c
     obtain⟨tt,L⟩:∃x,Lib.trimS d r7=x:=⟨_,rfl⟩;rw[L]at ht z;have Y:=L;clear L Y;cases q:d.all CA with
     | false =>
      have g:=qq (show bS fs = -1 by rw[n.out,if_neg l,q,Bool.or_comm];rfl);have X:tt.isEmpty=false:=z.trans q;clear l z q;go_wp2_with fail;refine(ht.out _).mono ?_;rintro e w2⟨rfl,m⟩;have F:=qq (u.out.trans m);clear m;go_wp2;go_ret;exact⟨by rw[g.out];rfl,F.out⟩
     | true =>
      have g:=qq (show bS fs=qV d by rw[n.out,if_neg l,Z,q];rfl);have X:tt=[]:=(by simpa using z.trans q);subst X;have a3:=qq (λW H=>yC d (by omega) W H);clear l z q;go_wp2_with fail;refine(ht.out _).mono ?_;rintro e w2⟨rfl,m⟩;have F:=qq (u.out.trans m);clear m;go_wp2_with fail;refine(a3.out _ (O.out.gr F.out)).mono ?_;rintro e w3⟨v,ev,rfl,r,m⟩;have M:=qq (F.out.trans m);clear m;rcases r with⟨rfl,r⟩ | ⟨⟨N,rfl⟩,r⟩
      ·have I:=qq (g.out.trans r);clear r;go_wp2;go_ret;exact⟨by rw[I.out];rfl,M.out⟩
      ·have I:=qq (g.out.trans r);clear r;go_wp2;go_ret;exact⟨by rw[I.out];rfl,M.out⟩
theorem la (c:UInt8)(h:dM c=true):(48≤(c.toNat:Int)∧(c.toNat:Int)≤57∧(lB c:Int)=(c.toNat:Int) - 48)∨(58≤(c.toNat:Int)∧(c.toNat:Int)≠95∧10≤lB c∧lB c≤15∧bits .or .u8 (c.toNat:Int) 32=((lB c+87:Nat):Int)):=by
 revert h;refine jF (p:=λc=>dM c=true→(48≤(c.toNat:Int)∧(c.toNat:Int)≤57∧(lB c:Int)=(c.toNat:Int) - 48)∨(58≤(c.toNat:Int)∧(c.toNat:Int)≠95∧10≤lB c∧lB c≤15∧bits .or .u8 (c.toNat:Int) 32=((lB c+87:Nat):Int))) ?_ c;decide +kernel
theorem DN (c:UInt8)(h:dM c=true):lB c≤15:=by
 rcases la c h with⟨_,_,h⟩ | ⟨_,_,_,h,_⟩ <;> omega
theorem pl (l:List UInt8)(c:UInt8):hZ (l++[c])=16*hZ l+lB c:=by simp[hZ]
theorem qC:∀(n:Nat) (l:List UInt8),l.length=n→l.all dM=true→hZ l<16 ^ n
 | 0,l,h,_=>by rw[List.length_eq_zero_iff.1 h];decide
 | n+1,l,h,ha=>by
  have a:l≠[]:=λe=>by rw[e]at h;cases h
  rw[←List.dropLast_concat_getLast a,pl];have f:=qC n l.dropLast (by rw[List.length_dropLast];omega) (by
   rw[List.all_eq_true]at ha ⊢;exact λx d=>ha x (List.dropLast_subset _ d))
  have g:=DN (l.getLast a) (List.all_eq_true.1 ha _ (List.getLast_mem a));rw[Nat.pow_succ];omega
theorem yF (l:List UInt8)(h0:l≠[])(h8:l.length≤8)(C:l.all dM=true)(w:World) :
  Calls prog 260 #[.string ⟨l.toArray⟩,.int .i64 16,.int .i64 64] w λe w'=>e=.returned (.tuple #[.int .u64 (hZ l),.nilIface])∧Gr w w':=by
 have I:∀W:World,(convert 9 100 (.string ⟨l.toArray⟩)).run prog W=.ok (.slice (some ⟨W.heap.size,0,none⟩) (ByteArray.size ⟨l.toArray⟩) (grownCap W (ByteArray.size ⟨l.toArray⟩) 0 5)) (Lib.bytesWorld W 5 ⟨l.toArray⟩):=λW =>
  Lib.run_convert_string_bytes W _ _ 5 _ underlying9 underlying100 underlying5
 have R:l.isEmpty=false:=by simpa using h0
 have B:=qq C;clear C;go_enter func260,ntmps260;go_wp2_with fail;obtain⟨cap,h⟩:∃cap,grownCap w l.length 0 5=cap:=⟨_,rfl⟩;have a:∀j,(L:j<l.length)→(Lib.bytesWorld w 5 ⟨l.toArray⟩).cell? ⟨w.heap.size,j,none⟩=some (.int .u8 (l[j].toNat:Int)):=λj L=>by
  rw[Lib.bytesWorld_cell _ _ _ _ (by rw[aj];exact L)];simp[List.getD,L]
 have z:Gr w (Lib.bytesWorld w 5 ⟨l.toArray⟩):=Lib.bytesWorld_below _ _ _;obtain⟨W0,r⟩:∃W0,Lib.bytesWorld w 5 ⟨l.toArray⟩=W0:=⟨_,rfl⟩;rw[r]at a z ⊢;rw[h];have f:=qq a;obtain⟨E,t⟩:∃E:Int,(1152921504606846976:Int)=E:=⟨_,rfl⟩;obtain⟨M,o⟩:∃M:Int,IntKind.u64.wrap (IntKind.u64.wrap 18446744073709551616 - 1)=M:=⟨_,rfl⟩;have O:5000000000<E:=by omega
 have S:5000000000<M:=by rw[←o];decide +kernel
 rw[t,o];clear I r h a t o;go_loop [12,13,101] (λu n i=>∃k:Nat,k≤l.length∧u=.bool false∧n=.int .u64 (hZ (l.take k))∧i=.int .i64 k) (λ_ _ i=>l.length - (intOf i).toNat)
 case atStart=>exact⟨0,qx _,rfl,rfl,rfl⟩
 case round =>
  obtain⟨k,hk,rfl,rfl,rfl⟩:=hrel;by_cases m:k<l.length
  ·have H:=f.out k m;have q:=List.all_eq_true.1 B.out l[k] (List.getElem_mem m);have U:=qC k (l.take k) (by rw[List.length_take];omega) (by
    rw[List.all_eq_true];exact λx C=>List.all_eq_true.1 B.out x (List.mem_of_mem_take C))
   have s:hZ (l.take k)≤268435455:=by
    have:16 ^ k≤16 ^ 7:=Nat.pow_le_pow_right (by decide) (by omega);have e:(16:Nat) ^ 7=268435456:=rfl;omega
   have hs:=qq (show hZ (l.take (k+1))=16*hZ (l.take k)+lB l[k] by rw[List.take_succ_eq_append_getElem m,pl]);obtain⟨n,hn⟩:∃n,hZ (l.take k)=n:=⟨_,rfl⟩;obtain⟨c,F⟩:∃c,l[k]=c:=⟨_,rfl⟩;have p:=hs.out;rw[hn,F]at p;rw[hn]at s ⊢;rw[F]at H q;have A:=qq p;have v:=la c q;obtain⟨d,J⟩:∃d,lB c=d:=⟨_,rfl⟩;rw[J]at v;have y:=qq J;have V:(n:Int)≤268435455:=(by omega);clear hs p U hn F q J s;rcases v with⟨a1,a2,a3⟩ | ⟨a1,a2,a3,a4,N⟩
   ·have a4:((c.toNat:Int)==95)=false:=qk.2 (by omega);have D:=qq a3;clear a3;go_wp2;go_round
    case rel=>exact⟨k+1,by omega,rfl,by rw[A.out,y.out];have:=D.out;go_num,by go_num⟩
    case measure=>simp[intOf];omega
   ·have Z:((c.toNat:Int)==95)=false:=qk.2 a2;have g:=qq (λW=>(Tryz.internal_strconv_lower (c.toNat:Int) W).mono (λe w' ⟨R,Y⟩=>(show e=Ending.returned (.int .u8 ((d+87:Nat):Int))∧W=w' from⟨by rw[R,N],Y.symm⟩)));have X:(d:Int)≤15:=(by omega);have P:10≤(d:Int):=(by omega);clear a2 N;go_wp2_with fail;refine(g.out _).mono ?_;rintro e T⟨rfl,rfl⟩;go_wp2_with fail;refine(g.out _).mono ?_;rintro e T⟨rfl,rfl⟩;go_wp2_with fail;refine(g.out _).mono ?_;rintro e T⟨rfl,rfl⟩;go_wp2;go_round
    case rel=>exact⟨k+1,by omega,rfl,by rw[A.out,y.out];go_num,by go_num⟩
    case measure=>simp[intOf];omega
  ·obtain rfl:k=l.length:=(by omega);rw[List.take_length];go_wp2;go_ret2;exact⟨rfl,z⟩
structure Rd (b:Nat)(W:World)(c:Ck)(lv dv:Value):Prop where
 c0:W.cell? ⟨b,0,none⟩=some (.int .i64 c.st)
 c1:W.cell? ⟨b,1,none⟩=some lv
 c2:W.cell? ⟨b,2,none⟩=some (.int .i64 c.left)
 c3:W.cell? ⟨b,3,none⟩=some dv
 c4:W.cell? ⟨b,4,none⟩=some (.int .i64 c.nf)
 c5:W.cell? ⟨b,5,none⟩=some (.int .i64 c.tail)
 c6:W.cell? ⟨b,6,none⟩=some (.int .i64 c.bad)
 fz:∀o,W.frozen? ⟨b,o,none⟩=false
 l:OwnB (b+1) W lv c.line
 d:OwnB (b+1) W dv c.data
 ne:∀k,lv.ownBlock=some k→dv.ownBlock=some k→False
def Fp (b:Nat)(lv dv:Value)(k:Nat):Prop:=k=b∨lv.ownBlock=some k∨dv.ownBlock=some k
theorem Rd.lt {b:Nat}{W:World}{c:Ck}{lv dv:Value}(h:Rd b W c lv dv):b<W.heap.size:=ae h.c0
theorem Rd.fp_lt {b:Nat}{W:World}{c:Ck}{lv dv:Value}(h:Rd b W c lv dv)(k:Nat)(a:Fp b lv dv k):b≤k∧k<W.heap.size:=by
 rcases a with rfl | a | a
 ·exact⟨qv _,h.lt⟩
 ·have:=h.l.lt k a;omega
 ·have:=h.d.lt k a;omega
theorem Rd.ch {b:Nat}{W i:World}{c:Ck}{lv dv:Value}{T:Nat→Prop}(h:Rd b W c lv dv)(r:Ch T W i)(q:∀k,T k→¬Fp b lv dv k):Rd b i c lv dv:=by
 have j:¬T b:=λe=>q b e (.inl rfl);have cell:∀ {o v},W.cell? ⟨b,o,none⟩=some v→i.cell? ⟨b,o,none⟩=some v:=fun {o v} a=>(r.cell (p:=⟨b,o,none⟩) h.lt j).trans a;have row:∀ {v l},OwnB (b+1) W v l→(∀k,v.ownBlock=some k→¬T k)→OwnB (b+1) i v l:=fun {v l} a hn=>by
  obtain⟨w,n⟩:=a;refine⟨w,?_⟩;rcases n with n | ⟨g,cap,m,rfl,j,a,u,hm,s,f⟩
  ·exact .inl n
  ·exact .inr ⟨g,cap,m,rfl,j,r.get a (hn g rfl),u,hm,s,f⟩
 exact⟨cell h.c0,cell h.c1,cell h.c2,cell h.c3,cell h.c4,cell h.c5,cell h.c6,λo=>(r.frozen (p:=⟨b,o,none⟩) h.lt j).trans (h.fz o),
  row h.l (λk t f=>q k f (.inr (.inl t))),row h.d (λk t f=>q k f (.inr (.inr t))),h.ne⟩
theorem Rd.gr {b:Nat}{W a:World}{c:Ck}{lv dv:Value}(h:Rd b W c lv dv)(d:Gr W a):Rd b a c lv dv:=h.ch (d.to_ch (λ_=>False)) (λ_ h=>h.elim)
def RdPost (b:Nat)(lv dv:Value)(W:World)(c':Ck)(W':World):Prop :=
 ∃lv' dv',Rd b W' c' lv' dv'∧Ch (Fp b lv dv) W W'∧∀k,Fp b lv' dv' k→Fp b lv dv k∨W.heap.size≤k
theorem lc {P:Program}(w:World)(base:Nat)(t u y e:TypeId)(i:TypeInfo)(A:P.underlying t=some (.slice e))(B:P.underlying u=some .string)(hi:P.info? e=some i)(F:i.zero=some (.int .u8 0))
  (a:i.size=1) (l:i.bytes=1) (v:Value) (n:Nat) (xs:List Value) (d:w.ownsRow base e 1 v n xs) (s:ByteArray)
  (x:n+s.size≤maxLen) (h:n+s.size≤140737488355328) (k:base≤w.heap.size) :
  ∃q w',(Builtin.append_ #[t,u] y #[v,.string s]).run P w=.ok q w'∧w'.ownsRow base e 1 q (n+s.size) (xs++Lib.strCells s)∧w.grownBy w' v.ownBlock∧(q.ownBlock=v.ownBlock∨q.ownBlock=some w.heap.size):=by
 obtain⟨q,w',o,I,J,L⟩:=Lib.run_append_own_string (P:=P) w base t u y e i A B hi F a l v n xs d s x h k;refine⟨q,w',o,I,J,?_⟩;have z:n+s.size≤9223372036854775807:=by simp only[maxLen]at x;omega
 have E:xs.length=n:=by simpa using d.1
 rcases d.2 with⟨rfl,rfl⟩ | ⟨g,cap,r,rfl,M,O,R,N,C,D⟩
 ·by_cases hm:s.size=0
  ·rw[L.2 ⟨rfl,hm⟩];exact .inl rfl
  ·have f:=run_append_nil_string (P:=P) w t u y e i (.int .u8 0) A B hi F s (by omega) (by omega) (by rw[l];omega);rw[f]at o;injection o with e1 _;rw[←e1];exact .inr rfl
 ·by_cases p:n+s.size≤cap
  ·have H:r.size=cap:=(by simpa using C);have f:=Lib.run_append_room_string (P:=P) w t u y e i A B hi a g n cap r O s p (by omega);rw[f]at o;injection o with e1 _;rw[←e1];exact .inl rfl
  ·have m:∀j u,xs[j]?=some u→w.cell? ((⟨g,0,none⟩:Addr).add j)=some u:=d.cells (g:=g) rfl;have f:=Lib.run_append_grow_string (P:=P) w t u y e i (.int .u8 0) A B hi F ⟨g,0,none⟩ n cap xs (by rw[a];simpa using E) m s (by omega) (by omega) (by rw[l];exact growslice_fits (by omega) (by omega));rw[f]at o;injection o with e1 _;rw[←e1];exact .inr rfl
theorem cy {b i:Nat}{W:World}{u v:Value}{l:List UInt8}(h:OwnB (b+1) W v l):OwnB (b+1) (W.setCell ⟨b,i,none⟩ u) v l :=
 nQ h (Ch.setCell (T:=λk=>k=b) W (a:=⟨b,i,none⟩) rfl u) (λk d=>by(try dsimp only at d);omega)
section
variable {b:Nat} {W:World} {c:Ck} {lv dv:Value}
theorem Rd.set0 (h:Rd b W c lv dv)(n:Nat):Rd b (W.setCell ⟨b,0,none⟩ (.int .i64 n)) { c with st:=n } lv dv :=
 ⟨af h.c0,ac h.c1 (by decide),ac h.c2 (by decide),ac h.c3 (by decide),ac h.c4 (by decide),ac h.c5 (by decide),ac h.c6 (by decide),λo=>ag.trans (h.fz o),cy h.l,cy h.d,h.ne⟩
theorem Rd.set2 (h:Rd b W c lv dv)(n:Nat):Rd b (W.setCell ⟨b,2,none⟩ (.int .i64 n)) { c with left:=n } lv dv :=
 ⟨ac h.c0 (by decide),ac h.c1 (by decide),af h.c2,ac h.c3 (by decide),ac h.c4 (by decide),ac h.c5 (by decide),ac h.c6 (by decide),λo=>ag.trans (h.fz o),cy h.l,cy h.d,h.ne⟩
theorem Rd.set4 (h:Rd b W c lv dv)(n:Nat):Rd b (W.setCell ⟨b,4,none⟩ (.int .i64 n)) { c with nf:=n } lv dv :=
 ⟨ac h.c0 (by decide),ac h.c1 (by decide),ac h.c2 (by decide),ac h.c3 (by decide),af h.c4,ac h.c5 (by decide),ac h.c6 (by decide),λo=>ag.trans (h.fz o),cy h.l,cy h.d,h.ne⟩
theorem Rd.set5 (h:Rd b W c lv dv)(n:Nat):Rd b (W.setCell ⟨b,5,none⟩ (.int .i64 n)) { c with tail:=n } lv dv :=
 ⟨ac h.c0 (by decide),ac h.c1 (by decide),ac h.c2 (by decide),ac h.c3 (by decide),ac h.c4 (by decide),af h.c5,ac h.c6 (by decide),λo=>ag.trans (h.fz o),cy h.l,cy h.d,h.ne⟩
theorem Rd.set6 (h:Rd b W c lv dv)(n:Nat):Rd b (W.setCell ⟨b,6,none⟩ (.int .i64 n)) { c with bad:=n } lv dv :=
 ⟨ac h.c0 (by decide),ac h.c1 (by decide),ac h.c2 (by decide),ac h.c3 (by decide),ac h.c4 (by decide),ac h.c5 (by decide),af h.c6,λo=>ag.trans (h.fz o),cy h.l,cy h.d,h.ne⟩
theorem Rd.set1 (h:Rd b W c lv dv){a:Value}{l':List UInt8}(hl:OwnB (b+1) W a l')(e:∀k,a.ownBlock=some k→dv.ownBlock=some k→False):Rd b (W.setCell ⟨b,1,none⟩ a) { c with line:=l' } a dv :=
 ⟨ac h.c0 (by decide),af h.c1,ac h.c2 (by decide),ac h.c3 (by decide),ac h.c4 (by decide),ac h.c5 (by decide),ac h.c6 (by decide),λo=>ag.trans (h.fz o),cy hl,cy h.d,e⟩
theorem bK (W:World)(i:Nat)(v:Value):Ch (Fp b lv dv) W (W.setCell ⟨b,i,none⟩ v):=Ch.setCell W (a:=⟨b,i,none⟩) (.inl rfl) v
theorem RdPost.of {a:World}{c1:Ck}(h:Rd b a c1 lv dv)(d:Ch (Fp b lv dv) W a):RdPost b lv dv W c1 a:=⟨lv,dv,h,d,λ_ e=>.inl e⟩
theorem RdPost.after {l W2:World}{c2:Ck}{f d:Value}(a:Ch (Fp b lv dv) W l)(hs:∀k,Fp b f d k→Fp b lv dv k∨W.heap.size≤k)(k:RdPost b f d l c2 W2):RdPost b lv dv W c2 W2:=by
 obtain⟨i,g,k1,k2,k3⟩:=k;have m:=a.size;refine⟨i,g,k1,?_,λj h=>?_⟩
 ·refine⟨k2.os.trans a.os,k2.tape.trans a.tape,k2.output.trans a.output,qy a.size k2.size,λj h hn=>?_⟩;exact(k2.block j (by omega) (λe=>(hs j e).elim hn (by omega))).trans (a.block j h hn)
 ·rcases k3 j h with e | e
  ·exact hs j e
  ·exact .inr (by omega)
theorem bA (k:Nat)(h:Fp b lv dv k):Fp b lv dv k∨W.heap.size≤k:=.inl h
theorem uH (k:Nat)(h:Fp b (.slice none 0 0) dv k):Fp b lv dv k∨W.heap.size≤k:=by
 rcases h with h | h | h
 ·exact .inl (.inl h)
 ·cases h
 ·exact .inl (.inr (.inr h))
end
theorem bt (b:Nat)(c:Ck)(code:Nat)(lv dv:Value)(W:World)(h:Rd b W c lv dv) :
  Calls prog 167 #[.pointer (some ⟨b,0,none⟩),.int .i64 code] W λe a=>e=.returned (.tuple #[])∧RdPost b lv dv W (bC c code) a:=by
 have d:=qq h;have c0:=h.c0;have c6:=h.c6;have f:=h.fz 0;have g:=h.fz 6;clear h;go_enter func167,ntmps167;go_wp2;go_end0;exact⟨rfl,RdPost.of ((d.out.set0 4).set6 code) ((bK _ _ _).trans (bK _ _ _))⟩
