/-
  The document's frames read. (Printed by mk_fb.py.)
-/
import Derived.Test.YtadobobfjnmdlaaGreatDoorFa
import Derived.Test.YtadobobfjnmdlaaGreatDoorP65
import Derived.Deep.CutBlock
set_option linter.unnecessarySimpa false
set_option linter.unusedVariables false
set_option linter.unusedSimpArgs false
set_option maxHeartbeats 16000000
set_option maxRecDepth 100000
open Go.Proofs.Tryz
namespace Go.Proofs.YtadobobfjnmdlaaGreatDoor
open Go.RowKit Go.Shelf
attribute [local go_sem] Oper.semAt_some
def rfV (op:Nat)(s:List UInt8):Value:=.agg #[.bool true,.int .i64 0,.int .i64 op,.bool false,.int .u8 0,.int .u8 0,.int .u8 0,.int .u8 0,.string ⟨s.toArray⟩]
theorem rX {o:Oper}{a:Act}{W:World}{p op:Nat}{s:List UInt8}(i j:Operand)(h:o.op=.store 56 i j)(hi:a.eval i=.pointer (some ⟨p,0,none⟩))(d:a.eval j=.agg #[.bool true,.int .i64 0,.int .i64 op,.bool false,.int .u8 0,.int .u8 0,.int .u8 0,.int .u8 0,.string ⟨s.toArray⟩])(b:W.heap[p]?=some (.cells #[.bool false,.int .i64 0,.int .i64 0,.bool false,.int .u8 0,.int .u8 0,.int .u8 0,.int .u8 0,.string ⟨#[]⟩] 56)) :
  ∃c,(execOp a.eval o).run prog W=.ok .skip c∧Ch (λk=>k=p) W c∧c.heap[p]?=some (.cells #[.bool true,.int .i64 0,.int .i64 op,.bool false,.int .u8 0,.int .u8 0,.int .u8 0,.int .u8 0,.string ⟨s.toArray⟩] 56):=by
 obtain⟨dst,E,type,v,after,guard⟩:=o;simp only at h;subst h;have w:W.cell? ⟨p,0,none⟩=some (.bool false):=by simp[World.cell?,b]
 have x:W.cell? ⟨p,1,none⟩=some (.int .i64 0):=by simp[World.cell?,b]
 have y:W.cell? ⟨p,2,none⟩=some (.int .i64 0):=by simp[World.cell?,b]
 have z:W.cell? ⟨p,3,none⟩=some (.bool false):=by simp[World.cell?,b]
 have A:W.cell? ⟨p,4,none⟩=some (.int .u8 0):=by simp[World.cell?,b]
 have B:W.cell? ⟨p,5,none⟩=some (.int .u8 0):=by simp[World.cell?,b]
 have C:W.cell? ⟨p,6,none⟩=some (.int .u8 0):=by simp[World.cell?,b]
 have D:W.cell? ⟨p,7,none⟩=some (.int .u8 0):=by simp[World.cell?,b]
 have u8:W.cell? ⟨p,8,none⟩=some (.string ⟨#[]⟩):=by simp[World.cell?,b]
 have e:W.frozen? ⟨p,0,none⟩=false:=by simp[World.frozen?,b]
 have f:W.frozen? ⟨p,1,none⟩=false:=by simp[World.frozen?,b]
 have g:W.frozen? ⟨p,2,none⟩=false:=by simp[World.frozen?,b]
 have l:W.frozen? ⟨p,3,none⟩=false:=by simp[World.frozen?,b]
 have m:W.frozen? ⟨p,4,none⟩=false:=by simp[World.frozen?,b]
 have n:W.frozen? ⟨p,5,none⟩=false:=by simp[World.frozen?,b]
 have q:W.frozen? ⟨p,6,none⟩=false:=by simp[World.frozen?,b]
 have r:W.frozen? ⟨p,7,none⟩=false:=by simp[World.frozen?,b]
 have t:W.frozen? ⟨p,8,none⟩=false:=by simp[World.frozen?,b]
 refine⟨((((((((W.setCell ⟨p,0,none⟩ (.bool true)).setCell ⟨p,1,none⟩ (.int .i64 0)).setCell ⟨p,2,none⟩ (.int .i64 op)).setCell ⟨p,3,none⟩ (.bool false)).setCell ⟨p,4,none⟩ (.int .u8 0)).setCell ⟨p,5,none⟩ (.int .u8 0)).setCell ⟨p,6,none⟩ (.int .u8 0)).setCell ⟨p,7,none⟩ (.int .u8 0)).setCell ⟨p,8,none⟩ (.string ⟨s.toArray⟩),?_,?_,?_⟩
 ·obtain⟨ρ,u⟩:∃ρ,a.eval=ρ:=⟨_,rfl⟩;rw[u]at hi d ⊢;simp[go_sem,hi,d,w,e,x,f,y,g,z,l,A,m,B,n,C,q,D,r,u8,t]
 ·exact Ch.trans (Ch.trans (Ch.trans (Ch.trans (Ch.trans (Ch.trans (Ch.trans (Ch.trans (Ch.setCell (T:=λk=>k=p) _ (a:=⟨p,0,none⟩) rfl _) (Ch.setCell (T:=λk=>k=p) _ (a:=⟨p,1,none⟩) rfl _)) (Ch.setCell (T:=λk=>k=p) _ (a:=⟨p,2,none⟩) rfl _)) (Ch.setCell (T:=λk=>k=p) _ (a:=⟨p,3,none⟩) rfl _)) (Ch.setCell (T:=λk=>k=p) _ (a:=⟨p,4,none⟩) rfl _)) (Ch.setCell (T:=λk=>k=p) _ (a:=⟨p,5,none⟩) rfl _)) (Ch.setCell (T:=λk=>k=p) _ (a:=⟨p,6,none⟩) rfl _)) (Ch.setCell (T:=λk=>k=p) _ (a:=⟨p,7,none⟩) rfl _)) (Ch.setCell (T:=λk=>k=p) _ (a:=⟨p,8,none⟩) rfl _)
 ·have hl:=(Array.getElem?_eq_some_iff.1 b).1;simp only[World.setCell,Array.getElem?_modify,if_true,b,Option.map_some];rfl
theorem qs {o:Oper}{a:Act}{W2:World}{p op:Nat}{s:List UInt8}(i j:Operand)(h:o.op=.store 56 i j)(hi:a.eval i=.pointer (some ⟨p,0,none⟩))(e:a.eval j=.agg #[.bool true,.int .i64 0,.int .i64 op,.bool false,.int .u8 0,.int .u8 0,.int .u8 0,.int .u8 0,.string ⟨s.toArray⟩]) :
  kZ prog (λc=>Ch (λk=>k=p) W2 c) p (.cells #[.bool false,.int .i64 0,.int .i64 0,.bool false,.int .u8 0,.int .u8 0,.int .u8 0,.int .u8 0,.string ⟨#[]⟩] 56) (.cells #[.bool true,.int .i64 0,.int .i64 op,.bool false,.int .u8 0,.int .u8 0,.int .u8 0,.int .u8 0,.string ⟨s.toArray⟩] 56) o a:=λV d f=>by
 obtain⟨b,e1,e2,e3⟩:=rX (W:=V) i j h hi e f;exact⟨b,e1,d.trans e2,e3⟩
theorem mT (op n:Nat)(s l:List UInt8)(W:World)(hs:s.length≤65535)(hn:n≤10)(hl:l.length=s.length+n)(hd:l.drop n=s)
  (hh:∀W,Calls prog 57 #[.string ⟨l.toArray⟩] W λe w'=>e=.returned (.tuple #[rU op s.length,.int .i64 n,.bool true])∧Gr W w') :
  Calls prog 28 #[.string ⟨l.toArray⟩] W λe w'=>e=.returned (.tuple #[rfV op s,.int .i64 l.length,.int .i64 0])∧Gr W w':=by
 have r:=qq hh;have k1:¬(2147483647:Int)<s.length:=by omega
 have k2:¬(l.length:Int) - n<s.length:=by omega
 have k3:IntKind.i64.wrap ((l.length:Int) - n)=(l.length:Int) - n:=IntWalk.i64_in _ (by omega);have k4:IntKind.i64.wrap (s.length:Int)=s.length:=IntWalk.i64_in _ (by omega);have k5:(n:Int)+s.length=l.length:=by omega
 have k6:IntKind.i64.wrap (l.length:Int)=l.length:=IntWalk.i64_in _ (by omega);have k7:(n:Int)≤l.length:=by omega
 have hx:(⟨l.toArray⟩:ByteArray).extract n l.length=⟨s.toArray⟩:=by rw[av,←hd];simp
 have B:=qq (show s.length≤100000 by omega);unfold rU at r;clear hh hl hd;go_enter func28,ntmps28;go_wp2_with fail;refine(r.out _).mono ?_;rintro e d⟨rfl,Y⟩;have m:=qq Y;clear Y;go_upto_region 9 with(fail);have E:=Gr.alloc d (.cells #[.bool true,.bool false,.bool true,.int .i64 0,.int .i64 op,.int .u8 0,.int .u8 0,.int .u8 0,.int .u8 0,.int .u64 s.length] 96);have c0:=aa d [.bool true,.bool false,.bool true,.int .i64 0,.int .i64 op,.int .u8 0,.int .u8 0,.int .u8 0,.int .u8 0,.int .u64 s.length] 96 0 _ rfl;have c1:=aa d [.bool true,.bool false,.bool true,.int .i64 0,.int .i64 op,.int .u8 0,.int .u8 0,.int .u8 0,.int .u8 0,.int .u64 s.length] 96 1 _ rfl;have c3:=aa d [.bool true,.bool false,.bool true,.int .i64 0,.int .i64 op,.int .u8 0,.int .u8 0,.int .u8 0,.int .u8 0,.int .u64 s.length] 96 3 _ rfl;have c4:=aa d [.bool true,.bool false,.bool true,.int .i64 0,.int .i64 op,.int .u8 0,.int .u8 0,.int .u8 0,.int .u8 0,.int .u64 s.length] 96 4 _ rfl;have c5:=aa d [.bool true,.bool false,.bool true,.int .i64 0,.int .i64 op,.int .u8 0,.int .u8 0,.int .u8 0,.int .u8 0,.int .u64 s.length] 96 5 _ rfl;have c6:=aa d [.bool true,.bool false,.bool true,.int .i64 0,.int .i64 op,.int .u8 0,.int .u8 0,.int .u8 0,.int .u8 0,.int .u64 s.length] 96 6 _ rfl;have c7:=aa d [.bool true,.bool false,.bool true,.int .i64 0,.int .i64 op,.int .u8 0,.int .u8 0,.int .u8 0,.int .u8 0,.int .u64 s.length] 96 7 _ rfl;have c8:=aa d [.bool true,.bool false,.bool true,.int .i64 0,.int .i64 op,.int .u8 0,.int .u8 0,.int .u8 0,.int .u8 0,.int .u64 s.length] 96 8 _ rfl;have D:(d.alloc (.cells #[.bool true,.bool false,.bool true,.int .i64 0,.int .i64 op,.int .u8 0,.int .u8 0,.int .u8 0,.int .u8 0,.int .u64 s.length] 96)).heap[W.heap.size]?=some (.cells #[.bool false,.int .i64 0,.int .i64 0,.bool false,.int .u8 0,.int .u8 0,.int .u8 0,.int .u8 0,.string ⟨#[]⟩] 56):=(Below.block (m.out.trans E) W.heap.size (by simp)).trans (World.alloc_heap_new W _);have Z:=qq (((Gr.alloc W _).trans m.out).trans E);have i:W.heap.size<d.heap.size:=by have:=Below.size m.out;simp at this;omega
 obtain⟨W2,o⟩:∃W2,d.alloc (.cells #[.bool true,.bool false,.bool true,.int .i64 0,.int .i64 op,.int .u8 0,.int .u8 0,.int .u8 0,.int .u8 0,.int .u64 s.length] 96)=W2:=⟨_,rfl⟩;obtain⟨N,F⟩:∃N,d.heap.size=N:=⟨_,rfl⟩;rw[F]at c0 c1 c3 c4 c5 c6 c7 c8 i;rw[o]at c0 c1 c3 c4 c5 c6 c7 c8 D Z;rw[o];try rw[F]
 have q:N<W2.heap.size:=ae c0;clear E o F;obtain⟨X,C⟩:∃X,W.heap.size=X:=⟨_,rfl⟩;have H:=qq C;rw[C]at D i;rw[C];clear C;have f:∀a,Ch (λk=>k=X) W2 a→∀ {k u},W2.cell? ⟨N,k,none⟩=some u→a.cell? ⟨N,k,none⟩=some u:=λa h {k u} e=>(h.cell (p:=⟨N,k,none⟩) q (show ¬N=X by omega)).trans e;have M:=qq (λa h=>f a h c0);have O:=qq (λa h=>f a h c1);have P:=qq (λa h=>f a h c3);have R:=qq (λa h=>f a h c4);have S:=qq (λa h=>f a h c5);have T:=qq (λa h=>f a h c6);have U:=qq (λa h=>f a h c7);have V:=qq (λa h=>f a h c8);have t:=qq (show ∀y:Later (λa=>Ch (λk=>k=X) W2 a),Calls prog 58 #[.agg #[.int .u8 0,.int .u8 0,.int .u8 0,.int .u8 0],.int .i64 0,.string ⟨s.toArray⟩] y.w λe w'=>e=.returned (.string ⟨s.toArray⟩)∧∃z:Later (λa=>Ch (λk=>k=X) W2 a),w'=z.w from λy =>
  (fc s y.w B.out ⟨y.w,Gr.refl _⟩).mono λ_ _ ⟨h1,z,h2⟩=>⟨h1,⟨z.w,y.ok.trans (z.ok.to_ch _)⟩,h2⟩)
 have A:=qq (λa y=>fc s a B.out y);have L:=qq D;have a0:=qq i;clear c0 c1 c3 c4 c5 c6 c7 c8 f D i q;refine iY (λa=>Ch (λk=>k=X) W2 a) 19 X (z:=.cells #[.bool false,.int .i64 0,.int .i64 0,.bool false,.int .u8 0,.int .u8 0,.int .u8 0,.int .u8 0,.string ⟨#[]⟩] 56) (.cells #[.bool true,.int .i64 0,.int .i64 op,.bool false,.int .u8 0,.int .u8 0,.int .u8 0,.int .u8 0,.string ⟨s.toArray⟩] 56) rfl rfl rfl (by kernel_rfl) (by kernel_rfl) (λ_ _ h g=>h.trans (g.to_ch _)) ((Gr.drew' _).to_ch _) L.out ?_ ?_
 ·haveI:Nonempty (Later (λa=>Ch (λk=>k=X) W2 a)):=⟨⟨W2,Ch.refl _ _⟩⟩;have t0:∀x:Later (λa=>Ch (λk=>k=X) W2 a),x.w.cell? ⟨N,0,none⟩=some (.bool true):=λx=>M.out x.w x.ok;have t1:∀x:Later (λa=>Ch (λk=>k=X) W2 a),x.w.cell? ⟨N,1,none⟩=some (.bool false):=λx=>O.out x.w x.ok;have t3:∀x:Later (λa=>Ch (λk=>k=X) W2 a),x.w.cell? ⟨N,3,none⟩=some (.int .i64 0):=λx=>P.out x.w x.ok;have t4:∀x:Later (λa=>Ch (λk=>k=X) W2 a),x.w.cell? ⟨N,4,none⟩=some (.int .i64 op):=λx=>R.out x.w x.ok;have t5:∀x:Later (λa=>Ch (λk=>k=X) W2 a),x.w.cell? ⟨N,5,none⟩=some (.int .u8 0):=λx=>S.out x.w x.ok;have t6:∀x:Later (λa=>Ch (λk=>k=X) W2 a),x.w.cell? ⟨N,6,none⟩=some (.int .u8 0):=λx=>T.out x.w x.ok;have t7:∀x:Later (λa=>Ch (λk=>k=X) W2 a),x.w.cell? ⟨N,7,none⟩=some (.int .u8 0):=λx=>U.out x.w x.ok;have t8:∀x:Later (λa=>Ch (λk=>k=X) W2 a),x.w.cell? ⟨N,8,none⟩=some (.int .u8 0):=λx=>V.out x.w x.ok;simp only[List.take_succ_cons,List.take_zero];repeat (go_big_quiet_step (with_reducible exact t.out _))
  exact wpQuiet_nil trivial
 ·intro a c;haveI:Nonempty (Later (Gr a)):=⟨⟨a,Gr.refl a⟩⟩;have t0:∀x:Later (Gr a),x.w.cell? ⟨N,0,none⟩=some (.bool true):=λx=>x.ok.cell (M.out a c);have t1:∀x:Later (Gr a),x.w.cell? ⟨N,1,none⟩=some (.bool false):=λx=>x.ok.cell (O.out a c);have t3:∀x:Later (Gr a),x.w.cell? ⟨N,3,none⟩=some (.int .i64 0):=λx=>x.ok.cell (P.out a c);have t4:∀x:Later (Gr a),x.w.cell? ⟨N,4,none⟩=some (.int .i64 op):=λx=>x.ok.cell (R.out a c);have t5:∀x:Later (Gr a),x.w.cell? ⟨N,5,none⟩=some (.int .u8 0):=λx=>x.ok.cell (S.out a c);have t6:∀x:Later (Gr a),x.w.cell? ⟨N,6,none⟩=some (.int .u8 0):=λx=>x.ok.cell (T.out a c);have t7:∀x:Later (Gr a),x.w.cell? ⟨N,7,none⟩=some (.int .u8 0):=λx=>x.ok.cell (U.out a c);have t8:∀x:Later (Gr a),x.w.cell? ⟨N,8,none⟩=some (.int .u8 0):=λx=>x.ok.cell (V.out a c);clear c;simp only[List.take_succ_cons,List.take_zero,List.drop_succ_cons,List.drop_zero];repeat (go_big_quiet_step (with_reducible exact A.out _ _))
  refine wpQuiet_nil ⟨qs (.tmp 2) (.tmp 53) ?_ ?_ ?_,λj h9 b=>?_⟩
  ·rfl
  ·rfl
  ·rfl
  ·have I:=qq h9;have J:=qq b;clear h9 b t0 t1 t3 t4 t5 t6 t7 t8;go_wp2;have b:=J.out;have q0:j.cell? ⟨X,0,none⟩=some (.bool true):=(by simp[World.cell?,b]);have q1:j.cell? ⟨X,1,none⟩=some (.int .i64 0):=(by simp[World.cell?,b]);have q2:j.cell? ⟨X,2,none⟩=some (.int .i64 op):=(by simp[World.cell?,b]);have q3:j.cell? ⟨X,3,none⟩=some (.bool false):=(by simp[World.cell?,b]);have q4:j.cell? ⟨X,4,none⟩=some (.int .u8 0):=(by simp[World.cell?,b]);have q5:j.cell? ⟨X,5,none⟩=some (.int .u8 0):=(by simp[World.cell?,b]);have q6:j.cell? ⟨X,6,none⟩=some (.int .u8 0):=(by simp[World.cell?,b]);have q7:j.cell? ⟨X,7,none⟩=some (.int .u8 0):=(by simp[World.cell?,b]);have q8:j.cell? ⟨X,8,none⟩=some (.string ⟨s.toArray⟩):=(by simp[World.cell?,b]);refine bodyPost_ret (v:=.tuple #[rfV op s,.int .i64 l.length,.int .i64 0]) (by simp[results,results28,go_sem,rfV,q0,q1,q2,q3,q4,q5,q6,q7,q8]) rfl ⟨rfl,?_⟩;exact Z.out.ch I.out (λk e=>by rw[e,H.out];exact qv _)
theorem rY (op:Nat)(s:List UInt8)(W:World)(h:op≤15)(hs:s.length≤65535) :
  Calls prog 28 #[.string ⟨(dC op s).toArray⟩] W λe w'=>e=.returned (.tuple #[rfV op s,.int .i64 (dC op s).length,.int .i64 0])∧Gr W w':=by
 by_cases hn:s.length≤125
 ·have e:dC op s=UInt8.ofNat (128+op) :: UInt8.ofNat s.length :: s:=by
   unfold dC;rw[if_neg (by omega)];unfold ul;rw[if_pos hn];rfl
  rw[e];exact mT op 2 s _ W hs (by decide) (by simp) rfl (λW=>oG op s _ W h hn rfl)
 ·have e:dC op s=UInt8.ofNat (128+op) :: 126 :: UInt8.ofNat (s.length / 256) :: UInt8.ofNat (s.length % 256) :: s:=by
   unfold dC;rw[if_neg (by omega)];unfold ul;rw[if_neg hn,if_pos hs];have:UInt8.ofNat (s.length % 256)=UInt8.ofNat s.length:=UInt8.toNat_inj.1 (by simp[UInt8.toNat_ofNat']);rw[this];rfl
  rw[e];exact mT op 4 s _ W hs (by decide) (by simp) rfl (λW=>rV op s _ W h ⟨by omega,hs⟩ rfl)
theorem qt (op:Nat)(s:List UInt8)(W:World)(h:op≤15)(hs:s.length≤65535) :
  Calls prog 29 #[rfV op s] W λe w'=>e=.returned (.tuple #[.string ⟨(dC op s).toArray⟩,.int .i64 0])∧Gr W w':=by
 by_cases hn:s.length≤125
 ·exact oF op s W h hn
 ·exact rQ op s W h ⟨by omega,hs⟩
theorem DI {s:Ss}(h:Sok s):Sok (dD s):=by
 unfold dD;split
 ·exact h.ends
 ·split
  ·rename_i i d;have f:s.st=2:=by
    unfold cG at d;rw[Bool.and_eq_true]at d;exact eq_of_beq d.1
   obtain⟨c,g,hs⟩:=h.b f;refine⟨h.a,λ_=>⟨cS c,by dsimp only;rw[g];rfl,?_⟩,(h.x.close _).2.1.trans h.e,(h.x.close _).1⟩;unfold cS;split
   ·exact .inr rfl
   ·exact hs
  ·exact h
theorem DJ {s:Ss}(h:Sok s):Sok (ij s) :=
 ⟨.inr (.inr rfl),λe=>absurd (show(3:Nat)=2 from e) (by decide),rfl,⟨λ_=>⟨rfl,rfl,rfl,rfl,rfl⟩,qx _,qx _,h.x.q,λm hm=>by cases hm⟩⟩
theorem DK {c:Int}{t:List UInt8}(h:RepT c t)(hl:t.length≤800000):∃i k d j m f:Int,∃s u:List UInt8,∃w x:Bool,
  (∀W,Calls prog 27 #[.string ⟨t.toArray⟩,.bool false] W λe w'=>∃p n cap,e=.returned (.tuple #[.agg #[.int .i64 i,.slice p n cap,.string ⟨s.toArray⟩],.bool w,.int .i64 k,.int .i64 d])∧Gr W w') ∧
  (∀W,Calls prog 27 #[.string ⟨t.toArray⟩,.bool true] W λe w'=>∃p n cap,e=.returned (.tuple #[.agg #[.int .i64 j,.slice p n cap,.string ⟨u.toArray⟩],.bool x,.int .i64 m,.int .i64 f])∧Gr W w') ∧
  ((d=0∧k=t.length∧i=c∧(f=0∧j=c∨f≠0))∨((d≠0∨d=0∧k≠t.length∧i=c)∧f=0∧m=t.length∧j=c)):=by
 obtain⟨o,q,l⟩:=h.reads;refine⟨(rdR (aP t false)).code,rdN (aP t false),rdE (aP t false),(rdR (aP t true)).code,rdN (aP t true),rdE (aP t true),(rdR (aP t false)).b,(rdR (aP t true)).b,rdC (aP t false),rdC (aP t true),λW=>(p8 t false W hl).mono ?_,λW=>(p8 t true W hl).mono ?_,?_⟩
 ·rintro e w'⟨v,rfl,⟨p,cap,rfl,_⟩,g⟩;exact⟨p,_,cap,rfl,g⟩
 ·rintro e w'⟨v,rfl,⟨p,cap,rfl,_⟩,g⟩;exact⟨p,_,cap,rfl,g⟩
 ·by_cases e1:rdE (aP t false)=0
  ·by_cases r:rdN (aP t false)=t.length
   ·refine .inl ⟨by rw[e1];rfl,by rw[r],q e1,?_⟩;by_cases e2:rdE (aP t true)=0
    ·exact .inl ⟨by rw[e2];rfl,l e2⟩
    ·exact .inr (by omega)
   ·have a:=o.resolve_left (λh=>r h.2);exact .inr ⟨.inr ⟨by rw[e1];rfl,by omega,q e1⟩,by rw[a.1];rfl,by rw[a.2],l a.1⟩
  ·have a:=o.resolve_left (λh=>e1 h.1);exact .inr ⟨.inl (by omega),by rw[a.1];rfl,by rw[a.2],l a.1⟩
def mq (w:World)(b:Nat)(l:List Ac)(so cd en i:Value)(wr:World):Prop :=
 ∃(k:Nat) (T:Nat→Prop) (s:Ss) (o c e:Bool),so=.bool o∧cd=.bool c∧en=.bool e∧i=.int .i64 k∧k≤l.length+80∧SnL w b T s wr∧Sok s∧SsB (cn (l.take k)) s∧Tv s o c e∧(l.length<k→iG s.x+(k - l.length)≤71∨iG s.x=0)
def Gy (B:Nat)(W:World)(a:Ac):Prop:=W.cell? ⟨B,0,none⟩=some (.int .u8 a.d.toNat)∧W.cell? ⟨B,1,none⟩=some (.int .u8 a.o.toNat)∧W.cell? ⟨B,2,none⟩=some (.string ⟨a.t.toArray⟩)
theorem rZ (q limit:Int)(p:Option Addr)(cap:Nat)(l:List Ac)(w:World)(hG:G w)(hA:ActsAt w p l)(hl:l.length≤9223372036854775807) :
  Calls prog 5 #[.int .i64 q,.int .i64 limit,.slice p l.length cap] w λe w'=>e=.returned (.bool true)∧Gr w w':=by
 have a9:=qq hG;have e6:=qq hA;have N:=qq (tD p cap l w hA hl);have Y:=qq (lL w hG);obtain⟨gv,O⟩:∃gv,gR l=gv:=⟨_,rfl⟩;rw[O]at N;clear hG hA;cases gv with
 | true =>
  clear O;go_enter func5,ntmps5;go_wp2_with fail;refine N.out.mono ?_;rintro e w1⟨rfl,rfl⟩;go_wp2_with fail;refine Y.out.mono ?_;rintro e w1⟨rfl,g1⟩;go_wp2;go_ret;exact⟨rfl,g1⟩
 | false =>
  by_cases c0:q<1
  ·clear O;go_enter func5,ntmps5;go_wp2_with fail;refine N.out.mono ?_;rintro e w1⟨rfl,rfl⟩;go_wp2_with fail;refine Y.out.mono ?_;rintro e w1⟨rfl,g1⟩;go_wp2;go_ret;exact⟨rfl,g1⟩
  by_cases c1:64<q
  ·clear O;go_enter func5,ntmps5;go_wp2_with fail;refine N.out.mono ?_;rintro e w1⟨rfl,rfl⟩;go_wp2_with fail;refine Y.out.mono ?_;rintro e w1⟨rfl,g1⟩;go_wp2;go_ret;exact⟨rfl,g1⟩
  by_cases c2:limit<0
  ·clear O;go_enter func5,ntmps5;go_wp2_with fail;refine N.out.mono ?_;rintro e w1⟨rfl,rfl⟩;go_wp2_with fail;refine Y.out.mono ?_;rintro e w1⟨rfl,g1⟩;go_wp2;go_ret;exact⟨rfl,g1⟩
  by_cases c3:5000<limit
  ·clear O;go_enter func5,ntmps5;go_wp2_with fail;refine N.out.mono ?_;rintro e w1⟨rfl,rfl⟩;go_wp2_with fail;refine Y.out.mono ?_;rintro e w1⟨rfl,g1⟩;go_wp2;go_ret;exact⟨rfl,g1⟩
  obtain⟨q,rfl⟩:=Int.eq_ofNat_of_zero_le (show 0≤q by omega);obtain⟨limit,rfl⟩:=Int.eq_ofNat_of_zero_le (show 0≤limit by omega);have c6:=qq (xr a9.out (Gr.refl w) q limit (by omega) (by omega) (by omega));have c7:=qq (show q≤64 by omega);have e8:=qq (show limit≤1099511627776 by omega);have a1:=O;unfold gR at a1;simp only[Bool.or_eq_false_iff,decide_eq_false_iff_not]at a1;have b7:=qq (show l.length≤120 by omega);have d7:=qq (show cn l≤15000 by omega);have f6:IntKind.i64.wrap ((l.length:Int)+80)=(l.length:Int)+80:=IntWalk.i64_in _ (by omega);clear O a1;go_enter func5,ntmps5;go_wp2_with fail;refine N.out.mono ?_;rintro e w1⟨rfl,rfl⟩;go_wp2_with fail;refine c6.out.mono ?_;rintro e w1⟨b,rfl,h1,_⟩;have b6:=qq h1;clear h1 c6 N Y;go_upto_region 10 with(fail);go_loopw [9,10,11,12] (λso cd en i wr=>mq w b l so cd en i wr) (λ_ _ _ i _=>l.length+80 - (intOf i).toNat)
  case atStart=>exact⟨0,_,_,false,false,false,rfl,rfl,rfl,rfl,qx _,b6.out,Fc c7.out,CD e8.out,tb0 q,λh=>absurd h (Nat.not_lt_zero _)⟩
  case round =>
   clear b6;obtain⟨k,T,s,o,c,e,rfl,rfl,rfl,rfl,hk,h,hS,hB,hV,hw⟩:=hrel;have h':=qq h;have m:=qq hS;have F:=qq hB;have M:=qq hV;have d8:=qq hw;clear h hS hB hV hw;have f7:k≤200:=(by have:=b7.out;omega);by_cases f8:k<l.length+80
   ·have e7:(k:Int)<(l.length:Int)+80:=by omega
    go_upto_block 1 with(fail)
    go_cut [9,10,11] (λso cd en wx=>mq w b l so cd en (.int .i64 ((k+1:Nat):Int)) wx)
    case rest =>
     have r:=qq hcut;clear hcut;go_wp2;go_roundw
     case rel=>exact r.out
     case measure=>simp[intOf];omega
    case first =>
     go_upto_if 72 with(fail);obtain⟨B,a4⟩:∃B,wr.heap.size=B:=⟨_,rfl⟩;have ga:=Gr.alloc wr (.cells #[.int .u8 2,.int .u8 0,.string ⟨#[]⟩] 38);have z0:=aa wr [.int .u8 2,.int .u8 0,.string ⟨#[]⟩] 38 0 _ rfl;have z1:=aa wr [.int .u8 2,.int .u8 0,.string ⟨#[]⟩] 38 1 _ rfl;have z2:=aa wr [.int .u8 2,.int .u8 0,.string ⟨#[]⟩] 38 2 _ rfl;have zf:∀o,(wr.alloc (.cells #[.int .u8 2,.int .u8 0,.string ⟨#[]⟩] 38)).frozen? ⟨wr.heap.size,o,none⟩=false:=λo=>(by simp[go_sem]);obtain⟨W1,b0⟩:∃W1,wr.alloc (.cells #[.int .u8 2,.int .u8 0,.string ⟨#[]⟩] 38)=W1:=⟨_,rfl⟩;rw[b0]at ga z0 z1 z2 zf;rw[a4]at z0 z1 z2 zf;rw[b0];rw[a4];have a7:=qq ga;have a8:=qq a4;clear ga b0 a4;go_cut []from 61 to 76 (λwx=>∃a:Ac,Gy B wx a∧Gr wr wx∧cn (l.take (k+1))=cn (l.take k)+a.t.length∧(l.length≤k→a.d=2))
     case first =>
      by_cases a2:k<l.length
      ·have b9:(k:Int)<l.length:=(by omega);obtain⟨ab,off,f1,c0,c1,c2⟩:=((e6.out.gr h'.out.gr).gr a7.out) k a2;have hn:=qq (nT l k a2);obtain⟨a,ha⟩:∃a,a=l[k]:=⟨_,rfl⟩;rw[←ha]at c0 c1 c2 hn;subst f1;clear ha;go_wp2;go_meet;exact⟨a,⟨by simp[go_sem,z0],by simp[go_sem,z1],by simp[go_sem,z2]⟩,((a7.out.setCell (by rw[a8.out];exact qv _) _).setCell (by rw[a8.out];exact qv _) _).setCell (by rw[a8.out];exact qv _) _,hn.out,λh=>absurd a2 (Nat.not_lt.2 h)⟩
      ·have b9:¬(k:Int)<l.length:=(by omega);go_wp2;go_meet;exact⟨⟨2,0,[]⟩,⟨z0,z1,z2⟩,a7.out,by rw[List.take_of_length_le (by omega),List.take_of_length_le (by omega)];rfl,λ_=>rfl⟩
     case rest =>
      obtain⟨a,⟨e0,e1,e2⟩,hg,hs,hd⟩:=hcut;have c9:=qq hs;have R:=qq hd;have h1:=qq (h'.out.grow hg);have hN:=qq (show cn (l.take k)+a.t.length≤15000 by have:=CE l (k+1);have:=d7.out;omega);have n:=qq (λT s1 W (A:k<l.length) (h:SnL w b T s1 W) (h2:Sok s1) (h3:SsB (cn (l.take k)+a.t.length) s1) (h4:Tv s1 o c e)=>(show mq w b l (.bool o) (.bool c) (.bool e) (.int .i64 ((k+1:Nat):Int)) W from
       ⟨k+1,T,s1,o,c,e,rfl,rfl,rfl,rfl,by omega,h,h2,by rw[c9.out];exact h3,h4,λh=>by omega⟩))
      clear hs hd hg z0 z1 z2 zf;by_cases d0:a.d=0
      ·as_aux_lemma =>
        have A:=qq (show k<l.length from Nat.lt_of_not_le λh=>by have:=R.out h;rw[d0]at this;cases this);rw[d0]at e0;have f:=qq (rR h1.out F.out m.out a.t (by have:=hN.out;omega));go_wp2_with fail;refine f.out.mono ?_;rintro P I⟨rfl,C,j,_,_⟩;have r:=qq (n.out C _ I A.out j (m.out.feed _) (F.out.feed _) (M.out.feed _));clear j f e0 e1 e2;go_wp2;go_meet;exact r.out
      by_cases d1:a.d=1
      ·as_aux_lemma =>
        have A:=qq (show k<l.length from Nat.lt_of_not_le λh=>by have:=R.out h;rw[d1]at this;cases this);rw[d1]at e0;have f:=qq (j6 h1.out a9.out F.out m.out (by have:=hN.out;omega));obtain⟨n0,n1,nt,c5⟩:=mP (bj aX s).2;rw[c5]at f;clear c5;go_wp2_with fail;refine f.out.mono ?_;rintro P I⟨rfl,C,j,_,_⟩;have r:=qq (n.out C _ I A.out j m.out.next (F.out.next.le (Nat.le_add_right _ _)) (M.out.next m.out F.out (by have:=hN.out;omega)));clear j f e0 e1 e2;go_wp2;go_meet;exact r.out
      by_cases d4:a.d=4
      ·as_aux_lemma =>
        have A:=qq (show k<l.length from Nat.lt_of_not_le λh=>by have:=R.out h;rw[d4]at this;cases this);rw[d4]at e0;have f:=qq (uA h1.out m.out);go_wp2_with fail;refine f.out.mono ?_;rintro P I⟨rfl,C,j,_,_⟩;have r:=qq (n.out C _ I A.out j m.out.finish.1 (F.out.finish.le (Nat.le_add_right _ _)) M.out.finish);clear j f e0 e1 e2;go_wp2;go_meet;exact r.out
      by_cases d5:a.d=5
      ·as_aux_lemma =>
        have A:=qq (show k<l.length from Nat.lt_of_not_le λh=>by have:=R.out h;rw[d5]at this;cases this);rw[d5]at e0;have f:=qq (Bq h1.out m.out);go_wp2_with fail;refine f.out.mono ?_;rintro P I⟨rfl,C,j,_,_⟩;have r:=qq (n.out C _ I A.out j (DI m.out) (F.out.stop.le (Nat.le_add_right _ _)) M.out.stop);clear j f e0 e1 e2;go_wp2;go_meet;exact r.out
      by_cases d6:a.d=6
      ·as_aux_lemma =>
        have A:=qq (show k<l.length from Nat.lt_of_not_le λh=>by have:=R.out h;rw[d6]at this;cases this);rw[d6]at e0;have f:=qq (yv h1.out m.out);go_wp2_with fail;refine f.out.mono ?_;rintro P I⟨rfl,C,j,_,_⟩;have r:=qq (n.out C _ I A.out j (CG m.out) (F.out.lapse.le (Nat.le_add_right _ _)) M.out.lapse);clear j f e0 e1 e2;go_wp2;go_meet;exact r.out
      by_cases d3:a.d=3
      ·as_aux_lemma =>
        have A:=qq (show k<l.length from Nat.lt_of_not_le λh=>by have:=R.out h;rw[d3]at this;cases this);rw[d3]at e0;have c4:(a.o.toNat:Int).tmod 2=0∨(a.o.toNat:Int).tmod 2=1:=by
         rw[Int.tmod_eq_emod_of_nonneg (by omega)];omega
        rcases c4 with hm | hm
        ·have f:=qq (rS h1.out m.out 1 a.t);go_wp2_with fail;refine f.out.mono ?_;rintro P I⟨rfl,C,j,_,_⟩;have r:=qq (n.out C _ I A.out j (m.out.send _ _) (F.out.send _ _) (M.out.send (by decide) _));clear j f e0 e1 e2 hm;go_wp2;go_meet;exact r.out
        ·have f:=qq (rS h1.out m.out 2 a.t);go_wp2_with fail;refine f.out.mono ?_;rintro P I⟨rfl,C,j,_,_⟩;have r:=qq (n.out C _ I A.out j (m.out.send _ _) (F.out.send _ _) (M.out.send (by decide) _));clear j f e0 e1 e2 hm;go_wp2;go_meet;exact r.out
      by_cases d2:a.d=2
      ·rw[d2]at e0;have f:=qq (mp h1.out F.out m.out (by have:=hN.out;omega));have y:=qq (λT W b4 a5 a6 (h:SnL w b T (bR s).1 W) (h4:Tv (bR s).1 b4 a5 a6)=>(show mq w b l (.bool b4) (.bool a5) (.bool a6) (.int .i64 ((k+1:Nat):Int)) W from
        ⟨k+1,T,_,b4,a5,a6,rfl,rfl,rfl,rfl,by omega,h,m.out.out,by rw[c9.out];exact F.out.out.le (Nat.le_add_right _ _),h4,λh=>by
         have q1:iG (bR s).1.x=iG s.x - 1:=CN s.x;have q2:=Fj m.out.x;have q3:=d8.out;omega⟩))
       have b2:=CM M.out m.out F.out (by have:=hN.out;omega);clear n;rcases b2 with⟨ho,hv⟩ | ⟨t,cc,ho,rfl,rfl,rfl,c8,b3,hv⟩ | ⟨op,dd,ho,rfl,rfl,rfl,b1,a0,f0,hv⟩ | ⟨ho,rfl,hv⟩
       ·as_aux_lemma =>
         rw[ho]at f;unfold zM at f;clear ho;go_wp2_with fail;refine f.out.mono ?_;rintro P I⟨rfl,C,j,_,_⟩;have r:=qq (y.out C I _ _ _ j hv);clear j f hv e0 e1 e2;go_wp2;go_meet;exact r.out
       ·as_aux_lemma =>
         rw[ho]at f;unfold zM at f;dsimp only at f;obtain⟨C1,N1,E1,C2,N2,E2,B1,B2,K1,K2,S,U,b8⟩:=DK c8 b3;have u:=qq S;have v:=qq U;have z:=qq b8;have f5:=qq b3;have H:=qq hv;clear ho c8 S U b8 b3 hv;go_wp2_with fail;refine f.out.mono ?_;rintro P I⟨rfl,C,j,_,_⟩;have E:=qq j;clear j f e0 e1 e2;go_wp2_with fail;refine(u.out _).mono ?_;rintro e3 w3⟨p3,n3,b5,rfl,V⟩;have D:=qq (E.out.grow V);clear V;go_wp2_with fail;refine(v.out _).mono ?_;rintro e4 w4⟨p4,n4,f3,rfl,J⟩;have a3:=qq ((D.out.grow (Gr.alloc _ _)).grow J);have k1:=J.cell (aa w3 [.int .i64 C1,.slice p3 n3 b5,.string ⟨B1.toArray⟩] 51 0 _ rfl);have f9:=ae k1;clear J u v D E;by_cases X:cc=101
         ·subst X;have r:=qq (λW' (g:Gr w4 W')=>y.out C W' true false false (a3.out.grow g) (by simpa using H.out));clear H a3;rcases z.out with⟨rfl,rfl,rfl,⟨rfl,rfl⟩ | y2⟩ | ⟨Z | ⟨rfl,Z,rfl⟩,rfl,rfl,rfl⟩
          ·clear z
           as_aux_lemma =>
            go_wp2;go_meet;exact r.out _ (Gr.alloc _ _)
          ·have y3:(E2==0)=false:=beq_false_of_ne y2;have y4:(E2 != 0)=true:=bne_iff_ne.2 y2;clear z y2
           as_aux_lemma =>
            go_wp2;go_meet;exact r.out _ (Gr.alloc _ _)
          ·have y3:(E1==0)=false:=beq_false_of_ne Z;have y4:(E1 != 0)=true:=bne_iff_ne.2 Z;clear z Z
           as_aux_lemma =>
            go_wp2;go_meet;exact r.out _ (Gr.alloc _ _)
          ·have y3:(N1 != (t.length:Int))=true:=bne_iff_ne.2 Z;clear z Z
           as_aux_lemma =>
            go_wp2;go_meet;exact r.out _ (Gr.alloc _ _)
         ·have r:=qq (λW' (g:Gr w4 W')=>y.out C W' false false false (a3.out.grow g) (by simpa[X]using H.out));have y0:(cc==101)=false:=beq_false_of_ne X;clear H a3 X;rcases z.out with⟨rfl,rfl,rfl,⟨rfl,rfl⟩ | y2⟩ | ⟨Z | ⟨rfl,Z,rfl⟩,rfl,rfl,rfl⟩
          ·clear z
           as_aux_lemma =>
            go_wp2;go_meet;exact r.out _ (Gr.alloc _ _)
          ·have y3:(E2==0)=false:=beq_false_of_ne y2;have y4:(E2 != 0)=true:=bne_iff_ne.2 y2;clear z y2
           as_aux_lemma =>
            go_wp2;go_meet;exact r.out _ (Gr.alloc _ _)
          ·have y3:(E1==0)=false:=beq_false_of_ne Z;have y4:(E1 != 0)=true:=bne_iff_ne.2 Z;clear z Z
           as_aux_lemma =>
            go_wp2;go_meet;exact r.out _ (Gr.alloc _ _)
          ·have y3:(N1 != (t.length:Int))=true:=bne_iff_ne.2 Z;clear z Z
           as_aux_lemma =>
            go_wp2;go_meet;exact r.out _ (Gr.alloc _ _)
       ·as_aux_lemma =>
         rw[ho]at f;unfold zM at f;dsimp only at f;have S:=λW=>rY op dd W (by omega) b1;have U:=λW=>qt op dd W (by omega) b1;obtain⟨L,hL⟩:∃L,dC op dd=L:=⟨_,rfl⟩;rw[hL]at f;simp only[hL]at S U;unfold rfV at S U;have u:=qq S;have v:=qq U;have H:=qq hv;clear ho hL b1 S U hv;rcases f0 with rfl | rfl | rfl | rfl
         ·as_aux_lemma =>
           clear a0;go_wp2_with fail;refine f.out.mono ?_;rintro P I⟨rfl,C,j,_,_⟩;have E:=qq j;clear j f e0 e1 e2;go_wp2_with fail;refine(u.out _).mono ?_;rintro e3 w3⟨rfl,V⟩;have D:=qq (E.out.grow V);clear V;go_wp2_with fail;refine(v.out _).mono ?_;rintro e4 w4⟨rfl,J⟩;have k2:=J.cell (aa w3 [.bool true,.int .i64 0,.int .i64 1,.bool false,.int .u8 0,.int .u8 0,.int .u8 0,.int .u8 0,.string ⟨dd.toArray⟩] 56 2 _ rfl);have k8:=J.cell (aa w3 [.bool true,.int .i64 0,.int .i64 1,.bool false,.int .u8 0,.int .u8 0,.int .u8 0,.int .u8 0,.string ⟨dd.toArray⟩] 56 8 _ rfl);have r:=qq (y.out C w4 true (_) false ((D.out.grow (Gr.alloc _ _)).grow J) H.out);clear J D E u v H;go_wp2;go_meet;exact r.out
         ·as_aux_lemma =>
           clear a0;go_wp2_with fail;refine f.out.mono ?_;rintro P I⟨rfl,C,j,_,_⟩;have E:=qq j;clear j f e0 e1 e2;go_wp2_with fail;refine(u.out _).mono ?_;rintro e3 w3⟨rfl,V⟩;have D:=qq (E.out.grow V);clear V;go_wp2_with fail;refine(v.out _).mono ?_;rintro e4 w4⟨rfl,J⟩;have k2:=J.cell (aa w3 [.bool true,.int .i64 0,.int .i64 2,.bool false,.int .u8 0,.int .u8 0,.int .u8 0,.int .u8 0,.string ⟨dd.toArray⟩] 56 2 _ rfl);have k8:=J.cell (aa w3 [.bool true,.int .i64 0,.int .i64 2,.bool false,.int .u8 0,.int .u8 0,.int .u8 0,.int .u8 0,.string ⟨dd.toArray⟩] 56 8 _ rfl);have r:=qq (y.out C w4 true (_) false ((D.out.grow (Gr.alloc _ _)).grow J) H.out);clear J D E u v H;go_wp2;go_meet;exact r.out
         ·as_aux_lemma =>
           have f4:¬(125:Int)<dd.length:=(by have:=a0 rfl;omega);clear a0;go_wp2_with fail;refine f.out.mono ?_;rintro P I⟨rfl,C,j,_,_⟩;have E:=qq j;clear j f e0 e1 e2;go_wp2_with fail;refine(u.out _).mono ?_;rintro e3 w3⟨rfl,V⟩;have D:=qq (E.out.grow V);clear V;go_wp2_with fail;refine(v.out _).mono ?_;rintro e4 w4⟨rfl,J⟩;have k2:=J.cell (aa w3 [.bool true,.int .i64 0,.int .i64 8,.bool false,.int .u8 0,.int .u8 0,.int .u8 0,.int .u8 0,.string ⟨dd.toArray⟩] 56 2 _ rfl);have k8:=J.cell (aa w3 [.bool true,.int .i64 0,.int .i64 8,.bool false,.int .u8 0,.int .u8 0,.int .u8 0,.int .u8 0,.string ⟨dd.toArray⟩] 56 8 _ rfl);have r:=qq (y.out C w4 true (decide ((8:Nat)=8)) false ((D.out.grow (Gr.alloc _ _)).grow J) H.out);clear J D E u v H;go_wp2;go_meet;exact r.out
         ·as_aux_lemma =>
           clear a0;go_wp2_with fail;refine f.out.mono ?_;rintro P I⟨rfl,C,j,_,_⟩;have E:=qq j;clear j f e0 e1 e2;go_wp2_with fail;refine(u.out _).mono ?_;rintro e3 w3⟨rfl,V⟩;have D:=qq (E.out.grow V);clear V;go_wp2_with fail;refine(v.out _).mono ?_;rintro e4 w4⟨rfl,J⟩;have k2:=J.cell (aa w3 [.bool true,.int .i64 0,.int .i64 10,.bool false,.int .u8 0,.int .u8 0,.int .u8 0,.int .u8 0,.string ⟨dd.toArray⟩] 56 2 _ rfl);have k8:=J.cell (aa w3 [.bool true,.int .i64 0,.int .i64 10,.bool false,.int .u8 0,.int .u8 0,.int .u8 0,.int .u8 0,.string ⟨dd.toArray⟩] 56 8 _ rfl);have r:=qq (y.out C w4 true (_) false ((D.out.grow (Gr.alloc _ _)).grow J) H.out);clear J D E u v H;go_wp2;go_meet;exact r.out
       ·as_aux_lemma =>
         rw[ho]at f;unfold zM at f;dsimp only at f;clear ho;cases c;all_goals
          go_wp2_with fail;refine f.out.mono ?_;rintro P I⟨rfl,C,j,_,_⟩;have r:=qq (y.out C I _ _ _ j hv);clear j f hv e0 e1 e2;go_wp2;go_meet;exact r.out
      have A:=qq (show k<l.length from Nat.lt_of_not_le λh=>d2 (R.out h));have q0:((a.d.toNat:Int)==0)=false:=beq_false_of_ne (λe=>d0 (UInt8.toNat_inj.1 (by(show a.d.toNat=0);omega)));have q1:((a.d.toNat:Int)==1)=false:=beq_false_of_ne (λe=>d1 (UInt8.toNat_inj.1 (by(show a.d.toNat=1);omega)));have q2:((a.d.toNat:Int)==2)=false:=beq_false_of_ne (λe=>d2 (UInt8.toNat_inj.1 (by(show a.d.toNat=2);omega)));have q3:((a.d.toNat:Int)==3)=false:=beq_false_of_ne (λe=>d3 (UInt8.toNat_inj.1 (by(show a.d.toNat=3);omega)));have q4:((a.d.toNat:Int)==4)=false:=beq_false_of_ne (λe=>d4 (UInt8.toNat_inj.1 (by(show a.d.toNat=4);omega)));have q5:((a.d.toNat:Int)==5)=false:=beq_false_of_ne (λe=>d5 (UInt8.toNat_inj.1 (by(show a.d.toNat=5);omega)));have q6:((a.d.toNat:Int)==6)=false:=beq_false_of_ne (λe=>d6 (UInt8.toNat_inj.1 (by(show a.d.toNat=6);omega)));have f:=qq (Br h1.out);clear d0 d1 d2 d3 d4 d5 d6;go_wp2_with fail;refine f.out.mono ?_;rintro P I⟨rfl,C,j,_,_⟩;have r:=qq (n.out C _ I A.out j (DJ m.out) (F.out.fail.le (Nat.le_add_right _ _)) M.out.fail);clear j f e0 e1 e2 q0 q1 q2 q3 q4 q5 q6;go_wp2;go_meet;exact r.out
   ·have e7:¬(k:Int)<(l.length:Int)+80:=(by omega);have d9:iG s.x=0:=(by have:=d8.out (by omega);omega);have nw:=rI h'.out.at';rw[zW d9]at nw;have f2:=qq nw;have e5:=qq (lL wr (a9.out.gr h'.out.gr));have g8:=qq h'.out.gr;clear nw d9;go_wp2_with fail;refine f2.out.mono ?_;rintro P I⟨rfl,rfl⟩;go_wp2_with fail;refine e5.out.mono ?_;rintro P I⟨rfl,g9⟩;go_wp2;go_ret;exact⟨rfl,g8.out.trans g9⟩
