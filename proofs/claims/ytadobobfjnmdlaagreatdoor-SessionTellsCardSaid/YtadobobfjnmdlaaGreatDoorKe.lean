/-
  Walks over the library's numbers in hexadecimal digits: what the program calls; what a chunk's head says.
-/
import Derived.Test.YtadobobfjnmdlaaGreatDoorJ
import Derived.Deep.Cut
set_option linter.unnecessarySimpa false
set_option linter.unusedVariables false
set_option linter.unusedSimpArgs false
set_option maxHeartbeats 16000000
set_option maxRecDepth 100000
open Go.Proofs.Tryz
namespace Go.Proofs.YtadobobfjnmdlaaGreatDoor
open Go.RowKit
theorem yY (l:List UInt8)(h0:l≠[])(o:l.length≤8)(k:l.all dM=true)(w:World) :
  Calls prog 233 #[.string ⟨l.toArray⟩,.int .i64 16,.int .i64 64] w λe w'=>e=.returned (.tuple #[.int .i64 (hZ l),.nilIface])∧Gr w w':=by
 have a:=qq (λw=>yF l h0 o k w);have s:=qC l.length l rfl k;have g:hZ l≤4294967295:=by
  have:16 ^ l.length≤16 ^ 8:=Nat.pow_le_pow_right (by decide) o;have e:(16:Nat) ^ 8=4294967296:=rfl;omega
 obtain⟨n,hn⟩:∃n,hZ l=n:=⟨_,rfl⟩;rw[hn]at a g ⊢;have d:0<l.length:=List.length_pos_iff.2 h0;obtain⟨c,t⟩:∃c,(⟨l.toArray⟩:ByteArray)[0]'(by rw[aj];exact d)=c:=⟨_,rfl⟩;have j:dM c=true:=List.all_eq_true.1 k c (t▸List.getElem_mem (l:=l) d);have f:=la c j;have q:((c.toNat:Int)==43)=false:=qk.2 (by rcases f with⟨h,_⟩ | ⟨h,_⟩ <;> omega);have r:((c.toNat:Int)==45)=false:=qk.2 (by rcases f with⟨h,_⟩ | ⟨h,_⟩ <;> omega);have x:l.isEmpty=false:=by simpa using h0
 have v:(n:Int)≤4294967295:=by omega
 clear k s hn f j h0 g;go_enter func233,ntmps233;go_wp2_with fail;refine(a.out _).mono ?_;rintro e y⟨rfl,u⟩;go_upto_region 17 with(fail);obtain⟨m,i⟩:∃m:Int,(9223372036854775808:Int)=m:=⟨_,rfl⟩;have p:5000000000<m:=by omega
 rw[i];clear i;go_wp2;go_ret2;exact⟨rfl,u⟩
theorem BS (l:List UInt8)(h0:l≠[])(f:l.length≤8)(d:l.all dM=true)(w:World) :
  Calls prog 243 #[.string ⟨l.toArray⟩,.int .i64 16,.int .i64 64] w λe w'=>e=.returned (.tuple #[.int .i64 (hZ l),.nilIface])∧Gr w w':=by
 have a:=qq (λw=>yY l h0 f d w);obtain⟨n,hn⟩:∃n,hZ l=n:=⟨_,rfl⟩;rw[hn]at a ⊢;clear d hn h0;go_enter func243,ntmps243;go_wp2_with fail;refine(a.out _).mono ?_;rintro e h⟨rfl,g⟩;go_wp2;go_ret2;exact⟨rfl,g⟩
theorem qH (p:UInt8→Bool):∀l:List UInt8,l.dropWhile p=[]↔∀x∈l,p x=true
 | []=>by simp
 | c :: t=>by
  rw[List.dropWhile_cons];cases h:p c
  ·simp[h]
  ·simp[h,qH p t]
theorem xC (p:UInt8→Bool):∀(l:List UInt8) (c:UInt8) (t:List UInt8),l.dropWhile p=c :: t→p c=false
 | [],_,_,h=>by cases h
 | a :: l,c,t,h=>by
  rw[List.dropWhile_cons]at h;cases d:p a
  ·rw[d]at h;simp at h;rw[←h.1];exact d
  ·rw[d]at h;exact xC p l c t h
theorem sB (l cs:List UInt8):(Lib.trimS l cs).isEmpty=l.all (cs.contains ·):=by
 rw[Bool.eq_iff_iff,List.isEmpty_iff,List.all_eq_true];unfold Lib.trimS Lib.trimLeftS Lib.trimRightS;rw[qH];constructor
 ·intro h;have a:l.reverse.dropWhile (cs.contains ·)=[]:=by
   cases f:l.reverse.dropWhile (cs.contains ·)with
   | nil=>rfl
   | cons c t =>
    have g:=xC _ _ _ _ f;have e:=h c (by rw[f];simp);rw[g]at e;cases e
  have:=(qH _ _).1 a;exact λx d=>this x (List.mem_reverse.2 d)
 ·intro h;have:l.reverse.dropWhile (cs.contains ·)=[]:=(qH _ _).2 (λx d=>h x (List.mem_reverse.1 d));rw[this];intro x d;cases d
theorem yZ (l t:List UInt8)(a:Lib.trimS l iw=t)(w:World)(hl:l.length≤9223372036854775807) :
  Calls prog 162 #[.string ⟨l.toArray⟩,.string ⟨#[48,49,50,51,52,53,54,55,56,57,97,98,99,100,101,102,65,66,67,68,69,70]⟩] w λe w'=>e=.returned (.string ⟨t.toArray⟩)∧Gr w w' :=
 a▸Any.strings_Trim_laid lays160 (by kernel_rfl) ⟨l.toArray⟩ ⟨#[48,49,50,51,52,53,54,55,56,57,97,98,99,100,101,102,65,66,67,68,69,70]⟩ w (by rw[aj];exact hl) (by decide) (ascii_of_all (by decide))
def E0 (f:Bool)(w:World)(e:Ending)(w':World):Prop:=∃n v:List UInt8,e=.returned (.tuple #[.agg #[.string ⟨n.toArray⟩,.string ⟨v.toArray⟩],.bool f])∧Gr w w'
theorem E3 (z y:List UInt8)(j:z=[120,58]++y)(f:Bool)(hf:y.all aT=f)(w:World)(i:G w)(hl:z.length≤1000000) :
  Calls prog 142 #[.string ⟨z.toArray⟩] w (E0 f w) :=
 (iP z w i (by omega)).mono λe w' ⟨a,g⟩=>by
  have h:=iv (n:=[120]) (y:=y) (by decide);have d:z=[120]++[58]++y:=by rw[j];rfl
  rw[←d,hf]at h;rw[h]at a;cases f
  ·exact⟨[],[],a,g⟩
  ·exact⟨[120],bm y,a,g⟩
def szV (o:Option Nat):Value:=match o with | none=>.tuple #[.int .i64 0,.bool false] | some n=>.tuple #[.int .i64 n,.bool true]
theorem BT (s:List UInt8)(w:World)(O:G w)(hl:s.length≤900000) :
  Calls prog 209 #[.string ⟨s.toArray⟩] w λe w'=>e=.returned (szV (iE s))∧Gr w w':=by
 have P:=qq O;have x:(Lib.cut s [59]).1.length≤s.length:=dY s [59];have y:(Lib.cut s [59]).2.1.length≤s.length:=eG s [59];have hcut:=ki s [59] w O (by omega);clear O;obtain⟨⟨n,ext,d⟩,R⟩:∃c,Lib.cut s [59]=c:=⟨_,rfl⟩;have l:iE s=if ext.all aT&&(!n.isEmpty&&(decide (n.length≤8)&&n.all dM)) then some (hZ n) else none:=by unfold iE;rw[R]
 rw[R]at x y hcut;dsimp only at x y hcut;have i:=qq hcut;clear R hcut;obtain⟨z,I⟩:∃z,[120,58]++ext=z:=⟨_,rfl⟩;have ez:(⟨#[120,58]⟩:ByteArray)++⟨ext.toArray⟩=⟨z.toArray⟩:=I▸aL [120,58] ext;have V:z.length≤1000000:=by rw[←I];simp;omega
 obtain⟨f,hf⟩:∃f,ext.all aT=f:=⟨_,rfl⟩;have E:=qq (λW (h:Gr w W)=>E3 z ext I.symm f hf W (P.out.gr h) V);rw[hf]at l;clear I hf;cases f
 ·have j:=qq (show iE s=none by rw[l];rfl);clear l;go_enter func209,ntmps209;go_wp2_with fail;refine i.out.mono ?_;rintro e J⟨rfl,a⟩;have k:=qq a;clear a;go_wp2_with fail;refine(E.out _ k.out).mono ?_;rintro e L⟨r,u,rfl,g⟩;have q:=qq ((k.out.trans g).alloc1 (.cells #[.string ⟨r.toArray⟩,.string ⟨u.toArray⟩] 80));clear g;go_wp2;go_ret2;exact⟨by rw[j.out];rfl,q.out⟩
 ·rw[Bool.true_and]at l;by_cases o:n=[]
  ·have j:=qq (show iE s=none by rw[l,o];rfl);subst o;clear l;go_enter func209,ntmps209;go_wp2_with fail;refine i.out.mono ?_;rintro e J⟨rfl,a⟩;have k:=qq a;clear a;go_wp2_with fail;refine(E.out _ k.out).mono ?_;rintro e L⟨r,u,rfl,g⟩;have q:=qq ((k.out.trans g).alloc1 (.cells #[.string ⟨r.toArray⟩,.string ⟨u.toArray⟩] 80));clear g;go_wp2;go_ret2;exact⟨by rw[j.out];rfl,q.out⟩
  ·have S:n.isEmpty=false:=(by simpa using o);have D:=qq o;clear o;rw[S,Bool.not_false,Bool.true_and]at l;by_cases H:n.length≤8
   ·rw[decide_eq_true H,Bool.true_and]at l;obtain⟨t,U⟩:∃t,Lib.trimS n iw=t:=⟨_,rfl⟩;have F:=qq (λW=>yZ n t U W (by omega));have p:t.isEmpty=n.all dM:=(by rw[←U];exact sB n iw);have N:(n.length:Int)≤8:=(by omega);clear U;cases v:n.all dM
    ·have j:=qq (show iE s=none by rw[l,v];rfl);have a0:(!t.isEmpty)=true:=(by rw[p,v];rfl);clear p l v;go_enter func209,ntmps209;go_wp2_with fail;refine i.out.mono ?_;rintro e J⟨rfl,a⟩;have k:=qq a;clear a;go_wp2_with fail;refine(E.out _ k.out).mono ?_;rintro e L⟨r,u,rfl,g⟩;have q:=qq ((k.out.trans g).alloc1 (.cells #[.string ⟨r.toArray⟩,.string ⟨u.toArray⟩] 80));clear g;go_wp2_with fail;refine(F.out _).mono ?_;rintro e w3⟨rfl,m⟩;have M:=qq (q.out.trans m);clear m;go_wp2;go_ret2;exact⟨by rw[j.out];rfl,M.out⟩
    ·have j:=qq (show iE s=some (hZ n) by rw[l,v];rfl);have T:=qq (λW=>BS n D.out H v W);obtain rfl:t=[]:=(by rw[v]at p;simpa using p);clear p l v;go_enter func209,ntmps209;go_wp2_with fail;refine i.out.mono ?_;rintro e J⟨rfl,a⟩;have k:=qq a;clear a;go_wp2_with fail;refine(E.out _ k.out).mono ?_;rintro e L⟨r,u,rfl,g⟩;have q:=qq ((k.out.trans g).alloc1 (.cells #[.string ⟨r.toArray⟩,.string ⟨u.toArray⟩] 80));clear g;go_wp2_with fail;refine(F.out _).mono ?_;rintro e w3⟨rfl,m⟩;have M:=qq (q.out.trans m);clear m;go_wp2_with fail;refine(T.out _).mono ?_;rintro e X⟨rfl,A⟩;have Y:=qq (M.out.trans A);clear A;haveI:Nonempty (Later (Gr X)):=⟨⟨_,Gr.refl _⟩⟩;go_wp2;refine ah (C:=Gr X) (by kernel_rfl) (by kernel_rfl) (Gr.drew' _) ?_;(repeat (go_big_quiet_step (fail)));refine wpQuiet_nil ?_;intro w5 B;have Z:=qq (Y.out.trans B);clear B;go_wp2;go_ret2;exact⟨by rw[j.out];rfl,Z.out⟩
   ·have j:=qq (show iE s=none by rw[l,decide_eq_false H];rfl);have N:8<(n.length:Int):=(by omega);clear l H;go_enter func209,ntmps209;go_wp2_with fail;refine i.out.mono ?_;rintro e J⟨rfl,a⟩;have k:=qq a;clear a;go_wp2_with fail;refine(E.out _ k.out).mono ?_;rintro e L⟨r,u,rfl,g⟩;have q:=qq ((k.out.trans g).alloc1 (.cells #[.string ⟨r.toArray⟩,.string ⟨u.toArray⟩] 80));clear g;go_wp2;go_ret2;exact⟨by rw[j.out];rfl,q.out⟩
attribute [local go_sem] Oper.semAt_some
section
variable {b:Nat} {W:World} {c:Ck} {lv dv:Value}
theorem Rd.relined (h:Rd b W c lv dv){f:World}{a:Value}{l':List UInt8}(r:Ch (λk=>lv.ownBlock=some k) W f)(hl:OwnB (b+1) f a l')(n:a.ownBlock=lv.ownBlock∨∀k,a.ownBlock=some k→W.heap.size≤k) :
  Rd b (f.setCell ⟨b,1,none⟩ a) { c with line:=l' } a dv:=by
 have x:¬(lv.ownBlock=some b):=λe=>by have:=h.l.lt b e;omega
 have cell:∀ {o v},W.cell? ⟨b,o,none⟩=some v→f.cell? ⟨b,o,none⟩=some v:=fun {o v} t=>(r.cell (p:=⟨b,o,none⟩) h.lt x).trans t;have z:OwnB (b+1) f dv c.data:=by
  obtain⟨y,m⟩:=h.d;refine⟨y,?_⟩;rcases m with m | ⟨g,cap,j,rfl,q,t,w,hm,s,A⟩
  ·exact .inl m
  ·exact .inr ⟨g,cap,j,rfl,q,r.get t (λe=>h.ne g e rfl),w,hm,s,A⟩
 refine⟨ac (cell h.c0) (by decide),af (cell h.c1),ac (cell h.c2) (by decide),ac (cell h.c3) (by decide),ac (cell h.c4) (by decide),ac (cell h.c5) (by decide),ac (cell h.c6) (by decide),λo=>ag.trans ((r.frozen (p:=⟨b,o,none⟩) h.lt x).trans (h.fz o)),cy hl,cy z,λk u i=>?_⟩;rcases n with e | e
 ·rw[e]at u;exact h.ne k u i
 ·have:=e k u;have:=h.d.lt k i;omega
theorem Rd.redata (h:Rd b W c lv dv){i:World}{a:Value}{w:List UInt8}(r:Ch (λk=>dv.ownBlock=some k) W i)(hl:OwnB (b+1) i a w)(n:a.ownBlock=dv.ownBlock∨∀k,a.ownBlock=some k→W.heap.size≤k) :
  Rd b (i.setCell ⟨b,3,none⟩ a) { c with data:=w } lv a:=by
 have x:¬(dv.ownBlock=some b):=λe=>by have:=h.d.lt b e;omega
 have cell:∀ {o v},W.cell? ⟨b,o,none⟩=some v→i.cell? ⟨b,o,none⟩=some v:=fun {o v} t=>(r.cell (p:=⟨b,o,none⟩) h.lt x).trans t;have A:OwnB (b+1) i lv c.line:=by
  obtain⟨z,m⟩:=h.l;refine⟨z,?_⟩;rcases m with m | ⟨g,cap,j,rfl,q,t,u,hm,s,B⟩
  ·exact .inl m
  ·exact .inr ⟨g,cap,j,rfl,q,r.get t (λe=>h.ne g rfl e),u,hm,s,B⟩
 refine⟨ac (cell h.c0) (by decide),ac (cell h.c1) (by decide),ac (cell h.c2) (by decide),af (cell h.c3),ac (cell h.c4) (by decide),ac (cell h.c5) (by decide),ac (cell h.c6) (by decide),λo=>ag.trans ((r.frozen (p:=⟨b,o,none⟩) h.lt x).trans (h.fz o)),cy A,cy hl,λk y f=>?_⟩;rcases n with e | e
 ·rw[e]at f;exact h.ne k y f
 ·have:=e k f;have:=h.l.lt k y;omega
end
theorem BU (b:Nat)(c:Ck)(s:List UInt8)(lv dv:Value)(W:World)(x:G W)(h:Rd b W c lv dv)(E:c.data.length≤4096)(hl:s.length≤900000) :
  Calls prog 168 #[.pointer (some ⟨b,0,none⟩),.string ⟨s.toArray⟩] W λe y=>e=.returned (.tuple #[])∧RdPost b lv dv W (gz c s) y:=by
 obtain⟨F,D,o⟩:=aJ h.d;have j:=BT s W x hl;have i:=qq h;clear x h;cases hs:iE s with
 | none =>
  have m:=qq (show gz c s=bC c 400 by unfold gz;rw[hs]);rw[hs]at j;have g:=qq j;clear hs j;go_enter func168,ntmps168;go_wp2_with fail;refine g.out.mono ?_;rintro e w⟨rfl,a⟩;have l:=qq (i.out.gr a);have k:=qq (a.to_ch (Fp b lv dv));clear a;unfold szV;go_wp2_with fail;refine(bt b c 400 lv dv _ l.out).mono ?_;rintro e B⟨rfl,r⟩;have p:=qq r;clear r;go_wp2;go_end0;exact⟨rfl,by rw[m.out];exact p.out.after k.out bA⟩
 | some n =>
  rw[hs]at j;have g:=qq j;have q:=qq hs;clear hs j;by_cases f:4096<c.data.length+n
  ·have m:=qq (show gz c s=bC c 413 by unfold gz;rw[q.out];dsimp only;rw[if_pos f]);have u:(4096:Int) - (c.data.length:Int)<n:=(by omega);have v:(c.data.length:Int)≤4096:=(by omega);clear f;go_enter func168,ntmps168;go_wp2_with fail;refine g.out.mono ?_;rintro e w⟨rfl,a⟩;have l:=qq (i.out.gr a);have t:=(i.out.gr a).c3;rw[o]at t;have k:=qq (a.to_ch (Fp b lv dv));clear a;unfold szV;go_wp2_with fail;refine(bt b c 413 lv dv _ l.out).mono ?_;rintro e B⟨rfl,r⟩;have p:=qq r;clear r;go_wp2;go_end0;exact⟨rfl,by rw[m.out];exact p.out.after k.out bA⟩
  ·have u:¬((4096:Int) - (c.data.length:Int)<n):=(by omega);have v:(c.data.length:Int)≤4096:=(by omega);by_cases h0:n=0
   ·have m:=qq (show gz c s={ c with st:=3 } by unfold gz;rw[q.out];dsimp only;rw[if_neg f,if_pos h0]);subst h0;clear f;go_enter func168,ntmps168;go_wp2_with fail;refine g.out.mono ?_;rintro e w⟨rfl,a⟩;have l:=qq (i.out.gr a);have t:=(i.out.gr a).c3;have A:=(i.out.gr a).c0;have C:=(i.out.gr a).fz 0;rw[o]at t;have k:=qq (a.to_ch (Fp b lv dv));clear a;unfold szV;go_wp2;go_end0;exact⟨rfl,by rw[m.out];exact(RdPost.of (l.out.set0 3) (bK _ _ _)).after k.out bA⟩
   ·have m:=qq (show gz c s={ c with st:=1,left:=n } by unfold gz;rw[q.out];dsimp only;rw[if_neg f,if_neg h0]);have z:((n:Int)==0)=false:=qk.2 (by omega);clear f h0;go_enter func168,ntmps168;go_wp2_with fail;refine g.out.mono ?_;rintro e w⟨rfl,a⟩;have l:=qq (i.out.gr a);have t:=(i.out.gr a).c3;have A:=(i.out.gr a).c0;have H:=(i.out.gr a).c2;have C:=(i.out.gr a).fz 0;have I:=(i.out.gr a).fz 2;rw[o]at t;have k:=qq (a.to_ch (Fp b lv dv));clear a;unfold szV;go_wp2;go_end0;exact⟨rfl,by rw[m.out];exact(RdPost.of ((l.out.set0 1).set2 n) ((bK _ _ _).trans (bK _ _ _))).after k.out bA⟩
theorem sC (b:Nat)(c:Ck)(s:List UInt8)(lv dv:Value)(W:World)(z:G W)(C:5<b)(h:Rd b W c lv dv)(hn:c.nf≤32)(hl:s.length≤900000) :
  Calls prog 169 #[.pointer (some ⟨b,0,none⟩),.string ⟨s.toArray⟩] W λe F=>e=.returned (.tuple #[])∧RdPost b lv dv W (ee c s) F:=by
 have H:=qq h;by_cases hs:s=[]
 ·have r:=qq (show ee c s={ c with st:=4 } by unfold ee;rw[hs];rfl);have R:=h.c0;have S:=h.fz 0;subst hs;clear h z C;go_enter func169,ntmps169;go_wp2;refine bodyPost_ret (results_none (by kernel_rfl) _ _ _) rfl ?_;exact⟨rfl,by rw[r.out];exact RdPost.of (H.out.set0 4) (bK _ _ _)⟩
 ·have B:s.isEmpty=false:=by simpa using hs
  obtain⟨m,hm⟩:∃m,c.nf+1=m:=⟨_,rfl⟩;have L:(c.nf:Int)+1=m:=by omega
  have M:(c.nf:Int)≤32:=by omega
  have D:(m:Int)≤33:=by omega
  have N:=h.c4;have P:=h.fz 4;have u:=qq (h.set4 m);have A:=qq (λ(v:Value)=>z.ch (Ch.setCell (T:=λk=>k=b) W (a:=⟨b,4,none⟩) rfl v) (λg p=>by show ¬g=b;omega));clear C;obtain⟨⟨n,v,f⟩,d⟩:∃x,ax s=x:=⟨_,rfl⟩;have q:=qq (λW (h:G W)=>iP s W h (by omega));rw[d]at q;have r:ee c s=if f then(if 32≤c.nf then { c with nf:=m,st:=4,bad:=431 } else { c with nf:=m }) else { c with nf:=m,st:=4,bad:=400 }:=by
   unfold ee;rw[B,d,hm];rfl
  have i:=qq r;have J:=qq hm;clear h hs d r hm z;go_enter func169,ntmps169;go_wp2_with fail;refine(q.out _ (A.out _)).mono ?_;rintro e E⟨rfl,p⟩;have j:Gr (W.setCell ⟨b,4,none⟩ (.int .i64 m)) (E.alloc (.cells #[.string ⟨n.toArray⟩,.string ⟨v.toArray⟩] 80)):=p.alloc1 _;have w:=qq (u.out.gr j);have O:=(u.out.gr p).c4;have t:=qq ((bK (b:=b) (lv:=lv) (dv:=dv) W 4 (.int .i64 m)).trans (j.to_ch (Fp b lv dv)));dsimp only at O;have I:b<E.heap.size:=(u.out.gr p).lt;clear p j N P;unfold eK;cases f
  ·go_wp2_with fail;refine(bt b { c with nf:=m } 400 lv dv _ w.out).mono ?_;rintro e w3⟨rfl,d⟩;have l:=qq d;clear d;go_wp2;go_end0;exact⟨rfl,by rw[i.out];exact l.out.after t.out bA⟩
  ·by_cases o:32≤c.nf
   ·have y:(32:Int)<m:=(by omega);go_wp2_with fail;refine(bt b { c with nf:=m } 431 lv dv _ w.out).mono ?_;rintro e w3⟨rfl,d⟩;have l:=qq d;clear d;go_wp2;go_end0;exact⟨rfl,by rw[i.out,if_pos trivial,if_pos o];exact l.out.after t.out bA⟩
   ·have y:¬((32:Int)<m):=(by omega);go_wp2;go_end0;exact⟨rfl,by rw[i.out,if_pos trivial,if_neg o];exact RdPost.of w.out t.out⟩
section
variable {b:Nat} {W:World} {c:Ck} {lv dv:Value}
theorem Rd.appended (h:Rd b W c lv dv){o:Obj}{w3:World}{f:Value}{l':List UInt8}(m:(W.alloc o).grownBy w3 lv.ownBlock)(hl:OwnB (b+1) w3 f l')(i:f.ownBlock=lv.ownBlock∨f.ownBlock=some (W.alloc o).heap.size) :
  RdPost b lv dv W { c with line:=l' } (w3.setCell ⟨b,1,none⟩ f)∧(∃u,w3.cell? ⟨b,1,none⟩=some u)∧w3.frozen? ⟨b,1,none⟩=false:=by
 have g:Ch (λk=>lv.ownBlock=some k) W w3:=(Ch.alloc _ W o).trans (dx m);have j:¬(lv.ownBlock=some b):=λe=>by have:=h.l.lt b e;omega
 have n:W.heap.size≤(W.alloc o).heap.size:=(Ch.alloc (λ_=>False) W o).size;have d:f.ownBlock=lv.ownBlock∨∀k,f.ownBlock=some k→W.heap.size≤k:=by
  rcases i with e | e
  ·exact .inl e
  ·refine .inr λk a=>?_;rw[e]at a;injection a with a;omega
 refine⟨⟨f,dv,h.relined g hl d,?_,λk a=>?_⟩,⟨lv,(g.cell (p:=⟨b,1,none⟩) h.lt j).trans h.c1⟩,(g.frozen (p:=⟨b,1,none⟩) h.lt j).trans (h.fz 1)⟩
 ·exact(g.mono (λk a=>.inr (.inl a))).trans (bK _ 1 _)
 ·rcases a with a | a | a
  ·exact .inl (.inl a)
  ·rcases d with e | e
   ·exact .inl (.inr (.inl (e▸a)))
   ·exact .inr (e k a)
  ·exact .inl (.inr (.inr a))
end
theorem DS (b:Nat)(c:Ck)(d:UInt8)(lv dv:Value)(W:World)(h:Rd b W c lv dv)(hl:c.line=[]∨c.line=[13]) :
  Calls prog 136 #[.pointer (some ⟨b,0,none⟩),.int .u8 d.toNat] W λe H=>e=.returned (.tuple #[])∧RdPost b lv dv W (nI c d) H:=by
 obtain⟨M,hi,C,D,E⟩:=info_parts bL;have w:=qq h;obtain⟨p,cap,m⟩:=aJ h.l;have q:=h.c1;have U:=h.c0;have Y:=h.fz 1;have X:=h.fz 0;have I:=h.lt;have k0:(⟨#[13,10]⟩:ByteArray)[0]=13:=rfl;have k1:(⟨#[13,10]⟩:ByteArray)[1]=10:=rfl;rw[m]at q;obtain⟨f,a⟩:∃x:UInt8,x=if c.line.isEmpty then 13 else 10:=⟨_,rfl⟩;by_cases j:d=f
 ·rcases hl with hl | hl
  ·have g:f=13:=(by rw[a,hl];rfl);have v:=qq (show nI c d={ c with line:=c.line++[d] } by unfold nI;rw[hl,if_pos (by rw[j,g];rfl),if_neg (by rw[j,g];decide)]);have t:=qq hl;rw[hl]at q;simp only[List.length_nil]at q;have O:((d.toNat:Int) != 13)=false:=(by rw[j,g];rfl);have N:((d.toNat:Int)==10)=false:=(by rw[j,g];rfl);have z:=qq m;clear hl g h m a j;go_enter func136,ntmps136;go_wp2_with (at_builtin;refine wpList_append_own_at _ rfl _ _ 100 rfl (b+1) 5 M (.int .u8 0) 1 1 underlying100 hi C D E rfl (by decide) lv c.line.length _ (by show Value.slice p 0 cap=lv;rw[z.out,t.out];rfl) (w.out.l.alloc _) ⟨W.heap.size,0,none⟩ 1 1 [.int .u8 d.toNat] rfl rfl (cell_one_new _ _ _) (by simp[Value.oneCell']) (by rw[t.out];decide) (by rw[t.out];decide) (by simp;omega) ?_;intro V w3 r n _ y;have i:=gq r;obtain⟨R,F,A,_⟩:=OwnB.row i (by simp);rw[show(c.line++[d]).length=c.line.length+1 by simp]at A;subst A;obtain⟨s,⟨u,S⟩,T⟩:=w.out.appended n (l':=c.line++[d]) i y;have o:=qq s;clear s r i n y);go_wp2;go_end0;exact⟨rfl,by rw[v.out];exact o.out⟩
  ·have g:f=10:=(by rw[a,hl];rfl);have v:=qq (show nI c d={ c with line:=[],st:=0 } by unfold nI;rw[hl,if_pos (by rw[j,g];rfl),if_pos (by rw[j,g])]);rw[hl]at q;simp only[List.length_nil,List.length_cons,Nat.zero_add]at q;rw[g]at j;subst j;clear hl g h m a;go_enter func136,ntmps136;go_wp2;go_end0;refine⟨rfl,?_⟩;rw[v.out];have L:=(w.out.set1 (OwnB.nil _ _) (λk J=>by cases J)).set0 0;exact⟨_,_,L,(bK _ _ _).trans (bK _ _ _),uH⟩
 ·have v:=qq (show nI c d=bC c 400 by unfold nI;rw[←a,if_neg j]);rcases hl with hl | hl
  ·have g:f=13:=(by rw[a,hl];rfl);have B:((d.toNat:Int) != 13)=true:=by
    rw[bne_iff_ne];intro e;exact j (UInt8.toNat_inj.1 (by rw[g];show d.toNat=13;omega))
   rw[hl]at q;simp only[List.length_nil]at q;clear j h hl m g a;go_enter func136,ntmps136;go_wp2_with fail;refine(bt b c 400 lv dv _ w.out).mono ?_;rintro e P⟨rfl,s⟩;have o:=qq s;clear s;go_wp2;go_end0;exact⟨rfl,by rw[v.out];exact o.out⟩
  ·have g:f=10:=(by rw[a,hl];rfl);have B:((d.toNat:Int) != 10)=true:=by
    rw[bne_iff_ne];intro e;exact j (UInt8.toNat_inj.1 (by rw[g];show d.toNat=10;omega))
   rw[hl]at q;simp only[List.length_nil,List.length_cons,Nat.zero_add]at q;clear j h hl m g a;go_enter func136,ntmps136;go_wp2_with fail;refine(bt b c 400 lv dv _ w.out).mono ?_;rintro e P⟨rfl,s⟩;have o:=qq s;clear s;go_wp2;go_end0;exact⟨rfl,by rw[v.out];exact o.out⟩
theorem xD (W:World):Calls prog 135 #[] W λe a=>e=.returned (.pointer (some ⟨W.heap.size,0,none⟩))∧Rd W.heap.size a ck0 (.slice none 0 0) (.slice none 0 0)∧Gr W a:=by
 go_enter func135,ntmps135;go_wp2;refine bodyPost_ret (v:=.pointer (some ⟨W.heap.size,0,none⟩)) (by simp[results,results135,go_sem]) rfl ⟨rfl,?_,Gr.alloc _ _⟩;exact⟨aa _ _ _ 0 _ rfl,aa _ _ _ 1 _ rfl,aa _ _ _ 2 _ rfl,aa _ _ _ 3 _ rfl,aa _ _ _ 4 _ rfl,aa _ _ _ 5 _ rfl,aa _ _ _ 6 _ rfl,λo=>World.frozen?_alloc_at _ _ _ _ rfl,OwnB.nil _ _,OwnB.nil _ _,λk d=>by cases d⟩
theorem BV (b:Nat)(c:Ck)(lv dv:Value)(W:World)(h:Rd b W c lv dv) :
  Calls prog 110 #[.pointer (some ⟨b,0,none⟩)] W λe a=>e=.returned (.string ⟨c.data.toArray⟩)∧W=a:=by
 have f:=fE h.d;have g:=h.c3;clear h;go_enter func110,ntmps110;go_wp2;refine bodyPost_ret (v:=.string ⟨c.data.toArray⟩) (by simp[results,results110,go_sem]) rfl ⟨rfl,rfl⟩
theorem BW (b:Nat)(c:Ck)(lv dv:Value)(W:World)(h:Rd b W c lv dv) :
  Calls prog 111 #[.pointer (some ⟨b,0,none⟩)] W λe f=>e=.returned (.bool (decide (c.st=4∧c.bad=0)))∧W=f:=by
 have g:=h.c0;have i:=h.c6;clear h;by_cases a:c.st=4
 ·by_cases h0:c.bad=0
  ·have e4:((c.st:Int)==4)=true:=(by rw[beq_iff_eq];omega);have e0:((c.bad:Int)==0)=true:=(by rw[beq_iff_eq];omega);have d:=qq (show decide (c.st=4∧c.bad=0)=true by simp[a,h0]);clear a h0;go_enter func111,ntmps111;go_wp2;refine bodyPost_ret (v:=.bool true) (by simp[results,results111,go_sem]) rfl ⟨by rw[d.out],rfl⟩
  ·have e4:((c.st:Int)==4)=true:=(by rw[beq_iff_eq];omega);have e0:((c.bad:Int)==0)=false:=qk.2 (by omega);have d:=qq (show decide (c.st=4∧c.bad=0)=false by simp[a,h0]);clear a h0;go_enter func111,ntmps111;go_wp2;refine bodyPost_ret (v:=.bool false) (by simp[results,results111,go_sem]) rfl ⟨by rw[d.out],rfl⟩
 ·have e4:((c.st:Int)==4)=false:=qk.2 (by omega);have d:=qq (show decide (c.st=4∧c.bad=0)=false by simp[a]);clear a;go_enter func111,ntmps111;go_wp2;refine bodyPost_ret (v:=.bool false) (by simp[results,results111,go_sem]) rfl ⟨by rw[d.out],rfl⟩
theorem DT (b:Nat)(c:Ck)(lv dv:Value)(W:World)(h:Rd b W c lv dv) :
  Calls prog 109 #[.pointer (some ⟨b,0,none⟩)] W λe a=>e=.returned (.int .i64 c.bad)∧W=a:=by
 have d:=h.c6;clear h;go_enter func109,ntmps109;go_wp2;refine bodyPost_ret (v:=.int .i64 c.bad) (by simp[results,results109,go_sem]) rfl ⟨rfl,rfl⟩
theorem da (L:List UInt8)(x:UInt8):crB (L++[x])=((x.toNat:Int)==13):=by
 unfold crB;rw[List.getLast?_append,Bool.eq_iff_iff];simp only[List.getLast?_singleton,Option.some_or,beq_iff_eq,Option.some.injEq];constructor
 ·intro e;rw[e];rfl
 ·intro e;exact UInt8.toNat_inj.1 (by show x.toNat=13;omega)
theorem dp (d:UInt8):((d.toNat:Int)==10)=(d==10):=by
 rw[Bool.eq_iff_iff,beq_iff_eq,beq_iff_eq];constructor
 ·intro e;exact UInt8.toNat_inj.1 (by show d.toNat=10;omega)
 ·intro e;rw[e];rfl
theorem uW (b:Nat)(c:Ck)(d:UInt8)(lv dv:Value)(W:World)(y:G W)(z:5<b)(h:Rd b W c lv dv)(q:CkOk c)(hl:c.line=[])(hs:c.st=0)(u:(d==10)=true) :
  Calls prog 137 #[.pointer (some ⟨b,0,none⟩),.int .u8 d.toNat] W λe B=>e=.returned (.tuple #[])∧RdPost b lv dv W (aw c d) B:=by
 obtain⟨U,hi,O,P,R⟩:=info_parts bL;have j:=qq h;have s:=qq y;have L:=qq z;have n:=dp d;obtain⟨p,cap,f⟩:=aJ h.l;rw[hl]at f;simp only[List.length_nil]at f;have o:=qq f;have N:=qq hl;have m:crB c.line=false:=by rw[hl];rfl
 have T:∀x:Later (Gr W),x.w.cell? ⟨b,1,none⟩=some (.slice p 0 cap):=λx=>(x.ok.cell h.c1).trans (by rw[f]);rw[u]at n;have r:=(q.zero hs).2.1;have I:=qq (show aw c d=bC c 400 by unfold aw;simp only[if_neg (show ¬c.st=3 by omega)];rw[if_neg (by omega)];rw[if_pos (by rw[m,u];rfl)]);have g:=h.c0;rw[hs]at g;have i:=h.c5;rw[r]at i;have k:=h.lt;clear u;clear h q hs y z m r;clear hl f;haveI:Nonempty (Later (Gr W)):=⟨⟨_,Gr.refl _⟩⟩;go_enter func137,ntmps137;go_wp2_with fail;refine ah (C:=Gr W) (by kernel_rfl) (by kernel_rfl) (Gr.drew' _) ?_;repeat (go_big_quiet_step (fail))
 refine wpQuiet_nil ?_;intro Y a;have F:=qq (j.out.gr a);have V:=a.cell g;have X:=a.cell i;have S:=(j.out.gr a).c1;rw[o.out]at S;have z1:=(j.out.gr a).fz 1;have z5:=(j.out.gr a).fz 5;have M:=(j.out.gr a).lt;have D:=qq (a.to_ch (Fp b lv dv));have t:=qq (s.out.gr a);clear T a g i k;have J:=F;have E:=D;have H:=t;go_wp2_with fail;refine(bt b c 400 lv dv _ J.out).mono ?_;rintro e Z⟨rfl,A⟩;have v:=qq A;clear A;go_wp2;go_end0;exact⟨rfl,by rw[I.out];exact v.out.after E.out bA⟩
theorem uX (b:Nat)(c:Ck)(d:UInt8)(lv dv:Value)(W:World)(Y:G W)(hb:5<b)(h:Rd b W c lv dv)(o:CkOk c)(hl:c.line=[])(hs:c.st=3)(L:(d==10)=false)(O:¬2048<c.tail+1) :
  Calls prog 137 #[.pointer (some ⟨b,0,none⟩),.int .u8 d.toNat] W λe W'=>e=.returned (.tuple #[])∧RdPost b lv dv W (aw c d) W':=by
 obtain⟨i0,hi,R,S,U⟩:=info_parts bL;have y:=qq h;have H:=qq Y;have J:=qq hb;have B:=dp d;obtain⟨p,cap,n⟩:=aJ h.l;rw[hl]at n;simp only[List.length_nil]at n;have q:=qq n;have M:=qq hl;have t:crB c.line=false:=by rw[hl];rfl
 have t1:∀x:Later (Gr W),x.w.cell? ⟨b,1,none⟩=some (.slice p 0 cap):=λx=>(x.ok.cell h.c1).trans (by rw[n]);obtain⟨m,hm⟩:∃m,c.tail+1=m:=⟨_,rfl⟩;have a4:(c.tail:Int)+1=m:=by omega
 have a2:=qq hm;have a3:(m:Int)≤2049:=by have:=(o.three hs).2.1;omega
 rw[L]at B;have a5:¬((2048:Int)<m):=by omega
 have D:=(o.three hs).1;have N:=(o.three hs).2.1;have hH:=qq (show aw c d={ c with line:=c.line++[d],tail:=m } by unfold aw;simp only[if_pos hs,hm];rw[if_neg (by omega),if_neg (by rw[t,L];decide),if_neg (by rw[t];decide),if_neg (λe=>by have:=e.1;omega)]);have v:=h.c0;rw[hs]at v;have F:=h.c5;have A:=h.lt;clear L;clear O;clear D N;clear h o hs Y hb t hm;clear hl n;haveI:Nonempty (Later (Gr W)):=⟨⟨_,Gr.refl _⟩⟩;go_enter func137,ntmps137;go_wp2_with fail;refine ah (C:=Gr W) (by kernel_rfl) (by kernel_rfl) (Gr.drew' _) ?_;repeat (go_big_quiet_step (fail))
 refine wpQuiet_nil ?_;intro V f;have h1:=qq (y.out.gr f);have q0:=f.cell v;have q5:=f.cell F;have q1:=(y.out.gr f).c1;rw[q.out]at q1;have z1:=(y.out.gr f).fz 1;have z5:=(y.out.gr f).fz 5;have a1:=(y.out.gr f).lt;have g1:=qq (f.to_ch (Fp b lv dv));have I:=qq (H.out.gr f);clear t1 f v F A;have Z:=qq (h1.out.set5 m);have gV:=qq (g1.out.trans (bK (b:=b) (lv:=lv) (dv:=dv) V 5 (.int .i64 m)));have a0:=qq (I.out.ch (Ch.setCell (T:=λk=>k=b) V (a:=⟨b,5,none⟩) rfl (.int .i64 m)) (λg hg=>by have:=J.out;show ¬g=b;omega));have s:=qq (show c.line.length=0 from(by rw[M.out];rfl));go_wp2_with (at_builtin;refine wpList_append_own_at _ rfl _ _ 100 rfl (b+1) 5 i0 (.int .u8 0) 1 1 underlying100 hi R S U rfl (by decide) lv c.line.length _ q.out.symm (Z.out.l.alloc _) ⟨V.heap.size,0,none⟩ 1 1 [.int .u8 d.toNat] rfl rfl (eF _ _ _ (by simp)) (by simp[Value.oneCell']) (by rw[s.out];unfold maxLen;omega) (by rw[s.out];omega) (by simp;omega) ?_;intro v' w3 r j _ z;have i:=gq r;obtain⟨g',X,E,_⟩:=OwnB.row i (by simp);rw[show(c.line++[d]).length=0+1 by rw[qw,s.out];rfl]at E;subst E;obtain⟨hp,⟨u,hu⟩,hz⟩:=Z.out.appended j (l':=c.line++[d]) i z;have P:=qq hp;clear hp r i j z);go_wp2;go_end0;exact⟨rfl,by rw[hH.out];exact P.out.after gV.out bA⟩
theorem uY (b:Nat)(c:Ck)(d:UInt8)(lv dv:Value)(W:World)(hG:G W)(hb:5<b)(h:Rd b W c lv dv)(m:CkOk c)(L:List UInt8)(x:UInt8)(hl:c.line=L++[x])(hs:c.st=0)(J:crB c.line=true)(X:(d==10)=true) :
  Calls prog 137 #[.pointer (some ⟨b,0,none⟩),.int .u8 d.toNat] W λe W'=>e=.returned (.tuple #[])∧RdPost b lv dv W (aw c d) W':=by
 obtain⟨i0,hi,b3,b4,b5⟩:=info_parts bL;have v:=qq h;have N:=qq hG;have V:=qq hb;have E:=dp d;obtain⟨g,cap,p,Z,a0,i,B⟩:=h.l.row (by rw[hl];simp);obtain⟨n,hn⟩:∃n,c.line.length=n:=⟨_,rfl⟩;obtain⟨k,u⟩:∃k,L.length=k:=⟨_,rfl⟩;have H:n=k+1:=by rw[←hn,hl,←u];simp
 have b2:(n:Int) - 1=k:=by omega
 have a3:decide (0<n)=true:=decide_eq_true (by omega);have b0:(k:Int)<n:=by omega
 have a9:(n:Int)≤2048:=by have:=m.zero hs;omega
 have a4:n≤cap:=hn▸B;rw[hn]at p;have j:=qq p;have F:=qq hn;have a1:=qq u;have a2:=qq hl;have D:crB c.line=((x.toNat:Int)==13):=by rw[hl];exact da L x
 have t1:∀y:Later (Gr W),y.w.cell? ⟨b,1,none⟩=some (.slice (some ⟨g,0,none⟩) n cap):=λy=>(y.ok.cell h.c1).trans (by rw[p]);have t2:∀y:Later (Gr W),y.w.cell? ⟨g,k,none⟩=some (.int .u8 x.toNat):=λy=>y.ok.cell ((i k (by omega)).trans (by simp only[hl];rw[List.getElem_append_right (by omega)];simp[u]));rw[X]at E;have hx:=D.symm.trans J;have a6:=qq hs;have Y:=m.data;have b1:=(m.live (by omega)).2.1;have q:c.line.length≤2048:=by have:=m.zero hs;omega
 have S:L.length≤900000:=by rw[hn]at q;omega
 have I:=(m.zero hs).2.1;have hH:=qq (show aw c d=gz { c with line:=[] } L by unfold aw;simp only[if_neg (show ¬c.st=3 by omega)];rw[if_neg (by omega)];rw[if_neg (by rw[J,X];decide),if_pos J,if_pos hs];rw[hl];simp only[List.dropLast_concat]);have r:=h.c0;rw[hs]at r;have s:=h.c5;rw[I]at s;have A:=h.lt;clear X J q;clear h m hs hG hb D I;clear hl p u hn a0 Z i H;haveI:Nonempty (Later (Gr W)):=⟨⟨_,Gr.refl _⟩⟩;go_enter func137,ntmps137;go_wp2_with fail;refine ah (C:=Gr W) (by kernel_rfl) (by kernel_rfl) (Gr.drew' _) ?_;repeat (go_big_quiet_step (fail))
 refine wpQuiet_nil ?_;intro M f;have h1:=qq (v.out.gr f);have q0:=f.cell r;have q5:=f.cell s;have q1:=(v.out.gr f).c1;rw[j.out]at q1;have z1:=(v.out.gr f).fz 1;have z5:=(v.out.gr f).fz 5;have a8:=(v.out.gr f).lt;have g1:=qq (f.to_ch (Fp b lv dv));have O:=qq (N.out.gr f);clear t1 f r s A t2 a3;have U:=h1;have gV:=g1;have R:=O;go_wp2_with fail;haveI:Nonempty (Later (Gr M)):=⟨⟨_,Gr.refl _⟩⟩;have t1:∀y:Later (Gr M),y.w.cell? ⟨b,1,none⟩=some (.slice (some ⟨g,0,none⟩) n cap):=λy=>(y.ok.cell U.out.c1).trans (by rw[j.out]);have t3:∀y:Later (Gr M),(convert 100 9 (.slice (some ⟨g,0,none⟩) k cap)).run prog y.w=.ok (.string ⟨L.toArray⟩) y.w:=λy=>by
   have:=lp (U.out.gr y.ok).l (g:=g) (cap:=cap) (by rw[j.out,←F.out]) k cap (by rw[F.out];omega)
   rwa [show c.line.take k=L by rw[a2.out,←a1.out];simp]at this
 refine ah (C:=Gr M) (by kernel_rfl) (by kernel_rfl) (Gr.drew' _) ?_;repeat (go_big_quiet_step (fail))
 refine wpQuiet_nil ?_;intro w3 o;have t:=U.out.gr o;have h4:=qq (t.set1 (OwnB.nil _ _) (λk u=>by cases u));have r0:=t.c0;try dsimp only at r0
 rw[a6.out]at r0;have r1:=t.c1;rw[j.out]at r1;have z3:=t.fz 1;have a7:=t.lt;have z:=R.out.gr o;have P:=qq (z.ch (Ch.setCell (T:=λk=>k=b) w3 (a:=⟨b,1,none⟩) rfl (.slice none 0 0)) (λg hg=>by have:=V.out;show ¬g=b;omega));have g4:=qq ((gV.out.trans (o.to_ch (Fp b lv dv))).trans (bK (b:=b) (lv:=lv) (dv:=dv) w3 1 (.slice none 0 0)));clear t1 t3 o z t q0 q1 q5 z1 z5;go_wp2_with fail;refine(BU b { c with line:=[] } L (.slice none 0 0) dv _ P.out h4.out Y S).mono ?_;rintro e w5⟨rfl,hp⟩;have a5:=qq hp;clear hp;go_wp2;go_end0;exact⟨rfl,by rw[hH.out];exact a5.out.after g4.out uH⟩
theorem sD (b:Nat)(c:Ck)(d:UInt8)(lv dv:Value)(W:World)(O:G W)(P:5<b)(h:Rd b W c lv dv)(o:CkOk c)(L:List UInt8)(x:UInt8)(hl:c.line=L++[x])(hs:c.st=3)(R:crB c.line=true)(I:2048<c.tail+1) :
  Calls prog 137 #[.pointer (some ⟨b,0,none⟩),.int .u8 d.toNat] W λe X=>e=.returned (.tuple #[])∧RdPost b lv dv W (aw c d) X:=by
 obtain⟨i0,hi,b2,b3,b4⟩:=info_parts bL;have q:=qq h;have B:=qq O;have E:=qq P;have S:=dp d;obtain⟨g,cap,j,F,H,i,s⟩:=h.l.row (by rw[hl];simp);obtain⟨n,hn⟩:∃n,c.line.length=n:=⟨_,rfl⟩;obtain⟨k,A⟩:∃k,L.length=k:=⟨_,rfl⟩;have v:n=k+1:=by rw[←hn,hl,←A];simp
 have b1:(n:Int) - 1=k:=by omega
 have J:decide (0<n)=true:=decide_eq_true (by omega);have a4:(k:Int)<n:=by omega
 have a3:(n:Int)≤2048:=by have:=o.three hs;omega
 have M:n≤cap:=hn▸s;rw[hn]at j;have u:=qq j;have b0:=qq hn;have a2:=qq A;have a5:=qq hl;have t:crB c.line=((x.toNat:Int)==13):=by rw[hl];exact da L x
 have t1:∀y:Later (Gr W),y.w.cell? ⟨b,1,none⟩=some (.slice (some ⟨g,0,none⟩) n cap):=λy=>(y.ok.cell h.c1).trans (by rw[j]);have t2:∀y:Later (Gr W),y.w.cell? ⟨g,k,none⟩=some (.int .u8 x.toNat):=λy=>y.ok.cell ((i k (by omega)).trans (by simp only[hl];rw[List.getElem_append_right (by omega)];simp[A]));obtain⟨m,hm⟩:∃m,c.tail+1=m:=⟨_,rfl⟩;have a8:(c.tail:Int)+1=m:=by omega
 have a6:=qq hm;have a7:(m:Int)≤2049:=by have:=(o.three hs).2.1;omega
 have a9:(2048:Int)<m:=by omega
 have hx:=t.symm.trans R;have hH:=qq (show aw c d=bC { c with tail:=m } 431 by unfold aw;simp only[if_pos hs,hm];rw[if_pos (by omega)]);have p:=h.c0;rw[hs]at p;have z:=h.c5;have r:=h.lt;clear I;clear R;clear h o hs O P t hm;clear hl j A hn H F i v;haveI:Nonempty (Later (Gr W)):=⟨⟨_,Gr.refl _⟩⟩;go_enter func137,ntmps137;go_wp2_with fail;refine ah (C:=Gr W) (by kernel_rfl) (by kernel_rfl) (Gr.drew' _) ?_;repeat (go_big_quiet_step (fail))
 refine wpQuiet_nil ?_;intro V f;have h1:=qq (q.out.gr f);have q0:=f.cell p;have q5:=f.cell z;have q1:=(q.out.gr f).c1;rw[u.out]at q1;have z1:=(q.out.gr f).fz 1;have z5:=(q.out.gr f).fz 5;have a1:=(q.out.gr f).lt;have Y:=qq (f.to_ch (Fp b lv dv));have D:=qq (B.out.gr f);clear t1 f p z r t2 J;have hV:=qq (h1.out.set5 m);have Z:=qq (Y.out.trans (bK (b:=b) (lv:=lv) (dv:=dv) V 5 (.int .i64 m)));have a0:=qq (D.out.ch (Ch.setCell (T:=λk=>k=b) V (a:=⟨b,5,none⟩) rfl (.int .i64 m)) (λg hg=>by have:=E.out;show ¬g=b;omega));go_wp2_with fail;refine(bt b { c with tail:=m } 431 lv dv _ hV.out).mono ?_;rintro e w2⟨rfl,U⟩;have N:=qq U;clear U;go_wp2;go_end0;exact⟨rfl,by rw[hH.out];exact N.out.after Z.out bA⟩
