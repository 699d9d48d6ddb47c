/-
  The text of a message that is joined, in memory: String and Reset of the builder inside the joiner.
-/
import Derived.Test.YtadobobfjnmdlaaGreatDoorQx
set_option linter.unnecessarySimpa false
set_option linter.unusedVariables false
set_option linter.unusedSimpArgs false
set_option maxHeartbeats 16000000
set_option maxRecDepth 100000
open Go.Lib (hid)
open Go.Proofs.Tryz
namespace Go.Proofs.YtadobobfjnmdlaaGreatDoor
open Go.RowKit Go.Shelf
attribute [local go_sem] Oper.semAt_some
theorem cellsByte:prog.cellsOf 5=1:=by kernel_rfl
theorem Ch.freeze {T:Nat→Prop} (w:World) {a:Addr} (ht:T a.block) (n:Nat):Ch T w (w.freeze a n):=by
 unfold World.freeze
 split
 ·exact Ch.refl T w
 ·exact⟨rfl,rfl,rfl,by simp,λk _ hn=>by
   simp only[Array.getElem?_modify]
   rw[if_neg (λe:a.block=k=>hn (by rw[←e];exact ht))]⟩
def StrRow (v:Value) (l:List UInt8) (p:Option Addr) (W':World):Prop :=
 (Builtin.unsafeSliceData_ #[100] 198 #[v]).run prog W'=.ok (.pointer p) W' ∧
 ∃ w2,(Builtin.unsafeString_ #[198,3] 9 #[.pointer p,.int .i64 l.length]).run prog W'=.ok (.string ⟨l.toArray⟩) w2∧Ch (λk=>v.ownBlock=some k) W' w2
theorem strRow_of {b:Nat} {W:World} {l:List UInt8} {v:Value} (h:BdJ b W l v):∃ p,∀ W',Gr W W'→StrRow v l p W':=by
 have hown:=h.own
 rcases hown.2 with⟨rfl,h0⟩ | ⟨g,cap,cur,rfl,hbg,hg,hnc,hcm,hcs,htake⟩
 ·have hl:l=[]:=List.eq_nil_of_length_eq_zero h0
  subst hl
  exact⟨none,λW' _=>⟨rfl,W',Lib.run_unsafeString_none W' _ _ _ _,Ch.refl _ _⟩⟩
 ·have hc0:cap≠0:=h.cp _ _ _ rfl
  refine⟨some ⟨g,0,none⟩,λW' hW=>⟨Lib.run_unsafeSliceData_row _ _ _ _ _ _ hc0,?_⟩⟩
  by_cases hl:l=[]
  ·subst hl
   exact⟨W',Lib.run_unsafeString_none W' _ _ _ _,Ch.refl _ _⟩
  ·refine⟨_,Lib.run_unsafeString_row W' 198 3 9 5 underlying198 cellsByte g cur.size ?_ l hl ?_ ?_ ?_,Ch.freeze (T:=λk=>some g=some k) (a:=⟨g,0,none⟩) _ rfl _⟩
   ·have hg':W'.heap[g]?=some (.cells cur 5 (0,0)):=(hW.block g (Array.getElem?_eq_some_iff.1 hg).1).trans hg
    simp[World.shape?,hg']
   ·omega
   ·unfold maxLen at hcm;omega
   ·intro j x hx
    have e:=hown.cells (g:=g) rfl j (.int .u8 x.toNat) (by simp[bcells,hx])
    exact (hW.cell e)
theorem jstring_any {b:Nat} {W:World} {l:List UInt8} {v:Value} (h:BdJ b W l v) :
  Calls prog 118 #[.pointer (some ⟨b,5,none⟩)] W λe w'=>e=.returned (.string ⟨l.toArray⟩)∧Ch (λk=>v.ownBlock=some k) W w':=by
 obtain⟨pv,cv,rfl⟩:=ownsRow_slice h.own
 obtain⟨p,hp⟩:=strRow_of h
 have c1:=h.cv
 have t6:∀ x:Later (Gr W),x.w.cell? ⟨b,6,none⟩=some (.slice pv l.length cv):=λx=>x.ok.cell c1
 have t7:∀ x:Later (Gr W),(Builtin.unsafeSliceData_ #[100] 198 #[.slice pv l.length cv]).run prog x.w=.ok (.pointer p) x.w:=λx=>(hp x.w x.ok).1
 have hp':=hid hp
 clear h hp c1
 go_enter func118,ntmps118
 haveI:Nonempty (Later (Gr W)):=⟨⟨W,Gr.refl W⟩⟩
 go_upto_region 1 with (fail)
 refine wp_region_later_tail (C:=Gr W) 10 (by kernel_rfl) (by kernel_rfl) (Gr.drew' _) ?_
 simp only[List.take_succ_cons,List.take_zero,List.drop_succ_cons,List.drop_zero]
 repeat (go_big_quiet_step (fail))
 refine wpQuiet_nil ?_
 intro w9 hg9
 obtain⟨_,w2,hUS,hch⟩:=hp'.out w9 hg9
 have hres:=hid ((hg9.to_ch _).trans hch)
 clear t6 t7 hch
 go_wp2
 go_ret
 exact⟨rfl,hres.out⟩
theorem jreset_any {b:Nat} {W:World} {v:Value} (h5:(W.cell? ⟨b,5,none⟩).isSome) (h6:W.cell? ⟨b,6,none⟩=some v) (hf:∀ o,W.frozen? ⟨b,o,none⟩=false) :
  Calls prog 188 #[.pointer (some ⟨b,5,none⟩)] W λe w'=>e=.returned (.tuple #[])∧(W.setCell ⟨b,5,none⟩ (.pointer none)).setCell ⟨b,6,none⟩ (.slice none 0 0)=w':=by
 obtain⟨u,hu⟩:=Option.isSome_iff_exists.1 h5
 have f5:=hf 5
 have f6:=hf 6
 clear hf h5
 go_enter func188,ntmps188
 go_wp2
 go_end0
 exact⟨rfl,rfl⟩
structure JnS (b:Nat) (W:World) (j:Jn) (v:Value) (q:Option Nat):Prop where
 c0:W.cell? ⟨b,0,none⟩=some (.int .i64 j.limit)
 c1:W.cell? ⟨b,1,none⟩=some (.bool true)
 c2:W.cell? ⟨b,2,none⟩=some (.int .i64 j.bad)
 c3:W.cell? ⟨b,3,none⟩=some (.int .i64 j.op)
 c4:W.cell? ⟨b,4,none⟩=some (.int .i64 j.sum)
 bd:BdJ b W j.text v
 c7:W.cell? ⟨b,7,none⟩=some (.pointer (q.map λc=>⟨c,0,none⟩))
 ck:∀ c,q=some c→UkAt c W j.check∧c≠b∧v.ownBlock≠some c
 c8:W.cell? ⟨b,8,none⟩=some (.bool j.begun)
 c9:W.cell? ⟨b,9,none⟩=some (.bool j.last)
 c10:W.cell? ⟨b,10,none⟩=some (.int .i64 j.lacks)
theorem JnS.lt {b:Nat} {W:World} {j:Jn} {v:Value} {q:Option Nat} (k:JnS b W j v q):b<W.heap.size:=cell_lt k.c0
theorem JnS.ch {b:Nat} {T:Nat→Prop} {W W':World} {j:Jn} {v:Value} {q:Option Nat} (k:JnS b W j v q) (hc:Ch T W W') (hT:¬T b) (hv:∀ i,v.ownBlock=some i→¬T i) (hq:∀ i,q=some i→¬T i):JnS b W' j v q :=
 have cc:∀ {i u},W.cell? ⟨b,i,none⟩=some u→W'.cell? ⟨b,i,none⟩=some u:=fun {i u} hh=>(hc.cell (p:=⟨b,i,none⟩) (cell_lt hh) hT).trans hh
 ⟨cc k.c0,cc k.c1,cc k.c2,cc k.c3,cc k.c4,k.bd.ch hc hT hv,cc k.c7,λc e=>⟨(k.ck c e).1.ch hc (hq c e),(k.ck c e).2⟩,cc k.c8,cc k.c9,cc k.c10⟩
theorem JnS.gr {b:Nat} {W W':World} {j:Jn} {v:Value} {q:Option Nat} (k:JnS b W j v q) (g:Gr W W'):JnS b W' j v q:=k.ch (g.to_ch (λ_=>False)) id (λ_ _=>id) (λ_ _=>id)
section
variable {b:Nat} {W:World} {j:Jn} {v:Value} {q:Option Nat}
theorem JnS.ck' (k:JnS b W j v q) (o:Nat) (u:Value):∀ c,q=some c→UkAt c (W.setCell ⟨b,o,none⟩ u) j.check∧c≠b∧v.ownBlock≠some c :=
 λc e=>⟨(k.ck c e).1.ch (Ch.setCell (T:=λi=>i=b) W (a:=⟨b,o,none⟩) rfl u) (k.ck c e).2.1,(k.ck c e).2⟩
theorem JnS.setBad (k:JnS b W j v q) (n:Nat):JnS b (W.setCell ⟨b,2,none⟩ (.int .i64 n)) { j with bad:=n } v q :=
 ⟨cell_off k.c0 (by decide),cell_off k.c1 (by decide),cell_set_same k.c2,cell_off k.c3 (by decide),cell_off k.c4 (by decide),k.bd.set (by decide) (by decide),cell_off k.c7 (by decide),k.ck' _ _,cell_off k.c8 (by decide),cell_off k.c9 (by decide),cell_off k.c10 (by decide)⟩
theorem JnS.setOp (k:JnS b W j v q) (n:Nat):JnS b (W.setCell ⟨b,3,none⟩ (.int .i64 n)) { j with op:=n } v q :=
 ⟨cell_off k.c0 (by decide),cell_off k.c1 (by decide),cell_off k.c2 (by decide),cell_set_same k.c3,cell_off k.c4 (by decide),k.bd.set (by decide) (by decide),cell_off k.c7 (by decide),k.ck' _ _,cell_off k.c8 (by decide),cell_off k.c9 (by decide),cell_off k.c10 (by decide)⟩
theorem JnS.setSum (k:JnS b W j v q) (n:Nat):JnS b (W.setCell ⟨b,4,none⟩ (.int .i64 n)) { j with sum:=n } v q :=
 ⟨cell_off k.c0 (by decide),cell_off k.c1 (by decide),cell_off k.c2 (by decide),cell_off k.c3 (by decide),cell_set_same k.c4,k.bd.set (by decide) (by decide),cell_off k.c7 (by decide),k.ck' _ _,cell_off k.c8 (by decide),cell_off k.c9 (by decide),cell_off k.c10 (by decide)⟩
theorem JnS.setBegun (k:JnS b W j v q) (n:Bool):JnS b (W.setCell ⟨b,8,none⟩ (.bool n)) { j with begun:=n } v q :=
 ⟨cell_off k.c0 (by decide),cell_off k.c1 (by decide),cell_off k.c2 (by decide),cell_off k.c3 (by decide),cell_off k.c4 (by decide),k.bd.set (by decide) (by decide),cell_off k.c7 (by decide),k.ck' _ _,cell_set_same k.c8,cell_off k.c9 (by decide),cell_off k.c10 (by decide)⟩
theorem JnS.setLast (k:JnS b W j v q) (n:Bool):JnS b (W.setCell ⟨b,9,none⟩ (.bool n)) { j with last:=n } v q :=
 ⟨cell_off k.c0 (by decide),cell_off k.c1 (by decide),cell_off k.c2 (by decide),cell_off k.c3 (by decide),cell_off k.c4 (by decide),k.bd.set (by decide) (by decide),cell_off k.c7 (by decide),k.ck' _ _,cell_off k.c8 (by decide),cell_set_same k.c9,cell_off k.c10 (by decide)⟩
theorem JnS.setLacks (k:JnS b W j v q) (n:Nat):JnS b (W.setCell ⟨b,10,none⟩ (.int .i64 n)) { j with lacks:=n } v q :=
 ⟨cell_off k.c0 (by decide),cell_off k.c1 (by decide),cell_off k.c2 (by decide),cell_off k.c3 (by decide),cell_off k.c4 (by decide),k.bd.set (by decide) (by decide),cell_off k.c7 (by decide),k.ck' _ _,cell_off k.c8 (by decide),cell_off k.c9 (by decide),cell_set_same k.c10⟩
theorem JnS.setCheck (k:JnS b W j v q) {c:Nat} {u:Uk} (hu:UkAt c W u) (hcb:c≠b) (hv:v.ownBlock≠some c):JnS b (W.setCell ⟨b,7,none⟩ (.pointer (some ⟨c,0,none⟩))) { j with check:=u } v (some c) :=
 ⟨cell_off k.c0 (by decide),cell_off k.c1 (by decide),cell_off k.c2 (by decide),cell_off k.c3 (by decide),cell_off k.c4 (by decide),k.bd.set (by decide) (by decide),cell_set_same k.c7,λc' e=>by cases e;exact⟨hu.ch (Ch.setCell (T:=λi=>i=b) W (a:=⟨b,7,none⟩) rfl _) hcb,hcb,hv⟩,cell_off k.c8 (by decide),cell_off k.c9 (by decide),cell_off k.c10 (by decide)⟩
end
def JnOk (j:Jn):Prop:=j.limit≤1099511627776∧j.sum≤j.limit∧j.text.length≤j.sum∧j.lacks≤j.limit∧(j.begun=true→j.text.length+j.lacks≤j.sum)∧j.bad≤1009∧j.op≤2
theorem jn0_ok {n:Nat} (h:n≤1099511627776):JnOk (jn0 n):=⟨h,Nat.zero_le _,Nat.le_refl _,Nat.zero_le _,λe=>(by cases e),Nat.zero_le _,Nat.zero_le _⟩
theorem jnFail_ok {j:Jn} (h:JnOk j) {c:Nat} (hc:c≤1009):JnOk (jnFail j c):=by
 unfold jnFail
 split
 ·exact⟨h.1,h.2.1,h.2.2.1,h.2.2.2.1,h.2.2.2.2.1,hc,h.2.2.2.2.2.2⟩
 ·exact h
theorem jnone_any {b:Nat} {W:World} {j:Jn} {v:Value} {q:Option Nat} (k:JnS b W j v q) :
  Calls prog 183 #[.pointer (some ⟨b,0,none⟩)] W λe w'=>e=.returned (.bool false)∧W=w':=by
 have c1:=k.c1
 clear k
 go_enter func183,ntmps183
 go_wp2
 go_ret
 exact⟨rfl,rfl⟩
theorem jfails_any {b:Nat} {W:World} {j:Jn} {v:Value} {q:Option Nat} (k:JnS b W j v q) (c:Nat) :
  Calls prog 184 #[.pointer (some ⟨b,0,none⟩),.int .i64 c] W λe w'=>e=.returned (.int .i64 (jnFail j c).bad)∧JnS b w' (jnFail j c) v q∧Ch (λi=>i=b) W w':=by
 have c2:=k.c2
 have fz:=k.bd.fz
 have k':=hid k
 clear k
 by_cases h:j.bad=0
 ·have hv:=hid (show jnFail j c={ j with bad:=c } by unfold jnFail;rw[if_pos h])
  rw[h] at c2
  go_enter func184,ntmps184
  go_wp2
  go_ret
  rw[hv.out]
  exact⟨rfl,k'.out.setBad c,Ch.setCell (T:=λi=>i=b) _ (a:=⟨b,2,none⟩) rfl _⟩
 ·have hv:=hid (show jnFail j c=j by unfold jnFail;rw[if_neg h])
  have hz:((j.bad:Int)==0)=false:=beq_eq_false_iff_ne.2 (by omega)
  clear h
  go_enter func184,ntmps184
  go_wp2
  go_ret
  rw[hv.out]
  exact⟨rfl,k'.out,Ch.refl _ _⟩
theorem jnew_any (W:World) (n:Nat) (hn:n≤1099511627776):Calls prog 64 #[.int .i64 n] W λe w'=>e=.returned (.tuple #[.pointer (some ⟨W.heap.size,0,none⟩),.int .i64 0])∧JnS W.heap.size w' (jn0 n) (.slice none 0 0) none∧Gr W w'∧w'.heap.size=W.heap.size+1:=by
 have h1:((n:Int)<0)=False:=by simp
 have h2:((1099511627776:Int)<n)=False:=by simp;omega
 go_enter func64,ntmps64
 go_wp2
 go_ret2
 refine⟨rfl,⟨cell_new7 _ _ _ 0 _ rfl,cell_new7 _ _ _ 1 _ rfl,cell_new7 _ _ _ 2 _ rfl,cell_new7 _ _ _ 3 _ rfl,cell_new7 _ _ _ 4 _ rfl,⟨.inl (cell_new7 _ _ _ 5 _ rfl),cell_new7 _ _ _ 6 _ rfl,⟨rfl,.inl ⟨rfl,rfl⟩⟩,(by intro e;cases e),(by intro a n c e;cases e),?_,λ_=>World.frozen?_alloc_at _ _ _ _ rfl⟩,cell_new7 _ _ _ 7 _ rfl,(by intro c e;cases e),cell_new7 _ _ _ 8 _ rfl,cell_new7 _ _ _ 9 _ rfl,cell_new7 _ _ _ 10 _ rfl⟩,Gr.alloc _ _,by simp⟩
 unfold World.shape? World.alloc
 rw[show (W.heap.push _)[W.heap.size]?=_ from Array.getElem?_push_size]
 rfl
theorem BdJ.own_lt {b:Nat} {W:World} {l:List UInt8} {v:Value} (h:BdJ b W l v) {g:Nat} (e:v.ownBlock=some g):g<W.heap.size:=by
 rcases h.own.2 with⟨rfl,_⟩ | ⟨g',cap,cur,rfl,_,hg,_⟩
 ·cases e
 ·cases e
  exact (Array.getElem?_eq_some_iff.1 hg).1
def JbPost (b:Nat) (j:Jn) (v:Value) (q:Option Nat) (W W':World):Prop :=
 ∃ q',JnS b W' j v q'∧Ch (λi=>i=b) W W'∧(q'=q∨∃ c,q'=some c∧W.heap.size≤c)∧(q'=none→q=none∧j.op=0)
theorem jnBegin_ok {j:Jn} (h:JnOk j) {last:Bool} {op len:Nat}:JnOk (jnBegin j last op len):=by
 unfold jnBegin
 split
 ·exact h
 ·split
  ·exact jnFail_ok h (by decide)
  ·rename_i hA
   split
   ·exact jnFail_ok h (by decide)
   ·obtain⟨h1,h2,h3,h4,h5,h6,h7⟩:=h
    have hop:op≤2:=by
     simp only[Bool.or_eq_true,not_or,Bool.and_eq_true,not_and,bne_iff_ne,ne_eq,Decidable.not_not] at hA
     by_cases e:op=0
     ·omega
     ·by_cases e1:op=1
      ·omega
      ·have:=hA.1.2 e e1;omega
    split
    ·exact⟨h1,by dsimp only;omega,by dsimp only;omega,by dsimp only;omega,λ_=>by dsimp only;omega,h6,hop⟩
    ·exact⟨h1,by dsimp only;omega,by dsimp only;omega,by dsimp only;omega,λ_=>by dsimp only;omega,h6,h7⟩
section
variable {b:Nat} {W:World} {j:Jn} {v:Value} {q:Option Nat}
theorem JbPost.same (k:JnS b W j v q) (hq:q=none→j.op=0):JbPost b j v q W W:=⟨q,k,Ch.refl _ _,.inl rfl,λe=>⟨e,hq e⟩⟩
theorem jnFail_op (j:Jn) (c:Nat):(jnFail j c).op=j.op:=by unfold jnFail;split <;> rfl
theorem jbegin_bad (k:JnS b W j v q) (hq:q=none→j.op=0) (last:Bool) (op len:Nat) (h:j.bad≠0) :
  Calls prog 149 #[.pointer (some ⟨b,0,none⟩),.bool last,.int .i64 op,.int .i64 len] W λe w'=>e=.returned (.int .i64 (jnBegin j last op len).bad)∧JbPost b (jnBegin j last op len) v q W w':=by
 have hv:=hid (show jnBegin j last op len=j by unfold jnBegin;rw[if_pos h])
 have c2:=k.c2
 have hz:((j.bad:Int) != 0)=true:=bne_iff_ne.2 (by omega)
 have hn:=hid (jnone_any k)
 have hp:=hid (JbPost.same k hq)
 clear k h hq
 go_enter func149,ntmps149
 go_wp2_with fail
 refine hn.out.mono ?_
 rintro e w1⟨rfl,rfl⟩
 go_wp2
 go_ret
 rw[hv.out]
 exact⟨rfl,hp.out⟩
def begA (j:Jn) (op:Nat):Bool:=j.begun||(op != 0&&(op != 1&&op != 2))||((op==0) != (j.op != 0))
theorem jbegin_wrong (k:JnS b W j v q) (hq:q=none→j.op=0) (last:Bool) (op len:Nat) (h:j.bad=0) (hA:begA j op=true) :
  Calls prog 149 #[.pointer (some ⟨b,0,none⟩),.bool last,.int .i64 op,.int .i64 len] W λe w'=>e=.returned (.int .i64 (jnBegin j last op len).bad)∧JbPost b (jnBegin j last op len) v q W w':=by
 have hv:=hid (show jnBegin j last op len=jnFail j 1002 by unfold jnBegin;rw[if_neg (by omega)];exact if_pos hA)
 have c2:=k.c2
 have c3:=k.c3
 have c8:=k.c8
 rw[h] at c2
 have hn:=hid (jnone_any k)
 have hf:=hid (jfails_any k 1002)
 have hq':=hid hq
 have hlen:((len:Int)<0)=False:=by simp
 have hA':j.begun=true∨(j.begun=false∧2<op)∨(j.begun=false∧op=0∧j.op=0)∨(j.begun=false∧op=1∧j.op≠0)∨(j.begun=false∧op=2∧j.op≠0):=by
  unfold begA at hA
  cases hb:j.begun
  ·right
   rw[hb] at hA
   by_cases h2:2<op
   ·exact .inl ⟨rfl,h2⟩
   ·have:op=0∨op=1∨op=2:=by omega
    rcases this with rfl | rfl | rfl
    ·refine .inr (.inl ⟨rfl,rfl,?_⟩);simpa using hA
    ·refine .inr (.inr (.inl ⟨rfl,rfl,?_⟩));simpa using hA
    ·refine .inr (.inr (.inr ⟨rfl,rfl,?_⟩));simpa using hA
  ·exact .inl rfl
 clear hA k h hq
 have hend:∀ w':World,JnS b w' (jnFail j 1002) v q∧Ch (λi=>i=b) W w'→JbPost b (jnFail j 1002) v q W w':=λw' hh=>⟨q,hh.1,hh.2,.inl rfl,λe=>⟨e,by rw[jnFail_op];exact hq'.out e⟩⟩
 have hend':=hid hend
 clear hend
 rcases hA' with hA | ⟨hA,h2⟩ | ⟨hA,rfl,ho⟩ | ⟨hA,rfl,ho⟩ | ⟨hA,rfl,ho⟩
 ·rw[hA] at c8
  go_enter func149,ntmps149
  go_wp2_with fail
  refine hn.out.mono ?_
  rintro e w1⟨rfl,rfl⟩
  go_wp2_with fail
  refine hf.out.mono ?_
  rintro e w1⟨rfl,hw⟩
  go_wp2
  go_ret
  rw[hv.out]
  exact⟨rfl,hend'.out _ hw⟩
 ·rw[hA] at c8
  have z0:((op:Int) != 0)=true:=bne_iff_ne.2 (by omega)
  have z1:((op:Int) != 1)=true:=bne_iff_ne.2 (by omega)
  have z2:((op:Int) != 2)=true:=bne_iff_ne.2 (by omega)
  clear h2
  go_enter func149,ntmps149
  go_wp2_with fail
  refine hn.out.mono ?_
  rintro e w1⟨rfl,rfl⟩
  go_wp2_with fail
  refine hf.out.mono ?_
  rintro e w1⟨rfl,hw⟩
  go_wp2
  go_ret
  rw[hv.out]
  exact⟨rfl,hend'.out _ hw⟩
 ·rw[hA] at c8
  rw[ho] at c3
  go_enter func149,ntmps149
  go_wp2_with fail
  refine hn.out.mono ?_
  rintro e w1⟨rfl,rfl⟩
  go_wp2_with fail
  refine hf.out.mono ?_
  rintro e w1⟨rfl,hw⟩
  go_wp2
  go_ret
  rw[hv.out]
  exact⟨rfl,hend'.out _ hw⟩
 all_goals
  rw[hA] at c8
  have z0:((j.op:Int) != 0)=true:=bne_iff_ne.2 (by omega)
  clear ho
  go_enter func149,ntmps149
  go_wp2_with fail
  refine hn.out.mono ?_
  rintro e w1⟨rfl,rfl⟩
  go_wp2_with fail
  refine hf.out.mono ?_
  rintro e w1⟨rfl,hw⟩
  go_wp2
  go_ret
  rw[hv.out]
  exact⟨rfl,hend'.out _ hw⟩
theorem begB {j:Jn} {op:Nat} (hA:begA j op=false):j.begun=false∧((op=0∧j.op≠0)∨(op=1∧j.op=0)∨(op=2∧j.op=0)):=by
 unfold begA at hA
 cases hb:j.begun
 ·rw[hb] at hA
  refine⟨rfl,?_⟩
  by_cases h2:2<op
  ·exfalso
   have e0:(op != 0)=true:=bne_iff_ne.2 (by omega)
   have e1:(op != 1)=true:=bne_iff_ne.2 (by omega)
   have e2:(op != 2)=true:=bne_iff_ne.2 (by omega)
   rw[e0,e1,e2] at hA
   simp at hA
  ·have:op=0∨op=1∨op=2:=by omega
   rcases this with rfl | rfl | rfl
   ·refine .inl ⟨rfl,?_⟩;simpa using hA
   ·refine .inr (.inl ⟨rfl,?_⟩);simpa using hA
   ·refine .inr (.inr ⟨rfl,?_⟩);simpa using hA
 ·rw[hb] at hA;simp at hA
theorem jbegin_much (k:JnS b W j v q) (hq:q=none→j.op=0) (last:Bool) (op len:Nat) (h:j.bad=0) (hA:begA j op=false) (ok:JnOk j) (hlen:len≤9223372036854775807) (hm:j.limit<j.sum+len) :
  Calls prog 149 #[.pointer (some ⟨b,0,none⟩),.bool last,.int .i64 op,.int .i64 len] W λe w'=>e=.returned (.int .i64 (jnBegin j last op len).bad)∧JbPost b (jnBegin j last op len) v q W w':=by
 have hv:=hid (show jnBegin j last op len=jnFail j 1009 by unfold jnBegin;rw[if_neg (by omega)];exact (if_neg (λe=>absurd (e.symm.trans hA) (by decide))).trans (if_pos (by omega)))
 have c0:=k.c0
 have c2:=k.c2
 have c3:=k.c3
 have c4:=k.c4
 have c8:=k.c8
 rw[h] at c2
 have hn:=hid (jnone_any k)
 have hf:=hid (show ∀ w',Gr W w'→Calls prog 184 #[.pointer (some ⟨b,0,none⟩),.int .i64 1009] w' λe w9=>e=.returned (.int .i64 (jnFail j 1009).bad)∧JnS b w9 (jnFail j 1009) v q∧Ch (λi=>i=b) w' w9 from λw' g=>jfails_any (k.gr g) 1009)
 have hl0:((len:Int)<0)=False:=by simp
 have hend:∀ w':World,JnS b w' (jnFail j 1009) v q∧Ch (λi=>i=b) W w'→JbPost b (jnFail j 1009) v q W w':=λw' hh=>⟨q,hh.1,hh.2,.inl rfl,λe=>⟨e,by rw[jnFail_op];exact hq e⟩⟩
 have hend':=hid hend
 obtain⟨hb,hB⟩:=begB hA
 obtain⟨o1,o2,_⟩:=ok
 have hm':((j.limit:Int) - j.sum<len)=True:=by simp;omega
 rw[hb] at c8
 clear hend hA k h hq hm hb
 rcases hB with⟨rfl,ho⟩ | ⟨rfl,ho⟩ | ⟨rfl,ho⟩
 ·have z0:((j.op:Int) != 0)=true:=bne_iff_ne.2 (by omega)
  clear ho
  go_enter func149,ntmps149
  go_wp2_with fail
  refine hn.out.mono ?_
  rintro e w1⟨rfl,rfl⟩
  go_wp2_with fail
  go_quiet (fail)
  obtain⟨wd,hwd⟩:∃ wd,W.drewN nq=wd:=⟨_,rfl⟩
  have gd:=hid (show Gr W wd from hwd▸below_drewNm _ _)
  rw[hwd]
  clear hwd
  go_wp2_with fail
  refine (hf.out wd gd.out).mono ?_
  rintro e w1⟨rfl,hw⟩
  go_wp2
  go_ret
  rw[hv.out]
  exact⟨rfl,hend'.out _ ⟨hw.1,(gd.out.to_ch _).trans hw.2⟩⟩
 all_goals
  rw[ho] at c3
  clear ho
  go_enter func149,ntmps149
  go_wp2_with fail
  refine hn.out.mono ?_
  rintro e w1⟨rfl,rfl⟩
  go_wp2_with fail
  go_quiet (fail)
  obtain⟨wd,hwd⟩:∃ wd,W.drewN nq=wd:=⟨_,rfl⟩
  have gd:=hid (show Gr W wd from hwd▸below_drewNm _ _)
  rw[hwd]
  clear hwd
  go_wp2_with fail
  refine (hf.out wd gd.out).mono ?_
  rintro e w1⟨rfl,hw⟩
  go_wp2
  go_ret
  rw[hv.out]
  exact⟨rfl,hend'.out _ ⟨hw.1,(gd.out.to_ch _).trans hw.2⟩⟩
theorem jbegin_ok (k:JnS b W j v q) (hq:q=none→j.op=0) (last:Bool) (op len:Nat) (h:j.bad=0) (hA:begA j op=false) (ok:JnOk j) (hm:j.sum+len≤j.limit) :
  Calls prog 149 #[.pointer (some ⟨b,0,none⟩),.bool last,.int .i64 op,.int .i64 len] W λe w'=>e=.returned (.int .i64 (jnBegin j last op len).bad)∧JbPost b (jnBegin j last op len) v q W w':=by
 have hv1:jnBegin j last op len=if op≠0 then { j with op:=op,check:=uk0,begun:=true,last:=last,lacks:=len,sum:=j.sum+len } else { j with begun:=true,last:=last,lacks:=len,sum:=j.sum+len }:=by unfold jnBegin;rw[if_neg (by omega)];exact (if_neg (λe=>absurd (e.symm.trans hA) (by decide))).trans (if_neg (by omega))
 have c0:=k.c0
 have c2:=k.c2
 have c3:=k.c3
 have c4:=k.c4
 have c7:=k.c7
 have c8:=k.c8
 have c9:=k.c9
 have c10:=k.c10
 have fz:=k.bd.fz
 have hbs:=k.lt
 rw[h] at c2
 have hn:=hid (jnone_any k)
 have hl0:((len:Int)<0)=False:=by simp
 obtain⟨hb,hB⟩:=begB hA
 obtain⟨o1,o2,_⟩:=ok
 have hm':((j.limit:Int) - j.sum<len)=False:=by simp;omega
 have k':=hid k
 have hq':=hid hq
 have hb0:=hid h
 rw[hb] at c8
 clear hA k h hq hb
 rcases hB with⟨rfl,ho⟩ | ⟨rfl,ho⟩ | ⟨rfl,ho⟩
 ·have z0:((j.op:Int) != 0)=true:=bne_iff_ne.2 (by omega)
  have hv:=hid hv1
  clear ho hv1
  go_enter func149,ntmps149
  go_wp2_with fail
  refine hn.out.mono ?_
  rintro e w1⟨rfl,rfl⟩
  go_wp2_with fail
  go_quiet (fail)
  obtain⟨wd,hwd⟩:∃ wd,W.drewN nq=wd:=⟨_,rfl⟩
  have gd:=hid (show Gr W wd from hwd▸below_drewNm _ _)
  rw[hwd]
  clear hwd
  have kd:=hid (k'.out.gr gd.out)
  have c3:=kd.out.c3
  have c4:=kd.out.c4
  have c7:=kd.out.c7
  have c8:=kd.out.c8
  have c9:=kd.out.c9
  have c10:=kd.out.c10
  have fz:=kd.out.bd.fz
  have hbs:=kd.out.lt
  go_wp2_with fail
  go_ret
  rw[hv.out]
  refine⟨by rw[if_neg (by simp)];rw[hb0.out];rfl,q,(((kd.out.setBegun true).setLast last).setLacks len).setSum (j.sum+len),(gd.out.to_ch _).trans ?_,.inl rfl,λe=>⟨e,hq'.out e⟩⟩
  exact (((Ch.setCell (T:=λi=>i=b) _ (a:=⟨b,8,none⟩) rfl _).trans (Ch.setCell (T:=λi=>i=b) _ (a:=⟨b,9,none⟩) rfl _)).trans (Ch.setCell (T:=λi=>i=b) _ (a:=⟨b,10,none⟩) rfl _)).trans (Ch.setCell (T:=λi=>i=b) _ (a:=⟨b,4,none⟩) rfl _)
 ·rw[ho] at c3
  have hv:=hid hv1
  have ho':=hid ho
  clear ho hv1
  go_enter func149,ntmps149
  go_wp2_with fail
  refine hn.out.mono ?_
  rintro e w1⟨rfl,rfl⟩
  go_wp2_with fail
  go_quiet (fail)
  obtain⟨wd,hwd⟩:∃ wd,W.drewN nq=wd:=⟨_,rfl⟩
  have gd:=hid (show Gr W wd from hwd▸below_drewNm _ _)
  rw[hwd]
  clear hwd
  have kd:=hid (k'.out.gr gd.out)
  have c3:=kd.out.c3
  have c4:=kd.out.c4
  have c7:=kd.out.c7
  have c8:=kd.out.c8
  have c9:=kd.out.c9
  have c10:=kd.out.c10
  have fz:=kd.out.bd.fz
  have hbs:=kd.out.lt
  go_wp2_with fail
  obtain⟨we,hwe⟩:∃ we,wd.setCell ⟨b,3,none⟩ (.int .i64 1)=we:=⟨_,rfl⟩
  rw[hwe]
  have ke:=hid (show JnS b we { j with op:=1 } v q from hwe▸kd.out.setOp 1)
  have ce:=hid (show Ch (λi=>i=b) wd we from hwe▸Ch.setCell (T:=λi=>i=b) wd (a:=⟨b,3,none⟩) rfl _)
  have hnew:=unew_any we
  obtain⟨C,hC⟩:∃ C,we.heap.size=C:=⟨_,rfl⟩
  rw[hC] at hnew
  have hCb:C≠b:=by have:=ke.out.lt;omega
  have hCv:v.ownBlock≠some C:=λe=>by have:=ke.out.bd.own_lt e;omega
  have hCW:=hid (show W.heap.size≤C from hC▸Nat.le_trans gd.out.size ce.out.size)
  clear hwe c3 c4 c7 c8 c9 c10 fz hbs hC
  refine hnew.mono ?_
  clear hnew
  rintro e w2⟨rfl,hu,g2⟩
  have k2:=hid (ke.out.gr g2)
  have c4:=k2.out.c4
  have c7:=k2.out.c7
  have c8:=k2.out.c8
  have c9:=k2.out.c9
  have c10:=k2.out.c10
  have fz:=k2.out.bd.fz
  have hbs:=k2.out.lt
  have hu':=hid hu
  have g2':=hid g2
  dsimp only at c4 c8 c9 c10
  clear hu g2
  go_wp2
  go_ret
  rw[hv.out]
  refine⟨by rw[if_pos (by decide)];show _=Ending.returned (Value.int .i64 j.bad);rw[hb0.out];rfl,some C,((((k2.out.setCheck hu'.out hCb hCv).setBegun true).setLast last).setLacks len).setSum (j.sum+len),?_,.inr ⟨C,rfl,hCW.out⟩,λe=>by cases e⟩
  exact (((gd.out.to_ch _).trans ce.out).trans (g2'.out.to_ch _)).trans (((((Ch.setCell (T:=λi=>i=b) _ (a:=⟨b,7,none⟩) rfl _).trans (Ch.setCell (T:=λi=>i=b) _ (a:=⟨b,8,none⟩) rfl _)).trans (Ch.setCell (T:=λi=>i=b) _ (a:=⟨b,9,none⟩) rfl _)).trans (Ch.setCell (T:=λi=>i=b) _ (a:=⟨b,10,none⟩) rfl _)).trans (Ch.setCell (T:=λi=>i=b) _ (a:=⟨b,4,none⟩) rfl _))
 ·rw[ho] at c3
  have hv:=hid hv1
  have ho':=hid ho
  clear ho hv1
  go_enter func149,ntmps149
  go_wp2_with fail
  refine hn.out.mono ?_
  rintro e w1⟨rfl,rfl⟩
  go_wp2_with fail
  go_quiet (fail)
  obtain⟨wd,hwd⟩:∃ wd,W.drewN nq=wd:=⟨_,rfl⟩
  have gd:=hid (show Gr W wd from hwd▸below_drewNm _ _)
  rw[hwd]
  clear hwd
  have kd:=hid (k'.out.gr gd.out)
  have c3:=kd.out.c3
  have c4:=kd.out.c4
  have c7:=kd.out.c7
  have c8:=kd.out.c8
  have c9:=kd.out.c9
  have c10:=kd.out.c10
  have fz:=kd.out.bd.fz
  have hbs:=kd.out.lt
  go_wp2_with fail
  obtain⟨we,hwe⟩:∃ we,wd.setCell ⟨b,3,none⟩ (.int .i64 2)=we:=⟨_,rfl⟩
  rw[hwe]
  have ke:=hid (show JnS b we { j with op:=2 } v q from hwe▸kd.out.setOp 2)
  have ce:=hid (show Ch (λi=>i=b) wd we from hwe▸Ch.setCell (T:=λi=>i=b) wd (a:=⟨b,3,none⟩) rfl _)
  have hnew:=unew_any we
  obtain⟨C,hC⟩:∃ C,we.heap.size=C:=⟨_,rfl⟩
  rw[hC] at hnew
  have hCb:C≠b:=by have:=ke.out.lt;omega
  have hCv:v.ownBlock≠some C:=λe=>by have:=ke.out.bd.own_lt e;omega
  have hCW:=hid (show W.heap.size≤C from hC▸Nat.le_trans gd.out.size ce.out.size)
  clear hwe c3 c4 c7 c8 c9 c10 fz hbs hC
  refine hnew.mono ?_
  clear hnew
  rintro e w2⟨rfl,hu,g2⟩
  have k2:=hid (ke.out.gr g2)
  have c4:=k2.out.c4
  have c7:=k2.out.c7
  have c8:=k2.out.c8
  have c9:=k2.out.c9
  have c10:=k2.out.c10
  have fz:=k2.out.bd.fz
  have hbs:=k2.out.lt
  have hu':=hid hu
  have g2':=hid g2
  dsimp only at c4 c8 c9 c10
  clear hu g2
  go_wp2
  go_ret
  rw[hv.out]
  refine⟨by rw[if_pos (by decide)];show _=Ending.returned (Value.int .i64 j.bad);rw[hb0.out];rfl,some C,((((k2.out.setCheck hu'.out hCb hCv).setBegun true).setLast last).setLacks len).setSum (j.sum+len),?_,.inr ⟨C,rfl,hCW.out⟩,λe=>by cases e⟩
  exact (((gd.out.to_ch _).trans ce.out).trans (g2'.out.to_ch _)).trans (((((Ch.setCell (T:=λi=>i=b) _ (a:=⟨b,7,none⟩) rfl _).trans (Ch.setCell (T:=λi=>i=b) _ (a:=⟨b,8,none⟩) rfl _)).trans (Ch.setCell (T:=λi=>i=b) _ (a:=⟨b,9,none⟩) rfl _)).trans (Ch.setCell (T:=λi=>i=b) _ (a:=⟨b,10,none⟩) rfl _)).trans (Ch.setCell (T:=λi=>i=b) _ (a:=⟨b,4,none⟩) rfl _))
end
section
variable {b:Nat} {W:World} {j:Jn} {v:Value} {q:Option Nat}
theorem jbegin_any (k:JnS b W j v q) (hq:q=none→j.op=0) (ok:JnOk j) (last:Bool) (op len:Nat) (hlen:len≤9223372036854775807) :
  Calls prog 149 #[.pointer (some ⟨b,0,none⟩),.bool last,.int .i64 op,.int .i64 len] W λe w'=>e=.returned (.int .i64 (jnBegin j last op len).bad)∧JbPost b (jnBegin j last op len) v q W w':=by
 by_cases h:j.bad=0
 ·cases hA:begA j op
  ·by_cases hm:j.sum+len≤j.limit
   ·exact jbegin_ok k hq last op len h hA ok hm
   ·exact jbegin_much k hq last op len h hA ok hlen (by omega)
  ·exact jbegin_wrong k hq last op len h hA
 ·exact jbegin_bad k hq last op len h
theorem JnS.fed {C:Nat} {W':World} {u:Uk} (k:JnS b W j v (some C)) (hu:UkAt C W' u) (hc:Ch (λn=>n=C) W W'):JnS b W' { j with check:=u } v (some C):=by
 have h1:=k.ck C rfl
 have hT:¬(b=C):=λe=>h1.2.1 e.symm
 have cc:∀ {i x},W.cell? ⟨b,i,none⟩=some x→W'.cell? ⟨b,i,none⟩=some x:=fun {i x} hh=>(hc.cell (p:=⟨b,i,none⟩) (cell_lt hh) hT).trans hh
 exact⟨cc k.c0,cc k.c1,cc k.c2,cc k.c3,cc k.c4,k.bd.ch hc hT (λi e e2=>h1.2.2 (by rw[e,e2])),cc k.c7,λc e=>by cases e;exact⟨hu,h1.2⟩,cc k.c8,cc k.c9,cc k.c10⟩
theorem JnS.wrote {s:List UInt8} {W':World} (k:JnS b W j v q) (hp:JwPost b (j.text++s) v W W') :
  ∃ v',JnS b W' { j with text:=j.text++s } v' q∧Ch (λi=>i=b∨v.ownBlock=some i) W W'∧(∀ g,v'.ownBlock=some g→v.ownBlock=some g∨W.heap.size≤g):=by
 obtain⟨v',hb,hc,hv,ho⟩:=hp
 have cc:∀ {i x},i≠5→i≠6→W.cell? ⟨b,i,none⟩=some x→W'.cell? ⟨b,i,none⟩=some x:=fun {i x} h5 h6 hh=>(ho i h5 h6).trans hh
 refine⟨v',⟨cc (by decide) (by decide) k.c0,cc (by decide) (by decide) k.c1,cc (by decide) (by decide) k.c2,cc (by decide) (by decide) k.c3,cc (by decide) (by decide) k.c4,hb,cc (by decide) (by decide) k.c7,λc e=>?_,cc (by decide) (by decide) k.c8,cc (by decide) (by decide) k.c9,cc (by decide) (by decide) k.c10⟩,hc,hv⟩
 obtain⟨u,h1,h2⟩:=k.ck c e
 refine⟨u.ch hc (λe2=>e2.elim h1 h2),h1,λe2=>?_⟩
 rcases hv c e2 with e3 | e3
 ·exact h2 e3
 ·exact absurd u.lt (Nat.not_lt.2 e3)
theorem jnFail_check (j:Jn) (u:Uk) (c:Nat):jnFail { j with check:=u } c={ jnFail j c with check:=u }:=by unfold jnFail;split <;> rfl
def JpPost (b:Nat) (j:Jn) (v:Value) (q:Option Nat) (W W':World):Prop :=
 ∃ v',JnS b W' j v' q∧Ch (λi=>i=b∨v.ownBlock=some i∨q=some i) W W'∧(∀ g,v'.ownBlock=some g→v.ownBlock=some g∨W.heap.size≤g)
theorem JpPost.of {W':World} {j':Jn} (k:JnS b W' j' v q) (hc:Ch (λi=>i=b) W W'):JpPost b j' v q W W':=⟨v,k,hc.mono λ_ e=>.inl e,λ_ e=>.inl e⟩
theorem jnPiece_ok (h:JnOk j) {s:List UInt8}:JnOk (jnPiece j s):=by
 obtain⟨h1,h2,h3,h4,h5,h6,h7⟩:=h
 have h0:JnOk j:=⟨h1,h2,h3,h4,h5,h6,h7⟩
 unfold jnPiece
 split
 ·exact h0
 ·split
  ·exact jnFail_ok h0 (by decide)
  ·rename_i hA
   have hb:j.begun=true∧s.length≤j.lacks:=by
    cases hb:j.begun
    ·rw[hb] at hA;exact absurd rfl hA
    ·rw[hb] at hA;simpa using hA
   have h5':=h5 hb.1
   have hw:∀ u:Uk,JnOk { j with check:=u,lacks:=j.lacks - s.length,text:=j.text++s }:=λu=>by
    refine⟨h1,h2,?_,?_,λ_=>?_,h6,h7⟩
    ·show (j.text++s).length≤j.sum;rw[List.length_append];omega
    ·show j.lacks - s.length≤j.limit;omega
    ·show (j.text++s).length+(j.lacks - s.length)≤j.sum;rw[List.length_append];omega
   split
   ·split
    ·exact jnFail_ok h0 (c:=1007) (by decide)
    ·exact hw _
   ·exact hw j.check
theorem jpiece_any (k:JnS b W j v q) (hq:q=none→j.op=0) (ok:JnOk j) (s:List UInt8) (hs:s.length≤4611686018427387904) :
  Calls prog 150 #[.pointer (some ⟨b,0,none⟩),.string ⟨s.toArray⟩] W λe w'=>e=.returned (.int .i64 (jnPiece j s).bad)∧JpPost b (jnPiece j s) v q W w':=by
 have c2:=k.c2
 have c3:=k.c3
 have c7:=k.c7
 have c8:=k.c8
 have c10:=k.c10
 have fz:=k.bd.fz
 have hbs:=k.lt
 have hn:=hid (jnone_any k)
 have hsz:((⟨s.toArray⟩:ByteArray).size:Int)=s.length:=by rw[size_mk]
 have hlk:j.lacks≤1099511627776:=Nat.le_trans ok.2.2.2.1 ok.1
 have hf:=hid (jfails_any k 1002)
 have k':=hid k
 have ok':=hid ok
 have hq':=hid hq
 clear ok hq
 by_cases h:j.bad=0
 ·rw[h] at c2
  have hb0:=hid h
  have hA:j.begun=false∨(j.begun=true∧j.lacks<s.length)∨(j.begun=true∧s.length≤j.lacks):=by
   cases hb:j.begun
   ·exact .inl rfl
   ·exact .inr ((Nat.lt_or_ge j.lacks s.length).imp (λe=>⟨rfl,e⟩) (λe=>⟨rfl,e⟩))
  clear k
  rcases hA with hA | ⟨hA,hl⟩ | ⟨hA,hl⟩
  ·have hv:=hid (show jnPiece j s=jnFail j 1002 by unfold jnPiece;rw[if_neg (by omega),hA];rfl)
   rw[hA] at c8
   clear h hA
   go_enter func150,ntmps150
   go_wp2_with fail
   refine hn.out.mono ?_
   rintro e w1⟨rfl,rfl⟩
   go_wp2_with fail
   refine hf.out.mono ?_
   rintro e w1⟨rfl,hw⟩
   go_wp2
   go_ret
   rw[hv.out]
   exact⟨rfl,JpPost.of hw.1 hw.2⟩
  ·have hv:=hid (show jnPiece j s=jnFail j 1002 by unfold jnPiece;rw[if_neg (by omega),hA,if_pos (by simpa using hl)])
   rw[hA] at c8
   have hgt:((j.lacks:Int)<s.length)=True:=by simp;exact hl
   clear h hA hl
   go_enter func150,ntmps150
   go_wp2_with fail
   refine hn.out.mono ?_
   rintro e w1⟨rfl,rfl⟩
   go_wp2_with fail
   refine hf.out.mono ?_
   rintro e w1⟨rfl,hw⟩
   go_wp2
   go_ret
   rw[hv.out]
   exact⟨rfl,JpPost.of hw.1 hw.2⟩
  ·have hv1:jnPiece j s=if j.op=1 then (if (feedU j.check s).bad then { jnFail j 1007 with check:=feedU j.check s } else { j with check:=feedU j.check s,lacks:=j.lacks - s.length,text:=j.text++s }) else { j with lacks:=j.lacks - s.length,text:=j.text++s }:=by
    unfold jnPiece;rw[if_neg (by omega),hA];exact if_neg (by simpa using hl)
   have hgt:((j.lacks:Int)<s.length)=False:=by simp;exact hl
   have h5:=ok'.out.2.2.2.2.1 hA
   have hle:j.text.length+s.length≤140737488355328:=by have:=ok'.out.1;have:=ok'.out.2.1;omega
   rw[hA] at c8
   have hsub:((j.lacks:Int) - s.length)=((j.lacks - s.length:Nat):Int):=by omega
   have hend:∀ (W1:World) (u:Uk),JnS b W1 { j with check:=u } v q→Ch (λi=>i=b∨v.ownBlock=some i∨q=some i) W W1 →
     Calls prog 115 #[.pointer (some ⟨b,5,none⟩),.string ⟨s.toArray⟩] (W1.setCell ⟨b,10,none⟩ (.int .i64 ((j.lacks - s.length:Nat):Int))) λe w'=>e=.returned (.tuple #[.int .i64 s.length,.nilIface])∧JpPost b { j with check:=u,lacks:=j.lacks - s.length,text:=j.text++s } v q W w':=λW1 u k1 hc1=>by
    have k2:=k1.setLacks (j.lacks - s.length)
    refine (jwrite_any k2.bd hle).mono ?_
    rintro e w'⟨rfl,hw⟩
    obtain⟨v',hk,hc,hv'⟩:=k2.wrote hw
    have hc2:Ch (λi=>i=b∨v.ownBlock=some i∨q=some i) W1 (W1.setCell ⟨b,10,none⟩ (.int .i64 ((j.lacks - s.length:Nat):Int))):=Ch.setCell W1 (a:=⟨b,10,none⟩) (.inl rfl) _
    exact⟨rfl,v',hk,(hc1.trans hc2).trans (hc.mono λ_ e=>e.imp_right .inl),λg e=>(hv' g e).imp_right λh=>Nat.le_trans (hc1.trans hc2).size h⟩
   have hend':=hid hend
   by_cases ho:j.op=1
   ·rw[ho] at c3
    have hq2:∃ C,q=some C:=by cases hqq:q with
     | none=>have:=hq'.out hqq;omega
     | some C=>exact⟨C,rfl⟩
    obtain⟨C,rfl⟩:=hq2
    have hu:=(k'.out.ck C rfl).1
    have hfd:=hid (ufeed_any C W j.check s hu hs)
    have hfed:=hid (λ(W':World) (hu':UkAt C W' (feedU j.check s)) (hc:Ch (λn=>n=C) W W')=>k'.out.fed hu' hc)
    rw[if_pos ho] at hv1
    cases hbad:(feedU j.check s).bad
    ·rw[hbad] at hfd hv1
     have hv:=hid hv1
     clear h hA hl hend hv1 ho hbad hu h5 hle
     go_enter func150,ntmps150
     go_wp2_with fail
     refine hn.out.mono ?_
     rintro e w1⟨rfl,rfl⟩
     go_wp2_with fail
     refine hfd.out.mono ?_
     rintro e w1⟨rfl,hu',hc⟩
     have k1:=hid (hfed.out w1 hu' hc)
     have hc':=hid (hc.mono (T':=λi=>i=b∨v.ownBlock=some i∨some C=some i) λi e=>.inr (.inr (by rw[e])))
     replace c10:=k1.out.c10
     replace fz:=k1.out.bd.fz
     replace hbs:=k1.out.lt
     dsimp only at c10
     clear hu' hc c2 c3 c7 c8
     go_wp2_with fail
     refine (hend'.out _ _ k1.out hc'.out).mono ?_
     rintro e w'⟨rfl,hp⟩
     go_wp2
     go_ret
     rw[hv.out]
     exact⟨by show _=Ending.returned (Value.int .i64 j.bad);rw[hb0.out];rfl,hp⟩
    ·rw[hbad] at hfd hv1
     have hv:=hid hv1
     clear h hA hl hend hend' hv1 ho hbad hu h5 hle
     go_enter func150,ntmps150
     go_wp2_with fail
     refine hn.out.mono ?_
     rintro e w1⟨rfl,rfl⟩
     go_wp2_with fail
     refine hfd.out.mono ?_
     rintro e w1⟨rfl,hu',hc⟩
     have k1:=hid (hfed.out w1 hu' hc)
     have hc':=hid (hc.mono (T':=λi=>i=b∨v.ownBlock=some i∨some C=some i) λi e=>.inr (.inr (by rw[e])))
     replace c10:=k1.out.c10
     replace fz:=k1.out.bd.fz
     replace hbs:=k1.out.lt
     dsimp only at c10
     clear hu' hc c2 c3 c7 c8
     go_wp2_with fail
     refine (jfails_any k1.out 1007).mono ?_
     rintro e w'⟨rfl,hw⟩
     go_wp2
     go_ret
     have hp:=hw.1
     rw[jnFail_check] at hp
     rw[hv.out]
     exact⟨by rw[jnFail_check];rfl,v,hp,hc'.out.trans (hw.2.mono λ_ e=>.inl e),λg e=>.inl e⟩
   ·have hz:((j.op:Int)==1)=false:=beq_eq_false_iff_ne.2 (by omega)
    rw[if_neg ho] at hv1
    have hv:=hid hv1
    clear h hA hl hend hv1 ho h5 hle
    go_enter func150,ntmps150
    go_wp2_with fail
    refine hn.out.mono ?_
    rintro e w1⟨rfl,rfl⟩
    go_wp2_with fail
    refine (hend'.out _ _ k'.out (Ch.refl _ _)).mono ?_
    rintro e w'⟨rfl,hp⟩
    go_wp2
    go_ret
    rw[hv.out]
    exact⟨by show _=Ending.returned (Value.int .i64 j.bad);rw[hb0.out];rfl,hp⟩
 ·have hv:=hid (show jnPiece j s=j by unfold jnPiece;rw[if_pos h])
  have hz:((j.bad:Int) != 0)=true:=bne_iff_ne.2 (by omega)
  clear h k
  go_enter func150,ntmps150
  go_wp2_with fail
  refine hn.out.mono ?_
  rintro e w1⟨rfl,rfl⟩
  go_wp2
  go_ret
  rw[hv.out]
  exact⟨rfl,JpPost.of k'.out (Ch.refl _ _)⟩
end
