/-
  The text of a message that is joined, in memory: a builder inside the joiner.
-/
import Derived.Test.YtadobobfjnmdlaaGreatDoorQw
import Derived.Test.YtadobobfjnmdlaaGreatDoorBl
import Derived.Lib.UnsafeStr
import Derived.Test.YtadobobfjnmdlaaGreatDoorUt
set_option linter.unusedVariables false
set_option linter.unusedSimpArgs false
set_option maxHeartbeats 16000000
set_option maxRecDepth 100000
open Go.Lib (hid)
namespace Go.Proofs.YtadobobfjnmdlaaGreatDoor
open Go.RowKit Go.Shelf
attribute [local go_sem] Oper.semAt_some
theorem sizeBd:(Tryz.prog.info? 147).map (·.size)=some 2:=by kernel_rfl
theorem liesJoiner:liesAt Tryz.prog Tryz.prog.depth 150 (11 / Tryz.prog.cellsOf 150) 5 147 1=true:=by kernel_rfl
structure BdJ (b:Nat) (W:World) (l:List UInt8) (v:Value):Prop where
 ca:W.cell? ⟨b,5,none⟩=some (.pointer none)∨W.cell? ⟨b,5,none⟩=some (.pointer (some ⟨b,5,none⟩))
 cv:W.cell? ⟨b,6,none⟩=some v
 own:W.ownsRow 0 5 1 v l.length (bcells l)
 ne:v.ownBlock≠some b
 cp:∀ a n c,v=.slice (some a) n c→c≠0
 sh:W.shape? b=some (150,11)
 fz:∀ o,W.frozen? ⟨b,o,none⟩=false
theorem shape_ch {b:Nat} {T:Nat→Prop} {W W':World} (hc:Ch T W W') (hT:¬T b) (hb:b<W.heap.size):W'.shape? b=W.shape? b:=by
 unfold World.shape?
 rw [hc.block b hb hT]
theorem shape_set {b c o:Nat} {W:World} {v:Value}:(W.setCell ⟨c,o,none⟩ v).shape? b=W.shape? b:=by
 unfold World.shape? World.setCell
 by_cases h:c=b
 ·subst h
  simp only [Array.getElem?_modify,if_true]
  cases W.heap[c]? with
  | none=>rfl
  | some o=>cases o <;> simp
 ·simp only [Array.getElem?_modify,if_neg h]
theorem BdJ.ch {b:Nat} {T:Nat→Prop} {W W':World} {l:List UInt8} {v:Value} (h:BdJ b W l v) (hc:Ch T W W') (hb:¬T b) (hv:∀ k,v.ownBlock=some k→¬T k):BdJ b W' l v:=by
 have hlt:b<W.heap.size:=cell_lt h.cv
 have cc:∀ {j u},W.cell? ⟨b,j,none⟩=some u→W'.cell? ⟨b,j,none⟩=some u:=fun {j u} hh=>(hc.cell (p:=⟨b,j,none⟩) hlt hb).trans hh
 refine ⟨h.ca.imp cc cc,cc h.cv,⟨h.own.1,?_⟩,h.ne,h.cp,(shape_ch hc hb hlt).trans h.sh,fun o=>(hc.frozen (p:=⟨b,o,none⟩) hlt hb).trans (h.fz o)⟩
 rcases h.own.2 with e | ⟨g,cap,cur,rfl,h1,h2,rest⟩
 ·exact .inl e
 ·exact .inr ⟨g,cap,cur,rfl,h1,hc.get h2 (hv g rfl),rest⟩
theorem BdJ.set {b o:Nat} {W:World} {l:List UInt8} {v u:Value} (h:BdJ b W l v) (h5:o≠5) (h6:o≠6):BdJ b (W.setCell ⟨b,o,none⟩ u) l v:=by
 refine ⟨h.ca.imp (fun e=>cell_off e (Ne.symm h5)) (fun e=>cell_off e (Ne.symm h5)),cell_off h.cv (Ne.symm h6),⟨h.own.1,?_⟩,h.ne,h.cp,shape_set.trans h.sh,fun o=>by rw [frozen_set];exact h.fz o⟩
 rcases h.own.2 with e | ⟨g,cap,cur,rfl,h1,h2,rest⟩
 ·exact .inl e
 ·refine .inr ⟨g,cap,cur,rfl,h1,(Ch.setCell (T:=fun k=>k=b) W (a:=⟨b,o,none⟩) rfl u).get h2 (fun e=>h.ne (by rw [show b=g from e.symm];rfl)),rest⟩
theorem jcheck_any {b:Nat} {W:World} {l:List UInt8} {v:Value} (h:BdJ b W l v) :
  Calls Tryz.prog 143 #[.pointer (some ⟨b,5,none⟩)] W fun e w'=>e=.returned (.tuple #[])∧(W.setCell ⟨b,5,none⟩ (.pointer (some ⟨b,5,none⟩))=w'∨(W=w'∧W.cell? ⟨b,5,none⟩=some (.pointer (some ⟨b,5,none⟩)))):=by
 obtain ⟨j,hj,hjs⟩:=Option.map_eq_some_iff.1 sizeBd
 have hsh:=h.sh
 have hfz:=h.fz 5
 rcases h.ca with h0 | h0
 ·clear h
  go_enter Tryz.func143,Tryz.ntmps143
  go_wp2
  rw [Lib.run_to_unsafe W ⟨b,5,none⟩ Tryz.underlying145 Tryz.underlying225 hj (by rw [hjs];decide) hsh (show 5<11 by decide)]
  simp only [Result.andThen]
  rw [Oper.upon_value]
  go_wp2
  rw [run_callFunc_extern Tryz.func178 (by kernel_rfl) (by kernel_rfl) (by kernel_rfl) (e:=Extern.AbiNoEscape.same) (by kernel_rfl)]
  rw [Lib.run_noEscape]
  simp only [Result.andThen]
  rw [Oper.upon_value]
  go_wp2
  rw [Lib.run_from_unsafe W ⟨b,5,none⟩ Tryz.underlying225 Tryz.underlying145 hj hsh liesJoiner]
  simp only [Result.andThen]
  rw [Oper.upon_value]
  go_wp2
  go_end0
  exact ⟨rfl,.inl rfl⟩
 ·clear h
  go_enter Tryz.func143,Tryz.ntmps143
  go_wp2
  rw [Lib.run_neq_ptr_same W _ Tryz.underlying145 hj]
  go_wp2
  go_end0
  exact ⟨rfl,.inr ⟨rfl,h0⟩⟩
def CapOk (v:Value):Prop:=∀ a n c,v=.slice (some a) n c→c≠0
theorem run_app_str_at {P:Program} (w:World) (t u ty e:TypeId) (i:TypeInfo) (ht:P.underlying t=some (.slice e)) (hu:P.underlying u=some .string) (hi:P.info? e=some i) (hz:i.zero=some (.int .u8 0)) (hsize:i.size=1) (hby:i.bytes=1)
  (v:Value) (n:Nat) (xs:List Value) (hown:w.ownsRow 0 e 1 v n xs) (s:ByteArray) (h63:n+s.size≤maxLen) (hbytes:n+s.size≤140737488355328) {v':Value} {w':World} (hr:(Builtin.append_ #[t,u] ty #[v,.string s]).run P w=.ok v' w')
  (hown':w'.ownsRow 0 e 1 v' (n+s.size) (xs++Lib.strCells s)):(v'.ownBlock=v.ownBlock∨v'.ownBlock=some w.heap.size)∧(CapOk v→CapOk v'):=by
 have hsmall:n+s.size≤9223372036854775807:=by simp only [maxLen] at h63;omega
 have hxl:xs.length=n:=by simpa using hown.1
 have h':=hown
 rcases hown.2 with ⟨rfl,rfl⟩ | ⟨g,cap,cur,rfl,hbg,hg,hnc,hcm,hcs,htake⟩
 ·by_cases hm:s.size=0
  ·rcases hown'.2 with ⟨rfl,_⟩ | ⟨g,cap,cur,rfl,hbg,hg,hnc,hcm,hcs,htake⟩
   ·exact ⟨.inl rfl,fun _ a n c e=>by cases e⟩
   ·obtain ⟨v2,w2,hr2,_,_,h4⟩:=Lib.run_append_own_string (P:=P) w 0 t u ty e i ht hu hi hz hsize hby _ 0 xs h' s h63 hbytes (Nat.zero_le _)
    have e1:=hr.symm.trans hr2
    injection e1 with e1 _
    have e2:=h4.2 ⟨rfl,hm⟩
    rw [e2] at e1
    cases e1
  ·have hr2:=run_append_nil_string (P:=P) w t u ty e i (.int .u8 0) ht hu hi hz s (by omega) (by omega) (by rw [hby];omega)
   have e1:=hr.symm.trans hr2
   injection e1 with e1 _
   rw [e1]
   refine ⟨.inr rfl,fun _ a n1 c e'=>?_⟩
   injection e' with _ _ e3
   have:=grownCap_ge w s.size 0 e
   omega
 ·by_cases hroom:n+s.size≤cap
  ·have hr2:=Lib.run_append_room_string (P:=P) w t u ty e i ht hu hi hsize g n cap cur hg s hroom (by rw [show cur.size=cap from by simpa using hcs];exact hroom)
   have e1:=hr.symm.trans hr2
   injection e1 with e1 _
   rw [e1]
   refine ⟨.inl rfl,fun hc a n c e=>?_⟩
   injection e with _ _ e3
   rw [←e3]
   exact hc _ _ _ rfl
  ·have holds:∀ j u,xs[j]?=some u→w.cell? ((⟨g,0,none⟩:Addr).add j)=some u:=h'.cells (g:=g) rfl
   have hr2:=Lib.run_append_grow_string (P:=P) w t u ty e i (.int .u8 0) ht hu hi hz ⟨g,0,none⟩ n cap xs (by rw [hsize];simpa using hxl) holds s (by omega) (by omega) (by rw [hby];exact growslice_fits (by omega) (by omega))
   have e1:=hr.symm.trans hr2
   injection e1 with e1 _
   rw [e1]
   refine ⟨.inr rfl,fun _ a n1 c e'=>?_⟩
   injection e' with _ e2 e3
   have:=grownCap_ge w (n+s.size) cap e
   omega
theorem wpList_app_str_at {P:Program} {w:World} {ops:Array Oper} {rest:List Oper} {o:Oper} {a:Act} {Q:Exit→Act→World→Prop} (hgd:o.guard=none) (sl x:Operand) (t u:TypeId)
  (ho:o.op=.call { callee:=.builtin .append,args:=#[sl,x],argTypes:=#[t,u] })
  (e:TypeId) (i:TypeInfo) (ht:P.underlying t=some (.slice e)) (hu:P.underlying u=some .string) (hi:P.info? e=some i) (hz:i.zero=some (.int .u8 0)) (hsize:i.size=1) (hby:i.bytes=1)
  (v:Value) (n:Nat) (xs:List Value) (hs:a.eval sl=v) (hown:w.ownsRow 0 e 1 v n xs) (s:ByteArray) (hx:a.eval x=.string s) (h63:n+s.size≤maxLen) (hbytes:n+s.size≤140737488355328)
  (h:∀ v' w',w'.ownsRow 0 e 1 v' (n+s.size) (xs++Lib.strCells s)→w.grownBy w' v.ownBlock→(v'.ownBlock=v.ownBlock∨v'.ownBlock=some w.heap.size)∧(CapOk v→CapOk v')→wpList P ops Q rest (a.put o.dst v') w'):wpList P ops Q (o :: rest) a w:=by
 refine wpList_plain hgd fun K hK=>?_
 obtain ⟨v',w',hr,h2,h3,h4⟩:=Lib.run_append_own_string (P:=P) w 0 t u o.type e i ht hu hi hz hsize hby v n xs hown s h63 hbytes (Nat.zero_le _)
 unfold Oper.wp execOp
 simp only [ho,resolve,invoke,builtin,Sem.run_bind,Sem.run_pure,Result.andThen_ok,List.map_toArray,List.map_cons,List.map_nil,hs,hx,hr]
 exact hK _ _ (h v' w' h2 h3 (run_app_str_at w t u o.type e i ht hu hi hz hsize hby v n xs hown s h63 hbytes hr h2))
def JwPost (b:Nat) (l:List UInt8) (v:Value) (W W':World):Prop :=
 ∃ v',BdJ b W' l v'∧Ch (fun k=>k=b∨v.ownBlock=some k) W W'∧(∀ g,v'.ownBlock=some g→v.ownBlock=some g∨W.heap.size≤g)∧∀ o,o≠5→o≠6→W'.cell? ⟨b,o,none⟩=W.cell? ⟨b,o,none⟩
theorem jwrite_any {b:Nat} {W:World} {l s:List UInt8} {v:Value} (h:BdJ b W l v) (hlen:l.length+s.length≤140737488355328) :
  Calls Tryz.prog 115 #[.pointer (some ⟨b,5,none⟩),.string ⟨s.toArray⟩] W fun e w'=>e=.returned (.tuple #[.int .i64 s.length,.nilIface])∧JwPost b (l++s) v W w':=by
 obtain ⟨i0,hi,hz0,hz1,hz2⟩:=info_parts infoByte
 have hck:=hid (jcheck_any h)
 have h':=hid h
 clear h
 go_enter Tryz.func115,Tryz.ntmps115
 go_wp2_with (fail)
 refine (hck.out).mono ?_
 rintro e w1 ⟨rfl,hw1⟩
 have h1:BdJ b w1 l v∧Ch (fun k=>k=b) W w1∧∀ o,o≠5→w1.cell? ⟨b,o,none⟩=W.cell? ⟨b,o,none⟩:=by
  rcases hw1 with rfl | ⟨rfl,_⟩
  ·have hc:=Ch.setCell (T:=fun k=>k=b) W (a:=⟨b,5,none⟩) rfl (.pointer (some ⟨b,5,none⟩))
   refine ⟨⟨.inr ?_,cell_off h'.out.cv (by decide),⟨h'.out.own.1,?_⟩,h'.out.ne,h'.out.cp,shape_set.trans h'.out.sh,fun o=>by rw [frozen_set];exact h'.out.fz o⟩,hc,fun o ho=>World.cell?_setCell_other _ _ _ _ (off_ne ho)⟩
   ·rcases h'.out.ca with e | e <;> exact cell_set_same e
   ·rcases h'.out.own.2 with e | ⟨g,cap,cur,rfl,q1,q2,rest⟩
    ·exact .inl e
    ·exact .inr ⟨g,cap,cur,rfl,q1,hc.get q2 (fun e=>h'.out.ne (by rw [show b=g from e.symm];rfl)),rest⟩
  ·exact ⟨h'.out,Ch.refl _ _,fun _ _=>rfl⟩
 obtain ⟨h1,hc1,ho1⟩:=h1
 have h1':=hid h1
 have hc1':=hid hc1
 have ho1':=hid ho1
 have c6:=h1.cv
 have hown:=h1.own
 have fz6:=h1.fz 6
 have hb:b<w1.heap.size:=cell_lt c6
 clear hw1 hck h1 hc1 ho1
 go_wp2_with (at_builtin;refine wpList_app_str_at rfl _ _ 100 9 rfl 5 i0 Tryz.underlying100 Tryz.underlying9 hi hz0 hz1 hz2 _ _ _ rfl hown ⟨s.toArray⟩ rfl ?c3 ?c4 ?_)
 case c3=>unfold maxLen;rw [size_mk];omega
 case c4=>rw [size_mk];omega
 intro v' w2 hown' hgrow hat hcp
 have hcp':=hid (hcp h1'.out.cp)
 clear hcp
 have hc2:Ch (fun k=>v.ownBlock=some k) w1 w2:=ch_grown hgrow
 have hnb:¬(v.ownBlock=some b):=h1'.out.ne
 have d6:w2.cell? ⟨b,6,none⟩=some v:=(hc2.cell (p:=⟨b,6,none⟩) hb hnb).trans c6
 have dz:w2.frozen? ⟨b,6,none⟩=false:=(hc2.frozen (p:=⟨b,6,none⟩) hb hnb).trans fz6
 have hb2:b<w2.heap.size:=cell_lt d6
 obtain ⟨pv,cv,rfl⟩:=ownsRow_slice hown'
 have hown2:=hid hown'
 have hc2':=hid hc2
 have hat':=hid hat
 clear hown hown' hgrow hat hc2 c6 fz6
 go_wp2
 go_ret2
 have hst:w2.ownsRow 0 5 1 (.slice pv (l.length+s.length) cv) (l++s).length (bcells (l++s)):=by
  have e:=hown2.out
  rw [strCells_eq,←bcells_app] at e
  rw [List.length_append]
  exact e
 have hne:(Value.slice pv (l.length+s.length) cv).ownBlock≠some b:=by
  rcases hat'.out with e | e
  ·rw [e];exact h1'.out.ne
  ·rw [e];intro e2;injection e2 with e2;omega
 have hcb:Ch (fun k=>k=b) w2 (w2.setCell ⟨b,6,none⟩ (.slice pv (l.length+s.length) cv)):=Ch.setCell (T:=fun k=>k=b) w2 (a:=⟨b,6,none⟩) rfl _
 refine ⟨rfl,.slice pv (l.length+s.length) cv,⟨?_,cell_set_same d6,⟨hst.1,?_⟩,hne,hcp'.out,?_,fun o=>?_⟩,?_,?_,fun o h5 h6=>?_⟩
 ·have cc:∀ {u},w1.cell? ⟨b,5,none⟩=some u→(w2.setCell ⟨b,6,none⟩ (.slice pv (l.length+s.length) cv)).cell? ⟨b,5,none⟩=some u:=fun {u} hh=>cell_off ((hc2'.out.cell (p:=⟨b,5,none⟩) hb hnb).trans hh) (by decide)
  exact h1'.out.ca.imp cc cc
 ·rcases hst.2 with e | ⟨g,cap,cur,e,q1,q2,rest⟩
  ·exact .inl e
  ·exact .inr ⟨g,cap,cur,e,q1,hcb.get q2 (fun e2=>hne (by rw [e];show some g=some b;rw [show g=b from e2])),rest⟩
 ·rw [shape_set,shape_ch hc2'.out hnb hb];exact h1'.out.sh
 ·rw [frozen_set];exact (hc2'.out.frozen (p:=⟨b,o,none⟩) hb hnb).trans (h1'.out.fz o)
 ·exact ((hc1'.out.mono (fun _ e=>.inl e)).trans (hc2'.out.mono (fun _ e=>.inr e))).trans (hcb.mono (fun _ e=>.inl e))
 ·intro g hg
  rcases hat'.out with e | e
  ·exact .inl (e▸hg)
  ·rw [e] at hg;injection hg with hg;subst hg;exact .inr hc1'.out.size
 ·exact (World.cell?_setCell_other _ _ _ _ (off_ne h6)).trans ((hc2'.out.cell (p:=⟨b,o,none⟩) hb hnb).trans (ho1'.out o h5))
theorem cellsByte:Tryz.prog.cellsOf 5=1:=by kernel_rfl
theorem Ch.freeze {T:Nat→Prop} (w:World) {a:Addr} (ht:T a.block) (n:Nat):Ch T w (w.freeze a n):=by
 unfold World.freeze
 split
 ·exact Ch.refl T w
 ·exact ⟨rfl,rfl,rfl,by simp,fun k _ hn=>by
   simp only [Array.getElem?_modify]
   rw [if_neg (fun e:a.block=k=>hn (by rw [←e];exact ht))]⟩
def StrRow (v:Value) (l:List UInt8) (p:Option Addr) (W':World):Prop :=
 (Builtin.unsafeSliceData_ #[100] 198 #[v]).run Tryz.prog W'=.ok (.pointer p) W' ∧
 ∃ w2,(Builtin.unsafeString_ #[198,3] 9 #[.pointer p,.int .i64 l.length]).run Tryz.prog W'=.ok (.string ⟨l.toArray⟩) w2∧Ch (fun k=>v.ownBlock=some k) W' w2
theorem strRow_of {b:Nat} {W:World} {l:List UInt8} {v:Value} (h:BdJ b W l v):∃ p,∀ W',Gr W W'→StrRow v l p W':=by
 have hown:=h.own
 rcases hown.2 with ⟨rfl,h0⟩ | ⟨g,cap,cur,rfl,hbg,hg,hnc,hcm,hcs,htake⟩
 ·have hl:l=[]:=List.eq_nil_of_length_eq_zero h0
  subst hl
  exact ⟨none,fun W' _=>⟨rfl,W',Lib.run_unsafeString_none W' _ _ _ _,Ch.refl _ _⟩⟩
 ·have hc0:cap≠0:=h.cp _ _ _ rfl
  refine ⟨some ⟨g,0,none⟩,fun W' hW=>⟨Lib.run_unsafeSliceData_row _ _ _ _ _ _ hc0,?_⟩⟩
  by_cases hl:l=[]
  ·subst hl
   exact ⟨W',Lib.run_unsafeString_none W' _ _ _ _,Ch.refl _ _⟩
  ·refine ⟨_,Lib.run_unsafeString_row W' 198 3 9 5 Tryz.underlying198 cellsByte g cur.size ?_ l hl ?_ ?_ ?_,Ch.freeze (T:=fun k=>some g=some k) (a:=⟨g,0,none⟩) _ rfl _⟩
   ·have hg':W'.heap[g]?=some (.cells cur 5 (0,0)):=(hW.block g (Array.getElem?_eq_some_iff.1 hg).1).trans hg
    simp [World.shape?,hg']
   ·omega
   ·unfold maxLen at hcm;omega
   ·intro j x hx
    have e:=hown.cells (g:=g) rfl j (.int .u8 x.toNat) (by simp [bcells,hx])
    exact (hW.cell e)
theorem jstring_any {b:Nat} {W:World} {l:List UInt8} {v:Value} (h:BdJ b W l v) :
  Calls Tryz.prog 118 #[.pointer (some ⟨b,5,none⟩)] W fun e w'=>e=.returned (.string ⟨l.toArray⟩)∧Ch (fun k=>v.ownBlock=some k) W w':=by
 obtain ⟨pv,cv,rfl⟩:=ownsRow_slice h.own
 obtain ⟨p,hp⟩:=strRow_of h
 have c1:=h.cv
 have t6:∀ x:Later (Gr W),x.w.cell? ⟨b,6,none⟩=some (.slice pv l.length cv):=fun x=>x.ok.cell c1
 have t7:∀ x:Later (Gr W),(Builtin.unsafeSliceData_ #[100] 198 #[.slice pv l.length cv]).run Tryz.prog x.w=.ok (.pointer p) x.w:=fun x=>(hp x.w x.ok).1
 have hp':=hid hp
 clear h hp c1
 go_enter Tryz.func118,Tryz.ntmps118
 haveI:Nonempty (Later (Gr W)):=⟨⟨W,Gr.refl W⟩⟩
 go_upto_region 1 with (fail)
 refine wp_region_later_tail (C:=Gr W) 10 (by kernel_rfl) (by kernel_rfl) (Gr.drew' _) ?_
 simp only [List.take_succ_cons,List.take_zero,List.drop_succ_cons,List.drop_zero]
 repeat (go_big_quiet_step (fail))
 refine wpQuiet_nil ?_
 intro w9 hg9
 obtain ⟨_,w2,hUS,hch⟩:=hp'.out w9 hg9
 have hres:=hid ((hg9.to_ch _).trans hch)
 clear t6 t7 hch
 go_wp2
 go_ret
 exact ⟨rfl,hres.out⟩
theorem jreset_any {b:Nat} {W:World} {v:Value} (h5:(W.cell? ⟨b,5,none⟩).isSome) (h6:W.cell? ⟨b,6,none⟩=some v) (hf:∀ o,W.frozen? ⟨b,o,none⟩=false) :
  Calls Tryz.prog 188 #[.pointer (some ⟨b,5,none⟩)] W fun e w'=>e=.returned (.tuple #[])∧(W.setCell ⟨b,5,none⟩ (.pointer none)).setCell ⟨b,6,none⟩ (.slice none 0 0)=w':=by
 obtain ⟨u,hu⟩:=Option.isSome_iff_exists.1 h5
 have f5:=hf 5
 have f6:=hf 6
 clear hf h5
 go_enter Tryz.func188,Tryz.ntmps188
 go_wp2
 go_end0
 exact ⟨rfl,rfl⟩
structure JnS (b:Nat) (W:World) (j:Jn) (v:Value) (q:Option Nat):Prop where
 c0:W.cell? ⟨b,0,none⟩=some (.int .i64 j.limit)
 c1:W.cell? ⟨b,1,none⟩=some (.bool true)
 c2:W.cell? ⟨b,2,none⟩=some (.int .i64 j.bad)
 c3:W.cell? ⟨b,3,none⟩=some (.int .i64 j.op)
 c4:W.cell? ⟨b,4,none⟩=some (.int .i64 j.sum)
 bd:BdJ b W j.text v
 c7:W.cell? ⟨b,7,none⟩=some (.pointer (q.map fun c=>⟨c,0,none⟩))
 ck:∀ c,q=some c→UkAt c W j.check∧c≠b∧v.ownBlock≠some c
 c8:W.cell? ⟨b,8,none⟩=some (.bool j.begun)
 c9:W.cell? ⟨b,9,none⟩=some (.bool j.last)
 c10:W.cell? ⟨b,10,none⟩=some (.int .i64 j.lacks)
theorem JnS.lt {b:Nat} {W:World} {j:Jn} {v:Value} {q:Option Nat} (k:JnS b W j v q):b<W.heap.size:=cell_lt k.c0
theorem JnS.ch {b:Nat} {T:Nat→Prop} {W W':World} {j:Jn} {v:Value} {q:Option Nat} (k:JnS b W j v q) (hc:Ch T W W') (hT:¬T b) (hv:∀ i,v.ownBlock=some i→¬T i) (hq:∀ i,q=some i→¬T i):JnS b W' j v q :=
 have cc:∀ {i u},W.cell? ⟨b,i,none⟩=some u→W'.cell? ⟨b,i,none⟩=some u:=fun {i u} hh=>(hc.cell (p:=⟨b,i,none⟩) (cell_lt hh) hT).trans hh
 ⟨cc k.c0,cc k.c1,cc k.c2,cc k.c3,cc k.c4,k.bd.ch hc hT hv,cc k.c7,fun c e=>⟨(k.ck c e).1.ch hc (hq c e),(k.ck c e).2⟩,cc k.c8,cc k.c9,cc k.c10⟩
theorem JnS.gr {b:Nat} {W W':World} {j:Jn} {v:Value} {q:Option Nat} (k:JnS b W j v q) (g:Gr W W'):JnS b W' j v q:=k.ch (g.to_ch (fun _=>False)) id (fun _ _=>id) (fun _ _=>id)
section
variable {b:Nat} {W:World} {j:Jn} {v:Value} {q:Option Nat}
theorem JnS.ck' (k:JnS b W j v q) (o:Nat) (u:Value):∀ c,q=some c→UkAt c (W.setCell ⟨b,o,none⟩ u) j.check∧c≠b∧v.ownBlock≠some c :=
 fun c e=>⟨(k.ck c e).1.ch (Ch.setCell (T:=fun i=>i=b) W (a:=⟨b,o,none⟩) rfl u) (k.ck c e).2.1,(k.ck c e).2⟩
theorem JnS.setBad (k:JnS b W j v q) (n:Nat):JnS b (W.setCell ⟨b,2,none⟩ (.int .i64 n)) { j with bad:=n } v q :=
 ⟨cell_off k.c0 (by decide),cell_off k.c1 (by decide),cell_set_same k.c2,cell_off k.c3 (by decide),cell_off k.c4 (by decide),k.bd.set (by decide) (by decide),cell_off k.c7 (by decide),k.ck' _ _,cell_off k.c8 (by decide),cell_off k.c9 (by decide),cell_off k.c10 (by decide)⟩
theorem JnS.setOp (k:JnS b W j v q) (n:Nat):JnS b (W.setCell ⟨b,3,none⟩ (.int .i64 n)) { j with op:=n } v q :=
 ⟨cell_off k.c0 (by decide),cell_off k.c1 (by decide),cell_off k.c2 (by decide),cell_set_same k.c3,cell_off k.c4 (by decide),k.bd.set (by decide) (by decide),cell_off k.c7 (by decide),k.ck' _ _,cell_off k.c8 (by decide),cell_off k.c9 (by decide),cell_off k.c10 (by decide)⟩
theorem JnS.setSum (k:JnS b W j v q) (n:Nat):JnS b (W.setCell ⟨b,4,none⟩ (.int .i64 n)) { j with sum:=n } v q :=
 ⟨cell_off k.c0 (by decide),cell_off k.c1 (by decide),cell_off k.c2 (by decide),cell_off k.c3 (by decide),cell_set_same k.c4,k.bd.set (by decide) (by decide),cell_off k.c7 (by decide),k.ck' _ _,cell_off k.c8 (by decide),cell_off k.c9 (by decide),cell_off k.c10 (by decide)⟩
theorem JnS.setBegun (k:JnS b W j v q) (n:Bool):JnS b (W.setCell ⟨b,8,none⟩ (.bool n)) { j with begun:=n } v q :=
 ⟨cell_off k.c0 (by decide),cell_off k.c1 (by decide),cell_off k.c2 (by decide),cell_off k.c3 (by decide),cell_off k.c4 (by decide),k.bd.set (by decide) (by decide),cell_off k.c7 (by decide),k.ck' _ _,cell_set_same k.c8,cell_off k.c9 (by decide),cell_off k.c10 (by decide)⟩
theorem JnS.setLast (k:JnS b W j v q) (n:Bool):JnS b (W.setCell ⟨b,9,none⟩ (.bool n)) { j with last:=n } v q :=
 ⟨cell_off k.c0 (by decide),cell_off k.c1 (by decide),cell_off k.c2 (by decide),cell_off k.c3 (by decide),cell_off k.c4 (by decide),k.bd.set (by decide) (by decide),cell_off k.c7 (by decide),k.ck' _ _,cell_off k.c8 (by decide),cell_set_same k.c9,cell_off k.c10 (by decide)⟩
theorem JnS.setLacks (k:JnS b W j v q) (n:Nat):JnS b (W.setCell ⟨b,10,none⟩ (.int .i64 n)) { j with lacks:=n } v q :=
 ⟨cell_off k.c0 (by decide),cell_off k.c1 (by decide),cell_off k.c2 (by decide),cell_off k.c3 (by decide),cell_off k.c4 (by decide),k.bd.set (by decide) (by decide),cell_off k.c7 (by decide),k.ck' _ _,cell_off k.c8 (by decide),cell_off k.c9 (by decide),cell_set_same k.c10⟩
theorem JnS.setCheck (k:JnS b W j v q) {c:Nat} {u:Uk} (hu:UkAt c W u) (hcb:c≠b) (hv:v.ownBlock≠some c):JnS b (W.setCell ⟨b,7,none⟩ (.pointer (some ⟨c,0,none⟩))) { j with check:=u } v (some c) :=
 ⟨cell_off k.c0 (by decide),cell_off k.c1 (by decide),cell_off k.c2 (by decide),cell_off k.c3 (by decide),cell_off k.c4 (by decide),k.bd.set (by decide) (by decide),cell_set_same k.c7,fun c' e=>by cases e;exact ⟨hu.ch (Ch.setCell (T:=fun i=>i=b) W (a:=⟨b,7,none⟩) rfl _) hcb,hcb,hv⟩,cell_off k.c8 (by decide),cell_off k.c9 (by decide),cell_off k.c10 (by decide)⟩
end
def JnOk (j:Jn):Prop:=j.limit≤1099511627776∧j.sum≤j.limit∧j.text.length≤j.sum∧j.lacks≤j.limit∧(j.begun=true→j.text.length+j.lacks≤j.sum)∧j.bad≤1009∧j.op≤2
theorem jn0_ok {n:Nat} (h:n≤1099511627776):JnOk (jn0 n):=⟨h,Nat.zero_le _,Nat.le_refl _,Nat.zero_le _,fun e=>(by cases e),Nat.zero_le _,Nat.zero_le _⟩
theorem jnFail_ok {j:Jn} (h:JnOk j) {c:Nat} (hc:c≤1009):JnOk (jnFail j c):=by
 unfold jnFail
 split
 ·exact ⟨h.1,h.2.1,h.2.2.1,h.2.2.2.1,h.2.2.2.2.1,hc,h.2.2.2.2.2.2⟩
 ·exact h
theorem jnone_any {b:Nat} {W:World} {j:Jn} {v:Value} {q:Option Nat} (k:JnS b W j v q) :
  Calls Tryz.prog 183 #[.pointer (some ⟨b,0,none⟩)] W fun e w'=>e=.returned (.bool false)∧W=w':=by
 have c1:=k.c1
 clear k
 go_enter Tryz.func183,Tryz.ntmps183
 go_wp2
 go_ret
 exact ⟨rfl,rfl⟩
theorem jfails_any {b:Nat} {W:World} {j:Jn} {v:Value} {q:Option Nat} (k:JnS b W j v q) (c:Nat) :
  Calls Tryz.prog 184 #[.pointer (some ⟨b,0,none⟩),.int .i64 c] W fun e w'=>e=.returned (.int .i64 (jnFail j c).bad)∧JnS b w' (jnFail j c) v q∧Ch (fun i=>i=b) W w':=by
 have c2:=k.c2
 have fz:=k.bd.fz
 have k':=hid k
 clear k
 by_cases h:j.bad=0
 ·have hv:=hid (show jnFail j c={ j with bad:=c } by unfold jnFail;rw [if_pos h])
  rw [h] at c2
  go_enter Tryz.func184,Tryz.ntmps184
  go_wp2
  go_ret
  rw [hv.out]
  exact ⟨rfl,k'.out.setBad c,Ch.setCell (T:=fun i=>i=b) _ (a:=⟨b,2,none⟩) rfl _⟩
 ·have hv:=hid (show jnFail j c=j by unfold jnFail;rw [if_neg h])
  have hz:((j.bad:Int)==0)=false:=beq_eq_false_iff_ne.2 (by omega)
  clear h
  go_enter Tryz.func184,Tryz.ntmps184
  go_wp2
  go_ret
  rw [hv.out]
  exact ⟨rfl,k'.out,Ch.refl _ _⟩
theorem jnew_any (W:World) (n:Nat) (hn:n≤1099511627776):Calls Tryz.prog 64 #[.int .i64 n] W fun e w'=>e=.returned (.tuple #[.pointer (some ⟨W.heap.size,0,none⟩),.int .i64 0])∧JnS W.heap.size w' (jn0 n) (.slice none 0 0) none∧Gr W w'∧w'.heap.size=W.heap.size+1:=by
 have h1:((n:Int)<0)=False:=by simp
 have h2:((1099511627776:Int)<n)=False:=by simp;omega
 go_enter Tryz.func64,Tryz.ntmps64
 go_wp2
 go_ret2
 refine ⟨rfl,⟨cell_new7 _ _ _ 0 _ rfl,cell_new7 _ _ _ 1 _ rfl,cell_new7 _ _ _ 2 _ rfl,cell_new7 _ _ _ 3 _ rfl,cell_new7 _ _ _ 4 _ rfl,⟨.inl (cell_new7 _ _ _ 5 _ rfl),cell_new7 _ _ _ 6 _ rfl,⟨rfl,.inl ⟨rfl,rfl⟩⟩,(by intro e;cases e),(by intro a n c e;cases e),?_,fun _=>World.frozen?_alloc_at _ _ _ _ rfl⟩,cell_new7 _ _ _ 7 _ rfl,(by intro c e;cases e),cell_new7 _ _ _ 8 _ rfl,cell_new7 _ _ _ 9 _ rfl,cell_new7 _ _ _ 10 _ rfl⟩,Gr.alloc _ _,by simp⟩
 unfold World.shape? World.alloc
 rw [show (W.heap.push _)[W.heap.size]?=_ from Array.getElem?_push_size]
 rfl
end Go.Proofs.YtadobobfjnmdlaaGreatDoor
