/-
  Requests: what a head says, put into the parser.
-/
import Derived.Test.YtadobobfjnmdlaaGreatDoorKj
set_option maxHeartbeats 16000000
set_option maxRecDepth 100000
open Go.Lib (hid)
namespace Go.Proofs.YtadobobfjnmdlaaGreatDoor
open Go.RowKit
attribute [local go_sem] Oper.semAt_some
def readsP (p:Ps) (ls:List (List UInt8)):Ps:=match headQ ls with
 | .bad _=>p
 | .good r n ch=>{ p with r:=r,len:=n,ch:=if ch then some ck0 else p.ch }
def readsN (ls:List (List UInt8)):Nat:=match headQ ls with
 | .bad c=>c
 | .good _ _ _=>0
theorem readsQ_eq (p:Ps) (s:List UInt8):readsQ p s={ readsP p (splitE s) with bad:=readsN (splitE s) }:=by
 unfold readsQ readsP readsN
 cases headQ (splitE s) <;> rfl
theorem PsAt.sreq {B:Nat} {T:Nat→Prop} {W:World} {p:Ps} {fv cv:Value} (h:PsAt B T W p fv cv) (r:Rq) (n:Nat) (fv':Value) (hf:FieldsAt W fv' r.fs) (ho:FOut T fv') (hfb:∀ a n c,fv'=.slice (some a) n c→a.block<W.heap.size) :
  PsAt B T ((((((((W.setCell ⟨B,3,none⟩ (.string ⟨r.m.toArray⟩)).setCell ⟨B,4,none⟩ (.string ⟨r.p.toArray⟩)).setCell ⟨B,5,none⟩ (.string ⟨r.q.toArray⟩)).setCell ⟨B,6,none⟩ (.int .i64 r.v)).setCell ⟨B,7,none⟩ fv').setCell ⟨B,8,none⟩ (.string ⟨r.b.toArray⟩)).setCell ⟨B,9,none⟩ (.bool r.c)).setCell ⟨B,10,none⟩ (.int .i64 n))
   { p with r:=r,len:=n } fv' cv:=by
 refine ⟨?_,?_,?_,?_,?_,?_,?_,?_,?_,?_,?_,?_,?_,fun o=>by simp [go_sem,h.fz],?_,ho,?_,h.tb,fun k hk=>⟨(h.tl k hk).1,by simpa using (h.tl k hk).2⟩,h.gb,fun a n c e=>by simpa using hfb a n c e⟩
 ·simp [go_sem,h.c0]
 ·simp [go_sem,h.c1]
 ·simp [go_sem,h.c2]
 ·simp [go_sem,h.c3]
 ·simp [go_sem,h.c4]
 ·simp [go_sem,h.c5]
 ·simp [go_sem,h.c6]
 ·simp [go_sem,h.c7]
 ·simp [go_sem,h.c8]
 ·simp [go_sem,h.c9]
 ·simp [go_sem,h.c10]
 ·simp [go_sem,h.c11]
 ·simp [go_sem,h.c12]
 ·exact (((((((hf.putB ho h.tb 3 _).putB ho h.tb 4 _).putB ho h.tb 5 _).putB ho h.tb 6 _).putB ho h.tb 7 _).putB ho h.tb 8 _).putB ho h.tb 9 _).putB ho h.tb 10 _
 ·exact ((((((((h.ch.put 3 _).put 4 _).put 5 _).put 6 _).put 7 _).put 8 _).put 9 _).put 10 _)
theorem PsAt.schunk {B b:Nat} {T:Nat→Prop} {W:World} {p:Ps} {fv cv:Value} (h:PsAt B T W p fv cv) (hr:Rd b W ck0 (.slice none 0 0) (.slice none 0 0)) (hb:∀ k,T k→k<b) (hf:∀ a n c,fv=.slice (some a) n c→a.block<b) :
  PsAt B (fun k=>T k∨k=b) (W.setCell ⟨B,11,none⟩ (.pointer (some ⟨b,0,none⟩))) { p with ch:=some ck0 } fv (.pointer (some ⟨b,0,none⟩)):=by
 have hBb:=hb B h.tb
 have hfp:∀ k,Fp b (.slice none 0 0) (.slice none 0 0) k→k=b:=fun k hk=>by
  rcases hk with hk | hk | hk
  ·exact hk
  ·simp [Value.ownBlock] at hk
  ·simp [Value.ownBlock] at hk
 refine ⟨?_,?_,?_,?_,?_,?_,?_,?_,?_,?_,?_,?_,?_,fun o=>by simp [go_sem,h.fz],h.f.putB h.fo h.tb 11 _,fun a n c e hk=>?_,?_,.inl h.tb,fun k hk=>?_,h.gb,fun a n c e=>by simpa using h.fb a n c e⟩
 ·simp [go_sem,h.c0]
 ·simp [go_sem,h.c1]
 ·simp [go_sem,h.c2]
 ·simp [go_sem,h.c3]
 ·simp [go_sem,h.c4]
 ·simp [go_sem,h.c5]
 ·simp [go_sem,h.c6]
 ·simp [go_sem,h.c7]
 ·simp [go_sem,h.c8]
 ·simp [go_sem,h.c9]
 ·simp [go_sem,h.c10]
 ·simp [go_sem,h.c11]
 ·simp [go_sem,h.c12]
 ·rcases hk with hk | hk
  ·exact h.fo a n c e hk
  ·have:=hf a n c e;omega
 ·refine ⟨b,_,_,rfl,hr.ch (Ch.putB W _) (fun k hk hf=>by have:=hfp k hf;omega),ck0_ok,by have:=h.gb;omega,fun k hk=>?_⟩
  have:=hfp k hk
  exact ⟨.inr this,by omega⟩
 ·rcases hk with hk | rfl
  ·exact ⟨(h.tl k hk).1,by simpa using (h.tl k hk).2⟩
  ·exact ⟨by omega,by simpa using hr.lt⟩
end Go.Proofs.YtadobobfjnmdlaaGreatDoor
