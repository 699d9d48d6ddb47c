/-
  The check of texts: what a byte begins; a step; a text's bytes.
-/
import Derived.Test.YtadobobfjnmdlaaGreatDoorGd
import Derived.Test.YtadobobfjnmdlaaGreatDoorEa
import Derived.Test.YtadobobfjnmdlaaGreatDoorRw
import Derived.Deep.RegionHeld3
import Derived.RegionTactic
set_option linter.unusedVariables false
set_option linter.unusedSimpArgs false
set_option maxHeartbeats 16000000
set_option maxRecDepth 100000
open Go.Lib (hid)
namespace Go.Proofs.YtadobobfjnmdlaaGreatDoor
open Go.RowKit
attribute [local go_sem] Oper.semAt_some
theorem and8:∀ n:Nat,n<256→(bits .and .u8 (n:Int) 31=((UInt8.ofNat n&&&31).toNat:Int))∧(bits .and .u8 (n:Int) 15=((UInt8.ofNat n&&&15).toNat:Int))∧(bits .and .u8 (n:Int) 7=((UInt8.ofNat n&&&7).toNat:Int))∧(bits .and .u8 (n:Int) 63=((UInt8.ofNat n&&&63).toNat:Int)):=by
 decide +kernel
theorem and8_of (b:UInt8):(bits .and .u8 (b.toNat:Int) 31=((b&&&31).toNat:Int))∧(bits .and .u8 (b.toNat:Int) 15=((b&&&15).toNat:Int))∧(bits .and .u8 (b.toNat:Int) 7=((b&&&7).toNat:Int))∧(bits .and .u8 (b.toNat:Int) 63=((b&&&63).toNat:Int)):=by
 have:=and8 b.toNat b.toNat_lt
 rwa [UInt8.ofNat_toNat] at this
def begV (x:Int×UInt8×UInt8×Nat):Value:=.tuple #[.int .i64 x.1,.int .u8 x.2.1.toNat,.int .u8 x.2.2.1.toNat,.int .i32 x.2.2.2]
theorem wrap32_small {n:Nat} (h:n<2147483648):wrap32 (n:Int)=n:=by unfold wrap32;omega
theorem beg_1 (b:UInt8) (h0:b.toNat<128):begU b=(0,0,0,b.toNat):=by
 have e:∀ k:UInt8,(b<k)=(b.toNat<k.toNat):=fun k=>propext UInt8.lt_iff_toNat_lt
 have e':∀ k:UInt8,(k<b)=(k.toNat<b.toNat):=fun k=>propext UInt8.lt_iff_toNat_lt
 have q:∀ k:UInt8,(b==k)=(b.toNat==k.toNat):=fun k=>by rw [Bool.eq_iff_iff,beq_iff_eq,beq_iff_eq,UInt8.toNat_inj]
 unfold begU
 simp only [e,e',q,UInt8.reduceToNat]
 repeat' split
 all_goals (first | rfl | (exfalso;(try simp only [Bool.or_eq_true,decide_eq_true_eq,beq_iff_eq,not_or,Nat.not_lt,Bool.not_eq_true,beq_eq_false_iff_ne,ne_eq] at *);omega))
theorem ubegins_1 (b:UInt8) (h0:b.toNat<128) (W:World) :
  Calls Tryz.prog 189 #[.int .u8 b.toNat] W fun e w'=>e=.returned (begV (begU b))∧W=w':=by
 have hv:=hid (beg_1 b h0)
 go_enter Tryz.func189,Tryz.ntmps189
 go_wp2
 refine bodyPost_ret (v:=begV (begU b)) (by simp [results,Tryz.results189,go_sem,begV,hv.out]) rfl ⟨rfl,rfl⟩
theorem beg_2 (b:UInt8) (h0:128≤b.toNat) (h1:b.toNat<194):begU b=(-1,0,0,0):=by
 have e:∀ k:UInt8,(b<k)=(b.toNat<k.toNat):=fun k=>propext UInt8.lt_iff_toNat_lt
 have e':∀ k:UInt8,(k<b)=(k.toNat<b.toNat):=fun k=>propext UInt8.lt_iff_toNat_lt
 have q:∀ k:UInt8,(b==k)=(b.toNat==k.toNat):=fun k=>by rw [Bool.eq_iff_iff,beq_iff_eq,beq_iff_eq,UInt8.toNat_inj]
 unfold begU
 simp only [e,e',q,UInt8.reduceToNat]
 repeat' split
 all_goals (first | rfl | (exfalso;(try simp only [Bool.or_eq_true,decide_eq_true_eq,beq_iff_eq,not_or,Nat.not_lt,Bool.not_eq_true,beq_eq_false_iff_ne,ne_eq] at *);omega))
theorem ubegins_2 (b:UInt8) (h0:128≤b.toNat) (h1:b.toNat<194) (W:World) :
  Calls Tryz.prog 189 #[.int .u8 b.toNat] W fun e w'=>e=.returned (begV (begU b))∧W=w':=by
 have hv:=hid (beg_2 b h0 h1)
 go_enter Tryz.func189,Tryz.ntmps189
 go_wp2
 refine bodyPost_ret (v:=begV (begU b)) (by simp [results,Tryz.results189,go_sem,begV,hv.out]) rfl ⟨rfl,rfl⟩
theorem beg_3 (b:UInt8) (h0:244<b.toNat):begU b=(-1,0,0,0):=by
 have e:∀ k:UInt8,(b<k)=(b.toNat<k.toNat):=fun k=>propext UInt8.lt_iff_toNat_lt
 have e':∀ k:UInt8,(k<b)=(k.toNat<b.toNat):=fun k=>propext UInt8.lt_iff_toNat_lt
 have q:∀ k:UInt8,(b==k)=(b.toNat==k.toNat):=fun k=>by rw [Bool.eq_iff_iff,beq_iff_eq,beq_iff_eq,UInt8.toNat_inj]
 unfold begU
 simp only [e,e',q,UInt8.reduceToNat]
 repeat' split
 all_goals (first | rfl | (exfalso;(try simp only [Bool.or_eq_true,decide_eq_true_eq,beq_iff_eq,not_or,Nat.not_lt,Bool.not_eq_true,beq_eq_false_iff_ne,ne_eq] at *);omega))
theorem ubegins_3 (b:UInt8) (h0:244<b.toNat) (W:World) :
  Calls Tryz.prog 189 #[.int .u8 b.toNat] W fun e w'=>e=.returned (begV (begU b))∧W=w':=by
 have hv:=hid (beg_3 b h0)
 go_enter Tryz.func189,Tryz.ntmps189
 go_wp2
 refine bodyPost_ret (v:=begV (begU b)) (by simp [results,Tryz.results189,go_sem,begV,hv.out]) rfl ⟨rfl,rfl⟩
theorem beg_4 (b:UInt8) (h0:194≤b.toNat) (h1:b.toNat<224):begU b=(1,128,191,(b&&&31).toNat):=by
 have e:∀ k:UInt8,(b<k)=(b.toNat<k.toNat):=fun k=>propext UInt8.lt_iff_toNat_lt
 have e':∀ k:UInt8,(k<b)=(k.toNat<b.toNat):=fun k=>propext UInt8.lt_iff_toNat_lt
 have q:∀ k:UInt8,(b==k)=(b.toNat==k.toNat):=fun k=>by rw [Bool.eq_iff_iff,beq_iff_eq,beq_iff_eq,UInt8.toNat_inj]
 unfold begU
 simp only [e,e',q,UInt8.reduceToNat]
 repeat' split
 all_goals (first | rfl | (exfalso;(try simp only [Bool.or_eq_true,decide_eq_true_eq,beq_iff_eq,not_or,Nat.not_lt,Bool.not_eq_true,beq_eq_false_iff_ne,ne_eq] at *);omega))
theorem ubegins_4 (b:UInt8) (h0:194≤b.toNat) (h1:b.toNat<224) (W:World) :
  Calls Tryz.prog 189 #[.int .u8 b.toNat] W fun e w'=>e=.returned (begV (begU b))∧W=w':=by
 have hv:=hid (beg_4 b h0 h1)
 have a1:=(and8_of b).1
 go_enter Tryz.func189,Tryz.ntmps189
 go_wp2
 refine bodyPost_ret (v:=begV (begU b)) (by simp [results,Tryz.results189,go_sem,begV,hv.out];have:=@Nat.and_le_right b.toNat 31;rw [wrap32_small (by omega)]) rfl ⟨rfl,rfl⟩
theorem beg_5 (b:UInt8) (h0:b.toNat=224):begU b=(2,160,191,0):=by
 have e:∀ k:UInt8,(b<k)=(b.toNat<k.toNat):=fun k=>propext UInt8.lt_iff_toNat_lt
 have e':∀ k:UInt8,(k<b)=(k.toNat<b.toNat):=fun k=>propext UInt8.lt_iff_toNat_lt
 have q:∀ k:UInt8,(b==k)=(b.toNat==k.toNat):=fun k=>by rw [Bool.eq_iff_iff,beq_iff_eq,beq_iff_eq,UInt8.toNat_inj]
 unfold begU
 simp only [e,e',q,UInt8.reduceToNat]
 repeat' split
 all_goals (first | rfl | (exfalso;(try simp only [Bool.or_eq_true,decide_eq_true_eq,beq_iff_eq,not_or,Nat.not_lt,Bool.not_eq_true,beq_eq_false_iff_ne,ne_eq] at *);omega))
theorem ubegins_5 (b:UInt8) (h0:b.toNat=224) (W:World) :
  Calls Tryz.prog 189 #[.int .u8 b.toNat] W fun e w'=>e=.returned (begV (begU b))∧W=w':=by
 have hv:=hid (beg_5 b h0)
 have hq:=hid h0
 rw [h0]
 go_enter Tryz.func189,Tryz.ntmps189
 go_wp2
 refine bodyPost_ret (v:=begV (begU b)) (by simp [results,Tryz.results189,go_sem,begV,hv.out]) rfl ⟨rfl,rfl⟩
theorem beg_6 (b:UInt8) (h0:b.toNat=237):begU b=(2,128,159,(b&&&15).toNat):=by
 have e:∀ k:UInt8,(b<k)=(b.toNat<k.toNat):=fun k=>propext UInt8.lt_iff_toNat_lt
 have e':∀ k:UInt8,(k<b)=(k.toNat<b.toNat):=fun k=>propext UInt8.lt_iff_toNat_lt
 have q:∀ k:UInt8,(b==k)=(b.toNat==k.toNat):=fun k=>by rw [Bool.eq_iff_iff,beq_iff_eq,beq_iff_eq,UInt8.toNat_inj]
 unfold begU
 simp only [e,e',q,UInt8.reduceToNat]
 repeat' split
 all_goals (first | rfl | (exfalso;(try simp only [Bool.or_eq_true,decide_eq_true_eq,beq_iff_eq,not_or,Nat.not_lt,Bool.not_eq_true,beq_eq_false_iff_ne,ne_eq] at *);omega))
theorem ubegins_6 (b:UInt8) (h0:b.toNat=237) (W:World) :
  Calls Tryz.prog 189 #[.int .u8 b.toNat] W fun e w'=>e=.returned (begV (begU b))∧W=w':=by
 have hv:=hid (beg_6 b h0)
 have hq:=hid h0
 have a1:bits .and .u8 237 15=((b&&&15).toNat:Int):=by have:=(and8_of b).2.1;rw [h0] at this;exact this
 rw [h0]
 go_enter Tryz.func189,Tryz.ntmps189
 go_wp2
 refine bodyPost_ret (v:=begV (begU b)) (by simp [results,Tryz.results189,go_sem,begV,hv.out];rw [hq.out];rfl) rfl ⟨rfl,rfl⟩
theorem beg_7 (b:UInt8) (h0:224<b.toNat) (h1:b.toNat<240) (h2:b.toNat≠237):begU b=(2,128,191,(b&&&15).toNat):=by
 have e:∀ k:UInt8,(b<k)=(b.toNat<k.toNat):=fun k=>propext UInt8.lt_iff_toNat_lt
 have e':∀ k:UInt8,(k<b)=(k.toNat<b.toNat):=fun k=>propext UInt8.lt_iff_toNat_lt
 have q:∀ k:UInt8,(b==k)=(b.toNat==k.toNat):=fun k=>by rw [Bool.eq_iff_iff,beq_iff_eq,beq_iff_eq,UInt8.toNat_inj]
 unfold begU
 simp only [e,e',q,UInt8.reduceToNat]
 repeat' split
 all_goals (first | rfl | (exfalso;(try simp only [Bool.or_eq_true,decide_eq_true_eq,beq_iff_eq,not_or,Nat.not_lt,Bool.not_eq_true,beq_eq_false_iff_ne,ne_eq] at *);omega))
theorem ubegins_7 (b:UInt8) (h0:224<b.toNat) (h1:b.toNat<240) (h2:b.toNat≠237) (W:World) :
  Calls Tryz.prog 189 #[.int .u8 b.toNat] W fun e w'=>e=.returned (begV (begU b))∧W=w':=by
 have hv:=hid (beg_7 b h0 h1 h2)
 have a1:=(and8_of b).2.1
 go_enter Tryz.func189,Tryz.ntmps189
 go_wp2
 refine bodyPost_ret (v:=begV (begU b)) (by simp [results,Tryz.results189,go_sem,begV,hv.out];have:=@Nat.and_le_right b.toNat 15;rw [wrap32_small (by omega)]) rfl ⟨rfl,rfl⟩
theorem beg_8 (b:UInt8) (h0:b.toNat=240):begU b=(3,144,191,0):=by
 have e:∀ k:UInt8,(b<k)=(b.toNat<k.toNat):=fun k=>propext UInt8.lt_iff_toNat_lt
 have e':∀ k:UInt8,(k<b)=(k.toNat<b.toNat):=fun k=>propext UInt8.lt_iff_toNat_lt
 have q:∀ k:UInt8,(b==k)=(b.toNat==k.toNat):=fun k=>by rw [Bool.eq_iff_iff,beq_iff_eq,beq_iff_eq,UInt8.toNat_inj]
 unfold begU
 simp only [e,e',q,UInt8.reduceToNat]
 repeat' split
 all_goals (first | rfl | (exfalso;(try simp only [Bool.or_eq_true,decide_eq_true_eq,beq_iff_eq,not_or,Nat.not_lt,Bool.not_eq_true,beq_eq_false_iff_ne,ne_eq] at *);omega))
theorem ubegins_8 (b:UInt8) (h0:b.toNat=240) (W:World) :
  Calls Tryz.prog 189 #[.int .u8 b.toNat] W fun e w'=>e=.returned (begV (begU b))∧W=w':=by
 have hv:=hid (beg_8 b h0)
 have hq:=hid h0
 rw [h0]
 go_enter Tryz.func189,Tryz.ntmps189
 go_wp2
 refine bodyPost_ret (v:=begV (begU b)) (by simp [results,Tryz.results189,go_sem,begV,hv.out]) rfl ⟨rfl,rfl⟩
theorem beg_9 (b:UInt8) (h0:b.toNat=244):begU b=(3,128,143,(b&&&7).toNat):=by
 have e:∀ k:UInt8,(b<k)=(b.toNat<k.toNat):=fun k=>propext UInt8.lt_iff_toNat_lt
 have e':∀ k:UInt8,(k<b)=(k.toNat<b.toNat):=fun k=>propext UInt8.lt_iff_toNat_lt
 have q:∀ k:UInt8,(b==k)=(b.toNat==k.toNat):=fun k=>by rw [Bool.eq_iff_iff,beq_iff_eq,beq_iff_eq,UInt8.toNat_inj]
 unfold begU
 simp only [e,e',q,UInt8.reduceToNat]
 repeat' split
 all_goals (first | rfl | (exfalso;(try simp only [Bool.or_eq_true,decide_eq_true_eq,beq_iff_eq,not_or,Nat.not_lt,Bool.not_eq_true,beq_eq_false_iff_ne,ne_eq] at *);omega))
theorem ubegins_9 (b:UInt8) (h0:b.toNat=244) (W:World) :
  Calls Tryz.prog 189 #[.int .u8 b.toNat] W fun e w'=>e=.returned (begV (begU b))∧W=w':=by
 have hv:=hid (beg_9 b h0)
 have hq:=hid h0
 have a1:bits .and .u8 244 7=((b&&&7).toNat:Int):=by have:=(and8_of b).2.2.1;rw [h0] at this;exact this
 rw [h0]
 go_enter Tryz.func189,Tryz.ntmps189
 go_wp2
 refine bodyPost_ret (v:=begV (begU b)) (by simp [results,Tryz.results189,go_sem,begV,hv.out];rw [hq.out];rfl) rfl ⟨rfl,rfl⟩
theorem beg_10 (b:UInt8) (h0:240<b.toNat) (h1:b.toNat<244):begU b=(3,128,191,(b&&&7).toNat):=by
 have e:∀ k:UInt8,(b<k)=(b.toNat<k.toNat):=fun k=>propext UInt8.lt_iff_toNat_lt
 have e':∀ k:UInt8,(k<b)=(k.toNat<b.toNat):=fun k=>propext UInt8.lt_iff_toNat_lt
 have q:∀ k:UInt8,(b==k)=(b.toNat==k.toNat):=fun k=>by rw [Bool.eq_iff_iff,beq_iff_eq,beq_iff_eq,UInt8.toNat_inj]
 unfold begU
 simp only [e,e',q,UInt8.reduceToNat]
 repeat' split
 all_goals (first | rfl | (exfalso;(try simp only [Bool.or_eq_true,decide_eq_true_eq,beq_iff_eq,not_or,Nat.not_lt,Bool.not_eq_true,beq_eq_false_iff_ne,ne_eq] at *);omega))
theorem ubegins_10 (b:UInt8) (h0:240<b.toNat) (h1:b.toNat<244) (W:World) :
  Calls Tryz.prog 189 #[.int .u8 b.toNat] W fun e w'=>e=.returned (begV (begU b))∧W=w':=by
 have hv:=hid (beg_10 b h0 h1)
 have a1:=(and8_of b).2.2.1
 go_enter Tryz.func189,Tryz.ntmps189
 go_wp2
 refine bodyPost_ret (v:=begV (begU b)) (by simp [results,Tryz.results189,go_sem,begV,hv.out];have:=@Nat.and_le_right b.toNat 7;rw [wrap32_small (by omega)]) rfl ⟨rfl,rfl⟩
theorem ubegins_any (b:UInt8) (W:World) :
  Calls Tryz.prog 189 #[.int .u8 b.toNat] W fun e w'=>e=.returned (begV (begU b))∧W=w':=by
 by_cases h1:b.toNat<128
 ·exact ubegins_1 b h1 W
 ·by_cases h2:b.toNat<194
  ·exact ubegins_2 b (by omega) h2 W
  ·by_cases h3:244<b.toNat
   ·exact ubegins_3 b h3 W
   ·by_cases h4:b.toNat<224
    ·exact ubegins_4 b (by omega) h4 W
    ·by_cases h5:b.toNat=224
     ·exact ubegins_5 b h5 W
     ·by_cases h6:b.toNat=237
      ·exact ubegins_6 b h6 W
      ·by_cases h7:b.toNat<240
       ·exact ubegins_7 b (by omega) h7 h6 W
       ·by_cases h8:b.toNat=240
        ·exact ubegins_8 b h8 W
        ·by_cases h9:b.toNat=244
         ·exact ubegins_9 b h9 W
         ·exact ubegins_10 b (by omega) (by omega) W
structure UkAt (B:Nat) (W:World) (k:Uk):Prop where
 c0:W.cell? ⟨B,0,none⟩=some (.int .i64 k.c.left)
 c1:W.cell? ⟨B,1,none⟩=some (.int .u8 k.c.low.toNat)
 c2:W.cell? ⟨B,2,none⟩=some (.int .u8 k.c.high.toNat)
 c3:W.cell? ⟨B,3,none⟩=some (.int .i32 k.c.x)
 c4:∃ n,W.cell? ⟨B,4,none⟩=some (.int .i64 n)
 c5:W.cell? ⟨B,5,none⟩=some (.bool k.bad)
 fz:∀ o,W.frozen? ⟨B,o,none⟩=false
 ok:UcOk k.c
theorem UkAt.lt {B:Nat} {W:World} {k:Uk} (h:UkAt B W k):B<W.heap.size:=cell_lt h.c0
theorem UkAt.gr {B:Nat} {W W':World} {k:Uk} (h:UkAt B W k) (g:Gr W W'):UkAt B W' k :=
 ⟨g.cell h.c0,g.cell h.c1,g.cell h.c2,g.cell h.c3,h.c4.imp fun _ e=>g.cell e,g.cell h.c5,fun o=>(Below.frozen g (show B<W.heap.size from h.lt)).trans (h.fz o),h.ok⟩
theorem UkAt.put {B:Nat} {W:World} {k:Uk} (h:UkAt B W k) {c:Uc} (hc:UcOk c) :
  UkAt B ((((W.setCell ⟨B,0,none⟩ (.int .i64 c.left)).setCell ⟨B,1,none⟩ (.int .u8 c.low.toNat)).setCell ⟨B,2,none⟩ (.int .u8 c.high.toNat)).setCell ⟨B,3,none⟩ (.int .i32 c.x)) { k with c:=c }:=by
 refine ⟨?_,?_,?_,?_,h.c4.imp fun n e=>?_,?_,fun o=>by rw [frozen_set,frozen_set,frozen_set,frozen_set];exact h.fz o,hc⟩
 all_goals simp [go_sem,h.c0,h.c1,h.c2,h.c3,h.c5]
 exact e
def StepPost (B:Nat) (W:World) (k:Uk) (o:Option Uc) (e:Ending) (W':World):Prop :=
 e=.returned (.bool o.isSome)∧UkAt B W' { k with c:=o.getD k.c }∧Ch (fun j=>j=B) W W'
theorem ch4 {B:Nat} {W:World} (a b c d:Value):Ch (fun j=>j=B) W ((((W.setCell ⟨B,0,none⟩ a).setCell ⟨B,1,none⟩ b).setCell ⟨B,2,none⟩ c).setCell ⟨B,3,none⟩ d) :=
 (((Ch.setCell (T:=fun j=>j=B) W (a:=⟨B,0,none⟩) rfl a).trans (Ch.setCell (T:=fun j=>j=B) _ (a:=⟨B,1,none⟩) rfl b)).trans (Ch.setCell (T:=fun j=>j=B) _ (a:=⟨B,2,none⟩) rfl c)).trans (Ch.setCell (T:=fun j=>j=B) _ (a:=⟨B,3,none⟩) rfl d)
theorem begU_left (b:UInt8):-1≤(begU b).1∧(begU b).1≤3:=by
 unfold begU
 repeat' split
 all_goals (constructor <;> (try simp only []) <;> omega)
theorem ustep_0 (B:Nat) (W:World) (k:Uk) (b:UInt8) (h:UkAt B W k) (h0:k.c.left=0) :
  Calls Tryz.prog 154 #[.pointer (some ⟨B,0,none⟩),.int .u8 b.toNat] W (StepPost B W k (stepU k.c b)):=by
 have h':=hid h
 have c0:=h.c0
 rw [h0] at c0
 have fz:=h.fz
 have k0:=h.c0
 have k1:=h.c1
 have k2:=h.c2
 have k3:=h.c3
 have hl:=begU_left b
 have hbg:=hid (ubegins_any b W)
 have hs:=hid (show stepU k.c b=if (begU b).1<0 then none else some ⟨(begU b).1.toNat,(begU b).2.1,(begU b).2.2.1,(begU b).2.2.2⟩ by unfold stepU;rw [if_pos h0])
 have hok:=hid (fun c' e=>h.ok.step (b:=b) (c':=c') e)
 clear h h0 k0
 obtain ⟨⟨x1,x2,x3,x4⟩,hbx⟩:∃ x,begU b=x:=⟨_,rfl⟩
 rw [hbx] at hl hs hbg
 dsimp only at hl hs
 go_enter Tryz.func154,Tryz.ntmps154
 go_wp2_with (fail)
 refine (hbg.out).mono ?_
 rintro e w1 ⟨rfl,rfl⟩
 unfold begV
 by_cases hn:x1<0
 ·rw [if_pos hn] at hs
  go_wp2
  go_ret
  exact ⟨by rw [hs.out];rfl,by rw [hs.out];exact h'.out,Ch.refl _ _⟩
 ·rw [if_neg hn] at hs
  go_wp2
  go_ret
  refine ⟨by rw [hs.out];rfl,?_,ch4 _ _ _ _⟩
  rw [hs.out]
  have hx:((x1.toNat:Nat):Int)=x1:=Int.toNat_of_nonneg (by omega)
  have:=h'.out.put (hok.out _ hs.out)
  simp only [Option.getD_some]
  dsimp only at this
  rw [hx] at this
  exact this
theorem ustep_n (B:Nat) (W:World) (k:Uk) (b:UInt8) (h:UkAt B W k) (h0:k.c.left≠0) (hb:(b<k.c.low||k.c.high<b)=true) :
  Calls Tryz.prog 154 #[.pointer (some ⟨B,0,none⟩),.int .u8 b.toNat] W (StepPost B W k (stepU k.c b)):=by
 have h':=hid h
 have c0:=h.c0
 have c1:=h.c1
 have c2:=h.c2
 have hz:((k.c.left:Int)==0)=false:=beq_eq_false_iff_ne.2 (by omega)
 have hs:=hid (show stepU k.c b=none by unfold stepU;rw [if_neg h0,if_pos hb])
 have hb':b.toNat<k.c.low.toNat∨k.c.high.toNat<b.toNat:=by simpa [UInt8.lt_iff_toNat_lt] using hb
 clear h h0 hb
 by_cases h1:b.toNat<k.c.low.toNat
 ·go_enter Tryz.func154,Tryz.ntmps154
  go_wp2
  go_ret
  exact ⟨by rw [hs.out];rfl,by rw [hs.out];exact h'.out,Ch.refl _ _⟩
 ·have h2:k.c.high.toNat<b.toNat:=by omega
  have h1:¬(b.toNat:Int)<k.c.low.toNat:=by omega
  clear hb'
  go_enter Tryz.func154,Tryz.ntmps154
  go_wp2
  go_ret
  exact ⟨by rw [hs.out];rfl,by rw [hs.out];exact h'.out,Ch.refl _ _⟩
theorem or6 {x y:Nat} (hx:x<33554432) (hy:y<64):bits .or .i32 ((x:Int)*64) (y:Int)=((x*64+y:Nat):Int):=by
 have:=i32_or6 (x:=(x:Int)*64) (y:=(y:Int)) (by omega) (by omega) (by omega) (by omega) (by omega)
 rw [this];omega
theorem ustep_y (B:Nat) (W:World) (k:Uk) (b:UInt8) (h:UkAt B W k) (h0:k.c.left≠0) (hb:(b<k.c.low||k.c.high<b)=false) :
  Calls Tryz.prog 154 #[.pointer (some ⟨B,0,none⟩),.int .u8 b.toNat] W (StepPost B W k (stepU k.c b)):=by
 have h':=hid h
 have c0:=h.c0
 have c1:=h.c1
 have c2:=h.c2
 have c3:=h.c3
 have fz:=h.fz
 have hz:((k.c.left:Int)==0)=false:=beq_eq_false_iff_ne.2 (by omega)
 have hs:=hid (show stepU k.c b=some ⟨k.c.left - 1,128,191,k.c.x*64+(b&&&63).toNat⟩ by unfold stepU;rw [if_neg h0,hb,if_neg (by decide)])
 have hb':¬b.toNat<k.c.low.toNat∧¬k.c.high.toNat<b.toNat:=by simpa [UInt8.lt_iff_toNat_lt] using hb
 have hb1:¬(b.toNat:Int)<k.c.low.toNat:=by omega
 have hb2:¬(k.c.high.toNat:Int)<b.toNat:=by omega
 have hok:=hid (fun c' e=>h.ok.step (b:=b) (c':=c') e)
 have ha:=(and8_of b).2.2.2
 haveI:Nonempty (Later (Gr W)):=⟨⟨W,Gr.refl W⟩⟩
 have t0:∀ x:Later (Gr W),x.w.cell? ⟨B,0,none⟩=some (.int .i64 k.c.left):=fun x=>x.ok.cell h.c0
 have t3:∀ x:Later (Gr W),x.w.cell? ⟨B,3,none⟩=some (.int .i32 k.c.x):=fun x=>x.ok.cell h.c3
 obtain ⟨hx1,hx2,hx3,hx4,hx5⟩:=h.ok
 have hxx:k.c.x<33554432:=by
  have:k.c.left=1∨k.c.left=2∨k.c.left=3:=by omega
  rcases this with e | e | e
  ·have:=hx3 e;omega
  ·have:=hx4 e;omega
  ·have:=hx5 e;omega
 clear h hb hb' hx2 hx3 hx4 hx5
 go_enter Tryz.func154,Tryz.ntmps154
 go_upto_region 9 with (fail)
 have hl1:(1:Int)≤k.c.left:=by omega
 have hl3:(k.c.left:Int)≤3:=by omega
 have hw1:IntKind.i64.wrap ((k.c.left:Int) - 1)=(k.c.left:Int) - 1:=IntWalk.i64_in _ (by omega)
 have hlt:(b&&&63).toNat<64:=by
  rw [UInt8.toNat_and]
  exact Nat.lt_of_le_of_lt Nat.and_le_right (by decide)
 have hbe:(b&&&63).toNat=b.toNat&&&63:=UInt8.toNat_and b 63
 have hv0:bits .or .i32 ((k.c.x:Int)*64) (((b&&&63).toNat:Nat):Int)=((k.c.x*64+(b&&&63).toNat:Nat):Int):=or6 hxx hlt
 have hq1:IntKind.i32.wrap ((k.c.x:Int)*64)=(k.c.x:Int)*64:=IntWalk.i32_in _ (by omega)
 have hb63:((b.toNat&&&63:Nat):Int)<64:=by omega
 have hq3:IntKind.i32.wrap ((b.toNat&&&63:Nat):Int)=((b.toNat&&&63:Nat):Int):=IntWalk.i32_in _ (by omega)
 have hq2:wrap32 ((b.toNat&&&63:Nat):Int)=((b.toNat&&&63:Nat):Int):=wrap32_small (by omega)
 have hv1:=hid (show bits .or .i32 (IntKind.i32.wrap ((k.c.x:Int)*64)) (IntKind.i32.wrap ((b.toNat&&&63:Nat):Int))=((k.c.x*64+(b&&&63).toNat:Nat):Int) by
  rw [hq1,hq3,←hbe];exact hv0)
 have hv2:=hid (show bits .or .i32 ((k.c.x:Int)*64) (wrap32 ((b.toNat&&&63:Nat):Int))=((k.c.x*64+(b&&&63).toNat:Nat):Int) by
  rw [hq2,←hbe];exact hv0)
 have hv3:=hid (show bits .or .i32 ((k.c.x:Int)*64) ((b.toNat&&&63:Nat):Int)=((k.c.x*64+(b&&&63).toNat:Nat):Int) by
  rw [←hbe];exact hv0)
 clear t0 t3 hv0 hq1 hq2 hq3 hb63 hbe hlt
 go_region_law (fail)
 all_goals
  go_wp2
  go_ret
  refine ⟨by rw [hs.out];rfl,?_,(ch4 _ _ _ _).trans (Ch.drew _ _)⟩
  rw [hs.out]
  have p:=(h'.out.put (hok.out _ hs.out)).gr (Gr.drew (Gr.refl _))
  have q:((k.c.left - 1:Nat):Int)=(k.c.left:Int) - 1:=by omega
  dsimp only at p
  rw [q] at p
  first
   |(rw [←hv1.out] at p;exact p)
   |(rw [←hv2.out] at p;exact p)
   |(rw [←hv3.out] at p;exact p)
theorem ustep_any (B:Nat) (W:World) (k:Uk) (b:UInt8) (h:UkAt B W k) :
  Calls Tryz.prog 154 #[.pointer (some ⟨B,0,none⟩),.int .u8 b.toNat] W (StepPost B W k (stepU k.c b)):=by
 by_cases h0:k.c.left=0
 ·exact ustep_0 B W k b h h0
 ·cases hb:(b<k.c.low||k.c.high<b) with
  | true=>exact ustep_n B W k b h h0 hb
  | false=>exact ustep_y B W k b h h0 hb
theorem UkAt.sbad {B:Nat} {W:World} {k:Uk} (h:UkAt B W k) (b:Bool):UkAt B (W.setCell ⟨B,5,none⟩ (.bool b)) { k with bad:=b }:=by
 refine ⟨?_,?_,?_,?_,h.c4.imp fun n e=>?_,?_,fun o=>by rw [frozen_set];exact h.fz o,h.ok⟩
 all_goals simp [go_sem,h.c0,h.c1,h.c2,h.c3,h.c5]
 exact e
theorem UkAt.sat {B:Nat} {W:World} {k:Uk} (h:UkAt B W k) (n:Int):UkAt B (W.setCell ⟨B,4,none⟩ (.int .i64 n)) k:=by
 obtain ⟨m,hm⟩:=h.c4
 refine ⟨?_,?_,?_,?_,⟨n,?_⟩,?_,fun o=>by rw [frozen_set];exact h.fz o,h.ok⟩
 all_goals simp [go_sem,h.c0,h.c1,h.c2,h.c3,h.c5,hm]
theorem uwhole_any {B:Nat} {W:World} {k:Uk} (h:UkAt B W k) :
  Calls Tryz.prog 187 #[.pointer (some ⟨B,0,none⟩)] W fun e w'=>e=.returned (.bool (wholeU k))∧W=w':=by
 have c0:=h.c0
 have c5:=h.c5
 clear h
 obtain ⟨⟨l,lo,hi,x⟩,bad⟩:=k
 dsimp only at c0 c5
 cases bad with
 | true =>
  go_enter Tryz.func187,Tryz.ntmps187
  go_wp2
  go_ret
  exact ⟨rfl,rfl⟩
 | false =>
  by_cases hl:l=0
  ·subst hl
   go_enter Tryz.func187,Tryz.ntmps187
   go_wp2
   go_ret
   exact ⟨rfl,rfl⟩
  ·have hz:((l:Int)==0)=false:=beq_eq_false_iff_ne.2 (by omega)
   have hv:=hid (show wholeU ⟨⟨l,lo,hi,x⟩,false⟩=false by unfold wholeU;simp [hl])
   go_enter Tryz.func187,Tryz.ntmps187
   go_wp2
   go_ret
   exact ⟨by rw [hv.out];rfl,rfl⟩
theorem uc0_ok:UcOk uc0:=⟨by decide,by decide,by decide,by decide,by decide⟩
theorem unew_any (W:World) :
  Calls Tryz.prog 185 #[] W fun e w'=>e=.returned (.pointer (some ⟨W.heap.size,0,none⟩))∧UkAt W.heap.size w' uk0∧Gr W w':=by
 go_enter Tryz.func185,Tryz.ntmps185
 go_wp2
 refine bodyPost_ret (v:=.pointer (some ⟨W.heap.size,0,none⟩)) (by simp [results,Tryz.results185,go_sem]) rfl ⟨rfl,?_,Gr.alloc _ _⟩
 exact ⟨cell_new7 _ _ _ 0 _ rfl,cell_new7 _ _ _ 1 _ rfl,cell_new7 _ _ _ 2 _ rfl,cell_new7 _ _ _ 3 _ rfl,⟨0,cell_new7 _ _ _ 4 _ rfl⟩,cell_new7 _ _ _ 5 _ rfl,fun o=>World.frozen?_alloc_at _ _ _ _ rfl,uc0_ok⟩
def UfRel (B:Nat) (W:World) (k:Uk) (s:List UInt8) (i:Value) (wr:World):Prop :=
 ∃ j r,j≤s.length∧i=.int .i64 (j:Nat)∧UkAt B wr r∧Ch (fun n=>n=B) W wr∧feedU k s=feedU r (s.drop j)
theorem ufeed_any (B:Nat) (W:World) (k:Uk) (s:List UInt8) (h:UkAt B W k) (hl:s.length≤4611686018427387904) :
  Calls Tryz.prog 186 #[.pointer (some ⟨B,0,none⟩),.string ⟨s.toArray⟩] W fun e w'=>e=.returned (.bool (!(feedU k s).bad))∧UkAt B w' (feedU k s)∧Ch (fun n=>n=B) W w':=by
 have hst:=hid (show UfRel B W k s (.int .i64 0) W from ⟨0,k,Nat.zero_le _,rfl,h,Ch.refl _ _,rfl⟩)
 clear h
 go_enter Tryz.func186,Tryz.ntmps186
 go_wp2
 go_loopw [5] (fun i wr=>UfRel B W k s i wr) (fun i _=>s.length - (intOf i).toNat)
 case atStart=>exact hst.out
 case round =>
  obtain ⟨j,r,hj,rfl,hR,hC,he⟩:=hrel
  have hR':=hid hR
  have hC':=hid hC
  have he':=hid he
  have c5:=hR.c5
  by_cases hjl:j<s.length
  ·cases hb:r.bad with
   | true =>
    rw [hb] at c5
    have hfin:=hid (show feedU k s=r by rw [he,feedU_bad r hb])
    have hb':=hid hb
    clear hR hC he hb
    go_wp2
    go_ret
    exact ⟨by rw [hfin.out,hb'.out];rfl,by rw [hfin.out];exact hR'.out,hC'.out⟩
   | false =>
    rw [hb] at c5
    have hb':=hid hb
    obtain ⟨d,hd⟩:∃ d,(⟨s.toArray⟩:ByteArray)[j]'(by rw [size_mk];exact hjl)=d:=⟨_,rfl⟩
    have hsd:s[j]=d:=hd
    have hst2:=hid (ustep_any B wr r d hR)
    have hdr:=hid (show s.drop j=d :: s.drop (j+1) by rw [List.drop_eq_getElem_cons hjl,hsd])
    clear hR hC he hb hsd
    cases hs:stepU r.c d with
    | none =>
     have hs':=hid hs
     rw [hs] at hst2
     have hnx:=hid (show feedU k s=feedU { r with bad:=true } (s.drop (j+1)) by
      rw [he'.out,hdr.out,feedU_cons,hb'.out,if_neg (by decide),hs,feedU_bad _ rfl])
     clear hs
     go_wp2_with (fail)
     refine (hst2.out).mono ?_
     rintro e wd ⟨rfl,hU,hCd⟩
     have hU5:=hU.sbad true
     have hU':=hid hU5
     have hCd':=hid (hC'.out.trans (hCd.trans (Ch.setCell (T:=fun n=>n=B) wd (a:=⟨B,5,none⟩) rfl (.bool true))))
     have d5:=hU.c5
     have dz:=hU.fz
     clear hU hCd hU5
     go_wp2
     go_round
     case rel=>exact ⟨j+1,{ r with bad:=true },hjl,by go_num,hU'.out,hCd'.out,hnx.out⟩
     case measure=>simp [intOf];omega
    | some c' =>
     have hs':=hid hs
     rw [hs] at hst2
     have hnx:=hid (show feedU k s=feedU ⟨c',false⟩ (s.drop (j+1)) by
      rw [he'.out,hdr.out,feedU_cons,hb'.out,if_neg (by decide),hs])
     clear hs
     go_wp2_with (fail)
     refine (hst2.out).mono ?_
     rintro e wd ⟨rfl,hU,hCd⟩
     obtain ⟨n,hn⟩:=hU.c4
     have hU5:=hU.sbad false
     have hU':=hid hU5
     have hCd':=hid (hC'.out.trans (hCd.trans (Ch.setCell (T:=fun n=>n=B) wd (a:=⟨B,5,none⟩) rfl (.bool false))))
     have d5:=hU.c5
     have dz:=hU.fz
     clear hU hCd hU5
     go_wp2
     go_round
     case rel=>exact ⟨j+1,⟨c',false⟩,hjl,by go_num,hU'.out.sat _,hCd'.out.trans (Ch.setCell (T:=fun n=>n=B) _ (a:=⟨B,4,none⟩) rfl _),hnx.out⟩
     case measure=>simp [intOf];omega
  ·obtain rfl:j=s.length:=by omega
   have hfin:=hid (show feedU k s=r by rw [he,List.drop_length];rfl)
   clear hR hC he
   go_wp2
   go_ret
   exact ⟨by rw [hfin.out];rfl,by rw [hfin.out];exact hR'.out,hC'.out⟩
end Go.Proofs.YtadobobfjnmdlaaGreatDoor
