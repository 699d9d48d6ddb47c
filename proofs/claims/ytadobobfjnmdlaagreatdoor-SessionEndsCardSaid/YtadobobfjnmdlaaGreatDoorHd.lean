/-
  The walk over hand.Answer.
-/
import Derived.Test.YtadobobfjnmdlaaGreatDoorBc
import Derived.Test.YtadobobfjnmdlaaGreatDoorP53
set_option linter.unnecessarySimpa false
set_option linter.unusedVariables false
set_option linter.unusedSimpArgs false
set_option maxHeartbeats 16000000
set_option maxRecDepth 100000
open Go.Lib (hid)
namespace Go.Proofs.YtadobobfjnmdlaaGreatDoor
open Go.RowKit
attribute [local go_sem] Oper.semAt_some
def AnsPost (w:World) (x:Rp×Bool) (e:Ending) (w':World):Prop:=∃ t,e=.returned (.tuple #[x.1.V t,.bool x.2])∧FieldsAt w' t x.1.fs∧Gr w w'
theorem put3 {W:World} {b:Nat} {u0 u1 u2:Value} (n0:W.cell? ⟨b,0,none⟩=some u0) (n1:W.cell? ⟨b,1,none⟩=some u1) (n2:W.cell? ⟨b,2,none⟩=some u2) (v0 v1 v2:Value) (o:Obj) :
  ((((W.setCell ⟨b,0,none⟩ v0).setCell ⟨b,1,none⟩ v1).setCell ⟨b,2,none⟩ v2).alloc o).cell? ⟨b,0,none⟩=some v0∧((((W.setCell ⟨b,0,none⟩ v0).setCell ⟨b,1,none⟩ v1).setCell ⟨b,2,none⟩ v2).alloc o).cell? ⟨b,1,none⟩=some v1∧((((W.setCell ⟨b,0,none⟩ v0).setCell ⟨b,1,none⟩ v1).setCell ⟨b,2,none⟩ v2).alloc o).cell? ⟨b,2,none⟩=some v2 :=
 ⟨(Gr.alloc _ _).cell (cell_off (cell_off (cell_set_same n0) (by decide)) (by decide)),(Gr.alloc _ _).cell (cell_off (cell_set_same (cell_off n1 (by decide))) (by decide)),(Gr.alloc _ _).cell (cell_set_same (cell_off (cell_off n2 (by decide)) (by decide)))⟩
theorem put3_size (W:World) (a b c:Addr) (u v x:Value):(((W.setCell a u).setCell b v).setCell c x).heap.size=W.heap.size:=by simp
theorem answer_any (r:Rq) (t:Value) (w:World) (hG:G w) (hf:FieldsAt w t r.fs) (hs:Short r.fs) :
  Calls Tryz.prog 92 #[r.V t] w (AnsPost w (answerB (checkB r))):=by
 have hck:=hid (fun W (hg:Gr w W)=>check_any r t W (hG.gr hg) (hf.gr hg) hs)
 have hcode:=check_code r
 obtain⟨⟨a,c⟩,hR⟩:∃ R,checkB r=R:=⟨_,rfl⟩
 rw[hR] at hck hcode ⊢
 dsimp only at hcode
 obtain⟨p,cap,ht,_⟩:=hf
 subst ht
 clear hR hG hs
 unfold Rq.V at hck ⊢
 obtain⟨m,pp,q,ver,fs,bd,cl⟩:=r
 dsimp only at hck ⊢
 go_enter Tryz.func92,Tryz.ntmps92
 go_wp2_with fail
 have g0:=hid (((Gr.alloc w (.cells #[.string ⟨m.toArray⟩,.string ⟨pp.toArray⟩,.string ⟨q.toArray⟩,.int .i64 ver,.slice p fs.length cap,.string ⟨bd.toArray⟩,.bool cl] 78)).alloc1 (.cells #[.int .i64 0,.slice none 0 0,.string ⟨#[]⟩] 51)))
 have n0:((w.alloc (.cells #[.string ⟨m.toArray⟩,.string ⟨pp.toArray⟩,.string ⟨q.toArray⟩,.int .i64 ver,.slice p fs.length cap,.string ⟨bd.toArray⟩,.bool cl] 78)).alloc (.cells #[.int .i64 0,.slice none 0 0,.string ⟨#[]⟩] 51)).cell? ⟨w.heap.size+1,0,none⟩=some (.int .i64 0):=by simp[go_sem]
 have n1:((w.alloc (.cells #[.string ⟨m.toArray⟩,.string ⟨pp.toArray⟩,.string ⟨q.toArray⟩,.int .i64 ver,.slice p fs.length cap,.string ⟨bd.toArray⟩,.bool cl] 78)).alloc (.cells #[.int .i64 0,.slice none 0 0,.string ⟨#[]⟩] 51)).cell? ⟨w.heap.size+1,1,none⟩=some (.slice none 0 0):=by simp[go_sem]
 have n2:((w.alloc (.cells #[.string ⟨m.toArray⟩,.string ⟨pp.toArray⟩,.string ⟨q.toArray⟩,.int .i64 ver,.slice p fs.length cap,.string ⟨bd.toArray⟩,.bool cl] 78)).alloc (.cells #[.int .i64 0,.slice none 0 0,.string ⟨#[]⟩] 51)).cell? ⟨w.heap.size+1,2,none⟩=some (.string ⟨#[]⟩):=by simp[go_sem]
 have z:∀ o,((w.alloc (.cells #[.string ⟨m.toArray⟩,.string ⟨pp.toArray⟩,.string ⟨q.toArray⟩,.int .i64 ver,.slice p fs.length cap,.string ⟨bd.toArray⟩,.bool cl] 78)).alloc (.cells #[.int .i64 0,.slice none 0 0,.string ⟨#[]⟩] 51)).frozen? ⟨w.heap.size+1,o,none⟩=false:=fun o=>World.frozen?_alloc_at _ _ _ _ (by simp)
 refine (hck.out _ g0.out).mono ?_
 rintro e w1 ⟨rfl,hb⟩
 have g1:=hid (g0.out.trans hb)
 replace n0:=hb.cell n0
 replace n1:=hb.cell n1
 replace n2:=hb.cell n2
 have z0:w1.frozen? ⟨w.heap.size+1,0,none⟩=false:=(Below.frozen hb (p:=⟨w.heap.size+1,0,none⟩) (by simp)).trans (z 0)
 have z1:w1.frozen? ⟨w.heap.size+1,1,none⟩=false:=(Below.frozen hb (p:=⟨w.heap.size+1,1,none⟩) (by simp)).trans (z 1)
 have z2:w1.frozen? ⟨w.heap.size+1,2,none⟩=false:=(Below.frozen hb (p:=⟨w.heap.size+1,2,none⟩) (by simp)).trans (z 2)
 have hbl:w.heap.size+1<w1.heap.size:=cell_lt n0
 clear hb z
 unfold ckV
 have hbb:=hid (show w.heap.size≤w.heap.size+1 by omega)
 rcases hcode with rfl | rfl | rfl
 ·go_wp2
  refine bodyPost_ret (v:=.tuple #[(answerB (a,400)).1.V (.slice none 0 0),.bool (answerB (a,400)).2]) (by simp[results,Tryz.results92,go_sem,n0,n1,n2,Rp.V,answerB,kBadH,kBadV]) rfl ⟨_,rfl,fieldsAt_none _ _,((g1.out.setCell hbb.out _).setCell hbb.out _).setCell hbb.out _⟩
 ·go_wp2
  rw[show answerB (a,426)=(⟨426,[(kVer,k13)],kBadV⟩,false) from rfl]
  have kk:=put3 n0 n1 n2
  refine bodyPost_ret (v:=.tuple #[((⟨426,[(kVer,k13)],kBadV⟩,false):Rp×Bool).1.V (.slice (some ⟨w1.heap.size,0,none⟩) 1 1),.bool ((⟨426,[(kVer,k13)],kBadV⟩,false):Rp×Bool).2]) ?_ rfl ⟨_,rfl,?_,(((g1.out.setCell hbb.out _).setCell hbb.out _).setCell hbb.out _).alloc1 _⟩
  ·simp[results,Tryz.results92,go_sem,kk,Rp.V,kBadV]
  ·have:=fieldsAt_new (((w1.setCell ⟨w.heap.size+1,0,none⟩ (.int .i64 426)).setCell ⟨w.heap.size+1,1,none⟩ (.slice (some ⟨w1.heap.size,0,none⟩) 1 1)).setCell ⟨w.heap.size+1,2,none⟩ (.string ⟨kBadV.toArray⟩)) [(kVer,k13)] 80 1
   rw[put3_size] at this
   exact this
 ·go_wp2
  rw[show answerB (a,101)=(⟨101,[(kUpg,kWs),(kConn,kUpg),(kAcc,a)],[]⟩,true) from rfl]
  have kk:=put3 n0 n1 n2
  refine bodyPost_ret (v:=.tuple #[((⟨101,[(kUpg,kWs),(kConn,kUpg),(kAcc,a)],[]⟩,true):Rp×Bool).1.V (.slice (some ⟨w1.heap.size,0,none⟩) 3 3),.bool ((⟨101,[(kUpg,kWs),(kConn,kUpg),(kAcc,a)],[]⟩,true):Rp×Bool).2]) ?_ rfl ⟨_,rfl,?_,(((g1.out.setCell hbb.out _).setCell hbb.out _).setCell hbb.out _).alloc1 _⟩
  ·simp[results,Tryz.results92,go_sem,kk,Rp.V,kBadV]
  ·have:=fieldsAt_new (((w1.setCell ⟨w.heap.size+1,0,none⟩ (.int .i64 101)).setCell ⟨w.heap.size+1,1,none⟩ (.slice (some ⟨w1.heap.size,0,none⟩) 3 3)).setCell ⟨w.heap.size+1,2,none⟩ (.string ⟨#[]⟩)) [(kUpg,kWs),(kConn,kUpg),(kAcc,a)] 80 3
   rw[put3_size] at this
   exact this
open Go.Shelf
def sevV:Sev→Value
 | .upgraded=>.agg #[.int .i64 1,.int .i64 0,.string ⟨#[]⟩]
 | .said op t=>.agg #[.int .i64 2,.int .i64 op,.string ⟨t.toArray⟩]
 | .done=>.agg #[.int .i64 3,.int .i64 0,.string ⟨#[]⟩]
def sevO:Option Sev→Value
 | some e=>sevV e
 | none=>.agg #[.int .i64 0,.int .i64 0,.string ⟨#[]⟩]
theorem add_lt' {T:Nat→Prop} {W W':World} (hs:W.heap.size≤W'.heap.size) (hl:∀ k,T k→k<W.heap.size):∀ k,Add T W W' k→k<W'.heap.size:=addw_lt hs hl
theorem RqSm.short {r:Rq} (h:RqSm r):Short r.fs:=⟨Nat.le_trans h.1 (by decide),fun f hf=>⟨Nat.le_trans (h.2.1 f hf).1 (by decide),Nat.le_trans (h.2.1 f hf).2 (by decide)⟩⟩
structure RpC (X:Nat) (W:World) (a:Int) (q:Option Addr) (n cap:Nat) (s:ByteArray):Prop where
 c0:W.cell? ⟨X,0,none⟩=some (.int .i64 a)
 c1:W.cell? ⟨X,1,none⟩=some (.slice q n cap)
 c2:W.cell? ⟨X,2,none⟩=some (.string s)
 c3:∀ o,3≤o→W.cell? ⟨X,o,none⟩=none
 fz:∀ o,W.frozen? ⟨X,o,none⟩=false
theorem RpC.ch {X:Nat} {S:Nat→Prop} {W W':World} {a:Int} {q:Option Addr} {n cap:Nat} {s:ByteArray} (h:RpC X W a q n cap s) (hc:Ch S W W') (hS:¬S X):RpC X W' a q n cap s :=
 have hl:X<W.heap.size:=cell_lt h.c0
 have cc:∀ o,W'.cell? ⟨X,o,none⟩=W.cell? ⟨X,o,none⟩:=fun o=>hc.cell (p:=⟨X,o,none⟩) hl hS
 ⟨(cc 0).trans h.c0,(cc 1).trans h.c1,(cc 2).trans h.c2,fun o ho=>(cc o).trans (h.c3 o ho),fun o=>(hc.frozen (p:=⟨X,o,none⟩) hl hS).trans (h.fz o)⟩
theorem rpC_new (W:World) (a:Int) (q:Option Addr) (n cap:Nat) (s:ByteArray) (t:TypeId):RpC W.heap.size (W.alloc (.cells #[.int .i64 a,.slice q n cap,.string s] t)) a q n cap s :=
 ⟨cell_new7 _ _ _ 0 _ rfl,cell_new7 _ _ _ 1 _ rfl,cell_new7 _ _ _ 2 _ rfl,fun o ho=>by
  rw[World.cell?_alloc_new]
  match o,ho with
  | o+3,_=>rfl,fun _=>World.frozen?_alloc_at _ _ _ _ rfl⟩
theorem RpC.set {X:Nat} {W:World} {a:Int} {q:Option Addr} {n cap:Nat} {s:ByteArray} (h:RpC X W a q n cap s) (a':Int) (q':Option Addr) (n' cap':Nat) (s':ByteArray) :
  RpC X (((W.setCell ⟨X,0,none⟩ (.int .i64 a')).setCell ⟨X,1,none⟩ (.slice q' n' cap')).setCell ⟨X,2,none⟩ (.string s')) a' q' n' cap' s' :=
 ⟨by simp[go_sem,h.c0],by simp[go_sem,h.c1],by simp[go_sem,h.c2],fun o ho=>by
  have h0:o≠0:=by omega
  have h1:o≠1:=by omega
  have h2:o≠2:=by omega
  simp[go_sem,h.c3 o ho,h0,h1,h2],fun o=>by rw[frozen_set,frozen_set,frozen_set];exact h.fz o⟩
theorem ch3 (w:World) (X:Nat) (u0 u1 u2:Value):Ch (fun i=>i=X) w (((w.setCell ⟨X,0,none⟩ u0).setCell ⟨X,1,none⟩ u1).setCell ⟨X,2,none⟩ u2) :=
 ((Ch.setCell (T:=fun i=>i=X) w (a:=⟨X,0,none⟩) rfl _).trans (Ch.setCell (T:=fun i=>i=X) _ (a:=⟨X,1,none⟩) rfl _)).trans (Ch.setCell (T:=fun i=>i=X) _ (a:=⟨X,2,none⟩) rfl _)
theorem RpC.apart {X:Nat} {W W':World} {a:Int} {q:Option Addr} {n cap:Nat} {s:ByteArray} (h:RpC X W a q n cap s) {t:Value} {fs:List Fl} (hf:FieldsAt W t fs) (hc:Ch (fun i=>i=X) W W'):FieldsAt W' t fs:=by
 obtain⟨p,c,e,hcs⟩:=hf
 refine⟨p,c,e,fun i hi=>?_⟩
 obtain⟨b,off,hp,h1,h2⟩:=hcs i hi
 have hb:¬b=X:=by
  intro e
  subst e
  rcases Nat.lt_or_ge (off+i*2) 3 with hlt | hge
  ·have:off+i*2=0∨off+i*2=1∨off+i*2=2:=by omega
   rcases this with e | e | e
   ·rw[e,h.c0] at h1;cases h1
   ·rw[e,h.c1] at h1;cases h1
   ·rw[e,h.c3 _ (Nat.le_refl _)] at h2;cases h2
  ·rw[h.c3 _ hge] at h1;cases h1
 exact⟨b,off,hp,(hc.cell (p:=⟨b,off+i*2,none⟩) (cell_lt h1) hb).trans h1,(hc.cell (p:=⟨b,off+i*2+1,none⟩) (cell_lt h2) hb).trans h2⟩
theorem kin_told {α:Type} {At:(Nat→Prop)→World→α→Prop} (K:Kin At) {T S:Nat→Prop} {W W6 w8 w9:World} {x:α} (hl:∀ k,T k→k<W.heap.size) (g:Gr W W6) (p:Pst At T W6 x w8) (hc:Ch S w8 w9) (hS:∀ k,S k→W.heap.size≤k∧k<W6.heap.size):Pst At T W x w9:=by
 have s1:=Below.size g
 have s2:=p.2.size
 have s3:=hc.size
 refine⟨K.mono (K.frame p.1 hc (fun k e e2=>?_)) (fun k e=>e.imp_right fun e=>⟨by have:=e.1;omega,by have:=e.2;omega⟩) (add_lt' (by omega) hl),((g.to_ch _).trans p.2).drop_new hc (fun j e=>.inr (hS j e).1)⟩
 have:=hS k e2
 rcases e with e | e
 ·have:=hl k e;omega
 ·have:=e.1;omega
theorem rp_first {W1 w2:World} (g2:Gr (W1.alloc (.cells #[.int .i64 0,.slice none 0 0,.string ⟨#[]⟩] 51)).drew w2) :
  RpC W1.heap.size w2 0 none 0 0 ⟨#[]⟩ ∧
  (∀ o:Obj,Gr W1 (w2.alloc o))∧Gr W1 w2∧∀ u0 u1 u2:Value,Gr W1 (((w2.setCell ⟨W1.heap.size,0,none⟩ u0).setCell ⟨W1.heap.size,1,none⟩ u1).setCell ⟨W1.heap.size,2,none⟩ u2):=by
 have g0:Gr W1 (W1.alloc (.cells #[.int .i64 0,.slice none 0 0,.string ⟨#[]⟩] 51)).drew:=Gr.drew (Gr.alloc W1 _)
 have hG2:=g0.trans g2
 refine⟨(rpC_new W1 0 none 0 0 ⟨#[]⟩ _).ch (((Gr.drew' _).trans g2).to_ch (fun _=>False)) id,fun o=>Gr.alloc1 hG2 o,hG2,fun u0 u1 u2=>?_⟩
 exact Gr.setCell (Gr.setCell (Gr.setCell hG2 (Nat.le_refl _) u0) (Nat.le_refl _) u1) (Nat.le_refl _) u2
theorem check_len (r:Rq):(checkB r).1.length≤1000000:=by
 unfold checkB
 repeat' split
 all_goals first | exact Nat.zero_le _ | (dsimp only;rw[accept_len];decide)
theorem answer_sm (r:Rq):RpSm (answerB (checkB r)).1:=by
 have hk:=check_len r
 have hc:=check_code r
 unfold answerB RpSm
 split
 ·refine⟨by (show 3≤1000000;decide),fun f hf=>?_,Nat.zero_le _,by (show -9223372036854775808≤(101:Int);decide),by (show (101:Int)≤9223372036854775807;decide)⟩
  rcases List.mem_cons.1 hf with rfl | hf
  ·exact⟨by decide,by decide⟩
  ·rcases List.mem_cons.1 hf with rfl | hf
   ·exact⟨by decide,by decide⟩
   ·rcases List.mem_cons.1 hf with rfl | hf
    ·exact⟨by (show kAcc.length≤_;decide),hk⟩
    ·cases hf
 ·split
  ·refine⟨by (show 1≤1000000;decide),fun f hf=>?_,by (show kBadV.length≤_;decide),by (show -9223372036854775808≤(426:Int);decide),by (show (426:Int)≤9223372036854775807;decide)⟩
   rcases List.mem_cons.1 hf with rfl | hf
   ·exact⟨by decide,by decide⟩
   ·cases hf
  ·refine⟨Nat.zero_le _,(fun f hf=>by cases hf),by (show kBadH.length≤_;decide),?_,?_⟩ <;> (dsimp only;omega)
theorem rp_last {W1 w2:World} (hG2:Gr W1 w2):(∀ o:Obj,Gr W1 (w2.alloc o))∧∀ (o:Obj) (u0 u1 u2:Value),Gr W1 ((((w2.alloc o).setCell ⟨w2.heap.size,0,none⟩ u0).setCell ⟨w2.heap.size,1,none⟩ u1).setCell ⟨w2.heap.size,2,none⟩ u2) :=
 ⟨fun o=>Gr.alloc1 hG2 o,fun o u0 u1 u2=>Gr.setCell (Gr.setCell (Gr.setCell (Gr.alloc1 hG2 o) (Below.size hG2) u0) (Below.size hG2) u1) (Below.size hG2) u2⟩
section
variable {b:Nat} {g:Nat} {lb:Array Value} {F T:Nat→Prop} {H:Rq→Rp} {W:World} {s:Ss}
theorem sn_answers (h:SnAt b (.func (.func g) #[] lb) T W s) (hG:G W) (hH:Hnd g lb F H W) (r:Rq) (rv:Value) (hf:FieldsAt W rv r.fs) (hr:RqSm r) (hlim:s.limit≤1099511627776) (hlen:s.p.inp.length+s.p.und.length≤90000):Calls Tryz.prog 68 #[.pointer (some ⟨b,0,none⟩),r.V rv] W fun e w'=>e=.returned (sevV (ssAnswers H s r).2)∧Pst (SnAt b (.func (.func g) #[] lb)) T W (ssAnswers H s r).1 w':=by
 have hcall:=hid (fun W1 (g1:Gr W W1)=>(hH.gr g1).does W1 r rv (Stays.refl _ _) (hG.gr g1) (hf.gr g1) hr)
 have eg:=hH.enters
 have hf':=hid hf
 obtain⟨p,cap,rfl,_⟩:=hf
 have h0:=hid h
 have hlim':=hid hlim
 have hlen':=hid hlen
 clear hlim hlen
 have hl':=hid h.2
 obtain⟨⟨c,pb,bb,cv,h,hT⟩,hl⟩:=h
 have c0:=h.c0
 unfold Rq.V at hcall ⊢
 clear h hT hl
 go_enter Tryz.func68,Tryz.ntmps68
 go_upto_region 1 with (fail)
 obtain⟨W1,hW1⟩:∃ W1,(W.alloc (.cells #[.string ⟨r.m.toArray⟩,.string ⟨r.p.toArray⟩,.string ⟨r.q.toArray⟩,.int .i64 r.v,.slice p r.fs.length cap,.string ⟨r.b.toArray⟩,.bool r.c] 78)).alloc (.cells #[.int .i64 0,.int .i64 0,.string ⟨#[]⟩] 28)=W1:=⟨_,rfl⟩
 rw[hW1]
 have g1:Gr W W1:=by rw[←hW1];exact (Gr.alloc _ _).alloc1 _
 have q0:W1.cell? ⟨W.heap.size,0,none⟩=some (.string ⟨r.m.toArray⟩):=by rw[←hW1];simp[go_sem]
 have q1:W1.cell? ⟨W.heap.size,1,none⟩=some (.string ⟨r.p.toArray⟩):=by rw[←hW1];simp[go_sem]
 have q2:W1.cell? ⟨W.heap.size,2,none⟩=some (.string ⟨r.q.toArray⟩):=by rw[←hW1];simp[go_sem]
 have q3:W1.cell? ⟨W.heap.size,3,none⟩=some (.int .i64 r.v):=by rw[←hW1];simp[go_sem]
 have q4:W1.cell? ⟨W.heap.size,4,none⟩=some (.slice p r.fs.length cap):=by rw[←hW1];simp[go_sem]
 have q5:W1.cell? ⟨W.heap.size,5,none⟩=some (.string ⟨r.b.toArray⟩):=by rw[←hW1];simp[go_sem]
 have q6:W1.cell? ⟨W.heap.size,6,none⟩=some (.bool r.c):=by rw[←hW1];simp[go_sem]
 have n0:W1.cell? ⟨W.heap.size+1,0,none⟩=some (.int .i64 0):=by rw[←hW1];simp[go_sem]
 have n1:W1.cell? ⟨W.heap.size+1,1,none⟩=some (.int .i64 0):=by rw[←hW1];simp[go_sem]
 have n2:W1.cell? ⟨W.heap.size+1,2,none⟩=some (.string ⟨#[]⟩):=by rw[←hW1];simp[go_sem]
 have nz:∀ o,W1.frozen? ⟨W.heap.size+1,o,none⟩=false:=fun o=>by rw[←hW1];simp[go_sem]
 have hs1':=hid (show W1.heap.size=W.heap.size+2 by rw[←hW1];simp)
 have g1':=hid g1
 replace c0:=g1.cell c0
 clear g1 hW1
 have hS:=hid (fun (w':World) (gg:Gr W1 w')=>(show w'.cell? ⟨b,0,none⟩=some (.func (.func g) #[] lb)∧w'.cell? ⟨W.heap.size,0,none⟩=some (.string ⟨r.m.toArray⟩)∧w'.cell? ⟨W.heap.size,1,none⟩=some (.string ⟨r.p.toArray⟩)∧w'.cell? ⟨W.heap.size,2,none⟩=some (.string ⟨r.q.toArray⟩)∧w'.cell? ⟨W.heap.size,3,none⟩=some (.int .i64 r.v)∧w'.cell? ⟨W.heap.size,4,none⟩=some (.slice p r.fs.length cap)∧w'.cell? ⟨W.heap.size,5,none⟩=some (.string ⟨r.b.toArray⟩)∧w'.cell? ⟨W.heap.size,6,none⟩=some (.bool r.c)∧Gr W1 w' from⟨gg.cell c0,gg.cell q0,gg.cell q1,gg.cell q2,gg.cell q3,gg.cell q4,gg.cell q5,gg.cell q6,gg⟩))
 have hGd:=hid (Gr.drew (Gr.refl W1))
 have hGe:=hid (fun (o:Obj)=>(Gr.alloc1 (Gr.drew (Gr.refl W1)) o))
 have hGf:=hid (fun (o:Obj)=>(Gr.drew (Gr.alloc1 (Gr.refl W1) o)))
 go_region_held3 (fun w'=>w'.cell? ⟨b,0,none⟩=some (.func (.func g) #[] lb)∧w'.cell? ⟨W.heap.size,0,none⟩=some (.string ⟨r.m.toArray⟩)∧w'.cell? ⟨W.heap.size,1,none⟩=some (.string ⟨r.p.toArray⟩)∧w'.cell? ⟨W.heap.size,2,none⟩=some (.string ⟨r.q.toArray⟩)∧w'.cell? ⟨W.heap.size,3,none⟩=some (.int .i64 r.v)∧w'.cell? ⟨W.heap.size,4,none⟩=some (.slice p r.fs.length cap)∧w'.cell? ⟨W.heap.size,5,none⟩=some (.string ⟨r.b.toArray⟩)∧w'.cell? ⟨W.heap.size,6,none⟩=some (.bool r.c)∧Gr W1 w')
  (first
   | exact hS.out _ hG2
   | exact hS.out _ (hGA.out _)
   | exact hS.out _ (hGB.out _ _ _ _)
   | exact hS.out _ (hGC.out _ _ _)
   | exact hS.out _ hGd.out
   | exact hS.out _ (hGe.out _)
   | exact hS.out _ (hGf.out _))
  (first
   |(refine (hcall.out _ (Gr.drew (Gr.alloc1 g1'.out _))).mono ?_
     rintro e w2 ⟨t,rfl,hft,g2⟩
     have hG2:Gr W1 w2:=(Gr.drew (Gr.alloc1 (Gr.refl _) _)).trans g2
     have hft':=hid hft
     obtain⟨p2,cap2,rfl,_⟩:=hft
     obtain⟨hX0,gA,gB,gC⟩:=rp_first g2
     have x0:=hX0.c0
     have x1:=hX0.c1
     have x2:=hX0.c2
     have xz:=hX0.fz
     have hX0':=hid hX0
     have hGA:=hid gA
     have hGC:=hid gC
     have hG2':=hid hG2
     unfold Rp.V)
   |(refine (hcall.out _ (Gr.drew g1'.out)).mono ?_
     rintro e w2 ⟨t,rfl,hft,g2⟩
     have hG2:Gr W1 w2:=(Gr.drew (Gr.refl _)).trans g2
     have hft':=hid hft
     obtain⟨p2,cap2,rfl,_⟩:=hft
     obtain⟨gA,gB⟩:=rp_last hG2
     have hGA:=hid gA
     have hGB:=hid gB
     have hG2':=hid hG2
     unfold Rp.V))
 all_goals (first
  |(have hc3:=ch3 w2 W1.heap.size (.int .i64 (H r).code) (.slice p2 (H r).fs.length cap2) (.string ⟨(H r).b.toArray⟩)
    have hX4:=hX0'.out.set (H r).code p2 (H r).fs.length cap2 ⟨(H r).b.toArray⟩
    have hf4:=hX0'.out.apart hft'.out hc3
    have hg4:=hGC.out (.int .i64 (H r).code) (.slice p2 (H r).fs.length cap2) (.string ⟨(H r).b.toArray⟩)
    obtain⟨w4,hw4⟩:∃ w4,((w2.setCell ⟨W1.heap.size,0,none⟩ (.int .i64 (H r).code)).setCell ⟨W1.heap.size,1,none⟩ (.slice p2 (H r).fs.length cap2)).setCell ⟨W1.heap.size,2,none⟩ (.string ⟨(H r).b.toArray⟩)=w4:=⟨_,rfl⟩
    rw[hw4] at hX4 hf4 hg4
    obtain⟨X,hX⟩:∃ X,W1.heap.size=X:=⟨_,rfl⟩
    have hXs:W1.heap.size≤X:=Nat.le_of_eq hX
    rw[hX] at hX4 hw4
    clear hc3)
  |(have hX4:=rpC_new w2 (H r).code p2 (H r).fs.length cap2 ⟨(H r).b.toArray⟩ 51
    have hf4:=hft'.out.gr (Gr.alloc w2 (.cells #[.int .i64 (H r).code,.slice p2 (H r).fs.length cap2,.string ⟨(H r).b.toArray⟩] 51))
    have hg4:=hGA.out (.cells #[.int .i64 (H r).code,.slice p2 (H r).fs.length cap2,.string ⟨(H r).b.toArray⟩] 51)
    obtain⟨w4,hw4⟩:∃ w4,w2.alloc (.cells #[.int .i64 (H r).code,.slice p2 (H r).fs.length cap2,.string ⟨(H r).b.toArray⟩] 51)=w4:=⟨_,rfl⟩
    rw[hw4] at hX4 hf4 hg4
    have hXs:=Below.size hG2'.out
    obtain⟨X,hX⟩:∃ X,w2.heap.size=X:=⟨_,rfl⟩
    rw[hX] at hX4 hXs))
 all_goals
  have hX4':=hid hX4
  have hf4':=hid hf4
  have hg4':=hid hg4
  have hXs':=hid hXs
  have hW1s:=hid hs1'.out
  clear hX4 hf4 hg4 hXs
  have hh4:=(snKin b (.func (.func g) #[] lb)).gr h0.out (g1'.out.trans hg4'.out)
  have hG4:=hid (hG.gr (g1'.out.trans hg4'.out))
  have hh4':=hid hh4
  have g04:=hid (g1'.out.trans hg4'.out)
  have e0:=hg4'.out.cell n0
  have e1:=hg4'.out.cell n1
  have e2:=hg4'.out.cell n2
  have ez:∀ o,w4.frozen? ⟨W.heap.size+1,o,none⟩=false:=fun o=>(Below.frozen hg4'.out (p:=⟨W.heap.size+1,o,none⟩) (by show W.heap.size+1<W1.heap.size;have:=hs1'.out;omega)).trans (nz o)
  have y0:=hX4'.out.c0
  have y1:=hX4'.out.c1
  have y2:=hX4'.out.c2
  have yz:=hX4'.out.fz
  have p0:=hg4'.out.cell q0
  have p1:=hg4'.out.cell q1
  have p2':=hg4'.out.cell q2
  have p3:=hg4'.out.cell q3
  have p4:=hg4'.out.cell q4
  have p5:=hg4'.out.cell q5
  have p6:=hg4'.out.cell q6
  have hq0:ssAnswers H s r=if (H r).code=101 then (if (answerB (checkB r)).2 then (ssUp (ssPuts s (answerB (checkB r)).1 false false),.upgraded) else (ssPuts s (answerB (checkB r)).1 (r.m==qHEAD) r.c,.done)) else (ssPuts s (H r) (r.m==qHEAD) r.c,.done):=rfl
  by_cases h101:(H r).code=101
  ·have hz:((H r).code==101)=true:=beq_iff_eq.2 h101
   rw[if_pos h101] at hq0
   have han:=answer_any r (.slice p r.fs.length cap) w4 hG4.out (hf'.out.gr g04.out) hr.short
   have hsm:=answer_sm r
   obtain⟨y,ok,hy⟩:∃ y ok,answerB (checkB r)=(y,ok):=⟨_,_,rfl⟩
   rw[hy] at han hq0 hsm
   unfold AnsPost at han
   dsimp only at han hq0 hsm
   unfold Rq.V at han
   have han':=hid han
   have hsm':=hid hsm
   have hq:=hid hq0
   clear han hsm hq0 h101 hy
   go_wp2_with (fail)
   try rw[hw4]
   refine han'.out.mono ?_
   rintro e w5 ⟨t2,rfl,hf5,g5⟩
   have hf5':=hid hf5
   obtain⟨pz,capz,rfl,_⟩:=hf5
   unfold Rp.V
   have g5':=hid g5
   have hY:=rpC_new w5 y.code pz y.fs.length capz ⟨y.b.toArray⟩ 51
   obtain⟨w6,hw6⟩:∃ w6,w5.alloc (.cells #[.int .i64 y.code,.slice pz y.fs.length capz,.string ⟨y.b.toArray⟩] 51)=w6:=⟨_,rfl⟩
   have g56:Gr w5 w6:=hw6▸Gr.alloc w5 _
   rw[hw6] at hY
   have g46:=g5.trans g56
   have hf6:=hid (hf5'.out.gr g56)
   have z0:=hY.c0
   have z1:=hY.c1
   have z2:=hY.c2
   have g06:=hid (g04.out.trans g46)
   have hG6:=hid (hG4.out.gr g46)
   have hE4:W.heap.size+1<w4.heap.size:=cell_lt e0
   have hX4l:X<w4.heap.size:=cell_lt hX4'.out.c0
   replace e0:=g46.cell e0
   replace e1:=g46.cell e1
   replace e2:=g46.cell e2
   replace ez:∀ o,w6.frozen? ⟨W.heap.size+1,o,none⟩=false:=fun o=>(Below.frozen g46 (p:=⟨W.heap.size+1,o,none⟩) hE4).trans (ez o)
   replace p0:=g46.cell p0
   replace p6:=g46.cell p6
   replace y0:=g46.cell y0
   replace y1:=g46.cell y1
   replace y2:=g46.cell y2
   replace yz:∀ o,w6.frozen? ⟨X,o,none⟩=false:=fun o=>(Below.frozen g46 (p:=⟨X,o,none⟩) hX4l).trans (yz o)
   have hh6:=hid ((snKin b (.func (.func g) #[] lb)).gr hh4'.out g46)
   have g46:=hid g46
   clear hY g5 g56 p1 p2' p3 p4 p5
   cases ok with
   | true =>
    have hq2:=hid (hq.out.trans (if_pos rfl))
    have hpu:=hid (sn_puts hh6.out hG6.out y _ hf6.out hsm'.out false false)
    unfold Rp.V at hpu
    clear y0 y1 y2 yz
    go_wp2_with (fail)
    try rw[hw6]
    refine hpu.out.mono ?_
    rintro e w7 ⟨rfl,hp7⟩
    have hup:=hid (sn_up hp7.1 hlim'.out hlen'.out)
    have hp7':=hid hp7
    clear hp7
    go_wp2_with (fail)
    refine hup.out.mono ?_
    rintro e w8 ⟨rfl,hp8⟩
    have hp78:=(snKin b (.func (.func g) #[] lb)).trans hp7'.out hp8
    have hEX:W.heap.size+1<w6.heap.size:=cell_lt e0
    have hET:¬T (W.heap.size+1):=fun e=>by have:=hl'.out _ e;omega
    replace e0:=(hp78.2.cell (p:=⟨W.heap.size+1,0,none⟩) hEX hET).trans e0
    replace e1:=(hp78.2.cell (p:=⟨W.heap.size+1,1,none⟩) hEX hET).trans e1
    replace e2:=(hp78.2.cell (p:=⟨W.heap.size+1,2,none⟩) hEX hET).trans e2
    replace ez:∀ o,w8.frozen? ⟨W.heap.size+1,o,none⟩=false:=fun o=>(hp78.2.frozen (p:=⟨W.heap.size+1,o,none⟩) hEX hET).trans (ez o)
    have hEX':=hid hEX
    have hp78':=hid hp78
    clear hp78 hp8 hw6 z0 z1 z2 p0 p6 hEX hw4
    go_wp2
    refine bodyPost_ret (v:=sevV .upgraded) (by simp[results,Tryz.results68,go_sem,sevV,e0,e1,e2]) rfl ?_
    rw[hq2.out]
    exact⟨rfl,kin_told (snKin b (.func (.func g) #[] lb)) hl'.out g06.out hp78'.out (ch3 w8 (W.heap.size+1) _ _ _) (fun k e=>⟨by rw[show k=W.heap.size+1 from e];omega,by rw[show k=W.heap.size+1 from e];exact hEX'.out⟩)⟩
   | false =>
    have hq2:=hid (hq.out.trans (if_neg (by decide)))
    go_upto_region 9 with (fail)
    try rw[hw6]
    have hX6:=hX4'.out.ch (g46.out.to_ch (fun _=>False)) id
    have hc7:=ch3 w6 X (.int .i64 y.code) (.slice pz y.fs.length capz) (.string ⟨y.b.toArray⟩)
    have hX7:=hX6.set y.code pz y.fs.length capz ⟨y.b.toArray⟩
    have hf7:=hX6.apart hf6.out hc7
    have hXW:W.heap.size≤X:=by have:=hXs'.out;have:=hs1'.out;omega
    have hXT:∀ k,T k→¬k=X:=fun k e e2=>by have:=hl'.out k e;omega
    have hh7:=(snKin b (.func (.func g) #[] lb)).frame hh6.out hc7 hXT
    have g07:=g06.out.ch hc7 (fun k e=>by rw[show k=X from e];exact hXW)
    have hEn:¬(W.heap.size+1=X):=by have:=hXs'.out;have:=hs1'.out;omega
    have hWn:¬(W.heap.size=X):=by have:=hXs'.out;have:=hs1'.out;omega
    have hEs6:W.heap.size+1<w6.heap.size:=cell_lt e0
    have hRs6:W.heap.size<w6.heap.size:=by omega
    obtain⟨w7,hw7⟩:∃ w7,((w6.setCell ⟨X,0,none⟩ (.int .i64 y.code)).setCell ⟨X,1,none⟩ (.slice pz y.fs.length capz)).setCell ⟨X,2,none⟩ (.string ⟨y.b.toArray⟩)=w7:=⟨_,rfl⟩
    rw[hw7] at hc7 hX7 hf7 hh7 g07
    try rw[hw7]
    replace e0:=(hc7.cell (p:=⟨W.heap.size+1,0,none⟩) hEs6 hEn).trans e0
    replace e1:=(hc7.cell (p:=⟨W.heap.size+1,1,none⟩) hEs6 hEn).trans e1
    replace e2:=(hc7.cell (p:=⟨W.heap.size+1,2,none⟩) hEs6 hEn).trans e2
    replace ez:∀ o,w7.frozen? ⟨W.heap.size+1,o,none⟩=false:=fun o=>(hc7.frozen (p:=⟨W.heap.size+1,o,none⟩) hEs6 hEn).trans (ez o)
    replace p0:=(hc7.cell (p:=⟨W.heap.size,0,none⟩) hRs6 hWn).trans p0
    replace p6:=(hc7.cell (p:=⟨W.heap.size,6,none⟩) hRs6 hWn).trans p6
    have y0:=hX7.c0
    have y1:=hX7.c1
    have y2:=hX7.c2
    have hpu:=hid (sn_puts hh7 (hG.gr g07) y _ hf7 hsm'.out (r.m==[72,69,65,68]) r.c)
    unfold Rp.V at hpu
    have g07':=hid g07
    clear hX6 hc7 hX7 hf7 hh7 g07 yz z0 z1 z2
    go_wp2_with (fail)
    try rw[hw7]
    refine hpu.out.mono ?_
    rintro e w8 ⟨rfl,hp8⟩
    have hEX:W.heap.size+1<w7.heap.size:=cell_lt e0
    have hET:¬T (W.heap.size+1):=fun e=>by have:=hl'.out _ e;omega
    replace e0:=(hp8.2.cell (p:=⟨W.heap.size+1,0,none⟩) hEX hET).trans e0
    replace e1:=(hp8.2.cell (p:=⟨W.heap.size+1,1,none⟩) hEX hET).trans e1
    replace e2:=(hp8.2.cell (p:=⟨W.heap.size+1,2,none⟩) hEX hET).trans e2
    replace ez:∀ o,w8.frozen? ⟨W.heap.size+1,o,none⟩=false:=fun o=>(hp8.2.frozen (p:=⟨W.heap.size+1,o,none⟩) hEX hET).trans (ez o)
    have hEX':=hid hEX
    have hp8':=hid hp8
    clear hp8 hw7 y0 y1 y2 p0 p6 hEX hw6 hw4
    go_wp2
    refine bodyPost_ret (v:=sevV .done) (by simp[results,Tryz.results68,go_sem,sevV,e0,e1,e2]) rfl ?_
    rw[hq2.out]
    exact⟨rfl,kin_told (snKin b (.func (.func g) #[] lb)) hl'.out g07'.out hp8'.out (ch3 w8 (W.heap.size+1) _ _ _) (fun k e=>⟨by rw[show k=W.heap.size+1 from e];omega,by rw[show k=W.heap.size+1 from e];exact hEX'.out⟩)⟩
  ·have hz:((H r).code==101)=false:=beq_false_of_ne h101
   rw[if_neg h101] at hq0
   have hq:=hid hq0
   have hpu:=hid (sn_puts hh4'.out hG4.out (H r) _ hf4'.out (hH.small r hr) (r.m==[72,69,65,68]) r.c)
   unfold Rp.V at hpu
   clear hq0 h101
   go_wp2_with (fail)
   try rw[hw4]
   refine hpu.out.mono ?_
   rintro e w5 ⟨rfl,hp5⟩
   have hEX:W.heap.size+1<w4.heap.size:=cell_lt e0
   have hET:¬T (W.heap.size+1):=fun e=>by have:=hl'.out _ e;omega
   replace e0:=(hp5.2.cell (p:=⟨W.heap.size+1,0,none⟩) hEX hET).trans e0
   replace e1:=(hp5.2.cell (p:=⟨W.heap.size+1,1,none⟩) hEX hET).trans e1
   replace e2:=(hp5.2.cell (p:=⟨W.heap.size+1,2,none⟩) hEX hET).trans e2
   replace ez:∀ o,w5.frozen? ⟨W.heap.size+1,o,none⟩=false:=fun o=>(hp5.2.frozen (p:=⟨W.heap.size+1,o,none⟩) hEX hET).trans (ez o)
   have hp5':=hid hp5
   have hEX':=hid hEX
   clear hp5 hw4 y0 y1 y2 yz p0 p1 p2' p3 p4 p5 p6 hEX
   go_wp2
   refine bodyPost_ret (v:=sevV .done) (by simp[results,Tryz.results68,go_sem,sevV,e0,e1,e2]) rfl ?_
   rw[hq.out]
   exact⟨rfl,kin_told (snKin b (.func (.func g) #[] lb)) hl'.out g04.out hp5'.out (ch3 w5 (W.heap.size+1) _ _ _) (fun k e=>⟨by rw[show k=W.heap.size+1 from e];omega,by rw[show k=W.heap.size+1 from e];exact hEX'.out⟩)⟩
end
end Go.Proofs.YtadobobfjnmdlaaGreatDoor
namespace Go.Proofs.YtadobobfjnmdlaaGreatDoor
theorem splitE_one:∀ (s l:List UInt8),l∈splitE s→l.length≤s.length
 | [],l,h=>by
  unfold splitE at h
  rcases List.mem_singleton.1 h with rfl
  exact Nat.le_refl _
 | c :: t,l,h=>by
  unfold splitE at h
  split at h
  ·rcases List.mem_cons.1 h with rfl | h
   ·exact Nat.zero_le _
   ·have:=splitE_one t.tail l h
    rw[List.length_tail] at this
    rw[List.length_cons];omega
  ·have ih:=splitE_one t
   cases e:splitE t with
   | nil =>
    rw[e] at h
    rcases List.mem_singleton.1 h with rfl
    exact Nat.succ_le_succ (Nat.zero_le _)
   | cons x xs =>
    rw[e] at h ih
    rcases List.mem_cons.1 h with rfl | h
    ·have:=ih x (List.mem_cons_self ..)
     rw[List.length_cons,List.length_cons];omega
    ·have:=ih l (List.mem_cons_of_mem _ h)
     rw[List.length_cons];omega
 termination_by s=>s.length
 decreasing_by
  all_goals simp_wf
  all_goals (try omega)
theorem parseB_one (l:List UInt8):(parseB l).1.length≤l.length∧(parseB l).2.1.length≤l.length:=by
 unfold parseB
 split
 ·exact⟨cut_le1 l [58],Nat.le_trans (trimB_len _) (cut_le2 l [58])⟩
 ·exact⟨Nat.zero_le _,Nat.zero_le _⟩
theorem fieldsL_one (n:Nat):∀ (ls:List (List UInt8)) (fs:List Fl),fieldsL ls=some fs→(∀ l∈ls,l.length≤n)→fs.length=ls.length∧∀ f∈fs,f.1.length≤n∧f.2.length≤n
 | [],fs,h,_=>by
  cases h
  exact⟨rfl,fun f hf=>by cases hf⟩
 | l :: t,fs,h,hl=>by
  unfold fieldsL at h
  split at h
  ·cases e:fieldsL t with
   | none=>rw[e] at h;cases h
   | some gs =>
    rw[e] at h
    cases h
    obtain⟨h1,h2⟩:=fieldsL_one n t gs e (fun x hx=>hl x (List.mem_cons_of_mem _ hx))
    refine⟨by rw[List.length_cons,List.length_cons,h1],fun f hf=>?_⟩
    rcases List.mem_cons.1 hf with rfl | hf
    ·have:=hl l (List.mem_cons_self ..)
     have h3:=parseB_one l
     exact⟨by dsimp only;omega,by dsimp only;omega⟩
    ·exact h2 f hf
  ·cases h
structure RqB (n:Nat) (r:Rq):Prop where
 l:r.fs.length≤33
 f:∀ f∈r.fs,f.1.length≤n∧f.2.length≤n
 m:r.m.length≤n
 p:r.p.length≤n
 q:r.q.length≤n
 b:r.b.length≤4096
theorem lineB_one (l:List UInt8):(lineB l).1.length≤l.length∧(lineB l).2.1.length≤l.length:=by
 unfold lineB
 dsimp only
 split
 ·exact⟨cut_le1 l [32],Nat.le_trans (cut_le1 _ [32]) (cut_le2 l [32])⟩
 ·exact⟨Nat.zero_le _,Nat.zero_le _⟩
theorem targetB_one (l:List UInt8):(targetB l).1.length≤l.length∧(targetB l).2.1.length≤l.length:=by
 unfold targetB
 dsimp only
 split
 ·exact⟨cut_le1 l [63],cut_le2 l [63]⟩
 ·exact⟨Nat.zero_le _,Nat.zero_le _⟩
theorem headQ_one {n:Nat} {ls:List (List UInt8)} (hl:∀ l∈ls,l.length≤n) {r:Rq} {k:Nat} {ch:Bool} (h:headQ ls=.good r k ch):RqB n r:=by
 have hb:=headQ_body h
 unfold headQ at h
 split at h
 ·cases h
 ·rename_i h33
  cases e:fieldsL ls.tail with
  | none=>rw[e] at h;cases h
  | some fs =>
   rw[e] at h
   obtain⟨f1,f2⟩:=fieldsL_one n ls.tail fs e (fun l hx=>hl l (List.mem_of_mem_tail hx))
   have hh:(ls.headD []).length≤n:=by
    cases ls with
    | nil=>exact Nat.zero_le _
    | cons x t=>exact hl x (List.mem_cons_self ..)
   have l1:=lineB_one (ls.headD [])
   have t1:=targetB_one (lineB (ls.headD [])).2.1
   rw[List.length_tail] at f1
   dsimp only at h
   repeat' split at h
   all_goals first
    | cases h;done
    |(cases h
      exact⟨by dsimp only;omega,f2,by dsimp only;omega,by dsimp only;omega,by dsimp only;omega,Nat.zero_le _⟩)
theorem CkOk.data_le {c:Ck} (h:CkOk c):c.data.length≤4096:=h.data
theorem oneQ_one {n:Nat} {s:List UInt8} (hs:s.length≤n) {r:Rq} {k:Nat} (h:oneQ s=.got r k):RqB n r:=by
 unfold oneQ at h
 split at h
 ·cases e:headQ (splitE (s.take (Lib.index s eol2).toNat)) with
  | bad c=>rw[e] at h;cases h
  | good r0 m ch =>
   rw[e] at h
   have h0:=headQ_one (n:=n) (fun l hl=>by
    have:=splitE_one _ l hl
    rw[List.length_take] at this
    omega) e
   have hm:=(headQ_body e).2
   dsimp only at h
   split at h
   ·split at h
    ·cases h
    ·split at h
     ·cases h
      exact⟨h0.l,h0.f,h0.m,h0.p,h0.q,(ck0_feed _).data_le⟩
     ·cases h
   ·split at h
    ·cases h
    ·cases h
     refine⟨h0.l,h0.f,h0.m,h0.p,h0.q,?_⟩
     dsimp only
     rw[List.length_take]
     omega
 ·split at h <;> cases h
structure PsB (n:Nat) (p:Ps):Prop where
 sum:p.inp.length+p.und.length≤n
 st:∃ s,Stands p s∧s.length≤n
theorem ps0_b:PsB 0 ps0:=⟨Nat.le_refl _,[],stands_new,Nat.le_refl _⟩
theorem PsB.le {n m:Nat} {p:Ps} (h:PsB n p) (hm:n≤m):PsB m p:=⟨Nat.le_trans h.sum hm,let ⟨s,h1,h2⟩:=h.st;⟨s,h1,Nat.le_trans h2 hm⟩⟩
theorem PsB.feed {n:Nat} {p:Ps} (h:PsB n p) (t:List UInt8):PsB (n+t.length) (feedQ p t):=by
 obtain⟨s,h1,h2⟩:=h.st
 refine⟨?_,s++t,h1.feed t,by rw[List.length_append];omega⟩
 have:=h.sum
 unfold feedQ
 split
 ·dsimp only;rw[List.length_append];omega
 ·omega
theorem readsQ_io (p:Ps) (t:List UInt8):(readsQ p t).inp=p.inp∧(readsQ p t).und=p.und:=by
 unfold readsQ
 cases headQ (splitE t) <;> exact⟨rfl,rfl⟩
theorem headsQ_len2 (p:Ps):(headsQ p).inp.length+(headsQ p).und.length=p.inp.length+p.und.length:=by
 unfold headsQ
 split
 ·obtain⟨i1,i2⟩:=readsQ_io p (p.inp.take (Lib.index p.inp eol2).toNat)
  split
  ·unfold takesQ
   dsimp only
   rw[i1,i2,List.length_append,List.length_take,List.length_drop];omega
  ·rw[i1,i2]
 ·split <;> rfl
theorem bodyQ_sum2 (p:Ps):(bodyQ p).1.inp.length+(bodyQ p).1.und.length≤p.inp.length+p.und.length:=by
 unfold bodyQ
 split
 ·split
  ·exact Nat.le_refl _
  ·dsimp only;rw[List.length_drop];omega
 ·simp only[takesQ,List.length_append,List.length_take,List.length_drop];omega
theorem PsB.next {n:Nat} {p:Ps} (h:PsB n p):PsB n (nextQ p).1∧(∀ r,(nextQ p).2=some r→RqB n r)∧((nextQ p).2=none→(nextQ p).1.bad≤431):=by
 obtain⟨s,h1,h2⟩:=h.st
 have hn:=h1.next
 have hsum:(nextQ p).1.inp.length+(nextQ p).1.und.length≤n:=by
  have hh:(if p.head then p else headsQ p).inp.length+(if p.head then p else headsQ p).und.length=p.inp.length+p.und.length:=by
   split
   ·rfl
   ·exact headsQ_len2 p
  have:=h.sum
  unfold nextQ
  split
  ·exact h.sum
  ·dsimp only
   generalize (if p.head then p else headsQ p)=x at hh ⊢
   have hb:=bodyQ_sum2 x
   split
   ·dsimp only;omega
   ·split
    ·dsimp only[ps0];rw[List.length_nil];omega
    ·dsimp only;omega
 unfold NextOk at hn
 cases e:oneQ s with
 | more =>
  rw[e] at hn
  exact⟨⟨hsum,s,hn.2.2,h2⟩,fun r hr=>(by rw[hn.1] at hr;cases hr),fun _=>by rw[hn.2.1];decide⟩
 | bad c =>
  rw[e] at hn
  exact⟨⟨hsum,s,hn.2.2,h2⟩,fun r hr=>(by rw[hn.1] at hr;cases hr),fun _=>by rw[hn.2.1];rcases oneQ_codes e with h | h | h <;> omega⟩
 | got r k =>
  rw[e] at hn
  refine⟨⟨hsum,s.drop k,?_,by rw[List.length_drop];omega⟩,fun r' hr=>?_,fun hr=>?_⟩
  ·rw[hn.2];exact .fresh rfl
  ·rw[hn.1] at hr
   cases hr
   exact oneQ_one h2 e
  ·rw[hn.1] at hr;cases hr
theorem PsB.rest {n:Nat} {p:Ps} (h:PsB n p):PsB n (restQ p).1∧(restQ p).2.length≤n:=by
 obtain⟨s,h1,h2⟩:=h.st
 rw[h1.rest]
 split
 ·exact⟨h,Nat.zero_le _⟩
 ·exact⟨ps0_b.le (Nat.zero_le _),h2⟩
end Go.Proofs.YtadobobfjnmdlaaGreatDoor
