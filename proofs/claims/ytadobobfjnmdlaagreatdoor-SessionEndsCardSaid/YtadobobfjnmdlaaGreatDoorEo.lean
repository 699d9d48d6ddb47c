/-
  The laws of sessions: what they wake by. (Printed by mk_eo.py.)
-/
import Derived.Test.YtadobobfjnmdlaaGreatDoorEl
set_option linter.unnecessarySimpa false
set_option linter.unusedVariables false
set_option linter.unusedSimpArgs false
set_option maxHeartbeats 16000000
set_option maxRecDepth 100000
open Go.Lib (hid)
namespace Go.Proofs.YtadobobfjnmdlaaGreatDoor
open Go.RowKit Go.Shelf
attribute [local go_sem] Oper.semAt_some
theorem frm_mask:maskF 9 [120]=frmL:=by kernel_rfl
theorem get_home:getB' [47]=getL:=by kernel_rfl
theorem wk_ok:Sok wkS1∧Sok wkS2∧Sok wkS3∧Sok wkS4∧Sok wkS5∧Sok wkS6∧Sok wkS7:=by
 have h0:=sok0 (q:=2) (limit:=100) (by decide)
 have h1:=h0.feed wakeL
 rw[wake_feed] at h1
 have h2:=h1.next (H:=serveH)
 rw[wake_next1] at h2
 have h3:=h2.next (H:=serveH)
 rw[wake_next2] at h3
 have h4:=h3.next (H:=serveH)
 rw[wake_next3] at h4
 have h5:=h4.out
 rw[wake_out1] at h5
 have h6:=h5.out
 rw[wake_out2] at h6
 have h7:=h6.out
 rw[wake_out3] at h7
 exact⟨h1,h2,h3,h4,h5,h6,h7⟩
theorem wake_len:wakeL.length≤1000:=by decide +kernel
theorem wk_b:SsB 1000 wkS1∧SsB 1000 wkS2∧SsB 1000 wkS3∧SsB 1000 wkS4∧SsB 1000 wkS5∧SsB 1000 wkS6∧SsB 1000 wkS7:=by
 have h0:=ss0_b (q:=2) (limit:=100) (by decide)
 have h1:=(h0.feed wakeL).le (m:=1000) (by rw[Nat.zero_add];exact wake_len)
 rw[wake_feed] at h1
 have h2:=h1.next (H:=serveH)
 rw[wake_next1] at h2
 have h3:=h2.next (H:=serveH)
 rw[wake_next2] at h3
 have h4:=h3.next (H:=serveH)
 rw[wake_next3] at h4
 have h5:=h4.out
 rw[wake_out1] at h5
 have h6:=h5.out
 rw[wake_out2] at h6
 have h7:=h6.out
 rw[wake_out3] at h7
 exact⟨h1,h2,h3,h4,h5,h6,h7⟩
section
variable {w:World} {b:Nat} {T:Nat→Prop} {W:World}
theorem wk_next1 (h:SnL w b T wkS1 W) (hG:G w):Calls Tryz.prog 13 #[.pointer (some ⟨b,0,none⟩)] W fun e w'=>e=.returned (.tuple #[.agg #[.int .i64 3,.int .i64 0,.string ⟨#[]⟩],.bool true])∧LnPost w b T W wkS2 w':=by
 have:=lsn_next h hG wk_b.1 wk_ok.1 (by decide)
 rw[wake_next1] at this
 exact this
theorem wk_next2 (h:SnL w b T wkS2 W) (hG:G w):Calls Tryz.prog 13 #[.pointer (some ⟨b,0,none⟩)] W fun e w'=>e=.returned (.tuple #[.agg #[.int .i64 1,.int .i64 0,.string ⟨#[]⟩],.bool true])∧LnPost w b T W wkS3 w':=by
 have:=lsn_next h hG wk_b.2.1 wk_ok.2.1 (by decide)
 rw[wake_next2] at this
 exact this
theorem wk_next3 (h:SnL w b T wkS3 W) (hG:G w):Calls Tryz.prog 13 #[.pointer (some ⟨b,0,none⟩)] W fun e w'=>e=.returned (.tuple #[.agg #[.int .i64 3,.int .i64 0,.string ⟨#[]⟩],.bool true])∧LnPost w b T W wkS4 w':=by
 have:=lsn_next h hG wk_b.2.2.1 wk_ok.2.2.1 (by decide)
 rw[wake_next3] at this
 exact this
theorem wk_out1 (h:SnL w b T wkS4 W):Calls Tryz.prog 14 #[.pointer (some ⟨b,0,none⟩)] W fun e w'=>e=.returned (.tuple #[.string ⟨homeL.toArray⟩,.bool false,.bool true])∧LnPost w b T W wkS5 w':=by
 have:=lsn_out h wk_b.2.2.2.1 wk_ok.2.2.2.1 (by decide)
 rw[wake_out1] at this
 exact this
theorem wk_out2 (h:SnL w b T wkS5 W):Calls Tryz.prog 14 #[.pointer (some ⟨b,0,none⟩)] W fun e w'=>e=.returned (.tuple #[.string ⟨toldL.toArray⟩,.bool false,.bool true])∧LnPost w b T W wkS6 w':=by
 have:=lsn_out h wk_b.2.2.2.2.1 wk_ok.2.2.2.2.1 (by decide)
 rw[wake_out2] at this
 exact this
theorem wk_out3 (h:SnL w b T wkS6 W):Calls Tryz.prog 14 #[.pointer (some ⟨b,0,none⟩)] W fun e w'=>e=.returned (.tuple #[.string ⟨#[138,1,120]⟩,.bool false,.bool true])∧LnPost w b T W wkS7 w':=by
 have:=lsn_out h wk_b.2.2.2.2.2.1 wk_ok.2.2.2.2.2.1 (by decide)
 rw[wake_out3] at this
 exact this
end
theorem wakes28_any (w:World) (hG:G w):Calls Tryz.prog 7 #[] w fun e w'=>e=.returned (.bool true)∧Gr w w':=by
 have hG':=hid hG
 have hnw:=hid (lsn_new hG (Gr.refl w) 2 100 (by decide) (by decide) (by decide))
 have hget:=hid (fun W=>lget_any [47] (by decide) W)
 have hfr:=hid (fun W=>lframe_any 9 [120] W (by decide) (by decide))
 rw[frm_mask] at hfr
 rw[get_home] at hget
 have hgl:getL.length≤1000:=by decide +kernel
 have hal:askL.length≤1000:=by decide +kernel
 have hfl:frmL.length≤1000:=by decide +kernel
 have c1:(⟨getL.toArray⟩:ByteArray)++⟨askL.toArray⟩=⟨(getL++askL).toArray⟩:=cat_mk _ _
 have c2:(⟨(getL++askL).toArray⟩:ByteArray)++⟨frmL.toArray⟩=⟨wakeL.toArray⟩:=by
  refine (cat_mk _ _).trans ?_
  rw[List.append_assoc];rfl
 have hask:=hid (fun W=>lask_any W)
 have htold:=hid (fun W=>ltold_any W)
 have hfeed:=hid (fun b T W (h:SnL w b T (ss0 2 100) W)=>lsn_feed h (ss0_b (q:=2) (limit:=100) (by decide)) (sok0 (by decide)) wakeL (by have:=wake_len;omega))
 rw[wake_feed] at hfeed
 have hho:homeL=[72,84,84,80,47,49,46,49,32,50,48,48,32,79,75,13,10,67,111,110,116,101,110,116,45,76,101,110,103,116,104,58,32,52,13,10,13,10,104,111,109,101]:=rfl
 have hho':=hid hho
 obtain⟨gl,egl⟩:∃ x,getL=x:=⟨_,rfl⟩
 obtain⟨al,eal⟩:∃ x,askL=x:=⟨_,rfl⟩
 obtain⟨fl,efl⟩:∃ x,frmL=x:=⟨_,rfl⟩
 obtain⟨wl,ewl⟩:∃ x,wakeL=x:=⟨_,rfl⟩
 obtain⟨tl,etl⟩:∃ x,toldL=x:=⟨_,rfl⟩
 rw[egl] at hget c1 c2 hgl
 rw[eal] at hask c1 c2 hal
 rw[efl] at hfr c2 hfl
 rw[ewl] at hfeed c2
 rw[etl] at htold
 have etl':=hid etl
 have hn1:¬9223372036854775807<gl.length+al.length:=by omega
 have hn2:¬9223372036854775807<gl.length+al.length+fl.length:=by omega
 clear hG hho egl eal efl ewl hgl hal hfl etl
 go_enter Tryz.func7,Tryz.ntmps7
 go_wp2_with (fail)
 refine hnw.out.mono ?_
 rintro e w1 ⟨b,rfl,h1,g1⟩
 have h1':=hid h1
 clear h1 g1 hnw
 go_wp2_with (fail)
 refine (hget.out _).mono ?_
 rintro e w2 ⟨rfl,rfl⟩
 go_wp2_with (fail)
 refine (hask.out _).mono ?_
 rintro e w2 ⟨rfl,rfl⟩
 go_wp2_with (fail)
 refine (hfr.out _).mono ?_
 rintro e w2 ⟨rfl,g2⟩
 have h2':=hid (h1'.out.grow g2)
 clear g2 h1' hget hask hfr
 go_wp2_with (fail)
 refine (hfeed.out _ _ _ h2'.out).mono ?_
 rintro e w3 ⟨rfl,T3,h3,_,_⟩
 have h3':=hid h3
 clear h3 h2' hfeed c1 c2 hn1 hn2
 go_wp2_with (fail)
 refine (wk_next1 h3'.out hG'.out).mono ?_
 rintro e w4 ⟨rfl,T4,h4,c4,n4⟩
 go_upto_region 6 with (fail)
 obtain⟨v1,hv1⟩:∃ v,w4.alloc (.cells #[.int .i64 3,.int .i64 0,.string ⟨#[]⟩] 28)=v:=⟨_,rfl⟩
 try rw[hv1]
 have gv1:Gr w4 v1:=hv1▸Gr.alloc w4 _
 have x1:v1.cell? ⟨w4.heap.size,0,none⟩=some (.int .i64 3):=by rw[←hv1];exact cell_new7 _ _ _ 0 _ rfl
 have a1:¬T4 w4.heap.size:=fun e=>absurd (h4.lt _ e) (Nat.lt_irrefl _)
 have z1:w4.heap.size<v1.heap.size:=by rw[←hv1];simp
 have hv1':=hid (h4.grow gv1)
 clear h4 c4 n4 gv1 hv1 h3'
 go_wp2_with (fail)
 refine (wk_next2 hv1'.out hG'.out).mono ?_
 rintro e w5 ⟨rfl,T5,h5,c5,n5⟩
 replace x1:=(c5.cell (p:=⟨w4.heap.size,0,none⟩) (cell_lt x1) a1).trans x1
 replace a1:=n5 _ z1 a1
 replace z1:=Nat.lt_of_lt_of_le z1 c5.size
 go_upto_region 7 with (fail)
 obtain⟨v2,hv2⟩:∃ v,w5.alloc (.cells #[.int .i64 1,.int .i64 0,.string ⟨#[]⟩] 28)=v:=⟨_,rfl⟩
 try rw[hv2]
 have gv2:Gr w5 v2:=hv2▸Gr.alloc w5 _
 have x2:v2.cell? ⟨w5.heap.size,0,none⟩=some (.int .i64 1):=by rw[←hv2];exact cell_new7 _ _ _ 0 _ rfl
 have a2:¬T5 w5.heap.size:=fun e=>absurd (h5.lt _ e) (Nat.lt_irrefl _)
 have z2:w5.heap.size<v2.heap.size:=by rw[←hv2];simp
 replace x1:=gv2.cell x1
 replace z1:=Nat.lt_of_lt_of_le z1 (Below.size gv2)
 have hv2':=hid (h5.grow gv2)
 clear h5 c5 n5 gv2 hv2 hv1'
 go_wp2_with (fail)
 refine (wk_next3 hv2'.out hG'.out).mono ?_
 rintro e w6 ⟨rfl,T6,h6,c6,n6⟩
 replace x1:=(c6.cell (p:=⟨w4.heap.size,0,none⟩) (cell_lt x1) a1).trans x1
 replace a1:=n6 _ z1 a1
 replace z1:=Nat.lt_of_lt_of_le z1 c6.size
 replace x2:=(c6.cell (p:=⟨w5.heap.size,0,none⟩) (cell_lt x2) a2).trans x2
 replace a2:=n6 _ z2 a2
 replace z2:=Nat.lt_of_lt_of_le z2 c6.size
 go_upto_region 8 with (fail)
 obtain⟨v3,hv3⟩:∃ v,w6.alloc (.cells #[.int .i64 3,.int .i64 0,.string ⟨#[]⟩] 28)=v:=⟨_,rfl⟩
 try rw[hv3]
 have gv3:Gr w6 v3:=hv3▸Gr.alloc w6 _
 have x3:v3.cell? ⟨w6.heap.size,0,none⟩=some (.int .i64 3):=by rw[←hv3];exact cell_new7 _ _ _ 0 _ rfl
 have a3:¬T6 w6.heap.size:=fun e=>absurd (h6.lt _ e) (Nat.lt_irrefl _)
 have z3:w6.heap.size<v3.heap.size:=by rw[←hv3];simp
 replace x1:=gv3.cell x1
 replace z1:=Nat.lt_of_lt_of_le z1 (Below.size gv3)
 replace x2:=gv3.cell x2
 replace z2:=Nat.lt_of_lt_of_le z2 (Below.size gv3)
 have hv3':=hid (h6.grow gv3)
 clear h6 c6 n6 gv3 hv3 hv2'
 have hhr:=hid (sn_hears hv3'.out.at' (sok_some wk_ok.2.2.2.1))
 rw[wake_hears] at hhr
 go_wp2_with (fail)
 refine hhr.out.mono ?_
 rintro e w7 ⟨rfl,rfl⟩
 clear hhr
 go_wp2_with (fail)
 refine (wk_out1 hv3'.out).mono ?_
 rintro e w7 ⟨rfl,T7,h7,c7,n7⟩
 replace x1:=(c7.cell (p:=⟨w4.heap.size,0,none⟩) (cell_lt x1) a1).trans x1
 replace a1:=n7 _ z1 a1
 replace z1:=Nat.lt_of_lt_of_le z1 c7.size
 replace x2:=(c7.cell (p:=⟨w5.heap.size,0,none⟩) (cell_lt x2) a2).trans x2
 replace a2:=n7 _ z2 a2
 replace z2:=Nat.lt_of_lt_of_le z2 c7.size
 replace x3:=(c7.cell (p:=⟨w6.heap.size,0,none⟩) (cell_lt x3) a3).trans x3
 replace a3:=n7 _ z3 a3
 replace z3:=Nat.lt_of_lt_of_le z3 c7.size
 have ho1':=hid h7
 clear h7 c7 n7 hv3'
 go_wp2_with (fail)
 refine (wk_out2 ho1'.out).mono ?_
 rintro e w8 ⟨rfl,T8,h8,c8,n8⟩
 replace x1:=(c8.cell (p:=⟨w4.heap.size,0,none⟩) (cell_lt x1) a1).trans x1
 replace a1:=n8 _ z1 a1
 replace z1:=Nat.lt_of_lt_of_le z1 c8.size
 replace x2:=(c8.cell (p:=⟨w5.heap.size,0,none⟩) (cell_lt x2) a2).trans x2
 replace a2:=n8 _ z2 a2
 replace z2:=Nat.lt_of_lt_of_le z2 c8.size
 replace x3:=(c8.cell (p:=⟨w6.heap.size,0,none⟩) (cell_lt x3) a3).trans x3
 replace a3:=n8 _ z3 a3
 replace z3:=Nat.lt_of_lt_of_le z3 c8.size
 have ho2':=hid h8
 clear h8 c8 n8 ho1'
 go_wp2_with (fail)
 refine (wk_out3 ho2'.out).mono ?_
 rintro e w9 ⟨rfl,T9,h9,c9,n9⟩
 replace x1:=(c9.cell (p:=⟨w4.heap.size,0,none⟩) (cell_lt x1) a1).trans x1
 replace a1:=n9 _ z1 a1
 replace z1:=Nat.lt_of_lt_of_le z1 c9.size
 replace x2:=(c9.cell (p:=⟨w5.heap.size,0,none⟩) (cell_lt x2) a2).trans x2
 replace a2:=n9 _ z2 a2
 replace z2:=Nat.lt_of_lt_of_le z2 c9.size
 replace x3:=(c9.cell (p:=⟨w6.heap.size,0,none⟩) (cell_lt x3) a3).trans x3
 replace a3:=n9 _ z3 a3
 replace z3:=Nat.lt_of_lt_of_le z3 c9.size
 have ho3':=hid h9
 clear h9 c9 n9 ho2'
 have hwt:=hid (sn_waits ho3'.out.at')
 rw[wake_waits] at hwt
 rw[hho'.out]
 go_wp2_with (fail)
 refine (htold.out _).mono ?_
 rintro e w10 ⟨rfl,rfl⟩
 go_wp2_with (fail)
 refine hwt.out.mono ?_
 rintro e w10 ⟨rfl,rfl⟩
 go_wp2
 go_ret
 exact⟨rfl,ho3'.out.gr⟩
end Go.Proofs.YtadobobfjnmdlaaGreatDoor
namespace Go.Proofs.YtadobobfjnmdlaaGreatDoor
structure Ac where
 d:UInt8
 o:UInt8
 t:List UInt8
def acSum (l:List Ac):Nat:=(l.map fun a=>a.t.length).sum
def greatA (l:List Ac):Bool:=decide (120<l.length)||(l.any (fun a=>decide (3000<a.t.length))||decide (15000<acSum l))
theorem acSum_snoc (l:List Ac) (a:Ac):acSum (l++[a])=acSum l+a.t.length:=by unfold acSum;simp
theorem acSum_take (l:List Ac) (i:Nat) (h:i<l.length):acSum (l.take (i+1))=acSum (l.take i)+l[i].t.length:=by
 rw[List.take_succ_eq_append_getElem h,acSum_snoc]
theorem acSum_le (l:List Ac) (i:Nat):acSum (l.take i)≤acSum l:=by
 have e:acSum l=acSum (l.take i)+acSum (l.drop i):=by
  unfold acSum
  rw[←List.sum_append,←List.map_append,List.take_append_drop]
 omega
theorem puts_told (s:Ss) (x:Rp) (hd cl:Bool):(ssPuts s x hd cl).x.told=s.x.told:=by
 have h:∀ b,(bxReply s.x b).1.told=s.x.told:=fun b=>by
  unfold bxReply
  repeat' split
  all_goals rfl
 unfold ssPuts
 split
 ·exact h _
 ·exact h _
theorem answers_told (H:Rq→Rp) (s:Ss) (r:Rq):(ssAnswers H s r).1.x.told=s.x.told:=by
 unfold ssAnswers
 split
 ·split
  ·exact puts_told s _ _ _
  ·exact puts_told s _ _ _
 ·exact puts_told s _ _ _
theorem close_told (x:Bx) (b:List UInt8):(bxClose x b).1.told=x.told:=by
 unfold bxClose
 split <;> rfl
theorem pong_told (x:Bx) (b:List UInt8):(bxPong x b).1.told=x.told:=by
 unfold bxPong
 split <;> rfl
theorem message_told (x:Bx) (op:Int) (b:List UInt8):(bxMessage x op b).1.told=x.told:=by
 unfold bxMessage
 repeat' split
 all_goals rfl
theorem next_told (H:Rq→Rp) (s:Ss):(ssNext H s).1.x.told=s.x.told:=by
 have ha:(ssAsks H s).1.x.told=s.x.told:=by
  unfold ssAsks
  split
  ·rename_i p r _
   exact answers_told H { s with p:=p } r
  ·rename_i p _
   split
   ·rfl
   ·exact puts_told { s with p:=p } ⟨p.bad,[],reasonL p.bad⟩ false true
 have gone:∀ (s:Ss) (a b:Nat),(ssGone s a b).x.told=s.x.told:=fun s a b=>by
  unfold ssGone
  split
  ·exact close_told _ _
  ·rfl
 have hs:(ssSays s).1.x.told=s.x.told:=by
  unfold ssSays
  cases wnNext (ssWn s) with
  | mk c o =>
   cases o with
   | none=>rfl
   | some x =>
    cases x with
    | message op t=>rfl
    | ping t=>exact pong_told _ _
    | closing code=>exact gone { s with c:=some c } _ _
    | failing code=>exact gone { s with c:=some c } _ _
 unfold ssNext
 split
 ·rfl
 ·dsimp only
  by_cases q:s.st=1
  ·rw[if_pos q]
   split
   ·exact ha
   ·exact ha
  ·rw[if_neg q]
   split
   ·exact hs
   ·exact hs
theorem feed_told (s:Ss) (b:List UInt8):(ssFeed s b).x.told=s.x.told:=by
 unfold ssFeed
 repeat' split
 all_goals rfl
theorem send_told (s:Ss) (op:Int) (b:List UInt8):(ssSend s op b).1.x.told=s.x.told:=by
 unfold ssSend
 split
 ·rfl
 ·exact message_told _ _ _
theorem out_told {s:Ss} (h:Sok s):(ssOut s).1.x.told=(s.x.told||((ssOut s).2.map (·.2)).getD false):=by
 have hn:=fun i x' (e:bxNext s.x=(x',some i))=>bxNext_some e h.x
 unfold ssOut
 cases e:bxNext s.x with
 | mk x' o =>
  cases o with
  | none =>
   have:=(bxNext_none e).1
   rw[this]
   simp
  | some i =>
   obtain⟨_,h1,h2⟩:=hn i x' e
   simp only[Option.map]
   cases hb:(outB' i).2 with
   | true=>rw[h1 hb];simp
   | false=>rw[h2 hb];simp
def actE (s:Ss) (a:Ac):Ss:=if a.d=0 then ssFeed s a.t else if a.d=1 then (ssNext serveH s).1 else if a.d=2 then (ssOut s).1 else if a.d=3 then (ssSend s 1 a.t).1 else s
theorem actE_ok {n:Nat} {s:Ss} (h:Sok s) (hB:SsB n s) (a:Ac):Sok (actE s a)∧SsB (n+a.t.length) (actE s a):=by
 unfold actE
 split
 ·exact⟨h.feed _,hB.feed _⟩
 ·split
  ·exact⟨h.next,hB.next.le (Nat.le_add_right _ _)⟩
  ·split
   ·exact⟨h.out,hB.out.le (Nat.le_add_right _ _)⟩
   ·split
    ·exact⟨h.send _ _,hB.send _ _⟩
    ·exact⟨h,hB.le (Nat.le_add_right _ _)⟩
open Go.RowKit Go.Shelf
attribute [local go_sem] Oper.semAt_some
def ActsAt (W:World) (p:Option Addr) (l:List Ac):Prop :=
 ∀ (i:Nat) (h:i<l.length),∃ b off,p=some ⟨b,off,none⟩∧W.cell? ⟨b,off+i*3,none⟩=some (.int .u8 l[i].d.toNat)∧W.cell? ⟨b,off+i*3+1,none⟩=some (.int .u8 l[i].o.toNat)∧W.cell? ⟨b,off+i*3+2,none⟩=some (.string ⟨l[i].t.toArray⟩)
theorem ActsAt.gr {W W':World} {p:Option Addr} {l:List Ac} (h:ActsAt W p l) (g:Gr W W'):ActsAt W' p l:=fun i hi=>by
 obtain⟨b,off,e,h1,h2,h3⟩:=h i hi
 exact⟨b,off,e,g.cell h1,g.cell h2,g.cell h3⟩
def GreatRel (W:World) (l:List Ac) (n i:Value) (wr:World):Prop :=
 ∃ k:Nat,k≤l.length∧i=.int .i64 k∧n=.int .i64 (acSum (l.take k))∧(∀ j (hj:j<l.length),j<k→l[j].t.length≤3000)∧acSum (l.take k)≤3000*k∧wr=W
theorem great28_any (p:Option Addr) (cap:Nat) (l:List Ac) (W:World) (h:ActsAt W p l) (hl:l.length≤9223372036854775807) :
  Calls Tryz.prog 9 #[.slice p l.length cap] W fun e w'=>e=.returned (.bool (greatA l))∧W=w':=by
 by_cases h120:120<l.length
 ·have hI:(120:Int)<l.length:=by omega
  have hv:=hid (show greatA l=true by unfold greatA;rw[decide_eq_true h120];rfl)
  clear h120 h
  go_enter Tryz.func9,Tryz.ntmps9
  go_wp2
  go_ret
  exact⟨by rw[hv.out];rfl,rfl⟩
 ·have hI:¬(120:Int)<l.length:=by omega
  have h':=hid h
  have h120':=hid h120
  clear h h120
  go_enter Tryz.func9,Tryz.ntmps9
  go_upto_region 5 with (fail)
  go_loopw [3,4] (fun n i wr=>GreatRel W l n i wr) (fun _ i _=>l.length - (intOf i).toNat)
  case atStart=>exact⟨0,Nat.zero_le _,rfl,rfl,fun j hj h=>absurd h (Nat.not_lt_zero _),Nat.zero_le _,rfl⟩
  case round =>
   obtain⟨k,hk,rfl,rfl,hsm,hsum,rfl⟩:=hrel
   have hsm':=hid hsm
   have hsum':=hid hsum
   clear hsm hsum
   by_cases hlt:k<l.length
   ·have hkI:(k:Int)<l.length:=by omega
    obtain⟨b,off,rfl,c0,c1,c2⟩:=h'.out k hlt
    have hn:=hid (acSum_take l k hlt)
    have htk:=hid (show ∃ a,a=l[k] from⟨_,rfl⟩)
    obtain⟨a,ha⟩:=htk.out
    rw[←ha] at c0 c1 c2 hn
    have ha':=hid ha
    clear ha htk
    by_cases h3:3000<a.t.length
    ·have h3I:(3000:Int)<a.t.length:=by omega
     have hv:=hid (show greatA l=true by
      have:l.any (fun a=>decide (3000<a.t.length))=true:=List.any_eq_true.2 ⟨l[k],List.getElem_mem hlt,by rw[←ha'.out];exact decide_eq_true h3⟩
      unfold greatA
      rw[this];simp)
     clear h3
     go_wp2
     go_ret
     exact⟨by rw[hv.out];rfl,rfl⟩
    ·have h3I:¬(3000:Int)<a.t.length:=by omega
     have hb1:(acSum (l.take k):Int)+(a.t.length:Int)=((acSum (l.take (k+1)):Nat):Int):=by have:=hn.out;omega
     have hb2:IntKind.i64.wrap ((acSum (l.take (k+1)):Nat):Int)=((acSum (l.take (k+1)):Nat):Int):=IntWalk.i64_in _ (by have:=hn.out;have:=hsum'.out;have:=h120'.out;omega)
     have hsm2:=hid (show ∀ j (hj:j<l.length),j<k+1→l[j].t.length≤3000 from fun j hj hjk=>by
      by_cases e:j=k
      ·subst e;rw[←ha'.out];omega
      ·exact hsm'.out j hj (by omega))
     have hsum2:=hid (show acSum (l.take (k+1))≤3000*(k+1) by have:=hn.out;have:=hsum'.out;omega)
     obtain⟨s1,hs1⟩:∃ s1,acSum (l.take k)=s1:=⟨_,rfl⟩
     obtain⟨s2,hs2⟩:∃ s2,acSum (l.take (k+1))=s2:=⟨_,rfl⟩
     rw[hs1] at hb1
     rw[hs2] at hb1 hb2
     have hb3:=hid (show s2≤400000 by have:=hsum2.out;have:=h120'.out;omega)
     have hs2':=hid hs2
     rw[hs1]
     clear hn hsum' hsm' h3 hs2
     go_wp2
     go_roundw
     case rel=>exact⟨k+1,hlt,by go_num,by rw[hs2'.out],hsm2.out,hsum2.out,rfl⟩
     case measure=>simp[intOf];omega
   ·obtain rfl:k=l.length:=by omega
    rw[List.take_length] at hsum' ⊢
    have hany:l.any (fun a=>decide (3000<a.t.length))=false:=by
     rw[List.any_eq_false]
     intro a ha
     obtain⟨j,hj,rfl⟩:=List.getElem_of_mem ha
     have:=hsm'.out j hj hj
     simp;omega
    have hv:=hid (show greatA l=decide (15000<acSum l) by unfold greatA;rw[decide_eq_false h120'.out,hany];rfl)
    obtain⟨s1,hs1⟩:∃ s1,acSum l=s1:=⟨_,rfl⟩
    rw[hs1] at hv ⊢
    clear hany hsm' hsum' hs1
    by_cases h15:15000<s1
    ·have h15I:(15000:Int)<s1:=by omega
     have hd:=hid (decide_eq_true h15)
     clear h15
     go_wp2
     go_ret
     exact⟨by rw[hv.out,hd.out];rfl,rfl⟩
    ·have h15I:¬(15000:Int)<s1:=by omega
     have hd:=hid (decide_eq_false h15)
     clear h15
     go_wp2
     go_ret
     exact⟨by rw[hv.out,hd.out];first | rfl | exact congrArg (fun q=>Ending.returned (Value.bool q)) (decide_eq_false (by omega)),rfl⟩
end Go.Proofs.YtadobobfjnmdlaaGreatDoor
namespace Go.Proofs.YtadobobfjnmdlaaGreatDoor
open Go.RowKit Go.Lib
section
open Go.ChangeShapes Go.WideShapes Go.Deep
variable {H:Type} {enc:TypeId×Value→H}
theorem actStruct:∃ f0 f1 f2,Tryz.prog.underlying 38=some (.struct #[f0,f1,f2])∧f0.type = 5∧f1.type = 5∧f2.type = 9∧oneCellFields Tryz.prog #[f0,f1,f2]=true:=⟨_,_,_,Tryz.underlying38,rfl,rfl,rfl,by kernel_rfl⟩
theorem acts_of {W:World} {base:Nat} {v:Value} {d:DataW H} {p:List MemPlace} (hv:Value.okWide Tryz.prog W .any base 30 v) (h:DataW.Trod enc Tryz.prog W 0 (fun _=>true) true 30 v d p) :
  ∃ (l:List Ac) (pa:Option Addr) (cap:Nat),v=.slice pa l.length cap∧ActsAt W pa l∧l.length≤9223372036854775807:=by
 obtain⟨a0,len0,cap0,rfl⟩:=okWide_slice Tryz.underlying30 hv
 obtain⟨fuel,hf⟩:=h
 obtain⟨f0,f1,f2,hst,ht0,ht1,ht2,hone⟩:=actStruct
 rcases open_slice_fields Tryz.underlying30 hst hone (by kernel_rfl) hf with h0 | ⟨a,len,cap,h0,hm,hc⟩
 ·rw[show (Value.slice a0 len0 cap0).cells.toList=[.slice a0 len0 cap0] from rfl,List.cons.injEq,Value.slice.injEq] at h0
  obtain⟨⟨rfl,rfl,rfl⟩,_⟩:=h0
  exact⟨[],none,0,rfl,fun i hi=>absurd hi (Nat.not_lt_zero _),by simp⟩
 ·rw[show (Value.slice a0 len0 cap0).cells.toList=[.slice a0 len0 cap0] from rfl,List.cons.injEq,Value.slice.injEq] at h0
  obtain⟨⟨rfl,rfl,rfl⟩,_⟩:=h0
  have key:∀ i,i<len0→∃ x:Ac,W.cell? (a.add (i*3))=some (.int .u8 x.d.toNat)∧W.cell? (a.add (i*3+1))=some (.int .u8 x.o.toNat)∧W.cell? (a.add (i*3+2))=some (.string ⟨x.t.toArray⟩):=fun i hi=>by
   obtain⟨v0,y0,n0,c0,t0⟩:=hc i hi 0 f0 rfl
   obtain⟨v1,y1,n1,c1,t1⟩:=hc i hi 1 f1 rfl
   obtain⟨v2,y2,n2,c2,t2⟩:=hc i hi 2 f2 rfl
   rw[ht0] at t0
   rw[ht1] at t1
   rw[ht2] at t2
   obtain⟨z0,e0,_,w0⟩:=DataW.trod_int Tryz.underlying5 t0
   obtain⟨z1,e1,_,w1⟩:=DataW.trod_int Tryz.underlying5 t1
   obtain⟨s2,e2,_,l2⟩:=DataW.trod_string Tryz.underlying9 t2
   simp at e0 e1 e2
   subst e0 e1 e2
   obtain⟨b0,rfl⟩:=byte_of w0
   obtain⟨b1,rfl⟩:=byte_of w1
   refine⟨⟨b0,b1,s2.data.toList⟩,c0,c1,?_⟩
   rw[show (⟨(s2.data.toList).toArray⟩:ByteArray)=s2 from Lib.mk_data s2];exact c2
  have key2:∀ i:Fin len0,∃ x:Ac,W.cell? (a.add (i.1*3))=some (.int .u8 x.d.toNat)∧W.cell? (a.add (i.1*3+1))=some (.int .u8 x.o.toNat)∧W.cell? (a.add (i.1*3+2))=some (.string ⟨x.t.toArray⟩):=fun i=>key i.1 i.2
  let g:Fin len0→Ac:=fun i=>Classical.choose (key2 i)
  have hg:∀ i,_:=fun i=>Classical.choose_spec (key2 i)
  refine⟨List.ofFn g,some a,cap0,by simp,fun i hi=>?_,by simp;exact hm⟩
  have hi':i<len0:=by simpa using hi
  obtain⟨h1,h2,h3⟩:=hg ⟨i,hi'⟩
  obtain⟨x0,h0,_⟩:=key 0 (by omega)
  have hgi:(List.ofFn g)[i]'hi=g ⟨i,hi'⟩:=by simp
  rw[hgi]
  change W.cell? (a.add (i*3))=some (.int .u8 (g ⟨i,hi'⟩).d.toNat) at h1
  change W.cell? (a.add (i*3+1))=some (.int .u8 (g ⟨i,hi'⟩).o.toNat) at h2
  change W.cell? (a.add (i*3+2))=some (.string ⟨(g ⟨i,hi'⟩).t.toArray⟩) at h3
  obtain⟨b,off,spot⟩:=a
  have hsp:spot=none:=by
   rw[show (⟨b,off,spot⟩:Addr).add (0*3)=⟨b,off,spot⟩ from rfl] at h0
   unfold World.cell? at h0
   split at h0
   ·cases spot with
    | none=>rfl
    | some y=>simp at h0
   ·cases h0
  subst hsp
  have had:∀ n,(⟨b,off,none⟩:Addr).add n=⟨b,off+n,none⟩:=fun n=>by
   unfold Addr.add
   by_cases h:n=0
   ·subst h;rfl
   ·simp[h]
  rw[had] at h1 h2 h3
  exact⟨b,off,rfl,h1,h2,h3⟩
end
end Go.Proofs.YtadobobfjnmdlaaGreatDoor
