/-
  A session in memory: a new one.
-/
import Derived.Test.YtadobobfjnmdlaaGreatDoorEh
import Derived.Lib.BufferRead
import Derived.LoopTactic
set_option linter.unnecessarySimpa false
set_option linter.unusedVariables false
set_option linter.unusedSimpArgs false
set_option maxHeartbeats 16000000
set_option maxRecDepth 100000
open Go.Lib (hid)
open Go.Proofs.Tryz
namespace Go.Proofs.YtadobobfjnmdlaaGreatDoor
open Go.RowKit Go.Shelf
attribute [local go_sem] Oper.semAt_some
theorem sn_new {g:Nat} {lb:Array Value} (W:World) (hG:G W) (q limit:Nat) (h1:1≤q) (h2:q≤64) (hlim:limit≤1099511627776) :
  Calls prog 10 #[.func (.func g) #[] lb,.int .i64 q,.int .i64 limit] W λe w'=>∃ b,e=.returned (.tuple #[.pointer (some ⟨b,0,none⟩),.int .i64 0])∧SnAt b (.func (.func g) #[] lb) (New W w') w' (ss0 q limit)∧Gr W w':=by
 have hb:=hid (bnew_any q W h1 h2)
 have hw:=hid (λW=>wnew_at W limit hlim)
 have hG':=hid hG
 have hnf:=λ(w:World) f x c=>run_eql_func_nil (P:=prog) w underlying62 f x c
 clear hG h1 h2 hlim
 go_enter func10,ntmps10
 go_wp2_with fail
 refine hb.out.mono ?_
 rintro e w1⟨bb,rfl,hx,g1⟩
 have hx':=hid hx
 have g1':=hid g1
 clear hx g1
 go_wp2_with fail
 refine (hw.out w1).mono ?_
 rintro e w2⟨kk,rfl,_,g2⟩
 have g2':=hid g2
 clear g2
 have hp:=hid (pqnew_at (hG'.out.gr (g1'.out.trans g2'.out)))
 go_wp2_with fail
 refine hp.out.mono ?_
 rintro e w3⟨pb,rfl,hq,g3⟩
 have hq':=hid hq
 have g3':=hid g3
 clear hq g3
 go_wp2
 refine bodyPost_ret (v:=.tuple #[.pointer (some ⟨w3.heap.size,0,none⟩),.int .i64 0]) (by simp[results,results10,go_sem]) rfl ?_
 obtain⟨w4,hw4⟩:∃ w4,w3.alloc (.cells #[.func (.func g) #[] lb,.int .i64 limit,.int .i64 1,.pointer (some ⟨pb,0,none⟩),.pointer none,.pointer (some ⟨bb,0,none⟩),.bool false] 67)=w4:=⟨_,rfl⟩
 rw[hw4]
 have g4:Gr w3 w4:=hw4▸Gr.alloc _ _
 have s4:w4.heap.size=w3.heap.size+1:=by rw[←hw4];simp
 have s1:=Below.size g1'.out
 have s2:=Below.size g2'.out
 have s3:=Below.size g3'.out
 have hg:=((g1'.out.trans g2'.out).trans g3'.out).trans g4
 refine⟨_,rfl,⟨⟨λk=>if k=w3.heap.size then 1 else if w2.heap.size≤k∧k<w3.heap.size then 2 else if W.heap.size≤k∧k<w1.heap.size then 4 else 0,pb,bb,.pointer none,?_,?_⟩,λk e=>e.2⟩,hg⟩
 ·refine⟨by rw[←hw4];exact cell_new7 _ _ _ 0 _ rfl,by rw[←hw4];exact cell_new7 _ _ _ 1 _ rfl,by rw[←hw4];exact cell_new7 _ _ _ 2 _ rfl,by rw[←hw4];exact cell_new7 _ _ _ 3 _ rfl,by rw[←hw4];exact cell_new7 _ _ _ 4 _ rfl,by rw[←hw4];exact cell_new7 _ _ _ 5 _ rfl,by rw[←hw4];exact cell_new7 _ _ _ 6 _ rfl,
   λo=>by rw[←hw4];exact World.frozen?_alloc_at _ _ _ _ rfl,if_pos rfl,?_,rfl,?_,?_⟩
  ·refine (pqKin pb).mono ((pqKin pb).gr hq'.out g4) (λk e=>?_) (λk e=>?_)
   ·show (if k=w3.heap.size then 1 else if w2.heap.size≤k∧k<w3.heap.size then 2 else if W.heap.size≤k∧k<w1.heap.size then 4 else 0)=2
    rw[if_neg (by have:=e.2;omega),if_pos ⟨e.1,e.2⟩]
   ·try dsimp only at e
    split at e
    ·cases e
    ·split at e
     ·omega
     ·split at e <;> cases e
  ·refine (bxKin bb).mono ((bxKin bb).gr hx'.out ((g2'.out.trans g3'.out).trans g4)) (λk e=>?_) (λk e=>?_)
   ·show (if k=w3.heap.size then 1 else if w2.heap.size≤k∧k<w3.heap.size then 2 else if W.heap.size≤k∧k<w1.heap.size then 4 else 0)=4
    have e1:=e.1
    have e2:=e.2
    rw[if_neg (by omega),if_neg (by omega),if_pos ⟨e1,e2⟩]
   ·try dsimp only at e
    split at e
    ·cases e
    ·split at e
     ·cases e
     ·split at e
      ·omega
      ·cases e
  ·intro k e
   try dsimp only at e
   split at e
   ·omega
   ·split at e
    ·omega
    ·split at e
     ·omega
     ·exact absurd rfl e
 ·intro k e
  try dsimp only at e
  refine⟨?_,?_⟩ <;> (repeat' split at e) <;> first | omega | exact absurd rfl e
end Go.Proofs.YtadobobfjnmdlaaGreatDoor
namespace Go.Proofs.YtadobobfjnmdlaaGreatDoor
section
variable {H:Rq→Rp} {limit:Nat}
theorem KD.det {k k1:Kern} {t:List UInt8} {l:List (Nat×List UInt8)} (h:KD H limit k t l k1):∀ {t' l' k'},KD H limit k t' l' k'→t=t'∧l=l'∧k1=k':=by
 induction h with
 | over=>intro t' l' k' g;cases g;exact⟨rfl,rfl,rfl⟩
 | more h =>
  intro t' l' k' g
  cases g with
  | more _=>exact⟨rfl,rfl,rfl⟩
  | bad g=>rw[h] at g;cases g
  | got g _ _=>rw[h] at g;cases g
  | close g _=>rw[h] at g;cases g
  | up g _ _=>rw[h] at g;cases g
 | bad h =>
  intro t' l' k' g
  cases g with
  | more g=>rw[h] at g;cases g
  | bad g=>rw[h] at g;cases g;exact⟨rfl,rfl,rfl⟩
  | got g _ _=>rw[h] at g;cases g
  | close g _=>rw[h] at g;cases g
  | up g _ _=>rw[h] at g;cases g
 | got h ha _ ih =>
  intro t' l' k' g
  cases g with
  | more g=>rw[h] at g;cases g
  | bad g=>rw[h] at g;cases g
  | got g ga gk =>
   rw[h] at g;cases g
   rw[ha] at ga;cases ga
   obtain⟨rfl,rfl,rfl⟩:=ih gk
   exact⟨rfl,rfl,rfl⟩
  | close g ga=>rw[h] at g;cases g;rw[ha] at ga;cases ga
  | up g ga _=>rw[h] at g;cases g;rw[ha] at ga;cases ga
 | close h ha =>
  intro t' l' k' g
  cases g with
  | more g=>rw[h] at g;cases g
  | bad g=>rw[h] at g;cases g
  | got g ga _=>rw[h] at g;cases g;rw[ha] at ga;cases ga
  | close g ga=>rw[h] at g;cases g;rw[ha] at ga;cases ga;exact⟨rfl,rfl,rfl⟩
  | up g ga _=>rw[h] at g;cases g;rw[ha] at ga;cases ga
 | up h ha _ ih =>
  intro t' l' k' g
  cases g with
  | more g=>rw[h] at g;cases g
  | bad g=>rw[h] at g;cases g
  | got g ga _=>rw[h] at g;cases g;rw[ha] at ga;cases ga
  | close g ga=>rw[h] at g;cases g;rw[ha] at ga;cases ga
  | up g ga gk =>
   rw[h] at g;cases g
   rw[ha] at ga;cases ga
   obtain⟨rfl,rfl,rfl⟩:=ih gk
   exact⟨rfl,rfl,rfl⟩
 | sock h =>
  intro t' l' k' g
  cases g with
  | sock g =>
   obtain⟨rfl,rfl⟩:=h.det g
   exact⟨rfl,rfl,rfl⟩
inductive KDs (H:Rq→Rp) (limit:Nat):Kern→List (List UInt8)→List UInt8→List (Nat×List UInt8)→Kern→Prop where
 | nil {k:Kern}:KDs H limit k [] [] [] k
 | cons {k k1 k2:Kern} {b:List UInt8} {bs:List (List UInt8)} {t t2:List UInt8} {l l2:List (Nat×List UInt8)} (h:KD H limit (kFeed k b) t l k1) (hs:KDs H limit k1 bs t2 l2 k2):KDs H limit k (b :: bs) (t++t2) (l++l2) k2
theorem kFeed_app (k:Kern) (a b:List UInt8):kFeed k (a++b)=kFeed (kFeed k a) b:=by
 cases k with
 | http s=>exact congrArg Kern.http (List.append_assoc s a b).symm
 | sock c=>exact congrArg Kern.sock (wnFeed_app c a b)
 | over=>rfl
theorem KDs.one {k k2:Kern} {b:List UInt8} {bs:List (List UInt8)} {t:List UInt8} {l:List (Nat×List UInt8)} (hk:KOk k) (h:KDs H limit k (b :: bs) t l k2):KD H limit (kFeed k (b++bs.flatten)) t l k2:=by
 induction bs generalizing k b t l with
 | nil =>
  cases h with
  | cons h1 hs =>
   cases hs with
   | nil=>rw[List.append_nil,List.append_nil,List.flatten_nil,List.append_nil];exact h1
 | cons b2 bs ih =>
  cases h with
  | cons h1 hs =>
   have hk1:=(h1.keeps (hk.feed b)).1
   have h2:=ih hk1 hs
   obtain⟨t3,l3,k3,e1,e2⟩:=h1.feed (hk.feed b) (b2++bs.flatten)
   obtain⟨rfl,rfl,rfl⟩:=e1.det h2
   rw[←kFeed_app] at e2
   exact e2
theorem KDs.same {k k1 k2:Kern} {cs bs:List (List UInt8)} {t1 t2:List UInt8} {l1 l2:List (Nat×List UInt8)} (hk:KOk k) (ha:cs≠[]) (hb:bs≠[]) (he:cs.flatten=bs.flatten)
  (h1:KDs H limit k cs t1 l1 k1) (h2:KDs H limit k bs t2 l2 k2):t1=t2∧l1=l2∧k1=k2:=by
 cases cs with
 | nil=>exact absurd rfl ha
 | cons a cs =>
  cases bs with
  | nil=>exact absurd rfl hb
  | cons b bs =>
   have e1:=KDs.one hk h1
   have e2:=KDs.one hk h2
   have he:a++cs.flatten=b++bs.flatten:=he
   rw[he] at e1
   exact e1.det e2
theorem Rep.feed {s:Ss} {k:Kern} (h:Rep limit s k) (hk:KOk k) (b:List UInt8):Rep limit (ssFeed s b) (kFeed k b):=by
 cases h with
 | http h1 hl hp hx =>
  unfold ssFeed
  rw[if_pos h1]
  exact .http h1 hl (hp.feed b) hx
 | sock h1 hc hx =>
  unfold ssFeed
  rw[if_neg (by omega),if_pos h1]
  exact .sock h1 (by dsimp only;rw[hc];rfl) hx
 | over h1 hx =>
  unfold ssFeed
  rw[if_neg (by omega),if_neg (by omega)]
  exact .over h1 hx
def stK:Kern→Nat
 | .http _=>1
 | .sock _=>2
 | .over=>3
theorem Rep.st {s:Ss} {k:Kern} (h:Rep limit s k):s.st=stK k:=by cases h <;> assumption
end
def splitS:List UInt8→List (List UInt8)
 | []=>[[]]
 | [c]=>[[c]]
 | c :: d :: t=>if c=13∧d=10 then [] :: splitS t else match splitS (d :: t) with
  | []=>[[c]]
  | l :: r=>(c :: l) :: r
theorem splitS_eq:∀ s:List UInt8,splitS s=splitE s
 | []=>by simp[splitS,splitE]
 | [c]=>by simp[splitS,splitE]
 | c :: d :: t=>by
  have h1:=splitS_eq t
  have h2:=splitS_eq (d :: t)
  unfold splitS
  rw[splitE]
  by_cases h:c=13∧d=10
  ·rw[if_pos h,if_pos (by simpa using h),h1];rfl
  ·rw[if_neg h,if_neg (by simpa using h),h2]
   rfl
def oneS (s:List UInt8):OneR :=
 if decide (0≤Lib.index s eol2)&&decide (Lib.index s eol2+4≤2048) then
  match headQ (splitS (s.take (Lib.index s eol2).toNat)) with
  | .bad c=>.bad c
  | .good r n ch =>
   if ch then
    if (feedC ck0 (s.drop ((Lib.index s eol2).toNat+4))).2.bad≠0 then .bad (feedC ck0 (s.drop ((Lib.index s eol2).toNat+4))).2.bad
    else if (feedC ck0 (s.drop ((Lib.index s eol2).toNat+4))).2.st=4 then .got { r with b:=(feedC ck0 (s.drop ((Lib.index s eol2).toNat+4))).2.data } ((Lib.index s eol2).toNat+4+(feedC ck0 (s.drop ((Lib.index s eol2).toNat+4))).1)
    else .more
   else if s.length<(Lib.index s eol2).toNat+4+n then .more
   else .got { r with b:=(s.drop ((Lib.index s eol2).toNat+4)).take n } ((Lib.index s eol2).toNat+4+n)
 else if 2048≤s.length then .bad 431 else .more
theorem oneS_eq (s:List UInt8):oneS s=oneQ s:=by
 unfold oneS oneQ
 rw[splitS_eq]
 rfl
def serveH (r:Rq):Rp :=
 if r.p=[47] then ⟨200,[],[104,111,109,101]⟩ else if r.p=[47,119,115] then ⟨101,[],[]⟩ else if r.p=[47,101,99,104,111] then ⟨200,[([88,45,77,101,116,104,111,100],r.m)],r.b⟩
 else if r.p=[47,98,97,100] then ⟨999,[],[]⟩ else ⟨404,[],[110,111,116,32,102,111,117,110,100]⟩
def getL:List UInt8:=[71,69,84,32,47,32,72,84,84,80,47,49,46,49,13,10,72,111,115,116,58,32,97,13,10,13,10]
def askL:List UInt8:=[71,69,84,32,47,119,115,32,72,84,84,80,47,49,46,49,13,10,72,111,115,116,58,32,97,13,10,85,112,103,114,97,100,101,58,32,119,101,98,115,111,99,107,101,116,13,10,67,111,110,110,101,99,116,105,111,110,58,32,85,112,103,114,97,100,101,13,10,83,101,99,45,87,101,98,83,111,99,107,101,116,45,75,101,121,58,32,100,71,104,108,73,72,78,104,98,88,66,115,90,83,66,117,98,50,53,106,90,81,61,61,13,10,83,101,99,45,87,101,98,83,111,99,107,101,116,45,86,101,114,115,105,111,110,58,32,49,51,13,10,13,10]
def frmL:List UInt8:=[137,129,1,2,3,4,121]
def homeL:List UInt8:=[72,84,84,80,47,49,46,49,32,50,48,48,32,79,75,13,10,67,111,110,116,101,110,116,45,76,101,110,103,116,104,58,32,52,13,10,13,10,104,111,109,101]
def toldL:List UInt8:=[72,84,84,80,47,49,46,49,32,49,48,49,32,83,119,105,116,99,104,105,110,103,32,80,114,111,116,111,99,111,108,115,13,10,85,112,103,114,97,100,101,58,32,119,101,98,115,111,99,107,101,116,13,10,67,111,110,110,101,99,116,105,111,110,58,32,85,112,103,114,97,100,101,13,10,83,101,99,45,87,101,98,83,111,99,107,101,116,45,65,99,99,101,112,116,58,32,115,51,112,80,76,77,66,105,84,120,97,81,57,107,89,71,122,122,104,90,82,98,75,43,120,79,111,61,13,10,13,10]
def wakeL:List UInt8:=getL++(askL++frmL)
def rqHome:Rq:=⟨[71,69,84],[47],[],11,[([72,111,115,116],[97])],[],false⟩
def rqAsk:Rq:=⟨[71,69,84],[47,119,115],[],11,[([72,111,115,116],[97]),([85,112,103,114,97,100,101],[119,101,98,115,111,99,107,101,116]),([67,111,110,110,101,99,116,105,111,110],[85,112,103,114,97,100,101]),([83,101,99,45,87,101,98,83,111,99,107,101,116,45,75,101,121],[100,71,104,108,73,72,78,104,98,88,66,115,90,83,66,117,98,50,53,106,90,81,61,61]),([83,101,99,45,87,101,98,83,111,99,107,101,116,45,86,101,114,115,105,111,110],[49,51])],[],false⟩
theorem wake_one:oneQ wakeL=.got rqHome getL.length:=by rw[←oneS_eq];kernel_rfl
theorem wake_two:oneQ (askL++frmL)=.got rqAsk askL.length:=by rw[←oneS_eq];kernel_rfl
def wkS1:Ss:=⟨100,1,{ ps0 with inp:=wakeL },none,bx0 2,true⟩
def wkS2:Ss:=⟨100,1,{ ps0 with inp:=askL++frmL },none,{ bx0 2 with reps:=[homeL] },true⟩
def wkS3:Ss:=⟨100,2,ps0,some (wnFeed (wn0 100) frmL),{ bx0 2 with reps:=[homeL,toldL] },true⟩
def wkC:Wn:=⟨⟨0,[],mkH frmL,1⟩,jn0 100,1,0,[120]⟩
def wkS4:Ss:=⟨100,2,ps0,some wkC,{ bx0 2 with reps:=[homeL,toldL],pong:=some [120] },true⟩
theorem asks_got {H:Rq→Rp} {s:Ss} {b:List UInt8} {r:Rq} {n:Nat} (hs:Stands s.p b) (h:oneQ b=.got r n):ssAsks H s=((ssAnswers H { s with p:={ ps0 with inp:=b.drop n } } r).1,some (ssAnswers H { s with p:={ ps0 with inp:=b.drop n } } r).2):=by
 have hn:=hs.next
 unfold NextOk at hn
 rw[h] at hn
 obtain⟨e1,e2⟩:=hn
 unfold ssAsks
 rw[show nextQ s.p=((nextQ s.p).1,(nextQ s.p).2) from rfl,e1,e2]
theorem wake_feed:ssFeed (ss0 2 100) wakeL=wkS1:=by kernel_rfl
theorem next_of {H:Rq→Rp} {s s2:Ss} {e:Sev} (h1:ssTakes s=true) (h2:s.st=1) (h3:s2.st≠3) (h:ssAsks H s=(s2,some e)):ssNext H s=(s2,some e):=by
 unfold ssNext
 rw[h1,if_neg (by decide),if_pos h2,h]
 simp[h3]
theorem wake_next1:ssNext serveH wkS1=(wkS2,some .done):=by
 refine next_of rfl rfl (by decide) ?_
 rw[asks_got (s:=wkS1) (b:=wakeL) (.fresh rfl) wake_one]
 kernel_rfl
theorem wake_next2:ssNext serveH wkS2=(wkS3,some .upgraded):=by
 refine next_of rfl rfl (by decide) ?_
 rw[asks_got (s:=wkS2) (b:=askL++frmL) (.fresh rfl) wake_two]
 kernel_rfl
theorem wake_next3:ssNext serveH wkS3=(wkS4,some .done):=by kernel_rfl
theorem wake_hears:ssHears wkS4=true:=rfl
def wkS5:Ss:={ wkS4 with x:={ bx0 2 with reps:=[toldL],pong:=some [120] } }
def wkS6:Ss:={ wkS4 with x:={ bx0 2 with pong:=some [120] } }
def wkS7:Ss:={ wkS4 with x:=bx0 2 }
theorem wake_out1:ssOut wkS4=(wkS5,some (homeL,false)):=rfl
theorem wake_out2:ssOut wkS5=(wkS6,some (toldL,false)):=rfl
theorem wake_out3:ssOut wkS6=(wkS7,some ([138,1,120],false)):=by kernel_rfl
theorem wake_waits:bxWaits wkS7.x=false:=rfl
open Go.RowKit Go.Shelf
attribute [local go_sem] Oper.semAt_some
theorem serve_sm {r:Rq} (h:RqSm r):RpSm (serveH r):=by
 obtain⟨_,_,h3,_,_,h6⟩:=h
 have nil:∀ (c:Int) (b:List UInt8),b.length≤1000000→-9223372036854775808≤c→c≤9223372036854775807→RpSm ⟨c,[],b⟩:=λc b h1 h2 h3=>⟨Nat.zero_le _,(λf hf=>by cases hf),h1,h2,h3⟩
 unfold serveH
 split
 ·exact nil _ _ (by decide) (by decide) (by decide)
 ·split
  ·exact nil _ _ (by decide) (by decide) (by decide)
  ·split
   ·refine⟨by (show 1≤1000000;decide),?_,Nat.le_trans h6 (by decide),by (show -9223372036854775808≤(200:Int);decide),by (show (200:Int)≤9223372036854775807;decide)⟩
    intro f hf
    rcases List.mem_cons.1 hf with rfl | hf
    ·exact⟨by (show 8≤1000000;decide),Nat.le_trans h3 (by decide)⟩
    ·cases hf
   ·split
    ·exact nil _ _ (by decide) (by decide) (by decide)
    ·exact nil _ _ (by decide) (by decide) (by decide)
theorem fieldsAt_lit1 (W:World) (n v:List UInt8) (t:TypeId) {W':World} (g:Gr (W.alloc (.cells #[.string ⟨n.toArray⟩,.string ⟨v.toArray⟩] t)) W'):FieldsAt W' (.slice (some ⟨W.heap.size,0,none⟩) 1 1) [(n,v)] :=
 ⟨some ⟨W.heap.size,0,none⟩,1,rfl,λi hi=>by
  match i,hi with
  | 0,_=>exact⟨W.heap.size,0,rfl,g.cell (cell_new7 _ _ _ 0 _ rfl),g.cell (cell_new7 _ _ _ 1 _ rfl)⟩⟩
theorem serve_hnd (W0:World):Hnd 11 #[] (λ_=>False) serveH W0:=by
 refine⟨λ_ e=>e.elim,enters_of func11 (by kernel_rfl) rfl,?_,λr h=>serve_sm h⟩
 intro W r s _ _ hf _
 obtain⟨pf,capf,rfl,_⟩:=hf
 show Calls prog 11 #[r.V (.slice pf r.fs.length capf)] W _
 unfold Rq.V
 by_cases h0:r.p=[47]
 ·have hq:=hid (show serveH r=⟨200,[],[104,111,109,101]⟩ by unfold serveH;rw[if_pos h0])
  have b0:(r.p==[47])=true:=beq_iff_eq.2 h0
  clear h0
  go_enter func11,ntmps11
  go_wp2
  refine bodyPost_ret (v:=.agg #[.int .i64 200,.slice none 0 0,.string ⟨#[104,111,109,101]⟩]) (by simp[results,results11,go_sem]) rfl ?_
  rw[hq.out]
  exact⟨.slice none 0 0,rfl,fieldsAt_none _ 0,(Gr.alloc _ _).alloc1 _⟩
 by_cases h1:r.p=[47,119,115]
 ·have hq:=hid (show serveH r=⟨101,[],[]⟩ by unfold serveH;rw[if_neg h0,if_pos h1])
  have b0:(r.p==[47])=false:=beq_false_of_ne h0
  have b1:(r.p==[47,119,115])=true:=beq_iff_eq.2 h1
  clear h0 h1
  go_enter func11,ntmps11
  go_wp2
  refine bodyPost_ret (v:=.agg #[.int .i64 101,.slice none 0 0,.string ⟨#[]⟩]) (by simp[results,results11,go_sem]) rfl ?_
  rw[hq.out]
  exact⟨.slice none 0 0,rfl,fieldsAt_none _ 0,(Gr.alloc _ _).alloc1 _⟩
 by_cases h2:r.p=[47,101,99,104,111]
 ·have hq:=hid (show serveH r=⟨200,[([88,45,77,101,116,104,111,100],r.m)],r.b⟩ by unfold serveH;rw[if_neg h0,if_neg h1,if_pos h2])
  have b0:(r.p==[47])=false:=beq_false_of_ne h0
  have b1:(r.p==[47,119,115])=false:=beq_false_of_ne h1
  have b2:(r.p==[47,101,99,104,111])=true:=beq_iff_eq.2 h2
  clear h0 h1 h2
  go_enter func11,ntmps11
  go_wp2
  refine bodyPost_ret (v:=.agg #[.int .i64 200,.slice (some ⟨W.heap.size+1+1,0,none⟩) 1 1,.string ⟨r.b.toArray⟩]) (by simp[results,results11,go_sem]) rfl ?_
  rw[hq.out]
  exact⟨.slice (some ⟨W.heap.size+1+1,0,none⟩) 1 1,rfl,by simpa using fieldsAt_lit1 ((W.alloc (.cells #[.string ⟨r.m.toArray⟩,.string ⟨r.p.toArray⟩,.string ⟨r.q.toArray⟩,.int .i64 r.v,.slice pf r.fs.length capf,.string ⟨r.b.toArray⟩,.bool r.c] 78)).alloc (.cells #[.int .i64 200,.slice (some ⟨W.heap.size+1+1,0,none⟩) 1 1,.string ⟨r.b.toArray⟩] 51)) [88,45,77,101,116,104,111,100] r.m 80 (Gr.refl _),((Gr.alloc _ _).alloc1 _).alloc1 _⟩
 by_cases h3:r.p=[47,98,97,100]
 ·have hq:=hid (show serveH r=⟨999,[],[]⟩ by unfold serveH;rw[if_neg h0,if_neg h1,if_neg h2,if_pos h3])
  have b0:(r.p==[47])=false:=beq_false_of_ne h0
  have b1:(r.p==[47,119,115])=false:=beq_false_of_ne h1
  have b2:(r.p==[47,101,99,104,111])=false:=beq_false_of_ne h2
  have b3:(r.p==[47,98,97,100])=true:=beq_iff_eq.2 h3
  clear h0 h1 h2 h3
  go_enter func11,ntmps11
  go_wp2
  refine bodyPost_ret (v:=.agg #[.int .i64 999,.slice none 0 0,.string ⟨#[]⟩]) (by simp[results,results11,go_sem]) rfl ?_
  rw[hq.out]
  exact⟨.slice none 0 0,rfl,fieldsAt_none _ 0,(Gr.alloc _ _).alloc1 _⟩
 have hq:=hid (show serveH r=⟨404,[],[110,111,116,32,102,111,117,110,100]⟩ by unfold serveH;rw[if_neg h0,if_neg h1,if_neg h2,if_neg h3])
 have b0:(r.p==[47])=false:=beq_false_of_ne h0
 have b1:(r.p==[47,119,115])=false:=beq_false_of_ne h1
 have b2:(r.p==[47,101,99,104,111])=false:=beq_false_of_ne h2
 have b3:(r.p==[47,98,97,100])=false:=beq_false_of_ne h3
 clear h0 h1 h2 h3
 go_enter func11,ntmps11
 go_wp2
 refine bodyPost_ret (v:=.agg #[.int .i64 404,.slice none 0 0,.string ⟨#[110,111,116,32,102,111,117,110,100]⟩]) (by simp[results,results11,go_sem]) rfl ?_
 rw[hq.out]
 exact⟨.slice none 0 0,rfl,fieldsAt_none _ 0,(Gr.alloc _ _).alloc1 _⟩
def getB' (p:List UInt8):List UInt8:=[71,69,84,32]++(p++[32,72,84,84,80,47,49,46,49,13,10,72,111,115,116,58,32,97,13,10,13,10])
theorem lget_any (p:List UInt8) (hp:p.length≤100000) (W:World):Calls prog 18 #[.string ⟨p.toArray⟩] W λe w'=>e=.returned (.string ⟨(getB' p).toArray⟩)∧W=w':=by
 have c1:(⟨#[71,69,84,32]⟩:ByteArray)++⟨p.toArray⟩=⟨([71,69,84,32]++p).toArray⟩:=cat_mk _ _
 have c2:(⟨([71,69,84,32]++p).toArray⟩:ByteArray)++⟨#[32,72,84,84,80,47,49,46,49,13,10,72,111,115,116,58,32,97,13,10,13,10]⟩=⟨(getB' p).toArray⟩:=by
  refine (cat_mk ([71,69,84,32]++p) [32,72,84,84,80,47,49,46,49,13,10,72,111,115,116,58,32,97,13,10,13,10]).trans ?_
  unfold getB'
  rw[List.append_assoc]
 have hl:¬9223372036854775807<4+p.length:=by omega
 have hl2:¬9223372036854775807<4+p.length+22:=by omega
 go_enter func18,ntmps18
 go_wp2
 go_ret
 exact⟨rfl,rfl⟩
theorem lask_any (W:World):Calls prog 19 #[] W λe w'=>e=.returned (.string ⟨askL.toArray⟩)∧W=w':=by
 go_enter func19,ntmps19
 go_wp2
 go_ret
 exact⟨rfl,rfl⟩
theorem ltold_any (W:World):Calls prog 33 #[] W λe w'=>e=.returned (.string ⟨toldL.toArray⟩)∧W=w':=by
 go_enter func33,ntmps33
 go_wp2
 go_ret
 exact⟨rfl,rfl⟩
end Go.Proofs.YtadobobfjnmdlaaGreatDoor
namespace Go.Proofs.YtadobobfjnmdlaaGreatDoor
open Go.RowKit
attribute [local go_sem] Oper.semAt_some
def keyB (k0 k1 k2 k3:UInt8) (i:Nat):UInt8:=if i=0 then k0 else if i=1 then k1 else if i=2 then k2 else k3
def maskB (k0 k1 k2 k3:UInt8):Nat→List UInt8→List UInt8
 | _,[]=>[]
 | a,c :: t=>(c^^^keyB k0 k1 k2 k3 a) :: maskB k0 k1 k2 k3 ((a+1) % 4) t
theorem maskB_len (k0 k1 k2 k3:UInt8):∀ (s:List UInt8) (a:Nat),(maskB k0 k1 k2 k3 a s).length=s.length
 | [],_=>rfl
 | _ :: t,a=>by
  unfold maskB
  rw[List.length_cons,List.length_cons,maskB_len k0 k1 k2 k3 t]
theorem maskB_get (k0 k1 k2 k3:UInt8):∀ (s:List UInt8) (a i:Nat) (h:i<s.length),a<4→(maskB k0 k1 k2 k3 a s)[i]?=some (s[i]^^^keyB k0 k1 k2 k3 ((a+i) % 4))
 | c :: t,a,0,h,ha=>by
  unfold maskB
  have:(a+0) % 4=a:=by rw[Nat.add_zero];exact Nat.mod_eq_of_lt ha
  rw[this];rfl
 | c :: t,a,i+1,h,ha=>by
  unfold maskB
  rw[List.getElem?_cons_succ,maskB_get k0 k1 k2 k3 t ((a+1) % 4) i (by simpa using h) (Nat.mod_lt _ (by decide))]
  have:((a+1) % 4+i) % 4=(a+(i+1)) % 4:=by omega
  rw[this];rfl
theorem maskB_zero (s:List UInt8):∀ a,maskB 0 0 0 0 a s=s:=by
 induction s with
 | nil=>intro _;rfl
 | cons c t ih =>
  intro a
  unfold maskB
  rw[ih]
  have:keyB 0 0 0 0 a=0:=by unfold keyB;simp
  rw[this,UInt8.xor_zero]
theorem OwnV.back {B:Nat} {W:World} {v:Value} {l:List UInt8} (h:OwnV 5 B W v (bcells l)):(convert 100 9 v).run prog W=.ok (.string ⟨l.toArray⟩) W:=by
 have hl:(bcells l).length=l.length:=bcells_len l
 by_cases h0:l=[]
 ·subst h0
  rcases h with⟨rfl,_⟩ | ⟨g,cap,cur,fz,rfl,_⟩
  ·exact Lib.run_convert_nil_bytes W _ _ 5 0 underlying100 underlying5 underlying9
  ·exact run_convert_bytes_back (P:=prog) W 100 9 5 ⟨g,0,none⟩ cap [] underlying100 underlying5 underlying9 (λj hj=>absurd hj (Nat.not_lt_zero _))
 ·have hp:0<l.length:=List.length_pos_iff.2 h0
  obtain⟨g,cap,rfl,_,_,hc,_⟩:=h.row (by rw[hl];exact hp)
  rw[hl]
  refine run_convert_bytes_back (P:=prog) W 100 9 5 ⟨g,0,none⟩ cap l underlying100 underlying5 underlying9 (λj hj=>?_)
  have:=hc j (.int .u8 ((l[j]'hj).toNat:Int)) (bcells_get l j hj)
  by_cases e:j=0
  ·subst e;simpa[Addr.add] using this
  ·simp only[Addr.add,e];simpa using this
theorem xor_u8 (c k:UInt8):bits .xor .u8 (c.toNat:Int) (k.toNat:Int)=((c^^^k).toNat:Int):=by
 rw[Go.u8_xor_nat c.toNat k.toNat c.toNat_lt k.toNat_lt,UInt8.toNat_xor]
theorem bcells_snoc (l:List UInt8) (c:UInt8):bcells (l++[c])=bcells l++[.int .u8 (c.toNat:Int)]:=by unfold bcells;rw[List.map_append];rfl
theorem rmask_any (k0 k1 k2 k3:UInt8) (s:List UInt8) (w:World) (hs:s.length≤100000) :
  Calls prog 58 #[.agg #[.int .u8 k0.toNat,.int .u8 k1.toNat,.int .u8 k2.toNat,.int .u8 k3.toNat],.int .i64 0,.string ⟨s.toArray⟩] w λe w'=>e=.returned (.string ⟨(maskB k0 k1 k2 k3 0 s).toArray⟩)∧Gr w w':=by
 obtain⟨W0,hW0⟩:∃ W0,w.alloc (.cells #[.int .u8 k0.toNat,.int .u8 k1.toNat,.int .u8 k2.toNat,.int .u8 k3.toNat] 54)=W0:=⟨_,rfl⟩
 have g0:=hid (show Gr w W0 from hW0▸Gr.alloc w _)
 have hkey:∀ j,j<4→W0.cell? ⟨w.heap.size,j,none⟩=some (.int .u8 (keyB k0 k1 k2 k3 j).toNat):=λj hj=>by
  rw[←hW0]
  match j,hj with
  | 0,_=>exact cell_new7 _ _ _ 0 _ rfl
  | 1,_=>exact cell_new7 _ _ _ 1 _ rfl
  | 2,_=>exact cell_new7 _ _ _ 2 _ rfl
  | 3,_=>exact cell_new7 _ _ _ 3 _ rfl
 have hkey':=hid hkey
 have hz0:=hid (show W0.heap.size=w.heap.size+1 by rw[←hW0];simp)
 have hs':=hid hs
 have hml:=hid (maskB_len k0 k1 k2 k3 s 0)
 have hmg:=hid (λi h=>maskB_get k0 k1 k2 k3 s 0 i h (by decide))
 obtain⟨m,hm⟩:∃ m,maskB k0 k1 k2 k3 0 s=m:=⟨_,rfl⟩
 rw[hm] at hml hmg
 clear hkey hs
 go_enter func58,ntmps58
 go_upto_region 6 with (fail)
 try rw[hW0]
 have hm':=hid hm
 clear hW0 hm
 go_loopw [1,7,8] (λat' b i wr=>∃ k:Nat,k≤s.length∧at'=.int .i64 ((k % 4:Nat):Int)∧i=.int .i64 k∧OwnV 5 (w.heap.size+1) wr b (bcells (m.take k))∧Gr W0 wr) (λ_ _ i _=>s.length - (intOf i).toNat)
 case atStart=>exact⟨0,Nat.zero_le _,rfl,rfl,OwnV.nil _ _ _,Gr.refl _⟩
 case round =>
  obtain⟨k,hk,rfl,rfl,ho,hg⟩:=hrel
  have ho':=hid ho
  have hg':=hid hg
  obtain⟨pb,capb,rfl⟩:=ho.slice
  rw[bcells_len,List.length_take,Nat.min_eq_left (by have:=hml.out;omega)]
  rw[bcells_len,List.length_take,Nat.min_eq_left (by have:=hml.out;omega)] at ho'
  by_cases hlt:k<s.length
  ·have hI:(k:Int)<s.length:=by omega
   obtain⟨c,hc⟩:∃ c,(⟨s.toArray⟩:ByteArray)[k]'(by rw[size_mk];exact hlt)=c:=⟨_,rfl⟩
   obtain⟨a4,ha4⟩:∃ a,k % 4=a:=⟨_,rfl⟩
   have h4:a4<4:=by omega
   have h4I:(a4:Int)<4:=by omega
   obtain⟨kb,hkb⟩:∃ x,keyB k0 k1 k2 k3 a4=x:=⟨_,rfl⟩
   have q:=hg.cell (hkey'.out a4 h4)
   rw[hkb] at q
   have hmk:=hmg.out k hlt
   rw[Nat.zero_add,ha4,hkb] at hmk
   have hsk:s[k]=c:=by rw[←hc];rfl
   rw[hsk] at hmk
   obtain⟨z,hz⟩:∃ z,c^^^kb=z:=⟨_,rfl⟩
   rw[hz] at hmk
   have hxor:bits .xor .u8 (c.toNat:Int) (kb.toNat:Int)=(z.toNat:Int):=by rw[←hz];exact xor_u8 c kb
   have hsn:=hid (show bcells (m.take (k+1))=bcells (m.take k)++[.int .u8 (z.toNat:Int)] by
    rw[List.take_add_one,hmk]
    exact bcells_snoc _ _)
   have hwl:(bcells (m.take k)).length+1=k+1:=by rw[bcells_len,List.length_take,Nat.min_eq_left (by have:=hml.out;omega)]
   have hk6:k+1≤1000000:=by have:=hs'.out;omega
   have hsz:=hid (show w.heap.size+1≤wr.heap.size by have:=Below.size hg;have:=hz0.out;omega)
   have ha4':=hid ha4
   have hql:w.heap.size<wr.heap.size:=cell_lt q
   clear hmk hsk hz hkb ho hg
   rw[ha4]
   clear ha4
   go_upto_region 8 with (fail)
   go_region_held3 (λw'=>w'.cell? ⟨w.heap.size,a4,none⟩=some (.int .u8 kb.toNat)) (go_keep) (first
    |(refine step_app1 (by rfl) (.tmp 20) (.tmp 28) 100 5 (.int .u8 0) (.int .u8 z.toNat) 1 underlying100 infoU8 rfl (by rfl) (w.heap.size+1) (.slice pb k capb) (bcells (m.take k)) (by rfl) (OwnV.drew (OwnV.alloc ho'.out _)) wr.heap.size (by rfl) (cell_one _ _ _) rfl (k+1) hwl hk6 (by decide) (Nat.le_trans hsz.out (by simp)) ?_;intro p6 cap6 w6 hown6 hb5 _;have hb6:=Below.trans (Below.drew ((Below.refl _ wr).alloc hsz.out _)) hb5;have q6:=(Below.cell hb6 (p:=⟨w.heap.size,a4,none⟩) (Nat.lt_succ_self _)).trans q))
   all_goals
    have hown7:=hid (show OwnV 5 (w.heap.size+1) w6 (.slice p6 (k+1) cap6) (bcells (m.take (k+1))) from hsn.out▸hown6)
    have hg7:=hid (show Gr W0 w6 from Below.trans hg'.out (hz0.out.symm▸hb6))
    clear hown6 hb6 hb5 q q6 hc hxor
    by_cases h3:a4=3
    ·subst h3
     go_wp2
     go_roundw
     case rel=>exact⟨k+1,by omega,by have:=ha4'.out;rw[show (k+1) % 4=0 by omega];rfl,by go_num,hown7.out,hg7.out⟩
     case measure=>simp[intOf];omega
    ·have h3I:((a4:Int)+1==4)=false:=beq_false_of_ne (by omega)
     go_wp2
     go_roundw
     case rel=>exact⟨k+1,by omega,by have:=ha4'.out;rw[show (k+1) % 4=a4+1 by omega];go_num,by go_num,hown7.out,hg7.out⟩
     case measure=>simp[intOf];omega
  ·obtain rfl:k=s.length:=by omega
   have hcv:=ho'.out.back
   rw[List.take_of_length_le (by have:=hml.out;omega)] at hcv
   clear ho hg ho' hkey' hmg
   go_wp2
   go_ret
   exact⟨by rw[hm'.out];rfl,g0.out.trans hg'.out⟩
