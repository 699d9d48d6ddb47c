/-
  Plain laws of requests: the request with which bytes begin; a parser stands as its bytes say; no program in sight.
-/
import Derived.Test.YtadobobfjnmdlaaGreatDoorYf
import Derived.BigRegion
import Derived.Deep.RegionWith
set_option linter.unnecessarySimpa false
set_option linter.unusedVariables false
set_option linter.unusedSimpArgs false
set_option maxHeartbeats 16000000
set_option maxRecDepth 100000
open Go.Lib (hid)
open Go.Proofs.Tryz
namespace Go.Proofs.YtadobobfjnmdlaaGreatDoor
inductive OneR where
 | more
 | bad (c:Nat)
 | got (r:Rq) (n:Nat)
def oneQ (s:List UInt8):OneR :=
 if decide (0≤Lib.index s eol2)&&decide (Lib.index s eol2+4≤2048) then
  match headQ (splitE (s.take (Lib.index s eol2).toNat)) with
  | .bad c=>.bad c
  | .good r n ch =>
   if ch then
    if (feedC ck0 (s.drop ((Lib.index s eol2).toNat+4))).2.bad≠0 then .bad (feedC ck0 (s.drop ((Lib.index s eol2).toNat+4))).2.bad
    else if (feedC ck0 (s.drop ((Lib.index s eol2).toNat+4))).2.st=4 then .got { r with b:=(feedC ck0 (s.drop ((Lib.index s eol2).toNat+4))).2.data } ((Lib.index s eol2).toNat+4+(feedC ck0 (s.drop ((Lib.index s eol2).toNat+4))).1)
    else .more
   else if s.length<(Lib.index s eol2).toNat+4+n then .more
   else .got { r with b:=(s.drop ((Lib.index s eol2).toNat+4)).take n } ((Lib.index s eol2).toNat+4+n)
 else if 2048≤s.length then .bad 431 else .more
theorem headQ_codes {ls:List (List UInt8)} {c:Nat} (h:headQ ls=.bad c):c=400∨c=413∨c=431:=by
 unfold headQ at h
 dsimp only at h
 repeat' split at h
 all_goals (first | (injection h with h;omega) | cases h)
theorem headQ_body {ls:List (List UInt8)} {r:Rq} {n:Nat} {ch:Bool} (h:headQ ls=.good r n ch):r.b=[]∧n≤4096:=by
 unfold headQ at h
 dsimp only at h
 repeat' split at h
 all_goals (first | (injection h with h1 h2 h3;subst h1;exact⟨rfl,by omega⟩) | cases h)
theorem bad_st {c:Ck} (h:CkOk c) (hb:c.bad≠0):c.st=4:=by
 by_cases e:c.st=4
 ·exact e
 ·exact absurd (h.live e).1 hb
theorem ck0_feed (s:List UInt8):CkOk (feedC ck0 s).2:=feed_ok s ck0_ok
theorem oneQ_codes {s:List UInt8} {c:Nat} (h:oneQ s=.bad c):c=400∨c=413∨c=431:=by
 unfold oneQ at h
 split at h
 ·cases hh:headQ (splitE (s.take (Lib.index s eol2).toNat)) with
  | bad k=>rw[hh] at h;injection h with h;subst h;exact headQ_codes hh
  | good r n ch =>
   rw[hh] at h
   dsimp only at h
   have:=(ck0_feed (s.drop ((Lib.index s eol2).toNat+4))).codes
   repeat' split at h
   all_goals (first | (injection h with h;omega) | cases h)
 ·split at h
  ·injection h with h;omega
  ·cases h
theorem index_app {s:List UInt8} (t:List UInt8) (h:0≤Lib.index s eol2):Lib.index (s++t) eol2=Lib.index s eol2:=by
 obtain⟨k,hk⟩:∃ k:Nat,Lib.index s eol2=k:=⟨(Lib.index s eol2).toNat,by omega⟩
 rcases Lib.index_spec s eol2 with⟨e,_⟩ | ⟨i,e,hi,ho,hno⟩
 ·omega
 ·have h4:=Lib.index_room s eol2 (by rw[e];omega)
  rw[e] at h4 ⊢
  have e4:eol2.length=4:=rfl
  rw[e4] at h4
  have ht:(s++t).take s.length=s:=by simp
  refine index_of ?_ (by rw[List.length_append];omega) (λj hj=>?_)
  ·exact (occ_take (k:=s.length) (by rw[ht];exact ho) (by decide)).1
  ·cases hx:Lib.occAt (s++t) eol2 j with
   | false=>rfl
   | true =>
    have:=occ_into (k:=s.length) hx (by rw[e4];omega)
    rw[ht,hno j hj] at this
    cases this
theorem index_le {s:List UInt8} (h:0≤Lib.index s eol2):(Lib.index s eol2).toNat+4≤s.length:=by
 have h4:=Lib.index_room s eol2 h
 have e4:eol2.length=4:=rfl
 rw[e4] at h4;omega
theorem index_late {s:List UInt8} (t:List UInt8) (hs:2048≤s.length) (h:(decide (0≤Lib.index s eol2)&&decide (Lib.index s eol2+4≤2048))=false):(decide (0≤Lib.index (s++t) eol2)&&decide (Lib.index (s++t) eol2+4≤2048))=false:=by
 by_cases h0:0≤Lib.index s eol2
 ·rw[index_app t h0];exact h
 ·rw[Bool.and_eq_false_iff]
  by_cases h1:0≤Lib.index (s++t) eol2
  ·refine .inr (decide_eq_false λh2=>h0 ?_)
   obtain⟨k,hk⟩:∃ k:Nat,Lib.index (s++t) eol2=k:=⟨(Lib.index (s++t) eol2).toNat,by omega⟩
   have:=index_cut (k:=s.length) hk
   rw[show (s++t).take s.length=s by simp] at this
   rcases this with e | ⟨_,e⟩
   ·-- the head lies within the first 2048 bytes
    rcases Lib.index_spec (s++t) eol2 with⟨e2,_⟩ | ⟨i,e2,hi,ho,hno⟩
    ·omega
    ·rw[hk] at e2
     have hik:i=k:=by omega
     subst hik
     rw[hk] at h2
     have:=occ_into (k:=s.length) ho (by have e4:eol2.length=4:=rfl;rw[e4];omega)
     rw[show (s++t).take s.length=s by simp] at this
     rcases Lib.index_spec s eol2 with⟨_,hno2⟩ | ⟨j,e3,_⟩
     ·have:=hno2 i (by omega)
      simp_all
     ·omega
   ·omega
  ·exact .inl (decide_eq_false h1)
theorem take_app_le {s t:List UInt8} {k:Nat} (h:k≤s.length):(s++t).take k=s.take k:=List.take_append_of_le_length h
theorem drop_app_le {s t:List UInt8} {k:Nat} (h:k≤s.length):(s++t).drop k=s.drop k++t:=List.drop_append_of_le_length h
theorem one_app (s t:List UInt8):match oneQ s with
  | .more=>True
  | .bad c=>oneQ (s++t)=.bad c
  | .got r n=>oneQ (s++t)=.got r n∧n≤s.length∧4≤n:=by
 cases hH:(decide (0≤Lib.index s eol2)&&decide (Lib.index s eol2+4≤2048)) with
 | true =>
  have hH':=hH
  simp only[Bool.and_eq_true,decide_eq_true_eq] at hH
  have hi:=index_app t hH.1
  have hle:=index_le hH.1
  obtain⟨k,hk⟩:∃ k,(Lib.index s eol2).toNat=k:=⟨_,rfl⟩
  have h2:oneQ (s++t)=match headQ (splitE (s.take k)) with
   | .bad c=>.bad c
   | .good r n ch =>
    if ch then
     if (feedC ck0 (s.drop (k+4)++t)).2.bad≠0 then .bad (feedC ck0 (s.drop (k+4)++t)).2.bad
     else if (feedC ck0 (s.drop (k+4)++t)).2.st=4 then .got { r with b:=(feedC ck0 (s.drop (k+4)++t)).2.data } (k+4+(feedC ck0 (s.drop (k+4)++t)).1)
     else .more
    else if s.length+t.length<k+4+n then .more
    else .got { r with b:=(s.drop (k+4)++t).take n } (k+4+n):=by
   unfold oneQ
   rw[hi,hH',if_pos rfl,hk,take_app_le (by omega),drop_app_le (by omega),List.length_append]
  have h1:oneQ s=match headQ (splitE (s.take k)) with
   | .bad c=>.bad c
   | .good r n ch =>
    if ch then
     if (feedC ck0 (s.drop (k+4))).2.bad≠0 then .bad (feedC ck0 (s.drop (k+4))).2.bad
     else if (feedC ck0 (s.drop (k+4))).2.st=4 then .got { r with b:=(feedC ck0 (s.drop (k+4))).2.data } (k+4+(feedC ck0 (s.drop (k+4))).1)
     else .more
    else if s.length<k+4+n then .more
    else .got { r with b:=(s.drop (k+4)).take n } (k+4+n):=by
   unfold oneQ
   rw[hH',if_pos rfl,hk]
  rw[h1,h2]
  rw[hk] at hle
  have hfl:∀ x,(feedC ck0 x).1≤x.length:=λx=>feed_le x ck0
  cases headQ (splitE (s.take k)) with
  | bad c=>rfl
  | good r n ch =>
   dsimp only
   cases ch with
   | true =>
    simp only[if_true]
    have hfa:=feed_app (s.drop (k+4)) t ck0
    have hok:=ck0_feed (s.drop (k+4))
    have hl:=hfl (s.drop (k+4))
    rw[List.length_drop] at hl
    by_cases hb:(feedC ck0 (s.drop (k+4))).2.bad=0
    ·rw[if_neg (by simpa using hb)]
     by_cases h4:(feedC ck0 (s.drop (k+4))).2.st=4
     ·rw[if_pos h4]
      rw[feed_over h4 t] at hfa
      dsimp only
      rw[hfa]
      dsimp only
      rw[if_neg (by simpa using hb),if_pos h4]
      exact⟨rfl,by omega,by omega⟩
     ·rw[if_neg h4];trivial
    ·rw[if_pos hb]
     have h4:=bad_st hok hb
     rw[feed_over h4 t] at hfa
     dsimp only
     rw[hfa]
     dsimp only
     rw[if_pos hb]
   | false =>
    simp only[Bool.false_eq_true,if_false]
    by_cases hn:s.length<k+4+n
    ·rw[if_pos hn];trivial
    ·rw[if_neg hn]
     dsimp only
     rw[if_neg (by omega),List.take_append_of_le_length (by rw[List.length_drop];omega)]
     exact⟨rfl,by omega,by omega⟩
 | false =>
  by_cases h8:2048≤s.length
  ·have h1:oneQ s=.bad 431:=by unfold oneQ;rw[hH,if_neg (by simp),if_pos h8]
   rw[h1]
   dsimp only
   unfold oneQ
   rw[index_late t h8 hH,if_neg (by simp),if_pos (by rw[List.length_append];omega)]
  ·have h1:oneQ s=.more:=by unfold oneQ;rw[hH,if_neg (by simp),if_neg h8]
   rw[h1];trivial
inductive Stands (p:Ps) (s:List UInt8):Prop where
 | wrong (h0:p.bad≠0) (h:∀ t,oneQ (s++t)=.bad p.bad)
 | fresh (h:p={ ps0 with inp:=s })
 | plain (r:Rq) (n:Nat) (h0:p.bad=0) (hh:p.head=true) (hi:(decide (0≤Lib.index s eol2)&&decide (Lib.index s eol2+4≤2048))=true)
   (hq:headQ (splitE (s.take (Lib.index s eol2).toNat))=.good r n false) (hl:p.len=n) (hr:p.r=r) (hc:p.ch=none)
   (hu:p.und=s.take ((Lib.index s eol2).toNat+4)) (hp:p.inp=s.drop ((Lib.index s eol2).toNat+4))
 | chunks (r:Rq) (n:Nat) (c:Ck) (u:List UInt8) (h0:p.bad=0) (hh:p.head=true) (hi:(decide (0≤Lib.index s eol2)&&decide (Lib.index s eol2+4≤2048))=true)
   (hq:headQ (splitE (s.take (Lib.index s eol2).toNat))=.good r n true) (hr:{ p.r with b:=[] }={ r with b:=[] }) (hc:p.ch=some c) (hl:p.len=n)
   (hf:feedC ck0 u=(u.length,c)) (hok:c.st≠4)
   (hu:p.und=s.take ((Lib.index s eol2).toNat+4)++u) (hp:s.drop ((Lib.index s eol2).toNat+4)=u++p.inp)
theorem stands_new:Stands ps0 []:=.fresh rfl
theorem Stands.all {p:Ps} {s:List UInt8} (h:Stands p s) (h0:p.bad=0):p.und++p.inp=s:=by
 cases h with
 | wrong h1=>exact absurd h0 h1
 | fresh h=>subst h;rfl
 | plain r n _ hh hi hq hl hr hc hu hp=>rw[hu,hp,List.take_append_drop]
 | chunks r n c u _ hh hi hq hr hc hl hf hok hu hp=>rw[hu,List.append_assoc,←hp,List.take_append_drop]
theorem Stands.feed {p:Ps} {s:List UInt8} (h:Stands p s) (t:List UInt8):Stands (feedQ p t) (s++t):=by
 cases h with
 | wrong h0 h =>
  unfold feedQ
  rw[if_neg h0]
  exact .wrong h0 (λx=>by rw[List.append_assoc];exact h _)
 | fresh h =>
  subst h
  exact .fresh rfl
 | plain r n h0 hh hi hq hl hr hc hu hp =>
  unfold feedQ
  rw[if_pos h0]
  have hi2:=hi
  simp only[Bool.and_eq_true,decide_eq_true_eq] at hi2
  have ha:=index_app t hi2.1
  have hle:=index_le hi2.1
  refine .plain r n h0 hh (by rw[ha];exact hi) ?_ hl hr hc ?_ ?_
  ·rw[ha,take_app_le (by omega)];exact hq
  ·rw[ha,take_app_le hle];exact hu
  ·rw[ha,drop_app_le hle];dsimp only;rw[hp]
 | chunks r n c u h0 hh hi hq hr hc hl hf hok hu hp =>
  unfold feedQ
  rw[if_pos h0]
  have hi2:=hi
  simp only[Bool.and_eq_true,decide_eq_true_eq] at hi2
  have ha:=index_app t hi2.1
  have hle:=index_le hi2.1
  refine .chunks r n c u h0 hh (by rw[ha];exact hi) ?_ hr hc hl hf hok ?_ ?_
  ·rw[ha,take_app_le (by omega)];exact hq
  ·rw[ha,take_app_le hle];exact hu
  ·rw[ha,drop_app_le hle,hp,List.append_assoc]
theorem one_sticky {s:List UInt8} {c:Nat} (h:oneQ s=.bad c) (t:List UInt8):oneQ (s++t)=.bad c:=by
 have:=one_app s t
 rw[h] at this;exact this
def NextOk (p':Ps) (o:Option Rq) (s:List UInt8):Prop:=match oneQ s with
 | .more=>o=none∧p'.bad=0∧Stands p' s
 | .bad c=>o=none∧p'.bad=c∧Stands p' s
 | .got r n=>o=some r∧p'={ ps0 with inp:=s.drop n }
theorem nextOk_bad {p':Ps} {o:Option Rq} {s:List UInt8} {c:Nat} (h:oneQ s=.bad c) (ho:o=none) (hb:p'.bad=c):NextOk p' o s:=by
 have hc:=oneQ_codes h
 unfold NextOk
 rw[h]
 exact⟨ho,hb,.wrong (by omega) (λt=>by rw[hb];exact one_sticky h t)⟩
theorem body_plain {p:Ps} {s:List UInt8} {r:Rq} {n:Nat} (h0:p.bad=0) (hh:p.head=true) (hi:(decide (0≤Lib.index s eol2)&&decide (Lib.index s eol2+4≤2048))=true)
   (hq:headQ (splitE (s.take (Lib.index s eol2).toNat))=.good r n false) (hl:p.len=n) (hr:p.r=r) (hc:p.ch=none)
   (hu:p.und=s.take ((Lib.index s eol2).toNat+4)) (hp:p.inp=s.drop ((Lib.index s eol2).toNat+4)) :
  NextOk (if (bodyQ p).2 then ({ ps0 with inp:=(bodyQ p).1.inp },some (bodyQ p).1.r) else ((bodyQ p).1,none)).1 (if (bodyQ p).2 then ({ ps0 with inp:=(bodyQ p).1.inp },some (bodyQ p).1.r) else ((bodyQ p).1,none)).2 s:=by
 have hi2:=hi
 simp only[Bool.and_eq_true,decide_eq_true_eq] at hi2
 have hle:=index_le hi2.1
 have hb:bodyQ p=if p.inp.length<p.len then (p,false) else ({ p with r:={ p.r with b:=p.inp.take p.len },inp:=p.inp.drop p.len },true):=by unfold bodyQ;rw[hc]
 have ho:oneQ s=if s.length<(Lib.index s eol2).toNat+4+n then .more else .got { r with b:=(s.drop ((Lib.index s eol2).toNat+4)).take n } ((Lib.index s eol2).toNat+4+n):=by
  unfold oneQ
  rw[hi,if_pos rfl,hq]
  simp
 have hlen:p.inp.length=s.length - ((Lib.index s eol2).toNat+4):=by rw[hp,List.length_drop]
 unfold NextOk
 rw[hb,ho]
 by_cases hs:p.inp.length<p.len
 ·rw[if_pos hs,if_pos (by omega)]
  exact⟨rfl,h0,.plain r n h0 hh hi hq hl hr hc hu hp⟩
 ·rw[if_neg hs,if_neg (by omega)]
  dsimp only
  rw[if_pos rfl]
  refine⟨?_,?_⟩
  ·dsimp only;rw[hr,hp,hl]
  ·dsimp only;rw[hp,hl,List.drop_drop]
theorem body_chunks {p:Ps} {s:List UInt8} {r:Rq} {n:Nat} {c:Ck} {u:List UInt8} (_h0:p.bad=0) (hh:p.head=true) (hi:(decide (0≤Lib.index s eol2)&&decide (Lib.index s eol2+4≤2048))=true)
   (hq:headQ (splitE (s.take (Lib.index s eol2).toNat))=.good r n true) (hr:{ p.r with b:=[] }={ r with b:=[] }) (hc:p.ch=some c) (hl:p.len=n)
   (hf:feedC ck0 u=(u.length,c)) (_hok:c.st≠4)
   (hu:p.und=s.take ((Lib.index s eol2).toNat+4)++u) (hp:s.drop ((Lib.index s eol2).toNat+4)=u++p.inp) :
  NextOk (if (bodyQ p).2 then ({ ps0 with inp:=(bodyQ p).1.inp },some (bodyQ p).1.r) else ((bodyQ p).1,none)).1 (if (bodyQ p).2 then ({ ps0 with inp:=(bodyQ p).1.inp },some (bodyQ p).1.r) else ((bodyQ p).1,none)).2 s:=by
 have hi2:=hi
 simp only[Bool.and_eq_true,decide_eq_true_eq] at hi2
 have hle:=index_le hi2.1
 obtain⟨⟨m,c'⟩,hfc⟩:∃ x,feedC c p.inp=x:=⟨_,rfl⟩
 have hfa:=feed_app u p.inp ck0
 rw[hf] at hfa
 dsimp only at hfa
 rw[hfc,←hp] at hfa
 dsimp only at hfa
 have hcok:=ck0_feed (s.drop ((Lib.index s eol2).toNat+4))
 rw[hfa] at hcok
 dsimp only at hcok
 have hm:=feed_le p.inp c
 rw[hfc] at hm
 dsimp only at hm
 have hb:bodyQ p=({ takesQ p m with ch:=some c',bad:=c'.bad,r:={ p.r with b:=c'.data } },decide (c'.st=4∧c'.bad=0)):=by unfold bodyQ;rw[hc];dsimp only;rw[hfc]
 have ho:oneQ s=if c'.bad≠0 then .bad c'.bad else if c'.st=4 then .got { r with b:=c'.data } ((Lib.index s eol2).toNat+4+(u.length+m)) else .more:=by
  unfold oneQ
  rw[hi,if_pos rfl,hq]
  simp only[if_true]
  rw[hfa]
 by_cases hcb:c'.bad=0
 ·by_cases h4:c'.st=4
  ·rw[if_neg (by simpa using hcb),if_pos h4] at ho
   unfold NextOk
   rw[hb,ho]
   dsimp only
   rw[decide_eq_true (show c'.st=4∧c'.bad=0 from⟨h4,hcb⟩),if_pos rfl]
   refine⟨?_,?_⟩
   ·dsimp only
    have e1:{ p.r with b:=c'.data }={ r with b:=c'.data }:=by
     have:({ ({ p.r with b:=[] }:Rq) with b:=c'.data })={ ({ r with b:=[] }:Rq) with b:=c'.data }:=by rw[hr]
     exact this
    rw[e1]
   ·dsimp only[takesQ]
    have e2:p.inp.drop m=s.drop ((Lib.index s eol2).toNat+4+(u.length+m)):=by
     rw[←List.drop_drop,hp,←List.drop_drop,List.drop_left]
    rw[e2]
  ·rw[if_neg (by simpa using hcb),if_neg h4] at ho
   have hmall:m=p.inp.length:=by
    by_cases e:m<p.inp.length
    ·have:=feed_short p.inp c (by rw[hfc];exact e)
     rw[hfc] at this
     exact absurd this h4
    ·omega
   unfold NextOk
   rw[hb,ho]
   dsimp only
   rw[decide_eq_false (show ¬(c'.st=4∧c'.bad=0) from λe=>h4 e.1),if_neg (by simp)]
   refine⟨rfl,hcb,.chunks r n c' (u++p.inp) hcb hh hi hq ?_ rfl hl ?_ h4 ?_ ?_⟩
   ·exact hr
   ·rw[←hp,hfa,hp,List.length_append,hmall]
   ·dsimp only[takesQ]
    rw[hu,hmall,List.take_length,List.append_assoc]
   ·dsimp only[takesQ]
    rw[hmall,List.drop_length,List.append_nil,hp]
 ·rw[if_pos hcb] at ho
  refine nextOk_bad ho ?_ ?_
  ·rw[hb]
   dsimp only
   rw[decide_eq_false (show ¬(c'.st=4∧c'.bad=0) from λe=>hcb e.2),if_neg (by simp)]
  ·rw[hb]
   dsimp only
   rw[decide_eq_false (show ¬(c'.st=4∧c'.bad=0) from λe=>hcb e.2),if_neg (by simp)]
theorem Stands.next {p:Ps} {s:List UInt8} (h:Stands p s):NextOk (nextQ p).1 (nextQ p).2 s:=by
 cases h with
 | wrong h0 h =>
  have h1:=h []
  rw[List.append_nil] at h1
  have e:nextQ p=(p,none):=by unfold nextQ;rw[if_pos h0]
  rw[e]
  exact nextOk_bad h1 rfl rfl
 | plain r n h0 hh hi hq hl hr hc hu hp =>
  have e:nextQ p=if (bodyQ p).2 then ({ ps0 with inp:=(bodyQ p).1.inp },some (bodyQ p).1.r) else ((bodyQ p).1,none):=by
   unfold nextQ
   rw[if_neg (by simpa using h0)]
   dsimp only
   rw[if_pos hh,hh,if_neg (by simp)]
  rw[e]
  exact body_plain h0 hh hi hq hl hr hc hu hp
 | chunks r n c u h0 hh hi hq hr hc hl hf hok hu hp =>
  have e:nextQ p=if (bodyQ p).2 then ({ ps0 with inp:=(bodyQ p).1.inp },some (bodyQ p).1.r) else ((bodyQ p).1,none):=by
   unfold nextQ
   rw[if_neg (by simpa using h0)]
   dsimp only
   rw[if_pos hh,hh,if_neg (by simp)]
  rw[e]
  exact body_chunks h0 hh hi hq hr hc hl hf hok hu hp
 | fresh h =>
  subst h
  have e:nextQ { ps0 with inp:=s }=if !(headsQ { ps0 with inp:=s }).head then (headsQ { ps0 with inp:=s },none) else if (bodyQ (headsQ { ps0 with inp:=s })).2 then ({ ps0 with inp:=(bodyQ (headsQ { ps0 with inp:=s })).1.inp },some (bodyQ (headsQ { ps0 with inp:=s })).1.r) else ((bodyQ (headsQ { ps0 with inp:=s })).1,none):=by
   unfold nextQ
   rw[if_neg (by simp[ps0])]
   rfl
  rw[e]
  cases hH:(decide (0≤Lib.index s eol2)&&decide (Lib.index s eol2+4≤2048)) with
  | false =>
   by_cases h8:2048≤s.length
   ·have h1:oneQ s=.bad 431:=by unfold oneQ;rw[hH,if_neg (by simp),if_pos h8]
    have h2:headsQ { ps0 with inp:=s }={ ps0 with inp:=s,bad:=431 }:=by
     unfold headsQ
     rw[hH,if_neg (by simp),if_pos h8]
    rw[h2]
    exact nextOk_bad h1 rfl rfl
   ·have h1:oneQ s=.more:=by unfold oneQ;rw[hH,if_neg (by simp),if_neg h8]
    have h2:headsQ { ps0 with inp:=s }={ ps0 with inp:=s }:=by
     unfold headsQ
     rw[hH,if_neg (by simp),if_neg h8]
    rw[h2]
    unfold NextOk
    rw[h1]
    exact⟨rfl,rfl,.fresh rfl⟩
  | true =>
   have hi2:=hH
   simp only[Bool.and_eq_true,decide_eq_true_eq] at hi2
   have hle:=index_le hi2.1
   cases hq:headQ (splitE (s.take (Lib.index s eol2).toNat)) with
   | bad c =>
    have hc:=headQ_codes hq
    have h1:oneQ s=.bad c:=by unfold oneQ;rw[hH,if_pos rfl,hq]
    have h3:readsQ { ps0 with inp:=s } (s.take (Lib.index s eol2).toNat)={ ps0 with inp:=s,bad:=c }:=by unfold readsQ;rw[hq]
    have h2:headsQ { ps0 with inp:=s }={ ps0 with inp:=s,bad:=c }:=by
     unfold headsQ
     rw[hH,if_pos rfl]
     dsimp only
     rw[h3,if_neg (by show ¬c=0;omega)]
    rw[h2]
    exact nextOk_bad h1 rfl rfl
   | good r n ch =>
    have h3:readsQ { ps0 with inp:=s } (s.take (Lib.index s eol2).toNat)={ ps0 with inp:=s,r:=r,len:=n,ch:=if ch then some ck0 else none,bad:=0 }:=by unfold readsQ;rw[hq];rfl
    have h2:headsQ { ps0 with inp:=s }=takesQ { ps0 with inp:=s,r:=r,len:=n,ch:=if ch then some ck0 else none,bad:=0,head:=true } ((Lib.index s eol2).toNat+4):=by
     unfold headsQ
     rw[hH,if_pos rfl]
     dsimp only
     rw[h3,if_pos rfl]
    rw[h2]
    rw[if_neg (by simp[takesQ])]
    have hb:=headQ_body hq
    cases ch with
    | false =>
     refine body_plain rfl rfl hH hq rfl rfl rfl ?_ rfl
     simp[takesQ,ps0]
    | true =>
     refine body_chunks (c:=ck0) (u:=[]) rfl rfl hH hq rfl rfl rfl rfl (by decide) ?_ ?_
     ·simp[takesQ,ps0]
     ·simp[takesQ]
theorem Stands.rest {p:Ps} {s:List UInt8} (h:Stands p s):restQ p=if p.bad≠0 then (p,[]) else (ps0,s):=by
 unfold restQ
 by_cases h0:p.bad=0
 ·rw[if_neg (by simpa using h0),if_neg (by simpa using h0),h.all h0]
 ·rw[if_pos h0,if_pos h0]
theorem one_got {s:List UInt8} {r:Rq} {n:Nat} (h:oneQ s=.got r n):n≤s.length∧4≤n:=by
 have:=one_app s []
 rw[h] at this
 exact this.2
open Go.RowKit
attribute [local go_sem] Oper.semAt_some
theorem PsPost.next {B:Nat} {T T1:Nat→Prop} {W W1 W2:World} {p1 p2:Ps} {fv1 cv1:Value} (h1:PsAt B T1 W1 p1 fv1 cv1) (h2:Ch T W W1) (h3:(∀ k,T1 k→T k∨W.heap.size≤k)∧∀ a n c,fv1=.slice (some a) n c→(∃ n0 c0,W.cell? ⟨B,7,none⟩=some (.slice (some a) n0 c0))∨W.heap.size≤a.block) (k:PsPost B T1 W1 p2 W2):PsPost B T W p2 W2:=by
 obtain⟨T2,fv2,cv2,k1,k2,k3,k4⟩:=k
 obtain⟨h3,h4⟩:=h3
 have hs:=h2.size
 refine⟨T2,fv2,cv2,k1,?_,λj hj=>?_,λa n c e=>(k4 a n c e).elim (λ⟨n0,c0,e2⟩=>h4 a n0 c0 (Option.some.inj (h1.c7.symm.trans e2))) (λe=>.inr (by omega))⟩
 ·refine⟨k2.os.trans h2.os,k2.tape.trans h2.tape,k2.output.trans h2.output,Nat.le_trans h2.size k2.size,λj hj hn=>?_⟩
  have:¬T1 j:=λe=>(h3 j e).elim hn (by omega)
  exact (k2.block j (by omega) this).trans (h2.block j hj hn)
 ·rcases k3 j hj with e | e
  ·exact h3 j e
  ·exact .inr (by omega)
theorem readsP_inp (p:Ps) (ls:List (List UInt8)):(readsP p ls).inp=p.inp∧(readsP p ls).und=p.und:=by
 unfold readsP
 cases headQ ls <;> exact⟨rfl,rfl⟩
theorem heads_any (B:Nat) (T:Nat→Prop) (p:Ps) (fv cv:Value) (w:World) (hG:G w) (h:PsAt B T w p fv cv) (hl:p.inp.length≤90000) (hu:p.und.length≤90000) :
  Calls prog 90 #[.pointer (some ⟨B,0,none⟩)] w λe w'=>e=.returned (.tuple #[])∧PsPost B T w (headsQ p) w':=by
 have hG':=hid hG
 have h':=hid h
 have c0:=h.c0
 have c12:=h.c12
 have fz:=h.fz
 have hix:=hid (index_any p.inp eol2 w hG (by omega))
 by_cases h0:0≤Lib.index p.inp eol2
 ·have hroom:=index_le h0
  obtain⟨k,hk⟩:∃ k:Nat,Lib.index p.inp eol2=k:=⟨_,(Int.toNat_of_nonneg h0).symm⟩
  rw[hk,Int.toNat_natCast] at hroom
  rw[hk] at hix
  by_cases h4:k+4≤2048
  ·obtain⟨x,hx⟩:∃ x,p.inp.take k=x:=⟨_,rfl⟩
   have hxl:x.length≤100000:=by rw[←hx,List.length_take];omega
   have hex:(⟨p.inp.toArray⟩:ByteArray).extract 0 k=⟨x.toArray⟩:=by rw[extract_mk,hx];rfl
   have hqa:headsQ p=if readsN (splitE x)=0 then takesQ { readsP p (splitE x) with bad:=readsN (splitE x),head:=true } (k+4) else { readsP p (splitE x) with bad:=readsN (splitE x) }:=by
    unfold headsQ
    rw[hk,if_pos (by simp;omega),Int.toNat_natCast,hx,readsQ_eq]
   obtain⟨i1,i2⟩:=readsP_inp p (splitE x)
   have hrd:=hid (reads_any B T p fv cv x w hG h hxl)
   unfold ReadsPost at hrd
   obtain⟨n,hn⟩:∃ n,readsN (splitE x)=n:=⟨_,rfl⟩
   obtain⟨p2,hp2⟩:∃ p2,readsP p (splitE x)=p2:=⟨_,rfl⟩
   rw[hn,hp2] at hqa hrd
   rw[hp2] at i1 i2
   have hq:=hid hqa
   have i1':=hid i1
   have i2':=hid i2
   have h4I:(k:Int)+4≤2048:=by omega
   have hkI:(k:Int)≤p.inp.length:=by omega
   clear hx hqa i1 i2 hn hp2 hk h0 h
   go_enter func90,ntmps90
   go_wp2_with fail
   refine hix.out.mono ?_
   rintro e w1⟨rfl,rfl⟩
   go_wp2_with fail
   refine hrd.out.mono ?_
   rintro e w2⟨rfl,T2,fv2,cv2,hP,hC,hS⟩
   have hP':=hid hP
   have hC':=hid hC
   have hS':=hid hS
   replace c12:=hP.c12
   replace fz:=hP.fz
   have c2:=hP.c2
   clear c0 hP hC hS hix hrd hex
   by_cases hn0:n=0
   ·subst hn0
    rw[show ((0:Nat):Int)=0 from rfl]
    have hP3:=hid (show PsAt B T2 ((w2.setCell ⟨B,12,none⟩ (.int .i64 0)).setCell ⟨B,2,none⟩ (.bool true)) { p2 with bad:=0,head:=true } fv2 cv2 from (hP'.out.sbad 0).shead true)
    have htk:=hid (takes_any B T2 { p2 with bad:=0,head:=true } fv2 cv2 (k+4) _ hP3.out (by show k+4≤p2.inp.length;rw[i1'.out];exact hroom) (by show p2.inp.length+p2.und.length≤_;rw[i1'.out,i2'.out];omega))
    rw[show ((k+4:Nat):Int)=(k:Int)+4 by omega] at htk
    go_wp2_with fail
    refine htk.out.mono ?_
    rintro e w3⟨rfl,hp3⟩
    have hp3':=hid hp3
    clear hp3 htk
    go_wp2
    refine bodyPost_ret (v:=.tuple #[]) (by simp[results,results90,go_sem]) rfl ⟨rfl,?_⟩
    rw[hq.out];simp only[if_true]
    exact PsPost.next hP'.out hC'.out hS'.out (PsPost.next hP3.out ((hP'.out.chT _).trans (Ch.setCell _ (a:=⟨B,2,none⟩) hP'.out.tb _)) ⟨λ_ hk=>.inl hk,λa n c e=>.inl ⟨n,c,e▸hP'.out.c7⟩⟩ hp3'.out)
   ·have hnb:((n:Int)==0)=false:=beq_eq_false_iff_ne.2 (by omega)
    have hfin:=hid (show PsPost B T w1 (headsQ p) (w2.setCell ⟨B,12,none⟩ (.int .i64 n)) by
     rw[hq.out,if_neg hn0]
     exact PsPost.next hP'.out hC'.out hS'.out (PsPost.put1 hP'.out _ (hP'.out.sbad n)))
    clear hn0
    go_wp2
    exact bodyPost_ret (v:=.tuple #[]) (by simp[results,results90,go_sem]) rfl ⟨rfl,hfin.out⟩
  ·have hqa:headsQ p=if 2048≤p.inp.length then { p with bad:=431 } else p:=by
    unfold headsQ
    rw[hk,if_neg (by simp;omega)]
   have hlong:2048≤p.inp.length:=by omega
   rw[if_pos hlong] at hqa
   have hq:=hid hqa
   have h4I:¬(k:Int)+4≤2048:=by omega
   have hlI:(2048:Int)≤p.inp.length:=by omega
   clear hqa hk h0 h h4
   go_enter func90,ntmps90
   go_wp2_with fail
   refine hix.out.mono ?_
   rintro e w1⟨rfl,rfl⟩
   go_wp2
   go_end0
   exact⟨rfl,by rw[hq.out];exact PsPost.put1 h'.out _ (h'.out.sbad 431)⟩
 ·have hm:Lib.index p.inp eol2 = -1:=by
   rcases Lib.index_spec p.inp eol2 with⟨e,_⟩ | ⟨i,e,_⟩
   ·exact e
   ·omega
  have hqa:headsQ p=if 2048≤p.inp.length then { p with bad:=431 } else p:=by
   unfold headsQ
   rw[hm,if_neg (by decide)]
  rw[hm] at hix
  by_cases hlong:2048≤p.inp.length
  ·rw[if_pos hlong] at hqa
   have hq:=hid hqa
   have hlI:(2048:Int)≤p.inp.length:=by omega
   clear hqa hm h0 h
   go_enter func90,ntmps90
   go_wp2_with fail
   refine hix.out.mono ?_
   rintro e w1⟨rfl,rfl⟩
   go_wp2
   go_end0
   exact⟨rfl,by rw[hq.out];exact PsPost.put1 h'.out _ (h'.out.sbad 431)⟩
  ·rw[if_neg hlong] at hqa
   have hq:=hid hqa
   have hlI:¬(2048:Int)≤p.inp.length:=by omega
   clear hqa hm h0 h
   go_enter func90,ntmps90
   go_wp2_with fail
   refine hix.out.mono ?_
   rintro e w1⟨rfl,rfl⟩
   go_wp2
   go_end0
   exact⟨rfl,by rw[hq.out];exact PsPost.of_gr h'.out (Gr.refl _)⟩
theorem PsAt.feedC {B b:Nat} {T:Nat→Prop} {W W1:World} {p:Ps} {fv:Value} {c':Ck} {lv dv:Value} (h:PsAt B T W p fv (.pointer (some ⟨b,0,none⟩))) (hF:∀ k,Fp b lv dv k→T k∧k≠B) (hb:5<b) (hok:CkOk c') (hp:RdPost b lv dv W c' W1) :
  ∃ T1,PsAt B T1 W1 { p with ch:=some c' } fv (.pointer (some ⟨b,0,none⟩))∧Ch T W W1∧(∀ k,T1 k→T k∨W.heap.size≤k)∧∀ a n c,fv=.slice (some a) n c→(∃ n0 c0,W.cell? ⟨B,7,none⟩=some (.slice (some a) n0 c0))∨W.heap.size≤a.block:=by
 obtain⟨lv',dv',hR,hC,hS⟩:=hp
 have hz:=hC.size
 have hlt:=h.lt
 have cell:∀ {o v},W.cell? ⟨B,o,none⟩=some v→W1.cell? ⟨B,o,none⟩=some v:=fun {o v} hh=>(hC.cell (p:=⟨B,o,none⟩) h.lt (λe=>(hF B e).2 rfl)).trans hh
 refine⟨λk=>T k∨Fp b lv' dv' k,⟨cell h.c0,cell h.c1,cell h.c2,cell h.c3,cell h.c4,cell h.c5,cell h.c6,cell h.c7,cell h.c8,cell h.c9,cell h.c10,cell h.c11,cell h.c12,
  λo=>(hC.frozen (p:=⟨B,o,none⟩) h.lt (λe=>(hF B e).2 rfl)).trans (h.fz o),h.f.ch hC (λa n c e hk=>h.fo a n c e (hF _ hk).1),?_,?_,.inl h.tb,?_,h.gb,λa n c e=>Nat.lt_of_lt_of_le (h.fb a n c e) hz⟩,hC.mono (λk hk=>(hF k hk).1),?_,λa n c e=>.inl ⟨n,c,e▸h.c7⟩⟩
 ·intro a n c e hk
  rcases hk with hk | hk
  ·exact h.fo a n c e hk
  ·rcases hS _ hk with hk | hk
   ·exact h.fo a n c e (hF _ hk).1
   ·have:=h.fb a n c e;omega
 ·refine⟨b,lv',dv',rfl,hR,hok,hb,λk hk=>⟨.inr hk,?_⟩⟩
  rcases hS k hk with hk | hk
  ·exact (hF k hk).2
  ·omega
 ·intro k hk
  rcases hk with hk | hk
  ·exact⟨(h.tl k hk).1,Nat.lt_of_lt_of_le (h.tl k hk).2 hz⟩
  ·refine⟨?_,(hR.fp_lt k hk).2⟩
   rcases hS k hk with hk | hk
   ·exact (h.tl k (hF k hk).1).1
   ·omega
 ·intro k hk
  rcases hk with hk | hk
  ·exact .inl hk
  ·exact (hS k hk).imp (λhk=>(hF k hk).1) id
theorem PsAt.sbody {B:Nat} {T:Nat→Prop} {W:World} {p:Ps} {fv cv:Value} (h:PsAt B T W p fv cv) (x:List UInt8) :
  PsAt B T (W.setCell ⟨B,8,none⟩ (.string ⟨x.toArray⟩)) { p with r:={ p.r with b:=x } } fv cv:=by
 refine⟨?_,?_,?_,?_,?_,?_,?_,?_,?_,?_,?_,?_,?_,λo=>by simp[go_sem,h.fz],h.f.putB h.fo h.tb 8 _,h.fo,h.ch.put 8 _,h.tb,λk hk=>⟨(h.tl k hk).1,by simpa using (h.tl k hk).2⟩,h.gb,λa n c e=>by simpa using h.fb a n c e⟩
 all_goals simp[go_sem,h.c0,h.c1,h.c2,h.c3,h.c4,h.c5,h.c6,h.c7,h.c8,h.c9,h.c10,h.c11,h.c12]
theorem body_none (B:Nat) (T:Nat→Prop) (p:Ps) (fv cv:Value) (w:World) (h:PsAt B T w p fv cv) (hch:p.ch=none) (_hl:p.inp.length≤90000) :
  Calls prog 91 #[.pointer (some ⟨B,0,none⟩)] w λe w'=>e=.returned (.bool (bodyQ p).2)∧PsPost B T w (bodyQ p).1 w':=by
 have h':=hid h
 have hcv:cv=.pointer none:=by have:=h.ch;rw[hch] at this;exact this
 subst hcv
 have hqa:bodyQ p=if p.inp.length<p.len then (p,false) else ({ p with r:={ p.r with b:=p.inp.take p.len },inp:=p.inp.drop p.len },true):=by unfold bodyQ;rw[hch]
 have c11:=h.c11
 haveI:Nonempty (Later (Gr w)):=⟨⟨w,Gr.refl w⟩⟩
 have t0:∀ x:Later (Gr w),x.w.cell? ⟨B,0,none⟩=some (.string ⟨p.inp.toArray⟩):=λx=>x.ok.cell h.c0
 have t10:∀ x:Later (Gr w),x.w.cell? ⟨B,10,none⟩=some (.int .i64 p.len):=λx=>x.ok.cell h.c10
 by_cases hs:p.inp.length<p.len
 ·rw[if_pos hs] at hqa
  have hq:=hid hqa
  have hsI:(p.inp.length:Int)<p.len:=by omega
  clear hqa hch h hs
  go_enter func91,ntmps91
  go_upto_region 2 with (fail)
  refine wp_region_later (C:=Gr w) (by kernel_rfl) (by kernel_rfl) (Gr.drew' _) ?_
  repeat (go_big_quiet_step (fail))
  refine wpQuiet_nil ?_
  intro w9 hg9
  have hg:=hid hg9
  clear t0 t10 hg9
  go_wp2
  go_ret
  exact⟨by rw[hq.out];rfl,by rw[hq.out];exact PsPost.of_gr h'.out hg.out⟩
 ·rw[if_neg hs] at hqa
  have hsI:(p.len:Int)≤p.inp.length:=by omega
  have hex1:(⟨p.inp.toArray⟩:ByteArray).extract 0 p.len=⟨(p.inp.take p.len).toArray⟩:=by rw[extract_mk];rfl
  have hex2:(⟨p.inp.toArray⟩:ByteArray).extract p.len p.inp.length=⟨(p.inp.drop p.len).toArray⟩:=by rw[extract_mk,List.take_of_length_le (Nat.le_refl _)]
  obtain⟨x1,hx1⟩:∃ x,p.inp.take p.len=x:=⟨_,rfl⟩
  obtain⟨x2,hx2⟩:∃ x,p.inp.drop p.len=x:=⟨_,rfl⟩
  rw[hx1,hx2] at hqa
  rw[hx1] at hex1
  rw[hx2] at hex2
  have hq:=hid hqa
  clear hqa hch h hs hx1 hx2
  go_enter func91,ntmps91
  go_upto_region 2 with (fail)
  refine wp_region_later (C:=Gr w) (by kernel_rfl) (by kernel_rfl) (Gr.drew' _) ?_
  repeat (go_big_quiet_step (fail))
  refine wpQuiet_nil ?_
  intro w9 hg9
  have hg:=hid hg9
  clear hg9
  go_upto_region 4 with (fail)
  have h8:=h'.out.gr hg.out
  have h8':=hid h8
  have c0:=h8.c0
  have c8:=h8.c8
  have c10:=h8.c10
  have fz:=h8.fz
  clear t0 t10 h8
  have hfin:=hid (show PsPost B T w (bodyQ p).1 ((w9.setCell ⟨B,8,none⟩ (.string ⟨x1.toArray⟩)).setCell ⟨B,0,none⟩ (.string ⟨x2.toArray⟩)).drew by
   rw[hq.out]
   exact PsPost.behind (PsPost.ahead h'.out.lt hg.out ⟨T,fv,_,(h8'.out.sbody x1).inp x2,(h8'.out.chT _).trans (Ch.setCell _ (a:=⟨B,0,none⟩) h8'.out.tb _),λ_ hk=>.inl hk,λa n c e=>.inl ⟨n,c,e▸h8'.out.c7⟩⟩) (Gr.drew' _))
  go_region
  go_wp2
  go_ret
  exact⟨by rw[hq.out];rfl,hfin.out⟩
theorem body_some (B:Nat) (T:Nat→Prop) (p:Ps) (fv cv:Value) (c:Ck) (w:World) (hG:G w) (h:PsAt B T w p fv cv) (hch:p.ch=some c) (hl:p.inp.length≤90000) (hu:p.und.length≤90000) :
  Calls prog 91 #[.pointer (some ⟨B,0,none⟩)] w λe w'=>e=.returned (.bool (bodyQ p).2)∧PsPost B T w (bodyQ p).1 w':=by
 have hG':=hid hG
 have h':=hid h
 have hc:=h.ch
 rw[hch] at hc
 obtain⟨b,lv,dv,rfl,hR,hok,hb,hF⟩:=hc
 have hR':=hid hR
 have hF':=hid hF
 have hb':=hid hb
 have hok':=hid hok
 have hqa:bodyQ p=({ takesQ p (feedC c p.inp).1 with ch:=some (feedC c p.inp).2,bad:=(feedC c p.inp).2.bad,r:={ p.r with b:=(feedC c p.inp).2.data } },decide ((feedC c p.inp).2.st=4∧(feedC c p.inp).2.bad=0)):=by unfold bodyQ;rw[hch]
 have hmle:=feed_le p.inp c
 have hok2:=feed_ok p.inp hok
 obtain⟨⟨m,c'⟩,hf⟩:∃ x,feedC c p.inp=x:=⟨_,rfl⟩
 rw[hf] at hqa hmle hok2
 dsimp only at hqa hmle hok2
 have hok3:=hid hok2
 have hf':=hid hf
 have hq:=hid hqa
 have c11:=h.c11
 have c0:=h.c0
 clear hqa hch h hR hF hb hf hok hok2
 have hfd:=hid (λW hg=>cfeed_is b c c' p.inp m hf'.out lv dv W (hG'.out.gr hg) (Nat.lt_of_le_of_lt (by decide) hb'.out) (hR'.out.gr hg) hok'.out (by omega))
 go_enter func91,ntmps91
 go_upto_region 6 with (fail)
 go_region_with (first
  |(go_at_call 108;refine (hfd.out _ (Gr.drew' _)).mono ?_;rintro e w1 ⟨rfl,hp1⟩;obtain⟨T1,hP1,hC1,hS1⟩:=(h'.out.gr (Gr.drew' _)).feedC hF'.out hb'.out hok3.out hp1;have hP1':=hid hP1;have hC1':=hid hC1;have hS1':=hid hS1;clear hp1 hP1 hC1 hS1)
  |(go_at_call 107;refine (takes_any B T1 _ fv _ m _ hP1'.out hmle (by show p.inp.length+p.und.length≤_;omega)).mono ?_;rintro e w2 ⟨rfl,hp2⟩;have hp2':=hid hp2;clear hp2))
 all_goals
  obtain⟨p3,hp3⟩:∃ x,takesQ { p with ch:=some c' } m=x:=⟨_,rfl⟩
  have hfin0:=hid (show ∀ W,PsPost B T1 w1 { { p3 with bad:=c'.bad } with r:={ p3.r with b:=c'.data } } W→PsPost B T w (bodyQ p).1 W from λW hW=>by
   rw[hq.out]
   subst hp3
   exact PsPost.ahead h'.out.lt (Gr.drew' _) (PsPost.next hP1'.out hC1'.out hS1'.out hW))
  have hd:=hid (show (bodyQ p).2=decide (c'.st=4∧c'.bad=0) by rw[hq.out])
  rw[hp3] at hp2'
  obtain⟨T2,fv2,cv2,hP2,hC2,hS2⟩:=hp2'.out
  have hch2:=hP2.ch
  have hc9:p3.ch=some c':=by rw[←hp3];rfl
  rw[hc9] at hch2
  obtain⟨b2,lv2,dv2,hcv,hR2,hokk,hb2,hF2⟩:=hch2
  subst hcv
  replace c11:=hP2.c11
  have c12:=hP2.c12
  have c8:=hP2.c8
  have fz:=hP2.fz
  have hR2':=hid hR2
  have hR3:=hid (show Rd b2 (w2.setCell ⟨B,12,none⟩ (.int .i64 c'.bad)) c' lv2 dv2 from hR2.ch (Ch.putB w2 _) (λk hk hf=>(hF2 k hf).2 hk))
  have hR4:=hid (show Rd b2 ((w2.setCell ⟨B,12,none⟩ (.int .i64 c'.bad)).setCell ⟨B,8,none⟩ (.string ⟨c'.data.toArray⟩)) c' lv2 dv2 from hR3.out.ch (Ch.putB _ _) (λk hk hf=>(hF2 k hf).2 hk))
  have hfin:=hid (hfin0.out _ (PsPost.next hP2 hC2 hS2 ⟨T2,fv2,_,(hP2.sbad c'.bad).sbody c'.data,(hP2.chT _).trans (Ch.setCell _ (a:=⟨B,8,none⟩) hP2.tb _),λ_ hk=>.inl hk,λa n c e=>.inl ⟨n,c,e▸hP2.c7⟩⟩))
  clear hp3 hp2' hP2 hC2 hS2 hc9 hokk hb2 hF2 hR2 hfin0 c0 hP1' hC1' hS1' hfd
  go_wp2_with fail
  refine (bad_any b2 c' lv2 dv2 _ hR2'.out).mono ?_
  rintro e w3⟨rfl,rfl⟩
  go_wp2_with fail
  refine (data_any b2 c' lv2 dv2 _ hR3.out).mono ?_
  rintro e w3⟨rfl,rfl⟩
  go_wp2_with fail
  refine (done_is b2 c' _ rfl lv2 dv2 _ hR4.out).mono ?_
  rintro e w3⟨rfl,rfl⟩
  rw[←hd.out]
  go_wp2
  go_ret
  exact⟨rfl,hfin.out⟩
