/-
  Plain laws of sockets: however bytes are cut, a socket tells the same; no program in sight.
-/
import Derived.Test.YtadobobfjnmdlaaGreatDoorEa
set_option linter.unnecessarySimpa false
set_option linter.unusedVariables false
set_option linter.unusedSimpArgs false
set_option maxHeartbeats 16000000
set_option maxRecDepth 100000
open Go.Lib (hid)
open Go.Proofs.Tryz
namespace Go.Proofs.YtadobobfjnmdlaaGreatDoor
theorem getD_app {s:List UInt8} (t:List UInt8) {i:Nat} (h:i<s.length) (d:UInt8):(s++t).getD i d=s.getD i d:=by
 rw[List.getD_eq_getElem?_getD,List.getD_eq_getElem?_getD,List.getElem?_append_left h]
theorem take_app {s:List UInt8} (t:List UInt8) {n:Nat} (h:n≤s.length):(s++t).take n=s.take n:=by
 rw[List.take_append,show n - s.length=0 by omega,List.take_zero,List.append_nil]
theorem drop_app {s:List UInt8} (t:List UInt8) {n:Nat} (h:n≤s.length):(s++t).drop n=s.drop n++t:=by
 rw[List.drop_append,show n - s.length=0 by omega,List.drop_zero]
theorem headH_len {s:List UInt8} {h:Hd} {n:Nat} (e:headH s=some (h,n)):h=mkH s∧n=needH s∧2≤n∧n≤s.length∧sizeH s≤n∧(128≤s.getD 1 0→sizeH s+4=n):=by
 unfold headH at e
 split at e
 ·cases e
 ·rename_i k
  cases e
  refine⟨rfl,rfl,?_,by omega,?_,?_⟩ <;> unfold needH
  ·split <;> (unfold sizeH;omega)
  ·split <;> omega
  ·intro h;rw[if_pos h]
theorem headH_app {s:List UInt8} {h:Hd} {n:Nat} (e:headH s=some (h,n)) (t:List UInt8):headH (s++t)=some (h,n):=by
 obtain⟨rfl,rfl,h2,h3,h4,h5⟩:=headH_len e
 have g0:(s++t).getD 0 0=s.getD 0 0:=getD_app t (by omega) 0
 have g1:(s++t).getD 1 0=s.getD 1 0:=getD_app t (by omega) 0
 have gs:sizeH (s++t)=sizeH s:=by unfold sizeH;rw[g1]
 have gn:needH (s++t)=needH s:=by unfold needH;rw[g1,gs]
 have gl:lenH (s++t)=lenH s:=by unfold lenH;rw[g1,gs,take_app t (by omega)]
 have gk:∀ i,i<4→maskK (s++t) i=maskK s i:=λi hi=>by
  unfold maskK
  rw[g1,gs]
  by_cases hm:128≤s.getD 1 0
  ·rw[if_pos hm,if_pos hm,getD_app t (by have:=h5 hm;omega)]
  ·rw[if_neg hm,if_neg hm]
 unfold headH
 rw[if_neg (by rw[List.length_append,gn];omega),gn]
 unfold mkH
 rw[g0,g1,gs,gl,gk 0 (by decide),gk 1 (by decide),gk 2 (by decide),gk 3 (by decide)]
def wnStep (c:Wn):Option (Wn×Option Wev):=if c.st=3 then none else match frNext c.r with
 |(_,none)=>none
 |(r,some e)=>some (wnTakes { c with r:=r } e)
inductive Drains:Wn→List Wev→Wn→Prop where
 | stop {c:Wn}:wnStep c=none→Drains c [] c
 | quiet {c c1 c':Wn} {l:List Wev}:wnStep c=some (c1,none)→Drains c1 l c'→Drains c l c'
 | tells {c c1 c':Wn} {e:Wev} {l:List Wev}:wnStep c=some (c1,some e)→Drains c1 l c'→Drains c (e :: l) c'
theorem Drains.det {c:Wn} {l:List Wev} {c':Wn} (h:Drains c l c'):∀ {m d},Drains c m d→l=m∧c'=d:=by
 induction h with
 | stop h =>
  intro m d k
  cases k with
  | stop _=>exact⟨rfl,rfl⟩
  | quiet k _=>rw[h] at k;cases k
  | tells k _=>rw[h] at k;cases k
 | quiet h _ ih =>
  intro m d k
  cases k with
  | stop k=>rw[h] at k;cases k
  | quiet k r=>rw[h] at k;cases k;exact ih r
  | tells k _=>rw[h] at k;cases k
 | tells h _ ih =>
  intro m d k
  cases k with
  | stop k=>rw[h] at k;cases k
  | quiet k r=>rw[h] at k;cases k
  | tells k r =>
   rw[h] at k;cases k
   obtain⟨rfl,rfl⟩:=ih r
   exact⟨rfl,rfl⟩
theorem wnTakes_r (c:Wn) (e:Fev) (r:Fr):wnTakes { c with r:=r } e=({ (wnTakes c e).1 with r:=r },(wnTakes c e).2):=by
 cases e with
 | begin' fin op len =>
  unfold wnTakes wnControl wnJoin wnFail
  dsimp only
  repeat' split
  all_goals rfl
 | piece s =>
  unfold wnTakes wnControl wnJoin wnFail
  dsimp only
  repeat' split
  all_goals rfl
 | fin =>
  unfold wnTakes wnControl wnJoin wnFail
  dsimp only
  repeat' split
  all_goals rfl
 | fail=>rfl
theorem frNext_feed {r r':Fr} {e:Fev} (h:frNext r=(r',some e)) (b:List UInt8) (hl:r.st≠0→r.h.len - r.told≤r.inp.length):frNext (frFeed r b)=(frFeed r' b,some e):=by
 unfold frNext at h
 split at h
 ·cases h
 ·rename_i h2
  have hf:frFeed r b={ r with inp:=r.inp++b }:=if_neg h2
  rw[hf]
  unfold frNext
  dsimp only
  rw[if_neg h2]
  split at h
  ·rename_i h0
   rw[if_pos h0]
   cases hh:headH r.inp with
   | none=>rw[hh] at h;cases h
   | some x =>
    obtain⟨d,n⟩:=x
    obtain⟨_,_,_,hn,_,_⟩:=headH_len hh
    rw[hh] at h
    rw[headH_app hh b]
    dsimp only at h ⊢
    split at h
    ·rename_i hm
     rw[if_pos hm]
     cases h
     rw[drop_app b hn]
     rfl
    ·rename_i hm
     rw[if_neg hm]
     cases h
     rfl
  ·rename_i h0
   rw[if_neg h0]
   split at h
   ·rename_i hz
    rw[if_pos hz]
    cases h
    rfl
   ·rename_i hz
    rw[if_neg hz]
    have hle:r.h.len - r.told≤r.inp.length:=hl h0
    split at h
    ·cases h
    ·rename_i hk
     cases h
     have e1:min (r.h.len - r.told) r.inp.length=r.h.len - r.told:=by omega
     have e2:min (r.h.len - r.told) (r.inp++b).length=r.h.len - r.told:=by rw[List.length_append];omega
     rw[e1] at hk ⊢
     rw[e2,if_neg hk,take_app b hle,drop_app b hle]
     unfold frFeed
     rw[if_neg h2]
theorem frNext_size {r r':Fr} {e:Fev} (h:frNext r=(r',some e)):r'.inp.length+(if r'.st=0 then 0 else 1)<r.inp.length+(if r.st=0 then 0 else 1):=by
 unfold frNext at h
 split at h
 ·cases h
 ·split at h
  ·rename_i h0
   rw[if_pos h0]
   cases hh:headH r.inp with
   | none=>rw[hh] at h;cases h
   | some x =>
    obtain⟨d,n⟩:=x
    obtain⟨_,_,h2,hn,_,_⟩:=headH_len hh
    rw[hh] at h
    dsimp only at h
    split at h
    ·cases h
     dsimp only
     rw[List.length_drop,if_neg (by decide)];omega
    ·cases h
     dsimp only
     rw[List.length_nil,if_neg (by decide)];omega
  ·rename_i h0
   rw[if_neg h0]
   split at h
   ·cases h
    dsimp only
    rw[if_pos rfl];omega
   ·split at h
    ·cases h
    ·cases h
     dsimp only
     rw[List.length_drop,if_neg h0];omega
theorem wnStep_at {c c1:Wn} {o:Option Wev} (h:wnStep c=some (c1,o)):c.st≠3∧∃ r e,frNext c.r=(r,some e)∧wnTakes { c with r:=r } e=(c1,o)∧c1.r=r:=by
 unfold wnStep at h
 split at h
 ·cases h
 ·rename_i h3
  refine⟨h3,?_⟩
  split at h
  ·cases h
  ·rename_i r e he
   have h:=Option.some.inj h
   refine⟨r,e,he,h,?_⟩
   have:=wnTakes_r c e r
   rw[h] at this
   exact (congrArg (λx=>x.1.r) this).trans rfl
theorem wnStep_of {c:Wn} {r:Fr} {e:Fev} (h3:c.st≠3) (h:frNext c.r=(r,some e)):wnStep c=some (wnTakes { c with r:=r } e):=by
 unfold wnStep
 rw[if_neg h3,h]
theorem wnStep_none {c:Wn} (h:wnStep c=none):c.st=3∨frNext c.r=(c.r,none):=by
 unfold wnStep at h
 split at h
 ·exact .inl ‹_›
 ·right
  cases e:frNext c.r with
  | mk r o =>
   rw[e] at h
   cases o with
   | some _=>cases h
   | none =>
    have:r=c.r:=by
     unfold frNext at e
     repeat' split at e
     all_goals (first | cases e;rfl | cases e)
    rw[this]
theorem wnStep_size {c c1:Wn} {o:Option Wev} (h:wnStep c=some (c1,o)):wnSize c1<wnSize c:=by
 obtain⟨_,r,e,he,_,hr⟩:=wnStep_at h
 unfold wnSize
 rw[hr]
 exact frNext_size he
theorem Drains.ex:∀ (n:Nat) (c:Wn),wnSize c<n→∃ l c',Drains c l c'
 | 0,_,h=>absurd h (Nat.not_lt_zero _)
 | n+1,c,h=>by
  cases e:wnStep c with
  | none=>exact⟨_,_,.stop e⟩
  | some x =>
   obtain⟨c1,o⟩:=x
   have:=wnStep_size e
   obtain⟨l,c',hd⟩:=Drains.ex n c1 (by omega)
   cases o with
   | none=>exact⟨_,_,.quiet e hd⟩
   | some v=>exact⟨_,_,.tells e hd⟩
theorem Drains.stuck {c:Wn} {l:List Wev} {c':Wn} (h:Drains c l c'):wnStep c'=none:=by
 induction h with
 | stop h=>exact h
 | quiet _ _ ih=>exact ih
 | tells _ _ ih=>exact ih
theorem wnStep_over {c:Wn} (h:c.st=3):wnStep c=none:=if_pos h
theorem Drains.over {c:Wn} (h:c.st=3):Drains c [] c:=.stop (wnStep_over h)
structure Wok (c:Wn):Prop where
 a:c.r.st=0→c.control=0
 b:c.st=1→c.control=0→c.r.st=1→c.j.bad=0∧c.j.begun=true∧c.j.lacks=c.r.h.len - c.r.told
 c:c.r.st≤2
theorem Wok.feed {c:Wn} (h:Wok c) (b:List UInt8):Wok (wnFeed c b):=by
 unfold wnFeed
 split
 ·exact h
 ·unfold frFeed
  split
  ·exact h
  ·exact⟨h.a,h.b,h.c⟩
theorem wn0_ok (limit:Nat):Wok (wn0 limit):=⟨λ_=>rfl,λ_ _ h=>absurd (show (0:Nat)=1 from h) (by decide),(by decide:(0:Nat)≤2)⟩
theorem jnBegin_good {j:Jn} {last:Bool} {op len:Nat} (h:(jnBegin j last op len).bad=0):(jnBegin j last op len).begun=true∧(jnBegin j last op len).lacks=len:=by
 unfold jnBegin at h ⊢
 split
 ·rename_i k
  rw[if_pos k] at h;exact absurd h k
 ·rename_i k
  rw[if_neg k] at h
  split
  ·rename_i k2
   rw[if_pos k2] at h
   unfold jnFail at h
   split at h <;> simp_all
  ·rename_i k2
   rw[if_neg k2] at h
   split
   ·rename_i k3
    rw[if_pos k3] at h
    unfold jnFail at h
    split at h <;> simp_all
   ·split <;> exact⟨rfl,rfl⟩
def jnOn (j:Jn) (s:List UInt8):Jn:={ j with check:=if j.op=1 then feedU j.check s else j.check,lacks:=j.lacks - s.length,text:=j.text++s }
theorem jnOn_two (j:Jn) (s t:List UInt8):jnOn (jnOn j s) t=jnOn j (s++t):=by
 unfold jnOn
 dsimp only
 by_cases ho:j.op=1
 ·simp only[if_pos ho,feedU_app,List.length_append,List.append_assoc,Nat.sub_sub]
 ·simp only[if_neg ho,List.length_append,List.append_assoc,Nat.sub_sub]
theorem jnPiece_good {j:Jn} {s:List UInt8} (h:(jnPiece j s).bad=0):j.bad=0∧j.begun=true∧s.length≤j.lacks∧(j.op=1→(feedU j.check s).bad=false) ∧
  jnPiece j s=jnOn j s:=by
 unfold jnPiece at h ⊢
 by_cases k:j.bad≠0
 ·rw[if_pos k] at h;exact absurd h k
 ·rw[if_neg k] at h ⊢
  have k0:j.bad=0:=Decidable.not_not.1 k
  by_cases k2:(!j.begun||decide (j.lacks<s.length))=true
  ·rw[if_pos k2] at h
   unfold jnFail at h
   rw[if_pos k0] at h;cases h
  ·rw[if_neg k2] at h ⊢
   simp only[Bool.or_eq_true,Bool.not_eq_true',decide_eq_true_eq,not_or,Bool.not_eq_false,Nat.not_lt] at k2
   by_cases k3:j.op=1
   ·rw[if_pos k3] at h ⊢
    by_cases k4:(feedU j.check s).bad=true
    ·rw[if_pos k4] at h
     unfold jnFail at h
     rw[if_pos k0] at h;cases h
    ·rw[if_neg k4]
     exact⟨k0,k2.1,k2.2,λ_=>by simpa using k4,by unfold jnOn;rw[if_pos k3]⟩
   ·rw[if_neg k3]
    exact⟨k0,k2.1,k2.2,λe=>absurd e k3,by unfold jnOn;rw[if_neg k3]⟩
def FevOk (r r':Fr):Fev→Prop
 | .begin' _ _ len=>r.st=0∧r'.st=1∧r'.h.len=len∧r'.told=0
 | .piece s=>r.st≠0∧r.st≠2∧r'={ r with inp:=r.inp.drop s.length,told:=r.told+s.length }∧s.length=min (r.h.len - r.told) r.inp.length∧s.length≠0∧s=maskH r.h r.told (r.inp.take s.length)
 | .fin=>r.st≠0∧r'.st=0
 | .fail=>r'.st=2
theorem frNext_ok {r r':Fr} {e:Fev} (h:frNext r=(r',some e)):FevOk r r' e:=by
 unfold frNext at h
 split at h
 ·cases h
 ·rename_i h2
  split at h
  ·rename_i h0
   cases hh:headH r.inp with
   | none=>rw[hh] at h;cases h
   | some x =>
    obtain⟨d,n⟩:=x
    rw[hh] at h
    dsimp only at h
    split at h
    ·cases h;exact⟨h0,rfl,rfl,rfl⟩
    ·cases h;exact rfl
  ·rename_i h0
   split at h
   ·cases h;exact⟨h0,rfl⟩
   ·split at h
    ·cases h
    ·rename_i hk
     cases h
     have hl:(maskH r.h r.told (r.inp.take (min (r.h.len - r.told) r.inp.length))).length=min (r.h.len - r.told) r.inp.length:=by
      rw[maskH_len,List.length_take];omega
     refine⟨h0,h2,?_,?_,?_,?_⟩
     ·rw[hl]
     ·rw[hl]
     ·rw[hl];exact hk
     ·rw[hl]
theorem Wok.step {c c1:Wn} {o:Option Wev} (hw:Wok c) (h:wnStep c=some (c1,o)):Wok c1:=by
 obtain⟨h3,r,e,he,ht,hr⟩:=wnStep_at h
 have hk:=frNext_ok he
 have hc:=congrArg Prod.fst ht
 dsimp only at hc
 cases e with
 | fail =>
  have hk:r.st=2:=hk
  subst hc
  exact⟨λe=>absurd (hk.symm.trans (hr▸e)) (by decide),λe=>absurd (show (3:Nat)=1 from e) (by decide),by rw[hr,hk];decide⟩
 | begin' fin op len =>
  obtain⟨k0,k1,k2,k3⟩:=hk
  have hc0:=hw.a k0
  refine⟨λe=>absurd (k1.symm.trans (hr▸e)) (by decide),λe1 e2 _=>?_,by rw[hr,k1];decide⟩
  rw[←hc] at e1 e2
  rw[hr,k2,k3,←hc]
  unfold wnTakes at e1 e2 ⊢
  dsimp only at e1 e2 ⊢
  split at e2
  ·rename_i h8
   dsimp only at e2
   omega
  ·rename_i h8
   rw[if_neg h8] at e1 ⊢
   rw[if_neg (λhne=>hne hc0)] at e1 ⊢
   split at e1
   ·exact absurd e1 ‹_›
   ·rename_i h1
    rw[if_neg h1]
    unfold wnJoin at e1 ⊢
    dsimp only at e1 ⊢
    split at e1
    ·cases e1
    ·rename_i hb
     rw[if_neg hb]
     have hb:=Decidable.not_not.1 hb
     exact⟨hb,jnBegin_good hb⟩
 | fin =>
  obtain⟨k0,k1⟩:=hk
  refine⟨λ_=>?_,λ_ _ e=>absurd (k1.symm.trans (hr▸e)) (by decide),by rw[hr,k1];decide⟩
  rw[←hc]
  unfold wnTakes wnControl wnJoin wnFail
  dsimp only
  repeat' split
  all_goals (first | rfl | (rename_i hh _;exact Decidable.not_not.1 hh) | skip)
  all_goals (show c.control=0;omega)
 | piece s =>
  obtain⟨k0,k1,k2,k3,k4,_⟩:=hk
  have hst:r.st=c.r.st:=by rw[k2]
  refine⟨λe=>absurd (hst▸hr▸e) k0,λe1 e2 e3=>?_,by rw[hr,hst];exact hw.c⟩
  rw[←hc] at e1 e2
  have hh:r.h.len - r.told=c.r.h.len - c.r.told - s.length:=by rw[k2];dsimp only;omega
  rw[hr,hh,←hc]
  unfold wnTakes at e1 e2 ⊢
  dsimp only at e1 e2 ⊢
  split at e2
  ·rename_i h8
   exact absurd e2 h8
  ·rename_i h8
   rw[if_neg h8] at e1 ⊢
   split at e1
   ·exact absurd e1 ‹_›
   ·rename_i h1
    rw[if_neg h1]
    obtain⟨j1,j2,j3⟩:=hw.b (Decidable.not_not.1 h1) (Decidable.not_not.1 h8) (by rw[←hst,←hr];exact e3)
    unfold wnJoin at e1 ⊢
    dsimp only at e1 ⊢
    split at e1
    ·cases e1
    ·rename_i hb
     rw[if_neg hb]
     have hb:=Decidable.not_not.1 hb
     obtain⟨g1,g2,g3,g4,g5⟩:=jnPiece_good hb
     dsimp only
     refine⟨hb,?_,?_⟩ <;> rw[g5]
     ·exact g2
     ·exact congrArg (· - s.length) j3
def Same (c d:Wn):Prop:=c=d∨(c.st=3∧d.st=3)
theorem piece_controls {c:Wn} (h:c.control≠0) (s:List UInt8):wnTakes c (.piece s)=({ c with data:=c.data++s },none):=if_pos h
theorem piece_waits {c:Wn} (h:¬c.control≠0) (h1:c.st≠1) (s:List UInt8):wnTakes c (.piece s)=(c,none):=(if_neg h).trans (if_pos h1)
theorem piece_joins {c:Wn} (h:¬c.control≠0) (h1:¬c.st≠1) (s:List UInt8):wnTakes c (.piece s)=if (jnPiece c.j s).bad≠0 then wnFail { c with j:=jnPiece c.j s } (jnPiece c.j s).bad else ({ c with j:=jnPiece c.j s },none):=(if_neg h).trans (if_neg h1)
theorem jnPiece_wrong {j:Jn} {s:List UInt8} (h0:j.bad=0) (h1:j.begun=true) (h2:s.length≤j.lacks) (h:(jnPiece j s).bad≠0):(jnPiece j s).bad=1007∧j.op=1∧(feedU j.check s).bad=true:=by
 unfold jnPiece at h ⊢
 rw[if_neg (λhh=>hh h0)] at h ⊢
 rw[if_neg (by simp[h1];omega)] at h ⊢
 by_cases k:j.op=1
 ·rw[if_pos k] at h ⊢
  by_cases k2:(feedU j.check s).bad=true
  ·rw[if_pos k2]
   unfold jnFail
   rw[if_pos h0]
   exact⟨rfl,k,k2⟩
  ·rw[if_neg k2] at h
   exact absurd h0 h
 ·rw[if_neg k] at h
  exact absurd h0 h
theorem jnPiece_fails {j:Jn} {s:List UInt8} (h0:j.bad=0) (h1:j.begun=true) (h2:s.length≤j.lacks) (h3:j.op=1) (h4:(feedU j.check s).bad=true):(jnPiece j s).bad=1007:=by
 unfold jnPiece
 rw[if_neg (λhh=>hh h0),if_neg (by simp[h1];omega),if_pos h3,if_pos h4]
 unfold jnFail
 rw[if_pos h0]
theorem feedU_still {k:Uk} {s:List UInt8} (t:List UInt8) (h:(feedU k s).bad=true):(feedU k (s++t)).bad=true:=by
 rw[feedU_app,feedU_bad _ h];exact h
theorem piece_two (c:Wn) (s t:List UInt8) (hj:c.control=0→c.st=1→c.j.bad=0∧c.j.begun=true∧s.length+t.length≤c.j.lacks) (h3:c.st≠3) :
  ((wnTakes c (.piece s)).1.st≠3∧(wnTakes c (.piece s)).2=none∧(wnTakes (wnTakes c (.piece s)).1 (.piece t)).2=(wnTakes c (.piece (s++t))).2∧Same (wnTakes (wnTakes c (.piece s)).1 (.piece t)).1 (wnTakes c (.piece (s++t))).1) ∨
  ((wnTakes c (.piece s)).1.st=3∧(wnTakes c (.piece (s++t))).1.st=3∧(wnTakes c (.piece (s++t))).2=(wnTakes c (.piece s)).2):=by
 by_cases hc:c.control≠0
 ·left
  rw[piece_controls hc,piece_controls hc,piece_controls (c:={ c with data:=c.data++s }) hc]
  exact⟨h3,rfl,rfl,.inl (by simp only[List.append_assoc])⟩
 ·by_cases h1:c.st≠1
  ·left
   rw[piece_waits hc h1,piece_waits hc h1,piece_waits hc h1]
   exact⟨h3,rfl,rfl,.inl rfl⟩
  ·obtain⟨j1,j2,j3⟩:=hj (Decidable.not_not.1 hc) (Decidable.not_not.1 h1)
   have j4:(s++t).length≤c.j.lacks:=by rw[List.length_append];exact j3
   rw[piece_joins hc h1,piece_joins hc h1]
   by_cases hb:(jnPiece c.j s).bad≠0
   ·right
    obtain⟨k1,k2,k3⟩:=jnPiece_wrong j1 j2 (by omega) hb
    have k4:=jnPiece_fails j1 j2 j4 k2 (feedU_still t k3)
    rw[if_pos hb,if_pos (by rw[k4];decide),k1,k4]
    exact⟨rfl,rfl,rfl⟩
   ·left
    obtain⟨_,_,_,g4,g5⟩:=jnPiece_good (Decidable.not_not.1 hb)
    rw[if_neg hb]
    rw[piece_joins (c:={ c with j:=jnPiece c.j s }) hc h1]
    dsimp only
    rw[g5]
    refine⟨h3,rfl,?_⟩
    have e0:(jnOn c.j s).bad=0:=j1
    have e1:(jnOn c.j s).begun=true:=j2
    have e2:t.length≤(jnOn c.j s).lacks:=show t.length≤c.j.lacks - s.length by omega
    have e3:(jnOn c.j s).op=c.j.op:=rfl
    have e4:c.j.op=1→(jnOn c.j s).check=feedU c.j.check s:=λh=>if_pos h
    by_cases hd:(jnPiece (jnOn c.j s) t).bad≠0
    ·obtain⟨k1,k2,k3⟩:=jnPiece_wrong e0 e1 e2 hd
     have k2:c.j.op=1:=k2
     rw[e4 k2,←feedU_app] at k3
     have k4:=jnPiece_fails j1 j2 j4 k2 k3
     rw[if_pos hd,if_pos (by rw[k4];decide),k1,k4]
     exact⟨rfl,.inr ⟨rfl,rfl⟩⟩
    ·obtain⟨_,_,_,i4,i5⟩:=jnPiece_good (Decidable.not_not.1 hd)
     have hn:¬(jnPiece c.j (s++t)).bad≠0:=by
      intro he
      obtain⟨_,k2,k3⟩:=jnPiece_wrong j1 j2 j4 he
      have:=i4 k2
      rw[e4 k2,←feedU_app,k3] at this
      cases this
     obtain⟨_,_,_,_,l5⟩:=jnPiece_good (Decidable.not_not.1 hn)
     rw[if_neg hd,if_neg hn,i5,l5,jnOn_two]
     exact⟨rfl,.inl rfl⟩
def fedW (c:Wn) (b:List UInt8):Wn:={ c with r:=frFeed c.r b }
theorem wnFeed_of {c:Wn} (h:c.st≠3) (b:List UInt8):wnFeed c b=fedW c b:=if_neg h
theorem wnFeed_over {c:Wn} (h:c.st=3) (b:List UInt8):wnFeed c b=c:=if_pos h
theorem frFeed_nil (r:Fr):frFeed r []=r:=by unfold frFeed;split <;> simp
theorem wnFeed_nil (c:Wn):wnFeed c []=c:=by unfold wnFeed;rw[frFeed_nil];split <;> rfl
theorem Drains.over_is {c:Wn} {l:List Wev} {d:Wn} (h3:c.st=3) (h:Drains c l d):l=[]∧d=c:=by
 obtain⟨h1,h2⟩:=h.det (Drains.over h3)
 exact⟨h1,h2⟩
theorem Drains.cons {c c1 d:Wn} {o:Option Wev} {l:List Wev} (h:wnStep c=some (c1,o)) (k:Drains c1 l d):Drains c (o.toList++l) d:=by
 cases o with
 | none=>exact .quiet h k
 | some e=>exact .tells h k
theorem Drains.uncons {c c1 d:Wn} {o:Option Wev} {l:List Wev} (h:wnStep c=some (c1,o)) (k:Drains c l d):∃ m,l=o.toList++m∧Drains c1 m d:=by
 cases k with
 | stop e=>rw[h] at e;cases e
 | quiet e r=>rw[h] at e;cases e;exact⟨_,rfl,r⟩
 | tells e r=>rw[h] at e;cases e;exact⟨_,rfl,r⟩
theorem drains_feed:∀ (n:Nat) (c:Wn) (l:List Wev) (c1:Wn),wnSize c<n→Drains c l c1→Wok c→∀ b,∃ m d d',Drains (wnFeed c1 b) m d∧Drains (wnFeed c b) (l++m) d'∧Same d d'
 | 0,_,_,_,h,_,_,_=>absurd h (Nat.not_lt_zero _)
 | n+1,c,l,c1,hn,hd,hw,b=>by
  cases e:wnStep c with
  | none =>
   obtain⟨rfl,rfl⟩:=hd.det (.stop e)
   obtain⟨m,d,hm⟩:=Drains.ex _ (wnFeed c1 b) (Nat.lt_succ_self _)
   exact⟨m,d,d,hm,hm,.inl rfl⟩
  | some x =>
   obtain⟨c2,o⟩:=x
   obtain⟨l2,rfl,hd2⟩:=Drains.uncons e hd
   have hw2:=hw.step e
   have hs2:=wnStep_size e
   obtain⟨h3,r,ev,he,ht,hr⟩:=wnStep_at e
   rw[wnFeed_of h3]
   by_cases hl:c.r.st≠0→c.r.h.len - c.r.told≤c.r.inp.length
   ·have e2:wnStep (fedW c b)=some (fedW c2 b,o):=by
     rw[wnStep_of (c:=fedW c b) h3 (frNext_feed he b hl)]
     have:=wnTakes_r { c with r:=r } ev (frFeed r b)
     rw[ht] at this
     rw[show ({ fedW c b with r:=frFeed r b }:Wn)={ ({ c with r:=r }:Wn) with r:=frFeed r b } from rfl,this,←hr]
     rfl
    by_cases h32:c2.st=3
    ·obtain⟨rfl,rfl⟩:=hd2.over_is h32
     rw[wnFeed_over h32]
     exact⟨[],c1,fedW c1 b,.over h32,by rw[List.append_nil];exact Drains.cons e2 (.over (c:=fedW c1 b) h32),.inr ⟨h32,h32⟩⟩
    ·obtain⟨m,d,d',k1,k2,k3⟩:=drains_feed n c2 l2 c1 (by omega) hd2 hw2 b
     rw[wnFeed_of h32] at k2
     exact⟨m,d,d',k1,by rw[List.append_assoc];exact Drains.cons e2 k2,k3⟩
   ·have hst:c.r.st≠0:=λh=>hl (λk=>absurd h k)
    have hlt:c.r.inp.length<c.r.h.len - c.r.told:=by
     rcases Nat.lt_or_ge c.r.inp.length (c.r.h.len - c.r.told) with h | h
     ·exact h
     ·exact absurd (λ_=>h) hl
    have hst1:c.r.st=1:=by
     have:=hw.c
     have h2:c.r.st≠2:=by
      intro h2
      unfold frNext at he
      rw[if_pos h2] at he
      cases he
     omega
    have hk:=frNext_ok he
    cases ev with
    | begin' fin op len=>exact absurd hk.1 hst
    | fail =>
     have hk:r.st=2:=hk
     unfold frNext at he
     rw[if_neg (by omega),if_neg hst] at he
     split at he
     ·cases he
     ·split at he <;> cases he
    | fin =>
     exfalso
     unfold frNext at he
     rw[if_neg (by omega),if_neg hst] at he
     split at he
     ·rename_i hz;omega
     ·split at he <;> cases he
    | piece s =>
     obtain⟨_,_,k2,k3,k4,k5⟩:=hk
     have hsl:s.length=c.r.inp.length:=by omega
     by_cases hb:b=[]
     ·subst hb
      refine⟨[],c1,c1,?_,?_,.inl rfl⟩
      ·rw[wnFeed_nil];exact .stop hd.stuck
      ·rw[List.append_nil]
       have:fedW c []=c:=by unfold fedW;rw[frFeed_nil]
       rw[this];exact hd
     ·have hbl:0<b.length:=List.length_pos_iff.2 hb
      generalize hk2:min (c.r.h.len - c.r.told - c.r.inp.length) b.length=n2
      generalize hT:maskH c.r.h (c.r.told+c.r.inp.length) (b.take n2)=t
      have htl:t.length=n2:=by rw[←hT,maskH_len,List.length_take];omega
      generalize hR:({ c.r with inp:=b.drop n2,told:=c.r.told+c.r.inp.length+n2 }:Fr)=R
      have hs:s=maskH c.r.h c.r.told c.r.inp:=by rw[k5,hsl,List.take_length]
      have hrr:r={ c.r with inp:=[],told:=c.r.told+c.r.inp.length }:=by rw[k2,hsl,List.drop_length]
      have st2:c.r.st≠2:=by omega
      have f1:frNext (frFeed c.r b)=(R,some (.piece (s++t))):=by
       have hf:frFeed c.r b={ c.r with inp:=c.r.inp++b }:=if_neg st2
       have hm:min (c.r.h.len - c.r.told) (c.r.inp++b).length=c.r.inp.length+n2:=by rw[List.length_append];omega
       rw[hf]
       unfold frNext
       dsimp only
       rw[if_neg st2,if_neg hst,if_neg (by omega),hm,if_neg (by omega)]
       have e1:(c.r.inp++b).take (c.r.inp.length+n2)=c.r.inp++b.take n2:=by
        rw[List.take_append,List.take_of_length_le (by omega),show c.r.inp.length+n2 - c.r.inp.length=n2 by omega]
       have e2:(c.r.inp++b).drop (c.r.inp.length+n2)=b.drop n2:=by
        rw[List.drop_append,List.drop_of_length_le (by omega),List.nil_append,show c.r.inp.length+n2 - c.r.inp.length=n2 by omega]
       rw[e1,e2,maskH_app,←hs,hT,←hR,Nat.add_assoc]
      have f2:frNext (frFeed r b)=(R,some (.piece t)):=by
       have hf:frFeed r b={ c.r with inp:=b,told:=c.r.told+c.r.inp.length }:=by rw[hrr];exact if_neg st2
       have hm:min (c.r.h.len - (c.r.told+c.r.inp.length)) b.length=n2:=by omega
       rw[hf]
       unfold frNext
       dsimp only
       rw[if_neg st2,if_neg hst,if_neg (by omega),hm,if_neg (by omega),hT,←hR]
      have hj:c.control=0→c.st=1→c.j.bad=0∧c.j.begun=true∧s.length+t.length≤c.j.lacks:=λa1 a2=>by
       obtain⟨b1,b2,b3⟩:=hw.b a2 a1 hst1
       exact⟨b1,b2,by rw[b3];omega⟩
      have g0:wnTakes { c with r:=r } (.piece s)=({ (wnTakes c (.piece s)).1 with r:=r },(wnTakes c (.piece s)).2):=wnTakes_r c _ r
      rw[ht] at g0
      have g1:c2={ (wnTakes c (.piece s)).1 with r:=r }:=congrArg Prod.fst g0
      have g2:o=(wnTakes c (.piece s)).2:=congrArg Prod.snd g0
      have q1:wnStep (fedW c b)=some ({ (wnTakes c (.piece (s++t))).1 with r:=R },(wnTakes c (.piece (s++t))).2):=by
       rw[wnStep_of (c:=fedW c b) h3 f1]
       exact congrArg some (wnTakes_r c _ R)
      rcases piece_two c s t hj h3 with⟨p1,p2,p3,p4⟩ | ⟨p1,p2,p3⟩
      ·have hs2:c2.st≠3:=by rw[g1];exact p1
       have hn2:wnStep c2=none:=by
        unfold wnStep
        rw[if_neg hs2]
        have:frNext c2.r=(c2.r,none):=by
         rw[hr,hrr]
         unfold frNext
         dsimp only
         rw[if_neg st2,if_neg hst,if_neg (by omega),if_pos (by rw[List.length_nil];omega)]
        rw[this]
       obtain⟨rfl,rfl⟩:=hd2.det (.stop hn2)
       rw[p2] at g2
       subst g2
       have q2:wnStep (wnFeed c1 b)=some ({ (wnTakes (wnTakes c (.piece s)).1 (.piece t)).1 with r:=R },(wnTakes (wnTakes c (.piece s)).1 (.piece t)).2):=by
        rw[wnFeed_of hs2,wnStep_of (c:=fedW c1 b) hs2 (by rw[show (fedW c1 b).r=frFeed r b by rw[←hr];rfl];exact f2)]
        rw[show ({ fedW c1 b with r:=R }:Wn)={ (wnTakes c (.piece s)).1 with r:=R } by rw[g1];rfl]
        exact congrArg some (wnTakes_r _ _ R)
       rw[p3] at q2
       rcases p4 with p4 | ⟨p4,p5⟩
       ·rw[p4] at q2
        obtain⟨m,d,hm⟩:=Drains.ex _ ({ (wnTakes c (.piece (s++t))).1 with r:=R }:Wn) (Nat.lt_succ_self _)
        exact⟨_,d,d,Drains.cons q2 hm,Drains.cons q1 hm,.inl rfl⟩
       ·exact⟨_,_,_,Drains.cons q2 (.over p4),Drains.cons q1 (.over p5),.inr ⟨p4,p5⟩⟩
      ·have hs2:c2.st=3:=by rw[g1];exact p1
       obtain⟨rfl,rfl⟩:=hd2.over_is hs2
       rw[wnFeed_over hs2]
       rw[p3,←g2] at q1
       refine⟨[],c1,{ (wnTakes c (.piece (s++t))).1 with r:=R },.over hs2,?_,.inr ⟨hs2,p2⟩⟩
       rw[List.append_nil]
       exact Drains.cons q1 (.over (c:={ (wnTakes c (.piece (s++t))).1 with r:=R }) p2)
theorem wnGo_none:∀ (n:Nat) (c c1:Wn),wnSize c<n→wnGo n c=(c1,none)→Drains c [] c1
 | 0,_,_,h,_=>absurd h (Nat.not_lt_zero _)
 | n+1,c,c1,h,e=>by
  unfold wnGo at e
  split at e
  ·cases e;exact .over ‹_›
  ·rename_i h3
   cases hf:frNext c.r with
   | mk r o =>
    rw[hf] at e
    cases o with
    | none =>
     dsimp only at e
     have hn:wnStep c=none:=by unfold wnStep;rw[if_neg h3,hf]
     rcases wnStep_none hn with h4 | h4
     ·exact absurd h4 h3
     ·rw[hf] at h4
      cases h4
      cases e
      exact .stop hn
    | some ev =>
     dsimp only at e
     have hs:=wnStep_of h3 hf
     cases ht:wnTakes { c with r:=r } ev with
     | mk c2 o2 =>
      rw[ht] at e hs
      have:=wnStep_size hs
      cases o2 with
      | none=>exact .quiet hs (wnGo_none n c2 c1 (by omega) e)
      | some x=>cases e
theorem wnGo_some:∀ (n:Nat) (c c1:Wn) (x:Wev),wnGo n c=(c1,some x)→wnSize c1<wnSize c∧(Wok c→Wok c1)∧∀ l c',Drains c1 l c'→Drains c (x :: l) c'
 | 0,_,_,_,e=>by cases e
 | n+1,c,c1,x,e=>by
  unfold wnGo at e
  split at e
  ·cases e
  ·rename_i h3
   cases hf:frNext c.r with
   | mk r o =>
    rw[hf] at e
    cases o with
    | none=>cases e
    | some ev =>
     dsimp only at e
     have hs:=wnStep_of h3 hf
     cases ht:wnTakes { c with r:=r } ev with
     | mk c2 o2 =>
      rw[ht] at e hs
      have hz:=wnStep_size hs
      cases o2 with
      | none =>
       obtain⟨k1,k2,k3⟩:=wnGo_some n c2 c1 x e
       exact⟨by omega,λhw=>k2 (hw.step hs),λl c' hd=>.quiet hs (k3 l c' hd)⟩
      | some y =>
       cases e
       exact⟨hz,λhw=>hw.step hs,λl c' hd=>.tells hs hd⟩
theorem wnNext_none {c c1:Wn} (h:wnNext c=(c1,none)):Drains c [] c1:=wnGo_none _ c c1 (Nat.lt_succ_self _) h
theorem wnNext_some {c c1:Wn} {x:Wev} (h:wnNext c=(c1,some x)):wnSize c1<wnSize c∧(Wok c→Wok c1)∧∀ l c',Drains c1 l c'→Drains c (x :: l) c':=wnGo_some _ c c1 x h
structure FrB (n:Nat) (r:Fr):Prop where
 i:r.inp.length≤n
 h:r.h.len≤9223372036854775807
 t:r.told≤r.h.len
 s:r.st≤2
def fevL:Fev→Nat
 | .piece s=>s.length
 | _=>0
def FevB:Fev→Prop
 | .begin' _ _ n=>n≤9223372036854775807
 | _=>True
theorem mayH_len {m:Bool} {h:Hd} (e:mayH m h=true):h.len≤9223372036854775807:=by
 unfold mayH at e
 simp only[Bool.and_eq_true,decide_eq_true_eq] at e
 exact e.2.2.2.2.2
theorem frNext_none {n:Nat} {r r':Fr} (h:frNext r=(r',none)):r'=r:=by
 unfold frNext at h
 split at h
 ·cases h;rfl
 ·split at h
  ·split at h
   ·cases h;rfl
   ·split at h <;> cases h
  ·split at h
   ·cases h
   ·split at h <;> cases h
    rfl
theorem FrB.next {n:Nat} {r r':Fr} {e:Fev} (hk:FrB n r) (h:frNext r=(r',some e)):FrB (n - fevL e) r'∧r'.inp.length+fevL e≤r.inp.length∧FevB e:=by
 obtain⟨h1,h2,h3,h4⟩:=hk
 unfold frNext at h
 split at h
 ·cases h
 ·split at h
  ·split at h
   ·cases h
   ·rename_i hd m hh
    split at h
    ·rename_i hm
     have:=mayH_len hm
     cases h
     refine⟨⟨?_,this,Nat.zero_le _,(by decide:(1:Nat)≤2)⟩,?_,this⟩ <;> simp only[fevL,List.length_drop] <;> omega
    ·cases h
     refine⟨⟨Nat.zero_le _,h2,h3,Nat.le_refl _⟩,Nat.zero_le _,trivial⟩
  ·split at h
   ·cases h
    exact⟨⟨h1,h2,h3,Nat.zero_le _⟩,Nat.le_refl _,trivial⟩
   ·split at h
    ·cases h
    ·cases h
     refine⟨⟨?_,h2,?_,h4⟩,?_,trivial⟩
     ·simp only[fevL,maskH_len,List.length_take,List.length_drop];omega
     ·dsimp only;omega
     ·simp only[fevL,maskH_len,List.length_take,List.length_drop];omega
structure WnB (n:Nat) (c:Wn):Prop where
 r:FrB n c.r
 d:c.r.inp.length+c.data.length≤n
theorem WnB.le {n m:Nat} {c:Wn} (h:WnB n c) (hm:n≤m):WnB m c:=⟨⟨Nat.le_trans h.r.i hm,h.r.h,h.r.t,h.r.s⟩,Nat.le_trans h.d hm⟩
theorem wn0_b (limit:Nat):WnB 0 (wn0 limit):=⟨⟨Nat.le_refl _,Nat.zero_le _,Nat.le_refl _,(by decide:(0:Nat)≤2)⟩,Nat.le_refl _⟩
theorem WnB.feed {n:Nat} {c:Wn} (h:WnB n c) (b:List UInt8):WnB (n+b.length) (wnFeed c b):=by
 unfold wnFeed
 split
 ·exact h.le (Nat.le_add_right _ _)
 ·unfold frFeed
  split
  ·exact h.le (Nat.le_add_right _ _)
  ·have h1:=h.r.i
   have h2:=h.d
   refine⟨⟨?_,h.r.h,h.r.t,h.r.s⟩,?_⟩ <;> simp only[List.length_append] <;> omega
theorem wnTakes_data (c:Wn) (e:Fev):(wnTakes c e).1.r=c.r∧(wnTakes c e).1.data.length≤c.data.length+fevL e:=by
 unfold wnTakes wnControl wnJoin wnFail
 cases e <;> dsimp only[fevL] <;> (repeat' split) <;> first | exact⟨rfl,Nat.le_refl _⟩ | exact⟨rfl,Nat.le_add_right _ _⟩ | exact⟨rfl,by simp⟩
theorem WnB.step {n:Nat} {c:Wn} {r:Fr} {e:Fev} (h:WnB n c) (hn:frNext c.r=(r,some e)):WnB n (wnTakes { c with r:=r } e).1∧FevB e∧c.data.length+fevL e≤n∧r.inp.length+fevL e≤c.r.inp.length:=by
 obtain⟨h1,h2,h3⟩:=h.r.next hn
 obtain⟨k1,k2⟩:=wnTakes_data { c with r:=r } e
 have hd:=h.d
 dsimp only at k1 k2
 refine⟨⟨by rw[k1];exact⟨by have:=h1.i;omega,h1.h,h1.t,h1.s⟩,by rw[k1];omega⟩,h3,by omega,h2⟩
theorem WnB.go {n:Nat}:∀ (m:Nat) (c:Wn),WnB n c→WnB n (wnGo m c).1
 | 0,c,h=>h
 | m+1,c,h=>by
  unfold wnGo
  split
  ·exact h
  ·cases hn:frNext c.r with
   | mk r o =>
    cases o with
    | none =>
     have:=frNext_none (n:=0) hn
     subst this
     exact h
    | some e =>
     have hs:=(h.step hn).1
     dsimp only
     split
     ·rename_i c' x hx
      rw[hx] at hs
      exact hs
     ·rename_i c' hx
      rw[hx] at hs
      exact WnB.go m c' hs
theorem WnB.next {n:Nat} {c:Wn} (h:WnB n c):WnB n (wnNext c).1:=WnB.go _ c h
