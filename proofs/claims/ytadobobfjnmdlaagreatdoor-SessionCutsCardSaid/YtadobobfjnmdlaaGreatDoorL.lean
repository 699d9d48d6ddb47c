/-
  The wake of the statements of package field.
-/
import Derived.Test.YtadobobfjnmdlaaGreatDoorLb
import Derived.Test.YtadobobfjnmdlaaGreatDoorChecked
import Derived.RegionTactic
import Derived.ChangeAlike
set_option linter.unnecessarySimpa false
set_option linter.unusedVariables false
set_option linter.unusedSimpArgs false
set_option maxHeartbeats 16000000
set_option maxRecDepth 100000
open Go.Lib (hid)
open Go.Proofs.Tryz
namespace Go.Proofs.YtadobobfjnmdlaaGreatDoor
open Go.RowKit
theorem get_is (v:Value) (fs:List Fl) (name r:List UInt8) (n:Nat) (h:getB fs name=(r,n)) (w:World) (hG:G w) (hf:FieldsAt w v fs) (hn:fs.length≤9223372036854775807)
  (hl:∀ f∈fs,f.1.length≤9223372036854775807) (hln:name.length≤9223372036854775807) :
  Calls prog 131 #[v,.string ⟨name.toArray⟩] w λe w'=>e=.returned (.tuple #[.string ⟨r.toArray⟩,.int .i64 n])∧Gr w w':=by
 have:=get_any v fs name w hG hf hn hl hln
 rwa [h] at this
theorem alike_is (a b:List UInt8) (r:Bool) (h:alikeB a b=r) (w:World) (hG:G w) (hla:a.length≤9223372036854775807) (hlb:b.length≤9223372036854775807) :
  Calls prog 133 #[.string ⟨a.toArray⟩,.string ⟨b.toArray⟩] w λe w'=>e=.returned (.bool r)∧Gr w w':=h▸alike_any a b w hG hla hlb
theorem has_is (l word:List UInt8) (r:Bool) (h:hasB l word=r) (w:World) (hG:G w) (hl:l.length≤4611686018427387904) (hw:word.length≤9223372036854775807) :
  Calls prog 134 #[.string ⟨l.toArray⟩,.string ⟨word.toArray⟩] w λe w'=>e=.returned (.bool r)∧Gr w w':=h▸has_any l word w hG hl hw
end Go.Proofs.YtadobobfjnmdlaaGreatDoor
namespace Go.Proofs.YtadobobfjnmdlaaGreatDoor
def Rp.V (x:Rp) (t:Value):Value:=.agg #[.int .i64 x.code,t,.string ⟨x.b.toArray⟩]
def Rq.V (r:Rq) (s:Value):Value:=.agg #[.string ⟨r.m.toArray⟩,.string ⟨r.p.toArray⟩,.string ⟨r.q.toArray⟩,.int .i64 r.v,s,.string ⟨r.b.toArray⟩,.bool r.c]
open Go.RowKit
attribute [local go_sem] Oper.semAt_some
def digsQ:List UInt8:=[48,49,50,51,52,53,54,55,56,57]
theorem digs_eqq (c:UInt8):digsQ.contains c=digB c:=by
 refine u8_all (p:=λc=>digsQ.contains c=digB c) ?_ c
 decide +kernel
theorem dw_nilq {α:Type} (p:α→Bool):∀ l:List α,(l.dropWhile p).isEmpty=l.all p
 | []=>rfl
 | a :: t=>by
  cases h:p a
  ·simp[List.dropWhile,h]
  ·simp[List.dropWhile,h,dw_nilq p t]
theorem all_revq {α:Type} (p:α→Bool) (l:List α):l.reverse.all p=l.all p:=by simp
theorem mem_twq {α:Type} {p:α→Bool}:∀ {l:List α} {x:α},x∈l.takeWhile p→p x=true
 | a :: t,x,h=>by
  rw[List.takeWhile_cons] at h
  split at h
  ·rename_i ha
   rcases List.mem_cons.1 h with rfl | h
   ·exact ha
   ·exact mem_twq h
  ·cases h
theorem trims_allq (l cs:List UInt8):(Lib.trimS l cs).isEmpty=l.all (cs.contains ·):=by
 have e:∀ x,(Lib.trimLeftS x cs).isEmpty=x.all (cs.contains ·):=λx=>dw_nilq _ x
 unfold Lib.trimS
 rw[e]
 have h2:Lib.trimRightS l cs=(l.reverse.dropWhile (cs.contains ·)).reverse:=rfl
 rw[h2,all_revq,Bool.eq_iff_iff,List.all_eq_true,List.all_eq_true]
 constructor
 ·intro h x hx
  have hr:x∈l.reverse:=by simpa using hx
  rw[←List.takeWhile_append_dropWhile (p:=(cs.contains ·)) (l:=l.reverse),List.mem_append] at hr
  rcases hr with hr | hr
  ·exact mem_twq hr
  ·exact h x hr
 ·intro h x hx
  exact h x (by simpa using (List.dropWhile_sublist _).subset hx)
theorem trimq_any (l:List UInt8) (w:World) (hl:l.length≤9223372036854775807) :
  Calls prog 162 #[.string ⟨l.toArray⟩,.string ⟨#[48,49,50,51,52,53,54,55,56,57]⟩] w λe w'=>e=.returned (.string ⟨(Lib.trimS l digsQ).toArray⟩)∧Gr w w' :=
 Any.strings_Trim_laid lays160 (by kernel_rfl) ⟨l.toArray⟩ ⟨#[48,49,50,51,52,53,54,55,56,57]⟩ w (by rw[size_mk];exact hl) (by decide) (ascii_of_all (by decide))
def AtoiPost (s:List UInt8) (w:World) (e:Ending) (w':World):Prop:=∃ (v:Int) (ev:Value),e=.returned (.tuple #[.int .i64 v,ev])∧((ev=.nilIface∧numQ s=v)∨((∃ N:Nat,ev=.iface 270 (.pointer (some ⟨N,0,none⟩)))∧numQ s=4097))∧Gr w w'
theorem atoiq_any (l:List UInt8) (hl:l.length≤1000000) (w:World) (hG:G w):Calls prog 163 #[.string ⟨l.toArray⟩] w (AtoiPost l w):=by
 obtain⟨te,pe,hs⟩:=hG.syn
 obtain⟨te2,pe2,hs2⟩:=hG.rng
 cases h:Lib.atoiAll l with
 | ok v=>exact (Tryz.strconv_Atoi_ok ⟨l.toArray⟩ (by rw[size_mk];omega) v h w).mono λ_ _ ⟨he,hw⟩=>⟨v,.nilIface,he,.inl ⟨rfl,by unfold numQ;rw[h]⟩,by
   rcases hw with rfl | ⟨t,rfl⟩
   ·exact Gr.refl _
   ·exact Lib.bytesWorld_below _ _ _⟩
 | range=>exact (Tryz.strconv_Atoi_range ⟨l.toArray⟩ (by rw[size_mk];omega) h (.iface te2 pe2) w hs2 (.inr ⟨te2,pe2,rfl⟩)).mono λ_ _ ⟨N,he,_,_,hb⟩=>⟨_,_,he,.inr ⟨⟨N,rfl⟩,by unfold numQ;rw[h]⟩,hb⟩
 | _=>exact (Tryz.strconv_Atoi_syntax ⟨l.toArray⟩ (by rw[size_mk];omega) h (.iface te pe) w hs (.inr ⟨te,pe,rfl⟩)).mono λ_ _ ⟨N,he,_,_,hb⟩=>⟨0,_,he,.inr ⟨⟨N,rfl⟩,by unfold numQ;rw[h]⟩,hb⟩
theorem line_len2 (l:List UInt8):(lineB l).2.1.length≤l.length:=by
 unfold lineB
 dsimp only
 split
 ·have h1:=cut_le2 l [32]
  have h2:=cut_le1 (Lib.cut l [32]).2.1 [32]
  exact Nat.le_trans h2 h1
 ·simp
def firstQ (s:List UInt8):Rq×Bool:=(⟨(lineB s).1,(targetB (lineB s).2.1).1,(targetB (lineB s).2.1).2.1,(lineB s).2.2.1,[],[],false⟩,(lineB s).2.2.2&&(targetB (lineB s).2.1).2.2)
theorem first_any (s:List UInt8) (w:World) (hG:G w) (hl:s.length≤900000) :
  Calls prog 129 #[.string ⟨s.toArray⟩] w λe w'=>e=.returned (.tuple #[(firstQ s).1.V (.slice none 0 0),.bool (firstQ s).2])∧Gr w w':=by
 have hG':=hid hG
 obtain⟨⟨m,t,v,ok⟩,h1⟩:∃ r,lineB s=r:=⟨_,rfl⟩
 have htl:t.length≤s.length:=by have:=line_len2 s;rw[h1] at this;exact this
 obtain⟨⟨p,q,is⟩,h2⟩:∃ r,targetB t=r:=⟨_,rfl⟩
 have hF:firstQ s=(⟨m,p,q,v,[],[],false⟩,ok&&is):=by unfold firstQ;rw[h1];dsimp only;rw[h2]
 rw[hF]
 unfold Rq.V
 dsimp only
 have c1':=hid (λW h=>line_is s m t v ok h1 W h (by omega))
 have c2':=hid (λW h=>target_is t p q is h2 W h (by omega))
 clear h1 h2 hF hG
 have g0:=hid (Gr.alloc w (.cells #[.string ⟨#[]⟩,.string ⟨#[]⟩,.string ⟨#[]⟩,.int .i64 0,.slice none 0 0,.string ⟨#[]⟩,.bool false] 78))
 have c0:(w.alloc (.cells #[.string ⟨#[]⟩,.string ⟨#[]⟩,.string ⟨#[]⟩,.int .i64 0,.slice none 0 0,.string ⟨#[]⟩,.bool false] 78)).cell? ⟨w.heap.size,0,none⟩=some (.string ⟨#[]⟩):=by simp[go_sem]
 have c1:(w.alloc (.cells #[.string ⟨#[]⟩,.string ⟨#[]⟩,.string ⟨#[]⟩,.int .i64 0,.slice none 0 0,.string ⟨#[]⟩,.bool false] 78)).cell? ⟨w.heap.size,1,none⟩=some (.string ⟨#[]⟩):=by simp[go_sem]
 have c2:(w.alloc (.cells #[.string ⟨#[]⟩,.string ⟨#[]⟩,.string ⟨#[]⟩,.int .i64 0,.slice none 0 0,.string ⟨#[]⟩,.bool false] 78)).cell? ⟨w.heap.size,2,none⟩=some (.string ⟨#[]⟩):=by simp[go_sem]
 have c3:(w.alloc (.cells #[.string ⟨#[]⟩,.string ⟨#[]⟩,.string ⟨#[]⟩,.int .i64 0,.slice none 0 0,.string ⟨#[]⟩,.bool false] 78)).cell? ⟨w.heap.size,3,none⟩=some (.int .i64 0):=by simp[go_sem]
 have c4:(w.alloc (.cells #[.string ⟨#[]⟩,.string ⟨#[]⟩,.string ⟨#[]⟩,.int .i64 0,.slice none 0 0,.string ⟨#[]⟩,.bool false] 78)).cell? ⟨w.heap.size,4,none⟩=some (.slice none 0 0):=by simp[go_sem]
 have c5:(w.alloc (.cells #[.string ⟨#[]⟩,.string ⟨#[]⟩,.string ⟨#[]⟩,.int .i64 0,.slice none 0 0,.string ⟨#[]⟩,.bool false] 78)).cell? ⟨w.heap.size,5,none⟩=some (.string ⟨#[]⟩):=by simp[go_sem]
 have c6:(w.alloc (.cells #[.string ⟨#[]⟩,.string ⟨#[]⟩,.string ⟨#[]⟩,.int .i64 0,.slice none 0 0,.string ⟨#[]⟩,.bool false] 78)).cell? ⟨w.heap.size,6,none⟩=some (.bool false):=by simp[go_sem]
 have f0:∀ o,(w.alloc (.cells #[.string ⟨#[]⟩,.string ⟨#[]⟩,.string ⟨#[]⟩,.int .i64 0,.slice none 0 0,.string ⟨#[]⟩,.bool false] 78)).frozen? ⟨w.heap.size,o,none⟩=false:=λo=>by simp[go_sem]
 have hz:w.heap.size<(w.alloc (.cells #[.string ⟨#[]⟩,.string ⟨#[]⟩,.string ⟨#[]⟩,.int .i64 0,.slice none 0 0,.string ⟨#[]⟩,.bool false] 78)).heap.size:=by simp
 go_enter func129,ntmps129
 go_upto_region 1 with (fail)
 generalize (w.alloc (.cells #[.string ⟨#[]⟩,.string ⟨#[]⟩,.string ⟨#[]⟩,.int .i64 0,.slice none 0 0,.string ⟨#[]⟩,.bool false] 78))=w1 at g0 c0 c1 c2 c3 c4 c5 c6 f0 hz ⊢
 go_wp2_with fail
 refine (c1'.out _ (hG'.out.gr g0.out)).mono ?_
 rintro e w2⟨rfl,hb⟩
 replace c0:=hb.cell c0
 replace c1:=hb.cell c1
 replace c2:=hb.cell c2
 replace c3:=hb.cell c3
 replace c4:=hb.cell c4
 replace c5:=hb.cell c5
 replace c6:=hb.cell c6
 replace f0:=λo=>(Below.frozen hb (show (⟨w.heap.size,o,none⟩:Addr).block<w1.heap.size from hz)).trans (f0 o)
 replace hz:=Nat.lt_of_lt_of_le hz (Below.size hb)
 have g2:=hid (g0.out.trans hb)
 clear hb
 go_wp2_with fail
 refine (c2'.out _ (hG'.out.gr g2.out)).mono ?_
 rintro e w3⟨rfl,hb⟩
 replace c0:=hb.cell c0
 replace c1:=hb.cell c1
 replace c2:=hb.cell c2
 replace c3:=hb.cell c3
 replace c4:=hb.cell c4
 replace c5:=hb.cell c5
 replace c6:=hb.cell c6
 replace f0:=λo=>(Below.frozen hb (show (⟨w.heap.size,o,none⟩:Addr).block<w2.heap.size from hz)).trans (f0 o)
 have g3:=hid (g2.out.trans hb)
 clear hb hz
 have hS:=hid (λv0 v1 v2 v3 v4 v5 v6=>(((((((g3.out.setCell (p:=⟨w.heap.size,0,none⟩) (Nat.le_refl _) v0).setCell (p:=⟨w.heap.size,1,none⟩) (Nat.le_refl _) v1).setCell (p:=⟨w.heap.size,2,none⟩) (Nat.le_refl _) v2).setCell (p:=⟨w.heap.size,3,none⟩) (Nat.le_refl _) v3).setCell (p:=⟨w.heap.size,4,none⟩) (Nat.le_refl _) v4).setCell (p:=⟨w.heap.size,5,none⟩) (Nat.le_refl _) v5).setCell (p:=⟨w.heap.size,6,none⟩) (Nat.le_refl _) v6))
 cases ok with
 | false =>
  go_wp2
  refine bodyPost_ret (v:=.tuple #[.agg #[.string ⟨m.toArray⟩,.string ⟨p.toArray⟩,.string ⟨q.toArray⟩,.int .i64 v,.slice none 0 0,.string ⟨#[]⟩,.bool false],.bool false]) ?_ rfl ⟨rfl,hS.out _ _ _ _ _ _ _⟩
  simp[results,results129,go_sem,c0,c1,c2,c3,c4,c5,c6]
 | true =>
  go_wp2
  refine bodyPost_ret (v:=.tuple #[.agg #[.string ⟨m.toArray⟩,.string ⟨p.toArray⟩,.string ⟨q.toArray⟩,.int .i64 v,.slice none 0 0,.string ⟨#[]⟩,.bool false],.bool is]) ?_ rfl ⟨rfl,hS.out _ _ _ _ _ _ _⟩
  simp[results,results129,go_sem,c0,c1,c2,c3,c4,c5,c6]
theorem any_take_false {α:Type} {l:List α} {p:α→Bool} {k:Nat} (h:(l.take k).any p=false) (hk:k<l.length) (hp:p l[k]=false):(l.take (k+1)).any p=false:=by
 rw[List.take_succ_eq_append_getElem hk,List.any_append,h,List.any_cons,hp];rfl
theorem any_at {α:Type} {l:List α} {p:α→Bool} {k:Nat} (hk:k<l.length) (hp:p l[k]=true):l.any p=true:=by
 rw[List.any_eq_true];exact⟨_,List.getElem_mem hk,hp⟩
theorem length_any (fs:List Fl) (t:Value) (w:World) (hG:G w) (hf:FieldsAt w t fs) (hn:fs.length≤100000) (hs:∀ f∈fs,f.1.length≤900000∧f.2.length≤900000) :
  Calls prog 132 #[t] w λe w'=>e=.returned (.int .i64 (lengthQ fs))∧Gr w w':=by
 have hG':=hid hG
 have hget:=hid (get_any t fs qLen w hG hf (by omega) (λf hm=>by have:=hs f hm;omega) (by decide))
 obtain⟨p,cap,rfl,hc⟩:=hf
 have hc':=hid hc
 have hs':=hid hs
 have hvl:(getB fs qLen).1.length≤900000:=by
  unfold getB
  cases hx:(fs.filter λf=>alikeB f.1 qLen) with
  | nil=>simp
  | cons a b =>
   have hm:a∈fs:=(List.mem_filter.1 (hx▸List.mem_cons_self:a∈fs.filter λf=>alikeB f.1 qLen)).1
   simpa using (hs a hm).2
 have hL:lengthQ fs=if fs.any (λf=>alikeB f.1 qLen&&f.2 != (getB fs qLen).1) then -1 else if (getB fs qLen).2=0 then 0 else if (getB fs qLen).1.isEmpty||!(getB fs qLen).1.all qDig then -1 else numQ (getB fs qLen).1:=rfl
 obtain⟨⟨value,many⟩,hgb⟩:∃ x,getB fs qLen=x:=⟨_,rfl⟩
 rw[hgb] at hget hL hvl
 dsimp only at hget hL hvl
 have hL':=hid hL
 clear hc hs hgb hL hG
 go_enter func132,ntmps132
 go_wp2_with fail
 refine hget.out.mono ?_
 rintro e w1⟨rfl,hb⟩
 have g1:=hid hb
 clear hb
 go_wp2
 go_loopw [16] (λi W=>∃ k:Nat,k≤fs.length∧i=.int .i64 k∧(fs.take k).any (λf=>alikeB f.1 qLen&&f.2 != value)=false∧Gr w W) (λi _=>fs.length - (intOf i).toNat)
 case atStart=>exact⟨0,Nat.zero_le _,rfl,rfl,g1.out⟩
 case round =>
  obtain⟨k,hk,rfl,hany,hg⟩:=hrel
  have hany':=hid hany
  have hg':=hid hg
  clear hany
  by_cases hlt:k<fs.length
  ·obtain⟨b,off,rfl,h1,h2⟩:=hc'.out k hlt
   have d1:=hg.cell h1
   have d2:=hg.cell h2
   have hx9:=hs'.out _ (List.getElem_mem hlt)
   have hbad:=hid (λh=>@any_at _ fs (λf=>alikeB f.1 qLen&&f.2 != value) k hlt h)
   have hgood:=hid (λh=>@any_take_false _ fs (λf=>alikeB f.1 qLen&&f.2 != value) k hany'.out hlt h)
   obtain⟨⟨xn,xv⟩,hx⟩:∃ x,fs[k]=x:=⟨_,rfl⟩
   rw[hx] at d1 d2 hx9 hbad hgood
   dsimp only at d1 d2 hx9 hbad hgood
   have hkI:(k:Int)<fs.length:=by omega
   have q1:=hid (λW hGW=>alike_any xn qLen W hGW (by omega) (by decide))
   obtain⟨a1,ha1⟩:∃ a,alikeB xn qLen=a:=⟨_,rfl⟩
   rw[ha1] at q1 hbad hgood
   clear ha1 hx h1 h2 hg
   have y0:(wr.alloc (.cells #[.string ⟨xn.toArray⟩,.string ⟨xv.toArray⟩] 80)).cell? ⟨wr.heap.size,0,none⟩=some (.string ⟨xn.toArray⟩):=cell_new7 wr [.string ⟨xn.toArray⟩,.string ⟨xv.toArray⟩] _ 0 _ rfl
   have y1:(wr.alloc (.cells #[.string ⟨xn.toArray⟩,.string ⟨xv.toArray⟩] 80)).cell? ⟨wr.heap.size,1,none⟩=some (.string ⟨xv.toArray⟩):=cell_new7 wr [.string ⟨xn.toArray⟩,.string ⟨xv.toArray⟩] _ 1 _ rfl
   have gx:=Gr.alloc wr (.cells #[.string ⟨xn.toArray⟩,.string ⟨xv.toArray⟩] 80)
   go_upto_region 5 with (fail)
   generalize wr.alloc (.cells #[.string ⟨xn.toArray⟩,.string ⟨xv.toArray⟩] 80)=w2 at y0 y1 gx ⊢
   have g2:=hid (hg'.out.trans gx)
   clear gx d1 d2
   go_wp2_with fail
   refine (q1.out _ (hG'.out.gr g2.out)).mono ?_
   rintro e w3⟨rfl,hb⟩
   replace y1:=hb.cell y1
   have g3:=hid (g2.out.trans hb)
   clear hb y0
   cases a1 with
   | false =>
    have hok:=hid (hgood.out rfl)
    go_wp2
    go_roundw
    case rel=>exact⟨k+1,by omega,by go_num,hok.out,g3.out⟩
    case measure=>simp[intOf];omega
   | true =>
    cases hv:(xv==value)
    case true =>
     have hok:=hid (hgood.out (by rw[beq_iff_eq] at hv;rw[hv];simp))
     rw[beq_iff_eq] at hv
     subst hv
     go_wp2
     go_roundw
     case rel=>exact⟨k+1,by omega,by go_num,hok.out,g3.out⟩
     case measure=>simp[intOf];omega
    case false =>
     have hfin:=hid (show lengthQ fs = -1 by rw[hL'.out,hbad.out (by rw[bne,hv];rfl)];rfl)
     go_wp2
     go_ret
     exact⟨by rw[hfin.out];rfl,g3.out⟩
  ·have hkl:k=fs.length:=by omega
   have hkI:¬(k:Int)<fs.length:=by omega
   have hL2:lengthQ fs=if many=0 then 0 else if value.isEmpty||!value.all qDig then -1 else numQ value:=by
    rw[hL'.out]
    have h9:=hany'.out
    rw[hkl,List.take_length] at h9
    rw[h9];rfl
   have hL2':=hid hL2
   clear hL2 hkl hg
   by_cases hm0:many=0
   ·have hfin:=hid (show lengthQ fs=0 by rw[hL2'.out,if_pos hm0])
    subst hm0
    go_wp2
    go_ret
    exact⟨by rw[hfin.out];rfl,hg'.out⟩
   ·have hmI:((many:Int)==0)=false:=beq_eq_false_iff_ne.2 (by omega)
    cases hve:value.isEmpty with
    | true =>
     have hfin:=hid (show lengthQ fs = -1 by rw[hL2'.out,if_neg hm0,hve];rfl)
     clear hm0
     go_wp2
     go_ret
     exact⟨by rw[hfin.out];rfl,hg'.out⟩
    | false =>
     have ht:=hid (λW=>trimq_any value W (by omega))
     have hta:(Lib.trimS value digsQ).isEmpty=value.all qDig:=by
      rw[trims_allq]
      congr 1
      funext c
      exact digs_eqq c
     obtain⟨tt,htt⟩:∃ x,Lib.trimS value digsQ=x:=⟨_,rfl⟩
     rw[htt] at ht hta
     have htt0:=htt
     clear htt htt0
     cases hdg:value.all qDig with
     | false =>
      have hfin:=hid (show lengthQ fs = -1 by rw[hL2'.out,if_neg hm0,hdg,Bool.or_comm];rfl)
      have hte:tt.isEmpty=false:=hta.trans hdg
      clear hm0 hta hdg
      go_wp2_with fail
      refine (ht.out _).mono ?_
      rintro e w2⟨rfl,hb⟩
      have g2:=hid (hg'.out.trans hb)
      clear hb
      go_wp2
      go_ret
      exact⟨by rw[hfin.out];rfl,g2.out⟩
     | true =>
      have hfin:=hid (show lengthQ fs=numQ value by rw[hL2'.out,if_neg hm0,hve,hdg];rfl)
      have hte:tt=[]:=by simpa using hta.trans hdg
      subst hte
      have hat:=hid (λW hGW=>atoiq_any value (by omega) W hGW)
      clear hm0 hta hdg
      go_wp2_with fail
      refine (ht.out _).mono ?_
      rintro e w2⟨rfl,hb⟩
      have g2:=hid (hg'.out.trans hb)
      clear hb
      go_wp2_with fail
      refine (hat.out _ (hG'.out.gr g2.out)).mono ?_
      rintro e w3⟨v,ev,rfl,hv,hb⟩
      have g3:=hid (g2.out.trans hb)
      clear hb
      rcases hv with⟨rfl,hv⟩ | ⟨⟨N,rfl⟩,hv⟩
      ·have hf2:=hid (hfin.out.trans hv)
       clear hv
       go_wp2
       go_ret
       exact⟨by rw[hf2.out];rfl,g3.out⟩
      ·have hf2:=hid (hfin.out.trans hv)
       clear hv
       go_wp2
       go_ret
       exact⟨by rw[hf2.out];rfl,g3.out⟩
end Go.Proofs.YtadobobfjnmdlaaGreatDoor
namespace Go.Proofs.YtadobobfjnmdlaaGreatDoor
open Go.RowKit
theorem hex_cases (c:UInt8) (h:isHex c=true):(48≤(c.toNat:Int)∧(c.toNat:Int)≤57∧(hexD c:Int)=(c.toNat:Int) - 48)∨(58≤(c.toNat:Int)∧(c.toNat:Int)≠95∧10≤hexD c∧hexD c≤15∧bits .or .u8 (c.toNat:Int) 32=((hexD c+87:Nat):Int)):=by
 revert h
 refine u8_all (p:=λc=>isHex c=true→(48≤(c.toNat:Int)∧(c.toNat:Int)≤57∧(hexD c:Int)=(c.toNat:Int) - 48)∨(58≤(c.toNat:Int)∧(c.toNat:Int)≠95∧10≤hexD c∧hexD c≤15∧bits .or .u8 (c.toNat:Int) 32=((hexD c+87:Nat):Int))) ?_ c
 decide +kernel
theorem hexD_le (c:UInt8) (h:isHex c=true):hexD c≤15:=by
 rcases hex_cases c h with⟨_,_,h⟩ | ⟨_,_,_,h,_⟩ <;> omega
theorem hexN_snoc (l:List UInt8) (c:UInt8):hexN (l++[c])=16*hexN l+hexD c:=by simp[hexN]
theorem hexN_lt:∀ (n:Nat) (l:List UInt8),l.length=n→l.all isHex=true→hexN l<16 ^ n
 | 0,l,h,_=>by rw[List.length_eq_zero_iff.1 h];decide
 | n+1,l,h,ha=>by
  have hne:l≠[]:=λe=>by rw[e] at h;cases h
  rw[←List.dropLast_concat_getLast hne,hexN_snoc]
  have h1:=hexN_lt n l.dropLast (by rw[List.length_dropLast];omega) (by
   rw[List.all_eq_true] at ha ⊢;exact λx hx=>ha x (List.dropLast_subset _ hx))
  have h2:=hexD_le (l.getLast hne) (List.all_eq_true.1 ha _ (List.getLast_mem hne))
  rw[Nat.pow_succ];omega
theorem puint_any (l:List UInt8) (h0:l≠[]) (h8:l.length≤8) (hx:l.all isHex=true) (w:World) :
  Calls prog 260 #[.string ⟨l.toArray⟩,.int .i64 16,.int .i64 64] w λe w'=>e=.returned (.tuple #[.int .u64 (hexN l),.nilIface])∧Gr w w':=by
 have hcv:∀ W:World,(convert 9 100 (.string ⟨l.toArray⟩)).run prog W=.ok (.slice (some ⟨W.heap.size,0,none⟩) (ByteArray.size ⟨l.toArray⟩) (grownCap W (ByteArray.size ⟨l.toArray⟩) 0 5)) (Lib.bytesWorld W 5 ⟨l.toArray⟩):=λW =>
  Lib.run_convert_string_bytes W _ _ 5 _ underlying9 underlying100 underlying5
 have he:l.isEmpty=false:=by simpa using h0
 have hx':=hid hx
 clear hx
 go_enter func260,ntmps260
 go_wp2_with fail
 obtain⟨cap,hcap⟩:∃ cap,grownCap w l.length 0 5=cap:=⟨_,rfl⟩
 have hcells:∀ j,(hj:j<l.length)→(Lib.bytesWorld w 5 ⟨l.toArray⟩).cell? ⟨w.heap.size,j,none⟩=some (.int .u8 (l[j].toNat:Int)):=λj hj=>by
  rw[Lib.bytesWorld_cell _ _ _ _ (by rw[size_mk];exact hj)]
  simp[List.getD,hj]
 have hgb:Gr w (Lib.bytesWorld w 5 ⟨l.toArray⟩):=Lib.bytesWorld_below _ _ _
 obtain⟨W0,hW0⟩:∃ W0,Lib.bytesWorld w 5 ⟨l.toArray⟩=W0:=⟨_,rfl⟩
 rw[hW0] at hcells hgb ⊢
 rw[hcap]
 have hcells':=hid hcells
 obtain⟨co,hco⟩:∃ co:Int,(1152921504606846976:Int)=co:=⟨_,rfl⟩
 obtain⟨mv,hmv⟩:∃ mv:Int,IntKind.u64.wrap (IntKind.u64.wrap 18446744073709551616 - 1)=mv:=⟨_,rfl⟩
 have hco1:5000000000<co:=by omega
 have hmv1:5000000000<mv:=by rw[←hmv];decide +kernel
 rw[hco,hmv]
 clear hcv hW0 hcap hcells hco hmv
 go_loop [12,13,101] (λu n i=>∃ k:Nat,k≤l.length∧u=.bool false∧n=.int .u64 (hexN (l.take k))∧i=.int .i64 k) (λ_ _ i=>l.length - (intOf i).toNat)
 case atStart=>exact⟨0,Nat.zero_le _,rfl,rfl,rfl⟩
 case round =>
  obtain⟨k,hk,rfl,rfl,rfl⟩:=hrel
  by_cases hlt:k<l.length
  ·have hc0:=hcells'.out k hlt
   have hxk:=List.all_eq_true.1 hx'.out l[k] (List.getElem_mem hlt)
   have hb:=hexN_lt k (l.take k) (by rw[List.length_take];omega) (by
    rw[List.all_eq_true];exact λx hx=>List.all_eq_true.1 hx'.out x (List.mem_of_mem_take hx))
   have hb2:hexN (l.take k)≤268435455:=by
    have:16 ^ k≤16 ^ 7:=Nat.pow_le_pow_right (by decide) (by omega)
    have e:(16:Nat) ^ 7=268435456:=rfl
    omega
   have hs:=hid (show hexN (l.take (k+1))=16*hexN (l.take k)+hexD l[k] by rw[List.take_succ_eq_append_getElem hlt,hexN_snoc])
   obtain⟨n,hn⟩:∃ n,hexN (l.take k)=n:=⟨_,rfl⟩
   obtain⟨c,hc⟩:∃ c,l[k]=c:=⟨_,rfl⟩
   have hs':=hs.out
   rw[hn,hc] at hs'
   rw[hn] at hb2 ⊢
   rw[hc] at hc0 hxk
   have hs2:=hid hs'
   have hcs:=hex_cases c hxk
   obtain⟨d,hd⟩:∃ d,hexD c=d:=⟨_,rfl⟩
   rw[hd] at hcs
   have hd':=hid hd
   have hbI:(n:Int)≤268435455:=by omega
   clear hs hs' hb hn hc hxk hd hb2
   rcases hcs with⟨a1,a2,a3⟩ | ⟨a1,a2,a3,a4,a5⟩
   ·have a4:((c.toNat:Int)==95)=false:=beq_eq_false_iff_ne.2 (by omega)
    have a3':=hid a3
    clear a3
    go_wp2
    go_round
    case rel=>exact⟨k+1,by omega,rfl,by rw[hs2.out,hd'.out];have:=a3'.out;go_num,by go_num⟩
    case measure=>simp[intOf];omega
   ·have a6:((c.toNat:Int)==95)=false:=beq_eq_false_iff_ne.2 a2
    have hlow:=hid (λW=>(Tryz.internal_strconv_lower (c.toNat:Int) W).mono (λe w' ⟨he,hw⟩=>(show e=Ending.returned (.int .u8 ((d+87:Nat):Int))∧W=w' from⟨by rw[he,a5],hw.symm⟩)))
    have hdI:(d:Int)≤15:=by omega
    have hdI2:10≤(d:Int):=by omega
    clear a2 a5
    go_wp2_with fail
    refine (hlow.out _).mono ?_
    rintro e w1⟨rfl,rfl⟩
    go_wp2_with fail
    refine (hlow.out _).mono ?_
    rintro e w1⟨rfl,rfl⟩
    go_wp2_with fail
    refine (hlow.out _).mono ?_
    rintro e w1⟨rfl,rfl⟩
    go_wp2
    go_round
    case rel=>exact⟨k+1,by omega,rfl,by rw[hs2.out,hd'.out];go_num,by go_num⟩
    case measure=>simp[intOf];omega
  ·obtain rfl:k=l.length:=by omega
   rw[List.take_length]
   go_wp2
   go_ret2
   exact⟨rfl,hgb⟩
structure Rd (b:Nat) (W:World) (c:Ck) (lv dv:Value):Prop where
 c0:W.cell? ⟨b,0,none⟩=some (.int .i64 c.st)
 c1:W.cell? ⟨b,1,none⟩=some lv
 c2:W.cell? ⟨b,2,none⟩=some (.int .i64 c.left)
 c3:W.cell? ⟨b,3,none⟩=some dv
 c4:W.cell? ⟨b,4,none⟩=some (.int .i64 c.nf)
 c5:W.cell? ⟨b,5,none⟩=some (.int .i64 c.tail)
 c6:W.cell? ⟨b,6,none⟩=some (.int .i64 c.bad)
 fz:∀ o,W.frozen? ⟨b,o,none⟩=false
 l:OwnB (b+1) W lv c.line
 d:OwnB (b+1) W dv c.data
 ne:∀ k,lv.ownBlock=some k→dv.ownBlock=some k→False
def Fp (b:Nat) (lv dv:Value) (k:Nat):Prop:=k=b∨lv.ownBlock=some k∨dv.ownBlock=some k
theorem Rd.lt {b:Nat} {W:World} {c:Ck} {lv dv:Value} (h:Rd b W c lv dv):b<W.heap.size:=cell_lt h.c0
theorem Rd.fp_lt {b:Nat} {W:World} {c:Ck} {lv dv:Value} (h:Rd b W c lv dv) (k:Nat) (hk:Fp b lv dv k):b≤k∧k<W.heap.size:=by
 rcases hk with rfl | hk | hk
 ·exact⟨Nat.le_refl _,h.lt⟩
 ·have:=h.l.lt k hk;omega
 ·have:=h.d.lt k hk;omega
theorem Rd.ch {b:Nat} {W W':World} {c:Ck} {lv dv:Value} {T:Nat→Prop} (h:Rd b W c lv dv) (hc:Ch T W W') (hT:∀ k,T k→¬Fp b lv dv k):Rd b W' c lv dv:=by
 have hb:¬T b:=λe=>hT b e (.inl rfl)
 have cell:∀ {o v},W.cell? ⟨b,o,none⟩=some v→W'.cell? ⟨b,o,none⟩=some v:=fun {o v} hh=>(hc.cell (p:=⟨b,o,none⟩) h.lt hb).trans hh
 have row:∀ {v l},OwnB (b+1) W v l→(∀ k,v.ownBlock=some k→¬T k)→OwnB (b+1) W' v l:=fun {v l} hh hn=>by
  obtain⟨h1,h2⟩:=hh
  refine⟨h1,?_⟩
  rcases h2 with h2 | ⟨g,cap,cur,rfl,hb,hh,hn2,hm,hcs,ht⟩
  ·exact .inl h2
  ·exact .inr ⟨g,cap,cur,rfl,hb,hc.get hh (hn g rfl),hn2,hm,hcs,ht⟩
 exact⟨cell h.c0,cell h.c1,cell h.c2,cell h.c3,cell h.c4,cell h.c5,cell h.c6,λo=>(hc.frozen (p:=⟨b,o,none⟩) h.lt hb).trans (h.fz o),
  row h.l (λk hk ht=>hT k ht (.inr (.inl hk))),row h.d (λk hk ht=>hT k ht (.inr (.inr hk))),h.ne⟩
theorem Rd.gr {b:Nat} {W W':World} {c:Ck} {lv dv:Value} (h:Rd b W c lv dv) (hg:Gr W W'):Rd b W' c lv dv:=h.ch (hg.to_ch (λ_=>False)) (λ_ h=>h.elim)
def RdPost (b:Nat) (lv dv:Value) (W:World) (c':Ck) (W':World):Prop :=
 ∃ lv' dv',Rd b W' c' lv' dv'∧Ch (Fp b lv dv) W W'∧∀ k,Fp b lv' dv' k→Fp b lv dv k∨W.heap.size≤k
theorem append_string_at {P:Program} (w:World) (base:Nat) (t u ty e:TypeId) (i:TypeInfo) (ht:P.underlying t=some (.slice e)) (hu:P.underlying u=some .string) (hi:P.info? e=some i) (hz:i.zero=some (.int .u8 0))
  (hsize:i.size=1) (hby:i.bytes=1) (v:Value) (n:Nat) (xs:List Value) (hown:w.ownsRow base e 1 v n xs) (s:ByteArray)
  (h63:n+s.size≤maxLen) (hbytes:n+s.size≤140737488355328) (hbase:base≤w.heap.size) :
  ∃ v' w',(Builtin.append_ #[t,u] ty #[v,.string s]).run P w=.ok v' w'∧w'.ownsRow base e 1 v' (n+s.size) (xs++Lib.strCells s)∧w.grownBy w' v.ownBlock∧(v'.ownBlock=v.ownBlock∨v'.ownBlock=some w.heap.size):=by
 obtain⟨v',w',hr,h2,h3,h4⟩:=Lib.run_append_own_string (P:=P) w base t u ty e i ht hu hi hz hsize hby v n xs hown s h63 hbytes hbase
 refine⟨v',w',hr,h2,h3,?_⟩
 have hsmall:n+s.size≤9223372036854775807:=by simp only[maxLen] at h63;omega
 have hxl:xs.length=n:=by simpa using hown.1
 rcases hown.2 with⟨rfl,rfl⟩ | ⟨g,cap,cur,rfl,hbg,hg,hnc,hcm,hcs,htake⟩
 ·by_cases hm:s.size=0
  ·rw[h4.2 ⟨rfl,hm⟩];exact .inl rfl
  ·have hr2:=run_append_nil_string (P:=P) w t u ty e i (.int .u8 0) ht hu hi hz s (by omega) (by omega) (by rw[hby];omega)
   rw[hr2] at hr
   injection hr with e1 _
   rw[←e1];exact .inr rfl
 ·by_cases hroom:n+s.size≤cap
  ·have hcs':cur.size=cap:=by simpa using hcs
   have hr2:=Lib.run_append_room_string (P:=P) w t u ty e i ht hu hi hsize g n cap cur hg s hroom (by omega)
   rw[hr2] at hr
   injection hr with e1 _
   rw[←e1];exact .inl rfl
  ·have holds:∀ j u,xs[j]?=some u→w.cell? ((⟨g,0,none⟩:Addr).add j)=some u:=hown.cells (g:=g) rfl
   have hr2:=Lib.run_append_grow_string (P:=P) w t u ty e i (.int .u8 0) ht hu hi hz ⟨g,0,none⟩ n cap xs (by rw[hsize];simpa using hxl) holds s (by omega) (by omega) (by rw[hby];exact growslice_fits (by omega) (by omega))
   rw[hr2] at hr
   injection hr with e1 _
   rw[←e1];exact .inr rfl
theorem own_set {b i:Nat} {W:World} {u v:Value} {l:List UInt8} (h:OwnB (b+1) W v l):OwnB (b+1) (W.setCell ⟨b,i,none⟩ u) v l :=
 ownsRow_ch h (Ch.setCell (T:=λk=>k=b) W (a:=⟨b,i,none⟩) rfl u) (λk hk=>by (try dsimp only at hk);omega)
section
variable {b:Nat} {W:World} {c:Ck} {lv dv:Value}
theorem Rd.set0 (h:Rd b W c lv dv) (n:Nat):Rd b (W.setCell ⟨b,0,none⟩ (.int .i64 n)) { c with st:=n } lv dv :=
 ⟨cell_set_same h.c0,cell_off h.c1 (by decide),cell_off h.c2 (by decide),cell_off h.c3 (by decide),cell_off h.c4 (by decide),cell_off h.c5 (by decide),cell_off h.c6 (by decide),λo=>frozen_set.trans (h.fz o),own_set h.l,own_set h.d,h.ne⟩
theorem Rd.set2 (h:Rd b W c lv dv) (n:Nat):Rd b (W.setCell ⟨b,2,none⟩ (.int .i64 n)) { c with left:=n } lv dv :=
 ⟨cell_off h.c0 (by decide),cell_off h.c1 (by decide),cell_set_same h.c2,cell_off h.c3 (by decide),cell_off h.c4 (by decide),cell_off h.c5 (by decide),cell_off h.c6 (by decide),λo=>frozen_set.trans (h.fz o),own_set h.l,own_set h.d,h.ne⟩
theorem Rd.set4 (h:Rd b W c lv dv) (n:Nat):Rd b (W.setCell ⟨b,4,none⟩ (.int .i64 n)) { c with nf:=n } lv dv :=
 ⟨cell_off h.c0 (by decide),cell_off h.c1 (by decide),cell_off h.c2 (by decide),cell_off h.c3 (by decide),cell_set_same h.c4,cell_off h.c5 (by decide),cell_off h.c6 (by decide),λo=>frozen_set.trans (h.fz o),own_set h.l,own_set h.d,h.ne⟩
theorem Rd.set5 (h:Rd b W c lv dv) (n:Nat):Rd b (W.setCell ⟨b,5,none⟩ (.int .i64 n)) { c with tail:=n } lv dv :=
 ⟨cell_off h.c0 (by decide),cell_off h.c1 (by decide),cell_off h.c2 (by decide),cell_off h.c3 (by decide),cell_off h.c4 (by decide),cell_set_same h.c5,cell_off h.c6 (by decide),λo=>frozen_set.trans (h.fz o),own_set h.l,own_set h.d,h.ne⟩
theorem Rd.set6 (h:Rd b W c lv dv) (n:Nat):Rd b (W.setCell ⟨b,6,none⟩ (.int .i64 n)) { c with bad:=n } lv dv :=
 ⟨cell_off h.c0 (by decide),cell_off h.c1 (by decide),cell_off h.c2 (by decide),cell_off h.c3 (by decide),cell_off h.c4 (by decide),cell_off h.c5 (by decide),cell_set_same h.c6,λo=>frozen_set.trans (h.fz o),own_set h.l,own_set h.d,h.ne⟩
theorem Rd.set1 (h:Rd b W c lv dv) {lv':Value} {l':List UInt8} (hl:OwnB (b+1) W lv' l') (hne:∀ k,lv'.ownBlock=some k→dv.ownBlock=some k→False):Rd b (W.setCell ⟨b,1,none⟩ lv') { c with line:=l' } lv' dv :=
 ⟨cell_off h.c0 (by decide),cell_set_same h.c1,cell_off h.c2 (by decide),cell_off h.c3 (by decide),cell_off h.c4 (by decide),cell_off h.c5 (by decide),cell_off h.c6 (by decide),λo=>frozen_set.trans (h.fz o),own_set hl,own_set h.d,hne⟩
theorem fp_set (W:World) (i:Nat) (v:Value):Ch (Fp b lv dv) W (W.setCell ⟨b,i,none⟩ v):=Ch.setCell W (a:=⟨b,i,none⟩) (.inl rfl) v
theorem RdPost.of {W1:World} {c1:Ck} (h:Rd b W1 c1 lv dv) (hc:Ch (Fp b lv dv) W W1):RdPost b lv dv W c1 W1:=⟨lv,dv,h,hc,λ_ hk=>.inl hk⟩
theorem RdPost.after {W1 W2:World} {c2:Ck} {lv1 dv1:Value} (hc:Ch (Fp b lv dv) W W1) (hs:∀ k,Fp b lv1 dv1 k→Fp b lv dv k∨W.heap.size≤k) (k:RdPost b lv1 dv1 W1 c2 W2):RdPost b lv dv W c2 W2:=by
 obtain⟨lv2,dv2,k1,k2,k3⟩:=k
 have hz:=hc.size
 refine⟨lv2,dv2,k1,?_,λj hj=>?_⟩
 ·refine⟨k2.os.trans hc.os,k2.tape.trans hc.tape,k2.output.trans hc.output,Nat.le_trans hc.size k2.size,λj hj hn=>?_⟩
  exact (k2.block j (by omega) (λe=>(hs j e).elim hn (by omega))).trans (hc.block j hj hn)
 ·rcases k3 j hj with e | e
  ·exact hs j e
  ·exact .inr (by omega)
theorem fp_self (k:Nat) (h:Fp b lv dv k):Fp b lv dv k∨W.heap.size≤k:=.inl h
theorem fp_nil (k:Nat) (h:Fp b (.slice none 0 0) dv k):Fp b lv dv k∨W.heap.size≤k:=by
 rcases h with h | h | h
 ·exact .inl (.inl h)
 ·cases h
 ·exact .inl (.inr (.inr h))
end
theorem wrong_any (b:Nat) (c:Ck) (code:Nat) (lv dv:Value) (W:World) (h:Rd b W c lv dv) :
  Calls prog 167 #[.pointer (some ⟨b,0,none⟩),.int .i64 code] W λe W'=>e=.returned (.tuple #[])∧RdPost b lv dv W (wrongC c code) W':=by
 have h':=hid h
 have c0:=h.c0
 have c6:=h.c6
 have f0:=h.fz 0
 have f6:=h.fz 6
 clear h
 go_enter func167,ntmps167
 go_wp2
 go_end0
 exact⟨rfl,RdPost.of ((h'.out.set0 4).set6 code) ((fp_set _ _ _).trans (fp_set _ _ _))⟩
