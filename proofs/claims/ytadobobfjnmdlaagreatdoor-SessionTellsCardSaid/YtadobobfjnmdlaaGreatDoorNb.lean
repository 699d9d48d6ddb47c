/-
  What a law that returned true gives its row.
-/
import Derived.Test.YtadobobfjnmdlaaGreatDoorP0
import Derived.Shelf.Strings.SlTrimAscii
import Derived.Lib.Atoi
set_option linter.unnecessarySimpa false
set_option linter.unusedVariables false
set_option linter.unusedSimpArgs false
set_option maxHeartbeats 16000000
set_option maxRecDepth 100000
open Go.Proofs.Tryz
namespace Go.Proofs.YtadobobfjnmdlaaGreatDoor
open Go.RowKit Go.Lib
section
open Go.ChangeShapes Go.WideShapes Go.Deep
variable {H:Type} {enc:TypeId×Value→H}
theorem D0:laidOutB Tryz.prog=true:=by kernel_rfl
theorem jc {W k:World}(l:Gr W k):∀(a:List TypeId) (i:List Value) (e:List (DataW H)) (c:List MemPlace),(∀t∈a,prog.readableRec t=true∧t<prog.types.size) →
  DataW.TrodAll enc prog W 0 (λ_=>true) true a i e c→(∀x∈c,x.block<W.heap.size)→DataW.TrodAll enc prog k 0 (λb=>decide (b<W.heap.size)) true a i e c
 | [],_,_,_,_,h,_=>by
  obtain⟨rfl,rfl,rfl⟩:=trodAll_nil h;exact trodAll_mk0
 | t :: a,i,e,c,ht,h,hlt=>by
  obtain⟨v,j,d,f,p,q,rfl,rfl,rfl,m,n⟩:=trodAll_cons h;obtain⟨o,hs⟩:=ht t (by simp);exact trodAll_cons_mk (Below.trod D0 o hs m l (λx g=>hlt x (by simp[g]))) (jc l a j f q (λu r=>ht u (by simp[r])) n (λx g=>hlt x (by simp[g])))
theorem B7 {W l:World}{fn:Func}{s:ChangeSpec}{args:Array Value}{e:List (DataW H)}{a:List MemPlace}
  (g:DataW.Whole enc prog fn.params.toList s.vars false W args.toList e [] a) (r:s.vars=[]) (f:(s.fn H (e++[])).results=[.lit (.bool true)]) (b:(s.fn H (e++[])).args=e) (d:(s.fn H (e++[])).vars=[])
  (k:fn.resultTypes=#[4]) (c:(fn.params.toList.all λt=>prog.readableRec t&&decide (t<prog.types.size))=true) (m:Gr W l) :
  s.post enc prog fn false true false false W args (.bool true) l:=by
 have j:=g.lt;have i:=g;obtain⟨p,q,n,v,rfl,_,_⟩:=g;refine⟨e,[],_,[],p,[],i,?_,?_,?_,Below.frame m _,λh=>by cases h⟩
 ·rw[f,k];exact trodAll_mk1 (shut_bool underlying4 true)
 ·rw[b];refine jc m _ _ _ _ (λt o=>?_) n (λx u=>?_)
  ·have:=List.all_eq_true.1 c t o;simpa using this
  ·exact j x (by simp[u])
 ·rw[d,r];rfl
theorem xF {x:Int}(h:(Lit.int .u8 x).wf=true):∃c:UInt8,x=(c.toNat:Int):=by
 have a:0≤x∧x≤255:=by simpa[Lit.wf,IntKind.min,IntKind.max,IntKind.signed,IntKind.bits]using h
 exact⟨UInt8.ofNat x.toNat,by simp;omega⟩
end
theorem sM (l:List UInt8)(w:World)(hl:l.length≤9223372036854775807) :
  Calls prog 162 #[.string ⟨l.toArray⟩,.string ⟨#[32,9]⟩] w λe w'=>e=.returned (.string ⟨(bm l).toArray⟩)∧Gr w w' :=
 Any.strings_Trim_laid lays160 (by kernel_rfl) ⟨l.toArray⟩ ⟨#[32,9]⟩ w (by rw[aj];exact hl) (by decide) (ascii_of_all (by decide))
theorem ir (l:List UInt8)(b:Bool)(h:eh l=b)(w:World)(hl:l.length≤9223372036854775807) :
  Calls prog 175 #[.string ⟨l.toArray⟩] w λe w'=>e=.returned (.bool b)∧w=w':=by
 have a:=qq h;clear h;by_cases h0:l=[]
 ·subst h0;go_enter func175,ntmps175;go_wp2;go_ret;exact⟨aW (by rw[←a.out];rfl),rfl⟩
 ·have d:=qq h0;have c:(!l.isEmpty)=true:=by simpa using h0
  have f:(!l.toArray.toList.isEmpty)=true:=by simpa using h0
  clear h0;go_enter func175,ntmps175;go_wp2_with fail;refine(pA 217 fF (enters_of func217 (by kernel_rfl) rfl) Cl l _ hl).mono ?_;rintro e w'⟨rfl,rfl⟩;go_wp2;go_ret;exact⟨aW (by rw[←a.out];unfold eh;rw[c,Bool.true_and]),rfl⟩
theorem pu (l:List UInt8)(b:Bool)(h:l.all aT=b)(w:World)(hl:l.length≤9223372036854775807) :
  Calls prog 176 #[.string ⟨l.toArray⟩,.func (.func 177) #[] #[]] w λe w'=>e=.returned (.bool b)∧w=w':=by
 rw[←h];exact pA 177 aT (enters_of func177 (by kernel_rfl) rfl) Cm l w hl
theorem ki (l a:List UInt8)(w:World)(b:G w)(hl:l.length<4294967281) :
  Calls prog 174 #[.string ⟨l.toArray⟩,.string ⟨a.toArray⟩] w λe w'=>e=.returned (.tuple #[.string ⟨(Lib.cut l a).1.toArray⟩,.string ⟨(Lib.cut l a).2.1.toArray⟩,.bool (Lib.cut l a).2.2])∧Gr w w' :=
 let ⟨m,hm⟩:=b.max
 (Tryz.strings_Cut ⟨l.toArray⟩ ⟨a.toArray⟩ m w (by rw[aj];exact hl) hm).mono λ_ w' ⟨c,n,hn⟩=>⟨c,hn▸below_drewNm w n⟩
def eK (r:List UInt8×List UInt8×Bool):Value:=.tuple #[.agg #[.string ⟨r.1.toArray⟩,.string ⟨r.2.1.toArray⟩],.bool r.2.2]
theorem iP (l:List UInt8)(w:World)(u:G w)(hl:l.length<4294967281) :
  Calls prog 142 #[.string ⟨l.toArray⟩] w λe w'=>e=.returned (eK (ax l))∧Gr w w':=by
 have q:(Lib.cut l [58]).1.length≤l.length:=dY l [58];have r:(Lib.cut l [58]).2.1.length≤l.length:=eG l [58];obtain⟨⟨n,v,c⟩,j⟩:∃c,Lib.cut l [58]=c:=⟨_,rfl⟩;rw[j]at q r;have b:=qq (iS j);have p:=qq j;clear j;go_enter func142,ntmps142;go_wp2_with fail;refine(ki l [58] _ (u.gr (Gr.alloc _ _)) hl).mono ?_;rintro e t⟨rfl,o⟩;rw[p.out];have g:Gr w t:=(Gr.alloc _ _).trans o;obtain⟨f,x⟩:=o.bcell;have y:w.heap.size<t.heap.size:=by have:=o.size;simp at this;omega
 cases c
 ·go_wp2;refine bodyPost_ret (v:=eK ([],[],false)) (by simp[results,results142,go_sem,eK,f]) rfl ⟨by rw[b.out];rfl,?_⟩;exact(g.setCell (qv _) _).setCell (qv _) _
 ·cases k:eh n
  ·have a:=qq k;clear k;go_wp2_with (go_at_call 175;refine(ir n _ a.out _ (by omega)).mono ?_;rintro e w' ⟨rfl,rfl⟩);refine bodyPost_ret (v:=eK ([],[],false)) (by simp[results,results142,go_sem,eK,f]) rfl ⟨by rw[b.out,a.out];rfl,?_⟩;exact(g.setCell (qv _) _).setCell (qv _) _
  ·have a:=qq k;clear k;cases m:v.all aT
   ·have d:=qq m;clear m;go_wp2_with (first | (go_at_call 175;refine(ir n _ a.out _ (by omega)).mono ?_;rintro e w' ⟨rfl,rfl⟩) | (go_at_call 176;refine(pu v _ d.out _ (by omega)).mono ?_;rintro e w' ⟨rfl,rfl⟩));refine bodyPost_ret (v:=eK ([],[],false)) (by simp[results,results142,go_sem,eK,f]) rfl ⟨by rw[b.out,a.out,d.out];rfl,?_⟩;exact(g.setCell (qv _) _).setCell (qv _) _
   ·have d:=qq m;clear m;go_wp2_with (first | (go_at_call 175;refine(ir n _ a.out _ (by omega)).mono ?_;rintro e w' ⟨rfl,rfl⟩) | (go_at_call 176;refine(pu v _ d.out _ (by omega)).mono ?_;rintro e w' ⟨rfl,rfl⟩) | (go_at_call 162;refine(sM v _ (by omega)).mono ?_;rintro e z ⟨rfl,h⟩;obtain⟨i,s⟩:=h.bcell));refine bodyPost_ret (v:=eK (n,bm v,true)) (by simp[results,results142,go_sem,eK,f,i,y]) rfl ⟨by rw[b.out,a.out,d.out];rfl,?_⟩;exact((g.trans h).setCell (qv _) _).setCell (qv _) _
def sN (n:Int):Int:=if 65≤n∧n≤90 then n+32 else n
theorem vj (n:Int)(w:World)(h0:0≤n)(b:n≤1114111):Calls prog 206 #[.int .i32 n] w λe w'=>e=.returned (.int .i32 (sN n))∧w=w':=by
 have a:=qq (show sN n=if 65≤n∧n≤90 then n+32 else n from rfl);go_enter func206,ntmps206;go_wp2;all_goals go_ret
 all_goals refine⟨?_,rfl⟩
 all_goals rw[a.out]
 all_goals (first | rw[if_neg (by omega)] | rw[if_pos (by omega)])
 all_goals first | rfl | go_num
theorem sO (w:World):MapGrows prog 206 #[] sN w:=λW x c _ =>
 (vj x W (by omega) (by omega)).mono λe w' ⟨a,b⟩=>⟨a,Gr.of_eq b.symm⟩
theorem zg (l:List UInt8)(w:World)(b:G w)(hl:l.length<35184372088832) :
  Calls prog 165 #[.string ⟨l.toArray⟩] w λe w'=>e=.returned (.string ⟨(Lib.mapD sN l).toArray⟩)∧Gr w w':=by
 go_enter func165,ntmps165;have hs:ByteArray.size ⟨l.toArray⟩<35184372088832:=by rw[aj];exact hl
 have a:=qq hs;clear hs;go_wp2_with fail;refine(Tryz.strings_Map_grows _ _ (enters_of func206 (by kernel_rfl) rfl) sN ⟨l.toArray⟩ _ a.out (sO _) (λx d=>by unfold sN;split <;> omega) b.utf).mono ?_;rintro e w'⟨rfl,c⟩;go_wp2;go_ret;exact⟨rfl,c⟩
theorem D1 (c:UInt8)(h:aV c=true):Lib.mapD sN [c]=[aY c]:=by
 revert h;refine jF (p:=λc=>aV c=true→Lib.mapD sN [c]=[aY c]) ?_ c;decide +kernel
theorem zh (c:UInt8)(w:World)(a:G w)(h:aV c=true) :
  Calls prog 165 #[.string ⟨#[c]⟩] w λe w'=>e=.returned (.string ⟨#[aY c]⟩)∧Gr w w':=by
 have:=zg [c] w a (by simp)
 rwa [D1 c h]at this
theorem sP {a b:List UInt8}{k:Nat}(c:k<a.length)(d:k<b.length)(h:aY a[k]≠aY b[k]):an a b=false:=by
 unfold an;rw[qk];intro e;apply h;have:=congrArg (λl=>l[k]?) e;simpa[c,d]using this
theorem lN {a b:UInt8}(h:a≠b)(hl:aV a=false∨aV b=false):aY a≠aY b:=by
 intro e;have c:=ix a;have d:=ix b;rw[e]at c;have hn:(a.toNat:Int)≠b.toNat:=λe=>h (UInt8.toNat_inj.1 (by omega));rw[gt,gt]at hl;simp at hl;split at c <;> split at d <;> omega
theorem dV {w:World}(c:UInt8)(b:Bool)(h:aV c=b)(x:Later (Gr w)):Calls prog 164 #[.int .u8 c.toNat] x.w λe a=>e=.returned (.bool b)∧∃y:Later (Gr w),a=y.w :=
 Calls.later ((ns c x.w).mono λ_ _ ⟨d,f⟩=>⟨by rw[d,h],f▸x.ok⟩)
theorem lO {w:World}(b:G w)(c:UInt8)(h:aV c=true)(x:Later (Gr w)):Calls prog 165 #[.string ⟨#[c]⟩] x.w λe a=>e=.returned (.string ⟨#[aY c]⟩)∧∃y:Later (Gr w),a=y.w :=
 Calls.later ((zh c x.w (b.gr x.ok) h).mono λ_ _ ⟨d,f⟩=>⟨d,x.ok.trans f⟩)
theorem cO (a b:List UInt8)(w:World)(J:G w)(N:a.length≤9223372036854775807)(I:b.length≤9223372036854775807) :
  Calls prog 133 #[.string ⟨a.toArray⟩,.string ⟨b.toArray⟩] w λe w'=>e=.returned (.bool (an a b))∧Gr w w':=by
 by_cases A:a.length=b.length
 ·go_enter func133,ntmps133;have z:((a.length:Int) != b.length)=false:=by simp[A]
  go_wp2;go_loopw [5,13] (λ_ i wr=>(∃k:Nat,k≤a.length∧i=.int .i64 k∧(a.take k).map aY=(b.take k).map aY)∧Gr w wr) (λ_ i _=>a.length - (intOf i).toNat)
  case atStart=>exact⟨⟨0,qx _,rfl,rfl⟩,Gr.refl _⟩
  case round =>
   obtain⟨⟨k,S,rfl,s⟩,L⟩:=hrel;have o:=qq s;clear s;by_cases r:k<a.length
   ·have g:k<b.length:=(by omega);have v:=qq J;clear J;obtain⟨ca,x⟩:∃c,(⟨a.toArray⟩:ByteArray)[k]'(by rw[aj];exact r)=c:=⟨_,rfl⟩;obtain⟨cb,y⟩:∃c,(⟨b.toArray⟩:ByteArray)[k]'(by rw[aj];exact g)=c:=⟨_,rfl⟩;have t:=qq (show a[k]=ca from x);have u:=qq (show b[k]=cb from y);have O:(⟨a.toArray⟩:ByteArray).extract k (k+1)=⟨#[ca]⟩:=(by rw[←x];exact lU a k r);have R:(⟨b.toArray⟩:ByteArray).extract k (k+1)=⟨#[cb]⟩:=(by rw[←y];exact lU b k g);haveI:Nonempty (Later (Gr w)):=⟨⟨w,Gr.refl w⟩⟩;have q:=L.trans (Gr.drew' _);have next:aY ca=aY cb→(a.take (k+1)).map aY=(b.take (k+1)).map aY:=λe=>by
     rw[List.take_succ_eq_append_getElem r,List.take_succ_eq_append_getElem g,List.map_append,List.map_append,o.out];simp[t.out,u.out,e]
    have bad:aY ca≠aY cb→an a b=false:=λh=>sP r g (by rw[t.out,u.out];exact h);have p:=qq next;have m:=qq bad;clear next bad;by_cases l:ca=cb
    ·have M:((ca.toNat:Int) != cb.toNat)=false:=(by rw[l];simp);have f:=qq l;clear l;go_wp2;refine ah (C:=Gr w) (by kernel_rfl) (by kernel_rfl) q ?_;(repeat (go_big_quiet_step (fail)));refine wpQuiet_nil ?_;intro F d;go_wp2;go_roundw
     case rel=>exact⟨⟨k+1,by omega,by go_num,p.out (by rw[f.out])⟩,d⟩
     case measure=>simp[intOf];omega
    ·have M:((ca.toNat:Int) != cb.toNat)=true:=(by rw[bne_iff_ne];intro e;exact l (UInt8.toNat_inj.1 (by omega)));have f:=qq l;clear l;cases B:aV ca
     ·have j:=qq B;clear B;go_wp2;refine ah (C:=Gr w) (by kernel_rfl) (by kernel_rfl) q ?_;(repeat (go_big_quiet_step (exact dV _ false j.out _)));refine wpQuiet_nil ?_;intro F d;go_wp2;go_ret;exact⟨aW (m.out (lN f.out (.inl j.out))).symm,d⟩
     ·have j:=qq B;clear B;cases D:aV cb
      ·have n:=qq D;clear D;go_wp2;refine ah (C:=Gr w) (by kernel_rfl) (by kernel_rfl) q ?_;(repeat (go_big_quiet_step (first | with_reducible exact dV _ true j.out _ | with_reducible exact dV _ false n.out _)));refine wpQuiet_nil ?_;intro F d;go_wp2;go_ret;exact⟨aW (m.out (lN f.out (.inr n.out))).symm,d⟩
      ·have n:=qq D;clear D;go_wp2;refine ah (C:=Gr w) (by kernel_rfl) (by kernel_rfl) q ?_;(repeat (go_big_quiet_step (first | with_reducible exact dV _ true j.out _ | with_reducible exact dV _ true n.out _ | with_reducible exact lO v.out _ j.out _ | with_reducible exact lO v.out _ n.out _)));refine wpQuiet_nil ?_;intro F d;go_wp2
       ·have E:(!aY ca==aY cb)=true:=(by assumption);go_ret;exact⟨aW (m.out (by simpa using E)).symm,d⟩
       ·have E:(!aY ca==aY cb)=false:=(by assumption);go_roundw
        case rel=>exact⟨⟨k+1,by omega,by go_num,p.out (by simpa using E)⟩,d⟩
        case measure=>simp[intOf];omega
   ·go_wp2;go_ret;refine⟨aW ?_,L⟩;have h:=o.out;rw[List.take_of_length_le (by omega),List.take_of_length_le (by omega)]at h;unfold an;rw[h];simp
 ·have z:((a.length:Int) != b.length)=true:=by rw[bne_iff_ne];omega
  go_enter func133,ntmps133;go_wp2;go_ret;refine⟨aW ?_,Gr.refl _⟩;unfold an;exact(qk.2 (λe=>A (by simpa using congrArg List.length e))).symm
abbrev Fl:=List UInt8×List UInt8
def FieldsAt (w:World)(v:Value)(fs:List Fl):Prop :=
 ∃p cap,v=.slice p fs.length cap∧∀i,(hi:i<fs.length)→∃b off,p=some ⟨b,off,none⟩∧w.cell? ⟨b,off+i*2,none⟩=some (.string ⟨fs[i].1.toArray⟩)∧w.cell? ⟨b,off+i*2+1,none⟩=some (.string ⟨fs[i].2.toArray⟩)
theorem FieldsAt.gr {w w':World}{v:Value}{fs:List Fl}(h:FieldsAt w v fs)(a:Gr w w'):FieldsAt w' v fs:=by
 obtain⟨p,cap,d,c⟩:=h;exact⟨p,cap,d,λi hi=>let ⟨b,off,hp,h1,h2⟩:=c i hi;⟨b,off,hp,a.cell h1,a.cell h2⟩⟩
def bl (fs:List Fl)(name:List UInt8):List UInt8×Nat :=
 (((fs.filter λf=>an f.1 name).head?.map (·.2)).getD [],(fs.filter λf=>an f.1 name).length)
theorem lP (l:List Fl)(f:Fl)(name:List UInt8)(h:an f.1 name=false):bl (l++[f]) name=bl l name:=by
 unfold bl;rw[List.filter_append];simp[h]
theorem lQ (l:List Fl)(f:Fl)(name:List UInt8)(h:an f.1 name=true)(h0:(bl l name).2=0):bl (l++[f]) name=(f.2,1):=by
 have a:l.filter (λf=>an f.1 name)=[]:=List.eq_nil_of_length_eq_zero h0;unfold bl;rw[List.filter_append,a];simp[h]
theorem lR (l:List Fl)(f:Fl)(name:List UInt8)(h:an f.1 name=true)(h0:(bl l name).2≠0):bl (l++[f]) name=((bl l name).1,(bl l name).2+1):=by
 unfold bl at h0 ⊢;simp only[List.filter_append];cases hl:l.filter (λf=>an f.1 name)with
 | nil=>simp[hl]at h0
 | cons x t=>simp[h]
theorem xG (l:List Fl)(name:List UInt8):(bl l name).2≤l.length:=List.length_filter_le _ _
theorem qM (v:Value)(fs:List Fl)(name:List UInt8)(w:World)(E:G w)(hf:FieldsAt w v fs)(hn:fs.length≤9223372036854775807)
  (hl:∀f∈fs,f.1.length≤9223372036854775807) (t:name.length≤9223372036854775807) :
  Calls prog 131 #[v,.string ⟨name.toArray⟩] w λe w'=>e=.returned (.tuple #[.string ⟨(bl fs name).1.toArray⟩,.int .i64 (bl fs name).2])∧Gr w w':=by
 have L:=qq hf;have s:=qq hl;have o:=qq E;clear hl E;obtain⟨p,cap,rfl,I⟩:=hf;have z:=qq I;clear I;go_enter func131,ntmps131;go_wp2;go_loopw [4,5,10] (λv m i wr=>(∃k:Nat,k≤fs.length∧i=.int .i64 k∧v=.string ⟨(bl (fs.take k) name).1.toArray⟩∧m=.int .i64 (bl (fs.take k) name).2)∧Gr w wr) (λ_ _ i _=>fs.length - (intOf i).toNat)
 case atStart=>exact⟨⟨0,qx _,rfl,rfl,rfl⟩,Gr.refl _⟩
 case round =>
  obtain⟨⟨k,M,rfl,rfl,rfl⟩,n⟩:=hrel;by_cases u:k<fs.length
  ·obtain⟨b,off,rfl,C,D⟩:=z.out k u;have c1:=n.cell C;have c2:=n.cell D;clear C D;have d:=qq (List.take_succ_eq_append_getElem u);have x:=xG (fs.take k) name;rw[List.length_take]at x;obtain⟨g,r⟩:∃g,bl (fs.take k) name=g:=⟨_,rfl⟩;have a:=qq r;rw[r]at x ⊢;clear r;obtain⟨f,l⟩:∃f,fs[k]=f:=⟨_,rfl⟩;have j:f∈fs:=l▸List.getElem_mem u;rw[l]at c1 c2;rw[l]at d;clear l;cases F:an f.1 name;(all_goals have c:=qq F);all_goals clear F
   ·go_wp2_with fail;refine(cO f.1 name _ (o.out.gr (n.trans (Gr.alloc _ _))) (s.out f j) t).mono ?_;rintro e J⟨rfl,q⟩;rw[c.out];go_wp2;go_roundw
    case rel=>exact⟨⟨k+1,by omega,by go_num,by rw[d.out,lP _ _ _ c.out,a.out],by rw[d.out,lP _ _ _ c.out,a.out]⟩,(n.trans (Gr.alloc _ _)).trans q⟩
    case measure=>simp[intOf];omega
   ·by_cases h0:g.2=0
    ·have y:((g.2:Int)==0)=true:=(by simp[h0]);have h:=qq h0;clear h0;go_wp2_with fail;refine(cO f.1 name _ (o.out.gr (n.trans (Gr.alloc _ _))) (s.out f j) t).mono ?_;rintro e J⟨rfl,q⟩;rw[c.out];obtain⟨A,B⟩:=q.bcell;go_wp2;go_roundw
     case rel=>exact⟨⟨k+1,by omega,by go_num,by rw[d.out,lQ _ _ _ c.out (by rw[a.out];exact h.out)],by rw[d.out,lQ _ _ _ c.out (by rw[a.out];exact h.out),h.out];rfl⟩,(n.trans (Gr.alloc _ _)).trans q⟩
     case measure=>simp[intOf];omega
    ·have y:((g.2:Int)==0)=false:=(by simp[h0]);have h:=qq h0;clear h0;go_wp2_with fail;refine(cO f.1 name _ (o.out.gr (n.trans (Gr.alloc _ _))) (s.out f j) t).mono ?_;rintro e J⟨rfl,q⟩;rw[c.out];obtain⟨A,B⟩:=q.bcell;go_wp2;go_roundw
     case rel=>exact⟨⟨k+1,by omega,by go_num,by rw[d.out,lR _ _ _ c.out (by rw[a.out];exact h.out),a.out],by rw[d.out,lR _ _ _ c.out (by rw[a.out];exact h.out),a.out];go_num⟩,(n.trans (Gr.alloc _ _)).trans q⟩
     case measure=>simp[intOf];omega
  ·go_wp2;go_ret2;obtain rfl:k=fs.length:=(by omega);exact⟨by rw[List.take_length];rfl,n⟩
section
open Go.ChangeShapes Go.WideShapes Go.Deep
variable {H:Type} {enc:TypeId×Value→H}
section
variable {P:Program} {w:World} {base:Nat} {spare:Nat→Bool} {held:Bool}
theorem kj {t e:TypeId}{fs:Array Field}{g:Nat}{cs:List Value}{x:DataW H×List MemPlace}(N:P.underlying t=some (.slice e))(I:P.underlying e=some (.struct fs))
  (k:oneCellFields P fs=true) (E:P.cellsOf e=fs.size) (h:DataW.trod enc P w base spare held g t cs=some x) :
  cs=[.slice none 0 0]∨∃(a:Addr) (len cap:Nat),cs=[.slice (some a) len cap]∧len≤maxLen ∧
   ∀i,i<len→∀(j:Nat) (f:Field),fs[j]?=some f→∃(v:Value) (y:DataW H×List MemPlace) (n:Nat),w.cell? (a.add (i*fs.size+j))=some v∧DataW.trod enc P w base spare held n f.type [v]=some y:=by
 rcases open_slice N h with h0 | ⟨a,len,cap,m,n,D,S,p,_,hl,hm,s,T,hi⟩
 ·exact .inl h0.1
 ·refine .inr ⟨a,len,cap,p,qy hl hm,λi J j f q=>?_⟩;obtain⟨b,A,u⟩:=hi i (by rw[s];split <;> omega);rw[E]at A;obtain⟨C,V,_,U,B,R,hf⟩:=DataW.trod_struct I u;obtain⟨_,F,o⟩:=World.cells?_some A;obtain⟨M,L⟩:=hone_of k j f q;have r:j<fs.size:=(Array.getElem?_eq_some_iff.1 q).1;have c:=o j r;have O:b[j]?=some (b[j]'(by omega)):=List.getElem?_eq_getElem (by omega);have l:=hf j f q;rw[M,L]at l;have d:(b.drop j).take 1=[b[j]'(by omega)]:=by
   rw[List.drop_eq_getElem_cons (by omega)];rfl
  rw[d]at l;have z:C[j]?=some (C[j]'(by omega)):=List.getElem?_eq_getElem (by omega);exact⟨_,_,_,by rw[←Go.Deep.add_add,c,O],l.trans z⟩
end
end
def ay (c:UInt8):Bool:=c==9||c==32
def cM (l:List UInt8):List UInt8:=l.dropWhile ay
def bU (l:List UInt8):List UInt8:=(l.reverse.dropWhile ay).reverse
theorem m8 (c:UInt8):([32,9]:List UInt8).contains c=ay c:=by
 refine jF (p:=λc=>([32,9]:List UInt8).contains c=ay c) ?_ c;decide +kernel
theorem dW (l:List UInt8):bm l=cM (bU l):=by
 unfold bm Lib.trimS Lib.trimLeftS Lib.trimRightS cM bU;have:(λc=>([32,9]:List UInt8).contains c)=ay:=funext m8;rw[this]
theorem m9 (c:UInt8)(t:List UInt8):bU (c :: t)=if bU t=[] then(if ay c then [] else [c]) else c :: bU t:=by
 unfold bU;rw[List.reverse_cons,List.dropWhile_append];by_cases h:t.reverse.dropWhile ay=[]
 ·rw[h];cases b:ay c <;> simp[List.dropWhile,b]
 ·have a:(t.reverse.dropWhile ay).isEmpty=false:=by simpa using h
  rw[a];simp[h]
theorem dX {c:UInt8}{t:List UInt8}(h:ay c=true):cM (c :: t)=cM t:=by simp[cM,List.dropWhile,h]
theorem cI {c:UInt8}{t:List UInt8}(h:ay c=false):cM (c :: t)=c :: t:=by simp[cM,List.dropWhile,h]
theorem fP (l:List UInt8):bU (cM l)=cM (bU l):=by
 induction l with
 | nil=>rfl
 | cons c t b =>
  cases h:ay c
  ·rw[cI h,m9];split
   ·simp[h,cI]
   ·rw[cI h]
  ·rw[dX h,b,m9];split
   ·rename_i a;rw[a]
   ·rw[dX h]
theorem na (l:List UInt8):bm l=bU (cM l):=by rw[dW,fP]
theorem kl (l:List UInt8)(c:UInt8):bU (l++[c])=if ay c then bU l else l++[c]:=by
 unfold bU;rw[List.reverse_append,List.reverse_singleton,List.singleton_append,List.dropWhile_cons];cases ay c <;> simp
theorem nb {l:List UInt8}{k:Nat}(a:l.length=k+1)(h:ay (l[k]'(by omega))=true):bU (l.take k)=bU l:=by
 have:l=l.take k++[l[k]'(by omega)]:=by
  rw[←List.take_succ_eq_append_getElem (by omega),List.take_of_length_le (by omega)]
 conv=>rhs;rw[this]
 rw[kl,h];simp
theorem B8 {l:List UInt8}{k:Nat}(a:l.length=k+1)(h:ay (l[k]'(by omega))=false):bU l=l:=by
 have:l=l.take k++[l[k]'(by omega)]:=by
  rw[←List.take_succ_eq_append_getElem (by omega),List.take_of_length_le (by omega)]
 conv=>lhs;rw[this]
 rw[kl,h];simp[←this]
theorem iu (c:UInt8):ay c=decide ((c.toNat:Int)=9∨(c.toNat:Int)=32):=by
 rw[Bool.eq_iff_iff];simp[ay,←UInt8.toNat_inj];omega
theorem zi {a b:UInt8}(h:((a.toNat:Int) != b.toNat)=false):a=b:=by
 have c:(a.toNat:Int)=b.toNat:=by simpa using h
 exact UInt8.toNat_inj.1 (by omega)
theorem vk:fF 58=false:=by decide +kernel
theorem iQ (s:List UInt8)(c:UInt8)(i:Nat):Lib.occAt s [c] i=(s[i]?==some c):=by
 unfold Lib.occAt;cases h:s.drop i with
 | nil =>
  have:s[i]?=none:=by rw[List.getElem?_eq_none];simpa using h
  simp[this]
 | cons x t =>
  have:s[i]?=some x:=by
   have:=congrArg (·[0]?) h;simpa using this
  rw[this];show(c==x&&true)=(some x==some c);rw[Bool.and_true,Option.some_beq_some,Bool.beq_comm]
theorem vm {s:List UInt8}{c:UInt8}{k:Nat}(d:k<s.length)(h:s[k]=c)(b:∀j,(a:j<k)→s[j]'(by omega)≠c):Lib.cut s [c]=(s.take k,s.drop (k+1),true):=by
 have hi:Lib.index s [c]=k:=Lib.index_first (by omega) (by rw[iQ];simp[d,h]) (λj a=>by
  rw[iQ];simp[show j<s.length by omega,b j a])
 unfold Lib.cut;rw[hi];simp
theorem B9 {s:List UInt8}{c:UInt8}(h:∀j,(b:j<s.length)→s[j]≠c):Lib.cut s [c]=(s,[],false):=by
 have hi:Lib.index s [c] = -1:=Lib.index_none (λj b=>by
  rw[iQ];rcases Nat.lt_or_ge j s.length with a | a
  ·simp[a,h j a]
  ·rw[List.getElem?_eq_none a];rfl)
 unfold Lib.cut;rw[hi];simp
theorem zj (s:List UInt8)(c:UInt8):(Lib.cut s [c]=(s,[],false)∧∀j,(a:j<s.length)→s[j]≠c) ∨
  ∃k,∃m:k<s.length,s[k]=c∧(∀j,(a:j<k)→s[j]'(by omega)≠c)∧Lib.cut s [c]=(s.take k,s.drop (k+1),true):=by
 rcases Lib.index_spec s [c]with⟨_,f⟩ | ⟨i,_,f,b,l⟩
 ·have:∀j,(a:j<s.length)→s[j]≠c:=λj a e=>by
   have:=f j (by omega);rw[iQ]at this;simp[a,e]at this
  exact .inl ⟨B9 this,this⟩
 ·rw[iQ]at b;have hi:i<s.length:=by
   rcases Nat.lt_or_ge i s.length with d | d
   ·exact d
   ·rw[List.getElem?_eq_none d]at b;cases b
  have h:s[i]=c:=by simpa[hi]using b
  have g:∀j,(a:j<i)→s[j]'(by omega)≠c:=λj a e=>by
   have:=l j a;rw[iQ]at this;simp[show j<s.length by omega,e]at this
  exact .inr ⟨i,hi,h,g,vm hi h g⟩
theorem qN {l:List UInt8}{p:UInt8→Bool}{k j:Nat}(h:(l.take k).all p=true)(a:j<k)(hl:j<l.length):p l[j]=true:=by
 refine List.all_eq_true.1 h _ ?_;have:(l.take k)[j]'(by simp;omega)=l[j]:=by simp
 rw[←this];exact List.getElem_mem _
theorem jB {l:List UInt8}{k:Nat}(g:k≤l.length)(m:(l.take k).all fF=true)(h:k=0∨k=l.length∨∃g:k<l.length,l[k]≠58∧fF l[k]=false)(hs:∀g:k<l.length,fF l[k]=false):ax l=([],[],false):=by
 unfold ax;rcases zj l 58 with⟨d,_⟩ | ⟨i,hi,a,p,d⟩
 ·rw[d];rfl
 ·rw[d];by_cases c:eh (l.take i)=true
  ·exfalso;unfold eh at c;simp only[Bool.and_eq_true]at c;have n:¬i<k:=λe=>by
    have:=qN m e hi;rw[a,vk]at this;cases this
   have o:¬k<i:=λf=>by
    have b:k<l.length:=(by omega);have:=qN c.2 f b;rw[hs b]at this;cases this
   have j:i=k:=(by omega);subst j;rcases h with h | h | ⟨_,h,_⟩
   ·subst h;simp at c
   ·omega
   ·exact h a
  ·have:eh (l.take i)=false:=(by simpa using c);simp[this]
theorem Ca {l:List UInt8}{k:Nat}(d:k<l.length)(a:(l.take k).all fF=true)(h0:0<k)(h:l[k]=58) :
  ax l=if (l.drop (k+1)).all aT then(l.take k,bm (l.drop (k+1)),true) else([],[],false):=by
 have b:=vm d h (λj c e=>by
  have:=qN a c (by omega);rw[e,vk]at this;cases this)
 rw[iS b];have f:eh (l.take k)=true:=by
  unfold eh;rw[a,Bool.and_true];cases hl:l.take k
  ·have:=congrArg List.length hl;rw[List.length_take,List.length_nil]at this;omega
  ·rfl
 rw[f];simp
def up (c:UInt8):UInt8:=if 97≤c∧c≤122 then c - 32 else c
theorem lS {p l:List UInt8}(h:p.all ay=true):cM (p++l)=cM l:=by
 induction p with
 | nil=>rfl
 | cons c p a =>
  simp only[List.all_cons,Bool.and_eq_true]at h;rw[List.cons_append,dX h.1,a h.2]
theorem sQ {p l:List UInt8}(h:p.all ay=true):bU (l++p)=bU l:=by
 unfold bU;rw[List.reverse_append];have:p.reverse.all ay=true:=by rw[List.all_reverse];exact h
 have a:=lS (l:=l.reverse) this;unfold cM at a;rw[a]
theorem zk {p q l:List UInt8}(a:p.all ay=true)(b:q.all ay=true):bm (p++l++q)=bm l:=by
 rw[dW,sQ b,←fP,lS a,fP,dW]
theorem nc (l:List UInt8):cM (cM l)=cM l:=by
 induction l with
 | nil=>rfl
 | cons c l a =>
  cases h:ay c
  ·rw[cI h,cI h]
  ·rw[dX h,a]
theorem vn (l:List UInt8):bU (bU l)=bU l:=by
 have:=nc l.reverse;unfold cM at this;unfold bU;rw[List.reverse_reverse,this]
theorem zl (l:List UInt8):bm (bm l)=bm l:=by
 rw[dW (bm l),dW l,fP (bU l),vn,nc]
theorem jd {p q:UInt8→Bool}{l:List UInt8}(h:l.all p=true):(l.dropWhile q).all p=true:=by
 rw[List.all_eq_true]at *;exact λx a=>h x ((List.dropWhile_sublist q).subset a)
theorem Cb {p:UInt8→Bool}{l:List UInt8}(h:l.all p=true):(bm l).all p=true:=by
 rw[dW];unfold cM bU;refine jd ?_;rw[List.all_reverse];refine jd ?_;rw[List.all_reverse];exact h
theorem Cc {n:List UInt8}(h:eh n=true):∀j,(a:j<n.length)→n[j]≠58:=λj a e=>by
 unfold eh at h;rw[Bool.and_eq_true,List.all_eq_true]at h;have:=h.2 n[j] (List.getElem_mem a);rw[e,vk]at this;cases this
theorem zm {n y:List UInt8}(h:eh n=true):Lib.cut (n++[58]++y) [58]=(n,y,true):=by
 have:=vm (s:=n++[58]++y) (c:=58) (k:=n.length) (by simp) (by simp) (λj a=>by
  have:=Cc h j a;simpa[List.getElem_append,a,show j<n.length+1 by omega]using this)
 rw[this];simp
theorem iv {n y:List UInt8}(h:eh n=true):ax (n++[58]++y)=if y.all aT then(n,bm y,true) else([],[],false):=by
 rw[iS (zm h),h];simp
theorem sR (l:List UInt8):ax l=([],[],false)∨∃n x,Lib.cut l [58]=(n,x,true)∧eh n=true∧x.all aT=true∧ax l=(n,bm x,true):=by
 obtain⟨⟨n,x,c⟩,a⟩:∃r,Lib.cut l [58]=r:=⟨_,rfl⟩;rw[iS a];by_cases h:(c&&eh n&&x.all aT)=true
 ·rw[if_pos h];simp only[Bool.and_eq_true]at h;obtain⟨⟨b,d⟩,e⟩:=h;subst b;exact .inr ⟨n,x,a,d,e,rfl⟩
 ·rw[if_neg h];exact .inl rfl
def nd (c:UInt8):Bool:=33≤c&&c≤126
theorem Cd (c:UInt8):nd c=decide (33≤(c.toNat:Int)∧(c.toNat:Int)≤126):=by
 rw[Bool.eq_iff_iff];simp[nd,UInt8.le_iff_toNat_le];omega
def D2:List UInt8:=[72,84,84,80,47,49,46,48]
def D3:List UInt8:=[72,84,84,80,47,49,46,49]
def jC (l:List UInt8):Nat:=if l=D2 then 10 else if l=D3 then 11 else 0
def bV (l:List UInt8):List UInt8×List UInt8×Nat×Bool :=
 let m:=(Lib.cut l [32]).1
 let t:=(Lib.cut (Lib.cut l [32]).2.1 [32]).1
 let v:=jC (Lib.cut (Lib.cut l [32]).2.1 [32]).2.1
 if t.all nd&&(eh m&&(!t.isEmpty&&v != 0)) then(m,t,v,true) else([],[],0,false)
theorem Ce {l m r t p:List UInt8}{c d:Bool}(a:Lib.cut l [32]=(m,r,c))(b:Lib.cut r [32]=(t,p,d)) :
  bV l=if t.all nd&&(eh m&&(!t.isEmpty&&jC p != 0)) then(m,t,jC p,true) else([],[],0,false):=by
 unfold bV;rw[a];dsimp only;rw[b]
def gJ:List UInt8:=[45,46,95,126,33,36,38,39,40,41,42,43,44,59,61,58,64,47]
def iw:List UInt8:=[48,49,50,51,52,53,54,55,56,57,97,98,99,100,101,102,65,66,67,68,69,70]
def ll (c:UInt8):Bool:=aV c||gJ.contains c
def dM (c:UInt8):Bool:=iw.contains c
def bE (q:Bool):List UInt8→Bool
 | []=>true
 | c :: t =>
  if ll c||(q&&c==63) then bE q t
  else if c==37 then match t with
   | a :: b :: t'=>dM a&&dM b&&bE q t'
   | _=>false
  else false
theorem sS {q:Bool}{c:UInt8}(t:List UInt8)(h:(ll c||(q&&c==63))=true):bE q (c :: t)=bE q t:=by
 conv=>lhs;unfold bE
 rw[if_pos h]
theorem vp {q:Bool}{c:UInt8}(t:List UInt8)(h:(ll c||(q&&c==63))=false)(a:c≠37):bE q (c :: t)=false:=by
 conv=>lhs;unfold bE
 rw[if_neg (by rw[h];decide),if_neg (by simpa using a)]
theorem D4:ll 37=false:=by decide +kernel
def Gz (q:Bool):List UInt8→Bool
 | a :: b :: t'=>dM a&&dM b&&bE q t'
 | _=>false
theorem ng (q:Bool)(t:List UInt8):bE q (37 :: t)=Gz q t:=by
 match t with
 | []=>cases q <;> rfl
 | [a]=>cases q <;> rfl
 | a :: b :: t'=>rw[bE,if_neg (by rw[D4];cases q <;> decide),if_pos (by decide)];rfl
def cJ (l:List UInt8):List UInt8×List UInt8×Bool :=
 let p:=(Lib.cut l [63]).1
 let q:=(Lib.cut l [63]).2.1
 if decide (l.length≤512)&&((Lib.hasPrefix p [47])&&(bE false p&&bE true q)) then(p,q,true) else([],[],false)
def dQ (c:UInt8):Bool:=48≤c&&c≤57
theorem dc (c:UInt8):dQ c=decide (48≤(c.toNat:Int)∧(c.toNat:Int)≤57):=by
 rw[Bool.eq_iff_iff];simp[dQ,UInt8.le_iff_toNat_le];omega
def qO (c:UInt8):Bool:=49≤c&&c≤53
theorem iR (c:UInt8):qO c=decide (49≤(c.toNat:Int)∧(c.toNat:Int)≤53):=by
 rw[Bool.eq_iff_iff];simp[qO,UInt8.le_iff_toNat_le];omega
def fC (a b c:UInt8):Option Nat:=if qO a&&(dQ b&&dQ c) then some (100*(a.toNat - 48)+10*(b.toNat - 48)+(c.toNat - 48)) else none
theorem qP {n:Nat}(a:100≤n)(b:n≤999):Lib.itoa (n:Int)=[UInt8.ofNat (48+n / 100),UInt8.ofNat (48+n / 10 % 10),UInt8.ofNat (48+n % 10)]:=by
 unfold Lib.itoa;rw[if_neg (by omega),Int.toNat_natCast,Lib.decDigits,dif_neg (by omega)];rw[Lib.decDigits_two (by omega) (by omega),show n / 10 / 10=n / 100 by omega];rfl
theorem vq {a b c:UInt8}{n:Nat}(h:fC a b c=some n):Lib.atoi [a,b,c]=some (n:Int)∧100≤n∧n≤599∧Lib.itoa (n:Int)=[a,b,c]:=by
 unfold fC at h;split at h
 ·rename_i d;rw[Bool.and_eq_true,Bool.and_eq_true,iR,dc,dc,decide_eq_true_eq,decide_eq_true_eq,decide_eq_true_eq]at d;obtain⟨⟨a1,a2⟩,⟨l,m⟩,c1,c2⟩:=d;have hn:=Option.some.inj h;have f:100≤n:=by omega
  have k:n≤599:=by omega
  refine⟨?_,f,k,?_⟩
  ·have e1:(a==45)=false:=qk.2 λe=>(by subst e;simp at a1);have e2:(a==43)=false:=qk.2 λe=>(by subst e;simp at a1);simp only[Lib.atoi,e1,e2,Bool.false_eq_true,if_false];have d1:Lib.digitVal a=some (a.toNat - 48):=(by unfold Lib.digitVal;rw[if_pos (by omega)]);have d2:Lib.digitVal b=some (b.toNat - 48):=(by unfold Lib.digitVal;rw[if_pos (by omega)]);have d3:Lib.digitVal c=some (c.toNat - 48):=(by unfold Lib.digitVal;rw[if_pos (by omega)]);have:Lib.decNat [a,b,c]=some n:=by
    simp only[Lib.decNat,List.isEmpty_cons,Bool.false_eq_true,if_false,Lib.decFrom,d1,d2,d3];congr 1;omega
   rw[this];rfl
  ·rw[qP f (by omega)];have g:UInt8.ofNat (48+n / 100)=a:=(by apply UInt8.toNat_inj.1;simp;omega);have i:UInt8.ofNat (48+n / 10 % 10)=b:=(by apply UInt8.toNat_inj.1;simp;omega);have j:UInt8.ofNat (48+n % 10)=c:=(by apply UInt8.toNat_inj.1;simp;omega);rw[g,i,j]
 ·cases h
theorem vu {n:Nat}{a b c:UInt8}(d:100≤n)(e:n≤599)(h:Lib.itoa (n:Int)=[a,b,c]):fC a b c=some n:=by
 rw[qP d (by omega)]at h;simp only[List.cons.injEq,and_true]at h;obtain⟨rfl,rfl,rfl⟩:=h;unfold fC;have e1:(UInt8.ofNat (48+n / 100)).toNat=48+n / 100:=by simp;omega
 have e2:(UInt8.ofNat (48+n / 10 % 10)).toNat=48+n / 10 % 10:=by simp;omega
 have e3:(UInt8.ofNat (48+n % 10)).toNat=48+n % 10:=by simp;omega
 rw[if_pos,e1,e2,e3]
 ·congr 1;omega
 ·rw[Bool.and_eq_true,Bool.and_eq_true,iR,dc,dc,e1,e2,e3,decide_eq_true_eq,decide_eq_true_eq,decide_eq_true_eq];omega
def aC:List UInt8:=[72,84,84,80,47,49,46,49,32]
def dh (l:List UInt8):Nat×List UInt8×Bool :=
 if Lib.hasPrefix l aC&&(decide (13≤l.length)&&((l[12]?==some 32)&&(l.drop 13).all aT)) then
  match fC (l.getD 9 0) (l.getD 10 0) (l.getD 11 0)with
  | some n=>(n,l.drop 13,true)
  | none=>(0,[],false)
 else(0,[],false)
theorem vw {l:List UInt8}{n:Nat}(h:(Lib.hasPrefix l aC&&(decide (13≤l.length)&&((l[12]?==some 32)&&(l.drop 13).all aT)))=true)(a:fC (l.getD 9 0) (l.getD 10 0) (l.getD 11 0)=some n):dh l=(n,l.drop 13,true):=by
 unfold dh;rw[if_pos h,a]
theorem kn {l:List UInt8}(h:(Lib.hasPrefix l aC&&(decide (13≤l.length)&&((l[12]?==some 32)&&(l.drop 13).all aT)))=false∨fC (l.getD 9 0) (l.getD 10 0) (l.getD 11 0)=none):dh l=(0,[],false):=by
 unfold dh;rcases h with h | h
 ·rw[if_neg (by rw[h];decide)]
 ·split
  ·rw[h]
  ·rfl
theorem vx {n:Nat}{r:List UInt8}(j:100≤n)(q:n≤999):dh (aC++Lib.itoa (n:Int)++[32]++r)=if decide (n≤599)&&r.all aT then(n,r,true) else(0,[],false):=by
 have hi:=qP j q;obtain⟨a,l⟩:∃a,UInt8.ofNat (48+n / 100)=a:=⟨_,rfl⟩;obtain⟨b,m⟩:∃a,UInt8.ofNat (48+n / 10 % 10)=a:=⟨_,rfl⟩;obtain⟨c,o⟩:∃a,UInt8.ofNat (48+n % 10)=a:=⟨_,rfl⟩;rw[l,m,o]at hi;have hl:aC++Lib.itoa (n:Int)++[32]++r=aC++a :: b :: c :: 32 :: r:=by rw[hi];simp
 have d:(Lib.hasPrefix (aC++a :: b :: c :: 32 :: r) aC&&(decide (13≤(aC++a :: b :: c :: 32 :: r).length)&&(((aC++a :: b :: c :: 32 :: r)[12]?==some 32)&&((aC++a :: b :: c :: 32 :: r).drop 13).all aT)))=r.all aT:=by
  have e1:Lib.hasPrefix (aC++a :: b :: c :: 32 :: r) aC=true:=List.isPrefixOf_iff_prefix.2 (List.prefix_append _ _);rw[e1];simp[aC]
 have g:(aC++a :: b :: c :: 32 :: r).getD 9 0=a:=rfl;have h:(aC++a :: b :: c :: 32 :: r).getD 10 0=b:=rfl;have i:(aC++a :: b :: c :: 32 :: r).getD 11 0=c:=rfl;rw[hl];cases p:r.all aT
 ·rw[kn (.inl (d.trans p)),Bool.and_false];rfl
 ·by_cases f:n≤599
  ·rw[vw (d.trans p) (by rw[g,h,i];exact vu j f hi),decide_eq_true f];rfl
  ·rw[kn (.inr ?_),decide_eq_false f]
   ·rfl
   rw[g,h,i];cases s:fC a b c with
   | none=>rfl
   | some k =>
    obtain⟨_,k2,k3,k4⟩:=vq s;exfalso;have e:=qP k2 (by omega);rw[k4]at e;simp only[List.cons.injEq,and_true]at e;rw[←l,←m,←o]at e;obtain⟨t,u,v⟩:=e;have x:=congrArg UInt8.toNat t;have y:=congrArg UInt8.toNat u;have z:=congrArg UInt8.toNat v;simp at x y z;omega
