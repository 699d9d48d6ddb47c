/-
  SessionTells: what a session tells are replies, each whole, and, behind one of 101 only, whole frames of the server's; nothing behind a close but the end, nothing behind the end. No condition.
-/
import Derived.Test.YtadobobfjnmdlaaGreatDoorCards
import Derived.Test.YtadobobfjnmdlaaGreatDoorTie
import Derived.Test.YtadobobfjnmdlaaGreatDoorFb
set_option linter.unnecessarySimpa false
set_option linter.unusedVariables false
set_option linter.unusedSimpArgs false
set_option maxHeartbeats 16000000
set_option maxRecDepth 100000
open Go.Proofs.Tryz
namespace Go.Proofs.YtadobobfjnmdlaaGreatDoor.zSessionTells
open Go.ChangeShapes Go.WideShapes Go.ChangeAt Go.RowKit
open Go.ChangeMaps (open_string)
theorem Dy (H:Type)(enc:TypeId×Value→H)(W:World)(base:Nat)(args:Array Value)(u F:List (DataW H))(b:List MemPlace)
  (a:∀(j:Nat) t v,Tryz.f5.params[j]?=some t→args[j]?=some v→Value.okWide prog W .any base t v)
  (x:DataW.Whole enc prog Tryz.f5.params.toList Rows.sessionTellsSpec.vars false W args.toList u F b) (L:G W) :
  Calls prog 5 args W λe s=>∃v,e=.returned v∧Rows.sessionTellsSpec.post enc prog Tryz.f5 false true false false W args v s:=by
 have g:=x;obtain⟨p,q,c,M,rfl,_,_⟩:=x;have w:DataW.TrodAll enc prog W 0 (λ_=>true) true Tryz.f5.params.toList args.toList u p:=c;rw[Tryz.params5]at w a;obtain⟨y,T,X,C,Y,q0,h,rfl,rfl,h0,P⟩:=trodAll_cons w;obtain⟨z,U,d1,D,Z,q1,rfl,rfl,rfl,I,R⟩:=trodAll_cons P;obtain⟨A,V,d2,E,p2,q2,rfl,rfl,rfl,J,S⟩:=trodAll_cons R;obtain⟨rfl,rfl,rfl⟩:=trodAll_nil S;obtain rfl:args=#[y,z,A]:=by cases args;simp_all
 obtain⟨rfl,rfl⟩:=trodVars_none M;obtain⟨o,rfl,rfl,rfl,m⟩:=open_int underlying3 (a 0 3 y rfl rfl) h0;have bx0:-9223372036854775808≤o∧o≤9223372036854775807:=by simpa[Lit.wf,IntKind.min,IntKind.max,IntKind.signed,IntKind.bits]using m
 obtain⟨r,rfl,rfl,rfl,n⟩:=open_int underlying3 (a 1 3 z rfl rfl) I;have B:-9223372036854775808≤r∧r≤9223372036854775807:=by simpa[Lit.wf,IntKind.min,IntKind.max,IntKind.signed,IntKind.bits]using n
 obtain⟨a2,l,d,rfl,i,k⟩:=Ee (a 2 30 A rfl rfl) J;clear c;refine(rZ o r l d a2 W L i k).mono λe s ⟨N,O⟩=>?_;subst N;exact⟨_,rfl,B7 g rfl rfl rfl rfl rfl (by kernel_rfl) O⟩
theorem reads (os:Os){H:Type}(enc:TypeId×Value→H):∃a,DataW.whole enc prog ((laidWorld os).forCall (λ_ _=>0) ⟨#[],#[.int .i64 0,.int .i64 0,.slice none 0 0],[]⟩).memory Tryz.f5.params.toList Rows.sessionTellsSpec.vars false (#[.int .i64 0,.int .i64 0,.slice none 0 0]:Array Value).toList 8=some ([.lit (.int .i64 0),.lit (.int .i64 0),.nil],[],a) :=
 ⟨[],by kernel_rfl⟩
theorem FI (os:Os)(a:os.Started)(H:Type)(enc:TypeId×Value→H)(F:Stop.Interp) :
  ReturnsInHanded {} Tryz.checked os 5 .any ((OpenSpec.ofChange Rows.sessionTellsSpec).preRow enc prog Tryz.f5 Rows.sessionTellsRow.domain false Rows.sessionTellsRow.laid) (((OpenSpec.ofChange Rows.sessionTellsSpec).at F).post enc prog Tryz.f5 false true false false):=by
 obtain⟨d,m⟩:=reads os enc;refine returnsInHanded_of_row (C:=Tryz.checked) (s:=OpenSpec.ofChange Rows.sessionTellsSpec) own a (by kernel_rfl) func5
  (witness_row_at (enc:=enc) (C:=Tryz.checked) false (laidWorld os) #[.int .i64 0,.int .i64 0,.slice none 0 0] rfl (by kernel_rfl) (by kernel_rfl) (by kernel_rfl)
   (OpenSpec.preRow_of_cond 8 m (by kernel_rfl) (λk l=>by cases l) (by kernel_rfl) (Ct os _))) ?_
 intro W base args g h b c j _ _ _ i e _;exact Dy H enc W base args g h b c j (GB i e)
theorem said:Rows.SessionTellsSaid :=
 OpenClaim.holds_of_cond 5 Tryz.f5 rfl rfl rfl rfl rfl rfl rfl ⟨rfl,rfl,rfl,rfl,rfl⟩ rfl rfl rfl rfl rfl (by kernel_rfl) func5 (by kernel_rfl)
  (of_decide_eq_true (by kernel_rfl)) (by unfold Func.isWrapper;rw[if_neg (of_decide_eq_false (by kernel_rfl))];exact⟨rfl,rfl⟩)
  (λos a H enc _ F=>by rw[OpenClaim.pre_eq_preRow];exact FI os a H enc F)
theorem plain (f:FuncId)(fn:Func)(hf:Tryz.pinned.checked.prog.funcNamed "crier/crierlaw28.SessionTells"=some f)(b:Tryz.pinned.checked.prog.funcs[f]?=some fn) :
  true=Tryz.pinned.checked.prog.looks []∧∀(j:Nat) t,fn.params[j]?=some t→Tryz.pinned.checked.prog.wantsStandIn t=false:=by
 obtain rfl:f = 5:=Option.some.inj ((show prog.funcNamed "crier/crierlaw28.SessionTells"=some 5 by kernel_rfl).symm.trans hf) |>.symm;obtain rfl:fn=Tryz.f5:=(Option.some.inj (func5.symm.trans b)).symm;refine⟨by kernel_rfl,λj t c=>?_⟩;rw[Tryz.params5]at c;have hm:t∈([3,3,30]:List TypeId):=by simpa using Array.mem_of_getElem? c
 have a:(([3,3,30]:List TypeId).all λu=>!prog.wantsStandIn u)=true:=by kernel_rfl
 exact(show prog.wantsStandIn t=false by simpa using List.all_eq_true.1 a t hm)
theorem card:Rows.SessionTellsCardSaid :=
 Claim7.holds_tied_plain_at .later [] _ _ _ _ said (λ_ h=>by cases h) (by kernel_rfl) (λ_ h=>by cases h) sessionTells_row_tie rfl ⟨rfl,rfl⟩ (by kernel_rfl) rfl plain (by kernel_rfl)
