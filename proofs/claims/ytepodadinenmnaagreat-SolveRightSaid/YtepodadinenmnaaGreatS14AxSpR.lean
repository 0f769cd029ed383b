/-
  The law SolveRight holds: whatever the input, true; the input reads as it did. No condition.
-/
import Derived.Test.YtepodadinenmnaaGreatS14AxSoS
import Derived.Test.YtepodadinenmnaaGreatS14AxSpD
import Derived.Test.YtepodadinenmnaaGreatAxZ
import Derived.ProofKit
namespace Go.Proofs.YtepodadinenmnaaGreat
open Go.AX Go.ChangeShapes Go.WideShapes Go.ChangeAt Go.RowKit
theorem Tryz.own:ownKnob Tryz.prog.godebug=none:=by kernel_rfl
theorem Tryz.laidOut:laidOutB Tryz.prog=true:=by kernel_rfl
theorem Tryz.mapsOk:mapsRowed Tryz.prog=true:=by kernel_rfl
set_option maxRecDepth 100000 in
theorem solveRight_lifted(y:Os)(d:y.Started)(H:Type)(enc:TypeId×Value->H):
 ReturnsInHanded {} Tryz.checked y 9 .any (Rows.solveRightSpec.pre6 enc Tryz.prog Tryz.f9 Rows.solveRightRow.domain false) (Rows.solveRightSpec.post enc Tryz.prog Tryz.f9 false true false false):=by
 refine returnsInHanded_of_change (C:=Tryz.checked) Tryz.own d (by kernel_rfl) Tryz.func9
  (ChangeSpec.witness6 (enc:=enc) (C:=Tryz.checked) false ⟨#[],#[.agg #[.int .i64 0,.slice none 0 0],.agg #[.int .i64 0,.int .i64 0,.int .i64 0],.int .i64 0],[]⟩ 8 (by kernel_rfl) (by kernel_rfl) (by kernel_rfl) (by kernel_rfl)) ?_
 intro W base args u D m g w x _;have k:∀(j:Nat) t v,Tryz.f9.params[j]?=some t->args[j]?=some v->Value.okWide Tryz.prog W .any base t v:=g;have s:=w;obtain⟨p,q,o,B,_,_,_⟩:=w;obtain⟨rfl,rfl⟩:=trodVars_none B;obtain⟨xs,hx,h,i⟩:=uE (n:=8) (ss:=[(true,[.int .i64,.sl [.sl [.int .i64]]]),(true,[.int .i64,.int .i64,.int .i64]),(false,[.int .i64])]) (by kernel_rfl) o (λj t v h1 z=>k j t v (by simpa using h1) (by simpa using z));have e:u.length=3:=i;have A:ak Tryz.prog 9 xs (λr=>r=.pv (.lit (.bool true))):=by
  replace hx:=Oj hx;obtain⟨v,L,a,b,c,l,rfl⟩:=hx;exact uX v L a b c l
 refine GD (f:=Tryz.f9) Tryz.laidOut (by kernel_rfl) rfl (by kernel_rfl) rfl ?_ s h A
 match u,e with
 |[_,_,_],_=>rfl
theorem solveRight_k1:(Rows.solveRightRow.inPlace==Tryz.prog.inPlace 9)=true:=by kernel_rfl
theorem solveRight_k2:(Rows.solveRightRow.unfollowed==Tryz.prog.unfollowed 9)=true:=by kernel_rfl
theorem solveRight_k3:(Rows.solveRightRow.recurses==Tryz.prog.recurses 9)=true:=by kernel_rfl
theorem solveRight_k4:(Rows.solveRightRow.named==Tryz.prog.varsNamed 9)=true:=by kernel_rfl
theorem solveRight_k5:joinedFacts Tryz.prog 9 Tryz.f9 Rows.solveRightSpec Rows.solveRightRow=true:=by
 unfold joinedFacts;rw[Tryz.laidOut,Tryz.mapsOk,solveRight_k1,solveRight_k2,solveRight_k3,solveRight_k4]
 kernel_rfl
theorem solveRight_k6:Tryz.prog.funcNamed Rows.solveRightRow.func=some 9:=by kernel_rfl
theorem solveRight_holds:Rows.SolveRightSaid:=
 OpenClaim.holds_of_wide 9 Tryz.f9 rfl rfl rfl rfl rfl rfl rfl ⟨rfl,rfl,rfl,rfl,rfl⟩ rfl rfl rfl rfl rfl solveRight_k6 Tryz.func9 solveRight_k5
  (Xj (by kernel_rfl)) (by unfold Func.isWrapper;first|(rw[SN (by decide+kernel)];kernel_rfl)|(rw[SM (by decide+kernel)];exact⟨rfl,rfl⟩))
  (λb a H enc _=>solveRight_lifted b a H enc)
end Go.Proofs.YtepodadinenmnaaGreat