/-
  The law SolveEnds holds: whatever the input, true; the input reads as it did. No condition.
-/
import Derived.Test.YtepodadinenmnaaGreatS14AxSoS
import Derived.Test.YtepodadinenmnaaGreatAxZ
import Derived.ProofKit
namespace Go.Proofs.YtepodadinenmnaaGreat
open Go.AX Go.ChangeShapes Go.WideShapes Go.ChangeAt Go.RowKit
theorem Tryz.own:ownKnob Tryz.prog.godebug=none:=by kernel_rfl
theorem Tryz.laidOut:laidOutB Tryz.prog=true:=by kernel_rfl
theorem Tryz.mapsOk:mapsRowed Tryz.prog=true:=by kernel_rfl
set_option maxRecDepth 100000 in
theorem solveEnds_lifted(y:Os)(d:y.Started)(H:Type)(enc:TypeId×Value->H):
 ReturnsInHanded {} Tryz.checked y 7 .any (Rows.solveEndsSpec.pre6 enc Tryz.prog Tryz.f7 Rows.solveEndsRow.domain false) (Rows.solveEndsSpec.post enc Tryz.prog Tryz.f7 false true false false):=by
 refine returnsInHanded_of_change (C:=Tryz.checked) Tryz.own d (by kernel_rfl) Tryz.func7
  (ChangeSpec.witness6 (enc:=enc) (C:=Tryz.checked) false ⟨#[],#[.agg #[.int .i64 0,.slice none 0 0],.agg #[.int .i64 0,.int .i64 0,.int .i64 0],.int .i64 0],[]⟩ 8 (by kernel_rfl) (by kernel_rfl) (by kernel_rfl) (by kernel_rfl)) ?_
 intro W base args u D m g w x _;have k:∀(j:Nat) t v,Tryz.f7.params[j]?=some t->args[j]?=some v->Value.okWide Tryz.prog W .any base t v:=g;have s:=w;obtain⟨p,q,o,B,_,_,_⟩:=w;obtain⟨rfl,rfl⟩:=trodVars_none B;obtain⟨xs,hx,h,i⟩:=rM (n:=8) (ss:=[(true,[.int .i64,.sl [.sl [.int .i64]]]),(true,[.int .i64,.int .i64,.int .i64]),(false,[.int .i64])]) (by kernel_rfl) o (λj t v h1 z=>k j t v (by simpa using h1) (by simpa using z));have e:u.length=3:=i;have A:an Tryz.prog 7 xs (λr=>r=.pv (.lit (.bool true))):=by
  replace hx:=Jq hx;obtain⟨v,L,a,b,c,l,rfl⟩:=hx;exact vb v L a b c l
 refine CB (f:=Tryz.f7) Tryz.laidOut (by kernel_rfl) rfl (by kernel_rfl) rfl ?_ s h A
 match u,e with
 |[_,_,_],_=>rfl
theorem solveEnds_k1:(Rows.solveEndsRow.inPlace==Tryz.prog.inPlace 7)=true:=by kernel_rfl
theorem solveEnds_k2:(Rows.solveEndsRow.unfollowed==Tryz.prog.unfollowed 7)=true:=by kernel_rfl
theorem solveEnds_k3:(Rows.solveEndsRow.recurses==Tryz.prog.recurses 7)=true:=by kernel_rfl
theorem solveEnds_k4:(Rows.solveEndsRow.named==Tryz.prog.varsNamed 7)=true:=by kernel_rfl
theorem solveEnds_k5:joinedFacts Tryz.prog 7 Tryz.f7 Rows.solveEndsSpec Rows.solveEndsRow=true:=by
 unfold joinedFacts;rw[Tryz.laidOut,Tryz.mapsOk,solveEnds_k1,solveEnds_k2,solveEnds_k3,solveEnds_k4]
 kernel_rfl
theorem solveEnds_k6:Tryz.prog.funcNamed Rows.solveEndsRow.func=some 7:=by kernel_rfl
theorem solveEnds_holds:Rows.SolveEndsSaid:=
 OpenClaim.holds_of_wide 7 Tryz.f7 rfl rfl rfl rfl rfl rfl rfl ⟨rfl,rfl,rfl,rfl,rfl⟩ rfl rfl rfl rfl rfl solveEnds_k6 Tryz.func7 solveEnds_k5
  (Sl (by kernel_rfl)) (by unfold Func.isWrapper;first|(rw[N9 (by decide+kernel)];kernel_rfl)|(rw[N8 (by decide+kernel)];exact⟨rfl,rfl⟩))
  (λb a H enc _=>solveEnds_lifted b a H enc)
end Go.Proofs.YtepodadinenmnaaGreat