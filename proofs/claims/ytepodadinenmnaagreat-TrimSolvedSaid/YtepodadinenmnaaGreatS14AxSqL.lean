/-
  The law TrimSolved holds: whatever the input, true; the input reads as it did. No condition.
-/
import Derived.Test.YtepodadinenmnaaGreatZP
import Derived.Test.YtepodadinenmnaaGreatZQ
namespace Go.Proofs.YtepodadinenmnaaGreat
open Go.AX Go.ChangeShapes Go.WideShapes Go.ChangeAt Go.RowKit
theorem Tryz.own:ownKnob Tryz.prog.godebug=none:=by kernel_rfl
theorem Tryz.laidOut:laidOutB Tryz.prog=true:=by kernel_rfl
theorem Tryz.mapsOk:mapsRowed Tryz.prog=true:=by kernel_rfl
set_option maxRecDepth 100000 in
theorem trimSolved_lifted(y:Os)(d:y.Started)(H:Type)(enc:TypeId×Value->H):
 ReturnsInHanded {} Tryz.checked y 10 .any (Rows.trimSolvedSpec.pre6 enc Tryz.prog Tryz.f10 Rows.trimSolvedRow.domain false) (Rows.trimSolvedSpec.post enc Tryz.prog Tryz.f10 false true false false):=by
 refine returnsInHanded_of_change (C:=Tryz.checked) Tryz.own d (by kernel_rfl) Tryz.func10
  (ChangeSpec.witness6 (enc:=enc) (C:=Tryz.checked) false ⟨#[],#[.agg #[.int .i64 0,.slice none 0 0],.agg #[.int .i64 0,.int .i64 0,.int .i64 0],.int .i64 0],[]⟩ 8 (by kernel_rfl) (by kernel_rfl) (by kernel_rfl) (by kernel_rfl)) ?_
 intro W base args u D m g w x _;have k:∀(j:Nat) t v,Tryz.f10.params[j]?=some t->args[j]?=some v->Value.okWide Tryz.prog W .any base t v:=g;have s:=w;obtain⟨p,q,o,B,_,_,_⟩:=w;obtain⟨rfl,rfl⟩:=trodVars_none B;obtain⟨xs,hx,h,i⟩:=wI (n:=8) (ss:=[(true,[.int .i64,.sl [.sl [.int .i64]]]),(true,[.int .i64,.int .i64,.int .i64]),(false,[.int .i64])]) (by kernel_rfl) o (λj t v h1 z=>k j t v (by simpa using h1) (by simpa using z));have e:u.length=3:=i;have A:aw Tryz.prog 10 xs (λr=>r=.pv (.lit (.bool true))):=by
  replace hx:=Q9 hx;obtain⟨v,L,a,b,c,l,rfl⟩:=hx;exact w7 v L a b c l
 refine JB (f:=Tryz.f10) Tryz.laidOut (by kernel_rfl) rfl (by kernel_rfl) rfl ?_ s h A
 match u,e with
 |[_,_,_],_=>rfl
theorem trimSolved_k1:(Rows.trimSolvedRow.inPlace==Tryz.prog.inPlace 10)=true:=by kernel_rfl
theorem trimSolved_k2:(Rows.trimSolvedRow.unfollowed==Tryz.prog.unfollowed 10)=true:=by kernel_rfl
theorem trimSolved_k3:(Rows.trimSolvedRow.recurses==Tryz.prog.recurses 10)=true:=by kernel_rfl
theorem trimSolved_k4:(Rows.trimSolvedRow.named==Tryz.prog.varsNamed 10)=true:=by kernel_rfl
theorem trimSolved_k5:joinedFacts Tryz.prog 10 Tryz.f10 Rows.trimSolvedSpec Rows.trimSolvedRow=true:=by
 unfold joinedFacts;rw[Tryz.laidOut,Tryz.mapsOk,trimSolved_k1,trimSolved_k2,trimSolved_k3,trimSolved_k4]
 kernel_rfl
theorem trimSolved_k6:Tryz.prog.funcNamed Rows.trimSolvedRow.func=some 10:=by kernel_rfl
theorem trimSolved_holds:Rows.TrimSolvedSaid:=
 OpenClaim.holds_of_wide 10 Tryz.f10 rfl rfl rfl rfl rfl rfl rfl ⟨rfl,rfl,rfl,rfl,rfl⟩ rfl rfl rfl rfl rfl trimSolved_k6 Tryz.func10 trimSolved_k5
  (Zy (by kernel_rfl)) (by unfold Func.isWrapper;first|(rw[Vt (by decide+kernel)];kernel_rfl)|(rw[Vs (by decide+kernel)];exact⟨rfl,rfl⟩))
  (λb a H enc _=>trimSolved_lifted b a H enc)
end Go.Proofs.YtepodadinenmnaaGreat