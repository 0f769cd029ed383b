/-
  The law EngineModels holds: whatever the input, true; the input reads as it did. No condition.
-/
import Derived.Test.YtepodadinenmnaaGreatS14AxEhS
import Derived.Test.YtepodadinenmnaaGreatS14AxEjV
import Derived.Test.YtepodadinenmnaaGreatAxZ
import Derived.ProofKit
namespace Go.Proofs.YtepodadinenmnaaGreat
open Go.AX Go.ChangeShapes Go.WideShapes Go.ChangeAt Go.RowKit
theorem Tryz.own:ownKnob Tryz.prog.godebug=none:=by kernel_rfl
theorem Tryz.laidOut:laidOutB Tryz.prog=true:=by kernel_rfl
theorem Tryz.mapsOk:mapsRowed Tryz.prog=true:=by kernel_rfl
set_option maxRecDepth 100000 in
theorem ns(y:Os)(d:y.Started)(H:Type)(enc:TypeId×Value->H):
 ReturnsInHanded {} Tryz.checked y 4 .any (Rows.engineModelsSpec.pre6 enc Tryz.prog Tryz.f4 Rows.engineModelsRow.domain false) (Rows.engineModelsSpec.post enc Tryz.prog Tryz.f4 false true false false):=by
 refine returnsInHanded_of_change (C:=Tryz.checked) Tryz.own d (by kernel_rfl) Tryz.func4
  (ChangeSpec.witness6 (enc:=enc) (C:=Tryz.checked) false ⟨#[],#[.agg #[.int .i64 0,.slice none 0 0],.agg #[.int .i64 0,.int .i64 0,.int .i64 0],.slice none 0 0],[]⟩ 8 (by kernel_rfl) (by kernel_rfl) (by kernel_rfl) (by kernel_rfl)) ?_
 intro W base args u D m g w x _;have k:∀(j:Nat) t v,Tryz.f4.params[j]?=some t->args[j]?=some v->Value.okWide Tryz.prog W .any base t v:=g;have s:=w;obtain⟨p,q,o,B,_,_,_⟩:=w;obtain⟨rfl,rfl⟩:=trodVars_none B;obtain⟨xs,hx,h,i⟩:=ud (n:=8) (ss:=[(true,[.int .i64,.sl [.sl [.int .i64]]]),(true,[.int .i64,.int .i64,.int .i64]),(false,[.sl [.int .i64]])]) (by kernel_rfl) o (λj t v h1 z=>k j t v (by simpa using h1) (by simpa using z));have e:u.length=3:=i;have A:am Tryz.prog 4 xs (λr=>r=.pv (.lit (.bool true))):=by
  replace hx:=Nq hx;obtain⟨v,L,a,b,c,l,rfl⟩:=hx;exact rm v L a b c l
 refine F9 (f:=Tryz.f4) Tryz.laidOut (by kernel_rfl) rfl (by kernel_rfl) rfl ?_ s h A
 match u,e with
 |[_,_,_],_=>rfl
theorem rn:(Rows.engineModelsRow.inPlace==Tryz.prog.inPlace 4)=true:=by kernel_rfl
theorem ro:(Rows.engineModelsRow.unfollowed==Tryz.prog.unfollowed 4)=true:=by kernel_rfl
theorem rp:(Rows.engineModelsRow.recurses==Tryz.prog.recurses 4)=true:=by kernel_rfl
theorem rq:(Rows.engineModelsRow.named==Tryz.prog.varsNamed 4)=true:=by kernel_rfl
theorem rr:joinedFacts Tryz.prog 4 Tryz.f4 Rows.engineModelsSpec Rows.engineModelsRow=true:=by
 unfold joinedFacts;rw[Tryz.laidOut,Tryz.mapsOk,rn,ro,rp,rq]
 kernel_rfl
theorem ru:Tryz.prog.funcNamed Rows.engineModelsRow.func=some 4:=by kernel_rfl
theorem engineModels_holds:Rows.EngineModelsSaid:=
 OpenClaim.holds_of_wide 4 Tryz.f4 rfl rfl rfl rfl rfl rfl rfl ⟨rfl,rfl,rfl,rfl,rfl⟩ rfl rfl rfl rfl rfl ru Tryz.func4 rr
  (Vw (by kernel_rfl)) (by unfold Func.isWrapper;first|(rw[RI (by decide+kernel)];kernel_rfl)|(rw[RH (by decide+kernel)];exact⟨rfl,rfl⟩))
  (λb a H enc _=>ns b a H enc)
end Go.Proofs.YtepodadinenmnaaGreat