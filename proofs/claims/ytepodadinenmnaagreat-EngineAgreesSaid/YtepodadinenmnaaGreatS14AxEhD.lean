/-
  The law EngineAgrees holds: whatever the input, true; the input reads as it did. No condition.
-/
import Derived.Test.YtepodadinenmnaaGreatS14AxEhS
import Derived.Test.YtepodadinenmnaaGreatAxZ
import Derived.ProofKit
namespace Go.Proofs.YtepodadinenmnaaGreat
open Go.AX Go.ChangeShapes Go.WideShapes Go.ChangeAt Go.RowKit
theorem Tryz.own:ownKnob Tryz.prog.godebug=none:=by kernel_rfl
theorem Tryz.laidOut:laidOutB Tryz.prog=true:=by kernel_rfl
theorem Tryz.mapsOk:mapsRowed Tryz.prog=true:=by kernel_rfl
set_option maxRecDepth 100000 in
theorem lY(os:Os)(started:os.Started)(H:Type)(enc:TypeId×Value→H):
 ReturnsInHanded {} Tryz.checked os 5 .any (Rows.engineAgreesSpec.pre6 enc Tryz.prog Tryz.f5 Rows.engineAgreesRow.domain false) (Rows.engineAgreesSpec.post enc Tryz.prog Tryz.f5 false true false false):=by
 refine returnsInHanded_of_change (C:=Tryz.checked) Tryz.own started (by kernel_rfl) Tryz.func5
  (ChangeSpec.witness6 (enc:=enc) (C:=Tryz.checked) false ⟨#[],#[.agg #[.int .i64 0,.slice none 0 0],.agg #[.int .i64 0,.int .i64 0,.int .i64 0],.slice none 0 0],[]⟩ 8 (by kernel_rfl) (by kernel_rfl) (by kernel_rfl) (by kernel_rfl)) ?_
 intro W base args ds gs before hval0 hW hcnd _;have hval:∀(j:Nat) t v,Tryz.f5.params[j]?=some t→args[j]?=some v→Value.okWide Tryz.prog W .any base t v:=hval0;have hW':=hW;obtain⟨p,q,hA0,hV,_,_,_⟩:=hW;obtain⟨rfl,rfl⟩:=trodVars_none hV;obtain⟨xs,hx,hfit,hlen⟩:=rI (n:=8) (ss:=[(true,[.int .i64,.sl [.sl [.int .i64]]]),(true,[.int .i64,.int .i64,.int .i64]),(false,[.sl [.int .i64]])]) (by kernel_rfl) hA0 (fun j t v h1 h2=>hval j t v (by simpa using h1) (by simpa using h2));have hlen':ds.length=3:=hlen;have hA:ao Tryz.prog 5 xs (fun r=>r=.pv (.lit (.bool true))):=by
  replace hx:=IW hx;obtain⟨v,L,a,b,c,l,rfl⟩:=hx;exact pu v L a b c l
 refine Cu (f:=Tryz.f5) Tryz.laidOut (by kernel_rfl) rfl (by kernel_rfl) rfl ?_ hW' hfit hA
 match ds,hlen' with
 |[_,_,_],_=>rfl
theorem pw:(Rows.engineAgreesRow.inPlace==Tryz.prog.inPlace 5)=true:=by kernel_rfl
theorem px:(Rows.engineAgreesRow.unfollowed==Tryz.prog.unfollowed 5)=true:=by kernel_rfl
theorem pz:(Rows.engineAgreesRow.recurses==Tryz.prog.recurses 5)=true:=by kernel_rfl
theorem pA:(Rows.engineAgreesRow.named==Tryz.prog.varsNamed 5)=true:=by kernel_rfl
theorem pB:joinedFacts Tryz.prog 5 Tryz.f5 Rows.engineAgreesSpec Rows.engineAgreesRow=true:=by
 unfold joinedFacts;rw[Tryz.laidOut,Tryz.mapsOk,pw,px,pz,pA]
 kernel_rfl
theorem pC:Tryz.prog.funcNamed Rows.engineAgreesRow.func=some 5:=by kernel_rfl
theorem engineAgrees_holds:Rows.EngineAgreesSaid:=
 OpenClaim.holds_of_wide 5 Tryz.f5 rfl rfl rfl rfl rfl rfl rfl ⟨rfl,rfl,rfl,rfl,rfl⟩ rfl rfl rfl rfl rfl pC Tryz.func5 pB
  (of_decide_eq_true (by kernel_rfl)) (by unfold Func.isWrapper;first|(rw[if_pos (by decide+kernel)];kernel_rfl)|(rw[if_neg (by decide+kernel)];exact⟨rfl,rfl⟩))
  (fun os started H enc _=>lY os started H enc)
end Go.Proofs.YtepodadinenmnaaGreat