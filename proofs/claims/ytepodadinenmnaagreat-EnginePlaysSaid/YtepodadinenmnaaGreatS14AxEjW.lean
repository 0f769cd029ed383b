/-
  The law EnginePlays holds: whatever the input, true; the input reads as it did. No condition.
-/
import Derived.Test.YtepodadinenmnaaGreatS14AxEjA
import Derived.Test.YtepodadinenmnaaGreatS14AxEjU
import Derived.Test.YtepodadinenmnaaGreatAxZ
import Derived.ProofKit
namespace Go.Proofs.YtepodadinenmnaaGreat
open Go.AX Go.ChangeShapes Go.WideShapes Go.ChangeAt Go.RowKit
theorem Tryz.own:ownKnob Tryz.prog.godebug=none:=by kernel_rfl
theorem Tryz.laidOut:laidOutB Tryz.prog=true:=by kernel_rfl
theorem Tryz.mapsOk:mapsRowed Tryz.prog=true:=by kernel_rfl
set_option maxRecDepth 100000 in
theorem oH(y:Os)(d:y.Started)(H:Type)(enc:TypeId×Value->H):
 ReturnsInHanded {} Tryz.checked y 3 .any (Rows.enginePlaysSpec.pre6 enc Tryz.prog Tryz.f3 Rows.enginePlaysRow.domain false) (Rows.enginePlaysSpec.post enc Tryz.prog Tryz.f3 false true false false):=by
 refine returnsInHanded_of_change (C:=Tryz.checked) Tryz.own d (by kernel_rfl) Tryz.func3
  (ChangeSpec.witness6 (enc:=enc) (C:=Tryz.checked) false ⟨#[],#[.agg #[.int .i64 0,.slice none 0 0],.agg #[.int .i64 0,.int .i64 0,.int .i64 0],.slice none 0 0],[]⟩ 8 (by kernel_rfl) (by kernel_rfl) (by kernel_rfl) (by kernel_rfl)) ?_
 intro W base args u D m g w x _;have k:∀(j:Nat) t v,Tryz.f3.params[j]?=some t->args[j]?=some v->Value.okWide Tryz.prog W .any base t v:=g;have s:=w;obtain⟨p,q,o,B,_,_,_⟩:=w;obtain⟨rfl,rfl⟩:=trodVars_none B;obtain⟨xs,hx,h,i⟩:=tU (n:=8) (ss:=[(true,[.int .i64,.sl [.sl [.int .i64]]]),(true,[.int .i64,.int .i64,.int .i64]),(false,[.sl [.int .i64]])]) (by kernel_rfl) o (λj t v h1 z=>k j t v (by simpa using h1) (by simpa using z));have e:u.length=3:=i;have A:am Tryz.prog 3 xs (λr=>r=.pv (.lit (.bool true))):=by
  replace hx:=Ng hx;obtain⟨v,L,a,b,c,l,rfl⟩:=hx;exact tY v L a b c l
 refine F3 (f:=Tryz.f3) Tryz.laidOut (by kernel_rfl) rfl (by kernel_rfl) rfl ?_ s h A
 match u,e with
 |[_,_,_],_=>rfl
theorem tZ:(Rows.enginePlaysRow.inPlace==Tryz.prog.inPlace 3)=true:=by kernel_rfl
theorem t6:(Rows.enginePlaysRow.unfollowed==Tryz.prog.unfollowed 3)=true:=by kernel_rfl
theorem t7:(Rows.enginePlaysRow.recurses==Tryz.prog.recurses 3)=true:=by kernel_rfl
theorem t8:(Rows.enginePlaysRow.named==Tryz.prog.varsNamed 3)=true:=by kernel_rfl
theorem ua:joinedFacts Tryz.prog 3 Tryz.f3 Rows.enginePlaysSpec Rows.enginePlaysRow=true:=by
 unfold joinedFacts;rw[Tryz.laidOut,Tryz.mapsOk,tZ,t6,t7,t8]
 kernel_rfl
theorem ub:Tryz.prog.funcNamed Rows.enginePlaysRow.func=some 3:=by kernel_rfl
theorem enginePlays_holds:Rows.EnginePlaysSaid:=
 OpenClaim.holds_of_wide 3 Tryz.f3 rfl rfl rfl rfl rfl rfl rfl ⟨rfl,rfl,rfl,rfl,rfl⟩ rfl rfl rfl rfl rfl ub Tryz.func3 ua
  (Vl (by kernel_rfl)) (by unfold Func.isWrapper;first|(rw[Rx (by decide+kernel)];kernel_rfl)|(rw[Rw (by decide+kernel)];exact⟨rfl,rfl⟩))
  (λb a H enc _=>oH b a H enc)
end Go.Proofs.YtepodadinenmnaaGreat