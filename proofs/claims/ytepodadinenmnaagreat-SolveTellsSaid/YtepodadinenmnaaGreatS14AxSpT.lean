/-
  The law SolveTells holds: whatever the input, true; the input reads as it did. No condition.
-/
import Derived.Test.YtepodadinenmnaaGreatS14AxSoS
import Derived.Test.YtepodadinenmnaaGreatS14AxSpE
import Derived.Test.YtepodadinenmnaaGreatAxZ
import Derived.ProofKit
namespace Go.Proofs.YtepodadinenmnaaGreat
open Go.AX Go.ChangeShapes Go.WideShapes Go.ChangeAt Go.RowKit
theorem Tryz.own:ownKnob Tryz.prog.godebug=none:=by kernel_rfl
theorem Tryz.laidOut:laidOutB Tryz.prog=true:=by kernel_rfl
theorem Tryz.mapsOk:mapsRowed Tryz.prog=true:=by kernel_rfl
set_option maxRecDepth 100000 in
theorem solveTells_lifted(y:Os)(d:y.Started)(H:Type)(enc:TypeId×Value->H):
 ReturnsInHanded {} Tryz.checked y 6 .any (Rows.solveTellsSpec.pre6 enc Tryz.prog Tryz.f6 Rows.solveTellsRow.domain false) (Rows.solveTellsSpec.post enc Tryz.prog Tryz.f6 false true false false):=by
 refine returnsInHanded_of_change (C:=Tryz.checked) Tryz.own d (by kernel_rfl) Tryz.func6
  (ChangeSpec.witness6 (enc:=enc) (C:=Tryz.checked) false ⟨#[],#[.agg #[.int .i64 0,.slice none 0 0],.agg #[.int .i64 0,.int .i64 0,.int .i64 0],.int .i64 0],[]⟩ 8 (by kernel_rfl) (by kernel_rfl) (by kernel_rfl) (by kernel_rfl)) ?_
 intro W base args u D m g w x _;have k:∀(j:Nat) t v,Tryz.f6.params[j]?=some t->args[j]?=some v->Value.okWide Tryz.prog W .any base t v:=g;have s:=w;obtain⟨p,q,o,B,_,_,_⟩:=w;obtain⟨rfl,rfl⟩:=trodVars_none B;obtain⟨xs,hx,h,i⟩:=uA (n:=8) (ss:=[(true,[.int .i64,.sl [.sl [.int .i64]]]),(true,[.int .i64,.int .i64,.int .i64]),(false,[.int .i64])]) (by kernel_rfl) o (λj t v h1 z=>k j t v (by simpa using h1) (by simpa using z));have e:u.length=3:=i;have A:aj Tryz.prog 6 xs (λr=>r=.pv (.lit (.bool true))):=by
  replace hx:=On hx;obtain⟨v,L,a,b,c,l,rfl⟩:=hx;exact uW v L a b c l
 refine GV (f:=Tryz.f6) Tryz.laidOut (by kernel_rfl) rfl (by kernel_rfl) rfl ?_ s h A
 match u,e with
 |[_,_,_],_=>rfl
theorem solveTells_k1:(Rows.solveTellsRow.inPlace==Tryz.prog.inPlace 6)=true:=by kernel_rfl
theorem solveTells_k2:(Rows.solveTellsRow.unfollowed==Tryz.prog.unfollowed 6)=true:=by kernel_rfl
theorem solveTells_k3:(Rows.solveTellsRow.recurses==Tryz.prog.recurses 6)=true:=by kernel_rfl
theorem solveTells_k4:(Rows.solveTellsRow.named==Tryz.prog.varsNamed 6)=true:=by kernel_rfl
theorem solveTells_k5:joinedFacts Tryz.prog 6 Tryz.f6 Rows.solveTellsSpec Rows.solveTellsRow=true:=by
 unfold joinedFacts;rw[Tryz.laidOut,Tryz.mapsOk,solveTells_k1,solveTells_k2,solveTells_k3,solveTells_k4]
 kernel_rfl
theorem solveTells_k6:Tryz.prog.funcNamed Rows.solveTellsRow.func=some 6:=by kernel_rfl
theorem solveTells_holds:Rows.SolveTellsSaid:=
 OpenClaim.holds_of_wide 6 Tryz.f6 rfl rfl rfl rfl rfl rfl rfl ⟨rfl,rfl,rfl,rfl,rfl⟩ rfl rfl rfl rfl rfl solveTells_k6 Tryz.func6 solveTells_k5
  (WN (by kernel_rfl)) (by unfold Func.isWrapper;first|(rw[SX (by decide+kernel)];kernel_rfl)|(rw[SU (by decide+kernel)];exact⟨rfl,rfl⟩))
  (λb a H enc _=>solveTells_lifted b a H enc)
end Go.Proofs.YtepodadinenmnaaGreat