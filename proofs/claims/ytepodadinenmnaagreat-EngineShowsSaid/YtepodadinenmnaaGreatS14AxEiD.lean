/-
  The law EngineShows holds: whatever the input, true; the input reads as it did. No condition.
-/
import Derived.Test.YtepodadinenmnaaGreatS14AxEhS
import Derived.Test.YtepodadinenmnaaGreatS14AxEiC
import Derived.Test.YtepodadinenmnaaGreatAxZ
import Derived.ProofKit
namespace Go.Proofs.YtepodadinenmnaaGreat
open Go.AX Go.ChangeShapes Go.WideShapes Go.ChangeAt Go.RowKit
theorem Tryz.own:ownKnob Tryz.prog.godebug=none:=by kernel_rfl
theorem Tryz.laidOut:laidOutB Tryz.prog=true:=by kernel_rfl
theorem Tryz.mapsOk:mapsRowed Tryz.prog=true:=by kernel_rfl
set_option maxRecDepth 100000 in
theorem oh(y:Os)(d:y.Started)(H:Type)(enc:TypeId×Value->H):
 ReturnsInHanded {} Tryz.checked y 8 .any (Rows.engineShowsSpec.pre6 enc Tryz.prog Tryz.f8 Rows.engineShowsRow.domain false) (Rows.engineShowsSpec.post enc Tryz.prog Tryz.f8 false true false false):=by
 refine returnsInHanded_of_change (C:=Tryz.checked) Tryz.own d (by kernel_rfl) Tryz.func8
  (ChangeSpec.witness6 (enc:=enc) (C:=Tryz.checked) false ⟨#[],#[.agg #[.int .i64 0,.slice none 0 0],.agg #[.int .i64 0,.int .i64 0,.int .i64 0],.slice none 0 0],[]⟩ 8 (by kernel_rfl) (by kernel_rfl) (by kernel_rfl) (by kernel_rfl)) ?_
 intro W base args u D m g w x _;have k:∀(j:Nat) t v,Tryz.f8.params[j]?=some t->args[j]?=some v->Value.okWide Tryz.prog W .any base t v:=g;have s:=w;obtain⟨p,q,o,B,_,_,_⟩:=w;obtain⟨rfl,rfl⟩:=trodVars_none B;obtain⟨xs,hx,h,i⟩:=te (n:=8) (ss:=[(true,[.int .i64,.sl [.sl [.int .i64]]]),(true,[.int .i64,.int .i64,.int .i64]),(false,[.sl [.int .i64]])]) (by kernel_rfl) o (λj t v h1 z=>k j t v (by simpa using h1) (by simpa using z));have e:u.length=3:=i;have A:am Tryz.prog 8 xs (λr=>r=.pv (.lit (.bool true))):=by
  replace hx:=LZ hx;obtain⟨v,L,a,b,c,l,rfl⟩:=hx;exact th v L a b c l
 refine EO (f:=Tryz.f8) Tryz.laidOut (by kernel_rfl) rfl (by kernel_rfl) rfl ?_ s h A
 match u,e with
 |[_,_,_],_=>rfl
theorem ti:(Rows.engineShowsRow.inPlace==Tryz.prog.inPlace 8)=true:=by kernel_rfl
theorem tm:(Rows.engineShowsRow.unfollowed==Tryz.prog.unfollowed 8)=true:=by kernel_rfl
theorem tn:(Rows.engineShowsRow.recurses==Tryz.prog.recurses 8)=true:=by kernel_rfl
theorem tp:(Rows.engineShowsRow.named==Tryz.prog.varsNamed 8)=true:=by kernel_rfl
theorem tq:joinedFacts Tryz.prog 8 Tryz.f8 Rows.engineShowsSpec Rows.engineShowsRow=true:=by
 unfold joinedFacts;rw[Tryz.laidOut,Tryz.mapsOk,ti,tm,tn,tp]
 kernel_rfl
theorem tt:Tryz.prog.funcNamed Rows.engineShowsRow.func=some 8:=by kernel_rfl
theorem engineShows_holds:Rows.EngineShowsSaid:=
 OpenClaim.holds_of_wide 8 Tryz.f8 rfl rfl rfl rfl rfl rfl rfl ⟨rfl,rfl,rfl,rfl,rfl⟩ rfl rfl rfl rfl rfl tt Tryz.func8 tq
  (UE (by kernel_rfl)) (by unfold Func.isWrapper;first|(rw[Qb (by decide+kernel)];kernel_rfl)|(rw[Qa (by decide+kernel)];exact⟨rfl,rfl⟩))
  (λb a H enc _=>oh b a H enc)
end Go.Proofs.YtepodadinenmnaaGreat