/-
  The law WatchCloses holds: whatever the input, true; the input reads as it did. No condition.
-/
import Derived.Test.YthfhellfmbllhaaGreatS12AxWaS
import Derived.Test.YthfhellfmbllhaaGreatS12AxWbA
import Derived.Test.YthfhellfmbllhaaGreatAxZ
import Derived.ProofKit
namespace Go.Proofs.YthfhellfmbllhaaGreat
open Go.AX Go.ChangeShapes Go.WideShapes Go.ChangeAt Go.RowKit
theorem Tryz.own:ownKnob Tryz.prog.godebug=none:=by kernel_rfl
theorem Tryz.laidOut:laidOutB Tryz.prog=true:=by kernel_rfl
set_option maxRecDepth 100000 in
theorem watchCloses_lifted (os:Os) (started:os.Started) (H:Type) (enc:TypeId×Value→H):
 ReturnsInHanded {} Tryz.checked os 4 .any (Rows.watchClosesSpec.pre6 enc Tryz.prog Tryz.f4 Rows.watchClosesRow.domain false) (Rows.watchClosesSpec.post enc Tryz.prog Tryz.f4 false true false false):=by
 refine returnsInHanded_of_change (C:=Tryz.checked) Tryz.own started (by kernel_rfl) Tryz.func4
  (ChangeSpec.witness6 (enc:=enc) (C:=Tryz.checked) false ⟨#[],#[.slice none 0 0,.slice none 0 0],[]⟩ 8 (by kernel_rfl) (by kernel_rfl) (by kernel_rfl) (by kernel_rfl)) ?_
 intro W base args ds gs before hval0 hW hcnd _;have hval:∀(j:Nat) t v,Tryz.f4.params[j]?=some t→args[j]?=some v→Value.okWide Tryz.prog W .any base t v:=hval0;have hW':=hW;obtain⟨p,q,hA0,hV,_,_,_⟩:=hW;obtain⟨rfl,rfl⟩:=trodVars_none hV;obtain⟨xs,hx,hfit,hlen⟩:=args_shown (n:=8) (ss:=[(false,[.sl [.sl [.int .i64]]]),(false,[.sl [.int .i64,.int .i64]])]) (by kernel_rfl) hA0 (fun j t v h1 h2=>hval j t v (by simpa using h1) (by simpa using h2));have hlen':ds.length=2:=hlen;have hA:APure Tryz.prog 4 xs (fun r=>r=.pv (.lit (.bool true))):=by
  replace hx:=argsW2 hx;obtain⟨cs,l,rfl⟩:=hx;exact watchCloses_ok cs l
 refine law_calls (f:=Tryz.f4) Tryz.laidOut (by kernel_rfl) rfl (by kernel_rfl) rfl ?_ hW' hfit hA
 match ds,hlen' with
 |[_,_],_=>rfl
theorem watchCloses_holds:Rows.WatchClosesSaid:=
 OpenClaim.holds_of_wide 4 Tryz.f4 rfl rfl rfl rfl rfl rfl rfl ⟨rfl,rfl,rfl,rfl,rfl⟩ rfl rfl rfl rfl rfl (by kernel_rfl) Tryz.func4 (by kernel_rfl)
  (of_decide_eq_true (by kernel_rfl)) (by unfold Func.isWrapper;first|(rw[if_pos (by decide+kernel)];kernel_rfl)|(rw[if_neg (by decide+kernel)];exact⟨rfl,rfl⟩))
  (fun os started H enc _=>watchCloses_lifted os started H enc)
end Go.Proofs.YthfhellfmbllhaaGreat