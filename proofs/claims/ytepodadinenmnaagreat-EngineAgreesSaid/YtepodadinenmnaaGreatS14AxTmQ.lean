/-
  Contracts: proof.Split: hints, parted.
  Contracts: proof.Check: steps that may be.
  Contracts: lrat.Checker: what it holds.
  Contracts: lrat.Checker, read only.
  Contracts: whether a formula may be: the program's, the document's.
-/
import Derived.Test.YtepodadinenmnaaGreatS14AxTmB
import Derived.Test.YtepodadinenmnaaGreatAxFz
namespace Go.AX
open Go.Proofs
set_option linter.unusedSimpArgs false
structure Bs where
  b:Nat
  n:Nat
  cap:Nat
structure Stp where
  kind:Int
  id:Int
  lits:List Int
  hints:List Int
instance:Inhabited Stp:=⟨⟨0,0,[],[]⟩⟩
def lV(x:Stp):List PV:=[ae x.kind,ae x.id,.seq false 1 (af x.lits),.seq false 1 (af x.hints)]
@[simp] theorem Jz(r:Nat→Nat→PV)(l:List Stp):ke r (l.map lV)=l.map lV:=by
 rw[cd,List.map_map];apply List.map_congr_left;intro x _;simp[lV]
structure Ck where
  m:List (Int×List Int)
  last:Int
  done:Bool
def GR(c:Ck)(id:Int)(l:List Int):Ck:=⟨pt c.m id l,id,c.done||decide (l.length=0)⟩
theorem yD:ao Tryz.prog 77 [.lit (.slice none 0 0)] (fun r=>r=.pv (.lit (.slice none 0 0))):=by
 refine aw aG Tryz.func77 (by kernel_rfl) rfl rfl (by kernel_rfl) (Nat.le_of_ble_eq_true rfl) ?_;simp
def MT(id:Int):Int:=if id<aM (-id)then aM (-id)else id
def IG(c:Ck)(ids:List Int):Bool:=ids.all fun id=>(lk c.m (MT id)).isSome
def jR(v:Int):List (List Int)→Nat→Int×Int
 |[],i=>(i,0)
 |c::L,i=>if iR c v≠0 then(i,iR c v)else if sM c=true then(i,11)else jR v L (i+1)
def oB(v:Int)(L:List (List Int)):Int×Int:=if v<0∨100000<v then(0,2)else if 1000000<L.length then(0,3)else jR v L 0
theorem yF(v:Int){L:List (List Int)}{i:Nat}(h:i<L.length):jR v (L.drop i) i=if iR L[i] v≠0 then((i:Int),iR L[i] v)else if sM L[i]=true then((i:Int),11)else jR v (L.drop (i+1)) (i+1):=by
 rw[List.drop_eq_getElem_cons h,jR]
theorem BX(v:Int)(L:List (List Int)):jR v (L.drop L.length) L.length=((L.length:Int),0):=by
 rw[List.drop_eq_nil_of_le (Nat.le_refl _),jR]
set_option maxRecDepth 16000 in
theorem An(v:Int)(L:List (List Int))(hr:∀c∈L,c.length≤1000000):ao Tryz.prog 62 [.agg [ae v,.seq false 1 (L.map aO)]] (fun r=>r=.pv (.tup [ae (oB v L).1,ae (oB v L).2])):=by
 refine Di [2,3] aG Tryz.func62 (by kernel_rfl) rfl (fun _ _=>results_tmp2 rfl _ _ _) (by kernel_rfl) (Nat.le_of_ble_eq_true rfl) ?_;have hS:oB v L=if v<0∨100000<v then(0,2)else if 1000000<L.length then(0,3)else jR v (L.drop 0) 0:=rfl;generalize oB v L=S at*
 by_cases h1:v<0
 ·rw[if_pos (.inl h1)]at hS;subst hS;simp[h1]
 by_cases h2:100000<v
 ·rw[if_pos (.inr h2)]at hS;subst hS;simp[h1,h2]
 rw[if_neg (fun e=>e.elim h1 h2)]at hS
 by_cases h3:1000000<L.length
 ·have h3':(1000000:Int)<(L.length:Int):=by omega
  rw[if_pos h3]at hS;subst hS;simp[h1,h2,h3,h3']
 rw[if_neg h3]at hS;have h3':¬(1000000:Int)<(L.length:Int):=by omega
 simp[h1,h2,h3,h3'];refine aH.intro (S:=fun(i:Nat)=>⟨[(1,.pv (.ptr 0 0)),(22,.pv (.seq false 1 (L.map aO))),(23,.pv (ae L.length)),(24,.pv (ae i))],[[.pv (ae v),.pv (.seq false 1 (L.map aO))]]⟩) (fun i=>i≤L.length∧S=jR v (L.drop i) i) (fun i=>L.length -i) 0 ?_ ⟨Nat.zero_le _,hS⟩ ?_
 ·exact aj.keep (by simp) (by simp)
 rintro i ⟨hi,hSi⟩
 by_cases h:i<L.length
 rotate_left
 ·have hie:i=L.length:=by omega
  subst hie;rw[BX]at hSi;subst hSi;simp
 have hw:aM ((i:Int)+1)=((i+1:Nat):Int):=by rw[ah (by omega) (by omega)];omega
 rw[yF v h]at hSi;have hc:=hr _ (List.getElem_mem h);have k1:=qJ L[i] v (by omega);have k2:=Gw L[i] (by omega);simp[h,aO];refine am.intro k1 (by simp) ?_
 by_cases c1:iR L[i] v=0
 ·rw[if_neg (by simp[c1])]at hSi;simp[c1];refine am.intro k2 (by simp) ?_
  by_cases c2:sM L[i]=true
  ·rw[if_pos c2]at hSi;subst hSi;simp[c2]
  ·rw[if_neg c2]at hSi;simp[c2];exact⟨i+1,by(try dsimp only);omega,⟨by(try dsimp only);omega,hSi⟩,aj.keep (by simp[hw,aO]) (by simp[aO])⟩
 ·rw[if_pos c1]at hSi;subst hSi;simp[c1]
end Go.AX