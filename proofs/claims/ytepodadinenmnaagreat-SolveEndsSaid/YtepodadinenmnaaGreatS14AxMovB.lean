/-
  Contracts: objects as tables; names' variables.
  Contracts: clauses of places, times and states.
-/
import Derived.Test.YtepodadinenmnaaGreatS14AxCntG
namespace Go.AX
open Go.Proofs
/-! ### The first error of a row -/
def Lo(e:Nat->Int)(n:Nat):Int×Int:=
 match(List.range n).find? (λi=>decide (e i≠0))with
 |some i=>((i:Int),e i)
 |none=>((n:Int),0)
/-! ### Objects -/
structure ORow where
  s:Int
  k:Int
  n:Int
  r:Int
  deriving DecidableEq,Inhabited
structure Obj where
  st:Int
  kd:Int
  ini:Int
  rows:List ORow
def yk(a b:Int):Int:=if a<b then-1 else if a>b then 1 else 0
theorem vX(n:Int):an Tryz.prog 313 [ae n] (λr=>r=.pv (BL false)):=by
 refine ax aG Tryz.func313 ?_;simp
theorem yl(a b:Int):an Tryz.prog 284 [ae a,ae b] (λr=>r=.pv (ae (yk a b))):=by
 refine ax aG Tryz.func284 ?_;simp;refine aj.intro (vX a) ?_;simp;refine aj.intro (vX b) ?_;simp;exact⟨λh=>by simp[yk,h],λh=>⟨λc=>by simp[yk,c,RD.2 h],λc=>by simp[yk,RD.2 c,RD.2 h]⟩⟩
/-! ### Moves -/
def iV{α:Type}(p:α->Bool)(l:List α):Int:=match l.findIdx? p with|some i=>(i:Int)|none=>-1
theorem fR{α:Type}{p:α->Bool}{l:List α}{i:Nat}(h:i<l.length)(hn:∀j (hj:j<l.length),j<i->p l[j]=false)(hp:p l[i]=true):iV p l=i:=by
 have:l.findIdx? p=some i:=by
  rw[P2];exact⟨h,hp,λj hj=>by simp[hn j (by omega) hj]⟩
 rw[iV,this]
theorem d9{α:Type}{p:α->Bool}{l:List α}(hn:∀j (hj:j<l.length),p l[j]=false):iV p l=-1:=by
 have:l.findIdx? p=none:=by
  rw[QM];intro x hx;obtain⟨j,hj,rfl⟩:=RS.1 hx;exact hn j hj
 rw[iV,this]
/-! ### Names -/
def af(l:List Int):List (List PV):=l.map λi=>[ae i]
def nC(l:List Int):List PV:=[.seq true 1 (af l)]
def aK(l:List Int):List PV:=[.seq false 1 (af l)]
@[simp] theorem Ia(l:List Int):(af l).length=l.length:=by simp[af]
@[simp] theorem bd(k:Nat)(l:List Int):bS k (af l):=vM k l
@[simp] theorem Lp(l:List Int):zK (af l):=by
 rw[pL];intro r a;obtain⟨o,_,rfl⟩:=Of.1 a;exact⟨trivial,trivial⟩
@[simp] theorem JM(r:Nat->Nat->PV)(l:List Int):kw r (af l)=af l:=by
 rw[af,ce,Pa];congr 1
@[simp] theorem Lq(l:List (List Int)):zK (l.map nC):=by
 rw[pL];intro r a;obtain⟨o,_,rfl⟩:=Of.1 a;simp[nC]
@[simp] theorem Lr(l:List Int)(i:Nat):(af l)[i]?=l[i]?.map λn=>[ae n]:=by simp[af]
@[simp] theorem JN(l:List Int)(i:Nat)(h:i<(af l).length):(af l)[i]'h=[ae (l[i]'(by simpa using h))]:=by simp[af]
theorem o5(l:List Int)(x:Int):af l++[[ae x]]=af (l++[x]):=by simp[af]
/-! ### At most one -/
/-! ### Rows that are filled -/
/-! ### Places -/
/-! ### Times -/
/-! ### States -/
/-! ### Times -/
end Go.AX