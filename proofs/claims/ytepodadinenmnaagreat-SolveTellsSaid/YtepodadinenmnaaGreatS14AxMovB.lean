/-
  Contracts: objects as tables; names' variables; and what follows.
-/
import Derived.Test.YtepodadinenmnaaGreatS14AxCntG
namespace Go.AX
open Go.Proofs
/-! ### The first error of a row -/
def Qz(e:Nat->Int)(n:Nat):Int×Int:=
 match(List.range n).find? (λi=>decide (e i≠0))with
 |some i=>((i:Int),e i)
 |none=>((n:Int),0)
/-! ### Objects -/
structure ORow where
  s:Int
  k:Int
  n:Int
  r:Int
  deriving DecidableEq,Inhabited
structure Obj where
  st:Int
  kd:Int
  ini:Int
  rows:List ORow
def B1(a b:Int):Int:=if a<b then-1 else if a>b then 1 else 0
theorem ze(n:Int):aj Tryz.prog 313 [ab n] (λr=>r=.pv (BL false)):=by
 refine ap aD Tryz.func313 ?_;simp
theorem B2(a b:Int):aj Tryz.prog 284 [ab a,ab b] (λr=>r=.pv (ab (B1 a b))):=by
 refine ap aD Tryz.func284 ?_;simp;refine ai.intro (ze a) ?_;simp;refine ai.intro (ze b) ?_;simp;exact⟨λh=>by simp[B1,h],λh=>⟨λc=>by simp[B1,c,WF.2 h],λc=>by simp[B1,WF.2 c,WF.2 h]⟩⟩
/-! ### Moves -/
def iP{α:Type}(p:α->Bool)(l:List α):Int:=match l.findIdx? p with|some i=>(i:Int)|none=>-1
theorem eU{α:Type}{p:α->Bool}{l:List α}{i:Nat}(h:i<l.length)(hn:∀j (hj:j<l.length),j<i->p l[j]=false)(hp:p l[i]=true):iP p l=i:=by
 have:l.findIdx? p=some i:=by
  rw[U5];exact⟨h,hp,λj hj=>by simp[hn j (by omega) hj]⟩
 rw[iP,this]
theorem cM{α:Type}{p:α->Bool}{l:List α}(hn:∀j (hj:j<l.length),p l[j]=false):iP p l=-1:=by
 have:l.findIdx? p=none:=by
  rw[VT];intro x hx;obtain⟨j,hj,rfl⟩:=W6.1 hx;exact hn j hj
 rw[iP,this]
/-! ### Names -/
def ae(l:List Int):List (List PV):=l.map λi=>[ab i]
def pA(l:List Int):List PV:=[.seq true 1 (ae l)]
def aq(l:List Int):List PV:=[.seq false 1 (ae l)]
@[simp] theorem Nc(l:List Int):(ae l).length=l.length:=by simp[ae]
@[simp] theorem aU(k:Nat)(l:List Int):bI k (ae l):=yU k l
@[simp] theorem QA(l:List Int):Bp (ae l):=by
 rw[rT];intro r a;obtain⟨o,_,rfl⟩:=S8.1 a;exact⟨trivial,trivial⟩
@[simp] theorem OJ(r:Nat->Nat->PV)(l:List Int):jN r (ae l)=ae l:=by
 rw[ae,bP,TX];congr 1
@[simp] theorem QB(l:List (List Int)):Bp (l.map pA):=by
 rw[rT];intro r a;obtain⟨o,_,rfl⟩:=S8.1 a;simp[pA]
@[simp] theorem QC(l:List Int)(i:Nat):(ae l)[i]?=l[i]?.map λn=>[ab n]:=by simp[ae]
@[simp] theorem OK(l:List Int)(i:Nat)(h:i<(ae l).length):(ae l)[i]'h=[ab (l[i]'(by simpa using h))]:=by simp[ae]
theorem mK(l:List Int)(x:Int):ae l++[[ab x]]=ae (l++[x]):=by simp[ae]
/-! ### At most one -/
/-! ### Rows that are filled -/
/-! ### Places -/
/-! ### Times -/
/-! ### States -/
/-! ### Times -/
end Go.AX