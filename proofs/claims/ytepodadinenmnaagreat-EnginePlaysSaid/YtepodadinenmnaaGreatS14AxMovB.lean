/-
  Contracts: objects as tables; names' variables.
  Contracts: clauses of places, times and states.
-/
import Derived.Test.YtepodadinenmnaaGreatS14AxCntG
namespace Go.AX
open Go.Proofs
/-! ### The first error of a row -/
def Pk(e:Nat->Int)(n:Nat):Int×Int:=
 match(List.range n).find? (λi=>decide (e i≠0))with
 |some i=>((i:Int),e i)
 |none=>((n:Int),0)
/-! ### Objects -/
structure ORow where
  s:Int
  k:Int
  n:Int
  r:Int
  deriving DecidableEq,Inhabited
structure Obj where
  st:Int
  kd:Int
  ini:Int
  rows:List ORow
def Bl(a b:Int):Int:=if a<b then-1 else if a>b then 1 else 0
theorem yE(n:Int):am Tryz.prog 313 [ae n] (λr=>r=.pv (BL false)):=by
 refine aq aE Tryz.func313 ?_;simp
theorem Bn(a b:Int):am Tryz.prog 284 [ae a,ae b] (λr=>r=.pv (ae (Bl a b))):=by
 refine aq aE Tryz.func284 ?_;simp;refine ai.intro (yE a) ?_;simp;refine ai.intro (yE b) ?_;simp;exact⟨λh=>by simp[Bl,h],λh=>⟨λc=>by simp[Bl,c,Vf.2 h],λc=>by simp[Bl,Vf.2 c,Vf.2 h]⟩⟩
/-! ### Moves -/
def i7{α:Type}(p:α->Bool)(l:List α):Int:=match l.findIdx? p with|some i=>(i:Int)|none=>-1
theorem gH{α:Type}{p:α->Bool}{l:List α}{i:Nat}(h:i<l.length)(hn:∀j (hj:j<l.length),j<i->p l[j]=false)(hp:p l[i]=true):i7 p l=i:=by
 have:l.findIdx? p=some i:=by
  rw[SG];exact⟨h,hp,λj hj=>by simp[hn j (by omega) hj]⟩
 rw[i7,this]
theorem ff{α:Type}{p:α->Bool}{l:List α}(hn:∀j (hj:j<l.length),p l[j]=false):i7 p l=-1:=by
 have:l.findIdx? p=none:=by
  rw[TQ];intro x hx;obtain⟨j,hj,rfl⟩:=Vx.1 hx;exact hn j hj
 rw[i7,this]
/-! ### Names -/
def aa(l:List Int):List (List PV):=l.map λi=>[ae i]
def oZ(l:List Int):List PV:=[.seq true 1 (aa l)]
def ao(l:List Int):List PV:=[.seq false 1 (aa l)]
@[simp] theorem LO(l:List Int):(aa l).length=l.length:=by simp[aa]
@[simp] theorem bc(k:Nat)(l:List Int):bW k (aa l):=yr k l
@[simp] theorem Pm(l:List Int):El (aa l):=by
 rw[rl];intro r a;obtain⟨o,_,rfl⟩:=RE.1 a;exact⟨trivial,trivial⟩
@[simp] theorem NB(r:Nat->Nat->PV)(l:List Int):kw r (aa l)=aa l:=by
 rw[aa,bV,Sz];congr 1
@[simp] theorem Pn(l:List (List Int)):El (l.map oZ):=by
 rw[rl];intro r a;obtain⟨o,_,rfl⟩:=RE.1 a;simp[oZ]
@[simp] theorem Po(l:List Int)(i:Nat):(aa l)[i]?=l[i]?.map λn=>[ae n]:=by simp[aa]
@[simp] theorem NC(l:List Int)(i:Nat)(h:i<(aa l).length):(aa l)[i]'h=[ae (l[i]'(by simpa using h))]:=by simp[aa]
theorem qH(l:List Int)(x:Int):aa l++[[ae x]]=aa (l++[x]):=by simp[aa]
/-! ### At most one -/
/-! ### Rows that are filled -/
/-! ### Places -/
/-! ### Times -/
/-! ### States -/
/-! ### Times -/
end Go.AX