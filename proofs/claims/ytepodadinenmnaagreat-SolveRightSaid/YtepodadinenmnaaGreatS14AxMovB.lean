/-
  Contracts: objects as tables; names' variables; and what follows.
-/
import Derived.Test.YtepodadinenmnaaGreatS14AxCntG
namespace Go.AX
open Go.Proofs
/-! ### The first error of a row -/
def Qs(e:Nat->Int)(n:Nat):Int×Int:=
 match(List.range n).find? (λi=>decide (e i≠0))with
 |some i=>((i:Int),e i)
 |none=>((n:Int),0)
/-! ### Objects -/
structure ORow where
  s:Int
  k:Int
  n:Int
  r:Int
  deriving DecidableEq,Inhabited
structure Obj where
  st:Int
  kd:Int
  ini:Int
  rows:List ORow
def BT(a b:Int):Int:=if a<b then-1 else if a>b then 1 else 0
theorem tg(n:Int):ak Tryz.prog 313 [ab n] (λr=>r=.pv (BL false)):=by
 refine ap aC Tryz.func313 ?_;simp
theorem BU(a b:Int):ak Tryz.prog 284 [ab a,ab b] (λr=>r=.pv (ab (BT a b))):=by
 refine ap aC Tryz.func284 ?_;simp;refine ah.intro (tg a) ?_;simp;refine ah.intro (tg b) ?_;simp;exact⟨λh=>by simp[BT,h],λh=>⟨λc=>by simp[BT,c,WG.2 h],λc=>by simp[BT,WG.2 c,WG.2 h]⟩⟩
/-! ### Moves -/
def gp{α:Type}(p:α->Bool)(l:List α):Int:=match l.findIdx? p with|some i=>(i:Int)|none=>-1
theorem d9{α:Type}{p:α->Bool}{l:List α}{i:Nat}(h:i<l.length)(hn:∀j (hj:j<l.length),j<i->p l[j]=false)(hp:p l[i]=true):gp p l=i:=by
 have:l.findIdx? p=some i:=by
  rw[UF];exact⟨h,hp,λj hj=>by simp[hn j (by omega) hj]⟩
 rw[gp,this]
theorem cJ{α:Type}{p:α->Bool}{l:List α}(hn:∀j (hj:j<l.length),p l[j]=false):gp p l=-1:=by
 have:l.findIdx? p=none:=by
  rw[Vr];intro x hx;obtain⟨j,hj,rfl⟩:=WV.1 hx;exact hn j hj
 rw[gp,this]
/-! ### Names -/
def ae(l:List Int):List (List PV):=l.map λi=>[ab i]
def pB(l:List Int):List PV:=[.seq true 1 (ae l)]
def aw(l:List Int):List PV:=[.seq false 1 (ae l)]
@[simp] theorem M7(l:List Int):(ae l).length=l.length:=by simp[ae]
@[simp] theorem aT(k:Nat)(l:List Int):bL k (ae l):=yP k l
@[simp] theorem Qt(l:List Int):A3 (ae l):=by
 rw[pi];intro r a;obtain⟨o,_,rfl⟩:=SY.1 a;exact⟨trivial,trivial⟩
@[simp] theorem OF(r:Nat->Nat->PV)(l:List Int):l4 r (ae l)=ae l:=by
 rw[ae,cm,TT];congr 1
@[simp] theorem Qu(l:List (List Int)):A3 (l.map pB):=by
 rw[pi];intro r a;obtain⟨o,_,rfl⟩:=SY.1 a;simp[pB]
@[simp] theorem Qv(l:List Int)(i:Nat):(ae l)[i]?=l[i]?.map λn=>[ab n]:=by simp[ae]
@[simp] theorem OG(l:List Int)(i:Nat)(h:i<(ae l).length):(ae l)[i]'h=[ab (l[i]'(by simpa using h))]:=by simp[ae]
theorem mG(l:List Int)(x:Int):ae l++[[ab x]]=ae (l++[x]):=by simp[ae]
/-! ### At most one -/
/-! ### Rows that are filled -/
/-! ### Places -/
/-! ### Times -/
/-! ### States -/
/-! ### Times -/
end Go.AX