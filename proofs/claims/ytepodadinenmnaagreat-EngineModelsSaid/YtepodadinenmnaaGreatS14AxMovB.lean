/-
  Contracts: objects as tables; names' variables.
  Contracts: clauses of places, times and states.
-/
import Derived.Test.YtepodadinenmnaaGreatS14AxCntG
namespace Go.AX
open Go.Proofs
/-! ### The first error of a row -/
def Pw(e:Nat->Int)(n:Nat):Int×Int:=
 match(List.range n).find? (λi=>decide (e i≠0))with
 |some i=>((i:Int),e i)
 |none=>((n:Int),0)
/-! ### Objects -/
structure ORow where
  s:Int
  k:Int
  n:Int
  r:Int
  deriving DecidableEq,Inhabited
structure Obj where
  st:Int
  kd:Int
  ini:Int
  rows:List ORow
def Bx(a b:Int):Int:=if a<b then-1 else if a>b then 1 else 0
theorem yK(n:Int):am Tryz.prog 313 [ae n] (λr=>r=.pv (BL false)):=by
 refine aq aE Tryz.func313 ?_;simp
theorem Bz(a b:Int):am Tryz.prog 284 [ae a,ae b] (λr=>r=.pv (ae (Bx a b))):=by
 refine aq aE Tryz.func284 ?_;simp;refine ai.intro (yK a) ?_;simp;refine ai.intro (yK b) ?_;simp;exact⟨λh=>by simp[Bx,h],λh=>⟨λc=>by simp[Bx,c,Vq.2 h],λc=>by simp[Bx,Vq.2 c,Vq.2 h]⟩⟩
/-! ### Moves -/
def iH{α:Type}(p:α->Bool)(l:List α):Int:=match l.findIdx? p with|some i=>(i:Int)|none=>-1
theorem f9{α:Type}{p:α->Bool}{l:List α}{i:Nat}(h:i<l.length)(hn:∀j (hj:j<l.length),j<i->p l[j]=false)(hp:p l[i]=true):iH p l=i:=by
 have:l.findIdx? p=some i:=by
  rw[SR];exact⟨h,hp,λj hj=>by simp[hn j (by omega) hj]⟩
 rw[iH,this]
theorem ed{α:Type}{p:α->Bool}{l:List α}(hn:∀j (hj:j<l.length),p l[j]=false):iH p l=-1:=by
 have:l.findIdx? p=none:=by
  rw[T6];intro x hx;obtain⟨j,hj,rfl⟩:=U6.1 hx;exact hn j hj
 rw[iH,this]
/-! ### Names -/
def aa(l:List Int):List (List PV):=l.map λi=>[ae i]
def o8(l:List Int):List PV:=[.seq true 1 (aa l)]
def an(l:List Int):List PV:=[.seq false 1 (aa l)]
@[simp] theorem Mb(l:List Int):(aa l).length=l.length:=by simp[aa]
@[simp] theorem bc(k:Nat)(l:List Int):bX k (aa l):=yz k l
@[simp] theorem Px(l:List Int):Ew (aa l):=by
 rw[rB];intro r a;obtain⟨o,_,rfl⟩:=RO.1 a;exact⟨trivial,trivial⟩
@[simp] theorem NM(r:Nat->Nat->PV)(l:List Int):kJ r (aa l)=aa l:=by
 rw[aa,bW,SJ];congr 1
@[simp] theorem Py(l:List (List Int)):Ew (l.map o8):=by
 rw[rB];intro r a;obtain⟨o,_,rfl⟩:=RO.1 a;simp[o8]
@[simp] theorem Pz(l:List Int)(i:Nat):(aa l)[i]?=l[i]?.map λn=>[ae n]:=by simp[aa]
@[simp] theorem NN(l:List Int)(i:Nat)(h:i<(aa l).length):(aa l)[i]'h=[ae (l[i]'(by simpa using h))]:=by simp[aa]
theorem qM(l:List Int)(x:Int):aa l++[[ae x]]=aa (l++[x]):=by simp[aa]
/-! ### At most one -/
/-! ### Rows that are filled -/
/-! ### Places -/
/-! ### Times -/
/-! ### States -/
/-! ### Times -/
end Go.AX