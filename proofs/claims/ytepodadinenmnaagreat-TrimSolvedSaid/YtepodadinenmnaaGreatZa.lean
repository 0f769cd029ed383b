/-
  Contracts: objects as tables; names' variables; and what follows.
-/
import Derived.Test.YtepodadinenmnaaGreatZ4
namespace Go.AX
open Go.Proofs Go.Proofs.Tryz
def Tp(e:Nat->Int)(n:Nat):Int×Int:=
 match(List.range n).find? (λi=>decide (e i≠0))with
 |some i=>((i:Int),e i)
 |none=>((n:Int),0)
structure ORow where
  s:Int
  k:Int
  n:Int
  r:Int
  deriving DecidableEq,Inhabited
structure Obj where
  st:Int
  kd:Int
  ini:Int
  rows:List ORow
def DY(a b:Int):Int:=if a<b then-1 else if a>b then 1 else 0
theorem uV(n:Int):aw prog 313 [ak n] (λr=>r=.pv (BL false)):=by
 refine aB aP func313 ?_;simp
theorem DZ(a b:Int):aw prog 284 [ak a,ak b] (λr=>r=.pv (ak (DY a b))):=by
 refine aB aP func284 ?_;simp;refine ap.intro (uV a) ?_;simp;refine ap.intro (uV b) ?_;simp;exact⟨λh=>by simp[DY,h],λh=>⟨λc=>by simp[DY,c,Zu.2 h],λc=>by simp[DY,Zu.2 c,Zu.2 h]⟩⟩
def gD{α:Type}(p:α->Bool)(l:List α):Int:=match l.findIdx? p with|some i=>(i:Int)|none=>-1
theorem d0{α:Type}{p:α->Bool}{l:List α}{i:Nat}(h:i<l.length)(hn:∀j (hj:j<l.length),j<i->p l[j]=false)(hp:p l[i]=true):gD p l=i:=by
 have:l.findIdx? p=some i:=by
  rw[Xk];exact⟨h,hp,λj hj=>by simp[hn j (by omega) hj]⟩
 rw[gD,this]
theorem cw{α:Type}{p:α->Bool}{l:List α}(hn:∀j (hj:j<l.length),p l[j]=false):gD p l=-1:=by
 have:l.findIdx? p=none:=by
  rw[Yk];intro x hx;obtain⟨j,hj,rfl⟩:=aai.1 hx;exact hn j hj
 rw[gD,this]
def am(l:af):aT:=l.map λi=>[ak i]
def f9(l:af):aD:=[.seq true 1 (am l)]
def aF(l:af):aD:=[.seq false 1 (am l)]
@[simp] theorem P5(l:af):(am l).length=l.length:=by simp[am]
@[simp] theorem br(k:Nat)(l:af):bV k (am l):=A7 k l
@[simp] theorem Tq(l:af):Da (am l):=by
 rw[qS];intro r a;obtain⟨o,_,rfl⟩:=VB.1 a;exact⟨trivial,trivial⟩
@[simp] theorem Rv(r:Nat->Nat->PV)(l:af):mA r (am l)=am l:=by
 rw[am,cN,Wo];congr 1
@[simp] theorem Bh(k:Nat)(l:au):bV k (l.map f9):=by
 rw[iC];intro r a x hx;obtain⟨o,_,rfl⟩:=VB.1 a;simp[f9]at hx;subst hx;exact br k o
@[simp] theorem Ts(l:au):Da (l.map f9):=by
 rw[qS];intro r a;obtain⟨o,_,rfl⟩:=VB.1 a;simp[f9]
@[simp] theorem Rw(r:Nat->Nat->PV)(l:au):mA r (l.map f9)=l.map aF:=by
 rw[cN,Wo];apply XE;intro x _;simp[f9,aF]
@[simp] theorem Tt(l:af)(i:Nat):(am l)[i]?=l[i]?.map λn=>[ak n]:=by simp[am]
@[simp] theorem Rx(l:af)(i:Nat)(h:i<(am l).length):(am l)[i]'h=[ak (l[i]'(by simpa using h))]:=by simp[am]
theorem nZ(l:af)(x:Int):am l++[[ak x]]=am (l++[x]):=by simp[am]
end Go.AX
