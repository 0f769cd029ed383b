/-
  Contracts: objects as tables; names' variables.
  Contracts: clauses of places, times and states.
-/
import Derived.Test.YtepodadinenmnaaGreatS14AxCntG
namespace Go.AX
open Go.Proofs
/-! ### The first error of a row -/
def Oc(e:Nat->Int)(n:Nat):Int×Int:=
 match(List.range n).find? (λi=>decide (e i≠0))with
 |some i=>((i:Int),e i)
 |none=>((n:Int),0)
/-! ### Objects -/
structure ORow where
  s:Int
  k:Int
  n:Int
  r:Int
  deriving DecidableEq,Inhabited
structure Obj where
  st:Int
  kd:Int
  ini:Int
  rows:List ORow
def Al(a b:Int):Int:=if a<b then-1 else if a>b then 1 else 0
theorem rI(n:Int):am Tryz.prog 313 [af n] (λr=>r=.pv (BL false)):=by
 refine ao aD Tryz.func313 ?_;simp
theorem Am(a b:Int):am Tryz.prog 284 [af a,af b] (λr=>r=.pv (af (Al a b))):=by
 refine ao aD Tryz.func284 ?_;simp;refine ah.intro (rI a) ?_;simp;refine ah.intro (rI b) ?_;simp;exact⟨λh=>by simp[Al,h],λh=>⟨λc=>by simp[Al,c,TX.2 h],λc=>by simp[Al,TX.2 c,TX.2 h]⟩⟩
/-! ### Moves -/
def gG{α:Type}(p:α->Bool)(l:List α):Int:=match l.findIdx? p with|some i=>(i:Int)|none=>-1
theorem gx{α:Type}{p:α->Bool}{l:List α}{i:Nat}(h:i<l.length)(hn:∀j (hj:j<l.length),j<i->p l[j]=false)(hp:p l[i]=true):gG p l=i:=by
 have:l.findIdx? p=some i:=by
  rw[RJ];exact⟨h,hp,λj hj=>by simp[hn j (by omega) hj]⟩
 rw[gG,this]
theorem eJ{α:Type}{p:α->Bool}{l:List α}(hn:∀j (hj:j<l.length),p l[j]=false):gG p l=-1:=by
 have:l.findIdx? p=none:=by
  rw[Sz];intro x hx;obtain⟨j,hj,rfl⟩:=UU.1 hx;exact hn j hj
 rw[gG,this]
/-! ### Names -/
def ab(l:List Int):List (List PV):=l.map λi=>[af i]
def oE(l:List Int):List PV:=[.seq true 1 (ab l)]
def az(l:List Int):List PV:=[.seq false 1 (ab l)]
@[simp] theorem KC(l:List Int):(ab l).length=l.length:=by simp[ab]
@[simp] theorem aS(k:Nat)(l:List Int):bQ k (ab l):=xx k l
@[simp] theorem Od(l:List Int):BI (ab l):=by
 rw[om];intro r a;obtain⟨o,_,rfl⟩:=Qk.1 a;exact⟨trivial,trivial⟩
@[simp] theorem Mv(r:Nat->Nat->PV)(l:List Int):lz r (ab l)=ab l:=by
 rw[ab,cb,Ra];congr 1
@[simp] theorem Oe(l:List (List Int)):BI (l.map oE):=by
 rw[om];intro r a;obtain⟨o,_,rfl⟩:=Qk.1 a;simp[oE]
@[simp] theorem Of(l:List Int)(i:Nat):(ab l)[i]?=l[i]?.map λn=>[af n]:=by simp[ab]
@[simp] theorem Mw(l:List Int)(i:Nat)(h:i<(ab l).length):(ab l)[i]'h=[af (l[i]'(by simpa using h))]:=by simp[ab]
theorem qg(l:List Int)(x:Int):ab l++[[af x]]=ab (l++[x]):=by simp[ab]
/-! ### At most one -/
/-! ### Rows that are filled -/
/-! ### Places -/
/-! ### Times -/
/-! ### States -/
/-! ### Times -/
end Go.AX