/-
  Contracts: proof.Split: hints, parted.
  Contracts: proof.Check: steps that may be.
  Contracts: lrat.Checker: what it holds.
  Contracts: lrat.Checker, read only.
  Contracts: rat: candidates.
  Contracts: whether a formula may be: the program's, the document's.
-/
import Derived.Test.YtepodadinenmnaaGreatS14AxTmB
import Derived.Test.YtepodadinenmnaaGreatAxFz
namespace Go.AX
open Go.Proofs
set_option linter.unusedSimpArgs false
def Nt(x:List Int×List (List Int))(h:Int):List Int×List (List Int):=
 if h<0 then(x.1,x.2++[[h]])else if x.2=[]then(x.1++[h],x.2)else(x.1,x.2.dropLast++[x.2.getLastD []++[h]])
def LO(hs:List Int)(i:Nat):List Int×List (List Int):=(hs.take i).foldl Nt ([],[])
def Hf(hs:List Int):List Int×List (List Int):=LO hs hs.length
structure Bs where
  b:Nat
  n:Nat
  cap:Nat
def Nu(l:List Int):List SV:=l.map λx=>.pv (ae x)
structure BsOk (h:List (List SV)) (e:Bs) (l:List Int):Prop where
  n:e.n=l.length
  cap:e.n<=e.cap
  at':∃sp,h[e.b]?=some (Nu l++sp)∧sp.length=e.cap -e.n
theorem BsOk.app{h:List (List SV)}{e:Bs}{l:List Int}(a:BsOk h e l)(c:e.b<h.length)(B:List (List SV)):BsOk (h++B) e l:=⟨a.n,a.cap,by
 obtain⟨sp,h1,d⟩:=a.at';exact⟨sp,by rw[Oa c];exact h1,d⟩⟩
structure Stp where
  kind:Int
  id:Int
  lits:List Int
  hints:List Int
instance:Inhabited Stp:=⟨⟨0,0,[],[]⟩⟩
def l9(x:Stp):List PV:=[ae x.kind,ae x.id,.seq false 1 (af x.lits),.seq false 1 (af x.hints)]
@[simp] theorem J8(r:Nat->Nat->PV)(l:List Stp):kw r (l.map l9)=l.map l9:=by
 rw[ce,Pa];apply Q1;intro x _;simp[l9]
def Nv(lo n:Int):Bool:=decide (n<lo)||decide (10000000<n)||decide (n=0)
def If(l:List Int)(lo:Int):Bool:=decide (l.length<=1000)&&!(l.any (Nv lo))
def LP(x:Stp):Bool:=
 if x.kind=1 then decide (1<=x.id)&&(decide (x.id<=10000000)&&(decide (iM x.lits 100000=0)&&If x.hints (-10000000)))
 else if x.kind=2 then decide (0<=x.id)&&(decide (x.id<=10000000)&&(decide (x.lits.length=0)&&If x.hints 1))else false
def LQ(l:List Stp):Int:=if 1000000<l.length then 3 else if 0<=iV (λx=>!LP x) l then 2 else 0
structure Ck where
  m:List (Int×List Int)
  last:Int
  done:Bool
def B5(c:Ck)(id:Int)(l:List Int):Ck:=⟨pt c.m id l,id,c.done||decide (l.length=0)⟩
theorem yK:an Tryz.prog 77 [.lit (.slice none 0 0)] (λr=>r=.pv (.lit (.slice none 0 0))):=by
 refine ax aG Tryz.func77 ?_;simp
def Nw(id:Int):Int:=if id<a8 (-id)then a8 (-id)else id
def Em(c:Ck)(ids:List Int):Bool:=ids.all λid=>(lk c.m (Nw id)).isSome
def wD(c:Ck)(ids:List Int):List (List Int):=ids.map λid=>(lk c.m id).getD []
def Hg(cs:List (List Int))(p:Int):Nat->List Int
 |0=>[]
 |i+1=>if IQ p≠0∧l7 (cs.getD i []) (IQ p)=true then Hg cs p i++[(i:Int)]else Hg cs p i
def Nx(p:Int)(o:Option (List Int))(x:Int):Option (List Int):=
 o.bind λout=>if ab x=0∨x=IQ p then some out else if b8 out x=1 then none else if b8 out x=0 then some (out++[a8 (-x)])else some out
def Ny(l c:List Int)(p:Int)(i:Nat):Option (List Int):=(c.take i).foldl (Nx p) (some l)
def Nz(l c:List Int)(p:Int)(hs:List (List Int)):Int:=match Ny l c p c.length with
 |none=>0
 |some out=>if(kh out hs 0).2.2≠0 then 24 else 0
def jZ(v:Int):List (List Int)->Nat->Int×Int
 |[],i=>(i,0)
 |c::L,i=>if iM c v≠0 then(i,iM c v)else if o7 c=true then(i,11)else jZ v L (i+1)
def ij(v:Int)(L:List (List Int)):Int×Int:=if v<0∨100000<v then(0,2)else if 1000000<L.length then(0,3)else jZ v L 0
theorem yM(v:Int){L:List (List Int)}{i:Nat}(h:i<L.length):jZ v (L.drop i) i=if iM L[i] v≠0 then((i:Int),iM L[i] v)else if o7 L[i]=true then((i:Int),11)else jZ v (L.drop (i+1)) (i+1):=by
 rw[O0 h,jZ]
theorem B6(v:Int)(L:List (List Int)):jZ v (L.drop L.length) L.length=((L.length:Int),0):=by
 rw[OK (Oc _),jZ]
set_option maxRecDepth 16000 in
theorem Az(v:Int)(L:List (List Int))(k:∀c∈L,c.length<=1000000):an Tryz.prog 62 [.agg [ae v,.seq false 1 (L.map aK)]] (λr=>r=.pv (.tup [ae (ij v L).1,ae (ij v L).2])):=by
 refine Dq [2,3] aG Tryz.func62 (λ_ _=>results_tmp2 rfl _ _ _) ?_;have b:ij v L=if v<0∨100000<v then(0,2)else if 1000000<L.length then(0,3)else jZ v (L.drop 0) 0:=rfl;generalize ij v L=S at*
 by_cases h1:v<0
 .rw[N9 (.inl h1)]at b;subst b;simp[h1]
 by_cases f:100000<v
 .rw[N9 (.inr f)]at b;subst b;simp[h1,f]
 rw[N8 (λe=>e.elim h1 f)]at b
 by_cases g:1000000<L.length
 .have d:(1000000:Int)<(L.length:Int):=by omega
  rw[N9 g]at b;subst b;simp[h1,f,g,d]
 rw[N8 g]at b;have d:¬(1000000:Int)<(L.length:Int):=by omega
 simp[h1,f,g,d];refine aJ.intro (S:=λ(i:Nat)=>⟨[(1,.pv (.ptr 0 0)),(22,.pv (.seq false 1 (L.map aK))),(23,.pv (ae L.length)),(24,.pv (ae i))],[[.pv (ae v),.pv (.seq false 1 (L.map aK))]]⟩) (λi=>i<=L.length∧S=jZ v (L.drop i) i) (λi=>L.length -i) 0 ?_ ⟨Oz _,b⟩ ?_
 .exact ai.keep (by simp) (by simp)
 rintro i ⟨hi,a⟩
 by_cases h:i<L.length
 rotate_left
 .have j:i=L.length:=by omega
  subst j;rw[B6]at a;subst a;simp
 have l:=fQ i;rw[yM v h]at a;have o:=k _ (Od h);have m:=qO L[i] v (by omega);have n:=GM L[i] (by omega);simp[h,aK];refine aj.intro m ?_
 by_cases c1:iM L[i] v=0
 .rw[N8 (by simp[c1])]at a;simp[c1];refine aj.intro n ?_
  by_cases c2:o7 L[i]=true
  .rw[N9 c2]at a;subst a;simp[c2]
  .rw[N8 c2]at a;simp[c2];exact⟨i+1,by(try dsimp only);omega,⟨by(try dsimp only);omega,a⟩,ai.keep (by simp[l,aK]) (by simp[aK])⟩
 .rw[N9 c1]at a;subst a;simp[c1]
end Go.AX