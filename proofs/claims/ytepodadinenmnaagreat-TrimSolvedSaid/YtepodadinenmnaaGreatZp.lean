/-
  Contracts: arenas; and what follows.
-/
import Derived.Test.YtepodadinenmnaaGreatZl
import Derived.Test.YtepodadinenmnaaGreatZm
import Derived.Test.YtepodadinenmnaaGreatZj
import Derived.Test.YtepodadinenmnaaGreatZn
import Derived.Test.YtepodadinenmnaaGreatZo
set_option linter.unusedSimpArgs false
namespace Go.AX
open Go.Proofs Go.Proofs.Tryz
section
set_option maxRecDepth 8000
structure Ar where
  row:af
  hd:aS
def kJ(A:Ar):bj:=[.own true 1 (am A.row),.omap true (aL fI A.hd)]
theorem vd(k:Nat)(A:Ar):cA k (kJ A):=⟨br k _,jP k _,trivial⟩
@[simp] theorem QH(l:af):F6 (am l):=by
 unfold am
 induction l with
 |nil=>trivial
 |cons x xs a=>exact⟨⟨trivial,trivial⟩,a⟩
def RL:bj:=[.pv (.lit (.slice none 0 0)),.omap true []]
theorem OD(h:ao):aI prog 65 [] h (λr h'=>h'=h++[RL]∧r=.pv (.ptr h.length 0)):=by
 refine lg aP func65 ?_;simp[RL]
theorem rv(h:ao)(b:Nat)(A:Ar)(d:h[b]?=some (kJ A)):aI prog 207 [.ptr b 0] h (λr h'=>h'=h∧r=.pv (BL true)):=by
 refine ij [] [.tmp 2] aP func207 ?_;obtain⟨c,a⟩:=Vp.1 d;simp[a,c,kJ]
def isA(A:Ar)(at':Int):Bool:=decide (0<(lk A.hd at').getD 0)
theorem Ec(h:ao)(b:Nat)(A:Ar)(d:h[b]?=some (kJ A))(at':Int):aI prog 237 [.ptr b 0,ak at'] h (λr h'=>h'=h∧r=.pv (BL (isA A at'))):=by
 refine ij [] [.tmp 4] aP func237 ?_;obtain⟨c,a⟩:=Vp.1 d;simp;refine ay.intro (rv h b A d) ?_;rintro _ _ ⟨rfl,rfl⟩;simp[a,c,kJ,isA]
structure AtOk (A:Ar) (p n:Nat):Prop where
  len:p+3+n<=A.row.length
  num:A.row.getD (p+1) 0=n
def eA(A:Ar)(p n:Nat):af:=(A.row.drop (p+3)).take n
theorem KY(h:ao)(b:Nat)(A:Ar)(g:h[b]?=some (kJ A))(p n:Nat)(f:AtOk A p n)(m:A.row.length<=1000000000):
 aI prog 239 [.ptr b 0,ak p] h (λr h'=>h'=h∧r=.loc (.cell b 0) (p+3) (p+3+n)):=by
 refine OC aP func239 ?_;obtain⟨c,a⟩:=Vp.1 g;obtain⟨l,d⟩:=f;have h1:p+1<A.row.length:=by omega
 have e:A.row[p+1]=(n:Int):=by rw[←d,Vr,Vq h1];rfl
 have i:=dU p;have j:bG ((p:Int)+3)=((p+3:Nat):Int):=by rw[aC (by omega) (by omega)];omega
 have k:bG ((p:Int)+3+n)=(p:Int)+3+n:=aC (by omega) (by omega);simp[a,c,kJ,i,j,k,h1,e];omega
theorem KZ(h:ao)(b:Nat)(A:Ar)(e:h[b]?=some (kJ A))(p n:Nat)(hi:isA A p=true)(i:AtOk A p n)(q:A.row.length<=1000000):
 aI prog 160 [.ptr b 0,ak p] h (λr h'=>h'=h∧r=.pv (.seq false 1 (am (eA A p n)))):=by
 refine fJ [] [.tmp 4] aP func160 ?_;have l:=KY h b A e p n i (by omega);obtain⟨c,a⟩:=Vp.1 e;obtain⟨o,j⟩:=i;have h1:p+1<A.row.length:=by omega
 have k:A.row[p+1]=(n:Int):=by rw[←j,Vr,Vq h1];rfl
 have m:=dU p;simp;refine ay.intro (Ec h b A e p) ?_;rintro _ _ ⟨rfl,rfl⟩;simp[a,c,kJ,m,h1,k,hi];refine⟨by omega,by omega,?_⟩;refine ay.intro l ?_;rintro _ _ ⟨rfl,rfl⟩;have g:List.drop (p+3) (List.take (p+3+n) (am A.row))=am (eA A p n):=by
  unfold am eA;rw[←Xn,←Yj,List.drop_take];congr 3;omega
 have d:(eA A p n).length=n:=by unfold eA;rw[Vy,Wf];omega
 have f:(am (eA A p n)).take n=am (eA A p n):=VT (by simp[d]);simp[a,c,kJ,g,d,f,cr]
end
structure RelA (A:Ar) (a:RA):Prop where
  size:a.size=A.row.length
  rows:∀x∈a.rows,∃p:Nat,x.at'=p∧AtOk A p x.lits.length∧eA A p x.lits.length=x.lits∧isA A p=true∧A.row.getD p 0=x.id
  is:∀q:Int,isA A q=true->∃x∈a.rows,x.at'=q
structure DK where
  A:Ar
  T:Tr
  a:RA
  t:RT
  con:Int
structure Gr where
  at':Int
  gl:Int
  wi:Int
  lo:Bool
deriving DecidableEq,Inhabited
def tN(x:Gr):aG:=[.int .i64 x.at',.int .i64 x.gl,.int .i64 x.wi,.bool x.lo]
def mT(x:Gr):aD:=[ak x.at',ak x.gl,ak x.wi,BL x.lo]
@[simp] theorem mU(k:Nat)(l:List Gr):bV k (l.map mT):=by
 induction l with
 |nil=>trivial
 |cons x xs a=>exact⟨⟨trivial,trivial,trivial,trivial,trivial⟩,a⟩
@[simp] theorem UJ(l:List Gr):Da (l.map mT):=by
 induction l with
 |nil=>trivial
 |cons x xs a=>exact⟨⟨trivial,trivial,trivial,trivial,trivial⟩,a⟩
@[simp] theorem TE(r:Nat->Nat->PV)(l:List Gr):mA r (l.map mT)=l.map mT:=by
 rw[cN,Wo];rfl
def Ed(a b:Gr):Bool:=decide (b.gl<a.gl)||(decide (a.gl=b.gl)&&(decide (b.wi<a.wi)||(decide (a.wi=b.wi)&&decide (a.at'<b.at'))))
theorem BD(a b:Gr):aw prog 191 [.agg (mT a),.agg (mT b)] (λr=>r=.pv (BL (Ed a b))):=by
 refine aB aP func191 ?_;unfold Ed;by_cases c1:a.gl=b.gl;by_cases c2:a.wi=b.wi;simp[mT,c1,c2];simp[mT,c1,c2];simp[mT,c1]
def oe(x:Gr):Bool:=x.lo||decide (x.gl<=2)
theorem OG(x:Gr):aw prog 186 [.agg (mT x)] (λr=>r=.pv (BL (oe x))):=by
 refine aB aP func186 ?_;unfold oe;cases c:x.lo<;>simp[mT,c]
def OH(a b:Gr):Int:=if Ed a b=true then-1 else if Ed b a=true then 1 else 0
theorem OI(a b:Gr):aw prog 190 [.agg (mT a),.agg (mT b)] (λr=>r=.pv (ak (OH a b))):=by
 refine aB aP func190 ?_;have h1:=BD a b;have d:=BD b a;unfold OH;simp[mT]at h1 d⊢;refine ap.intro h1 ?_;cases c:Ed a b;simp;refine ap.intro d ?_;cases c2:Ed b a<;>simp;simp
theorem Ir(l:List Gr)(c:l.length<=1000000):aw prog 188 [.seq false 4 (l.map mT)] (λr=>r=.own true 4 (l.map mT)):=by
 refine aw.own0 (R:=λr=>r=.own true 4 (l.map mT)∨(l=[]∧r=.pv (.lit (.slice none 0 0)))) ?_ (λr h=>h.imp id λ⟨a,b⟩=>⟨b,true,4,by rw[a];rfl⟩);refine aB aP func188 ?_;simp;cases l with
 |nil=>simp
 |cons x l=>simp at c⊢;omega
theorem Is(l:List Gr)(f:l.length<=1000000)(g:Nat)(p:Gr->Bool)
 (h:∀x,aw prog g [.agg (mT x)] (λr=>r=.pv (BL (p x)))):aw prog 253 [.seq false 4 (l.map mT),.fn (.func g) [] []] (λr=>r=.pv (ak (gD p l))):=by
 refine aB aP func253 ?_;simp;refine aM.intro (S:=λ(i:Nat)=>⟨[(0,.pv (.seq false 4 (l.map mT))),(1,.pv (.fn (.func g) [] [])),(7,.pv (ak l.length)),(8,.pv (ak i))],[]⟩) (λi=>i<=l.length∧∀j (hj:j<l.length),j<i->p l[j]=false) (λi=>l.length -i) 0 ?_ ⟨VH _,λj _ h=>by omega⟩ ?_;exact av.to (by simp) rfl (by simp) (by simp) (by simp);intro i ⟨hi,ho⟩;by_cases c:i<l.length;have d:=dU i;have hx:=h l[i];simp[c,mT]at hx⊢;refine ap.intro hx ?_;cases a:p l[i];simp;refine⟨i+1,by dsimp only;omega,⟨by omega,λj hj b=>?_⟩,av.to (by simp[d,mT]) rfl (by simp) (by simp) (by simp)⟩;by_cases e:j=i;subst e;exact a;exact ho j hj (by omega);simp;rw[d0 c ho a];simp[c];rw[cw (λj hj=>ho j hj (by omega))]
section
open Go.Proofs Go.Sort
structure G3 where
  at':Int
  gl:Int
  wi:Int
deriving DecidableEq,Inhabited
def g3(x:G3):Gr:=⟨x.at',x.gl,x.wi,false⟩
def Vg(x:Gr):G3:=⟨x.at',x.gl,x.wi⟩
def K3(a b:G3):Prop:=b.gl<a.gl∨a.gl=b.gl∧(b.wi<a.wi∨a.wi=b.wi∧a.at'<b.at')
instance (a b:G3):Decidable (K3 a b):=by unfold K3;infer_instance
theorem U5{p q r s t:Prop}[Decidable p][Decidable q][Decidable r][Decidable s][Decidable t][Decidable (p∨q∧(r∨s∧t))]:(decide p||(decide q&&(decide r||(decide s&&decide t))))=decide (p∨q∧(r∨s∧t)):=by
 by_cases h1:p<;>by_cases a:q<;>by_cases b:r<;>by_cases c:s<;>by_cases d:t<;>simp[h1,a,b,c,d]
theorem GD(a b:G3):Ed (g3 a) (g3 b)=decide (K3 a b):=U5
def zR(a b:G3):Int:=OH (g3 a) (g3 b)
theorem OJ(a b:G3):zR a b<0↔K3 a b:=by
 unfold zR OH;rw[GD,GD];by_cases h:K3 a b;simp[h];by_cases c:K3 b a<;>simp[h,c]
theorem xQ(a b:G3):ltOf zR a b=decide (K3 a b):=by
 unfold ltOf;exact Z5.2 (OJ a b)
theorem K4:SWO (ltOf zR):=by
 refine⟨λa=>?_,λa b c=>?_,λa b c=>?_⟩<;>simp only[xQ,VI,WX]<;>simp only[K3];omega;intro h1 d;omega;intro h1 d;omega
theorem OK{x y:G3}(h1:¬K3 x y)(d:¬K3 y x):x=y:=by
 obtain⟨a,b,c⟩:=x;obtain⟨e,b',c'⟩:=y;simp only[K3]at h1 d;simp only[G3.mk.injEq];omega
theorem K5:∀x y,(ltOf zR) x y=false->(ltOf zR) y x=false->x=y:=by
 intro x y;simp only[xQ,WX];exact OK
def xR(l:List G3):List G3:=l.mergeSort λx y=>!(ltOf zR) y x
theorem qp(l:List G3):(xR l).Perm l:=Xu _ _
def rz(l:List Gr):List G3:=(l.filter λx=>!oe x).map Vg
theorem It(l:List Gr):(rz l).map g3=l.filter λx=>!oe x:=by
 unfold rz;rw[Wo]
 conv=>rhs;rw[←aax (l.filter λx=>!oe x)]
 apply XE;intro x hx;have:=(V9.1 hx).2;obtain⟨a,b,c,d⟩:=x;simp[oe]at this;simp[g3,Vg,this.1]
theorem K6(l:List Gr):(rz l).length<=l.length:=by
 unfold rz;rw[VA];exact WR _ _
def eJ(l:af):af:=l.mergeSort λx y=>decide (x<=y)
def lW(l:List Gr)(keep:Int):af:=if(l.length:Int)<=keep then[]else eJ (((xR (rz l)).take (l.length/2)).map (·.at'))
theorem zS(l:af):(eJ l).Pairwise (·<=·):=by
 have:=YS (le:=λx y:Int=>decide (x<=y)) (λa b c h1 d=>by simp only[VI]at*;omega) (λa b=>by simp only[WI,VI];omega) l;exact this.imp λh=>by simpa using h
end
end Go.AX
