/-
  Contracts: arenas; and what follows.
-/
import Derived.Test.YtepodadinenmnaaGreatS14AxRfA
import Derived.Test.YtepodadinenmnaaGreatS14AxRfD
import Derived.Test.YtepodadinenmnaaGreatAxLo
import Derived.Test.YtepodadinenmnaaGreatAxXW
import Derived.Test.YtepodadinenmnaaGreatS14AxDkP
import Derived.Test.YtepodadinenmnaaGreatS14AxRfB
import Derived.Test.YtepodadinenmnaaGreatAxDl
namespace Go.AX
set_option maxRecDepth 8000
open Go.Proofs
set_option linter.unusedSimpArgs false
structure Ar where
  row:List Int
  hd:List (Int×Int)
def ji(A:Ar):List SV:=[.own true 1 (ae A.row),.omap true (aG fI A.hd)]
theorem tv(k:Nat)(A:Ar):cD k (ji A):=⟨aT k _,iL k _,trivial⟩
@[simp] theorem NR(l:List Int):Dn (ae l):=by
 unfold ae
 induction l with
 |nil=>trivial
 |cons x xs a=>exact⟨⟨trivial,trivial⟩,a⟩
def OT:List SV:=[.pv (.lit (.slice none 0 0)),.omap true []]
theorem Lv(h:List (List SV)):ax Tryz.prog 65 [] h (λr h'=>h'=h++[OT]∧r=.pv (.ptr h.length 0)):=by
 refine mB aC Tryz.func65 ?_;simp[OT]
theorem pL(h:List (List SV))(b:Nat)(A:Ar)(d:h[b]?=some (ji A)):ax Tryz.prog 207 [.ptr b 0] h (λr h'=>h'=h∧r=.pv (BL true)):=by
 refine gC [] [.tmp 2] aC Tryz.func207 ?_;obtain⟨c,a⟩:=SG.1 d;simp[a,c,ji]
def isA(A:Ar)(at':Int):Bool:=decide (0<(lk A.hd at').getD 0)
theorem B3(h:List (List SV))(b:Nat)(A:Ar)(d:h[b]?=some (ji A))(at':Int):ax Tryz.prog 237 [.ptr b 0,ab at'] h (λr h'=>h'=h∧r=.pv (BL (isA A at'))):=by
 refine gC [] [.tmp 4] aC Tryz.func237 ?_;obtain⟨c,a⟩:=SG.1 d;simp;refine am.intro (pL h b A d) ?_;rintro _ _ ⟨rfl,rfl⟩;simp[a,c,ji,isA]
structure AtOk (A:Ar) (p n:Nat):Prop where
  len:p+3+n<=A.row.length
  num:A.row.getD (p+1) 0=n
def dE(A:Ar)(p n:Nat):List Int:=(A.row.drop (p+3)).take n
theorem Ib(h:List (List SV))(b:Nat)(A:Ar)(g:h[b]?=some (ji A))(p n:Nat)(f:AtOk A p n)(m:A.row.length<=1000000000):
 ax Tryz.prog 239 [.ptr b 0,ab p] h (λr h'=>h'=h∧r=.loc (.cell b 0) (p+3) (p+3+n)):=by
 refine Lu aC Tryz.func239 ?_;obtain⟨c,a⟩:=SG.1 g;obtain⟨l,d⟩:=f;have h1:p+1<A.row.length:=by omega
 have e:A.row[p+1]=(n:Int):=by rw[←d,SI,SH h1];rfl
 have i:=dZ p;have j:aY ((p:Int)+3)=((p+3:Nat):Int):=by rw[ao (by omega) (by omega)];omega
 have k:aY ((p:Int)+3+n)=(p:Int)+3+n:=ao (by omega) (by omega);simp[a,c,ji,i,j,k,h1,e];omega
theorem Ic(h:List (List SV))(b:Nat)(A:Ar)(e:h[b]?=some (ji A))(p n:Nat)(hi:isA A p=true)(i:AtOk A p n)(q:A.row.length<=1000000):
 ax Tryz.prog 160 [.ptr b 0,ab p] h (λr h'=>h'=h∧r=.pv (.seq false 1 (ae (dE A p n)))):=by
 refine fk [] [.tmp 4] aC Tryz.func160 ?_;have l:=Ib h b A e p n i (by omega);obtain⟨c,a⟩:=SG.1 e;obtain⟨o,j⟩:=i;have h1:p+1<A.row.length:=by omega
 have k:A.row[p+1]=(n:Int):=by rw[←j,SI,SH h1];rfl
 have m:=dZ p;simp;refine am.intro (B3 h b A e p) ?_;rintro _ _ ⟨rfl,rfl⟩;simp[a,c,ji,m,h1,k,hi];refine⟨by omega,by omega,?_⟩;refine am.intro l ?_;rintro _ _ ⟨rfl,rfl⟩;have g:List.drop (p+3) (List.take (p+3+n) (ae A.row))=ae (dE A p n):=by
  unfold ae dE;rw[←U3,←VY,List.drop_take];congr 3;omega
 have d:(dE A p n).length=n:=by unfold dE;rw[SU,TF];omega
 have f:(ae (dE A p n)).take n=ae (dE A p n):=Tm (by simp[d]);simp[a,c,ji,g,d,f,bO]
end Go.AX
namespace Go.AX
open Go.Proofs
set_option linter.unusedSimpArgs false
structure RelA (A:Ar) (a:RA):Prop where
  size:a.size=A.row.length
  rows:∀x∈a.rows,∃p:Nat,x.at'=p∧AtOk A p x.lits.length∧dE A p x.lits.length=x.lits∧isA A p=true∧A.row.getD p 0=x.id
  is:∀q:Int,isA A q=true->∃x∈a.rows,x.at'=q
structure DK where
  A:Ar
  T:Tr
  a:RA
  t:RT
  con:Int
structure Gr where
  at':Int
  gl:Int
  wi:Int
  lo:Bool
deriving DecidableEq,Inhabited
def rL(x:Gr):List Value:=[.int .i64 x.at',.int .i64 x.gl,.int .i64 x.wi,.bool x.lo]
def lE(x:Gr):List PV:=[ab x.at',ab x.gl,ab x.wi,BL x.lo]
@[simp] theorem lF(k:Nat)(l:List Gr):bL k (l.map lE):=by
 induction l with
 |nil=>trivial
 |cons x xs a=>exact⟨⟨trivial,trivial,trivial,trivial,trivial⟩,a⟩
@[simp] theorem RQ(l:List Gr):A3 (l.map lE):=by
 induction l with
 |nil=>trivial
 |cons x xs a=>exact⟨⟨trivial,trivial,trivial,trivial,trivial⟩,a⟩
@[simp] theorem QI(r:Nat->Nat->PV)(l:List Gr):l4 r (l.map lE)=l.map lE:=by
 rw[cm,TT];rfl
def B5(a b:Gr):Bool:=decide (b.gl<a.gl)||(decide (a.gl=b.gl)&&(decide (b.wi<a.wi)||(decide (a.wi=b.wi)&&decide (a.at'<b.at'))))
theorem zu(a b:Gr):ak Tryz.prog 191 [.agg (lE a),.agg (lE b)] (λr=>r=.pv (BL (B5 a b))):=by
 refine ap aC Tryz.func191 ?_;unfold B5
 by_cases c1:a.gl=b.gl
 .by_cases c2:a.wi=b.wi
  .simp[lE,c1,c2]
  .simp[lE,c1,c2]
 .simp[lE,c1]
def mJ(x:Gr):Bool:=x.lo||decide (x.gl<=2)
theorem Lx(x:Gr):ak Tryz.prog 186 [.agg (lE x)] (λr=>r=.pv (BL (mJ x))):=by
 refine ap aC Tryz.func186 ?_;unfold mJ;cases c:x.lo<;>simp[lE,c]
def Ly(a b:Gr):Int:=if B5 a b=true then-1 else if B5 b a=true then 1 else 0
theorem Lz(a b:Gr):ak Tryz.prog 190 [.agg (lE a),.agg (lE b)] (λr=>r=.pv (ab (Ly a b))):=by
 refine ap aC Tryz.func190 ?_;have h1:=zu a b;have d:=zu b a;unfold Ly;simp[lE]at h1 d⊢;refine ah.intro h1 ?_;cases c:B5 a b
 .simp;refine ah.intro d ?_;cases c2:B5 b a<;>simp
 .simp
theorem Fy(l:List Gr)(c:l.length<=1000000):ak Tryz.prog 188 [.seq false 4 (l.map lE)] (λr=>r=.own true 4 (l.map lE)):=by
 refine ak.own0 (R:=λr=>r=.own true 4 (l.map lE)∨(l=[]∧r=.pv (.lit (.slice none 0 0)))) ?_ (λr h=>h.imp id λ⟨a,b⟩=>⟨b,true,4,by rw[a];rfl⟩);refine ap aC Tryz.func188 ?_;simp;cases l with
 |nil=>simp
 |cons x l=>simp at c⊢;omega
theorem Fz(l:List Gr)(f:l.length<=1000000)(g:Nat)(p:Gr->Bool)
 (h:∀x,ak Tryz.prog g [.agg (lE x)] (λr=>r=.pv (BL (p x)))):ak Tryz.prog 253 [.seq false 4 (l.map lE),.fn (.func g) [] []] (λr=>r=.pv (ab (gp p l))):=by
 refine ap aC Tryz.func253 ?_;simp;refine aF.intro (S:=λ(i:Nat)=>⟨[(0,.pv (.seq false 4 (l.map lE))),(1,.pv (.fn (.func g) [] [])),(7,.pv (ab l.length)),(8,.pv (ab i))],[]⟩) (λi=>i<=l.length∧∀j (hj:j<l.length),j<i->p l[j]=false) (λi=>l.length -i) 0 ?_ ⟨Te _,λj _ h=>by omega⟩ ?_
 .exact ai.to (by simp) rfl (by simp) (by simp) (by simp)
 .intro i ⟨hi,ho⟩
  by_cases c:i<l.length
  .have d:=dZ i;have hx:=h l[i];simp[c,lE]at hx⊢;refine ah.intro hx ?_;cases a:p l[i]
   .simp;refine⟨i+1,by dsimp only;omega,⟨by omega,λj hj b=>?_⟩,ai.to (by simp[d,lE]) rfl (by simp) (by simp) (by simp)⟩
    by_cases e:j=i
    .subst e;exact a
    .exact ho j hj (by omega)
   .simp;rw[d9 c ho a]
  .simp[c];rw[cJ (λj hj=>ho j hj (by omega))]
end Go.AX
namespace Go.AX
open Go.Proofs Go.Sort
structure G3 where
  at':Int
  gl:Int
  wi:Int
deriving DecidableEq,Inhabited
def g3(x:G3):Gr:=⟨x.at',x.gl,x.wi,false⟩
def Sx(x:Gr):G3:=⟨x.at',x.gl,x.wi⟩
def Ig(a b:G3):Prop:=b.gl<a.gl∨a.gl=b.gl∧(b.wi<a.wi∨a.wi=b.wi∧a.at'<b.at')
instance (a b:G3):Decidable (Ig a b):=by unfold Ig;infer_instance
theorem Sb{p q r s t:Prop}[Decidable p][Decidable q][Decidable r][Decidable s][Decidable t][Decidable (p∨q∧(r∨s∧t))]:(decide p||(decide q&&(decide r||(decide s&&decide t))))=decide (p∨q∧(r∨s∧t)):=by
 by_cases h1:p<;>by_cases a:q<;>by_cases b:r<;>by_cases c:s<;>by_cases d:t<;>simp[h1,a,b,c,d]
theorem DX(a b:G3):B5 (g3 a) (g3 b)=decide (Ig a b):=Sb
def xG(a b:G3):Int:=Ly (g3 a) (g3 b)
theorem LA(a b:G3):xG a b<0↔Ig a b:=by
 unfold xG Ly;rw[DX,DX]
 by_cases h:Ig a b
 .simp[h]
 .by_cases c:Ig b a<;>simp[h,c]
theorem vO(a b:G3):ltOf xG a b=decide (Ig a b):=by
 unfold ltOf;exact Xp.2 (LA a b)
theorem Ih:SWO (ltOf xG):=by
 refine⟨λa=>?_,λa b c=>?_,λa b c=>?_⟩<;>simp only[vO,S9,Us]<;>simp only[Ig]
 .omega
 .intro h1 d;omega
 .intro h1 d;omega
theorem LB{x y:G3}(h1:¬Ig x y)(d:¬Ig y x):x=y:=by
 obtain⟨a,b,c⟩:=x;obtain⟨e,b',c'⟩:=y;simp only[Ig]at h1 d;simp only[G3.mk.injEq];omega
theorem Ii:∀x y,(ltOf xG) x y=false->(ltOf xG) y x=false->x=y:=by
 intro x y;simp only[vO,Us];exact LB
def vP(l:List G3):List G3:=l.mergeSort λx y=>!(ltOf xG) y x
theorem oM(l:List G3):(vP l).Perm l:=Vd _ _
def pO(l:List Gr):List G3:=(l.filter λx=>!mJ x).map Sx
theorem FA(l:List Gr):(pO l).map g3=l.filter λx=>!mJ x:=by
 unfold pO;rw[TT]
 conv=>rhs;rw[←XP (l.filter λx=>!mJ x)]
 apply Vb;intro x hx;have:=(TE.1 hx).2;obtain⟨a,b,c,d⟩:=x;simp[mJ]at this;simp[g3,Sx,this.1]
theorem Ij(l:List Gr):(pO l).length<=l.length:=by
 unfold pO;rw[SZ];exact UM _ _
def dJ(l:List Int):List Int:=l.mergeSort λx y=>decide (x<=y)
def j8(l:List Gr)(keep:Int):List Int:=if(l.length:Int)<=keep then[]else dJ (((vP (pO l)).take (l.length/2)).map (·.at'))
theorem xH(l:List Int):(dJ l).Pairwise (·<=·):=by
 have:=WE (le:=λx y:Int=>decide (x<=y)) (λa b c h1 d=>by simp only[S9]at*;omega) (λa b=>by simp only[Uj,S9];omega) l;exact this.imp λh=>by simpa using h
end Go.AX