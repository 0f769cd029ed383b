/-
  Contracts: how glued literals are; whether a clause is a reason; and what follows.
-/
import Derived.Test.YtepodadinenmnaaGreatZr
import Derived.Lib.TrailingZeros
set_option linter.unusedSimpArgs false
set_option maxRecDepth 16000
namespace Go.AX
open Go.Proofs Go.Proofs.Tryz
section
def vm(T:Tr)(l:af):Nat->aS
 |0=>[]
 |i+1=>if 0<(em T (aq (l.getD i 0))).1.lev then pt (vm T l i) (em T (aq (l.getD i 0))).1.lev (bG ((lk (vm T l i) (em T (aq (l.getD i 0))).1.lev).getD 0+1))else vm T l i
def OM(T:Tr)(l:af):Int:=((vm T l l.length).length:Int)
theorem Iu(T:Tr)(ht:T.ok)(l:af)(g:l.length<=1000000):aw prog 97 [cD T,.seq false 1 (am l)] (λr=>r=.pv (ak (OM T l))):=by
 refine aB aP func97 ?_;have a:=λv=>gL T v ht;simp only[cD,dM]at a;simp[cD,dM];refine aM.intro (S:=λ(i:Nat)=>⟨[(0,.pv (cD T)),(5,.omap true (aL fI (vm T l i))),(12,.pv (.seq false 1 (am l))),(13,.pv (ak l.length)),(14,.pv (ak i))],[]⟩) (λi=>i<=l.length) (λi=>l.length -i) 0 ?_ (VH _) ?_;exact av.to (by simp[vm,cD,dM,aL]) rfl (by simp) (by simp[cD,dM]) (by simp);intro i hi;by_cases f:i<l.length;have b:=dU i;have e:l.getD i 0=l[i]:=by rw[Vr,Vq f];rfl
 have d:vm T l (i+1)=if 0<(em T (aq l[i])).1.lev then pt (vm T l i) (em T (aq l[i])).1.lev (bG ((lk (vm T l i) (em T (aq l[i])).1.lev).getD 0+1))else vm T l i:=by rw[vm,e]
 simp[f,dM];refine ap.intro (aX l[i]) ?_;simp[dM];refine ap.intro (a (aq l[i])) ?_;generalize(em T (aq l[i])).1.lev=n at*;by_cases c:0<n;rw[Vt c]at d;simp[c];exact⟨i+1,by dsimp only;omega,by dsimp only;omega,av.to (by simp[b,d,cD,dM]) rfl (by simp) (by simp[cD,dM]) (by simp)⟩;rw[Vs c]at d;simp[c];exact⟨i+1,by dsimp only;omega,by dsimp only;omega,av.to (by simp[b,d,cD,dM]) rfl (by simp) (by simp[cD,dM]) (by simp)⟩;have:i=l.length:=by omega
 subst this;simp[OM,aL]
theorem o5(T:Tr):aw prog 105 [cD T] (λr=>r=.pv (ak T.beg.length)):=by
 refine aB aP func105 ?_;have hi:=oa T;simp only[cD,dM]at hi;simp[cD,dM];refine ap.intro hi ?_;simp
def BG(T:Tr)(at' l:Int):Bool:=decide (0<df T l)&&decide ((em T (aq l)).1.rea=at')
def vn(T:Tr)(at':Int)(l:af):Bool:=l.any (BG T at')
theorem Eg(T:Tr)(ht:T.ok)(at' l:Int):aw prog 255 [ak l,.iptr 1 [[cD T]] 0 0,.iptr 1 [[ak at']] 0 0] (λr=>r=.pv (BL (BG T at' l))):=by
 refine aB aP func255 ?_;have b:=gM T l ht;have a:=iJ T (aq l) ht;simp only[cD,dM]at b a;simp[cD,dM];refine bW.intro b ?_;unfold BG;by_cases c:0<df T l;simp[c,dM];refine eh.intro (r:=.pv (ak (aq l))) (λ_=>aX l) ?_;simp[c,dM];refine eh.intro (r:=.pv (ak (em T (aq l)).1.rea)) (λ_=>a) ?_;simp;simp[c,dM];refine eh.intro (r:=.pv (ak (aq l))) (λ_=>aX l) ?_;simp[c,dM];refine eh.intro (r:=.pv (ak (em T (aq l)).1.rea)) (λ_=>a) ?_;simp
theorem Iv(T:Tr)(ht:T.ok)(at':Int)(l:af)(b:l.length<=1000000):aw prog 194 [cD T,ak at',.seq false 1 (am l)] (λr=>r=.pv (BL (vn T at' l))):=by
 refine aB aP func194 ?_;have a:=eQ l b 255 [.iptr 1 [[cD T]] 0 0,.iptr 1 [[ak at']] 0 0] (BG T at') (λr=>by simp[cD,dM]) rfl (λk=>by simp[cD,dM]) (λx _=>Eg T ht at' x);simp only[cD,dM]at a;simp[cD,dM,bE];refine bz.intro (r:=.pv (BL (vn T at' l))) (λ_=>a) ?_;simp
end
section
def rB(A:Ar):aD:=[.seq false 1 (am A.row),.amap false (aL fI A.hd)]
abbrev mj(A:Ar):PV:=.iptr 2 [rB A] 0 0
@[simp] theorem Iw:∀l:af,za (am l)
 |[]=>trivial
 |_::l=>⟨⟨trivial,trivial⟩,Iw l⟩
@[simp] theorem K8:∀l:List Mk,za (l.map sa)
 |[]=>trivial
 |_::l=>⟨⟨trivial,trivial,trivial,trivial,trivial⟩,K8 l⟩
theorem GE{h:ao}{b:Nat}{A:Ar}(d:h[b]?=some (kJ A))(n:Nat):bE h (n+1) b 0=mj A:=by
 obtain⟨c,a⟩:=Vp.1 d;simp[bE,c,a,kJ,rB,frzC]
@[simp] theorem RN(k v:Int)(l:aS):aL fI ((k,v)::l)=(k,ak v)::aL fI l:=rfl
theorem Ix(A:Ar)(h0:A.hd≠[]):aw prog 207 [mj A] (λr=>r=.pv (BL true)):=by
 refine aB aP func207 ?_;obtain⟨row,hd⟩:=A;cases hd with
 |nil=>exact absurd rfl h0
 |cons x hd=>
  obtain⟨k,v⟩:=x;simp[mj,rB]
theorem GF(A:Ar)(h0:A.hd≠[])(q:Int):aw prog 237 [mj A,ak q] (λr=>r=.pv (BL (isA A q))):=by
 refine aB aP func237 ?_;have a:=Ix A h0;simp only[mj,rB]at a;simp[mj,rB];refine ap.intro a ?_;simp[isA]
theorem Iy(h:ao)(A:Ar)(p n:Nat)(d:AtOk A p n)(k:A.row.length<=1000000000):aI prog 239 [mj A,ak p] h (λr h'=>h'=h∧r=.pv (.seq false 1 (am (eA A p n)))):=by
 refine ij [] [.tmp 4] aP func239 ?_;obtain⟨j,b⟩:=d;have h1:p+1<A.row.length:=by omega
 have c:A.row[p+1]=(n:Int):=by rw[←b,Vr,Vq h1];rfl
 have f:=dU p;have g:bG ((p:Int)+3)=((p+3:Nat):Int):=by rw[aC (by omega) (by omega)];omega
 have i:bG ((p:Int)+3+n)=(p:Int)+3+n:=aC (by omega) (by omega);have a:List.drop (p+3) (List.take (p+3+n) (am A.row))=am (eA A p n):=by
  unfold am eA;rw[←Xn,←Yj,List.drop_take];congr 3;omega
 have t1:((p:Int)+3).toNat=p+3:=by omega
 have e:((p:Int)+3+n).toNat=p+3+n:=by omega
 simp[mj,rB,f,g,i,h1,c,t1,e,a,ii]
 try omega
def aJ(A:Ar)(q:Int):af:=if isA A q=true then eA A q.toNat (A.row.getD (q.toNat+1) 0).toNat else[]
def lX(A:Ar):Prop:=∀q:Int,isA A q=true->∃p n:Nat,q=(p:Int)∧AtOk A p n
theorem lY(A:Ar)(h0:A.hd≠[])(hk:lX A)(o:A.row.length<=1000000)(q:Int):aw prog 160 [mj A,ak q] (λr=>r=.own true 1 (am (aJ A q))):=by
 refine aw.own0 (R:=λr=>r=.own true 1 (am (aJ A q))∨(aJ A q=[]∧r=.pv (.lit (.slice none 0 0)))) ?_ (λr h=>h.imp id λ⟨i,j⟩=>⟨j,true,1,by rw[i];rfl⟩);refine aB aP func160 ?_;have hi:=GF A h0 q;simp only[mj,rB]at hi;simp[mj,rB];refine ap.intro hi ?_;by_cases c:isA A q=true;rotate_left;have c':isA A q=false:=by simpa using c
 have b:aJ A q=[]:=Vs c;simp[c',b];obtain⟨p,n,rfl,d⟩:=hk q c;have f:=λh=>Iy h A p n d (by omega);have b:aJ A p=eA A p n:=by
  unfold aJ;rw[Vt c,WH,d.num,WH]
 obtain⟨m,g⟩:=d;have h1:p+1<A.row.length:=by omega
 have k:A.row[p+1]=(n:Int):=by rw[←g,Vr,Vq h1];rfl
 have l:=dU p;have a:(eA A p n).length=n:=by unfold eA;rw[Vy,Wf];omega
 have e:(am (eA A p n)).take n=am (eA A p n):=VT (by simp[a]);rw[b];generalize eA A p n=y at*;simp only[mj,rB]at f;simp[c,l,h1,k,rB];refine⟨by omega,by omega,?_⟩;refine ap.introM (f _) ?_;rintro _ _ ⟨rfl,rfl⟩;simp[a,e]
theorem gP(A:Ar)(hk:lX A)(q:Int):(aJ A q).length<=A.row.length:=by
 unfold aJ;split;unfold eA;rw[Vy,Wf];omega;simp
def wT(T:Tr)(l x:Int):Bool:=decide (x=bG (-l))||decide ((em T (aq x)).1.lev=0)
def rD(A:Ar)(T:Tr)(l:Int):Bool:=!(decide (0<=df T l)||decide ((em T (aq l)).1.rea<0)||!mP (aJ A (em T (aq l)).1.rea) (bG (-l)))
def vo(A:Ar)(T:Tr)(l:Int):af:=if rD A T l=true then(aJ A (em T (aq l)).1.rea).filter λx=>!wT T l x else[]
theorem QI(T:Tr)(ht:T.ok)(l x:Int):aw prog 289 [ak x,.iptr 1 [[ak l]] 0 0,.iptr 1 [[cD T]] 0 0] (λr=>r=.pv (BL (wT T l x))):=by
 refine aB aP func289 ?_;have a:=gL T (aq x) ht;simp only[cD,dM]at a;unfold wT;by_cases c:x=bG (-l);simp[cD,dM,c];refine eh.intro (r:=.pv (ak 0)) (λh:False=>h.elim) ?_;simp[dM];refine eh.intro (r:=.pv (ak 0)) (λh:False=>h.elim) ?_;simp;simp[cD,dM,c];refine eh.intro (λ_=>aX x) ?_;simp[dM];refine eh.intro (λ_=>a) ?_;simp
theorem Iz(A:Ar)(T:Tr)(l:Int)(ht:T.ok)(hk:lX A)(s:A.row.length<=1000000)(h0:0<=(em T (aq l)).1.rea->A.hd≠[]):aw prog 246 [mj A,cD T,ak l] (λr=>r=.pv (.tup [.seq true 1 (am (vo A T l)),BL (rD A T l)])):=by
 refine aw.wk (R:=λr=>∃x,r=.pv x∧cr x (.tup [.seq true 1 (am (vo A T l)),BL (rD A T l)])) ?_ (λr ⟨x,e,h⟩=>⟨x,_,e,h,rfl⟩);refine iF [] [.tmp 6,.tmp 7] aP func246 ?_;have n:=iJ T (aq l) ht;have p:=gM T l ht;have d:=λh=>lY A h hk s (em T (aq l)).1.rea;have g:=λx=>QI T ht l x;simp only[cD,dM]at n p;simp only[mj,rB]at d;simp[mj,rB,cD,dM];refine bW.intro (aX l) ?_;simp[dM];refine bW.intro n ?_;simp[dM];refine bW.intro p ?_;have i:rD A T l=!(decide (0<=df T l)||decide ((em T (aq l)).1.rea<0)||!mP (aJ A (em T (aq l)).1.rea) (bG (-l))):=rfl;have b:vo A T l=if rD A T l=true then(aJ A (em T (aq l)).1.rea).filter λx=>!wT T l x else[]:=rfl;have t:=gP A hk (em T (aq l)).1.rea;generalize(em T (aq l)).1.rea=why at*;by_cases c1:0<=df T l;have a:rD A T l=false:=by rw[i];simp[c1]
 rw[a]at b;simp only[We,WM]at b;simp[c1,a,b];refine eh.intro (r:=.pv (.seq true 1 [])) (λh:False=>h.elim) ?_;simp;refine eh.intro (r:=.pv (BL false)) (λh:False=>h.elim) ?_;simp[cr,bX,am];by_cases c2:why<0;have a:rD A T l=false:=by rw[i];simp[c2]
 rw[a]at b;simp only[We,WM]at b;simp[c1,c2,a,b];refine eh.intro (r:=.pv (.seq true 1 [])) (λh:False=>h.elim) ?_;simp;refine eh.intro (r:=.pv (BL false)) (λh:False=>h.elim) ?_;simp[cr,bX,am];have d:=d (h0 (by omega));simp[c1,c2];refine eh.intro (λ_=>d) ?_;simp;refine eh.intro (λ_=>KP _ (bG (-l)) (by omega)) ?_;cases c3:mP (aJ A why) (bG (-l));have a:rD A T l=false:=by rw[i];simp[c3]
 rw[a]at b;simp only[We,WM]at b;simp[a,b,cr,bX,am];have a:rD A T l=true:=by rw[i];simp[c1,c2,c3]
 rw[a]at b;simp only[Xl]at b;simp[a,dM,rB];refine ap.intro d ?_;generalize aJ A why=y at*;have q:=j8 y (by omega) 289 [.iptr 1 [[ak l]] 0 0,.iptr 1 [[cD T]] 0 0] (wT T l) (λr=>by simp[cD,dM]) rfl (λk=>by simp[cD,dM]) (by simp[cD,dM,PV.old,nQ,za]) (λx _=>g x);simp;refine ap.introX (cd.introS (o:=.slot 34) (lo:=0) (hi:=y.length) q (by simp) rfl rfl (by simp) (by simp) rfl (by simp;rw[VT (by simp)];rfl) (br 0 y) (by simp) (by simp[cD,dM,bE]) ?_);rintro k m ⟨rfl,rfl⟩ _ _;have j:List.drop y.length (am y)=[]:=VS (by simp);have c:∀X,List.take (bq (wT T l) y).length (aU (bq (wT T l) y++X))=am (bq (wT T l) y):=λX=>by
  unfold aU;rw[V1,Xw (by simp)];rfl
 have f:bq (wT T l) y=vo A T l:=b.symm;simp[j,c,f,cr,bX];rw[f]at c;exact c _
theorem K9(A:Ar)(T:Tr)(l:Int)(hk:lX A):(vo A T l).length<=A.row.length:=by
 unfold vo;split;exact Wb (WR _ _) (gP A hk _);simp
end
section
def rE(n:Nat):PV:=.fn (.func 244) [] [.ptr (n+1) 0,.ptr (n+3) 0,.ptr n 0,.ptr (n+2) 0,.ptr (n+4) 0]
def La(A:Ar)(T:Tr)(lits:af)(m:aS)(n:Nat):ao:=[[.pv (mj A)],[.pv (cD T)],[.pv (.seq false 1 (am lits))],[.omap true (aL fI m)],[.pv (rE n)]]
theorem Lb(h:ao)(A:Ar)(T:Tr)(lits:af):aI prog 164 [mj A,cD T,.seq false 1 (am lits)] h (λr h'=>h'=h++La A T lits [] h.length∧r=.pv (rE h.length)):=by
 refine dh [] [.tmp 6] aP func164 ?_;simp[mj,rB,cD,dM,La,rE];rfl
def du(T:Tr)(l:Int):Int:=(em T (aq l)).1.pla
def np(T:Tr)(lits:af)(l x:Int):Bool:=!decide (x=l)&&(decide (x∈lits)&&decide (du T x<du T l))
def pN(A:Ar)(T:Tr)(lits:af):Nat->Int->Bool
 |0,_=>false
 |k+1,l=>rD A T l&&(vo A T l).all λx=>np T lits l x||(decide (0<=du T x∧du T x<du T l)&&pN A T lits k x)
theorem BH(A:Ar)(T:Tr)(lits:af):∀(k k':Nat)(l:Int),(du T l).toNat<k->(du T l).toNat<k'->pN A T lits k l=pN A T lits k' l
 |0,_,_,h,_=>by omega
 |_+1,0,_,_,h=>by omega
 |k+1,k'+1,l,h,h'=>by
  have e:(λx=>np T lits l x||(decide (0<=du T x∧du T x<du T l)&&pN A T lits k x))=(λx=>np T lits l x||(decide (0<=du T x∧du T x<du T l)&&pN A T lits k' x)):=by
   funext x;by_cases c:0<=du T x∧du T x<du T l;rw[BH A T lits k k' x (by omega) (by omega)];rw[W7 c,XJ,XJ]
  rw[pN,pN,e]
def nq(A:Ar)(T:Tr)(lits:af)(l:Int):Bool:=pN A T lits ((du T l).toNat+1) l
def pO(A:Ar)(T:Tr)(lits:af)(l x:Int):Bool:=np T lits l x||(decide (0<=du T x∧du T x<du T l)&&nq A T lits x)
theorem vp(A:Ar)(T:Tr)(lits:af)(l:Int):nq A T lits l=(rD A T l&&(vo A T l).all (pO A T lits l)):=by
 have e:(λx=>np T lits l x||(decide (0<=du T x∧du T x<du T l)&&pN A T lits (du T l).toNat x))=pO A T lits l:=by
  funext x;unfold pO nq;by_cases c:0<=du T x∧du T x<du T l;rw[BH A T lits (du T l).toNat ((du T x).toNat+1) x (by omega) (by omega)];rw[W7 c,XJ,XJ]
 unfold nq;rw[pN,e]
def kb(A:Ar)(T:Tr)(lits:af)(l a:Int):Bool:=decide (0<=du T l∧du T l<a)&&nq A T lits l
def qr(A:Ar)(T:Tr)(lits:af)(m:aS):Prop:=∀q:Int,(lk m q).getD 0=0∨((lk m q).getD 0=1∧nq A T lits q=true)∨((lk m q).getD 0=2∧nq A T lits q=false)
def o6:Sch:=
 let E:Sch:=.fork [(14,.take 16 (.take 17 (.take 18 (.take 20 (.take 21 (.fork [(19,.fork [(22,.take 23 (.take 24 (.fork [(25,.done)])))])]))))))]
 .take 0 (.take 1 (.take 2 (.take 3 (.take 4 (.take 5 (.take 7 (.fork [(6,.fork [(8,.take 9 (.take 10 (.take 12 (.take 15 (.fork [(11,.fork [(13,E)]),(13,.fork [(11,E)])])))))])])))))))
structure AskAt (A:Ar) (T:Tr) (lits:af) (m:aS) (n:Nat) (h:ao):Prop where
  b0:h[n]?=some [.pv (mj A)]
  b1:h[n+1]?=some [.pv (cD T)]
  b2:h[n+2]?=some [.pv (.seq false 1 (am lits))]
  b3:h[n+3]?=some [.omap true (aL fI m)]
  b4:h[n+4]?=some [.pv (rE n)]
theorem AskAt.set{A:Ar}{T:Tr}{lits:af}{m b:aS}{n:Nat}{h:ao}(a:AskAt A T lits m n h):AskAt A T lits b n (h.set (n+3) [.omap true (aL fI b)])where
 b0:=by rw[VL (by omega)];exact a.b0
 b1:=by rw[VL (by omega)];exact a.b1
 b2:=by rw[VL (by omega)];exact a.b2
 b3:=by rw[VZ (Vp.1 a.b3).1]
 b4:=by rw[VL (by omega)];exact a.b4
structure ShOk (A:Ar) (T:Tr) (lits:af):Prop where
  tr:T.ok
  ar:lX A
  len:A.row.length<=1000000
  few:lits.length<=1000000
  hd:∀v,0<=(em T v).1.rea->A.hd≠[]
theorem Lc(A:Ar)(T:Tr)(lits:af)(n:Nat)(hs:ShOk A T lits)(l a:Int)(m:aS)(h:ao)(k:¬(0<=du T l∧du T l<a))(b:AskAt A T lits m n h)(g:qr A T lits m):
 aI prog 244 [ak l,ak a,.ptr (n+1) 0,.ptr (n+3) 0,.ptr n 0,.ptr (n+2) 0,.ptr (n+4) 0] h (λr h'=>∃i,qr A T lits i∧h'=h.set (n+3) [.omap true (aL fI i)]∧r=.pv (BL (kb A T lits l a))):=by
 refine dh [10] [.tmp 9] aP func244 ?_;have c:=oW T (aq l) hs.tr;have e:(em T (aq l)).1.pla=du T l:=rfl;obtain⟨n0,g0⟩:=Vp.1 b.b0;obtain⟨j,f⟩:=Vp.1 b.b1;obtain⟨p,g2⟩:=Vp.1 b.b2;obtain⟨q,g3⟩:=Vp.1 b.b3;obtain⟨s,o⟩:=Vp.1 b.b4;rw[e]at c;simp only[cD,dM]at c;simp[j,f,cD,dM];refine bW.intro (aX l) ?_;simp[j,f,cD,dM];refine bW.intro c ?_;by_cases c1:du T l<0;have d:kb A T lits l a=false:=by unfold kb;rw[W7 (by omega),XJ]
 simp[c1,d];exact⟨m,g,(dG b.b3).symm⟩;by_cases c2:a<=du T l;have d:kb A T lits l a=false:=by unfold kb;rw[W7 (by omega),XJ]
 simp[c1,c2,d];exact⟨m,g,(dG b.b3).symm⟩;exact absurd ⟨by omega,by omega⟩ k
theorem ON(A:Ar)(T:Tr)(lits:af)(n:Nat)(hs:ShOk A T lits):∀(N:Nat)(l a:Int)(m:aS)(h:ao),(0<=du T l->du T l<a->du T l<N)->AskAt A T lits m n h->qr A T lits m->
 aI prog 244 [ak l,ak a,.ptr (n+1) 0,.ptr (n+3) 0,.ptr n 0,.ptr (n+2) 0,.ptr (n+4) 0] h (λr h'=>∃m',qr A T lits m'∧h'=h.set (n+3) [.omap true (aL fI m')]∧r=.pv (BL (kb A T lits l a))):=by
 intro N
 induction N with
 |zero=>
  intro l a m h hN B M;exact Lc A T lits n hs l a m h (λc=>by have:=hN c.1 c.2;omega) B M
 |succ N ih=>
  intro l a m h hN B M;refine dh [10] [.tmp 9] aP func244 ?_;have O:=oW T (aq l) hs.tr;have ad:(em T (aq l)).1.pla=du T l:=rfl;obtain⟨n0,g0⟩:=Vp.1 B.b0;obtain⟨n1,Z⟩:=Vp.1 B.b1;obtain⟨n2,g2⟩:=Vp.1 B.b2;obtain⟨n3,g3⟩:=Vp.1 B.b3;obtain⟨n4,g4⟩:=Vp.1 B.b4;rw[ad]at O;simp only[cD,dM]at O;simp[n1,Z,cD,dM];refine bW.intro (aX l) ?_;simp[n1,Z,cD,dM];refine bW.intro O ?_;by_cases c1:du T l<0;have P:kb A T lits l a=false:=by unfold kb;rw[W7 (by omega),XJ]
  simp[c1,P];exact⟨m,M,(dG B.b3).symm⟩;by_cases c2:a<=du T l;have P:kb A T lits l a=false:=by unfold kb;rw[W7 (by omega),XJ]
  simp[c1,c2,P];exact⟨m,M,(dG B.b3).symm⟩;have P:kb A T lits l a=nq A T lits l:=by unfold kb;rw[WP (by omega),Yd]
  rw[P];have ab:=M l;by_cases c3:(lk m l).getD 0=0;rotate_left;simp[c1,c2,n3,g3,c3];refine⟨m,M,(dG B.b3).symm,?_⟩;rcases ab with e|⟨e,W⟩|⟨e,W⟩;exact absurd e c3;rw[e,W];rfl;rw[e,W];rfl;have R:=Iz A T l hs.tr hs.ar hs.len (hs.hd _);have ai:=K9 A T l hs.ar;have ae:=vp A T lits l;simp only[mj,rB,cD,dM]at R;simp[c1,c2,n0,g0,n1,Z,n3,g3,c3,mj,rB,cD,dM];refine ap.intro R ?_;simp;generalize vo A T l=rest at*;generalize rD A T l=ok at*;refine aM.intro (S:=λ(y:Nat×aS)=>⟨[(0,.pv (ak l)),(1,.pv (ak a)),(2,.pv (.ptr (n+1) 0)),(3,.pv (.ptr (n+3) 0)),(4,.pv (.ptr n 0)),(5,.pv (.ptr (n+2) 0)),(6,.pv (.ptr (n+4) 0)),(10,.pv (ak (du T l))),(12,.pv (BL (ok&&(rest.take y.1).all (pO A T lits l)))),(41,.pv (.seq true 1 (am rest))),(42,.pv (ak rest.length)),(43,.pv (ak y.1))],h.set (n+3) [.omap true (aL fI y.2)]⟩) (λy=>y.1<=rest.length∧qr A T lits y.2) (λy=>rest.length -y.1) (0,m) ?_ ⟨VH _,M⟩ ?_;exact av.keep (by simp) (dG B.b3).symm;rintro⟨i,u⟩ ⟨hi,z⟩;dsimp only at hi z;have w:AskAt A T lits u n (h.set (n+3) [.omap true (aL fI u)]):=B.set;have E:∀X Y:bj,(h.set (n+3) X).set (n+3) Y=h.set (n+3) Y:=λX Y=>YD ..;have ah:(h.set (n+3) [.omap true (aL fI u)]).length=h.length:=VQ ..;generalize L:h.set (n+3) [.omap true (aL fI u)]=H at*;obtain⟨k0,f0⟩:=Vp.1 w.b0;obtain⟨p,j⟩:=Vp.1 w.b1;obtain⟨s,k⟩:=Vp.1 w.b2;obtain⟨k3,f3⟩:=Vp.1 w.b3;obtain⟨t,o⟩:=Vp.1 w.b4;by_cases g:i<rest.length;have F:bG ((i:Int)+1)=((i+1:Nat):Int):=by
   have:=hs.len;rw[aC (by omega) (by omega)];omega
  have b:(ok&&(rest.take (i+1)).all (pO A T lits l))=((ok&&(rest.take i).all (pO A T lits l))&&pO A T lits l rest[i]):=by
   rw[Wj,Vq g,W6,List.all_append];simp[Bool.and_assoc]
  simp[g];refine bP.one o6 (by kernel_rfl) ?_;generalize ag:(ok&&(rest.take i).all (pO A T lits l))=acc at*;cases acc
  .simp[o6,g,p,j,s,k,t,o];refine bz.intro (r:=.pv (BL false)) (λh:False=>h.elim) ?_;simp[g,p,j,s,k,t,o,cD,dM];and_intros
   all_goals
    refine bz.intro (r:=.pv (ak 0)) (λh:False=>h.elim) ?_;simp[g,p,j,s,k,t,o,cD,dM];refine bz.intro (r:=.pv (ak 0)) (λh:False=>h.elim) ?_;simp[g,p,j,s,k,t,o,cD,dM,rE];exact⟨(i+1,u),by dsimp only;omega,⟨by dsimp only;omega,z⟩,av.keep (by simp[F,b]) (by simp[L])⟩
  generalize d:rest[i]=x at*;have C:=fL lits x (by have:=hs.few;omega);have J:=oW T (aq x) hs.tr;have U:(em T (aq x)).1.pla=du T x:=rfl;rw[U]at J;simp only[cD,dM]at J;have v:=ih x (du T l) u H (λh1 h2=>by have:=hN (by omega) (by omega);omega) w z;have G:pO A T lits l x=(np T lits l x||kb A T lits x (du T l)):=rfl;have I:np T lits l x=(!decide (x=l)&&(decide (x∈lits)&&decide (du T x<du T l))):=rfl;by_cases c5:x=l
  .have f:np T lits l x=false:=by rw[I];simp[c5]
   rw[f,YQ]at G;rw[c5]at v G d b;rw[G]at b;simp[o6,g,p,j,s,k,t,o,d,cD,dM,c5];refine bz.intro (r:=.pv (BL false)) (λh:False=>h.elim) ?_;simp[g,p,j,s,k,t,o,d,cD,dM];and_intros
   all_goals
    refine bz.intro (r:=.pv (ak 0)) (λh:False=>h.elim) ?_;simp[g,p,j,s,k,t,o,d,cD,dM];refine bz.intro (r:=.pv (ak 0)) (λh:False=>h.elim) ?_;simp[g,p,j,s,k,t,o,d,cD,dM,rE];refine ay.intro v ?_ (by trivial);rintro _ _ ⟨V,D,rfl,rfl⟩;simp;exact⟨(i+1,V),by dsimp only;omega,⟨by dsimp only;omega,D⟩,av.keep (by simp[F,b]) (by simp[←L,E])⟩
  by_cases c6:x∈lits;by_cases c7:du T x<du T l
  .have f:np T lits l x=true:=by rw[I];simp[c5,c6,c7]
   rw[f,ZR]at G;rw[G]at b;simp[o6,g,p,j,s,k,t,o,d,cD,dM,c5];refine bz.intro (λ_=>C) ?_;simp[g,p,j,s,k,t,o,d,cD,dM,c6];and_intros
   all_goals
    refine bz.intro (λ_=>aX x) ?_;simp[g,p,j,s,k,t,o,d,cD,dM,c6];refine bz.intro (λ_=>J) ?_;simp[g,p,j,s,k,t,o,d,cD,dM,rE,c6,c7];exact⟨(i+1,u),by dsimp only;omega,⟨by dsimp only;omega,z⟩,av.keep (by simp[F,b]) (by simp[L])⟩
  .have f:np T lits l x=false:=by rw[I];simp[c7]
   rw[f,YQ]at G;rw[G]at b;simp[o6,g,p,j,s,k,t,o,d,cD,dM,c5];refine bz.intro (λ_=>C) ?_;simp[g,p,j,s,k,t,o,d,cD,dM,c6];and_intros
   all_goals
    refine bz.intro (λ_=>aX x) ?_;simp[g,p,j,s,k,t,o,d,cD,dM,c6];refine bz.intro (λ_=>J) ?_;simp[g,p,j,s,k,t,o,d,cD,dM,rE,c6,c7];refine ay.intro v ?_ (by trivial);rintro _ _ ⟨V,D,rfl,rfl⟩;simp;exact⟨(i+1,V),by dsimp only;omega,⟨by dsimp only;omega,D⟩,av.keep (by simp[F,b]) (by simp[←L,E])⟩
  .have f:np T lits l x=false:=by rw[I];simp[c6]
   rw[f,YQ]at G;rw[G]at b;simp[o6,g,p,j,s,k,t,o,d,cD,dM,c5];refine bz.intro (λ_=>C) ?_;simp[g,p,j,s,k,t,o,d,cD,dM,c6];and_intros
   all_goals
    refine bz.intro (r:=.pv (ak 0)) (λh:False=>h.elim) ?_;simp[g,p,j,s,k,t,o,d,cD,dM];refine bz.intro (r:=.pv (ak 0)) (λh:False=>h.elim) ?_;simp[g,p,j,s,k,t,o,d,cD,dM,rE];refine ay.intro v ?_ (by trivial);rintro _ _ ⟨V,D,rfl,rfl⟩;simp;exact⟨(i+1,V),by dsimp only;omega,⟨by dsimp only;omega,D⟩,av.keep (by simp[F,b]) (by simp[←L,E])⟩
  have aa:i=rest.length:=by omega
  subst aa;rw[VX,←ae];have K:∀q:Int,lk (pt u l 2) q=if l=q then some 2 else lk u q:=λq=>cm u l 2 q;have Q:∀q:Int,lk (pt (pt u l 2) l 1) q=if l=q then some 1 else lk (pt u l 2) q:=λq=>cm (pt u l 2) l 1 q;cases hv:nq A T lits l;simp[k3,f3];refine⟨pt u l 2,λq=>?_,?_⟩;rw[K];split;rename_i e;subst e;exact .inr (.inr ⟨rfl,hv⟩);exact z q;simp[←L,E];simp[k3,f3];refine⟨pt (pt u l 2) l 1,λq=>?_,?_⟩;rw[Q];split;rename_i e;subst e;exact .inr (.inl ⟨rfl,hv⟩);rename_i e;rw[K,Vs e];exact z q;simp[←L,E]
end
def jd(A:Ar)(T:Tr)(lits:af)(l:Int):Bool:=kb A T lits l T.lits.length
theorem Ld(A:Ar)(T:Tr)(lits:af):qr A T lits []:=λq=>.inl rfl
section
theorem IA(zs:af)(z:zs.length<=1000000)(g:Nat)(cap:aD)(p:Int->Bool)(n:Nat)(Inv:ao->Prop)(hp:gm cap=true)(pre a:aG)(cp:Nat)
 (hz:∀x∈zs,∀h,Inv h->aI prog g (ak x::cap) h (λr h'=>Inv h'∧h'[n]?=h[n]?∧r=.pv (BL (p x)))) (h:ao) (u:Inv h) (hn:h[n]?=some (blk pre zs a)):
 aI prog 230 [.bsl n 1 pre.length zs.length cp,.fn (.func g) [] cap] h (λr h'=>Inv h'∧h'[n]?=some (blk pre zs a)∧r=.pv (ak (gD p zs))):=by
 refine lg aP func230 ?_;simp;refine aM.intro (S:=λ(y:Nat×ao)=>⟨[(0,.pv (.bsl n 1 pre.length zs.length cp)),(1,.pv (.fn (.func g) [] cap)),(7,.pv (ak zs.length)),(8,.pv (ak y.1))],y.2⟩) (λy=>y.1<=zs.length∧(∀j (hj:j<zs.length),j<y.1->p zs[j]=false)∧Inv y.2∧y.2[n]?=some (blk pre zs a)) (λy=>zs.length -y.1) (0,h) ?_ ⟨VH _,λj _ h=>absurd h (XD _),u,hn⟩ ?_;exact av.keep (by simp) rfl;rintro⟨i,h1⟩ ⟨hi,ho,d,b⟩;dsimp only at hi ho d b;obtain⟨w,s⟩:=Vp.1 b;by_cases c:i<zs.length;have v:=dU i;have hx:=hz zs[i] (Vx c) h1 d;have l:=mM pre zs a (i:=i) c;have m:=fN pre zs a;simp[c,hp,w,s,l,m];refine⟨by omega,?_⟩;refine ay.intro hx ?_ (by trivial);rintro _ t ⟨k,f,rfl⟩;rw[b]at f;cases o:p zs[i];simp;refine⟨(i+1,t),by dsimp only;omega,⟨by dsimp only;omega,λj hj q=>?_,k,f⟩,av.keep (by simp[v]) rfl⟩;dsimp only at q;by_cases e:j=i;subst e;exact o;exact ho j hj (by omega);simp;rw[d0 c ho o];exact⟨k,f,rfl⟩;simp[c];rw[cw (λj hj=>ho j hj (by omega))];exact⟨d,b,rfl⟩
theorem Eh(zs:af)(hl:zs.length<=1000000)(g:Nat)(cap:aD)(p:Int->Bool)(n:Nat)(Inv:ao->Prop)(hp:gm cap=true)(s:∀h L,Inv h->Inv (h.set n L))(pre d:aG)(cp:Nat)(aa:zs.length<=cp)
 (hz:∀x∈zs,∀h,Inv h->aI prog g (ak x::cap) h (λr h'=>Inv h'∧h'[n]?=h[n]?∧r=.pv (BL (p x)))) (h:ao) (hI:Inv h) (hn:h[n]?=some (blk pre zs d)):
 aI prog 150 [.bsl n 1 pre.length zs.length cp,.fn (.func g) [] cap] h (λr h'=>Inv h'∧∃G,G=bq p zs++List.replicate (zs.length -(bq p zs).length) 0∧h'[n]?=some (blk pre G d)∧r=.pv (.bsl n 1 pre.length (bq p zs).length cp)):=by
 have P:=IA zs hl g cap p n Inv hp pre d cp hz h hI hn;refine lg aP func150 ?_;simp;refine ay.intro P ?_ (by trivial);rintro _ h0 ⟨A,E,rfl⟩;by_cases c:∃i,∃h:i<zs.length,p zs[i]=true∧∀j (hj:j<zs.length),j<i->p zs[j]=false;rotate_left;have m:∀j (hj:j<zs.length),p zs[j]=false:=by
  intro j
  induction j using Nat.strongRecOn with
  |ind j ih=>
   intro hj;cases e:p zs[j];rfl;exact absurd ⟨j,hj,e,λk hk R=>ih k R hk⟩ c
 have hd:=jQ p zs λx hx=>by
  obtain⟨j,hj,rfl⟩:=VE hx;exact m j hj
 rw[cw m,hd];simp;exact⟨A,E⟩;obtain⟨t,u,w,m⟩:=c;rw[d0 u m w];have U:=dU t;have C:bq p (zs.take t)=zs.take t:=jQ p _ λx hx=>by
  obtain⟨j,hj,rfl⟩:=VE hx;rw[Vy]at hj;rw[WE];exact m j (by omega) (by omega)
 simp;refine aM.intro (S:=λ(y:Nat×af×ao)=>⟨[(0,.pv (.bsl n 1 pre.length zs.length cp)),(1,.pv (.fn (.func g) [] cap)),(5,.pv (ak ((bq p (zs.take y.1)).length:Nat))),(6,.pv (ak y.1))],y.2.2⟩)
  (λy=>y.1<=zs.length∧(bq p (zs.take y.1)).length<y.1∧y.2.1.length=zs.length∧y.2.1.take (bq p (zs.take y.1)).length=bq p (zs.take y.1)∧y.2.1.drop y.1=zs.drop y.1∧Inv y.2.2∧y.2.2[n]?=some (blk pre y.2.1 d)) (λy=>zs.length -y.1) (t+1,zs,h0) ?_ ?_ ?_
 refine av.keep ?_ rfl;have:(bq p (zs.take (t+1))).length=t:=by rw[gd p zs u,Vt w,C,Vy];omega
 simp[U,this];have:bq p (zs.take (t+1))=zs.take t:=by rw[gd p zs u,Vt w,C]
 refine⟨by dsimp only;omega,?_,rfl,?_,rfl,A,E⟩;dsimp only;rw[this,Vy];omega;dsimp only;rw[this,Vy];congr 1;omega;rintro⟨j,a,H⟩ ⟨h1,X,J,z,K,N,O⟩;dsimp only at h1 X J z K N O;have q:=fN pre a d;obtain⟨n1,W⟩:=Vp.1 O;by_cases I:j<zs.length;have Y:=dU j;have Q:a[j]'(by omega)=zs[j]:=by
  have:=Xp (λl=>l[0]?) K;simp only[Wk,Ye]at this;rw[Vq (by omega),Vq I]at this;exact Yb this
 have o:=mM pre a d (i:=j) (by omega);rw[Q]at o;have hx:=hz zs[j] (Vx I) H N;have b:=gd p zs I;simp[I,hp,n1,W,o,q];refine⟨by omega,ay.intro hx ?_ (by trivial)⟩;rintro _ M ⟨B,v,rfl⟩;rw[O]at v;obtain⟨Z,f1⟩:=Vp.1 v;cases F:p zs[j];rw[F]at b;simp only[We,WM]at b;have V:=dU ((bq p (zs.take j)).length);have T:=zC pre a d (i:=(bq p (zs.take j)).length) zs[j] (by omega);simp[Z,f1,q];refine⟨by omega,by omega,(j+1,a.set (bq p (zs.take j)).length zs[j],M.set n (blk pre (a.set (bq p (zs.take j)).length zs[j]) d)),by(try dsimp only);omega,⟨by(try dsimp only);omega,?_,by(try dsimp only);rw[VQ];exact J,?_,?_,s M _ B,?_⟩,av.keep ?_ (by simp[T])⟩;dsimp only;rw[b,Vz,Wi];omega;dsimp only;rw[b,Vz,Wi,Wj,Yw (Vu _),z,VZ (by omega)];rfl;dsimp only;rw[Yh (by omega)];have:=Xp (List.drop 1) K
 rwa [Wx,Wx]at this
 dsimp only;rw[VZ Z];simp[Y,V,b];rw[F]at b;simp only[Xl]at b;simp;refine⟨(j+1,a,M),by dsimp only;omega,⟨by dsimp only;omega,by dsimp only;rw[b];omega,J,by dsimp only;rw[b];exact z,?_,B,v⟩,av.keep (by simp[Y,b]) rfl⟩;dsimp only;have:=Xp (List.drop 1) K
 rwa [Wx,Wx]at this
 have:j=zs.length:=by omega
 subst this;rw[VX]at X z;have f:=uX pre a d (i:=(bq p zs).length) (n:=zs.length -(bq p zs).length) 0 (by omega);have D:a.take (bq p zs).length++List.replicate (zs.length -(bq p zs).length) 0++a.drop ((bq p zs).length+(zs.length -(bq p zs).length))=bq p zs++List.replicate (zs.length -(bq p zs).length) 0:=by
  rw[z,VS (by omega),WF]
 rw[D]at f;simp[n1,W,J,f];refine⟨⟨by omega,by omega⟩,by omega,by omega,⟨by omega,by omega⟩,s H _ N⟩
end
section
@[simp] theorem IB:∀l:aS,J7 (aL fI l)
 |[]=>trivial
 |(_,_)::l=>⟨trivial,IB l⟩
def GG(A:Ar)(T:Tr)(lits:af)(m:aS):ao:=La A T lits m 0++[[.pv (rE 0)],[.pv (ak T.lits.length)]]
def TF(A:Ar)(T:Tr)(lits:af)(h:ao):Prop:=∃m L,qr A T lits m∧h=GG A T lits m++[L]
theorem OO(A:Ar)(T:Tr)(lits:af)(h:ao)(L:bj)(hi:TF A T lits h):TF A T lits (h.set 7 L):=by
 obtain⟨m,L0,h1,rfl⟩:=hi;exact⟨m,L,h1,rfl⟩
theorem Le(A:Ar)(T:Tr)(lits:af)(m:aS)(L:bj):AskAt A T lits m 0 (GG A T lits m++[L]):=⟨rfl,rfl,rfl,rfl,rfl⟩
theorem IE(A:Ar)(T:Tr)(lits:af)(hs:ShOk A T lits)(x:Int)(h:ao)(i:TF A T lits h):
 aI prog 165 [ak x,.ptr 5 0,.ptr 6 0] h (λr h'=>TF A T lits h'∧h'[7]?=h[7]?∧r=.pv (BL (jd A T lits x))):=by
 obtain⟨m,L,j,rfl⟩:=i;refine lg aP func165 ?_;have hd:=ON A T lits 0 hs T.lits.length x T.lits.length m (GG A T lits m++[L]) (λ_ h=>h) (Le A T lits m L) j;have e:(GG A T lits m++[L])[5]?=some [.pv (rE 0)]:=rfl;have f:(GG A T lits m++[L])[6]?=some [.pv (ak T.lits.length)]:=rfl;have d:(GG A T lits m++[L]).length=8:=rfl;have b:∀a,(GG A T lits m++[L]).set 3 [.omap true (aL fI a)]=GG A T lits a++[L]:=λ_=>rfl;have g:∀a,(GG A T lits a++[L])[7]?=some L:=λ_=>rfl;have n:=g m;generalize o:GG A T lits m++[L]=H at*;obtain⟨k,f5⟩:=Vp.1 e;obtain⟨l,f6⟩:=Vp.1 f;simp[k,f5,l,f6,rE];refine ay.intro hd ?_ (by trivial);rintro _ _ ⟨a,c,rfl,rfl⟩;simp[jd];rw[b a];exact⟨a,L,c,rfl⟩
def sF(A:Ar)(T:Tr)(lits:af):af:=lits.take 1++bq (jd A T lits) (lits.drop 1)
def Lf:Sch:=.take 0 (.take 1 (.take 2 (.take 3 (.fork [(4,.fork [(5,.fork [(6,.take 7 .done)])])]))))
theorem Ej(A:Ar)(T:Tr)(lits:af)(hs:ShOk A T lits)(I:T.lits.length<=1000000):aw prog 93 [mj A,cD T,.seq false 1 (am lits)] (λr=>r=.own true 1 (am (sF A T lits))):=by
 refine re [6] aP func93 ?_;have b:=λh=>Lb h A T lits;have i:=ik T I;have hcl:=dy lits hs.few;simp only[mj,rB,cD,dM]at b i;simp[mj,rB,cD,dM];refine ap.intro hcl ?_;by_cases c:lits=[];subst c;simp[sF,bq];have v:0<lits.length:=WJ.2 c;simp[c];refine ap.introM (b _) ?_;rintro _ _ ⟨rfl,rfl⟩;simp[rE,La];refine⟨rfl,ap.intro i ?_⟩;simp;refine bP.one Lf (by kernel_rfl) ?_;simp[Lf];refine⟨by omega,?_⟩;have H:∀l:af,List.drop lits.length (am lits)=[]:=λ_=>VS (by simp);by_cases c1:lits.length=1;obtain⟨t,rfl⟩:=XQ.1 c1;have n:sF A T [t]=[t]:=rfl;rw[n];generalize j:eG (bE [[SV.pv (mj A)],[SV.pv (cD T)],[SV.pv (PV.seq false 1 (am [t]))],[SV.omap true []],[SV.pv (PV.fn (Fn.func 244) [] [PV.ptr 1 0,PV.ptr 3 0,PV.ptr 0 0,PV.ptr 2 0,PV.ptr 4 0])],[SV.pv (PV.fn (Fn.func 244) [] [PV.ptr 1 0,PV.ptr 3 0,PV.ptr 0 0,PV.ptr 2 0,PV.ptr 4 0])],[SV.pv (PV.lit (Value.int .i64 T.lits.length))]] 3) [PV.ptr 5 0,PV.ptr 6 0]=cap;have C:=j8 [] (by simp) 165 cap (λ_=>false) (λr=>by rw[←j];simp[bE,mj,rB,cD,dM]) (by rw[←j];rfl) (λk=>by rw[←j];simp[bE,mj,rB,cD,dM]) (by rw[←j];simp[bE,mj,rB,cD,dM,PV.old,nQ,za]) (λx hx=>by cases hx);refine ap.introX (cd.introS (o:=.slot 7) (lo:=1) (hi:=1) C (by simp) rfl rfl (by simp) (by simp) rfl (by simp[aU]) trivial (by simp) (by rw[←j];simp) ?_);rintro k q ⟨rfl,rfl⟩ _ _;have p:bq (λ_=>false) []=[]:=rfl;simp[p,aU,am];have y:1<lits.length:=by omega
 have E := λ (pre a : aG) (cp : Nat) (d : (lits.drop 1).length <= cp) => Eh (lits.drop 1) (by have := hs.few; rw [Wf]; omega) 165 [.ptr 5 0, .ptr 6 0] (jd A T lits) 7 (TF A T lits) rfl (OO A T lits) pre a cp d (λ x _ h F => IE A T lits hs x h F) (GG A T lits [] ++ [blk pre (lits.drop 1) a]) ⟨[], _, Ld A T lits, rfl⟩ rfl; refine ap.introX (cd.introB (s := 7) (lo := 1) (hi := lits.length) (nw := true) (all := lits) (zs := lits.drop 1) (R := λ k f u => k = some (bq (jd A T lits) (lits.drop 1)).length ∧ f = bq (jd A T lits) (lits.drop 1) ++ List.replicate ((lits.drop 1).length - (bq (jd A T lits) (lits.drop 1)).length) 0 ∧ ∃ m, u = GG A T lits m)
  rfl (by simp) rfl rfl rfl (by simp) y (by rw[VX]) (by simp) (by simp) rfl (λpre a cp d J=>(E pre a cp d).mono ?_) ?_)
 rintro r h' ⟨⟨m,L,M,rfl⟩,f,rfl,B,rfl⟩;have G:L=blk pre (bq (jd A T lits) (lits.drop 1)++List.replicate ((lits.drop 1).length -(bq (jd A T lits) (lits.drop 1)).length) 0) a:=Yb B;subst G;have e:=j7 (jd A T lits) (lits.drop 1);refine⟨_,_,GG A T lits m,⟨rfl,rfl,m,rfl⟩,by rw[Vz,Ym];omega,λk hk=>by cases hk;exact e,rfl,by simp[GG,La,rE,rB,dM],rfl,rfl⟩;rintro k f u ⟨rfl,rfl,m,rfl⟩ _ _;have n:sF A T lits=lits.take 1++bq (jd A T lits) (lits.drop 1):=rfl;have e:=j7 (jd A T lits) (lits.drop 1);have K:=hs.few;generalize bq (jd A T lits) (lits.drop 1)=D at*;simp only[Wf]at e;have g:(aU (lits.take 1++(D++List.replicate (lits.length -1 -D.length) 0))).length=lits.length:=by
  simp only[aU,VA,Vz,Vy,Ym];omega
 simp[g];refine⟨by omega,?_⟩;rw[n];have h1:(lits.take 1).length=1:=by rw[Vy];omega
 generalize lits.take 1=Z at*;obtain⟨z,rfl⟩:=XQ.1 h1;have w:List.take (1+D.length) (aU ([z]++(D++List.replicate (lits.length -1 -D.length) 0)))=am ([z]++D):=by
  unfold aU am;rw[←Xn,←VV,Xw (by simp;omega)]
 rw[w];rfl
end
def je(l c:af)(v:Int):Nat:=(c.filter λy=>decide (ca l y=v)).length
def ft(l c:af):af:=c.filter λy=>decide (0<=bH y∧ca l y≠1∧ca l y≠-1)
theorem oh(l:af):∀(c:af)(a b z:Nat),a+c.length<=1000000->b+c.length<=1000000->z+c.length<=1000000->
 c.foldl (Dc l) ((a:Int),(b:Int),(z:Int))=(((a+je l c 1:Nat):Int),((b+je l c (-1):Nat):Int),((z+(ft l c).length:Nat):Int))
 |[],a,b,z,_,_,_=>by simp[je,ft]
 |y::c,a,b,z,d,f,hz=>by
  simp only[VR]at d f hz;rw[Yl];by_cases c1:ca l y=1;have e:Dc l ((a:Int),(b:Int),(z:Int)) y=(((a+1:Nat):Int),(b:Int),(z:Int)):=by
   unfold Dc;rw[Vt c1,aC (by dsimp only;omega) (by dsimp only;omega)];simp
  rw[e,oh l c (a+1) b z (by omega) (by omega) (by omega)];simp[je,ft,c1];omega;by_cases c2:ca l y=-1;have e:Dc l ((a:Int),(b:Int),(z:Int)) y=((a:Int),((b+1:Nat):Int),(z:Int)):=by
   unfold Dc;rw[Vs c1,Vt c2,aC (by dsimp only;omega) (by dsimp only;omega)];simp
  rw[e,oh l c a (b+1) z (by omega) (by omega) (by omega)];simp[je,ft,c1,c2];omega;by_cases c3:0<=bH y;have e:Dc l ((a:Int),(b:Int),(z:Int)) y=((a:Int),(b:Int),((z+1:Nat):Int)):=by
   unfold Dc;rw[Vs c1,Vs c2,Vt c3,aC (by dsimp only;omega) (by dsimp only;omega)];simp
  rw[e,oh l c a b (z+1) (by omega) (by omega) (by omega)];simp[je,ft,c1,c2,c3];omega;have e:Dc l ((a:Int),(b:Int),(z:Int)) y=((a:Int),(b:Int),(z:Int)):=by
   unfold Dc;rw[Vs c1,Vs c2,Vs c3]
  rw[e,oh l c a b z (by omega) (by omega) (by omega)];simp[je,ft,c1,c2,c3]
theorem iN(l:af)(y:Int):ca l y=0∨ca l y=1∨ca l y=-1:=by
 unfold ca;split;exact .inl rfl;split;exact .inr (.inl rfl);split;exact .inr (.inr rfl);exact .inl rfl
theorem vt(l:af):∀(c:af)(n:Int),c.foldl (OE l) n=((ft l c).getLast?).getD n
 |[],n=>rfl
 |y::c,n=>by
  rw[Yl,vt l c];have f:=iN l y;by_cases c1:0<=bH y∧ca l y=0;have e:OE l n y=y:=by unfold OE;rw[Vt c1]
  have a:ft l (y::c)=y::ft l c:=by
   unfold ft;rw[Wl,Vt (by rw[VI];exact⟨c1.1,by omega,by omega⟩)]
  rw[e,a,List.getLast?_cons];rfl;have e:OE l n y=n:=by unfold OE;rw[Vs c1]
  have a:ft l (y::c)=ft l c:=by
   unfold ft;rw[Wl,Vs (by rw[VI];rintro⟨b,d,a3⟩;exact c1 ⟨b,by omega⟩)]
  rw[e,a]
theorem OP{l c:af}(p:c.length<=1000)(hx:∀y∈c,0<=bH y)(h:(dz l c).2=true):(dz l c).1∈c∧ca l (dz l c).1=0∧∀y∈c,y≠(dz l c).1->ca l y=-1:=by
 have o:=oh l c 0 0 0 (by omega) (by omega) (by omega);have f:Aw l c=(((0+je l c 1:Nat):Int),((0+je l c (-1):Nat):Int),((0+(ft l c).length:Nat):Int)):=o;have h0:je l c 1=0∧(ft l c).length=1∧(dz l c).1=c.foldl (OE l) 0:=by
  unfold dz at h⊢;rw[f]at h⊢;dsimp only at h⊢;by_cases e:((0+je l c 1:Nat):Int)≠0∨((0+(ft l c).length:Nat):Int)≠1;rw[Vt e]at h;cases h;rw[Vs e];refine⟨by omega,by omega,rfl⟩
 obtain⟨h1,k,m⟩:=h0;obtain⟨x,b⟩:=XQ.1 k;have n:(dz l c).1=x:=by rw[m,vt,b];rfl
 have j:x∈ft l c:=by rw[b];simp
 have a:=j;unfold ft at a;rw[V9,VI]at a;rw[n];have v3:=iN l x;refine⟨a.1,by omega,λy hy i=>?_⟩;have d:=iN l y;have g:ca l y≠1:=λe=>by
  have:y∈c.filter λy=>decide (ca l y=1):=by rw[V9];exact⟨hy,by simpa using e⟩
  unfold je at h1;rw[Xx h1]at this;cases this
 rcases d with d|d|d;have:y∈ft l c:=by
  unfold ft;rw[V9,VI];exact⟨hy,hx y hy,by omega,by omega⟩
 rw[b]at this;simp at this;exact absurd this i;exact absurd d g;exact d
structure Cls6 (cs:au) (ats:af):Prop where
  len:∀c∈cs,c.length<=1000
  chk:∀c∈cs,∀y∈c,aQ y 6=0
  pos:∀k,k<cs.length->0<=ats.getD k 0
theorem U7{y:Int}(h:aQ y 6=0):y≠0∧-6<=y∧y<=6∧0<=bH y∧bG (-y)=-y:=by
 obtain⟨a,b,c⟩:=(d5 (by omega)).1 h;refine⟨a,b,c,?_,aC (by omega) (by omega)⟩;rw[il];exact(bO y).2 ⟨a,by omega,by omega⟩
theorem zU{l:af}{y:Int}(h:ca l y=-1):bG (-y)∈l:=by
 unfold ca at h;split at h;omega;split at h;omega;split at h;assumption;omega
def DkR(D:DK):Prop:=∀i (hi:i<D.t.rows.length),D.t.rows[i].rea<0∨(isA D.A D.t.rows[i].rea=true∧D.t.rows[i].l∈aJ D.A D.t.rows[i].rea∧∀y∈aJ D.A D.t.rows[i].rea,aQ y 6=0∧(y≠D.t.rows[i].l->bG (-y)∈(D.t.rows.take i).map (·.l)))
structure DeskOk (D:DK):Prop where
  rel:RelD D.T D.t
  relA:RelA D.A D.a
  rea:DkR D
  len:D.A.row.length<=1000000
theorem Ek{A:Ar}{q:Int}(h:isA A q=true):A.hd≠[]:=λe=>by
 unfold isA at h;rw[e]at h;simp[lk]at h
theorem zV{α:Type}{p:α->Bool}:∀{l:List α}{j:Nat}(hj:j<l.length),p l[j]=true->0<=gD p l∧gD p l<=j:=by
 intro l j hj h;unfold gD;cases a:l.findIdx? p with
 |none=>
  rw[Yk]at a;have:=a _ (Vx hj);rw[h]at this;cases this
 |some i=>
  rw[Xk]at a;obtain⟨h1,d,c⟩:=a;dsimp only;refine⟨by omega,?_⟩;apply Int.ofNat_le.2;apply W5;intro b;exact c j b h
theorem Lg(A:Ar)(T:Tr)(c:af):List.Sublist (sF A T c) c:=by
 have h:List.Sublist (c.take 1++bq (jd A T c) (c.drop 1)) (c.take 1++c.drop 1):=List.Sublist.append (ZY _) Yx;rw[Wz]at h;exact h
@[simp ↓ high] theorem TG{P:aa}{st:St}{a:Prop}{o:Op}{d:Option Tmp}{K:St->Prop}(h:a):Gc P st a o d K=AE P st o d K:=
 propext ⟨λx=>x.1 h,λx=>⟨λ_=>x,λhn=>absurd h hn⟩⟩
instance:Inhabited Ro:=⟨⟨0,0,[]⟩⟩
theorem eC(l:Int):aq (-l)=aq l:=by
 unfold aq;rw[Ou];unfold gr;split;split<;>split<;>omega;rfl
theorem vu(l:af):∀(c:af)(n:Int),-1<=n->n<=c.foldl (BA l) n∧(c.foldl (BA l) n=-1↔n=-1∧∀y∈c,0<=bH y->ca l y=-1)
 |[],n,h=>by simp
 |y::c,n,h=>by
  have f:=iN l y;rw[Yl];by_cases q:0<=bH y∧n<ca l y;have e:BA l n y=ca l y:=by unfold BA;rw[Vt q]
  rw[e];obtain⟨d,g2⟩:=vu l c (ca l y) (by omega);refine⟨by omega,?_⟩;constructor;intro g;omega;rintro⟨b,a⟩;have:=a y (VN ..) q.1;omega;have e:BA l n y=n:=by unfold BA;rw[Vs q]
  rw[e];obtain⟨d,g2⟩:=vu l c n h;refine⟨d,?_⟩;rw[g2];constructor;rintro⟨b,a⟩;refine⟨b,λz hz hx=>?_⟩;rcases VU.1 hz with rfl|hz;omega;exact a z hz hx;rintro⟨b,a⟩;exact⟨b,λz hz=>a z (VG _ hz)⟩
theorem oi{l c:af}:ve l c=-1↔∀y∈c,0<=bH y->ca l y=-1:=by
 have:=(vu l c (-1) (by omega)).2;unfold ve;rw[this];exact⟨λh=>h.2,λh=>⟨rfl,h⟩⟩
theorem BI{l:af}{x:Int}(d:ca l x=0)(a:0<=bH x):∀{c:af},c.Nodup->x∈c->(∀y∈c,y≠x->ca l y=-1)->ft l c=[x]
 |[],_,h,_=>by cases h
 |y::c,hn,b,ho=>by
  rw[Xj]at hn;unfold ft;by_cases e:y=x;subst e;rw[Wl,Vt (by rw[VI];exact⟨a,by omega,by omega⟩)];congr 1;rw[Xa];intro z hz;have:=ho z (VG _ hz) (λe=>hn.1 (e▸hz));simp[this];have hy:=ho y (VN ..) e;rw[Wl,Vs (by simp[hy])];rcases VU.1 b with rfl|b;exact absurd rfl e;exact BI d a hn.2 b (λz hz=>ho z (VG _ hz))
theorem GI{l c:af}{x:Int}(i:c.length<=1000)(hn:c.Nodup)(h:x∈c)(b:0<=bH x)(d:ca l x=0)(ho:∀y∈c,y≠x->ca l y=-1):dz l c=(x,true):=by
 have g:=oh l c 0 0 0 (by omega) (by omega) (by omega);have a:Aw l c=(((0+je l c 1:Nat):Int),((0+je l c (-1):Nat):Int),((0+(ft l c).length:Nat):Int)):=g;have h1:=BI d b hn h ho;have f:je l c 1=0:=by
  unfold je;rw[WA,Xa];intro y hy;by_cases e:y=x;subst e;simp[d];simp[ho y hy e]
 unfold dz;rw[a,h1,f,vt,h1];simp
structure ClsN (cs:au) (ats:af):Prop extends Cls6 cs ats where
  nd:∀c∈cs,c.Nodup
def Calm(cs:au)(ls:af):Prop:=∀c∈cs,(dz ls c).2=false∧ve ls c≠-1
def eK(t:RT):af:=t.rows.map (·.l)
def bel(t:RT)(k:Int):af:=(t.rows.filter λx=>decide (x.lev<k)).map (·.l)
inductive Tra (cs:au) (ats:af):RT->Prop
  |nil:Tra cs ats ⟨6,[],0⟩
  |dec {t:RT} {l:Int}:Tra cs ats t->mayR t l=0->Calm cs (eK t)->Tra cs ats ⟨t.vars,t.rows++[⟨l,t.dep+1,-1⟩],t.dep+1⟩
  |imp {t:RT} {k:Nat} {x:Int} (hk:k<cs.length):Tra cs ats t->mayR t x=0->dz (eK t) cs[k]=(x,true)->Tra cs ats ⟨t.vars,t.rows++[⟨x,t.dep,ats.getD k 0⟩],t.dep⟩
theorem OQ{t:RT}(h:∀x∈t.rows,x.lev<=t.dep):bel t (t.dep+1)=eK t:=by
 unfold bel eK;rw[WU.2];intro x hx;have:=h x hx;simp;omega
theorem lr{t:RT}{k:Int}:∀y∈bel t k,y∈eK t:=by
 intro y hy;unfold bel at hy;obtain⟨x,hx,rfl⟩:=VB.1 hy;exact VB.2 ⟨x,(V9.1 hx).1,rfl⟩
theorem Lh{t:RT}{l:Int}(h:mayR t l=0):aQ l t.vars=0∧sD t (aq l)<0:=by
 unfold mayR at h;split at h;cases h;rename_i c1;split at h;cases h;exact⟨by simpa using c1,by omega⟩
theorem zW{t:RT}{v:Int}(h:sD t v<0):∀x∈t.rows,aq x.l≠v:=by
 intro x hx e;obtain⟨j,hj,rfl⟩:=VE hx;have:=zV (p:=λx:En=>decide (aq x.l=v)) hj (by simp[e]);unfold sD at h;omega
structure TraF (cs:au) (ats:af) (t:RT):Prop where
  vars:t.vars=6
  dep:0<=t.dep
  chk:∀x∈t.rows,aQ x.l 6=0
  nd:(t.rows.map λx=>aq x.l).Nodup
  lev:∀x∈t.rows,0<=x.lev∧x.lev<=t.dep
  mono:∀i j (hi:i<t.rows.length)(hj:j<t.rows.length),i<j->t.rows[i].lev<=t.rows[j].lev
  dec:∀i (hi:i<t.rows.length),t.rows[i].rea<0->0<t.rows[i].lev∧∀j (hj:j<t.rows.length),j<i->t.rows[j].lev<t.rows[i].lev
  top:0<t.dep->Calm cs (bel t t.dep)
  fst:∀k:Int,0<k->k<=t.dep->∃x∈t.rows,x.lev=k∧x.rea<0
  imp:∀i (hi:i<t.rows.length),0<=t.rows[i].rea->∃k,∃hk:k<cs.length,t.rows[i].rea=ats.getD k 0∧t.rows[i].l∈cs[k]∧(∀y∈cs[k],y≠t.rows[i].l->∃j,∃hj:j<t.rows.length,j<i∧t.rows[j].l=-y)∧
    (0<t.rows[i].lev->∃y∈cs[k],y≠t.rows[i].l∧∃j,∃hj:j<t.rows.length,j<i∧t.rows[j].l=-y∧t.rows[j].lev=t.rows[i].lev)
theorem kg{α:Type}{l:List α}{x:α}{i:Nat}(h:i<(l++[x]).length):(∃hi:i<l.length,(l++[x])[i]=l[i])∨(i=l.length∧(l++[x])[i]=x):=by
 by_cases c:i<l.length;exact .inl ⟨c,V6 c⟩;have:i=l.length:=by simp at h;omega
 subst this;exact .inr ⟨rfl,by simp⟩
theorem TraF.inj{cs:au}{ats:af}{t:RT}(h:TraF cs ats t){i j:Nat}(hi:i<t.rows.length)(hj:j<t.rows.length)(e:aq t.rows[i].l=aq t.rows[j].l):i=j:=by
 have hn:=V5.1 (Xe.1 h.nd);rcases Xd i j with c|c|c;exact absurd e (hn i j hi hj c);exact c;exact absurd e.symm (hn j i hj hi c)
theorem TraF.one{cs:au}{ats:af}{t:RT}(h:TraF cs ats t){y:Int}(hy:aQ y 6=0):¬(y∈eK t∧-y∈eK t):=by
 rintro⟨h1,d⟩;unfold eK at h1 d;obtain⟨a,g,e⟩:=VB.1 h1;obtain⟨b,k,f⟩:=VB.1 d;obtain⟨i,hi,rfl⟩:=VE g;obtain⟨j,hj,rfl⟩:=VE k;have m:aq t.rows[i].l=aq t.rows[j].l:=by rw[e,f,eC]
 have c:i=j:=h.inj hi hj m;subst c;obtain⟨n0,_⟩:=U7 hy;omega
structure Way (cs:au) (ats:af) (D:DK):Prop where
  rel:RelD D.T D.t
  tra:Tra cs ats D.t
  con:(D.con<0∧Calm cs (eK D.t))∨∃k,∃hk:k<cs.length,D.con=ats.getD k 0∧ve (eK D.t) cs[k]=-1
theorem IF{l:af}(h:nm l l.length=0):l.Nodup:=by
 refine V5.2 λi j hi hj b e=>?_;have a:=vb l (i:=j+1) l.length (by omega);rw[nm]at a;have:l.getD j 0∈l.take j:=by
  rw[Vr,Vq hj,V7,←e];rw[WO];exact⟨i,by omega,rfl⟩
 rw[Vt this]at a;omega
structure DeskT (cs:au) (ats:af) (D:DK):Prop where
  ok:DeskOk D
  cls:ClsN cs ats
  way:Way cs ats D
  ars:∀k (hk:k<cs.length),isA D.A (ats.getD k 0)=true∧aJ D.A (ats.getD k 0)=cs[k]
structure PS where
  seen:aS
  lits:af
  many:Nat
def aR(s:aS)(v:Int):Bool:=decide (0<(lk s v).getD 0)
def eU(T:Tr)(l:Int):Int:=(em T (aq l)).1.lev
def takeF(T:Tr)(but:Int)(p:PS)(l:Int):PS:=
 if aq l=but∨aR p.seen (aq l)=true∨eU T l<=0 then p
 else if eU T l=T.beg.length then⟨pt p.seen (aq l) 1,p.lits,p.many+1⟩else⟨pt p.seen (aq l) 1,p.lits++[l],p.many⟩
def ej(T:Tr)(but:Int)(c:af)(p:PS):PS:=c.foldl (takeF T but) p
def pP(T:Tr)(p:PS)(l:Int):Bool:=aR p.seen (aq l)&&(decide (eU T l=T.beg.length)&&decide (0<=(em T (aq l)).1.rea))
def qs(A:Ar)(T:Tr)(p:PS)(l:Int):PS:=ej T (aq l) (aJ A (em T (aq l)).1.rea) ⟨pt p.seen (aq l) 0,p.lits,p.many -1⟩
def dA(A:Ar)(T:Tr)(all:af):Nat->PS->PS
 |0,p=>p
 |n+1,p=>if p.many<=1 then p else if pP T p (all.getD n 0)=true then dA A T all n (qs A T p (all.getD n 0))else dA A T all n p
def tO(T:Tr)(all:af)(p:PS):af:=p.lits++(all.filter λl=>aR p.seen (aq l)&&decide (eU T l=T.beg.length)).map λl=>bG (-l)
theorem TraF.pla{cs:au}{ats:af}{t:RT}(h:TraF cs ats t){j:Nat}(hj:j<t.rows.length):sD t (aq t.rows[j].l)=j:=by
 have h1:=zV (p:=λx:En=>decide (aq x.l=aq t.rows[j].l)) hj (by simp);obtain⟨i,hi,a,b⟩:=mO (t:=t) (v:=aq t.rows[j].l) h1.1;have:=h.inj hi hj b;subst this;exact a
theorem sG{t:RT}{j:Nat}(hj:j<t.rows.length){y:Int}(hy:t.rows[j].l=-y):aq y=aq t.rows[j].l:=by rw[hy,eC]
theorem kh{t:RT}{j:Nat}(hj:j<t.rows.length){y:Int}(hy:t.rows[j].l=-y):y=-t.rows[j].l:=by omega
theorem qt{α:Type}{P Q:α->Bool}:∀{l:List α}{j:Nat}(hj:j<l.length),P l[j]=false->Q l[j]=true->(∀i (hi:i<l.length),i≠j->Q l[i]=P l[i])->l.countP Q=l.countP P+1
 |[],j,hj,_,_,_=>by simp at hj
 |x::l,0,hj,a,b,ho=>by
  simp only[Yf]at a b;have:l.countP Q=l.countP P:=by
   apply List.countP_congr;intro y hy;obtain⟨i,hi,rfl⟩:=VE hy;have:=ho (i+1) (by simpa using hi) (by omega);simp only[YY]at this;rw[this]
  rw[YB,YB,this,a,b];simp
 |x::l,j+1,hj,a,b,ho=>by
  simp only [YY] at a b; have h0 := ho 0 (by simp) (by omega); simp only [Yf] at h0; have := qt (l := l) (j := j) (by simpa using hj) a b (λ i hi c => by
   have:=ho (i+1) (by simpa using hi) (by omega);simpa using this)
  rw[YB,YB,this,h0];omega
theorem vv{α:Type}{P:α->Bool}:∀{l:List α},2<=l.countP P->∃i j,∃hi:i<l.length,∃hj:j<l.length,i<j∧P l[i]=true∧P l[j]=true
 |[],h=>by simp at h
 |x::l,h=>by
  rw[YB]at h;by_cases c:P x=true;rw[Vt c]at h;have:0<l.countP P:=by omega
  rw[ZN]at this;obtain⟨y,hy,hp⟩:=this;obtain⟨j,hj,rfl⟩:=VE hy;exact⟨0,j+1,by simp,by simpa using hj,by omega,by simpa using c,by simpa using hp⟩;rw[Vs c]at h;obtain⟨i,j,hi,hj,a,b,d⟩:=vv (l:=l) (by omega);exact⟨i+1,j+1,by simpa using hi,by simpa using hj,by omega,by simpa using b,by simpa using d⟩
structure LI (t:RT) (p:PS) (n:Nat):Prop where
  sn:∀v,aR p.seen v=true->∃j,∃hj:j<t.rows.length,aq t.rows[j].l=v∧0<t.rows[j].lev∧(t.rows[j].lev=t.dep->j<n∨t.rows[j].rea<0)
  li:∀l∈p.lits,∃j,∃hj:j<t.rows.length,t.rows[j].l=-l∧0<t.rows[j].lev∧t.rows[j].lev<t.dep
  ls:∀j (hj:j<t.rows.length),aR p.seen (aq t.rows[j].l)=true->t.rows[j].lev<t.dep->-t.rows[j].l∈p.lits
  mn:p.many=t.rows.countP (λx=>aR p.seen (aq x.l)&&decide (x.lev=t.dep))
theorem o7(s:aS)(v w:Int)(n:Int):aR (pt s v n) w=if v=w then decide (0<n)else aR s w:=by
 unfold aR;rw[cm];split<;>rfl
theorem QK(t:RT)(n:Nat):LI t ⟨[],[],0⟩ n where
 sn:=λv h=>by simp[aR,lk]at h
 li:=by simp
 ls:=λj hj h=>by simp[aR,lk]at h
 mn:=by
  symm;rw[ZO];intro x _;simp[aR,lk]
def dv(T:Tr)(out:af):Nat->Int×Nat×Nat
 |0=>(-1,0,0)
 |i+1=>if(dv T out i).1<eU T (out.getD i 0)then(eU T (out.getD i 0),1,i)
  else if eU T (out.getD i 0)=(dv T out i).1 then((dv T out i).1,(dv T out i).2.1+1,(dv T out i).2.2)else dv T out i
def Li(T:Tr)(out:af):af:=if(dv T out out.length).2.1=1 then out.getD (dv T out out.length).2.2 0::out.eraseIdx (dv T out out.length).2.2 else out
def Lj(T:Tr)(lits:af):af:=Li T (fO lits)
def ju(A:Ar)(T:Tr)(con:Int):PS:=ej T 0 (aJ A con) ⟨[],[],0⟩
def ed(A:Ar)(T:Tr)(con:Int):af:=Lj T (tO T T.lits (dA A T T.lits T.lits.length (ju A T con)))
theorem BJ{T:Tr}{out:af}{k:Nat}(hk:k<out.length)(h0:0<=eU T out[k])(ho:∀i (hi:i<out.length),i≠k->eU T out[i]<eU T out[k]):∀i,i<=out.length->
 if k<i then dv T out i=(eU T out[k],1,k)else(dv T out i).1<eU T out[k]
 |0,_=>by rw[Vs (by omega)];simp only[dv];omega
 |i+1,hi=>by
  have a:=BJ hk h0 ho i (by omega);have b:out.getD i 0=out[i]:=by rw[Vr,Vq (by omega)];rfl
  rw[dv,b];by_cases c:k<i;rw[Vt c]at a;have:=ho i (by omega) (by omega);rw[Vt (by omega),a];dsimp only;rw[Vs (by omega),Vs (by omega)];rw[Vs c]at a;by_cases e:k=i;subst e;rw[Vt (by omega),Vt a];have:=ho i (by omega) (by omega);rw[Vs (by omega)];split;exact this;split;exact a;exact a
theorem OR{T:Tr}{out:af}{k:Nat}(hk:k<out.length)(h0:0<=eU T out[k])(ho:∀i (hi:i<out.length),i≠k->eU T out[i]<eU T out[k]):Li T out=out[k]::out.eraseIdx k:=by
 have:=BJ hk h0 ho out.length (Vu _);rw[Vt hk]at this;unfold Li;rw[this,Vt rfl,Vr,Vq hk];rfl
theorem ol{l:af}{k:Nat}(hk:k<l.length)(x:Int):x∈l[k]::l.eraseIdx k↔x∈l:=by
 rw[VU,YV];constructor;rintro(rfl|⟨i,hi,_,rfl⟩);exact Vx hk;exact Vx _;intro h;obtain⟨i,hi,rfl⟩:=VE h;by_cases e:i=k;subst e;exact .inl rfl;exact .inr ⟨i,hi,e,rfl⟩
theorem xT{l:af}(h:l.Nodup){i j:Nat}(hi:i<l.length)(hj:j<l.length)(e:l[i]=l[j]):i=j:=by
 have hn:=V5.1 h;rcases Xd i j with c|c|c;exact absurd e (hn i j hi hj c);exact c;exact absurd e.symm (hn j i hj hi c)
theorem BK(c:af):(fO c).Nodup:=(rn c).1.imp λh e=>by rw[e]at h;omega
inductive HOk (A:Ar) (T:Tr) (R:af):Int->Prop
  |stop {l:Int}:l∈R->HOk A T R l
  |why {l:Int}:df T l<0->0<=(em T (aq l)).1.rea->isA A (em T (aq l)).1.rea=true->(∀y∈aJ A (em T (aq l)).1.rea,y≠-l->HOk A T R y)->HOk A T R l
def Fr(D:DK)(p:PS)(R:af):Prop:=∀j (hj:j<D.t.rows.length),aR p.seen (aq D.t.rows[j].l)=true->HOk D.A D.T R (-D.t.rows[j].l)
structure Conf (D:DK) (con:Int):Prop where
  is:isA D.A con=true
  neg:∀y∈aJ D.A con,aQ y 6=0∧∃j,∃hj:j<D.t.rows.length,D.t.rows[j].l=-y
  top:0<D.t.dep->∃y∈aJ D.A con,∃j,∃hj:j<D.t.rows.length,D.t.rows[j].l=-y∧D.t.rows[j].lev=D.t.dep
structure Learnt (D:DK) (L:af):Prop where
  nd:L.Nodup
  neg:∀y∈L,aQ y 6=0∧∃j,∃hj:j<D.t.rows.length,D.t.rows[j].l=-y∧0<D.t.rows[j].lev
  nil:D.t.dep=0->L=[]
  top:0<D.t.dep->∃u r,L=u::r∧eU D.T u=D.t.dep∧∀y∈r,eU D.T y<D.t.dep
theorem qu{α:Type}{P:α->Bool}:∀{l:List α}{i j:Nat}(b:i<j)(hj:j<l.length),P (l[i]'(by omega))=true->P l[j]=true->2<=l.countP P
 |[],i,j,_,hj,_,_=>by simp at hj
 |x::l,0,j+1,_,hj,h1,a=>by
  simp only[Yf,YY]at h1 a;have:0<l.countP P:=ZN.2 ⟨_,Vx (by simpa using hj),a⟩;rw[YB,Vt h1];omega
 |x::l,i+1,j+1,b,hj,h1,a=>by
  simp only[YY]at h1 a;have:=qu (l:=l) (i:=i) (j:=j) (by omega) (by simpa using hj) h1 a;rw[YB];omega
theorem IG:fO []=[]:=by
 have:=(rn []).2;cases e:fO []with
 |nil=>rfl
 |cons x l=>have h:=(this x).1 (by rw[e];simp);simp at h
section
def kw(A:Ar)(T:Tr)(p:PS):bj:=[.pv (mj A),.pv (cD T),.omap true (aL fI p.seen),.own true 1 (am p.lits),.pv (ak p.many)]
@[simp] theorem TH(r:Nat->Nat->PV)(A:Ar):eG r (rB A)=rB A:=by simp[rB]
@[simp] theorem TI(r:Nat->Nat->PV)(T:Tr):eG r (dM T)=dM T:=by simp[dM]
@[simp] theorem QL(k:Nat)(A:Ar):b7 k (rB A):=by simp[rB]
@[simp] theorem QM(k:Nat)(T:Tr):b7 k (dM T):=by simp[dM]
theorem bB(k:Nat)(A:Ar)(T:Tr)(p:PS):cA k (kw A T p):=⟨⟨⟨br k _,jP k _,trivial⟩,trivial⟩,⟨⟨qj k _,br k _,br k _,trivial,trivial⟩,trivial⟩,jP k _,br k _,trivial,trivial⟩
theorem Lk(T:Tr)(but:Int)(p:PS)(l:Int):(takeF T but p l).many<=p.many+1∧(takeF T but p l).lits.length<=p.lits.length+1:=by
 unfold takeF;split;exact⟨by omega,by omega⟩;split;exact⟨by simp,by simp⟩;exact⟨by simp,by simp⟩
theorem lZ(T:Tr)(but:Int):∀(c:af)(p:PS),(ej T but c p).many<=p.many+c.length∧(ej T but c p).lits.length<=p.lits.length+c.length
 |[],p=>⟨Vu _,Vu _⟩
 |y::c,p=>by
  have h1:=Lk T but p y;have a:=lZ T but c (takeF T but p y);have e:ej T but (y::c) p=ej T but c (takeF T but p y):=rfl;rw[e,VR];omega
theorem vx(T:Tr)(but:Int)(c:af)(p:PS){i:Nat}(h:i<c.length):ej T but (c.take (i+1)) p=takeF T but (ej T but (c.take i) p) c[i]:=bf _ _ _ _ h
theorem Ll(A:Ar)(T:Tr)(p:PS)(q but:Int)(ht:T.ok)(h0:A.hd≠[])(hk:lX A)(k:A.row.length<=1000000)(m:p.many<=1000000000)(hp:p.lits.length<=1000000000):
 aI prog 161 [.ptr 0 0,ak q,ak but] [kw A T p] (λr h'=>h'=[kw A T (ej T but (aJ A q) p)]∧r=.pv (.tup [])):=by
 refine ea [] [] [kw A T (ej T but (aJ A q) p)] (by simp) (λ_=>⟨bB _ _ _ _,trivial⟩) aP func161 ?_;have j:=lY A h0 hk k q;have l:=gP A hk q;generalize aJ A q=c at*;simp[kw];refine ap.intro j ?_;simp;refine aM.intro (S:=λ(i:Nat)=>⟨[(0,.pv (.ptr 0 0)),(2,.pv (ak but)),(6,.pv (.fn (.func 170) [cD T] [])),(20,.own true 1 (am c)),(21,.pv (ak c.length)),(22,.pv (ak i))],[kw A T (ej T but (c.take i) p)]⟩) (λi=>i<=c.length) (λi=>c.length -i) 0 ?_ (VH _) ?_;exact av.to (by simp) (by simp[kw,ej]) (by simp) (by simp) (by simp[bB]);intro i hi;by_cases h:i<c.length;rotate_left;have f:i=c.length:=by omega
 subst f;simp[kw,ii];have d:=dU i;have hs:=vx T but c p h;have hle:=lZ T but (c.take i) p;rw[Vy]at hle;generalize ej T but (c.take i) p=s at*;have b:=gL T (aq c[i]) ht;simp[h,kw];refine ap.intro (aX c[i]) ?_;simp;refine bz.intro (λ_=>b) ?_;by_cases c1:aq c[i]=but;have hd:takeF T but s c[i]=s:=by unfold takeF;rw[Vt (.inl c1)]
 simp[c1];refine⟨i+1,by(try dsimp only);omega,by(try dsimp only);omega,av.to (by simp[d]) (by simp[kw,hs,hd]) (by simp) (by simp) (by simp[bB])⟩;by_cases c2:0<(lk s.seen (aq c[i])).getD 0;have hd:takeF T but s c[i]=s:=by unfold takeF;rw[Vt (.inr (.inl (by simpa[aR]using c2)))]
 simp[c1,c2];refine⟨i+1,by(try dsimp only);omega,by(try dsimp only);omega,av.to (by simp[d]) (by simp[kw,hs,hd]) (by simp) (by simp) (by simp[bB])⟩;have a:(lk s.seen (aq c[i])).getD 0<=0:=by omega
 by_cases c3:(em T (aq c[i])).1.lev<=0;have hd:takeF T but s c[i]=s:=by unfold takeF;rw[Vt (.inr (.inr c3))]
 simp[c1,c2,a,c3];refine⟨i+1,by(try dsimp only);omega,by(try dsimp only);omega,av.to (by simp[d]) (by simp[kw,hs,hd]) (by simp) (by simp) (by simp[bB])⟩;have hd:takeF T but s c[i]=if(em T (aq c[i])).1.lev=T.beg.length then⟨pt s.seen (aq c[i]) 1,s.lits,s.many+1⟩else⟨pt s.seen (aq c[i]) 1,s.lits++[c[i]],s.many⟩:=by
  unfold takeF;rw[Vs];rfl;rintro(e|e|e);exact c1 e;exact c2 (by simpa[aR]using e);exact c3 e
 simp[c1,c2,a,c3];refine bW.intro b ?_;simp;refine bW.intro (o5 T) ?_;by_cases c4:(em T (aq c[i])).1.lev=T.beg.length;rw[Vt c4]at hd;have g:=dU s.many;simp[c4];refine⟨i+1,by(try dsimp only);omega,by(try dsimp only);omega,av.to (by simp[d]) (by simp[kw,hs,hd,g]) (by simp) (by simp) (by simp[bB])⟩;rw[Vs c4]at hd;simp[c4];refine⟨by omega,i+1,by(try dsimp only);omega,by(try dsimp only);omega,av.to (by simp[d]) (by simp[kw,hs,hd,am]) (by simp) (by simp) (by simp[bB])⟩
def l3(T:Tr)(p:PS)(all:af):Nat->Int
 |0=>-1
 |n+1=>if pP T p (all.getD n 0)=true then(n:Int)else l3 T p all n
theorem II(A:Ar)(T:Tr)(all:af)(p:PS)(h:p.many<=1):∀k,dA A T all k p=p
 |0=>rfl
 |k+1=>by rw[dA,Vt h]
theorem BM(A:Ar)(T:Tr)(all:af)(p:PS):∀k,(l3 T p all k=-1∧dA A T all k p=p)∨∃j,j<k∧l3 T p all k=(j:Int)∧(1<p.many->dA A T all k p=dA A T all j (qs A T p (all.getD j 0)))
 |0=>.inl ⟨rfl,rfl⟩
 |k+1=>by
  rw[l3,dA];by_cases c:pP T p (all.getD k 0)=true;rw[Vt c,Vt c];exact .inr ⟨k,by omega,rfl,λh=>by rw[Vs (by omega)]⟩;rw[Vs c,Vs c];rcases BM A T all p k with⟨h1,a⟩|⟨j,h1,a,b⟩;refine .inl ⟨h1,?_⟩;split;rfl;exact a;refine .inr ⟨j,by omega,a,λh=>?_⟩;rw[Vs (by omega)];exact b h
theorem Lm(A:Ar)(T:Tr)(p:PS)(all:af)(n:Nat)(ht:T.ok)(hn:n<=all.length)(q:all.length<=1000000):
 aI prog 240 [.ptr 0 0,.seq false 1 (am all),ak ((n:Int) -1)] [kw A T p] (λr h'=>h'=[kw A T p]∧r=.pv (ak (l3 T p all n))):=by
 refine ea [] [.tmp 6] [kw A T p] (by simp) (λ_=>⟨bB _ _ _ _,trivial⟩) aP func240 ?_;generalize l:l3 T p all n=F;simp;refine aM.intro (S:=λ(k:Nat)=>⟨[(0,.pv (.ptr 0 0)),(1,.pv (.seq false 1 (am all))),(7,.pv (ak ((k:Int) -1)))],[kw A T p]⟩) (λk=>k<=n∧F=l3 T p all k) (λk=>k) n ?_ ⟨Vu _,l.symm⟩ ?_;exact av.to (by simp) (by simp) (by simp) (by simp) (by simp[bB]);rintro k ⟨hk,a⟩;cases k with
 |zero=>simp[l3]at a;subst a;simp[ii]
 |succ j=>
  have hj:j<all.length:=by omega
  have m:all.getD j 0=all[j]:=by rw[Vr,Vq hj];rfl
  have o:bG ((j:Int) -1)=(j:Int) -1:=aC (by omega) (by omega);have c:=gL T (aq all[j]) ht;have e:=iJ T (aq all[j]) ht;have d:l3 T p all (j+1)=if pP T p all[j]=true then(j:Int)else l3 T p all j:=by rw[l3,m]
  have i:pP T p all[j]=(decide (0<(lk p.seen (aq all[j])).getD 0)&&(decide ((em T (aq all[j])).1.lev=T.beg.length)&&decide (0<=(em T (aq all[j])).1.rea))):=rfl;rw[d,i]at a;simp[hj,kw];refine ap.intro (aX all[j]) ?_;simp;refine eh.intro (λ_=>c) ?_;simp;refine eh.intro (λ_=>o5 T) ?_;simp;refine eh.intro (λ_=>e) ?_;by_cases b:(0<(lk p.seen (aq all[j])).getD 0∧(em T (aq all[j])).1.lev=T.beg.length)∧0<=(em T (aq all[j])).1.rea;obtain⟨⟨f,g⟩,h⟩:=b;rw[Vt (by simp[f,g,h])]at a;subst a;simp[f,g,h,ii,kw];rw[Vs (by simpa[and_assoc]using b)]at a;simp[b];refineλ_=>⟨j,by(try dsimp only);omega,⟨by(try dsimp only);omega,a⟩,av.to (by simp[o]) (by simp[kw]) (by simp) (by simp) (by simp[bB])⟩
end
theorem OS(A:Ar)(T:Tr)(hk:lX A)(b:A.row.length<=1000000)(p:PS)(l:Int):(qs A T p l).many<=p.many+1000000∧(qs A T p l).lits.length<=p.lits.length+1000000:=by
 have h:=lZ T (aq l) (aJ A (em T (aq l)).1.rea) ⟨pt p.seen (aq l) 0,p.lits,p.many -1⟩;have a:=gP A hk (em T (aq l)).1.rea;dsimp only at h;unfold qs;omega
def Ln(T:Tr)(p:PS)(l:Int):Bool:=aR p.seen (aq l)&&decide (eU T l=T.beg.length)
def pQ(T:Tr)(all:af)(p:PS)(i:Nat):af:=p.lits++((all.take i).filter (Ln T p)).map λl=>bG (-l)
theorem El(T:Tr)(all:af)(p:PS){i:Nat}(h:i<all.length):pQ T all p (i+1)=if Ln T p all[i]=true then pQ T all p i++[bG (-all[i])]else pQ T all p i:=by
 unfold pQ;rw[←YM h,WT,V1];by_cases c:Ln T p all[i]=true;rw[Vt c,Wl,Vt c];simp;rw[Vs c,Wl,Vs c];simp
theorem BN(T:Tr)(all:af)(p:PS)(i:Nat)(hi:i<=all.length):(pQ T all p i).length<=p.lits.length+i:=by
 unfold pQ;rw[Vz,VA];have:=WR (Ln T p) (all.take i);rw[Vy]at this;omega
theorem xU(T:Tr)(all:af)(p:PS):pQ T all p all.length=tO T all p:=by
 unfold pQ tO;rw[VX];rfl
def fin(A:Ar)(T:Tr)(all:af)(p:PS):PS:=⟨(dA A T all all.length p).seen,tO T all (dA A T all all.length p),(dA A T all all.length p).many⟩
theorem Lo(A:Ar)(T:Tr)(p:PS)(all:af)(ht:T.ok)(h0:A.hd≠[])(hk:lX A)(I:A.row.length<=1000000)(hn:all.length<=400)(N:p.many<=1000000)(hp:p.lits.length<=1000000):
 aI Tryz.prog 162 [.ptr 0 0,.seq false 1 (am all)] [kw A T p] (λr h'=>h'=[kw A T (fin A T all p)]∧r=.pv (.tup [])):=by
 refine ea [] [] [kw A T (fin A T all p)] (by simp) (λ_=>⟨bB _ _ _ _,trivial⟩) aP Tryz.func162 ?_;have a:=λp n hn=>Lm A T p all n ht hn (by omega);have C:bG ((all.length:Int) -1)=(all.length:Int) -1:=aC (by omega) (by omega);unfold fin;generalize K:dA A T all all.length p=F;simp[C];refine ay.intro (a p all.length (Vu _)) ?_;rintro _ _ ⟨rfl,rfl⟩;simp;refine aM.intro (S:=λ(x:Nat×PS)=>⟨[(0,.pv (.ptr 0 0)),(1,.pv (.seq false 1 (am all))),(4,.pv (ak (l3 T x.2 all x.1)))],[kw A T x.2]⟩) (λx=>x.1<=all.length∧F=dA A T all x.1 x.2∧x.2.many<=1000000*(all.length -x.1+1)∧x.2.lits.length<=1000000*(all.length -x.1+1)) (λx=>x.1) (all.length,p) ?_ ⟨Vu _,K.symm,by dsimp only;omega,by dsimp only;omega⟩ ?_;exact av.to (by simp) (by simp) (by simp) (by simp) (by simp[bB]);rintro⟨k,s⟩ ⟨t,b,w,y⟩;dsimp only at t b w y;have d:=BM A T all s k;by_cases H:(1:Int)<(s.many:Int)∧0<=l3 T s all k;rotate_left
 .have m:F=s:=by
   rcases d with⟨h1,e⟩|⟨j,h1,e,D⟩;rw[b,e];rw[b,II A T all s (by omega)]
  subst m;clear b d a;simp[kw,H];intro _;refine aM.intro (S:=λ(i:Nat)=>⟨[(0,.pv (.ptr 0 0)),(1,.pv (.seq false 1 (am all))),(55,.pv (.seq false 1 (am all))),(56,.pv (ak all.length)),(57,.pv (ak i))],[kw A T ⟨F.seen,pQ T all F i,F.many⟩]⟩) (λi=>i<=all.length) (λi=>all.length -i) 0 ?_ (VH _) ?_;exact av.to (by simp) (by simp[kw,pQ]) (by simp) (by simp) (by simp[bB]);intro i hi;by_cases h:i<all.length;rotate_left;have q:i=all.length:=by omega
  subst q;simp[kw,ii,xU];have J:=dU i;have c:=El T all F h;have hle:=BN T all F i hi;have u:=gL T (aq all[i]) ht;have E:Ln T F all[i]=(decide (0<(lk F.seen (aq all[i])).getD 0)&&decide ((em T (aq all[i])).1.lev=T.beg.length)):=rfl;simp[h,kw];refine ap.intro (aX all[i]) ?_;simp;refine eh.intro (λ_=>u) ?_;simp;refine eh.intro (λ_=>o5 T) ?_;by_cases hd:0<(lk F.seen (aq all[i])).getD 0∧(em T (aq all[i])).1.lev=T.beg.length;rw[Vt (by rw[E];simp[hd])]at c;simp[hd];refine⟨by omega,i+1,by(try dsimp only);omega,by(try dsimp only);omega,av.to (by simp[J]) (by simp[kw,c,am]) (by simp) (by simp) (by simp[bB])⟩;rw[Vs (by rw[E];simpa using hd)]at c;simp[hd];refineλ_=>⟨i+1,by(try dsimp only);omega,by(try dsimp only);omega,av.to (by simp[J]) (by simp[kw,c]) (by simp) (by simp) (by simp[bB])⟩
 obtain⟨o,L⟩:=H;rcases d with⟨h1,e⟩|⟨j,h1,e,D⟩;omega;have hj:j<all.length:=by omega
 have M:all.getD j 0=all[j]:=by rw[Vr,Vq hj];rfl
 have f:=D (by omega);rw[M]at f;have v:=iJ T (aq all[j]) ht;have B:bG ((s.many:Int) -1)=((s.many -1:Nat):Int):=by rw[aC (by omega) (by omega)];omega
 have z:bG ((j:Int) -1)=(j:Int) -1:=aC (by omega) (by omega);have G:1000000*(all.length -k+1)+1000000<=1000000*(all.length -j+1):=by omega
 have l:=Ll A T ⟨pt s.seen (aq all[j]) 0,s.lits,s.many -1⟩ (em T (aq all[j])).1.rea (aq all[j]) ht h0 hk I (by dsimp only;omega) (by dsimp only;omega);have hle:=OS A T hk I s all[j];have g:ej T (aq all[j]) (aJ A (em T (aq all[j])).1.rea) ⟨pt s.seen (aq all[j]) 0,s.lits,s.many -1⟩=qs A T s all[j]:=rfl;rw[g]at l;generalize qs A T s all[j]=s' at*;simp[kw,o,e,hj];refine ap.intro (aX all[j]) ?_;simp[B];refine ap.intro v ?_;simp;refine ay.intro l ?_;rintro _ _ ⟨rfl,rfl⟩;simp[z];refine ay.intro (a s' j (by omega)) ?_;rintro _ _ ⟨rfl,rfl⟩;simp;refine⟨(j,s'),by dsimp only;omega,⟨by dsimp only;omega,by(try dsimp only);rw[b,f],by(try dsimp only);omega,by(try dsimp only);omega⟩,av.to (by simp) (by simp[kw]) (by simp) (by simp) (by simp[bB])⟩
theorem Em(T:Tr)(ht:T.ok)(x:Int):aw prog 238 [ak x,.iptr 1 [[cD T]] 0 0] (λr=>r=.pv (BL (decide (0<=df T x)))):=by
 refine aB aP func238 ?_;have a:=gM T x ht;simp;refine ap.intro a ?_;simp
def qv(T:Tr)(lits:af):Bool:=!(lits.any λx=>decide (0<=df T x))
theorem IJ(T:Tr)(lits:af)(ht:T.ok)(b:lits.length<=1000000):aw prog 159 [cD T,.seq false 1 (am lits)] (λr=>r=.pv (BL (qv T lits))):=by
 refine aB aP func159 ?_;have a:=eQ lits b 238 [.iptr 1 [[cD T]] 0 0] (λx=>decide (0<=df T x)) (λr=>by simp) rfl (λk=>by simp) (λx _=>Em T ht x);simp[bE];refine ap.intro a ?_;simp[qv]
def gQ(T:Tr)(lits:af)(i:Nat):af:=((lits.take i).filter λl=>!decide (df T l=0)).map (eU T)
theorem Eo(T:Tr)(lits:af){i:Nat}(h:i<lits.length):gQ T lits (i+1)=if df T lits[i]=0 then gQ T lits i else gQ T lits i++[eU T lits[i]]:=by
 unfold gQ;rw[←YM h,WT,V1];by_cases c:df T lits[i]=0;rw[Vt c,Wl,Vs (by simp[c])];simp;rw[Vs c,Wl,Vt (by simp[c])];simp
theorem BO(T:Tr)(lits:af)(i:Nat):(gQ T lits i).length<=i:=by
 unfold gQ;rw[VA];have:=WR (λl=>!decide (df T l=0)) (lits.take i);rw[Vy]at this;omega
def Lp(T:Tr)(lits:af):af:=cY (eJ (gQ T lits lits.length))
def gi(T:Tr)(lits:af):Int:=if(Lp T lits).length<2 then 0 else(Lp T lits).getD ((Lp T lits).length -2) 0
theorem Lq(T:Tr)(lits:af)(ht:T.ok)(K:lits.length<=1000000):aw prog 98 [cD T,.seq false 1 (am lits)] (λr=>r=.pv (ak (gi T lits))):=by
 refine aB aP func98 ?_;simp;refine aM.intro (S:=λ(i:Nat)=>⟨[(0,.pv (cD T)),(5,.own true 1 (am (gQ T lits i))),(8,.pv (.seq false 1 (am lits))),(9,.pv (ak lits.length)),(10,.pv (ak i))],[]⟩) (λi=>i<=lits.length) (λi=>lits.length -i) 0 ?_ (VH _) ?_;exact(av.nilOwn (s:=5) 1 true (by simp)).trans (av.to (by simp[gQ,am]) (by simp) (by simp) (by simp) (by simp));intro i hi;by_cases h:i<lits.length;have v:=dU i;have A:=gL T (aq lits[i]) ht;have J:=gM T lits[i] ht;have d:=Eo T lits h;have hle:=BO T lits i;simp[h];refine bz.intro (λ_=>J) ?_;by_cases c:df T lits[i]=0;rw[Vt c]at d;simp[c];refine⟨i+1,by(try dsimp only);omega,by(try dsimp only);omega,av.to (by simp[v,d]) (by simp) (by simp) (by simp) (by simp)⟩;rw[Vs c]at d;simp[c];refine ap.intro (aX lits[i]) ?_;simp;refine ap.intro A ?_;simp;refine⟨by omega,i+1,by(try dsimp only);omega,by(try dsimp only);omega,av.to (by simp[v,d,am,eU]) (by simp) (by simp) (by simp) (by simp)⟩;have y:i=lits.length:=by omega
 subst y;have hle:=BO T lits lits.length;have G:=xS (gQ T lits lits.length) (by omega);have n:gi T lits=if(cY (eJ (gQ T lits lits.length))).length<2 then 0 else(cY (eJ (gQ T lits lits.length))).getD ((cY (eJ (gQ T lits lits.length))).length -2) 0:=rfl;generalize gi T lits=B at*;have I:(eJ (gQ T lits lits.length)).length=(gQ T lits lits.length).length:=by unfold eJ;exact WD _
 generalize gQ T lits lits.length=xs at*;have E:=qk (eJ xs) (by omega);have hcl:=iK (eJ xs) (eJ xs).length;unfold Qy at E;have w:bc (eJ xs) (eJ xs).length=cY (eJ xs):=rfl;rw[w]at hcl;generalize eJ xs=e at*;generalize cY e=a at*;simp;refine ap.introX (cd.introS (o:=.slot 5) (lo:=0) (hi:=xs.length) G (by simp) rfl rfl (by simp) (by simp) rfl (by simp;exact VT (by simp)) (br 0 xs) (by simp) (by simp) ?_);rintro k l ⟨rfl,rfl⟩ _ _;have x:List.drop xs.length (am xs)=[]:=VS (by simp);simp[x];refine ap.introX (cd.introS (o:=.slot 5) (lo:=0) (hi:=e.length) E (by simp) rfl rfl (by simp) (by simp) rfl (by simp;exact VT (by simp)) (ge 0 e) (by simp) (by simp) ?_);rintro k l ⟨rfl,rfl⟩ _ _;have q:List.drop e.length (am e)=[]:=VS (by simp);have F:(aU (a++List.replicate (e.length -a.length) 0)).length=e.length:=by rw[iL];simp;omega
 have f:min a.length (aU (a++List.replicate (e.length -a.length) 0)).length=a.length:=by rw[F];omega
 have D:=ql a (List.replicate (e.length -a.length) 0);by_cases c2:a.length<2;rw[Vt c2]at n;have g:(a.length:Int)<2:=by omega
 have j:¬2<=(a.length:Int):=by omega
 simp[q,c2,g,j,n,f];rw[Vs c2]at n;obtain⟨m,H⟩:∃m,a.length=m+2:=⟨a.length -2,by omega⟩;have v:bG ((a.length:Int) -2)=(m:Int):=by rw[aC (by omega) (by omega)];omega
 have g:¬(a.length:Int)<2:=by omega
 have b:m<a.length:=by omega
 have p:B=a[m]:=by rw[n,H,Vr,Yo,Vq b];rfl
 have t:(aU a)[m]?=some [ak a[m]]:=by unfold aU;rw[VO,Vq b];rfl
 have C:(m:Int)<(a.length:Int):=by omega
 rw[p];clear n p;have z:=iL a;have j:2<=(a.length:Int):=by omega
 have u:∀h,(aU a)[m]'h=[ak a[m]]:=λh=>by rw[Vq h]at t;exact Yb t
 simp[q,c2,g,j,v,f,D,C,z,u,b]
def iv(A:Ar)(q:Int):Int:=if isA A q=true then A.row.getD q.toNat 0 else 0
theorem uh(A:Ar)(h0:A.hd≠[])(hk:lX A)(b:A.row.length<=1000000)(q:Int):aw prog 158 [mj A,ak q] (λr=>r=.pv (ak (iv A q))):=by
 refine aB aP func158 ?_;have hi:=GF A h0 q;unfold iv;simp only[mj,rB]at hi;simp[mj,rB];refine ap.intro hi ?_;by_cases c:isA A q=true;rotate_left;have c':isA A q=false:=by simpa using c
 simp[c'];obtain⟨p,n,rfl,a⟩:=hk q c;have hp:p<A.row.length:=by have:=a.len;omega
 simp[c,hp]
structure NS where
  at':aS
  ok:Bool
def pla(T:Tr)(l:Int):Int:=(em T (aq l)).1.pla
def rea(T:Tr)(l:Int):Int:=(em T (aq l)).1.rea
def xV(T:Tr)(stop:aS)(but:Int)(s:NS)(l:Int):Bool:=decide (l=but)||aR stop l||(aR s.at' (pla T l)&&decide (0<=pla T l))
def IK(A:Ar)(T:Tr)(l:Int):Bool:=decide (0<=df T l)||decide (rea T l<0)||decide (iv A (rea T l)=0)
def vy(T:Tr)(s:NS)(l:Int):NS:=⟨pt s.at' (pla T l) (bG ((lk s.at' (pla T l)).getD 0+1)),s.ok⟩
def vz(f:NS->Int->Int->NS)(A:Ar)(T:Tr)(stop:aS)(but:Int):af->NS->NS
 |[],s=>s
 |l::c,s=>if xV T stop but s l=true then vz f A T stop but c s else if IK A T l=true then⟨s.at',false⟩else vz f A T stop but c (f (vy T s l) (rea T l) (bG (-l)))
def tP(A:Ar)(T:Tr)(stop:aS):Nat->NS->Int->Int->NS
 |0,s,_,_=>s
 |k+1,s,q,but=>vz (tP A T stop k) A T stop but (aJ A q) s
def vA(A:Ar)(T:Tr)(stop:aS)(s:NS):bj:=[.pv (mj A),.pv (cD T),.omap true (aL fI stop),.omap true (aL fI s.at'),.pv (BL s.ok)]
theorem eV(k:Nat)(A:Ar)(T:Tr)(stop:aS)(s:NS):cA k (vA A T stop s):=⟨⟨⟨br k _,jP k _,trivial⟩,trivial⟩,⟨⟨qj k _,br k _,br k _,trivial,trivial⟩,trivial⟩,jP k _,jP k _,trivial,trivial⟩
structure AheadOk (A:Ar) (T:Tr):Prop where
  tr:T.ok
  hd:A.hd≠[]
  ar:lX A
  len:A.row.length<=1000000
  ahead:∀l:Int,df T l<0->0<=rea T l->0<=pla T l∧∀y∈aJ A (rea T l),y≠bG (-l)->pla T y<pla T l
theorem OT(A:Ar)(T:Tr)(stop:aS)(K:AheadOk A T):∀(k:Nat)(q but:Int)(s:NS),(∀y∈aJ A q,y≠but->pla T y<k)->
 aI prog 166 [.ptr 0 0,ak q,ak but] [vA A T stop s] (λr h'=>h'=[vA A T stop (tP A T stop (k+1) s q but)]∧r=.pv (.tup [])):=by
 intro k
 induction k using Nat.strongRecOn with
 |ind k O=>
 intro q but s N;refine ea [] [] [vA A T stop (tP A T stop (k+1) s q but)] (by simp) (λ_=>⟨eV _ _ _ _ _,trivial⟩) aP func166 ?_;obtain⟨ht,h0,hk,G,p⟩:=K;have L:=lY A h0 hk G q;have X:=gP A hk q;rw[tP];generalize E:vz (tP A T stop k) A T stop but (aJ A q) s=F;generalize aJ A q=c at*;simp[vA];refine ap.intro L ?_;simp;refine aM.intro (S:=λ(x:Nat×NS)=>⟨[(0,.pv (.ptr 0 0)),(2,.pv (ak but)),(15,.own true 1 (am c)),(16,.pv (ak c.length)),(17,.pv (ak x.1))],[vA A T stop x.2]⟩) (λx=>x.1<=c.length∧F=vz (tP A T stop k) A T stop but (c.drop x.1) x.2) (λx=>c.length -x.1) (0,s) ?_ ⟨VH _,E.symm⟩ ?_;exact av.to (by simp) (by simp[vA]) (by simp) (by simp) (by simp[eV]);clear E;rintro⟨i,s⟩ ⟨hi,d⟩;dsimp only at hi d;by_cases h:i<c.length;rotate_left;have w:i=c.length:=by omega
 subst w;rw[VS (Vu _),vz]at d;subst d;simp[vA,ii];have H:=dU i;have v:c.drop i=c[i]::c.drop (i+1):=V3 h;rw[v,vz]at d;have f:=oW T (aq c[i]) ht;have m:=iJ T (aq c[i]) ht;have D:=gM T c[i] ht;have n:xV T stop but s c[i]=(decide (c[i]=but)||decide (0<(lk stop c[i]).getD 0)||(decide (0<(lk s.at' (pla T c[i])).getD 0)&&decide (0<=pla T c[i]))):=rfl;have l:IK A T c[i]=(decide (0<=df T c[i])||decide (rea T c[i]<0)||decide (iv A (rea T c[i])=0)):=rfl;have B:(em T (aq c[i])).1.pla=pla T c[i]:=rfl;have C:(em T (aq c[i])).1.rea=rea T c[i]:=rfl;rw[B]at f;rw[C]at m;simp[h,vA];refine ap.intro (aX c[i]) ?_;simp;refine eh.intro (λ_=>f) ?_;simp;refine eh.intro (λ_=>f) ?_;simp;refine⟨λa b=>⟨⟨a,b⟩,λe=>⟨⟨a,b⟩,e⟩⟩,λhs=>?_,λI Y U=>?_⟩;rw[Vt (by rw[n];simpa using hs)]at d;exact⟨(i+1,s),by dsimp only;omega,⟨by dsimp only;omega,d⟩,av.to (by simp[H]) (by simp[vA]) (by simp) (by simp) (by simp[eV])⟩;have o:¬xV T stop but s c[i]=true:=by
  rw[n];simp only[WI,VC,VI];rintro((e|e)|⟨J,W⟩);exact I e;omega;have:=U J;omega
 rw[Vs o]at d;refine ap.intro m ?_;simp;refine ap.intro D ?_;simp;refine bz.intro (λ_=>uh A h0 hk G _) ?_;by_cases j:IK A T c[i]=true;rw[Vt j]at d;rw[l]at j;have t:(0<=df T c[i]∨rea T c[i]<0)∨iv A (rea T c[i])=0:=by simpa using j
 subst d;simp[t,ii];rw[Vs j]at d;have u:¬(0<=df T c[i])∧¬(rea T c[i]<0)∧¬(iv A (rea T c[i])=0):=by
  rw[l]at j;simpa[and_assoc]using j
 obtain⟨P,Q,R⟩:=u;obtain⟨Z,V⟩:=p c[i] (by omega) (by omega);have M:=N c[i] (Vx h) I;simp[P,Q,R];refine⟨by omega,?_⟩;refine bW.intro f ?_;simp;obtain⟨k',rfl⟩:∃k',k=k'+1:=⟨k -1,by omega⟩;have g:=O k' (by omega) (rea T c[i]) (bG (-c[i])) (vy T s c[i]) (λy hy z=>by have:=V y hy z;omega);simp only[vA,vy]at g;refine ay.intro g ?_;rintro _ _ ⟨rfl,rfl⟩;simp;refine⟨(i+1,tP A T stop (k'+1) (vy T s c[i]) (rea T c[i]) (bG (-c[i]))),by dsimp only;omega,⟨by dsimp only;omega,d⟩,av.to (by simp[H]) (by simp[vA,vy]) (by simp) (by simp) (by simp[eV])⟩
def cZ(lits:af):Nat->aS
 |0=>[]
 |i+1=>pt (cZ lits i) (lits.getD i 0) ((lk (cZ lits i) (lits.getD i 0)).getD 0+1)
theorem rF(lits:af):∀(i:Nat)(v:Int),0<=(lk (cZ lits i) v).getD 0∧(lk (cZ lits i) v).getD 0<=i
 |0,v=>by simp[cZ,lk]
 |i+1,v=>by
  have h:=rF lits i;rw[cZ,cm];split;have:=h (lits.getD i 0);rw[V7];omega;have:=h v;omega
theorem vB(lits:af)(v:Int):∀i,i<=lits.length->(aR (cZ lits i) v=true↔v∈lits.take i)
 |0,_=>by simp[cZ,lk,aR]
 |i+1,h=>by
  have b:=vB lits v i (by omega);have a:lits.getD i 0=lits[i]:=by rw[Vr,Vq (by omega)];rfl
  have hle:=rF lits i lits[i];rw[cZ,a,o7,Wj,Vq (by omega),W6,VF,VY];split;rename_i e;subst e;have:0<(lk (cZ lits i) lits[i]).getD 0+1:=by omega
  simp[this];rename_i e;rw[b];exact⟨.inl,λh=>h.elim id (λh=>absurd h.symm e)⟩
def Lr(T:Tr)(at':aS)(out:af)(i:Nat):Bool:=aR at' i&&!decide (rea T (T.lits.getD i 0)∈out)
def fl(T:Tr)(at':aS):Nat->af
 |0=>[]
 |i+1=>if Lr T at' (fl T at' i) i=true then fl T at' i++[rea T (T.lits.getD i 0)]else fl T at' i
theorem vC(T:Tr)(at':aS):∀i,(fl T at' i).length<=i
 |0=>by simp[fl]
 |i+1=>by
  have:=vC T at' i;rw[fl];split;simp;omega;omega
def nB(A:Ar)(T:Tr)(lits:af)(con:Int):NS:=tP A T (cZ lits lits.length) (T.lits.length+1) ⟨[],true⟩ con 0
def tQ(T:Tr)(at':aS)(con:Int):af:=if con∈fl T at' T.lits.length then fl T at' T.lits.length else fl T at' T.lits.length++[con]
def tR(A:Ar)(T:Tr)(lits:af)(con:Int):af×Bool:=
 if iv A con=0 then([],false)else if(nB A T lits con).ok=false then([],false)else(tQ T (nB A T lits con).at' con,true)
theorem Ls(A:Ar)(T:Tr)(lits:af)(con:Int)(j:AheadOk A T)(hp:∀l,pla T l<T.lits.length)(B:lits.length<=1000000)(z:T.lits.length<=1000000):
 aw Tryz.prog 94 [mj A,cD T,.seq false 1 (am lits),ak con] (λr=>r=.pv (.tup [.seq true 1 (am (tR A T lits con).1),BL (tR A T lits con).2])):=by
 refine aw.wk (R:=λr=>∃x,r=.pv x∧cr x (.tup [.seq true 1 (am (tR A T lits con).1),BL (tR A T lits con).2])) ?_ (λr ⟨x,e,h⟩=>⟨x,_,e,h,rfl⟩);refine iF [] [.tmp 8,.tmp 9] aP Tryz.func94 ?_;have p:=uh A j.hd j.ar j.len con;have b:=OT A T (cZ lits lits.length) j T.lits.length con 0 ⟨[],true⟩ (λy _ _=>hp y);have v:=ik T z;obtain⟨H,c⟩:∃H,tR A T lits con=H:=⟨_,rfl⟩;rw[c];unfold tR at c;have w:tP A T (cZ lits lits.length) (T.lits.length+1) ⟨[],true⟩ con 0=nB A T lits con:=rfl;rw[w]at b;generalize nB A T lits con=N at*;simp;refine bz.intro (λ_=>p) ?_;by_cases m:iv A con=0;rw[Vt m]at c;subst c;simp[m,cr,bX,am];rw[Vs m]at c;simp[m];refine aM.intro (S:=λ(i:Nat)=>⟨[(0,.pv (mj A)),(1,.pv (cD T)),(2,.pv (.seq false 1 (am lits))),(3,.pv (ak con)),(10,.pv (.ptr 0 0)),(35,.pv (.seq false 1 (am lits))),(36,.pv (ak lits.length)),(37,.pv (ak i))],[vA A T (cZ lits i) ⟨[],true⟩]⟩) (λi=>i<=lits.length) (λi=>lits.length -i) 0 ?_ (VH _) ?_;exact av.to (by simp) (by simp[vA,cZ]) (by simp) (by simp) (by simp[eV]);intro i hi;by_cases h:i<lits.length;have o:=dU i;have n:lits.getD i 0=lits[i]:=by rw[Vr,Vq h];rfl
 have hle:=rF lits i lits[i];have t:bG ((lk (cZ lits i) lits[i]).getD 0+1)=(lk (cZ lits i) lits[i]).getD 0+1:=aC (by omega) (by omega);have a:cZ lits (i+1)=pt (cZ lits i) lits[i] ((lk (cZ lits i) lits[i]).getD 0+1):=by rw[cZ,n]
 simp[h,vA];refine⟨i+1,by(try dsimp only);omega,by(try dsimp only);omega,av.to (by simp[o]) (by simp[vA,a,t]) (by simp) (by simp) (by simp[eV])⟩;have g:i=lits.length:=by omega
 subst g;simp only[vA]at b;simp[vA];refine ay.intro b ?_;rintro _ _ ⟨rfl,rfl⟩;cases c1:N.ok;rw[Vt c1]at c;subst c;simp[c1,cr,bX,am];rw[Vs (by simp[c1])]at c;subst c;simp[c1];refine ap.intro v ?_;simp;refine aM.intro (S:=λ(i:Nat)=>⟨[(1,.pv (cD T)),(3,.pv (ak con)),(10,.pv (.ptr 0 0)),(13,.own true 1 (am (fl T N.at' i))),(58,.own true 1 (am T.lits)),(59,.pv (ak T.lits.length)),(60,.pv (ak i))],[vA A T (cZ lits lits.length) N]⟩) (λi=>i<=T.lits.length) (λi=>T.lits.length -i) 0 ?_ (VH _) ?_;exact(av.nilOwn (s:=13) 1 true (by simp)).trans (av.to (by simp[fl,am]) (by simp[vA,c1]) (by simp) (by simp) (by simp[eV]));intro i hi;have hle:=vC T N.at' i;by_cases h:i<T.lits.length;have o:=dU i;have n:T.lits.getD i 0=T.lits[i]:=by rw[Vr,Vq h];rfl
 have k:=iJ T (aq T.lits[i]) j.tr;have q:(em T (aq T.lits[i])).1.rea=rea T T.lits[i]:=rfl;rw[q]at k;have a:fl T N.at' (i+1)=if Lr T N.at' (fl T N.at' i) i=true then fl T N.at' i++[rea T T.lits[i]]else fl T N.at' i:=by rw[fl,n]
 have u:Lr T N.at' (fl T N.at' i) i=(decide (0<(lk N.at' (i:Int)).getD 0)&&!decide (rea T T.lits[i]∈fl T N.at' i)):=by unfold Lr;rw[n];rfl
 have f:=fL (fl T N.at' i) (rea T T.lits[i]) (by omega);simp[h,vA];refine ap.intro (aX T.lits[i]) ?_;simp;refine ap.intro k ?_;simp;refine bz.intro (λ_=>f) ?_;by_cases d:0<(lk N.at' (i:Int)).getD 0∧¬rea T T.lits[i]∈fl T N.at' i;rw[Vt (by rw[u];simp[d])]at a;simp[d];refine⟨by omega,i+1,by(try dsimp only);omega,by(try dsimp only);omega,av.to (by simp[o,a,am]) (by simp[vA]) (by simp) (by simp) (by simp[eV])⟩;rw[Vs (by rw[u];simpa using d)]at a;simp[d];refineλ_=>⟨i+1,by(try dsimp only);omega,by(try dsimp only);omega,av.to (by simp[o,a]) (by simp[vA]) (by simp) (by simp) (by simp[eV])⟩;have g:i=T.lits.length:=by omega
 subst g;have f:=fL (fl T N.at' T.lits.length) con (by omega);unfold tQ;generalize fl T N.at' T.lits.length=O at*;simp;refine ap.intro f ?_;by_cases d:con∈O;simp[d,cr,bX];simp[d,cr,bX,am];omega
section
theorem BQ(T:Tr)(out:af):∀i,(dv T out i).2.1<=i∧((dv T out i).2.1=0∨(dv T out i).2.2<i)∧(dv T out i).2.2<=i
 |0=>⟨Vu _,.inl rfl,Vu _⟩
 |i+1=>by
  have a:=BQ T out i;rw[dv];split;exact⟨by dsimp only;omega,.inr (by dsimp only;omega),by dsimp only;omega⟩;split;refine⟨by dsimp only;omega,?_,by dsimp only;omega⟩;dsimp only;rename_i c1 c2;rcases a.2.1 with e|e;exact .inr (by omega);exact .inr (by omega);exact⟨by omega,a.2.1.imp id (λe=>by omega),by omega⟩
theorem IL(T:Tr)(lits:af)(ht:T.ok)(y:lits.length<=1000000):aw prog 163 [cD T,.seq false 1 (am lits)] (λr=>r=.own true 1 (am (Lj T lits))):=by
 refine aB aP func163 ?_;have w:=Ow lits y;have z:=Ip lits;unfold Lj Li;generalize fO lits=out at*;simp;refine ap.intro w ?_;simp;refine aM.intro (S:=λ(i:Nat)=>⟨[(0,.pv (cD T)),(5,.own true 1 (am out)),(6,.pv (ak (dv T out i).1)),(7,.pv (ak (dv T out i).2.1)),(8,.pv (ak (dv T out i).2.2)),(15,.al (.slot 5)),(16,.pv (ak out.length)),(17,.pv (ak i))],[]⟩) (λi=>i<=out.length) (λi=>out.length -i) 0 ?_ (VH _) ?_;exact av.to (by simp[dv]) (by simp) (by simp) (by simp) (by simp);intro i hi;obtain⟨t,v,a3⟩:=BQ T out i;by_cases h:i<out.length;have f:=dU i;have k:out.getD i 0=out[i]:=by rw[Vr,Vq h];rfl
 have m:=gL T (aq out[i]) ht;have a:dv T out (i+1)=if(dv T out i).1<(em T (aq out[i])).1.lev then((em T (aq out[i])).1.lev,1,i)else if(em T (aq out[i])).1.lev=(dv T out i).1 then((dv T out i).1,(dv T out i).2.1+1,(dv T out i).2.2)else dv T out i:=by rw[dv,k];rfl
 have p:=dU ((dv T out i).2.1);simp[h];refine ap.intro (aX out[i]) ?_;simp;refine ap.intro m ?_;by_cases c1:(dv T out i).1<(em T (aq out[i])).1.lev;rw[Vt c1]at a;simp[c1];refine⟨i+1,by(try dsimp only);omega,by(try dsimp only);omega,av.to (by simp[f,a]) (by simp) (by simp) (by simp) (by simp)⟩;rw[Vs c1]at a;by_cases c2:(em T (aq out[i])).1.lev=(dv T out i).1;rw[Vt c2]at a;simp[c1,c2];refine⟨i+1,by(try dsimp only);omega,by(try dsimp only);omega,av.to (by simp[f,a,p]) (by simp) (by simp) (by simp) (by simp)⟩;rw[Vs c2]at a;simp[c1,c2];refine⟨i+1,by(try dsimp only);omega,by(try dsimp only);omega,av.to (by simp[f,a]) (by simp) (by simp) (by simp) (by simp)⟩;have l:i=out.length:=by omega
 subst l;clear hi h;generalize dv T out out.length=s at*;obtain⟨top,many,at'⟩:=s;dsimp only at t v a3⊢;by_cases c:many=1;rotate_left;have c':¬(many:Int)=1:=by omega
 simp[c,c'];subst c;have b:at'<out.length:=by omega
 have k:out.getD at' 0=out[at']:=by rw[Vr,Vq b];rfl
 have f:=dU (at');simp only[Vt,k];simp[b,f];have d:(out.take at'++out.drop (at'+1)++List.replicate (at'+1 -at') 0).length=out.length:=by simp;omega
 have g:out.length -(at'+1 -at')=out.length -1:=by omega
 have q:=BP Tryz.dlaA out at' (at'+1) (by omega) (by omega) (by kernel_rfl);rw[g]at q;refine ap.introX (cd.introW (ps:=.slot 5) (hi:=out.length) q d (by omega) (λe=>by rw[e]at b;simp at b) (by simp) rfl rfl (by simp) (by simp) rfl (by simp) (by simp) ?_);have n:(out.take at'++out.drop (at'+1)).length=out.length -1:=by simp;omega
 have o:(out.take at'++out.drop (at'+1)++List.replicate (at'+1 -at') 0).take (out.length -1)=out.eraseIdx at':=by
  rw[Xw n,List.eraseIdx_eq_take_drop_succ]
 have j:(out.take at'++out.drop (at'+1)++List.replicate (at'+1 -at') 0).drop (out.length -1+1)=[]:=VS (by rw[d];omega);generalize out.take at'++out.drop (at'+1)++List.replicate (at'+1 -at') 0=dl at*;generalize out[at']=u at*;simp;refine ap.introX (cd.introI (ps:=.slot 5) (py:=.slot 51) (hi:=out.length -1) (zs:=dl) (x:=u) Tryz.insA (by kernel_rfl) (by simp) rfl rfl (by simp) (by simp) (by simp) (by simp) (by simp) (by simp) rfl (by decide) rfl (by omega) ?_);rw[o,j];simp;exact VT (by rw[iL,VR,List.length_eraseIdx_of_lt b];omega)
def QN(A:Ar)(T:Tr):bj:=[.pv (mj A),.pv (cD T),.omap true (aL fI []),.pv (.lit (.slice none 0 0)),.pv (ak 0)]
theorem IM(A:Ar)(T:Tr)(q but:Int)(ht:T.ok)(h0:A.hd≠[])(hk:lX A)(m:A.row.length<=1000000):
 aI prog 161 [.ptr 0 0,ak q,ak but] [QN A T] (λr h'=>h'=[kw A T (ej T but (aJ A q) ⟨[],[],0⟩)]∧r=.pv (.tup [])):=by
 obtain⟨p,hp⟩:∃p:PS,p=⟨[],[],0⟩:=⟨_,rfl⟩;rw[←hp];have o:p.many=0:=by rw[hp]
 have n:p.lits.length=0:=by rw[hp];rfl
 refine ea [] [] [kw A T (ej T but (aJ A q) p)] (by simp) (λ_=>⟨bB _ _ _ _,trivial⟩) aP func161 ?_;have l:=lY A h0 hk m q;have t:=gP A hk q;generalize aJ A q=c at*;simp[QN];refine ap.intro l ?_;simp;refine aM.intro (S:=λ(i:Nat)=>⟨[(0,.pv (.ptr 0 0)),(2,.pv (ak but)),(6,.pv (.fn (.func 170) [cD T] [])),(20,.own true 1 (am c)),(21,.pv (ak c.length)),(22,.pv (ak i))],[kw A T (ej T but (c.take i) p)]⟩) (λi=>i<=c.length) (λi=>c.length -i) 0 ?_ (VH _) ?_;exact(av.nilCell (b:=0) (k:=3) (xs:=QN A T) 1 true (by simp[QN]) (by simp[QN])).trans (av.to (by simp) (by simp[kw,QN,ej,hp,am]) (by simp) (by simp) (by simp[bB]));intro i hi;by_cases h:i<c.length;rotate_left;have g:i=c.length:=by omega
 subst g;simp[kw,ii];have f:=dU i;have hs:=vx T but c p h;have hle:=lZ T but (c.take i) p;rw[Vy]at hle;generalize ej T but (c.take i) p=s at*;have d:=gL T (aq c[i]) ht;simp[h,kw];refine ap.intro (aX c[i]) ?_;simp;refine bz.intro (λ_=>d) ?_;by_cases c1:aq c[i]=but;have hd:takeF T but s c[i]=s:=by unfold takeF;rw[Vt (.inl c1)]
 simp[c1];refine⟨i+1,by(try dsimp only);omega,by(try dsimp only);omega,av.to (by simp[f]) (by simp[kw,hs,hd]) (by simp) (by simp) (by simp[bB])⟩;by_cases c2:0<(lk s.seen (aq c[i])).getD 0;have hd:takeF T but s c[i]=s:=by unfold takeF;rw[Vt (.inr (.inl (by simpa[aR]using c2)))]
 simp[c1,c2];refine⟨i+1,by(try dsimp only);omega,by(try dsimp only);omega,av.to (by simp[f]) (by simp[kw,hs,hd]) (by simp) (by simp) (by simp[bB])⟩;have a:(lk s.seen (aq c[i])).getD 0<=0:=by omega
 by_cases c3:(em T (aq c[i])).1.lev<=0;have hd:takeF T but s c[i]=s:=by unfold takeF;rw[Vt (.inr (.inr c3))]
 simp[c1,c2,a,c3];refine⟨i+1,by(try dsimp only);omega,by(try dsimp only);omega,av.to (by simp[f]) (by simp[kw,hs,hd]) (by simp) (by simp) (by simp[bB])⟩;have hd:takeF T but s c[i]=if(em T (aq c[i])).1.lev=T.beg.length then⟨pt s.seen (aq c[i]) 1,s.lits,s.many+1⟩else⟨pt s.seen (aq c[i]) 1,s.lits++[c[i]],s.many⟩:=by
  unfold takeF;rw[Vs];rfl;rintro(e|e|e);exact c1 e;exact c2 (by simpa[aR]using e);exact c3 e
 simp[c1,c2,a,c3];refine bW.intro d ?_;simp;refine bW.intro (o5 T) ?_;by_cases c4:(em T (aq c[i])).1.lev=T.beg.length;rw[Vt c4]at hd;have j:=dU s.many;simp[c4];refine⟨i+1,by(try dsimp only);omega,by(try dsimp only);omega,av.to (by simp[f]) (by simp[kw,hs,hd,j]) (by simp) (by simp) (by simp[bB])⟩;rw[Vs c4]at hd;simp[c4];refine⟨by omega,i+1,by(try dsimp only);omega,by(try dsimp only);omega,av.to (by simp[f]) (by simp[kw,hs,hd,am]) (by simp) (by simp) (by simp[bB])⟩
def mV(A:Ar)(T:Tr)(con:Int):Int:=if iv A con=0 then 20 else if qv T (aJ A con)=false then 30 else 0
def sH(A:Ar)(T:Tr)(con:Int):af:=if mV A T con=0 then ed A T con else[]
end
structure DeskI (cs:au) (ats:af) (D:DK):Prop extends DeskT cs ats D where
  id:∀x∈D.a.rows,1<=x.id
structure NI (D:DK) (L:af) (s:NS):Prop where
  val:∀p,0<=(lk s.at' p).getD 0
  mem:∀p,aR s.at' p=true->∃j,∃hj:j<D.t.rows.length,p=(j:Int)∧0<=D.t.rows[j].rea∧-D.t.rows[j].l∉L
def Met(D:DK)(L:af)(s:NS)(y:Int):Prop:=y∈L∨∃j,∃hj:j<D.t.rows.length,D.t.rows[j].l=-y∧aR s.at' j=true
structure Post (D:DK) (L:af) (s s':NS) (c:af) (but:Int):Prop where
  ni:NI D L s'
  mono:∀p,aR s.at' p=true->aR s'.at' p=true
  all:s'.ok=true->s.ok=true∧(∀y∈c,y≠but->Met D L s' y)∧∀j (hj:j<D.t.rows.length),aR s'.at' j=true->aR s.at' j=false->∀y∈aJ D.A D.t.rows[j].rea,y≠D.t.rows[j].l->Met D L s' y
  ok:(∀y∈c,y≠but->HOk D.A D.T L y)->s'.ok=s.ok
theorem Met.mono{D:DK}{L:af}{s s':NS}{y:Int}(h:Met D L s y)(c:∀p,aR s.at' p=true->aR s'.at' p=true):Met D L s' y:=
 h.imp id λ⟨j,hj,a,b⟩=>⟨j,hj,a,c _ b⟩
def gg(l:af):au->Nat->af×Nat×Int
 |[],n=>(l,n,23)
 |h::hs,n=>if ve l h=-1 then(l,n+1,0)else if(dz l h).2=true then gg (l++[(dz l h).1]) hs (n+1)else([],n,22)
def jf(c:af):Nat->af
 |0=>[]
 |i+1=>if c.getD i 0∈c.take i then jf c i else jf c i++[bG (-(c.getD i 0))]
theorem sI(c:af)(x:Int):∀i,i<=c.length->(x∈jf c i↔∃y∈c.take i,x=bG (-y))
 |0,_=>by simp[jf]
 |i+1,h=>by
  have b:=sI c x i (by omega);have d:c.getD i 0=c[i]:=by rw[Vr,Vq (by omega)];rfl
  have ht:c.take (i+1)=c.take i++[c[i]]:=(YM (by omega)).symm;rw[jf,d,ht];by_cases e:c[i]∈c.take i;rw[Vt e,b];constructor;rintro⟨y,hy,a⟩;exact⟨y,WG _ hy,a⟩;rintro⟨y,hy,a⟩;rcases VF.1 hy with hy|hy;exact⟨y,hy,a⟩;simp at hy;subst hy;exact⟨_,e,a⟩;rw[Vs e,VF,b,VY];constructor;rintro(⟨y,hy,a⟩|a);exact⟨y,WG _ hy,a⟩;exact⟨_,Xi _ (VY.2 rfl),a⟩;rintro⟨y,hy,a⟩;rcases VF.1 hy with hy|hy;exact .inl ⟨y,hy,a⟩;simp at hy;subst hy;exact .inr a
def iw(c:af):af:=jf c c.length
theorem rG(c:af)(x:Int):x∈iw c↔∃y∈c,x=bG (-y):=by
 have:=sI c x c.length (Vu _)
 rwa [VX]at this
def AllNeg(D:DK)(L:af):Prop:=∀y∈L,aQ y 6=0∧∃j,∃hj:j<D.t.rows.length,D.t.rows[j].l=-y
def rj(D:DK)(j:Nat):Int:=rea D.T (D.T.lits.getD j 0)
theorem iO{t:RT}{j:Nat}(hj:j<t.rows.length):t.rows[j].l∈eK t:=VB.2 ⟨_,Vx hj,rfl⟩
def IN(s:NS)(i:Nat):bJ:=(List.range i).filter λj=>aR s.at' j
theorem Lt(s:NS)(i:Nat):IN s (i+1)=if aR s.at' i=true then IN s i++[i]else IN s i:=by
 unfold IN;rw[Y5,WT];by_cases c:aR s.at' i=true;rw[Vt c,Wl,Vt c];rfl;rw[Vs c,Wl,Vs c];simp
theorem zX(s:NS)(i j:Nat):j∈IN s i↔j<i∧aR s.at' j=true:=by
 unfold IN;rw[V9,WN]
structure CInv (D:DK) (L:af) (s:NS) (l:af) (js:bJ):Prop where
  sub:∀x∈l,x∈eK D.t
  neg:∀y∈L,-y∈l
  don:∀j (hj:j<D.t.rows.length),aR s.at' j=true->j∉js->D.t.rows[j].l∈l
  todo:∀j∈js,∃hj:j<D.t.rows.length,aR s.at' j=true∧D.t.rows[j].l∉l
  inc:js.Pairwise (·<·)
def IP(l h:af):af×Bool×Int:=if ve l h=-1 then(l,true,0)else if(dz l h).2=true then(l++[(dz l h).1],false,0)else([],false,22)
theorem om(hs:au){i:Nat}(h:i<hs.length):∀h',(hs.map aF)[i]'h'=[.seq false 1 (am hs[i])]:=λh'=>by simp[aF]
def Lu(c:af):Bool:=c.any λx=>decide (bH x<0)
def mW(c:af):Int:=if Lu c=true then 10 else if gN c=true then 11 else 0
def Lv(c:af):af:=if mW c=0 then iw c else[]
theorem rH(c:af):∀i,(jf c i).length<=i
 |0=>Vu _
 |i+1=>by
  have:=rH c i;rw[jf];split;omega;simp;omega
def pu(c:af)(hs:au):Nat×Int:=if mW c=0 then((gg (iw c) hs 0).2.1,(gg (iw c) hs 0).2.2)else(0,mW c)
section
def mX(l:af)(x:Int):Int:=if x∈l then 1 else if bG (-x)∈l then-1 else 0
theorem zY(l:af)(x:Int):(0<(lk (cZ l l.length) x).getD 0)=(x∈l):=by
 have:=vB l x l.length (Vu _);rw[VX]at this;unfold aR at this;rw[VI]at this;exact propext this
def pw(n:Nat):PV:=.fn (.func 200) [] [.ptr n 0]
theorem qw(l:af)(x:Int):aw prog 200 [ak x,.iptr 1 [[.amap false (aL fI (cZ l l.length))]] 0 0] (λr=>r=.pv (ak (mX l x))):=by
 refine aB aP func200 ?_;unfold mX;by_cases c1:x∈l;simp[zY,c1];by_cases c2:bG (-x)∈l;simp[zY,c1,c2];simp[zY,c1,c2]
theorem sJ(h:ao)(l:af)(g:l.length<=1000000):aI prog 120 [.seq false 1 (am l)] h (λr h'=>h'=h++[[.omap true (aL fI (cZ l l.length))]]∧r=.pv (pw h.length)):=by
 refine aI.below (by kernel_rfl) λf=>?_;refine dh [] [.tmp 2] aP func120 ?_;simp;refine aM.intro (S:=λ(i:Nat)=>⟨[(3,.pv (.ptr h.length 0)),(9,.pv (.seq false 1 (am l))),(10,.pv (ak l.length)),(11,.pv (ak i))],h++[[.omap true (aL fI (cZ l i))]]⟩) (λi=>i<=l.length) (λi=>l.length -i) 0 ?_ (VH _) ?_;exact av.keep (by simp) (by simp[cZ]);intro i hi;by_cases c:i<l.length;have d:=dU i;have b:l.getD i 0=l[i]:=by simp[c]
 have hs:cZ l (i+1)=pt (cZ l i) l[i] ((lk (cZ l i) l[i]).getD 0+1):=by rw[cZ,b]
 have e:=rF l i l[i];have a:bG ((lk (cZ l i) l[i]).getD 0+1)=(lk (cZ l i) l[i]).getD 0+1:=aC (by omega) (by omega);simp[c];exact⟨i+1,by(try dsimp only);omega,by(try dsimp only);omega,av.keep (by simp[d]) (by simp[a,hs])⟩;have:i=l.length:=by omega
 subst this;simp[pw]
theorem sK(l:af)(x:Int)(h:dF x=true):ca l x=mX l x:=by
 unfold ca mX;rw[Vs (by rw[u6];simp[h])]
theorem BR(l:af)(x:Int)(h:dF x=false):ca l x=0:=by
 unfold ca;rw[Vt (by rw[u6];exact h)]
theorem xW(l c:af)(m:l.length<=1000000)(o:c.length<=1000000):aw prog 328 [.seq false 1 (am l),.seq false 1 (am c)] (λr=>r=.pv (.agg [ak (Aw l c).1,ak (Aw l c).2.1,ak (Aw l c).2.2])):=by
 refine Qo aP func328 ?_;have n:=λh=>sJ h l m;simp;refine ap.introM (n _) ?_;rintro _ _ ⟨rfl,rfl⟩;simp[pw];refine aM.intro (S:=λ(i:Nat)=>⟨[(4,.pv (.ptr 0 0)),(5,.pv (pw 1)),(6,.pv (.ptr 2 0)),(11,.pv (.seq false 1 (am c))),(12,.pv (ak c.length)),(13,.pv (ak i))],[[.pv (ak 0),.pv (ak 0),.pv (ak 0)],[.omap true (aL fI (cZ l l.length))],[.pv (ak ((c.take i).foldl (Dc l) (0,0,0)).1),.pv (ak ((c.take i).foldl (Dc l) (0,0,0)).2.1),.pv (ak ((c.take i).foldl (Dc l) (0,0,0)).2.2)]]⟩) (λi=>i<=c.length) (λi=>c.length -i) 0 ?_ (VH _) ?_;exact av.keep (by simp[pw]) (by simp);intro i hi;by_cases h:i<c.length;have g:=dU i;have a:=bf (Dc l) (0,0,0) c i h;generalize(c.take i).foldl (Dc l) (0,0,0)=t at a⊢;obtain⟨x,y,z⟩:=t;have f:Dc l (x,y,z) c[i]=if ca l c[i]=1 then(bG (x+1),y,z)else if ca l c[i]=-1 then(x,bG (y+1),z)else if 0<=bH c[i]then(x,y,bG (z+1))else(x,y,z):=rfl;have k:=qw l c[i];simp[h,pw];refine ap.intro (aX c[i]) ?_;cases ho:dF c[i];have hz:aq c[i]=0:=by rw[lS];exact ho
 have hx:¬0<=bH c[i]:=by rw[il];simp[ho]
 rw[BR l _ ho,Vs (by decide),Vs (by decide),Vs hx]at f;rw[f]at a;simp[hz];exact⟨i+1,by(try dsimp only);omega,by(try dsimp only);omega,av.keep (by simp[g,pw]) (by simp[a])⟩;have hz:aq c[i]≠0:=λe=>by rw[lS]at e;rw[ho]at e;cases e
 have hx:0<=bH c[i]:=by rw[il];exact ho
 rw[sK l _ ho,Vt hx]at f;rw[f]at a;simp[hz,bE];refine ay.introP k ?_;by_cases b:mX l c[i]=1;rw[Vt b]at a;simp[b];exact⟨i+1,by(try dsimp only);omega,by(try dsimp only);omega,av.keep (by simp[g,pw]) (by simp[a])⟩;rw[Vs b]at a;by_cases d:mX l c[i]=-1;rw[Vt d]at a;simp[d];exact⟨i+1,by(try dsimp only);omega,by(try dsimp only);omega,av.keep (by simp[g,pw]) (by simp[a])⟩;rw[Vs d]at a;simp[b,d];exact⟨i+1,by(try dsimp only);omega,by(try dsimp only);omega,av.keep (by simp[g,pw]) (by simp[a])⟩;have j:i=c.length:=by omega
 subst j;simp[Aw]
theorem Lw(l:af):∀(c:af)(n:Int),n<=1->c.foldl (BA l) n<=1∧(1<=c.foldl (BA l) n↔n=1∨∃y∈c,ca l y=1)
 |[],n,h=>by simp;omega
 |y::c,n,h=>by
  have b:=iN l y;have hx:ca l y=1->0<=bH y:=λe=>by
   unfold ca at e;split at e;omega;omega
  rw[Yl];have hle:BA l n y<=1:=by unfold BA;split<;>omega
  obtain⟨a,g2⟩:=Lw l c (BA l n y) hle;refine⟨a,?_⟩;rw[g2];constructor;rintro(e|⟨z,hz,e⟩);unfold BA at e;split at e;exact .inr ⟨y,VN,e⟩;exact .inl e;exact .inr ⟨z,VG _ hz,e⟩;rintro(e|⟨z,hz,e⟩);left;unfold BA;rw[Vs (by omega)];exact e;rcases VU.1 hz with rfl|hz;left;unfold BA;split;exact e;rename_i hn;have:=hx e;omega;exact .inr ⟨z,hz,e⟩
theorem P8{l c:af}(a:c.length<=1000000):Aw l c=((je l c 1:Int),(je l c (-1):Int),((ft l c).length:Int)):=by
 have:=oh l c 0 0 0 (by omega) (by omega) (by omega);simp only[Wr]at this;exact this
theorem QO{l c:af}(j:c.length<=1000000):ve l c=if 0<(Aw l c).1 then 1 else if 0<(Aw l c).2.2 then 0 else-1:=by
 rw[P8 j];obtain⟨h1,g⟩:=Lw l c (-1) (by omega);have a:=oi (l:=l) (c:=c);have m:=(vu l c (-1) (by omega)).1;have d:je l c 1=0↔∀y∈c,ca l y≠1:=by
  unfold je;rw[WA,Xa];simp
 have f:(ft l c).length=0↔∀y∈c,0<=bH y->ca l y=1∨ca l y=-1:=by
  unfold ft;rw[WA,Xa];constructor;intro h y hy hx;have:=h y hy;have i:=iN l y;simp only[VI,not_and,ZZ]at this;rcases i with e|e|e;exact .inr (this hx (by omega));exact .inl e;exact .inr e;intro h y hy;simp only[VI,not_and,ZZ];intro hx hn;rcases h y hy hx with e|e;exact absurd e hn;exact e
 unfold ve at a⊢;split;rename_i c1;have:¬je l c 1=0:=by omega
 rw[d]at this;have:∃y∈c,ca l y=1:=V0 λhn=>this λy hy e=>hn ⟨y,hy,e⟩;have:=g.2 (.inr this);omega;rename_i c1;have hz:je l c 1=0:=by omega
 rw[d]at hz;have k:¬1<=List.foldl (BA l) (-1) c:=λb=>by
  rcases g.1 b with e|⟨y,hy,e⟩;omega;exact hz y hy e
 dsimp only;split;rename_i c2;have:¬List.foldl (BA l) (-1) c=-1:=λe=>by
  have b:=a.1 e;have:(ft l c).length=0:=f.2 λy hy hx=>.inr (b y hy hx);omega
 omega;rename_i c2;have ho:(ft l c).length=0:=by omega
 rw[f]at ho;exact a.2 λy hy hx=>(ho y hy hx).resolve_left (hz y hy)
theorem Ep(l c:af)(d:l.length<=1000000)(b:c.length<=1000000):aw prog 315 [.seq false 1 (am l),.seq false 1 (am c)] (λr=>r=.pv (ak (ve l c))):=by
 refine aB aP func315 ?_;have hn:=xW l c d b;have a:=QO (l:=l) b;generalize ve l c=C at*;generalize Aw l c=t at*;obtain⟨x,y,z⟩:=t;simp only at a hn;simp;refine ap.intro hn ?_;by_cases c1:0<x;rw[Vt c1]at a;simp[c1,a];rw[Vs c1]at a;by_cases c2:0<z;rw[Vt c2]at a;simp[c1,c2,a];rw[Vs c2]at a;simp[c1,c2,a]
theorem OU{l:af}{y:Int}:(decide (0<=bH y∧ca l y≠1∧ca l y≠-1))=(decide (0<aq y)&&decide (mX l y=0)):=by
 cases ho:dF y;have h1:¬0<=bH y:=by rw[il];simp[ho]
 have a:¬0<aq y:=by rw[oc];simp[ho]
 simp[h1,a];have h1:0<=bH y:=by rw[il];exact ho
 have a:0<aq y:=by rw[oc];exact ho
 rw[sK l y ho];have:mX l y=1∨mX l y=-1∨mX l y=0:=by unfold mX;split<;>(try split)<;>simp
 simp only[h1,a,aav,decide_true,Yd,Z5];omega
theorem Lx(l:af)(x:Int):aw prog 329 [ak x,.iptr 1 [[.fn (.func 200) [] [.iptr 1 [[.amap false (aL fI (cZ l l.length))]] 0 0]]] 0 0] (λr=>r=.pv (BL (decide (0<aq x)&&decide (mX l x=0)))):=by
 refine aB aP func329 ?_;have a:=qw l x;simp;refine ap.intro (aX x) ?_;by_cases c1:0<aq x;simp[c1];refine bz.intro (λ_=>a) ?_;simp;simp[c1];refine bz.intro (r:=.pv (ak 0)) (λh:False=>h.elim) ?_;simp
theorem OV{l c:af}(m:c.length<=1000000):((Aw l c).1<=0∧(Aw l c).2.2=1->∃i,∃hi:i<c.length,gD (λx=>decide (0<aq x)&&decide (mX l x=0)) c=(i:Int)∧dz l c=(c[i],true))∧(¬((Aw l c).1<=0∧(Aw l c).2.2=1)->dz l c=(0,false)):=by
 have a:=P8 (l:=l) m;constructor;rintro⟨h1,d⟩;have j:dz l c=(c.foldl (OE l) 0,true):=by
  unfold dz;rw[Vs];rw[a]at h1 d⊢;simp only at h1 d⊢;omega
 rw[a]at d;simp only at d;obtain⟨u,b⟩:=XQ.1 (show(ft l c).length=1 by omega);rw[vt,b]at j;have f:∀y,y∈ft l c↔y∈c∧(decide (0<aq y)&&decide (mX l y=0))=true:=λy=>by
  unfold ft;rw[V9,OU]
 rw[b]at f;have hx:=(f u).1 (VY.2 rfl);unfold gD;cases e:c.findIdx? (λx=>decide (0<aq x)&&decide (mX l x=0))with
 |none=>
  rw[Yk]at e;have:=e u hx.1;rw[this]at hx;cases hx.2
 |some i=>
  rw[Xk]at e;obtain⟨g,k,_⟩:=e;refine⟨i,g,rfl,?_⟩;have:=(f c[i]).2 ⟨Vx g,k⟩;rw[VY]at this;rw[this];exact j
 intro h;unfold dz;rw[Vt];rw[a]at h⊢;simp only at h⊢;omega
theorem Ly(l c:af)(g:l.length<=1000000)(e:c.length<=1000000):aw prog 316 [.seq false 1 (am l),.seq false 1 (am c)] (λr=>r=.pv (.tup [ak (dz l c).1,BL (dz l c).2])):=by
 refine sx [4,5] aP func316 (λ_ _=>results_tmp2 rfl _ _ _) ?_;have hn:=xW l c g e;have n:=λh=>sJ h l g;have f:=lQ c e 329 [.iptr 1 [[.fn (.func 200) [] [.iptr 1 [[.amap false (aL fI (cZ l l.length))]] 0 0]]] 0 0] (λx=>decide (0<aq x)&&decide (mX l x=0)) (λr=>by simp) rfl (λk=>by simp) (λx _=>Lx l x);obtain⟨d,b⟩:=OV (l:=l) e;generalize dz l c=U at*;generalize Aw l c=t at*;obtain⟨x,y,z⟩:=t;simp only at hn d b;simp;refine ap.intro hn ?_;by_cases c1:x<=0;rotate_left;have a:0<x:=by omega
 rw[b (λh=>c1 h.1)];simp[c1,a];have a:¬0<x:=by omega
 by_cases c2:z=1;rotate_left;rw[b (λh=>c2 h.2)];simp[c1,a,c2];obtain⟨i,hi,j,m⟩:=d ⟨c1,c2⟩;rw[j]at f;rw[m];simp[c1,a,c2];refine ap.introM (n _) ?_;rintro _ _ ⟨rfl,rfl⟩;simp[pw,bE];refine⟨rfl,ap.intro f ?_⟩;simp[hi]
end
def nc(T:Tr):Tr:=⟨T.marks.set (aq (T.lits.getD (T.lits.length -1) 0)).toNat ⟨0,0,0,0⟩,T.lits.take (T.lits.length -1),T.beg⟩
def popN(T:Tr):Nat->Tr
 |0=>T
 |j+1=>nc (popN T j)
def dt(T:Tr)(k:Nat):Tr:=⟨(popN T (T.lits.length -(T.beg.getD k 0).toNat)).marks,(popN T (T.lits.length -(T.beg.getD k 0).toNat)).lits,T.beg.take k⟩
theorem Fg(h:ao)(n b:Nat)(T:Tr)(hn:h[n]?=some [.pv (.ptr b 0)])(s:h[b]?=some (iI T))(h0:T.lits≠[])(hs:T.lits.length<=1000000)(D:∀y∈T.lits,0<=aq y∧aq y<T.marks.length):
 aI prog 265 [.ptr n 0] h (λr h'=>h'=h.set b (iI (nc T))∧r=.pv (ak (T.lits.getD (T.lits.length -1) 0))):=by
 refine ea [] [.tmp 1] (h.set b (iI (nc T))) (by simp) (λd=>by rw[VQ];exact b9 (j9 _ _) b d) aP func265 ?_;obtain⟨p,k⟩:=Vp.1 s;obtain⟨g,q⟩:=Vp.1 hn;obtain⟨m,B⟩:∃m,T.lits.length=m+1:=⟨T.lits.length -1,by have:=WJ.2 h0;omega⟩;have a:m<T.lits.length:=by omega
 have C:bG ((T.lits.length:Int) -1)=(m:Int):=by rw[aC (by omega) (by omega)];omega
 have A:T.lits.getD (T.lits.length -1) 0=T.lits[m]:=by rw[B,Yo,Vr,Vq a];rfl
 rw[A];have w:n≠b:=λe=>by subst e;rw[hn]at s;simp[iI]at s
 have t:∀x,(h.set b x)[n]?=some [.pv (.ptr b 0)]:=λx=>by rw[VL (Yg w)];exact hn
 have c:∀x d,(h.set b x)[n]'d=[.pv (.ptr b 0)]:=λx d=>by have:=t x;rw[Vq d]at this;exact Yb this
 have l:∀x d,(h.set b x)[b]'d=x:=λx d=>by simp
 obtain⟨E,F⟩:=D _ (Vx a);have j:=aX T.lits[m];obtain⟨i,hi⟩:∃i:Nat,aq T.lits[m]=(i:Int):=⟨(aq T.lits[m]).toNat,by omega⟩;have u:i<T.marks.length:=by omega
 have v:(T.marks.map sa).set i [ak 0,ak 0,ak 0,ak 0]=(T.marks.set i ⟨0,0,0,0⟩).map sa:=by rw[Zn];rfl
 have f:(am T.lits).take m=am (T.lits.take m):=by unfold am;rw[Xn]
 have z:nc T=⟨T.marks.set i ⟨0,0,0,0⟩,T.lits.take m,T.beg⟩:=by unfold nc;rw[A,hi,WH,B,Yo]
 have o:m<=T.lits.length:=by omega
 rw[z];rw[hi]at j;simp[k,q,p,g,iI,C,c,l,a,o,f];refine bW.intro j ?_;simp[k,q,p,g,iI,C,c,l,a,o,f,u,v];rw[VT (by simp)];simp[sa]
theorem Jh(h:ao)(b:Nat):
 aI prog 211 [.ptr b 0] h (λr h'=>h'=h++[[.pv (.ptr b 0)]]∧r=.pv (.fn (.func 265) [] [.ptr h.length 0])):=by
 refine dh [] [.tmp 2] aP func211 ?_;simp
theorem wm(T:Tr):∀j,(popN T j).beg=T.beg
 |0=>rfl
 |j+1=>wm T j
theorem G6(T:Tr):∀j,(popN T j).marks.length=T.marks.length
 |0=>rfl
 |j+1=>by rw[popN];unfold nc;rw[VQ];exact G6 T j
theorem fj(T:Tr):∀j,(popN T j).lits=T.lits.take (T.lits.length -j)
 |0=>by rw[popN,ZB,VX]
 |j+1=>by
  rw[popN];unfold nc;simp only;rw[fj T j,aal,Vy,show min (min (T.lits.length -j) T.lits.length -1) (T.lits.length -j)=T.lits.length -(j+1) by omega]
def wn(T:Tr):Nat->af
 |0=>[]
 |j+1=>wn T j++[(popN T j).lits.getD ((popN T j).lits.length -1) 0]
theorem wo(T:Tr):∀j,(wn T j).length=j
 |0=>rfl
 |j+1=>by rw[wn,Vz,wo T j];rfl
theorem CC{zs:af}(hs:zs.Pairwise (·<=·)):∀j,j<=zs.length->(bc zs j).Pairwise (·<·)∧∀x,x∈bc zs j↔x∈zs.take j
 |0,_=>⟨by simp[bc],λx=>by simp[bc]⟩
 |j+1,h=>by
  obtain⟨h1,b⟩:=CC hs j (by omega);have f:zs.getD j 0=zs[j]:=by simp[show j<zs.length by omega]
  rw[bc,f,Wj,Vq (by omega),W6];have hp:=V5.1 hs;by_cases d:j=0∨zs[j]≠zs.getD (j -1) 0;rw[Vt d];refine⟨Yt.2 ⟨h1,by simp,λy hy z hz=>?_⟩,λx=>by rw[VF,VF,b]⟩;rw[VY]at hz;subst hz;obtain⟨k,hk,rfl⟩:=VE ((b y).1 hy);rw[Vy]at hk;rw[WE];rcases d with rfl|d;omega;have a:zs.getD (j -1) 0=zs[j -1]:=by simp[show j -1<zs.length by omega]
  rw[a]at d;have i:zs[k]<=zs[j -1]:=by
   by_cases e:k=j -1;subst e;exact XF _;exact hp k (j -1) (by omega) (by omega) (by omega)
  have l:zs[j -1]<=zs[j]:=hp (j -1) j (by omega) (by omega) (by omega);omega;rw[Vs d];refine⟨h1,λx=>?_⟩;rw[b,VF,VY];refine⟨.inl,λhx=>hx.elim id λe=>?_⟩;have hj:j≠0:=λe=>d (.inl e);have a:zs.getD (j -1) 0=zs[j -1]:=by simp[show j -1<zs.length by omega]
  have c:zs[j]=zs[j -1]:=V0 λg=>d (.inr (by rw[a];exact g));rw[e,c];exact WO.2 ⟨j -1,by omega,rfl⟩
theorem CD(l:af):(cY (eJ l)).Pairwise (·<·)∧∀x,x∈cY (eJ l)↔x∈l:=by
 obtain⟨h1,a⟩:=CC (zS l) (eJ l).length (Vu _);refine⟨h1,λx=>?_⟩;rw[VX]at a;refine(a x).trans ?_;unfold eJ;exact(Xu _ _).mem_iff
theorem Hl{T:Tr}{L:af}{u:Int}{r:af}(e:L=u::r)(w:∀y∈L,df T y≠0)(hp:∀y∈L,0<eU T y)(m:∀y∈r,eU T y<eU T u):
 0<=gi T L∧gi T L<eU T u∧∀y∈r,eU T y<=gi T L:=by
 have h:gQ T L L.length=L.map (eU T):=by
  unfold gQ;rw[VX,WU.2 (λy hy=>by simpa using w y hy)]
 obtain⟨h1,b⟩:=CD (L.map (eU T));unfold gi Lp;rw[h];have t:eU T u∈cY (eJ (L.map (eU T))):=(b _).2 (VB.2 ⟨u,by rw[e];exact VN,rfl⟩);have p:∀y∈r,eU T y∈cY (eJ (L.map (eU T))):=λy hy=>(b _).2 (VB.2 ⟨y,by rw[e];exact VG _ hy,rfl⟩);have o:∀x∈cY (eJ (L.map (eU T))),0<x∧x<=eU T u:=λx hx=>by
  obtain⟨y,hy,rfl⟩:=VB.1 ((b x).1 hx);refine⟨hp y hy,?_⟩;rw[e]at hy;rcases VU.1 hy with rfl|hy;exact XF _;have:=m y hy;omega
 generalize cY (eJ (L.map (eU T)))=C at*;have a:=V5.1 h1;obtain⟨i,hi,v⟩:=VE t;have f:i=C.length -1:=by
  refine V0 λk=>?_;have:=a i (C.length -1) hi (by omega) (by omega);have:=(o _ (Vx (show C.length -1<C.length by omega))).2;omega
 have l:=hp u (by rw[e];exact VN);split;rename_i g;refine⟨XF _,l,λy hy=>?_⟩;obtain⟨j,hj,n⟩:=VE (p y hy);have d:j=i:=by omega
 subst d;have:=m y hy;omega;rename_i g;have c:C.getD (C.length -2) 0=C[C.length -2]:=by rw[Vr,Vq (by omega)];rfl
 rw[c];have s:=o _ (Vx (show C.length -2<C.length by omega));refine⟨by omega,?_,λy hy=>?_⟩;have:=a (C.length -2) i (by omega) hi (by omega);omega;obtain⟨j,hj,n⟩:=VE (p y hy);have k:j≠i:=λe=>by subst e;have:=m y hy;omega
 by_cases q:j=C.length -2;subst q;omega;have:=a j (C.length -2) hj (by omega) (by omega);omega
theorem Jr{A:Ar}{T:Tr}{R S:af}(h:∀x∈R,HOk A T S x){y:Int}(hy:HOk A T R y):HOk A T S y:=by
 induction hy with
 |stop d=>exact h _ d
 |why a b c _ e=>exact .why a b c e
theorem Pt(A:Ar)(T:Tr)(L:af):(sF A T L).Sublist L:=Lg A T L
theorem Nb(A:Ar)(T:Tr)(u:Int)(r:af):∃a,sF A T (u::r)=u::a∧∀y∈a,y∈r:=by
 refine⟨bq (jd A T (u::r)) r,by unfold sF;rfl,λy hy=>?_⟩;unfold bq at hy;exact(V9.1 hy).1
theorem back_mem{T:Tr}{L:af}{u:Int}{r:af}(e:L=u::r)(d:∀y∈L,df T y≠0)(hp:∀y∈L,0<eU T y)(h:∀y∈r,eU T y<eU T u):
 gi T L=0∨∃y∈r,gi T L=eU T y:=by
 obtain⟨_,b1,_⟩:=Hl e d hp h;have b:gQ T L L.length=L.map (eU T):=by
  unfold gQ;rw[VX,WU.2 (λy hy=>by simpa using d y hy)]
 obtain⟨_,g⟩:=CD (L.map (eU T));unfold gi Lp at b1⊢;rw[b]at b1⊢;split at b1;rename_i c;rw[Vt c];exact .inl rfl;rename_i c;rw[Vs c];right;generalize i:cY (eJ (L.map (eU T)))=C at*;have a:C.getD (C.length -2) 0=C[C.length -2]:=by rw[Vr,Vq (by omega)];rfl
 rw[a]at b1⊢;obtain⟨y,hy,f⟩:=VB.1 ((g _).1 (Vx (show C.length -2<C.length by omega)));refine⟨y,?_,f.symm⟩;rw[e]at hy;rcases VU.1 hy with rfl|hy;omega;exact hy
theorem ng{m:dC}{x:Int}(h:m8 m x=true):dF x=true∧0<=bH x:=by
 have hk:dF x=true:=by
  rw[bO];unfold m8 at h;simp only[VC,VI]at h;have h1:=h.1;unfold fU at h1;split at h1;omega;split at h1;omega;exact absurd rfl h1
 refine⟨hk,?_⟩;have:=(bO x).1 hk;unfold bH gr;rw[Vt hk];split<;>omega
theorem Nc{m:dC}{x:Int}(h:m8 m x=true):m8 m (-x)=false:=by
 obtain⟨hk,_⟩:=ng h;have b:=(bO x).1 hk;unfold m8 fU at*;by_cases c:0<x;rw[Vt (by omega)]at h;rw[Vs (by omega),Vt (by omega)];simp only[XI]at h⊢
 revert h
 cases a:(decide (x<=(m.length:Int))&&m.getD (x -1).toNat false)<;>simp;rw[Vs (by omega),Vt (by omega)]at h;rw[Vt (by omega)];simp only at h⊢
 revert h
 cases a:(decide (-x<=(m.length:Int))&&m.getD (-x -1).toNat false)<;>simp
theorem Nd{m:dC}{x:Int}(hk:dF x=true)(h:m8 m x=false):m8 m (-x)=true:=by
 have b:=(bO x).1 hk;unfold m8 fU at*;by_cases c:0<x;rw[Vt (by omega)]at h;rw[Vs (by omega),Vt (by omega)];simp only[XI]at h⊢
 revert h
 have:x≠0:=by omega
 cases a:(decide (x<=(m.length:Int))&&m.getD (x -1).toNat false)<;>simp[this];rw[Vs (by omega),Vt (by omega)]at h;rw[Vt (by omega)];simp only at h⊢
 revert h
 have:-x≠0:=by omega
 cases a:(decide (-x<=(m.length:Int))&&m.getD (-x -1).toNat false)<;>simp[this]
theorem Pu{l:af}{x:Int}(h:ca l x=-1):bG (-x)∈l:=by
 unfold ca at h;split at h;omega;split at h;omega;split at h;assumption;omega
theorem Hm{m:dC}{l:af}(a:∀y∈l,m8 m y=true){x:Int}(hx:m8 m x=true):ca l x≠-1:=λe=>by
 have h1:=Pu e;obtain⟨hk,_⟩:=ng hx;have b:=(bO x).1 hk;rw[aC (by omega) (by omega)]at h1;have:=a _ h1;rw[Nc hx]at this;cases this
theorem Fo{m:dC}{l c:af}(o:c.length<=1000000)(n:∀y∈l,m8 m y=true)(k:dP c m=true)(f:(dz l c).2=true):m8 m (dz l c).1=true:=by
 obtain⟨y,hy,a⟩:=XS.1 k;have j:=oh l c 0 0 0 (by omega) (by omega) (by omega);have h:Aw l c=(((0+je l c 1:Nat):Int),((0+je l c (-1):Nat):Int),((0+(ft l c).length:Nat):Int)):=j;have h0:je l c 1=0∧(ft l c).length=1∧(dz l c).1=c.foldl (OE l) 0:=by
  unfold dz at f⊢;rw[h]at f⊢;split at f;cases f;rename_i hn;rw[Vs hn];simp only[ne_eq,aac,Decidable.not_not]at hn;exact⟨by omega,by omega,rfl⟩
 obtain⟨g,i,a3⟩:=h0;obtain⟨u,b⟩:∃u,ft l c=[u]:=XQ.1 i;rw[vt,b]at a3;have d:y∈ft l c:=by
  unfold ft;rw[V9];refine⟨hy,?_⟩;rw[VI];refine⟨(ng a).2,λe=>?_,Hm n a⟩;unfold je at g;rw[WA,Xa]at g;exact g y hy (by simpa using e)
 rw[b,VY]at d;rw[a3,←d];exact a
theorem yC{m:dC}:∀(hs:au)(l:af)(n:Nat),(∀c∈hs,c.length<=1000000)->(∀y∈l,m8 m y=true)->(∀c∈hs,dP c m=true)->(gg l hs n).2.2=0->False
 |[],l,n,_,_,_,h=>by simp[gg]at h
 |c::hs,l,n,f,e,d,h=>by
  rw[gg]at h;split at h;rename_i h1;obtain⟨y,hy,b⟩:=XS.1 (d c VN);exact Hm e b (oi.1 h1 y hy (ng b).2);split at h;rename_i g;have i:=Fo (f c VN) e (d c VN) g;refine yC hs _ _ (λc a=>f c (VG _ a)) (λy hy=>?_) (λc a=>d c (VG _ a)) h;rcases VF.1 hy with hy|hy;exact e y hy;rw[VY]at hy;rw[hy];exact i;simp at h
section
theorem Q8(k m:Nat)(h:2^k*(2*m+1)<=1000000000):bits .and IntKind.i64 ((2^k*(2*m+1):Nat):Int) (-((2^k*(2*m+1):Nat):Int))=((2^k:Nat):Int):=by
 have e:=Lib.and_neg 64 k m (by omega);have hp:0<2^k*(2*m+1):=Nat.mul_pos (Nat.pow_pos (by omega)) (by omega);have hle:2^k<=2^k*(2*m+1):=Zq _ (by omega);generalize 2^k*(2*m+1)=a at*;have h1:(BitVec.ofInt 64 (a:Int)).toNat=a:=by
  rw[BitVec.ofInt_natCast,BitVec.toNat_ofNat];exact ZD (by omega)
 have b:(BitVec.ofInt 64 (-(a:Int))).toNat=2^64 -a:=by
  rw[BitVec.toNat_ofInt];omega
 show IntKind.i64.wrap ((BitVec.ofInt 64 (a:Int)&&&BitVec.ofInt 64 (-(a:Int))).toNat:Int)=_;rw[BitVec.toNat_and,h1,b,e,IntKind.wrap_i64];omega
def JJ(u v:Int):Prop:=∃k m:Nat,v=((2^k:Nat):Int)∧u=((2^k*(m+1):Nat):Int)
theorem JJ.pos{u v:Int}(h:JJ u v):1<=v∧v<=u:=by
 obtain⟨k,m,rfl,rfl⟩:=h;have:0<2^k:=Nat.pow_pos (by omega);have:=Zq (2^k) (show 0<m+1 by omega);omega
theorem JJ.more{u v:Int}(h:JJ u v)(d:u<=1000000000)(b:bits .and IntKind.i64 u (-u)≠v):JJ u (v*2):=by
 obtain⟨k,m,rfl,rfl⟩:=h;obtain⟨c,a⟩:∃c,m+1=2*c∨m+1=2*c+1:=⟨(m+1)/2,by omega⟩;rcases a with a|a;refine⟨k+1,c -1,by rw[aau];omega,?_⟩;rw[show c -1+1=c by omega,a,aau,Nat.mul_assoc];rw[a]at b d;exact absurd (Q8 k c (by omega)) b
theorem JJ.one{u:Int}(a:1<=u):JJ u 1:=⟨0,(u -1).toNat,rfl,by simp;omega⟩
theorem HB(h:ao)(g i:Nat)(u v:Int)(p:h[g]?=some [.pv (ak u)])(s:h[i]?=some [.pv (ak v)])(a:g≠i)(K:JJ u v)(q:u<=100000000):
 aI prog 266 [.ptr i 0,.ptr g 0] h (λr h'=>r=.pv (ak v)∧∃m o,h'=(h.set g [.pv (ak m)]).set i [.pv (ak o)]∧JJ m o∧m<=u+1):=by
 refine dh [] [.tmp 2] aP func266 ?_;obtain⟨d,b⟩:=Vp.1 p;obtain⟨e,f⟩:=Vp.1 s;obtain⟨t,w⟩:=K.pos;have j:=aC (n:=-u) (by omega) (by omega);have k:=aC (n:=u+1) (by omega) (by omega);have l:=aC (n:=v*2) (by omega) (by omega);simp[d,e,b,f,j];by_cases c:bits .and IntKind.i64 u (-u)=v;simp[c,d,e,b,f,k,a,a.symm];exact⟨u+1,1,rfl,JJ.one (by omega),XF _⟩;simp[c,d,e,b,f,l,a,a.symm];refine⟨u,v*2,?_,K.more (by omega) c,by omega⟩;rw[←b,Xs]
theorem Fz(h:ao):
 aI prog 214 [] h (λr h'=>h'=h++[[.pv (ak 1)],[.pv (ak 1)]]∧r=.pv (.fn (.func 266) [] [.ptr (h.length+1) 0,.ptr h.length 0])):=by
 refine dh [] [.tmp 0] aP func214 ?_;simp
theorem HC(c unit:Int)(m:0<=c∧c<=1000000)(o:1<=unit∧unit<=1000000):
 aw prog 135 [ak c,ak unit] (λr=>∃a:Int,r=.pv (ak a)∧c<a):=by
 refine aB aP func135 ?_;have c1:¬c<0:=by omega
 have c2:¬1000000<c:=by omega
 have c3:¬unit<1:=by omega
 have c4:¬1000000<unit:=by omega
 simp[c1,c2,c3,c4];refine ap.introM (Fz []) ?_;rintro _ _ ⟨rfl,rfl⟩;simp;refine ay.intro (HB [[.pv (ak 1)],[.pv (ak 1)]] 0 1 1 1 rfl rfl (by decide) (JJ.one (by omega)) (by omega)) ?_;rintro _ _ ⟨rfl,u,v,rfl,K,hk⟩;have e:=aC (n:=unit) (by omega) (by omega);simp[e];refine aM.intro (S:=λ(x:Int×Int×Int)=>⟨[(0,.pv (ak c)),(1,.pv (ak unit)),(5,.pv (.fn (.func 266) [] [.ptr 1 0,.ptr 0 0])),(6,.pv (ak x.1))],[[.pv (ak x.2.1)],[.pv (ak x.2.2)]]⟩)
  (λx=>1<=x.1∧x.2.1<=x.1+1∧JJ x.2.1 x.2.2) (λx=>(c+1 -x.1).toNat) (unit,u,v) ?_ ⟨by omega,by dsimp only;omega,K⟩ ?_
 exact av.keep (by simp) rfl;clear K hk u v;rintro⟨a,u,v⟩ ⟨h,b,K⟩;dsimp only at h b K;by_cases d:a<=c;obtain⟨p,q⟩:=K.pos;have i:0<unit*v:=Int.mul_pos (by omega) (by omega);have j:unit*v<=1000000*1000001:=Int.mul_le_mul (by omega) (by omega) (by omega) (by omega);have f:=aC (n:=unit*v) (by omega) (by omega);have g:=aC (n:=a+unit*v) (by omega) (by omega);simp[d];refine ay.intro (HB [[.pv (ak u)],[.pv (ak v)]] 0 1 u v rfl rfl (by decide) K (by omega)) ?_;rintro _ _ ⟨rfl,k,l,rfl,K',hk⟩;simp[f,g];exact⟨(a+unit*v,k,l),by dsimp only;omega,⟨by dsimp only;omega,by(try dsimp only);omega,K'⟩,av.keep (by simp) (by simp)⟩;simp[d];omega
end
end Go.AX
