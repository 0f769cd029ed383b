/-
  Contracts: solve: the unit, what tells a result; and what follows.
-/
import Derived.Test.YtepodadinenmnaaGreatZK
set_option linter.unusedSimpArgs false
namespace Go.AX
open Go.Proofs Go.Proofs.Tryz
def yJ(r:Int):Int:=if 1<(if 1000000<r then 1000000 else r)then(if 1000000<r then 1000000 else r)else 1
theorem NH(r:Int):1<=yJ r∧yJ r<=1000000:=by unfold yJ;split<;>split at*<;>omega
theorem NJ(rs kp a:Int):aw prog 30 [.agg [ak rs,ak kp,ak a]] (λr=>r=.pv (ak (yJ rs))):=by
 refine aB aP func30 ?_;simp[yJ]
section
variable {h : ao} {be bt ba bw bh b : Nat} {E : ES}
def kZ(k:Int)(c:Int)(m:PV)(pf:List Stp):PV:=.agg [ak k,ak c,m,if k=2 then .seq true 4 (pf.map fT)else .lit (.slice none 0 0)]
set_option maxRecDepth 16000 in
theorem oF(n:h[be]?=some (cE bt ba bw bh E))(l:h[b]?=some [.pv (.ptr be 0)])(k:Int)(m:PV)(p:m=.lit (.slice none 0 0)∨∃x:dC,m=.seq true 1 (fM x))(o:E.pf.length<=1000000)(hs:∀s∈E.pf,s.lits.length<=1000000∧s.hints.length<=1000000):
 aI prog 213 [ak k,m,.ptr b 0] h (λr h'=>h'=h∧r=.pv (kZ k E.many m E.pf)):=by
 refine aI.below (by kernel_rfl) λq=>?_;refine fJ [] [.cell 5 _] aP func213 ?_;obtain⟨e,f⟩:=Vp.1 l;have i:∀g,(h++g)[b]?=some [.pv (.ptr be 0)]:=λg=>by rw[Vv e,l]
 have a:∀g h',(h++g)[b]'h'=[.pv (.ptr be 0)]:=λg h'=>by rw[V6 e,f]
 have hle:=(Vp.1 n).1;have j:∀g,(h++g)[be]?=some (cE bt ba bw bh E):=λg=>by rw[Vv hle,n]
 have d:b<h.length+1:=by omega
 rcases p with rfl|⟨x,rfl⟩
 all_goals
  simp[e,f,i,a,d];refine ay.intro (pm (j _)) ?_;rintro _ _ ⟨rfl,rfl⟩;by_cases c:k=2;simp[e,f,i,a,d,c];refine ay.intro (Js (j _) o hs) ?_;rintro _ _ ⟨rfl,rfl⟩;simp[e,f,i,a,d,c,kZ,cr,bX];simp[e,f,i,a,d,c,kZ,cr,bX]
theorem FA(h:ao)(be:Nat):
 aI prog 134 [.ptr be 0] h (λr h'=>h'=h++[[.pv (.ptr be 0)]]∧r=.pv (.fn (.func 213) [] [.ptr h.length 0])):=by
 refine dh [] [.tmp 2] aP func134 ?_;simp
end
structure PlS where
  c:Ck
  steps:Int
  first:Int
  bad:Bool
  calm:Bool
  vars:Int
  beg:af
section
variable {h : ao} {bp be : Nat} {P : PlS}
end
theorem TMk.cons{n:Nat}{T:Tr}(h:TMk n T):Cons T.lits:=λ_ hy a=>h.one hy a
section
variable {n r s : Nat} {F : au} {l : List Rc} {E : ES}
end
def NK(c:af):Nat->Nat
 |0=>0
 |v+1=>3*NK c v+(if((v+1:Nat):Int)∈c then 1 else if-((v+1:Nat):Int)∈c then 2 else 0)
theorem HD(c:af):∀n,NK c n<3^n
 |0=>Nat.one_pos
 |n+1=>by
  have:=HD c n;rw[NK,aau];split;omega;split<;>omega
section
variable {n r s : Nat} {F : au} {l : List Rc} {E : ES}
structure Frs (n:Nat) (l:List Rc) (E:ES):Prop where
  nd:(E.pf.map λs=>NK s.lits n).Nodup
  inl:∀s∈E.pf,∃x∈bs 0 l,x.lits=s.lits
  tau:∀s∈E.pf,∀y∈s.lits,-y∉s.lits
  mn:E.many=E.pf.length
theorem Frs.le(f:Frs n l E):E.pf.length<=3^n:=by
 have h1:=eb (E.pf.map λs=>NK s.lits n) (List.range (3^n)) f.nd λx hx=>by
  obtain⟨s,_,rfl⟩:=VB.1 hx;exact WN.2 (HD _ _)
 simpa using h1
theorem Frs.same{E':ES}(f:Frs n l E)(a:E'.pf=E.pf)(b:E'.many=E.many):Frs n l E':=⟨by rw[a];exact f.nd,by rw[a];exact f.inl,by rw[a];exact f.tau,by rw[a,b];exact f.mn⟩
theorem TOk.fullv{T:Tr}(h:TOk n T)(d:T.lits.length=n){v:Int}(h1:1<=v)(a:v<=n):v∈T.lits.map aq:=by
 apply V0;intro c;have b:=eb (v::T.lits.map aq) ((List.range n).map λi:Nat=>((i+1:Nat):Int)) (Xj.2 ⟨c,h.nd⟩) λx hx=>by
  have key:1<=x∧x<=n:=by
   rcases VU.1 hx with rfl|hx;exact⟨h1,a⟩;obtain⟨z,hz,rfl⟩:=VB.1 hx;obtain⟨_,_,_,e,f,_⟩:=cC h.hn (h.chk z hz);omega
  exact VB.2 ⟨(x -1).toNat,WN.2 (by omega),by omega⟩
 simp at b;omega
theorem PF{T:af}{y:Int}(hn:n<=100000)(hy:aQ y n=0)(f:Cons T)(d:y∈T):m8 (kY T n) y=true:=by
 have h1:=hy;have a:y≠0∧-(n:Int)<=y∧y<=n:=by
  unfold aQ at h1;rw[Vs (by omega)]at h1;split at h1;rename_i q;unfold uY at q;simpa using q;cases h1
 have c:(kY T n).length=n:=by simp[kY]
 have b:∀i:Nat,i<n->(kY T n).getD i false=decide ((i:Int)+1∈T):=λi hi=>by simp[kY,hi]
 unfold m8;by_cases p:0<y;have e:fU y=(y,true):=by unfold fU;rw[Vt ⟨p,by omega⟩]
 have hi:=b (y -1).toNat (by omega);rw[show(((y -1).toNat:Nat):Int)+1=y by omega,WP d]at hi;rw[e,c];dsimp only;rw[hi,WP a.1,WP a.2.2];rfl;have e:fU y=(-y,false):=by unfold fU;rw[Vs (by omega),Vt (by omega)]
 have hi:=b (-y -1).toNat (by omega);rw[show(((-y -1).toNat:Nat):Int)+1=-y by omega,W7 (f y d)]at hi;rw[e,c];dsimp only;rw[hi,WP (show-y≠0 by omega),WP (show-y<=(n:Int) by omega)];rfl
theorem EI.model(h:EI n F r s l E)(ho:E.over=false)(i:E.calm=true)(j:E.T.lits.length=n)(k:∀d∈E.cs,d∈rC l):CV E n=true:=by
 have m:=h.n9;have b:=h.tok.toTMk.cons;unfold CV;rw[ho,WP (h.calmc i),WP j];simp only[aam,Yd,VI];intro d hd;obtain⟨x,hx,rfl⟩:=VB.1 (k d hd);have a:=(h.cls x hx).2.2;have key:∃y∈x.lits,y∈E.T.lits:=by
  rcases h.cal i x hx with⟨y,hy,c⟩|⟨y,z,hy,_,_,c,_⟩;exact⟨y,hy,c⟩;obtain⟨_,_,_,o,p,_⟩:=cC h.tok.hn (a y hy);obtain⟨w,g,e⟩:=VB.1 (h.tok.fullv j (v:=aq y) (by omega) (by omega));rcases(oA h.tok.hn (h.tok.chk w g) (a y hy)).1 e with f|f;exact⟨y,hy,f▸g⟩;exact absurd (f▸g) c
 obtain⟨y,hy,c⟩:=key;exact XS.2 ⟨y,hy,PF (by omega) (a y hy) b c⟩
end
end Go.AX
