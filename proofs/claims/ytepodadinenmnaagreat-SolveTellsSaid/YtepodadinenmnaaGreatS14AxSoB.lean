/-
  Contracts: solve: the unit, what tells a result; and what follows.
-/
import Derived.Test.YtepodadinenmnaaGreatS14AxEjA
import Derived.Test.YtepodadinenmnaaGreatS14AxLuA
namespace Go.AX
open Go.Proofs
set_option linter.unusedSimpArgs false
def ku(r:Int):Int:=if 1<(if 1000000<r then 1000000 else r)then(if 1000000<r then 1000000 else r)else 1
theorem KO(r:Int):1<=ku r∧ku r<=1000000:=by unfold ku;split<;>split at*<;>omega
theorem qa(rs kp a:Int):aj Tryz.prog 30 [.agg [ab rs,ab kp,ab a]] (λr=>r=.pv (ab (ku rs))):=by
 refine ap aD Tryz.func30 ?_;simp[ku]
section
variable {h : List (List SV)} {be bt ba bw bh b : Nat} {E : ES}
def fq(k:Int)(c:Int)(m:PV)(pf:List Stp):PV:=.agg [ab k,ab c,m,if k=2 then .seq true 4 (pf.map Ab)else .lit (.slice none 0 0)]
set_option maxRecDepth 16000 in
theorem m9(n:h[be]?=some (bO bt ba bw bh E))(l:h[b]?=some [.pv (.ptr be 0)])(k:Int)(m:PV)(p:m=.lit (.slice none 0 0)∨∃x:List Bool,m=.seq true 1 (de x))(o:E.pf.length<=1000000)(hs:∀s∈E.pf,s.lits.length<=1000000∧s.hints.length<=1000000):
 aA Tryz.prog 213 [ab k,m,.ptr b 0] h (λr h'=>h'=h∧r=.pv (fq k E.many m E.pf)):=by
 refine aA.below (by kernel_rfl) λq=>?_;refine d7 [] [.cell 5 _] aD Tryz.func213 ?_;obtain⟨e,f⟩:=SQ.1 l;have i:∀g,(h++g)[b]?=some [.pv (.ptr be 0)]:=λg=>by rw[SZ e,l]
 have a:∀g h',(h++g)[b]'h'=[.pv (.ptr be 0)]:=λg h'=>by rw[T5 e,f]
 have hle:=(SQ.1 n).1;have j:∀g,(h++g)[be]?=some (bO bt ba bw bh E):=λg=>by rw[SZ hle,n]
 have d:b<h.length+1:=by omega
 rcases p with rfl|⟨x,rfl⟩
 all_goals
  simp[e,f,i,a,d];refine am.intro (nF (j _)) ?_;rintro _ _ ⟨rfl,rfl⟩
  by_cases c:k=2
  .simp[e,f,i,a,d,c];refine am.intro (GL (j _) o hs) ?_;rintro _ _ ⟨rfl,rfl⟩;simp[e,f,i,a,d,c,fq,bB,bc]
  .simp[e,f,i,a,d,c,fq,bB,bc]
theorem C6(h:List (List SV))(be:Nat):
 aA Tryz.prog 134 [.ptr be 0] h (λr h'=>h'=h++[[.pv (.ptr be 0)]]∧r=.pv (.fn (.func 213) [] [.ptr h.length 0])):=by
 refine cQ [] [.tmp 2] aD Tryz.func134 ?_;simp
end
structure PlS where
  c:Ck
  steps:Int
  first:Int
  bad:Bool
  calm:Bool
  vars:Int
  beg:List Int
section
variable {h : List (List SV)} {bp be : Nat} {P : PlS}
end
theorem TMk.cons{n:Nat}{T:Tr}(h:TMk n T):Cons T.lits:=λ_ hy a=>h.one hy a
section
variable {n r s : Nat} {F : List (List Int)} {l : List Rc} {E : ES}
theorem EI.uok(h:EI n F r s l E):UOk n (rC l)where
 hn:=by have:=h.n9;omega
 nd:=λc a=>by obtain⟨y,hy,rfl⟩:=S8.1 a;exact(h.cls y hy).2.1
 len:=λc a=>by obtain⟨y,hy,rfl⟩:=S8.1 a;exact(h.cls y hy).1
 chk:=λc a=>by obtain⟨y,hy,rfl⟩:=S8.1 a;exact(h.cls y hy).2.2
end
def KP(c:List Int):Nat->Nat
 |0=>0
 |v+1=>3*KP c v+(if((v+1:Nat):Int)∈c then 1 else if-((v+1:Nat):Int)∈c then 2 else 0)
theorem Fb(c:List Int):∀n,KP c n<3^n
 |0=>Nat.one_pos
 |n+1=>by
  have:=Fb c n;rw[KP,XT];split
  .omega
  .split<;>omega
section
variable {n r s : Nat} {F : List (List Int)} {l : List Rc} {E : ES}
structure Frs (n:Nat) (l:List Rc) (E:ES):Prop where
  nd:(E.pf.map λs=>KP s.lits n).Nodup
  inl:∀s∈E.pf,∃x∈aP 0 l,x.lits=s.lits
  tau:∀s∈E.pf,∀y∈s.lits,-y∉s.lits
  mn:E.many=E.pf.length
theorem Frs.le(f:Frs n l E):E.pf.length<=3^n:=by
 have h1:=dq (E.pf.map λs=>KP s.lits n) (List.range (3^n)) f.nd λx hx=>by
  obtain⟨s,_,rfl⟩:=S8.1 hx;exact Ug.2 (Fb _ _)
 simpa using h1
theorem Frs.same{E':ES}(f:Frs n l E)(a:E'.pf=E.pf)(b:E'.many=E.many):Frs n l E':=⟨by rw[a];exact f.nd,by rw[a];exact f.inl,by rw[a];exact f.tau,by rw[a,b];exact f.mn⟩
theorem TOk.fullv{T:Tr}(h:TOk n T)(d:T.lits.length=n){v:Int}(h1:1<=v)(a:v<=n):v∈T.lits.map af:=by
 apply Ts;intro c;have b:=dq (v::T.lits.map af) ((List.range n).map λi:Nat=>((i+1:Nat):Int)) (UA.2 ⟨c,h.nd⟩) λx hx=>by
  have key:1<=x∧x<=n:=by
   rcases Tx.1 hx with rfl|hx
   .exact⟨h1,a⟩
   .obtain⟨z,hz,rfl⟩:=S8.1 hx;obtain⟨_,_,_,e,f,_⟩:=br h.hn (h.chk z hz);omega
  exact S8.2 ⟨(x -1).toNat,Ug.2 (by omega),by omega⟩
 simp at b;omega
theorem MQ{T:List Int}{y:Int}(hn:n<=100000)(hy:aw y n=0)(f:Cons T)(d:y∈T):ij (jd T n) y=true:=by
 have h1:=hy;have a:y≠0∧-(n:Int)<=y∧y<=n:=by
  unfold aw at h1;rw[SU (by omega)]at h1;split at h1
  .rename_i q;unfold nH at q;simpa using q
  .cases h1
 have c:(jd T n).length=n:=by simp[jd]
 have b:∀i:Nat,i<n->(jd T n).getD i false=decide ((i:Int)+1∈T):=λi hi=>by simp[jd,hi]
 unfold ij
 by_cases p:0<y
 .have e:b8 y=(y,true):=by unfold b8;rw[SX ⟨p,by omega⟩]
  have hi:=b (y -1).toNat (by omega);rw[show(((y -1).toNat:Nat):Int)+1=y by omega,Uv d]at hi;rw[e,c];dsimp only;rw[hi,Uv a.1,Uv a.2.2];rfl
 .have e:b8 y=(-y,false):=by unfold b8;rw[SU (by omega),SX (by omega)]
  have hi:=b (-y -1).toNat (by omega);rw[show(((-y -1).toNat:Nat):Int)+1=-y by omega,UP (f y d)]at hi;rw[e,c];dsimp only;rw[hi,Uv (show-y≠0 by omega),Uv (show-y<=(n:Int) by omega)];rfl
theorem EI.model(h:EI n F r s l E)(ho:E.over=false)(i:E.calm=true)(j:E.T.lits.length=n)(k:∀d∈E.cs,d∈rC l):AZ E n=true:=by
 have m:=h.n9;have b:=h.tok.toTMk.cons;unfold AZ;rw[ho,Uv (h.calmc i),Uv j];simp only[Bool.not_false,Vu,Th];intro d hd;obtain⟨x,hx,rfl⟩:=S8.1 (k d hd);have a:=(h.cls x hx).2.2;have key:∃y∈x.lits,y∈E.T.lits:=by
  rcases h.cal i x hx with⟨y,hy,c⟩|⟨y,z,hy,_,_,c,_⟩
  .exact⟨y,hy,c⟩
  .obtain⟨_,_,_,o,p,_⟩:=br h.tok.hn (a y hy);obtain⟨w,g,e⟩:=S8.1 (h.tok.fullv j (v:=af y) (by omega) (by omega));rcases(mX h.tok.hn (h.tok.chk w g) (a y hy)).1 e with f|f
   .exact⟨y,hy,f▸g⟩
   .exact absurd (f▸g) c
 obtain⟨y,hy,c⟩:=key;exact UL.2 ⟨y,hy,MQ (by omega) (a y hy) b c⟩
end
end Go.AX