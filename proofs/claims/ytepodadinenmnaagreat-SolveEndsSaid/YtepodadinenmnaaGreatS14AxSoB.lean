/-
  Plain law: what is learnt is new each time; there are at most 3^n clauses of n variables without both sides of one.
-/
import Derived.Test.YtepodadinenmnaaGreatS14AxEjB
import Derived.Test.YtepodadinenmnaaGreatS14AxEjT
namespace Go.AX
open Go.Proofs
set_option linter.unusedSimpArgs false
def oT(c:List Int):Nat->Nat
 |0=>0
 |v+1=>3*oT c v+(if((v+1:Nat):Int)∈c then 1 else if-((v+1:Nat):Int)∈c then 2 else 0)
theorem A7(c:List Int):∀n,oT c n<3^n
 |0=>Nat.one_pos
 |n+1=>by
  have:=A7 c n;rw[oT,SD];split
  .omega
  .split<;>omega
theorem u7{c d:List Int}:∀{n:Nat},oT c n=oT d n->∀v,v<n->(((v+1:Nat):Int)∈c↔((v+1:Nat):Int)∈d)∧(((v+1:Nat):Int)∉c->(-((v+1:Nat):Int)∈c↔-((v+1:Nat):Int)∈d))
 |0,_,v,h=>absurd h (by omega)
 |n+1,e,v,h=>by
  rw[oT,oT]at e;have g:oT c n=oT d n:=by
   split at e<;>split at e<;>(try split at e)<;>(try split at e)<;>omega
  by_cases f:v=n
  .subst f;rw[g]at e
   by_cases c1:((v+1:Nat):Int)∈c
   .by_cases a:((v+1:Nat):Int)∈d
    .exact⟨iff_of_true c1 a,λq=>absurd c1 q⟩
    .rw[N9 c1,N8 a]at e;exfalso;split at e<;>omega
   .by_cases a:((v+1:Nat):Int)∈d
    .rw[N8 c1,N9 a]at e;exfalso;split at e<;>omega
    .rw[N8 c1,N8 a]at e;refine⟨iff_of_false c1 a,λ_=>?_⟩
     by_cases c2:-((v+1:Nat):Int)∈c
     .by_cases b:-((v+1:Nat):Int)∈d
      .exact iff_of_true c2 b
      .rw[N9 c2,N8 b]at e;omega
     .by_cases b:-((v+1:Nat):Int)∈d
      .rw[N8 c2,N9 b]at e;omega
      .exact iff_of_false c2 b
  .exact u7 g v (by omega)
theorem HM{n:Nat}{c d:List Int}(hn:n<=100000)(b:∀y∈c,au y n=0)(a:∀y∈c,-y∉c)(e:oT c n=oT d n):∀y∈c,y∈d:=by
 intro y hy;have h1:=b y hy;have f:y≠0∧-(n:Int)<=y∧y<=n:=by
  unfold au at h1;rw[N8 (by omega)]at h1;split at h1
  .rename_i q;unfold pz at q;simpa using q
  .cases h1
 by_cases p:0<y
 .have:=(u7 e (y -1).toNat (by omega)).1;rw[show(((y -1).toNat+1:Nat):Int)=y by omega]at this;exact this.1 hy
 .have:=(u7 e (-y -1).toNat (by omega)).2;rw[show(((-y -1).toNat+1:Nat):Int)=-y by omega,P1]at this;exact(this (a y hy)).1 hy
theorem Jp{n:Nat}{T:Tr}(c:TOk n T){y k:Int}(h:-y∈T.lits)(d:dw T y<k):-y∈bel (dL T) k:=by
 obtain⟨i,hi,e⟩:=Oo h;have a:i<(dL T).rows.length:=by simpa[dL]using hi
 obtain⟨_,b⟩:=c.rows a;refine Of.2 ⟨(dL T).rows[i],OW.2 ⟨Od a,?_⟩,by rw[b];exact e⟩;rw[b];rw[show y=-T.lits[i] by omega,rG c hi]at d;simpa using d
section
variable {n r s : Nat} {F : List (List Int)} {l : List Rc} {E : ES}
theorem EI.fresh(h:EI n F r s l E)(t:0<=E.con)(ho:E.over=false){x:Ro}(hx:x∈bi 0 l)(hs:∀y∈x.lits,y∈aE E):False:=by
 have R:=h.res t;have p:=h.uok;have a:=h.tok.toTMk.cons;have d:x.lits∈rC l:=Qh hx;rcases R.lev with⟨_,e⟩|⟨u,w,e,b0,b1,b2,b3,_⟩
 .have h0:x.lits=[]:=Qt.2 λy hy=>by
   have:=hs y hy;rw[e]at this;cases this
  have:=h.ovr.2 ⟨x,hx,h0⟩;rw[ho]at this;cases this
 .have c:=h.ef.clm (E.T.beg.length) (by omega) (Qx _) x.lits d;have b:∀z∈bel (dL E.T) E.T.beg.length,z∈E.T.lits:=λz hz=>by rw[←ez];exact fh _ hz
  have f:Cons (bel (dL E.T) E.T.beg.length):=λy hy m=>a y (b y hy) (b _ m);have hin:∀y∈w,-y∈bel (dL E.T) E.T.beg.length:=λy hy=>Jp h.tok (R.neg y (by rw[e];simp[hy])) (by have:=b3 y hy;omega);have j:-u∉bel (dL E.T) E.T.beg.length:=λg=>by have:=nZ h.tok g;omega
  have k:u∉bel (dL E.T) E.T.beg.length:=λg=>a u (b u g) (R.neg u (by rw[e];simp));have q:∀y∈x.lits,y≠u->-y∈bel (dL E.T) E.T.beg.length:=λy hy i=>by
   have:=hs y hy;rw[e]at this;exact hin y ((OB.1 this).resolve_left i)
  by_cases o:u∈x.lits
  .have:=p.unit_of f d o k j q;rw[this]at c;cases c.1
  .exact c.2 ((p.fail f d).2 λy hy=>q y hy λe=>o (e▸hy))
structure Frs (n:Nat) (l:List Rc) (E:ES):Prop where
  nd:(E.pf.map λs=>oT s.lits n).Nodup
  inl:∀s∈E.pf,∃x∈bi 0 l,x.lits=s.lits
  tau:∀s∈E.pf,∀y∈s.lits,-y∉s.lits
  mn:E.many=E.pf.length
theorem Frs.le(f:Frs n l E):E.pf.length<=3^n:=by
 have h1:=cX (E.pf.map λs=>oT s.lits n) (List.range (3^n)) f.nd λx hx=>by
  obtain⟨s,_,rfl⟩:=Of.1 hx;exact Pg.2 (A7 _ _)
 simpa using h1
theorem Frs.same{E':ES}(f:Frs n l E)(a:E'.pf=E.pf)(b:E'.many=E.many):Frs n l E':=⟨by rw[a];exact f.nd,by rw[a];exact f.inl,by rw[a];exact f.tau,by rw[a,b];exact f.mn⟩
theorem Frs.res{q:HS}{p:List Bool}{k:Int}(f:Frs n l E)(h:EI n F r s l E)(t:0<=E.con)(ho:E.over=false):Frs n (l++[⟨E.id+1,1,aE E⟩]) (lE E q p k):=by
 have R:=h.res t;have v:=h.n9;have g:bi 0 (l++[⟨E.id+1,1,aE E⟩])=bi 0 l++[⟨((aZ l).length:Nat),E.id+1,aE E⟩]:=by
  rw[gj,O3];rfl
 have c:(lE E q p k).pf=E.pf++[⟨1,E.id+1,aE E,(iP E).map (lY E.A)⟩]:=rfl;have d:∀y∈aE E,-y∉aE E:=λy hy i=>by
  have h1:=R.neg y hy;have m:=R.neg (-y) i;rw[P1]at m;exact h.tok.toTMk.cons y m h1
 refine⟨?_,λs hs=>?_,λs hs=>?_,?_⟩
 .rw[c,OJ,QW];refine⟨f.nd,by simp,λa u b o=>?_⟩;obtain⟨s,hs,rfl⟩:=Of.1 u;simp at o;subst o;intro e;obtain⟨x,hx,j⟩:=f.inl s hs;refine h.fresh t ho hx λy hy=>?_;rw[j]at hy;exact HM (n:=n) (by omega) (by rw[←j];exact(h.cls x hx).2.2) (f.tau s hs) e y hy
 .rw[g];rw[c]at hs;rcases Om.1 hs with hs|hs
  .obtain⟨x,hx,e⟩:=f.inl s hs;exact⟨x,Pc _ hx,e⟩
  .simp at hs;subst hs;exact⟨⟨((aZ l).length:Nat),E.id+1,aE E⟩,PQ _ (O7.2 rfl),rfl⟩
 .rw[c]at hs;rcases Om.1 hs with hs|hs
  .exact f.tau s hs
  .simp at hs;subst hs;exact d
 .show E.many+1=_;rw[c,Oi,f.mn];simp
theorem TOk.fullv{T:Tr}(h:TOk n T)(d:T.lits.length=n){v:Int}(h1:1<=v)(a:v<=n):v∈T.lits.map ab:=by
 apply OF;intro c;have b:=cX (v::T.lits.map ab) ((List.range n).map λi:Nat=>((i+1:Nat):Int)) (PC.2 ⟨c,h.nd⟩) λx hx=>by
  have key:1<=x∧x<=n:=by
   rcases OB.1 hx with rfl|hx
   .exact⟨h1,a⟩
   .obtain⟨z,hz,rfl⟩:=Of.1 hx;obtain⟨_,_,_,e,f,_⟩:=bm h.hn (h.chk z hz);omega
  exact Of.2 ⟨(x -1).toNat,Pg.2 (by omega),by omega⟩
 simp at b;omega
theorem HN{T:List Int}{y:Int}(hn:n<=100000)(hy:au y n=0)(f:Cons T)(d:y∈T):gp (il T n) y=true:=by
 have h1:=hy;have a:y≠0∧-(n:Int)<=y∧y<=n:=by
  unfold au at h1;rw[N8 (by omega)]at h1;split at h1
  .rename_i q;unfold pz at q;simpa using q
  .cases h1
 have c:(il T n).length=n:=by simp[il]
 have b:∀i:Nat,i<n->(il T n).getD i false=decide ((i:Int)+1∈T):=λi hi=>by simp[il,hi]
 unfold gp
 by_cases p:0<y
 .have e:bT y=(y,true):=by unfold bT;rw[N9 ⟨p,by omega⟩]
  have hi:=b (y -1).toNat (by omega);rw[show(((y -1).toNat:Nat):Int)+1=y by omega,PG d]at hi;rw[e,c];dsimp only;rw[hi,PG a.1,PG a.2.2];rfl
 .have e:bT y=(-y,false):=by unfold bT;rw[N8 (by omega),N9 (by omega)]
  have hi:=b (-y -1).toNat (by omega);rw[show(((-y -1).toNat:Nat):Int)+1=-y by omega,PE (f y d)]at hi;rw[e,c];dsimp only;rw[hi,PG (show-y≠0 by omega),PG (show-y<=(n:Int) by omega)];rfl
theorem EI.model(h:EI n F r s l E)(ho:E.over=false)(i:E.calm=true)(j:E.T.lits.length=n)(k:∀d∈E.cs,d∈rC l):xn E n=true:=by
 have m:=h.n9;have b:=h.tok.toTMk.cons;unfold xn;rw[ho,PG (h.calmc i),PG j];simp only[Bool.not_false,Q2,Ov];intro d hd;obtain⟨x,hx,rfl⟩:=Of.1 (k d hd);have a:=(h.cls x hx).2.2;have key:∃y∈x.lits,y∈E.T.lits:=by
  rcases h.cal i x hx with⟨y,hy,c⟩|⟨y,z,hy,_,_,c,_⟩
  .exact⟨y,hy,c⟩
  .obtain⟨_,_,_,o,p,_⟩:=bm h.tok.hn (a y hy);obtain⟨w,g,e⟩:=Of.1 (h.tok.fullv j (v:=ab y) (by omega) (by omega));rcases(lA h.tok.hn (h.tok.chk w g) (a y hy)).1 e with f|f
   .exact⟨y,hy,f▸g⟩
   .exact absurd (f▸g) c
 obtain⟨y,hy,c⟩:=key;exact Qe.2 ⟨y,hy,HN (by omega) (a y hy) b c⟩
end
end Go.AX