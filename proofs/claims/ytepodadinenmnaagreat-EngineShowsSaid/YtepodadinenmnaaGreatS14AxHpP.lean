/-
  The plain law of heaps: rows in which each one is no better than the one at half its place.
-/
import Derived.Test.YtepodadinenmnaaGreatAxXW
namespace Go.AX
def jO(sc:List Int)(v w:Int):Bool:=if sc.getD v.toNat 0≠sc.getD w.toNat 0 then decide (sc.getD w.toNat 0<sc.getD v.toNat 0)else decide (v<w)
theorem wE{sc:List Int}{v w:Int}:jO sc v w=true↔(sc.getD w.toNat 0<sc.getD v.toNat 0∨(sc.getD v.toNat 0=sc.getD w.toNat 0∧v<w)):=by
 unfold jO;split
 .rename_i h;simp only[Qs];exact⟨.inl,λa=>a.elim id λb=>absurd b.1 h⟩
 .rename_i h;simp only[Qs];simp only[ne_eq,UD]at h;exact⟨λa=>.inr ⟨h,a⟩,λa=>a.elim (λb=>by omega) λb=>b.2⟩
theorem gQ{sc:List Int}{v w:Int}:jO sc v w=false↔(sc.getD v.toNat 0<sc.getD w.toNat 0∨(sc.getD v.toNat 0=sc.getD w.toNat 0∧w<=v)):=by
 rw[←SP,wE];omega
theorem jP{sc:List Int}{v w:Int}(h:jO sc v w=true):jO sc w v=false:=by rw[wE]at h;rw[gQ];omega
theorem iP{sc:List Int}{u v w:Int}(h:jO sc u v=false)(a:jO sc v w=false):jO sc u w=false:=by rw[gQ]at*;omega
theorem mM(sc:List Int)(v:Int):jO sc v v=false:=by rw[gQ];omega
theorem aY(l:List Int)(i j:Nat)(x:Int):(l.set i x).getD j 0=if i=j∧i<l.length then x else l.getD j 0:=by
 simp only[P9,QB]
 by_cases h:i=j
 .subst h
  by_cases a:i<l.length
  .simp[a]
  .simp[a]
 .simp[h]
theorem aZ{l:List Int}{i:Nat}(h:i<l.length):l.getD i 0∈l:=by simp[P9,h]
theorem HM{l:List Int}{x:Int}(h:x∈l):∃i,i<l.length∧l.getD i 0=x:=by
 obtain⟨i,hi,rfl⟩:=UU.1 h;exact⟨i,hi,by simp[hi]⟩
theorem dQ{l:List Int}(h:l.Nodup){i j:Nat}(hi:i<l.length)(hj:j<l.length)(e:l.getD i 0=l.getD j 0):i=j:=by
 simp only[P9,P8 hi,P8 hj,QF]at e;unfold List.Nodup at h;rw[QV]at h;rcases RH i j with h1|h1|h1
 .exact absurd e (h i j hi hj h1)
 .exact h1
 .exact absurd e.symm (h j i hj hi h1)
theorem swap_perm{l:List Int}{i j:Nat}(hi:i<l.length)(hj:j<l.length):((l.set i (l.getD j 0)).set j (l.getD i 0)).Perm l:=by
 have:=@List.set_set_perm _ l _ _ hi hj;simpa[P9,hi,hj]using this
def HO(sc R:List Int)(k:Nat):Prop:=∀j,0<j->j<R.length->k<=(j -1)/2->jO sc (R.getD j 0) (R.getD ((j -1)/2) 0)=false
def P2(R pl:List Int)(v:Int):Prop:=∀j,j<R.length->R.getD j 0≠v->pl.getD (R.getD j 0).toNat 0=(j:Int)
def PL(R pl:List Int):Prop:=∀j,j<R.length->pl.getD (R.getD j 0).toNat 0=(j:Int)
def tu(R:List Int)(n:Nat):Prop:=∀x∈R,1<=x∧x<(n:Int)
/-! ### Up -/
def qo(sc:List Int)(v:Int)(i:Nat)(row pl:List Int):List Int×List Int:=
 if h:0<i∧jO sc v (row.getD ((i -1)/2) 0)=true then
  qo sc v ((i -1)/2) (row.set i (row.getD ((i -1)/2) 0)) (pl.set (row.getD ((i -1)/2) 0).toNat i)
 else(row.set i v,pl.set v.toNat i)
termination_by i
decreasing_by omega
structure UpOk (sc row pl:List Int) (v:Int) (r:List Int×List Int) (i:Nat):Prop where
  perm:r.1.Perm (row.set i v)
  ho:HO sc r.1 0
  plc:PL r.1 r.2
  out:∀u:Nat,¬(u:Int)∈row.set i v->r.2.getD u 0=pl.getD u 0
  len:r.2.length=pl.length
theorem HN{sc:List Int}{v:Int}:∀(i:Nat)(row pl:List Int),i<row.length->(row.set i v).Nodup->tu (row.set i v) pl.length->P2 (row.set i v) pl v->
 (∀j,0<j->j<row.length->j≠i->jO sc ((row.set i v).getD j 0) ((row.set i v).getD ((j -1)/2) 0)=false)->
 (∀j,0<j->j<row.length->(j -1)/2=i->0<i->jO sc ((row.set i v).getD j 0) ((row.set i v).getD ((i -1)/2) 0)=false)->
 UpOk sc row pl v (qo sc v i row pl) i:=by
 intro i
 induction i using Nat.strongRecOn with
 |_ i T=>
  intro row pl hi n hin y h1 R;have F:(row.set i v).getD i 0=v:=by rw[aY,Qb ⟨rfl,hi⟩]
  unfold qo;split
  .rename_i E;obtain⟨G,N⟩:=E;have hp:(i -1)/2<i:=by omega
   have c:(i -1)/2<row.length:=by omega
   generalize K:(i -1)/2=p at*;have r:(row.set i v).getD p 0=row.getD p 0:=by rw[aY,Qa (by omega)]
   have M:(row.set i (row.getD p 0)).set p v=((row.set i v).set i ((row.set i v).getD p 0)).set p ((row.set i v).getD i 0):=by rw[F,r,TO]
   have g:((row.set i (row.getD p 0)).set p v).Perm (row.set i v):=by rw[M];exact swap_perm (by simpa using hi) (by simpa using c)
   have o:∀x,x∈(row.set i (row.getD p 0)).set p v↔x∈row.set i v:=λx=>g.mem_iff;have k:∀j,((row.set i (row.getD p 0)).set p v).getD j 0=if j=p then v else if j=i then row.getD p 0 else row.getD j 0:=λj=>by
    rw[aY,aY,Qz]
    by_cases s:j=p
    .subst s;rw[Qb ⟨rfl,c⟩,Qb rfl]
    .rw[Qa (by omega),Qa s]
     by_cases b:j=i
     .subst b;rw[Qb ⟨rfl,hi⟩,Qb rfl]
     .rw[Qa (by omega),Qa b]
   have a:∀j,(row.set i v).getD j 0=if j=i then v else row.getD j 0:=λj=>by
    rw[aY]
    by_cases b:j=i
    .subst b;rw[Qb ⟨rfl,hi⟩,Qb rfl]
    .rw[Qa (by omega),Qa b]
   have S:row.getD p 0≠v:=λe=>by
    have:=dQ n (i:=i) (j:=p) (by simpa using hi) (by simpa using c) (by rw[a,a,Qb rfl,Qa (by omega),e]);omega
   have P:=hin (row.getD p 0) (by rw[←r];exact aZ (by simpa using c));have key:=T p hp (row.set i (row.getD p 0)) (pl.set (row.getD p 0).toNat i) (by simpa using c) (g.nodup_iff.2 n) (by rw[Qz];exactλx hx=>hin x ((o x).1 hx)) ?_ ?_ ?_
   .obtain⟨U,V,W,X,Y⟩:=key;refine⟨U.trans g,V,W,λu B=>?_,by rw[Y,Qz]⟩;rw[X u (λh=>B ((o u).1 h)),aY,Qa];rintro⟨e,_⟩;apply B;have:(u:Int)=row.getD p 0:=by omega
    rw[this,←r];exact aZ (by simpa using c)
   .intro j hj f;simp only[Qz]at hj;rw[k]at f⊢;split at f
    .exact absurd rfl f
    .rename_i s;rw[Qa s];split at f
     .rename_i b;rw[Qb b,aY,Qb ⟨rfl,by omega⟩,b]
     .rename_i b;rw[Qa b];have t:=y j (by simpa using hj) (by rw[a,Qa b];exact f);rw[a,Qa b]at t;have O:row.getD j 0≠row.getD p 0:=λe=>s (dQ n (by simpa using hj) (by simpa using c) (by rw[a,a,Qa b,Qa (by omega),e]));have w:=hin (row.getD j 0) (by have:=aZ (l:=row.set i v) (i:=j) (by simpa using hj);rwa [a,Qa b]at this);rw[aY,Qa (by omega)];exact t
   .intro j d hj f;simp only[Qz]at hj;rw[k,k,Qa f]
    by_cases b:j=i
    .rw[Qb b,b,K,Qb rfl];exact jP N
    .rw[Qa b];have m:=h1 j d hj b;rw[a,a,Qa b]at m
     by_cases C:(j -1)/2=p
     .rw[Qb C];rw[C,Qa (by omega)]at m;exact iP m (jP N)
     .rw[Qa C]
      by_cases A:(j -1)/2=i
      .rw[Qb A];have:=R j d hj A G
       rwa [a,a,Qa b,Qa (by omega)]at this
      .rw[Qa A];rwa [Qa A]at m
   .intro j d hj I J;simp only[Qz]at hj;have L:(p -1)/2≠p:=by omega
    have q:(p -1)/2≠i:=by omega
    rw[k,k,Qa (by omega),Qa L,Qa q];have D:=h1 p J (by omega) (by omega);rw[a,a,Qa (by omega),Qa q]at D
    by_cases b:j=i
    .rw[Qb b];exact D
    .rw[Qa b];have m:=h1 j d hj b;rw[a,a,Qa b,I,Qa (by omega)]at m;exact iP m D
  .rename_i E;have a:∀j,(row.set i v).getD j 0=if j=i then v else row.getD j 0:=λj=>by
    rw[aY]
    by_cases b:j=i
    .subst b;rw[Qb ⟨rfl,hi⟩,Qb rfl]
    .rw[Qa (by omega),Qa b]
   have z:v∈row.set i v:=by have:=aZ (l:=row.set i v) (i:=i) (by simpa using hi);rwa [F]at this
   have Q:=hin v z;refine⟨Tp _,λj d hj _=>?_,λj hj=>?_,λu B=>?_,by simp⟩
   .simp only[Qz]at hj
    by_cases e:j=i
    .subst e;rw[a,a,Qb rfl,Qa (by omega)];have:¬jO sc v (row.getD ((j -1)/2) 0)=true:=λh=>E ⟨d,h⟩;simpa using this
    .exact h1 j d hj e
   .simp only[Qz]at hj;show(pl.set v.toNat (i:Int)).getD ((row.set i v).getD j 0).toNat 0=(j:Int)
    by_cases e:(row.set i v).getD j 0=v
    .have H:j=i:=dQ n (by simpa using hj) (by simpa using hi) (by rw[e,F]);rw[e,aY,Qb ⟨rfl,by omega⟩,H]
    .have m:=y j (by simpa using hj) e;have w:=hin _ (aZ (l:=row.set i v) (i:=j) (by simpa using hj));rw[aY,Qa (by omega)];exact m
   .rw[aY,Qa];rintro⟨e,_⟩;apply B;have:(u:Int)=v:=by omega
    rw[this];exact z
/-! ### Down -/
def eZ(sc row:List Int)(v:Int)(i:Nat):Int×Nat:=
 let a:=if 2*i+1<row.length∧jO sc (row.getD (2*i+1) 0) v=true then(row.getD (2*i+1) 0,2*i+1)else(v,i)
 if 2*i+2<row.length∧jO sc (row.getD (2*i+2) 0) a.1=true then(row.getD (2*i+2) 0,2*i+2)else a
theorem yI{sc row:List Int}{v:Int}{i:Nat}:
    ((eZ sc row v i = (v, i) ∧ ∀ j, j < row.length -> 0 < j -> (j - 1) / 2 = i -> jO sc (row.getD j 0) v = false) ∨
     (∃c,eZ sc row v i=(row.getD c 0,c)∧c<row.length∧(c -1)/2=i∧i<c∧jO sc (row.getD c 0) v=true∧∀j,j<row.length->0<j->(j -1)/2=i->jO sc (row.getD j 0) (row.getD c 0)=false)):=by
  unfold eZ
  by_cases h1:2*i+1<row.length∧jO sc (row.getD (2*i+1) 0) v=true
  · rw[Qb h1]
    dsimp only
    by_cases a:2*i+2<row.length∧jO sc (row.getD (2*i+2) 0) (row.getD (2*i+1) 0)=true
    · rw[Qb a]
      refine .inr ⟨2*i+2,rfl,a.1,by omega,by omega,?_,λj hj b d=>?_⟩
      · have f:=h1.2;have g:=a.2;rw[wE]at*;omega
      · have:j=2*i+1∨j=2*i+2:=by omega
        rcases this with rfl|rfl
        · exact jP a.2
        · exact mM _ _
    · rw[Qa a]
      refine .inr ⟨2*i+1,rfl,h1.1,by omega,by omega,h1.2,λj hj b d=>?_⟩
      have:j=2*i+1∨j=2*i+2:=by omega
      rcases this with rfl|rfl
      · exact mM _ _
      · have:¬jO sc (row.getD (2*i+2) 0) (row.getD (2*i+1) 0)=true:=λh=>a ⟨hj,h⟩
        simpa using this
  · rw[Qa h1]
    dsimp only
    have e:∀hj:2*i+1<row.length,jO sc (row.getD (2*i+1) 0) v=false:=λhj=>by
      have:¬jO sc (row.getD (2*i+1) 0) v=true:=λh=>h1 ⟨hj,h⟩
      simpa using this
    by_cases a:2*i+2<row.length∧jO sc (row.getD (2*i+2) 0) v=true
    · rw[Qb a]
      refine .inr ⟨2*i+2,rfl,a.1,by omega,by omega,a.2,λj hj b d=>?_⟩
      have:j=2*i+1∨j=2*i+2:=by omega
      rcases this with rfl|rfl
      · exact iP (e hj) (jP a.2)
      · exact mM _ _
    · rw[Qa a]
      refine .inl ⟨rfl,λj hj b d=>?_⟩
      have:j=2*i+1∨j=2*i+2:=by omega
      rcases this with rfl|rfl
      · exact e hj
      · have:¬jO sc (row.getD (2*i+2) 0) v=true:=λh=>a ⟨hj,h⟩
        simpa using this
def d7(sc:List Int)(v:Int):Nat->Nat->List Int->List Int->List Int×List Int
 |0,i,row,pl=>(row.set i v,pl.set v.toNat i)
 |n+1,i,row,pl=>
  if(eZ sc row v i).2=i then(row.set i (eZ sc row v i).1,pl.set (eZ sc row v i).1.toNat i)
  else d7 sc v n (eZ sc row v i).2 ((row.set i (eZ sc row v i).1).set (eZ sc row v i).2 v) (pl.set (eZ sc row v i).1.toNat i)
structure DnOk (sc row pl:List Int) (k:Nat) (r:List Int×List Int):Prop where
  perm:r.1.Perm row
  ho:HO sc r.1 k
  plc:PL r.1 r.2
  out:∀u:Nat,¬(u:Int)∈row->r.2.getD u 0=pl.getD u 0
  len:r.2.length=pl.length
theorem sO{sc:List Int}{v:Int}{k:Nat}:∀(n i:Nat)(row pl:List Int),i<row.length->row.length<=i+n->k<=i->row.getD i 0=v->row.Nodup->tu row pl.length->P2 row pl v->
 (∀j,0<j->j<row.length->k<=(j -1)/2->(j -1)/2≠i->jO sc (row.getD j 0) (row.getD ((j -1)/2) 0)=false)->
 (∀j,0<j->j<row.length->(j -1)/2=i->0<i->k<=(i -1)/2->jO sc (row.getD j 0) (row.getD ((i -1)/2) 0)=false)->
 DnOk sc row pl k (d7 sc v n i row pl)
 |0,i,row,pl,hi,hn,_,_,_,_,_,_,_=>by omega
 |n+1,i,row,pl,hi,hn,hk,s,o,hin,y,h1,L=>by
  have A:v∈row:=by have:=aZ hi;rwa [s]at this
  have K:=hin v A;have z:row.set i v=row:=by
   apply SG
   .simp
   .intro j V W;rw[UI];split
    .rename_i e;subst e;have:row.getD i 0=row[i]:=by simp[hi]
     rw[←s,this]
    .rfl
  rcases yI (sc:=sc) (row:=row) (v:=v) (i:=i)with⟨e,C⟩|⟨c,e,b,r,O,D,C⟩
  .simp only[d7,e,RV];rw[z];refine⟨Tp _,λj d hj m=>?_,λj hj=>?_,λu B=>?_,by simp⟩
   .by_cases a:(j -1)/2=i
    .rw[a,s];exact C j hj d a
    .exact h1 j d hj m a
   .show(pl.set v.toNat (i:Int)).getD (row.getD j 0).toNat 0=(j:Int);replace hj:j<row.length:=hj
    by_cases a:row.getD j 0=v
    .have G:j=i:=dQ o hj hi (by rw[a,s]);rw[a,aY,Qb ⟨rfl,by omega⟩,G]
    .have w:=hin _ (aZ hj);rw[aY,Qa (by omega)];exact y j hj a
   .rw[aY,Qa];rintro⟨a,_⟩;apply B;have:(u:Int)=v:=by omega
    rw[this];exact A
  .simp only[d7,e];rw[Qa (by omega)];have H:(row.set i (row.getD c 0)).set c v=(row.set i (row.getD c 0)).set c (row.getD i 0):=by rw[s]
   have g:((row.set i (row.getD c 0)).set c v).Perm row:=by rw[H];exact swap_perm hi b
   have q:∀x,x∈(row.set i (row.getD c 0)).set c v↔x∈row:=λx=>g.mem_iff;have l:∀j,((row.set i (row.getD c 0)).set c v).getD j 0=if j=c then v else if j=i then row.getD c 0 else row.getD j 0:=λj=>by
    rw[aY,aY,Qz]
    by_cases p:j=c
    .subst p;rw[Qb ⟨rfl,b⟩,Qb rfl]
    .rw[Qa (by omega),Qa p]
     by_cases a:j=i
     .subst a;rw[Qb ⟨rfl,hi⟩,Qb rfl]
     .rw[Qa (by omega),Qa a]
   have N:row.getD c 0≠v:=λe=>by
    have:=dQ o (i:=c) (j:=i) b hi (by rw[e,s]);omega
   have I:=hin _ (aZ b);have key:=sO (sc:=sc) (k:=k) n c ((row.set i (row.getD c 0)).set c v) (pl.set (row.getD c 0).toNat i) (by simpa using b) (by simp;omega) (by omega) (by rw[l,Qb rfl]) (g.nodup_iff.2 o) (by rw[Qz];exactλx hx=>hin x ((q x).1 hx)) ?_ ?_ ?_
   .obtain⟨Q,R,S,T,U⟩:=key;refine⟨Q.trans g,R,S,λu B=>?_,by rw[U,Qz]⟩;rw[T u (λh=>B ((q u).1 h)),aY,Qa];rintro⟨a,_⟩;apply B;have:(u:Int)=row.getD c 0:=by omega
    rw[this];exact aZ b
   .intro j hj f;simp only[Qz]at hj;rw[l]at f⊢;split at f
    .exact absurd rfl f
    .rename_i p;rw[Qa p];split at f
     .rename_i a;rw[Qb a,aY,Qb ⟨rfl,by omega⟩,a]
     .rename_i a;rw[Qa a];have E:=y j hj f;have J:row.getD j 0≠row.getD c 0:=λe=>p (dQ o hj b e);have w:=hin _ (aZ hj);rw[aY,Qa (by omega)];exact E
   .intro j d hj m f;simp only[Qz]at hj;rw[l,l,Qa f]
    by_cases t:(j -1)/2=i
    .rw[Qb t]
     by_cases p:j=c
     .rw[Qb p];exact jP D
     .rw[Qa p,Qa (by omega)];exact C j hj d t
    .rw[Qa t,Qa (by intro e;subst e;exact t r)]
     by_cases a:j=i
     .rw[Qb a];subst a;exact L c (by omega) b r (by omega) m
     .rw[Qa a];exact h1 j d hj m t
   .intro j d hj F M P;simp only[Qz]at hj;rw[l,l,Qa (by omega),Qa (by omega),Qa (by omega),Qb r];have:=h1 j d hj (by omega) (by omega)
    rwa [F]at this
end Go.AX