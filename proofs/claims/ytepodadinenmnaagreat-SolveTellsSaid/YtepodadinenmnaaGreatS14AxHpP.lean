/-
  The plain law of heaps: rows in which each one is no better than the one at half its place.
-/
import Derived.Test.YtepodadinenmnaaGreatAxXW
namespace Go.AX
def kj(sc:List Int)(v w:Int):Bool:=if sc.getD v.toNat 0≠sc.getD w.toNat 0 then decide (sc.getD w.toNat 0<sc.getD v.toNat 0)else decide (v<w)
theorem x9{sc:List Int}{v w:Int}:kj sc v w=true↔(sc.getD w.toNat 0<sc.getD v.toNat 0∨(sc.getD v.toNat 0=sc.getD w.toNat 0∧v<w)):=by
 unfold kj;split
 .rename_i h;simp only[Th];exact⟨.inl,λa=>a.elim id λb=>absurd b.1 h⟩
 .rename_i h;simp only[Th];simp only[ne_eq,Classical.not_not]at h;exact⟨λa=>.inr ⟨h,a⟩,λa=>a.elim (λb=>by omega) λb=>b.2⟩
theorem gY{sc:List Int}{v w:Int}:kj sc v w=false↔(sc.getD v.toNat 0<sc.getD w.toNat 0∨(sc.getD v.toNat 0=sc.getD w.toNat 0∧w<=v)):=by
 rw[←VL,x9];omega
theorem km{sc:List Int}{v w:Int}(h:kj sc v w=true):kj sc w v=false:=by rw[x9]at h;rw[gY];omega
theorem iY{sc:List Int}{u v w:Int}(h:kj sc u v=false)(a:kj sc v w=false):kj sc u w=false:=by rw[gY]at*;omega
theorem nC(sc:List Int)(v:Int):kj sc v v=false:=by rw[gY];omega
theorem bi(l:List Int)(i j:Nat)(x:Int):(l.set i x).getD j 0=if i=j∧i<l.length then x else l.getD j 0:=by
 simp only[SS,Tz]
 by_cases h:i=j
 .subst h
  by_cases a:i<l.length
  .simp[a]
  .simp[a]
 .simp[h]
theorem bj{l:List Int}{i:Nat}(h:i<l.length):l.getD i 0∈l:=by simp[SS,h]
theorem J6{l:List Int}{x:Int}(h:x∈l):∃i,i<l.length∧l.getD i 0=x:=by
 obtain⟨i,hi,rfl⟩:=W6.1 h;exact⟨i,hi,by simp[hi]⟩
theorem dV{l:List Int}(h:l.Nodup){i j:Nat}(hi:i<l.length)(hj:j<l.length)(e:l.getD i 0=l.getD j 0):i=j:=by
 simp only[SS,SR hi,SR hj,TC]at e;unfold List.Nodup at h;rw[TB]at h;rcases UD i j with h1|h1|h1
 .exact absurd e (h i j hi hj h1)
 .exact h1
 .exact absurd e.symm (h j i hj hi h1)
theorem swap_perm{l:List Int}{i j:Nat}(hi:i<l.length)(hj:j<l.length):((l.set i (l.getD j 0)).set j (l.getD i 0)).Perm l:=by
 have:=@List.set_set_perm _ l _ _ hi hj;simpa[SS,hi,hj]using this
def HO(sc R:List Int)(k:Nat):Prop:=∀j,0<j->j<R.length->k<=(j -1)/2->kj sc (R.getD j 0) (R.getD ((j -1)/2) 0)=false
def SH(R pl:List Int)(v:Int):Prop:=∀j,j<R.length->R.getD j 0≠v->pl.getD (R.getD j 0).toNat 0=(j:Int)
def PL(R pl:List Int):Prop:=∀j,j<R.length->pl.getD (R.getD j 0).toNat 0=(j:Int)
def uG(R:List Int)(n:Nat):Prop:=∀x∈R,1<=x∧x<(n:Int)
/-! ### Up -/
def rq(sc:List Int)(v:Int)(i:Nat)(row pl:List Int):List Int×List Int:=
 if h:0<i∧kj sc v (row.getD ((i -1)/2) 0)=true then
  rq sc v ((i -1)/2) (row.set i (row.getD ((i -1)/2) 0)) (pl.set (row.getD ((i -1)/2) 0).toNat i)
 else(row.set i v,pl.set v.toNat i)
termination_by i
decreasing_by omega
structure UpOk (sc row pl:List Int) (v:Int) (r:List Int×List Int) (i:Nat):Prop where
  perm:r.1.Perm (row.set i v)
  ho:HO sc r.1 0
  plc:PL r.1 r.2
  out:∀u:Nat,¬(u:Int)∈row.set i v->r.2.getD u 0=pl.getD u 0
  len:r.2.length=pl.length
theorem J7{sc:List Int}{v:Int}:∀(i:Nat)(row pl:List Int),i<row.length->(row.set i v).Nodup->uG (row.set i v) pl.length->SH (row.set i v) pl v->
 (∀j,0<j->j<row.length->j≠i->kj sc ((row.set i v).getD j 0) ((row.set i v).getD ((j -1)/2) 0)=false)->
 (∀j,0<j->j<row.length->(j -1)/2=i->0<i->kj sc ((row.set i v).getD j 0) ((row.set i v).getD ((i -1)/2) 0)=false)->
 UpOk sc row pl v (rq sc v i row pl) i:=by
 intro i
 induction i using Nat.strongRecOn with
 |_ i T=>
  intro row pl hi n hin y h1 R;have F:(row.set i v).getD i 0=v:=by rw[bi,SX ⟨rfl,hi⟩]
  unfold rq;split
  .rename_i E;obtain⟨G,N⟩:=E;have hp:(i -1)/2<i:=by omega
   have c:(i -1)/2<row.length:=by omega
   generalize K:(i -1)/2=p at*;have r:(row.set i v).getD p 0=row.getD p 0:=by rw[bi,SU (by omega)]
   have M:(row.set i (row.getD p 0)).set p v=((row.set i v).set i ((row.set i v).getD p 0)).set p ((row.set i v).getD i 0):=by rw[F,r,Wy]
   have g:((row.set i (row.getD p 0)).set p v).Perm (row.set i v):=by rw[M];exact swap_perm (by simpa using hi) (by simpa using c)
   have o:∀x,x∈(row.set i (row.getD p 0)).set p v↔x∈row.set i v:=λx=>g.mem_iff;have k:∀j,((row.set i (row.getD p 0)).set p v).getD j 0=if j=p then v else if j=i then row.getD p 0 else row.getD j 0:=λj=>by
    rw[bi,bi,Tt]
    by_cases s:j=p
    .subst s;rw[SX ⟨rfl,c⟩,SX rfl]
    .rw[SU (by omega),SU s]
     by_cases b:j=i
     .subst b;rw[SX ⟨rfl,hi⟩,SX rfl]
     .rw[SU (by omega),SU b]
   have a:∀j,(row.set i v).getD j 0=if j=i then v else row.getD j 0:=λj=>by
    rw[bi]
    by_cases b:j=i
    .subst b;rw[SX ⟨rfl,hi⟩,SX rfl]
    .rw[SU (by omega),SU b]
   have S:row.getD p 0≠v:=λe=>by
    have:=dV n (i:=i) (j:=p) (by simpa using hi) (by simpa using c) (by rw[a,a,SX rfl,SU (by omega),e]);omega
   have P:=hin (row.getD p 0) (by rw[←r];exact bj (by simpa using c));have key:=T p hp (row.set i (row.getD p 0)) (pl.set (row.getD p 0).toNat i) (by simpa using c) (g.nodup_iff.2 n) (by rw[Tt];exactλx hx=>hin x ((o x).1 hx)) ?_ ?_ ?_
   .obtain⟨U,V,W,X,Y⟩:=key;refine⟨U.trans g,V,W,λu B=>?_,by rw[Y,Tt]⟩;rw[X u (λh=>B ((o u).1 h)),bi,SU];rintro⟨e,_⟩;apply B;have:(u:Int)=row.getD p 0:=by omega
    rw[this,←r];exact bj (by simpa using c)
   .intro j hj f;simp only[Tt]at hj;rw[k]at f⊢;split at f
    .exact absurd rfl f
    .rename_i s;rw[SU s];split at f
     .rename_i b;rw[SX b,bi,SX ⟨rfl,by omega⟩,b]
     .rename_i b;rw[SU b];have t:=y j (by simpa using hj) (by rw[a,SU b];exact f);rw[a,SU b]at t;have O:row.getD j 0≠row.getD p 0:=λe=>s (dV n (by simpa using hj) (by simpa using c) (by rw[a,a,SU b,SU (by omega),e]));have w:=hin (row.getD j 0) (by have:=bj (l:=row.set i v) (i:=j) (by simpa using hj);rwa [a,SU b]at this);rw[bi,SU (by omega)];exact t
   .intro j d hj f;simp only[Tt]at hj;rw[k,k,SU f]
    by_cases b:j=i
    .rw[SX b,b,K,SX rfl];exact km N
    .rw[SU b];have m:=h1 j d hj b;rw[a,a,SU b]at m
     by_cases C:(j -1)/2=p
     .rw[SX C];rw[C,SU (by omega)]at m;exact iY m (km N)
     .rw[SU C]
      by_cases A:(j -1)/2=i
      .rw[SX A];have:=R j d hj A G
       rwa [a,a,SU b,SU (by omega)]at this
      .rw[SU A];rwa [SU A]at m
   .intro j d hj I J;simp only[Tt]at hj;have L:(p -1)/2≠p:=by omega
    have q:(p -1)/2≠i:=by omega
    rw[k,k,SU (by omega),SU L,SU q];have D:=h1 p J (by omega) (by omega);rw[a,a,SU (by omega),SU q]at D
    by_cases b:j=i
    .rw[SX b];exact D
    .rw[SU b];have m:=h1 j d hj b;rw[a,a,SU b,I,SU (by omega)]at m;exact iY m D
  .rename_i E;have a:∀j,(row.set i v).getD j 0=if j=i then v else row.getD j 0:=λj=>by
    rw[bi]
    by_cases b:j=i
    .subst b;rw[SX ⟨rfl,hi⟩,SX rfl]
    .rw[SU (by omega),SU b]
   have z:v∈row.set i v:=by have:=bj (l:=row.set i v) (i:=i) (by simpa using hi);rwa [F]at this
   have Q:=hin v z;refine⟨VS _,λj d hj _=>?_,λj hj=>?_,λu B=>?_,by simp⟩
   .simp only[Tt]at hj
    by_cases e:j=i
    .subst e;rw[a,a,SX rfl,SU (by omega)];have:¬kj sc v (row.getD ((j -1)/2) 0)=true:=λh=>E ⟨d,h⟩;simpa using this
    .exact h1 j d hj e
   .simp only[Tt]at hj;show(pl.set v.toNat (i:Int)).getD ((row.set i v).getD j 0).toNat 0=(j:Int)
    by_cases e:(row.set i v).getD j 0=v
    .have H:j=i:=dV n (by simpa using hj) (by simpa using hi) (by rw[e,F]);rw[e,bi,SX ⟨rfl,by omega⟩,H]
    .have m:=y j (by simpa using hj) e;have w:=hin _ (bj (l:=row.set i v) (i:=j) (by simpa using hj));rw[bi,SU (by omega)];exact m
   .rw[bi,SU];rintro⟨e,_⟩;apply B;have:(u:Int)=v:=by omega
    rw[this];exact z
/-! ### Down -/
def fp(sc row:List Int)(v:Int)(i:Nat):Int×Nat:=
 let a:=if 2*i+1<row.length∧kj sc (row.getD (2*i+1) 0) v=true then(row.getD (2*i+1) 0,2*i+1)else(v,i)
 if 2*i+2<row.length∧kj sc (row.getD (2*i+2) 0) a.1=true then(row.getD (2*i+2) 0,2*i+2)else a
theorem At{sc row:List Int}{v:Int}{i:Nat}:
    ((fp sc row v i = (v, i) ∧ ∀ j, j < row.length -> 0 < j -> (j - 1) / 2 = i -> kj sc (row.getD j 0) v = false) ∨
     (∃c,fp sc row v i=(row.getD c 0,c)∧c<row.length∧(c -1)/2=i∧i<c∧kj sc (row.getD c 0) v=true∧∀j,j<row.length->0<j->(j -1)/2=i->kj sc (row.getD j 0) (row.getD c 0)=false)):=by
  unfold fp
  by_cases h1:2*i+1<row.length∧kj sc (row.getD (2*i+1) 0) v=true
  · rw[SX h1]
    dsimp only
    by_cases a:2*i+2<row.length∧kj sc (row.getD (2*i+2) 0) (row.getD (2*i+1) 0)=true
    · rw[SX a]
      refine .inr ⟨2*i+2,rfl,a.1,by omega,by omega,?_,λj hj b d=>?_⟩
      · have f:=h1.2;have g:=a.2;rw[x9]at*;omega
      · have:j=2*i+1∨j=2*i+2:=by omega
        rcases this with rfl|rfl
        · exact km a.2
        · exact nC _ _
    · rw[SU a]
      refine .inr ⟨2*i+1,rfl,h1.1,by omega,by omega,h1.2,λj hj b d=>?_⟩
      have:j=2*i+1∨j=2*i+2:=by omega
      rcases this with rfl|rfl
      · exact nC _ _
      · have:¬kj sc (row.getD (2*i+2) 0) (row.getD (2*i+1) 0)=true:=λh=>a ⟨hj,h⟩
        simpa using this
  · rw[SU h1]
    dsimp only
    have e:∀hj:2*i+1<row.length,kj sc (row.getD (2*i+1) 0) v=false:=λhj=>by
      have:¬kj sc (row.getD (2*i+1) 0) v=true:=λh=>h1 ⟨hj,h⟩
      simpa using this
    by_cases a:2*i+2<row.length∧kj sc (row.getD (2*i+2) 0) v=true
    · rw[SX a]
      refine .inr ⟨2*i+2,rfl,a.1,by omega,by omega,a.2,λj hj b d=>?_⟩
      have:j=2*i+1∨j=2*i+2:=by omega
      rcases this with rfl|rfl
      · exact iY (e hj) (km a.2)
      · exact nC _ _
    · rw[SU a]
      refine .inl ⟨rfl,λj hj b d=>?_⟩
      have:j=2*i+1∨j=2*i+2:=by omega
      rcases this with rfl|rfl
      · exact e hj
      · have:¬kj sc (row.getD (2*i+2) 0) v=true:=λh=>a ⟨hj,h⟩
        simpa using this
def eh(sc:List Int)(v:Int):Nat->Nat->List Int->List Int->List Int×List Int
 |0,i,row,pl=>(row.set i v,pl.set v.toNat i)
 |n+1,i,row,pl=>
  if(fp sc row v i).2=i then(row.set i (fp sc row v i).1,pl.set (fp sc row v i).1.toNat i)
  else eh sc v n (fp sc row v i).2 ((row.set i (fp sc row v i).1).set (fp sc row v i).2 v) (pl.set (fp sc row v i).1.toNat i)
structure DnOk (sc row pl:List Int) (k:Nat) (r:List Int×List Int):Prop where
  perm:r.1.Perm row
  ho:HO sc r.1 k
  plc:PL r.1 r.2
  out:∀u:Nat,¬(u:Int)∈row->r.2.getD u 0=pl.getD u 0
  len:r.2.length=pl.length
theorem ul{sc:List Int}{v:Int}{k:Nat}:∀(n i:Nat)(row pl:List Int),i<row.length->row.length<=i+n->k<=i->row.getD i 0=v->row.Nodup->uG row pl.length->SH row pl v->
 (∀j,0<j->j<row.length->k<=(j -1)/2->(j -1)/2≠i->kj sc (row.getD j 0) (row.getD ((j -1)/2) 0)=false)->
 (∀j,0<j->j<row.length->(j -1)/2=i->0<i->k<=(i -1)/2->kj sc (row.getD j 0) (row.getD ((i -1)/2) 0)=false)->
 DnOk sc row pl k (eh sc v n i row pl)
 |0,i,row,pl,hi,hn,_,_,_,_,_,_,_=>by omega
 |n+1,i,row,pl,hi,hn,hk,r,m,hin,w,h1,K=>by
  have z:v∈row:=by have:=bj hi;rwa [r]at this
  have J:=hin v z;have y:row.set i v=row:=by
   apply VJ
   .simp
   .intro j U V;rw[Xv];split
    .rename_i e;subst e;have:row.getD i 0=row[i]:=by simp[hi]
     rw[←r,this]
    .rfl
  rcases At (sc:=sc) (row:=row) (v:=v) (i:=i)with⟨e,B⟩|⟨c,e,hcl,q,N,C,B⟩
  .simp only[eh,e,UU];rw[y];refine⟨VS _,λj b hj l=>?_,λj hj=>?_,λu A=>?_,by simp⟩
   .by_cases a:(j -1)/2=i
    .rw[a,r];exact B j hj b a
    .exact h1 j b hj l a
   .show(pl.set v.toNat (i:Int)).getD (row.getD j 0).toNat 0=(j:Int);replace hj:j<row.length:=hj
    by_cases a:row.getD j 0=v
    .have F:j=i:=dV m hj hi (by rw[a,r]);rw[a,bi,SX ⟨rfl,by omega⟩,F]
    .have t:=hin _ (bj hj);rw[bi,SU (by omega)];exact w j hj a
   .rw[bi,SU];rintro⟨a,_⟩;apply A;have:(u:Int)=v:=by omega
    rw[this];exact z
  .simp only[eh,e];rw[SU (by omega)];have G:(row.set i (row.getD c 0)).set c v=(row.set i (row.getD c 0)).set c (row.getD i 0):=by rw[r]
   have f:((row.set i (row.getD c 0)).set c v).Perm row:=by rw[G];exact swap_perm hi hcl
   have p:∀x,x∈(row.set i (row.getD c 0)).set c v↔x∈row:=λx=>f.mem_iff;have g:∀j,((row.set i (row.getD c 0)).set c v).getD j 0=if j=c then v else if j=i then row.getD c 0 else row.getD j 0:=λj=>by
    rw[bi,bi,Tt]
    by_cases o:j=c
    .subst o;rw[SX ⟨rfl,hcl⟩,SX rfl]
    .rw[SU (by omega),SU o]
     by_cases a:j=i
     .subst a;rw[SX ⟨rfl,hi⟩,SX rfl]
     .rw[SU (by omega),SU a]
   have M:row.getD c 0≠v:=λe=>by
    have:=dV m (i:=c) (j:=i) hcl hi (by rw[e,r]);omega
   have H:=hin _ (bj hcl);have key:=ul (sc:=sc) (k:=k) n c ((row.set i (row.getD c 0)).set c v) (pl.set (row.getD c 0).toNat i) (by simpa using hcl) (by simp;omega) (by omega) (by rw[g,SX rfl]) (f.nodup_iff.2 m) (by rw[Tt];exactλx hx=>hin x ((p x).1 hx)) ?_ ?_ ?_
   .obtain⟨P,Q,R,S,T⟩:=key;refine⟨P.trans f,Q,R,λu A=>?_,by rw[T,Tt]⟩;rw[S u (λh=>A ((p u).1 h)),bi,SU];rintro⟨a,_⟩;apply A;have:(u:Int)=row.getD c 0:=by omega
    rw[this];exact bj hcl
   .intro j hj d;simp only[Tt]at hj;rw[g]at d⊢;split at d
    .exact absurd rfl d
    .rename_i o;rw[SU o];split at d
     .rename_i a;rw[SX a,bi,SX ⟨rfl,by omega⟩,a]
     .rename_i a;rw[SU a];have D:=w j hj d;have I:row.getD j 0≠row.getD c 0:=λe=>o (dV m hj hcl e);have t:=hin _ (bj hj);rw[bi,SU (by omega)];exact D
   .intro j b hj l d;simp only[Tt]at hj;rw[g,g,SU d]
    by_cases s:(j -1)/2=i
    .rw[SX s]
     by_cases o:j=c
     .rw[SX o];exact km C
     .rw[SU o,SU (by omega)];exact B j hj b s
    .rw[SU s,SU (by intro e;subst e;exact s q)]
     by_cases a:j=i
     .rw[SX a];subst a;exact K c (by omega) hcl q (by omega) l
     .rw[SU a];exact h1 j b hj l s
   .intro j b hj E L O;simp only[Tt]at hj;rw[g,g,SU (by omega),SU (by omega),SU (by omega),SX q];have:=h1 j b hj (by omega) (by omega)
    rwa [E]at this
end Go.AX