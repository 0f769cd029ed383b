/-
  The plain law of heaps: rows in which each one is no better than the one at half its place.
-/
import Derived.Test.YtepodadinenmnaaGreatAxXW
namespace Go.AX
def km(sc:List Int)(v w:Int):Bool:=if sc.getD v.toNat 0≠sc.getD w.toNat 0 then decide (sc.getD w.toNat 0<sc.getD v.toNat 0)else decide (v<w)
theorem xY{sc:List Int}{v w:Int}:km sc v w=true↔(sc.getD w.toNat 0<sc.getD v.toNat 0∨(sc.getD v.toNat 0=sc.getD w.toNat 0∧v<w)):=by
 unfold km;split
 .rename_i h;simp only[S9];exact⟨.inl,λa=>a.elim id λb=>absurd b.1 h⟩
 .rename_i h;simp only[S9];simp only[ne_eq,Xi]at h;exact⟨λa=>.inr ⟨h,a⟩,λa=>a.elim (λb=>by omega) λb=>b.2⟩
theorem ii{sc:List Int}{v w:Int}:km sc v w=false↔(sc.getD v.toNat 0<sc.getD w.toNat 0∨(sc.getD v.toNat 0=sc.getD w.toNat 0∧w<=v)):=by
 rw[←V4,xY];omega
theorem kn{sc:List Int}{v w:Int}(h:km sc v w=true):km sc w v=false:=by rw[xY]at h;rw[ii];omega
theorem je{sc:List Int}{u v w:Int}(h:km sc u v=false)(a:km sc v w=false):km sc u w=false:=by rw[ii]at*;omega
theorem nA(sc:List Int)(v:Int):km sc v v=false:=by rw[ii];omega
theorem bf(l:List Int)(i j:Nat)(x:Int):(l.set i x).getD j 0=if i=j∧i<l.length then x else l.getD j 0:=by
 simp only[SI,Ts]
 by_cases h:i=j
 .subst h
  by_cases a:i<l.length
  .simp[a]
  .simp[a]
 .simp[h]
theorem bj{l:List Int}{i:Nat}(h:i<l.length):l.getD i 0∈l:=by simp[SI,h]
theorem JS{l:List Int}{x:Int}(h:x∈l):∃i,i<l.length∧l.getD i 0=x:=by
 obtain⟨i,hi,rfl⟩:=WV.1 h;exact⟨i,hi,by simp[hi]⟩
theorem dX{l:List Int}(h:l.Nodup){i j:Nat}(hi:i<l.length)(hj:j<l.length)(e:l.getD i 0=l.getD j 0):i=j:=by
 simp only[SI,SH hi,SH hj,Tx]at e;unfold List.Nodup at h;rw[Tv]at h;rcases UB i j with h1|h1|h1
 .exact absurd e (h i j hi hj h1)
 .exact h1
 .exact absurd e.symm (h j i hj hi h1)
theorem swap_perm{l:List Int}{i j:Nat}(hi:i<l.length)(hj:j<l.length):((l.set i (l.getD j 0)).set j (l.getD i 0)).Perm l:=by
 have:=@List.set_set_perm _ l _ _ hi hj;simpa[SI,hi,hj]using this
def HO(sc R:List Int)(k:Nat):Prop:=∀j,0<j->j<R.length->k<=(j -1)/2->km sc (R.getD j 0) (R.getD ((j -1)/2) 0)=false
def SA(R pl:List Int)(v:Int):Prop:=∀j,j<R.length->R.getD j 0≠v->pl.getD (R.getD j 0).toNat 0=(j:Int)
def PL(R pl:List Int):Prop:=∀j,j<R.length->pl.getD (R.getD j 0).toNat 0=(j:Int)
def uK(R:List Int)(n:Nat):Prop:=∀x∈R,1<=x∧x<(n:Int)
/-! ### Up -/
def rz(sc:List Int)(v:Int)(i:Nat)(row pl:List Int):List Int×List Int:=
 if h:0<i∧km sc v (row.getD ((i -1)/2) 0)=true then
  rz sc v ((i -1)/2) (row.set i (row.getD ((i -1)/2) 0)) (pl.set (row.getD ((i -1)/2) 0).toNat i)
 else(row.set i v,pl.set v.toNat i)
termination_by i
decreasing_by omega
structure UpOk (sc row pl:List Int) (v:Int) (r:List Int×List Int) (i:Nat):Prop where
  perm:r.1.Perm (row.set i v)
  ho:HO sc r.1 0
  plc:PL r.1 r.2
  out:∀u:Nat,¬(u:Int)∈row.set i v->r.2.getD u 0=pl.getD u 0
  len:r.2.length=pl.length
theorem JT{sc:List Int}{v:Int}:∀(i:Nat)(row pl:List Int),i<row.length->(row.set i v).Nodup->uK (row.set i v) pl.length->SA (row.set i v) pl v->
 (∀j,0<j->j<row.length->j≠i->km sc ((row.set i v).getD j 0) ((row.set i v).getD ((j -1)/2) 0)=false)->
 (∀j,0<j->j<row.length->(j -1)/2=i->0<i->km sc ((row.set i v).getD j 0) ((row.set i v).getD ((i -1)/2) 0)=false)->
 UpOk sc row pl v (rz sc v i row pl) i:=by
 intro i
 induction i using Nat.strongRecOn with
 |_ i T=>
  intro row pl hi n hin y h1 R;have F:(row.set i v).getD i 0=v:=by rw[bf,SN ⟨rfl,hi⟩]
  unfold rz;split
  .rename_i E;obtain⟨G,N⟩:=E;have hp:(i -1)/2<i:=by omega
   have c:(i -1)/2<row.length:=by omega
   generalize K:(i -1)/2=p at*;have r:(row.set i v).getD p 0=row.getD p 0:=by rw[bf,SM (by omega)]
   have M:(row.set i (row.getD p 0)).set p v=((row.set i v).set i ((row.set i v).getD p 0)).set p ((row.set i v).getD i 0):=by rw[F,r,Wb]
   have g:((row.set i (row.getD p 0)).set p v).Perm (row.set i v):=by rw[M];exact swap_perm (by simpa using hi) (by simpa using c)
   have o:∀x,x∈(row.set i (row.getD p 0)).set p v↔x∈row.set i v:=λx=>g.mem_iff;have k:∀j,((row.set i (row.getD p 0)).set p v).getD j 0=if j=p then v else if j=i then row.getD p 0 else row.getD j 0:=λj=>by
    rw[bf,bf,Ti]
    by_cases s:j=p
    .subst s;rw[SN ⟨rfl,c⟩,SN rfl]
    .rw[SM (by omega),SM s]
     by_cases b:j=i
     .subst b;rw[SN ⟨rfl,hi⟩,SN rfl]
     .rw[SM (by omega),SM b]
   have a:∀j,(row.set i v).getD j 0=if j=i then v else row.getD j 0:=λj=>by
    rw[bf]
    by_cases b:j=i
    .subst b;rw[SN ⟨rfl,hi⟩,SN rfl]
    .rw[SM (by omega),SM b]
   have S:row.getD p 0≠v:=λe=>by
    have:=dX n (i:=i) (j:=p) (by simpa using hi) (by simpa using c) (by rw[a,a,SN rfl,SM (by omega),e]);omega
   have P:=hin (row.getD p 0) (by rw[←r];exact bj (by simpa using c));have key:=T p hp (row.set i (row.getD p 0)) (pl.set (row.getD p 0).toNat i) (by simpa using c) (g.nodup_iff.2 n) (by rw[Ti];exactλx hx=>hin x ((o x).1 hx)) ?_ ?_ ?_
   .obtain⟨U,V,W,X,Y⟩:=key;refine⟨U.trans g,V,W,λu B=>?_,by rw[Y,Ti]⟩;rw[X u (λh=>B ((o u).1 h)),bf,SM];rintro⟨e,_⟩;apply B;have:(u:Int)=row.getD p 0:=by omega
    rw[this,←r];exact bj (by simpa using c)
   .intro j hj f;simp only[Ti]at hj;rw[k]at f⊢;split at f
    .exact absurd rfl f
    .rename_i s;rw[SM s];split at f
     .rename_i b;rw[SN b,bf,SN ⟨rfl,by omega⟩,b]
     .rename_i b;rw[SM b];have t:=y j (by simpa using hj) (by rw[a,SM b];exact f);rw[a,SM b]at t;have O:row.getD j 0≠row.getD p 0:=λe=>s (dX n (by simpa using hj) (by simpa using c) (by rw[a,a,SM b,SM (by omega),e]));have w:=hin (row.getD j 0) (by have:=bj (l:=row.set i v) (i:=j) (by simpa using hj);rwa [a,SM b]at this);rw[bf,SM (by omega)];exact t
   .intro j d hj f;simp only[Ti]at hj;rw[k,k,SM f]
    by_cases b:j=i
    .rw[SN b,b,K,SN rfl];exact kn N
    .rw[SM b];have m:=h1 j d hj b;rw[a,a,SM b]at m
     by_cases C:(j -1)/2=p
     .rw[SN C];rw[C,SM (by omega)]at m;exact je m (kn N)
     .rw[SM C]
      by_cases A:(j -1)/2=i
      .rw[SN A];have:=R j d hj A G
       rwa [a,a,SM b,SM (by omega)]at this
      .rw[SM A];rwa [SM A]at m
   .intro j d hj I J;simp only[Ti]at hj;have L:(p -1)/2≠p:=by omega
    have q:(p -1)/2≠i:=by omega
    rw[k,k,SM (by omega),SM L,SM q];have D:=h1 p J (by omega) (by omega);rw[a,a,SM (by omega),SM q]at D
    by_cases b:j=i
    .rw[SN b];exact D
    .rw[SM b];have m:=h1 j d hj b;rw[a,a,SM b,I,SM (by omega)]at m;exact je m D
  .rename_i E;have a:∀j,(row.set i v).getD j 0=if j=i then v else row.getD j 0:=λj=>by
    rw[bf]
    by_cases b:j=i
    .subst b;rw[SN ⟨rfl,hi⟩,SN rfl]
    .rw[SM (by omega),SM b]
   have z:v∈row.set i v:=by have:=bj (l:=row.set i v) (i:=i) (by simpa using hi);rwa [F]at this
   have Q:=hin v z;refine⟨V7 _,λj d hj _=>?_,λj hj=>?_,λu B=>?_,by simp⟩
   .simp only[Ti]at hj
    by_cases e:j=i
    .subst e;rw[a,a,SN rfl,SM (by omega)];have:¬km sc v (row.getD ((j -1)/2) 0)=true:=λh=>E ⟨d,h⟩;simpa using this
    .exact h1 j d hj e
   .simp only[Ti]at hj;show(pl.set v.toNat (i:Int)).getD ((row.set i v).getD j 0).toNat 0=(j:Int)
    by_cases e:(row.set i v).getD j 0=v
    .have H:j=i:=dX n (by simpa using hj) (by simpa using hi) (by rw[e,F]);rw[e,bf,SN ⟨rfl,by omega⟩,H]
    .have m:=y j (by simpa using hj) e;have w:=hin _ (bj (l:=row.set i v) (i:=j) (by simpa using hj));rw[bf,SM (by omega)];exact m
   .rw[bf,SM];rintro⟨e,_⟩;apply B;have:(u:Int)=v:=by omega
    rw[this];exact z
/-! ### Down -/
def fu(sc row:List Int)(v:Int)(i:Nat):Int×Nat:=
 let a:=if 2*i+1<row.length∧km sc (row.getD (2*i+1) 0) v=true then(row.getD (2*i+1) 0,2*i+1)else(v,i)
 if 2*i+2<row.length∧km sc (row.getD (2*i+2) 0) a.1=true then(row.getD (2*i+2) 0,2*i+2)else a
theorem Ai{sc row:List Int}{v:Int}{i:Nat}:
    ((fu sc row v i = (v, i) ∧ ∀ j, j < row.length -> 0 < j -> (j - 1) / 2 = i -> km sc (row.getD j 0) v = false) ∨
     (∃c,fu sc row v i=(row.getD c 0,c)∧c<row.length∧(c -1)/2=i∧i<c∧km sc (row.getD c 0) v=true∧∀j,j<row.length->0<j->(j -1)/2=i->km sc (row.getD j 0) (row.getD c 0)=false)):=by
  unfold fu
  by_cases h1:2*i+1<row.length∧km sc (row.getD (2*i+1) 0) v=true
  · rw[SN h1]
    dsimp only
    by_cases a:2*i+2<row.length∧km sc (row.getD (2*i+2) 0) (row.getD (2*i+1) 0)=true
    · rw[SN a]
      refine .inr ⟨2*i+2,rfl,a.1,by omega,by omega,?_,λj hj b d=>?_⟩
      · have f:=h1.2;have g:=a.2;rw[xY]at*;omega
      · have:j=2*i+1∨j=2*i+2:=by omega
        rcases this with rfl|rfl
        · exact kn a.2
        · exact nA _ _
    · rw[SM a]
      refine .inr ⟨2*i+1,rfl,h1.1,by omega,by omega,h1.2,λj hj b d=>?_⟩
      have:j=2*i+1∨j=2*i+2:=by omega
      rcases this with rfl|rfl
      · exact nA _ _
      · have:¬km sc (row.getD (2*i+2) 0) (row.getD (2*i+1) 0)=true:=λh=>a ⟨hj,h⟩
        simpa using this
  · rw[SM h1]
    dsimp only
    have e:∀hj:2*i+1<row.length,km sc (row.getD (2*i+1) 0) v=false:=λhj=>by
      have:¬km sc (row.getD (2*i+1) 0) v=true:=λh=>h1 ⟨hj,h⟩
      simpa using this
    by_cases a:2*i+2<row.length∧km sc (row.getD (2*i+2) 0) v=true
    · rw[SN a]
      refine .inr ⟨2*i+2,rfl,a.1,by omega,by omega,a.2,λj hj b d=>?_⟩
      have:j=2*i+1∨j=2*i+2:=by omega
      rcases this with rfl|rfl
      · exact je (e hj) (kn a.2)
      · exact nA _ _
    · rw[SM a]
      refine .inl ⟨rfl,λj hj b d=>?_⟩
      have:j=2*i+1∨j=2*i+2:=by omega
      rcases this with rfl|rfl
      · exact e hj
      · have:¬km sc (row.getD (2*i+2) 0) v=true:=λh=>a ⟨hj,h⟩
        simpa using this
def ed(sc:List Int)(v:Int):Nat->Nat->List Int->List Int->List Int×List Int
 |0,i,row,pl=>(row.set i v,pl.set v.toNat i)
 |n+1,i,row,pl=>
  if(fu sc row v i).2=i then(row.set i (fu sc row v i).1,pl.set (fu sc row v i).1.toNat i)
  else ed sc v n (fu sc row v i).2 ((row.set i (fu sc row v i).1).set (fu sc row v i).2 v) (pl.set (fu sc row v i).1.toNat i)
structure DnOk (sc row pl:List Int) (k:Nat) (r:List Int×List Int):Prop where
  perm:r.1.Perm row
  ho:HO sc r.1 k
  plc:PL r.1 r.2
  out:∀u:Nat,¬(u:Int)∈row->r.2.getD u 0=pl.getD u 0
  len:r.2.length=pl.length
theorem uo{sc:List Int}{v:Int}{k:Nat}:∀(n i:Nat)(row pl:List Int),i<row.length->row.length<=i+n->k<=i->row.getD i 0=v->row.Nodup->uK row pl.length->SA row pl v->
 (∀j,0<j->j<row.length->k<=(j -1)/2->(j -1)/2≠i->km sc (row.getD j 0) (row.getD ((j -1)/2) 0)=false)->
 (∀j,0<j->j<row.length->(j -1)/2=i->0<i->k<=(i -1)/2->km sc (row.getD j 0) (row.getD ((i -1)/2) 0)=false)->
 DnOk sc row pl k (ed sc v n i row pl)
 |0,i,row,pl,hi,hn,_,_,_,_,_,_,_=>by omega
 |n+1,i,row,pl,hi,hn,hk,r,m,hin,w,h1,K=>by
  have z:v∈row:=by have:=bj hi;rwa [r]at this
  have J:=hin v z;have y:row.set i v=row:=by
   apply Vx
   .simp
   .intro j U V;rw[Xr];split
    .rename_i e;subst e;have:row.getD i 0=row[i]:=by simp[hi]
     rw[←r,this]
    .rfl
  rcases Ai (sc:=sc) (row:=row) (v:=v) (i:=i)with⟨e,B⟩|⟨c,e,hcl,q,N,C,B⟩
  .simp only[ed,e,UO];rw[y];refine⟨V7 _,λj b hj l=>?_,λj hj=>?_,λu A=>?_,by simp⟩
   .by_cases a:(j -1)/2=i
    .rw[a,r];exact B j hj b a
    .exact h1 j b hj l a
   .show(pl.set v.toNat (i:Int)).getD (row.getD j 0).toNat 0=(j:Int);replace hj:j<row.length:=hj
    by_cases a:row.getD j 0=v
    .have F:j=i:=dX m hj hi (by rw[a,r]);rw[a,bf,SN ⟨rfl,by omega⟩,F]
    .have t:=hin _ (bj hj);rw[bf,SM (by omega)];exact w j hj a
   .rw[bf,SM];rintro⟨a,_⟩;apply A;have:(u:Int)=v:=by omega
    rw[this];exact z
  .simp only[ed,e];rw[SM (by omega)];have G:(row.set i (row.getD c 0)).set c v=(row.set i (row.getD c 0)).set c (row.getD i 0):=by rw[r]
   have f:((row.set i (row.getD c 0)).set c v).Perm row:=by rw[G];exact swap_perm hi hcl
   have p:∀x,x∈(row.set i (row.getD c 0)).set c v↔x∈row:=λx=>f.mem_iff;have g:∀j,((row.set i (row.getD c 0)).set c v).getD j 0=if j=c then v else if j=i then row.getD c 0 else row.getD j 0:=λj=>by
    rw[bf,bf,Ti]
    by_cases o:j=c
    .subst o;rw[SN ⟨rfl,hcl⟩,SN rfl]
    .rw[SM (by omega),SM o]
     by_cases a:j=i
     .subst a;rw[SN ⟨rfl,hi⟩,SN rfl]
     .rw[SM (by omega),SM a]
   have M:row.getD c 0≠v:=λe=>by
    have:=dX m (i:=c) (j:=i) hcl hi (by rw[e,r]);omega
   have H:=hin _ (bj hcl);have key:=uo (sc:=sc) (k:=k) n c ((row.set i (row.getD c 0)).set c v) (pl.set (row.getD c 0).toNat i) (by simpa using hcl) (by simp;omega) (by omega) (by rw[g,SN rfl]) (f.nodup_iff.2 m) (by rw[Ti];exactλx hx=>hin x ((p x).1 hx)) ?_ ?_ ?_
   .obtain⟨P,Q,R,S,T⟩:=key;refine⟨P.trans f,Q,R,λu A=>?_,by rw[T,Ti]⟩;rw[S u (λh=>A ((p u).1 h)),bf,SM];rintro⟨a,_⟩;apply A;have:(u:Int)=row.getD c 0:=by omega
    rw[this];exact bj hcl
   .intro j hj d;simp only[Ti]at hj;rw[g]at d⊢;split at d
    .exact absurd rfl d
    .rename_i o;rw[SM o];split at d
     .rename_i a;rw[SN a,bf,SN ⟨rfl,by omega⟩,a]
     .rename_i a;rw[SM a];have D:=w j hj d;have I:row.getD j 0≠row.getD c 0:=λe=>o (dX m hj hcl e);have t:=hin _ (bj hj);rw[bf,SM (by omega)];exact D
   .intro j b hj l d;simp only[Ti]at hj;rw[g,g,SM d]
    by_cases s:(j -1)/2=i
    .rw[SN s]
     by_cases o:j=c
     .rw[SN o];exact kn C
     .rw[SM o,SM (by omega)];exact B j hj b s
    .rw[SM s,SM (by intro e;subst e;exact s q)]
     by_cases a:j=i
     .rw[SN a];subst a;exact K c (by omega) hcl q (by omega) l
     .rw[SM a];exact h1 j b hj l s
   .intro j b hj E L O;simp only[Ti]at hj;rw[g,g,SM (by omega),SM (by omega),SM (by omega),SN q];have:=h1 j b hj (by omega) (by omega)
    rwa [E]at this
end Go.AX