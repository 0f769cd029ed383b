/-
  The plain law of heaps: rows in which each one is no better than the one at half its place.
-/
import Derived.Test.YtepodadinenmnaaGreatAxXW
namespace Go.AX
def jd(sc:List Int)(v w:Int):Bool:=if sc.getD v.toNat 0≠sc.getD w.toNat 0 then decide (sc.getD w.toNat 0<sc.getD v.toNat 0)else decide (v<w)
theorem uQ{sc:List Int}{v w:Int}:jd sc v w=true↔(sc.getD w.toNat 0<sc.getD v.toNat 0∨(sc.getD v.toNat 0=sc.getD w.toNat 0∧v<w)):=by
 unfold jd;split
 .rename_i h;simp only[Ov];exact⟨.inl,λa=>a.elim id λb=>absurd b.1 h⟩
 .rename_i h;simp only[Ov];simp only[ne_eq,Classical.not_not]at h;exact⟨λa=>.inr ⟨h,a⟩,λa=>a.elim (λb=>by omega) λb=>b.2⟩
theorem gh{sc:List Int}{v w:Int}:jd sc v w=false↔(sc.getD v.toNat 0<sc.getD w.toNat 0∨(sc.getD v.toNat 0=sc.getD w.toNat 0∧w<=v)):=by
 rw[←Rn,uQ];omega
theorem je{sc:List Int}{v w:Int}(h:jd sc v w=true):jd sc w v=false:=by rw[uQ]at h;rw[gh];omega
theorem gZ{sc:List Int}{u v w:Int}(h:jd sc u v=false)(a:jd sc v w=false):jd sc u w=false:=by rw[gh]at*;omega
theorem l3(sc:List Int)(v:Int):jd sc v v=false:=by rw[gh];omega
theorem aT(l:List Int)(i j:Nat)(x:Int):(l.set i x).getD j 0=if i=j∧i<l.length then x else l.getD j 0:=by
 simp only[N7,OD]
 by_cases h:i=j
 .subst h
  by_cases a:i<l.length
  .simp[a]
  .simp[a]
 .simp[h]
theorem aU{l:List Int}{i:Nat}(h:i<l.length):l.getD i 0∈l:=by simp[N7,h]
theorem Fd{l:List Int}{x:Int}(h:x∈l):∃i,i<l.length∧l.getD i 0=x:=by
 obtain⟨i,hi,rfl⟩:=RS.1 h;exact⟨i,hi,by simp[hi]⟩
theorem dC{l:List Int}(h:l.Nodup){i j:Nat}(hi:i<l.length)(hj:j<l.length)(e:l.getD i 0=l.getD j 0):i=j:=by
 simp only[N7,N6 hi,N6 hj,OH]at e;unfold List.Nodup at h;rw[OR]at h;rcases PM i j with h1|h1|h1
 .exact absurd e (h i j hi hj h1)
 .exact h1
 .exact absurd e.symm (h j i hj hi h1)
theorem swap_perm{l:List Int}{i j:Nat}(hi:i<l.length)(hj:j<l.length):((l.set i (l.getD j 0)).set j (l.getD i 0)).Perm l:=by
 have:=@List.set_set_perm _ l _ _ hi hj;simpa[N7,hi,hj]using this
def HO(sc R:List Int)(k:Nat):Prop:=∀j,0<j->j<R.length->k<=(j -1)/2->jd sc (R.getD j 0) (R.getD ((j -1)/2) 0)=false
def NZ(R pl:List Int)(v:Int):Prop:=∀j,j<R.length->R.getD j 0≠v->pl.getD (R.getD j 0).toNat 0=(j:Int)
def PL(R pl:List Int):Prop:=∀j,j<R.length->pl.getD (R.getD j 0).toNat 0=(j:Int)
def rO(R:List Int)(n:Nat):Prop:=∀x∈R,1<=x∧x<(n:Int)
/-! ### Up -/
def pg(sc:List Int)(v:Int)(i:Nat)(row pl:List Int):List Int×List Int:=
 if h:0<i∧jd sc v (row.getD ((i -1)/2) 0)=true then
  pg sc v ((i -1)/2) (row.set i (row.getD ((i -1)/2) 0)) (pl.set (row.getD ((i -1)/2) 0).toNat i)
 else(row.set i v,pl.set v.toNat i)
termination_by i
decreasing_by omega
structure UpOk (sc row pl:List Int) (v:Int) (r:List Int×List Int) (i:Nat):Prop where
  perm:r.1.Perm (row.set i v)
  ho:HO sc r.1 0
  plc:PL r.1 r.2
  out:∀u:Nat,¬(u:Int)∈row.set i v->r.2.getD u 0=pl.getD u 0
  len:r.2.length=pl.length
theorem Fe{sc:List Int}{v:Int}:∀(i:Nat)(row pl:List Int),i<row.length->(row.set i v).Nodup->rO (row.set i v) pl.length->NZ (row.set i v) pl v->
 (∀j,0<j->j<row.length->j≠i->jd sc ((row.set i v).getD j 0) ((row.set i v).getD ((j -1)/2) 0)=false)->
 (∀j,0<j->j<row.length->(j -1)/2=i->0<i->jd sc ((row.set i v).getD j 0) ((row.set i v).getD ((i -1)/2) 0)=false)->
 UpOk sc row pl v (pg sc v i row pl) i:=by
 intro i
 induction i using Nat.strongRecOn with
 |_ i T=>
  intro row pl hi n hin y h1 R;have F:(row.set i v).getD i 0=v:=by rw[aT,N9 ⟨rfl,hi⟩]
  unfold pg;split
  .rename_i E;obtain⟨G,N⟩:=E;have hp:(i -1)/2<i:=by omega
   have c:(i -1)/2<row.length:=by omega
   generalize K:(i -1)/2=p at*;have r:(row.set i v).getD p 0=row.getD p 0:=by rw[aT,N8 (by omega)]
   have M:(row.set i (row.getD p 0)).set p v=((row.set i v).set i ((row.set i v).getD p 0)).set p ((row.set i v).getD i 0):=by rw[F,r,RJ]
   have g:((row.set i (row.getD p 0)).set p v).Perm (row.set i v):=by rw[M];exact swap_perm (by simpa using hi) (by simpa using c)
   have o:∀x,x∈(row.set i (row.getD p 0)).set p v↔x∈row.set i v:=λx=>g.mem_iff;have k:∀j,((row.set i (row.getD p 0)).set p v).getD j 0=if j=p then v else if j=i then row.getD p 0 else row.getD j 0:=λj=>by
    rw[aT,aT,OE]
    by_cases s:j=p
    .subst s;rw[N9 ⟨rfl,c⟩,N9 rfl]
    .rw[N8 (by omega),N8 s]
     by_cases b:j=i
     .subst b;rw[N9 ⟨rfl,hi⟩,N9 rfl]
     .rw[N8 (by omega),N8 b]
   have a:∀j,(row.set i v).getD j 0=if j=i then v else row.getD j 0:=λj=>by
    rw[aT]
    by_cases b:j=i
    .subst b;rw[N9 ⟨rfl,hi⟩,N9 rfl]
    .rw[N8 (by omega),N8 b]
   have S:row.getD p 0≠v:=λe=>by
    have:=dC n (i:=i) (j:=p) (by simpa using hi) (by simpa using c) (by rw[a,a,N9 rfl,N8 (by omega),e]);omega
   have P:=hin (row.getD p 0) (by rw[←r];exact aU (by simpa using c));have key:=T p hp (row.set i (row.getD p 0)) (pl.set (row.getD p 0).toNat i) (by simpa using c) (g.nodup_iff.2 n) (by rw[OE];exactλx hx=>hin x ((o x).1 hx)) ?_ ?_ ?_
   .obtain⟨U,V,W,X,Y⟩:=key;refine⟨U.trans g,V,W,λu B=>?_,by rw[Y,OE]⟩;rw[X u (λh=>B ((o u).1 h)),aT,N8];rintro⟨e,_⟩;apply B;have:(u:Int)=row.getD p 0:=by omega
    rw[this,←r];exact aU (by simpa using c)
   .intro j hj f;simp only[OE]at hj;rw[k]at f⊢;split at f
    .exact absurd rfl f
    .rename_i s;rw[N8 s];split at f
     .rename_i b;rw[N9 b,aT,N9 ⟨rfl,by omega⟩,b]
     .rename_i b;rw[N8 b];have t:=y j (by simpa using hj) (by rw[a,N8 b];exact f);rw[a,N8 b]at t;have O:row.getD j 0≠row.getD p 0:=λe=>s (dC n (by simpa using hj) (by simpa using c) (by rw[a,a,N8 b,N8 (by omega),e]));have w:=hin (row.getD j 0) (by have:=aU (l:=row.set i v) (i:=j) (by simpa using hj);rwa [a,N8 b]at this);rw[aT,N8 (by omega)];exact t
   .intro j d hj f;simp only[OE]at hj;rw[k,k,N8 f]
    by_cases b:j=i
    .rw[N9 b,b,K,N9 rfl];exact je N
    .rw[N8 b];have m:=h1 j d hj b;rw[a,a,N8 b]at m
     by_cases C:(j -1)/2=p
     .rw[N9 C];rw[C,N8 (by omega)]at m;exact gZ m (je N)
     .rw[N8 C]
      by_cases A:(j -1)/2=i
      .rw[N9 A];have:=R j d hj A G
       rwa [a,a,N8 b,N8 (by omega)]at this
      .rw[N8 A];rwa [N8 A]at m
   .intro j d hj I J;simp only[OE]at hj;have L:(p -1)/2≠p:=by omega
    have q:(p -1)/2≠i:=by omega
    rw[k,k,N8 (by omega),N8 L,N8 q];have D:=h1 p J (by omega) (by omega);rw[a,a,N8 (by omega),N8 q]at D
    by_cases b:j=i
    .rw[N9 b];exact D
    .rw[N8 b];have m:=h1 j d hj b;rw[a,a,N8 b,I,N8 (by omega)]at m;exact gZ m D
  .rename_i E;have a:∀j,(row.set i v).getD j 0=if j=i then v else row.getD j 0:=λj=>by
    rw[aT]
    by_cases b:j=i
    .subst b;rw[N9 ⟨rfl,hi⟩,N9 rfl]
    .rw[N8 (by omega),N8 b]
   have z:v∈row.set i v:=by have:=aU (l:=row.set i v) (i:=i) (by simpa using hi);rwa [F]at this
   have Q:=hin v z;refine⟨Q5 _,λj d hj _=>?_,λj hj=>?_,λu B=>?_,by simp⟩
   .simp only[OE]at hj
    by_cases e:j=i
    .subst e;rw[a,a,N9 rfl,N8 (by omega)];have:¬jd sc v (row.getD ((j -1)/2) 0)=true:=λh=>E ⟨d,h⟩;simpa using this
    .exact h1 j d hj e
   .simp only[OE]at hj;show(pl.set v.toNat (i:Int)).getD ((row.set i v).getD j 0).toNat 0=(j:Int)
    by_cases e:(row.set i v).getD j 0=v
    .have H:j=i:=dC n (by simpa using hj) (by simpa using hi) (by rw[e,F]);rw[e,aT,N9 ⟨rfl,by omega⟩,H]
    .have m:=y j (by simpa using hj) e;have w:=hin _ (aU (l:=row.set i v) (i:=j) (by simpa using hj));rw[aT,N8 (by omega)];exact m
   .rw[aT,N8];rintro⟨e,_⟩;apply B;have:(u:Int)=v:=by omega
    rw[this];exact z
/-! ### Down -/
def eu(sc row:List Int)(v:Int)(i:Nat):Int×Nat:=
 let a:=if 2*i+1<row.length∧jd sc (row.getD (2*i+1) 0) v=true then(row.getD (2*i+1) 0,2*i+1)else(v,i)
 if 2*i+2<row.length∧jd sc (row.getD (2*i+2) 0) a.1=true then(row.getD (2*i+2) 0,2*i+2)else a
theorem wO{sc row:List Int}{v:Int}{i:Nat}:
    ((eu sc row v i = (v, i) ∧ ∀ j, j < row.length -> 0 < j -> (j - 1) / 2 = i -> jd sc (row.getD j 0) v = false) ∨
     (∃c,eu sc row v i=(row.getD c 0,c)∧c<row.length∧(c -1)/2=i∧i<c∧jd sc (row.getD c 0) v=true∧∀j,j<row.length->0<j->(j -1)/2=i->jd sc (row.getD j 0) (row.getD c 0)=false)):=by
  unfold eu
  by_cases h1:2*i+1<row.length∧jd sc (row.getD (2*i+1) 0) v=true
  · rw[N9 h1]
    dsimp only
    by_cases a:2*i+2<row.length∧jd sc (row.getD (2*i+2) 0) (row.getD (2*i+1) 0)=true
    · rw[N9 a]
      refine .inr ⟨2*i+2,rfl,a.1,by omega,by omega,?_,λj hj b d=>?_⟩
      · have f:=h1.2;have g:=a.2;rw[uQ]at*;omega
      · have:j=2*i+1∨j=2*i+2:=by omega
        rcases this with rfl|rfl
        · exact je a.2
        · exact l3 _ _
    · rw[N8 a]
      refine .inr ⟨2*i+1,rfl,h1.1,by omega,by omega,h1.2,λj hj b d=>?_⟩
      have:j=2*i+1∨j=2*i+2:=by omega
      rcases this with rfl|rfl
      · exact l3 _ _
      · have:¬jd sc (row.getD (2*i+2) 0) (row.getD (2*i+1) 0)=true:=λh=>a ⟨hj,h⟩
        simpa using this
  · rw[N8 h1]
    dsimp only
    have e:∀hj:2*i+1<row.length,jd sc (row.getD (2*i+1) 0) v=false:=λhj=>by
      have:¬jd sc (row.getD (2*i+1) 0) v=true:=λh=>h1 ⟨hj,h⟩
      simpa using this
    by_cases a:2*i+2<row.length∧jd sc (row.getD (2*i+2) 0) v=true
    · rw[N9 a]
      refine .inr ⟨2*i+2,rfl,a.1,by omega,by omega,a.2,λj hj b d=>?_⟩
      have:j=2*i+1∨j=2*i+2:=by omega
      rcases this with rfl|rfl
      · exact gZ (e hj) (je a.2)
      · exact l3 _ _
    · rw[N8 a]
      refine .inl ⟨rfl,λj hj b d=>?_⟩
      have:j=2*i+1∨j=2*i+2:=by omega
      rcases this with rfl|rfl
      · exact e hj
      · have:¬jd sc (row.getD (2*i+2) 0) v=true:=λh=>a ⟨hj,h⟩
        simpa using this
def dR(sc:List Int)(v:Int):Nat->Nat->List Int->List Int->List Int×List Int
 |0,i,row,pl=>(row.set i v,pl.set v.toNat i)
 |n+1,i,row,pl=>
  if(eu sc row v i).2=i then(row.set i (eu sc row v i).1,pl.set (eu sc row v i).1.toNat i)
  else dR sc v n (eu sc row v i).2 ((row.set i (eu sc row v i).1).set (eu sc row v i).2 v) (pl.set (eu sc row v i).1.toNat i)
structure DnOk (sc row pl:List Int) (k:Nat) (r:List Int×List Int):Prop where
  perm:r.1.Perm row
  ho:HO sc r.1 k
  plc:PL r.1 r.2
  out:∀u:Nat,¬(u:Int)∈row->r.2.getD u 0=pl.getD u 0
  len:r.2.length=pl.length
theorem ru{sc:List Int}{v:Int}{k:Nat}:∀(n i:Nat)(row pl:List Int),i<row.length->row.length<=i+n->k<=i->row.getD i 0=v->row.Nodup->rO row pl.length->NZ row pl v->
 (∀j,0<j->j<row.length->k<=(j -1)/2->(j -1)/2≠i->jd sc (row.getD j 0) (row.getD ((j -1)/2) 0)=false)->
 (∀j,0<j->j<row.length->(j -1)/2=i->0<i->k<=(i -1)/2->jd sc (row.getD j 0) (row.getD ((i -1)/2) 0)=false)->
 DnOk sc row pl k (dR sc v n i row pl)
 |0,i,row,pl,hi,hn,_,_,_,_,_,_,_=>by omega
 |n+1,i,row,pl,hi,hn,hk,s,o,hin,y,h1,L=>by
  have A:v∈row:=by have:=aU hi;rwa [s]at this
  have K:=hin v A;have z:row.set i v=row:=by
   apply Qw
   .simp
   .intro j V W;rw[Su];split
    .rename_i e;subst e;have:row.getD i 0=row[i]:=by simp[hi]
     rw[←s,this]
    .rfl
  rcases wO (sc:=sc) (row:=row) (v:=v) (i:=i)with⟨e,C⟩|⟨c,e,b,r,O,D,C⟩
  .simp only[dR,e,PT];rw[z];refine⟨Q5 _,λj d hj m=>?_,λj hj=>?_,λu B=>?_,by simp⟩
   .by_cases a:(j -1)/2=i
    .rw[a,s];exact C j hj d a
    .exact h1 j d hj m a
   .show(pl.set v.toNat (i:Int)).getD (row.getD j 0).toNat 0=(j:Int);replace hj:j<row.length:=hj
    by_cases a:row.getD j 0=v
    .have G:j=i:=dC o hj hi (by rw[a,s]);rw[a,aT,N9 ⟨rfl,by omega⟩,G]
    .have w:=hin _ (aU hj);rw[aT,N8 (by omega)];exact y j hj a
   .rw[aT,N8];rintro⟨a,_⟩;apply B;have:(u:Int)=v:=by omega
    rw[this];exact A
  .simp only[dR,e];rw[N8 (by omega)];have H:(row.set i (row.getD c 0)).set c v=(row.set i (row.getD c 0)).set c (row.getD i 0):=by rw[s]
   have g:((row.set i (row.getD c 0)).set c v).Perm row:=by rw[H];exact swap_perm hi b
   have q:∀x,x∈(row.set i (row.getD c 0)).set c v↔x∈row:=λx=>g.mem_iff;have l:∀j,((row.set i (row.getD c 0)).set c v).getD j 0=if j=c then v else if j=i then row.getD c 0 else row.getD j 0:=λj=>by
    rw[aT,aT,OE]
    by_cases p:j=c
    .subst p;rw[N9 ⟨rfl,b⟩,N9 rfl]
    .rw[N8 (by omega),N8 p]
     by_cases a:j=i
     .subst a;rw[N9 ⟨rfl,hi⟩,N9 rfl]
     .rw[N8 (by omega),N8 a]
   have N:row.getD c 0≠v:=λe=>by
    have:=dC o (i:=c) (j:=i) b hi (by rw[e,s]);omega
   have I:=hin _ (aU b);have key:=ru (sc:=sc) (k:=k) n c ((row.set i (row.getD c 0)).set c v) (pl.set (row.getD c 0).toNat i) (by simpa using b) (by simp;omega) (by omega) (by rw[l,N9 rfl]) (g.nodup_iff.2 o) (by rw[OE];exactλx hx=>hin x ((q x).1 hx)) ?_ ?_ ?_
   .obtain⟨Q,R,S,T,U⟩:=key;refine⟨Q.trans g,R,S,λu B=>?_,by rw[U,OE]⟩;rw[T u (λh=>B ((q u).1 h)),aT,N8];rintro⟨a,_⟩;apply B;have:(u:Int)=row.getD c 0:=by omega
    rw[this];exact aU b
   .intro j hj f;simp only[OE]at hj;rw[l]at f⊢;split at f
    .exact absurd rfl f
    .rename_i p;rw[N8 p];split at f
     .rename_i a;rw[N9 a,aT,N9 ⟨rfl,by omega⟩,a]
     .rename_i a;rw[N8 a];have E:=y j hj f;have J:row.getD j 0≠row.getD c 0:=λe=>p (dC o hj b e);have w:=hin _ (aU hj);rw[aT,N8 (by omega)];exact E
   .intro j d hj m f;simp only[OE]at hj;rw[l,l,N8 f]
    by_cases t:(j -1)/2=i
    .rw[N9 t]
     by_cases p:j=c
     .rw[N9 p];exact je D
     .rw[N8 p,N8 (by omega)];exact C j hj d t
    .rw[N8 t,N8 (by intro e;subst e;exact t r)]
     by_cases a:j=i
     .rw[N9 a];subst a;exact L c (by omega) b r (by omega) m
     .rw[N8 a];exact h1 j d hj m t
   .intro j d hj F M P;simp only[OE]at hj;rw[l,l,N8 (by omega),N8 (by omega),N8 (by omega),N9 r];have:=h1 j d hj (by omega) (by omega)
    rwa [F]at this
end Go.AX