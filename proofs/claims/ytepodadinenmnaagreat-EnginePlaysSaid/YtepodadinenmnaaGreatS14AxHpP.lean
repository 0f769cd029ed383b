/-
  The plain law of heaps: rows in which each one is no better than the one at half its place.
-/
import Derived.Test.YtepodadinenmnaaGreatAxXW
namespace Go.AX
def j8(sc:List Int)(v w:Int):Bool:=if sc.getD v.toNat 0≠sc.getD w.toNat 0 then decide (sc.getD w.toNat 0<sc.getD v.toNat 0)else decide (v<w)
theorem xx{sc:List Int}{v w:Int}:j8 sc v w=true↔(sc.getD w.toNat 0<sc.getD v.toNat 0∨(sc.getD v.toNat 0=sc.getD w.toNat 0∧v<w)):=by
 unfold j8;split
 .rename_i h;simp only[RP];exact⟨.inl,λa=>a.elim id λb=>absurd b.1 h⟩
 .rename_i h;simp only[RP];simp only[ne_eq,Classical.not_not]at h;exact⟨λa=>.inr ⟨h,a⟩,λa=>a.elim (λb=>by omega) λb=>b.2⟩
theorem gW{sc:List Int}{v w:Int}:j8 sc v w=false↔(sc.getD v.toNat 0<sc.getD w.toNat 0∨(sc.getD v.toNat 0=sc.getD w.toNat 0∧w<=v)):=by
 rw[←Uj,xx];omega
theorem j9{sc:List Int}{v w:Int}(h:j8 sc v w=true):j8 sc w v=false:=by rw[xx]at h;rw[gW];omega
theorem iQ{sc:List Int}{u v w:Int}(h:j8 sc u v=false)(a:j8 sc v w=false):j8 sc u w=false:=by rw[gW]at*;omega
theorem m9(sc:List Int)(v:Int):j8 sc v v=false:=by rw[gW];omega
theorem bg(l:List Int)(i j:Nat)(x:Int):(l.set i x).getD j 0=if i=j∧i<l.length then x else l.getD j 0:=by
 simp only[Rv,R4]
 by_cases h:i=j
 .subst h
  by_cases a:i<l.length
  .simp[a]
  .simp[a]
 .simp[h]
theorem bi{l:List Int}{i:Nat}(h:i<l.length):l.getD i 0∈l:=by simp[Rv,h]
theorem I4{l:List Int}{x:Int}(h:x∈l):∃i,i<l.length∧l.getD i 0=x:=by
 obtain⟨i,hi,rfl⟩:=Vx.1 h;exact⟨i,hi,by simp[hi]⟩
theorem dY{l:List Int}(h:l.Nodup){i j:Nat}(hi:i<l.length)(hj:j<l.length)(e:l.getD i 0=l.getD j 0):i=j:=by
 simp only[Rv,Ru hi,Ru hj,Sa]at e;unfold List.Nodup at h;rw[R9]at h;rcases TM i j with h1|h1|h1
 .exact absurd e (h i j hi hj h1)
 .exact h1
 .exact absurd e.symm (h j i hj hi h1)
theorem swap_perm{l:List Int}{i j:Nat}(hi:i<l.length)(hj:j<l.length):((l.set i (l.getD j 0)).set j (l.getD i 0)).Perm l:=by
 have:=@List.set_set_perm _ l _ _ hi hj;simpa[Rv,hi,hj]using this
def HO(sc R:List Int)(k:Nat):Prop:=∀j,0<j->j<R.length->k<=(j -1)/2->j8 sc (R.getD j 0) (R.getD ((j -1)/2) 0)=false
def Rm(R pl:List Int)(v:Int):Prop:=∀j,j<R.length->R.getD j 0≠v->pl.getD (R.getD j 0).toNat 0=(j:Int)
def PL(R pl:List Int):Prop:=∀j,j<R.length->pl.getD (R.getD j 0).toNat 0=(j:Int)
def uc(R:List Int)(n:Nat):Prop:=∀x∈R,1<=x∧x<(n:Int)
/-! ### Up -/
def qQ(sc:List Int)(v:Int)(i:Nat)(row pl:List Int):List Int×List Int:=
 if h:0<i∧j8 sc v (row.getD ((i -1)/2) 0)=true then
  qQ sc v ((i -1)/2) (row.set i (row.getD ((i -1)/2) 0)) (pl.set (row.getD ((i -1)/2) 0).toNat i)
 else(row.set i v,pl.set v.toNat i)
termination_by i
decreasing_by omega
structure UpOk (sc row pl:List Int) (v:Int) (r:List Int×List Int) (i:Nat):Prop where
  perm:r.1.Perm (row.set i v)
  ho:HO sc r.1 0
  plc:PL r.1 r.2
  out:∀u:Nat,¬(u:Int)∈row.set i v->r.2.getD u 0=pl.getD u 0
  len:r.2.length=pl.length
theorem I5{sc:List Int}{v:Int}:∀(i:Nat)(row pl:List Int),i<row.length->(row.set i v).Nodup->uc (row.set i v) pl.length->Rm (row.set i v) pl v->
 (∀j,0<j->j<row.length->j≠i->j8 sc ((row.set i v).getD j 0) ((row.set i v).getD ((j -1)/2) 0)=false)->
 (∀j,0<j->j<row.length->(j -1)/2=i->0<i->j8 sc ((row.set i v).getD j 0) ((row.set i v).getD ((i -1)/2) 0)=false)->
 UpOk sc row pl v (qQ sc v i row pl) i:=by
 intro i
 induction i using Nat.strongRecOn with
 |_ i T=>
  intro row pl hi n hin y h1 R;have F:(row.set i v).getD i 0=v:=by rw[bg,Rx ⟨rfl,hi⟩]
  unfold qQ;split
  .rename_i E;obtain⟨G,N⟩:=E;have hp:(i -1)/2<i:=by omega
   have c:(i -1)/2<row.length:=by omega
   generalize K:(i -1)/2=p at*;have r:(row.set i v).getD p 0=row.getD p 0:=by rw[bg,Rw (by omega)]
   have M:(row.set i (row.getD p 0)).set p v=((row.set i v).set i ((row.set i v).getD p 0)).set p ((row.set i v).getD i 0):=by rw[F,r,UO]
   have g:((row.set i (row.getD p 0)).set p v).Perm (row.set i v):=by rw[M];exact swap_perm (by simpa using hi) (by simpa using c)
   have o:∀x,x∈(row.set i (row.getD p 0)).set p v↔x∈row.set i v:=λx=>g.mem_iff;have k:∀j,((row.set i (row.getD p 0)).set p v).getD j 0=if j=p then v else if j=i then row.getD p 0 else row.getD j 0:=λj=>by
    rw[bg,bg,R5]
    by_cases s:j=p
    .subst s;rw[Rx ⟨rfl,c⟩,Rx rfl]
    .rw[Rw (by omega),Rw s]
     by_cases b:j=i
     .subst b;rw[Rx ⟨rfl,hi⟩,Rx rfl]
     .rw[Rw (by omega),Rw b]
   have a:∀j,(row.set i v).getD j 0=if j=i then v else row.getD j 0:=λj=>by
    rw[bg]
    by_cases b:j=i
    .subst b;rw[Rx ⟨rfl,hi⟩,Rx rfl]
    .rw[Rw (by omega),Rw b]
   have S:row.getD p 0≠v:=λe=>by
    have:=dY n (i:=i) (j:=p) (by simpa using hi) (by simpa using c) (by rw[a,a,Rx rfl,Rw (by omega),e]);omega
   have P:=hin (row.getD p 0) (by rw[←r];exact bi (by simpa using c));have key:=T p hp (row.set i (row.getD p 0)) (pl.set (row.getD p 0).toNat i) (by simpa using c) (g.nodup_iff.2 n) (by rw[R5];exactλx hx=>hin x ((o x).1 hx)) ?_ ?_ ?_
   .obtain⟨U,V,W,X,Y⟩:=key;refine⟨U.trans g,V,W,λu B=>?_,by rw[Y,R5]⟩;rw[X u (λh=>B ((o u).1 h)),bg,Rw];rintro⟨e,_⟩;apply B;have:(u:Int)=row.getD p 0:=by omega
    rw[this,←r];exact bi (by simpa using c)
   .intro j hj f;simp only[R5]at hj;rw[k]at f⊢;split at f
    .exact absurd rfl f
    .rename_i s;rw[Rw s];split at f
     .rename_i b;rw[Rx b,bg,Rx ⟨rfl,by omega⟩,b]
     .rename_i b;rw[Rw b];have t:=y j (by simpa using hj) (by rw[a,Rw b];exact f);rw[a,Rw b]at t;have O:row.getD j 0≠row.getD p 0:=λe=>s (dY n (by simpa using hj) (by simpa using c) (by rw[a,a,Rw b,Rw (by omega),e]));have w:=hin (row.getD j 0) (by have:=bi (l:=row.set i v) (i:=j) (by simpa using hj);rwa [a,Rw b]at this);rw[bg,Rw (by omega)];exact t
   .intro j d hj f;simp only[R5]at hj;rw[k,k,Rw f]
    by_cases b:j=i
    .rw[Rx b,b,K,Rx rfl];exact j9 N
    .rw[Rw b];have m:=h1 j d hj b;rw[a,a,Rw b]at m
     by_cases C:(j -1)/2=p
     .rw[Rx C];rw[C,Rw (by omega)]at m;exact iQ m (j9 N)
     .rw[Rw C]
      by_cases A:(j -1)/2=i
      .rw[Rx A];have:=R j d hj A G
       rwa [a,a,Rw b,Rw (by omega)]at this
      .rw[Rw A];rwa [Rw A]at m
   .intro j d hj I J;simp only[R5]at hj;have L:(p -1)/2≠p:=by omega
    have q:(p -1)/2≠i:=by omega
    rw[k,k,Rw (by omega),Rw L,Rw q];have D:=h1 p J (by omega) (by omega);rw[a,a,Rw (by omega),Rw q]at D
    by_cases b:j=i
    .rw[Rx b];exact D
    .rw[Rw b];have m:=h1 j d hj b;rw[a,a,Rw b,I,Rw (by omega)]at m;exact iQ m D
  .rename_i E;have a:∀j,(row.set i v).getD j 0=if j=i then v else row.getD j 0:=λj=>by
    rw[bg]
    by_cases b:j=i
    .subst b;rw[Rx ⟨rfl,hi⟩,Rx rfl]
    .rw[Rw (by omega),Rw b]
   have z:v∈row.set i v:=by have:=bi (l:=row.set i v) (i:=i) (by simpa using hi);rwa [F]at this
   have Q:=hin v z;refine⟨UA _,λj d hj _=>?_,λj hj=>?_,λu B=>?_,by simp⟩
   .simp only[R5]at hj
    by_cases e:j=i
    .subst e;rw[a,a,Rx rfl,Rw (by omega)];have:¬j8 sc v (row.getD ((j -1)/2) 0)=true:=λh=>E ⟨d,h⟩;simpa using this
    .exact h1 j d hj e
   .simp only[R5]at hj;show(pl.set v.toNat (i:Int)).getD ((row.set i v).getD j 0).toNat 0=(j:Int)
    by_cases e:(row.set i v).getD j 0=v
    .have H:j=i:=dY n (by simpa using hj) (by simpa using hi) (by rw[e,F]);rw[e,bg,Rx ⟨rfl,by omega⟩,H]
    .have m:=y j (by simpa using hj) e;have w:=hin _ (bi (l:=row.set i v) (i:=j) (by simpa using hj));rw[bg,Rw (by omega)];exact m
   .rw[bg,Rw];rintro⟨e,_⟩;apply B;have:(u:Int)=v:=by omega
    rw[this];exact z
/-! ### Down -/
def ft(sc row:List Int)(v:Int)(i:Nat):Int×Nat:=
 let a:=if 2*i+1<row.length∧j8 sc (row.getD (2*i+1) 0) v=true then(row.getD (2*i+1) 0,2*i+1)else(v,i)
 if 2*i+2<row.length∧j8 sc (row.getD (2*i+2) 0) a.1=true then(row.getD (2*i+2) 0,2*i+2)else a
theorem zM{sc row:List Int}{v:Int}{i:Nat}:
    ((ft sc row v i = (v, i) ∧ ∀ j, j < row.length -> 0 < j -> (j - 1) / 2 = i -> j8 sc (row.getD j 0) v = false) ∨
     (∃c,ft sc row v i=(row.getD c 0,c)∧c<row.length∧(c -1)/2=i∧i<c∧j8 sc (row.getD c 0) v=true∧∀j,j<row.length->0<j->(j -1)/2=i->j8 sc (row.getD j 0) (row.getD c 0)=false)):=by
  unfold ft
  by_cases h1:2*i+1<row.length∧j8 sc (row.getD (2*i+1) 0) v=true
  · rw[Rx h1]
    dsimp only
    by_cases a:2*i+2<row.length∧j8 sc (row.getD (2*i+2) 0) (row.getD (2*i+1) 0)=true
    · rw[Rx a]
      refine .inr ⟨2*i+2,rfl,a.1,by omega,by omega,?_,λj hj b d=>?_⟩
      · have f:=h1.2;have g:=a.2;rw[xx]at*;omega
      · have:j=2*i+1∨j=2*i+2:=by omega
        rcases this with rfl|rfl
        · exact j9 a.2
        · exact m9 _ _
    · rw[Rw a]
      refine .inr ⟨2*i+1,rfl,h1.1,by omega,by omega,h1.2,λj hj b d=>?_⟩
      have:j=2*i+1∨j=2*i+2:=by omega
      rcases this with rfl|rfl
      · exact m9 _ _
      · have:¬j8 sc (row.getD (2*i+2) 0) (row.getD (2*i+1) 0)=true:=λh=>a ⟨hj,h⟩
        simpa using this
  · rw[Rw h1]
    dsimp only
    have e:∀hj:2*i+1<row.length,j8 sc (row.getD (2*i+1) 0) v=false:=λhj=>by
      have:¬j8 sc (row.getD (2*i+1) 0) v=true:=λh=>h1 ⟨hj,h⟩
      simpa using this
    by_cases a:2*i+2<row.length∧j8 sc (row.getD (2*i+2) 0) v=true
    · rw[Rx a]
      refine .inr ⟨2*i+2,rfl,a.1,by omega,by omega,a.2,λj hj b d=>?_⟩
      have:j=2*i+1∨j=2*i+2:=by omega
      rcases this with rfl|rfl
      · exact iQ (e hj) (j9 a.2)
      · exact m9 _ _
    · rw[Rw a]
      refine .inl ⟨rfl,λj hj b d=>?_⟩
      have:j=2*i+1∨j=2*i+2:=by omega
      rcases this with rfl|rfl
      · exact e hj
      · have:¬j8 sc (row.getD (2*i+2) 0) v=true:=λh=>a ⟨hj,h⟩
        simpa using this
def ez(sc:List Int)(v:Int):Nat->Nat->List Int->List Int->List Int×List Int
 |0,i,row,pl=>(row.set i v,pl.set v.toNat i)
 |n+1,i,row,pl=>
  if(ft sc row v i).2=i then(row.set i (ft sc row v i).1,pl.set (ft sc row v i).1.toNat i)
  else ez sc v n (ft sc row v i).2 ((row.set i (ft sc row v i).1).set (ft sc row v i).2 v) (pl.set (ft sc row v i).1.toNat i)
structure DnOk (sc row pl:List Int) (k:Nat) (r:List Int×List Int):Prop where
  perm:r.1.Perm row
  ho:HO sc r.1 k
  plc:PL r.1 r.2
  out:∀u:Nat,¬(u:Int)∈row->r.2.getD u 0=pl.getD u 0
  len:r.2.length=pl.length
theorem tD{sc:List Int}{v:Int}{k:Nat}:∀(n i:Nat)(row pl:List Int),i<row.length->row.length<=i+n->k<=i->row.getD i 0=v->row.Nodup->uc row pl.length->Rm row pl v->
 (∀j,0<j->j<row.length->k<=(j -1)/2->(j -1)/2≠i->j8 sc (row.getD j 0) (row.getD ((j -1)/2) 0)=false)->
 (∀j,0<j->j<row.length->(j -1)/2=i->0<i->k<=(i -1)/2->j8 sc (row.getD j 0) (row.getD ((i -1)/2) 0)=false)->
 DnOk sc row pl k (ez sc v n i row pl)
 |0,i,row,pl,hi,hn,_,_,_,_,_,_,_=>by omega
 |n+1,i,row,pl,hi,hn,hk,s,o,hin,y,h1,L=>by
  have A:v∈row:=by have:=bi hi;rwa [s]at this
  have K:=hin v A;have z:row.set i v=row:=by
   apply T6
   .simp
   .intro j V W;rw[V0];split
    .rename_i e;subst e;have:row.getD i 0=row[i]:=by simp[hi]
     rw[←s,this]
    .rfl
  rcases zM (sc:=sc) (row:=row) (v:=v) (i:=i)with⟨e,C⟩|⟨c,e,b,r,O,D,C⟩
  .simp only[ez,e,TA];rw[z];refine⟨UA _,λj d hj m=>?_,λj hj=>?_,λu B=>?_,by simp⟩
   .by_cases a:(j -1)/2=i
    .rw[a,s];exact C j hj d a
    .exact h1 j d hj m a
   .show(pl.set v.toNat (i:Int)).getD (row.getD j 0).toNat 0=(j:Int);replace hj:j<row.length:=hj
    by_cases a:row.getD j 0=v
    .have G:j=i:=dY o hj hi (by rw[a,s]);rw[a,bg,Rx ⟨rfl,by omega⟩,G]
    .have w:=hin _ (bi hj);rw[bg,Rw (by omega)];exact y j hj a
   .rw[bg,Rw];rintro⟨a,_⟩;apply B;have:(u:Int)=v:=by omega
    rw[this];exact A
  .simp only[ez,e];rw[Rw (by omega)];have H:(row.set i (row.getD c 0)).set c v=(row.set i (row.getD c 0)).set c (row.getD i 0):=by rw[s]
   have g:((row.set i (row.getD c 0)).set c v).Perm row:=by rw[H];exact swap_perm hi b
   have q:∀x,x∈(row.set i (row.getD c 0)).set c v↔x∈row:=λx=>g.mem_iff;have l:∀j,((row.set i (row.getD c 0)).set c v).getD j 0=if j=c then v else if j=i then row.getD c 0 else row.getD j 0:=λj=>by
    rw[bg,bg,R5]
    by_cases p:j=c
    .subst p;rw[Rx ⟨rfl,b⟩,Rx rfl]
    .rw[Rw (by omega),Rw p]
     by_cases a:j=i
     .subst a;rw[Rx ⟨rfl,hi⟩,Rx rfl]
     .rw[Rw (by omega),Rw a]
   have N:row.getD c 0≠v:=λe=>by
    have:=dY o (i:=c) (j:=i) b hi (by rw[e,s]);omega
   have I:=hin _ (bi b);have key:=tD (sc:=sc) (k:=k) n c ((row.set i (row.getD c 0)).set c v) (pl.set (row.getD c 0).toNat i) (by simpa using b) (by simp;omega) (by omega) (by rw[l,Rx rfl]) (g.nodup_iff.2 o) (by rw[R5];exactλx hx=>hin x ((q x).1 hx)) ?_ ?_ ?_
   .obtain⟨Q,R,S,T,U⟩:=key;refine⟨Q.trans g,R,S,λu B=>?_,by rw[U,R5]⟩;rw[T u (λh=>B ((q u).1 h)),bg,Rw];rintro⟨a,_⟩;apply B;have:(u:Int)=row.getD c 0:=by omega
    rw[this];exact bi b
   .intro j hj f;simp only[R5]at hj;rw[l]at f⊢;split at f
    .exact absurd rfl f
    .rename_i p;rw[Rw p];split at f
     .rename_i a;rw[Rx a,bg,Rx ⟨rfl,by omega⟩,a]
     .rename_i a;rw[Rw a];have E:=y j hj f;have J:row.getD j 0≠row.getD c 0:=λe=>p (dY o hj b e);have w:=hin _ (bi hj);rw[bg,Rw (by omega)];exact E
   .intro j d hj m f;simp only[R5]at hj;rw[l,l,Rw f]
    by_cases t:(j -1)/2=i
    .rw[Rx t]
     by_cases p:j=c
     .rw[Rx p];exact j9 D
     .rw[Rw p,Rw (by omega)];exact C j hj d t
    .rw[Rw t,Rw (by intro e;subst e;exact t r)]
     by_cases a:j=i
     .rw[Rx a];subst a;exact L c (by omega) b r (by omega) m
     .rw[Rw a];exact h1 j d hj m t
   .intro j d hj F M P;simp only[R5]at hj;rw[l,l,Rw (by omega),Rw (by omega),Rw (by omega),Rx r];have:=h1 j d hj (by omega) (by omega)
    rwa [F]at this
end Go.AX