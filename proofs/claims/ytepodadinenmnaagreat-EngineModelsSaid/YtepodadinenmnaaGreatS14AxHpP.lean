/-
  The plain law of heaps: rows in which each one is no better than the one at half its place.
-/
import Derived.Test.YtepodadinenmnaaGreatAxXW
namespace Go.AX
def kb(sc:List Int)(v w:Int):Bool:=if sc.getD v.toNat 0≠sc.getD w.toNat 0 then decide (sc.getD w.toNat 0<sc.getD v.toNat 0)else decide (v<w)
theorem xD{sc:List Int}{v w:Int}:kb sc v w=true↔(sc.getD w.toNat 0<sc.getD v.toNat 0∨(sc.getD v.toNat 0=sc.getD w.toNat 0∧v<w)):=by
 unfold kb;split
 .rename_i h;simp only[R0];exact⟨.inl,λa=>a.elim id λb=>absurd b.1 h⟩
 .rename_i h;simp only[R0];simp only[ne_eq,Classical.not_not]at h;exact⟨λa=>.inr ⟨h,a⟩,λa=>a.elim (λb=>by omega) λb=>b.2⟩
theorem gW{sc:List Int}{v w:Int}:kb sc v w=false↔(sc.getD v.toNat 0<sc.getD w.toNat 0∨(sc.getD v.toNat 0=sc.getD w.toNat 0∧w<=v)):=by
 rw[←Uu,xD];omega
theorem ke{sc:List Int}{v w:Int}(h:kb sc v w=true):kb sc w v=false:=by rw[xD]at h;rw[gW];omega
theorem iT{sc:List Int}{u v w:Int}(h:kb sc u v=false)(a:kb sc v w=false):kb sc u w=false:=by rw[gW]at*;omega
theorem ng(sc:List Int)(v:Int):kb sc v v=false:=by rw[gW];omega
theorem bg(l:List Int)(i j:Nat)(x:Int):(l.set i x).getD j 0=if i=j∧i<l.length then x else l.getD j 0:=by
 simp only[RG,Sf]
 by_cases h:i=j
 .subst h
  by_cases a:i<l.length
  .simp[a]
  .simp[a]
 .simp[h]
theorem bi{l:List Int}{i:Nat}(h:i<l.length):l.getD i 0∈l:=by simp[RG,h]
theorem Jd{l:List Int}{x:Int}(h:x∈l):∃i,i<l.length∧l.getD i 0=x:=by
 obtain⟨i,hi,rfl⟩:=U6.1 h;exact⟨i,hi,by simp[hi]⟩
theorem d4{l:List Int}(h:l.Nodup){i j:Nat}(hi:i<l.length)(hj:j<l.length)(e:l.getD i 0=l.getD j 0):i=j:=by
 simp only[RG,RF hi,RF hj,Sm]at e;unfold List.Nodup at h;rw[Sl]at h;rcases TY i j with h1|h1|h1
 .exact absurd e (h i j hi hj h1)
 .exact h1
 .exact absurd e.symm (h j i hj hi h1)
theorem swap_perm{l:List Int}{i j:Nat}(hi:i<l.length)(hj:j<l.length):((l.set i (l.getD j 0)).set j (l.getD i 0)).Perm l:=by
 have:=@List.set_set_perm _ l _ _ hi hj;simpa[RG,hi,hj]using this
def HO(sc R:List Int)(k:Nat):Prop:=∀j,0<j->j<R.length->k<=(j -1)/2->kb sc (R.getD j 0) (R.getD ((j -1)/2) 0)=false
def Rx(R pl:List Int)(v:Int):Prop:=∀j,j<R.length->R.getD j 0≠v->pl.getD (R.getD j 0).toNat 0=(j:Int)
def PL(R pl:List Int):Prop:=∀j,j<R.length->pl.getD (R.getD j 0).toNat 0=(j:Int)
def uh(R:List Int)(n:Nat):Prop:=∀x∈R,1<=x∧x<(n:Int)
/-! ### Up -/
def qV(sc:List Int)(v:Int)(i:Nat)(row pl:List Int):List Int×List Int:=
 if h:0<i∧kb sc v (row.getD ((i -1)/2) 0)=true then
  qV sc v ((i -1)/2) (row.set i (row.getD ((i -1)/2) 0)) (pl.set (row.getD ((i -1)/2) 0).toNat i)
 else(row.set i v,pl.set v.toNat i)
termination_by i
decreasing_by omega
structure UpOk (sc row pl:List Int) (v:Int) (r:List Int×List Int) (i:Nat):Prop where
  perm:r.1.Perm (row.set i v)
  ho:HO sc r.1 0
  plc:PL r.1 r.2
  out:∀u:Nat,¬(u:Int)∈row.set i v->r.2.getD u 0=pl.getD u 0
  len:r.2.length=pl.length
theorem Je{sc:List Int}{v:Int}:∀(i:Nat)(row pl:List Int),i<row.length->(row.set i v).Nodup->uh (row.set i v) pl.length->Rx (row.set i v) pl v->
 (∀j,0<j->j<row.length->j≠i->kb sc ((row.set i v).getD j 0) ((row.set i v).getD ((j -1)/2) 0)=false)->
 (∀j,0<j->j<row.length->(j -1)/2=i->0<i->kb sc ((row.set i v).getD j 0) ((row.set i v).getD ((i -1)/2) 0)=false)->
 UpOk sc row pl v (qV sc v i row pl) i:=by
 intro i
 induction i using Nat.strongRecOn with
 |_ i T=>
  intro row pl hi n hin y h1 R;have F:(row.set i v).getD i 0=v:=by rw[bg,RI ⟨rfl,hi⟩]
  unfold qV;split
  .rename_i E;obtain⟨G,N⟩:=E;have hp:(i -1)/2<i:=by omega
   have c:(i -1)/2<row.length:=by omega
   generalize K:(i -1)/2=p at*;have r:(row.set i v).getD p 0=row.getD p 0:=by rw[bg,RH (by omega)]
   have M:(row.set i (row.getD p 0)).set p v=((row.set i v).set i ((row.set i v).getD p 0)).set p ((row.set i v).getD i 0):=by rw[F,r,UY]
   have g:((row.set i (row.getD p 0)).set p v).Perm (row.set i v):=by rw[M];exact swap_perm (by simpa using hi) (by simpa using c)
   have o:∀x,x∈(row.set i (row.getD p 0)).set p v↔x∈row.set i v:=λx=>g.mem_iff;have k:∀j,((row.set i (row.getD p 0)).set p v).getD j 0=if j=p then v else if j=i then row.getD p 0 else row.getD j 0:=λj=>by
    rw[bg,bg,Sg]
    by_cases s:j=p
    .subst s;rw[RI ⟨rfl,c⟩,RI rfl]
    .rw[RH (by omega),RH s]
     by_cases b:j=i
     .subst b;rw[RI ⟨rfl,hi⟩,RI rfl]
     .rw[RH (by omega),RH b]
   have a:∀j,(row.set i v).getD j 0=if j=i then v else row.getD j 0:=λj=>by
    rw[bg]
    by_cases b:j=i
    .subst b;rw[RI ⟨rfl,hi⟩,RI rfl]
    .rw[RH (by omega),RH b]
   have S:row.getD p 0≠v:=λe=>by
    have:=d4 n (i:=i) (j:=p) (by simpa using hi) (by simpa using c) (by rw[a,a,RI rfl,RH (by omega),e]);omega
   have P:=hin (row.getD p 0) (by rw[←r];exact bi (by simpa using c));have key:=T p hp (row.set i (row.getD p 0)) (pl.set (row.getD p 0).toNat i) (by simpa using c) (g.nodup_iff.2 n) (by rw[Sg];exactλx hx=>hin x ((o x).1 hx)) ?_ ?_ ?_
   .obtain⟨U,V,W,X,Y⟩:=key;refine⟨U.trans g,V,W,λu B=>?_,by rw[Y,Sg]⟩;rw[X u (λh=>B ((o u).1 h)),bg,RH];rintro⟨e,_⟩;apply B;have:(u:Int)=row.getD p 0:=by omega
    rw[this,←r];exact bi (by simpa using c)
   .intro j hj f;simp only[Sg]at hj;rw[k]at f⊢;split at f
    .exact absurd rfl f
    .rename_i s;rw[RH s];split at f
     .rename_i b;rw[RI b,bg,RI ⟨rfl,by omega⟩,b]
     .rename_i b;rw[RH b];have t:=y j (by simpa using hj) (by rw[a,RH b];exact f);rw[a,RH b]at t;have O:row.getD j 0≠row.getD p 0:=λe=>s (d4 n (by simpa using hj) (by simpa using c) (by rw[a,a,RH b,RH (by omega),e]));have w:=hin (row.getD j 0) (by have:=bi (l:=row.set i v) (i:=j) (by simpa using hj);rwa [a,RH b]at this);rw[bg,RH (by omega)];exact t
   .intro j d hj f;simp only[Sg]at hj;rw[k,k,RH f]
    by_cases b:j=i
    .rw[RI b,b,K,RI rfl];exact ke N
    .rw[RH b];have m:=h1 j d hj b;rw[a,a,RH b]at m
     by_cases C:(j -1)/2=p
     .rw[RI C];rw[C,RH (by omega)]at m;exact iT m (ke N)
     .rw[RH C]
      by_cases A:(j -1)/2=i
      .rw[RI A];have:=R j d hj A G
       rwa [a,a,RH b,RH (by omega)]at this
      .rw[RH A];rwa [RH A]at m
   .intro j d hj I J;simp only[Sg]at hj;have L:(p -1)/2≠p:=by omega
    have q:(p -1)/2≠i:=by omega
    rw[k,k,RH (by omega),RH L,RH q];have D:=h1 p J (by omega) (by omega);rw[a,a,RH (by omega),RH q]at D
    by_cases b:j=i
    .rw[RI b];exact D
    .rw[RH b];have m:=h1 j d hj b;rw[a,a,RH b,I,RH (by omega)]at m;exact iT m D
  .rename_i E;have a:∀j,(row.set i v).getD j 0=if j=i then v else row.getD j 0:=λj=>by
    rw[bg]
    by_cases b:j=i
    .subst b;rw[RI ⟨rfl,hi⟩,RI rfl]
    .rw[RH (by omega),RH b]
   have z:v∈row.set i v:=by have:=bi (l:=row.set i v) (i:=i) (by simpa using hi);rwa [F]at this
   have Q:=hin v z;refine⟨UK _,λj d hj _=>?_,λj hj=>?_,λu B=>?_,by simp⟩
   .simp only[Sg]at hj
    by_cases e:j=i
    .subst e;rw[a,a,RI rfl,RH (by omega)];have:¬kb sc v (row.getD ((j -1)/2) 0)=true:=λh=>E ⟨d,h⟩;simpa using this
    .exact h1 j d hj e
   .simp only[Sg]at hj;show(pl.set v.toNat (i:Int)).getD ((row.set i v).getD j 0).toNat 0=(j:Int)
    by_cases e:(row.set i v).getD j 0=v
    .have H:j=i:=d4 n (by simpa using hj) (by simpa using hi) (by rw[e,F]);rw[e,bg,RI ⟨rfl,by omega⟩,H]
    .have m:=y j (by simpa using hj) e;have w:=hin _ (bi (l:=row.set i v) (i:=j) (by simpa using hj));rw[bg,RH (by omega)];exact m
   .rw[bg,RH];rintro⟨e,_⟩;apply B;have:(u:Int)=v:=by omega
    rw[this];exact z
/-! ### Down -/
def fw(sc row:List Int)(v:Int)(i:Nat):Int×Nat:=
 let a:=if 2*i+1<row.length∧kb sc (row.getD (2*i+1) 0) v=true then(row.getD (2*i+1) 0,2*i+1)else(v,i)
 if 2*i+2<row.length∧kb sc (row.getD (2*i+2) 0) a.1=true then(row.getD (2*i+2) 0,2*i+2)else a
theorem zS{sc row:List Int}{v:Int}{i:Nat}:
    ((fw sc row v i = (v, i) ∧ ∀ j, j < row.length -> 0 < j -> (j - 1) / 2 = i -> kb sc (row.getD j 0) v = false) ∨
     (∃c,fw sc row v i=(row.getD c 0,c)∧c<row.length∧(c -1)/2=i∧i<c∧kb sc (row.getD c 0) v=true∧∀j,j<row.length->0<j->(j -1)/2=i->kb sc (row.getD j 0) (row.getD c 0)=false)):=by
  unfold fw
  by_cases h1:2*i+1<row.length∧kb sc (row.getD (2*i+1) 0) v=true
  · rw[RI h1]
    dsimp only
    by_cases a:2*i+2<row.length∧kb sc (row.getD (2*i+2) 0) (row.getD (2*i+1) 0)=true
    · rw[RI a]
      refine .inr ⟨2*i+2,rfl,a.1,by omega,by omega,?_,λj hj b d=>?_⟩
      · have f:=h1.2;have g:=a.2;rw[xD]at*;omega
      · have:j=2*i+1∨j=2*i+2:=by omega
        rcases this with rfl|rfl
        · exact ke a.2
        · exact ng _ _
    · rw[RH a]
      refine .inr ⟨2*i+1,rfl,h1.1,by omega,by omega,h1.2,λj hj b d=>?_⟩
      have:j=2*i+1∨j=2*i+2:=by omega
      rcases this with rfl|rfl
      · exact ng _ _
      · have:¬kb sc (row.getD (2*i+2) 0) (row.getD (2*i+1) 0)=true:=λh=>a ⟨hj,h⟩
        simpa using this
  · rw[RH h1]
    dsimp only
    have e:∀hj:2*i+1<row.length,kb sc (row.getD (2*i+1) 0) v=false:=λhj=>by
      have:¬kb sc (row.getD (2*i+1) 0) v=true:=λh=>h1 ⟨hj,h⟩
      simpa using this
    by_cases a:2*i+2<row.length∧kb sc (row.getD (2*i+2) 0) v=true
    · rw[RI a]
      refine .inr ⟨2*i+2,rfl,a.1,by omega,by omega,a.2,λj hj b d=>?_⟩
      have:j=2*i+1∨j=2*i+2:=by omega
      rcases this with rfl|rfl
      · exact iT (e hj) (ke a.2)
      · exact ng _ _
    · rw[RH a]
      refine .inl ⟨rfl,λj hj b d=>?_⟩
      have:j=2*i+1∨j=2*i+2:=by omega
      rcases this with rfl|rfl
      · exact e hj
      · have:¬kb sc (row.getD (2*i+2) 0) v=true:=λh=>a ⟨hj,h⟩
        simpa using this
def eD(sc:List Int)(v:Int):Nat->Nat->List Int->List Int->List Int×List Int
 |0,i,row,pl=>(row.set i v,pl.set v.toNat i)
 |n+1,i,row,pl=>
  if(fw sc row v i).2=i then(row.set i (fw sc row v i).1,pl.set (fw sc row v i).1.toNat i)
  else eD sc v n (fw sc row v i).2 ((row.set i (fw sc row v i).1).set (fw sc row v i).2 v) (pl.set (fw sc row v i).1.toNat i)
structure DnOk (sc row pl:List Int) (k:Nat) (r:List Int×List Int):Prop where
  perm:r.1.Perm row
  ho:HO sc r.1 k
  plc:PL r.1 r.2
  out:∀u:Nat,¬(u:Int)∈row->r.2.getD u 0=pl.getD u 0
  len:r.2.length=pl.length
theorem tP{sc:List Int}{v:Int}{k:Nat}:∀(n i:Nat)(row pl:List Int),i<row.length->row.length<=i+n->k<=i->row.getD i 0=v->row.Nodup->uh row pl.length->Rx row pl v->
 (∀j,0<j->j<row.length->k<=(j -1)/2->(j -1)/2≠i->kb sc (row.getD j 0) (row.getD ((j -1)/2) 0)=false)->
 (∀j,0<j->j<row.length->(j -1)/2=i->0<i->k<=(i -1)/2->kb sc (row.getD j 0) (row.getD ((i -1)/2) 0)=false)->
 DnOk sc row pl k (eD sc v n i row pl)
 |0,i,row,pl,hi,hn,_,_,_,_,_,_,_=>by omega
 |n+1,i,row,pl,hi,hn,hk,s,o,hin,y,h1,L=>by
  have A:v∈row:=by have:=bi hi;rwa [s]at this
  have K:=hin v A;have z:row.set i v=row:=by
   apply Uh
   .simp
   .intro j V W;rw[Wa];split
    .rename_i e;subst e;have:row.getD i 0=row[i]:=by simp[hi]
     rw[←s,this]
    .rfl
  rcases zS (sc:=sc) (row:=row) (v:=v) (i:=i)with⟨e,C⟩|⟨c,e,b,r,O,D,C⟩
  .simp only[eD,e,TL];rw[z];refine⟨UK _,λj d hj m=>?_,λj hj=>?_,λu B=>?_,by simp⟩
   .by_cases a:(j -1)/2=i
    .rw[a,s];exact C j hj d a
    .exact h1 j d hj m a
   .show(pl.set v.toNat (i:Int)).getD (row.getD j 0).toNat 0=(j:Int);replace hj:j<row.length:=hj
    by_cases a:row.getD j 0=v
    .have G:j=i:=d4 o hj hi (by rw[a,s]);rw[a,bg,RI ⟨rfl,by omega⟩,G]
    .have w:=hin _ (bi hj);rw[bg,RH (by omega)];exact y j hj a
   .rw[bg,RH];rintro⟨a,_⟩;apply B;have:(u:Int)=v:=by omega
    rw[this];exact A
  .simp only[eD,e];rw[RH (by omega)];have H:(row.set i (row.getD c 0)).set c v=(row.set i (row.getD c 0)).set c (row.getD i 0):=by rw[s]
   have g:((row.set i (row.getD c 0)).set c v).Perm row:=by rw[H];exact swap_perm hi b
   have q:∀x,x∈(row.set i (row.getD c 0)).set c v↔x∈row:=λx=>g.mem_iff;have l:∀j,((row.set i (row.getD c 0)).set c v).getD j 0=if j=c then v else if j=i then row.getD c 0 else row.getD j 0:=λj=>by
    rw[bg,bg,Sg]
    by_cases p:j=c
    .subst p;rw[RI ⟨rfl,b⟩,RI rfl]
    .rw[RH (by omega),RH p]
     by_cases a:j=i
     .subst a;rw[RI ⟨rfl,hi⟩,RI rfl]
     .rw[RH (by omega),RH a]
   have N:row.getD c 0≠v:=λe=>by
    have:=d4 o (i:=c) (j:=i) b hi (by rw[e,s]);omega
   have I:=hin _ (bi b);have key:=tP (sc:=sc) (k:=k) n c ((row.set i (row.getD c 0)).set c v) (pl.set (row.getD c 0).toNat i) (by simpa using b) (by simp;omega) (by omega) (by rw[l,RI rfl]) (g.nodup_iff.2 o) (by rw[Sg];exactλx hx=>hin x ((q x).1 hx)) ?_ ?_ ?_
   .obtain⟨Q,R,S,T,U⟩:=key;refine⟨Q.trans g,R,S,λu B=>?_,by rw[U,Sg]⟩;rw[T u (λh=>B ((q u).1 h)),bg,RH];rintro⟨a,_⟩;apply B;have:(u:Int)=row.getD c 0:=by omega
    rw[this];exact bi b
   .intro j hj f;simp only[Sg]at hj;rw[l]at f⊢;split at f
    .exact absurd rfl f
    .rename_i p;rw[RH p];split at f
     .rename_i a;rw[RI a,bg,RI ⟨rfl,by omega⟩,a]
     .rename_i a;rw[RH a];have E:=y j hj f;have J:row.getD j 0≠row.getD c 0:=λe=>p (d4 o hj b e);have w:=hin _ (bi hj);rw[bg,RH (by omega)];exact E
   .intro j d hj m f;simp only[Sg]at hj;rw[l,l,RH f]
    by_cases t:(j -1)/2=i
    .rw[RI t]
     by_cases p:j=c
     .rw[RI p];exact ke D
     .rw[RH p,RH (by omega)];exact C j hj d t
    .rw[RH t,RH (by intro e;subst e;exact t r)]
     by_cases a:j=i
     .rw[RI a];subst a;exact L c (by omega) b r (by omega) m
     .rw[RH a];exact h1 j d hj m t
   .intro j d hj F M P;simp only[Sg]at hj;rw[l,l,RH (by omega),RH (by omega),RH (by omega),RI r];have:=h1 j d hj (by omega) (by omega)
    rwa [F]at this
end Go.AX