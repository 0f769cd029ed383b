/-
  The plain law of heaps: rows in which each one is no better than the one at half its place.
-/
import Derived.Test.YtepodadinenmnaaGreatZ3
namespace Go.AX
def mc(sc:af)(v w:Int):Bool:=if sc.getD v.toNat 0≠sc.getD w.toNat 0 then decide (sc.getD w.toNat 0<sc.getD v.toNat 0)else decide (v<w)
theorem Am{sc:af}{v w:Int}:mc sc v w=true↔(sc.getD w.toNat 0<sc.getD v.toNat 0∨(sc.getD v.toNat 0=sc.getD w.toNat 0∧v<w)):=by
 unfold mc;split;rename_i h;simp only[VI];exact⟨.inl,λa=>a.elim id λb=>absurd b.1 h⟩;rename_i h;simp only[VI];simp only[ne_eq,ZZ]at h;exact⟨λa=>.inr ⟨h,a⟩,λa=>a.elim (λb=>by omega) λb=>b.2⟩
theorem jm{sc:af}{v w:Int}:mc sc v w=false↔(sc.getD v.toNat 0<sc.getD w.toNat 0∨(sc.getD v.toNat 0=sc.getD w.toNat 0∧w<=v)):=by
 rw[←YA,Am];omega
theorem mf{sc:af}{v w:Int}(h:mc sc v w=true):mc sc w v=false:=by rw[Am]at h;rw[jm];omega
theorem ko{sc:af}{u v w:Int}(h:mc sc u v=false)(a:mc sc v w=false):mc sc u w=false:=by rw[jm]at*;omega
theorem pg(sc:af)(v:Int):mc sc v v=false:=by rw[jm];omega
theorem bQ(l:af)(i j:Nat)(x:Int):(l.set i x).getD j 0=if i=j∧i<l.length then x else l.getD j 0:=by
 simp only[Vr,V2];by_cases h:i=j;subst h;by_cases a:i<l.length;simp[a];simp[a];simp[h]
theorem bR{l:af}{i:Nat}(h:i<l.length):l.getD i 0∈l:=by simp[Vr,h]
theorem MY{l:af}{x:Int}(h:x∈l):∃i,i<l.length∧l.getD i 0=x:=by
 obtain⟨i,hi,rfl⟩:=aai.1 h;exact⟨i,hi,by simp[hi]⟩
theorem eY{l:af}(h:l.Nodup){i j:Nat}(hi:i<l.length)(hj:j<l.length)(e:l.getD i 0=l.getD j 0):i=j:=by
 simp only[Vr,Vq hi,Vq hj,V7]at e;unfold List.Nodup at h;rw[V5]at h;rcases Xd i j with h1|h1|h1;exact absurd e (h i j hi hj h1);exact h1;exact absurd e.symm (h j i hj hi h1)
theorem swap_perm{l:af}{i j:Nat}(hi:i<l.length)(hj:j<l.length):((l.set i (l.getD j 0)).set j (l.getD i 0)).Perm l:=by
 have:=@List.set_set_perm _ l _ _ hi hj;simpa[Vr,hi,hj]using this
def HO(sc R:af)(k:Nat):Prop:=∀j,0<j->j<R.length->k<=(j -1)/2->mc sc (R.getD j 0) (R.getD ((j -1)/2) 0)=false
def Vi(R pl:af)(v:Int):Prop:=∀j,j<R.length->R.getD j 0≠v->pl.getD (R.getD j 0).toNat 0=(j:Int)
def PL(R pl:af):Prop:=∀j,j<R.length->pl.getD (R.getD j 0).toNat 0=(j:Int)
def wO(R:af)(n:Nat):Prop:=∀x∈R,1<=x∧x<(n:Int)
def tC(sc:af)(v:Int)(i:Nat)(row pl:af):af×af:=
 if h:0<i∧mc sc v (row.getD ((i -1)/2) 0)=true then
  tC sc v ((i -1)/2) (row.set i (row.getD ((i -1)/2) 0)) (pl.set (row.getD ((i -1)/2) 0).toNat i)
 else(row.set i v,pl.set v.toNat i)
termination_by i
decreasing_by omega
structure UpOk (sc row pl:af) (v:Int) (r:af×af) (i:Nat):Prop where
  perm:r.1.Perm (row.set i v)
  ho:HO sc r.1 0
  plc:PL r.1 r.2
  out:∀u:Nat,¬(u:Int)∈row.set i v->r.2.getD u 0=pl.getD u 0
  len:r.2.length=pl.length
theorem MZ{sc:af}{v:Int}:∀(i:Nat)(row pl:af),i<row.length->(row.set i v).Nodup->wO (row.set i v) pl.length->Vi (row.set i v) pl v->
 (∀j,0<j->j<row.length->j≠i->mc sc ((row.set i v).getD j 0) ((row.set i v).getD ((j -1)/2) 0)=false)->
 (∀j,0<j->j<row.length->(j -1)/2=i->0<i->mc sc ((row.set i v).getD j 0) ((row.set i v).getD ((i -1)/2) 0)=false)->
 UpOk sc row pl v (tC sc v i row pl) i:=by
 intro i
 induction i using Nat.strongRecOn with
 |_ i T=>
  intro row pl hi n hin y h1 R;have F:(row.set i v).getD i 0=v:=by rw[bQ,Vt ⟨rfl,hi⟩]
  unfold tC;split;rename_i E;obtain⟨G,N⟩:=E;have hp:(i -1)/2<i:=by omega
  have c:(i -1)/2<row.length:=by omega
  generalize K:(i -1)/2=p at*;have r:(row.set i v).getD p 0=row.getD p 0:=by rw[bQ,Vs (by omega)]
  have M:(row.set i (row.getD p 0)).set p v=((row.set i v).set i ((row.set i v).getD p 0)).set p ((row.set i v).getD i 0):=by rw[F,r,YD]
  have g:((row.set i (row.getD p 0)).set p v).Perm (row.set i v):=by rw[M];exact swap_perm (by simpa using hi) (by simpa using c)
  have o:∀x,x∈(row.set i (row.getD p 0)).set p v↔x∈row.set i v:=λx=>g.mem_iff;have k:∀j,((row.set i (row.getD p 0)).set p v).getD j 0=if j=p then v else if j=i then row.getD p 0 else row.getD j 0:=λj=>by
   rw[bQ,bQ,VQ];by_cases s:j=p;subst s;rw[Vt ⟨rfl,c⟩,Vt rfl];rw[Vs (by omega),Vs s];by_cases b:j=i;subst b;rw[Vt ⟨rfl,hi⟩,Vt rfl];rw[Vs (by omega),Vs b]
  have a:∀j,(row.set i v).getD j 0=if j=i then v else row.getD j 0:=λj=>by
   rw[bQ];by_cases b:j=i;subst b;rw[Vt ⟨rfl,hi⟩,Vt rfl];rw[Vs (by omega),Vs b]
  have S:row.getD p 0≠v:=λe=>by
   have:=eY n (i:=i) (j:=p) (by simpa using hi) (by simpa using c) (by rw[a,a,Vt rfl,Vs (by omega),e]);omega
  have P:=hin (row.getD p 0) (by rw[←r];exact bR (by simpa using c));have key:=T p hp (row.set i (row.getD p 0)) (pl.set (row.getD p 0).toNat i) (by simpa using c) (g.nodup_iff.2 n) (by rw[VQ];exactλx hx=>hin x ((o x).1 hx)) ?_ ?_ ?_;obtain⟨U,V,W,X,Y⟩:=key;refine⟨U.trans g,V,W,λu B=>?_,by rw[Y,VQ]⟩;rw[X u (λh=>B ((o u).1 h)),bQ,Vs];rintro⟨e,_⟩;apply B;have:(u:Int)=row.getD p 0:=by omega
  rw[this,←r];exact bR (by simpa using c);intro j hj f;simp only[VQ]at hj;rw[k]at f⊢;split at f;exact absurd rfl f;rename_i s;rw[Vs s];split at f;rename_i b;rw[Vt b,bQ,Vt ⟨rfl,by omega⟩,b];rename_i b;rw[Vs b];have t:=y j (by simpa using hj) (by rw[a,Vs b];exact f);rw[a,Vs b]at t;have O:row.getD j 0≠row.getD p 0:=λe=>s (eY n (by simpa using hj) (by simpa using c) (by rw[a,a,Vs b,Vs (by omega),e]));have w:=hin (row.getD j 0) (by have:=bR (l:=row.set i v) (i:=j) (by simpa using hj);rwa [a,Vs b]at this);rw[bQ,Vs (by omega)];exact t;intro j d hj f;simp only[VQ]at hj;rw[k,k,Vs f];by_cases b:j=i;rw[Vt b,b,K,Vt rfl];exact mf N;rw[Vs b];have m:=h1 j d hj b;rw[a,a,Vs b]at m;by_cases C:(j -1)/2=p;rw[Vt C];rw[C,Vs (by omega)]at m;exact ko m (mf N);rw[Vs C];by_cases A:(j -1)/2=i;rw[Vt A];have:=R j d hj A G
  rwa [a,a,Vs b,Vs (by omega)]at this
  rw[Vs A];rwa [Vs A]at m;intro j d hj I J;simp only[VQ]at hj;have L:(p -1)/2≠p:=by omega
  have q:(p -1)/2≠i:=by omega
  rw[k,k,Vs (by omega),Vs L,Vs q];have D:=h1 p J (by omega) (by omega);rw[a,a,Vs (by omega),Vs q]at D;by_cases b:j=i;rw[Vt b];exact D;rw[Vs b];have m:=h1 j d hj b;rw[a,a,Vs b,I,Vs (by omega)]at m;exact ko m D;rename_i E;have a:∀j,(row.set i v).getD j 0=if j=i then v else row.getD j 0:=λj=>by
   rw[bQ];by_cases b:j=i;subst b;rw[Vt ⟨rfl,hi⟩,Vt rfl];rw[Vs (by omega),Vs b]
  have z:v∈row.set i v:=by have:=bR (l:=row.set i v) (i:=i) (by simpa using hi);rwa [F]at this
  have Q:=hin v z;refine⟨YX _,λj d hj _=>?_,λj hj=>?_,λu B=>?_,by simp⟩;simp only[VQ]at hj;by_cases e:j=i;subst e;rw[a,a,Vt rfl,Vs (by omega)];have:¬mc sc v (row.getD ((j -1)/2) 0)=true:=λh=>E ⟨d,h⟩;simpa using this;exact h1 j d hj e;simp only[VQ]at hj;show(pl.set v.toNat (i:Int)).getD ((row.set i v).getD j 0).toNat 0=(j:Int);by_cases e:(row.set i v).getD j 0=v;have H:j=i:=eY n (by simpa using hj) (by simpa using hi) (by rw[e,F]);rw[e,bQ,Vt ⟨rfl,by omega⟩,H];have m:=y j (by simpa using hj) e;have w:=hin _ (bR (l:=row.set i v) (i:=j) (by simpa using hj));rw[bQ,Vs (by omega)];exact m;rw[bQ,Vs];rintro⟨e,_⟩;apply B;have:(u:Int)=v:=by omega
  rw[this];exact z
def gx(sc row:af)(v:Int)(i:Nat):Int×Nat:=
 let a:=if 2*i+1<row.length∧mc sc (row.getD (2*i+1) 0) v=true then(row.getD (2*i+1) 0,2*i+1)else(v,i)
 if 2*i+2<row.length∧mc sc (row.getD (2*i+2) 0) a.1=true then(row.getD (2*i+2) 0,2*i+2)else a
theorem Cu{sc row:af}{v:Int}{i:Nat}:
    ((gx sc row v i = (v, i) ∧ ∀ j, j < row.length -> 0 < j -> (j - 1) / 2 = i -> mc sc (row.getD j 0) v = false) ∨
     (∃c,gx sc row v i=(row.getD c 0,c)∧c<row.length∧(c -1)/2=i∧i<c∧mc sc (row.getD c 0) v=true∧∀j,j<row.length->0<j->(j -1)/2=i->mc sc (row.getD j 0) (row.getD c 0)=false)):=by
  unfold gx
  by_cases h1:2*i+1<row.length∧mc sc (row.getD (2*i+1) 0) v=true
  · rw[Vt h1]
    dsimp only
    by_cases a:2*i+2<row.length∧mc sc (row.getD (2*i+2) 0) (row.getD (2*i+1) 0)=true
    · rw[Vt a]
      refine .inr ⟨2*i+2,rfl,a.1,by omega,by omega,?_,λj hj b d=>?_⟩
      · have f:=h1.2;have g:=a.2;rw[Am]at*;omega
      · have:j=2*i+1∨j=2*i+2:=by omega
        rcases this with rfl|rfl
        · exact mf a.2
        · exact pg _ _
    · rw[Vs a]
      refine .inr ⟨2*i+1,rfl,h1.1,by omega,by omega,h1.2,λj hj b d=>?_⟩
      have:j=2*i+1∨j=2*i+2:=by omega
      rcases this with rfl|rfl
      · exact pg _ _
      · have:¬mc sc (row.getD (2*i+2) 0) (row.getD (2*i+1) 0)=true:=λh=>a ⟨hj,h⟩
        simpa using this
  · rw[Vs h1]
    dsimp only
    have e:∀hj:2*i+1<row.length,mc sc (row.getD (2*i+1) 0) v=false:=λhj=>by
      have:¬mc sc (row.getD (2*i+1) 0) v=true:=λh=>h1 ⟨hj,h⟩
      simpa using this
    by_cases a:2*i+2<row.length∧mc sc (row.getD (2*i+2) 0) v=true
    · rw[Vt a]
      refine .inr ⟨2*i+2,rfl,a.1,by omega,by omega,a.2,λj hj b d=>?_⟩
      have:j=2*i+1∨j=2*i+2:=by omega
      rcases this with rfl|rfl
      · exact ko (e hj) (mf a.2)
      · exact pg _ _
    · rw[Vs a]
      refine .inl ⟨rfl,λj hj b d=>?_⟩
      have:j=2*i+1∨j=2*i+2:=by omega
      rcases this with rfl|rfl
      · exact e hj
      · have:¬mc sc (row.getD (2*i+2) 0) v=true:=λh=>a ⟨hj,h⟩
        simpa using this
def fo(sc:af)(v:Int):Nat->Nat->af->af->af×af
 |0,i,row,pl=>(row.set i v,pl.set v.toNat i)
 |n+1,i,row,pl=>
  if(gx sc row v i).2=i then(row.set i (gx sc row v i).1,pl.set (gx sc row v i).1.toNat i)
  else fo sc v n (gx sc row v i).2 ((row.set i (gx sc row v i).1).set (gx sc row v i).2 v) (pl.set (gx sc row v i).1.toNat i)
structure DnOk (sc row pl:af) (k:Nat) (r:af×af):Prop where
  perm:r.1.Perm row
  ho:HO sc r.1 k
  plc:PL r.1 r.2
  out:∀u:Nat,¬(u:Int)∈row->r.2.getD u 0=pl.getD u 0
  len:r.2.length=pl.length
theorem wv{sc:af}{v:Int}{k:Nat}:∀(n i:Nat)(row pl:af),i<row.length->row.length<=i+n->k<=i->row.getD i 0=v->row.Nodup->wO row pl.length->Vi row pl v->
 (∀j,0<j->j<row.length->k<=(j -1)/2->(j -1)/2≠i->mc sc (row.getD j 0) (row.getD ((j -1)/2) 0)=false)->
 (∀j,0<j->j<row.length->(j -1)/2=i->0<i->k<=(i -1)/2->mc sc (row.getD j 0) (row.getD ((i -1)/2) 0)=false)->
 DnOk sc row pl k (fo sc v n i row pl)
 |0,i,row,pl,hi,hn,_,_,_,_,_,_,_=>by omega
 |n+1,i,row,pl,hi,hn,hk,r,m,hin,w,h1,K=>by
  have z:v∈row:=by have:=bR hi;rwa [r]at this
  have J:=hin v z;have y:row.set i v=row:=by
   apply Yq;simp;intro j U V;rw[Z6];split;rename_i e;subst e;have:row.getD i 0=row[i]:=by simp[hi]
   rw[←r,this];rfl
  rcases Cu (sc:=sc) (row:=row) (v:=v) (i:=i)with⟨e,B⟩|⟨c,e,hcl,q,N,C,B⟩;simp only[fo,e,Xl];rw[y];refine⟨YX _,λj b hj l=>?_,λj hj=>?_,λu A=>?_,by simp⟩;by_cases a:(j -1)/2=i;rw[a,r];exact B j hj b a;exact h1 j b hj l a;show(pl.set v.toNat (i:Int)).getD (row.getD j 0).toNat 0=(j:Int);replace hj:j<row.length:=hj;by_cases a:row.getD j 0=v;have F:j=i:=eY m hj hi (by rw[a,r]);rw[a,bQ,Vt ⟨rfl,by omega⟩,F];have t:=hin _ (bR hj);rw[bQ,Vs (by omega)];exact w j hj a;rw[bQ,Vs];rintro⟨a,_⟩;apply A;have:(u:Int)=v:=by omega
  rw[this];exact z;simp only[fo,e];rw[Vs (by omega)];have G:(row.set i (row.getD c 0)).set c v=(row.set i (row.getD c 0)).set c (row.getD i 0):=by rw[r]
  have f:((row.set i (row.getD c 0)).set c v).Perm row:=by rw[G];exact swap_perm hi hcl
  have p:∀x,x∈(row.set i (row.getD c 0)).set c v↔x∈row:=λx=>f.mem_iff;have g:∀j,((row.set i (row.getD c 0)).set c v).getD j 0=if j=c then v else if j=i then row.getD c 0 else row.getD j 0:=λj=>by
   rw[bQ,bQ,VQ];by_cases o:j=c;subst o;rw[Vt ⟨rfl,hcl⟩,Vt rfl];rw[Vs (by omega),Vs o];by_cases a:j=i;subst a;rw[Vt ⟨rfl,hi⟩,Vt rfl];rw[Vs (by omega),Vs a]
  have M:row.getD c 0≠v:=λe=>by
   have:=eY m (i:=c) (j:=i) hcl hi (by rw[e,r]);omega
  have H:=hin _ (bR hcl);have key:=wv (sc:=sc) (k:=k) n c ((row.set i (row.getD c 0)).set c v) (pl.set (row.getD c 0).toNat i) (by simpa using hcl) (by simp;omega) (by omega) (by rw[g,Vt rfl]) (f.nodup_iff.2 m) (by rw[VQ];exactλx hx=>hin x ((p x).1 hx)) ?_ ?_ ?_;obtain⟨P,Q,R,S,T⟩:=key;refine⟨P.trans f,Q,R,λu A=>?_,by rw[T,VQ]⟩;rw[S u (λh=>A ((p u).1 h)),bQ,Vs];rintro⟨a,_⟩;apply A;have:(u:Int)=row.getD c 0:=by omega
  rw[this];exact bR hcl;intro j hj d;simp only[VQ]at hj;rw[g]at d⊢;split at d;exact absurd rfl d;rename_i o;rw[Vs o];split at d;rename_i a;rw[Vt a,bQ,Vt ⟨rfl,by omega⟩,a];rename_i a;rw[Vs a];have D:=w j hj d;have I:row.getD j 0≠row.getD c 0:=λe=>o (eY m hj hcl e);have t:=hin _ (bR hj);rw[bQ,Vs (by omega)];exact D;intro j b hj l d;simp only[VQ]at hj;rw[g,g,Vs d];by_cases s:(j -1)/2=i;rw[Vt s];by_cases o:j=c;rw[Vt o];exact mf C;rw[Vs o,Vs (by omega)];exact B j hj b s;rw[Vs s,Vs (by intro e;subst e;exact s q)];by_cases a:j=i;rw[Vt a];subst a;exact K c (by omega) hcl q (by omega) l;rw[Vs a];exact h1 j b hj l s;intro j b hj E L O;simp only[VQ]at hj;rw[g,g,Vs (by omega),Vs (by omega),Vs (by omega),Vt q];have:=h1 j b hj (by omega) (by omega)
  rwa [E]at this
end Go.AX
