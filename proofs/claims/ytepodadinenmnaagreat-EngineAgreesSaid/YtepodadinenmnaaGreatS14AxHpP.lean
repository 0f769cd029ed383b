/-
  The plain law of heaps: rows in which each one is no better than the one at half its place.
-/
import Derived.Test.YtepodadinenmnaaGreatAxBM
namespace Go.AX
def i7(sc:List Int)(v w:Int):Bool:=if sc.getD v.toNat 0≠sc.getD w.toNat 0 then decide (sc.getD w.toNat 0<sc.getD v.toNat 0)else decide (v<w)
theorem uN{sc:List Int}{v w:Int}:i7 sc v w=true↔(sc.getD w.toNat 0<sc.getD v.toNat 0∨(sc.getD v.toNat 0=sc.getD w.toNat 0∧v<w)):=by
 unfold i7;split
 ·rename_i h;simp only[decide_eq_true_eq];exact⟨.inl,fun h2=>h2.elim id fun h3=>absurd h3.1 h⟩
 ·rename_i h;simp only[decide_eq_true_eq];simp only[ne_eq,Classical.not_not]at h;exact⟨fun h2=>.inr ⟨h,h2⟩,fun h2=>h2.elim (fun h3=>by omega) fun h3=>h3.2⟩
theorem gd{sc:List Int}{v w:Int}:i7 sc v w=false↔(sc.getD v.toNat 0<sc.getD w.toNat 0∨(sc.getD v.toNat 0=sc.getD w.toNat 0∧w≤v)):=by
 rw[←Bool.not_eq_true,uN];omega
theorem i8{sc:List Int}{v w:Int}(h:i7 sc v w=true):i7 sc w v=false:=by rw[uN]at h;rw[gd];omega
theorem gU{sc:List Int}{u v w:Int}(h:i7 sc u v=false)(h2:i7 sc v w=false):i7 sc u w=false:=by rw[gd]at*;omega
theorem lQ(sc:List Int)(v:Int):i7 sc v v=false:=by rw[gd];omega
theorem aV(l:List Int)(i j:Nat)(x:Int):(l.set i x).getD j 0=if i=j∧i<l.length then x else l.getD j 0:=by
 simp only[List.getD_eq_getElem?_getD,List.getElem?_set]
 by_cases h:i=j
 ·subst h
  by_cases h2:i<l.length
  ·simp[h2]
  ·simp[h2]
 ·simp[h]
theorem aW{l:List Int}{i:Nat}(h:i<l.length):l.getD i 0∈l:=by simp[List.getD_eq_getElem?_getD,h]
theorem EU{l:List Int}{x:Int}(h:x∈l):∃i,i<l.length∧l.getD i 0=x:=by
 obtain⟨i,hi,rfl⟩:=List.mem_iff_getElem.1 h;exact⟨i,hi,by simp[hi]⟩
theorem dE{l:List Int}(h:l.Nodup){i j:Nat}(hi:i<l.length)(hj:j<l.length)(e:l.getD i 0=l.getD j 0):i=j:=by
 simp only[List.getD_eq_getElem?_getD,List.getElem?_eq_getElem hi,List.getElem?_eq_getElem hj,Option.getD_some]at e;unfold List.Nodup at h;rw[List.pairwise_iff_getElem]at h;rcases Nat.lt_trichotomy i j with h1|h1|h1
 ·exact absurd e (h i j hi hj h1)
 ·exact h1
 ·exact absurd e.symm (h j i hj hi h1)
theorem swap_perm{l:List Int}{i j:Nat}(hi:i<l.length)(hj:j<l.length):((l.set i (l.getD j 0)).set j (l.getD i 0)).Perm l:=by
 have := @List.set_set_perm _ l _ _ hi hj; simpa [List.getD_eq_getElem?_getD, hi, hj] using this
def HO(sc R:List Int)(k:Nat):Prop:=∀j,0<j→j<R.length→k≤(j -1)/2→i7 sc (R.getD j 0) (R.getD ((j -1)/2) 0)=false
def Nr(R pl:List Int)(v:Int):Prop:=∀j,j<R.length→R.getD j 0≠v→pl.getD (R.getD j 0).toNat 0=(j:Int)
def PL(R pl:List Int):Prop:=∀j,j<R.length→pl.getD (R.getD j 0).toNat 0=(j:Int)
def rL(R:List Int)(n:Nat):Prop:=∀x∈R,1≤x∧x<(n:Int)
/-! ### Up -/
def oX(sc:List Int)(v:Int)(i:Nat)(row pl:List Int):List Int×List Int:=
 if h:0<i∧i7 sc v (row.getD ((i -1)/2) 0)=true then
  oX sc v ((i -1)/2) (row.set i (row.getD ((i -1)/2) 0)) (pl.set (row.getD ((i -1)/2) 0).toNat i)
 else(row.set i v,pl.set v.toNat i)
termination_by i
decreasing_by omega
structure UpOk (sc row pl:List Int) (v:Int) (r:List Int×List Int) (i:Nat):Prop where
  perm:r.1.Perm (row.set i v)
  ho:HO sc r.1 0
  plc:PL r.1 r.2
  out:∀u:Nat,¬(u:Int)∈row.set i v→r.2.getD u 0=pl.getD u 0
  len:r.2.length=pl.length
theorem EV{sc:List Int}{v:Int}:∀(i:Nat)(row pl:List Int),i<row.length→(row.set i v).Nodup→rL (row.set i v) pl.length→Nr (row.set i v) pl v→
 (∀j,0<j→j<row.length→j≠i→i7 sc ((row.set i v).getD j 0) ((row.set i v).getD ((j -1)/2) 0)=false)→
 (∀j,0<j→j<row.length→(j -1)/2=i→0<i→i7 sc ((row.set i v).getD j 0) ((row.set i v).getD ((i -1)/2) 0)=false)→
 UpOk sc row pl v (oX sc v i row pl) i:=by
 intro i
 induction i using Nat.strongRecOn with
 |_ i ih=>
  intro row pl hi hnd hin hpl h1 h2;have hg:(row.set i v).getD i 0=v:=by rw[aV,if_pos ⟨rfl,hi⟩]
  unfold oX;split
  ·rename_i hc;obtain⟨hi0,hb⟩:=hc;have hp:(i -1)/2<i:=by omega
   have hpl2:(i -1)/2<row.length:=by omega
   generalize hpe:(i -1)/2=p at*;have hgp:(row.set i v).getD p 0=row.getD p 0:=by rw[aV,if_neg (by omega)]
   have hsw:(row.set i (row.getD p 0)).set p v=((row.set i v).set i ((row.set i v).getD p 0)).set p ((row.set i v).getD i 0):=by rw[hg,hgp,List.set_set]
   have hperm:((row.set i (row.getD p 0)).set p v).Perm (row.set i v):=by rw[hsw];exact swap_perm (by simpa using hi) (by simpa using hpl2)
   have hmem:∀x,x∈(row.set i (row.getD p 0)).set p v↔x∈row.set i v:=fun x=>hperm.mem_iff;have hgx:∀j,((row.set i (row.getD p 0)).set p v).getD j 0=if j=p then v else if j=i then row.getD p 0 else row.getD j 0:=fun j=>by
    rw[aV,aV,List.length_set]
    by_cases e1:j=p
    ·subst e1;rw[if_pos ⟨rfl,hpl2⟩,if_pos rfl]
    ·rw[if_neg (by omega),if_neg e1]
     by_cases e2:j=i
     ·subst e2;rw[if_pos ⟨rfl,hi⟩,if_pos rfl]
     ·rw[if_neg (by omega),if_neg e2]
   have hgo:∀j,(row.set i v).getD j 0=if j=i then v else row.getD j 0:=fun j=>by
    rw[aV]
    by_cases e2:j=i
    ·subst e2;rw[if_pos ⟨rfl,hi⟩,if_pos rfl]
    ·rw[if_neg (by omega),if_neg e2]
   have hpv:row.getD p 0≠v:=fun e=>by
    have:=dE hnd (i:=i) (j:=p) (by simpa using hi) (by simpa using hpl2) (by rw[hgo,hgo,if_pos rfl,if_neg (by omega),e]);omega
   have hpin:=hin (row.getD p 0) (by rw[←hgp];exact aW (by simpa using hpl2));have key:=ih p hp (row.set i (row.getD p 0)) (pl.set (row.getD p 0).toNat i) (by simpa using hpl2) (hperm.nodup_iff.2 hnd) (by rw[List.length_set];exact fun x hx=>hin x ((hmem x).1 hx)) ?_ ?_ ?_
   ·obtain⟨k1,k2,k3,k4,k5⟩:=key;refine⟨k1.trans hperm,k2,k3,fun u hu=>?_,by rw[k5,List.length_set]⟩;rw[k4 u (fun h=>hu ((hmem u).1 h)),aV,if_neg];rintro⟨e,_⟩;apply hu;have:(u:Int)=row.getD p 0:=by omega
    rw[this,←hgp];exact aW (by simpa using hpl2)
   ·intro j hj hne;simp only[List.length_set]at hj;rw[hgx]at hne⊢;split at hne
    ·exact absurd rfl hne
    ·rename_i e1;rw[if_neg e1];split at hne
     ·rename_i e2;rw[if_pos e2,aV,if_pos ⟨rfl,by omega⟩,e2]
     ·rename_i e2;rw[if_neg e2];have hj2:=hpl j (by simpa using hj) (by rw[hgo,if_neg e2];exact hne);rw[hgo,if_neg e2]at hj2;have hne2:row.getD j 0≠row.getD p 0:=fun e=>e1 (dE hnd (by simpa using hj) (by simpa using hpl2) (by rw[hgo,hgo,if_neg e2,if_neg (by omega),e]));have hjin:=hin (row.getD j 0) (by have:=aW (l:=row.set i v) (i:=j) (by simpa using hj);rwa [hgo,if_neg e2]at this);rw[aV,if_neg (by omega)];exact hj2
   ·intro j hj0 hj hne;simp only[List.length_set]at hj;rw[hgx,hgx,if_neg hne]
    by_cases e2:j=i
    ·rw[if_pos e2,e2,hpe,if_pos rfl];exact i8 hb
    ·rw[if_neg e2];have h3:=h1 j hj0 hj e2;rw[hgo,hgo,if_neg e2]at h3
     by_cases e3:(j -1)/2=p
     ·rw[if_pos e3];rw[e3,if_neg (by omega)]at h3;exact gU h3 (i8 hb)
     ·rw[if_neg e3]
      by_cases e4:(j -1)/2=i
      ·rw[if_pos e4];have:=h2 j hj0 hj e4 hi0
       rwa [hgo,hgo,if_neg e2,if_neg (by omega)]at this
      ·rw[if_neg e4];rwa [if_neg e4]at h3
   ·intro j hj0 hj hjp hp0;simp only[List.length_set]at hj;have hpp:(p -1)/2≠p:=by omega
    have hppi:(p -1)/2≠i:=by omega
    rw[hgx,hgx,if_neg (by omega),if_neg hpp,if_neg hppi];have h4:=h1 p hp0 (by omega) (by omega);rw[hgo,hgo,if_neg (by omega),if_neg hppi]at h4
    by_cases e2:j=i
    ·rw[if_pos e2];exact h4
    ·rw[if_neg e2];have h3:=h1 j hj0 hj e2;rw[hgo,hgo,if_neg e2,hjp,if_neg (by omega)]at h3;exact gU h3 h4
  ·rename_i hc;have hgo:∀j,(row.set i v).getD j 0=if j=i then v else row.getD j 0:=fun j=>by
    rw[aV]
    by_cases e2:j=i
    ·subst e2;rw[if_pos ⟨rfl,hi⟩,if_pos rfl]
    ·rw[if_neg (by omega),if_neg e2]
   have hvm:v∈row.set i v:=by have:=aW (l:=row.set i v) (i:=i) (by simpa using hi);rwa [hg]at this
   have hvin:=hin v hvm;refine⟨List.Perm.refl _,fun j hj0 hj _=>?_,fun j hj=>?_,fun u hu=>?_,by simp⟩
   ·simp only[List.length_set]at hj
    by_cases e:j=i
    ·subst e;rw[hgo,hgo,if_pos rfl,if_neg (by omega)];have:¬i7 sc v (row.getD ((j -1)/2) 0)=true:=fun h=>hc ⟨hj0,h⟩;simpa using this
    ·exact h1 j hj0 hj e
   ·simp only[List.length_set]at hj;show(pl.set v.toNat (i:Int)).getD ((row.set i v).getD j 0).toNat 0=(j:Int)
    by_cases e:(row.set i v).getD j 0=v
    ·have hji:j=i:=dE hnd (by simpa using hj) (by simpa using hi) (by rw[e,hg]);rw[e,aV,if_pos ⟨rfl,by omega⟩,hji]
    ·have h3:=hpl j (by simpa using hj) e;have hjin:=hin _ (aW (l:=row.set i v) (i:=j) (by simpa using hj));rw[aV,if_neg (by omega)];exact h3
   ·rw[aV,if_neg];rintro⟨e,_⟩;apply hu;have:(u:Int)=v:=by omega
    rw[this];exact hvm
/-! ### Down -/
def eu(sc row:List Int)(v:Int)(i:Nat):Int×Nat:=
 let a:=if 2*i+1<row.length∧i7 sc (row.getD (2*i+1) 0) v=true then(row.getD (2*i+1) 0,2*i+1)else(v,i)
 if 2*i+2<row.length∧i7 sc (row.getD (2*i+2) 0) a.1=true then(row.getD (2*i+2) 0,2*i+2)else a
theorem wJ{sc row:List Int}{v:Int}{i:Nat}:
    ((eu sc row v i = (v, i) ∧ ∀ j, j < row.length → 0 < j → (j - 1) / 2 = i → i7 sc (row.getD j 0) v = false) ∨
     (∃c,eu sc row v i=(row.getD c 0,c)∧c<row.length∧(c -1)/2=i∧i<c∧i7 sc (row.getD c 0) v=true∧∀j,j<row.length→0<j→(j -1)/2=i→i7 sc (row.getD j 0) (row.getD c 0)=false)):=by
  unfold eu
  by_cases h1:2*i+1<row.length∧i7 sc (row.getD (2*i+1) 0) v=true
  · rw[if_pos h1]
    dsimp only
    by_cases h2:2*i+2<row.length∧i7 sc (row.getD (2*i+2) 0) (row.getD (2*i+1) 0)=true
    · rw[if_pos h2]
      refine .inr ⟨2*i+2,rfl,h2.1,by omega,by omega,?_,fun j hj hj0 hji=>?_⟩
      · have a1:=h1.2;have a2:=h2.2;rw[uN]at*;omega
      · have:j=2*i+1∨j=2*i+2:=by omega
        rcases this with rfl|rfl
        · exact i8 h2.2
        · exact lQ _ _
    · rw[if_neg h2]
      refine .inr ⟨2*i+1,rfl,h1.1,by omega,by omega,h1.2,fun j hj hj0 hji=>?_⟩
      have:j=2*i+1∨j=2*i+2:=by omega
      rcases this with rfl|rfl
      · exact lQ _ _
      · have:¬i7 sc (row.getD (2*i+2) 0) (row.getD (2*i+1) 0)=true:=fun h=>h2 ⟨hj,h⟩
        simpa using this
  · rw[if_neg h1]
    dsimp only
    have hl:∀hj:2*i+1<row.length,i7 sc (row.getD (2*i+1) 0) v=false:=fun hj=>by
      have:¬i7 sc (row.getD (2*i+1) 0) v=true:=fun h=>h1 ⟨hj,h⟩
      simpa using this
    by_cases h2:2*i+2<row.length∧i7 sc (row.getD (2*i+2) 0) v=true
    · rw[if_pos h2]
      refine .inr ⟨2*i+2,rfl,h2.1,by omega,by omega,h2.2,fun j hj hj0 hji=>?_⟩
      have:j=2*i+1∨j=2*i+2:=by omega
      rcases this with rfl|rfl
      · exact gU (hl hj) (i8 h2.2)
      · exact lQ _ _
    · rw[if_neg h2]
      refine .inl ⟨rfl,fun j hj hj0 hji=>?_⟩
      have:j=2*i+1∨j=2*i+2:=by omega
      rcases this with rfl|rfl
      · exact hl hj
      · have:¬i7 sc (row.getD (2*i+2) 0) v=true:=fun h=>h2 ⟨hj,h⟩
        simpa using this
def dR(sc:List Int)(v:Int):Nat→Nat→List Int→List Int→List Int×List Int
 |0,i,row,pl=>(row.set i v,pl.set v.toNat i)
 |n+1,i,row,pl=>
  if(eu sc row v i).2=i then(row.set i (eu sc row v i).1,pl.set (eu sc row v i).1.toNat i)
  else dR sc v n (eu sc row v i).2 ((row.set i (eu sc row v i).1).set (eu sc row v i).2 v) (pl.set (eu sc row v i).1.toNat i)
structure DnOk (sc row pl:List Int) (k:Nat) (r:List Int×List Int):Prop where
  perm:r.1.Perm row
  ho:HO sc r.1 k
  plc:PL r.1 r.2
  out:∀u:Nat,¬(u:Int)∈row→r.2.getD u 0=pl.getD u 0
  len:r.2.length=pl.length
theorem rl{sc:List Int}{v:Int}{k:Nat}:∀(n i:Nat)(row pl:List Int),i<row.length→row.length≤i+n→k≤i→row.getD i 0=v→row.Nodup→rL row pl.length→Nr row pl v→
 (∀j,0<j→j<row.length→k≤(j -1)/2→(j -1)/2≠i→i7 sc (row.getD j 0) (row.getD ((j -1)/2) 0)=false)→
 (∀j,0<j→j<row.length→(j -1)/2=i→0<i→k≤(i -1)/2→i7 sc (row.getD j 0) (row.getD ((i -1)/2) 0)=false)→
 DnOk sc row pl k (dR sc v n i row pl)
 |0,i,row,pl,hi,hn,_,_,_,_,_,_,_=>by omega
 |n+1,i,row,pl,hi,hn,hk,hv,hnd,hin,hpl,h1,h2=>by
  have hvm:v∈row:=by have:=aW hi;rwa [hv]at this
  have hvin:=hin v hvm;have hset:row.set i v=row:=by
   apply List.ext_getElem
   ·simp
   ·intro j a1 a2;rw[List.getElem_set];split
    ·rename_i e;subst e;have:row.getD i 0=row[i]:=by simp[hi]
     rw[←hv,this]
    ·rfl
  rcases wJ (sc:=sc) (row:=row) (v:=v) (i:=i)with⟨e,hc⟩|⟨c,e,hcl,hci,hic,hcb,hc⟩
  ·simp only[dR,e,if_true];rw[hset];refine⟨List.Perm.refl _,fun j hj0 hj hkj=>?_,fun j hj=>?_,fun u hu=>?_,by simp⟩
   ·by_cases e2:(j -1)/2=i
    ·rw[e2,hv];exact hc j hj hj0 e2
    ·exact h1 j hj0 hj hkj e2
   ·show(pl.set v.toNat (i:Int)).getD (row.getD j 0).toNat 0=(j:Int);replace hj:j<row.length:=hj
    by_cases e2:row.getD j 0=v
    ·have hji:j=i:=dE hnd hj hi (by rw[e2,hv]);rw[e2,aV,if_pos ⟨rfl,by omega⟩,hji]
    ·have hjin:=hin _ (aW hj);rw[aV,if_neg (by omega)];exact hpl j hj e2
   ·rw[aV,if_neg];rintro⟨e2,_⟩;apply hu;have:(u:Int)=v:=by omega
    rw[this];exact hvm
  ·simp only[dR,e];rw[if_neg (by omega)];have hsw:(row.set i (row.getD c 0)).set c v=(row.set i (row.getD c 0)).set c (row.getD i 0):=by rw[hv]
   have hperm:((row.set i (row.getD c 0)).set c v).Perm row:=by rw[hsw];exact swap_perm hi hcl
   have hmem:∀x,x∈(row.set i (row.getD c 0)).set c v↔x∈row:=fun x=>hperm.mem_iff;have hgx:∀j,((row.set i (row.getD c 0)).set c v).getD j 0=if j=c then v else if j=i then row.getD c 0 else row.getD j 0:=fun j=>by
    rw[aV,aV,List.length_set]
    by_cases e1:j=c
    ·subst e1;rw[if_pos ⟨rfl,hcl⟩,if_pos rfl]
    ·rw[if_neg (by omega),if_neg e1]
     by_cases e2:j=i
     ·subst e2;rw[if_pos ⟨rfl,hi⟩,if_pos rfl]
     ·rw[if_neg (by omega),if_neg e2]
   have hcv:row.getD c 0≠v:=fun e=>by
    have:=dE hnd (i:=c) (j:=i) hcl hi (by rw[e,hv]);omega
   have hcin:=hin _ (aW hcl);have key:=rl (sc:=sc) (k:=k) n c ((row.set i (row.getD c 0)).set c v) (pl.set (row.getD c 0).toNat i) (by simpa using hcl) (by simp;omega) (by omega) (by rw[hgx,if_pos rfl]) (hperm.nodup_iff.2 hnd) (by rw[List.length_set];exact fun x hx=>hin x ((hmem x).1 hx)) ?_ ?_ ?_
   ·obtain⟨k1,k2,k3,k4,k5⟩:=key;refine⟨k1.trans hperm,k2,k3,fun u hu=>?_,by rw[k5,List.length_set]⟩;rw[k4 u (fun h=>hu ((hmem u).1 h)),aV,if_neg];rintro⟨e2,_⟩;apply hu;have:(u:Int)=row.getD c 0:=by omega
    rw[this];exact aW hcl
   ·intro j hj hne;simp only[List.length_set]at hj;rw[hgx]at hne⊢;split at hne
    ·exact absurd rfl hne
    ·rename_i e1;rw[if_neg e1];split at hne
     ·rename_i e2;rw[if_pos e2,aV,if_pos ⟨rfl,by omega⟩,e2]
     ·rename_i e2;rw[if_neg e2];have hj2:=hpl j hj hne;have hne2:row.getD j 0≠row.getD c 0:=fun e=>e1 (dE hnd hj hcl e);have hjin:=hin _ (aW hj);rw[aV,if_neg (by omega)];exact hj2
   ·intro j hj0 hj hkj hne;simp only[List.length_set]at hj;rw[hgx,hgx,if_neg hne]
    by_cases e3:(j -1)/2=i
    ·rw[if_pos e3]
     by_cases e1:j=c
     ·rw[if_pos e1];exact i8 hcb
     ·rw[if_neg e1,if_neg (by omega)];exact hc j hj hj0 e3
    ·rw[if_neg e3,if_neg (by intro e;subst e;exact e3 hci)]
     by_cases e2:j=i
     ·rw[if_pos e2];subst e2;exact h2 c (by omega) hcl hci (by omega) hkj
     ·rw[if_neg e2];exact h1 j hj0 hj hkj e3
   ·intro j hj0 hj hjc hc0 hkc;simp only[List.length_set]at hj;rw[hgx,hgx,if_neg (by omega),if_neg (by omega),if_neg (by omega),if_pos hci];have:=h1 j hj0 hj (by omega) (by omega)
    rwa [hjc]at this
end Go.AX