/-
  Each reason of a desk is a clause, all others of which fail by what stands ahead (plain law).
  What is left over, of a desk: it is deeply left over; made shorter again it is the same (plain law).
  Contracts: the probe of the layer shorten.
  Contracts: what other literals a reason has, and what is left over, by the document.
  What is left over, deeply, of a desk: the program's answer is the document's (plain law).
  How a desk's trail came about: each level is calm ahead of the next decision (plain law).
  A desk's trail came about as trails do; a conflict is a clause that fails (plain law).
  What a conflict teaches: of the last level one literal is left (plain law).
  Contracts: what a conflict teaches is gone through; levels; what fails.
  Contracts: the reasons that are needed are gathered.
  What is gathered of reasons is all that is needed (plain law).
  Contracts: trails that go back.
-/
import Derived.Test.YthfhellfmbllhaaGreatS12AxShA
import Derived.Test.YthfhellfmbllhaaGreatAxIs
import Derived.Test.YthfhellfmbllhaaGreatAxBe
import Derived.Test.YthfhellfmbllhaaGreatS12AxGlI
import Derived.Test.YthfhellfmbllhaaGreatS12AxEvC
import Derived.Test.YthfhellfmbllhaaGreatS12AxGlC
import Derived.Test.YthfhellfmbllhaaGreatRows
import Derived.Test.YthfhellfmbllhaaGreatAxDr
import Derived.Sort.Grow
import Derived.Shelf.SlSortCmp.Insertion
namespace Go.AX
open Go.Proofs
set_option linter.unusedSimpArgs false
def cnt3 (l c:List Int) (v:Int):Nat:=(c.filter fun y=>decide (val3 l y=v)).length
def opn3 (l c:List Int):List Int:=c.filter fun y=>decide (0≤litX y∧val3 l y≠1∧val3 l y≠-1)
theorem ct_gen (l:List Int):∀(c:List Int) (a b z:Nat),a+c.length≤1000000→b+c.length≤1000000→z+c.length≤1000000→
 c.foldl (ctF l) ((a:Int),(b:Int),(z:Int))=(((a+cnt3 l c 1:Nat):Int),((b+cnt3 l c (-1):Nat):Int),((z+(opn3 l c).length:Nat):Int))
 |[],a,b,z,_,_,_=>by simp[cnt3,opn3]
 |y::c,a,b,z,ha,hb,hz=>by
  simp only[List.length_cons]at ha hb hz;rw[List.foldl_cons]
  by_cases c1:val3 l y=1
  ·have e:ctF l ((a:Int),(b:Int),(z:Int)) y=(((a+1:Nat):Int),(b:Int),(z:Int)):=by
    unfold ctF;rw[if_pos c1,w64_id (by dsimp only;omega) (by dsimp only;omega)];simp
   rw[e,ct_gen l c (a+1) b z (by omega) (by omega) (by omega)];simp[cnt3,opn3,c1];omega
  ·by_cases c2:val3 l y=-1
   ·have e:ctF l ((a:Int),(b:Int),(z:Int)) y=((a:Int),((b+1:Nat):Int),(z:Int)):=by
     unfold ctF;rw[if_neg c1,if_pos c2,w64_id (by dsimp only;omega) (by dsimp only;omega)];simp
    rw[e,ct_gen l c a (b+1) z (by omega) (by omega) (by omega)];simp[cnt3,opn3,c1,c2];omega
   ·by_cases c3:0≤litX y
    ·have e:ctF l ((a:Int),(b:Int),(z:Int)) y=((a:Int),(b:Int),((z+1:Nat):Int)):=by
      unfold ctF;rw[if_neg c1,if_neg c2,if_pos c3,w64_id (by dsimp only;omega) (by dsimp only;omega)];simp
     rw[e,ct_gen l c a b (z+1) (by omega) (by omega) (by omega)];simp[cnt3,opn3,c1,c2,c3];omega
    ·have e:ctF l ((a:Int),(b:Int),(z:Int)) y=((a:Int),(b:Int),(z:Int)):=by
      unfold ctF;rw[if_neg c1,if_neg c2,if_neg c3]
     rw[e,ct_gen l c a b z (by omega) (by omega) (by omega)];simp[cnt3,opn3,c1,c2,c3]
theorem val3_cases (l:List Int) (y:Int):val3 l y=0∨val3 l y=1∨val3 l y=-1:=by
 unfold val3;split
 ·exact .inl rfl
 ·split
  ·exact .inr (.inl rfl)
  ·split
   ·exact .inr (.inr rfl)
   ·exact .inl rfl
theorem op_gen (l:List Int):∀(c:List Int) (n:Int),c.foldl (opF l) n=((opn3 l c).getLast?).getD n
 |[],n=>rfl
 |y::c,n=>by
  rw[List.foldl_cons,op_gen l c];have h3:=val3_cases l y
  by_cases c1:0≤litX y∧val3 l y=0
  ·have e:opF l n y=y:=by unfold opF;rw[if_pos c1]
   have e2:opn3 l (y::c)=y::opn3 l c:=by
    unfold opn3;rw[List.filter_cons,if_pos (by rw[decide_eq_true_eq];exact⟨c1.1,by omega,by omega⟩)]
   rw[e,e2,List.getLast?_cons];rfl
  ·have e:opF l n y=n:=by unfold opF;rw[if_neg c1]
   have e2:opn3 l (y::c)=opn3 l c:=by
    unfold opn3;rw[List.filter_cons,if_neg (by rw[decide_eq_true_eq];rintro⟨a1,a2,a3⟩;exact c1 ⟨a1,by omega⟩)]
   rw[e,e2]
theorem unit_is {l c:List Int} (hc:c.length≤1000) (hx:∀y∈c,0≤litX y) (h:(unitS l c).2=true):(unitS l c).1∈c∧val3 l (unitS l c).1=0∧∀y∈c,y≠(unitS l c).1→val3 l y=-1:=by
 have hg:=ct_gen l c 0 0 0 (by omega) (by omega) (by omega);have hct:ctS l c=(((0+cnt3 l c 1:Nat):Int),((0+cnt3 l c (-1):Nat):Int),((0+(opn3 l c).length:Nat):Int)):=hg;have h0:cnt3 l c 1=0∧(opn3 l c).length=1∧(unitS l c).1=c.foldl (opF l) 0:=by
  unfold unitS at h⊢;rw[hct]at h⊢;dsimp only at h⊢
  by_cases e:((0+cnt3 l c 1:Nat):Int)≠0∨((0+(opn3 l c).length:Nat):Int)≠1
  ·rw[if_pos e]at h;cases h
  ·rw[if_neg e];refine⟨by omega,by omega,rfl⟩
 obtain⟨h1,h2,h3⟩:=h0;obtain⟨x,hx1⟩:=List.length_eq_one_iff.1 h2;have h4:(unitS l c).1=x:=by rw[h3,op_gen,hx1];rfl
 have hxm:x∈opn3 l c:=by rw[hx1];simp
 have hxm':=hxm;unfold opn3 at hxm';rw[List.mem_filter,decide_eq_true_eq]at hxm';rw[h4];have v3:=val3_cases l x;refine⟨hxm'.1,by omega,fun y hy hne=>?_⟩;have hv:=val3_cases l y;have hn1:val3 l y≠1:=fun e=>by
  have:y∈c.filter fun y=>decide (val3 l y=1):=by rw[List.mem_filter];exact⟨hy,by simpa using e⟩
  unfold cnt3 at h1;rw[List.eq_nil_of_length_eq_zero h1]at this;cases this
 rcases hv with hv|hv|hv
 ·have:y∈opn3 l c:=by
   unfold opn3;rw[List.mem_filter,decide_eq_true_eq];exact⟨hy,hx y hy,by omega,by omega⟩
  rw[hx1]at this;simp at this;exact absurd this hne
 ·exact absurd hv hn1
 ·exact hv
theorem lit6 {y:Int} (h:litChk y 6=0):y≠0∧-6≤y∧y≤6∧0≤litX y∧w64 (-y)=-y:=by
 obtain⟨a,b,c⟩:=(litChk_zero (by omega)).1 h;refine⟨a,b,c,?_,w64_id (by omega) (by omega)⟩;rw[litX_nn];exact(okL_iff y).2 ⟨a,by omega,by omega⟩
theorem relA_lits {A:Ar} {a:RA} (h:RelA A a) {r:Ro} (hr:r∈a.rows):isA A r.at'=true∧litsA A r.at'=r.lits:=by
 obtain⟨p,e1,e2,e3,e4,_⟩:=h.rows r hr;rw[e1];refine⟨e4,?_⟩;unfold litsA;rw[if_pos e4,Int.toNat_natCast,e2.num,Int.toNat_natCast];exact e3
theorem idxS_lt {α:Type} {p:α→Bool}:∀{l:List α} {j:Nat} (hj:j<l.length),p l[j]=true→0≤idxS p l∧idxS p l≤j:=by
 intro l j hj h;unfold idxS;cases hf:l.findIdx? p with
 |none=>
  rw[List.findIdx?_eq_none_iff]at hf;have:=hf _ (List.getElem_mem hj);rw[h]at this;cases this
 |some i=>
  rw[List.findIdx?_eq_some_iff_getElem]at hf;obtain⟨h1,h2,h3⟩:=hf;dsimp only;refine⟨by omega,?_⟩;apply Int.ofNat_le.2;apply Nat.le_of_not_lt;intro hlt;exact h3 j hlt h
@[simp ↓ high] theorem AGs_true {P:Program} {st:St} {Gd:Prop} {o:Op} {d:Option Tmp} {K:St→Prop} (h:Gd):AGs P st Gd o d K=AE P st o d K:=
 propext ⟨fun x=>x.1 h,fun x=>⟨fun _=>x,fun hn=>absurd h hn⟩⟩
instance:Inhabited Ro:=⟨⟨0,0,[]⟩⟩
def findA (a:RA) (q:Int):Int:=idxS (fun x:Ro=>decide (x.at'=q)) a.rows
theorem refFind_ok (a:RA) (q:Int) (ha:a.rows.length≤1000000):APure Tryz.prog 48 [raV a,I64 q] (fun r=>r=.pv (I64 (findA a q))):=by
 refine apure1 hmo Tryz.func48 (by kernel_rfl) rfl rfl (by kernel_rfl) (Nat.le_of_ble_eq_true rfl) ?_;simp[raV];refine ALoop.intro (S:=fun(i:Nat)=>⟨[(1,.pv (I64 q)),(2,.pv (.ptr 0 0)),(5,.pv (I64 i))],[[.pv (.seq false 5 (a.rows.map roR)),.pv (I64 a.size)]]⟩) (fun i=>i≤a.rows.length∧∀j (hj:j<a.rows.length),j<i→decide (a.rows[j].at'=q)=false) (fun i=>a.rows.length -i) 0 ?_ ⟨Nat.zero_le _,fun j _ h=>absurd h (Nat.not_lt_zero _)⟩ ?_
 ·exact Weak.to (by simp) (by simp) (by simp) (by simp) (by simp)
 rintro i ⟨hi,ho⟩
 by_cases h:i<a.rows.length
 ·have hw:w64 ((i:Int)+1)=((i+1:Nat):Int):=by rw[w64_id (by omega) (by omega)];omega
  by_cases c:a.rows[i].at'=q
  ·have hF:findA a q=i:=idxS_at h ho (by simpa using c);simp[h,roR,c,hF]
  ·simp[h,roR,c];refine⟨i+1,by(try dsimp only);omega,⟨by(try dsimp only);omega,fun j hj hji=>?_⟩,Weak.to (by simp[hw,roR]) (by simp) (by simp) (by simp) (by simp)⟩
   by_cases e:j=i
   ·subst e;simpa using c
   ·simpa using ho j hj (by omega)
 ·have hie:i=a.rows.length:=by omega
  subst hie;have hF:findA a q=-1:=idxS_none fun j hj=>ho j hj hj;simp[hF]
def litsD (a:RA) (q:Int):List Int:=(a.rows.getD (findA a q).toNat default).lits
theorem findA_is {A:Ar} {a:RA} (h:RelA A a) (q:Int):(isA A q=true→0≤findA a q∧litsD a q=litsA A q)∧(isA A q=false→findA a q<0):=by
 constructor
 ·intro hq;unfold litsD;unfold findA idxS;split
  ·rename_i j hj;rw[List.findIdx?_eq_some_iff_getElem]at hj;obtain⟨h1,h2,_⟩:=hj;obtain⟨_,r2⟩:=relA_lits h (List.getElem_mem h1);have e:a.rows[j].at'=q:=by simpa using h2
   rw[e]at r2;refine⟨by omega,?_⟩;rw[Int.toNat_natCast,List.getD_eq_getElem?_getD,List.getElem?_eq_getElem h1];exact r2.symm
  ·rename_i hj;rw[List.findIdx?_eq_none_iff]at hj;obtain⟨x,hx,e⟩:=h.is q hq;have:=hj x hx;simp[e]at this
 ·intro hq;unfold findA idxS;split
  ·rename_i j hj;rw[List.findIdx?_eq_some_iff_getElem]at hj;obtain⟨h1,h2,_⟩:=hj;obtain⟨r1,_⟩:=relA_lits h (List.getElem_mem h1);have e:a.rows[j].at'=q:=by simpa using h2
   rw[e,hq]at r1;cases r1
  ·omega
theorem litV_neg (l:Int):litV (-l)=litV l:=by
 unfold litV;rw[okL_neg];unfold absS;split
 ·split<;>split<;>omega
 ·rfl
theorem cl_gen (l:List Int):∀(c:List Int) (n:Int),-1≤n→n≤c.foldl (clF l) n∧(c.foldl (clF l) n=-1↔n=-1∧∀y∈c,0≤litX y→val3 l y=-1)
 |[],n,h=>by simp
 |y::c,n,h=>by
  have h3:=val3_cases l y;rw[List.foldl_cons]
  by_cases q:0≤litX y∧n<val3 l y
  ·have e:clF l n y=val3 l y:=by unfold clF;rw[if_pos q]
   rw[e];obtain⟨g1,g2⟩:=cl_gen l c (val3 l y) (by omega);refine⟨by omega,?_⟩;constructor
   ·intro hh;omega
   ·rintro⟨a1,a2⟩;have:=a2 y (List.mem_cons_self ..) q.1;omega
  ·have e:clF l n y=n:=by unfold clF;rw[if_neg q]
   rw[e];obtain⟨g1,g2⟩:=cl_gen l c n h;refine⟨g1,?_⟩;rw[g2];constructor
   ·rintro⟨a1,a2⟩;refine⟨a1,fun z hz hx=>?_⟩;rcases List.mem_cons.1 hz with rfl|hz
    ·omega
    ·exact a2 z hz hx
   ·rintro⟨a1,a2⟩;exact⟨a1,fun z hz=>a2 z (List.mem_cons_of_mem _ hz)⟩
theorem clS_m1 {l c:List Int}:clS l c=-1↔∀y∈c,0≤litX y→val3 l y=-1:=by
 have:=(cl_gen l c (-1) (by omega)).2;unfold clS;rw[this];exact⟨fun h=>h.2,fun h=>⟨rfl,h⟩⟩
theorem opn3_one {l:List Int} {x:Int} (hv:val3 l x=0) (hx0:0≤litX x):∀{c:List Int},c.Nodup→x∈c→(∀y∈c,y≠x→val3 l y=-1)→opn3 l c=[x]
 |[],_,h,_=>by cases h
 |y::c,hn,hm,ho=>by
  rw[List.nodup_cons]at hn;unfold opn3
  by_cases e:y=x
  ·subst e;rw[List.filter_cons,if_pos (by rw[decide_eq_true_eq];exact⟨hx0,by omega,by omega⟩)];congr 1;rw[List.filter_eq_nil_iff];intro z hz;have:=ho z (List.mem_cons_of_mem _ hz) (fun e=>hn.1 (e▸hz));simp[this]
  ·have hy:=ho y (List.mem_cons_self ..) e;rw[List.filter_cons,if_neg (by simp[hy])];rcases List.mem_cons.1 hm with rfl|hm
   ·exact absurd rfl e
   ·exact opn3_one hv hx0 hn.2 hm (fun z hz=>ho z (List.mem_cons_of_mem _ hz))
theorem unit_of {l c:List Int} {x:Int} (hc:c.length≤1000) (hn:c.Nodup) (hm:x∈c) (hx0:0≤litX x) (hv:val3 l x=0) (ho:∀y∈c,y≠x→val3 l y=-1):unitS l c=(x,true):=by
 have hg:=ct_gen l c 0 0 0 (by omega) (by omega) (by omega);have hct:ctS l c=(((0+cnt3 l c 1:Nat):Int),((0+cnt3 l c (-1):Nat):Int),((0+(opn3 l c).length:Nat):Int)):=hg;have h1:=opn3_one hv hx0 hn hm ho;have h2:cnt3 l c 1=0:=by
  unfold cnt3;rw[List.length_eq_zero_iff,List.filter_eq_nil_iff];intro y hy
  by_cases e:y=x
  ·subst e;simp[hv]
  ·simp[ho y hy e]
 unfold unitS;rw[hct,h1,h2,op_gen,h1];simp
def Calm (cs:List (List Int)) (ls:List Int):Prop:=∀c∈cs,(unitS ls c).2=false∧clS ls c≠-1
def litsT (t:RT):List Int:=t.rows.map (·.l)
def bel (t:RT) (k:Int):List Int:=(t.rows.filter fun x=>decide (x.lev<k)).map (·.l)
structure TraF (cs:List (List Int)) (ats:List Int) (t:RT):Prop where
  vars:t.vars=6
  dep:0≤t.dep
  chk:∀x∈t.rows,litChk x.l 6=0
  nd:(t.rows.map fun x=>litV x.l).Nodup
  lev:∀x∈t.rows,0≤x.lev∧x.lev≤t.dep
  mono:∀i j (hi:i<t.rows.length) (hj:j<t.rows.length),i<j→t.rows[i].lev≤t.rows[j].lev
  dec:∀i (hi:i<t.rows.length),t.rows[i].rea<0→0<t.rows[i].lev∧∀j (hj:j<t.rows.length),j<i→t.rows[j].lev<t.rows[i].lev
  top:0<t.dep→Calm cs (bel t t.dep)
  fst:∀k:Int,0<k→k≤t.dep→∃x∈t.rows,x.lev=k∧x.rea<0
  imp:∀i (hi:i<t.rows.length),0≤t.rows[i].rea→∃k,∃hk:k<cs.length,t.rows[i].rea=ats.getD k 0∧t.rows[i].l∈cs[k]∧(∀y∈cs[k],y≠t.rows[i].l→∃j,∃hj:j<t.rows.length,j<i∧t.rows[j].l=-y)∧
    (0<t.rows[i].lev→∃y∈cs[k],y≠t.rows[i].l∧∃j,∃hj:j<t.rows.length,j<i∧t.rows[j].l=-y∧t.rows[j].lev=t.rows[i].lev)
theorem TraF.inj {cs:List (List Int)} {ats:List Int} {t:RT} (h:TraF cs ats t) {i j:Nat} (hi:i<t.rows.length) (hj:j<t.rows.length) (e:litV t.rows[i].l=litV t.rows[j].l):i=j:=by
 have hn:=List.pairwise_iff_getElem.1 (List.pairwise_map.1 h.nd);rcases Nat.lt_trichotomy i j with c|c|c
 ·exact absurd e (hn i j hi hj c)
 ·exact c
 ·exact absurd e.symm (hn j i hj hi c)
theorem TraF.one {cs:List (List Int)} {ats:List Int} {t:RT} (h:TraF cs ats t) {y:Int} (hy:litChk y 6=0):¬(y∈litsT t∧-y∈litsT t):=by
 rintro⟨h1,h2⟩;unfold litsT at h1 h2;obtain⟨a,ha,e1⟩:=List.mem_map.1 h1;obtain⟨b,hb,e2⟩:=List.mem_map.1 h2;obtain⟨i,hi,rfl⟩:=List.getElem_of_mem ha;obtain⟨j,hj,rfl⟩:=List.getElem_of_mem hb;have hv:litV t.rows[i].l=litV t.rows[j].l:=by rw[e1,e2,litV_neg]
 have hij:i=j:=h.inj hi hj hv;subst hij;obtain⟨n0,_⟩:=lit6 hy;omega
theorem mostP_flat (cs:List (List Int)):mostP cs=cs.flatten.length:=by
 have:∀(cs:List (List Int)) (n:Nat),cs.foldl (fun n c=>n+c.length) n=n+cs.flatten.length:=by
  intro cs
  induction cs with
  |nil=>intro n;simp
  |cons c cs ih=>intro n;rw[List.foldl_cons,ih];simp;omega
 unfold mostP;rw[this];omega
theorem calm_of {cs:List (List Int)} {ls:List Int} (h1:failS cs ls<0) (h2:(nextS cs ls).2.2=false):Calm cs ls:=by
 intro c hc;constructor
 ·unfold nextS at h2;split at h2
  ·cases h2
  ·rename_i hf;rw[List.findIdx?_eq_none_iff]at hf;simpa using hf c hc
 ·intro e;obtain⟨j,hj,rfl⟩:=List.getElem_of_mem hc;have:=idxS_lt (p:=fun c=>decide (clS ls c=-1)) hj (by simp[e]);unfold failS at h1;omega
theorem fail_of {cs:List (List Int)} {ls:List Int} (h:0≤failS cs ls):∃i,∃hi:i<cs.length,failS cs ls=(i:Int)∧clS ls cs[i]=-1:=by
 unfold failS idxS at*;split at h
 ·rename_i i hf;rw[List.findIdx?_eq_some_iff_getElem]at hf;obtain⟨h1,h2,_⟩:=hf;exact⟨i,h1,rfl,by simpa using h2⟩
 ·omega
theorem dup_nodup {l:List Int} (h:dupTo l l.length=0):l.Nodup:=by
 refine List.pairwise_iff_getElem.2 fun i j hi hj hij e=>?_;have hm:=dupTo_mono l (i:=j+1) l.length (by omega);rw[dupTo]at hm;have:l.getD j 0∈l.take j:=by
  rw[List.getD_eq_getElem?_getD,List.getElem?_eq_getElem hj,Option.getD_some,←e];rw[List.mem_take_iff_getElem];exact⟨i,by omega,rfl⟩
 rw[if_pos this]at hm;omega
structure PS where
  seen:List (Int×Int)
  lits:List Int
  many:Nat
def seenB (s:List (Int×Int)) (v:Int):Bool:=decide (0<(lk s v).getD 0)
def lvl (T:Tr) (l:Int):Int:=(ofT T (litV l)).1.lev
def takeF (T:Tr) (but:Int) (p:PS) (l:Int):PS:=
 if litV l=but∨seenB p.seen (litV l)=true∨lvl T l≤0 then p
 else if lvl T l=T.beg.length then⟨pt p.seen (litV l) 1,p.lits,p.many+1⟩else⟨pt p.seen (litV l) 1,p.lits++[l],p.many⟩
def takeL (T:Tr) (but:Int) (c:List Int) (p:PS):PS:=c.foldl (takeF T but) p
def pickB (T:Tr) (p:PS) (l:Int):Bool:=seenB p.seen (litV l)&&(decide (lvl T l=T.beg.length)&&decide (0≤(ofT T (litV l)).1.rea))
def resS (A:Ar) (T:Tr) (p:PS) (l:Int):PS:=takeL T (litV l) (litsA A (ofT T (litV l)).1.rea) ⟨pt p.seen (litV l) 0,p.lits,p.many -1⟩
def walkF (A:Ar) (T:Tr) (all:List Int):Nat→PS→PS
 |0,p=>p
 |n+1,p=>if p.many≤1 then p else if pickB T p (all.getD n 0)=true then walkF A T all n (resS A T p (all.getD n 0))else walkF A T all n p
def endS (T:Tr) (all:List Int) (p:PS):List Int:=p.lits++(all.filter fun l=>seenB p.seen (litV l)&&decide (lvl T l=T.beg.length)).map fun l=>w64 (-l)
/-! ### Places of what is assigned -/
theorem TraF.pla {cs:List (List Int)} {ats:List Int} {t:RT} (h:TraF cs ats t) {j:Nat} (hj:j<t.rows.length):plR t (litV t.rows[j].l)=j:=by
 have h1:=idxS_lt (p:=fun x:En=>decide (litV x.l=litV t.rows[j].l)) hj (by simp);obtain⟨i,hi,e1,e2⟩:=plR_in (t:=t) (v:=litV t.rows[j].l) h1.1;have:=h.inj hi hj e2;subst this;exact e1
/-! ### Counting -/
/-! ### What is known while a conflict is taken apart -/
def fin (A:Ar) (T:Tr) (all:List Int) (p:PS):PS:=⟨(walkF A T all all.length p).seen,endS T all (walkF A T all all.length p),(walkF A T all all.length p).many⟩
def idA (A:Ar) (q:Int):Int:=if isA A q=true then A.row.getD q.toNat 0 else 0
structure NS where
  at':List (Int×Int)
  ok:Bool
def pla (T:Tr) (l:Int):Int:=(ofT T (litV l)).1.pla
def rea (T:Tr) (l:Int):Int:=(ofT T (litV l)).1.rea
/-! ### What was gathered -/
def Met (D:DK) (L:List Int) (s:NS) (y:Int):Prop:=y∈L∨∃j,∃hj:j<D.t.rows.length,D.t.rows[j].l=-y∧seenB s.at' j=true
theorem Met.mono {D:DK} {L:List Int} {s s':NS} {y:Int} (h:Met D L s y) (hm:∀p,seenB s.at' p=true→seenB s'.at' p=true):Met D L s' y:=
 h.imp id fun⟨j,hj,e1,e2⟩=>⟨j,hj,e1,hm _ e2⟩
def popT (T:Tr):Tr:=⟨T.marks.set (litV (T.lits.getD (T.lits.length -1) 0)).toNat ⟨0,0,0,0⟩,T.lits.take (T.lits.length -1),T.beg⟩
def popN (T:Tr):Nat→Tr
 |0=>T
 |j+1=>popT (popN T j)
def backT (T:Tr) (k:Nat):Tr:=⟨(popN T (T.lits.length -(T.beg.getD k 0).toNat)).marks,(popN T (T.lits.length -(T.beg.getD k 0).toNat)).lits,T.beg.take k⟩
set_option maxRecDepth 16000 in
theorem popper1_ok (h:List (List SV)) (n b:Nat) (T:Tr) (hn:h[n]?=some [.pv (.ptr b 0)]) (hb:h[b]?=some (trB T)) (h0:T.lits≠[]) (hs:T.lits.length≤1000000) (hv:∀y∈T.lits,0≤litV y∧litV y<T.marks.length):
 AMut Tryz.prog 144 [.ptr n 0] h (fun r h'=>h'=h.set b (trB (popT T))∧r=.pv (I64 (T.lits.getD (T.lits.length -1) 0))):=by
 refine amutXD [] [.tmp 1] (h.set b (trB (popT T))) (by simp) (fun hh=>by rw[List.length_set];exact belowH_setT (belowC_trB _ _) b hh) hmo Tryz.func144 (by kernel_rfl) rfl rfl (by kernel_rfl) (Nat.le_of_ble_eq_true rfl) ?_;obtain⟨hlt,hb'⟩:=List.getElem?_eq_some_iff.1 hb;obtain⟨hltn,hn'⟩:=List.getElem?_eq_some_iff.1 hn;obtain⟨m,hm⟩:∃m,T.lits.length=m+1:=⟨T.lits.length -1,by have:=List.length_pos_iff.2 h0;omega⟩;have hml:m<T.lits.length:=by omega
 have hw:w64 ((T.lits.length:Int) -1)=(m:Int):=by rw[w64_id (by omega) (by omega)];omega
 have hg:T.lits.getD (T.lits.length -1) 0=T.lits[m]:=by rw[hm,Nat.add_sub_cancel,List.getD_eq_getElem?_getD,List.getElem?_eq_getElem hml];rfl
 rw[hg];have hne:n≠b:=fun e=>by subst e;rw[hn]at hb;simp[trB]at hb
 have hgn:∀x,(h.set b x)[n]?=some [.pv (.ptr b 0)]:=fun x=>by rw[List.getElem?_set_ne (Ne.symm hne)];exact hn
 have hgn':∀x hh,(h.set b x)[n]'hh=[.pv (.ptr b 0)]:=fun x hh=>by have:=hgn x;rw[List.getElem?_eq_getElem hh]at this;exact Option.some.inj this
 have hgs:∀x hh,(h.set b x)[b]'hh=x:=fun x hh=>by simp
 obtain⟨v1,v2⟩:=hv _ (List.getElem_mem hml);have hLV:=litVar_ok T.lits[m];obtain⟨i,hi⟩:∃i:Nat,litV T.lits[m]=(i:Int):=⟨(litV T.lits[m]).toNat,by omega⟩;have hil:i<T.marks.length:=by omega
 have hmk:(T.marks.map mkR).set i [I64 0,I64 0,I64 0,I64 0]=(T.marks.set i ⟨0,0,0,0⟩).map mkR:=by rw[List.map_set];rfl
 have hlt2:(irow T.lits).take m=irow (T.lits.take m):=by unfold irow;rw[List.map_take]
 have hpo:popT T=⟨T.marks.set i ⟨0,0,0,0⟩,T.lits.take m,T.beg⟩:=by unfold popT;rw[hg,hi,Int.toNat_natCast,hm,Nat.add_sub_cancel]
 have hlm:m≤T.lits.length:=by omega
 rw[hpo];rw[hi]at hLV;simp[hb',hn',hlt,hltn,trB,hw,hgn',hgs,hml,hlm,hlt2];refine CallQ0.intro hLV (by simp) ?_;simp[hb',hn',hlt,hltn,trB,hw,hgn',hgs,hml,hlm,hlt2,hil,hmk];rw[List.take_of_length_le (by simp)];simp[mkR]
theorem popper_ok (h:List (List SV)) (b:Nat):
 AMut Tryz.prog 98 [.ptr b 0] h (fun r h'=>h'=h++[[.pv (.ptr b 0)]]∧r=.pv (.fn (.func 144) [] [.ptr h.length 0])):=by
 refine amutX [] [.tmp 2] hmo Tryz.func98 (by kernel_rfl) rfl rfl (by kernel_rfl) (Nat.le_of_ble_eq_true rfl) ?_;simp
theorem popN_beg (T:Tr):∀j,(popN T j).beg=T.beg
 |0=>rfl
 |j+1=>popN_beg T j
theorem popN_mk (T:Tr):∀j,(popN T j).marks.length=T.marks.length
 |0=>rfl
 |j+1=>by rw[popN];unfold popT;rw[List.length_set];exact popN_mk T j
theorem popN_lits (T:Tr):∀j,(popN T j).lits=T.lits.take (T.lits.length -j)
 |0=>by rw[popN,Nat.sub_zero,List.take_length]
 |j+1=>by
  rw[popN];unfold popT;simp only;rw[popN_lits T j,List.take_take,List.length_take,show min (min (T.lits.length -j) T.lits.length -1) (T.lits.length -j)=T.lits.length -(j+1) by omega]
def popO (T:Tr):Nat→List Int
 |0=>[]
 |j+1=>popO T j++[(popN T j).lits.getD ((popN T j).lits.length -1) 0]
theorem popO_len (T:Tr):∀j,(popO T j).length=j
 |0=>rfl
 |j+1=>by rw[popO,List.length_append,popO_len T j];rfl
end Go.AX