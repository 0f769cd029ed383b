/-
  Contracts: clause.Norm.
  Contracts: the one form of a clause is the document's.
  Contracts: clause.Check, Without, Resolve.
-/
import Derived.Test.YtepodadinenmnaaGreatS14AxClD
import Derived.Test.YtepodadinenmnaaGreatS14AxShelf2
import Derived.Test.YtepodadinenmnaaGreatAxAg
namespace Go.AX
open Go.Proofs
set_option linter.unusedSimpArgs false
abbrev Lit:={n:Int//da n=true}
instance:Inhabited Lit:=⟨⟨1,rfl⟩⟩
def yi(a b:Lit):Int:=yc (bi a.1) (bi b.1)
theorem qG{a b:Int}(ha:da a=true)(hb:da b=true)(h:bi a=bi b):a=b:=by
 obtain⟨a1,a2,a3⟩:=(bj a).1 ha;obtain⟨b1,b2,b3⟩:=(bj b).1 hb;unfold bi eF at h;rw[if_pos ha,if_pos hb]at h;split at h<;>split at h<;>omega
theorem qH(a b:Lit):ltOf yi a b=decide (bi a.1<bi b.1):=by
 unfold ltOf yi yc
 by_cases h:bi a.1<bi b.1
 ·simp[h]
 ·by_cases h2:bi a.1>bi b.1<;>simp[h,h2]
theorem Dy:Sort.SWO (ltOf yi)where
 irrefl x:=by rw[qH];simp
 trans x y z:=by simp only[qH,decide_eq_true_eq];omega
 ntrans x y z:=by simp only[qH,decide_eq_false_iff_not];omega
theorem Dz(x y:Lit)(h1:ltOf yi x y=false)(h2:ltOf yi y x=false):x=y:=by
 rw[qH]at h1 h2;simp at h1 h2;exact Subtype.ext (qG x.2 y.2 (by omega))
theorem Bw(x:Int):ao Tryz.prog 281 [ae x] (fun r=>r=.pv (BL (!da x))):=by
 refine aw aG Tryz.func281 (by kernel_rfl) rfl rfl (by kernel_rfl) (Nat.le_of_ble_eq_true rfl) ?_;simp;refine am.intro (aD _) (by simp) ?_;simp[Bu]
theorem Bx(x y:Int):ao Tryz.prog 283 [ae x,ae y] (fun r=>r=.pv (ae (yc (bi x) (bi y)))):=by
 refine aw aG Tryz.func283 (by kernel_rfl) rfl rfl (by kernel_rfl) (Nat.le_of_ble_eq_true rfl) ?_;simp;refine am.intro (oT _) (by simp) ?_;simp;refine am.intro (oT _) (by simp) ?_;simp;refine am.intro (yd _ _) (by simp) ?_;simp
def cK:List Int→List Lit
 |[]=>[]
 |x::l=>if h:da x=true then⟨x,h⟩::cK l else cK l
theorem jA:∀l:List Int,(cK l).map (·.1)=l.filter da
 |[]=>rfl
 |x::l=>by
  rw[cK];split
  ·rename_i h;rw[List.map_cons,jA l,List.filter_cons,if_pos h]
  ·rename_i h;rw[jA l,List.filter_cons,if_neg h]
def iv(l:List Lit):List Lit:=l.mergeSort fun x y=>!(ltOf yi) y x
def d4(l:List Int):List Int:=cW ((iv (cK l)).map (·.1))
theorem DA(l:List Lit)(hl:l.length≤1000000):tT Tryz.prog 282 1 (az (l.map (·.1))) [.fn (.func 283) [] []] (fun k rows=>k=none∧rows=az ((iv l).map (·.1))):=
 vY Tryz.sortF (fun x:Lit=>x.1) yi 283 l hl Dy Dz (enters_of Tryz.func283 (by kernel_rfl) rfl) (by kernel_rfl) (fun x y=>Bx x.1 y.1)
theorem tT.asFn{P:Program}{f g:FuncId}{e:Nat}{rows:List (List PV)}{R:Option Nat→List (List PV)→Prop}(h:tT P f e rows [.fn (.func g) [] []] R):tT P f e rows [.lit (.func (.func g) #[] #[])] R:=by
 have hf:∀{G:Gh}{us:List Value},ai G [.lit (.func (.func g) #[] #[])] us→ai G [.fn (.func g) [] []] us:=fun⟨v,r,h1,h2,h3⟩=>⟨v,r,h1,⟨#[],#[],h2,rfl,rfl⟩,h3⟩;exact⟨h.1,fun hn w c cap arr T pre vs suf us h1 h2 h3 h4 h5 h6 h7=>h.2.1 hn w c cap arr T pre vs suf us h1 h2 h3 h4 h5 (hf h6) h7,fun hn w p cap us h1=>h.2.2 hn w p cap us (hf h1)⟩
theorem fg(k:Nat):∀l:List Int,bP k (az l)
 |[]=>trivial
 |_::l=>⟨⟨trivial,trivial⟩,fg k l⟩
theorem fD(l:List Int):(az l).length=l.length:=by unfold az;simp
theorem uq(a b:List Int):az (a++b)=az a++az b:=by unfold az;simp
theorem mM(a b:List Int):(az (a++b)).take a.length=az a:=by rw[uq,List.take_left' (fD a)]
theorem Gx(l:List Int):aU (fun x=>!da x) l=(cK l).map (·.1):=by
 rw[jA];unfold aU;congr 1;funext x;simp
theorem Gy(l:List Int)(hl:l.length≤1000000):ao Tryz.prog 241 [.seq false 1 (af l)] (fun r=>r=.own true 1 (af (d4 l))):=by
 refine aw aG Tryz.func241 (by kernel_rfl) rfl rfl (by kernel_rfl) (Nat.le_of_ble_eq_true rfl) ?_;have hD:=(gM l hl 281 [] (fun x=>!da x) (fun r=>rfl) rfl (fun k=>trivial) trivial (fun x _=>Bw x)).asFn;have hdl:=iO (fun x=>!da x) l;have hde:=Gx l;unfold Gt at hD;rw[hde]at hD hdl;have hln:(cK l).length≤1000000:=by rw[List.length_map]at hdl;omega
 have hS:=(DA (cK l) hln).asFn;have hsl:(iv (cK l)).length=(cK l).length:=List.length_mergeSort _;have hC:=qE ((iv (cK l)).map (·.1)) (by rw[List.length_map,hsl];exact hln);have hcl:=mK ((iv (cK l)).map (·.1)) ((iv (cK l)).map (·.1)).length;unfold Io at hC;have hcs:cW ((iv (cK l)).map (·.1))=d4 l:=rfl;have hcs2:aR ((iv (cK l)).map (·.1)) ((iv (cK l)).map (·.1)).length=d4 l:=rfl;rw[hcs]at hC;rw[hcs2]at hcl;have hsl2:((iv (cK l)).map (·.1)).length=((cK l).map (·.1)).length:=by rw[List.length_map,List.length_map,hsl]
 generalize(iv (cK l)).map (·.1)=so at*;generalize(cK l).map (·.1)=va at*;generalize d4 l=no at*;simp;refine am.intro (gL l hl) (by simp) ?_;simp;refine am.introX (dg.introS (o:=.slot 6) (lo:=0) (hi:=l.length) hD (by simp) rfl rfl (by simp) (by simp) rfl (by simp;rw[List.take_of_length_le (by simp[af])];rfl) (fg 0 l) (by simp) (by simp) ?_);rintro k rows' ⟨rfl,rfl⟩ _ _;have hd1:List.drop l.length (af l)=[]:=List.drop_eq_nil_of_le (by simp[af]);have hI:=fD (va++List.replicate (l.length -va.length) 0);simp[hd1];refine am.introX (dg.introS (o:=.slot 6) (lo:=0) (hi:=va.length) hS (by simp) rfl rfl (by simp) (by simp) rfl (by simp;exact mM _ _) (fg 0 va) (by simp) (by simp) ?_);rintro k rows' ⟨rfl,rfl⟩ _ _;simp;refine am.introX (dg.introS (o:=.slot 6) (lo:=0) (hi:=va.length) hC (by simp) rfl rfl (by simp) (by simp) rfl (by simp;rw[List.take_left' (by rw[fD,hsl2])]) (fg 0 so) (by simp) (by simp) ?_);rintro k rows' ⟨rfl,rfl⟩ _ _;simp;rw[List.take_append_of_le_length (by rw[fD];simp),mM];rfl
def vZ:List Int→Int→Nat
 |[],_=>0
 |y::l,x=>if bi y<bi x then vZ l x+1 else 0
def v6(l:List Int)(x:Int):List Int:=l.take (vZ l x)++x::l.drop (vZ l x)
theorem Gz:∀(l:List Int)(x:Int),vZ l x≤l.length
 |[],_=>Nat.le_refl _
 |y::l,x=>by
  rw[vZ];have:=Gz l x;split
  ·simp;omega
  ·simp
theorem sN(y:Int)(l:List Int)(x:Int):v6 (y::l) x=if bi y<bi x then y::v6 l x else x::y::l:=by
 unfold v6;rw[vZ];split
 ·simp
 ·simp
theorem lL:∀(l:List Int)(x:Int),(v6 l x).Perm (x::l)
 |[],x=>by simp[v6,vZ]
 |y::l,x=>by
  rw[sN];split
  ·exact((lL l x).cons y).trans (.swap x y l)
  ·exact .refl _
theorem oU:∀(l:List Int)(x:Int),(∀y∈l,bi y≠bi x)→l.Pairwise (fun a b=>bi a<bi b)→(v6 l x).Pairwise (fun a b=>bi a<bi b)
 |[],x,_,_=>by simp[v6,vZ]
 |y::l,x,hn,h=>by
  rw[sN];rw[List.pairwise_cons]at h;split
  ·rename_i c;rw[List.pairwise_cons];refine⟨fun z hz=>?_,oU l x (fun z hz=>hn z (List.mem_cons_of_mem _ hz)) h.2⟩;rcases List.mem_cons.1 ((lL l x).mem_iff.1 hz)with rfl|hz
   ·exact c
   ·exact h.1 z hz
  ·rename_i c;rw[List.pairwise_cons,List.pairwise_cons];have:=hn y List.mem_cons_self;refine⟨fun z hz=>?_,h⟩;rcases List.mem_cons.1 hz with rfl|hz
   ·omega
   ·have:=h.1 z hz;omega
def iQ(c:List Int):Nat→List Int
 |0=>[]
 |i+1=>if da (c.getD i 0)=true∧c.getD i 0∉iQ c i then v6 (iQ c i) (c.getD i 0)else iQ c i
theorem sO(c:List Int):∀i,(iQ c i).length≤i
 |0=>Nat.le_refl _
 |i+1=>by
  have:=sO c i;rw[iQ];split
  ·rw[(lL _ _).length_eq];simp;omega
  ·omega
theorem v7(c:List Int):∀i,i≤c.length→(iQ c i).Pairwise (fun a b=>bi a<bi b)∧∀x,x∈iQ c i↔da x=true∧x∈c.take i
 |0,_=>⟨by simp[iQ],fun x=>by simp[iQ]⟩
 |i+1,h=>by
  obtain⟨h1,h2⟩:=v7 c i (by omega);have hg:c.getD i 0=c[i]:=by simp[show i<c.length by omega]
  rw[iQ,hg,List.take_add_one,List.getElem?_eq_getElem (by omega),Option.toList_some]
  by_cases d:da c[i]=true∧c[i]∉iQ c i
  ·rw[if_pos d];refine⟨oU _ _ (fun y hy e=>d.2 ?_) h1,fun x=>?_⟩
   ·rw[←qG ((h2 y).1 hy).1 d.1 e];exact hy
   ·rw[(lL _ _).mem_iff,List.mem_cons,h2,List.mem_append,List.mem_singleton];constructor
    ·rintro(rfl|⟨a,b⟩)
     ·exact⟨d.1,.inr rfl⟩
     ·exact⟨a,.inl b⟩
    ·rintro⟨a,b|b⟩
     ·exact .inr ⟨a,b⟩
     ·exact .inl b
  ·rw[if_neg d];refine⟨h1,fun x=>?_⟩;rw[h2,List.mem_append,List.mem_singleton];constructor
   ·rintro⟨a,b⟩;exact⟨a,.inl b⟩
   ·rintro⟨a,b|rfl⟩
    ·exact⟨a,b⟩
    ·have hm:c[i]∈iQ c i:=Classical.byContradiction fun h=>d ⟨a,h⟩;exact(h2 _).1 hm
theorem sP{zs:List Int}(hs:zs.Pairwise (fun a b=>bi a≤bi b))(hok:∀x∈zs,da x=true):∀j,j≤zs.length→(aR zs j).Pairwise (fun a b=>bi a<bi b)∧∀x,x∈aR zs j↔x∈zs.take j
 |0,_=>⟨by simp[aR],fun x=>by simp[aR]⟩
 |j+1,h=>by
  obtain⟨h1,h2⟩:=sP hs hok j (by omega);have hg:zs.getD j 0=zs[j]:=by simp[show j<zs.length by omega]
  rw[aR,hg,List.take_add_one,List.getElem?_eq_getElem (by omega),Option.toList_some];have hp:=List.pairwise_iff_getElem.1 hs
  by_cases d:j=0∨zs[j]≠zs.getD (j -1) 0
  ·rw[if_pos d];refine⟨List.pairwise_append.2 ⟨h1,by simp,fun y hy z hz=>?_⟩,fun x=>by rw[List.mem_append,List.mem_append,h2]⟩;rw[List.mem_singleton]at hz;subst hz;obtain⟨k,hk,rfl⟩:=List.getElem_of_mem ((h2 y).1 hy);rw[List.length_take]at hk;rw[List.getElem_take];rcases d with rfl|d
   ·omega
   ·have e2:zs.getD (j -1) 0=zs[j -1]:=by simp[show j -1<zs.length by omega]
    rw[e2]at d;have a1:bi zs[k]≤bi zs[j -1]:=by
     by_cases e:k=j -1
     ·subst e;exact Int.le_refl _
     ·exact hp k (j -1) (by omega) (by omega) (by omega)
    have a2:bi zs[j -1]≤bi zs[j]:=hp (j -1) j (by omega) (by omega) (by omega);have a3:bi zs[j -1]≠bi zs[j]:=fun e=>d (qG (hok _ (List.getElem_mem _)) (hok _ (List.getElem_mem _)) e.symm);omega
  ·rw[if_neg d];refine⟨h1,fun x=>?_⟩;rw[h2,List.mem_append,List.mem_singleton];refine⟨.inl,fun hx=>hx.elim id fun e=>?_⟩;have hj:j≠0:=fun e=>d (.inl e);have e2:zs.getD (j -1) 0=zs[j -1]:=by simp[show j -1<zs.length by omega]
   have e3:zs[j]=zs[j -1]:=Classical.byContradiction fun hh=>d (.inr (by rw[e2];exact hh));rw[e,e3];exact List.mem_take_iff_getElem.2 ⟨j -1,by omega,rfl⟩
theorem ny(c:List Int):(d4 c).Pairwise (fun a b=>bi a<bi b)∧∀x,x∈d4 c↔da x=true∧x∈c:=by
 have hs:((iv (cK c)).map (·.1)).Pairwise (fun a b=>bi a≤bi b):=by
  rw[List.pairwise_map];refine(List.pairwise_mergeSort (fun a b d=>?_) (fun a b=>?_) (cK c)).imp fun{a b} h=>?_
  ·simp only[qH,Bool.not_eq_true',decide_eq_false_iff_not];omega
  ·simp only[qH,Bool.or_eq_true,Bool.not_eq_true',decide_eq_false_iff_not];omega
  ·simp only[qH,Bool.not_eq_true',decide_eq_false_iff_not]at h;omega
 have hm:∀x,x∈(iv (cK c)).map (·.1)↔da x=true∧x∈c:=fun x=>by
  unfold iv;rw[((List.mergeSort_perm _ _).map _).mem_iff,jA,List.mem_filter,And.comm]
 obtain⟨h1,h2⟩:=sP hs (fun x hx=>((hm x).1 hx).1) _ (Nat.le_refl _);refine⟨h1,fun x=>?_⟩;have:=h2 x;rw[List.take_length]at this;exact this.trans (hm x)
theorem v8{a b:List Int}(ha:a.Pairwise (fun x y=>bi x<bi y))(hb:b.Pairwise (fun x y=>bi x<bi y))(h:∀x,x∈a↔x∈b):a=b:=by
 have na:a.Nodup:=ha.imp fun{x y} hxy e=>by rw[e]at hxy;omega
 have nb:b.Nodup:=hb.imp fun{x y} hxy e=>by rw[e]at hxy;omega
 exact List.Perm.eq_of_pairwise (le:=fun x y=>bi x<bi y) (fun x y _ _ h1 h2=>by omega) ha hb ((List.perm_ext_iff_of_nodup na nb).2 h)
theorem DB(c:List Int):iQ c c.length=d4 c:=by
 obtain⟨h1,h2⟩:=v7 c c.length (Nat.le_refl _);obtain⟨h3,h4⟩:=ny c;refine v8 h1 h3 fun x=>?_;rw[h2,h4,List.take_length]
def jO(l:List Int):Nat→Nat
 |0=>0
 |i+1=>jO l i+if l.getD i 0∈l.take i then 1 else 0
theorem qI(l:List Int){i:Nat}:∀n,i≤n→jO l i≤jO l n
 |0,h=>by
  have:i=0:=by omega
  subst this;exact Nat.le_refl _
 |n+1,h=>by
  by_cases e:i=n+1
  ·subst e;exact Nat.le_refl _
  ·have:=qI (i:=i) l n (by omega);rw[jO];omega
theorem yk{α:Type}:∀(l:List (Int×α))(k:Int)(y:α),(pt l k y).length=l.length+if(lk l k).isNone=true then 1 else 0
 |[],k,y=>by simp[pt,lk]
 |(j,x)::r,k,y=>by
  have ih:=yk r k y;rw[pt,lk]
  by_cases e:j=k
  ·rw[if_pos e,if_pos e];simp
  ·rw[if_neg e,if_neg e,List.length_cons,ih,List.length_cons];omega
theorem nz(l:List Int)(x:Int):∀n,n≤l.length→((lk (bA l n) x).isNone=true↔¬(da x=true∧x∈l.take n))
 |0,_=>by simp[bA,lk]
 |n+1,h=>by
  have ih:=nz l x n (by omega);have hg:l.getD n 0=l[n]:=by simp[show n<l.length by omega]
  rw[bA,hg,List.take_add_one,List.getElem?_eq_getElem (by omega),Option.toList_some,List.mem_append,List.mem_singleton]
  by_cases c:da l[n]=true
  ·rw[if_pos c,bz]
   by_cases e:l[n]=x
   ·rw[if_pos e];subst e;simp[c]
   ·rw[if_neg e,ih];have e':¬x=l[n]:=fun h=>e h.symm;simp[e']
  ·rw[if_neg c,ih]
   by_cases e:l[n]=x
   ·subst e;simp[c]
   ·have e':¬x=l[n]:=fun h=>e h.symm;simp[e']
theorem wb(l:List Int)(hok:∀x∈l,da x=true):∀n,n≤l.length→(bA l n).length+jO l n=n
 |0,_=>rfl
 |n+1,h=>by
  have ih:=wb l hok n (by omega);have hg:l.getD n 0=l[n]:=by simp[show n<l.length by omega]
  have hl:=hok _ (List.getElem_mem (show n<l.length by omega));have hn:=nz l l[n] n (by omega);rw[bA,jO,hg,if_pos hl,yk]
  by_cases e:l[n]∈l.take n
  ·rw[if_pos e,if_neg (fun h=>hn.1 h ⟨hl,e⟩)];omega
  ·rw[if_neg e,if_pos (hn.2 fun h=>e h.2)];omega
def iR(l:List Int)(m:Int):Int:=
 if m<0∨100000<m then 2 else if 1000<l.length then 3 else if(l.all fun x=>rK x m)=false then 10 else if jO l l.length=0 then 0 else 21
theorem Ir{x m:Int}(h:m≤100000)(hi:rK x m=true):da x=true:=by
 unfold rK at hi;simp at hi;exact(bj x).2 (by omega)
theorem qJ(l:List Int)(m:Int)(hl:l.length≤140737488355328):ao Tryz.prog 124 [.seq false 1 (af l),ae m] (fun r=>r=.pv (ae (iR l m))):=by
 refine aw aG Tryz.func124 (by kernel_rfl) rfl rfl (by kernel_rfl) (Nat.le_of_ble_eq_true rfl) ?_
 by_cases c1:m<0
 ·simp[c1,iR]
 by_cases c2:100000<m
 ·simp[c1,c2,iR]
 by_cases c3:1000<l.length
 ·have c3':1000<(l.length:Int):=by omega
  simp[c1,c2,c3,c3',iR]
 have c3':¬1000<(l.length:Int):=by omega
 have hL:∀n,ax n m=if rK n m=true then 0 else 10:=fun n=>by unfold ax;rw[if_neg (by omega)]
 simp[c1,c2,c3,c3'];refine aH.intro (S:=fun(i:Nat)=>⟨[(0,.pv (.seq false 1 (af l))),(1,.pv (ae m)),(19,.pv (.seq false 1 (af l))),(20,.pv (ae l.length)),(21,.pv (ae i))],[]⟩) (fun i=>i≤l.length∧∀j (h:j<l.length),j<i→rK l[j] m=true) (fun i=>l.length -i) 0 ?_ ⟨Nat.zero_le _,fun j _ h=>by omega⟩ ?_
 ·exact aj.to (by simp) rfl (by simp) (by simp) (by simp)
 ·rintro i ⟨hi,ho⟩
  by_cases c:i<l.length
  ·have hw:aM ((i:Int)+1)=((i+1:Nat):Int):=by rw[ah (by omega) (by omega)];omega
   simp[c];refine am.intro (iu _ _) (by simp) ?_;simp[hL]
   by_cases d:rK l[i] m=true
   ·simp[d];refine⟨i+1,by(try dsimp only);omega,⟨by omega,fun j h1 h2=>?_⟩,aj.to (by simp[hw]) rfl (by simp) (by simp) (by simp)⟩
    by_cases e:j=i
    ·subst e;exact d
    ·exact ho j h1 (by omega)
   ·have hall:(l.all fun x=>rK x m)=false:=by
     rw[←Bool.not_eq_true];intro h;exact d (List.all_eq_true.1 h _ (List.getElem_mem c))
    simp[d,iR,c1,c2,c3,hall]
  ·have:i=l.length:=by omega
   subst this;have hall:(l.all fun x=>rK x m)=true:=List.all_eq_true.2 fun x hx=>by
    obtain⟨j,hj,rfl⟩:=List.getElem_of_mem hx;exact ho j hj hj
   have hsd:=wb l (fun x hx=>Ir (by omega) (List.all_eq_true.1 hall x hx)) l.length (Nat.le_refl _);have hml:(aT fI (bA l l.length)).length=(bA l l.length).length:=by unfold aT;simp
   simp;refine am.intro (Aa l (by omega)) (by simp) ?_;simp[hml]
   by_cases d:jO l l.length=0
   ·have:¬(bA l l.length).length<l.length:=by omega
    simp[this,iR,c1,c2,c3,hall,d]
   ·have:(bA l l.length).length<l.length:=by omega
    simp[this,iR,c1,c2,c3,hall,d]
theorem Bz(l:List Int):(d4 l).length≤l.length:=by
 rw[←DB];exact sO l l.length
end Go.AX