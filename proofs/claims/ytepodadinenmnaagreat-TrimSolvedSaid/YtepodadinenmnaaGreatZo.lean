/-
  AX, part SR: rows of plain values in a slice; and what follows.
-/
import Derived.Test.YtepodadinenmnaaGreatZh
import Derived.Shelf.SortM.Plain
import Derived.Shelf.SortM.SortNone
import Derived.Shelf.SlicesG.Delete
namespace Go.AX
section
open Go.Sort
def dW{α:Type}(enc:α->aG)(xs:List α):aT:=xs.map λx=>(enc x).map PV.lit
theorem mS(G:Gh):∀vs:aG,ax G (vs.map PV.lit) vs
 |[]=>rfl
 |_::r=>⟨_,r,rfl,rfl,mS G r⟩
theorem vg{G:Gh}:∀{vs d:aG},ax G (vs.map PV.lit) d->d=vs
 |[],_,h=>h
 |v::r,_,⟨a,b,h1,e,f⟩=>by
  have c:a=v:=e;rw[h1,c,vg f]
theorem ka{α:Type}{enc:α->aG}{k:Nat}(hk:∀x,(enc x).length=k)(h1:∀x,∀v∈enc x,v.oneCell'=true)(G:Gh):∀xs:List α,aK G k (dW enc xs) (xs.flatMap enc)
 |[]=>rfl
 |x::xs=>⟨enc x,xs.flatMap enc,rfl,⟨by rw[VA,hk],h1 x⟩,mS G _,ka hk h1 G xs⟩
theorem lE{α:Type}{enc:α->aG}{k:Nat}{G:Gh}:∀{xs:List α}{vs:aG},aK G k (dW enc xs) vs->vs=xs.flatMap enc
 |[],_,h=>h
 |x::xs,_,⟨c,d,h1,_,a,b⟩=>by
  rw[h1,vg a,lE b];rfl
theorem cT{α:Type}{f:α->aG}{k:Nat}(hk:∀x,(f x).length=k)(hp:0<k):∀(l:List α)(t:Nat),(l.flatMap f)[t]?=l[t/k]?.bind λx=>(f x)[t %k]?
 |[],t=>by simp
 |a::l,t=>by
  rw[Yi];rcases aat t k with h|h;rw[Vv (by rw[hk];exact h),Nat.div_eq_of_lt h,ZD h];simp;rw[VM (by rw[hk];exact h),hk,cT hk hp l];obtain⟨u,rfl⟩:∃u,t=u+k:=⟨t -k,by omega⟩;rw[Yo,Nat.add_div_right _ hp,Nat.add_mod_right];simp
theorem jb{α:Type}{f:α->aG}{k:Nat}(hk:∀x,(f x).length=k):∀l:List α,(l.flatMap f).length=l.length*k
 |[]=>by simp
 |a::l=>by rw[Yi,Vz,hk,jb hk l,VR,Zw,aay,Zz]
theorem qP.asFnO{P:aa}{f g:az}{e:Nat}{rows:aT}{R:Option Nat->aT->Prop}(h:qP P f e rows [.fn (.func g) [] []] R):qP P f e rows [.lit (.func (.func g) #[] #[])] R:=by
 have j:∀{G:Gh}{a:aG},ax G [.lit (.func (.func g) #[] #[])] a->ax G [.fn (.func g) [] []] a:=λ⟨v,r,h1,b,d⟩=>⟨v,r,h1,⟨#[],#[],b,rfl,rfl⟩,d⟩;exact⟨h.1,λhn w c cap arr T pre vs i a h1 b d k l m n=>h.2.1 hn w c cap arr T pre vs i a h1 b d k l (j m) n,λhn w p cap a h1=>h.2.2 hn w p cap a (j h1)⟩
end
def kQ(pre vs a:aG):bj:=pre.map (λv=>.pv (.lit v))++(vs.map (λv=>.pv (.lit v))++a.map λv=>.pv (.lit v))
theorem od(pre vs a:aG):(kQ pre vs a).length=pre.length+vs.length+a.length:=by
 unfold kQ;simp only[Vz,VA];omega
theorem ti(pre vs a:aG){i:Nat}{ys:aG}(h:i+ys.length<=vs.length):
 List.take (pre.length+i) (kQ pre vs a)++(ys.map (λv=>SV.pv (.lit v))++List.drop (pre.length+i+ys.length) (kQ pre vs a))=kQ pre (vs.take i++ys++vs.drop (i+ys.length)) a:=by
 unfold kQ;have b:pre.length=(pre.map (λv=>SV.pv (PV.lit v))).length:=by simp
 rw[show List.take (pre.length+i) (pre.map (λv=>SV.pv (PV.lit v))++(vs.map (λv=>SV.pv (.lit v))++a.map λv=>.pv (.lit v)))=pre.map (λv=>SV.pv (PV.lit v))++(vs.map (λv=>SV.pv (.lit v))).take i by
  rw[b,Y0];congr 1;rw[Wd (by simp;omega)],
  show List.drop (pre.length+i+ys.length) (pre.map (λv=>SV.pv (PV.lit v))++(vs.map (λv=>SV.pv (.lit v))++a.map λv=>.pv (.lit v)))=(vs.map (λv=>SV.pv (.lit v))).drop (i+ys.length)++a.map λv=>.pv (.lit v) by
   rw[Xf,b,Ya,WB (by simp;omega)]]
 simp only[V1,Xn,Yj,VV]
theorem vh(k:Nat)(pre vs a:aG):cA k (kQ pre vs a):=by
 refine oV λx hx=>?_;unfold kQ at hx;simp only[VF,VB]at hx;rcases hx with⟨_,_,rfl⟩|⟨_,_,rfl⟩|⟨_,_,rfl⟩<;>trivial
def TD(a:Nat)(k:Option Nat)(off cap:Nat):SV:=match k with
 |none=>.pv (.tup [])
 |some m=>.pv (.bsl 0 a off m cap)
theorem qP.ofRows{P:aa}{f:az}{α:Type}{enc:α->aG}{H:Nat}(ab:∀x,(enc x).length=H)(L:∀x,∀v∈enc x,v.oneCell'=true){zs:List α}{args:aD}{R:Option Nat->aT->Prop}(hc:aV P f=true)(ho:nQ args)(X:b7 0 args)
 (h : zs ≠ [] -> ∀ (pre a : aG) (cap : Nat), zs.length <= cap -> zs.length <= maxLen -> aI P f (.bsl 0 H pre.length zs.length cap :: args) [kQ pre (zs.flatMap enc) a]
  (λr h'=>∃k d,R k (dW enc d)∧d.length=zs.length∧(∀m,k=some m->m<=zs.length)∧r=TD H k pre.length cap∧h'=[kQ pre (d.flatMap enc) a]))
 (h0:zs=[]->∀(p:Option Addr)(cap:Nat),aw P f (.lit (.slice p 0 cap)::args) (λr=>∃k,R k []∧(k=none∨k=some 0)∧r=Tv k p cap)):
 qP P f H (dW enc zs) args R:=by
 refine⟨hc,λad w c cap arr T pre vs a us h1 h2 U h4 h5 h6 D=>?_,λE w p cap us h1=>?_⟩;have hz:zs≠[]:=λe=>ad (by rw[e];rfl);have J:(dW enc zs).length=zs.length:=by unfold dW;simp
 have ag:=lE h5;subst ag;rw[J]at U h4⊢;have ah:c<w.heap.size:=(VD.1 h1).1;obtain⟨G,l⟩:∃G:Gh,G={I:=λk=>if k=c then none else w.heap[k]?,F:=λ_=>none,B:=0,μ:=λ_=>c,n:=1,n0:=1,N:=1,env:=cH w}:=⟨_,rfl⟩;have M:Sim G ⟨[],[kQ pre (zs.flatMap enc) a]⟩ ⟨#[undef],[]⟩ w:=by
  subst l;refine{size:=rfl,defs:=rfl,env:=rfl,n:=rfl,n0:=Vu _,B:=VH _,I:=λk o hk=>?_,F:=λk o hk=>(by cases hk),μI:=λb X=>⟨by simp,rfl⟩,μinj:=λb b' X g _=>?_,own:=⟨λ_=>none,?_⟩,al:=λs=>trivial};by_cases e:k=c;subst e;simp at hk;simpa[e]using hk;dsimp only at X g;omega;refine{slots:=λs=>⟨rfl,trivial⟩,blocks:=λb xs hx=>?_,inj:=λp q k hk=>(by cases hk),free:=λp k hk=>(by cases hk)};cases b with
  |succ b=>simp at hx
  |zero=>
   simp only[Wu,Wc]at hx;subst hx;have af:arr.size=(kQ pre (zs.flatMap enc) a).length:=by rw[od,←Wm,h2];simp only[Vz,VA]
   refine⟨arr,T,h1,⟨af,D⟩,λk x hk=>?_⟩;have t:kQ pre (zs.flatMap enc) a=arr.toList.map (λv=>.pv (.lit v)):=by
    rw[h2];unfold kQ;simp only[V1,VV]
   rw[t,VO]at hk;cases A:arr.toList[k]?with
   |none=>rw[A]at hk;cases hk
   |some u=>
    rw[A]at hk;simp only[Wq,Wc]at hk;subst hk;refine⟨rfl,rfl,?_⟩;show arr.getD k undef=u;have:arr[k]?=some u:=by rw[←Vw];exact A
    rw[VJ,this];rfl
 have i:ax G (.bsl 0 H pre.length zs.length cap::args) (.slice (some ⟨c,pre.length,none⟩) zs.length cap::us):=by
  refine⟨_,_,rfl,?_,?_⟩;subst l;exact⟨Y3,U,rfl⟩;refine ax.monoC ⟨λk arr' T' fz hk=>?_,λk en ck hk=>?_⟩ _ _ (.inr ho) (.inl rfl) h6;obtain⟨Q,S⟩:=J8 hk;subst l;simpa[Q]using S;obtain⟨Q,S⟩:=J9 hk;subst l;simpa[Q]using S
 refine((h hz pre a cap U h4).2 G _ _ w _ M rfl i).mono λe w' ⟨v,r,h',g',E,⟨k,d,r1,r2,r3,r4,r5⟩,t',ae⟩=>?_;subst r4 r5;have C:=ae (some 0) (by subst l;exact Y3);have hμ:g'.μ 0=c:=by rw[t'.μ 0 (by subst l;exact Y3)];subst l;rfl
 obtain⟨bl,g⟩:=C.own;have j:∀k,k<w.heap.size->k≠c->w'.heap[k]?=w.heap[k]?:=λk hk Z=>by
  have hI:G.I k=some w.heap[k]:=by subst l;simp[Z]
  rw[C.I _ _ (t'.I _ _ hI),VK hk]
 refine⟨k,dW enc d,d.flatMap enc,r1,by unfold dW;simpa using r2,r3,?_,?_,?_,j,?_,λG _=>ka ab L G d⟩;rw[E];have h0:=g.slots 0;cases k with
 |none=>
  have y:aO g' w' (.pv (.tup [])) v (bl (.slot 0)):=h0;obtain⟨_,vs,rfl,V⟩:=y;have z:vs.toList=[]:=V;have:vs=#[]:=WW z;rw[this]
 |some m=>
  have y:aO g' w' (.pv (.bsl 0 H pre.length m cap)) v (bl (.slot 0)):=h0;obtain⟨_,_,_,rfl⟩:=y;rw[hμ]
 rw[C.env,t'.env];subst l;rfl;apply W5;intro K;have Y:w'.heap[c]?≠none:=by
  obtain⟨arr',T',b1,_⟩:=g.blocks 0 (kQ pre (d.flatMap enc) a) (by cases k<;>rfl);rw[hμ]at b1;rw[b1];simp
 have O:w'.heap[w'.heap.size]?=none:=by simp
 by_cases e:w'.heap.size=c;rw[e]at O;exact Y O;rw[j _ K e,VK K]at O;cases O;obtain⟨arr',T',b1,⟨b2,_⟩,b3⟩:=g.blocks 0 (kQ pre (d.flatMap enc) a) (by cases k<;>rfl);rw[hμ]at b1;refine⟨T',?_⟩;rw[b1];have t:kQ pre (d.flatMap enc) a=(pre++d.flatMap enc++a).map (λv=>.pv (.lit v)):=by
  unfold kQ;simp only[V1,VV]
 rw[t,VA]at b2;rw[qi (bl:=λk=>bl (.cell 0 k)) b2 λk x hk=>(b3 k x (by rw[t];exact hk)).2];have hz:zs=[]:=by
  cases zs with
  |nil=>rfl
  |cons _ _=>unfold dW at E;cases E
 subst hz;have i:ax (dZ w) (.lit (.slice p 0 cap)::args) (.slice p 0 cap::us):=⟨_,_,rfl,rfl,h1⟩;refine((h0 rfl p cap).2 w _ i).mono λe w' ⟨v,r,g',o,E,⟨k,r1,r2,r3⟩,W,hF,_,_⟩=>?_;subst r3;refine⟨k,r1,r2,?_,W.env,W.size,λk hk=>W.keep k hk⟩;rw[E];cases k with
 |none=>
  have y:aO g' w' (.pv (.tup [])) v o:=hF;obtain⟨_,vs,rfl,V⟩:=y;have z:vs.toList=[]:=V;have:vs=#[]:=WW z;rw[this]
 |some m=>
  have y:v=.slice p m cap:=hF.2;rw[y]
section
open Go.Proofs Go.Shelf Go.Sort
theorem BF{P:aa}{ρ:Ren}(L:SlLaysM.n5 P ρ)(xs:af)(M:xs.length<=1000000)(H:aV P (ρ.f 5)=true):
 qP P (ρ.f 5) 1 (aU xs) [] (λk rows=>k=none∧rows=aU (xs.mergeSort λx y=>decide (x<=y))):=by
 refine⟨H,λJ w c cap arr T pre vs v z h1 b o C D E s=>?_,λi w p cap z h1=>?_⟩;have t:=cK D;subst t;have r:z=[]:=E;subst r;have h:(aU xs).length=xs.length:=by unfold aU;simp
 rw[h]at o C⊢;have d:c<w.heap.size:=(VD.1 h1).1;have A:arr.size=pre.length+xs.length+v.length:=by
  rw[←Wm,b];simp only[Vz,VA]
 have F:Holds (Value.int .i64) w c pre.length xs.toArray:=by
  intro j hj;have g:j<xs.length:=by simpa using hj
  constructor;rw[cell_of h1,←Vw,b,VV,VM (by omega),XL,Vv (by simpa using g),VO,Vq g];simp only[Wq];rw[XW xs.toArray j hj];simp;simp[World.frozen?,h1]
 refine(AnyM.slices_Sort_int L c pre.length cap xs w F d (by omega)).mono λe w' ⟨i,n,u,K⟩=>?_;subst K;refine⟨none,aU (xs.mergeSort λx y=>decide (x<=y)),(xs.mergeSort λx y=>decide (x<=y)).map (Value.int .i64),⟨rfl,rfl⟩,by unfold aU;simp,λm I=>(by cases I),i,rfl,?_,λk hk q=>?_,⟨T,?_⟩,λG _=>eP G _⟩;show w.heap.size<=(w.heap.modify c _++u).size;rw[YK,Xy];omega;show(w.heap.modify c _++u)[k]?=_;rw[XM (by rw[Xy];exact hk),WZ,Vs (Yg q)];show(w.heap.modify c _++u)[c]?=_;rw[XM (by rw[Xy];exact d),WZ,Vt rfl,h1];simp only[Wq,onCells,Wc,Obj.cells.injEq,aaw];apply WW;apply Wv;intro k;rw[Vw];simp only[putCells,Y4];by_cases hk:k<arr.size;rw[VK hk];simp only[Wq];have a:arr.toList[k]?=some arr[k]:=by rw[Vw,VK hk]
 rw[b,VV]at a;rw[VV];split;rename_i l;simp only[Ww,WD]at l;rw[VM l.1,Vv (by simp;omega)];simp only[VO];have B:k -pre.length<(xs.mergeSort λx y=>decide (x<=y)).length:=by rw[WD];omega
 rw[Vq B,XW (xs.mergeSort λx y=>decide (x<=y)).toArray (k -pre.length) (by simpa using B)];simp;rename_i l;simp only[Ww,WD]at l;by_cases hp:k<pre.length;rw[Vv hp]at a⊢;exact a.symm;rw[VM (by omega),VM (by simp;omega)]at a⊢;rw[←a];simp;rw[W9 (by omega),V4];rfl;simp;omega;have hz:xs=[]:=by
  cases xs with
  |nil=>rfl
  |cons _ _=>unfold aU at i;simp at i
 subst hz;have r:z=[]:=h1;subst r;refine(AnyM.slices_Sort_int_none (P:=P) (ρ:=ρ) L p cap w).mono λe w' ⟨b,o⟩=>?_;subst o;exact⟨none,⟨rfl,by simp[aU]⟩,.inl rfl,b,rfl,Vu _,λ_ _=>rfl⟩
end
section
open Go.Proofs Go.Shelf Go.Sort
theorem vl{α:Type}[Inhabited α]{f:α->aG}{k:Nat}(hk:∀x,(f x).length=k)(hp:0<k)(d:Array α):(flatK f k d).toList=d.toList.flatMap f:=by
 apply Wv;intro t;rw[cT hk hp,Vw,Vw];rcases aat t (d.size*k)with h|h;have hd:t/k<d.size:=by rw[Nat.div_lt_iff_lt_mul hp];exact h
 have a:t %k<k:=aas _ hp;rw[VK (by simpa using h),VK hd];simp only[flatK,Array.getElem_map,Array.getElem_range,Yr];rw[XW d _ hd,Vq (by rw[hk];exact a),XW _ _ (by rw[hk];exact a)];have hd:d.size<=t/k:=by rw[Nat.le_div_iff_mul_le hp];exact h
 rw[W9 (by simpa using h),W9 hd];rfl
theorem zT{P:aa}{ρ:Ren}(L:SlLaysF0.n6 P ρ){α:Type}[Inhabited α](k:Nat)(hp:0<k)(aE:∀w,(isAgg (ρ.t 24)).run P w=.ok true w)(zE:∀w,(Go.sizeOf (ρ.t 24)).run P w=.ok k w)(enc:α->aG)(hk:∀x,(enc x).length=k)(h1:∀x,∀v∈enc x,v.oneCell'=true)(cf:α->α->Int)(g:az)(xs:List α)(hl:xs.length<=1000000)(hO:SWO (ltOf cf))(hT:∀x y,(ltOf cf) x y=false->(ltOf cf) y x=false->x=y)
 (eg:∀args w,(callFunc g args).run P w=.ok (.enter g args) w) (hc:aV P (ρ.f 6)=true) (U:∀x y,aw P g [.agg ((enc x).map PV.lit),.agg ((enc y).map PV.lit)] (λr=>r=.pv (.lit (.int .i64 (cf x y))))):
 qP P (ρ.f 6) k (dW enc xs) [.fn (.func g) [] []] (λkk rows=>kk=none∧rows=dW enc (xs.mergeSort λx y=>!(ltOf cf) y x)):=by
 have K:∀{G:Gh}{N:aG},ax G [.fn (.func g) [] []] N->N=[.func (.func g) #[] #[]]:=by
  intro G N h;obtain⟨v,r,rfl,⟨a,b,rfl,h1,A⟩,C⟩:=h;have d:a=#[]:=WW h1;have Q:b=#[]:=WW A;have R:r=[]:=C;subst d Q R;rfl
 refine⟨hc,λaf w c cap arr T pre vs ad N d A C h4 h5 h6 Z=>?_,λz w p cap N d=>?_⟩;have ab:=lE h5;subst ab;have Y:=K h6;subst Y;have H:(dW enc xs).length=xs.length:=by unfold dW;simp
 rw[H]at C h4⊢;have E:c<w.heap.size:=(VD.1 d).1;have q:=jb hk xs;have ae:arr.size=pre.length+xs.length*k+ad.length:=by
  rw[←Wm,A];simp only[Vz,q]
 have hH:HoldsK enc k w c pre.length xs.toArray:=by
  intro j hj;have V:j<xs.length*k:=by simpa using hj
  have W:(flatK enc k xs.toArray)[j]?=(xs.flatMap enc)[j]?:=by rw[←Vw,vl hk hp]
  constructor;rw[cell_of d,←Vw,A,VV,VM (by omega),XL,Vv (by rw[q];exact V),←W,VK hj,XW _ j hj];rfl;simp[World.frozen?,d]
 have D:CmpLays P g #[] enc k cf c pre.length xs.toArray.size w:=by
  intro m M dk hs x y;have F:ax (dZ (sortWorldK enc k w c pre.length m dk M)) [.agg ((enc x).map PV.lit),.agg ((enc y).map PV.lit)] [.agg (enc x).toArray,.agg (enc y).toArray]:=
   ⟨_,_,rfl,⟨_,rfl,mS _ _⟩,_,_,rfl,⟨_,rfl,mS _ _⟩,rfl⟩
  have h:=tf ((U x y).2 _ _ F) (λe w' ⟨v,_,_,_,z,_⟩=>⟨v,z⟩);rw[Array.append_empty];refine Calls.mono h λe w' ⟨⟨v,r,g',o,z,O,S,hF,_,_⟩,hd⟩=>?_;subst O;have hv:v=.int .i64 (cf x y):=hF.2;exact⟨by rw[z,hv],grown_of S.env S.keep S.size hd⟩
 have J:xs.toArray.size<4611686018427387904:=by rw[Ww];omega
 have hS:=AnyQ.slices_SortFunc_total (P:=P) (ρ:=ρ) L k aE zE enc hk h1 cf hO g #[] c pre.length cap xs.toArray w eg D hH E J hT;have B:((Value.slice (some ⟨c,pre.length,none⟩) xs.length cap)::[Value.func (.func g) #[] #[]]).toArray=#[.slice (some ⟨c,pre.length,none⟩) xs.toArray.size cap,.func (.func g) #[] #[]]:=by simp
 rw[B];refine hS.mono λe w' ⟨z,n,M,hw⟩=>?_;subst hw
 let ys:=xs.mergeSort λx y=>!(ltOf cf) y x
 have l:ys.length=xs.length:=WD _;have u:=jb hk ys;have I:(flatK enc k (xs.toArray.toList.mergeSort λx y=>!(ltOf cf) y x).toArray).size=xs.length*k:=by rw[size_flatK];simp[WD]
 refine⟨none,dW enc ys,ys.flatMap enc,⟨rfl,rfl⟩,by unfold dW;simp[l],λm hm=>(by cases hm),z,rfl,?_,λk' s X=>?_,⟨T,?_⟩,λG _=>ka hk h1 G _⟩;show w.heap.size<=(w.heap.modify c _++M).size;rw[YK,Xy];omega;show(w.heap.modify c _++M)[k']?=_;rw[XM (by rw[Xy];exact s),WZ,Vs (Yg X)];show(w.heap.modify c _++M)[c]?=_;rw[XM (by rw[Xy];exact E),WZ,Vt rfl,d];simp only[Wq,onCells,Wc,Obj.cells.injEq,aaw];apply WW;apply Wv;intro k';rw[Vw];simp only[putCells,Y4,I];by_cases s:k'<arr.size;rw[VK s];simp only[Wq];have i:arr.toList[k']?=some arr[k']:=by rw[Vw,VK s]
 rw[A,VV]at i;rw[VV];split;rename_i O;rw[VM O.1,Vv (by rw[u,l];omega)];have hb:k' -pre.length<(flatK enc k (xs.toArray.toList.mergeSort λx y=>!(ltOf cf) y x).toArray).size:=by rw[I];omega
 rw[XW (flatK enc k (xs.toArray.toList.mergeSort λx y=>!(ltOf cf) y x).toArray) _ hb];have:(flatK enc k (xs.toArray.toList.mergeSort λx y=>!(ltOf cf) y x).toArray)[k' -pre.length]?=(ys.flatMap enc)[k' -pre.length]?:=by
  rw[←Vw,vl hk hp]
 rw[←this,VK hb];rfl;rename_i O;by_cases hp:k'<pre.length;rw[Vv hp]at i⊢;exact i.symm;rw[VM (by omega),VM (by rw[q];omega)]at i;rw[VM (by omega),VM (by rw[u,l];omega),←i];rw[q,u,l];rw[W9 (by omega),V4];rfl;simp only[Zk,Vz,u,l];omega;have hz:xs=[]:=by
  cases xs with
  |nil=>rfl
  |cons _ _=>unfold dW at z;simp at z
 subst hz;have Y:=K d;subst Y;refine(AnyF.slices_SortFunc_none (P:=P) (ρ:=ρ) {L with} p cap (.func (.func g) #[] #[]) w).mono λe w' ⟨A,C⟩=>?_;subst C;exact⟨none,⟨rfl,by simp[dW]⟩,.inl rfl,A,rfl,Vu _,λ_ _=>rfl⟩
end
section
open Go.Proofs Go.Shelf Go.Sort
theorem BP{P:aa}{ρ:Ren}(L:SlLaysN.n45 P ρ)(xs:af)(i j:Nat)(n:i<=j)(hj:j<=xs.length)(E:aV P (ρ.f 45)=true):
 Vh P (ρ.f 45) xs xs.length [.lit (.int .i64 i),.lit (.int .i64 j)] (xs.take i++xs.drop j++List.replicate (j -i) 0) (xs.length -(j -i)):=by
 refine⟨E,λw c cap arr T t N h1 m A B C r=>?_⟩;obtain⟨J,M,rfl,x,K,I,rfl,y,z⟩:=C;have g:J=.int .i64 i:=x;have h:K=.int .i64 j:=y;have l:I=[]:=z;subst g h l;have F:c<w.heap.size:=(VD.1 h1).1;have u:arr.size=xs.length+t.length:=by
  rw[←Wm,m];simp only[Vz,VA]
 have D:Holds (Value.int .i64) w c 0 xs.toArray:=by
  intro j hj;have d:j<xs.length:=by simpa using hj
  constructor;rw[cell_of h1,←Vw,m,Wr,Vv (by simpa using d),VO,Vq d];simp only[Wq];rw[XW xs.toArray j hj];simp;simp[World.frozen?,h1]
 have s:(xs.take i++xs.drop j++List.replicate (j -i) 0).length=xs.length:=by simp;omega
 have b:cap<=9223372036854775807:=by unfold maxLen at B;omega
 refine(AnyG.slices_Delete_int L c 0 cap i j xs w D A b n hj).mono λe w' ⟨G,q,H⟩=>?_;generalize xs.take i++xs.drop j++List.replicate (j -i) 0=ys at*;subst H;refine⟨G,?_,λk o=>?_,?_,rfl⟩;show(w.heap.modify c _)[c]?=_;rw[WZ,Vt rfl,h1];simp only[Wq,onCells,Wc,Obj.cells.injEq,aaw];apply WW;apply Wv;intro k;rw[Vw];simp only[putCells,Y4];by_cases hk:k<arr.size;rw[VK hk];simp only[Wq];have a:arr.toList[k]?=some arr[k]:=by rw[Vw,VK hk]
 rw[m]at a;split;rename_i p;simp only[Ww]at p;have v:k<ys.length:=by omega
 rw[Vv (by simp;omega)];simp only[VO];rw[Vq v,XW ys.toArray (k -0) (by simpa using v)];simp;rename_i p;simp only[Ww]at p;rw[VM (by simp;omega)]at a⊢;rw[←a];simp[s];rw[W9 (by omega),V4];rfl;simp;omega;show(w.heap.modify c _)[k]?=_;rw[WZ,Vs (Yg o)];show(w.heap.modify c _).size=_;rw[Xy]
end
end Go.AX
