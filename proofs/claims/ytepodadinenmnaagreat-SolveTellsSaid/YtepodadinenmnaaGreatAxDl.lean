/-
  AX, part SR: rows of plain values in a slice; and what follows.
-/
import Derived.Test.YtepodadinenmnaaGreatAxAg
import Derived.Test.YtepodadinenmnaaGreatAxOw
import Derived.Shelf.SortM.Plain
import Derived.Shelf.SortM.SortNone
import Derived.Shelf.SlicesG.Delete
namespace Go.AX
open Go.Sort
def eb{α:Type}(enc:α->List Value)(xs:List α):List (List PV):=xs.map λx=>(enc x).map PV.lit
theorem lD(G:Gh):∀vs:List Value,ak G (vs.map PV.lit) vs
 |[]=>rfl
 |_::r=>⟨_,r,rfl,rfl,lD G r⟩
theorem tt{G:Gh}:∀{vs d:List Value},ak G (vs.map PV.lit) d->d=vs
 |[],_,h=>h
 |v::r,_,⟨a,b,h1,e,f⟩=>by
  have c:a=v:=e;rw[h1,c,tt f]
theorem oL{α:Type}{enc:α->List Value}{k:Nat}(hk:∀x,(enc x).length=k)(h1:∀x,∀v∈enc x,v.oneCell'=true)(G:Gh):∀xs:List α,ay G k (eb enc xs) (xs.flatMap enc)
 |[]=>rfl
 |x::xs=>⟨enc x,xs.flatMap enc,rfl,⟨by rw[S7,hk],h1 x⟩,lD G _,oL hk h1 G xs⟩
theorem jJ{α:Type}{enc:α->List Value}{k:Nat}{G:Gh}:∀{xs:List α}{vs:List Value},ay G k (eb enc xs) vs->vs=xs.flatMap enc
 |[],_,h=>h
 |x::xs,_,⟨c,d,h1,_,a,b⟩=>by
  rw[h1,tt a,jJ b];rfl
theorem eI{α:Type}{f:α->List Value}{k:Nat}(hk:∀x,(f x).length=k)(hp:0<k):∀(l:List α)(t:Nat),(l.flatMap f)[t]?=l[t/k]?.bind λx=>(f x)[t %k]?
 |[],t=>by simp
 |a::l,t=>by
  rw[WL];rcases XA t k with h|h
  .rw[SZ (by rw[hk];exact h),Nat.div_eq_of_lt h,WW h];simp
  .rw[Tk (by rw[hk];exact h),hk,eI hk hp l];obtain⟨u,rfl⟩:∃u,t=u+k:=⟨t -k,by omega⟩;rw[VQ,Nat.add_div_right _ hp,Nat.add_mod_right];simp
theorem ju{α:Type}{f:α->List Value}{k:Nat}(hk:∀x,(f x).length=k):∀l:List α,(l.flatMap f).length=l.length*k
 |[]=>by simp
 |a::l=>by rw[WL,Ta,hk,ju hk l,Ty,WI,Nat.one_mul,WP]
theorem o8.asFnO{P:Program}{f g:FuncId}{e:Nat}{rows:List (List PV)}{R:Option Nat->List (List PV)->Prop}(h:o8 P f e rows [.fn (.func g) [] []] R):o8 P f e rows [.lit (.func (.func g) #[] #[])] R:=by
 have j:∀{G:Gh}{a:List Value},ak G [.lit (.func (.func g) #[] #[])] a->ak G [.fn (.func g) [] []] a:=λ⟨v,r,h1,b,d⟩=>⟨v,r,h1,⟨#[],#[],b,rfl,rfl⟩,d⟩;exact⟨h.1,λhn w c cap arr T pre vs i a h1 b d k l m n=>h.2.1 hn w c cap arr T pre vs i a h1 b d k l (j m) n,λhn w p cap a h1=>h.2.2 hn w p cap a (j h1)⟩
end Go.AX
namespace Go.AX
def jX(pre vs a:List Value):List SV:=pre.map (λv=>.pv (.lit v))++(vs.map (λv=>.pv (.lit v))++a.map λv=>.pv (.lit v))
theorem rl(pre vs a:List Value):(jX pre vs a).length=pre.length+vs.length+a.length:=by
 unfold jX;simp only[Ta,S7];omega
theorem zC(pre vs a:List Value){i:Nat}{ys:List Value}(h:i+ys.length<=vs.length):
 List.take (pre.length+i) (jX pre vs a)++(ys.map (λv=>SV.pv (.lit v))++List.drop (pre.length+i+ys.length) (jX pre vs a))=jX pre (vs.take i++ys++vs.drop (i+ys.length)) a:=by
 unfold jX;have b:pre.length=(pre.map (λv=>SV.pv (PV.lit v))).length:=by simp
 rw[show List.take (pre.length+i) (pre.map (λv=>SV.pv (PV.lit v))++(vs.map (λv=>SV.pv (.lit v))++a.map λv=>.pv (.lit v)))=pre.map (λv=>SV.pv (PV.lit v))++(vs.map (λv=>SV.pv (.lit v))).take i by
  rw[b,Wa];congr 1;rw[Uy (by simp;omega)],
  show List.drop (pre.length+i+ys.length) (pre.map (λv=>SV.pv (PV.lit v))++(vs.map (λv=>SV.pv (.lit v))++a.map λv=>.pv (.lit v)))=(vs.map (λv=>SV.pv (.lit v))).drop (i+ys.length)++a.map λv=>.pv (.lit v) by
   rw[U4,b,VG,Ua (by simp;omega)]]
 simp only[Tu,UB,VD,Tv]
theorem Ce(k:Nat)(pre vs a:List Value):cG k (jX pre vs a):=by
 refine nr λx hx=>?_;unfold jX at hx;simp only[Te,S8]at hx;rcases hx with⟨_,_,rfl⟩|⟨_,_,rfl⟩|⟨_,_,rfl⟩<;>trivial
def QP(a:Nat)(k:Option Nat)(off cap:Nat):SV:=match k with
 |none=>.pv (.tup [])
 |some m=>.pv (.bsl 0 a off m cap)
theorem o8.ofRows{P:Program}{f:FuncId}{α:Type}{enc:α->List Value}{H:Nat}(aa:∀x,(enc x).length=H)(L:∀x,∀v∈enc x,v.oneCell'=true){zs:List α}{args:List PV}{R:Option Nat->List (List PV)->Prop}(hc:aF P f=true)(ho:qo args)(X:bR 0 args)
 (h : zs ≠ [] -> ∀ (pre a : List Value) (cap : Nat), zs.length <= cap -> zs.length <= maxLen -> aA P f (.bsl 0 H pre.length zs.length cap :: args) [jX pre (zs.flatMap enc) a]
  (λr h'=>∃k d,R k (eb enc d)∧d.length=zs.length∧(∀m,k=some m->m<=zs.length)∧r=QP H k pre.length cap∧h'=[jX pre (d.flatMap enc) a]))
 (h0:zs=[]->∀(p:Option Addr)(cap:Nat),aj P f (.lit (.slice p 0 cap)::args) (λr=>∃k,R k []∧(k=none∨k=some 0)∧r=QF k p cap)):
 o8 P f H (eb enc zs) args R:=by
 refine⟨hc,λab w c cap arr T pre vs a us h1 h2 U h4 h5 h6 D=>?_,λE w p cap us h1=>?_⟩
 .have hz:zs≠[]:=λe=>ab (by rw[e];rfl);have J:(eb enc zs).length=zs.length:=by unfold eb;simp
  have af:=jJ h5;subst af;rw[J]at U h4⊢;have ag:c<w.heap.size:=(Td.1 h1).1;obtain⟨G,l⟩:∃G:Gh,G={I:=λk=>if k=c then none else w.heap[k]?,F:=λ_=>none,B:=0,μ:=λ_=>c,n:=1,n0:=1,N:=1,env:=bT w}:=⟨_,rfl⟩;have M:Sim G ⟨[],[jX pre (zs.flatMap enc) a]⟩ ⟨#[undef],[]⟩ w:=by
   subst l;refine{size:=rfl,defs:=rfl,env:=rfl,n:=rfl,n0:=SY _,B:=Tf _,I:=λk o hk=>?_,F:=λk o hk=>(by cases hk),μI:=λb X=>⟨by simp,rfl⟩,μinj:=λb b' X g _=>?_,own:=⟨λ_=>none,?_⟩,al:=λs=>trivial}
   .by_cases e:k=c
    .subst e;simp at hk
    .simpa[e]using hk
   .dsimp only at X g;omega
   .refine{slots:=λs=>⟨rfl,trivial⟩,blocks:=λb xs hx=>?_,inj:=λp q k hk=>(by cases hk),free:=λp k hk=>(by cases hk)};cases b with
    |succ b=>simp at hx
    |zero=>
     simp only[TQ,TF]at hx;subst hx;have ae:arr.size=(jX pre (zs.flatMap enc) a).length:=by rw[rl,←TR,h2];simp only[Ta,S7]
     refine⟨arr,T,h1,⟨ae,D⟩,λk x hk=>?_⟩;have t:jX pre (zs.flatMap enc) a=arr.toList.map (λv=>.pv (.lit v)):=by
      rw[h2];unfold jX;simp only[Tu,Tv]
     rw[t,Tm]at hk;cases A:arr.toList[k]?with
     |none=>rw[A]at hk;cases hk
     |some u=>
      rw[A]at hk;simp only[TZ,TF]at hk;subst hk;refine⟨rfl,rfl,?_⟩;show arr.getD k undef=u;have:arr[k]?=some u:=by rw[←S4];exact A
      rw[Tg,this];rfl
  have i:ak G (.bsl 0 H pre.length zs.length cap::args) (.slice (some ⟨c,pre.length,none⟩) zs.length cap::us):=by
   refine⟨_,_,rfl,?_,?_⟩
   .subst l;exact⟨Wc,U,rfl⟩
   .refine ak.monoC ⟨λk arr' T' fz hk=>?_,λk en ck hk=>?_⟩ _ _ (.inr ho) (.inl rfl) h6
    .obtain⟨Q,S⟩:=Hv hk;subst l;simpa[Q]using S
    .obtain⟨Q,S⟩:=Hw hk;subst l;simpa[Q]using S
  refine((h hz pre a cap U h4).2 G _ _ w _ M rfl i).mono λe w' ⟨v,r,h',g',E,⟨k,d,r1,r2,r3,r4,r5⟩,t',ad⟩=>?_;subst r4 r5;have C:=ad (some 0) (by subst l;exact Wc);have hμ:g'.μ 0=c:=by rw[t'.μ 0 (by subst l;exact Wc)];subst l;rfl
  obtain⟨bl,g⟩:=C.own;have j:∀k,k<w.heap.size->k≠c->w'.heap[k]?=w.heap[k]?:=λk hk Z=>by
   have hI:G.I k=some w.heap[k]:=by subst l;simp[Z]
   rw[C.I _ _ (t'.I _ _ hI),Ti hk]
  refine⟨k,eb enc d,d.flatMap enc,r1,by unfold eb;simpa using r2,r3,?_,?_,?_,j,?_,λG _=>oL aa L G d⟩
  .rw[E];have h0:=g.slots 0;cases k with
   |none=>
    have y:az g' w' (.pv (.tup [])) v (bl (.slot 0)):=h0;obtain⟨_,vs,rfl,V⟩:=y;have z:vs.toList=[]:=V;have:vs=#[]:=UJ z;rw[this]
   |some m=>
    have y:az g' w' (.pv (.bsl 0 H pre.length m cap)) v (bl (.slot 0)):=h0;obtain⟨_,_,_,rfl⟩:=y;rw[hμ]
  .rw[C.env,t'.env];subst l;rfl
  .apply UF;intro K;have Y:w'.heap[c]?≠none:=by
    obtain⟨arr',T',b1,_⟩:=g.blocks 0 (jX pre (d.flatMap enc) a) (by cases k<;>rfl);rw[hμ]at b1;rw[b1];simp
   have O:w'.heap[w'.heap.size]?=none:=by simp
   by_cases e:w'.heap.size=c
   .rw[e]at O;exact Y O
   .rw[j _ K e,Ti K]at O;cases O
  .obtain⟨arr',T',b1,⟨b2,_⟩,b3⟩:=g.blocks 0 (jX pre (d.flatMap enc) a) (by cases k<;>rfl);rw[hμ]at b1;refine⟨T',?_⟩;rw[b1];have t:jX pre (d.flatMap enc) a=(pre++d.flatMap enc++a).map (λv=>.pv (.lit v)):=by
    unfold jX;simp only[Tu,Tv]
   rw[t,S7]at b2;rw[oC (bl:=λk=>bl (.cell 0 k)) b2 λk x hk=>(b3 k x (by rw[t];exact hk)).2]
 .have hz:zs=[]:=by
   cases zs with
   |nil=>rfl
   |cons _ _=>unfold eb at E;cases E
  subst hz;have i:ak (du w) (.lit (.slice p 0 cap)::args) (.slice p 0 cap::us):=⟨_,_,rfl,rfl,h1⟩;refine((h0 rfl p cap).2 w _ i).mono λe w' ⟨v,r,g',o,E,⟨k,r1,r2,r3⟩,W,hF,_,_⟩=>?_;subst r3;refine⟨k,r1,r2,?_,W.env,W.size,λk hk=>W.keep k hk⟩;rw[E];cases k with
  |none=>
   have y:az g' w' (.pv (.tup [])) v o:=hF;obtain⟨_,vs,rfl,V⟩:=y;have z:vs.toList=[]:=V;have:vs=#[]:=UJ z;rw[this]
  |some m=>
   have y:v=.slice p m cap:=hF.2;rw[y]
end Go.AX
namespace Go.AX
open Go.Proofs Go.Shelf Go.Sort
theorem zG{P:Program}{ρ:Ren}(L:SlLaysM.n5 P ρ)(xs:List Int)(M:xs.length<=1000000)(H:aF P (ρ.f 5)=true):
 o8 P (ρ.f 5) 1 (aC xs) [] (λk rows=>k=none∧rows=aC (xs.mergeSort λx y=>decide (x<=y))):=by
 refine⟨H,λJ w c cap arr T pre vs v z h1 b o C D E s=>?_,λi w p cap z h1=>?_⟩
 .have t:=bV D;subst t;have r:z=[]:=E;subst r;have h:(aC xs).length=xs.length:=by unfold aC;simp
  rw[h]at o C⊢;have d:c<w.heap.size:=(Td.1 h1).1;have A:arr.size=pre.length+xs.length+v.length:=by
   rw[←TR,b];simp only[Ta,S7]
  have F:Holds (Value.int .i64) w c pre.length xs.toArray:=by
   intro j hj;have g:j<xs.length:=by simpa using hj
   constructor
   .rw[cell_of h1,←S4,b,Tv,Tk (by omega),Vd,SZ (by simpa using g),Tm,SR g];simp only[TZ];rw[Vq xs.toArray j hj];simp
   .simp[World.frozen?,h1]
  refine(AnyM.slices_Sort_int L c pre.length cap xs w F d (by omega)).mono λe w' ⟨i,n,u,K⟩=>?_;subst K;refine⟨none,aC (xs.mergeSort λx y=>decide (x<=y)),(xs.mergeSort λx y=>decide (x<=y)).map (Value.int .i64),⟨rfl,rfl⟩,by unfold aC;simp,λm I=>(by cases I),i,rfl,?_,λk hk q=>?_,⟨T,?_⟩,λG _=>dP G _⟩
  .show w.heap.size<=(w.heap.modify c _++u).size;rw[Wf,U0];omega
  .show(w.heap.modify c _++u)[k]?=_;rw[Ve (by rw[U0];exact hk),UC,SU (VC q)]
  .show(w.heap.modify c _++u)[c]?=_;rw[Ve (by rw[U0];exact d),UC,SX rfl,h1];simp only[TZ,onCells,TF,Obj.cells.injEq,XU];apply UJ;apply Uf;intro k;rw[S4];simp only[putCells,We]
   by_cases hk:k<arr.size
   .rw[Ti hk];simp only[TZ];have a:arr.toList[k]?=some arr[k]:=by rw[S4,Ti hk]
    rw[b,Tv]at a;rw[Tv];split
    .rename_i l;simp only[T8,Ur]at l;rw[Tk l.1,SZ (by simp;omega)];simp only[Tm];have B:k -pre.length<(xs.mergeSort λx y=>decide (x<=y)).length:=by rw[Ur];omega
     rw[SR B,Vq (xs.mergeSort λx y=>decide (x<=y)).toArray (k -pre.length) (by simpa using B)];simp
    .rename_i l;simp only[T8,Ur]at l
     by_cases hp:k<pre.length
     .rw[SZ hp]at a⊢;exact a.symm
     .rw[Tk (by omega),Tk (by simp;omega)]at a⊢;rw[←a];simp
   .rw[UI (by omega),TL]
    .rfl
    .simp;omega
 .have hz:xs=[]:=by
   cases xs with
   |nil=>rfl
   |cons _ _=>unfold aC at i;simp at i
  subst hz;have r:z=[]:=h1;subst r;refine(AnyM.slices_Sort_int_none (P:=P) (ρ:=ρ) L p cap w).mono λe w' ⟨b,o⟩=>?_;subst o;exact⟨none,⟨rfl,by simp[aC]⟩,.inl rfl,b,rfl,SY _,λ_ _=>rfl⟩
end Go.AX
namespace Go.AX
open Go.Proofs Go.Shelf Go.Sort
theorem tw{α:Type}[Inhabited α]{f:α->List Value}{k:Nat}(hk:∀x,(f x).length=k)(hp:0<k)(d:Array α):(flatK f k d).toList=d.toList.flatMap f:=by
 apply Uf;intro t;rw[eI hk hp,S4,S4];rcases XA t (d.size*k)with h|h
 .have hd:t/k<d.size:=by rw[Nat.div_lt_iff_lt_mul hp];exact h
  have a:t %k<k:=Nat.mod_lt _ hp;rw[Ti (by simpa using h),Ti hd];simp only[flatK,Array.getElem_map,Array.getElem_range,Vr];rw[Vq d _ hd,SR (by rw[hk];exact a),Vq _ _ (by rw[hk];exact a)]
 .have hd:d.size<=t/k:=by rw[Nat.le_div_iff_mul_le hp];exact h
  rw[UI (by simpa using h),UI hd];rfl
theorem xJ{P:Program}{ρ:Ren}(L:SlLaysF0.n6 P ρ){α:Type}[Inhabited α](k:Nat)(hp:0<k)(aE:∀w,(isAgg (ρ.t 24)).run P w=.ok true w)(zE:∀w,(Go.sizeOf (ρ.t 24)).run P w=.ok k w)(enc:α->List Value)(hk:∀x,(enc x).length=k)(h1:∀x,∀v∈enc x,v.oneCell'=true)(cf:α->α->Int)(g:FuncId)(xs:List α)(hl:xs.length<=1000000)(hO:SWO (ltOf cf))(hT:∀x y,(ltOf cf) x y=false->(ltOf cf) y x=false->x=y)
 (eg:∀args w,(callFunc g args).run P w=.ok (.enter g args) w) (hc:aF P (ρ.f 6)=true) (U:∀x y,aj P g [.agg ((enc x).map PV.lit),.agg ((enc y).map PV.lit)] (λr=>r=.pv (.lit (.int .i64 (cf x y))))):
 o8 P (ρ.f 6) k (eb enc xs) [.fn (.func g) [] []] (λkk rows=>kk=none∧rows=eb enc (xs.mergeSort λx y=>!(ltOf cf) y x)):=by
 have K:∀{G:Gh}{N:List Value},ak G [.fn (.func g) [] []] N->N=[.func (.func g) #[] #[]]:=by
  intro G N h;obtain⟨v,r,rfl,⟨a,b,rfl,h1,A⟩,C⟩:=h;have d:a=#[]:=UJ h1;have Q:b=#[]:=UJ A;have R:r=[]:=C;subst d Q R;rfl
 refine⟨hc,λae w c cap arr T pre vs ab N d A C h4 h5 h6 Z=>?_,λz w p cap N d=>?_⟩
 .have aa:=jJ h5;subst aa;have Y:=K h6;subst Y;have H:(eb enc xs).length=xs.length:=by unfold eb;simp
  rw[H]at C h4⊢;have E:c<w.heap.size:=(Td.1 d).1;have q:=ju hk xs;have ad:arr.size=pre.length+xs.length*k+ab.length:=by
   rw[←TR,A];simp only[Ta,q]
  have hH:HoldsK enc k w c pre.length xs.toArray:=by
   intro j hj;have V:j<xs.length*k:=by simpa using hj
   have W:(flatK enc k xs.toArray)[j]?=(xs.flatMap enc)[j]?:=by rw[←S4,tw hk hp]
   constructor
   .rw[cell_of d,←S4,A,Tv,Tk (by omega),Vd,SZ (by rw[q];exact V),←W,Ti hj,Vq _ j hj];rfl
   .simp[World.frozen?,d]
  have D:CmpLays P g #[] enc k cf c pre.length xs.toArray.size w:=by
   intro m M dk hs x y;have F:ak (du (sortWorldK enc k w c pre.length m dk M)) [.agg ((enc x).map PV.lit),.agg ((enc y).map PV.lit)] [.agg (enc x).toArray,.agg (enc y).toArray]:=
    ⟨_,_,rfl,⟨_,rfl,lD _ _⟩,_,_,rfl,⟨_,rfl,lD _ _⟩,rfl⟩
   have h:=rf ((U x y).2 _ _ F) (λe w' ⟨v,_,_,_,z,_⟩=>⟨v,z⟩);rw[Array.append_empty];refine Calls.mono h λe w' ⟨⟨v,r,g',o,z,O,S,hF,_,_⟩,hd⟩=>?_;subst O;have hv:v=.int .i64 (cf x y):=hF.2;exact⟨by rw[z,hv],grown_of S.env S.keep S.size hd⟩
  have J:xs.toArray.size<4611686018427387904:=by rw[T8];omega
  have hS:=AnyQ.slices_SortFunc_total (P:=P) (ρ:=ρ) L k aE zE enc hk h1 cf hO g #[] c pre.length cap xs.toArray w eg D hH E J hT;have B:((Value.slice (some ⟨c,pre.length,none⟩) xs.length cap)::[Value.func (.func g) #[] #[]]).toArray=#[.slice (some ⟨c,pre.length,none⟩) xs.toArray.size cap,.func (.func g) #[] #[]]:=by simp
  rw[B];refine hS.mono λe w' ⟨z,n,M,hw⟩=>?_;subst hw
  let ys:=xs.mergeSort λx y=>!(ltOf cf) y x
  have l:ys.length=xs.length:=Ur _;have u:=ju hk ys;have I:(flatK enc k (xs.toArray.toList.mergeSort λx y=>!(ltOf cf) y x).toArray).size=xs.length*k:=by rw[size_flatK];simp[Ur]
  refine⟨none,eb enc ys,ys.flatMap enc,⟨rfl,rfl⟩,by unfold eb;simp[l],λm hm=>(by cases hm),z,rfl,?_,λk' s X=>?_,⟨T,?_⟩,λG _=>oL hk h1 G _⟩
  .show w.heap.size<=(w.heap.modify c _++M).size;rw[Wf,U0];omega
  .show(w.heap.modify c _++M)[k']?=_;rw[Ve (by rw[U0];exact s),UC,SU (VC X)]
  .show(w.heap.modify c _++M)[c]?=_;rw[Ve (by rw[U0];exact E),UC,SX rfl,d];simp only[TZ,onCells,TF,Obj.cells.injEq,XU];apply UJ;apply Uf;intro k';rw[S4];simp only[putCells,We,I]
   by_cases s:k'<arr.size
   .rw[Ti s];simp only[TZ];have i:arr.toList[k']?=some arr[k']:=by rw[S4,Ti s]
    rw[A,Tv]at i;rw[Tv];split
    .rename_i O;rw[Tk O.1,SZ (by rw[u,l];omega)];have hb:k' -pre.length<(flatK enc k (xs.toArray.toList.mergeSort λx y=>!(ltOf cf) y x).toArray).size:=by rw[I];omega
     rw[Vq (flatK enc k (xs.toArray.toList.mergeSort λx y=>!(ltOf cf) y x).toArray) _ hb];have:(flatK enc k (xs.toArray.toList.mergeSort λx y=>!(ltOf cf) y x).toArray)[k' -pre.length]?=(ys.flatMap enc)[k' -pre.length]?:=by
      rw[←S4,tw hk hp]
     rw[←this,Ti hb];rfl
    .rename_i O
     by_cases hp:k'<pre.length
     .rw[SZ hp]at i⊢;exact i.symm
     .rw[Tk (by omega),Tk (by rw[q];omega)]at i;rw[Tk (by omega),Tk (by rw[u,l];omega),←i];rw[q,u,l]
   .rw[UI (by omega),TL]
    .rfl
    .simp only[Wu,Ta,u,l];omega
 .have hz:xs=[]:=by
   cases xs with
   |nil=>rfl
   |cons _ _=>unfold eb at z;simp at z
  subst hz;have Y:=K d;subst Y;refine(AnyF.slices_SortFunc_none (P:=P) (ρ:=ρ) {L with} p cap (.func (.func g) #[] #[]) w).mono λe w' ⟨A,C⟩=>?_;subst C;exact⟨none,⟨rfl,by simp[eb]⟩,.inl rfl,A,rfl,SY _,λ_ _=>rfl⟩
end Go.AX
namespace Go.AX
open Go.Proofs Go.Shelf Go.Sort
theorem zP{P:Program}{ρ:Ren}(L:SlLaysN.n45 P ρ)(xs:List Int)(i j:Nat)(n:i<=j)(hj:j<=xs.length)(E:aF P (ρ.f 45)=true):
 SF P (ρ.f 45) xs xs.length [.lit (.int .i64 i),.lit (.int .i64 j)] (xs.take i++xs.drop j++List.replicate (j -i) 0) (xs.length -(j -i)):=by
 refine⟨E,λw c cap arr T t N h1 m A B C r=>?_⟩;obtain⟨J,M,rfl,x,K,I,rfl,y,z⟩:=C;have g:J=.int .i64 i:=x;have h:K=.int .i64 j:=y;have l:I=[]:=z;subst g h l;have F:c<w.heap.size:=(Td.1 h1).1;have u:arr.size=xs.length+t.length:=by
  rw[←TR,m];simp only[Ta,S7]
 have D:Holds (Value.int .i64) w c 0 xs.toArray:=by
  intro j hj;have d:j<xs.length:=by simpa using hj
  constructor
  .rw[cell_of h1,←S4,m,T4,SZ (by simpa using d),Tm,SR d];simp only[TZ];rw[Vq xs.toArray j hj];simp
  .simp[World.frozen?,h1]
 have s:(xs.take i++xs.drop j++List.replicate (j -i) 0).length=xs.length:=by simp;omega
 have b:cap<=9223372036854775807:=by unfold maxLen at B;omega
 refine(AnyG.slices_Delete_int L c 0 cap i j xs w D A b n hj).mono λe w' ⟨G,q,H⟩=>?_;generalize xs.take i++xs.drop j++List.replicate (j -i) 0=ys at*;subst H;refine⟨G,?_,λk o=>?_,?_,rfl⟩
 .show(w.heap.modify c _)[c]?=_;rw[UC,SX rfl,h1];simp only[TZ,onCells,TF,Obj.cells.injEq,XU];apply UJ;apply Uf;intro k;rw[S4];simp only[putCells,We]
  by_cases hk:k<arr.size
  .rw[Ti hk];simp only[TZ];have a:arr.toList[k]?=some arr[k]:=by rw[S4,Ti hk]
   rw[m]at a;split
   .rename_i p;simp only[T8]at p;have v:k<ys.length:=by omega
    rw[SZ (by simp;omega)];simp only[Tm];rw[SR v,Vq ys.toArray (k -0) (by simpa using v)];simp
   .rename_i p;simp only[T8]at p;rw[Tk (by simp;omega)]at a⊢;rw[←a];simp[s]
  .rw[UI (by omega),TL]
   .rfl
   .simp;omega
 .show(w.heap.modify c _)[k]?=_;rw[UC,SU (VC o)]
 .show(w.heap.modify c _).size=_;rw[U0]
end Go.AX