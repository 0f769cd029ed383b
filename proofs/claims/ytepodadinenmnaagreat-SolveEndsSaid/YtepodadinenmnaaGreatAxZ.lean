/-
  AX, part Z: what a law is handed, as plain values.
-/
import Derived.Test.YtepodadinenmnaaGreatAxR
import Derived.Test.YtepodadinenmnaaGreatAxXW
import Derived.Deep.Slices
import Derived.OpenShut
namespace Go.AX
open Go.ChangeShapes Go.WideShapes Go.ChangeAt Go.RowKit
inductive Sh where
  |int (k:IntKind)
  |bool
  |str
  |sl (row:List Sh)
def F6(P:Program)(f:TypeId->Option (List Sh)):List Field->Nat->Option (List Sh)
 |[],_=>some []
 |d::r,off=>match f d.type with
  |some s=>if d.offset=off∧P.cellsOf d.type=s.length then(F6 P f r (off+s.length)).map (s++·)else none
  |none=>none
def xt(s:List Sh):Nat->List Sh
 |0=>[]
 |n+1=>s++xt s n
def zr(P:Program):Nat->TypeId->Option (List Sh)
 |0,_=>none
 |n+1,t=>match P.underlying t with
  |some .bool=>some [.bool]
  |some (.int k)=>some [.int k]
  |some .string=>some [.str]
  |some (.slice e)=>match zr P n e with
   |some r=>if P.cellsOf e=r.length∧0<P.cellsOf e then some [.sl r]else none
   |none=>none
  |some (.struct b)=>match F6 P (zr P n) b.toList 0 with
   |some a=>if P.cellsOf t=a.length then some a else none
   |none=>none
  |some (.array m e)=>match zr P n e with
   |some s=>if P.cellsOf e=s.length∧P.cellsOf t=(xt s m).length then some (xt s m)else none
   |none=>none
  |_=>none
mutual
def xu:Sh->PV->Prop
  |.int k,x=>∃n,x=.lit (.int k n)∧(Lit.int k n).wf=true
  |.bool,x=>∃b,x=.lit (.bool b)
  |.str,x=>∃s:ByteArray,x=.lit (.string s)∧s.size<=maxLen
  |.sl row,x=>∃rows:List (List PV),x=.seq false row.length rows∧rows.length<=maxLen∧∀r∈rows,cV row r
def cV:List Sh->List PV->Prop
  |[],xs=>xs=[]
  |s::ss,xs=>∃x r,xs=x::r∧xu s x∧cV ss r
end
theorem cV.append:∀{a b:List Sh}{xs ys:List PV},cV a xs->cV b ys->cV (a++b) (xs++ys)
 |[],_,_,_,h,h'=>by simp only[cV]at h;subst h;exact h'
 |_::_,_,_,_,h,h'=>by
  simp only[cV]at h;obtain⟨x,r,rfl,h1,c⟩:=h;simp only[OU,cV];exact⟨x,_,rfl,h1,cV.append c h'⟩
theorem cV.length:∀{a:List Sh}{xs:List PV},cV a xs->xs.length=a.length
 |[],_,h=>by simp only[cV]at h;subst h;rfl
 |_::_,_,h=>by
  simp only[cV]at h;obtain⟨x,r,rfl,h1,b⟩:=h;simp[cV.length b]
section
variable {H : Type} {enc : TypeId × Value -> H} {P : Program} {w : World} {base : Nat} {spare : Nat -> Bool} {held : Bool}
def Shown(w:World)(a:List Sh)(cs:List Value):Prop:=∃xs,cV a xs∧ah (du w) xs cs∧∀v∈cs,v.oneCell'=true
theorem Shown.nil(w:World):Shown w [] []:=⟨[],rfl,rfl,λv h=>by cases h⟩
theorem Shown.append{a b:List Sh}{c d:List Value}(h:Shown w a c)(h':Shown w b d):Shown w (a++b) (c++d):=by
 obtain⟨xs,h1,e,f⟩:=h;obtain⟨ys,i,j,k⟩:=h';exact⟨xs++ys,h1.append i,ah.append e j,λv g=>(Om.1 g).elim (f v) (k v)⟩
theorem od(f:TypeId->Option (List Sh))(cs:List Value):∀(l:List Field)(off:Nat)(s:List Sh),F6 P f l off=some s->off+s.length<=cs.length->
 (∀d∈l,∀a,f d.type=some a->∀c,c=(cs.drop d.offset).take (P.cellsOf d.type)->Shown w a c)->Shown w s ((cs.drop off).take s.length)
 |[],off,s,hs,_,_=>by simp only[F6,OI]at hs;subst hs;simpa using Shown.nil w
 |d::r,off,s,hs,k,hx=>by
  simp only[F6]at hs;split at hs
  .rename_i a hd;split at hs
   .rename_i h;simp only[Oy]at hs;obtain⟨g,e,rfl⟩:=hs;rw[Oi]at k;have h1:=hx d OA a hd _ rfl;have i:=od f cs r (off+a.length) g e (by omega) (λd' b=>hx d' (Ou _ b));rw[h.1,h.2]at h1;have:=h1.append i;rw[Oi];have j:(cs.drop off).take (a.length+g.length)=(cs.drop off).take a.length++(cs.drop (off+a.length)).take g.length:=by
     rw[List.take_add,Pv]
    rw[j];exact this
   .cases hs
  .cases hs
theorem tE(s:List Sh)(cs:List Value)(e:Nat)(a:e=s.length):∀(m i:Nat),(∀j,i<=j->j<i+m->Shown w s ((cs.drop (j*e)).take e))->Shown w (xt s m) ((cs.drop (i*e)).take (m*e))
 |0,i,_=>by simpa[xt]using Shown.nil w
 |m+1,i,h=>by
  have h1:=h i (Oc _) (by omega);have b:=tE s cs e a m (i+1) (λj hj c=>h j (by omega) (by omega));have:=h1.append b;have a:(cs.drop (i*e)).take ((m+1)*e)=(cs.drop (i*e)).take e++(cs.drop ((i+1)*e)).take (m*e):=by
   rw[show(m+1)*e=e+m*e by rw[PO];omega,List.take_add,Pv,show i*e+e=(i+1)*e by rw[PO]]
  rw[a];exact this
theorem po(s:List Sh):∀m,(xt s m).length=m*s.length
 |0=>by simp[xt]
 |m+1=>by simp[xt,po s m,PO];omega
theorem rL(s:List Sh)(C:Nat->List Value):∀(n:Nat),(∀i,i<n->Shown w s (C i))->∃rows:List (List PV),rows.length=n∧(∀r∈rows,cV s r)∧av (du w) s.length rows ((List.range n).flatMap C)
 |0,_=>⟨[],rfl,λr h=>(by cases h),rfl⟩
 |n+1,h=>by
  obtain⟨rows,h1,c,d⟩:=rL s C n (λi hi=>h i (by omega));obtain⟨xs,b,e,f⟩:=h n (by omega);refine⟨rows++[xs],by simp[h1],λr a=>?_,?_⟩
  .rcases Om.1 a with a|a
   .exact c r a
   .simp at a;subst a;exact b
  .rw[QV,R9];refine av.append d ?_;exact⟨C n,[],by simp,⟨b.length,f⟩,e,rfl⟩
theorem rY{arr:List Value}{off e:Nat}(C:Nat->List Value)(f:∀(i j:Nat),j<e->(C i).length=e->True):∀(n:Nat),(∀i,i<n->(C i).length=e∧∀j,j<e->arr[off+(i*e+j)]?=(C i)[j]?)->(List.range n).flatMap C<+:arr.drop off:=by
 intro n h;have a:∀m,m<=n->((List.range m).flatMap C).length=m*e:=by
  intro m
  induction m with
  |zero=>intro _;simp
  |succ m c=>intro d;rw[QV,R9,Oi,c (by omega)];simp[(h m (by omega)).1,PO]
 rw[List.prefix_iff_getElem?];have key:∀m,m<=n->∀k,k<m*e->(arr.drop off)[k]?=((List.range m).flatMap C)[k]?:=by
  intro m
  induction m with
  |zero=>intro _ k hk;simp at hk
  |succ m c=>
   intro d k hk;rw[QV,R9]
   by_cases b:k<m*e
   .rw[Oa (by rw[a m (by omega)];exact b)];exact c (by omega) k b
   .rw[Ot (by rw[a m (by omega)];omega),a m (by omega)];simp only[List.flatMap_cons,List.flatMap_nil,Pt];have hj:k -m*e<e:=by rw[PO]at hk;omega
    have:=(h m (by omega)).2 (k -m*e) hj;rw[Pp,←this];congr 1;omega
 intro k hk;rw[a n (Oc _)]at hk;rw[key n (Oc _) k hk,N6]
theorem jR:∀(n:Nat)(t:TypeId)(B:List Sh),zr P n t=some B->∀(u:Nat)(cs:List Value)(x:DataW H×List MemPlace),DataW.trod enc P w base spare held u t cs=some x->Shown w B cs
 |0,_,_,h,_,_,_,_=>by cases h
 |n+1,t,B,h,u,cs,x,hx=>by
  unfold zr at h;split at h
  .rename_i ht;cases h
   obtain⟨b,rfl,_⟩:=DataW.trod_bool ht hx;exact⟨[.lit (.bool b)],⟨_,_,rfl,⟨b,rfl⟩,rfl⟩,⟨_,_,rfl,rfl,rfl⟩,by intro v g;simp at g;subst g;rfl⟩
  .rename_i k ht;cases h
   obtain⟨m,rfl,_,hw⟩:=DataW.trod_int ht hx;exact⟨[.lit (.int k m)],⟨_,_,rfl,⟨m,rfl,hw⟩,rfl⟩,⟨_,_,rfl,rfl,rfl⟩,by intro v g;simp at g;subst g;rfl⟩
  .rename_i ht;cases h
   obtain⟨s,rfl,_,z⟩:=DataW.trod_string ht hx;exact⟨[.lit (.string s)],⟨_,_,rfl,⟨s,rfl,z⟩,rfl⟩,⟨_,_,rfl,rfl,rfl⟩,by intro v g;simp at g;subst g;rfl⟩
  .rename_i e ht;split at h
   .rename_i r Z;split at h
    .rename_i y;cases h
     rcases Deep.open_slice ht hx with⟨rfl,_⟩|⟨a,len,cap,m,V,D,Pl,rfl,hb,z,Y,O,_,L⟩
     .refine⟨[.seq false r.length []],⟨_,_,rfl,⟨[],rfl,Oz _,λr h=>by cases h⟩,rfl⟩,⟨_,_,rfl,⟨none,0,rfl,Oc _,.inl rfl⟩,rfl⟩,by intro v g;simp at g;subst g;rfl⟩
     .have X:len<=m:=by rw[O];split<;>omega
      have G:∀i,∃p,i<len->w.cells? base (a.add (i*P.cellsOf e)) (P.cellsOf e)=some p∧Shown w r p:=λi=>by
       by_cases hi:i<len
       .obtain⟨p,h1,J⟩:=L i (by omega);exact⟨p,λ_=>⟨h1,jR n e r Z _ _ _ J⟩⟩
       .exact⟨[],λh=>absurd h hi⟩
      obtain⟨C,S⟩:∃C:Nat->List Value,∀i,i<len->w.cells? base (a.add (i*P.cellsOf e)) (P.cellsOf e)=some (C i)∧Shown w r (C i):=
       ⟨λi=>Classical.choose (G i),λi=>Sw (G i)⟩
      obtain⟨rows,k1,k2,k3⟩:=rL r C len (λi hi=>(S i hi).2);refine⟨[.seq false r.length rows],⟨_,_,rfl,⟨rows,rfl,by omega,k2⟩,rfl⟩,⟨_,_,rfl,⟨some a,cap,by rw[k1],by omega,?_⟩,rfl⟩,by intro v g;simp at g;subst g;rfl⟩
      by_cases h0:len=0
      .left;exact PW (by omega)
      right;have f:=λi (hi:i<len)=>World.cells?_some (S i hi).1;have E:=(f 0 (by omega)).2.2 0 (by omega);rw[Ru,show(a.add 0).add 0=a by simp[Addr.add]]at E;have A:∃v,w.cell? a=some v:=by
       rw[E,N6 (by rw[(f 0 (by omega)).2.1];omega)];exact⟨_,rfl⟩
      obtain⟨v0,q⟩:=A;have o:a.spot=none:=World.cell?_spot q;unfold World.cell? at q;split at q
      .rename_i arr T fz l;have U:a=⟨a.block,a.off,none⟩:=by cases a;simp only at o;subst o;rfl
       refine⟨a.block,a.off,arr,T,fz,_,by rw[←U],l,λh=>(by cases h),k3,?_⟩;refine rY (e:=P.cellsOf e) C (λ_ _ _ _=>trivial) len (λi hi=>?_);obtain⟨_,J,W⟩:=f i hi;refine⟨J,λj hj=>?_⟩;rw[←W j hj];have F:(a.add (i*P.cellsOf e)).add j=⟨a.block,a.off+(i*P.cellsOf e+j),none⟩:=by
        rw[U,Addr.add_lit,Addr.add_lit,Qd]
       rw[F];simp[World.cell?,l]
      .cases q
    .cases h
   .cases h
  .rename_i R ht;split at h
   .rename_i s hs;split at h
    .rename_i y;cases h
     obtain ⟨xs, V, _, _, z, _, M⟩ := DataW.trod_struct ht hx; have := od (w := w) (zr P n) cs R.toList 0 _ hs (by rw [z, y]; omega) (λ d hd sd Q c K => by
      obtain⟨i,hi⟩:=PB.1 hd;have I:R[i]?=some d:=by simpa using hi
      have N:i<xs.length:=by
       have:=(Oh.1 I).1;omega
      have:=M i d I;rw[N6 N]at this;subst K;exact jR n d.type sd Q _ _ _ this)
     rw[Q4,←y,←z,OT]at this;exact this
    .cases h
   .cases h
  .rename_i m e ht;split at h
   .rename_i s hs;split at h
    .rename_i y;cases h
     obtain ⟨xs, V, _, _, z, Y, M⟩ := DataW.trod_array ht hx; have := tE (w := w) s cs (P.cellsOf e) y.1 m 0 (λ j _ hj => by
      have h1:=M j (by omega);rw[N6 (by omega)]at h1;exact jR n e s hs _ _ _ h1)
     rw[Ru,Q4]at this;have hle:cs.length=m*P.cellsOf e:=by rw[z,y.2,po,y.1]
     rw[←hle,OT]at this;exact this
    .cases h
   .cases h
  .cases h
/-! ### Arguments -/
def F7(P:Program)(n:Nat)(t:TypeId):Option (Bool×List Sh):=
 match zr P n t with
 |some s=>match P.underlying t with
  |some (.struct _)=>some (true,s)
  |some (.array _ _)=>some (true,s)
  |_=>some (false,s)
 |none=>none
def xv(a:Bool×List Sh)(x:PV):Prop:=
 match a with
 |(true,s)=>∃xs,x=.agg xs∧cV s xs
 |(false,s)=>cV s [x]
def zt(P:Program)(n:Nat):List TypeId->Option (List (Bool×List Sh))
 |[]=>some []
 |t::ts=>match F7 P n t,zt P n ts with
  |some a,some r=>some (a::r)
  |_,_=>none
def nk:List (Bool×List Sh)->List PV->Prop
 |[],xs=>xs=[]
 |a::r,xs=>∃x ys,xs=x::ys∧xv a x∧nk r ys
theorem CA{n:Nat}{t:TypeId}{a:Bool×List Sh}(f:F7 P n t=some a){r:Reach}{b0:Nat}{v:Value}(b:Value.okWide P w r b0 t v){d:DataW H}{ps:List MemPlace}(hd:DataW.Trod enc P w base spare held t v d ps):
 ∃x,xv a x∧Fit (du w) x v:=by
 obtain⟨p,B⟩:=hd;unfold F7 at f;split at f
 .rename_i s hs;obtain⟨xs,h1,i,_⟩:=jR n t s hs _ _ _ B;have c:∀cs,v=.agg cs->∃x,xv (true,s) x∧Fit (du w) x v:=λcs g=>by
   subst g;exact⟨.agg xs,⟨xs,rfl,h1⟩,cs,rfl,i⟩
  have h:v.cells=#[v]->∃x,xv (false,s) x∧Fit (du w) x v:=λg=>by
   rw[g]at i;have y:=i.length;simp at y;obtain⟨x,rfl⟩:∃x,xs=[x]:=by
    match xs,y with
    |[x],_=>exact⟨x,rfl⟩
   obtain⟨u,q,o,z,_⟩:=i;simp at o;exact⟨x,h1,by rw[o.1];exact z⟩
  split at f
  .rename_i A ht;cases f
   simp only[Value.okWide,ht]at b;obtain⟨cs,g,_⟩:=b;exact c cs g
  .rename_i m e ht;cases f
   simp only[Value.okWide,ht]at b;obtain⟨cs,g,_⟩:=b;exact c cs g
  .rename_i k l;cases f
   apply h;cases v with
   |agg cs=>
    exfalso;unfold Value.okWide at b;split at b
    .rename_i A ht;exact k _ ht
    .rename_i m e ht;exact l _ _ ht
    .unfold Cell.okWide at b;split at b<;>first|(rename_i j;cases j)|skip
     unfold Cell.ok at b;split at b<;>first|(rename_i j;cases j)|exact b
   |_=>rfl
 .cases f
theorem rM{n:Nat}{r:Reach}{b0:Nat}:∀{ts:List TypeId}{vs:List Value}{c:List (DataW H)}{ps:List MemPlace}{ss:List (Bool×List Sh)},zt P n ts=some ss->DataW.TrodAll enc P w base spare held ts vs c ps->
 (∀(j:Nat) t v,ts[j]?=some t->vs[j]?=some v->Value.okWide P w r b0 t v)->∃xs,nk ss xs∧ah (du w) xs vs∧c.length=ts.length
 |[],vs,c,ps,ss,hs,h,_=>by
  cases hs
  obtain⟨rfl,rfl,rfl⟩:=trodAll_nil h;exact⟨[],rfl,rfl,rfl⟩
 |t::ts,vs,c,ps,ss,hs,h,f=>by
  obtain⟨v,e,d,g,a,b,rfl,rfl,rfl,h1,l⟩:=trodAll_cons h;unfold zt at hs;split at hs
  .rename_i a r m o;cases hs
   obtain⟨x,p,q⟩:=CA m (f 0 t v rfl rfl) h1;obtain⟨xs,s,u,y⟩:=rM o l (λj z A i k=>f (j+1) z A i k);exact⟨x::xs,⟨x,xs,rfl,p,s⟩,⟨v,e,rfl,q,u⟩,by simp[y]⟩
  .cases hs
theorem CB{f:Func}{k:FuncId}{s:ChangeSpec}{t:TypeId}(w:laidOutB P=true)(g:rK P f.params.toList=true)(x:f.resultTypes=#[t]) (ht:P.underlying t=some .bool) {W:World} {args:Array Value} {c l:List (DataW H)} {a:List MemPlace}
 (y:s.vars=[]) (hs:s.fn H (c++l)={results:=[.lit (.bool true)],args:=c}) (q:DataW.Whole enc P f.params.toList s.vars false W args.toList c l a) {xs:List PV} (b:ah (du W) xs args.toList) (m:an P k xs (λr=>r=.pv (.lit (.bool true)))):
 Calls P k args W (λe j=>∃v,e=.returned v∧s.post enc P f false true false false W args v j):=by
 have:=m.2 W args.toList b;rw[Qb]at this;refine this.mono λe j ⟨v,r,g',o,u,d,n,p,_,_⟩=>?_;subst d;obtain⟨_,i⟩:=p;have h:v=.bool true:=i;subst h;exact⟨_,u,F5 w g x ht y hs q n.below⟩
end
end Go.AX