/-
  AX, part Z: what a law is handed, as plain values.
-/
import Derived.Test.YtepodadinenmnaaGreatAxR
import Derived.Test.YtepodadinenmnaaGreatAxXW
import Derived.Deep.Slices
import Derived.OpenShut
namespace Go.AX
open Go.ChangeShapes Go.WideShapes Go.ChangeAt Go.RowKit
inductive Sh where
  |int (k:IntKind)
  |bool
  |str
  |sl (row:List Sh)
def KU(P:Program)(f:TypeId->Option (List Sh)):List Field->Nat->Option (List Sh)
 |[],_=>some []
 |d::r,off=>match f d.type with
  |some s=>if d.offset=off∧P.cellsOf d.type=s.length then(KU P f r (off+s.length)).map (s++·)else none
  |none=>none
def A2(s:List Sh):Nat->List Sh
 |0=>[]
 |n+1=>s++A2 s n
def C8(P:Program):Nat->TypeId->Option (List Sh)
 |0,_=>none
 |n+1,t=>match P.underlying t with
  |some .bool=>some [.bool]
  |some (.int k)=>some [.int k]
  |some .string=>some [.str]
  |some (.slice e)=>match C8 P n e with
   |some r=>if P.cellsOf e=r.length∧0<P.cellsOf e then some [.sl r]else none
   |none=>none
  |some (.struct b)=>match KU P (C8 P n) b.toList 0 with
   |some a=>if P.cellsOf t=a.length then some a else none
   |none=>none
  |some (.array m e)=>match C8 P n e with
   |some s=>if P.cellsOf e=s.length∧P.cellsOf t=(A2 s m).length then some (A2 s m)else none
   |none=>none
  |_=>none
mutual
def A3:Sh->PV->Prop
  |.int k,x=>∃n,x=.lit (.int k n)∧(Lit.int k n).wf=true
  |.bool,x=>∃b,x=.lit (.bool b)
  |.str,x=>∃s:ByteArray,x=.lit (.string s)∧s.size<=maxLen
  |.sl row,x=>∃rows:List (List PV),x=.seq false row.length rows∧rows.length<=maxLen∧∀r∈rows,dh row r
def dh:List Sh->List PV->Prop
  |[],xs=>xs=[]
  |s::ss,xs=>∃x r,xs=x::r∧A3 s x∧dh ss r
end
theorem dh.append:∀{a b:List Sh}{xs ys:List PV},dh a xs->dh b ys->dh (a++b) (xs++ys)
 |[],_,_,_,h,h'=>by simp only[dh]at h;subst h;exact h'
 |_::_,_,_,_,h,h'=>by
  simp only[dh]at h;obtain⟨x,r,rfl,h1,c⟩:=h;simp only[TP,dh];exact⟨x,_,rfl,h1,dh.append c h'⟩
theorem dh.length:∀{a:List Sh}{xs:List PV},dh a xs->xs.length=a.length
 |[],_,h=>by simp only[dh]at h;subst h;rfl
 |_::_,_,h=>by
  simp only[dh]at h;obtain⟨x,r,rfl,h1,b⟩:=h;simp[dh.length b]
section
variable {H : Type} {enc : TypeId × Value -> H} {P : Program} {w : World} {base : Nat} {spare : Nat -> Bool} {held : Bool}
def Shown(w:World)(a:List Sh)(cs:List Value):Prop:=∃xs,dh a xs∧ak (du w) xs cs∧∀v∈cs,v.oneCell'=true
theorem Shown.nil(w:World):Shown w [] []:=⟨[],rfl,rfl,λv h=>by cases h⟩
theorem Shown.append{a b:List Sh}{c d:List Value}(h:Shown w a c)(h':Shown w b d):Shown w (a++b) (c++d):=by
 obtain⟨xs,h1,e,f⟩:=h;obtain⟨ys,i,j,k⟩:=h';exact⟨xs++ys,h1.append i,ak.append e j,λv g=>(Te.1 g).elim (f v) (k v)⟩
theorem qd(f:TypeId->Option (List Sh))(cs:List Value):∀(l:List Field)(off:Nat)(s:List Sh),KU P f l off=some s->off+s.length<=cs.length->
 (∀d∈l,∀sd,f d.type=some sd->∀c,c=(cs.drop d.offset).take (P.cellsOf d.type)->Shown w sd c)->Shown w s ((cs.drop off).take s.length)
 |[],off,s,hs,_,_=>by simp only[KU,TF]at hs;subst hs;simpa using Shown.nil w
 |d::r,off,s,hs,j,hx=>by
  simp only[KU]at hs;split at hs
  .rename_i sd hd;split at hs
   .rename_i g;simp only[Tp]at hs;obtain⟨e,b,rfl⟩:=hs;rw[Ta]at j;have h1:=hx d To sd hd _ rfl;have h:=qd f cs r (off+sd.length) e b (by omega) (λd' a=>hx d' (Tl _ a));rw[g.1,g.2]at h1;have:=h1.append h;rw[Ta];have i:(cs.drop off).take (sd.length+e.length)=(cs.drop off).take sd.length++(cs.drop (off+sd.length)).take e.length:=by
     rw[List.take_add,Ui]
    rw[i];exact this
   .cases hs
  .cases hs
theorem wH(s:List Sh)(cs:List Value)(e:Nat)(a:e=s.length):∀(m i:Nat),(∀j,i<=j->j<i+m->Shown w s ((cs.drop (j*e)).take e))->Shown w (A2 s m) ((cs.drop (i*e)).take (m*e))
 |0,i,_=>by simpa[A2]using Shown.nil w
 |m+1,i,h=>by
  have h1:=h i (SY _) (by omega);have b:=wH s cs e a m (i+1) (λj hj c=>h j (by omega) (by omega));have:=h1.append b;have a:(cs.drop (i*e)).take ((m+1)*e)=(cs.drop (i*e)).take e++(cs.drop ((i+1)*e)).take (m*e):=by
   rw[show(m+1)*e=e+m*e by rw[UR];omega,List.take_add,Ui,show i*e+e=(i+1)*e by rw[UR]]
  rw[a];exact this
theorem rx(s:List Sh):∀m,(A2 s m).length=m*s.length
 |0=>by simp[A2]
 |m+1=>by simp[A2,rx s m,UR];omega
theorem uz(s:List Sh)(C:Nat->List Value):∀(n:Nat),(∀i,i<n->Shown w s (C i))->∃rows:List (List PV),rows.length=n∧(∀r∈rows,dh s r)∧ay (du w) s.length rows ((List.range n).flatMap C)
 |0,_=>⟨[],rfl,λr h=>(by cases h),rfl⟩
 |n+1,h=>by
  obtain⟨rows,h1,c,d⟩:=uz s C n (λi hi=>h i (by omega));obtain⟨xs,b,e,f⟩:=h n (by omega);refine⟨rows++[xs],by simp[h1],λr a=>?_,?_⟩
  .rcases Te.1 a with a|a
   .exact c r a
   .simp at a;subst a;exact b
  .rw[VX,V4];refine ay.append d ?_;exact⟨C n,[],by simp,⟨b.length,f⟩,e,rfl⟩
theorem uV{arr:List Value}{off e:Nat}(C:Nat->List Value)(f:∀(i j:Nat),j<e->(C i).length=e->True):∀(n:Nat),(∀i,i<n->(C i).length=e∧∀j,j<e->arr[off+(i*e+j)]?=(C i)[j]?)->(List.range n).flatMap C<+:arr.drop off:=by
 intro n h;have a:∀m,m<=n->((List.range m).flatMap C).length=m*e:=by
  intro m
  induction m with
  |zero=>intro _;simp
  |succ m c=>intro d;rw[VX,V4,Ta,c (by omega)];simp[(h m (by omega)).1,UR]
 rw[List.prefix_iff_getElem?];have key:∀m,m<=n->∀k,k<m*e->(arr.drop off)[k]?=((List.range m).flatMap C)[k]?:=by
  intro m
  induction m with
  |zero=>intro _ k hk;simp at hk
  |succ m c=>
   intro d k hk;rw[VX,V4]
   by_cases b:k<m*e
   .rw[SZ (by rw[a m (by omega)];exact b)];exact c (by omega) k b
   .rw[Tk (by rw[a m (by omega)];omega),a m (by omega)];simp only[WL,List.flatMap_nil,Ut];have hj:k -m*e<e:=by rw[UR]at hk;omega
    have:=(h m (by omega)).2 (k -m*e) hj;rw[Ub,←this];congr 1;omega
 intro k hk;rw[a n (SY _)]at hk;rw[key n (SY _) k hk,SR]
theorem lS:∀(n:Nat)(t:TypeId)(B:List Sh),C8 P n t=some B->∀(u:Nat)(cs:List Value)(x:DataW H×List MemPlace),DataW.trod enc P w base spare held u t cs=some x->Shown w B cs
 |0,_,_,h,_,_,_,_=>by cases h
 |n+1,t,B,h,u,cs,x,hx=>by
  unfold C8 at h;split at h
  .rename_i ht;cases h
   obtain⟨b,rfl,_⟩:=DataW.trod_bool ht hx;exact⟨[.lit (.bool b)],⟨_,_,rfl,⟨b,rfl⟩,rfl⟩,⟨_,_,rfl,rfl,rfl⟩,by intro v g;simp at g;subst g;rfl⟩
  .rename_i k ht;cases h
   obtain⟨m,rfl,_,hw⟩:=DataW.trod_int ht hx;exact⟨[.lit (.int k m)],⟨_,_,rfl,⟨m,rfl,hw⟩,rfl⟩,⟨_,_,rfl,rfl,rfl⟩,by intro v g;simp at g;subst g;rfl⟩
  .rename_i ht;cases h
   obtain⟨s,rfl,_,z⟩:=DataW.trod_string ht hx;exact⟨[.lit (.string s)],⟨_,_,rfl,⟨s,rfl,z⟩,rfl⟩,⟨_,_,rfl,rfl,rfl⟩,by intro v g;simp at g;subst g;rfl⟩
  .rename_i e ht;split at h
   .rename_i r Z;split at h
    .rename_i y;cases h
     rcases Deep.open_slice ht hx with⟨rfl,_⟩|⟨a,len,cap,m,V,D,Pl,rfl,hb,z,Y,O,_,L⟩
     .refine⟨[.seq false r.length []],⟨_,_,rfl,⟨[],rfl,Tf _,λr h=>by cases h⟩,rfl⟩,⟨_,_,rfl,⟨none,0,rfl,SY _,.inl rfl⟩,rfl⟩,by intro v g;simp at g;subst g;rfl⟩
     .have X:len<=m:=by rw[O];split<;>omega
      have G:∀i,∃p,i<len->w.cells? base (a.add (i*P.cellsOf e)) (P.cellsOf e)=some p∧Shown w r p:=λi=>by
       by_cases hi:i<len
       .obtain⟨p,h1,J⟩:=L i (by omega);exact⟨p,λ_=>⟨h1,lS n e r Z _ _ _ J⟩⟩
       .exact⟨[],λh=>absurd h hi⟩
      obtain⟨C,S⟩:∃C:Nat->List Value,∀i,i<len->w.cells? base (a.add (i*P.cellsOf e)) (P.cellsOf e)=some (C i)∧Shown w r (C i):=
       ⟨λi=>Classical.choose (G i),λi=>Xx (G i)⟩
      obtain⟨rows,k1,k2,k3⟩:=uz r C len (λi hi=>(S i hi).2);refine⟨[.seq false r.length rows],⟨_,_,rfl,⟨rows,rfl,by omega,k2⟩,rfl⟩,⟨_,_,rfl,⟨some a,cap,by rw[k1],by omega,?_⟩,rfl⟩,by intro v g;simp at g;subst g;rfl⟩
      by_cases h0:len=0
      .left;exact UZ (by omega)
      right;have f:=λi (hi:i<len)=>World.cells?_some (S i hi).1;have E:=(f 0 (by omega)).2.2 0 (by omega);rw[Ww,show(a.add 0).add 0=a by simp[Addr.add]]at E;have A:∃v,w.cell? a=some v:=by
       rw[E,SR (by rw[(f 0 (by omega)).2.1];omega)];exact⟨_,rfl⟩
      obtain⟨v0,q⟩:=A;have o:a.spot=none:=World.cell?_spot q;unfold World.cell? at q;split at q
      .rename_i arr T fz l;have U:a=⟨a.block,a.off,none⟩:=by cases a;simp only at o;subst o;rfl
       refine⟨a.block,a.off,arr,T,fz,_,by rw[←U],l,λh=>(by cases h),k3,?_⟩;refine uV (e:=P.cellsOf e) C (λ_ _ _ _=>trivial) len (λi hi=>?_);obtain⟨_,J,W⟩:=f i hi;refine⟨J,λj hj=>?_⟩;rw[←W j hj];have F:(a.add (i*P.cellsOf e)).add j=⟨a.block,a.off+(i*P.cellsOf e+j),none⟩:=by
        rw[U,Addr.add_lit,Addr.add_lit,U4]
       rw[F];simp[World.cell?,l]
      .cases q
    .cases h
   .cases h
  .rename_i R ht;split at h
   .rename_i s hs;split at h
    .rename_i y;cases h
     obtain ⟨xs, V, _, _, z, _, M⟩ := DataW.trod_struct ht hx; have := qd (w := w) (C8 P n) cs R.toList 0 _ hs (by rw [z, y]; omega) (λ d hd sd Q c K => by
      obtain⟨i,hi⟩:=UN.1 hd;have I:R[i]?=some d:=by simpa using hi
      have N:i<xs.length:=by
       have:=(Td.1 I).1;omega
      have:=M i d I;rw[SR N]at this;subst K;exact lS n d.type sd Q _ _ _ this)
     rw[V7,←y,←z,Tw]at this;exact this
    .cases h
   .cases h
  .rename_i m e ht;split at h
   .rename_i s hs;split at h
    .rename_i y;cases h
     obtain ⟨xs, V, _, _, z, Y, M⟩ := DataW.trod_array ht hx; have := wH (w := w) s cs (P.cellsOf e) y.1 m 0 (λ j _ hj => by
      have h1:=M j (by omega);rw[SR (by omega)]at h1;exact lS n e s hs _ _ _ h1)
     rw[Ww,V7]at this;have hle:cs.length=m*P.cellsOf e:=by rw[z,y.2,rx,y.1]
     rw[←hle,Tw]at this;exact this
    .cases h
   .cases h
  .cases h
/-! ### Arguments -/
def KV(P:Program)(n:Nat)(t:TypeId):Option (Bool×List Sh):=
 match C8 P n t with
 |some s=>match P.underlying t with
  |some (.struct _)=>some (true,s)
  |some (.array _ _)=>some (true,s)
  |_=>some (false,s)
 |none=>none
def A4(a:Bool×List Sh)(x:PV):Prop:=
 match a with
 |(true,s)=>∃xs,x=.agg xs∧dh s xs
 |(false,s)=>dh s [x]
def C9(P:Program)(n:Nat):List TypeId->Option (List (Bool×List Sh))
 |[]=>some []
 |t::ts=>match KV P n t,C9 P n ts with
  |some a,some r=>some (a::r)
  |_,_=>none
def o7:List (Bool×List Sh)->List PV->Prop
 |[],xs=>xs=[]
 |a::r,xs=>∃x ys,xs=x::ys∧A4 a x∧o7 r ys
theorem GU{n:Nat}{t:TypeId}{a:Bool×List Sh}(f:KV P n t=some a){r:Reach}{b0:Nat}{v:Value}(b:Value.okWide P w r b0 t v){d:DataW H}{ps:List MemPlace}(hd:DataW.Trod enc P w base spare held t v d ps):
 ∃x,A4 a x∧Fit (du w) x v:=by
 obtain⟨p,B⟩:=hd;unfold KV at f;split at f
 .rename_i s hs;obtain⟨xs,h1,i,_⟩:=lS n t s hs _ _ _ B;have c:∀cs,v=.agg cs->∃x,A4 (true,s) x∧Fit (du w) x v:=λcs g=>by
   subst g;exact⟨.agg xs,⟨xs,rfl,h1⟩,cs,rfl,i⟩
  have h:v.cells=#[v]->∃x,A4 (false,s) x∧Fit (du w) x v:=λg=>by
   rw[g]at i;have y:=i.length;simp at y;obtain⟨x,rfl⟩:∃x,xs=[x]:=by
    match xs,y with
    |[x],_=>exact⟨x,rfl⟩
   obtain⟨u,q,o,z,_⟩:=i;simp at o;exact⟨x,h1,by rw[o.1];exact z⟩
  split at f
  .rename_i A ht;cases f
   simp only[Value.okWide,ht]at b;obtain⟨cs,g,_⟩:=b;exact c cs g
  .rename_i m e ht;cases f
   simp only[Value.okWide,ht]at b;obtain⟨cs,g,_⟩:=b;exact c cs g
  .rename_i k l;cases f
   apply h;cases v with
   |agg cs=>
    exfalso;unfold Value.okWide at b;split at b
    .rename_i A ht;exact k _ ht
    .rename_i m e ht;exact l _ _ ht
    .unfold Cell.okWide at b;split at b<;>first|(rename_i j;cases j)|skip
     unfold Cell.ok at b;split at b<;>first|(rename_i j;cases j)|exact b
   |_=>rfl
 .cases f
theorem uA{n:Nat}{r:Reach}{b0:Nat}:∀{ts:List TypeId}{vs:List Value}{c:List (DataW H)}{ps:List MemPlace}{ss:List (Bool×List Sh)},C9 P n ts=some ss->DataW.TrodAll enc P w base spare held ts vs c ps->
 (∀(j:Nat) t v,ts[j]?=some t->vs[j]?=some v->Value.okWide P w r b0 t v)->∃xs,o7 ss xs∧ak (du w) xs vs∧c.length=ts.length
 |[],vs,c,ps,ss,hs,h,_=>by
  cases hs
  obtain⟨rfl,rfl,rfl⟩:=trodAll_nil h;exact⟨[],rfl,rfl,rfl⟩
 |t::ts,vs,c,ps,ss,hs,h,f=>by
  obtain⟨v,e,d,g,a,b,rfl,rfl,rfl,h1,l⟩:=trodAll_cons h;unfold C9 at hs;split at hs
  .rename_i a r m o;cases hs
   obtain⟨x,p,q⟩:=GU m (f 0 t v rfl rfl) h1;obtain⟨xs,s,u,y⟩:=uA o l (λj z A i k=>f (j+1) z A i k);exact⟨x::xs,⟨x,xs,rfl,p,s⟩,⟨v,e,rfl,q,u⟩,by simp[y]⟩
  .cases hs
theorem GV{f:Func}{k:FuncId}{s:ChangeSpec}{t:TypeId}(w:laidOutB P=true)(g:uy P f.params.toList=true)(x:f.resultTypes=#[t]) (ht:P.underlying t=some .bool) {W:World} {args:Array Value} {c l:List (DataW H)} {a:List MemPlace}
 (y:s.vars=[]) (hs:s.fn H (c++l)={results:=[.lit (.bool true)],args:=c}) (q:DataW.Whole enc P f.params.toList s.vars false W args.toList c l a) {xs:List PV} (b:ak (du W) xs args.toList) (m:aj P k xs (λr=>r=.pv (.lit (.bool true)))):
 Calls P k args W (λe j=>∃v,e=.returned v∧s.post enc P f false true false false W args v j):=by
 have:=m.2 W args.toList b;rw[Vf]at this;refine this.mono λe j ⟨v,r,g',o,u,d,n,p,_,_⟩=>?_;subst d;obtain⟨_,i⟩:=p;have h:v=.bool true:=i;subst h;exact⟨_,u,KT w g x ht y hs q n.below⟩
end
end Go.AX