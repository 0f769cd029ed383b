/-
  AX, part Z: what a law is handed, as plain values.
-/
import Derived.Test.YtepodadinenmnaaGreatZ5
import Derived.Deep.Slices
import Derived.OpenShut
namespace Go.AX
section
open Go.ChangeShapes Go.WideShapes Go.ChangeAt Go.RowKit
inductive Sh where
  |int (k:ce)
  |bool
  |str
  |sl (row:List Sh)
def NM(P:aa)(f:ah->Option (List Sh)):List Field->Nat->Option (List Sh)
 |[],_=>some []
 |d::r,off=>match f d.type with
  |some s=>if d.offset=off∧P.cellsOf d.type=s.length then(NM P f r (off+s.length)).map (s++·)else none
  |none=>none
def CZ(s:List Sh):Nat->List Sh
 |0=>[]
 |n+1=>s++CZ s n
def FC(P:aa):Nat->ah->Option (List Sh)
 |0,_=>none
 |n+1,t=>match P.underlying t with
  |some .bool=>some [.bool]
  |some (.int k)=>some [.int k]
  |some .string=>some [.str]
  |some (.slice e)=>match FC P n e with
   |some r=>if P.cellsOf e=r.length∧0<P.cellsOf e then some [.sl r]else none
   |none=>none
  |some (.struct b)=>match NM P (FC P n) b.toList 0 with
   |some a=>if P.cellsOf t=a.length then some a else none
   |none=>none
  |some (.array m e)=>match FC P n e with
   |some s=>if P.cellsOf e=s.length∧P.cellsOf t=(CZ s m).length then some (CZ s m)else none
   |none=>none
  |_=>none
mutual
def C0:Sh->PV->Prop
  |.int k,x=>∃n,x=.lit (.int k n)∧(Lit.int k n).wf=true
  |.bool,x=>∃b,x=.lit (.bool b)
  |.str,x=>∃s:ByteArray,x=.lit (.string s)∧s.size<=maxLen
  |.sl row,x=>∃rows:aT,x=.seq false row.length rows∧rows.length<=maxLen∧∀r∈rows,d8 row r
def d8:List Sh->aD->Prop
  |[],xs=>xs=[]
  |s::ss,xs=>∃x r,xs=x::r∧C0 s x∧d8 ss r
end
theorem d8.append:∀{a b:List Sh}{xs ys:aD},d8 a xs->d8 b ys->d8 (a++b) (xs++ys)
 |[],_,_,_,h,h'=>by simp only[d8]at h;subst h;exact h'
 |_::_,_,_,_,h,h'=>by
  simp only[d8]at h;obtain⟨x,r,rfl,h1,c⟩:=h;simp only[Wh,d8];exact⟨x,_,rfl,h1,d8.append c h'⟩
theorem d8.length:∀{a:List Sh}{xs:aD},d8 a xs->xs.length=a.length
 |[],_,h=>by simp only[d8]at h;subst h;rfl
 |_::_,_,h=>by
  simp only[d8]at h;obtain⟨x,r,rfl,h1,b⟩:=h;simp[d8.length b]
section
variable {H : Type} {enc : ah × an -> H} {P : aa} {w : ab} {base : Nat} {spare : Nat -> Bool} {held : Bool}
def Shown(w:ab)(a:List Sh)(cs:aG):Prop:=∃xs,d8 a xs∧ax (dZ w) xs cs∧∀v∈cs,v.oneCell'=true
theorem Shown.nil(w:ab):Shown w [] []:=⟨[],rfl,rfl,λv h=>by cases h⟩
theorem Shown.append{a b:List Sh}{c d:aG}(h:Shown w a c)(h':Shown w b d):Shown w (a++b) (c++d):=by
 obtain⟨xs,h1,e,f⟩:=h;obtain⟨ys,i,j,k⟩:=h';exact⟨xs++ys,h1.append i,ax.append e j,λv g=>(VF.1 g).elim (f v) (k v)⟩
theorem r8(f:ah->Option (List Sh))(cs:aG):∀(l:List Field)(off:Nat)(s:List Sh),NM P f l off=some s->off+s.length<=cs.length->
 (∀d∈l,∀sd,f d.type=some sd->∀c,c=(cs.drop d.offset).take (P.cellsOf d.type)->Shown w sd c)->Shown w s ((cs.drop off).take s.length)
 |[],off,s,hs,_,_=>by simp only[NM,Wc]at hs;subst hs;simpa using Shown.nil w
 |d::r,off,s,hs,j,hx=>by
  simp only[NM]at hs;split at hs;rename_i sd hd;split at hs;rename_i g;simp only[VW]at hs;obtain⟨e,b,rfl⟩:=hs;rw[Vz]at j;have h1:=hx d VN sd hd _ rfl;have h:=r8 f cs r (off+sd.length) e b (by omega) (λd' a=>hx d' (VG _ a));rw[g.1,g.2]at h1;have:=h1.append h;rw[Vz];have i:(cs.drop off).take (sd.length+e.length)=(cs.drop off).take sd.length++(cs.drop (off+sd.length)).take e.length:=by
   rw[List.take_add,Wx]
  rw[i];exact this;cases hs;cases hs
theorem yK(s:List Sh)(cs:aG)(e:Nat)(a:e=s.length):∀(m i:Nat),(∀j,i<=j->j<i+m->Shown w s ((cs.drop (j*e)).take e))->Shown w (CZ s m) ((cs.drop (i*e)).take (m*e))
 |0,i,_=>by simpa[CZ]using Shown.nil w
 |m+1,i,h=>by
  have h1:=h i (Vu _) (by omega);have b:=yK s cs e a m (i+1) (λj hj c=>h j (by omega) (by omega));have:=h1.append b;have a:(cs.drop (i*e)).take ((m+1)*e)=(cs.drop (i*e)).take e++(cs.drop ((i+1)*e)).take (m*e):=by
   rw[show(m+1)*e=e+m*e by rw[Xm];omega,List.take_add,Wx,show i*e+e=(i+1)*e by rw[Xm]]
  rw[a];exact this
theorem tF(s:List Sh):∀m,(CZ s m).length=m*s.length
 |0=>by simp[CZ]
 |m+1=>by simp[CZ,tF s m,Xm];omega
theorem wH(s:List Sh)(C:Nat->aG):∀(n:Nat),(∀i,i<n->Shown w s (C i))->∃rows:aT,rows.length=n∧(∀r∈rows,d8 s r)∧aK (dZ w) s.length rows ((List.range n).flatMap C)
 |0,_=>⟨[],rfl,λr h=>(by cases h),rfl⟩
 |n+1,h=>by
  obtain⟨rows,h1,c,d⟩:=wH s C n (λi hi=>h i (by omega));obtain⟨xs,b,e,f⟩:=h n (by omega);refine⟨rows++[xs],by simp[h1],λr a=>?_,?_⟩;rcases VF.1 a with a|a;exact c r a;simp at a;subst a;exact b;rw[Y5,XU];refine aK.append d ?_;exact⟨C n,[],by simp,⟨b.length,f⟩,e,rfl⟩
theorem wZ{arr:aG}{off e:Nat}(C:Nat->aG)(f:∀(i j:Nat),j<e->(C i).length=e->True):∀(n:Nat),(∀i,i<n->(C i).length=e∧∀j,j<e->arr[off+(i*e+j)]?=(C i)[j]?)->(List.range n).flatMap C<+:arr.drop off:=by
 intro n h;have a:∀m,m<=n->((List.range m).flatMap C).length=m*e:=by
  intro m
  induction m with
  |zero=>intro _;simp
  |succ m c=>intro d;rw[Y5,XU,Vz,c (by omega)];simp[(h m (by omega)).1,Xm]
 rw[List.prefix_iff_getElem?];have key:∀m,m<=n->∀k,k<m*e->(arr.drop off)[k]?=((List.range m).flatMap C)[k]?:=by
  intro m
  induction m with
  |zero=>intro _ k hk;simp at hk
  |succ m c=>
   intro d k hk;rw[Y5,XU];by_cases b:k<m*e;rw[Vv (by rw[a m (by omega)];exact b)];exact c (by omega) k b;rw[VM (by rw[a m (by omega)];omega),a m (by omega)];simp only[Yi,Z4,WF];have hj:k -m*e<e:=by rw[Xm]at hk;omega
   have:=(h m (by omega)).2 (k -m*e) hj;rw[Wk,←this];congr 1;omega
 intro k hk;rw[a n (Vu _)]at hk;rw[key n (Vu _) k hk,Vq]
theorem nh:∀(n:Nat)(t:ah)(B:List Sh),FC P n t=some B->∀(u:Nat)(cs:aG)(x:DataW H×List MemPlace),DataW.trod enc P w base spare held u t cs=some x->Shown w B cs
 |0,_,_,h,_,_,_,_=>by cases h
 |n+1,t,B,h,u,cs,x,hx=>by
  unfold FC at h;split at h;rename_i ht;cases h;obtain⟨b,rfl,_⟩:=DataW.trod_bool ht hx;exact⟨[.lit (.bool b)],⟨_,_,rfl,⟨b,rfl⟩,rfl⟩,⟨_,_,rfl,rfl,rfl⟩,by intro v g;simp at g;subst g;rfl⟩;rename_i k ht;cases h;obtain⟨m,rfl,_,hw⟩:=DataW.trod_int ht hx;exact⟨[.lit (.int k m)],⟨_,_,rfl,⟨m,rfl,hw⟩,rfl⟩,⟨_,_,rfl,rfl,rfl⟩,by intro v g;simp at g;subst g;rfl⟩;rename_i ht;cases h;obtain⟨s,rfl,_,z⟩:=DataW.trod_string ht hx;exact⟨[.lit (.string s)],⟨_,_,rfl,⟨s,rfl,z⟩,rfl⟩,⟨_,_,rfl,rfl,rfl⟩,by intro v g;simp at g;subst g;rfl⟩;rename_i e ht;split at h;rename_i r Z;split at h;rename_i y;cases h;rcases Deep.open_slice ht hx with⟨rfl,_⟩|⟨a,len,cap,m,V,D,Pl,rfl,hb,z,Y,O,_,L⟩;refine⟨[.seq false r.length []],⟨_,_,rfl,⟨[],rfl,VH _,λr h=>by cases h⟩,rfl⟩,⟨_,_,rfl,⟨none,0,rfl,Vu _,.inl rfl⟩,rfl⟩,by intro v g;simp at g;subst g;rfl⟩;have X:len<=m:=by rw[O];split<;>omega
  have G:∀i,∃p,i<len->w.cells? base (a.add (i*P.cellsOf e)) (P.cellsOf e)=some p∧Shown w r p:=λi=>by
   by_cases hi:i<len;obtain⟨p,h1,J⟩:=L i (by omega);exact⟨p,λ_=>⟨h1,nh n e r Z _ _ _ J⟩⟩;exact⟨[],λh=>absurd h hi⟩
  obtain⟨C,S⟩:∃C:Nat->aG,∀i,i<len->w.cells? base (a.add (i*P.cellsOf e)) (P.cellsOf e)=some (C i)∧Shown w r (C i):=
   ⟨λi=>Classical.choose (G i),λi=>aab (G i)⟩
  obtain⟨rows,k1,k2,k3⟩:=wH r C len (λi hi=>(S i hi).2);refine⟨[.seq false r.length rows],⟨_,_,rfl,⟨rows,rfl,by omega,k2⟩,rfl⟩,⟨_,_,rfl,⟨some a,cap,by rw[k1],by omega,?_⟩,rfl⟩,by intro v g;simp at g;subst g;rfl⟩;by_cases h0:len=0;left;exact Xx (by omega);right;have f:=λi (hi:i<len)=>World.cells?_some (S i hi).1;have E:=(f 0 (by omega)).2.2 0 (by omega);rw[YZ,show(a.add 0).add 0=a by simp[Addr.add]]at E;have A:∃v,w.cell? a=some v:=by
   rw[E,Vq (by rw[(f 0 (by omega)).2.1];omega)];exact⟨_,rfl⟩
  obtain⟨v0,q⟩:=A;have o:a.spot=none:=World.cell?_spot q;unfold World.cell? at q;split at q;rename_i arr T fz l;have U:a=⟨a.block,a.off,none⟩:=by cases a;simp only at o;subst o;rfl
  refine⟨a.block,a.off,arr,T,fz,_,by rw[←U],l,λh=>(by cases h),k3,?_⟩;refine wZ (e:=P.cellsOf e) C (λ_ _ _ _=>trivial) len (λi hi=>?_);obtain⟨_,J,W⟩:=f i hi;refine⟨J,λj hj=>?_⟩;rw[←W j hj];have F:(a.add (i*P.cellsOf e)).add j=⟨a.block,a.off+(i*P.cellsOf e+j),none⟩:=by
   rw[U,gW,gW,Xf]
  rw [F]; simp [World.cell?, l]; cases q; cases h; cases h; rename_i R ht; split at h; rename_i s hs; split at h; rename_i y; cases h; obtain ⟨xs, V, _, _, z, _, M⟩ := DataW.trod_struct ht hx; have := r8 (w := w) (FC P n) cs R.toList 0 _ hs (by rw [z, y]; omega) (λ d hd sd Q c K => by
   obtain⟨i,hi⟩:=Xh.1 hd;have I:R[i]?=some d:=by simpa using hi
   have N:i<xs.length:=by
    have:=(VD.1 I).1;omega
   have:=M i d I;rw[Vq N]at this;subst K;exact nh n d.type sd Q _ _ _ this)
  rw [YW, ← y, ← z, VX] at this; exact this; cases h; cases h; rename_i m e ht; split at h; rename_i s hs; split at h; rename_i y; cases h; obtain ⟨xs, V, _, _, z, Y, M⟩ := DataW.trod_array ht hx; have := yK (w := w) s cs (P.cellsOf e) y.1 m 0 (λ j _ hj => by
   have h1:=M j (by omega);rw[Vq (by omega)]at h1;exact nh n e s hs _ _ _ h1)
  rw[YZ,YW]at this;have hle:cs.length=m*P.cellsOf e:=by rw[z,y.2,tF,y.1]
  rw[←hle,VX]at this;exact this;cases h;cases h;cases h
def NN(P:aa)(n:Nat)(t:ah):Option (Bool×List Sh):=
 match FC P n t with
 |some s=>match P.underlying t with
  |some (.struct _)=>some (true,s)
  |some (.array _ _)=>some (true,s)
  |_=>some (false,s)
 |none=>none
def C1(a:Bool×List Sh)(x:PV):Prop:=
 match a with
 |(true,s)=>∃xs,x=.agg xs∧d8 s xs
 |(false,s)=>d8 s [x]
def FD(P:aa)(n:Nat):List ah->Option (List (Bool×List Sh))
 |[]=>some []
 |t::ts=>match NN P n t,FD P n ts with
  |some a,some r=>some (a::r)
  |_,_=>none
def qN:List (Bool×List Sh)->aD->Prop
 |[],xs=>xs=[]
 |a::r,xs=>∃x ys,xs=x::ys∧C1 a x∧qN r ys
theorem JA{n:Nat}{t:ah}{a:Bool×List Sh}(f:NN P n t=some a){r:Reach}{b0:Nat}{v:an}(b:Value.okWide P w r b0 t v){d:DataW H}{ps:List MemPlace}(hd:DataW.Trod enc P w base spare held t v d ps):
 ∃x,C1 a x∧Fit (dZ w) x v:=by
 obtain⟨p,B⟩:=hd;unfold NN at f;split at f;rename_i s hs;obtain⟨xs,h1,i,_⟩:=nh n t s hs _ _ _ B;have c:∀cs,v=.agg cs->∃x,C1 (true,s) x∧Fit (dZ w) x v:=λcs g=>by
  subst g;exact⟨.agg xs,⟨xs,rfl,h1⟩,cs,rfl,i⟩
 have h:v.cells=#[v]->∃x,C1 (false,s) x∧Fit (dZ w) x v:=λg=>by
  rw[g]at i;have y:=i.length;simp at y;obtain⟨x,rfl⟩:∃x,xs=[x]:=by
   match xs,y with
   |[x],_=>exact⟨x,rfl⟩
  obtain⟨u,q,o,z,_⟩:=i;simp at o;exact⟨x,h1,by rw[o.1];exact z⟩
 split at f;rename_i A ht;cases f;simp only[Value.okWide,ht]at b;obtain⟨cs,g,_⟩:=b;exact c cs g;rename_i m e ht;cases f;simp only[Value.okWide,ht]at b;obtain⟨cs,g,_⟩:=b;exact c cs g;rename_i k l;cases f;apply h;cases v with
 |agg cs=>
  exfalso;unfold Value.okWide at b;split at b;rename_i A ht;exact k _ ht;rename_i m e ht;exact l _ _ ht;unfold Cell.okWide at b;split at b<;>first|(rename_i j;cases j)|skip
  unfold Cell.ok at b;split at b<;>first|(rename_i j;cases j)|exact b
 |_=>rfl
 cases f
theorem wI{n:Nat}{r:Reach}{b0:Nat}:∀{ts:List ah}{vs:aG}{c:List (DataW H)}{ps:List MemPlace}{ss:List (Bool×List Sh)},FD P n ts=some ss->DataW.TrodAll enc P w base spare held ts vs c ps->
 (∀(j:Nat) t v,ts[j]?=some t->vs[j]?=some v->Value.okWide P w r b0 t v)->∃xs,qN ss xs∧ax (dZ w) xs vs∧c.length=ts.length
 |[],vs,c,ps,ss,hs,h,_=>by
  cases hs;obtain⟨rfl,rfl,rfl⟩:=trodAll_nil h;exact⟨[],rfl,rfl,rfl⟩
 |t::ts,vs,c,ps,ss,hs,h,f=>by
  obtain⟨v,e,d,g,a,b,rfl,rfl,rfl,h1,l⟩:=trodAll_cons h;unfold FD at hs;split at hs;rename_i a r m o;cases hs;obtain⟨x,p,q⟩:=JA m (f 0 t v rfl rfl) h1;obtain⟨xs,s,u,y⟩:=wI o l (λj z A i k=>f (j+1) z A i k);exact⟨x::xs,⟨x,xs,rfl,p,s⟩,⟨v,e,rfl,q,u⟩,by simp[y]⟩;cases hs
theorem JB{f:Func}{k:az}{s:ChangeSpec}{t:ah}(w:laidOutB P=true)(g:wG P f.params.toList=true)(x:f.resultTypes=#[t]) (ht:P.underlying t=some .bool) {W:ab} {args:Array an} {c l:List (DataW H)} {a:List MemPlace}
 (y:s.vars=[]) (hs:s.fn H (c++l)={results:=[.lit (.bool true)],args:=c}) (q:DataW.Whole enc P f.params.toList s.vars false W args.toList c l a) {xs:aD} (b:ax (dZ W) xs args.toList) (m:aw P k xs (λr=>r=.pv (.lit (.bool true)))):
 Calls P k args W (λe j=>∃v,e=.returned v∧s.post enc P f false true false false W args v j):=by
 have:=m.2 W args.toList b;rw[XN]at this;refine this.mono λe j ⟨v,r,g',o,u,d,n,p,_,_⟩=>?_;subst d;obtain⟨_,i⟩:=p;have h:v=.bool true:=i;subst h;exact⟨_,u,NL w g x ht y hs q n.below⟩
end
end
end Go.AX
