/-
  AX, part Bt: a call that writes a slice of a block in place, handed a function that looks at one number of another block.
-/
import Derived.Test.YtepodadinenmnaaGreatAxTb
import Derived.Test.YtepodadinenmnaaGreatAxOw
namespace Go.AX
theorem bE.introT{P:Program}{st:St}{f gf:FuncId}{d:Option Tmp}{K:St->Prop}{cx x0 W:Operand}{args:Array Operand}{b b2 cp:Nat}{v:Int}{zs:List Int}{sp:List SV}{R:Option Nat->List (List PV)->Prop}
 (hA:o8 P f 1 (aC zs) [.fn (.func gf) [] [.iptr 1 [[.lit (.int .i64 v)]] 0 0]] R) (aE:gc st cx) (hcl:bC st cx=some (f,[],[])) (ha:args.toList=[x0,W]) (aB:gc st x0) (aH:mv st x0=.pv (.bsl b 1 0 zs.length cp))
 (aD:gc st W) (aI:mv st W=.pv (.fn (.func gf) [] [.ptr b2 0])) (hb:st.h[b]?=some (zs.map (λz=>SV.pv (.lit (.int .i64 z)))++sp)) (aw:st.h[b2]?=some [.pv (.lit (.int .i64 v))]) (aK:b2≠b) (hz:0<zs.length) (aX:zs.length<=1000000)
 (hK:∀k rows,R k rows->∃m n,k=some m∧rows=aC n∧n.length=zs.length∧m<=zs.length∧K (putD d (.pv (.bsl b 1 0 m cp)) ⟨aG (aJ b 0 zs.length) st.t,st.h.set b (n.map (λz=>SV.pv (.lit (.int .i64 z)))++sp)⟩)):bE P st cx args d K:=by
 intro o aY ho r g a w h hd K' Q X;obtain⟨u,vq,hx,hu,aP⟩:=eQ h aE hcl;have aO:u.toList=[]:=hu;have aQ:vq.toList=[]:=aP;obtain⟨bl,D⟩:=h.own;obtain⟨arr,T,c1,⟨c2,C⟩,c3⟩:=D.blocks b _ hb;obtain⟨i,T2,d1,⟨d2,av⟩,d3⟩:=D.blocks b2 _ aw;obtain⟨ae,_⟩:=aN h x0 aB;rw[aH]at ae;obtain⟨_,aa,ah,ao⟩:=ae;obtain⟨af,_⟩:=aN h W aD;rw[aI]at af;obtain⟨_,fa,fb,e1,q,p1,r1,e2,⟨Z,e3⟩,e4⟩:=af;have aL:r1=[]:=e4;subst aL;have aU:fa.toList=[]:=q;have ax:g.μ b2≠g.μ b:=λe=>aK (h.μinj b2 b Z aa e);have aT:arr.toList.length=zs.length+sp.length:=by rw[TR,c2];simp
 have aR:arr.toList.take zs.length=zs.map (Value.int .i64):=by
  refine bV (G:=g) ?_;have hF:ak g (zs.map λz=>PV.lit (.int .i64 z)) (arr.toList.take zs.length):=ak.of_get (by rw[S7,S6];omega) λj y w hy hw=>by
   have hj:j<zs.length:=by have:=(SQ.1 hy).1;simpa using this
   have h1:(zs.map (λz=>SV.pv (.lit (.int .i64 z)))++sp)[j]?=some (.pv y):=by
    rw[SZ (by simpa using hj),Tm];rw[Tm]at hy;cases ar:zs[j]?with
    |none=>rw[ar]at hy;cases hy
    |some z=>rw[ar]at hy;simp only[TZ,TF]at hy;subst hy;rfl
   have h2:arr[j]?=some w:=by
    rw[TY,SX hj]at hw;rw[←S4];exact hw
   have h3:=(c3 j _ h1).2.2;rw[Tg,h2]at h3;exact h3
  have:=ay.sing (λv hv=>C v (TV hv)) hF;rw[TX]at this;exact this
 have B:arr.toList=[]++zs.map (Value.int .i64)++arr.toList.drop zs.length:=by
  rw[TI,←aR,T7]
 have s:=cU zs;have ag:ak (nh w (g.μ b)) [.fn (.func gf) [] [.iptr 1 [[.lit (.int .i64 v)]] 0 0]] [a.eval W]:=by
  refine⟨_,[],rfl,⟨fa,fb,e1,q,p1,[],e2,⟨g.μ b2,0,i,T2,(0,0),[.int .i64 v],by rw[e3],?_,?_,?_⟩,rfl⟩,rfl⟩
  .show(qp w (g.μ b)).heap[g.μ b2]?=_;rw[lh w ax];exact d1
  .exact⟨[.int .i64 v],[],rfl,⟨rfl,λx hx=>by rw[TA]at hx;subst hx;rfl⟩,⟨_,[],rfl,rfl,rfl⟩,rfl⟩
  .have h3:=(d3 0 _ rfl).2.2;have hs:i.size=1:=by simpa using d2
   have h4:i.getD 0 undef=.int .i64 v:=h3;have h5:i.toList=[.int .i64 v]:=by
    have hl:i.toList.length=1:=by rw[TR];exact hs
    match hq:i.toList,hl with
    |[y],_=>
     have:i.getD 0 undef=y:=by
      rw[Tg,←S4,hq];rfl
     rw[←this,h4]
   rw[h5];exact WY _
 have Y:(a.eval x0::[a.eval W]).toArray=u++args.map a.eval++vq:=by
  apply UJ;simp[aO,aQ,ha]
 have aj:(execOp a.eval o).run P w=.ok (.enter f (u++args.map a.eval++vq)) w:=by
  have p:=hA.1;unfold aF at p;split at p
  case h_2=>cases p
  rename_i fn aA;simp only[S9,TU]at p;simp only[execOp,ho,resolve,hx,Deferred.ofValue,invoke,callFunc,Sem.run_bind,Sem.run_pure,Result.andThen_ok,run_program,aA,p.1,p.2,TM,Ul]
 have ai:aC zs≠[]:=λe=>by rw[e]at s;simp at s;omega
 have hc:=hA.2.1 ai w (g.μ b) cp arr T [] (zs.map (Value.int .i64)) (arr.toList.drop zs.length) [a.eval W] c1 B (by rw[s];exact ah) (by rw[s];unfold maxLen;omega) (dP _ _) ag C;unfold Oper.wp;rw[aj,Oper.upon_enter,←Y,ao];rw[s]at hc;refine hc.mono λe9 w' ⟨k,U,aS,hR,aV,aW,he,az,an,L,⟨T',H⟩,J⟩=>?_;obtain⟨m,n,rfl,rfl,S,hm,A⟩:=hK k U hR;have aq:aS=n.map (Value.int .i64):=bV (J g (dP g zs));subst aq;subst he;have au:g.μ b<w.heap.size:=(Td.1 c1).1;obtain⟨V,M⟩:∃V:World,V={w' with heap:=w'.heap.setIfInBounds (g.μ b) (.cells arr T (0,0))}:=⟨_,rfl⟩;have O:∀k,V.heap[k]?=if g.μ b=k then some (.cells arr T (0,0))else w'.heap[k]?:=λk=>by
  subst M;simp only[T6];split
  .rename_i e;subst e;rw[SX (Uk au an)]
  .rfl
 have F:V.heap.size=w'.heap.size:=by subst M;simp
 have E:bT V=bT w':=by subst M;rfl
 obtain ⟨s1, t1, _⟩ := h.grown (w' := V) (E.trans az) (by rw [F]; exact an) (λ k hk => by
  rw[O];split
  .rename_i e;subst e;exact c1.symm
  .rename_i e;exact L k hk (λe'=>e e'.symm)) (λ_=>none) (λ_ _ h=>by cases h)
 have hB:=s1.blockWrite (k0:=0) (ys:=n.map λz=>PV.lit (.int .i64 z)) (vs:=n.map (Value.int .i64)) (arr:=arr) (T:=T) (arr':=([]++n.map (Value.int .i64)++arr.toList.drop zs.length).toArray) (w':=w') hb (by simp;omega) (by show V.heap[g.μ b]?=_;rw[O,SX rfl])
  (by
   have:∀l:List Int,ak {g with I:=λc=>if w.heap.size<=c then(none:Option Obj)else g.I c} (l.map λz=>PV.lit (.int .i64 z)) (l.map (Value.int .i64)):=λl=>by
    induction l with
    |nil=>rfl
    |cons z l ih=>exact⟨_,_,rfl,rfl,ih⟩
   exact this n)
  (λv hv=>by obtain⟨z,_,rfl⟩:=S8.1 hv;rfl) E.symm F.symm (λc hc=>by rw[O,SU (λe=>hc e.symm)]) ⟨T',H⟩
  (by simp[splice,S])
 have aM:splice (zs.map (λz=>SV.pv (.lit (.int .i64 z)))++sp) 0 ((n.map λz=>PV.lit (.int .i64 z)).map SV.pv)=n.map (λz=>SV.pv (.lit (.int .i64 z)))++sp:=by
  simp only[splice,WO,TI,S7,TX,T4];rw[WA (by simp[S])];rfl
 rw[aM,S7,S]at hB;have ab:ca g.N o.dst:=by rw[r];exact hd
 cases ad:d with
 |none=>
  rw[ad]at A r;rw[r];exact X _ _ _ w' A t1 hB
 |some dd=>
  rw[ad]at A r;rw[r]at ab⊢;exact X _ _ _ w' A t1 (hB.put ab (sv:=.pv (.bsl b 1 0 m cp)) ⟨rfl,aa,TD hm ah,rfl⟩ trivial rfl)
end Go.AX