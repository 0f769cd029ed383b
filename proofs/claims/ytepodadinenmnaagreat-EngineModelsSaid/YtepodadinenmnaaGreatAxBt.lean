/-
  AX, part Bt: a call that writes a slice of a block in place, handed a function that looks at one number of another block.
-/
import Derived.Test.YtepodadinenmnaaGreatAxTb
import Derived.Test.YtepodadinenmnaaGreatAxIs
namespace Go.AX
theorem bC.introT{P:Program}{st:St}{f gf:FuncId}{d:Option Tmp}{K:St->Prop}{cx x0 W:Operand}{args:Array Operand}{b b2 cp:Nat}{v:Int}{zs:List Int}{sp:List SV}{R:Option Nat->List (List PV)->Prop}
 (hA:wx P f 1 (aD zs) [.fn (.func gf) [] [.iptr 1 [[.lit (.int .i64 v)]] 0 0]] R) (aH:gc st cx) (az:bB st cx=some (f,[],[])) (ha:args.toList=[x0,W]) (aC:gc st x0) (aJ:mv st x0=.pv (.bsl b 1 0 zs.length cp))
 (aE:gc st W) (aK:mv st W=.pv (.fn (.func gf) [] [.ptr b2 0])) (hb:st.h[b]?=some (zs.map (λz=>SV.pv (.lit (.int .i64 z)))++sp)) (aw:st.h[b2]?=some [.pv (.lit (.int .i64 v))]) (aL:b2≠b) (hz:0<zs.length) (aY:zs.length<=1000000)
 (hK:∀k rows,R k rows->∃m n,k=some m∧rows=aD n∧n.length=zs.length∧m<=zs.length∧K (putD d (.pv (.bsl b 1 0 m cp)) ⟨aF (aI b 0 zs.length) st.t,st.h.set b (n.map (λz=>SV.pv (.lit (.int .i64 z)))++sp)⟩)):bC P st cx args d K:=by
 intro o aZ ho r g a w h hd K' Q X;obtain⟨u,vq,hx,hu,aQ⟩:=fj h aH az;have aP:u.toList=[]:=hu;have aR:vq.toList=[]:=aQ;obtain⟨bl,D⟩:=h.own;obtain⟨arr,T,c1,⟨c2,C⟩,c3⟩:=D.blocks b _ hb;obtain⟨i,T2,d1,⟨d2,av⟩,d3⟩:=D.blocks b2 _ aw;obtain⟨ae,_⟩:=aN h x0 aC;rw[aJ]at ae;obtain⟨_,aa,ah,ao⟩:=ae;obtain⟨af,_⟩:=aN h W aE;rw[aK]at af;obtain⟨_,fa,fb,e1,q,p1,r1,e2,⟨Z,e3⟩,e4⟩:=af;have aM:r1=[]:=e4;subst aM;have aV:fa.toList=[]:=q;have ax:g.μ b2≠g.μ b:=λe=>aL (h.μinj b2 b Z aa e);have aU:arr.toList.length=zs.length+sp.length:=by rw[Sy,c2];simp
 have aS:arr.toList.take zs.length=zs.map (Value.int .i64):=by
  refine bT (G:=g) ?_;have hF:ak g (zs.map λz=>PV.lit (.int .i64 z)) (arr.toList.take zs.length):=ak.of_get (by rw[RR,RN];omega) λj y w hy hw=>by
   have hj:j<zs.length:=by have:=(RE.1 hy).1;simpa using this
   have h1:(zs.map (λz=>SV.pv (.lit (.int .i64 z)))++sp)[j]?=some (.pv y):=by
    rw[RL (by simpa using hj),R3];rw[R3]at hy;cases ar:zs[j]?with
    |none=>rw[ar]at hy;cases hy
    |some z=>rw[ar]at hy;simp only[SH,Sr]at hy;subst hy;rfl
   have h2:arr[j]?=some w:=by
    rw[SM,RI hj]at hw;rw[←RM];exact hw
   have h3:=(c3 j _ h1).2.2;rw[RX,h2]at h3;exact h3
  have:=ay.sing (λv hv=>C v (Sx hv)) hF;rw[SJ]at this;exact this
 have B:arr.toList=[]++zs.map (Value.int .i64)++arr.toList.drop zs.length:=by
  rw[Sj,←aS,SI]
 have s:=da zs;have ag:ak (oM w (g.μ b)) [.fn (.func gf) [] [.iptr 1 [[.lit (.int .i64 v)]] 0 0]] [a.eval W]:=by
  refine⟨_,[],rfl,⟨fa,fb,e1,q,p1,[],e2,⟨g.μ b2,0,i,T2,(0,0),[.int .i64 v],by rw[e3],?_,?_,?_⟩,rfl⟩,rfl⟩
  .show(p6 w (g.μ b)).heap[g.μ b2]?=_;rw[kZ w ax];exact d1
  .exact⟨[.int .i64 v],[],rfl,⟨rfl,λx hx=>by rw[Sp]at hx;subst hx;rfl⟩,⟨_,[],rfl,rfl,rfl⟩,rfl⟩
  .have h3:=(d3 0 _ rfl).2.2;have hs:i.size=1:=by simpa using d2
   have h4:i.getD 0 undef=.int .i64 v:=h3;have h5:i.toList=[.int .i64 v]:=by
    have hl:i.toList.length=1:=by rw[Sy];exact hs
    match hq:i.toList,hl with
    |[y],_=>
     have:i.getD 0 undef=y:=by
      rw[RX,←RM,hq];rfl
     rw[←this,h4]
   rw[h5];exact VE _
 have Y:(a.eval x0::[a.eval W]).toArray=u++args.map a.eval++vq:=by
  apply TO;simp[aP,aR,ha]
 have aj:(execOp a.eval o).run P w=.ok (.enter f (u++args.map a.eval++vq)) w:=by
  have p:=hA.1;unfold aG at p;split at p
  case h_2=>cases p
  rename_i fn aB;simp only[RQ,Sw]at p;simp only[execOp,ho,resolve,hx,Deferred.ofValue,invoke,callFunc,Sem.run_bind,Sem.run_pure,Result.andThen_ok,run_program,aB,p.1,p.2,Ss,S8]
 have ai:aD zs≠[]:=λe=>by rw[e]at s;simp at s;omega
 have hc:=hA.2.1 ai w (g.μ b) cp arr T [] (zs.map (Value.int .i64)) (arr.toList.drop zs.length) [a.eval W] c1 B (by rw[s];exact ah) (by rw[s];unfold maxLen;omega) (dX _ _) ag C;unfold Oper.wp;rw[aj,Oper.upon_enter,←Y,ao];rw[s]at hc;refine hc.mono λe9 w' ⟨k,U,aT,hR,aW,aX,he,aA,an,L,⟨T',H⟩,J⟩=>?_;obtain⟨m,n,rfl,rfl,S,hm,A⟩:=hK k U hR;have aq:aT=n.map (Value.int .i64):=bT (J g (dX g zs));subst aq;subst he;have au:g.μ b<w.heap.size:=(RV.1 c1).1;obtain⟨V,M⟩:∃V:World,V={w' with heap:=w'.heap.setIfInBounds (g.μ b) (.cells arr T (0,0))}:=⟨_,rfl⟩;have O:∀k,V.heap[k]?=if g.μ b=k then some (.cells arr T (0,0))else w'.heap[k]?:=λk=>by
  subst M;simp only[SG];split
  .rename_i e;subst e;rw[RI (SZ au an)]
  .rfl
 have F:V.heap.size=w'.heap.size:=by subst M;simp
 have E:bU V=bU w':=by subst M;rfl
 obtain ⟨s1, t1, _⟩ := h.grown (w' := V) (E.trans aA) (by rw [F]; exact an) (λ k hk => by
  rw[O];split
  .rename_i e;subst e;exact c1.symm
  .rename_i e;exact L k hk (λe'=>e e'.symm)) (λ_=>none) (λ_ _ h=>by cases h)
 have hB:=s1.blockWrite (k0:=0) (ys:=n.map λz=>PV.lit (.int .i64 z)) (vs:=n.map (Value.int .i64)) (arr:=arr) (T:=T) (arr':=([]++n.map (Value.int .i64)++arr.toList.drop zs.length).toArray) (w':=w') hb (by simp;omega) (by show V.heap[g.μ b]?=_;rw[O,RI rfl])
  (by
   have:∀l:List Int,ak {g with I:=λc=>if w.heap.size<=c then(none:Option Obj)else g.I c} (l.map λz=>PV.lit (.int .i64 z)) (l.map (Value.int .i64)):=λl=>by
    induction l with
    |nil=>rfl
    |cons z l ih=>exact⟨_,_,rfl,rfl,ih⟩
   exact this n)
  (λv hv=>by obtain⟨z,_,rfl⟩:=RO.1 hv;rfl) E.symm F.symm (λc hc=>by rw[O,RH (λe=>hc e.symm)]) ⟨T',H⟩
  (by simp[splice,S])
 have aO:splice (zs.map (λz=>SV.pv (.lit (.int .i64 z)))++sp) 0 ((n.map λz=>PV.lit (.int .i64 z)).map SV.pv)=n.map (λz=>SV.pv (.lit (.int .i64 z)))++sp:=by
  simp only[splice,Vy,Sj,RR,SJ,SF];rw[VL (by simp[S])];rfl
 rw[aO,RR,S]at hB;have ab:cg g.N o.dst:=by rw[r];exact hd
 cases ad:d with
 |none=>
  rw[ad]at A r;rw[r];exact X _ _ _ w' A t1 hB
 |some dd=>
  rw[ad]at A r;rw[r]at ab⊢;exact X _ _ _ w' A t1 (hB.put ab (sv:=.pv (.bsl b 1 0 m cp)) ⟨rfl,aa,Sn hm ah,rfl⟩ trivial rfl)
end Go.AX