/-
  AX, part Bt: a call that writes a slice of a block in place, handed a function that looks at one number of another block.
-/
import Derived.Test.YtepodadinenmnaaGreatZk
namespace Go.AX
theorem cd.introT{P:aa}{st:St}{f gf:az}{d:Option Tmp}{K:St->Prop}{cx x0 W:ae}{args:Array ae}{b b2 cp:Nat}{v:Int}{zs:af}{sp:bj}{R:Option Nat->aT->Prop}
 (hA:qP P f 1 (aU zs) [.fn (.func gf) [] [.iptr 1 [[.lit (.int .i64 v)]] 0 0]] R) (aH:gc st cx) (hcl:b8 st cx=some (f,[],[])) (ha:args.toList=[x0,W]) (aF:gc st x0) (aI:mv st x0=.pv (.bsl b 1 0 zs.length cp))
 (aG:gc st W) (aJ:mv st W=.pv (.fn (.func gf) [] [.ptr b2 0])) (hb:st.h[b]?=some (zs.map (λz=>SV.pv (.lit (.int .i64 z)))++sp)) (aB:st.h[b2]?=some [.pv (.lit (.int .i64 v))]) (aL:b2≠b) (hz:0<zs.length) (a1:zs.length<=1000000)
 (hK:∀k rows,R k rows->∃m n,k=some m∧rows=aU n∧n.length=zs.length∧m<=zs.length∧K (putD d (.pv (.bsl b 1 0 m cp)) ⟨aW (a8 b 0 zs.length) st.t,st.h.set b (n.map (λz=>SV.pv (.lit (.int .i64 z)))++sp)⟩)):cd P st cx args d K:=by
 intro o a2 ho r g a w h hd K' Q X;obtain⟨u,vq,hx,hu,aP⟩:=fZ h aH hcl;have aO:u.toList=[]:=hu;have aQ:vq.toList=[]:=aP;obtain⟨bl,D⟩:=h.own;obtain⟨arr,T,c1,⟨c2,C⟩,c3⟩:=D.blocks b _ hb;obtain⟨i,T2,d1,⟨d2,aA⟩,d3⟩:=D.blocks b2 _ aB;obtain⟨ai,_⟩:=bm h x0 aF;rw[aI]at ai;obtain⟨_,ad,an,au⟩:=ai;obtain⟨aj,_⟩:=bm h W aG;rw[aJ]at aj;obtain⟨_,fa,fb,e1,q,p1,r1,e2,⟨Z,e3⟩,e4⟩:=aj;have aM:r1=[]:=e4;subst aM;have aY:fa.toList=[]:=q;have aC:g.μ b2≠g.μ b:=λe=>aL (h.μinj b2 b Z ad e);have aX:arr.toList.length=zs.length+sp.length:=by rw[Wm,c2];simp
 have aR:arr.toList.take zs.length=zs.map (Value.int .i64):=by
  refine cK (G:=g) ?_;have hF:ax g (zs.map λz=>PV.lit (.int .i64 z)) (arr.toList.take zs.length):=ax.of_get (by rw[VA,Vy];omega) λj y w hy hw=>by
   have hj:j<zs.length:=by have:=(Vp.1 hy).1;simpa using this
   have h1:(zs.map (λz=>SV.pv (.lit (.int .i64 z)))++sp)[j]?=some (.pv y):=by
    rw[Vv (by simpa using hj),VO];rw[VO]at hy;cases aw:zs[j]?with
    |none=>rw[aw]at hy;cases hy
    |some z=>rw[aw]at hy;simp only[Wq,Wc]at hy;subst hy;rfl
   have h2:arr[j]?=some w:=by
    rw[Wg,Vt hj]at hw;rw[←Vw];exact hw
   have h3:=(c3 j _ h1).2.2;rw[VJ,h2]at h3;exact h3
  have:=aK.sing (λv hv=>C v (Wn hv)) hF;rw[Wo]at this;exact this
 have B:arr.toList=[]++zs.map (Value.int .i64)++arr.toList.drop zs.length:=by
  rw[V8,←aR,Wz]
 have s:=dO zs;have ak:ax (oL w (g.μ b)) [.fn (.func gf) [] [.iptr 1 [[.lit (.int .i64 v)]] 0 0]] [a.eval W]:=by
  refine⟨_,[],rfl,⟨fa,fb,e1,q,p1,[],e2,⟨g.μ b2,0,i,T2,(0,0),[.int .i64 v],by rw[e3],?_,?_,?_⟩,rfl⟩,rfl⟩;show(sm w (g.μ b)).heap[g.μ b2]?=_;rw[mF w aC];exact d1;exact⟨[.int .i64 v],[],rfl,⟨rfl,λx hx=>by rw[VY]at hx;subst hx;rfl⟩,⟨_,[],rfl,rfl,rfl⟩,rfl⟩;have h3:=(d3 0 _ rfl).2.2;have hs:i.size=1:=by simpa using d2
  have h4:i.getD 0 undef=.int .i64 v:=h3;have h5:i.toList=[.int .i64 v]:=by
   have hl:i.toList.length=1:=by rw[Wm];exact hs
   match hq:i.toList,hl with
   |[y],_=>
    have:i.getD 0 undef=y:=by
     rw[VJ,←Vw,hq];rfl
    rw[←this,h4]
  rw[h5];exact ZH _
 have Y:(a.eval x0::[a.eval W]).toArray=u++args.map a.eval++vq:=by
  apply WW;simp[aO,aQ,ha]
 have aq:(execOp a.eval o).run P w=.ok (.enter f (u++args.map a.eval++vq)) w:=by
  have p:=hA.1;unfold aV at p;split at p
  case h_2=>cases p
  rename_i fn aE;simp only[VC,Wp]at p;simp only[execOp,ho,resolve,hx,Deferred.ofValue,invoke,callFunc,bD,bN,bK,run_program,aE,p.1,p.2,We,WM]
 have ao:aU zs≠[]:=λe=>by rw[e]at s;simp at s;omega
 have hc:=hA.2.1 ao w (g.μ b) cp arr T [] (zs.map (Value.int .i64)) (arr.toList.drop zs.length) [a.eval W] c1 B (by rw[s];exact an) (by rw[s];unfold maxLen;omega) (eP _ _) ak C;unfold Oper.wp;rw[aq,Oper.upon_enter,←Y,au];rw[s]at hc;refine hc.mono λe9 w' ⟨k,U,aS,hR,aZ,a0,he,aD,ar,L,⟨T',H⟩,J⟩=>?_;obtain⟨m,n,rfl,rfl,S,hm,A⟩:=hK k U hR;have av:aS=n.map (Value.int .i64):=cK (J g (eP g zs));subst av;subst he;have ay:g.μ b<w.heap.size:=(VD.1 c1).1;obtain⟨V,M⟩:∃V:ab,V={w' with heap:=w'.heap.setIfInBounds (g.μ b) (.cells arr T (0,0))}:=⟨_,rfl⟩;have O:∀k,V.heap[k]?=if g.μ b=k then some (.cells arr T (0,0))else w'.heap[k]?:=λk=>by
  subst M;simp only[Wy];split;rename_i e;subst e;rw[Vt (WK ay ar)];rfl
 have F:V.heap.size=w'.heap.size:=by subst M;simp
 have E:cH V=cH w':=by subst M;rfl
 obtain ⟨s1, t1, _⟩ := h.grown (w' := V) (E.trans aD) (by rw [F]; exact ar) (λ k hk => by
  rw[O];split;rename_i e;subst e;exact c1.symm;rename_i e;exact L k hk (λe'=>e e'.symm)) (λ_=>none) (λ_ _ h=>by cases h)
 have hB:=s1.blockWrite (k0:=0) (ys:=n.map λz=>PV.lit (.int .i64 z)) (vs:=n.map (Value.int .i64)) (arr:=arr) (T:=T) (arr':=([]++n.map (Value.int .i64)++arr.toList.drop zs.length).toArray) (w':=w') hb (by simp;omega) (by show V.heap[g.μ b]?=_;rw[O,Vt rfl])
  (by
   have:∀l:af,ax {g with I:=λc=>if w.heap.size<=c then(none:Option Obj)else g.I c} (l.map λz=>PV.lit (.int .i64 z)) (l.map (Value.int .i64)):=λl=>by
    induction l with
    |nil=>rfl
    |cons z l ih=>exact⟨_,_,rfl,rfl,ih⟩
   exact this n)
  (λv hv=>by obtain⟨z,_,rfl⟩:=VB.1 hv;rfl) E.symm F.symm (λc hc=>by rw[O,Vs (λe=>hc e.symm)]) ⟨T',H⟩
  (by simp[splice,S])
 have aN:splice (zs.map (λz=>SV.pv (.lit (.int .i64 z)))++sp) 0 ((n.map λz=>PV.lit (.int .i64 z)).map SV.pv)=n.map (λz=>SV.pv (.lit (.int .i64 z)))++sp:=by
  simp only[splice,Zb,V8,VA,Wo,Wr];rw[Zp (by simp[S])];rfl
 rw[aN,VA,S]at hB;have ag:cX g.N o.dst:=by rw[r];exact hd
 cases ah:d with
 |none=>
  rw[ah]at A r;rw[r];exact X _ _ _ w' A t1 hB
 |some dd=>
  rw[ah]at A r;rw[r]at ag⊢;exact X _ _ _ w' A t1 (hB.put ag (sv:=.pv (.bsl b 1 0 m cp)) ⟨rfl,ad,Wb hm an,rfl⟩ trivial rfl)
end Go.AX
