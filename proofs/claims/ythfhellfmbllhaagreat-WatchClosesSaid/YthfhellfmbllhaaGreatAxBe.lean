/-
  AX, part XD: a call that leaves certain blocks; its own are let go.
  AX, part Be: what names blocks below a number only.
-/
import Derived.Test.YthfhellfmbllhaaGreatAxIs
namespace Go.AX
theorem amutXD {P:Program} (bad:List Nat) {f:FuncId} {fn:Func} {c:Code} {args:List PV} {h:List (List SV)} {R:SV→Prop} (rs:List ResultVar) (h1:List (List SV)) (hl:h.length≤h1.length) (hbl:belowH h.length h→belowH h1.length h1) (hmo:P.follows .mixedOrders=true) (hf:P.funcs[f]?=some fn) (hcall:callable P f=true) (hb:fn.body=some c)
 (hr:fn.results=rs.toArray) (hok:okC fn.ntmps bad c=true) (hn:args.length≤fn.ntmps) (hA:AC P h.length bad c (endQ (retXP P rs h1 R)) ⟨argT 0 args,h⟩):AMut P f args h (fun r h'=>h'=h1∧R r):=by
 refine⟨hcall,fun g st a w vs hs hh hv=>?_⟩;have hbel:belowH h1.length h1:=hbl (by have:=hs.belH;rwa [hs.n,hh]at this);have key:=amut_of (R:=fun r h'=>h'=h1∧R r) hmo hf hcall hb hok hn hA fun g' st' a' w' hk hn0 s'=>?_
 ·exact key.2 g st a w vs hs hh hv
 ·obtain⟨k1,k2,k3,k4⟩:=hk;obtain⟨g2,t2,l2,n2,s2,vs2,e2,f2⟩:=resL_ok rs s' k1;obtain⟨v,e3,f3⟩:=results_run hr (resL_len rs st') e2 f2;have s3:=s2.weak (st':=⟨[],(resL P st' rs).2.1.h⟩) rfl fun s=>.inr rfl;obtain⟨t4,s4⟩:=Sim.dropB (st:=⟨[],(resL P st' rs).2.1.h⟩) (h1:=h1) k2 (ht:=trivial) hbel (hs:=s3) (h0:=by rw[t2.n0];exact Nat.le_trans hn0 hl);obtain⟨bl4,hb4⟩:=s4.own;exact⟨v,_,_,_,bl4,none,e3,t2.trans t4,s4,hb4,⟨rfl,k4⟩,⟨rfl,Fit.below _ _ k3 f3⟩,rfl,fun c hc=>by cases hc⟩
theorem Weak.keep {k0:Nat} {st:St} {t1:List (Nat×SV)} {h1:List (List SV)} (h:wkL st.t t1) (hh:st.h=h1):Weak k0 st ⟨t1,h1⟩:=hh▸Weak.slots h
theorem Weak.nilCell {k0:Nat} {st:St} {b k:Nat} {xs:List SV} (e:Nat) (nw:Bool) (hx:st.h[b]?=some xs) (hk:xs[k]?=some (.pv (.lit (.slice none 0 0)))):Weak k0 st ⟨killL (qCells b k 1) st.t,st.h.set b (xs.set k (.own nw e []))⟩:=fun g a w _ hs=>by
 obtain⟨bl,hb⟩:=hs.own;have hkl:k<xs.length:=(List.getElem?_eq_some_iff.1 hk).1;obtain⟨arr,T,e1,e2,e3⟩:=hb.blocks b xs hx;have h4:=(e3 k _ hk).2;have hv:posVal g a w (.cell b k)=.slice none 0 0:=by
  simp only[posVal,e1];exact h4.2
 exact⟨g,hs.refl_to,(hs.adopt hb hx hkl (sv:=.own nw e []) (o:=none) (.inl ⟨rfl,rfl,hv⟩) rfl (fun c hc=>by cases hc)).1⟩
end Go.AX
namespace Go.AX
mutual
theorem PV.bel_up {k k':Nat} (hk:k≤k'):∀x:PV,x.bel k→x.bel k'
  |.bot,_=>trivial
  |.lit _,_=>trivial
  |.agg xs,h=>belowL_up hk xs h
  |.tup xs,h=>belowL_up hk xs h
  |.seq _ _ rows,h=>belowR_up hk rows h
  |.iptr _ rows _ _,h=>belowR_up hk rows h
  |.ptr _ _,h=>Nat.lt_of_lt_of_le h hk
  |.bsl _ _ _ _ _,h=>Nat.lt_of_lt_of_le h hk
  |.fn _ first cap,h=>⟨belowL_up hk first h.1,belowL_up hk cap h.2⟩
  |.amap _ es,h=>belowE_up hk es h
  |.ifc _ x,h=>PV.bel_up hk x h
theorem belowL_up {k k':Nat} (hk:k≤k'):∀xs:List PV,belowL k xs→belowL k' xs
  |[],_=>trivial
  |x::xs,h=>⟨PV.bel_up hk x h.1,belowL_up hk xs h.2⟩
theorem belowR_up {k k':Nat} (hk:k≤k'):∀xs:List (List PV),belowR k xs→belowR k' xs
  |[],_=>trivial
  |x::xs,h=>⟨belowL_up hk x h.1,belowR_up hk xs h.2⟩
theorem belowE_up {k k':Nat} (hk:k≤k'):∀xs:List (Int×PV),belowE k xs→belowE k' xs
  |[],_=>trivial
  |(_,x)::xs,h=>⟨PV.bel_up hk x h.1,belowE_up hk xs h.2⟩
end
theorem SV.bel_up {k k':Nat} (hk:k≤k'):∀x:SV,x.bel k→x.bel k'
 |.pv x,h=>PV.bel_up hk x h
 |.own _ _ rows,h=>belowR_up hk rows h
 |.omap _ es,h=>belowE_up hk es h
 |.opt _ x,h=>SV.bel_up hk x h
 |.agl xs,h=>belowL_up hk _ h
 |.al _,_=>trivial
 |.loc _ _ _,_=>trivial
 |.sptr _ _ _,_=>trivial
theorem belowC_up {k k':Nat} (hk:k≤k'):∀xs:List SV,belowC k xs→belowC k' xs
 |[],_=>trivial
 |x::xs,h=>⟨SV.bel_up hk x h.1,belowC_up hk xs h.2⟩
theorem belowH_up {k k':Nat} (hk:k≤k'):∀xs:List (List SV),belowH k xs→belowH k' xs
 |[],_=>trivial
 |x::xs,h=>⟨belowC_up hk x h.1,belowH_up hk xs h.2⟩
theorem belowH_app {k:Nat}:∀{a b:List (List SV)},belowH k a→belowH k b→belowH k (a++b)
 |[],_,_,h=>h
 |_::_,_,h,h'=>⟨h.1,belowH_app h.2 h'⟩
theorem AMut.below {P:Program} {f:FuncId} {args:List PV} {h:List (List SV)} {R:SV→List (List SV)→Prop} (hc:callable P f=true) (hb:belowH h.length h→AMut P f args h R):AMut P f args h R:=
 ⟨hc,fun g st a w vs hs hh hv=>(hb (by have:=hs.belH;rwa [hs.n,hh]at this)).2 g st a w vs hs hh hv⟩
end Go.AX