/-
  AX, part Bt: a call that writes a slice of a block in place, handed a function that looks at one number of another block.
-/
import Derived.Test.YtepodadinenmnaaGreatAxTb
import Derived.Test.YtepodadinenmnaaGreatAxBM
import Derived.Test.YtepodadinenmnaaGreatAxFz
namespace Go.AX
theorem dg.introT{P:Program}{st:St}{f gf:FuncId}{d:Option Tmp}{K:St→Prop}{cx x0 x1:Operand}{args:Array Operand}{b b2 cp:Nat}{v:Int}{zs:List Int}{sp:List SV}{R:Option Nat→List (List PV)→Prop}
 (hA:tT P f 1 (az zs) [.fn (.func gf) [] [.iptr 1 [[.lit (.int .i64 v)]] 0 0]] R) (hgc:gc st cx) (hcl:bv st cx=some (f,[],[])) (ha:args.toList=[x0,x1]) (hg0:gc st x0) (hm0:mv st x0=.pv (.bsl b 1 0 zs.length cp))
 (hg1:gc st x1) (hm1:mv st x1=.pv (.fn (.func gf) [] [.ptr b2 0])) (hb:st.h[b]?=some (zs.map (fun z=>SV.pv (.lit (.int .i64 z)))++sp)) (hb2:st.h[b2]?=some [.pv (.lit (.int .i64 v))]) (hne:b2≠b) (hz:0<zs.length) (hz2:zs.length≤1000000)
 (hK:∀k rows,R k rows→∃m zs',k=some m∧rows=az zs'∧zs'.length=zs.length∧m≤zs.length∧K (putD d (.pv (.bsl b 1 0 m cp)) ⟨aA (aC b 0 zs.length) st.t,st.h.set b (zs'.map (fun z=>SV.pv (.lit (.int .i64 z)))++sp)⟩)):dg P st cx args d K:=by
 intro o tys ho hdd g a w h hd K' Q hKK;obtain⟨u,vq,hx,hu,hv'⟩:=ea h hgc hcl;have hu0:u.toList=[]:=hu;have hv0:vq.toList=[]:=hv';obtain⟨bl,hown⟩:=h.own;obtain⟨arr,T,c1,⟨c2,cone⟩,c3⟩:=hown.blocks b _ hb;obtain⟨arr2,T2,d1,⟨d2,done2⟩,d3⟩:=hown.blocks b2 _ hb2;obtain⟨hf0,_⟩:=aL h x0 hg0;rw[hm0]at hf0;obtain⟨_,hbn,hnc,hv0'⟩:=hf0;obtain⟨hf1,_⟩:=aL h x1 hg1;rw[hm1]at hf1;obtain⟨_,fa,fb,e1,hfirst,p1,r1,e2,⟨hb2n,e3⟩,e4⟩:=hf1;have hr1:r1=[]:=e4;subst hr1;have hfa:fa.toList=[]:=hfirst;have hcc:g.μ b2≠g.μ b:=fun e=>hne (h.μinj b2 b hb2n hbn e);have hal:arr.toList.length=zs.length+sp.length:=by rw[Array.length_toList,c2];simp
 have hvs:arr.toList.take zs.length=zs.map (Value.int .i64):=by
  refine bC (G:=g) ?_;have hF:ai g (zs.map fun z=>PV.lit (.int .i64 z)) (arr.toList.take zs.length):=ai.of_get (by rw[List.length_map,List.length_take];omega) fun j y w hy hw=>by
   have hj:j<zs.length:=by have:=(List.getElem?_eq_some_iff.1 hy).1;simpa using this
   have h1:(zs.map (fun z=>SV.pv (.lit (.int .i64 z)))++sp)[j]?=some (.pv y):=by
    rw[List.getElem?_append_left (by simpa using hj),List.getElem?_map];rw[List.getElem?_map]at hy;cases hz3:zs[j]?with
    |none=>rw[hz3]at hy;cases hy
    |some z=>rw[hz3]at hy;simp only[Option.map_some,Option.some.injEq]at hy;subst hy;rfl
   have h2:arr[j]?=some w:=by
    rw[List.getElem?_take,if_pos hj]at hw;rw[←Array.getElem?_toList];exact hw
   have h3:=(c3 j _ h1).2.2;rw[Array.getD_eq_getD_getElem?,h2]at h3;exact h3
  have:=au.sing (fun v hv=>cone v (List.mem_of_mem_take hv)) hF;rw[List.map_map]at this;exact this
 have hsplit:arr.toList=[]++zs.map (Value.int .i64)++arr.toList.drop zs.length:=by
  rw[List.nil_append,←hvs,List.take_append_drop]
 have hil:=cL zs;have hfit:ai (vm w (g.μ b)) [.fn (.func gf) [] [.iptr 1 [[.lit (.int .i64 v)]] 0 0]] [a.eval x1]:=by
  refine⟨_,[],rfl,⟨fa,fb,e1,hfirst,p1,[],e2,⟨g.μ b2,0,arr2,T2,(0,0),[.int .i64 v],by rw[e3],?_,?_,?_⟩,rfl⟩,rfl⟩
  ·show(oe w (g.μ b)).heap[g.μ b2]?=_;rw[jr w hcc];exact d1
  ·exact⟨[.int .i64 v],[],rfl,⟨rfl,fun x hx=>by rw[List.mem_singleton]at hx;subst hx;rfl⟩,⟨_,[],rfl,rfl,rfl⟩,rfl⟩
  ·have h3:=(d3 0 _ rfl).2.2;have hs:arr2.size=1:=by simpa using d2
   have h4:arr2.getD 0 undef=.int .i64 v:=h3;have h5:arr2.toList=[.int .i64 v]:=by
    have hl:arr2.toList.length=1:=by rw[Array.length_toList];exact hs
    match hq:arr2.toList,hl with
    |[y],_=>
     have:arr2.getD 0 undef=y:=by
      rw[Array.getD_eq_getD_getElem?,←Array.getElem?_toList,hq];rfl
     rw[←this,h4]
   rw[h5];exact List.prefix_refl _
 have harr:(a.eval x0::[a.eval x1]).toArray=u++args.map a.eval++vq:=by
  apply Array.ext';simp[hu0,hv0,ha]
 have hrun:(execOp a.eval o).run P w=.ok (.enter f (u++args.map a.eval++vq)) w:=by
  have hcal:=hA.1;unfold aB at hcal;split at hcal
  case h_2=>cases hcal
  rename_i fn hfn;simp only[Bool.and_eq_true,Bool.not_eq_true']at hcal;simp only[execOp,ho,resolve,hx,Deferred.ofValue,invoke,callFunc,Sem.run_bind,Sem.run_pure,Result.andThen_ok,run_program,hfn,hcal.1,hcal.2,Bool.false_eq_true,if_false]
 have hne0:az zs≠[]:=fun e=>by rw[e]at hil;simp at hil;omega
 have hc:=hA.2.1 hne0 w (g.μ b) cp arr T [] (zs.map (Value.int .i64)) (arr.toList.drop zs.length) [a.eval x1] c1 hsplit (by rw[hil];exact hnc) (by rw[hil];unfold maxLen;omega) (dA _ _) hfit cone;unfold Oper.wp;rw[hrun,Oper.upon_enter,←harr,hv0'];rw[hil]at hc;refine hc.mono fun e9 w' ⟨k,rows',vs',hR,hl',hmm,he,hen,hsz,hkeep,⟨T',hcell⟩,hfit'⟩=>?_;obtain⟨m,zs',rfl,rfl,hzl,hm,hKm⟩:=hK k rows' hR;have hvs':vs'=zs'.map (Value.int .i64):=bC (hfit' g (dA g zs));subst hvs';subst he;have clt:g.μ b<w.heap.size:=(Array.getElem?_eq_some_iff.1 c1).1;obtain⟨w1,hw1⟩:∃w1:World,w1={w' with heap:=w'.heap.setIfInBounds (g.μ b) (.cells arr T (0,0))}:=⟨_,rfl⟩;have hwh:∀k,w1.heap[k]?=if g.μ b=k then some (.cells arr T (0,0))else w'.heap[k]?:=fun k=>by
  subst hw1;simp only[Array.getElem?_setIfInBounds];split
  ·rename_i e;subst e;rw[if_pos (Nat.lt_of_lt_of_le clt hsz)]
  ·rfl
 have hw1s:w1.heap.size=w'.heap.size:=by subst hw1;simp
 have hw1e:bX w1=bX w':=by subst hw1;rfl
 obtain ⟨s1, t1, _⟩ := h.grown (w' := w1) (hw1e.trans hen) (by rw [hw1s]; exact hsz) (fun k hk => by
  rw[hwh];split
  ·rename_i e;subst e;exact c1.symm
  ·rename_i e;exact hkeep k hk (fun e'=>e e'.symm)) (fun _=>none) (fun _ _ h=>by cases h)
 have hB:=s1.blockWrite (k0:=0) (ys:=zs'.map fun z=>PV.lit (.int .i64 z)) (vs:=zs'.map (Value.int .i64)) (arr:=arr) (T:=T) (arr':=([]++zs'.map (Value.int .i64)++arr.toList.drop zs.length).toArray) (w':=w') hb (by simp;omega) (by show w1.heap[g.μ b]?=_;rw[hwh,if_pos rfl])
  (by
   have:∀l:List Int,ai {g with I:=fun c=>if w.heap.size≤c then(none:Option Obj)else g.I c} (l.map fun z=>PV.lit (.int .i64 z)) (l.map (Value.int .i64)):=fun l=>by
    induction l with
    |nil=>rfl
    |cons z l ih=>exact⟨_,_,rfl,rfl,ih⟩
   exact this zs')
  (fun v hv=>by obtain⟨z,_,rfl⟩:=List.mem_map.1 hv;rfl) hw1e.symm hw1s.symm (fun c hc=>by rw[hwh,if_neg (fun e=>hc e.symm)]) ⟨T',hcell⟩
  (by simp[splice,hzl])
 have hsp:splice (zs.map (fun z=>SV.pv (.lit (.int .i64 z)))++sp) 0 ((zs'.map fun z=>PV.lit (.int .i64 z)).map SV.pv)=zs'.map (fun z=>SV.pv (.lit (.int .i64 z)))++sp:=by
  simp only[splice,List.take_zero,List.nil_append,List.length_map,List.map_map,Nat.zero_add];rw[List.drop_left' (by simp[hzl])];rfl
 rw[hsp,List.length_map,hzl]at hB;have hd1:bR g.N o.dst:=by rw[hdd];exact hd
 cases hd2:d with
 |none=>
  rw[hd2]at hKm hdd;rw[hdd];exact hKK _ _ _ w' hKm t1 hB
 |some dd=>
  rw[hd2]at hKm hdd;rw[hdd]at hd1⊢;exact hKK _ _ _ w' hKm t1 (hB.put hd1 (sv:=.pv (.bsl b 1 0 m cp)) ⟨rfl,hbn,Nat.le_trans hm hnc,rfl⟩ trivial rfl)
end Go.AX