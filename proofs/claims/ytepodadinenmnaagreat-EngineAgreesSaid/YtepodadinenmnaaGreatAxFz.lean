/-
  AX, part IS: slices.Insert of one number at the front of a part of a slice that has room, from the library's contract: in place.
  AX, part Fz: a call's own blocks, let go, are read from then on and written no more.
-/
import Derived.Test.YtepodadinenmnaaGreatAxBM
import Derived.Shelf.Spec.SlicesInsert
namespace Go.AX
open Go.Proofs Go.Shelf
theorem fP(c:Nat):∀(vs:List Value)(o:Nat)(w:World)(arr:Array Value)(T:TypeId)(fz:Nat×Nat),w.heap[c]?=some (.cells arr T fz)→o+vs.length≤arr.size→
 (w.setCells c o vs).heap[c]?=some (.cells (arr.toList.take o++vs++arr.toList.drop (o+vs.length)).toArray T fz)∧(∀k,k≠c→(w.setCells c o vs).heap[k]?=w.heap[k]?)∧(w.setCells c o vs).heap.size=w.heap.size∧bX (w.setCells c o vs)=bX w
 |[],o,w,arr,T,fz,h,hl=>by
  refine⟨?_,fun _ _=>rfl,rfl,rfl⟩;rw[World.setCells,h];simp
 |v::r,o,w,arr,T,fz,h,hl=>by
  simp only[List.length_cons]at hl;have hlt:c<w.heap.size:=(Array.getElem?_eq_some_iff.1 h).1;have h1:(w.setCell ⟨c,o,none⟩ v).heap[c]?=some (.cells (arr.setIfInBounds o v) T fz):=by
   show(w.heap.modify c _)[c]?=_;rw[Array.getElem?_modify,if_pos rfl,h];simp
  have h2:∀k,k≠c→(w.setCell ⟨c,o,none⟩ v).heap[k]?=w.heap[k]?:=fun k hk=>by
   show(w.heap.modify c _)[k]?=_;rw[Array.getElem?_modify,if_neg (Ne.symm hk)]
  have h3:(w.setCell ⟨c,o,none⟩ v).heap.size=w.heap.size:=by
   show(w.heap.modify c _).size=_;rw[Array.size_modify]
  obtain⟨g1,g2,g3,g4⟩:=fP c r (o+1) (w.setCell ⟨c,o,none⟩ v) _ T fz h1 (by simp;omega);rw[World.setCells];refine⟨?_,fun k hk=>(g2 k hk).trans (h2 k hk),g3.trans h3,g4.trans rfl⟩;rw[g1];congr 2;simp only[Array.toList_setIfInBounds,List.length_cons];have hsz:arr.toList.length=arr.size:=Array.length_toList;have ho:o<arr.toList.length:=by omega
  have hto:(arr.toList.take o).length=o:=by rw[List.length_take];omega
  have e1:(arr.toList.set o v).take (o+1)=arr.toList.take o++[v]:=by
   rw[List.set_eq_take_append_cons_drop,if_pos ho,List.take_append,hto,List.take_of_length_le (by omega),Nat.add_sub_cancel_left];rfl
  have e2:(arr.toList.set o v).drop (o+1+r.length)=arr.toList.drop (o+(r.length+1)):=by
   rw[List.drop_set_of_lt (by omega)];congr 1;omega
  rw[e1,e2];simp
theorem cL(l:List Int):(az l).length=l.length:=by unfold az;simp
theorem qX{l:List Value}{xs:List Value}(h:xs<+:l){j:Nat}{v:Value}(hj:xs[j]?=some v):l[j]?=some v:=by
 obtain⟨r,rfl⟩:=h;rw[List.getElem?_append_left (List.getElem?_eq_some_iff.1 hj).1];exact hj
theorem dg.introI{P:Program}{ρ:Ren}(L:Lays2.n21 P ρ)(hcal:aB P (ρ.f 21)=true){st:St}{d:Option Tmp}{K:St→Prop}{cx:Operand}{args:Array Operand}{x0 k y:Operand}{ps py:Pos}{hi:Nat}{zs:List Int}{nw nw2:Bool}{x:Int}
    (hgc:gc st cx) (hcl:bv st cx=some (ρ.f 21,[],[])) (ha:args.toList=[x0,k,y]) (hp:partOf st x0=some (ps,0,hi)) (hg0:gc st x0) (hgk:gc st k) (hk:mv st k=.pv (.lit (.int .i64 0))) (hgy:gc st y) (hy:partOf st y=some (py,0,1))
    (hpy:aa st py=.own nw2 1 (az [x])) (hne:ps≠py) (hps:aa st ps=.own nw 1 (az zs)) (hroom:hi<zs.length)
    (hK:K (Bf d (some (hi+1)) ps 0 (setPos st ps (.own nw 1 (az (x::(zs.take hi++zs.drop (hi+1)))))))):dg P st cx args d K:=by
  intro o tys ho hdd g a w h hd K' Q hKK
  obtain⟨u,v,hx,hu,hv'⟩:=ea h hgc hcl
  have hu0:u=#[]:=Array.ext' hu
  have hv0:v=#[]:=Array.ext' hv'
  subst hu0 hv0
  obtain⟨bl,hb⟩:=h.own
  have hown:(aa st ps).isOwn=true:=by rw[hps];rfl
  have howny:(aa st py).isOwn=true:=by rw[hpy];rfl
  -- the slice
  obtain⟨nw1,e1,rows1,hpo,j1,j2,q0,cap,jv,jc,_,jz⟩:=lC h hg0 hp
  rw[hps]at hpo;cases hpo
  obtain⟨n0,hn0⟩:=jz rfl
  have hfp:=aX hb hown
  rw[hps]at hfp
  rcases hfp with⟨_,hnil,_⟩|⟨c,hbc,cap',arr,T,vs,f1,f2,f3,f4,f5,f6,f7⟩
  · have:=congrArg List.length hnil
    rw[cL,List.length_nil]at this
    omega
  rw[f1]at hn0
  cases hn0
  have hvs:=bC f5
  subst hvs
  have hil:(az zs).length=zs.length:=by unfold az;simp
  rw[hil]at f4
  have hasz:arr.toList.length=arr.size:=Array.length_toList
  -- the number
  obtain⟨nw3,e3,rows3,hpo3,_,_,qy,capy,jvy,_,_,jzy⟩:=lC h hgy hy
  rw[hpy]at hpo3;cases hpo3
  obtain⟨n1,hn1⟩:=jzy rfl
  have hfy:=aX hb howny
  rw[hpy]at hfy
  rcases hfy with⟨_,hnil,_⟩|⟨c2,hbc2,cap2,arr2,T2,vs2,y1,y2,y3,y4,y5,y6,y7⟩
  · simp[az]at hnil
  rw[y1]at hn1
  cases hn1
  have hvs2:=bC y5
  subst hvs2
  have hcc:c2≠c:=fun e=>hne (hb.inj ps py c hbc (e▸hbc2))
  -- the place
  have hkv:a.eval k=.int .i64 0:=by
    obtain⟨hf,_⟩:=aL h k hgk
    rw[hk]at hf
    exact hf.2
  have harr:(#[]++args.map a.eval++#[])=#[.slice (some ⟨c,0,none⟩) (hi -0) cap,.int .i64 0,.slice (some ⟨c2,0,none⟩) 1 capy]:=by
    apply Array.ext'
    simp[ha,jv,hkv,jvy]
  have hrun:(execOp a.eval o).run P w=.ok (.enter (ρ.f 21) (#[]++args.map a.eval++#[])) w:=by
    unfold aB at hcal
    split at hcal
    case h_2=>cases hcal
    rename_i fn hfn
    simp only[Bool.and_eq_true,Bool.not_eq_true']at hcal
    simp only[execOp,ho,resolve,hx,Deferred.ofValue,invoke,callFunc,Sem.run_bind,Sem.run_pure,Result.andThen_ok,run_program,hfn,hcal.1,hcal.2,Bool.false_eq_true,if_false]
  have hc63:cap≤9223372036854775807:=by have:=f4.2.1;unfold maxLen at this;omega
  have hcell:∀j v,((zs.take hi).map (Value.int .i64))[j]?=some v→w.cell? ⟨c,0+j,none⟩=some v:=fun j v hj=>by
    rw[Nat.zero_add,cell_of f2,←Array.getElem?_toList]
    refine qX f6 ?_
    rw[List.getElem?_map]at hj⊢
    by_cases e:j<hi
    · rw[List.getElem?_take,if_pos e]at hj
      exact hj
    · rw[List.getElem?_take,if_neg e]at hj
      simp at hj
  have hsome:∀j,j<hi+1→(w.cell? ⟨c,0+j,none⟩).isSome=true:=fun j hj=>by
    rw[Nat.zero_add,cell_of f2,Array.getElem?_eq_getElem (by omega)];rfl
  have hfr:∀j,w.frozen? ⟨c,j,none⟩=false:=fun j=>by simp[World.frozen?,f2]
  have hfr2:∀j,w.frozen? ⟨c2,j,none⟩=false:=fun j=>by simp[World.frozen?,y2]
  have hcell2:∀j v,([Value.int .i64 x]:List Value)[j]?=some v→w.cell? ⟨c2,0+j,none⟩=some v:=fun j v hj=>by
    rw[Nat.zero_add,cell_of y2,←Array.getElem?_toList]
    exact qX y6 (by simpa using hj)
  have hone:∀v∈[Value.int .i64 x],v.oneCell'=true:=fun v hv=>by simp at hv;subst hv;rfl
  have hone2:∀v∈(zs.take hi).map (Value.int .i64),v.oneCell'=true:=fun v hv=>by
    obtain⟨z,_,rfl⟩:=List.mem_map.1 hv
    rfl
  have htl:((zs.take hi).map (Value.int .i64)).length=hi:=by simp;omega
  have hcalls:Calls P (ρ.f 21) #[.slice (some ⟨c,0,none⟩) (hi -0) cap,.int .i64 0,.slice (some ⟨c2,0,none⟩) 1 capy] w fun e w'=>
      e=.returned (.slice (some ⟨c,0,none⟩) (hi+1) cap)∧w'.heap[c]?=some (.cells ((Value.int .i64 x::(zs.take hi).map (Value.int .i64))++arr.toList.drop (hi+1)).toArray T (0,0))∧(∀k,k≠c→w'.heap[k]?=w.heap[k]?)∧w'.heap.size=w.heap.size∧bX w'=bX w:=by
    rw[Nat.sub_zero]
    by_cases hz:hi=0
    · subst hz
      refine(Any2.slices_Insert_int_end_room L c 0 0 cap c2 0 1 capy [.int .i64 x] w (by omega) (by omega) hc63 rfl (fun j hj=>by simpa using hsome j (by omega)) (fun j _=>hfr _) hcell2 hone).mono fun e w' ⟨he,hw⟩=>?_
      obtain⟨s1,s2,s3,s4⟩:=fP c [.int .i64 x] 0 w arr T (0,0) f2 (by simp;omega)
      subst hw
      refine⟨he,?_,s2,s3,s4⟩
      rw[s1]
      simp
    · refine(Any2.slices_Insert_int_shift L c 0 hi cap 0 c2 0 1 capy ((zs.take hi).map (Value.int .i64)) [.int .i64 x] w (by omega) (by omega) (by omega) hc63 hcc htl rfl hcell hsome (fun j _=>hfr _) hcell2 hone2 hone T2 T arr2.size arr.size (by simp[World.shape?,y2]) (by simp[World.shape?,f2]) (by omega) (hfr2 _) (hfr2 _)).mono fun e w' ⟨he,hw⟩=>?_
      have f2':w.drew.heap[c]?=some (.cells arr T (0,0)):=f2
      obtain⟨s1,s2,s3,s4⟩:=fP c ((zs.take hi).map (Value.int .i64)) 1 w.drew arr T (0,0) f2' (by rw[htl];omega)
      obtain⟨r1,r2,r3,r4⟩:=fP c [.int .i64 x] 0 _ _ T (0,0) s1 (by simp;omega)
      have hw':w'=(w.drew.setCells c 1 ((zs.take hi).map (Value.int .i64))).setCells c 0 [.int .i64 x]:=by simpa using hw
      rw[hw']
      refine⟨he,?_,fun k hk=>(r2 k hk).trans (s2 k hk),r3.trans s3,r4.trans s4⟩
      rw[r1]
      have h1:(arr.toList.take 1).length=1:=by rw[List.length_take];omega
      congr 3
      show List.take 0 (List.take 1 arr.toList++(zs.take hi).map (Value.int .i64)++List.drop (1+((zs.take hi).map (Value.int .i64)).length) arr.toList)++[Value.int .i64 x]++List.drop (0+[Value.int .i64 x].length) (List.take 1 arr.toList++(zs.take hi).map (Value.int .i64)++List.drop (1+((zs.take hi).map (Value.int .i64)).length) arr.toList)=_
      rw[htl,List.append_assoc (List.take 1 arr.toList),List.take_zero,List.nil_append,List.length_singleton,Nat.zero_add,List.drop_left' h1,show 1+hi=hi+1 by omega]
      rfl
  unfold Oper.wp
  rw[hrun,Oper.upon_enter,harr]
  refine hcalls.mono fun e9 w' ⟨he,hcell9,hkeep,hsz,hen⟩=>?_
  subst he
  have hlen2:(x::(zs.take hi++zs.drop (hi+1))).length=zs.length:=by simp;omega
  have hs1:Sim g (setPos st ps (.own nw 1 (az (x::(zs.take hi++zs.drop (hi+1)))))) a w':=by
    refine h.ownWrite hb hown hbc hen hsz hkeep ?_ rfl ?_
    · right
      refine⟨c,rfl,cap,_,T,(x::(zs.take hi++zs.drop (hi+1))).map (Value.int .i64),?_,hcell9,?_,?_,dA g _,?_,f7⟩
      · rw[f1,hil,cL,hlen2]
      · simp only[List.size_toArray,List.length_append,List.length_cons,htl,List.length_drop]
        omega
      · rw[cL,hlen2]
        refine⟨f4.1,f4.2.1,?_⟩
        intro v hv
        simp only[List.toList_toArray,List.mem_append,List.mem_cons]at hv
        rcases hv with(rfl|hv)|hv
        · rfl
        · exact hone2 v hv
        · exact f4.2.2 v (List.mem_of_mem_drop hv)
      · obtain⟨rest,hrest⟩:=f6
        refine⟨rest,?_⟩
        rw[←hrest]
        simp only[List.map_cons,List.map_append,List.cons_append,List.append_assoc,List.toList_toArray]
        congr 2
        rw[List.drop_append_of_le_length (by simp;omega),List.map_drop]
    · intro nw' e' rows1 hh
      cases hh
      exact⟨nw,az zs,hps,by rw[hil,cL,hlen2]⟩
  have hd1:bR g.N o.dst:=by rw[hdd];exact hd
  cases hd2:d with
  |none=>
    rw[hd2]at hK hdd
    rw[hdd]
    exact hKK _ g _ w' hK h.refl_to hs1
  |some dd=>
    rw[hd2]at hK hdd
    rw[hdd]at hd1⊢
    refine hKK _ g _ w' hK h.refl_to ?_
    refine hs1.put hd1 rfl ?_ rfl
    intro nw1 e1 rows1 hp1
    have hget:aa (setPos st ps (.own nw 1 (az (x::(zs.take hi++zs.drop (hi+1)))))) ps=.own nw 1 (az (x::(zs.take hi++zs.drop (hi+1)))):=bS hown
    rw[hget]at hp1
    cases hp1
    have hpv:an g a w' ps=an g a w ps:=by
      cases ps with
      |slot s=>rfl
      |cell b j=>
        simp only[aa]at hown
        cases hx2:st.h[b]?with
        |none=>simp[List.getD,hx2,SV.isOwn]at hown
        |some ys=>
          have hbn:b<g.n:=by rw[h.n];exact(List.getElem?_eq_some_iff.1 hx2).1
          simp only[an];rw[hkeep _ ((hb.free _ c hbc).2.2.2 b hbn)]
    refine⟨Nat.zero_le _,by rw[cL,hlen2];omega,some ⟨c,0,none⟩,cap,by rw[Nat.zero_add,Nat.sub_zero],by omega,.inr ⟨c,_,cap,hpv.trans f1,by simp⟩,fun _=>⟨_,hpv.trans f1⟩⟩
def Np(P:Program)(f:FuncId)(zs:List Int)(hi:Nat)(args:List PV)(zs':List Int)(m:Nat):Prop:=
 aB P f=true∧∀(w:World)(c cap:Nat)(arr:Array Value)(T:TypeId)(suf us:List Value),w.heap[c]?=some (.cells arr T (0,0))→arr.toList=zs.map (Value.int .i64)++suf→zs.length≤cap→cap≤maxLen→ai (vm w c) args us→(∀v∈arr.toList,v.oneCell'=true)→
  Calls P f ((.slice (some ⟨c,0,none⟩) hi cap)::us).toArray w fun e w'=>e=.returned (.slice (some ⟨c,0,none⟩) m cap)∧w'.heap[c]?=some (.cells (zs'.map (Value.int .i64)++suf).toArray T (0,0))∧(∀k,k≠c→w'.heap[k]?=w.heap[k]?)∧w'.heap.size=w.heap.size∧bX w'=bX w
theorem dg.introW{P:Program}{st:St}{f:FuncId}{d:Option Tmp}{K:St→Prop}{cx:Operand}{args:Array Operand}{x0:Operand}{xs:List Operand}{ps:Pos}{hi m:Nat}{zs zs':List Int}{nw:Bool}{q va:List PV}
 (hA:Np P f zs hi va zs' m) (hl:zs'.length=zs.length) (hm:m≤zs.length) (h0:zs≠[]) (hgc:gc st cx) (hcl:bv st cx=some (f,[],q)) (ha:args.toList=x0::xs) (hp:partOf st x0=some (ps,0,hi)) (hg0:gc st x0)
 (hps:aa st ps=.own nw 1 (az zs)) (hv:iL (setPos st ps (.pv .bot)) xs) (hva:xp 3 (setPos st ps (.pv .bot)) xs++dY (bq (setPos st ps (.pv .bot)).h 3) q=va)
 (hK:K (Bf d (some m) ps 0 (setPos st ps (.own nw 1 (az zs'))))):dg P st cx args d K:=by
 intro o tys ho hdd g a w h hd K' Q hKK;obtain⟨u,v,hx,hu,hv'⟩:=ea h hgc hcl;have hu0:u.toList=[]:=hu;obtain⟨bl,hb⟩:=h.own;have hown:(aa st ps).isOwn=true:=by rw[hps];rfl
 obtain⟨nw1,e1,rows1,hpo,j1,j2,q0,cap,jv,jc,_,jz⟩:=lC h hg0 hp;rw[hps]at hpo;cases hpo;obtain⟨n0,hn0⟩:=jz rfl;have hfp:=aX hb hown;rw[hps]at hfp;rcases hfp with⟨_,hnil,_⟩|⟨c,hbc,cap',arr,T,vs,f1,f2,f3,f4,f5,f6,f7⟩
 ·exfalso;apply h0;cases zs with
  |nil=>rfl
  |cons _ _=>simp[az]at hnil
 rw[f1]at hn0;cases hn0
 have hvs:=bC f5;subst hvs;have hil:=cL zs;rw[hil]at f4;obtain⟨suf,hsuf⟩:=f6;obtain⟨s0,bl0,hb0,_,_,hfree⟩:=h.drop hb ps;have s0h:Sim g (setPos st ps (.pv .bot)) a (oe w c):=s0.turn hb0 (hfree c hbc) rfl (by simp[oe]) (fun k hk=>jr w hk);have hfit:ai (vm w c) va (xs.map a.eval++v.toList):=by
  rw[←hva];refine ai.monoC (vo w c) _ _ (.inl (Nat.zero_le _)) (.inl rfl) ?_;refine ai.append ?_ (ai.frz s0h.I (jm s0h 3) _ _ hv');rw[mB];exact og s0h 3 xs hv
 have harr:(a.eval x0::(xs.map a.eval++v.toList)).toArray=u++args.map a.eval++v:=by
  apply Array.ext';simp[hu0,ha]
 obtain⟨hcal,hcalls⟩:=hA;have hrun:(execOp a.eval o).run P w=.ok (.enter f (u++args.map a.eval++v)) w:=by
  unfold aB at hcal;split at hcal
  case h_2=>cases hcal
  rename_i fn hfn;simp only[Bool.and_eq_true,Bool.not_eq_true']at hcal;simp only[execOp,ho,resolve,hx,Deferred.ofValue,invoke,callFunc,Sem.run_bind,Sem.run_pure,Result.andThen_ok,run_program,hfn,hcal.1,hcal.2,Bool.false_eq_true,if_false]
 have hc:=hcalls w c cap arr T suf _ f2 hsuf.symm f4.1 f4.2.1 hfit f4.2.2;unfold Oper.wp;rw[hrun,Oper.upon_enter,←harr,jv,Nat.sub_zero];refine hc.mono fun e9 w' ⟨he,hcell9,hkeep,hsz,hen⟩=>?_;subst he;have hs1:Sim g (setPos st ps (.own nw 1 (az zs'))) a w':=by
  refine h.ownWrite hb hown hbc hen hsz hkeep ?_ rfl ?_
  ·right;refine⟨c,rfl,cap,_,T,zs'.map (Value.int .i64),?_,hcell9,?_,?_,dA g _,⟨suf,by simp⟩,f7⟩
   ·rw[f1,hil,cL,hl]
   ·have h11:arr.size=arr.toList.length:=Array.length_toList.symm;rw[←f3,h11,←hsuf];simp[hl]
   ·rw[cL,hl];refine⟨f4.1,f4.2.1,?_⟩;intro v hv;simp only[List.toList_toArray,List.mem_append]at hv;rcases hv with hv|hv
    ·obtain⟨z,_,rfl⟩:=List.mem_map.1 hv;rfl
    ·exact f4.2.2 v (by rw[←hsuf];exact List.mem_append_right _ hv)
  ·intro nw' e' rows1 hh;cases hh
   exact⟨nw,az zs,hps,by rw[hil,cL,hl]⟩
 have hd1:bR g.N o.dst:=by rw[hdd];exact hd
 cases hd2:d with
 |none=>
  rw[hd2]at hK hdd;rw[hdd];exact hKK _ g _ w' hK h.refl_to hs1
 |some dd=>
  rw[hd2]at hK hdd;rw[hdd]at hd1⊢;refine hKK _ g _ w' hK h.refl_to ?_;refine hs1.put hd1 rfl ?_ rfl;intro nw1 e1 rows1 hp1;have hget:aa (setPos st ps (.own nw 1 (az zs'))) ps=.own nw 1 (az zs'):=bS hown;rw[hget]at hp1;cases hp1
  have hpv:an g a w' ps=an g a w ps:=by
   cases ps with
   |slot s=>rfl
   |cell b j=>
    simp only[aa]at hown;cases hx2:st.h[b]?with
    |none=>simp[List.getD,hx2,SV.isOwn]at hown
    |some ys=>
     have hbn:b<g.n:=by rw[h.n];exact(List.getElem?_eq_some_iff.1 hx2).1
     simp only[an];rw[hkeep _ ((hb.free _ c hbc).2.2.2 b hbn)]
  have hmz:m≤cap:=by have:=f4.1;omega
  refine⟨Nat.zero_le _,by rw[cL,hl];omega,some ⟨c,0,none⟩,cap,by rw[Nat.zero_add,Nat.sub_zero],by omega,.inr ⟨c,_,cap,hpv.trans f1,by simp⟩,fun _=>⟨_,hpv.trans f1⟩⟩
end Go.AX
namespace Go.AX
def aF(l:List Int):List SV:=l.map fun x=>.pv (.lit (.int .i64 x))
def Al(l:List Int):List (List PV):=l.map fun x=>[.lit (.int .i64 x)]
mutual
def frzQ(h:List (List SV))(k:Nat):PV→PV→Prop
  |.bsl b e off n _,y=>e=1∧k≤b∧∃l pre suf,y=.seq false 1 (Al l)∧n=l.length∧h[b]?=some (pre++aF l++suf)∧pre.length=off
  |.tup xs,y=>∃ys,y=.tup ys∧wz h k xs ys
  |.seq nw e rows,y=>∃rows',y=.seq nw e rows'∧Am h k rows rows'
  |.bot,y=>y=.bot
  |.lit v,y=>y=.lit v
  |.agg xs,y=>y=.agg xs∧bO k xs
  |.iptr e rows i j,y=>y=.iptr e rows i j∧bP k rows
  |.ptr b off,y=>y=.ptr b off∧b<k
  |.fn f xs ys,y=>y=.fn f xs ys∧bO k xs∧bO k ys
  |.amap nw es,y=>y=.amap nw es∧ft k es
  |.ifc t x,y=>y=.ifc t x∧x.bel k
def wz(h:List (List SV))(k:Nat):List PV→List PV→Prop
  |[],ys=>ys=[]
  |x::xs,ys=>∃y r,ys=y::r∧frzQ h k x y∧wz h k xs r
def Am(h:List (List SV))(k:Nat):List (List PV)→List (List PV)→Prop
  |[],rs=>rs=[]
  |x::xs,rs=>∃y r,rs=y::r∧wz h k x y∧Am h k xs r
end
theorem qY(G:Gh):∀l:List Int,au G 1 (Al l) (l.map fun x=>.int .i64 x)
 |[]=>rfl
 |z::zs=>⟨[.int .i64 z],zs.map fun x=>.int .i64 x,rfl,⟨rfl,fun v hv=>by simp at hv;subst hv;rfl⟩,⟨_,_,rfl,rfl,rfl⟩,qY G zs⟩
section
variable {g g2 : Gh} {w : World} {h : List (List SV)} {k : Nat}
mutual
theorem Fit.frzQ(hle:Gh.le {g with n:=k} g2)(hB:∀b,k≤b→b<g.n→g2.I (g.μ b)=w.heap[g.μ b]?)
    (hblk:∀b xs,h[b]?=some xs→∃arr T,w.heap[g.μ b]?=some (.cells arr T (0,0))∧arr.size=xs.length∧∀(j:Nat) x,xs[j]?=some (.pv x)→Fit g x (arr.getD j undef)):∀(x y:PV)(v:Value),frzQ h k x y→Fit g x v→Fit g2 y v
  |.bsl b e off n cap,y,v,⟨he,hk,l,pre,suf,hy,hn,hb,ho⟩,⟨h1,h2,h3⟩=>by
    subst he hy hn ho
    obtain⟨arr,T,a1,a2,a3⟩:=hblk b _ hb
    have hel:∀i (_:i<l.length),arr.toList[pre.length+i]?=some (.int .i64 (l[i])):=fun i hi=>by
      have hx:(pre++aF l++suf)[pre.length+i]?=some (.pv (.lit (.int .i64 l[i]))):=by
        rw[List.append_assoc,List.getElem?_append_right (by omega),Nat.add_sub_cancel_left,List.getElem?_append_left (by unfold aF;simpa using hi)]
        unfold aF
        rw[List.getElem?_map,List.getElem?_eq_getElem hi]
        rfl
      have hf:arr.getD (pre.length+i) undef=.int .i64 l[i]:=a3 _ _ hx
      have hlt:pre.length+i<arr.size:=by
        rw[a2];exact(List.getElem?_eq_some_iff.1 hx).1
      rw[Array.getElem?_toList,Array.getElem?_eq_getElem hlt,←hf]
      simp[Array.getD,hlt]
    refine⟨_,cap,by rw[h3];simp[Al],by simpa[Al]using h2,.inr ⟨g.μ b,pre.length,arr,T,(0,0),l.map fun x=>.int .i64 x,rfl,by rw[hB b hk h1,a1],fun hh=>(by cases hh),qY g2 l,?_⟩⟩
    have htk:(l.map fun x=>Value.int .i64 x)=(arr.toList.drop pre.length).take l.length:=by
      apply List.ext_getElem?
      intro i
      rw[List.getElem?_take,List.getElem?_drop,List.getElem?_map]
      by_cases hi:i<l.length
      · rw[if_pos hi,hel i hi,List.getElem?_eq_getElem hi];rfl
      · rw[if_neg hi,List.getElem?_eq_none (by omega)];rfl
    rw[htk]
    exact List.take_prefix _ _
  |.tup xs,y,v,⟨ys,hy,hq⟩,⟨vs,h1,h2⟩=>by
    subst hy
    exact⟨vs,h1,ai.frzQ hle hB hblk xs ys _ hq h2⟩
  |.seq nw e rows,y,v,⟨rows',hy,hq⟩,⟨p,cap,h1,hc,h2⟩=>by
    subst hy
    have hlen:=sZ rows rows' hq
    refine⟨p,cap,by rw[hlen];exact h1,by rw[hlen];exact hc,?_⟩
    rcases h2 with rfl|⟨c,off,arr,T,fz,vs,a,b,n,r,q⟩
    · exact .inl hq
    · exact .inr ⟨c,off,arr,T,fz,vs,a,hle.I _ _ b,fun hn=>Nat.le_trans hle.B (n hn),au.frzQ hle hB hblk e rows rows' vs hq r,q⟩
  |.bot,y,v,hq,_=>by
    have:y=.bot:=hq
    subst this;trivial
  |.lit u,y,v,hq,h=>by
    have:y=.lit u:=hq
    subst this;exact h
  |.agg xs,y,v,⟨hy,hb⟩,h=>by
    subst hy
    exact Fit.mono hle _ _ (Fit.below (.agg xs) v hb h)
  |.iptr e rows i j,y,v,⟨hy,hb⟩,h=>by
    subst hy
    exact Fit.mono hle _ _ (Fit.below (.iptr e rows i j) v hb h)
  |.ptr b off,y,v,⟨hy,hb⟩,h=>by
    subst hy
    exact Fit.mono hle _ _ (Fit.below (.ptr b off) v hb h)
  |.fn f xs ys,y,v,⟨hy,hb⟩,h=>by
    subst hy
    exact Fit.mono hle _ _ (Fit.below (.fn f xs ys) v hb h)
  |.amap nw es,y,v,⟨hy,hb⟩,h=>by
    subst hy
    exact Fit.mono hle _ _ (Fit.below (.amap nw es) v hb h)
  |.ifc t x,y,v,⟨hy,hb⟩,h=>by
    subst hy
    exact Fit.mono hle _ _ (Fit.below (.ifc t x) v hb h)
theorem ai.frzQ(hle:Gh.le {g with n:=k} g2)(hB:∀b,k≤b→b<g.n→g2.I (g.μ b)=w.heap[g.μ b]?)
    (hblk:∀b xs,h[b]?=some xs→∃arr T,w.heap[g.μ b]?=some (.cells arr T (0,0))∧arr.size=xs.length∧∀(j:Nat) x,xs[j]?=some (.pv x)→Fit g x (arr.getD j undef)):∀(xs ys:List PV)(vs:List Value),wz h k xs ys→ai g xs vs→ai g2 ys vs
  |[],ys,vs,hq,h=>by
    have:ys=[]:=hq
    subst this;exact h
  |x::xs,ys,vs,⟨y,r,hy,hq,hr⟩,⟨v,r',h1,h2,h3⟩=>by
    subst hy
    exact⟨v,r',h1,Fit.frzQ hle hB hblk x y v hq h2,ai.frzQ hle hB hblk xs r r' hr h3⟩
theorem au.frzQ(hle:Gh.le {g with n:=k} g2)(hB:∀b,k≤b→b<g.n→g2.I (g.μ b)=w.heap[g.μ b]?)
    (hblk:∀b xs,h[b]?=some xs→∃arr T,w.heap[g.μ b]?=some (.cells arr T (0,0))∧arr.size=xs.length∧∀(j:Nat) x,xs[j]?=some (.pv x)→Fit g x (arr.getD j undef)) (e:Nat):∀(xs ys:List (List PV))(vs:List Value),Am h k xs ys→au g e xs vs→au g2 e ys vs
  |[],ys,vs,hq,h=>by
    have:ys=[]:=hq
    subst this;exact h
  |x::xs,ys,vs,⟨y,r,hy,hq,hr⟩,⟨v1,v2,h1,h2,h3,h4⟩=>by
    subst hy
    exact⟨v1,v2,h1,⟨(sY x y hq).trans h2.1,h2.2⟩,ai.frzQ hle hB hblk x y v1 hq h3,au.frzQ hle hB hblk e xs r v2 hr h4⟩
theorem sY:∀(xs ys:List PV),wz h k xs ys→ys.length=xs.length
  |[],ys,hq=>by
    have:ys=[]:=hq
    subst this;rfl
  |x::xs,ys,⟨y,r,hy,hq,hr⟩=>by
    subst hy
    rw[List.length_cons,List.length_cons,sY xs r hr]
theorem sZ:∀(xs ys:List (List PV)),Am h k xs ys→ys.length=xs.length
  |[],ys,hq=>by
    have:ys=[]:=hq
    subst this;rfl
  |x::xs,ys,⟨y,r,hy,hq,hr⟩=>by
    subst hy
    rw[List.length_cons,List.length_cons,sZ xs r hr]
end
end
theorem Owns.dropB{st:St}{h1:List (List SV)}(hh:st.h.take h1.length=h1)(ht:iH h1.length st.t)(hb:dz h1.length h1){g:Gh}{a:Act}{w:World}(hs:Sim g st a w){bl:Pos→Option Nat}(hbl:Owns g st a w bl):∃bl',Owns {g with n:=h1.length} ⟨st.t,h1⟩ a w bl'∧∀p c,bl' p=some c→bl p=some c:=by
 have hle:h1.length≤g.n:=by rw[hs.n,←hh,List.length_take];exact Nat.min_le_right _ _
 have hget:∀b xs,h1[b]?=some xs→st.h[b]?=some xs:=fun b xs hx=>by
  have hlt:=(List.getElem?_eq_some_iff.1 hx).1;rw[←hh,List.getElem?_take,if_pos (by exact hlt)]at hx;exact hx
 have hsub:∀p c,(match p with|.slot s=>bl (.slot s)|.cell b k=>if b<h1.length then bl (.cell b k)else none)=some c→bl p=some c:=by
  intro p c hp;cases p with
  |slot s=>exact hp
  |cell b k=>
   simp only at hp;split at hp
   ·exact hp
   ·cases hp
 refine⟨fun p=>match p with|.slot s=>bl (.slot s)|.cell b k=>if b<h1.length then bl (.cell b k)else none,{slots:=fun s=>av.below (fT ht s) (hbl.slots s),blocks:=fun b xs hx=>?_,inj:=fun p q c hp hq=>hbl.inj p q c (hsub p c hp) (hsub q c hq),free:=fun p c hp=>?_},hsub⟩
 ·obtain⟨arr,T,e1,e2,e3⟩:=hbl.blocks b xs (hget b xs hx);refine⟨arr,T,e1,e2,fun k x hk'=>?_⟩;simp only[if_pos (List.getElem?_eq_some_iff.1 hx).1];exact⟨(e3 k x hk').1,av.below (gI (gJ hb b xs hx) k x hk') (e3 k x hk').2⟩
 ·obtain⟨f1,f2,f3,f4⟩:=hbl.free p c (hsub p c hp);exact⟨f1,f2,f3,fun b hb'=>f4 b (Nat.lt_of_lt_of_le hb' hle)⟩
def Lb(P:Program)(rs:List ResultVar)(h:List (List SV))(R:SV→Prop)(st:St):Prop:=
 (fU P st rs).2.2∧(fU P st rs).2.1.h.take h.length=h∧∃y,frzQ (fU P st rs).2.1.h h.length (kJ (fU P st rs).1) y∧R (.pv y)
attribute [simp] Lb
end Go.AX