/-
  AX, part La: the last block but one is forgotten.
  AX, part Ag: a function that gives a struct a part of which is a slice of its own.
  AX, part Lo: a function that gives a part of a slice that one of the caller's blocks owns.
-/
import Derived.Test.YthfhellfmbllhaaGreatAxIs
namespace Go.AX
theorem SFit.le1 {g g':Gh} (hl:g.le g') (hB:g'.B=g.B) {w:World}:∀{x:SV} {v:Value} {b:Option Nat},SFit g w x v b→SFit g' w x v b
 |.pv x,_,_,h=>⟨h.1,Fit.mono hl x _ h.2⟩
 |.own _ e rows,_,_,h=>h.imp id fun⟨c,h1,cap,arr,T,vs,a1,a2,a3,a4,a5,a6,a7⟩=>⟨c,h1,cap,arr,T,vs,a1,a2,a3,a4,FitR.mono hl e rows vs a5,a6,fun hn=>by rw[hB];exact a7 hn⟩
 |.omap _ es,_,_,⟨c,h1,en,ck,a1,a2,a3,a4⟩=>⟨c,h1,en,ck,a1,a2,FitE.mono hl es _ a3,fun hn=>by rw[hB];exact a4.1 hn,a4.2⟩
 |.opt _ _,_,_,h=>⟨h.1,h.2.1,fun hc=>SFit.le1 hl hB (h.2.2 hc)⟩
 |.al _,_,_,h=>h
 |.loc _ _ _,_,_,h=>h
 |.sptr _ _ _,_,_,h=>h
 |.agl xs,_,_,⟨h,vs,h1,h2⟩=>⟨h,vs,h1,FitL.mono hl _ _ h2⟩
theorem Weak.last {k0:Nat} {t:List (Nat×SV)} {B:List (List SV)} {x y:List SV} {s0 off:Nat} (ht:belowT B.length t) (hB:belowH B.length B) (hy:∀v∈y,∃p,v=.pv p∧p.bel B.length) (hk:k0≤B.length):
    Weak k0 ⟨(s0,.pv (.ptr (B.length+1) off))::t,B++[x,y]⟩ ⟨(s0,.pv (.ptr B.length off))::t,B++[y]⟩:=fun g a w h0 hs=>by
  obtain⟨bl,hbl⟩:=hs.own
  have hn:g.n=B.length+2:=by rw[hs.n];simp
  let g':Gh:={g with n:=B.length+1,μ:=fun b=>if b=B.length then g.μ (B.length+1)else g.μ b}
  have hm:∀b,b<B.length→g'.μ b=g.μ b:=fun b hb=>by show(if b=B.length then _ else _)=_;rw[if_neg (by omega)]
  have hml:g'.μ B.length=g.μ (B.length+1):=by show(if B.length=B.length then _ else _)=_;rw[if_pos rfl]
  have hle:({g with n:=B.length}:Gh).le g':=⟨fun _ _ h=>h,Nat.le_refl _,Nat.le_succ _,fun b hb=>hm b hb⟩
  have fit:∀{x:SV} {v:Value} {b:Option Nat},x.bel B.length→SFit g w x v b→SFit g' w x v b:=fun hb h=>SFit.le1 hle rfl (SFit.below hb h)
  have look1:∀(q:SV) s,s≠s0→look ((s0,q)::t) s=look t s:=fun q s h=>by simp only[look];rw[if_neg (Ne.symm h)]
  have look0:∀(q:SV),look ((s0,q)::t) s0=q:=fun q=>by simp[look]
  have hpos:∀p,(posGet ⟨(s0,.pv (.ptr B.length off))::t,B++[y]⟩ p).isOwn=true→posGet ⟨(s0,.pv (.ptr B.length off))::t,B++[y]⟩ p=posGet ⟨(s0,.pv (.ptr (B.length+1) off))::t,B++[x,y]⟩ p∧posVal g' a w p=posVal g a w p:=by
    intro p hp
    cases p with
    |slot s=>
      refine⟨?_,rfl⟩
      simp only[posGet]at hp⊢
      by_cases e:s=s0
      · subst e;rw[look0]at hp;cases hp
      · rw[look1 _ s e,look1 _ s e]
    |cell b k=>
      simp only[posGet]at hp⊢
      rcases Nat.lt_trichotomy b B.length with c|c|c
      · refine⟨by simp[List.getD_eq_getElem?_getD,List.getElem?_append_left c],?_⟩
        simp only[posVal];rw[hm b c]
      · subst c
        simp only[List.getD_eq_getElem?_getD,List.getElem?_append_right (Nat.le_refl _),Nat.sub_self,List.getElem?_cons_zero,Option.getD_some]at hp
        cases hq:y[k]?with
        |none=>rw[hq]at hp;cases hp
        |some z=>
          rw[hq]at hp
          obtain⟨p,rfl,_⟩:=hy z (List.mem_of_getElem? hq)
          cases hp
      · have:(B++[y])[b]?=none:=by rw[List.getElem?_eq_none];simp;omega
        simp only[List.getD_eq_getElem?_getD,this,Option.getD_none]at hp
        cases hp
  refine⟨g',⟨fun _ _ h=>h,rfl,rfl,rfl,rfl,rfl,by show g.n0≤B.length+1;omega,fun b hb=>hm b (by omega),fun _ _ h=>h⟩,?_⟩
  have lift:∀b,b<B.length+1→∃b',b'<g.n∧g'.μ b=g.μ b'∧((b<B.length∧b'=b)∨(b=B.length∧b'=B.length+1)):=fun b hb=>by
    rcases Nat.lt_or_ge b B.length with c|c
    · exact⟨b,by omega,hm b c,.inl ⟨c,rfl⟩⟩
    · have:b=B.length:=by omega
      subst this
      exact⟨B.length+1,by omega,hml,.inr ⟨rfl,rfl⟩⟩
  refine { size := hs.size, defs := hs.defs, env := hs.env, n := by show B.length + 1 = _; simp, n0 := by show g.n0 ≤ B.length + 1; omega, B := hs.B, I := hs.I, F := hs.F, μI := fun b hb => ?_, μinj := fun b c hb hc e => ?_,
           own:=⟨fun p=>match p with|.slot s=>bl (.slot s)|.cell b k=>if b<B.length then bl (.cell b k)else none,?_⟩,al:=fun s=>?_}
  · obtain⟨b',h1,h2,_⟩:=lift b hb
    rw[h2];exact hs.μI b' h1
  · obtain⟨b',h1,h2,h3⟩:=lift b hb
    obtain⟨c',i1,i2,i3⟩:=lift c hc
    have:=hs.μinj b' c' h1 i1 (by rw[←h2,←i2];exact e)
    omega
  · have hsub:∀p c,(match p with|.slot s=>bl (.slot s)|.cell b k=>if b<B.length then bl (.cell b k)else none)=some c→bl p=some c:=by
      intro p c hp
      cases p with
      |slot s=>exact hp
      |cell b k=>
        simp only at hp
        split at hp
        · exact hp
        · cases hp
    refine{slots:=fun s=>?_,blocks:=fun b xs hx=>?_,inj:=fun p q c hp hq=>hbl.inj p q c (hsub p c hp) (hsub q c hq),free:=fun p c hp=>?_}
    · have h:=hbl.slots s
      simp only at h⊢
      by_cases e:s=s0
      · subst e
        rw[look0]at h⊢
        obtain⟨h1,h2,h3⟩:=h
        exact⟨h1,Nat.lt_succ_self _,by rw[h3,hml]⟩
      · rw[look1 _ s e]at h⊢
        exact fit (belowT_look ht s) h
    · rcases Nat.lt_trichotomy b B.length with c|c|c
      · have hx':(B++[x,y])[b]?=some xs:=by
          simp only at hx
          rw[List.getElem?_append_left c]at hx⊢;exact hx
        obtain⟨arr,T,e1,e2,e3⟩:=hbl.blocks b xs hx'
        refine⟨arr,T,by rw[hm b c];exact e1,e2,fun k z hz=>?_⟩
        simp only[if_pos c]
        simp only at hx
        rw[List.getElem?_append_left c]at hx
        exact⟨(e3 k z hz).1,fit (belowC_get (belowH_get hB b xs hx) k z hz) (e3 k z hz).2⟩
      · subst c
        have hxy:xs=y:=by
          simp only[List.getElem?_append_right (Nat.le_refl _),Nat.sub_self,List.getElem?_cons_zero,Option.some.injEq]at hx
          exact hx.symm
        subst hxy
        obtain⟨arr,T,e1,e2,e3⟩:=hbl.blocks (B.length+1) xs (by simp only;rw[List.getElem?_append_right (by omega)];simp)
        refine⟨arr,T,by rw[hml];exact e1,e2,fun k z hz=>?_⟩
        obtain⟨p,rfl,hp⟩:=hy z (List.mem_of_getElem? hz)
        simp only[Nat.lt_irrefl,if_false]
        have h:=(e3 k _ hz).2
        exact⟨rfl,fit (x:=.pv p) (b:=none) hp ⟨rfl,h.2⟩⟩
      · simp only at hx
        rw[List.getElem?_eq_none (by simp;omega)]at hx
        cases hx
    · obtain⟨f1,f2,f3,f4⟩:=hbl.free p c (hsub p c hp)
      refine⟨f1,f2,f3,fun b hb'=>?_⟩
      obtain⟨b',h1,h2,_⟩:=lift b hb'
      rw[h2];exact f4 b' h1
  · have h:=hs.al s
    simp only at h⊢
    by_cases e:s=s0
    · subst e;rw[look0];trivial
    · rw[look1 _ s e]at h⊢
      exact AlOk.congr hpos h
theorem APure.own0 {P:Program} {f:FuncId} {args:List PV} {R R':SV→Prop} (h:APure P f args R) (hr:∀r,R r→R' r∨(r=.pv (.lit (.slice none 0 0))∧∃nw e,R' (.own nw e []))):APure P f args R':=by
 refine⟨h.1,fun w vs hv=>(h.2 w vs hv).mono fun e w' ⟨v,r,g',o,h1,h2,h3,h4,h5,h6⟩=>?_⟩;rcases hr r h2 with h7|⟨rfl,nw,e',h7⟩
 ·exact⟨v,r,g',o,h1,h7,h3,h4,h5,h6⟩
 ·exact⟨v,_,g',o,h1,h7,h3,.inl ⟨h4.1,rfl,h4.2⟩,rfl,h6⟩
end Go.AX
namespace Go.AX
def cellsAg (b:Nat):Nat→List SV→List (PV×Option Pos)
 |_,[]=>[]
 |k,.pv x::r=>(x,none)::cellsAg b (k+1) r
 |k,_::r=>(.bot,some (.cell b k))::cellsAg b (k+1) r
def retAg (P:Program) (t:Nat) (T:TypeId) (R:SV→List (List SV)→Prop) (st:St):Prop:=
 match look st.t t with
 |.pv (.ptr b 0)=>ldInfo P T=some (true,(st.h.getD b []).length)∧R (.agl (cellsAg b 0 (st.h.getD b []))) st.h
 |_=>False
def boxes:List Oper→List Oper
 |[]=>[]
 |o::r=>match o.dst with
  |some d=>{dst:=none,op:=.box 0 (.tmp d),type:=0,pos:= "",after:=#[],guard:=none}::boxes r
  |none=>boxes r
attribute [simp] cellsAg retAg boxes
end Go.AX
namespace Go.AX
def retLoc (t:Nat) (R:SV→List (List SV)→Prop) (st:St):Prop:=
 match look st.t t with
 |.loc (.cell b k) lo hi=>R (.loc (.cell b k) lo hi) st.h
 |_=>False
theorem amutLoc {P:Program} {f:FuncId} {fn:Func} {c:Code} {args:List PV} {h:List (List SV)} {R:SV→List (List SV)→Prop} {t:Nat} (hmo:P.follows .mixedOrders=true) (hf:P.funcs[f]?=some fn) (hcall:callable P f=true) (hb:fn.body=some c) (hr:fn.results=#[.tmp t])
 (hok:okC fn.ntmps [] c=true) (hn:args.length≤fn.ntmps) (hA:AC P h.length [] c (endQ (retLoc t R)) ⟨argT 0 args,h⟩):AMut P f args h R:=by
 refine⟨hcall,fun g st a w vs hs hh hv=>?_⟩;refine calls_of_wp hf hb ?_;obtain⟨bl,hbl⟩:=hs.own;have hsi:=sim_in hs hbl (N:=fn.ntmps) hv hn;rw[hh]at hsi;refine AC_wp hmo c hA (g:=gIn g w bl fn.ntmps) ⟨hok,by show g.n≤h.length;rw[hs.n,hh];exact Nat.le_refl _⟩ hsi fun e st' g' a' w' hq t' s'=>?_;have fin:retLoc t R st'→a'.defers=[]∧∃v,(results fn a'.tmps).run P w'=.ok v w'∧∃v' r h' g',Ending.returned v=.returned v'∧R r h'∧g.to g'∧∀d,dstOk g.N d→Sim g' (putR d r ⟨killL qCell st.t,h'⟩) (a.put d v') w':=fun hk=>by
  unfold retLoc at hk;split at hk
  ·rename_i b k lo hi hlk;obtain⟨bl2,h4⟩:=s'.own;have hal:=s'.al t;rw[hlk]at hal;obtain⟨so,oo⟩:=sim_out hs hbl t' s' h4;refine⟨s'.defs,a'.tmps.getD t undef,results_tmp hr _ _ _,a'.tmps.getD t undef,_,st'.h,gOut g g',rfl,hk,to_out hs hbl t',fun d hd=>?_⟩;cases d with
   |none=>exact so
   |some d=>
    refine so.put hd rfl ?_ rfl;intro nw e rows hp;exact hal nw e rows hp
  ·exact hk.elim
 cases e with
 |normal=>exact fin hq
 |ret=>exact fin hq
 |_=>exact hq.elim
attribute [simp] retLoc
end Go.AX