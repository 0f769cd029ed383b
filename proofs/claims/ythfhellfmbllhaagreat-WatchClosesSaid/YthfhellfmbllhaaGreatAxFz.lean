/-
  AX, part Fz: a call's own blocks, let go, are read from then on and written no more.
-/
import Derived.Test.YthfhellfmbllhaaGreatAxBe
namespace Go.AX
def icells (l:List Int):List SV:=l.map fun x=>.pv (.lit (.int .i64 x))
def irows (l:List Int):List (List PV):=l.map fun x=>[.lit (.int .i64 x)]
mutual
def frzQ (h:List (List SV)) (k:Nat):PV→PV→Prop
  |.bsl b e off n _,y=>e=1∧k≤b∧∃l pre suf,y=.seq false 1 (irows l)∧n=l.length∧h[b]?=some (pre++icells l++suf)∧pre.length=off
  |.tup xs,y=>∃ys,y=.tup ys∧frzQL h k xs ys
  |.seq nw e rows,y=>∃rows',y=.seq nw e rows'∧frzQR h k rows rows'
  |.bot,y=>y=.bot
  |.lit v,y=>y=.lit v
  |.agg xs,y=>y=.agg xs∧belowL k xs
  |.iptr e rows i j,y=>y=.iptr e rows i j∧belowR k rows
  |.ptr b off,y=>y=.ptr b off∧b<k
  |.fn f xs ys,y=>y=.fn f xs ys∧belowL k xs∧belowL k ys
  |.amap nw es,y=>y=.amap nw es∧belowE k es
  |.ifc t x,y=>y=.ifc t x∧x.bel k
def frzQL (h:List (List SV)) (k:Nat):List PV→List PV→Prop
  |[],ys=>ys=[]
  |x::xs,ys=>∃y r,ys=y::r∧frzQ h k x y∧frzQL h k xs r
def frzQR (h:List (List SV)) (k:Nat):List (List PV)→List (List PV)→Prop
  |[],rs=>rs=[]
  |x::xs,rs=>∃y r,rs=y::r∧frzQL h k x y∧frzQR h k xs r
end
theorem fitR_irows (G:Gh):∀l:List Int,FitR G 1 (irows l) (l.map fun x=>.int .i64 x)
 |[]=>rfl
 |z::zs=>⟨[.int .i64 z],zs.map fun x=>.int .i64 x,rfl,⟨rfl,fun v hv=>by simp at hv;subst hv;rfl⟩,⟨_,_,rfl,rfl,rfl⟩,fitR_irows G zs⟩
section
variable {g g2 : Gh} {w : World} {h : List (List SV)} {k : Nat}
mutual
theorem Fit.frzQ (hle:Gh.le {g with n:=k} g2) (hB:∀b,k≤b→b<g.n→g2.I (g.μ b)=w.heap[g.μ b]?)
    (hblk:∀b xs,h[b]?=some xs→∃arr T,w.heap[g.μ b]?=some (.cells arr T (0,0))∧arr.size=xs.length∧∀(j:Nat) x,xs[j]?=some (.pv x)→Fit g x (arr.getD j undef)):∀(x y:PV) (v:Value),frzQ h k x y→Fit g x v→Fit g2 y v
  |.bsl b e off n cap,y,v,⟨he,hk,l,pre,suf,hy,hn,hb,ho⟩,⟨h1,h2,h3⟩=>by
    subst he hy hn ho
    obtain⟨arr,T,a1,a2,a3⟩:=hblk b _ hb
    have hel:∀i (_:i<l.length),arr.toList[pre.length+i]?=some (.int .i64 (l[i])):=fun i hi=>by
      have hx:(pre++icells l++suf)[pre.length+i]?=some (.pv (.lit (.int .i64 l[i]))):=by
        rw[List.append_assoc,List.getElem?_append_right (by omega),Nat.add_sub_cancel_left,List.getElem?_append_left (by unfold icells;simpa using hi)]
        unfold icells
        rw[List.getElem?_map,List.getElem?_eq_getElem hi]
        rfl
      have hf:arr.getD (pre.length+i) undef=.int .i64 l[i]:=a3 _ _ hx
      have hlt:pre.length+i<arr.size:=by
        rw[a2];exact(List.getElem?_eq_some_iff.1 hx).1
      rw[Array.getElem?_toList,Array.getElem?_eq_getElem hlt,←hf]
      simp[Array.getD,hlt]
    refine⟨_,cap,by rw[h3];simp[irows],by simpa[irows]using h2,.inr ⟨g.μ b,pre.length,arr,T,(0,0),l.map fun x=>.int .i64 x,rfl,by rw[hB b hk h1,a1],fun hh=>(by cases hh),fitR_irows g2 l,?_⟩⟩
    have htk:(l.map fun x=>Value.int .i64 x)=(arr.toList.drop pre.length).take l.length:=by
      apply List.ext_getElem?
      intro i
      rw[List.getElem?_take,List.getElem?_drop,List.getElem?_map]
      by_cases hi:i<l.length
      · rw[if_pos hi,hel i hi,List.getElem?_eq_getElem hi];rfl
      · rw[if_neg hi,List.getElem?_eq_none (by omega)];rfl
    rw[htk]
    exact List.take_prefix _ _
  |.tup xs,y,v,⟨ys,hy,hq⟩,⟨vs,h1,h2⟩=>by
    subst hy
    exact⟨vs,h1,FitL.frzQ hle hB hblk xs ys _ hq h2⟩
  |.seq nw e rows,y,v,⟨rows',hy,hq⟩,⟨p,cap,h1,hc,h2⟩=>by
    subst hy
    have hlen:=frzQR_len rows rows' hq
    refine⟨p,cap,by rw[hlen];exact h1,by rw[hlen];exact hc,?_⟩
    rcases h2 with rfl|⟨c,off,arr,T,fz,vs,a,b,n,r,q⟩
    · exact .inl hq
    · exact .inr ⟨c,off,arr,T,fz,vs,a,hle.I _ _ b,fun hn=>Nat.le_trans hle.B (n hn),FitR.frzQ hle hB hblk e rows rows' vs hq r,q⟩
  |.bot,y,v,hq,_=>by
    have:y=.bot:=hq
    subst this;trivial
  |.lit u,y,v,hq,h=>by
    have:y=.lit u:=hq
    subst this;exact h
  |.agg xs,y,v,⟨hy,hb⟩,h=>by
    subst hy
    exact Fit.mono hle _ _ (Fit.below (.agg xs) v hb h)
  |.iptr e rows i j,y,v,⟨hy,hb⟩,h=>by
    subst hy
    exact Fit.mono hle _ _ (Fit.below (.iptr e rows i j) v hb h)
  |.ptr b off,y,v,⟨hy,hb⟩,h=>by
    subst hy
    exact Fit.mono hle _ _ (Fit.below (.ptr b off) v hb h)
  |.fn f xs ys,y,v,⟨hy,hb⟩,h=>by
    subst hy
    exact Fit.mono hle _ _ (Fit.below (.fn f xs ys) v hb h)
  |.amap nw es,y,v,⟨hy,hb⟩,h=>by
    subst hy
    exact Fit.mono hle _ _ (Fit.below (.amap nw es) v hb h)
  |.ifc t x,y,v,⟨hy,hb⟩,h=>by
    subst hy
    exact Fit.mono hle _ _ (Fit.below (.ifc t x) v hb h)
theorem FitL.frzQ (hle:Gh.le {g with n:=k} g2) (hB:∀b,k≤b→b<g.n→g2.I (g.μ b)=w.heap[g.μ b]?)
    (hblk:∀b xs,h[b]?=some xs→∃arr T,w.heap[g.μ b]?=some (.cells arr T (0,0))∧arr.size=xs.length∧∀(j:Nat) x,xs[j]?=some (.pv x)→Fit g x (arr.getD j undef)):∀(xs ys:List PV) (vs:List Value),frzQL h k xs ys→FitL g xs vs→FitL g2 ys vs
  |[],ys,vs,hq,h=>by
    have:ys=[]:=hq
    subst this;exact h
  |x::xs,ys,vs,⟨y,r,hy,hq,hr⟩,⟨v,r',h1,h2,h3⟩=>by
    subst hy
    exact⟨v,r',h1,Fit.frzQ hle hB hblk x y v hq h2,FitL.frzQ hle hB hblk xs r r' hr h3⟩
theorem FitR.frzQ (hle:Gh.le {g with n:=k} g2) (hB:∀b,k≤b→b<g.n→g2.I (g.μ b)=w.heap[g.μ b]?)
    (hblk:∀b xs,h[b]?=some xs→∃arr T,w.heap[g.μ b]?=some (.cells arr T (0,0))∧arr.size=xs.length∧∀(j:Nat) x,xs[j]?=some (.pv x)→Fit g x (arr.getD j undef)) (e:Nat):∀(xs ys:List (List PV)) (vs:List Value),frzQR h k xs ys→FitR g e xs vs→FitR g2 e ys vs
  |[],ys,vs,hq,h=>by
    have:ys=[]:=hq
    subst this;exact h
  |x::xs,ys,vs,⟨y,r,hy,hq,hr⟩,⟨v1,v2,h1,h2,h3,h4⟩=>by
    subst hy
    exact⟨v1,v2,h1,⟨(frzQL_len x y hq).trans h2.1,h2.2⟩,FitL.frzQ hle hB hblk x y v1 hq h3,FitR.frzQ hle hB hblk e xs r v2 hr h4⟩
theorem frzQL_len:∀(xs ys:List PV),frzQL h k xs ys→ys.length=xs.length
  |[],ys,hq=>by
    have:ys=[]:=hq
    subst this;rfl
  |x::xs,ys,⟨y,r,hy,hq,hr⟩=>by
    subst hy
    rw[List.length_cons,List.length_cons,frzQL_len xs r hr]
theorem frzQR_len:∀(xs ys:List (List PV)),frzQR h k xs ys→ys.length=xs.length
  |[],ys,hq=>by
    have:ys=[]:=hq
    subst this;rfl
  |x::xs,ys,⟨y,r,hy,hq,hr⟩=>by
    subst hy
    rw[List.length_cons,List.length_cons,frzQR_len xs r hr]
end
end
theorem Owns.dropB {st:St} {h1:List (List SV)} (hh:st.h.take h1.length=h1) (ht:belowT h1.length st.t) (hb:belowH h1.length h1) {g:Gh} {a:Act} {w:World} (hs:Sim g st a w) {bl:Pos→Option Nat} (hbl:Owns g st a w bl):∃bl',Owns {g with n:=h1.length} ⟨st.t,h1⟩ a w bl'∧∀p c,bl' p=some c→bl p=some c:=by
 have hle:h1.length≤g.n:=by rw[hs.n,←hh,List.length_take];exact Nat.min_le_right _ _
 have hget:∀b xs,h1[b]?=some xs→st.h[b]?=some xs:=fun b xs hx=>by
  have hlt:=(List.getElem?_eq_some_iff.1 hx).1;rw[←hh,List.getElem?_take,if_pos (by exact hlt)]at hx;exact hx
 have hsub:∀p c,(match p with|.slot s=>bl (.slot s)|.cell b k=>if b<h1.length then bl (.cell b k)else none)=some c→bl p=some c:=by
  intro p c hp;cases p with
  |slot s=>exact hp
  |cell b k=>
   simp only at hp;split at hp
   ·exact hp
   ·cases hp
 refine⟨fun p=>match p with|.slot s=>bl (.slot s)|.cell b k=>if b<h1.length then bl (.cell b k)else none,{slots:=fun s=>SFit.below (belowT_look ht s) (hbl.slots s),blocks:=fun b xs hx=>?_,inj:=fun p q c hp hq=>hbl.inj p q c (hsub p c hp) (hsub q c hq),free:=fun p c hp=>?_},hsub⟩
 ·obtain⟨arr,T,e1,e2,e3⟩:=hbl.blocks b xs (hget b xs hx);refine⟨arr,T,e1,e2,fun k x hk'=>?_⟩;simp only[if_pos (List.getElem?_eq_some_iff.1 hx).1];exact⟨(e3 k x hk').1,SFit.below (belowC_get (belowH_get hb b xs hx) k x hk') (e3 k x hk').2⟩
 ·obtain⟨f1,f2,f3,f4⟩:=hbl.free p c (hsub p c hp);exact⟨f1,f2,f3,fun b hb'=>f4 b (Nat.lt_of_lt_of_le hb' hle)⟩
def retXF (P:Program) (rs:List ResultVar) (h:List (List SV)) (R:SV→Prop) (st:St):Prop:=
 (resL P st rs).2.2∧(resL P st rs).2.1.h.take h.length=h∧∃y,frzQ (resL P st rs).2.1.h h.length (resOut (resL P st rs).1) y∧R (.pv y)
attribute [simp] retXF
end Go.AX