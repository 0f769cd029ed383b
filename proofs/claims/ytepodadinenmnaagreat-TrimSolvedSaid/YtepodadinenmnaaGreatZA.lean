/-
  AX, part Ks: a map's keys, sorted, in one go: the map stays one's own.
-/
import Derived.Test.YtepodadinenmnaaGreatZk
namespace Go.AX
section
theorem Ci{P:aa}{ops:Array ai}{rest:List ai}{Q:Exit->Act->ab->Prop}:∀(l:List ai){st:St}{K:St->Prop}(_:lL P ops.toList K l st){g:Gh}{a:Act}{w:ab}(_:Sim g st a w)(_:cV g.N l=true)
 (_:∀st' g' b w',K st'->g.to g'->Sim g' st' b w'->wpList P ops Q rest b w'),wpList P ops Q (l++rest) a w
 |[],st,K,h,g,a,w,hs,_,c=>c st g a w h hs.refl_to hs
 |o::l,st,K,h,g,a,w,hs,hd,c=>by
  obtain⟨h1,j⟩:=iY hd;have:=jZ (ops:=ops) o h hs h1 (Q:=Q) (K':=wpList P ops Q (l++rest))
   (λst' g' b w' hk f s'=>Ci l hk s' (by rw[f.N];exact j) (λe g2 i p k n m=>c e g2 i p k (f.trans n) m))
  rw[Wh];unfold wpList;split;rename_i d;rw[Vt d]at this;exact .inl this;rename_i d;rw[Vs d]at this;exact this
def GW(es:dw):dw:=es.map λq=>(q.1,PV.bot)
theorem Cj{G a:Gh}:∀{es:dw}{en:List MapEntry},cu G es en->cu a (GW es) en
 |[],_,h=>h
 |_::_,_,⟨m,r,h1,b,_,c⟩=>⟨m,r,h1,b,trivial,Cj c⟩
def Qb(P:aa)(d fS a:az)(b c:Tmp)(a0:ae)(out:aT)(K:St->Prop)(st:St):Prop:=
 ∃(p:Pos)(nw:Bool)(es:dw),mv st a0=.al p∧gc st a0∧aj st p=.omap nw es∧P4 P d a∧Ew P fS a (.amap false (GW es)) (.own true 1 out)∧Da out∧
  K (jE (some c) (.own true 1 out) (st.put b (.pv .bot)))
theorem jF.keys{P:aa}{k0:Nat}{ops:Array ai}{K:St->Prop}{st:St}(pre post:List ai)(y x:ai)(G fS H:az)(m F:Tmp)(a0:ae)(tK tS:Array ah)(out:aT)
 (b:ops.toList=pre++y::x::post) (gK:y.guard=none) (gS:x.guard=none) (ak:y.op=.call {callee:=.value (.func G),args:=#[a0],argTypes:=tK}) (an:x.op=.call {callee:=.value (.func fS),args:=#[.tmp m],argTypes:=tS}) (dK:y.dst=some m) (dS:x.dst=some F)
 (h:lL P ops.toList (Qb P G fS H m F a0 out (lL P ops.toList K post)) pre st):jF P k0 ops K st:=by
 intro g a w h0 hs hd Q hQ;have t:=hd;rw[b]at hd;rw[b];have n:∀l:List ai,(∀o∈l,o∈ops.toList)->cV g.N l=true:=λl hl=>by
  unfold cV at t⊢;rw[Wa]at t⊢;exactλo ho=>t o (hl o ho)
 refine Ci pre h hs (n pre λo ho=>by rw[b];exact WG _ ho) λst1 L I f hk t1 E=>?_;obtain⟨p,nw,es,hm,hg,hp,⟨M,T,hA⟩,⟨O,hB⟩,V,hK⟩:=hk;have dk:m<L.N:=by
  have:=eO (n ops.toList λ_ h=>h) (i:=pre.length) (o:=y) (by rw[b];simp);rw[dK]at this;rw[t1.N];exact this
 have ds:F<L.N:=by
  have:=eO (n ops.toList λ_ h=>h) (i:=pre.length+1) (o:=x) (by rw[b];simp);rw[dS]at this;rw[t1.N];exact this
 obtain⟨u,v,hu,hv,s⟩:=mL E y (.func G) #[a0] tK G [] [] ak trivial rfl M;have Z:u.toList=[]:=hu;have ad:v.toList=[]:=hv;rw[Z,ad]at s;obtain⟨_,z⟩:=bm E a0 hg;rw[hm]at z;have r:(aj st1 p).isOwn=true:=by rw[hp];rfl
 have af:=z r;obtain⟨bl,hb⟩:=E.own;have A:=bT hb r;rw[hp]at A;obtain⟨c,ao,en,ck,e1,e2,e3,e4⟩:=A;have D:I.eval a0=.map (some c):=af.trans e1;have J:c<f.heap.size:=(VD.1 e2).1;unfold wpList;rw[Vt (by simp[Region.wanted,gK])];refine .inl ?_;unfold Oper.wp;rw[s,Oper.upon_enter];simp only[VP,Xg,WF,V8,D];refine(hA (some c) f).mono λe w2 ⟨R,ag⟩=>?_;subst R;subst ag;have q:∀k,k<f.heap.size->(f.alloc (.cells #[.map (some c)] T)).heap[k]?=f.heap[k]?:=λk hk=>heap_alloc_old f _ hk;obtain⟨s2,t2,_⟩:=E.grown (w':=f.alloc (.cells #[.map (some c)] T)) rfl (by simp) q (λ_=>none) (λ_ _ h=>by cases h);have s3:=s2.put (d:=m) (by exact dk) (sv:=.pv .bot) (v:=.func (.func H) #[] #[.pointer (some ⟨f.heap.size,0,none⟩)]) ⟨rfl,trivial⟩ trivial rfl;rw[dK];obtain⟨u',v',Y,ab,j⟩:=mL s3 x (.func fS) #[.tmp m] tS fS [] [] an trivial rfl O;have B:u'.toList=[]:=Y;have C:v'.toList=[]:=ab;rw[B,C]at j;have S:(I.put (some m) (.func (.func H) #[] #[.pointer (some ⟨f.heap.size,0,none⟩)])).eval (.tmp m)=.func (.func H) #[] #[.pointer (some ⟨f.heap.size,0,none⟩)]:=by
  have X:m<I.tmps.size:=by rw[E.size];exact dk
  simp[Act.eval,Act.put,X]
 show wpList P ops Q (x :: post) _ _; unfold wpList; rw [Vt (by simp [Region.wanted, gS])]; refine .inl ?_; unfold Oper.wp; rw [j, Oper.upon_enter]; simp only [VP, Xg, WF, V8, S]; refine (hB (f.alloc (.cells #[.map (some c)] T)) f.heap.size #[.map (some c)] T (.map (some c)) (heap_alloc_new f _) rfl ⟨c, en, ck, rfl, (q c J).trans e2, (λ h => by cases h), Cj e3, e4.2⟩).mono λ e w' ⟨v9, g', o', R, hE, hf, U, W⟩ => ?_; subst R; obtain ⟨g3, t3, s4⟩ := s3.result (d := some F) (by exact ds) hE hf U W ⟨rfl, V⟩; rw [dS]; exact ud post hK s4 (by
  rw[t3.N];show cV L.N post=true;rw[t1.N];exact n post λo ho=>by rw[b];exact Xi _ (VG _ (VG _ ho)))
  λst' g9 a' w9 k9 t9 s9=>hQ st' g9 a' w9 k9 (t1.trans (t2.trans (t3.trans t9))) s9
attribute [simp] Qb
end
end Go.AX
