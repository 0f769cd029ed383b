/-
  AX, part Ks: a map's keys, sorted, in one go: the map stays one's own.
-/
import Derived.Test.YtepodadinenmnaaGreatAxTb
import Derived.Test.YtepodadinenmnaaGreatAxR
namespace Go.AX
theorem wD{P:Program}{ops:Array Oper}{rest:List Oper}{Q:Exit→Act→World→Prop}:∀(l:List Oper){st:St}{K:St→Prop}(_:iM P ops.toList K l st){g:Gh}{a:Act}{w:World}(_:Sim g st a w)(_:cg g.N l=true)
 (_:∀st' g' a' w',K st'→g.to g'→Sim g' st' a' w'→wpList P ops Q rest a' w'),wpList P ops Q (l++rest) a w
 |[],st,K,h,g,a,w,hs,_,hQ=>hQ st g a w h hs.refl_to hs
 |o::l,st,K,h,g,a,w,hs,hd,hQ=>by
  obtain⟨h1,h2⟩:=kr hd;have:=ko (ops:=ops) o h hs h1 (Q:=Q) (K':=wpList P ops Q (l++rest))
   (fun st' g' a' w' hk t' s'=>wD l hk s' (by rw[t'.N];exact h2) (fun st2 g2 a2 w2 k2 t2 s2=>hQ st2 g2 a2 w2 k2 (t'.trans t2) s2))
  rw[List.cons_append];unfold wpList;split
  ·rename_i hw;rw[if_pos hw]at this;exact .inl this
  ·rename_i hw;rw[if_neg hw]at this;exact this
def Ap(es:List (Int×PV)):List (Int×PV):=es.map fun q=>(q.1,PV.bot)
theorem wE{G G':Gh}:∀{es:List (Int×PV)}{en:List MapEntry},bm G es en→bm G' (Ap es) en
 |[],_,h=>h
 |_::_,_,⟨m,r,h1,h2,_,h4⟩=>⟨m,r,h1,h2,trivial,wE h4⟩
def HL(P:Program)(fK fS kf:FuncId)(d1 d2:Tmp)(a0:Operand)(out:List (List PV))(K:St→Prop)(st:St):Prop:=
 ∃(p:Pos)(nw:Bool)(es:List (Int×PV)),mv st a0=.al p∧gc st a0∧aa st p=.omap nw es∧HA P fK kf∧IH P fS kf (.amap false (Ap es)) (.own true 1 out)∧A9 out∧
  K (km (some d2) (.own true 1 out) (st.put d1 (.pv .bot)))
theorem jW.keys{P:Program}{k0:Nat}{ops:Array Oper}{K:St→Prop}{st:St}(pre post:List Oper)(oK oS:Oper)(fK fS kf:FuncId)(d1 d2:Tmp)(a0:Operand)(tK tS:Array TypeId)(out:List (List PV))
 (hops:ops.toList=pre++oK::oS::post) (gK:oK.guard=none) (gS:oS.guard=none) (opK:oK.op=.call {callee:=.value (.func fK),args:=#[a0],argTypes:=tK}) (opS:oS.op=.call {callee:=.value (.func fS),args:=#[.tmp d1],argTypes:=tS}) (dK:oK.dst=some d1) (dS:oS.dst=some d2)
 (h:iM P ops.toList (HL P fK fS kf d1 d2 a0 out (iM P ops.toList K post)) pre st):jW P k0 ops K st:=by
 intro g a w h0 hs hd Q hQ;have hd':=hd;rw[hops]at hd;rw[hops];have hda:∀l:List Oper,(∀o∈l,o∈ops.toList)→cg g.N l=true:=fun l hl=>by
  unfold cg at hd'⊢;rw[List.all_eq_true]at hd'⊢;exact fun o ho=>hd' o (hl o ho)
 refine wD pre h hs (hda pre fun o ho=>by rw[hops];exact List.mem_append_left _ ho) fun st1 g1 a1 w1 hk t1 s1=>?_;obtain⟨p,nw,es,hm,hg,hp,⟨hcK,T,hA⟩,⟨hcS,hB⟩,hnw,hK⟩:=hk;have dk:d1<g1.N:=by
  have:=dy (hda ops.toList fun _ h=>h) (i:=pre.length) (o:=oK) (by rw[hops];simp);rw[dK]at this;rw[t1.N];exact this
 have ds:d2<g1.N:=by
  have:=dy (hda ops.toList fun _ h=>h) (i:=pre.length+1) (o:=oS) (by rw[hops];simp);rw[dS]at this;rw[t1.N];exact this
 obtain⟨u,v,hu,hv,hrun⟩:=qu s1 oK (.func fK) #[a0] tK fK [] [] opK trivial rfl hcK;have hu0:u.toList=[]:=hu;have hv0:v.toList=[]:=hv;rw[hu0,hv0]at hrun;obtain⟨_,hal⟩:=aL s1 a0 hg;rw[hm]at hal;have hown:(aa st1 p).isOwn=true:=by rw[hp];rfl
 have hva:=hal hown;obtain⟨bl,hb⟩:=s1.own;have hfs:=aX hb hown;rw[hp]at hfs;obtain⟨c,hbc,en,ck,e1,e2,e3,e4⟩:=hfs;have hval:a1.eval a0=.map (some c):=hva.trans e1;have clt:c<w1.heap.size:=(Array.getElem?_eq_some_iff.1 e2).1;unfold wpList;rw[if_pos (by simp[Region.wanted,gK])];refine .inl ?_;unfold Oper.wp;rw[hrun,Oper.upon_enter];simp only[List.map_cons,List.map_nil,List.append_nil,List.nil_append,hval];refine(hA (some c) w1).mono fun e w2 ⟨he,hw2⟩=>?_;subst he;subst hw2;have hold:∀k,k<w1.heap.size→(w1.alloc (.cells #[.map (some c)] T)).heap[k]?=w1.heap[k]?:=fun k hk=>heap_alloc_old w1 _ hk;obtain⟨s2,t2,_⟩:=s1.grown (w':=w1.alloc (.cells #[.map (some c)] T)) rfl (by simp) hold (fun _=>none) (fun _ _ h=>by cases h);have s3:=s2.put (d:=d1) (by exact dk) (sv:=.pv .bot) (v:=.func (.func kf) #[] #[.pointer (some ⟨w1.heap.size,0,none⟩)]) ⟨rfl,trivial⟩ trivial rfl;rw[dK];obtain⟨u',v',hu',hv',hrun'⟩:=qu s3 oS (.func fS) #[.tmp d1] tS fS [] [] opS trivial rfl hcS;have hu0':u'.toList=[]:=hu';have hv0':v'.toList=[]:=hv';rw[hu0',hv0']at hrun';have hev:(a1.put (some d1) (.func (.func kf) #[] #[.pointer (some ⟨w1.heap.size,0,none⟩)])).eval (.tmp d1)=.func (.func kf) #[] #[.pointer (some ⟨w1.heap.size,0,none⟩)]:=by
  have hsz:d1<a1.tmps.size:=by rw[s1.size];exact dk
  simp[Act.eval,Act.put,hsz]
 show wpList P ops Q (oS :: post) _ _; unfold wpList; rw [if_pos (by simp [Region.wanted, gS])]; refine .inl ?_; unfold Oper.wp; rw [hrun', Oper.upon_enter]; simp only [List.map_cons, List.map_nil, List.append_nil, List.nil_append, hev]; refine (hB (w1.alloc (.cells #[.map (some c)] T)) w1.heap.size #[.map (some c)] T (.map (some c)) (heap_alloc_new w1 _) rfl ⟨c, en, ck, rfl, (hold c clt).trans e2, (fun h => by cases h), wE e3, e4.2⟩).mono fun e w' ⟨v9, g', o', he, hE, hf, hic, ho'⟩ => ?_; subst he; obtain ⟨g3, t3, s4⟩ := s3.result (d := some d2) (by exact ds) hE hf hic ho' ⟨rfl, hnw⟩; rw [dS]; exact tZ post hK s4 (by
  rw[t3.N];show cg g1.N post=true;rw[t1.N];exact hda post fun o ho=>by rw[hops];exact List.mem_append_right _ (List.mem_cons_of_mem _ (List.mem_cons_of_mem _ ho)))
  fun st' g9 a' w9 k9 t9 s9=>hQ st' g9 a' w9 k9 (t1.trans (t2.trans (t3.trans t9))) s9
attribute [simp] HL
end Go.AX