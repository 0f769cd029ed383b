/-
  Engines: a conflict is resolved (plain law).
  Contracts: engines: what was learnt is told, and none forgotten where there are few.
  Contracts: engines: one is made.
  Contracts: engines: none is made; it begins again; there is nothing to resolve.
  Contracts: engines: the steps so far.
  Contracts of the law: few, call, Models.
  Contracts: the document's count of models.
-/
import Derived.Test.YtepodadinenmnaaGreatS14AxEgN
import Derived.Test.YtepodadinenmnaaGreatS14AxEgF
import Derived.Test.YtepodadinenmnaaGreatS14AxRnX
import Derived.Test.YtepodadinenmnaaGreatS14AxTtA
import Derived.Test.YtepodadinenmnaaGreatS14AxTmQ
import Derived.Test.YtepodadinenmnaaGreatAxTb
import Derived.Test.YtepodadinenmnaaGreatS14AxWaD
import Derived.Test.YtepodadinenmnaaGreatS14AxMovR
import Derived.Test.YtepodadinenmnaaGreatS14AxTmB
import Derived.Test.YtepodadinenmnaaGreatS14AxVaA
namespace Go.AX
open Go.Proofs
set_option linter.unusedSimpArgs false
def jb(E:ES):Tr:=if aI E=[]then E.T else d7 E.T (ed E.T (aI E))
def rB(E:ES)(q:HS)(p:List Bool)(k:Int):ES:={E with
 pf:=E.pf++[⟨1,E.id+1,aI E,(ic E).map (lh E.A)⟩],many:=E.many+1,q:=q,inc:=k,ph:=p,con:=-1,calm:=false,id:=E.id+1,A:=cX E.A (E.id+1) (aI E) true
 over:=E.over||decide ((aI E).length=0),S:=mY (cX E.A (E.id+1) (aI E) true) (jb E) E.S E.A.row.length
 T:=if aI E=[]then E.T else jx (jb E) ((aI E).headD 0) E.A.row.length,gl:=pt E.gl E.A.row.length (GG E.T (aI E))}
section
variable {n r s : Nat} {F : List (List Int)} {l : List Rc} {E : ES}
theorem ArI.arok{A:Ar}(h:ArI A l):jC A:=fun q hq=>by
 obtain⟨x,hx,e⟩:=h.rel.is q hq;obtain⟨p,e1,e2,_⟩:=h.rel.rows x hx;exact⟨p,_,by rw[←e,e1],e2⟩
theorem EI.arok(h:EI n F r s l E):jC E.A:=h.ari.arok
theorem EI.resd(h:EI n F (r+1) (s+(n+3)) l E)(hc:0≤E.con)(q:HS)(hq:HpTo n E.q q)(p:List Bool)(hp:p.length=n+1)(k:Int)(hk:0≤k∧k≤1000000000)(hin:∀z∈E.T.lits,z∉(jb E).lits→ab z∈q.row):
 iw (E.id+1) (aI E)=0∧EI n F r s (l++[⟨E.id+1,1,aI E⟩]) (rB E q p k):=by
 have R:=h.res hc;have hs:s+(3+(aI E).length)≤s+(n+3):=by have:=R.len;omega
 have h0:=(h.upd q hq.hp hq.mem k hk (E.pf++[⟨1,E.id+1,aI E,(ic E).map (lh E.A)⟩]) (E.many+1) E.gl).mono (Nat.le_refl _) hs;have hn9:=h.n9;have hlen:(aI E).length≤1000:=by have:=R.len;omega
 have hrT:jb E=if aI E=[]then E.T else d7 E.T (ed E.T (aI E)):=rfl;rcases R.lev with⟨c,e⟩|⟨u,w,e,b0,b1,b2,b3,b4⟩
 ·have h1:EI n F (r+1) (s+(3+(aI E).length)) l {E with q:=q,inc:=k,pf:=E.pf++[⟨1,E.id+1,aI E,(ic E).map (lh E.A)⟩],many:=E.many+1,con:=-1,calm:=false,ph:=p}:={h0.rest with ph:=hp};obtain⟨a1,_,a3⟩:=h1.add (c:=aI E) true hlen R.nd R.chk R.ent (fun k k0 kd=>by have kd:k≤(E.T.beg.length:Int):=kd;omega) rfl (show(-1:Int)<0 by decide) q hq.hp (fun _ hv=>hv);refine⟨a1,?_⟩;have:=a3.upd q hq.hp (fun _ hv=>hv) k hk (E.pf++[⟨1,E.id+1,aI E,(ic E).map (lh E.A)⟩]) (E.many+1) (pt E.gl E.A.row.length (GG E.T (aI E)));unfold rB;rw[hrT,if_pos e,if_pos e];exact this
 ·have hne:aI E≠[]:=fun e2=>by rw[e]at e2;cases e2
  rw[if_neg hne]at hrT;obtain⟨j,hj⟩:∃j:Nat,ed E.T (aI E)=j:=⟨(ed E.T (aI E)).toNat,by omega⟩;have hjl:j<E.T.beg.length:=by omega
  have hB:d7 E.T (ed E.T (aI E))=bZ E.T j:=by
   have e0:(if(j:Int)<0 then(0:Int)else j)=j:=if_neg (by omega);unfold d7;rw[hj,e0,if_pos (by omega)];rfl
  rw[hB]at hrT;rw[hrT]at hin;have h1:=h0.back hjl q hq.hp (fun _ hv=>hv) hin p hp;have hu:∀y∈aI E,-y∈E.T.lits:=R.neg;have hy1:∀y∈w,dB E.T y≤j:=fun y hy=>by have:=b3 y hy;omega
  have hdep:(eZ (bZ E.T j)).dep=j:=by show((bZ E.T j).beg.length:Int)=j;rw[(h.tok.back hjl).2.2,List.length_take];omega
  have hnd := R.nd; rw [e, List.nodup_cons] at hnd; obtain ⟨a1, _, a3⟩ := h1.add (c := aI E) true hlen R.nd R.chk R.ent (fun k k0 kd => by
   have kd:k≤(eZ (bZ E.T j)).dep:=kd;rw[hdep]at kd;rcases b4 with b4|⟨y,hy,b4⟩
   ·omega
   have hsub:∀z,z∈bel (eZ (bZ E.T j)) k→z∈bel (eZ E.T) k:=fun z hz=>by
    rw[wY h.tok hjl]at hz;obtain⟨x,hx,rfl⟩:=List.mem_map.1 hz;obtain⟨hx1,hx2⟩:=List.mem_filter.1 hx;exact List.mem_map.2 ⟨x,List.mem_filter.2 ⟨List.mem_of_mem_take hx1,hx2⟩,rfl⟩
   refine .inr ⟨u,y,by rw[e];simp,by rw[e];simp[hy],fun e2=>hnd.1 (e2▸hy),fun hm=>?_,fun hm=>?_⟩
   ·have:=AR h.tok (hsub _ hm);omega
   ·have:=AR h.tok (hsub _ hm);omega) rfl (show(-1:Int)<0 by decide) q hq.hp (fun _ hv=>hv)
  refine⟨a1,?_⟩;have h3:=a3.upd q hq.hp (fun _ hv=>hv) k hk (E.pf++[⟨1,E.id+1,aI E,(ic E).map (lh E.A)⟩]) (E.many+1) (pt E.gl E.A.row.length (GG E.T (aI E)));have hme:(⟨E.A.row.length,E.id+1,aI E⟩:Ro)∈bk 0 (l++[⟨E.id+1,eh true,aI E⟩]):=by
   rw[ja,Nat.zero_add,←h.ari.row];simp[bk,eh]
  have hlu:dB E.T u=E.T.beg.length:=b2;have hmu:-u∈E.T.lits:=hu u (by rw[e];simp);have hmay:eW (bZ E.T j) u=0:=by
   obtain⟨t1,t2,_⟩:=h.tok.back hjl;refine(t1.may u).2 ⟨R.chk u (by rw[e];simp),fun hm=>?_,fun hm=>?_⟩
   ·rw[t2]at hm;exact h.tok.one (List.mem_of_mem_take hm) hmu
   ·have:=(AP h.tok hjl hmu).1 hm;omega
  have h4 := h3.imp hme (u := u) (by rw [e]; simp) hmay (fun y hy hne2 => by
   have hy:y∈aI E:=hy;have hyw:y∈w:=by rw[e]at hy;exact(List.mem_cons.1 hy).resolve_left hne2
   exact(AP h.tok hjl (hu y hy)).2 (hy1 y hyw)) rfl (show(-1:Int)<0 by decide)
  have hh:(aI E).headD 0=u:=by rw[e];rfl
  unfold rB;rw[if_neg hne,hrT,hh];exact h4
end
theorem tx{α:Type}{l:List α}{i:Nat}(h:i<l.length):l.take (i+1)=l.take i++[l[i]]:=List.take_succ_eq_append_getElem h
theorem Fy:∀(l:List Rc)(p:Nat)(x:Rc),(bk p (l++[x])).map (·.at')=(bk p l).map (·.at')++(if x.side=2 then[]else[((p+(bd l).length:Nat):Int)]):=fun l p x=>by
 rw[ja,List.map_append];congr 1;show((if x.side=2 then[]else[_]):List Ro).map _=_;split<;>rfl
theorem rD:∀(l:List Rc)(p:Nat),(bk p l).length≤l.length
 |[],_=>Nat.le_refl _
 |x::l,p=>by
  have:=rD l (p+x.sz);rw[bk];split<;>simp<;>omega
theorem rE:∀(l:List Rc),l.length≤(bd l).length
 |[]=>Nat.le_refl _
 |x::l=>by
  have:=rE l;simp[bd];omega
set_option maxRecDepth 16000 in
theorem Hm(h:List (List SV))(b:Nat)(A:Ar)(hb:h[b]?=some (lf A))(l:List Rc)(hr:A.row=bd l)(hl:A.row.length≤1000000):aE Tryz.prog 192 [.ptr b 0] h (fun r h'=>h'=h∧r=.pv (.seq true 1 (af (rA l)))):=by
 refine lc [] [.tmp 2] aG Tryz.func192 (by kernel_rfl) rfl rfl (by kernel_rfl) (Nat.le_of_ble_eq_true rfl) ?_;obtain⟨hlt,hb'⟩:=List.getElem?_eq_some_iff.1 hb;simp;refine ak.intro (qL h b A hb) (by simp) ?_;rintro _ h ⟨rfl,rfl⟩;simp;refine aH.intro (S:=fun(i:Nat)=>⟨[(0,.pv (.ptr b 0)),(3,.own true 1 (af (rA (l.take i)))),(4,.pv (ae (bd (l.take i)).length))],h⟩) (fun i=>i≤l.length) (fun i=>l.length -i) 0 ?_ (Nat.zero_le _) ?_
 ·exact(aj.nilOwn (s:=3) 1 true (by simp)).trans (aj.keep (by simp[rA,bk,bd,af]) rfl)
 intro i hi
 by_cases c:i<l.length
 ·obtain⟨a,hA⟩:∃a,l.take i=a:=⟨_,rfl⟩;obtain⟨x,hx⟩:∃x,l[i]=x:=⟨_,rfl⟩;have hsp:l=a++x::l.drop (i+1):=by rw[←hA,←hx,←List.drop_eq_getElem_cons c,List.take_append_drop]
  obtain⟨q1,q2,q3,q4,q5⟩:=uU a x (l.drop (i+1));rw[←hsp,←hr]at q1 q2 q3 q4 q5;have e1:l.take (i+1)=a++[x]:=by rw[tx c,hA,hx]
  have e2:(bd (a++[x])).length=(bd a).length+(3+x.lits.length):=by rw[i9];simp[bd];omega
  have e3:=Fy a 0 x;have e3:rA (a++[x])=rA a++(if x.side=2 then[]else[((bd a).length:Int)]):=by rw[Nat.zero_add]at e3;exact e3
  generalize hp:(bd a).length=p at*;have hlp:p<A.row.length:=by omega
  have hlp1:p+1<A.row.length:=by omega
  have hlp2:p+2<A.row.length:=by omega
  have g1:A.row[p+1]=x.lits.length:=by rw[List.getD_eq_getElem?_getD,List.getElem?_eq_getElem hlp1]at q2;exact q2
  have g2:A.row[p+2]=x.side:=by rw[List.getD_eq_getElem?_getD,List.getElem?_eq_getElem hlp2]at q3;exact q3
  have w1:aM ((p:Int)+1)=((p+1:Nat):Int):=by rw[ah (by omega) (by omega)];omega
  have w2:aM ((p:Int)+2)=((p+2:Nat):Int):=by rw[ah (by omega) (by omega)];omega
  have w3:aM ((3:Int)+x.lits.length)=((3+x.lits.length:Nat):Int):=by rw[ah (by omega) (by omega)];omega
  have w4:aM ((p:Int)+(3+x.lits.length))=((p+(3+x.lits.length):Nat):Int):=by rw[ah (by omega) (by omega)];omega
  have t1:((p:Int)+1).toNat=p+1:=by omega
  have t2:((p:Int)+2).toNat=p+2:=by omega
  have g1':A.row[p+1]?=some (x.lits.length:Int):=by rw[List.getElem?_eq_getElem hlp1,g1]
  have g2':A.row[p+2]?=some x.side:=by rw[List.getElem?_eq_getElem hlp2,g2]
  have i1:(p:Int)+1<A.row.length:=by omega
  have i2:(p:Int)+2<A.row.length:=by omega
  have j1:(0:Int)≤(p:Int)+1:=by omega
  have j2:(0:Int)≤(p:Int)+2:=by omega
  have hra:(rA a).length≤a.length:=by unfold rA;rw[List.length_map];exact rD a 0
  have hal:a.length≤A.row.length:=by have:=rE a;omega
  by_cases d:x.side=2
  ·rw[if_pos d,List.append_nil]at e3;simp[hA,hp,hb',hlt,lf,hlp,g1,g2,w2,t2,g2',i2,j2,d,w1,t1,g1',i1,j1,hlp1,hlp2,w3,w4];exact⟨i+1,by(try dsimp only);omega,by(try dsimp only);omega,aj.keep (by simp[e1,e2,e3]) rfl⟩
  ·rw[if_neg d]at e3;simp[hA,hp,hb',hlt,lf,hlp,g1,g2,w2,t2,g2',i2,j2,d,w1,t1,g1',i1,j1,hlp1,hlp2,w3,w4];exact⟨by omega,i+1,by(try dsimp only);omega,by(try dsimp only);omega,aj.keep (by simp[e1,e2,e3,af]) rfl⟩
 ·have hie:i=l.length:=by omega
  subst hie;have hc:¬(bd l).length<A.row.length:=by rw[hr];omega
  simp[hb',hlt,lf,hc,cz,cI]
section
variable {h : List (List SV)} {be bt ba bw bh : Nat} {mp : List (Int × Nat)} {mb : List (Int × By)} {E : ES}
set_option maxRecDepth 16000 in
theorem za(L:LayE h be bt ba bw bh mp mb E){l:List Rc}(hA:ArI E.A l)(hl:E.A.row.length≤1000000)(hT:E.T.ok):
 aE Tryz.prog 115 [.ptr be 0] h (fun r h'=>h'=h∧∃gs:List Gr,r=.pv (.seq true 4 (gs.map HF))∧gs.length≤((rA l).filter (nQ E.A)).length):=by
 refine dh [] [.tmp 2] aG Tryz.func115 (by kernel_rfl) rfl rfl (by kernel_rfl) (Nat.le_of_ble_eq_true rfl) ?_;obtain⟨hlt,hb'⟩:=List.getElem?_eq_some_iff.1 L.e;have kA:=Hm h ba E.A L.w.a l hA.row hl;have hz:=cu L.w.t 2;have hrl:(rA l).length≤1000000:=by
  have h1:=rD l 0;have h2:=rE l;rw[←hA.row]at h2;unfold rA;rw[List.length_map];omega
 simp[hb',hlt,bI];refine ak.intro kA (by simp) ?_;rintro _ h ⟨rfl,rfl⟩;simp;refine aH.intro (S:=fun(x:Nat×List Gr)=>⟨[(0,.pv (.ptr be 0)),(3,.own true 4 (x.2.map HF)),(11,.pv (.seq true 1 (af (rA l)))),(12,.pv (ae (rA l).length)),(13,.pv (ae x.1))],h⟩)
  (fun x=>x.1≤(rA l).length∧x.2.length≤(((rA l).take x.1).filter (nQ E.A)).length) (fun x=>(rA l).length -x.1) (0,[]) ?_ ⟨Nat.zero_le _,Nat.zero_le _⟩ ?_
 ·exact(aj.nilOwn (s:=3) 4 true (by simp)).trans (aj.keep (by simp) rfl)
 rintro⟨i,gs⟩ ⟨hi,hg⟩;dsimp only at hi hg
 by_cases c:i<(rA l).length
 ·have hw:aM ((i:Int)+1)=((i+1:Nat):Int):=by rw[ah (by omega) (by omega)];omega
  obtain⟨y,hy,e⟩:=List.mem_map.1 (List.getElem_mem c);have his:isA E.A (rA l)[i]=true:=(hA.isA _).2 ⟨y,hy,e⟩;have hge:=iD l 0 y hy;rw[←hA.row]at hge;have kL:=yP h ba E.A L.w.a (rA l)[i] (fun _=>by rw[←e];omega) (by omega);have kS:=tg h ba E.A L.w.a hA.arok hl (rA l)[i] his;have hll:(aq E.A (rA l)[i]).length≤1000000:=by
   rw[←e,(hA.at hy).1];omega
  have kK:=BE E.T hT (rA l)[i] (aq E.A (rA l)[i]) hll;have hcnt:(((rA l).take (i+1)).filter (nQ E.A)).length=(((rA l).take i).filter (nQ E.A)).length+if nQ E.A (rA l)[i]=true then 1 else 0:=by
   rw[tx c,List.filter_append,List.length_append];congr 1;simp only[List.filter_cons,List.filter_nil];split<;>rfl
  have hgl:gs.length≤i:=by have:=List.length_filter_le (nQ E.A) ((rA l).take i);rw[List.length_take]at this;omega
  generalize hat:(rA l)[i]=at' at*;simp[c,hb',hlt,bI,hat];refine ak.intro kL (by simp) ?_;rintro _ h ⟨rfl,rfl⟩;cases d:nQ E.A at'
  ·rw[d]at hcnt;simp[d];exact⟨(i+1,gs),by(try dsimp only);omega,⟨by(try dsimp only);omega,by simpa[hcnt]using hg⟩,aj.keep (by simp[hw]) rfl⟩
  ·rw[d]at hcnt;simp[d,hb',hlt,bI];refine ak.intro kS (by simp) ?_;rintro _ h ⟨rfl,rfl⟩;simp[hb',hlt,bI,hz];refine bs.intro kK (by simp) ?_;simp[hb',hlt,bI,hz];refine⟨by omega,?_⟩;exact⟨(i+1,gs++[⟨at',(lk E.gl at').getD 0,(aq E.A at').length,DJ E.T at' (aq E.A at')⟩]),by(try dsimp only);omega,⟨by(try dsimp only);omega,by simp[hcnt];omega⟩,aj.keep (by simp[hw,HF]) rfl⟩
 ·have hie:i=(rA l).length:=by omega
  subst hie;rw[List.take_length]at hg;simp;exact⟨gs,rfl,hg⟩
theorem zb(l:List Gr)(keep:Int)(hk:(l.length:Int)≤keep):ao Tryz.prog 114 [.seq false 4 (l.map HF),ae keep] (fun r=>r=.pv (.lit (.slice none 0 0))):=by
 refine aw aG Tryz.func114 (by kernel_rfl) rfl rfl (by kernel_rfl) (Nat.le_of_ble_eq_true rfl) ?_;simp[hk]
def HR:Sch:=
 let s0:Sch:=.fork [(6,.take 7 .done)]
 let s1:Sch:=.fork [(5,s0)]
 let s2:Sch:=.fork [(1,s0)]
 .take 0 (.take 2 (.take 3 (.take 4 (.fork [(1,s1),(5,s2)]))))
set_option maxRecDepth 16000 in
theorem xb(L:LayE h be bt ba bw bh mp mb E){l:List Rc}(hA:ArI E.A l)(hl:E.A.row.length≤1000000)(hT:E.T.ok)(hk:(((rA l).filter (nQ E.A)).length:Int)≤E.keep):
 aE Tryz.prog 53 [.ptr be 0] h (fun r h'=>h'=h∧r=.pv (ae 0)):=by
 refine fA [3,7] [.tmp 2] aG Tryz.func53 (by kernel_rfl) rfl rfl (by kernel_rfl) (Nat.le_of_ble_eq_true rfl) ?_;obtain⟨hlt,hb'⟩:=List.getElem?_eq_some_iff.1 L.e;have kE:=za L hA hl hT;simp;refine ak.intro (dv L.e) (by simp) ?_;rintro _ h ⟨rfl,rfl⟩;cases ho:E.over
 rotate_left
 ·simp[hb',hlt,bI,ho]
 by_cases c:0≤E.con
 ·simp[hb',hlt,bI,ho,c]
 simp[hb',hlt,bI,ho,c];refine aY.meet HR ⟨[(0,.pv (.ptr be 0)),(2,.pv (ae 0)),(3,.pv (.lit (.slice none 0 0)))],h⟩ (by kernel_rfl) ?_ ?_
 ·simp[HR,hb',hlt,bI]
  repeat' first
   |trivial
   |refine And.intro ?_ ?_
   |(refine ak.intro kE (by simp) ?_;rintro _ h ⟨rfl,gs,rfl,hg⟩;have kF:=zb gs E.keep (by omega);simp[hb',hlt,bI])
   |(refine am.intro kF (by simp) ?_;simp;exact aj.keep (by simp) rfl)
 ·simp
end
theorem m7(q r:Pos→Bool)(t:List (Nat×SV))(s:Nat):look (t.map ((fun p=>(p.1,cb q p.2))∘fun p=>(p.1,cb r p.2))) s=cb q (cb r (look t s)):=by
 rw[←List.map_map,bK,bK]
theorem tz:∀L:List (List Int),DI (L.map nv) (L.map aO)
 |[]=>trivial
 |c::L=>⟨by simp[nv,aO,cI,cz],tz L⟩
theorem Sim.leF{g:Gh}{st st':St}{a:Act}{w:World}(h:Sim g st a w)(hp:∀p,aa st' p=aa st p∨∃x y,aa st p=.pv x∧aa st' p=.pv y∧∀g v,Fit g x v→Fit g y v)(hl:st'.h.length=st.h.length)(hb:∀b,(st'.h.getD b []).length=(st.h.getD b []).length):Sim g st' a w:=by
  obtain⟨bl,ho⟩:=h.own
  have hw:∀p,(aa st' p).isOwn=(aa st p).isOwn:=fun p=>by
    rcases hp p with e|⟨x,y,e1,e2,_⟩
    · rw[e]
    · rw[e1,e2];rfl
  have hown:∀p nw e rows,aa st' p=.own nw e rows→aa st p=.own nw e rows:=fun p nw e rows he=>by
    rcases hp p with e1|⟨x,y,_,e2,_⟩
    · rw[←e1];exact he
    · rw[e2]at he;cases he
  have hal:∀{sv:SV}{v:Value},bN g st a w sv v→bN g st' a w sv v:=by
    intro sv
    induction sv with
    |al p=>intro v hv ho';exact hv (by rw[←hw];exact ho')
    |loc p lo hi=>intro v hv nw e rows he;exact hv nw e rows (hown _ _ _ _ he)
    |sptr p i k=>intro v hv nw e rows he;exact hv nw e rows (hown _ _ _ _ he)
    |agl xs=>intro v hv k x p hk ho';exact hv k x p hk (by rw[←hw];exact ho')
    |opt c x ih=>intro v hv hc;exact ih (hv hc)
    |_=>intro v _;trivial
  have hf:∀p v o,av g w (aa st p) v o→av g w (aa st' p) v o:=fun p v o hs=>by
    rcases hp p with e|⟨x,y,e1,e2,hf⟩
    · rw[e];exact hs
    · rw[e1]at hs;rw[e2];exact⟨hs.1,hf _ _ hs.2⟩
  refine { size := h.size, defs := h.defs, env := h.env, n := by rw [hl]; exact h.n, n0 := h.n0, B := h.B, I := h.I, F := h.F, μI := h.μI, μinj := h.μinj,
           own:=⟨bl,{slots:=fun s=>hf (.slot s) _ _ (ho.slots s),blocks:=fun b xs' hx=>?_,inj:=ho.inj,free:=ho.free}⟩,al:=fun s=>?_}
  · have hlt:b<st.h.length:=by rw[←hl];exact(List.getElem?_eq_some_iff.1 hx).1
    have hlen:xs'.length=(st.h[b]).length:=by
      have:=hb b
      rw[List.getD_eq_getElem?_getD,List.getD_eq_getElem?_getD,hx,List.getElem?_eq_getElem hlt]at this
      simpa using this
    obtain⟨arr,T,e1,e2,e3⟩:=ho.blocks b _ (List.getElem?_eq_getElem hlt)
    refine⟨arr,T,e1,⟨by rw[hlen];exact e2.1,e2.2⟩,fun k x hk=>?_⟩
    have hkl:k<(st.h[b]).length:=by rw[←hlen];exact(List.getElem?_eq_some_iff.1 hk).1
    have g1:aa st' (.cell b k)=x:=by simp only[aa,List.getD_eq_getElem?_getD,hx,Option.getD_some,hk]
    have g2:aa st (.cell b k)=(st.h[b])[k]:=by simp only[aa,List.getD_eq_getElem?_getD,List.getElem?_eq_getElem hlt,Option.getD_some,List.getElem?_eq_getElem hkl]
    obtain⟨c1,c2⟩:=e3 k _ (List.getElem?_eq_getElem hkl)
    have h4:=hf (.cell b k) (arr.getD k undef) (bl (.cell b k)) (by rw[g2];exact c2)
    rw[g1]at h4
    refine⟨?_,h4⟩
    rcases hp (.cell b k)with e|⟨u,v,_,e,_⟩
    · rw[←g1,e,g2];exact c1
    · rw[←g1,e];rfl
  · have h5:=h.al s
    rcases hp (.slot s)with e|⟨x,y,_,e,_⟩
    · simp only[aa]at e;rw[e];exact hal h5
    · simp only[aa]at e;rw[e];trivial
theorem aj.fitC{k0:Nat}{st:St}{b k:Nat}{xs:List SV}{x y:PV}(hx:st.h[b]?=some xs)(hk:xs[k]?=some (.pv x))(hf:∀g v,Fit g x v→Fit g y v):aj k0 st ⟨st.t,st.h.set b (xs.set k (.pv y))⟩:=fun g a w _ hs=>by
 obtain⟨hb,hx'⟩:=List.getElem?_eq_some_iff.1 hx;obtain⟨hkl,hk'⟩:=List.getElem?_eq_some_iff.1 hk;have hD:st.h.getD b []=xs:=by rw[List.getD_eq_getElem?_getD,hx];rfl
 have hg:∀c,(st.h.set b (xs.set k (.pv y))).getD c []=if c=b then xs.set k (.pv y)else st.h.getD c []:=fun c=>by
  simp only[List.getD_eq_getElem?_getD,List.getElem?_set]
  by_cases e:c=b
  ·subst e;rw[if_pos rfl,if_pos hb,if_pos rfl];rfl
  ·rw[if_neg (fun q=>e q.symm),if_neg e]
 refine⟨g,hs.refl_to,hs.leF (fun p=>?_) (by simp) (fun c=>?_)⟩
 ·cases p with
  |slot s=>exact .inl rfl
  |cell c j=>
   simp only[aa];rw[hg]
   by_cases e:c=b
   ·subst e;rw[if_pos rfl,hD]
    by_cases e2:j=k
    ·subst e2;exact .inr ⟨x,y,by rw[List.getD_eq_getElem?_getD,hk];rfl,by rw[List.getD_eq_getElem?_getD,List.getElem?_set_self hkl];rfl,hf⟩
    ·left;simp only[List.getD_eq_getElem?_getD];rw[List.getElem?_set_ne (fun q=>e2 q.symm)]
   ·rw[if_neg e];exact .inl rfl
 ·rw[hg];split
  ·rename_i e;subst e;rw[hD];simp
  ·rfl
def mq(k:Int):Int:=if 100<(if 1000000<k then 1000000 else k)then(if 1000000<k then 1000000 else k)else 100
def o4(k:Int):Int:=if 0<(if 100<k then 100 else k)then(if 100<k then 100 else k)else 0
def fj(n:Nat)(cs:List (List Int))(kp dc:Int):ES:=⟨iP n,⟨[],[]⟩,⟨[],[],[],0,[]⟩,lW n,n,cs,List.replicate (n+1) false,mq kp,o4 dc,64,0,-1,false,0,false,[],[]⟩
def Fz(ba bt:Nat):List SV:=[.pv (.ptr ba 0),.pv (.ptr bt 0),.omap true [],.omap true [],.omap true [],.pv (ae 0),.pv (.lit (.slice none 0 0))]
def FZ(bt ba bw bh n:Nat)(cs:List (List Int))(kp dc:Int):List SV:=[.pv (.ptr bt 0),.pv (ae n),.pv (.seq true 1 (cs.map nv)),.pv (.ptr ba 0),.pv (.ptr bw 0),.pv (.ptr bh 0),.own true 1 (List.replicate (n+1) [BL false]),.pv (ae (mq kp)),.pv (ae (o4 dc)),.pv (ae 64),.pv (ae 0),.pv (ae (-1)),.pv (BL false),.pv (ae 0),.pv (BL false),.pv (.lit (.slice none 0 0)),.omap true []]
def rU(h:List (List SV))(x y:List SV)(E:ES):List (List SV):=h++[x,y,fB E.T,ap E.q,lf E.A,b9 (h.length+4) (h.length+2) ⟨[],[],[],0,[]⟩,bI (h.length+2) (h.length+4) (h.length+5) (h.length+3) E]
theorem FA(h:List (List SV))(x y:List SV)(E:ES)(hS:E.S=⟨[],[],[],0,[]⟩):LayE (rU h x y E) (h.length+6) (h.length+2) (h.length+4) (h.length+5) (h.length+3) [] [] E where
 w:={
  w:=by rw[hS];simp[rU]
  a:=by simp[rU]
  t:=by simp[rU]
  wa:=by omega
  wt:=by omega
  at':=by omega
  keys:=by rw[hS];rfl
  pr:=fun k b hb=>by simp[lk]at hb
  pinj:=fun k k' b hb=>by simp[lk]at hb
  by':=fun l e he=>by simp[lk]at he
  byn:=fun l _=>by rw[hS];simp[lk]
  binj:=fun l l' e e' he=>by simp[lk]at he
  pb:=fun k b l e hb=>by simp[lk]at hb}
 e:=by simp[rU]
 q:=by simp[rU]
 ne:=by omega
 eo:=⟨fun d=>by rcases d with d|d|⟨k,d⟩|⟨l,e,d,_⟩<;>first|omega|simp[lk]at d,by omega⟩
 ho:=⟨fun d=>by rcases d with d|d|⟨k,d⟩|⟨l,e,d,_⟩<;>first|omega|simp[lk]at d,by omega⟩
theorem FB(h:List (List SV))(x y:List SV)(E:ES):Ext h (rU h x y E) (fun _=>False) (d9 (h.length+6) (h.length+2) (h.length+4) (h.length+5) (h.length+3) [] [])where
 len:=by simp[rU]
 same:=fun b hb _=>List.getElem?_append_left hb
 sub:=fun b hb d=>by
  rcases d with d|d|d|d|d|⟨k,d⟩|⟨l,e,d,_⟩<;>first|omega|simp[lk]at d
theorem Ho{n:Nat}(hn:n≤400)(F cs:List (List Int))(kp dc:Int){r s:Nat}(hr:r≤1000000)(hs:s≤1000000):EI n F r s [] (fj n cs kp dc)where
 n9:=hn
 tok:=TOk.new (by omega)
 wok:={nd:=by simp[fj],lits:=fun k p h=>by simp[fj,lk]at h,lnd:=by simp[fj],lpr:=fun k h=>by simp[fj]at h,two:=fun k p h=>by simp[fj,lk]at h,bnd:=fun l=>by simp[fj,bF,lk],mem:=fun l k=>by simp[fj,bF,lk],few:=by simp[fj],h0:=by simp[fj],h1:=by simp[fj],sl:=by simp[fj],clr:=by simp[fj,ml]}
 prz:=by simp[fj];omega
 ari:=ArI.new
 rsz:=by simp[fj];omega
 idz:=by simp[fj];omega
 ids:=by simp
 cls:=fun x hx=>by simp[bk]at hx
 att:=fun k c=>by simp[CW,fj,lk,bk]
 ef:=by
  have:eZ (fj n cs kp dc).T=⟨n,[],0⟩:=by simp[eZ,fj,iP]
  rw[this];exact EF.new _
 ent:=fun x hx=>by simp[bk]at hx
 ovr:=by simp[fj,bk]
 hp:=Fa n
 inh:=fun v h1 h2 _=>by
  simp only[fj,lW,List.mem_map,List.mem_range];exact⟨(v -1).toNat,by omega,by omega⟩
 ph:=by simp[fj]
 cal:=fun h=>by simp[fj]at h
 con:=fun h=>by simp[fj]at h
 dcy:=by simp only[fj,o4];split<;>split<;>omega
 inc:=by simp[fj]
theorem IS{l:List Rc}{x:Rc}(hs:x.side≠2):rC (l++[x])=rC l++[x.lits]:=by
 unfold rC;rw[ja];simp[bk,hs]
theorem Hp{c:List Int}{m:Int}(h:iR c m=0):c.length≤1000∧c.Nodup∧∀y∈c,ax y m=0:=by
 unfold iR at h;split at h
 ·omega
 ·rename_i h0;split at h
  ·omega
  ·split at h
   ·omega
   ·split at h
    ·rename_i h1 h2 h3;refine⟨by omega,BN h3,fun y hy=>?_⟩;have:rK y m=true:=by
      have h4:(c.all fun x=>rK x m)=true:=by simpa using h2
      exact List.all_eq_true.1 h4 y hy
     unfold ax;rw[if_neg h0,if_pos this]
    ·omega
theorem tA{v:Int}:∀{L:List (List Int)}{i:Nat},(jR v L i).2=0→∀c∈L,iR c v=0
 |[],_,_,_,hc=>by cases hc
 |d::L,i,h,c,hc=>by
  rw[jR]at h
  by_cases h1:iR d v≠0
  ·rw[if_pos h1]at h;exact absurd h h1
  rw[if_neg h1]at h;rcases List.mem_cons.1 hc with rfl|hc
  ·simpa using h1
  by_cases h2:sM d=true
  ·rw[if_pos h2]at h;exact absurd h (by show¬((11:Int)=0);decide)
  ·rw[if_neg h2]at h;exact tA h c hc
theorem IT{n:Nat}{cs:List (List Int)}(h:(oB n cs).2=0):∀c∈cs,c.length≤1000∧c.Nodup∧∀y∈c,ax y n=0:=fun c hc=>by
 have h1:(jR n cs 0).2=0:=by
  unfold oB at h;split at h
  ·cases h
  ·split at h
   ·cases h
   ·exact h
 exact Hp (tA h1 c hc)
structure NewOk (n:Nat) (cs:List (List Int)) (kp:Int) (E:ES) (l:List Rc) (L:List (List Int)):Prop where
  T:E.T=iP n
  vars:E.vars=n
  cs:E.cs=cs
  keep:E.keep=mq kp
  pf:E.pf=[]
  many:E.many=0
  calm:E.calm=false
  con:E.con=-1
  rc:rC l=L
  side:∀x∈l,x.side=0
def MY(n:Nat)(cs:List (List Int))(kp:Int)(r s:Nat)(h:List (List SV))(y:SV)(h':List (List SV)):Prop:=∃be bt ba bw bh mp E l,y=.pv (.tup [.ptr be 0,ae 0])∧LayE h' be bt ba bw bh mp [] E∧Ext h h' (fun _=>False) (d9 be bt ba bw bh mp [])∧EI n cs r s l E∧NewOk n cs kp E l cs
set_option maxRecDepth 16000 in
set_option maxHeartbeats 1000000 in
theorem uW(h:List (List SV))(n:Nat)(hn:n≤400)(cs:List (List Int))(rs kp dc:Int)(hc:cs.length≤1000000)(hcl:∀c∈cs,c.length≤1000000)(hk:(oB n cs).2=0){r s:Nat}(hr:cs.length+r≤1000000)(hs:cs.length*1003+s≤1000000):
 aE Tryz.prog 21 [.agg [ae n,.seq false 1 (cs.map aO)],.agg [ae rs,ae kp,ae dc]] h (MY n cs kp r s h):=by
 have hn9:n≤900:=by omega
 refine dh [9] [.tmp 4,.tmp 5] aG Tryz.func21 (by kernel_rfl) rfl rfl (by kernel_rfl) (Nat.le_of_ble_eq_true rfl) ?_;have kC:=An n cs hcl;rw[hk]at kC;have h9:¬(900:Int)<n:=by omega
 have kT:=fun g=>Gu g n (by omega);simp;refine am.intro kC (by simp) ?_;simp[h9];refine am.introM (kT _) (by simp) ?_;rintro _ _ ⟨rfl,rfl⟩;simp;have kH:=fun g=>He g n;refine am.introM (kH _) (by simp) ?_;rintro _ _ hh;rw[if_pos (by omega)]at hh;obtain⟨rfl,rfl⟩:=hh;simp;refine am.introM (GF _) (by simp) ?_;rintro _ _ ⟨rfl,rfl⟩;simp;have kW:=GW n cs hc hcl;generalize hH:h++[[.pv (ae n),.pv (.seq false 1 (cs.map aO))],[.pv (ae rs),.pv (ae kp),.pv (ae dc)],[.own true 4 ((iP n).marks.map nV),.pv (.lit (.slice none 0 0)),.pv (.lit (.slice none 0 0)),.pv (BL true)],ap (lW n),Jv]=H;have hHl:H.length=h.length+5:=by rw[←hH];simp
 have hf0:∀hh,H[h.length]'hh=[.pv (ae n),.pv (.seq false 1 (cs.map aO))]:=by subst hH;intro hh;simp
 have hf1:∀hh,H[h.length+1]'hh=[.pv (ae rs),.pv (ae kp),.pv (ae dc)]:=by subst hH;intro hh;simp
 have hg0:∀g hh,(H++g)[h.length]'hh=[.pv (ae n),.pv (.seq false 1 (cs.map aO))]:=fun g hh=>by rw[List.getElem_append_left (by omega)];exact hf0 _
 have hg1:∀g hh,(H++g)[h.length+1]'hh=[.pv (ae rs),.pv (ae kp),.pv (ae dc)]:=fun g hh=>by rw[List.getElem_append_left (by omega)];exact hf1 _
 have hF0:H[h.length]?=some [.pv (ae n),.pv (.seq false 1 (cs.map aO))]:=by rw[List.getElem?_eq_getElem (by omega),hf0]
 have hF1:H[h.length+1]?=some [.pv (ae rs),.pv (ae kp),.pv (ae dc)]:=by rw[List.getElem?_eq_getElem (by omega),hf1]
 have hG0:∀g,(H++g)[h.length]?=some [.pv (ae n),.pv (.seq false 1 (cs.map aO))]:=fun g=>by rw[List.getElem?_append_left (by omega),hF0]
 have hG1:∀g,(H++g)[h.length+1]?=some [.pv (ae rs),.pv (ae kp),.pv (ae dc)]:=fun g=>by rw[List.getElem?_append_left (by omega),hF1]
 have hw:aM ((n:Int)+1)=(n:Int)+1:=ah (by omega) (by omega);have hw2:((n:Int)+1).toNat=n+1:=by omega
 refine aY.tab [] ⟨[some (40,.pv (.ptr (h.length+2) 0)),some (41,.pv (.agg [ae n,.seq false 1 (cs.map aO)])),some (42,.pv (.agg [ae n,.seq true 1 (cs.map nv)])),some (43,.pv (.ptr (h.length+4) 0)),some (44,.pv (.ptr (h.length+4) 0)),some (45,.pv (.ptr (h.length+2) 0)),some (46,.pv (.ptr (h.length+5) 0)),some (47,.pv (.ptr (h.length+3) 0)),some (48,.pv (.ptr h.length 0)),some (49,.pv (ae n)),some (50,.pv (ae ((n:Int)+1))),some (51,.own true 1 (List.replicate (n+1) [BL false])),some (52,.pv (.ptr (h.length+1) 1)),some (53,.pv (ae kp)),some (54,.pv (ae (if 1000000<kp then 1000000 else kp))),some (55,.pv (ae (mq kp))),some (56,.pv (.ptr (h.length+1) 2)),some (57,.pv (ae dc)),some (58,.pv (ae (if 100<dc then 100 else dc))),some (59,.pv (ae (o4 dc))),some (60,.omap true []),some (61,.agl [(.ptr (h.length+2) 0,none),(ae n,none),(.seq true 1 (cs.map nv),none),(.ptr (h.length+4) 0,none),(.ptr (h.length+5) 0,none),(.ptr (h.length+3) 0,none),(.bot,some (.slot 51)),(ae (mq kp),none),(ae (o4 dc),none),(ae 64,none),(ae 0,none),(ae (-1),none),(BL false,none),(ae 0,none),(BL false,none),(.lit (.slice none 0 0),none),(.bot,some (.slot 60))]),some (62,.pv (.ptr (h.length+6) 0)),some (13,.pv (.ptr (h.length+6) 0))],[(2,.pv (.ptr h.length 0)),(3,.pv (.ptr (h.length+1) 0)),(8,.pv (.ptr (h.length+2) 0)),(10,.pv (.ptr (h.length+3) 0)),(12,.pv (.ptr (h.length+4) 0))],[[],[],[1],[],[],[],[4,5],[],[],[8],[9],[10],[],[12],[13],[14],[],[16],[17],[18],[],[0,2,3,6,7,11,15,19,20],[11,20,21],[22]],[6,21,22],[[0,1],[0],[0],[0,1],[0],[0],[0],[0,1],[0,1,2,3],[0,1],[0,1],[0,1],[0,1,2,3],[0,1],[0,1],[0,1],[0,1,2,3],[0,1],[0,1],[0,1],[0,1],[1],[2],[3]],[(11,61),(20,61),(22,51),(22,60),(22,61)],fun|0=>H|1=>H++[Fz (h.length+4) (h.length+2)]|2=>H++[Fz (h.length+4) (h.length+2)]|_=>H++[Fz (h.length+4) (h.length+2),FZ (h.length+2) (h.length+4) (h.length+5) (h.length+3) n cs kp dc]⟩ ⟨[(2,.pv (.ptr h.length 0)),(13,.pv (.ptr (h.length+6) 0))],H++[Fz (h.length+4) (h.length+2),FZ (h.length+2) (h.length+4) (h.length+5) (h.length+3) n cs kp dc]⟩ (by kernel_rfl) (by simp[aZ]) rfl ?_ (fun t h1 h2=>?_) ?_
 ·simp only[Tb.steps,FV,Tb.lvA,Tb.dpA,ym,sR,List.getD_cons_zero,List.getD_cons_succ,cB,d5,ma,iI,eC,eq,Gc,gF,jp,List.getElem?_cons_zero,List.getElem?_cons_succ,Option.bind_some,Bool.or_false,Bool.false_or,Bool.or_true,Bool.true_or,Bool.false_and,Bool.true_and,Bool.false_eq_true,if_false];and_intros
  all_goals first|trivial|(intro t h1 h2;simp only[aZ,List.cons_append,List.nil_append]at h1;simp[hHl,hF0,hF1,hG0,hG1,hg0,hg1,hf0,hf1,hw,hw2,mq,o4,Fz,FZ,m7,h1,h2,Tb.postL,Tb.wth,uw,sR,aZ,bK]<;>and_intros<;>first|omega|(intro e;simp[hHl,hF0,hF1,hG0,hG1,hg0,hg1,hf0,hf1,hw,hw2,mq,o4,Fz,FZ,m7,e]))|(intro t h1 h2;simp only[aZ,List.cons_append,List.nil_append]at h1;simp[hHl,hF0,hF1,hG0,hG1,hg0,hg1,hf0,hf1,hw,hw2,mq,o4,Fz,FZ,m7,h1,h2,Tb.postL,Tb.wth,uw,sR,aZ,bK])
  ·refine am.intro kW (by simp) ?_;simp[hHl,hF0,hF1,hG0,hG1,hg0,hg1,h1,h2,Tb.postL,Tb.wth,uw,sR,aZ,bK]<;>and_intros<;>first|omega|(intro e;simp[e])
  ·refine ak.intro (GZ _ (h.length+4) (h.length+2)) (by simp) ?_;rintro _ _ ⟨rfl,rfl⟩;simp[hHl,hF0,hF1,hG0,hG1,hg0,hg1,h1,h2,Fz,Tb.postL,Tb.wth,uw,sR,aZ,bK]<;>and_intros<;>first|omega|(intro e;simp[e])
 ·simp only[aZ,List.cons_append,List.nil_append]at h1 h2;simp[FW]at h2;exact aj.keep (by simp[h1,h2]) rfl
 simp[hG0];clear hf0 hf1 hg0 hg1 hF0 hF1 hG0 hG1 hHl kC kT kH kW hw hw2 h9;have hcf:=IT hk;obtain⟨bx,hbx⟩:∃x:List SV,[.pv (ae n),.pv (.seq false 1 (cs.map aO))]=x:=⟨_,rfl⟩;obtain⟨by',hby⟩:∃x:List SV,[.pv (ae rs),.pv (ae kp),.pv (ae dc)]=x:=⟨_,rfl⟩;refine aH.intro (S:=fun(x:Nat×List (List SV)×List (Int×Nat)×ES×List Rc)=>⟨[(13,.pv (.ptr (h.length+6) 0)),(64,.pv (.seq false 1 (cs.map aO))),(65,.pv (ae cs.length)),(66,.pv (ae x.1))],x.2.1⟩)
  (fun x=>x.1≤cs.length∧LayE x.2.1 (h.length+6) (h.length+2) (h.length+4) (h.length+5) (h.length+3) x.2.2.1 [] x.2.2.2.1∧Ext h x.2.1 (fun _=>False) (d9 (h.length+6) (h.length+2) (h.length+4) (h.length+5) (h.length+3) x.2.2.1 [])∧EI n cs (r+(cs.length -x.1)) (s+(cs.length -x.1)*1003) x.2.2.2.2 x.2.2.2.1∧NewOk n cs kp x.2.2.2.1 x.2.2.2.2 (cs.take x.1)) (fun x=>cs.length -x.1)
  (0,rU h bx by' (fj n cs kp dc),[],fj n cs kp dc,[]) ?_ ⟨Nat.zero_le _,FA _ _ _ _ rfl,FB _ _ _ _,Ho hn _ _ _ _ (by omega) (by omega),⟨rfl,rfl,rfl,rfl,rfl,rfl,rfl,rfl,rfl,by simp⟩⟩ ?_
 ·subst hH;refine(aj.keep (t1:=[(13,.pv (.ptr (h.length+6) 0)),(64,.pv (.seq false 1 (cs.map aO))),(65,.pv (ae cs.length)),(66,.pv (ae 0))]) (by simp) rfl).trans ?_;simp only[List.append_assoc,List.cons_append,List.nil_append];refine(aj.nilCell (b:=h.length+2) (k:=1) (xs:=[.own true 4 ((iP n).marks.map nV),.pv (.lit (.slice none 0 0)),.pv (.lit (.slice none 0 0)),.pv (BL true)]) 1 true (by simp) (by simp)).trans ?_;refine(aj.nilCell (b:=h.length+2) (k:=2) (xs:=[.own true 4 ((iP n).marks.map nV),.own true 1 [],.pv (.lit (.slice none 0 0)),.pv (BL true)]) 1 true (by simp) (by simp)).trans ?_;refine(aj.nilCell (b:=h.length+4) (k:=0) (xs:=Jv) 1 true (by simp) (by simp[Jv])).trans ?_;refine(aj.nilCell (b:=h.length+5) (k:=6) (xs:=Fz (h.length+4) (h.length+2)) 1 true (by simp) (by simp[Fz])).trans ?_;refine(aj.nilCell (b:=h.length+6) (k:=15) (xs:=FZ (h.length+2) (h.length+4) (h.length+5) (h.length+3) n cs kp dc) 4 true (by simp) (by simp[FZ])).trans ?_;refine(aj.fitC (b:=h.length+6) (k:=2) (xs:=(FZ (h.length+2) (h.length+4) (h.length+5) (h.length+3) n cs kp dc).set 15 (.own true 4 [])) (x:=.seq true 1 (cs.map nv)) (y:=.seq false 1 (cs.map aO)) (by simp) (by simp[FZ]) fun g v hv=>Iy (x:=.seq true 1 (cs.map nv)) ⟨fun e=>(by cases e),rfl,tz cs⟩ hv).trans ?_;refine aj.le (by simp) ?_;simp[rU,Jv,Fz,FZ];refine qK h ?_;simp[hbx,hby,bI,lf,fB,b9,fj,af,cF,iP,aT,ox]
 rintro⟨i,X,mp,E,l⟩ ⟨hi,LX,XX,hI,hN⟩;dsimp only at hi LX XX hI hN
 by_cases d:i<cs.length
 ·obtain⟨h1,h2,h3⟩:=hcf _ (List.getElem_mem d);have hT:=hI.tok;have hd1:r+(cs.length -i)=(r+(cs.length -(i+1)))+1:=by omega
  have hd2:s+(cs.length -(i+1))*1003+(3+cs[i].length)≤s+(cs.length -i)*1003:=by omega
  have hI1:=hI.mono (Nat.le_of_eq hd1.symm) hd2;have hE:∀q,HpTo n E.q q→iw (E.id+1) cs[i]=0∧nM (cX E.A (E.id+1) cs[i] false) E.T E.S E.A.row.length=0∧EI n cs (r+(cs.length -(i+1))) (s+(cs.length -(i+1))*1003) (l++[⟨E.id+1,eh false,cs[i]⟩]) (y9 E cs[i] false q):=fun q hq=>
   hI1.add false h1 h2 h3 (fun m hm=>hm _ (List.getElem_mem d)) (fun k k1 k2=>by rw[hN.T]at k2;simp[eZ,iP]at k2;omega) hN.calm (by rw[hN.con];omega) q hq.hp hq.mem
  obtain⟨e1,_,e3⟩:=hE E.q (.refl hI.hp);have hidz:=hI.idz;have hrsz:=hI.rsz;have hrsz3:=e3.rsz;have kA:=AU LX hT hI.hp (by omega) cs[i] false e1 e3.arok (by simp only[y9]at hrsz3;omega) (by omega) (by omega);have hw:aM ((i:Int)+1)=((i+1:Nat):Int):=by rw[ah (by omega) (by omega)];omega
  have hcr:aO cs[i]=[.seq false 1 (af cs[i])]:=rfl;simp[d,hcr];refine ak.intro kA (by simp) ?_;rintro _ X2 ⟨rfl,mp2,q,L2,Y2,G2⟩;simp;refine⟨(i+1,X2,mp2,y9 E cs[i] false q,l++[⟨E.id+1,eh false,cs[i]⟩]),by(try dsimp only);omega,⟨by(try dsimp only);omega,L2,XX.trans Y2,(hE q G2).2.2,⟨hN.T,hN.vars,hN.cs,hN.keep,hN.pf,hN.many,hN.calm,hN.con,?_,?_⟩⟩,aj.keep (by simp[hw]) rfl⟩
  ·rw[IS (by simp[eh]),hN.rc,List.take_add_one];simp[d]
  ·intro x hx;rcases List.mem_append.1 hx with hx|hx
   ·exact hN.side x hx
   ·simp at hx;subst hx;rfl
 ·have hie:i=cs.length:=by omega
  subst hie;simp;exact⟨_,_,_,_,_,mp,E,l,rfl,LX,XX,hI.mono (by omega) (by omega),by rw[List.take_length]at hN;exact hN⟩
theorem xc(h:List (List SV))(v:Int)(cs:List (List Int))(rs kp dc:Int)(hcl:∀c∈cs,c.length≤1000000)(hk:(oB v cs).2≠0∨900<v):
 aE Tryz.prog 21 [.agg [ae v,.seq false 1 (cs.map aO)],.agg [ae rs,ae kp,ae dc]] h (fun y h'=>y=.pv (.tup [.lit (.pointer none),ae (if(oB v cs).2≠0 then(oB v cs).2 else 3)])∧Ext h h' (fun _=>False) (fun _=>False)):=by
 refine dh [9] [.tmp 4,.tmp 5] aG Tryz.func21 (by kernel_rfl) rfl rfl (by kernel_rfl) (Nat.le_of_ble_eq_true rfl) ?_;have kC:=An v cs hcl;have hx:=fun g=>Ext.app h g (fun _=>False);simp;refine am.intro kC (by simp) ?_
 by_cases c:(oB v cs).2=0
 ·have h9:900<v:=hk.resolve_left (fun e=>e c);simp[c,h9,hx]
 ·simp[c,hx]
theorem Cf:ao Tryz.prog 43 [.lit (.pointer none)] (fun r=>r=.pv (BL false)):=by
 refine aw aG Tryz.func43 (by kernel_rfl) rfl rfl (by kernel_rfl) (Nat.le_of_ble_eq_true rfl) ?_;simp;refine am.intro tw (by simp) ?_;simp
theorem Cg:ao Tryz.prog 17 [.lit (.pointer none)] (fun r=>r=.pv (BL false)):=by
 refine aw aG Tryz.func17 (by kernel_rfl) rfl rfl (by kernel_rfl) (Nat.le_of_ble_eq_true rfl) ?_;simp;refine am.intro tw (by simp) ?_;simp
section
variable {h : List (List SV)} {be bt ba bw bh : Nat} {mp : List (Int × Nat)} {mb : List (Int × By)} {E : ES}
theorem uX(hb:h[be]?=some (bI bt ba bw bh E))(hc:E.over=true∨E.con<0):aE Tryz.prog 44 [.ptr be 0] h (fun r h'=>h'=h∧r=.pv (BL false)):=by
 refine dh [6,7,18] [.tmp 2] aG Tryz.func44 (by kernel_rfl) rfl rfl (by kernel_rfl) (Nat.le_of_ble_eq_true rfl) ?_;obtain⟨hlt,hb'⟩:=List.getElem?_eq_some_iff.1 hb;simp;refine ak.intro (dv hb) (by simp) ?_;rintro _ _ ⟨rfl,rfl⟩;cases ho:E.over
 ·have hc:E.con<0:=hc.resolve_left (by simp[ho]);simp[hb',hlt,bI,ho,hc]
 ·simp[hb',hlt,bI,ho]
theorem o5(L:LayE h be bt ba bw bh mp mb E){n:Nat}(hT:TOk n E.T)(g:HpG n 1000000000000 E.q)(hp:E.ph.length=n+1):
 aE Tryz.prog 24 [.ptr be 0] h (fun r h'=>r=.pv (.tup [])∧((E.over=true∧h'=h)∨(E.over=false∧∃q p,LayE h' be bt ba bw bh mp mb {E with T:=d7 E.T 0,q:=q,ph:=p,con:=-1,calm:=false}∧Ext h h' (d9 be bt ba bw bh mp mb) (d9 be bt ba bw bh mp mb)∧HpTo n E.q q∧p.length=n+1∧∀z∈E.T.lits,z∉(d7 E.T 0).lits→ab z∈q.row))):=by
 refine dh [] [] aG Tryz.func24 (by kernel_rfl) rfl rfl (by kernel_rfl) (Nat.le_of_ble_eq_true rfl) ?_;have kB:=xa L hT g hp 0;obtain⟨hlt,hb'⟩:=List.getElem?_eq_some_iff.1 L.e;simp;refine ak.intro (dv L.e) (by simp) ?_;rintro _ _ ⟨rfl,rfl⟩;cases ho:E.over
 ·simp[hb',hlt,bI,ho];refine ak.intro kB (by simp) ?_;rintro _ H2 ⟨rfl,q,p,L2,h3⟩;have hE:({E with T:=d7 E.T 0,q:=q,ph:=p,con:=-1,calm:=false}:ES)={E with T:=d7 E.T 0,q:=q,ph:=p,con:=-1,calm:=false,over:=false}:=by rw[←ho]
  rw[hE]at L2;simp;exact⟨q,p,L2,h3⟩
 ·simp[hb',hlt,bI,ho]
end
def FC:Sch:=
 let s0:Sch:=.fork [(15,.done)]
 let s1:Sch:=.fork [(12,.take 13 (.take 14 s0))]
 let s2:Sch:=.fork [(9,.take 10 (.take 11 s1))]
 let s3:Sch:=.fork [(8,s2)]
 let s4:Sch:=.fork [(6,s2)]
 let s5:Sch:=.fork [(6,s3),(8,s4)]
 let s6:Sch:=.fork [(5,s4)]
 let s7:Sch:=.fork [(5,s5),(8,s6)]
 .take 0 (.take 1 (.take 2 (.take 3 (.take 4 (.take 7 s7)))))
def xd(x:Stp):List PV:=[ae x.kind,ae x.id,.bot,.bot]
@[simp] theorem xe(k:Nat)(l:List Stp):bP k (l.map xd):=by
 induction l with
 |nil=>trivial
 |cons x l ih=>exact⟨⟨trivial,trivial,trivial,trivial,trivial⟩,ih⟩
theorem xf:∀l:List Stp,A9 (l.map xd)
 |[]=>trivial
 |_::l=>⟨⟨trivial,trivial,trivial,trivial,trivial⟩,xf l⟩
theorem tB{g:Gh}:∀{l:List Stp}{vs:List Value},au g 4 (l.map lV) vs→au g 4 (l.map xd) vs
 |[],_,h=>h
 |_::_,_,⟨v1,v2,h1,h2,⟨u1,r1,e1,e2,u2,r2,e3,e4,u3,r3,e5,_,u4,r4,e6,_,h3⟩,h4⟩=>⟨v1,v2,h1,h2,⟨u1,r1,e1,e2,u2,r2,e3,e4,u3,r3,e5,trivial,u4,r4,e6,trivial,h3⟩,tB h4⟩
theorem xg(l:List Stp)(hl:l.length≤1000000):ao Tryz.prog 76 [.seq false 4 (l.map lV)] (fun r=>r=.own true 4 (l.map xd)):=by
 have h1:ao Tryz.prog 76 [.seq false 4 (l.map lV)] (fun r=>r=.own true 4 (l.map lV)∨r=.pv (.lit (.slice none 0 0))∧l=[]):=by
  refine aw aG Tryz.func76 (by kernel_rfl) rfl rfl (by kernel_rfl) (Nat.le_of_ble_eq_true rfl) ?_;cases l with
  |nil=>simp
  |cons x l=>simp;simp at hl;omega
 have h2:ao Tryz.prog 76 [.seq false 4 (l.map lV)] (fun r=>r=.own true 4 (l.map lV)):=
  ao.own0 h1 fun r h=>h.imp id fun⟨e,e2⟩=>⟨e,true,4,by rw[e2];rfl⟩
 refine⟨h2.1,fun w vs hv=>(h2.2 w vs hv).mono fun e w' ⟨v,r,g',o,e1,e2,e3,e4,e5,e6⟩=>?_⟩;subst e2;refine⟨v,.own true 4 (l.map xd),g',o,e1,rfl,e3,?_,rfl,e6⟩;rcases e4 with⟨a,b,c⟩|⟨c,hc,cap,arr,T,us,f1,f2,f3,f4,f5,f6⟩
 ·exact .inl ⟨a,by rw[List.map_eq_nil_iff]at b⊢;exact b,c⟩
 ·exact .inr ⟨c,hc,cap,arr,T,us,by simpa using f1,f2,f3,by simpa using f4,tB f5,f6⟩
section
variable {h : List (List SV)} {be bt ba bw bh : Nat} {E : ES}
set_option maxRecDepth 16000 in
theorem Ch(hb:h[be]?=some (bI bt ba bw bh E))(hl:E.pf.length≤1000000)(hs:∀s∈E.pf,s.lits.length≤1000000∧s.hints.length≤1000000):aE Tryz.prog 33 [.ptr be 0] h (fun r h'=>h'=h∧r=.pv (.seq true 4 (E.pf.map Ek))):=by
 refine aE.below (by kernel_rfl) fun hh=>?_;refine fA [7] [.tmp 2] aG Tryz.func33 (by kernel_rfl) rfl rfl (by kernel_rfl) (Nat.le_of_ble_eq_true rfl) ?_;obtain⟨hlt,hb'⟩:=List.getElem?_eq_some_iff.1 hb;obtain⟨ss,hss⟩:∃ss,E.pf=ss:=⟨_,rfl⟩;rw[hss]at hl hs⊢;have hC:=xg ss hl;obtain⟨Q,hQ⟩:∃Q:Nat→List (List PV),∀i,Q i=(ss.take i).map Ek++(ss.drop i).map xd:=⟨_,fun _=>rfl⟩;have hQ0:Q 0=ss.map xd:=by rw[hQ];rfl
 have hQe:Q ss.length=ss.map Ek:=by rw[hQ];simp
 have hQl:∀i,i≤ss.length→(Q i).length=ss.length:=fun i hi=>by rw[hQ];simp;omega
 simp;refine ak.intro (dv hb) (by simp) ?_;rintro _ h ⟨rfl,rfl⟩;simp[hb',hlt,bI,hss];refine am.intro hC (by simp[xf]) ?_;simp[hb',hlt,bI,hss];refine aH.intro (S:=fun(i:Nat)=>⟨[(0,.pv (.ptr be 0)),(3,.own true 4 (Q i)),(17,.al (.cell be 15)),(18,.pv (ae ss.length)),(19,.pv (ae i))],h⟩) (fun i=>i≤ss.length) (fun i=>ss.length -i) 0 ?_ (Nat.zero_le _) ?_
 ·exact aj.keep (by simp[hQ0]) rfl
 intro i hi;have hql:=hQl i hi
 by_cases d:i<ss.length
 ·have hw:aM ((i:Int)+1)=((i+1:Nat):Int):=by rw[ah (by omega) (by omega)];omega
  have hq:ss[i]?=some ss[i]:=List.getElem?_eq_getElem d;have hsi:=hs _ (List.getElem_mem d);have hc1:=gL ss[i].lits hsi.1;have hc2:=gL ss[i].hints hsi.2;have hQi:(Q i)[i]'(by omega)=[ae ss[i].kind,ae ss[i].id,.bot,.bot]:=by
   simp only[hQ];rw[List.getElem_append_right (by simp;omega)];simp[xd,Nat.min_eq_left hi]
  have hQs:(Q i).set i [ae ss[i].kind,ae ss[i].id,.seq true 1 (af ss[i].lits),.seq true 1 (af ss[i].hints)]=Q (i+1):=by
   rw[hQ,hQ,List.set_append_right _ _ (by simp;omega),List.take_succ_eq_append_getElem d,List.map_append,List.append_assoc];congr 1;rw[List.length_map,List.length_take,Nat.min_eq_left hi,Nat.sub_self,List.drop_eq_getElem_cons d];rfl
  have hQb:∀k,bP k (Q (i+1)):=fun k=>by
   rw[hQ];exact(rO k _ _).2 ⟨wA k _,xe k _⟩
  simp[d,hq,lV,hql,hb',hlt,bI,hss];refine aY.one FC (by kernel_rfl) ?_;simp[FC,d,hq,lV,hql,hb',hlt,bI,hss];and_intros
  all_goals
   refine am.intro hc1 (by simp) ?_;simp[d,hq,lV,hql,hb',hlt,bI,hss];refine am.intro hc2 (by simp) ?_;simp[d,hq,lV,hql,hb',hlt,bI,hss];exact⟨i+1,by(try dsimp only);omega,by(try dsimp only);omega,aj.to (by simp[hw,hQi,hQs,lV]) (by simp) (by simp) (by simp[hQb,hlt]) (by simp[hh])⟩
 ·have hie:i=ss.length:=by omega
  subst hie;simp[hQe]
end
theorem rV(a b:List Bool)(hl:a.length≤140737488355328):ao Tryz.prog 20 [.seq false 1 (cF a),.seq false 1 (cF b)] (fun r=>r=.pv (BL (decide (a=b)))):=by
 refine aw aG Tryz.func20 (by kernel_rfl) rfl rfl (by kernel_rfl) (Nat.le_of_ble_eq_true rfl) ?_;simp;refine⟨fun h=>fun e=>h (by rw[e]),fun h=>?_⟩;have hl2:a.length=b.length:=by omega
 refine aH.intro (S:=fun(i:Nat)=>⟨[(0,.pv (.seq false 1 (cF a))),(1,.pv (.seq false 1 (cF b))),(5,.pv (ae i))],[]⟩) (fun i=>i≤a.length∧∀j (h1:j<a.length)(h2:j<b.length),j<i→a[j]=b[j]) (fun i=>a.length -i) 0 ?_ ?_ ?_
 ·exact aj.to (by simp) rfl (by simp) (by simp) (by simp)
 ·exact⟨by omega,fun j _ _ hj=>by omega⟩
 ·intro i ⟨hi,ho⟩
  by_cases h3:i<a.length
  ·have hw:aM ((i:Int)+1)=((i+1:Nat):Int):=by rw[ah (by omega) (by omega)];omega
   have h4:i<b.length:=by omega
   simp[h3,h4];refine⟨fun c=>fun e=>c (by subst e;rfl),fun c=>⟨i+1,by dsimp only;omega,⟨by omega,fun j h1 h2 hj=>?_⟩,aj.to ?_ rfl (by simp) (by simp) (by simp)⟩⟩
   ·by_cases e:j=i
    ·subst e;exact c
    ·exact ho j h1 h2 (by omega)
   ·simp[hw]
  ·simp[h3];exact List.ext_getElem hl2 fun j h1 h2=>ho j h1 h2 (by omega)
def xh(v:Int)(cs:List (List Int))(acts:List Int):Bool:=wF cs&&(decide (v≤10)&&(decide (0≤v)&&(decide (cs.length≤60)&&decide (acts.length≤60))))
theorem FD(v:Int)(cs:List (List Int))(acts:List Int):ao Tryz.prog 11 [.agg [ae v,.seq false 1 (cs.map aO)],.seq false 1 (af acts)] (fun r=>r=.pv (BL (xh v cs acts))):=by
 refine aw aG Tryz.func11 (by kernel_rfl) rfl rfl (by kernel_rfl) (Nat.le_of_ble_eq_true rfl) ?_;have kF:=BY v cs;unfold xh;simp;refine am.intro kF (by simp) ?_;cases wF cs
 ·simp
 by_cases c1:v≤10
 rotate_left
 ·simp[c1]
 by_cases c2:0≤v
 rotate_left
 ·simp[c1,c2]
 by_cases c3:(cs.length:Int)≤60
 rotate_left
 ·have:¬cs.length≤60:=by omega
  simp[c1,c2,c3,this]
 have:cs.length≤60:=by omega
 by_cases c4:(acts.length:Int)≤60
 ·have h4:acts.length≤60:=by omega
  simp[c1,c2,c3,this,c4,h4]
 ·have h4:¬acts.length≤60:=by omega
  simp[c1,c2,c3,this,c4,h4]
def MZ(cs:List (List Int))(r:SV):Prop:=∃(many:Int)(y:PV),r=.pv (.tup [ae many,y])∧((many=0∧y=.lit (.slice none 0 0))∨(0<many∧∃m:List Bool,y=.seq true 1 (cF m)∧m.length≤10∧∀c∈cs,cD c m=true))
set_option maxRecDepth 16000 in
theorem Ci(v:Int)(n:Nat)(hn:n≤10)(cs:List (List Int))(hl:cs.length≤140737488355328)(hr:∀x∈cs,x.length≤140737488355328):ao Tryz.prog 23 [.agg [ae v,.seq false 1 (cs.map aO)],ae n] (MZ cs):=by
 refine kU [13] [.tmp 4,.tmp 5] aG Tryz.func23 (by kernel_rfl) rfl rfl (by kernel_rfl) (Nat.le_of_ble_eq_true rfl) ?_;obtain⟨M,hM⟩:∃M,M=2^n:=⟨_,rfl⟩;have hM1:M≤1024:=by rw[hM];exact Nat.pow_le_pow_right (by decide) hn
 have hu:∀j:Nat,j≤10→IntKind.u64.wrap (j:Int)=j:=fun j hj=>by
  have:j=0∨j=1∨j=2∨j=3∨j=4∨j=5∨j=6∨j=7∨j=8∨j=9∨j=10:=by omega
  rcases this with rfl|rfl|rfl|rfl|rfl|rfl|rfl|rfl|rfl|rfl|rfl<;>rfl
 have hun:=hu n hn;have hbt:IntKind.i64.bits=64:=rfl;have hsh:aM (2^min n 64:Int)=(M:Int):=by
  rw[Nat.min_eq_left (by omega),show((2:Int)^n)=((2^n:Nat):Int) by simp,←hM,ah (by omega) (by omega)]
 obtain⟨Q,hQ⟩:∃Q:Nat→PV→Prop,∀many y,Q many y=((many=0∧y=.lit (.slice none 0 0))∨(0<many∧∃m:List Bool,y=.seq true 1 (cF m)∧m.length≤10∧∀c∈cs,cD c m=true)):=⟨_,fun _ _=>rfl⟩;simp;refine aH.intro (S:=fun(x:Nat×Nat×PV)=>⟨[(1,.pv (ae n)),(2,.pv (.ptr 0 0)),(6,.pv (ae x.2.1)),(7,.pv x.2.2),(8,.pv (ae x.1))],[[.pv (ae v),.pv (.seq false 1 (cs.map aO))]]⟩)
  (fun x=>x.1≤M∧x.2.1≤x.1∧Q x.2.1 x.2.2) (fun x=>M -x.1) (0,0,.lit (.slice none 0 0)) ?_ ⟨Nat.zero_le _,Nat.le_refl _,by rw[hQ];exact .inl ⟨rfl,rfl⟩⟩ ?_
 ·exact aj.keep (by simp) rfl
 rintro⟨k,many,y⟩ ⟨hk,hm,hq⟩;dsimp only at hk hm hq
 by_cases d:k<M
 ·have hkw:aM ((k:Int)+1)=((k+1:Nat):Int):=by rw[ah (by omega) (by omega)];omega
  have hmw:aM ((many:Int)+1)=((many+1:Nat):Int):=by rw[ah (by omega) (by omega)];omega
  simp[hun,hbt,hsh,d];refine aH.intro (S:=fun(m:List Bool)=>⟨[(1,.pv (ae n)),(2,.pv (.ptr 0 0)),(6,.pv (ae many)),(7,.pv y),(8,.pv (ae k)),(9,.own true 1 (cF m)),(10,.pv (ae m.length))],[[.pv (ae v),.pv (.seq false 1 (cs.map aO))]]⟩)
   (fun m=>m.length≤n) (fun m=>n -m.length) [] ?_ (Nat.zero_le _) ?_
  ·exact(aj.nilOwn (s:=9) 1 true (by simp)).trans (aj.keep (by simp[cF]) rfl)
  intro m hm2
  by_cases e:m.length<n
  ·have hw:aM ((m.length:Int)+1)=((m.length+1:Nat):Int):=by rw[ah (by omega) (by omega)];omega
   have hum:=hu m.length (by omega);simp[e,hum,hbt];exact⟨by omega,m++[decide (bits .and IntKind.i64 ((k:Int).fdiv (2^min m.length 64)) 1=1)],by simp;omega,by simp;omega,aj.keep (by simp[hw,cF]) rfl⟩
  ·have hml:m.length=n:=by omega
   simp[hml];refine am.intro (wT v cs m hl hr) (by simp) ?_
   by_cases f:lw cs m<0
   ·have fs:=(rq cs m).1 f;rw[hQ]at hq;simp[f];refine⟨fun c=>jW.to ⟨[(1,.pv (ae n)),(2,.pv (.ptr 0 0)),(6,.pv (ae many)),(7,.pv y),(8,.pv (ae k)),(9,.pv (.seq true 1 (cF m)))],[[.pv (ae v),.pv (.seq false 1 (cs.map aO))]]⟩ ((aj.frz (s:=9) (e:=1) (nw:=true) (rows:=cF m) (by simp)).trans (aj.keep (by simp) rfl)) (jW.ops ?_),fun c=>?_⟩
    ·simp;exact⟨(k+1,many+1,.seq true 1 (cF m)),by(try dsimp only);omega,⟨by(try dsimp only);omega,by(try dsimp only);omega,by rw[hQ];exact .inr ⟨Nat.succ_pos _,m,rfl,by omega,fs⟩⟩,aj.keep (by simp[hkw,hmw]) rfl⟩
    ·refine⟨(k+1,many+1,y),by(try dsimp only);omega,⟨by(try dsimp only);omega,by(try dsimp only);omega,?_⟩,aj.keep (by simp[hkw,hmw]) rfl⟩;rw[hQ];rcases hq with⟨h1,_⟩|⟨_,h2⟩
     ·exact absurd h1 c
     ·exact .inr ⟨Nat.succ_pos _,h2⟩
   ·simp[f];exact⟨(k+1,many,y),by(try dsimp only);omega,⟨by(try dsimp only);omega,by(try dsimp only);omega,hq⟩,aj.keep (by simp[hkw]) rfl⟩
 ·have hke:k=M:=by omega
  subst hke;simp[hun,hbt,hsh];rw[hQ]at hq;rcases hq with⟨rfl,rfl⟩|⟨h1,m,h2,h3,h4⟩
  ·exact⟨_,_,rfl,.inl ⟨rfl,rfl⟩⟩
  ·exact⟨_,_,rfl,.inr ⟨by omega,m,h2,h3,h4⟩⟩
end Go.AX