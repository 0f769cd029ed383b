/-
  Contracts: solve: the search; and what follows.
-/
import Derived.Test.YtepodadinenmnaaGreatZM
set_option linter.unusedSimpArgs false
set_option maxRecDepth 16000
namespace Go.AX
open Go.Proofs
def UQ(n:Nat)(F:au):Prop:=∀(r s:Nat)(l:List Rc)(E:ES),EI n F r s l E->(∀d∈F,d∈rC l)->E.T.beg.length=0
structure SK (n:Nat) (F:au) (bg:Int) (E:ES):Prop where
  cb:(E.pf.length:Int)<=bg
  ov:E.over=true->E.pf.length=0->[]∈F
  zz:UQ n F->E.pf.length=0∨E.over=true
theorem SK.same{n:Nat}{F:au}{bg:Int}{E E':ES}(k:SK n F bg E)(a:E'.pf=E.pf)(b:E'.over=E.over):SK n F bg E':=⟨by rw[a];exact k.cb,by rw[a,b];exact k.ov,by rw[a,b];exact k.zz⟩
theorem HE{n r s:Nat}{F:au}{l:List Rc}{E:ES}(I:EI n F r s l E)(a:∀d∈F,d∈rC l)(b:0<=E.con)(z:UQ n F):aY E=[]:=by
 have h0:=z r s l E I a;rcases(I.res b).lev with⟨_,e⟩|⟨u,w,_,b0,b1,_⟩;exact e;omega
section
variable {n M : Nat} {F : au} {h : ao} {be bt ba bw bh : Nat} {mp : cg} {mb : List (Int × By)} {E : ES} {l : List Rc}
theorem EI.ended{r s:Nat}(h:EI n F r s l E)(ho:E.over=true):RU F []:=by
 obtain⟨x,hx,e⟩:=h.ovr.1 ho;rw[←e];exact h.ent x hx
end
section
theorem FB(h:ao)(v:Int)(cs:au)(rs kp n a:Int)(hcl:∀c∈cs,c.length<=50)(hk:(d6 v cs).2≠0∨a<0∨1000000<a):
 aI Tryz.prog 28 [.agg [ak v,.seq false 1 (cs.map aF)],.agg [ak rs,ak kp,ak n],ak a] h (λy h'=>(∃e:Int,y=.pv (.tup [.agg [ak 0,ak 0,.lit (.slice none 0 0),.lit (.slice none 0 0)],ak e])∧e=(if a<0∨1000000<a then 2 else(d6 v cs).2))∧Ext h h' (λ_=>False) (λb=>h.length<=b)):=by
 refine dh [] [.cell 6 _,.tmp 7] aP Tryz.func28 ?_;have g:∀c∈cs,c.length<=1000000:=λc p=>by have:=hcl c p;omega
 have l:∀(H:ao),h.length<=H.length->(∀b,b<h.length->H[b]?=h[b]?)->Ext h H (λ_=>False) (λb=>h.length<=b):=λH h1 k=>⟨h1,λb f _=>k b f,λb f d=>by omega⟩;by_cases b1:a<0;simp[b1];exact l _ (by simp) λb f=>Vv f;by_cases b2:1000000<a;simp[b1,b2];exact l _ (by simp) λb f=>Vv f;have i:(d6 v cs).2≠0:=hk.resolve_right (λe=>e.elim b1 b2);have r:=λG=>Ny G v cs rs kp n g (.inl i);generalize(d6 v cs).2=x at*;simp[b1,b2];refine ap.introM (r _) ?_;rintro _ H ⟨rfl,X⟩;have j:=X.len;have m:∀b,b<h.length->H[b]?=h[b]?:=λb f=>by rw[X.same b (by simp;omega) (λe=>e),Vv f]
 have k:=X.same (h.length+2) (by simp) (λe=>e);simp at k j;obtain⟨q,o⟩:=Vp.1 k;simp[i,q,o];exact l _ (by simp;omega) λb f=>by rw[VL (by omega)];exact m b f
end
theorem CY(v:Int)(cs:au)(rs kp b a:Int)(hcl:∀c∈cs,c.length<=50)(hk:(d6 v cs).2≠0∨a<0∨1000000<a):
 aw Tryz.prog 28 [.agg [ak v,.seq false 1 (cs.map aF)],.agg [ak rs,ak kp,ak b],ak a] (λy=>y=.pv (.tup [.agg [ak 0,ak 0,.lit (.slice none 0 0),.lit (.slice none 0 0)],ak (if a<0∨1000000<a then 2 else(d6 v cs).2)])):=by
 refine aI.pure ((FB [] v cs rs kp b a hcl hk).mono ?_);rintro _ _ ⟨⟨e,rfl,rfl⟩,_⟩;exact⟨_,rfl,rfl⟩
section
variable {n r s : Nat} {F : au} {l : List Rc} {E : ES}
end
open Go.Proofs Go.Proofs.Tryz
section
theorem FE(l:List Gr)(Y:l.length<=100000)(keep:Int):aw prog 114 [.seq false 4 (l.map mT),ak keep] (λr=>r=.own true 1 (am (lW l keep))):=by
 refine aw.own0 (R:=λr=>r=.own true 1 (am (lW l keep))∨(lW l keep=[]∧r=.pv (.lit (.slice none 0 0)))) ?_ (λr h=>h.imp id λ⟨H,I⟩=>⟨I,true,1,by rw[H];rfl⟩);refine aB aP func114 ?_;have J:=Ir l (by omega);have K:=qP.asFnO (Ef l (by omega) 186 oe OG);have O:=It l;have P:=K6 l;have M:=K7 (rz l) (by omega);have hd:ry oe l=(rz l).map g3:=O.symm;by_cases c:(l.length:Int)<=keep;simp[lW,c];simp[c];refine ap.intro J ?_;simp;refine ap.introX (cd.introS (o:=.slot 15) (lo:=0) (hi:=l.length) K (by simp) rfl rfl (by simp) (by simp) rfl (by simp;rw[VT (by simp)];rfl) (mU 0 l) (by simp) (by simp) ?_);rintro k b ⟨rfl,rfl⟩ _ _;have t:List.drop l.length (l.map mT)=[]:=VS (by simp);have x:(ry oe l).length=(rz l).length:=by rw[hd,VA]
 have z:∀X,dW tN (ry oe l++X)=(rz l).map r3++dW tN X:=λX=>by
  rw[hd];unfold dW;rw[V1,Wo];rfl
 rw[z,x];have E:∀k,bV k (dW tN (List.replicate (l.length -(rz l).length) RM)):=λk=>mU k _;have n:∀k (u:List G3),bV k (u.map r3):=λk u=>by
  have:=mU k (u.map g3);rw[Wo]at this;exact this
 generalize dW tN (List.replicate (l.length -(rz l).length) RM)=Z at*;have p:lW l keep=eJ (((xR (rz l)).take (l.length/2)).map (·.at')):=Vs c;generalize W:rz l=may at*;have B:List.take may.length (may.map r3++Z)=may.map r3:=Xw (by simp);have w:List.drop may.length (may.map r3++Z)=Z:=Zp (by simp);have T:(xR may).length=may.length:=(qp may).length_eq;generalize xR may=a at*;simp[t];refine ap.introX (cd.introS (o:=.slot 15) (lo:=0) (hi:=may.length) M (by simp) rfl rfl (by simp) (by simp) rfl (by simp[B]) ?_ (by simp) (by simp) ?_);exact mU 0 (may.map g3)|>λh=>by rw[Wo]at h;exact h
 rintro k b ⟨rfl,rfl⟩ _ _;obtain⟨q,Q⟩:∃q:Nat,l.length/2=q:=⟨_,rfl⟩;rw[Q]at p;have U:bG ((l.length:Int)/2)=(q:Int):=by rw[aC (by omega) (by omega)];omega
 have g:min may.length (a.length+Z.length)=may.length:=by omega
 have f:(if q<may.length then(q:Int)else may.length)=((min may.length q:Nat):Int):=by split<;>omega
 have C:a.take q=a.take (min may.length q):=by
  by_cases e:q<=may.length;rw[Nat.min_eq_right e];rw[WL (by omega),VT (by omega),VT (by omega)]
 rw[C]at p;have F:min may.length q<=a.length:=by omega
 generalize min may.length q=m at*;simp[w,U,g,f];refine⟨by omega,?_⟩;refine aM.intro (S:=λ(i:Nat)=>⟨[(7,.own true 1 (am ((a.take i).map (·.at')))),(15,.own true 4 (a.map r3++Z)),(27,.loc (.slot 15) 0 m),(28,.pv (ak m)),(29,.pv (ak i))],[]⟩) (λi=>i<=m) (λi=>m -i) 0 ?_ (VH _) ?_;exact(av.nilOwn (s:=7) 1 true (by simp)).trans (av.to (by simp[am,f];omega) rfl (by simp) (by simp[n,E]) (by simp));intro i hi;by_cases G:i<m;have D:=dU i;have d:i<a.length:=by omega
 have y:(a.map r3++Z)[i]?=some (r3 a[i]):=by rw[Vv (by simpa using d),VO,Vq d];rfl
 have A:am (List.take i (a.map (·.at')))++[[ak a[i].at']]=am (List.take (i+1) (a.map (·.at'))):=by
  rw[nZ,Wj,VO,Vq d];rfl
 simp[G,y,r3,mT,g3];refine⟨by omega,by omega,by omega,i+1,by dsimp only;omega,by dsimp only;omega,av.to ?_ rfl (by simp) ?_ (by simp)⟩;simp[D,A];simp[n,E];have:i=m:=by omega
 subst this;have j:List.take i (a.map (·.at'))=(a.take i).map (·.at'):=by rw[Xn]
 rw[←j]at p;have N:(List.take i (a.map (·.at'))).length=i:=by rw[Vy,VA];omega
 rw[←j];generalize List.take i (a.map (·.at'))=V at*;have L:=xS V (by omega);have v:List.drop V.length (am V)=[]:=VS (by simp);simp;refine ap.introX (cd.introS (o:=.slot 7) (lo:=0) (hi:=V.length) L (by simp) rfl rfl (by simp) (by simp) rfl (by simp;rw[VT (by simp)]) (br 0 V) (by simp) (by simp) ?_);rintro k b ⟨rfl,rfl⟩ _ _;simp[v,p]
section
variable {h : ao} {be bt ba bw bh : Nat} {mp : cg} {mb : List (Int × By)} {E : ES}
def Vb(E:ES)(k:Int):Gr:=⟨k,(lk E.gl k).getD 0,(aJ E.A k).length,vn E.T k (aJ E.A k)⟩
def pB(E:ES)(ks:af):List Gr:=(ks.filter (qJ E.A)).map (Vb E)
theorem C2(E:ES)(ks:af):(pB E ks).length<=ks.length:=by
 unfold pB;rw[VA];exact WR _ _
theorem C3(L:LayE h be bt ba bw bh mp mb E){l:List Rc}(j:ArI E.A l)(u:E.A.row.length<=1000000)(z:E.T.ok):
 aI prog 115 [.ptr be 0] h (λr h'=>h'=h∧r=.pv (.seq true 4 ((pB E (rA l)).map mT))):=by
 refine fJ [] [.tmp 2] aP func115 ?_;obtain⟨g,f⟩:=Vp.1 L.e;have C:=PA h ba E.A L.w.a l j.row u;have hz:=dR L.w.t 2;have B:(rA l).length<=1000000:=by
  have h1:=rZ l 0;have x:=wF l;rw[←j.row]at x;unfold rA;rw[VA];omega
 simp[f,g,cE];refine ay.intro C ?_;rintro _ h ⟨rfl,rfl⟩;simp;refine aM.intro (S:=λ(i:Nat)=>⟨[(0,.pv (.ptr be 0)),(3,.own true 4 ((pB E ((rA l).take i)).map mT)),(11,.pv (.seq true 1 (am (rA l)))),(12,.pv (ak (rA l).length)),(13,.pv (ak i))],h⟩)
  (λi=>i<=(rA l).length) (λi=>(rA l).length -i) 0 ?_ (VH _) ?_
 exact(av.nilOwn (s:=3) 4 true (by simp)).trans (av.keep (by simp[pB]) rfl);intro i hi;by_cases c:i<(rA l).length;have v:=dU i;obtain⟨y,hy,e⟩:=VB.1 (Vx c);have p:isA E.A (rA l)[i]=true:=(j.isA _).2 ⟨y,hy,e⟩;have m:=iX l 0 y hy;rw[←j.row]at m;have F:=Fh h ba E.A L.w.a (rA l)[i] (λ_=>by rw[←e];omega) (by omega);have G:=yv h ba E.A L.w.a j.arok u (rA l)[i] p;have q:(aJ E.A (rA l)[i]).length<=1000000:=by
  rw[←e,(j.at hy).1];omega
 have D:=Iv E.T z (rA l)[i] (aJ E.A (rA l)[i]) q;have b:pB E ((rA l).take (i+1))=pB E ((rA l).take i)++if qJ E.A (rA l)[i]=true then[Vb E (rA l)[i]]else[]:=by
  unfold pB;rw[mi c,WT,V1];congr 1;simp only[Wl,Zs];split<;>rfl
 have n:=C2 E ((rA l).take i);rw[Vy]at n;unfold Vb at b;generalize pB E ((rA l).take i)=H at*;generalize k:(rA l)[i]=at' at*;simp[c,f,g,cE,k];refine ay.intro F ?_;rintro _ h ⟨rfl,rfl⟩;cases d:qJ E.A at';rw[d]at b;simp[d];exact⟨i+1,by(try dsimp only);omega,by(try dsimp only);omega,av.keep (by simp[v,b]) rfl⟩;rw[d]at b;simp[d,f,g,cE];refine ay.intro G ?_;rintro _ h ⟨rfl,rfl⟩;simp[f,g,cE,hz];refine bW.intro D ?_;simp[f,g,cE,hz];refine⟨by omega,?_⟩;exact⟨i+1,by(try dsimp only);omega,by(try dsimp only);omega,av.keep (by simp[v,mT,b]) rfl⟩;have o:i=(rA l).length:=by omega
 subst o;rw[VX];simp[cr,bX]
end
theorem JD{l:List Gr}{keep k:Int}(h:k∈lW l keep):∃x∈l,x.at'=k∧x.lo=false:=by
 unfold lW at h;split at h;cases h;obtain⟨z,hz,rfl⟩:=VB.1 ((Xu _ _).mem_iff.1 h);have hz:=(qp _).mem_iff.1 (Wn hz);obtain⟨x,hx,rfl⟩:=VB.1 hz;obtain⟨h1,a⟩:=V9.1 hx;refine⟨x,h1,rfl,?_⟩;unfold oe at a;cases e:x.lo;rfl;rw[e]at a;simp at a
theorem NQ{l:List Gr}{keep:Int}(h:(l.map (·.at')).Nodup):(lW l keep).Nodup:=by
 unfold lW;split;exact aan;refine(Xu _ _).nodup_iff.2 (List.Nodup.sublist ((XZ _ _).map _) (((qp _).map _).nodup_iff.2 ?_));unfold rz;rw[Wo];exact h.sublist (Yx.map _)
theorem TU(l:List Rc):(rA l).Nodup:=Xe.2 ((Au l 0).imp λh e=>by omega)
theorem PH{E:ES}{l:List Rc}(c:ArI E.A l)(m:Nat):((lW (pB E (rA l)) E.keep).take m).Nodup∧∀k∈(lW (pB E (rA l)) E.keep).take m,∃y∈bs 0 l,y.at'=k∧vn E.T k y.lits=false∧qJ E.A k=true:=by
 refine⟨(NQ ?_).sublist (XZ _ _),λk hk=>?_⟩;unfold pB;rw[Wo];exact((List.map_id' _).symm▸(TU l).sublist Yx:(((rA l).filter (qJ E.A)).map λk=>k).Nodup);obtain⟨x,hx,rfl,b⟩:=JD (Wn hk);obtain⟨d,a,rfl⟩:=VB.1 hx;obtain⟨y,hy,rfl⟩:=VB.1 (V9.1 a).1;exact⟨y,hy,rfl,by rw[←(c.at hy).1];exact b,(V9.1 a).2⟩
end
theorem HF{S:WS}(hn:(S.prs.map (·.1)).Nodup)(k j:Int):lk (sT S k).prs j=if j=k then none else lk S.prs j:=by
 unfold sT;cases hp:lk S.prs k with
 |none=>
  by_cases e:j=k;rw[Vt e,e];exact hp;rw[Vs e]
 |some p=>
  have a:((gu S k p).prs).map (·.1)=S.prs.map (·.1):=fW _ hp;show lk (dl (gu S k p).prs k) j=_;rw[qH (by rw[a];exact hn)];by_cases e:j=k;rw[Vt e,Vt e];rw[Vs e,Vs e];exact eF e
theorem WOk.del{n:Nat}{S:WS}(h:WOk n S)(k:Int):WOk n (sT S k)∧(sT S k).prs.length<=S.prs.length:=by
 have a:=h.toWch.del k;unfold sT at a⊢;cases hp:lk S.prs k with
 |none=>exact⟨h,Vu _⟩
 |some p=>
  rw[hp]at a;simp only at a⊢;have hk:(pt S.prs k ⟨p.lits,0,0⟩).map (·.1)=S.prs.map (·.1):=fW _ hp;have hle:(dl (pt S.prs k ⟨p.lits,0,0⟩) k).length<=S.prs.length:=by
   have h1:=Me (pt S.prs k ⟨p.lits,0,0⟩) k;have b:=Xp List.length hk;rw[VA,VA]at b;omega
  exact⟨{a with
   few:=Wb hle h.few
   h0:=h.h0,h1:=h.h1,sl:=h.sl
   clr:=λy hy=>fX (fX (h.clr y hy))},hle⟩
theorem Wch.hx{n:Nat}{S:WS}(h:Wch n S)(k:Int):∀p,lk S.prs k=some p->(p.x≠0->∃zs,lk S.byl p.x=some zs∧zs≠[])∧(p.y≠0->∃zs,lk (fu S.byl k p.x) p.y=some zs∧zs≠[]):=λp hp=>by
 have a:∀m:Int,m≠0->(p.x=m∨p.y=m)->∃zs,lk S.byl m=some zs∧zs≠[]:=λm f d=>by
  obtain⟨zs,e,hz⟩:=h.entry hp f d;exact⟨zs,e,λq=>by rw[q]at hz;cases hz⟩
 refine⟨λg=>a _ g (.inl rfl),λy0=>?_⟩;obtain⟨zs,e,hz⟩:=a _ y0 (.inr rfl);refine⟨zs,?_,hz⟩;unfold fu;by_cases c:p.x=0;rw[Vt c];exact e;have b:p.x≠p.y:=by
  rcases h.two k p hp with⟨_,z,_⟩|⟨_,z,_⟩;exact absurd z c;exact z
 rw[Vs c,cm,Vs b];exact e
section
variable {n r s : Nat} {F : au} {l : List Rc} {E : ES}
theorem EI.nolock(h:EI n F r s l E){y:Ro}(f:vn E.T y.at' y.lits=false){i:Nat}(hi:i<(gV E.T).rows.length)(b:(gV E.T).rows[i].l∈y.lits):(gV E.T).rows[i].rea≠y.at':=by
 obtain⟨a,e⟩:=h.tok.rows hi;rw[e]at b⊢;intro c;have c:(cv E.T (aq E.T.lits[i])).rea=y.at':=c;have b:E.T.lits[i]∈y.lits:=b;have h1:=Xo.1 f _ b;have g:=(h.tok.toTMk.val1 (h.tok.chk _ (Vx a))).2 (Vx a);have d:em E.T (aq E.T.lits[i])=(cv E.T (aq E.T.lits[i]),true):=by
  obtain⟨_,_,_,j,k,_⟩:=cC h.tok.hn (h.tok.chk _ (Vx a));have b:=(h.tok.mark i a).1;unfold em;rw[Vs];rintro(h1|h1|h1);omega;rw[h.tok.len]at h1;omega;rw[b]at h1;unfold Ak at h1;split at h1<;>omega
 unfold BG at h1;rw[g,d]at h1;simp[c]at h1
def jK(E:ES)(k:Int):ES:={E with A:=tV E.A k,S:=sT E.S k,gl:=dl E.gl k}
theorem EI.drop1(h:EI n F r s l E)(ho:E.over=false)(m:E.con<0){y:Ro}(hy:y∈bs 0 l)(D:vn E.T y.at' y.lits=false):EI n F r s (fv y.at' 0 l) (jK E y.at'):=by
 have t:=oE l 0 y.at';have a:∀{x},x∈bs 0 (fv y.at' 0 l)↔x∈bs 0 l∧x.at'≠y.at':=λ{x}=>by
  rw[t,V9];simp
 have j:(tV E.A y.at').row.length=E.A.row.length:=by unfold tV;split;exact VQ;rfl
 obtain⟨I,K⟩:=h.wok.del y.at';have f:∀(l:List Rc)(p:Nat),(fv y.at' p l).map (·.id)=l.map (·.id):=by
  intro l
  induction l with
  |nil=>intro p;rfl
  |cons z l H=>intro p;rw[fv,VP,VP,H];congr 1;split<;>rfl
 have o:∀c∈rC (fv y.at' 0 l),c∈rC l:=λc m=>by
  obtain⟨x,hx,rfl⟩:=VB.1 m;exact WV (a.1 hx).1
 exact{h with
  wok:=I
  prz:=by have:=h.prz;show(sT E.S y.at').prs.length+r<=_;omega
  ari:=h.ari.drop ((h.ari.isA _).2 ⟨y,hy,rfl⟩)
  rsz:=by show(tV E.A y.at').row.length+s<=_;rw[j];exact h.rsz
  ids:=by
   refine⟨λx hx=>?_,by rw[f];exact h.ids.2⟩;have:x.id∈(fv y.at' 0 l).map (·.id):=WV hx;rw[f]at this;obtain⟨z,hz,e⟩:=VB.1 this;rw[←e];exact h.ids.1 z hz
  cls:=λx hx=>h.cls x (a.1 hx).1
  att:=λk c=>by
   show(∃p,lk (sT E.S y.at').prs k=some p∧p.lits=c)↔_;have h1:=h.att k c;unfold CW at h1;constructor;rintro⟨p,hp,e⟩;rw[HF h.wok.nd]at hp;split at hp;cases hp;rename_i b;obtain⟨x,hx,d,g⟩:=h1.1 ⟨p,hp,e⟩;exact⟨x,a.2 ⟨hx,by rw[d];exact b⟩,d,g⟩;rintro⟨x,hx,d,g⟩;obtain⟨hx,b⟩:=a.1 hx;obtain⟨p,hp,e⟩:=h1.2 ⟨x,hx,d,g⟩;exact⟨p,by rw[HF h.wok.nd,Vs (by rw[←d];exact b)];exact hp,e⟩
  ef:=h.ef.cls (λk h1 C c m=>h.ef.clm k h1 C c (o c m)) λi hi J k hk d g=>by
   obtain⟨x,hx,u,v⟩:=No hk;rw[v]at d⊢;rw[u]at g⊢;have b:x.at'≠y.at':=λe=>by
    have:x=y:=Np hx hy e;subst this;exact h.nolock D hi g d
   obtain⟨G,q,w,B⟩:=Ht (a.2 ⟨hx,b⟩);exact⟨G,q,B,w⟩
  ent:=λx hx=>h.ent x (a.1 hx).1
  ovr:=by
   refine(iff_of_false (by show¬E.over=true;rw[ho];decide) ?_);rintro⟨x,hx,e⟩;have:=h.ovr.2 ⟨x,(a.1 hx).1,e⟩;rw[ho]at this;cases this
  cal:=λhcl x hx=>h.cal hcl x (a.1 hx).1
  con:=λh1=>absurd h1 (by show¬0<=E.con;omega)}
end
def nF(l:List Rc)(ks:af):List Rc:=ks.foldl (λl k=>fv k 0 l) l
theorem wK{x:Ro}:∀{ks:af}{l:List Rc},x∈bs 0 (nF l ks)↔x∈bs 0 l∧x.at'∉ks
 |[],l=>by simp[nF]
 |k::ks,l=>by
  have a:=wK (x:=x) (ks:=ks) (l:=fv k 0 l);show x∈bs 0 (nF (fv k 0 l) ks)↔_;rw[a,oE,V9];simp only[VU,aac,VI,and_assoc]
theorem r9:∀(ks:af)(E:ES),(ks.foldl jK E).T=E.T∧(ks.foldl jK E).over=E.over∧(ks.foldl jK E).con=E.con∧(ks.foldl jK E).pf=E.pf∧(ks.foldl jK E).many=E.many∧(ks.foldl jK E).vars=E.vars∧(ks.foldl jK E).cs=E.cs∧(ks.foldl jK E).id=E.id∧(ks.foldl jK E).keep=E.keep
 |[],_=>⟨rfl,rfl,rfl,rfl,rfl,rfl,rfl,rfl,rfl⟩
 |k::ks,E=>r9 ks (jK E k)
def oG(E:ES)(ks:af):ES:=if ks=[]then E else ks.foldl jK {E with pf:=E.pf++[⟨2,E.id,[],ks.map (iv E.A)⟩]}
structure RedOk (l:List Rc) (E:ES) (ks:af):Prop where
  nd:ks.Nodup
  few:ks.length<=1000
  is:∀k∈ks,∃y∈bs 0 l,y.at'=k∧vn E.T k y.lits=false∧qJ E.A k=true
  kp:(((rA l).filter (qJ E.A)).length:Int)<=E.keep->ks=[]
  if':ks≠[]->E.over=false∧E.con<0
end Go.AX
