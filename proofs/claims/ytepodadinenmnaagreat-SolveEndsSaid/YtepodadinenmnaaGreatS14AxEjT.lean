/-
  Plain law: the levels that law20's play tells are the trail's.
  Contracts: law20's play: what holds of it; all follows.
  Contracts: law20's play: a call.
  Contracts: law20's play: one is begun.
-/
import Derived.Test.YtepodadinenmnaaGreatS14AxEjB
namespace Go.AX
open Go.Proofs
set_option linter.unusedSimpArgs false
theorem TMk.cons{n:Nat}{T:Tr}(h:TMk n T):Cons T.lits:=λ_ hy a=>h.one hy a
section
variable {n r s : Nat} {F : List (List Int)} {l : List Rc} {E : ES}
theorem EI.uok(h:EI n F r s l E):UOk n (rC l)where
 hn:=by have:=h.n9;omega
 nd:=λc a=>by obtain⟨y,hy,rfl⟩:=Of.1 a;exact(h.cls y hy).2.1
 len:=λc a=>by obtain⟨y,hy,rfl⟩:=Of.1 a;exact(h.cls y hy).1
 chk:=λc a=>by obtain⟨y,hy,rfl⟩:=Of.1 a;exact(h.cls y hy).2.2
end
section
variable {n r s : Nat} {F : List (List Int)} {h : List (List SV)} {be bt ba bw bh bp : Nat} {mp : List (Int × Nat)} {mb : List (Int × By)} {E : ES} {l : List Rc} {P : PlS}
theorem CkE.same{c:Ck}{E':ES}(K:CkE F l E c)(a:E'.pf=E.pf)(b:E'.id=E.id):CkE F l E' c:=
 {K with run:=by rw[a];exact K.run,last:=K.last.trans b.symm,may:=by rw[a];exact K.may}
theorem EJ.resd{q:HS}{p:List Bool}{k:Int}(I:EJ n F (r+1) (s+(n+3)) l E)(b:0<=E.con)(a:EI n F r s (l++[⟨E.id+1,1,aE E⟩]) (lE E q p k)):EJ n F r s (l++[⟨E.id+1,1,aE E⟩]) (lE E q p k):=by
 have R:=I.toEI.res b;have c:=R.len;have hle:=R.hle;have d:=I.n9;refine{a with kp:=?_,mny:=?_,pfz:=?_,pfs:=?_,vr:=I.vr,fm:=I.fm}
 .have e:=I.kp;show _<=E.keep;rw[PD];simp;omega
 .have:=I.mny;show 0<=E.many+1∧E.many+1+r<=1000000;omega
 .have:=I.pfz;show(E.pf++[_]).length+r<=1000000;simp;omega
 .intro x hx;rcases Om.1 hx with hx|hx
  .exact I.pfs x hx
  .simp at hx;subst hx;exact⟨by show(aE E).length<=_;omega,by simp;omega⟩
end
section
variable {n r s : Nat} {F : List (List Int)} {h : List (List SV)} {be bt ba bw bh bp : Nat} {mp : List (Int × Nat)} {mb : List (Int × By)} {E : ES} {l : List Rc} {P : PlS}
theorem EJ.decs(J:EJ n F r s l E){E':ES}{b:Bool}(hd:xm n E E' b):EJ n F r s l E':=by
 have a:=J.toEI.decs hd;rcases hd with⟨_,rfl,_⟩|⟨_,_,q,_,⟨_,x,_,rfl,_⟩|⟨_,rfl,_,_⟩⟩
 .exact J
 .exact J.to a rfl rfl rfl rfl rfl rfl
 .exact J.to a rfl rfl rfl rfl rfl rfl
theorem EI.full(h:EI n F r s l E)(k:∀v∈E.q.row,v∈E.T.lits.map ab):E.T.lits.length=n:=by
 have m:=h.tok.few;have h1:∀v∈(List.range n).map (λi:Nat=>((i+1:Nat):Int)),v∈E.T.lits.map ab:=λv j=>by
  obtain⟨i,hi,rfl⟩:=Of.1 j;rw[Pg]at hi
  by_cases c:((i+1:Nat):Int)∈E.T.lits.map ab
  .exact c
  .exact k _ (h.inh _ (by omega) (by omega) c)
 have f:((List.range n).map (λi:Nat=>((i+1:Nat):Int))).Nodup:=by
  refine Qa.2 (List.nodup_range.imp ?_);intro a b d e;exact d (by omega)
 have g:=cX _ _ f h1;rw[Oj,Oj,Sm]at g;omega
end
section
variable {n r s : Nat} {F : List (List Int)} {l : List Rc} {E : ES}
end
theorem LayE.dlt{h:List (List SV)}{be bt ba bw bh:Nat}{mp:List (Int×Nat)}{mb:List (Int×By)}{E:ES}(L:LayE h be bt ba bw bh mp mb E){b:Nat}(hd:cZ be bt ba bw bh mp mb b):b<h.length:=by
 have key:∀{b:Nat}{x:List SV},h[b]?=some x->b<h.length:=λe=>(N5.1 e).1;rcases hd with rfl|rfl|rfl|rfl|rfl|⟨k,hk⟩|⟨l,e,d,rfl⟩
 .exact key L.e
 .exact key L.q
 .exact key L.w.a
 .exact key L.w.w
 .exact key L.w.t
 .obtain⟨p,_,c,_⟩:=L.w.pr k b hk;exact key c
 .obtain⟨zs,_,⟨sp,c,_⟩,_⟩:=L.w.by' l e d
  exact key c
end Go.AX