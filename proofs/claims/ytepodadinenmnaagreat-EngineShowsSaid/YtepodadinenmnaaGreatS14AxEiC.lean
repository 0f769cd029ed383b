/-
  The law's contract: EngineShows.
-/
import Derived.Test.YtepodadinenmnaaGreatS14AxEhC
import Derived.Test.YtepodadinenmnaaGreatS14AxEiA
import Derived.Test.YtepodadinenmnaaGreatS14AxEiB
import Derived.Test.YtepodadinenmnaaGreatS14AxWaD
namespace Go.AX
open Go.Proofs
set_option linter.unusedSimpArgs false
def MS(E:ES):Prop:=∀s∈E.pf,s.kind=1∧s.lits.length<=1000∧s.hints.length<=1000
theorem CkE.kin{n r s:Nat}{F:List (List Int)}{l l':List Rc}{E a:ES}{c:Ck}(K:CkE F l E c)(h:EI n F r s l E)(d:MS E)(k:OJ l E l' a)(oi:E.id+1<=10000000):(∃f,CkE F l' a f)∧MS a∧a.id<=E.id+1∧a.pf.length<=E.pf.length+1:=by
 rcases k with⟨rfl,b,g⟩|⟨ho,e,rfl,q,p,k,rfl⟩
 .exact⟨⟨c,{K with run:=by rw[b];exact K.run,last:=K.last.trans g.symm,may:=by rw[b];exact K.may}⟩,by unfold MS;rw[b];exact d,by omega,by rw[b];omega⟩
 .refine⟨⟨_,K.res h e oi q p k⟩,λs hs=>?_,Ss _,by show(E.pf++[_]).length<=_;simp⟩;have R:=h.res e;have i:=h.n9;rcases Qn.1 hs with hs|hs
  .exact d s hs
  .rw[QI]at hs;subst hs;exact⟨rfl,by have:=R.len;dsimp only;omega,by have:=R.hle;dsimp only;rw[Ql];omega⟩
set_option maxRecDepth 16000 in
set_option maxHeartbeats 1000000 in
theorem th(v:Int)(cs:List (List Int))(rs kp m:Int)(a:List Int):
 am Tryz.prog 8 [.agg [af v,.seq false 1 (cs.map az)],.agg [af rs,af kp,af m],.seq false 1 (ab a)] (λr=>r=.pv (BL true)):=by
 refine ao aD Tryz.func8 ?_;simp;refine ah.intro (Iw v cs a) ?_;cases hf:zh v cs a
 .simp;refine ah.intro oe ?_;simp
 obtain⟨⟨f1,f2⟩,⟨f3,f4⟩,f5⟩:=IF hf;have h:∀c∈cs,c.length<=1000000:=λc hc=>by have:=f5 c hc;omega
 simp
 by_cases hk:(lG v cs).2=0
 rotate_left
 .have R:=zb [[.pv (af v),.pv (.seq false 1 (cs.map az))],[.pv (af rs),.pv (af kp),.pv (af m)]] v cs rs kp m h (.inl hk);rw[Qb hk]at R;refine ah.introM R ?_;rintro _ H ⟨rfl,_⟩;simp[hk];refine ah.intro oe ?_;simp
 obtain ⟨n, rfl⟩ := RL f1; have T := wO [[.pv (af n), .pv (.seq false 1 (cs.map az))], [.pv (af rs), .pv (af kp), .pv (af m)]] n (by omega) cs rs kp m (by omega) h hk (r := a.length) (s := a.length * (n + 3)) (by omega) (by
  have:a.length*(n+3)<=60*13:=Nat.mul_le_mul f4 (by omega);omega)
 refine ah.introM T ?_;rintro _ H ⟨be,bt,ba,bw,bh,mp,E,l,rfl,o,O,N,b⟩;clear T;simp;refine aH.intro (S:=λ(x:Nat×List (List SV)×List (Int×Nat)×List (Int×By)×ES×List Rc)=>⟨[(2,.pv (.seq false 1 (ab a))),(3,.pv (.ptr 0 0)),(7,.pv (.ptr be 0)),(9,.pv (af x.1))],x.2.1⟩)
  (λx=>x.1<=a.length∧LayE x.2.1 be bt ba bw bh x.2.2.1 x.2.2.2.1 x.2.2.2.2.1∧Ext [[.pv (af n),.pv (.seq false 1 (cs.map az))],[.pv (af rs),.pv (af kp),.pv (af m)]] x.2.1 (λ_=>False) (eG be bt ba bw bh x.2.2.1 x.2.2.2.1)∧EJ n cs (a.length -x.1) ((a.length -x.1)*(n+3)) x.2.2.2.2.2 x.2.2.2.2.1∧(∃c,CkE cs x.2.2.2.2.2 x.2.2.2.2.1 c)∧MS x.2.2.2.2.1∧x.2.2.2.2.1.id<=60+x.1∧x.2.2.2.2.1.pf.length<=x.1) (λx=>a.length -x.1)
  (0,H,mp,[],E,l) ?_ ⟨Qq _,o,O,b.ej N (by omega),⟨_,CkE.new (by omega) b.num b.side b.id b.pf⟩,by unfold MS;rw[b.pf];simp,by rw[b.id];dsimp only;omega,by rw[b.pf];exact Qc _⟩ ?_
 .exact ai.keep (by simp) rfl
 clear o O N b H mp E l;rintro⟨i,H,mp,mb,E,l⟩ ⟨hi,L,X,J,⟨c,K⟩,f,oi,t⟩;dsimp only at hi L X J K f oi t
 by_cases d:i<a.length
 .have M:=eq i;have hd:a.length -i=(a.length -(i+1))+1:=by omega
  rw[hd,RZ]at J;simp[d];refine ak.intro (ID L J a[i]) ?_;rintro _ Y ⟨rfl,mp',mb',W,l',L',X',J',K'⟩;simp;obtain⟨q1,q2,q3,q4⟩:=K.kin J.toEI f K' (by omega);exact⟨(i+1,Y,mp',mb',W,l'),by(try dsimp only);omega,⟨by(try dsimp only);omega,L',X.trans X',J',q1,q2,by(try dsimp only);omega,by(try dsimp only);omega⟩,ai.keep (by simp[M]) rfl⟩
 have k:i=a.length:=by omega
 subst k;have p:H[0]?=some [.pv (af n),.pv (.seq false 1 (cs.map az))]:=X.same 0 (by simp) (λe=>e);obtain⟨F,B⟩:=P7.1 p;have hI:=J.toEI;have kC:=(JY H n cs h).mono (R':=λr h'=>h'=H++[[.pv (af n),.pv (.seq false 1 (cs.map az))],io (Ec cs)]∧r=.pv (.tup [.ptr (H.length+1) 0,af 0])) λr h' P=>by
  rw[Qa (by simp[hk])]at P;exact P
 simp[p,F,B];refine ah.introM kC ?_;rintro _ _ ⟨rfl,rfl⟩;have o:=L.app [[.pv (af n),.pv (.seq false 1 (cs.map az))],io (Ec cs)];have G:=J.pfz;have U:=ve o.e (by omega) (λs hs=>by have:=f s hs;omega);obtain⟨y,C⟩:∃x:List SV,x=[.pv (af n),.pv (.seq false 1 (cs.map az))]:=⟨_,rfl⟩;rw[←C]at o U⊢;simp;refine ak.intro U ?_;rintro _ H1 ⟨rfl,rfl⟩;obtain⟨ss,I⟩:∃ss,E.pf=ss:=⟨_,rfl⟩;have g:=K.run;have j:=K.over hI;have q:=K.may;unfold MS at f;rw[I]at g q f G t⊢;simp;refine aH.intro (S:=λ(x:Nat×Ck)=>⟨[(7,.pv (.ptr be 0)),(10,.pv (.ptr (H.length+1) 0)),(12,.pv (.seq true 4 (ss.map qF))),(13,.pv (af x.1))],H++[y,io x.2]⟩)
  (λx=>x.1<=ss.length∧tg x.2 (ss.drop x.1) c∧CkN (cs.length+x.1) x.2) (λx=>ss.length -x.1) (0,Ec cs) ?_ ⟨Qq _,g,(yy (L:=cs) (λu hu=>QP (f5 u hu) (by decide)) (by omega) cs.length (Qc _)).1⟩ ?_
 .exact ai.keep (by simp) rfl
 rintro⟨i,d⟩ ⟨hi,w,A⟩;dsimp only at hi w A
 by_cases z:i<ss.length
 .have M:=eq i;have hp:=f _ (Qe z);rw[QU z]at w;obtain⟨r1,r2⟩:=w;have V:=(Hh (H++[y,io d]) (H.length+1) d (by simp) (A.ok (by omega)) ss[i] (by omega) (by omega)).args (xs:=[.ptr (H.length+1) 0,.agg (qF ss[i])]) (by simp[bG,bI,qF,dF]);rw[r1]at V;simp[z,show List.take 4 (qF ss[i])=qF ss[i]from rfl];refine ak.intro V ?_;rintro _ _ ⟨rfl,rfl⟩;simp;exact⟨(i+1,(jf d ss[i]).1),by(try dsimp only);omega,⟨by(try dsimp only);omega,r2,A.step (by omega)⟩,ai.keep (by simp[M]) (by simp)⟩
 .have k:i=ss.length:=by omega
  subst k;rw[List.drop_length]at w;have D:d=c:=w;subst D;simp;refine ah.intro (wS ss (by omega) (λs hs=>by have:=f s hs;omega) (λs hs=>(f s hs).1) q) ?_;simp;have L2:=L.app [y,io d];have Q:=GU (H++[y,io d]) (H.length+1) d (by simp);rw[j]at Q;refine ak.intro Q ?_;rintro _ Z ⟨rfl,rfl⟩;simp;refine ak.intro (sX L2.e) ?_;rintro _ Z ⟨rfl,rfl⟩;simp;refine aO.introK (λ_=>?_) (λe=>absurd trivial e);refine ah.intro oe ?_;simp
end Go.AX