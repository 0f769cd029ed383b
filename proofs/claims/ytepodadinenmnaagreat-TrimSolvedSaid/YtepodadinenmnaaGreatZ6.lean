/-
  AX, part Dr: whatever runs, the count of draws never goes back.
-/
import Derived.WalkKit
namespace Go.AX
def rw{α:Type}:Result α->World
 |.ok _ w=>w
 |.halt _ w=>w
theorem sy{α:Type}:∀(x:Ask α)(w:World),w.drawn<=(w.ask x).2.drawn
 |.done a,w=>Nat.le_refl _
 |.ask c b k,w=>by
  simp only[World.ask];split;exact sy (k 0) w;exact Nat.le_trans (Nat.le_succ _) (sy _ {w with drawn:=w.drawn+1})
theorem xB(w:World)(c:Sys):w.drawn<=(w.sys c).2.drawn:=by
 unfold World.sys;have h:=sy (Kernel.perform c w.os) w;split;exact Nat.le_refl _;rename_i r b d a;rw[a]at h;exact h
theorem tL{p:Program}{w w':World}{a:Addr}{u:TypeId}{k:Addr}{v:Value}{b:Bool}{l:List Addr}(h:w.viewStore p a u k v b=.ok (w',l)):w'.drawn=w.drawn:=by
 unfold World.viewStore at h;simp only[bind,Except.bind,pure,Except.pure]at h
 repeat' split at h
 all_goals first
  |(cases h;rfl)
  |(cases h)
  |skip
theorem uR{p:Program}{w w':World}{a:Addr}{v:Value}{b:Bool}{l:List Addr}(h:w.farStore p a v b=.ok (w',l)):w'.drawn=w.drawn:=by
 unfold World.farStore at h;split at h;split at h;rename_i r c;cases h;exact tL c;cases h;cases h
theorem zp(w:World)(a:Addr)(n:Nat):(w.freeze a n).drawn=w.drawn:=by
 unfold World.freeze;split<;>rfl
theorem oT{α:Type}(p:Program)(s:Sem α):∀(w:World),w.drawn<=(rw (s.run p w)).drawn:=by
 induction s with
 |pure a=>intro w;exact Nat.le_refl _
 |load m a k b=>
  intro w;simp only[Sem.run];split;exact b _ w;split;exact b _ w;exact Nat.le_refl _
 |store m a v k b=>
  intro w; have key : w.drawn <= (rw (match w.cell? a with
   |some _=>if w.frozen? a then .halt (.unsupported (.unsafePointer "a write to bytes that a string shares")) w else k.run p (w.setCell a v)
   |none=>match w.farStore p a v (m==.atomic)with
    |.ok (w,_)=>k.run p w
    |.error h=>.halt h w)).drawn:=by
   split;split;exact Nat.le_refl _;exact b (w.setCell a v);split;rename_i e l d;have:=b e;rw[uR d]at this;exact this;exact Nat.le_refl _
  cases v<;>first|exact key|exact Nat.le_refl _
 |new o k b=>intro w;exact b _ {w with heap:=w.heap.push o}
 |shape r k b=>intro w;exact b _ w
 |freeze a n k b=>
  intro w;have:=b (w.freeze a n);rw[zp]at this;exact this
 |frozen a k b=>intro w;exact b _ w
 |getObj r k b=>
  intro w;simp only[Sem.run];split;exact Nat.le_refl _;exact b _ w;exact Nat.le_refl _
 |setObj r o k b=>
  intro w;simp only[Sem.run];split;exact Nat.le_refl _;exact b {w with heap:=w.heap.setIfInBounds r o};exact Nat.le_refl _
 |choose q k b=>
  intro w;simp only[Sem.run];split;exact b _ w;exact Nat.le_trans (Nat.le_succ _) (b _ {w with drawn:=w.drawn+1})
 |sys c k b=>intro w;exact Nat.le_trans (xB w c) (b _ _)
 |program k b=>intro w;exact b _ w
 |mark _ k b=>intro w;exact b w
 |halt h=>intro w;exact Nat.le_refl _
theorem eu{α:Type}{p:Program}{s:Sem α}{w w':World}{x:α}(h:s.run p w=.ok x w'):w.drawn<=w'.drawn:=by
 have:=oT p s w;rw[h]at this;exact this
theorem run_halt{α:Type}{p:Program}{s:Sem α}{w w':World}{x:Halt}(h:s.run p w=.halt x w'):w.drawn<=w'.drawn:=by
 have:=oT p s w;rw[h]at this;exact this
theorem iH{α:Type}(p:Program)(s:Sem α)(w:World)(es:Array Event):w.drawn<=(rw (s.runT p w es).1).drawn:=by
 rw[Sem.runT_fst];exact oT p s w
theorem Oj{α:Type}{p:Program}{s:Sem α}{w w':World}{x:α}{es a:Array Event}(h:s.runT p w es=(.ok x w',a)):w.drawn<=w'.drawn:=by
 have:=iH p s w es;rw[h]at this;exact this
theorem Ih{α:Type}{p:Program}{s:Sem α}{w w':World}{x:Halt}{es a:Array Event}(h:s.runT p w es=(.halt x w',a)):w.drawn<=w'.drawn:=by
 have:=iH p s w es;rw[h]at this;exact this
theorem ig{α:Type}{p:Program}{s:Sem α}{w w':World}{x:α}{es:Array Event}(h:(s.runT p w es).1=.ok x w'):w.drawn<=w'.drawn:=by
 have:=iH p s w es;rw[h]at this;exact this
theorem gC{α:Type}{p:Program}{s:Sem α}{w w':World}{x:Halt}{es:Array Event}(h:(s.runT p w es).1=.halt x w'):w.drawn<=w'.drawn:=by
 have:=iH p s w es;rw[h]at this;exact this
def gw:GStep->World
 |.go _ w _=>w
 |.comm _ _ _ _ w _=>w
 |.spawn _ _ w _=>w
 |.count _ w _=>w
 |.timer _ _ w _=>w
 |.alone _ _ w _=>w
 |.newcoro _ _ _ w _=>w
 |.coroswitch _ _ _ w _=>w
 |.collect _ w _=>w
 |.watch _ w _=>w
 |.ended _ w _=>w
theorem i8(es:Array Event)(s:GStep):gw (s.after es)=gw s:=by cases s<;>rfl
theorem wQ(w:World)(b:Nat)(a:ByteArray)(o:Outcome):w.drawn<=(gw (endWith w b a o)).drawn:=by
 unfold endWith;have h:=xB w (.write b a);generalize hs:w.sys (.write b a)=r at h;obtain⟨r,c⟩:=r;cases r<;>first|exact h|(simp only[];split<;>exact h)
theorem nU(p:Program)(a:Frame)(v:Value)(w:World):gw (endPrinting p a v w)=w:=by
 unfold endPrinting;simp only;split<;>rfl
theorem nV(p:Program)(c:Frame)(a:List Frame)(b:Option Dying)(m:String)(w:World):w.drawn<=(gw (endFatal p c a b m w)).drawn:=by
 unfold endFatal;simp only;split;rename_i h;exact eu h;rename_i h;exact run_halt h;rename_i h;exact run_halt h
theorem wR(p:Program)(b:Frame)(d:Dying)(f:Fatal)(w:World):w.drawn<=(gw (writeOn p b d f w)).drawn:=by
 unfold writeOn;simp only;split;exact Nat.le_refl _;split<;>rename_i a<;>first|exact Oj a|exact Ih a
theorem Ii(p:Program)(b:Frame)(d:Dying)(w:World):w.drawn<=(gw (die p b d w)).drawn:=by
 unfold die;split;exact wR ..;split;split;exact Nat.le_refl _;exact wQ ..;simp only;split;exact Nat.le_refl _;split;rename_i h;exact eu h;rename_i h;exact run_halt h;rw[i8];split<;>first
  |exact Nat.le_refl _
  |(rename_i a;first|exact ig a|exact gC a|(rw[nU];exact gC a))
 exact Nat.le_refl _
theorem lh(p:Program)(c:Bool)(d:Frame)(a:List Frame)(b:Option Dying)(v:Value)(w:World):gw (doReturn p c d a b v w)=w:=by
 unfold doReturn
 repeat' split
 all_goals rfl
theorem DQ{n:Nat}{c:Prop}[Decidable c]{a b:GStep}(d:n<=(gw a).drawn)(e:n<=(gw b).drawn):n<=(gw (if c then a else b)).drawn:=by
 split;exact d;exact e
theorem qh(p:Program)(g:Frame)(c:List Frame)(e:Option Dying)(d:Deferred)(w:World):w.drawn<=(gw (callDeferred p g c e d w)).drawn:=by
 unfold callDeferred;refine DQ (Nat.le_refl _) ?_;simp only;rw[i8];have h:=iH p (invoke d.target d.args) w #[];generalize((invoke d.target d.args).runT p w #[]).1=r at h⊢;cases r with
 |ok v f=>
  change w.drawn<=f.drawn at h
  cases v<;>first|exact h|(rename_i a b;first|(cases a<;>exact h)|(cases b<;>exact h))|(dsimp only;split<;>exact h)
 |halt i f=>
  change w.drawn<=f.drawn at h
  cases i<;>first|exact h|exact Nat.le_trans h (nV ..)
theorem zr(p:Program)(d:Bool)(e:Frame)(b:List Frame)(c:Option Dying)(w:World):w.drawn<=(gw (unwind p d e b c w)).drawn:=by
 unfold unwind;split;simp only;rw[i8];split<;>rename_i a<;>first|exact ig a|exact gC a
 exact qh ..;split;exact Nat.le_refl _;split;exact Nat.le_refl _;split;exact Nat.le_refl _;split;split;exact Nat.le_refl _;split<;>rename_i a<;>first|exact eu a|exact run_halt a
 split;rw[nU];exact Nat.le_refl _;exact Nat.le_refl _;split;rw[lh];exact Nat.le_refl _;simp only;rw[i8];split<;>rename_i a<;>first|(rw[lh];exact ig a)|exact gC a
theorem A8(p:Program)(c:Frame)(a:List Frame)(b:Option Dying)(g:Nat)(w:World):w.drawn<=(gw (early p c a b g w)).drawn:=by
 unfold early;simp only
 repeat' split
 all_goals simp only[gw]
 all_goals first
  |exact Nat.le_refl _
  |exact eu (by assumption)
  |exact run_halt (by assumption)
theorem gI(p:Program)(a:Bool)(e:Frame)(b:List Frame)(c:Option Dying)(s:Sem Next)(w:World):w.drawn<=(gw (stepG.apply p a e b c s w)).drawn:=by
 unfold stepG.apply;simp only;rw[i8];have h:w.drawn<=(rw (if a=true then s.runT p w #[]else(s.run p w,#[])).1).drawn:=by
  split;exact iH p s w #[];exact oT p s w
 generalize(if a=true then s.runT p w #[]else(s.run p w,#[]))=r at h⊢;obtain⟨r,es⟩:=r;cases r with
 |ok v d=>
  change w.drawn<=d.drawn at h
  cases v<;>first|exact h|(dsimp only;(repeat' split)<;>exact h)
 |halt f d=>
  change w.drawn<=d.drawn at h
  cases f<;>first|exact h|exact Nat.le_trans h (nV ..)|(rename_i u;cases u<;>first|exact h|exact Nat.le_trans h (A8 ..))
theorem Ol{α:Type}{n:Nat}{x:Option α}{a:GStep}{f:α->GStep}(b:n<=(gw a).drawn)(c:∀y,n<=(gw (f y)).drawn):n<=(gw (x.elim a f)).drawn:=by
 cases x with
 |none=>exact b
 |some y=>exact c y
theorem DR(p:Program)(b:Bool)(d:Frame)(a:List Frame)(c:Option Dying)(w:World):w.drawn<=(gw (stepG.oper p b d a c w)).drawn:=by
 unfold stepG.oper;split;exact Nat.le_refl _;split<;>exact gI ..
theorem DS(p:Program)(d b:Bool)(e:Frame)(a:List Frame)(c:Option Dying)(w:World):w.drawn<=(gw (stepG.exec p d b e a c w)).drawn:=by
 unfold stepG.exec;simp only;split
 all_goals try (first|exact Nat.le_refl _|exact gI ..)
 all_goals try (split<;>first|exact Nat.le_refl _|exact gI .. |(rw[i8];split<;>first|(rw[lh];exact ig (by assumption))|exact ig (by assumption)|exact gC (by assumption)))
 all_goals try (refine Ol ?_ ?_)
 all_goals try (intro y;first|exact Nat.le_refl _|exact gI ..)
 all_goals try (split<;>first|exact Nat.le_refl _|exact gI .. |(rw[i8];split<;>first|(rw[lh];exact ig (by assumption))|exact ig (by assumption)|exact gC (by assumption)))
 all_goals try (rw[i8];split<;>first|exact ig (by assumption)|exact Nat.le_trans (ig (by assumption)) (gI ..)|exact gC (by assumption))
 all_goals try (refine DQ (Nat.le_refl _) ?_;split<;>first|exact eu (by assumption)|exact run_halt (by assumption))
 all_goals try (refine DQ ?_ ?_<;>first|exact Nat.le_refl _|exact DR ..)
 all_goals exact Nat.le_refl _
theorem A9(p:Program)(b:Bool)(g:Goroutine)(w:World)(a:Bool):w.drawn<=(gw (stepG p b g w a)).drawn:=by
 unfold stepG;simp only;split;exact Ii ..;exact DS ..;exact zr ..
def sw:Stepped->Nat->Prop
 |.next m,n=>n<=m.world.drawn
 |_,_=>True
theorem rf(p:Program)(rest:Rest)(b:Array Goroutine)(i:Nat)(g:Goroutine)(cases:Array CommCase)(a:Bool)(shape:CommShape)(w:World):sw (communicate p rest b i g cases a shape w).1 w.drawn:=by
 unfold communicate;simp only;split;trivial;split;split;split;rename_i h;unfold waitingAt at h;split at h;split at h;cases h;exact Nat.le_refl _;cases h;cases h;exact Nat.le_refl _;trivial;exact Nat.le_refl _;split;trivial
 .rename_i h;have h1:=eu h
  repeat' split
  all_goals first
   |trivial
   |exact h1
   |(simp only[sw];exact Nat.le_trans h1 (run_halt (by assumption)))
   |(simp only[sw];exact Nat.le_trans h1 (eu (by assumption)))
theorem uS(p:Program)(a:Array Goroutine)(rest:Rest)(w:World):sw (look p a rest w) w.drawn:=by
 unfold look;split;simp only;split;trivial;split;trivial;split;rename_i h;have h1:=eu h;exact h1;trivial;trivial;trivial
theorem Ba(w:World)(c:Nat):(drain w c).2.drawn=w.drawn:=by
 unfold drain;split<;>rfl
theorem zt(m:Machine)(k:Nat)(t:Timer)(b a:Nat):(retime m k t b a).2.world.drawn=m.world.drawn:=by
 unfold retime;simp only;split;exact Ba ..;rfl
theorem wS{m e:Machine}{op:TimerOp}{v:Value}(h:timerOp m op=.ok (v,e)):e.world.drawn=m.world.drawn:=by
 have a:∀(c:Machine)(d:Addr)(f pe:Timer->Nat),c.world.drawn=m.world.drawn->timerOp.named m d (λk t=>retime c k t (f t) (pe t))=.ok (v,e)->e.world.drawn=m.world.drawn:=by
  intro c d f pe h0 h1;unfold timerOp.named at h1;split at h1;cases h1;exact(zt ..).trans h0;cases h1
 unfold timerOp at h;split at h;split at h;cases h;rfl;split at h;split at h;cases h;cases h;rfl;cases h;exact a m _ (λ_=>0) (λt=>t.period) rfl h;split at h;rename_i c b;refine a c _ (λ_=>_) (λ_=>_) ?_ h;unfold timerOp.opened at b;split at b;split at b;cases b;rfl;cases b;cases b;rfl;cases h;cases h;rfl
theorem xC{r:Stepped}{n k:Nat}(a:sw r n)(h:k<=n):sw r k:=by
 cases r with
 |next b=>exact Nat.le_trans h a
 |_=>trivial
theorem tM(p:Program)(m:Machine)(i:Nat)(a:Bool):sw (runT p m i a).1 m.world.drawn:=by
 unfold runT;simp only;have h:=A9 p (i==0) (m.gs.swapAt! i {(default:Goroutine)with status:=.finished}).1 m.world a;generalize stepG p (i==0) (m.gs.swapAt! i {(default:Goroutine)with status:=.finished}).1 m.world a=s at h⊢;cases s with
 |ended o w es=>trivial
 |comm g cases b shape w es=>
  exact xC (rf ..) h
 |go g w es=>exact h
 |spawn g e w es=>exact h
 |count g w es=>
  dsimp only;split;trivial;exact h
 |alone g on w es=>exact h
 |collect g w es=>
  exact xC (uS ..) h
 |watch g w es=>exact h
 |newcoro g c d w es=>exact h
 |coroswitch g c f w es=>
  dsimp only;split;exact h;exact h;trivial
 |timer g op w es=>
  dsimp only;split;rename_i v j ht;show m.world.drawn<=j.world.drawn;rw[wS ht];exact h;exact h;trivial;trivial
def To:Move->Nat->Prop
 |.goroutine m _,n=>n<=m.world.drawn
 |.machine s _,n=>sw s n
theorem Bb(p:Program)(m:Machine)(k:Nat):sw (serve p m k) m.world.drawn:=by
 unfold serve;split;trivial;exact Nat.le_refl _;dsimp only;split;trivial;exact Nat.le_refl _
theorem KF{r:Move}{n k:Nat}(a:To r n)(h:k<=n):To r k:=by
 cases r with
 |goroutine b i=>exact Nat.le_trans h a
 |machine s ops=>exact xC a h
theorem nW(p:Program)(m:Machine):To (askOn p m) m.world.drawn:=by
 unfold askOn;simp only;split;trivial;rename_i k d hk;have h1:=eu hk;split;exact xC (Bb p _ _) h1;split;split;exact h1;split;exact h1;split<;>trivial;split;split;trivial;rename_i a;have a:=eu a;split;exact Nat.le_trans h1 a;split;trivial;rename_i c;exact Nat.le_trans (Nat.le_trans h1 a) (eu c);split;trivial;rename_i b;have b:=eu b;split;trivial;rename_i a;have a:=eu a;split;exact Nat.le_trans (Nat.le_trans h1 b) a;split;trivial;rename_i c;exact Nat.le_trans (Nat.le_trans (Nat.le_trans h1 b) a) (eu c);rename_i b;have b:=eu b;exact Nat.le_trans h1 b;rename_i b;have b:=eu b;split;trivial;rename_i a;have a:=eu a;split;exact Nat.le_trans (Nat.le_trans h1 b) a;split;trivial;rename_i c;exact Nat.le_trans (Nat.le_trans (Nat.le_trans h1 b) a) (eu c)
theorem nX(p:Program)(m:Machine):To (ask p m) m.world.drawn:=by
 unfold ask;split;split;trivial;rename_i a h;have h1:=eu h;have b:=uS p m.gs m.rest a;split;rename_i c;rw[c]at b;exact KF (nW p _) (Nat.le_trans h1 b);exact xC b h1;rename_i h;exact KF (nW p _) (eu h);exact nW p m
theorem DU(p:Program)(m:Machine):To (move p m) m.world.drawn:=by
 unfold move;split;split;exact Nat.le_refl _;trivial;split;split;exact Nat.le_refl _;exact nX p _;exact nX p _
theorem DV{p:Program}{m b:Machine}(h:step p m=.next b):m.world.drawn<=b.world.drawn:=by
 have h1:=DU p m;have a:sw (step p m) m.world.drawn:=by
  unfold step stepT;generalize move p m=r at h1⊢;cases r with
  |goroutine c i=>exact xC (tM ..) h1
  |machine s ops=>exact h1
 rw[h]at a;exact a
theorem uT{p:Program}:∀(n:Nat)(m a:Machine),runN p n m=.next a->m.world.drawn<=a.world.drawn
 |0,m,a,h=>by cases h;exact Nat.le_refl _
 |n+1,m,a,h=>by
  simp only[runN]at h;split at h;rename_i c h1;exact Nat.le_trans (DV h1) (uT n _ _ h);rename_i b;exact absurd h (b _)
theorem Bc{p:Program}{m a:Machine}(h:Steps p m a):m.world.drawn<=a.world.drawn:=by
 obtain⟨n,h⟩:=h;exact uT n _ _ h
theorem tf{P:Program}{f:FuncId}{args:Array Value}{w:World}{R:Ending->World->Prop}(h:Calls P f args w R)(g:∀e w',R e w'->∃v,e=.returned v):Calls P f args w (λe w'=>R e w'∧w.drawn<=w'.drawn):=by
 intro cs;obtain⟨e,w',b,h1,a,c,d⟩:=h cs;obtain⟨v,rfl⟩:=g e w' h1;exact⟨_,w',b,⟨h1,Bc a⟩,a,c,d⟩
end Go.AX
