/-
  AX, part Dr: whatever runs, the count of draws never goes back.
-/
import Derived.WalkKit
namespace Go.AX
def rw{α:Type}:Result α->World
 |.ok _ w=>w
 |.halt _ w=>w
theorem qu{α:Type}:∀(x:Ask α)(w:World),w.drawn<=(w.ask x).2.drawn
 |.done a,w=>Nat.le_refl _
 |.ask c b k,w=>by
  simp only[World.ask];split
  .exact qu (k 0) w
  .exact Nat.le_trans (Nat.le_succ _) (qu _ {w with drawn:=w.drawn+1})
theorem vA(w:World)(c:Sys):w.drawn<=(w.sys c).2.drawn:=by
 unfold World.sys;have h:=qu (Kernel.perform c w.os) w;split
 .exact Nat.le_refl _
 .rename_i r b d a;rw[a]at h;exact h
theorem rB{p:Program}{w w':World}{a:Addr}{u:TypeId}{k:Addr}{v:Value}{b:Bool}{l:List Addr}(h:w.viewStore p a u k v b=.ok (w',l)):w'.drawn=w.drawn:=by
 unfold World.viewStore at h;simp only[bind,Except.bind,pure,Except.pure]at h
 repeat' split at h
 all_goals first
  |(cases h;rfl)
  |(cases h)
  |skip
theorem sX{p:Program}{w w':World}{a:Addr}{v:Value}{b:Bool}{l:List Addr}(h:w.farStore p a v b=.ok (w',l)):w'.drawn=w.drawn:=by
 unfold World.farStore at h;split at h
 .split at h
  .rename_i r c;cases h
   exact rB c
  .cases h
 .cases h
theorem xj(w:World)(a:Addr)(n:Nat):(w.freeze a n).drawn=w.drawn:=by
 unfold World.freeze;split<;>rfl
theorem np{α:Type}(p:Program)(s:Sem α):∀(w:World),w.drawn<=(rw (s.run p w)).drawn:=by
 induction s with
 |pure a=>intro w;exact Nat.le_refl _
 |load m a k b=>
  intro w;simp only[Sem.run];split
  .exact b _ w
  .split
   .exact b _ w
   .exact Nat.le_refl _
 |store m a v k b=>
  intro w; have key : w.drawn <= (rw (match w.cell? a with
   |some _=>if w.frozen? a then .halt (.unsupported (.unsafePointer "a write to bytes that a string shares")) w else k.run p (w.setCell a v)
   |none=>match w.farStore p a v (m==.atomic)with
    |.ok (w,_)=>k.run p w
    |.error h=>.halt h w)).drawn:=by
   split
   .split
    .exact Nat.le_refl _
    .exact b (w.setCell a v)
   .split
    .rename_i e l d;have:=b e;rw[sX d]at this;exact this
    .exact Nat.le_refl _
  cases v<;>first|exact key|exact Nat.le_refl _
 |new o k b=>intro w;exact b _ {w with heap:=w.heap.push o}
 |shape r k b=>intro w;exact b _ w
 |freeze a n k b=>
  intro w;have:=b (w.freeze a n);rw[xj]at this;exact this
 |frozen a k b=>intro w;exact b _ w
 |getObj r k b=>
  intro w;simp only[Sem.run];split
  .exact Nat.le_refl _
  .exact b _ w
  .exact Nat.le_refl _
 |setObj r o k b=>
  intro w;simp only[Sem.run];split
  .exact Nat.le_refl _
  .exact b {w with heap:=w.heap.setIfInBounds r o}
  .exact Nat.le_refl _
 |choose q k b=>
  intro w;simp only[Sem.run];split
  .exact b _ w
  .exact Nat.le_trans (Nat.le_succ _) (b _ {w with drawn:=w.drawn+1})
 |sys c k b=>intro w;exact Nat.le_trans (vA w c) (b _ _)
 |program k b=>intro w;exact b _ w
 |mark _ k b=>intro w;exact b w
 |halt h=>intro w;exact Nat.le_refl _
theorem dB{α:Type}{p:Program}{s:Sem α}{w w':World}{x:α}(h:s.run p w=.ok x w'):w.drawn<=w'.drawn:=by
 have:=np p s w;rw[h]at this;exact this
theorem run_halt{α:Type}{p:Program}{s:Sem α}{w w':World}{x:Halt}(h:s.run p w=.halt x w'):w.drawn<=w'.drawn:=by
 have:=np p s w;rw[h]at this;exact this
theorem gx{α:Type}(p:Program)(s:Sem α)(w:World)(es:Array Event):w.drawn<=(rw (s.runT p w es).1).drawn:=by
 rw[Sem.runT_fst];exact np p s w
theorem Ln{α:Type}{p:Program}{s:Sem α}{w w':World}{x:α}{es a:Array Event}(h:s.runT p w es=(.ok x w',a)):w.drawn<=w'.drawn:=by
 have:=gx p s w es;rw[h]at this;exact this
theorem FF{α:Type}{p:Program}{s:Sem α}{w w':World}{x:Halt}{es a:Array Event}(h:s.runT p w es=(.halt x w',a)):w.drawn<=w'.drawn:=by
 have:=gx p s w es;rw[h]at this;exact this
theorem fW{α:Type}{p:Program}{s:Sem α}{w w':World}{x:α}{es:Array Event}(h:(s.runT p w es).1=.ok x w'):w.drawn<=w'.drawn:=by
 have:=gx p s w es;rw[h]at this;exact this
theorem fv{α:Type}{p:Program}{s:Sem α}{w w':World}{x:Halt}{es:Array Event}(h:(s.runT p w es).1=.halt x w'):w.drawn<=w'.drawn:=by
 have:=gx p s w es;rw[h]at this;exact this
def gw:GStep->World
 |.go _ w _=>w
 |.comm _ _ _ _ w _=>w
 |.spawn _ _ w _=>w
 |.count _ w _=>w
 |.timer _ _ w _=>w
 |.alone _ _ w _=>w
 |.newcoro _ _ _ w _=>w
 |.coroswitch _ _ _ w _=>w
 |.collect _ w _=>w
 |.watch _ w _=>w
 |.ended _ w _=>w
theorem gR(es:Array Event)(s:GStep):gw (s.after es)=gw s:=by cases s<;>rfl
theorem uK(w:World)(b:Nat)(a:ByteArray)(o:Outcome):w.drawn<=(gw (endWith w b a o)).drawn:=by
 unfold endWith;have h:=vA w (.write b a);generalize hs:w.sys (.write b a)=r at h;obtain⟨r,c⟩:=r;cases r<;>first|exact h|(simp only[];split<;>exact h)
theorem mG(p:Program)(a:Frame)(v:Value)(w:World):gw (endPrinting p a v w)=w:=by
 unfold endPrinting;simp only;split<;>rfl
theorem mH(p:Program)(c:Frame)(a:List Frame)(b:Option Dying)(m:String)(w:World):w.drawn<=(gw (endFatal p c a b m w)).drawn:=by
 unfold endFatal;simp only;split
 .rename_i h;exact dB h
 .rename_i h;exact run_halt h
 .rename_i h;exact run_halt h
theorem uL(p:Program)(b:Frame)(d:Dying)(f:Fatal)(w:World):w.drawn<=(gw (writeOn p b d f w)).drawn:=by
 unfold writeOn;simp only;split
 .exact Nat.le_refl _
 .split<;>rename_i a<;>first|exact Ln a|exact FF a
theorem FH(p:Program)(b:Frame)(d:Dying)(w:World):w.drawn<=(gw (die p b d w)).drawn:=by
 unfold die;split
 .exact uL ..
 .split
  .split
   .exact Nat.le_refl _
   .exact uK ..
  .simp only;split
   .exact Nat.le_refl _
   .split
    .rename_i h;exact dB h
    .rename_i h;exact run_halt h
   .rw[gR];split<;>first
     |exact Nat.le_refl _
     |(rename_i a;first|exact fW a|exact fv a|(rw[mG];exact fv a))
   .exact Nat.le_refl _
theorem jn(p:Program)(c:Bool)(d:Frame)(a:List Frame)(b:Option Dying)(v:Value)(w:World):gw (doReturn p c d a b v w)=w:=by
 unfold doReturn
 repeat' split
 all_goals rfl
theorem BU{n:Nat}{c:Prop}[Decidable c]{a b:GStep}(d:n<=(gw a).drawn)(e:n<=(gw b).drawn):n<=(gw (if c then a else b)).drawn:=by
 split
 .exact d
 .exact e
theorem oB(p:Program)(g:Frame)(c:List Frame)(e:Option Dying)(d:Deferred)(w:World):w.drawn<=(gw (callDeferred p g c e d w)).drawn:=by
 unfold callDeferred;refine BU (Nat.le_refl _) ?_;simp only;rw[gR];have h:=gx p (invoke d.target d.args) w #[];generalize((invoke d.target d.args).runT p w #[]).1=r at h⊢;cases r with
 |ok v f=>
  change w.drawn<=f.drawn at h
  cases v<;>first|exact h|(rename_i a b;first|(cases a<;>exact h)|(cases b<;>exact h))|(dsimp only;split<;>exact h)
 |halt i f=>
  change w.drawn<=f.drawn at h
  cases i<;>first|exact h|exact Nat.le_trans h (mH ..)
theorem xk(p:Program)(d:Bool)(e:Frame)(b:List Frame)(c:Option Dying)(w:World):w.drawn<=(gw (unwind p d e b c w)).drawn:=by
 unfold unwind;split
 .simp only;rw[gR];split<;>rename_i a<;>first|exact fW a|exact fv a
 .exact oB ..
 .split
  .exact Nat.le_refl _
  .split
   .exact Nat.le_refl _
   .split
    .exact Nat.le_refl _
    .split
     .split
      .exact Nat.le_refl _
      .split<;>rename_i a<;>first|exact dB a|exact run_halt a
     .split
      .rw[mG];exact Nat.le_refl _
      .exact Nat.le_refl _
  .split
   .rw[jn];exact Nat.le_refl _
   .simp only;rw[gR];split<;>rename_i a<;>first|(rw[jn];exact fW a)|exact fv a
theorem yV(p:Program)(c:Frame)(a:List Frame)(b:Option Dying)(g:Nat)(w:World):w.drawn<=(gw (early p c a b g w)).drawn:=by
 unfold early;simp only
 repeat' split
 all_goals simp only[gw]
 all_goals first
  |exact Nat.le_refl _
  |exact dB (by assumption)
  |exact run_halt (by assumption)
theorem fD(p:Program)(a:Bool)(e:Frame)(b:List Frame)(c:Option Dying)(s:Sem Next)(w:World):w.drawn<=(gw (stepG.apply p a e b c s w)).drawn:=by
 unfold stepG.apply;simp only;rw[gR];have h:w.drawn<=(rw (if a=true then s.runT p w #[]else(s.run p w,#[])).1).drawn:=by
  split
  .exact gx p s w #[]
  .exact np p s w
 generalize(if a=true then s.runT p w #[]else(s.run p w,#[]))=r at h⊢;obtain⟨r,es⟩:=r;cases r with
 |ok v d=>
  change w.drawn<=d.drawn at h
  cases v<;>first|exact h|(dsimp only;(repeat' split)<;>exact h)
 |halt f d=>
  change w.drawn<=d.drawn at h
  cases f<;>first|exact h|exact Nat.le_trans h (mH ..)|(rename_i u;cases u<;>first|exact h|exact Nat.le_trans h (yV ..))
theorem Lo{α:Type}{n:Nat}{x:Option α}{a:GStep}{f:α->GStep}(b:n<=(gw a).drawn)(c:∀y,n<=(gw (f y)).drawn):n<=(gw (x.elim a f)).drawn:=by
 cases x with
 |none=>exact b
 |some y=>exact c y
theorem BV(p:Program)(b:Bool)(d:Frame)(a:List Frame)(c:Option Dying)(w:World):w.drawn<=(gw (stepG.oper p b d a c w)).drawn:=by
 unfold stepG.oper;split
 .exact Nat.le_refl _
 .split<;>exact fD ..
theorem BW(p:Program)(d b:Bool)(e:Frame)(a:List Frame)(c:Option Dying)(w:World):w.drawn<=(gw (stepG.exec p d b e a c w)).drawn:=by
 unfold stepG.exec;simp only;split
 all_goals try (first|exact Nat.le_refl _|exact fD ..)
 all_goals try (split<;>first|exact Nat.le_refl _|exact fD .. |(rw[gR];split<;>first|(rw[jn];exact fW (by assumption))|exact fW (by assumption)|exact fv (by assumption)))
 all_goals try (refine Lo ?_ ?_)
 all_goals try (intro y;first|exact Nat.le_refl _|exact fD ..)
 all_goals try (split<;>first|exact Nat.le_refl _|exact fD .. |(rw[gR];split<;>first|(rw[jn];exact fW (by assumption))|exact fW (by assumption)|exact fv (by assumption)))
 all_goals try (rw[gR];split<;>first|exact fW (by assumption)|exact Nat.le_trans (fW (by assumption)) (fD ..)|exact fv (by assumption))
 all_goals try (refine BU (Nat.le_refl _) ?_;split<;>first|exact dB (by assumption)|exact run_halt (by assumption))
 all_goals try (refine BU ?_ ?_<;>first|exact Nat.le_refl _|exact BV ..)
 all_goals exact Nat.le_refl _
theorem yW(p:Program)(b:Bool)(g:Goroutine)(w:World)(a:Bool):w.drawn<=(gw (stepG p b g w a)).drawn:=by
 unfold stepG;simp only;split
 .exact FH ..
 .exact BW ..
 .exact xk ..
def sw:Stepped->Nat->Prop
 |.next m,n=>n<=m.world.drawn
 |_,_=>True
theorem pw(p:Program)(rest:Rest)(b:Array Goroutine)(i:Nat)(g:Goroutine)(cases:Array CommCase)(a:Bool)(shape:CommShape)(w:World):sw (communicate p rest b i g cases a shape w).1 w.drawn:=by
 unfold communicate;simp only;split
 .trivial
 split
 .split
  .split
   .rename_i h;unfold waitingAt at h;split at h
    .split at h
     .cases h;exact Nat.le_refl _
     .cases h
    .cases h;exact Nat.le_refl _
   .trivial
  .exact Nat.le_refl _
 .split
  .trivial
  .rename_i h;have h1:=dB h
   repeat' split
   all_goals first
    |trivial
    |exact h1
    |(simp only[sw];exact Nat.le_trans h1 (run_halt (by assumption)))
    |(simp only[sw];exact Nat.le_trans h1 (dB (by assumption)))
theorem sY(p:Program)(a:Array Goroutine)(rest:Rest)(w:World):sw (look p a rest w) w.drawn:=by
 unfold look;split
 .simp only;split
  .trivial
  .split
   .trivial
   .split
    .rename_i h;have h1:=dB h;exact h1
    .trivial
    .trivial
 .trivial
theorem yX(w:World)(c:Nat):(drain w c).2.drawn=w.drawn:=by
 unfold drain;split<;>rfl
theorem xl(m:Machine)(k:Nat)(t:Timer)(b a:Nat):(retime m k t b a).2.world.drawn=m.world.drawn:=by
 unfold retime;simp only;split
 .exact yX ..
 .rfl
theorem uM{m e:Machine}{op:TimerOp}{v:Value}(h:timerOp m op=.ok (v,e)):e.world.drawn=m.world.drawn:=by
 have a:∀(c:Machine)(d:Addr)(f pe:Timer->Nat),c.world.drawn=m.world.drawn->timerOp.named m d (λk t=>retime c k t (f t) (pe t))=.ok (v,e)->e.world.drawn=m.world.drawn:=by
  intro c d f pe h0 h1;unfold timerOp.named at h1;split at h1
  .cases h1
   exact(xl ..).trans h0
  .cases h1
 unfold timerOp at h;split at h
 .split at h
  .cases h;rfl
  .split at h
   .split at h
    .cases h
    .cases h;rfl
   .cases h
 .exact a m _ (λ_=>0) (λt=>t.period) rfl h
 .split at h
  .rename_i c b;refine a c _ (λ_=>_) (λ_=>_) ?_ h;unfold timerOp.opened at b;split at b
   .split at b
    .cases b;rfl
    .cases b
   .cases b;rfl
  .cases h
 .cases h;rfl
theorem vB{r:Stepped}{n k:Nat}(a:sw r n)(h:k<=n):sw r k:=by
 cases r with
 |next b=>exact Nat.le_trans h a
 |_=>trivial
theorem rD(p:Program)(m:Machine)(i:Nat)(a:Bool):sw (runT p m i a).1 m.world.drawn:=by
 unfold runT;simp only;have h:=yW p (i==0) (m.gs.swapAt! i {(default:Goroutine)with status:=.finished}).1 m.world a;generalize stepG p (i==0) (m.gs.swapAt! i {(default:Goroutine)with status:=.finished}).1 m.world a=s at h⊢;cases s with
 |ended o w es=>trivial
 |comm g cases b shape w es=>
  exact vB (pw ..) h
 |go g w es=>exact h
 |spawn g e w es=>exact h
 |count g w es=>
  dsimp only;split
  .trivial
  .exact h
 |alone g on w es=>exact h
 |collect g w es=>
  exact vB (sY ..) h
 |watch g w es=>exact h
 |newcoro g c d w es=>exact h
 |coroswitch g c f w es=>
  dsimp only;split
  .exact h
  .exact h
  .trivial
 |timer g op w es=>
  dsimp only;split
  .rename_i v j ht;show m.world.drawn<=j.world.drawn;rw[uM ht];exact h
  .exact h
  .trivial
  .trivial
def Qy:Move->Nat->Prop
 |.goroutine m _,n=>n<=m.world.drawn
 |.machine s _,n=>sw s n
theorem yY(p:Program)(m:Machine)(k:Nat):sw (serve p m k) m.world.drawn:=by
 unfold serve;split
 .trivial
 .exact Nat.le_refl _
 .dsimp only;split
  .trivial
  .exact Nat.le_refl _
theorem Ib{r:Move}{n k:Nat}(a:Qy r n)(h:k<=n):Qy r k:=by
 cases r with
 |goroutine b i=>exact Nat.le_trans h a
 |machine s ops=>exact vB a h
theorem mI(p:Program)(m:Machine):Qy (askOn p m) m.world.drawn:=by
 unfold askOn;simp only;split
 .trivial
 .rename_i k d hk;have h1:=dB hk;split
  .exact vB (yY p _ _) h1
  .split
   .split
    .exact h1
    .split
     .exact h1
     .split<;>trivial
   .split
    .split
     .trivial
     .rename_i a;have a:=dB a;split
      .exact Nat.le_trans h1 a
      .split
       .trivial
       .rename_i c;exact Nat.le_trans (Nat.le_trans h1 a) (dB c)
    .split
     .trivial
     .rename_i b;have b:=dB b;split
      .trivial
      .rename_i a;have a:=dB a;split
       .exact Nat.le_trans (Nat.le_trans h1 b) a
       .split
        .trivial
        .rename_i c;exact Nat.le_trans (Nat.le_trans (Nat.le_trans h1 b) a) (dB c)
     .rename_i b;have b:=dB b;exact Nat.le_trans h1 b
     .rename_i b;have b:=dB b;split
      .trivial
      .rename_i a;have a:=dB a;split
       .exact Nat.le_trans (Nat.le_trans h1 b) a
       .split
        .trivial
        .rename_i c;exact Nat.le_trans (Nat.le_trans (Nat.le_trans h1 b) a) (dB c)
theorem mJ(p:Program)(m:Machine):Qy (ask p m) m.world.drawn:=by
 unfold ask;split
 .split
  .trivial
  .rename_i a h;have h1:=dB h;have b:=sY p m.gs m.rest a;split
   .rename_i c;rw[c]at b;exact Ib (mI p _) (Nat.le_trans h1 b)
   .exact vB b h1
  .rename_i h;exact Ib (mI p _) (dB h)
 .exact mI p m
theorem BX(p:Program)(m:Machine):Qy (move p m) m.world.drawn:=by
 unfold move;split
 .split
  .exact Nat.le_refl _
  .trivial
 .split
  .split
   .exact Nat.le_refl _
   .exact mJ p _
  .exact mJ p _
theorem BY{p:Program}{m b:Machine}(h:step p m=.next b):m.world.drawn<=b.world.drawn:=by
 have h1:=BX p m;have a:sw (step p m) m.world.drawn:=by
  unfold step stepT;generalize move p m=r at h1⊢;cases r with
  |goroutine c i=>exact vB (rD ..) h1
  |machine s ops=>exact h1
 rw[h]at a;exact a
theorem sZ{p:Program}:∀(n:Nat)(m a:Machine),runN p n m=.next a->m.world.drawn<=a.world.drawn
 |0,m,a,h=>by cases h;exact Nat.le_refl _
 |n+1,m,a,h=>by
  simp only[runN]at h;split at h
  .rename_i c h1;exact Nat.le_trans (BY h1) (sZ n _ _ h)
  .rename_i b;exact absurd h (b _)
theorem yZ{p:Program}{m a:Machine}(h:Steps p m a):m.world.drawn<=a.world.drawn:=by
 obtain⟨n,h⟩:=h;exact sZ n _ _ h
theorem rf{P:Program}{f:FuncId}{args:Array Value}{w:World}{R:Ending->World->Prop}(h:Calls P f args w R)(g:∀e w',R e w'->∃v,e=.returned v):Calls P f args w (λe w'=>R e w'∧w.drawn<=w'.drawn):=by
 intro cs;obtain⟨e,w',b,h1,a,c,d⟩:=h cs;obtain⟨v,rfl⟩:=g e w' h1;exact⟨_,w',b,⟨h1,yZ a⟩,a,c,d⟩
end Go.AX