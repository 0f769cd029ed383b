/-
  The library: a map's keys, sorted, whatever its values; a slice's values, sorted.
  Contracts: lrat.Checker: its numbers; what is dropped.
  Contracts: lrat: a group of hints is noted.
  Contracts: rat.Show.
  Contracts: lrat.Checker: may a clause be added?
  Contracts: lrat.New, lrat.Check.
  Contracts: trim: what is needed.
  Contracts: slices.DeleteFunc of steps, their cells taken as they are.
  Contracts: trim.copied, trim.Trim.
  Contracts: slices.DeleteFunc of a block's numbers.
  Contracts: replevinlaw10.Few, replevinlaw43.few, three; replevinref10.Same.
  Plain facts: checkers, and what is left of a plain proof.
  Plain facts: what is left of a proof is accepted, and is left as it is.
  Plain facts: what is needed, and the core.
-/
import Derived.Test.YthfhellfmbllhaaGreatS12AxEvG
import Derived.Test.YthfhellfmbllhaaGreatS12AxTmL
import Derived.Test.YthfhellfmbllhaaGreatS12AxTmF
import Derived.Test.YthfhellfmbllhaaGreatAxPt
import Derived.Test.YthfhellfmbllhaaGreatAxBe
import Derived.Test.YthfhellfmbllhaaGreatAxIs
import Derived.Test.YthfhellfmbllhaaGreatAxDr
import Derived.Sort.Grow
import Derived.Shelf.SlSortCmp.Insertion
namespace Go.AX
open Go.Proofs Go.Maps Go.Shelf
set_option linter.unusedSimpArgs false
def rAny (_:Value):Option (DataW Unit×List MemPlace):=some (.lit (.int .i64 0),[])
def k0 (ks:List Int):List (Int×Int):=ks.map fun x=>(x,0)
def sortZ (l:List Int):List Int:=l.mergeSort fun x y=>decide (x≤y)
theorem fitE_keys {β:Type} {f:β→PV} {G:Gh}:∀{kv:List (Int×β)} {en:List MapEntry},FitE G (mapE f kv) en→en.map (·.key)=(kv.map (·.1)).map fun x=>.int .i64 x
 |[],en,h=>by
  have:en=[]:=h;rw[this];rfl
 |q::kv,en,⟨m,r,h1,h2,h3,h4⟩=>by
  subst h1;rw[List.map_cons,List.map_cons,List.map_cons,fitE_keys h4,h2]
section
variable {P : Program} {k : TypeId}
theorem rg_any (hk:P.underlying k=some (.int .i64)):∀{en:List MapEntry} {ks:List Int},en.map (·.key)=ks.map (fun x=>.int .i64 x)→(∀x∈ks,wfI x)→
 en.map (WideElems.rg P k rAny)=kvL (k0 ks)∧∀m∈en,∃y,WideElems.rd P k rAny m=some y
 |[],ks,h,_=>by
  cases ks with
  |nil=>exact⟨rfl,fun m hm=>by cases hm⟩
  |cons _ _=>cases h
 |m::en,ks,h,hw=>by
  cases ks with
  |nil=>cases h
  |cons q ks=>
   rw[List.map_cons,List.map_cons]at h;injection h with h1 h2;obtain⟨i1,i2⟩:=rg_any hk h2 (fun q hq=>hw q (List.mem_cons_of_mem _ hq));have hr:WideElems.rd P k rAny m=some (.int .i64 q,.lit (.int .i64 0)):=by
    unfold WideElems.rd;rw[h1,keyOf_int_mk hk (hw q List.mem_cons_self)];simp[rAny]
   refine⟨?_,fun m' hm'=>?_⟩
   ·rw[List.map_cons,i1,WideElems.rg_of hr];rfl
   ·rcases List.mem_cons.1 hm' with rfl|hm'
    ·exact⟨_,hr⟩
    ·exact i2 m' hm'
theorem owns_any {β:Type} {f:β→PV} (hk:P.underlying k=some (.int .i64)) {w:World} {c:Nat} {en:Array MapEntry} {ck:Nat} {G:Gh} {kv:List (Int×β)} (hc:w.heap[c]?=some (.map en ck)) (hf:FitE G (mapE f kv) en.toList) (hst:MapKept.Stamped en ck)
 (hw:∀q∈kv,wfI q.1) (hl:kv.length≤maxLen):w.ownsMap P k rAny c kv.length (kvD (k0 (kv.map (·.1)))):=by
 have he:=fitE_keys hf;have hn:en.size=kv.length:=by
  have:=congrArg List.length he;simpa using this
 obtain ⟨i1, i2⟩ := rg_any hk he (fun x hx => by
  rw[List.mem_map]at hx;obtain⟨q,hq,rfl⟩:=hx;exact hw q hq)
 exact⟨en,ck,hc,⟨by omega,hst,i2⟩,by omega,by unfold kvD;rw[i1]⟩
end
theorem k0_keys (ks:List Int):(k0 ks).map (·.1)=ks:=by
 unfold k0;rw[List.map_map];exact List.map_id ks
theorem sl24:slInfo Tryz.prog (Tryz.sortedA_ren.t 24)=some (1,8):=by kernel_rfl
theorem sortedMap_ok {β:Type} (f:β→PV) (kf:Nat) (kv:List (Int×β)) (hw:∀q∈kv,wfI q.1) (hl:kv.length≤1000000) (ekf:∀args w,(callFunc kf args).run Tryz.prog w=.ok (.enter kf args) w)
 (hgiv:∀{H:Type} (Bm b nn:Nat) (D0:DataW H) {R:Value→Option (DataW H×List MemPlace)} (w:World),Bm<w.heap.size→w.cell? ⟨Bm,0,none⟩=some (.map (some b))→w.ownsMap Tryz.prog (Tryz.sortedA_ren.t 26) R b nn D0→SeqGives Fence.wide 2 Tryz.prog kf #[.pointer (some ⟨Bm,0,none⟩)] encZ (fun ss=>ss.Perm (intKeys D0)) (Maps.size D0) w):
 APtr Tryz.prog 45 kf (.amap false (mapE f kv)) (.own true 1 ((sortZ (kv.map (·.1))).map fun x=>[I64 x])):=by
 refine⟨by kernel_rfl,fun w Bm arr T v0 h1 h2 h3=>?_⟩;have hcell:w.cell? ⟨Bm,0,none⟩=some v0:=by
  have:arr[0]?=some v0:=by rw[←Array.getElem?_toList,h2];rfl
  simp[World.cell?,h1,this]
 have hBm:=(Array.getElem?_eq_some_iff.1 h1).1;have main:∀(S:List Int→Prop) (N:Nat),N≤1000000→(∀ss,S ss→ss.length≤N)→(∀ss,S ss→sortZ ss=sortZ (kv.map (·.1)))→SeqGives Fence.wide 2 Tryz.prog kf #[.pointer (some ⟨Bm,0,none⟩)] encZ S N w→
  Calls Tryz.prog 45 #[.func (.func kf) #[] #[.pointer (some ⟨Bm,0,none⟩)]] w fun e w'=>∃v g' o,e=.returned v∧PureEnd w w' g'∧SFit g' w' (.own true 1 ((sortZ (kv.map (·.1))).map fun x=>[I64 x])) v o∧(SV.own true 1 ((sortZ (kv.map (·.1))).map fun x=>[I64 x])).inCell=true∧∀c,o=some c→w.heap.size≤c∧g'.I c=none:=by
  intro S N hN hS1 hS2 hseq;have cS:=sortedV Tryz.sortedA sl24 Fence.wide 5 trivial trivial trivial trivial rfl (by omega) (Tryz.sortsA _) (enters_of Tryz.func100 (by kernel_rfl) rfl) kf #[.pointer (some ⟨Bm,0,none⟩)] trivial ekf S N (by unfold maxLen;omega) (by omega) w (SeqBelow.of hseq) hS1;refine((callsIn_wide (n:=5)).1 cS).mono fun e w' ⟨v,ss,he,hS,hrow,hone,hnl,hb⟩=>?_;have hm:=hS2 ss hS;have hl:ss.length=(sortZ (kv.map (·.1))).length:=by rw[←hm];unfold sortZ;rw[List.length_mergeSort]
  unfold sortZ at hm;rw[hm]at hrow;obtain⟨g',o,h5,h6,h7,h8⟩:=aptr_end hl hrow hone hb;exact⟨v,g',o,he,h5,h6,h7,h8⟩
 obtain⟨c,en,ck,rfl,h4,_,h5,h6⟩:=h3
 ·have hown:=owns_any (P:=Tryz.prog) (k:=Tryz.sortedA_ren.t 26) (by kernel_rfl) h4 h5 h6 hw (by unfold maxLen;omega);have hsz:Maps.size (kvD (k0 (kv.map (·.1))))=kv.length:=by rw[kvD_size];unfold k0;rw[List.length_map,List.length_map]
  have hpk:∀ss:List Int,ss.Perm (intKeys (kvD (k0 (kv.map (·.1)))))→ss.Perm (kv.map (·.1)):=fun ss h=>by
   have:=h.trans (kvD_keys _)
   rwa [k0_keys]at this
  refine main _ _ (by rw[hsz];omega) (fun ss h=>?_) (fun ss h=>?_) (hgiv Bm c kv.length (kvD (k0 (kv.map (·.1)))) w hBm hcell hown)
  ·rw[(hpk ss h).length_eq,List.length_map,hsz];exact Nat.le_refl _
  ·exact mergeSort_of_perm_i (hpk ss h)
theorem sortedB_ok {β:Type} (f:β→PV) (kv:List (Int×β)) (hw:∀q∈kv,wfI q.1) (hl:kv.length≤1000000):
 APtr Tryz.prog 45 220 (.amap false (mapE f kv)) (.own true 1 ((sortZ (kv.map (·.1))).map fun x=>[I64 x])):=
 sortedMap_ok f _ kv hw hl (enters_of Tryz.func220 (by kernel_rfl) rfl)
  (fun{_} Bm b nn D0 {_} w h1 h2 h3=>AnyZI.keys_gives (ρ:=Tryz.keysB_ren) {Tryz.keysB with} Fence.wide 2 trivial rfl (by omega) Bm b nn D0 w h1 h2 h3)
theorem sortedI_ok {β:Type} (f:β→PV) (kv:List (Int×β)) (hw:∀q∈kv,wfI q.1) (hl:kv.length≤1000000):
 APtr Tryz.prog 45 111 (.amap false (mapE f kv)) (.own true 1 ((sortZ (kv.map (·.1))).map fun x=>[I64 x])):=
 sortedMap_ok f _ kv hw hl (enters_of Tryz.func111 (by kernel_rfl) rfl)
  (fun{_} Bm b nn D0 {_} w h1 h2 h3=>AnyZI.keys_gives (ρ:=Tryz.keysA_ren) {Tryz.keysA with} Fence.wide 2 trivial rfl (by omega) Bm b nn D0 w h1 h2 h3)
def dl {α:Type}:List (Int×α)→Int→List (Int×α)
 |[],_=>[]
 |(k,x)::r,n=>if k=n then r else(k,x)::dl r n
def dropB (c:Ck) (ids:List Int):Bool:=decide ((compS (sortZ ids)).length<ids.length)||!thereS c ids
def dropTo (c:Ck) (ids:List Int) (i:Nat):Ck:=⟨(ids.take i).foldl dl c.m,c.last,c.done⟩
def dropC (c:Ck) (ids:List Int):Ck:=if dropB c ids=true then c else dropTo c ids ids.length
def fR (l:List (List Int)):PV:=.seq true 1 (l.map crowF)
def fS (l:List (List Int)):PV:=.seq false 1 (l.map crowF)
@[simp] theorem frzE_fR (r:Nat→Nat→PV):∀l:List (Int×List (List Int)),frzE r (mapE fR l)=mapE fS l
 |[]=>rfl
 |x::l=>by
  have:=frzE_fR r l;show(x.1,frzW r (fR x.2))::frzE r (mapE fR l)=(x.1,fS x.2)::mapE fS l;rw[this];simp[fR,fS]
@[simp] theorem frzE_fS (r:Nat→Nat→PV):∀l:List (Int×List (List Int)),frzE r (mapE fS l)=mapE fS l
 |[]=>rfl
 |x::l=>by
  have:=frzE_fS r l;show(x.1,frzW r (fS x.2))::frzE r (mapE fS l)=(x.1,fS x.2)::mapE fS l;rw[this];simp[fS]
theorem sortZ_pairwise (l:List Int):(sortZ l).Pairwise (·≤·):=by
 have:=List.pairwise_mergeSort (le:=fun x y:Int=>decide (x≤y)) (fun a b c h1 h2=>by simp at*;omega) (fun a b=>by simp;omega) l;exact this.imp (fun h=>by simpa using h)
structure CkOk (c:Ck):Prop where
  n:c.m.length≤100000
  w:∀q∈c.m,wfI q.1
  l:∀q∈c.m,q.2.length≤100000
theorem lk_in {α:Type}:∀{l:List (Int×α)} {k:Int} {x:α},lk l k=some x→(k,x)∈l
 |(j,y)::l,k,x,h=>by
  rw[lk]at h;split at h
  ·rename_i e;subst e;injection h with h;subst h;exact List.mem_cons_self
  ·exact List.mem_cons_of_mem _ (lk_in h)
theorem Weak.frzC {k0:Nat} {st:St} {b k e:Nat} {nw:Bool} {rows:List (List PV)} (h:posGet st (.cell b k)=.own nw e rows):Weak k0 st (setPos st (.cell b k) (.pv (.seq nw e rows))):=fun g a w _ hs=>by
 obtain⟨g',t,_,_,_,s,_⟩:=hs.freeze (p:=.cell b k) (by rw[h];rfl);rw[h]at s;exact⟨g',t,s⟩
theorem pt_le {α:Type} (l:List (Int×α)) (k:Int) (y:α):(pt l k y).length≤l.length+1:=by
 rw[pt_len];split<;>omega
theorem pt_all {α:Type} {p:Int×α→Prop}:∀{l:List (Int×α)} {k:Int} {y:α},(∀q∈l,p q)→p (k,y)→∀q∈pt l k y,p q
 |[],k,y,_,h2,q,hq=>by
  rw[pt]at hq;rw[List.mem_singleton]at hq;subst hq;exact h2
 |(j,x)::l,k,y,h1,h2,q,hq=>by
  rw[pt]at hq;split at hq
  ·rename_i e;rcases List.mem_cons.1 hq with rfl|hq
   ·exact e▸h2
   ·exact h1 q (List.mem_cons_of_mem _ hq)
  ·rcases List.mem_cons.1 hq with rfl|hq
   ·exact h1 _ List.mem_cons_self
   ·exact pt_all (fun q hq=>h1 q (List.mem_cons_of_mem _ hq)) h2 q hq
theorem dl_sub {α:Type}:∀(l:List (Int×α)) (k:Int),∀q∈dl l k,q∈l
 |[],k,q,h=>h
 |(j,x)::l,k,q,h=>by
  rw[dl]at h;split at h
  ·exact List.mem_cons_of_mem _ h
  ·rcases List.mem_cons.1 h with rfl|h
   ·exact List.mem_cons_self
   ·exact List.mem_cons_of_mem _ (dl_sub l k q h)
theorem dl_le {α:Type}:∀(l:List (Int×α)) (k:Int),(dl l k).length≤l.length
 |[],k=>Nat.le_refl _
 |(j,x)::l,k=>by
  rw[dl];split
  ·simp
  ·have:=dl_le l k;simp;omega
structure CkN (n:Nat) (c:Ck):Prop where
  n:c.m.length≤n
  w:∀q∈c.m,wfI q.1
  l:∀q∈c.m,q.2.length≤100000
  t:0≤c.last∧c.last≤20000000
theorem CkN.ok {n:Nat} {c:Ck} (h:CkN n c) (hn:n≤100000):CkOk c:=⟨Nat.le_trans h.n hn,h.w,h.l⟩
theorem wfI_of {x:Int} (h1:0≤x) (h2:x≤20000000):wfI x:=by
 unfold wfI;have e1:IntKind.i64.min=-9223372036854775808:=by decide
 have e2:IntKind.i64.max=9223372036854775807:=by decide
 simp only[Lit.wf,e1,e2,Bool.and_eq_true,decide_eq_true_eq];omega
theorem CkN.put {n:Nat} {c:Ck} (h:CkN n c) {id:Int} {l:List Int} (hid:0≤id∧id≤20000000) (hl:l.length≤100000):CkN (n+1) (putC c id l):=
 ⟨Nat.le_trans (pt_le _ _ _) (Nat.succ_le_succ h.n),pt_all h.w (wfI_of hid.1 hid.2),pt_all h.l hl,hid⟩
theorem foldl_dl {p:Int×List Int→Prop}:∀(ids:List Int) (m:List (Int×List Int)),(∀q∈m,p q)→(∀q∈ids.foldl dl m,p q)∧(ids.foldl dl m).length≤m.length
 |[],m,h=>⟨h,Nat.le_refl _⟩
 |id::ids,m,h=>by
  obtain⟨h1,h2⟩:=foldl_dl ids (dl m id) (fun q hq=>h q (dl_sub m id q hq));exact⟨h1,Nat.le_trans h2 (dl_le _ _)⟩
theorem CkN.drop {n:Nat} {c:Ck} (h:CkN n c) (ids:List Int):CkN n (dropC c ids):=by
 unfold dropC;split
 ·exact h
 ·unfold dropTo;obtain⟨h1,h2⟩:=foldl_dl (p:=fun q=>wfI q.1) (ids.take ids.length) c.m h.w;obtain⟨h3,_⟩:=foldl_dl (p:=fun q=>q.2.length≤100000) (ids.take ids.length) c.m h.l;exact⟨Nat.le_trans h2 h.n,h1,h3,h.t⟩
def emGo1:List (List Int)→Nat→Option Int
 |[],_=>none
 |c::L,i=>if c=[]then some ((i+1:Nat):Int)else emGo1 L (i+1)
def emGo2:List Stp→Int
 |[]=>0
 |s::ss=>if s.kind=1∧s.lits=[]then s.id else emGo2 ss
def emptyS (L:List (List Int)) (ss:List Stp):Int:=(emGo1 L 0).getD (emGo2 ss)
def incS (m:List (Int×Int)) (k:Int):List (Int×Int):=pt m k (w64 ((lk m k).getD 0+1))
def mrkS (m:List (Int×Int)) (s:Stp):List (Int×Int):=if s.kind=1∧0<(lk m s.id).getD 0 then s.hints.foldl incS m else m
def marR (m:List (Int×Int)):List Stp→List (Int×Int)
 |[]=>m
 |s::ss=>mrkS (marR m ss) s
def marksS (L:List (List Int)) (ss:List Stp):List (Int×Int):=marR [(emptyS L ss,1)] ss
structure SL where
  k:Int
  id:Int
  p:Option Addr
  n:Nat
  c:Nat
  q:Option Addr
  m:Nat
  d:Nat
def AllK:List Stp→List SL→Prop
 |[],[]=>True
 |s::ss,z::zs=>s.kind=z.k∧s.id=z.id∧AllK ss zs
 |_,_=>False
theorem AllK.len:∀{ss:List Stp} {zs:List SL},AllK ss zs→zs.length=ss.length
 |[],[],_=>rfl
 |s::ss,z::zs,⟨_,_,h⟩=>by rw[List.length_cons,List.length_cons,AllK.len h]
theorem icells_len (l:List Int):(icells l).length=l.length:=by unfold icells;simp
theorem frzB_ic (H:List (List SV)) (b:Nat) (zs:List Int) (sp:List SV) (hb:H[b]?=some (icells zs++sp)) (n:Nat):frzB (frzP H (n+1) b 0) 1 zs.length=.seq false 1 (irow zs):=by
 have e:H.getD b []=icells zs++sp:=by rw[List.getD_eq_getElem?_getD,hb];rfl
 simp only[frzP,frzB,e,List.length_map];rw[if_pos ⟨trivial,by rw[List.length_append,icells_len];omega⟩];congr 1;unfold icells;simp only[List.map_append,List.map_map];rw[List.drop_zero,List.take_left' (by simp),List.map_map];rfl
theorem belowC_ic (k:Nat) {sp:List SV} (h:belowC k sp):∀l:List Int,belowC k (icells l++sp)
 |[]=>h
 |_::l=>⟨trivial,belowC_ic k h l⟩
theorem stp_ext (a b:Stp) (h1:a.kind=b.kind) (h2:a.id=b.id) (h3:a.lits=b.lits) (h4:a.hints=b.hints):a=b:=by
 cases a;cases b;simp at*;exact⟨h1,h2,h3,h4⟩
instance:DecidableEq Stp:=fun a b=>decidable_of_iff (a.kind=b.kind∧a.id=b.id∧a.lits=b.lits∧a.hints=b.hints) ⟨fun⟨h1,h2,h3,h4⟩=>stp_ext a b h1 h2 h3 h4,fun h=>by subst h;exact⟨rfl,rfl,rfl,rfl⟩⟩
theorem pt_fresh {α:Type}:∀{l:List (Int×α)} {k:Int} {y:α},(∀q∈l,q.1≠k)→pt l k y=l++[(k,y)]
 |[],_,_,_=>rfl
 |(j,x)::l,k,y,h=>by
  rw[pt,if_neg (h _ List.mem_cons_self),pt_fresh fun q hq=>h q (List.mem_cons_of_mem _ hq)];rfl
abbrev Rise {α:Type} (l:List (Int×α)):Prop:=l.Pairwise fun p q=>p.1<q.1
theorem Rise.lk {α:Type}:∀{l:List (Int×α)},Rise l→∀{k:Int} {x:α},(k,x)∈l→lk l k=some x
 |(j,z)::l,h,k,x,hm=>by
  replace h:=List.pairwise_cons.1 h;rw[AX.lk];rcases List.mem_cons.1 hm with hm|hm
  ·cases hm;rw[if_pos rfl]
  ·have:=h.1 _ hm;simp only at this;rw[if_neg (by omega)];exact Rise.lk h.2 hm
theorem dl_subl {α:Type}:∀(l:List (Int×α)) (k:Int),(dl l k).Sublist l
 |[],_=>List.Sublist.refl _
 |(j,x)::l,k=>by
  rw[dl];split
  ·exact List.sublist_cons_self _ _
  ·exact(dl_subl l k).cons_cons _
theorem foldl_dl_subl {α:Type}:∀(ids:List Int) (m:List (Int×α)),(ids.foldl dl m).Sublist m
 |[],_=>List.Sublist.refl _
 |id::ids,m=>(foldl_dl_subl ids (dl m id)).trans (dl_subl m id)
structure CkG (c:Ck):Prop where
  rs:Rise c.m
  lo:∀q∈c.m,1≤q.1
  hi:∀q∈c.m,q.1≤c.last
  t:0≤c.last∧c.last≤20000000
theorem CkG.put {c:Ck} (h:CkG c) {id:Int} {l:List Int} (h1:c.last<id) (h2:id≤20000000):(putC c id l).m=c.m++[(id,l)]∧CkG (putC c id l):=by
 have hf:pt c.m id l=c.m++[(id,l)]:=pt_fresh fun q hq=>by have:=h.hi q hq;omega
 have ht:=h.t;have hm:(putC c id l).m=c.m++[(id,l)]:=hf;refine⟨hm,⟨?_,?_,?_,?_⟩⟩
 ·rw[hm,Rise,List.pairwise_append];refine⟨h.rs,List.pairwise_singleton _ _,fun q hq p hp=>?_⟩;rw[List.mem_singleton]at hp;subst hp;have:=h.hi q hq;simp only;omega
 ·rw[hm];intro q hq;rcases List.mem_append.1 hq with hq|hq
  ·exact h.lo q hq
  ·rw[List.mem_singleton]at hq;subst hq;simp only;omega
 ·rw[hm];intro q hq;show q.1≤id;rcases List.mem_append.1 hq with hq|hq
  ·have:=h.hi q hq;omega
  ·rw[List.mem_singleton]at hq;subst hq;exact Int.le_refl _
 ·exact⟨by show 0≤id;omega,h2⟩
theorem CkG.drop {c:Ck} (h:CkG c) (ids:List Int):CkG ⟨ids.foldl dl c.m,c.last,c.done⟩:=by
 have hs:=foldl_dl_subl ids c.m;exact⟨h.rs.sublist hs,fun q hq=>h.lo q (hs.subset hq),fun q hq=>h.hi q (hs.subset hq),h.t⟩
/-! ### What is marked -/
def mkq (m:List (Int×Int)) (k:Int):Prop:=0<(lk m k).getD 0
instance (m:List (Int×Int)) (k:Int):Decidable (mkq m k):=by unfold mkq;infer_instance
def hintN:List Stp→Nat
 |[]=>0
 |s::ss=>hintN ss+s.hints.length
/-! ### The replay -/
def Nee (L:List (List Int)) (ss:List Stp) (x:Int):Prop:=mkq (marksS L ss) x
instance (L:List (List Int)) (ss:List Stp) (x:Int):Decidable (Nee L ss x):=by unfold Nee;infer_instance
section
variable {v : Int} {L : List (List Int)} {ss : List Stp} (hn : 1 + hintN ss ≤ 1000000000)
include hn
end
theorem pt_keysT {α:Type}:∀(l:List (Int×α)) (k:Int) (y:α) (x:Int),x∈(pt l k y).map (·.1)↔x=k∨x∈l.map (·.1)
 |[],k,y,x=>by simp[pt]
 |(j,z)::l,k,y,x=>by
  rw[pt]
  by_cases c:j=k
  ·rw[if_pos c];subst c;simp
  ·rw[if_neg c,List.map_cons,List.mem_cons,pt_keysT l k y x,List.map_cons,List.mem_cons];constructor
   ·rintro(h|h|h)
    ·exact .inr (.inl h)
    ·exact .inl h
    ·exact .inr (.inr h)
   ·rintro(h|h|h)
    ·exact .inr (.inl h)
    ·exact .inl h
    ·exact .inr (.inr h)
theorem pt_nodupT {α:Type}:∀(l:List (Int×α)) (k:Int) (y:α),(l.map (·.1)).Nodup→((pt l k y).map (·.1)).Nodup
 |[],k,y,_=>by simp[pt]
 |(j,z)::l,k,y,h=>by
  rw[List.map_cons,List.nodup_cons]at h;rw[pt]
  by_cases c:j=k
  ·rw[if_pos c,List.map_cons,List.nodup_cons];subst c;exact h
  ·rw[if_neg c,List.map_cons,List.nodup_cons,pt_keysT];exact⟨fun hh=>hh.elim c h.1,pt_nodupT l k y h.2⟩
theorem mem_sortZ {l:List Int} {x:Int}:x∈sortZ l↔x∈l:=by
 unfold sortZ;exact(List.mergeSort_perm l _).mem_iff
end Go.AX