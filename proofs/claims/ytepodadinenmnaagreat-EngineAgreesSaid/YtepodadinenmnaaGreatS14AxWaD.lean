/-
  The library: a map's keys, sorted, whatever its values; a slice's values, sorted.
  Contracts: lrat.Checker: its numbers; what is dropped.
  Contracts: rat.Show.
  Contracts: lrat.Checker: may a clause be added?
  Contracts: lrat.New, lrat.Check.
  Contracts: trim: what is needed.
  Contracts: trim.copied, trim.Trim.
  Contracts: slices.DeleteFunc of a block's numbers.
  Contracts: watches: what they hold; made, look, shrunk.
  Watches: how they lie in memory, told as plain data.
  Contracts: watches: forget.
  Contracts: watches: fresh.
-/
import Derived.Test.YtepodadinenmnaaGreatS14AxEvG
import Derived.Test.YtepodadinenmnaaGreatS14AxTmL
import Derived.Test.YtepodadinenmnaaGreatS14AxTmQ
import Derived.Test.YtepodadinenmnaaGreatAxR
import Derived.Test.YtepodadinenmnaaGreatAxBM
import Derived.Test.YtepodadinenmnaaGreatAxAg
import Derived.Test.YtepodadinenmnaaGreatS14AxDkQ
import Derived.Test.YtepodadinenmnaaGreatAxTb
import Derived.Test.YtepodadinenmnaaGreatAxBt
namespace Go.AX
open Go.Proofs Go.Maps Go.Shelf
set_option linter.unusedSimpArgs false
def Ee(_:Value):Option (DataW Unit×List MemPlace):=some (.lit (.int .i64 0),[])
def k0(ks:List Int):List (Int×Int):=ks.map fun x=>(x,0)
def dQ(l:List Int):List Int:=l.mergeSort fun x y=>decide (x≤y)
theorem ta{β:Type}{f:β→PV}{G:Gh}:∀{kv:List (Int×β)}{en:List MapEntry},bm G (aT f kv) en→en.map (·.key)=(kv.map (·.1)).map fun x=>.int .i64 x
 |[],en,h=>by
  have:en=[]:=h;rw[this];rfl
 |q::kv,en,⟨m,r,h1,h2,h3,h4⟩=>by
  subst h1;rw[List.map_cons,List.map_cons,List.map_cons,ta h4,h2]
section
variable {P : Program} {k : TypeId}
theorem Ef(hk:P.underlying k=some (.int .i64)):∀{en:List MapEntry}{ks:List Int},en.map (·.key)=ks.map (fun x=>.int .i64 x)→(∀x∈ks,Cv x)→
 en.map (WideElems.rg P k Ee)=Jg (k0 ks)∧∀m∈en,∃y,WideElems.rd P k Ee m=some y
 |[],ks,h,_=>by
  cases ks with
  |nil=>exact⟨rfl,fun m hm=>by cases hm⟩
  |cons _ _=>cases h
 |m::en,ks,h,hw=>by
  cases ks with
  |nil=>cases h
  |cons q ks=>
   rw[List.map_cons,List.map_cons]at h;injection h with h1 h2;obtain⟨i1,i2⟩:=Ef hk h2 (fun q hq=>hw q (List.mem_cons_of_mem _ hq));have hr:WideElems.rd P k Ee m=some (.int .i64 q,.lit (.int .i64 0)):=by
    unfold WideElems.rd;rw[h1,keyOf_int_mk hk (hw q List.mem_cons_self)];simp[Ee]
   refine⟨?_,fun m' hm'=>?_⟩
   ·rw[List.map_cons,i1,WideElems.rg_of hr];rfl
   ·rcases List.mem_cons.1 hm' with rfl|hm'
    ·exact⟨_,hr⟩
    ·exact i2 m' hm'
theorem Eg{β:Type}{f:β→PV}(hk:P.underlying k=some (.int .i64)){w:World}{c:Nat}{en:Array MapEntry}{ck:Nat}{G:Gh}{kv:List (Int×β)}(hc:w.heap[c]?=some (.map en ck))(hf:bm G (aT f kv) en.toList)(hst:MapKept.Stamped en ck)
 (hw:∀q∈kv,Cv q.1) (hl:kv.length≤maxLen):w.ownsMap P k Ee c kv.length (Gm (k0 (kv.map (·.1)))):=by
 have he:=ta hf;have hn:en.size=kv.length:=by
  have:=congrArg List.length he;simpa using this
 obtain ⟨i1, i2⟩ := Ef hk he (fun x hx => by
  rw[List.mem_map]at hx;obtain⟨q,hq,rfl⟩:=hx;exact hw q hq)
 exact⟨en,ck,hc,⟨by omega,hst,i2⟩,by omega,by unfold Gm;rw[i1]⟩
end
theorem GS(ks:List Int):(k0 ks).map (·.1)=ks:=by
 unfold k0;rw[List.map_map];exact List.map_id ks
theorem MU:bG Tryz.prog (Tryz.sortedA_ren.t 24)=some (1,8):=by kernel_rfl
theorem uI{β:Type}(f:β→PV)(kf:Nat)(kv:List (Int×β))(hw:∀q∈kv,Cv q.1)(hl:kv.length≤1000000)(ekf:∀args w,(callFunc kf args).run Tryz.prog w=.ok (.enter kf args) w)
 (hgiv:∀{H:Type}(Bm b nn:Nat)(D0:DataW H){R:Value→Option (DataW H×List MemPlace)}(w:World),Bm<w.heap.size→w.cell? ⟨Bm,0,none⟩=some (.map (some b))→w.ownsMap Tryz.prog (Tryz.sortedA_ren.t 26) R b nn D0→SeqGives Fence.wide 2 Tryz.prog kf #[.pointer (some ⟨Bm,0,none⟩)] encZ (fun ss=>ss.Perm (intKeys D0)) (Maps.size D0) w):
 IH Tryz.prog 141 kf (.amap false (aT f kv)) (.own true 1 ((dQ (kv.map (·.1))).map fun x=>[ae x])):=by
 refine⟨by kernel_rfl,fun w Bm arr T v0 h1 h2 h3=>?_⟩;have hcell:w.cell? ⟨Bm,0,none⟩=some v0:=by
  have:arr[0]?=some v0:=by rw[←Array.getElem?_toList,h2];rfl
  simp[World.cell?,h1,this]
 have hBm:=(Array.getElem?_eq_some_iff.1 h1).1;have main:∀(S:List Int→Prop)(N:Nat),N≤1000000→(∀ss,S ss→ss.length≤N)→(∀ss,S ss→dQ ss=dQ (kv.map (·.1)))→SeqGives Fence.wide 2 Tryz.prog kf #[.pointer (some ⟨Bm,0,none⟩)] encZ S N w→
  Calls Tryz.prog 141 #[.func (.func kf) #[] #[.pointer (some ⟨Bm,0,none⟩)]] w fun e w'=>∃v g' o,e=.returned v∧PureEnd w w' g'∧av g' w' (.own true 1 ((dQ (kv.map (·.1))).map fun x=>[ae x])) v o∧(SV.own true 1 ((dQ (kv.map (·.1))).map fun x=>[ae x])).inCell=true∧∀c,o=some c→w.heap.size≤c∧g'.I c=none:=by
  intro S N hN hS1 hS2 hseq;have cS:=Gn Tryz.sortedA MU Fence.wide 5 trivial trivial trivial trivial rfl (by omega) (Tryz.sortsA _) (enters_of Tryz.func171 (by kernel_rfl) rfl) kf #[.pointer (some ⟨Bm,0,none⟩)] trivial ekf S N (by unfold maxLen;omega) (by omega) w (iN.of hseq) hS1;refine((callsIn_wide (n:=5)).1 cS).mono fun e w' ⟨v,ss,he,hS,hrow,hone,hnl,hb⟩=>?_;have hm:=hS2 ss hS;have hl:ss.length=(dQ (kv.map (·.1))).length:=by rw[←hm];unfold dQ;rw[List.length_mergeSort]
  unfold dQ at hm;rw[hm]at hrow;obtain⟨g',o,h5,h6,h7,h8⟩:=Ed hl hrow hone hb;exact⟨v,g',o,he,h5,h6,h7,h8⟩
 obtain⟨c,en,ck,rfl,h4,_,h5,h6⟩:=h3
 ·have hown:=Eg (P:=Tryz.prog) (k:=Tryz.sortedA_ren.t 26) (by kernel_rfl) h4 h5 h6 hw (by unfold maxLen;omega);have hsz:Maps.size (Gm (k0 (kv.map (·.1))))=kv.length:=by rw[Dq];unfold k0;rw[List.length_map,List.length_map]
  have hpk:∀ss:List Int,ss.Perm (intKeys (Gm (k0 (kv.map (·.1)))))→ss.Perm (kv.map (·.1)):=fun ss h=>by
   have:=h.trans (Dp _)
   rwa [GS]at this
  refine main _ _ (by rw[hsz];omega) (fun ss h=>?_) (fun ss h=>?_) (hgiv Bm c kv.length (Gm (k0 (kv.map (·.1)))) w hBm hcell hown)
  ·rw[(hpk ss h).length_eq,List.length_map,hsz];exact Nat.le_refl _
  ·exact mergeSort_of_perm_i (hpk ss h)
theorem yE{β:Type}(f:β→PV)(kv:List (Int×β))(hw:∀q∈kv,Cv q.1)(hl:kv.length≤1000000):
 IH Tryz.prog 141 229 (.amap false (aT f kv)) (.own true 1 ((dQ (kv.map (·.1))).map fun x=>[ae x])):=
 uI f _ kv hw hl (enters_of Tryz.func229 (by kernel_rfl) rfl)
  (fun{_} Bm b nn D0 {_} w h1 h2 h3=>AnyZI.keys_gives (ρ:=Tryz.keysA_ren) {Tryz.keysA with} Fence.wide 2 trivial rfl (by omega) Bm b nn D0 w h1 h2 h3)
end Go.AX
namespace Go.AX
open Go.Proofs
set_option linter.unusedSimpArgs false
def dl{α:Type}:List (Int×α)→Int→List (Int×α)
 |[],_=>[]
 |(k,x)::r,n=>if k=n then r else(k,x)::dl r n
def dropB(c:Ck)(ids:List Int):Bool:=decide ((cW (dQ ids)).length<ids.length)||!IG c ids
def Eh(c:Ck)(ids:List Int)(i:Nat):Ck:=⟨(ids.take i).foldl dl c.m,c.last,c.done⟩
def HH(c:Ck)(ids:List Int):Ck:=if dropB c ids=true then c else Eh c ids ids.length
def fS(l:List (List Int)):PV:=.seq false 1 (l.map aO)
@[simp] theorem GT(r:Nat→Nat→PV):∀l:List (Int×List (List Int)),p9 r (aT fS l)=aT fS l
 |[]=>rfl
 |x::l=>by
  have:=GT r l;show(x.1,jk r (fS x.2))::p9 r (aT fS l)=(x.1,fS x.2)::aT fS l;rw[this];simp[fS]
structure CkOk (c:Ck):Prop where
  n:c.m.length≤100000
  w:∀q∈c.m,Cv q.1
  l:∀q∈c.m,q.2.length≤100000
theorem aj.frzC{k0:Nat}{st:St}{b k e:Nat}{nw:Bool}{rows:List (List PV)}(h:aa st (.cell b k)=.own nw e rows):aj k0 st (setPos st (.cell b k) (.pv (.seq nw e rows))):=fun g a w _ hs=>by
 obtain⟨g',t,_,_,_,s,_⟩:=hs.freeze (p:=.cell b k) (by rw[h];rfl);rw[h]at s;exact⟨g',t,s⟩
theorem Lc{α:Type}(l:List (Int×α))(k:Int)(y:α):(pt l k y).length≤l.length+1:=by
 rw[yk];split<;>omega
theorem yG{α:Type}{p:Int×α→Prop}:∀{l:List (Int×α)}{k:Int}{y:α},(∀q∈l,p q)→p (k,y)→∀q∈pt l k y,p q
 |[],k,y,_,h2,q,hq=>by
  rw[pt]at hq;rw[List.mem_singleton]at hq;subst hq;exact h2
 |(j,x)::l,k,y,h1,h2,q,hq=>by
  rw[pt]at hq;split at hq
  ·rename_i e;rcases List.mem_cons.1 hq with rfl|hq
   ·exact e▸h2
   ·exact h1 q (List.mem_cons_of_mem _ hq)
  ·rcases List.mem_cons.1 hq with rfl|hq
   ·exact h1 _ List.mem_cons_self
   ·exact yG (fun q hq=>h1 q (List.mem_cons_of_mem _ hq)) h2 q hq
theorem Ei{α:Type}:∀(l:List (Int×α))(k:Int),∀q∈dl l k,q∈l
 |[],k,q,h=>h
 |(j,x)::l,k,q,h=>by
  rw[dl]at h;split at h
  ·exact List.mem_cons_of_mem _ h
  ·rcases List.mem_cons.1 h with rfl|h
   ·exact List.mem_cons_self
   ·exact List.mem_cons_of_mem _ (Ei l k q h)
theorem HI{α:Type}:∀(l:List (Int×α))(k:Int),(dl l k).length≤l.length
 |[],k=>Nat.le_refl _
 |(j,x)::l,k=>by
  rw[dl];split
  ·simp
  ·have:=HI l k;simp;omega
structure CkN (n:Nat) (c:Ck):Prop where
  n:c.m.length≤n
  w:∀q∈c.m,Cv q.1
  l:∀q∈c.m,q.2.length≤100000
  t:0≤c.last∧c.last≤20000000
theorem CkN.ok{n:Nat}{c:Ck}(h:CkN n c)(hn:n≤100000):CkOk c:=⟨Nat.le_trans h.n hn,h.w,h.l⟩
theorem Ej{x:Int}(h1:0≤x)(h2:x≤20000000):Cv x:=by
 unfold Cv;have e1:IntKind.i64.min=-9223372036854775808:=by decide
 have e2:IntKind.i64.max=9223372036854775807:=by decide
 simp only[Lit.wf,e1,e2,Bool.and_eq_true,decide_eq_true_eq];omega
theorem CkN.put{n:Nat}{c:Ck}(h:CkN n c){id:Int}{l:List Int}(vm:0≤id∧id≤20000000)(hl:l.length≤100000):CkN (n+1) (GR c id l):=
 ⟨Nat.le_trans (Lc _ _ _) (Nat.succ_le_succ h.n),yG h.w (Ej vm.1 vm.2),yG h.l hl,vm⟩
theorem qZ{p:Int×List Int→Prop}:∀(ids:List Int)(m:List (Int×List Int)),(∀q∈m,p q)→(∀q∈ids.foldl dl m,p q)∧(ids.foldl dl m).length≤m.length
 |[],m,h=>⟨h,Nat.le_refl _⟩
 |id::ids,m,h=>by
  obtain⟨h1,h2⟩:=qZ ids (dl m id) (fun q hq=>h q (Ei m id q hq));exact⟨h1,Nat.le_trans h2 (HI _ _)⟩
theorem CkN.drop{n:Nat}{c:Ck}(h:CkN n c)(ids:List Int):CkN n (HH c ids):=by
 unfold HH;split
 ·exact h
 ·unfold Eh;obtain⟨h1,h2⟩:=qZ (p:=fun q=>Cv q.1) (ids.take ids.length) c.m h.w;obtain⟨h3,_⟩:=qZ (p:=fun q=>q.2.length≤100000) (ids.take ids.length) c.m h.l;exact⟨Nat.le_trans h2 h.n,h1,h3,h.t⟩
def HJ:List (List Int)→Nat→Option Int
 |[],_=>none
 |c::L,i=>if c=[]then some ((i+1:Nat):Int)else HJ L (i+1)
def HK:List Stp→Int
 |[]=>0
 |s::ss=>if s.kind=1∧s.lits=[]then s.id else HK ss
def II(L:List (List Int))(ss:List Stp):Int:=(HJ L 0).getD (HK ss)
def MV(m:List (Int×Int))(k:Int):List (Int×Int):=pt m k (aM ((lk m k).getD 0+1))
def MW(m:List (Int×Int))(s:Stp):List (Int×Int):=if s.kind=1∧0<(lk m s.id).getD 0 then s.hints.foldl MV m else m
def Ld(m:List (Int×Int)):List Stp→List (Int×Int)
 |[]=>m
 |s::ss=>MW (Ld m ss) s
def IJ(L:List (List Int))(ss:List Stp):List (Int×Int):=Ld [(II L ss,1)] ss
def Ek(x:Stp):List PV:=[ae x.kind,ae x.id,.seq true 1 (af x.lits),.seq true 1 (af x.hints)]
@[simp] theorem wA(k:Nat)(l:List Stp):bP k (l.map Ek):=by
 induction l with
 |nil=>trivial
 |cons x xs ih=>exact⟨⟨trivial,trivial,bc k _,bc k _,trivial⟩,ih⟩
theorem mW(l:List Int):(aF l).length=l.length:=by unfold aF;simp
theorem GU(H:List (List SV))(b:Nat)(zs:List Int)(sp:List SV)(hb:H[b]?=some (aF zs++sp))(n:Nat):rM (bq H (n+1) b 0) 1 zs.length=.seq false 1 (af zs):=by
 have e:H.getD b []=aF zs++sp:=by rw[List.getD_eq_getElem?_getD,hb];rfl
 simp only[bq,rM,e,List.length_map];rw[if_pos ⟨trivial,by rw[List.length_append,mW];omega⟩];congr 1;unfold aF;simp only[List.map_append,List.map_map];rw[List.drop_zero,List.take_left' (by simp),List.map_map];rfl
theorem oC(k:Nat){sp:List SV}(h:cP k sp):∀l:List Int,cP k (aF l++sp)
 |[]=>h
 |_::l=>⟨trivial,oC k h l⟩
structure By where
  b:Nat
  n:Nat
  cp:Nat
def Cw(x:By):PV:=.bsl x.b 1 0 x.n x.cp
def tb(b:Nat):PV:=.ptr b 0
structure Wt where
  prs:List (Int×Nat)
  byl:List (Int×By)
  late:List (Int×Int)
  head:Int
  seen:List Int
def b9(ba bt:Nat)(W:Wt):List SV:=[.pv (.ptr ba 0),.pv (.ptr bt 0),.omap true (aT tb W.prs),.omap true (aT Cw W.byl),.omap true (aT fI W.late),.pv (ae W.head),.own true 1 (af W.seen)]
def iA(lits:List Int)(x y:Int):List SV:=[.pv (.seq false 1 (af lits)),.pv (ae x),.pv (ae y)]
theorem wB(h:List (List SV))(b ba bt:Nat)(W:Wt)(hb:h[b]?=some (b9 ba bt W)):aE Tryz.prog 154 [.ptr b 0] h (fun r h'=>h'=h∧r=.pv (BL true)):=by
 refine fA [] [.tmp 2] aG Tryz.func154 (by kernel_rfl) rfl rfl (by kernel_rfl) (Nat.le_of_ble_eq_true rfl) ?_;obtain⟨hlt,hb'⟩:=List.getElem?_eq_some_iff.1 hb;simp[hb',hlt,b9]
def d6(T:Tr)(lits:List Int):List Int:=lits.filter fun l=>decide (bV T l=1)||decide (bV T l=0)
def jS(T:Tr)(lits:List Int):Bool:=lits.any fun l=>decide (bV T l=1)
theorem yH(T:Tr)(lits:List Int){i:Nat}(h:i<lits.length):d6 T (lits.take (i+1))=if bV T lits[i]=1∨bV T lits[i]=0 then d6 T (lits.take i)++[lits[i]]else d6 T (lits.take i):=by
 unfold d6;rw[List.take_add_one,List.getElem?_eq_getElem h,Option.toList_some,List.filter_append,List.filter_cons,List.filter_nil]
 by_cases c:bV T lits[i]=1∨bV T lits[i]=0
 ·rw[if_pos c,if_pos (by simpa using c)]
 ·rw[if_neg c,if_neg (by simpa using c),List.append_nil]
theorem yI(T:Tr)(lits:List Int){i:Nat}(h:i<lits.length):jS T (lits.take (i+1))=(jS T (lits.take i)||decide (bV T lits[i]=1)):=by
 unfold jS;rw[List.take_add_one,List.getElem?_eq_getElem h,Option.toList_some,List.any_append];simp
theorem tc(T:Tr)(lits:List Int):(d6 T lits).length≤lits.length:=List.length_filter_le _ _
set_option maxRecDepth 16000 in
theorem El(h:List (List SV))(bw ba bt bp:Nat)(W:Wt)(T:Tr)(lits:List Int)(x y:Int)(hw:h[bw]?=some (b9 ba bt W))(ht:h[bt]?=some (fB T))(hp:h[bp]?=some (iA lits x y))(hT:T.ok)(hl:lits.length≤1000000):
 aE Tryz.prog 280 [.ptr bw 0,.ptr bp 0] h (fun r h'=>h'=h∧r=.pv (.agg [BL (jS T lits),.seq true 1 (af (d6 T lits))])):=by
 refine lc [] [.cell 4 _] aG Tryz.func280 (by kernel_rfl) rfl rfl (by kernel_rfl) (Nat.le_of_ble_eq_true rfl) ?_;obtain⟨w1,w2⟩:=List.getElem?_eq_some_iff.1 hw;obtain⟨p1,p2⟩:=List.getElem?_eq_some_iff.1 hp;obtain⟨G,hG⟩:∃G:SV→SV→List (List SV),∀u v,G u v=h++[[.pv (BL false),.pv (.lit (.slice none 0 0))],[u,v]]:=⟨_,fun _ _=>rfl⟩;have gw?:∀u v,(G u v)[bw]?=some (b9 ba bt W):=fun u v=>by rw[hG,List.getElem?_append_left w1,hw]
 have gp?:∀u v,(G u v)[bp]?=some (iA lits x y):=fun u v=>by rw[hG,List.getElem?_append_left p1,hp]
 have gt?:∀u v,(G u v)[bt]?=some (fB T):=fun u v=>by rw[hG,List.getElem?_append_left (List.getElem?_eq_some_iff.1 ht).1,ht]
 have gf?:∀u v,(G u v)[h.length+1]?=some [u,v]:=fun u v=>by rw[hG];simp
 have gw1:∀u v,bw<(G u v).length:=fun u v=>(List.getElem?_eq_some_iff.1 (gw? u v)).1;have gw2:∀u v,(G u v)[bw]'(gw1 u v)=b9 ba bt W:=fun u v=>(List.getElem?_eq_some_iff.1 (gw? u v)).2;have gp1:∀u v,bp<(G u v).length:=fun u v=>(List.getElem?_eq_some_iff.1 (gp? u v)).1;have gp2:∀u v,(G u v)[bp]'(gp1 u v)=iA lits x y:=fun u v=>(List.getElem?_eq_some_iff.1 (gp? u v)).2;have gf1:∀u v,h.length+1<(G u v).length:=fun u v=>(List.getElem?_eq_some_iff.1 (gf? u v)).1;have gf2:∀u v,(G u v)[h.length+1]'(gf1 u v)=[u,v]:=fun u v=>(List.getElem?_eq_some_iff.1 (gf? u v)).2;have gz:∀u v n,bq (G u v) (n+1) bt 0=bu T:=fun u v n=>cu (gt? u v) n;have gs:∀u v u' v',(G u v).set (h.length+1) [u',v']=G u' v':=fun u v u' v'=>by rw[hG,hG];simp
 have hv:=fun l=>eQ T l hT;simp;rw[←hG];simp[gw1,gw2,b9,gp1,gp2,iA,gz];obtain⟨H,hH⟩:∃H:Nat→List (List SV),∀i,H i=G (.pv (BL (jS T (lits.take i)))) (.own true 1 (af (d6 T (lits.take i)))):=⟨_,fun _=>rfl⟩;have h1:∀i,h.length+1<(H i).length:=fun i=>by rw[hH];exact gf1 _ _
 have h2:∀i,(H i)[h.length+1]'(h1 i)=[.pv (BL (jS T (lits.take i))),.own true 1 (af (d6 T (lits.take i)))]:=fun i=>by simp only[hH];exact gf2 _ _
 have hz:∀i n,bq (H i) (n+1) bt 0=bu T:=fun i n=>by rw[hH];exact gz _ _ n
 have hs:∀i u v,(H i).set (h.length+1) [u,v]=G u v:=fun i u v=>by rw[hH];exact gs _ _ _ _
 refine aH.intro (S:=fun(i:Nat)=>⟨[(4,.pv (.ptr h.length 0)),(5,.pv (.ptr (h.length+1) 0)),(6,.pv (.fn (.func 103) [.ptr bt 0] [])),(17,.pv (.seq false 1 (af lits))),(18,.pv (ae lits.length)),(19,.pv (ae i))],H i⟩) (fun i=>i≤lits.length) (fun i=>lits.length -i) 0 ?_ (Nat.zero_le _) ?_
 ·refine(aj.nilCell (b:=h.length+1) (k:=1) (xs:=[.pv (BL false),.pv (.lit (.slice none 0 0))]) 1 true (by simp;exact gf? _ _) (by simp)).trans (aj.keep (by simp) ?_);simp[hH,gs,jS,d6,af]
 intro i hi
 by_cases d:i<lits.length
 ·have hw':aM ((i:Int)+1)=((i+1:Nat):Int):=by rw[ah (by omega) (by omega)];omega
  have hq:lits[i]?=some lits[i]:=List.getElem?_eq_getElem d;have ho:=yH T lits d;have hh:=yI T lits d;have hol:(d6 T (lits.take i)).length≤i:=Nat.le_trans (tc _ _) (by rw[List.length_take];omega);simp[d,hq,hz];refine ak.introP (hv lits[i]) (by simp) (by simp) ?_
  by_cases v1:bV T lits[i]=1
  ·rw[if_pos (.inl v1)]at ho;rw[decide_eq_true v1,Bool.or_true]at hh;simp[v1,h1,h2,hs,gf1,gf2,gs];refine⟨by omega,i+1,by(try dsimp only);omega,by(try dsimp only);omega,aj.keep (by simp[hw']) ?_⟩;simp[hH,gs,ho,hh,af]
  ·rw[decide_eq_false v1,Bool.or_false]at hh
   by_cases v0:bV T lits[i]=0
   ·rw[if_pos (.inr v0)]at ho;simp[v0,h1,h2,hs,gf1,gf2,gs];refine⟨by omega,i+1,by(try dsimp only);omega,by(try dsimp only);omega,aj.keep (by simp[hw']) ?_⟩;simp[hH,gs,ho,hh,af]
   ·rw[if_neg (fun h=>h.elim v1 v0)]at ho;simp[v0,v1];refine⟨i+1,by(try dsimp only);omega,by(try dsimp only);omega,aj.keep (by simp[hw']) ?_⟩;simp[hH,gs,ho,hh,af]
 ·have:i=lits.length:=by omega
  subst this;simp only[hH,hG];simp[cz,cI,frzC]
def gq:List Int→List Int→Nat
 |x::a,y::b=>if x=y then gq a b+1 else 0
 |_,_=>0
def Em(W:Wt)(now:List Int):Wt:=⟨W.prs,W.byl,W.late,if(gq W.seen now:Int)<W.head then(gq W.seen now:Int)else W.head,W.seen⟩
set_option maxRecDepth 16000 in
theorem yJ(h:List (List SV))(bw ba bt:Nat)(W:Wt)(now:List Int)(hw:h[bw]?=some (b9 ba bt W))(hl:now.length≤1000000)(hs:W.seen.length≤1000000):
 aE Tryz.prog 155 [.ptr bw 0,.seq false 1 (af now)] h (fun r h'=>h'=h.set bw (b9 ba bt (Em W now))∧r=.pv (.tup [])):=by
 refine dh [] [] aG Tryz.func155 (by kernel_rfl) rfl rfl (by kernel_rfl) (Nat.le_of_ble_eq_true rfl) ?_;obtain⟨w1,w2⟩:=List.getElem?_eq_some_iff.1 hw;have hP:gq W.seen now=0+gq (W.seen.drop 0) (now.drop 0):=by simp
 unfold Em;generalize gq W.seen now=P at*;simp;refine aH.intro (S:=fun(k:Nat)=>⟨[(0,.pv (.ptr bw 0)),(1,.pv (.seq false 1 (af now))),(4,.pv (ae k))],h⟩) (fun k=>k≤W.seen.length∧k≤now.length∧P=k+gq (W.seen.drop k) (now.drop k)) (fun k=>W.seen.length -k) 0 ?_ ⟨Nat.zero_le _,Nat.zero_le _,hP⟩ ?_
 ·exact aj.keep (by simp) rfl
 rintro k ⟨k1,k2,hk⟩;have hw':aM ((k:Int)+1)=((k+1:Nat):Int):=by rw[ah (by omega) (by omega)];omega
 by_cases d1:k<W.seen.length
 ·have q1:W.seen[k]?=some W.seen[k]:=List.getElem?_eq_getElem d1
  by_cases d2:k<now.length
  ·have q2:now[k]?=some now[k]:=List.getElem?_eq_getElem d2;rw[List.drop_eq_getElem_cons d1,List.drop_eq_getElem_cons d2,gq]at hk
   by_cases e:W.seen[k]=now[k]
   ·rw[if_pos e]at hk;simp[w1,w2,b9,d1,d2,q1,q2,e];exact⟨k+1,by(try dsimp only);omega,⟨by(try dsimp only);omega,by(try dsimp only);omega,by(try dsimp only);omega⟩,aj.keep (by simp[hw']) rfl⟩
   ·rw[if_neg e]at hk;have:P=k:=by omega
    subst this;simp[w1,w2,b9,d1,d2,q1,q2,e]
  ·have:P=k:=by rw[List.drop_eq_nil_of_le (show now.length≤k by omega)]at hk;cases hd:W.seen.drop k<;>rw[hd]at hk<;>simpa[gq]using hk
   subst this;simp[w1,w2,b9,d1,d2,q1]
 ·have:P=k:=by rw[List.drop_eq_nil_of_le (show W.seen.length≤k by omega)]at hk;simpa[gq]using hk
  subst this;simp[w1,w2,b9,d1]
structure Pr where
  lits:List Int
  x:Int
  y:Int
structure WS where
  prs:List (Int×Pr)
  byl:List (Int×List Int)
  late:List (Int×Int)
  head:Int
  seen:List Int
def nI(p:Pr):List SV:=iA p.lits p.x p.y
def Le(h:List (List SV))(e:By)(zs:List Int):Prop:=∃sp,h[e.b]?=some (aF zs++sp)∧(∀k,cP k sp)∧zs.length=e.n∧e.n≤e.cp∧e.cp≤e.n+sp.length
structure LayW (h:List (List SV)) (bw ba bt:Nat) (mp:List (Int×Nat)) (mb:List (Int×By)) (A:Ar) (T:Tr) (S:WS):Prop where
  w:h[bw]?=some (b9 ba bt ⟨mp,mb,S.late,S.head,S.seen⟩)
  a:h[ba]?=some (lf A)
  t:h[bt]?=some (fB T)
  wa:bw≠ba
  wt:bw≠bt
  at':ba≠bt
  keys:mp.map (·.1)=S.prs.map (·.1)
  pr:∀k b,lk mp k=some b→∃p,lk S.prs k=some p∧h[b]?=some (nI p)∧b≠bw∧b≠ba∧b≠bt
  pinj:∀k k' b,lk mp k=some b→lk mp k'=some b→k=k'
  by':∀l e,lk mb l=some e→∃zs,lk S.byl l=some zs∧Le h e zs∧e.b≠bw∧e.b≠ba∧e.b≠bt
  byn:∀l,lk mb l=none→lk S.byl l=none
  binj:∀l l' e e',lk mb l=some e→lk mb l'=some e'→e.b=e'.b→l=l'
  pb:∀k b l e,lk mp k=some b→lk mb l=some e→b≠e.b
def aP(bw bt:Nat)(mp:List (Int×Nat))(mb:List (Int×By))(b:Nat):Prop:=b=bw∨b=bt∨(∃k,lk mp k=some b)∨∃l e,lk mb l=some e∧e.b=b
structure Ext (h h':List (List SV)) (D D':Nat→Prop):Prop where
  len:h.length≤h'.length
  same:∀b,b<h.length→¬D b→h'[b]?=h[b]?
  sub:∀b,b<h.length→D' b→D b
theorem Ext.refl(h:List (List SV))(D:Nat→Prop):Ext h h D D:=⟨Nat.le_refl _,fun _ _ _=>rfl,fun _ _ h=>h⟩
theorem Ext.trans{h1 h2 h3:List (List SV)}{D1 D2 D3:Nat→Prop}(a:Ext h1 h2 D1 D2)(b:Ext h2 h3 D2 D3):Ext h1 h3 D1 D3:=
 ⟨Nat.le_trans a.len b.len,fun k hk hn=>by rw[b.same k (Nat.lt_of_lt_of_le hk a.len) fun hd=>hn (a.sub k hk hd),a.same k hk hn],fun k hk hd=>a.sub k hk (b.sub k (Nat.lt_of_lt_of_le hk a.len) hd)⟩
theorem Ext.app(h g:List (List SV))(D:Nat→Prop):Ext h (h++g) D D:=
 ⟨by simp,fun b hb _=>List.getElem?_append_left hb,fun _ _ h=>h⟩
theorem Ext.set{h:List (List SV)}{D:Nat→Prop}(b:Nat)(x:List SV)(hd:D b):Ext h (h.set b x) D D:=
 ⟨by simp,fun k hk hn=>List.getElem?_set_ne (fun e:b=k=>hn (e▸hd)),fun _ _ h=>h⟩
theorem Ext.dom{h h':List (List SV)}{D D' D2:Nat→Prop}(a:Ext h h' D D')(hs:∀b,b<h.length→D2 b→D b):Ext h h' D D2:=⟨a.len,a.same,hs⟩
section
variable {h : List (List SV)} {bw ba bt : Nat} {mp : List (Int × Nat)} {mb : List (Int × By)} {A : Ar} {T : Tr} {S : WS}
theorem LayW.some_p(L:LayW h bw ba bt mp mb A T S){k:Int}{p:Pr}(hp:lk S.prs k=some p):∃b,lk mp k=some b∧h[b]?=some (nI p)∧b≠bw∧b≠ba∧b≠bt:=by
 have:∀(a:List (Int×Nat))(c:List (Int×Pr)),a.map (·.1)=c.map (·.1)→(lk c k).isSome=true→(lk a k).isSome=true:=by
  intro a
  induction a with
  |nil=>intro c h1 h2;cases c with|nil=>exact h2|cons _ _=>simp at h1
  |cons u a ih=>
   intro c h1 h2;cases c with
   |nil=>simp at h1
   |cons w c=>
    simp only[List.map_cons,List.cons.injEq]at h1;rw[lk]at h2⊢;rw[h1.1];split
    ·rfl
    ·rename_i hn;rw[if_neg hn]at h2;exact ih c h1.2 h2
 obtain⟨b,hb⟩:=Option.isSome_iff_exists.1 (this mp S.prs L.keys (by rw[hp];rfl));obtain⟨p',h1,h2⟩:=L.pr k b hb;rw[hp]at h1;cases h1
 exact⟨b,hb,h2⟩
theorem LayW.some_b(L:LayW h bw ba bt mp mb A T S){l:Int}{zs:List Int}(hz:lk S.byl l=some zs):∃e,lk mb l=some e∧Le h e zs∧e.b≠bw∧e.b≠ba∧e.b≠bt:=by
 cases hm:lk mb l with
 |none=>rw[L.byn l hm]at hz;cases hz
 |some e=>
  obtain⟨zs',h1,h2⟩:=L.by' l e hm
  rw[hz]at h1;cases h1
  exact⟨e,rfl,h2⟩
theorem LayW.app(L:LayW h bw ba bt mp mb A T S)(g:List (List SV)):LayW (h++g) bw ba bt mp mb A T S:=by
  have up:∀{b:Nat}{x:List SV},h[b]?=some x→(h++g)[b]?=some x:=fun hx=>by rw[List.getElem?_append_left (List.getElem?_eq_some_iff.1 hx).1,hx]
  exact { w := up L.w, a := up L.a, t := up L.t, wa := L.wa, wt := L.wt, at' := L.at', keys := L.keys, pinj := L.pinj, byn := L.byn, binj := L.binj, pb := L.pb
          pr:=fun k b hb=>by obtain⟨p,h1,h2,h3⟩:=L.pr k b hb;exact⟨p,h1,up h2,h3⟩
          by':=fun l e he=>by
            obtain⟨zs,h1,⟨sp,h2,h3⟩,h4⟩:=L.by' l e he
            exact⟨zs,h1,⟨sp,up h2,h3⟩,h4⟩}
theorem LayW.setW(L:LayW h bw ba bt mp mb A T S)(late:List (Int×Int))(head:Int)(seen:List Int):LayW (h.set bw (b9 ba bt ⟨mp,mb,late,head,seen⟩)) bw ba bt mp mb A T ⟨S.prs,S.byl,late,head,seen⟩:=by
  have hl:=(List.getElem?_eq_some_iff.1 L.w).1
  have up:∀{b:Nat}{x:List SV},b≠bw→h[b]?=some x→(h.set bw (b9 ba bt ⟨mp,mb,late,head,seen⟩))[b]?=some x:=fun hn hx=>by rw[List.getElem?_set_ne (fun e=>hn e.symm),hx]
  exact { w := List.getElem?_set_self hl, a := up L.wa.symm L.a, t := up L.wt.symm L.t, wa := L.wa, wt := L.wt, at' := L.at', keys := L.keys, pinj := L.pinj, byn := L.byn, binj := L.binj, pb := L.pb
          pr:=fun k b hb=>by obtain⟨p,h1,h2,h3⟩:=L.pr k b hb;exact⟨p,h1,up h3.1 h2,h3⟩
          by':=fun l e he=>by
            obtain⟨zs,h1,⟨sp,h2,h3⟩,h4⟩:=L.by' l e he
            exact⟨zs,h1,⟨sp,up h4.1 h2,h3⟩,h4⟩}
theorem LayW.setT(L:LayW h bw ba bt mp mb A T S)(T':Tr):LayW (h.set bt (fB T')) bw ba bt mp mb A T' S:=by
  have hl:=(List.getElem?_eq_some_iff.1 L.t).1
  have up:∀{b:Nat}{x:List SV},b≠bt→h[b]?=some x→(h.set bt (fB T'))[b]?=some x:=fun hn hx=>by rw[List.getElem?_set_ne (fun e=>hn e.symm),hx]
  exact { w := up L.wt L.w, a := up L.at' L.a, t := List.getElem?_set_self hl, wa := L.wa, wt := L.wt, at' := L.at', keys := L.keys, pinj := L.pinj, byn := L.byn, binj := L.binj, pb := L.pb
          pr:=fun k b hb=>by obtain⟨p,h1,h2,h3⟩:=L.pr k b hb;exact⟨p,h1,up h3.2.2 h2,h3⟩
          by':=fun l e he=>by
            obtain⟨zs,h1,⟨sp,h2,h3⟩,h4⟩:=L.by' l e he
            exact⟨zs,h1,⟨sp,up h4.2.2 h2,h3⟩,h4⟩}
theorem wC{α β:Type}:∀(a:List (Int×α))(c:List (Int×β))(k:Int)(x:α)(y:β),a.map (·.1)=c.map (·.1)→(pt a k x).map (·.1)=(pt c k y).map (·.1)
 |[],[],_,_,_,_=>rfl
 |[],_::_,_,_,_,h=>by simp at h
 |_::_,[],_,_,_,h=>by simp at h
 |u::a,w::c,k,x,y,h=>by
  obtain⟨u1,u2⟩:=u;obtain⟨w1,w2⟩:=w;simp only[List.map_cons,List.cons.injEq]at h;obtain⟨h1,h2⟩:=h;subst h1;rw[pt,pt];split
  ·simp[h2]
  ·simp only[List.map_cons];rw[wC a c k x y h2]
theorem LayW.setP(L:LayW h bw ba bt mp mb A T S){k:Int}{b:Nat}(hb:lk mp k=some b)(p:Pr)(hkeep:mp.map (·.1)=(pt S.prs k p).map (·.1)):LayW (h.set b (nI p)) bw ba bt mp mb A T ⟨pt S.prs k p,S.byl,S.late,S.head,S.seen⟩:=by
  obtain⟨p0,q1,q2,q3,q4,q5⟩:=L.pr k b hb
  have hl:=(List.getElem?_eq_some_iff.1 q2).1
  have up:∀{c:Nat}{x:List SV},c≠b→h[c]?=some x→(h.set b (nI p))[c]?=some x:=fun hn hx=>by rw[List.getElem?_set_ne (fun e=>hn e.symm),hx]
  exact { w := up q3.symm L.w, a := up q4.symm L.a, t := up q5.symm L.t, wa := L.wa, wt := L.wt, at' := L.at', keys := hkeep, pinj := L.pinj, byn := L.byn, binj := L.binj, pb := L.pb
          pr:=fun k' b' hb'=>by
            obtain⟨p1,h1,h2,h3⟩:=L.pr k' b' hb'
            show∃p_1,lk (pt S.prs k p) k'=some p_1∧_
            rw[bz]
            by_cases e:k=k'
            · subst e
              rw[hb]at hb'
              cases hb'
              exact⟨p,if_pos rfl,List.getElem?_set_self hl,h3⟩
            · exact⟨p1,by rw[if_neg e];exact h1,up (fun e2=>e (L.pinj k k' b hb (e2▸hb'))) h2,h3⟩
          by':=fun l e he=>by
            obtain⟨zs,h1,⟨sp,h2,h3⟩,h4⟩:=L.by' l e he
            exact⟨zs,h1,⟨sp,up (L.pb k b l e hb he).symm h2,h3⟩,h4⟩}
theorem LayW.setB(L:LayW h bw ba bt mp mb A T S){l:Int}{e:By}(he:lk mb l=some e)(zs:List Int)(sp:List SV)(hsp:∀k,cP k sp)(n:Nat)(hn:zs.length=n)(h1:n≤e.cp)(h2:e.cp≤n+sp.length):
    LayW ((h.set e.b (aF zs++sp)).set bw (b9 ba bt ⟨mp,pt mb l ⟨e.b,n,e.cp⟩,S.late,S.head,S.seen⟩)) bw ba bt mp (pt mb l ⟨e.b,n,e.cp⟩) A T ⟨S.prs,pt S.byl l zs,S.late,S.head,S.seen⟩:=by
  obtain⟨z0,q1,⟨sp0,q2,_⟩,q3,q4,q5⟩:=L.by' l e he
  have hl:=(List.getElem?_eq_some_iff.1 q2).1
  have hwl:=(List.getElem?_eq_some_iff.1 L.w).1
  have up:∀{c:Nat}{x:List SV},c≠bw→c≠e.b→h[c]?=some x→((h.set e.b (aF zs++sp)).set bw (b9 ba bt ⟨mp,pt mb l ⟨e.b,n,e.cp⟩,S.late,S.head,S.seen⟩))[c]?=some x:=fun n1 n2 hx=>by
    rw[List.getElem?_set_ne (fun e=>n1 e.symm),List.getElem?_set_ne (fun e=>n2 e.symm),hx]
  have self:((h.set e.b (aF zs++sp)).set bw (b9 ba bt ⟨mp,pt mb l ⟨e.b,n,e.cp⟩,S.late,S.head,S.seen⟩))[e.b]?=some (aF zs++sp):=by
    rw[List.getElem?_set_ne (fun e=>q3 e.symm),List.getElem?_set_self hl]
  exact { w := List.getElem?_set_self (by simpa using hwl), a := up L.wa.symm q4.symm L.a, t := up L.wt.symm q5.symm L.t, wa := L.wa, wt := L.wt, at' := L.at', keys := L.keys, pinj := L.pinj
          pr:=fun k b hb=>by obtain⟨p,a1,a2,a3⟩:=L.pr k b hb;exact⟨p,a1,up a3.1 (L.pb k b l e hb he) a2,a3⟩
          by':=fun l' e' he'=>by
            rw[bz]at he'
            show∃zs_1,lk (pt S.byl l zs) l'=some zs_1∧_
            rw[bz]
            by_cases c:l=l'
            · rw[if_pos c]at he'
              cases he'
              exact⟨zs,if_pos c,⟨sp,self,hsp,hn,h1,h2⟩,q3,q4,q5⟩
            · rw[if_neg c]at he'
              obtain⟨z1,a1,⟨sp1,a2,a3⟩,a4⟩:=L.by' l' e' he'
              exact⟨z1,by rw[if_neg c];exact a1,⟨sp1,up a4.1 (fun e2=>c (L.binj l' l e' e he' he e2).symm) a2,a3⟩,a4⟩
          byn:=fun l' hn'=>by
            rw[bz]at hn'
            show lk (pt S.byl l zs) l'=none
            rw[bz]
            by_cases c:l=l'
            · rw[if_pos c]at hn';cases hn'
            · rw[if_neg c]at hn'⊢;exact L.byn l' hn'
          binj:=fun l1 l2 e1 e2 h1' h2' hb=>by
            rw[bz]at h1' h2'
            by_cases c1:l=l1
            · by_cases c2:l=l2
              · exact c1.symm.trans c2
              · rw[if_pos c1]at h1';rw[if_neg c2]at h2';cases h1'
                exact absurd (L.binj l l2 e e2 he h2' hb) c2
            · rw[if_neg c1]at h1'
              by_cases c2:l=l2
              · rw[if_pos c2]at h2';cases h2'
                exact absurd (L.binj l1 l e1 e h1' he hb).symm c1
              · rw[if_neg c2]at h2'
                exact L.binj l1 l2 e1 e2 h1' h2' hb
          pb:=fun k b l' e' hb he'=>by
            rw[bz]at he'
            by_cases c:l=l'
            · rw[if_pos c]at he';cases he';exact L.pb k b l e hb he
            · rw[if_neg c]at he';exact L.pb k b l' e' hb he'}
theorem LayW.newB(L:LayW h bw ba bt mp mb A T S)(l:Int)(zs:List Int)(sp:List SV)(hsp:∀k,cP k sp)(n cp:Nat)(hn:zs.length=n)(h1:n≤cp)(h2:cp≤n+sp.length):
    LayW ((h++[aF zs++sp]).set bw (b9 ba bt ⟨mp,pt mb l ⟨h.length,n,cp⟩,S.late,S.head,S.seen⟩)) bw ba bt mp (pt mb l ⟨h.length,n,cp⟩) A T ⟨S.prs,pt S.byl l zs,S.late,S.head,S.seen⟩:=by
  have hwl:=(List.getElem?_eq_some_iff.1 L.w).1
  have lt:∀{b:Nat}{x:List SV},h[b]?=some x→b<h.length:=fun hx=>(List.getElem?_eq_some_iff.1 hx).1
  have up:∀{c:Nat}{x:List SV},c≠bw→h[c]?=some x→((h++[aF zs++sp]).set bw (b9 ba bt ⟨mp,pt mb l ⟨h.length,n,cp⟩,S.late,S.head,S.seen⟩))[c]?=some x:=fun n1 hx=>by
    rw[List.getElem?_set_ne (fun e=>n1 e.symm),List.getElem?_append_left (lt hx),hx]
  have self:((h++[aF zs++sp]).set bw (b9 ba bt ⟨mp,pt mb l ⟨h.length,n,cp⟩,S.late,S.head,S.seen⟩))[h.length]?=some (aF zs++sp):=by
    rw[List.getElem?_set_ne (by omega)];simp
  exact { w := List.getElem?_set_self (by simp; omega), a := up L.wa.symm L.a, t := up L.wt.symm L.t, wa := L.wa, wt := L.wt, at' := L.at', keys := L.keys, pinj := L.pinj
          pr:=fun k b hb=>by obtain⟨p,a1,a2,a3⟩:=L.pr k b hb;exact⟨p,a1,up a3.1 a2,a3⟩
          by':=fun l' e' he'=>by
            rw[bz]at he'
            show∃zs_1,lk (pt S.byl l zs) l'=some zs_1∧_
            rw[bz]
            by_cases c:l=l'
            · rw[if_pos c]at he'
              cases he'
              exact⟨zs,if_pos c,⟨sp,self,hsp,hn,h1,h2⟩,Nat.ne_of_gt hwl,Nat.ne_of_gt (lt L.a),Nat.ne_of_gt (lt L.t)⟩
            · rw[if_neg c]at he'
              obtain⟨z1,a1,⟨sp1,a2,a3⟩,a4⟩:=L.by' l' e' he'
              exact⟨z1,by rw[if_neg c];exact a1,⟨sp1,up a4.1 a2,a3⟩,a4⟩
          byn:=fun l' hn'=>by
            rw[bz]at hn'
            show lk (pt S.byl l zs) l'=none
            rw[bz]
            by_cases c:l=l'
            · rw[if_pos c]at hn';cases hn'
            · rw[if_neg c]at hn'⊢;exact L.byn l' hn'
          binj:=fun l1 l2 e1 e2 h1' h2' hb=>by
            have old:∀l' e',lk mb l'=some e'→e'.b<h.length:=fun l' e' he'=>by obtain⟨_,_,⟨_,a2,_⟩,_⟩:=L.by' l' e' he';exact lt a2
            rw[bz]at h1' h2'
            by_cases c1:l=l1
            · by_cases c2:l=l2
              · exact c1.symm.trans c2
              · rw[if_pos c1]at h1';rw[if_neg c2]at h2';cases h1'
                have:=old l2 e2 h2'
                simp only at hb
                omega
            · rw[if_neg c1]at h1'
              by_cases c2:l=l2
              · rw[if_pos c2]at h2';cases h2'
                have:=old l1 e1 h1'
                simp only at hb
                omega
              · rw[if_neg c2]at h2'
                exact L.binj l1 l2 e1 e2 h1' h2' hb
          pb:=fun k b l' e' hb he'=>by
            rw[bz]at he'
            by_cases c:l=l'
            · rw[if_pos c]at he';cases he'
              obtain⟨_,_,a2,_⟩:=L.pr k b hb
              exact Nat.ne_of_lt (lt a2)
            · rw[if_neg c]at he';exact L.pb k b l' e' hb he'}
end
@[simp] theorem Lf(l:List (Int×Nat))(k:Int):de (aT tb l) k=(lk l k).map tb:=ip tb l k
@[simp] theorem Mf(l:List (Int×Nat))(k:Int)(b:Nat):gk (aT tb l) k (.ptr b 0)=aT tb (pt l k b):=jt tb l k b
@[simp] theorem Lg(l:List (Int×By))(k:Int):de (aT Cw l) k=(lk l k).map Cw:=ip Cw l k
@[simp] theorem Mg(l:List (Int×By))(k:Int)(b n cp:Nat):gk (aT Cw l) k (.bsl b 1 0 n cp)=aT Cw (pt l k ⟨b,n,cp⟩):=jt Cw l k ⟨b,n,cp⟩
theorem GV(x v:Int):ao Tryz.prog 256 [ae x,.iptr 1 [[ae v]] 0 0] (fun r=>r=.pv (BL (decide (x=v)))):=by
 refine aw aG Tryz.func256 (by kernel_rfl) rfl rfl (by kernel_rfl) (Nat.le_of_ble_eq_true rfl) ?_;simp
def eI(byl:List (Int×List Int))(k l:Int):List (Int×List Int):=if l=0 then byl else pt byl l (aU (fun x=>decide (x=k)) ((lk byl l).getD []))
def lj(S:WS)(k:Int)(p:Pr):WS:=⟨pt S.prs k ⟨p.lits,0,0⟩,eI (eI S.byl k p.x) k p.y,S.late,S.head,S.seen⟩
def Eo:Sch:=
 let s0:Sch:=.fork [(8,.done)]
 let s1:Sch:=.fork [(5,.take 6 (.take 7 s0))]
 let s2:Sch:=.fork [(4,s1)]
 let s3:Sch:=.fork [(3,s1)]
 let s4:Sch:=.fork [(3,s2),(4,s3)]
 .take 0 (.take 1 (.take 2 (.take 9 s4)))
def Ep:Sch:=
 let s0:Sch:=.fork [(13,.done)]
 let s1:Sch:=.fork [(12,s0)]
 let s2:Sch:=.fork [(11,s1)]
 let s3:Sch:=.fork [(10,s1)]
 let s4:Sch:=.fork [(10,s2),(11,s3)]
 let s5:Sch:=.fork [(8,s3)]
 let s6:Sch:=.fork [(8,s4),(11,s5)]
 let s7:Sch:=.fork [(3,s0)]
 let s8:Sch:=.fork [(3,s1),(12,s7)]
 let s9:Sch:=.fork [(3,s2),(11,s8)]
 let s10:Sch:=.fork [(3,s3),(10,s8)]
 let s11:Sch:=.fork [(3,s4),(10,s9),(11,s10)]
 let s12:Sch:=.fork [(3,s5),(8,s10)]
 let s13:Sch:=.fork [(3,s6),(8,s11),(11,s12)]
 .take 0 (.take 1 (.take 2 (.take 4 (.take 5 (.take 6 (.take 7 (.take 9 s13)))))))
def Eq:Sch:=
 let s0:Sch:=.fork [(9,.done)]
 let s1:Sch:=.fork [(6,.take 7 (.take 8 s0))]
 let s2:Sch:=.fork [(5,.take 7 (.take 8 s0))]
 let s3:Sch:=.fork [(5,s1),(6,s2)]
 let s4:Sch:=.fork [(4,s2)]
 let s5:Sch:=.fork [(4,s3),(6,s4)]
 let s6:Sch:=.fork [(3,s2)]
 let s7:Sch:=.fork [(3,s3),(6,s6)]
 let s8:Sch:=.fork [(3,s4),(4,s6)]
 let s9:Sch:=.fork [(3,s5),(4,s7),(6,s8)]
 .take 0 (.take 1 (.take 2 s9))
def yK(S:WS)(k:Int)(p:Pr):Nat→List (Int×List Int)
 |0=>S.byl
 |1=>eI S.byl k p.x
 |_=>eI (eI S.byl k p.x) k p.y
set_option maxRecDepth 16000 in
theorem yL(h:List (List SV))(bw ba bt:Nat)(mp:List (Int×Nat))(mb:List (Int×By))(A:Ar)(T:Tr)(S:WS)(L:LayW h bw ba bt mp mb A T S)(k:Int)(p:Pr)(hp:lk S.prs k=some p)
 (hx:p.x≠0→∃zs,lk S.byl p.x=some zs∧zs≠[]) (hy:p.y≠0→∃zs,lk (eI S.byl k p.x) p.y=some zs∧zs≠[]) (hz:∀l zs,lk S.byl l=some zs→zs.length≤1000000):
 aE Tryz.prog 195 [.ptr bw 0,ae k] h (fun r h'=>r=.pv (.tup [])∧∃mb',LayW h' bw ba bt mp mb' A T (lj S k p)∧Ext h h' (aP bw bt mp mb) (aP bw bt mp mb')):=by
 refine dh [1,5,7] [] aG Tryz.func195 (by kernel_rfl) rfl rfl (by kernel_rfl) (Nat.le_of_ble_eq_true rfl) ?_;obtain⟨b,hb,q1,q2,q3,q4⟩:=L.some_p hp;obtain⟨G,hG⟩:∃G,G=h++[[SV.pv (ae k)]]:=⟨_,rfl⟩;have L0:LayW G bw ba bt mp mb A T S:=by rw[hG];exact L.app _
 have hk?:G[h.length]?=some [.pv (ae k)]:=by rw[hG];simp
 have hb?:G[b]?=some (nI p):=by rw[hG,List.getElem?_append_left (List.getElem?_eq_some_iff.1 q1).1,q1]
 obtain⟨w1,w2⟩:=List.getElem?_eq_some_iff.1 L0.w;obtain⟨k1,k2⟩:=List.getElem?_eq_some_iff.1 hk?;obtain⟨b1,b2⟩:=List.getElem?_eq_some_iff.1 hb?;simp;rw[←hG];have kne:h.length≠bw:=Nat.ne_of_gt (List.getElem?_eq_some_iff.1 L.w).1;have old:∀l e,lk mb l=some e→e.b<h.length:=fun l e he=>by obtain⟨_,_,⟨_,a2,_⟩,_⟩:=L.by' l e he;exact(List.getElem?_eq_some_iff.1 a2).1
 refine aY.meet Eo ⟨[(0,.pv (.ptr bw 0)),(3,.pv (.ptr h.length 0)),(14,.pv (.agg [ae p.x,ae p.y])),(15,.pv (ae 0))],G⟩ (by kernel_rfl) ?_ ?_
 ·simp[Eo,w1,w2,b9,k1,k2,b1,b2,nI,iA,hb,tb];and_intros
  all_goals exact aj.keep (by simp) rfl
 simp;refine aH.intro (S:=fun(x:Nat×List (List SV)×List (Int×By))=>⟨[(0,.pv (.ptr bw 0)),(3,.pv (.ptr h.length 0)),(14,.pv (.agg [ae p.x,ae p.y])),(15,.pv (ae x.1))],x.2.1⟩)
  (fun x=>x.1≤2∧LayW x.2.1 bw ba bt mp x.2.2 A T ⟨S.prs,yK S k p x.1,S.late,S.head,S.seen⟩∧x.2.1[h.length]?=some [.pv (ae k)]∧Ext G x.2.1 (aP bw bt mp mb) (aP bw bt mp x.2.2)∧(∀l e,lk x.2.2 l=some e→e.b<h.length)∧∀l zs,lk (yK S k p x.1) l=some zs→zs.length≤1000000)
  (fun x=>2 -x.1) (0,G,mb) ?_ ⟨Nat.zero_le _,L0,hk?,Ext.refl _ _,old,hz⟩ ?_
 ·exact aj.keep (by simp) rfl
 rintro⟨i,H,mb'⟩ ⟨hi,LH,hkH,hE,hold,hzs⟩;dsimp only at hi LH hkH hE hold hzs;obtain⟨v1,v2⟩:=List.getElem?_eq_some_iff.1 LH.w;obtain⟨j1,j2⟩:=List.getElem?_eq_some_iff.1 hkH
 by_cases d:i<2
 ·obtain⟨l,hl⟩:∃l,l=if i=0 then p.x else p.y:=⟨_,rfl⟩;have hidx:[ae p.x,ae p.y][i]?=some (ae l):=by
   have:i=0∨i=1:=by omega
   rcases this with rfl|rfl
   ·rw[hl];rfl
   ·rw[hl];rfl
  have hidx':∀hh:i<[ae p.x,ae p.y].length,[ae p.x,ae p.y][i]'hh=ae l:=fun hh=>by
   have:=List.getElem?_eq_some_iff.1 hidx;exact this.2
  have d':(i:Int)<2:=by omega
  have hw':aM ((i:Int)+1)=((i+1:Nat):Int):=by rw[ah (by omega) (by omega)];omega
  have hstep:yK S k p (i+1)=eI (yK S k p i) k l:=by
   have:i=0∨i=1:=by omega
   rcases this with rfl|rfl
   ·rw[hl];rfl
   ·rw[hl];rfl
  by_cases l0:l=0
  ·simp[d,d',hidx',l0];rw[l0]at hstep;refine⟨(i+1,H,mb'),by(try dsimp only);omega,⟨by(try dsimp only);omega,?_,hkH,hE,hold,?_⟩,aj.keep (by simp[hw']) rfl⟩
   ·dsimp only;rw[hstep];exact LH
   ·dsimp only;rw[hstep];exact hzs
  ·have hzz:∃zs,lk (yK S k p i) l=some zs∧zs≠[]:=by
    have:i=0∨i=1:=by omega
    rcases this with rfl|rfl
    ·have e:l=p.x:=hl;rw[e]at l0⊢;exact hx l0
    ·have e:l=p.y:=hl;rw[e]at l0⊢;exact hy l0
   obtain⟨zs,hzs1,hzne⟩:=hzz;obtain⟨e,he,⟨sp,e1,e2,e3,e4,e5⟩,e6,e7,e8⟩:=LH.some_b hzs1;have hzl:zs.length≤1000000:=hzs l zs hzs1;have hpos:0<zs.length:=List.length_pos_iff.2 hzne;have hDl:(aU (fun x=>decide (x=k)) zs).length≤zs.length:=iO _ _;have hD:=gM zs hzl 256 [.iptr 1 [[ae k]] 0 0] (fun x=>decide (x=k)) (fun r=>by simp) rfl (fun m=>by simp) (by simp) (fun x _=>GV x k);have he1:e.b<H.length:=(List.getElem?_eq_some_iff.1 e1).1;have hbox:h.length≠e.b:=Nat.ne_of_gt (hold l e he);obtain⟨Z,hZ⟩:∃Z,Z=aU (fun x=>decide (x=k)) zs:=⟨_,rfl⟩;rw[←hZ]at hDl;unfold Gt at hD;rw[←hZ]at hD;obtain⟨X,hX⟩:∃X:List SV,X=(Z++List.replicate (zs.length -Z.length) 0).map (fun z=>SV.pv (.lit (.int .i64 z)))++sp:=⟨_,rfl⟩;have hst:yK S k p (i+1)=pt (yK S k p i) l Z:=by
    rw[hstep];unfold eI;rw[if_neg l0,hzs1,Option.getD_some,hZ]
   have hXc:X=aF Z++((List.replicate (zs.length -Z.length) 0).map (fun z=>SV.pv (.lit (.int .i64 z)))++sp):=by
    rw[hX,List.map_append,List.append_assoc];rfl
   have LN:=LH.setB he Z ((List.replicate (zs.length -Z.length) 0).map (fun z=>SV.pv (.lit (.int .i64 z)))++sp) (fun m=>oC m (e2 m) _) Z.length rfl (by omega) (by simp;omega);rw[←hXc]at LN;simp[d,d',hidx',l0];refine aY.meet Ep ⟨[(0,.pv (.ptr bw 0)),(3,.pv (.ptr h.length 0)),(14,.pv (.agg [ae p.x,ae p.y])),(15,.pv (ae i))],(H.set e.b X).set bw (b9 ba bt ⟨mp,pt mb' l ⟨e.b,Z.length,e.cp⟩,S.late,S.head,S.seen⟩)⟩ (by kernel_rfl) ?_ ?_
   ·simp[Ep,v1,v2,b9,j1,j2,he,Cw];and_intros
    all_goals
     refine ak.introX (dg.introT (b:=e.b) (b2:=h.length) (zs:=zs) (sp:=sp) (cp:=e.cp) hD (by simp) (by simp) rfl (by simp) (by simp[e3]) (by simp) (by simp) e1 hkH hbox hpos hzl ?_);rintro _ _ ⟨rfl,rfl⟩;refine⟨_,_,rfl,rfl,by simp;omega,hDl,?_⟩;rw[←hX];simp[v1,v2,b9,e6,e6.symm,aC];exact aj.keep (by simp) rfl
   ·simp;refine⟨(i+1,_,pt mb' l ⟨e.b,Z.length,e.cp⟩),by(try dsimp only);omega,⟨by(try dsimp only);omega,?_,?_,?_,?_,?_⟩,aj.keep (by simp[hw']) rfl⟩
    ·dsimp only;rw[hst];exact LN
    ·dsimp only;rw[List.getElem?_set_ne (fun q=>kne q.symm),List.getElem?_set_ne (fun q=>hbox q.symm)];exact hkH
    ·dsimp only;refine hE.trans (((Ext.set e.b X (.inr (.inr (.inr ⟨l,e,he,rfl⟩)))).trans (Ext.set bw _ (.inl rfl))).dom ?_);rintro c _ (q|q|q|⟨l',e',q,rfl⟩)
     ·exact .inl q
     ·exact .inr (.inl q)
     ·exact .inr (.inr (.inl q))
     ·rw[bz]at q;split at q
      ·cases q;exact .inr (.inr (.inr ⟨l,e,he,rfl⟩))
      ·exact .inr (.inr (.inr ⟨l',e',q,rfl⟩))
    ·intro l' e' q;dsimp only at q;rw[bz]at q;split at q
     ·cases q;exact hold l e he
     ·exact hold l' e' q
    ·intro l' zs' q;dsimp only at q;rw[hst,bz]at q;split at q
     ·cases q;omega
     ·exact hzs l' zs' q
 ·have:i=2:=by omega
  subst this;obtain⟨p',r1,r2,r3,r4,r5⟩:=LH.pr k b hb;have hpe:p'=p:=by rw[hp]at r1;cases r1;rfl
  subst hpe; obtain ⟨c1, c2⟩ := List.getElem?_eq_some_iff.1 r2; have LF := LH.setP hb ⟨p'.lits, 0, 0⟩ (by
   have:∀(l:List (Int×Pr))(q:Pr),lk l k=some q→(pt l k ⟨p'.lits,0,0⟩).map (·.1)=l.map (·.1):=by
    intro l q hq
    induction l with
    |nil=>cases hq
    |cons u l ih=>
     obtain⟨u1,u2⟩:=u;rw[pt];rw[lk]at hq;split
     ·rename_i e0;simp only[List.map_cons,e0]
     ·rename_i e0;rw[if_neg e0]at hq;simp only[List.map_cons];rw[ih hq]
   exact LH.keys.trans (this _ _ hp).symm)
  have hE2:Ext h (H.set b (nI ⟨p'.lits,0,0⟩)) (aP bw bt mp mb) (aP bw bt mp mb'):=by
   have a1:Ext h G (aP bw bt mp mb) (aP bw bt mp mb):=by rw[hG];exact Ext.app _ _ _
   exact(a1.trans hE).trans (Ext.set b _ (.inr (.inr (.inl ⟨k,hb⟩))))
  simp;refine aY.one Eq (by kernel_rfl) ?_;simp[Eq,v1,v2,b9,j1,j2,c1,c2,nI,iA,hb,tb];exact⟨mb',LF,hE2⟩
def Er:Sch:=
 let s0:Sch:=.fork [(12,.done)]
 let s1:Sch:=.fork [(9,.take 10 (.take 11 s0))]
 let s2:Sch:=.fork [(8,s1)]
 let s3:Sch:=.fork [(6,.take 7 s2)]
 let s4:Sch:=.fork [(4,s1)]
 let s5:Sch:=.fork [(4,s2),(8,s4)]
 let s6:Sch:=.fork [(4,s3),(6,.take 7 s5)]
 let s7:Sch:=.fork [(2,.take 3 s4)]
 let s8:Sch:=.fork [(2,.take 3 s5),(8,s7)]
 let s9:Sch:=.fork [(2,.take 3 s6),(6,.take 7 s8)]
 .take 0 (.take 1 (.take 5 s9))
def uJ:Sch:=
 let s0:Sch:=.fork [(14,.done)]
 let s1:Sch:=.fork [(13,s0)]
 let s2:Sch:=.fork [(12,s1)]
 let s3:Sch:=.fork [(10,s1)]
 let s4:Sch:=.fork [(10,s2),(12,s3)]
 let s5:Sch:=.fork [(8,s3)]
 let s6:Sch:=.fork [(8,s4),(12,s5)]
 let s7:Sch:=.fork [(3,s0)]
 let s8:Sch:=.fork [(3,s1),(13,s7)]
 let s9:Sch:=.fork [(3,s2),(12,s8)]
 let s10:Sch:=.fork [(3,s3),(10,s8)]
 let s11:Sch:=.fork [(3,s4),(10,s9),(12,s10)]
 let s12:Sch:=.fork [(3,s5),(8,s10)]
 let s13:Sch:=.fork [(3,s6),(8,s11),(12,s12)]
 .take 0 (.take 1 (.take 2 (.take 4 (.take 5 (.take 6 (.take 7 (.take 9 (.take 11 s13))))))))
def Ao:Sch:=
 let s0:Sch:=.fork [(9,.done)]
 let s1:Sch:=.fork [(7,s0)]
 let s2:Sch:=.fork [(5,.take 6 s1)]
 let s3:Sch:=.fork [(3,s0)]
 let s4:Sch:=.fork [(3,s1),(7,s3)]
 let s5:Sch:=.fork [(3,s2),(5,.take 6 s4)]
 .take 0 (.take 1 (.take 2 (.take 4 (.take 8 s5))))
def fH(byl:List (Int×List Int))(k l:Int):List (Int×List Int):=pt byl l ((lk byl l).getD []++[k])
def iJ(S:WS)(T:Tr)(k:Int)(p:Pr):WS:=
 if 2≤(d6 T p.lits).length then⟨pt S.prs k ⟨p.lits,(d6 T p.lits).getD 0 0,(d6 T p.lits).getD 1 0⟩,fH (fH S.byl k ((d6 T p.lits).getD 0 0)) k ((d6 T p.lits).getD 1 0),dl S.late k,S.head,S.seen⟩else S
def j0(T:Tr)(k:Int)(p:Pr):Tr:=
 if(d6 T p.lits).length=1∧jS T p.lits=false then jx T ((d6 T p.lits).getD 0 0) k else T
def ll(T:Tr)(p:Pr):Bool:=decide ((d6 T p.lits).length=0)
@[simp] theorem IK:∀(l:List (Int×Int))(k:Int),ij k (aT fI l)=aT fI (dl l k)
 |[],k=>rfl
 |(j,x)::l,k=>by
  show(if j=k then aT fI l else(j,fI x)::ij k (aT fI l))=aT fI (if j=k then l else(j,x)::dl l k);rw[IK l k];split<;>rfl
theorem gT{α:Type}{k:Int}(y:α):∀{l:List (Int×α)}{q:α},lk l k=some q→(pt l k y).map (·.1)=l.map (·.1)
 |[],_,h=>by cases h
 |(u1,u2)::l,q,h=>by
  rw[pt];rw[lk]at h;split
  ·rename_i e0;simp only[List.map_cons,e0]
  ·rename_i e0;rw[if_neg e0]at h;simp only[List.map_cons];rw[gT y h]
theorem fZ(k:Nat):∀n:Nat,cP k (List.replicate n (SV.pv .bot))
 |0=>trivial
 |n+1=>⟨trivial,fZ k n⟩
def oD(byl:List (Int×List Int))(k x y:Int):Nat→List (Int×List Int)
 |0=>byl
 |1=>fH byl k x
 |_=>fH (fH byl k x) k y
set_option maxRecDepth 16000 in
theorem td(h:List (List SV))(bw ba bt:Nat)(mp:List (Int×Nat))(mb:List (Int×By))(A:Ar)(T:Tr)(S:WS)(L:LayW h bw ba bt mp mb A T S)(k:Int)(p:Pr)(hp:lk S.prs k=some p)(hT:T.ok)(hTl:T.lits.length≤1000000)(hl:p.lits.length≤1000000)
 (hz:∀l zs,lk S.byl l=some zs→zs.length≤1000000):
 aE Tryz.prog 233 [.ptr bw 0,ae k] h (fun r h'=>r=.pv (BL (ll T p))∧∃mb',LayW h' bw ba bt mp mb' A (j0 T k p) (iJ S T k p)∧Ext h h' (aP bw bt mp mb) (aP bw bt mp mb')):=by
 refine dh [6,10,14] [.tmp 4] aG Tryz.func233 (by kernel_rfl) rfl rfl (by kernel_rfl) (Nat.le_of_ble_eq_true rfl) ?_;obtain⟨b,hb,q1,q2,q3,q4⟩:=L.some_p hp;have hLk:=El h bw ba bt b ⟨mp,mb,S.late,S.head,S.seen⟩ T p.lits p.x p.y L.w L.t q1 hT hl;obtain⟨w1,w2⟩:=List.getElem?_eq_some_iff.1 L.w;obtain⟨b1,b2⟩:=List.getElem?_eq_some_iff.1 q1;have hol:=tc T p.lits;unfold iJ j0 ll;generalize d6 T p.lits=O at*;generalize jS T p.lits=Hd at*;simp[w1,w2,b9,hb,tb];refine ak.intro hLk (by simp) ?_;rintro _ h2 ⟨e,rfl⟩;rw[e];clear e h2;obtain⟨G,hG⟩:∃G,G=h++[[SV.pv (BL Hd),SV.pv (PV.seq true 1 (af O))]]:=⟨_,rfl⟩;have L0:LayW G bw ba bt mp mb A T S:=by rw[hG];exact L.app _
 have E0:Ext h G (aP bw bt mp mb) (aP bw bt mp mb):=by rw[hG];exact Ext.app _ _ _
 have hf?:G[h.length]?=some [SV.pv (BL Hd),SV.pv (PV.seq true 1 (af O))]:=by rw[hG];simp
 have hb?:G[b]?=some (nI p):=by rw[hG,List.getElem?_append_left b1,q1]
 obtain⟨g1,g2⟩:=List.getElem?_eq_some_iff.1 L0.w;obtain⟨f1,f2⟩:=List.getElem?_eq_some_iff.1 hf?;obtain⟨c1,c2⟩:=List.getElem?_eq_some_iff.1 hb?;have hbf:b≠h.length:=Nat.ne_of_lt b1;have hwf:bw≠h.length:=Nat.ne_of_lt w1;rcases O with _|⟨o0,_|⟨o1,O'⟩⟩
 ·simp;rw[←hG];exact⟨mb,L0,E0⟩
 ·simp;rw[←hG];cases Hd
  ·simp;have kI:=sL G bt T L0.t o0 k hT hTl;refine aY.one Ao (by kernel_rfl) ?_;simp[Ao,g1,g2,b9,f1,f2];and_intros
   all_goals
    refine ak.intro kI (by simp) ?_;rintro _ _ ⟨rfl,rfl⟩;simp;exact⟨mb,L0.setT _,E0.trans (Ext.set bt _ (.inr (.inl rfl)))⟩
  ·simp;exact⟨mb,L0,E0⟩
 ·have hlen:¬((O'.length:Int)+1+1=0):=by omega
  have hlen2:(2:Int)≤(O'.length:Int)+1+1:=by omega
  have hlen3:¬(O'.length+1+1=1):=by omega
  simp[hlen,hlen2,hlen3];rw[←hG];have L1:=L0.setP hb ⟨p.lits,o0,o1⟩ (L0.keys.trans (gT _ hp).symm);have E1:Ext h (G.set b (nI ⟨p.lits,o0,o1⟩)) (aP bw bt mp mb) (aP bw bt mp mb):=E0.trans (Ext.set b _ (.inr (.inr (.inl ⟨k,hb⟩))));have hb1:b<(G.set b (nI ⟨p.lits,o0,o1⟩)).length:=by simpa using c1
  have hb2:(G.set b (nI ⟨p.lits,o0,o1⟩))[b]'hb1=iA p.lits o0 o1:=by simp[nI]
  refine aY.meet Er ⟨[(0,.pv (.ptr bw 0)),(1,.pv (ae k)),(5,.pv (.ptr b 0)),(6,.pv (.ptr h.length 0))],G.set b (nI ⟨p.lits,o0,o1⟩)⟩ (by kernel_rfl) ?_ ?_
  ·simp[Er,f1,f2,c1,c2,nI,iA];and_intros
   all_goals first|omega|exact aj.keep (by simp) rfl
  generalize G.set b (nI ⟨p.lits,o0,o1⟩)=G1 at*;simp[hb1,hb2,iA];refine aH.intro (S:=fun(x:Nat×List (List SV)×List (Int×By))=>⟨[(0,.pv (.ptr bw 0)),(1,.pv (ae k)),(43,.pv (.agg [ae o0,ae o1])),(44,.pv (ae x.1))],x.2.1⟩)
   (fun x=>x.1≤2∧LayW x.2.1 bw ba bt mp x.2.2 A T ⟨pt S.prs k ⟨p.lits,o0,o1⟩,oD S.byl k o0 o1 x.1,S.late,S.head,S.seen⟩∧Ext G1 x.2.1 (aP bw bt mp mb) (aP bw bt mp x.2.2)∧∀l zs,lk (oD S.byl k o0 o1 x.1) l=some zs→zs.length≤1000000+x.1)
   (fun x=>2 -x.1) (0,G1,mb) ?_ ⟨Nat.zero_le _,L1,Ext.refl _ _,hz⟩ ?_
  ·exact aj.keep (by simp) rfl
  rintro⟨i,H,mb'⟩ ⟨hi,LH,hE,hzs⟩;dsimp only at hi LH hE hzs;obtain⟨v1,v2⟩:=List.getElem?_eq_some_iff.1 LH.w
  by_cases d:i<2
  ·obtain⟨l,hl⟩:∃l,l=if i=0 then o0 else o1:=⟨_,rfl⟩;have hidx:[ae o0,ae o1][i]?=some (ae l):=by
    have:i=0∨i=1:=by omega
    rcases this with rfl|rfl
    ·rw[hl];rfl
    ·rw[hl];rfl
   have hidx':∀hh:i<[ae o0,ae o1].length,[ae o0,ae o1][i]'hh=ae l:=fun hh=>(List.getElem?_eq_some_iff.1 hidx).2;have d':(i:Int)<2:=by omega
   have hw':aM ((i:Int)+1)=((i+1:Nat):Int):=by rw[ah (by omega) (by omega)];omega
   have hstep:oD S.byl k o0 o1 (i+1)=fH (oD S.byl k o0 o1 i) k l:=by
    have:i=0∨i=1:=by omega
    rcases this with rfl|rfl
    ·rw[hl];rfl
    ·rw[hl];rfl
   simp[d,d',hidx'];refine aY.blk [60] uJ (fun x:List (List SV)×List (Int×By)=>⟨[(0,.pv (.ptr bw 0)),(1,.pv (ae k)),(43,.pv (.agg [ae o0,ae o1])),(44,.pv (ae i))],x.1⟩)
    (fun x=>LayW x.1 bw ba bt mp x.2 A T ⟨pt S.prs k ⟨p.lits,o0,o1⟩,oD S.byl k o0 o1 (i+1),S.late,S.head,S.seen⟩∧Ext H x.1 (aP bw bt mp mb') (aP bw bt mp x.2)) (by kernel_rfl) ?_ ?_
   ·have hA:∀x,(H++[x])[bw]?=some (b9 ba bt ⟨mp,mb',S.late,S.head,S.seen⟩):=fun x=>by rw[List.getElem?_append_left v1];exact LH.w
    have dom:∀e',(∀c,c<H.length→e'.b=c→∃l0 e0,lk mb' l0=some e0∧e0.b=c)→∀c,c<H.length→aP bw bt mp (pt mb' l e') c→aP bw bt mp mb' c:=fun e' he' c hc q=>by
     rcases q with q|q|q|⟨l',e2,q,q2⟩
     ·exact .inl q
     ·exact .inr (.inl q)
     ·exact .inr (.inr (.inl q))
     ·rw[bz]at q;split at q
      ·cases q;exact .inr (.inr (.inr (he' c hc q2)))
      ·exact .inr (.inr (.inr ⟨l',e2,q,q2⟩))
    cases hlk:lk mb' l with
    |none=>
     have hb0:=LH.byn l hlk;have hst:oD S.byl k o0 o1 (i+1)=pt (oD S.byl k o0 o1 i) l [k]:=by
      rw[hstep];unfold fH;rw[hb0];rfl
     have LN:∀cap,1≤cap→LayW (H.set bw (b9 ba bt ⟨mp,pt mb' l ⟨H.length,1,cap⟩,S.late,S.head,S.seen⟩)++[SV.pv (ae k)::List.replicate (cap -1) (SV.pv .bot)]) bw ba bt mp (pt mb' l ⟨H.length,1,cap⟩) A T ⟨pt S.prs k ⟨p.lits,o0,o1⟩,oD S.byl k o0 o1 (i+1),S.late,S.head,S.seen⟩:=fun cap hc=>by
      have:=LH.newB l [k] (List.replicate (cap -1) (SV.pv .bot)) (fun m=>fZ m _) 1 cap rfl hc (by simp;omega);rw[hst];rw[List.set_append_left _ _ v1]at this;exact this
     have EN:∀cap x y,Ext H (H.set bw x++[y]) (aP bw bt mp mb') (aP bw bt mp (pt mb' l ⟨H.length,1,cap⟩)):=fun cap x y=>by
      refine(((Ext.set bw x (.inl rfl)).trans (Ext.app _ [y] _)).dom (dom _ fun c hc e=>?_));simp only at e;omega
     simp[uJ,v1,v2,b9,hlk,hA];and_intros
     all_goals
      intro cap hc;exact⟨_,⟨pt mb' l ⟨H.length,1,cap⟩,LN cap hc,EN cap _ _⟩,aj.keep (by simp) rfl⟩
    |some e=>
     obtain⟨zs,hz1,⟨sp,e1,e2,e3,e4,e5⟩,e6,e7,e8⟩:=LH.by' l e hlk
     obtain⟨u1,u2⟩:=List.getElem?_eq_some_iff.1 e1;have e6':¬bw=e.b:=fun q=>e6 q.symm;have hst:oD S.byl k o0 o1 (i+1)=pt (oD S.byl k o0 o1 i) l (zs++[k]):=by
      rw[hstep];unfold fH;rw[hz1];rfl
     have hil:(aF zs).length=e.n:=by rw[mW];exact e3
     have hzn:e.n≤1000000+i:=by rw[←e3];exact hzs l zs hz1
     have belD:∀m (s0:List SV),cP m s0→cP m (s0.drop 1):=fun m s0 hs0=>by cases s0 with|nil=>exact hs0|cons _ _=>exact hs0.2
     have hYl:(aF zs++sp).length=e.n+sp.length:=by rw[List.length_append,hil]
     have hT1:(aF zs++sp).take e.n=aF zs:=List.take_left' hil;have hT2:(aF zs++sp).take e.n=(zs.map fun z=>PV.lit (.int .i64 z)).map SV.pv:=by rw[hT1];unfold aF;rw[List.map_map];rfl
     have hcat:∀R:List SV,aF (zs++[k])++R=aF zs++SV.pv (ae k)::R:=fun R=>by unfold aF;rw[List.map_append,List.append_assoc];rfl
     have hD1:(aF zs++sp).drop (e.n+1)=sp.drop 1:=by rw[←hil,List.drop_append];simp
     have LR:e.n+1≤e.cp→LayW ((H.set e.b (List.take e.n (aF zs++sp)++SV.pv (ae k)::List.drop (e.n+1) (aF zs++sp))).set bw (b9 ba bt ⟨mp,pt mb' l ⟨e.b,e.n+1,e.cp⟩,S.late,S.head,S.seen⟩)) bw ba bt mp (pt mb' l ⟨e.b,e.n+1,e.cp⟩) A T ⟨pt S.prs k ⟨p.lits,o0,o1⟩,oD S.byl k o0 o1 (i+1),S.late,S.head,S.seen⟩:=fun hr=>by
      rw[hT1,hD1,←hcat,hst];exact LH.setB hlk (zs++[k]) (sp.drop 1) (fun m=>belD m sp (e2 m)) (e.n+1) (by simp;omega) hr (by rw[List.length_drop];omega)
     have LG:∀cap',e.n+1≤cap'→LayW (H.set bw (b9 ba bt ⟨mp,pt mb' l ⟨H.length,e.n+1,cap'⟩,S.late,S.head,S.seen⟩)++[(zs.map fun z=>PV.lit (.int .i64 z)).map SV.pv++SV.pv (ae k)::List.replicate (cap' -(e.n+1)) (SV.pv .bot)]) bw ba bt mp (pt mb' l ⟨H.length,e.n+1,cap'⟩) A T ⟨pt S.prs k ⟨p.lits,o0,o1⟩,oD S.byl k o0 o1 (i+1),S.late,S.head,S.seen⟩:=fun cap' hc=>by
      have:=LH.newB l (zs++[k]) (List.replicate (cap' -(e.n+1)) (SV.pv .bot)) (fun m=>fZ m _) (e.n+1) cap' (by simp;omega) hc (by simp;omega);rw[hst,←hT2,hT1];rw[List.set_append_left _ _ v1,hcat]at this;exact this
     have ER:∀x y,Ext H ((H.set e.b x).set bw y) (aP bw bt mp mb') (aP bw bt mp (pt mb' l ⟨e.b,e.n+1,e.cp⟩)):=fun x y=>by
      refine(((Ext.set e.b x (.inr (.inr (.inr ⟨l,e,hlk,rfl⟩)))).trans (Ext.set bw y (.inl rfl))).dom (dom _ fun c hc q=>?_));exact⟨l,e,hlk,q⟩
     have EG:∀cap' x y,Ext H (H.set bw x++[y]) (aP bw bt mp mb') (aP bw bt mp (pt mb' l ⟨H.length,e.n+1,cap'⟩)):=fun cap' x y=>by
      refine(((Ext.set bw x (.inl rfl)).trans (Ext.app _ [y] _)).dom (dom _ fun c hc q=>?_));simp only at q;omega
     clear hT1 hD1 hcat;generalize hY:aF zs++sp=Y at*;simp[uJ,v1,v2,b9,hlk,Cw,u1,u2,hA,e6,e6'];and_intros
     all_goals first
      |omega
      |(refine⟨_,hT2,by simpa using e3,fun hr=>⟨_,⟨_,LR hr,ER _ _⟩,aj.keep (by simp) rfl⟩,fun hn cap' hc=>⟨_,⟨_,LG cap' hc,EG cap' _ _⟩,aj.keep (by simp) rfl⟩⟩)
   ·rintro⟨H2,mb2⟩ ⟨LN,EN⟩;simp;refine⟨(i+1,H2,mb2),by(try dsimp only);omega,⟨by(try dsimp only);omega,LN,hE.trans EN,fun l' zs' q=>?_⟩,aj.keep (by simp[hw']) rfl⟩;dsimp only at q⊢;rw[hstep]at q;unfold fH at q;rw[bz]at q;split at q
    ·cases q
     rw[List.length_append,List.length_singleton];cases hq:lk (oD S.byl k o0 o1 i) l with
     |none=>simp only[Option.getD_none,List.length_nil];omega
     |some z0=>have:=hzs l z0 hq;simp only[Option.getD_some];omega
    ·have:=hzs l' zs' q;omega
  ·have:i=2:=by omega
   subst this;simp[v1,v2,b9];exact⟨mb',LH.setW (dl S.late k) S.head S.seen,(E1.trans hE).trans (Ext.set bw _ (.inl rfl))⟩
end Go.AX