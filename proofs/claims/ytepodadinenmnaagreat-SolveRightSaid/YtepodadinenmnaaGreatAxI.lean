/-
  AX, part A: what a state of a walk is, said of plain data; what it says of the machine's state; and what follows.
-/
import Derived.WalkKit
import Derived.MapKept
import Derived.ChangeKeysEq
import Derived.WalkSpells
namespace Go.AX
set_option linter.defProp false
def SG:=@List.getElem?_eq_some_iff
def SH:=@List.getElem?_eq_getElem
def SI:=@List.getD_eq_getElem?_getD
def SM:=@if_neg
def SN:=@if_pos
def SO:=@List.getElem?_append_left
def SQ:=@Nat.le_refl
def SR:=@Array.getElem?_toList
def SS:=@List.getElem_mem
def SU:=@List.length_take
def SX:=@List.length_append
def SY:=@List.mem_map
def SZ:=@List.length_map
def S4:=@Bool.and_eq_true
def S5:=@Array.getElem?_eq_some_iff
def S6:=@List.getElem_of_mem
def S7:=@List.mem_append
def S8:=@Array.getD_eq_getD_getElem?
def S9:=@decide_eq_true_eq
def Ta:=@Array.getElem?_eq_getElem
def Tc:=@List.getElem?_set_ne
def Td:=@List.getElem?_append_right
def Te:=@Nat.zero_le
def Tf:=@List.mem_cons_of_mem
def Tg:=@List.getElem?_map
def Th:=@List.map_cons
def Ti:=@List.length_set
def Tj:=@List.mem_cons_self
def Tk:=@Option.map_eq_some_iff
def Tl:=@Classical.byContradiction
def Tm:=@List.take_of_length_le
def Tn:=@List.append_assoc
def To:=@List.length_cons
def Tp:=@List.mem_cons
def Tq:=@List.drop_eq_nil_of_le
def Ts:=@List.getElem?_set
def Tt:=@List.mem_singleton
def Tu:=@List.getElem?_set_self
def Tv:=@List.pairwise_iff_getElem
def Tw:=@List.take_length
def Tx:=@Option.getD_some
def Ty:=@List.getElem?_eq_none
def Tz:=@List.nil_append
def TA:=@List.map_append
def TB:=@List.getElem_append_left
def TC:=@Option.some.injEq
def TD:=@Nat.le_trans
def TE:=@List.mem_filter
def TF:=@List.length_drop
def TG:=@List.all_eq_true
def TH:=@List.cons_append
def TI:=@Array.length_toList
def TJ:=@List.drop_eq_getElem_cons
def TL:=@List.mem_of_mem_take
def TM:=@Bool.false_eq_true
def TN:=@Bool.not_eq_true'
def TO:=@Option.map_some
def TP:=@Nat.zero_add
def TQ:=@List.filter_cons
def TR:=@List.getElem?_take
def TT:=@List.map_map
def TU:=@List.getElem?_cons_zero
def TV:=@List.take_append_of_le_length
def TW:=@List.size_toArray
def TX:=@Array.getElem?_setIfInBounds
def TY:=@List.take_append_drop
def TZ:=@List.length_singleton
def T4:=@List.take_add_one
def T5:=@List.getElem?_drop
def T6:=@Nat.le_of_ble_eq_true
def T7:=@List.ext_getElem?
def T8:=@List.take_succ_eq_append_getElem
def T9:=@List.length_mergeSort
def Ua:=@List.getElem_take
def Ub:=@Int.toNat_natCast
def Uc:=@Nat.lt_of_lt_of_le
def Ud:=@Nat.min_eq_left
def Ue:=@List.drop_drop
def Uf:=@List.mem_range
def Ug:=@List.mem_take_iff_getElem
def Uh:=@List.length_eq_zero_iff
def Ui:=@List.append_nil
def Uj:=@Bool.or_eq_true
def Uk:=@Int.eq_ofNat_of_zero_le
def Ul:=@List.mem_of_getElem?
def Um:=@List.mem_append_left
def Un:=@List.drop_append_of_le_length
def Uo:=@if_false
def Up:=@List.length_pos_iff
def Uq:=@decide_eq_true
def Ur:=@Array.ext'
def Us:=@decide_eq_false_iff_not
def Ut:=@Array.getElem?_modify
def Uu:=@Nat.le_of_not_lt
def Uv:=@List.filter_append
def Uw:=@List.filter_eq_self
def Ux:=@Prod.mk.injEq
def Uy:=@Array.getElem?_eq_none
def Uz:=@List.filter_eq_nil_iff
def UA:=@Array.getElem?_replicate
def UB:=@Nat.lt_trichotomy
def UC:=@List.pairwise_map
def UD:=@List.mem_iff_getElem?
def UE:=@List.nodup_cons
def UF:=@List.findIdx?_eq_some_iff_getElem
def UG:=@Option.toList_some
def UH:=@decide_eq_false
def UI:=@Nat.mul_le_mul_right
def UJ:=@List.any_eq_false
def UK:=@Nat.succ_mul
def UL:=@List.map_nil
def UM:=@List.length_filter_le
def UN:=@Nat.add_assoc
def UO:=@if_true
def UP:=@List.getD_cons_zero
def UQ:=@List.mem_map_of_mem
def UR:=@List.take_left'
def US:=@List.eq_nil_of_length_eq_zero
def UT:=@Array.size_modify
def UU:=@List.mem_or_eq_of_mem_set
def UV:=@List.mem_of_mem_drop
def UW:=@Nat.sub_self
def UX:=@Nat.le_succ
def UY:=@List.mem_append_right
def UZ:=@Int.neg_neg
def U0:=@List.any_eq_true
def U1:=@Bool.false_and
def U2:=@List.getElem?_cons_succ
def U3:=@List.map_take
def U4:=@Nat.add_sub_cancel_left
def U5:=@Array.getElem?_append_left
def U6:=@Array.toArray_toList
def U7:=@List.map_replicate
def U8:=@List.length_eq_one_iff
def U9:=@List.cons.injEq
def Va:=@Nat.not_lt_zero
def Vb:=@List.map_congr_left
def Vc:=@Int.le_refl
def Vd:=@List.mergeSort_perm
def Ve:=@List.getD_cons_succ
def Vf:=@getElem!_pos
def Vg:=@List.set_getElem_self
def Vh:=@List.getElem?_take_of_lt
def Vi:=@List.take_sublist
def Vj:=@List.set_append_right
def Vk:=@congrArg
def Vl:=@Option.map_none
def Vm:=@List.pairwise_cons
def Vn:=@Nat.eq_zero_or_pos
def Vo:=@List.set_append_left
def Vp:=@List.getElem_cons_zero
def Vq:=@Ne.symm
def Vr:=@List.findIdx?_eq_none_iff
def Vs:=@Bool.true_and
def Vt:=@List.getElem_append_right
def Vu:=@List.length_replicate
def Vv:=@List.eq_of_mem_replicate
def Vw:=@Nat.add_sub_cancel
def Vx:=@List.ext_getElem
def Vy:=@Option.bind_some
def Vz:=@List.pairwise_append
def VA:=@Nat.add_zero
def VB:=@List.drop_length_add_append
def VC:=@Option.some.inj
def VD:=@List.filter_sublist
def VE:=@List.getElem_cons_succ
def VF:=@Nat.lt_of_not_le
def VG:=@Nat.lt_succ_self
def VH:=@List.countP_cons
def VI:=@List.set_eq_take_append_cons_drop
def VJ:=@List.contains_iff_mem
def VK:=@Bool.or_eq_false_iff
def VL:=@Array.replicate_succ
def VM:=@Array.replicate_zero
def VN:=@Option.isSome_iff_exists
def VO:=@List.flatten_cons
def VP:=@Array.getElem_mem_toList
def VQ:=@Array.size_append
def VR:=@Function.comp_def
def VS:=@List.take_append_getElem
def VT:=@List.range_succ
def VU:=@List.nodup_append
def VV:=@List.eq_nil_iff_forall_not_mem
def VW:=@Nat.ne_of_gt
def VX:=@Bool.false_or
def VY:=@List.map_drop
def VZ:=@List.append_toArray
def V0:=@List.drop_set_of_lt
def V1:=@List.flatMap_append
def V2:=@Array.toList_map
def V3:=@List.map_toArray
def V4:=@Bool.not_eq_true
def V5:=@List.mem_eraseIdx_iff_getElem
def V6:=@List.drop_zero
def V7:=@List.Perm.refl
def V8:=@List.foldl_cons
def V9:=@Nat.zero_mul
def Wa:=@List.take_length_add_append
def Wb:=@List.set_set
def Wc:=@Array.getElem?_append
def Wd:=@Nat.zero_lt_one
def We:=@Array.getElem?_mapIdx
def Wf:=@List.getElem_set_self
def Wg:=@List.push_toArray
def Wh:=@List.foldl_append
def Wi:=@Nat.lt_succ_of_lt
def Wj:=@Array.toList_setIfInBounds
def Wk:=@Int.tdiv_eq_ediv_of_nonneg
def Wl:=@List.mem_drop_iff_getElem
def Wm:=@beq_self_eq_true
def Wn:=@List.take_prefix
def Wo:=@Nat.mod_eq_of_lt
def Wp:=@List.map_reverse
def Wq:=@List.mem_reverse
def Wr:=@Nat.mul_one
def Ws:=@List.flatten_append
def Wu:=@List.replicate_succ
def Wv:=@List.take_set_of_le
def Ww:=@List.toList_toArray
def Wx:=@List.getElem_set_ne
def Wy:=@List.take_succ_cons
def Wz:=@Int.lt_or_le
def WA:=@decide_eq_true_iff
def WB:=@List.drop_left'
def WC:=@Nat.le_mul_of_pos_right
def WD:=@List.set_cons_zero
def WE:=@List.pairwise_mergeSort
def WF:=@Array.all_eq_true_iff_forall_mem
def WG:=@Int.not_lt
def WH:=@beq_iff_eq
def WI:=@Nat.add_mul
def WJ:=@Array.getElem?_setIfInBounds_ne
def WK:=@List.flatMap_cons
def WL:=@List.take_zero
def WM:=@Nat.add_comm
def WN:=@List.getElem?_toArray
def WO:=@List.map_set
def WP:=@Nat.sub_zero
def WQ:=@List.getElem_map
def WR:=@Nat.min_le_right
def WT:=@List.drop_append
def WU:=@List.prefix_refl
def WV:=@List.mem_iff_getElem
def WW:=@Array.mem_toList_iff
def WX:=@Bool.or_false
def WY:=@Int.toNat_of_nonneg
def WZ:=@Nat.mul_le_mul_left
def W5:=@Array.toList_append
def W6:=@List.map_eq_nil_iff
def W7:=@List.filter_nil
def W8:=@List.countP_pos_iff
def W9:=@List.countP_eq_zero
def Xa:=@Int.fdiv_eq_ediv_of_nonneg
def Xb:=@Nat.ne_of_lt
def Xc:=@List.getElem_range
def Xd:=@Bool.true_or
def Xe:=@Bool.or_true
def Xf:=@List.getLastD_eq_getLast?
def Xg:=@List.set_eq_of_length_le
def Xh:=@List.Sublist.refl
def Xi:=@Classical.not_not
def Xj:=@of_decide_eq_true
def Xk:=@List.length_range
def Xl:=@List.filter_congr
def Xm:=@List.getElem?_replicate
def Xn:=@List.map_flatten
def Xo:=@List.isEmpty_iff
def Xp:=@decide_eq_decide
def Xq:=@List.not_mem_nil
def Xr:=@List.getElem_set
def Xs:=@List.sum_replicate_nat
def Xt:=@List.drop_of_length_le
def Xu:=@Bool.eq_iff_iff
def Xv:=@Classical.choose_spec
def Xw:=@Nat.le_antisymm
def Xx:=@List.countP_eq_length
def Xy:=@Nat.pow_succ
def Xz:=@Array.toList_extract
def XA:=@List.replicate_succ'
def XB:=@List.dropLast_subset
def XC:=@BitVec.ofInt_natCast
def XD:=@Nat.pow_le_pow_right
def XE:=@List.take_take
def XF:=@not_or
def XG:=@List.nodup_nil
def XI:=@List.getElem?_range
def XJ:=@List.length_flatten
def XK:=@List.filterMap_cons
def XL:=@Nat.mod_lt
def XM:=@Nat.lt_or_ge
def XN:=@true_and
def XO:=@and_true
def XP:=@List.map_id
def XQ:=@Prod.mk.inj
inductive PV where
  |bot
  |lit (v:Value)
  |agg (xs:List PV)
  |tup (xs:List PV)
  |seq (nw:Bool) (e:Nat) (rows:List (List PV))
  |iptr (e:Nat) (rows:List (List PV)) (i k:Nat)
  |ptr (b off:Nat)
  |bsl (b e off n cap:Nat)
  |fn (f:Fn) (first cap:List PV)
  |amap (nw:Bool) (es:List (Int×PV))
  |ifc (t:TypeId) (x:PV)
inductive Pos where
  |slot (s:Nat)
  |cell (b k:Nat)
  deriving DecidableEq
inductive SV where
  |pv (x:PV)
  |own (nw:Bool) (e:Nat) (rows:List (List PV))
  |omap (nw:Bool) (es:List (Int×PV))
  |al (p:Pos)
  |loc (p:Pos) (lo hi:Nat)
  |sptr (p:Pos) (i k:Nat)
  |agl (xs:List (PV×Option Pos))
  |opt (c:Prop) (x:SV)
structure St where
  t:List (Nat×SV)
  h:List (List SV)
def bT(w:World):Os×(Nat->Question->Nat)×Array (Nat×ByteArray):=(w.os,w.tape,w.output)
structure Gh where
  I:Nat->Option Obj
  F:Nat->Option Obj
  B:Nat
  μ:Nat->Nat
  n:Nat
  n0:Nat
  N:Nat
  env:Os×(Nat->Question->Nat)×Array (Nat×ByteArray)
mutual
def Fit(g:Gh):PV->Value->Prop
  |.bot,_=>True
  |.lit x,v=>v=x
  |.agg xs,v=>∃vs:Array Value,v=.agg vs∧aj g xs vs.toList
  |.tup xs,v=>∃vs:Array Value,v=.tuple vs∧aj g xs vs.toList
  |.seq nw e rows,v=>∃p cap,v=.slice p rows.length cap∧rows.length<=cap∧(rows=[]∨∃c off arr T fz vs,p=some ⟨c,off,none⟩∧g.I c=some (.cells arr T fz)∧(nw=true->g.B<=c)∧av g e rows vs∧vs<+:arr.toList.drop off)
  |.iptr e rows i k,v=>∃c off arr T fz vs,v=.pointer (some ⟨c,off+i*e+k,none⟩)∧g.I c=some (.cells arr T fz)∧av g e rows vs∧vs<+:arr.toList.drop off
  |.ptr b off,v=>b<g.n∧v=.pointer (some ⟨g.μ b,off,none⟩)
  |.bsl b _ off n cap,v=>b<g.n∧n<=cap∧v=.slice (some ⟨g.μ b,off,none⟩) n cap
  |.fn f first cap,v=>∃a b:Array Value,v=.func f a b∧aj g first a.toList∧aj g cap b.toList
  |.amap nw es,v=>∃r entries clock,v=.map (some r)∧g.I r=some (.map entries clock)∧(nw=true->g.B<=r)∧bG g es entries.toList∧MapKept.Stamped entries clock
  |.ifc t x,v=>∃y,v=.iface t y∧Fit g x y
def aj(g:Gh):List PV->List Value->Prop
  |[],vs=>vs=[]
  |x::xs,vs=>∃v r,vs=v::r∧Fit g x v∧aj g xs r
def av(g:Gh)(e:Nat):List (List PV)->List Value->Prop
  |[],vs=>vs=[]
  |row::rows,vs=>∃v1 v2,vs=v1++v2∧(row.length=e∧∀v∈v1,v.oneCell'=true)∧aj g row v1∧av g e rows v2
def bG(g:Gh):List (Int×PV)->List MapEntry->Prop
  |[],es=>es=[]
  |(k,x)::xs,es=>∃m r,es=m::r∧m.key=.int .i64 k∧Fit g x m.val∧bG g xs r
end
structure Gh.le (g g':Gh):Prop where
  I:∀c o,g.I c=some o->g'.I c=some o
  B:g'.B<=g.B
  n:g.n<=g'.n
  μ:∀b,b<g.n->g'.μ b=g.μ b
theorem Gh.le.refl(g:Gh):g.le g:=⟨λ_ _ h=>h,SQ _,SQ _,λ_ _=>rfl⟩
mutual
theorem Fit.mono{g g':Gh}(hl:g.le g'):∀(x:PV)(v:Value),Fit g x v->Fit g' x v
  |.bot,_,_=>trivial
  |.lit _,_,h=>h
  |.agg xs,v,⟨vs,h1,h2⟩=>⟨vs,h1,aj.mono hl xs _ h2⟩
  |.tup xs,v,⟨vs,h1,h2⟩=>⟨vs,h1,aj.mono hl xs _ h2⟩
  |.seq nw e rows,v,⟨p,cap,h1,hc,h2⟩=>⟨p,cap,h1,hc,h2.imp id λ⟨c,off,arr,T,fz,vs,a,b,n,r,q⟩=>⟨c,off,arr,T,fz,vs,a,hl.I _ _ b,λhn=>TD hl.B (n hn),av.mono hl e rows vs r,q⟩⟩
  |.iptr e rows i k,v,⟨c,off,arr,T,fz,vs,a,b,r,q⟩=>⟨c,off,arr,T,fz,vs,a,hl.I _ _ b,av.mono hl e rows vs r,q⟩
  |.ptr b off,v,⟨h1,h2⟩=>⟨Uc h1 hl.n,by rw[hl.μ b h1];exact h2⟩
  |.bsl b _ off _ _,v,⟨h1,h2⟩=>⟨Uc h1 hl.n,by rw[hl.μ b h1];exact h2⟩
  |.fn f first cap,v,⟨a,b,h1,h2,h3⟩=>⟨a,b,h1,aj.mono hl first _ h2,aj.mono hl cap _ h3⟩
  |.amap nw es,v,⟨r,en,ck,a,b,n,q⟩=>⟨r,en,ck,a,hl.I _ _ b,λhn=>TD hl.B (n hn),bG.mono hl es _ q.1,q.2⟩
  |.ifc t x,v,⟨y,h1,h2⟩=>⟨y,h1,Fit.mono hl x y h2⟩
theorem aj.mono{g g':Gh}(hl:g.le g'):∀(xs:List PV)(vs:List Value),aj g xs vs->aj g' xs vs
  |[],_,h=>h
  |x::xs,vs,⟨v,r,h1,h2,h3⟩=>⟨v,r,h1,Fit.mono hl x v h2,aj.mono hl xs r h3⟩
theorem av.mono{g g':Gh}(hl:g.le g')(e:Nat):∀(rows:List (List PV))(vs:List Value),av g e rows vs->av g' e rows vs
  |[],_,h=>h
  |row::rows,vs,⟨v1,v2,h1,h2,h3,h4⟩=>⟨v1,v2,h1,h2,aj.mono hl row v1 h3,av.mono hl e rows v2 h4⟩
theorem bG.mono{g g':Gh}(hl:g.le g'):∀(es:List (Int×PV))(en:List MapEntry),bG g es en->bG g' es en
  |[],_,h=>h
  |(k,x)::es,en,⟨m,r,h1,h2,h3,h4⟩=>⟨m,r,h1,h2,Fit.mono hl x m.val h3,bG.mono hl es r h4⟩
end
theorem aj.length{g:Gh}:∀{xs:List PV}{vs:List Value},aj g xs vs->vs.length=xs.length
 |[],_,h=>by simp only[aj]at h;simp[h]
 |_::_,_,⟨_,_,h1,_,a⟩=>by simp[h1,aj.length a]
theorem aj.get{g:Gh}:∀{xs:List PV}{vs:List Value}(_:aj g xs vs)(i:Nat)(x:PV),xs[i]?=some x->∃v,vs[i]?=some v∧Fit g x v
 |[],_,_,i,x,h=>by simp at h
 |y::xs,_,⟨v,r,h1,a,b⟩,0,x,h=>by simp at h;subst h;exact⟨v,by simp[h1],a⟩
 |y::xs,_,⟨v,r,h1,a,b⟩,i+1,x,h=>by
  simp at h;obtain⟨e,c,d⟩:=aj.get b i x h;exact⟨e,by simp[h1,c],d⟩
theorem aj.append{g:Gh}:∀{xs ys:List PV}{vs a:List Value},aj g xs vs->aj g ys a->aj g (xs++ys) (vs++a)
 |[],_,_,_,h,h'=>by simp only[aj]at h;subst h;exact h'
 |_::_,_,_,_,⟨v,r,h1,b,c⟩,h'=>⟨v,_,by simp[h1],b,aj.append c h'⟩
theorem aj.split{g:Gh}:∀{xs ys:List PV}{vs:List Value},aj g (xs++ys) vs->∃c d,vs=c++d∧aj g xs c∧aj g ys d
 |[],_,vs,h=>⟨[],vs,rfl,rfl,h⟩
 |_::_,_,_,⟨v,r,h1,f,i⟩=>by
  obtain⟨c,d,e,a,b⟩:=aj.split i;exact⟨v::c,d,by simp[h1,e],⟨v,c,rfl,f,a⟩,b⟩
theorem av.length{g:Gh}{e:Nat}:∀{rows:List (List PV)}{vs:List Value},av g e rows vs->vs.length=rows.length*e
 |[],_,h=>by simp only[av]at h;simp[h]
 |row::rows,_,⟨d,f,h1,a,b,c⟩=>by
  rw[h1,SX,b.length,a.1,av.length c,To,UK];omega
theorem av.get{g:Gh}{e:Nat}:∀{rows:List (List PV)}{vs:List Value}(_:av g e rows vs)(i:Nat)(row:List PV),rows[i]?=some row->
 row.length=e∧∃a b c,vs=a++b++c∧a.length=i*e∧aj g row b
 |[],_,_,i,row,h=>by simp at h
 |q::rows,_,⟨j,l,h1,d,f,k⟩,0,row,h=>by
  simp at h;subst h;exact⟨d.1,[],j,l,by simp[h1],by simp,f⟩
 |q::rows,_,⟨j,l,h1,d,f,k⟩,i+1,row,h=>by
  simp at h;obtain⟨p,a,b,c,m,n,o⟩:=av.get k i row h;exact⟨p,j++a,b,c,by simp[h1,m],by rw[SX,f.length,d.1,n,UK];omega,o⟩
theorem av.append{g:Gh}{e:Nat}:∀{xs ys:List (List PV)}{vs a:List Value},av g e xs vs->av g e ys a->av g e (xs++ys) (vs++a)
 |[],_,_,_,h,h'=>by simp only[av]at h;subst h;exact h'
 |_::_,_,_,_,⟨f,i,h1,b,c,d⟩,h'=>⟨f,_,by simp[h1],b,c,av.append d h'⟩
theorem av.split{g:Gh}{e:Nat}:∀{xs ys:List (List PV)}{vs:List Value},av g e (xs++ys) vs->∃c d,vs=c++d∧av g e xs c∧av g e ys d
 |[],_,vs,h=>⟨[],vs,rfl,rfl,h⟩
 |_::_,_,_,⟨c,d,h1,j,k,l⟩=>by
  obtain⟨f,m,i,a,b⟩:=av.split l;exact⟨c++f,m,by simp[h1,i],⟨c,f,rfl,j,k,a⟩,b⟩
theorem av.one{g:Gh}{e:Nat}:∀{rows:List (List PV)}{vs:List Value},av g e rows vs->∀v∈vs,v.oneCell'=true
 |[],_,h=>by simp only[av]at h;subst h;simp
 |_::_,_,⟨d,f,h1,b,_,c⟩=>by
  subst h1;intro v a;rcases S7.1 a with a|a
  .exact b.2 v a
  .exact av.one c v a
theorem sD{xs ys:List Value}{k:Nat}(h:∀v∈xs,v.oneCell'=true)(h':∀v∈ys,v.oneCell'=true)(n:Nat):∀v∈xs.take k++ys++xs.drop n,v.oneCell'=true:=by
 intro v a;simp only[S7]at a;rcases a with(a|a)|a
 .exact h v (TL a)
 .exact h' v a
 .exact h v (UV a)
theorem dM{xs ys:List Value}(h:∀v∈xs,v.oneCell'=true)(h':∀v∈ys,v.oneCell'=true):∀v∈xs++ys,v.oneCell'=true:=λv a=>(S7.1 a).elim (h v) (h' v)
theorem bG.length{g:Gh}:∀{es:List (Int×PV)}{en:List MapEntry},bG g es en->en.length=es.length
 |[],_,h=>by simp only[bG]at h;simp[h]
 |_::_,_,⟨_,_,h1,_,_,a⟩=>by simp[h1,bG.length a]
/-! ### Slots -/
def look:List (Nat×SV)->Nat->SV
 |[],_=>.pv .bot
 |(j,v)::r,k=>if j=k then v else look r k
def aa(st:St):Pos->SV
 |.slot s=>look st.t s
 |.cell b k=>(st.h.getD b []).getD k (.pv .bot)
def O3(g:Gh)(w:World)(nw:Bool)(e:Nat)(rows:List (List PV))(v:Value)(c:Nat):Prop:=
 ∃cap arr T vs,v=.slice (some ⟨c,0,none⟩) rows.length cap∧w.heap[c]?=some (.cells arr T (0,0))∧arr.size=cap*e∧(rows.length<=cap∧cap<=maxLen∧∀v∈arr.toList,v.oneCell'=true)∧av g e rows vs∧vs<+:arr.toList∧(nw=true->g.B<=c)
def O4(g:Gh)(w:World)(nw:Bool)(es:List (Int×PV))(v:Value)(c:Nat):Prop:=
 ∃a b,v=.map (some c)∧w.heap[c]?=some (.map a b)∧bG g es a.toList∧(nw=true->g.B<=c)∧MapKept.Stamped a b
def az(g:Gh)(w:World):SV->Value->Option Nat->Prop
 |.pv x,v,bl=>bl=none∧Fit g x v
 |.own nw e rows,v,bl=>(bl=none∧rows=[]∧v=.slice none 0 0)∨∃c,bl=some c∧O3 g w nw e rows v c
 |.omap nw es,v,bl=>∃c,bl=some c∧O4 g w nw es v c
 |.opt c x,v,bl=>bl=none∧(¬c->v=undef)∧(c->az g w x v none)
 |.al _,_,bl=>bl=none
 |.loc _ _ _,_,bl=>bl=none
 |.sptr _ _ _,_,bl=>bl=none
 |.agl xs,v,bl=>bl=none∧∃vs:Array Value,v=.agg vs∧aj g (xs.map (·.1)) vs.toList
def SV.isOwn:SV->Bool
 |.own .. =>true
 |.omap .. =>true
 |_=>false
def SV.inCell:SV->Bool
 |.pv _=>true
 |.own .. =>true
 |.omap .. =>true
 |_=>false
def an(g:Gh)(a:Act)(w:World):Pos->Value
 |.slot s=>a.tmps.getD s undef
 |.cell b k=>match w.heap[g.μ b]?with
  |some (.cells arr _ _)=>arr.getD k undef
  |_=>undef
def bX(g:Gh)(st:St)(a:Act)(w:World):SV->Value->Prop
 |.al p,v=>(aa st p).isOwn=true->v=an g a w p
 |.loc p lo hi,v=>∀nw e rows,aa st p=.own nw e rows->lo<=hi∧hi<=rows.length∧∃q cap,v=.slice q (hi -lo) cap∧hi -lo<=cap∧(lo=hi∨∃c n cp,an g a w p=.slice (some ⟨c,0,none⟩) n cp∧q=some ⟨c,lo*e,none⟩)∧(lo=0->∃n0,an g a w p=.slice q n0 cap)
 |.sptr p i k,v=>∀nw e rows,aa st p=.own nw e rows->∃c n cp,an g a w p=.slice (some ⟨c,0,none⟩) n cp∧v=.pointer (some ⟨c,i*e+k,none⟩)
 |.agl xs,v=>∀(k:Nat)(x:PV)(p:Pos),xs[k]?=some (x,some p)->(aa st p).isOwn=true->∃vs:Array Value,v=.agg vs∧vs[k]?=some (an g a w p)
 |.opt c x,v=>c->bX g st a w x v
 |_,_=>True
structure Owns (g:Gh) (st:St) (a:Act) (w:World) (bl:Pos->Option Nat):Prop where
  slots:∀s,az g w (look st.t s) (a.tmps.getD s undef) (bl (.slot s))
  blocks:∀b xs,st.h[b]?=some xs->∃arr T,w.heap[g.μ b]?=some (.cells arr T (0,0))∧(arr.size=xs.length∧∀v∈arr.toList,v.oneCell'=true)∧
    ∀k x,xs[k]?=some x->x.inCell=true∧az g w x (arr.getD k undef) (bl (.cell b k))
  inj:∀p q c,bl p=some c->bl q=some c->p=q
  free:∀p c,bl p=some c->g.I c=none∧g.F c=none∧c<w.heap.size∧∀b,b<g.n->g.μ b≠c
structure Sim (g:Gh) (st:St) (a:Act) (w:World):Prop where
  size:a.tmps.size=g.N
  defs:a.defers=[]
  env:bT w=g.env
  n:g.n=st.h.length
  n0:g.n0<=g.n
  B:g.B<=w.heap.size
  I:∀c o,g.I c=some o->w.heap[c]?=some o
  F:∀c o,g.F c=some o->w.heap[c]?=some o
  μI:∀b,b<g.n->g.I (g.μ b)=none∧g.F (g.μ b)=none
  μinj:∀b b',b<g.n->b'<g.n->g.μ b=g.μ b'->b=b'
  own:∃bl,Owns g st a w bl
  al:∀s,bX g st a w (look st.t s) (a.tmps.getD s undef)
structure Gh.to (g g':Gh):Prop where
  I:∀c o,g.I c=some o->g'.I c=some o
  F:g'.F=g.F
  B:g'.B=g.B
  n0:g'.n0=g.n0
  N:g'.N=g.N
  env:g'.env=g.env
  n:g.n0<=g'.n
  μ:∀b,b<g.n0->g'.μ b=g.μ b
  FI:∀c,g.F c≠none->g.I c=none->g'.I c=none
theorem Gh.to.trans{a b c:Gh}(h:a.to b)(h':b.to c):a.to c:=
  ⟨λk o x=>h'.I _ _ (h.I _ _ x),h'.F.trans h.F,h'.B.trans h.B,h'.n0.trans h.n0,h'.N.trans h.N,h'.env.trans h.env,by have:=h'.n;rw[h.n0]at this;exact this,
   λb e=>by rw[h'.μ b (by rw[h.n0];exact e),h.μ b e],λc d f=>h'.FI c (by rw[h.F];exact d) (h.FI c d f)⟩
end Go.AX
namespace Go.AX
def ev(st:St):Operand->SV
 |.tmp k=>look st.t k
 |.const v=>.pv (.lit v)
 |.func f=>.pv (.lit (.func (.func f) #[] #[]))
 |.global _=>.pv .bot
def RX(x:Operand):SV->SV
 |.own _ _ _=>match x with|.tmp s=>.al (.slot s)|_=>.pv .bot
 |.omap _ _=>match x with|.tmp s=>.al (.slot s)|_=>.pv .bot
 |.opt _ y=>y
 |.pv p=>.pv p
 |.al p=>.al p
 |.loc p i k=>.loc p i k
 |.sptr p i k=>.sptr p i k
 |.agl xs=>.agl xs
def mv(st:St)(x:Operand):SV:=RX x (ev st x)
def RY:SV->Prop
 |.opt c _=>c
 |.own _ _ _=>True
 |.omap _ _=>True
 |.pv _=>True
 |.al _=>True
 |.loc _ _ _=>True
 |.sptr _ _ _=>True
 |.agl _=>True
def gc(st:St)(x:Operand):Prop:=RY (ev st x)
theorem Sim.slot{g:Gh}{st:St}{a:Act}{w:World}(h:Sim g st a w)(k:Nat):∃b,az g w (look st.t k) (a.tmps.getD k undef) b:=by
 obtain⟨bl,c⟩:=h.own;exact⟨_,c.slots k⟩
theorem aO{g:Gh}{st:St}{a:Act}{w:World}(h:Sim g st a w)(x:Operand)(m:gc st x):
 az g w (mv st x) (a.eval x) none∧bX g st a w (mv st x) (a.eval x):=by
 cases x with
 |const v=>exact⟨⟨rfl,rfl⟩,trivial⟩
 |func f=>exact⟨⟨rfl,rfl⟩,trivial⟩
 |global n=>exact⟨⟨rfl,trivial⟩,trivial⟩
 |tmp k=>
  obtain⟨b,hs⟩:=h.slot k;have d:=h.al k;simp only[mv,ev,Act.eval,gc]at*;cases l:look st.t k with
  |pv p=>rw[l]at hs d;obtain⟨rfl,o⟩:=hs;exact⟨⟨rfl,o⟩,trivial⟩
  |own nw e rows=>rw[l]at hs;exact⟨rfl,λ_=>rfl⟩
  |omap nw es=>rw[l]at hs;exact⟨rfl,λ_=>rfl⟩
  |al p=>rw[l]at hs d;exact⟨rfl,d⟩
  |loc p i j=>rw[l]at hs d;exact⟨rfl,d⟩
  |sptr p i j=>rw[l]at hs d;exact⟨rfl,d⟩
  |agl xs=>rw[l]at hs d;exact⟨⟨rfl,hs.2⟩,d⟩
  |opt c y=>rw[l]at hs d m;exact⟨hs.2.2 m,d m⟩
def KU(P:Program)(st:St)(o:Oper)(r:SV×Prop):Prop:=
 ∀g a w,Sim g st a w->r.2->∃v,(execOp a.eval o).run P w=.ok (.value v) w∧az g w r.1 v none∧bX g st a w r.1 v
def jh(P:Program)(st:St)(o:Oper)(r:SV×Prop):Prop:=
 ∀g a w,Sim g st a w->r.2->∃v,(∀w':World,(execOp a.eval o).run P w'=.ok (.value v) w')∧az g w r.1 v none∧bX g st a w r.1 v
theorem jh.pop{P:Program}{st:St}{o:Oper}{r:SV×Prop}(h:jh P st o r):KU P st o r:=λg a w hs c=>by
 obtain⟨v,h1,b⟩:=h g a w hs c;exact⟨v,h1 w,b⟩
/-! ### Numbers, truths, texts -/
def gm:SV->IntKind
 |.pv (.lit (.int k _))=>k
 |_=>.i64
def aU:SV->Int
 |.pv (.lit (.int _ n))=>n
 |_=>0
def gn:SV->Prop
 |.pv (.lit (.int _ _))=>True
 |_=>False
def rV:SV->Bool
 |.pv (.lit (.bool b))=>b
 |_=>false
def A1:SV->Prop
 |.pv (.lit (.bool _))=>True
 |_=>False
def lP:SV->ByteArray
 |.pv (.lit (.string s))=>s
 |_=>ByteArray.empty
def rW:SV->Prop
 |.pv (.lit (.string _))=>True
 |_=>False
theorem A7{x:SV}(h:gn x):x=.pv (.lit (.int (gm x) (aU x))):=by
 unfold gn at h;split at h
 .rfl
 .cases h
theorem No{x:SV}(h:A1 x):x=.pv (.lit (.bool (rV x))):=by
 unfold A1 at h;split at h
 .rfl
 .cases h
theorem Np{x:SV}(h:rW x):x=.pv (.lit (.string (lP x))):=by
 unfold rW at h;split at h
 .rfl
 .cases h
theorem bY{g:Gh}{st:St}{a:Act}{w:World}(h:Sim g st a w){x:Operand}(b:gc st x)(hi:gn (mv st x)):
 a.eval x=.int (gm (mv st x)) (aU (mv st x)):=by
 have:=(aO h x b).1;rw[A7 hi]at this;exact this.2
theorem kz{g:Gh}{st:St}{a:Act}{w:World}(h:Sim g st a w){x:Operand}(b:gc st x)(hi:A1 (mv st x)):
 a.eval x=.bool (rV (mv st x)):=by
 have:=(aO h x b).1;rw[No hi]at this;exact this.2
theorem qn{g:Gh}{st:St}{a:Act}{w:World}(h:Sim g st a w){x:Operand}(b:gc st x)(hi:rW (mv st x)):
 a.eval x=.string (lP (mv st x)):=by
 have:=(aO h x b).1;rw[Np hi]at this;exact this.2
abbrev SV.int(k:IntKind)(n:Int):SV:=.pv (.lit (.int k n))
abbrev SV.bool(b:Bool):SV:=.pv (.lit (.bool b))
inductive TK where
  |int|bool|string|ptr|slice|map|func|other
  |flat (n:Nat)
def kJ(P:Program):List Field->Nat->Bool
 |[],_=>true
 |f::a,n=>f.offset==n&&f.name != "_" &&(match P.underlying f.type with|some (.int _)=>true|_=>false)&&(match P.info? f.type with|some i=>i.size==1|none=>false)&&kJ P a (n+1)
def O5(P:Program)(e:TypeId):Bool:=(match P.underlying e with|some (.int _)=>true|_=>false)&&P.cellsOf e==1&&(P.info? e).isSome
def tk(P:Program)(t:TypeId):TK:=
 match P.underlying t with
 |some (.int _)=>.int
 |some .bool=>.bool
 |some .string=>.string
 |some (.pointer _)=>.ptr
 |some (.slice _)=>.slice
 |some (.map _ _)=>.map
 |some (.func _ _ _)=>.func
 |some (.struct a)=>if kJ P a.toList 0&&!P.stoodInHeld t&&!P.eqGuardType P.depth t then .flat a.size else .other
 |some (.array n e)=>if O5 P e&&!P.eqGuardType P.depth t then .flat n else .other
 |_=>.other
/-! ### Binary operators -/
def GJ(op:BinOp)(x y:SV):SV×Prop:=
 match op with
 |.add=>(.int (gm x) ((gm x).wrap (aU x+aU y)),gn x∧gn y∧gm x=gm y∧True)
 |.sub=>(.int (gm x) ((gm x).wrap (aU x -aU y)),gn x∧gn y∧gm x=gm y∧True)
 |.mul=>(.int (gm x) ((gm x).wrap (aU x*aU y)),gn x∧gn y∧gm x=gm y∧True)
 |.quo=>(.int (gm x) ((gm x).wrap ((aU x).tdiv (aU y))),gn x∧gn y∧gm x=gm y∧aU y≠0)
 |.rem=>(.int (gm x) ((aU x).tmod (aU y)),gn x∧gn y∧gm x=gm y∧aU y≠0)
 |.lss=>(.bool (decide (aU x<aU y)),gn x∧gn y∧gm x=gm y∧True)
 |.leq=>(.bool (decide (aU x<=aU y)),gn x∧gn y∧gm x=gm y∧True)
 |.gtr=>(.bool (decide (aU y<aU x)),gn x∧gn y∧gm x=gm y∧True)
 |.geq=>(.bool (decide (aU y<=aU x)),gn x∧gn y∧gm x=gm y∧True)
 |.eql=>(.bool (decide (aU x=aU y)),gn x∧gn y∧gm x=gm y∧True)
 |.neq=>(.bool (!decide (aU x=aU y)),gn x∧gn y∧gm x=gm y∧True)
 |.and=>(.int (gm x) (bits .and (gm x) (aU x) (aU y)),gn x∧gn y∧gm x=gm y∧True)
 |.shr=>(.int (gm x) ((aU x).fdiv (2^min (aU y).toNat (gm x).bits)),gn x∧gn y∧0<=aU y)
 |.shl=>(.int (gm x) ((gm x).wrap (aU x*2^min (aU y).toNat (gm x).bits)),gn x∧gn y∧0<=aU y)
 |_=>(.pv .bot,False)
def GK(op:BinOp)(x y:SV):SV×Prop:=
 match op with
 |.eql=>(.bool (rV x==rV y),A1 x∧A1 y)
 |.neq=>(.bool (rV x !=rV y),A1 x∧A1 y)
 |_=>(.pv .bot,False)
def GL(op:BinOp)(x y:SV):SV×Prop:=
 match op with
 |.add=>(.pv (.lit (.string (lP x++lP y))),rW x∧rW y∧((lP x).size+(lP y).size:Nat)<=9223372036854775807)
 |.eql=>(.bool (decide (lP x=lP y)),rW x∧rW y)
 |.neq=>(.bool (!decide (lP x=lP y)),rW x∧rW y)
 |.lss=>(.bool (Op.bytesLess (lP x).toList (lP y).toList),rW x∧rW y)
 |.gtr=>(.bool (!(Op.bytesLess (lP x).toList (lP y).toList||decide (lP x=lP y))),rW x∧rW y)
 |.leq=>(.bool (Op.bytesLess (lP x).toList (lP y).toList||decide (lP x=lP y)),rW x∧rW y)
 |.geq=>(.bool (!Op.bytesLess (lP x).toList (lP y).toList),rW x∧rW y)
 |_=>(.pv .bot,False)
def kQ:SV->Option Bool
 |.pv (.lit (.pointer none))=>some true
 |.pv (.lit (.pointer (some _)))=>some false
 |.pv (.ptr _ _)=>some false
 |.pv (.iptr _ _ _ _)=>some false
 |.sptr _ _ _=>none
 |.pv (.lit (.slice none 0 0))=>some true
 |.pv (.lit (.map none))=>some true
 |_=>none
def iO:SV->Bool
 |.pv (.lit (.pointer none))=>true
 |_=>false
def EP(op:BinOp)(x y:SV):SV×Prop:=
 match op with
 |.eql=>(.bool (kQ x==some true),iO y=true∧(kQ x).isSome=true)
 |.neq=>(.bool (kQ x==some false),iO y=true∧(kQ x).isSome=true)
 |_=>(.pv .bot,False)
def mh:SV->List Int
 |.pv (.agg xs)=>xs.map λx=>aU (.pv x)
 |.pv (.lit (.agg vs))=>vs.toList.map λv=>aU (.pv (.lit v))
 |_=>[]
def fH:SV->List IntKind
 |.pv (.agg xs)=>xs.map λx=>gm (.pv x)
 |.pv (.lit (.agg vs))=>vs.toList.map λv=>gm (.pv (.lit v))
 |_=>[]
def oi(n:Nat):SV->Prop
 |.pv (.agg xs)=>xs.length=n∧∀x∈xs,gn (.pv x)
 |.pv (.lit (.agg vs))=>vs.size=n∧∀v∈vs.toList,gn (.pv (.lit v))
 |_=>False
def EQ(n:Nat)(op:BinOp)(x y:SV):SV×Prop:=
 match op with
 |.eql=>(.bool (decide (mh x=mh y)),oi n x∧oi n y∧fH x=fH y)
 |.neq=>(.bool (!decide (mh x=mh y)),oi n x∧oi n y∧fH x=fH y)
 |_=>(.pv .bot,False)
theorem C3{P:Program}{st:St}(o:Oper)(op:BinOp)(t u:TypeId)(x y:Operand)(ho:o.op=.binOp op t x y u):
 jh P st o ((GJ op (mv st x) (mv st y)).1,gc st x∧gc st y∧(GJ op (mv st x) (mv st y)).2):=by
 intro g a w h ⟨hx,hy,hd⟩;have d:=λhi=>bY h hx hi;have e:=λhi=>bY h hy hi;unfold GJ at hd⊢;simp only[execOp,ho];cases op<;>simp only at hd⊢
 case quo|rem=>
  obtain⟨h1,c,b,f⟩:=hd;rw[d h1,e c,b];simp only[go_sem,Sem.run_bind,Sem.run_pure,Result.andThen_ok,Op.intDiv,SM f];exact⟨_,λ_=>rfl,⟨rfl,by first|rfl|rw[b]⟩,trivial⟩
 case and|add|sub|mul|lss|leq|gtr|geq|eql|neq=>
  obtain⟨h1,c,b,f⟩:=hd;rw[d h1,e c,b];simp only[go_sem,Sem.run_bind,Sem.run_pure,Result.andThen_ok,Op.intArith];exact⟨_,λ_=>rfl,⟨rfl,by first|rfl|rw[b]⟩,trivial⟩
 case shr|shl=>
  obtain⟨h1,c,b⟩:=hd;rw[d h1,e c];simp only[go_sem,Sem.run_bind,Sem.run_pure,Result.andThen_ok,Op.shift,SM (WG.2 b)];exact⟨_,λ_=>rfl,⟨rfl,rfl⟩,trivial⟩
 all_goals exact hd.elim
theorem C4{P:Program}{st:St}(o:Oper)(op:BinOp)(t u:TypeId)(x y:Operand)(ho:o.op=.binOp op t x y u)(ht:P.underlying t=some .bool):
 jh P st o ((GK op (mv st x) (mv st y)).1,gc st x∧gc st y∧(GK op (mv st x) (mv st y)).2):=by
 intro g a w h ⟨hx,hy,hd⟩;have b:=λhi=>kz h hx hi;have c:=λhi=>kz h hy hi;unfold GK at hd⊢;simp only[execOp,ho];cases op<;>simp only at hd⊢
 case eql|neq=>
  obtain⟨h1,d⟩:=hd;rw[b h1,c d];simp only[eqGuard_at_bool,Sem.run_bind,Sem.run_pure,Result.andThen_ok,run_eql_bool _ t _ _ ht,run_neq_bool _ t _ _ ht];exact⟨_,λ_=>rfl,⟨rfl,rfl⟩,trivial⟩
 all_goals exact hd.elim
theorem ByteArray.toList_inj{a b:ByteArray}:(a.toList==b.toList)=decide (a=b):=by
 rw[Xu,WH,WA];constructor
 .intro h;rw[ByteArray.toList_eq,ByteArray.toList_eq]at h;cases a;cases b;simp at h;simp[h]
 .intro h;rw[h]
theorem C5{P:Program}{st:St}(o:Oper)(op:BinOp)(t u:TypeId)(x y:Operand)(ho:o.op=.binOp op t x y u):
 jh P st o ((GL op (mv st x) (mv st y)).1,gc st x∧gc st y∧(GL op (mv st x) (mv st y)).2):=by
 intro g a w h ⟨hx,hy,hd⟩;have c:=λhi=>qn h hx hi;have d:=λhi=>qn h hy hi;unfold GL at hd⊢;simp only[execOp,ho];cases op<;>simp only at hd⊢
 case add=>
  obtain⟨h1,b,e⟩:=hd;rw[c h1,d b];simp only[eqGuard_at_string,Sem.run_bind,Sem.run_pure,Result.andThen_ok,binOp,Op.stringOp];rw[SM (by simp only[IntKind.max_i64];omega)];exact⟨_,λ_=>rfl,⟨rfl,rfl⟩,trivial⟩
 case eql|neq|lss|leq|gtr|geq=>
  obtain⟨h1,b⟩:=hd;rw[c h1,d b];simp only[eqGuard_at_string,Sem.run_bind,Sem.run_pure,Result.andThen_ok,binOp,Op.stringOp,ByteArray.toList_inj];exact⟨_,λ_=>rfl,⟨rfl,rfl⟩,trivial⟩
 all_goals exact hd.elim
theorem A8{g:Gh}{w:World}{x:SV}{v:Value}{b:Bool}(h:az g w x v none)(hn:kQ x=some b)(hp:∃p,v=.pointer p):v=.pointer none∧b=true∨(∃q,v=.pointer (some q))∧b=false:=by
 unfold kQ at hn;split at hn
 .cases hn;obtain⟨_,rfl⟩:=h;exact .inl ⟨rfl,rfl⟩
 .cases hn;obtain⟨_,rfl⟩:=h;exact .inr ⟨⟨_,rfl⟩,rfl⟩
 .cases hn;obtain⟨_,_,rfl⟩:=h;exact .inr ⟨⟨_,rfl⟩,rfl⟩
 .cases hn;obtain⟨_,_,_,_,_,_,_,rfl,_⟩:=h;exact .inr ⟨⟨_,rfl⟩,rfl⟩
 .cases hn
 .obtain⟨_,rfl⟩:=h;obtain⟨p,hp⟩:=hp;cases hp
 .obtain⟨_,rfl⟩:=h;obtain⟨p,hp⟩:=hp;cases hp
 .cases hn
def yg:SV->Prop
 |.pv (.lit (.pointer _))=>True
 |.pv (.ptr _ _)=>True
 |.pv (.iptr _ _ _ _)=>True
 |_=>False
theorem GM{g:Gh}{w:World}{x:SV}{v:Value}(h:az g w x v none)(hp:yg x):∃p,v=.pointer p:=by
 unfold yg at hp;split at hp
 .obtain⟨_,rfl⟩:=h;exact⟨_,rfl⟩
 .obtain⟨_,_,rfl⟩:=h;exact⟨_,rfl⟩
 .obtain⟨_,_,_,_,_,_,_,rfl,_⟩:=h;exact⟨_,rfl⟩
 .cases hp
theorem A9{P:Program}{t e:TypeId}(h:P.underlying t=some (.pointer e)):P.underlying t=some (.pointer (P.pointee t)):=by
 simp[Program.pointee,h]
theorem C6{P:Program}{st:St}(o:Oper)(op:BinOp)(t u e:TypeId)(x y:Operand)(ho:o.op=.binOp op t x y u)(ht:P.underlying t=some (.pointer e)):
 jh P st o ((EP op (mv st x) (mv st y)).1,gc st x∧gc st y∧yg (mv st x)∧(EP op (mv st x) (mv st y)).2):=by
 intro g a w h ⟨hx,hy,hp,hd⟩;obtain⟨i,_⟩:=aO h x hx;obtain⟨j,_⟩:=aO h y hy;obtain⟨p,hp⟩:=GM i hp;have d:=A9 ht;have c:iO (mv st y)=true->a.eval y=.pointer none:=by
  intro hn;unfold iO at hn;split at hn
  .rename_i e;rw[e]at j;exact j.2
  .cases hn
 unfold EP at hd⊢;simp only[execOp,ho];cases op<;>simp only at hd⊢
 case eql|neq=>
  obtain⟨h1,l⟩:=hd;obtain⟨b,k⟩:=VN.mp l;rw[c h1,hp];simp only[eqGuard_at_pointer,Sem.run_bind,Sem.run_pure,Result.andThen_ok,run_eql_pointer_nil _ t _ d,run_neq_pointer_nil _ t _ d];refine⟨_,λ_=>rfl,⟨rfl,?_⟩,trivial⟩;rcases A8 i k ⟨_,hp⟩with⟨f,rfl⟩|⟨⟨q,f⟩,rfl⟩<;>(rw[hp]at f;cases f;simp[Fit,k])
 all_goals exact hd.elim
/-! ### Flat structs -/
theorem gN{P:Program}(w:World){t:TypeId}{k:IntKind}(ht:P.underlying t=some (.int k))(cs:Array Value)(off:Nat)(v:Value)(h:cs[off]?=some v):
 (part t cs off).run P w=.ok v w:=by
 simp[part,isAgg,run_underlying ht,h]
theorem sE{P:Program}(w:World)(d:Nat)(xs ys:Array Value):∀(b:List Field)(n:Nat)(A B:List (IntKind×Int)),kJ P b n=true->
 A.length=b.length->A.map (·.1)=B.map (·.1)->(∀i p,A[i]?=some p->xs[n+i]?=some (.int p.1 p.2))->(∀i p,B[i]?=some p->ys[n+i]?=some (.int p.1 p.2))->
 (Op.eqFields (d+1) xs ys b).run P w=.ok (decide (A.map (·.2)=B.map (·.2))) w
 |[],n,A,B,_,g,a,_,_=>by
  have:A=[]:=Uh.1 g;subst this;have:B=[]:=by simpa using a.symm
  subst this;simp[Op.eqFields]
 |f::b,n,A,B,j,g,a,hx,hy=>by
  cases A with
  |nil=>simp at g
  |cons p A=>
  cases B with
  |nil=>simp at a
  |cons q B=>
  simp only[kJ,S4,WH,bne_iff_ne]at j;obtain⟨⟨⟨⟨ho,hn⟩,l⟩,_⟩,m⟩:=j;split at l
  case h_2=>cases l
  rename_i k hk;simp only[Th,U9]at a;have c:=hx 0 p rfl;have e:=hy 0 q rfl;simp only[VA]at c e;rw[Op.eqFields,SN hn,ho];simp only[Sem.run_bind,gN w hk xs n _ c,gN w hk ys n _ e,Result.andThen_ok,a.1,run_equalIn_int w d f.type q.1 k p.2 q.2 hk]
  by_cases h:p.2=q.2
  .simp only[h,Wm,Bool.not_true,TM,Uo];rw[sE w d xs ys b (n+1) A B m (by simpa using g) a.2 (λi p hp=>by have:=hx (i+1) p (by simpa using hp);rw[←this];congr 1;omega) (λi p hp=>by have:=hy (i+1) p (by simpa using hp);rw[←this];congr 1;omega)];simp[h]
  .simp[h]
theorem uY{P:Program}(w:World)(d:Nat)(xs ys:Array Value){e:TypeId}{k:IntKind}(g:P.underlying e=some (.int k)):∀(A B:List (IntKind×Int))(n:Nat),
 A.map (·.1)=B.map (·.1)->(∀i p,A[i]?=some p->xs[n+i]?=some (.int p.1 p.2))->(∀i p,B[i]?=some p->ys[n+i]?=some (.int p.1 p.2))->
 (Op.eqItems (d+1) e 1 xs ys (List.range' n A.length)).run P w=.ok (decide (A.map (·.2)=B.map (·.2))) w
 |[],B,n,a,_,_=>by
  have:B=[]:=by simpa using a.symm
  subst this;simp[Op.eqItems]
 |p::A,[],n,a,_,_=>by simp at a
 |p::A,q::B,n,a,hx,hy=>by
  simp only[Th,U9]at a;have c:=hx 0 p rfl;have f:=hy 0 q rfl;simp only[VA]at c f;simp only[To,List.range'_succ,Op.eqItems,Wr,Sem.run_bind,gN w g xs n _ c,gN w g ys n _ f,Result.andThen_ok,a.1,run_equalIn_int w d e q.1 k p.2 q.2 g]
  by_cases b:p.2=q.2
  .simp only[b,Wm,Bool.not_true,TM,Uo];rw[uY w d xs ys g A B (n+1) a.2 (λi p hp=>by have:=hx (i+1) p (by simpa using hp);rw[←this];congr 1;omega) (λi p hp=>by have:=hy (i+1) p (by simpa using hp);rw[←this];congr 1;omega)];simp[b]
  .simp[b]
def fi:SV->List (IntKind×Int)
 |.pv (.agg xs)=>xs.map λx=>(gm (.pv x),aU (.pv x))
 |.pv (.lit (.agg vs))=>vs.toList.map λv=>(gm (.pv (.lit v)),aU (.pv (.lit v)))
 |_=>[]
theorem rX{g:Gh}{w:World}{x:SV}{v:Value}{n:Nat}(h:az g w x v none)(a:oi n x):
 ∃vs,v=.agg vs∧(fi x).length=n∧(fi x).map (·.1)=fH x∧(fi x).map (·.2)=mh x∧∀(i:Nat)(p:IntKind×Int),(fi x)[i]?=some p->vs[i]?=some (Value.int p.1 p.2):=by
 unfold oi at a;split at a
 .rename_i xs;obtain⟨_,vs,rfl,c⟩:=h;refine⟨vs,rfl,by simp[fi,a.1],by simp[fi,fH],by simp[fi,mh],λi p hp=>?_⟩;simp only[fi,Tg,Tk]at hp;obtain⟨y,hy,rfl⟩:=hp;obtain⟨u,d,b⟩:=c.get i y hy;have:=a.2 y (Ul hy);have e:=A7 this;simp only[SV.pv.injEq]at e;rw[e]at b;rw[←SR,d,b]
 .rename_i vs;obtain⟨_,rfl⟩:=h;refine⟨vs,rfl,by simp[fi,a.1],by simp[fi,fH],by simp[fi,mh],λi p hp=>?_⟩;simp only[fi,Tg,Tk]at hp;obtain⟨y,hy,rfl⟩:=hp;have:=a.2 y (Ul hy);have e:=A7 this;simp only[SV.pv.injEq,PV.lit.injEq]at e;rw[←SR,hy,←e]
 .cases a
theorem KV{P:Program}{st:St}(o:Oper)(op:BinOp)(t u:TypeId)(x y:Operand)(n:Nat)(ho:o.op=.binOp op t x y u)(ht:tk P t=.flat n):
 KU P st o ((EQ n op (mv st x) (mv st y)).1,gc st x∧gc st y∧(EQ n op (mv st x) (mv st y)).2):=by
 intro g a w h ⟨hx,hy,hd⟩;obtain⟨J,_⟩:=aO h x hx;obtain⟨K,_⟩:=aO h y hy;unfold tk at ht;split at ht
 case h_8=>
  rename_i I i;split at ht
  case isFalse=>cases ht
  rename_i c;cases ht
  simp only[S4,TN]at c;obtain⟨⟨z,B⟩,b⟩:=c;have d:P.fieldsOf t=I:=by simp[Program.fieldsOf,i]
  have C:P.underlying t=some (.struct (P.fieldsOf t)):=by rw[d];exact i
  unfold EQ at hd⊢;simp only[execOp,ho];cases op<;>simp only at hd⊢
  case eql|neq=>
   obtain⟨h1,r,s⟩:=hd;obtain⟨xs,p,H,F,D,j⟩:=rX J h1;obtain⟨ys,q,N,G,E,l⟩:=rX K r;rw[p,q];simp only[Sem.run_bind,run_eqGuard_agg w _ t _ _ _ _ b,Result.andThen_ok,run_eql_struct,run_neq_struct,run_equalIn_agg w 9999 t xs ys C B,d,
    sE w 9998 xs ys I.toList 0 (fi (mv st x)) (fi (mv st y)) z (by simpa using H) (by rw[F,G,s]) (by simpa using j) (by simpa using l),D,E,Sem.run_pure]
   exact⟨_,rfl,⟨rfl,rfl⟩,trivial⟩
  all_goals exact hd.elim
 case h_9=>
  rename_i m e i;split at ht
  case isFalse=>cases ht
  rename_i c;cases ht
  simp only[O5,S4,TN,WH]at c;obtain⟨⟨⟨hk,v⟩,hi⟩,b⟩:=c;split at hk
  case h_2=>cases hk
  rename_i k A;obtain⟨M,f⟩:=VN.1 hi;unfold EQ at hd⊢;simp only[execOp,ho];cases op<;>simp only at hd⊢
  case eql|neq=>
   obtain⟨h1,r,s⟩:=hd;obtain⟨xs,p,H,F,D,j⟩:=rX J h1;obtain⟨ys,q,N,G,E,l⟩:=rX K r;rw[p,q];have L:=uY w 9998 xs ys A (fi (mv st x)) (fi (mv st y)) 0 (by rw[F,G,s]) (by simpa using j) (by simpa using l);rw[H,←List.range_eq_range']at L;simp only[Sem.run_bind,run_eqGuard_agg w _ t _ _ _ _ b,Result.andThen_ok,run_eql_struct,run_neq_struct,run_equalIn_array w 9999 xs ys i f,v,L,D,E,Sem.run_pure];exact⟨_,rfl,⟨rfl,rfl⟩,trivial⟩
  all_goals exact hd.elim
 all_goals (first|cases ht|(split at ht<;>cases ht))
end Go.AX
namespace Go.AX
/-! ### What the types say -/
def bz(P:Program)(t:TypeId)(f:Nat):Option Nat:=
 match P.underlying t with
 |some (.struct a)=>match a[f]?with
  |some x=>match P.info? x.type with
   |some i=>if i.size=0 then none else some x.offset
   |none=>none
  |none=>none
 |_=>none
def bq(P:Program)(t:TypeId):Option Nat:=
 match P.underlying t with
 |some (.slice e)=>(P.info? e).map (·.size)
 |_=>none
def mi(P:Program)(t:TypeId):Option (Nat×Nat):=
 match P.underlying t with
 |some (.array n e)=>(P.info? e).map λi=>(n,i.size)
 |_=>none
def aK(P:Program)(t:TypeId):Option (Bool×Nat):=
 match P.underlying t with
 |some (.struct _)=>(P.info? t).map λi=>(true,i.size)
 |some (.array _ _)=>(P.info? t).map λi=>(true,i.size)
 |some _=>(P.info? t).map λi=>(false,i.size)
 |none=>none
theorem run_sizeOf{P:Program}{t:TypeId}{i:TypeInfo}(h:P.info? t=some i)(w:World):(sizeOf t).run P w=.ok i.size w:=by
 simp[sizeOf,typeInfo,h]
theorem iH{P:Program}{t:TypeId}{b:Bool}{n:Nat}(h:aK P t=some (b,n))(w:World):(isAgg t).run P w=.ok b w∧(sizeOf t).run P w=.ok n w:=by
 unfold aK at h;split at h
 case h_4=>cases h
 all_goals (
  rename_i a;simp only[Tk,Ux]at h;obtain⟨i,hi,rfl,rfl⟩:=h;refine⟨?_,run_sizeOf hi w⟩;simp only[isAgg,Sem.run_bind,run_underlying a,Result.andThen_ok])
 .rfl
 .rfl
 .rfl
/-! ### Cells -/
theorem cell_of{w:World}{c:Nat}{arr:Array Value}{T:TypeId}{fz:Nat×Nat}(h:w.heap[c]?=some (.cells arr T fz))(o:Nat):w.cell? ⟨c,o,none⟩=arr[o]?:=by
 simp[World.cell?,h]
theorem gu{l m:List Value}(h:l<+:m){i:Nat}{v:Value}(hi:l[i]?=some v):m[i]?=some v:=by
 obtain⟨r,rfl⟩:=h;rw[SO]
 .exact hi
 .exact(SG.1 hi).1
theorem ET{g:Gh}{e:Nat}{rows:List (List PV)}{vs:List Value}{arr:Array Value}{off:Nat}(h:av g e rows vs)(hp:vs<+:arr.toList.drop off){i:Nat}{row:List PV}(hi:rows[i]?=some row):
 row.length=e∧∃b,aj g row b∧∀j v,b[j]?=some v->arr[off+i*e+j]?=some v:=by
 obtain⟨l,a,b,c,f,d,k⟩:=h.get i row hi;refine⟨l,b,k,λj v hj=>?_⟩;have m:j<b.length:=(SG.1 hj).1;have:vs[i*e+j]?=some v:=by
  rw[f,SO (by simp[d];omega),Td (by omega),d];rw[←hj];congr 1;omega
 have:=gu hp this;rw[T5,SR]at this;rw[←this];congr 1;omega
theorem aj.drop{g:Gh}:∀{xs:List PV}{vs:List Value}(_:aj g xs vs)(k:Nat),aj g (xs.drop k) (vs.drop k)
 |_,_,h,0=>by simpa using h
 |[],_,h,k+1=>by simp only[aj]at h;subst h;simp[aj]
 |_::_,_,⟨_,_,h1,_,a⟩,k+1=>by subst h1;simpa using aj.drop a k
theorem aj.take{g:Gh}:∀{xs:List PV}{vs:List Value}(_:aj g xs vs)(k:Nat),aj g (xs.take k) (vs.take k)
 |_,_,_,0=>by simp[aj]
 |[],_,h,k+1=>by simp only[aj]at h;subst h;simp[aj]
 |_::_,_,⟨_,_,h1,a,b⟩,k+1=>by subst h1;exact⟨_,_,rfl,a,aj.take b k⟩
/-! ### Places that own -/
theorem bm{g:Gh}{st:St}{a:Act}{w:World}{bl:Pos->Option Nat}(c:Owns g st a w bl){p:Pos}(ho:(aa st p).isOwn=true):az g w (aa st p) (an g a w p) (bl p):=by
 cases p with
 |slot s=>exact c.slots s
 |cell b k=>
  simp only[aa]at ho⊢;cases hx:st.h[b]?with
  |none=>simp[List.getD,hx]at ho;cases ho
  |some xs=>
   simp only[List.getD,hx,Tx]at ho⊢;cases hk:xs[k]?with
   |none=>simp[hk]at ho;cases ho
   |some x=>
    obtain⟨arr,T,h1,⟨e,_⟩,d⟩:=c.blocks b xs hx;simp only[Tx,an,h1];exact(d k x hk).2
/-! ### Slices -/
def jn:Value->Bool
 |.slice none 0 0=>true
 |_=>false
theorem gv{v:Value}(h:jn v=true):v=.slice none 0 0:=by
 unfold jn at h;split at h
 .rfl
 .cases h
def rowsOf(st:St):SV->List (List PV)
 |.pv (.seq _ _ rows)=>rows
 |.al p=>match aa st p with
  |.own _ _ rows=>rows
  |_=>[]
 |.loc p lo hi=>match aa st p with
  |.own _ _ rows=>(rows.take hi).drop lo
  |_=>[]
 |_=>[]
def iP(st:St)(e:Nat):SV->Prop
 |.pv (.seq _ e' _)=>e'=e
 |.pv (.lit v)=>jn v=true
 |.al p=>match aa st p with
  |.own _ e' _=>e'=e
  |_=>False
 |.loc p _ _=>match aa st p with
  |.own _ e' _=>e'=e
  |_=>False
 |_=>False
theorem m6{g:Gh}{st:St}{a:Act}{w:World}(h:Sim g st a w){x:Operand}{e:Nat}(n:gc st x)(hs:iP st e (mv st x)):
 ∃q cap,a.eval x=.slice q (rowsOf st (mv st x)).length cap∧(rowsOf st (mv st x)).length<=cap:=by
 obtain⟨i,f⟩:=aO h x n;unfold iP at hs;split at hs
 .rename_i nw e' rows d;rw[d]at i⊢;obtain⟨_,q,cap,b,k,_⟩:=i;exact⟨q,cap,b,k⟩
 .rename_i v d;rw[d]at i⊢;obtain⟨_,b⟩:=i;exact⟨none,0,by rw[b,gv hs];rfl,by simp[rowsOf]⟩
 .rename_i p d;rw[d]at f⊢;split at hs
  .rename_i nw e' rows hp;obtain⟨bl,m⟩:=h.own;have b:=f (by rw[hp];rfl);have:=bm m (p:=p) (by rw[hp];rfl);rw[hp]at this;simp only[rowsOf,hp];rcases this with⟨_,rfl,j⟩|⟨c,_,cap,arr,T,vs,j,_,_,l,_⟩
   .exact⟨none,0,by rw[b,j];rfl,by simp⟩
   .exact⟨_,cap,by rw[b,j],l.1⟩
  .cases hs
 .rename_i p lo hi d;rw[d]at f⊢;split at hs
  .rename_i nw e' rows hp;obtain⟨h1,o,q,cap,b,k,_⟩:=f nw e' rows hp;have:(rowsOf st (.loc p lo hi)).length=hi -lo:=by simp only[rowsOf,hp,TF,SU];omega
   exact⟨q,cap,by rw[b,this],by rw[this];exact k⟩
  .cases hs
 .cases hs
def uZ(P:Program)(st:St)(t:TypeId)(x:SV):SV×Prop:=
 match bq P t with
 |some e=>match x with
  |.pv (.bsl _ e' _ n _)=>(.int .i64 n,e'=e)
  |.pv (.lit (.slice _ 0 _))=>(.int .i64 0,True)
  |x=>(.int .i64 (rowsOf st x).length,iP st e x)
 |none=>(.pv .bot,False)
theorem yh{P:Program}{st:St}(o:Oper)(t:TypeId)(x:Operand)(ho:o.op=.call {callee:=.builtin .len,args:=#[x],argTypes:=#[t]}):
 jh P st o ((uZ P st t (mv st x)).1,gc st x∧(uZ P st t (mv st x)).2):=by
 intro g a w h ⟨hx,hd⟩;unfold uZ at hd⊢;cases hs:bq P t with
 |none=>rw[hs]at hd;cases hd
 |some e=>
  rw[hs]at hd;simp only at hd⊢;unfold bq at hs;split at hs
  case h_2=>cases hs
  rename_i j i;split at hd
  .rename_i b e' off n cap f;obtain⟨c,_⟩:=aO h x hx;rw[f]at c;obtain⟨_,_,_,d⟩:=c;refine⟨_,?_,⟨rfl,rfl⟩,trivial⟩;intro w';simp[execOp,ho,resolve,invoke,builtin,d,Builtin.len_,run_underlying i,goInt]
  .rename_i p cap f;obtain⟨c,_⟩:=aO h x hx;rw[f]at c;have d:a.eval x=_:=c.2;refine⟨_,?_,⟨rfl,rfl⟩,trivial⟩;intro w';simp[execOp,ho,resolve,invoke,builtin,d,Builtin.len_,run_underlying i,goInt]
  .obtain⟨q,cap,d,_⟩:=m6 h hx hd;refine⟨_,?_,⟨rfl,rfl⟩,trivial⟩;intro w';simp[execOp,ho,resolve,invoke,builtin,d,Builtin.len_,run_underlying i,goInt]
def sF(x:SV):SV×Prop:=(.int .i64 (lP x).size,rW x)
theorem u6{P:Program}{st:St}(o:Oper)(t:TypeId)(x:Operand)(ho:o.op=.call {callee:=.builtin .len,args:=#[x],argTypes:=#[t]}) (c:P.underlying t=some .string):
 jh P st o ((sF (mv st x)).1,gc st x∧(sF (mv st x)).2):=by
 intro g a w h ⟨hx,hd⟩;have b:=qn h hx hd;refine⟨_,?_,⟨rfl,rfl⟩,trivial⟩;intro w';simp[execOp,ho,resolve,invoke,builtin,b,Builtin.len_,run_underlying c,goInt]
/-! ### Addresses -/
def rH(off:Nat):SV->SV×Prop
 |.pv (.ptr b o)=>(.pv (.ptr b (o+off)),True)
 |.pv (.iptr e rows i k)=>(.pv (.iptr e rows i (k+off)),True)
 |.sptr p i k=>(.sptr p i (k+off),True)
 |_=>(.pv .bot,False)
theorem KW{g:Gh}{st:St}{a:Act}{w:World}{off:Nat}{x:SV}{v:Value}(f:az g w x v none)(m:bX g st a w x v)(hd:(rH off x).2):
 ((∃ q : Addr, v = .pointer (some q) ∧ az g w (rH off x).1 (.pointer (some (q.add off))) none ∧ bX g st a w (rH off x).1 (.pointer (some (q.add off)))) ∨
  (∃p i k,x=.sptr p i k∧∀nw e rows,aa st p≠.own nw e rows)):=by
 unfold rH at hd⊢;split at hd
 .obtain⟨_,h1,rfl⟩:=f;exact .inl ⟨_,rfl,⟨rfl,h1,by rw[Addr.add_lit]⟩,trivial⟩
 .obtain⟨_,c,s,arr,T,fz,vs,rfl,h,j,l⟩:=f;exact .inl ⟨_,rfl,⟨rfl,c,s,arr,T,fz,vs,by rw[Addr.add_lit,UN],h,j,l⟩,trivial⟩
 .rename_i p i k
  by_cases hp:∃nw e rows,aa st p=.own nw e rows
  .obtain⟨nw,e,rows,hp⟩:=hp;obtain⟨c,n,cp,h1,rfl⟩:=m nw e rows hp;refine .inl ⟨_,rfl,rfl,λr e' d b=>?_⟩;rw[hp]at b;cases b;exact⟨c,n,cp,h1,by rw[Addr.add_lit,UN]⟩
  .exact .inr ⟨p,i,k,rfl,λnw e rows o=>hp ⟨nw,e,rows,o⟩⟩
 .cases hd
def live(st:St):SV->Prop
 |.sptr p _ _=>match aa st p with
  |.own _ _ _=>True
  |_=>False
 |_=>True
theorem u7{g:Gh}{st:St}{a:Act}{w:World}{off:Nat}{x:SV}{v:Value}(e:az g w x v none)(d:bX g st a w x v)(hd:(rH off x).2)(c:live st x):
 ∃q:Addr,v=.pointer (some q)∧az g w (rH off x).1 (.pointer (some (q.add off))) none∧bX g st a w (rH off x).1 (.pointer (some (q.add off))):=by
 rcases KW e d hd with h|⟨p,i,k,rfl,hn⟩
 .exact h
 .unfold live at c;cases b:aa st p<;>simp only[b]at c
  exact absurd b (hn _ _ _)
def qo(P:Program)(st:St)(t:TypeId)(f:Nat)(x:SV):SV×Prop:=
 match bz P t f with
 |some off=>((rH off x).1,(rH off x).2∧live st x)
 |none=>(.pv .bot,False)
theorem u9{P:Program}{st:St}(o:Oper)(t:TypeId)(f:Nat)(x:Operand)(ho:o.op=.fieldAddr t x f):
 jh P st o ((qo P st t f (mv st x)).1,gc st x∧(qo P st t f (mv st x)).2):=by
 intro g a w h ⟨hx,hd⟩;obtain⟨j,e⟩:=aO h x hx;unfold qo at hd⊢;cases hs:bz P t f with
 |none=>rw[hs]at hd;cases hd
 |some off=>
  rw[hs]at hd;simp only at hd⊢;obtain⟨q,l,h1,d⟩:=u7 j e hd.1 hd.2;refine⟨_,?_,h1,d⟩;unfold bz at hs;split at hs
  case h_2=>cases hs
  rename_i n k;split at hs
  case h_2=>cases hs
  rename_i m b;split at hs
  case h_2=>cases hs
  rename_i i hi;split at hs
  case isTrue=>cases hs
  rename_i c;cases hs
  intro w';simp[execOp,ho,l,Instr.fieldAt,run_underlying k,b,Instr.sureAddr,fieldPlace,run_sizeOf hi,c]
def C7(i:Nat):SV->SV
 |.pv (.seq _ e rows)=>.pv (.iptr e rows i 0)
 |.al p=>.sptr p i 0
 |.loc p lo _=>.sptr p (lo+i) 0
 |_=>.pv .bot
theorem GN{g:Gh}{st:St}{a:Act}{w:World}(h:Sim g st a w){x:Operand}{e i:Nat}(z:gc st x)(hs:iP st e (mv st x))(hi:i<(rowsOf st (mv st x)).length):
 ∃(q:Addr)(cap:Nat),a.eval x=.slice (some q) (rowsOf st (mv st x)).length cap∧az g w (C7 i (mv st x)) (.pointer (some (q.add (i*e)))) none∧bX g st a w (C7 i (mv st x)) (.pointer (some (q.add (i*e)))):=by
 obtain⟨s,k⟩:=aO h x z;unfold iP at hs;split at hs
 .rename_i nw e' rows d;subst hs;rw[d]at s hi⊢;obtain⟨_,q,cap,j,_,C⟩:=s;rcases C with rfl|⟨c,off,arr,T,fz,vs,rfl,r,_,t,u⟩
  .simp[rowsOf]at hi
  .exact⟨_,cap,j,⟨rfl,c,off,arr,T,fz,vs,by rw[Addr.add_lit];simp,r,t,u⟩,trivial⟩
 .rename_i v d;rw[d]at hi;simp[rowsOf]at hi
 .rename_i p d;rw[d]at k hi⊢;split at hs
  .rename_i nw e' rows hp;subst hs;obtain⟨bl,y⟩:=h.own;have j:=k (by rw[hp];rfl);have:=bm y (p:=p) (by rw[hp];rfl);rw[hp]at this;simp only[rowsOf,hp]at hi⊢;rcases this with⟨_,rfl,l⟩|⟨c,_,cap,arr,T,vs,l,_⟩
   .simp at hi
   .refine⟨_,cap,by rw[j,l],rfl,λo e' f b=>?_⟩;rw[hp]at b;cases b;exact⟨c,_,cap,l,by rw[Addr.add_lit];simp⟩
  .cases hs
 .rename_i p lo A d;rw[d]at k hi⊢;split at hs
  .rename_i nw e' rows hp;subst hs;simp only[rowsOf,hp,TF,SU]at hi⊢;obtain⟨h1,r,q,cap,j,_,B,_⟩:=k nw e' rows hp;rcases B with rfl|⟨c,n,cp,m,rfl⟩
   .omega
   .refine⟨_,cap,by rw[j];congr 1;omega,rfl,λo e' f b=>?_⟩;rw[hp]at b;cases b;exact⟨c,n,cp,m,by rw[Addr.add_lit,←WI];simp⟩
  .cases hs
 .cases hs
def EU(P:Program)(st:St)(t:TypeId)(x i:SV):SV×Prop:=
 match bq P t with
 |some e=>match x with
  |.pv (.bsl b e' off n _)=>(.pv (.ptr b (off+(aU i).toNat*e)),e'=e∧gn i∧0<=aU i∧aU i<(n:Int))
  |x=>(C7 (aU i).toNat x,iP st e x∧gn i∧0<=aU i∧aU i<(rowsOf st x).length)
 |none=>match mi P t with
  |some (n,e)=>((rH ((aU i).toNat*e) x).1,(rH ((aU i).toNat*e) x).2∧live st x∧gn i∧0<=aU i∧aU i<(n:Int))
  |none=>(.pv .bot,False)
theorem C8{P:Program}{st:St}(o:Oper)(t:TypeId)(x i:Operand)(ho:o.op=.indexAddr t x i):
 jh P st o ((EU P st t (mv st x) (mv st i)).1,gc st x∧gc st i∧(EU P st t (mv st x) (mv st i)).2):=by
 intro g a w h ⟨hx,f,hd⟩;unfold EU at hd⊢;cases hs:bq P t with
 |some e=>
  rw[hs]at hd;simp only at hd⊢;split at hd
  .rename_i b e' off n cap E;obtain⟨rfl,k,l,m⟩:=hd;have j:=bY h f k;obtain⟨v,_⟩:=aO h x hx;rw[E]at v;obtain⟨_,D,_,s⟩:=v;refine⟨.pointer (some ((⟨g.μ b,off,none⟩:Addr).add ((aU (mv st i)).toNat*e'))),?_,⟨rfl,D,by rw[Addr.add_lit]⟩,trivial⟩;unfold bq at hs;split at hs
   case h_2=>cases hs
   rename_i A r;simp only[Tk]at hs;obtain⟨u,c,rfl⟩:=hs;intro w';simp only[execOp,ho,s,j,Instr.indexAt,asIntOf,Sem.run_bind,Sem.run_pure,Result.andThen_ok,run_underlying r,SN (And.intro l m),run_sizeOf c]
  rename_i F;obtain⟨h1,k,l,m⟩:=hd;have j:=bY h f k;obtain⟨q,cap,s,y,z⟩:=GN h hx h1 (i:=(aU (mv st i)).toNat) (by omega);refine⟨_,?_,y,z⟩;unfold bq at hs;split at hs
  case h_2=>cases hs
  rename_i A r;simp only[Tk]at hs;obtain⟨u,c,rfl⟩:=hs;intro w';simp only[execOp,ho,s,j,Instr.indexAt,asIntOf,Sem.run_bind,Sem.run_pure,Result.andThen_ok,run_underlying r,SN (And.intro l m),run_sizeOf c]
 |none=>
  rw[hs]at hd;simp only at hd⊢;cases d:mi P t with
  |none=>rw[d]at hd;cases hd
  |some p=>
   obtain⟨n,e⟩:=p;rw[d]at hd;simp only at hd⊢;obtain⟨h1,k,l,m,y⟩:=hd;have j:=bY h f l;obtain⟨v,C⟩:=aO h x hx;obtain⟨q,s,z,B⟩:=u7 v C h1 k;refine⟨_,?_,z,B⟩;unfold mi at d;split at d
   case h_2=>cases d
   rename_i G A r;simp only[Tk,Ux]at d;obtain⟨u,c,rfl,rfl⟩:=d;intro w';simp only[execOp,ho,s,j,Instr.indexAt,Instr.sureAddr,asIntOf,Sem.run_bind,Sem.run_pure,Result.andThen_ok,run_underlying r,SN (And.intro m y),run_sizeOf c]
/-! ### Loads -/
def Ba(st:St)(b k:Nat):SV:=
 match aa st (.cell b k)with
 |.pv x=>.pv x
 |.own _ _ _=>.al (.cell b k)
 |.omap _ _=>.al (.cell b k)
 |_=>.pv .bot
def ld1(st:St):SV->SV×Prop
 |.pv (.ptr b o)=>(Ba st b o,o<(st.h.getD b []).length)
 |.pv (.iptr e rows i k)=>(.pv ((rows.getD i []).getD k .bot),i<rows.length∧k<e)
 |.sptr p i k=>match aa st p with
  |.own _ e rows=>(.pv ((rows.getD i []).getD k .bot),i<rows.length∧k<e)
  |_=>(.pv .bot,False)
 |_=>(.pv .bot,False)
def wJ:SV->Prop
 |.pv _=>True
 |_=>False
def l3:SV->PV
 |.pv x=>x
 |_=>.bot
def RZ(st:St)(n:Nat):SV->SV×Prop
 |.pv (.ptr b o)=>(.pv (.agg (((st.h.getD b []).drop o).take n|>.map l3)),o+n<=(st.h.getD b []).length∧∀x∈((st.h.getD b []).drop o).take n,wJ x)
 |.pv (.iptr e rows i k)=>(.pv (.agg (((rows.getD i []).drop k).take n)),i<rows.length∧k+n<=e)
 |.sptr p i k=>match aa st p with
  |.own _ e rows=>(.pv (.agg (((rows.getD i []).drop k).take n)),i<rows.length∧k+n<=e)
  |_=>(.pv .bot,False)
 |_=>(.pv .bot,False)
def A2(P:Program)(st:St)(t:TypeId)(x:SV):SV×Prop:=
 match aK P t with
 |some (false,_)=>ld1 st x
 |some (true,n)=>RZ st n x
 |none=>(.pv .bot,False)
theorem kU{x:SV}(h:wJ x):x=.pv (l3 x):=by
 unfold wJ at h;split at h
 .rfl
 .cases h
theorem qZ{P:Program}{t:TypeId}{n:Nat}(w:World)(a:Addr)(vs:List Value)(h:aK P t=some (true,n))(hn:vs.length=n)(c:∀j v,vs[j]?=some v->w.cell? (a.add j)=some v):
 (loadVar t a).run P w=.ok (.agg vs.toArray) w:=by
 obtain⟨h1,b⟩:=iH h w;simp only[loadVar,Sem.run_bind,h1,Result.andThen_ok,UO,b];rw[←hn,run_loadCells_list w a vs c];rfl
theorem pg{P:Program}{t:TypeId}{n:Nat}(w:World)(a:Addr)(v:Value)(h:aK P t=some (false,n))(b:w.cell? a=some v):
 (loadVar t a).run P w=.ok v w:=by
 obtain⟨h1,_⟩:=iH h w;simp only[loadVar,Sem.run_bind,h1,Result.andThen_ok,TM,Uo,run_load,b]
theorem C9{g:Gh}{w:World}{e:Nat}{rows:List (List PV)}{vs:List Value}{arr:Array Value}{off c:Nat}{T:TypeId}{fz:Nat×Nat}(f:w.heap[c]?=some (.cells arr T fz))
 (h:av g e rows vs) (hp:vs<+:arr.toList.drop off) {i:Nat} (hi:i<rows.length):
 (rows.getD i []).length=e∧∃b,b.length=e∧aj g (rows.getD i []) b∧∀j v,b[j]?=some v->w.cell? ⟨c,off+i*e+j,none⟩=some v:=by
 have k:rows[i]?=some (rows.getD i []):=by simp[List.getD,SH hi]
 obtain⟨d,b,a,hj⟩:=ET h hp k;exact⟨d,b,by rw[a.length,d],a,λj v l=>by rw[cell_of f];exact hj j v l⟩
theorem O6{P:Program}{g:Gh}{w:World}{t:TypeId}{m e:Nat}{rows:List (List PV)}{vs:List Value}{arr:Array Value}{off c:Nat}{T:TypeId}{fz:Nat×Nat}(n:aK P t=some (false,m))
 (j:w.heap[c]?=some (.cells arr T fz)) (h:av g e rows vs) (hp:vs<+:arr.toList.drop off) {i k:Nat} (hi:i<rows.length) (hk:k<e):
 ∃v,(loadVar t ⟨c,off+i*e+k,none⟩).run P w=.ok v w∧Fit g ((rows.getD i []).getD k .bot) v:=by
 obtain⟨p,b,f,d,hj⟩:=C9 j h hp hi;have a:k<(rows.getD i []).length:=by omega
 obtain⟨v,o,l⟩:=d.get k ((rows.getD i []).getD k .bot) (by simp only[SI];rw[SH (by simpa only[SI]using a)];rfl);exact⟨v,pg w _ v n (hj k v o),l⟩
theorem O7{P:Program}{g:Gh}{w:World}{t:TypeId}{n e:Nat}{rows:List (List PV)}{vs:List Value}{arr:Array Value}{off c:Nat}{T:TypeId}{fz:Nat×Nat}(m:aK P t=some (true,n))
 (l:w.heap[c]?=some (.cells arr T fz)) (h:av g e rows vs) (hp:vs<+:arr.toList.drop off) {i k:Nat} (hi:i<rows.length) (hk:k+n<=e):
 ∃v,(loadVar t ⟨c,off+i*e+k,none⟩).run P w=.ok v w∧Fit g (.agg (((rows.getD i []).drop k).take n)) v:=by
 obtain⟨o,b,f,d,hj⟩:=C9 l h hp hi;refine⟨_,qZ w _ ((b.drop k).take n) m (by simp;omega) (λj v a=>?_),_,rfl,by simpa using(d.drop k).take n⟩;rw[TR]at a;split at a
 .rw[T5]at a;rw[Addr.add_lit,UN];exact hj _ v a
 .cases a
theorem Bb{P:Program}{st:St}(o:Oper)(t:TypeId)(x:Operand)(ho:o.op=.load t x):
 KU P st o ((A2 P st t (mv st x)).1,gc st x∧(A2 P st t (mv st x)).2):=by
 intro g a w h ⟨hx,hd⟩;obtain⟨C,M⟩:=aO h x hx;obtain⟨bl,N⟩:=h.own;have f:∀(q:Addr)(v:Value),a.eval x=.pointer (some q)->(loadVar t q).run P w=.ok v w->(execOp a.eval o).run P w=.ok (.value v) w:=by
  intro q v X d;simp only[execOp,ho,X,Instr.loadAt,Instr.sureAddr,Sem.run_bind,Sem.run_pure,Result.andThen_ok,d]
 unfold A2 at hd⊢;cases s:aK P t with
 |none=>rw[s]at hd;cases hd
 |some p=>
  obtain⟨W,n⟩:=p;rw[s]at hd;cases W with
  |false=>
   simp only at hd⊢;unfold ld1 at hd⊢;split at hd
   .rename_i b k m;rw[m]at C;simp only[m]at hd⊢;obtain⟨_,F,d⟩:=C;have r:b<st.h.length:=h.n▸F;obtain⟨arr,T,h1,⟨J,_⟩,E⟩:=N.blocks b (st.h[b]) (SH r);simp only[List.getD,SH r,Tx]at hd;obtain⟨hin,hs⟩:=E k ((st.h[b])[k]) (SH hd);have D:an g a w (.cell b k)=arr.getD k undef:=by simp[an,h1]
    have H:=f _ (arr.getD k undef) d (pg w _ _ s (by rw[cell_of h1];simp[Array.getD,J,hd]));have V:aa st (.cell b k)=(st.h[b])[k]:=by simp[aa,SH r,SH hd]
    refine⟨_,H,?_⟩;unfold Ba;rw[V];cases z:(st.h[b])[k]with
    |pv y=>rw[z]at hs;exact⟨⟨rfl,hs.2⟩,trivial⟩
    |own nw e rows=>exact⟨rfl,λ_=>D.symm⟩
    |omap nw es=>exact⟨rfl,λ_=>D.symm⟩
    |al p=>rw[z]at hin;cases hin
    |loc p i j=>rw[z]at hin;cases hin
    |sptr p i j=>rw[z]at hin;cases hin
    |agl xs=>rw[z]at hin;cases hin
    |opt c y=>rw[z]at hin;cases hin
   .rename_i e rows i k m;rw[m]at C;simp only[m]at hd⊢;obtain⟨_,c,off,arr,T,fz,vs,d,J,E,U⟩:=C;obtain⟨v,G,l⟩:=O6 s (h.I _ _ J) E U hd.1 hd.2;exact⟨v,f _ v d G,⟨rfl,l⟩,trivial⟩
   .rename_i p i k m;rw[m]at M;split at hd
    .rename_i nw e rows hp;simp only[hp];obtain⟨c,Z,cp,A,d⟩:=M nw e rows hp;have:=bm N (p:=p) (by rw[hp];rfl);rw[hp]at this;rcases this with⟨_,rfl,_⟩|⟨c',_,cap,arr,T,vs,O,Q,_,_,R,S,_⟩
     .simp at hd
     .rw[O]at A;cases A;obtain⟨v,G,l⟩:=O6 (off:=0) s Q R (by simpa using S) hd.1 hd.2;refine⟨v,f _ v d (by simpa using G),⟨rfl,l⟩,trivial⟩
    .cases hd
   .cases hd
  |true=>
   simp only at hd⊢;unfold RZ at hd⊢;split at hd
   .rename_i b k m;rw[m]at C;simp only[m]at hd⊢;obtain⟨_,F,d⟩:=C;have r:b<st.h.length:=h.n▸F;obtain⟨arr,T,h1,⟨J,_⟩,E⟩:=N.blocks b (st.h[b]) (SH r);simp only[List.getD,SH r,Tx]at hd⊢;have K:(((arr.toList).drop k).take n).length=n:=by simp;omega
    refine⟨_,f _ _ d (qZ w _ (((arr.toList).drop k).take n) s K (λj v d=>?_)),⟨rfl,_,rfl,?_⟩,trivial⟩
    .rw[TR]at d;split at d
     .rw[T5,SR]at d;rw[Addr.add_lit,cell_of h1];exact d
     .cases d
    .have key:∀(xs:List SV)(B:List Value),xs.length=B.length->(∀x∈xs,wJ x)->(∀(j:Nat)(x:SV)(u:Value),xs[j]?=some x->B[j]?=some u->∃b':Option Nat,az g w x u b')->aj g (xs.map l3) B:=by
      intro xs
      induction xs with
      |nil=>intro B s _ _;cases B with
       |nil=>simp[aj]
       |cons _ _=>simp at s
      |cons x xs Y=>
       intro B s hp hs;cases B with
       |nil=>simp at s
       |cons u B=>
        refine⟨u,B,rfl,?_,Y B (by simpa using s) (λy hy=>hp y (Tf _ hy)) (λj y v hy d=>hs (j+1) y v (by simpa using hy) (by simpa using d))⟩;obtain⟨b',hx⟩:=hs 0 x u rfl rfl;rw[kU (hp x (Tj ..))]at hx;exact hx.2
     refine key _ _ (by simp;omega) hd.2 (λj x u hx L=>?_);rw[TR]at hx L;split at hx
     .rename_i hj;rw[SN hj]at L;rw[T5]at hx L;obtain⟨_,hs⟩:=E (k+j) x hx;refine⟨bl (.cell b (k+j)),?_⟩;have:arr.getD (k+j) undef=u:=by
       rw[SR]at L;simp[S8,L]
      rw[←this];exact hs
     .cases hx
   .rename_i e rows i k m;rw[m]at C;simp only[m]at hd⊢;obtain⟨_,c,off,arr,T,fz,vs,d,J,E,U⟩:=C;obtain⟨v,G,l⟩:=O7 s (h.I _ _ J) E U hd.1 hd.2;exact⟨v,f _ v d G,⟨rfl,l⟩,trivial⟩
   .rename_i p i k m;rw[m]at M;split at hd
    .rename_i nw e rows hp;simp only[hp];obtain⟨c,Z,cp,A,d⟩:=M nw e rows hp;have:=bm N (p:=p) (by rw[hp];rfl);rw[hp]at this;rcases this with⟨_,rfl,_⟩|⟨c',_,cap,arr,T,vs,O,Q,_,_,R,S,_⟩
     .simp at hd
     .rw[O]at A;cases A;obtain⟨v,G,l⟩:=O7 (off:=0) s Q R (by simpa using S) hd.1 hd.2;refine⟨v,f _ v d (by simpa using G),⟨rfl,l⟩,trivial⟩
    .cases hd
   .cases hd
end Go.AX
namespace Go.AX
/-! ### Small ones -/
def Ol(op:UnOp)(x:SV):SV×Prop:=
 match op with
 |.not=>(.bool (!rV x),A1 x)
 |.neg=>(.int (gm x) ((gm x).wrap (0 -aU x)),gn x)
 |_=>(.pv .bot,False)
theorem GO{P:Program}{st:St}(o:Oper)(op:UnOp)(t:TypeId)(x:Operand)(ho:o.op=.unOp op t x):
 jh P st o ((Ol op (mv st x)).1,gc st x∧(Ol op (mv st x)).2):=by
 intro g a w h ⟨hx,hd⟩;unfold Ol at hd⊢;simp only[execOp,ho];cases op<;>simp only at hd⊢
 case not=>
  rw[kz h hx hd];simp only[Op.unary,Sem.run_bind,Sem.run_pure,Result.andThen_ok];exact⟨_,λ_=>rfl,⟨rfl,rfl⟩,trivial⟩
 case neg=>
  rw[bY h hx hd];simp only[Op.unary,Op.intArith,Sem.run_bind,Sem.run_pure,Result.andThen_ok];exact⟨_,λ_=>rfl,⟨rfl,rfl⟩,trivial⟩
 all_goals exact hd.elim
theorem wK{P:Program}{st:St}(o:Oper)(x:Operand)(ho:o.op=.move x∨o.op=.assign x):
 jh P st o (mv st x,gc st x):=by
 intro g a w h hx;obtain⟨c,b⟩:=aO h x hx;exact⟨a.eval x,λ_=>by rcases ho with ho|ho<;>simp[execOp,ho],c,b⟩
def yi(c x y:SV):SV×Prop:=
 (.bool (bif rV c then rV x else rV y),A1 c∧(rV c=true->A1 x)∧(rV c=false->A1 y))
theorem yk{P:Program}{st:St}(o:Oper)(c x y:Operand)(ho:o.op=.pick c x y):
 jh P st o ((yi (mv st c) (mv st x) (mv st y)).1,gc st c∧(rV (mv st c)=true->gc st x)∧(rV (mv st c)=false->gc st y)∧(yi (mv st c) (mv st x) (mv st y)).2):=by
 intro g a w h ⟨f,hx,hy,hd⟩;obtain⟨h1,d,e⟩:=hd;simp only[execOp,ho];rw[kz h f h1];simp only[asBool,Sem.run_bind,Sem.run_pure,Result.andThen_ok];cases b:rV (mv st c)with
 |true=>
  refine⟨_,λ_=>rfl,⟨rfl,?_⟩,trivial⟩;simp only[UO,kz h (hx b) (d b),b,cond_true];rfl
 |false=>
  refine⟨_,λ_=>rfl,⟨rfl,?_⟩,trivial⟩;simp only[TM,Uo,kz h (hy b) (e b),b,cond_false];rfl
def EV(i:Nat)(x:SV):SV×Prop:=
 match x with
 |.pv (.tup xs)=>(.pv (xs.getD i .bot),i<xs.length)
 |_=>(.pv .bot,False)
theorem Da{P:Program}{st:St}(o:Oper)(x:Operand)(i:Nat)(ho:o.op=.extract x i):
 jh P st o ((EV i (mv st x)).1,gc st x∧(EV i (mv st x)).2):=by
 intro g a w h ⟨hx,hd⟩;obtain⟨d,_⟩:=aO h x hx;unfold EV at hd⊢;split at hd
 .rename_i xs e;rw[e]at d;simp only[e]at hd⊢;obtain⟨_,vs,j,f⟩:=d;obtain⟨v,c,b⟩:=f.get i _ (SH hd);refine⟨v,?_,⟨rfl,by simpa[List.getD,SH hd]using b⟩,trivial⟩;have:vs[i]?=some v:=by rw[←SR];exact c
  intro w';simp[execOp,ho,j,Instr.extract,this]
 .cases hd
def aP:PV->List PV
 |.agg xs=>xs
 |.lit (.agg vs)=>vs.toList.map .lit
 |x=>[x]
def wL(P:Program)(t:TypeId)(f:Nat):Option (Nat×Bool×Nat):=
 match P.underlying t with
 |some (.struct a)=>match a[f]?with
  |some x=>(aK P x.type).map λp=>(x.offset,p)
  |none=>none
 |_=>none
def dv:SV->Prop
 |.pv (.agg _)=>True
 |.pv (.lit (.agg _))=>True
 |_=>False
def vb(P:Program)(t:TypeId)(f:Nat)(x:SV):SV×Prop:=
 match wL P t f with
 |some (off,false,_)=>(.pv ((aP (l3 x)).getD off .bot),dv x∧off<(aP (l3 x)).length)
 |some (off,true,n)=>(.pv (.agg (((aP (l3 x)).drop off).take n)),dv x∧off+n<=(aP (l3 x)).length)
 |none=>(.pv .bot,False)
theorem sG{g:Gh}{w:World}{x:SV}{v:Value}(h:az g w x v none)(hs:dv x):∃vs:Array Value,v=.agg vs∧aj g (aP (l3 x)) vs.toList:=by
 unfold dv at hs;split at hs
 .obtain⟨_,vs,rfl,b⟩:=h;exact⟨vs,rfl,b⟩
 .rename_i vs;have a:v=.agg vs:=h.2;subst a;refine⟨vs,rfl,?_⟩;show aj g (vs.toList.map PV.lit) vs.toList
  induction vs.toList with
  |nil=>simp[aj]
  |cons u d c=>exact⟨u,d,rfl,rfl,c⟩
 .cases hs
theorem yl{P:Program}{t:TypeId}{n:Nat}(w:World)(cs:Array Value)(off:Nat)(h:aK P t=some (true,n)):
 (part t cs off).run P w=.ok (.agg (cs.extract off (off+n))) w:=by
 obtain⟨h1,a⟩:=iH h w;simp[part,h1,a]
theorem vc{P:Program}{t:TypeId}{n:Nat}(w:World)(cs:Array Value)(off:Nat)(v:Value)(h:aK P t=some (false,n))(a:cs[off]?=some v):
 (part t cs off).run P w=.ok v w:=by
 obtain⟨h1,_⟩:=iH h w;simp[part,h1,a]
theorem ym{P:Program}{st:St}(o:Oper)(t:TypeId)(x:Operand)(f:Nat)(ho:o.op=.field t x f):
 jh P st o ((vb P t f (mv st x)).1,gc st x∧(vb P t f (mv st x)).2):=by
 intro g a w h ⟨hx,hd⟩;obtain⟨m,_⟩:=aO h x hx;unfold vb at hd⊢;cases hi:wL P t f with
 |none=>rw[hi]at hd;cases hd
 |some q=>
  obtain⟨off,b,n⟩:=q;rw[hi]at hd;unfold wL at hi;split at hi
  case h_2=>cases hi
  rename_i s r;split at hi
  case h_2=>cases hi
  rename_i d e;simp only[Tk,Ux]at hi;obtain⟨q,j,rfl,p⟩:=hi;rw[p]at j;clear p;cases b with
  |false=>
   simp only at hd⊢;obtain⟨vs,k,c⟩:=sG m hd.1;obtain⟨v,l,i⟩:=c.get _ _ (SH hd.2);refine⟨v,?_,⟨rfl,by simpa[List.getD,SH hd.2]using i⟩,trivial⟩;intro w';simp[execOp,ho,k,Instr.field,run_underlying r,e,asAgg,vc w' vs d.offset v j (by rw[←SR];exact l)]
  |true=>
   simp only at hd⊢;obtain⟨vs,k,c⟩:=sG m hd.1;refine⟨.agg (vs.extract d.offset (d.offset+n)),?_,⟨rfl,_,rfl,?_⟩,trivial⟩
   .intro w';simp[execOp,ho,k,Instr.field,run_underlying r,e,asAgg,yl w' vs d.offset j]
   .have:=(c.drop d.offset).take n;rw[Xz];simpa[List.extract]using this
def GP(P:Program)(t:TypeId):Option IntKind:=
 match P.underlying t with
 |some (.int k)=>some k
 |_=>none
def EW(P:Program)(a dst:TypeId)(x:SV):SV×Prop:=
 match GP P a,GP P dst with
 |some _,some k=>(.int k (k.wrap (aU x)),gn x)
 |_,_=>match P.underlying a,P.underlying dst with
  |some .string,some .string=>(.pv (.lit (.string (lP x))),rW x)
  |_,_=>(.pv .bot,False)
theorem Db{P:Program}{st:St}(o:Oper)(c dst:TypeId)(x:Operand)(ho:o.op=.convert c dst x):
 jh P st o ((EW P c dst (mv st x)).1,gc st x∧(EW P c dst (mv st x)).2):=by
 intro g a w h ⟨hx,hd⟩;unfold EW at hd⊢;split at hd
 .rename_i f k h1 b;simp only[h1,b]at hd⊢;unfold GP at h1 b;split at h1
  case h_2=>cases h1
  rename_i d;split at b
  case h_2=>cases b
  rename_i e;cases b
  refine⟨_,?_,⟨rfl,rfl⟩,trivial⟩;intro w';simp[execOp,ho,bY h hx hd,convert,run_underlying d,run_underlying e,Conv.intToInt]
 .split at hd
  .rename_i h1 b;refine⟨.string (lP (mv st x)),?_,?_,?_⟩
   .intro w';simp[execOp,ho,qn h hx hd,convert,run_underlying h1,run_underlying b]
   .exact⟨rfl,rfl⟩
   .trivial
  .cases hd
def Om(st:St)(x:SV):SV×Prop:=
 match x with
 |.pv (.ptr b o)=>(.pv (.ptr b o),True)
 |.pv (.iptr e r i k)=>(.pv (.iptr e r i k),True)
 |.pv (.fn (.func f) a b)=>(.pv (.fn (.func f) a b),True)
 |.pv (.lit (.func (.func f) a b))=>(.pv (.lit (.func (.func f) a b)),True)
 |.sptr p i k=>(.sptr p i k,live st (.sptr p i k))
 |_=>(.pv .bot,False)
theorem GQ{P:Program}{st:St}(o:Oper)(x:Operand)(ho:o.op=.nilCheck x):
 jh P st o ((Om st (mv st x)).1,gc st x∧(Om st (mv st x)).2):=by
 intro g a w h ⟨hx,hd⟩;obtain⟨e,_⟩:=aO h x hx;unfold Om at hd⊢;split at hd
 .rename_i b;rw[b]at e;simp only[b];obtain⟨_,h1,d⟩:=e;exact⟨_,λ_=>by simp[execOp,ho,d],⟨rfl,h1,rfl⟩,trivial⟩
 .rename_i b;rw[b]at e;simp only[b];obtain⟨_,c,off,arr,T,fz,vs,d,l⟩:=e;exact⟨_,λ_=>by simp[execOp,ho,d],⟨rfl,c,off,arr,T,fz,vs,rfl,l⟩,trivial⟩
 .rename_i b;rw[b]at e;simp only[b];obtain⟨_,p,q,d,l⟩:=e;exact⟨_,λ_=>by simp[execOp,ho,d],⟨rfl,p,q,rfl,l⟩,trivial⟩
 .rename_i b;rw[b]at e;simp only[b];have d:a.eval x=_:=e.2;exact⟨_,λ_=>by simp[execOp,ho,d],⟨rfl,rfl⟩,trivial⟩
 .rename_i p i k b;obtain⟨_,r⟩:=aO h x hx;rw[b]at r;simp only[b];unfold live at hd;cases f:aa st p<;>simp only[f]at hd
  obtain⟨c,n,cp,h1,d⟩:=r _ _ _ f;exact⟨_,λ_=>by simp[execOp,ho,d];rfl,rfl,λs e' m j=>⟨c,n,cp,h1,by rw[f]at j;cases j;rfl⟩⟩
 .cases hd
/-! ### Slice expressions -/
def MU(l h:Nat):SV->SV
 |.pv (.seq nw e rows)=>.pv (.seq nw e ((rows.take h).drop l))
 |.pv (.lit v)=>.pv (.lit v)
 |.al p=>.loc p l h
 |.loc p lo _=>.loc p (lo+l) (lo+h)
 |_=>.pv .bot
def bnd(st:St)(d:Nat):Option Operand->Int
 |none=>d
 |some x=>aU (mv st x)
def cW(st:St):Option Operand->Prop
 |none=>True
 |some x=>gc st x∧gn (mv st x)
def EX(P:Program)(st:St)(t:TypeId)(x:SV)(lo hi:Option Operand):SV×Prop:=
 match bq P t with
 |some e=>match x with
  | .pv (.bsl b e' off n cap) => (.pv (.bsl b e (off + (bnd st 0 lo).toNat * e) ((bnd st n hi).toNat - (bnd st 0 lo).toNat) (cap - (bnd st 0 lo).toNat)),
   e'=e∧cW st lo∧cW st hi∧0<=bnd st 0 lo∧bnd st 0 lo<=bnd st n hi∧bnd st n hi<=n∧bnd st 0 lo<cap)
  | x => (MU (bnd st 0 lo).toNat (bnd st (rowsOf st x).length hi).toNat x,
   iP st e x∧cW st lo∧cW st hi∧0<=bnd st 0 lo∧bnd st 0 lo<=bnd st (rowsOf st x).length hi∧bnd st (rowsOf st x).length hi<=(rowsOf st x).length)
 |none=>match P.underlying t with
  | some .string => (.pv (.lit (.string ((lP x).extract (bnd st 0 lo).toNat (bnd st (lP x).size hi).toNat))),
   rW x∧cW st lo∧cW st hi∧0<=bnd st 0 lo∧bnd st 0 lo<=bnd st (lP x).size hi∧bnd st (lP x).size hi<=(lP x).size)
  |_=>(.pv .bot,False)
theorem kX{P:Program}{st:St}{g:Gh}{a:Act}{w:World}(h:Sim g st a w)(rW:Bool)(len cap:Nat)(lo hi:Option Operand)(c:cW st lo)(b:cW st hi)
 (h0:0<=bnd st 0 lo) (h1:bnd st 0 lo<=bnd st len hi) (e:bnd st len hi<=len) (f:len<=cap):
 ∀w':World,(Instr.sliceBounds rW len cap (lo.map a.eval) (hi.map a.eval) none).run P w'=.ok ((bnd st 0 lo).toNat,(bnd st len hi).toNat,cap) w':=by
 intro w';cases hi with
 |none=>
  cases lo with
  |none=>simp[Instr.sliceBounds,bnd]
  |some l=>
   simp only[bnd,cW]at*;simp only[Instr.sliceBounds,Vl,TO,bY h c.1 c.2,Sem.run_bind,Sem.run_pure,Result.andThen_ok,run_sliceBound w' _ _ _ _ h0 h1];simp
 |some u=>
  cases lo with
  |none=>
   simp only[bnd,cW]at*;simp only[Instr.sliceBounds,Vl,TO,bY h b.1 b.2,Sem.run_bind,Sem.run_pure,Result.andThen_ok,run_sliceBound w' _ _ cap _ h1 (by omega)];simp
  |some l=>
   simp only[bnd,cW]at*;have d:((aU (mv st u)).toNat:Int)=aU (mv st u):=WY (by omega);simp only[Instr.sliceBounds,TO,bY h b.1 b.2,bY h c.1 c.2,Sem.run_bind,Sem.run_pure,Result.andThen_ok,run_sliceBound w' _ _ cap _ (by omega:(0:Int)<=aU (mv st u)) (by omega),
    run_sliceBound w' _ _ _ _ h0 (by rw[d];exact h1)]
theorem av.cut{g:Gh}{e:Nat}{rows:List (List PV)}{vs:List Value}(h:av g e rows vs)(l u:Nat)(n:l<=u)(o:u<=rows.length):
 av g e ((rows.take u).drop l) ((vs.take (u*e)).drop (l*e)):=by
 obtain⟨a,q,b,h1,m⟩:=av.split (xs:=rows.take u) (ys:=rows.drop u) (by rw[TY];exact h);have i:a.length=u*e:=by rw[h1.length,SU];congr 1;omega
 have:vs.take (u*e)=a:=by rw[b,←i,UR];rfl
 rw[this];obtain⟨k,p,c,d,f⟩:=av.split (xs:=(rows.take u).take l) (ys:=(rows.take u).drop l) (by rw[TY];exact h1);have j:k.length=l*e:=by rw[d.length,SU,SU];congr 1;omega
 rw[c,←j,WB]
 .exact f
 .rfl
theorem iQ{vs m:List Value}(h:vs<+:m)(l u:Nat):(vs.take u).drop l<+:m.drop l:=by
 obtain⟨r,b⟩:=(Wn u vs).trans h
 by_cases a:l<=(vs.take u).length
 .exact⟨r,by rw[←b,Un a]⟩
 .rw[Tq (by omega)];exact List.nil_prefix
theorem Dc{P:Program}{st:St}(o:Oper)(t:TypeId)(x:Operand)(lo hi:Option Operand)(ho:o.op=.slice t x lo hi none):
 jh P st o ((EX P st t (mv st x) lo hi).1,gc st x∧(EX P st t (mv st x) lo hi).2):=by
 intro g a w h ⟨hx,hd⟩;unfold EX at hd⊢;cases hs:bq P t with
 |some e=>
  rw[hs]at hd;simp only at hd⊢;split at hd
  .rename_i b e' off n cap z;obtain⟨rfl,E,F,G,H,I,h7⟩:=hd;obtain⟨A,_⟩:=aO h x hx;rw[z]at A;obtain⟨_,O,d,j⟩:=A;unfold bq at hs;split at hs
   case h_2=>cases hs
   rename_i X M;simp only[Tk]at hs;obtain⟨i,s,rfl⟩:=hs;refine⟨sliced (some ⟨g.μ b,off,none⟩) (bnd st 0 lo).toNat (bnd st n hi).toNat cap i.size,?_,⟨rfl,O,by omega,?_⟩,trivial⟩
   .intro w';simp only[execOp,ho,j,Vl];simp only[Instr.sliceAt,Sem.run_bind,run_underlying M,Result.andThen_ok,Instr.slice,kX h true _ cap lo hi E F G H I d,run_sizeOf s,Sem.run_pure,sliced]
   .rw[sliced,SM (by omega)];simp[Addr.add_lit]
  rename_i ab;obtain⟨h1,E,F,G,H,I⟩:=hd;obtain⟨q,cap,j,d⟩:=m6 h hx h1;obtain⟨A,N⟩:=aO h x hx;unfold bq at hs;split at hs
  case h_2=>cases hs
  rename_i X M;simp only[Tk]at hs;obtain⟨i,s,rfl⟩:=hs;generalize Q:(bnd st 0 lo).toNat=L at*;generalize Y:(bnd st (rowsOf st (mv st x)).length hi).toNat=U at*;have J:L<=U:=by omega
  have f:U<=(rowsOf st (mv st x)).length:=by omega
  refine⟨sliced q L U cap i.size,?_,?_⟩
  .intro w';simp only[execOp,ho,j,Vl];simp only[Instr.sliceAt,Sem.run_bind,run_underlying M,Result.andThen_ok,Instr.slice,kX h true _ cap lo hi E F G H I d,run_sizeOf s,Sem.run_pure,Q,Y,sliced]
  .unfold iP at h1;split at h1
   .rename_i nw e' rows z;subst h1;rw[z]at A j d f⊢;simp only[rowsOf]at f d j;refine⟨⟨rfl,?_⟩,trivial⟩;obtain⟨_,q',m,k,_,hr⟩:=A;rw[k]at j;cases j;refine⟨_,_,by rw[sliced,TF,SU,Ud f],by simp;omega,?_⟩;rcases hr with rfl|⟨c,off,arr,T,fz,vs,rfl,i2,i3,i4,i5⟩
    .left;simp
    .by_cases Z:cap=L
     .left;simp;omega
     .right;refine⟨c,off+L*i.size,arr,T,fz,(vs.take (U*i.size)).drop (L*i.size),by rw[SM Z];simp[Addr.add_lit],i2,i3,i4.cut L U J f,?_⟩;have:=iQ i5 (L*i.size) (U*i.size)
      rwa [Ue]at this
   .rename_i v z;rw[z]at A j f⊢;obtain⟨_,k⟩:=A;rw[gv h1]at k;simp only[rowsOf,List.length_nil]at f;rw[k]at j;cases j;have R:U=0:=by omega
    have y:L=0:=by omega
    refine⟨⟨rfl,?_⟩,trivial⟩;show sliced none _ _ 0 i.size=v;rw[gv h1,R,y];simp[sliced]
   .rename_i p z;rw[z]at N f j d⊢;split at h1
    .rename_i nw e' rows hp;subst h1;obtain⟨bl,O⟩:=h.own;have k:=N (by rw[hp];rfl);simp only[rowsOf,hp]at f j d;refine⟨rfl,λW e' D u=>?_⟩;rw[hp]at u;cases u;refine⟨J,f,_,_,rfl,by omega,?_,λy=>?_⟩;rotate_left
     .subst y;refine⟨rows.length,?_⟩;have C:=j;rw[k]at C;rw[C];have r:=bm O (p:=p) (by rw[hp];rfl);rw[hp,C]at r;have B:q.map (·.add (0*i.size))=q:=by
       rcases r with⟨_,_,l⟩|⟨c,_,m,arr,T,vs,l,_⟩
       .simp only[Value.slice.injEq]at l;rw[l.1];rfl
       .simp only[Value.slice.injEq]at l;rw[l.1];simp[Addr.add_lit]
      rw[B];simp
     by_cases K:L=U
     .exact .inl K
     .right;have:=bm O (p:=p) (by rw[hp];rfl);rw[hp]at this;rcases this with⟨_,rfl,l⟩|⟨c,_,m,arr,T,vs,l,_⟩
      .simp at f;omega
      .rw[k,l]at j;cases j;refine⟨c,_,_,l,?_⟩;rw[SM (by omega)];simp[Addr.add_lit]
    .cases h1
   .rename_i p V aa z;rw[z]at N f j d⊢;split at h1
    .rename_i nw e' rows hp;subst h1;obtain⟨j1,j2,q',m,k,jc,hq,hz⟩:=N _ _ _ hp;simp only[rowsOf,hp,TF,SU]at f j d;rw[k]at j;simp only[Value.slice.injEq]at j;obtain⟨rfl,_,rfl⟩:=j;refine⟨rfl,λW e' D u=>?_⟩;rw[hp]at u;cases u;refine⟨by omega,by omega,_,_,by rw[sliced];congr 1;omega,by omega,?_,λy=>?_⟩;rotate_left
     .have h0:V=0:=by omega
      have Q:L=0:=by omega
      obtain⟨n0,hz⟩:=hz h0;refine⟨n0,?_⟩;rw[hz];subst Q;have r:=bm (Xv h.own) (p:=p) (by rw[hp];rfl);rw[hp,hz]at r;have B:q'.map (·.add (0*i.size))=q':=by
       rcases r with⟨_,_,l⟩|⟨c,_,m,arr,T,vs,l,_⟩
       .simp only[Value.slice.injEq]at l;rw[l.1];rfl
       .simp only[Value.slice.injEq]at l;rw[l.1];simp[Addr.add_lit]
      rw[B];simp
     by_cases K:L=U
     .left;omega
     .right;rcases hq with rfl|⟨c,n,cp,S,rfl⟩
      .omega
      .refine⟨c,n,cp,S,?_⟩;rw[SM (by omega)];simp[Addr.add_lit,WI]
    .cases h1
   .cases h1
 |none=>
  rw[hs]at hd;simp only at hd⊢;split at hd
  .rename_i M;obtain⟨h1,E,F,G,H,I⟩:=hd;refine⟨.string ((lP (mv st x)).extract (bnd st 0 lo).toNat (bnd st (lP (mv st x)).size hi).toNat),?_,⟨rfl,rfl⟩,trivial⟩;intro w';simp only[execOp,ho,qn h hx h1,Vl];simp only[Instr.sliceAt,Sem.run_bind,run_underlying M,Result.andThen_ok,Instr.slice,Option.isSome_none,TM,Uo,kX h false _ _ lo hi E F G H I (SQ _),Sem.run_pure]
  .cases hd
/-! ### A slice of one's own, cut at both ends and no longer than that -/
theorem ra{P:Program}{st:St}{g:Gh}{a:Act}{w:World}(h:Sim g st a w)(len cap:Nat)(lo hi m:Operand)(c:cW st (some lo))(b:cW st (some hi))(d:cW st (some m))(f:aU (mv st m)=aU (mv st hi))
 (h0:0<=aU (mv st lo)) (h1:aU (mv st lo)<=aU (mv st hi)) (i:aU (mv st hi)<=len) (j:len<=cap):
 ∀w':World,(Instr.sliceBounds true len cap (some (a.eval lo)) (some (a.eval hi)) (some (a.eval m))).run P w'=.ok ((aU (mv st lo)).toNat,(aU (mv st hi)).toNat,(aU (mv st hi)).toNat) w':=by
 intro w';simp only[cW]at*;have e:((aU (mv st hi)).toNat:Int)=aU (mv st hi):=WY (by omega);simp only[Instr.sliceBounds,bY h b.1 b.2,bY h c.1 c.2,bY h d.1 d.2,f,Sem.run_bind,Sem.run_pure,Result.andThen_ok,run_sliceBound w' _ _ cap _ (by omega:(0:Int)<=aU (mv st hi)) (by omega),
  run_sliceBound w' _ _ (aU (mv st hi)).toNat _ (by omega:(0:Int)<=aU (mv st hi)) (by omega),run_sliceBound w' _ _ (aU (mv st hi)).toNat _ h0 (by rw[e];exact h1)]
def vd(P:Program)(st:St)(t:TypeId)(x:SV)(lo hi m:Operand):SV×Prop:=
 match bq P t,x with
 |some e,.al p=>(.loc p (aU (mv st lo)).toNat (aU (mv st hi)).toNat,iP st e x∧cW st (some lo)∧cW st (some hi)∧cW st (some m)∧aU (mv st m)=aU (mv st hi)∧0<aU (mv st lo)∧aU (mv st lo)<=aU (mv st hi)∧aU (mv st hi)<=(rowsOf st x).length)
 |some e,.pv (.seq nw e' rows)=>(.pv (.seq nw e' ((rows.take (aU (mv st hi)).toNat).drop (aU (mv st lo)).toNat)),e'=e∧cW st (some lo)∧cW st (some hi)∧cW st (some m)∧aU (mv st m)=aU (mv st hi)∧0<=aU (mv st lo)∧aU (mv st lo)<=aU (mv st hi)∧aU (mv st hi)<=rows.length)
 |_,_=>(.pv .bot,False)
theorem GR{P:Program}{st:St}(o:Oper)(t:TypeId)(x lo hi m:Operand)(ho:o.op=.slice t x (some lo) (some hi) (some m)):
 jh P st o ((vd P st t (mv st x) lo hi m).1,gc st x∧(vd P st t (mv st x) lo hi m).2):=by
 intro g a w h ⟨hx,hd⟩;unfold vd at hd⊢;split at hd
 case h_3=>exact hd.elim
 case h_2=>
  rename_i e nw e' rows hs y;obtain⟨rfl,z,A,B,C,N,D,E⟩:=hd;obtain⟨q,cap,j,b⟩:=m6 (e:=e') h hx (by rw[y];rfl);obtain⟨I,H⟩:=aO h x hx;unfold bq at hs;split at hs
  case h_2=>cases hs
  rename_i O J;simp only[Tk]at hs;obtain⟨d,i,rfl⟩:=hs;rw[y]at I j b;simp only[rowsOf]at b j;generalize F:(aU (mv st lo)).toNat=L at*;generalize G:(aU (mv st hi)).toNat=U at*;have l:L<=U:=by omega
  have f:U<=rows.length:=by omega
  refine⟨sliced q L U U d.size,?_,⟨rfl,?_⟩,trivial⟩
  .intro w';simp only[execOp,ho,j,TO];simp only[Instr.sliceAt,Sem.run_bind,run_underlying J,Result.andThen_ok,Instr.slice,ra h rows.length cap lo hi m z A B C N D E b,run_sizeOf i,Sem.run_pure,F,G,sliced]
  .obtain⟨_,q',k,n,_,V⟩:=I;rw[n]at j;cases j;refine⟨_,_,by rw[sliced,TF,SU,Ud f],by simp;omega,?_⟩;rcases V with rfl|⟨c,off,arr,T,fz,vs,rfl,W,i3,X,Y⟩
   .left;simp
   .by_cases S:U=L
    .left;simp;omega
    .right;refine⟨c,off+L*d.size,arr,T,fz,(vs.take (U*d.size)).drop (L*d.size),by rw[SM S];simp[Addr.add_lit],W,i3,X.cut L U l f,?_⟩;have:=iQ Y (L*d.size) (U*d.size)
     rwa [Ue]at this
 rename_i e p hs y;obtain⟨h1,z,A,B,C,N,D,E⟩:=hd;obtain⟨q,cap,j,b⟩:=m6 h hx h1;obtain⟨I,H⟩:=aO h x hx;unfold bq at hs;split at hs
 case h_2=>cases hs
 rename_i O J;simp only[Tk]at hs;obtain⟨d,i,rfl⟩:=hs;generalize F:(aU (mv st lo)).toNat=L at*;generalize G:(aU (mv st hi)).toNat=U at*;have l:L<=U:=by omega
 have Q:0<L:=by omega
 have f:U<=(rowsOf st (mv st x)).length:=by omega
 refine⟨sliced q L U U d.size,?_,?_⟩
 .intro w';simp only[execOp,ho,j,TO];simp only[Instr.sliceAt,Sem.run_bind,run_underlying J,Result.andThen_ok,Instr.slice,ra h _ cap lo hi m z A B C (by omega) D E b,run_sizeOf i,Sem.run_pure,F,G,sliced]
 .rw[y]at H f j b h1⊢;unfold iP at h1;simp only at h1;split at h1
  .rename_i nw e' rows hp;subst h1;obtain⟨bl,R⟩:=h.own;have n:=H (by rw[hp];rfl);simp only[rowsOf,hp]at f j b;refine⟨rfl,λZ e' K u=>?_⟩;rw[hp]at u;cases u;refine⟨l,f,_,U -L,rfl,SQ _,?_,λhz=>by omega⟩
   by_cases r:L=U
   .exact .inl r
   .right;have s:=bm R (p:=p) (by rw[hp];rfl);rw[hp]at s;rcases s with⟨_,rfl,_⟩|⟨c,_,k,arr,T,vs,M,_⟩
    .simp at f;omega
    .refine⟨c,_,k,M,?_⟩;have v:=j;rw[n,M]at v;cases v
     rw[SM (λe=>r e.symm)];simp[Addr.add_lit]
  .exact h1.elim
end Go.AX
namespace Go.AX
theorem az.frame{g g':Gh}{w w':World}(a:g.le g'):∀{sv:SV}{v:Value}{b:Option Nat},(∀c,b=some c->w'.heap[c]?=w.heap[c]?)->az g w sv v b->az g' w' sv v b
 |.pv _,_,_,_,h=>⟨h.1,Fit.mono a _ _ h.2⟩
 |.own _ _ _,_,_,f,h=>h.imp id λ⟨c,h1,cap,arr,T,vs,d,e,a3,a4,a5,i,j⟩=>
  ⟨c,h1,cap,arr,T,vs,d,by rw[f c h1];exact e,a3,a4,av.mono a _ _ _ a5,i,λhn=>TD a.B (j hn)⟩
 |.omap _ _,_,_,f,⟨c,h1,en,ck,d,e,a3,a4⟩=>⟨c,h1,en,ck,d,by rw[f c h1];exact e,bG.mono a _ _ a3,λhn=>TD a.B (a4.1 hn),a4.2⟩
 |.opt _ _,_,_,_,h=>⟨h.1,h.2.1,λm=>az.frame a (λ_ l=>by cases l) (h.2.2 m)⟩
 |.al _,_,_,_,h=>h
 |.loc _ _ _,_,_,_,h=>h
 |.sptr _ _ _,_,_,_,h=>h
 |.agl _,_,_,_,⟨h,vs,h1,k⟩=>⟨h,vs,h1,aj.mono a _ _ k⟩
theorem bX.congr{g g':Gh}{st st':St}{a f:Act}{w w':World}(hp:∀p,(aa st' p).isOwn=true->aa st' p=aa st p∧an g' f w' p=an g a w p):
 ∀{sv:SV}{v:Value},bX g st a w sv v->bX g' st' f w' sv v
 |.pv _,_,_=>trivial
 |.own _ _ _,_,_=>trivial
 |.omap _ _,_,_=>trivial
 |.al p,v,h=>λho=>by obtain⟨h1,b⟩:=hp p ho;rw[b];exact h (by rw[←h1];exact ho)
 |.loc p lo hi,v,h=>λnw e rows d=>by
  obtain⟨h1,b⟩:=hp p (by rw[d];rfl);rw[b];exact h nw e rows (by rw[←h1];exact d)
 |.sptr p i k,v,h=>λnw e rows d=>by
  obtain⟨h1,b⟩:=hp p (by rw[d];rfl);rw[b];exact h nw e rows (by rw[←h1];exact d)
 |.agl xs,v,h=>λk x p hx ho=>by obtain⟨h1,b⟩:=hp p ho;rw[b];exact h k x p hx (by rw[←h1];exact ho)
 |.opt c x,v,h=>λj=>bX.congr hp (h j)
theorem eu{a:Act}{d:Nat}{v:Value}(hd:d<a.tmps.size)(s:Nat):(a.put (some d) v).tmps.getD s undef=if d=s then v else a.tmps.getD s undef:=by
 simp only[Act.put,S8]
 by_cases h:d=s
 .subst h;simp[hd]
 .simp[h]
def St.put(st:St)(d:Nat)(sv:SV):St:=⟨(d,sv)::st.t,st.h⟩
theorem sH(st:St)(d:Nat)(sv:SV)(s:Nat):look (st.put d sv).t s=if d=s then sv else look st.t s:=rfl
theorem Sim.put{g:Gh}{st:St}{a:Act}{w:World}(h:Sim g st a w){d:Nat}(hd:d<g.N){sv:SV}{v:Value}(hs:az g w sv v none)(u:bX g st a w sv v)(ho:sv.isOwn=false):
 Sim g (st.put d sv) (a.put (some d) v) w:=by
 have i:d<a.tmps.size:=by rw[h.size];exact hd
 obtain⟨bl,l⟩:=h.own;have f:∀p,(aa (st.put d sv) p).isOwn=true->aa (st.put d sv) p=aa st p∧an g (a.put (some d) v) w p=an g a w p:=by
  intro p hp;cases p with
  |cell b k=>exact⟨rfl,rfl⟩
  |slot s=>
   simp only[aa,sH]at hp⊢;split at hp
   .rw[ho]at hp;cases hp
   .rename_i m;simp only[SM m,an,eu i,XN]
 refine{size:=?_,defs:=h.defs,env:=h.env,n:=h.n,n0:=h.n0,B:=h.B,I:=h.I,F:=h.F,μI:=h.μI,μinj:=h.μinj,own:=⟨λp=>if p=.slot d then none else bl p,?_⟩,al:=λs=>?_}
 .simp[Act.put,h.size]
 .refine{slots:=λs=>?_,blocks:=λb xs hx=>?_,inj:=λp q c hp o=>?_,free:=λp c hp=>?_}
  .rw[sH,eu i]
   by_cases j:d=s
   .subst j;simpa using hs
   .simp only[SM j];rw[SM (by intro e;cases e;exact j rfl)];exact l.slots s
  .obtain⟨arr,T,h1,r,t⟩:=l.blocks b xs hx;refine⟨arr,T,h1,r,λk x hk=>?_⟩;rw[SM (by intro e;cases e)];exact t k x hk
  .split at hp
   .cases hp
   .split at o
    .cases o
    .exact l.inj p q c hp o
  .split at hp
   .cases hp
   .exact l.free p c hp
 .rw[sH,eu i]
  by_cases j:d=s
  .simp only[SN j];exact bX.congr f u
  .simp only[SM j];exact bX.congr f (h.al s)
def kY(q:Pos->Bool):List (PV×Option Pos)->Bool
 |[]=>false
 |(_,some p)::r=>q p||kY q r
 |(_,none)::r=>kY q r
theorem kZ{q:Pos->Bool}:∀{xs:List (PV×Option Pos)},kY q xs=false->∀(k:Nat)(x:PV)(p:Pos),xs[k]?=some (x,some p)->q p=false
 |[],_,k,x,p,h=>by simp at h
 |(y,some b)::r,a,0,x,p,h=>by simp only[kY,VK]at a;simp at h;rw[←h.2];exact a.1
 |(y,none)::r,a,0,x,p,h=>by simp at h
 |(y,some b)::r,a,k+1,x,p,h=>by simp only[kY,VK]at a;exact kZ a.2 k x p (by simpa using h)
 |(y,none)::r,a,k+1,x,p,h=>kZ (xs:=r) a k x p (by simpa using h)
def cC(q:Pos->Bool):SV->SV
 |.al p=>if q p=true then .pv .bot else .al p
 |.loc p lo hi=>if q p=true then .pv .bot else .loc p lo hi
 |.sptr p i k=>if q p=true then .pv .bot else .sptr p i k
 |.agl xs=>if kY q xs=true then .pv .bot else .agl xs
 |.opt c x=>match cC q x with
  |.pv .bot=>.pv .bot
  |y=>.opt c y
 |.pv x=>.pv x
 |.own a b c=>.own a b c
 |.omap a b=>.omap a b
def aH(q:Pos->Bool)(t:List (Nat×SV)):List (Nat×SV):=t.map λp=>(p.1,cC q p.2)
theorem aW(q:Pos->Bool):∀(t:List (Nat×SV))(s:Nat),look (aH q t) s=cC q (look t s)
 |[],_=>rfl
 |(j,v)::r,s=>by
  simp only[aH,Th,look];split
  .rfl
  .exact aW q r s
def SV.avoids(q:Pos->Bool):SV->Prop
 |.al p=>q p=false
 |.loc p _ _=>q p=false
 |.sptr p _ _=>q p=false
 |.agl xs=>kY q xs=false
 |.opt _ x=>x.avoids q
 |_=>True
theorem bB(q:Pos->Bool):∀x:SV,cC q x=.pv .bot∨(cC q x=x∧x.avoids q)
 |.pv _=>.inr ⟨rfl,trivial⟩
 |.own _ _ _=>.inr ⟨rfl,trivial⟩
 |.omap _ _=>.inr ⟨rfl,trivial⟩
 |.al p=>by cases h:q p<;>simp[cC,h,SV.avoids]
 |.loc p lo hi=>by cases h:q p<;>simp[cC,h,SV.avoids]
 |.sptr p lo hi=>by cases h:q p<;>simp[cC,h,SV.avoids]
 |.agl xs=>by cases h:kY q xs<;>simp[cC,h,SV.avoids]
 |.opt c x=>by
  rcases bB q x with h|⟨h1,a⟩
  .left;simp[cC,h]
  .rw[cC,h1];cases x with
   |pv y=>cases y<;>first|(left;rfl)|(right;exact⟨rfl,a⟩)
   |_=>right;exact⟨rfl,a⟩
theorem bX.congrA{g g':Gh}{st st':St}{a j:Act}{w w':World}{q:Pos->Bool}(hp:∀p,q p=false->(aa st' p).isOwn=true->aa st' p=aa st p∧an g' j w' p=an g a w p):
 ∀{sv:SV}{v:Value},sv.avoids q->bX g st a w sv v->bX g' st' j w' sv v
 |.pv _,_,_,_=>trivial
 |.own _ _ _,_,_,_=>trivial
 |.omap _ _,_,_,_=>trivial
 |.al p,v,b,h=>λho=>by obtain⟨h1,d⟩:=hp p b ho;rw[d];exact h (by rw[←h1];exact ho)
 |.loc p lo hi,v,b,h=>λnw e rows f=>by
  obtain⟨h1,d⟩:=hp p b (by rw[f];rfl);rw[d];exact h nw e rows (by rw[←h1];exact f)
 |.sptr p i k,v,b,h=>λnw e rows f=>by
  obtain⟨h1,d⟩:=hp p b (by rw[f];rfl);rw[d];exact h nw e rows (by rw[←h1];exact f)
 |.agl xs,v,b,h=>λk x p hx ho=>by obtain⟨h1,d⟩:=hp p (kZ b k x p hx) ho;rw[d];exact h k x p hx (by rw[←h1];exact ho)
 |.opt c x,v,b,h=>λl=>bX.congrA hp b (h l)
theorem d4{q:Pos->Bool}:∀{x:SV},(cC q x).isOwn=true->cC q x=x
 |.pv _,_=>rfl
 |.own _ _ _,_=>rfl
 |.omap _ _,_=>rfl
 |.al p,h=>by simp only[cC]at h;split at h<;>cases h
 |.loc p _ _,h=>by simp only[cC]at h;split at h<;>cases h
 |.sptr p _ _,h=>by simp only[cC]at h;split at h<;>cases h
 |.agl xs,h=>by simp only[cC]at h;split at h<;>cases h
 |.opt c x,h=>by simp only[cC]at h;split at h<;>cases h
theorem az.kill{g:Gh}{w:World}(q:Pos->Bool){x:SV}{v:Value}{b:Option Nat}(h:az g w x v b):az g w (cC q x) v b:=by
 rcases bB q x with e|⟨e,_⟩
 .rw[e];cases x with
  |pv y=>simp only[cC]at e;cases e;exact h
  |own _ _ _=>cases e
  |omap _ _=>cases e
  |al _=>exact⟨h,trivial⟩
  |loc _ _ _=>exact⟨h,trivial⟩
  |sptr _ _ _=>exact⟨h,trivial⟩
  |agl _=>exact⟨h.1,trivial⟩
  |opt _ _=>exact⟨h.1,trivial⟩
 .rw[e];exact h
structure FreeAt (g:Gh) (bl:Pos->Option Nat) (c:Nat):Prop where
  I:g.I c=none
  F:g.F c=none
  μ:∀b,b<g.n->g.μ b≠c
  own:∀p,bl p≠some c
theorem Sim.fresh{g:Gh}{st:St}{a:Act}{w:World}(h:Sim g st a w){bl:Pos->Option Nat}(l:Owns g st a w bl){c:Nat}(m:w.heap.size<=c):FreeAt g bl c:=by
 have hn:w.heap[c]?=none:=Uy m;refine⟨?_,?_,λb f e=>?_,λp hp=>?_⟩
 .cases i:g.I c with
  |none=>rfl
  |some j=>have:=h.I c j i;rw[hn]at this;cases this
 .cases i:g.F c with
  |none=>rfl
  |some j=>have:=h.F c j i;rw[hn]at this;cases this
 .have d:b<st.h.length:=h.n▸f;obtain⟨arr,T,k,_⟩:=l.blocks b _ (SH d);rw[e,hn]at k;cases k
 .have:=(l.free p c hp).2.2.1;omega
def cN(d:Nat):Pos->Bool
 |.slot s=>d==s
 |.cell _ _=>false
theorem Sim.putOwn{g:Gh}{st:St}{a:Act}{w w':World}(h:Sim g st a w){bl:Pos->Option Nat}(y:Owns g st a w bl){d:Nat}(hd:d<g.N){sv:SV}{v:Value}{o:Option Nat}
 (L:bT w'=bT w) (P:w.heap.size<=w'.heap.size) (J:∀c,c<w.heap.size->o≠some c->w'.heap[c]?=w.heap[c]?) (hs:az g w' sv v o) (ho:sv.isOwn=true) (m:∀c,o=some c->c<w'.heap.size∧FreeAt g bl c):
 Sim g ⟨(d,sv)::aH (cN d) st.t,st.h⟩ (a.put (some d) v) w':=by
 have q:d<a.tmps.size:=by rw[h.size];exact hd
 have u:∀{c o},w.heap[c]?=some o->c<w.heap.size:=λM=>(S5.1 M).1;have C:∀{b:Option Nat}{p},bl p=b->∀c,b=some c->w'.heap[c]?=w.heap[c]?:=λ{b p} hp c A=>
  J c (y.free _ c (hp.trans A)).2.2.1 (λe=>(m c e).2.own p (hp.trans A))
 have l:∀b,b<g.n->∀R,w.heap[g.μ b]?=some R->w'.heap[g.μ b]?=w.heap[g.μ b]?:=λb i R M=>J _ (u M) (λe=>(m _ e).2.μ b i rfl);have i:∀{b xs},st.h[b]?=some xs->b<g.n:=λhx=>by rw[h.n];exact(SG.1 hx).1
 have E:∀p,cN d p=false->(aa ⟨(d,sv)::aH (cN d) st.t,st.h⟩ p).isOwn=true->aa ⟨(d,sv)::aH (cN d) st.t,st.h⟩ p=aa st p∧an g (a.put (some d) v) w' p=an g a w p:=by
  intro p O hp;cases p with
  |cell b k=>
   refine⟨rfl,?_⟩;simp only[aa]at hp;cases hx:st.h[b]?with
   |none=>simp[List.getD,hx,SV.isOwn]at hp
   |some xs=>
    obtain⟨arr,T,h1,j,H⟩:=y.blocks b xs hx;simp only[an,l b (i hx) _ h1]
  |slot s=>
   have D:d≠s:=by simpa[cN]using O
   simp only[aa,look,SM D,aW]at hp⊢;refine⟨d4 hp,?_⟩;simp only[an,eu q,SM D]
 refine{size:=?_,defs:=h.defs,env:=L.trans h.env,n:=h.n,n0:=h.n0,B:=TD h.B P,I:=λc Q f=>?_,F:=λc Q f=>?_,μI:=h.μI,μinj:=h.μinj,own:=⟨λp=>if p=.slot d then o else bl p,?_⟩,al:=λs=>?_}
 .simp[Act.put,h.size]
 .have:=h.I c Q f;rw[J c (u this) (λe=>by have:=(m c e).2.I;rw[f]at this;cases this)];exact this
 .have:=h.F c Q f;rw[J c (u this) (λe=>by have:=(m c e).2.F;rw[f]at this;cases this)];exact this
 .refine{slots:=λs=>?_,blocks:=λb xs hx=>?_,inj:=λp r c hp G=>?_,free:=λp c hp=>?_}
  .simp only[look,aW];rw[eu q]
   by_cases z:d=s
   .subst z;simpa using hs
   .simp only[SM z];rw[SM (by intro e;cases e;exact z rfl)];exact az.frame (Gh.le.refl g) (C rfl) (az.kill _ (y.slots s))
  .obtain⟨arr,T,h1,j,H⟩:=y.blocks b xs hx;refine⟨arr,T,by rw[l b (i hx) _ h1];exact h1,j,λk x hk=>?_⟩;rw[SM (by intro e;cases e)];exact⟨(H k x hk).1,az.frame (Gh.le.refl g) (C rfl) (H k x hk).2⟩
  .split at hp
   .rename_i S;split at G
    .rename_i U;rw[S,U]
    .exact absurd G ((m c hp).2.own r)
   .split at G
    .exact absurd hp ((m c G).2.own p)
    .exact y.inj p r c hp G
  .split at hp
   .obtain⟨h1,j⟩:=m c hp;exact⟨j.I,j.F,h1,j.μ⟩
   .obtain⟨h1,j,H,V⟩:=y.free p c hp;exact⟨h1,j,by omega,V⟩
 .simp only[look,aW];rw[eu q]
  by_cases z:d=s
  .simp only[SN z];cases sv<;>first|trivial|cases ho
  .simp only[SM z];rcases bB (cN d) (look st.t s)with e|⟨e,K⟩
   .rw[e];trivial
   .rw[e];exact bX.congrA E K (h.al s)
/-! ### A place is set anew -/
def setPos(st:St)(p:Pos)(sv:SV):St:=
 match p with
 |.slot s=>⟨(s,sv)::st.t,st.h⟩
 |.cell b k=>⟨st.t,st.h.set b ((st.h.getD b []).set k sv)⟩
theorem cQ(st:St)(p r:Pos)(sv:SV)(h:p≠r):aa (setPos st p sv) r=aa st r:=by
 cases p with
 |slot s=>
  cases r with
  |slot u=>simp only[setPos,aa,look];rw[SM (λe=>h (by rw[e]))]
  |cell b k=>rfl
 |cell b k=>
  cases r with
  |slot u=>rfl
  |cell b' k'=>
   simp only[setPos,aa]
   by_cases a:b=b'
   .subst a;have hk:k≠k':=λe=>h (by rw[e]);simp only[SI]
    by_cases c:b<st.h.length
    .simp[c,hk]
    .rw[Xg (Uu c)]
   .simp[SI,a]
theorem Sim.drop{g:Gh}{st:St}{a:Act}{w:World}(h:Sim g st a w){bl:Pos->Option Nat}(l:Owns g st a w bl)(p:Pos):
 Sim g (setPos st p (.pv .bot)) a w∧∃f,Owns g (setPos st p (.pv .bot)) a w f∧(∀r,r≠p->f r=bl r)∧f p=none∧∀c,bl p=some c->FreeAt g f c:=by
 have m:Owns g (setPos st p (.pv .bot)) a w (λr=>if r=p then none else bl r):=by
  refine{slots:=λs=>?_,blocks:=λb xs hx=>?_,inj:=λr q c d D=>?_,free:=λr c d=>?_}
  .by_cases i:(.slot s:Pos)=p
   .subst i;simp only[setPos,look,UO];exact⟨rfl,trivial⟩
   .rw[SM i];have:=cQ st p (.slot s) (.pv .bot) (Vq i);simp only[aa]at this;rw[this];exact l.slots s
  .cases p with
   |slot s=>
    obtain⟨arr,T,h1,j,v⟩:=l.blocks b xs hx;refine⟨arr,T,h1,j,λk x hk=>?_⟩;rw[SM (by intro e;cases e)];exact v k x hk
   |cell b0 k0=>
    simp only[setPos]at hx;rw[Ts]at hx;split at hx
    .rename_i o;subst o;split at hx
     .rename_i y;simp only[TC]at hx;subst hx;simp only[SI,SH y,Tx];obtain⟨arr,T,h1,j,v⟩:=l.blocks b0 _ (SH y);refine⟨arr,T,h1,⟨by simpa using j.1,j.2⟩,λk x hk=>?_⟩;rw[Ts]at hk;split at hk
      .rename_i t;subst t;split at hk
       .cases hk;rw[SN rfl];exact⟨rfl,rfl,trivial⟩
       .cases hk
      .rename_i t;rw[SM (by intro e;cases e;exact t rfl)];exact v k x hk
     .cases hx
    .rename_i o;obtain⟨arr,T,h1,j,v⟩:=l.blocks b xs hx;refine⟨arr,T,h1,j,λk x hk=>?_⟩;rw[SM (by intro e;cases e;exact o rfl)];exact v k x hk
  .split at d
   .cases d
   .split at D
    .cases D
    .exact l.inj r q c d D
  .split at d
   .cases d
   .exact l.free r c d
 refine⟨{size:=h.size,defs:=h.defs,env:=h.env,n:=?_,n0:=h.n0,B:=h.B,I:=h.I,F:=h.F,μI:=h.μI,μinj:=h.μinj,own:=⟨_,m⟩,al:=λs=>?_},_,m,λr d=>SM d,SN rfl,λc E=>?_⟩
 .cases p with
  |slot s=>exact h.n
  |cell b k=>simp only[setPos,Ti];exact h.n
 .have z:∀r,(aa (setPos st p (.pv .bot)) r).isOwn=true->aa (setPos st p (.pv .bot)) r=aa st r∧an g a w r=an g a w r:=by
   intro r d
   by_cases i:p=r
   .subst i;exfalso;cases p with
    |slot u=>simp[setPos,aa,look,SV.isOwn]at d
    |cell b k=>
     simp only[setPos,aa,SI]at d
     by_cases A:b<st.h.length
     .simp only[Ts,A,UO,Tx]at d
      by_cases hk:k<(st.h[b]?.getD []).length
      .simp[hk,SV.isOwn]at d
      .simp[hk,SV.isOwn]at d
     .rw[Xg (Uu A),Ty (Uu A)]at d;simp[SV.isOwn]at d
   .exact⟨cQ st p r _ i,rfl⟩
  by_cases i:(.slot s:Pos)=p
  .subst i;simp only[setPos,look,UO];trivial
  .have:=cQ st p (.slot s) (.pv .bot) (Vq i);simp only[aa]at this;rw[this];exact bX.congr z (h.al s)
 .obtain⟨h1,j,v,G⟩:=l.free p c E;refine⟨h1,j,G,λr d=>?_⟩;split at d
  .cases d
  .rename_i C;exact C (l.inj r p c d E)
theorem cu{st:St}{p:Pos}{sv:SV}(h:(aa st p).isOwn=true):aa (setPos st p sv) p=sv:=by
 cases p with
 |slot s=>simp[setPos,aa,look]
 |cell b k=>
  simp only[aa,SI]at h
  by_cases a:b<st.h.length
  .by_cases hk:k<(st.h[b]?.getD []).length
   .simp only[setPos,aa,SI,Ts,a,UO,Tx,hk]
   .rw[Ty (Uu hk)]at h;cases h
  .rw[Ty (Uu a)]at h;cases h
theorem bX.write{g:Gh}{st st':St}{a:Act}{w w':World}{p:Pos}{sv':SV}(j:∀r,r≠p->aa st' r=aa st r)(hp:aa st' p=sv')(b:(aa st p).isOwn=true)
 (o:∀r,(aa st r).isOwn=true->an g a w' r=an g a w r) (d:∀s e' m,sv'=.own s e' m->∃nw rows,aa st p=.own nw e' rows∧rows.length=m.length):
 ∀{sv:SV}{v:Value},bX g st a w sv v->bX g st' a w' sv v
 |.pv _,_,_=>trivial
 |.own _ _ _,_,_=>trivial
 |.omap _ _,_,_=>trivial
 |.al r,v,h=>λho=>by
  by_cases l:r=p
  .subst l;rw[o r b];exact h b
  .rw[j r l]at ho;rw[o r ho];exact h ho
 |.loc r lo hi,v,h=>λnw e rows n=>by
  by_cases l:r=p
  .subst l;obtain⟨q,f,h1,u⟩:=d nw e rows (by rw[←hp,n]);rw[o r b];obtain⟨t,z,a3⟩:=h q e f h1;exact⟨t,by omega,a3⟩
  .rw[j r l]at n;rw[o r (by rw[n];rfl)];exact h nw e rows n
 |.sptr r i k,v,h=>λnw e rows n=>by
  by_cases l:r=p
  .subst l;obtain⟨q,f,h1,u⟩:=d nw e rows (by rw[←hp,n]);rw[o r b];exact h q e f h1
  .rw[j r l]at n;rw[o r (by rw[n];rfl)];exact h nw e rows n
 |.agl xs,v,h=>λk x r hx ho=>by
  by_cases l:r=p
  .subst l;rw[o r b];exact h k x r hx b
  .rw[j r l]at ho;rw[o r ho];exact h k x r hx ho
 |.opt c x,v,h=>λy=>bX.write j hp b o d (h y)
theorem Sim.ownWrite{g:Gh}{st:St}{a:Act}{w w':World}(h:Sim g st a w){bl:Pos->Option Nat}(q:Owns g st a w bl){p:Pos}{sv':SV}{c:Nat}(t:(aa st p).isOwn=true)(H:bl p=some c)
 (K:bT w'=bT w) (G:w'.heap.size=w.heap.size) (J:∀k,k≠c->w'.heap[k]?=w.heap[k]?) (hs:az g w' sv' (an g a w p) (some c)) (ho:sv'.isOwn=true)
 (C:∀M e' j,sv'=.own M e' j->∃nw rows,aa st p=.own nw e' rows∧rows.length=j.length):
 Sim g (setPos st p sv') a w':=by
 obtain⟨P,Q,S,R⟩:=q.free p c H;have f:∀b,b<g.n->w'.heap[g.μ b]?=w.heap[g.μ b]?:=λb i=>J _ (R b i);have i:∀{b:Nat}{xs:List SV},st.h[b]?=some xs->b<g.n:=λhx=>by rw[h.n];exact(SG.1 hx).1
 have l:∀r,r≠p->∀k,bl r=some k->w'.heap[k]?=w.heap[k]?:=λr u k hk=>J k (λe=>u (q.inj r p c (by rw[hk,e]) H));have L:∀r,(aa st r).isOwn=true->an g a w' r=an g a w r:=by
  intro r u;cases r with
  |slot s=>rfl
  |cell b k=>
   simp only[aa]at u;cases hx:st.h[b]?with
   |none=>simp[List.getD,hx,SV.isOwn]at u
   |some xs=>simp only[an,f b (i hx)]
 have A:=λr (u:r≠p)=>cQ st p r sv' (Vq u);have d:=cu (sv:=sv') t;refine{size:=h.size,defs:=h.defs,env:=K.trans h.env,n:=?_,n0:=h.n0,B:=by rw[G];exact h.B,I:=λk o hk=>?_,F:=λk o hk=>?_,μI:=h.μI,μinj:=h.μinj,own:=⟨bl,?_⟩,al:=λs=>?_}
 .cases p with
  |slot s=>exact h.n
  |cell b k=>simp only[setPos,Ti];exact h.n
 .rw[J k (λe=>by rw[e,P]at hk;cases hk)];exact h.I k o hk
 .rw[J k (λe=>by rw[e,Q]at hk;cases hk)];exact h.F k o hk
 .refine{slots:=λs=>?_,blocks:=λb xs hx=>?_,inj:=q.inj,free:=λr k u=>?_}
  .by_cases E:(.slot s:Pos)=p
   .subst E;simp only[aa]at d;rw[d,H];exact hs
   .have:=A _ E;simp only[aa]at this;rw[this];exact az.frame (Gh.le.refl g) (l _ E) (q.slots s)
  .cases p with
   |slot s=>
    obtain⟨arr,T,h1,D,m⟩:=q.blocks b xs hx;exact⟨arr,T,by rw[f b (i (show st.h[b]?=some xs from hx))];exact h1,D,λk x hk=>⟨(m k x hk).1,az.frame (Gh.le.refl g) (l _ (by intro e;cases e)) (m k x hk).2⟩⟩
   |cell b0 k0=>
    simp only[setPos]at hx;rw[Ts]at hx;split at hx
    .rename_i v;subst v;split at hx
     .rename_i z;simp only[TC]at hx;subst hx;simp only[SI,SH z,Tx];obtain⟨arr,T,h1,D,m⟩:=q.blocks b0 _ (SH z);refine⟨arr,T,by rw[f b0 (i (SH z))];exact h1,⟨by simpa using D.1,D.2⟩,λk x hk=>?_⟩;rw[Ts]at hk;split at hk
      .rename_i y;subst y;split at hk
       .cases hk
        refine⟨(by cases sv'<;>first|rfl|cases ho),?_⟩;rw[H];simpa[an,h1]using hs
       .cases hk
      .rename_i y;exact⟨(m k x hk).1,az.frame (Gh.le.refl g) (l _ (by intro e;cases e;exact y rfl)) (m k x hk).2⟩
     .cases hx
    .rename_i v;obtain⟨arr,T,h1,D,m⟩:=q.blocks b xs hx;exact⟨arr,T,by rw[f b (i hx)];exact h1,D,λk x hk=>⟨(m k x hk).1,az.frame (Gh.le.refl g) (l _ (by intro e;cases e;exact v rfl)) (m k x hk).2⟩⟩
  .obtain⟨N,O,a3,a4⟩:=q.free r k u;exact⟨N,O,by rw[G];exact a3,a4⟩
 .by_cases E:(.slot s:Pos)=p
  .subst E;simp only[aa]at d;rw[d];cases sv'<;>first|trivial|cases ho
  .have:=A _ E;simp only[aa]at this;rw[this];exact bX.write A d t L C (h.al s)
/-! ### A new block of the walk's own -/
def St.grow(st:St)(xs:List SV):St:=⟨st.t,st.h++[xs]⟩
theorem Sim.blockNew{g:Gh}{st:St}{a:Act}{w:World}(h:Sim g st a w)(xs:List PV)(arr:Array Value)(T:TypeId)(Q:aj g xs arr.toList)(J:∀v∈arr.toList,v.oneCell'=true):
 ∃g',g.to g'∧g.le g'∧g'.n=g.n+1∧g'.μ g.n=w.heap.size∧Sim g' (st.grow (xs.map .pv)) a (w.alloc (.cells arr T)):=by
 obtain⟨bl,j⟩:=h.own;have m:∀{c o},w.heap[c]?=some o->c<w.heap.size:=λV=>(S5.1 V).1;have C:(w.alloc (.cells arr T)).heap[w.heap.size]?=some (.cells arr T (0,0)):=heap_alloc_new w _;have f:∀k,k<w.heap.size->(w.alloc (.cells arr T)).heap[k]?=w.heap[k]?:=λk hk=>heap_alloc_old w _ hk;have G:∀b,b<g.n->g.μ b<w.heap.size:=λb d=>by
  obtain⟨_,_,E,_⟩:=j.blocks b _ (SH (h.n▸d));exact m E
 let g':Gh:={g with n:=g.n+1,μ:=λb=>if b=g.n then w.heap.size else g.μ b}
 have hle:g.le g':=⟨λ_ _ h=>h,SQ _,UX _,λb d=>by show(if b=g.n then _ else _)=_;rw[SM (by omega)]⟩;have L:g.I w.heap.size=none:=(h.fresh j (SQ _)).I;have K:g.F w.heap.size=none:=(h.fresh j (SQ _)).F;refine⟨g',⟨λ_ _ h=>h,rfl,rfl,rfl,rfl,rfl,TD h.n0 (UX _),λb d=>hle.μ b (Uc d h.n0),λ_ _ h=>h⟩,hle,rfl,by show(if g.n=g.n then _ else _)=_;rw[SN rfl],?_⟩;have A:∀p c,bl p=some c->(w.alloc (.cells arr T)).heap[c]?=w.heap[c]?:=λp c u=>f c (j.free p c u).2.2.1;have O:∀p,(aa (st.grow (xs.map .pv)) p).isOwn=true->aa (st.grow (xs.map .pv)) p=aa st p∧an g' a (w.alloc (.cells arr T)) p=an g a w p:=by
  intro p hp;cases p with
  |slot s=>exact⟨rfl,rfl⟩
  |cell b k=>
   simp only[aa,St.grow,SI]at hp⊢;rcases UB b st.h.length with l|l|l
   .rw[SO l]at hp⊢;refine⟨rfl,?_⟩;have d:b<g.n:=by rw[h.n];exact l
    simp only[an];rw[hle.μ b d,f _ (G b d)]
   .exfalso;rw[l,Td (SQ _)]at hp;simp only[UW,TU,Tx,Tg]at hp;cases hx:xs[k]?with
    |none=>simp[hx,SV.isOwn]at hp
    |some y=>simp[hx,SV.isOwn]at hp
   .exfalso;have hz:(st.h++[xs.map SV.pv])[b]?=none:=Ty (by simp only[SX,To,List.length_nil];omega);rw[hz]at hp;simp[SV.isOwn]at hp
 have i:∀p c,(match p with|.cell b _=>if b=g.n then none else bl p|.slot _=>bl p)=some c->bl p=some c:=by
  intro p c hp;cases p with
  |slot s=>exact hp
  |cell b k=>
   have r:(if b=g.n then none else bl (.cell b k))=some c:=hp;split at r
   .cases r
   .exact r
 refine{size:=h.size,defs:=h.defs,env:=h.env,n:=?_,n0:=TD h.n0 (UX _),B:=?_,I:=λc o u=>?_,F:=λc o u=>?_,μI:=λb d=>?_,μinj:=λb b' d t z=>?_,own:=⟨λp=>match p with|.cell b _=>if b=g.n then none else bl p|.slot _=>bl p,?_⟩,al:=λs=>bX.congr O (h.al s)}
 .show g.n+1=_;rw[h.n];simp[St.grow]
 .have:=h.B;simp only[World.size_alloc];exact Nat.le_succ_of_le this
 .have:=h.I c o u;rw[f c (m this)];exact this
 .have:=h.F c o u;rw[f c (m this)];exact this
 .by_cases e:b=g.n
  .show g.I (if b=g.n then _ else _)=none∧g.F (if b=g.n then _ else _)=none;rw[SN e];exact⟨L,K⟩
  .show g.I (if b=g.n then _ else _)=none∧g.F (if b=g.n then _ else _)=none;rw[SM e];exact h.μI b (by have:b<g.n+1:=d;omega)
 .change(if b=g.n then w.heap.size else g.μ b)=(if b'=g.n then w.heap.size else g.μ b')at z
  have h1:b<g.n+1:=d;have P:b'<g.n+1:=t
  by_cases H:b=g.n
  .by_cases D:b'=g.n
   .omega
   .rw[SN H,SM D]at z;have:=G b' (by omega);omega
  .by_cases D:b'=g.n
   .rw[SM H,SN D]at z;have:=G b (by omega);omega
   .rw[SM H,SM D]at z;exact h.μinj b b' (by omega) (by omega) z
 .refine{slots:=λs=>az.frame hle (A (.slot s)) (j.slots s),blocks:=λb ys hy=>?_,inj:=λp q c hp W=>j.inj p q c (i p c hp) (i q c W),free:=λp c hp=>?_}
  .simp only[St.grow]at hy
   by_cases l:b<st.h.length
   .rw[SO l]at hy;have d:b<g.n:=by rw[h.n];exact l
    obtain⟨arr',T',h1,P,E⟩:=j.blocks b ys hy;refine⟨arr',T',by rw[hle.μ b d,f _ (G b d)];exact h1,P,λk x hk=>?_⟩;simp only[SM (Xb d)];exact⟨(E k x hk).1,az.frame hle (A (.cell b k)) (E k x hk).2⟩
   .have e:b=st.h.length:=by
     have:=(SG.1 hy).1;simp at this;omega
    rw[e,Td (SQ _)]at hy;simp only[UW,TU,TC]at hy;subst hy;have d:b=g.n:=by rw[e,h.n]
    refine⟨arr,T,by show(w.alloc _).heap[if b=g.n then _ else _]?=_;rw[SN d];exact C,⟨by have:=Q.length;simpa using this,J⟩,λk x hk=>?_⟩;rw[Tg,Tk]at hk;obtain⟨y,hy,rfl⟩:=hk;obtain⟨v,R,M⟩:=Q.get k y hy;simp only[SN d];refine⟨rfl,rfl,?_⟩;have:arr.getD k undef=v:=by
     rw[SR]at R;simp[S8,R]
    rw[this];exact Fit.mono hle _ _ M
  .have N:=i p c hp;obtain⟨S,U,a3,a4⟩:=j.free p c N;refine⟨S,U,by simp only[World.size_alloc];omega,λb d=>?_⟩;show(if b=g.n then w.heap.size else g.μ b)≠c
   by_cases e:b=g.n
   .rw[SN e];omega
   .rw[SM e];exact a4 b (by have:b<g.n+1:=d;omega)
end Go.AX
namespace Go.AX
def splice{α:Type}(xs:List α)(k:Nat)(ys:List α):List α:=xs.take k++ys++xs.drop (k+ys.length)
theorem bV{α:Type}{xs:List α}{k:Nat}{ys:List α}(h:k+ys.length<=xs.length):(splice xs k ys).length=xs.length:=by
 simp[splice];omega
theorem eA{α:Type}{xs:List α}{k:Nat}{ys:List α}(h:k+ys.length<=xs.length)(i:Nat):
 (splice xs k ys)[i]?=if k<=i∧i<k+ys.length then ys[i -k]?else xs[i]?:=by
 unfold splice
 by_cases h1:i<k
 .rw[SM (by omega),Tn,SO (by simp;omega),TR,SN h1]
 .by_cases a:i<k+ys.length
  .rw[SN ⟨by omega,a⟩,Tn,Td (by simp;omega),SO (by simp;omega)];congr 1;simp;omega
  .rw[SM (by omega),Td (by simp;omega),T5];congr 1;simp;omega
def aL(b k n:Nat):Pos->Bool
 |.slot _=>false
 |.cell b' k'=>b==b'&&decide (k<=k')&&decide (k'<k+n)
theorem Sim.blockWriteO{g:Gh}{st:St}{a:Act}{w w':World}(h:Sim g st a w){bl:Pos->Option Nat}(J:Owns g st a w bl){b k0:Nat}{xs:List SV}{arr arr':Array Value}{T:TypeId}{ys:List PV}{vs:List Value}
 (hx:st.h[b]?=some xs) (hk:k0+ys.length<=xs.length) (ha:w.heap[g.μ b]?=some (.cells arr T (0,0))) (hf:aj g ys vs) (V:∀v∈vs,v.oneCell'=true)
 (X:bT w'=bT w) (P:w'.heap.size=w.heap.size) (U:∀c,c≠g.μ b->w'.heap[c]?=w.heap[c]?) (r:∃T',w'.heap[g.μ b]?=some (.cells arr' T' (0,0))) (j:arr'.toList=splice arr.toList k0 vs):
 Sim g ⟨aH (aL b k0 ys.length) st.t,st.h.set b (splice xs k0 (ys.map .pv))⟩ a w'∧Owns g ⟨aH (aL b k0 ys.length) st.t,st.h.set b (splice xs k0 (ys.map .pv))⟩ a w' (λp=>if aL b k0 ys.length p=true then none else bl p):=by
 obtain⟨T',r⟩:=r;have u:b<g.n:=by rw[h.n];exact(SG.1 hx).1
 have M:b<st.h.length:=(SG.1 hx).1;obtain⟨ad,T0,b1,b2,b3⟩:=J.blocks b xs hx;rw[ha]at b1;cases b1;obtain⟨b2,L⟩:=b2;have R:vs.length=ys.length:=hf.length;have Q:k0+vs.length<=arr.toList.length:=by simp[b2,R];exact hk
 have A:∀{b':Nat}{z:List SV},st.h[b']?=some z->b'<g.n:=λi=>by rw[h.n];exact(SG.1 i).1
 have D:∀b',b'<g.n->b'≠b->w'.heap[g.μ b']?=w.heap[g.μ b']?:=λb' hn Z=>U _ (λe=>Z (h.μinj b' b hn u e));have H:∀p c,bl p=some c->w'.heap[c]?=w.heap[c]?:=λp c G=>U c (λe=>(J.free p c G).2.2.2 b u e.symm);have l:∀k,arr'.getD k undef=if k0<=k∧k<k0+ys.length then(vs[k -k0]?).getD undef else arr.getD k undef:=λk=>by
  rw[S8,←SR,j,eA Q,R];split
  .rfl
  .rw[S8,SR]
 have S:k0+(ys.map SV.pv).length<=xs.length:=by simpa using hk
 have C:∀k,(splice xs k0 (ys.map SV.pv))[k]?=if k0<=k∧k<k0+ys.length then(ys[k -k0]?).map SV.pv else xs[k]?:=λk=>by
  rw[eA S];simp only[SZ,Tg]
 have O:∀p,aL b k0 ys.length p=false->(aa ⟨aH (aL b k0 ys.length) st.t,st.h.set b (splice xs k0 (ys.map .pv))⟩ p).isOwn=true->
  aa ⟨aH (aL b k0 ys.length) st.t,st.h.set b (splice xs k0 (ys.map .pv))⟩ p=aa st p∧an g a w' p=an g a w p:=by
  intro p ab hp;cases p with
  |slot s=>simp only[aa,aW]at hp⊢;exact⟨d4 hp,by first|rfl|trivial⟩
  |cell b' k=>
   by_cases f:b'=b
   .subst f;have N:¬(k0<=k∧k<k0+ys.length):=by
     intro hh;simp[aL,hh.1,hh.2]at ab
    refine⟨?_,?_⟩
    .simp only[aa,SI,Ts,M,UO,Tx,C,SM N,hx]
    .simp only[an,r,ha,l,SM N]
   .simp only[aa,SI,Ts,SM (Vq f)]at hp⊢;refine⟨by first|rfl|trivial,?_⟩;cases hy:st.h[b']?with
    |none=>simp[hy,SV.isOwn]at hp
    |some z=>simp only[an,D b' (A hy) f]
 have E:Owns g ⟨aH (aL b k0 ys.length) st.t,st.h.set b (splice xs k0 (ys.map .pv))⟩ a w' (λp=>if aL b k0 ys.length p=true then none else bl p):=by
  refine{slots:=λs=>?_,blocks:=λb' z i=>?_,inj:=λp q c hp hq=>?_,free:=λp c hp=>?_}
  .rw[SM (by simp[aL]),aW];exact az.frame (Gh.le.refl g) (H _) (az.kill _ (J.slots s))
  .rw[Ts]at i;split at i
   .rename_i f;subst f
    try rw[SN M]at i
    cases i
    refine⟨arr',T',r,⟨?_,λv m=>?_⟩,λk x d=>?_⟩
    .rw[←TI,j,bV Q,bV S,TI];exact b2
    .rw[j]at m;simp only[splice,S7]at m;rcases m with(m|m)|m
     .exact L v (TL m)
     .exact V v m
     .exact L v (UV m)
    .rw[C]at d;split at d
     .rename_i hin;rw[Tk]at d;obtain⟨y,hy,rfl⟩:=d;obtain⟨v,m,Y⟩:=hf.get _ y hy;rw[SN (by simp[aL,hin.1,hin.2]),l,SN hin,m];exact⟨rfl,rfl,Y⟩
     .rename_i hin;rw[SM (by simp[aL];intro h1;omega),l,SM hin];exact⟨(b3 k x d).1,az.frame (Gh.le.refl g) (H _) (b3 k x d).2⟩
   .rename_i f;obtain⟨K,T1,c1,c2,c3⟩:=J.blocks b' z i;refine⟨K,T1,by rw[D b' (A i) (Vq f)];exact c1,c2,λk x d=>?_⟩;rw[SM (by simp[aL,f])];exact⟨(c3 k x d).1,az.frame (Gh.le.refl g) (H _) (c3 k x d).2⟩
  .split at hp
   .cases hp
   .split at hq
    .cases hq
    .exact J.inj p q c hp hq
  .split at hp
   .cases hp
   .obtain⟨f1,f2,f3,f4⟩:=J.free p c hp;exact⟨f1,f2,by rw[P];exact f3,f4⟩
 refine⟨{size:=h.size,defs:=h.defs,env:=X.trans h.env,n:=by simp only[Ti];exact h.n,n0:=h.n0,B:=by rw[P];exact h.B,I:=λc o G=>?_,F:=λc o G=>?_,μI:=h.μI,μinj:=h.μinj,own:=⟨_,E⟩,al:=λs=>?_},E⟩
 .rw[U c (λe=>by have:=(h.μI b u).1;rw[←e,G]at this;cases this)];exact h.I c o G
 .rw[U c (λe=>by have:=(h.μI b u).2;rw[←e,G]at this;cases this)];exact h.F c o G
 .rw[aW];rcases bB (aL b k0 ys.length) (look st.t s)with e|⟨e,W⟩
  .rw[e];trivial
  .rw[e];exact bX.congrA O W (h.al s)
theorem Sim.blockWrite{g:Gh}{st:St}{a:Act}{w w':World}(h:Sim g st a w){b k0:Nat}{xs:List SV}{arr arr':Array Value}{T:TypeId}{ys:List PV}{vs:List Value}
 (hx:st.h[b]?=some xs) (hk:k0+ys.length<=xs.length) (k:w.heap[g.μ b]?=some (.cells arr T (0,0))) (m:aj g ys vs) (e:∀v∈vs,v.oneCell'=true)
 (i:bT w'=bT w) (j:w'.heap.size=w.heap.size) (n:∀c,c≠g.μ b->w'.heap[c]?=w.heap[c]?) (f:∃T',w'.heap[g.μ b]?=some (.cells arr' T' (0,0))) (d:arr'.toList=splice arr.toList k0 vs):
 Sim g ⟨aH (aL b k0 ys.length) st.t,st.h.set b (splice xs k0 (ys.map .pv))⟩ a w':=by
 obtain⟨bl,l⟩:=h.own;exact(h.blockWriteO l hx hk k m e i j n f d).1
/-! ### Freezing -/
def mj:SV->PV
 |.own nw e rows=>.seq nw e rows
 |.omap nw es=>.amap nw es
 |.pv x=>x
 |_=>.bot
theorem Sim.freeze{g:Gh}{st:St}{a:Act}{w:World}(h:Sim g st a w){p:Pos}(i:(aa st p).isOwn=true):
 ∃g',g.to g'∧g.le g'∧g'.n=g.n∧Fit g' (mj (aa st p)) (an g a w p)∧Sim g' (setPos st p (.pv (mj (aa st p)))) a w∧∀r,an g' a w r=an g a w r:=by
 obtain⟨bl,l⟩:=h.own;have f:=bm l i
 let g':Gh:={g with I:=λc=>if bl p=some c then w.heap[c]?else g.I c}
 have hle:g.le g':=⟨λc o m=>by
  show(if bl p=some c then w.heap[c]?else g.I c)=some o;split
  .rename_i e;rw[(l.free p c e).1]at m;cases m
  .exact m,SQ _,SQ _,λ_ _=>rfl⟩
 have L:g.to g':=⟨hle.I,rfl,rfl,rfl,rfl,rfl,h.n0,λ_ _=>rfl,λc W X=>by
  show(if bl p=some c then w.heap[c]?else g.I c)=none;rw[SM (λe=>W (l.free p c e).2.1)];exact X⟩
 have y:Fit g' (mj (aa st p)) (an g a w p):=by
  cases hs:aa st p with
  |own nw e rows=>
   rw[hs]at f;rcases f with⟨_,rfl,D⟩|⟨c,m,cap,arr,T,vs,D,J,M,H,O,P,Q⟩
   .exact⟨none,0,D,SQ _,.inl rfl⟩
   .exact⟨_,cap,D,H.1,.inr ⟨c,0,arr,T,(0,0),vs,rfl,by show(if bl p=some c then w.heap[c]?else g.I c)=_;rw[SN m];exact J,Q,av.mono hle _ _ _ O,by simpa using P⟩⟩
  |omap nw es=>
   rw[hs]at f;obtain⟨c,m,en,ck,D,J,M,H⟩:=f;exact⟨c,en,ck,D,by show(if bl p=some c then w.heap[c]?else g.I c)=_;rw[SN m];exact J,H.1,bG.mono hle _ _ M,H.2⟩
  |_=>rw[hs]at i;cases i
 generalize mj (aa st p)=fz at*;refine⟨g',L,hle,rfl,y,?_,λr=>rfl⟩;obtain⟨_,N,Y,h1,Z,h3⟩:=h.drop l p;have A:=λr (j:r≠p)=>cQ st p r (.pv fz) (Vq j);have d:=cu (sv:=.pv fz) i;have C:∀r,(aa (setPos st p (.pv fz)) r).isOwn=true->aa (setPos st p (.pv fz)) r=aa st r∧an g' a w r=an g a w r:=by
  intro r j
  by_cases t:r=p
  .subst t;rw[d]at j;cases j
  .exact⟨A r t,rfl⟩
 refine{size:=h.size,defs:=h.defs,env:=h.env,n:=?_,n0:=h.n0,B:=h.B,I:=λc o m=>?_,F:=h.F,μI:=λb v=>?_,μinj:=h.μinj,own:=⟨λr=>if r=p then none else bl r,?_⟩,al:=λs=>?_}
 .cases p with
  |slot s=>exact h.n
  |cell b k=>simp only[setPos,Ti];exact h.n
 .change(if bl p=some c then w.heap[c]?else g.I c)=some o at m
  split at m
  .exact m
  .exact h.I c o m
 .refine⟨?_,(h.μI b v).2⟩;show(if bl p=some (g.μ b)then w.heap[g.μ b]?else g.I (g.μ b))=none;rw[SM (λe=>(l.free p _ e).2.2.2 b v rfl)];exact(h.μI b v).1
 .refine{slots:=λs=>?_,blocks:=λb xs hx=>?_,inj:=λr q c j K=>?_,free:=λr c j=>?_}
  .by_cases t:(.slot s:Pos)=p
   .subst t;rw[SN rfl];simp only[aa]at d;rw[d];exact⟨rfl,y⟩
   .rw[SM t];have:=A _ t;simp only[aa]at this;rw[this];exact az.frame hle (λ_ _=>rfl) (l.slots s)
  .cases p with
   |slot s=>
    obtain⟨arr,T,c1,c2,c3⟩:=l.blocks b xs hx;refine⟨arr,T,c1,c2,λk x hk=>?_⟩;rw[SM (by intro e;cases e)];exact⟨(c3 k x hk).1,az.frame hle (λ_ _=>rfl) (c3 k x hk).2⟩
   |cell b0 k0=>
    simp only[setPos]at hx;rw[Ts]at hx;split at hx
    .rename_i u;subst u;split at hx
     .rename_i E;simp only[TC]at hx;subst hx;obtain⟨arr,T,c1,c2,c3⟩:=l.blocks b0 _ (SH E);simp only[SI,SH E,Tx];refine⟨arr,T,c1,⟨by simpa using c2.1,c2.2⟩,λk x hk=>?_⟩;rw[Ts]at hk;split at hk
      .rename_i z;subst z;split at hk
       .cases hk
        rw[SN rfl];refine⟨rfl,rfl,?_⟩;have:an g a w (.cell b0 k0)=arr.getD k0 undef:=by simp[an,c1]
        rw[←this];exact y
       .cases hk
      .rename_i z;rw[SM (by intro e;cases e;exact z rfl)];exact⟨(c3 k x hk).1,az.frame hle (λ_ _=>rfl) (c3 k x hk).2⟩
     .cases hx
    .rename_i u;obtain⟨arr,T,c1,c2,c3⟩:=l.blocks b xs hx;refine⟨arr,T,c1,c2,λk x hk=>?_⟩;rw[SM (by intro e;cases e;exact u rfl)];exact⟨(c3 k x hk).1,az.frame hle (λ_ _=>rfl) (c3 k x hk).2⟩
  .split at j
   .cases j
   .split at K
    .cases K
    .exact l.inj r q c j K
  .split at j
   .cases j
   .rename_i G;obtain⟨R,S,U,V⟩:=l.free r c j;refine⟨?_,S,U,V⟩;show(if bl p=some c then w.heap[c]?else g.I c)=none;rw[SM (λe=>G (l.inj r p c j e))];exact R
 .by_cases t:(.slot s:Pos)=p
  .subst t;simp only[aa]at d;rw[d];trivial
  .have:=A _ t;simp only[aa]at this;rw[this];exact bX.congr C (h.al s)
end Go.AX
namespace Go.AX
/-! ### One-cell values -/
def PV.one:PV->Bool
 |.bot=>false
 |.lit v=>v.oneCell'
 |.agg _=>false
 |.tup _=>false
 |.ifc _ _=>true
 |.seq _ _ _=>true
 |.iptr _ _ _ _=>true
 |.ptr _ _=>true
 |.bsl _ _ _ _ _=>true
 |.fn _ _ _=>true
 |.amap _ _=>true
theorem wM{g:Gh}:∀{x:PV}{v:Value},x.one=true->Fit g x v->v.oneCell'=true
 |.bot,_,h,_=>by cases h
 |.lit _,_,h,a=>by cases a;exact h
 |.agg _,_,h,_=>by cases h
 |.tup _,_,h,_=>by cases h
 |.ifc _ _,_,_,⟨_,h,_⟩=>by rw[h];rfl
 |.seq _ _ _,_,_,⟨_,_,h,_⟩=>by rw[h];rfl
 |.iptr _ _ _ _,_,_,⟨_,_,_,_,_,_,h,_⟩=>by rw[h];rfl
 |.ptr _ _,_,_,⟨_,h⟩=>by rw[h];rfl
 |.bsl _ _ _ _ _,_,_,⟨_,_,h⟩=>by rw[h];rfl
 |.fn _ _ _,_,_,⟨_,_,h,_⟩=>by rw[h];rfl
 |.amap _ _,_,_,⟨_,_,_,h,_⟩=>by rw[h];rfl
def bI:List PV->Bool
 |[]=>true
 |x::xs=>x.one&&bI xs
theorem dB{g:Gh}:∀{xs:List PV}{vs:List Value},bI xs=true->aj g xs vs->∀v∈vs,v.oneCell'=true
 |[],_,_,h=>by simp only[aj]at h;subst h;simp
 |_::_,_,a,⟨_,_,h1,c,d⟩=>by
  simp only[bI,S4]at a;subst h1;intro u b;rcases Tp.1 b with rfl|b
  .exact wM a.1 c
  .exact dB a.2 d u b
theorem iI{g:Gh}{x:PV}{v:Value}(h:Fit g x v)(hx:x.one=true∨dv (.pv x)):aj g (aP x) v.cells.toList:=by
 rcases hx with hx|hx
 .have h1:=wM hx h;have a:v.cells=#[v]:=by cases v<;>first|rfl|(simp[Value.oneCell']at h1)
  rw[a];have:aP x=[x]:=by
   cases x with
   |lit u=>cases u<;>first|rfl|(simp[PV.one,Value.oneCell']at hx)
   |agg _=>cases hx
   |_=>rfl
  rw[this];exact⟨v,[],rfl,h,rfl⟩
 .obtain⟨vs,rfl,b⟩:=sG (w:=default) (x:=.pv x) (v:=v) ⟨rfl,h⟩ hx;exact b
theorem yn{α:Type}(xs:List α)(o:Nat)(x:α)(l:List α)(h:o+(x::l).length<=xs.length):splice xs o (x::l)=splice (xs.set o x) (o+1) l:=by
 apply T7;intro i;rw[eA h,eA (by simp at h⊢;omega)];simp only[To]at h⊢
 by_cases h1:o<=i∧i<o+(l.length+1)
 .rw[SN h1]
  by_cases a:i=o
  .subst a;rw[SM (by omega)];simp only[UW,TU];rw[Ts];simp;omega
  .rw[SN (by omega)];have:i -o=(i -(o+1))+1:=by omega
   rw[this,U2]
 .rw[SM h1,SM (by omega),Ts,SM (by omega)]
theorem Bc{α:Type}(xs:List α)(o:Nat):splice xs o []=xs:=by simp[splice]
theorem ve(off:Nat):∀(l:List Value)(k:Nat)(cells:Array Value),off+k+l.length<=cells.size->
 ((l.zipIdx k).foldl (λcs (p:Value×Nat)=>cs.setIfInBounds (off+p.2) p.1) cells).toList=splice cells.toList (off+k) l
 |[],k,cells,_=>by simp[Bc]
 |x::l,k,cells,h=>by
  simp only[List.zipIdx_cons,V8];simp only[To]at h;rw[ve off l (k+1) _ (by simp;omega),yn _ _ _ _ (by simp;omega)];simp[UN]
theorem qp(place:Nat->Option (Nat×Nat))(cells:Array Value)(i off size:Nat)(v:Value)(rest:List (Nat×Value))(hp:place i=some (off,size))(b:v.cells.size=size)(a:off+size<=cells.size):
 Instr.fill place cells ((i,v)::rest)=Instr.fill place (splice cells.toList off v.cells.toList).toArray rest:=by
 simp only[Instr.fill,hp,b,ne_eq,not_true,decide_false,VX,S9];rw[SM (by omega)];congr 1;have:=ve off v.cells.toList 0 cells (by simp[b];omega);simp only[VA]at this;rw[←this];simp only[U6];rw[←Array.foldl_toList,Array.toList_zipIdx]
theorem aj.splice{g:Gh}{xs ys:List PV}{vs a:List Value}(h:aj g xs vs)(h':aj g ys a)(k:Nat):aj g (splice xs k ys) (splice vs k a):=by
 have b:=h'.length;simp only[Go.AX.splice,b];exact((h.take k).append h').append (h.drop _)
/-! ### A struct or an array is built -/
def bInfo(P:Program)(t:TypeId):Option (List (Nat×Nat)):=
 match P.underlying t with
 |some (.struct a)=>a.toList.mapM λf=>(P.info? f.type).map λi=>(f.offset,i.size)
 |some (.array n e)=>(P.info? e).map λi=>(List.range n).map λk=>(k*i.size,i.size)
 |_=>none
def zeroV(P:Program)(t:TypeId):Option (List PV):=
 match P.info? t with
 |some i=>i.zero.map λz=>z.cells.toList.map PV.lit
 |none=>none
def re(pl:List (Nat×Nat))(cells:List PV):List (Nat×PV)->List PV×Prop
 |[]=>(cells,True)
 |(i,y)::rest=>match pl[i]?with
  |some (off,n)=>((re pl (splice cells off (aP y)) rest).1,(aP y).length=n∧off+n<=cells.length∧(y.one=true∨dv (.pv y))∧(re pl (splice cells off (aP y)) rest).2)
  |none=>(cells,False)
def rY(st:St):List (Nat×Operand)->Prop
 |[]=>True
 |(_,x)::r=>gc st x∧wJ (mv st x)∧rY st r
def ol(st:St):List (Nat×Operand)->List (Nat×PV)
 |[]=>[]
 |(i,x)::r=>(i,l3 (mv st x))::ol st r
def wN(P:Program)(st:St)(t:TypeId)(a:Array (Nat×Operand)):SV×Prop:=
 match bInfo P t,zeroV P t with
 |some pl,some zs=>(.pv (.agg (re pl zs (ol st a.toList)).1),rY st a.toList∧(re pl zs (ol st a.toList)).2)
 |_,_=>(.pv .bot,False)
theorem om(p q:Nat->Option (Nat×Nat))(h:∀i x,q i=some x->p i=some x):∀(l:List (Nat×Value))(cells out:Array Value),Instr.fill q cells l=some out->Instr.fill p cells l=some out
 |[],cells,out,ho=>by simpa[Instr.fill]using ho
 |(i,v)::rest,cells,out,ho=>by
  simp only[Instr.fill]at ho⊢;cases b:q i with
  |none=>rw[b]at ho;cases ho
  |some x=>
   rw[b]at ho;rw[h i x b];obtain⟨off,size⟩:=x;simp only at ho⊢;split
   .rename_i a;rw[SN a]at ho;cases ho
   .rename_i a;rw[SM a]at ho;exact om p q h rest _ _ ho
theorem yo{g:Gh}(pl:List (Nat×Nat)):∀(l:List (Nat×PV))(l':List (Nat×Value))(cs:List PV)(cells:Array Value),aj g cs cells.toList->l.map (·.1)=l'.map (·.1)->aj g (l.map (·.2)) (l'.map (·.2))->(re pl cs l).2->
 ∃out,Instr.fill (pl[·]?) cells l'=some out∧aj g (re pl cs l).1 out.toList
 |[],l',cs,cells,c,a,f,hd=>by
  cases l' with
  |nil=>exact⟨cells,rfl,c⟩
  |cons _ _=>cases a
 |(i,y)::rest,l',cs,cells,c,a,f,hd=>by
  cases l' with
  |nil=>cases a
  |cons p l'=>
   obtain⟨q,v⟩:=p;simp only[Th,U9]at a;obtain⟨rfl,a⟩:=a;obtain⟨s,r,e,o,m⟩:=f;simp only[Th,U9]at e;obtain⟨rfl,rfl⟩:=e;simp only[re]at hd⊢;cases hp:pl[i]?with
   |none=>rw[hp]at hd;exact hd.elim
   |some x=>
    obtain⟨off,n⟩:=x;rw[hp]at hd;obtain⟨h1,h,j,k⟩:=hd;have b:=iI o j;have d:v.cells.size=n:=by have:=b.length;rw[h1]at this;simpa using this
    have hcl:=c.length;rw[qp (pl[·]?) cells i off n v l' hp d (by rw[←TI,hcl];exact h)];exact yo pl rest l' _ _ (by simpa using c.splice b off) a m k
theorem vf{g:Gh}{st:St}{a:Act}{w:World}(h:Sim g st a w):∀(l:List (Nat×Operand)),rY st l->(ol st l).map (·.1)=(l.map λp=>(p.1,a.eval p.2)).map (·.1)∧aj g ((ol st l).map (·.2)) ((l.map λp=>(p.1,a.eval p.2)).map (·.2))
 |[],_=>⟨rfl,rfl⟩
 |(i,x)::r,hd=>by
  obtain⟨h1,e,f⟩:=hd;obtain⟨c,d⟩:=vf h r f;obtain⟨b,_⟩:=aO h x h1;rw[kU e]at b;exact⟨by simp only[ol,Th];rw[c],_,_,rfl,b.2,d⟩
theorem EY{P:Program}{st:St}(o:Oper)(t:TypeId)(b:Array (Nat×Operand))(ho:o.op=.build t b):KU P st o (wN P st t b):=by
 intro g a w h hd;unfold wN at hd⊢;split at hd
 .rename_i pl zs f hz;obtain⟨hp,hd⟩:=hd;obtain⟨s,v⟩:=vf h b.toList hp;unfold zeroV at hz;cases hi:P.info? t with
  |none=>rw[hi]at hz;cases hz
  |some E=>
   rw[hi]at hz;simp only[Tk]at hz;obtain⟨z,hz,rfl⟩:=hz;have d:∀vs:List Value,aj g (vs.map PV.lit) vs:=λvs=>by
    induction vs with
    |nil=>rfl
    |cons u B A=>exact⟨u,B,rfl,rfl,A⟩
   obtain⟨out,j,m⟩:=yo pl _ _ _ z.cells (d _) s v hd;have c:P.built t (b.toList.map λp=>(p.1,a.eval p.2))=some out:=by
    unfold bInfo at f;unfold Program.built;rw[hi];split at f
    .rename_i C q;rw[q];simp only[hz,f];simpa using j
    .rename_i n e q;simp only[Tk]at f;obtain⟨D,l,rfl⟩:=f;rw[q];simp only[hz,l];refine om _ _ (λi x hx=>?_) _ _ _ j;simp only[Tg,Tk]at hx;obtain⟨k,hk,rfl⟩:=hx;have:=SG.1 hk;obtain⟨y,r⟩:=this;simp at r;subst r;rfl
    .cases f
   refine⟨.agg out,?_,⟨rfl,out,rfl,m⟩,trivial⟩;simp only[execOp,ho,Sem.run_bind];rw[run_build w t _ out (by rw[←c];simp)];simp
 .exact hd.elim
/-! ### An index into an array's value, or a text -/
def wO(P:Program)(t:TypeId):Option (Nat×Bool×Nat):=
 match P.underlying t with
 |some (.array n e)=>(aK P e).map λp=>(n,p)
 |_=>none
def qr(P:Program)(t:TypeId)(x i:SV):SV×Prop:=
 match wO P t with
 |some (n,false,e)=>(.pv ((aP (l3 x)).getD ((aU i).toNat*e) .bot),dv x∧gn i∧0<=aU i∧aU i<n∧(aU i).toNat*e<(aP (l3 x)).length)
 |some (n,true,e)=>(.pv (.agg (((aP (l3 x)).drop ((aU i).toNat*e)).take e)),dv x∧gn i∧0<=aU i∧aU i<n)
 |none=>match P.underlying t with
  |some .string=>(.pv (.lit (.int .u8 ((lP x)[(aU i).toNat]?.getD 0).toNat)),rW x∧gn i∧0<=aU i∧aU i<(lP x).size)
  |_=>(.pv .bot,False)
theorem EZ{P:Program}{st:St}(o:Oper)(t:TypeId)(x i:Operand)(ho:o.op=.index t x i):KU P st o ((qr P t (mv st x) (mv st i)).1,gc st x∧gc st i∧(qr P t (mv st x) (mv st i)).2):=by
 intro g a w h ⟨hx,hi,hd⟩;obtain⟨A,_⟩:=aO h x hx;unfold qr at hd⊢;cases c:wO P t with
 |some q=>
  obtain⟨n,b,e⟩:=q;rw[c]at hd;unfold wO at c;split at c
  case h_2=>cases c
  rename_i D C p;simp only[Tk,Ux]at c;obtain⟨q,m,rfl,B⟩:=c;rw[B]at m;clear B;have k:=(iH m w).2;cases b with
  |false=>
   simp only at hd⊢;obtain⟨h1,f,j,l,z⟩:=hd;obtain⟨vs,u,d⟩:=sG A h1;obtain⟨v,y,r⟩:=d.get _ _ (SH z);refine⟨v,?_,⟨rfl,by simpa[List.getD,SH z]using r⟩,trivial⟩;simp[execOp,ho,u,bY h hi f,Instr.index,run_underlying p,asIntOf,j,l,k,vc w vs _ v m (by rw[←SR];exact y)]
  |true=>
   simp only at hd⊢;obtain⟨h1,f,j,l⟩:=hd;obtain⟨vs,u,d⟩:=sG A h1;refine⟨.agg (vs.extract ((aU (mv st i)).toNat*e) ((aU (mv st i)).toNat*e+e)),?_,⟨rfl,_,rfl,?_⟩,trivial⟩
   .simp[execOp,ho,u,bY h hi f,Instr.index,run_underlying p,asIntOf,j,l,k,yl w vs _ m]
   .have:=(d.drop ((aU (mv st i)).toNat*e)).take e;rw[Xz];simpa[List.extract]using this
 |none=>
  rw[c]at hd;simp only at hd⊢;split at hd
  .rename_i p;obtain⟨h1,f,j,l⟩:=hd;have s:(aU (mv st i)).toNat<(lP (mv st x)).size:=by omega
   refine⟨_,?_,⟨rfl,rfl⟩,trivial⟩;simp only[execOp,ho,qn h hx h1,bY h hi f,Instr.index,asIntOf,Sem.run_bind,Sem.run_pure,Result.andThen_ok,run_underlying p,SN j];have:(lP (mv st x))[(aU (mv st i)).toNat]?=some ((lP (mv st x))[(aU (mv st i)).toNat]):=by simp[s]
   rw[this];simp
  .exact hd.elim
/-! ### A function is made -/
def nK(st:St):List Operand->Prop
 |[]=>True
 |x::r=>gc st x∧wJ (mv st x)∧nK st r
def jo(st:St):List Operand->List PV
 |[]=>[]
 |x::r=>l3 (mv st x)::jo st r
theorem ml{g:Gh}{st:St}{a:Act}{w:World}(h:Sim g st a w):∀(l:List Operand),nK st l->aj g (jo st l) (l.map a.eval)
 |[],_=>rfl
 |x::r,⟨h1,c,d⟩=>by
  obtain⟨b,_⟩:=aO h x h1;rw[kU c]at b;exact⟨_,_,rfl,b.2,ml h r d⟩
def Bd(st:St)(f:Fn)(first cap:Array Operand):SV×Prop:=(.pv (.fn f (jo st first.toList) (jo st cap.toList)),nK st first.toList∧nK st cap.toList)
theorem E8{P:Program}{st:St}(o:Oper)(f:Fn)(first cap:Array Operand)(ho:o.op=.makeFunc f first cap):KU P st o (Bd st f first cap):=by
 intro g a w h ⟨h1,b⟩;refine⟨.func f (first.map a.eval) (cap.map a.eval),by simp[execOp,ho,Instr.makeFunc],⟨rfl,_,_,rfl,?_,?_⟩,trivial⟩
 .simpa using ml h _ h1
 .simpa using ml h _ b
/-! ### Maps -/
def df:List (Int×PV)->Int->Option PV
 |[],_=>none
 |(k,x)::r,n=>if k=n then some x else df r n
def entriesOf(st:St):SV->List (Int×PV)
 |.pv (.amap _ es)=>es
 |.al p=>match aa st p with
  |.omap _ es=>es
  |_=>[]
 |_=>[]
def isMap(st:St):SV->Prop
 |.pv (.amap _ _)=>True
 |.pv (.lit (.map none))=>True
 |.al p=>match aa st p with
  |.omap _ _=>True
  |_=>False
 |_=>False
def oq(P:Program)(t:TypeId):Option PV:=
 match P.underlying t with
 |some (.map k e)=>match P.underlying k with
  |some (.int _)=>match P.info? e with
   |some i=>match i.zero with
    |some (.agg vs)=>some (.agg (vs.toList.map .lit))
    |some z=>some (.lit z)
    |none=>none
   |none=>none
  |_=>none
 |_=>none
def vg(P:Program)(st:St)(t:TypeId)(x k:SV)(ok:Bool):SV×Prop:=
 match oq P t with
 |some z=>(.pv (if ok=true then .tup [(df (entriesOf st x) (aU k)).getD z,.lit (.bool (df (entriesOf st x) (aU k)).isSome)]else(df (entriesOf st x) (aU k)).getD z),isMap st x∧gn k∧gm k=.i64)
 |none=>(.pv .bot,False)
theorem sI{g:Gh}{kk:IntKind}{n:Int}:∀{es:List (Int×PV)}{en:List MapEntry}(_:bG g es en)(j:Nat),
 ∃r,Instr.findNow (.int kk) (.int .i64 n) en j=some r∧(r=none∧df es n=none∨∃i m x,r=some (j+i,m.val)∧en[i]?=some m∧m.key=.int .i64 n∧df es n=some x∧Fit g x m.val)
 |[],en,h,j=>by simp only[bG]at h;subst h;exact⟨none,rfl,.inl ⟨rfl,rfl⟩⟩
 |(k,x)::es,en,⟨m,r,h1,b,p,q⟩,j=>by
  subst h1;simp only[Instr.findNow,b,Instr.sameNow,UO,df]
  by_cases hk:k=n
  .subst hk;simp only[Wm,UO];exact⟨_,rfl,.inr ⟨0,m,x,rfl,rfl,b,rfl,p⟩⟩
  .have s:(n==k)=false:=by simp;exactλe=>hk e.symm
   simp only[s,SM hk];obtain⟨u,c,a⟩:=sI (n:=n) q (j+1);refine⟨u,c,?_⟩;rcases a with⟨rfl,a⟩|⟨i,t,v,rfl,d,f,l,o⟩
   .exact .inl ⟨rfl,a⟩
   .exact .inr ⟨i+1,t,v,by rw[UN,WM 1 i],by simpa using d,f,l,o⟩
theorem cv{P:Program}(w:World)(b:Bool)(t:TypeId)(kk k:IntKind)(n:Int)(h:P.underlying t=some (.int kk)):(Instr.checkKey b 10000 t (.int k n)).run P w=.ok () w:=by
 show(Instr.checkKey b (9999+1) t (.int k n)).run P w=_;rw[Instr.checkKey];simp only[Sem.run_bind,run_underlying h,Result.andThen_ok,Sem.run_pure]
theorem GS{g:Gh}{st:St}{a:Act}{w:World}(h:Sim g st a w){x:Operand}(m:gc st x)(d:isMap st (mv st x)):
 (a.eval x=.map none∧entriesOf st (mv st x)=[])∨∃r en ck,a.eval x=.map (some r)∧w.heap[r]?=some (.map en ck)∧bG g (entriesOf st (mv st x)) en.toList:=by
 obtain⟨e,k⟩:=aO h x m;unfold isMap at d;split at d
 .rename_i nw es hx;rw[hx]at e⊢;obtain⟨r,en,ck,f,i,_,j⟩:=e.2;exact .inr ⟨r,en,ck,f,h.I _ _ i,j.1⟩
 .rename_i hx;rw[hx]at e⊢;exact .inl ⟨e.2,rfl⟩
 .rename_i p hx;rw[hx]at k⊢;split at d
  .rename_i nw es hp;obtain⟨bl,l⟩:=h.own;have n:=k (by rw[hp];rfl);have b:=bm l (p:=p) (by rw[hp];rfl);rw[hp]at b;obtain⟨c,_,en,ck,f,i,j,_⟩:=b;exact .inr ⟨c,en,ck,n.trans f,i,by simp only[entriesOf,hp];exact j⟩
  .exact d.elim
 .exact d.elim
theorem run_findKey{P:Program}{g:Gh}(w:World)(a:TypeId)(kk:IntKind)(n:Int)(d:P.underlying a=some (.int kk)){es:List (Int×PV)}{en:List MapEntry}(h:bG g es en):
 ∃r,(Instr.findKey a (.int .i64 n) en).run P w=.ok r w∧(r=none∧df es n=none∨∃i m x,r=some (i,m.val)∧en[i]?=some m∧m.key=.int .i64 n∧df es n=some x∧Fit g x m.val):=by
 obtain⟨r,b,c⟩:=sI (kk:=kk) (n:=n) h 0;refine⟨r,?_,?_⟩
 .simp only[Instr.findKey,Sem.run_bind,run_underlying d,Result.andThen_ok,b,Sem.run_pure]
 .simpa using c
theorem GT{P:Program}{st:St}(o:Oper)(t:TypeId)(x k:Operand)(ok:Bool)(ho:o.op=.lookup t x k ok):KU P st o ((vg P st t (mv st x) (mv st k) ok).1,gc st x∧gc st k∧(vg P st t (mv st x) (mv st k) ok).2):=by
 intro g a w h ⟨hx,hk,hd⟩;unfold vg at hd⊢;cases hi:oq P t with
 |none=>rw[hi]at hd;exact hd.elim
 |some z=>
  rw[hi]at hd;simp only at hd⊢;obtain⟨h1,M,N⟩:=hd;unfold oq at hi;split at hi
  case h_2=>cases hi
  rename_i s G E;split at hi
  case h_2=>cases hi
  rename_i kk d;cases c:P.info? G with
  |none=>rw[c]at hi;cases hi
  |some F=>
   rw[c]at hi;simp only at hi;cases hz:F.zero with
   |none=>rw[hz]at hi;cases hi
   |some j=>
    rw[hz]at hi;have n:Fit g z j:=by
     have l:∀vs:List Value,aj g (vs.map PV.lit) vs:=λvs=>by
      induction vs with
      |nil=>rfl
      |cons u R O=>exact⟨u,R,rfl,rfl,O⟩
     split at hi
     .rename_i vs C;cases hi;cases C;exact⟨vs,rfl,l _⟩
     .rename_i z' _ C;cases hi;cases C;rfl
     .cases hi
    have p:(zeroValue G).run P w=.ok j w:=by simp[zeroValue,typeInfo,c,hz]
    have e:=bY h hk M;rw[N]at e;have fin:∀(v:Value)(b:Bool),Fit g ((df (entriesOf st (mv st x)) (aU (mv st k))).getD z) v->b=(df (entriesOf st (mv st x)) (aU (mv st k))).isSome->
     Fit g (if ok=true then .tup [(df (entriesOf st (mv st x)) (aU (mv st k))).getD z,.lit (.bool (df (entriesOf st (mv st x)) (aU (mv st k))).isSome)]else(df (entriesOf st (mv st x)) (aU (mv st k))).getD z) (if ok=true then .tuple #[v,.bool b]else v):=by
     intro v b H L;subst L;cases ok with
     |true=>exact⟨_,rfl,v,_,rfl,H,_,_,rfl,rfl,rfl⟩
     |false=>exact H
    rcases GS h hx h1 with⟨y,A⟩|⟨r,en,ck,y,A,K⟩
    .refine⟨if ok=true then .tuple #[j,.bool false]else j,?_,⟨rfl,fin j false (by rw[A];exact n) (by rw[A];rfl)⟩,trivial⟩;have D:(Instr.findKey s (.int .i64 (aU (mv st k))) (#[]:Array MapEntry).toList).run P w=.ok none w:=by
      simp[Instr.findKey,run_underlying d,Instr.findNow]
     simp only[execOp,ho,y,e,Instr.lookup,Sem.run_bind,run_underlying E,Result.andThen_ok,Sem.run_pure,cv w _ s kk .i64 _ d,D,p]
    .obtain⟨q,I,B⟩:=run_findKey (P:=P) w s kk (aU (mv st k)) d K;have f:(getObj r).run P w=.ok (.map en ck) w:=by simp[getObj,Sem.run,A]
     rcases B with⟨rfl,B⟩|⟨i,m,S,rfl,_,_,J,Q⟩
     .refine⟨if ok=true then .tuple #[j,.bool false]else j,?_,⟨rfl,fin j false (by rw[B];exact n) (by rw[B];rfl)⟩,trivial⟩;simp only[execOp,ho,y,e,Instr.lookup,Sem.run_bind,run_underlying E,Result.andThen_ok,Sem.run_pure,f,cv w _ s kk .i64 _ d,I,p]
     .refine⟨if ok=true then .tuple #[m.val,.bool true]else m.val,?_,⟨rfl,fin m.val true (by rw[J];exact Q) (by rw[J];rfl)⟩,trivial⟩;simp only[execOp,ho,y,e,Instr.lookup,Sem.run_bind,run_underlying E,Result.andThen_ok,Sem.run_pure,f,cv w _ s kk .i64 _ d,I]
end Go.AX
namespace Go.AX
def Dd(P:Program)(st:St)(c:Call):SV×Prop:=
 match c.callee,c.args.toList,c.argTypes.toList with
 |.builtin .len,[x],[t]=>match tk P t with
  |.slice=>((uZ P st t (mv st x)).1,gc st x∧(uZ P st t (mv st x)).2)
  |.string=>((sF (mv st x)).1,gc st x∧(sF (mv st x)).2)
  |.map=>(.int .i64 (entriesOf st (mv st x)).length,gc st x∧isMap st (mv st x))
  |_=>(.pv .bot,False)
 |.builtin .min,[x,y],_=>(.int (gm (mv st x)) (if aU (mv st y)<aU (mv st x)then aU (mv st y)else aU (mv st x)),gc st x∧gc st y∧gn (mv st x)∧gn (mv st y))
 |.builtin .max,[x,y],_=>(.int (gm (mv st x)) (if aU (mv st x)<aU (mv st y)then aU (mv st y)else aU (mv st x)),gc st x∧gc st y∧gn (mv st x)∧gn (mv st y))
 |_,_,_=>(.pv .bot,False)
def GU(P:Program)(op:BinOp)(t:TypeId)(x y:SV):SV×Prop:=
 match tk P t with
 |.int=>GJ op x y
 |.bool=>GK op x y
 |.string=>GL op x y
 |.ptr=>((EP op x y).1,yg x∧(EP op x y).2)
 |.flat n=>EQ n op x y
 |_=>(.pv .bot,False)
def wP(st:St)(op:BinOp)(x y:Operand):Option Bool:=
 match y,mv st x with
 |.const (.map none),.al p=>match aa st p,op with
  |.omap _ _,.eql=>some false
  |.omap _ _,.neq=>some true
  |_,_=>none
 |.const (.map none),.pv (.amap _ _)=>match op with
  |.eql=>some false
  |.neq=>some true
  |_=>none
 |_,_=>none
def pop(P:Program)(st:St)(o:Op):SV×Prop:=
 match o with
 |.move x=>(mv st x,gc st x)
 |.assign x=>(mv st x,gc st x)
 |.pick c x y=>((yi (mv st c) (mv st x) (mv st y)).1,gc st c∧(rV (mv st c)=true->gc st x)∧(rV (mv st c)=false->gc st y)∧(yi (mv st c) (mv st x) (mv st y)).2)
 |.unOp op _ x=>((Ol op (mv st x)).1,gc st x∧(Ol op (mv st x)).2)
 |.binOp op t x y _=>match wP st op x y with
  |some b=>(.bool b,gc st x∧tk P t=.map)
  |none=>((GU P op t (mv st x) (mv st y)).1,gc st x∧gc st y∧(GU P op t (mv st x) (mv st y)).2)
 |.fieldAddr t x f=>((qo P st t f (mv st x)).1,gc st x∧(qo P st t f (mv st x)).2)
 |.indexAddr t x i=>((EU P st t (mv st x) (mv st i)).1,gc st x∧gc st i∧(EU P st t (mv st x) (mv st i)).2)
 |.load t x=>((A2 P st t (mv st x)).1,gc st x∧(A2 P st t (mv st x)).2)
 |.extract x i=>((EV i (mv st x)).1,gc st x∧(EV i (mv st x)).2)
 |.field t x f=>((vb P t f (mv st x)).1,gc st x∧(vb P t f (mv st x)).2)
 |.convert s d x=>((EW P s d (mv st x)).1,gc st x∧(EW P s d (mv st x)).2)
 |.nilCheck x=>((Om st (mv st x)).1,gc st x∧(Om st (mv st x)).2)
 |.slice t x lo hi none=>((EX P st t (mv st x) lo hi).1,gc st x∧(EX P st t (mv st x) lo hi).2)
 |.slice t x (some lo) (some hi) (some m)=>((vd P st t (mv st x) lo hi m).1,gc st x∧(vd P st t (mv st x) lo hi m).2)
 |.call c=>Dd P st c
 |.build t ps=>wN P st t ps
 |.index t x i=>((qr P t (mv st x) (mv st i)).1,gc st x∧gc st i∧(qr P t (mv st x) (mv st i)).2)
 |.makeFunc f first cap=>Bd st f first cap
 |.lookup t x k ok=>((vg P st t (mv st x) (mv st k) ok).1,gc st x∧gc st k∧(vg P st t (mv st x) (mv st k) ok).2)
 |_=>(.pv .bot,False)
theorem De{P:Program}{t:TypeId}(h:tk P t=.bool):P.underlying t=some .bool:=by
 unfold tk at h;split at h<;>first|assumption|(cases h;done)|(split at h<;>cases h)
theorem vh{P:Program}{t:TypeId}(h:tk P t=.string):P.underlying t=some .string:=by
 unfold tk at h;split at h<;>first|assumption|(cases h;done)|(split at h<;>cases h)
theorem GV{P:Program}{t:TypeId}(h:tk P t=.map):∃k e,P.underlying t=some (.map k e):=by
 unfold tk at h;split at h<;>first|exact⟨_,_,by assumption⟩|(cases h;done)|(split at h<;>cases h)
theorem GW{P:Program}{t:TypeId}(h:tk P t=.ptr):∃e,P.underlying t=some (.pointer e):=by
 unfold tk at h;split at h<;>first|exact⟨_,by assumption⟩|(cases h;done)|(split at h<;>cases h)
theorem GX{P:Program}{st:St}(o:Oper):KU P st o (pop P st o.op):=by
 cases j:o.op
 case move x=>exact(wK o x (.inl j)).pop
 case assign x=>exact(wK o x (.inr j)).pop
 case pick c x y=>exact(yk o c x y j).pop
 case unOp op t x=>exact(GO o op t x j).pop
 case fieldAddr t x f=>exact(u9 o t f x j).pop
 case indexAddr t x i=>exact(C8 o t x i j).pop
 case load t x=>exact Bb o t x j
 case extract x i=>exact(Da o x i j).pop
 case field t x f=>exact(ym o t x f j).pop
 case convert s d x=>exact(Db o s d x j).pop
 case nilCheck x=>exact(GQ o x j).pop
 case slice t x lo hi T=>
  cases T with
  |none=>exact(Dc o t x lo hi j).pop
  |some m=>
   cases lo with
   |none=>exactλ_ _ _ _ h=>h.elim
   |some lo=>
    cases hi with
    |none=>exactλ_ _ _ _ h=>h.elim
    |some hi=>exact(GR o t x lo hi m j).pop
 case binOp op t x y u=>
  simp only[pop,GU];split
  .rename_i b l;intro g a w h ⟨hx,I⟩;obtain⟨k,e,z⟩:=GV I;unfold wP at l;split at l
   case h_3=>cases l
   case h_2=>
    rename_i nw es H;obtain⟨C,_⟩:=aO h x hx;rw[H]at C;have hy:a.eval (.const (.map none))=.map none:=rfl;obtain⟨c,en,ck,q,_⟩:=C.2;split at l
    .cases l
     refine⟨.bool false,?_,⟨rfl,rfl⟩,trivial⟩;simp only[execOp,j,q,hy,eqGuard_at_map,Sem.run_bind,Sem.run_pure,Result.andThen_ok,Go.run_eql_map_nil w t k e (some c) z];rfl
    .cases l
     refine⟨.bool true,?_,⟨rfl,rfl⟩,trivial⟩;simp only[execOp,j,q,hy,eqGuard_at_map,Sem.run_bind,Sem.run_pure,Result.andThen_ok,Go.run_neq_map_nil w t k e (some c) z];rfl
    .cases l
   rename_i p H;obtain⟨_,M⟩:=aO h x hx;rw[H]at M;obtain⟨bl,O⟩:=h.own;have key:∀(nw:Bool)(es:List (Int×PV)),aa st p=.omap nw es->∃c,a.eval x=.map (some c):=λnw es hp=>by
    have S:=M (by rw[hp];rfl);have C:=bm O (p:=p) (by rw[hp];rfl);rw[hp]at C;obtain⟨c,_,en,ck,B,_⟩:=C;exact⟨c,by rw[S,B]⟩
   have hy:a.eval (.const (.map none))=.map none:=rfl;split at l
   .rename_i nw es hp;cases l
    obtain⟨c,q⟩:=key nw es hp;refine⟨.bool false,?_,⟨rfl,rfl⟩,trivial⟩;simp only[execOp,j,q,hy,eqGuard_at_map,Sem.run_bind,Sem.run_pure,Result.andThen_ok,Go.run_eql_map_nil w t k e (some c) z];rfl
   .rename_i nw es hp;cases l
    obtain⟨c,q⟩:=key nw es hp;refine⟨.bool true,?_,⟨rfl,rfl⟩,trivial⟩;simp only[execOp,j,q,hy,eqGuard_at_map,Sem.run_bind,Sem.run_pure,Result.andThen_ok,Go.run_neq_map_nil w t k e (some c) z];rfl
   .cases l
  cases ht:tk P t with
  |int=>exact(C3 o op t u x y j).pop
  |bool=>exact(C4 o op t u x y j (De ht)).pop
  |string=>exact(C5 o op t u x y j).pop
  |ptr=>obtain⟨e,Q⟩:=GW ht;exact(C6 o op t u e x y j Q).pop
  |flat n=>exact KV o op t u x y n j ht
  |_=>exactλ_ _ _ _ h=>h.2.2.elim
 case build t ps=>exact EY o t ps j
 case index t x i=>exact EZ o t x i j
 case makeFunc f first cap=>exact E8 o f first cap j
 case lookup t x k ok=>exact GT o t x k ok j
 case call c=>
  simp only[pop,Dd];split
  .rename_i x t h1 A L;have q:c={callee:=.builtin .len,args:=#[x],argTypes:=#[t]}:=by
    cases c with
    |mk a b d=>
     simp only at h1 A L;rw[h1,show b=#[x]from by rw[←U6 (xs:=b),A],show d=#[t]from by rw[←U6 (xs:=d),L]]
   rw[q]at j;cases ht:tk P t with
   |slice=>exact(yh o t x j).pop
   |string=>exact(u6 o t x j (vh ht)).pop
   |map=>
    intro g a w h ⟨hx,hd⟩;obtain⟨k,e,z⟩:=GV ht;refine⟨_,?_,⟨rfl,rfl⟩,trivial⟩;rcases GS h hx hd with⟨B,v⟩|⟨r,en,ck,B,v,N⟩
    .simp[execOp,j,resolve,invoke,builtin,B,v,Builtin.len_,run_underlying z,goInt]
    .have R:=N.length;have D:(getObj r).run P w=.ok (.map en ck) w:=by simp[getObj,Sem.run,v]
     simp[execOp,j,resolve,invoke,builtin,B,Builtin.len_,run_underlying z,goInt,D,←R]
   |_=>exactλ_ _ _ _ h=>h.elim
  .rename_i x y h1 A;intro g a w h ⟨G,g2,J,K⟩;have v:c.args=#[x,y]:=by rw[←U6 (xs:=c.args),A]
   refine⟨_,?_,⟨rfl,rfl⟩,trivial⟩;have E:=bY h G J;have F:=bY h g2 K;simp[execOp,j,resolve,h1,v,E,F,invoke,builtin,Builtin.min_,Builtin.min2]
  .rename_i x y h1 A;intro g a w h ⟨G,g2,J,K⟩;have v:c.args=#[x,y]:=by rw[←U6 (xs:=c.args),A]
   refine⟨_,?_,⟨rfl,rfl⟩,trivial⟩;have E:=bY h G J;have F:=bY h g2 K;simp[execOp,j,resolve,h1,v,E,F,invoke,builtin,Builtin.max_,Builtin.max2]
  .exactλ_ _ _ _ h=>h.elim
 all_goals exactλ_ _ _ _ h=>h.elim
/-! ### What is laid into memory is frozen -/
def ot(st:St)(p:Pos):PV×St×Prop:=
 match aa st p with
 |.own nw e rows=>(.seq nw e rows,setPos st p (.pv (.seq nw e rows)),True)
 |.omap nw es=>(.amap nw es,setPos st p (.pv (.amap nw es)),True)
 |_=>(.bot,st,False)
def b7(st:St)(x:Operand):PV×St×Prop:=
 match mv st x with
 |.pv y=>(y,st,gc st x)
 |.al p=>((ot st p).1,(ot st p).2.1,gc st x∧(ot st p).2.2)
 |.loc p lo hi=>match aa st p with
  |.own nw e rows=>(.seq nw e ((rows.take hi).drop lo),setPos st p (.pv (.seq nw e rows)),gc st x)
  |_=>(.bot,st,False)
 |_=>(.bot,st,False)
theorem mo{g:Gh}{st:St}{a:Act}{w:World}(h:Sim g st a w)(x:Operand)(hd:(b7 st x).2.2):
 ∃g',g.to g'∧g.le g'∧g'.n=g.n∧Sim g' (b7 st x).2.1 a w∧Fit g' (b7 st x).1 (a.eval x):=by
 have d:g.to g:=⟨λ_ _ h=>h,rfl,rfl,rfl,rfl,rfl,h.n0,λ_ _=>rfl,λ_ _ h=>h⟩;unfold b7 at hd⊢;split at hd
 .rename_i y j;obtain⟨m,_⟩:=aO h x hd;rw[j]at m;exact⟨g,d,Gh.le.refl g,rfl,h,m.2⟩
 .rename_i p j;obtain⟨m,f⟩:=aO h x hd.1;rw[j]at f;have b:=hd.2;unfold ot at b⊢;split at b
  .rename_i nw e rows hp;obtain⟨g',t1,k,t3,t4,t5,_⟩:=h.freeze (p:=p) (by rw[hp];rfl);rw[hp]at t4 t5;exact⟨g',t1,k,t3,t5,by rw[f (by rw[hp];rfl)];exact t4⟩
  .rename_i nw es hp;obtain⟨g',t1,k,t3,t4,t5,_⟩:=h.freeze (p:=p) (by rw[hp];rfl);rw[hp]at t4 t5;exact⟨g',t1,k,t3,t5,by rw[f (by rw[hp];rfl)];exact t4⟩
  .exact b.elim
 .rename_i p lo hi j;split at hd
  .rename_i nw e rows hp;obtain⟨m,f⟩:=aO h x hd;rw[j]at f;obtain⟨g',t1,k,t3,t4,t5,_⟩:=h.freeze (p:=p) (by rw[hp];rfl);rw[hp]at t4 t5;refine⟨g',t1,k,t3,t5,?_⟩;obtain⟨D,t,q,cap,C,jc,r,_⟩:=f _ _ _ hp;refine⟨q,cap,by rw[C,TF,SU];congr 1;omega,by simp;omega,?_⟩
   by_cases i:lo=hi
   .left;subst i;simp
   .right;rcases r with r|⟨c,n,cp,o,rfl⟩
    .exact absurd r i
    .obtain⟨q',s,l,_,B⟩:=t4;rw[o]at l;cases l;rcases B with rfl|⟨c',off,arr,T,fz,vs,l,u,v,z,A⟩
     .simp at t;omega
     .cases l
      refine⟨c,lo*e,arr,T,fz,(vs.take (hi*e)).drop (lo*e),rfl,u,v,z.cut lo hi D t,?_⟩;have:=iQ A (lo*e) (hi*e)
      rwa [Ue,TP]at this
  .cases hd
 .exact hd.elim
def cR(st:St):List Operand->List PV×St×Prop
 |[]=>([],st,True)
 |x::xs=>((b7 st x).1::(cR (b7 st x).2.1 xs).1,(cR (b7 st x).2.1 xs).2.1,(b7 st x).2.2∧(cR (b7 st x).2.1 xs).2.2)
theorem m7:∀(xs:List Operand){g:Gh}{st:St}{a:Act}{w:World},Sim g st a w->(cR st xs).2.2->
 ∃g',g.to g'∧g.le g'∧g'.n=g.n∧Sim g' (cR st xs).2.1 a w∧aj g' (cR st xs).1 (xs.map a.eval)
 |[],g,st,a,w,h,_=>⟨g,⟨λ_ _ h=>h,rfl,rfl,rfl,rfl,rfl,h.n0,λ_ _=>rfl,λ_ _ h=>h⟩,Gh.le.refl g,rfl,h,rfl⟩
 |x::xs,g,st,a,w,h,hd=>by
  obtain⟨s,t1,e,f,p,k⟩:=mo h x hd.1;obtain⟨g2,r,d,j,q,l⟩:=m7 xs p hd.2;refine⟨g2,t1.trans r,⟨λc o m=>d.I _ _ (e.I _ _ m),TD d.B e.B,by rw[j,f];exact SQ _,λb i=>by rw[d.μ b (by rw[f];exact i),e.μ b i]⟩,j.trans f,q,_,_,rfl,Fit.mono d _ _ k,l⟩
end Go.AX
namespace Go.AX
theorem Sim.refl_to{g:Gh}{st:St}{a:Act}{w:World}(h:Sim g st a w):g.to g:=⟨λ_ _ h=>h,rfl,rfl,rfl,rfl,rfl,h.n0,λ_ _=>rfl,λ_ _ h=>h⟩
/-! ### Reading -/
def putD(d:Option Tmp)(sv:SV)(st:St):St:=
 match d with
 |some d=>st.put d sv
 |none=>st
def cg(N:Nat)(d:Option Tmp):Prop:=
 match d with
 |some d=>d<N
 |none=>True
theorem Sim.putD{g:Gh}{st:St}{a:Act}{w:World}(h:Sim g st a w){d:Option Tmp}(hd:cg g.N d){sv:SV}{v:Value}(hs:az g w sv v none)(b:bX g st a w sv v)(ho:sv.isOwn=false):
 Sim g (putD d sv st) (a.put d v) w:=by
 cases d with
 |none=>exact h
 |some d=>exact h.put hd hs b ho
/-! ### An owned value moves -/
def Df(st:St)(s d:Nat):St:=⟨(d,look st.t s)::aH (cN d) ((s,.pv .bot)::st.t),st.h⟩
theorem Sim.take{g:Gh}{st:St}{a:Act}{w:World}(h:Sim g st a w){s d:Nat}(hd:d<g.N)(ho:(look st.t s).isOwn=true):Sim g (Df st s d) (a.put (some d) (a.tmps.getD s undef)) w:=by
 obtain⟨bl,b⟩:=h.own;obtain⟨h1,i,e,k,l,j⟩:=h.drop b (.slot s);have hs:=b.slots s;refine h1.putOwn e hd rfl (SQ _) (λ_ _ _=>rfl) hs ho (λc f=>⟨(b.free _ c f).2.2.1,j c f⟩)
theorem Be{P:Program}{st:St}(o:Oper)(s d:Nat)(ho:o.op=.assign (.tmp s))(hd:o.dst=some d)(b:(look st.t s).isOwn=true){N:Nat}(c:d<N):
 ∀g a w,g.N=N->Sim g st a w->∃v w' g',(execOp a.eval o).run P w=.ok (.value v) w'∧g.to g'∧Sim g' (Df st s d) (a.put o.dst v) w':=by
 intro g a w e h;refine⟨a.tmps.getD s undef,w,g,by simp[execOp,ho,Act.eval],h.refl_to,?_⟩;rw[hd];exact h.take (e▸c) b
/-! ### New blocks of the walk's own -/
def de(P:Program)(t:TypeId):Option (List PV):=
 match P.info? t with
 |some i=>i.zero.map λz=>z.cells.toList.map PV.lit
 |none=>none
theorem d5(g:Gh):∀vs:List Value,aj g (vs.map PV.lit) vs
 |[]=>rfl
 |v::vs=>⟨v,vs,rfl,rfl,d5 g vs⟩
theorem GY{P:Program}{st:St}(o:Oper)(t:TypeId)(d:Nat)(zs:List PV)(ho:o.op=.alloc t)(hd:o.dst=some d)(hz:de P t=some zs)(b:bI zs=true){N:Nat}(c:d<N):
 ∀g a w,g.N=N->Sim g st a w->∃v w' g',(execOp a.eval o).run P w=.ok (.value v) w'∧g.to g'∧Sim g' ((st.grow (zs.map .pv)).put d (.pv (.ptr st.h.length 0))) (a.put o.dst v) w':=by
 intro g a w e h;unfold de at hz;split at hz
 case h_2=>cases hz
 rename_i i hi;simp only[Tk]at hz;obtain⟨z,hz,rfl⟩:=hz;obtain⟨g',t1,l,j,f,k⟩:=h.blockNew (z.cells.toList.map PV.lit) z.cells t (d5 g _) (dB b (d5 g _));refine⟨.pointer (some ⟨w.heap.size,0,none⟩),w.alloc (.cells z.cells t),g',?_,t1,?_⟩
 .simp only[execOp,ho,Instr.alloc,zeroValue,typeInfo,Sem.run_bind,run_program,Result.andThen_ok,hi,Sem.run_pure,hz];simp[newVar,newRow]
 .rw[hd];refine k.put (by rw[t1.N,e];exact c) ⟨rfl,?_,?_⟩ trivial rfl
  .rw[j,←h.n];omega
  .rw[←h.n,f]
theorem Nq{P:Program}{st:St}(o:Oper)(t:TypeId)(x:Operand)(d:Nat)(ho:o.op=.box t x)(hd:o.dst=some d)(k:(b7 st x).2.2)(hx:(b7 st x).1.one=true∨dv (.pv (b7 st x).1))(b:bI (aP (b7 st x).1)=true){N:Nat}(j:d<N):
 ∀g a w,g.N=N->Sim g st a w->∃v w' g',(execOp a.eval o).run P w=.ok (.value v) w'∧g.to g'∧Sim g' (((b7 st x).2.1.grow ((aP (b7 st x).1).map .pv)).put d (.pv (.ptr (b7 st x).2.1.h.length 0))) (a.put o.dst v) w':=by
 intro g a w l h;obtain⟨r,t1,s,y,c,i⟩:=mo h x k;have e:=iI i hx;obtain⟨g2,f,u,p,m,q⟩:=c.blockNew _ (a.eval x).cells t e (dB b e);refine⟨.pointer (some ⟨w.heap.size,0,none⟩),w.alloc (.cells (a.eval x).cells t),g2,?_,t1.trans f,?_⟩
 .simp[execOp,ho,Instr.box,newVar,newRow]
 .rw[hd];refine q.put (by rw[f.N,t1.N,l];exact j) ⟨rfl,?_,?_⟩ trivial rfl
  .rw[p,←c.n];omega
  .rw[←c.n,m]
/-! ### Stores -/
theorem dY{P:Program}{t:TypeId}{d:Bool}{n:Nat}(w:World)(g:aK P t=some (d,n))(v:Value)(b:v.cells.size=n)(c off:Nat)(T:TypeId)(arr:Array Value)
 (f:w.heap[c]?=some (.cells arr T (0,0))) (a:off+n<=arr.size) (h1:∀u∈v.cells.toList,u.oneCell'=true):
 (storeVar t ⟨c,off,none⟩ v).run P w=.ok () (w.setRow c (splice arr.toList off v.cells.toList).toArray):=by
 obtain⟨_,e⟩:=iH g w;have:=run_storeCells_at P c off T v.cells.toList 0 arr w f (by simp[b];omega) h1;simp only[VA]at this;simp only[storeVar,Sem.run_bind,e,Result.andThen_ok,b,ne_eq,not_true,Uo,Sem.run_ite];simpa[splice]using this
theorem E9{P:Program}{st:St}(o:Oper)(t:TypeId)(x y:Operand)(b off n:Nat)(A:Bool)(ho:o.op=.store t x y)(hd:o.dst=none)(D:aK P t=some (A,n))
 (C:(b7 st y).2.2) (e:bI (aP (b7 st y).1)=true) (hy:(b7 st y).1.one=true∨dv (.pv (b7 st y).1)) (hn:(aP (b7 st y).1).length=n)
 (hx:mv (b7 st y).2.1 x=.pv (.ptr b off)) (u:gc (b7 st y).2.1 x) (d:off+n<=((b7 st y).2.1.h.getD b []).length):
 ∀g a w,Sim g st a w->∃w' g',(execOp a.eval o).run P w=.ok .skip w'∧g.to g'∧
  Sim g' ⟨aH (aL b off n) (b7 st y).2.1.t,(b7 st y).2.1.h.set b (splice ((b7 st y).2.1.h.getD b []) off ((aP (b7 st y).1).map .pv))⟩ a w':=by
 intro g a w h;obtain⟨k,t1,F,G,l,B⟩:=mo h y C;obtain⟨j,_⟩:=aO l x u;rw[hx]at j;obtain⟨_,p,v⟩:=j;have q:b<(b7 st y).2.1.h.length:=l.n▸p;have i:(b7 st y).2.1.h[b]?=some ((b7 st y).2.1.h.getD b []):=by simp[List.getD,SH q]
 obtain⟨bl,r⟩:=l.own;obtain⟨arr,T,m,⟨z,_⟩,_⟩:=r.blocks b _ i;have f:=iI B hy;have s:(a.eval y).cells.size=n:=by have:=f.length;rw[hn]at this;simpa using this
 have E:=dY w D (a.eval y) s (k.μ b) off T arr m (by rw[z];exact d) (dB e f);refine⟨w.setRow (k.μ b) (splice arr.toList off (a.eval y).cells.toList).toArray,k,?_,t1,?_⟩
 .simp only[execOp,ho,v,Instr.storeAt,Instr.sureAddr,Sem.run_bind,Sem.run_pure,Result.andThen_ok,E]
 .have:=l.blockWrite (w':=w.setRow (k.μ b) (splice arr.toList off (a.eval y).cells.toList).toArray) i (by rw[hn];exact d) m f (dB e f) rfl (size_setRow _ _ _) (λc f=>setRow_other w _ c _ f) ⟨T,setRow_heap w _ arr _ T _ m⟩ (by simp);rw[hn]at this;exact this
theorem av.splice{g:Gh}{e:Nat}:∀{rows:List (List PV)}{vs:List Value}(_:av g e rows vs)(i k:Nat)(ys:List PV)(a:List Value),i<rows.length->k+ys.length<=e->(∀u∈a,u.oneCell'=true)->aj g ys a->
 av g e (rows.set i (AX.splice (rows.getD i []) k ys)) (AX.splice vs (i*e+k) a)
 |[],_,_,i,k,ys,a,h,_,_,_=>by simp at h
 |s::rows,_,⟨l,m,h1,c,d,j⟩,0,k,ys,a,_,hk,ho,hy=>by
  have n:=d.length;have p:=hy.length;refine⟨AX.splice l k a,m,?_,⟨?_,λv b=>?_⟩,?_,j⟩
  .rw[h1];simp only[AX.splice,V9,TP];rw[TV (by omega),Un (by omega),Tn,Tn,Tn]
  .simp only[SI,TU,Tx];rw[bV (by omega)];exact c.1
  .simp only[AX.splice,S7]at b;rcases b with(b|b)|b
   .exact c.2 v (TL b)
   .exact ho v b
   .exact c.2 v (UV b)
  .simp only[SI,TU,Tx,AX.splice];rw[←p];exact((d.take k).append hy).append (d.drop _)
 |s::rows,_,⟨l,m,h1,c,d,j⟩,i+1,k,ys,a,h,hk,ho,hy=>by
  have n:=d.length;have r:=j.length;have f:i<rows.length:=by simpa using h
  have o:i*e+e<=rows.length*e:=by rw[←UK];exact UI _ f
  have p:=hy.length;refine⟨l,AX.splice m (i*e+k) a,?_,c,d,?_⟩
  .rw[h1];simp only[AX.splice];have q:(i+1)*e+k=l.length+(i*e+k):=by rw[n,c.1,UK];omega
   rw[q,Wa,UN,VB];simp[Tn]
  .have:=av.splice j i k ys a f hk ho hy;simpa using this
theorem Bf{P:Program}{st:St}(o:Oper)(t:TypeId)(x y:Operand)(p:Pos)(i k n e:Nat)(nw:Bool)(rows:List (List PV))(M:Bool)(ho:o.op=.store t x y)(W:aK P t=some (M,n))
 (S:(b7 st y).2.2) (b:bI (aP (b7 st y).1)=true) (hy:(b7 st y).1.one=true∨dv (.pv (b7 st y).1)) (hn:(aP (b7 st y).1).length=n)
 (hx:mv (b7 st y).2.1 x=.sptr p i k) (C:gc (b7 st y).2.1 x) (hp:aa (b7 st y).2.1 p=.own nw e rows) (hi:i<rows.length) (hk:k+n<=e):
 ∀g a w,Sim g st a w->∃w' g',(execOp a.eval o).run P w=.ok .skip w'∧g.to g'∧
  Sim g' (setPos (b7 st y).2.1 p (.own nw e (rows.set i (splice (rows.getD i []) k (aP (b7 st y).1))))) a w':=by
 intro g a w h;obtain⟨R,t1,l1,n1,H,Q⟩:=mo h y S;obtain⟨U,j⟩:=aO H x C;rw[hx]at j;obtain⟨c,m,cp,v,F⟩:=j _ _ _ hp;obtain⟨bl,l⟩:=H.own;have d:(aa (b7 st y).2.1 p).isOwn=true:=by rw[hp];rfl
 have u:=bm l d;rw[hp]at u;have s:=iI Q hy;have f:(a.eval y).cells.size=n:=by have:=s.length;rw[hn]at this;simpa using this
 rcases u with⟨_,rfl,_⟩|⟨c',B,cap,arr,T,vs,I,J,z,A,K,N,O⟩
 .simp at hi
 .rw[I]at v;cases v;have L:i*e+e<=cp*e:=by rw[←UK];exact UI _ (by omega)
  have Y:=dY w W (a.eval y) f c (i*e+k) T arr J (by rw[z];omega) (dB b s);refine⟨_,R,?_,t1,H.ownWrite (w':=w.setRow c (splice arr.toList (i*e+k) (a.eval y).cells.toList).toArray) l d B rfl (size_setRow _ _ _) (λq X=>setRow_other w _ q _ X) (.inr ⟨c,rfl,cp,_,T,splice vs (i*e+k) (a.eval y).cells.toList,?_,setRow_heap w _ arr _ T _ J,?_,⟨by simpa using A.1,A.2.1,sD A.2.2 (dB b s) _⟩,?_,?_,O⟩) rfl ?_⟩
  .simp only[execOp,ho,F,Instr.storeAt,Instr.sureAddr,Sem.run_bind,Sem.run_pure,Result.andThen_ok,Y]
  .rw[I];simp
  .have:i*e+k+(a.eval y).cells.toList.length<=arr.toList.length:=by simp[f,z];omega
   simp only[TW];rw[bV this];simp[z]
  .exact K.splice i k _ _ hi (by rw[hn];exact hk) (dB b s) s
  .obtain⟨r,E⟩:=N;have Z:=K.length;have D:i*e+e<=rows.length*e:=by rw[←UK];exact UI _ hi
   refine⟨r,?_⟩;simp only[splice];have hcl:(a.eval y).cells.toList.length=n:=by simp[f]
   rw[←E,TV (by omega),Un (by rw[hcl];omega)];simp[Tn]
  .intro ab e' G V;cases V
   exact⟨nw,rows,hp,by simp⟩
end Go.AX
namespace Go.AX
theorem yp(size:Nat):∀(vs:List Value)(j:Nat)(cells:Array Value),(∀v∈vs,v.cells.size=size)->cells.size=(j+vs.length)*size->
 ∃out,Instr.fill (λi=>some (i*size,size)) cells ((vs.zipIdx j).map λp=>(p.2,p.1))=some out∧out.toList=cells.toList.take (j*size)++(vs.map λv=>v.cells.toList).flatten
 |[],j,cells,_,a=>⟨cells,by simp[Instr.fill],by simp at a;rw[←a,←TI,Tw];simp⟩
 |v::vs,j,cells,c,a=>by
  have h1:=c v (Tj ..);simp only[To]at a;have hle:j*size+size<=cells.size:=by rw[a,←UK];exact UI _ (by omega)
  simp only[List.zipIdx_cons,Th];rw[qp _ cells j (j*size) size v _ rfl h1 hle];have b:(splice cells.toList (j*size) v.cells.toList).length=cells.size:=by rw[bV (by simp[h1];exact hle)];simp
  obtain⟨out,ho,e⟩:=yp size vs (j+1) (splice cells.toList (j*size) v.cells.toList).toArray (λu f=>c u (Tf _ f)) (by simp only[TW,b,a];congr 1;omega);refine⟨out,ho,?_⟩;rw[e];simp only[Th,VO];rw[←Tn];congr 1;simp only[splice];rw[Tn,←Tn];have d:((cells.toList.take (j*size))++v.cells.toList).length=(j+1)*size:=by simp[h1,UK];omega
  rw[←d,UR];rfl
theorem vi{g:Gh}{e:Nat}:∀{ys:List PV}{vs:List Value},aj g ys vs->(∀y∈ys,(aP y).length=e∧bI (aP y)=true∧(y.one=true∨dv (.pv y)))->
 av g e (ys.map aP) ((vs.map λv=>v.cells.toList).flatten)∧∀v∈vs,v.cells.size=e
 |[],_,h,_=>by simp only[aj]at h;subst h;simp[av]
 |y::ys,_,⟨v,r,h1,f,i⟩,hy=>by
  subst h1;obtain⟨c,d,a3⟩:=hy y (Tj ..);have a:=iI f a3;obtain⟨b1,b2⟩:=vi i (λz hz=>hy z (Tf _ hz));refine⟨⟨v.cells.toList,_,by simp,⟨c,dB d a⟩,a,b1⟩,λu b=>?_⟩;rcases Tp.1 b with rfl|b
  .have:=a.length;rw[c]at this;simpa using this
  .exact b2 u b
def dC(P:Program)(t:TypeId):Option (List PV):=
 match P.underlying t with
 |some (.slice e)=>de P e
 |_=>none
theorem lQ{P:Program}{g:Gh}{a:Act}{w:World}(o:Oper)(t:TypeId)(len e:Nat)(b:Array (Nat×Operand))(zs ys:List PV)(ho:o.op=.buildSlice t len b)
 (hs:bq P t=some e) (hz:dC P t=some zs) (v:len*e<=16777216) (hp:b.toList.map (·.1)=List.range len)
 (r:aj g ys ((b.toList.map (·.2)).map a.eval)) (hy:∀y∈ys,(aP y).length=e∧bI (aP y)=true∧(y.one=true∨dv (.pv y))):
 ∃arr T,av g e (ys.map aP) arr∧
  (execOp a.eval o).run P w=.ok (.value (.slice (some ⟨w.heap.size,0,none⟩) len len)) (w.alloc (.cells arr.toArray T))∧(ys.map aP).length=len:=by
 obtain⟨x,A⟩:=vi r hy;unfold bq at hs;split at hs
 case h_2=>cases hs
 rename_i u s;simp only[Tk]at hs;obtain⟨c,d,rfl⟩:=hs;unfold dC at hz;rw[s]at hz;simp only[de,d,Tk]at hz;obtain⟨z,hz,rfl⟩:=hz;have h:b.toList.length=len:=by have:=Vk List.length hp;simpa using this
 refine⟨_,u,x,?_,?_⟩
 .have j:(b.map λ(p:Nat×Operand)=>(p.1,a.eval p.2)).toList=(((b.toList.map (·.2)).map a.eval).zipIdx 0).map λp=>(p.2,p.1):=by
   apply T7;intro i;simp only[V2,Tg,List.getElem?_zipIdx,Option.map_map];cases hi:b.toList[i]?with
   |none=>simp
   |some q=>
    have:=Vk (λl=>l[i]?) hp;simp only[Tg,hi,TO]at this;rw[XI (by have:=(SG.1 hi).1;omega)]at this;simp only[TC]at this;simp[this]
  have k:((Array.range (len*c.size)).map ((if len*c.size=0 then(#[]:Array Value)else z.cells)[·%(if len*c.size=0 then(#[]:Array Value)else z.cells).size]!)).size=(0+((b.toList.map (·.2)).map a.eval).length)*c.size:=by
   simp[h]
  obtain⟨out,f,m⟩:=yp c.size ((b.toList.map (·.2)).map a.eval) 0 _ A k;rw[←j]at f;simp only[V9,WL,Tz]at m;rw[←m];simp only[execOp,ho,Instr.buildSlice,Sem.run_bind,run_underlying s,Result.andThen_ok,run_sizeOf d];rw[SM (by omega)]
  by_cases n:len*c.size=0
  .simp only[n,UO]at f⊢;simp only[Sem.run_bind,Sem.run_pure,Result.andThen_ok,f];simp[newRow]
  .simp only[n,Uo]at f⊢;simp only[zeroValue,typeInfo,Sem.run_bind,run_program,d,hz,Sem.run_pure,Result.andThen_ok,f];simp[newRow]
 .have:=r.length;simp only[SZ]at this⊢;rw[←this];exact h
theorem sJ{P:Program}{g:Gh}{st:St}{a:Act}{w:World}(h:Sim g st a w)(o:Oper)(t:TypeId)(len e:Nat)(b:Array (Nat×Operand))(zs:List PV)(ho:o.op=.buildSlice t len b)
 (hs:bq P t=some e) (hz:dC P t=some zs) (c:len*e<=16777216) (hp:b.toList.map (·.1)=List.range len)
 (i:(cR st (b.toList.map (·.2))).2.2) (hy:∀y∈(cR st (b.toList.map (·.2))).1,(aP y).length=e∧bI (aP y)=true∧(y.one=true∨dv (.pv y))):
 ∃g' arr T,g.to g'∧g.le g'∧g'.n=g.n∧Sim g' (cR st (b.toList.map (·.2))).2.1 a w∧av g' e ((cR st (b.toList.map (·.2))).1.map aP) arr∧
  (execOp a.eval o).run P w=.ok (.value (.slice (some ⟨w.heap.size,0,none⟩) len len)) (w.alloc (.cells arr.toArray T))∧((cR st (b.toList.map (·.2))).1.map aP).length=len:=by
 obtain⟨f,t1,j,k,p,d⟩:=m7 _ h i;obtain⟨arr,T,l,m,r3⟩:=lQ (w:=w) o t len e b zs _ ho hs hz c hp d hy;exact⟨f,arr,T,t1,j,k,p,l,m,r3⟩
theorem sK{P:Program}{st:St}(o:Oper)(t:TypeId)(len e:Nat)(b:Array (Nat×Operand))(zs:List PV)(d:Nat)(ho:o.op=.buildSlice t len b)(hd:o.dst=some d)
 (hs:bq P t=some e) (hz:dC P t=some zs) (k:len*e<=16777216) (h0:0<e) (hp:b.toList.map (·.1)=List.range len)
 (q:(cR st (b.toList.map (·.2))).2.2) (hy:∀y∈(cR st (b.toList.map (·.2))).1,(aP y).length=e∧bI (aP y)=true∧(y.one=true∨dv (.pv y))) {N:Nat} (p:d<N):
 ∀g a w,g.N=N->Sim g st a w->∃v w' g',(execOp a.eval o).run P w=.ok (.value v) w'∧g.to g'∧
  Sim g' ⟨(d,.own true e ((cR st (b.toList.map (·.2))).1.map aP))::aH (cN d) (cR st (b.toList.map (·.2))).2.1.t,(cR st (b.toList.map (·.2))).2.1.h⟩ (a.put o.dst v) w':=by
 intro g a w r h;obtain⟨n,arr,T,t1,u,x,i,l,s,f⟩:=sJ h o t len e b zs ho hs hz k hp q hy;refine⟨_,_,n,s,t1,?_⟩;rw[hd];obtain⟨bl,m⟩:=i.own;refine i.putOwn m (o:=some w.heap.size) (by rw[t1.N,r];exact p) rfl (by simp) (λc j _=>heap_alloc_old w _ j) (.inr ⟨w.heap.size,rfl,len,arr.toArray,T,arr,by rw[f],heap_alloc_new w _,?_,⟨by rw[f];exact SQ _,?_,by simpa using l.one⟩,l,by simp,λ_=>i.B⟩) rfl (λc j=>?_)
 .have:=l.length;rw[f]at this;simpa using this
 .have:len<=len*e:=WC _ h0;unfold maxLen;omega
 .cases j
  exact⟨by simp,i.fresh m (SQ _)⟩
/-! ### append -/
theorem fJ{g:Gh}{st:St}{a:Act}{w:World}(h:Sim g st a w){x:Operand}{e:Nat}(G:gc st x)(hs:iP st e (mv st x)):
 ∃q cap vs,a.eval x=.slice q (rowsOf st (mv st x)).length cap∧av g e (rowsOf st (mv st x)) vs∧(rowsOf st (mv st x)=[]∨∃C:Addr,q=some C∧∀(j:Nat) u,vs[j]?=some u->w.cell? (C.add j)=some u):=by
 obtain⟨r,o⟩:=aO h x G;have d:∀{rows:List (List PV)},rows=[]->av g e rows []:=λh=>by subst h;rfl
 unfold iP at hs;split at hs
 .rename_i nw e' rows f;subst hs;rw[f]at r⊢;obtain⟨_,q,cap,b,_,H⟩:=r;rcases H with rfl|⟨c,off,arr,T,fz,vs,rfl,m,_,E,F⟩
  .exact⟨q,cap,[],b,rfl,.inl rfl⟩
  .refine⟨_,cap,vs,b,E,.inr ⟨_,rfl,λj u hj=>?_⟩⟩;rw[Addr.add_lit,cell_of (h.I _ _ m)];have:=gu F hj
   rwa [T5,SR]at this
 .rename_i v f;rw[f]at r⊢;have b:a.eval x=v:=r.2;exact⟨none,0,[],by rw[b,gv hs];rfl,rfl,.inl rfl⟩
 .rename_i p f;rw[f]at o⊢;split at hs
  .rename_i nw e' rows hp;subst hs;obtain⟨bl,z⟩:=h.own;have b:=o (by rw[hp];rfl);have:=bm z (p:=p) (by rw[hp];rfl);rw[hp]at this;simp only[rowsOf,hp];rcases this with⟨_,rfl,i⟩|⟨c,_,cap,arr,T,vs,i,s,_,_,t,y,_⟩
   .exact⟨none,0,[],by rw[b,i];rfl,rfl,.inl rfl⟩
   .refine⟨_,cap,vs,by rw[b,i],t,.inr ⟨_,rfl,λj u hj=>?_⟩⟩;rw[Addr.add_lit,cell_of s,TP,←SR];exact gu y hj
  .exact hs.elim
 .rename_i p lo hi f;rw[f]at o⊢;split at hs
  .rename_i nw e' rows hp;subst hs;obtain⟨h1,m,q,cap,b,J,B⟩:=o _ _ _ hp;obtain⟨bl,z⟩:=h.own;have:=bm z (p:=p) (by rw[hp];rfl);rw[hp]at this;have k:(rowsOf st (.loc p lo hi)).length=hi -lo:=by simp only[rowsOf,hp,TF,SU];omega
   by_cases A:lo=hi
   .have:rowsOf st (.loc p lo hi)=[]:=US (by omega);exact⟨q,cap,[],by rw[b,k],d this,.inl this⟩
   .rcases B with B|⟨c,n,cp,l,rfl⟩
    .exact absurd B A
    .rcases this with⟨_,rfl,i⟩|⟨c',_,D,arr,T,vs,i,s,_,_,t,y,_⟩
     .simp at m;omega
     .rw[i]at l;cases l;refine⟨_,cap,(vs.take (hi*e')).drop (lo*e'),by rw[b,k],by simp only[rowsOf,hp];exact t.cut lo hi h1 m,.inr ⟨_,rfl,λj u hj=>?_⟩⟩;rw[Addr.add_lit,cell_of s];have:=gu (iQ y (lo*e') (hi*e')) hj
      rwa [T5,SR]at this
  .exact hs.elim
 .exact hs.elim
theorem lS{P:Program}(w:World)(t ty e:TypeId)(i:TypeInfo)(ht:P.underlying t=some (.slice e))(hi:P.info? e=some i)(b:Option Addr)(n cap:Nat)(hn:n<=cap)(q:Option Addr)(c:Nat):
 (Builtin.append_ #[t,t] ty #[.slice b n cap,.slice q 0 c]).run P w=.ok (.slice b n cap) w:=by
 cases q with
 |none=>cases b<;>simp[Builtin.append_,run_underlying ht,sizeOf,typeInfo,hi,Builtin.lenOf,hn,Builtin.firstCells,storeCells]
 |some q=>cases b<;>simp[Builtin.append_,run_underlying ht,sizeOf,typeInfo,hi,Builtin.lenOf,hn,Builtin.firstCells,storeCells,loadCells,loadCellsFrom]
theorem nL{P:Program}(w:World)(t ty e:TypeId)(i:TypeInfo)(ht:P.underlying t=some (.slice e))(hi:P.info? e=some i)
 (c n cap:Nat) (T:TypeId) (arr:Array Value) (h:w.heap[c]?=some (.cells arr T (0,0))) (a:Addr) (m k:Nat) (news:List Value) (o:news.length=m*i.size) (b:∀(j:Nat) u,news[j]?=some u->w.cell? (a.add j)=some u) (h1:∀u∈news,u.oneCell'=true)
 (d:n+m<=cap) (f:n*i.size+news.length<=arr.size):
 (Builtin.append_ #[t,t] ty #[.slice (some ⟨c,0,none⟩) n cap,.slice (some a) m k]).run P w=.ok (.slice (some ⟨c,0,none⟩) (n+m) cap) (w.setRow c (splice arr.toList (n*i.size) news).toArray):=by
 have l:=run_firstCells_some (P:=P) w i.size m a m k news o b;have g:=run_storeCells_at P c (n*i.size) T news 0 arr w h (by simpa using f) h1;simp only[VA]at g;simp[Builtin.append_,run_underlying ht,sizeOf,typeInfo,hi,Builtin.lenOf,d,l,Addr.add_lit,g,splice]
def bQ(P:Program)(t:TypeId):Option (Nat×Nat):=
 match P.underlying t with
 |some (.slice a)=>match P.info? a with
  |some i=>match i.zero with
   |some z=>if z.cells.size=i.size∧z.cells.toList.all (λu=>u.oneCell')=true then some (i.size,i.bytes)else none
   |none=>none
  |none=>none
 |_=>none
theorem m8{P:Program}{t:TypeId}{e b:Nat}(h:bQ P t=some (e,b)):∃a i z,P.underlying t=some (.slice a)∧P.info? a=some i∧i.zero=some z∧i.size=e∧i.bytes=b∧z.cells.size=e∧∀u∈z.cells.toList,u.oneCell'=true:=by
 unfold bQ at h;split at h
 case h_2=>cases h
 rename_i a c;split at h
 case h_2=>cases h
 rename_i i hi;split at h
 case h_2=>cases h
 rename_i z hz;split at h
 case isFalse=>cases h
 rename_i hs;cases h
 exact⟨a,i,z,c,hi,hz,rfl,rfl,hs.1,λu c=>TG.1 hs.2 u c⟩
theorem k7{P:Program}{g:Gh}{w:World}{t ty:TypeId}{e b:Nat}(hi:bQ P t=some (e,b))(S:0<b){nw:Bool}{rows xr:List (List PV)}{v:Value}{o:Option Nat}(hB:g.B<=w.heap.size)
 (M:az g w (.own nw e rows) v o) {q:Option Addr} {k:Nat} {news:List Value} (hx:av g e xr news) (s:xr=[]∨∃F:Addr,q=some F∧∀(j:Nat) u,news[j]?=some u->w.cell? (F.add j)=some u)
 (l:(rows.length+xr.length)*b<=140737488355328):
 ∃v' w' o',(Builtin.append_ #[t,t] ty #[v,.slice q xr.length k]).run P w=.ok v' w'∧bT w'=bT w∧w.heap.size<=w'.heap.size∧az g w' (.own nw e (rows++xr)) v' o'∧
  (∀c,c<w.heap.size->o'≠some c->w'.heap[c]?=w.heap[c]?)∧∀c,o'=some c->c<w'.heap.size∧(o=some c∨w.heap.size<=c):=by
 obtain⟨p,i,z,L,d,hz,rfl,rfl,ab,Z⟩:=m8 hi;have aa:∀n,∀v∈(Builtin.zeroCells z.cells n).toList,v.oneCell'=true:=λn v M=>by
  simp only[Builtin.zeroCells,V2,SY]at M;obtain⟨j,hj,rfl⟩:=M
  by_cases e:z.cells.size=0
  .rw[e]at hj;simp at hj
  .have K:j %z.cells.size<z.cells.size:=XL _ (by omega);rw[Vf z.cells (j %z.cells.size) K];exact Z _ (VP K)
 have x:news.length=xr.length*i.size:=hx.length;have ae:rows.length+xr.length<=140737488355328:=by
  have:(rows.length+xr.length)*1<=(rows.length+xr.length)*i.bytes:=WZ _ S;omega
 have I:((rows.length+xr.length:Nat):Int)<=9223372036854775807:=by omega
 by_cases V:xr=[]
 .subst V;simp only[av]at hx;rcases M with⟨rfl,rfl,rfl⟩|⟨c,rfl,cap,arr,T,vs,rfl,D,O,G,H,Q,R⟩
  .exact⟨_,w,none,lS w t ty p i L d none 0 0 (SQ _) q k,rfl,SQ _,.inl ⟨rfl,rfl,rfl⟩,λ_ _ _=>rfl,λc s=>by cases s⟩
  .refine⟨_,w,some c,lS w t ty p i L d _ _ cap G.1 q k,rfl,SQ _,.inr ⟨c,rfl,cap,arr,T,vs,by simp,D,O,by simpa using G,by simpa using H,Q,R⟩,λ_ _ _=>rfl,λc' a=>?_⟩;cases a
   exact⟨(S5.1 D).1,.inl rfl⟩
 .have W:0<xr.length:=Up.2 V;rcases s with s|⟨F,rfl,f⟩
  .exact absurd s V
  have fresh:∀(m:List Value)(vs:List Value),av g i.size rows vs->m=vs->∀cp,rows.length+xr.length<=cp->cp<=maxLen->
   az g (w.drew.alloc (.cells (m.toArray++news.toArray++Builtin.zeroCells z.cells (cp -(rows.length+xr.length))) p)) (.own nw i.size (rows++xr)) (.slice (some ⟨w.heap.size,0,none⟩) (rows.length+xr.length) cp) (some w.heap.size):=by
   intro m vs A ho cp U y;subst ho;have X:=A.length;refine .inr ⟨w.heap.size,rfl,cp,_,p,m++news,by rw[SX],heap_alloc_new w.drew _,?_,⟨by rw[SX];exact U,y,by simpa only[W5]using dM (dM A.one hx.one) (aa _)⟩,av.append A hx,?_,λ_=>hB⟩
   .simp only[VQ,TW,size_zeroCells,ab,X,x,←WI];congr 1;omega
   .refine⟨(Builtin.zeroCells z.cells (cp -(rows.length+xr.length))).toList,by simp⟩
  have J:=grownCap_ge w (rows.length+xr.length);have y:=λold=>grownCap_le_maxLen w (rows.length+xr.length) old p (by unfold maxLen;omega);have keep:∀(ob:Obj)(c:Nat),c<w.heap.size->(w.drew.alloc ob).heap[c]?=w.heap[c]?:=λob c s=>heap_alloc_old w.drew ob s;rcases M with⟨rfl,rfl,rfl⟩|⟨c,rfl,cap,arr,T,vs,rfl,D,O,G,H,Q,R⟩
  .have A:=run_append_nil (P:=P) w t ty p i z L d hz F xr.length k news x f W (by simpa using I) (by simp only[List.length_nil,TP]at l;omega);have hf:=fresh [] [] rfl rfl (grownCap w xr.length 0 p) (by simpa using J 0 p) (by simpa using y 0);simp only[Tz,Array.empty_append,List.length_nil,TP]at hf;refine⟨_,_,_,A,rfl,by simp,by simpa using hf,λc s _=>keep _ c s,λc s=>?_⟩;cases s
   exact⟨by simp,.inr (SQ _)⟩
  .have N:=H.length
   by_cases h:rows.length+xr.length<=cap
   .have C:rows.length*i.size+news.length<=arr.size:=by rw[x,O,←WI];exact UI _ h
    have A:=nL (P:=P) w t ty p i L d c rows.length cap T arr D F xr.length k news x f hx.one h C;refine⟨_,w.setRow c (splice arr.toList (rows.length*i.size) news).toArray,some c,A,rfl,by simp,.inr ⟨c,rfl,cap,_,T,vs++news,by simp,setRow_heap w c arr _ T _ D,?_,⟨by simpa using h,G.2.1,sD G.2.2 hx.one _⟩,av.append H hx,?_,R⟩,λc' _ a=>setRow_other w c c' _ (λee=>a (by rw[ee])),λc' a=>?_⟩
    .simp only[TW];rw[bV (by simpa using C)];simpa using O
    .obtain⟨r,Y⟩:=Q;refine⟨arr.toList.drop (rows.length*i.size+news.length),?_⟩;simp only[splice];rw[←Y,←N,UR];rfl
    .cases a
     exact⟨by simp;exact(S5.1 D).1,.inl rfl⟩
   .have E:∀(j:Nat) u,vs[j]?=some u->w.cell? ((⟨c,0,none⟩:Addr).add j)=some u:=λj u hj=>by
     rw[Addr.add_lit,cell_of D,TP,←SR];exact gu Q hj
    have A:=run_append_grow (P:=P) w t ty p i z L d hz ⟨c,0,none⟩ rows.length cap vs N E F xr.length k news x f (by omega) I (growslice_fits (by omega) l);refine⟨_,_,_,A,rfl,by simp,fresh vs vs H rfl (grownCap w (rows.length+xr.length) cap p) (J cap p) (y cap),λc' a _=>keep _ c' a,λc' a=>?_⟩;cases a
    exact⟨by simp,.inr (SQ _)⟩
theorem Bg{P:Program}{st:St}(o:Oper)(t:TypeId)(s x:Operand)(d e b:Nat)(p:Pos)(nw:Bool)(rows:List (List PV))(ho:o.op=.call {callee:=.builtin .append,args:=#[s,x],argTypes:=#[t,t]}) (hd:o.dst=some d)
 (hi:bQ P t=some (e,b)) (n:0<b) (C:gc st s) (hs:mv st s=.al p) (hp:aa st p=.own nw e rows) (D:gc st x) (hx:iP st e (mv st x))
 (f:(rows.length+(rowsOf st (mv st x)).length)*b<=140737488355328) {N:Nat} (L:d<N):
 ∀g a w,g.N=N->Sim g st a w->∃v w' g',(execOp a.eval o).run P w=.ok (.value v) w'∧g.to g'∧
  Sim g' ⟨(d,.own nw e (rows++rowsOf st (mv st x)))::aH (cN d) (setPos st p (.pv .bot)).t,(setPos st p (.pv .bot)).h⟩ (a.put o.dst v) w':=by
 intro g a w M h;obtain⟨bl,H⟩:=h.own;have i:(aa st p).isOwn=true:=by rw[hp];rfl
 obtain⟨_,has⟩:=aO h s C;rw[hs]at has;have m:=bm H i;rw[hp]at m;obtain⟨q,cap,news,F,z,r⟩:=fJ h D hx;obtain⟨Q,w',R,O,u,E,y,G,l⟩:=k7 (ty:=o.type) (k:=cap) hi n h.B m z r f;refine⟨Q,w',g,?_,h.refl_to,?_⟩
 .simp only[execOp,ho,resolve,invoke,builtin,V3,Th,UL,Sem.run_bind,Sem.run_pure,Result.andThen_ok,has i,F,O]
 .obtain⟨h1,J,j,_,_,K⟩:=h.drop H p;rw[hd];exact h1.putOwn j (M▸L) u E G y rfl (λc I=>⟨(l c I).1,(l c I).2.elim (λe=>K c e) (λA=>h1.fresh j A)⟩)
theorem append_nil{P:Program}{st:St}(o:Oper)(t:TypeId)(s x:Operand)(d e b:Nat)(u:Value)(ho:o.op=.call {callee:=.builtin .append,args:=#[s,x],argTypes:=#[t,t]}) (hd:o.dst=some d)
 (hi:bQ P t=some (e,b)) (l:0<b) (z:gc st s) (hs:mv st s=.pv (.lit u)) (L:jn u=true) (A:gc st x) (hx:iP st e (mv st x))
 (f:(rowsOf st (mv st x)).length*b<=140737488355328) {N:Nat} (I:d<N):
 ∀g a w,g.N=N->Sim g st a w->∃v w' g',(execOp a.eval o).run P w=.ok (.value v) w'∧g.to g'∧
  Sim g' ⟨(d,.own true e (rowsOf st (mv st x)))::aH (cN d) st.t,st.h⟩ (a.put o.dst v) w':=by
 intro g a w J h;obtain⟨bl,G⟩:=h.own;obtain⟨j,_⟩:=aO h s z;rw[hs]at j;have D:a.eval s=.slice none 0 0:=by have:=j.2;rw[gv L]at this;exact this
 obtain⟨q,cap,news,E,r,m⟩:=fJ h A hx;obtain⟨M,w',O,K,n,C,p,F,i⟩:=k7 (ty:=o.type) (k:=cap) (nw:=true) (rows:=[]) (v:=.slice none 0 0) (o:=none) hi l h.B (.inl ⟨rfl,rfl,rfl⟩) r m (by simpa using f);refine⟨M,w',g,?_,h.refl_to,?_⟩
 .simp only[execOp,ho,resolve,invoke,builtin,V3,Th,UL,Sem.run_bind,Sem.run_pure,Result.andThen_ok,D,E,K]
 .rw[hd];exact h.putOwn G (J▸I) n C F (by simpa using p) rfl (λc H=>⟨(i c H).1,(i c H).2.elim (λe=>by cases e) (λy=>h.fresh G y)⟩)
end Go.AX
namespace Go.AX
/-! ### Views -/
def uL(x:PV)(e n:Nat):PV:=
 match x with
 |.iptr _ [cells] 0 k=>if e=1∧k+n<=cells.length then .seq false 1 (((cells.drop k).take n).map λy=>[y])else .bot
 |_=>.bot
mutual
def iR(r:Nat->Nat->PV):PV->PV
  |.bot=>.bot
  |.lit v=>.lit v
  |.agg xs=>.agg (eC r xs)
  |.tup xs=>.tup (eC r xs)
  |.seq _ e rows=>.seq false e (l4 r rows)
  |.iptr e rows i k=>.iptr e (l4 r rows) i k
  |.ptr b off=>r b off
  |.bsl b e off n _=>uL (r b off) e n
  |.fn f first cap=>.fn f (eC r first) (eC r cap)
  |.amap _ es=>.amap false (mq r es)
  |.ifc t x=>.ifc t (iR r x)
def eC(r:Nat->Nat->PV):List PV->List PV
  |[]=>[]
  |x::xs=>iR r x::eC r xs
def l4(r:Nat->Nat->PV):List (List PV)->List (List PV)
  |[]=>[]
  |x::xs=>eC r x::l4 r xs
def mq(r:Nat->Nat->PV):List (Int×PV)->List (Int×PV)
  |[]=>[]
  |(k,x)::xs=>(k,iR r x)::mq r xs
end
theorem dh(r:Nat->Nat->PV):∀xs:List PV,eC r xs=xs.map (iR r)
 |[]=>rfl
 |x::xs=>by simp[eC,dh r xs]
theorem cm(r:Nat->Nat->PV):∀xs:List (List PV),l4 r xs=xs.map (List.map (iR r))
 |[]=>rfl
 |x::xs=>by simp[l4,cm r xs,dh]
theorem yr(r:Nat->Nat->PV):∀xs:List (Int×PV),mq r xs=xs.map (λp=>(p.1,iR r p.2))
 |[]=>rfl
 |(k,x)::xs=>by simp[mq,yr r xs]
def frzC(r:Nat->Nat->PV):SV->PV
 |.pv x=>iR r x
 |.own _ e rows=>.seq false e (l4 r rows)
 |.omap _ es=>.amap false (mq r es)
 |_=>.bot
def aZ(h:List (List SV)):Nat->Nat->Nat->PV
 |0,_,_=>.bot
 |n+1,b,off=>.iptr (h.getD b []).length [(h.getD b []).map (frzC (aZ h n))] 0 off
def dw(w:World):Gh:={I:=λc=>w.heap[c]?,F:=λ_=>none,B:=w.heap.size,μ:=λ_=>0,n:=0,n0:=0,N:=0,env:=bT w}
theorem aj.rows1{g:Gh}:∀{xs:List PV}{vs:List Value},aj g xs vs->(∀v∈vs,v.oneCell'=true)->av g 1 (xs.map λy=>[y]) vs
 |[],_,h,_=>h
 |x::xs,_,⟨v,r,h1,b,c⟩,ho=>by
  subst h1;exact⟨[v],r,rfl,⟨rfl,λu a=>ho u (by simp at a;simp[a])⟩,⟨v,[],rfl,b,rfl⟩,aj.rows1 c λu a=>ho u (Tf _ a)⟩
theorem KX{g:Gh}{x:PV}{e n cap:Nat}{q:Addr}(hx:Fit g x (.pointer (some q)))(m:n<=cap):Fit g (uL x e n) (.slice (some q) n cap):=by
 unfold uL;split
 .rename_i e' cells k;split
  .rename_i hk;obtain⟨c,off,arr,T,fz,vs,h1,i,⟨s,t,rfl,j,d,l⟩,f⟩:=hx;have b:t=[]:=l;subst b;rw[Ui]at f;have u:=d.length;have a:(((cells.drop k).take n).map λy=>[y]).length=n:=by simp;omega
   refine⟨_,cap,by rw[a],by rw[a];exact m,.inr ⟨c,off+k,arr,T,fz,(s.drop k).take n,?_,i,λh=>(by cases h),?_,?_⟩⟩
   .injection h1 with h1;rw[h1];simp
   .exact aj.rows1 ((d.drop k).take n) λv p=>j.2 v (UV (TL p))
   .refine(Wn n _).trans ?_;rw[←Ue];obtain⟨r,o⟩:=f;rw[←o,Un (by omega)];exact⟨r,rfl⟩
  .trivial
 .trivial
section
variable {g : Gh} {w : World} {r : Nat -> Nat -> PV}
mutual
theorem Fit.frz(hI:∀c o,g.I c=some o->w.heap[c]?=some o)(hr:∀b off,b<g.n->Fit (dw w) (r b off) (.pointer (some ⟨g.μ b,off,none⟩))):
    ∀(x:PV)(v:Value),Fit g x v->Fit (dw w) (iR r x) v
  |.bot,_,_=>trivial
  |.lit _,_,h=>h
  |.agg xs,v,⟨vs,h1,h2⟩=>⟨vs,h1,aj.frz hI hr xs _ h2⟩
  |.tup xs,v,⟨vs,h1,h2⟩=>⟨vs,h1,aj.frz hI hr xs _ h2⟩
  |.seq nw e rows,v,⟨p,cap,h1,hc,h2⟩=>⟨p,cap,by rw[h1,cm,SZ],by rw[cm,SZ];exact hc,h2.imp (λh=>by rw[h];rfl)
      λ⟨c,off,arr,T,fz,vs,a,b,_,q1,q2⟩=>⟨c,off,arr,T,fz,vs,a,hI _ _ b,λhn=>(by cases hn),av.frz hI hr e rows vs q1,q2⟩⟩
  |.iptr e rows i k,v,⟨c,off,arr,T,fz,vs,a,b,q1,q2⟩=>⟨c,off,arr,T,fz,vs,a,hI _ _ b,av.frz hI hr e rows vs q1,q2⟩
  |.ptr b off,v,⟨h1,h2⟩=>by rw[h2];exact hr b off h1
  |.bsl b e off n cap,v,⟨h1,h2,h3⟩=>by rw[h3];exact KX (hr b off h1) h2
  |.fn f first cap,v,⟨a,b,h1,h2,h3⟩=>⟨a,b,h1,aj.frz hI hr first _ h2,aj.frz hI hr cap _ h3⟩
  |.amap nw es,v,⟨c,en,ck,a,b,_,q⟩=>⟨c,en,ck,a,hI _ _ b,λhn=>(by cases hn),bG.frz hI hr es _ q.1,q.2⟩
  |.ifc t x,v,⟨y,h1,h2⟩=>⟨y,h1,Fit.frz hI hr x y h2⟩
theorem aj.frz(hI:∀c o,g.I c=some o->w.heap[c]?=some o)(hr:∀b off,b<g.n->Fit (dw w) (r b off) (.pointer (some ⟨g.μ b,off,none⟩))):
    ∀(xs:List PV)(vs:List Value),aj g xs vs->aj (dw w) (eC r xs) vs
  |[],_,h=>h
  |x::xs,vs,⟨v,r',h1,h2,h3⟩=>⟨v,r',h1,Fit.frz hI hr x v h2,aj.frz hI hr xs r' h3⟩
theorem av.frz(hI:∀c o,g.I c=some o->w.heap[c]?=some o)(hr:∀b off,b<g.n->Fit (dw w) (r b off) (.pointer (some ⟨g.μ b,off,none⟩)))(e:Nat):
    ∀(rows:List (List PV))(vs:List Value),av g e rows vs->av (dw w) e (l4 r rows) vs
  |[],_,h=>h
  |row::rows,vs,⟨v1,v2,h1,h2,h3,h4⟩=>⟨v1,v2,h1,⟨by rw[dh,SZ];exact h2.1,h2.2⟩,aj.frz hI hr row v1 h3,av.frz hI hr e rows v2 h4⟩
theorem bG.frz(hI:∀c o,g.I c=some o->w.heap[c]?=some o)(hr:∀b off,b<g.n->Fit (dw w) (r b off) (.pointer (some ⟨g.μ b,off,none⟩))):
    ∀(es:List (Int×PV))(en:List MapEntry),bG g es en->bG (dw w) (mq r es) en
  |[],_,h=>h
  |(k,x)::es,en,⟨m,r',h1,h2,h3,h4⟩=>⟨m,r',h1,h2,Fit.frz hI hr x m.val h3,bG.frz hI hr es r' h4⟩
end
end
theorem az.frz{g:Gh}{w:World}{r:Nat->Nat->PV}(f:∀c o,g.I c=some o->w.heap[c]?=some o)(i:∀b off,b<g.n->Fit (dw w) (r b off) (.pointer (some ⟨g.μ b,off,none⟩)))
 {x:SV} {v:Value} {b:Option Nat} (h:az g w x v b) (m:x.inCell=true):Fit (dw w) (frzC r x) v:=by
 cases x with
 |pv y=>exact Fit.frz f i y v h.2
 |own nw e rows=>
  rcases h with⟨_,rfl,rfl⟩|⟨c,_,cap,arr,T,vs,rfl,a,j,d,k,l,p⟩
  .exact⟨none,0,rfl,SQ _,.inl rfl⟩
  .exact⟨_,cap,by rw[cm,SZ],by rw[cm,SZ];exact d.1,.inr ⟨c,0,arr,T,(0,0),vs,rfl,a,λhn=>(by cases hn),av.frz f i e rows vs k,by simpa using l⟩⟩
 |omap nw es=>
  obtain⟨c,_,en,ck,rfl,a,j,d⟩:=h;exact⟨c,en,ck,rfl,a,λhn=>(by cases hn),bG.frz f i es _ j,d.2⟩
 |_=>cases m
theorem k8{g:Gh}{st:St}{a:Act}{w:World}(h:Sim g st a w):∀(n b off:Nat),b<g.n->Fit (dw w) (aZ st.h n b off) (.pointer (some ⟨g.μ b,off,none⟩))
 |0,_,_,_=>trivial
 |n+1,b,off,t=>by
  obtain⟨bl,l⟩:=h.own;have z:b<st.h.length:=h.n▸t;have k:st.h[b]?=some (st.h.getD b []):=by simp[List.getD,SH z]
  obtain⟨arr,T,h1,⟨o,i⟩,p⟩:=l.blocks b _ k;have B:=λb' f=>k8 h n b' f;simp only[aZ];generalize st.h.getD b []=xs at*;have key:∀(ys:List SV)(c:List Value),ys.length=c.length->(∀(j:Nat)(x:SV)(u:Value),ys[j]?=some x->c[j]?=some u->x.inCell=true∧∃b':Option Nat,az g w x u b')->aj (dw w) (ys.map (frzC (aZ st.h n))) c:=by
   intro ys
   induction ys with
   |nil=>intro c d _;cases c with
    |nil=>rfl
    |cons _ _=>simp at d
   |cons y ys m=>
    intro c d hs;cases c with
    |nil=>simp at d
    |cons u c=>
     obtain⟨q,b',r⟩:=hs 0 y u rfl rfl;exact⟨u,c,rfl,az.frz h.I B r q,m c (by simpa using d) (λj x v hx A=>hs (j+1) x v (by simpa using hx) (by simpa using A))⟩
  have s := key xs arr.toList (by simpa using o.symm) (λ j x u hx d => by
   have:=p j x hx;refine⟨this.1,bl (.cell b j),?_⟩;have e:arr.getD j undef=u:=by rw[SR]at d;simp[S8,d]
   rw[←e];exact this.2)
  refine⟨g.μ b,0,arr,T,(0,0),arr.toList,by simp,h1,⟨arr.toList,[],by simp,⟨by simp,i⟩,s,rfl⟩,by simp⟩
def vw(n:Nat)(st:St)(x:Operand):PV:=
 match mv st x with
 |.pv y=>iR (aZ st.h n) y
 |.al p=>frzC (aZ st.h n) (aa st p)
 |.loc p lo hi=>match aa st p with
  |.own _ e rows=>.seq false e (l4 (aZ st.h n) ((rows.take hi).drop lo))
  |_=>.bot
 |_=>.bot
def KY(st:St)(x:Operand):Prop:=
 gc st x∧match mv st x with
 |.al p=>(aa st p).isOwn=true
 |_=>True
theorem MV{g:Gh}{st:St}{a:Act}{w:World}(h:Sim g st a w)(n:Nat)(x:Operand)(hd:KY st x):Fit (dw w) (vw n st x) (a.eval x):=by
 obtain⟨A,hd⟩:=hd;obtain⟨s,j⟩:=aO h x A;have l:=k8 h n;obtain⟨bl,r⟩:=h.own;unfold vw;split
 .rename_i y f;rw[f]at s;exact Fit.frz h.I l y _ s.2
 .rename_i p f;rw[f]at j hd;rw[j hd];exact az.frz h.I l (bm r hd) (by cases hp:aa st p<;>simp only[hp]at hd<;>first|rfl|cases hd)
 .rename_i p lo hi f;rw[f]at j;split
  .rename_i nw e rows hp;obtain⟨C,t,q,cap,B,jc,k⟩:=j _ _ _ hp;have b:=bm r (p:=p) (by rw[hp];rfl);rw[hp]at b;refine⟨q,cap,by rw[B,cm,SZ,TF,SU];congr 1;omega,by rw[cm];simp;omega,?_⟩
   by_cases d:lo=hi
   .left;subst d;rw[cm];simp
   .right;rcases k with k|⟨c,G,cp,i,rfl⟩
    .exact absurd k d
    .rcases b with⟨_,rfl,o⟩|⟨c',_,m,arr,T,vs,o,u,D,E,v,z,F⟩
     .simp at t;omega
     .rw[o]at i;cases i;refine⟨_,lo*e,arr,T,(0,0),(vs.take (hi*e)).drop (lo*e),rfl,u,λhn=>(by cases hn),av.frz h.I l e _ _ (v.cut lo hi C t),iQ z _ _⟩
  .trivial
 .trivial
/-! ### Values that lie in new memory -/
mutual
def PV.nw:PV->Prop
  |.bot=>True
  |.lit _=>True
  |.agg xs=>KZ xs
  |.tup xs=>KZ xs
  |.seq n _ rows=>(rows=[]∨n=true)∧A3 rows
  |.iptr _ _ _ _=>False
  |.ptr _ _=>False
  |.bsl _ _ _ _ _=>False
  |.fn _ first cap=>KZ first∧KZ cap
  |.amap n es=>n=true∧K2 es
  |.ifc _ x=>x.nw
def KZ:List PV->Prop
  |[]=>True
  |x::xs=>x.nw∧KZ xs
def A3:List (List PV)->Prop
  |[]=>True
  |x::xs=>KZ x∧A3 xs
def K2:List (Int×PV)->Prop
  |[]=>True
  |(_,x)::xs=>x.nw∧K2 xs
end
theorem pi:∀xs:List (List PV),A3 xs↔∀r∈xs,KZ r
 |[]=>by simp[A3]
 |x::xs=>by simp[A3,pi xs]
theorem Dg:∀xs:List (Int×PV),K2 xs↔∀r∈xs,r.2.nw
 |[]=>by simp[K2]
 |(k,x)::xs=>by simp[K2,Dg xs]
section
variable {g g2 : Gh}
mutual
theorem Fit.new(hI:∀c o,g.I c=some o->g.B<=c->g2.I c=some o)(hB:g2.B<=g.B):∀(x:PV)(v:Value),x.nw->Fit g x v->Fit g2 x v
  |.bot,_,_,_=>trivial
  |.lit _,_,_,h=>h
  |.agg xs,v,hn,⟨vs,h1,h2⟩=>⟨vs,h1,aj.new hI hB xs _ hn h2⟩
  |.tup xs,v,hn,⟨vs,h1,h2⟩=>⟨vs,h1,aj.new hI hB xs _ hn h2⟩
  |.seq nw e rows,v,⟨hn1,hn2⟩,⟨p,cap,h1,hc,h2⟩=>⟨p,cap,h1,hc,hn1.elim .inl λhnw=>h2.imp id
      λ⟨c,off,arr,T,fz,vs,a,b,n,q1,q2⟩=>⟨c,off,arr,T,fz,vs,a,hI _ _ b (n hnw),λhn=>TD hB (n hn),av.new hI hB e rows vs hn2 q1,q2⟩⟩
  |.iptr _ _ _ _,_,hn,_=>hn.elim
  |.ptr _ _,_,hn,_=>hn.elim
  |.bsl _ _ _ _ _,_,hn,_=>hn.elim
  |.fn f first cap,v,⟨n1,n2⟩,⟨a,b,h1,h2,h3⟩=>⟨a,b,h1,aj.new hI hB first _ n1 h2,aj.new hI hB cap _ n2 h3⟩
  |.amap nw es,v,⟨hn1,hn2⟩,⟨c,en,ck,a,b,n,q⟩=>⟨c,en,ck,a,hI _ _ b (n hn1),λhn=>TD hB (n hn),bG.new hI hB es _ hn2 q.1,q.2⟩
  |.ifc t x,v,hn,⟨y,h1,h2⟩=>⟨y,h1,Fit.new hI hB x y hn h2⟩
theorem aj.new(hI:∀c o,g.I c=some o->g.B<=c->g2.I c=some o)(hB:g2.B<=g.B):∀(xs:List PV)(vs:List Value),KZ xs->aj g xs vs->aj g2 xs vs
  |[],_,_,h=>h
  |x::xs,vs,⟨n1,n2⟩,⟨v,r',h1,h2,h3⟩=>⟨v,r',h1,Fit.new hI hB x v n1 h2,aj.new hI hB xs r' n2 h3⟩
theorem av.new(hI:∀c o,g.I c=some o->g.B<=c->g2.I c=some o)(hB:g2.B<=g.B)(e:Nat):∀(rows:List (List PV))(vs:List Value),A3 rows->av g e rows vs->av g2 e rows vs
  |[],_,_,h=>h
  |row::rows,vs,⟨n1,n2⟩,⟨v1,v2,h1,h2,h3,h4⟩=>⟨v1,v2,h1,h2,aj.new hI hB row v1 n1 h3,av.new hI hB e rows v2 n2 h4⟩
theorem bG.new(hI:∀c o,g.I c=some o->g.B<=c->g2.I c=some o)(hB:g2.B<=g.B):∀(es:List (Int×PV))(en:List MapEntry),K2 es->bG g es en->bG g2 es en
  |[],_,_,h=>h
  |(k,x)::es,en,⟨n1,n2⟩,⟨m,r',h1,h2,h3,h4⟩=>⟨m,r',h1,h2,Fit.new hI hB x m.val n1 h3,bG.new hI hB es r' n2 h4⟩
end
end
end Go.AX