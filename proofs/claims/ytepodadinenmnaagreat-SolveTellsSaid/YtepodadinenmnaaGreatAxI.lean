/-
  AX, part A: what a state of a walk is, said of plain data; what it says of the machine's state; and what follows.
-/
import Derived.WalkKit
import Derived.MapKept
import Derived.ChangeKeysEq
import Derived.WalkSpells
namespace Go.AX
set_option linter.defProp false
def SQ:=@List.getElem?_eq_some_iff
def SR:=@List.getElem?_eq_getElem
def SS:=@List.getD_eq_getElem?_getD
def SU:=@if_neg
def SX:=@if_pos
def SY:=@Nat.le_refl
def SZ:=@List.getElem?_append_left
def S4:=@Array.getElem?_toList
def S5:=@List.getElem_mem
def S6:=@List.length_take
def S7:=@List.length_map
def S8:=@List.mem_map
def S9:=@Bool.and_eq_true
def Ta:=@List.length_append
def Tc:=@List.getElem_of_mem
def Td:=@Array.getElem?_eq_some_iff
def Te:=@List.mem_append
def Tf:=@Nat.zero_le
def Tg:=@Array.getD_eq_getD_getElem?
def Th:=@decide_eq_true_eq
def Ti:=@Array.getElem?_eq_getElem
def Tj:=@List.getElem?_set_ne
def Tk:=@List.getElem?_append_right
def Tl:=@List.mem_cons_of_mem
def Tm:=@List.getElem?_map
def Tn:=@List.map_cons
def To:=@List.mem_cons_self
def Tp:=@Option.map_eq_some_iff
def Tq:=@List.drop_eq_nil_of_le
def Ts:=@Classical.byContradiction
def Tt:=@List.length_set
def Tu:=@List.map_append
def Tv:=@List.append_assoc
def Tw:=@List.take_length
def Tx:=@List.mem_cons
def Ty:=@List.length_cons
def Tz:=@List.getElem?_set
def TA:=@List.mem_singleton
def TB:=@List.pairwise_iff_getElem
def TC:=@Option.getD_some
def TD:=@Nat.le_trans
def TE:=@List.all_eq_true
def TF:=@Option.some.injEq
def TG:=@List.drop_eq_getElem_cons
def TH:=@List.getElem?_set_self
def TI:=@List.nil_append
def TJ:=@List.mem_filter
def TL:=@List.getElem?_eq_none
def TM:=@Bool.false_eq_true
def TN:=@List.length_drop
def TO:=@List.filter_cons
def TP:=@List.cons_append
def TQ:=@List.getElem?_cons_zero
def TR:=@Array.length_toList
def TT:=@List.take_of_length_le
def TU:=@Bool.not_eq_true'
def TV:=@List.mem_of_mem_take
def TW:=@List.take_add_one
def TX:=@List.map_map
def TY:=@List.getElem?_take
def TZ:=@Option.map_some
def T4:=@Nat.zero_add
def T5:=@List.getElem_append_left
def T6:=@Array.getElem?_setIfInBounds
def T7:=@List.take_append_drop
def T8:=@List.size_toArray
def T9:=@Nat.le_of_ble_eq_true
def Ua:=@List.drop_append_of_le_length
def Ub:=@List.getElem?_drop
def Uc:=@Int.toNat_natCast
def Ud:=@List.mem_of_getElem?
def Ue:=@List.length_singleton
def Uf:=@List.ext_getElem?
def Ug:=@List.mem_range
def Uh:=@List.getElem_take
def Ui:=@List.drop_drop
def Uj:=@List.mem_take_iff_getElem
def Uk:=@Nat.lt_of_lt_of_le
def Ul:=@if_false
def Um:=@Bool.or_eq_true
def Un:=@decide_eq_false_iff_not
def Uo:=@Int.eq_ofNat_of_zero_le
def Up:=@List.mem_append_left
def Uq:=@List.length_filter_le
def Ur:=@List.length_mergeSort
def Us:=@List.take_succ_eq_append_getElem
def Ut:=@List.append_nil
def Uu:=@List.filter_append
def Uv:=@decide_eq_true
def Uw:=@Nat.min_eq_left
def Ux:=@List.pairwise_map
def Uy:=@List.take_append_of_le_length
def Uz:=@List.filter_eq_self
def UA:=@List.nodup_cons
def UB:=@List.map_take
def UC:=@Array.getElem?_modify
def UD:=@Nat.lt_trichotomy
def UE:=@List.any_eq_false
def UF:=@Nat.le_of_not_lt
def UG:=@List.length_pos_iff
def UH:=@Prod.mk.injEq
def UI:=@Array.getElem?_eq_none
def UJ:=@Array.ext'
def UK:=@Array.getElem?_replicate
def UL:=@List.any_eq_true
def UM:=@List.length_eq_zero_iff
def UN:=@List.mem_iff_getElem?
def UO:=@Option.toList_some
def UP:=@decide_eq_false
def UQ:=@List.getD_cons_zero
def UR:=@Nat.succ_mul
def US:=@List.filter_eq_nil_iff
def UT:=@Nat.mul_le_mul_right
def UU:=@if_true
def UV:=@List.getElem?_cons_succ
def UW:=@List.map_congr_left
def UX:=@List.mem_map_of_mem
def UY:=@List.take_left'
def UZ:=@List.eq_nil_of_length_eq_zero
def U0:=@Array.size_modify
def U1:=@Bool.false_and
def U2:=@List.mem_or_eq_of_mem_set
def U3:=@List.mem_of_mem_drop
def U4:=@Nat.add_assoc
def U5:=@List.findIdx?_eq_some_iff_getElem
def U6:=@List.pairwise_cons
def U7:=@List.take_append_getElem
def U8:=@Nat.sub_self
def U9:=@List.mem_append_right
def Va:=@List.mergeSort_perm
def Vb:=@List.getD_cons_succ
def Vc:=@Int.neg_neg
def Vd:=@Nat.add_sub_cancel_left
def Ve:=@Array.getElem?_append_left
def Vf:=@Array.toArray_toList
def Vg:=@List.map_nil
def Vh:=@List.map_replicate
def Vi:=@List.cons.injEq
def Vj:=@Nat.not_lt_zero
def Vk:=@List.getElem?_take_of_lt
def Vl:=@List.take_sublist
def Vm:=@congrArg
def Vn:=@Int.le_refl
def Vo:=@Nat.eq_zero_or_pos
def Vp:=@Bool.or_eq_false_iff
def Vq:=@getElem!_pos
def Vr:=@Option.bind_some
def Vs:=@List.length_eq_one_iff
def Vt:=@Nat.le_succ
def Vu:=@Bool.true_and
def Vv:=@Option.map_none
def Vw:=@List.foldl_cons
def Vx:=@List.length_replicate
def Vy:=@decide_eq_true_iff
def Vz:=@List.eq_of_mem_replicate
def VA:=@Nat.lt_succ_self
def VB:=@List.pairwise_append
def VC:=@Ne.symm
def VD:=@List.map_drop
def VE:=@Nat.add_zero
def VF:=@List.flatten_cons
def VG:=@List.drop_length_add_append
def VH:=@Option.some.inj
def VI:=@List.filter_sublist
def VJ:=@List.ext_getElem
def VK:=@Nat.lt_of_not_le
def VL:=@Bool.not_eq_true
def VM:=@List.countP_cons
def VN:=@Bool.false_or
def VO:=@List.set_eq_take_append_cons_drop
def VP:=@List.contains_iff_mem
def VQ:=@Nat.add_sub_cancel
def VR:=@List.set_append_right
def VS:=@List.Perm.refl
def VT:=@List.findIdx?_eq_none_iff
def VU:=@Option.isSome_iff_exists
def VV:=@Function.comp_def
def VW:=@List.foldl_append
def VX:=@List.range_succ
def VY:=@List.nodup_append
def VZ:=@List.eq_nil_iff_forall_not_mem
def V0:=@Nat.ne_of_gt
def V1:=@List.flatten_append
def V2:=@List.drop_set_of_lt
def V3:=@List.pairwise_mergeSort
def V4:=@List.flatMap_append
def V5:=@List.mem_eraseIdx_iff_getElem
def V6:=@List.not_mem_nil
def V7:=@List.drop_zero
def V8:=@List.getElem_cons_zero
def V9:=@List.getElem_cons_succ
def Wa:=@List.take_length_add_append
def Wb:=@Array.getElem?_append
def Wc:=@Nat.zero_lt_one
def Wd:=@List.filter_nil
def We:=@Array.getElem?_mapIdx
def Wf:=@Array.size_append
def Wg:=@Nat.lt_succ_of_lt
def Wh:=@Array.toList_setIfInBounds
def Wi:=@Int.tdiv_eq_ediv_of_nonneg
def Wj:=@List.set_append_left
def Wk:=@List.mem_drop_iff_getElem
def Wl:=@beq_self_eq_true
def Wm:=@List.take_prefix
def Wn:=@Array.toList_map
def Wo:=@List.map_toArray
def Wp:=@List.map_reverse
def Wq:=@List.mem_reverse
def Wr:=@List.replicate_succ
def Ws:=@List.take_set_of_le
def Wu:=@List.toList_toArray
def Wv:=@List.take_succ_cons
def Ww:=@Nat.zero_mul
def Wx:=@Array.getElem_mem_toList
def Wy:=@List.set_set
def Wz:=@Int.lt_or_le
def WA:=@List.drop_left'
def WB:=@Nat.le_mul_of_pos_right
def WC:=@List.set_cons_zero
def WD:=@Bool.or_false
def WE:=@Array.all_eq_true_iff_forall_mem
def WF:=@Int.not_lt
def WG:=@beq_iff_eq
def WH:=@Nat.mul_one
def WI:=@Nat.add_mul
def WJ:=@Nat.le_succ_of_le
def WK:=@Array.getElem?_setIfInBounds_ne
def WL:=@List.flatMap_cons
def WM:=@List.length_range
def WN:=@of_decide_eq_true
def WO:=@List.take_zero
def WP:=@Nat.add_comm
def WQ:=@List.set_getElem_self
def WR:=@List.getElem?_toArray
def WT:=@Bool.true_or
def WU:=@Bool.or_true
def WV:=@List.getElem_map
def WW:=@Nat.mod_eq_of_lt
def WX:=@Nat.min_le_right
def WY:=@List.prefix_refl
def WZ:=@Array.replicate_succ
def W5:=@Array.replicate_zero
def W6:=@List.mem_iff_getElem
def W7:=@Array.mem_toList_iff
def W8:=@Bool.eq_iff_iff
def W9:=@Int.toNat_of_nonneg
def Xa:=@List.append_toArray
def Xb:=@List.countP_pos_iff
def Xc:=@List.countP_eq_zero
def Xd:=@Nat.ne_of_lt
def Xe:=@List.getElem_range
def Xf:=@Nat.sub_zero
def Xg:=@List.getLastD_eq_getLast?
def Xh:=@List.nodup_nil
def Xi:=@List.getElem_append_right
def Xj:=@List.set_eq_of_length_le
def Xk:=@List.push_toArray
def Xl:=@Bool.eq_false_iff
def Xm:=@List.Perm.eq_of_pairwise
def Xn:=@List.Sublist.refl
def Xo:=@List.filter_congr
def Xp:=@forall_congr'
def Xq:=@List.getElem?_replicate
def Xr:=@List.mem_flatten
def Xs:=@List.map_flatten
def Xt:=@List.isEmpty_iff
def Xu:=@List.drop_append
def Xv:=@List.getElem_set
def Xw:=@List.sum_replicate_nat
def Xx:=@Classical.choose_spec
def Xy:=@not_or
def Xz:=@Nat.le_antisymm
def XA:=@Nat.lt_or_ge
def XB:=@List.map_set
def XC:=@List.countP_eq_length
def XD:=@Array.toList_extract
def XE:=@List.replicate_succ'
def XF:=@List.dropLast_subset
def XG:=@List.take_take
def XI:=@Bool.and_assoc
def XJ:=@Nat.mul_le_mul
def XK:=@List.getElem?_range
def XL:=@Nat.mul_le_mul_left
def XM:=@Array.toList_append
def XN:=@List.length_flatten
def XO:=@List.map_eq_nil_iff
def XP:=@List.filterMap_cons
def XQ:=@Nat.le_of_lt
def XR:=@Int.le_of_lt
def XS:=@Nat.le_of_eq
def XT:=@Nat.pow_succ
def XU:=@and_true
def XV:=@List.map_id
def XW:=@Prod.mk.inj
inductive PV where
  |bot
  |lit (v:Value)
  |agg (xs:List PV)
  |tup (xs:List PV)
  |seq (nw:Bool) (e:Nat) (rows:List (List PV))
  |iptr (e:Nat) (rows:List (List PV)) (i k:Nat)
  |ptr (b off:Nat)
  |bsl (b e off n cap:Nat)
  |fn (f:Fn) (first cap:List PV)
  |amap (nw:Bool) (es:List (Int×PV))
  |ifc (t:TypeId) (x:PV)
inductive Pos where
  |slot (s:Nat)
  |cell (b k:Nat)
  deriving DecidableEq
inductive SV where
  |pv (x:PV)
  |own (nw:Bool) (e:Nat) (rows:List (List PV))
  |omap (nw:Bool) (es:List (Int×PV))
  |al (p:Pos)
  |loc (p:Pos) (lo hi:Nat)
  |sptr (p:Pos) (i k:Nat)
  |agl (xs:List (PV×Option Pos))
  |opt (c:Prop) (x:SV)
structure St where
  t:List (Nat×SV)
  h:List (List SV)
def bT(w:World):Os×(Nat->Question->Nat)×Array (Nat×ByteArray):=(w.os,w.tape,w.output)
structure Gh where
  I:Nat->Option Obj
  F:Nat->Option Obj
  B:Nat
  μ:Nat->Nat
  n:Nat
  n0:Nat
  N:Nat
  env:Os×(Nat->Question->Nat)×Array (Nat×ByteArray)
mutual
def Fit(g:Gh):PV->Value->Prop
  |.bot,_=>True
  |.lit x,v=>v=x
  |.agg xs,v=>∃vs:Array Value,v=.agg vs∧ak g xs vs.toList
  |.tup xs,v=>∃vs:Array Value,v=.tuple vs∧ak g xs vs.toList
  |.seq nw e rows,v=>∃p cap,v=.slice p rows.length cap∧rows.length<=cap∧(rows=[]∨∃c off arr T fz vs,p=some ⟨c,off,none⟩∧g.I c=some (.cells arr T fz)∧(nw=true->g.B<=c)∧ay g e rows vs∧vs<+:arr.toList.drop off)
  |.iptr e rows i k,v=>∃c off arr T fz vs,v=.pointer (some ⟨c,off+i*e+k,none⟩)∧g.I c=some (.cells arr T fz)∧ay g e rows vs∧vs<+:arr.toList.drop off
  |.ptr b off,v=>b<g.n∧v=.pointer (some ⟨g.μ b,off,none⟩)
  |.bsl b _ off n cap,v=>b<g.n∧n<=cap∧v=.slice (some ⟨g.μ b,off,none⟩) n cap
  |.fn f first cap,v=>∃a b:Array Value,v=.func f a b∧ak g first a.toList∧ak g cap b.toList
  |.amap nw es,v=>∃r entries clock,v=.map (some r)∧g.I r=some (.map entries clock)∧(nw=true->g.B<=r)∧bD g es entries.toList∧MapKept.Stamped entries clock
  |.ifc t x,v=>∃y,v=.iface t y∧Fit g x y
def ak(g:Gh):List PV->List Value->Prop
  |[],vs=>vs=[]
  |x::xs,vs=>∃v r,vs=v::r∧Fit g x v∧ak g xs r
def ay(g:Gh)(e:Nat):List (List PV)->List Value->Prop
  |[],vs=>vs=[]
  |row::rows,vs=>∃v1 v2,vs=v1++v2∧(row.length=e∧∀v∈v1,v.oneCell'=true)∧ak g row v1∧ay g e rows v2
def bD(g:Gh):List (Int×PV)->List MapEntry->Prop
  |[],es=>es=[]
  |(k,x)::xs,es=>∃m r,es=m::r∧m.key=.int .i64 k∧Fit g x m.val∧bD g xs r
end
structure Gh.le (g g':Gh):Prop where
  I:∀c o,g.I c=some o->g'.I c=some o
  B:g'.B<=g.B
  n:g.n<=g'.n
  μ:∀b,b<g.n->g'.μ b=g.μ b
theorem Gh.le.refl(g:Gh):g.le g:=⟨λ_ _ h=>h,SY _,SY _,λ_ _=>rfl⟩
mutual
theorem Fit.mono{g g':Gh}(hl:g.le g'):∀(x:PV)(v:Value),Fit g x v->Fit g' x v
  |.bot,_,_=>trivial
  |.lit _,_,h=>h
  |.agg xs,v,⟨vs,h1,h2⟩=>⟨vs,h1,ak.mono hl xs _ h2⟩
  |.tup xs,v,⟨vs,h1,h2⟩=>⟨vs,h1,ak.mono hl xs _ h2⟩
  |.seq nw e rows,v,⟨p,cap,h1,hc,h2⟩=>⟨p,cap,h1,hc,h2.imp id λ⟨c,off,arr,T,fz,vs,a,b,n,r,q⟩=>⟨c,off,arr,T,fz,vs,a,hl.I _ _ b,λhn=>TD hl.B (n hn),ay.mono hl e rows vs r,q⟩⟩
  |.iptr e rows i k,v,⟨c,off,arr,T,fz,vs,a,b,r,q⟩=>⟨c,off,arr,T,fz,vs,a,hl.I _ _ b,ay.mono hl e rows vs r,q⟩
  |.ptr b off,v,⟨h1,h2⟩=>⟨Uk h1 hl.n,by rw[hl.μ b h1];exact h2⟩
  |.bsl b _ off _ _,v,⟨h1,h2⟩=>⟨Uk h1 hl.n,by rw[hl.μ b h1];exact h2⟩
  |.fn f first cap,v,⟨a,b,h1,h2,h3⟩=>⟨a,b,h1,ak.mono hl first _ h2,ak.mono hl cap _ h3⟩
  |.amap nw es,v,⟨r,en,ck,a,b,n,q⟩=>⟨r,en,ck,a,hl.I _ _ b,λhn=>TD hl.B (n hn),bD.mono hl es _ q.1,q.2⟩
  |.ifc t x,v,⟨y,h1,h2⟩=>⟨y,h1,Fit.mono hl x y h2⟩
theorem ak.mono{g g':Gh}(hl:g.le g'):∀(xs:List PV)(vs:List Value),ak g xs vs->ak g' xs vs
  |[],_,h=>h
  |x::xs,vs,⟨v,r,h1,h2,h3⟩=>⟨v,r,h1,Fit.mono hl x v h2,ak.mono hl xs r h3⟩
theorem ay.mono{g g':Gh}(hl:g.le g')(e:Nat):∀(rows:List (List PV))(vs:List Value),ay g e rows vs->ay g' e rows vs
  |[],_,h=>h
  |row::rows,vs,⟨v1,v2,h1,h2,h3,h4⟩=>⟨v1,v2,h1,h2,ak.mono hl row v1 h3,ay.mono hl e rows v2 h4⟩
theorem bD.mono{g g':Gh}(hl:g.le g'):∀(es:List (Int×PV))(en:List MapEntry),bD g es en->bD g' es en
  |[],_,h=>h
  |(k,x)::es,en,⟨m,r,h1,h2,h3,h4⟩=>⟨m,r,h1,h2,Fit.mono hl x m.val h3,bD.mono hl es r h4⟩
end
theorem ak.length{g:Gh}:∀{xs:List PV}{vs:List Value},ak g xs vs->vs.length=xs.length
 |[],_,h=>by simp only[ak]at h;simp[h]
 |_::_,_,⟨_,_,h1,_,a⟩=>by simp[h1,ak.length a]
theorem ak.get{g:Gh}:∀{xs:List PV}{vs:List Value}(_:ak g xs vs)(i:Nat)(x:PV),xs[i]?=some x->∃v,vs[i]?=some v∧Fit g x v
 |[],_,_,i,x,h=>by simp at h
 |y::xs,_,⟨v,r,h1,a,b⟩,0,x,h=>by simp at h;subst h;exact⟨v,by simp[h1],a⟩
 |y::xs,_,⟨v,r,h1,a,b⟩,i+1,x,h=>by
  simp at h;obtain⟨e,c,d⟩:=ak.get b i x h;exact⟨e,by simp[h1,c],d⟩
theorem ak.append{g:Gh}:∀{xs ys:List PV}{vs a:List Value},ak g xs vs->ak g ys a->ak g (xs++ys) (vs++a)
 |[],_,_,_,h,h'=>by simp only[ak]at h;subst h;exact h'
 |_::_,_,_,_,⟨v,r,h1,b,c⟩,h'=>⟨v,_,by simp[h1],b,ak.append c h'⟩
theorem ak.split{g:Gh}:∀{xs ys:List PV}{vs:List Value},ak g (xs++ys) vs->∃c d,vs=c++d∧ak g xs c∧ak g ys d
 |[],_,vs,h=>⟨[],vs,rfl,rfl,h⟩
 |_::_,_,_,⟨v,r,h1,f,i⟩=>by
  obtain⟨c,d,e,a,b⟩:=ak.split i;exact⟨v::c,d,by simp[h1,e],⟨v,c,rfl,f,a⟩,b⟩
theorem ay.length{g:Gh}{e:Nat}:∀{rows:List (List PV)}{vs:List Value},ay g e rows vs->vs.length=rows.length*e
 |[],_,h=>by simp only[ay]at h;simp[h]
 |row::rows,_,⟨d,f,h1,a,b,c⟩=>by
  rw[h1,Ta,b.length,a.1,ay.length c,Ty,UR];omega
theorem ay.get{g:Gh}{e:Nat}:∀{rows:List (List PV)}{vs:List Value}(_:ay g e rows vs)(i:Nat)(row:List PV),rows[i]?=some row->
 row.length=e∧∃a b c,vs=a++b++c∧a.length=i*e∧ak g row b
 |[],_,_,i,row,h=>by simp at h
 |q::rows,_,⟨j,l,h1,d,f,k⟩,0,row,h=>by
  simp at h;subst h;exact⟨d.1,[],j,l,by simp[h1],by simp,f⟩
 |q::rows,_,⟨j,l,h1,d,f,k⟩,i+1,row,h=>by
  simp at h;obtain⟨p,a,b,c,m,n,o⟩:=ay.get k i row h;exact⟨p,j++a,b,c,by simp[h1,m],by rw[Ta,f.length,d.1,n,UR];omega,o⟩
theorem ay.append{g:Gh}{e:Nat}:∀{xs ys:List (List PV)}{vs a:List Value},ay g e xs vs->ay g e ys a->ay g e (xs++ys) (vs++a)
 |[],_,_,_,h,h'=>by simp only[ay]at h;subst h;exact h'
 |_::_,_,_,_,⟨f,i,h1,b,c,d⟩,h'=>⟨f,_,by simp[h1],b,c,ay.append d h'⟩
theorem ay.split{g:Gh}{e:Nat}:∀{xs ys:List (List PV)}{vs:List Value},ay g e (xs++ys) vs->∃c d,vs=c++d∧ay g e xs c∧ay g e ys d
 |[],_,vs,h=>⟨[],vs,rfl,rfl,h⟩
 |_::_,_,_,⟨c,d,h1,j,k,l⟩=>by
  obtain⟨f,m,i,a,b⟩:=ay.split l;exact⟨c++f,m,by simp[h1,i],⟨c,f,rfl,j,k,a⟩,b⟩
theorem ay.one{g:Gh}{e:Nat}:∀{rows:List (List PV)}{vs:List Value},ay g e rows vs->∀v∈vs,v.oneCell'=true
 |[],_,h=>by simp only[ay]at h;subst h;simp
 |_::_,_,⟨d,f,h1,b,_,c⟩=>by
  subst h1;intro v a;rcases Te.1 a with a|a
  .exact b.2 v a
  .exact ay.one c v a
theorem su{xs ys:List Value}{k:Nat}(h:∀v∈xs,v.oneCell'=true)(h':∀v∈ys,v.oneCell'=true)(n:Nat):∀v∈xs.take k++ys++xs.drop n,v.oneCell'=true:=by
 intro v a;simp only[Te]at a;rcases a with(a|a)|a
 .exact h v (TV a)
 .exact h' v a
 .exact h v (U3 a)
theorem ft{xs ys:List Value}(h:∀v∈xs,v.oneCell'=true)(h':∀v∈ys,v.oneCell'=true):∀v∈xs++ys,v.oneCell'=true:=λv a=>(Te.1 a).elim (h v) (h' v)
theorem bD.length{g:Gh}:∀{es:List (Int×PV)}{en:List MapEntry},bD g es en->en.length=es.length
 |[],_,h=>by simp only[bD]at h;simp[h]
 |_::_,_,⟨_,_,h1,_,_,a⟩=>by simp[h1,bD.length a]
/-! ### Slots -/
def look:List (Nat×SV)->Nat->SV
 |[],_=>.pv .bot
 |(j,v)::r,k=>if j=k then v else look r k
def aa(st:St):Pos->SV
 |.slot s=>look st.t s
 |.cell b k=>(st.h.getD b []).getD k (.pv .bot)
def Pa(g:Gh)(w:World)(nw:Bool)(e:Nat)(rows:List (List PV))(v:Value)(c:Nat):Prop:=
 ∃cap arr T vs,v=.slice (some ⟨c,0,none⟩) rows.length cap∧w.heap[c]?=some (.cells arr T (0,0))∧arr.size=cap*e∧(rows.length<=cap∧cap<=maxLen∧∀v∈arr.toList,v.oneCell'=true)∧ay g e rows vs∧vs<+:arr.toList∧(nw=true->g.B<=c)
def Pb(g:Gh)(w:World)(nw:Bool)(es:List (Int×PV))(v:Value)(c:Nat):Prop:=
 ∃a b,v=.map (some c)∧w.heap[c]?=some (.map a b)∧bD g es a.toList∧(nw=true->g.B<=c)∧MapKept.Stamped a b
def az(g:Gh)(w:World):SV->Value->Option Nat->Prop
 |.pv x,v,bl=>bl=none∧Fit g x v
 |.own nw e rows,v,bl=>(bl=none∧rows=[]∧v=.slice none 0 0)∨∃c,bl=some c∧Pa g w nw e rows v c
 |.omap nw es,v,bl=>∃c,bl=some c∧Pb g w nw es v c
 |.opt c x,v,bl=>bl=none∧(¬c->v=undef)∧(c->az g w x v none)
 |.al _,_,bl=>bl=none
 |.loc _ _ _,_,bl=>bl=none
 |.sptr _ _ _,_,bl=>bl=none
 |.agl xs,v,bl=>bl=none∧∃vs:Array Value,v=.agg vs∧ak g (xs.map (·.1)) vs.toList
def SV.isOwn:SV->Bool
 |.own .. =>true
 |.omap .. =>true
 |_=>false
def SV.inCell:SV->Bool
 |.pv _=>true
 |.own .. =>true
 |.omap .. =>true
 |_=>false
def an(g:Gh)(a:Act)(w:World):Pos->Value
 |.slot s=>a.tmps.getD s undef
 |.cell b k=>match w.heap[g.μ b]?with
  |some (.cells arr _ _)=>arr.getD k undef
  |_=>undef
def bW(g:Gh)(st:St)(a:Act)(w:World):SV->Value->Prop
 |.al p,v=>(aa st p).isOwn=true->v=an g a w p
 |.loc p lo hi,v=>∀nw e rows,aa st p=.own nw e rows->lo<=hi∧hi<=rows.length∧∃q cap,v=.slice q (hi -lo) cap∧hi -lo<=cap∧(lo=hi∨∃c n cp,an g a w p=.slice (some ⟨c,0,none⟩) n cp∧q=some ⟨c,lo*e,none⟩)∧(lo=0->∃n0,an g a w p=.slice q n0 cap)
 |.sptr p i k,v=>∀nw e rows,aa st p=.own nw e rows->∃c n cp,an g a w p=.slice (some ⟨c,0,none⟩) n cp∧v=.pointer (some ⟨c,i*e+k,none⟩)
 |.agl xs,v=>∀(k:Nat)(x:PV)(p:Pos),xs[k]?=some (x,some p)->(aa st p).isOwn=true->∃vs:Array Value,v=.agg vs∧vs[k]?=some (an g a w p)
 |.opt c x,v=>c->bW g st a w x v
 |_,_=>True
structure Owns (g:Gh) (st:St) (a:Act) (w:World) (bl:Pos->Option Nat):Prop where
  slots:∀s,az g w (look st.t s) (a.tmps.getD s undef) (bl (.slot s))
  blocks:∀b xs,st.h[b]?=some xs->∃arr T,w.heap[g.μ b]?=some (.cells arr T (0,0))∧(arr.size=xs.length∧∀v∈arr.toList,v.oneCell'=true)∧
    ∀k x,xs[k]?=some x->x.inCell=true∧az g w x (arr.getD k undef) (bl (.cell b k))
  inj:∀p q c,bl p=some c->bl q=some c->p=q
  free:∀p c,bl p=some c->g.I c=none∧g.F c=none∧c<w.heap.size∧∀b,b<g.n->g.μ b≠c
structure Sim (g:Gh) (st:St) (a:Act) (w:World):Prop where
  size:a.tmps.size=g.N
  defs:a.defers=[]
  env:bT w=g.env
  n:g.n=st.h.length
  n0:g.n0<=g.n
  B:g.B<=w.heap.size
  I:∀c o,g.I c=some o->w.heap[c]?=some o
  F:∀c o,g.F c=some o->w.heap[c]?=some o
  μI:∀b,b<g.n->g.I (g.μ b)=none∧g.F (g.μ b)=none
  μinj:∀b b',b<g.n->b'<g.n->g.μ b=g.μ b'->b=b'
  own:∃bl,Owns g st a w bl
  al:∀s,bW g st a w (look st.t s) (a.tmps.getD s undef)
structure Gh.to (g g':Gh):Prop where
  I:∀c o,g.I c=some o->g'.I c=some o
  F:g'.F=g.F
  B:g'.B=g.B
  n0:g'.n0=g.n0
  N:g'.N=g.N
  env:g'.env=g.env
  n:g.n0<=g'.n
  μ:∀b,b<g.n0->g'.μ b=g.μ b
  FI:∀c,g.F c≠none->g.I c=none->g'.I c=none
theorem Gh.to.trans{a b c:Gh}(h:a.to b)(h':b.to c):a.to c:=
  ⟨λk o x=>h'.I _ _ (h.I _ _ x),h'.F.trans h.F,h'.B.trans h.B,h'.n0.trans h.n0,h'.N.trans h.N,h'.env.trans h.env,by have:=h'.n;rw[h.n0]at this;exact this,
   λb e=>by rw[h'.μ b (by rw[h.n0];exact e),h.μ b e],λc d f=>h'.FI c (by rw[h.F];exact d) (h.FI c d f)⟩
end Go.AX
namespace Go.AX
def ev(st:St):Operand->SV
 |.tmp k=>look st.t k
 |.const v=>.pv (.lit v)
 |.func f=>.pv (.lit (.func (.func f) #[] #[]))
 |.global _=>.pv .bot
def R6(x:Operand):SV->SV
 |.own _ _ _=>match x with|.tmp s=>.al (.slot s)|_=>.pv .bot
 |.omap _ _=>match x with|.tmp s=>.al (.slot s)|_=>.pv .bot
 |.opt _ y=>y
 |.pv p=>.pv p
 |.al p=>.al p
 |.loc p i k=>.loc p i k
 |.sptr p i k=>.sptr p i k
 |.agl xs=>.agl xs
def mv(st:St)(x:Operand):SV:=R6 x (ev st x)
def R7:SV->Prop
 |.opt c _=>c
 |.own _ _ _=>True
 |.omap _ _=>True
 |.pv _=>True
 |.al _=>True
 |.loc _ _ _=>True
 |.sptr _ _ _=>True
 |.agl _=>True
def gc(st:St)(x:Operand):Prop:=R7 (ev st x)
theorem Sim.slot{g:Gh}{st:St}{a:Act}{w:World}(h:Sim g st a w)(k:Nat):∃b,az g w (look st.t k) (a.tmps.getD k undef) b:=by
 obtain⟨bl,c⟩:=h.own;exact⟨_,c.slots k⟩
theorem aN{g:Gh}{st:St}{a:Act}{w:World}(h:Sim g st a w)(x:Operand)(m:gc st x):
 az g w (mv st x) (a.eval x) none∧bW g st a w (mv st x) (a.eval x):=by
 cases x with
 |const v=>exact⟨⟨rfl,rfl⟩,trivial⟩
 |func f=>exact⟨⟨rfl,rfl⟩,trivial⟩
 |global n=>exact⟨⟨rfl,trivial⟩,trivial⟩
 |tmp k=>
  obtain⟨b,hs⟩:=h.slot k;have d:=h.al k;simp only[mv,ev,Act.eval,gc]at*;cases l:look st.t k with
  |pv p=>rw[l]at hs d;obtain⟨rfl,o⟩:=hs;exact⟨⟨rfl,o⟩,trivial⟩
  |own nw e rows=>rw[l]at hs;exact⟨rfl,λ_=>rfl⟩
  |omap nw es=>rw[l]at hs;exact⟨rfl,λ_=>rfl⟩
  |al p=>rw[l]at hs d;exact⟨rfl,d⟩
  |loc p i j=>rw[l]at hs d;exact⟨rfl,d⟩
  |sptr p i j=>rw[l]at hs d;exact⟨rfl,d⟩
  |agl xs=>rw[l]at hs d;exact⟨⟨rfl,hs.2⟩,d⟩
  |opt c y=>rw[l]at hs d m;exact⟨hs.2.2 m,d m⟩
def K6(P:Program)(st:St)(o:Oper)(r:SV×Prop):Prop:=
 ∀g a w,Sim g st a w->r.2->∃v,(execOp a.eval o).run P w=.ok (.value v) w∧az g w r.1 v none∧bW g st a w r.1 v
def i8(P:Program)(st:St)(o:Oper)(r:SV×Prop):Prop:=
 ∀g a w,Sim g st a w->r.2->∃v,(∀w':World,(execOp a.eval o).run P w'=.ok (.value v) w')∧az g w r.1 v none∧bW g st a w r.1 v
theorem i8.pop{P:Program}{st:St}{o:Oper}{r:SV×Prop}(h:i8 P st o r):K6 P st o r:=λg a w hs c=>by
 obtain⟨v,h1,b⟩:=h g a w hs c;exact⟨v,h1 w,b⟩
/-! ### Numbers, truths, texts -/
def gi:SV->IntKind
 |.pv (.lit (.int k _))=>k
 |_=>.i64
def aS:SV->Int
 |.pv (.lit (.int _ n))=>n
 |_=>0
def gj:SV->Prop
 |.pv (.lit (.int _ _))=>True
 |_=>False
def rP:SV->Bool
 |.pv (.lit (.bool b))=>b
 |_=>false
def Ba:SV->Prop
 |.pv (.lit (.bool _))=>True
 |_=>False
def lT:SV->ByteArray
 |.pv (.lit (.string s))=>s
 |_=>ByteArray.empty
def rQ:SV->Prop
 |.pv (.lit (.string _))=>True
 |_=>False
theorem Be{x:SV}(h:gj x):x=.pv (.lit (.int (gi x) (aS x))):=by
 unfold gj at h;split at h
 .rfl
 .cases h
theorem Nt{x:SV}(h:Ba x):x=.pv (.lit (.bool (rP x))):=by
 unfold Ba at h;split at h
 .rfl
 .cases h
theorem Nu{x:SV}(h:rQ x):x=.pv (.lit (.string (lT x))):=by
 unfold rQ at h;split at h
 .rfl
 .cases h
theorem bX{g:Gh}{st:St}{a:Act}{w:World}(h:Sim g st a w){x:Operand}(b:gc st x)(hi:gj (mv st x)):
 a.eval x=.int (gi (mv st x)) (aS (mv st x)):=by
 have:=(aN h x b).1;rw[Be hi]at this;exact this.2
theorem kz{g:Gh}{st:St}{a:Act}{w:World}(h:Sim g st a w){x:Operand}(b:gc st x)(hi:Ba (mv st x)):
 a.eval x=.bool (rP (mv st x)):=by
 have:=(aN h x b).1;rw[Nt hi]at this;exact this.2
theorem qh{g:Gh}{st:St}{a:Act}{w:World}(h:Sim g st a w){x:Operand}(b:gc st x)(hi:rQ (mv st x)):
 a.eval x=.string (lT (mv st x)):=by
 have:=(aN h x b).1;rw[Nu hi]at this;exact this.2
abbrev SV.int(k:IntKind)(n:Int):SV:=.pv (.lit (.int k n))
abbrev SV.bool(b:Bool):SV:=.pv (.lit (.bool b))
inductive TK where
  |int|bool|string|ptr|slice|map|func|other
  |flat (n:Nat)
def kJ(P:Program):List Field->Nat->Bool
 |[],_=>true
 |f::a,n=>f.offset==n&&f.name != "_" &&(match P.underlying f.type with|some (.int _)=>true|_=>false)&&(match P.info? f.type with|some i=>i.size==1|none=>false)&&kJ P a (n+1)
def Pc(P:Program)(e:TypeId):Bool:=(match P.underlying e with|some (.int _)=>true|_=>false)&&P.cellsOf e==1&&(P.info? e).isSome
def tk(P:Program)(t:TypeId):TK:=
 match P.underlying t with
 |some (.int _)=>.int
 |some .bool=>.bool
 |some .string=>.string
 |some (.pointer _)=>.ptr
 |some (.slice _)=>.slice
 |some (.map _ _)=>.map
 |some (.func _ _ _)=>.func
 |some (.struct a)=>if kJ P a.toList 0&&!P.stoodInHeld t&&!P.eqGuardType P.depth t then .flat a.size else .other
 |some (.array n e)=>if Pc P e&&!P.eqGuardType P.depth t then .flat n else .other
 |_=>.other
/-! ### Binary operators -/
def Ha(op:BinOp)(x y:SV):SV×Prop:=
 match op with
 |.add=>(.int (gi x) ((gi x).wrap (aS x+aS y)),gj x∧gj y∧gi x=gi y∧True)
 |.sub=>(.int (gi x) ((gi x).wrap (aS x -aS y)),gj x∧gj y∧gi x=gi y∧True)
 |.mul=>(.int (gi x) ((gi x).wrap (aS x*aS y)),gj x∧gj y∧gi x=gi y∧True)
 |.quo=>(.int (gi x) ((gi x).wrap ((aS x).tdiv (aS y))),gj x∧gj y∧gi x=gi y∧aS y≠0)
 |.rem=>(.int (gi x) ((aS x).tmod (aS y)),gj x∧gj y∧gi x=gi y∧aS y≠0)
 |.lss=>(.bool (decide (aS x<aS y)),gj x∧gj y∧gi x=gi y∧True)
 |.leq=>(.bool (decide (aS x<=aS y)),gj x∧gj y∧gi x=gi y∧True)
 |.gtr=>(.bool (decide (aS y<aS x)),gj x∧gj y∧gi x=gi y∧True)
 |.geq=>(.bool (decide (aS y<=aS x)),gj x∧gj y∧gi x=gi y∧True)
 |.eql=>(.bool (decide (aS x=aS y)),gj x∧gj y∧gi x=gi y∧True)
 |.neq=>(.bool (!decide (aS x=aS y)),gj x∧gj y∧gi x=gi y∧True)
 |.and=>(.int (gi x) (bits .and (gi x) (aS x) (aS y)),gj x∧gj y∧gi x=gi y∧True)
 |.shr=>(.int (gi x) ((aS x).fdiv (2^min (aS y).toNat (gi x).bits)),gj x∧gj y∧0<=aS y)
 |.shl=>(.int (gi x) ((gi x).wrap (aS x*2^min (aS y).toNat (gi x).bits)),gj x∧gj y∧0<=aS y)
 |_=>(.pv .bot,False)
def Hb(op:BinOp)(x y:SV):SV×Prop:=
 match op with
 |.eql=>(.bool (rP x==rP y),Ba x∧Ba y)
 |.neq=>(.bool (rP x !=rP y),Ba x∧Ba y)
 |_=>(.pv .bot,False)
def Hc(op:BinOp)(x y:SV):SV×Prop:=
 match op with
 |.add=>(.pv (.lit (.string (lT x++lT y))),rQ x∧rQ y∧((lT x).size+(lT y).size:Nat)<=9223372036854775807)
 |.eql=>(.bool (decide (lT x=lT y)),rQ x∧rQ y)
 |.neq=>(.bool (!decide (lT x=lT y)),rQ x∧rQ y)
 |.lss=>(.bool (Op.bytesLess (lT x).toList (lT y).toList),rQ x∧rQ y)
 |.gtr=>(.bool (!(Op.bytesLess (lT x).toList (lT y).toList||decide (lT x=lT y))),rQ x∧rQ y)
 |.leq=>(.bool (Op.bytesLess (lT x).toList (lT y).toList||decide (lT x=lT y)),rQ x∧rQ y)
 |.geq=>(.bool (!Op.bytesLess (lT x).toList (lT y).toList),rQ x∧rQ y)
 |_=>(.pv .bot,False)
def kQ:SV->Option Bool
 |.pv (.lit (.pointer none))=>some true
 |.pv (.lit (.pointer (some _)))=>some false
 |.pv (.ptr _ _)=>some false
 |.pv (.iptr _ _ _ _)=>some false
 |.sptr _ _ _=>none
 |.pv (.lit (.slice none 0 0))=>some true
 |.pv (.lit (.map none))=>some true
 |_=>none
def iG:SV->Bool
 |.pv (.lit (.pointer none))=>true
 |_=>false
def Fg(op:BinOp)(x y:SV):SV×Prop:=
 match op with
 |.eql=>(.bool (kQ x==some true),iG y=true∧(kQ x).isSome=true)
 |.neq=>(.bool (kQ x==some false),iG y=true∧(kQ x).isSome=true)
 |_=>(.pv .bot,False)
def mi:SV->List Int
 |.pv (.agg xs)=>xs.map λx=>aS (.pv x)
 |.pv (.lit (.agg vs))=>vs.toList.map λv=>aS (.pv (.lit v))
 |_=>[]
def fC:SV->List IntKind
 |.pv (.agg xs)=>xs.map λx=>gi (.pv x)
 |.pv (.lit (.agg vs))=>vs.toList.map λv=>gi (.pv (.lit v))
 |_=>[]
def oi(n:Nat):SV->Prop
 |.pv (.agg xs)=>xs.length=n∧∀x∈xs,gj (.pv x)
 |.pv (.lit (.agg vs))=>vs.size=n∧∀v∈vs.toList,gj (.pv (.lit v))
 |_=>False
def Fh(n:Nat)(op:BinOp)(x y:SV):SV×Prop:=
 match op with
 |.eql=>(.bool (decide (mi x=mi y)),oi n x∧oi n y∧fC x=fC y)
 |.neq=>(.bool (!decide (mi x=mi y)),oi n x∧oi n y∧fC x=fC y)
 |_=>(.pv .bot,False)
theorem Dh{P:Program}{st:St}(o:Oper)(op:BinOp)(t u:TypeId)(x y:Operand)(ho:o.op=.binOp op t x y u):
 i8 P st o ((Ha op (mv st x) (mv st y)).1,gc st x∧gc st y∧(Ha op (mv st x) (mv st y)).2):=by
 intro g a w h ⟨hx,hy,hd⟩;have d:=λhi=>bX h hx hi;have e:=λhi=>bX h hy hi;unfold Ha at hd⊢;simp only[execOp,ho];cases op<;>simp only at hd⊢
 case quo|rem=>
  obtain⟨h1,c,b,f⟩:=hd;rw[d h1,e c,b];simp only[go_sem,Sem.run_bind,Sem.run_pure,Result.andThen_ok,Op.intDiv,SU f];exact⟨_,λ_=>rfl,⟨rfl,by first|rfl|rw[b]⟩,trivial⟩
 case and|add|sub|mul|lss|leq|gtr|geq|eql|neq=>
  obtain⟨h1,c,b,f⟩:=hd;rw[d h1,e c,b];simp only[go_sem,Sem.run_bind,Sem.run_pure,Result.andThen_ok,Op.intArith];exact⟨_,λ_=>rfl,⟨rfl,by first|rfl|rw[b]⟩,trivial⟩
 case shr|shl=>
  obtain⟨h1,c,b⟩:=hd;rw[d h1,e c];simp only[go_sem,Sem.run_bind,Sem.run_pure,Result.andThen_ok,Op.shift,SU (WF.2 b)];exact⟨_,λ_=>rfl,⟨rfl,rfl⟩,trivial⟩
 all_goals exact hd.elim
theorem Di{P:Program}{st:St}(o:Oper)(op:BinOp)(t u:TypeId)(x y:Operand)(ho:o.op=.binOp op t x y u)(ht:P.underlying t=some .bool):
 i8 P st o ((Hb op (mv st x) (mv st y)).1,gc st x∧gc st y∧(Hb op (mv st x) (mv st y)).2):=by
 intro g a w h ⟨hx,hy,hd⟩;have b:=λhi=>kz h hx hi;have c:=λhi=>kz h hy hi;unfold Hb at hd⊢;simp only[execOp,ho];cases op<;>simp only at hd⊢
 case eql|neq=>
  obtain⟨h1,d⟩:=hd;rw[b h1,c d];simp only[eqGuard_at_bool,Sem.run_bind,Sem.run_pure,Result.andThen_ok,run_eql_bool _ t _ _ ht,run_neq_bool _ t _ _ ht];exact⟨_,λ_=>rfl,⟨rfl,rfl⟩,trivial⟩
 all_goals exact hd.elim
theorem ByteArray.toList_inj{a b:ByteArray}:(a.toList==b.toList)=decide (a=b):=by
 rw[W8,WG,Vy];constructor
 .intro h;rw[ByteArray.toList_eq,ByteArray.toList_eq]at h;cases a;cases b;simp at h;simp[h]
 .intro h;rw[h]
theorem Dj{P:Program}{st:St}(o:Oper)(op:BinOp)(t u:TypeId)(x y:Operand)(ho:o.op=.binOp op t x y u):
 i8 P st o ((Hc op (mv st x) (mv st y)).1,gc st x∧gc st y∧(Hc op (mv st x) (mv st y)).2):=by
 intro g a w h ⟨hx,hy,hd⟩;have c:=λhi=>qh h hx hi;have d:=λhi=>qh h hy hi;unfold Hc at hd⊢;simp only[execOp,ho];cases op<;>simp only at hd⊢
 case add=>
  obtain⟨h1,b,e⟩:=hd;rw[c h1,d b];simp only[eqGuard_at_string,Sem.run_bind,Sem.run_pure,Result.andThen_ok,binOp,Op.stringOp];rw[SU (by simp only[IntKind.max_i64];omega)];exact⟨_,λ_=>rfl,⟨rfl,rfl⟩,trivial⟩
 case eql|neq|lss|leq|gtr|geq=>
  obtain⟨h1,b⟩:=hd;rw[c h1,d b];simp only[eqGuard_at_string,Sem.run_bind,Sem.run_pure,Result.andThen_ok,binOp,Op.stringOp,ByteArray.toList_inj];exact⟨_,λ_=>rfl,⟨rfl,rfl⟩,trivial⟩
 all_goals exact hd.elim
theorem Bf{g:Gh}{w:World}{x:SV}{v:Value}{b:Bool}(h:az g w x v none)(hn:kQ x=some b)(hp:∃p,v=.pointer p):v=.pointer none∧b=true∨(∃q,v=.pointer (some q))∧b=false:=by
 unfold kQ at hn;split at hn
 .cases hn;obtain⟨_,rfl⟩:=h;exact .inl ⟨rfl,rfl⟩
 .cases hn;obtain⟨_,rfl⟩:=h;exact .inr ⟨⟨_,rfl⟩,rfl⟩
 .cases hn;obtain⟨_,_,rfl⟩:=h;exact .inr ⟨⟨_,rfl⟩,rfl⟩
 .cases hn;obtain⟨_,_,_,_,_,_,_,rfl,_⟩:=h;exact .inr ⟨⟨_,rfl⟩,rfl⟩
 .cases hn
 .obtain⟨_,rfl⟩:=h;obtain⟨p,hp⟩:=hp;cases hp
 .obtain⟨_,rfl⟩:=h;obtain⟨p,hp⟩:=hp;cases hp
 .cases hn
def ym:SV->Prop
 |.pv (.lit (.pointer _))=>True
 |.pv (.ptr _ _)=>True
 |.pv (.iptr _ _ _ _)=>True
 |_=>False
theorem He{g:Gh}{w:World}{x:SV}{v:Value}(h:az g w x v none)(hp:ym x):∃p,v=.pointer p:=by
 unfold ym at hp;split at hp
 .obtain⟨_,rfl⟩:=h;exact⟨_,rfl⟩
 .obtain⟨_,_,rfl⟩:=h;exact⟨_,rfl⟩
 .obtain⟨_,_,_,_,_,_,_,rfl,_⟩:=h;exact⟨_,rfl⟩
 .cases hp
theorem Bg{P:Program}{t e:TypeId}(h:P.underlying t=some (.pointer e)):P.underlying t=some (.pointer (P.pointee t)):=by
 simp[Program.pointee,h]
theorem Dk{P:Program}{st:St}(o:Oper)(op:BinOp)(t u e:TypeId)(x y:Operand)(ho:o.op=.binOp op t x y u)(ht:P.underlying t=some (.pointer e)):
 i8 P st o ((Fg op (mv st x) (mv st y)).1,gc st x∧gc st y∧ym (mv st x)∧(Fg op (mv st x) (mv st y)).2):=by
 intro g a w h ⟨hx,hy,hp,hd⟩;obtain⟨i,_⟩:=aN h x hx;obtain⟨j,_⟩:=aN h y hy;obtain⟨p,hp⟩:=He i hp;have d:=Bg ht;have c:iG (mv st y)=true->a.eval y=.pointer none:=by
  intro hn;unfold iG at hn;split at hn
  .rename_i e;rw[e]at j;exact j.2
  .cases hn
 unfold Fg at hd⊢;simp only[execOp,ho];cases op<;>simp only at hd⊢
 case eql|neq=>
  obtain⟨h1,l⟩:=hd;obtain⟨b,k⟩:=VU.mp l;rw[c h1,hp];simp only[eqGuard_at_pointer,Sem.run_bind,Sem.run_pure,Result.andThen_ok,run_eql_pointer_nil _ t _ d,run_neq_pointer_nil _ t _ d];refine⟨_,λ_=>rfl,⟨rfl,?_⟩,trivial⟩;rcases Bf i k ⟨_,hp⟩with⟨f,rfl⟩|⟨⟨q,f⟩,rfl⟩<;>(rw[hp]at f;cases f;simp[Fit,k])
 all_goals exact hd.elim
/-! ### Flat structs -/
theorem gH{P:Program}(w:World){t:TypeId}{k:IntKind}(ht:P.underlying t=some (.int k))(cs:Array Value)(off:Nat)(v:Value)(h:cs[off]?=some v):
 (part t cs off).run P w=.ok v w:=by
 simp[part,isAgg,run_underlying ht,h]
theorem sx{P:Program}(w:World)(d:Nat)(xs ys:Array Value):∀(b:List Field)(n:Nat)(A B:List (IntKind×Int)),kJ P b n=true->
 A.length=b.length->A.map (·.1)=B.map (·.1)->(∀i p,A[i]?=some p->xs[n+i]?=some (.int p.1 p.2))->(∀i p,B[i]?=some p->ys[n+i]?=some (.int p.1 p.2))->
 (Op.eqFields (d+1) xs ys b).run P w=.ok (decide (A.map (·.2)=B.map (·.2))) w
 |[],n,A,B,_,g,a,_,_=>by
  have:A=[]:=UM.1 g;subst this;have:B=[]:=by simpa using a.symm
  subst this;simp[Op.eqFields]
 |f::b,n,A,B,j,g,a,hx,hy=>by
  cases A with
  |nil=>simp at g
  |cons p A=>
  cases B with
  |nil=>simp at a
  |cons q B=>
  simp only[kJ,S9,WG,bne_iff_ne]at j;obtain⟨⟨⟨⟨ho,hn⟩,l⟩,_⟩,m⟩:=j;split at l
  case h_2=>cases l
  rename_i k hk;simp only[Tn,Vi]at a;have c:=hx 0 p rfl;have e:=hy 0 q rfl;simp only[VE]at c e;rw[Op.eqFields,SX hn,ho];simp only[Sem.run_bind,gH w hk xs n _ c,gH w hk ys n _ e,Result.andThen_ok,a.1,run_equalIn_int w d f.type q.1 k p.2 q.2 hk]
  by_cases h:p.2=q.2
  .simp only[h,Wl,Bool.not_true,TM,Ul];rw[sx w d xs ys b (n+1) A B m (by simpa using g) a.2 (λi p hp=>by have:=hx (i+1) p (by simpa using hp);rw[←this];congr 1;omega) (λi p hp=>by have:=hy (i+1) p (by simpa using hp);rw[←this];congr 1;omega)];simp[h]
  .simp[h]
theorem uX{P:Program}(w:World)(d:Nat)(xs ys:Array Value){e:TypeId}{k:IntKind}(g:P.underlying e=some (.int k)):∀(A B:List (IntKind×Int))(n:Nat),
 A.map (·.1)=B.map (·.1)->(∀i p,A[i]?=some p->xs[n+i]?=some (.int p.1 p.2))->(∀i p,B[i]?=some p->ys[n+i]?=some (.int p.1 p.2))->
 (Op.eqItems (d+1) e 1 xs ys (List.range' n A.length)).run P w=.ok (decide (A.map (·.2)=B.map (·.2))) w
 |[],B,n,a,_,_=>by
  have:B=[]:=by simpa using a.symm
  subst this;simp[Op.eqItems]
 |p::A,[],n,a,_,_=>by simp at a
 |p::A,q::B,n,a,hx,hy=>by
  simp only[Tn,Vi]at a;have c:=hx 0 p rfl;have f:=hy 0 q rfl;simp only[VE]at c f;simp only[Ty,List.range'_succ,Op.eqItems,WH,Sem.run_bind,gH w g xs n _ c,gH w g ys n _ f,Result.andThen_ok,a.1,run_equalIn_int w d e q.1 k p.2 q.2 g]
  by_cases b:p.2=q.2
  .simp only[b,Wl,Bool.not_true,TM,Ul];rw[uX w d xs ys g A B (n+1) a.2 (λi p hp=>by have:=hx (i+1) p (by simpa using hp);rw[←this];congr 1;omega) (λi p hp=>by have:=hy (i+1) p (by simpa using hp);rw[←this];congr 1;omega)];simp[b]
  .simp[b]
def fh:SV->List (IntKind×Int)
 |.pv (.agg xs)=>xs.map λx=>(gi (.pv x),aS (.pv x))
 |.pv (.lit (.agg vs))=>vs.toList.map λv=>(gi (.pv (.lit v)),aS (.pv (.lit v)))
 |_=>[]
theorem rR{g:Gh}{w:World}{x:SV}{v:Value}{n:Nat}(h:az g w x v none)(a:oi n x):
 ∃vs,v=.agg vs∧(fh x).length=n∧(fh x).map (·.1)=fC x∧(fh x).map (·.2)=mi x∧∀(i:Nat)(p:IntKind×Int),(fh x)[i]?=some p->vs[i]?=some (Value.int p.1 p.2):=by
 unfold oi at a;split at a
 .rename_i xs;obtain⟨_,vs,rfl,c⟩:=h;refine⟨vs,rfl,by simp[fh,a.1],by simp[fh,fC],by simp[fh,mi],λi p hp=>?_⟩;simp only[fh,Tm,Tp]at hp;obtain⟨y,hy,rfl⟩:=hp;obtain⟨u,d,b⟩:=c.get i y hy;have:=a.2 y (Ud hy);have e:=Be this;simp only[SV.pv.injEq]at e;rw[e]at b;rw[←S4,d,b]
 .rename_i vs;obtain⟨_,rfl⟩:=h;refine⟨vs,rfl,by simp[fh,a.1],by simp[fh,fC],by simp[fh,mi],λi p hp=>?_⟩;simp only[fh,Tm,Tp]at hp;obtain⟨y,hy,rfl⟩:=hp;have:=a.2 y (Ud hy);have e:=Be this;simp only[SV.pv.injEq,PV.lit.injEq]at e;rw[←S4,hy,←e]
 .cases a
theorem K7{P:Program}{st:St}(o:Oper)(op:BinOp)(t u:TypeId)(x y:Operand)(n:Nat)(ho:o.op=.binOp op t x y u)(ht:tk P t=.flat n):
 K6 P st o ((Fh n op (mv st x) (mv st y)).1,gc st x∧gc st y∧(Fh n op (mv st x) (mv st y)).2):=by
 intro g a w h ⟨hx,hy,hd⟩;obtain⟨J,_⟩:=aN h x hx;obtain⟨K,_⟩:=aN h y hy;unfold tk at ht;split at ht
 case h_8=>
  rename_i I i;split at ht
  case isFalse=>cases ht
  rename_i c;cases ht
  simp only[S9,TU]at c;obtain⟨⟨z,B⟩,b⟩:=c;have d:P.fieldsOf t=I:=by simp[Program.fieldsOf,i]
  have C:P.underlying t=some (.struct (P.fieldsOf t)):=by rw[d];exact i
  unfold Fh at hd⊢;simp only[execOp,ho];cases op<;>simp only at hd⊢
  case eql|neq=>
   obtain⟨h1,r,s⟩:=hd;obtain⟨xs,p,H,F,D,j⟩:=rR J h1;obtain⟨ys,q,N,G,E,l⟩:=rR K r;rw[p,q];simp only[Sem.run_bind,run_eqGuard_agg w _ t _ _ _ _ b,Result.andThen_ok,run_eql_struct,run_neq_struct,run_equalIn_agg w 9999 t xs ys C B,d,
    sx w 9998 xs ys I.toList 0 (fh (mv st x)) (fh (mv st y)) z (by simpa using H) (by rw[F,G,s]) (by simpa using j) (by simpa using l),D,E,Sem.run_pure]
   exact⟨_,rfl,⟨rfl,rfl⟩,trivial⟩
  all_goals exact hd.elim
 case h_9=>
  rename_i m e i;split at ht
  case isFalse=>cases ht
  rename_i c;cases ht
  simp only[Pc,S9,TU,WG]at c;obtain⟨⟨⟨hk,v⟩,hi⟩,b⟩:=c;split at hk
  case h_2=>cases hk
  rename_i k A;obtain⟨M,f⟩:=VU.1 hi;unfold Fh at hd⊢;simp only[execOp,ho];cases op<;>simp only at hd⊢
  case eql|neq=>
   obtain⟨h1,r,s⟩:=hd;obtain⟨xs,p,H,F,D,j⟩:=rR J h1;obtain⟨ys,q,N,G,E,l⟩:=rR K r;rw[p,q];have L:=uX w 9998 xs ys A (fh (mv st x)) (fh (mv st y)) 0 (by rw[F,G,s]) (by simpa using j) (by simpa using l);rw[H,←List.range_eq_range']at L;simp only[Sem.run_bind,run_eqGuard_agg w _ t _ _ _ _ b,Result.andThen_ok,run_eql_struct,run_neq_struct,run_equalIn_array w 9999 xs ys i f,v,L,D,E,Sem.run_pure];exact⟨_,rfl,⟨rfl,rfl⟩,trivial⟩
  all_goals exact hd.elim
 all_goals (first|cases ht|(split at ht<;>cases ht))
end Go.AX
namespace Go.AX
/-! ### What the types say -/
def bd(P:Program)(t:TypeId)(f:Nat):Option Nat:=
 match P.underlying t with
 |some (.struct a)=>match a[f]?with
  |some x=>match P.info? x.type with
   |some i=>if i.size=0 then none else some x.offset
   |none=>none
  |none=>none
 |_=>none
def bm(P:Program)(t:TypeId):Option Nat:=
 match P.underlying t with
 |some (.slice e)=>(P.info? e).map (·.size)
 |_=>none
def mj(P:Program)(t:TypeId):Option (Nat×Nat):=
 match P.underlying t with
 |some (.array n e)=>(P.info? e).map λi=>(n,i.size)
 |_=>none
def aI(P:Program)(t:TypeId):Option (Bool×Nat):=
 match P.underlying t with
 |some (.struct _)=>(P.info? t).map λi=>(true,i.size)
 |some (.array _ _)=>(P.info? t).map λi=>(true,i.size)
 |some _=>(P.info? t).map λi=>(false,i.size)
 |none=>none
theorem run_sizeOf{P:Program}{t:TypeId}{i:TypeInfo}(h:P.info? t=some i)(w:World):(sizeOf t).run P w=.ok i.size w:=by
 simp[sizeOf,typeInfo,h]
theorem iA{P:Program}{t:TypeId}{b:Bool}{n:Nat}(h:aI P t=some (b,n))(w:World):(isAgg t).run P w=.ok b w∧(sizeOf t).run P w=.ok n w:=by
 unfold aI at h;split at h
 case h_4=>cases h
 all_goals (
  rename_i a;simp only[Tp,UH]at h;obtain⟨i,hi,rfl,rfl⟩:=h;refine⟨?_,run_sizeOf hi w⟩;simp only[isAgg,Sem.run_bind,run_underlying a,Result.andThen_ok])
 .rfl
 .rfl
 .rfl
/-! ### Cells -/
theorem cell_of{w:World}{c:Nat}{arr:Array Value}{T:TypeId}{fz:Nat×Nat}(h:w.heap[c]?=some (.cells arr T fz))(o:Nat):w.cell? ⟨c,o,none⟩=arr[o]?:=by
 simp[World.cell?,h]
theorem gq{l m:List Value}(h:l<+:m){i:Nat}{v:Value}(hi:l[i]?=some v):m[i]?=some v:=by
 obtain⟨r,rfl⟩:=h;rw[SZ]
 .exact hi
 .exact(SQ.1 hi).1
theorem Fi{g:Gh}{e:Nat}{rows:List (List PV)}{vs:List Value}{arr:Array Value}{off:Nat}(h:ay g e rows vs)(hp:vs<+:arr.toList.drop off){i:Nat}{row:List PV}(hi:rows[i]?=some row):
 row.length=e∧∃b,ak g row b∧∀j v,b[j]?=some v->arr[off+i*e+j]?=some v:=by
 obtain⟨l,a,b,c,f,d,k⟩:=h.get i row hi;refine⟨l,b,k,λj v hj=>?_⟩;have m:j<b.length:=(SQ.1 hj).1;have:vs[i*e+j]?=some v:=by
  rw[f,SZ (by simp[d];omega),Tk (by omega),d];rw[←hj];congr 1;omega
 have:=gq hp this;rw[Ub,S4]at this;rw[←this];congr 1;omega
theorem ak.drop{g:Gh}:∀{xs:List PV}{vs:List Value}(_:ak g xs vs)(k:Nat),ak g (xs.drop k) (vs.drop k)
 |_,_,h,0=>by simpa using h
 |[],_,h,k+1=>by simp only[ak]at h;subst h;simp[ak]
 |_::_,_,⟨_,_,h1,_,a⟩,k+1=>by subst h1;simpa using ak.drop a k
theorem ak.take{g:Gh}:∀{xs:List PV}{vs:List Value}(_:ak g xs vs)(k:Nat),ak g (xs.take k) (vs.take k)
 |_,_,_,0=>by simp[ak]
 |[],_,h,k+1=>by simp only[ak]at h;subst h;simp[ak]
 |_::_,_,⟨_,_,h1,a,b⟩,k+1=>by subst h1;exact⟨_,_,rfl,a,ak.take b k⟩
/-! ### Places that own -/
theorem bn{g:Gh}{st:St}{a:Act}{w:World}{bl:Pos->Option Nat}(c:Owns g st a w bl){p:Pos}(ho:(aa st p).isOwn=true):az g w (aa st p) (an g a w p) (bl p):=by
 cases p with
 |slot s=>exact c.slots s
 |cell b k=>
  simp only[aa]at ho⊢;cases hx:st.h[b]?with
  |none=>simp[List.getD,hx]at ho;cases ho
  |some xs=>
   simp only[List.getD,hx,TC]at ho⊢;cases hk:xs[k]?with
   |none=>simp[hk]at ho;cases ho
   |some x=>
    obtain⟨arr,T,h1,⟨e,_⟩,d⟩:=c.blocks b xs hx;simp only[TC,an,h1];exact(d k x hk).2
/-! ### Slices -/
def iu:Value->Bool
 |.slice none 0 0=>true
 |_=>false
theorem gr{v:Value}(h:iu v=true):v=.slice none 0 0:=by
 unfold iu at h;split at h
 .rfl
 .cases h
def rowsOf(st:St):SV->List (List PV)
 |.pv (.seq _ _ rows)=>rows
 |.al p=>match aa st p with
  |.own _ _ rows=>rows
  |_=>[]
 |.loc p lo hi=>match aa st p with
  |.own _ _ rows=>(rows.take hi).drop lo
  |_=>[]
 |_=>[]
def i9(st:St)(e:Nat):SV->Prop
 |.pv (.seq _ e' _)=>e'=e
 |.pv (.lit v)=>iu v=true
 |.al p=>match aa st p with
  |.own _ e' _=>e'=e
  |_=>False
 |.loc p _ _=>match aa st p with
  |.own _ e' _=>e'=e
  |_=>False
 |_=>False
theorem nf{g:Gh}{st:St}{a:Act}{w:World}(h:Sim g st a w){x:Operand}{e:Nat}(n:gc st x)(hs:i9 st e (mv st x)):
 ∃q cap,a.eval x=.slice q (rowsOf st (mv st x)).length cap∧(rowsOf st (mv st x)).length<=cap:=by
 obtain⟨i,f⟩:=aN h x n;unfold i9 at hs;split at hs
 .rename_i nw e' rows d;rw[d]at i⊢;obtain⟨_,q,cap,b,k,_⟩:=i;exact⟨q,cap,b,k⟩
 .rename_i v d;rw[d]at i⊢;obtain⟨_,b⟩:=i;exact⟨none,0,by rw[b,gr hs];rfl,by simp[rowsOf]⟩
 .rename_i p d;rw[d]at f⊢;split at hs
  .rename_i nw e' rows hp;obtain⟨bl,m⟩:=h.own;have b:=f (by rw[hp];rfl);have:=bn m (p:=p) (by rw[hp];rfl);rw[hp]at this;simp only[rowsOf,hp];rcases this with⟨_,rfl,j⟩|⟨c,_,cap,arr,T,vs,j,_,_,l,_⟩
   .exact⟨none,0,by rw[b,j];rfl,by simp⟩
   .exact⟨_,cap,by rw[b,j],l.1⟩
  .cases hs
 .rename_i p lo hi d;rw[d]at f⊢;split at hs
  .rename_i nw e' rows hp;obtain⟨h1,o,q,cap,b,k,_⟩:=f nw e' rows hp;have:(rowsOf st (.loc p lo hi)).length=hi -lo:=by simp only[rowsOf,hp,TN,S6];omega
   exact⟨q,cap,by rw[b,this],by rw[this];exact k⟩
  .cases hs
 .cases hs
def uY(P:Program)(st:St)(t:TypeId)(x:SV):SV×Prop:=
 match bm P t with
 |some e=>match x with
  |.pv (.bsl _ e' _ n _)=>(.int .i64 n,e'=e)
  |.pv (.lit (.slice _ 0 _))=>(.int .i64 0,True)
  |x=>(.int .i64 (rowsOf st x).length,i9 st e x)
 |none=>(.pv .bot,False)
theorem yn{P:Program}{st:St}(o:Oper)(t:TypeId)(x:Operand)(ho:o.op=.call {callee:=.builtin .len,args:=#[x],argTypes:=#[t]}):
 i8 P st o ((uY P st t (mv st x)).1,gc st x∧(uY P st t (mv st x)).2):=by
 intro g a w h ⟨hx,hd⟩;unfold uY at hd⊢;cases hs:bm P t with
 |none=>rw[hs]at hd;cases hd
 |some e=>
  rw[hs]at hd;simp only at hd⊢;unfold bm at hs;split at hs
  case h_2=>cases hs
  rename_i j i;split at hd
  .rename_i b e' off n cap f;obtain⟨c,_⟩:=aN h x hx;rw[f]at c;obtain⟨_,_,_,d⟩:=c;refine⟨_,?_,⟨rfl,rfl⟩,trivial⟩;intro w';simp[execOp,ho,resolve,invoke,builtin,d,Builtin.len_,run_underlying i,goInt]
  .rename_i p cap f;obtain⟨c,_⟩:=aN h x hx;rw[f]at c;have d:a.eval x=_:=c.2;refine⟨_,?_,⟨rfl,rfl⟩,trivial⟩;intro w';simp[execOp,ho,resolve,invoke,builtin,d,Builtin.len_,run_underlying i,goInt]
  .obtain⟨q,cap,d,_⟩:=nf h hx hd;refine⟨_,?_,⟨rfl,rfl⟩,trivial⟩;intro w';simp[execOp,ho,resolve,invoke,builtin,d,Builtin.len_,run_underlying i,goInt]
def sy(x:SV):SV×Prop:=(.int .i64 (lT x).size,rQ x)
theorem uZ{P:Program}{st:St}(o:Oper)(t:TypeId)(x:Operand)(ho:o.op=.call {callee:=.builtin .len,args:=#[x],argTypes:=#[t]}) (c:P.underlying t=some .string):
 i8 P st o ((sy (mv st x)).1,gc st x∧(sy (mv st x)).2):=by
 intro g a w h ⟨hx,hd⟩;have b:=qh h hx hd;refine⟨_,?_,⟨rfl,rfl⟩,trivial⟩;intro w';simp[execOp,ho,resolve,invoke,builtin,b,Builtin.len_,run_underlying c,goInt]
/-! ### Addresses -/
def ry(off:Nat):SV->SV×Prop
 |.pv (.ptr b o)=>(.pv (.ptr b (o+off)),True)
 |.pv (.iptr e rows i k)=>(.pv (.iptr e rows i (k+off)),True)
 |.sptr p i k=>(.sptr p i (k+off),True)
 |_=>(.pv .bot,False)
theorem K8{g:Gh}{st:St}{a:Act}{w:World}{off:Nat}{x:SV}{v:Value}(f:az g w x v none)(m:bW g st a w x v)(hd:(ry off x).2):
 ((∃ q : Addr, v = .pointer (some q) ∧ az g w (ry off x).1 (.pointer (some (q.add off))) none ∧ bW g st a w (ry off x).1 (.pointer (some (q.add off)))) ∨
  (∃p i k,x=.sptr p i k∧∀nw e rows,aa st p≠.own nw e rows)):=by
 unfold ry at hd⊢;split at hd
 .obtain⟨_,h1,rfl⟩:=f;exact .inl ⟨_,rfl,⟨rfl,h1,by rw[Addr.add_lit]⟩,trivial⟩
 .obtain⟨_,c,s,arr,T,fz,vs,rfl,h,j,l⟩:=f;exact .inl ⟨_,rfl,⟨rfl,c,s,arr,T,fz,vs,by rw[Addr.add_lit,U4],h,j,l⟩,trivial⟩
 .rename_i p i k
  by_cases hp:∃nw e rows,aa st p=.own nw e rows
  .obtain⟨nw,e,rows,hp⟩:=hp;obtain⟨c,n,cp,h1,rfl⟩:=m nw e rows hp;refine .inl ⟨_,rfl,rfl,λr e' d b=>?_⟩;rw[hp]at b;cases b;exact⟨c,n,cp,h1,by rw[Addr.add_lit,U4]⟩
  .exact .inr ⟨p,i,k,rfl,λnw e rows o=>hp ⟨nw,e,rows,o⟩⟩
 .cases hd
def live(st:St):SV->Prop
 |.sptr p _ _=>match aa st p with
  |.own _ _ _=>True
  |_=>False
 |_=>True
theorem u6{g:Gh}{st:St}{a:Act}{w:World}{off:Nat}{x:SV}{v:Value}(e:az g w x v none)(d:bW g st a w x v)(hd:(ry off x).2)(c:live st x):
 ∃q:Addr,v=.pointer (some q)∧az g w (ry off x).1 (.pointer (some (q.add off))) none∧bW g st a w (ry off x).1 (.pointer (some (q.add off))):=by
 rcases K8 e d hd with h|⟨p,i,k,rfl,hn⟩
 .exact h
 .unfold live at c;cases b:aa st p<;>simp only[b]at c
  exact absurd b (hn _ _ _)
def qi(P:Program)(st:St)(t:TypeId)(f:Nat)(x:SV):SV×Prop:=
 match bd P t f with
 |some off=>((ry off x).1,(ry off x).2∧live st x)
 |none=>(.pv .bot,False)
theorem u7{P:Program}{st:St}(o:Oper)(t:TypeId)(f:Nat)(x:Operand)(ho:o.op=.fieldAddr t x f):
 i8 P st o ((qi P st t f (mv st x)).1,gc st x∧(qi P st t f (mv st x)).2):=by
 intro g a w h ⟨hx,hd⟩;obtain⟨j,e⟩:=aN h x hx;unfold qi at hd⊢;cases hs:bd P t f with
 |none=>rw[hs]at hd;cases hd
 |some off=>
  rw[hs]at hd;simp only at hd⊢;obtain⟨q,l,h1,d⟩:=u6 j e hd.1 hd.2;refine⟨_,?_,h1,d⟩;unfold bd at hs;split at hs
  case h_2=>cases hs
  rename_i n k;split at hs
  case h_2=>cases hs
  rename_i m b;split at hs
  case h_2=>cases hs
  rename_i i hi;split at hs
  case isTrue=>cases hs
  rename_i c;cases hs
  intro w';simp[execOp,ho,l,Instr.fieldAt,run_underlying k,b,Instr.sureAddr,fieldPlace,run_sizeOf hi,c]
def Dl(i:Nat):SV->SV
 |.pv (.seq _ e rows)=>.pv (.iptr e rows i 0)
 |.al p=>.sptr p i 0
 |.loc p lo _=>.sptr p (lo+i) 0
 |_=>.pv .bot
theorem Hf{g:Gh}{st:St}{a:Act}{w:World}(h:Sim g st a w){x:Operand}{e i:Nat}(z:gc st x)(hs:i9 st e (mv st x))(hi:i<(rowsOf st (mv st x)).length):
 ∃(q:Addr)(cap:Nat),a.eval x=.slice (some q) (rowsOf st (mv st x)).length cap∧az g w (Dl i (mv st x)) (.pointer (some (q.add (i*e)))) none∧bW g st a w (Dl i (mv st x)) (.pointer (some (q.add (i*e)))):=by
 obtain⟨s,k⟩:=aN h x z;unfold i9 at hs;split at hs
 .rename_i nw e' rows d;subst hs;rw[d]at s hi⊢;obtain⟨_,q,cap,j,_,C⟩:=s;rcases C with rfl|⟨c,off,arr,T,fz,vs,rfl,r,_,t,u⟩
  .simp[rowsOf]at hi
  .exact⟨_,cap,j,⟨rfl,c,off,arr,T,fz,vs,by rw[Addr.add_lit];simp,r,t,u⟩,trivial⟩
 .rename_i v d;rw[d]at hi;simp[rowsOf]at hi
 .rename_i p d;rw[d]at k hi⊢;split at hs
  .rename_i nw e' rows hp;subst hs;obtain⟨bl,y⟩:=h.own;have j:=k (by rw[hp];rfl);have:=bn y (p:=p) (by rw[hp];rfl);rw[hp]at this;simp only[rowsOf,hp]at hi⊢;rcases this with⟨_,rfl,l⟩|⟨c,_,cap,arr,T,vs,l,_⟩
   .simp at hi
   .refine⟨_,cap,by rw[j,l],rfl,λo e' f b=>?_⟩;rw[hp]at b;cases b;exact⟨c,_,cap,l,by rw[Addr.add_lit];simp⟩
  .cases hs
 .rename_i p lo A d;rw[d]at k hi⊢;split at hs
  .rename_i nw e' rows hp;subst hs;simp only[rowsOf,hp,TN,S6]at hi⊢;obtain⟨h1,r,q,cap,j,_,B,_⟩:=k nw e' rows hp;rcases B with rfl|⟨c,n,cp,m,rfl⟩
   .omega
   .refine⟨_,cap,by rw[j];congr 1;omega,rfl,λo e' f b=>?_⟩;rw[hp]at b;cases b;exact⟨c,n,cp,m,by rw[Addr.add_lit,←WI];simp⟩
  .cases hs
 .cases hs
def Fj(P:Program)(st:St)(t:TypeId)(x i:SV):SV×Prop:=
 match bm P t with
 |some e=>match x with
  |.pv (.bsl b e' off n _)=>(.pv (.ptr b (off+(aS i).toNat*e)),e'=e∧gj i∧0<=aS i∧aS i<(n:Int))
  |x=>(Dl (aS i).toNat x,i9 st e x∧gj i∧0<=aS i∧aS i<(rowsOf st x).length)
 |none=>match mj P t with
  |some (n,e)=>((ry ((aS i).toNat*e) x).1,(ry ((aS i).toNat*e) x).2∧live st x∧gj i∧0<=aS i∧aS i<(n:Int))
  |none=>(.pv .bot,False)
theorem Dm{P:Program}{st:St}(o:Oper)(t:TypeId)(x i:Operand)(ho:o.op=.indexAddr t x i):
 i8 P st o ((Fj P st t (mv st x) (mv st i)).1,gc st x∧gc st i∧(Fj P st t (mv st x) (mv st i)).2):=by
 intro g a w h ⟨hx,f,hd⟩;unfold Fj at hd⊢;cases hs:bm P t with
 |some e=>
  rw[hs]at hd;simp only at hd⊢;split at hd
  .rename_i b e' off n cap E;obtain⟨rfl,k,l,m⟩:=hd;have j:=bX h f k;obtain⟨v,_⟩:=aN h x hx;rw[E]at v;obtain⟨_,D,_,s⟩:=v;refine⟨.pointer (some ((⟨g.μ b,off,none⟩:Addr).add ((aS (mv st i)).toNat*e'))),?_,⟨rfl,D,by rw[Addr.add_lit]⟩,trivial⟩;unfold bm at hs;split at hs
   case h_2=>cases hs
   rename_i A r;simp only[Tp]at hs;obtain⟨u,c,rfl⟩:=hs;intro w';simp only[execOp,ho,s,j,Instr.indexAt,asIntOf,Sem.run_bind,Sem.run_pure,Result.andThen_ok,run_underlying r,SX (And.intro l m),run_sizeOf c]
  rename_i F;obtain⟨h1,k,l,m⟩:=hd;have j:=bX h f k;obtain⟨q,cap,s,y,z⟩:=Hf h hx h1 (i:=(aS (mv st i)).toNat) (by omega);refine⟨_,?_,y,z⟩;unfold bm at hs;split at hs
  case h_2=>cases hs
  rename_i A r;simp only[Tp]at hs;obtain⟨u,c,rfl⟩:=hs;intro w';simp only[execOp,ho,s,j,Instr.indexAt,asIntOf,Sem.run_bind,Sem.run_pure,Result.andThen_ok,run_underlying r,SX (And.intro l m),run_sizeOf c]
 |none=>
  rw[hs]at hd;simp only at hd⊢;cases d:mj P t with
  |none=>rw[d]at hd;cases hd
  |some p=>
   obtain⟨n,e⟩:=p;rw[d]at hd;simp only at hd⊢;obtain⟨h1,k,l,m,y⟩:=hd;have j:=bX h f l;obtain⟨v,C⟩:=aN h x hx;obtain⟨q,s,z,B⟩:=u6 v C h1 k;refine⟨_,?_,z,B⟩;unfold mj at d;split at d
   case h_2=>cases d
   rename_i G A r;simp only[Tp,UH]at d;obtain⟨u,c,rfl,rfl⟩:=d;intro w';simp only[execOp,ho,s,j,Instr.indexAt,Instr.sureAddr,asIntOf,Sem.run_bind,Sem.run_pure,Result.andThen_ok,run_underlying r,SX (And.intro m y),run_sizeOf c]
/-! ### Loads -/
def Bh(st:St)(b k:Nat):SV:=
 match aa st (.cell b k)with
 |.pv x=>.pv x
 |.own _ _ _=>.al (.cell b k)
 |.omap _ _=>.al (.cell b k)
 |_=>.pv .bot
def ld1(st:St):SV->SV×Prop
 |.pv (.ptr b o)=>(Bh st b o,o<(st.h.getD b []).length)
 |.pv (.iptr e rows i k)=>(.pv ((rows.getD i []).getD k .bot),i<rows.length∧k<e)
 |.sptr p i k=>match aa st p with
  |.own _ e rows=>(.pv ((rows.getD i []).getD k .bot),i<rows.length∧k<e)
  |_=>(.pv .bot,False)
 |_=>(.pv .bot,False)
def wK:SV->Prop
 |.pv _=>True
 |_=>False
def l5:SV->PV
 |.pv x=>x
 |_=>.bot
def R8(st:St)(n:Nat):SV->SV×Prop
 |.pv (.ptr b o)=>(.pv (.agg (((st.h.getD b []).drop o).take n|>.map l5)),o+n<=(st.h.getD b []).length∧∀x∈((st.h.getD b []).drop o).take n,wK x)
 |.pv (.iptr e rows i k)=>(.pv (.agg (((rows.getD i []).drop k).take n)),i<rows.length∧k+n<=e)
 |.sptr p i k=>match aa st p with
  |.own _ e rows=>(.pv (.agg (((rows.getD i []).drop k).take n)),i<rows.length∧k+n<=e)
  |_=>(.pv .bot,False)
 |_=>(.pv .bot,False)
def Bb(P:Program)(st:St)(t:TypeId)(x:SV):SV×Prop:=
 match aI P t with
 |some (false,_)=>ld1 st x
 |some (true,n)=>R8 st n x
 |none=>(.pv .bot,False)
theorem kX{x:SV}(h:wK x):x=.pv (l5 x):=by
 unfold wK at h;split at h
 .rfl
 .cases h
theorem qV{P:Program}{t:TypeId}{n:Nat}(w:World)(a:Addr)(vs:List Value)(h:aI P t=some (true,n))(hn:vs.length=n)(c:∀j v,vs[j]?=some v->w.cell? (a.add j)=some v):
 (loadVar t a).run P w=.ok (.agg vs.toArray) w:=by
 obtain⟨h1,b⟩:=iA h w;simp only[loadVar,Sem.run_bind,h1,Result.andThen_ok,UU,b];rw[←hn,run_loadCells_list w a vs c];rfl
theorem o9{P:Program}{t:TypeId}{n:Nat}(w:World)(a:Addr)(v:Value)(h:aI P t=some (false,n))(b:w.cell? a=some v):
 (loadVar t a).run P w=.ok v w:=by
 obtain⟨h1,_⟩:=iA h w;simp only[loadVar,Sem.run_bind,h1,Result.andThen_ok,TM,Ul,run_load,b]
theorem Dn{g:Gh}{w:World}{e:Nat}{rows:List (List PV)}{vs:List Value}{arr:Array Value}{off c:Nat}{T:TypeId}{fz:Nat×Nat}(f:w.heap[c]?=some (.cells arr T fz))
 (h:ay g e rows vs) (hp:vs<+:arr.toList.drop off) {i:Nat} (hi:i<rows.length):
 (rows.getD i []).length=e∧∃b,b.length=e∧ak g (rows.getD i []) b∧∀j v,b[j]?=some v->w.cell? ⟨c,off+i*e+j,none⟩=some v:=by
 have k:rows[i]?=some (rows.getD i []):=by simp[List.getD,SR hi]
 obtain⟨d,b,a,hj⟩:=Fi h hp k;exact⟨d,b,by rw[a.length,d],a,λj v l=>by rw[cell_of f];exact hj j v l⟩
theorem Pd{P:Program}{g:Gh}{w:World}{t:TypeId}{m e:Nat}{rows:List (List PV)}{vs:List Value}{arr:Array Value}{off c:Nat}{T:TypeId}{fz:Nat×Nat}(n:aI P t=some (false,m))
 (j:w.heap[c]?=some (.cells arr T fz)) (h:ay g e rows vs) (hp:vs<+:arr.toList.drop off) {i k:Nat} (hi:i<rows.length) (hk:k<e):
 ∃v,(loadVar t ⟨c,off+i*e+k,none⟩).run P w=.ok v w∧Fit g ((rows.getD i []).getD k .bot) v:=by
 obtain⟨p,b,f,d,hj⟩:=Dn j h hp hi;have a:k<(rows.getD i []).length:=by omega
 obtain⟨v,o,l⟩:=d.get k ((rows.getD i []).getD k .bot) (by simp only[SS];rw[SR (by simpa only[SS]using a)];rfl);exact⟨v,o9 w _ v n (hj k v o),l⟩
theorem Pe{P:Program}{g:Gh}{w:World}{t:TypeId}{n e:Nat}{rows:List (List PV)}{vs:List Value}{arr:Array Value}{off c:Nat}{T:TypeId}{fz:Nat×Nat}(m:aI P t=some (true,n))
 (l:w.heap[c]?=some (.cells arr T fz)) (h:ay g e rows vs) (hp:vs<+:arr.toList.drop off) {i k:Nat} (hi:i<rows.length) (hk:k+n<=e):
 ∃v,(loadVar t ⟨c,off+i*e+k,none⟩).run P w=.ok v w∧Fit g (.agg (((rows.getD i []).drop k).take n)) v:=by
 obtain⟨o,b,f,d,hj⟩:=Dn l h hp hi;refine⟨_,qV w _ ((b.drop k).take n) m (by simp;omega) (λj v a=>?_),_,rfl,by simpa using(d.drop k).take n⟩;rw[TY]at a;split at a
 .rw[Ub]at a;rw[Addr.add_lit,U4];exact hj _ v a
 .cases a
theorem Bi{P:Program}{st:St}(o:Oper)(t:TypeId)(x:Operand)(ho:o.op=.load t x):
 K6 P st o ((Bb P st t (mv st x)).1,gc st x∧(Bb P st t (mv st x)).2):=by
 intro g a w h ⟨hx,hd⟩;obtain⟨C,M⟩:=aN h x hx;obtain⟨bl,N⟩:=h.own;have f:∀(q:Addr)(v:Value),a.eval x=.pointer (some q)->(loadVar t q).run P w=.ok v w->(execOp a.eval o).run P w=.ok (.value v) w:=by
  intro q v X d;simp only[execOp,ho,X,Instr.loadAt,Instr.sureAddr,Sem.run_bind,Sem.run_pure,Result.andThen_ok,d]
 unfold Bb at hd⊢;cases s:aI P t with
 |none=>rw[s]at hd;cases hd
 |some p=>
  obtain⟨W,n⟩:=p;rw[s]at hd;cases W with
  |false=>
   simp only at hd⊢;unfold ld1 at hd⊢;split at hd
   .rename_i b k m;rw[m]at C;simp only[m]at hd⊢;obtain⟨_,F,d⟩:=C;have r:b<st.h.length:=h.n▸F;obtain⟨arr,T,h1,⟨J,_⟩,E⟩:=N.blocks b (st.h[b]) (SR r);simp only[List.getD,SR r,TC]at hd;obtain⟨hin,hs⟩:=E k ((st.h[b])[k]) (SR hd);have D:an g a w (.cell b k)=arr.getD k undef:=by simp[an,h1]
    have H:=f _ (arr.getD k undef) d (o9 w _ _ s (by rw[cell_of h1];simp[Array.getD,J,hd]));have V:aa st (.cell b k)=(st.h[b])[k]:=by simp[aa,SR r,SR hd]
    refine⟨_,H,?_⟩;unfold Bh;rw[V];cases z:(st.h[b])[k]with
    |pv y=>rw[z]at hs;exact⟨⟨rfl,hs.2⟩,trivial⟩
    |own nw e rows=>exact⟨rfl,λ_=>D.symm⟩
    |omap nw es=>exact⟨rfl,λ_=>D.symm⟩
    |al p=>rw[z]at hin;cases hin
    |loc p i j=>rw[z]at hin;cases hin
    |sptr p i j=>rw[z]at hin;cases hin
    |agl xs=>rw[z]at hin;cases hin
    |opt c y=>rw[z]at hin;cases hin
   .rename_i e rows i k m;rw[m]at C;simp only[m]at hd⊢;obtain⟨_,c,off,arr,T,fz,vs,d,J,E,U⟩:=C;obtain⟨v,G,l⟩:=Pd s (h.I _ _ J) E U hd.1 hd.2;exact⟨v,f _ v d G,⟨rfl,l⟩,trivial⟩
   .rename_i p i k m;rw[m]at M;split at hd
    .rename_i nw e rows hp;simp only[hp];obtain⟨c,Z,cp,A,d⟩:=M nw e rows hp;have:=bn N (p:=p) (by rw[hp];rfl);rw[hp]at this;rcases this with⟨_,rfl,_⟩|⟨c',_,cap,arr,T,vs,O,Q,_,_,R,S,_⟩
     .simp at hd
     .rw[O]at A;cases A;obtain⟨v,G,l⟩:=Pd (off:=0) s Q R (by simpa using S) hd.1 hd.2;refine⟨v,f _ v d (by simpa using G),⟨rfl,l⟩,trivial⟩
    .cases hd
   .cases hd
  |true=>
   simp only at hd⊢;unfold R8 at hd⊢;split at hd
   .rename_i b k m;rw[m]at C;simp only[m]at hd⊢;obtain⟨_,F,d⟩:=C;have r:b<st.h.length:=h.n▸F;obtain⟨arr,T,h1,⟨J,_⟩,E⟩:=N.blocks b (st.h[b]) (SR r);simp only[List.getD,SR r,TC]at hd⊢;have K:(((arr.toList).drop k).take n).length=n:=by simp;omega
    refine⟨_,f _ _ d (qV w _ (((arr.toList).drop k).take n) s K (λj v d=>?_)),⟨rfl,_,rfl,?_⟩,trivial⟩
    .rw[TY]at d;split at d
     .rw[Ub,S4]at d;rw[Addr.add_lit,cell_of h1];exact d
     .cases d
    .have key:∀(xs:List SV)(B:List Value),xs.length=B.length->(∀x∈xs,wK x)->(∀(j:Nat)(x:SV)(u:Value),xs[j]?=some x->B[j]?=some u->∃b':Option Nat,az g w x u b')->ak g (xs.map l5) B:=by
      intro xs
      induction xs with
      |nil=>intro B s _ _;cases B with
       |nil=>simp[ak]
       |cons _ _=>simp at s
      |cons x xs Y=>
       intro B s hp hs;cases B with
       |nil=>simp at s
       |cons u B=>
        refine⟨u,B,rfl,?_,Y B (by simpa using s) (λy hy=>hp y (Tl _ hy)) (λj y v hy d=>hs (j+1) y v (by simpa using hy) (by simpa using d))⟩;obtain⟨b',hx⟩:=hs 0 x u rfl rfl;rw[kX (hp x (To ..))]at hx;exact hx.2
     refine key _ _ (by simp;omega) hd.2 (λj x u hx L=>?_);rw[TY]at hx L;split at hx
     .rename_i hj;rw[SX hj]at L;rw[Ub]at hx L;obtain⟨_,hs⟩:=E (k+j) x hx;refine⟨bl (.cell b (k+j)),?_⟩;have:arr.getD (k+j) undef=u:=by
       rw[S4]at L;simp[Tg,L]
      rw[←this];exact hs
     .cases hx
   .rename_i e rows i k m;rw[m]at C;simp only[m]at hd⊢;obtain⟨_,c,off,arr,T,fz,vs,d,J,E,U⟩:=C;obtain⟨v,G,l⟩:=Pe s (h.I _ _ J) E U hd.1 hd.2;exact⟨v,f _ v d G,⟨rfl,l⟩,trivial⟩
   .rename_i p i k m;rw[m]at M;split at hd
    .rename_i nw e rows hp;simp only[hp];obtain⟨c,Z,cp,A,d⟩:=M nw e rows hp;have:=bn N (p:=p) (by rw[hp];rfl);rw[hp]at this;rcases this with⟨_,rfl,_⟩|⟨c',_,cap,arr,T,vs,O,Q,_,_,R,S,_⟩
     .simp at hd
     .rw[O]at A;cases A;obtain⟨v,G,l⟩:=Pe (off:=0) s Q R (by simpa using S) hd.1 hd.2;refine⟨v,f _ v d (by simpa using G),⟨rfl,l⟩,trivial⟩
    .cases hd
   .cases hd
end Go.AX
namespace Go.AX
/-! ### Small ones -/
def Oo(op:UnOp)(x:SV):SV×Prop:=
 match op with
 |.not=>(.bool (!rP x),Ba x)
 |.neg=>(.int (gi x) ((gi x).wrap (0 -aS x)),gj x)
 |_=>(.pv .bot,False)
theorem Hg{P:Program}{st:St}(o:Oper)(op:UnOp)(t:TypeId)(x:Operand)(ho:o.op=.unOp op t x):
 i8 P st o ((Oo op (mv st x)).1,gc st x∧(Oo op (mv st x)).2):=by
 intro g a w h ⟨hx,hd⟩;unfold Oo at hd⊢;simp only[execOp,ho];cases op<;>simp only at hd⊢
 case not=>
  rw[kz h hx hd];simp only[Op.unary,Sem.run_bind,Sem.run_pure,Result.andThen_ok];exact⟨_,λ_=>rfl,⟨rfl,rfl⟩,trivial⟩
 case neg=>
  rw[bX h hx hd];simp only[Op.unary,Op.intArith,Sem.run_bind,Sem.run_pure,Result.andThen_ok];exact⟨_,λ_=>rfl,⟨rfl,rfl⟩,trivial⟩
 all_goals exact hd.elim
theorem wL{P:Program}{st:St}(o:Oper)(x:Operand)(ho:o.op=.move x∨o.op=.assign x):
 i8 P st o (mv st x,gc st x):=by
 intro g a w h hx;obtain⟨c,b⟩:=aN h x hx;exact⟨a.eval x,λ_=>by rcases ho with ho|ho<;>simp[execOp,ho],c,b⟩
def yo(c x y:SV):SV×Prop:=
 (.bool (bif rP c then rP x else rP y),Ba c∧(rP c=true->Ba x)∧(rP c=false->Ba y))
theorem yp{P:Program}{st:St}(o:Oper)(c x y:Operand)(ho:o.op=.pick c x y):
 i8 P st o ((yo (mv st c) (mv st x) (mv st y)).1,gc st c∧(rP (mv st c)=true->gc st x)∧(rP (mv st c)=false->gc st y)∧(yo (mv st c) (mv st x) (mv st y)).2):=by
 intro g a w h ⟨f,hx,hy,hd⟩;obtain⟨h1,d,e⟩:=hd;simp only[execOp,ho];rw[kz h f h1];simp only[asBool,Sem.run_bind,Sem.run_pure,Result.andThen_ok];cases b:rP (mv st c)with
 |true=>
  refine⟨_,λ_=>rfl,⟨rfl,?_⟩,trivial⟩;simp only[UU,kz h (hx b) (d b),b,cond_true];rfl
 |false=>
  refine⟨_,λ_=>rfl,⟨rfl,?_⟩,trivial⟩;simp only[TM,Ul,kz h (hy b) (e b),b,cond_false];rfl
def Fk(i:Nat)(x:SV):SV×Prop:=
 match x with
 |.pv (.tup xs)=>(.pv (xs.getD i .bot),i<xs.length)
 |_=>(.pv .bot,False)
theorem Do{P:Program}{st:St}(o:Oper)(x:Operand)(i:Nat)(ho:o.op=.extract x i):
 i8 P st o ((Fk i (mv st x)).1,gc st x∧(Fk i (mv st x)).2):=by
 intro g a w h ⟨hx,hd⟩;obtain⟨d,_⟩:=aN h x hx;unfold Fk at hd⊢;split at hd
 .rename_i xs e;rw[e]at d;simp only[e]at hd⊢;obtain⟨_,vs,j,f⟩:=d;obtain⟨v,c,b⟩:=f.get i _ (SR hd);refine⟨v,?_,⟨rfl,by simpa[List.getD,SR hd]using b⟩,trivial⟩;have:vs[i]?=some v:=by rw[←S4];exact c
  intro w';simp[execOp,ho,j,Instr.extract,this]
 .cases hd
def aO:PV->List PV
 |.agg xs=>xs
 |.lit (.agg vs)=>vs.toList.map .lit
 |x=>[x]
def wM(P:Program)(t:TypeId)(f:Nat):Option (Nat×Bool×Nat):=
 match P.underlying t with
 |some (.struct a)=>match a[f]?with
  |some x=>(aI P x.type).map λp=>(x.offset,p)
  |none=>none
 |_=>none
def dm:SV->Prop
 |.pv (.agg _)=>True
 |.pv (.lit (.agg _))=>True
 |_=>False
def u9(P:Program)(t:TypeId)(f:Nat)(x:SV):SV×Prop:=
 match wM P t f with
 |some (off,false,_)=>(.pv ((aO (l5 x)).getD off .bot),dm x∧off<(aO (l5 x)).length)
 |some (off,true,n)=>(.pv (.agg (((aO (l5 x)).drop off).take n)),dm x∧off+n<=(aO (l5 x)).length)
 |none=>(.pv .bot,False)
theorem sA{g:Gh}{w:World}{x:SV}{v:Value}(h:az g w x v none)(hs:dm x):∃vs:Array Value,v=.agg vs∧ak g (aO (l5 x)) vs.toList:=by
 unfold dm at hs;split at hs
 .obtain⟨_,vs,rfl,b⟩:=h;exact⟨vs,rfl,b⟩
 .rename_i vs;have a:v=.agg vs:=h.2;subst a;refine⟨vs,rfl,?_⟩;show ak g (vs.toList.map PV.lit) vs.toList
  induction vs.toList with
  |nil=>simp[ak]
  |cons u d c=>exact⟨u,d,rfl,rfl,c⟩
 .cases hs
theorem yr{P:Program}{t:TypeId}{n:Nat}(w:World)(cs:Array Value)(off:Nat)(h:aI P t=some (true,n)):
 (part t cs off).run P w=.ok (.agg (cs.extract off (off+n))) w:=by
 obtain⟨h1,a⟩:=iA h w;simp[part,h1,a]
theorem vb{P:Program}{t:TypeId}{n:Nat}(w:World)(cs:Array Value)(off:Nat)(v:Value)(h:aI P t=some (false,n))(a:cs[off]?=some v):
 (part t cs off).run P w=.ok v w:=by
 obtain⟨h1,_⟩:=iA h w;simp[part,h1,a]
theorem yt{P:Program}{st:St}(o:Oper)(t:TypeId)(x:Operand)(f:Nat)(ho:o.op=.field t x f):
 i8 P st o ((u9 P t f (mv st x)).1,gc st x∧(u9 P t f (mv st x)).2):=by
 intro g a w h ⟨hx,hd⟩;obtain⟨m,_⟩:=aN h x hx;unfold u9 at hd⊢;cases hi:wM P t f with
 |none=>rw[hi]at hd;cases hd
 |some q=>
  obtain⟨off,b,n⟩:=q;rw[hi]at hd;unfold wM at hi;split at hi
  case h_2=>cases hi
  rename_i s r;split at hi
  case h_2=>cases hi
  rename_i d e;simp only[Tp,UH]at hi;obtain⟨q,j,rfl,p⟩:=hi;rw[p]at j;clear p;cases b with
  |false=>
   simp only at hd⊢;obtain⟨vs,k,c⟩:=sA m hd.1;obtain⟨v,l,i⟩:=c.get _ _ (SR hd.2);refine⟨v,?_,⟨rfl,by simpa[List.getD,SR hd.2]using i⟩,trivial⟩;intro w';simp[execOp,ho,k,Instr.field,run_underlying r,e,asAgg,vb w' vs d.offset v j (by rw[←S4];exact l)]
  |true=>
   simp only at hd⊢;obtain⟨vs,k,c⟩:=sA m hd.1;refine⟨.agg (vs.extract d.offset (d.offset+n)),?_,⟨rfl,_,rfl,?_⟩,trivial⟩
   .intro w';simp[execOp,ho,k,Instr.field,run_underlying r,e,asAgg,yr w' vs d.offset j]
   .have:=(c.drop d.offset).take n;rw[XD];simpa[List.extract]using this
def Nv(P:Program)(t:TypeId):Option IntKind:=
 match P.underlying t with
 |some (.int k)=>some k
 |_=>none
def Fl(P:Program)(a dst:TypeId)(x:SV):SV×Prop:=
 match Nv P a,Nv P dst with
 |some _,some k=>(.int k (k.wrap (aS x)),gj x)
 |_,_=>match P.underlying a,P.underlying dst with
  |some .string,some .string=>(.pv (.lit (.string (lT x))),rQ x)
  |_,_=>(.pv .bot,False)
theorem Dp{P:Program}{st:St}(o:Oper)(c dst:TypeId)(x:Operand)(ho:o.op=.convert c dst x):
 i8 P st o ((Fl P c dst (mv st x)).1,gc st x∧(Fl P c dst (mv st x)).2):=by
 intro g a w h ⟨hx,hd⟩;unfold Fl at hd⊢;split at hd
 .rename_i f k h1 b;simp only[h1,b]at hd⊢;unfold Nv at h1 b;split at h1
  case h_2=>cases h1
  rename_i d;split at b
  case h_2=>cases b
  rename_i e;cases b
  refine⟨_,?_,⟨rfl,rfl⟩,trivial⟩;intro w';simp[execOp,ho,bX h hx hd,convert,run_underlying d,run_underlying e,Conv.intToInt]
 .split at hd
  .rename_i h1 b;refine⟨.string (lT (mv st x)),?_,?_,?_⟩
   .intro w';simp[execOp,ho,qh h hx hd,convert,run_underlying h1,run_underlying b]
   .exact⟨rfl,rfl⟩
   .trivial
  .cases hd
def Oq(st:St)(x:SV):SV×Prop:=
 match x with
 |.pv (.ptr b o)=>(.pv (.ptr b o),True)
 |.pv (.iptr e r i k)=>(.pv (.iptr e r i k),True)
 |.pv (.fn (.func f) a b)=>(.pv (.fn (.func f) a b),True)
 |.pv (.lit (.func (.func f) a b))=>(.pv (.lit (.func (.func f) a b)),True)
 |.sptr p i k=>(.sptr p i k,live st (.sptr p i k))
 |_=>(.pv .bot,False)
theorem Hh{P:Program}{st:St}(o:Oper)(x:Operand)(ho:o.op=.nilCheck x):
 i8 P st o ((Oq st (mv st x)).1,gc st x∧(Oq st (mv st x)).2):=by
 intro g a w h ⟨hx,hd⟩;obtain⟨e,_⟩:=aN h x hx;unfold Oq at hd⊢;split at hd
 .rename_i b;rw[b]at e;simp only[b];obtain⟨_,h1,d⟩:=e;exact⟨_,λ_=>by simp[execOp,ho,d],⟨rfl,h1,rfl⟩,trivial⟩
 .rename_i b;rw[b]at e;simp only[b];obtain⟨_,c,off,arr,T,fz,vs,d,l⟩:=e;exact⟨_,λ_=>by simp[execOp,ho,d],⟨rfl,c,off,arr,T,fz,vs,rfl,l⟩,trivial⟩
 .rename_i b;rw[b]at e;simp only[b];obtain⟨_,p,q,d,l⟩:=e;exact⟨_,λ_=>by simp[execOp,ho,d],⟨rfl,p,q,rfl,l⟩,trivial⟩
 .rename_i b;rw[b]at e;simp only[b];have d:a.eval x=_:=e.2;exact⟨_,λ_=>by simp[execOp,ho,d],⟨rfl,rfl⟩,trivial⟩
 .rename_i p i k b;obtain⟨_,r⟩:=aN h x hx;rw[b]at r;simp only[b];unfold live at hd;cases f:aa st p<;>simp only[f]at hd
  obtain⟨c,n,cp,h1,d⟩:=r _ _ _ f;exact⟨_,λ_=>by simp[execOp,ho,d];rfl,rfl,λs e' m j=>⟨c,n,cp,h1,by rw[f]at j;cases j;rfl⟩⟩
 .cases hd
/-! ### Slice expressions -/
def MZ(l h:Nat):SV->SV
 |.pv (.seq nw e rows)=>.pv (.seq nw e ((rows.take h).drop l))
 |.pv (.lit v)=>.pv (.lit v)
 |.al p=>.loc p l h
 |.loc p lo _=>.loc p (lo+l) (lo+h)
 |_=>.pv .bot
def bnd(st:St)(d:Nat):Option Operand->Int
 |none=>d
 |some x=>aS (mv st x)
def cP(st:St):Option Operand->Prop
 |none=>True
 |some x=>gc st x∧gj (mv st x)
def Fm(P:Program)(st:St)(t:TypeId)(x:SV)(lo hi:Option Operand):SV×Prop:=
 match bm P t with
 |some e=>match x with
  | .pv (.bsl b e' off n cap) => (.pv (.bsl b e (off + (bnd st 0 lo).toNat * e) ((bnd st n hi).toNat - (bnd st 0 lo).toNat) (cap - (bnd st 0 lo).toNat)),
   e'=e∧cP st lo∧cP st hi∧0<=bnd st 0 lo∧bnd st 0 lo<=bnd st n hi∧bnd st n hi<=n∧bnd st 0 lo<cap)
  | x => (MZ (bnd st 0 lo).toNat (bnd st (rowsOf st x).length hi).toNat x,
   i9 st e x∧cP st lo∧cP st hi∧0<=bnd st 0 lo∧bnd st 0 lo<=bnd st (rowsOf st x).length hi∧bnd st (rowsOf st x).length hi<=(rowsOf st x).length)
 |none=>match P.underlying t with
  | some .string => (.pv (.lit (.string ((lT x).extract (bnd st 0 lo).toNat (bnd st (lT x).size hi).toNat))),
   rQ x∧cP st lo∧cP st hi∧0<=bnd st 0 lo∧bnd st 0 lo<=bnd st (lT x).size hi∧bnd st (lT x).size hi<=(lT x).size)
  |_=>(.pv .bot,False)
theorem kY{P:Program}{st:St}{g:Gh}{a:Act}{w:World}(h:Sim g st a w)(rQ:Bool)(len cap:Nat)(lo hi:Option Operand)(c:cP st lo)(b:cP st hi)
 (h0:0<=bnd st 0 lo) (h1:bnd st 0 lo<=bnd st len hi) (e:bnd st len hi<=len) (f:len<=cap):
 ∀w':World,(Instr.sliceBounds rQ len cap (lo.map a.eval) (hi.map a.eval) none).run P w'=.ok ((bnd st 0 lo).toNat,(bnd st len hi).toNat,cap) w':=by
 intro w';cases hi with
 |none=>
  cases lo with
  |none=>simp[Instr.sliceBounds,bnd]
  |some l=>
   simp only[bnd,cP]at*;simp only[Instr.sliceBounds,Vv,TZ,bX h c.1 c.2,Sem.run_bind,Sem.run_pure,Result.andThen_ok,run_sliceBound w' _ _ _ _ h0 h1];simp
 |some u=>
  cases lo with
  |none=>
   simp only[bnd,cP]at*;simp only[Instr.sliceBounds,Vv,TZ,bX h b.1 b.2,Sem.run_bind,Sem.run_pure,Result.andThen_ok,run_sliceBound w' _ _ cap _ h1 (by omega)];simp
  |some l=>
   simp only[bnd,cP]at*;have d:((aS (mv st u)).toNat:Int)=aS (mv st u):=W9 (by omega);simp only[Instr.sliceBounds,TZ,bX h b.1 b.2,bX h c.1 c.2,Sem.run_bind,Sem.run_pure,Result.andThen_ok,run_sliceBound w' _ _ cap _ (by omega:(0:Int)<=aS (mv st u)) (by omega),
    run_sliceBound w' _ _ _ _ h0 (by rw[d];exact h1)]
theorem ay.cut{g:Gh}{e:Nat}{rows:List (List PV)}{vs:List Value}(h:ay g e rows vs)(l u:Nat)(n:l<=u)(o:u<=rows.length):
 ay g e ((rows.take u).drop l) ((vs.take (u*e)).drop (l*e)):=by
 obtain⟨a,q,b,h1,m⟩:=ay.split (xs:=rows.take u) (ys:=rows.drop u) (by rw[T7];exact h);have i:a.length=u*e:=by rw[h1.length,S6];congr 1;omega
 have:vs.take (u*e)=a:=by rw[b,←i,UY];rfl
 rw[this];obtain⟨k,p,c,d,f⟩:=ay.split (xs:=(rows.take u).take l) (ys:=(rows.take u).drop l) (by rw[T7];exact h1);have j:k.length=l*e:=by rw[d.length,S6,S6];congr 1;omega
 rw[c,←j,WA]
 .exact f
 .rfl
theorem iH{vs m:List Value}(h:vs<+:m)(l u:Nat):(vs.take u).drop l<+:m.drop l:=by
 obtain⟨r,b⟩:=(Wm u vs).trans h
 by_cases a:l<=(vs.take u).length
 .exact⟨r,by rw[←b,Ua a]⟩
 .rw[Tq (by omega)];exact List.nil_prefix
theorem Dq{P:Program}{st:St}(o:Oper)(t:TypeId)(x:Operand)(lo hi:Option Operand)(ho:o.op=.slice t x lo hi none):
 i8 P st o ((Fm P st t (mv st x) lo hi).1,gc st x∧(Fm P st t (mv st x) lo hi).2):=by
 intro g a w h ⟨hx,hd⟩;unfold Fm at hd⊢;cases hs:bm P t with
 |some e=>
  rw[hs]at hd;simp only at hd⊢;split at hd
  .rename_i b e' off n cap z;obtain⟨rfl,E,F,G,H,I,h7⟩:=hd;obtain⟨A,_⟩:=aN h x hx;rw[z]at A;obtain⟨_,O,d,j⟩:=A;unfold bm at hs;split at hs
   case h_2=>cases hs
   rename_i X M;simp only[Tp]at hs;obtain⟨i,s,rfl⟩:=hs;refine⟨sliced (some ⟨g.μ b,off,none⟩) (bnd st 0 lo).toNat (bnd st n hi).toNat cap i.size,?_,⟨rfl,O,by omega,?_⟩,trivial⟩
   .intro w';simp only[execOp,ho,j,Vv];simp only[Instr.sliceAt,Sem.run_bind,run_underlying M,Result.andThen_ok,Instr.slice,kY h true _ cap lo hi E F G H I d,run_sizeOf s,Sem.run_pure,sliced]
   .rw[sliced,SU (by omega)];simp[Addr.add_lit]
  rename_i ab;obtain⟨h1,E,F,G,H,I⟩:=hd;obtain⟨q,cap,j,d⟩:=nf h hx h1;obtain⟨A,N⟩:=aN h x hx;unfold bm at hs;split at hs
  case h_2=>cases hs
  rename_i X M;simp only[Tp]at hs;obtain⟨i,s,rfl⟩:=hs;generalize Q:(bnd st 0 lo).toNat=L at*;generalize Y:(bnd st (rowsOf st (mv st x)).length hi).toNat=U at*;have J:L<=U:=by omega
  have f:U<=(rowsOf st (mv st x)).length:=by omega
  refine⟨sliced q L U cap i.size,?_,?_⟩
  .intro w';simp only[execOp,ho,j,Vv];simp only[Instr.sliceAt,Sem.run_bind,run_underlying M,Result.andThen_ok,Instr.slice,kY h true _ cap lo hi E F G H I d,run_sizeOf s,Sem.run_pure,Q,Y,sliced]
  .unfold i9 at h1;split at h1
   .rename_i nw e' rows z;subst h1;rw[z]at A j d f⊢;simp only[rowsOf]at f d j;refine⟨⟨rfl,?_⟩,trivial⟩;obtain⟨_,q',m,k,_,hr⟩:=A;rw[k]at j;cases j;refine⟨_,_,by rw[sliced,TN,S6,Uw f],by simp;omega,?_⟩;rcases hr with rfl|⟨c,off,arr,T,fz,vs,rfl,i2,i3,i4,i5⟩
    .left;simp
    .by_cases Z:cap=L
     .left;simp;omega
     .right;refine⟨c,off+L*i.size,arr,T,fz,(vs.take (U*i.size)).drop (L*i.size),by rw[SU Z];simp[Addr.add_lit],i2,i3,i4.cut L U J f,?_⟩;have:=iH i5 (L*i.size) (U*i.size)
      rwa [Ui]at this
   .rename_i v z;rw[z]at A j f⊢;obtain⟨_,k⟩:=A;rw[gr h1]at k;simp only[rowsOf,List.length_nil]at f;rw[k]at j;cases j;have R:U=0:=by omega
    have y:L=0:=by omega
    refine⟨⟨rfl,?_⟩,trivial⟩;show sliced none _ _ 0 i.size=v;rw[gr h1,R,y];simp[sliced]
   .rename_i p z;rw[z]at N f j d⊢;split at h1
    .rename_i nw e' rows hp;subst h1;obtain⟨bl,O⟩:=h.own;have k:=N (by rw[hp];rfl);simp only[rowsOf,hp]at f j d;refine⟨rfl,λW e' D u=>?_⟩;rw[hp]at u;cases u;refine⟨J,f,_,_,rfl,by omega,?_,λy=>?_⟩;rotate_left
     .subst y;refine⟨rows.length,?_⟩;have C:=j;rw[k]at C;rw[C];have r:=bn O (p:=p) (by rw[hp];rfl);rw[hp,C]at r;have B:q.map (·.add (0*i.size))=q:=by
       rcases r with⟨_,_,l⟩|⟨c,_,m,arr,T,vs,l,_⟩
       .simp only[Value.slice.injEq]at l;rw[l.1];rfl
       .simp only[Value.slice.injEq]at l;rw[l.1];simp[Addr.add_lit]
      rw[B];simp
     by_cases K:L=U
     .exact .inl K
     .right;have:=bn O (p:=p) (by rw[hp];rfl);rw[hp]at this;rcases this with⟨_,rfl,l⟩|⟨c,_,m,arr,T,vs,l,_⟩
      .simp at f;omega
      .rw[k,l]at j;cases j;refine⟨c,_,_,l,?_⟩;rw[SU (by omega)];simp[Addr.add_lit]
    .cases h1
   .rename_i p V aa z;rw[z]at N f j d⊢;split at h1
    .rename_i nw e' rows hp;subst h1;obtain⟨j1,j2,q',m,k,jc,hq,hz⟩:=N _ _ _ hp;simp only[rowsOf,hp,TN,S6]at f j d;rw[k]at j;simp only[Value.slice.injEq]at j;obtain⟨rfl,_,rfl⟩:=j;refine⟨rfl,λW e' D u=>?_⟩;rw[hp]at u;cases u;refine⟨by omega,by omega,_,_,by rw[sliced];congr 1;omega,by omega,?_,λy=>?_⟩;rotate_left
     .have h0:V=0:=by omega
      have Q:L=0:=by omega
      obtain⟨n0,hz⟩:=hz h0;refine⟨n0,?_⟩;rw[hz];subst Q;have r:=bn (Xx h.own) (p:=p) (by rw[hp];rfl);rw[hp,hz]at r;have B:q'.map (·.add (0*i.size))=q':=by
       rcases r with⟨_,_,l⟩|⟨c,_,m,arr,T,vs,l,_⟩
       .simp only[Value.slice.injEq]at l;rw[l.1];rfl
       .simp only[Value.slice.injEq]at l;rw[l.1];simp[Addr.add_lit]
      rw[B];simp
     by_cases K:L=U
     .left;omega
     .right;rcases hq with rfl|⟨c,n,cp,S,rfl⟩
      .omega
      .refine⟨c,n,cp,S,?_⟩;rw[SU (by omega)];simp[Addr.add_lit,WI]
    .cases h1
   .cases h1
 |none=>
  rw[hs]at hd;simp only at hd⊢;split at hd
  .rename_i M;obtain⟨h1,E,F,G,H,I⟩:=hd;refine⟨.string ((lT (mv st x)).extract (bnd st 0 lo).toNat (bnd st (lT (mv st x)).size hi).toNat),?_,⟨rfl,rfl⟩,trivial⟩;intro w';simp only[execOp,ho,qh h hx h1,Vv];simp only[Instr.sliceAt,Sem.run_bind,run_underlying M,Result.andThen_ok,Instr.slice,Option.isSome_none,TM,Ul,kY h false _ _ lo hi E F G H I (SY _),Sem.run_pure]
  .cases hd
/-! ### A slice of one's own, cut at both ends and no longer than that -/
theorem qW{P:Program}{st:St}{g:Gh}{a:Act}{w:World}(h:Sim g st a w)(len cap:Nat)(lo hi m:Operand)(c:cP st (some lo))(b:cP st (some hi))(d:cP st (some m))(f:aS (mv st m)=aS (mv st hi))
 (h0:0<=aS (mv st lo)) (h1:aS (mv st lo)<=aS (mv st hi)) (i:aS (mv st hi)<=len) (j:len<=cap):
 ∀w':World,(Instr.sliceBounds true len cap (some (a.eval lo)) (some (a.eval hi)) (some (a.eval m))).run P w'=.ok ((aS (mv st lo)).toNat,(aS (mv st hi)).toNat,(aS (mv st hi)).toNat) w':=by
 intro w';simp only[cP]at*;have e:((aS (mv st hi)).toNat:Int)=aS (mv st hi):=W9 (by omega);simp only[Instr.sliceBounds,bX h b.1 b.2,bX h c.1 c.2,bX h d.1 d.2,f,Sem.run_bind,Sem.run_pure,Result.andThen_ok,run_sliceBound w' _ _ cap _ (by omega:(0:Int)<=aS (mv st hi)) (by omega),
  run_sliceBound w' _ _ (aS (mv st hi)).toNat _ (by omega:(0:Int)<=aS (mv st hi)) (by omega),run_sliceBound w' _ _ (aS (mv st hi)).toNat _ h0 (by rw[e];exact h1)]
def vc(P:Program)(st:St)(t:TypeId)(x:SV)(lo hi m:Operand):SV×Prop:=
 match bm P t,x with
 |some e,.al p=>(.loc p (aS (mv st lo)).toNat (aS (mv st hi)).toNat,i9 st e x∧cP st (some lo)∧cP st (some hi)∧cP st (some m)∧aS (mv st m)=aS (mv st hi)∧0<aS (mv st lo)∧aS (mv st lo)<=aS (mv st hi)∧aS (mv st hi)<=(rowsOf st x).length)
 |some e,.pv (.seq nw e' rows)=>(.pv (.seq nw e' ((rows.take (aS (mv st hi)).toNat).drop (aS (mv st lo)).toNat)),e'=e∧cP st (some lo)∧cP st (some hi)∧cP st (some m)∧aS (mv st m)=aS (mv st hi)∧0<=aS (mv st lo)∧aS (mv st lo)<=aS (mv st hi)∧aS (mv st hi)<=rows.length)
 |_,_=>(.pv .bot,False)
theorem Hj{P:Program}{st:St}(o:Oper)(t:TypeId)(x lo hi m:Operand)(ho:o.op=.slice t x (some lo) (some hi) (some m)):
 i8 P st o ((vc P st t (mv st x) lo hi m).1,gc st x∧(vc P st t (mv st x) lo hi m).2):=by
 intro g a w h ⟨hx,hd⟩;unfold vc at hd⊢;split at hd
 case h_3=>exact hd.elim
 case h_2=>
  rename_i e nw e' rows hs y;obtain⟨rfl,z,A,B,C,N,D,E⟩:=hd;obtain⟨q,cap,j,b⟩:=nf (e:=e') h hx (by rw[y];rfl);obtain⟨I,H⟩:=aN h x hx;unfold bm at hs;split at hs
  case h_2=>cases hs
  rename_i O J;simp only[Tp]at hs;obtain⟨d,i,rfl⟩:=hs;rw[y]at I j b;simp only[rowsOf]at b j;generalize F:(aS (mv st lo)).toNat=L at*;generalize G:(aS (mv st hi)).toNat=U at*;have l:L<=U:=by omega
  have f:U<=rows.length:=by omega
  refine⟨sliced q L U U d.size,?_,⟨rfl,?_⟩,trivial⟩
  .intro w';simp only[execOp,ho,j,TZ];simp only[Instr.sliceAt,Sem.run_bind,run_underlying J,Result.andThen_ok,Instr.slice,qW h rows.length cap lo hi m z A B C N D E b,run_sizeOf i,Sem.run_pure,F,G,sliced]
  .obtain⟨_,q',k,n,_,V⟩:=I;rw[n]at j;cases j;refine⟨_,_,by rw[sliced,TN,S6,Uw f],by simp;omega,?_⟩;rcases V with rfl|⟨c,off,arr,T,fz,vs,rfl,W,i3,X,Y⟩
   .left;simp
   .by_cases S:U=L
    .left;simp;omega
    .right;refine⟨c,off+L*d.size,arr,T,fz,(vs.take (U*d.size)).drop (L*d.size),by rw[SU S];simp[Addr.add_lit],W,i3,X.cut L U l f,?_⟩;have:=iH Y (L*d.size) (U*d.size)
     rwa [Ui]at this
 rename_i e p hs y;obtain⟨h1,z,A,B,C,N,D,E⟩:=hd;obtain⟨q,cap,j,b⟩:=nf h hx h1;obtain⟨I,H⟩:=aN h x hx;unfold bm at hs;split at hs
 case h_2=>cases hs
 rename_i O J;simp only[Tp]at hs;obtain⟨d,i,rfl⟩:=hs;generalize F:(aS (mv st lo)).toNat=L at*;generalize G:(aS (mv st hi)).toNat=U at*;have l:L<=U:=by omega
 have Q:0<L:=by omega
 have f:U<=(rowsOf st (mv st x)).length:=by omega
 refine⟨sliced q L U U d.size,?_,?_⟩
 .intro w';simp only[execOp,ho,j,TZ];simp only[Instr.sliceAt,Sem.run_bind,run_underlying J,Result.andThen_ok,Instr.slice,qW h _ cap lo hi m z A B C (by omega) D E b,run_sizeOf i,Sem.run_pure,F,G,sliced]
 .rw[y]at H f j b h1⊢;unfold i9 at h1;simp only at h1;split at h1
  .rename_i nw e' rows hp;subst h1;obtain⟨bl,R⟩:=h.own;have n:=H (by rw[hp];rfl);simp only[rowsOf,hp]at f j b;refine⟨rfl,λZ e' K u=>?_⟩;rw[hp]at u;cases u;refine⟨l,f,_,U -L,rfl,SY _,?_,λhz=>by omega⟩
   by_cases r:L=U
   .exact .inl r
   .right;have s:=bn R (p:=p) (by rw[hp];rfl);rw[hp]at s;rcases s with⟨_,rfl,_⟩|⟨c,_,k,arr,T,vs,M,_⟩
    .simp at f;omega
    .refine⟨c,_,k,M,?_⟩;have v:=j;rw[n,M]at v;cases v
     rw[SU (λe=>r e.symm)];simp[Addr.add_lit]
  .exact h1.elim
end Go.AX
namespace Go.AX
theorem az.frame{g g':Gh}{w w':World}(a:g.le g'):∀{sv:SV}{v:Value}{b:Option Nat},(∀c,b=some c->w'.heap[c]?=w.heap[c]?)->az g w sv v b->az g' w' sv v b
 |.pv _,_,_,_,h=>⟨h.1,Fit.mono a _ _ h.2⟩
 |.own _ _ _,_,_,f,h=>h.imp id λ⟨c,h1,cap,arr,T,vs,d,e,a3,a4,a5,i,j⟩=>
  ⟨c,h1,cap,arr,T,vs,d,by rw[f c h1];exact e,a3,a4,ay.mono a _ _ _ a5,i,λhn=>TD a.B (j hn)⟩
 |.omap _ _,_,_,f,⟨c,h1,en,ck,d,e,a3,a4⟩=>⟨c,h1,en,ck,d,by rw[f c h1];exact e,bD.mono a _ _ a3,λhn=>TD a.B (a4.1 hn),a4.2⟩
 |.opt _ _,_,_,_,h=>⟨h.1,h.2.1,λm=>az.frame a (λ_ l=>by cases l) (h.2.2 m)⟩
 |.al _,_,_,_,h=>h
 |.loc _ _ _,_,_,_,h=>h
 |.sptr _ _ _,_,_,_,h=>h
 |.agl _,_,_,_,⟨h,vs,h1,k⟩=>⟨h,vs,h1,ak.mono a _ _ k⟩
theorem bW.congr{g g':Gh}{st st':St}{a f:Act}{w w':World}(hp:∀p,(aa st' p).isOwn=true->aa st' p=aa st p∧an g' f w' p=an g a w p):
 ∀{sv:SV}{v:Value},bW g st a w sv v->bW g' st' f w' sv v
 |.pv _,_,_=>trivial
 |.own _ _ _,_,_=>trivial
 |.omap _ _,_,_=>trivial
 |.al p,v,h=>λho=>by obtain⟨h1,b⟩:=hp p ho;rw[b];exact h (by rw[←h1];exact ho)
 |.loc p lo hi,v,h=>λnw e rows d=>by
  obtain⟨h1,b⟩:=hp p (by rw[d];rfl);rw[b];exact h nw e rows (by rw[←h1];exact d)
 |.sptr p i k,v,h=>λnw e rows d=>by
  obtain⟨h1,b⟩:=hp p (by rw[d];rfl);rw[b];exact h nw e rows (by rw[←h1];exact d)
 |.agl xs,v,h=>λk x p hx ho=>by obtain⟨h1,b⟩:=hp p ho;rw[b];exact h k x p hx (by rw[←h1];exact ho)
 |.opt c x,v,h=>λj=>bW.congr hp (h j)
theorem fU{a:Act}{d:Nat}{v:Value}(hd:d<a.tmps.size)(s:Nat):(a.put (some d) v).tmps.getD s undef=if d=s then v else a.tmps.getD s undef:=by
 simp only[Act.put,Tg]
 by_cases h:d=s
 .subst h;simp[hd]
 .simp[h]
def St.put(st:St)(d:Nat)(sv:SV):St:=⟨(d,sv)::st.t,st.h⟩
theorem sB(st:St)(d:Nat)(sv:SV)(s:Nat):look (st.put d sv).t s=if d=s then sv else look st.t s:=rfl
theorem Sim.put{g:Gh}{st:St}{a:Act}{w:World}(h:Sim g st a w){d:Nat}(hd:d<g.N){sv:SV}{v:Value}(hs:az g w sv v none)(u:bW g st a w sv v)(ho:sv.isOwn=false):
 Sim g (st.put d sv) (a.put (some d) v) w:=by
 have i:d<a.tmps.size:=by rw[h.size];exact hd
 obtain⟨bl,l⟩:=h.own;have f:∀p,(aa (st.put d sv) p).isOwn=true->aa (st.put d sv) p=aa st p∧an g (a.put (some d) v) w p=an g a w p:=by
  intro p hp;cases p with
  |cell b k=>exact⟨rfl,rfl⟩
  |slot s=>
   simp only[aa,sB]at hp⊢;split at hp
   .rw[ho]at hp;cases hp
   .rename_i m;simp only[SU m,an,fU i,true_and]
 refine{size:=?_,defs:=h.defs,env:=h.env,n:=h.n,n0:=h.n0,B:=h.B,I:=h.I,F:=h.F,μI:=h.μI,μinj:=h.μinj,own:=⟨λp=>if p=.slot d then none else bl p,?_⟩,al:=λs=>?_}
 .simp[Act.put,h.size]
 .refine{slots:=λs=>?_,blocks:=λb xs hx=>?_,inj:=λp q c hp o=>?_,free:=λp c hp=>?_}
  .rw[sB,fU i]
   by_cases j:d=s
   .subst j;simpa using hs
   .simp only[SU j];rw[SU (by intro e;cases e;exact j rfl)];exact l.slots s
  .obtain⟨arr,T,h1,r,t⟩:=l.blocks b xs hx;refine⟨arr,T,h1,r,λk x hk=>?_⟩;rw[SU (by intro e;cases e)];exact t k x hk
  .split at hp
   .cases hp
   .split at o
    .cases o
    .exact l.inj p q c hp o
  .split at hp
   .cases hp
   .exact l.free p c hp
 .rw[sB,fU i]
  by_cases j:d=s
  .simp only[SX j];exact bW.congr f u
  .simp only[SU j];exact bW.congr f (h.al s)
def kZ(q:Pos->Bool):List (PV×Option Pos)->Bool
 |[]=>false
 |(_,some p)::r=>q p||kZ q r
 |(_,none)::r=>kZ q r
theorem k7{q:Pos->Bool}:∀{xs:List (PV×Option Pos)},kZ q xs=false->∀(k:Nat)(x:PV)(p:Pos),xs[k]?=some (x,some p)->q p=false
 |[],_,k,x,p,h=>by simp at h
 |(y,some b)::r,a,0,x,p,h=>by simp only[kZ,Vp]at a;simp at h;rw[←h.2];exact a.1
 |(y,none)::r,a,0,x,p,h=>by simp at h
 |(y,some b)::r,a,k+1,x,p,h=>by simp only[kZ,Vp]at a;exact k7 a.2 k x p (by simpa using h)
 |(y,none)::r,a,k+1,x,p,h=>k7 (xs:=r) a k x p (by simpa using h)
def ct(q:Pos->Bool):SV->SV
 |.al p=>if q p=true then .pv .bot else .al p
 |.loc p lo hi=>if q p=true then .pv .bot else .loc p lo hi
 |.sptr p i k=>if q p=true then .pv .bot else .sptr p i k
 |.agl xs=>if kZ q xs=true then .pv .bot else .agl xs
 |.opt c x=>match ct q x with
  |.pv .bot=>.pv .bot
  |y=>.opt c y
 |.pv x=>.pv x
 |.own a b c=>.own a b c
 |.omap a b=>.omap a b
def aG(q:Pos->Bool)(t:List (Nat×SV)):List (Nat×SV):=t.map λp=>(p.1,ct q p.2)
theorem aW(q:Pos->Bool):∀(t:List (Nat×SV))(s:Nat),look (aG q t) s=ct q (look t s)
 |[],_=>rfl
 |(j,v)::r,s=>by
  simp only[aG,Tn,look];split
  .rfl
  .exact aW q r s
def SV.avoids(q:Pos->Bool):SV->Prop
 |.al p=>q p=false
 |.loc p _ _=>q p=false
 |.sptr p _ _=>q p=false
 |.agl xs=>kZ q xs=false
 |.opt _ x=>x.avoids q
 |_=>True
theorem bs(q:Pos->Bool):∀x:SV,ct q x=.pv .bot∨(ct q x=x∧x.avoids q)
 |.pv _=>.inr ⟨rfl,trivial⟩
 |.own _ _ _=>.inr ⟨rfl,trivial⟩
 |.omap _ _=>.inr ⟨rfl,trivial⟩
 |.al p=>by cases h:q p<;>simp[ct,h,SV.avoids]
 |.loc p lo hi=>by cases h:q p<;>simp[ct,h,SV.avoids]
 |.sptr p lo hi=>by cases h:q p<;>simp[ct,h,SV.avoids]
 |.agl xs=>by cases h:kZ q xs<;>simp[ct,h,SV.avoids]
 |.opt c x=>by
  rcases bs q x with h|⟨h1,a⟩
  .left;simp[ct,h]
  .rw[ct,h1];cases x with
   |pv y=>cases y<;>first|(left;rfl)|(right;exact⟨rfl,a⟩)
   |_=>right;exact⟨rfl,a⟩
theorem bW.congrA{g g':Gh}{st st':St}{a j:Act}{w w':World}{q:Pos->Bool}(hp:∀p,q p=false->(aa st' p).isOwn=true->aa st' p=aa st p∧an g' j w' p=an g a w p):
 ∀{sv:SV}{v:Value},sv.avoids q->bW g st a w sv v->bW g' st' j w' sv v
 |.pv _,_,_,_=>trivial
 |.own _ _ _,_,_,_=>trivial
 |.omap _ _,_,_,_=>trivial
 |.al p,v,b,h=>λho=>by obtain⟨h1,d⟩:=hp p b ho;rw[d];exact h (by rw[←h1];exact ho)
 |.loc p lo hi,v,b,h=>λnw e rows f=>by
  obtain⟨h1,d⟩:=hp p b (by rw[f];rfl);rw[d];exact h nw e rows (by rw[←h1];exact f)
 |.sptr p i k,v,b,h=>λnw e rows f=>by
  obtain⟨h1,d⟩:=hp p b (by rw[f];rfl);rw[d];exact h nw e rows (by rw[←h1];exact f)
 |.agl xs,v,b,h=>λk x p hx ho=>by obtain⟨h1,d⟩:=hp p (k7 b k x p hx) ho;rw[d];exact h k x p hx (by rw[←h1];exact ho)
 |.opt c x,v,b,h=>λl=>bW.congrA hp b (h l)
theorem d4{q:Pos->Bool}:∀{x:SV},(ct q x).isOwn=true->ct q x=x
 |.pv _,_=>rfl
 |.own _ _ _,_=>rfl
 |.omap _ _,_=>rfl
 |.al p,h=>by simp only[ct]at h;split at h<;>cases h
 |.loc p _ _,h=>by simp only[ct]at h;split at h<;>cases h
 |.sptr p _ _,h=>by simp only[ct]at h;split at h<;>cases h
 |.agl xs,h=>by simp only[ct]at h;split at h<;>cases h
 |.opt c x,h=>by simp only[ct]at h;split at h<;>cases h
theorem az.kill{g:Gh}{w:World}(q:Pos->Bool){x:SV}{v:Value}{b:Option Nat}(h:az g w x v b):az g w (ct q x) v b:=by
 rcases bs q x with e|⟨e,_⟩
 .rw[e];cases x with
  |pv y=>simp only[ct]at e;cases e;exact h
  |own _ _ _=>cases e
  |omap _ _=>cases e
  |al _=>exact⟨h,trivial⟩
  |loc _ _ _=>exact⟨h,trivial⟩
  |sptr _ _ _=>exact⟨h,trivial⟩
  |agl _=>exact⟨h.1,trivial⟩
  |opt _ _=>exact⟨h.1,trivial⟩
 .rw[e];exact h
structure FreeAt (g:Gh) (bl:Pos->Option Nat) (c:Nat):Prop where
  I:g.I c=none
  F:g.F c=none
  μ:∀b,b<g.n->g.μ b≠c
  own:∀p,bl p≠some c
theorem Sim.fresh{g:Gh}{st:St}{a:Act}{w:World}(h:Sim g st a w){bl:Pos->Option Nat}(l:Owns g st a w bl){c:Nat}(m:w.heap.size<=c):FreeAt g bl c:=by
 have hn:w.heap[c]?=none:=UI m;refine⟨?_,?_,λb f e=>?_,λp hp=>?_⟩
 .cases i:g.I c with
  |none=>rfl
  |some j=>have:=h.I c j i;rw[hn]at this;cases this
 .cases i:g.F c with
  |none=>rfl
  |some j=>have:=h.F c j i;rw[hn]at this;cases this
 .have d:b<st.h.length:=h.n▸f;obtain⟨arr,T,k,_⟩:=l.blocks b _ (SR d);rw[e,hn]at k;cases k
 .have:=(l.free p c hp).2.2.1;omega
def cX(d:Nat):Pos->Bool
 |.slot s=>d==s
 |.cell _ _=>false
theorem Sim.putOwn{g:Gh}{st:St}{a:Act}{w w':World}(h:Sim g st a w){bl:Pos->Option Nat}(y:Owns g st a w bl){d:Nat}(hd:d<g.N){sv:SV}{v:Value}{o:Option Nat}
 (L:bT w'=bT w) (P:w.heap.size<=w'.heap.size) (J:∀c,c<w.heap.size->o≠some c->w'.heap[c]?=w.heap[c]?) (hs:az g w' sv v o) (ho:sv.isOwn=true) (m:∀c,o=some c->c<w'.heap.size∧FreeAt g bl c):
 Sim g ⟨(d,sv)::aG (cX d) st.t,st.h⟩ (a.put (some d) v) w':=by
 have q:d<a.tmps.size:=by rw[h.size];exact hd
 have u:∀{c o},w.heap[c]?=some o->c<w.heap.size:=λM=>(Td.1 M).1;have C:∀{b:Option Nat}{p},bl p=b->∀c,b=some c->w'.heap[c]?=w.heap[c]?:=λ{b p} hp c A=>
  J c (y.free _ c (hp.trans A)).2.2.1 (λe=>(m c e).2.own p (hp.trans A))
 have l:∀b,b<g.n->∀R,w.heap[g.μ b]?=some R->w'.heap[g.μ b]?=w.heap[g.μ b]?:=λb i R M=>J _ (u M) (λe=>(m _ e).2.μ b i rfl);have i:∀{b xs},st.h[b]?=some xs->b<g.n:=λhx=>by rw[h.n];exact(SQ.1 hx).1
 have E:∀p,cX d p=false->(aa ⟨(d,sv)::aG (cX d) st.t,st.h⟩ p).isOwn=true->aa ⟨(d,sv)::aG (cX d) st.t,st.h⟩ p=aa st p∧an g (a.put (some d) v) w' p=an g a w p:=by
  intro p O hp;cases p with
  |cell b k=>
   refine⟨rfl,?_⟩;simp only[aa]at hp;cases hx:st.h[b]?with
   |none=>simp[List.getD,hx,SV.isOwn]at hp
   |some xs=>
    obtain⟨arr,T,h1,j,H⟩:=y.blocks b xs hx;simp only[an,l b (i hx) _ h1]
  |slot s=>
   have D:d≠s:=by simpa[cX]using O
   simp only[aa,look,SU D,aW]at hp⊢;refine⟨d4 hp,?_⟩;simp only[an,fU q,SU D]
 refine{size:=?_,defs:=h.defs,env:=L.trans h.env,n:=h.n,n0:=h.n0,B:=TD h.B P,I:=λc Q f=>?_,F:=λc Q f=>?_,μI:=h.μI,μinj:=h.μinj,own:=⟨λp=>if p=.slot d then o else bl p,?_⟩,al:=λs=>?_}
 .simp[Act.put,h.size]
 .have:=h.I c Q f;rw[J c (u this) (λe=>by have:=(m c e).2.I;rw[f]at this;cases this)];exact this
 .have:=h.F c Q f;rw[J c (u this) (λe=>by have:=(m c e).2.F;rw[f]at this;cases this)];exact this
 .refine{slots:=λs=>?_,blocks:=λb xs hx=>?_,inj:=λp r c hp G=>?_,free:=λp c hp=>?_}
  .simp only[look,aW];rw[fU q]
   by_cases z:d=s
   .subst z;simpa using hs
   .simp only[SU z];rw[SU (by intro e;cases e;exact z rfl)];exact az.frame (Gh.le.refl g) (C rfl) (az.kill _ (y.slots s))
  .obtain⟨arr,T,h1,j,H⟩:=y.blocks b xs hx;refine⟨arr,T,by rw[l b (i hx) _ h1];exact h1,j,λk x hk=>?_⟩;rw[SU (by intro e;cases e)];exact⟨(H k x hk).1,az.frame (Gh.le.refl g) (C rfl) (H k x hk).2⟩
  .split at hp
   .rename_i S;split at G
    .rename_i U;rw[S,U]
    .exact absurd G ((m c hp).2.own r)
   .split at G
    .exact absurd hp ((m c G).2.own p)
    .exact y.inj p r c hp G
  .split at hp
   .obtain⟨h1,j⟩:=m c hp;exact⟨j.I,j.F,h1,j.μ⟩
   .obtain⟨h1,j,H,V⟩:=y.free p c hp;exact⟨h1,j,by omega,V⟩
 .simp only[look,aW];rw[fU q]
  by_cases z:d=s
  .simp only[SX z];cases sv<;>first|trivial|cases ho
  .simp only[SU z];rcases bs (cX d) (look st.t s)with e|⟨e,K⟩
   .rw[e];trivial
   .rw[e];exact bW.congrA E K (h.al s)
/-! ### A place is set anew -/
def setPos(st:St)(p:Pos)(sv:SV):St:=
 match p with
 |.slot s=>⟨(s,sv)::st.t,st.h⟩
 |.cell b k=>⟨st.t,st.h.set b ((st.h.getD b []).set k sv)⟩
theorem cK(st:St)(p r:Pos)(sv:SV)(h:p≠r):aa (setPos st p sv) r=aa st r:=by
 cases p with
 |slot s=>
  cases r with
  |slot u=>simp only[setPos,aa,look];rw[SU (λe=>h (by rw[e]))]
  |cell b k=>rfl
 |cell b k=>
  cases r with
  |slot u=>rfl
  |cell b' k'=>
   simp only[setPos,aa]
   by_cases a:b=b'
   .subst a;have hk:k≠k':=λe=>h (by rw[e]);simp only[SS]
    by_cases c:b<st.h.length
    .simp[c,hk]
    .rw[Xj (UF c)]
   .simp[SS,a]
theorem Sim.drop{g:Gh}{st:St}{a:Act}{w:World}(h:Sim g st a w){bl:Pos->Option Nat}(l:Owns g st a w bl)(p:Pos):
 Sim g (setPos st p (.pv .bot)) a w∧∃f,Owns g (setPos st p (.pv .bot)) a w f∧(∀r,r≠p->f r=bl r)∧f p=none∧∀c,bl p=some c->FreeAt g f c:=by
 have m:Owns g (setPos st p (.pv .bot)) a w (λr=>if r=p then none else bl r):=by
  refine{slots:=λs=>?_,blocks:=λb xs hx=>?_,inj:=λr q c d D=>?_,free:=λr c d=>?_}
  .by_cases i:(.slot s:Pos)=p
   .subst i;simp only[setPos,look,UU];exact⟨rfl,trivial⟩
   .rw[SU i];have:=cK st p (.slot s) (.pv .bot) (VC i);simp only[aa]at this;rw[this];exact l.slots s
  .cases p with
   |slot s=>
    obtain⟨arr,T,h1,j,v⟩:=l.blocks b xs hx;refine⟨arr,T,h1,j,λk x hk=>?_⟩;rw[SU (by intro e;cases e)];exact v k x hk
   |cell b0 k0=>
    simp only[setPos]at hx;rw[Tz]at hx;split at hx
    .rename_i o;subst o;split at hx
     .rename_i y;simp only[TF]at hx;subst hx;simp only[SS,SR y,TC];obtain⟨arr,T,h1,j,v⟩:=l.blocks b0 _ (SR y);refine⟨arr,T,h1,⟨by simpa using j.1,j.2⟩,λk x hk=>?_⟩;rw[Tz]at hk;split at hk
      .rename_i t;subst t;split at hk
       .cases hk;rw[SX rfl];exact⟨rfl,rfl,trivial⟩
       .cases hk
      .rename_i t;rw[SU (by intro e;cases e;exact t rfl)];exact v k x hk
     .cases hx
    .rename_i o;obtain⟨arr,T,h1,j,v⟩:=l.blocks b xs hx;refine⟨arr,T,h1,j,λk x hk=>?_⟩;rw[SU (by intro e;cases e;exact o rfl)];exact v k x hk
  .split at d
   .cases d
   .split at D
    .cases D
    .exact l.inj r q c d D
  .split at d
   .cases d
   .exact l.free r c d
 refine⟨{size:=h.size,defs:=h.defs,env:=h.env,n:=?_,n0:=h.n0,B:=h.B,I:=h.I,F:=h.F,μI:=h.μI,μinj:=h.μinj,own:=⟨_,m⟩,al:=λs=>?_},_,m,λr d=>SU d,SX rfl,λc E=>?_⟩
 .cases p with
  |slot s=>exact h.n
  |cell b k=>simp only[setPos,Tt];exact h.n
 .have z:∀r,(aa (setPos st p (.pv .bot)) r).isOwn=true->aa (setPos st p (.pv .bot)) r=aa st r∧an g a w r=an g a w r:=by
   intro r d
   by_cases i:p=r
   .subst i;exfalso;cases p with
    |slot u=>simp[setPos,aa,look,SV.isOwn]at d
    |cell b k=>
     simp only[setPos,aa,SS]at d
     by_cases A:b<st.h.length
     .simp only[Tz,A,UU,TC]at d
      by_cases hk:k<(st.h[b]?.getD []).length
      .simp[hk,SV.isOwn]at d
      .simp[hk,SV.isOwn]at d
     .rw[Xj (UF A),TL (UF A)]at d;simp[SV.isOwn]at d
   .exact⟨cK st p r _ i,rfl⟩
  by_cases i:(.slot s:Pos)=p
  .subst i;simp only[setPos,look,UU];trivial
  .have:=cK st p (.slot s) (.pv .bot) (VC i);simp only[aa]at this;rw[this];exact bW.congr z (h.al s)
 .obtain⟨h1,j,v,G⟩:=l.free p c E;refine⟨h1,j,G,λr d=>?_⟩;split at d
  .cases d
  .rename_i C;exact C (l.inj r p c d E)
theorem cd{st:St}{p:Pos}{sv:SV}(h:(aa st p).isOwn=true):aa (setPos st p sv) p=sv:=by
 cases p with
 |slot s=>simp[setPos,aa,look]
 |cell b k=>
  simp only[aa,SS]at h
  by_cases a:b<st.h.length
  .by_cases hk:k<(st.h[b]?.getD []).length
   .simp only[setPos,aa,SS,Tz,a,UU,TC,hk]
   .rw[TL (UF hk)]at h;cases h
  .rw[TL (UF a)]at h;cases h
theorem bW.write{g:Gh}{st st':St}{a:Act}{w w':World}{p:Pos}{sv':SV}(j:∀r,r≠p->aa st' r=aa st r)(hp:aa st' p=sv')(b:(aa st p).isOwn=true)
 (o:∀r,(aa st r).isOwn=true->an g a w' r=an g a w r) (d:∀s e' m,sv'=.own s e' m->∃nw rows,aa st p=.own nw e' rows∧rows.length=m.length):
 ∀{sv:SV}{v:Value},bW g st a w sv v->bW g st' a w' sv v
 |.pv _,_,_=>trivial
 |.own _ _ _,_,_=>trivial
 |.omap _ _,_,_=>trivial
 |.al r,v,h=>λho=>by
  by_cases l:r=p
  .subst l;rw[o r b];exact h b
  .rw[j r l]at ho;rw[o r ho];exact h ho
 |.loc r lo hi,v,h=>λnw e rows n=>by
  by_cases l:r=p
  .subst l;obtain⟨q,f,h1,u⟩:=d nw e rows (by rw[←hp,n]);rw[o r b];obtain⟨t,z,a3⟩:=h q e f h1;exact⟨t,by omega,a3⟩
  .rw[j r l]at n;rw[o r (by rw[n];rfl)];exact h nw e rows n
 |.sptr r i k,v,h=>λnw e rows n=>by
  by_cases l:r=p
  .subst l;obtain⟨q,f,h1,u⟩:=d nw e rows (by rw[←hp,n]);rw[o r b];exact h q e f h1
  .rw[j r l]at n;rw[o r (by rw[n];rfl)];exact h nw e rows n
 |.agl xs,v,h=>λk x r hx ho=>by
  by_cases l:r=p
  .subst l;rw[o r b];exact h k x r hx b
  .rw[j r l]at ho;rw[o r ho];exact h k x r hx ho
 |.opt c x,v,h=>λy=>bW.write j hp b o d (h y)
theorem Sim.ownWrite{g:Gh}{st:St}{a:Act}{w w':World}(h:Sim g st a w){bl:Pos->Option Nat}(q:Owns g st a w bl){p:Pos}{sv':SV}{c:Nat}(t:(aa st p).isOwn=true)(H:bl p=some c)
 (K:bT w'=bT w) (G:w'.heap.size=w.heap.size) (J:∀k,k≠c->w'.heap[k]?=w.heap[k]?) (hs:az g w' sv' (an g a w p) (some c)) (ho:sv'.isOwn=true)
 (C:∀M e' j,sv'=.own M e' j->∃nw rows,aa st p=.own nw e' rows∧rows.length=j.length):
 Sim g (setPos st p sv') a w':=by
 obtain⟨P,Q,S,R⟩:=q.free p c H;have f:∀b,b<g.n->w'.heap[g.μ b]?=w.heap[g.μ b]?:=λb i=>J _ (R b i);have i:∀{b:Nat}{xs:List SV},st.h[b]?=some xs->b<g.n:=λhx=>by rw[h.n];exact(SQ.1 hx).1
 have l:∀r,r≠p->∀k,bl r=some k->w'.heap[k]?=w.heap[k]?:=λr u k hk=>J k (λe=>u (q.inj r p c (by rw[hk,e]) H));have L:∀r,(aa st r).isOwn=true->an g a w' r=an g a w r:=by
  intro r u;cases r with
  |slot s=>rfl
  |cell b k=>
   simp only[aa]at u;cases hx:st.h[b]?with
   |none=>simp[List.getD,hx,SV.isOwn]at u
   |some xs=>simp only[an,f b (i hx)]
 have A:=λr (u:r≠p)=>cK st p r sv' (VC u);have d:=cd (sv:=sv') t;refine{size:=h.size,defs:=h.defs,env:=K.trans h.env,n:=?_,n0:=h.n0,B:=by rw[G];exact h.B,I:=λk o hk=>?_,F:=λk o hk=>?_,μI:=h.μI,μinj:=h.μinj,own:=⟨bl,?_⟩,al:=λs=>?_}
 .cases p with
  |slot s=>exact h.n
  |cell b k=>simp only[setPos,Tt];exact h.n
 .rw[J k (λe=>by rw[e,P]at hk;cases hk)];exact h.I k o hk
 .rw[J k (λe=>by rw[e,Q]at hk;cases hk)];exact h.F k o hk
 .refine{slots:=λs=>?_,blocks:=λb xs hx=>?_,inj:=q.inj,free:=λr k u=>?_}
  .by_cases E:(.slot s:Pos)=p
   .subst E;simp only[aa]at d;rw[d,H];exact hs
   .have:=A _ E;simp only[aa]at this;rw[this];exact az.frame (Gh.le.refl g) (l _ E) (q.slots s)
  .cases p with
   |slot s=>
    obtain⟨arr,T,h1,D,m⟩:=q.blocks b xs hx;exact⟨arr,T,by rw[f b (i (show st.h[b]?=some xs from hx))];exact h1,D,λk x hk=>⟨(m k x hk).1,az.frame (Gh.le.refl g) (l _ (by intro e;cases e)) (m k x hk).2⟩⟩
   |cell b0 k0=>
    simp only[setPos]at hx;rw[Tz]at hx;split at hx
    .rename_i v;subst v;split at hx
     .rename_i z;simp only[TF]at hx;subst hx;simp only[SS,SR z,TC];obtain⟨arr,T,h1,D,m⟩:=q.blocks b0 _ (SR z);refine⟨arr,T,by rw[f b0 (i (SR z))];exact h1,⟨by simpa using D.1,D.2⟩,λk x hk=>?_⟩;rw[Tz]at hk;split at hk
      .rename_i y;subst y;split at hk
       .cases hk
        refine⟨(by cases sv'<;>first|rfl|cases ho),?_⟩;rw[H];simpa[an,h1]using hs
       .cases hk
      .rename_i y;exact⟨(m k x hk).1,az.frame (Gh.le.refl g) (l _ (by intro e;cases e;exact y rfl)) (m k x hk).2⟩
     .cases hx
    .rename_i v;obtain⟨arr,T,h1,D,m⟩:=q.blocks b xs hx;exact⟨arr,T,by rw[f b (i hx)];exact h1,D,λk x hk=>⟨(m k x hk).1,az.frame (Gh.le.refl g) (l _ (by intro e;cases e;exact v rfl)) (m k x hk).2⟩⟩
  .obtain⟨N,O,a3,a4⟩:=q.free r k u;exact⟨N,O,by rw[G];exact a3,a4⟩
 .by_cases E:(.slot s:Pos)=p
  .subst E;simp only[aa]at d;rw[d];cases sv'<;>first|trivial|cases ho
  .have:=A _ E;simp only[aa]at this;rw[this];exact bW.write A d t L C (h.al s)
/-! ### A new block of the walk's own -/
def St.grow(st:St)(xs:List SV):St:=⟨st.t,st.h++[xs]⟩
theorem Sim.blockNew{g:Gh}{st:St}{a:Act}{w:World}(h:Sim g st a w)(xs:List PV)(arr:Array Value)(T:TypeId)(Q:ak g xs arr.toList)(J:∀v∈arr.toList,v.oneCell'=true):
 ∃g',g.to g'∧g.le g'∧g'.n=g.n+1∧g'.μ g.n=w.heap.size∧Sim g' (st.grow (xs.map .pv)) a (w.alloc (.cells arr T)):=by
 obtain⟨bl,j⟩:=h.own;have m:∀{c o},w.heap[c]?=some o->c<w.heap.size:=λV=>(Td.1 V).1;have C:(w.alloc (.cells arr T)).heap[w.heap.size]?=some (.cells arr T (0,0)):=heap_alloc_new w _;have f:∀k,k<w.heap.size->(w.alloc (.cells arr T)).heap[k]?=w.heap[k]?:=λk hk=>heap_alloc_old w _ hk;have G:∀b,b<g.n->g.μ b<w.heap.size:=λb d=>by
  obtain⟨_,_,E,_⟩:=j.blocks b _ (SR (h.n▸d));exact m E
 let g':Gh:={g with n:=g.n+1,μ:=λb=>if b=g.n then w.heap.size else g.μ b}
 have hle:g.le g':=⟨λ_ _ h=>h,SY _,Vt _,λb d=>by show(if b=g.n then _ else _)=_;rw[SU (by omega)]⟩;have L:g.I w.heap.size=none:=(h.fresh j (SY _)).I;have K:g.F w.heap.size=none:=(h.fresh j (SY _)).F;refine⟨g',⟨λ_ _ h=>h,rfl,rfl,rfl,rfl,rfl,TD h.n0 (Vt _),λb d=>hle.μ b (Uk d h.n0),λ_ _ h=>h⟩,hle,rfl,by show(if g.n=g.n then _ else _)=_;rw[SX rfl],?_⟩;have A:∀p c,bl p=some c->(w.alloc (.cells arr T)).heap[c]?=w.heap[c]?:=λp c u=>f c (j.free p c u).2.2.1;have O:∀p,(aa (st.grow (xs.map .pv)) p).isOwn=true->aa (st.grow (xs.map .pv)) p=aa st p∧an g' a (w.alloc (.cells arr T)) p=an g a w p:=by
  intro p hp;cases p with
  |slot s=>exact⟨rfl,rfl⟩
  |cell b k=>
   simp only[aa,St.grow,SS]at hp⊢;rcases UD b st.h.length with l|l|l
   .rw[SZ l]at hp⊢;refine⟨rfl,?_⟩;have d:b<g.n:=by rw[h.n];exact l
    simp only[an];rw[hle.μ b d,f _ (G b d)]
   .exfalso;rw[l,Tk (SY _)]at hp;simp only[U8,TQ,TC,Tm]at hp;cases hx:xs[k]?with
    |none=>simp[hx,SV.isOwn]at hp
    |some y=>simp[hx,SV.isOwn]at hp
   .exfalso;have hz:(st.h++[xs.map SV.pv])[b]?=none:=TL (by simp only[Ta,Ty,List.length_nil];omega);rw[hz]at hp;simp[SV.isOwn]at hp
 have i:∀p c,(match p with|.cell b _=>if b=g.n then none else bl p|.slot _=>bl p)=some c->bl p=some c:=by
  intro p c hp;cases p with
  |slot s=>exact hp
  |cell b k=>
   have r:(if b=g.n then none else bl (.cell b k))=some c:=hp;split at r
   .cases r
   .exact r
 refine{size:=h.size,defs:=h.defs,env:=h.env,n:=?_,n0:=TD h.n0 (Vt _),B:=?_,I:=λc o u=>?_,F:=λc o u=>?_,μI:=λb d=>?_,μinj:=λb b' d t z=>?_,own:=⟨λp=>match p with|.cell b _=>if b=g.n then none else bl p|.slot _=>bl p,?_⟩,al:=λs=>bW.congr O (h.al s)}
 .show g.n+1=_;rw[h.n];simp[St.grow]
 .have:=h.B;simp only[World.size_alloc];exact WJ this
 .have:=h.I c o u;rw[f c (m this)];exact this
 .have:=h.F c o u;rw[f c (m this)];exact this
 .by_cases e:b=g.n
  .show g.I (if b=g.n then _ else _)=none∧g.F (if b=g.n then _ else _)=none;rw[SX e];exact⟨L,K⟩
  .show g.I (if b=g.n then _ else _)=none∧g.F (if b=g.n then _ else _)=none;rw[SU e];exact h.μI b (by have:b<g.n+1:=d;omega)
 .change(if b=g.n then w.heap.size else g.μ b)=(if b'=g.n then w.heap.size else g.μ b')at z
  have h1:b<g.n+1:=d;have P:b'<g.n+1:=t
  by_cases H:b=g.n
  .by_cases D:b'=g.n
   .omega
   .rw[SX H,SU D]at z;have:=G b' (by omega);omega
  .by_cases D:b'=g.n
   .rw[SU H,SX D]at z;have:=G b (by omega);omega
   .rw[SU H,SU D]at z;exact h.μinj b b' (by omega) (by omega) z
 .refine{slots:=λs=>az.frame hle (A (.slot s)) (j.slots s),blocks:=λb ys hy=>?_,inj:=λp q c hp W=>j.inj p q c (i p c hp) (i q c W),free:=λp c hp=>?_}
  .simp only[St.grow]at hy
   by_cases l:b<st.h.length
   .rw[SZ l]at hy;have d:b<g.n:=by rw[h.n];exact l
    obtain⟨arr',T',h1,P,E⟩:=j.blocks b ys hy;refine⟨arr',T',by rw[hle.μ b d,f _ (G b d)];exact h1,P,λk x hk=>?_⟩;simp only[SU (Xd d)];exact⟨(E k x hk).1,az.frame hle (A (.cell b k)) (E k x hk).2⟩
   .have e:b=st.h.length:=by
     have:=(SQ.1 hy).1;simp at this;omega
    rw[e,Tk (SY _)]at hy;simp only[U8,TQ,TF]at hy;subst hy;have d:b=g.n:=by rw[e,h.n]
    refine⟨arr,T,by show(w.alloc _).heap[if b=g.n then _ else _]?=_;rw[SX d];exact C,⟨by have:=Q.length;simpa using this,J⟩,λk x hk=>?_⟩;rw[Tm,Tp]at hk;obtain⟨y,hy,rfl⟩:=hk;obtain⟨v,R,M⟩:=Q.get k y hy;simp only[SX d];refine⟨rfl,rfl,?_⟩;have:arr.getD k undef=v:=by
     rw[S4]at R;simp[Tg,R]
    rw[this];exact Fit.mono hle _ _ M
  .have N:=i p c hp;obtain⟨S,U,a3,a4⟩:=j.free p c N;refine⟨S,U,by simp only[World.size_alloc];omega,λb d=>?_⟩;show(if b=g.n then w.heap.size else g.μ b)≠c
   by_cases e:b=g.n
   .rw[SX e];omega
   .rw[SU e];exact a4 b (by have:b<g.n+1:=d;omega)
end Go.AX
namespace Go.AX
def splice{α:Type}(xs:List α)(k:Nat)(ys:List α):List α:=xs.take k++ys++xs.drop (k+ys.length)
theorem bU{α:Type}{xs:List α}{k:Nat}{ys:List α}(h:k+ys.length<=xs.length):(splice xs k ys).length=xs.length:=by
 simp[splice];omega
theorem eA{α:Type}{xs:List α}{k:Nat}{ys:List α}(h:k+ys.length<=xs.length)(i:Nat):
 (splice xs k ys)[i]?=if k<=i∧i<k+ys.length then ys[i -k]?else xs[i]?:=by
 unfold splice
 by_cases h1:i<k
 .rw[SU (by omega),Tv,SZ (by simp;omega),TY,SX h1]
 .by_cases a:i<k+ys.length
  .rw[SX ⟨by omega,a⟩,Tv,Tk (by simp;omega),SZ (by simp;omega)];congr 1;simp;omega
  .rw[SU (by omega),Tk (by simp;omega),Ub];congr 1;simp;omega
def aJ(b k n:Nat):Pos->Bool
 |.slot _=>false
 |.cell b' k'=>b==b'&&decide (k<=k')&&decide (k'<k+n)
theorem Sim.blockWriteO{g:Gh}{st:St}{a:Act}{w w':World}(h:Sim g st a w){bl:Pos->Option Nat}(J:Owns g st a w bl){b k0:Nat}{xs:List SV}{arr arr':Array Value}{T:TypeId}{ys:List PV}{vs:List Value}
 (hx:st.h[b]?=some xs) (hk:k0+ys.length<=xs.length) (ha:w.heap[g.μ b]?=some (.cells arr T (0,0))) (hf:ak g ys vs) (V:∀v∈vs,v.oneCell'=true)
 (X:bT w'=bT w) (P:w'.heap.size=w.heap.size) (U:∀c,c≠g.μ b->w'.heap[c]?=w.heap[c]?) (r:∃T',w'.heap[g.μ b]?=some (.cells arr' T' (0,0))) (j:arr'.toList=splice arr.toList k0 vs):
 Sim g ⟨aG (aJ b k0 ys.length) st.t,st.h.set b (splice xs k0 (ys.map .pv))⟩ a w'∧Owns g ⟨aG (aJ b k0 ys.length) st.t,st.h.set b (splice xs k0 (ys.map .pv))⟩ a w' (λp=>if aJ b k0 ys.length p=true then none else bl p):=by
 obtain⟨T',r⟩:=r;have u:b<g.n:=by rw[h.n];exact(SQ.1 hx).1
 have M:b<st.h.length:=(SQ.1 hx).1;obtain⟨ad,T0,b1,b2,b3⟩:=J.blocks b xs hx;rw[ha]at b1;cases b1;obtain⟨b2,L⟩:=b2;have R:vs.length=ys.length:=hf.length;have Q:k0+vs.length<=arr.toList.length:=by simp[b2,R];exact hk
 have A:∀{b':Nat}{z:List SV},st.h[b']?=some z->b'<g.n:=λi=>by rw[h.n];exact(SQ.1 i).1
 have D:∀b',b'<g.n->b'≠b->w'.heap[g.μ b']?=w.heap[g.μ b']?:=λb' hn Z=>U _ (λe=>Z (h.μinj b' b hn u e));have H:∀p c,bl p=some c->w'.heap[c]?=w.heap[c]?:=λp c G=>U c (λe=>(J.free p c G).2.2.2 b u e.symm);have l:∀k,arr'.getD k undef=if k0<=k∧k<k0+ys.length then(vs[k -k0]?).getD undef else arr.getD k undef:=λk=>by
  rw[Tg,←S4,j,eA Q,R];split
  .rfl
  .rw[Tg,S4]
 have S:k0+(ys.map SV.pv).length<=xs.length:=by simpa using hk
 have C:∀k,(splice xs k0 (ys.map SV.pv))[k]?=if k0<=k∧k<k0+ys.length then(ys[k -k0]?).map SV.pv else xs[k]?:=λk=>by
  rw[eA S];simp only[S7,Tm]
 have O:∀p,aJ b k0 ys.length p=false->(aa ⟨aG (aJ b k0 ys.length) st.t,st.h.set b (splice xs k0 (ys.map .pv))⟩ p).isOwn=true->
  aa ⟨aG (aJ b k0 ys.length) st.t,st.h.set b (splice xs k0 (ys.map .pv))⟩ p=aa st p∧an g a w' p=an g a w p:=by
  intro p ab hp;cases p with
  |slot s=>simp only[aa,aW]at hp⊢;exact⟨d4 hp,by first|rfl|trivial⟩
  |cell b' k=>
   by_cases f:b'=b
   .subst f;have N:¬(k0<=k∧k<k0+ys.length):=by
     intro hh;simp[aJ,hh.1,hh.2]at ab
    refine⟨?_,?_⟩
    .simp only[aa,SS,Tz,M,UU,TC,C,SU N,hx]
    .simp only[an,r,ha,l,SU N]
   .simp only[aa,SS,Tz,SU (VC f)]at hp⊢;refine⟨by first|rfl|trivial,?_⟩;cases hy:st.h[b']?with
    |none=>simp[hy,SV.isOwn]at hp
    |some z=>simp only[an,D b' (A hy) f]
 have E:Owns g ⟨aG (aJ b k0 ys.length) st.t,st.h.set b (splice xs k0 (ys.map .pv))⟩ a w' (λp=>if aJ b k0 ys.length p=true then none else bl p):=by
  refine{slots:=λs=>?_,blocks:=λb' z i=>?_,inj:=λp q c hp hq=>?_,free:=λp c hp=>?_}
  .rw[SU (by simp[aJ]),aW];exact az.frame (Gh.le.refl g) (H _) (az.kill _ (J.slots s))
  .rw[Tz]at i;split at i
   .rename_i f;subst f
    try rw[SX M]at i
    cases i
    refine⟨arr',T',r,⟨?_,λv m=>?_⟩,λk x d=>?_⟩
    .rw[←TR,j,bU Q,bU S,TR];exact b2
    .rw[j]at m;simp only[splice,Te]at m;rcases m with(m|m)|m
     .exact L v (TV m)
     .exact V v m
     .exact L v (U3 m)
    .rw[C]at d;split at d
     .rename_i hin;rw[Tp]at d;obtain⟨y,hy,rfl⟩:=d;obtain⟨v,m,Y⟩:=hf.get _ y hy;rw[SX (by simp[aJ,hin.1,hin.2]),l,SX hin,m];exact⟨rfl,rfl,Y⟩
     .rename_i hin;rw[SU (by simp[aJ];intro h1;omega),l,SU hin];exact⟨(b3 k x d).1,az.frame (Gh.le.refl g) (H _) (b3 k x d).2⟩
   .rename_i f;obtain⟨K,T1,c1,c2,c3⟩:=J.blocks b' z i;refine⟨K,T1,by rw[D b' (A i) (VC f)];exact c1,c2,λk x d=>?_⟩;rw[SU (by simp[aJ,f])];exact⟨(c3 k x d).1,az.frame (Gh.le.refl g) (H _) (c3 k x d).2⟩
  .split at hp
   .cases hp
   .split at hq
    .cases hq
    .exact J.inj p q c hp hq
  .split at hp
   .cases hp
   .obtain⟨f1,f2,f3,f4⟩:=J.free p c hp;exact⟨f1,f2,by rw[P];exact f3,f4⟩
 refine⟨{size:=h.size,defs:=h.defs,env:=X.trans h.env,n:=by simp only[Tt];exact h.n,n0:=h.n0,B:=by rw[P];exact h.B,I:=λc o G=>?_,F:=λc o G=>?_,μI:=h.μI,μinj:=h.μinj,own:=⟨_,E⟩,al:=λs=>?_},E⟩
 .rw[U c (λe=>by have:=(h.μI b u).1;rw[←e,G]at this;cases this)];exact h.I c o G
 .rw[U c (λe=>by have:=(h.μI b u).2;rw[←e,G]at this;cases this)];exact h.F c o G
 .rw[aW];rcases bs (aJ b k0 ys.length) (look st.t s)with e|⟨e,W⟩
  .rw[e];trivial
  .rw[e];exact bW.congrA O W (h.al s)
theorem Sim.blockWrite{g:Gh}{st:St}{a:Act}{w w':World}(h:Sim g st a w){b k0:Nat}{xs:List SV}{arr arr':Array Value}{T:TypeId}{ys:List PV}{vs:List Value}
 (hx:st.h[b]?=some xs) (hk:k0+ys.length<=xs.length) (k:w.heap[g.μ b]?=some (.cells arr T (0,0))) (m:ak g ys vs) (e:∀v∈vs,v.oneCell'=true)
 (i:bT w'=bT w) (j:w'.heap.size=w.heap.size) (n:∀c,c≠g.μ b->w'.heap[c]?=w.heap[c]?) (f:∃T',w'.heap[g.μ b]?=some (.cells arr' T' (0,0))) (d:arr'.toList=splice arr.toList k0 vs):
 Sim g ⟨aG (aJ b k0 ys.length) st.t,st.h.set b (splice xs k0 (ys.map .pv))⟩ a w':=by
 obtain⟨bl,l⟩:=h.own;exact(h.blockWriteO l hx hk k m e i j n f d).1
/-! ### Freezing -/
def ml:SV->PV
 |.own nw e rows=>.seq nw e rows
 |.omap nw es=>.amap nw es
 |.pv x=>x
 |_=>.bot
theorem Sim.freeze{g:Gh}{st:St}{a:Act}{w:World}(h:Sim g st a w){p:Pos}(i:(aa st p).isOwn=true):
 ∃g',g.to g'∧g.le g'∧g'.n=g.n∧Fit g' (ml (aa st p)) (an g a w p)∧Sim g' (setPos st p (.pv (ml (aa st p)))) a w∧∀r,an g' a w r=an g a w r:=by
 obtain⟨bl,l⟩:=h.own;have f:=bn l i
 let g':Gh:={g with I:=λc=>if bl p=some c then w.heap[c]?else g.I c}
 have hle:g.le g':=⟨λc o m=>by
  show(if bl p=some c then w.heap[c]?else g.I c)=some o;split
  .rename_i e;rw[(l.free p c e).1]at m;cases m
  .exact m,SY _,SY _,λ_ _=>rfl⟩
 have L:g.to g':=⟨hle.I,rfl,rfl,rfl,rfl,rfl,h.n0,λ_ _=>rfl,λc W X=>by
  show(if bl p=some c then w.heap[c]?else g.I c)=none;rw[SU (λe=>W (l.free p c e).2.1)];exact X⟩
 have y:Fit g' (ml (aa st p)) (an g a w p):=by
  cases hs:aa st p with
  |own nw e rows=>
   rw[hs]at f;rcases f with⟨_,rfl,D⟩|⟨c,m,cap,arr,T,vs,D,J,M,H,O,P,Q⟩
   .exact⟨none,0,D,SY _,.inl rfl⟩
   .exact⟨_,cap,D,H.1,.inr ⟨c,0,arr,T,(0,0),vs,rfl,by show(if bl p=some c then w.heap[c]?else g.I c)=_;rw[SX m];exact J,Q,ay.mono hle _ _ _ O,by simpa using P⟩⟩
  |omap nw es=>
   rw[hs]at f;obtain⟨c,m,en,ck,D,J,M,H⟩:=f;exact⟨c,en,ck,D,by show(if bl p=some c then w.heap[c]?else g.I c)=_;rw[SX m];exact J,H.1,bD.mono hle _ _ M,H.2⟩
  |_=>rw[hs]at i;cases i
 generalize ml (aa st p)=fz at*;refine⟨g',L,hle,rfl,y,?_,λr=>rfl⟩;obtain⟨_,N,Y,h1,Z,h3⟩:=h.drop l p;have A:=λr (j:r≠p)=>cK st p r (.pv fz) (VC j);have d:=cd (sv:=.pv fz) i;have C:∀r,(aa (setPos st p (.pv fz)) r).isOwn=true->aa (setPos st p (.pv fz)) r=aa st r∧an g' a w r=an g a w r:=by
  intro r j
  by_cases t:r=p
  .subst t;rw[d]at j;cases j
  .exact⟨A r t,rfl⟩
 refine{size:=h.size,defs:=h.defs,env:=h.env,n:=?_,n0:=h.n0,B:=h.B,I:=λc o m=>?_,F:=h.F,μI:=λb v=>?_,μinj:=h.μinj,own:=⟨λr=>if r=p then none else bl r,?_⟩,al:=λs=>?_}
 .cases p with
  |slot s=>exact h.n
  |cell b k=>simp only[setPos,Tt];exact h.n
 .change(if bl p=some c then w.heap[c]?else g.I c)=some o at m
  split at m
  .exact m
  .exact h.I c o m
 .refine⟨?_,(h.μI b v).2⟩;show(if bl p=some (g.μ b)then w.heap[g.μ b]?else g.I (g.μ b))=none;rw[SU (λe=>(l.free p _ e).2.2.2 b v rfl)];exact(h.μI b v).1
 .refine{slots:=λs=>?_,blocks:=λb xs hx=>?_,inj:=λr q c j K=>?_,free:=λr c j=>?_}
  .by_cases t:(.slot s:Pos)=p
   .subst t;rw[SX rfl];simp only[aa]at d;rw[d];exact⟨rfl,y⟩
   .rw[SU t];have:=A _ t;simp only[aa]at this;rw[this];exact az.frame hle (λ_ _=>rfl) (l.slots s)
  .cases p with
   |slot s=>
    obtain⟨arr,T,c1,c2,c3⟩:=l.blocks b xs hx;refine⟨arr,T,c1,c2,λk x hk=>?_⟩;rw[SU (by intro e;cases e)];exact⟨(c3 k x hk).1,az.frame hle (λ_ _=>rfl) (c3 k x hk).2⟩
   |cell b0 k0=>
    simp only[setPos]at hx;rw[Tz]at hx;split at hx
    .rename_i u;subst u;split at hx
     .rename_i E;simp only[TF]at hx;subst hx;obtain⟨arr,T,c1,c2,c3⟩:=l.blocks b0 _ (SR E);simp only[SS,SR E,TC];refine⟨arr,T,c1,⟨by simpa using c2.1,c2.2⟩,λk x hk=>?_⟩;rw[Tz]at hk;split at hk
      .rename_i z;subst z;split at hk
       .cases hk
        rw[SX rfl];refine⟨rfl,rfl,?_⟩;have:an g a w (.cell b0 k0)=arr.getD k0 undef:=by simp[an,c1]
        rw[←this];exact y
       .cases hk
      .rename_i z;rw[SU (by intro e;cases e;exact z rfl)];exact⟨(c3 k x hk).1,az.frame hle (λ_ _=>rfl) (c3 k x hk).2⟩
     .cases hx
    .rename_i u;obtain⟨arr,T,c1,c2,c3⟩:=l.blocks b xs hx;refine⟨arr,T,c1,c2,λk x hk=>?_⟩;rw[SU (by intro e;cases e;exact u rfl)];exact⟨(c3 k x hk).1,az.frame hle (λ_ _=>rfl) (c3 k x hk).2⟩
  .split at j
   .cases j
   .split at K
    .cases K
    .exact l.inj r q c j K
  .split at j
   .cases j
   .rename_i G;obtain⟨R,S,U,V⟩:=l.free r c j;refine⟨?_,S,U,V⟩;show(if bl p=some c then w.heap[c]?else g.I c)=none;rw[SU (λe=>G (l.inj r p c j e))];exact R
 .by_cases t:(.slot s:Pos)=p
  .subst t;simp only[aa]at d;rw[d];trivial
  .have:=A _ t;simp only[aa]at this;rw[this];exact bW.congr C (h.al s)
end Go.AX
namespace Go.AX
/-! ### One-cell values -/
def PV.one:PV->Bool
 |.bot=>false
 |.lit v=>v.oneCell'
 |.agg _=>false
 |.tup _=>false
 |.ifc _ _=>true
 |.seq _ _ _=>true
 |.iptr _ _ _ _=>true
 |.ptr _ _=>true
 |.bsl _ _ _ _ _=>true
 |.fn _ _ _=>true
 |.amap _ _=>true
theorem wN{g:Gh}:∀{x:PV}{v:Value},x.one=true->Fit g x v->v.oneCell'=true
 |.bot,_,h,_=>by cases h
 |.lit _,_,h,a=>by cases a;exact h
 |.agg _,_,h,_=>by cases h
 |.tup _,_,h,_=>by cases h
 |.ifc _ _,_,_,⟨_,h,_⟩=>by rw[h];rfl
 |.seq _ _ _,_,_,⟨_,_,h,_⟩=>by rw[h];rfl
 |.iptr _ _ _ _,_,_,⟨_,_,_,_,_,_,h,_⟩=>by rw[h];rfl
 |.ptr _ _,_,_,⟨_,h⟩=>by rw[h];rfl
 |.bsl _ _ _ _ _,_,_,⟨_,_,h⟩=>by rw[h];rfl
 |.fn _ _ _,_,_,⟨_,_,h,_⟩=>by rw[h];rfl
 |.amap _ _,_,_,⟨_,_,_,h,_⟩=>by rw[h];rfl
def bH:List PV->Bool
 |[]=>true
 |x::xs=>x.one&&bH xs
theorem dy{g:Gh}:∀{xs:List PV}{vs:List Value},bH xs=true->ak g xs vs->∀v∈vs,v.oneCell'=true
 |[],_,_,h=>by simp only[ak]at h;subst h;simp
 |_::_,_,a,⟨_,_,h1,c,d⟩=>by
  simp only[bH,S9]at a;subst h1;intro u b;rcases Tx.1 b with rfl|b
  .exact wN a.1 c
  .exact dy a.2 d u b
theorem iB{g:Gh}{x:PV}{v:Value}(h:Fit g x v)(hx:x.one=true∨dm (.pv x)):ak g (aO x) v.cells.toList:=by
 rcases hx with hx|hx
 .have h1:=wN hx h;have a:v.cells=#[v]:=by cases v<;>first|rfl|(simp[Value.oneCell']at h1)
  rw[a];have:aO x=[x]:=by
   cases x with
   |lit u=>cases u<;>first|rfl|(simp[PV.one,Value.oneCell']at hx)
   |agg _=>cases hx
   |_=>rfl
  rw[this];exact⟨v,[],rfl,h,rfl⟩
 .obtain⟨vs,rfl,b⟩:=sA (w:=default) (x:=.pv x) (v:=v) ⟨rfl,h⟩ hx;exact b
theorem yu{α:Type}(xs:List α)(o:Nat)(x:α)(l:List α)(h:o+(x::l).length<=xs.length):splice xs o (x::l)=splice (xs.set o x) (o+1) l:=by
 apply Uf;intro i;rw[eA h,eA (by simp at h⊢;omega)];simp only[Ty]at h⊢
 by_cases h1:o<=i∧i<o+(l.length+1)
 .rw[SX h1]
  by_cases a:i=o
  .subst a;rw[SU (by omega)];simp only[U8,TQ];rw[Tz];simp;omega
  .rw[SX (by omega)];have:i -o=(i -(o+1))+1:=by omega
   rw[this,UV]
 .rw[SU h1,SU (by omega),Tz,SU (by omega)]
theorem Bj{α:Type}(xs:List α)(o:Nat):splice xs o []=xs:=by simp[splice]
theorem vd(off:Nat):∀(l:List Value)(k:Nat)(cells:Array Value),off+k+l.length<=cells.size->
 ((l.zipIdx k).foldl (λcs (p:Value×Nat)=>cs.setIfInBounds (off+p.2) p.1) cells).toList=splice cells.toList (off+k) l
 |[],k,cells,_=>by simp[Bj]
 |x::l,k,cells,h=>by
  simp only[List.zipIdx_cons,Vw];simp only[Ty]at h;rw[vd off l (k+1) _ (by simp;omega),yu _ _ _ _ (by simp;omega)];simp[U4]
theorem qj(place:Nat->Option (Nat×Nat))(cells:Array Value)(i off size:Nat)(v:Value)(rest:List (Nat×Value))(hp:place i=some (off,size))(b:v.cells.size=size)(a:off+size<=cells.size):
 Instr.fill place cells ((i,v)::rest)=Instr.fill place (splice cells.toList off v.cells.toList).toArray rest:=by
 simp only[Instr.fill,hp,b,ne_eq,not_true,decide_false,VN,Th];rw[SU (by omega)];congr 1;have:=vd off v.cells.toList 0 cells (by simp[b];omega);simp only[VE]at this;rw[←this];simp only[Vf];rw[←Array.foldl_toList,Array.toList_zipIdx]
theorem ak.splice{g:Gh}{xs ys:List PV}{vs a:List Value}(h:ak g xs vs)(h':ak g ys a)(k:Nat):ak g (splice xs k ys) (splice vs k a):=by
 have b:=h'.length;simp only[Go.AX.splice,b];exact((h.take k).append h').append (h.drop _)
/-! ### A struct or an array is built -/
def bInfo(P:Program)(t:TypeId):Option (List (Nat×Nat)):=
 match P.underlying t with
 |some (.struct a)=>a.toList.mapM λf=>(P.info? f.type).map λi=>(f.offset,i.size)
 |some (.array n e)=>(P.info? e).map λi=>(List.range n).map λk=>(k*i.size,i.size)
 |_=>none
def zeroV(P:Program)(t:TypeId):Option (List PV):=
 match P.info? t with
 |some i=>i.zero.map λz=>z.cells.toList.map PV.lit
 |none=>none
def qX(pl:List (Nat×Nat))(cells:List PV):List (Nat×PV)->List PV×Prop
 |[]=>(cells,True)
 |(i,y)::rest=>match pl[i]?with
  |some (off,n)=>((qX pl (splice cells off (aO y)) rest).1,(aO y).length=n∧off+n<=cells.length∧(y.one=true∨dm (.pv y))∧(qX pl (splice cells off (aO y)) rest).2)
  |none=>(cells,False)
def rS(st:St):List (Nat×Operand)->Prop
 |[]=>True
 |(_,x)::r=>gc st x∧wK (mv st x)∧rS st r
def ol(st:St):List (Nat×Operand)->List (Nat×PV)
 |[]=>[]
 |(i,x)::r=>(i,l5 (mv st x))::ol st r
def wO(P:Program)(st:St)(t:TypeId)(a:Array (Nat×Operand)):SV×Prop:=
 match bInfo P t,zeroV P t with
 |some pl,some zs=>(.pv (.agg (qX pl zs (ol st a.toList)).1),rS st a.toList∧(qX pl zs (ol st a.toList)).2)
 |_,_=>(.pv .bot,False)
theorem om(p q:Nat->Option (Nat×Nat))(h:∀i x,q i=some x->p i=some x):∀(l:List (Nat×Value))(cells out:Array Value),Instr.fill q cells l=some out->Instr.fill p cells l=some out
 |[],cells,out,ho=>by simpa[Instr.fill]using ho
 |(i,v)::rest,cells,out,ho=>by
  simp only[Instr.fill]at ho⊢;cases b:q i with
  |none=>rw[b]at ho;cases ho
  |some x=>
   rw[b]at ho;rw[h i x b];obtain⟨off,size⟩:=x;simp only at ho⊢;split
   .rename_i a;rw[SX a]at ho;cases ho
   .rename_i a;rw[SU a]at ho;exact om p q h rest _ _ ho
theorem yv{g:Gh}(pl:List (Nat×Nat)):∀(l:List (Nat×PV))(l':List (Nat×Value))(cs:List PV)(cells:Array Value),ak g cs cells.toList->l.map (·.1)=l'.map (·.1)->ak g (l.map (·.2)) (l'.map (·.2))->(qX pl cs l).2->
 ∃out,Instr.fill (pl[·]?) cells l'=some out∧ak g (qX pl cs l).1 out.toList
 |[],l',cs,cells,c,a,f,hd=>by
  cases l' with
  |nil=>exact⟨cells,rfl,c⟩
  |cons _ _=>cases a
 |(i,y)::rest,l',cs,cells,c,a,f,hd=>by
  cases l' with
  |nil=>cases a
  |cons p l'=>
   obtain⟨q,v⟩:=p;simp only[Tn,Vi]at a;obtain⟨rfl,a⟩:=a;obtain⟨s,r,e,o,m⟩:=f;simp only[Tn,Vi]at e;obtain⟨rfl,rfl⟩:=e;simp only[qX]at hd⊢;cases hp:pl[i]?with
   |none=>rw[hp]at hd;exact hd.elim
   |some x=>
    obtain⟨off,n⟩:=x;rw[hp]at hd;obtain⟨h1,h,j,k⟩:=hd;have b:=iB o j;have d:v.cells.size=n:=by have:=b.length;rw[h1]at this;simpa using this
    have hcl:=c.length;rw[qj (pl[·]?) cells i off n v l' hp d (by rw[←TR,hcl];exact h)];exact yv pl rest l' _ _ (by simpa using c.splice b off) a m k
theorem ve{g:Gh}{st:St}{a:Act}{w:World}(h:Sim g st a w):∀(l:List (Nat×Operand)),rS st l->(ol st l).map (·.1)=(l.map λp=>(p.1,a.eval p.2)).map (·.1)∧ak g ((ol st l).map (·.2)) ((l.map λp=>(p.1,a.eval p.2)).map (·.2))
 |[],_=>⟨rfl,rfl⟩
 |(i,x)::r,hd=>by
  obtain⟨h1,e,f⟩:=hd;obtain⟨c,d⟩:=ve h r f;obtain⟨b,_⟩:=aN h x h1;rw[kX e]at b;exact⟨by simp only[ol,Tn];rw[c],_,_,rfl,b.2,d⟩
theorem Fo{P:Program}{st:St}(o:Oper)(t:TypeId)(b:Array (Nat×Operand))(ho:o.op=.build t b):K6 P st o (wO P st t b):=by
 intro g a w h hd;unfold wO at hd⊢;split at hd
 .rename_i pl zs f hz;obtain⟨hp,hd⟩:=hd;obtain⟨s,v⟩:=ve h b.toList hp;unfold zeroV at hz;cases hi:P.info? t with
  |none=>rw[hi]at hz;cases hz
  |some E=>
   rw[hi]at hz;simp only[Tp]at hz;obtain⟨z,hz,rfl⟩:=hz;have d:∀vs:List Value,ak g (vs.map PV.lit) vs:=λvs=>by
    induction vs with
    |nil=>rfl
    |cons u B A=>exact⟨u,B,rfl,rfl,A⟩
   obtain⟨out,j,m⟩:=yv pl _ _ _ z.cells (d _) s v hd;have c:P.built t (b.toList.map λp=>(p.1,a.eval p.2))=some out:=by
    unfold bInfo at f;unfold Program.built;rw[hi];split at f
    .rename_i C q;rw[q];simp only[hz,f];simpa using j
    .rename_i n e q;simp only[Tp]at f;obtain⟨D,l,rfl⟩:=f;rw[q];simp only[hz,l];refine om _ _ (λi x hx=>?_) _ _ _ j;simp only[Tm,Tp]at hx;obtain⟨k,hk,rfl⟩:=hx;have:=SQ.1 hk;obtain⟨y,r⟩:=this;simp at r;subst r;rfl
    .cases f
   refine⟨.agg out,?_,⟨rfl,out,rfl,m⟩,trivial⟩;simp only[execOp,ho,Sem.run_bind];rw[run_build w t _ out (by rw[←c];simp)];simp
 .exact hd.elim
/-! ### An index into an array's value, or a text -/
def wP(P:Program)(t:TypeId):Option (Nat×Bool×Nat):=
 match P.underlying t with
 |some (.array n e)=>(aI P e).map λp=>(n,p)
 |_=>none
def qk(P:Program)(t:TypeId)(x i:SV):SV×Prop:=
 match wP P t with
 |some (n,false,e)=>(.pv ((aO (l5 x)).getD ((aS i).toNat*e) .bot),dm x∧gj i∧0<=aS i∧aS i<n∧(aS i).toNat*e<(aO (l5 x)).length)
 |some (n,true,e)=>(.pv (.agg (((aO (l5 x)).drop ((aS i).toNat*e)).take e)),dm x∧gj i∧0<=aS i∧aS i<n)
 |none=>match P.underlying t with
  |some .string=>(.pv (.lit (.int .u8 ((lT x)[(aS i).toNat]?.getD 0).toNat)),rQ x∧gj i∧0<=aS i∧aS i<(lT x).size)
  |_=>(.pv .bot,False)
theorem Fp{P:Program}{st:St}(o:Oper)(t:TypeId)(x i:Operand)(ho:o.op=.index t x i):K6 P st o ((qk P t (mv st x) (mv st i)).1,gc st x∧gc st i∧(qk P t (mv st x) (mv st i)).2):=by
 intro g a w h ⟨hx,hi,hd⟩;obtain⟨A,_⟩:=aN h x hx;unfold qk at hd⊢;cases c:wP P t with
 |some q=>
  obtain⟨n,b,e⟩:=q;rw[c]at hd;unfold wP at c;split at c
  case h_2=>cases c
  rename_i D C p;simp only[Tp,UH]at c;obtain⟨q,m,rfl,B⟩:=c;rw[B]at m;clear B;have k:=(iA m w).2;cases b with
  |false=>
   simp only at hd⊢;obtain⟨h1,f,j,l,z⟩:=hd;obtain⟨vs,u,d⟩:=sA A h1;obtain⟨v,y,r⟩:=d.get _ _ (SR z);refine⟨v,?_,⟨rfl,by simpa[List.getD,SR z]using r⟩,trivial⟩;simp[execOp,ho,u,bX h hi f,Instr.index,run_underlying p,asIntOf,j,l,k,vb w vs _ v m (by rw[←S4];exact y)]
  |true=>
   simp only at hd⊢;obtain⟨h1,f,j,l⟩:=hd;obtain⟨vs,u,d⟩:=sA A h1;refine⟨.agg (vs.extract ((aS (mv st i)).toNat*e) ((aS (mv st i)).toNat*e+e)),?_,⟨rfl,_,rfl,?_⟩,trivial⟩
   .simp[execOp,ho,u,bX h hi f,Instr.index,run_underlying p,asIntOf,j,l,k,yr w vs _ m]
   .have:=(d.drop ((aS (mv st i)).toNat*e)).take e;rw[XD];simpa[List.extract]using this
 |none=>
  rw[c]at hd;simp only at hd⊢;split at hd
  .rename_i p;obtain⟨h1,f,j,l⟩:=hd;have s:(aS (mv st i)).toNat<(lT (mv st x)).size:=by omega
   refine⟨_,?_,⟨rfl,rfl⟩,trivial⟩;simp only[execOp,ho,qh h hx h1,bX h hi f,Instr.index,asIntOf,Sem.run_bind,Sem.run_pure,Result.andThen_ok,run_underlying p,SX j];have:(lT (mv st x))[(aS (mv st i)).toNat]?=some ((lT (mv st x))[(aS (mv st i)).toNat]):=by simp[s]
   rw[this];simp
  .exact hd.elim
/-! ### A function is made -/
def nL(st:St):List Operand->Prop
 |[]=>True
 |x::r=>gc st x∧wK (mv st x)∧nL st r
def je(st:St):List Operand->List PV
 |[]=>[]
 |x::r=>l5 (mv st x)::je st r
theorem mo{g:Gh}{st:St}{a:Act}{w:World}(h:Sim g st a w):∀(l:List Operand),nL st l->ak g (je st l) (l.map a.eval)
 |[],_=>rfl
 |x::r,⟨h1,c,d⟩=>by
  obtain⟨b,_⟩:=aN h x h1;rw[kX c]at b;exact⟨_,_,rfl,b.2,mo h r d⟩
def Bk(st:St)(f:Fn)(first cap:Array Operand):SV×Prop:=(.pv (.fn f (je st first.toList) (je st cap.toList)),nL st first.toList∧nL st cap.toList)
theorem Fq{P:Program}{st:St}(o:Oper)(f:Fn)(first cap:Array Operand)(ho:o.op=.makeFunc f first cap):K6 P st o (Bk st f first cap):=by
 intro g a w h ⟨h1,b⟩;refine⟨.func f (first.map a.eval) (cap.map a.eval),by simp[execOp,ho,Instr.makeFunc],⟨rfl,_,_,rfl,?_,?_⟩,trivial⟩
 .simpa using mo h _ h1
 .simpa using mo h _ b
/-! ### Maps -/
def dz:List (Int×PV)->Int->Option PV
 |[],_=>none
 |(k,x)::r,n=>if k=n then some x else dz r n
def entriesOf(st:St):SV->List (Int×PV)
 |.pv (.amap _ es)=>es
 |.al p=>match aa st p with
  |.omap _ es=>es
  |_=>[]
 |_=>[]
def isMap(st:St):SV->Prop
 |.pv (.amap _ _)=>True
 |.pv (.lit (.map none))=>True
 |.al p=>match aa st p with
  |.omap _ _=>True
  |_=>False
 |_=>False
def ql(P:Program)(t:TypeId):Option PV:=
 match P.underlying t with
 |some (.map k e)=>match P.underlying k with
  |some (.int _)=>match P.info? e with
   |some i=>match i.zero with
    |some (.agg vs)=>some (.agg (vs.toList.map .lit))
    |some z=>some (.lit z)
    |none=>none
   |none=>none
  |_=>none
 |_=>none
def vf(P:Program)(st:St)(t:TypeId)(x k:SV)(ok:Bool):SV×Prop:=
 match ql P t with
 |some z=>(.pv (if ok=true then .tup [(dz (entriesOf st x) (aS k)).getD z,.lit (.bool (dz (entriesOf st x) (aS k)).isSome)]else(dz (entriesOf st x) (aS k)).getD z),isMap st x∧gj k∧gi k=.i64)
 |none=>(.pv .bot,False)
theorem sC{g:Gh}{kk:IntKind}{n:Int}:∀{es:List (Int×PV)}{en:List MapEntry}(_:bD g es en)(j:Nat),
 ∃r,Instr.findNow (.int kk) (.int .i64 n) en j=some r∧(r=none∧dz es n=none∨∃i m x,r=some (j+i,m.val)∧en[i]?=some m∧m.key=.int .i64 n∧dz es n=some x∧Fit g x m.val)
 |[],en,h,j=>by simp only[bD]at h;subst h;exact⟨none,rfl,.inl ⟨rfl,rfl⟩⟩
 |(k,x)::es,en,⟨m,r,h1,b,p,q⟩,j=>by
  subst h1;simp only[Instr.findNow,b,Instr.sameNow,UU,dz]
  by_cases hk:k=n
  .subst hk;simp only[Wl,UU];exact⟨_,rfl,.inr ⟨0,m,x,rfl,rfl,b,rfl,p⟩⟩
  .have s:(n==k)=false:=by simp;exactλe=>hk e.symm
   simp only[s,SU hk];obtain⟨u,c,a⟩:=sC (n:=n) q (j+1);refine⟨u,c,?_⟩;rcases a with⟨rfl,a⟩|⟨i,t,v,rfl,d,f,l,o⟩
   .exact .inl ⟨rfl,a⟩
   .exact .inr ⟨i+1,t,v,by rw[U4,WP 1 i],by simpa using d,f,l,o⟩
theorem ce{P:Program}(w:World)(b:Bool)(t:TypeId)(kk k:IntKind)(n:Int)(h:P.underlying t=some (.int kk)):(Instr.checkKey b 10000 t (.int k n)).run P w=.ok () w:=by
 show(Instr.checkKey b (9999+1) t (.int k n)).run P w=_;rw[Instr.checkKey];simp only[Sem.run_bind,run_underlying h,Result.andThen_ok,Sem.run_pure]
theorem Hk{g:Gh}{st:St}{a:Act}{w:World}(h:Sim g st a w){x:Operand}(m:gc st x)(d:isMap st (mv st x)):
 (a.eval x=.map none∧entriesOf st (mv st x)=[])∨∃r en ck,a.eval x=.map (some r)∧w.heap[r]?=some (.map en ck)∧bD g (entriesOf st (mv st x)) en.toList:=by
 obtain⟨e,k⟩:=aN h x m;unfold isMap at d;split at d
 .rename_i nw es hx;rw[hx]at e⊢;obtain⟨r,en,ck,f,i,_,j⟩:=e.2;exact .inr ⟨r,en,ck,f,h.I _ _ i,j.1⟩
 .rename_i hx;rw[hx]at e⊢;exact .inl ⟨e.2,rfl⟩
 .rename_i p hx;rw[hx]at k⊢;split at d
  .rename_i nw es hp;obtain⟨bl,l⟩:=h.own;have n:=k (by rw[hp];rfl);have b:=bn l (p:=p) (by rw[hp];rfl);rw[hp]at b;obtain⟨c,_,en,ck,f,i,j,_⟩:=b;exact .inr ⟨c,en,ck,n.trans f,i,by simp only[entriesOf,hp];exact j⟩
  .exact d.elim
 .exact d.elim
theorem run_findKey{P:Program}{g:Gh}(w:World)(a:TypeId)(kk:IntKind)(n:Int)(d:P.underlying a=some (.int kk)){es:List (Int×PV)}{en:List MapEntry}(h:bD g es en):
 ∃r,(Instr.findKey a (.int .i64 n) en).run P w=.ok r w∧(r=none∧dz es n=none∨∃i m x,r=some (i,m.val)∧en[i]?=some m∧m.key=.int .i64 n∧dz es n=some x∧Fit g x m.val):=by
 obtain⟨r,b,c⟩:=sC (kk:=kk) (n:=n) h 0;refine⟨r,?_,?_⟩
 .simp only[Instr.findKey,Sem.run_bind,run_underlying d,Result.andThen_ok,b,Sem.run_pure]
 .simpa using c
theorem Hl{P:Program}{st:St}(o:Oper)(t:TypeId)(x k:Operand)(ok:Bool)(ho:o.op=.lookup t x k ok):K6 P st o ((vf P st t (mv st x) (mv st k) ok).1,gc st x∧gc st k∧(vf P st t (mv st x) (mv st k) ok).2):=by
 intro g a w h ⟨hx,hk,hd⟩;unfold vf at hd⊢;cases hi:ql P t with
 |none=>rw[hi]at hd;exact hd.elim
 |some z=>
  rw[hi]at hd;simp only at hd⊢;obtain⟨h1,M,N⟩:=hd;unfold ql at hi;split at hi
  case h_2=>cases hi
  rename_i s G E;split at hi
  case h_2=>cases hi
  rename_i kk d;cases c:P.info? G with
  |none=>rw[c]at hi;cases hi
  |some F=>
   rw[c]at hi;simp only at hi;cases hz:F.zero with
   |none=>rw[hz]at hi;cases hi
   |some j=>
    rw[hz]at hi;have n:Fit g z j:=by
     have l:∀vs:List Value,ak g (vs.map PV.lit) vs:=λvs=>by
      induction vs with
      |nil=>rfl
      |cons u R O=>exact⟨u,R,rfl,rfl,O⟩
     split at hi
     .rename_i vs C;cases hi;cases C;exact⟨vs,rfl,l _⟩
     .rename_i z' _ C;cases hi;cases C;rfl
     .cases hi
    have p:(zeroValue G).run P w=.ok j w:=by simp[zeroValue,typeInfo,c,hz]
    have e:=bX h hk M;rw[N]at e;have fin:∀(v:Value)(b:Bool),Fit g ((dz (entriesOf st (mv st x)) (aS (mv st k))).getD z) v->b=(dz (entriesOf st (mv st x)) (aS (mv st k))).isSome->
     Fit g (if ok=true then .tup [(dz (entriesOf st (mv st x)) (aS (mv st k))).getD z,.lit (.bool (dz (entriesOf st (mv st x)) (aS (mv st k))).isSome)]else(dz (entriesOf st (mv st x)) (aS (mv st k))).getD z) (if ok=true then .tuple #[v,.bool b]else v):=by
     intro v b H L;subst L;cases ok with
     |true=>exact⟨_,rfl,v,_,rfl,H,_,_,rfl,rfl,rfl⟩
     |false=>exact H
    rcases Hk h hx h1 with⟨y,A⟩|⟨r,en,ck,y,A,K⟩
    .refine⟨if ok=true then .tuple #[j,.bool false]else j,?_,⟨rfl,fin j false (by rw[A];exact n) (by rw[A];rfl)⟩,trivial⟩;have D:(Instr.findKey s (.int .i64 (aS (mv st k))) (#[]:Array MapEntry).toList).run P w=.ok none w:=by
      simp[Instr.findKey,run_underlying d,Instr.findNow]
     simp only[execOp,ho,y,e,Instr.lookup,Sem.run_bind,run_underlying E,Result.andThen_ok,Sem.run_pure,ce w _ s kk .i64 _ d,D,p]
    .obtain⟨q,I,B⟩:=run_findKey (P:=P) w s kk (aS (mv st k)) d K;have f:(getObj r).run P w=.ok (.map en ck) w:=by simp[getObj,Sem.run,A]
     rcases B with⟨rfl,B⟩|⟨i,m,S,rfl,_,_,J,Q⟩
     .refine⟨if ok=true then .tuple #[j,.bool false]else j,?_,⟨rfl,fin j false (by rw[B];exact n) (by rw[B];rfl)⟩,trivial⟩;simp only[execOp,ho,y,e,Instr.lookup,Sem.run_bind,run_underlying E,Result.andThen_ok,Sem.run_pure,f,ce w _ s kk .i64 _ d,I,p]
     .refine⟨if ok=true then .tuple #[m.val,.bool true]else m.val,?_,⟨rfl,fin m.val true (by rw[J];exact Q) (by rw[J];rfl)⟩,trivial⟩;simp only[execOp,ho,y,e,Instr.lookup,Sem.run_bind,run_underlying E,Result.andThen_ok,Sem.run_pure,f,ce w _ s kk .i64 _ d,I]
end Go.AX
namespace Go.AX
def Dr(P:Program)(st:St)(c:Call):SV×Prop:=
 match c.callee,c.args.toList,c.argTypes.toList with
 |.builtin .len,[x],[t]=>match tk P t with
  |.slice=>((uY P st t (mv st x)).1,gc st x∧(uY P st t (mv st x)).2)
  |.string=>((sy (mv st x)).1,gc st x∧(sy (mv st x)).2)
  |.map=>(.int .i64 (entriesOf st (mv st x)).length,gc st x∧isMap st (mv st x))
  |_=>(.pv .bot,False)
 |.builtin .min,[x,y],_=>(.int (gi (mv st x)) (if aS (mv st y)<aS (mv st x)then aS (mv st y)else aS (mv st x)),gc st x∧gc st y∧gj (mv st x)∧gj (mv st y))
 |.builtin .max,[x,y],_=>(.int (gi (mv st x)) (if aS (mv st x)<aS (mv st y)then aS (mv st y)else aS (mv st x)),gc st x∧gc st y∧gj (mv st x)∧gj (mv st y))
 |_,_,_=>(.pv .bot,False)
def Hm(P:Program)(op:BinOp)(t:TypeId)(x y:SV):SV×Prop:=
 match tk P t with
 |.int=>Ha op x y
 |.bool=>Hb op x y
 |.string=>Hc op x y
 |.ptr=>((Fg op x y).1,ym x∧(Fg op x y).2)
 |.flat n=>Fh n op x y
 |_=>(.pv .bot,False)
def wQ(st:St)(op:BinOp)(x y:Operand):Option Bool:=
 match y,mv st x with
 |.const (.map none),.al p=>match aa st p,op with
  |.omap _ _,.eql=>some false
  |.omap _ _,.neq=>some true
  |_,_=>none
 |.const (.map none),.pv (.amap _ _)=>match op with
  |.eql=>some false
  |.neq=>some true
  |_=>none
 |_,_=>none
def pop(P:Program)(st:St)(o:Op):SV×Prop:=
 match o with
 |.move x=>(mv st x,gc st x)
 |.assign x=>(mv st x,gc st x)
 |.pick c x y=>((yo (mv st c) (mv st x) (mv st y)).1,gc st c∧(rP (mv st c)=true->gc st x)∧(rP (mv st c)=false->gc st y)∧(yo (mv st c) (mv st x) (mv st y)).2)
 |.unOp op _ x=>((Oo op (mv st x)).1,gc st x∧(Oo op (mv st x)).2)
 |.binOp op t x y _=>match wQ st op x y with
  |some b=>(.bool b,gc st x∧tk P t=.map)
  |none=>((Hm P op t (mv st x) (mv st y)).1,gc st x∧gc st y∧(Hm P op t (mv st x) (mv st y)).2)
 |.fieldAddr t x f=>((qi P st t f (mv st x)).1,gc st x∧(qi P st t f (mv st x)).2)
 |.indexAddr t x i=>((Fj P st t (mv st x) (mv st i)).1,gc st x∧gc st i∧(Fj P st t (mv st x) (mv st i)).2)
 |.load t x=>((Bb P st t (mv st x)).1,gc st x∧(Bb P st t (mv st x)).2)
 |.extract x i=>((Fk i (mv st x)).1,gc st x∧(Fk i (mv st x)).2)
 |.field t x f=>((u9 P t f (mv st x)).1,gc st x∧(u9 P t f (mv st x)).2)
 |.convert s d x=>((Fl P s d (mv st x)).1,gc st x∧(Fl P s d (mv st x)).2)
 |.nilCheck x=>((Oq st (mv st x)).1,gc st x∧(Oq st (mv st x)).2)
 |.slice t x lo hi none=>((Fm P st t (mv st x) lo hi).1,gc st x∧(Fm P st t (mv st x) lo hi).2)
 |.slice t x (some lo) (some hi) (some m)=>((vc P st t (mv st x) lo hi m).1,gc st x∧(vc P st t (mv st x) lo hi m).2)
 |.call c=>Dr P st c
 |.build t ps=>wO P st t ps
 |.index t x i=>((qk P t (mv st x) (mv st i)).1,gc st x∧gc st i∧(qk P t (mv st x) (mv st i)).2)
 |.makeFunc f first cap=>Bk st f first cap
 |.lookup t x k ok=>((vf P st t (mv st x) (mv st k) ok).1,gc st x∧gc st k∧(vf P st t (mv st x) (mv st k) ok).2)
 |_=>(.pv .bot,False)
theorem Ds{P:Program}{t:TypeId}(h:tk P t=.bool):P.underlying t=some .bool:=by
 unfold tk at h;split at h<;>first|assumption|(cases h;done)|(split at h<;>cases h)
theorem vg{P:Program}{t:TypeId}(h:tk P t=.string):P.underlying t=some .string:=by
 unfold tk at h;split at h<;>first|assumption|(cases h;done)|(split at h<;>cases h)
theorem Hn{P:Program}{t:TypeId}(h:tk P t=.map):∃k e,P.underlying t=some (.map k e):=by
 unfold tk at h;split at h<;>first|exact⟨_,_,by assumption⟩|(cases h;done)|(split at h<;>cases h)
theorem Ho{P:Program}{t:TypeId}(h:tk P t=.ptr):∃e,P.underlying t=some (.pointer e):=by
 unfold tk at h;split at h<;>first|exact⟨_,by assumption⟩|(cases h;done)|(split at h<;>cases h)
theorem Hp{P:Program}{st:St}(o:Oper):K6 P st o (pop P st o.op):=by
 cases j:o.op
 case move x=>exact(wL o x (.inl j)).pop
 case assign x=>exact(wL o x (.inr j)).pop
 case pick c x y=>exact(yp o c x y j).pop
 case unOp op t x=>exact(Hg o op t x j).pop
 case fieldAddr t x f=>exact(u7 o t f x j).pop
 case indexAddr t x i=>exact(Dm o t x i j).pop
 case load t x=>exact Bi o t x j
 case extract x i=>exact(Do o x i j).pop
 case field t x f=>exact(yt o t x f j).pop
 case convert s d x=>exact(Dp o s d x j).pop
 case nilCheck x=>exact(Hh o x j).pop
 case slice t x lo hi T=>
  cases T with
  |none=>exact(Dq o t x lo hi j).pop
  |some m=>
   cases lo with
   |none=>exactλ_ _ _ _ h=>h.elim
   |some lo=>
    cases hi with
    |none=>exactλ_ _ _ _ h=>h.elim
    |some hi=>exact(Hj o t x lo hi m j).pop
 case binOp op t x y u=>
  simp only[pop,Hm];split
  .rename_i b l;intro g a w h ⟨hx,I⟩;obtain⟨k,e,z⟩:=Hn I;unfold wQ at l;split at l
   case h_3=>cases l
   case h_2=>
    rename_i nw es H;obtain⟨C,_⟩:=aN h x hx;rw[H]at C;have hy:a.eval (.const (.map none))=.map none:=rfl;obtain⟨c,en,ck,q,_⟩:=C.2;split at l
    .cases l
     refine⟨.bool false,?_,⟨rfl,rfl⟩,trivial⟩;simp only[execOp,j,q,hy,eqGuard_at_map,Sem.run_bind,Sem.run_pure,Result.andThen_ok,Go.run_eql_map_nil w t k e (some c) z];rfl
    .cases l
     refine⟨.bool true,?_,⟨rfl,rfl⟩,trivial⟩;simp only[execOp,j,q,hy,eqGuard_at_map,Sem.run_bind,Sem.run_pure,Result.andThen_ok,Go.run_neq_map_nil w t k e (some c) z];rfl
    .cases l
   rename_i p H;obtain⟨_,M⟩:=aN h x hx;rw[H]at M;obtain⟨bl,O⟩:=h.own;have key:∀(nw:Bool)(es:List (Int×PV)),aa st p=.omap nw es->∃c,a.eval x=.map (some c):=λnw es hp=>by
    have S:=M (by rw[hp];rfl);have C:=bn O (p:=p) (by rw[hp];rfl);rw[hp]at C;obtain⟨c,_,en,ck,B,_⟩:=C;exact⟨c,by rw[S,B]⟩
   have hy:a.eval (.const (.map none))=.map none:=rfl;split at l
   .rename_i nw es hp;cases l
    obtain⟨c,q⟩:=key nw es hp;refine⟨.bool false,?_,⟨rfl,rfl⟩,trivial⟩;simp only[execOp,j,q,hy,eqGuard_at_map,Sem.run_bind,Sem.run_pure,Result.andThen_ok,Go.run_eql_map_nil w t k e (some c) z];rfl
   .rename_i nw es hp;cases l
    obtain⟨c,q⟩:=key nw es hp;refine⟨.bool true,?_,⟨rfl,rfl⟩,trivial⟩;simp only[execOp,j,q,hy,eqGuard_at_map,Sem.run_bind,Sem.run_pure,Result.andThen_ok,Go.run_neq_map_nil w t k e (some c) z];rfl
   .cases l
  cases ht:tk P t with
  |int=>exact(Dh o op t u x y j).pop
  |bool=>exact(Di o op t u x y j (Ds ht)).pop
  |string=>exact(Dj o op t u x y j).pop
  |ptr=>obtain⟨e,Q⟩:=Ho ht;exact(Dk o op t u e x y j Q).pop
  |flat n=>exact K7 o op t u x y n j ht
  |_=>exactλ_ _ _ _ h=>h.2.2.elim
 case build t ps=>exact Fo o t ps j
 case index t x i=>exact Fp o t x i j
 case makeFunc f first cap=>exact Fq o f first cap j
 case lookup t x k ok=>exact Hl o t x k ok j
 case call c=>
  simp only[pop,Dr];split
  .rename_i x t h1 A L;have q:c={callee:=.builtin .len,args:=#[x],argTypes:=#[t]}:=by
    cases c with
    |mk a b d=>
     simp only at h1 A L;rw[h1,show b=#[x]from by rw[←Vf (xs:=b),A],show d=#[t]from by rw[←Vf (xs:=d),L]]
   rw[q]at j;cases ht:tk P t with
   |slice=>exact(yn o t x j).pop
   |string=>exact(uZ o t x j (vg ht)).pop
   |map=>
    intro g a w h ⟨hx,hd⟩;obtain⟨k,e,z⟩:=Hn ht;refine⟨_,?_,⟨rfl,rfl⟩,trivial⟩;rcases Hk h hx hd with⟨B,v⟩|⟨r,en,ck,B,v,N⟩
    .simp[execOp,j,resolve,invoke,builtin,B,v,Builtin.len_,run_underlying z,goInt]
    .have R:=N.length;have D:(getObj r).run P w=.ok (.map en ck) w:=by simp[getObj,Sem.run,v]
     simp[execOp,j,resolve,invoke,builtin,B,Builtin.len_,run_underlying z,goInt,D,←R]
   |_=>exactλ_ _ _ _ h=>h.elim
  .rename_i x y h1 A;intro g a w h ⟨G,g2,J,K⟩;have v:c.args=#[x,y]:=by rw[←Vf (xs:=c.args),A]
   refine⟨_,?_,⟨rfl,rfl⟩,trivial⟩;have E:=bX h G J;have F:=bX h g2 K;simp[execOp,j,resolve,h1,v,E,F,invoke,builtin,Builtin.min_,Builtin.min2]
  .rename_i x y h1 A;intro g a w h ⟨G,g2,J,K⟩;have v:c.args=#[x,y]:=by rw[←Vf (xs:=c.args),A]
   refine⟨_,?_,⟨rfl,rfl⟩,trivial⟩;have E:=bX h G J;have F:=bX h g2 K;simp[execOp,j,resolve,h1,v,E,F,invoke,builtin,Builtin.max_,Builtin.max2]
  .exactλ_ _ _ _ h=>h.elim
 all_goals exactλ_ _ _ _ h=>h.elim
/-! ### What is laid into memory is frozen -/
def oq(st:St)(p:Pos):PV×St×Prop:=
 match aa st p with
 |.own nw e rows=>(.seq nw e rows,setPos st p (.pv (.seq nw e rows)),True)
 |.omap nw es=>(.amap nw es,setPos st p (.pv (.amap nw es)),True)
 |_=>(.bot,st,False)
def b6(st:St)(x:Operand):PV×St×Prop:=
 match mv st x with
 |.pv y=>(y,st,gc st x)
 |.al p=>((oq st p).1,(oq st p).2.1,gc st x∧(oq st p).2.2)
 |.loc p lo hi=>match aa st p with
  |.own nw e rows=>(.seq nw e ((rows.take hi).drop lo),setPos st p (.pv (.seq nw e rows)),gc st x)
  |_=>(.bot,st,False)
 |_=>(.bot,st,False)
theorem mq{g:Gh}{st:St}{a:Act}{w:World}(h:Sim g st a w)(x:Operand)(hd:(b6 st x).2.2):
 ∃g',g.to g'∧g.le g'∧g'.n=g.n∧Sim g' (b6 st x).2.1 a w∧Fit g' (b6 st x).1 (a.eval x):=by
 have d:g.to g:=⟨λ_ _ h=>h,rfl,rfl,rfl,rfl,rfl,h.n0,λ_ _=>rfl,λ_ _ h=>h⟩;unfold b6 at hd⊢;split at hd
 .rename_i y j;obtain⟨m,_⟩:=aN h x hd;rw[j]at m;exact⟨g,d,Gh.le.refl g,rfl,h,m.2⟩
 .rename_i p j;obtain⟨m,f⟩:=aN h x hd.1;rw[j]at f;have b:=hd.2;unfold oq at b⊢;split at b
  .rename_i nw e rows hp;obtain⟨g',t1,k,t3,t4,t5,_⟩:=h.freeze (p:=p) (by rw[hp];rfl);rw[hp]at t4 t5;exact⟨g',t1,k,t3,t5,by rw[f (by rw[hp];rfl)];exact t4⟩
  .rename_i nw es hp;obtain⟨g',t1,k,t3,t4,t5,_⟩:=h.freeze (p:=p) (by rw[hp];rfl);rw[hp]at t4 t5;exact⟨g',t1,k,t3,t5,by rw[f (by rw[hp];rfl)];exact t4⟩
  .exact b.elim
 .rename_i p lo hi j;split at hd
  .rename_i nw e rows hp;obtain⟨m,f⟩:=aN h x hd;rw[j]at f;obtain⟨g',t1,k,t3,t4,t5,_⟩:=h.freeze (p:=p) (by rw[hp];rfl);rw[hp]at t4 t5;refine⟨g',t1,k,t3,t5,?_⟩;obtain⟨D,t,q,cap,C,jc,r,_⟩:=f _ _ _ hp;refine⟨q,cap,by rw[C,TN,S6];congr 1;omega,by simp;omega,?_⟩
   by_cases i:lo=hi
   .left;subst i;simp
   .right;rcases r with r|⟨c,n,cp,o,rfl⟩
    .exact absurd r i
    .obtain⟨q',s,l,_,B⟩:=t4;rw[o]at l;cases l;rcases B with rfl|⟨c',off,arr,T,fz,vs,l,u,v,z,A⟩
     .simp at t;omega
     .cases l
      refine⟨c,lo*e,arr,T,fz,(vs.take (hi*e)).drop (lo*e),rfl,u,v,z.cut lo hi D t,?_⟩;have:=iH A (lo*e) (hi*e)
      rwa [Ui,T4]at this
  .cases hd
 .exact hd.elim
def cL(st:St):List Operand->List PV×St×Prop
 |[]=>([],st,True)
 |x::xs=>((b6 st x).1::(cL (b6 st x).2.1 xs).1,(cL (b6 st x).2.1 xs).2.1,(b6 st x).2.2∧(cL (b6 st x).2.1 xs).2.2)
theorem ng:∀(xs:List Operand){g:Gh}{st:St}{a:Act}{w:World},Sim g st a w->(cL st xs).2.2->
 ∃g',g.to g'∧g.le g'∧g'.n=g.n∧Sim g' (cL st xs).2.1 a w∧ak g' (cL st xs).1 (xs.map a.eval)
 |[],g,st,a,w,h,_=>⟨g,⟨λ_ _ h=>h,rfl,rfl,rfl,rfl,rfl,h.n0,λ_ _=>rfl,λ_ _ h=>h⟩,Gh.le.refl g,rfl,h,rfl⟩
 |x::xs,g,st,a,w,h,hd=>by
  obtain⟨s,t1,e,f,p,k⟩:=mq h x hd.1;obtain⟨g2,r,d,j,q,l⟩:=ng xs p hd.2;refine⟨g2,t1.trans r,⟨λc o m=>d.I _ _ (e.I _ _ m),TD d.B e.B,by rw[j,f];exact SY _,λb i=>by rw[d.μ b (by rw[f];exact i),e.μ b i]⟩,j.trans f,q,_,_,rfl,Fit.mono d _ _ k,l⟩
end Go.AX
namespace Go.AX
theorem Sim.refl_to{g:Gh}{st:St}{a:Act}{w:World}(h:Sim g st a w):g.to g:=⟨λ_ _ h=>h,rfl,rfl,rfl,rfl,rfl,h.n0,λ_ _=>rfl,λ_ _ h=>h⟩
/-! ### Reading -/
def putD(d:Option Tmp)(sv:SV)(st:St):St:=
 match d with
 |some d=>st.put d sv
 |none=>st
def ca(N:Nat)(d:Option Tmp):Prop:=
 match d with
 |some d=>d<N
 |none=>True
theorem Sim.putD{g:Gh}{st:St}{a:Act}{w:World}(h:Sim g st a w){d:Option Tmp}(hd:ca g.N d){sv:SV}{v:Value}(hs:az g w sv v none)(b:bW g st a w sv v)(ho:sv.isOwn=false):
 Sim g (putD d sv st) (a.put d v) w:=by
 cases d with
 |none=>exact h
 |some d=>exact h.put hd hs b ho
/-! ### An owned value moves -/
def Dt(st:St)(s d:Nat):St:=⟨(d,look st.t s)::aG (cX d) ((s,.pv .bot)::st.t),st.h⟩
theorem Sim.take{g:Gh}{st:St}{a:Act}{w:World}(h:Sim g st a w){s d:Nat}(hd:d<g.N)(ho:(look st.t s).isOwn=true):Sim g (Dt st s d) (a.put (some d) (a.tmps.getD s undef)) w:=by
 obtain⟨bl,b⟩:=h.own;obtain⟨h1,i,e,k,l,j⟩:=h.drop b (.slot s);have hs:=b.slots s;refine h1.putOwn e hd rfl (SY _) (λ_ _ _=>rfl) hs ho (λc f=>⟨(b.free _ c f).2.2.1,j c f⟩)
theorem Bl{P:Program}{st:St}(o:Oper)(s d:Nat)(ho:o.op=.assign (.tmp s))(hd:o.dst=some d)(b:(look st.t s).isOwn=true){N:Nat}(c:d<N):
 ∀g a w,g.N=N->Sim g st a w->∃v w' g',(execOp a.eval o).run P w=.ok (.value v) w'∧g.to g'∧Sim g' (Dt st s d) (a.put o.dst v) w':=by
 intro g a w e h;refine⟨a.tmps.getD s undef,w,g,by simp[execOp,ho,Act.eval],h.refl_to,?_⟩;rw[hd];exact h.take (e▸c) b
/-! ### New blocks of the walk's own -/
def dA(P:Program)(t:TypeId):Option (List PV):=
 match P.info? t with
 |some i=>i.zero.map λz=>z.cells.toList.map PV.lit
 |none=>none
theorem d5(g:Gh):∀vs:List Value,ak g (vs.map PV.lit) vs
 |[]=>rfl
 |v::vs=>⟨v,vs,rfl,rfl,d5 g vs⟩
theorem Hq{P:Program}{st:St}(o:Oper)(t:TypeId)(d:Nat)(zs:List PV)(ho:o.op=.alloc t)(hd:o.dst=some d)(hz:dA P t=some zs)(b:bH zs=true){N:Nat}(c:d<N):
 ∀g a w,g.N=N->Sim g st a w->∃v w' g',(execOp a.eval o).run P w=.ok (.value v) w'∧g.to g'∧Sim g' ((st.grow (zs.map .pv)).put d (.pv (.ptr st.h.length 0))) (a.put o.dst v) w':=by
 intro g a w e h;unfold dA at hz;split at hz
 case h_2=>cases hz
 rename_i i hi;simp only[Tp]at hz;obtain⟨z,hz,rfl⟩:=hz;obtain⟨g',t1,l,j,f,k⟩:=h.blockNew (z.cells.toList.map PV.lit) z.cells t (d5 g _) (dy b (d5 g _));refine⟨.pointer (some ⟨w.heap.size,0,none⟩),w.alloc (.cells z.cells t),g',?_,t1,?_⟩
 .simp only[execOp,ho,Instr.alloc,zeroValue,typeInfo,Sem.run_bind,run_program,Result.andThen_ok,hi,Sem.run_pure,hz];simp[newVar,newRow]
 .rw[hd];refine k.put (by rw[t1.N,e];exact c) ⟨rfl,?_,?_⟩ trivial rfl
  .rw[j,←h.n];omega
  .rw[←h.n,f]
theorem Nw{P:Program}{st:St}(o:Oper)(t:TypeId)(x:Operand)(d:Nat)(ho:o.op=.box t x)(hd:o.dst=some d)(k:(b6 st x).2.2)(hx:(b6 st x).1.one=true∨dm (.pv (b6 st x).1))(b:bH (aO (b6 st x).1)=true){N:Nat}(j:d<N):
 ∀g a w,g.N=N->Sim g st a w->∃v w' g',(execOp a.eval o).run P w=.ok (.value v) w'∧g.to g'∧Sim g' (((b6 st x).2.1.grow ((aO (b6 st x).1).map .pv)).put d (.pv (.ptr (b6 st x).2.1.h.length 0))) (a.put o.dst v) w':=by
 intro g a w l h;obtain⟨r,t1,s,y,c,i⟩:=mq h x k;have e:=iB i hx;obtain⟨g2,f,u,p,m,q⟩:=c.blockNew _ (a.eval x).cells t e (dy b e);refine⟨.pointer (some ⟨w.heap.size,0,none⟩),w.alloc (.cells (a.eval x).cells t),g2,?_,t1.trans f,?_⟩
 .simp[execOp,ho,Instr.box,newVar,newRow]
 .rw[hd];refine q.put (by rw[f.N,t1.N,l];exact j) ⟨rfl,?_,?_⟩ trivial rfl
  .rw[p,←c.n];omega
  .rw[←c.n,m]
/-! ### Stores -/
theorem dW{P:Program}{t:TypeId}{d:Bool}{n:Nat}(w:World)(g:aI P t=some (d,n))(v:Value)(b:v.cells.size=n)(c off:Nat)(T:TypeId)(arr:Array Value)
 (f:w.heap[c]?=some (.cells arr T (0,0))) (a:off+n<=arr.size) (h1:∀u∈v.cells.toList,u.oneCell'=true):
 (storeVar t ⟨c,off,none⟩ v).run P w=.ok () (w.setRow c (splice arr.toList off v.cells.toList).toArray):=by
 obtain⟨_,e⟩:=iA g w;have:=run_storeCells_at P c off T v.cells.toList 0 arr w f (by simp[b];omega) h1;simp only[VE]at this;simp only[storeVar,Sem.run_bind,e,Result.andThen_ok,b,ne_eq,not_true,Ul,Sem.run_ite];simpa[splice]using this
theorem Fs{P:Program}{st:St}(o:Oper)(t:TypeId)(x y:Operand)(b off n:Nat)(A:Bool)(ho:o.op=.store t x y)(hd:o.dst=none)(D:aI P t=some (A,n))
 (C:(b6 st y).2.2) (e:bH (aO (b6 st y).1)=true) (hy:(b6 st y).1.one=true∨dm (.pv (b6 st y).1)) (hn:(aO (b6 st y).1).length=n)
 (hx:mv (b6 st y).2.1 x=.pv (.ptr b off)) (u:gc (b6 st y).2.1 x) (d:off+n<=((b6 st y).2.1.h.getD b []).length):
 ∀g a w,Sim g st a w->∃w' g',(execOp a.eval o).run P w=.ok .skip w'∧g.to g'∧
  Sim g' ⟨aG (aJ b off n) (b6 st y).2.1.t,(b6 st y).2.1.h.set b (splice ((b6 st y).2.1.h.getD b []) off ((aO (b6 st y).1).map .pv))⟩ a w':=by
 intro g a w h;obtain⟨k,t1,F,G,l,B⟩:=mq h y C;obtain⟨j,_⟩:=aN l x u;rw[hx]at j;obtain⟨_,p,v⟩:=j;have q:b<(b6 st y).2.1.h.length:=l.n▸p;have i:(b6 st y).2.1.h[b]?=some ((b6 st y).2.1.h.getD b []):=by simp[List.getD,SR q]
 obtain⟨bl,r⟩:=l.own;obtain⟨arr,T,m,⟨z,_⟩,_⟩:=r.blocks b _ i;have f:=iB B hy;have s:(a.eval y).cells.size=n:=by have:=f.length;rw[hn]at this;simpa using this
 have E:=dW w D (a.eval y) s (k.μ b) off T arr m (by rw[z];exact d) (dy e f);refine⟨w.setRow (k.μ b) (splice arr.toList off (a.eval y).cells.toList).toArray,k,?_,t1,?_⟩
 .simp only[execOp,ho,v,Instr.storeAt,Instr.sureAddr,Sem.run_bind,Sem.run_pure,Result.andThen_ok,E]
 .have:=l.blockWrite (w':=w.setRow (k.μ b) (splice arr.toList off (a.eval y).cells.toList).toArray) i (by rw[hn];exact d) m f (dy e f) rfl (size_setRow _ _ _) (λc f=>setRow_other w _ c _ f) ⟨T,setRow_heap w _ arr _ T _ m⟩ (by simp);rw[hn]at this;exact this
theorem ay.splice{g:Gh}{e:Nat}:∀{rows:List (List PV)}{vs:List Value}(_:ay g e rows vs)(i k:Nat)(ys:List PV)(a:List Value),i<rows.length->k+ys.length<=e->(∀u∈a,u.oneCell'=true)->ak g ys a->
 ay g e (rows.set i (AX.splice (rows.getD i []) k ys)) (AX.splice vs (i*e+k) a)
 |[],_,_,i,k,ys,a,h,_,_,_=>by simp at h
 |s::rows,_,⟨l,m,h1,c,d,j⟩,0,k,ys,a,_,hk,ho,hy=>by
  have n:=d.length;have p:=hy.length;refine⟨AX.splice l k a,m,?_,⟨?_,λv b=>?_⟩,?_,j⟩
  .rw[h1];simp only[AX.splice,Ww,T4];rw[Uy (by omega),Ua (by omega),Tv,Tv,Tv]
  .simp only[SS,TQ,TC];rw[bU (by omega)];exact c.1
  .simp only[AX.splice,Te]at b;rcases b with(b|b)|b
   .exact c.2 v (TV b)
   .exact ho v b
   .exact c.2 v (U3 b)
  .simp only[SS,TQ,TC,AX.splice];rw[←p];exact((d.take k).append hy).append (d.drop _)
 |s::rows,_,⟨l,m,h1,c,d,j⟩,i+1,k,ys,a,h,hk,ho,hy=>by
  have n:=d.length;have r:=j.length;have f:i<rows.length:=by simpa using h
  have o:i*e+e<=rows.length*e:=by rw[←UR];exact UT _ f
  have p:=hy.length;refine⟨l,AX.splice m (i*e+k) a,?_,c,d,?_⟩
  .rw[h1];simp only[AX.splice];have q:(i+1)*e+k=l.length+(i*e+k):=by rw[n,c.1,UR];omega
   rw[q,Wa,U4,VG];simp[Tv]
  .have:=ay.splice j i k ys a f hk ho hy;simpa using this
theorem Bn{P:Program}{st:St}(o:Oper)(t:TypeId)(x y:Operand)(p:Pos)(i k n e:Nat)(nw:Bool)(rows:List (List PV))(M:Bool)(ho:o.op=.store t x y)(W:aI P t=some (M,n))
 (S:(b6 st y).2.2) (b:bH (aO (b6 st y).1)=true) (hy:(b6 st y).1.one=true∨dm (.pv (b6 st y).1)) (hn:(aO (b6 st y).1).length=n)
 (hx:mv (b6 st y).2.1 x=.sptr p i k) (C:gc (b6 st y).2.1 x) (hp:aa (b6 st y).2.1 p=.own nw e rows) (hi:i<rows.length) (hk:k+n<=e):
 ∀g a w,Sim g st a w->∃w' g',(execOp a.eval o).run P w=.ok .skip w'∧g.to g'∧
  Sim g' (setPos (b6 st y).2.1 p (.own nw e (rows.set i (splice (rows.getD i []) k (aO (b6 st y).1))))) a w':=by
 intro g a w h;obtain⟨R,t1,l1,n1,H,Q⟩:=mq h y S;obtain⟨U,j⟩:=aN H x C;rw[hx]at j;obtain⟨c,m,cp,v,F⟩:=j _ _ _ hp;obtain⟨bl,l⟩:=H.own;have d:(aa (b6 st y).2.1 p).isOwn=true:=by rw[hp];rfl
 have u:=bn l d;rw[hp]at u;have s:=iB Q hy;have f:(a.eval y).cells.size=n:=by have:=s.length;rw[hn]at this;simpa using this
 rcases u with⟨_,rfl,_⟩|⟨c',B,cap,arr,T,vs,I,J,z,A,K,N,O⟩
 .simp at hi
 .rw[I]at v;cases v;have L:i*e+e<=cp*e:=by rw[←UR];exact UT _ (by omega)
  have Y:=dW w W (a.eval y) f c (i*e+k) T arr J (by rw[z];omega) (dy b s);refine⟨_,R,?_,t1,H.ownWrite (w':=w.setRow c (splice arr.toList (i*e+k) (a.eval y).cells.toList).toArray) l d B rfl (size_setRow _ _ _) (λq X=>setRow_other w _ q _ X) (.inr ⟨c,rfl,cp,_,T,splice vs (i*e+k) (a.eval y).cells.toList,?_,setRow_heap w _ arr _ T _ J,?_,⟨by simpa using A.1,A.2.1,su A.2.2 (dy b s) _⟩,?_,?_,O⟩) rfl ?_⟩
  .simp only[execOp,ho,F,Instr.storeAt,Instr.sureAddr,Sem.run_bind,Sem.run_pure,Result.andThen_ok,Y]
  .rw[I];simp
  .have:i*e+k+(a.eval y).cells.toList.length<=arr.toList.length:=by simp[f,z];omega
   simp only[T8];rw[bU this];simp[z]
  .exact K.splice i k _ _ hi (by rw[hn];exact hk) (dy b s) s
  .obtain⟨r,E⟩:=N;have Z:=K.length;have D:i*e+e<=rows.length*e:=by rw[←UR];exact UT _ hi
   refine⟨r,?_⟩;simp only[splice];have hcl:(a.eval y).cells.toList.length=n:=by simp[f]
   rw[←E,Uy (by omega),Ua (by rw[hcl];omega)];simp[Tv]
  .intro ab e' G V;cases V
   exact⟨nw,rows,hp,by simp⟩
end Go.AX
namespace Go.AX
theorem yx(size:Nat):∀(vs:List Value)(j:Nat)(cells:Array Value),(∀v∈vs,v.cells.size=size)->cells.size=(j+vs.length)*size->
 ∃out,Instr.fill (λi=>some (i*size,size)) cells ((vs.zipIdx j).map λp=>(p.2,p.1))=some out∧out.toList=cells.toList.take (j*size)++(vs.map λv=>v.cells.toList).flatten
 |[],j,cells,_,a=>⟨cells,by simp[Instr.fill],by simp at a;rw[←a,←TR,Tw];simp⟩
 |v::vs,j,cells,c,a=>by
  have h1:=c v (To ..);simp only[Ty]at a;have hle:j*size+size<=cells.size:=by rw[a,←UR];exact UT _ (by omega)
  simp only[List.zipIdx_cons,Tn];rw[qj _ cells j (j*size) size v _ rfl h1 hle];have b:(splice cells.toList (j*size) v.cells.toList).length=cells.size:=by rw[bU (by simp[h1];exact hle)];simp
  obtain⟨out,ho,e⟩:=yx size vs (j+1) (splice cells.toList (j*size) v.cells.toList).toArray (λu f=>c u (Tl _ f)) (by simp only[T8,b,a];congr 1;omega);refine⟨out,ho,?_⟩;rw[e];simp only[Tn,VF];rw[←Tv];congr 1;simp only[splice];rw[Tv,←Tv];have d:((cells.toList.take (j*size))++v.cells.toList).length=(j+1)*size:=by simp[h1,UR];omega
  rw[←d,UY];rfl
theorem vh{g:Gh}{e:Nat}:∀{ys:List PV}{vs:List Value},ak g ys vs->(∀y∈ys,(aO y).length=e∧bH (aO y)=true∧(y.one=true∨dm (.pv y)))->
 ay g e (ys.map aO) ((vs.map λv=>v.cells.toList).flatten)∧∀v∈vs,v.cells.size=e
 |[],_,h,_=>by simp only[ak]at h;subst h;simp[ay]
 |y::ys,_,⟨v,r,h1,f,i⟩,hy=>by
  subst h1;obtain⟨c,d,a3⟩:=hy y (To ..);have a:=iB f a3;obtain⟨b1,b2⟩:=vh i (λz hz=>hy z (Tl _ hz));refine⟨⟨v.cells.toList,_,by simp,⟨c,dy d a⟩,a,b1⟩,λu b=>?_⟩;rcases Tx.1 b with rfl|b
  .have:=a.length;rw[c]at this;simpa using this
  .exact b2 u b
def cZ(P:Program)(t:TypeId):Option (List PV):=
 match P.underlying t with
 |some (.slice e)=>dA P e
 |_=>none
theorem lU{P:Program}{g:Gh}{a:Act}{w:World}(o:Oper)(t:TypeId)(len e:Nat)(b:Array (Nat×Operand))(zs ys:List PV)(ho:o.op=.buildSlice t len b)
 (hs:bm P t=some e) (hz:cZ P t=some zs) (v:len*e<=16777216) (hp:b.toList.map (·.1)=List.range len)
 (r:ak g ys ((b.toList.map (·.2)).map a.eval)) (hy:∀y∈ys,(aO y).length=e∧bH (aO y)=true∧(y.one=true∨dm (.pv y))):
 ∃arr T,ay g e (ys.map aO) arr∧
  (execOp a.eval o).run P w=.ok (.value (.slice (some ⟨w.heap.size,0,none⟩) len len)) (w.alloc (.cells arr.toArray T))∧(ys.map aO).length=len:=by
 obtain⟨x,A⟩:=vh r hy;unfold bm at hs;split at hs
 case h_2=>cases hs
 rename_i u s;simp only[Tp]at hs;obtain⟨c,d,rfl⟩:=hs;unfold cZ at hz;rw[s]at hz;simp only[dA,d,Tp]at hz;obtain⟨z,hz,rfl⟩:=hz;have h:b.toList.length=len:=by have:=Vm List.length hp;simpa using this
 refine⟨_,u,x,?_,?_⟩
 .have j:(b.map λ(p:Nat×Operand)=>(p.1,a.eval p.2)).toList=(((b.toList.map (·.2)).map a.eval).zipIdx 0).map λp=>(p.2,p.1):=by
   apply Uf;intro i;simp only[Wn,Tm,List.getElem?_zipIdx,Option.map_map];cases hi:b.toList[i]?with
   |none=>simp
   |some q=>
    have:=Vm (λl=>l[i]?) hp;simp only[Tm,hi,TZ]at this;rw[XK (by have:=(SQ.1 hi).1;omega)]at this;simp only[TF]at this;simp[this]
  have k:((Array.range (len*c.size)).map ((if len*c.size=0 then(#[]:Array Value)else z.cells)[·%(if len*c.size=0 then(#[]:Array Value)else z.cells).size]!)).size=(0+((b.toList.map (·.2)).map a.eval).length)*c.size:=by
   simp[h]
  obtain⟨out,f,m⟩:=yx c.size ((b.toList.map (·.2)).map a.eval) 0 _ A k;rw[←j]at f;simp only[Ww,WO,TI]at m;rw[←m];simp only[execOp,ho,Instr.buildSlice,Sem.run_bind,run_underlying s,Result.andThen_ok,run_sizeOf d];rw[SU (by omega)]
  by_cases n:len*c.size=0
  .simp only[n,UU]at f⊢;simp only[Sem.run_bind,Sem.run_pure,Result.andThen_ok,f];simp[newRow]
  .simp only[n,Ul]at f⊢;simp only[zeroValue,typeInfo,Sem.run_bind,run_program,d,hz,Sem.run_pure,Result.andThen_ok,f];simp[newRow]
 .have:=r.length;simp only[S7]at this⊢;rw[←this];exact h
theorem sD{P:Program}{g:Gh}{st:St}{a:Act}{w:World}(h:Sim g st a w)(o:Oper)(t:TypeId)(len e:Nat)(b:Array (Nat×Operand))(zs:List PV)(ho:o.op=.buildSlice t len b)
 (hs:bm P t=some e) (hz:cZ P t=some zs) (c:len*e<=16777216) (hp:b.toList.map (·.1)=List.range len)
 (i:(cL st (b.toList.map (·.2))).2.2) (hy:∀y∈(cL st (b.toList.map (·.2))).1,(aO y).length=e∧bH (aO y)=true∧(y.one=true∨dm (.pv y))):
 ∃g' arr T,g.to g'∧g.le g'∧g'.n=g.n∧Sim g' (cL st (b.toList.map (·.2))).2.1 a w∧ay g' e ((cL st (b.toList.map (·.2))).1.map aO) arr∧
  (execOp a.eval o).run P w=.ok (.value (.slice (some ⟨w.heap.size,0,none⟩) len len)) (w.alloc (.cells arr.toArray T))∧((cL st (b.toList.map (·.2))).1.map aO).length=len:=by
 obtain⟨f,t1,j,k,p,d⟩:=ng _ h i;obtain⟨arr,T,l,m,r3⟩:=lU (w:=w) o t len e b zs _ ho hs hz c hp d hy;exact⟨f,arr,T,t1,j,k,p,l,m,r3⟩
theorem sE{P:Program}{st:St}(o:Oper)(t:TypeId)(len e:Nat)(b:Array (Nat×Operand))(zs:List PV)(d:Nat)(ho:o.op=.buildSlice t len b)(hd:o.dst=some d)
 (hs:bm P t=some e) (hz:cZ P t=some zs) (k:len*e<=16777216) (h0:0<e) (hp:b.toList.map (·.1)=List.range len)
 (q:(cL st (b.toList.map (·.2))).2.2) (hy:∀y∈(cL st (b.toList.map (·.2))).1,(aO y).length=e∧bH (aO y)=true∧(y.one=true∨dm (.pv y))) {N:Nat} (p:d<N):
 ∀g a w,g.N=N->Sim g st a w->∃v w' g',(execOp a.eval o).run P w=.ok (.value v) w'∧g.to g'∧
  Sim g' ⟨(d,.own true e ((cL st (b.toList.map (·.2))).1.map aO))::aG (cX d) (cL st (b.toList.map (·.2))).2.1.t,(cL st (b.toList.map (·.2))).2.1.h⟩ (a.put o.dst v) w':=by
 intro g a w r h;obtain⟨n,arr,T,t1,u,x,i,l,s,f⟩:=sD h o t len e b zs ho hs hz k hp q hy;refine⟨_,_,n,s,t1,?_⟩;rw[hd];obtain⟨bl,m⟩:=i.own;refine i.putOwn m (o:=some w.heap.size) (by rw[t1.N,r];exact p) rfl (by simp) (λc j _=>heap_alloc_old w _ j) (.inr ⟨w.heap.size,rfl,len,arr.toArray,T,arr,by rw[f],heap_alloc_new w _,?_,⟨by rw[f];exact SY _,?_,by simpa using l.one⟩,l,by simp,λ_=>i.B⟩) rfl (λc j=>?_)
 .have:=l.length;rw[f]at this;simpa using this
 .have:len<=len*e:=WB _ h0;unfold maxLen;omega
 .cases j
  exact⟨by simp,i.fresh m (SY _)⟩
/-! ### append -/
theorem gN{g:Gh}{st:St}{a:Act}{w:World}(h:Sim g st a w){x:Operand}{e:Nat}(G:gc st x)(hs:i9 st e (mv st x)):
 ∃q cap vs,a.eval x=.slice q (rowsOf st (mv st x)).length cap∧ay g e (rowsOf st (mv st x)) vs∧(rowsOf st (mv st x)=[]∨∃C:Addr,q=some C∧∀(j:Nat) u,vs[j]?=some u->w.cell? (C.add j)=some u):=by
 obtain⟨r,o⟩:=aN h x G;have d:∀{rows:List (List PV)},rows=[]->ay g e rows []:=λh=>by subst h;rfl
 unfold i9 at hs;split at hs
 .rename_i nw e' rows f;subst hs;rw[f]at r⊢;obtain⟨_,q,cap,b,_,H⟩:=r;rcases H with rfl|⟨c,off,arr,T,fz,vs,rfl,m,_,E,F⟩
  .exact⟨q,cap,[],b,rfl,.inl rfl⟩
  .refine⟨_,cap,vs,b,E,.inr ⟨_,rfl,λj u hj=>?_⟩⟩;rw[Addr.add_lit,cell_of (h.I _ _ m)];have:=gq F hj
   rwa [Ub,S4]at this
 .rename_i v f;rw[f]at r⊢;have b:a.eval x=v:=r.2;exact⟨none,0,[],by rw[b,gr hs];rfl,rfl,.inl rfl⟩
 .rename_i p f;rw[f]at o⊢;split at hs
  .rename_i nw e' rows hp;subst hs;obtain⟨bl,z⟩:=h.own;have b:=o (by rw[hp];rfl);have:=bn z (p:=p) (by rw[hp];rfl);rw[hp]at this;simp only[rowsOf,hp];rcases this with⟨_,rfl,i⟩|⟨c,_,cap,arr,T,vs,i,s,_,_,t,y,_⟩
   .exact⟨none,0,[],by rw[b,i];rfl,rfl,.inl rfl⟩
   .refine⟨_,cap,vs,by rw[b,i],t,.inr ⟨_,rfl,λj u hj=>?_⟩⟩;rw[Addr.add_lit,cell_of s,T4,←S4];exact gq y hj
  .exact hs.elim
 .rename_i p lo hi f;rw[f]at o⊢;split at hs
  .rename_i nw e' rows hp;subst hs;obtain⟨h1,m,q,cap,b,J,B⟩:=o _ _ _ hp;obtain⟨bl,z⟩:=h.own;have:=bn z (p:=p) (by rw[hp];rfl);rw[hp]at this;have k:(rowsOf st (.loc p lo hi)).length=hi -lo:=by simp only[rowsOf,hp,TN,S6];omega
   by_cases A:lo=hi
   .have:rowsOf st (.loc p lo hi)=[]:=UZ (by omega);exact⟨q,cap,[],by rw[b,k],d this,.inl this⟩
   .rcases B with B|⟨c,n,cp,l,rfl⟩
    .exact absurd B A
    .rcases this with⟨_,rfl,i⟩|⟨c',_,D,arr,T,vs,i,s,_,_,t,y,_⟩
     .simp at m;omega
     .rw[i]at l;cases l;refine⟨_,cap,(vs.take (hi*e')).drop (lo*e'),by rw[b,k],by simp only[rowsOf,hp];exact t.cut lo hi h1 m,.inr ⟨_,rfl,λj u hj=>?_⟩⟩;rw[Addr.add_lit,cell_of s];have:=gq (iH y (lo*e') (hi*e')) hj
      rwa [Ub,S4]at this
  .exact hs.elim
 .exact hs.elim
theorem lV{P:Program}(w:World)(t ty e:TypeId)(i:TypeInfo)(ht:P.underlying t=some (.slice e))(hi:P.info? e=some i)(b:Option Addr)(n cap:Nat)(hn:n<=cap)(q:Option Addr)(c:Nat):
 (Builtin.append_ #[t,t] ty #[.slice b n cap,.slice q 0 c]).run P w=.ok (.slice b n cap) w:=by
 cases q with
 |none=>cases b<;>simp[Builtin.append_,run_underlying ht,sizeOf,typeInfo,hi,Builtin.lenOf,hn,Builtin.firstCells,storeCells]
 |some q=>cases b<;>simp[Builtin.append_,run_underlying ht,sizeOf,typeInfo,hi,Builtin.lenOf,hn,Builtin.firstCells,storeCells,loadCells,loadCellsFrom]
theorem nM{P:Program}(w:World)(t ty e:TypeId)(i:TypeInfo)(ht:P.underlying t=some (.slice e))(hi:P.info? e=some i)
 (c n cap:Nat) (T:TypeId) (arr:Array Value) (h:w.heap[c]?=some (.cells arr T (0,0))) (a:Addr) (m k:Nat) (news:List Value) (o:news.length=m*i.size) (b:∀(j:Nat) u,news[j]?=some u->w.cell? (a.add j)=some u) (h1:∀u∈news,u.oneCell'=true)
 (d:n+m<=cap) (f:n*i.size+news.length<=arr.size):
 (Builtin.append_ #[t,t] ty #[.slice (some ⟨c,0,none⟩) n cap,.slice (some a) m k]).run P w=.ok (.slice (some ⟨c,0,none⟩) (n+m) cap) (w.setRow c (splice arr.toList (n*i.size) news).toArray):=by
 have l:=run_firstCells_some (P:=P) w i.size m a m k news o b;have g:=run_storeCells_at P c (n*i.size) T news 0 arr w h (by simpa using f) h1;simp only[VE]at g;simp[Builtin.append_,run_underlying ht,sizeOf,typeInfo,hi,Builtin.lenOf,d,l,Addr.add_lit,g,splice]
def bM(P:Program)(t:TypeId):Option (Nat×Nat):=
 match P.underlying t with
 |some (.slice a)=>match P.info? a with
  |some i=>match i.zero with
   |some z=>if z.cells.size=i.size∧z.cells.toList.all (λu=>u.oneCell')=true then some (i.size,i.bytes)else none
   |none=>none
  |none=>none
 |_=>none
theorem qm{P:Program}{t:TypeId}{e b:Nat}(h:bM P t=some (e,b)):∃a i z,P.underlying t=some (.slice a)∧P.info? a=some i∧i.zero=some z∧i.size=e∧i.bytes=b∧z.cells.size=e∧∀u∈z.cells.toList,u.oneCell'=true:=by
 unfold bM at h;split at h
 case h_2=>cases h
 rename_i a c;split at h
 case h_2=>cases h
 rename_i i hi;split at h
 case h_2=>cases h
 rename_i z hz;split at h
 case isFalse=>cases h
 rename_i hs;cases h
 exact⟨a,i,z,c,hi,hz,rfl,rfl,hs.1,λu c=>TE.1 hs.2 u c⟩
theorem k8{P:Program}{g:Gh}{w:World}{t ty:TypeId}{e b:Nat}(hi:bM P t=some (e,b))(S:0<b){nw:Bool}{rows xr:List (List PV)}{v:Value}{o:Option Nat}(hB:g.B<=w.heap.size)
 (M:az g w (.own nw e rows) v o) {q:Option Addr} {k:Nat} {news:List Value} (hx:ay g e xr news) (s:xr=[]∨∃F:Addr,q=some F∧∀(j:Nat) u,news[j]?=some u->w.cell? (F.add j)=some u)
 (l:(rows.length+xr.length)*b<=140737488355328):
 ∃v' w' o',(Builtin.append_ #[t,t] ty #[v,.slice q xr.length k]).run P w=.ok v' w'∧bT w'=bT w∧w.heap.size<=w'.heap.size∧az g w' (.own nw e (rows++xr)) v' o'∧
  (∀c,c<w.heap.size->o'≠some c->w'.heap[c]?=w.heap[c]?)∧∀c,o'=some c->c<w'.heap.size∧(o=some c∨w.heap.size<=c):=by
 obtain⟨p,i,z,L,d,hz,rfl,rfl,ab,Z⟩:=qm hi;have aa:∀n,∀v∈(Builtin.zeroCells z.cells n).toList,v.oneCell'=true:=λn v M=>by
  simp only[Builtin.zeroCells,Wn,S8]at M;obtain⟨j,hj,rfl⟩:=M
  by_cases e:z.cells.size=0
  .rw[e]at hj;simp at hj
  .have K:j %z.cells.size<z.cells.size:=Nat.mod_lt _ (by omega);rw[Vq z.cells (j %z.cells.size) K];exact Z _ (Wx K)
 have x:news.length=xr.length*i.size:=hx.length;have ae:rows.length+xr.length<=140737488355328:=by
  have:(rows.length+xr.length)*1<=(rows.length+xr.length)*i.bytes:=XL _ S;omega
 have I:((rows.length+xr.length:Nat):Int)<=9223372036854775807:=by omega
 by_cases V:xr=[]
 .subst V;simp only[ay]at hx;rcases M with⟨rfl,rfl,rfl⟩|⟨c,rfl,cap,arr,T,vs,rfl,D,O,G,H,Q,R⟩
  .exact⟨_,w,none,lV w t ty p i L d none 0 0 (SY _) q k,rfl,SY _,.inl ⟨rfl,rfl,rfl⟩,λ_ _ _=>rfl,λc s=>by cases s⟩
  .refine⟨_,w,some c,lV w t ty p i L d _ _ cap G.1 q k,rfl,SY _,.inr ⟨c,rfl,cap,arr,T,vs,by simp,D,O,by simpa using G,by simpa using H,Q,R⟩,λ_ _ _=>rfl,λc' a=>?_⟩;cases a
   exact⟨(Td.1 D).1,.inl rfl⟩
 .have W:0<xr.length:=UG.2 V;rcases s with s|⟨F,rfl,f⟩
  .exact absurd s V
  have fresh:∀(m:List Value)(vs:List Value),ay g i.size rows vs->m=vs->∀cp,rows.length+xr.length<=cp->cp<=maxLen->
   az g (w.drew.alloc (.cells (m.toArray++news.toArray++Builtin.zeroCells z.cells (cp -(rows.length+xr.length))) p)) (.own nw i.size (rows++xr)) (.slice (some ⟨w.heap.size,0,none⟩) (rows.length+xr.length) cp) (some w.heap.size):=by
   intro m vs A ho cp U y;subst ho;have X:=A.length;refine .inr ⟨w.heap.size,rfl,cp,_,p,m++news,by rw[Ta],heap_alloc_new w.drew _,?_,⟨by rw[Ta];exact U,y,by simpa only[XM]using ft (ft A.one hx.one) (aa _)⟩,ay.append A hx,?_,λ_=>hB⟩
   .simp only[Wf,T8,size_zeroCells,ab,X,x,←WI];congr 1;omega
   .refine⟨(Builtin.zeroCells z.cells (cp -(rows.length+xr.length))).toList,by simp⟩
  have J:=grownCap_ge w (rows.length+xr.length);have y:=λold=>grownCap_le_maxLen w (rows.length+xr.length) old p (by unfold maxLen;omega);have keep:∀(ob:Obj)(c:Nat),c<w.heap.size->(w.drew.alloc ob).heap[c]?=w.heap[c]?:=λob c s=>heap_alloc_old w.drew ob s;rcases M with⟨rfl,rfl,rfl⟩|⟨c,rfl,cap,arr,T,vs,rfl,D,O,G,H,Q,R⟩
  .have A:=run_append_nil (P:=P) w t ty p i z L d hz F xr.length k news x f W (by simpa using I) (by simp only[List.length_nil,T4]at l;omega);have hf:=fresh [] [] rfl rfl (grownCap w xr.length 0 p) (by simpa using J 0 p) (by simpa using y 0);simp only[TI,Array.empty_append,List.length_nil,T4]at hf;refine⟨_,_,_,A,rfl,by simp,by simpa using hf,λc s _=>keep _ c s,λc s=>?_⟩;cases s
   exact⟨by simp,.inr (SY _)⟩
  .have N:=H.length
   by_cases h:rows.length+xr.length<=cap
   .have C:rows.length*i.size+news.length<=arr.size:=by rw[x,O,←WI];exact UT _ h
    have A:=nM (P:=P) w t ty p i L d c rows.length cap T arr D F xr.length k news x f hx.one h C;refine⟨_,w.setRow c (splice arr.toList (rows.length*i.size) news).toArray,some c,A,rfl,by simp,.inr ⟨c,rfl,cap,_,T,vs++news,by simp,setRow_heap w c arr _ T _ D,?_,⟨by simpa using h,G.2.1,su G.2.2 hx.one _⟩,ay.append H hx,?_,R⟩,λc' _ a=>setRow_other w c c' _ (λee=>a (by rw[ee])),λc' a=>?_⟩
    .simp only[T8];rw[bU (by simpa using C)];simpa using O
    .obtain⟨r,Y⟩:=Q;refine⟨arr.toList.drop (rows.length*i.size+news.length),?_⟩;simp only[splice];rw[←Y,←N,UY];rfl
    .cases a
     exact⟨by simp;exact(Td.1 D).1,.inl rfl⟩
   .have E:∀(j:Nat) u,vs[j]?=some u->w.cell? ((⟨c,0,none⟩:Addr).add j)=some u:=λj u hj=>by
     rw[Addr.add_lit,cell_of D,T4,←S4];exact gq Q hj
    have A:=run_append_grow (P:=P) w t ty p i z L d hz ⟨c,0,none⟩ rows.length cap vs N E F xr.length k news x f (by omega) I (growslice_fits (by omega) l);refine⟨_,_,_,A,rfl,by simp,fresh vs vs H rfl (grownCap w (rows.length+xr.length) cap p) (J cap p) (y cap),λc' a _=>keep _ c' a,λc' a=>?_⟩;cases a
    exact⟨by simp,.inr (SY _)⟩
theorem Bo{P:Program}{st:St}(o:Oper)(t:TypeId)(s x:Operand)(d e b:Nat)(p:Pos)(nw:Bool)(rows:List (List PV))(ho:o.op=.call {callee:=.builtin .append,args:=#[s,x],argTypes:=#[t,t]}) (hd:o.dst=some d)
 (hi:bM P t=some (e,b)) (n:0<b) (C:gc st s) (hs:mv st s=.al p) (hp:aa st p=.own nw e rows) (D:gc st x) (hx:i9 st e (mv st x))
 (f:(rows.length+(rowsOf st (mv st x)).length)*b<=140737488355328) {N:Nat} (L:d<N):
 ∀g a w,g.N=N->Sim g st a w->∃v w' g',(execOp a.eval o).run P w=.ok (.value v) w'∧g.to g'∧
  Sim g' ⟨(d,.own nw e (rows++rowsOf st (mv st x)))::aG (cX d) (setPos st p (.pv .bot)).t,(setPos st p (.pv .bot)).h⟩ (a.put o.dst v) w':=by
 intro g a w M h;obtain⟨bl,H⟩:=h.own;have i:(aa st p).isOwn=true:=by rw[hp];rfl
 obtain⟨_,has⟩:=aN h s C;rw[hs]at has;have m:=bn H i;rw[hp]at m;obtain⟨q,cap,news,F,z,r⟩:=gN h D hx;obtain⟨Q,w',R,O,u,E,y,G,l⟩:=k8 (ty:=o.type) (k:=cap) hi n h.B m z r f;refine⟨Q,w',g,?_,h.refl_to,?_⟩
 .simp only[execOp,ho,resolve,invoke,builtin,Wo,Tn,Vg,Sem.run_bind,Sem.run_pure,Result.andThen_ok,has i,F,O]
 .obtain⟨h1,J,j,_,_,K⟩:=h.drop H p;rw[hd];exact h1.putOwn j (M▸L) u E G y rfl (λc I=>⟨(l c I).1,(l c I).2.elim (λe=>K c e) (λA=>h1.fresh j A)⟩)
theorem append_nil{P:Program}{st:St}(o:Oper)(t:TypeId)(s x:Operand)(d e b:Nat)(u:Value)(ho:o.op=.call {callee:=.builtin .append,args:=#[s,x],argTypes:=#[t,t]}) (hd:o.dst=some d)
 (hi:bM P t=some (e,b)) (l:0<b) (z:gc st s) (hs:mv st s=.pv (.lit u)) (L:iu u=true) (A:gc st x) (hx:i9 st e (mv st x))
 (f:(rowsOf st (mv st x)).length*b<=140737488355328) {N:Nat} (I:d<N):
 ∀g a w,g.N=N->Sim g st a w->∃v w' g',(execOp a.eval o).run P w=.ok (.value v) w'∧g.to g'∧
  Sim g' ⟨(d,.own true e (rowsOf st (mv st x)))::aG (cX d) st.t,st.h⟩ (a.put o.dst v) w':=by
 intro g a w J h;obtain⟨bl,G⟩:=h.own;obtain⟨j,_⟩:=aN h s z;rw[hs]at j;have D:a.eval s=.slice none 0 0:=by have:=j.2;rw[gr L]at this;exact this
 obtain⟨q,cap,news,E,r,m⟩:=gN h A hx;obtain⟨M,w',O,K,n,C,p,F,i⟩:=k8 (ty:=o.type) (k:=cap) (nw:=true) (rows:=[]) (v:=.slice none 0 0) (o:=none) hi l h.B (.inl ⟨rfl,rfl,rfl⟩) r m (by simpa using f);refine⟨M,w',g,?_,h.refl_to,?_⟩
 .simp only[execOp,ho,resolve,invoke,builtin,Wo,Tn,Vg,Sem.run_bind,Sem.run_pure,Result.andThen_ok,D,E,K]
 .rw[hd];exact h.putOwn G (J▸I) n C F (by simpa using p) rfl (λc H=>⟨(i c H).1,(i c H).2.elim (λe=>by cases e) (λy=>h.fresh G y)⟩)
end Go.AX
namespace Go.AX
/-! ### Views -/
def uH(x:PV)(e n:Nat):PV:=
 match x with
 |.iptr _ [cells] 0 k=>if e=1∧k+n<=cells.length then .seq false 1 (((cells.drop k).take n).map λy=>[y])else .bot
 |_=>.bot
mutual
def la(r:Nat->Nat->PV):PV->PV
  |.bot=>.bot
  |.lit v=>.lit v
  |.agg xs=>.agg (eC r xs)
  |.tup xs=>.tup (eC r xs)
  |.seq _ e rows=>.seq false e (jN r rows)
  |.iptr e rows i k=>.iptr e (jN r rows) i k
  |.ptr b off=>r b off
  |.bsl b e off n _=>uH (r b off) e n
  |.fn f first cap=>.fn f (eC r first) (eC r cap)
  |.amap _ es=>.amap false (sF r es)
  |.ifc t x=>.ifc t (la r x)
def eC(r:Nat->Nat->PV):List PV->List PV
  |[]=>[]
  |x::xs=>la r x::eC r xs
def jN(r:Nat->Nat->PV):List (List PV)->List (List PV)
  |[]=>[]
  |x::xs=>eC r x::jN r xs
def sF(r:Nat->Nat->PV):List (Int×PV)->List (Int×PV)
  |[]=>[]
  |(k,x)::xs=>(k,la r x)::sF r xs
end
theorem db(r:Nat->Nat->PV):∀xs:List PV,eC r xs=xs.map (la r)
 |[]=>rfl
 |x::xs=>by simp[eC,db r xs]
theorem bP(r:Nat->Nat->PV):∀xs:List (List PV),jN r xs=xs.map (List.map (la r))
 |[]=>rfl
 |x::xs=>by simp[jN,bP r xs,db]
theorem yy(r:Nat->Nat->PV):∀xs:List (Int×PV),sF r xs=xs.map (λp=>(p.1,la r p.2))
 |[]=>rfl
 |(k,x)::xs=>by simp[sF,yy r xs]
def frzC(r:Nat->Nat->PV):SV->PV
 |.pv x=>la r x
 |.own _ e rows=>.seq false e (jN r rows)
 |.omap _ es=>.amap false (sF r es)
 |_=>.bot
def bA(h:List (List SV)):Nat->Nat->Nat->PV
 |0,_,_=>.bot
 |n+1,b,off=>.iptr (h.getD b []).length [(h.getD b []).map (frzC (bA h n))] 0 off
def du(w:World):Gh:={I:=λc=>w.heap[c]?,F:=λ_=>none,B:=w.heap.size,μ:=λ_=>0,n:=0,n0:=0,N:=0,env:=bT w}
theorem ak.rows1{g:Gh}:∀{xs:List PV}{vs:List Value},ak g xs vs->(∀v∈vs,v.oneCell'=true)->ay g 1 (xs.map λy=>[y]) vs
 |[],_,h,_=>h
 |x::xs,_,⟨v,r,h1,b,c⟩,ho=>by
  subst h1;exact⟨[v],r,rfl,⟨rfl,λu a=>ho u (by simp at a;simp[a])⟩,⟨v,[],rfl,b,rfl⟩,ak.rows1 c λu a=>ho u (Tl _ a)⟩
theorem K9{g:Gh}{x:PV}{e n cap:Nat}{q:Addr}(hx:Fit g x (.pointer (some q)))(m:n<=cap):Fit g (uH x e n) (.slice (some q) n cap):=by
 unfold uH;split
 .rename_i e' cells k;split
  .rename_i hk;obtain⟨c,off,arr,T,fz,vs,h1,i,⟨s,t,rfl,j,d,l⟩,f⟩:=hx;have b:t=[]:=l;subst b;rw[Ut]at f;have u:=d.length;have a:(((cells.drop k).take n).map λy=>[y]).length=n:=by simp;omega
   refine⟨_,cap,by rw[a],by rw[a];exact m,.inr ⟨c,off+k,arr,T,fz,(s.drop k).take n,?_,i,λh=>(by cases h),?_,?_⟩⟩
   .injection h1 with h1;rw[h1];simp
   .exact ak.rows1 ((d.drop k).take n) λv p=>j.2 v (U3 (TV p))
   .refine(Wm n _).trans ?_;rw[←Ui];obtain⟨r,o⟩:=f;rw[←o,Ua (by omega)];exact⟨r,rfl⟩
  .trivial
 .trivial
section
variable {g : Gh} {w : World} {r : Nat -> Nat -> PV}
mutual
theorem Fit.frz(hI:∀c o,g.I c=some o->w.heap[c]?=some o)(hr:∀b off,b<g.n->Fit (du w) (r b off) (.pointer (some ⟨g.μ b,off,none⟩))):
    ∀(x:PV)(v:Value),Fit g x v->Fit (du w) (la r x) v
  |.bot,_,_=>trivial
  |.lit _,_,h=>h
  |.agg xs,v,⟨vs,h1,h2⟩=>⟨vs,h1,ak.frz hI hr xs _ h2⟩
  |.tup xs,v,⟨vs,h1,h2⟩=>⟨vs,h1,ak.frz hI hr xs _ h2⟩
  |.seq nw e rows,v,⟨p,cap,h1,hc,h2⟩=>⟨p,cap,by rw[h1,bP,S7],by rw[bP,S7];exact hc,h2.imp (λh=>by rw[h];rfl)
      λ⟨c,off,arr,T,fz,vs,a,b,_,q1,q2⟩=>⟨c,off,arr,T,fz,vs,a,hI _ _ b,λhn=>(by cases hn),ay.frz hI hr e rows vs q1,q2⟩⟩
  |.iptr e rows i k,v,⟨c,off,arr,T,fz,vs,a,b,q1,q2⟩=>⟨c,off,arr,T,fz,vs,a,hI _ _ b,ay.frz hI hr e rows vs q1,q2⟩
  |.ptr b off,v,⟨h1,h2⟩=>by rw[h2];exact hr b off h1
  |.bsl b e off n cap,v,⟨h1,h2,h3⟩=>by rw[h3];exact K9 (hr b off h1) h2
  |.fn f first cap,v,⟨a,b,h1,h2,h3⟩=>⟨a,b,h1,ak.frz hI hr first _ h2,ak.frz hI hr cap _ h3⟩
  |.amap nw es,v,⟨c,en,ck,a,b,_,q⟩=>⟨c,en,ck,a,hI _ _ b,λhn=>(by cases hn),bD.frz hI hr es _ q.1,q.2⟩
  |.ifc t x,v,⟨y,h1,h2⟩=>⟨y,h1,Fit.frz hI hr x y h2⟩
theorem ak.frz(hI:∀c o,g.I c=some o->w.heap[c]?=some o)(hr:∀b off,b<g.n->Fit (du w) (r b off) (.pointer (some ⟨g.μ b,off,none⟩))):
    ∀(xs:List PV)(vs:List Value),ak g xs vs->ak (du w) (eC r xs) vs
  |[],_,h=>h
  |x::xs,vs,⟨v,r',h1,h2,h3⟩=>⟨v,r',h1,Fit.frz hI hr x v h2,ak.frz hI hr xs r' h3⟩
theorem ay.frz(hI:∀c o,g.I c=some o->w.heap[c]?=some o)(hr:∀b off,b<g.n->Fit (du w) (r b off) (.pointer (some ⟨g.μ b,off,none⟩)))(e:Nat):
    ∀(rows:List (List PV))(vs:List Value),ay g e rows vs->ay (du w) e (jN r rows) vs
  |[],_,h=>h
  |row::rows,vs,⟨v1,v2,h1,h2,h3,h4⟩=>⟨v1,v2,h1,⟨by rw[db,S7];exact h2.1,h2.2⟩,ak.frz hI hr row v1 h3,ay.frz hI hr e rows v2 h4⟩
theorem bD.frz(hI:∀c o,g.I c=some o->w.heap[c]?=some o)(hr:∀b off,b<g.n->Fit (du w) (r b off) (.pointer (some ⟨g.μ b,off,none⟩))):
    ∀(es:List (Int×PV))(en:List MapEntry),bD g es en->bD (du w) (sF r es) en
  |[],_,h=>h
  |(k,x)::es,en,⟨m,r',h1,h2,h3,h4⟩=>⟨m,r',h1,h2,Fit.frz hI hr x m.val h3,bD.frz hI hr es r' h4⟩
end
end
theorem az.frz{g:Gh}{w:World}{r:Nat->Nat->PV}(f:∀c o,g.I c=some o->w.heap[c]?=some o)(i:∀b off,b<g.n->Fit (du w) (r b off) (.pointer (some ⟨g.μ b,off,none⟩)))
 {x:SV} {v:Value} {b:Option Nat} (h:az g w x v b) (m:x.inCell=true):Fit (du w) (frzC r x) v:=by
 cases x with
 |pv y=>exact Fit.frz f i y v h.2
 |own nw e rows=>
  rcases h with⟨_,rfl,rfl⟩|⟨c,_,cap,arr,T,vs,rfl,a,j,d,k,l,p⟩
  .exact⟨none,0,rfl,SY _,.inl rfl⟩
  .exact⟨_,cap,by rw[bP,S7],by rw[bP,S7];exact d.1,.inr ⟨c,0,arr,T,(0,0),vs,rfl,a,λhn=>(by cases hn),ay.frz f i e rows vs k,by simpa using l⟩⟩
 |omap nw es=>
  obtain⟨c,_,en,ck,rfl,a,j,d⟩:=h;exact⟨c,en,ck,rfl,a,λhn=>(by cases hn),bD.frz f i es _ j,d.2⟩
 |_=>cases m
theorem lc{g:Gh}{st:St}{a:Act}{w:World}(h:Sim g st a w):∀(n b off:Nat),b<g.n->Fit (du w) (bA st.h n b off) (.pointer (some ⟨g.μ b,off,none⟩))
 |0,_,_,_=>trivial
 |n+1,b,off,t=>by
  obtain⟨bl,l⟩:=h.own;have z:b<st.h.length:=h.n▸t;have k:st.h[b]?=some (st.h.getD b []):=by simp[List.getD,SR z]
  obtain⟨arr,T,h1,⟨o,i⟩,p⟩:=l.blocks b _ k;have B:=λb' f=>lc h n b' f;simp only[bA];generalize st.h.getD b []=xs at*;have key:∀(ys:List SV)(c:List Value),ys.length=c.length->(∀(j:Nat)(x:SV)(u:Value),ys[j]?=some x->c[j]?=some u->x.inCell=true∧∃b':Option Nat,az g w x u b')->ak (du w) (ys.map (frzC (bA st.h n))) c:=by
   intro ys
   induction ys with
   |nil=>intro c d _;cases c with
    |nil=>rfl
    |cons _ _=>simp at d
   |cons y ys m=>
    intro c d hs;cases c with
    |nil=>simp at d
    |cons u c=>
     obtain⟨q,b',r⟩:=hs 0 y u rfl rfl;exact⟨u,c,rfl,az.frz h.I B r q,m c (by simpa using d) (λj x v hx A=>hs (j+1) x v (by simpa using hx) (by simpa using A))⟩
  have s := key xs arr.toList (by simpa using o.symm) (λ j x u hx d => by
   have:=p j x hx;refine⟨this.1,bl (.cell b j),?_⟩;have e:arr.getD j undef=u:=by rw[S4]at d;simp[Tg,d]
   rw[←e];exact this.2)
  refine⟨g.μ b,0,arr,T,(0,0),arr.toList,by simp,h1,⟨arr.toList,[],by simp,⟨by simp,i⟩,s,rfl⟩,by simp⟩
def vw(n:Nat)(st:St)(x:Operand):PV:=
 match mv st x with
 |.pv y=>la (bA st.h n) y
 |.al p=>frzC (bA st.h n) (aa st p)
 |.loc p lo hi=>match aa st p with
  |.own _ e rows=>.seq false e (jN (bA st.h n) ((rows.take hi).drop lo))
  |_=>.bot
 |_=>.bot
def La(st:St)(x:Operand):Prop:=
 gc st x∧match mv st x with
 |.al p=>(aa st p).isOwn=true
 |_=>True
theorem M0{g:Gh}{st:St}{a:Act}{w:World}(h:Sim g st a w)(n:Nat)(x:Operand)(hd:La st x):Fit (du w) (vw n st x) (a.eval x):=by
 obtain⟨A,hd⟩:=hd;obtain⟨s,j⟩:=aN h x A;have l:=lc h n;obtain⟨bl,r⟩:=h.own;unfold vw;split
 .rename_i y f;rw[f]at s;exact Fit.frz h.I l y _ s.2
 .rename_i p f;rw[f]at j hd;rw[j hd];exact az.frz h.I l (bn r hd) (by cases hp:aa st p<;>simp only[hp]at hd<;>first|rfl|cases hd)
 .rename_i p lo hi f;rw[f]at j;split
  .rename_i nw e rows hp;obtain⟨C,t,q,cap,B,jc,k⟩:=j _ _ _ hp;have b:=bn r (p:=p) (by rw[hp];rfl);rw[hp]at b;refine⟨q,cap,by rw[B,bP,S7,TN,S6];congr 1;omega,by rw[bP];simp;omega,?_⟩
   by_cases d:lo=hi
   .left;subst d;rw[bP];simp
   .right;rcases k with k|⟨c,G,cp,i,rfl⟩
    .exact absurd k d
    .rcases b with⟨_,rfl,o⟩|⟨c',_,m,arr,T,vs,o,u,D,E,v,z,F⟩
     .simp at t;omega
     .rw[o]at i;cases i;refine⟨_,lo*e,arr,T,(0,0),(vs.take (hi*e)).drop (lo*e),rfl,u,λhn=>(by cases hn),ay.frz h.I l e _ _ (v.cut lo hi C t),iH z _ _⟩
  .trivial
 .trivial
/-! ### Values that lie in new memory -/
mutual
def PV.nw:PV->Prop
  |.bot=>True
  |.lit _=>True
  |.agg xs=>Lb xs
  |.tup xs=>Lb xs
  |.seq n _ rows=>(rows=[]∨n=true)∧Bp rows
  |.iptr _ _ _ _=>False
  |.ptr _ _=>False
  |.bsl _ _ _ _ _=>False
  |.fn _ first cap=>Lb first∧Lb cap
  |.amap n es=>n=true∧Lc es
  |.ifc _ x=>x.nw
def Lb:List PV->Prop
  |[]=>True
  |x::xs=>x.nw∧Lb xs
def Bp:List (List PV)->Prop
  |[]=>True
  |x::xs=>Lb x∧Bp xs
def Lc:List (Int×PV)->Prop
  |[]=>True
  |(_,x)::xs=>x.nw∧Lc xs
end
theorem rT:∀xs:List (List PV),Bp xs↔∀r∈xs,Lb r
 |[]=>by simp[Bp]
 |x::xs=>by simp[Bp,rT xs]
theorem Du:∀xs:List (Int×PV),Lc xs↔∀r∈xs,r.2.nw
 |[]=>by simp[Lc]
 |(k,x)::xs=>by simp[Lc,Du xs]
section
variable {g g2 : Gh}
mutual
theorem Fit.new(hI:∀c o,g.I c=some o->g.B<=c->g2.I c=some o)(hB:g2.B<=g.B):∀(x:PV)(v:Value),x.nw->Fit g x v->Fit g2 x v
  |.bot,_,_,_=>trivial
  |.lit _,_,_,h=>h
  |.agg xs,v,hn,⟨vs,h1,h2⟩=>⟨vs,h1,ak.new hI hB xs _ hn h2⟩
  |.tup xs,v,hn,⟨vs,h1,h2⟩=>⟨vs,h1,ak.new hI hB xs _ hn h2⟩
  |.seq nw e rows,v,⟨hn1,hn2⟩,⟨p,cap,h1,hc,h2⟩=>⟨p,cap,h1,hc,hn1.elim .inl λhnw=>h2.imp id
      λ⟨c,off,arr,T,fz,vs,a,b,n,q1,q2⟩=>⟨c,off,arr,T,fz,vs,a,hI _ _ b (n hnw),λhn=>TD hB (n hn),ay.new hI hB e rows vs hn2 q1,q2⟩⟩
  |.iptr _ _ _ _,_,hn,_=>hn.elim
  |.ptr _ _,_,hn,_=>hn.elim
  |.bsl _ _ _ _ _,_,hn,_=>hn.elim
  |.fn f first cap,v,⟨n1,n2⟩,⟨a,b,h1,h2,h3⟩=>⟨a,b,h1,ak.new hI hB first _ n1 h2,ak.new hI hB cap _ n2 h3⟩
  |.amap nw es,v,⟨hn1,hn2⟩,⟨c,en,ck,a,b,n,q⟩=>⟨c,en,ck,a,hI _ _ b (n hn1),λhn=>TD hB (n hn),bD.new hI hB es _ hn2 q.1,q.2⟩
  |.ifc t x,v,hn,⟨y,h1,h2⟩=>⟨y,h1,Fit.new hI hB x y hn h2⟩
theorem ak.new(hI:∀c o,g.I c=some o->g.B<=c->g2.I c=some o)(hB:g2.B<=g.B):∀(xs:List PV)(vs:List Value),Lb xs->ak g xs vs->ak g2 xs vs
  |[],_,_,h=>h
  |x::xs,vs,⟨n1,n2⟩,⟨v,r',h1,h2,h3⟩=>⟨v,r',h1,Fit.new hI hB x v n1 h2,ak.new hI hB xs r' n2 h3⟩
theorem ay.new(hI:∀c o,g.I c=some o->g.B<=c->g2.I c=some o)(hB:g2.B<=g.B)(e:Nat):∀(rows:List (List PV))(vs:List Value),Bp rows->ay g e rows vs->ay g2 e rows vs
  |[],_,_,h=>h
  |row::rows,vs,⟨n1,n2⟩,⟨v1,v2,h1,h2,h3,h4⟩=>⟨v1,v2,h1,h2,ak.new hI hB row v1 n1 h3,ay.new hI hB e rows v2 n2 h4⟩
theorem bD.new(hI:∀c o,g.I c=some o->g.B<=c->g2.I c=some o)(hB:g2.B<=g.B):∀(es:List (Int×PV))(en:List MapEntry),Lc es->bD g es en->bD g2 es en
  |[],_,_,h=>h
  |(k,x)::es,en,⟨n1,n2⟩,⟨m,r',h1,h2,h3,h4⟩=>⟨m,r',h1,h2,Fit.new hI hB x m.val n1 h3,bD.new hI hB es r' n2 h4⟩
end
end
end Go.AX