/-
  AX, part A: what a state of a walk is, said of plain data; what it says of the machine's state; and what follows.
-/
import Derived.WalkKit
import Derived.MapKept
import Derived.ChangeKeysEq
import Derived.WalkSpells
namespace Go.AX
set_option linter.defProp false
def Vp:=@List.getElem?_eq_some_iff
def Vq:=@List.getElem?_eq_getElem
def Vr:=@List.getD_eq_getElem?_getD
def Vs:=@if_neg
def Vt:=@if_pos
def Vu:=@Nat.le_refl
def Vv:=@List.getElem?_append_left
def Vw:=@Array.getElem?_toList
def Vx:=@List.getElem_mem
def Vy:=@List.length_take
def Vz:=@List.length_append
def VA:=@List.length_map
def VB:=@List.mem_map
def VC:=@Bool.and_eq_true
def VD:=@Array.getElem?_eq_some_iff
def VE:=@List.getElem_of_mem
def VF:=@List.mem_append
def VG:=@List.mem_cons_of_mem
def VH:=@Nat.zero_le
def VI:=@decide_eq_true_eq
def VJ:=@Array.getD_eq_getD_getElem?
def VK:=@Array.getElem?_eq_getElem
def VL:=@List.getElem?_set_ne
def VM:=@List.getElem?_append_right
def VN:=@List.mem_cons_self
def VO:=@List.getElem?_map
def VP:=@List.map_cons
def VQ:=@List.length_set
def VR:=@List.length_cons
def VS:=@List.drop_eq_nil_of_le
def VT:=@List.take_of_length_le
def VU:=@List.mem_cons
def VV:=@List.append_assoc
def VW:=@Option.map_eq_some_iff
def VX:=@List.take_length
def VY:=@List.mem_singleton
def VZ:=@List.getElem?_set_self
def V0:=@Classical.byContradiction
def V1:=@List.map_append
def V2:=@List.getElem?_set
def V3:=@List.drop_eq_getElem_cons
def V4:=@List.getElem?_eq_none
def V5:=@List.pairwise_iff_getElem
def V6:=@List.getElem_append_left
def V7:=@Option.getD_some
def V8:=@List.nil_append
def V9:=@List.mem_filter
def Wa:=@List.all_eq_true
def Wb:=@Nat.le_trans
def Wc:=@Option.some.injEq
def Wd:=@List.take_append_of_le_length
def We:=@Bool.false_eq_true
def Wf:=@List.length_drop
def Wg:=@List.getElem?_take
def Wh:=@List.cons_append
def Wi:=@List.length_singleton
def Wj:=@List.take_add_one
def Wk:=@List.getElem?_drop
def Wl:=@List.filter_cons
def Wm:=@Array.length_toList
def Wn:=@List.mem_of_mem_take
def Wo:=@List.map_map
def Wp:=@Bool.not_eq_true'
def Wq:=@Option.map_some
def Wr:=@Nat.zero_add
def Ws:=@List.take_succ_eq_append_getElem
def Wu:=@List.getElem?_cons_zero
def Wv:=@List.ext_getElem?
def Ww:=@List.size_toArray
def Wx:=@List.drop_drop
def Wy:=@Array.getElem?_setIfInBounds
def Wz:=@List.take_append_drop
def WA:=@List.length_eq_zero_iff
def WB:=@List.drop_append_of_le_length
def WC:=@Nat.le_of_ble_eq_true
def WD:=@List.length_mergeSort
def WE:=@List.getElem_take
def WF:=@List.append_nil
def WG:=@List.mem_append_left
def WH:=@Int.toNat_natCast
def WI:=@Bool.or_eq_true
def WJ:=@List.length_pos_iff
def WK:=@Nat.lt_of_lt_of_le
def WL:=@Nat.min_eq_left
def WM:=@if_false
def WN:=@List.mem_range
def WO:=@List.mem_take_iff_getElem
def WP:=@decide_eq_true
def WQ:=@List.mem_of_getElem?
def WR:=@List.length_filter_le
def WT:=@List.filter_append
def WU:=@List.filter_eq_self
def WV:=@List.mem_map_of_mem
def WW:=@Array.ext'
def WX:=@decide_eq_false_iff_not
def WY:=@Int.eq_ofNat_of_zero_le
def WZ:=@Array.getElem?_modify
def W5:=@Nat.le_of_not_lt
def W6:=@Option.toList_some
def W7:=@decide_eq_false
def W8:=@Prod.mk.injEq
def W9:=@Array.getElem?_eq_none
def Xa:=@List.filter_eq_nil_iff
def Xb:=@Array.getElem?_replicate
def Xc:=@Nat.mul_le_mul_right
def Xd:=@Nat.lt_trichotomy
def Xe:=@List.pairwise_map
def Xf:=@Nat.add_assoc
def Xg:=@List.map_nil
def Xh:=@List.mem_iff_getElem?
def Xi:=@List.mem_append_right
def Xj:=@List.nodup_cons
def Xk:=@List.findIdx?_eq_some_iff_getElem
def Xl:=@if_true
def Xm:=@Nat.succ_mul
def Xn:=@List.map_take
def Xo:=@List.any_eq_false
def Xp:=@congrArg
def Xq:=@List.map_replicate
def Xr:=@Nat.sub_self
def Xs:=@List.set_getElem_self
def Xt:=@Nat.le_succ
def Xu:=@List.mergeSort_perm
def Xv:=@List.getD_cons_zero
def Xw:=@List.take_left'
def Xx:=@List.eq_nil_of_length_eq_zero
def Xy:=@Array.size_modify
def Xz:=@List.getElem_append_right
def XA:=@List.mem_or_eq_of_mem_set
def XB:=@List.mem_of_mem_drop
def XC:=@List.set_eq_take_append_cons_drop
def XD:=@Nat.not_lt_zero
def XE:=@List.map_congr_left
def XF:=@Int.le_refl
def XG:=@List.set_append_right
def XI:=@Int.neg_neg
def XJ:=@Bool.false_and
def XK:=@List.getElem?_cons_succ
def XL:=@Nat.add_sub_cancel_left
def XM:=@Array.getElem?_append_left
def XN:=@Array.toArray_toList
def XO:=@List.set_append_left
def XP:=@List.pairwise_cons
def XQ:=@List.length_eq_one_iff
def XR:=@List.cons.injEq
def XS:=@List.any_eq_true
def XT:=@List.getD_cons_succ
def XU:=@List.flatMap_append
def XV:=@Option.isSome_iff_exists
def XW:=@getElem!_pos
def XY:=@List.getElem?_take_of_lt
def XZ:=@List.take_sublist
def X0:=@Option.map_none
def Ya:=@List.drop_length_add_append
def Yb:=@Option.some.inj
def Yd:=@Bool.true_and
def Ye:=@Nat.add_zero
def Yf:=@List.getElem_cons_zero
def Yg:=@Ne.symm
def Yh:=@List.drop_set_of_lt
def Yi:=@List.flatMap_cons
def Yj:=@List.map_drop
def Yk:=@List.findIdx?_eq_none_iff
def Yl:=@List.foldl_cons
def Ym:=@List.length_replicate
def Yn:=@List.eq_of_mem_replicate
def Yo:=@Nat.add_sub_cancel
def Yp:=@Nat.eq_zero_or_pos
def Yq:=@List.ext_getElem
def Yr:=@Option.bind_some
def Ys:=@List.not_mem_nil
def Yt:=@List.pairwise_append
def Yu:=@List.flatten_cons
def Yv:=@List.replicate_succ
def Yw:=@List.take_set_of_le
def Yx:=@List.filter_sublist
def Yy:=@Nat.lt_of_not_le
def Yz:=@Nat.lt_succ_self
def YA:=@Bool.not_eq_true
def YB:=@List.countP_cons
def YC:=@decide_eq_true_iff
def YD:=@List.set_set
def YE:=@List.contains_iff_mem
def YF:=@List.getElem_set_self
def YG:=@Bool.or_eq_false_iff
def YH:=@Array.replicate_succ
def YI:=@Array.replicate_zero
def YJ:=@Array.getElem_mem_toList
def YK:=@Array.size_append
def YL:=@Function.comp_def
def YM:=@List.take_append_getElem
def YN:=@List.nodup_append
def YO:=@List.eq_nil_iff_forall_not_mem
def YP:=@Nat.ne_of_gt
def YQ:=@Bool.false_or
def YR:=@List.append_toArray
def YS:=@List.pairwise_mergeSort
def YT:=@Array.toList_map
def YU:=@List.map_toArray
def YV:=@List.mem_eraseIdx_iff_getElem
def YW:=@List.drop_zero
def YX:=@List.Perm.refl
def YY:=@List.getElem_cons_succ
def YZ:=@Nat.zero_mul
def Y0:=@List.take_length_add_append
def Y1:=@Array.getElem?_append
def Y3:=@Nat.zero_lt_one
def Y4:=@Array.getElem?_mapIdx
def Y5:=@List.range_succ
def Y6:=@List.push_toArray
def Y7:=@List.foldl_append
def Y8:=@Nat.lt_succ_of_lt
def Y9:=@Array.toList_setIfInBounds
def Za:=@Int.tdiv_eq_ediv_of_nonneg
def Zb:=@List.take_zero
def Zc:=@List.mem_drop_iff_getElem
def Zd:=@beq_self_eq_true
def Ze:=@List.take_prefix
def Zf:=@List.map_reverse
def Zg:=@List.mem_reverse
def Zh:=@Nat.mul_one
def Zi:=@List.flatten_append
def Zj:=@List.map_eq_nil_iff
def Zk:=@List.toList_toArray
def Zl:=@List.getElem_set_ne
def Zm:=@List.take_succ_cons
def Zn:=@List.map_set
def Zo:=@Int.lt_or_le
def Zp:=@List.drop_left'
def Zq:=@Nat.le_mul_of_pos_right
def Zr:=@List.set_cons_zero
def Zs:=@List.filter_nil
def Zt:=@Array.all_eq_true_iff_forall_mem
def Zu:=@Int.not_lt
def Zv:=@beq_iff_eq
def Zw:=@Nat.add_mul
def Zx:=@Array.getElem?_setIfInBounds_ne
def Zy:=@of_decide_eq_true
def Zz:=@Nat.add_comm
def ZA:=@List.getElem?_toArray
def ZB:=@Nat.sub_zero
def ZC:=@List.getElem_map
def ZD:=@Nat.mod_eq_of_lt
def ZE:=@List.map_flatten
def ZF:=@Nat.min_le_right
def ZG:=@List.drop_append
def ZH:=@List.prefix_refl
def ZI:=@Array.mem_toList_iff
def ZJ:=@Bool.or_false
def ZK:=@Int.toNat_of_nonneg
def ZL:=@Nat.mul_le_mul_left
def ZM:=@Array.toList_append
def ZN:=@List.countP_pos_iff
def ZO:=@List.countP_eq_zero
def ZP:=@Nat.ne_of_lt
def ZQ:=@List.getElem_range
def ZR:=@Bool.true_or
def ZS:=@Bool.or_true
def ZT:=@List.ne_nil_of_mem
def ZU:=@List.getLastD_eq_getLast?
def ZV:=@List.exists_mem_of_ne_nil
def ZW:=@List.set_eq_of_length_le
def ZX:=@List.Perm.eq_of_pairwise
def ZY:=@List.Sublist.refl
def ZZ:=@Classical.not_not
def Z0:=@List.length_range
def Z1:=@List.filter_congr
def Z2:=@List.getElem?_replicate
def Z3:=@List.isEmpty_iff
def Z4:=@List.flatMap_nil
def Z5:=@decide_eq_decide
def Z6:=@List.getElem_set
def Z7:=@List.sum_replicate_nat
def Z8:=@List.drop_of_length_le
def aaa:=@Bool.eq_iff_iff
def aab:=@Classical.choose_spec
def aac:=@not_or
def aad:=@Nat.le_antisymm
def aae:=@List.countP_eq_length
def aaf:=@List.pairwise_and_iff
def aag:=@Array.toList_extract
def aah:=@List.replicate_succ'
def aai:=@List.mem_iff_getElem
def aaj:=@List.dropLast_subset
def aak:=@List.Pairwise.filter
def aal:=@List.take_take
def aam:=@Bool.not_false
def aan:=@List.nodup_nil
def aao:=@List.getElem?_range
def aap:=@List.length_flatten
def aaq:=@List.filterMap_cons
def aar:=@Bool.not_true
def aas:=@Nat.mod_lt
def aat:=@Nat.lt_or_ge
def aau:=@Nat.pow_succ
def aav:=@true_and
def aaw:=@and_true
def aax:=@List.map_id
def aay:=@Nat.one_mul
def aaz:=@Prod.mk.inj
abbrev dV:=List (Int×List Int)
abbrev aS:=List (Int×Int)
abbrev cg:=List (Int×Nat)
abbrev aG:=List Value
abbrev au:=List (List Int)
abbrev af:=List Int
abbrev bJ:=List Nat
abbrev dC:=List Bool
abbrev aa:=Program
abbrev ab:=World
abbrev ae:=Operand
abbrev ah:=TypeId
abbrev az:=FuncId
abbrev ai:=Oper
abbrev ce:=IntKind
abbrev an:=Value
def bK:=@Result.andThen_ok
def bD:=@Sem.run_bind
def bN:=@Sem.run_pure
def cq:=@run_underlying
def gW:=@Addr.add_lit
inductive PV where
  |bot
  |lit (v:an)
  |agg (xs:List PV)
  |tup (xs:List PV)
  |seq (nw:Bool) (e:Nat) (rows:List (List PV))
  |iptr (e:Nat) (rows:List (List PV)) (i k:Nat)
  |ptr (b off:Nat)
  |bsl (b e off n cap:Nat)
  |fn (f:Fn) (first cap:List PV)
  |amap (nw:Bool) (es:List (Int×PV))
  |ifc (t:ah) (x:PV)
inductive Pos where
  |slot (s:Nat)
  |cell (b k:Nat)
  deriving DecidableEq
inductive SV where
  |pv (x:PV)
  |own (nw:Bool) (e:Nat) (rows:List (List PV))
  |omap (nw:Bool) (es:List (Int×PV))
  |al (p:Pos)
  |loc (p:Pos) (lo hi:Nat)
  |sptr (p:Pos) (i k:Nat)
  |agl (xs:List (PV×Option Pos))
  |opt (c:Prop) (x:SV)
structure St where
  t:List (Nat×SV)
  h:List (List SV)
def cH(w:ab):Os×(Nat->Question->Nat)×Array (Nat×ByteArray):=(w.os,w.tape,w.output)
structure Gh where
  I:Nat->Option Obj
  F:Nat->Option Obj
  B:Nat
  μ:Nat->Nat
  n:Nat
  n0:Nat
  N:Nat
  env:Os×(Nat->Question->Nat)×Array (Nat×ByteArray)
mutual
def Fit(g:Gh):PV->an->Prop
  |.bot,_=>True
  |.lit x,v=>v=x
  |.agg xs,v=>∃vs:Array an,v=.agg vs∧ax g xs vs.toList
  |.tup xs,v=>∃vs:Array an,v=.tuple vs∧ax g xs vs.toList
  |.seq nw e rows,v=>∃p cap,v=.slice p rows.length cap∧rows.length<=cap∧(rows=[]∨∃c off arr T fz vs,p=some ⟨c,off,none⟩∧g.I c=some (.cells arr T fz)∧(nw=true->g.B<=c)∧aK g e rows vs∧vs<+:arr.toList.drop off)
  |.iptr e rows i k,v=>∃c off arr T fz vs,v=.pointer (some ⟨c,off+i*e+k,none⟩)∧g.I c=some (.cells arr T fz)∧aK g e rows vs∧vs<+:arr.toList.drop off
  |.ptr b off,v=>b<g.n∧v=.pointer (some ⟨g.μ b,off,none⟩)
  |.bsl b _ off n cap,v=>b<g.n∧n<=cap∧v=.slice (some ⟨g.μ b,off,none⟩) n cap
  |.fn f first cap,v=>∃a b:Array an,v=.func f a b∧ax g first a.toList∧ax g cap b.toList
  |.amap nw es,v=>∃r entries clock,v=.map (some r)∧g.I r=some (.map entries clock)∧(nw=true->g.B<=r)∧cu g es entries.toList∧MapKept.Stamped entries clock
  |.ifc t x,v=>∃y,v=.iface t y∧Fit g x y
def ax(g:Gh):List PV->aG->Prop
  |[],vs=>vs=[]
  |x::xs,vs=>∃v r,vs=v::r∧Fit g x v∧ax g xs r
def aK(g:Gh)(e:Nat):List (List PV)->aG->Prop
  |[],vs=>vs=[]
  |row::rows,vs=>∃v1 v2,vs=v1++v2∧(row.length=e∧∀v∈v1,v.oneCell'=true)∧ax g row v1∧aK g e rows v2
def cu(g:Gh):List (Int×PV)->List MapEntry->Prop
  |[],es=>es=[]
  |(k,x)::xs,es=>∃m r,es=m::r∧m.key=.int .i64 k∧Fit g x m.val∧cu g xs r
end
structure Gh.le (g g':Gh):Prop where
  I:∀c o,g.I c=some o->g'.I c=some o
  B:g'.B<=g.B
  n:g.n<=g'.n
  μ:∀b,b<g.n->g'.μ b=g.μ b
theorem Gh.le.refl(g:Gh):g.le g:=⟨λ_ _ h=>h,Vu _,Vu _,λ_ _=>rfl⟩
mutual
theorem Fit.mono{g g':Gh}(hl:g.le g'):∀(x:PV)(v:an),Fit g x v->Fit g' x v
  |.bot,_,_=>trivial
  |.lit _,_,h=>h
  |.agg xs,v,⟨vs,h1,h2⟩=>⟨vs,h1,ax.mono hl xs _ h2⟩
  |.tup xs,v,⟨vs,h1,h2⟩=>⟨vs,h1,ax.mono hl xs _ h2⟩
  |.seq nw e rows,v,⟨p,cap,h1,hc,h2⟩=>⟨p,cap,h1,hc,h2.imp id λ⟨c,off,arr,T,fz,vs,a,b,n,r,q⟩=>⟨c,off,arr,T,fz,vs,a,hl.I _ _ b,λhn=>Wb hl.B (n hn),aK.mono hl e rows vs r,q⟩⟩
  |.iptr e rows i k,v,⟨c,off,arr,T,fz,vs,a,b,r,q⟩=>⟨c,off,arr,T,fz,vs,a,hl.I _ _ b,aK.mono hl e rows vs r,q⟩
  |.ptr b off,v,⟨h1,h2⟩=>⟨WK h1 hl.n,by rw[hl.μ b h1];exact h2⟩
  |.bsl b _ off _ _,v,⟨h1,h2⟩=>⟨WK h1 hl.n,by rw[hl.μ b h1];exact h2⟩
  |.fn f first cap,v,⟨a,b,h1,h2,h3⟩=>⟨a,b,h1,ax.mono hl first _ h2,ax.mono hl cap _ h3⟩
  |.amap nw es,v,⟨r,en,ck,a,b,n,q⟩=>⟨r,en,ck,a,hl.I _ _ b,λhn=>Wb hl.B (n hn),cu.mono hl es _ q.1,q.2⟩
  |.ifc t x,v,⟨y,h1,h2⟩=>⟨y,h1,Fit.mono hl x y h2⟩
theorem ax.mono{g g':Gh}(hl:g.le g'):∀(xs:List PV)(vs:aG),ax g xs vs->ax g' xs vs
  |[],_,h=>h
  |x::xs,vs,⟨v,r,h1,h2,h3⟩=>⟨v,r,h1,Fit.mono hl x v h2,ax.mono hl xs r h3⟩
theorem aK.mono{g g':Gh}(hl:g.le g')(e:Nat):∀(rows:List (List PV))(vs:aG),aK g e rows vs->aK g' e rows vs
  |[],_,h=>h
  |row::rows,vs,⟨v1,v2,h1,h2,h3,h4⟩=>⟨v1,v2,h1,h2,ax.mono hl row v1 h3,aK.mono hl e rows v2 h4⟩
theorem cu.mono{g g':Gh}(hl:g.le g'):∀(es:List (Int×PV))(en:List MapEntry),cu g es en->cu g' es en
  |[],_,h=>h
  |(k,x)::es,en,⟨m,r,h1,h2,h3,h4⟩=>⟨m,r,h1,h2,Fit.mono hl x m.val h3,cu.mono hl es r h4⟩
end
theorem ax.length{g:Gh}:∀{xs:List PV}{vs:aG},ax g xs vs->vs.length=xs.length
 |[],_,h=>by simp only[ax]at h;simp[h]
 |_::_,_,⟨_,_,h1,_,a⟩=>by simp[h1,ax.length a]
theorem ax.get{g:Gh}:∀{xs:List PV}{vs:aG}(_:ax g xs vs)(i:Nat)(x:PV),xs[i]?=some x->∃v,vs[i]?=some v∧Fit g x v
 |[],_,_,i,x,h=>by simp at h
 |y::xs,_,⟨v,r,h1,a,b⟩,0,x,h=>by simp at h;subst h;exact⟨v,by simp[h1],a⟩
 |y::xs,_,⟨v,r,h1,a,b⟩,i+1,x,h=>by
  simp at h;obtain⟨e,c,d⟩:=ax.get b i x h;exact⟨e,by simp[h1,c],d⟩
theorem ax.append{g:Gh}:∀{xs ys:List PV}{vs a:aG},ax g xs vs->ax g ys a->ax g (xs++ys) (vs++a)
 |[],_,_,_,h,h'=>by simp only[ax]at h;subst h;exact h'
 |_::_,_,_,_,⟨v,r,h1,b,c⟩,h'=>⟨v,_,by simp[h1],b,ax.append c h'⟩
theorem ax.split{g:Gh}:∀{xs ys:List PV}{vs:aG},ax g (xs++ys) vs->∃c d,vs=c++d∧ax g xs c∧ax g ys d
 |[],_,vs,h=>⟨[],vs,rfl,rfl,h⟩
 |_::_,_,_,⟨v,r,h1,f,i⟩=>by
  obtain⟨c,d,e,a,b⟩:=ax.split i;exact⟨v::c,d,by simp[h1,e],⟨v,c,rfl,f,a⟩,b⟩
theorem aK.length{g:Gh}{e:Nat}:∀{rows:List (List PV)}{vs:aG},aK g e rows vs->vs.length=rows.length*e
 |[],_,h=>by simp only[aK]at h;simp[h]
 |row::rows,_,⟨d,f,h1,a,b,c⟩=>by
  rw[h1,Vz,b.length,a.1,aK.length c,VR,Xm];omega
theorem aK.get{g:Gh}{e:Nat}:∀{rows:List (List PV)}{vs:aG}(_:aK g e rows vs)(i:Nat)(row:List PV),rows[i]?=some row->
 row.length=e∧∃a b c,vs=a++b++c∧a.length=i*e∧ax g row b
 |[],_,_,i,row,h=>by simp at h
 |q::rows,_,⟨j,l,h1,d,f,k⟩,0,row,h=>by
  simp at h;subst h;exact⟨d.1,[],j,l,by simp[h1],by simp,f⟩
 |q::rows,_,⟨j,l,h1,d,f,k⟩,i+1,row,h=>by
  simp at h;obtain⟨p,a,b,c,m,n,o⟩:=aK.get k i row h;exact⟨p,j++a,b,c,by simp[h1,m],by rw[Vz,f.length,d.1,n,Xm];omega,o⟩
theorem aK.append{g:Gh}{e:Nat}:∀{xs ys:List (List PV)}{vs a:aG},aK g e xs vs->aK g e ys a->aK g e (xs++ys) (vs++a)
 |[],_,_,_,h,h'=>by simp only[aK]at h;subst h;exact h'
 |_::_,_,_,_,⟨f,i,h1,b,c,d⟩,h'=>⟨f,_,by simp[h1],b,c,aK.append d h'⟩
theorem aK.split{g:Gh}{e:Nat}:∀{xs ys:List (List PV)}{vs:aG},aK g e (xs++ys) vs->∃c d,vs=c++d∧aK g e xs c∧aK g e ys d
 |[],_,vs,h=>⟨[],vs,rfl,rfl,h⟩
 |_::_,_,_,⟨c,d,h1,j,k,l⟩=>by
  obtain⟨f,m,i,a,b⟩:=aK.split l;exact⟨c++f,m,by simp[h1,i],⟨c,f,rfl,j,k,a⟩,b⟩
theorem aK.one{g:Gh}{e:Nat}:∀{rows:List (List PV)}{vs:aG},aK g e rows vs->∀v∈vs,v.oneCell'=true
 |[],_,h=>by simp only[aK]at h;subst h;simp
 |_::_,_,⟨d,f,h1,b,_,c⟩=>by
  subst h1;intro v a;rcases VF.1 a with a|a;exact b.2 v a;exact aK.one c v a
theorem ur{xs ys:aG}{k:Nat}(h:∀v∈xs,v.oneCell'=true)(h':∀v∈ys,v.oneCell'=true)(n:Nat):∀v∈xs.take k++ys++xs.drop n,v.oneCell'=true:=by
 intro v a;simp only[VF]at a;rcases a with(a|a)|a;exact h v (Wn a);exact h' v a;exact h v (XB a)
theorem eM{xs ys:aG}(h:∀v∈xs,v.oneCell'=true)(h':∀v∈ys,v.oneCell'=true):∀v∈xs++ys,v.oneCell'=true:=λv a=>(VF.1 a).elim (h v) (h' v)
theorem cu.length{g:Gh}:∀{es:List (Int×PV)}{en:List MapEntry},cu g es en->en.length=es.length
 |[],_,h=>by simp only[cu]at h;simp[h]
 |_::_,_,⟨_,_,h1,_,_,a⟩=>by simp[h1,cu.length a]
def look:List (Nat×SV)->Nat->SV
 |[],_=>.pv .bot
 |(j,v)::r,k=>if j=k then v else look r k
def aj(st:St):Pos->SV
 |.slot s=>look st.t s
 |.cell b k=>(st.h.getD b []).getD k (.pv .bot)
def RW(g:Gh)(w:ab)(nw:Bool)(e:Nat)(rows:List (List PV))(v:an)(c:Nat):Prop:=
 ∃cap arr T vs,v=.slice (some ⟨c,0,none⟩) rows.length cap∧w.heap[c]?=some (.cells arr T (0,0))∧arr.size=cap*e∧(rows.length<=cap∧cap<=maxLen∧∀v∈arr.toList,v.oneCell'=true)∧aK g e rows vs∧vs<+:arr.toList∧(nw=true->g.B<=c)
def RX(g:Gh)(w:ab)(nw:Bool)(es:List (Int×PV))(v:an)(c:Nat):Prop:=
 ∃a b,v=.map (some c)∧w.heap[c]?=some (.map a b)∧cu g es a.toList∧(nw=true->g.B<=c)∧MapKept.Stamped a b
def aO(g:Gh)(w:ab):SV->an->Option Nat->Prop
 |.pv x,v,bl=>bl=none∧Fit g x v
 |.own nw e rows,v,bl=>(bl=none∧rows=[]∧v=.slice none 0 0)∨∃c,bl=some c∧RW g w nw e rows v c
 |.omap nw es,v,bl=>∃c,bl=some c∧RX g w nw es v c
 |.opt c x,v,bl=>bl=none∧(¬c->v=undef)∧(c->aO g w x v none)
 |.al _,_,bl=>bl=none
 |.loc _ _ _,_,bl=>bl=none
 |.sptr _ _ _,_,bl=>bl=none
 |.agl xs,v,bl=>bl=none∧∃vs:Array an,v=.agg vs∧ax g (xs.map (·.1)) vs.toList
def SV.isOwn:SV->Bool
 |.own .. =>true
 |.omap .. =>true
 |_=>false
def SV.inCell:SV->Bool
 |.pv _=>true
 |.own .. =>true
 |.omap .. =>true
 |_=>false
def aA(g:Gh)(a:Act)(w:ab):Pos->an
 |.slot s=>a.tmps.getD s undef
 |.cell b k=>match w.heap[g.μ b]?with
  |some (.cells arr _ _)=>arr.getD k undef
  |_=>undef
def cL(g:Gh)(st:St)(a:Act)(w:ab):SV->an->Prop
 |.al p,v=>(aj st p).isOwn=true->v=aA g a w p
 |.loc p lo hi,v=>∀nw e rows,aj st p=.own nw e rows->lo<=hi∧hi<=rows.length∧∃q cap,v=.slice q (hi -lo) cap∧hi -lo<=cap∧(lo=hi∨∃c n cp,aA g a w p=.slice (some ⟨c,0,none⟩) n cp∧q=some ⟨c,lo*e,none⟩)∧(lo=0->∃n0,aA g a w p=.slice q n0 cap)
 |.sptr p i k,v=>∀nw e rows,aj st p=.own nw e rows->∃c n cp,aA g a w p=.slice (some ⟨c,0,none⟩) n cp∧v=.pointer (some ⟨c,i*e+k,none⟩)
 |.agl xs,v=>∀(k:Nat)(x:PV)(p:Pos),xs[k]?=some (x,some p)->(aj st p).isOwn=true->∃vs:Array an,v=.agg vs∧vs[k]?=some (aA g a w p)
 |.opt c x,v=>c->cL g st a w x v
 |_,_=>True
structure Owns (g:Gh) (st:St) (a:Act) (w:ab) (bl:Pos->Option Nat):Prop where
  slots:∀s,aO g w (look st.t s) (a.tmps.getD s undef) (bl (.slot s))
  blocks:∀b xs,st.h[b]?=some xs->∃arr T,w.heap[g.μ b]?=some (.cells arr T (0,0))∧(arr.size=xs.length∧∀v∈arr.toList,v.oneCell'=true)∧
    ∀k x,xs[k]?=some x->x.inCell=true∧aO g w x (arr.getD k undef) (bl (.cell b k))
  inj:∀p q c,bl p=some c->bl q=some c->p=q
  free:∀p c,bl p=some c->g.I c=none∧g.F c=none∧c<w.heap.size∧∀b,b<g.n->g.μ b≠c
structure Sim (g:Gh) (st:St) (a:Act) (w:ab):Prop where
  size:a.tmps.size=g.N
  defs:a.defers=[]
  env:cH w=g.env
  n:g.n=st.h.length
  n0:g.n0<=g.n
  B:g.B<=w.heap.size
  I:∀c o,g.I c=some o->w.heap[c]?=some o
  F:∀c o,g.F c=some o->w.heap[c]?=some o
  μI:∀b,b<g.n->g.I (g.μ b)=none∧g.F (g.μ b)=none
  μinj:∀b b',b<g.n->b'<g.n->g.μ b=g.μ b'->b=b'
  own:∃bl,Owns g st a w bl
  al:∀s,cL g st a w (look st.t s) (a.tmps.getD s undef)
structure Gh.to (g g':Gh):Prop where
  I:∀c o,g.I c=some o->g'.I c=some o
  F:g'.F=g.F
  B:g'.B=g.B
  n0:g'.n0=g.n0
  N:g'.N=g.N
  env:g'.env=g.env
  n:g.n0<=g'.n
  μ:∀b,b<g.n0->g'.μ b=g.μ b
  FI:∀c,g.F c≠none->g.I c=none->g'.I c=none
theorem Gh.to.trans{a b c:Gh}(h:a.to b)(h':b.to c):a.to c:=
  ⟨λk o x=>h'.I _ _ (h.I _ _ x),h'.F.trans h.F,h'.B.trans h.B,h'.n0.trans h.n0,h'.N.trans h.N,h'.env.trans h.env,by have:=h'.n;rw[h.n0]at this;exact this,
   λb e=>by rw[h'.μ b (by rw[h.n0];exact e),h.μ b e],λc d f=>h'.FI c (by rw[h.F];exact d) (h.FI c d f)⟩
end Go.AX
namespace Go.AX
abbrev dw:=List (Int×PV)
abbrev jT:=Option (Nat×SV)
abbrev ao:=List (List SV)
abbrev aT:=List (List PV)
abbrev bj:=List SV
abbrev aD:=List PV
def ev(st:St):ae->SV
 |.tmp k=>look st.t k
 |.const v=>.pv (.lit v)
 |.func f=>.pv (.lit (.func (.func f) #[] #[]))
 |.global _=>.pv .bot
def UR(x:ae):SV->SV
 |.own _ _ _=>match x with|.tmp s=>.al (.slot s)|_=>.pv .bot
 |.omap _ _=>match x with|.tmp s=>.al (.slot s)|_=>.pv .bot
 |.opt _ y=>y
 |.pv p=>.pv p
 |.al p=>.al p
 |.loc p i k=>.loc p i k
 |.sptr p i k=>.sptr p i k
 |.agl xs=>.agl xs
def mv(st:St)(x:ae):SV:=UR x (ev st x)
def US:SV->Prop
 |.opt c _=>c
 |.own _ _ _=>True
 |.omap _ _=>True
 |.pv _=>True
 |.al _=>True
 |.loc _ _ _=>True
 |.sptr _ _ _=>True
 |.agl _=>True
def gc(st:St)(x:ae):Prop:=US (ev st x)
theorem Sim.slot{g:Gh}{st:St}{a:Act}{w:ab}(h:Sim g st a w)(k:Nat):∃b,aO g w (look st.t k) (a.tmps.getD k undef) b:=by
 obtain⟨bl,c⟩:=h.own;exact⟨_,c.slots k⟩
theorem bm{g:Gh}{st:St}{a:Act}{w:ab}(h:Sim g st a w)(x:ae)(m:gc st x):
 aO g w (mv st x) (a.eval x) none∧cL g st a w (mv st x) (a.eval x):=by
 cases x with
 |const v=>exact⟨⟨rfl,rfl⟩,trivial⟩
 |func f=>exact⟨⟨rfl,rfl⟩,trivial⟩
 |global n=>exact⟨⟨rfl,trivial⟩,trivial⟩
 |tmp k=>
  obtain⟨b,hs⟩:=h.slot k;have d:=h.al k;simp only[mv,ev,Act.eval,gc]at*;cases l:look st.t k with
  |pv p=>rw[l]at hs d;obtain⟨rfl,o⟩:=hs;exact⟨⟨rfl,o⟩,trivial⟩
  |own nw e rows=>rw[l]at hs;exact⟨rfl,λ_=>rfl⟩
  |omap nw es=>rw[l]at hs;exact⟨rfl,λ_=>rfl⟩
  |al p=>rw[l]at hs d;exact⟨rfl,d⟩
  |loc p i j=>rw[l]at hs d;exact⟨rfl,d⟩
  |sptr p i j=>rw[l]at hs d;exact⟨rfl,d⟩
  |agl xs=>rw[l]at hs d;exact⟨⟨rfl,hs.2⟩,d⟩
  |opt c y=>rw[l]at hs d m;exact⟨hs.2.2 m,d m⟩
def N0(P:aa)(st:St)(o:ai)(r:SV×Prop):Prop:=
 ∀g a w,Sim g st a w->r.2->∃v,(execOp a.eval o).run P w=.ok (.value v) w∧aO g w r.1 v none∧cL g st a w r.1 v
def kz(P:aa)(st:St)(o:ai)(r:SV×Prop):Prop:=
 ∀g a w,Sim g st a w->r.2->∃v,(∀w':ab,(execOp a.eval o).run P w'=.ok (.value v) w')∧aO g w r.1 v none∧cL g st a w r.1 v
theorem kz.pop{P:aa}{st:St}{o:ai}{r:SV×Prop}(h:kz P st o r):N0 P st o r:=λg a w hs c=>by
 obtain⟨v,h1,b⟩:=h g a w hs c;exact⟨v,h1 w,b⟩
def ir:SV->ce
 |.pv (.lit (.int k _))=>k
 |_=>.i64
def bC:SV->Int
 |.pv (.lit (.int _ n))=>n
 |_=>0
def iu:SV->Prop
 |.pv (.lit (.int _ _))=>True
 |_=>False
def tX:SV->Bool
 |.pv (.lit (.bool b))=>b
 |_=>false
def C8:SV->Prop
 |.pv (.lit (.bool _))=>True
 |_=>False
def nj:SV->ByteArray
 |.pv (.lit (.string s))=>s
 |_=>ByteArray.empty
def tY:SV->Prop
 |.pv (.lit (.string _))=>True
 |_=>False
theorem Dd{x:SV}(h:iu x):x=.pv (.lit (.int (ir x) (bC x))):=by
 unfold iu at h;split at h;rfl;cases h
theorem Qe{x:SV}(h:C8 x):x=.pv (.lit (.bool (tX x))):=by
 unfold C8 at h;split at h;rfl;cases h
theorem Qf{x:SV}(h:tY x):x=.pv (.lit (.string (nj x))):=by
 unfold tY at h;split at h;rfl;cases h
theorem cM{g:Gh}{st:St}{a:Act}{w:ab}(h:Sim g st a w){x:ae}(b:gc st x)(hi:iu (mv st x)):
 a.eval x=.int (ir (mv st x)) (bC (mv st x)):=by
 have:=(bm h x b).1;rw[Dd hi]at this;exact this.2
theorem ml{g:Gh}{st:St}{a:Act}{w:ab}(h:Sim g st a w){x:ae}(b:gc st x)(hi:C8 (mv st x)):
 a.eval x=.bool (tX (mv st x)):=by
 have:=(bm h x b).1;rw[Qe hi]at this;exact this.2
theorem se{g:Gh}{st:St}{a:Act}{w:ab}(h:Sim g st a w){x:ae}(b:gc st x)(hi:tY (mv st x)):
 a.eval x=.string (nj (mv st x)):=by
 have:=(bm h x b).1;rw[Qf hi]at this;exact this.2
abbrev SV.int(k:ce)(n:Int):SV:=.pv (.lit (.int k n))
abbrev SV.bool(b:Bool):SV:=.pv (.lit (.bool b))
inductive TK where
  |int|bool|string|ptr|slice|map|func|other
  |flat (n:Nat)
def mo(P:aa):List Field->Nat->Bool
 |[],_=>true
 |f::a,n=>f.offset==n&&f.name != "_" &&(match P.underlying f.type with|some (.int _)=>true|_=>false)&&(match P.info? f.type with|some i=>i.size==1|none=>false)&&mo P a (n+1)
def RY(P:aa)(e:ah):Bool:=(match P.underlying e with|some (.int _)=>true|_=>false)&&P.cellsOf e==1&&(P.info? e).isSome
def tk(P:aa)(t:ah):TK:=
 match P.underlying t with
 |some (.int _)=>.int
 |some .bool=>.bool
 |some .string=>.string
 |some (.pointer _)=>.ptr
 |some (.slice _)=>.slice
 |some (.map _ _)=>.map
 |some (.func _ _ _)=>.func
 |some (.struct a)=>if mo P a.toList 0&&!P.stoodInHeld t&&!P.eqGuardType P.depth t then .flat a.size else .other
 |some (.array n e)=>if RY P e&&!P.eqGuardType P.depth t then .flat n else .other
 |_=>.other
def JK(op:BinOp)(x y:SV):SV×Prop:=
 match op with
 |.add=>(.int (ir x) ((ir x).wrap (bC x+bC y)),iu x∧iu y∧ir x=ir y∧True)
 |.sub=>(.int (ir x) ((ir x).wrap (bC x -bC y)),iu x∧iu y∧ir x=ir y∧True)
 |.mul=>(.int (ir x) ((ir x).wrap (bC x*bC y)),iu x∧iu y∧ir x=ir y∧True)
 |.quo=>(.int (ir x) ((ir x).wrap ((bC x).tdiv (bC y))),iu x∧iu y∧ir x=ir y∧bC y≠0)
 |.rem=>(.int (ir x) ((bC x).tmod (bC y)),iu x∧iu y∧ir x=ir y∧bC y≠0)
 |.lss=>(.bool (decide (bC x<bC y)),iu x∧iu y∧ir x=ir y∧True)
 |.leq=>(.bool (decide (bC x<=bC y)),iu x∧iu y∧ir x=ir y∧True)
 |.gtr=>(.bool (decide (bC y<bC x)),iu x∧iu y∧ir x=ir y∧True)
 |.geq=>(.bool (decide (bC y<=bC x)),iu x∧iu y∧ir x=ir y∧True)
 |.eql=>(.bool (decide (bC x=bC y)),iu x∧iu y∧ir x=ir y∧True)
 |.neq=>(.bool (!decide (bC x=bC y)),iu x∧iu y∧ir x=ir y∧True)
 |.and=>(.int (ir x) (bits .and (ir x) (bC x) (bC y)),iu x∧iu y∧ir x=ir y∧True)
 |.shr=>(.int (ir x) ((bC x).fdiv (2^min (bC y).toNat (ir x).bits)),iu x∧iu y∧0<=bC y)
 |.shl=>(.int (ir x) ((ir x).wrap (bC x*2^min (bC y).toNat (ir x).bits)),iu x∧iu y∧0<=bC y)
 |_=>(.pv .bot,False)
def JM(op:BinOp)(x y:SV):SV×Prop:=
 match op with
 |.eql=>(.bool (tX x==tX y),C8 x∧C8 y)
 |.neq=>(.bool (tX x !=tX y),C8 x∧C8 y)
 |_=>(.pv .bot,False)
def JN(op:BinOp)(x y:SV):SV×Prop:=
 match op with
 |.add=>(.pv (.lit (.string (nj x++nj y))),tY x∧tY y∧((nj x).size+(nj y).size:Nat)<=9223372036854775807)
 |.eql=>(.bool (decide (nj x=nj y)),tY x∧tY y)
 |.neq=>(.bool (!decide (nj x=nj y)),tY x∧tY y)
 |.lss=>(.bool (Op.bytesLess (nj x).toList (nj y).toList),tY x∧tY y)
 |.gtr=>(.bool (!(Op.bytesLess (nj x).toList (nj y).toList||decide (nj x=nj y))),tY x∧tY y)
 |.leq=>(.bool (Op.bytesLess (nj x).toList (nj y).toList||decide (nj x=nj y)),tY x∧tY y)
 |.geq=>(.bool (!Op.bytesLess (nj x).toList (nj y).toList),tY x∧tY y)
 |_=>(.pv .bot,False)
def mq:SV->Option Bool
 |.pv (.lit (.pointer none))=>some true
 |.pv (.lit (.pointer (some _)))=>some false
 |.pv (.ptr _ _)=>some false
 |.pv (.iptr _ _ _ _)=>some false
 |.sptr _ _ _=>none
 |.pv (.lit (.slice none 0 0))=>some true
 |.pv (.lit (.map none))=>some true
 |_=>none
def jU:SV->Bool
 |.pv (.lit (.pointer none))=>true
 |_=>false
def HK(op:BinOp)(x y:SV):SV×Prop:=
 match op with
 |.eql=>(.bool (mq x==some true),jU y=true∧(mq x).isSome=true)
 |.neq=>(.bool (mq x==some false),jU y=true∧(mq x).isSome=true)
 |_=>(.pv .bot,False)
def nG:SV->af
 |.pv (.agg xs)=>xs.map λx=>bC (.pv x)
 |.pv (.lit (.agg vs))=>vs.toList.map λv=>bC (.pv (.lit v))
 |_=>[]
def gG:SV->List ce
 |.pv (.agg xs)=>xs.map λx=>ir (.pv x)
 |.pv (.lit (.agg vs))=>vs.toList.map λv=>ir (.pv (.lit v))
 |_=>[]
def pZ(n:Nat):SV->Prop
 |.pv (.agg xs)=>xs.length=n∧∀x∈xs,iu (.pv x)
 |.pv (.lit (.agg vs))=>vs.size=n∧∀v∈vs.toList,iu (.pv (.lit v))
 |_=>False
def HL(n:Nat)(op:BinOp)(x y:SV):SV×Prop:=
 match op with
 |.eql=>(.bool (decide (nG x=nG y)),pZ n x∧pZ n y∧gG x=gG y)
 |.neq=>(.bool (!decide (nG x=nG y)),pZ n x∧pZ n y∧gG x=gG y)
 |_=>(.pv .bot,False)
theorem FK{P:aa}{st:St}(o:ai)(op:BinOp)(t u:ah)(x y:ae)(ho:o.op=.binOp op t x y u):
 kz P st o ((JK op (mv st x) (mv st y)).1,gc st x∧gc st y∧(JK op (mv st x) (mv st y)).2):=by
 intro g a w h ⟨hx,hy,hd⟩;have d:=λhi=>cM h hx hi;have e:=λhi=>cM h hy hi;unfold JK at hd⊢;simp only[execOp,ho];cases op<;>simp only at hd⊢
 case quo|rem=>
  obtain⟨h1,c,b,f⟩:=hd;rw[d h1,e c,b];simp only[go_sem,bD,bN,bK,Op.intDiv,Vs f];exact⟨_,λ_=>rfl,⟨rfl,by first|rfl|rw[b]⟩,trivial⟩
 case and|add|sub|mul|lss|leq|gtr|geq|eql|neq=>
  obtain⟨h1,c,b,f⟩:=hd;rw[d h1,e c,b];simp only[go_sem,bD,bN,bK,Op.intArith];exact⟨_,λ_=>rfl,⟨rfl,by first|rfl|rw[b]⟩,trivial⟩
 case shr|shl=>
  obtain⟨h1,c,b⟩:=hd;rw[d h1,e c];simp only[go_sem,bD,bN,bK,Op.shift,Vs (Zu.2 b)];exact⟨_,λ_=>rfl,⟨rfl,rfl⟩,trivial⟩
 all_goals exact hd.elim
theorem FL{P:aa}{st:St}(o:ai)(op:BinOp)(t u:ah)(x y:ae)(ho:o.op=.binOp op t x y u)(ht:P.underlying t=some .bool):
 kz P st o ((JM op (mv st x) (mv st y)).1,gc st x∧gc st y∧(JM op (mv st x) (mv st y)).2):=by
 intro g a w h ⟨hx,hy,hd⟩;have b:=λhi=>ml h hx hi;have c:=λhi=>ml h hy hi;unfold JM at hd⊢;simp only[execOp,ho];cases op<;>simp only at hd⊢
 case eql|neq=>
  obtain⟨h1,d⟩:=hd;rw[b h1,c d];simp only[eqGuard_at_bool,bD,bN,bK,run_eql_bool _ t _ _ ht,run_neq_bool _ t _ _ ht];exact⟨_,λ_=>rfl,⟨rfl,rfl⟩,trivial⟩
 all_goals exact hd.elim
theorem ByteArray.toList_inj{a b:ByteArray}:(a.toList==b.toList)=decide (a=b):=by
 rw[aaa,Zv,YC];constructor;intro h;rw[ByteArray.toList_eq,ByteArray.toList_eq]at h;cases a;cases b;simp at h;simp[h];intro h;rw[h]
theorem FM{P:aa}{st:St}(o:ai)(op:BinOp)(t u:ah)(x y:ae)(ho:o.op=.binOp op t x y u):
 kz P st o ((JN op (mv st x) (mv st y)).1,gc st x∧gc st y∧(JN op (mv st x) (mv st y)).2):=by
 intro g a w h ⟨hx,hy,hd⟩;have c:=λhi=>se h hx hi;have d:=λhi=>se h hy hi;unfold JN at hd⊢;simp only[execOp,ho];cases op<;>simp only at hd⊢
 case add=>
  obtain⟨h1,b,e⟩:=hd;rw[c h1,d b];simp only[eqGuard_at_string,bD,bN,bK,binOp,Op.stringOp];rw[Vs (by simp only[IntKind.max_i64];omega)];exact⟨_,λ_=>rfl,⟨rfl,rfl⟩,trivial⟩
 case eql|neq|lss|leq|gtr|geq=>
  obtain⟨h1,b⟩:=hd;rw[c h1,d b];simp only[eqGuard_at_string,bD,bN,bK,binOp,Op.stringOp,ByteArray.toList_inj];exact⟨_,λ_=>rfl,⟨rfl,rfl⟩,trivial⟩
 all_goals exact hd.elim
theorem De{g:Gh}{w:ab}{x:SV}{v:an}{b:Bool}(h:aO g w x v none)(hn:mq x=some b)(hp:∃p,v=.pointer p):v=.pointer none∧b=true∨(∃q,v=.pointer (some q))∧b=false:=by
 unfold mq at hn;split at hn;cases hn;obtain⟨_,rfl⟩:=h;exact .inl ⟨rfl,rfl⟩;cases hn;obtain⟨_,rfl⟩:=h;exact .inr ⟨⟨_,rfl⟩,rfl⟩;cases hn;obtain⟨_,_,rfl⟩:=h;exact .inr ⟨⟨_,rfl⟩,rfl⟩;cases hn;obtain⟨_,_,_,_,_,_,_,rfl,_⟩:=h;exact .inr ⟨⟨_,rfl⟩,rfl⟩;cases hn;obtain⟨_,rfl⟩:=h;obtain⟨p,hp⟩:=hp;cases hp;obtain⟨_,rfl⟩:=h;obtain⟨p,hp⟩:=hp;cases hp;cases hn
def Ax:SV->Prop
 |.pv (.lit (.pointer _))=>True
 |.pv (.ptr _ _)=>True
 |.pv (.iptr _ _ _ _)=>True
 |_=>False
theorem JO{g:Gh}{w:ab}{x:SV}{v:an}(h:aO g w x v none)(hp:Ax x):∃p,v=.pointer p:=by
 unfold Ax at hp;split at hp;obtain⟨_,rfl⟩:=h;exact⟨_,rfl⟩;obtain⟨_,_,rfl⟩:=h;exact⟨_,rfl⟩;obtain⟨_,_,_,_,_,_,_,rfl,_⟩:=h;exact⟨_,rfl⟩;cases hp
theorem Df{P:aa}{t e:ah}(h:P.underlying t=some (.pointer e)):P.underlying t=some (.pointer (P.pointee t)):=by
 simp[Program.pointee,h]
theorem FN{P:aa}{st:St}(o:ai)(op:BinOp)(t u e:ah)(x y:ae)(ho:o.op=.binOp op t x y u)(ht:P.underlying t=some (.pointer e)):
 kz P st o ((HK op (mv st x) (mv st y)).1,gc st x∧gc st y∧Ax (mv st x)∧(HK op (mv st x) (mv st y)).2):=by
 intro g a w h ⟨hx,hy,hp,hd⟩;obtain⟨i,_⟩:=bm h x hx;obtain⟨j,_⟩:=bm h y hy;obtain⟨p,hp⟩:=JO i hp;have d:=Df ht;have c:jU (mv st y)=true->a.eval y=.pointer none:=by
  intro hn;unfold jU at hn;split at hn;rename_i e;rw[e]at j;exact j.2;cases hn
 unfold HK at hd⊢;simp only[execOp,ho];cases op<;>simp only at hd⊢
 case eql|neq=>
  obtain⟨h1,l⟩:=hd;obtain⟨b,k⟩:=XV.mp l;rw[c h1,hp];simp only[eqGuard_at_pointer,bD,bN,bK,run_eql_pointer_nil _ t _ d,run_neq_pointer_nil _ t _ d];refine⟨_,λ_=>rfl,⟨rfl,?_⟩,trivial⟩;rcases De i k ⟨_,hp⟩with⟨f,rfl⟩|⟨⟨q,f⟩,rfl⟩<;>(rw[hp]at f;cases f;simp[Fit,k])
 all_goals exact hd.elim
theorem iS{P:aa}(w:ab){t:ah}{k:ce}(ht:P.underlying t=some (.int k))(cs:Array an)(off:Nat)(v:an)(h:cs[off]?=some v):
 (part t cs off).run P w=.ok v w:=by
 simp[part,isAgg,cq ht,h]
theorem ut{P:aa}(w:ab)(d:Nat)(xs ys:Array an):∀(b:List Field)(n:Nat)(A B:List (ce×Int)),mo P b n=true->
 A.length=b.length->A.map (·.1)=B.map (·.1)->(∀i p,A[i]?=some p->xs[n+i]?=some (.int p.1 p.2))->(∀i p,B[i]?=some p->ys[n+i]?=some (.int p.1 p.2))->
 (Op.eqFields (d+1) xs ys b).run P w=.ok (decide (A.map (·.2)=B.map (·.2))) w
 |[],n,A,B,_,g,a,_,_=>by
  have:A=[]:=WA.1 g;subst this;have:B=[]:=by simpa using a.symm
  subst this;simp[Op.eqFields]
 |f::b,n,A,B,j,g,a,hx,hy=>by
  cases A with
  |nil=>simp at g
  |cons p A=>
  cases B with
  |nil=>simp at a
  |cons q B=>
  simp only[mo,VC,Zv,bne_iff_ne]at j;obtain⟨⟨⟨⟨ho,hn⟩,l⟩,_⟩,m⟩:=j;split at l
  case h_2=>cases l
  rename_i k hk;simp only[VP,XR]at a;have c:=hx 0 p rfl;have e:=hy 0 q rfl;simp only[Ye]at c e;rw[Op.eqFields,Vt hn,ho];simp only[bD,iS w hk xs n _ c,iS w hk ys n _ e,bK,a.1,run_equalIn_int w d f.type q.1 k p.2 q.2 hk];by_cases h:p.2=q.2;simp only[h,Zd,aar,We,WM];rw[ut w d xs ys b (n+1) A B m (by simpa using g) a.2 (λi p hp=>by have:=hx (i+1) p (by simpa using hp);rw[←this];congr 1;omega) (λi p hp=>by have:=hy (i+1) p (by simpa using hp);rw[←this];congr 1;omega)];simp[h];simp[h]
theorem w8{P:aa}(w:ab)(d:Nat)(xs ys:Array an){e:ah}{k:ce}(g:P.underlying e=some (.int k)):∀(A B:List (ce×Int))(n:Nat),
 A.map (·.1)=B.map (·.1)->(∀i p,A[i]?=some p->xs[n+i]?=some (.int p.1 p.2))->(∀i p,B[i]?=some p->ys[n+i]?=some (.int p.1 p.2))->
 (Op.eqItems (d+1) e 1 xs ys (List.range' n A.length)).run P w=.ok (decide (A.map (·.2)=B.map (·.2))) w
 |[],B,n,a,_,_=>by
  have:B=[]:=by simpa using a.symm
  subst this;simp[Op.eqItems]
 |p::A,[],n,a,_,_=>by simp at a
 |p::A,q::B,n,a,hx,hy=>by
  simp only[VP,XR]at a;have c:=hx 0 p rfl;have f:=hy 0 q rfl;simp only[Ye]at c f;simp only[VR,List.range'_succ,Op.eqItems,Zh,bD,iS w g xs n _ c,iS w g ys n _ f,bK,a.1,run_equalIn_int w d e q.1 k p.2 q.2 g];by_cases b:p.2=q.2;simp only[b,Zd,aar,We,WM];rw[w8 w d xs ys g A B (n+1) a.2 (λi p hp=>by have:=hx (i+1) p (by simpa using hp);rw[←this];congr 1;omega) (λi p hp=>by have:=hy (i+1) p (by simpa using hp);rw[←this];congr 1;omega)];simp[b];simp[b]
def gk:SV->List (ce×Int)
 |.pv (.agg xs)=>xs.map λx=>(ir (.pv x),bC (.pv x))
 |.pv (.lit (.agg vs))=>vs.toList.map λv=>(ir (.pv (.lit v)),bC (.pv (.lit v)))
 |_=>[]
theorem tZ{g:Gh}{w:ab}{x:SV}{v:an}{n:Nat}(h:aO g w x v none)(a:pZ n x):
 ∃vs,v=.agg vs∧(gk x).length=n∧(gk x).map (·.1)=gG x∧(gk x).map (·.2)=nG x∧∀(i:Nat)(p:ce×Int),(gk x)[i]?=some p->vs[i]?=some (Value.int p.1 p.2):=by
 unfold pZ at a;split at a;rename_i xs;obtain⟨_,vs,rfl,c⟩:=h;refine⟨vs,rfl,by simp[gk,a.1],by simp[gk,gG],by simp[gk,nG],λi p hp=>?_⟩;simp only[gk,VO,VW]at hp;obtain⟨y,hy,rfl⟩:=hp;obtain⟨u,d,b⟩:=c.get i y hy;have:=a.2 y (WQ hy);have e:=Dd this;simp only[SV.pv.injEq]at e;rw[e]at b;rw[←Vw,d,b];rename_i vs;obtain⟨_,rfl⟩:=h;refine⟨vs,rfl,by simp[gk,a.1],by simp[gk,gG],by simp[gk,nG],λi p hp=>?_⟩;simp only[gk,VO,VW]at hp;obtain⟨y,hy,rfl⟩:=hp;have:=a.2 y (WQ hy);have e:=Dd this;simp only[SV.pv.injEq,PV.lit.injEq]at e;rw[←Vw,hy,←e];cases a
theorem N1{P:aa}{st:St}(o:ai)(op:BinOp)(t u:ah)(x y:ae)(n:Nat)(ho:o.op=.binOp op t x y u)(ht:tk P t=.flat n):
 N0 P st o ((HL n op (mv st x) (mv st y)).1,gc st x∧gc st y∧(HL n op (mv st x) (mv st y)).2):=by
 intro g a w h ⟨hx,hy,hd⟩;obtain⟨J,_⟩:=bm h x hx;obtain⟨K,_⟩:=bm h y hy;unfold tk at ht;split at ht
 case h_8=>
  rename_i I i;split at ht
  case isFalse=>cases ht
  rename_i c;cases ht;simp only[VC,Wp]at c;obtain⟨⟨z,B⟩,b⟩:=c;have d:P.fieldsOf t=I:=by simp[Program.fieldsOf,i]
  have C:P.underlying t=some (.struct (P.fieldsOf t)):=by rw[d];exact i
  unfold HL at hd⊢;simp only[execOp,ho];cases op<;>simp only at hd⊢
  case eql|neq=>
   obtain⟨h1,r,s⟩:=hd;obtain⟨xs,p,H,F,D,j⟩:=tZ J h1;obtain⟨ys,q,N,G,E,l⟩:=tZ K r;rw[p,q];simp only[bD,run_eqGuard_agg w _ t _ _ _ _ b,bK,run_eql_struct,run_neq_struct,run_equalIn_agg w 9999 t xs ys C B,d,
    ut w 9998 xs ys I.toList 0 (gk (mv st x)) (gk (mv st y)) z (by simpa using H) (by rw[F,G,s]) (by simpa using j) (by simpa using l),D,E,bN]
   exact⟨_,rfl,⟨rfl,rfl⟩,trivial⟩
  all_goals exact hd.elim
 case h_9=>
  rename_i m e i;split at ht
  case isFalse=>cases ht
  rename_i c;cases ht;simp only[RY,VC,Wp,Zv]at c;obtain⟨⟨⟨hk,v⟩,hi⟩,b⟩:=c;split at hk
  case h_2=>cases hk
  rename_i k A;obtain⟨M,f⟩:=XV.1 hi;unfold HL at hd⊢;simp only[execOp,ho];cases op<;>simp only at hd⊢
  case eql|neq=>
   obtain⟨h1,r,s⟩:=hd;obtain⟨xs,p,H,F,D,j⟩:=tZ J h1;obtain⟨ys,q,N,G,E,l⟩:=tZ K r;rw[p,q];have L:=w8 w 9998 xs ys A (gk (mv st x)) (gk (mv st y)) 0 (by rw[F,G,s]) (by simpa using j) (by simpa using l);rw[H,←List.range_eq_range']at L;simp only[bD,run_eqGuard_agg w _ t _ _ _ _ b,bK,run_eql_struct,run_neq_struct,run_equalIn_array w 9999 xs ys i f,v,L,D,E,bN];exact⟨_,rfl,⟨rfl,rfl⟩,trivial⟩
  all_goals exact hd.elim
 all_goals (first|cases ht|(split at ht<;>cases ht))
end Go.AX
namespace Go.AX
def b5(P:aa)(t:ah)(f:Nat):Option Nat:=
 match P.underlying t with
 |some (.struct a)=>match a[f]?with
  |some x=>match P.info? x.type with
   |some i=>if i.size=0 then none else some x.offset
   |none=>none
  |none=>none
 |_=>none
def bU(P:aa)(t:ah):Option Nat:=
 match P.underlying t with
 |some (.slice e)=>(P.info? e).map (·.size)
 |_=>none
def nH(P:aa)(t:ah):Option (Nat×Nat):=
 match P.underlying t with
 |some (.array n e)=>(P.info? e).map λi=>(n,i.size)
 |_=>none
def aZ(P:aa)(t:ah):Option (Bool×Nat):=
 match P.underlying t with
 |some (.struct _)=>(P.info? t).map λi=>(true,i.size)
 |some (.array _ _)=>(P.info? t).map λi=>(true,i.size)
 |some _=>(P.info? t).map λi=>(false,i.size)
 |none=>none
theorem run_sizeOf{P:aa}{t:ah}{i:TypeInfo}(h:P.info? t=some i)(w:ab):(sizeOf t).run P w=.ok i.size w:=by
 simp[sizeOf,typeInfo,h]
theorem jL{P:aa}{t:ah}{b:Bool}{n:Nat}(h:aZ P t=some (b,n))(w:ab):(isAgg t).run P w=.ok b w∧(sizeOf t).run P w=.ok n w:=by
 unfold aZ at h;split at h
 case h_4=>cases h
 all_goals (
  rename_i a;simp only[VW,W8]at h;obtain⟨i,hi,rfl,rfl⟩:=h;refine⟨?_,run_sizeOf hi w⟩;simp only[isAgg,bD,cq a,bK])
 rfl;rfl;rfl
theorem cell_of{w:ab}{c:Nat}{arr:Array an}{T:ah}{fz:Nat×Nat}(h:w.heap[c]?=some (.cells arr T fz))(o:Nat):w.cell? ⟨c,o,none⟩=arr[o]?:=by
 simp[World.cell?,h]
theorem iA{l m:aG}(h:l<+:m){i:Nat}{v:an}(hi:l[i]?=some v):m[i]?=some v:=by
 obtain⟨r,rfl⟩:=h;rw[Vv];exact hi;exact(Vp.1 hi).1
theorem HM{g:Gh}{e:Nat}{rows:aT}{vs:aG}{arr:Array an}{off:Nat}(h:aK g e rows vs)(hp:vs<+:arr.toList.drop off){i:Nat}{row:aD}(hi:rows[i]?=some row):
 row.length=e∧∃b,ax g row b∧∀j v,b[j]?=some v->arr[off+i*e+j]?=some v:=by
 obtain⟨l,a,b,c,f,d,k⟩:=h.get i row hi;refine⟨l,b,k,λj v hj=>?_⟩;have m:j<b.length:=(Vp.1 hj).1;have:vs[i*e+j]?=some v:=by
  rw[f,Vv (by simp[d];omega),VM (by omega),d];rw[←hj];congr 1;omega
 have:=iA hp this;rw[Wk,Vw]at this;rw[←this];congr 1;omega
theorem ax.drop{g:Gh}:∀{xs:aD}{vs:aG}(_:ax g xs vs)(k:Nat),ax g (xs.drop k) (vs.drop k)
 |_,_,h,0=>by simpa using h
 |[],_,h,k+1=>by simp only[ax]at h;subst h;simp[ax]
 |_::_,_,⟨_,_,h1,_,a⟩,k+1=>by subst h1;simpa using ax.drop a k
theorem ax.take{g:Gh}:∀{xs:aD}{vs:aG}(_:ax g xs vs)(k:Nat),ax g (xs.take k) (vs.take k)
 |_,_,_,0=>by simp[ax]
 |[],_,h,k+1=>by simp only[ax]at h;subst h;simp[ax]
 |_::_,_,⟨_,_,h1,a,b⟩,k+1=>by subst h1;exact⟨_,_,rfl,a,ax.take b k⟩
theorem bT{g:Gh}{st:St}{a:Act}{w:ab}{bl:Pos->Option Nat}(c:Owns g st a w bl){p:Pos}(ho:(aj st p).isOwn=true):aO g w (aj st p) (aA g a w p) (bl p):=by
 cases p with
 |slot s=>exact c.slots s
 |cell b k=>
  simp only[aj]at ho⊢;cases hx:st.h[b]?with
  |none=>simp[List.getD,hx]at ho;cases ho
  |some xs=>
   simp only[List.getD,hx,V7]at ho⊢;cases hk:xs[k]?with
   |none=>simp[hk]at ho;cases ho
   |some x=>
    obtain⟨arr,T,h1,⟨e,_⟩,d⟩:=c.blocks b xs hx;simp only[V7,aA,h1];exact(d k x hk).2
def ic:an->Bool
 |.slice none 0 0=>true
 |_=>false
theorem iB{v:an}(h:ic v=true):v=.slice none 0 0:=by
 unfold ic at h;split at h;rfl;cases h
def rowsOf(st:St):SV->aT
 |.pv (.seq _ _ rows)=>rows
 |.al p=>match aj st p with
  |.own _ _ rows=>rows
  |_=>[]
 |.loc p lo hi=>match aj st p with
  |.own _ _ rows=>(rows.take hi).drop lo
  |_=>[]
 |_=>[]
def jV(st:St)(e:Nat):SV->Prop
 |.pv (.seq _ e' _)=>e'=e
 |.pv (.lit v)=>ic v=true
 |.al p=>match aj st p with
  |.own _ e' _=>e'=e
  |_=>False
 |.loc p _ _=>match aj st p with
  |.own _ e' _=>e'=e
  |_=>False
 |_=>False
theorem oH{g:Gh}{st:St}{a:Act}{w:ab}(h:Sim g st a w){x:ae}{e:Nat}(n:gc st x)(hs:jV st e (mv st x)):
 ∃q cap,a.eval x=.slice q (rowsOf st (mv st x)).length cap∧(rowsOf st (mv st x)).length<=cap:=by
 obtain⟨i,f⟩:=bm h x n;unfold jV at hs;split at hs;rename_i nw e' rows d;rw[d]at i⊢;obtain⟨_,q,cap,b,k,_⟩:=i;exact⟨q,cap,b,k⟩;rename_i v d;rw[d]at i⊢;obtain⟨_,b⟩:=i;exact⟨none,0,by rw[b,iB hs];rfl,by simp[rowsOf]⟩;rename_i p d;rw[d]at f⊢;split at hs;rename_i nw e' rows hp;obtain⟨bl,m⟩:=h.own;have b:=f (by rw[hp];rfl);have:=bT m (p:=p) (by rw[hp];rfl);rw[hp]at this;simp only[rowsOf,hp];rcases this with⟨_,rfl,j⟩|⟨c,_,cap,arr,T,vs,j,_,_,l,_⟩;exact⟨none,0,by rw[b,j];rfl,by simp⟩;exact⟨_,cap,by rw[b,j],l.1⟩;cases hs;rename_i p lo hi d;rw[d]at f⊢;split at hs;rename_i nw e' rows hp;obtain⟨h1,o,q,cap,b,k,_⟩:=f nw e' rows hp;have:(rowsOf st (.loc p lo hi)).length=hi -lo:=by simp only[rowsOf,hp,Wf,Vy];omega
 exact⟨q,cap,by rw[b,this],by rw[this];exact k⟩;cases hs;cases hs
def xa(P:aa)(st:St)(t:ah)(x:SV):SV×Prop:=
 match bU P t with
 |some e=>match x with
  |.pv (.bsl _ e' _ n _)=>(.int .i64 n,e'=e)
  |.pv (.lit (.slice _ 0 _))=>(.int .i64 0,True)
  |x=>(.int .i64 (rowsOf st x).length,jV st e x)
 |none=>(.pv .bot,False)
theorem Ay{P:aa}{st:St}(o:ai)(t:ah)(x:ae)(ho:o.op=.call {callee:=.builtin .len,args:=#[x],argTypes:=#[t]}):
 kz P st o ((xa P st t (mv st x)).1,gc st x∧(xa P st t (mv st x)).2):=by
 intro g a w h ⟨hx,hd⟩;unfold xa at hd⊢;cases hs:bU P t with
 |none=>rw[hs]at hd;cases hd
 |some e=>
  rw[hs]at hd;simp only at hd⊢;unfold bU at hs;split at hs
  case h_2=>cases hs
  rename_i j i;split at hd;rename_i b e' off n cap f;obtain⟨c,_⟩:=bm h x hx;rw[f]at c;obtain⟨_,_,_,d⟩:=c;refine⟨_,?_,⟨rfl,rfl⟩,trivial⟩;intro w';simp[execOp,ho,resolve,invoke,builtin,d,Builtin.len_,cq i,goInt];rename_i p cap f;obtain⟨c,_⟩:=bm h x hx;rw[f]at c;have d:a.eval x=_:=c.2;refine⟨_,?_,⟨rfl,rfl⟩,trivial⟩;intro w';simp[execOp,ho,resolve,invoke,builtin,d,Builtin.len_,cq i,goInt];obtain⟨q,cap,d,_⟩:=oH h hx hd;refine⟨_,?_,⟨rfl,rfl⟩,trivial⟩;intro w';simp[execOp,ho,resolve,invoke,builtin,d,Builtin.len_,cq i,goInt]
def uu(x:SV):SV×Prop:=(.int .i64 (nj x).size,tY x)
theorem xb{P:aa}{st:St}(o:ai)(t:ah)(x:ae)(ho:o.op=.call {callee:=.builtin .len,args:=#[x],argTypes:=#[t]}) (c:P.underlying t=some .string):
 kz P st o ((uu (mv st x)).1,gc st x∧(uu (mv st x)).2):=by
 intro g a w h ⟨hx,hd⟩;have b:=se h hx hd;refine⟨_,?_,⟨rfl,rfl⟩,trivial⟩;intro w';simp[execOp,ho,resolve,invoke,builtin,b,Builtin.len_,cq c,goInt]
def tH(off:Nat):SV->SV×Prop
 |.pv (.ptr b o)=>(.pv (.ptr b (o+off)),True)
 |.pv (.iptr e rows i k)=>(.pv (.iptr e rows i (k+off)),True)
 |.sptr p i k=>(.sptr p i (k+off),True)
 |_=>(.pv .bot,False)
theorem N2{g:Gh}{st:St}{a:Act}{w:ab}{off:Nat}{x:SV}{v:an}(f:aO g w x v none)(m:cL g st a w x v)(hd:(tH off x).2):
 ((∃ q : Addr, v = .pointer (some q) ∧ aO g w (tH off x).1 (.pointer (some (q.add off))) none ∧ cL g st a w (tH off x).1 (.pointer (some (q.add off)))) ∨
  (∃p i k,x=.sptr p i k∧∀nw e rows,aj st p≠.own nw e rows)):=by
 unfold tH at hd⊢;split at hd;obtain⟨_,h1,rfl⟩:=f;exact .inl ⟨_,rfl,⟨rfl,h1,by rw[gW]⟩,trivial⟩;obtain⟨_,c,s,arr,T,fz,vs,rfl,h,j,l⟩:=f;exact .inl ⟨_,rfl,⟨rfl,c,s,arr,T,fz,vs,by rw[gW,Xf],h,j,l⟩,trivial⟩;rename_i p i k;by_cases hp:∃nw e rows,aj st p=.own nw e rows;obtain⟨nw,e,rows,hp⟩:=hp;obtain⟨c,n,cp,h1,rfl⟩:=m nw e rows hp;refine .inl ⟨_,rfl,rfl,λr e' d b=>?_⟩;rw[hp]at b;cases b;exact⟨c,n,cp,h1,by rw[gW,Xf]⟩;exact .inr ⟨p,i,k,rfl,λnw e rows o=>hp ⟨nw,e,rows,o⟩⟩;cases hd
def live(st:St):SV->Prop
 |.sptr p _ _=>match aj st p with
  |.own _ _ _=>True
  |_=>False
 |_=>True
theorem xc{g:Gh}{st:St}{a:Act}{w:ab}{off:Nat}{x:SV}{v:an}(e:aO g w x v none)(d:cL g st a w x v)(hd:(tH off x).2)(c:live st x):
 ∃q:Addr,v=.pointer (some q)∧aO g w (tH off x).1 (.pointer (some (q.add off))) none∧cL g st a w (tH off x).1 (.pointer (some (q.add off))):=by
 rcases N2 e d hd with h|⟨p,i,k,rfl,hn⟩;exact h;unfold live at c;cases b:aj st p<;>simp only[b]at c;exact absurd b (hn _ _ _)
def sg(P:aa)(st:St)(t:ah)(f:Nat)(x:SV):SV×Prop:=
 match b5 P t f with
 |some off=>((tH off x).1,(tH off x).2∧live st x)
 |none=>(.pv .bot,False)
theorem xd{P:aa}{st:St}(o:ai)(t:ah)(f:Nat)(x:ae)(ho:o.op=.fieldAddr t x f):
 kz P st o ((sg P st t f (mv st x)).1,gc st x∧(sg P st t f (mv st x)).2):=by
 intro g a w h ⟨hx,hd⟩;obtain⟨j,e⟩:=bm h x hx;unfold sg at hd⊢;cases hs:b5 P t f with
 |none=>rw[hs]at hd;cases hd
 |some off=>
  rw[hs]at hd;simp only at hd⊢;obtain⟨q,l,h1,d⟩:=xc j e hd.1 hd.2;refine⟨_,?_,h1,d⟩;unfold b5 at hs;split at hs
  case h_2=>cases hs
  rename_i n k;split at hs
  case h_2=>cases hs
  rename_i m b;split at hs
  case h_2=>cases hs
  rename_i i hi;split at hs
  case isTrue=>cases hs
  rename_i c;cases hs;intro w';simp[execOp,ho,l,Instr.fieldAt,cq k,b,Instr.sureAddr,fieldPlace,run_sizeOf hi,c]
def FO(i:Nat):SV->SV
 |.pv (.seq _ e rows)=>.pv (.iptr e rows i 0)
 |.al p=>.sptr p i 0
 |.loc p lo _=>.sptr p (lo+i) 0
 |_=>.pv .bot
theorem JQ{g:Gh}{st:St}{a:Act}{w:ab}(h:Sim g st a w){x:ae}{e i:Nat}(z:gc st x)(hs:jV st e (mv st x))(hi:i<(rowsOf st (mv st x)).length):
 ∃(q:Addr)(cap:Nat),a.eval x=.slice (some q) (rowsOf st (mv st x)).length cap∧aO g w (FO i (mv st x)) (.pointer (some (q.add (i*e)))) none∧cL g st a w (FO i (mv st x)) (.pointer (some (q.add (i*e)))):=by
 obtain⟨s,k⟩:=bm h x z;unfold jV at hs;split at hs;rename_i nw e' rows d;subst hs;rw[d]at s hi⊢;obtain⟨_,q,cap,j,_,C⟩:=s;rcases C with rfl|⟨c,off,arr,T,fz,vs,rfl,r,_,t,u⟩;simp[rowsOf]at hi;exact⟨_,cap,j,⟨rfl,c,off,arr,T,fz,vs,by rw[gW];simp,r,t,u⟩,trivial⟩;rename_i v d;rw[d]at hi;simp[rowsOf]at hi;rename_i p d;rw[d]at k hi⊢;split at hs;rename_i nw e' rows hp;subst hs;obtain⟨bl,y⟩:=h.own;have j:=k (by rw[hp];rfl);have:=bT y (p:=p) (by rw[hp];rfl);rw[hp]at this;simp only[rowsOf,hp]at hi⊢;rcases this with⟨_,rfl,l⟩|⟨c,_,cap,arr,T,vs,l,_⟩;simp at hi;refine⟨_,cap,by rw[j,l],rfl,λo e' f b=>?_⟩;rw[hp]at b;cases b;exact⟨c,_,cap,l,by rw[gW];simp⟩;cases hs;rename_i p lo A d;rw[d]at k hi⊢;split at hs;rename_i nw e' rows hp;subst hs;simp only[rowsOf,hp,Wf,Vy]at hi⊢;obtain⟨h1,r,q,cap,j,_,B,_⟩:=k nw e' rows hp;rcases B with rfl|⟨c,n,cp,m,rfl⟩;omega;refine⟨_,cap,by rw[j];congr 1;omega,rfl,λo e' f b=>?_⟩;rw[hp]at b;cases b;exact⟨c,n,cp,m,by rw[gW,←Zw];simp⟩;cases hs;cases hs
def HN(P:aa)(st:St)(t:ah)(x i:SV):SV×Prop:=
 match bU P t with
 |some e=>match x with
  |.pv (.bsl b e' off n _)=>(.pv (.ptr b (off+(bC i).toNat*e)),e'=e∧iu i∧0<=bC i∧bC i<(n:Int))
  |x=>(FO (bC i).toNat x,jV st e x∧iu i∧0<=bC i∧bC i<(rowsOf st x).length)
 |none=>match nH P t with
  |some (n,e)=>((tH ((bC i).toNat*e) x).1,(tH ((bC i).toNat*e) x).2∧live st x∧iu i∧0<=bC i∧bC i<(n:Int))
  |none=>(.pv .bot,False)
theorem FP{P:aa}{st:St}(o:ai)(t:ah)(x i:ae)(ho:o.op=.indexAddr t x i):
 kz P st o ((HN P st t (mv st x) (mv st i)).1,gc st x∧gc st i∧(HN P st t (mv st x) (mv st i)).2):=by
 intro g a w h ⟨hx,f,hd⟩;unfold HN at hd⊢;cases hs:bU P t with
 |some e=>
  rw[hs]at hd;simp only at hd⊢;split at hd
  .rename_i b e' off n cap E;obtain⟨rfl,k,l,m⟩:=hd;have j:=cM h f k;obtain⟨v,_⟩:=bm h x hx;rw[E]at v;obtain⟨_,D,_,s⟩:=v;refine⟨.pointer (some ((⟨g.μ b,off,none⟩:Addr).add ((bC (mv st i)).toNat*e'))),?_,⟨rfl,D,by rw[gW]⟩,trivial⟩;unfold bU at hs;split at hs
   case h_2=>cases hs
   rename_i A r;simp only[VW]at hs;obtain⟨u,c,rfl⟩:=hs;intro w';simp only[execOp,ho,s,j,Instr.indexAt,asIntOf,bD,bN,bK,cq r,Vt (And.intro l m),run_sizeOf c]
  rename_i F;obtain⟨h1,k,l,m⟩:=hd;have j:=cM h f k;obtain⟨q,cap,s,y,z⟩:=JQ h hx h1 (i:=(bC (mv st i)).toNat) (by omega);refine⟨_,?_,y,z⟩;unfold bU at hs;split at hs
  case h_2=>cases hs
  rename_i A r;simp only[VW]at hs;obtain⟨u,c,rfl⟩:=hs;intro w';simp only[execOp,ho,s,j,Instr.indexAt,asIntOf,bD,bN,bK,cq r,Vt (And.intro l m),run_sizeOf c]
 |none=>
  rw[hs]at hd;simp only at hd⊢;cases d:nH P t with
  |none=>rw[d]at hd;cases hd
  |some p=>
   obtain⟨n,e⟩:=p;rw[d]at hd;simp only at hd⊢;obtain⟨h1,k,l,m,y⟩:=hd;have j:=cM h f l;obtain⟨v,C⟩:=bm h x hx;obtain⟨q,s,z,B⟩:=xc v C h1 k;refine⟨_,?_,z,B⟩;unfold nH at d;split at d
   case h_2=>cases d
   rename_i G A r;simp only[VW,W8]at d;obtain⟨u,c,rfl,rfl⟩:=d;intro w';simp only[execOp,ho,s,j,Instr.indexAt,Instr.sureAddr,asIntOf,bD,bN,bK,cq r,Vt (And.intro m y),run_sizeOf c]
def Dg(st:St)(b k:Nat):SV:=
 match aj st (.cell b k)with
 |.pv x=>.pv x
 |.own _ _ _=>.al (.cell b k)
 |.omap _ _=>.al (.cell b k)
 |_=>.pv .bot
def ld1(st:St):SV->SV×Prop
 |.pv (.ptr b o)=>(Dg st b o,o<(st.h.getD b []).length)
 |.pv (.iptr e rows i k)=>(.pv ((rows.getD i []).getD k .bot),i<rows.length∧k<e)
 |.sptr p i k=>match aj st p with
  |.own _ e rows=>(.pv ((rows.getD i []).getD k .bot),i<rows.length∧k<e)
  |_=>(.pv .bot,False)
 |_=>(.pv .bot,False)
def yN:SV->Prop
 |.pv _=>True
 |_=>False
def mr:SV->PV
 |.pv x=>x
 |_=>.bot
def UT(st:St)(n:Nat):SV->SV×Prop
 |.pv (.ptr b o)=>(.pv (.agg (((st.h.getD b []).drop o).take n|>.map mr)),o+n<=(st.h.getD b []).length∧∀x∈((st.h.getD b []).drop o).take n,yN x)
 |.pv (.iptr e rows i k)=>(.pv (.agg (((rows.getD i []).drop k).take n)),i<rows.length∧k+n<=e)
 |.sptr p i k=>match aj st p with
  |.own _ e rows=>(.pv (.agg (((rows.getD i []).drop k).take n)),i<rows.length∧k+n<=e)
  |_=>(.pv .bot,False)
 |_=>(.pv .bot,False)
def C9(P:aa)(st:St)(t:ah)(x:SV):SV×Prop:=
 match aZ P t with
 |some (false,_)=>ld1 st x
 |some (true,n)=>UT st n x
 |none=>(.pv .bot,False)
theorem ms{x:SV}(h:yN x):x=.pv (mr x):=by
 unfold yN at h;split at h;rfl;cases h
theorem sY{P:aa}{t:ah}{n:Nat}(w:ab)(a:Addr)(vs:aG)(h:aZ P t=some (true,n))(hn:vs.length=n)(c:∀j v,vs[j]?=some v->w.cell? (a.add j)=some v):
 (loadVar t a).run P w=.ok (.agg vs.toArray) w:=by
 obtain⟨h1,b⟩:=jL h w;simp only[loadVar,bD,h1,bK,Xl,b];rw[←hn,run_loadCells_list w a vs c];rfl
theorem qR{P:aa}{t:ah}{n:Nat}(w:ab)(a:Addr)(v:an)(h:aZ P t=some (false,n))(b:w.cell? a=some v):
 (loadVar t a).run P w=.ok v w:=by
 obtain⟨h1,_⟩:=jL h w;simp only[loadVar,bD,h1,bK,We,WM,run_load,b]
theorem FQ{g:Gh}{w:ab}{e:Nat}{rows:aT}{vs:aG}{arr:Array an}{off c:Nat}{T:ah}{fz:Nat×Nat}(f:w.heap[c]?=some (.cells arr T fz))
 (h:aK g e rows vs) (hp:vs<+:arr.toList.drop off) {i:Nat} (hi:i<rows.length):
 (rows.getD i []).length=e∧∃b,b.length=e∧ax g (rows.getD i []) b∧∀j v,b[j]?=some v->w.cell? ⟨c,off+i*e+j,none⟩=some v:=by
 have k:rows[i]?=some (rows.getD i []):=by simp[List.getD,Vq hi]
 obtain⟨d,b,a,hj⟩:=HM h hp k;exact⟨d,b,by rw[a.length,d],a,λj v l=>by rw[cell_of f];exact hj j v l⟩
theorem RZ{P:aa}{g:Gh}{w:ab}{t:ah}{m e:Nat}{rows:aT}{vs:aG}{arr:Array an}{off c:Nat}{T:ah}{fz:Nat×Nat}(n:aZ P t=some (false,m))
 (j:w.heap[c]?=some (.cells arr T fz)) (h:aK g e rows vs) (hp:vs<+:arr.toList.drop off) {i k:Nat} (hi:i<rows.length) (hk:k<e):
 ∃v,(loadVar t ⟨c,off+i*e+k,none⟩).run P w=.ok v w∧Fit g ((rows.getD i []).getD k .bot) v:=by
 obtain⟨p,b,f,d,hj⟩:=FQ j h hp hi;have a:k<(rows.getD i []).length:=by omega
 obtain⟨v,o,l⟩:=d.get k ((rows.getD i []).getD k .bot) (by simp only[Vr];rw[Vq (by simpa only[Vr]using a)];rfl);exact⟨v,qR w _ v n (hj k v o),l⟩
theorem R0{P:aa}{g:Gh}{w:ab}{t:ah}{n e:Nat}{rows:aT}{vs:aG}{arr:Array an}{off c:Nat}{T:ah}{fz:Nat×Nat}(m:aZ P t=some (true,n))
 (l:w.heap[c]?=some (.cells arr T fz)) (h:aK g e rows vs) (hp:vs<+:arr.toList.drop off) {i k:Nat} (hi:i<rows.length) (hk:k+n<=e):
 ∃v,(loadVar t ⟨c,off+i*e+k,none⟩).run P w=.ok v w∧Fit g (.agg (((rows.getD i []).drop k).take n)) v:=by
 obtain⟨o,b,f,d,hj⟩:=FQ l h hp hi;refine⟨_,sY w _ ((b.drop k).take n) m (by simp;omega) (λj v a=>?_),_,rfl,by simpa using(d.drop k).take n⟩;rw[Wg]at a;split at a;rw[Wk]at a;rw[gW,Xf];exact hj _ v a;cases a
theorem Dh{P:aa}{st:St}(o:ai)(t:ah)(x:ae)(ho:o.op=.load t x):
 N0 P st o ((C9 P st t (mv st x)).1,gc st x∧(C9 P st t (mv st x)).2):=by
 intro g a w h ⟨hx,hd⟩;obtain⟨C,M⟩:=bm h x hx;obtain⟨bl,N⟩:=h.own;have f:∀(q:Addr)(v:an),a.eval x=.pointer (some q)->(loadVar t q).run P w=.ok v w->(execOp a.eval o).run P w=.ok (.value v) w:=by
  intro q v X d;simp only[execOp,ho,X,Instr.loadAt,Instr.sureAddr,bD,bN,bK,d]
 unfold C9 at hd⊢;cases s:aZ P t with
 |none=>rw[s]at hd;cases hd
 |some p=>
  obtain⟨W,n⟩:=p;rw[s]at hd;cases W with
  |false=>
   simp only at hd⊢;unfold ld1 at hd⊢;split at hd;rename_i b k m;rw[m]at C;simp only[m]at hd⊢;obtain⟨_,F,d⟩:=C;have r:b<st.h.length:=h.n▸F;obtain⟨arr,T,h1,⟨J,_⟩,E⟩:=N.blocks b (st.h[b]) (Vq r);simp only[List.getD,Vq r,V7]at hd;obtain⟨hin,hs⟩:=E k ((st.h[b])[k]) (Vq hd);have D:aA g a w (.cell b k)=arr.getD k undef:=by simp[aA,h1]
   have H:=f _ (arr.getD k undef) d (qR w _ _ s (by rw[cell_of h1];simp[Array.getD,J,hd]));have V:aj st (.cell b k)=(st.h[b])[k]:=by simp[aj,Vq r,Vq hd]
   refine⟨_,H,?_⟩;unfold Dg;rw[V];cases z:(st.h[b])[k]with
   |pv y=>rw[z]at hs;exact⟨⟨rfl,hs.2⟩,trivial⟩
   |own nw e rows=>exact⟨rfl,λ_=>D.symm⟩
   |omap nw es=>exact⟨rfl,λ_=>D.symm⟩
   |al p=>rw[z]at hin;cases hin
   |loc p i j=>rw[z]at hin;cases hin
   |sptr p i j=>rw[z]at hin;cases hin
   |agl xs=>rw[z]at hin;cases hin
   |opt c y=>rw[z]at hin;cases hin
   rename_i e rows i k m;rw[m]at C;simp only[m]at hd⊢;obtain⟨_,c,off,arr,T,fz,vs,d,J,E,U⟩:=C;obtain⟨v,G,l⟩:=RZ s (h.I _ _ J) E U hd.1 hd.2;exact⟨v,f _ v d G,⟨rfl,l⟩,trivial⟩;rename_i p i k m;rw[m]at M;split at hd;rename_i nw e rows hp;simp only[hp];obtain⟨c,Z,cp,A,d⟩:=M nw e rows hp;have:=bT N (p:=p) (by rw[hp];rfl);rw[hp]at this;rcases this with⟨_,rfl,_⟩|⟨c',_,cap,arr,T,vs,O,Q,_,_,R,S,_⟩;simp at hd;rw[O]at A;cases A;obtain⟨v,G,l⟩:=RZ (off:=0) s Q R (by simpa using S) hd.1 hd.2;refine⟨v,f _ v d (by simpa using G),⟨rfl,l⟩,trivial⟩;cases hd;cases hd
  |true=>
   simp only at hd⊢;unfold UT at hd⊢;split at hd;rename_i b k m;rw[m]at C;simp only[m]at hd⊢;obtain⟨_,F,d⟩:=C;have r:b<st.h.length:=h.n▸F;obtain⟨arr,T,h1,⟨J,_⟩,E⟩:=N.blocks b (st.h[b]) (Vq r);simp only[List.getD,Vq r,V7]at hd⊢;have K:(((arr.toList).drop k).take n).length=n:=by simp;omega
   refine⟨_,f _ _ d (sY w _ (((arr.toList).drop k).take n) s K (λj v d=>?_)),⟨rfl,_,rfl,?_⟩,trivial⟩;rw[Wg]at d;split at d;rw[Wk,Vw]at d;rw[gW,cell_of h1];exact d;cases d;have key:∀(xs:bj)(B:aG),xs.length=B.length->(∀x∈xs,yN x)->(∀(j:Nat)(x:SV)(u:an),xs[j]?=some x->B[j]?=some u->∃b':Option Nat,aO g w x u b')->ax g (xs.map mr) B:=by
    intro xs
    induction xs with
    |nil=>intro B s _ _;cases B with
     |nil=>simp[ax]
     |cons _ _=>simp at s
    |cons x xs Y=>
     intro B s hp hs;cases B with
     |nil=>simp at s
     |cons u B=>
      refine⟨u,B,rfl,?_,Y B (by simpa using s) (λy hy=>hp y (VG _ hy)) (λj y v hy d=>hs (j+1) y v (by simpa using hy) (by simpa using d))⟩;obtain⟨b',hx⟩:=hs 0 x u rfl rfl;rw[ms (hp x (VN ..))]at hx;exact hx.2
   refine key _ _ (by simp;omega) hd.2 (λj x u hx L=>?_);rw[Wg]at hx L;split at hx;rename_i hj;rw[Vt hj]at L;rw[Wk]at hx L;obtain⟨_,hs⟩:=E (k+j) x hx;refine⟨bl (.cell b (k+j)),?_⟩;have:arr.getD (k+j) undef=u:=by
    rw[Vw]at L;simp[VJ,L]
   rw[←this];exact hs;cases hx;rename_i e rows i k m;rw[m]at C;simp only[m]at hd⊢;obtain⟨_,c,off,arr,T,fz,vs,d,J,E,U⟩:=C;obtain⟨v,G,l⟩:=R0 s (h.I _ _ J) E U hd.1 hd.2;exact⟨v,f _ v d G,⟨rfl,l⟩,trivial⟩;rename_i p i k m;rw[m]at M;split at hd;rename_i nw e rows hp;simp only[hp];obtain⟨c,Z,cp,A,d⟩:=M nw e rows hp;have:=bT N (p:=p) (by rw[hp];rfl);rw[hp]at this;rcases this with⟨_,rfl,_⟩|⟨c',_,cap,arr,T,vs,O,Q,_,_,R,S,_⟩;simp at hd;rw[O]at A;cases A;obtain⟨v,G,l⟩:=R0 (off:=0) s Q R (by simpa using S) hd.1 hd.2;refine⟨v,f _ v d (by simpa using G),⟨rfl,l⟩,trivial⟩;cases hd;cases hd
end Go.AX
namespace Go.AX
def Ra(op:UnOp)(x:SV):SV×Prop:=
 match op with
 |.not=>(.bool (!tX x),C8 x)
 |.neg=>(.int (ir x) ((ir x).wrap (0 -bC x)),iu x)
 |_=>(.pv .bot,False)
theorem JR{P:aa}{st:St}(o:ai)(op:UnOp)(t:ah)(x:ae)(ho:o.op=.unOp op t x):
 kz P st o ((Ra op (mv st x)).1,gc st x∧(Ra op (mv st x)).2):=by
 intro g a w h ⟨hx,hd⟩;unfold Ra at hd⊢;simp only[execOp,ho];cases op<;>simp only at hd⊢
 case not=>
  rw[ml h hx hd];simp only[Op.unary,bD,bN,bK];exact⟨_,λ_=>rfl,⟨rfl,rfl⟩,trivial⟩
 case neg=>
  rw[cM h hx hd];simp only[Op.unary,Op.intArith,bD,bN,bK];exact⟨_,λ_=>rfl,⟨rfl,rfl⟩,trivial⟩
 all_goals exact hd.elim
theorem yO{P:aa}{st:St}(o:ai)(x:ae)(ho:o.op=.move x∨o.op=.assign x):
 kz P st o (mv st x,gc st x):=by
 intro g a w h hx;obtain⟨c,b⟩:=bm h x hx;exact⟨a.eval x,λ_=>by rcases ho with ho|ho<;>simp[execOp,ho],c,b⟩
def Az(c x y:SV):SV×Prop:=
 (.bool (bif tX c then tX x else tX y),C8 c∧(tX c=true->C8 x)∧(tX c=false->C8 y))
theorem AA{P:aa}{st:St}(o:ai)(c x y:ae)(ho:o.op=.pick c x y):
 kz P st o ((Az (mv st c) (mv st x) (mv st y)).1,gc st c∧(tX (mv st c)=true->gc st x)∧(tX (mv st c)=false->gc st y)∧(Az (mv st c) (mv st x) (mv st y)).2):=by
 intro g a w h ⟨f,hx,hy,hd⟩;obtain⟨h1,d,e⟩:=hd;simp only[execOp,ho];rw[ml h f h1];simp only[asBool,bD,bN,bK];cases b:tX (mv st c)with
 |true=>
  refine⟨_,λ_=>rfl,⟨rfl,?_⟩,trivial⟩;simp only[Xl,ml h (hx b) (d b),b,cond_true];rfl
 |false=>
  refine⟨_,λ_=>rfl,⟨rfl,?_⟩,trivial⟩;simp only[We,WM,ml h (hy b) (e b),b,cond_false];rfl
def HP(i:Nat)(x:SV):SV×Prop:=
 match x with
 |.pv (.tup xs)=>(.pv (xs.getD i .bot),i<xs.length)
 |_=>(.pv .bot,False)
theorem FR{P:aa}{st:St}(o:ai)(x:ae)(i:Nat)(ho:o.op=.extract x i):
 kz P st o ((HP i (mv st x)).1,gc st x∧(HP i (mv st x)).2):=by
 intro g a w h ⟨hx,hd⟩;obtain⟨d,_⟩:=bm h x hx;unfold HP at hd⊢;split at hd;rename_i xs e;rw[e]at d;simp only[e]at hd⊢;obtain⟨_,vs,j,f⟩:=d;obtain⟨v,c,b⟩:=f.get i _ (Vq hd);refine⟨v,?_,⟨rfl,by simpa[List.getD,Vq hd]using b⟩,trivial⟩;have:vs[i]?=some v:=by rw[←Vw];exact c
 intro w';simp[execOp,ho,j,Instr.extract,this];cases hd
def bn:PV->aD
 |.agg xs=>xs
 |.lit (.agg vs)=>vs.toList.map .lit
 |x=>[x]
def yP(P:aa)(t:ah)(f:Nat):Option (Nat×Bool×Nat):=
 match P.underlying t with
 |some (.struct a)=>match a[f]?with
  |some x=>(aZ P x.type).map λp=>(x.offset,p)
  |none=>none
 |_=>none
def d9:SV->Prop
 |.pv (.agg _)=>True
 |.pv (.lit (.agg _))=>True
 |_=>False
def xe(P:aa)(t:ah)(f:Nat)(x:SV):SV×Prop:=
 match yP P t f with
 |some (off,false,_)=>(.pv ((bn (mr x)).getD off .bot),d9 x∧off<(bn (mr x)).length)
 |some (off,true,n)=>(.pv (.agg (((bn (mr x)).drop off).take n)),d9 x∧off+n<=(bn (mr x)).length)
 |none=>(.pv .bot,False)
theorem uv{g:Gh}{w:ab}{x:SV}{v:an}(h:aO g w x v none)(hs:d9 x):∃vs:Array an,v=.agg vs∧ax g (bn (mr x)) vs.toList:=by
 unfold d9 at hs;split at hs;obtain⟨_,vs,rfl,b⟩:=h;exact⟨vs,rfl,b⟩;rename_i vs;have a:v=.agg vs:=h.2;subst a;refine⟨vs,rfl,?_⟩;show ax g (vs.toList.map PV.lit) vs.toList
 induction vs.toList with
 |nil=>simp[ax]
 |cons u d c=>exact⟨u,d,rfl,rfl,c⟩
 cases hs
theorem AB{P:aa}{t:ah}{n:Nat}(w:ab)(cs:Array an)(off:Nat)(h:aZ P t=some (true,n)):
 (part t cs off).run P w=.ok (.agg (cs.extract off (off+n))) w:=by
 obtain⟨h1,a⟩:=jL h w;simp[part,h1,a]
theorem xf{P:aa}{t:ah}{n:Nat}(w:ab)(cs:Array an)(off:Nat)(v:an)(h:aZ P t=some (false,n))(a:cs[off]?=some v):
 (part t cs off).run P w=.ok v w:=by
 obtain⟨h1,_⟩:=jL h w;simp[part,h1,a]
theorem AD{P:aa}{st:St}(o:ai)(t:ah)(x:ae)(f:Nat)(ho:o.op=.field t x f):
 kz P st o ((xe P t f (mv st x)).1,gc st x∧(xe P t f (mv st x)).2):=by
 intro g a w h ⟨hx,hd⟩;obtain⟨m,_⟩:=bm h x hx;unfold xe at hd⊢;cases hi:yP P t f with
 |none=>rw[hi]at hd;cases hd
 |some q=>
  obtain⟨off,b,n⟩:=q;rw[hi]at hd;unfold yP at hi;split at hi
  case h_2=>cases hi
  rename_i s r;split at hi
  case h_2=>cases hi
  rename_i d e;simp only[VW,W8]at hi;obtain⟨q,j,rfl,p⟩:=hi;rw[p]at j;clear p;cases b with
  |false=>
   simp only at hd⊢;obtain⟨vs,k,c⟩:=uv m hd.1;obtain⟨v,l,i⟩:=c.get _ _ (Vq hd.2);refine⟨v,?_,⟨rfl,by simpa[List.getD,Vq hd.2]using i⟩,trivial⟩;intro w';simp[execOp,ho,k,Instr.field,cq r,e,asAgg,xf w' vs d.offset v j (by rw[←Vw];exact l)]
  |true=>
   simp only at hd⊢;obtain⟨vs,k,c⟩:=uv m hd.1;refine⟨.agg (vs.extract d.offset (d.offset+n)),?_,⟨rfl,_,rfl,?_⟩,trivial⟩;intro w';simp[execOp,ho,k,Instr.field,cq r,e,asAgg,AB w' vs d.offset j];have:=(c.drop d.offset).take n;rw[aag];simpa[List.extract]using this
def JS(P:aa)(t:ah):Option ce:=
 match P.underlying t with
 |some (.int k)=>some k
 |_=>none
def HQ(P:aa)(a dst:ah)(x:SV):SV×Prop:=
 match JS P a,JS P dst with
 |some _,some k=>(.int k (k.wrap (bC x)),iu x)
 |_,_=>match P.underlying a,P.underlying dst with
  |some .string,some .string=>(.pv (.lit (.string (nj x))),tY x)
  |_,_=>(.pv .bot,False)
theorem FT{P:aa}{st:St}(o:ai)(c dst:ah)(x:ae)(ho:o.op=.convert c dst x):
 kz P st o ((HQ P c dst (mv st x)).1,gc st x∧(HQ P c dst (mv st x)).2):=by
 intro g a w h ⟨hx,hd⟩;unfold HQ at hd⊢;split at hd
 .rename_i f k h1 b;simp only[h1,b]at hd⊢;unfold JS at h1 b;split at h1
  case h_2=>cases h1
  rename_i d;split at b
  case h_2=>cases b
  rename_i e;cases b;refine⟨_,?_,⟨rfl,rfl⟩,trivial⟩;intro w';simp[execOp,ho,cM h hx hd,convert,cq d,cq e,Conv.intToInt]
 split at hd;rename_i h1 b;refine⟨.string (nj (mv st x)),?_,?_,?_⟩;intro w';simp[execOp,ho,se h hx hd,convert,cq h1,cq b];exact⟨rfl,rfl⟩;trivial;cases hd
def Rb(st:St)(x:SV):SV×Prop:=
 match x with
 |.pv (.ptr b o)=>(.pv (.ptr b o),True)
 |.pv (.iptr e r i k)=>(.pv (.iptr e r i k),True)
 |.pv (.fn (.func f) a b)=>(.pv (.fn (.func f) a b),True)
 |.pv (.lit (.func (.func f) a b))=>(.pv (.lit (.func (.func f) a b)),True)
 |.sptr p i k=>(.sptr p i k,live st (.sptr p i k))
 |_=>(.pv .bot,False)
theorem JT{P:aa}{st:St}(o:ai)(x:ae)(ho:o.op=.nilCheck x):
 kz P st o ((Rb st (mv st x)).1,gc st x∧(Rb st (mv st x)).2):=by
 intro g a w h ⟨hx,hd⟩;obtain⟨e,_⟩:=bm h x hx;unfold Rb at hd⊢;split at hd;rename_i b;rw[b]at e;simp only[b];obtain⟨_,h1,d⟩:=e;exact⟨_,λ_=>by simp[execOp,ho,d],⟨rfl,h1,rfl⟩,trivial⟩;rename_i b;rw[b]at e;simp only[b];obtain⟨_,c,off,arr,T,fz,vs,d,l⟩:=e;exact⟨_,λ_=>by simp[execOp,ho,d],⟨rfl,c,off,arr,T,fz,vs,rfl,l⟩,trivial⟩;rename_i b;rw[b]at e;simp only[b];obtain⟨_,p,q,d,l⟩:=e;exact⟨_,λ_=>by simp[execOp,ho,d],⟨rfl,p,q,rfl,l⟩,trivial⟩;rename_i b;rw[b]at e;simp only[b];have d:a.eval x=_:=e.2;exact⟨_,λ_=>by simp[execOp,ho,d],⟨rfl,rfl⟩,trivial⟩;rename_i p i k b;obtain⟨_,r⟩:=bm h x hx;rw[b]at r;simp only[b];unfold live at hd;cases f:aj st p<;>simp only[f]at hd;obtain⟨c,n,cp,h1,d⟩:=r _ _ _ f;exact⟨_,λ_=>by simp[execOp,ho,d];rfl,rfl,λs e' m j=>⟨c,n,cp,h1,by rw[f]at j;cases j;rfl⟩⟩;cases hd
def PO(l h:Nat):SV->SV
 |.pv (.seq nw e rows)=>.pv (.seq nw e ((rows.take h).drop l))
 |.pv (.lit v)=>.pv (.lit v)
 |.al p=>.loc p l h
 |.loc p lo _=>.loc p (lo+l) (lo+h)
 |_=>.pv .bot
def bnd(st:St)(d:Nat):Option ae->Int
 |none=>d
 |some x=>bC (mv st x)
def dI(st:St):Option ae->Prop
 |none=>True
 |some x=>gc st x∧iu (mv st x)
def HR(P:aa)(st:St)(t:ah)(x:SV)(lo hi:Option ae):SV×Prop:=
 match bU P t with
 |some e=>match x with
  | .pv (.bsl b e' off n cap) => (.pv (.bsl b e (off + (bnd st 0 lo).toNat * e) ((bnd st n hi).toNat - (bnd st 0 lo).toNat) (cap - (bnd st 0 lo).toNat)),
   e'=e∧dI st lo∧dI st hi∧0<=bnd st 0 lo∧bnd st 0 lo<=bnd st n hi∧bnd st n hi<=n∧bnd st 0 lo<cap)
  | x => (PO (bnd st 0 lo).toNat (bnd st (rowsOf st x).length hi).toNat x,
   jV st e x∧dI st lo∧dI st hi∧0<=bnd st 0 lo∧bnd st 0 lo<=bnd st (rowsOf st x).length hi∧bnd st (rowsOf st x).length hi<=(rowsOf st x).length)
 |none=>match P.underlying t with
  | some .string => (.pv (.lit (.string ((nj x).extract (bnd st 0 lo).toNat (bnd st (nj x).size hi).toNat))),
   tY x∧dI st lo∧dI st hi∧0<=bnd st 0 lo∧bnd st 0 lo<=bnd st (nj x).size hi∧bnd st (nj x).size hi<=(nj x).size)
  |_=>(.pv .bot,False)
theorem mu{P:aa}{st:St}{g:Gh}{a:Act}{w:ab}(h:Sim g st a w)(tY:Bool)(len cap:Nat)(lo hi:Option ae)(c:dI st lo)(b:dI st hi)
 (h0:0<=bnd st 0 lo) (h1:bnd st 0 lo<=bnd st len hi) (e:bnd st len hi<=len) (f:len<=cap):
 ∀w':ab,(Instr.sliceBounds tY len cap (lo.map a.eval) (hi.map a.eval) none).run P w'=.ok ((bnd st 0 lo).toNat,(bnd st len hi).toNat,cap) w':=by
 intro w';cases hi with
 |none=>
  cases lo with
  |none=>simp[Instr.sliceBounds,bnd]
  |some l=>
   simp only[bnd,dI]at*;simp only[Instr.sliceBounds,X0,Wq,cM h c.1 c.2,bD,bN,bK,run_sliceBound w' _ _ _ _ h0 h1];simp
 |some u=>
  cases lo with
  |none=>
   simp only[bnd,dI]at*;simp only[Instr.sliceBounds,X0,Wq,cM h b.1 b.2,bD,bN,bK,run_sliceBound w' _ _ cap _ h1 (by omega)];simp
  |some l=>
   simp only[bnd,dI]at*;have d:((bC (mv st u)).toNat:Int)=bC (mv st u):=ZK (by omega);simp only[Instr.sliceBounds,Wq,cM h b.1 b.2,cM h c.1 c.2,bD,bN,bK,run_sliceBound w' _ _ cap _ (by omega:(0:Int)<=bC (mv st u)) (by omega),
    run_sliceBound w' _ _ _ _ h0 (by rw[d];exact h1)]
theorem aK.cut{g:Gh}{e:Nat}{rows:aT}{vs:aG}(h:aK g e rows vs)(l u:Nat)(n:l<=u)(o:u<=rows.length):
 aK g e ((rows.take u).drop l) ((vs.take (u*e)).drop (l*e)):=by
 obtain⟨a,q,b,h1,m⟩:=aK.split (xs:=rows.take u) (ys:=rows.drop u) (by rw[Wz];exact h);have i:a.length=u*e:=by rw[h1.length,Vy];congr 1;omega
 have:vs.take (u*e)=a:=by rw[b,←i,Xw];rfl
 rw[this];obtain⟨k,p,c,d,f⟩:=aK.split (xs:=(rows.take u).take l) (ys:=(rows.take u).drop l) (by rw[Wz];exact h1);have j:k.length=l*e:=by rw[d.length,Vy,Vy];congr 1;omega
 rw[c,←j,Zp];exact f;rfl
theorem jW{vs m:aG}(h:vs<+:m)(l u:Nat):(vs.take u).drop l<+:m.drop l:=by
 obtain⟨r,b⟩:=(Ze u vs).trans h;by_cases a:l<=(vs.take u).length;exact⟨r,by rw[←b,WB a]⟩;rw[VS (by omega)];exact List.nil_prefix
theorem FU{P:aa}{st:St}(o:ai)(t:ah)(x:ae)(lo hi:Option ae)(ho:o.op=.slice t x lo hi none):
 kz P st o ((HR P st t (mv st x) lo hi).1,gc st x∧(HR P st t (mv st x) lo hi).2):=by
 intro g a w h ⟨hx,hd⟩;unfold HR at hd⊢;cases hs:bU P t with
 |some e=>
  rw[hs]at hd;simp only at hd⊢;split at hd
  .rename_i b e' off n cap z;obtain⟨rfl,E,F,G,H,I,h7⟩:=hd;obtain⟨A,_⟩:=bm h x hx;rw[z]at A;obtain⟨_,O,d,j⟩:=A;unfold bU at hs;split at hs
   case h_2=>cases hs
   rename_i X M;simp only[VW]at hs;obtain⟨i,s,rfl⟩:=hs;refine⟨sliced (some ⟨g.μ b,off,none⟩) (bnd st 0 lo).toNat (bnd st n hi).toNat cap i.size,?_,⟨rfl,O,by omega,?_⟩,trivial⟩;intro w';simp only[execOp,ho,j,X0];simp only[Instr.sliceAt,bD,cq M,bK,Instr.slice,mu h true _ cap lo hi E F G H I d,run_sizeOf s,bN,sliced];rw[sliced,Vs (by omega)];simp[gW]
  rename_i ad;obtain⟨h1,E,F,G,H,I⟩:=hd;obtain⟨q,cap,j,d⟩:=oH h hx h1;obtain⟨A,N⟩:=bm h x hx;unfold bU at hs;split at hs
  case h_2=>cases hs
  rename_i X M;simp only[VW]at hs;obtain⟨i,s,rfl⟩:=hs;generalize Q:(bnd st 0 lo).toNat=L at*;generalize Y:(bnd st (rowsOf st (mv st x)).length hi).toNat=U at*;have J:L<=U:=by omega
  have f:U<=(rowsOf st (mv st x)).length:=by omega
  refine⟨sliced q L U cap i.size,?_,?_⟩;intro w';simp only[execOp,ho,j,X0];simp only[Instr.sliceAt,bD,cq M,bK,Instr.slice,mu h true _ cap lo hi E F G H I d,run_sizeOf s,bN,Q,Y,sliced];unfold jV at h1;split at h1;rename_i nw e' rows z;subst h1;rw[z]at A j d f⊢;simp only[rowsOf]at f d j;refine⟨⟨rfl,?_⟩,trivial⟩;obtain⟨_,q',m,k,_,hr⟩:=A;rw[k]at j;cases j;refine⟨_,_,by rw[sliced,Wf,Vy,WL f],by simp;omega,?_⟩;rcases hr with rfl|⟨c,off,arr,T,fz,vs,rfl,i2,i3,i4,i5⟩;left;simp;by_cases Z:cap=L;left;simp;omega;right;refine⟨c,off+L*i.size,arr,T,fz,(vs.take (U*i.size)).drop (L*i.size),by rw[Vs Z];simp[gW],i2,i3,i4.cut L U J f,?_⟩;have:=jW i5 (L*i.size) (U*i.size)
  rwa [Wx]at this
  rename_i v z;rw[z]at A j f⊢;obtain⟨_,k⟩:=A;rw[iB h1]at k;simp only[rowsOf,List.length_nil]at f;rw[k]at j;cases j;have R:U=0:=by omega
  have y:L=0:=by omega
  refine⟨⟨rfl,?_⟩,trivial⟩;show sliced none _ _ 0 i.size=v;rw[iB h1,R,y];simp[sliced];rename_i p z;rw[z]at N f j d⊢;split at h1
  .rename_i nw e' rows hp;subst h1;obtain⟨bl,O⟩:=h.own;have k:=N (by rw[hp];rfl);simp only[rowsOf,hp]at f j d;refine⟨rfl,λW e' D u=>?_⟩;rw[hp]at u;cases u;refine⟨J,f,_,_,rfl,by omega,?_,λy=>?_⟩;rotate_left;subst y;refine⟨rows.length,?_⟩;have C:=j;rw[k]at C;rw[C];have r:=bT O (p:=p) (by rw[hp];rfl);rw[hp,C]at r;have B:q.map (·.add (0*i.size))=q:=by
    rcases r with⟨_,_,l⟩|⟨c,_,m,arr,T,vs,l,_⟩;simp only[Value.slice.injEq]at l;rw[l.1];rfl;simp only[Value.slice.injEq]at l;rw[l.1];simp[gW]
   rw[B];simp;by_cases K:L=U;exact .inl K;right;have:=bT O (p:=p) (by rw[hp];rfl);rw[hp]at this;rcases this with⟨_,rfl,l⟩|⟨c,_,m,arr,T,vs,l,_⟩;simp at f;omega;rw[k,l]at j;cases j;refine⟨c,_,_,l,?_⟩;rw[Vs (by omega)];simp[gW]
  cases h1;rename_i p V ab z;rw[z]at N f j d⊢;split at h1
  .rename_i nw e' rows hp;subst h1;obtain⟨j1,j2,q',m,k,jc,hq,hz⟩:=N _ _ _ hp;simp only[rowsOf,hp,Wf,Vy]at f j d;rw[k]at j;simp only[Value.slice.injEq]at j;obtain⟨rfl,_,rfl⟩:=j;refine⟨rfl,λW e' D u=>?_⟩;rw[hp]at u;cases u;refine⟨by omega,by omega,_,_,by rw[sliced];congr 1;omega,by omega,?_,λy=>?_⟩;rotate_left;have h0:V=0:=by omega
   have Q:L=0:=by omega
   obtain⟨n0,hz⟩:=hz h0;refine⟨n0,?_⟩;rw[hz];subst Q;have r:=bT (aab h.own) (p:=p) (by rw[hp];rfl);rw[hp,hz]at r;have B:q'.map (·.add (0*i.size))=q':=by
    rcases r with⟨_,_,l⟩|⟨c,_,m,arr,T,vs,l,_⟩;simp only[Value.slice.injEq]at l;rw[l.1];rfl;simp only[Value.slice.injEq]at l;rw[l.1];simp[gW]
   rw[B];simp;by_cases K:L=U;left;omega;right;rcases hq with rfl|⟨c,n,cp,S,rfl⟩;omega;refine⟨c,n,cp,S,?_⟩;rw[Vs (by omega)];simp[gW,Zw]
  cases h1;cases h1
 |none=>
  rw[hs]at hd;simp only at hd⊢;split at hd;rename_i M;obtain⟨h1,E,F,G,H,I⟩:=hd;refine⟨.string ((nj (mv st x)).extract (bnd st 0 lo).toNat (bnd st (nj (mv st x)).size hi).toNat),?_,⟨rfl,rfl⟩,trivial⟩;intro w';simp only[execOp,ho,se h hx h1,X0];simp only[Instr.sliceAt,bD,cq M,bK,Instr.slice,Option.isSome_none,We,WM,mu h false _ _ lo hi E F G H I (Vu _),bN];cases hd
theorem sZ{P:aa}{st:St}{g:Gh}{a:Act}{w:ab}(h:Sim g st a w)(len cap:Nat)(lo hi m:ae)(c:dI st (some lo))(b:dI st (some hi))(d:dI st (some m))(f:bC (mv st m)=bC (mv st hi))
 (h0:0<=bC (mv st lo)) (h1:bC (mv st lo)<=bC (mv st hi)) (i:bC (mv st hi)<=len) (j:len<=cap):
 ∀w':ab,(Instr.sliceBounds true len cap (some (a.eval lo)) (some (a.eval hi)) (some (a.eval m))).run P w'=.ok ((bC (mv st lo)).toNat,(bC (mv st hi)).toNat,(bC (mv st hi)).toNat) w':=by
 intro w';simp only[dI]at*;have e:((bC (mv st hi)).toNat:Int)=bC (mv st hi):=ZK (by omega);simp only[Instr.sliceBounds,cM h b.1 b.2,cM h c.1 c.2,cM h d.1 d.2,f,bD,bN,bK,run_sliceBound w' _ _ cap _ (by omega:(0:Int)<=bC (mv st hi)) (by omega),
  run_sliceBound w' _ _ (bC (mv st hi)).toNat _ (by omega:(0:Int)<=bC (mv st hi)) (by omega),run_sliceBound w' _ _ (bC (mv st hi)).toNat _ h0 (by rw[e];exact h1)]
def xg(P:aa)(st:St)(t:ah)(x:SV)(lo hi m:ae):SV×Prop:=
 match bU P t,x with
 |some e,.al p=>(.loc p (bC (mv st lo)).toNat (bC (mv st hi)).toNat,jV st e x∧dI st (some lo)∧dI st (some hi)∧dI st (some m)∧bC (mv st m)=bC (mv st hi)∧0<bC (mv st lo)∧bC (mv st lo)<=bC (mv st hi)∧bC (mv st hi)<=(rowsOf st x).length)
 |some e,.pv (.seq nw e' rows)=>(.pv (.seq nw e' ((rows.take (bC (mv st hi)).toNat).drop (bC (mv st lo)).toNat)),e'=e∧dI st (some lo)∧dI st (some hi)∧dI st (some m)∧bC (mv st m)=bC (mv st hi)∧0<=bC (mv st lo)∧bC (mv st lo)<=bC (mv st hi)∧bC (mv st hi)<=rows.length)
 |_,_=>(.pv .bot,False)
theorem JU{P:aa}{st:St}(o:ai)(t:ah)(x lo hi m:ae)(ho:o.op=.slice t x (some lo) (some hi) (some m)):
 kz P st o ((xg P st t (mv st x) lo hi m).1,gc st x∧(xg P st t (mv st x) lo hi m).2):=by
 intro g a w h ⟨hx,hd⟩;unfold xg at hd⊢;split at hd
 case h_3=>exact hd.elim
 case h_2=>
  rename_i e nw e' rows hs y;obtain⟨rfl,z,A,B,C,N,D,E⟩:=hd;obtain⟨q,cap,j,b⟩:=oH (e:=e') h hx (by rw[y];rfl);obtain⟨I,H⟩:=bm h x hx;unfold bU at hs;split at hs
  case h_2=>cases hs
  rename_i O J;simp only[VW]at hs;obtain⟨d,i,rfl⟩:=hs;rw[y]at I j b;simp only[rowsOf]at b j;generalize F:(bC (mv st lo)).toNat=L at*;generalize G:(bC (mv st hi)).toNat=U at*;have l:L<=U:=by omega
  have f:U<=rows.length:=by omega
  refine⟨sliced q L U U d.size,?_,⟨rfl,?_⟩,trivial⟩;intro w';simp only[execOp,ho,j,Wq];simp only[Instr.sliceAt,bD,cq J,bK,Instr.slice,sZ h rows.length cap lo hi m z A B C N D E b,run_sizeOf i,bN,F,G,sliced];obtain⟨_,q',k,n,_,V⟩:=I;rw[n]at j;cases j;refine⟨_,_,by rw[sliced,Wf,Vy,WL f],by simp;omega,?_⟩;rcases V with rfl|⟨c,off,arr,T,fz,vs,rfl,W,i3,X,Y⟩;left;simp;by_cases S:U=L;left;simp;omega;right;refine⟨c,off+L*d.size,arr,T,fz,(vs.take (U*d.size)).drop (L*d.size),by rw[Vs S];simp[gW],W,i3,X.cut L U l f,?_⟩;have:=jW Y (L*d.size) (U*d.size)
  rwa [Wx]at this
 rename_i e p hs y;obtain⟨h1,z,A,B,C,N,D,E⟩:=hd;obtain⟨q,cap,j,b⟩:=oH h hx h1;obtain⟨I,H⟩:=bm h x hx;unfold bU at hs;split at hs
 case h_2=>cases hs
 rename_i O J;simp only[VW]at hs;obtain⟨d,i,rfl⟩:=hs;generalize F:(bC (mv st lo)).toNat=L at*;generalize G:(bC (mv st hi)).toNat=U at*;have l:L<=U:=by omega
 have Q:0<L:=by omega
 have f:U<=(rowsOf st (mv st x)).length:=by omega
 refine⟨sliced q L U U d.size,?_,?_⟩;intro w';simp only[execOp,ho,j,Wq];simp only[Instr.sliceAt,bD,cq J,bK,Instr.slice,sZ h _ cap lo hi m z A B C (by omega) D E b,run_sizeOf i,bN,F,G,sliced];rw[y]at H f j b h1⊢;unfold jV at h1;simp only at h1;split at h1;rename_i nw e' rows hp;subst h1;obtain⟨bl,R⟩:=h.own;have n:=H (by rw[hp];rfl);simp only[rowsOf,hp]at f j b;refine⟨rfl,λZ e' K u=>?_⟩;rw[hp]at u;cases u;refine⟨l,f,_,U -L,rfl,Vu _,?_,λhz=>by omega⟩;by_cases r:L=U;exact .inl r;right;have s:=bT R (p:=p) (by rw[hp];rfl);rw[hp]at s;rcases s with⟨_,rfl,_⟩|⟨c,_,k,arr,T,vs,M,_⟩;simp at f;omega;refine⟨c,_,k,M,?_⟩;have v:=j;rw[n,M]at v;cases v;rw[Vs (λe=>r e.symm)];simp[gW];exact h1.elim
end Go.AX
namespace Go.AX
theorem aO.frame{g g':Gh}{w w':ab}(a:g.le g'):∀{sv:SV}{v:an}{b:Option Nat},(∀c,b=some c->w'.heap[c]?=w.heap[c]?)->aO g w sv v b->aO g' w' sv v b
 |.pv _,_,_,_,h=>⟨h.1,Fit.mono a _ _ h.2⟩
 |.own _ _ _,_,_,f,h=>h.imp id λ⟨c,h1,cap,arr,T,vs,d,e,a3,a4,a5,i,j⟩=>
  ⟨c,h1,cap,arr,T,vs,d,by rw[f c h1];exact e,a3,a4,aK.mono a _ _ _ a5,i,λhn=>Wb a.B (j hn)⟩
 |.omap _ _,_,_,f,⟨c,h1,en,ck,d,e,a3,a4⟩=>⟨c,h1,en,ck,d,by rw[f c h1];exact e,cu.mono a _ _ a3,λhn=>Wb a.B (a4.1 hn),a4.2⟩
 |.opt _ _,_,_,_,h=>⟨h.1,h.2.1,λm=>aO.frame a (λ_ l=>by cases l) (h.2.2 m)⟩
 |.al _,_,_,_,h=>h
 |.loc _ _ _,_,_,_,h=>h
 |.sptr _ _ _,_,_,_,h=>h
 |.agl _,_,_,_,⟨h,vs,h1,k⟩=>⟨h,vs,h1,ax.mono a _ _ k⟩
theorem cL.congr{g g':Gh}{st st':St}{a f:Act}{w w':ab}(hp:∀p,(aj st' p).isOwn=true->aj st' p=aj st p∧aA g' f w' p=aA g a w p):
 ∀{sv:SV}{v:an},cL g st a w sv v->cL g' st' f w' sv v
 |.pv _,_,_=>trivial
 |.own _ _ _,_,_=>trivial
 |.omap _ _,_,_=>trivial
 |.al p,v,h=>λho=>by obtain⟨h1,b⟩:=hp p ho;rw[b];exact h (by rw[←h1];exact ho)
 |.loc p lo hi,v,h=>λnw e rows d=>by
  obtain⟨h1,b⟩:=hp p (by rw[d];rfl);rw[b];exact h nw e rows (by rw[←h1];exact d)
 |.sptr p i k,v,h=>λnw e rows d=>by
  obtain⟨h1,b⟩:=hp p (by rw[d];rfl);rw[b];exact h nw e rows (by rw[←h1];exact d)
 |.agl xs,v,h=>λk x p hx ho=>by obtain⟨h1,b⟩:=hp p ho;rw[b];exact h k x p hx (by rw[←h1];exact ho)
 |.opt c x,v,h=>λj=>cL.congr hp (h j)
theorem fw{a:Act}{d:Nat}{v:an}(hd:d<a.tmps.size)(s:Nat):(a.put (some d) v).tmps.getD s undef=if d=s then v else a.tmps.getD s undef:=by
 simp only[Act.put,VJ];by_cases h:d=s;subst h;simp[hd];simp[h]
def St.put(st:St)(d:Nat)(sv:SV):St:=⟨(d,sv)::st.t,st.h⟩
theorem uw(st:St)(d:Nat)(sv:SV)(s:Nat):look (st.put d sv).t s=if d=s then sv else look st.t s:=rfl
theorem Sim.put{g:Gh}{st:St}{a:Act}{w:ab}(h:Sim g st a w){d:Nat}(hd:d<g.N){sv:SV}{v:an}(hs:aO g w sv v none)(u:cL g st a w sv v)(ho:sv.isOwn=false):
 Sim g (st.put d sv) (a.put (some d) v) w:=by
 have i:d<a.tmps.size:=by rw[h.size];exact hd
 obtain⟨bl,l⟩:=h.own;have f:∀p,(aj (st.put d sv) p).isOwn=true->aj (st.put d sv) p=aj st p∧aA g (a.put (some d) v) w p=aA g a w p:=by
  intro p hp;cases p with
  |cell b k=>exact⟨rfl,rfl⟩
  |slot s=>
   simp only[aj,uw]at hp⊢;split at hp;rw[ho]at hp;cases hp;rename_i m;simp only[Vs m,aA,fw i,aav]
 refine{size:=?_,defs:=h.defs,env:=h.env,n:=h.n,n0:=h.n0,B:=h.B,I:=h.I,F:=h.F,μI:=h.μI,μinj:=h.μinj,own:=⟨λp=>if p=.slot d then none else bl p,?_⟩,al:=λs=>?_};simp[Act.put,h.size];refine{slots:=λs=>?_,blocks:=λb xs hx=>?_,inj:=λp q c hp o=>?_,free:=λp c hp=>?_};rw[uw,fw i];by_cases j:d=s;subst j;simpa using hs;simp only[Vs j];rw[Vs (by intro e;cases e;exact j rfl)];exact l.slots s;obtain⟨arr,T,h1,r,t⟩:=l.blocks b xs hx;refine⟨arr,T,h1,r,λk x hk=>?_⟩;rw[Vs (by intro e;cases e)];exact t k x hk;split at hp;cases hp;split at o;cases o;exact l.inj p q c hp o;split at hp;cases hp;exact l.free p c hp;rw[uw,fw i];by_cases j:d=s;simp only[Vt j];exact cL.congr f u;simp only[Vs j];exact cL.congr f (h.al s)
def mw(q:Pos->Bool):List (PV×Option Pos)->Bool
 |[]=>false
 |(_,some p)::r=>q p||mw q r
 |(_,none)::r=>mw q r
theorem my{q:Pos->Bool}:∀{xs:List (PV×Option Pos)},mw q xs=false->∀(k:Nat)(x:PV)(p:Pos),xs[k]?=some (x,some p)->q p=false
 |[],_,k,x,p,h=>by simp at h
 |(y,some b)::r,a,0,x,p,h=>by simp only[mw,YG]at a;simp at h;rw[←h.2];exact a.1
 |(y,none)::r,a,0,x,p,h=>by simp at h
 |(y,some b)::r,a,k+1,x,p,h=>by simp only[mw,YG]at a;exact my a.2 k x p (by simpa using h)
 |(y,none)::r,a,k+1,x,p,h=>my (xs:=r) a k x p (by simpa using h)
def dq(q:Pos->Bool):SV->SV
 |.al p=>if q p=true then .pv .bot else .al p
 |.loc p lo hi=>if q p=true then .pv .bot else .loc p lo hi
 |.sptr p i k=>if q p=true then .pv .bot else .sptr p i k
 |.agl xs=>if mw q xs=true then .pv .bot else .agl xs
 |.opt c x=>match dq q x with
  |.pv .bot=>.pv .bot
  |y=>.opt c y
 |.pv x=>.pv x
 |.own a b c=>.own a b c
 |.omap a b=>.omap a b
def aW(q:Pos->Bool)(t:List (Nat×SV)):List (Nat×SV):=t.map λp=>(p.1,dq q p.2)
theorem bI(q:Pos->Bool):∀(t:List (Nat×SV))(s:Nat),look (aW q t) s=dq q (look t s)
 |[],_=>rfl
 |(j,v)::r,s=>by
  simp only[aW,VP,look];split;rfl;exact bI q r s
def SV.avoids(q:Pos->Bool):SV->Prop
 |.al p=>q p=false
 |.loc p _ _=>q p=false
 |.sptr p _ _=>q p=false
 |.agl xs=>mw q xs=false
 |.opt _ x=>x.avoids q
 |_=>True
theorem b6(q:Pos->Bool):∀x:SV,dq q x=.pv .bot∨(dq q x=x∧x.avoids q)
 |.pv _=>.inr ⟨rfl,trivial⟩
 |.own _ _ _=>.inr ⟨rfl,trivial⟩
 |.omap _ _=>.inr ⟨rfl,trivial⟩
 |.al p=>by cases h:q p<;>simp[dq,h,SV.avoids]
 |.loc p lo hi=>by cases h:q p<;>simp[dq,h,SV.avoids]
 |.sptr p lo hi=>by cases h:q p<;>simp[dq,h,SV.avoids]
 |.agl xs=>by cases h:mw q xs<;>simp[dq,h,SV.avoids]
 |.opt c x=>by
  rcases b6 q x with h|⟨h1,a⟩;left;simp[dq,h];rw[dq,h1];cases x with
  |pv y=>cases y<;>first|(left;rfl)|(right;exact⟨rfl,a⟩)
  |_=>right;exact⟨rfl,a⟩
theorem cL.congrA{g g':Gh}{st st':St}{a j:Act}{w w':ab}{q:Pos->Bool}(hp:∀p,q p=false->(aj st' p).isOwn=true->aj st' p=aj st p∧aA g' j w' p=aA g a w p):
 ∀{sv:SV}{v:an},sv.avoids q->cL g st a w sv v->cL g' st' j w' sv v
 |.pv _,_,_,_=>trivial
 |.own _ _ _,_,_,_=>trivial
 |.omap _ _,_,_,_=>trivial
 |.al p,v,b,h=>λho=>by obtain⟨h1,d⟩:=hp p b ho;rw[d];exact h (by rw[←h1];exact ho)
 |.loc p lo hi,v,b,h=>λnw e rows f=>by
  obtain⟨h1,d⟩:=hp p b (by rw[f];rfl);rw[d];exact h nw e rows (by rw[←h1];exact f)
 |.sptr p i k,v,b,h=>λnw e rows f=>by
  obtain⟨h1,d⟩:=hp p b (by rw[f];rfl);rw[d];exact h nw e rows (by rw[←h1];exact f)
 |.agl xs,v,b,h=>λk x p hx ho=>by obtain⟨h1,d⟩:=hp p (my b k x p hx) ho;rw[d];exact h k x p hx (by rw[←h1];exact ho)
 |.opt c x,v,b,h=>λl=>cL.congrA hp b (h l)
theorem fh{q:Pos->Bool}:∀{x:SV},(dq q x).isOwn=true->dq q x=x
 |.pv _,_=>rfl
 |.own _ _ _,_=>rfl
 |.omap _ _,_=>rfl
 |.al p,h=>by simp only[dq]at h;split at h<;>cases h
 |.loc p _ _,h=>by simp only[dq]at h;split at h<;>cases h
 |.sptr p _ _,h=>by simp only[dq]at h;split at h<;>cases h
 |.agl xs,h=>by simp only[dq]at h;split at h<;>cases h
 |.opt c x,h=>by simp only[dq]at h;split at h<;>cases h
theorem aO.kill{g:Gh}{w:ab}(q:Pos->Bool){x:SV}{v:an}{b:Option Nat}(h:aO g w x v b):aO g w (dq q x) v b:=by
 rcases b6 q x with e|⟨e,_⟩;rw[e];cases x with
 |pv y=>simp only[dq]at e;cases e;exact h
 |own _ _ _=>cases e
 |omap _ _=>cases e
 |al _=>exact⟨h,trivial⟩
 |loc _ _ _=>exact⟨h,trivial⟩
 |sptr _ _ _=>exact⟨h,trivial⟩
 |agl _=>exact⟨h.1,trivial⟩
 |opt _ _=>exact⟨h.1,trivial⟩
 rw[e];exact h
structure FreeAt (g:Gh) (bl:Pos->Option Nat) (c:Nat):Prop where
  I:g.I c=none
  F:g.F c=none
  μ:∀b,b<g.n->g.μ b≠c
  own:∀p,bl p≠some c
theorem Sim.fresh{g:Gh}{st:St}{a:Act}{w:ab}(h:Sim g st a w){bl:Pos->Option Nat}(l:Owns g st a w bl){c:Nat}(m:w.heap.size<=c):FreeAt g bl c:=by
 have hn:w.heap[c]?=none:=W9 m;refine⟨?_,?_,λb f e=>?_,λp hp=>?_⟩;cases i:g.I c with
 |none=>rfl
 |some j=>have:=h.I c j i;rw[hn]at this;cases this
 cases i:g.F c with
 |none=>rfl
 |some j=>have:=h.F c j i;rw[hn]at this;cases this
 have d:b<st.h.length:=h.n▸f;obtain⟨arr,T,k,_⟩:=l.blocks b _ (Vq d);rw[e,hn]at k;cases k;have:=(l.free p c hp).2.2.1;omega
def dx(d:Nat):Pos->Bool
 |.slot s=>d==s
 |.cell _ _=>false
theorem Sim.putOwn{g:Gh}{st:St}{a:Act}{w w':ab}(h:Sim g st a w){bl:Pos->Option Nat}(y:Owns g st a w bl){d:Nat}(hd:d<g.N){sv:SV}{v:an}{o:Option Nat}
 (L:cH w'=cH w) (P:w.heap.size<=w'.heap.size) (J:∀c,c<w.heap.size->o≠some c->w'.heap[c]?=w.heap[c]?) (hs:aO g w' sv v o) (ho:sv.isOwn=true) (m:∀c,o=some c->c<w'.heap.size∧FreeAt g bl c):
 Sim g ⟨(d,sv)::aW (dx d) st.t,st.h⟩ (a.put (some d) v) w':=by
 have q:d<a.tmps.size:=by rw[h.size];exact hd
 have u:∀{c o},w.heap[c]?=some o->c<w.heap.size:=λM=>(VD.1 M).1;have C:∀{b:Option Nat}{p},bl p=b->∀c,b=some c->w'.heap[c]?=w.heap[c]?:=λ{b p} hp c A=>
  J c (y.free _ c (hp.trans A)).2.2.1 (λe=>(m c e).2.own p (hp.trans A))
 have l:∀b,b<g.n->∀R,w.heap[g.μ b]?=some R->w'.heap[g.μ b]?=w.heap[g.μ b]?:=λb i R M=>J _ (u M) (λe=>(m _ e).2.μ b i rfl);have i:∀{b xs},st.h[b]?=some xs->b<g.n:=λhx=>by rw[h.n];exact(Vp.1 hx).1
 have E:∀p,dx d p=false->(aj ⟨(d,sv)::aW (dx d) st.t,st.h⟩ p).isOwn=true->aj ⟨(d,sv)::aW (dx d) st.t,st.h⟩ p=aj st p∧aA g (a.put (some d) v) w' p=aA g a w p:=by
  intro p O hp;cases p with
  |cell b k=>
   refine⟨rfl,?_⟩;simp only[aj]at hp;cases hx:st.h[b]?with
   |none=>simp[List.getD,hx,SV.isOwn]at hp
   |some xs=>
    obtain⟨arr,T,h1,j,H⟩:=y.blocks b xs hx;simp only[aA,l b (i hx) _ h1]
  |slot s=>
   have D:d≠s:=by simpa[dx]using O
   simp only[aj,look,Vs D,bI]at hp⊢;refine⟨fh hp,?_⟩;simp only[aA,fw q,Vs D]
 refine{size:=?_,defs:=h.defs,env:=L.trans h.env,n:=h.n,n0:=h.n0,B:=Wb h.B P,I:=λc Q f=>?_,F:=λc Q f=>?_,μI:=h.μI,μinj:=h.μinj,own:=⟨λp=>if p=.slot d then o else bl p,?_⟩,al:=λs=>?_};simp[Act.put,h.size];have:=h.I c Q f;rw[J c (u this) (λe=>by have:=(m c e).2.I;rw[f]at this;cases this)];exact this;have:=h.F c Q f;rw[J c (u this) (λe=>by have:=(m c e).2.F;rw[f]at this;cases this)];exact this;refine{slots:=λs=>?_,blocks:=λb xs hx=>?_,inj:=λp r c hp G=>?_,free:=λp c hp=>?_};simp only[look,bI];rw[fw q];by_cases z:d=s;subst z;simpa using hs;simp only[Vs z];rw[Vs (by intro e;cases e;exact z rfl)];exact aO.frame (Gh.le.refl g) (C rfl) (aO.kill _ (y.slots s));obtain⟨arr,T,h1,j,H⟩:=y.blocks b xs hx;refine⟨arr,T,by rw[l b (i hx) _ h1];exact h1,j,λk x hk=>?_⟩;rw[Vs (by intro e;cases e)];exact⟨(H k x hk).1,aO.frame (Gh.le.refl g) (C rfl) (H k x hk).2⟩;split at hp;rename_i S;split at G;rename_i U;rw[S,U];exact absurd G ((m c hp).2.own r);split at G;exact absurd hp ((m c G).2.own p);exact y.inj p r c hp G;split at hp;obtain⟨h1,j⟩:=m c hp;exact⟨j.I,j.F,h1,j.μ⟩;obtain⟨h1,j,H,V⟩:=y.free p c hp;exact⟨h1,j,by omega,V⟩;simp only[look,bI];rw[fw q];by_cases z:d=s;simp only[Vt z];cases sv<;>first|trivial|cases ho
 simp only[Vs z];rcases b6 (dx d) (look st.t s)with e|⟨e,K⟩;rw[e];trivial;rw[e];exact cL.congrA E K (h.al s)
def setPos(st:St)(p:Pos)(sv:SV):St:=
 match p with
 |.slot s=>⟨(s,sv)::st.t,st.h⟩
 |.cell b k=>⟨st.t,st.h.set b ((st.h.getD b []).set k sv)⟩
theorem dD(st:St)(p r:Pos)(sv:SV)(h:p≠r):aj (setPos st p sv) r=aj st r:=by
 cases p with
 |slot s=>
  cases r with
  |slot u=>simp only[setPos,aj,look];rw[Vs (λe=>h (by rw[e]))]
  |cell b k=>rfl
 |cell b k=>
  cases r with
  |slot u=>rfl
  |cell b' k'=>
   simp only[setPos,aj];by_cases a:b=b';subst a;have hk:k≠k':=λe=>h (by rw[e]);simp only[Vr];by_cases c:b<st.h.length;simp[c,hk];rw[ZW (W5 c)];simp[Vr,a]
theorem Sim.drop{g:Gh}{st:St}{a:Act}{w:ab}(h:Sim g st a w){bl:Pos->Option Nat}(l:Owns g st a w bl)(p:Pos):
 Sim g (setPos st p (.pv .bot)) a w∧∃f,Owns g (setPos st p (.pv .bot)) a w f∧(∀r,r≠p->f r=bl r)∧f p=none∧∀c,bl p=some c->FreeAt g f c:=by
 have m:Owns g (setPos st p (.pv .bot)) a w (λr=>if r=p then none else bl r):=by
  refine{slots:=λs=>?_,blocks:=λb xs hx=>?_,inj:=λr q c d D=>?_,free:=λr c d=>?_};by_cases i:(.slot s:Pos)=p;subst i;simp only[setPos,look,Xl];exact⟨rfl,trivial⟩;rw[Vs i];have:=dD st p (.slot s) (.pv .bot) (Yg i);simp only[aj]at this;rw[this];exact l.slots s;cases p with
  |slot s=>
   obtain⟨arr,T,h1,j,v⟩:=l.blocks b xs hx;refine⟨arr,T,h1,j,λk x hk=>?_⟩;rw[Vs (by intro e;cases e)];exact v k x hk
  |cell b0 k0=>
   simp only[setPos]at hx;rw[V2]at hx;split at hx;rename_i o;subst o;split at hx;rename_i y;simp only[Wc]at hx;subst hx;simp only[Vr,Vq y,V7];obtain⟨arr,T,h1,j,v⟩:=l.blocks b0 _ (Vq y);refine⟨arr,T,h1,⟨by simpa using j.1,j.2⟩,λk x hk=>?_⟩;rw[V2]at hk;split at hk;rename_i t;subst t;split at hk;cases hk;rw[Vt rfl];exact⟨rfl,rfl,trivial⟩;cases hk;rename_i t;rw[Vs (by intro e;cases e;exact t rfl)];exact v k x hk;cases hx;rename_i o;obtain⟨arr,T,h1,j,v⟩:=l.blocks b xs hx;refine⟨arr,T,h1,j,λk x hk=>?_⟩;rw[Vs (by intro e;cases e;exact o rfl)];exact v k x hk
  split at d;cases d;split at D;cases D;exact l.inj r q c d D;split at d;cases d;exact l.free r c d
 refine⟨{size:=h.size,defs:=h.defs,env:=h.env,n:=?_,n0:=h.n0,B:=h.B,I:=h.I,F:=h.F,μI:=h.μI,μinj:=h.μinj,own:=⟨_,m⟩,al:=λs=>?_},_,m,λr d=>Vs d,Vt rfl,λc E=>?_⟩;cases p with
 |slot s=>exact h.n
 |cell b k=>simp only[setPos,VQ];exact h.n
 have z:∀r,(aj (setPos st p (.pv .bot)) r).isOwn=true->aj (setPos st p (.pv .bot)) r=aj st r∧aA g a w r=aA g a w r:=by
  intro r d;by_cases i:p=r;subst i;exfalso;cases p with
  |slot u=>simp[setPos,aj,look,SV.isOwn]at d
  |cell b k=>
   simp only[setPos,aj,Vr]at d;by_cases A:b<st.h.length;simp only[V2,A,Xl,V7]at d;by_cases hk:k<(st.h[b]?.getD []).length;simp[hk,SV.isOwn]at d;simp[hk,SV.isOwn]at d;rw[ZW (W5 A),V4 (W5 A)]at d;simp[SV.isOwn]at d
  exact⟨dD st p r _ i,rfl⟩
 by_cases i:(.slot s:Pos)=p;subst i;simp only[setPos,look,Xl];trivial;have:=dD st p (.slot s) (.pv .bot) (Yg i);simp only[aj]at this;rw[this];exact cL.congr z (h.al s);obtain⟨h1,j,v,G⟩:=l.free p c E;refine⟨h1,j,G,λr d=>?_⟩;split at d;cases d;rename_i C;exact C (l.inj r p c d E)
theorem da{st:St}{p:Pos}{sv:SV}(h:(aj st p).isOwn=true):aj (setPos st p sv) p=sv:=by
 cases p with
 |slot s=>simp[setPos,aj,look]
 |cell b k=>
  simp only[aj,Vr]at h;by_cases a:b<st.h.length;by_cases hk:k<(st.h[b]?.getD []).length;simp only[setPos,aj,Vr,V2,a,Xl,V7,hk];rw[V4 (W5 hk)]at h;cases h;rw[V4 (W5 a)]at h;cases h
theorem cL.write{g:Gh}{st st':St}{a:Act}{w w':ab}{p:Pos}{sv':SV}(j:∀r,r≠p->aj st' r=aj st r)(hp:aj st' p=sv')(b:(aj st p).isOwn=true)
 (o:∀r,(aj st r).isOwn=true->aA g a w' r=aA g a w r) (d:∀s e' m,sv'=.own s e' m->∃nw rows,aj st p=.own nw e' rows∧rows.length=m.length):
 ∀{sv:SV}{v:an},cL g st a w sv v->cL g st' a w' sv v
 |.pv _,_,_=>trivial
 |.own _ _ _,_,_=>trivial
 |.omap _ _,_,_=>trivial
 |.al r,v,h=>λho=>by
  by_cases l:r=p;subst l;rw[o r b];exact h b;rw[j r l]at ho;rw[o r ho];exact h ho
 |.loc r lo hi,v,h=>λnw e rows n=>by
  by_cases l:r=p;subst l;obtain⟨q,f,h1,u⟩:=d nw e rows (by rw[←hp,n]);rw[o r b];obtain⟨t,z,a3⟩:=h q e f h1;exact⟨t,by omega,a3⟩;rw[j r l]at n;rw[o r (by rw[n];rfl)];exact h nw e rows n
 |.sptr r i k,v,h=>λnw e rows n=>by
  by_cases l:r=p;subst l;obtain⟨q,f,h1,u⟩:=d nw e rows (by rw[←hp,n]);rw[o r b];exact h q e f h1;rw[j r l]at n;rw[o r (by rw[n];rfl)];exact h nw e rows n
 |.agl xs,v,h=>λk x r hx ho=>by
  by_cases l:r=p;subst l;rw[o r b];exact h k x r hx b;rw[j r l]at ho;rw[o r ho];exact h k x r hx ho
 |.opt c x,v,h=>λy=>cL.write j hp b o d (h y)
theorem Sim.ownWrite{g:Gh}{st:St}{a:Act}{w w':ab}(h:Sim g st a w){bl:Pos->Option Nat}(q:Owns g st a w bl){p:Pos}{sv':SV}{c:Nat}(t:(aj st p).isOwn=true)(H:bl p=some c)
 (K:cH w'=cH w) (G:w'.heap.size=w.heap.size) (J:∀k,k≠c->w'.heap[k]?=w.heap[k]?) (hs:aO g w' sv' (aA g a w p) (some c)) (ho:sv'.isOwn=true)
 (C:∀M e' j,sv'=.own M e' j->∃nw rows,aj st p=.own nw e' rows∧rows.length=j.length):
 Sim g (setPos st p sv') a w':=by
 obtain⟨P,Q,S,R⟩:=q.free p c H;have f:∀b,b<g.n->w'.heap[g.μ b]?=w.heap[g.μ b]?:=λb i=>J _ (R b i);have i:∀{b:Nat}{xs:bj},st.h[b]?=some xs->b<g.n:=λhx=>by rw[h.n];exact(Vp.1 hx).1
 have l:∀r,r≠p->∀k,bl r=some k->w'.heap[k]?=w.heap[k]?:=λr u k hk=>J k (λe=>u (q.inj r p c (by rw[hk,e]) H));have L:∀r,(aj st r).isOwn=true->aA g a w' r=aA g a w r:=by
  intro r u;cases r with
  |slot s=>rfl
  |cell b k=>
   simp only[aj]at u;cases hx:st.h[b]?with
   |none=>simp[List.getD,hx,SV.isOwn]at u
   |some xs=>simp only[aA,f b (i hx)]
 have A:=λr (u:r≠p)=>dD st p r sv' (Yg u);have d:=da (sv:=sv') t;refine{size:=h.size,defs:=h.defs,env:=K.trans h.env,n:=?_,n0:=h.n0,B:=by rw[G];exact h.B,I:=λk o hk=>?_,F:=λk o hk=>?_,μI:=h.μI,μinj:=h.μinj,own:=⟨bl,?_⟩,al:=λs=>?_};cases p with
 |slot s=>exact h.n
 |cell b k=>simp only[setPos,VQ];exact h.n
 rw[J k (λe=>by rw[e,P]at hk;cases hk)];exact h.I k o hk;rw[J k (λe=>by rw[e,Q]at hk;cases hk)];exact h.F k o hk;refine{slots:=λs=>?_,blocks:=λb xs hx=>?_,inj:=q.inj,free:=λr k u=>?_};by_cases E:(.slot s:Pos)=p;subst E;simp only[aj]at d;rw[d,H];exact hs;have:=A _ E;simp only[aj]at this;rw[this];exact aO.frame (Gh.le.refl g) (l _ E) (q.slots s);cases p with
 |slot s=>
  obtain⟨arr,T,h1,D,m⟩:=q.blocks b xs hx;exact⟨arr,T,by rw[f b (i (show st.h[b]?=some xs from hx))];exact h1,D,λk x hk=>⟨(m k x hk).1,aO.frame (Gh.le.refl g) (l _ (by intro e;cases e)) (m k x hk).2⟩⟩
 |cell b0 k0=>
  simp only[setPos]at hx;rw[V2]at hx;split at hx;rename_i v;subst v;split at hx;rename_i z;simp only[Wc]at hx;subst hx;simp only[Vr,Vq z,V7];obtain⟨arr,T,h1,D,m⟩:=q.blocks b0 _ (Vq z);refine⟨arr,T,by rw[f b0 (i (Vq z))];exact h1,⟨by simpa using D.1,D.2⟩,λk x hk=>?_⟩;rw[V2]at hk;split at hk;rename_i y;subst y;split at hk;cases hk;refine⟨(by cases sv'<;>first|rfl|cases ho),?_⟩;rw[H];simpa[aA,h1]using hs;cases hk;rename_i y;exact⟨(m k x hk).1,aO.frame (Gh.le.refl g) (l _ (by intro e;cases e;exact y rfl)) (m k x hk).2⟩;cases hx;rename_i v;obtain⟨arr,T,h1,D,m⟩:=q.blocks b xs hx;exact⟨arr,T,by rw[f b (i hx)];exact h1,D,λk x hk=>⟨(m k x hk).1,aO.frame (Gh.le.refl g) (l _ (by intro e;cases e;exact v rfl)) (m k x hk).2⟩⟩
 obtain⟨N,O,a3,a4⟩:=q.free r k u;exact⟨N,O,by rw[G];exact a3,a4⟩;by_cases E:(.slot s:Pos)=p;subst E;simp only[aj]at d;rw[d];cases sv'<;>first|trivial|cases ho
 have:=A _ E;simp only[aj]at this;rw[this];exact cL.write A d t L C (h.al s)
def St.grow(st:St)(xs:bj):St:=⟨st.t,st.h++[xs]⟩
theorem Sim.blockNew{g:Gh}{st:St}{a:Act}{w:ab}(h:Sim g st a w)(xs:aD)(arr:Array an)(T:ah)(Q:ax g xs arr.toList)(J:∀v∈arr.toList,v.oneCell'=true):
 ∃g',g.to g'∧g.le g'∧g'.n=g.n+1∧g'.μ g.n=w.heap.size∧Sim g' (st.grow (xs.map .pv)) a (w.alloc (.cells arr T)):=by
 obtain⟨bl,j⟩:=h.own;have m:∀{c o},w.heap[c]?=some o->c<w.heap.size:=λV=>(VD.1 V).1;have C:(w.alloc (.cells arr T)).heap[w.heap.size]?=some (.cells arr T (0,0)):=heap_alloc_new w _;have f:∀k,k<w.heap.size->(w.alloc (.cells arr T)).heap[k]?=w.heap[k]?:=λk hk=>heap_alloc_old w _ hk;have G:∀b,b<g.n->g.μ b<w.heap.size:=λb d=>by
  obtain⟨_,_,E,_⟩:=j.blocks b _ (Vq (h.n▸d));exact m E
 let g':Gh:={g with n:=g.n+1,μ:=λb=>if b=g.n then w.heap.size else g.μ b}
 have hle:g.le g':=⟨λ_ _ h=>h,Vu _,Xt _,λb d=>by show(if b=g.n then _ else _)=_;rw[Vs (by omega)]⟩;have L:g.I w.heap.size=none:=(h.fresh j (Vu _)).I;have K:g.F w.heap.size=none:=(h.fresh j (Vu _)).F;refine⟨g',⟨λ_ _ h=>h,rfl,rfl,rfl,rfl,rfl,Wb h.n0 (Xt _),λb d=>hle.μ b (WK d h.n0),λ_ _ h=>h⟩,hle,rfl,by show(if g.n=g.n then _ else _)=_;rw[Vt rfl],?_⟩;have A:∀p c,bl p=some c->(w.alloc (.cells arr T)).heap[c]?=w.heap[c]?:=λp c u=>f c (j.free p c u).2.2.1;have O:∀p,(aj (st.grow (xs.map .pv)) p).isOwn=true->aj (st.grow (xs.map .pv)) p=aj st p∧aA g' a (w.alloc (.cells arr T)) p=aA g a w p:=by
  intro p hp;cases p with
  |slot s=>exact⟨rfl,rfl⟩
  |cell b k=>
   simp only[aj,St.grow,Vr]at hp⊢;rcases Xd b st.h.length with l|l|l;rw[Vv l]at hp⊢;refine⟨rfl,?_⟩;have d:b<g.n:=by rw[h.n];exact l
   simp only[aA];rw[hle.μ b d,f _ (G b d)];exfalso;rw[l,VM (Vu _)]at hp;simp only[Xr,Wu,V7,VO]at hp;cases hx:xs[k]?with
   |none=>simp[hx,SV.isOwn]at hp
   |some y=>simp[hx,SV.isOwn]at hp
   exfalso;have hz:(st.h++[xs.map SV.pv])[b]?=none:=V4 (by simp only[Vz,VR,List.length_nil];omega);rw[hz]at hp;simp[SV.isOwn]at hp
 have i:∀p c,(match p with|.cell b _=>if b=g.n then none else bl p|.slot _=>bl p)=some c->bl p=some c:=by
  intro p c hp;cases p with
  |slot s=>exact hp
  |cell b k=>
   have r:(if b=g.n then none else bl (.cell b k))=some c:=hp;split at r;cases r;exact r
 refine{size:=h.size,defs:=h.defs,env:=h.env,n:=?_,n0:=Wb h.n0 (Xt _),B:=?_,I:=λc o u=>?_,F:=λc o u=>?_,μI:=λb d=>?_,μinj:=λb b' d t z=>?_,own:=⟨λp=>match p with|.cell b _=>if b=g.n then none else bl p|.slot _=>bl p,?_⟩,al:=λs=>cL.congr O (h.al s)};show g.n+1=_;rw[h.n];simp[St.grow];have:=h.B;simp only[World.size_alloc];exact Nat.le_succ_of_le this;have:=h.I c o u;rw[f c (m this)];exact this;have:=h.F c o u;rw[f c (m this)];exact this;by_cases e:b=g.n;show g.I (if b=g.n then _ else _)=none∧g.F (if b=g.n then _ else _)=none;rw[Vt e];exact⟨L,K⟩;show g.I (if b=g.n then _ else _)=none∧g.F (if b=g.n then _ else _)=none;rw[Vs e];exact h.μI b (by have:b<g.n+1:=d;omega)
 change(if b=g.n then w.heap.size else g.μ b)=(if b'=g.n then w.heap.size else g.μ b')at z
 have h1:b<g.n+1:=d;have P:b'<g.n+1:=t;by_cases H:b=g.n;by_cases D:b'=g.n;omega;rw[Vt H,Vs D]at z;have:=G b' (by omega);omega;by_cases D:b'=g.n;rw[Vs H,Vt D]at z;have:=G b (by omega);omega;rw[Vs H,Vs D]at z;exact h.μinj b b' (by omega) (by omega) z;refine{slots:=λs=>aO.frame hle (A (.slot s)) (j.slots s),blocks:=λb ys hy=>?_,inj:=λp q c hp W=>j.inj p q c (i p c hp) (i q c W),free:=λp c hp=>?_};simp only[St.grow]at hy;by_cases l:b<st.h.length;rw[Vv l]at hy;have d:b<g.n:=by rw[h.n];exact l
 obtain⟨arr',T',h1,P,E⟩:=j.blocks b ys hy;refine⟨arr',T',by rw[hle.μ b d,f _ (G b d)];exact h1,P,λk x hk=>?_⟩;simp only[Vs (ZP d)];exact⟨(E k x hk).1,aO.frame hle (A (.cell b k)) (E k x hk).2⟩;have e:b=st.h.length:=by
  have:=(Vp.1 hy).1;simp at this;omega
 rw[e,VM (Vu _)]at hy;simp only[Xr,Wu,Wc]at hy;subst hy;have d:b=g.n:=by rw[e,h.n]
 refine⟨arr,T,by show(w.alloc _).heap[if b=g.n then _ else _]?=_;rw[Vt d];exact C,⟨by have:=Q.length;simpa using this,J⟩,λk x hk=>?_⟩;rw[VO,VW]at hk;obtain⟨y,hy,rfl⟩:=hk;obtain⟨v,R,M⟩:=Q.get k y hy;simp only[Vt d];refine⟨rfl,rfl,?_⟩;have:arr.getD k undef=v:=by
  rw[Vw]at R;simp[VJ,R]
 rw[this];exact Fit.mono hle _ _ M;have N:=i p c hp;obtain⟨S,U,a3,a4⟩:=j.free p c N;refine⟨S,U,by simp only[World.size_alloc];omega,λb d=>?_⟩;show(if b=g.n then w.heap.size else g.μ b)≠c;by_cases e:b=g.n;rw[Vt e];omega;rw[Vs e];exact a4 b (by have:b<g.n+1:=d;omega)
end Go.AX
namespace Go.AX
def splice{α:Type}(xs:List α)(k:Nat)(ys:List α):List α:=xs.take k++ys++xs.drop (k+ys.length)
theorem cJ{α:Type}{xs:List α}{k:Nat}{ys:List α}(h:k+ys.length<=xs.length):(splice xs k ys).length=xs.length:=by
 simp[splice];omega
theorem fA{α:Type}{xs:List α}{k:Nat}{ys:List α}(h:k+ys.length<=xs.length)(i:Nat):
 (splice xs k ys)[i]?=if k<=i∧i<k+ys.length then ys[i -k]?else xs[i]?:=by
 unfold splice;by_cases h1:i<k;rw[Vs (by omega),VV,Vv (by simp;omega),Wg,Vt h1];by_cases a:i<k+ys.length;rw[Vt ⟨by omega,a⟩,VV,VM (by simp;omega),Vv (by simp;omega)];congr 1;simp;omega;rw[Vs (by omega),VM (by simp;omega),Wk];congr 1;simp;omega
def a8(b k n:Nat):Pos->Bool
 |.slot _=>false
 |.cell b' k'=>b==b'&&decide (k<=k')&&decide (k'<k+n)
theorem Sim.blockWriteO{g:Gh}{st:St}{a:Act}{w w':ab}(h:Sim g st a w){bl:Pos->Option Nat}(J:Owns g st a w bl){b k0:Nat}{xs:bj}{arr arr':Array an}{T:ah}{ys:aD}{vs:aG}
 (hx:st.h[b]?=some xs) (hk:k0+ys.length<=xs.length) (ha:w.heap[g.μ b]?=some (.cells arr T (0,0))) (hf:ax g ys vs) (V:∀v∈vs,v.oneCell'=true)
 (X:cH w'=cH w) (P:w'.heap.size=w.heap.size) (U:∀c,c≠g.μ b->w'.heap[c]?=w.heap[c]?) (r:∃T',w'.heap[g.μ b]?=some (.cells arr' T' (0,0))) (j:arr'.toList=splice arr.toList k0 vs):
 Sim g ⟨aW (a8 b k0 ys.length) st.t,st.h.set b (splice xs k0 (ys.map .pv))⟩ a w'∧Owns g ⟨aW (a8 b k0 ys.length) st.t,st.h.set b (splice xs k0 (ys.map .pv))⟩ a w' (λp=>if a8 b k0 ys.length p=true then none else bl p):=by
 obtain⟨T',r⟩:=r;have u:b<g.n:=by rw[h.n];exact(Vp.1 hx).1
 have M:b<st.h.length:=(Vp.1 hx).1;obtain⟨ad,T0,b1,b2,b3⟩:=J.blocks b xs hx;rw[ha]at b1;cases b1;obtain⟨b2,L⟩:=b2;have R:vs.length=ys.length:=hf.length;have Q:k0+vs.length<=arr.toList.length:=by simp[b2,R];exact hk
 have A:∀{b':Nat}{z:bj},st.h[b']?=some z->b'<g.n:=λi=>by rw[h.n];exact(Vp.1 i).1
 have D:∀b',b'<g.n->b'≠b->w'.heap[g.μ b']?=w.heap[g.μ b']?:=λb' hn Z=>U _ (λe=>Z (h.μinj b' b hn u e));have H:∀p c,bl p=some c->w'.heap[c]?=w.heap[c]?:=λp c G=>U c (λe=>(J.free p c G).2.2.2 b u e.symm);have l:∀k,arr'.getD k undef=if k0<=k∧k<k0+ys.length then(vs[k -k0]?).getD undef else arr.getD k undef:=λk=>by
  rw[VJ,←Vw,j,fA Q,R];split;rfl;rw[VJ,Vw]
 have S:k0+(ys.map SV.pv).length<=xs.length:=by simpa using hk
 have C:∀k,(splice xs k0 (ys.map SV.pv))[k]?=if k0<=k∧k<k0+ys.length then(ys[k -k0]?).map SV.pv else xs[k]?:=λk=>by
  rw[fA S];simp only[VA,VO]
 have O:∀p,a8 b k0 ys.length p=false->(aj ⟨aW (a8 b k0 ys.length) st.t,st.h.set b (splice xs k0 (ys.map .pv))⟩ p).isOwn=true->
  aj ⟨aW (a8 b k0 ys.length) st.t,st.h.set b (splice xs k0 (ys.map .pv))⟩ p=aj st p∧aA g a w' p=aA g a w p:=by
  intro p aa hp;cases p with
  |slot s=>simp only[aj,bI]at hp⊢;exact⟨fh hp,by first|rfl|trivial⟩
  |cell b' k=>
   by_cases f:b'=b;subst f;have N:¬(k0<=k∧k<k0+ys.length):=by
    intro hh;simp[a8,hh.1,hh.2]at aa
   refine⟨?_,?_⟩;simp only[aj,Vr,V2,M,Xl,V7,C,Vs N,hx];simp only[aA,r,ha,l,Vs N];simp only[aj,Vr,V2,Vs (Yg f)]at hp⊢;refine⟨by first|rfl|trivial,?_⟩;cases hy:st.h[b']?with
   |none=>simp[hy,SV.isOwn]at hp
   |some z=>simp only[aA,D b' (A hy) f]
 have E:Owns g ⟨aW (a8 b k0 ys.length) st.t,st.h.set b (splice xs k0 (ys.map .pv))⟩ a w' (λp=>if a8 b k0 ys.length p=true then none else bl p):=by
  refine{slots:=λs=>?_,blocks:=λb' z i=>?_,inj:=λp q c hp hq=>?_,free:=λp c hp=>?_};rw[Vs (by simp[a8]),bI];exact aO.frame (Gh.le.refl g) (H _) (aO.kill _ (J.slots s));rw[V2]at i;split at i
  .rename_i f;subst f
   try rw[Vt M]at i
   cases i;refine⟨arr',T',r,⟨?_,λv m=>?_⟩,λk x d=>?_⟩;rw[←Wm,j,cJ Q,cJ S,Wm];exact b2;rw[j]at m;simp only[splice,VF]at m;rcases m with(m|m)|m;exact L v (Wn m);exact V v m;exact L v (XB m);rw[C]at d;split at d;rename_i hin;rw[VW]at d;obtain⟨y,hy,rfl⟩:=d;obtain⟨v,m,Y⟩:=hf.get _ y hy;rw[Vt (by simp[a8,hin.1,hin.2]),l,Vt hin,m];exact⟨rfl,rfl,Y⟩;rename_i hin;rw[Vs (by simp[a8];intro h1;omega),l,Vs hin];exact⟨(b3 k x d).1,aO.frame (Gh.le.refl g) (H _) (b3 k x d).2⟩
  rename_i f;obtain⟨K,T1,c1,c2,c3⟩:=J.blocks b' z i;refine⟨K,T1,by rw[D b' (A i) (Yg f)];exact c1,c2,λk x d=>?_⟩;rw[Vs (by simp[a8,f])];exact⟨(c3 k x d).1,aO.frame (Gh.le.refl g) (H _) (c3 k x d).2⟩;split at hp;cases hp;split at hq;cases hq;exact J.inj p q c hp hq;split at hp;cases hp;obtain⟨f1,f2,f3,f4⟩:=J.free p c hp;exact⟨f1,f2,by rw[P];exact f3,f4⟩
 refine⟨{size:=h.size,defs:=h.defs,env:=X.trans h.env,n:=by simp only[VQ];exact h.n,n0:=h.n0,B:=by rw[P];exact h.B,I:=λc o G=>?_,F:=λc o G=>?_,μI:=h.μI,μinj:=h.μinj,own:=⟨_,E⟩,al:=λs=>?_},E⟩;rw[U c (λe=>by have:=(h.μI b u).1;rw[←e,G]at this;cases this)];exact h.I c o G;rw[U c (λe=>by have:=(h.μI b u).2;rw[←e,G]at this;cases this)];exact h.F c o G;rw[bI];rcases b6 (a8 b k0 ys.length) (look st.t s)with e|⟨e,W⟩;rw[e];trivial;rw[e];exact cL.congrA O W (h.al s)
theorem Sim.blockWrite{g:Gh}{st:St}{a:Act}{w w':ab}(h:Sim g st a w){b k0:Nat}{xs:bj}{arr arr':Array an}{T:ah}{ys:aD}{vs:aG}
 (hx:st.h[b]?=some xs) (hk:k0+ys.length<=xs.length) (k:w.heap[g.μ b]?=some (.cells arr T (0,0))) (m:ax g ys vs) (e:∀v∈vs,v.oneCell'=true)
 (i:cH w'=cH w) (j:w'.heap.size=w.heap.size) (n:∀c,c≠g.μ b->w'.heap[c]?=w.heap[c]?) (f:∃T',w'.heap[g.μ b]?=some (.cells arr' T' (0,0))) (d:arr'.toList=splice arr.toList k0 vs):
 Sim g ⟨aW (a8 b k0 ys.length) st.t,st.h.set b (splice xs k0 (ys.map .pv))⟩ a w':=by
 obtain⟨bl,l⟩:=h.own;exact(h.blockWriteO l hx hk k m e i j n f d).1
def nI:SV->PV
 |.own nw e rows=>.seq nw e rows
 |.omap nw es=>.amap nw es
 |.pv x=>x
 |_=>.bot
theorem Sim.freeze{g:Gh}{st:St}{a:Act}{w:ab}(h:Sim g st a w){p:Pos}(i:(aj st p).isOwn=true):
 ∃g',g.to g'∧g.le g'∧g'.n=g.n∧Fit g' (nI (aj st p)) (aA g a w p)∧Sim g' (setPos st p (.pv (nI (aj st p)))) a w∧∀r,aA g' a w r=aA g a w r:=by
 obtain⟨bl,l⟩:=h.own;have f:=bT l i
 let g':Gh:={g with I:=λc=>if bl p=some c then w.heap[c]?else g.I c}
 have hle:g.le g':=⟨λc o m=>by
  show(if bl p=some c then w.heap[c]?else g.I c)=some o;split;rename_i e;rw[(l.free p c e).1]at m;cases m;exact m,Vu _,Vu _,λ_ _=>rfl⟩
 have L:g.to g':=⟨hle.I,rfl,rfl,rfl,rfl,rfl,h.n0,λ_ _=>rfl,λc W X=>by
  show(if bl p=some c then w.heap[c]?else g.I c)=none;rw[Vs (λe=>W (l.free p c e).2.1)];exact X⟩
 have y:Fit g' (nI (aj st p)) (aA g a w p):=by
  cases hs:aj st p with
  |own nw e rows=>
   rw[hs]at f;rcases f with⟨_,rfl,D⟩|⟨c,m,cap,arr,T,vs,D,J,M,H,O,P,Q⟩;exact⟨none,0,D,Vu _,.inl rfl⟩;exact⟨_,cap,D,H.1,.inr ⟨c,0,arr,T,(0,0),vs,rfl,by show(if bl p=some c then w.heap[c]?else g.I c)=_;rw[Vt m];exact J,Q,aK.mono hle _ _ _ O,by simpa using P⟩⟩
  |omap nw es=>
   rw[hs]at f;obtain⟨c,m,en,ck,D,J,M,H⟩:=f;exact⟨c,en,ck,D,by show(if bl p=some c then w.heap[c]?else g.I c)=_;rw[Vt m];exact J,H.1,cu.mono hle _ _ M,H.2⟩
  |_=>rw[hs]at i;cases i
 generalize nI (aj st p)=fz at*;refine⟨g',L,hle,rfl,y,?_,λr=>rfl⟩;obtain⟨_,N,Y,h1,Z,h3⟩:=h.drop l p;have A:=λr (j:r≠p)=>dD st p r (.pv fz) (Yg j);have d:=da (sv:=.pv fz) i;have C:∀r,(aj (setPos st p (.pv fz)) r).isOwn=true->aj (setPos st p (.pv fz)) r=aj st r∧aA g' a w r=aA g a w r:=by
  intro r j;by_cases t:r=p;subst t;rw[d]at j;cases j;exact⟨A r t,rfl⟩
 refine{size:=h.size,defs:=h.defs,env:=h.env,n:=?_,n0:=h.n0,B:=h.B,I:=λc o m=>?_,F:=h.F,μI:=λb v=>?_,μinj:=h.μinj,own:=⟨λr=>if r=p then none else bl r,?_⟩,al:=λs=>?_};cases p with
 |slot s=>exact h.n
 |cell b k=>simp only[setPos,VQ];exact h.n
 change(if bl p=some c then w.heap[c]?else g.I c)=some o at m
 split at m;exact m;exact h.I c o m;refine⟨?_,(h.μI b v).2⟩;show(if bl p=some (g.μ b)then w.heap[g.μ b]?else g.I (g.μ b))=none;rw[Vs (λe=>(l.free p _ e).2.2.2 b v rfl)];exact(h.μI b v).1;refine{slots:=λs=>?_,blocks:=λb xs hx=>?_,inj:=λr q c j K=>?_,free:=λr c j=>?_};by_cases t:(.slot s:Pos)=p;subst t;rw[Vt rfl];simp only[aj]at d;rw[d];exact⟨rfl,y⟩;rw[Vs t];have:=A _ t;simp only[aj]at this;rw[this];exact aO.frame hle (λ_ _=>rfl) (l.slots s);cases p with
 |slot s=>
  obtain⟨arr,T,c1,c2,c3⟩:=l.blocks b xs hx;refine⟨arr,T,c1,c2,λk x hk=>?_⟩;rw[Vs (by intro e;cases e)];exact⟨(c3 k x hk).1,aO.frame hle (λ_ _=>rfl) (c3 k x hk).2⟩
 |cell b0 k0=>
  simp only[setPos]at hx;rw[V2]at hx;split at hx;rename_i u;subst u;split at hx;rename_i E;simp only[Wc]at hx;subst hx;obtain⟨arr,T,c1,c2,c3⟩:=l.blocks b0 _ (Vq E);simp only[Vr,Vq E,V7];refine⟨arr,T,c1,⟨by simpa using c2.1,c2.2⟩,λk x hk=>?_⟩;rw[V2]at hk;split at hk;rename_i z;subst z;split at hk;cases hk;rw[Vt rfl];refine⟨rfl,rfl,?_⟩;have:aA g a w (.cell b0 k0)=arr.getD k0 undef:=by simp[aA,c1]
  rw[←this];exact y;cases hk;rename_i z;rw[Vs (by intro e;cases e;exact z rfl)];exact⟨(c3 k x hk).1,aO.frame hle (λ_ _=>rfl) (c3 k x hk).2⟩;cases hx;rename_i u;obtain⟨arr,T,c1,c2,c3⟩:=l.blocks b xs hx;refine⟨arr,T,c1,c2,λk x hk=>?_⟩;rw[Vs (by intro e;cases e;exact u rfl)];exact⟨(c3 k x hk).1,aO.frame hle (λ_ _=>rfl) (c3 k x hk).2⟩
 split at j;cases j;split at K;cases K;exact l.inj r q c j K;split at j;cases j;rename_i G;obtain⟨R,S,U,V⟩:=l.free r c j;refine⟨?_,S,U,V⟩;show(if bl p=some c then w.heap[c]?else g.I c)=none;rw[Vs (λe=>G (l.inj r p c j e))];exact R;by_cases t:(.slot s:Pos)=p;subst t;simp only[aj]at d;rw[d];trivial;have:=A _ t;simp only[aj]at this;rw[this];exact cL.congr C (h.al s)
end Go.AX
namespace Go.AX
def PV.one:PV->Bool
 |.bot=>false
 |.lit v=>v.oneCell'
 |.agg _=>false
 |.tup _=>false
 |.ifc _ _=>true
 |.seq _ _ _=>true
 |.iptr _ _ _ _=>true
 |.ptr _ _=>true
 |.bsl _ _ _ _ _=>true
 |.fn _ _ _=>true
 |.amap _ _=>true
theorem yQ{g:Gh}:∀{x:PV}{v:an},x.one=true->Fit g x v->v.oneCell'=true
 |.bot,_,h,_=>by cases h
 |.lit _,_,h,a=>by cases a;exact h
 |.agg _,_,h,_=>by cases h
 |.tup _,_,h,_=>by cases h
 |.ifc _ _,_,_,⟨_,h,_⟩=>by rw[h];rfl
 |.seq _ _ _,_,_,⟨_,_,h,_⟩=>by rw[h];rfl
 |.iptr _ _ _ _,_,_,⟨_,_,_,_,_,_,h,_⟩=>by rw[h];rfl
 |.ptr _ _,_,_,⟨_,h⟩=>by rw[h];rfl
 |.bsl _ _ _ _ _,_,_,⟨_,_,h⟩=>by rw[h];rfl
 |.fn _ _ _,_,_,⟨_,_,h,_⟩=>by rw[h];rfl
 |.amap _ _,_,_,⟨_,_,_,h,_⟩=>by rw[h];rfl
def cz:aD->Bool
 |[]=>true
 |x::xs=>x.one&&cz xs
theorem ep{g:Gh}:∀{xs:aD}{vs:aG},cz xs=true->ax g xs vs->∀v∈vs,v.oneCell'=true
 |[],_,_,h=>by simp only[ax]at h;subst h;simp
 |_::_,_,a,⟨_,_,h1,c,d⟩=>by
  simp only[cz,VC]at a;subst h1;intro u b;rcases VU.1 b with rfl|b;exact yQ a.1 c;exact ep a.2 d u b
theorem jM{g:Gh}{x:PV}{v:an}(h:Fit g x v)(hx:x.one=true∨d9 (.pv x)):ax g (bn x) v.cells.toList:=by
 rcases hx with hx|hx;have h1:=yQ hx h;have a:v.cells=#[v]:=by cases v<;>first|rfl|(simp[Value.oneCell']at h1)
 rw[a];have:bn x=[x]:=by
  cases x with
  |lit u=>cases u<;>first|rfl|(simp[PV.one,Value.oneCell']at hx)
  |agg _=>cases hx
  |_=>rfl
 rw[this];exact⟨v,[],rfl,h,rfl⟩;obtain⟨vs,rfl,b⟩:=uv (w:=default) (x:=.pv x) (v:=v) ⟨rfl,h⟩ hx;exact b
theorem AF{α:Type}(xs:List α)(o:Nat)(x:α)(l:List α)(h:o+(x::l).length<=xs.length):splice xs o (x::l)=splice (xs.set o x) (o+1) l:=by
 apply Wv;intro i;rw[fA h,fA (by simp at h⊢;omega)];simp only[VR]at h⊢;by_cases h1:o<=i∧i<o+(l.length+1);rw[Vt h1];by_cases a:i=o;subst a;rw[Vs (by omega)];simp only[Xr,Wu];rw[V2];simp;omega;rw[Vt (by omega)];have:i -o=(i -(o+1))+1:=by omega
 rw[this,XK];rw[Vs h1,Vs (by omega),V2,Vs (by omega)]
theorem Di{α:Type}(xs:List α)(o:Nat):splice xs o []=xs:=by simp[splice]
theorem xh(off:Nat):∀(l:aG)(k:Nat)(cells:Array an),off+k+l.length<=cells.size->
 ((l.zipIdx k).foldl (λcs (p:an×Nat)=>cs.setIfInBounds (off+p.2) p.1) cells).toList=splice cells.toList (off+k) l
 |[],k,cells,_=>by simp[Di]
 |x::l,k,cells,h=>by
  simp only[List.zipIdx_cons,Yl];simp only[VR]at h;rw[xh off l (k+1) _ (by simp;omega),AF _ _ _ _ (by simp;omega)];simp[Xf]
theorem si(place:Nat->Option (Nat×Nat))(cells:Array an)(i off size:Nat)(v:an)(rest:List (Nat×an))(hp:place i=some (off,size))(b:v.cells.size=size)(a:off+size<=cells.size):
 Instr.fill place cells ((i,v)::rest)=Instr.fill place (splice cells.toList off v.cells.toList).toArray rest:=by
 simp only[Instr.fill,hp,b,ne_eq,not_true,decide_false,YQ,VI];rw[Vs (by omega)];congr 1;have:=xh off v.cells.toList 0 cells (by simp[b];omega);simp only[Ye]at this;rw[←this];simp only[XN];rw[←Array.foldl_toList,Array.toList_zipIdx]
theorem ax.splice{g:Gh}{xs ys:aD}{vs a:aG}(h:ax g xs vs)(h':ax g ys a)(k:Nat):ax g (splice xs k ys) (splice vs k a):=by
 have b:=h'.length;simp only[Go.AX.splice,b];exact((h.take k).append h').append (h.drop _)
def bInfo(P:aa)(t:ah):Option (List (Nat×Nat)):=
 match P.underlying t with
 |some (.struct a)=>a.toList.mapM λf=>(P.info? f.type).map λi=>(f.offset,i.size)
 |some (.array n e)=>(P.info? e).map λi=>(List.range n).map λk=>(k*i.size,i.size)
 |_=>none
def zeroV(P:aa)(t:ah):Option aD:=
 match P.info? t with
 |some i=>i.zero.map λz=>z.cells.toList.map PV.lit
 |none=>none
def ta(pl:List (Nat×Nat))(cells:aD):List (Nat×PV)->aD×Prop
 |[]=>(cells,True)
 |(i,y)::rest=>match pl[i]?with
  |some (off,n)=>((ta pl (splice cells off (bn y)) rest).1,(bn y).length=n∧off+n<=cells.length∧(y.one=true∨d9 (.pv y))∧(ta pl (splice cells off (bn y)) rest).2)
  |none=>(cells,False)
def t6(st:St):List (Nat×ae)->Prop
 |[]=>True
 |(_,x)::r=>gc st x∧yN (mv st x)∧t6 st r
def p6(st:St):List (Nat×ae)->List (Nat×PV)
 |[]=>[]
 |(i,x)::r=>(i,mr (mv st x))::p6 st r
def yR(P:aa)(st:St)(t:ah)(a:Array (Nat×ae)):SV×Prop:=
 match bInfo P t,zeroV P t with
 |some pl,some zs=>(.pv (.agg (ta pl zs (p6 st a.toList)).1),t6 st a.toList∧(ta pl zs (p6 st a.toList)).2)
 |_,_=>(.pv .bot,False)
theorem p7(p q:Nat->Option (Nat×Nat))(h:∀i x,q i=some x->p i=some x):∀(l:List (Nat×an))(cells out:Array an),Instr.fill q cells l=some out->Instr.fill p cells l=some out
 |[],cells,out,ho=>by simpa[Instr.fill]using ho
 |(i,v)::rest,cells,out,ho=>by
  simp only[Instr.fill]at ho⊢;cases b:q i with
  |none=>rw[b]at ho;cases ho
  |some x=>
   rw[b]at ho;rw[h i x b];obtain⟨off,size⟩:=x;simp only at ho⊢;split;rename_i a;rw[Vt a]at ho;cases ho;rename_i a;rw[Vs a]at ho;exact p7 p q h rest _ _ ho
theorem AH{g:Gh}(pl:List (Nat×Nat)):∀(l:List (Nat×PV))(l':List (Nat×an))(cs:aD)(cells:Array an),ax g cs cells.toList->l.map (·.1)=l'.map (·.1)->ax g (l.map (·.2)) (l'.map (·.2))->(ta pl cs l).2->
 ∃out,Instr.fill (pl[·]?) cells l'=some out∧ax g (ta pl cs l).1 out.toList
 |[],l',cs,cells,c,a,f,hd=>by
  cases l' with
  |nil=>exact⟨cells,rfl,c⟩
  |cons _ _=>cases a
 |(i,y)::rest,l',cs,cells,c,a,f,hd=>by
  cases l' with
  |nil=>cases a
  |cons p l'=>
   obtain⟨q,v⟩:=p;simp only[VP,XR]at a;obtain⟨rfl,a⟩:=a;obtain⟨s,r,e,o,m⟩:=f;simp only[VP,XR]at e;obtain⟨rfl,rfl⟩:=e;simp only[ta]at hd⊢;cases hp:pl[i]?with
   |none=>rw[hp]at hd;exact hd.elim
   |some x=>
    obtain⟨off,n⟩:=x;rw[hp]at hd;obtain⟨h1,h,j,k⟩:=hd;have b:=jM o j;have d:v.cells.size=n:=by have:=b.length;rw[h1]at this;simpa using this
    have hcl:=c.length;rw[si (pl[·]?) cells i off n v l' hp d (by rw[←Wm,hcl];exact h)];exact AH pl rest l' _ _ (by simpa using c.splice b off) a m k
theorem xi{g:Gh}{st:St}{a:Act}{w:ab}(h:Sim g st a w):∀(l:List (Nat×ae)),t6 st l->(p6 st l).map (·.1)=(l.map λp=>(p.1,a.eval p.2)).map (·.1)∧ax g ((p6 st l).map (·.2)) ((l.map λp=>(p.1,a.eval p.2)).map (·.2))
 |[],_=>⟨rfl,rfl⟩
 |(i,x)::r,hd=>by
  obtain⟨h1,e,f⟩:=hd;obtain⟨c,d⟩:=xi h r f;obtain⟨b,_⟩:=bm h x h1;rw[ms e]at b;exact⟨by simp only[p6,VP];rw[c],_,_,rfl,b.2,d⟩
theorem HT{P:aa}{st:St}(o:ai)(t:ah)(b:Array (Nat×ae))(ho:o.op=.build t b):N0 P st o (yR P st t b):=by
 intro g a w h hd;unfold yR at hd⊢;split at hd;rename_i pl zs f hz;obtain⟨hp,hd⟩:=hd;obtain⟨s,v⟩:=xi h b.toList hp;unfold zeroV at hz;cases hi:P.info? t with
 |none=>rw[hi]at hz;cases hz
 |some E=>
  rw[hi]at hz;simp only[VW]at hz;obtain⟨z,hz,rfl⟩:=hz;have d:∀vs:aG,ax g (vs.map PV.lit) vs:=λvs=>by
   induction vs with
   |nil=>rfl
   |cons u B A=>exact⟨u,B,rfl,rfl,A⟩
  obtain⟨out,j,m⟩:=AH pl _ _ _ z.cells (d _) s v hd;have c:P.built t (b.toList.map λp=>(p.1,a.eval p.2))=some out:=by
   unfold bInfo at f;unfold Program.built;rw[hi];split at f;rename_i C q;rw[q];simp only[hz,f];simpa using j;rename_i n e q;simp only[VW]at f;obtain⟨D,l,rfl⟩:=f;rw[q];simp only[hz,l];refine p7 _ _ (λi x hx=>?_) _ _ _ j;simp only[VO,VW]at hx;obtain⟨k,hk,rfl⟩:=hx;have:=Vp.1 hk;obtain⟨y,r⟩:=this;simp at r;subst r;rfl;cases f
  refine⟨.agg out,?_,⟨rfl,out,rfl,m⟩,trivial⟩;simp only[execOp,ho,bD];rw[run_build w t _ out (by rw[←c];simp)];simp
 exact hd.elim
def yS(P:aa)(t:ah):Option (Nat×Bool×Nat):=
 match P.underlying t with
 |some (.array n e)=>(aZ P e).map λp=>(n,p)
 |_=>none
def sj(P:aa)(t:ah)(x i:SV):SV×Prop:=
 match yS P t with
 |some (n,false,e)=>(.pv ((bn (mr x)).getD ((bC i).toNat*e) .bot),d9 x∧iu i∧0<=bC i∧bC i<n∧(bC i).toNat*e<(bn (mr x)).length)
 |some (n,true,e)=>(.pv (.agg (((bn (mr x)).drop ((bC i).toNat*e)).take e)),d9 x∧iu i∧0<=bC i∧bC i<n)
 |none=>match P.underlying t with
  |some .string=>(.pv (.lit (.int .u8 ((nj x)[(bC i).toNat]?.getD 0).toNat)),tY x∧iu i∧0<=bC i∧bC i<(nj x).size)
  |_=>(.pv .bot,False)
theorem HU{P:aa}{st:St}(o:ai)(t:ah)(x i:ae)(ho:o.op=.index t x i):N0 P st o ((sj P t (mv st x) (mv st i)).1,gc st x∧gc st i∧(sj P t (mv st x) (mv st i)).2):=by
 intro g a w h ⟨hx,hi,hd⟩;obtain⟨A,_⟩:=bm h x hx;unfold sj at hd⊢;cases c:yS P t with
 |some q=>
  obtain⟨n,b,e⟩:=q;rw[c]at hd;unfold yS at c;split at c
  case h_2=>cases c
  rename_i D C p;simp only[VW,W8]at c;obtain⟨q,m,rfl,B⟩:=c;rw[B]at m;clear B;have k:=(jL m w).2;cases b with
  |false=>
   simp only at hd⊢;obtain⟨h1,f,j,l,z⟩:=hd;obtain⟨vs,u,d⟩:=uv A h1;obtain⟨v,y,r⟩:=d.get _ _ (Vq z);refine⟨v,?_,⟨rfl,by simpa[List.getD,Vq z]using r⟩,trivial⟩;simp[execOp,ho,u,cM h hi f,Instr.index,cq p,asIntOf,j,l,k,xf w vs _ v m (by rw[←Vw];exact y)]
  |true=>
   simp only at hd⊢;obtain⟨h1,f,j,l⟩:=hd;obtain⟨vs,u,d⟩:=uv A h1;refine⟨.agg (vs.extract ((bC (mv st i)).toNat*e) ((bC (mv st i)).toNat*e+e)),?_,⟨rfl,_,rfl,?_⟩,trivial⟩;simp[execOp,ho,u,cM h hi f,Instr.index,cq p,asIntOf,j,l,k,AB w vs _ m];have:=(d.drop ((bC (mv st i)).toNat*e)).take e;rw[aag];simpa[List.extract]using this
 |none=>
  rw[c]at hd;simp only at hd⊢;split at hd;rename_i p;obtain⟨h1,f,j,l⟩:=hd;have s:(bC (mv st i)).toNat<(nj (mv st x)).size:=by omega
  refine⟨_,?_,⟨rfl,rfl⟩,trivial⟩;simp only[execOp,ho,se h hx h1,cM h hi f,Instr.index,asIntOf,bD,bN,bK,cq p,Vt j];have:(nj (mv st x))[(bC (mv st i)).toNat]?=some ((nj (mv st x))[(bC (mv st i)).toNat]):=by simp[s]
  rw[this];simp;exact hd.elim
def pC(st:St):List ae->Prop
 |[]=>True
 |x::r=>gc st x∧yN (mv st x)∧pC st r
def k7(st:St):List ae->aD
 |[]=>[]
 |x::r=>mr (mv st x)::k7 st r
theorem nJ{g:Gh}{st:St}{a:Act}{w:ab}(h:Sim g st a w):∀(l:List ae),pC st l->ax g (k7 st l) (l.map a.eval)
 |[],_=>rfl
 |x::r,⟨h1,c,d⟩=>by
  obtain⟨b,_⟩:=bm h x h1;rw[ms c]at b;exact⟨_,_,rfl,b.2,nJ h r d⟩
def Dj(st:St)(f:Fn)(first cap:Array ae):SV×Prop:=(.pv (.fn f (k7 st first.toList) (k7 st cap.toList)),pC st first.toList∧pC st cap.toList)
theorem HV{P:aa}{st:St}(o:ai)(f:Fn)(first cap:Array ae)(ho:o.op=.makeFunc f first cap):N0 P st o (Dj st f first cap):=by
 intro g a w h ⟨h1,b⟩;refine⟨.func f (first.map a.eval) (cap.map a.eval),by simp[execOp,ho,Instr.makeFunc],⟨rfl,_,_,rfl,?_,?_⟩,trivial⟩;simpa using nJ h _ h1;simpa using nJ h _ b
def dJ:dw->Int->Option PV
 |[],_=>none
 |(k,x)::r,n=>if k=n then some x else dJ r n
def entriesOf(st:St):SV->dw
 |.pv (.amap _ es)=>es
 |.al p=>match aj st p with
  |.omap _ es=>es
  |_=>[]
 |_=>[]
def isMap(st:St):SV->Prop
 |.pv (.amap _ _)=>True
 |.pv (.lit (.map none))=>True
 |.al p=>match aj st p with
  |.omap _ _=>True
  |_=>False
 |_=>False
def p8(P:aa)(t:ah):Option PV:=
 match P.underlying t with
 |some (.map k e)=>match P.underlying k with
  |some (.int _)=>match P.info? e with
   |some i=>match i.zero with
    |some (.agg vs)=>some (.agg (vs.toList.map .lit))
    |some z=>some (.lit z)
    |none=>none
   |none=>none
  |_=>none
 |_=>none
def xj(P:aa)(st:St)(t:ah)(x k:SV)(ok:Bool):SV×Prop:=
 match p8 P t with
 |some z=>(.pv (if ok=true then .tup [(dJ (entriesOf st x) (bC k)).getD z,.lit (.bool (dJ (entriesOf st x) (bC k)).isSome)]else(dJ (entriesOf st x) (bC k)).getD z),isMap st x∧iu k∧ir k=.i64)
 |none=>(.pv .bot,False)
theorem ux{g:Gh}{kk:ce}{n:Int}:∀{es:dw}{en:List MapEntry}(_:cu g es en)(j:Nat),
 ∃r,Instr.findNow (.int kk) (.int .i64 n) en j=some r∧(r=none∧dJ es n=none∨∃i m x,r=some (j+i,m.val)∧en[i]?=some m∧m.key=.int .i64 n∧dJ es n=some x∧Fit g x m.val)
 |[],en,h,j=>by simp only[cu]at h;subst h;exact⟨none,rfl,.inl ⟨rfl,rfl⟩⟩
 |(k,x)::es,en,⟨m,r,h1,b,p,q⟩,j=>by
  subst h1;simp only[Instr.findNow,b,Instr.sameNow,Xl,dJ];by_cases hk:k=n;subst hk;simp only[Zd,Xl];exact⟨_,rfl,.inr ⟨0,m,x,rfl,rfl,b,rfl,p⟩⟩;have s:(n==k)=false:=by simp;exactλe=>hk e.symm
  simp only[s,Vs hk];obtain⟨u,c,a⟩:=ux (n:=n) q (j+1);refine⟨u,c,?_⟩;rcases a with⟨rfl,a⟩|⟨i,t,v,rfl,d,f,l,o⟩;exact .inl ⟨rfl,a⟩;exact .inr ⟨i+1,t,v,by rw[Xf,Zz 1 i],by simpa using d,f,l,o⟩
theorem db{P:aa}(w:ab)(b:Bool)(t:ah)(kk k:ce)(n:Int)(h:P.underlying t=some (.int kk)):(Instr.checkKey b 10000 t (.int k n)).run P w=.ok () w:=by
 show(Instr.checkKey b (9999+1) t (.int k n)).run P w=_;rw[Instr.checkKey];simp only[bD,cq h,bK,bN]
theorem JV{g:Gh}{st:St}{a:Act}{w:ab}(h:Sim g st a w){x:ae}(m:gc st x)(d:isMap st (mv st x)):
 (a.eval x=.map none∧entriesOf st (mv st x)=[])∨∃r en ck,a.eval x=.map (some r)∧w.heap[r]?=some (.map en ck)∧cu g (entriesOf st (mv st x)) en.toList:=by
 obtain⟨e,k⟩:=bm h x m;unfold isMap at d;split at d;rename_i nw es hx;rw[hx]at e⊢;obtain⟨r,en,ck,f,i,_,j⟩:=e.2;exact .inr ⟨r,en,ck,f,h.I _ _ i,j.1⟩;rename_i hx;rw[hx]at e⊢;exact .inl ⟨e.2,rfl⟩;rename_i p hx;rw[hx]at k⊢;split at d;rename_i nw es hp;obtain⟨bl,l⟩:=h.own;have n:=k (by rw[hp];rfl);have b:=bT l (p:=p) (by rw[hp];rfl);rw[hp]at b;obtain⟨c,_,en,ck,f,i,j,_⟩:=b;exact .inr ⟨c,en,ck,n.trans f,i,by simp only[entriesOf,hp];exact j⟩;exact d.elim;exact d.elim
theorem run_findKey{P:aa}{g:Gh}(w:ab)(a:ah)(kk:ce)(n:Int)(d:P.underlying a=some (.int kk)){es:dw}{en:List MapEntry}(h:cu g es en):
 ∃r,(Instr.findKey a (.int .i64 n) en).run P w=.ok r w∧(r=none∧dJ es n=none∨∃i m x,r=some (i,m.val)∧en[i]?=some m∧m.key=.int .i64 n∧dJ es n=some x∧Fit g x m.val):=by
 obtain⟨r,b,c⟩:=ux (kk:=kk) (n:=n) h 0;refine⟨r,?_,?_⟩;simp only[Instr.findKey,bD,cq d,bK,b,bN];simpa using c
theorem JW{P:aa}{st:St}(o:ai)(t:ah)(x k:ae)(ok:Bool)(ho:o.op=.lookup t x k ok):N0 P st o ((xj P st t (mv st x) (mv st k) ok).1,gc st x∧gc st k∧(xj P st t (mv st x) (mv st k) ok).2):=by
 intro g a w h ⟨hx,hk,hd⟩;unfold xj at hd⊢;cases hi:p8 P t with
 |none=>rw[hi]at hd;exact hd.elim
 |some z=>
  rw[hi]at hd;simp only at hd⊢;obtain⟨h1,M,N⟩:=hd;unfold p8 at hi;split at hi
  case h_2=>cases hi
  rename_i s G E;split at hi
  case h_2=>cases hi
  rename_i kk d;cases c:P.info? G with
  |none=>rw[c]at hi;cases hi
  |some F=>
   rw[c]at hi;simp only at hi;cases hz:F.zero with
   |none=>rw[hz]at hi;cases hi
   |some j=>
    rw[hz]at hi;have n:Fit g z j:=by
     have l:∀vs:aG,ax g (vs.map PV.lit) vs:=λvs=>by
      induction vs with
      |nil=>rfl
      |cons u R O=>exact⟨u,R,rfl,rfl,O⟩
     split at hi;rename_i vs C;cases hi;cases C;exact⟨vs,rfl,l _⟩;rename_i z' _ C;cases hi;cases C;rfl;cases hi
    have p:(zeroValue G).run P w=.ok j w:=by simp[zeroValue,typeInfo,c,hz]
    have e:=cM h hk M;rw[N]at e;have fin:∀(v:an)(b:Bool),Fit g ((dJ (entriesOf st (mv st x)) (bC (mv st k))).getD z) v->b=(dJ (entriesOf st (mv st x)) (bC (mv st k))).isSome->
     Fit g (if ok=true then .tup [(dJ (entriesOf st (mv st x)) (bC (mv st k))).getD z,.lit (.bool (dJ (entriesOf st (mv st x)) (bC (mv st k))).isSome)]else(dJ (entriesOf st (mv st x)) (bC (mv st k))).getD z) (if ok=true then .tuple #[v,.bool b]else v):=by
     intro v b H L;subst L;cases ok with
     |true=>exact⟨_,rfl,v,_,rfl,H,_,_,rfl,rfl,rfl⟩
     |false=>exact H
    rcases JV h hx h1 with⟨y,A⟩|⟨r,en,ck,y,A,K⟩;refine⟨if ok=true then .tuple #[j,.bool false]else j,?_,⟨rfl,fin j false (by rw[A];exact n) (by rw[A];rfl)⟩,trivial⟩;have D:(Instr.findKey s (.int .i64 (bC (mv st k))) (#[]:Array MapEntry).toList).run P w=.ok none w:=by
     simp[Instr.findKey,cq d,Instr.findNow]
    simp only[execOp,ho,y,e,Instr.lookup,bD,cq E,bK,bN,db w _ s kk .i64 _ d,D,p];obtain⟨q,I,B⟩:=run_findKey (P:=P) w s kk (bC (mv st k)) d K;have f:(getObj r).run P w=.ok (.map en ck) w:=by simp[getObj,Sem.run,A]
    rcases B with⟨rfl,B⟩|⟨i,m,S,rfl,_,_,J,Q⟩;refine⟨if ok=true then .tuple #[j,.bool false]else j,?_,⟨rfl,fin j false (by rw[B];exact n) (by rw[B];rfl)⟩,trivial⟩;simp only[execOp,ho,y,e,Instr.lookup,bD,cq E,bK,bN,f,db w _ s kk .i64 _ d,I,p];refine⟨if ok=true then .tuple #[m.val,.bool true]else m.val,?_,⟨rfl,fin m.val true (by rw[J];exact Q) (by rw[J];rfl)⟩,trivial⟩;simp only[execOp,ho,y,e,Instr.lookup,bD,cq E,bK,bN,f,db w _ s kk .i64 _ d,I]
end Go.AX
namespace Go.AX
def FV(P:aa)(st:St)(c:Call):SV×Prop:=
 match c.callee,c.args.toList,c.argTypes.toList with
 |.builtin .len,[x],[t]=>match tk P t with
  |.slice=>((xa P st t (mv st x)).1,gc st x∧(xa P st t (mv st x)).2)
  |.string=>((uu (mv st x)).1,gc st x∧(uu (mv st x)).2)
  |.map=>(.int .i64 (entriesOf st (mv st x)).length,gc st x∧isMap st (mv st x))
  |_=>(.pv .bot,False)
 |.builtin .min,[x,y],_=>(.int (ir (mv st x)) (if bC (mv st y)<bC (mv st x)then bC (mv st y)else bC (mv st x)),gc st x∧gc st y∧iu (mv st x)∧iu (mv st y))
 |.builtin .max,[x,y],_=>(.int (ir (mv st x)) (if bC (mv st x)<bC (mv st y)then bC (mv st y)else bC (mv st x)),gc st x∧gc st y∧iu (mv st x)∧iu (mv st y))
 |_,_,_=>(.pv .bot,False)
def JX(P:aa)(op:BinOp)(t:ah)(x y:SV):SV×Prop:=
 match tk P t with
 |.int=>JK op x y
 |.bool=>JM op x y
 |.string=>JN op x y
 |.ptr=>((HK op x y).1,Ax x∧(HK op x y).2)
 |.flat n=>HL n op x y
 |_=>(.pv .bot,False)
def yT(st:St)(op:BinOp)(x y:ae):Option Bool:=
 match y,mv st x with
 |.const (.map none),.al p=>match aj st p,op with
  |.omap _ _,.eql=>some false
  |.omap _ _,.neq=>some true
  |_,_=>none
 |.const (.map none),.pv (.amap _ _)=>match op with
  |.eql=>some false
  |.neq=>some true
  |_=>none
 |_,_=>none
def pop(P:aa)(st:St)(o:Op):SV×Prop:=
 match o with
 |.move x=>(mv st x,gc st x)
 |.assign x=>(mv st x,gc st x)
 |.pick c x y=>((Az (mv st c) (mv st x) (mv st y)).1,gc st c∧(tX (mv st c)=true->gc st x)∧(tX (mv st c)=false->gc st y)∧(Az (mv st c) (mv st x) (mv st y)).2)
 |.unOp op _ x=>((Ra op (mv st x)).1,gc st x∧(Ra op (mv st x)).2)
 |.binOp op t x y _=>match yT st op x y with
  |some b=>(.bool b,gc st x∧tk P t=.map)
  |none=>((JX P op t (mv st x) (mv st y)).1,gc st x∧gc st y∧(JX P op t (mv st x) (mv st y)).2)
 |.fieldAddr t x f=>((sg P st t f (mv st x)).1,gc st x∧(sg P st t f (mv st x)).2)
 |.indexAddr t x i=>((HN P st t (mv st x) (mv st i)).1,gc st x∧gc st i∧(HN P st t (mv st x) (mv st i)).2)
 |.load t x=>((C9 P st t (mv st x)).1,gc st x∧(C9 P st t (mv st x)).2)
 |.extract x i=>((HP i (mv st x)).1,gc st x∧(HP i (mv st x)).2)
 |.field t x f=>((xe P t f (mv st x)).1,gc st x∧(xe P t f (mv st x)).2)
 |.convert s d x=>((HQ P s d (mv st x)).1,gc st x∧(HQ P s d (mv st x)).2)
 |.nilCheck x=>((Rb st (mv st x)).1,gc st x∧(Rb st (mv st x)).2)
 |.slice t x lo hi none=>((HR P st t (mv st x) lo hi).1,gc st x∧(HR P st t (mv st x) lo hi).2)
 |.slice t x (some lo) (some hi) (some m)=>((xg P st t (mv st x) lo hi m).1,gc st x∧(xg P st t (mv st x) lo hi m).2)
 |.call c=>FV P st c
 |.build t ps=>yR P st t ps
 |.index t x i=>((sj P t (mv st x) (mv st i)).1,gc st x∧gc st i∧(sj P t (mv st x) (mv st i)).2)
 |.makeFunc f first cap=>Dj st f first cap
 |.lookup t x k ok=>((xj P st t (mv st x) (mv st k) ok).1,gc st x∧gc st k∧(xj P st t (mv st x) (mv st k) ok).2)
 |_=>(.pv .bot,False)
theorem FW{P:aa}{t:ah}(h:tk P t=.bool):P.underlying t=some .bool:=by
 unfold tk at h;split at h<;>first|assumption|(cases h;done)|(split at h<;>cases h)
theorem xk{P:aa}{t:ah}(h:tk P t=.string):P.underlying t=some .string:=by
 unfold tk at h;split at h<;>first|assumption|(cases h;done)|(split at h<;>cases h)
theorem JY{P:aa}{t:ah}(h:tk P t=.map):∃k e,P.underlying t=some (.map k e):=by
 unfold tk at h;split at h<;>first|exact⟨_,_,by assumption⟩|(cases h;done)|(split at h<;>cases h)
theorem JZ{P:aa}{t:ah}(h:tk P t=.ptr):∃e,P.underlying t=some (.pointer e):=by
 unfold tk at h;split at h<;>first|exact⟨_,by assumption⟩|(cases h;done)|(split at h<;>cases h)
theorem J2{P:aa}{st:St}(o:ai):N0 P st o (pop P st o.op):=by
 cases j:o.op
 case move x=>exact(yO o x (.inl j)).pop
 case assign x=>exact(yO o x (.inr j)).pop
 case pick c x y=>exact(AA o c x y j).pop
 case unOp op t x=>exact(JR o op t x j).pop
 case fieldAddr t x f=>exact(xd o t f x j).pop
 case indexAddr t x i=>exact(FP o t x i j).pop
 case load t x=>exact Dh o t x j
 case extract x i=>exact(FR o x i j).pop
 case field t x f=>exact(AD o t x f j).pop
 case convert s d x=>exact(FT o s d x j).pop
 case nilCheck x=>exact(JT o x j).pop
 case slice t x lo hi T=>
  cases T with
  |none=>exact(FU o t x lo hi j).pop
  |some m=>
   cases lo with
   |none=>exactλ_ _ _ _ h=>h.elim
   |some lo=>
    cases hi with
    |none=>exactλ_ _ _ _ h=>h.elim
    |some hi=>exact(JU o t x lo hi m j).pop
 case binOp op t x y u=>
  simp only[pop,JX];split
  .rename_i b l;intro g a w h ⟨hx,I⟩;obtain⟨k,e,z⟩:=JY I;unfold yT at l;split at l
   case h_3=>cases l
   case h_2=>
    rename_i nw es H;obtain⟨C,_⟩:=bm h x hx;rw[H]at C;have hy:a.eval (.const (.map none))=.map none:=rfl;obtain⟨c,en,ck,q,_⟩:=C.2;split at l;cases l;refine⟨.bool false,?_,⟨rfl,rfl⟩,trivial⟩;simp only[execOp,j,q,hy,eqGuard_at_map,bD,bN,bK,Go.run_eql_map_nil w t k e (some c) z];rfl;cases l;refine⟨.bool true,?_,⟨rfl,rfl⟩,trivial⟩;simp only[execOp,j,q,hy,eqGuard_at_map,bD,bN,bK,Go.run_neq_map_nil w t k e (some c) z];rfl;cases l
   rename_i p H;obtain⟨_,M⟩:=bm h x hx;rw[H]at M;obtain⟨bl,O⟩:=h.own;have key:∀(nw:Bool)(es:dw),aj st p=.omap nw es->∃c,a.eval x=.map (some c):=λnw es hp=>by
    have S:=M (by rw[hp];rfl);have C:=bT O (p:=p) (by rw[hp];rfl);rw[hp]at C;obtain⟨c,_,en,ck,B,_⟩:=C;exact⟨c,by rw[S,B]⟩
   have hy:a.eval (.const (.map none))=.map none:=rfl;split at l;rename_i nw es hp;cases l;obtain⟨c,q⟩:=key nw es hp;refine⟨.bool false,?_,⟨rfl,rfl⟩,trivial⟩;simp only[execOp,j,q,hy,eqGuard_at_map,bD,bN,bK,Go.run_eql_map_nil w t k e (some c) z];rfl;rename_i nw es hp;cases l;obtain⟨c,q⟩:=key nw es hp;refine⟨.bool true,?_,⟨rfl,rfl⟩,trivial⟩;simp only[execOp,j,q,hy,eqGuard_at_map,bD,bN,bK,Go.run_neq_map_nil w t k e (some c) z];rfl;cases l
  cases ht:tk P t with
  |int=>exact(FK o op t u x y j).pop
  |bool=>exact(FL o op t u x y j (FW ht)).pop
  |string=>exact(FM o op t u x y j).pop
  |ptr=>obtain⟨e,Q⟩:=JZ ht;exact(FN o op t u e x y j Q).pop
  |flat n=>exact N1 o op t u x y n j ht
  |_=>exactλ_ _ _ _ h=>h.2.2.elim
 case build t ps=>exact HT o t ps j
 case index t x i=>exact HU o t x i j
 case makeFunc f first cap=>exact HV o f first cap j
 case lookup t x k ok=>exact JW o t x k ok j
 case call c=>
  simp only[pop,FV];split;rename_i x t h1 A L;have q:c={callee:=.builtin .len,args:=#[x],argTypes:=#[t]}:=by
   cases c with
   |mk a b d=>
    simp only at h1 A L;rw[h1,show b=#[x]from by rw[←XN (xs:=b),A],show d=#[t]from by rw[←XN (xs:=d),L]]
  rw[q]at j;cases ht:tk P t with
  |slice=>exact(Ay o t x j).pop
  |string=>exact(xb o t x j (xk ht)).pop
  |map=>
   intro g a w h ⟨hx,hd⟩;obtain⟨k,e,z⟩:=JY ht;refine⟨_,?_,⟨rfl,rfl⟩,trivial⟩;rcases JV h hx hd with⟨B,v⟩|⟨r,en,ck,B,v,N⟩;simp[execOp,j,resolve,invoke,builtin,B,v,Builtin.len_,cq z,goInt];have R:=N.length;have D:(getObj r).run P w=.ok (.map en ck) w:=by simp[getObj,Sem.run,v]
   simp[execOp,j,resolve,invoke,builtin,B,Builtin.len_,cq z,goInt,D,←R]
  |_=>exactλ_ _ _ _ h=>h.elim
  rename_i x y h1 A;intro g a w h ⟨G,g2,J,K⟩;have v:c.args=#[x,y]:=by rw[←XN (xs:=c.args),A]
  refine⟨_,?_,⟨rfl,rfl⟩,trivial⟩;have E:=cM h G J;have F:=cM h g2 K;simp[execOp,j,resolve,h1,v,E,F,invoke,builtin,Builtin.min_,Builtin.min2];rename_i x y h1 A;intro g a w h ⟨G,g2,J,K⟩;have v:c.args=#[x,y]:=by rw[←XN (xs:=c.args),A]
  refine⟨_,?_,⟨rfl,rfl⟩,trivial⟩;have E:=cM h G J;have F:=cM h g2 K;simp[execOp,j,resolve,h1,v,E,F,invoke,builtin,Builtin.max_,Builtin.max2];exactλ_ _ _ _ h=>h.elim
 all_goals exactλ_ _ _ _ h=>h.elim
def p9(st:St)(p:Pos):PV×St×Prop:=
 match aj st p with
 |.own nw e rows=>(.seq nw e rows,setPos st p (.pv (.seq nw e rows)),True)
 |.omap nw es=>(.amap nw es,setPos st p (.pv (.amap nw es)),True)
 |_=>(.bot,st,False)
def cR(st:St)(x:ae):PV×St×Prop:=
 match mv st x with
 |.pv y=>(y,st,gc st x)
 |.al p=>((p9 st p).1,(p9 st p).2.1,gc st x∧(p9 st p).2.2)
 |.loc p lo hi=>match aj st p with
  |.own nw e rows=>(.seq nw e ((rows.take hi).drop lo),setPos st p (.pv (.seq nw e rows)),gc st x)
  |_=>(.bot,st,False)
 |_=>(.bot,st,False)
theorem nK{g:Gh}{st:St}{a:Act}{w:ab}(h:Sim g st a w)(x:ae)(hd:(cR st x).2.2):
 ∃g',g.to g'∧g.le g'∧g'.n=g.n∧Sim g' (cR st x).2.1 a w∧Fit g' (cR st x).1 (a.eval x):=by
 have d:g.to g:=⟨λ_ _ h=>h,rfl,rfl,rfl,rfl,rfl,h.n0,λ_ _=>rfl,λ_ _ h=>h⟩;unfold cR at hd⊢;split at hd;rename_i y j;obtain⟨m,_⟩:=bm h x hd;rw[j]at m;exact⟨g,d,Gh.le.refl g,rfl,h,m.2⟩;rename_i p j;obtain⟨m,f⟩:=bm h x hd.1;rw[j]at f;have b:=hd.2;unfold p9 at b⊢;split at b;rename_i nw e rows hp;obtain⟨g',t1,k,t3,t4,t5,_⟩:=h.freeze (p:=p) (by rw[hp];rfl);rw[hp]at t4 t5;exact⟨g',t1,k,t3,t5,by rw[f (by rw[hp];rfl)];exact t4⟩;rename_i nw es hp;obtain⟨g',t1,k,t3,t4,t5,_⟩:=h.freeze (p:=p) (by rw[hp];rfl);rw[hp]at t4 t5;exact⟨g',t1,k,t3,t5,by rw[f (by rw[hp];rfl)];exact t4⟩;exact b.elim;rename_i p lo hi j;split at hd;rename_i nw e rows hp;obtain⟨m,f⟩:=bm h x hd;rw[j]at f;obtain⟨g',t1,k,t3,t4,t5,_⟩:=h.freeze (p:=p) (by rw[hp];rfl);rw[hp]at t4 t5;refine⟨g',t1,k,t3,t5,?_⟩;obtain⟨D,t,q,cap,C,jc,r,_⟩:=f _ _ _ hp;refine⟨q,cap,by rw[C,Wf,Vy];congr 1;omega,by simp;omega,?_⟩;by_cases i:lo=hi;left;subst i;simp;right;rcases r with r|⟨c,n,cp,o,rfl⟩;exact absurd r i;obtain⟨q',s,l,_,B⟩:=t4;rw[o]at l;cases l;rcases B with rfl|⟨c',off,arr,T,fz,vs,l,u,v,z,A⟩;simp at t;omega;cases l;refine⟨c,lo*e,arr,T,fz,(vs.take (hi*e)).drop (lo*e),rfl,u,v,z.cut lo hi D t,?_⟩;have:=jW A (lo*e) (hi*e)
 rwa [Wx,Wr]at this
 cases hd;exact hd.elim
def dE(st:St):List ae->aD×St×Prop
 |[]=>([],st,True)
 |x::xs=>((cR st x).1::(dE (cR st x).2.1 xs).1,(dE (cR st x).2.1 xs).2.1,(cR st x).2.2∧(dE (cR st x).2.1 xs).2.2)
theorem oI:∀(xs:List ae){g:Gh}{st:St}{a:Act}{w:ab},Sim g st a w->(dE st xs).2.2->
 ∃g',g.to g'∧g.le g'∧g'.n=g.n∧Sim g' (dE st xs).2.1 a w∧ax g' (dE st xs).1 (xs.map a.eval)
 |[],g,st,a,w,h,_=>⟨g,⟨λ_ _ h=>h,rfl,rfl,rfl,rfl,rfl,h.n0,λ_ _=>rfl,λ_ _ h=>h⟩,Gh.le.refl g,rfl,h,rfl⟩
 |x::xs,g,st,a,w,h,hd=>by
  obtain⟨s,t1,e,f,p,k⟩:=nK h x hd.1;obtain⟨g2,r,d,j,q,l⟩:=oI xs p hd.2;refine⟨g2,t1.trans r,⟨λc o m=>d.I _ _ (e.I _ _ m),Wb d.B e.B,by rw[j,f];exact Vu _,λb i=>by rw[d.μ b (by rw[f];exact i),e.μ b i]⟩,j.trans f,q,_,_,rfl,Fit.mono d _ _ k,l⟩
end Go.AX
namespace Go.AX
theorem Sim.refl_to{g:Gh}{st:St}{a:Act}{w:ab}(h:Sim g st a w):g.to g:=⟨λ_ _ h=>h,rfl,rfl,rfl,rfl,rfl,h.n0,λ_ _=>rfl,λ_ _ h=>h⟩
def putD(d:Option Tmp)(sv:SV)(st:St):St:=
 match d with
 |some d=>st.put d sv
 |none=>st
def cX(N:Nat)(d:Option Tmp):Prop:=
 match d with
 |some d=>d<N
 |none=>True
theorem Sim.putD{g:Gh}{st:St}{a:Act}{w:ab}(h:Sim g st a w){d:Option Tmp}(hd:cX g.N d){sv:SV}{v:an}(hs:aO g w sv v none)(b:cL g st a w sv v)(ho:sv.isOwn=false):
 Sim g (putD d sv st) (a.put d v) w:=by
 cases d with
 |none=>exact h
 |some d=>exact h.put hd hs b ho
def FX(st:St)(s d:Nat):St:=⟨(d,look st.t s)::aW (dx d) ((s,.pv .bot)::st.t),st.h⟩
theorem Sim.take{g:Gh}{st:St}{a:Act}{w:ab}(h:Sim g st a w){s d:Nat}(hd:d<g.N)(ho:(look st.t s).isOwn=true):Sim g (FX st s d) (a.put (some d) (a.tmps.getD s undef)) w:=by
 obtain⟨bl,b⟩:=h.own;obtain⟨h1,i,e,k,l,j⟩:=h.drop b (.slot s);have hs:=b.slots s;refine h1.putOwn e hd rfl (Vu _) (λ_ _ _=>rfl) hs ho (λc f=>⟨(b.free _ c f).2.2.1,j c f⟩)
theorem Dk{P:aa}{st:St}(o:ai)(s d:Nat)(ho:o.op=.assign (.tmp s))(hd:o.dst=some d)(b:(look st.t s).isOwn=true){N:Nat}(c:d<N):
 ∀g a w,g.N=N->Sim g st a w->∃v w' g',(execOp a.eval o).run P w=.ok (.value v) w'∧g.to g'∧Sim g' (FX st s d) (a.put o.dst v) w':=by
 intro g a w e h;refine⟨a.tmps.getD s undef,w,g,by simp[execOp,ho,Act.eval],h.refl_to,?_⟩;rw[hd];exact h.take (e▸c) b
def dL(P:aa)(t:ah):Option aD:=
 match P.info? t with
 |some i=>i.zero.map λz=>z.cells.toList.map PV.lit
 |none=>none
theorem fi(g:Gh):∀vs:aG,ax g (vs.map PV.lit) vs
 |[]=>rfl
 |v::vs=>⟨v,vs,rfl,rfl,fi g vs⟩
theorem J3{P:aa}{st:St}(o:ai)(t:ah)(d:Nat)(zs:aD)(ho:o.op=.alloc t)(hd:o.dst=some d)(hz:dL P t=some zs)(b:cz zs=true){N:Nat}(c:d<N):
 ∀g a w,g.N=N->Sim g st a w->∃v w' g',(execOp a.eval o).run P w=.ok (.value v) w'∧g.to g'∧Sim g' ((st.grow (zs.map .pv)).put d (.pv (.ptr st.h.length 0))) (a.put o.dst v) w':=by
 intro g a w e h;unfold dL at hz;split at hz
 case h_2=>cases hz
 rename_i i hi;simp only[VW]at hz;obtain⟨z,hz,rfl⟩:=hz;obtain⟨g',t1,l,j,f,k⟩:=h.blockNew (z.cells.toList.map PV.lit) z.cells t (fi g _) (ep b (fi g _));refine⟨.pointer (some ⟨w.heap.size,0,none⟩),w.alloc (.cells z.cells t),g',?_,t1,?_⟩;simp only[execOp,ho,Instr.alloc,zeroValue,typeInfo,bD,run_program,bK,hi,bN,hz];simp[newVar,newRow];rw[hd];refine k.put (by rw[t1.N,e];exact c) ⟨rfl,?_,?_⟩ trivial rfl;rw[j,←h.n];omega;rw[←h.n,f]
theorem Qg{P:aa}{st:St}(o:ai)(t:ah)(x:ae)(d:Nat)(ho:o.op=.box t x)(hd:o.dst=some d)(k:(cR st x).2.2)(hx:(cR st x).1.one=true∨d9 (.pv (cR st x).1))(b:cz (bn (cR st x).1)=true){N:Nat}(j:d<N):
 ∀g a w,g.N=N->Sim g st a w->∃v w' g',(execOp a.eval o).run P w=.ok (.value v) w'∧g.to g'∧Sim g' (((cR st x).2.1.grow ((bn (cR st x).1).map .pv)).put d (.pv (.ptr (cR st x).2.1.h.length 0))) (a.put o.dst v) w':=by
 intro g a w l h;obtain⟨r,t1,s,y,c,i⟩:=nK h x k;have e:=jM i hx;obtain⟨g2,f,u,p,m,q⟩:=c.blockNew _ (a.eval x).cells t e (ep b e);refine⟨.pointer (some ⟨w.heap.size,0,none⟩),w.alloc (.cells (a.eval x).cells t),g2,?_,t1.trans f,?_⟩;simp[execOp,ho,Instr.box,newVar,newRow];rw[hd];refine q.put (by rw[f.N,t1.N,l];exact j) ⟨rfl,?_,?_⟩ trivial rfl;rw[p,←c.n];omega;rw[←c.n,m]
theorem eZ{P:aa}{t:ah}{d:Bool}{n:Nat}(w:ab)(g:aZ P t=some (d,n))(v:an)(b:v.cells.size=n)(c off:Nat)(T:ah)(arr:Array an)
 (f:w.heap[c]?=some (.cells arr T (0,0))) (a:off+n<=arr.size) (h1:∀u∈v.cells.toList,u.oneCell'=true):
 (storeVar t ⟨c,off,none⟩ v).run P w=.ok () (w.setRow c (splice arr.toList off v.cells.toList).toArray):=by
 obtain⟨_,e⟩:=jL g w;have:=run_storeCells_at P c off T v.cells.toList 0 arr w f (by simp[b];omega) h1;simp only[Ye]at this;simp only[storeVar,bD,e,bK,b,ne_eq,not_true,WM,Sem.run_ite];simpa[splice]using this
theorem HW{P:aa}{st:St}(o:ai)(t:ah)(x y:ae)(b off n:Nat)(A:Bool)(ho:o.op=.store t x y)(hd:o.dst=none)(D:aZ P t=some (A,n))
 (C:(cR st y).2.2) (e:cz (bn (cR st y).1)=true) (hy:(cR st y).1.one=true∨d9 (.pv (cR st y).1)) (hn:(bn (cR st y).1).length=n)
 (hx:mv (cR st y).2.1 x=.pv (.ptr b off)) (u:gc (cR st y).2.1 x) (d:off+n<=((cR st y).2.1.h.getD b []).length):
 ∀g a w,Sim g st a w->∃w' g',(execOp a.eval o).run P w=.ok .skip w'∧g.to g'∧
  Sim g' ⟨aW (a8 b off n) (cR st y).2.1.t,(cR st y).2.1.h.set b (splice ((cR st y).2.1.h.getD b []) off ((bn (cR st y).1).map .pv))⟩ a w':=by
 intro g a w h;obtain⟨k,t1,F,G,l,B⟩:=nK h y C;obtain⟨j,_⟩:=bm l x u;rw[hx]at j;obtain⟨_,p,v⟩:=j;have q:b<(cR st y).2.1.h.length:=l.n▸p;have i:(cR st y).2.1.h[b]?=some ((cR st y).2.1.h.getD b []):=by simp[List.getD,Vq q]
 obtain⟨bl,r⟩:=l.own;obtain⟨arr,T,m,⟨z,_⟩,_⟩:=r.blocks b _ i;have f:=jM B hy;have s:(a.eval y).cells.size=n:=by have:=f.length;rw[hn]at this;simpa using this
 have E:=eZ w D (a.eval y) s (k.μ b) off T arr m (by rw[z];exact d) (ep e f);refine⟨w.setRow (k.μ b) (splice arr.toList off (a.eval y).cells.toList).toArray,k,?_,t1,?_⟩;simp only[execOp,ho,v,Instr.storeAt,Instr.sureAddr,bD,bN,bK,E];have:=l.blockWrite (w':=w.setRow (k.μ b) (splice arr.toList off (a.eval y).cells.toList).toArray) i (by rw[hn];exact d) m f (ep e f) rfl (size_setRow _ _ _) (λc f=>setRow_other w _ c _ f) ⟨T,setRow_heap w _ arr _ T _ m⟩ (by simp);rw[hn]at this;exact this
theorem aK.splice{g:Gh}{e:Nat}:∀{rows:aT}{vs:aG}(_:aK g e rows vs)(i k:Nat)(ys:aD)(a:aG),i<rows.length->k+ys.length<=e->(∀u∈a,u.oneCell'=true)->ax g ys a->
 aK g e (rows.set i (AX.splice (rows.getD i []) k ys)) (AX.splice vs (i*e+k) a)
 |[],_,_,i,k,ys,a,h,_,_,_=>by simp at h
 |s::rows,_,⟨l,m,h1,c,d,j⟩,0,k,ys,a,_,hk,ho,hy=>by
  have n:=d.length;have p:=hy.length;refine⟨AX.splice l k a,m,?_,⟨?_,λv b=>?_⟩,?_,j⟩;rw[h1];simp only[AX.splice,YZ,Wr];rw[Wd (by omega),WB (by omega),VV,VV,VV];simp only[Vr,Wu,V7];rw[cJ (by omega)];exact c.1;simp only[AX.splice,VF]at b;rcases b with(b|b)|b;exact c.2 v (Wn b);exact ho v b;exact c.2 v (XB b);simp only[Vr,Wu,V7,AX.splice];rw[←p];exact((d.take k).append hy).append (d.drop _)
 |s::rows,_,⟨l,m,h1,c,d,j⟩,i+1,k,ys,a,h,hk,ho,hy=>by
  have n:=d.length;have r:=j.length;have f:i<rows.length:=by simpa using h
  have o:i*e+e<=rows.length*e:=by rw[←Xm];exact Xc _ f
  have p:=hy.length;refine⟨l,AX.splice m (i*e+k) a,?_,c,d,?_⟩;rw[h1];simp only[AX.splice];have q:(i+1)*e+k=l.length+(i*e+k):=by rw[n,c.1,Xm];omega
  rw[q,Y0,Xf,Ya];simp[VV];have:=aK.splice j i k ys a f hk ho hy;simpa using this
theorem Dl{P:aa}{st:St}(o:ai)(t:ah)(x y:ae)(p:Pos)(i k n e:Nat)(nw:Bool)(rows:aT)(M:Bool)(ho:o.op=.store t x y)(W:aZ P t=some (M,n))
 (S:(cR st y).2.2) (b:cz (bn (cR st y).1)=true) (hy:(cR st y).1.one=true∨d9 (.pv (cR st y).1)) (hn:(bn (cR st y).1).length=n)
 (hx:mv (cR st y).2.1 x=.sptr p i k) (C:gc (cR st y).2.1 x) (hp:aj (cR st y).2.1 p=.own nw e rows) (hi:i<rows.length) (hk:k+n<=e):
 ∀g a w,Sim g st a w->∃w' g',(execOp a.eval o).run P w=.ok .skip w'∧g.to g'∧
  Sim g' (setPos (cR st y).2.1 p (.own nw e (rows.set i (splice (rows.getD i []) k (bn (cR st y).1))))) a w':=by
 intro g a w h;obtain⟨R,t1,l1,n1,H,Q⟩:=nK h y S;obtain⟨U,j⟩:=bm H x C;rw[hx]at j;obtain⟨c,m,cp,v,F⟩:=j _ _ _ hp;obtain⟨bl,l⟩:=H.own;have d:(aj (cR st y).2.1 p).isOwn=true:=by rw[hp];rfl
 have u:=bT l d;rw[hp]at u;have s:=jM Q hy;have f:(a.eval y).cells.size=n:=by have:=s.length;rw[hn]at this;simpa using this
 rcases u with⟨_,rfl,_⟩|⟨c',B,cap,arr,T,vs,I,J,z,A,K,N,O⟩;simp at hi;rw[I]at v;cases v;have L:i*e+e<=cp*e:=by rw[←Xm];exact Xc _ (by omega)
 have Y:=eZ w W (a.eval y) f c (i*e+k) T arr J (by rw[z];omega) (ep b s);refine⟨_,R,?_,t1,H.ownWrite (w':=w.setRow c (splice arr.toList (i*e+k) (a.eval y).cells.toList).toArray) l d B rfl (size_setRow _ _ _) (λq X=>setRow_other w _ q _ X) (.inr ⟨c,rfl,cp,_,T,splice vs (i*e+k) (a.eval y).cells.toList,?_,setRow_heap w _ arr _ T _ J,?_,⟨by simpa using A.1,A.2.1,ur A.2.2 (ep b s) _⟩,?_,?_,O⟩) rfl ?_⟩;simp only[execOp,ho,F,Instr.storeAt,Instr.sureAddr,bD,bN,bK,Y];rw[I];simp;have:i*e+k+(a.eval y).cells.toList.length<=arr.toList.length:=by simp[f,z];omega
 simp only[Ww];rw[cJ this];simp[z];exact K.splice i k _ _ hi (by rw[hn];exact hk) (ep b s) s;obtain⟨r,E⟩:=N;have Z:=K.length;have D:i*e+e<=rows.length*e:=by rw[←Xm];exact Xc _ hi
 refine⟨r,?_⟩;simp only[splice];have hcl:(a.eval y).cells.toList.length=n:=by simp[f]
 rw[←E,Wd (by omega),WB (by rw[hcl];omega)];simp[VV];intro ab e' G V;cases V;exact⟨nw,rows,hp,by simp⟩
end Go.AX
namespace Go.AX
theorem AI(size:Nat):∀(vs:aG)(j:Nat)(cells:Array an),(∀v∈vs,v.cells.size=size)->cells.size=(j+vs.length)*size->
 ∃out,Instr.fill (λi=>some (i*size,size)) cells ((vs.zipIdx j).map λp=>(p.2,p.1))=some out∧out.toList=cells.toList.take (j*size)++(vs.map λv=>v.cells.toList).flatten
 |[],j,cells,_,a=>⟨cells,by simp[Instr.fill],by simp at a;rw[←a,←Wm,VX];simp⟩
 |v::vs,j,cells,c,a=>by
  have h1:=c v (VN ..);simp only[VR]at a;have hle:j*size+size<=cells.size:=by rw[a,←Xm];exact Xc _ (by omega)
  simp only[List.zipIdx_cons,VP];rw[si _ cells j (j*size) size v _ rfl h1 hle];have b:(splice cells.toList (j*size) v.cells.toList).length=cells.size:=by rw[cJ (by simp[h1];exact hle)];simp
  obtain⟨out,ho,e⟩:=AI size vs (j+1) (splice cells.toList (j*size) v.cells.toList).toArray (λu f=>c u (VG _ f)) (by simp only[Ww,b,a];congr 1;omega);refine⟨out,ho,?_⟩;rw[e];simp only[VP,Yu];rw[←VV];congr 1;simp only[splice];rw[VV,←VV];have d:((cells.toList.take (j*size))++v.cells.toList).length=(j+1)*size:=by simp[h1,Xm];omega
  rw[←d,Xw];rfl
theorem xl{g:Gh}{e:Nat}:∀{ys:aD}{vs:aG},ax g ys vs->(∀y∈ys,(bn y).length=e∧cz (bn y)=true∧(y.one=true∨d9 (.pv y)))->
 aK g e (ys.map bn) ((vs.map λv=>v.cells.toList).flatten)∧∀v∈vs,v.cells.size=e
 |[],_,h,_=>by simp only[ax]at h;subst h;simp[aK]
 |y::ys,_,⟨v,r,h1,f,i⟩,hy=>by
  subst h1;obtain⟨c,d,a3⟩:=hy y (VN ..);have a:=jM f a3;obtain⟨b1,b2⟩:=xl i (λz hz=>hy z (VG _ hz));refine⟨⟨v.cells.toList,_,by simp,⟨c,ep d a⟩,a,b1⟩,λu b=>?_⟩;rcases VU.1 b with rfl|b;have:=a.length;rw[c]at this;simpa using this;exact b2 u b
def eq(P:aa)(t:ah):Option aD:=
 match P.underlying t with
 |some (.slice e)=>dL P e
 |_=>none
theorem nk{P:aa}{g:Gh}{a:Act}{w:ab}(o:ai)(t:ah)(len e:Nat)(b:Array (Nat×ae))(zs ys:aD)(ho:o.op=.buildSlice t len b)
 (hs:bU P t=some e) (hz:eq P t=some zs) (v:len*e<=16777216) (hp:b.toList.map (·.1)=List.range len)
 (r:ax g ys ((b.toList.map (·.2)).map a.eval)) (hy:∀y∈ys,(bn y).length=e∧cz (bn y)=true∧(y.one=true∨d9 (.pv y))):
 ∃arr T,aK g e (ys.map bn) arr∧
  (execOp a.eval o).run P w=.ok (.value (.slice (some ⟨w.heap.size,0,none⟩) len len)) (w.alloc (.cells arr.toArray T))∧(ys.map bn).length=len:=by
 obtain⟨x,A⟩:=xl r hy;unfold bU at hs;split at hs
 case h_2=>cases hs
 rename_i u s;simp only[VW]at hs;obtain⟨c,d,rfl⟩:=hs;unfold eq at hz;rw[s]at hz;simp only[dL,d,VW]at hz;obtain⟨z,hz,rfl⟩:=hz;have h:b.toList.length=len:=by have:=Xp List.length hp;simpa using this
 refine⟨_,u,x,?_,?_⟩;have j:(b.map λ(p:Nat×ae)=>(p.1,a.eval p.2)).toList=(((b.toList.map (·.2)).map a.eval).zipIdx 0).map λp=>(p.2,p.1):=by
  apply Wv;intro i;simp only[YT,VO,List.getElem?_zipIdx,Option.map_map];cases hi:b.toList[i]?with
  |none=>simp
  |some q=>
   have:=Xp (λl=>l[i]?) hp;simp only[VO,hi,Wq]at this;rw[aao (by have:=(Vp.1 hi).1;omega)]at this;simp only[Wc]at this;simp[this]
 have k:((Array.range (len*c.size)).map ((if len*c.size=0 then(#[]:Array an)else z.cells)[·%(if len*c.size=0 then(#[]:Array an)else z.cells).size]!)).size=(0+((b.toList.map (·.2)).map a.eval).length)*c.size:=by
  simp[h]
 obtain⟨out,f,m⟩:=AI c.size ((b.toList.map (·.2)).map a.eval) 0 _ A k;rw[←j]at f;simp only[YZ,Zb,V8]at m;rw[←m];simp only[execOp,ho,Instr.buildSlice,bD,cq s,bK,run_sizeOf d];rw[Vs (by omega)];by_cases n:len*c.size=0;simp only[n,Xl]at f⊢;simp only[bD,bN,bK,f];simp[newRow];simp only[n,WM]at f⊢;simp only[zeroValue,typeInfo,bD,run_program,d,hz,bN,bK,f];simp[newRow];have:=r.length;simp only[VA]at this⊢;rw[←this];exact h
theorem uy{P:aa}{g:Gh}{st:St}{a:Act}{w:ab}(h:Sim g st a w)(o:ai)(t:ah)(len e:Nat)(b:Array (Nat×ae))(zs:aD)(ho:o.op=.buildSlice t len b)
 (hs:bU P t=some e) (hz:eq P t=some zs) (c:len*e<=16777216) (hp:b.toList.map (·.1)=List.range len)
 (i:(dE st (b.toList.map (·.2))).2.2) (hy:∀y∈(dE st (b.toList.map (·.2))).1,(bn y).length=e∧cz (bn y)=true∧(y.one=true∨d9 (.pv y))):
 ∃g' arr T,g.to g'∧g.le g'∧g'.n=g.n∧Sim g' (dE st (b.toList.map (·.2))).2.1 a w∧aK g' e ((dE st (b.toList.map (·.2))).1.map bn) arr∧
  (execOp a.eval o).run P w=.ok (.value (.slice (some ⟨w.heap.size,0,none⟩) len len)) (w.alloc (.cells arr.toArray T))∧((dE st (b.toList.map (·.2))).1.map bn).length=len:=by
 obtain⟨f,t1,j,k,p,d⟩:=oI _ h i;obtain⟨arr,T,l,m,r3⟩:=nk (w:=w) o t len e b zs _ ho hs hz c hp d hy;exact⟨f,arr,T,t1,j,k,p,l,m,r3⟩
theorem uz{P:aa}{st:St}(o:ai)(t:ah)(len e:Nat)(b:Array (Nat×ae))(zs:aD)(d:Nat)(ho:o.op=.buildSlice t len b)(hd:o.dst=some d)
 (hs:bU P t=some e) (hz:eq P t=some zs) (k:len*e<=16777216) (h0:0<e) (hp:b.toList.map (·.1)=List.range len)
 (q:(dE st (b.toList.map (·.2))).2.2) (hy:∀y∈(dE st (b.toList.map (·.2))).1,(bn y).length=e∧cz (bn y)=true∧(y.one=true∨d9 (.pv y))) {N:Nat} (p:d<N):
 ∀g a w,g.N=N->Sim g st a w->∃v w' g',(execOp a.eval o).run P w=.ok (.value v) w'∧g.to g'∧
  Sim g' ⟨(d,.own true e ((dE st (b.toList.map (·.2))).1.map bn))::aW (dx d) (dE st (b.toList.map (·.2))).2.1.t,(dE st (b.toList.map (·.2))).2.1.h⟩ (a.put o.dst v) w':=by
 intro g a w r h;obtain⟨n,arr,T,t1,u,x,i,l,s,f⟩:=uy h o t len e b zs ho hs hz k hp q hy;refine⟨_,_,n,s,t1,?_⟩;rw[hd];obtain⟨bl,m⟩:=i.own;refine i.putOwn m (o:=some w.heap.size) (by rw[t1.N,r];exact p) rfl (by simp) (λc j _=>heap_alloc_old w _ j) (.inr ⟨w.heap.size,rfl,len,arr.toArray,T,arr,by rw[f],heap_alloc_new w _,?_,⟨by rw[f];exact Vu _,?_,by simpa using l.one⟩,l,by simp,λ_=>i.B⟩) rfl (λc j=>?_);have:=l.length;rw[f]at this;simpa using this;have:len<=len*e:=Zq _ h0;unfold maxLen;omega;cases j;exact⟨by simp,i.fresh m (Vu _)⟩
theorem gH{g:Gh}{st:St}{a:Act}{w:ab}(h:Sim g st a w){x:ae}{e:Nat}(G:gc st x)(hs:jV st e (mv st x)):
 ∃q cap vs,a.eval x=.slice q (rowsOf st (mv st x)).length cap∧aK g e (rowsOf st (mv st x)) vs∧(rowsOf st (mv st x)=[]∨∃C:Addr,q=some C∧∀(j:Nat) u,vs[j]?=some u->w.cell? (C.add j)=some u):=by
 obtain⟨r,o⟩:=bm h x G;have d:∀{rows:aT},rows=[]->aK g e rows []:=λh=>by subst h;rfl
 unfold jV at hs;split at hs;rename_i nw e' rows f;subst hs;rw[f]at r⊢;obtain⟨_,q,cap,b,_,H⟩:=r;rcases H with rfl|⟨c,off,arr,T,fz,vs,rfl,m,_,E,F⟩;exact⟨q,cap,[],b,rfl,.inl rfl⟩;refine⟨_,cap,vs,b,E,.inr ⟨_,rfl,λj u hj=>?_⟩⟩;rw[gW,cell_of (h.I _ _ m)];have:=iA F hj
 rwa [Wk,Vw]at this
 rename_i v f;rw[f]at r⊢;have b:a.eval x=v:=r.2;exact⟨none,0,[],by rw[b,iB hs];rfl,rfl,.inl rfl⟩;rename_i p f;rw[f]at o⊢;split at hs;rename_i nw e' rows hp;subst hs;obtain⟨bl,z⟩:=h.own;have b:=o (by rw[hp];rfl);have:=bT z (p:=p) (by rw[hp];rfl);rw[hp]at this;simp only[rowsOf,hp];rcases this with⟨_,rfl,i⟩|⟨c,_,cap,arr,T,vs,i,s,_,_,t,y,_⟩;exact⟨none,0,[],by rw[b,i];rfl,rfl,.inl rfl⟩;refine⟨_,cap,vs,by rw[b,i],t,.inr ⟨_,rfl,λj u hj=>?_⟩⟩;rw[gW,cell_of s,Wr,←Vw];exact iA y hj;exact hs.elim;rename_i p lo hi f;rw[f]at o⊢;split at hs;rename_i nw e' rows hp;subst hs;obtain⟨h1,m,q,cap,b,J,B⟩:=o _ _ _ hp;obtain⟨bl,z⟩:=h.own;have:=bT z (p:=p) (by rw[hp];rfl);rw[hp]at this;have k:(rowsOf st (.loc p lo hi)).length=hi -lo:=by simp only[rowsOf,hp,Wf,Vy];omega
 by_cases A:lo=hi;have:rowsOf st (.loc p lo hi)=[]:=Xx (by omega);exact⟨q,cap,[],by rw[b,k],d this,.inl this⟩;rcases B with B|⟨c,n,cp,l,rfl⟩;exact absurd B A;rcases this with⟨_,rfl,i⟩|⟨c',_,D,arr,T,vs,i,s,_,_,t,y,_⟩;simp at m;omega;rw[i]at l;cases l;refine⟨_,cap,(vs.take (hi*e')).drop (lo*e'),by rw[b,k],by simp only[rowsOf,hp];exact t.cut lo hi h1 m,.inr ⟨_,rfl,λj u hj=>?_⟩⟩;rw[gW,cell_of s];have:=iA (jW y (lo*e') (hi*e')) hj
 rwa [Wk,Vw]at this
 exact hs.elim;exact hs.elim
theorem nl{P:aa}(w:ab)(t ty e:ah)(i:TypeInfo)(ht:P.underlying t=some (.slice e))(hi:P.info? e=some i)(b:Option Addr)(n cap:Nat)(hn:n<=cap)(q:Option Addr)(c:Nat):
 (Builtin.append_ #[t,t] ty #[.slice b n cap,.slice q 0 c]).run P w=.ok (.slice b n cap) w:=by
 cases q with
 |none=>cases b<;>simp[Builtin.append_,cq ht,sizeOf,typeInfo,hi,Builtin.lenOf,hn,Builtin.firstCells,storeCells]
 |some q=>cases b<;>simp[Builtin.append_,cq ht,sizeOf,typeInfo,hi,Builtin.lenOf,hn,Builtin.firstCells,storeCells,loadCells,loadCellsFrom]
theorem pD{P:aa}(w:ab)(t ty e:ah)(i:TypeInfo)(ht:P.underlying t=some (.slice e))(hi:P.info? e=some i)
 (c n cap:Nat) (T:ah) (arr:Array an) (h:w.heap[c]?=some (.cells arr T (0,0))) (a:Addr) (m k:Nat) (news:aG) (o:news.length=m*i.size) (b:∀(j:Nat) u,news[j]?=some u->w.cell? (a.add j)=some u) (h1:∀u∈news,u.oneCell'=true)
 (d:n+m<=cap) (f:n*i.size+news.length<=arr.size):
 (Builtin.append_ #[t,t] ty #[.slice (some ⟨c,0,none⟩) n cap,.slice (some a) m k]).run P w=.ok (.slice (some ⟨c,0,none⟩) (n+m) cap) (w.setRow c (splice arr.toList (n*i.size) news).toArray):=by
 have l:=run_firstCells_some (P:=P) w i.size m a m k news o b;have g:=run_storeCells_at P c (n*i.size) T news 0 arr w h (by simpa using f) h1;simp only[Ye]at g;simp[Builtin.append_,cq ht,sizeOf,typeInfo,hi,Builtin.lenOf,d,l,gW,g,splice]
def cF(P:aa)(t:ah):Option (Nat×Nat):=
 match P.underlying t with
 |some (.slice a)=>match P.info? a with
  |some i=>match i.zero with
   |some z=>if z.cells.size=i.size∧z.cells.toList.all (λu=>u.oneCell')=true then some (i.size,i.bytes)else none
   |none=>none
  |none=>none
 |_=>none
theorem oJ{P:aa}{t:ah}{e b:Nat}(h:cF P t=some (e,b)):∃a i z,P.underlying t=some (.slice a)∧P.info? a=some i∧i.zero=some z∧i.size=e∧i.bytes=b∧z.cells.size=e∧∀u∈z.cells.toList,u.oneCell'=true:=by
 unfold cF at h;split at h
 case h_2=>cases h
 rename_i a c;split at h
 case h_2=>cases h
 rename_i i hi;split at h
 case h_2=>cases h
 rename_i z hz;split at h
 case isFalse=>cases h
 rename_i hs;cases h;exact⟨a,i,z,c,hi,hz,rfl,rfl,hs.1,λu c=>Wa.1 hs.2 u c⟩
theorem mz{P:aa}{g:Gh}{w:ab}{t ty:ah}{e b:Nat}(hi:cF P t=some (e,b))(S:0<b){nw:Bool}{rows xr:aT}{v:an}{o:Option Nat}(hB:g.B<=w.heap.size)
 (M:aO g w (.own nw e rows) v o) {q:Option Addr} {k:Nat} {news:aG} (hx:aK g e xr news) (s:xr=[]∨∃F:Addr,q=some F∧∀(j:Nat) u,news[j]?=some u->w.cell? (F.add j)=some u)
 (l:(rows.length+xr.length)*b<=140737488355328):
 ∃v' w' o',(Builtin.append_ #[t,t] ty #[v,.slice q xr.length k]).run P w=.ok v' w'∧cH w'=cH w∧w.heap.size<=w'.heap.size∧aO g w' (.own nw e (rows++xr)) v' o'∧
  (∀c,c<w.heap.size->o'≠some c->w'.heap[c]?=w.heap[c]?)∧∀c,o'=some c->c<w'.heap.size∧(o=some c∨w.heap.size<=c):=by
 obtain⟨p,i,z,L,d,hz,rfl,rfl,af,Z⟩:=oJ hi;have ae:∀n,∀v∈(Builtin.zeroCells z.cells n).toList,v.oneCell'=true:=λn v M=>by
  simp only[Builtin.zeroCells,YT,VB]at M;obtain⟨j,hj,rfl⟩:=M;by_cases e:z.cells.size=0;rw[e]at hj;simp at hj;have K:j %z.cells.size<z.cells.size:=aas _ (by omega);rw[XW z.cells (j %z.cells.size) K];exact Z _ (YJ K)
 have x:news.length=xr.length*i.size:=hx.length;have ag:rows.length+xr.length<=140737488355328:=by
  have:(rows.length+xr.length)*1<=(rows.length+xr.length)*i.bytes:=ZL _ S;omega
 have I:((rows.length+xr.length:Nat):Int)<=9223372036854775807:=by omega
 by_cases V:xr=[];subst V;simp only[aK]at hx;rcases M with⟨rfl,rfl,rfl⟩|⟨c,rfl,cap,arr,T,vs,rfl,D,O,G,H,Q,R⟩;exact⟨_,w,none,nl w t ty p i L d none 0 0 (Vu _) q k,rfl,Vu _,.inl ⟨rfl,rfl,rfl⟩,λ_ _ _=>rfl,λc s=>by cases s⟩;refine⟨_,w,some c,nl w t ty p i L d _ _ cap G.1 q k,rfl,Vu _,.inr ⟨c,rfl,cap,arr,T,vs,by simp,D,O,by simpa using G,by simpa using H,Q,R⟩,λ_ _ _=>rfl,λc' a=>?_⟩;cases a;exact⟨(VD.1 D).1,.inl rfl⟩;have W:0<xr.length:=WJ.2 V;rcases s with s|⟨F,rfl,f⟩;exact absurd s V;have fresh:∀(m:aG)(vs:aG),aK g i.size rows vs->m=vs->∀cp,rows.length+xr.length<=cp->cp<=maxLen->
  aO g (w.drew.alloc (.cells (m.toArray++news.toArray++Builtin.zeroCells z.cells (cp -(rows.length+xr.length))) p)) (.own nw i.size (rows++xr)) (.slice (some ⟨w.heap.size,0,none⟩) (rows.length+xr.length) cp) (some w.heap.size):=by
  intro m vs A ho cp U y;subst ho;have X:=A.length;refine .inr ⟨w.heap.size,rfl,cp,_,p,m++news,by rw[Vz],heap_alloc_new w.drew _,?_,⟨by rw[Vz];exact U,y,by simpa only[ZM]using eM (eM A.one hx.one) (ae _)⟩,aK.append A hx,?_,λ_=>hB⟩;simp only[YK,Ww,size_zeroCells,af,X,x,←Zw];congr 1;omega;refine⟨(Builtin.zeroCells z.cells (cp -(rows.length+xr.length))).toList,by simp⟩
 have J:=grownCap_ge w (rows.length+xr.length);have y:=λold=>grownCap_le_maxLen w (rows.length+xr.length) old p (by unfold maxLen;omega);have keep:∀(ob:Obj)(c:Nat),c<w.heap.size->(w.drew.alloc ob).heap[c]?=w.heap[c]?:=λob c s=>heap_alloc_old w.drew ob s;rcases M with⟨rfl,rfl,rfl⟩|⟨c,rfl,cap,arr,T,vs,rfl,D,O,G,H,Q,R⟩;have A:=run_append_nil (P:=P) w t ty p i z L d hz F xr.length k news x f W (by simpa using I) (by simp only[List.length_nil,Wr]at l;omega);have hf:=fresh [] [] rfl rfl (grownCap w xr.length 0 p) (by simpa using J 0 p) (by simpa using y 0);simp only[V8,Array.empty_append,List.length_nil,Wr]at hf;refine⟨_,_,_,A,rfl,by simp,by simpa using hf,λc s _=>keep _ c s,λc s=>?_⟩;cases s;exact⟨by simp,.inr (Vu _)⟩;have N:=H.length;by_cases h:rows.length+xr.length<=cap;have C:rows.length*i.size+news.length<=arr.size:=by rw[x,O,←Zw];exact Xc _ h
 have A:=pD (P:=P) w t ty p i L d c rows.length cap T arr D F xr.length k news x f hx.one h C;refine⟨_,w.setRow c (splice arr.toList (rows.length*i.size) news).toArray,some c,A,rfl,by simp,.inr ⟨c,rfl,cap,_,T,vs++news,by simp,setRow_heap w c arr _ T _ D,?_,⟨by simpa using h,G.2.1,ur G.2.2 hx.one _⟩,aK.append H hx,?_,R⟩,λc' _ a=>setRow_other w c c' _ (λee=>a (by rw[ee])),λc' a=>?_⟩;simp only[Ww];rw[cJ (by simpa using C)];simpa using O;obtain⟨r,Y⟩:=Q;refine⟨arr.toList.drop (rows.length*i.size+news.length),?_⟩;simp only[splice];rw[←Y,←N,Xw];rfl;cases a;exact⟨by simp;exact(VD.1 D).1,.inl rfl⟩;have E:∀(j:Nat) u,vs[j]?=some u->w.cell? ((⟨c,0,none⟩:Addr).add j)=some u:=λj u hj=>by
  rw[gW,cell_of D,Wr,←Vw];exact iA Q hj
 have A:=run_append_grow (P:=P) w t ty p i z L d hz ⟨c,0,none⟩ rows.length cap vs N E F xr.length k news x f (by omega) I (growslice_fits (by omega) l);refine⟨_,_,_,A,rfl,by simp,fresh vs vs H rfl (grownCap w (rows.length+xr.length) cap p) (J cap p) (y cap),λc' a _=>keep _ c' a,λc' a=>?_⟩;cases a;exact⟨by simp,.inr (Vu _)⟩
theorem Dm{P:aa}{st:St}(o:ai)(t:ah)(s x:ae)(d e b:Nat)(p:Pos)(nw:Bool)(rows:aT)(ho:o.op=.call {callee:=.builtin .append,args:=#[s,x],argTypes:=#[t,t]}) (hd:o.dst=some d)
 (hi:cF P t=some (e,b)) (n:0<b) (C:gc st s) (hs:mv st s=.al p) (hp:aj st p=.own nw e rows) (D:gc st x) (hx:jV st e (mv st x))
 (f:(rows.length+(rowsOf st (mv st x)).length)*b<=140737488355328) {N:Nat} (L:d<N):
 ∀g a w,g.N=N->Sim g st a w->∃v w' g',(execOp a.eval o).run P w=.ok (.value v) w'∧g.to g'∧
  Sim g' ⟨(d,.own nw e (rows++rowsOf st (mv st x)))::aW (dx d) (setPos st p (.pv .bot)).t,(setPos st p (.pv .bot)).h⟩ (a.put o.dst v) w':=by
 intro g a w M h;obtain⟨bl,H⟩:=h.own;have i:(aj st p).isOwn=true:=by rw[hp];rfl
 obtain⟨_,has⟩:=bm h s C;rw[hs]at has;have m:=bT H i;rw[hp]at m;obtain⟨q,cap,news,F,z,r⟩:=gH h D hx;obtain⟨Q,w',R,O,u,E,y,G,l⟩:=mz (ty:=o.type) (k:=cap) hi n h.B m z r f;refine⟨Q,w',g,?_,h.refl_to,?_⟩;simp only[execOp,ho,resolve,invoke,builtin,YU,VP,Xg,bD,bN,bK,has i,F,O];obtain⟨h1,J,j,_,_,K⟩:=h.drop H p;rw[hd];exact h1.putOwn j (M▸L) u E G y rfl (λc I=>⟨(l c I).1,(l c I).2.elim (λe=>K c e) (λA=>h1.fresh j A)⟩)
theorem append_nil{P:aa}{st:St}(o:ai)(t:ah)(s x:ae)(d e b:Nat)(u:an)(ho:o.op=.call {callee:=.builtin .append,args:=#[s,x],argTypes:=#[t,t]}) (hd:o.dst=some d)
 (hi:cF P t=some (e,b)) (l:0<b) (z:gc st s) (hs:mv st s=.pv (.lit u)) (L:ic u=true) (A:gc st x) (hx:jV st e (mv st x))
 (f:(rowsOf st (mv st x)).length*b<=140737488355328) {N:Nat} (I:d<N):
 ∀g a w,g.N=N->Sim g st a w->∃v w' g',(execOp a.eval o).run P w=.ok (.value v) w'∧g.to g'∧
  Sim g' ⟨(d,.own true e (rowsOf st (mv st x)))::aW (dx d) st.t,st.h⟩ (a.put o.dst v) w':=by
 intro g a w J h;obtain⟨bl,G⟩:=h.own;obtain⟨j,_⟩:=bm h s z;rw[hs]at j;have D:a.eval s=.slice none 0 0:=by have:=j.2;rw[iB L]at this;exact this
 obtain⟨q,cap,news,E,r,m⟩:=gH h A hx;obtain⟨M,w',O,K,n,C,p,F,i⟩:=mz (ty:=o.type) (k:=cap) (nw:=true) (rows:=[]) (v:=.slice none 0 0) (o:=none) hi l h.B (.inl ⟨rfl,rfl,rfl⟩) r m (by simpa using f);refine⟨M,w',g,?_,h.refl_to,?_⟩;simp only[execOp,ho,resolve,invoke,builtin,YU,VP,Xg,bD,bN,bK,D,E,K];rw[hd];exact h.putOwn G (J▸I) n C F (by simpa using p) rfl (λc H=>⟨(i c H).1,(i c H).2.elim (λe=>by cases e) (λy=>h.fresh G y)⟩)
end Go.AX
namespace Go.AX
def tI(x:PV)(e n:Nat):PV:=
 match x with
 |.iptr _ [cells] 0 k=>if e=1∧k+n<=cells.length then .seq false 1 (((cells.drop k).take n).map λy=>[y])else .bot
 |_=>.bot
mutual
def jD(r:Nat->Nat->PV):PV->PV
  |.bot=>.bot
  |.lit v=>.lit v
  |.agg xs=>.agg (eG r xs)
  |.tup xs=>.tup (eG r xs)
  |.seq _ e rows=>.seq false e (mA r rows)
  |.iptr e rows i k=>.iptr e (mA r rows) i k
  |.ptr b off=>r b off
  |.bsl b e off n _=>tI (r b off) e n
  |.fn f first cap=>.fn f (eG r first) (eG r cap)
  |.amap _ es=>.amap false (nL r es)
  |.ifc t x=>.ifc t (jD r x)
def eG(r:Nat->Nat->PV):aD->aD
  |[]=>[]
  |x::xs=>jD r x::eG r xs
def mA(r:Nat->Nat->PV):aT->aT
  |[]=>[]
  |x::xs=>eG r x::mA r xs
def nL(r:Nat->Nat->PV):dw->dw
  |[]=>[]
  |(k,x)::xs=>(k,jD r x)::nL r xs
end
theorem dY(r:Nat->Nat->PV):∀xs:aD,eG r xs=xs.map (jD r)
 |[]=>rfl
 |x::xs=>by simp[eG,dY r xs]
theorem cN(r:Nat->Nat->PV):∀xs:aT,mA r xs=xs.map (List.map (jD r))
 |[]=>rfl
 |x::xs=>by simp[mA,cN r xs,dY]
theorem AJ(r:Nat->Nat->PV):∀xs:dw,nL r xs=xs.map (λp=>(p.1,jD r p.2))
 |[]=>rfl
 |(k,x)::xs=>by simp[nL,AJ r xs]
def frzC(r:Nat->Nat->PV):SV->PV
 |.pv x=>jD r x
 |.own _ e rows=>.seq false e (mA r rows)
 |.omap _ es=>.amap false (nL r es)
 |_=>.bot
def bE(h:ao):Nat->Nat->Nat->PV
 |0,_,_=>.bot
 |n+1,b,off=>.iptr (h.getD b []).length [(h.getD b []).map (frzC (bE h n))] 0 off
def dZ(w:ab):Gh:={I:=λc=>w.heap[c]?,F:=λ_=>none,B:=w.heap.size,μ:=λ_=>0,n:=0,n0:=0,N:=0,env:=cH w}
theorem ax.rows1{g:Gh}:∀{xs:aD}{vs:aG},ax g xs vs->(∀v∈vs,v.oneCell'=true)->aK g 1 (xs.map λy=>[y]) vs
 |[],_,h,_=>h
 |x::xs,_,⟨v,r,h1,b,c⟩,ho=>by
  subst h1;exact⟨[v],r,rfl,⟨rfl,λu a=>ho u (by simp at a;simp[a])⟩,⟨v,[],rfl,b,rfl⟩,ax.rows1 c λu a=>ho u (VG _ a)⟩
theorem N3{g:Gh}{x:PV}{e n cap:Nat}{q:Addr}(hx:Fit g x (.pointer (some q)))(m:n<=cap):Fit g (tI x e n) (.slice (some q) n cap):=by
 unfold tI;split;rename_i e' cells k;split;rename_i hk;obtain⟨c,off,arr,T,fz,vs,h1,i,⟨s,t,rfl,j,d,l⟩,f⟩:=hx;have b:t=[]:=l;subst b;rw[WF]at f;have u:=d.length;have a:(((cells.drop k).take n).map λy=>[y]).length=n:=by simp;omega
 refine⟨_,cap,by rw[a],by rw[a];exact m,.inr ⟨c,off+k,arr,T,fz,(s.drop k).take n,?_,i,λh=>(by cases h),?_,?_⟩⟩;injection h1 with h1;rw[h1];simp;exact ax.rows1 ((d.drop k).take n) λv p=>j.2 v (XB (Wn p));refine(Ze n _).trans ?_;rw[←Wx];obtain⟨r,o⟩:=f;rw[←o,WB (by omega)];exact⟨r,rfl⟩;trivial;trivial
section
variable {g : Gh} {w : ab} {r : Nat -> Nat -> PV}
mutual
theorem Fit.frz(hI:∀c o,g.I c=some o->w.heap[c]?=some o)(hr:∀b off,b<g.n->Fit (dZ w) (r b off) (.pointer (some ⟨g.μ b,off,none⟩))):
    ∀(x:PV)(v:an),Fit g x v->Fit (dZ w) (jD r x) v
  |.bot,_,_=>trivial
  |.lit _,_,h=>h
  |.agg xs,v,⟨vs,h1,h2⟩=>⟨vs,h1,ax.frz hI hr xs _ h2⟩
  |.tup xs,v,⟨vs,h1,h2⟩=>⟨vs,h1,ax.frz hI hr xs _ h2⟩
  |.seq nw e rows,v,⟨p,cap,h1,hc,h2⟩=>⟨p,cap,by rw[h1,cN,VA],by rw[cN,VA];exact hc,h2.imp (λh=>by rw[h];rfl)
      λ⟨c,off,arr,T,fz,vs,a,b,_,q1,q2⟩=>⟨c,off,arr,T,fz,vs,a,hI _ _ b,λhn=>(by cases hn),aK.frz hI hr e rows vs q1,q2⟩⟩
  |.iptr e rows i k,v,⟨c,off,arr,T,fz,vs,a,b,q1,q2⟩=>⟨c,off,arr,T,fz,vs,a,hI _ _ b,aK.frz hI hr e rows vs q1,q2⟩
  |.ptr b off,v,⟨h1,h2⟩=>by rw[h2];exact hr b off h1
  |.bsl b e off n cap,v,⟨h1,h2,h3⟩=>by rw[h3];exact N3 (hr b off h1) h2
  |.fn f first cap,v,⟨a,b,h1,h2,h3⟩=>⟨a,b,h1,ax.frz hI hr first _ h2,ax.frz hI hr cap _ h3⟩
  |.amap nw es,v,⟨c,en,ck,a,b,_,q⟩=>⟨c,en,ck,a,hI _ _ b,λhn=>(by cases hn),cu.frz hI hr es _ q.1,q.2⟩
  |.ifc t x,v,⟨y,h1,h2⟩=>⟨y,h1,Fit.frz hI hr x y h2⟩
theorem ax.frz(hI:∀c o,g.I c=some o->w.heap[c]?=some o)(hr:∀b off,b<g.n->Fit (dZ w) (r b off) (.pointer (some ⟨g.μ b,off,none⟩))):
    ∀(xs:aD)(vs:aG),ax g xs vs->ax (dZ w) (eG r xs) vs
  |[],_,h=>h
  |x::xs,vs,⟨v,r',h1,h2,h3⟩=>⟨v,r',h1,Fit.frz hI hr x v h2,ax.frz hI hr xs r' h3⟩
theorem aK.frz(hI:∀c o,g.I c=some o->w.heap[c]?=some o)(hr:∀b off,b<g.n->Fit (dZ w) (r b off) (.pointer (some ⟨g.μ b,off,none⟩)))(e:Nat):
    ∀(rows:aT)(vs:aG),aK g e rows vs->aK (dZ w) e (mA r rows) vs
  |[],_,h=>h
  |row::rows,vs,⟨v1,v2,h1,h2,h3,h4⟩=>⟨v1,v2,h1,⟨by rw[dY,VA];exact h2.1,h2.2⟩,ax.frz hI hr row v1 h3,aK.frz hI hr e rows v2 h4⟩
theorem cu.frz(hI:∀c o,g.I c=some o->w.heap[c]?=some o)(hr:∀b off,b<g.n->Fit (dZ w) (r b off) (.pointer (some ⟨g.μ b,off,none⟩))):
    ∀(es:dw)(en:List MapEntry),cu g es en->cu (dZ w) (nL r es) en
  |[],_,h=>h
  |(k,x)::es,en,⟨m,r',h1,h2,h3,h4⟩=>⟨m,r',h1,h2,Fit.frz hI hr x m.val h3,cu.frz hI hr es r' h4⟩
end
end
theorem aO.frz{g:Gh}{w:ab}{r:Nat->Nat->PV}(f:∀c o,g.I c=some o->w.heap[c]?=some o)(i:∀b off,b<g.n->Fit (dZ w) (r b off) (.pointer (some ⟨g.μ b,off,none⟩)))
 {x:SV} {v:an} {b:Option Nat} (h:aO g w x v b) (m:x.inCell=true):Fit (dZ w) (frzC r x) v:=by
 cases x with
 |pv y=>exact Fit.frz f i y v h.2
 |own nw e rows=>
  rcases h with⟨_,rfl,rfl⟩|⟨c,_,cap,arr,T,vs,rfl,a,j,d,k,l,p⟩;exact⟨none,0,rfl,Vu _,.inl rfl⟩;exact⟨_,cap,by rw[cN,VA],by rw[cN,VA];exact d.1,.inr ⟨c,0,arr,T,(0,0),vs,rfl,a,λhn=>(by cases hn),aK.frz f i e rows vs k,by simpa using l⟩⟩
 |omap nw es=>
  obtain⟨c,_,en,ck,rfl,a,j,d⟩:=h;exact⟨c,en,ck,rfl,a,λhn=>(by cases hn),cu.frz f i es _ j,d.2⟩
 |_=>cases m
theorem mB{g:Gh}{st:St}{a:Act}{w:ab}(h:Sim g st a w):∀(n b off:Nat),b<g.n->Fit (dZ w) (bE st.h n b off) (.pointer (some ⟨g.μ b,off,none⟩))
 |0,_,_,_=>trivial
 |n+1,b,off,t=>by
  obtain⟨bl,l⟩:=h.own;have z:b<st.h.length:=h.n▸t;have k:st.h[b]?=some (st.h.getD b []):=by simp[List.getD,Vq z]
  obtain⟨arr,T,h1,⟨o,i⟩,p⟩:=l.blocks b _ k;have B:=λb' f=>mB h n b' f;simp only[bE];generalize st.h.getD b []=xs at*;have key:∀(ys:bj)(c:aG),ys.length=c.length->(∀(j:Nat)(x:SV)(u:an),ys[j]?=some x->c[j]?=some u->x.inCell=true∧∃b':Option Nat,aO g w x u b')->ax (dZ w) (ys.map (frzC (bE st.h n))) c:=by
   intro ys
   induction ys with
   |nil=>intro c d _;cases c with
    |nil=>rfl
    |cons _ _=>simp at d
   |cons y ys m=>
    intro c d hs;cases c with
    |nil=>simp at d
    |cons u c=>
     obtain⟨q,b',r⟩:=hs 0 y u rfl rfl;exact⟨u,c,rfl,aO.frz h.I B r q,m c (by simpa using d) (λj x v hx A=>hs (j+1) x v (by simpa using hx) (by simpa using A))⟩
  have s := key xs arr.toList (by simpa using o.symm) (λ j x u hx d => by
   have:=p j x hx;refine⟨this.1,bl (.cell b j),?_⟩;have e:arr.getD j undef=u:=by rw[Vw]at d;simp[VJ,d]
   rw[←e];exact this.2)
  refine⟨g.μ b,0,arr,T,(0,0),arr.toList,by simp,h1,⟨arr.toList,[],by simp,⟨by simp,i⟩,s,rfl⟩,by simp⟩
def vw(n:Nat)(st:St)(x:ae):PV:=
 match mv st x with
 |.pv y=>jD (bE st.h n) y
 |.al p=>frzC (bE st.h n) (aj st p)
 |.loc p lo hi=>match aj st p with
  |.own _ e rows=>.seq false e (mA (bE st.h n) ((rows.take hi).drop lo))
  |_=>.bot
 |_=>.bot
def N4(st:St)(x:ae):Prop:=
 gc st x∧match mv st x with
 |.al p=>(aj st p).isOwn=true
 |_=>True
theorem PP{g:Gh}{st:St}{a:Act}{w:ab}(h:Sim g st a w)(n:Nat)(x:ae)(hd:N4 st x):Fit (dZ w) (vw n st x) (a.eval x):=by
 obtain⟨A,hd⟩:=hd;obtain⟨s,j⟩:=bm h x A;have l:=mB h n;obtain⟨bl,r⟩:=h.own;unfold vw;split;rename_i y f;rw[f]at s;exact Fit.frz h.I l y _ s.2;rename_i p f;rw[f]at j hd;rw[j hd];exact aO.frz h.I l (bT r hd) (by cases hp:aj st p<;>simp only[hp]at hd<;>first|rfl|cases hd);rename_i p lo hi f;rw[f]at j;split;rename_i nw e rows hp;obtain⟨C,t,q,cap,B,jc,k⟩:=j _ _ _ hp;have b:=bT r (p:=p) (by rw[hp];rfl);rw[hp]at b;refine⟨q,cap,by rw[B,cN,VA,Wf,Vy];congr 1;omega,by rw[cN];simp;omega,?_⟩;by_cases d:lo=hi;left;subst d;rw[cN];simp;right;rcases k with k|⟨c,G,cp,i,rfl⟩;exact absurd k d;rcases b with⟨_,rfl,o⟩|⟨c',_,m,arr,T,vs,o,u,D,E,v,z,F⟩;simp at t;omega;rw[o]at i;cases i;refine⟨_,lo*e,arr,T,(0,0),(vs.take (hi*e)).drop (lo*e),rfl,u,λhn=>(by cases hn),aK.frz h.I l e _ _ (v.cut lo hi C t),jW z _ _⟩;trivial;trivial
mutual
def PV.nw:PV->Prop
  |.bot=>True
  |.lit _=>True
  |.agg xs=>N5 xs
  |.tup xs=>N5 xs
  |.seq n _ rows=>(rows=[]∨n=true)∧Da rows
  |.iptr _ _ _ _=>False
  |.ptr _ _=>False
  |.bsl _ _ _ _ _=>False
  |.fn _ first cap=>N5 first∧N5 cap
  |.amap n es=>n=true∧N6 es
  |.ifc _ x=>x.nw
def N5:aD->Prop
  |[]=>True
  |x::xs=>x.nw∧N5 xs
def Da:aT->Prop
  |[]=>True
  |x::xs=>N5 x∧Da xs
def N6:dw->Prop
  |[]=>True
  |(_,x)::xs=>x.nw∧N6 xs
end
theorem qS:∀xs:aT,Da xs↔∀r∈xs,N5 r
 |[]=>by simp[Da]
 |x::xs=>by simp[Da,qS xs]
theorem FY:∀xs:dw,N6 xs↔∀r∈xs,r.2.nw
 |[]=>by simp[N6]
 |(k,x)::xs=>by simp[N6,FY xs]
section
variable {g g2 : Gh}
mutual
theorem Fit.new(hI:∀c o,g.I c=some o->g.B<=c->g2.I c=some o)(hB:g2.B<=g.B):∀(x:PV)(v:an),x.nw->Fit g x v->Fit g2 x v
  |.bot,_,_,_=>trivial
  |.lit _,_,_,h=>h
  |.agg xs,v,hn,⟨vs,h1,h2⟩=>⟨vs,h1,ax.new hI hB xs _ hn h2⟩
  |.tup xs,v,hn,⟨vs,h1,h2⟩=>⟨vs,h1,ax.new hI hB xs _ hn h2⟩
  |.seq nw e rows,v,⟨hn1,hn2⟩,⟨p,cap,h1,hc,h2⟩=>⟨p,cap,h1,hc,hn1.elim .inl λhnw=>h2.imp id
      λ⟨c,off,arr,T,fz,vs,a,b,n,q1,q2⟩=>⟨c,off,arr,T,fz,vs,a,hI _ _ b (n hnw),λhn=>Wb hB (n hn),aK.new hI hB e rows vs hn2 q1,q2⟩⟩
  |.iptr _ _ _ _,_,hn,_=>hn.elim
  |.ptr _ _,_,hn,_=>hn.elim
  |.bsl _ _ _ _ _,_,hn,_=>hn.elim
  |.fn f first cap,v,⟨n1,n2⟩,⟨a,b,h1,h2,h3⟩=>⟨a,b,h1,ax.new hI hB first _ n1 h2,ax.new hI hB cap _ n2 h3⟩
  |.amap nw es,v,⟨hn1,hn2⟩,⟨c,en,ck,a,b,n,q⟩=>⟨c,en,ck,a,hI _ _ b (n hn1),λhn=>Wb hB (n hn),cu.new hI hB es _ hn2 q.1,q.2⟩
  |.ifc t x,v,hn,⟨y,h1,h2⟩=>⟨y,h1,Fit.new hI hB x y hn h2⟩
theorem ax.new(hI:∀c o,g.I c=some o->g.B<=c->g2.I c=some o)(hB:g2.B<=g.B):∀(xs:aD)(vs:aG),N5 xs->ax g xs vs->ax g2 xs vs
  |[],_,_,h=>h
  |x::xs,vs,⟨n1,n2⟩,⟨v,r',h1,h2,h3⟩=>⟨v,r',h1,Fit.new hI hB x v n1 h2,ax.new hI hB xs r' n2 h3⟩
theorem aK.new(hI:∀c o,g.I c=some o->g.B<=c->g2.I c=some o)(hB:g2.B<=g.B)(e:Nat):∀(rows:aT)(vs:aG),Da rows->aK g e rows vs->aK g2 e rows vs
  |[],_,_,h=>h
  |row::rows,vs,⟨n1,n2⟩,⟨v1,v2,h1,h2,h3,h4⟩=>⟨v1,v2,h1,h2,ax.new hI hB row v1 n1 h3,aK.new hI hB e rows v2 n2 h4⟩
theorem cu.new(hI:∀c o,g.I c=some o->g.B<=c->g2.I c=some o)(hB:g2.B<=g.B):∀(es:dw)(en:List MapEntry),N6 es->cu g es en->cu g2 es en
  |[],_,_,h=>h
  |(k,x)::es,en,⟨n1,n2⟩,⟨m,r',h1,h2,h3,h4⟩=>⟨m,r',h1,h2,Fit.new hI hB x m.val n1 h3,cu.new hI hB es r' n2 h4⟩
end
end
end Go.AX