/-
  Facts on the types of the seat's program (written by facts.py); and what follows.
-/
import Derived.Test.YtepodadinenmnaaGreatAxXW
import Derived.Test.YtepodadinenmnaaGreatRows
namespace Go.AX
open Go.Proofs
@[simp] theorem Rw:tk Tryz.prog 3=.int∧aI Tryz.prog 3=some (false,1)∧dA Tryz.prog 3=some [.lit (.int .i64 0)]∧tk Tryz.prog 4=.bool∧aI Tryz.prog 4=some (false,1)∧tk Tryz.prog 22=.slice∧aI Tryz.prog 22=some (false,1)∧bm Tryz.prog 22=some 1∧bM Tryz.prog 22=some (1,24)∧cZ Tryz.prog 22=some [.lit (.slice none 0 0)]∧aI Tryz.prog 24=some (true,2)∧dA Tryz.prog 24=some [.lit (.int .i64 0),.lit (.slice none 0 0)]∧zeroV Tryz.prog 24=some [.lit (.int .i64 0),.lit (.slice none 0 0)]∧bInfo Tryz.prog 24=some [(0,1),(1,1)]∧aI Tryz.prog 26=some (true,3)∧zeroV Tryz.prog 26=some [.lit (.int .i64 0),.lit (.int .i64 0),.lit (.int .i64 0)]∧bInfo Tryz.prog 26=some [(0,1),(1,1),(2,1)]∧tk Tryz.prog 27=.slice∧aI Tryz.prog 27=some (false,1)∧bm Tryz.prog 27=some 1:=by and_intros<;>kernel_rfl
@[simp] theorem PA:bM Tryz.prog 27=some (1,8)∧cZ Tryz.prog 27=some [.lit (.int .i64 0)]∧aI Tryz.prog 33=some (false,1)∧dA Tryz.prog 33=some [.lit .nilFunc]∧tk Tryz.prog 35=.slice∧aI Tryz.prog 35=some (false,1)∧bm Tryz.prog 35=some 1∧bM Tryz.prog 35=some (1,1)∧cZ Tryz.prog 35=some [.lit (.bool false)]∧tk Tryz.prog 37=.ptr∧aI Tryz.prog 37=some (false,1)∧tk Tryz.prog 38=.slice∧aI Tryz.prog 38=some (false,1)∧bm Tryz.prog 38=some 2∧bM Tryz.prog 38=some (2,32)∧cZ Tryz.prog 38=some [.lit (.int .i64 0),.lit (.slice none 0 0)]∧aI Tryz.prog 40=some (true,3)∧dA Tryz.prog 40=some [.lit (.slice none 0 0),.lit (.int .i64 0),.lit (.bool false)]∧zeroV Tryz.prog 40=some [.lit (.slice none 0 0),.lit (.int .i64 0),.lit (.bool false)]∧bInfo Tryz.prog 40=some [(0,1),(1,1),(2,1)]:=by and_intros<;>kernel_rfl
@[simp] theorem PB:tk Tryz.prog 48=.int∧tk Tryz.prog 56=.slice∧aI Tryz.prog 56=some (false,1)∧bm Tryz.prog 56=some 4∧bM Tryz.prog 56=some (4,64)∧cZ Tryz.prog 56=some [.lit (.int .i64 0),.lit (.int .i64 0),.lit (.slice none 0 0),.lit (.slice none 0 0)]∧aI Tryz.prog 58=some (true,4)∧dA Tryz.prog 58=some [.lit (.int .i64 0),.lit (.int .i64 0),.lit (.slice none 0 0),.lit (.slice none 0 0)]∧zeroV Tryz.prog 58=some [.lit (.int .i64 0),.lit (.int .i64 0),.lit (.slice none 0 0),.lit (.slice none 0 0)]∧bInfo Tryz.prog 58=some [(0,1),(1,1),(2,1),(3,1)]∧aI Tryz.prog 71=some (true,4)∧dA Tryz.prog 71=some [.lit (.int .i64 0),.lit (.int .i64 0),.lit (.slice none 0 0),.lit (.slice none 0 0)]∧zeroV Tryz.prog 71=some [.lit (.int .i64 0),.lit (.int .i64 0),.lit (.slice none 0 0),.lit (.slice none 0 0)]∧bInfo Tryz.prog 71=some [(0,1),(1,1),(2,1),(3,1)]∧tk Tryz.prog 86=.ptr∧aI Tryz.prog 86=some (false,1)∧tk Tryz.prog 87=.ptr∧aI Tryz.prog 87=some (false,1)∧tk Tryz.prog 88=.ptr∧aI Tryz.prog 88=some (false,1):=by and_intros<;>kernel_rfl
@[simp] theorem PC:tk Tryz.prog 89=.ptr∧aI Tryz.prog 89=some (false,1)∧tk Tryz.prog 90=.map∧aI Tryz.prog 90=some (false,1)∧dA Tryz.prog 90=some [.lit (.map none)]∧lW Tryz.prog 90=true∧ql Tryz.prog 90=some (.lit (.int .i64 0))∧zeroV Tryz.prog 92=some [.lit (.pointer none),.lit (.int .i64 0),.lit (.slice none 0 0),.lit (.pointer none),.lit (.pointer none),.lit (.pointer none),.lit (.slice none 0 0),.lit (.int .i64 0),.lit (.int .i64 0),.lit (.int .i64 0),.lit (.int .i64 0),.lit (.int .i64 0),.lit (.bool false),.lit (.int .i64 0),.lit (.bool false),.lit (.slice none 0 0),.lit (.map none)]∧bInfo Tryz.prog 92=some [(0,1),(1,2),(3,1),(4,1),(5,1),(6,1),(7,1),(8,1),(9,1),(10,1),(11,1),(12,1),(13,1),(14,1),(15,1),(16,1)]∧aI Tryz.prog 112=some (false,1)∧lW Tryz.prog 112=true∧ql Tryz.prog 112=some (.lit (.slice none 0 0))∧aI Tryz.prog 146=some (true,2)∧zeroV Tryz.prog 146=some [.lit (.int .i64 0),.lit (.slice none 0 0)]∧bInfo Tryz.prog 146=some [(0,1),(1,1)]∧tk Tryz.prog 148=.slice∧bm Tryz.prog 148=some 4∧bM Tryz.prog 148=some (4,32)∧cZ Tryz.prog 148=some [.lit (.int .i64 0),.lit (.int .i64 0),.lit (.int .i64 0),.lit (.bool false)]∧tk Tryz.prog 151=.slice:=by and_intros<;>kernel_rfl
@[simp] theorem OE:aI Tryz.prog 151=some (false,1)∧bm Tryz.prog 151=some 4∧bM Tryz.prog 151=some (4,32)∧cZ Tryz.prog 151=some [.lit (.int .i64 0),.lit (.int .i64 0),.lit (.int .i64 0),.lit (.int .i64 0)]∧zeroV Tryz.prog 153=some [.lit (.slice none 0 0),.lit (.slice none 0 0),.lit (.slice none 0 0),.lit (.bool false)]∧bInfo Tryz.prog 153=some [(0,1),(1,1),(2,1),(3,1)]∧zeroV Tryz.prog 158=some [.lit (.slice none 0 0),.lit (.slice none 0 0),.lit (.slice none 0 0)]∧bInfo Tryz.prog 158=some [(0,1),(1,1),(2,1)]∧zeroV Tryz.prog 160=some [.lit (.slice none 0 0),.lit (.map none)]∧bInfo Tryz.prog 160=some [(0,1),(1,1)]∧tk Tryz.prog 162=.map∧aI Tryz.prog 162=some (false,1)∧lW Tryz.prog 162=true∧ql Tryz.prog 162=some (.lit (.pointer none))∧zeroV Tryz.prog 164=some [.lit (.pointer none),.lit (.pointer none),.lit (.map none),.lit (.map none),.lit (.map none),.lit (.int .i64 0),.lit (.slice none 0 0)]∧bInfo Tryz.prog 164=some [(0,1),(1,1),(2,1),(3,1),(4,1),(5,1),(6,1)]∧zeroV Tryz.prog 187=some [.lit (.pointer none),.lit (.pointer none),.lit (.map none),.lit (.slice none 0 0),.lit (.int .i64 0)]∧bInfo Tryz.prog 187=some [(0,1),(1,1),(2,1),(3,1),(4,1)]∧aI Tryz.prog 190=some (false,1)∧dA Tryz.prog 190=some [.lit .nilFunc]:=by and_intros<;>kernel_rfl
@[simp] theorem OF:zeroV Tryz.prog 194=some [.lit (.pointer none),.lit (.pointer none),.lit (.map none),.lit (.map none),.lit (.bool false)]∧bInfo Tryz.prog 194=some [(0,1),(1,1),(2,1),(3,1),(4,1)]∧aI Tryz.prog 196=some (true,4)∧dA Tryz.prog 196=some [.lit (.int .i64 0),.lit (.int .i64 0),.lit (.int .i64 0),.lit (.int .i64 0)]∧zeroV Tryz.prog 196=some [.lit (.int .i64 0),.lit (.int .i64 0),.lit (.int .i64 0),.lit (.int .i64 0)]∧bInfo Tryz.prog 196=some [(0,1),(1,1),(2,1),(3,1)]∧aI Tryz.prog 202=some (true,3)∧bm Tryz.prog 202=none∧mj Tryz.prog 202=some (3,1)∧dA Tryz.prog 202=some [.lit (.int .i64 0),.lit (.int .i64 0),.lit (.int .i64 0)]∧aI Tryz.prog 205=some (true,4)∧dA Tryz.prog 205=some [.lit (.int .i64 0),.lit (.int .i64 0),.lit (.int .i64 0),.lit (.bool false)]∧zeroV Tryz.prog 205=some [.lit (.int .i64 0),.lit (.int .i64 0),.lit (.int .i64 0),.lit (.bool false)]∧bInfo Tryz.prog 205=some [(0,1),(1,1),(2,1),(3,1)]∧tk Tryz.prog 213=.ptr∧aI Tryz.prog 221=some (true,2)∧bm Tryz.prog 221=none∧mj Tryz.prog 221=some (2,1)∧zeroV Tryz.prog 221=some [.lit (.int .i64 0),.lit (.int .i64 0)]∧bInfo Tryz.prog 221=some [(0,1),(1,1)]:=by and_intros<;>kernel_rfl
@[simp] theorem OG:wP Tryz.prog 221=some (2,false,1)∧zeroV Tryz.prog 223=some [.lit (.slice none 0 0),.lit (.int .i64 0),.lit (.int .i64 0)]∧bInfo Tryz.prog 223=some [(0,1),(1,2)]∧tk Tryz.prog 243=.int∧tk Tryz.prog 250=.slice∧bm Tryz.prog 250=some 2∧bM Tryz.prog 250=some (2,32)∧cZ Tryz.prog 250=some [.lit (.int .i64 0),.lit (.slice none 0 0)]∧zeroV Tryz.prog 252=some [.lit (.int .i64 0),.lit (.slice none 0 0)]∧bInfo Tryz.prog 252=some [(0,1),(1,1)]∧aI Tryz.prog 265=some (true,2)∧dA Tryz.prog 265=some [.lit (.bool false),.lit (.slice none 0 0)]:=by and_intros<;>kernel_rfl
@[simp] theorem Rx:bd Tryz.prog 24 0=some 0:=by kernel_rfl
@[simp] theorem Ry:bd Tryz.prog 24 1=some 1:=by kernel_rfl
@[simp] theorem Rz:bd Tryz.prog 26 0=some 0:=by kernel_rfl
@[simp] theorem RB:bd Tryz.prog 26 1=some 1:=by kernel_rfl
@[simp] theorem RC:bd Tryz.prog 26 2=some 2:=by kernel_rfl
@[simp] theorem RD:bd Tryz.prog 40 0=some 0:=by kernel_rfl
@[simp] theorem RE:bd Tryz.prog 40 1=some 1:=by kernel_rfl
@[simp] theorem RF:bd Tryz.prog 40 2=some 2:=by kernel_rfl
@[simp] theorem RG:bd Tryz.prog 58 0=some 0:=by kernel_rfl
@[simp] theorem RH:bd Tryz.prog 58 1=some 1:=by kernel_rfl
@[simp] theorem RI:bd Tryz.prog 58 2=some 2:=by kernel_rfl
@[simp] theorem RJ:bd Tryz.prog 58 3=some 3:=by kernel_rfl
@[simp] theorem RK:bd Tryz.prog 71 0=some 0:=by kernel_rfl
@[simp] theorem RL:bd Tryz.prog 71 1=some 1:=by kernel_rfl
@[simp] theorem RM:bd Tryz.prog 71 2=some 2:=by kernel_rfl
@[simp] theorem RN:bd Tryz.prog 71 3=some 3:=by kernel_rfl
@[simp] theorem RO:bd Tryz.prog 92 0=some 0:=by kernel_rfl
@[simp] theorem RP:bd Tryz.prog 92 1=some 1:=by kernel_rfl
@[simp] theorem RQ:bd Tryz.prog 92 2=some 3:=by kernel_rfl
@[simp] theorem RR:bd Tryz.prog 92 3=some 4:=by kernel_rfl
@[simp] theorem RS:bd Tryz.prog 92 4=some 5:=by kernel_rfl
@[simp] theorem RU:bd Tryz.prog 92 5=some 6:=by kernel_rfl
@[simp] theorem RV:bd Tryz.prog 92 6=some 7:=by kernel_rfl
@[simp] theorem RW:bd Tryz.prog 92 7=some 8:=by kernel_rfl
@[simp] theorem RX:bd Tryz.prog 92 8=some 9:=by kernel_rfl
@[simp] theorem RY:bd Tryz.prog 92 9=some 10:=by kernel_rfl
@[simp] theorem PD:bd Tryz.prog 92 10=some 11:=by kernel_rfl
@[simp] theorem PE:bd Tryz.prog 92 11=some 12:=by kernel_rfl
@[simp] theorem PF:bd Tryz.prog 92 12=some 13:=by kernel_rfl
@[simp] theorem PG:bd Tryz.prog 92 13=some 14:=by kernel_rfl
@[simp] theorem PH:bd Tryz.prog 92 14=some 15:=by kernel_rfl
@[simp] theorem PI:bd Tryz.prog 92 15=some 16:=by kernel_rfl
@[simp] theorem PJ:bd Tryz.prog 146 0=some 0:=by kernel_rfl
@[simp] theorem PK:bd Tryz.prog 146 1=some 1:=by kernel_rfl
@[simp] theorem PM:bd Tryz.prog 153 0=some 0:=by kernel_rfl
@[simp] theorem PN:bd Tryz.prog 153 1=some 1:=by kernel_rfl
@[simp] theorem PO:bd Tryz.prog 153 2=some 2:=by kernel_rfl
@[simp] theorem PP:bd Tryz.prog 153 3=some 3:=by kernel_rfl
@[simp] theorem PQ:bd Tryz.prog 158 0=some 0:=by kernel_rfl
@[simp] theorem PR:bd Tryz.prog 158 1=some 1:=by kernel_rfl
@[simp] theorem PT:bd Tryz.prog 158 2=some 2:=by kernel_rfl
@[simp] theorem PU:bd Tryz.prog 160 0=some 0:=by kernel_rfl
@[simp] theorem PW:bd Tryz.prog 160 1=some 1:=by kernel_rfl
@[simp] theorem PX:bd Tryz.prog 164 0=some 0:=by kernel_rfl
@[simp] theorem PY:bd Tryz.prog 164 1=some 1:=by kernel_rfl
@[simp] theorem PZ:bd Tryz.prog 164 2=some 2:=by kernel_rfl
@[simp] theorem P0:bd Tryz.prog 164 3=some 3:=by kernel_rfl
@[simp] theorem P4:bd Tryz.prog 164 4=some 4:=by kernel_rfl
@[simp] theorem P5:bd Tryz.prog 164 5=some 5:=by kernel_rfl
@[simp] theorem P6:bd Tryz.prog 164 6=some 6:=by kernel_rfl
@[simp] theorem P7:bd Tryz.prog 187 0=some 0:=by kernel_rfl
@[simp] theorem P8:bd Tryz.prog 187 1=some 1:=by kernel_rfl
@[simp] theorem P9:bd Tryz.prog 187 2=some 2:=by kernel_rfl
@[simp] theorem Qa:bd Tryz.prog 187 3=some 3:=by kernel_rfl
@[simp] theorem Qb:bd Tryz.prog 187 4=some 4:=by kernel_rfl
@[simp] theorem Qc:bd Tryz.prog 194 0=some 0:=by kernel_rfl
@[simp] theorem Qd:bd Tryz.prog 194 1=some 1:=by kernel_rfl
@[simp] theorem Qe:bd Tryz.prog 194 2=some 2:=by kernel_rfl
@[simp] theorem Qf:bd Tryz.prog 194 3=some 3:=by kernel_rfl
@[simp] theorem Qg:bd Tryz.prog 194 4=some 4:=by kernel_rfl
@[simp] theorem Qh:bd Tryz.prog 196 0=some 0:=by kernel_rfl
@[simp] theorem Qi:bd Tryz.prog 196 1=some 1:=by kernel_rfl
@[simp] theorem Qj:bd Tryz.prog 196 2=some 2:=by kernel_rfl
@[simp] theorem Qk:bd Tryz.prog 196 3=some 3:=by kernel_rfl
@[simp] theorem Ql:bd Tryz.prog 205 0=some 0:=by kernel_rfl
@[simp] theorem Qm:bd Tryz.prog 205 1=some 1:=by kernel_rfl
@[simp] theorem Qn:bd Tryz.prog 205 2=some 2:=by kernel_rfl
@[simp] theorem Qo:bd Tryz.prog 205 3=some 3:=by kernel_rfl
@[simp] theorem Qp:bd Tryz.prog 223 0=some 0:=by kernel_rfl
@[simp] theorem Qq:bd Tryz.prog 223 1=some 1:=by kernel_rfl
@[simp] theorem Qr:bd Tryz.prog 252 0=some 0:=by kernel_rfl
@[simp] theorem Qs:bd Tryz.prog 252 1=some 1:=by kernel_rfl
@[simp] theorem Qt:bd Tryz.prog 265 0=some 0:=by kernel_rfl
@[simp] theorem Qu:bd Tryz.prog 265 1=some 1:=by kernel_rfl
theorem aD:Tryz.prog.follows .mixedOrders=true:=by kernel_rfl
/-! ### Plain laws -/
/-! ### Walks -/
structure Op5 where
  p:Int
  k:Int
  s:Int
  e:Int
  r:Int
  deriving DecidableEq,Inhabited
def NM(a b:Op5):Bool:=decide (a.e≥0)&&decide (a.e<b.s)
def NN(o:Op5):Bool:=if o.e=-1 then decide (o.r=-1)else decide (o.e>o.s)&&decide (o.e<=9999)&&decide (o.r≥0)&&decide (o.r<=1000000)
def Ia(o:Op5):Int:=if o.p<1∨o.p>1000∨o.s<0∨o.s>9999 then 2 else if o.k<0∨o.k≥64 then 31 else if NN o then 0 else 7
@[simp] theorem yU(k:Nat)(l:List Int):bI k (l.map λi=>[ab i]):=by
 rw[iJ];intro r a x hx;obtain⟨o,_,rfl⟩:=S8.1 a;simp at hx;subst hx;trivial
/-! ### Pairs -/
/-! ### Plain laws -/
def NO(a b:Op5):Bool:=decide (a.s=b.s)||decide (a.e=b.s)||decide (a.s=b.e)||(decide (a.e=b.e)&&!decide (a.e=-1))
def Sg(a o:Op5):Bool:=decide (o.s<=a.s)||NO a o
def Qv(a o:Op5):Bool:=decide (a.p=o.p)&&!NM a o
def Qw(pre:List Op5)(o:Op5):Int:=if Ia o≠0 then Ia o else if pre.any (λa=>Sg a o)=true then 32 else if pre.any (λa=>Qv a o)=true then 33 else 0
def Na(ops:List Op5)(i:Nat):Int:=Qw (ops.take i) (ops.getD i default)
def chk(ops:List Op5):Int×Int:=
 if ops.length>5000 then(0,3)else match(List.range ops.length).find? (λi=>decide (Na ops i≠0))with
 |some i=>((i:Int),Na ops i)
 |none=>((ops.length:Int),0)
/-! ### The document's answer -/
@[simp] theorem OH(r:Nat->Nat->PV)(l:List Int):jN r (l.map λi=>[ab i])=l.map λi=>[ab i]:=by
 rw[bP,TX];congr 1
/-! ### Maps of one kind -/
def aZ{α:Type}(f:α->PV)(l:List (Int×α)):List (Int×PV):=l.map λp=>(p.1,f p.2)
def lk{α:Type}:List (Int×α)->Int->Option α
 |[],_=>none
 |(k,x)::r,n=>if k=n then some x else lk r n
def pt{α:Type}:List (Int×α)->Int->α->List (Int×α)
 |[],n,y=>[(n,y)]
 |(k,x)::r,n,y=>if k=n then(k,y)::r else(k,x)::pt r n y
theorem jm{α:Type}(f:α->PV):∀(l:List (Int×α))(k:Int),dz (aZ f l) k=(lk l k).map f
 |[],_=>rfl
 |(j,x)::r,k=>by
  have:=jm f r k;simp only[aZ,Tn,dz,lk]at this⊢;split
  .rfl
  .exact this
theorem lq{α:Type}(f:α->PV):∀(l:List (Int×α))(k:Int)(y:α),im (aZ f l) k (f y)=aZ f (pt l k y)
 |[],_,_=>rfl
 |(j,x)::r,k,y=>by
  have:=lq f r k y;simp only[aZ,Tn,im,pt]at this⊢;split
  .rfl
  .rw[this];rfl
theorem bJ{α:Type}:∀(l:List (Int×α))(k:Int)(y:α)(n:Int),lk (pt l k y) n=if k=n then some y else lk l n
 |[],k,y,n=>rfl
 |(j,x)::r,k,y,n=>by
  simp only[pt];split
  .rename_i h;subst h;simp only[lk];split<;>rfl
  .rename_i h;simp only[lk,bJ r k y n];split
   .rename_i a;subst a;rw[SU (λe=>h e.symm)]
   .rfl
def fI(n:Int):PV:=ab n
@[simp] theorem RZ(l:List (Int×Int))(k:Int):(dz (aZ fI l) k).getD (ab 0)=ab ((lk l k).getD 0):=by
 rw[jm];cases lk l k<;>rfl
@[simp] theorem Si(l:List (Int×Int))(k n:Int):im (aZ fI l) k (ab n)=aZ fI (pt l k n):=lq fI l k n
@[simp] theorem iE(n:Nat)(l:List (Int×Int)):gt n (aZ fI l):=by
 rw[sL];intro r a;obtain⟨p,_,rfl⟩:=S8.1 a;trivial
@[simp] theorem Qx{α:Type}(f:α->PV):aZ f []=[]:=rfl
/-! ### What the maps hold -/
end Go.AX