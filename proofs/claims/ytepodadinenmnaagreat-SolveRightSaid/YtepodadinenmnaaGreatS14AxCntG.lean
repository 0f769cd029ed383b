/-
  Facts on the types of the seat's program (written by facts.py); and what follows.
-/
import Derived.Test.YtepodadinenmnaaGreatAxXW
import Derived.Test.YtepodadinenmnaaGreatRows
namespace Go.AX
open Go.Proofs
@[simp] theorem Rn:tk Tryz.prog 3=.int∧aK Tryz.prog 3=some (false,1)∧GP Tryz.prog 3=some .i64∧de Tryz.prog 3=some [.lit (.int .i64 0)]∧tk Tryz.prog 4=.bool∧aK Tryz.prog 4=some (false,1)∧tk Tryz.prog 22=.slice∧aK Tryz.prog 22=some (false,1)∧bq Tryz.prog 22=some 1∧bQ Tryz.prog 22=some (1,24)∧dC Tryz.prog 22=some [.lit (.slice none 0 0)]∧aK Tryz.prog 24=some (true,2)∧de Tryz.prog 24=some [.lit (.int .i64 0),.lit (.slice none 0 0)]∧zeroV Tryz.prog 24=some [.lit (.int .i64 0),.lit (.slice none 0 0)]∧bInfo Tryz.prog 24=some [(0,1),(1,1)]∧aK Tryz.prog 26=some (true,3)∧zeroV Tryz.prog 26=some [.lit (.int .i64 0),.lit (.int .i64 0),.lit (.int .i64 0)]∧bInfo Tryz.prog 26=some [(0,1),(1,1),(2,1)]∧tk Tryz.prog 27=.slice∧aK Tryz.prog 27=some (false,1):=by and_intros<;>kernel_rfl
@[simp] theorem Pt:bq Tryz.prog 27=some 1∧bQ Tryz.prog 27=some (1,8)∧de Tryz.prog 27=some [.lit (.slice none 0 0)]∧dC Tryz.prog 27=some [.lit (.int .i64 0)]∧aK Tryz.prog 33=some (false,1)∧de Tryz.prog 33=some [.lit .nilFunc]∧tk Tryz.prog 35=.slice∧aK Tryz.prog 35=some (false,1)∧bq Tryz.prog 35=some 1∧bQ Tryz.prog 35=some (1,1)∧dC Tryz.prog 35=some [.lit (.bool false)]∧tk Tryz.prog 37=.ptr∧aK Tryz.prog 37=some (false,1)∧tk Tryz.prog 48=.int∧tk Tryz.prog 56=.slice∧aK Tryz.prog 56=some (false,1)∧bq Tryz.prog 56=some 4∧bQ Tryz.prog 56=some (4,64)∧dC Tryz.prog 56=some [.lit (.int .i64 0),.lit (.int .i64 0),.lit (.slice none 0 0),.lit (.slice none 0 0)]∧aK Tryz.prog 58=some (true,4):=by and_intros<;>kernel_rfl
@[simp] theorem Rp:de Tryz.prog 58=some [.lit (.int .i64 0),.lit (.int .i64 0),.lit (.slice none 0 0),.lit (.slice none 0 0)]∧zeroV Tryz.prog 58=some [.lit (.int .i64 0),.lit (.int .i64 0),.lit (.slice none 0 0),.lit (.slice none 0 0)]∧bInfo Tryz.prog 58=some [(0,1),(1,1),(2,1),(3,1)]∧tk Tryz.prog 65=.ptr∧aK Tryz.prog 65=some (false,1)∧aK Tryz.prog 71=some (true,4)∧de Tryz.prog 71=some [.lit (.int .i64 0),.lit (.int .i64 0),.lit (.slice none 0 0),.lit (.slice none 0 0)]∧zeroV Tryz.prog 71=some [.lit (.int .i64 0),.lit (.int .i64 0),.lit (.slice none 0 0),.lit (.slice none 0 0)]∧bInfo Tryz.prog 71=some [(0,1),(1,1),(2,1),(3,1)]∧tk Tryz.prog 86=.ptr∧aK Tryz.prog 86=some (false,1)∧tk Tryz.prog 87=.ptr∧aK Tryz.prog 87=some (false,1)∧tk Tryz.prog 88=.ptr∧aK Tryz.prog 88=some (false,1)∧tk Tryz.prog 89=.ptr∧aK Tryz.prog 89=some (false,1)∧tk Tryz.prog 90=.map∧aK Tryz.prog 90=some (false,1)∧de Tryz.prog 90=some [.lit (.map none)]:=by and_intros<;>kernel_rfl
@[simp] theorem Pu:jO Tryz.prog 90=true∧oq Tryz.prog 90=some (.lit (.int .i64 0))∧zeroV Tryz.prog 92=some [.lit (.pointer none),.lit (.int .i64 0),.lit (.slice none 0 0),.lit (.pointer none),.lit (.pointer none),.lit (.pointer none),.lit (.slice none 0 0),.lit (.int .i64 0),.lit (.int .i64 0),.lit (.int .i64 0),.lit (.int .i64 0),.lit (.int .i64 0),.lit (.bool false),.lit (.int .i64 0),.lit (.bool false),.lit (.slice none 0 0),.lit (.map none)]∧bInfo Tryz.prog 92=some [(0,1),(1,2),(3,1),(4,1),(5,1),(6,1),(7,1),(8,1),(9,1),(10,1),(11,1),(12,1),(13,1),(14,1),(15,1),(16,1)]∧tk Tryz.prog 104=.int∧GP Tryz.prog 104=some .u64∧tk Tryz.prog 112=.map∧aK Tryz.prog 112=some (false,1)∧jO Tryz.prog 112=true∧oq Tryz.prog 112=some (.lit (.slice none 0 0))∧zeroV Tryz.prog 114=some [.lit (.map none),.lit (.int .i64 0),.lit (.bool false)]∧bInfo Tryz.prog 114=some [(0,1),(1,1),(2,1)]∧aK Tryz.prog 137=some (false,1)∧de Tryz.prog 137=some [.lit .nilFunc]∧tk Tryz.prog 148=.slice∧bq Tryz.prog 148=some 4∧bQ Tryz.prog 148=some (4,32)∧dC Tryz.prog 148=some [.lit (.int .i64 0),.lit (.int .i64 0),.lit (.int .i64 0),.lit (.bool false)]∧tk Tryz.prog 151=.slice∧aK Tryz.prog 151=some (false,1):=by and_intros<;>kernel_rfl
@[simp] theorem OB:bq Tryz.prog 151=some 4∧bQ Tryz.prog 151=some (4,32)∧dC Tryz.prog 151=some [.lit (.int .i64 0),.lit (.int .i64 0),.lit (.int .i64 0),.lit (.int .i64 0)]∧zeroV Tryz.prog 153=some [.lit (.slice none 0 0),.lit (.slice none 0 0),.lit (.slice none 0 0),.lit (.bool false)]∧bInfo Tryz.prog 153=some [(0,1),(1,1),(2,1),(3,1)]∧zeroV Tryz.prog 158=some [.lit (.slice none 0 0),.lit (.slice none 0 0),.lit (.slice none 0 0)]∧bInfo Tryz.prog 158=some [(0,1),(1,1),(2,1)]∧zeroV Tryz.prog 160=some [.lit (.slice none 0 0),.lit (.map none)]∧bInfo Tryz.prog 160=some [(0,1),(1,1)]∧tk Tryz.prog 162=.map∧aK Tryz.prog 162=some (false,1)∧jO Tryz.prog 162=true∧oq Tryz.prog 162=some (.lit (.pointer none))∧zeroV Tryz.prog 164=some [.lit (.pointer none),.lit (.pointer none),.lit (.map none),.lit (.map none),.lit (.map none),.lit (.int .i64 0),.lit (.slice none 0 0)]∧bInfo Tryz.prog 164=some [(0,1),(1,1),(2,1),(3,1),(4,1),(5,1),(6,1)]∧aK Tryz.prog 166=some (false,1)∧de Tryz.prog 166=some [.lit .nilFunc]∧zeroV Tryz.prog 187=some [.lit (.pointer none),.lit (.pointer none),.lit (.map none),.lit (.slice none 0 0),.lit (.int .i64 0)]∧bInfo Tryz.prog 187=some [(0,1),(1,1),(2,1),(3,1),(4,1)]∧aK Tryz.prog 190=some (false,1):=by and_intros<;>kernel_rfl
@[simp] theorem Pv:de Tryz.prog 190=some [.lit .nilFunc]∧zeroV Tryz.prog 194=some [.lit (.pointer none),.lit (.pointer none),.lit (.map none),.lit (.map none),.lit (.bool false)]∧bInfo Tryz.prog 194=some [(0,1),(1,1),(2,1),(3,1),(4,1)]∧aK Tryz.prog 196=some (true,4)∧de Tryz.prog 196=some [.lit (.int .i64 0),.lit (.int .i64 0),.lit (.int .i64 0),.lit (.int .i64 0)]∧zeroV Tryz.prog 196=some [.lit (.int .i64 0),.lit (.int .i64 0),.lit (.int .i64 0),.lit (.int .i64 0)]∧bInfo Tryz.prog 196=some [(0,1),(1,1),(2,1),(3,1)]∧aK Tryz.prog 202=some (true,3)∧bq Tryz.prog 202=none∧mi Tryz.prog 202=some (3,1)∧de Tryz.prog 202=some [.lit (.int .i64 0),.lit (.int .i64 0),.lit (.int .i64 0)]∧aK Tryz.prog 205=some (true,4)∧de Tryz.prog 205=some [.lit (.int .i64 0),.lit (.int .i64 0),.lit (.int .i64 0),.lit (.bool false)]∧zeroV Tryz.prog 205=some [.lit (.int .i64 0),.lit (.int .i64 0),.lit (.int .i64 0),.lit (.bool false)]∧bInfo Tryz.prog 205=some [(0,1),(1,1),(2,1),(3,1)]∧tk Tryz.prog 213=.ptr∧aK Tryz.prog 221=some (true,2)∧bq Tryz.prog 221=none∧mi Tryz.prog 221=some (2,1)∧zeroV Tryz.prog 221=some [.lit (.int .i64 0),.lit (.int .i64 0)]:=by and_intros<;>kernel_rfl
@[simp] theorem OC:bInfo Tryz.prog 221=some [(0,1),(1,1)]∧wO Tryz.prog 221=some (2,false,1)∧zeroV Tryz.prog 223=some [.lit (.slice none 0 0),.lit (.int .i64 0),.lit (.int .i64 0)]∧bInfo Tryz.prog 223=some [(0,1),(1,2)]∧aK Tryz.prog 228=some (false,1)∧de Tryz.prog 228=some [.lit (.map none)]∧jO Tryz.prog 228=true∧oq Tryz.prog 228=some (.lit (.slice none 0 0))∧tk Tryz.prog 243=.int∧aK Tryz.prog 265=some (true,2)∧de Tryz.prog 265=some [.lit (.bool false),.lit (.slice none 0 0)]:=by and_intros<;>kernel_rfl
@[simp] theorem Rq:bz Tryz.prog 24 0=some 0:=by kernel_rfl
@[simp] theorem Rr:bz Tryz.prog 24 1=some 1:=by kernel_rfl
@[simp] theorem Rs:bz Tryz.prog 26 0=some 0:=by kernel_rfl
@[simp] theorem Rt:bz Tryz.prog 26 1=some 1:=by kernel_rfl
@[simp] theorem Ru:bz Tryz.prog 26 2=some 2:=by kernel_rfl
@[simp] theorem Rv:bz Tryz.prog 58 0=some 0:=by kernel_rfl
@[simp] theorem Rw:bz Tryz.prog 58 2=some 2:=by kernel_rfl
@[simp] theorem Rx:bz Tryz.prog 58 3=some 3:=by kernel_rfl
@[simp] theorem Ry:bz Tryz.prog 71 0=some 0:=by kernel_rfl
@[simp] theorem Rz:bz Tryz.prog 71 1=some 1:=by kernel_rfl
@[simp] theorem RB:bz Tryz.prog 71 2=some 2:=by kernel_rfl
@[simp] theorem RC:bz Tryz.prog 71 3=some 3:=by kernel_rfl
@[simp] theorem RD:bz Tryz.prog 92 0=some 0:=by kernel_rfl
@[simp] theorem RE:bz Tryz.prog 92 1=some 1:=by kernel_rfl
@[simp] theorem RF:bz Tryz.prog 92 2=some 3:=by kernel_rfl
@[simp] theorem RG:bz Tryz.prog 92 3=some 4:=by kernel_rfl
@[simp] theorem RH:bz Tryz.prog 92 4=some 5:=by kernel_rfl
@[simp] theorem RI:bz Tryz.prog 92 5=some 6:=by kernel_rfl
@[simp] theorem RJ:bz Tryz.prog 92 6=some 7:=by kernel_rfl
@[simp] theorem RK:bz Tryz.prog 92 7=some 8:=by kernel_rfl
@[simp] theorem RL:bz Tryz.prog 92 8=some 9:=by kernel_rfl
@[simp] theorem RM:bz Tryz.prog 92 9=some 10:=by kernel_rfl
@[simp] theorem Pw:bz Tryz.prog 92 10=some 11:=by kernel_rfl
@[simp] theorem Px:bz Tryz.prog 92 11=some 12:=by kernel_rfl
@[simp] theorem Py:bz Tryz.prog 92 12=some 13:=by kernel_rfl
@[simp] theorem Pz:bz Tryz.prog 92 13=some 14:=by kernel_rfl
@[simp] theorem PA:bz Tryz.prog 92 14=some 15:=by kernel_rfl
@[simp] theorem PB:bz Tryz.prog 92 15=some 16:=by kernel_rfl
@[simp] theorem PC:bz Tryz.prog 114 0=some 0:=by kernel_rfl
@[simp] theorem PD:bz Tryz.prog 114 1=some 1:=by kernel_rfl
@[simp] theorem PE:bz Tryz.prog 114 2=some 2:=by kernel_rfl
@[simp] theorem PF:bz Tryz.prog 153 0=some 0:=by kernel_rfl
@[simp] theorem PG:bz Tryz.prog 153 1=some 1:=by kernel_rfl
@[simp] theorem PH:bz Tryz.prog 153 2=some 2:=by kernel_rfl
@[simp] theorem PI:bz Tryz.prog 153 3=some 3:=by kernel_rfl
@[simp] theorem PJ:bz Tryz.prog 158 0=some 0:=by kernel_rfl
@[simp] theorem PK:bz Tryz.prog 158 1=some 1:=by kernel_rfl
@[simp] theorem PM:bz Tryz.prog 158 2=some 2:=by kernel_rfl
@[simp] theorem PN:bz Tryz.prog 160 0=some 0:=by kernel_rfl
@[simp] theorem PO:bz Tryz.prog 160 1=some 1:=by kernel_rfl
@[simp] theorem PP:bz Tryz.prog 164 0=some 0:=by kernel_rfl
@[simp] theorem PQ:bz Tryz.prog 164 1=some 1:=by kernel_rfl
@[simp] theorem PR:bz Tryz.prog 164 2=some 2:=by kernel_rfl
@[simp] theorem PT:bz Tryz.prog 164 3=some 3:=by kernel_rfl
@[simp] theorem PU:bz Tryz.prog 164 4=some 4:=by kernel_rfl
@[simp] theorem PW:bz Tryz.prog 164 5=some 5:=by kernel_rfl
@[simp] theorem PX:bz Tryz.prog 164 6=some 6:=by kernel_rfl
@[simp] theorem PY:bz Tryz.prog 187 0=some 0:=by kernel_rfl
@[simp] theorem PZ:bz Tryz.prog 187 1=some 1:=by kernel_rfl
@[simp] theorem P0:bz Tryz.prog 187 2=some 2:=by kernel_rfl
@[simp] theorem P4:bz Tryz.prog 187 3=some 3:=by kernel_rfl
@[simp] theorem P5:bz Tryz.prog 187 4=some 4:=by kernel_rfl
@[simp] theorem P6:bz Tryz.prog 194 0=some 0:=by kernel_rfl
@[simp] theorem P7:bz Tryz.prog 194 1=some 1:=by kernel_rfl
@[simp] theorem P8:bz Tryz.prog 194 2=some 2:=by kernel_rfl
@[simp] theorem P9:bz Tryz.prog 194 3=some 3:=by kernel_rfl
@[simp] theorem Qa:bz Tryz.prog 194 4=some 4:=by kernel_rfl
@[simp] theorem Qb:bz Tryz.prog 196 0=some 0:=by kernel_rfl
@[simp] theorem Qc:bz Tryz.prog 196 1=some 1:=by kernel_rfl
@[simp] theorem Qd:bz Tryz.prog 196 2=some 2:=by kernel_rfl
@[simp] theorem Qe:bz Tryz.prog 196 3=some 3:=by kernel_rfl
@[simp] theorem Qf:bz Tryz.prog 205 0=some 0:=by kernel_rfl
@[simp] theorem Qg:bz Tryz.prog 205 1=some 1:=by kernel_rfl
@[simp] theorem Qh:bz Tryz.prog 205 2=some 2:=by kernel_rfl
@[simp] theorem Qi:bz Tryz.prog 205 3=some 3:=by kernel_rfl
@[simp] theorem Qj:bz Tryz.prog 223 0=some 0:=by kernel_rfl
@[simp] theorem Qk:bz Tryz.prog 223 1=some 1:=by kernel_rfl
@[simp] theorem Ql:bz Tryz.prog 265 0=some 0:=by kernel_rfl
@[simp] theorem Qm:bz Tryz.prog 265 1=some 1:=by kernel_rfl
theorem aC:Tryz.prog.follows .mixedOrders=true:=by kernel_rfl
/-! ### Plain laws -/
/-! ### Walks -/
structure Op5 where
  p:Int
  k:Int
  s:Int
  e:Int
  r:Int
  deriving DecidableEq,Inhabited
def NF(a b:Op5):Bool:=decide (a.e≥0)&&decide (a.e<b.s)
def NG(o:Op5):Bool:=if o.e=-1 then decide (o.r=-1)else decide (o.e>o.s)&&decide (o.e<=9999)&&decide (o.r≥0)&&decide (o.r<=1000000)
def HH(o:Op5):Int:=if o.p<1∨o.p>1000∨o.s<0∨o.s>9999 then 2 else if o.k<0∨o.k≥64 then 31 else if NG o then 0 else 7
@[simp] theorem yP(k:Nat)(l:List Int):bL k (l.map λi=>[ab i]):=by
 rw[iS];intro r a x hx;obtain⟨o,_,rfl⟩:=SY.1 a;simp at hx;subst hx;trivial
/-! ### Pairs -/
/-! ### Plain laws -/
def NH(a b:Op5):Bool:=decide (a.s=b.s)||decide (a.e=b.s)||decide (a.s=b.e)||(decide (a.e=b.e)&&!decide (a.e=-1))
def R6(a o:Op5):Bool:=decide (o.s<=a.s)||NH a o
def Qn(a o:Op5):Bool:=decide (a.p=o.p)&&!NF a o
def Qo(pre:List Op5)(o:Op5):Int:=if HH o≠0 then HH o else if pre.any (λa=>R6 a o)=true then 32 else if pre.any (λa=>Qn a o)=true then 33 else 0
def M5(ops:List Op5)(i:Nat):Int:=Qo (ops.take i) (ops.getD i default)
def chk(ops:List Op5):Int×Int:=
 if ops.length>5000 then(0,3)else match(List.range ops.length).find? (λi=>decide (M5 ops i≠0))with
 |some i=>((i:Int),M5 ops i)
 |none=>((ops.length:Int),0)
/-! ### The document's answer -/
@[simp] theorem OD(r:Nat->Nat->PV)(l:List Int):l4 r (l.map λi=>[ab i])=l.map λi=>[ab i]:=by
 rw[cm,TT];congr 1
@[simp] theorem Qp(l:List Int):A3 (l.map λi=>[ab i]):=by
 rw[pi];intro r a;obtain⟨o,_,rfl⟩:=SY.1 a;exact⟨trivial,trivial⟩
/-! ### Maps of one kind -/
def aG{α:Type}(f:α->PV)(l:List (Int×α)):List (Int×PV):=l.map λp=>(p.1,f p.2)
def lk{α:Type}:List (Int×α)->Int->Option α
 |[],_=>none
 |(k,x)::r,n=>if k=n then some x else lk r n
def pt{α:Type}:List (Int×α)->Int->α->List (Int×α)
 |[],n,y=>[(n,y)]
 |(k,x)::r,n,y=>if k=n then(k,y)::r else(k,x)::pt r n y
theorem fL{α:Type}(f:α->PV):∀(l:List (Int×α))(k:Int),df (aG f l) k=(lk l k).map f
 |[],_=>rfl
 |(j,x)::r,k=>by
  have:=fL f r k;simp only[aG,Th,df,lk]at this⊢;split
  .rfl
  .exact this
theorem gA{α:Type}(f:α->PV):∀(l:List (Int×α))(k:Int)(y:α),gr (aG f l) k (f y)=aG f (pt l k y)
 |[],_,_=>rfl
 |(j,x)::r,k,y=>by
  have:=gA f r k y;simp only[aG,Th,gr,pt]at this⊢;split
  .rfl
  .rw[this];rfl
theorem bJ{α:Type}:∀(l:List (Int×α))(k:Int)(y:α)(n:Int),lk (pt l k y) n=if k=n then some y else lk l n
 |[],k,y,n=>rfl
 |(j,x)::r,k,y,n=>by
  simp only[pt];split
  .rename_i h;subst h;simp only[lk];split<;>rfl
  .rename_i h;simp only[lk,bJ r k y n];split
   .rename_i a;subst a;rw[SM (λe=>h e.symm)]
   .rfl
def fI(n:Int):PV:=ab n
@[simp] theorem RN(l:List (Int×Int))(k:Int):(df (aG fI l) k).getD (ab 0)=ab ((lk l k).getD 0):=by
 rw[fL];cases lk l k<;>rfl
@[simp] theorem R7(l:List (Int×Int))(k n:Int):gr (aG fI l) k (ab n)=aG fI (pt l k n):=gA fI l k n
@[simp] theorem iL(n:Nat)(l:List (Int×Int)):fj n (aG fI l):=by
 rw[sQ];intro r a;obtain⟨p,_,rfl⟩:=SY.1 a;trivial
@[simp] theorem Qq{α:Type}(f:α->PV):aG f []=[]:=rfl
/-! ### What the maps hold -/
end Go.AX