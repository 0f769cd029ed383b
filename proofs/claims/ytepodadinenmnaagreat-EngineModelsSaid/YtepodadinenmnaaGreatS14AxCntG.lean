/-
  Facts on the types of the seat's program (written by facts.py).
  Contracts: the numbers of clauses (count, numbering, the document's answer).
  Contracts: operations (oper, the document's answer).
  Contracts: whether operations may be.
  Contracts: all clauses (count, the document's answer).
  Contracts: whether operations may be (oper.Check, by maps).
-/
import Derived.Test.YtepodadinenmnaaGreatAxXW
import Derived.Test.YtepodadinenmnaaGreatRows
namespace Go.AX
open Go.Proofs
@[simp] theorem Qo:tk Tryz.prog 3=.int∧aL Tryz.prog 3=some (false,1)∧d5 Tryz.prog 3=some [.lit (.int .i64 0)]∧tk Tryz.prog 4=.bool∧aL Tryz.prog 4=some (false,1)∧tk Tryz.prog 22=.slice∧aL Tryz.prog 22=some (false,1)∧bm Tryz.prog 22=some 1∧bL Tryz.prog 22=some (1,24)∧dm Tryz.prog 22=some [.lit (.slice none 0 0)]∧aL Tryz.prog 24=some (true,2)∧d5 Tryz.prog 24=some [.lit (.int .i64 0),.lit (.slice none 0 0)]∧zeroV Tryz.prog 24=some [.lit (.int .i64 0),.lit (.slice none 0 0)]∧bInfo Tryz.prog 24=some [(0,1),(1,1)]∧aL Tryz.prog 26=some (true,3)∧zeroV Tryz.prog 26=some [.lit (.int .i64 0),.lit (.int .i64 0),.lit (.int .i64 0)]∧bInfo Tryz.prog 26=some [(0,1),(1,1),(2,1)]∧tk Tryz.prog 27=.slice∧aL Tryz.prog 27=some (false,1)∧bm Tryz.prog 27=some 1:=by and_intros<;>kernel_rfl
@[simp] theorem OE:bL Tryz.prog 27=some (1,8)∧dm Tryz.prog 27=some [.lit (.int .i64 0)]∧tk Tryz.prog 30=.ptr∧aL Tryz.prog 33=some (false,1)∧d5 Tryz.prog 33=some [.lit .nilFunc]∧tk Tryz.prog 35=.slice∧aL Tryz.prog 35=some (false,1)∧bm Tryz.prog 35=some 1∧bL Tryz.prog 35=some (1,1)∧dm Tryz.prog 35=some [.lit (.bool false)]∧tk Tryz.prog 37=.ptr∧aL Tryz.prog 37=some (false,1)∧tk Tryz.prog 38=.slice∧aL Tryz.prog 38=some (false,1)∧bm Tryz.prog 38=some 2∧bL Tryz.prog 38=some (2,32)∧dm Tryz.prog 38=some [.lit (.int .i64 0),.lit (.slice none 0 0)]∧aL Tryz.prog 40=some (true,3)∧d5 Tryz.prog 40=some [.lit (.slice none 0 0),.lit (.int .i64 0),.lit (.bool false)]∧zeroV Tryz.prog 40=some [.lit (.slice none 0 0),.lit (.int .i64 0),.lit (.bool false)]:=by and_intros<;>kernel_rfl
@[simp] theorem OF:bInfo Tryz.prog 40=some [(0,1),(1,1),(2,1)]∧zeroV Tryz.prog 42=some [.lit (.pointer none),.lit (.slice none 0 0),.lit (.int .i64 0),.lit (.bool false),.lit (.int .i64 0),.lit (.int .i64 0),.lit (.bool false),.lit (.bool false),.lit (.int .i64 0),.lit (.slice none 0 0)]∧bInfo Tryz.prog 42=some [(0,1),(1,3),(4,1),(5,1),(6,1),(7,1),(8,1),(9,1)]∧tk Tryz.prog 48=.int∧tk Tryz.prog 56=.slice∧aL Tryz.prog 56=some (false,1)∧bm Tryz.prog 56=some 4∧bL Tryz.prog 56=some (4,64)∧dm Tryz.prog 56=some [.lit (.int .i64 0),.lit (.int .i64 0),.lit (.slice none 0 0),.lit (.slice none 0 0)]∧aL Tryz.prog 71=some (true,4)∧d5 Tryz.prog 71=some [.lit (.int .i64 0),.lit (.int .i64 0),.lit (.slice none 0 0),.lit (.slice none 0 0)]∧zeroV Tryz.prog 71=some [.lit (.int .i64 0),.lit (.int .i64 0),.lit (.slice none 0 0),.lit (.slice none 0 0)]∧bInfo Tryz.prog 71=some [(0,1),(1,1),(2,1),(3,1)]∧tk Tryz.prog 86=.ptr∧aL Tryz.prog 86=some (false,1)∧tk Tryz.prog 87=.ptr∧aL Tryz.prog 87=some (false,1)∧tk Tryz.prog 88=.ptr∧aL Tryz.prog 88=some (false,1)∧tk Tryz.prog 89=.ptr:=by and_intros<;>kernel_rfl
@[simp] theorem OG:aL Tryz.prog 89=some (false,1)∧tk Tryz.prog 90=.map∧aL Tryz.prog 90=some (false,1)∧d5 Tryz.prog 90=some [.lit (.map none)]∧lM Tryz.prog 90=true∧pX Tryz.prog 90=some (.lit (.int .i64 0))∧zeroV Tryz.prog 92=some [.lit (.pointer none),.lit (.int .i64 0),.lit (.slice none 0 0),.lit (.pointer none),.lit (.pointer none),.lit (.pointer none),.lit (.slice none 0 0),.lit (.int .i64 0),.lit (.int .i64 0),.lit (.int .i64 0),.lit (.int .i64 0),.lit (.int .i64 0),.lit (.bool false),.lit (.int .i64 0),.lit (.bool false),.lit (.slice none 0 0),.lit (.map none)]∧bInfo Tryz.prog 92=some [(0,1),(1,2),(3,1),(4,1),(5,1),(6,1),(7,1),(8,1),(9,1),(10,1),(11,1),(12,1),(13,1),(14,1),(15,1),(16,1)]∧aL Tryz.prog 112=some (false,1)∧lM Tryz.prog 112=true∧pX Tryz.prog 112=some (.lit (.slice none 0 0))∧aL Tryz.prog 146=some (true,2)∧zeroV Tryz.prog 146=some [.lit (.int .i64 0),.lit (.slice none 0 0)]∧bInfo Tryz.prog 146=some [(0,1),(1,1)]∧tk Tryz.prog 148=.slice∧bm Tryz.prog 148=some 4∧bL Tryz.prog 148=some (4,32)∧dm Tryz.prog 148=some [.lit (.int .i64 0),.lit (.int .i64 0),.lit (.int .i64 0),.lit (.bool false)]∧tk Tryz.prog 151=.slice∧aL Tryz.prog 151=some (false,1):=by and_intros<;>kernel_rfl
@[simp] theorem NG:bm Tryz.prog 151=some 4∧bL Tryz.prog 151=some (4,32)∧dm Tryz.prog 151=some [.lit (.int .i64 0),.lit (.int .i64 0),.lit (.int .i64 0),.lit (.int .i64 0)]∧zeroV Tryz.prog 153=some [.lit (.slice none 0 0),.lit (.slice none 0 0),.lit (.slice none 0 0),.lit (.bool false)]∧bInfo Tryz.prog 153=some [(0,1),(1,1),(2,1),(3,1)]∧zeroV Tryz.prog 158=some [.lit (.slice none 0 0),.lit (.slice none 0 0),.lit (.slice none 0 0)]∧bInfo Tryz.prog 158=some [(0,1),(1,1),(2,1)]∧zeroV Tryz.prog 160=some [.lit (.slice none 0 0),.lit (.map none)]∧bInfo Tryz.prog 160=some [(0,1),(1,1)]∧tk Tryz.prog 162=.map∧aL Tryz.prog 162=some (false,1)∧lM Tryz.prog 162=true∧pX Tryz.prog 162=some (.lit (.pointer none))∧zeroV Tryz.prog 164=some [.lit (.pointer none),.lit (.pointer none),.lit (.map none),.lit (.map none),.lit (.map none),.lit (.int .i64 0),.lit (.slice none 0 0)]∧bInfo Tryz.prog 164=some [(0,1),(1,1),(2,1),(3,1),(4,1),(5,1),(6,1)]∧zeroV Tryz.prog 187=some [.lit (.pointer none),.lit (.pointer none),.lit (.map none),.lit (.slice none 0 0),.lit (.int .i64 0)]∧bInfo Tryz.prog 187=some [(0,1),(1,1),(2,1),(3,1),(4,1)]∧aL Tryz.prog 190=some (false,1)∧d5 Tryz.prog 190=some [.lit .nilFunc]∧zeroV Tryz.prog 194=some [.lit (.pointer none),.lit (.pointer none),.lit (.map none),.lit (.map none),.lit (.bool false)]:=by and_intros<;>kernel_rfl
@[simp] theorem NH:bInfo Tryz.prog 194=some [(0,1),(1,1),(2,1),(3,1),(4,1)]∧aL Tryz.prog 196=some (true,4)∧d5 Tryz.prog 196=some [.lit (.int .i64 0),.lit (.int .i64 0),.lit (.int .i64 0),.lit (.int .i64 0)]∧zeroV Tryz.prog 196=some [.lit (.int .i64 0),.lit (.int .i64 0),.lit (.int .i64 0),.lit (.int .i64 0)]∧bInfo Tryz.prog 196=some [(0,1),(1,1),(2,1),(3,1)]∧aL Tryz.prog 202=some (true,3)∧bm Tryz.prog 202=none∧l7 Tryz.prog 202=some (3,1)∧d5 Tryz.prog 202=some [.lit (.int .i64 0),.lit (.int .i64 0),.lit (.int .i64 0)]∧zeroV Tryz.prog 205=some [.lit (.int .i64 0),.lit (.int .i64 0),.lit (.int .i64 0),.lit (.bool false)]∧bInfo Tryz.prog 205=some [(0,1),(1,1),(2,1),(3,1)]∧tk Tryz.prog 213=.ptr∧aL Tryz.prog 221=some (true,2)∧bm Tryz.prog 221=none∧l7 Tryz.prog 221=some (2,1)∧zeroV Tryz.prog 221=some [.lit (.int .i64 0),.lit (.int .i64 0)]∧bInfo Tryz.prog 221=some [(0,1),(1,1)]∧wl Tryz.prog 221=some (2,false,1)∧zeroV Tryz.prog 223=some [.lit (.slice none 0 0),.lit (.int .i64 0),.lit (.int .i64 0)]∧bInfo Tryz.prog 223=some [(0,1),(1,2)]:=by and_intros<;>kernel_rfl
@[simp] theorem NJ:tk Tryz.prog 243=.int∧tk Tryz.prog 250=.slice∧bm Tryz.prog 250=some 2∧bL Tryz.prog 250=some (2,32)∧dm Tryz.prog 250=some [.lit (.int .i64 0),.lit (.slice none 0 0)]∧zeroV Tryz.prog 252=some [.lit (.int .i64 0),.lit (.slice none 0 0)]∧bInfo Tryz.prog 252=some [(0,1),(1,1)]∧aL Tryz.prog 265=some (true,2)∧d5 Tryz.prog 265=some [.lit (.bool false),.lit (.slice none 0 0)]:=by and_intros<;>kernel_rfl
@[simp] theorem Qp:bj Tryz.prog 24 0=some 0:=by kernel_rfl
@[simp] theorem Qq:bj Tryz.prog 24 1=some 1:=by kernel_rfl
@[simp] theorem Qr:bj Tryz.prog 26 1=some 1:=by kernel_rfl
@[simp] theorem Qs:bj Tryz.prog 26 2=some 2:=by kernel_rfl
@[simp] theorem Qt:bj Tryz.prog 40 0=some 0:=by kernel_rfl
@[simp] theorem Qu:bj Tryz.prog 40 1=some 1:=by kernel_rfl
@[simp] theorem Qv:bj Tryz.prog 40 2=some 2:=by kernel_rfl
@[simp] theorem Qw:bj Tryz.prog 42 0=some 0:=by kernel_rfl
@[simp] theorem Qx:bj Tryz.prog 42 1=some 1:=by kernel_rfl
@[simp] theorem Qy:bj Tryz.prog 42 2=some 4:=by kernel_rfl
@[simp] theorem Qz:bj Tryz.prog 42 3=some 5:=by kernel_rfl
@[simp] theorem QA:bj Tryz.prog 42 4=some 6:=by kernel_rfl
@[simp] theorem QB:bj Tryz.prog 42 5=some 7:=by kernel_rfl
@[simp] theorem QC:bj Tryz.prog 42 6=some 8:=by kernel_rfl
@[simp] theorem QD:bj Tryz.prog 42 7=some 9:=by kernel_rfl
@[simp] theorem QF:bj Tryz.prog 71 0=some 0:=by kernel_rfl
@[simp] theorem QH:bj Tryz.prog 71 1=some 1:=by kernel_rfl
@[simp] theorem QI:bj Tryz.prog 71 2=some 2:=by kernel_rfl
@[simp] theorem QJ:bj Tryz.prog 71 3=some 3:=by kernel_rfl
@[simp] theorem QK:bj Tryz.prog 92 0=some 0:=by kernel_rfl
@[simp] theorem QM:bj Tryz.prog 92 1=some 1:=by kernel_rfl
@[simp] theorem QN:bj Tryz.prog 92 2=some 3:=by kernel_rfl
@[simp] theorem QO:bj Tryz.prog 92 3=some 4:=by kernel_rfl
@[simp] theorem QP:bj Tryz.prog 92 4=some 5:=by kernel_rfl
@[simp] theorem QQ:bj Tryz.prog 92 5=some 6:=by kernel_rfl
@[simp] theorem QR:bj Tryz.prog 92 6=some 7:=by kernel_rfl
@[simp] theorem QS:bj Tryz.prog 92 7=some 8:=by kernel_rfl
@[simp] theorem QT:bj Tryz.prog 92 8=some 9:=by kernel_rfl
@[simp] theorem QU:bj Tryz.prog 92 9=some 10:=by kernel_rfl
@[simp] theorem OH:bj Tryz.prog 92 10=some 11:=by kernel_rfl
@[simp] theorem OI:bj Tryz.prog 92 11=some 12:=by kernel_rfl
@[simp] theorem OJ:bj Tryz.prog 92 12=some 13:=by kernel_rfl
@[simp] theorem OK:bj Tryz.prog 92 13=some 14:=by kernel_rfl
@[simp] theorem OL:bj Tryz.prog 92 14=some 15:=by kernel_rfl
@[simp] theorem OM:bj Tryz.prog 92 15=some 16:=by kernel_rfl
@[simp] theorem ON:bj Tryz.prog 146 0=some 0:=by kernel_rfl
@[simp] theorem OO:bj Tryz.prog 146 1=some 1:=by kernel_rfl
@[simp] theorem OP:bj Tryz.prog 153 0=some 0:=by kernel_rfl
@[simp] theorem OQ:bj Tryz.prog 153 1=some 1:=by kernel_rfl
@[simp] theorem OR:bj Tryz.prog 153 2=some 2:=by kernel_rfl
@[simp] theorem OS:bj Tryz.prog 153 3=some 3:=by kernel_rfl
@[simp] theorem OT:bj Tryz.prog 158 0=some 0:=by kernel_rfl
@[simp] theorem OU:bj Tryz.prog 158 1=some 1:=by kernel_rfl
@[simp] theorem OV:bj Tryz.prog 158 2=some 2:=by kernel_rfl
@[simp] theorem OW:bj Tryz.prog 160 0=some 0:=by kernel_rfl
@[simp] theorem OX:bj Tryz.prog 160 1=some 1:=by kernel_rfl
@[simp] theorem OY:bj Tryz.prog 164 0=some 0:=by kernel_rfl
@[simp] theorem OZ:bj Tryz.prog 164 1=some 1:=by kernel_rfl
@[simp] theorem O0:bj Tryz.prog 164 2=some 2:=by kernel_rfl
@[simp] theorem O2:bj Tryz.prog 164 3=some 3:=by kernel_rfl
@[simp] theorem O3:bj Tryz.prog 164 4=some 4:=by kernel_rfl
@[simp] theorem O4:bj Tryz.prog 164 5=some 5:=by kernel_rfl
@[simp] theorem O5:bj Tryz.prog 164 6=some 6:=by kernel_rfl
@[simp] theorem O6:bj Tryz.prog 187 0=some 0:=by kernel_rfl
@[simp] theorem O7:bj Tryz.prog 187 1=some 1:=by kernel_rfl
@[simp] theorem O8:bj Tryz.prog 187 2=some 2:=by kernel_rfl
@[simp] theorem O9:bj Tryz.prog 187 3=some 3:=by kernel_rfl
@[simp] theorem Pa:bj Tryz.prog 187 4=some 4:=by kernel_rfl
@[simp] theorem Pb:bj Tryz.prog 194 0=some 0:=by kernel_rfl
@[simp] theorem Pc:bj Tryz.prog 194 1=some 1:=by kernel_rfl
@[simp] theorem Pd:bj Tryz.prog 194 2=some 2:=by kernel_rfl
@[simp] theorem Pe:bj Tryz.prog 194 3=some 3:=by kernel_rfl
@[simp] theorem Pf:bj Tryz.prog 194 4=some 4:=by kernel_rfl
@[simp] theorem Pg:bj Tryz.prog 196 0=some 0:=by kernel_rfl
@[simp] theorem Ph:bj Tryz.prog 196 1=some 1:=by kernel_rfl
@[simp] theorem Pi:bj Tryz.prog 196 2=some 2:=by kernel_rfl
@[simp] theorem Pj:bj Tryz.prog 196 3=some 3:=by kernel_rfl
@[simp] theorem Pk:bj Tryz.prog 223 0=some 0:=by kernel_rfl
@[simp] theorem Pm:bj Tryz.prog 223 1=some 1:=by kernel_rfl
@[simp] theorem Pn:bj Tryz.prog 252 0=some 0:=by kernel_rfl
@[simp] theorem Po:bj Tryz.prog 252 1=some 1:=by kernel_rfl
@[simp] theorem Pp:bj Tryz.prog 265 0=some 0:=by kernel_rfl
@[simp] theorem Pq:bj Tryz.prog 265 1=some 1:=by kernel_rfl
theorem aE:Tryz.prog.follows .mixedOrders=true:=by kernel_rfl
/-! ### Plain laws -/
/-! ### Walks -/
structure Op5 where
  p:Int
  k:Int
  s:Int
  e:Int
  r:Int
  deriving DecidableEq,Inhabited
def ML(a b:Op5):Bool:=decide (a.e≥0)&&decide (a.e<b.s)
def MM(o:Op5):Bool:=if o.e=-1 then decide (o.r=-1)else decide (o.e>o.s)&&decide (o.e<=9999)&&decide (o.r≥0)&&decide (o.r<=1000000)
def Hj(o:Op5):Int:=if o.p<1∨o.p>1000∨o.s<0∨o.s>9999 then 2 else if o.k<0∨o.k≥64 then 31 else if MM o then 0 else 7
@[simp] theorem yz(k:Nat)(l:List Int):bX k (l.map λi=>[ae i]):=by
 rw[iC];intro r a x hx;obtain⟨o,_,rfl⟩:=RO.1 a;simp at hx;subst hx;trivial
/-! ### Pairs -/
/-! ### Plain laws -/
def MN(a b:Op5):Bool:=decide (a.s=b.s)||decide (a.e=b.s)||decide (a.s=b.e)||(decide (a.e=b.e)&&!decide (a.e=-1))
def Rd(a o:Op5):Bool:=decide (o.s<=a.s)||MN a o
def Ps(a o:Op5):Bool:=decide (a.p=o.p)&&!ML a o
def Pt(pre:List Op5)(o:Op5):Int:=if Hj o≠0 then Hj o else if pre.any (λa=>Rd a o)=true then 32 else if pre.any (λa=>Ps a o)=true then 33 else 0
def LZ(ops:List Op5)(i:Nat):Int:=Pt (ops.take i) (ops.getD i default)
def chk(ops:List Op5):Int×Int:=
 if ops.length>5000 then(0,3)else match(List.range ops.length).find? (λi=>decide (LZ ops i≠0))with
 |some i=>((i:Int),LZ ops i)
 |none=>((ops.length:Int),0)
/-! ### The document's answer -/
@[simp] theorem NK(r:Nat->Nat->PV)(l:List Int):kJ r (l.map λi=>[ae i])=l.map λi=>[ae i]:=by
 rw[bW,SJ];congr 1
/-! ### Maps of one kind -/
def a8{α:Type}(f:α->PV)(l:List (Int×α)):List (Int×PV):=l.map λp=>(p.1,f p.2)
def lk{α:Type}:List (Int×α)->Int->Option α
 |[],_=>none
 |(k,x)::r,n=>if k=n then some x else lk r n
def pt{α:Type}:List (Int×α)->Int->α->List (Int×α)
 |[],n,y=>[(n,y)]
 |(k,x)::r,n,y=>if k=n then(k,y)::r else(k,x)::pt r n y
theorem jn{α:Type}(f:α->PV):∀(l:List (Int×α))(k:Int),dF (a8 f l) k=(lk l k).map f
 |[],_=>rfl
 |(j,x)::r,k=>by
  have:=jn f r k;simp only[a8,R4,dF,lk]at this⊢;split
  .rfl
  .exact this
theorem lj{α:Type}(f:α->PV):∀(l:List (Int×α))(k:Int)(y:α),ic (a8 f l) k (f y)=a8 f (pt l k y)
 |[],_,_=>rfl
 |(j,x)::r,k,y=>by
  have:=lj f r k y;simp only[a8,R4,ic,pt]at this⊢;split
  .rfl
  .rw[this];rfl
theorem bK{α:Type}:∀(l:List (Int×α))(k:Int)(y:α)(n:Int),lk (pt l k y) n=if k=n then some y else lk l n
 |[],k,y,n=>rfl
 |(j,x)::r,k,y,n=>by
  simp only[pt];split
  .rename_i h;subst h;simp only[lk];split<;>rfl
  .rename_i h;simp only[lk,bK r k y n];split
   .rename_i a;subst a;rw[RH (λe=>h e.symm)]
   .rfl
def fI(n:Int):PV:=ae n
@[simp] theorem QV(l:List (Int×Int))(k:Int):(dF (a8 fI l) k).getD (ae 0)=ae ((lk l k).getD 0):=by
 rw[jn];cases lk l k<;>rfl
@[simp] theorem Re(l:List (Int×Int))(k n:Int):ic (a8 fI l) k (ae n)=a8 fI (pt l k n):=lj fI l k n
@[simp] theorem iw(n:Nat)(l:List (Int×Int)):gq n (a8 fI l):=by
 rw[sk];intro r a;obtain⟨p,_,rfl⟩:=RO.1 a;trivial
@[simp] theorem Pu{α:Type}(f:α->PV):a8 f []=[]:=rfl
/-! ### What the maps hold -/
end Go.AX