/-
  Facts on the types of the seat's program (written by facts.py).
  Contracts: the numbers of clauses (count, numbering, the document's answer).
  Contracts: operations (oper, the document's answer).
  Contracts: whether operations may be.
  Contracts: all clauses (count, the document's answer).
  Contracts: whether operations may be (oper.Check, by maps).
-/
import Derived.Test.YtepodadinenmnaaGreatAxXW
import Derived.Test.YtepodadinenmnaaGreatRows
namespace Go.AX
open Go.Proofs
@[simp] theorem MI:tk Tryz.prog 3=.int∧aI Tryz.prog 3=some (false,1)∧CM Tryz.prog 3=some .i64∧dM Tryz.prog 3=some [.lit (.int .i64 0)]∧tk Tryz.prog 4=.bool∧aI Tryz.prog 4=some (false,1)∧tk Tryz.prog 22=.slice∧aI Tryz.prog 22=some (false,1)∧bj Tryz.prog 22=some 1∧bJ Tryz.prog 22=some (1,24)∧df Tryz.prog 22=some [.lit (.slice none 0 0)]∧aI Tryz.prog 24=some (true,2)∧dM Tryz.prog 24=some [.lit (.int .i64 0),.lit (.slice none 0 0)]∧zeroV Tryz.prog 24=some [.lit (.int .i64 0),.lit (.slice none 0 0)]∧bInfo Tryz.prog 24=some [(0,1),(1,1)]∧aI Tryz.prog 26=some (true,3)∧zeroV Tryz.prog 26=some [.lit (.int .i64 0),.lit (.int .i64 0),.lit (.int .i64 0)]∧bInfo Tryz.prog 26=some [(0,1),(1,1),(2,1)]∧tk Tryz.prog 27=.slice∧aI Tryz.prog 27=some (false,1):=by and_intros<;>kernel_rfl
@[simp] theorem KA:bj Tryz.prog 27=some 1∧bJ Tryz.prog 27=some (1,8)∧df Tryz.prog 27=some [.lit (.int .i64 0)]∧aI Tryz.prog 33=some (false,1)∧dM Tryz.prog 33=some [.lit .nilFunc]∧tk Tryz.prog 35=.slice∧aI Tryz.prog 35=some (false,1)∧bj Tryz.prog 35=some 1∧bJ Tryz.prog 35=some (1,1)∧df Tryz.prog 35=some [.lit (.bool false)]∧tk Tryz.prog 37=.ptr∧aI Tryz.prog 37=some (false,1)∧tk Tryz.prog 48=.int∧tk Tryz.prog 56=.slice∧aI Tryz.prog 56=some (false,1)∧bj Tryz.prog 56=some 4∧bJ Tryz.prog 56=some (4,64)∧df Tryz.prog 56=some [.lit (.int .i64 0),.lit (.int .i64 0),.lit (.slice none 0 0),.lit (.slice none 0 0)]∧aI Tryz.prog 58=some (true,4)∧dM Tryz.prog 58=some [.lit (.int .i64 0),.lit (.int .i64 0),.lit (.slice none 0 0),.lit (.slice none 0 0)]:=by and_intros<;>kernel_rfl
@[simp] theorem KB:zeroV Tryz.prog 58=some [.lit (.int .i64 0),.lit (.int .i64 0),.lit (.slice none 0 0),.lit (.slice none 0 0)]∧bInfo Tryz.prog 58=some [(0,1),(1,1),(2,1),(3,1)]∧aI Tryz.prog 71=some (true,4)∧dM Tryz.prog 71=some [.lit (.int .i64 0),.lit (.int .i64 0),.lit (.slice none 0 0),.lit (.slice none 0 0)]∧zeroV Tryz.prog 71=some [.lit (.int .i64 0),.lit (.int .i64 0),.lit (.slice none 0 0),.lit (.slice none 0 0)]∧bInfo Tryz.prog 71=some [(0,1),(1,1),(2,1),(3,1)]∧tk Tryz.prog 86=.ptr∧aI Tryz.prog 86=some (false,1)∧tk Tryz.prog 87=.ptr∧aI Tryz.prog 87=some (false,1)∧tk Tryz.prog 88=.ptr∧aI Tryz.prog 88=some (false,1)∧tk Tryz.prog 89=.ptr∧aI Tryz.prog 89=some (false,1)∧tk Tryz.prog 90=.map∧aI Tryz.prog 90=some (false,1)∧dM Tryz.prog 90=some [.lit (.map none)]∧jV Tryz.prog 90=true∧om Tryz.prog 90=some (.lit (.int .i64 0))∧zeroV Tryz.prog 92=some [.lit (.pointer none),.lit (.int .i64 0),.lit (.slice none 0 0),.lit (.pointer none),.lit (.pointer none),.lit (.pointer none),.lit (.slice none 0 0),.lit (.int .i64 0),.lit (.int .i64 0),.lit (.int .i64 0),.lit (.int .i64 0),.lit (.int .i64 0),.lit (.bool false),.lit (.int .i64 0),.lit (.bool false),.lit (.slice none 0 0),.lit (.map none)]:=by and_intros<;>kernel_rfl
@[simp] theorem KC:bInfo Tryz.prog 92=some [(0,1),(1,2),(3,1),(4,1),(5,1),(6,1),(7,1),(8,1),(9,1),(10,1),(11,1),(12,1),(13,1),(14,1),(15,1),(16,1)]∧CM Tryz.prog 104=some .u64∧aI Tryz.prog 112=some (false,1)∧jV Tryz.prog 112=true∧om Tryz.prog 112=some (.lit (.slice none 0 0))∧tk Tryz.prog 148=.slice∧bj Tryz.prog 148=some 4∧bJ Tryz.prog 148=some (4,32)∧df Tryz.prog 148=some [.lit (.int .i64 0),.lit (.int .i64 0),.lit (.int .i64 0),.lit (.bool false)]∧tk Tryz.prog 151=.slice∧aI Tryz.prog 151=some (false,1)∧bj Tryz.prog 151=some 4∧bJ Tryz.prog 151=some (4,32)∧df Tryz.prog 151=some [.lit (.int .i64 0),.lit (.int .i64 0),.lit (.int .i64 0),.lit (.int .i64 0)]∧zeroV Tryz.prog 153=some [.lit (.slice none 0 0),.lit (.slice none 0 0),.lit (.slice none 0 0),.lit (.bool false)]∧bInfo Tryz.prog 153=some [(0,1),(1,1),(2,1),(3,1)]∧zeroV Tryz.prog 158=some [.lit (.slice none 0 0),.lit (.slice none 0 0),.lit (.slice none 0 0)]∧bInfo Tryz.prog 158=some [(0,1),(1,1),(2,1)]∧zeroV Tryz.prog 160=some [.lit (.slice none 0 0),.lit (.map none)]∧bInfo Tryz.prog 160=some [(0,1),(1,1)]:=by and_intros<;>kernel_rfl
@[simp] theorem JI:tk Tryz.prog 162=.map∧aI Tryz.prog 162=some (false,1)∧jV Tryz.prog 162=true∧om Tryz.prog 162=some (.lit (.pointer none))∧zeroV Tryz.prog 164=some [.lit (.pointer none),.lit (.pointer none),.lit (.map none),.lit (.map none),.lit (.map none),.lit (.int .i64 0),.lit (.slice none 0 0)]∧bInfo Tryz.prog 164=some [(0,1),(1,1),(2,1),(3,1),(4,1),(5,1),(6,1)]∧zeroV Tryz.prog 187=some [.lit (.pointer none),.lit (.pointer none),.lit (.map none),.lit (.slice none 0 0),.lit (.int .i64 0)]∧bInfo Tryz.prog 187=some [(0,1),(1,1),(2,1),(3,1),(4,1)]∧aI Tryz.prog 190=some (false,1)∧dM Tryz.prog 190=some [.lit .nilFunc]∧zeroV Tryz.prog 194=some [.lit (.pointer none),.lit (.pointer none),.lit (.map none),.lit (.map none),.lit (.bool false)]∧bInfo Tryz.prog 194=some [(0,1),(1,1),(2,1),(3,1),(4,1)]∧aI Tryz.prog 196=some (true,4)∧dM Tryz.prog 196=some [.lit (.int .i64 0),.lit (.int .i64 0),.lit (.int .i64 0),.lit (.int .i64 0)]∧zeroV Tryz.prog 196=some [.lit (.int .i64 0),.lit (.int .i64 0),.lit (.int .i64 0),.lit (.int .i64 0)]∧bInfo Tryz.prog 196=some [(0,1),(1,1),(2,1),(3,1)]∧zeroV Tryz.prog 205=some [.lit (.int .i64 0),.lit (.int .i64 0),.lit (.int .i64 0),.lit (.bool false)]∧bInfo Tryz.prog 205=some [(0,1),(1,1),(2,1),(3,1)]∧tk Tryz.prog 213=.ptr∧aI Tryz.prog 221=some (true,2):=by and_intros<;>kernel_rfl
@[simp] theorem IK:bj Tryz.prog 221=none∧mG Tryz.prog 221=some (2,1)∧zeroV Tryz.prog 221=some [.lit (.int .i64 0),.lit (.int .i64 0)]∧bInfo Tryz.prog 221=some [(0,1),(1,1)]∧tL Tryz.prog 221=some (2,false,1)∧zeroV Tryz.prog 223=some [.lit (.slice none 0 0),.lit (.int .i64 0),.lit (.int .i64 0)]∧bInfo Tryz.prog 223=some [(0,1),(1,2)]∧tk Tryz.prog 243=.int∧aI Tryz.prog 265=some (true,2)∧dM Tryz.prog 265=some [.lit (.bool false),.lit (.slice none 0 0)]:=by and_intros<;>kernel_rfl
@[simp] theorem MJ:bs Tryz.prog 24 0=some 0:=by kernel_rfl
@[simp] theorem MK:bs Tryz.prog 24 1=some 1:=by kernel_rfl
@[simp] theorem ML:bs Tryz.prog 26 0=some 0:=by kernel_rfl
@[simp] theorem MM:bs Tryz.prog 26 1=some 1:=by kernel_rfl
@[simp] theorem MN:bs Tryz.prog 26 2=some 2:=by kernel_rfl
@[simp] theorem MO:bs Tryz.prog 58 0=some 0:=by kernel_rfl
@[simp] theorem MP:bs Tryz.prog 58 1=some 1:=by kernel_rfl
@[simp] theorem MQ:bs Tryz.prog 58 2=some 2:=by kernel_rfl
@[simp] theorem MR:bs Tryz.prog 58 3=some 3:=by kernel_rfl
@[simp] theorem MS:bs Tryz.prog 71 2=some 2:=by kernel_rfl
@[simp] theorem MT:bs Tryz.prog 71 3=some 3:=by kernel_rfl
@[simp] theorem MU:bs Tryz.prog 92 0=some 0:=by kernel_rfl
@[simp] theorem MV:bs Tryz.prog 92 1=some 1:=by kernel_rfl
@[simp] theorem MW:bs Tryz.prog 92 2=some 3:=by kernel_rfl
@[simp] theorem MX:bs Tryz.prog 92 3=some 4:=by kernel_rfl
@[simp] theorem MY:bs Tryz.prog 92 4=some 5:=by kernel_rfl
@[simp] theorem MZ:bs Tryz.prog 92 5=some 6:=by kernel_rfl
@[simp] theorem M0:bs Tryz.prog 92 6=some 7:=by kernel_rfl
@[simp] theorem M2:bs Tryz.prog 92 7=some 8:=by kernel_rfl
@[simp] theorem M3:bs Tryz.prog 92 8=some 9:=by kernel_rfl
@[simp] theorem M4:bs Tryz.prog 92 9=some 10:=by kernel_rfl
@[simp] theorem KD:bs Tryz.prog 92 10=some 11:=by kernel_rfl
@[simp] theorem KE:bs Tryz.prog 92 11=some 12:=by kernel_rfl
@[simp] theorem KF:bs Tryz.prog 92 12=some 13:=by kernel_rfl
@[simp] theorem KG:bs Tryz.prog 92 13=some 14:=by kernel_rfl
@[simp] theorem KH:bs Tryz.prog 92 14=some 15:=by kernel_rfl
@[simp] theorem KI:bs Tryz.prog 92 15=some 16:=by kernel_rfl
@[simp] theorem KJ:bs Tryz.prog 153 0=some 0:=by kernel_rfl
@[simp] theorem KK:bs Tryz.prog 153 1=some 1:=by kernel_rfl
@[simp] theorem KL:bs Tryz.prog 153 2=some 2:=by kernel_rfl
@[simp] theorem KM:bs Tryz.prog 153 3=some 3:=by kernel_rfl
@[simp] theorem KN:bs Tryz.prog 158 0=some 0:=by kernel_rfl
@[simp] theorem KO:bs Tryz.prog 158 1=some 1:=by kernel_rfl
@[simp] theorem KP:bs Tryz.prog 158 2=some 2:=by kernel_rfl
@[simp] theorem KQ:bs Tryz.prog 160 0=some 0:=by kernel_rfl
@[simp] theorem KR:bs Tryz.prog 160 1=some 1:=by kernel_rfl
@[simp] theorem KS:bs Tryz.prog 164 0=some 0:=by kernel_rfl
@[simp] theorem KT:bs Tryz.prog 164 1=some 1:=by kernel_rfl
@[simp] theorem KU:bs Tryz.prog 164 2=some 2:=by kernel_rfl
@[simp] theorem KV:bs Tryz.prog 164 3=some 3:=by kernel_rfl
@[simp] theorem KW:bs Tryz.prog 164 4=some 4:=by kernel_rfl
@[simp] theorem KX:bs Tryz.prog 164 5=some 5:=by kernel_rfl
@[simp] theorem KY:bs Tryz.prog 164 6=some 6:=by kernel_rfl
@[simp] theorem KZ:bs Tryz.prog 187 0=some 0:=by kernel_rfl
@[simp] theorem K3:bs Tryz.prog 187 1=some 1:=by kernel_rfl
@[simp] theorem K4:bs Tryz.prog 187 2=some 2:=by kernel_rfl
@[simp] theorem K5:bs Tryz.prog 187 3=some 3:=by kernel_rfl
@[simp] theorem K6:bs Tryz.prog 187 4=some 4:=by kernel_rfl
@[simp] theorem K7:bs Tryz.prog 194 0=some 0:=by kernel_rfl
@[simp] theorem K8:bs Tryz.prog 194 1=some 1:=by kernel_rfl
@[simp] theorem K9:bs Tryz.prog 194 2=some 2:=by kernel_rfl
@[simp] theorem La:bs Tryz.prog 194 3=some 3:=by kernel_rfl
@[simp] theorem Lb:bs Tryz.prog 194 4=some 4:=by kernel_rfl
@[simp] theorem Lc:bs Tryz.prog 196 0=some 0:=by kernel_rfl
@[simp] theorem Ld:bs Tryz.prog 196 1=some 1:=by kernel_rfl
@[simp] theorem Le:bs Tryz.prog 196 2=some 2:=by kernel_rfl
@[simp] theorem Lf:bs Tryz.prog 196 3=some 3:=by kernel_rfl
@[simp] theorem Lg:bs Tryz.prog 223 0=some 0:=by kernel_rfl
@[simp] theorem Lh:bs Tryz.prog 223 1=some 1:=by kernel_rfl
@[simp] theorem Li:bs Tryz.prog 265 0=some 0:=by kernel_rfl
@[simp] theorem Lj:bs Tryz.prog 265 1=some 1:=by kernel_rfl
theorem aG:Tryz.prog.follows .mixedOrders=true:=by kernel_rfl
/-! ### Plain laws -/
/-! ### Walks -/
structure Op5 where
  p:Int
  k:Int
  s:Int
  e:Int
  r:Int
  deriving DecidableEq,Inhabited
def IL(a b:Op5):Bool:=decide (a.e≥0)&&decide (a.e<b.s)
def IM(o:Op5):Bool:=if o.e=-1 then decide (o.r=-1)else decide (o.e>o.s)&&decide (o.e<=9999)&&decide (o.r≥0)&&decide (o.r<=1000000)
def Dv(o:Op5):Int:=if o.p<1∨o.p>1000∨o.s<0∨o.s>9999 then 2 else if o.k<0∨o.k≥64 then 31 else if IM o then 0 else 7
@[simp] theorem vM(k:Nat)(l:List Int):bS k (l.map λi=>[ae i]):=by
 rw[gI];intro r a x hx;obtain⟨o,_,rfl⟩:=Of.1 a;simp at hx;subst hx;trivial
/-! ### Pairs -/
/-! ### Plain laws -/
def IN(a b:Op5):Bool:=decide (a.s=b.s)||decide (a.e=b.s)||decide (a.s=b.e)||(decide (a.e=b.e)&&!decide (a.e=-1))
def Nl(a o:Op5):Bool:=decide (o.s<=a.s)||IN a o
def Lk(a o:Op5):Bool:=decide (a.p=o.p)&&!IL a o
def Ll(pre:List Op5)(o:Op5):Int:=if Dv o≠0 then Dv o else if pre.any (λa=>Nl a o)=true then 32 else if pre.any (λa=>Lk a o)=true then 33 else 0
def H0(ops:List Op5)(i:Nat):Int:=Ll (ops.take i) (ops.getD i default)
def chk(ops:List Op5):Int×Int:=
 if ops.length>5000 then(0,3)else match(List.range ops.length).find? (λi=>decide (H0 ops i≠0))with
 |some i=>((i:Int),H0 ops i)
 |none=>((ops.length:Int),0)
/-! ### The document's answer -/
@[simp] theorem JJ(r:Nat->Nat->PV)(l:List Int):kw r (l.map λi=>[ae i])=l.map λi=>[ae i]:=by
 rw[ce,Pa];congr 1
/-! ### Maps of one kind -/
def aS{α:Type}(f:α->PV)(l:List (Int×α)):List (Int×PV):=l.map λp=>(p.1,f p.2)
def lk{α:Type}:List (Int×α)->Int->Option α
 |[],_=>none
 |(k,x)::r,n=>if k=n then some x else lk r n
def pt{α:Type}:List (Int×α)->Int->α->List (Int×α)
 |[],n,y=>[(n,y)]
 |(k,x)::r,n,y=>if k=n then(k,y)::r else(k,x)::pt r n y
theorem iv{α:Type}(f:α->PV):∀(l:List (Int×α))(k:Int),de (aS f l) k=(lk l k).map f
 |[],_=>rfl
 |(j,x)::r,k=>by
  have:=iv f r k;simp only[aS,Ow,de,lk]at this⊢;split
  .rfl
  .exact this
theorem jC{α:Type}(f:α->PV):∀(l:List (Int×α))(k:Int)(y:α),gt (aS f l) k (f y)=aS f (pt l k y)
 |[],_,_=>rfl
 |(j,x)::r,k,y=>by
  have:=jC f r k y;simp only[aS,Ow,gt,pt]at this⊢;split
  .rfl
  .rw[this];rfl
theorem bD{α:Type}:∀(l:List (Int×α))(k:Int)(y:α)(n:Int),lk (pt l k y) n=if k=n then some y else lk l n
 |[],k,y,n=>rfl
 |(j,x)::r,k,y,n=>by
  simp only[pt];split
  .rename_i h;subst h;simp only[lk];split<;>rfl
  .rename_i h;simp only[lk,bD r k y n];split
   .rename_i a;subst a;rw[N8 (λe=>h e.symm)]
   .rfl
def fI(n:Int):PV:=ae n
@[simp] theorem M5(l:List (Int×Int))(k:Int):(de (aS fI l) k).getD (ae 0)=ae ((lk l k).getD 0):=by
 rw[iv];cases lk l k<;>rfl
@[simp] theorem Nm(l:List (Int×Int))(k n:Int):gt (aS fI l) k (ae n)=aS fI (pt l k n):=jC fI l k n
@[simp] theorem gE(n:Nat)(l:List (Int×Int)):fw n (aS fI l):=by
 rw[ql];intro r a;obtain⟨p,_,rfl⟩:=Of.1 a;trivial
@[simp] theorem Lm{α:Type}(f:α->PV):aS f []=[]:=rfl
/-! ### What the maps hold -/
end Go.AX