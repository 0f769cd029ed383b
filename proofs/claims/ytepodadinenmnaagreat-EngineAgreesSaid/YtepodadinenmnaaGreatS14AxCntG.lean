/-
  Facts on the types of the seat's program (written by facts.py).
  Contracts: the numbers of clauses (count, numbering, the document's answer).
  Contracts: operations (oper, the document's answer).
  Contracts: whether operations may be.
  Contracts: all clauses (count, the document's answer).
  Contracts: whether operations may be (oper.Check, by maps).
-/
import Derived.Test.YtepodadinenmnaaGreatAxBM
import Derived.Test.YtepodadinenmnaaGreatRows
namespace Go.AX
open Go.Proofs
@[simp] theorem Nw:tk Tryz.prog 3=.int∧aJ Tryz.prog 3=some (false,1)∧CE Tryz.prog 3=some .i64∧dX Tryz.prog 3=some [.lit (.int .i64 0)]:=by refine⟨?_,?_,?_,?_⟩<;>kernel_rfl
@[simp] theorem Nx:tk Tryz.prog 4=.bool∧aJ Tryz.prog 4=some (false,1):=by refine⟨?_,?_⟩<;>kernel_rfl
@[simp] theorem M6:tk Tryz.prog 22=.slice∧aJ Tryz.prog 22=some (false,1)∧bg Tryz.prog 22=some 1∧bG Tryz.prog 22=some (1,24)∧df Tryz.prog 22=some [.lit (.slice none 0 0)]:=by refine⟨?_,?_,?_,?_,?_⟩<;>kernel_rfl
@[simp] theorem M7:aJ Tryz.prog 24=some (true,2)∧dX Tryz.prog 24=some [.lit (.int .i64 0),.lit (.slice none 0 0)]∧zeroV Tryz.prog 24=some [.lit (.int .i64 0),.lit (.slice none 0 0)]∧bInfo Tryz.prog 24=some [(0,1),(1,1)]:=by refine⟨?_,?_,?_,?_⟩<;>kernel_rfl
@[simp] theorem M8:aJ Tryz.prog 26=some (true,3)∧zeroV Tryz.prog 26=some [.lit (.int .i64 0),.lit (.int .i64 0),.lit (.int .i64 0)]∧bInfo Tryz.prog 26=some [(0,1),(1,1),(2,1)]:=by refine⟨?_,?_,?_⟩<;>kernel_rfl
@[simp] theorem M9:tk Tryz.prog 27=.slice∧aJ Tryz.prog 27=some (false,1)∧bg Tryz.prog 27=some 1∧bG Tryz.prog 27=some (1,8)∧df Tryz.prog 27=some [.lit (.int .i64 0)]:=by refine⟨?_,?_,?_,?_,?_⟩<;>kernel_rfl
@[simp] theorem Na:aJ Tryz.prog 33=some (false,1)∧dX Tryz.prog 33=some [.lit .nilFunc]:=by refine⟨?_,?_⟩<;>kernel_rfl
@[simp] theorem Nb:tk Tryz.prog 35=.slice∧aJ Tryz.prog 35=some (false,1)∧bg Tryz.prog 35=some 1∧bG Tryz.prog 35=some (1,1)∧df Tryz.prog 35=some [.lit (.bool false)]:=by refine⟨?_,?_,?_,?_,?_⟩<;>kernel_rfl
@[simp] theorem Nc:tk Tryz.prog 37=.ptr:=by kernel_rfl
@[simp] theorem Nd:tk Tryz.prog 48=.int:=by kernel_rfl
@[simp] theorem Nf:tk Tryz.prog 56=.slice∧aJ Tryz.prog 56=some (false,1)∧bg Tryz.prog 56=some 4∧bG Tryz.prog 56=some (4,64)∧df Tryz.prog 56=some [.lit (.int .i64 0),.lit (.int .i64 0),.lit (.slice none 0 0),.lit (.slice none 0 0)]:=by refine⟨?_,?_,?_,?_,?_⟩<;>kernel_rfl
@[simp] theorem Ng:aJ Tryz.prog 71=some (true,4)∧dX Tryz.prog 71=some [.lit (.int .i64 0),.lit (.int .i64 0),.lit (.slice none 0 0),.lit (.slice none 0 0)]∧zeroV Tryz.prog 71=some [.lit (.int .i64 0),.lit (.int .i64 0),.lit (.slice none 0 0),.lit (.slice none 0 0)]∧bInfo Tryz.prog 71=some [(0,1),(1,1),(2,1),(3,1)]:=by refine⟨?_,?_,?_,?_⟩<;>kernel_rfl
@[simp] theorem Nh:tk Tryz.prog 86=.ptr∧aJ Tryz.prog 86=some (false,1):=by refine⟨?_,?_⟩<;>kernel_rfl
@[simp] theorem Ni:tk Tryz.prog 87=.ptr∧aJ Tryz.prog 87=some (false,1):=by refine⟨?_,?_⟩<;>kernel_rfl
@[simp] theorem Nj:tk Tryz.prog 88=.ptr∧aJ Tryz.prog 88=some (false,1):=by refine⟨?_,?_⟩<;>kernel_rfl
@[simp] theorem Nk:tk Tryz.prog 89=.ptr∧aJ Tryz.prog 89=some (false,1):=by refine⟨?_,?_⟩<;>kernel_rfl
@[simp] theorem Nl:tk Tryz.prog 90=.map∧aJ Tryz.prog 90=some (false,1)∧dX Tryz.prog 90=some [.lit (.map none)]∧jN Tryz.prog 90=true∧oa Tryz.prog 90=some (.lit (.int .i64 0)):=by refine⟨?_,?_,?_,?_,?_⟩<;>kernel_rfl
@[simp] theorem Nm:zeroV Tryz.prog 92=some [.lit (.pointer none),.lit (.int .i64 0),.lit (.slice none 0 0),.lit (.pointer none),.lit (.pointer none),.lit (.pointer none),.lit (.slice none 0 0),.lit (.int .i64 0),.lit (.int .i64 0),.lit (.int .i64 0),.lit (.int .i64 0),.lit (.int .i64 0),.lit (.bool false),.lit (.int .i64 0),.lit (.bool false),.lit (.slice none 0 0),.lit (.map none)]∧bInfo Tryz.prog 92=some [(0,1),(1,2),(3,1),(4,1),(5,1),(6,1),(7,1),(8,1),(9,1),(10,1),(11,1),(12,1),(13,1),(14,1),(15,1),(16,1)]:=by refine⟨?_,?_⟩<;>kernel_rfl
@[simp] theorem Mt:CE Tryz.prog 104=some .u64:=by kernel_rfl
@[simp] theorem Mu:aJ Tryz.prog 112=some (false,1)∧jN Tryz.prog 112=true∧oa Tryz.prog 112=some (.lit (.slice none 0 0)):=by refine⟨?_,?_,?_⟩<;>kernel_rfl
@[simp] theorem Mv:tk Tryz.prog 148=.slice∧bg Tryz.prog 148=some 4∧bG Tryz.prog 148=some (4,32)∧df Tryz.prog 148=some [.lit (.int .i64 0),.lit (.int .i64 0),.lit (.int .i64 0),.lit (.bool false)]:=by refine⟨?_,?_,?_,?_⟩<;>kernel_rfl
@[simp] theorem Mw:tk Tryz.prog 151=.slice∧aJ Tryz.prog 151=some (false,1)∧bg Tryz.prog 151=some 4∧bG Tryz.prog 151=some (4,32)∧df Tryz.prog 151=some [.lit (.int .i64 0),.lit (.int .i64 0),.lit (.int .i64 0),.lit (.int .i64 0)]:=by refine⟨?_,?_,?_,?_,?_⟩<;>kernel_rfl
@[simp] theorem Mx:zeroV Tryz.prog 153=some [.lit (.slice none 0 0),.lit (.slice none 0 0),.lit (.slice none 0 0),.lit (.bool false)]∧bInfo Tryz.prog 153=some [(0,1),(1,1),(2,1),(3,1)]:=by refine⟨?_,?_⟩<;>kernel_rfl
@[simp] theorem My:zeroV Tryz.prog 158=some [.lit (.slice none 0 0),.lit (.slice none 0 0),.lit (.slice none 0 0)]∧bInfo Tryz.prog 158=some [(0,1),(1,1),(2,1)]:=by refine⟨?_,?_⟩<;>kernel_rfl
@[simp] theorem Mz:zeroV Tryz.prog 160=some [.lit (.slice none 0 0),.lit (.map none)]∧bInfo Tryz.prog 160=some [(0,1),(1,1)]:=by refine⟨?_,?_⟩<;>kernel_rfl
@[simp] theorem MA:tk Tryz.prog 162=.map∧aJ Tryz.prog 162=some (false,1)∧jN Tryz.prog 162=true∧oa Tryz.prog 162=some (.lit (.pointer none)):=by refine⟨?_,?_,?_,?_⟩<;>kernel_rfl
@[simp] theorem MB:zeroV Tryz.prog 164=some [.lit (.pointer none),.lit (.pointer none),.lit (.map none),.lit (.map none),.lit (.map none),.lit (.int .i64 0),.lit (.slice none 0 0)]∧bInfo Tryz.prog 164=some [(0,1),(1,1),(2,1),(3,1),(4,1),(5,1),(6,1)]:=by refine⟨?_,?_⟩<;>kernel_rfl
@[simp] theorem MC:zeroV Tryz.prog 187=some [.lit (.pointer none),.lit (.pointer none),.lit (.map none),.lit (.slice none 0 0),.lit (.int .i64 0)]∧bInfo Tryz.prog 187=some [(0,1),(1,1),(2,1),(3,1),(4,1)]:=by refine⟨?_,?_⟩<;>kernel_rfl
@[simp] theorem MD:aJ Tryz.prog 190=some (false,1)∧dX Tryz.prog 190=some [.lit .nilFunc]:=by refine⟨?_,?_⟩<;>kernel_rfl
@[simp] theorem ME:zeroV Tryz.prog 194=some [.lit (.pointer none),.lit (.pointer none),.lit (.map none),.lit (.map none),.lit (.bool false)]∧bInfo Tryz.prog 194=some [(0,1),(1,1),(2,1),(3,1),(4,1)]:=by refine⟨?_,?_⟩<;>kernel_rfl
@[simp] theorem MF:aJ Tryz.prog 196=some (true,4)∧dX Tryz.prog 196=some [.lit (.int .i64 0),.lit (.int .i64 0),.lit (.int .i64 0),.lit (.int .i64 0)]∧zeroV Tryz.prog 196=some [.lit (.int .i64 0),.lit (.int .i64 0),.lit (.int .i64 0),.lit (.int .i64 0)]∧bInfo Tryz.prog 196=some [(0,1),(1,1),(2,1),(3,1)]:=by refine⟨?_,?_,?_,?_⟩<;>kernel_rfl
@[simp] theorem MG:zeroV Tryz.prog 205=some [.lit (.int .i64 0),.lit (.int .i64 0),.lit (.int .i64 0),.lit (.bool false)]∧bInfo Tryz.prog 205=some [(0,1),(1,1),(2,1),(3,1)]:=by refine⟨?_,?_⟩<;>kernel_rfl
@[simp] theorem MH:tk Tryz.prog 213=.ptr:=by kernel_rfl
@[simp] theorem MI:aJ Tryz.prog 221=some (true,2)∧bg Tryz.prog 221=none∧mu Tryz.prog 221=some (2,1)∧zeroV Tryz.prog 221=some [.lit (.int .i64 0),.lit (.int .i64 0)]∧bInfo Tryz.prog 221=some [(0,1),(1,1)]∧tI Tryz.prog 221=some (2,false,1):=by refine⟨?_,?_,?_,?_,?_,?_⟩<;>kernel_rfl
@[simp] theorem MJ:zeroV Tryz.prog 223=some [.lit (.slice none 0 0),.lit (.int .i64 0),.lit (.int .i64 0)]∧bInfo Tryz.prog 223=some [(0,1),(1,2)]:=by refine⟨?_,?_⟩<;>kernel_rfl
@[simp] theorem MK:tk Tryz.prog 243=.int:=by kernel_rfl
@[simp] theorem ML:aJ Tryz.prog 265=some (true,2)∧dX Tryz.prog 265=some [.lit (.bool false),.lit (.slice none 0 0)]:=by refine⟨?_,?_⟩<;>kernel_rfl
@[simp] theorem LK:bE Tryz.prog 24 0=some 0:=by kernel_rfl
@[simp] theorem LL:bE Tryz.prog 24 1=some 1:=by kernel_rfl
@[simp] theorem LM:bE Tryz.prog 26 1=some 1:=by kernel_rfl
@[simp] theorem LO:bE Tryz.prog 26 2=some 2:=by kernel_rfl
@[simp] theorem LP:bE Tryz.prog 71 2=some 2:=by kernel_rfl
@[simp] theorem LQ:bE Tryz.prog 71 3=some 3:=by kernel_rfl
@[simp] theorem LS:bE Tryz.prog 92 0=some 0:=by kernel_rfl
@[simp] theorem LT:bE Tryz.prog 92 1=some 1:=by kernel_rfl
@[simp] theorem LU:bE Tryz.prog 92 2=some 3:=by kernel_rfl
@[simp] theorem LV:bE Tryz.prog 92 3=some 4:=by kernel_rfl
@[simp] theorem LW:bE Tryz.prog 92 4=some 5:=by kernel_rfl
@[simp] theorem LY:bE Tryz.prog 92 5=some 6:=by kernel_rfl
@[simp] theorem LZ:bE Tryz.prog 92 6=some 7:=by kernel_rfl
@[simp] theorem Ma:bE Tryz.prog 92 7=some 8:=by kernel_rfl
@[simp] theorem Mb:bE Tryz.prog 92 8=some 9:=by kernel_rfl
@[simp] theorem Mc:bE Tryz.prog 92 9=some 10:=by kernel_rfl
@[simp] theorem J7:bE Tryz.prog 92 10=some 11:=by kernel_rfl
@[simp] theorem J8:bE Tryz.prog 92 11=some 12:=by kernel_rfl
@[simp] theorem J9:bE Tryz.prog 92 12=some 13:=by kernel_rfl
@[simp] theorem Ka:bE Tryz.prog 92 13=some 14:=by kernel_rfl
@[simp] theorem Kb:bE Tryz.prog 92 14=some 15:=by kernel_rfl
@[simp] theorem Kc:bE Tryz.prog 92 15=some 16:=by kernel_rfl
@[simp] theorem Kd:bE Tryz.prog 153 0=some 0:=by kernel_rfl
@[simp] theorem Ke:bE Tryz.prog 153 1=some 1:=by kernel_rfl
@[simp] theorem Kf:bE Tryz.prog 153 2=some 2:=by kernel_rfl
@[simp] theorem Kg:bE Tryz.prog 153 3=some 3:=by kernel_rfl
@[simp] theorem Kh:bE Tryz.prog 158 0=some 0:=by kernel_rfl
@[simp] theorem Ki:bE Tryz.prog 158 1=some 1:=by kernel_rfl
@[simp] theorem Kj:bE Tryz.prog 158 2=some 2:=by kernel_rfl
@[simp] theorem Kk:bE Tryz.prog 160 0=some 0:=by kernel_rfl
@[simp] theorem Kl:bE Tryz.prog 160 1=some 1:=by kernel_rfl
@[simp] theorem Km:bE Tryz.prog 164 0=some 0:=by kernel_rfl
@[simp] theorem Kn:bE Tryz.prog 164 1=some 1:=by kernel_rfl
@[simp] theorem Ko:bE Tryz.prog 164 2=some 2:=by kernel_rfl
@[simp] theorem Kp:bE Tryz.prog 164 3=some 3:=by kernel_rfl
@[simp] theorem Kq:bE Tryz.prog 164 4=some 4:=by kernel_rfl
@[simp] theorem Kr:bE Tryz.prog 164 5=some 5:=by kernel_rfl
@[simp] theorem Kt:bE Tryz.prog 164 6=some 6:=by kernel_rfl
@[simp] theorem Ku:bE Tryz.prog 187 0=some 0:=by kernel_rfl
@[simp] theorem Kv:bE Tryz.prog 187 1=some 1:=by kernel_rfl
@[simp] theorem Kw:bE Tryz.prog 187 2=some 2:=by kernel_rfl
@[simp] theorem Kx:bE Tryz.prog 187 3=some 3:=by kernel_rfl
@[simp] theorem Ky:bE Tryz.prog 187 4=some 4:=by kernel_rfl
@[simp] theorem Kz:bE Tryz.prog 194 0=some 0:=by kernel_rfl
@[simp] theorem KA:bE Tryz.prog 194 1=some 1:=by kernel_rfl
@[simp] theorem KB:bE Tryz.prog 194 2=some 2:=by kernel_rfl
@[simp] theorem KC:bE Tryz.prog 194 3=some 3:=by kernel_rfl
@[simp] theorem KD:bE Tryz.prog 194 4=some 4:=by kernel_rfl
@[simp] theorem KE:bE Tryz.prog 196 0=some 0:=by kernel_rfl
@[simp] theorem KF:bE Tryz.prog 196 1=some 1:=by kernel_rfl
@[simp] theorem KG:bE Tryz.prog 196 2=some 2:=by kernel_rfl
@[simp] theorem KH:bE Tryz.prog 196 3=some 3:=by kernel_rfl
@[simp] theorem KI:bE Tryz.prog 223 0=some 0:=by kernel_rfl
@[simp] theorem KJ:bE Tryz.prog 223 1=some 1:=by kernel_rfl
@[simp] theorem KK:bE Tryz.prog 265 0=some 0:=by kernel_rfl
@[simp] theorem KL:bE Tryz.prog 265 1=some 1:=by kernel_rfl
theorem aG:Tryz.prog.follows .mixedOrders=true:=by kernel_rfl
/-! ### Plain laws -/
/-! ### Walks -/
structure Op5 where
  p:Int
  k:Int
  s:Int
  e:Int
  r:Int
  deriving DecidableEq,Inhabited
def Ik(a b:Op5):Bool:=decide (a.e≥0)&&decide (a.e<b.s)
def Il(o:Op5):Bool:=if o.e=-1 then decide (o.r=-1)else decide (o.e>o.s)&&decide (o.e≤9999)&&decide (o.r≥0)&&decide (o.r≤1000000)
def Dn(o:Op5):Int:=if o.p<1∨o.p>1000∨o.s<0∨o.s>9999 then 2 else if o.k<0∨o.k≥64 then 31 else if Il o then 0 else 7
@[simp] theorem vI(k:Nat)(l:List Int):bP k (l.map fun i=>[ae i]):=by
 rw[gE];intro r hr x hx;obtain⟨o,_,rfl⟩:=List.mem_map.1 hr;simp at hx;subst hx;trivial
/-! ### Pairs -/
/-! ### Plain laws -/
def Im(a b:Op5):Bool:=decide (a.s=b.s)||decide (a.e=b.s)||decide (a.s=b.e)||(decide (a.e=b.e)&&!decide (a.e=-1))
def MM(a o:Op5):Bool:=decide (o.s≤a.s)||Im a o
def KM(a o:Op5):Bool:=decide (a.p=o.p)&&!Ik a o
def KN(pre:List Op5)(o:Op5):Int:=if Dn o≠0 then Dn o else if pre.any (fun a=>MM a o)=true then 32 else if pre.any (fun a=>KM a o)=true then 33 else 0
def Hz(ops:List Op5)(i:Nat):Int:=KN (ops.take i) (ops.getD i default)
def chk(ops:List Op5):Int×Int:=
 if ops.length>5000 then(0,3)else match(List.range ops.length).find? (fun i=>decide (Hz ops i≠0))with
 |some i=>((i:Int),Hz ops i)
 |none=>((ops.length:Int),0)
/-! ### The document's answer -/
@[simp] theorem Je(r:Nat→Nat→PV)(l:List Int):ke r (l.map fun i=>[ae i])=l.map fun i=>[ae i]:=by
 rw[cd,List.map_map];congr 1
/-! ### Maps of one kind -/
def aT{α:Type}(f:α→PV)(l:List (Int×α)):List (Int×PV):=l.map fun p=>(p.1,f p.2)
def lk{α:Type}:List (Int×α)→Int→Option α
 |[],_=>none
 |(k,x)::r,n=>if k=n then some x else lk r n
def pt{α:Type}:List (Int×α)→Int→α→List (Int×α)
 |[],n,y=>[(n,y)]
 |(k,x)::r,n,y=>if k=n then(k,y)::r else(k,x)::pt r n y
theorem ip{α:Type}(f:α→PV):∀(l:List (Int×α))(k:Int),de (aT f l) k=(lk l k).map f
 |[],_=>rfl
 |(j,x)::r,k=>by
  have:=ip f r k;simp only[aT,List.map_cons,de,lk]at this⊢;split
  ·rfl
  ·exact this
theorem jt{α:Type}(f:α→PV):∀(l:List (Int×α))(k:Int)(y:α),gk (aT f l) k (f y)=aT f (pt l k y)
 |[],_,_=>rfl
 |(j,x)::r,k,y=>by
  have:=jt f r k y;simp only[aT,List.map_cons,gk,pt]at this⊢;split
  ·rfl
  ·rw[this];rfl
theorem bz{α:Type}:∀(l:List (Int×α))(k:Int)(y:α)(n:Int),lk (pt l k y) n=if k=n then some y else lk l n
 |[],k,y,n=>rfl
 |(j,x)::r,k,y,n=>by
  simp only[pt];split
  ·rename_i h;subst h;simp only[lk];split<;>rfl
  ·rename_i h;simp only[lk,bz r k y n];split
   ·rename_i h2;subst h2;rw[if_neg (fun e=>h e.symm)]
   ·rfl
def fI(n:Int):PV:=ae n
@[simp] theorem Md(l:List (Int×Int))(k:Int):(de (aT fI l) k).getD (ae 0)=ae ((lk l k).getD 0):=by
 rw[ip];cases lk l k<;>rfl
@[simp] theorem MN(l:List (Int×Int))(k n:Int):gk (aT fI l) k (ae n)=aT fI (pt l k n):=jt fI l k n
@[simp] theorem gy(n:Nat)(l:List (Int×Int)):ft n (aT fI l):=by
 rw[qg];intro r hr;obtain⟨p,_,rfl⟩:=List.mem_map.1 hr;trivial
@[simp] theorem KO{α:Type}(f:α→PV):aT f []=[]:=rfl
/-! ### What the maps hold -/
end Go.AX