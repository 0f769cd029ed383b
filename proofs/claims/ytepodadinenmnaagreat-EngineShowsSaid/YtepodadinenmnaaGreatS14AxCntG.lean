/-
  Facts on the types of the seat's program (written by facts.py).
  Contracts: the numbers of clauses (count, numbering, the document's answer).
  Contracts: operations (oper, the document's answer).
  Contracts: whether operations may be.
  Contracts: all clauses (count, the document's answer).
  Contracts: whether operations may be (oper.Check, by maps).
-/
import Derived.Test.YtepodadinenmnaaGreatAxXW
import Derived.Test.YtepodadinenmnaaGreatRows
namespace Go.AX
open Go.Proofs
@[simp] theorem O4:tk Tryz.prog 3=.int∧aK Tryz.prog 3=some (false,1)∧EY Tryz.prog 3=some .i64∧dr Tryz.prog 3=some [.lit (.int .i64 0)]∧tk Tryz.prog 4=.bool∧aK Tryz.prog 4=some (false,1)∧tk Tryz.prog 22=.slice∧aK Tryz.prog 22=some (false,1)∧bj Tryz.prog 22=some 1∧bH Tryz.prog 22=some (1,24)∧dw Tryz.prog 22=some [.lit (.slice none 0 0)]∧aK Tryz.prog 24=some (true,2)∧dr Tryz.prog 24=some [.lit (.int .i64 0),.lit (.slice none 0 0)]∧zeroV Tryz.prog 24=some [.lit (.int .i64 0),.lit (.slice none 0 0)]∧bInfo Tryz.prog 24=some [(0,1),(1,1)]∧aK Tryz.prog 26=some (true,3)∧zeroV Tryz.prog 26=some [.lit (.int .i64 0),.lit (.int .i64 0),.lit (.int .i64 0)]∧bInfo Tryz.prog 26=some [(0,1),(1,1),(2,1)]∧tk Tryz.prog 27=.slice∧aK Tryz.prog 27=some (false,1):=by and_intros<;>kernel_rfl
@[simp] theorem Nl:bj Tryz.prog 27=some 1∧bH Tryz.prog 27=some (1,8)∧dr Tryz.prog 27=some [.lit (.slice none 0 0)]∧dw Tryz.prog 27=some [.lit (.int .i64 0)]∧aK Tryz.prog 33=some (false,1)∧dr Tryz.prog 33=some [.lit .nilFunc]∧tk Tryz.prog 35=.slice∧aK Tryz.prog 35=some (false,1)∧bj Tryz.prog 35=some 1∧bH Tryz.prog 35=some (1,1)∧dw Tryz.prog 35=some [.lit (.bool false)]∧tk Tryz.prog 37=.ptr∧tk Tryz.prog 48=.int∧tk Tryz.prog 56=.slice∧aK Tryz.prog 56=some (false,1)∧bj Tryz.prog 56=some 4∧bH Tryz.prog 56=some (4,64)∧dw Tryz.prog 56=some [.lit (.int .i64 0),.lit (.int .i64 0),.lit (.slice none 0 0),.lit (.slice none 0 0)]∧tk Tryz.prog 65=.ptr∧aK Tryz.prog 65=some (false,1):=by and_intros<;>kernel_rfl
@[simp] theorem Nm:aK Tryz.prog 71=some (true,4)∧dr Tryz.prog 71=some [.lit (.int .i64 0),.lit (.int .i64 0),.lit (.slice none 0 0),.lit (.slice none 0 0)]∧zeroV Tryz.prog 71=some [.lit (.int .i64 0),.lit (.int .i64 0),.lit (.slice none 0 0),.lit (.slice none 0 0)]∧bInfo Tryz.prog 71=some [(0,1),(1,1),(2,1),(3,1)]∧tk Tryz.prog 86=.ptr∧aK Tryz.prog 86=some (false,1)∧tk Tryz.prog 87=.ptr∧aK Tryz.prog 87=some (false,1)∧tk Tryz.prog 88=.ptr∧aK Tryz.prog 88=some (false,1)∧tk Tryz.prog 89=.ptr∧aK Tryz.prog 89=some (false,1)∧tk Tryz.prog 90=.map∧aK Tryz.prog 90=some (false,1)∧dr Tryz.prog 90=some [.lit (.map none)]∧ju Tryz.prog 90=true∧nv Tryz.prog 90=some (.lit (.int .i64 0))∧zeroV Tryz.prog 92=some [.lit (.pointer none),.lit (.int .i64 0),.lit (.slice none 0 0),.lit (.pointer none),.lit (.pointer none),.lit (.pointer none),.lit (.slice none 0 0),.lit (.int .i64 0),.lit (.int .i64 0),.lit (.int .i64 0),.lit (.int .i64 0),.lit (.int .i64 0),.lit (.bool false),.lit (.int .i64 0),.lit (.bool false),.lit (.slice none 0 0),.lit (.map none)]∧bInfo Tryz.prog 92=some [(0,1),(1,2),(3,1),(4,1),(5,1),(6,1),(7,1),(8,1),(9,1),(10,1),(11,1),(12,1),(13,1),(14,1),(15,1),(16,1)]∧tk Tryz.prog 104=.int:=by and_intros<;>kernel_rfl
@[simp] theorem Mp:EY Tryz.prog 104=some .u64∧tk Tryz.prog 112=.map∧aK Tryz.prog 112=some (false,1)∧ju Tryz.prog 112=true∧nv Tryz.prog 112=some (.lit (.slice none 0 0))∧zeroV Tryz.prog 114=some [.lit (.map none),.lit (.int .i64 0),.lit (.bool false)]∧bInfo Tryz.prog 114=some [(0,1),(1,1),(2,1)]∧aK Tryz.prog 137=some (false,1)∧dr Tryz.prog 137=some [.lit .nilFunc]∧tk Tryz.prog 148=.slice∧bj Tryz.prog 148=some 4∧bH Tryz.prog 148=some (4,32)∧dw Tryz.prog 148=some [.lit (.int .i64 0),.lit (.int .i64 0),.lit (.int .i64 0),.lit (.bool false)]∧tk Tryz.prog 151=.slice∧aK Tryz.prog 151=some (false,1)∧bj Tryz.prog 151=some 4∧bH Tryz.prog 151=some (4,32)∧dw Tryz.prog 151=some [.lit (.int .i64 0),.lit (.int .i64 0),.lit (.int .i64 0),.lit (.int .i64 0)]∧zeroV Tryz.prog 153=some [.lit (.slice none 0 0),.lit (.slice none 0 0),.lit (.slice none 0 0),.lit (.bool false)]∧bInfo Tryz.prog 153=some [(0,1),(1,1),(2,1),(3,1)]:=by and_intros<;>kernel_rfl
@[simp] theorem Mq:zeroV Tryz.prog 158=some [.lit (.slice none 0 0),.lit (.slice none 0 0),.lit (.slice none 0 0)]∧bInfo Tryz.prog 158=some [(0,1),(1,1),(2,1)]∧zeroV Tryz.prog 160=some [.lit (.slice none 0 0),.lit (.map none)]∧bInfo Tryz.prog 160=some [(0,1),(1,1)]∧tk Tryz.prog 162=.map∧aK Tryz.prog 162=some (false,1)∧ju Tryz.prog 162=true∧nv Tryz.prog 162=some (.lit (.pointer none))∧zeroV Tryz.prog 164=some [.lit (.pointer none),.lit (.pointer none),.lit (.map none),.lit (.map none),.lit (.map none),.lit (.int .i64 0),.lit (.slice none 0 0)]∧bInfo Tryz.prog 164=some [(0,1),(1,1),(2,1),(3,1),(4,1),(5,1),(6,1)]∧aK Tryz.prog 166=some (false,1)∧dr Tryz.prog 166=some [.lit .nilFunc]∧zeroV Tryz.prog 187=some [.lit (.pointer none),.lit (.pointer none),.lit (.map none),.lit (.slice none 0 0),.lit (.int .i64 0)]∧bInfo Tryz.prog 187=some [(0,1),(1,1),(2,1),(3,1),(4,1)]∧aK Tryz.prog 190=some (false,1)∧dr Tryz.prog 190=some [.lit .nilFunc]∧zeroV Tryz.prog 194=some [.lit (.pointer none),.lit (.pointer none),.lit (.map none),.lit (.map none),.lit (.bool false)]∧bInfo Tryz.prog 194=some [(0,1),(1,1),(2,1),(3,1),(4,1)]∧aK Tryz.prog 196=some (true,4)∧dr Tryz.prog 196=some [.lit (.int .i64 0),.lit (.int .i64 0),.lit (.int .i64 0),.lit (.int .i64 0)]:=by and_intros<;>kernel_rfl
@[simp] theorem Mr:zeroV Tryz.prog 196=some [.lit (.int .i64 0),.lit (.int .i64 0),.lit (.int .i64 0),.lit (.int .i64 0)]∧bInfo Tryz.prog 196=some [(0,1),(1,1),(2,1),(3,1)]∧aK Tryz.prog 202=some (true,3)∧bj Tryz.prog 202=none∧lJ Tryz.prog 202=some (3,1)∧dr Tryz.prog 202=some [.lit (.int .i64 0),.lit (.int .i64 0),.lit (.int .i64 0)]∧zeroV Tryz.prog 205=some [.lit (.int .i64 0),.lit (.int .i64 0),.lit (.int .i64 0),.lit (.bool false)]∧bInfo Tryz.prog 205=some [(0,1),(1,1),(2,1),(3,1)]∧tk Tryz.prog 213=.ptr∧aK Tryz.prog 221=some (true,2)∧bj Tryz.prog 221=none∧lJ Tryz.prog 221=some (2,1)∧zeroV Tryz.prog 221=some [.lit (.int .i64 0),.lit (.int .i64 0)]∧bInfo Tryz.prog 221=some [(0,1),(1,1)]∧vm Tryz.prog 221=some (2,false,1)∧zeroV Tryz.prog 223=some [.lit (.slice none 0 0),.lit (.int .i64 0),.lit (.int .i64 0)]∧bInfo Tryz.prog 223=some [(0,1),(1,2)]∧aK Tryz.prog 228=some (false,1)∧dr Tryz.prog 228=some [.lit (.map none)]∧ju Tryz.prog 228=true:=by and_intros<;>kernel_rfl
@[simp] theorem Ms:nv Tryz.prog 228=some (.lit (.slice none 0 0))∧tk Tryz.prog 243=.int∧aK Tryz.prog 265=some (true,2)∧dr Tryz.prog 265=some [.lit (.bool false),.lit (.slice none 0 0)]:=by and_intros<;>kernel_rfl
@[simp] theorem O5:bB Tryz.prog 24 0=some 0:=by kernel_rfl
@[simp] theorem O6:bB Tryz.prog 24 1=some 1:=by kernel_rfl
@[simp] theorem O7:bB Tryz.prog 26 1=some 1:=by kernel_rfl
@[simp] theorem O8:bB Tryz.prog 26 2=some 2:=by kernel_rfl
@[simp] theorem O9:bB Tryz.prog 71 0=some 0:=by kernel_rfl
@[simp] theorem Pa:bB Tryz.prog 71 1=some 1:=by kernel_rfl
@[simp] theorem Pb:bB Tryz.prog 71 2=some 2:=by kernel_rfl
@[simp] theorem Pc:bB Tryz.prog 71 3=some 3:=by kernel_rfl
@[simp] theorem Pd:bB Tryz.prog 92 0=some 0:=by kernel_rfl
@[simp] theorem Pe:bB Tryz.prog 92 1=some 1:=by kernel_rfl
@[simp] theorem Pf:bB Tryz.prog 92 2=some 3:=by kernel_rfl
@[simp] theorem Pg:bB Tryz.prog 92 3=some 4:=by kernel_rfl
@[simp] theorem Ph:bB Tryz.prog 92 4=some 5:=by kernel_rfl
@[simp] theorem Pi:bB Tryz.prog 92 5=some 6:=by kernel_rfl
@[simp] theorem Pj:bB Tryz.prog 92 6=some 7:=by kernel_rfl
@[simp] theorem Pk:bB Tryz.prog 92 7=some 8:=by kernel_rfl
@[simp] theorem Pm:bB Tryz.prog 92 8=some 9:=by kernel_rfl
@[simp] theorem Pn:bB Tryz.prog 92 9=some 10:=by kernel_rfl
@[simp] theorem Nn:bB Tryz.prog 92 10=some 11:=by kernel_rfl
@[simp] theorem No:bB Tryz.prog 92 11=some 12:=by kernel_rfl
@[simp] theorem Np:bB Tryz.prog 92 12=some 13:=by kernel_rfl
@[simp] theorem Nq:bB Tryz.prog 92 13=some 14:=by kernel_rfl
@[simp] theorem Nr:bB Tryz.prog 92 14=some 15:=by kernel_rfl
@[simp] theorem Ns:bB Tryz.prog 92 15=some 16:=by kernel_rfl
@[simp] theorem Nt:bB Tryz.prog 114 0=some 0:=by kernel_rfl
@[simp] theorem Nu:bB Tryz.prog 114 1=some 1:=by kernel_rfl
@[simp] theorem Nv:bB Tryz.prog 114 2=some 2:=by kernel_rfl
@[simp] theorem Nw:bB Tryz.prog 153 0=some 0:=by kernel_rfl
@[simp] theorem Nx:bB Tryz.prog 153 1=some 1:=by kernel_rfl
@[simp] theorem Ny:bB Tryz.prog 153 2=some 2:=by kernel_rfl
@[simp] theorem Nz:bB Tryz.prog 153 3=some 3:=by kernel_rfl
@[simp] theorem NA:bB Tryz.prog 158 0=some 0:=by kernel_rfl
@[simp] theorem NB:bB Tryz.prog 158 1=some 1:=by kernel_rfl
@[simp] theorem NC:bB Tryz.prog 158 2=some 2:=by kernel_rfl
@[simp] theorem ND:bB Tryz.prog 160 0=some 0:=by kernel_rfl
@[simp] theorem NE:bB Tryz.prog 160 1=some 1:=by kernel_rfl
@[simp] theorem NF:bB Tryz.prog 164 0=some 0:=by kernel_rfl
@[simp] theorem NG:bB Tryz.prog 164 1=some 1:=by kernel_rfl
@[simp] theorem NH:bB Tryz.prog 164 2=some 2:=by kernel_rfl
@[simp] theorem NJ:bB Tryz.prog 164 3=some 3:=by kernel_rfl
@[simp] theorem NK:bB Tryz.prog 164 4=some 4:=by kernel_rfl
@[simp] theorem NL:bB Tryz.prog 164 5=some 5:=by kernel_rfl
@[simp] theorem NM:bB Tryz.prog 164 6=some 6:=by kernel_rfl
@[simp] theorem NN:bB Tryz.prog 187 0=some 0:=by kernel_rfl
@[simp] theorem NO:bB Tryz.prog 187 1=some 1:=by kernel_rfl
@[simp] theorem NP:bB Tryz.prog 187 2=some 2:=by kernel_rfl
@[simp] theorem NQ:bB Tryz.prog 187 3=some 3:=by kernel_rfl
@[simp] theorem NR:bB Tryz.prog 187 4=some 4:=by kernel_rfl
@[simp] theorem NT:bB Tryz.prog 194 0=some 0:=by kernel_rfl
@[simp] theorem NU:bB Tryz.prog 194 1=some 1:=by kernel_rfl
@[simp] theorem NV:bB Tryz.prog 194 2=some 2:=by kernel_rfl
@[simp] theorem NW:bB Tryz.prog 194 3=some 3:=by kernel_rfl
@[simp] theorem NX:bB Tryz.prog 194 4=some 4:=by kernel_rfl
@[simp] theorem NY:bB Tryz.prog 196 0=some 0:=by kernel_rfl
@[simp] theorem NZ:bB Tryz.prog 196 1=some 1:=by kernel_rfl
@[simp] theorem N0:bB Tryz.prog 196 2=some 2:=by kernel_rfl
@[simp] theorem N2:bB Tryz.prog 196 3=some 3:=by kernel_rfl
@[simp] theorem N3:bB Tryz.prog 223 0=some 0:=by kernel_rfl
@[simp] theorem N4:bB Tryz.prog 223 1=some 1:=by kernel_rfl
@[simp] theorem N5:bB Tryz.prog 265 0=some 0:=by kernel_rfl
@[simp] theorem N6:bB Tryz.prog 265 1=some 1:=by kernel_rfl
theorem aD:Tryz.prog.follows .mixedOrders=true:=by kernel_rfl
/-! ### Plain laws -/
/-! ### Walks -/
structure Op5 where
  p:Int
  k:Int
  s:Int
  e:Int
  r:Int
  deriving DecidableEq,Inhabited
def Lf(a b:Op5):Bool:=decide (a.e≥0)&&decide (a.e<b.s)
def Lg(o:Op5):Bool:=if o.e=-1 then decide (o.r=-1)else decide (o.e>o.s)&&decide (o.e<=9999)&&decide (o.r≥0)&&decide (o.r<=1000000)
def FQ(o:Op5):Int:=if o.p<1∨o.p>1000∨o.s<0∨o.s>9999 then 2 else if o.k<0∨o.k≥64 then 31 else if Lg o then 0 else 7
@[simp] theorem xx(k:Nat)(l:List Int):bQ k (l.map λi=>[af i]):=by
 rw[iw];intro r a x hx;obtain⟨o,_,rfl⟩:=Qk.1 a;simp at hx;subst hx;trivial
/-! ### Pairs -/
/-! ### Plain laws -/
def Lh(a b:Op5):Bool:=decide (a.s=b.s)||decide (a.e=b.s)||decide (a.s=b.e)||(decide (a.e=b.e)&&!decide (a.e=-1))
def PG(a o:Op5):Bool:=decide (o.s<=a.s)||Lh a o
def N7(a o:Op5):Bool:=decide (a.p=o.p)&&!Lf a o
def N8(pre:List Op5)(o:Op5):Int:=if FQ o≠0 then FQ o else if pre.any (λa=>PG a o)=true then 32 else if pre.any (λa=>N7 a o)=true then 33 else 0
def KA(ops:List Op5)(i:Nat):Int:=N8 (ops.take i) (ops.getD i default)
def chk(ops:List Op5):Int×Int:=
 if ops.length>5000 then(0,3)else match(List.range ops.length).find? (λi=>decide (KA ops i≠0))with
 |some i=>((i:Int),KA ops i)
 |none=>((ops.length:Int),0)
/-! ### The document's answer -/
@[simp] theorem Mt(r:Nat->Nat->PV)(l:List Int):lz r (l.map λi=>[af i])=l.map λi=>[af i]:=by
 rw[cb,Ra];congr 1
@[simp] theorem N9(l:List Int):BI (l.map λi=>[af i]):=by
 rw[om];intro r a;obtain⟨o,_,rfl⟩:=Qk.1 a;exact⟨trivial,trivial⟩
/-! ### Maps of one kind -/
def aC{α:Type}(f:α->PV)(l:List (Int×α)):List (Int×PV):=l.map λp=>(p.1,f p.2)
def lk{α:Type}:List (Int×α)->Int->Option α
 |[],_=>none
 |(k,x)::r,n=>if k=n then some x else lk r n
def pt{α:Type}:List (Int×α)->Int->α->List (Int×α)
 |[],n,y=>[(n,y)]
 |(k,x)::r,n,y=>if k=n then(k,y)::r else(k,x)::pt r n y
theorem fq{α:Type}(f:α->PV):∀(l:List (Int×α))(k:Int),c9 (aC f l) k=(lk l k).map f
 |[],_=>rfl
 |(j,x)::r,k=>by
  have:=fq f r k;simp only[aC,Qw,c9,lk]at this⊢;split
  .rfl
  .exact this
theorem ge{α:Type}(f:α->PV):∀(l:List (Int×α))(k:Int)(y:α),fY (aC f l) k (f y)=aC f (pt l k y)
 |[],_,_=>rfl
 |(j,x)::r,k,y=>by
  have:=ge f r k y;simp only[aC,Qw,fY,pt]at this⊢;split
  .rfl
  .rw[this];rfl
theorem bD{α:Type}:∀(l:List (Int×α))(k:Int)(y:α)(n:Int),lk (pt l k y) n=if k=n then some y else lk l n
 |[],k,y,n=>rfl
 |(j,x)::r,k,y,n=>by
  simp only[pt];split
  .rename_i h;subst h;simp only[lk];split<;>rfl
  .rename_i h;simp only[lk,bD r k y n];split
   .rename_i a;subst a;rw[Qa (λe=>h e.symm)]
   .rfl
def fI(n:Int):PV:=af n
@[simp] theorem Po(l:List (Int×Int))(k:Int):(c9 (aC fI l) k).getD (af 0)=af ((lk l k).getD 0):=by
 rw[fq];cases lk l k<;>rfl
@[simp] theorem PH(l:List (Int×Int))(k n:Int):fY (aC fI l) k (af n)=aC fI (pt l k n):=ge fI l k n
@[simp] theorem ik(n:Nat)(l:List (Int×Int)):eU n (aC fI l):=by
 rw[rn];intro r a;obtain⟨p,_,rfl⟩:=Qk.1 a;trivial
@[simp] theorem Oa{α:Type}(f:α->PV):aC f []=[]:=rfl
/-! ### What the maps hold -/
end Go.AX