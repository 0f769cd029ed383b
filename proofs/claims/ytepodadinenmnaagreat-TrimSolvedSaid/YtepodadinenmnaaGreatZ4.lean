/-
  Facts on the types of the seat's program (written by facts.py); and what follows.
-/
import Derived.Test.YtepodadinenmnaaGreatZ3
import Derived.Test.YtepodadinenmnaaGreatRows
namespace Go.AX
open Go.Proofs Go.Proofs.Tryz
@[simp] theorem Ul:tk prog 3=.int∧aZ prog 3=some (false,1)∧JS prog 3=some .i64∧dL prog 3=some [.lit (.int .i64 0)]∧tk prog 4=.bool∧aZ prog 4=some (false,1)∧dL prog 4=some [.lit (.bool false)]∧tk prog 22=.slice∧aZ prog 22=some (false,1)∧bU prog 22=some 1∧cF prog 22=some (1,24)∧eq prog 22=some [.lit (.slice none 0 0)]∧aZ prog 24=some (true,2)∧dL prog 24=some [.lit (.int .i64 0),.lit (.slice none 0 0)]∧zeroV prog 24=some [.lit (.int .i64 0),.lit (.slice none 0 0)]∧bInfo prog 24=some [(0,1),(1,1)]∧aZ prog 26=some (true,3)∧tk prog 27=.slice∧aZ prog 27=some (false,1)∧bU prog 27=some 1:=by and_intros<;>kernel_rfl
@[simp] theorem Sm:cF prog 27=some (1,8)∧dL prog 27=some [.lit (.slice none 0 0)]∧eq prog 27=some [.lit (.int .i64 0)]∧aZ prog 33=some (false,1)∧dL prog 33=some [.lit .nilFunc]∧tk prog 35=.slice∧aZ prog 35=some (false,1)∧bU prog 35=some 1∧cF prog 35=some (1,1)∧eq prog 35=some [.lit (.bool false)]∧tk prog 37=.ptr∧aZ prog 37=some (false,1)∧tk prog 48=.int∧tk prog 56=.slice∧aZ prog 56=some (false,1)∧bU prog 56=some 4∧cF prog 56=some (4,64)∧eq prog 56=some [.lit (.int .i64 0),.lit (.int .i64 0),.lit (.slice none 0 0),.lit (.slice none 0 0)]∧aZ prog 58=some (true,4)∧dL prog 58=some [.lit (.int .i64 0),.lit (.int .i64 0),.lit (.slice none 0 0),.lit (.slice none 0 0)]:=by and_intros<;>kernel_rfl
@[simp] theorem Sn:zeroV prog 58=some [.lit (.int .i64 0),.lit (.int .i64 0),.lit (.slice none 0 0),.lit (.slice none 0 0)]∧bInfo prog 58=some [(0,1),(1,1),(2,1),(3,1)]∧tk prog 65=.ptr∧aZ prog 65=some (false,1)∧aZ prog 71=some (true,4)∧dL prog 71=some [.lit (.int .i64 0),.lit (.int .i64 0),.lit (.slice none 0 0),.lit (.slice none 0 0)]∧zeroV prog 71=some [.lit (.int .i64 0),.lit (.int .i64 0),.lit (.slice none 0 0),.lit (.slice none 0 0)]∧bInfo prog 71=some [(0,1),(1,1),(2,1),(3,1)]∧tk prog 86=.ptr∧aZ prog 86=some (false,1)∧tk prog 87=.ptr∧aZ prog 87=some (false,1)∧tk prog 88=.ptr∧aZ prog 88=some (false,1)∧tk prog 89=.ptr∧aZ prog 89=some (false,1)∧tk prog 90=.map∧aZ prog 90=some (false,1)∧dL prog 90=some [.lit (.map none)]∧lI prog 90=true:=by and_intros<;>kernel_rfl
@[simp] theorem So:p8 prog 90=some (.lit (.int .i64 0))∧zeroV prog 92=some [.lit (.pointer none),.lit (.int .i64 0),.lit (.slice none 0 0),.lit (.pointer none),.lit (.pointer none),.lit (.pointer none),.lit (.slice none 0 0),.lit (.int .i64 0),.lit (.int .i64 0),.lit (.int .i64 0),.lit (.int .i64 0),.lit (.int .i64 0),.lit (.bool false),.lit (.int .i64 0),.lit (.bool false),.lit (.slice none 0 0),.lit (.map none)]∧bInfo prog 92=some [(0,1),(1,2),(3,1),(4,1),(5,1),(6,1),(7,1),(8,1),(9,1),(10,1),(11,1),(12,1),(13,1),(14,1),(15,1),(16,1)]∧tk prog 104=.int∧JS prog 104=some .u64∧tk prog 112=.map∧aZ prog 112=some (false,1)∧lI prog 112=true∧p8 prog 112=some (.lit (.slice none 0 0))∧zeroV prog 114=some [.lit (.map none),.lit (.int .i64 0),.lit (.bool false)]∧bInfo prog 114=some [(0,1),(1,1),(2,1)]∧aZ prog 137=some (false,1)∧dL prog 137=some [.lit .nilFunc]∧tk prog 148=.slice∧bU prog 148=some 4∧cF prog 148=some (4,32)∧eq prog 148=some [.lit (.int .i64 0),.lit (.int .i64 0),.lit (.int .i64 0),.lit (.bool false)]∧tk prog 151=.slice∧aZ prog 151=some (false,1)∧bU prog 151=some 4:=by and_intros<;>kernel_rfl
@[simp] theorem Rq:cF prog 151=some (4,32)∧eq prog 151=some [.lit (.int .i64 0),.lit (.int .i64 0),.lit (.int .i64 0),.lit (.int .i64 0)]∧zeroV prog 153=some [.lit (.slice none 0 0),.lit (.slice none 0 0),.lit (.slice none 0 0),.lit (.bool false)]∧bInfo prog 153=some [(0,1),(1,1),(2,1),(3,1)]∧zeroV prog 158=some [.lit (.slice none 0 0),.lit (.slice none 0 0),.lit (.slice none 0 0)]∧bInfo prog 158=some [(0,1),(1,1),(2,1)]∧zeroV prog 160=some [.lit (.slice none 0 0),.lit (.map none)]∧bInfo prog 160=some [(0,1),(1,1)]∧tk prog 162=.map∧aZ prog 162=some (false,1)∧lI prog 162=true∧p8 prog 162=some (.lit (.pointer none))∧zeroV prog 164=some [.lit (.pointer none),.lit (.pointer none),.lit (.map none),.lit (.map none),.lit (.map none),.lit (.int .i64 0),.lit (.slice none 0 0)]∧bInfo prog 164=some [(0,1),(1,1),(2,1),(3,1),(4,1),(5,1),(6,1)]∧aZ prog 166=some (false,1)∧dL prog 166=some [.lit .nilFunc]∧zeroV prog 187=some [.lit (.pointer none),.lit (.pointer none),.lit (.map none),.lit (.slice none 0 0),.lit (.int .i64 0)]∧bInfo prog 187=some [(0,1),(1,1),(2,1),(3,1),(4,1)]∧aZ prog 190=some (false,1)∧dL prog 190=some [.lit .nilFunc]:=by and_intros<;>kernel_rfl
@[simp] theorem Rr:zeroV prog 194=some [.lit (.pointer none),.lit (.pointer none),.lit (.map none),.lit (.map none),.lit (.bool false)]∧bInfo prog 194=some [(0,1),(1,1),(2,1),(3,1),(4,1)]∧aZ prog 196=some (true,4)∧dL prog 196=some [.lit (.int .i64 0),.lit (.int .i64 0),.lit (.int .i64 0),.lit (.int .i64 0)]∧zeroV prog 196=some [.lit (.int .i64 0),.lit (.int .i64 0),.lit (.int .i64 0),.lit (.int .i64 0)]∧bInfo prog 196=some [(0,1),(1,1),(2,1),(3,1)]∧aZ prog 202=some (true,3)∧bU prog 202=none∧nH prog 202=some (3,1)∧dL prog 202=some [.lit (.int .i64 0),.lit (.int .i64 0),.lit (.int .i64 0)]∧aZ prog 205=some (true,4)∧dL prog 205=some [.lit (.int .i64 0),.lit (.int .i64 0),.lit (.int .i64 0),.lit (.bool false)]∧zeroV prog 205=some [.lit (.int .i64 0),.lit (.int .i64 0),.lit (.int .i64 0),.lit (.bool false)]∧bInfo prog 205=some [(0,1),(1,1),(2,1),(3,1)]∧tk prog 213=.ptr∧aZ prog 221=some (true,2)∧bU prog 221=none∧nH prog 221=some (2,1)∧zeroV prog 221=some [.lit (.int .i64 0),.lit (.int .i64 0)]∧bInfo prog 221=some [(0,1),(1,1)]:=by and_intros<;>kernel_rfl
@[simp] theorem Rs:yS prog 221=some (2,false,1)∧zeroV prog 223=some [.lit (.slice none 0 0),.lit (.int .i64 0),.lit (.int .i64 0)]∧bInfo prog 223=some [(0,1),(1,2)]∧aZ prog 228=some (false,1)∧dL prog 228=some [.lit (.map none)]∧lI prog 228=true∧p8 prog 228=some (.lit (.slice none 0 0))∧tk prog 243=.int∧aZ prog 265=some (true,2)∧dL prog 265=some [.lit (.bool false),.lit (.slice none 0 0)]:=by and_intros<;>kernel_rfl
@[simp] theorem Um:b5 prog 24 0=some 0:=by kernel_rfl
@[simp] theorem Un:b5 prog 24 1=some 1:=by kernel_rfl
@[simp] theorem Uo:b5 prog 26 0=some 0:=by kernel_rfl
@[simp] theorem Up:b5 prog 26 1=some 1:=by kernel_rfl
@[simp] theorem Uq:b5 prog 26 2=some 2:=by kernel_rfl
@[simp] theorem Ur:b5 prog 58 0=some 0:=by kernel_rfl
@[simp] theorem Us:b5 prog 58 3=some 3:=by kernel_rfl
@[simp] theorem Ut:b5 prog 71 0=some 0:=by kernel_rfl
@[simp] theorem Uu:b5 prog 71 1=some 1:=by kernel_rfl
@[simp] theorem Uv:b5 prog 71 2=some 2:=by kernel_rfl
@[simp] theorem Uw:b5 prog 71 3=some 3:=by kernel_rfl
@[simp] theorem Ux:b5 prog 92 0=some 0:=by kernel_rfl
@[simp] theorem Uy:b5 prog 92 1=some 1:=by kernel_rfl
@[simp] theorem Uz:b5 prog 92 2=some 3:=by kernel_rfl
@[simp] theorem UA:b5 prog 92 3=some 4:=by kernel_rfl
@[simp] theorem UB:b5 prog 92 4=some 5:=by kernel_rfl
@[simp] theorem UC:b5 prog 92 5=some 6:=by kernel_rfl
@[simp] theorem UD:b5 prog 92 6=some 7:=by kernel_rfl
@[simp] theorem UE:b5 prog 92 7=some 8:=by kernel_rfl
@[simp] theorem UF:b5 prog 92 8=some 9:=by kernel_rfl
@[simp] theorem UG:b5 prog 92 9=some 10:=by kernel_rfl
@[simp] theorem Sp:b5 prog 92 10=some 11:=by kernel_rfl
@[simp] theorem Sq:b5 prog 92 11=some 12:=by kernel_rfl
@[simp] theorem Sr:b5 prog 92 12=some 13:=by kernel_rfl
@[simp] theorem Ss:b5 prog 92 13=some 14:=by kernel_rfl
@[simp] theorem Su:b5 prog 92 14=some 15:=by kernel_rfl
@[simp] theorem Sv:b5 prog 92 15=some 16:=by kernel_rfl
@[simp] theorem Sw:b5 prog 114 0=some 0:=by kernel_rfl
@[simp] theorem Sx:b5 prog 114 1=some 1:=by kernel_rfl
@[simp] theorem Sy:b5 prog 114 2=some 2:=by kernel_rfl
@[simp] theorem Sz:b5 prog 153 0=some 0:=by kernel_rfl
@[simp] theorem SA:b5 prog 153 1=some 1:=by kernel_rfl
@[simp] theorem SB:b5 prog 153 2=some 2:=by kernel_rfl
@[simp] theorem SC:b5 prog 153 3=some 3:=by kernel_rfl
@[simp] theorem SD:b5 prog 158 0=some 0:=by kernel_rfl
@[simp] theorem SE:b5 prog 158 1=some 1:=by kernel_rfl
@[simp] theorem SF:b5 prog 158 2=some 2:=by kernel_rfl
@[simp] theorem SG:b5 prog 160 0=some 0:=by kernel_rfl
@[simp] theorem SH:b5 prog 160 1=some 1:=by kernel_rfl
@[simp] theorem SI:b5 prog 164 0=some 0:=by kernel_rfl
@[simp] theorem SJ:b5 prog 164 1=some 1:=by kernel_rfl
@[simp] theorem SM:b5 prog 164 2=some 2:=by kernel_rfl
@[simp] theorem SN:b5 prog 164 3=some 3:=by kernel_rfl
@[simp] theorem SO:b5 prog 164 4=some 4:=by kernel_rfl
@[simp] theorem SQ:b5 prog 164 5=some 5:=by kernel_rfl
@[simp] theorem SR:b5 prog 164 6=some 6:=by kernel_rfl
@[simp] theorem SS:b5 prog 187 0=some 0:=by kernel_rfl
@[simp] theorem ST:b5 prog 187 1=some 1:=by kernel_rfl
@[simp] theorem SU:b5 prog 187 2=some 2:=by kernel_rfl
@[simp] theorem SW:b5 prog 187 3=some 3:=by kernel_rfl
@[simp] theorem SX:b5 prog 187 4=some 4:=by kernel_rfl
@[simp] theorem SY:b5 prog 194 0=some 0:=by kernel_rfl
@[simp] theorem SZ:b5 prog 194 1=some 1:=by kernel_rfl
@[simp] theorem S4:b5 prog 194 2=some 2:=by kernel_rfl
@[simp] theorem S5:b5 prog 194 3=some 3:=by kernel_rfl
@[simp] theorem S6:b5 prog 194 4=some 4:=by kernel_rfl
@[simp] theorem S7:b5 prog 196 0=some 0:=by kernel_rfl
@[simp] theorem S8:b5 prog 196 1=some 1:=by kernel_rfl
@[simp] theorem S9:b5 prog 196 2=some 2:=by kernel_rfl
@[simp] theorem Ta:b5 prog 196 3=some 3:=by kernel_rfl
@[simp] theorem Tc:b5 prog 205 0=some 0:=by kernel_rfl
@[simp] theorem Td:b5 prog 205 1=some 1:=by kernel_rfl
@[simp] theorem Te:b5 prog 205 2=some 2:=by kernel_rfl
@[simp] theorem Tf:b5 prog 205 3=some 3:=by kernel_rfl
@[simp] theorem Tg:b5 prog 223 0=some 0:=by kernel_rfl
@[simp] theorem Th:b5 prog 223 1=some 1:=by kernel_rfl
@[simp] theorem Ti:b5 prog 265 0=some 0:=by kernel_rfl
@[simp] theorem Tj:b5 prog 265 1=some 1:=by kernel_rfl
theorem aP:Tryz.prog.follows .mixedOrders=true:=by kernel_rfl
structure Op5 where
  p:Int
  k:Int
  s:Int
  e:Int
  r:Int
  deriving DecidableEq,Inhabited
def Qu(a b:Op5):Bool:=decide (a.e≥0)&&decide (a.e<b.s)
def Qv(o:Op5):Bool:=if o.e=-1 then decide (o.r=-1)else decide (o.e>o.s)&&decide (o.e<=9999)&&decide (o.r≥0)&&decide (o.r<=1000000)
def KE(o:Op5):Int:=if o.p<1∨o.p>1000∨o.s<0∨o.s>9999 then 2 else if o.k<0∨o.k≥64 then 31 else if Qv o then 0 else 7
@[simp] theorem A7(k:Nat)(l:af):bV k (l.map λi=>[ak i]):=by
 rw[iC];intro r a x hx;obtain⟨o,_,rfl⟩:=VB.1 a;simp at hx;subst hx;trivial
def Qw(a b:Op5):Bool:=decide (a.s=b.s)||decide (a.e=b.s)||decide (a.s=b.e)||(decide (a.e=b.e)&&!decide (a.e=-1))
def U0(a o:Op5):Bool:=decide (o.s<=a.s)||Qw a o
def Tk(a o:Op5):Bool:=decide (a.p=o.p)&&!Qu a o
def Tl(pre:List Op5)(o:Op5):Int:=if KE o≠0 then KE o else if pre.any (λa=>U0 a o)=true then 32 else if pre.any (λa=>Tk a o)=true then 33 else 0
def P0(ops:List Op5)(i:Nat):Int:=Tl (ops.take i) (ops.getD i default)
def chk(ops:List Op5):Int×Int:=
 if ops.length>5000 then(0,3)else match(List.range ops.length).find? (λi=>decide (P0 ops i≠0))with
 |some i=>((i:Int),P0 ops i)
 |none=>((ops.length:Int),0)
@[simp] theorem Rt(r:Nat->Nat->PV)(l:af):mA r (l.map λi=>[ak i])=l.map λi=>[ak i]:=by
 rw[cN,Wo];congr 1
@[simp] theorem Tm(l:af):Da (l.map λi=>[ak i]):=by
 rw[qS];intro r a;obtain⟨o,_,rfl⟩:=VB.1 a;exact⟨trivial,trivial⟩
def aL{α:Type}(f:α->PV)(l:List (Int×α)):dw:=l.map λp=>(p.1,f p.2)
def lk{α:Type}:List (Int×α)->Int->Option α
 |[],_=>none
 |(k,x)::r,n=>if k=n then some x else lk r n
def pt{α:Type}:List (Int×α)->Int->α->List (Int×α)
 |[],n,y=>[(n,y)]
 |(k,x)::r,n,y=>if k=n then(k,y)::r else(k,x)::pt r n y
theorem fH{α:Type}(f:α->PV):∀(l:List (Int×α))(k:Int),dJ (aL f l) k=(lk l k).map f
 |[],_=>rfl
 |(j,x)::r,k=>by
  have:=fH f r k;simp only[aL,VP,dJ,lk]at this⊢;split;rfl;exact this
theorem iG{α:Type}(f:α->PV):∀(l:List (Int×α))(k:Int)(y:α),iz (aL f l) k (f y)=aL f (pt l k y)
 |[],_,_=>rfl
 |(j,x)::r,k,y=>by
  have:=iG f r k y;simp only[aL,VP,iz,pt]at this⊢;split;rfl;rw[this];rfl
theorem cm{α:Type}:∀(l:List (Int×α))(k:Int)(y:α)(n:Int),lk (pt l k y) n=if k=n then some y else lk l n
 |[],k,y,n=>rfl
 |(j,x)::r,k,y,n=>by
  simp only[pt];split;rename_i h;subst h;simp only[lk];split<;>rfl;rename_i h;simp only[lk,cm r k y n];split;rename_i a;subst a;rw[Vs (λe=>h e.symm)];rfl
def fI(n:Int):PV:=ak n
@[simp] theorem UH(l:aS)(k:Int):(dJ (aL fI l) k).getD (ak 0)=ak ((lk l k).getD 0):=by
 rw[fH];cases lk l k<;>rfl
@[simp] theorem U1(l:aS)(k n:Int):iz (aL fI l) k (ak n)=aL fI (pt l k n):=iG fI l k n
@[simp] theorem jP(n:Nat)(l:aS):fB n (aL fI l):=by
 rw[uF];intro r a;obtain⟨p,_,rfl⟩:=VB.1 a;trivial
@[simp] theorem Tn{α:Type}(f:α->PV):aL f []=[]:=rfl
end Go.AX
