/-
  The library: a slice's values, as a sequence.
-/
import Derived.Test.YtepodadinenmnaaGreatZ4
import Derived.Test.YtepodadinenmnaaGreatZ8
namespace Go.AX
section
open Go.Proofs Go.Proofs.Tryz Go.RowKit Go.Shelf
attribute [local go_sem] Oper.semAt_some
set_option maxRecDepth 100000 in
set_option maxHeartbeats 2000000 in
theorem KK(F:Fence)(n:Nat)(h7:F.fn 218)(hro:F.round=none)(hn:1<=n)(l Bs n₀ b off cap:Nat)(zs:af)(hreach:zs.length*8<=140737488351232)(hb:b<n₀)(J:af->ab->Prop)
 (hY:∀pre x W,J pre W->pre.length<zs.length->YieldAt F (n -1) prog l #[.int .i64 x] W λe W'=>e=.returned (.bool true)∧J (pre++[x]) W'∧Below n₀ W W')
 (W:ab) (hBs:W.cell? ⟨Bs,0,none⟩=some (.slice (some ⟨b,off,none⟩) zs.length cap)) (hc:∀j,j<zs.length->W.cell? ⟨b,off+j,none⟩=some (.int .i64 (zs[j]?.getD 0))) (h0:J [] W):
 CallsIn F n prog 218 #[.func (.yield l) #[] #[],.pointer (some ⟨Bs,0,none⟩)] W λe W'=>(∃v,e=.returned v)∧J zs W':=by
 refine callsIn_of_wp func218 rfl h7 ?_ hro;simp only[Tryz.ntmps218,Ww,VR,List.length_nil,Nat.reduceAdd,Nat.reduceSub,YH,YI,Y6,YR,V8,Wh]
 gi_wp2
 gi_loopw [7] (λi wr=>∃k:Nat,k<=zs.length∧i=.int .i64 k∧J (zs.take k) wr∧Below n₀ W wr)
  (λi _=>match i with|.int _ q=>zs.length -q.toNat|_=>0)
 case atStart=>exact⟨0,VH _,rfl,h0,Below.refl _ _⟩
 case round=>
  obtain⟨k,hk,rfl,hJs,hnx⟩:=hrel;have hcx:k<zs.length->wr.cell? ⟨b,off+k,none⟩=some (.int .i64 (zs[k]?.getD 0)):=λh=>(hnx.cell (p:=⟨b,off+k,none⟩) hb).trans (hc k h);by_cases hlt:k<zs.length
  .obtain⟨fn,tmps,assign,body,hy,hR⟩:=hY _ zs[k] wr hJs (by rw[Vy];omega);have hcx':wr.cell? ⟨b,off+k,none⟩=some (.int .i64 zs[k]):=by simpa[hlt]using hcx hlt
   gi_wp2
   refine hR.mono ?_;rintro e W3 ⟨rfl,hJ3,hk3⟩
   gi_wp2
   go_roundw
   case rel=>exact⟨k+1,by omega,by simp;exact aC (by omega) (by omega),by rw[Ws hlt];exact hJ3,hnx.trans hk3⟩
   case measure=>simp;rw[aC (by omega) (by omega)];omega
  obtain rfl:k=zs.length:=by omega
  gi_wp2
  go_end0
  rw[VX]at hJs;exact⟨⟨_,rfl⟩,hJs⟩
set_option maxRecDepth 100000 in
set_option maxHeartbeats 1000000 in
theorem Ik(F:Fence)(n:Nat)(h7:F.fn 218)(hro:F.round=none)(l Bs cap:Nat)(p:Option Addr)(J:af->ab->Prop)(W:ab)(hBs:W.cell? ⟨Bs,0,none⟩=some (.slice p 0 cap))(h0:J [] W):
 CallsIn F n prog 218 #[.func (.yield l) #[] #[],.pointer (some ⟨Bs,0,none⟩)] W λe W'=>(∃v,e=.returned v)∧J [] W':=by
 refine callsIn_of_wp func218 rfl h7 ?_ hro;simp only[Tryz.ntmps218,Ww,VR,List.length_nil,Nat.reduceAdd,Nat.reduceSub,YH,YI,Y6,YR,V8,Wh]
 gi_wp2
 gi_loopw [7] (λi wr=>i=.int .i64 0∧J [] wr) (λ_ _=>0)
 case atStart=>exact⟨rfl,h0⟩
 case round=>
  obtain⟨rfl,hJs⟩:=hrel
  gi_wp2
  go_end0
  exact⟨⟨_,rfl⟩,hJs⟩
end
end Go.AX
