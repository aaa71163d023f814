/- Part of TopMembers. -/
import Derived.Test.YtfddbnmfllgifaaGreatDoorRows
import Derived.Test.YtfddbnmfllgifaaGreatDoorA27
set_option linter.unusedVariables false
set_option linter.unusedSimpArgs false
set_option maxHeartbeats 64000000
namespace Go.Proofs.YtfddbnmfllgifaaGreatDoor
namespace Cod
inductive Tv where
 | mk (k n:Int) (s:ByteArray) (l:List Tv)
def Tv.k:Tv→Int | .mk k _ _ _=>k
def Tv.n:Tv→Int | .mk _ n _ _=>n
def Tv.s:Tv→ByteArray | .mk _ _ s _=>s
def Tv.l:Tv→List Tv | .mk _ _ _ l=>l
def tv0:Tv:=.mk 0 0 ByteArray.empty []
mutual
def cu:Tv→Bool
 | .mk k n s l=>if k=1 then s.data.toList.isEmpty&&l.isEmpty else if k=2 then decide (n=0)&&l.isEmpty else if k=3 then decide (n=0)&&s.data.toList.isEmpty&&fJ l else false
def fJ:List Tv→Bool
 | []=>true
 | t::l=>cu t&&fJ l
end
mutual
def cO:Tv→Nat
 | .mk k _ _ l=>if k=3 then dC l+1 else 0
def dC:List Tv→Nat
 | []=>0
 | t::l=>max (cO t) (dC l)
end
def iV(u:Nat):List UInt8:=if u < 128 then [UInt8.ofNat u]else UInt8.ofNat (u % 128+128)::iV (u / 128)
termination_by u
decreasing_by omega
def zig(n:Int):Nat:=if 0≤n then 2*n.toNat else 2*(-(n+1)).toNat+1
mutual
def dW:Tv→List UInt8
 | .mk k n s l=>if k=1 then 1::iV (zig n)else if k=2 then 2::(iV s.size++s.data.toList)else 3::(iV l.length++fQ l)
def fQ:List Tv→List UInt8
 | []=>[]
 | t::l=>dW t++fQ l
end
theorem Qu{n:Int}(h1: -9223372036854775808≤n)(h2:n < 9223372036854775808):zig n < 18446744073709551616:=by
 unfold zig;split<;>omega
theorem JZ{u:Nat}(h:u < 128):iV u=[UInt8.ofNat u]:=by rw[iV,if_pos h]
theorem KT{u:Nat}(h:¬u < 128):iV u=UInt8.ofNat (u % 128+128)::iV (u / 128):=by rw[iV,if_neg h]
theorem Dk:∀(k u:Nat),u < 128^k→0 < k→(iV u).length≤k
 | 0,_,_,h=>absurd h (by decide)
 | k+1,u,h,_=>by
   by_cases h1:u < 128
   · rw[JZ h1];simp
   · rw[KT h1,Yr]
     have hk:0 < k:=by
      rcases Nat.eq_zero_or_pos k with h0 | h0
      · subst h0;omega
      · exact h0
     have :=Dk k (u / 128) (by rw[Nat.pow_succ]at h;exact Nat.div_lt_of_lt_mul (by omega)) hk;omega
theorem uw{u:Nat}(h:u < 18446744073709551616):(iV u).length≤10:=Dk 10 u (Yg h (by decide)) (by decide)
theorem nM(t:Tv)(l:List Tv):fQ (t::l)=dW t++fQ l:=by rw[fQ]
theorem kE(t:Tv)(l:List Tv):dC (t::l)=max (cO t) (dC l):=by rw[dC]
theorem lK(t:Tv)(l:List Tv):fJ (t::l)=(cu t&&fJ l):=by rw[fJ]
theorem kF:∀a b:List Tv,fQ (a++b)=fQ a++fQ b
 | [],b=>by rw[List.nil_append];simp[fQ]
 | t::a,b=>by
   rw[List.cons_append,nM,nM,kF a b,Xa]
theorem jo:∀a b:List Tv,dC (a++b)=max (dC a) (dC b)
 | [],b=>by simp[dC]
 | t::a,b=>by
   rw[List.cons_append,kE,kE,jo a b];omega
theorem lI:∀a b:List Tv,fJ (a++b)=(fJ a&&fJ b)
 | [],b=>by simp[fJ]
 | t::a,b=>by
   rw[List.cons_append,lK,lK,lI a b,Bool.and_assoc]
theorem Fa(t:Tv):fQ [t]=dW t:=by simp[fQ]
theorem GZ(t:Tv):dC [t]=cO t:=by simp[dC]
theorem Nz(t:Tv):fJ [t]=cu t:=by simp[fJ]
end Cod
end Go.Proofs.YtfddbnmfllgifaaGreatDoor
