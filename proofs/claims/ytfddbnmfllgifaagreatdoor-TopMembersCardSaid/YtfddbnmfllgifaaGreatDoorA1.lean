/- Part of TopMembers. -/
import Derived.Test.YtfddbnmfllgifaaGreatDoorRows
import Derived.WalkSpells
import Derived.WalkLawsBesides
import Derived.Test.YtfddbnmfllgifaaGreatDoorA0
set_option linter.unusedVariables false
set_option linter.unusedSimpArgs false
set_option maxHeartbeats 64000000
namespace Go.Proofs.YtfddbnmfllgifaaGreatDoor
open Go.RowKit
def U(x:BitVec 32):Int:=(x.toNat:Int)
def B8(x:UInt8):Int:=(x.toNat:Int)
theorem nR(x:BitVec 32):BitVec.ofInt 32 (U x)=x:=by
 unfold U;rw[BitVec.ofInt_natCast];simp
theorem wrap_U(n:Nat):IntKind.u32.wrap (n:Int)=U (BitVec.ofNat 32 n):=by
 unfold U;rw[IntKind.wrap_u32,BitVec.toNat_ofNat];omega
theorem Gn(x:BitVec 32):IntKind.u32.wrap (x.toNat:Int)=U x:=by rw[wrap_U];simp
theorem U_lt(x:BitVec 32):0≤U x∧U x < 4294967296:=by unfold U;have :=x.isLt;omega
theorem JS(x y:BitVec 32):bits .xor .u32 (U x) (U y)=U (x^^^y):=by
 show IntKind.u32.wrap ((BitVec.ofInt 32 (U x)^^^BitVec.ofInt 32 (U y)).toNat:Int)=_;rw[nR,nR,Gn]
theorem U_and(x y:BitVec 32):bits .and .u32 (U x) (U y)=U (x&&& y):=by
 show IntKind.u32.wrap ((BitVec.ofInt 32 (U x)&&& BitVec.ofInt 32 (U y)).toNat:Int)=_;rw[nR,nR,Gn]
theorem qX(x y:BitVec 32):bits .or .u32 (U x) (U y)=U (x||| y):=by
 show IntKind.u32.wrap ((BitVec.ofInt 32 (U x)||| BitVec.ofInt 32 (U y)).toNat:Int)=_;rw[nR,nR,Gn]
theorem SK(x y:BitVec 32):IntKind.u32.wrap (U x+U y)=U (x+y):=by
 unfold U;rw[IntKind.wrap_u32,BitVec.toNat_add];omega
theorem MV(n k:Nat):(n:Int)*2^k=((n*2^k:Nat):Int):=by rw[Int.natCast_mul,Int.natCast_pow];rfl
theorem nJ(x:BitVec 32)(k:Nat):IntKind.u32.wrap (U x*2^k)=U (x <<< k):=by
 unfold U;rw[IntKind.wrap_u32,BitVec.toNat_shiftLeft,Nat.shiftLeft_eq,MV];exact(Int.natCast_emod _ _).symm
theorem lX(x:BitVec 32)(k:Nat):U x / 2^k=U (x >>> k):=by
 unfold U;rw[BitVec.toNat_ushiftRight,Nat.shiftRight_eq_div_pow,Int.natCast_ediv,Int.natCast_pow];rfl
end Go.Proofs.YtfddbnmfllgifaaGreatDoor
