/- Part of TopMembers. -/
import Derived.Test.YtfddbnmfllgifaaGreatDoorA19
import Derived.Lib.LazyBuf
set_option linter.unusedVariables false
set_option linter.unusedSimpArgs false
set_option maxHeartbeats 64000000
namespace Go.Proofs.YtfddbnmfllgifaaGreatDoor
open Go.RowKit Cod
theorem fA{S:Nat→Prop}{w W:World}{b off:Nat}(hS:S b)(hr:(Tc.Rl.stay S).r w W):W.cell? ⟨b,off,none⟩=w.cell? ⟨b,off,none⟩:=World.cell?_of_block (w:=w) (w':=W) (a:=⟨b,off,none⟩) (hr b hS)
def bJ{α:Type}(s:Nat)(c:α→Nat→Value)(l:List α):List Value:=l.flatMap fun a=>(List.range s).map (c a)
section
variable {α:Type}{s:Nat}{c:α→Nat→Value}
theorem bI(l:List α):(bJ s c l).length=l.length*s:=by
 induction l with
 | nil=>simp[bJ]
 | cons a l ih=>
   have :bJ s c (a::l)=(List.range s).map (c a)++bJ s c l:=rfl;rw[this,Yf,ih,Yk,List.length_range,Yr,Nat.add_mul];omega
theorem dE(d:α):∀(l:List α) (i j:Nat),i < l.length→j < s→(bJ s c l)[s*i+j]? =some (c (l.getD i d) j)
 | [],i,j,hi,_=>absurd hi (by simp)
 | a::l,0,j,hi,hj=>by
   have :bJ s c (a::l)=(List.range s).map (c a)++bJ s c l:=rfl;rw[this,Nat.mul_zero,Yl,Xd (by simpa using hj),Xg,Xh hj];rfl
 | a::l,i+1,j,hi,hj=>by
   have :bJ s c (a::l)=(List.range s).map (c a)++bJ s c l:=rfl;have hlen:((List.range s).map (c a)).length=s:=(by simp);rw[this,Xb (by rw[hlen,Nat.mul_add];omega),hlen,show s*(i+1)+j - s=s*i+j by rw[Nat.mul_add];omega];exact dE d l i j (by simpa using hi) hj
end
def gv(m:List (Int×Value))(k:Int):Value:=(IM.get m k).getD (.slice none 0 0)
section
variable {w w':World}{base r:Nat}{m:List (Int×Value)}{G:Int→List Ak}
end
end Go.Proofs.YtfddbnmfllgifaaGreatDoor
