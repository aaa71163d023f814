/- Part of TopMembers. -/
import Derived.KernelRfl
import Derived.Test.YtfddbnmfllgifaaGreatDoorA27
set_option linter.unusedVariables false
set_option linter.unusedSimpArgs false
set_option maxHeartbeats 64000000
namespace Go.Proofs.YtfddbnmfllgifaaGreatDoor
namespace Num
end Num
def eQ(a b:Nat):Nat:=a*b % 4611686018427377339
def kL(a k:Nat):Nat:=a^k % 4611686018427377339
theorem BA(a b:Nat):eQ a b < 4611686018427377339:=Nat.mod_lt _ (by decide)
theorem XY(a b:Nat):kL a b < 4611686018427377339:=Nat.mod_lt _ (by decide)
def upto{α:Type}(f:Nat→α)(k:Nat):List α:=(List.range k).map f
theorem upto_succ{α:Type}(f:Nat→α)(k:Nat):upto f (k+1)=upto f k++[f k]:=by simp[upto,List.range_succ]
def ni(k L j:Nat):Bool:=decide (k / 2^(L - 1 - j) % 2=1)
theorem RD(m a j k:Nat):(a^j % m)*(a^k % m) % m=a^(j+k) % m:=by
 rw[←Nat.mul_mod,Nat.pow_add]
theorem VE(m a j:Nat):(a^j % m)*a % m=a^(j+1) % m:=by
 rw[Nat.mod_mul_mod,Nat.pow_succ]
def step(t:Nat→Nat→Nat)(a c:Nat)(one:Bool):Nat:=if one then t (t c c) a else t c c
def run(t:Nat→Nat→Nat)(a:Nat)(l:List Bool):Nat:=l.foldl (step t a) 1
theorem Gg(t:Nat→Nat→Nat)(a:Nat)(l:List Bool)(x:Bool):run t a (l++[x])=step t a (run t a l) x:=by simp[run]
theorem Ed(m a k L:Nat)(hk:k < 2^L)(hm:1 < m):∀j,j≤L→run (fun x y=>x*y % m) a (upto (ni k L) j)=a^(k / 2^(L - j)) % m
 | 0,_=>by
   rw[Nat.sub_zero,Nat.div_eq_of_lt hk];simp[run,upto,Nat.mod_eq_of_lt hm]
 | j+1,h=>by
   rw[upto_succ,Gg,Ed m a k L hk hm j (by omega)]
   have e:k / 2^(L - j)=k / 2^(L - (j+1)) / 2:=by
    rw[Nat.div_div_eq_div_mul,←Nat.pow_succ];congr 2;omega
   have e2:L - 1 - j=L - (j+1):=(by omega);unfold step ni;rw[e,e2];generalize k / 2^(L - (j+1))=q;by_cases hb:q % 2=1
   · simp only[hb,decide_true,if_true,RD,VE];congr 2;omega
   · simp only[hb,decide_false,Bool.false_eq_true,if_false,RD];congr 2;omega
theorem Wq(m a k L:Nat)(hk:k < 2^L)(hm:1 < m):run (fun x y=>x*y % m) a (upto (ni k L) L)=a^k % m:=by
 rw[Ed m a k L hk hm L (Ya _)];simp
theorem runP(a k L:Nat)(hk:k < 2^L):run eQ a (upto (ni k L) L)=kL a k:=Wq 4611686018427377339 a k L hk (by decide)
theorem run_lt(t:Nat→Nat→Nat)(m a:Nat)(hm:1 < m)(ht:∀x y,t x y < m)(l:List Bool):run t a l < m:=by
 have key:∀(l:List Bool) (c:Nat),c < m→l.foldl (step t a) c < m:=by
  intro l
  induction l with
  | nil=>intro c hc;exact hc
  | cons x l ih=>
    intro c _;refine ih _ ?_;unfold step;cases x
    · exact ht _ _
    · exact ht _ _
 exact key l 1 hm
theorem Wi(a:Nat)(l:List Bool):run eQ a l < 4611686018427377339:=run_lt eQ _ a (by decide) BA l
end Go.Proofs.YtfddbnmfllgifaaGreatDoor
