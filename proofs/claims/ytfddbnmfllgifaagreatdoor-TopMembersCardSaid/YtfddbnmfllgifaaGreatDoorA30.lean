/- Part of TopMembers. -/
import Derived.Test.YtfddbnmfllgifaaGreatDoorA41
import Derived.Shelf.SlSortCmp.WholeK
set_option linter.unusedVariables false
set_option linter.unusedSimpArgs false
set_option maxHeartbeats 64000000
set_option maxRecDepth 100000
namespace Go.Proofs.YtfddbnmfllgifaaGreatDoor
open Go.RowKit Cod Top
def gu(a b:Int):Int:=if a < b then -1 else if b < a then 1 else 0
theorem Nw(a:Int)(w:World):Calls Tryz.prog 92 #[.int .i64 a] w fun e w'=>e=.returned (.bool false)∧w=w':=by
 go_in;go_wp2_with fail;go_ret;exact⟨by simp,rfl⟩
theorem jB(a b:Int)(w:World):Calls Tryz.prog 46 #[.int .i64 a,.int .i64 b] w fun e w'=>e=.returned (.int .i64 (gu a b))∧w=w':=by
 have N1:=zh (fun z W=>Nw z W);obtain⟨R,hR⟩:=zg (gu a b);have HR:=zh hR;rw[hR];clear hR;go_in;go_wp2_with fail;refine(N1.o _ _).mono ?_;rintro e w1 ⟨rfl,rfl⟩;go_wp2_with fail;refine(N1.o _ _).mono ?_;rintro e w1 ⟨rfl,rfl⟩;by_cases h1:a < b
 · have d1:decide (a < b)=true:=zt h1;obtain rfl:R= -1:=(by rw[←HR.o];unfold gu;rw[if_pos h1]);clear h1 HR N1;go_wp2_with fail;go_ret;exact⟨rfl,rfl⟩
 · have d1:decide (a < b)=false:=zT h1;by_cases h2:b < a
   · have d2:decide (b < a)=true:=zt h2;obtain rfl:R=1:=(by rw[←HR.o];unfold gu;rw[if_neg h1,if_pos h2]);clear h1 h2 HR N1;go_wp2_with fail;go_ret;exact⟨rfl,rfl⟩
   · have d2:decide (b < a)=false:=zT h2;obtain rfl:R=0:=(by rw[←HR.o];unfold gu;rw[if_neg h1,if_neg h2]);clear h1 h2 HR N1;go_wp2_with fail;go_ret;exact⟨rfl,rfl⟩
theorem uS(a b:Int):decide (gu a b < 0)=decide (a < b):=by
 unfold gu;by_cases h1:a < b
 · simp[h1]
 · by_cases h2:b < a<;>simp[h1,h2]
def Sr(m:Me):List Value:=(List.range 3).map (meC m)
def Qg(m:Chg):List Value:=(List.range 5).map (chC m)
theorem yQ(m:Me):Value.agg (Sr m).toArray=.agg #[.int .i64 m.d,.int .i64 m.s,.int .i64 m.v]:=rfl
theorem yj(m:Chg):Value.agg (Qg m).toArray=.agg #[.int .i64 m.k,.int .i64 m.d,.int .i64 m.p,.int .i64 m.v,.int .i64 m.c]:=rfl
theorem lessMe(x y:Me)(W:World):Calls Tryz.prog 131 #[.agg (Sr x).toArray,.agg (Sr y).toArray] W fun e w'=>e=.returned (.int .i64 (gu x.d y.d))∧∃q os',w'=Sort.grow (W.drewN q) os':=by
 rw[yQ,yQ];have ae:=zh (fun W'=>jB x.d y.d W');obtain⟨r,hr⟩:=zg (gu x.d y.d);rw[hr]at ae ⊢;clear hr;go_in;go_wp2_with fail;refine(ae.o _).mono ?_;rintro e w' ⟨rfl,rfl⟩;go_wp2_with fail;go_ret;exact⟨rfl,0,_,by rw[Sort.alloc_eq_grow,Sort.alloc_eq_grow,Sort.grow_grow];rfl⟩
theorem lessCh(x y:Chg)(W:World):Calls Tryz.prog 185 #[.agg (Qg x).toArray,.agg (Qg y).toArray] W fun e w'=>e=.returned (.int .i64 (gu x.d y.d))∧∃q os',w'=Sort.grow (W.drewN q) os':=by
 rw[yj,yj];have ae:=zh (fun W'=>jB x.d y.d W');obtain⟨r,hr⟩:=zg (gu x.d y.d);rw[hr]at ae ⊢;clear hr;go_in;go_wp2_with fail;refine(ae.o _).mono ?_;rintro e w' ⟨rfl,rfl⟩;go_wp2_with fail;go_ret;exact⟨rfl,0,_,by rw[Sort.alloc_eq_grow,Sort.alloc_eq_grow,Sort.grow_grow];rfl⟩
end Go.Proofs.YtfddbnmfllgifaaGreatDoor
