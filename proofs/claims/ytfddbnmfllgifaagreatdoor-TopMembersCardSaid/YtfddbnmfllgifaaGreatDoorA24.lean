/- Part of TopMembers. -/
import Derived.Test.YtfddbnmfllgifaaGreatDoorA17
import Derived.Test.YtfddbnmfllgifaaGreatDoorA23
import Derived.Stop.BytesEq
set_option linter.unusedVariables false
set_option linter.unusedSimpArgs false
set_option maxHeartbeats 64000000
set_option maxRecDepth 100000
namespace Go.Proofs.YtfddbnmfllgifaaGreatDoor
open Go.ChangeShapes Go.WideShapes Go.ChangeAt Go.RowKit
section
variable (w:World)
end
theorem EJ{H:Type}{enc:TypeId×Value→H}{W:World}{v:Value}{d:DataW H}{p:List MemPlace}{base:Nat}
 (ae:Value.okWide Tryz.prog W .any base 35 v) (hj:DataW.Trod enc Tryz.prog W 0 (fun _=>true) true 35 v d p):
 ∃l:List UInt8,l.length=32∧v=Gf l:=by
 have hu:Tryz.prog.underlying 35=some (.array 32 5):=Tryz.underlying35;have hc:Tryz.prog.cellsOf 35=32:=(by kernel_rfl);have af:Tryz.prog.cellsOf 5=1:=(by kernel_rfl);simp only[Value.okWide,hu]at ae;obtain⟨cs,rfl,ag,_⟩:=ae;rw[hc]at ag;obtain⟨fuel,hf⟩:=hj;obtain⟨xs,m,rfl,_,_,hn,ah⟩:=DataW.trod_array hu hf
 have each:∀i,i < 32→∃z,cs[i]? =some (.int .u8 z)∧(Lit.int .u8 z).wf=true:=by
  intro i hi;have h1:=ah i hi;rw[Yh (by omega)]at h1;obtain⟨z,e1,_,e3⟩:=DataW.trod_int Tryz.underlying5 h1;refine⟨z,?_,e3⟩;have e4:=congrArg (·[0]?) e1;rw[af]at e4;simpa[Value.cells,List.getElem?_take,List.getElem?_drop]using e4
 refine⟨(List.range 32).map fun(i:Nat)=>match(cs[i]? :Option Value)with | some (Value.int _ z)=>UInt8.ofNat z.toNat | _=>0,by simp,?_⟩;unfold Gf;congr 1;apply Array.ext_getElem?;intro i;by_cases hi:i < 32
 · obtain⟨z,e1,e2⟩:=each i hi;rw[e1,fO hi,QB e2];congr 2;simp[Yd,hi,e1]
 · rw[Array.getElem?_eq_none (by omega),Array.getElem?_eq_none (by rw[bz];omega)]
#print axioms EJ
end Go.Proofs.YtfddbnmfllgifaaGreatDoor
