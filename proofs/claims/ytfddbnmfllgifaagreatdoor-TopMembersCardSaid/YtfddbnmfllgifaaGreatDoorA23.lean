/- Part of TopMembers. -/
import Derived.Test.YtfddbnmfllgifaaGreatDoorA22
import Derived.Test.YtfddbnmfllgifaaGreatDoorA7
import Derived.Test.YtfddbnmfllgifaaGreatDoorTie
import Derived.LaidMore
import Derived.ShutString
import Derived.Lib.LaidTab
set_option linter.unusedVariables false
set_option linter.unusedSimpArgs false
set_option maxHeartbeats 64000000
set_option maxRecDepth 100000
namespace Go.Proofs.YtfddbnmfllgifaaGreatDoor
open Go.ChangeShapes Go.WideShapes Go.ChangeAt Go.RowKit
theorem laidOut:laidOutB Tryz.prog=true:=by kernel_rfl
abbrev laidL:List (String×DataW Unit):=[("chartroom/digest.start",Rows.laid_chartroom_digest_start),("chartroom/digest.numbers",Rows.laid_chartroom_digest_numbers)]
theorem gS:Tryz.prog.globalNamed "chartroom/digest.start" =some 3:=by kernel_rfl
theorem gN:Tryz.prog.globalNamed "chartroom/digest.numbers" =some 4:=by kernel_rfl
theorem tS:(Tryz.prog.globals[3]?).map (·.type)=some 271:=by kernel_rfl
theorem tN:(Tryz.prog.globals[4]?).map (·.type)=some 320:=by kernel_rfl
def zsOf:DataW Unit→List Int
 | .agg l=>l.map fun | .lit (.int _ z)=>z | _=>0
 | _=>[]
def qR:List Int:=zsOf Rows.laid_chartroom_digest_start
def yY:List Int:=zsOf Rows.laid_chartroom_digest_numbers
theorem Qb:(Rows.laid_chartroom_digest_start:DataW Unit)=Lib.tabData .u32 qR:=rfl
theorem numsD:(Rows.laid_chartroom_digest_numbers:DataW Unit)=Lib.tabData .u32 yY:=rfl
theorem Bh:qR.length=8∧∀t,t < 8→qR.getD t 0=((Sha.init.o t).toNat:Int):=by
 refine⟨rfl,?_⟩;have h:∀t:Fin 8,qR.getD t.val 0=((Sha.init.o t.val).toNat:Int):=(by decide+kernel);exact fun t ht=>h ⟨t,ht⟩
theorem Kz:yY.length=64∧∀t,t < 64→yY.getD t 0=((Sha.K t).toNat:Int):=by
 refine⟨rfl,?_⟩;have h:∀t:Fin 64,yY.getD t.val 0=((Sha.K t.val).toNat:Int):=(by decide+kernel);exact fun t ht=>h ⟨t,ht⟩
theorem iG{w:World}{b o:Nat}{x:Value}(h:w.cell? ⟨b,o,none⟩=some x):b < w.heap.size:=by
 rcases Nat.lt_or_ge b w.heap.size with h1 | h1
 · exact h1
 · exfalso;have :w.heap[b]? =none:=Array.getElem?_eq_none h1;simp[World.cell?,this]at h
theorem Dp{W:World}(h:laidMetH Tryz.prog laidL W):Tab W:=by
 rw[MakeChecks.laidMetH_plain _ _ _ (by kernel_rfl)]at h;obtain⟨ps,⟨g0,t0,au,f0,p0,q0,ae,ah,ai,hd0,⟨g1,t1,ax,f1,p1,q1,af,aj,ak,ag,_,_⟩,_⟩,_,_⟩:=h;obtain rfl:=Yx (gS.symm.trans ae);obtain rfl:=Yx (gN.symm.trans af);obtain rfl:=Yx (tS.symm.trans ah);obtain rfl:=Yx (tN.symm.trans aj);rw[Qb]at hd0;rw[numsD]at ag;have e0:=Lib.cells_of_tab Tryz.underlying271 Tryz.underlying186 (by kernel_rfl) (by kernel_rfl) hd0;have e1:=Lib.cells_of_tab Tryz.underlying320 Tryz.underlying186 (by kernel_rfl) (by kernel_rfl) ag
 have c0:∀t,t < 8→W.cell? ⟨3,t,none⟩=some (vU (Sha.init.o t)):=by
  intro t ht;have h1:=World.var?_cell ae ai t;have h2:=Bh.2 t ht;have h3:t < qR.length:=(by rw[Bh.1];exact ht);rw[Yd,Yh h3]at h2;simp only[Option.getD_some]at h2;rw[h1,←Array.getElem?_toList,e0];simp[h3,h2,vU,U]
 have c1:∀t,t < 64→W.cell? ⟨4,t,none⟩=some (vU (Sha.K t)):=by
  intro t ht;have h1:=World.var?_cell af ak t;have h2:=Kz.2 t ht;have h3:t < yY.length:=(by rw[Kz.1];exact ht);rw[Yd,Yh h3]at h2;simp only[Option.getD_some]at h2;rw[h1,←Array.getElem?_toList,e1];simp[h3,h2,vU,U]
 exact⟨⟨iG (c1 0 (by decide)),c1⟩,⟨iG (c0 0 (by decide)),c0⟩⟩
theorem QB{z:Int}(h:(Lit.int .u8 z).wf=true):Value.int .u8 z=vB (UInt8.ofNat z.toNat):=by
 have hb:=bounds_u8 h;unfold vB;congr 1;simp;omega
#print axioms Dp
end Go.Proofs.YtfddbnmfllgifaaGreatDoor
