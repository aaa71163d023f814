/- Part of TopMembers. -/
import Derived.Test.YtfddbnmfllgifaaGreatDoorA7
import Derived.Test.YtfddbnmfllgifaaGreatDoorA5
import Derived.Lib.ConvBytes
set_option linter.unusedVariables false
set_option linter.unusedSimpArgs false
set_option maxHeartbeats 64000000
set_option maxRecDepth 100000
namespace Go.Proofs.YtfddbnmfllgifaaGreatDoor
open Go.RowKit
def Sha.tagged(t m:List UInt8):List UInt8:=Sha.sum (Sha.sum t++m)
theorem below_bytesWorld(W:World)(s:ByteArray):Below W.heap.size W (Lib.bytesWorld W 5 s):=
 ⟨rfl,rfl,rfl,by rw[Lib.bytesWorld_size];omega,fun k hk=>Lib.bytesWorld_at_old W _ s k hk⟩
theorem pI(W:World)(s:ByteArray)(hs:(s.size:Int)≤140737488351232):BytesAt (Lib.bytesWorld W 5 s) (.slice (some ⟨W.heap.size,0,none⟩) s.size (grownCap W s.size 0 5)) s.data.toList:=by
 have hl:s.data.toList.length=s.size:=(by simp);by_cases h0:s.size=0
 · exact .inl ⟨⟨_,_,by rw[h0],fun h=>by cases h⟩,List.length_eq_zero_iff.1 (by rw[hl];exact h0)⟩
 · refine .inr ⟨W.heap.size,0,grownCap W s.size 0 5,by rw[hl],by rw[hl];exact grownCap_ge W s.size 0 _,by rw[hl];omega,⟨by rw[hl];exact hs,?_⟩,by rw[Lib.bytesWorld_size];omega,fun j hj=>?_⟩
   · have :=grownCap_le_maxLen W s.size 0 5 (by unfold maxLen;omega);unfold maxLen at this;omega
   · rw[hl]at hj;rw[Yl];exact Lib.bytesWorld_cell W _ s j hj
theorem wH(W:World)(s:ByteArray):(convert 9 130 (.string s)).run Tryz.prog W=.ok (.slice (some ⟨W.heap.size,0,none⟩) s.size (grownCap W s.size 0 5)) (Lib.bytesWorld W 5 s):=
 Lib.run_convert_string_bytes W 9 130 5 s Tryz.underlying9 Tryz.underlying130 Tryz.underlying5
theorem ag.kG{w:World}{B n:Nat}{T:TypeId}{l:List UInt8}(h:ag w B T n (fun i=>vB (l.getD i 0)))(hl:l.length=n)(h0:0 < n)(hn:n≤1000):BytesAt w (.slice (some ⟨B,0,none⟩) n n) l:=
 .inr ⟨B,0,n,by rw[hl],by omega,by omega,⟨by omega,by omega⟩,h.lt,fun j hj=>by rw[Yl];exact h.cell (by omega)⟩
theorem wV(s:ByteArray)(v:Value)(m:List UInt8)(w:World)(hs:s.size≤1000000)(hm:m.length≤1000000)(hv:BytesAt w v m)(hT:Tab w):
 Calls Tryz.prog 67 #[.string s,v] w (zr (Gf (Sha.tagged s.data.toList m)) w):=by
 have aA:=fun W=>wH W s;obtain⟨va,vc,rfl⟩:=hv.slice;have Hv:=zh hv;have HT:=zh hT;have Hs:=zh (show(s.size:Int)≤140737488351232 by omega);clear hv hT;go_in;go_wp2_with fail;change Calls _ _ #[.slice (some ⟨w.heap.size+1,0,none⟩) s.size (grownCap (w.alloc (.cells (ah 32 fun _=>vB 0) 35)) s.size 0 5)] (Lib.bytesWorld (w.alloc (.cells (ah 32 fun _=>vB 0) 35)) 5 s) _;have R1:=ag.new w 35 32 (fun _=>vB 0);have B1:Below w.heap.size w (w.alloc (.cells (ah 32 fun _=>vB 0) 35)):=(Yb _ _).alloc (Ya _) _;have e1:(w.alloc (.cells (ah 32 fun _=>vB 0) 35)).heap.size=w.heap.size+1:=Xi _ _;obtain⟨w1,ay⟩:=zg (w.alloc (.cells (ah 32 fun _=>vB 0) 35));rw[ay]at R1 B1 e1 ⊢;have hb:=pI w1 s Hs.o;rw[e1]at hb;have B2:=B1.trans ((below_bytesWorld w1 s).mono B1.size);have R2:=R1.below (below_bytesWorld w1 s);refine(sum_any _ s.data.toList _ hb (HT.below B2)).mono ?_;rintro e w3 ⟨rfl,b3⟩
 have B3:=B2.trans (b3.mono B2.size);have R3:=R2.below b3;clear b3 B2 R2 hb e1 B1 R1 ay;obtain⟨bd,aj⟩:=zg w.heap.size;rw[aj]at R3 B3 ⊢;have ai:=zh aj;have R4:=zh (ag.new w3 35 32 (fun _=>vB 0));have R3':=zh (R3.alloc (.cells (ah 32 fun _=>vB 0) 35));have B4:=zh (B3.alloc (Yv R3.lt) (.cells (ah 32 fun _=>vB 0) 35));have ak:bd < w3.heap.size:=R3.lt;clear B3 R3 aj
 go_wp2_with(first
  | (refine zV R4 rfl _ rfl YQ (fun _ _=>rfl) ?_;intro w5 R5 O5))
 have b4:BytesAt w5 (.slice va m.length vc) m:=by
  have h0:Below w.heap.size w (w3.alloc (.cells (ah 32 fun _=>vB 0) 35)):=(by rw[ai.o];exact B4.o);refine Hv.below (h0.trans (O5.below ?_ ?_))
  · rw[ai.o];exact Yv ak
  · exact h0.size
 have b5:BytesAt w5 (.slice (some ⟨w3.heap.size,0,none⟩) 32 32) (Sha.sum s.data.toList):=ag.kG R5.o (Sha.uF _) (by decide) (by decide);have B5:Below bd w w5:=B4.trans (O5.below (Yv ak) (by rw[Xi];omega));have R6:ag w5 bd 35 32 (fun _=>vB 0):=O5.row (by omega) R3'.o;have au:=Below.alloc (Yb _ w5) (Ya _) (.cells #[.slice (some ⟨w3.heap.size,0,none⟩) 32 32,.slice va m.length vc] 130)
 have ae:=Ih [Sha.sum s.data.toList,m] (fun i=>if i=0 then .slice (some ⟨w3.heap.size,0,none⟩) 32 32 else .slice va m.length vc) w5.heap.size 2 130
  (w5.alloc (.cells #[.slice (some ⟨w3.heap.size,0,none⟩) 32 32,.slice va m.length vc] 130)) (ag.new w5 130 2 (fun i=>if i=0 then .slice (some ⟨w3.heap.size,0,none⟩) 32 32 else .slice va m.length vc))
  (fun i hi=>by
    match i,hi with
    | 0,_=>exact b5.below au
    | 1,_=>exact b4.below au) (by simp) (by
      have :=Sha.uF s.data.toList
      simp only[List.flatten_cons,List.flatten_nil,List.append_nil,Yf];omega)
 rw[show [Sha.sum s.data.toList,m].flatten=Sha.sum s.data.toList++m by simp]at ae;refine(ae).mono ?_;rintro e w7 ⟨⟨u,rfl,O7⟩,B7⟩;have B6:=B5.alloc (by have :=R6.lt;omega) (.cells #[.slice (some ⟨w3.heap.size,0,none⟩) 32 32,.slice va m.length vc] 130);have R7:=(R6.alloc (.cells #[.slice (some ⟨w3.heap.size,0,none⟩) 32 32,.slice va m.length vc] 130)).below B7;have B8:=B6.trans (B7.mono (by rw[Xi];have :=R6.lt;omega));have az:=O7.kG (by have :=Sha.uF s.data.toList;rw[Yf];omega);have af:Tab w7:=HT.below (by rw[ai.o];exact B8);have ax:=zh (sum_any u _ w7 az af);have HR:=zh R7;have HB:=zh B8;clear R7 B8 az af B6 ae au b4 b5 B5 R6 O7 B7 R5 O5 R4 R3' B4 ak;go_wp2_with fail;refine(ax.o).mono ?_;rintro e w8 ⟨rfl,b8⟩;have R8:=zh (HR.below b8);have B9:=zh (HB.trans (b8.mono (Yv HR.lt)));clear b8
 go_wp2_with(first
  | (refine zV R8 rfl _ rfl YQ (fun _ _=>rfl) ?_;intro w9 R9 O9))
 refine bodyPost_ret (v:=Gf (Sha.tagged s.data.toList m)) (zB R9 rfl rfl YQ) rfl ⟨rfl,?_⟩;rw[ai.o];exact B9.trans (O9.below (Ya _) (Yv R8.lt))
end Go.Proofs.YtfddbnmfllgifaaGreatDoor
