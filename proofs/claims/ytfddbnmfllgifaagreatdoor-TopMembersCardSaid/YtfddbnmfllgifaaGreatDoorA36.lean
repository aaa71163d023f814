/- Part of TopMembers. -/
import Derived.Test.YtfddbnmfllgifaaGreatDoorA45
import Derived.Test.YtfddbnmfllgifaaGreatDoorA15
import Derived.OrdersIn
set_option linter.unusedVariables false
set_option linter.unusedSimpArgs false
set_option maxHeartbeats 64000000
namespace Go.Proofs.YtfddbnmfllgifaaGreatDoor
open Go.RowKit
theorem lJ{k n:Nat}{P:Program}{md:Region.Mode}{ops:Array Oper}{Q:Exit→Act→World→Prop}(hQ:¬LetsOut Q)(hd:ops.toList.all iU=true):∀(fuel:Nat) (listed:Array Bool) (a:Act) (w:World),wpAny P md ops Q fuel listed a w→wpAnyIn (Fence.wide.inRound k) n P md ops Q fuel listed a w
 | 0,_,_,_,h=>h
 | fuel+1,listed,a,w,h=>by
   refine⟨h.1,fun i hi=>?_⟩;have h2:=h.2 i hi;unfold wpOp at h2;unfold wpOpIn
   cases ho:ops[i]? with
   | none=>rw[ho]at h2;exact lJ hQ hd fuel _ _ _ h2
   | some o=>
     rw[ho]at h2;dsimp only at h2 ⊢;split
     · rename_i hw;rw[if_pos hw]at h2;rcases h2 with h3 | ⟨_,h3⟩
       · refine⟨fun _ _=>trivial,?_⟩
         have ae:iU o=true:=by
          rw[List.all_eq_true]at hd;exact hd o (by rw[Array.mem_toList_iff];exact Array.mem_of_getElem? ho)
         rw[show(Fence.wide.inRound k).round=some k from rfl,Oper.semAt_some k _ _ (fun c hc=>by
          unfold iU at ae;rw[hc]at ae;cases ae)]
         unfold Oper.wp at h3;exact Aa (fun a w h=>lJ hQ hd fuel _ a w h) h3
       · exact absurd h3 hQ
     · rename_i hw;rw[if_neg hw]at h2;exact⟨fun _ _=>trivial,lJ hQ hd fuel _ _ _ h2⟩
namespace Tc
theorem kW{P:Program}(n0:Rl){k m id:Nat}{Q:Exit→Act→World→Prop}{a:Act}{w:World}{l:List Oper}(n:Nat)(ST:List Nat)(s:gJ)(hQ:¬LetsOut Q)(hd:l.all iU=true)(hm:P.follows .mixedOrders=true)
 (hB:(Region.noSelect l.toArray&&decide (n≤l.toArray.size)&&(decide (n=l.toArray.size)||(decide (n < l.toArray.size)&&Region.sinkB .any l.toArray n&&Region.chainB .any l.toArray n))&&fH .any l.toArray ST (l.toArray.size - n) n n s (Array.replicate l.toArray.size false))=true)
 (h:∀w',Below w.heap.size w w'→w'.heap.size=w.heap.size→bF n0 P l.toArray (calm Q) n s a w'):(Code.region id l.toArray true).wpIn (Fence.wide.inRound k) m P Q a w:=by
 rw[Bool.and_eq_true,Bool.and_eq_true,Bool.and_eq_true,decide_eq_true_eq]at hB;obtain⟨⟨⟨ae,hn⟩,hs⟩,hB⟩:=hB;refine wpIn_mono (Q:=calm Q) ?_ (fun e a w h=>by cases e<;>first | exact h | exact h.elim);have ag:¬LetsOut (calm Q):=fun⟨a,w,h⟩=>hQ ⟨a,w,h⟩;refine wpIn_region_any hm (lJ ag (show l.all iU=true from hd) _ _ _ _ ?_);have af:(l.drop n).length=l.toArray.size - n:=by simp
 have inv0:HeadInv .any l.toArray n (Array.replicate l.toArray.size false):=
  ⟨by simp,fun j oj _ hl=>(by rw[getD_replicate_false]at hl;cases hl),fun t _ ht=>getD_in (by simpa using ht) (getD_replicate_false _ _)⟩
 have H:=dB (P:=P) (Q:=calm Q) ae (Dn hs) (fun _ _ _ _ _ h=>h) n s _ a w.drew inv0 hB (h _ (Yb _ w).drew rfl)
 have :=mM (g:=l.toArray.size - n) (fun listed' a' w' hL=>by
  have :=wpAny_of_seq (ops:=l.toArray) (md:=.any) (Q':=calm Q) (l.drop n) n listed' a' w' (fun j=>by simp[List.getElem?_drop]) (by rw[af];exact hL.1) (by simpa using hL.2)
  rwa[af]at this) _ _ _ _ H
 rw[show n+(l.toArray.size - n)=l.toArray.size by omega]at this;exact this
end Tc
end Go.Proofs.YtfddbnmfllgifaaGreatDoor
