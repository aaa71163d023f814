/- Part of TopMembers. -/
import Derived.Test.YtfddbnmfllgifaaGreatDoorA3
import Derived.StillTail
import Derived.Lib.QuietBelow
set_option linter.unusedVariables false
set_option linter.unusedSimpArgs false
set_option maxHeartbeats 64000000
namespace Go.Proofs.YtfddbnmfllgifaaGreatDoor
open Go
section
variable {P:Program}{ops:Array Oper}{md:Region.Mode}{C:World→Prop}
def Tt(P:Program)(md:Region.Mode)(ops:Array Oper)(C:World→Prop)(n:Nat)(L:Array Bool→Act→Prop):Nat→Array Bool→Act→Prop
 | 0,listed,a=>L listed a
 | f+1,listed,a=>
   Region.ready md ops listed≠[]∧∀i∈Region.ready md ops listed,i < n∧qOp P ops C i (Tt P md ops C n L f (listed.setIfInBounds i true)) a
theorem rU{n g:Nat}{L:Array Bool→Act→Prop}{Q':Exit→Act→World→Prop}(hL:∀listed a w,C w→L listed a→wpAny P md ops Q' g listed a w):
 ∀(f:Nat) (listed:Array Bool) (a:Act) (w:World),C w→Tt P md ops C n L f listed a→wpAny P md ops Q' (f+g) listed a w
 | 0,listed,a,w,hw,h=>by rw[Yl];exact hL _ _ _ hw h
 | f+1,listed,a,w,hw,h=>by
   rw[show f+1+g=(f+g)+1 by omega];exact⟨fun h0=>absurd h0 h.1,fun i hi=>wpOp_of_qOp hw (fun a' w' hw' h'=>rU hL f _ a' w' hw' h') (h.2 i hi).2⟩
theorem Ii{n i:Nat}{oi:Oper}{v:Value}{L:Array Bool→Act→Prop}(hi:ops[i]? =some oi)(af:∀(j:Nat) (o:Oper) cs b,ops[j]? =some o→o.op≠ .select cs b)
 (hs:Region.sinkB md ops n=true) (hc:Region.chainB md ops n=true) (hn:n < ops.size) (ax:i < n)
 (hdone:∀listed a,L listed a→∀j∈Region.ready md ops listed,n≤j):
 ∀(f:Nat) (listed:Array Bool) (a:Act),HeadInv md ops n listed→
  (∀j oj,ops[j]? =some oj→j≠i→listed.getD j true=false→(∀e∈oj.after,Region.binds md e=true→e.on≠i)→oi.apart ops oj=true)→
  i∈Region.ready md ops listed→YieldsIn P ops C oi v a→
  Tt P md ops C n L f (listed.setIfInBounds i true) (a.put oi.dst v)→Tt P md ops C n L (f+1) listed a:=by
 intro f
 induction f with
 | zero=>
   intro listed a inv _ hr hy H;have ah:=(mem_ready.1 hr).1;refine⟨fun h=>(by rw[h]at hr;cases hr),fun j hj=>?_⟩;have ai:j < n:=Nat.lt_of_not_le fun h=>tail_waits hs hc hn inv _ i rfl ax ah j h hj;refine⟨ai,?_⟩;by_cases ae:j=i
   · subst ae;exact hy.qOp hi H
   · have :=hdone _ _ H j (ready_mono hj ae);omega
 | succ f ih=>
   intro listed a inv hfree hr hy H;have ah:=(mem_ready.1 hr).1;refine⟨fun h=>(by rw[h]at hr;cases hr),fun j hj=>?_⟩;have ai:j < n:=Nat.lt_of_not_le fun h=>tail_waits hs hc hn inv _ i rfl ax ah j h hj;refine⟨ai,?_⟩;by_cases ae:j=i
   · subst ae;exact hy.qOp hi H
   · have h1:=(H.2 j (ready_mono hj ae)).2;obtain⟨ag,oj,aj,ak⟩:=mem_ready.1 hj
     have au:∀e∈oj.after,Region.binds md e=true→e.on≠i:=fun e he hb heq=>by
      have h1:=ak e he hb;rw[heq,getD_both ah]at h1;cases h1
     have h2:=qOp_put aj (hfree j oj aj ae ag au) (fun cs b=>af i oi cs b hi) (fun cs b=>af j oj cs b aj) hy h1
     have hfree':∀k ok,ops[k]? =some ok→k≠i→(listed.setIfInBounds j true).getD k true=false→
      (∀e∈ok.after,Region.binds md e=true→e.on≠i)→oi.apart ops ok=true:=fun k ok hk az hun' aA=>by
      refine hfree k ok hk az ?_ aA;by_cases ay:j=k
      · subst ay;exact ag
      · rw[getD_set_ne true ay]at hun';exact hun'
     refine qOp_mono (fun a' h3=>ih (listed.setIfInBounds j true) a' (inv.set hj ai) hfree' (ready_mono hr (Ne.symm ae)) h3.1 ?_) h2;rw[Array.setIfInBounds_comm _ _ ae];exact h3.2
theorem DU{n g:Nat}{Lq:Act→Prop}(ae:Region.noSelect ops=true)(hs:Region.sinkB md ops n=true)(hc:Region.chainB md ops n=true)(hn:n < ops.size):
 ∀(l:List Oper) (k:Nat) (listed:Array Bool) (a:Act),(∀j,j < l.length→l[j]? =ops[k+j]?)→k+l.length=n→HeadInv md ops n listed→
 Region.lexHead md ops g l.length k listed=true→wpQuiet P ops C Lq l a→
 Tt P md ops C n (fun listed' a'=>Region.seqB md ops g n listed'=true∧Lq a') l.length listed a
 | [],k,listed,a,_,hk,_,hB,h=>by
   have :k=n:=(by simpa using hk);subst this;exact⟨by simpa[Region.lexHead]using hB,h⟩
 | o::l,k,listed,a,hl,hk,inv,hB,h=>by
   have h0:ops[k]? =some o:=(by simpa using(hl 0 (by simp)).symm);simp only[Yr,Region.lexHead,Bool.and_eq_true]at hB;obtain⟨⟨hr,hf⟩,hB'⟩:=hB;have af:k < n:=(by simp only[Yr]at hk;omega);have hr':k∈Region.ready md ops listed:=(by simpa using hr);have ag:qOp P ops C k (wpQuiet P ops C Lq l) a:=(by unfold qOp;simp only[h0];exact h);obtain⟨v,hy,hK⟩:=yieldsIn_of_qOp h0 ag
   exact Ii h0 (Region.noSelect_spec ae) hs hc hn af (fun listed' a' hL=>seqB_ready hL.1) l.length listed a inv (Region.free_spec h0 hf) hr' hy
    (DU ae hs hc hn l (k+1) _ _ (fun j hj=>by have :=hl (j+1) (by simp;omega);simpa[Nat.add_assoc,Nat.add_comm 1 j]using this) (by simp only[Yr]at hk;omega) (inv.set hr' af) hB' hK)
theorem xU{id:Nat}{Q:Exit→Act→World→Prop}{a:Act}{w:World}{l:List Oper}(n:Nat)(C:World→Prop)(hm:P.follows .mixedOrders=true)(hB:Region.lexTailB .any l.toArray n=true)(hC:C w.drew)
 (h:wpQuiet P l.toArray C (fun a'=>∀w',C w'→wpList P l.toArray Q (l.drop n) a' w') (l.take n) a):(Code.region id l.toArray true).wp P Q a w:=by
 simp only[Region.lexTailB,Bool.and_eq_true,decide_eq_true_eq]at hB;obtain⟨⟨⟨⟨af,hn⟩,hs⟩,hc⟩,ag⟩:=hB;have hn':n < l.length:=(by simpa using hn);have ae:(l.take n).length=n:=(by simp;omega);have ah:(l.drop n).length=l.toArray.size - n:=by simp
 have inv0:HeadInv .any l.toArray n (Array.replicate l.toArray.size false):=
  ⟨by simp,fun j oj _ hl=>(by rw[getD_replicate_false]at hl;cases hl),fun t _ ht=>getD_in (by simpa using ht) (getD_replicate_false _ _)⟩
 have H:=DU (md:=.any) (g:=l.toArray.size - n) af hs hc hn (l.take n) 0 _ a (fun j hj=>by
  have hj':j < n:=by rw[ae]at hj;exact hj
  simp[hj']) (by simpa using ae) inv0 (by rw[ae];exact ag) h
 refine wp_region_any hm ?_
 have :=rU (Q':=Q) (g:=l.toArray.size - n) (fun listed a' w' hw' hL=>by
  have :=wpAny_of_seq (md:=.any) (Q':=Q) (l.drop n) n listed a' w' (fun j=>by simp[List.getElem?_drop]) (by rw[ah];exact hL.1) (hL.2 w' hw')
  rwa[ah]at this) _ _ _ w.drew hC H
 rw[ae,show n+(l.toArray.size - n)=l.toArray.size by omega]at this;exact this
theorem jg{f:FuncId}{args:Array Value}{w:World}{v:Value}(h:∀W,RowKit.Below w.heap.size w W→Calls P f args W fun e w'=>e=.returned v∧RowKit.Below W.heap.size W w')(d:Nat)(os:Array Obj):
 Calls P f args (Sort.grow (redrawn w d) os) fun e w''=>e=.returned v∧∃p:Regrown,w''=Sort.grow (redrawn w p.d) p.os:=
 Calls.regrown_of (h _ (below_regrown w d os))
theorem aT{w w':World}(h:∃p:Regrown,w'=Sort.grow (redrawn w p.d) p.os):RowKit.Below w.heap.size w w':=by
 obtain⟨p,rfl⟩:=h;exact below_regrown w p.d p.os
end
end Go.Proofs.YtfddbnmfllgifaaGreatDoor
