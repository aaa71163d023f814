/- The contract of package field's power. -/
import Derived.Test.YtdcpejfnhegdaaaDoorFldPow
import Derived.Laws.EntriesVeiled
set_option linter.unusedVariables false
set_option linter.unusedSimpArgs false
namespace Go.Proofs.YtdcpejfnhegdaaaDoor
open Go.RowKit Go.Shelf
attribute [local go_sem] Oper.semAt_some

/-- one call of the closure in a round: what is known of the world behind it -/
theorem times_round {n0 Bk Ba C Bt : Nat} {va vt : Value} {ta tt : TypeId} {v : Int} {W W1 W2 : World} {cv : Value}
    (hb1 : Below W.heap.size W W1) (e2 : W2 = W1.setCell ⟨C, 0, none⟩ (.int .i64 v))
    (ha : Boxed W Ba ta va) (ht : Boxed W Bt tt vt) (hc : Boxed W C 3 cv) (hCa : Ba ≠ C) (hCt : Bt ≠ C) (hCk : Bk ≠ C) (hk : Bk < W.heap.size) (hn : n0 ≤ C) (hn2 : n0 ≤ W.heap.size) :
    Boxed W2 Ba ta va ∧ Boxed W2 Bt tt vt ∧ Boxed W2 C 3 (.int .i64 v) ∧ KeepBox n0 Bk W W2 ∧ KeepsOthers W W2 := by
  subst e2
  have ha1 : Boxed W1 Ba ta va := (hb1.block _ ha.lt).trans ha
  have ht1 : Boxed W1 Bt tt vt := (hb1.block _ ht.lt).trans ht
  have hc1 : Boxed W1 C 3 cv := (hb1.block _ hc.lt).trans hc
  refine ⟨ha1.other hCa _, ht1.other hCt _, hc1.set _, ⟨(hb1.mono hn2).setCell (p := ⟨C, 0, none⟩) hn _, ?_⟩, (keepsOthers_of_below hb1).trans (KeepsOthers.setCell W1 ⟨C, 0, none⟩ _)⟩
  exact (Below.heap_setCell _ _ _ _ hCk).trans (hb1.block _ hk)


end Go.Proofs.YtdcpejfnhegdaaaDoor
