/- The contract of package field's power. -/
import Derived.Test.YtajcpbchpcnmaaaFldPow
import Derived.Laws.EntriesVeiled
set_option linter.unusedVariables false
set_option linter.unusedSimpArgs false
namespace Go.Proofs.Ytajcpbchpcnmaaa
open Go.RowKit Go.Shelf
attribute [local go_sem] Oper.semAt_some

/-- one call of the closure in a round: what is known of the world behind it -/
theorem times_round {n0 Bk Ba C Bt : Nat} {va vt : Value} {ta tt : TypeId} {v : Int} {W W1 W2 : World} {cv : Value}
    (hb1 : Below W.heap.size W W1) (e2 : W2 = W1.setCell ⟨C, 0, none⟩ (.int .i64 v))
    (ha : Boxed W Ba ta va) (ht : Boxed W Bt tt vt) (hc : Boxed W C 3 cv) (hCa : Ba ≠ C) (hCt : Bt ≠ C) (hCk : Bk ≠ C) (hk : Bk < W.heap.size) (hn : n0 ≤ C) (hn2 : n0 ≤ W.heap.size) :
    Boxed W2 Ba ta va ∧ Boxed W2 Bt tt vt ∧ Boxed W2 C 3 (.int .i64 v) ∧ KeepBox n0 Bk W W2 ∧ KeepsOthers W W2 := by
  subst e2
  have ha1 : Boxed W1 Ba ta va := (hb1.block _ ha.lt).trans ha
  have ht1 : Boxed W1 Bt tt vt := (hb1.block _ ht.lt).trans ht
  have hc1 : Boxed W1 C 3 cv := (hb1.block _ hc.lt).trans hc
  refine ⟨ha1.other hCa _, ht1.other hCt _, hc1.set _, ⟨(hb1.mono hn2).setCell (p := ⟨C, 0, none⟩) hn _, ?_⟩, (keepsOthers_of_below hb1).trans (KeepsOthers.setCell W1 ⟨C, 0, none⟩ _)⟩
  exact (Below.heap_setCell _ _ _ _ hCk).trans (hb1.block _ hk)

set_option maxRecDepth 100000 in
set_option maxHeartbeats 1000000 in
/-- field.power: the power modulo Q. -/
theorem powerQ_any (a k : Nat) (ha : a < 2305843009213688669) (hk : k ≤ 9223372036854775807) (w : World) :
    Calls Try.prog 54 #[.int .i64 a, .int .i64 k] w fun e w' => e = .returned (.int .i64 ((powQ a k : Nat) : Int)) ∧ Below w.heap.size w w' := by
  rw [← runQ a k (Lib.bitLen k) (bitLen_lt k (by omega))]
  refine (callsIn_wide (n := 3)).1 ?_
  refine callsIn_of_wp_marks Try.func54 rfl trivial ?_ rfl
  simp only [Try.ntmps54, List.size_toArray, List.length_cons, List.length_nil, Nat.reduceAdd, Nat.reduceSub, Array.replicate_succ, Array.replicate_zero, List.push_toArray, List.append_toArray, List.nil_append, List.cons_append]
  gi_wp2_with (refine ⟨trivial, ?_⟩; gi_at_call 67; refine (callsIn_wide.2 (binary_any k _)).mono ?_; rintro e w' ⟨rfl, rfl⟩)
  have ba := (((Boxed.new w 3 (.int .i64 a)).alloc (.cells #[.int .i64 1] 3)).alloc (.cells #[(.func (.func 66) #[] #[.pointer (some ⟨w.heap.size + 1, 0, none⟩)])] 62)).alloc (.cells #[.int .i64 k] 3)
  have bc := ((Boxed.new (w.alloc (.cells #[.int .i64 a] 3)) 3 (.int .i64 1)).alloc (.cells #[(.func (.func 66) #[] #[.pointer (some ⟨w.heap.size + 1, 0, none⟩)])] 62)).alloc (.cells #[.int .i64 k] 3)
  have bt := (Boxed.new ((w.alloc (.cells #[.int .i64 a] 3)).alloc (.cells #[.int .i64 1] 3)) 62 (.func (.func 66) #[] #[.pointer (some ⟨w.heap.size + 1, 0, none⟩)])).alloc (.cells #[.int .i64 k] 3)
  have bk := (Boxed.new (((w.alloc (.cells #[.int .i64 a] 3)).alloc (.cells #[.int .i64 1] 3)).alloc (.cells #[(.func (.func 66) #[] #[.pointer (some ⟨w.heap.size + 1, 0, none⟩)])] 62)) 3 (.int .i64 k)).cell
  have hB0 : Below w.heap.size w ((((w.alloc (.cells #[.int .i64 a] 3)).alloc (.cells #[.int .i64 1] 3)).alloc (.cells #[(.func (.func 66) #[] #[.pointer (some ⟨w.heap.size + 1, 0, none⟩)])] 62)).alloc (.cells #[.int .i64 k] 3)) := ((((Below.refl _ w).alloc (Nat.le_refl _) _).alloc (by simp) _).alloc (by simp; omega) _).alloc (by simp; omega) _
  simp only [World.size_alloc] at bc bt bk
  obtain ⟨W0, hW0⟩ : ∃ W0, (((w.alloc (.cells #[.int .i64 a] 3)).alloc (.cells #[.int .i64 1] 3)).alloc (.cells #[(.func (.func 66) #[] #[.pointer (some ⟨w.heap.size + 1, 0, none⟩)])] 62)).alloc (.cells #[.int .i64 k] 3) = W0 := ⟨_, rfl⟩
  have hsz : W0.heap.size = w.heap.size + 4 := by rw [← hW0]; simp
  rw [hW0] at ba bc bt bk hB0 ⊢
  clear hW0
  refine wpIn_rangeFunc_ownF rfl (by omega) (gf := 73) (lb := #[.pointer (some ⟨w.heap.size + 1 + 1 + 1, 0, none⟩)]) rfl trivial (enters_of Try.func73 (by kernel_rfl) rfl)
    (binary_stops 2 (by omega) (w.heap.size + 1 + 1 + 1) w.heap.size k hk W0 (by omega) bk) KeepBox.trans (keepBox_b (by omega) (by omega)) (Below.refl _ _) (fun _ => rfl)
    (fun pre W => ((Boxed W w.heap.size 3 (.int .i64 a) ∧ Boxed W (w.heap.size + 1 + 1) 62 (.func (.func 66) #[] #[.pointer (some ⟨w.heap.size + 1, 0, none⟩)])) ∧ Boxed W (w.heap.size + 1) 3 (.int .i64 ((run mulQ a pre : Nat) : Int))) ∧ Below w.heap.size W0 W)
    (fun _ _ _ => False)
    (OwnFrom.and (OwnFrom.and (OwnFrom.and (Own.from (boxed_own _ _ _) _) (Own.from (boxed_own _ _ _) _)) (Own.from (boxed_own _ _ _) _)) (ownFrom_below (by omega) (by omega)))
    (fun _ _ _ _ _ hs _ _ => hs)
    ⟨⟨⟨ba, bt⟩, bc⟩, Below.refl _ _⟩
    (fun x => { tmps := #[.int .i64 a, .int .i64 k, .pointer (some ⟨w.heap.size, 0, none⟩), undef, .int .i64 0, .pointer (some ⟨w.heap.size + 1, 0, none⟩), .pointer (some ⟨w.heap.size + 1 + 1, 0, none⟩), .bool x, (.func (.func 66) #[] #[.pointer (some ⟨w.heap.size + 1, 0, none⟩)]), .int .i64 k, .func (.func 73) #[] #[.pointer (some ⟨w.heap.size + 1 + 1 + 1, 0, none⟩)], .bool x, undef, undef, undef, undef, undef, undef, undef, undef], defers := [] }) ?assign ?body ?done ?stop
  case assign =>
    intro l x W K hK
    gi_wp2
    exact hK
  case body =>
    rintro l pre x W ⟨⟨⟨hba, hbt⟩, hbc⟩, hB⟩ _
    have hlt := runQ_lt a pre
    have hca := hba.cell
    have hct := hbt.cell
    have hcc := hbc.cell
    have hsW := hB.size
    have hm1 := mulQ_lt (run mulQ a pre) (run mulQ a pre)
    have hstep : step mulQ a (run mulQ a pre) x = run mulQ a (pre ++ [x]) := (run_snoc _ _ _ _).symm
    have Hstep := Lib.hid hstep
    clear hstep
    gi_wp2_with fail
    refine ⟨trivial, ?_⟩
    refine (CallsIn.inRound l (callsIn_wide.2 (times1_any _ _ _ hlt hlt _ hbc))).mono ?_
    rintro e W2 ⟨rfl, W1, hb1, e2⟩
    obtain ⟨hba2, hbt2, hbc2, hk1, hko1⟩ := times_round (n0 := w.heap.size) (Bk := w.heap.size + 1 + 1 + 1) hb1 e2 hba hbt hbc (by omega) (by omega) (by omega) (by omega) (by omega) (by omega)
    clear e2 hb1
    have hca2 := hba2.cell
    have hct2 := hbt2.cell
    have hcc2 := hbc2.cell
    clear hca hct hcc
    cases x with
    | false =>
      gi_wp2_with fail
      exact ⟨hko1, hk1, ⟨⟨⟨hba2, hbt2⟩, by rw [← Hstep.out]; exact hbc2⟩, hB.trans hk1.1⟩⟩
    | true =>
      gi_wp2_with fail
      refine ⟨trivial, ?_⟩
      refine (CallsIn.inRound l (callsIn_wide.2 (times1_any _ _ _ ha hm1 _ hbc2))).mono ?_
      rintro e W4 ⟨rfl, W3, hb3, e4⟩
      have hsz2 : W.heap.size ≤ W2.heap.size := hk1.1.size
      obtain ⟨hba4, hbt4, hbc4, hk2, hko2⟩ := times_round (n0 := w.heap.size) (Bk := w.heap.size + 1 + 1 + 1) hb3 e4 hba2 hbt2 hbc2 (by omega) (by omega) (by omega) (by omega) (by omega) (by omega)
      clear e4 hb3 hca2 hct2 hcc2
      gi_wp2_with fail
      exact ⟨hko1.trans hko2, hk1.trans hk2, ⟨⟨⟨hba4, hbt4⟩, by rw [← Hstep.out]; exact hbc4⟩, hB.trans (hk1.trans hk2).1⟩⟩
  case done =>
    rintro D ys W hD rfl ⟨⟨_, hbc⟩, hB⟩ hK
    have hcc := hbc.cell
    gi_wp2
    refine ⟨by simp, .inl ⟨_, _, rfl, run_takeDeferred hK, ?_⟩⟩
    exact ⟨_, results_tmp rfl _ _ _, rfl, (hB0.trans hB).trans (belowK_b (w := w) (Nat.le_refl _) W D _ _ (by omega) hK rfl rfl)⟩
  case stop =>
    rintro D c pre W _ _ h _
    exact h.elim

end Go.Proofs.Ytajcpbchpcnmaaa
