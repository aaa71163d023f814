/- Package pake: Accept. -/
import Derived.Test.YtdcpejfnhegdaaaDoorPake5
set_option linter.unusedVariables false
set_option linter.unusedSimpArgs false
namespace Go.Proofs.YtdcpejfnhegdaaaDoor
open Go.RowKit
/-- the whole array, read in a quiet region -/
theorem quiet_load_rowV {P : Program} {w : World} {ops : Array Oper} {rest : List Oper} {o : Oper} {a : Act} {Q : Act → Prop} (hgd : o.guard = none) (ty : TypeId) (x : Operand) (ho : o.op = .load ty x) (g : Nat) (hx : a.eval x = .pointer (some ⟨g, 0, none⟩)) (N : Nat) (T : TypeId) (f : Nat → Value) (hrow : RowV w g T N f)
    (d : TypeDesc) (hu : P.underlying ty = some d) (hd : (match d with | .struct _ | .array _ _ => true | _ => false) = true) (hi : (P.info? ty).map (·.size) = some N)
    (h : wpQuiet P ops (Ext w) Q rest (a.put o.dst (.agg (rowF N f)))) : wpQuiet P ops (Ext w) Q (o :: rest) a := by
  unfold wpQuiet
  rw [if_pos (by unfold Region.wanted; rw [hgd])]
  refine ⟨.agg (rowF N f), fun W hW => ?_, h⟩
  have hr : RowV W g T N f := hrow.below (regrown_below hW)
  have hrun := run_loadVar_row (P := P) W g T ty (rowF N f) (0, 0) d hr hu hd (by rw [rowF_size]; exact hi)
  unfold Oper.quietAt execOp
  simp only [ho, hx, Instr.loadAt, Instr.sureAddr, Sem.run_bind, Sem.run_pure, Result.andThen_ok, hrun, Oper.quietUpon, and_self]
/-- what Accept answers -/
def acceptB (r c x p : Int) (d : List UInt8) : Bool := if sharedE r c x p = 0 then d == proofL (sharedL r c x p) (3 - r) else false
theorem sharedE_side {r c x p : Int} (h : sharedE r c x p = 0) : 1 ≤ r ∧ r ≤ 2 := by
  unfold sharedE at h
  split at h
  · rename_i h1
    rw [Bool.and_eq_true] at h1
    have := h1.1
    unfold sideB at this
    simp only [decide_eq_true_eq] at this
    omega
  · cases h
set_option maxRecDepth 100000 in
set_option maxHeartbeats 4000000 in
theorem accept_any (r c x p : Int) (d : List UInt8) (hd : d.length = 32) (w : World) (hT : Tab w) :
    Calls Tryd.prog 28 #[.agg #[.int .i64 r, .int .i64 c, .int .i64 x], .int .i64 p, digV d] w fun e w' => e = .returned (.tuple #[.bool (acceptB r c x p d), .int .i64 (sharedE r c x p)]) ∧ Below w.heap.size w w' := by
  have C1 := fun W h => shared_any r c x p W h
  have C2 := fun W h => proof_any (sharedL r c x p) (sharedL_len r c x p) (3 - r) W h
  have he := sharedE_01 r c x p
  have hs := fun h => sharedE_side (r := r) (c := c) (x := x) (p := p) h
  have hpl := proofL_len (sharedL r c x p) (3 - r)
  have heq : ∀ W, (binOp .eql 29 (digV d) (digV (proofL (sharedL r c x p) (3 - r)))).run Tryd.prog W = .ok (.bool (d == proofL (sharedL r c x p) (3 - r))) W := fun W => eql_dig W _ Tryd.underlying29 hd hpl
  have hgu : ∀ a b W, (eqGuard .eql 29 a b (digV d) (digV (proofL (sharedL r c x p) (3 - r)))).run Tryd.prog W = .ok () W := fun a b W => guard_dig W _ _ a b _ _ (by kernel_rfl)
  unfold acceptB
  obtain ⟨ans, hans⟩ : ∃ b, (d == proofL (sharedL r c x p) (3 - r)) = b := ⟨_, rfl⟩
  rw [hans] at heq ⊢
  unfold digV at *
  obtain ⟨f, hf⟩ : ∃ f, (fun i => vB ((sharedL r c x p).getD i 0)) = f := ⟨_, rfl⟩
  obtain ⟨g, hg⟩ : ∃ f, (fun i => vB ((proofL (sharedL r c x p) (3 - r)).getD i 0)) = f := ⟨_, rfl⟩
  obtain ⟨h, hh⟩ : ∃ f, (fun i => vB (d.getD i 0)) = f := ⟨_, rfl⟩
  have g1 : ∀ j, j < 32 → (f j).oneCell' = true := by intro j _; rw [← hf]; rfl
  rw [hf] at C1 C2
  rw [hg] at C2 heq hgu
  rw [hh] at heq hgu ⊢
  obtain ⟨e, hee⟩ : ∃ e, sharedE r c x p = e := ⟨_, rfl⟩
  rw [hee] at C1 he hs ⊢
  have H1 := Lib.hid C1; have H2 := Lib.hid C2; have HT := Lib.hid hT; have G1 := Lib.hid g1; have HEQ := Lib.hid heq; have HGU := Lib.hid hgu
  clear C1 C2 hT g1 hf hg hh hee hans hpl hd heq hgu
  rcases he with rfl | rfl
  · rw [if_pos rfl]
    have e3 : IntKind.i64.wrap (3 - r) = 3 - r := IntWalk.i64_in _ (by have := hs rfl; omega)
    have hr1 := (hs rfl).1
    have hr2 := (hs rfl).2
    clear hs
    go_enter Tryd.func28, Tryd.ntmps28
    have B0 := Lib.hid (Below.refl w.heap.size w)
    go_upto_region 1 with fail
    obtain ⟨w1, hw1⟩ : ∃ y, w.alloc (.cells #[.int .i64 r, .int .i64 c, .int .i64 x] 33) = y := ⟨_, rfl⟩
    have b1 : Below w.heap.size w w1 := by rw [← hw1]; exact (Below.refl _ _).alloc (Nat.le_refl _) _
    have S1 : Hid (RowV w1 w.heap.size 33 3 (sideF r c x)) := Lib.hid (by rw [← hw1]; exact RowV.new w _ 3 (sideF r c x))
    have z1 : w.heap.size + 1 = w1.heap.size := by rw [← hw1]; exact (Array.size_push _).symm
    rw [hw1]
    (try rw [z1])
    have B1 := Lib.hid (B0.out.trans (b1.mono B0.out.size))
    clear b1 hw1 z1 B0
    obtain ⟨w2, hw2⟩ : ∃ y, w1.alloc (.cells (rowF 32 h) 29) = y := ⟨_, rfl⟩
    have b2 : Below w1.heap.size w1 w2 := by rw [← hw2]; exact (Below.refl _ _).alloc (Nat.le_refl _) _
    have D2 : Hid (RowV w2 w1.heap.size 29 32 h) := Lib.hid (by rw [← hw2]; exact RowV.new w1 _ 32 h)
    have z2 : w1.heap.size + 1 = w2.heap.size := by rw [← hw2]; exact (Array.size_push _).symm
    rw [hw2]
    (try rw [z2])
    have B2 := Lib.hid (B1.out.trans (b2.mono B1.out.size))
    have S2 := Lib.hid (S1.out.below b2)
    clear b2 hw2 z2 B1 S1
    have x0 : _ = some (Value.int .i64 r) := S2.out.cell (i := 0) (by decide)
    have x1 : _ = some (Value.int .i64 c) := S2.out.cell (i := 1) (by decide)
    have x2 : _ = some (Value.int .i64 x) := S2.out.cell (i := 2) (by decide)
    go_wp2_with fail
    refine (H1.out _ (HT.out.below B2.out)).mono ?_
    rintro e w3 ⟨rfl, b3⟩
    have B3 := Lib.hid (B2.out.trans (b3.mono B2.out.size))
    have S3 := Lib.hid (S2.out.below b3)
    have D3 := Lib.hid (D2.out.below b3)
    clear b3 B2 S2 D2
    clear x0 x1 x2
    have Zr := Lib.hid (RowV.new w3 38 32 (fun _ => vB 0))
    go_upto_region 2 with ((with_reducible (show wpList _ _ _ (Oper.mk none _ _ _ _ _ :: _) _ _)); refine wpList_store_rowV (o := ⟨none, .store 38 (.tmp 8) (.tmp 13), _, _, _, _⟩) rfl 38 (.tmp 8) (.tmp 13) rfl w3.heap.size rfl 32 38 _ f rfl Zr.out (by kernel_rfl) G1.out ?_; intro w4 Y4 o4)
    have b4 : Below w3.heap.size w3 w4 := ((Below.refl _ _).alloc (Nat.le_refl _) _).trans (o4.out.below (Nat.le_refl _) (by rw [World.size_alloc]; omega))
    have B4 := Lib.hid (B3.out.trans (b4.mono B3.out.size))
    have S4 := Lib.hid (S3.out.below b4)
    have D4 := Lib.hid (D3.out.below b4)
    clear b4 o4 Zr B3 S3 D3
    go_upto_region 4 with fail
    have x0 : _ = some (Value.int .i64 r) := S4.out.cell (i := 0) (by decide)
    have q3 := HEQ.out
    have q4 := HGU.out
    have qx0 := fun d os => cell_regrown x0 d os
    clear x0
    have D0 := Lib.hid (fun (W : World) (b : Below w4.heap.size w4 W) => H2.out W (HT.out.below (B4.out.trans (b.mono B4.out.size))))
    refine wp_region_quiet_below (by kernel_rfl) (by kernel_rfl) ?_
    refine quiet_load_rowV rfl 29 (.tmp 5) rfl w1.heap.size rfl 32 29 _ D4.out _ Tryd.underlying29 rfl (by kernel_rfl) ?_
    refine quiet_load_rowV rfl 38 (.tmp 8) rfl w3.heap.size rfl 32 38 _ Y4.out _ Tryd.underlying38 rfl (by kernel_rfl) ?_
    repeat (quiet_step (with_reducible exact qbelow D0.out _ _))
    refine wpQuiet_nil ?_
    intro w5 hw5
    have b5 := regrown_below hw5
    have B5 := Lib.hid (B4.out.trans (b5.mono B4.out.size))
    clear hw5 b5 qx0 q3 q4 D0
    go_wp2_with fail
    go_ret2
    exact ⟨rfl, B5.out⟩
  · rw [if_neg (by decide)]
    clear hs
    go_enter Tryd.func28, Tryd.ntmps28
    have B0 := Lib.hid (Below.refl w.heap.size w)
    go_upto_region 1 with fail
    obtain ⟨w1, hw1⟩ : ∃ y, w.alloc (.cells #[.int .i64 r, .int .i64 c, .int .i64 x] 33) = y := ⟨_, rfl⟩
    have b1 : Below w.heap.size w w1 := by rw [← hw1]; exact (Below.refl _ _).alloc (Nat.le_refl _) _
    have S1 : Hid (RowV w1 w.heap.size 33 3 (sideF r c x)) := Lib.hid (by rw [← hw1]; exact RowV.new w _ 3 (sideF r c x))
    have z1 : w.heap.size + 1 = w1.heap.size := by rw [← hw1]; exact (Array.size_push _).symm
    rw [hw1]
    (try rw [z1])
    have B1 := Lib.hid (B0.out.trans (b1.mono B0.out.size))
    clear b1 hw1 z1 B0
    obtain ⟨w2, hw2⟩ : ∃ y, w1.alloc (.cells (rowF 32 h) 29) = y := ⟨_, rfl⟩
    have b2 : Below w1.heap.size w1 w2 := by rw [← hw2]; exact (Below.refl _ _).alloc (Nat.le_refl _) _
    have z2 : w1.heap.size + 1 = w2.heap.size := by rw [← hw2]; exact (Array.size_push _).symm
    rw [hw2]
    (try rw [z2])
    have B2 := Lib.hid (B1.out.trans (b2.mono B1.out.size))
    have S2 := Lib.hid (S1.out.below b2)
    clear b2 hw2 z2 B1 S1
    have x0 : _ = some (Value.int .i64 r) := S2.out.cell (i := 0) (by decide)
    have x1 : _ = some (Value.int .i64 c) := S2.out.cell (i := 1) (by decide)
    have x2 : _ = some (Value.int .i64 x) := S2.out.cell (i := 2) (by decide)
    go_wp2_with fail
    refine (H1.out _ (HT.out.below B2.out)).mono ?_
    rintro e w3 ⟨rfl, b3⟩
    have B3 := Lib.hid (B2.out.trans (b3.mono B2.out.size))
    have S3 := Lib.hid (S2.out.below b3)
    clear b3 B2 S2
    clear x0 x1 x2
    have Zr := Lib.hid (RowV.new w3 38 32 (fun _ => vB 0))
    go_upto_region 2 with ((with_reducible (show wpList _ _ _ (Oper.mk none _ _ _ _ _ :: _) _ _)); refine wpList_store_rowV (o := ⟨none, .store 38 (.tmp 8) (.tmp 13), _, _, _, _⟩) rfl 38 (.tmp 8) (.tmp 13) rfl w3.heap.size rfl 32 38 _ f rfl Zr.out (by kernel_rfl) G1.out ?_; intro w4 Y4 o4)
    have b4 : Below w3.heap.size w3 w4 := ((Below.refl _ _).alloc (Nat.le_refl _) _).trans (o4.out.below (Nat.le_refl _) (by rw [World.size_alloc]; omega))
    have B4 := Lib.hid (B3.out.trans (b4.mono B3.out.size))
    have S4 := Lib.hid (S3.out.below b4)
    clear b4 o4 Zr B3 S3
    go_wp2_with fail
    go_ret2
    exact ⟨rfl, B4.out⟩
end Go.Proofs.YtdcpejfnhegdaaaDoor
