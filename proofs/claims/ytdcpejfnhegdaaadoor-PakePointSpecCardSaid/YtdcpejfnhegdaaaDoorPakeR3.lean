/- The reference of package pake: Proof, Accept. -/
import Derived.Test.YtdcpejfnhegdaaaDoorPakeR2
set_option linter.unusedVariables false
set_option linter.unusedSimpArgs false
namespace Go.Proofs.YtdcpejfnhegdaaaDoor
open Go.RowKit
set_option maxRecDepth 100000 in
set_option maxHeartbeats 4000000 in
theorem rproved_any (r c x p : Int) (w : World) :
    Calls Tryd.prog 27 #[.agg #[.int .i64 r, .int .i64 c, .int .i64 x], .int .i64 p] w fun e w' => e = .returned (.tuple #[digV (provedL r c x p), .int .i64 (sharedE r c x p)]) ∧ Below w.heap.size w w' := by
  have C1 := fun W => rshared_any r c x p W
  have C2 := fun W => rproof_any (sharedL r c x p) (sharedL_len r c x p) r W
  have he := sharedE_01 r c x p
  unfold provedL
  unfold digV at *
  obtain ⟨f, hf⟩ : ∃ f, (fun i => vB ((sharedL r c x p).getD i 0)) = f := ⟨_, rfl⟩
  obtain ⟨l, hl⟩ : ∃ l, sharedL r c x p = l := ⟨_, rfl⟩
  have g1 : ∀ j, j < 32 → (f j).oneCell' = true := by intro j _; rw [← hf]; rfl
  rw [hf] at C1 C2
  rw [hl] at C2 ⊢
  obtain ⟨e, hee⟩ : ∃ e, sharedE r c x p = e := ⟨_, rfl⟩
  rw [hee] at C1 he ⊢
  have H1 := Lib.hid C1; have G1 := Lib.hid g1
  clear C1 g1 hf hee hl
  rcases he with rfl | rfl
  · rw [if_pos rfl]
    obtain ⟨g, hg⟩ : ∃ f, (fun i => vB ((proofL l r).getD i 0)) = f := ⟨_, rfl⟩
    have g2 : ∀ j, j < 32 → (g j).oneCell' = true := by intro j _; rw [← hg]; rfl
    rw [hg] at C2 ⊢
    have H2 := Lib.hid C2; have G2 := Lib.hid g2
    clear C2 g2 hg
    go_enter Tryd.func27, Tryd.ntmps27
    have B0 := Lib.hid (Below.refl w.heap.size w)
    go_upto_region 1 with fail
    obtain ⟨w1, hw1⟩ : ∃ y, w.alloc (.cells #[.int .i64 r, .int .i64 c, .int .i64 x] 33) = y := ⟨_, rfl⟩
    have b1 : Below w.heap.size w w1 := by rw [← hw1]; exact (Below.refl _ _).alloc (Nat.le_refl _) _
    have S1 : Hid (RowV w1 w.heap.size 33 3 (sideF r c x)) := Lib.hid (by rw [← hw1]; exact RowV.new w _ 3 (sideF r c x))
    have z1 : w.heap.size + 1 = w1.heap.size := by rw [← hw1]; exact (Array.size_push _).symm
    rw [hw1]
    (try rw [z1])
    have B1 := Lib.hid (B0.out.trans (b1.mono B0.out.size))
    clear b1 hw1 z1 B0
    have LT := Lib.hid B1.out.size
    obtain ⟨w2, hw2⟩ : ∃ y, w1.alloc (.cells #[.int .u8 0, .int .u8 0, .int .u8 0, .int .u8 0, .int .u8 0, .int .u8 0, .int .u8 0, .int .u8 0, .int .u8 0, .int .u8 0, .int .u8 0, .int .u8 0, .int .u8 0, .int .u8 0, .int .u8 0, .int .u8 0, .int .u8 0, .int .u8 0, .int .u8 0, .int .u8 0, .int .u8 0, .int .u8 0, .int .u8 0, .int .u8 0, .int .u8 0, .int .u8 0, .int .u8 0, .int .u8 0, .int .u8 0, .int .u8 0, .int .u8 0, .int .u8 0] 29) = y := ⟨_, rfl⟩
    have b2 : Below w1.heap.size w1 w2 := by rw [← hw2]; exact (Below.refl _ _).alloc (Nat.le_refl _) _
    have D2 : Hid (RowV w2 w1.heap.size 29 32 (fun _ => vB 0)) := Lib.hid (by rw [← hw2]; exact RowV.new w1 _ 32 (fun _ => vB 0))
    have z2 : w1.heap.size + 1 = w2.heap.size := by rw [← hw2]; exact (Array.size_push _).symm
    rw [hw2]
    (try rw [z2])
    have B2 := Lib.hid (B1.out.trans (b2.mono B1.out.size))
    have S2 := Lib.hid (S1.out.below b2)
    clear b2 hw2 z2 B1 S1
    have x0 : _ = some (Value.int .i64 r) := S2.out.cell (i := 0) (by decide)
    have x1 : _ = some (Value.int .i64 c) := S2.out.cell (i := 1) (by decide)
    have x2 : _ = some (Value.int .i64 x) := S2.out.cell (i := 2) (by decide)
    go_wp2_with fail
    refine (H1.out _).mono ?_
    rintro e w3 ⟨rfl, b3⟩
    have B3 := Lib.hid (B2.out.trans (b3.mono B2.out.size))
    have S3 := Lib.hid (S2.out.below b3)
    have D3 := Lib.hid (D2.out.below b3)
    clear b3 B2 S2 D2
    clear x0 x1 x2
    have Zr := Lib.hid (RowV.new w3 38 32 (fun _ => vB 0))
    go_upto_region 2 with ((with_reducible (show wpList _ _ _ (Oper.mk none _ _ _ _ _ :: _) _ _)); refine wpList_store_rowV (o := ⟨none, .store 38 (.tmp 6) (.tmp 12), _, _, _, _⟩) rfl 38 (.tmp 6) (.tmp 12) rfl w3.heap.size rfl 32 38 _ f rfl Zr.out (by kernel_rfl) G1.out ?_; intro w4 Y4 o4)
    have b4 : Below w3.heap.size w3 w4 := ((Below.refl _ _).alloc (Nat.le_refl _) _).trans (o4.out.below (Nat.le_refl _) (by rw [World.size_alloc]; omega))
    have B4 := Lib.hid (B3.out.trans (b4.mono B3.out.size))
    have S4 := Lib.hid (S3.out.below b4)
    have D4 := Lib.hid (D3.out.below b4)
    clear b4 o4 Zr B3 S3 D3
    have x0 : _ = some (Value.int .i64 r) := S4.out.cell (i := 0) (by decide)
    go_wp2_with ((with_reducible (show wpList _ _ _ (Oper.mk (some 18) _ _ _ _ _ :: _) _ _)); refine wpList_load_rowV rfl 38 (.tmp 6) rfl w3.heap.size rfl 32 38 _ Y4.out _ Tryd.underlying38 rfl (by kernel_rfl) ?_)
    refine (H2.out _).mono ?_
    rintro e w5 ⟨rfl, b5⟩
    have B5 := Lib.hid (B4.out.trans (b5.mono B4.out.size))
    have D5 := Lib.hid (D4.out.below b5)
    clear b5 x0
    go_wp2_with ((with_reducible (show wpList _ _ _ (Oper.mk none _ _ _ _ _ :: _) _ _)); refine wpList_store_rowV (o := ⟨none, .store 29 (.tmp 4) (.tmp 21), _, _, _, _⟩) rfl 29 (.tmp 4) (.tmp 21) rfl w1.heap.size rfl 32 29 _ g rfl D5.out (by kernel_rfl) G2.out ?_; intro w6 R6 O6)
    refine bodyPost_ret (v := .tuple #[.agg (rowF 32 g), .int .i64 0]) (by exact results_rowV2 (fn := Tryd.f27) (p := 4) (u := 5) (ty := 29) rfl _ _ w1.heap.size 32 29 _ _ rfl R6.out Tryd.underlying29 rfl (by kernel_rfl)) rfl ⟨rfl, ?_⟩
    exact B5.out.trans (O6.out.below LT.out B5.out.size)
  · rw [if_neg (by decide)]
    have ez : rowF 32 (fun i => vB (zero32.getD i 0)) = rowF 32 (fun _ => vB 0) := rfl
    rw [ez]
    clear ez C2
    go_enter Tryd.func27, Tryd.ntmps27
    have B0 := Lib.hid (Below.refl w.heap.size w)
    go_upto_region 1 with fail
    obtain ⟨w1, hw1⟩ : ∃ y, w.alloc (.cells #[.int .i64 r, .int .i64 c, .int .i64 x] 33) = y := ⟨_, rfl⟩
    have b1 : Below w.heap.size w w1 := by rw [← hw1]; exact (Below.refl _ _).alloc (Nat.le_refl _) _
    have S1 : Hid (RowV w1 w.heap.size 33 3 (sideF r c x)) := Lib.hid (by rw [← hw1]; exact RowV.new w _ 3 (sideF r c x))
    have z1 : w.heap.size + 1 = w1.heap.size := by rw [← hw1]; exact (Array.size_push _).symm
    rw [hw1]
    (try rw [z1])
    have B1 := Lib.hid (B0.out.trans (b1.mono B0.out.size))
    clear b1 hw1 z1 B0
    have LT := Lib.hid B1.out.size
    obtain ⟨w2, hw2⟩ : ∃ y, w1.alloc (.cells #[.int .u8 0, .int .u8 0, .int .u8 0, .int .u8 0, .int .u8 0, .int .u8 0, .int .u8 0, .int .u8 0, .int .u8 0, .int .u8 0, .int .u8 0, .int .u8 0, .int .u8 0, .int .u8 0, .int .u8 0, .int .u8 0, .int .u8 0, .int .u8 0, .int .u8 0, .int .u8 0, .int .u8 0, .int .u8 0, .int .u8 0, .int .u8 0, .int .u8 0, .int .u8 0, .int .u8 0, .int .u8 0, .int .u8 0, .int .u8 0, .int .u8 0, .int .u8 0] 29) = y := ⟨_, rfl⟩
    have b2 : Below w1.heap.size w1 w2 := by rw [← hw2]; exact (Below.refl _ _).alloc (Nat.le_refl _) _
    have D2 : Hid (RowV w2 w1.heap.size 29 32 (fun _ => vB 0)) := Lib.hid (by rw [← hw2]; exact RowV.new w1 _ 32 (fun _ => vB 0))
    have z2 : w1.heap.size + 1 = w2.heap.size := by rw [← hw2]; exact (Array.size_push _).symm
    rw [hw2]
    (try rw [z2])
    have B2 := Lib.hid (B1.out.trans (b2.mono B1.out.size))
    have S2 := Lib.hid (S1.out.below b2)
    clear b2 hw2 z2 B1 S1
    have x0 : _ = some (Value.int .i64 r) := S2.out.cell (i := 0) (by decide)
    have x1 : _ = some (Value.int .i64 c) := S2.out.cell (i := 1) (by decide)
    have x2 : _ = some (Value.int .i64 x) := S2.out.cell (i := 2) (by decide)
    go_wp2_with fail
    refine (H1.out _).mono ?_
    rintro e w3 ⟨rfl, b3⟩
    have B3 := Lib.hid (B2.out.trans (b3.mono B2.out.size))
    have S3 := Lib.hid (S2.out.below b3)
    have D3 := Lib.hid (D2.out.below b3)
    clear b3 B2 S2 D2
    clear x0 x1 x2
    have Zr := Lib.hid (RowV.new w3 38 32 (fun _ => vB 0))
    go_upto_region 2 with ((with_reducible (show wpList _ _ _ (Oper.mk none _ _ _ _ _ :: _) _ _)); refine wpList_store_rowV (o := ⟨none, .store 38 (.tmp 6) (.tmp 12), _, _, _, _⟩) rfl 38 (.tmp 6) (.tmp 12) rfl w3.heap.size rfl 32 38 _ f rfl Zr.out (by kernel_rfl) G1.out ?_; intro w4 Y4 o4)
    have b4 : Below w3.heap.size w3 w4 := ((Below.refl _ _).alloc (Nat.le_refl _) _).trans (o4.out.below (Nat.le_refl _) (by rw [World.size_alloc]; omega))
    have B4 := Lib.hid (B3.out.trans (b4.mono B3.out.size))
    have S4 := Lib.hid (S3.out.below b4)
    have D4 := Lib.hid (D3.out.below b4)
    clear b4 o4 Zr B3 S3 D3
    go_wp2_with ((with_reducible (show wpList _ _ _ (Oper.mk none _ _ _ _ _ :: _) _ _)); refine wpList_store_rowV (o := ⟨none, .store 29 (.tmp 4) (.tmp 16), _, _, _, _⟩) rfl 29 (.tmp 4) (.tmp 16) rfl w1.heap.size rfl 32 29 _ (fun _ => vB 0) rfl D4.out (by kernel_rfl) (fun _ _ => rfl) ?_; intro w9 R9 O9)
    refine bodyPost_ret (v := .tuple #[.agg (rowF 32 (fun _ => vB 0)), .int .i64 100]) (by exact results_rowV2 (fn := Tryd.f27) (p := 4) (u := 5) (ty := 29) rfl _ _ w1.heap.size 32 29 _ _ rfl R9.out Tryd.underlying29 rfl (by kernel_rfl)) rfl ⟨rfl, ?_⟩
    exact B4.out.trans (O9.out.below LT.out B4.out.size)
set_option maxRecDepth 100000 in
set_option maxHeartbeats 4000000 in
theorem raccept_any (r c x p : Int) (d : List UInt8) (hd : d.length = 32) (w : World) :
    Calls Tryd.prog 29 #[.agg #[.int .i64 r, .int .i64 c, .int .i64 x], .int .i64 p, digV d] w fun e w' => e = .returned (.tuple #[.bool (acceptB r c x p d), .int .i64 (sharedE r c x p)]) ∧ Below w.heap.size w w' := by
  have C1 := fun W => rshared_any r c x p W
  have C2 := fun W => rproof_any (sharedL r c x p) (sharedL_len r c x p) (3 - r) W
  have he := sharedE_01 r c x p
  have hs := fun h => sharedE_side (r := r) (c := c) (x := x) (p := p) h
  have hpl := proofL_len (sharedL r c x p) (3 - r)
  have heq : ∀ W, (binOp .eql 29 (digV d) (digV (proofL (sharedL r c x p) (3 - r)))).run Tryd.prog W = .ok (.bool (d == proofL (sharedL r c x p) (3 - r))) W := fun W => eql_dig W _ Tryd.underlying29 hd hpl
  have hgu : ∀ a b W, (eqGuard .eql 29 a b (digV d) (digV (proofL (sharedL r c x p) (3 - r)))).run Tryd.prog W = .ok () W := fun a b W => guard_dig W _ _ a b _ _ (by kernel_rfl)
  unfold acceptB
  obtain ⟨ans, hans⟩ : ∃ b, (d == proofL (sharedL r c x p) (3 - r)) = b := ⟨_, rfl⟩
  rw [hans] at heq ⊢
  unfold digV at *
  obtain ⟨f, hf⟩ : ∃ f, (fun i => vB ((sharedL r c x p).getD i 0)) = f := ⟨_, rfl⟩
  obtain ⟨g, hg⟩ : ∃ f, (fun i => vB ((proofL (sharedL r c x p) (3 - r)).getD i 0)) = f := ⟨_, rfl⟩
  obtain ⟨h, hh⟩ : ∃ f, (fun i => vB (d.getD i 0)) = f := ⟨_, rfl⟩
  have g1 : ∀ j, j < 32 → (f j).oneCell' = true := by intro j _; rw [← hf]; rfl
  rw [hf] at C1 C2
  rw [hg] at C2 heq hgu
  rw [hh] at heq hgu ⊢
  obtain ⟨e, hee⟩ : ∃ e, sharedE r c x p = e := ⟨_, rfl⟩
  rw [hee] at C1 he hs ⊢
  have H1 := Lib.hid C1; have H2 := Lib.hid C2; have G1 := Lib.hid g1; have HEQ := Lib.hid heq; have HGU := Lib.hid hgu
  clear C1 C2 g1 hf hg hh hee hans hpl hd heq hgu
  rcases he with rfl | rfl
  · rw [if_pos rfl]
    have e3 : IntKind.i64.wrap (3 - r) = 3 - r := IntWalk.i64_in _ (by have := hs rfl; omega)
    have hr1 := (hs rfl).1
    have hr2 := (hs rfl).2
    clear hs
    go_enter Tryd.func29, Tryd.ntmps29
    have B0 := Lib.hid (Below.refl w.heap.size w)
    go_upto_region 1 with fail
    obtain ⟨w1, hw1⟩ : ∃ y, w.alloc (.cells #[.int .i64 r, .int .i64 c, .int .i64 x] 33) = y := ⟨_, rfl⟩
    have b1 : Below w.heap.size w w1 := by rw [← hw1]; exact (Below.refl _ _).alloc (Nat.le_refl _) _
    have S1 : Hid (RowV w1 w.heap.size 33 3 (sideF r c x)) := Lib.hid (by rw [← hw1]; exact RowV.new w _ 3 (sideF r c x))
    have z1 : w.heap.size + 1 = w1.heap.size := by rw [← hw1]; exact (Array.size_push _).symm
    rw [hw1]
    (try rw [z1])
    have B1 := Lib.hid (B0.out.trans (b1.mono B0.out.size))
    clear b1 hw1 z1 B0
    obtain ⟨w2, hw2⟩ : ∃ y, w1.alloc (.cells (rowF 32 h) 29) = y := ⟨_, rfl⟩
    have b2 : Below w1.heap.size w1 w2 := by rw [← hw2]; exact (Below.refl _ _).alloc (Nat.le_refl _) _
    have D2 : Hid (RowV w2 w1.heap.size 29 32 h) := Lib.hid (by rw [← hw2]; exact RowV.new w1 _ 32 h)
    have z2 : w1.heap.size + 1 = w2.heap.size := by rw [← hw2]; exact (Array.size_push _).symm
    rw [hw2]
    (try rw [z2])
    have B2 := Lib.hid (B1.out.trans (b2.mono B1.out.size))
    have S2 := Lib.hid (S1.out.below b2)
    clear b2 hw2 z2 B1 S1
    have x0 : _ = some (Value.int .i64 r) := S2.out.cell (i := 0) (by decide)
    have x1 : _ = some (Value.int .i64 c) := S2.out.cell (i := 1) (by decide)
    have x2 : _ = some (Value.int .i64 x) := S2.out.cell (i := 2) (by decide)
    go_wp2_with fail
    refine (H1.out _).mono ?_
    rintro e w3 ⟨rfl, b3⟩
    have B3 := Lib.hid (B2.out.trans (b3.mono B2.out.size))
    have S3 := Lib.hid (S2.out.below b3)
    have D3 := Lib.hid (D2.out.below b3)
    clear b3 B2 S2 D2
    clear x0 x1 x2
    have Zr := Lib.hid (RowV.new w3 38 32 (fun _ => vB 0))
    go_upto_region 2 with ((with_reducible (show wpList _ _ _ (Oper.mk none _ _ _ _ _ :: _) _ _)); refine wpList_store_rowV (o := ⟨none, .store 38 (.tmp 8) (.tmp 14), _, _, _, _⟩) rfl 38 (.tmp 8) (.tmp 14) rfl w3.heap.size rfl 32 38 _ f rfl Zr.out (by kernel_rfl) G1.out ?_; intro w4 Y4 o4)
    have b4 : Below w3.heap.size w3 w4 := ((Below.refl _ _).alloc (Nat.le_refl _) _).trans (o4.out.below (Nat.le_refl _) (by rw [World.size_alloc]; omega))
    have B4 := Lib.hid (B3.out.trans (b4.mono B3.out.size))
    have S4 := Lib.hid (S3.out.below b4)
    have D4 := Lib.hid (D3.out.below b4)
    clear b4 o4 Zr B3 S3 D3
    go_upto_region 4 with fail
    have x0 : _ = some (Value.int .i64 r) := S4.out.cell (i := 0) (by decide)
    have q3 := HEQ.out
    have q4 := HGU.out
    have qx0 := fun d os => cell_regrown x0 d os
    clear x0
    have D0 := Lib.hid (fun (W : World) (b : Below w4.heap.size w4 W) => H2.out W)
    refine wp_region_quiet_below (by kernel_rfl) (by kernel_rfl) ?_
    refine quiet_load_rowV rfl 29 (.tmp 5) rfl w1.heap.size rfl 32 29 _ D4.out _ Tryd.underlying29 rfl (by kernel_rfl) ?_
    refine quiet_load_rowV rfl 38 (.tmp 8) rfl w3.heap.size rfl 32 38 _ Y4.out _ Tryd.underlying38 rfl (by kernel_rfl) ?_
    repeat (quiet_step (with_reducible exact qbelow D0.out _ _))
    refine wpQuiet_nil ?_
    intro w5 hw5
    have b5 := regrown_below hw5
    have B5 := Lib.hid (B4.out.trans (b5.mono B4.out.size))
    clear hw5 b5 qx0 q3 q4 D0
    go_wp2_with fail
    go_ret2
    exact ⟨rfl, B5.out⟩
  · rw [if_neg (by decide)]
    clear hs
    go_enter Tryd.func29, Tryd.ntmps29
    have B0 := Lib.hid (Below.refl w.heap.size w)
    go_upto_region 1 with fail
    obtain ⟨w1, hw1⟩ : ∃ y, w.alloc (.cells #[.int .i64 r, .int .i64 c, .int .i64 x] 33) = y := ⟨_, rfl⟩
    have b1 : Below w.heap.size w w1 := by rw [← hw1]; exact (Below.refl _ _).alloc (Nat.le_refl _) _
    have S1 : Hid (RowV w1 w.heap.size 33 3 (sideF r c x)) := Lib.hid (by rw [← hw1]; exact RowV.new w _ 3 (sideF r c x))
    have z1 : w.heap.size + 1 = w1.heap.size := by rw [← hw1]; exact (Array.size_push _).symm
    rw [hw1]
    (try rw [z1])
    have B1 := Lib.hid (B0.out.trans (b1.mono B0.out.size))
    clear b1 hw1 z1 B0
    obtain ⟨w2, hw2⟩ : ∃ y, w1.alloc (.cells (rowF 32 h) 29) = y := ⟨_, rfl⟩
    have b2 : Below w1.heap.size w1 w2 := by rw [← hw2]; exact (Below.refl _ _).alloc (Nat.le_refl _) _
    have z2 : w1.heap.size + 1 = w2.heap.size := by rw [← hw2]; exact (Array.size_push _).symm
    rw [hw2]
    (try rw [z2])
    have B2 := Lib.hid (B1.out.trans (b2.mono B1.out.size))
    have S2 := Lib.hid (S1.out.below b2)
    clear b2 hw2 z2 B1 S1
    have x0 : _ = some (Value.int .i64 r) := S2.out.cell (i := 0) (by decide)
    have x1 : _ = some (Value.int .i64 c) := S2.out.cell (i := 1) (by decide)
    have x2 : _ = some (Value.int .i64 x) := S2.out.cell (i := 2) (by decide)
    go_wp2_with fail
    refine (H1.out _).mono ?_
    rintro e w3 ⟨rfl, b3⟩
    have B3 := Lib.hid (B2.out.trans (b3.mono B2.out.size))
    have S3 := Lib.hid (S2.out.below b3)
    clear b3 B2 S2
    clear x0 x1 x2
    have Zr := Lib.hid (RowV.new w3 38 32 (fun _ => vB 0))
    go_upto_region 2 with ((with_reducible (show wpList _ _ _ (Oper.mk none _ _ _ _ _ :: _) _ _)); refine wpList_store_rowV (o := ⟨none, .store 38 (.tmp 8) (.tmp 14), _, _, _, _⟩) rfl 38 (.tmp 8) (.tmp 14) rfl w3.heap.size rfl 32 38 _ f rfl Zr.out (by kernel_rfl) G1.out ?_; intro w4 Y4 o4)
    have b4 : Below w3.heap.size w3 w4 := ((Below.refl _ _).alloc (Nat.le_refl _) _).trans (o4.out.below (Nat.le_refl _) (by rw [World.size_alloc]; omega))
    have B4 := Lib.hid (B3.out.trans (b4.mono B3.out.size))
    have S4 := Lib.hid (S3.out.below b4)
    clear b4 o4 Zr B3 S3
    go_wp2_with fail
    go_ret2
    exact ⟨rfl, B4.out⟩
end Go.Proofs.YtdcpejfnhegdaaaDoor
