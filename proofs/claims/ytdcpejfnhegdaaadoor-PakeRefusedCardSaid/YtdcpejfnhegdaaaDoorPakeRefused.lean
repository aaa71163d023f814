/- PakeRefused returns true for every input. No condition beyond the card's own: the two tables of package digest are tied to the program's text. -/
import Derived.Test.YtdcpejfnhegdaaaDoorPakeL
import Derived.Test.YtdcpejfnhegdaaaDoorLaid
import Derived.Test.YtdcpejfnhegdaaaDoorCards
namespace Go.Proofs.YtdcpejfnhegdaaaDoor.pakeRefused
open Go.ChangeShapes Go.WideShapes Go.ChangeAt Go.RowKit
open Go.ChangeMaps (open_string shut_string)
set_option linter.unusedVariables false
set_option linter.unusedSimpArgs false

set_option maxRecDepth 100000 in
set_option maxHeartbeats 8000000 in
theorem walk {w : World} (r c x : Int) (wr : (Lit.int .i64 r).wf = true) (wc : (Lit.int .i64 c).wf = true) (wx : (Lit.int .i64 x).wf = true) (p : Int) (wp : (Lit.int .i64 p).wf = true) (d : List UInt8) (hd : d.length = 32) (hT : Tab w) :
    Calls Tryd.prog 9 #[.agg #[.int .i64 r, .int .i64 c, .int .i64 x], .int .i64 p, digV d] w fun e w' => e = .returned (.bool true) ∧ Below w.heap.size w w' := by
  have C1 := Lib.hid (fun W hT => sane10_any W hT)
  have c2 := fun W => check10_any r c x W
  have c3 := fun W => check_any p W
  have c4 := fun W h => shared_any r c x p W h
  have c5 := fun W h => proved_any r c x p W h
  have c6 := fun W h => accept_any r c x p d hd W h
  have he : (chkS r c x = 0 ∧ chk p = 0 ∧ sharedE r c x p = 0) ∨ ((chkS r c x = 100 ∨ (chkS r c x = 0 ∧ chk p = 40)) ∧ sharedE r c x p = 100 ∧ sharedL r c x p = zero32 ∧ provedL r c x p = zero32 ∧ acceptB r c x p d = false) := by
    unfold provedL acceptB sharedE sharedL chkS chk
    cases sideB r c x <;> cases elemB p <;> simp
  have T := Lib.hid hT
  have zl1 := neq_zero 38 Tryd.underlying38
  have zl2 := neq_zero 29 Tryd.underlying29
  have zg1 := guard_zero 38 (by kernel_rfl)
  have zg2 := guard_zero 29 (by kernel_rfl)
  rcases he with ⟨e1, e2, e3⟩ | ⟨e1, e3, e4, e5, e6⟩
  · rw [e1] at c2
    rw [e2] at c3
    rw [e3] at c4 c5 c6
    unfold digV at *
    obtain ⟨f, hf⟩ : ∃ f, (fun i => vB ((sharedL r c x p).getD i 0)) = f := ⟨_, rfl⟩
    obtain ⟨g, hg⟩ : ∃ f, (fun i => vB ((provedL r c x p).getD i 0)) = f := ⟨_, rfl⟩
    obtain ⟨h, hh⟩ : ∃ f, (fun i => vB (d.getD i 0)) = f := ⟨_, rfl⟩
    obtain ⟨ok, hok⟩ : ∃ b, acceptB r c x p d = b := ⟨_, rfl⟩
    have f1 : ∀ j, j < 32 → (f j).oneCell' = true := by intro j _; rw [← hf]; rfl
    have g1 : ∀ j, j < 32 → (g j).oneCell' = true := by intro j _; rw [← hg]; rfl
    rw [hf] at c4
    rw [hg] at c5
    rw [hh, hok] at c6
    rw [hh]
    have H2 := Lib.hid c2; have H3 := Lib.hid c3; have H4 := Lib.hid c4; have H5 := Lib.hid c5; have H6 := Lib.hid c6; have F1 := Lib.hid f1; have G1 := Lib.hid g1
    clear c2 c3 c4 c5 c6 f1 g1 hf hg hh hok e1 e2 e3 zl1 zl2 zg1 zg2 hT hd wr wc wx wp
    go_enter Tryd.func9, Tryd.ntmps9
    have B0 := Lib.hid (Below.refl w.heap.size w)
    go_upto_region 1 with fail
    obtain ⟨w1, hw1⟩ : ∃ y, w.alloc (.cells #[.int .i64 r, .int .i64 c, .int .i64 x] 33) = y := ⟨_, rfl⟩
    have b1 : Below w.heap.size w w1 := by rw [← hw1]; exact (Below.refl _ _).alloc (Nat.le_refl _) _
    have S1 : Hid (RowV w1 w.heap.size 33 3 (sideF r c x)) := Lib.hid (by rw [← hw1]; exact RowV.new w _ 3 (sideF r c x))
    have z1 : w.heap.size + 1 = w1.heap.size := by rw [← hw1]; exact (Array.size_push _).symm
    rw [hw1]
    (try rw [z1])
    have B1 := Lib.hid (B0.out.trans (b1.mono B0.out.size))
    clear b1 hw1 z1 B0
    obtain ⟨w2, hw2⟩ : ∃ y, w1.alloc (.cells (rowF 32 h) 29) = y := ⟨_, rfl⟩
    have b2 : Below w1.heap.size w1 w2 := by rw [← hw2]; exact (Below.refl _ _).alloc (Nat.le_refl _) _
    have D2 : Hid (RowV w2 w1.heap.size 29 32 h) := Lib.hid (by rw [← hw2]; exact RowV.new w1 _ 32 h)
    have z2 : w1.heap.size + 1 = w2.heap.size := by rw [← hw2]; exact (Array.size_push _).symm
    rw [hw2]
    (try rw [z2])
    have B2 := Lib.hid (B1.out.trans (b2.mono B1.out.size))
    have S2 := Lib.hid (S1.out.below b2)
    clear b2 hw2 z2 B1 S1
    go_wp2_with fail
    refine (C1.out _ (T.out.below B2.out)).mono ?_
    rintro e w3 ⟨rfl, b3⟩
    have B3 := Lib.hid (B2.out.trans (b3.mono B2.out.size))
    have S3 := Lib.hid (S2.out.below b3)
    have D3 := Lib.hid (D2.out.below b3)
    clear b3 B2 S2 D2
    have x0 : _ = some (Value.int .i64 r) := S3.out.cell (i := 0) (by decide)
    have x1 : _ = some (Value.int .i64 c) := S3.out.cell (i := 1) (by decide)
    have x2 : _ = some (Value.int .i64 x) := S3.out.cell (i := 2) (by decide)
    go_wp2_with fail
    refine (H2.out _).mono ?_
    rintro e w4 ⟨rfl, b4⟩
    have B4 := Lib.hid (B3.out.trans (b4.mono B3.out.size))
    have S4 := Lib.hid (S3.out.below b4)
    have D4 := Lib.hid (D3.out.below b4)
    clear b4 B3 S3 D3
    clear x0 x1 x2
    go_wp2_with fail
    refine (H3.out _).mono ?_
    rintro e w5 ⟨rfl, b5⟩
    have B5 := Lib.hid (B4.out.trans (b5.mono B4.out.size))
    have S5 := Lib.hid (S4.out.below b5)
    have D5 := Lib.hid (D4.out.below b5)
    clear b5 B4 S4 D4
    have x0 : _ = some (Value.int .i64 r) := S5.out.cell (i := 0) (by decide)
    have x1 : _ = some (Value.int .i64 c) := S5.out.cell (i := 1) (by decide)
    have x2 : _ = some (Value.int .i64 x) := S5.out.cell (i := 2) (by decide)
    go_wp2_with fail
    refine (H4.out _ (T.out.below B5.out)).mono ?_
    rintro e w6 ⟨rfl, b6⟩
    have B6 := Lib.hid (B5.out.trans (b6.mono B5.out.size))
    have S6 := Lib.hid (S5.out.below b6)
    have D6 := Lib.hid (D5.out.below b6)
    clear b6 B5 S5 D5
    clear x0 x1 x2
    have Zr := Lib.hid (RowV.new w6 38 32 (fun _ => vB 0))
    go_upto_region 7 with ((with_reducible (show wpList _ _ _ (Oper.mk none _ _ _ _ _ :: _) _ _)); refine wpList_store_rowV (o := ⟨none, .store 38 (.tmp 8) (.tmp 28), _, _, _, _⟩) rfl 38 (.tmp 8) (.tmp 28) rfl w6.heap.size rfl 32 38 _ f rfl Zr.out (by kernel_rfl) F1.out ?_; intro w7 K7 o7)
    have b7 : Below w6.heap.size w6 w7 := ((Below.refl _ _).alloc (Nat.le_refl _) _).trans (o7.out.below (Nat.le_refl _) (by rw [World.size_alloc]; omega))
    have B7 := Lib.hid (B6.out.trans (b7.mono B6.out.size))
    have S7 := Lib.hid (S6.out.below b7)
    have D7 := Lib.hid (D6.out.below b7)
    clear b7 o7 Zr B6 S6 D6
    have x0 : _ = some (Value.int .i64 r) := S7.out.cell (i := 0) (by decide)
    have x1 : _ = some (Value.int .i64 c) := S7.out.cell (i := 1) (by decide)
    have x2 : _ = some (Value.int .i64 x) := S7.out.cell (i := 2) (by decide)
    go_wp2_with fail
    refine (H5.out _ (T.out.below B7.out)).mono ?_
    rintro e w8 ⟨rfl, b8⟩
    have B8 := Lib.hid (B7.out.trans (b8.mono B7.out.size))
    have S8 := Lib.hid (S7.out.below b8)
    have D8 := Lib.hid (D7.out.below b8)
    have K8 := Lib.hid (K7.out.below b8)
    clear b8 B7 S7 D7 K7
    clear x0 x1 x2
    have Zr := Lib.hid (RowV.new w8 29 32 (fun _ => vB 0))
    go_upto_region 8 with ((with_reducible (show wpList _ _ _ (Oper.mk none _ _ _ _ _ :: _) _ _)); refine wpList_store_rowV (o := ⟨none, .store 29 (.tmp 10) (.tmp 34), _, _, _, _⟩) rfl 29 (.tmp 10) (.tmp 34) rfl w8.heap.size rfl 32 29 _ g rfl Zr.out (by kernel_rfl) G1.out ?_; intro w9 L9 o9)
    have b9 : Below w8.heap.size w8 w9 := ((Below.refl _ _).alloc (Nat.le_refl _) _).trans (o9.out.below (Nat.le_refl _) (by rw [World.size_alloc]; omega))
    have B9 := Lib.hid (B8.out.trans (b9.mono B8.out.size))
    have S9 := Lib.hid (S8.out.below b9)
    have D9 := Lib.hid (D8.out.below b9)
    have K9 := Lib.hid (K8.out.below b9)
    clear b9 o9 Zr B8 S8 D8 K8
    have x0 : _ = some (Value.int .i64 r) := S9.out.cell (i := 0) (by decide)
    have x1 : _ = some (Value.int .i64 c) := S9.out.cell (i := 1) (by decide)
    have x2 : _ = some (Value.int .i64 x) := S9.out.cell (i := 2) (by decide)
    go_wp2_with (first | ((with_reducible (show wpList _ _ _ (Oper.mk (some 39) _ _ _ _ _ :: _) _ _)); refine wpList_load_rowV rfl 29 (.tmp 5) rfl w1.heap.size rfl 32 29 _ D9.out _ Tryd.underlying29 rfl (by kernel_rfl) ?_))
    refine (H6.out _ (T.out.below B9.out)).mono ?_
    rintro e w10 ⟨rfl, b10⟩
    have B10 := Lib.hid (B9.out.trans (b10.mono B9.out.size))
    have S10 := Lib.hid (S9.out.below b10)
    have D10 := Lib.hid (D9.out.below b10)
    have K10 := Lib.hid (K9.out.below b10)
    have L10 := Lib.hid (L9.out.below b10)
    clear b10 B9 S9 D9 K9 L9
    clear x0 x1 x2
    go_wp2_with fail
    go_ret
    exact ⟨rfl, B10.out⟩
  · rw [e3] at c4 c5 c6
    rw [e4] at c4
    rw [e5] at c5
    rw [e6] at c6
    unfold digV at *
    obtain ⟨f, hf⟩ : ∃ f, (fun i => vB (zero32.getD i 0)) = f := ⟨_, rfl⟩
    obtain ⟨h, hh⟩ : ∃ f, (fun i => vB (d.getD i 0)) = f := ⟨_, rfl⟩
    have f1 : ∀ j, j < 32 → (f j).oneCell' = true := by intro j _; rw [← hf]; rfl
    rw [hf] at c4 c5 zl1 zl2 zg1 zg2
    rw [hh] at c6 ⊢
    have H4 := Lib.hid c4; have H5 := Lib.hid c5; have H6 := Lib.hid c6; have F1 := Lib.hid f1; have Q1 := Lib.hid zl1; have Q2 := Lib.hid zl2; have Q3 := Lib.hid zg1; have Q4 := Lib.hid zg2
    clear c4 c5 c6 f1 hf hh e3 e4 e5 e6 zl1 zl2 zg1 zg2 hT hd wr wc wx wp
    rcases e1 with e1 | ⟨e1, e2⟩
    · rw [e1] at c2
      have H2 := Lib.hid c2
      clear c2 c3 e1
      go_enter Tryd.func9, Tryd.ntmps9
      have B0 := Lib.hid (Below.refl w.heap.size w)
      go_upto_region 1 with fail
      obtain ⟨w1, hw1⟩ : ∃ y, w.alloc (.cells #[.int .i64 r, .int .i64 c, .int .i64 x] 33) = y := ⟨_, rfl⟩
      have b1 : Below w.heap.size w w1 := by rw [← hw1]; exact (Below.refl _ _).alloc (Nat.le_refl _) _
      have S1 : Hid (RowV w1 w.heap.size 33 3 (sideF r c x)) := Lib.hid (by rw [← hw1]; exact RowV.new w _ 3 (sideF r c x))
      have z1 : w.heap.size + 1 = w1.heap.size := by rw [← hw1]; exact (Array.size_push _).symm
      rw [hw1]
      (try rw [z1])
      have B1 := Lib.hid (B0.out.trans (b1.mono B0.out.size))
      clear b1 hw1 z1 B0
      obtain ⟨w2, hw2⟩ : ∃ y, w1.alloc (.cells (rowF 32 h) 29) = y := ⟨_, rfl⟩
      have b2 : Below w1.heap.size w1 w2 := by rw [← hw2]; exact (Below.refl _ _).alloc (Nat.le_refl _) _
      have D2 : Hid (RowV w2 w1.heap.size 29 32 h) := Lib.hid (by rw [← hw2]; exact RowV.new w1 _ 32 h)
      have z2 : w1.heap.size + 1 = w2.heap.size := by rw [← hw2]; exact (Array.size_push _).symm
      rw [hw2]
      (try rw [z2])
      have B2 := Lib.hid (B1.out.trans (b2.mono B1.out.size))
      have S2 := Lib.hid (S1.out.below b2)
      clear b2 hw2 z2 B1 S1
      go_wp2_with fail
      refine (C1.out _ (T.out.below B2.out)).mono ?_
      rintro e w3 ⟨rfl, b3⟩
      have B3 := Lib.hid (B2.out.trans (b3.mono B2.out.size))
      have S3 := Lib.hid (S2.out.below b3)
      have D3 := Lib.hid (D2.out.below b3)
      clear b3 B2 S2 D2
      have x0 : _ = some (Value.int .i64 r) := S3.out.cell (i := 0) (by decide)
      have x1 : _ = some (Value.int .i64 c) := S3.out.cell (i := 1) (by decide)
      have x2 : _ = some (Value.int .i64 x) := S3.out.cell (i := 2) (by decide)
      go_wp2_with fail
      refine (H2.out _).mono ?_
      rintro e w4 ⟨rfl, b4⟩
      have B4 := Lib.hid (B3.out.trans (b4.mono B3.out.size))
      have S4 := Lib.hid (S3.out.below b4)
      have D4 := Lib.hid (D3.out.below b4)
      clear b4 B3 S3 D3
      clear x0 x1 x2
      have x0 : _ = some (Value.int .i64 r) := S4.out.cell (i := 0) (by decide)
      have x1 : _ = some (Value.int .i64 c) := S4.out.cell (i := 1) (by decide)
      have x2 : _ = some (Value.int .i64 x) := S4.out.cell (i := 2) (by decide)
      go_wp2_with fail
      refine (H4.out _ (T.out.below B4.out)).mono ?_
      rintro e w5 ⟨rfl, b5⟩
      have B5 := Lib.hid (B4.out.trans (b5.mono B4.out.size))
      have S5 := Lib.hid (S4.out.below b5)
      have D5 := Lib.hid (D4.out.below b5)
      clear b5 B4 S4 D4
      clear x0 x1 x2
      have Zr := Lib.hid (RowV.new w5 38 32 (fun _ => vB 0))
      go_upto_region 7 with ((with_reducible (show wpList _ _ _ (Oper.mk none _ _ _ _ _ :: _) _ _)); refine wpList_store_rowV (o := ⟨none, .store 38 (.tmp 8) (.tmp 28), _, _, _, _⟩) rfl 38 (.tmp 8) (.tmp 28) rfl w5.heap.size rfl 32 38 _ f rfl Zr.out (by kernel_rfl) F1.out ?_; intro w6 K6 o6)
      have b6 : Below w5.heap.size w5 w6 := ((Below.refl _ _).alloc (Nat.le_refl _) _).trans (o6.out.below (Nat.le_refl _) (by rw [World.size_alloc]; omega))
      have B6 := Lib.hid (B5.out.trans (b6.mono B5.out.size))
      have S6 := Lib.hid (S5.out.below b6)
      have D6 := Lib.hid (D5.out.below b6)
      clear b6 o6 Zr B5 S5 D5
      have x0 : _ = some (Value.int .i64 r) := S6.out.cell (i := 0) (by decide)
      have x1 : _ = some (Value.int .i64 c) := S6.out.cell (i := 1) (by decide)
      have x2 : _ = some (Value.int .i64 x) := S6.out.cell (i := 2) (by decide)
      go_wp2_with fail
      refine (H5.out _ (T.out.below B6.out)).mono ?_
      rintro e w7 ⟨rfl, b7⟩
      have B7 := Lib.hid (B6.out.trans (b7.mono B6.out.size))
      have S7 := Lib.hid (S6.out.below b7)
      have D7 := Lib.hid (D6.out.below b7)
      have K7 := Lib.hid (K6.out.below b7)
      clear b7 B6 S6 D6 K6
      clear x0 x1 x2
      have Zr := Lib.hid (RowV.new w7 29 32 (fun _ => vB 0))
      go_upto_region 8 with ((with_reducible (show wpList _ _ _ (Oper.mk none _ _ _ _ _ :: _) _ _)); refine wpList_store_rowV (o := ⟨none, .store 29 (.tmp 10) (.tmp 34), _, _, _, _⟩) rfl 29 (.tmp 10) (.tmp 34) rfl w7.heap.size rfl 32 29 _ f rfl Zr.out (by kernel_rfl) F1.out ?_; intro w8 L8 o8)
      have b8 : Below w7.heap.size w7 w8 := ((Below.refl _ _).alloc (Nat.le_refl _) _).trans (o8.out.below (Nat.le_refl _) (by rw [World.size_alloc]; omega))
      have B8 := Lib.hid (B7.out.trans (b8.mono B7.out.size))
      have S8 := Lib.hid (S7.out.below b8)
      have D8 := Lib.hid (D7.out.below b8)
      have K8 := Lib.hid (K7.out.below b8)
      clear b8 o8 Zr B7 S7 D7 K7
      have x0 : _ = some (Value.int .i64 r) := S8.out.cell (i := 0) (by decide)
      have x1 : _ = some (Value.int .i64 c) := S8.out.cell (i := 1) (by decide)
      have x2 : _ = some (Value.int .i64 x) := S8.out.cell (i := 2) (by decide)
      go_wp2_with (first | ((with_reducible (show wpList _ _ _ (Oper.mk (some 39) _ _ _ _ _ :: _) _ _)); refine wpList_load_rowV rfl 29 (.tmp 5) rfl w1.heap.size rfl 32 29 _ D8.out _ Tryd.underlying29 rfl (by kernel_rfl) ?_))
      refine (H6.out _ (T.out.below B8.out)).mono ?_
      rintro e w9 ⟨rfl, b9⟩
      have B9 := Lib.hid (B8.out.trans (b9.mono B8.out.size))
      have S9 := Lib.hid (S8.out.below b9)
      have D9 := Lib.hid (D8.out.below b9)
      have K9 := Lib.hid (K8.out.below b9)
      have L9 := Lib.hid (L8.out.below b9)
      clear b9 B8 S8 D8 K8 L8
      clear x0 x1 x2
      have q1 := Q1.out; have q2 := Q2.out; have q3 := Q3.out; have q4 := Q4.out
      go_wp2_with (first | ((with_reducible (show wpList _ _ _ (Oper.mk (some 46) _ _ _ _ _ :: _) _ _)); refine wpList_unguard rfl ?_; refine wpList_load_rowV rfl 38 (.tmp 8) rfl w5.heap.size rfl 32 38 _ K9.out _ Tryd.underlying38 rfl (by kernel_rfl) ?_) | ((with_reducible (show wpList _ _ _ (Oper.mk (some 50) _ _ _ _ _ :: _) _ _)); refine wpList_unguard rfl ?_; refine wpList_load_rowV rfl 29 (.tmp 10) rfl w7.heap.size rfl 32 29 _ L9.out _ Tryd.underlying29 rfl (by kernel_rfl) ?_))
      go_ret
      exact ⟨rfl, B9.out⟩
    · rw [e1] at c2
      rw [e2] at c3
      have H2 := Lib.hid c2; have H3 := Lib.hid c3
      clear c2 c3 e1 e2
      go_enter Tryd.func9, Tryd.ntmps9
      have B0 := Lib.hid (Below.refl w.heap.size w)
      go_upto_region 1 with fail
      obtain ⟨w1, hw1⟩ : ∃ y, w.alloc (.cells #[.int .i64 r, .int .i64 c, .int .i64 x] 33) = y := ⟨_, rfl⟩
      have b1 : Below w.heap.size w w1 := by rw [← hw1]; exact (Below.refl _ _).alloc (Nat.le_refl _) _
      have S1 : Hid (RowV w1 w.heap.size 33 3 (sideF r c x)) := Lib.hid (by rw [← hw1]; exact RowV.new w _ 3 (sideF r c x))
      have z1 : w.heap.size + 1 = w1.heap.size := by rw [← hw1]; exact (Array.size_push _).symm
      rw [hw1]
      (try rw [z1])
      have B1 := Lib.hid (B0.out.trans (b1.mono B0.out.size))
      clear b1 hw1 z1 B0
      obtain ⟨w2, hw2⟩ : ∃ y, w1.alloc (.cells (rowF 32 h) 29) = y := ⟨_, rfl⟩
      have b2 : Below w1.heap.size w1 w2 := by rw [← hw2]; exact (Below.refl _ _).alloc (Nat.le_refl _) _
      have D2 : Hid (RowV w2 w1.heap.size 29 32 h) := Lib.hid (by rw [← hw2]; exact RowV.new w1 _ 32 h)
      have z2 : w1.heap.size + 1 = w2.heap.size := by rw [← hw2]; exact (Array.size_push _).symm
      rw [hw2]
      (try rw [z2])
      have B2 := Lib.hid (B1.out.trans (b2.mono B1.out.size))
      have S2 := Lib.hid (S1.out.below b2)
      clear b2 hw2 z2 B1 S1
      go_wp2_with fail
      refine (C1.out _ (T.out.below B2.out)).mono ?_
      rintro e w3 ⟨rfl, b3⟩
      have B3 := Lib.hid (B2.out.trans (b3.mono B2.out.size))
      have S3 := Lib.hid (S2.out.below b3)
      have D3 := Lib.hid (D2.out.below b3)
      clear b3 B2 S2 D2
      have x0 : _ = some (Value.int .i64 r) := S3.out.cell (i := 0) (by decide)
      have x1 : _ = some (Value.int .i64 c) := S3.out.cell (i := 1) (by decide)
      have x2 : _ = some (Value.int .i64 x) := S3.out.cell (i := 2) (by decide)
      go_wp2_with fail
      refine (H2.out _).mono ?_
      rintro e w4 ⟨rfl, b4⟩
      have B4 := Lib.hid (B3.out.trans (b4.mono B3.out.size))
      have S4 := Lib.hid (S3.out.below b4)
      have D4 := Lib.hid (D3.out.below b4)
      clear b4 B3 S3 D3
      clear x0 x1 x2
      go_wp2_with fail
      refine (H3.out _).mono ?_
      rintro e w5 ⟨rfl, b5⟩
      have B5 := Lib.hid (B4.out.trans (b5.mono B4.out.size))
      have S5 := Lib.hid (S4.out.below b5)
      have D5 := Lib.hid (D4.out.below b5)
      clear b5 B4 S4 D4
      have x0 : _ = some (Value.int .i64 r) := S5.out.cell (i := 0) (by decide)
      have x1 : _ = some (Value.int .i64 c) := S5.out.cell (i := 1) (by decide)
      have x2 : _ = some (Value.int .i64 x) := S5.out.cell (i := 2) (by decide)
      go_wp2_with fail
      refine (H4.out _ (T.out.below B5.out)).mono ?_
      rintro e w6 ⟨rfl, b6⟩
      have B6 := Lib.hid (B5.out.trans (b6.mono B5.out.size))
      have S6 := Lib.hid (S5.out.below b6)
      have D6 := Lib.hid (D5.out.below b6)
      clear b6 B5 S5 D5
      clear x0 x1 x2
      have Zr := Lib.hid (RowV.new w6 38 32 (fun _ => vB 0))
      go_upto_region 7 with ((with_reducible (show wpList _ _ _ (Oper.mk none _ _ _ _ _ :: _) _ _)); refine wpList_store_rowV (o := ⟨none, .store 38 (.tmp 8) (.tmp 28), _, _, _, _⟩) rfl 38 (.tmp 8) (.tmp 28) rfl w6.heap.size rfl 32 38 _ f rfl Zr.out (by kernel_rfl) F1.out ?_; intro w7 K7 o7)
      have b7 : Below w6.heap.size w6 w7 := ((Below.refl _ _).alloc (Nat.le_refl _) _).trans (o7.out.below (Nat.le_refl _) (by rw [World.size_alloc]; omega))
      have B7 := Lib.hid (B6.out.trans (b7.mono B6.out.size))
      have S7 := Lib.hid (S6.out.below b7)
      have D7 := Lib.hid (D6.out.below b7)
      clear b7 o7 Zr B6 S6 D6
      have x0 : _ = some (Value.int .i64 r) := S7.out.cell (i := 0) (by decide)
      have x1 : _ = some (Value.int .i64 c) := S7.out.cell (i := 1) (by decide)
      have x2 : _ = some (Value.int .i64 x) := S7.out.cell (i := 2) (by decide)
      go_wp2_with fail
      refine (H5.out _ (T.out.below B7.out)).mono ?_
      rintro e w8 ⟨rfl, b8⟩
      have B8 := Lib.hid (B7.out.trans (b8.mono B7.out.size))
      have S8 := Lib.hid (S7.out.below b8)
      have D8 := Lib.hid (D7.out.below b8)
      have K8 := Lib.hid (K7.out.below b8)
      clear b8 B7 S7 D7 K7
      clear x0 x1 x2
      have Zr := Lib.hid (RowV.new w8 29 32 (fun _ => vB 0))
      go_upto_region 8 with ((with_reducible (show wpList _ _ _ (Oper.mk none _ _ _ _ _ :: _) _ _)); refine wpList_store_rowV (o := ⟨none, .store 29 (.tmp 10) (.tmp 34), _, _, _, _⟩) rfl 29 (.tmp 10) (.tmp 34) rfl w8.heap.size rfl 32 29 _ f rfl Zr.out (by kernel_rfl) F1.out ?_; intro w9 L9 o9)
      have b9 : Below w8.heap.size w8 w9 := ((Below.refl _ _).alloc (Nat.le_refl _) _).trans (o9.out.below (Nat.le_refl _) (by rw [World.size_alloc]; omega))
      have B9 := Lib.hid (B8.out.trans (b9.mono B8.out.size))
      have S9 := Lib.hid (S8.out.below b9)
      have D9 := Lib.hid (D8.out.below b9)
      have K9 := Lib.hid (K8.out.below b9)
      clear b9 o9 Zr B8 S8 D8 K8
      have x0 : _ = some (Value.int .i64 r) := S9.out.cell (i := 0) (by decide)
      have x1 : _ = some (Value.int .i64 c) := S9.out.cell (i := 1) (by decide)
      have x2 : _ = some (Value.int .i64 x) := S9.out.cell (i := 2) (by decide)
      go_wp2_with (first | ((with_reducible (show wpList _ _ _ (Oper.mk (some 39) _ _ _ _ _ :: _) _ _)); refine wpList_load_rowV rfl 29 (.tmp 5) rfl w1.heap.size rfl 32 29 _ D9.out _ Tryd.underlying29 rfl (by kernel_rfl) ?_))
      refine (H6.out _ (T.out.below B9.out)).mono ?_
      rintro e w10 ⟨rfl, b10⟩
      have B10 := Lib.hid (B9.out.trans (b10.mono B9.out.size))
      have S10 := Lib.hid (S9.out.below b10)
      have D10 := Lib.hid (D9.out.below b10)
      have K10 := Lib.hid (K9.out.below b10)
      have L10 := Lib.hid (L9.out.below b10)
      clear b10 B9 S9 D9 K9 L9
      clear x0 x1 x2
      have q1 := Q1.out; have q2 := Q2.out; have q3 := Q3.out; have q4 := Q4.out
      go_wp2_with (first | ((with_reducible (show wpList _ _ _ (Oper.mk (some 46) _ _ _ _ _ :: _) _ _)); refine wpList_unguard rfl ?_; refine wpList_load_rowV rfl 38 (.tmp 8) rfl w6.heap.size rfl 32 38 _ K10.out _ Tryd.underlying38 rfl (by kernel_rfl) ?_) | ((with_reducible (show wpList _ _ _ (Oper.mk (some 50) _ _ _ _ _ :: _) _ _)); refine wpList_unguard rfl ?_; refine wpList_load_rowV rfl 29 (.tmp 10) rfl w8.heap.size rfl 32 29 _ L10.out _ Tryd.underlying29 rfl (by kernel_rfl) ?_))
      go_ret
      exact ⟨rfl, B10.out⟩

set_option maxRecDepth 100000 in
set_option maxHeartbeats 1000000 in
theorem lifted (os : Os) (started : os.Started) (H : Type) (enc : TypeId × Value → H) :
    ReturnsInHanded {} Tryd.checked os 9 .any (fun w args => (Rows.pakeRefusedSpec.pre enc Tryd.prog Tryd.f9 [] false w args ∧ laidMetH Tryd.prog laidL w) ∧ sizedMet enc Tryd.prog Tryd.f9 (OpenSpec.ofChange Rows.pakeRefusedSpec) false w args)
      (Rows.pakeRefusedSpec.post enc Tryd.prog Tryd.f9 false true false false) := by
  refine returnsInHanded_of_change_and (C := Tryd.checked) (X := fun w _ => laidMetH Tryd.prog laidL w) (fun _ _ _ hh h => h.of_heap hh) own started (by kernel_rfl) Tryd.func9
    (ChangeSpec.witness_shaped (enc := enc) (C := Tryd.checked) (os := os) (X := fun w _ => laidMetH Tryd.prog laidL w) false (World.doorLaid Tryd.prog 19 os) #[.agg #[.int .i64 0, .int .i64 0, .int .i64 0], .int .i64 0, .agg (Array.replicate 32 (.int .u8 0))] 8 rfl (World.shaped_of_RefB (by kernel_rfl) (by kernel_rfl)) (by kernel_rfl) (by kernel_rfl) (by kernel_rfl) (door_met os _)) ?_
  intro W base args ds gs before hval0 hW _ hsz hL _
  have hval : ∀ (j : Nat) t v, Tryd.f9.params[j]? = some t → args[j]? = some v → Value.okWide Tryd.prog W .any base t v := hval0
  have hW' := hW
  obtain ⟨p, q, hA0, hV, rfl, hfz, hnd⟩ := hW
  have hA : DataW.TrodAll enc Tryd.prog W 0 (fun _ => true) true Tryd.f9.params.toList args.toList ds p := hA0
  rw [Tryd.params9] at hA hval
  obtain ⟨v0, vs0, d0, ds0, p0, q0, hargs, rfl, rfl, h0, r0⟩ := trodAll_cons hA
  obtain ⟨v1, vs1, d1, ds1, p1, q1, rfl, rfl, rfl, h1, r1⟩ := trodAll_cons r0
  obtain ⟨v2, vs2, d2, ds2, p2, q2, rfl, rfl, rfl, h2, r2⟩ := trodAll_cons r1
  obtain ⟨rfl, rfl, rfl⟩ := trodAll_nil r2
  obtain rfl : args = #[v0, v1, v2] := by cases args; simp_all
  obtain ⟨rfl, rfl⟩ := trodVars_none hV
  have k0 := h0
  have lt0 : ∀ x ∈ p0, x.block < W.heap.size := by obtain ⟨m, hm⟩ := k0; exact DataW.trod_lt m _ _ _ hm
  obtain ⟨a0, b0, c0, wa0, wb0, wc0, rfl⟩ := side_open (hval 0 33 v0 rfl rfl) h0
  obtain ⟨a1, rfl, rfl, rfl, w1⟩ := open_int Tryd.underlying3 (hval 1 3 v1 rfl rfl) h1
  have k2 := h2
  have lt2 : ∀ x ∈ p2, x.block < W.heap.size := by obtain ⟨m, hm⟩ := k2; exact DataW.trod_lt m _ _ _ hm
  obtain ⟨l2, n2, rfl⟩ := digest_open (hval 2 29 v2 rfl rfl) h2
  have hT := tab_of_laid hL
  clear hA0 hval0 hsz hL
  simp only [List.append_nil] at hW'
  refine (walk a0 b0 c0 wa0 wb0 wc0 a1 w1 l2 n2 hT).mono fun e W' ⟨he, hg⟩ => ?_
  subst he
  exact ⟨_, rfl, _, _, _, [], _, [], hW', trodAll_mk1 (shut_bool Tryd.underlying4 _), (trodAll_cons_mk (Below.trod laidOut (by kernel_rfl) (of_decide_eq_true (by kernel_rfl)) k0 hg lt0) (trodAll_cons_mk (shut_int Tryd.underlying3 w1) (trodAll_cons_mk (Below.trod laidOut (by kernel_rfl) (of_decide_eq_true (by kernel_rfl)) k2 hg lt2) trodAll_mk0))), rfl, hg.frame _, fun h => by cases h⟩

theorem over : Rows.pakeRefusedRow.holds Tryd.pinned (OpenSpec.ofChange Rows.pakeRefusedSpec) :=
  OpenClaim.holds_of_wide 9 Tryd.f9 rfl rfl rfl rfl rfl rfl rfl ⟨rfl, rfl, rfl, rfl, rfl⟩ rfl rfl rfl rfl rfl (by kernel_rfl) Tryd.func9 (by kernel_rfl)
    (of_decide_eq_true (by kernel_rfl)) (by unfold Func.isWrapper; first | (rw [if_pos (by decide +kernel)]; kernel_rfl) | (rw [if_neg (by decide +kernel)]; exact ⟨rfl, rfl⟩))
    (fun os started H enc _ => lifted os started H enc)

end Go.Proofs.YtdcpejfnhegdaaaDoor.pakeRefused
namespace Go.Proofs.YtdcpejfnhegdaaaDoor
set_option maxRecDepth 100000 in
theorem pakeRefused_holds : Rows.PakeRefusedCardSaid :=
  Claim7.holds_tied_plain_at .later [] [.data, .data] true _ false
    pakeRefused.over (fun _ h => by cases h) (by kernel_rfl) (fun _ h => by cases h) pakeRefused_row_tie rfl ⟨rfl, rfl⟩ (by kernel_rfl) rfl
    (fun f fn hf hfn => by
      obtain rfl : f = 9 := Option.some.inj ((show Tryd.prog.funcNamed "chartroom/chartroomlaw10.PakeRefused" = some 9 by kernel_rfl).symm.trans hf) |>.symm
      obtain rfl : fn = Tryd.f9 := (Option.some.inj (Tryd.func9.symm.trans hfn)).symm
      exact ⟨by kernel_rfl, fun j t ht => by
        rw [Tryd.params9] at ht
        have hm : t ∈ [33, 3, 29] := by simpa using Array.mem_of_getElem? ht
        have hall : ([33, 3, 29].all fun u => !Tryd.prog.wantsStandIn u) = true := by kernel_rfl
        exact (show Tryd.prog.wantsStandIn t = false by simpa using List.all_eq_true.1 hall t hm)⟩)
    (by kernel_rfl)
#print axioms pakeRefused_holds
end Go.Proofs.YtdcpejfnhegdaaaDoor
