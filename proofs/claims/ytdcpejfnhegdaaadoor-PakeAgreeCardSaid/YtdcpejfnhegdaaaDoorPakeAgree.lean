/- PakeAgree returns true for every input. No condition beyond the card's own: the two tables of package digest are tied to the program's text. -/
import Derived.Test.YtdcpejfnhegdaaaDoorPakeL
import Derived.Test.YtdcpejfnhegdaaaDoorLaid
import Derived.Test.YtdcpejfnhegdaaaDoorCards
namespace Go.Proofs.YtdcpejfnhegdaaaDoor.pakeAgree
open Go.ChangeShapes Go.WideShapes Go.ChangeAt Go.RowKit
open Go.ChangeMaps (open_string shut_string)
set_option linter.unusedVariables false
set_option linter.unusedSimpArgs false

set_option maxRecDepth 100000 in
set_option maxHeartbeats 8000000 in
theorem walk {w : World} (c : Int) (wc : (Lit.int .i64 c).wf = true) (a : Int) (wa : (Lit.int .i64 a).wf = true) (b : Int) (wb : (Lit.int .i64 b).wf = true) (hT : Tab w) :
    Calls Tryd.prog 7 #[.int .i64 c, .int .i64 a, .int .i64 b] w fun e w' => e = .returned (.bool true) ∧ Below w.heap.size w w' := by
  have C0 := Lib.hid (fun W hT => sane10_any W hT)
  have c1 : ∀ W, Calls Tryd.prog 30 #[.int .i64 0, .int .i64 c, .int .i64 a] W fun e w' => e = .returned (.agg #[.int .i64 1, .int .i64 ((codeN c : Nat) : Int), .int .i64 ((secN a : Nat) : Int)]) ∧ Below W.heap.size W w' := fun W => side_any 0 c a W
  have c2 : ∀ W, Calls Tryd.prog 30 #[.int .i64 1, .int .i64 c, .int .i64 b] W fun e w' => e = .returned (.agg #[.int .i64 2, .int .i64 ((codeN c : Nat) : Int), .int .i64 ((secN b : Nat) : Int)]) ∧ Below W.heap.size W w' := fun W => side_any 1 c b W
  have hC := codeN_lt c
  have hX := secN_bd a
  have hY := secN_bd b
  obtain ⟨C, eC⟩ : ∃ y, codeN c = y := ⟨_, rfl⟩
  obtain ⟨X, eX⟩ : ∃ y, secN a = y := ⟨_, rfl⟩
  obtain ⟨Y, eY⟩ : ∃ y, secN b = y := ⟨_, rfl⟩
  rw [eC, eX] at c1
  rw [eC, eY] at c2
  rw [eC] at hC
  rw [eX] at hX
  rw [eY] at hY
  clear eC eX eY wc wa wb
  have el1 := pointS_El 1 C X
  have el2 := pointS_El 2 C Y
  have hag := pake_agree C X Y
  have c3 : ∀ W, Tab W → Calls Tryd.prog 20 #[.agg #[.int .i64 1, .int .i64 C, .int .i64 X]] W fun e w' => e = .returned (.tuple #[.int .i64 ((pointS 1 C X : Nat) : Int), .int .i64 0]) ∧ Below W.heap.size W w' := fun W h => point_yes 1 C X (.inl rfl) hC hX.1 hX.2 W h
  have c4 : ∀ W, Tab W → Calls Tryd.prog 20 #[.agg #[.int .i64 2, .int .i64 C, .int .i64 Y]] W fun e w' => e = .returned (.tuple #[.int .i64 ((pointS 2 C Y : Nat) : Int), .int .i64 0]) ∧ Below W.heap.size W w' := fun W h => point_yes 2 C Y (.inr rfl) hC hY.1 hY.2 W h
  obtain ⟨A, hA⟩ : ∃ y, pointS 1 C X = y := ⟨_, rfl⟩
  obtain ⟨B, hB⟩ : ∃ y, pointS 2 C Y = y := ⟨_, rfl⟩
  rw [hA] at el1 hag c3
  rw [hB] at el2 hag c4
  obtain ⟨K, hK⟩ : ∃ y, keyS 1 C X B = y := ⟨_, rfl⟩
  have kl : K.length = 32 := hK ▸ keyL_len _ _ _
  rw [hK] at hag
  obtain ⟨P1, hP1⟩ : ∃ y, proofL K 1 = y := ⟨_, rfl⟩
  obtain ⟨P2, hP2⟩ : ∃ y, proofL K 2 = y := ⟨_, rfl⟩
  have pl1 : P1.length = 32 := hP1 ▸ proofL_len _ _
  have pl2 : P2.length = 32 := hP2 ▸ proofL_len _ _
  have c5 : ∀ W, Tab W → Calls Tryd.prog 24 #[.agg #[.int .i64 1, .int .i64 C, .int .i64 X], .int .i64 B] W fun e w' => e = .returned (.tuple #[digV K, .int .i64 0]) ∧ Below W.heap.size W w' := fun W h => shared_ok (r := 1) (.inl rfl) hC hX.1 hX.2 el2 hK W h
  have c6 : ∀ W, Tab W → Calls Tryd.prog 24 #[.agg #[.int .i64 2, .int .i64 C, .int .i64 Y], .int .i64 A] W fun e w' => e = .returned (.tuple #[digV K, .int .i64 0]) ∧ Below W.heap.size W w' := fun W h => shared_ok (r := 2) (.inr rfl) hC hY.1 hY.2 el1 hag.symm W h
  have c7 : ∀ W, Tab W → Calls Tryd.prog 26 #[.agg #[.int .i64 1, .int .i64 C, .int .i64 X], .int .i64 B] W fun e w' => e = .returned (.tuple #[digV P1, .int .i64 0]) ∧ Below W.heap.size W w' := fun W h => proved_ok (r := 1) (.inl rfl) hC hX.1 hX.2 el2 hK hP1 W h
  have c8 : ∀ W, Tab W → Calls Tryd.prog 26 #[.agg #[.int .i64 2, .int .i64 C, .int .i64 Y], .int .i64 A] W fun e w' => e = .returned (.tuple #[digV P2, .int .i64 0]) ∧ Below W.heap.size W w' := fun W h => proved_ok (r := 2) (.inr rfl) hC hY.1 hY.2 el1 hag.symm hP2 W h
  have c9 : ∀ W, Tab W → Calls Tryd.prog 28 #[.agg #[.int .i64 1, .int .i64 C, .int .i64 X], .int .i64 B, digV P2] W fun e w' => e = .returned (.tuple #[.bool true, .int .i64 0]) ∧ Below W.heap.size W w' := fun W h => by
    have := accept_ok (r := 1) (.inl rfl) hC hX.1 hX.2 el2 hK (P := P2) hP2 P2 pl2 W h
    rwa [beq_self_eq_true] at this
  have c10 : ∀ W, Tab W → Calls Tryd.prog 28 #[.agg #[.int .i64 2, .int .i64 C, .int .i64 Y], .int .i64 A, digV P1] W fun e w' => e = .returned (.tuple #[.bool true, .int .i64 0]) ∧ Below W.heap.size W w' := fun W h => by
    have := accept_ok (r := 2) (.inr rfl) hC hY.1 hY.2 el1 hag.symm (P := P1) hP1 P1 pl1 W h
    rwa [beq_self_eq_true] at this
  have c11 := fun W => check_El el1 W
  have c12 := fun W => check_El el2 W
  have heq : ∀ W, (binOp .eql 38 (digV K) (digV K)).run Tryd.prog W = .ok (.bool (K == K)) W := fun W => eql_dig W _ Tryd.underlying38 kl kl
  rw [beq_self_eq_true] at heq
  have hgu : ∀ a b W, (eqGuard .eql 38 a b (digV K) (digV K)).run Tryd.prog W = .ok () W := fun a b W => guard_dig W _ _ a b _ _ (by kernel_rfl)
  unfold digV at *
  obtain ⟨f, hf⟩ : ∃ f, (fun i => vB (K.getD i 0)) = f := ⟨_, rfl⟩
  obtain ⟨g, hg⟩ : ∃ f, (fun i => vB (P1.getD i 0)) = f := ⟨_, rfl⟩
  obtain ⟨h, hh⟩ : ∃ f, (fun i => vB (P2.getD i 0)) = f := ⟨_, rfl⟩
  have f1 : ∀ j, j < 32 → (f j).oneCell' = true := by intro j _; rw [← hf]; rfl
  have g1 : ∀ j, j < 32 → (g j).oneCell' = true := by intro j _; rw [← hg]; rfl
  have h1 : ∀ j, j < 32 → (h j).oneCell' = true := by intro j _; rw [← hh]; rfl
  rw [hf] at c5 c6 heq hgu
  rw [hg] at c7 c10
  rw [hh] at c8 c9
  have F1 := Lib.hid f1; have G1 := Lib.hid g1; have I1 := Lib.hid h1
  have H1 := Lib.hid c1; have H2 := Lib.hid c2; have H3 := Lib.hid c3; have H4 := Lib.hid c4; have H5 := Lib.hid c5; have H6 := Lib.hid c6; have H7 := Lib.hid c7; have H8 := Lib.hid c8; have H9 := Lib.hid c9; have H10 := Lib.hid c10; have H11 := Lib.hid c11; have H12 := Lib.hid c12
  have HEQ := Lib.hid heq; have HGU := Lib.hid hgu; have T := Lib.hid hT
  clear c1 c2 c3 c4 c5 c6 c7 c8 c9 c10 c11 c12 heq hgu hT f1 g1 h1 hf hg hh hP1 hP2 hK hA hB el1 el2 hag kl pl1 pl2 hC hX hY
  go_enter Tryd.func7, Tryd.ntmps7
  have B0 := Lib.hid (Below.refl w.heap.size w)
  go_wp2_with fail
  refine (C0.out _ (T.out.below B0.out)).mono ?_
  rintro e w1 ⟨rfl, b1⟩
  have B1 := Lib.hid (B0.out.trans (b1.mono B0.out.size))
  clear b1 B0
  go_wp2_with fail
  refine (H1.out _).mono ?_
  rintro e w2 ⟨rfl, b2⟩
  have B2 := Lib.hid (B1.out.trans (b2.mono B1.out.size))
  clear b2 B1
  go_wp2_with fail
  refine (H2.out _).mono ?_
  rintro e w3 ⟨rfl, b3⟩
  have B3 := Lib.hid (B2.out.trans (b3.mono B2.out.size))
  clear b3 B2
  go_upto_region 4 with fail
  obtain ⟨w4, hw4⟩ : ∃ y, w3.alloc (.cells #[.int .i64 1, .int .i64 C, .int .i64 X] 33) = y := ⟨_, rfl⟩
  have b4 : Below w3.heap.size w3 w4 := by rw [← hw4]; exact (Below.refl _ _).alloc (Nat.le_refl _) _
  have P4 : Hid (RowV w4 w3.heap.size 33 3 (sideF 1 C X)) := Lib.hid (by rw [← hw4]; exact RowV.new w3 _ 3 (sideF 1 C X))
  have z4 : w3.heap.size + 1 = w4.heap.size := by rw [← hw4]; exact (Array.size_push _).symm
  rw [hw4]
  (try rw [z4])
  have B4 := Lib.hid (B3.out.trans (b4.mono B3.out.size))
  clear b4 hw4 z4 B3
  obtain ⟨w5, hw5⟩ : ∃ y, w4.alloc (.cells #[.int .i64 2, .int .i64 C, .int .i64 Y] 33) = y := ⟨_, rfl⟩
  have b5 : Below w4.heap.size w4 w5 := by rw [← hw5]; exact (Below.refl _ _).alloc (Nat.le_refl _) _
  have Q5 : Hid (RowV w5 w4.heap.size 33 3 (sideF 2 C Y)) := Lib.hid (by rw [← hw5]; exact RowV.new w4 _ 3 (sideF 2 C Y))
  have z5 : w4.heap.size + 1 = w5.heap.size := by rw [← hw5]; exact (Array.size_push _).symm
  rw [hw5]
  (try rw [z5])
  have B5 := Lib.hid (B4.out.trans (b5.mono B4.out.size))
  have P5 := Lib.hid (P4.out.below b5)
  clear b5 hw5 z5 B4 P4
  have x0 : _ = some (Value.int .i64 1) := P5.out.cell (i := 0) (by decide)
  have x1 : _ = some (Value.int .i64 (C : Int)) := P5.out.cell (i := 1) (by decide)
  have x2 : _ = some (Value.int .i64 (X : Int)) := P5.out.cell (i := 2) (by decide)
  go_wp2_with fail
  refine (H3.out _ (T.out.below B5.out)).mono ?_
  rintro e w6 ⟨rfl, b6⟩
  have B6 := Lib.hid (B5.out.trans (b6.mono B5.out.size))
  have P6 := Lib.hid (P5.out.below b6)
  have Q6 := Lib.hid (Q5.out.below b6)
  clear b6 B5 P5 Q5
  clear x0 x1 x2
  have x0 : _ = some (Value.int .i64 2) := Q6.out.cell (i := 0) (by decide)
  have x1 : _ = some (Value.int .i64 (C : Int)) := Q6.out.cell (i := 1) (by decide)
  have x2 : _ = some (Value.int .i64 (Y : Int)) := Q6.out.cell (i := 2) (by decide)
  go_wp2_with fail
  refine (H4.out _ (T.out.below B6.out)).mono ?_
  rintro e w7 ⟨rfl, b7⟩
  have B7 := Lib.hid (B6.out.trans (b7.mono B6.out.size))
  have P7 := Lib.hid (P6.out.below b7)
  have Q7 := Lib.hid (Q6.out.below b7)
  clear b7 B6 P6 Q6
  clear x0 x1 x2
  have x0 : _ = some (Value.int .i64 1) := P7.out.cell (i := 0) (by decide)
  have x1 : _ = some (Value.int .i64 (C : Int)) := P7.out.cell (i := 1) (by decide)
  have x2 : _ = some (Value.int .i64 (X : Int)) := P7.out.cell (i := 2) (by decide)
  go_wp2_with fail
  refine (H5.out _ (T.out.below B7.out)).mono ?_
  rintro e w8 ⟨rfl, b8⟩
  have B8 := Lib.hid (B7.out.trans (b8.mono B7.out.size))
  have P8 := Lib.hid (P7.out.below b8)
  have Q8 := Lib.hid (Q7.out.below b8)
  clear b8 B7 P7 Q7
  clear x0 x1 x2
  have Zr := Lib.hid (RowV.new w8 38 32 (fun _ => vB 0))
  go_upto_region 7 with ((with_reducible (show wpList _ _ _ (Oper.mk none _ _ _ _ _ :: _) _ _)); refine wpList_store_rowV (o := ⟨none, .store 38 (.tmp 13) (.tmp 47), _, _, _, _⟩) rfl 38 (.tmp 13) (.tmp 47) rfl w8.heap.size rfl 32 38 _ f rfl Zr.out (by kernel_rfl) F1.out ?_; intro w9 K9 o9)
  have b9 : Below w8.heap.size w8 w9 := ((Below.refl _ _).alloc (Nat.le_refl _) _).trans (o9.out.below (Nat.le_refl _) (by rw [World.size_alloc]; omega))
  have B9 := Lib.hid (B8.out.trans (b9.mono B8.out.size))
  have P9 := Lib.hid (P8.out.below b9)
  have Q9 := Lib.hid (Q8.out.below b9)
  clear b9 o9 Zr B8 P8 Q8
  have x0 : _ = some (Value.int .i64 2) := Q9.out.cell (i := 0) (by decide)
  have x1 : _ = some (Value.int .i64 (C : Int)) := Q9.out.cell (i := 1) (by decide)
  have x2 : _ = some (Value.int .i64 (Y : Int)) := Q9.out.cell (i := 2) (by decide)
  go_wp2_with fail
  refine (H6.out _ (T.out.below B9.out)).mono ?_
  rintro e w10 ⟨rfl, b10⟩
  have B10 := Lib.hid (B9.out.trans (b10.mono B9.out.size))
  have P10 := Lib.hid (P9.out.below b10)
  have Q10 := Lib.hid (Q9.out.below b10)
  have K10 := Lib.hid (K9.out.below b10)
  clear b10 B9 P9 Q9 K9
  clear x0 x1 x2
  have Zr := Lib.hid (RowV.new w10 38 32 (fun _ => vB 0))
  go_upto_region 8 with ((with_reducible (show wpList _ _ _ (Oper.mk none _ _ _ _ _ :: _) _ _)); refine wpList_store_rowV (o := ⟨none, .store 38 (.tmp 15) (.tmp 53), _, _, _, _⟩) rfl 38 (.tmp 15) (.tmp 53) rfl w10.heap.size rfl 32 38 _ f rfl Zr.out (by kernel_rfl) F1.out ?_; intro w11 L11 o11)
  have b11 : Below w10.heap.size w10 w11 := ((Below.refl _ _).alloc (Nat.le_refl _) _).trans (o11.out.below (Nat.le_refl _) (by rw [World.size_alloc]; omega))
  have B11 := Lib.hid (B10.out.trans (b11.mono B10.out.size))
  have P11 := Lib.hid (P10.out.below b11)
  have Q11 := Lib.hid (Q10.out.below b11)
  have K11 := Lib.hid (K10.out.below b11)
  clear b11 o11 Zr B10 P10 Q10 K10
  have x0 : _ = some (Value.int .i64 1) := P11.out.cell (i := 0) (by decide)
  have x1 : _ = some (Value.int .i64 (C : Int)) := P11.out.cell (i := 1) (by decide)
  have x2 : _ = some (Value.int .i64 (X : Int)) := P11.out.cell (i := 2) (by decide)
  go_wp2_with fail
  refine (H7.out _ (T.out.below B11.out)).mono ?_
  rintro e w12 ⟨rfl, b12⟩
  have B12 := Lib.hid (B11.out.trans (b12.mono B11.out.size))
  have P12 := Lib.hid (P11.out.below b12)
  have Q12 := Lib.hid (Q11.out.below b12)
  have K12 := Lib.hid (K11.out.below b12)
  have L12 := Lib.hid (L11.out.below b12)
  clear b12 B11 P11 Q11 K11 L11
  clear x0 x1 x2
  have Zr := Lib.hid (RowV.new w12 29 32 (fun _ => vB 0))
  go_upto_region 9 with ((with_reducible (show wpList _ _ _ (Oper.mk none _ _ _ _ _ :: _) _ _)); refine wpList_store_rowV (o := ⟨none, .store 29 (.tmp 17) (.tmp 59), _, _, _, _⟩) rfl 29 (.tmp 17) (.tmp 59) rfl w12.heap.size rfl 32 29 _ g rfl Zr.out (by kernel_rfl) G1.out ?_; intro w13 D13 o13)
  have b13 : Below w12.heap.size w12 w13 := ((Below.refl _ _).alloc (Nat.le_refl _) _).trans (o13.out.below (Nat.le_refl _) (by rw [World.size_alloc]; omega))
  have B13 := Lib.hid (B12.out.trans (b13.mono B12.out.size))
  have P13 := Lib.hid (P12.out.below b13)
  have Q13 := Lib.hid (Q12.out.below b13)
  have K13 := Lib.hid (K12.out.below b13)
  have L13 := Lib.hid (L12.out.below b13)
  clear b13 o13 Zr B12 P12 Q12 K12 L12
  have x0 : _ = some (Value.int .i64 2) := Q13.out.cell (i := 0) (by decide)
  have x1 : _ = some (Value.int .i64 (C : Int)) := Q13.out.cell (i := 1) (by decide)
  have x2 : _ = some (Value.int .i64 (Y : Int)) := Q13.out.cell (i := 2) (by decide)
  go_wp2_with fail
  refine (H8.out _ (T.out.below B13.out)).mono ?_
  rintro e w14 ⟨rfl, b14⟩
  have B14 := Lib.hid (B13.out.trans (b14.mono B13.out.size))
  have P14 := Lib.hid (P13.out.below b14)
  have Q14 := Lib.hid (Q13.out.below b14)
  have K14 := Lib.hid (K13.out.below b14)
  have L14 := Lib.hid (L13.out.below b14)
  have D14 := Lib.hid (D13.out.below b14)
  clear b14 B13 P13 Q13 K13 L13 D13
  clear x0 x1 x2
  have Zr := Lib.hid (RowV.new w14 29 32 (fun _ => vB 0))
  go_upto_region 10 with ((with_reducible (show wpList _ _ _ (Oper.mk none _ _ _ _ _ :: _) _ _)); refine wpList_store_rowV (o := ⟨none, .store 29 (.tmp 19) (.tmp 65), _, _, _, _⟩) rfl 29 (.tmp 19) (.tmp 65) rfl w14.heap.size rfl 32 29 _ h rfl Zr.out (by kernel_rfl) I1.out ?_; intro w15 E15 o15)
  have b15 : Below w14.heap.size w14 w15 := ((Below.refl _ _).alloc (Nat.le_refl _) _).trans (o15.out.below (Nat.le_refl _) (by rw [World.size_alloc]; omega))
  have B15 := Lib.hid (B14.out.trans (b15.mono B14.out.size))
  have P15 := Lib.hid (P14.out.below b15)
  have Q15 := Lib.hid (Q14.out.below b15)
  have K15 := Lib.hid (K14.out.below b15)
  have L15 := Lib.hid (L14.out.below b15)
  have D15 := Lib.hid (D14.out.below b15)
  clear b15 o15 Zr B14 P14 Q14 K14 L14 D14
  have x0 : _ = some (Value.int .i64 1) := P15.out.cell (i := 0) (by decide)
  have x1 : _ = some (Value.int .i64 (C : Int)) := P15.out.cell (i := 1) (by decide)
  have x2 : _ = some (Value.int .i64 (X : Int)) := P15.out.cell (i := 2) (by decide)
  go_wp2_with (first | ((with_reducible (show wpList _ _ _ (Oper.mk (some 70) _ _ _ _ _ :: _) _ _)); refine wpList_load_rowV rfl 29 (.tmp 19) rfl w14.heap.size rfl 32 29 _ E15.out _ Tryd.underlying29 rfl (by kernel_rfl) ?_))
  refine (H9.out _ (T.out.below B15.out)).mono ?_
  rintro e w16 ⟨rfl, b16⟩
  have B16 := Lib.hid (B15.out.trans (b16.mono B15.out.size))
  have P16 := Lib.hid (P15.out.below b16)
  have Q16 := Lib.hid (Q15.out.below b16)
  have K16 := Lib.hid (K15.out.below b16)
  have L16 := Lib.hid (L15.out.below b16)
  have D16 := Lib.hid (D15.out.below b16)
  have E16 := Lib.hid (E15.out.below b16)
  clear b16 B15 P15 Q15 K15 L15 D15 E15
  clear x0 x1 x2
  have x0 : _ = some (Value.int .i64 2) := Q16.out.cell (i := 0) (by decide)
  have x1 : _ = some (Value.int .i64 (C : Int)) := Q16.out.cell (i := 1) (by decide)
  have x2 : _ = some (Value.int .i64 (Y : Int)) := Q16.out.cell (i := 2) (by decide)
  go_wp2_with (first | ((with_reducible (show wpList _ _ _ (Oper.mk (some 77) _ _ _ _ _ :: _) _ _)); refine wpList_load_rowV rfl 29 (.tmp 17) rfl w12.heap.size rfl 32 29 _ D16.out _ Tryd.underlying29 rfl (by kernel_rfl) ?_))
  refine (H10.out _ (T.out.below B16.out)).mono ?_
  rintro e w17 ⟨rfl, b17⟩
  have B17 := Lib.hid (B16.out.trans (b17.mono B16.out.size))
  have P17 := Lib.hid (P16.out.below b17)
  have Q17 := Lib.hid (Q16.out.below b17)
  have K17 := Lib.hid (K16.out.below b17)
  have L17 := Lib.hid (L16.out.below b17)
  have D17 := Lib.hid (D16.out.below b17)
  have E17 := Lib.hid (E16.out.below b17)
  clear b17 B16 P16 Q16 K16 L16 D16 E16
  clear x0 x1 x2
  go_wp2_with fail
  refine (H11.out _).mono ?_
  rintro e w18 ⟨rfl, b18⟩
  have B18 := Lib.hid (B17.out.trans (b18.mono B17.out.size))
  have P18 := Lib.hid (P17.out.below b18)
  have Q18 := Lib.hid (Q17.out.below b18)
  have K18 := Lib.hid (K17.out.below b18)
  have L18 := Lib.hid (L17.out.below b18)
  have D18 := Lib.hid (D17.out.below b18)
  have E18 := Lib.hid (E17.out.below b18)
  clear b18 B17 P17 Q17 K17 L17 D17 E17
  go_wp2_with fail
  refine (H12.out _).mono ?_
  rintro e w19 ⟨rfl, b19⟩
  have B19 := Lib.hid (B18.out.trans (b19.mono B18.out.size))
  have P19 := Lib.hid (P18.out.below b19)
  have Q19 := Lib.hid (Q18.out.below b19)
  have K19 := Lib.hid (K18.out.below b19)
  have L19 := Lib.hid (L18.out.below b19)
  have D19 := Lib.hid (D18.out.below b19)
  have E19 := Lib.hid (E18.out.below b19)
  clear b19 B18 P18 Q18 K18 L18 D18 E18
  have heq := HEQ.out
  have hgu := HGU.out
  go_wp2_with (first | ((with_reducible (show wpList _ _ _ (Oper.mk (some 122) _ _ _ _ _ :: _) _ _)); refine wpList_unguard rfl ?_; refine wpList_load_rowV rfl 38 (.tmp 13) rfl w8.heap.size rfl 32 38 _ K19.out _ Tryd.underlying38 rfl (by kernel_rfl) ?_) | ((with_reducible (show wpList _ _ _ (Oper.mk (some 123) _ _ _ _ _ :: _) _ _)); refine wpList_unguard rfl ?_; refine wpList_load_rowV rfl 38 (.tmp 15) rfl w10.heap.size rfl 32 38 _ L19.out _ Tryd.underlying38 rfl (by kernel_rfl) ?_))
  go_ret
  exact ⟨rfl, B19.out⟩

set_option maxRecDepth 100000 in
set_option maxHeartbeats 1000000 in
theorem lifted (os : Os) (started : os.Started) (H : Type) (enc : TypeId × Value → H) :
    ReturnsInHanded {} Tryd.checked os 7 .any (fun w args => (Rows.pakeAgreeSpec.pre enc Tryd.prog Tryd.f7 [] false w args ∧ laidMetH Tryd.prog laidL w) ∧ sizedMet enc Tryd.prog Tryd.f7 (OpenSpec.ofChange Rows.pakeAgreeSpec) false w args)
      (Rows.pakeAgreeSpec.post enc Tryd.prog Tryd.f7 false true false false) := by
  refine returnsInHanded_of_change_and (C := Tryd.checked) (X := fun w _ => laidMetH Tryd.prog laidL w) (fun _ _ _ hh h => h.of_heap hh) own started (by kernel_rfl) Tryd.func7
    (ChangeSpec.witness_shaped (enc := enc) (C := Tryd.checked) (os := os) (X := fun w _ => laidMetH Tryd.prog laidL w) false (World.doorLaid Tryd.prog 19 os) #[.int .i64 0, .int .i64 0, .int .i64 0] 8 rfl (World.shaped_of_RefB (by kernel_rfl) (by kernel_rfl)) (by kernel_rfl) (by kernel_rfl) (by kernel_rfl) (door_met os _)) ?_
  intro W base args ds gs before hval0 hW _ hsz hL _
  have hval : ∀ (j : Nat) t v, Tryd.f7.params[j]? = some t → args[j]? = some v → Value.okWide Tryd.prog W .any base t v := hval0
  have hW' := hW
  obtain ⟨p, q, hA0, hV, rfl, hfz, hnd⟩ := hW
  have hA : DataW.TrodAll enc Tryd.prog W 0 (fun _ => true) true Tryd.f7.params.toList args.toList ds p := hA0
  rw [Tryd.params7] at hA hval
  obtain ⟨v0, vs0, d0, ds0, p0, q0, hargs, rfl, rfl, h0, r0⟩ := trodAll_cons hA
  obtain ⟨v1, vs1, d1, ds1, p1, q1, rfl, rfl, rfl, h1, r1⟩ := trodAll_cons r0
  obtain ⟨v2, vs2, d2, ds2, p2, q2, rfl, rfl, rfl, h2, r2⟩ := trodAll_cons r1
  obtain ⟨rfl, rfl, rfl⟩ := trodAll_nil r2
  obtain rfl : args = #[v0, v1, v2] := by cases args; simp_all
  obtain ⟨rfl, rfl⟩ := trodVars_none hV
  obtain ⟨a0, rfl, rfl, rfl, w0⟩ := open_int Tryd.underlying3 (hval 0 3 v0 rfl rfl) h0
  obtain ⟨a1, rfl, rfl, rfl, w1⟩ := open_int Tryd.underlying3 (hval 1 3 v1 rfl rfl) h1
  obtain ⟨a2, rfl, rfl, rfl, w2⟩ := open_int Tryd.underlying3 (hval 2 3 v2 rfl rfl) h2
  have hT := tab_of_laid hL
  clear hA0 hval0 hsz hL
  simp only [List.append_nil] at hW'
  refine (walk a0 w0 a1 w1 a2 w2 hT).mono fun e W' ⟨he, hg⟩ => ?_
  subst he
  exact ⟨_, rfl, post_below (pa := []) (pv := []) hW' (fun _ _ _ => (trodAll_cons_mk (shut_bool Tryd.underlying4 _) trodAll_mk0)) (fun sp _ => (trodAll_cons_mk (shut_int Tryd.underlying3 w0) (trodAll_cons_mk (shut_int Tryd.underlying3 w1) (trodAll_cons_mk (shut_int Tryd.underlying3 w2) trodAll_mk0)))) (fun _ _ => rfl) rfl hg (ok_one (by kernel_rfl) rfl (okWide_bool_mk Tryd.underlying4 _))⟩

theorem over : Rows.pakeAgreeRow.holds Tryd.pinned (OpenSpec.ofChange Rows.pakeAgreeSpec) :=
  OpenClaim.holds_of_wide 7 Tryd.f7 rfl rfl rfl rfl rfl rfl rfl ⟨rfl, rfl, rfl, rfl, rfl⟩ rfl rfl rfl rfl rfl (by kernel_rfl) Tryd.func7 (by kernel_rfl)
    (of_decide_eq_true (by kernel_rfl)) (by unfold Func.isWrapper; first | (rw [if_pos (by decide +kernel)]; kernel_rfl) | (rw [if_neg (by decide +kernel)]; exact ⟨rfl, rfl⟩))
    (fun os started H enc _ => lifted os started H enc)

end Go.Proofs.YtdcpejfnhegdaaaDoor.pakeAgree
namespace Go.Proofs.YtdcpejfnhegdaaaDoor
set_option maxRecDepth 100000 in
theorem pakeAgree_holds : Rows.PakeAgreeCardSaid :=
  Claim7.holds_tied_plain_at .later [] [.data, .data] true _ false
    pakeAgree.over (fun _ h => by cases h) (by kernel_rfl) (fun _ h => by cases h) pakeAgree_row_tie rfl ⟨rfl, rfl⟩ (by kernel_rfl) rfl
    (fun f fn hf hfn => by
      obtain rfl : f = 7 := Option.some.inj ((show Tryd.prog.funcNamed "chartroom/chartroomlaw10.PakeAgree" = some 7 by kernel_rfl).symm.trans hf) |>.symm
      obtain rfl : fn = Tryd.f7 := (Option.some.inj (Tryd.func7.symm.trans hfn)).symm
      exact ⟨by kernel_rfl, fun j t ht => by
        rw [Tryd.params7] at ht
        have hm : t ∈ [3, 3, 3] := by simpa using Array.mem_of_getElem? ht
        have hall : ([3, 3, 3].all fun u => !Tryd.prog.wantsStandIn u) = true := by kernel_rfl
        exact (show Tryd.prog.wantsStandIn t = false by simpa using List.all_eq_true.1 hall t hm)⟩)
    (by kernel_rfl)
#print axioms pakeAgree_holds
end Go.Proofs.YtdcpejfnhegdaaaDoor
