/- PakeCodes returns true for every input. No condition beyond the card's own: the two tables of package digest are tied to the program's text. -/
import Derived.Test.YtdcpejfnhegdaaaDoorPakeL
import Derived.Test.YtdcpejfnhegdaaaDoorLaid
import Derived.Test.YtdcpejfnhegdaaaDoorCards
namespace Go.Proofs.YtdcpejfnhegdaaaDoor.pakeCodes
open Go.ChangeShapes Go.WideShapes Go.ChangeAt Go.RowKit
open Go.ChangeMaps (open_string shut_string)
set_option linter.unusedVariables false
set_option linter.unusedSimpArgs false

set_option maxRecDepth 100000 in
set_option maxHeartbeats 8000000 in
theorem walk {w : World} (c : Int) (wc : (Lit.int .i64 c).wf = true) (o : Int) (wo : (Lit.int .i64 o).wf = true) (a : Int) (wa : (Lit.int .i64 a).wf = true) (b : Int) (wb : (Lit.int .i64 b).wf = true) (hT : Tab w) :
    Calls Tryd.prog 11 #[.int .i64 c, .int .i64 o, .int .i64 a, .int .i64 b] w fun e w' => e = .returned (.bool true) ∧ Below w.heap.size w w' := by
  have C0 := Lib.hid (fun W hT => sane10_any W hT)
  have c1 : ∀ W, Calls Tryd.prog 30 #[.int .i64 0, .int .i64 c, .int .i64 a] W fun e w' => e = .returned (.agg #[.int .i64 1, .int .i64 ((codeN c : Nat) : Int), .int .i64 ((secN a : Nat) : Int)]) ∧ Below W.heap.size W w' := fun W => side_any 0 c a W
  have c2 : ∀ W, Calls Tryd.prog 30 #[.int .i64 1, .int .i64 o, .int .i64 b] W fun e w' => e = .returned (.agg #[.int .i64 2, .int .i64 ((codeN o : Nat) : Int), .int .i64 ((secN b : Nat) : Int)]) ∧ Below W.heap.size W w' := fun W => side_any 1 o b W
  have hC := codeN_lt c
  have hD := codeN_lt o
  have hX := secN_bd a
  have hY := secN_bd b
  obtain ⟨C, eC⟩ : ∃ y, codeN c = y := ⟨_, rfl⟩
  obtain ⟨D, eD⟩ : ∃ y, codeN o = y := ⟨_, rfl⟩
  obtain ⟨X, eX⟩ : ∃ y, secN a = y := ⟨_, rfl⟩
  obtain ⟨Y, eY⟩ : ∃ y, secN b = y := ⟨_, rfl⟩
  rw [eC, eX] at c1
  rw [eD, eY] at c2
  rw [eC] at hC
  rw [eD] at hD
  rw [eX] at hX
  rw [eY] at hY
  clear eC eD eX eY wc wo wa wb
  have el1 := pointS_El 1 C X
  have el2 := pointS_El 2 D Y
  have hsame := codes_same C D X Y
  have hu := (passM_bd C).2
  have hv := (passM_bd D).2
  have c3 : ∀ W, Tab W → Calls Tryd.prog 20 #[.agg #[.int .i64 1, .int .i64 C, .int .i64 X]] W fun e w' => e = .returned (.tuple #[.int .i64 ((pointS 1 C X : Nat) : Int), .int .i64 0]) ∧ Below W.heap.size W w' := fun W h => point_yes 1 C X (.inl rfl) hC hX.1 hX.2 W h
  have c4 : ∀ W, Tab W → Calls Tryd.prog 20 #[.agg #[.int .i64 2, .int .i64 D, .int .i64 Y]] W fun e w' => e = .returned (.tuple #[.int .i64 ((pointS 2 D Y : Nat) : Int), .int .i64 0]) ∧ Below W.heap.size W w' := fun W h => point_yes 2 D Y (.inr rfl) hD hY.1 hY.2 W h
  have c7 := fun W => rpass_any C (by omega) W
  have c8 := fun W => rpass_any D (by omega) W
  have c9 : ∀ W, Calls Tryd.prog 33 #[.int .i64 2] W fun e w' => e = .returned (.int .i64 ((maskM 2 : Nat) : Int)) ∧ Below W.heap.size W w' := fun W => rmask_any 2 W
  have c10 : ∀ W, Calls Tryd.prog 33 #[.int .i64 1] W fun e w' => e = .returned (.int .i64 ((maskM 1 : Nat) : Int)) ∧ Below W.heap.size W w' := fun W => rmask_any 1 W
  have c11 := fun W => power_ok (maskM_El 2) hv hu hX.2 rfl W
  have c12 := fun W => power_ok (maskM_El 1) hu hv hY.2 rfl W
  obtain ⟨A, hA⟩ : ∃ y, pointS 1 C X = y := ⟨_, rfl⟩
  obtain ⟨B, hB⟩ : ∃ y, pointS 2 D Y = y := ⟨_, rfl⟩
  rw [hA] at el1 c3
  rw [hB] at el2 c4
  rw [hA, hB] at hsame
  have c13 : ∀ W, Calls Tryd.prog 39 #[.agg #[.int .i64 1, .int .i64 C, .int .i64 X], .int .i64 B] W fun e w' => e = .returned (.int .i64 ((elemS 1 C X B : Nat) : Int)) ∧ Below W.heap.size W w' := fun W => relem_any 1 C X B (.inl rfl) hC hX.2 el2 W
  have c14 : ∀ W, Calls Tryd.prog 39 #[.agg #[.int .i64 2, .int .i64 D, .int .i64 Y], .int .i64 A] W fun e w' => e = .returned (.int .i64 ((elemS 2 D Y A : Nat) : Int)) ∧ Below W.heap.size W w' := fun W => relem_any 2 D Y A (.inr rfl) hD hY.2 el1 W
  have k1 : keyS 1 C X B = Sha.tagged sPake.data.toList (Sha.be8 A ++ Sha.be8 B ++ Sha.be8 (elemS 1 C X B)) := by rw [key_1, hA]
  have k2 : keyS 2 D Y A = Sha.tagged sPake.data.toList (Sha.be8 A ++ Sha.be8 B ++ Sha.be8 (elemS 2 D Y A)) := by rw [key_2, hB]
  have b3 := (elemS_El el2 1 C X).lt63
  have b4 := (elemS_El el1 2 D Y).lt63
  have b1 := el1.lt63
  have b2 := el2.lt63
  obtain ⟨z, hz⟩ : ∃ y, elemS 1 C X B = y := ⟨_, rfl⟩
  obtain ⟨v, hvv⟩ : ∃ y, elemS 2 D Y A = y := ⟨_, rfl⟩
  rw [hz] at c13 k1 b3 hsame
  rw [hvv] at c14 k2 b4 hsame
  obtain ⟨m, hm⟩ : ∃ y, powP (maskM 2) (mulQ (subQ (passM D) (passM C)) X) = y := ⟨_, rfl⟩
  obtain ⟨n, hn⟩ : ∃ y, powP (maskM 1) (mulQ (subQ (passM C) (passM D)) Y) = y := ⟨_, rfl⟩
  rw [hm] at c11 hsame
  rw [hn] at c12 hsame
  have kl1 : (keyS 1 C X B).length = 32 := keyL_len _ _ _
  have kl2 : (keyS 2 D Y A).length = 32 := keyL_len _ _ _
  obtain ⟨K, hK⟩ : ∃ y, keyS 1 C X B = y := ⟨_, rfl⟩
  obtain ⟨L, hL⟩ : ∃ y, keyS 2 D Y A = y := ⟨_, rfl⟩
  rw [hK] at k1 kl1
  rw [hL] at k2 kl2
  have c5 : ∀ W, Tab W → Calls Tryd.prog 24 #[.agg #[.int .i64 1, .int .i64 C, .int .i64 X], .int .i64 B] W fun e w' => e = .returned (.tuple #[digV K, .int .i64 0]) ∧ Below W.heap.size W w' := fun W h => shared_ok (r := 1) (.inl rfl) hC hX.1 hX.2 el2 hK W h
  have c6 : ∀ W, Tab W → Calls Tryd.prog 24 #[.agg #[.int .i64 2, .int .i64 D, .int .i64 Y], .int .i64 A] W fun e w' => e = .returned (.tuple #[digV L, .int .i64 0]) ∧ Below W.heap.size W w' := fun W h => shared_ok (r := 2) (.inr rfl) hD hY.1 hY.2 el1 hL W h
  have c17 : ∀ u W, BytesAt W u (([] ++ (Sha.be8 A ++ Sha.be8 B)) ++ Sha.be8 z) → Tab W → Calls Tryd.prog 18 #[.string sPake, u] W fun e w' => e = .returned (digV K) ∧ Below W.heap.size W w' := fun u W hu hT => by
    rw [k1, ← List.nil_append (Sha.be8 A ++ Sha.be8 B)]; exact tagged_any sPake u _ W (by decide) (by rw [List.nil_append, be8_3]; decide) hu hT
  have c18 : ∀ u W, BytesAt W u (([] ++ (Sha.be8 A ++ Sha.be8 B)) ++ Sha.be8 v) → Tab W → Calls Tryd.prog 18 #[.string sPake, u] W fun e w' => e = .returned (digV L) ∧ Below W.heap.size W w' := fun u W hu hT => by
    rw [k2, ← List.nil_append (Sha.be8 A ++ Sha.be8 B)]; exact tagged_any sPake u _ W (by decide) (by rw [List.nil_append, be8_3]; decide) hu hT
  have hKL : z = v → K = L := fun h => by rw [k1, k2, h]
  have q1 : ∀ W, (binOp .neq 29 (digV K) (digV K)).run Tryd.prog W = .ok (.bool (!(K == K))) W := fun W => neq_dig W _ Tryd.underlying29 kl1 kl1
  have q2 : ∀ W, (binOp .neq 29 (digV L) (digV L)).run Tryd.prog W = .ok (.bool (!(L == L))) W := fun W => neq_dig W _ Tryd.underlying29 kl2 kl2
  have q3 : ∀ a b W, (eqGuard .neq 29 a b (digV K) (digV K)).run Tryd.prog W = .ok () W := fun a b W => guard_dig W _ _ a b _ _ (by kernel_rfl)
  have q4 : ∀ a b W, (eqGuard .neq 29 a b (digV L) (digV L)).run Tryd.prog W = .ok () W := fun a b W => guard_dig W _ _ a b _ _ (by kernel_rfl)
  have q5 : ∀ W, (binOp .eql 38 (digV K) (digV L)).run Tryd.prog W = .ok (.bool (K == L)) W := fun W => eql_dig W _ Tryd.underlying38 kl1 kl2
  have q6 : ∀ a b W, (eqGuard .eql 38 a b (digV K) (digV L)).run Tryd.prog W = .ok () W := fun a b W => guard_dig W _ _ a b _ _ (by kernel_rfl)
  rw [beq_self_eq_true, Bool.not_true] at q1 q2
  obtain ⟨kl, hkl⟩ : ∃ b, (K == L) = b := ⟨_, rfl⟩
  rw [hkl] at q5
  have hkl' : z = v → kl = true := fun h => by rw [← hkl, hKL h, beq_self_eq_true]
  unfold digV at *
  obtain ⟨f, hf⟩ : ∃ f, (fun i => vB (K.getD i 0)) = f := ⟨_, rfl⟩
  obtain ⟨g, hg⟩ : ∃ f, (fun i => vB (L.getD i 0)) = f := ⟨_, rfl⟩
  have f1 : ∀ j, j < 32 → (f j).oneCell' = true := by intro j _; rw [← hf]; rfl
  have g1 : ∀ j, j < 32 → (g j).oneCell' = true := by intro j _; rw [← hg]; rfl
  rw [hf] at c5 c17 q1 q3
  rw [hg] at c6 c18 q2 q4
  rw [hf, hg] at q5 q6
  have H1 := Lib.hid c1; have H2 := Lib.hid c2; have H3 := Lib.hid c3; have H4 := Lib.hid c4; have H5 := Lib.hid c5; have H6 := Lib.hid c6; have H7 := Lib.hid c7; have H8 := Lib.hid c8; have H9 := Lib.hid c9; have H10 := Lib.hid c10; have H11 := Lib.hid c11; have H12 := Lib.hid c12; have H13 := Lib.hid c13; have H14 := Lib.hid c14; have H17 := Lib.hid c17; have H18 := Lib.hid c18
  have E1 := Lib.hid (fun W => reight_any A b1 W); have E2 := Lib.hid (fun W => reight_any B b2 W); have E3 := Lib.hid (fun W => reight_any z b3 W); have E4 := Lib.hid (fun W => reight_any v b4 W)
  have Q1 := Lib.hid q1; have Q2 := Lib.hid q2; have Q3 := Lib.hid q3; have Q4 := Lib.hid q4; have Q5 := Lib.hid q5; have Q6 := Lib.hid q6; have HS := Lib.hid hsame; have HKL := Lib.hid hkl'; have T := Lib.hid hT; have F1 := Lib.hid f1; have G1 := Lib.hid g1
  obtain ⟨pu, hpu⟩ : ∃ y, passM C = y := ⟨_, rfl⟩
  obtain ⟨pv, hpv⟩ : ∃ y, passM D = y := ⟨_, rfl⟩
  obtain ⟨m1, hm1⟩ : ∃ y, maskM 1 = y := ⟨_, rfl⟩
  obtain ⟨m2, hm2⟩ : ∃ y, maskM 2 = y := ⟨_, rfl⟩
  rw [hpu] at H7 H11 H12
  rw [hpv] at H8 H11 H12
  rw [hm2] at H9 H11
  rw [hm1] at H10 H12
  clear c1 c2 c3 c4 c5 c6 c7 c8 c9 c10 c11 c12 c13 c14 c17 c18 q1 q2 q3 q4 q5 q6 hsame hkl' hT f1 g1 hf hg hkl hKL hK hL hm hn hz hvv hA hB el1 el2 b1 b2 b3 b4 k1 k2 kl1 kl2 hu hv hC hD hX hY hpu hpv hm1 hm2
  go_enter Tryd.func11, Tryd.ntmps11
  have B0 := Lib.hid (Below.refl w.heap.size w)
  go_wp2_with fail
  refine (C0.out _ (T.out.below B0.out)).mono ?_
  rintro e w1 ⟨rfl, b1⟩
  have B1 := Lib.hid (B0.out.trans (b1.mono B0.out.size))
  clear b1 B0
  go_wp2_with fail
  refine (H1.out _).mono ?_
  rintro e w2 ⟨rfl, b2⟩
  have B2 := Lib.hid (B1.out.trans (b2.mono B1.out.size))
  clear b2 B1
  go_wp2_with fail
  refine (H2.out _).mono ?_
  rintro e w3 ⟨rfl, b3⟩
  have B3 := Lib.hid (B2.out.trans (b3.mono B2.out.size))
  clear b3 B2
  go_upto_region 4 with fail
  obtain ⟨w4, hw4⟩ : ∃ y, w3.alloc (.cells #[.int .i64 1, .int .i64 C, .int .i64 X] 33) = y := ⟨_, rfl⟩
  have b4 : Below w3.heap.size w3 w4 := by rw [← hw4]; exact (Below.refl _ _).alloc (Nat.le_refl _) _
  have P4 : Hid (RowV w4 w3.heap.size 33 3 (sideF 1 C X)) := Lib.hid (by rw [← hw4]; exact RowV.new w3 _ 3 (sideF 1 C X))
  have z4 : w3.heap.size + 1 = w4.heap.size := by rw [← hw4]; exact (Array.size_push _).symm
  rw [hw4]
  (try rw [z4])
  have B4 := Lib.hid (B3.out.trans (b4.mono B3.out.size))
  clear b4 hw4 z4 B3
  obtain ⟨w5, hw5⟩ : ∃ y, w4.alloc (.cells #[.int .i64 2, .int .i64 D, .int .i64 Y] 33) = y := ⟨_, rfl⟩
  have b5 : Below w4.heap.size w4 w5 := by rw [← hw5]; exact (Below.refl _ _).alloc (Nat.le_refl _) _
  have Q5 : Hid (RowV w5 w4.heap.size 33 3 (sideF 2 D Y)) := Lib.hid (by rw [← hw5]; exact RowV.new w4 _ 3 (sideF 2 D Y))
  have z5 : w4.heap.size + 1 = w5.heap.size := by rw [← hw5]; exact (Array.size_push _).symm
  rw [hw5]
  (try rw [z5])
  have B5 := Lib.hid (B4.out.trans (b5.mono B4.out.size))
  have P5 := Lib.hid (P4.out.below b5)
  clear b5 hw5 z5 B4 P4
  have x0 : _ = some (Value.int .i64 1) := P5.out.cell (i := 0) (by decide)
  have x1 : _ = some (Value.int .i64 (C : Int)) := P5.out.cell (i := 1) (by decide)
  have x2 : _ = some (Value.int .i64 (X : Int)) := P5.out.cell (i := 2) (by decide)
  go_wp2_with fail
  refine (H3.out _ (T.out.below B5.out)).mono ?_
  rintro e w6 ⟨rfl, b6⟩
  have B6 := Lib.hid (B5.out.trans (b6.mono B5.out.size))
  have P6 := Lib.hid (P5.out.below b6)
  have Q6 := Lib.hid (Q5.out.below b6)
  clear b6 B5 P5 Q5
  clear x0 x1 x2
  have x0 : _ = some (Value.int .i64 2) := Q6.out.cell (i := 0) (by decide)
  have x1 : _ = some (Value.int .i64 (D : Int)) := Q6.out.cell (i := 1) (by decide)
  have x2 : _ = some (Value.int .i64 (Y : Int)) := Q6.out.cell (i := 2) (by decide)
  go_wp2_with fail
  refine (H4.out _ (T.out.below B6.out)).mono ?_
  rintro e w7 ⟨rfl, b7⟩
  have B7 := Lib.hid (B6.out.trans (b7.mono B6.out.size))
  have P7 := Lib.hid (P6.out.below b7)
  have Q7 := Lib.hid (Q6.out.below b7)
  clear b7 B6 P6 Q6
  clear x0 x1 x2
  have x0 : _ = some (Value.int .i64 1) := P7.out.cell (i := 0) (by decide)
  have x1 : _ = some (Value.int .i64 (C : Int)) := P7.out.cell (i := 1) (by decide)
  have x2 : _ = some (Value.int .i64 (X : Int)) := P7.out.cell (i := 2) (by decide)
  go_wp2_with fail
  refine (H5.out _ (T.out.below B7.out)).mono ?_
  rintro e w8 ⟨rfl, b8⟩
  have B8 := Lib.hid (B7.out.trans (b8.mono B7.out.size))
  have P8 := Lib.hid (P7.out.below b8)
  have Q8 := Lib.hid (Q7.out.below b8)
  clear b8 B7 P7 Q7
  clear x0 x1 x2
  have Zr := Lib.hid (RowV.new w8 38 32 (fun _ => vB 0))
  go_upto_region 7 with ((with_reducible (show wpList _ _ _ (Oper.mk none _ _ _ _ _ :: _) _ _)); refine wpList_store_rowV (o := ⟨none, .store 38 (.tmp 15) (.tmp 52), _, _, _, _⟩) rfl 38 (.tmp 15) (.tmp 52) rfl w8.heap.size rfl 32 38 _ f rfl Zr.out (by kernel_rfl) F1.out ?_; intro w9 K9 o9)
  have b9 : Below w8.heap.size w8 w9 := ((Below.refl _ _).alloc (Nat.le_refl _) _).trans (o9.out.below (Nat.le_refl _) (by rw [World.size_alloc]; omega))
  have B9 := Lib.hid (B8.out.trans (b9.mono B8.out.size))
  have P9 := Lib.hid (P8.out.below b9)
  have Q9 := Lib.hid (Q8.out.below b9)
  clear b9 o9 Zr B8 P8 Q8
  have x0 : _ = some (Value.int .i64 2) := Q9.out.cell (i := 0) (by decide)
  have x1 : _ = some (Value.int .i64 (D : Int)) := Q9.out.cell (i := 1) (by decide)
  have x2 : _ = some (Value.int .i64 (Y : Int)) := Q9.out.cell (i := 2) (by decide)
  go_wp2_with fail
  refine (H6.out _ (T.out.below B9.out)).mono ?_
  rintro e w10 ⟨rfl, b10⟩
  have B10 := Lib.hid (B9.out.trans (b10.mono B9.out.size))
  have P10 := Lib.hid (P9.out.below b10)
  have Q10 := Lib.hid (Q9.out.below b10)
  have K10 := Lib.hid (K9.out.below b10)
  clear b10 B9 P9 Q9 K9
  clear x0 x1 x2
  have Zr := Lib.hid (RowV.new w10 38 32 (fun _ => vB 0))
  go_upto_region 8 with ((with_reducible (show wpList _ _ _ (Oper.mk none _ _ _ _ _ :: _) _ _)); refine wpList_store_rowV (o := ⟨none, .store 38 (.tmp 17) (.tmp 58), _, _, _, _⟩) rfl 38 (.tmp 17) (.tmp 58) rfl w10.heap.size rfl 32 38 _ g rfl Zr.out (by kernel_rfl) G1.out ?_; intro w11 L11 o11)
  have b11 : Below w10.heap.size w10 w11 := ((Below.refl _ _).alloc (Nat.le_refl _) _).trans (o11.out.below (Nat.le_refl _) (by rw [World.size_alloc]; omega))
  have B11 := Lib.hid (B10.out.trans (b11.mono B10.out.size))
  have P11 := Lib.hid (P10.out.below b11)
  have Q11 := Lib.hid (Q10.out.below b11)
  have K11 := Lib.hid (K10.out.below b11)
  clear b11 o11 Zr B10 P10 Q10 K10
  go_upto_region 10 with fail
  have x1 : _ = some (Value.int .i64 (C : Int)) := P11.out.cell (i := 1) (by decide)
  have y1 : _ = some (Value.int .i64 (D : Int)) := Q11.out.cell (i := 1) (by decide)
  have qx1 := fun d os => cell_regrown x1 d os
  have qy1 := fun d os => cell_regrown y1 d os
  clear x1 y1
  have D0 := Lib.hid (fun (W : World) (b : Below w11.heap.size w11 W) => H7.out W)
  have D1 := Lib.hid (fun (W : World) (b : Below w11.heap.size w11 W) => H8.out W)
  refine wp_region_quiet_below (by kernel_rfl) (by kernel_rfl) ?_
  repeat (quiet_step (first | with_reducible exact qbelow D0.out _ _ | with_reducible exact qbelow D1.out _ _))
  refine wpQuiet_nil ?_
  intro w12 hw12
  have b12 := regrown_below hw12
  have B12 := Lib.hid (B11.out.trans (b12.mono B11.out.size))
  have P12 := Lib.hid (P11.out.below b12)
  have Q12 := Lib.hid (Q11.out.below b12)
  have K12 := Lib.hid (K11.out.below b12)
  have L12 := Lib.hid (L11.out.below b12)
  clear b12 hw12 qx1 qy1 D0 D1 B11 P11 Q11 K11 L11
  go_upto_region 11 with fail
  have x2 : _ = some (Value.int .i64 (X : Int)) := P12.out.cell (i := 2) (by decide)
  have qx2 := fun d os => cell_regrown x2 d os
  clear x2
  have D0 := Lib.hid (fun (W : World) (b : Below w12.heap.size w12 W) => H9.out W)
  have D1 := Lib.hid (fun (W : World) (b : Below w12.heap.size w12 W) => H11.out W)
  refine wp_region_quiet_below (by kernel_rfl) (by kernel_rfl) ?_
  repeat (quiet_step (first | with_reducible exact qbelow D0.out _ _ | with_reducible exact qbelow D1.out _ _))
  refine wpQuiet_nil ?_
  intro w13 hw13
  have b13 := regrown_below hw13
  have B13 := Lib.hid (B12.out.trans (b13.mono B12.out.size))
  have P13 := Lib.hid (P12.out.below b13)
  have Q13 := Lib.hid (Q12.out.below b13)
  have K13 := Lib.hid (K12.out.below b13)
  have L13 := Lib.hid (L12.out.below b13)
  clear b13 hw13 qx2 D0 D1 B12 P12 Q12 K12 L12
  go_upto_region 12 with fail
  have y2 : _ = some (Value.int .i64 (Y : Int)) := Q13.out.cell (i := 2) (by decide)
  have qy2 := fun d os => cell_regrown y2 d os
  clear y2
  have D0 := Lib.hid (fun (W : World) (b : Below w13.heap.size w13 W) => H10.out W)
  have D1 := Lib.hid (fun (W : World) (b : Below w13.heap.size w13 W) => H12.out W)
  refine wp_region_quiet_below (by kernel_rfl) (by kernel_rfl) ?_
  repeat (quiet_step (first | with_reducible exact qbelow D0.out _ _ | with_reducible exact qbelow D1.out _ _))
  refine wpQuiet_nil ?_
  intro w14 hw14
  have b14 := regrown_below hw14
  have B14 := Lib.hid (B13.out.trans (b14.mono B13.out.size))
  have P14 := Lib.hid (P13.out.below b14)
  have Q14 := Lib.hid (Q13.out.below b14)
  have K14 := Lib.hid (K13.out.below b14)
  have L14 := Lib.hid (L13.out.below b14)
  clear b14 hw14 qy2 D0 D1 B13 P13 Q13 K13 L13
  go_upto_region 13 with fail
  have x0 : _ = some (Value.int .i64 1) := P14.out.cell (i := 0) (by decide)
  have x1 : _ = some (Value.int .i64 (C : Int)) := P14.out.cell (i := 1) (by decide)
  have x2 : _ = some (Value.int .i64 (X : Int)) := P14.out.cell (i := 2) (by decide)
  have y0 : _ = some (Value.int .i64 2) := Q14.out.cell (i := 0) (by decide)
  have y1 : _ = some (Value.int .i64 (D : Int)) := Q14.out.cell (i := 1) (by decide)
  have y2 : _ = some (Value.int .i64 (Y : Int)) := Q14.out.cell (i := 2) (by decide)
  have qx0 := fun d os => cell_regrown x0 d os
  have qx1 := fun d os => cell_regrown x1 d os
  have qx2 := fun d os => cell_regrown x2 d os
  have qy0 := fun d os => cell_regrown y0 d os
  have qy1 := fun d os => cell_regrown y1 d os
  have qy2 := fun d os => cell_regrown y2 d os
  clear x0 x1 x2 y0 y1 y2
  have D0 := Lib.hid (fun (W : World) (b : Below w14.heap.size w14 W) => H13.out W)
  have D1 := Lib.hid (fun (W : World) (b : Below w14.heap.size w14 W) => H14.out W)
  refine wp_region_quiet_below (by kernel_rfl) (by kernel_rfl) ?_
  repeat (quiet_step (first | with_reducible exact qbelow D0.out _ _ | with_reducible exact qbelow D1.out _ _))
  refine wpQuiet_nil ?_
  intro w15 hw15
  have b15 := regrown_below hw15
  have B15 := Lib.hid (B14.out.trans (b15.mono B14.out.size))
  have P15 := Lib.hid (P14.out.below b15)
  have Q15 := Lib.hid (Q14.out.below b15)
  have K15 := Lib.hid (K14.out.below b15)
  have L15 := Lib.hid (L14.out.below b15)
  clear b15 hw15 qx0 qx1 qx2 qy0 qy1 qy2 D0 D1 B14 P14 Q14 K14 L14
  go_upto_region 14 with fail
  by_cases hzv : z = v
  · have hmn := HS.out.2 hzv
    have hk := HKL.out hzv
    subst hzv hmn hk
    clear HS HKL
    have KR := Lib.hid K15.out
    have LR := Lib.hid L15.out
    have BB := Lib.hid B15.out
    clear P15 Q15 K15 L15 B15
    have B15 := Lib.hid (Below.refl w15.heap.size w15)
    go_wp2_with fail
    refine (E1.out _).mono ?_
    rintro e w16 ⟨⟨u1, rfl, o16⟩, b16⟩
    have O16 := Lib.hid o16
    have G16 := Lib.hid b16.size
    have S16 := Lib.hid B15.out.size
    have B16 := Lib.hid (B15.out.trans (b16.mono B15.out.size))
    clear b16 o16 B15
    have U16 := Lib.hid O16.out
    clear O16
    go_wp2_with fail
    refine (E2.out _).mono ?_
    rintro e w17 ⟨⟨u2, rfl, o17⟩, b17⟩
    have O17 := Lib.hid o17
    have G17 := Lib.hid b17.size
    have S17 := Lib.hid B16.out.size
    have B17 := Lib.hid (B16.out.trans (b17.mono B16.out.size))
    have U17 := Lib.hid (U16.out.below b17)
    clear b17 o17 B16 U16
    have Y17 := Lib.hid (O17.out.bytesAt (by rw [be8_len]; omega))
    have Z17 := Lib.hid B17.out.size
    go_wp2_with (first
      | ((with_reducible (show wpList _ _ _ (Oper.mk (some 123) _ _ _ _ _ :: _) _ _)); refine wpList_append_bytes rfl (.tmp 120) (.tmp 122) rfl w15.heap.size u1 u2 (Sha.be8 A) (Sha.be8 B) rfl rfl U17.out Y17.out (by rw [be8_len, be8_len]; omega) Z17.out ?_; intro v3 w18 O18 b18 _)
      | ((with_reducible (show wpList _ _ _ (Oper.mk (some 126) _ _ _ _ _ :: _) _ _)); refine wpList_append_bytes rfl (.tmp 124) (.tmp 125) rfl w18.heap.size (.slice (some ⟨w18.heap.size, 0, none⟩) 0 0) v3 [] (Sha.be8 A ++ Sha.be8 B) rfl rfl (Owns.empty w18 (Nat.le_refl _)) ((O18.out.alloc _).bytesAt (by rw [List.length_append, be8_len, be8_len]; omega)) (by rw [List.length_append, be8_len, be8_len]; simp) (by rw [World.size_alloc]; omega) ?_; intro v5 w19 O19 b19 _))
    have a19 := Lib.hid (((Below.refl _ w18).alloc (Nat.le_refl _) (.cells #[] 5)).trans b19.out)
    have B18 := Lib.hid (B17.out.trans b18.out)
    have B19 := Lib.hid (B18.out.trans (a19.out.mono B18.out.size))
    have W18 := Lib.hid B18.out.size
    have HD := Lib.hid (O18.out.bytesAt (by rw [List.length_append, be8_len, be8_len]; omega))
    have V19 := Lib.hid O19.out
    have X19 := Lib.hid a19.out.size
    have A19 := Lib.hid a19.out
    clear a19 b18 b19 B17 B18 O18 O19 U17 O17 Y17 Z17 G16 S16 G17 S17
    refine (E3.out _).mono ?_
    rintro e w20 ⟨⟨u4, rfl, o20⟩, b20⟩
    have B20 := Lib.hid (B19.out.trans (b20.mono B19.out.size))
    have A20 := Lib.hid (A19.out.trans (b20.mono A19.out.size))
    have V20 := Lib.hid (V19.out.below b20)
    have Y20 := Lib.hid (o20.bytesAt (by rw [be8_len]; omega))
    clear b20 o20 B19 A19 V19
    go_wp2_with ((with_reducible (show wpList _ _ _ (Oper.mk (some 129) _ _ _ _ _ :: _) _ _)); refine wpList_append_bytes rfl (.tmp 126) (.tmp 128) rfl w18.heap.size v5 u4 _ (Sha.be8 z) rfl rfl V20.out Y20.out (by rw [List.nil_append, List.length_append, be8_len, be8_len, be8_len]; omega) A20.out.size ?_; intro v6 w21 O21 b21 _)
    have B21 := Lib.hid (B20.out.trans (b21.out.mono W18.out))
    have A21 := Lib.hid (A20.out.trans b21.out)
    clear b21 B20 A20 V20 Y20
    refine (H17.out _ _ (O21.out.bytesAt (by rw [List.nil_append, be8_3]; decide)) (T.out.below (BB.out.trans (B21.out.mono BB.out.size)))).mono ?_
    rintro e w22 ⟨rfl, b22⟩
    have B22 := Lib.hid (B21.out.trans (b22.mono B21.out.size))
    have N22 := Lib.hid (HD.out.below (A21.out.trans (b22.mono A21.out.size)))
    clear b22 B21 A21 O21 HD
    have Zr := Lib.hid (RowV.new w22 29 32 (fun _ => vB 0))
    go_upto_region 18 with ((with_reducible (show wpList _ _ _ (Oper.mk none _ _ _ _ _ :: _) _ _)); refine wpList_store_rowV (o := ⟨none, .store 29 (.tmp 28) (.tmp 130), _, _, _, _⟩) rfl 29 (.tmp 28) (.tmp 130) rfl w22.heap.size rfl 32 29 _ f rfl Zr.out (by kernel_rfl) F1.out ?_; intro w23 M23 o23)
    have b23 : Below w22.heap.size w22 w23 := ((Below.refl _ _).alloc (Nat.le_refl _) _).trans (o23.out.below (Nat.le_refl _) (by rw [World.size_alloc]; omega))
    have B23 := Lib.hid (B22.out.trans (b23.mono B22.out.size))
    have N23 := Lib.hid (N22.out.below b23)
    clear b23 o23 Zr B22 N22
    have Z23 := Lib.hid B23.out.size
    have LM := Lib.hid M23.out.lt
    have E23 := Lib.hid (Owns.empty w23 (Nat.le_refl _))
    have N23' := Lib.hid (N23.out.below ((Below.refl _ w23).alloc (Nat.le_refl _) (.cells #[] 5)))
    go_wp2_with ((with_reducible (show wpList _ _ _ (Oper.mk (some 133) _ _ _ _ _ :: _) _ _)); refine wpList_append_bytes rfl (.tmp 131) (.tmp 132) rfl w23.heap.size (.slice (some ⟨w23.heap.size, 0, none⟩) 0 0) v3 [] (Sha.be8 A ++ Sha.be8 B) rfl rfl E23.out N23'.out (by rw [List.length_append, be8_len, be8_len]; simp) (by rw [World.size_alloc]; omega) ?_; intro v7 w24 O24 b24 _)
    have a24 := Lib.hid (((Below.refl _ w23).alloc (Nat.le_refl _) (.cells #[] 5)).trans b24.out)
    have B24 := Lib.hid (B23.out.trans (a24.out.mono Z23.out))
    have M24 := Lib.hid (M23.out.below a24.out)
    have A24 := Lib.hid a24.out
    clear a24 b24 E23 N23' N23 B23 M23
    refine (E4.out _).mono ?_
    rintro e w25 ⟨⟨u5, rfl, o25⟩, b25⟩
    have B25 := Lib.hid (B24.out.trans (b25.mono B24.out.size))
    have A25 := Lib.hid (A24.out.trans (b25.mono A24.out.size))
    have V25 := Lib.hid (O24.out.below b25)
    have M25 := Lib.hid (M24.out.below b25)
    have Y25 := Lib.hid (o25.bytesAt (by rw [be8_len]; omega))
    clear b25 o25 B24 A24 O24 M24
    go_wp2_with ((with_reducible (show wpList _ _ _ (Oper.mk (some 136) _ _ _ _ _ :: _) _ _)); refine wpList_append_bytes rfl (.tmp 133) (.tmp 135) rfl w23.heap.size v7 u5 _ _ rfl rfl V25.out Y25.out (by rw [List.nil_append, List.length_append, be8_len, be8_len, be8_len]; omega) A25.out.size ?_; intro v8 w26 O26 b26 _)
    have B26 := Lib.hid (B25.out.trans (b26.out.mono Z23.out))
    have M26 := Lib.hid (M25.out.belowK LM.out b26.out)
    clear b26 B25 A25 V25 Y25 M25
    refine (H18.out _ _ (O26.out.bytesAt (by rw [List.nil_append, be8_3]; decide)) (T.out.below (BB.out.trans (B26.out.mono BB.out.size)))).mono ?_
    rintro e w27 ⟨rfl, b27⟩
    have B27 := Lib.hid (B26.out.trans (b27.mono B26.out.size))
    have M27 := Lib.hid (M26.out.below b27)
    clear b27 B26 M26 O26
    have Zr := Lib.hid (RowV.new w27 29 32 (fun _ => vB 0))
    go_upto_region 19 with ((with_reducible (show wpList _ _ _ (Oper.mk none _ _ _ _ _ :: _) _ _)); refine wpList_store_rowV (o := ⟨none, .store 29 (.tmp 29) (.tmp 137), _, _, _, _⟩) rfl 29 (.tmp 29) (.tmp 137) rfl w27.heap.size rfl 32 29 _ g rfl Zr.out (by kernel_rfl) G1.out ?_; intro w28 N28 o28)
    have b28 : Below w27.heap.size w27 w28 := ((Below.refl _ _).alloc (Nat.le_refl _) _).trans (o28.out.below (Nat.le_refl _) (by rw [World.size_alloc]; omega))
    have B28 := Lib.hid (B27.out.trans (b28.mono B27.out.size))
    have M28 := Lib.hid (M27.out.below b28)
    clear b28 o28 Zr B27 M27
    have K28 := Lib.hid (KR.out.below B28.out)
    have L28 := Lib.hid (LR.out.below B28.out)
    have q1 := Q1.out; have q2 := Q2.out; have q3 := Q3.out; have q4 := Q4.out; have q5 := Q5.out; have q6 := Q6.out
    go_wp2_with (first | ((with_reducible (show wpList _ _ _ (Oper.mk (some 138) _ _ _ _ _ :: _) _ _)); refine wpList_load_rowV rfl 38 (.tmp 15) rfl w8.heap.size rfl 32 38 _ K28.out _ Tryd.underlying38 rfl (by kernel_rfl) ?_) | ((with_reducible (show wpList _ _ _ (Oper.mk (some 139) _ _ _ _ _ :: _) _ _)); refine wpList_load_rowV rfl 29 (.tmp 28) rfl w22.heap.size rfl 32 29 _ M28.out _ Tryd.underlying29 rfl (by kernel_rfl) ?_) | ((with_reducible (show wpList _ _ _ (Oper.mk (some 142) _ _ _ _ _ :: _) _ _)); refine wpList_unguard rfl ?_; refine wpList_load_rowV rfl 38 (.tmp 17) rfl w10.heap.size rfl 32 38 _ L28.out _ Tryd.underlying38 rfl (by kernel_rfl) ?_) | ((with_reducible (show wpList _ _ _ (Oper.mk (some 143) _ _ _ _ _ :: _) _ _)); refine wpList_unguard rfl ?_; refine wpList_load_rowV rfl 29 (.tmp 29) rfl w27.heap.size rfl 32 29 _ N28.out _ Tryd.underlying29 rfl (by kernel_rfl) ?_) | ((with_reducible (show wpList _ _ _ (Oper.mk (some 150) _ _ _ _ _ :: _) _ _)); refine wpList_unguard rfl ?_; refine wpList_load_rowV rfl 38 (.tmp 15) rfl w8.heap.size rfl 32 38 _ K28.out _ Tryd.underlying38 rfl (by kernel_rfl) ?_) | ((with_reducible (show wpList _ _ _ (Oper.mk (some 151) _ _ _ _ _ :: _) _ _)); refine wpList_unguard rfl ?_; refine wpList_load_rowV rfl 38 (.tmp 17) rfl w10.heap.size rfl 32 38 _ L28.out _ Tryd.underlying38 rfl (by kernel_rfl) ?_))
    go_ret
    exact ⟨rfl, BB.out.trans (B28.out.mono BB.out.size)⟩
  · have hmn : ¬ m = n := fun h => hzv (HS.out.1 h)
    have t1 : ((m : Int) == (n : Int)) = false := by rw [beq_eq_false_iff_ne]; omega
    have t2 : decide (m = n) = false := by simpa using hmn
    have t3 : (m == n) = false := by simpa using hmn
    have t4 : ((z : Int) == (v : Int)) = false := by rw [beq_eq_false_iff_ne]; omega
    have t5 : decide (z = v) = false := by simpa using hzv
    have t6 : (z == v) = false := by simpa using hzv
    have t7 : ((z : Int) != (v : Int)) = true := by rw [bne_iff_ne]; omega
    have t8 : (z != v) = true := by simpa using hzv
    have t9 : (z = v) = False := by simpa using hzv
    have t10 : (m = n) = False := by simpa using hmn
    clear HS HKL hmn hzv
    have KR := Lib.hid K15.out
    have LR := Lib.hid L15.out
    have BB := Lib.hid B15.out
    clear P15 Q15 K15 L15 B15
    have B15 := Lib.hid (Below.refl w15.heap.size w15)
    go_wp2_with fail
    refine (E1.out _).mono ?_
    rintro e w16 ⟨⟨u1, rfl, o16⟩, b16⟩
    have O16 := Lib.hid o16
    have G16 := Lib.hid b16.size
    have S16 := Lib.hid B15.out.size
    have B16 := Lib.hid (B15.out.trans (b16.mono B15.out.size))
    clear b16 o16 B15
    have U16 := Lib.hid O16.out
    clear O16
    go_wp2_with fail
    refine (E2.out _).mono ?_
    rintro e w17 ⟨⟨u2, rfl, o17⟩, b17⟩
    have O17 := Lib.hid o17
    have G17 := Lib.hid b17.size
    have S17 := Lib.hid B16.out.size
    have B17 := Lib.hid (B16.out.trans (b17.mono B16.out.size))
    have U17 := Lib.hid (U16.out.below b17)
    clear b17 o17 B16 U16
    have Y17 := Lib.hid (O17.out.bytesAt (by rw [be8_len]; omega))
    have Z17 := Lib.hid B17.out.size
    go_wp2_with (first
      | ((with_reducible (show wpList _ _ _ (Oper.mk (some 123) _ _ _ _ _ :: _) _ _)); refine wpList_append_bytes rfl (.tmp 120) (.tmp 122) rfl w15.heap.size u1 u2 (Sha.be8 A) (Sha.be8 B) rfl rfl U17.out Y17.out (by rw [be8_len, be8_len]; omega) Z17.out ?_; intro v3 w18 O18 b18 _)
      | ((with_reducible (show wpList _ _ _ (Oper.mk (some 126) _ _ _ _ _ :: _) _ _)); refine wpList_append_bytes rfl (.tmp 124) (.tmp 125) rfl w18.heap.size (.slice (some ⟨w18.heap.size, 0, none⟩) 0 0) v3 [] (Sha.be8 A ++ Sha.be8 B) rfl rfl (Owns.empty w18 (Nat.le_refl _)) ((O18.out.alloc _).bytesAt (by rw [List.length_append, be8_len, be8_len]; omega)) (by rw [List.length_append, be8_len, be8_len]; simp) (by rw [World.size_alloc]; omega) ?_; intro v5 w19 O19 b19 _))
    have a19 := Lib.hid (((Below.refl _ w18).alloc (Nat.le_refl _) (.cells #[] 5)).trans b19.out)
    have B18 := Lib.hid (B17.out.trans b18.out)
    have B19 := Lib.hid (B18.out.trans (a19.out.mono B18.out.size))
    have W18 := Lib.hid B18.out.size
    have HD := Lib.hid (O18.out.bytesAt (by rw [List.length_append, be8_len, be8_len]; omega))
    have V19 := Lib.hid O19.out
    have X19 := Lib.hid a19.out.size
    have A19 := Lib.hid a19.out
    clear a19 b18 b19 B17 B18 O18 O19 U17 O17 Y17 Z17 G16 S16 G17 S17
    refine (E3.out _).mono ?_
    rintro e w20 ⟨⟨u4, rfl, o20⟩, b20⟩
    have B20 := Lib.hid (B19.out.trans (b20.mono B19.out.size))
    have A20 := Lib.hid (A19.out.trans (b20.mono A19.out.size))
    have V20 := Lib.hid (V19.out.below b20)
    have Y20 := Lib.hid (o20.bytesAt (by rw [be8_len]; omega))
    clear b20 o20 B19 A19 V19
    go_wp2_with ((with_reducible (show wpList _ _ _ (Oper.mk (some 129) _ _ _ _ _ :: _) _ _)); refine wpList_append_bytes rfl (.tmp 126) (.tmp 128) rfl w18.heap.size v5 u4 _ (Sha.be8 z) rfl rfl V20.out Y20.out (by rw [List.nil_append, List.length_append, be8_len, be8_len, be8_len]; omega) A20.out.size ?_; intro v6 w21 O21 b21 _)
    have B21 := Lib.hid (B20.out.trans (b21.out.mono W18.out))
    have A21 := Lib.hid (A20.out.trans b21.out)
    clear b21 B20 A20 V20 Y20
    refine (H17.out _ _ (O21.out.bytesAt (by rw [List.nil_append, be8_3]; decide)) (T.out.below (BB.out.trans (B21.out.mono BB.out.size)))).mono ?_
    rintro e w22 ⟨rfl, b22⟩
    have B22 := Lib.hid (B21.out.trans (b22.mono B21.out.size))
    have N22 := Lib.hid (HD.out.below (A21.out.trans (b22.mono A21.out.size)))
    clear b22 B21 A21 O21 HD
    have Zr := Lib.hid (RowV.new w22 29 32 (fun _ => vB 0))
    go_upto_region 18 with ((with_reducible (show wpList _ _ _ (Oper.mk none _ _ _ _ _ :: _) _ _)); refine wpList_store_rowV (o := ⟨none, .store 29 (.tmp 28) (.tmp 130), _, _, _, _⟩) rfl 29 (.tmp 28) (.tmp 130) rfl w22.heap.size rfl 32 29 _ f rfl Zr.out (by kernel_rfl) F1.out ?_; intro w23 M23 o23)
    have b23 : Below w22.heap.size w22 w23 := ((Below.refl _ _).alloc (Nat.le_refl _) _).trans (o23.out.below (Nat.le_refl _) (by rw [World.size_alloc]; omega))
    have B23 := Lib.hid (B22.out.trans (b23.mono B22.out.size))
    have N23 := Lib.hid (N22.out.below b23)
    clear b23 o23 Zr B22 N22
    have Z23 := Lib.hid B23.out.size
    have LM := Lib.hid M23.out.lt
    have E23 := Lib.hid (Owns.empty w23 (Nat.le_refl _))
    have N23' := Lib.hid (N23.out.below ((Below.refl _ w23).alloc (Nat.le_refl _) (.cells #[] 5)))
    go_wp2_with ((with_reducible (show wpList _ _ _ (Oper.mk (some 133) _ _ _ _ _ :: _) _ _)); refine wpList_append_bytes rfl (.tmp 131) (.tmp 132) rfl w23.heap.size (.slice (some ⟨w23.heap.size, 0, none⟩) 0 0) v3 [] (Sha.be8 A ++ Sha.be8 B) rfl rfl E23.out N23'.out (by rw [List.length_append, be8_len, be8_len]; simp) (by rw [World.size_alloc]; omega) ?_; intro v7 w24 O24 b24 _)
    have a24 := Lib.hid (((Below.refl _ w23).alloc (Nat.le_refl _) (.cells #[] 5)).trans b24.out)
    have B24 := Lib.hid (B23.out.trans (a24.out.mono Z23.out))
    have M24 := Lib.hid (M23.out.below a24.out)
    have A24 := Lib.hid a24.out
    clear a24 b24 E23 N23' N23 B23 M23
    refine (E4.out _).mono ?_
    rintro e w25 ⟨⟨u5, rfl, o25⟩, b25⟩
    have B25 := Lib.hid (B24.out.trans (b25.mono B24.out.size))
    have A25 := Lib.hid (A24.out.trans (b25.mono A24.out.size))
    have V25 := Lib.hid (O24.out.below b25)
    have M25 := Lib.hid (M24.out.below b25)
    have Y25 := Lib.hid (o25.bytesAt (by rw [be8_len]; omega))
    clear b25 o25 B24 A24 O24 M24
    go_wp2_with ((with_reducible (show wpList _ _ _ (Oper.mk (some 136) _ _ _ _ _ :: _) _ _)); refine wpList_append_bytes rfl (.tmp 133) (.tmp 135) rfl w23.heap.size v7 u5 _ _ rfl rfl V25.out Y25.out (by rw [List.nil_append, List.length_append, be8_len, be8_len, be8_len]; omega) A25.out.size ?_; intro v8 w26 O26 b26 _)
    have B26 := Lib.hid (B25.out.trans (b26.out.mono Z23.out))
    have M26 := Lib.hid (M25.out.belowK LM.out b26.out)
    clear b26 B25 A25 V25 Y25 M25
    refine (H18.out _ _ (O26.out.bytesAt (by rw [List.nil_append, be8_3]; decide)) (T.out.below (BB.out.trans (B26.out.mono BB.out.size)))).mono ?_
    rintro e w27 ⟨rfl, b27⟩
    have B27 := Lib.hid (B26.out.trans (b27.mono B26.out.size))
    have M27 := Lib.hid (M26.out.below b27)
    clear b27 B26 M26 O26
    have Zr := Lib.hid (RowV.new w27 29 32 (fun _ => vB 0))
    go_upto_region 19 with ((with_reducible (show wpList _ _ _ (Oper.mk none _ _ _ _ _ :: _) _ _)); refine wpList_store_rowV (o := ⟨none, .store 29 (.tmp 29) (.tmp 137), _, _, _, _⟩) rfl 29 (.tmp 29) (.tmp 137) rfl w27.heap.size rfl 32 29 _ g rfl Zr.out (by kernel_rfl) G1.out ?_; intro w28 N28 o28)
    have b28 : Below w27.heap.size w27 w28 := ((Below.refl _ _).alloc (Nat.le_refl _) _).trans (o28.out.below (Nat.le_refl _) (by rw [World.size_alloc]; omega))
    have B28 := Lib.hid (B27.out.trans (b28.mono B27.out.size))
    have M28 := Lib.hid (M27.out.below b28)
    clear b28 o28 Zr B27 M27
    have K28 := Lib.hid (KR.out.below B28.out)
    have L28 := Lib.hid (LR.out.below B28.out)
    have q1 := Q1.out; have q2 := Q2.out; have q3 := Q3.out; have q4 := Q4.out; have q5 := Q5.out; have q6 := Q6.out
    go_wp2_with (first | ((with_reducible (show wpList _ _ _ (Oper.mk (some 138) _ _ _ _ _ :: _) _ _)); refine wpList_load_rowV rfl 38 (.tmp 15) rfl w8.heap.size rfl 32 38 _ K28.out _ Tryd.underlying38 rfl (by kernel_rfl) ?_) | ((with_reducible (show wpList _ _ _ (Oper.mk (some 139) _ _ _ _ _ :: _) _ _)); refine wpList_load_rowV rfl 29 (.tmp 28) rfl w22.heap.size rfl 32 29 _ M28.out _ Tryd.underlying29 rfl (by kernel_rfl) ?_) | ((with_reducible (show wpList _ _ _ (Oper.mk (some 142) _ _ _ _ _ :: _) _ _)); refine wpList_unguard rfl ?_; refine wpList_load_rowV rfl 38 (.tmp 17) rfl w10.heap.size rfl 32 38 _ L28.out _ Tryd.underlying38 rfl (by kernel_rfl) ?_) | ((with_reducible (show wpList _ _ _ (Oper.mk (some 143) _ _ _ _ _ :: _) _ _)); refine wpList_unguard rfl ?_; refine wpList_load_rowV rfl 29 (.tmp 29) rfl w27.heap.size rfl 32 29 _ N28.out _ Tryd.underlying29 rfl (by kernel_rfl) ?_) | ((with_reducible (show wpList _ _ _ (Oper.mk (some 150) _ _ _ _ _ :: _) _ _)); refine wpList_unguard rfl ?_; refine wpList_load_rowV rfl 38 (.tmp 15) rfl w8.heap.size rfl 32 38 _ K28.out _ Tryd.underlying38 rfl (by kernel_rfl) ?_) | ((with_reducible (show wpList _ _ _ (Oper.mk (some 151) _ _ _ _ _ :: _) _ _)); refine wpList_unguard rfl ?_; refine wpList_load_rowV rfl 38 (.tmp 17) rfl w10.heap.size rfl 32 38 _ L28.out _ Tryd.underlying38 rfl (by kernel_rfl) ?_))
    go_ret
    exact ⟨rfl, BB.out.trans (B28.out.mono BB.out.size)⟩

set_option maxRecDepth 100000 in
set_option maxHeartbeats 1000000 in
theorem lifted (os : Os) (started : os.Started) (H : Type) (enc : TypeId × Value → H) :
    ReturnsInHanded {} Tryd.checked os 11 .any (fun w args => (Rows.pakeCodesSpec.pre enc Tryd.prog Tryd.f11 [] false w args ∧ laidMetH Tryd.prog laidL w) ∧ sizedMet enc Tryd.prog Tryd.f11 (OpenSpec.ofChange Rows.pakeCodesSpec) false w args)
      (Rows.pakeCodesSpec.post enc Tryd.prog Tryd.f11 false true false false) := by
  refine returnsInHanded_of_change_and (C := Tryd.checked) (X := fun w _ => laidMetH Tryd.prog laidL w) (fun _ _ _ hh h => h.of_heap hh) own started (by kernel_rfl) Tryd.func11
    (ChangeSpec.witness_shaped (enc := enc) (C := Tryd.checked) (os := os) (X := fun w _ => laidMetH Tryd.prog laidL w) false (World.doorLaid Tryd.prog 19 os) #[.int .i64 0, .int .i64 0, .int .i64 0, .int .i64 0] 8 rfl (World.shaped_of_RefB (by kernel_rfl) (by kernel_rfl)) (by kernel_rfl) (by kernel_rfl) (by kernel_rfl) (door_met os _)) ?_
  intro W base args ds gs before hval0 hW _ hsz hL _
  have hval : ∀ (j : Nat) t v, Tryd.f11.params[j]? = some t → args[j]? = some v → Value.okWide Tryd.prog W .any base t v := hval0
  have hW' := hW
  obtain ⟨p, q, hA0, hV, rfl, hfz, hnd⟩ := hW
  have hA : DataW.TrodAll enc Tryd.prog W 0 (fun _ => true) true Tryd.f11.params.toList args.toList ds p := hA0
  rw [Tryd.params11] at hA hval
  obtain ⟨v0, vs0, d0, ds0, p0, q0, hargs, rfl, rfl, h0, r0⟩ := trodAll_cons hA
  obtain ⟨v1, vs1, d1, ds1, p1, q1, rfl, rfl, rfl, h1, r1⟩ := trodAll_cons r0
  obtain ⟨v2, vs2, d2, ds2, p2, q2, rfl, rfl, rfl, h2, r2⟩ := trodAll_cons r1
  obtain ⟨v3, vs3, d3, ds3, p3, q3, rfl, rfl, rfl, h3, r3⟩ := trodAll_cons r2
  obtain ⟨rfl, rfl, rfl⟩ := trodAll_nil r3
  obtain rfl : args = #[v0, v1, v2, v3] := by cases args; simp_all
  obtain ⟨rfl, rfl⟩ := trodVars_none hV
  obtain ⟨a0, rfl, rfl, rfl, w0⟩ := open_int Tryd.underlying3 (hval 0 3 v0 rfl rfl) h0
  obtain ⟨a1, rfl, rfl, rfl, w1⟩ := open_int Tryd.underlying3 (hval 1 3 v1 rfl rfl) h1
  obtain ⟨a2, rfl, rfl, rfl, w2⟩ := open_int Tryd.underlying3 (hval 2 3 v2 rfl rfl) h2
  obtain ⟨a3, rfl, rfl, rfl, w3⟩ := open_int Tryd.underlying3 (hval 3 3 v3 rfl rfl) h3
  have hT := tab_of_laid hL
  clear hA0 hval0 hsz hL
  simp only [List.append_nil] at hW'
  refine (walk a0 w0 a1 w1 a2 w2 a3 w3 hT).mono fun e W' ⟨he, hg⟩ => ?_
  subst he
  exact ⟨_, rfl, post_below (pa := []) (pv := []) hW' (fun _ _ _ => (trodAll_cons_mk (shut_bool Tryd.underlying4 _) trodAll_mk0)) (fun sp _ => (trodAll_cons_mk (shut_int Tryd.underlying3 w0) (trodAll_cons_mk (shut_int Tryd.underlying3 w1) (trodAll_cons_mk (shut_int Tryd.underlying3 w2) (trodAll_cons_mk (shut_int Tryd.underlying3 w3) trodAll_mk0))))) (fun _ _ => rfl) rfl hg (ok_one (by kernel_rfl) rfl (okWide_bool_mk Tryd.underlying4 _))⟩

theorem over : Rows.pakeCodesRow.holds Tryd.pinned (OpenSpec.ofChange Rows.pakeCodesSpec) :=
  OpenClaim.holds_of_wide 11 Tryd.f11 rfl rfl rfl rfl rfl rfl rfl ⟨rfl, rfl, rfl, rfl, rfl⟩ rfl rfl rfl rfl rfl (by kernel_rfl) Tryd.func11 (by kernel_rfl)
    (of_decide_eq_true (by kernel_rfl)) (by unfold Func.isWrapper; first | (rw [if_pos (by decide +kernel)]; kernel_rfl) | (rw [if_neg (by decide +kernel)]; exact ⟨rfl, rfl⟩))
    (fun os started H enc _ => lifted os started H enc)

end Go.Proofs.YtdcpejfnhegdaaaDoor.pakeCodes
namespace Go.Proofs.YtdcpejfnhegdaaaDoor
set_option maxRecDepth 100000 in
theorem pakeCodes_holds : Rows.PakeCodesCardSaid :=
  Claim7.holds_tied_plain_at .later [] [.data, .data] true _ false
    pakeCodes.over (fun _ h => by cases h) (by kernel_rfl) (fun _ h => by cases h) pakeCodes_row_tie rfl ⟨rfl, rfl⟩ (by kernel_rfl) rfl
    (fun f fn hf hfn => by
      obtain rfl : f = 11 := Option.some.inj ((show Tryd.prog.funcNamed "chartroom/chartroomlaw10.PakeCodes" = some 11 by kernel_rfl).symm.trans hf) |>.symm
      obtain rfl : fn = Tryd.f11 := (Option.some.inj (Tryd.func11.symm.trans hfn)).symm
      exact ⟨by kernel_rfl, fun j t ht => by
        rw [Tryd.params11] at ht
        have hm : t ∈ [3, 3, 3, 3] := by simpa using Array.mem_of_getElem? ht
        have hall : ([3, 3, 3, 3].all fun u => !Tryd.prog.wantsStandIn u) = true := by kernel_rfl
        exact (show Tryd.prog.wantsStandIn t = false by simpa using List.all_eq_true.1 hall t hm)⟩)
    (by kernel_rfl)
#print axioms pakeCodes_holds
end Go.Proofs.YtdcpejfnhegdaaaDoor
