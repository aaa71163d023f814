/- AcksAll returns true for every input. No condition beyond the card's own: the two tables of package digest are tied to the program's text. -/
import Derived.Test.YtbjbgneejdjniaaDoorPk51
import Derived.Test.YtbjbgneejdjniaaDoorPk45
import Derived.Test.YtbjbgneejdjniaaDoorCards
namespace Go.Proofs.YtbjbgneejdjniaaDoor.acksAll
open Go.ChangeShapes Go.WideShapes Go.ChangeAt Go.RowKit
open Go.ChangeMaps (open_string shut_string)
set_option linter.unusedVariables false
set_option linter.unusedSimpArgs false

set_option maxRecDepth 100000 in
set_option maxHeartbeats 8000000 in
theorem walk {w : World} (nv : Value) (ns : List UInt8) (hv : BytesAt w nv ns) (hs : ∃ x cap, nv = .slice x ns.length cap) (f0 : Int) (wf : (Lit.int .i64 f0).wf = true) (s0 : Int) (ws : (Lit.int .i64 s0).wf = true) (gv : Value) (gs : List Bool) (gg : ∀ b ∈ gs, True) (hg : BoS w gv gs) (hT : Tab w) :
    Calls Tryd.prog 6 #[nv, .int .i64 f0, .int .i64 s0, gv] w fun e w' => e = .returned (.bool true) ∧ Below w.heap.size w w' := by
  have SN := Lib.hid (fun W (h : Tab W) => sane33_any W h)
  have T0 := Lib.hid hT
  obtain ⟨na, nc, rfl⟩ := hs
  have HG := Lib.hid hg
  have HV := Lib.hid hv
  obtain ⟨ga, gc, rfl⟩ := hg.slice
  obtain ⟨q, hq⟩ : ∃ y, ns.length = y := ⟨_, rfl⟩
  obtain ⟨r, hr⟩ : ∃ y, gs.length = y := ⟨_, rfl⟩
  have HQ := Lib.hid hq
  have HR := Lib.hid hr
  rw [hq] at HV
  rw [hr] at HG
  rw [hq, hr]
  clear hq hr hg hv gg hT
  by_cases hin : 1 ≤ q ∧ q ≤ 5 ∧ r ≤ 60
  · obtain ⟨h1, h5, h60⟩ := hin
    have e1 : ((q : Int) == 0) = false := by rw [beq_eq_false_iff_ne]; omega
    have e2 : decide (5 < (q : Int)) = false := by rw [decide_eq_false_iff_not]; omega
    have e3 : decide (60 < (r : Int)) = false := by rw [decide_eq_false_iff_not]; omega
    have e4 : decide (q = 0) = false := by rw [decide_eq_false_iff_not]; omega
    have e5 : decide (5 < q) = false := by rw [decide_eq_false_iff_not]; omega
    have e6 : decide (60 < r) = false := by rw [decide_eq_false_iff_not]; omega
    have e7 : (q == 0) = false := by rw [beq_eq_false_iff_ne]; omega
    have Q5 : Hid (1 ≤ q ∧ q ≤ 5) := Lib.hid ⟨h1, h5⟩
    have R60 := Lib.hid h60
    clear h1 h5 h60
    go_enter Tryd.func6, Tryd.ntmps6
    have B0 := Lib.hid (Below.refl w.heap.size w)
    go_wp2_with fail
    refine (SN.out _ T0.out).mono ?_
    rintro e w1 ⟨rfl, b1⟩
    have B1 := Lib.hid (B0.out.trans (b1.mono B0.out.size))
    have T1 := Lib.hid (T0.out.below b1)
    clear b1 B0 T0
    have a0 := and15 f0
    have a1 := and3 s0
    obtain ⟨f, hf⟩ : ∃ y, f0 % 16 = y := ⟨_, rfl⟩
    obtain ⟨s, hs⟩ : ∃ y, s0 % 4 = y := ⟨_, rfl⟩
    rw [hf] at a0
    rw [hs] at a1
    have F16 : Hid (0 ≤ f ∧ f < 16) := Lib.hid (by omega)
    have S4 : Hid (0 ≤ s ∧ s < 4) := Lib.hid (by omega)
    clear hf hs
    go_upto_region 5 with fail
    go_wp2_with fail
    clear a0 a1 e1 e2 e3 e4 e5 e6 e7
    go_loopg [9, 10, 11, 45] q (fun g s9 s10 s11 s45 wx => ∃ (k : Nat) (u v : Value), k + g = q ∧ s9 = .int .i64 (leastQ ns k) ∧ s10 = u ∧ s11 = v ∧ s45 = .int .i64 (k : Int) ∧ Hid (OwnT 47 3 mbC wx w1.heap.size u (memsQ k)) ∧ Hid (OwnT 27 38 akC wx w1.heap.size v (acksQ f s ns k)) ∧ Hid (∀ b, u.ownBlock = some b → v.ownBlock ≠ some b) ∧ Hid (Below w1.heap.size w1 wx))
    case atStart => exact ⟨0, _, _, by omega, rfl, rfl, rfl, rfl, Lib.hid (OwnT.nil _ _), Lib.hid (OwnT.nil _ _), Lib.hid (fun b h => by cases h), Lib.hid (Below.refl _ _)⟩
    case round =>
      obtain ⟨k, u, v, hk, rfl, rfl, rfl, rfl, U2, V2, N2, BB2⟩ := hrel
      obtain ⟨w2, rfl⟩ : ∃ y, y = wr := ⟨_, rfl⟩
      have q0 : (0 : Int) ≤ (k : Int) := Int.natCast_nonneg k
      by_cases hlt : k < q
      · have d0 : decide ((k : Int) < (q : Int)) = true := by rw [decide_eq_true_iff]; omega
        have d1 : decide (k < q) = true := by rw [decide_eq_true_iff]; omega
        have KL := Lib.hid hlt
        have K5 : Hid (k < 5) := Lib.hid (by have := Q5.out; omega)
        have k5 : (k : Int) ≤ 4 := by have := Q5.out; omega
        have k6 : (k : Int) < (q : Int) := by omega
        have B2 := Lib.hid (B1.out.trans (BB2.out.mono B1.out.size))
        rcases HV.out.below B2.out with ⟨_, h0⟩ | ⟨b, off, cap, y1, y2, y3, y4, y5, y6⟩
        · have := HQ.out; simp [h0] at this; omega
        obtain ⟨rfl, rfl⟩ : na = some ⟨b, off, none⟩ ∧ nc = cap := by cases y1; exact ⟨rfl, rfl⟩
        have xp : w2.cell? ⟨b, off + k, none⟩ = some (vB (ns.getD k 0)) := y6 k (by have := HQ.out; omega)
        obtain ⟨ua, uc, rfl⟩ := U2.out.slice
        obtain ⟨va, vc, rfl⟩ := V2.out.slice
        have p1 : ∀ W, Calls Tryd.prog 20 #[.int .i64 ((k : Int) + 3)] W fun e w' => e = .returned (.tuple #[.int .i64 (pubV ((k : Int) + 3)), .int .i64 0]) ∧ Below W.heap.size W w' := fun W => by
          have h := spublic_any ((k : Int) + 3) W
          rwa [pubE_small K5.out] at h
        have m1 : ∀ W, Tab W → Calls Tryd.prog 21 #[.int .i64 f, .int .i64 (7 * (k : Int)), .int .i64 s, .int .i64 ((ns.getD k 0).toNat : Int), .agg #[.int .u8 ((ns.getD k 0).toNat : Int), .int .u8 0, .int .u8 0, .int .u8 0, .int .u8 0, .int .u8 0, .int .u8 0, .int .u8 0, .int .u8 0, .int .u8 0, .int .u8 0, .int .u8 0, .int .u8 0, .int .u8 0, .int .u8 0, .int .u8 0, .int .u8 0, .int .u8 0, .int .u8 0, .int .u8 0, .int .u8 0, .int .u8 0, .int .u8 0, .int .u8 0, .int .u8 0, .int .u8 0, .int .u8 0, .int .u8 0, .int .u8 0, .int .u8 0, .int .u8 0, .int .u8 0], .int .i64 ((k : Int) + 3)] W fun e w' => e = .returned (.tuple #[.agg (rowF 38 (akC (ackQ f s ns k))), .int .i64 0]) ∧ Below W.heap.size W w' := fun W h => by
          have hf := F16.out; have hs := S4.out; have hc := u8_le (ns.getD k 0)
          have := amake_any f (7 * (k : Int)) s ((ns.getD k 0).toNat : Int) (dig1 (ns.getD k 0)) ((k : Int) + 3) (by unfold i64B; omega) (by unfold i64B; omega) (by unfold i64B; omega) (by unfold i64B; omega) rfl W h
          rwa [dig1_lit, ackQ_E hf hs K5.out] at this
        have m2 : ∀ W, Tab W → Calls Tryd.prog 21 #[.int .i64 f, .int .i64 (7 * (k : Int)), .int .i64 s, .int .i64 0, .agg #[.int .u8 0, .int .u8 0, .int .u8 0, .int .u8 0, .int .u8 0, .int .u8 0, .int .u8 0, .int .u8 0, .int .u8 0, .int .u8 0, .int .u8 0, .int .u8 0, .int .u8 0, .int .u8 0, .int .u8 0, .int .u8 0, .int .u8 0, .int .u8 0, .int .u8 0, .int .u8 0, .int .u8 0, .int .u8 0, .int .u8 0, .int .u8 0, .int .u8 0, .int .u8 0, .int .u8 0, .int .u8 0, .int .u8 0, .int .u8 0, .int .u8 0, .int .u8 0], .int .i64 ((k : Int) + 3)] W fun e w' => e = .returned (.tuple #[.agg (rowF 38 (akC (ack0Q f s k))), .int .i64 0]) ∧ Below W.heap.size W w' := fun W h => by
          have hf := F16.out; have hs := S4.out
          have := amake_any f (7 * (k : Int)) s 0 z32 ((k : Int) + 3) (by unfold i64B; omega) (by unfold i64B; omega) (by unfold i64B; omega) (by unfold i64B; omega) rfl W h
          rwa [z32_lit, ack0Q_E hf hs K5.out] at this
        have c1 : ∀ W, Tab W → Calls Tryd.prog 22 #[.agg (rowF 38 (akC (ackQ f s ns k))), .int .i64 (pubV ((k : Int) + 3))] W fun e w' => e = .returned (.int .i64 0) ∧ Below W.heap.size W w' := fun W h => by
          have := acheck_any (ackQ f s ns k) (ackQ_wf F16.out S4.out k K5.out) (pubV ((k : Int) + 3)) W h
          rwa [ackQ_ck F16.out S4.out K5.out] at this
        have AQ := Lib.hid (acksQ_succ f s ns k)
        have MQ := Lib.hid (memsQ_succ k)
        have LQ : Hid (leastQ ns (k + 1) = min (leastQ ns k) ((ns.getD k 0).toNat : Int)) := Lib.hid rfl
        have lb := leastQ_bd ns k
        rw [show vB (ns.getD k 0) = .int .u8 ((ns.getD k 0).toNat : Int) from rfl] at xp
        have cb := u8_le (ns.getD k 0)
        rw [show memQ k = ⟨7 * (k : Int), 0, pubV ((k : Int) + 3)⟩ from rfl] at MQ
        obtain ⟨cn, hcn⟩ : ∃ y : Int, ((ns.getD k 0).toNat : Int) = y := ⟨_, rfl⟩
        obtain ⟨A, hA⟩ : ∃ y, ackQ f s ns k = y := ⟨_, rfl⟩
        obtain ⟨D, hD⟩ : ∃ y, ack0Q f s k = y := ⟨_, rfl⟩
        obtain ⟨pv, hpv⟩ : ∃ y, pubV ((k : Int) + 3) = y := ⟨_, rfl⟩
        obtain ⟨le, hle⟩ : ∃ y, leastQ ns k = y := ⟨_, rfl⟩
        obtain ⟨le2, hle2⟩ : ∃ y, leastQ ns (k + 1) = y := ⟨_, rfl⟩
        rw [hcn] at xp m1 LQ cb
        rw [hA] at m1 c1 AQ
        rw [hD] at m2 AQ
        rw [hpv] at p1 c1 MQ
        rw [hle] at LQ lb ⊢
        rw [hle2] at LQ
        have LE2 := Lib.hid hle2
        have P1 := Lib.hid p1; have M1 := Lib.hid m1; have M2 := Lib.hid m2; have C1 := Lib.hid c1
        have T2 := Lib.hid (T1.out.below BB2.out)
        have LM : Hid ((memsQ k).length = k) := Lib.hid (memsQ_len k)
        have LA : Hid ((acksQ f s ns k).length = 2 * k) := Lib.hid (acksQ_len f s ns k)
        rw [LM.out] at U2 N2 ⊢
        rw [LA.out] at V2 N2 ⊢
        clear p1 m1 m2 c1 hcn hA hD hpv hle hle2 y1 y2 y3 y4 y5 y6 hlt
        have UL := Lib.hid (fun k hk => (U2.out.lt k hk).2)
        have VL := Lib.hid (fun k hk => (V2.out.lt k hk).2)
        have G2 := Lib.hid (Since.refl w2)
        have I2 : Hid (Since w1 w2) := BB2
        go_wp2_with fail
        refine (P1.out _).mono ?_
        rintro e w3 ⟨rfl, b3⟩
        have B3 := Lib.hid (B2.out.trans (b3.mono B2.out.size))
        have T3 := Lib.hid (T2.out.below b3)
        have U3 := Lib.hid (U2.out.below b3)
        have V3 := Lib.hid (V2.out.below b3)
        have G3 := Lib.hid (G2.out.below b3)
        have I3 := Lib.hid (I2.out.below b3)
        clear b3 B2 T2 U2 V2 G2 I2
        go_wp2_with fail
        refine (M1.out _ T3.out).mono ?_
        rintro e w4 ⟨rfl, b4⟩
        have B4 := Lib.hid (B3.out.trans (b4.mono B3.out.size))
        have T4 := Lib.hid (T3.out.below b4)
        have U4 := Lib.hid (U3.out.below b4)
        have V4 := Lib.hid (V3.out.below b4)
        have G4 := Lib.hid (G3.out.below b4)
        have I4 := Lib.hid (I3.out.below b4)
        clear b4 B3 T3 U3 V3 G3 I3
        have Z4 := Lib.hid G4.out.le
        have Zr := Lib.hid (RowV.new w4 27 38 (akC ak0))
        go_upto_region 14 with ((with_reducible (show wpList _ _ _ (Oper.mk none _ _ _ _ _ :: _) _ _)); refine wpList_store_rowV (o := ⟨none, .store 27 (.tmp 16) (.tmp 68), _, _, _, _⟩) rfl 27 (.tmp 16) (.tmp 68) rfl w4.heap.size rfl 38 27 _ (akC A) rfl Zr.out (by kernel_rfl) (fun j _ => akC_one A j) ?_; intro w5 X5 o5)
        have b5 : Below w4.heap.size w4 w5 := ((Below.refl _ _).alloc (Nat.le_refl _) _).trans (o5.out.below (Nat.le_refl _) (by rw [World.size_alloc]; omega))
        have B5 := Lib.hid (B4.out.trans (b5.mono B4.out.size))
        have T5 := Lib.hid (T4.out.below b5)
        have U5 := Lib.hid (U4.out.below b5)
        have V5 := Lib.hid (V4.out.below b5)
        have G5 := Lib.hid (G4.out.below b5)
        have I5 := Lib.hid (I4.out.below b5)
        clear b5 o5 Zr B4 T4 U4 V4 G4 I4
        go_wp2_with fail
        refine (M2.out _ T5.out).mono ?_
        rintro e w6 ⟨rfl, b6⟩
        have B6 := Lib.hid (B5.out.trans (b6.mono B5.out.size))
        have T6 := Lib.hid (T5.out.below b6)
        have U6 := Lib.hid (U5.out.below b6)
        have V6 := Lib.hid (V5.out.below b6)
        have G6 := Lib.hid (G5.out.below b6)
        have I6 := Lib.hid (I5.out.below b6)
        have X6 := Lib.hid (X5.out.below b6)
        clear b6 B5 T5 U5 V5 G5 I5 X5
        have Z6 := Lib.hid G6.out.le
        have Zr := Lib.hid (RowV.new w6 27 38 (akC ak0))
        go_upto_region 15 with ((with_reducible (show wpList _ _ _ (Oper.mk none _ _ _ _ _ :: _) _ _)); refine wpList_store_rowV (o := ⟨none, .store 27 (.tmp 18) (.tmp 79), _, _, _, _⟩) rfl 27 (.tmp 18) (.tmp 79) rfl w6.heap.size rfl 38 27 _ (akC D) rfl Zr.out (by kernel_rfl) (fun j _ => akC_one D j) ?_; intro w7 Y7 o7)
        have b7 : Below w6.heap.size w6 w7 := ((Below.refl _ _).alloc (Nat.le_refl _) _).trans (o7.out.below (Nat.le_refl _) (by rw [World.size_alloc]; omega))
        have B7 := Lib.hid (B6.out.trans (b7.mono B6.out.size))
        have T7 := Lib.hid (T6.out.below b7)
        have U7 := Lib.hid (U6.out.below b7)
        have V7 := Lib.hid (V6.out.below b7)
        have G7 := Lib.hid (G6.out.below b7)
        have I7 := Lib.hid (I6.out.below b7)
        have X7 := Lib.hid (X6.out.below b7)
        clear b7 o7 Zr B6 T6 U6 V6 G6 I6 X6
        go_wp2_with (first | ((with_reducible (show wpList _ _ _ (Oper.mk (some 92) _ _ _ _ _ :: _) _ _)); refine wpList_unguard rfl ?_; refine wpList_load_rowV rfl 27 (.tmp 16) rfl w4.heap.size rfl 38 27 _ X7.out _ Tryd.underlying27 rfl (by kernel_rfl) ?_))
        refine (C1.out _ T7.out).mono ?_
        rintro e w8 ⟨rfl, b8⟩
        have B8 := Lib.hid (B7.out.trans (b8.mono B7.out.size))
        have T8 := Lib.hid (T7.out.below b8)
        have U8 := Lib.hid (U7.out.below b8)
        have V8 := Lib.hid (V7.out.below b8)
        have G8 := Lib.hid (G7.out.below b8)
        have I8 := Lib.hid (I7.out.below b8)
        have X8 := Lib.hid (X7.out.below b8)
        have Y8 := Lib.hid (Y7.out.below b8)
        clear b8 B7 T7 U7 V7 G7 I7 X7 Y7
        go_wp2_with (first | ((with_reducible (show wpList _ _ _ (Oper.mk (some 103) _ _ _ _ _ :: _) _ _)); refine Hid.out ?_))
        refine Lib.hid ?_
        have al := (Below.refl _ w8).alloc (Nat.le_refl _) (.cells #[.int .i64 (7 * (k : Int)), .int .i64 0, .int .i64 pv] 47)
        have R := RowV.new w8 47 3 (mbC ⟨7 * (k : Int), 0, pv⟩)
        have RR : RowV (w8.alloc (.cells #[.int .i64 (7 * (k : Int)), .int .i64 0, .int .i64 pv] 47)) w8.heap.size 47 3 (mbC ⟨7 * (k : Int), 0, pv⟩) := R
        obtain ⟨w9, hw⟩ : ∃ y, w8.alloc (.cells #[.int .i64 (7 * (k : Int)), .int .i64 0, .int .i64 pv] 47) = y := ⟨_, rfl⟩
        rw [hw] at al RR ⊢
        have U9 := Lib.hid (U8.out.below al)
        have V9 := Lib.hid (V8.out.below al)
        have X9 := Lib.hid (X8.out.below al)
        have Y9 := Lib.hid (Y8.out.below al)
        have I9 := Lib.hid (I8.out.below al)
        have R9 := Lib.hid (OwnT.one (c := mbC) (a := ⟨7 * (k : Int), 0, pv⟩) (by decide) RR)
        clear al R RR hw U8 V8 X8 Y8 B8 T8 G8 I8
        refine wpList_app_S rfl (.tmp 97) (.tmp 102) info_mem Tryd.underlying37 rfl (by decide) (by decide) mbC_one mb0 rfl w1.heap.size _ (memsQ k) rfl U9.out _ [⟨7 * (k : Int), 0, pv⟩] rfl (R9.out.at' mb0 (by decide) (by decide) (by simp)) (by rw [LM.out, List.length_singleton]; have := K5.out; omega) I9.out.le ?_
        intro u10 w10 U10 s10
        have I10 := Lib.hid (I9.out.app s10.out U9.out.ge)
        have V10 := Lib.hid (V9.out.app s10.out (by
          cases hb : (Value.slice va (2 * k) vc).ownBlock with
          | none => exact .inl rfl
          | some b => exact .inr (fun e => N2.out b e.symm hb)))
        have X10 := Lib.hid (s10.out.row X9.out (fun e => by have := UL.out _ e; have := Z4.out; omega))
        have Y10 := Lib.hid (s10.out.row Y9.out (fun e => by have := UL.out _ e; have := Z6.out; omega))
        have N10 : Hid (∀ b, u10.ownBlock = some b → (Value.slice va (2 * k) vc).ownBlock ≠ some b) := Lib.hid (fun b hb hv => s10.out.ne (V9.out.lt b hv).2 (fun e => N2.out b e hv) hb)
        rw [← MQ.out] at U10
        clear s10 U9 V9 X9 Y9 I9 R9
        obtain ⟨ua2, uc2, rfl⟩ := U10.out.slice
        rw [show (memsQ (k + 1)).length = k + 1 from memsQ_len _] at U10 N10 ⊢
        go_wp2_with (first | ((with_reducible (show wpList _ _ _ (Oper.mk (some 105) _ _ _ _ _ :: _) _ _)); refine Hid.out ?_))
        refine Lib.hid ?_
        refine wpList_load_rowV rfl 27 (.tmp 16) rfl w4.heap.size rfl 38 _ _ (X10.out) _ Tryd.underlying27 rfl (by kernel_rfl) ?_
        go_wp2_with (first | ((with_reducible (show wpList _ _ _ (Oper.mk (some 106) _ _ _ _ _ :: _) _ _)); refine Hid.out ?_))
        refine Lib.hid ?_
        refine wpList_load_rowV rfl 27 (.tmp 18) rfl w6.heap.size rfl 38 _ _ (Y10.out) _ Tryd.underlying27 rfl (by kernel_rfl) ?_
        go_wp2_with (first | ((with_reducible (show wpList _ _ _ (Oper.mk (some 107) _ _ _ _ _ :: _) _ _)); refine Hid.out ?_))
        refine Lib.hid ?_
        refine wpList_buildT (s := 38) (c := akC) rfl 38 2 _ rfl ak0 [A, D] rfl (by decide) (by decide) (by decide) (by decide) rfl Tryd.underlying38 (by kernel_rfl) (by kernel_rfl) ?_
        intro w11 R11 b11 L11
        have U11 := Lib.hid (U10.out.below b11.out)
        have V11 := Lib.hid (V10.out.below b11.out)
        have I11 := Lib.hid (I10.out.below b11.out)
        clear b11 L11 U10 V10 I10 X10 Y10 UL VL Z4 Z6
        refine wpList_app_S rfl (.tmp 104) (.tmp 107) info_ack Tryd.underlying38 rfl (by decide) (by decide) akC_one ak0 rfl w1.heap.size (.slice va (2 * k) vc) (acksQ f s ns k) rfl V11.out _ [A, D] rfl (R11.out.at' ak0 (by decide) (by decide) (by simp)) (by rw [LA.out, List.length_cons, List.length_singleton]; have := K5.out; omega) I11.out.le ?_
        intro v12 w12 V12 s12
        have I12 := Lib.hid (I11.out.app s12.out V11.out.ge)
        have U12 := Lib.hid (U11.out.app s12.out (by
          cases hb : (Value.slice ua2 (k + 1) uc2).ownBlock with
          | none => exact .inl rfl
          | some b => exact .inr (fun e => N10.out b hb e.symm)))
        have N12 : Hid (∀ b, (Value.slice ua2 (k + 1) uc2).ownBlock = some b → v12.ownBlock ≠ some b) := Lib.hid (fun b hb hv => s12.out.ne (U11.out.lt b hb).2 (fun e => N10.out b hb e) hv)
        rw [← AQ.out] at V12
        clear s12 U11 V11 I11 R11 N10 N2
        obtain ⟨va2, vc2, rfl⟩ := V12.out.slice
        rw [show (acksQ f s ns (k + 1)).length = 2 * (k + 1) from acksQ_len _ _ _ _] at V12 N12 ⊢
        simp only [Act.put, List.setIfInBounds_toArray, List.set_cons_succ, List.set_cons_zero]
        by_cases hmin : le ≤ cn
        · have m0 : min le cn = le := Int.min_eq_left hmin
          go_wp2_with fail
          go_roundg (gk - 1)
          case measure => have := KL.out; omega
          case rel =>
            go_light
            exact ⟨k + 1, _, _, by have := KL.out; omega, by rw [LE2.out, LQ.out, m0], rfl, rfl, by go_num, U12, V12, N12, I12⟩
        · have m0 : min le cn = cn := Int.min_eq_right (by omega)
          go_wp2_with fail
          go_roundg (gk - 1)
          case measure => have := KL.out; omega
          case rel =>
            go_light
            exact ⟨k + 1, _, _, by have := KL.out; omega, by rw [LE2.out, LQ.out, m0], rfl, rfl, by go_num, U12, V12, N12, I12⟩
      · obtain rfl : q = k := by omega
        have d0 : decide ((q : Int) < (q : Int)) = false := by rw [decide_eq_false_iff_not]; omega
        have d1 : decide (q < q) = false := by rw [decide_eq_false_iff_not]; omega
        have LM : Hid ((memsQ q).length = q) := Lib.hid (memsQ_len q)
        have LA : Hid ((acksQ f s ns q).length = 2 * q) := Lib.hid (acksQ_len f s ns q)
        obtain ⟨ua, uc, rfl⟩ := U2.out.slice
        obtain ⟨va, vc, rfl⟩ := V2.out.slice
        rw [LM.out] at U2 ⊢
        rw [LA.out] at V2 ⊢
        have LE := fun (f' s' : Int) (W : World) (h1 : MbS W (.slice ua q uc) (memsQ q)) (h2 : AkS W (.slice va (2 * q) vc) (acksQ f s ns q)) (h3 : Tab W) => aleast_any (memsQ q) (acksQ f s ns q) f' s' (.slice ua q uc) (.slice va (2 * q) vc) W h1 h2 (acksQ_wf F16.out S4.out Q5.out.2) (by rw [LA.out]; have := Q5.out; omega) (by rw [LM.out]; have := Q5.out; omega) h3
        obtain ⟨s2, hs2⟩ : ∃ y, (s + 1) % 4 = y := ⟨_, rfl⟩
        obtain ⟨f2, hf2⟩ : ∃ y, (f + 1) % 16 = y := ⟨_, rfl⟩
        have b1 := and3 (s + 1)
        have b2 := and15 (f + 1)
        rw [hs2] at b1
        rw [hf2] at b2
        have r1 := LE f s
        have r2 := LE f s2
        have r3 := LE f2 s
        rw [leastM_Q F16.out S4.out Q5.out.2 Q5.out.1] at r1
        rw [leastM_none F16.out S4.out Q5.out.2 (.inr (by have := S4.out; omega)) Q5.out.1] at r2
        rw [leastM_none F16.out S4.out Q5.out.2 (.inl (by have := F16.out; omega)) Q5.out.1] at r3
        have lb := leastQ_bd ns q
        obtain ⟨le, hle⟩ : ∃ y, leastQ ns q = y := ⟨_, rfl⟩
        rw [hle] at r1 lb ⊢
        have E1 := Lib.hid r1; have E2 := Lib.hid r2; have E3 := Lib.hid r3
        have MM2 := Lib.hid (U2.out.mems (by rw [LM.out]; have := Q5.out; omega))
        have AA2 := Lib.hid (V2.out.acks (by rw [LA.out]; have := Q5.out; omega))
        have B2 := Lib.hid (B1.out.trans (BB2.out.mono B1.out.size))
        have T2 := Lib.hid (T1.out.below BB2.out)
        have LB := Lib.hid lb
        have p0 := F16.out
        have p1 := S4.out
        have t0 : (le == le) = true := by simp
        have t1 : (le != le) = false := by simp
        clear LE r1 r2 r3 hs2 hf2 hle lb U2 V2 N2 BB2 hlt LM LA HV
        go_wp2_with fail
        refine (E1.out _ MM2.out AA2.out T2.out).mono ?_
        rintro e w3 ⟨rfl, b3⟩
        have G3 : Hid (Since w2 w3) := Lib.hid b3
        clear b3
        go_wp2_with fail
        refine (E2.out _ (MM2.out.below G3.out) (AA2.out.below G3.out) (T2.out.below G3.out)).mono ?_
        rintro e w4 ⟨rfl, b4⟩
        have G4 := Lib.hid (G3.out.below b4)
        clear b4
        go_wp2_with fail
        refine (E3.out _ (MM2.out.below G4.out) (AA2.out.below G4.out) (T2.out.below G4.out)).mono ?_
        rintro e w5 ⟨rfl, b5⟩
        have G5 := Lib.hid (G4.out.below b5)
        clear b5 b1 b2 p0 p1 t0 t1 G3 G4 E2 E3
        have MM5 := Lib.hid (MM2.out.below G5.out)
        have AA5 := Lib.hid (AA2.out.below G5.out)
        have T5 := Lib.hid (T2.out.below G5.out)
        have B5 := Lib.hid (B2.out.trans (G5.out.b.mono B2.out.size))
        clear MM2 AA2 T2 B2 G5 B1 T1
        have HG5 := Lib.hid (HG.out.below B5.out)
        have r60 := R60.out
        go_wp2_with fail
        go_loopg [20, 21, 143] r (fun g s20 s21 s143 wx => ∃ (k : Nat) (u v : Value), k + g = r ∧ s20 = u ∧ s21 = v ∧ s143 = .int .i64 (k : Int) ∧ Hid (OwnT 45 35 enC wx w5.heap.size u (entsQ gs k)) ∧ Hid (OwnT 3 1 intC wx w5.heap.size v (wantQ le gs k)) ∧ Hid (∀ b, u.ownBlock = some b → v.ownBlock ≠ some b) ∧ Hid (Since w5 wx))
        case atStart => exact ⟨0, _, _, by omega, rfl, rfl, rfl, Lib.hid (OwnT.nil _ _), Lib.hid (OwnT.nil _ _), Lib.hid (fun b h => by cases h), Lib.hid (Since.refl _)⟩
        case round =>
          obtain ⟨k, u, v, hk, rfl, rfl, rfl, U6, V6, N6, I6⟩ := hrel
          obtain ⟨w6, rfl⟩ : ∃ y, y = wr := ⟨_, rfl⟩
          have q0 : (0 : Int) ≤ (k : Int) := Int.natCast_nonneg k
          have LU : Hid ((entsQ gs k).length = k) := Lib.hid (entsQ_len gs k)
          obtain ⟨ua2, uc2, rfl⟩ := U6.out.slice
          obtain ⟨va2, vc2, rfl⟩ := V6.out.slice
          rw [LU.out] at U6 N6 ⊢
          by_cases hlt : k < r
          · have d0 : decide ((k : Int) < (r : Int)) = true := by rw [decide_eq_true_iff]; omega
            have d1 : decide (k < r) = true := by rw [decide_eq_true_iff]; omega
            have KL := Lib.hid hlt
            have k6 : (k : Int) < (r : Int) := by omega
            have LW : Hid ((wantQ le gs k).length ≤ k) := Lib.hid (wantQ_len le gs k)
            obtain ⟨b, off, rfl, hcap, hb, hc⟩ := SlAt.at_elem (s := 1) (n := r) (a := ga) (k := gc) (c := fun i => boC (gs.getD i false)) (by have h := HG5.out.below I6.out.b; unfold BoS at h; rw [HR.out] at h; exact h) hlt
            obtain ⟨x, hx⟩ : ∃ y, gs.getD k false = y := ⟨_, rfl⟩
            have x0 : w6.cell? ⟨b, off + k, none⟩ = some (.bool x) := by have := hc k hlt 0 (by decide); rw [hx] at this; simpa [boC] using this
            have HX := Lib.hid hx
            have EQ := Lib.hid (entsQ_succ gs k)
            rw [hx] at EQ
            obtain ⟨wl, hwl⟩ : ∃ y, (wantQ le gs k).length = y := ⟨_, rfl⟩
            have WL := Lib.hid hwl
            rw [hwl] at V6 N6 LW ⊢
            clear hc hb hcap hx hlt hwl
            go_wp2_with (first | ((with_reducible (show wpList _ _ _ (Oper.mk (some 152) _ _ _ _ _ :: _) _ _)); refine Hid.out ?_))
            refine Lib.hid ?_
            have al := (Below.refl _ w6).alloc (Nat.le_refl _) (.cells #[.int .i64 4, .int .u8 0, .int .u8 0, .int .u8 0, .int .u8 0, .int .u8 0, .int .u8 0, .int .u8 0, .int .u8 0, .int .u8 0, .int .u8 0, .int .u8 0, .int .u8 0, .int .u8 0, .int .u8 0, .int .u8 0, .int .u8 0, .int .u8 0, .int .u8 0, .int .u8 0, .int .u8 0, .int .u8 0, .int .u8 0, .int .u8 0, .int .u8 0, .int .u8 0, .int .u8 0, .int .u8 0, .int .u8 0, .int .u8 0, .int .u8 0, .int .u8 0, .int .u8 0, .slice none 0 0, .bool x] 45)
            have RR : RowV (w6.alloc (.cells #[.int .i64 4, .int .u8 0, .int .u8 0, .int .u8 0, .int .u8 0, .int .u8 0, .int .u8 0, .int .u8 0, .int .u8 0, .int .u8 0, .int .u8 0, .int .u8 0, .int .u8 0, .int .u8 0, .int .u8 0, .int .u8 0, .int .u8 0, .int .u8 0, .int .u8 0, .int .u8 0, .int .u8 0, .int .u8 0, .int .u8 0, .int .u8 0, .int .u8 0, .int .u8 0, .int .u8 0, .int .u8 0, .int .u8 0, .int .u8 0, .int .u8 0, .int .u8 0, .int .u8 0, .slice none 0 0, .bool x] 45)) w6.heap.size 45 35 (enC (entQ x)) := RowV.new w6 45 35 (enC (entQ x))
            obtain ⟨w7, hw⟩ : ∃ y, w6.alloc (.cells #[.int .i64 4, .int .u8 0, .int .u8 0, .int .u8 0, .int .u8 0, .int .u8 0, .int .u8 0, .int .u8 0, .int .u8 0, .int .u8 0, .int .u8 0, .int .u8 0, .int .u8 0, .int .u8 0, .int .u8 0, .int .u8 0, .int .u8 0, .int .u8 0, .int .u8 0, .int .u8 0, .int .u8 0, .int .u8 0, .int .u8 0, .int .u8 0, .int .u8 0, .int .u8 0, .int .u8 0, .int .u8 0, .int .u8 0, .int .u8 0, .int .u8 0, .int .u8 0, .int .u8 0, .slice none 0 0, .bool x] 45) = y := ⟨_, rfl⟩
            rw [hw] at al RR ⊢
            have U7 := Lib.hid (U6.out.below al)
            have V7 := Lib.hid (V6.out.below al)
            have I7 := Lib.hid (I6.out.below al)
            have R7 := Lib.hid (OwnT.one (c := enC) (a := entQ x) (by decide) RR)
            clear al RR hw U6 V6 I6 x0
            refine wpList_app_S rfl (.tmp 148) (.tmp 151) info_ent Tryd.underlying39 rfl (by decide) (by decide) enC_one en0 rfl w5.heap.size _ (entsQ gs k) rfl U7.out _ [entQ x] rfl (R7.out.at' en0 (by decide) (by decide) (by simp)) (by rw [LU.out, List.length_singleton]; have := KL.out; have := R60.out; omega) I7.out.le ?_
            intro u8 w8 U8 s8
            have I8 := Lib.hid (I7.out.app s8.out U7.out.ge)
            have V8 := Lib.hid (V7.out.app s8.out (by
              cases hb : (Value.slice va2 wl vc2).ownBlock with
              | none => exact .inl rfl
              | some b => exact .inr (fun e => N6.out b e.symm hb)))
            have N8 : Hid (∀ b, u8.ownBlock = some b → (Value.slice va2 wl vc2).ownBlock ≠ some b) := Lib.hid (fun b hb hv => s8.out.ne (V7.out.lt b hv).2 (fun e => N6.out b e hv) hb)
            rw [← EQ.out] at U8
            clear s8 U7 V7 I7 R7 N6
            obtain ⟨ua3, uc3, rfl⟩ := U8.out.slice
            rw [show (entsQ gs (k + 1)).length = k + 1 from entsQ_len _ _] at U8 N8 ⊢
            simp only [Act.put, List.setIfInBounds_toArray, List.set_cons_succ, List.set_cons_zero]
            cases x
            · have WQ := Lib.hid (wantQ_no (n := le) (gs := gs) (k := k) (fun h => by rw [HX.out] at h; cases h.1))
              rw [← WQ.out] at V8
              go_wp2_with fail
              go_roundg (gk - 1)
              case measure => have := KL.out; omega
              case rel =>
                go_light
                exact ⟨k + 1, _, _, by have := KL.out; omega, rfl, rfl, by go_num, U8, V8, N8, I8⟩
            · by_cases hle : le ≤ (k : Int)
              · have t0 : decide (le ≤ (k : Int)) = true := by rw [decide_eq_true_iff]; exact hle
                have WQ := Lib.hid (wantQ_yes HX.out hle)
                clear hle
                go_wp2_with (first | ((with_reducible (show wpList _ _ _ (Oper.mk (some 163) _ _ _ _ _ :: _) _ _)); refine Hid.out ?_))
                refine Lib.hid ?_
                have al := (Below.refl _ w8).alloc (Nat.le_refl _) (.cells #[.int .i64 ((k : Int) + 1)] 3)
                have RR : RowV (w8.alloc (.cells #[.int .i64 ((k : Int) + 1)] 3)) w8.heap.size 3 1 (intC ((k : Int) + 1)) := RowV.new w8 3 1 (intC ((k : Int) + 1))
                obtain ⟨w9, hw⟩ : ∃ y, w8.alloc (.cells #[.int .i64 ((k : Int) + 1)] 3) = y := ⟨_, rfl⟩
                rw [hw] at al RR ⊢
                have U9 := Lib.hid (U8.out.below al)
                have V9 := Lib.hid (V8.out.below al)
                have I9 := Lib.hid (I8.out.below al)
                have R9 := Lib.hid (OwnT.one (c := intC) (a := (k : Int) + 1) (by decide) RR)
                clear al RR hw U8 V8 I8
                refine wpList_app_S rfl (.tmp 159) (.tmp 162) info_int3 Tryd.underlying42 rfl (by decide) (by decide) (fun _ _ => rfl) 0 rfl w5.heap.size _ (wantQ le gs k) rfl V9.out _ [(k : Int) + 1] rfl (R9.out.at' 0 (by decide) (by decide) (by simp)) (by rw [WL.out, List.length_singleton]; have := LW.out; have := KL.out; have := R60.out; omega) I9.out.le ?_
                intro v10 w10 V10 s10
                have I10 := Lib.hid (I9.out.app s10.out V9.out.ge)
                have U10 := Lib.hid (U9.out.app s10.out (by
                  cases hb : (Value.slice ua3 (k + 1) uc3).ownBlock with
                  | none => exact .inl rfl
                  | some b => exact .inr (fun e => N8.out b hb e.symm)))
                have N10 : Hid (∀ b, (Value.slice ua3 (k + 1) uc3).ownBlock = some b → v10.ownBlock ≠ some b) := Lib.hid (fun b hb hv => s10.out.ne (U9.out.lt b hb).2 (fun e => N8.out b hb e) hv)
                rw [← WQ.out] at V10
                clear s10 U9 V9 I9 R9 N8
                obtain ⟨va4, vc4, rfl⟩ := V10.out.slice
                obtain ⟨wl2, hwl2⟩ : ∃ y, (wantQ le gs (k + 1)).length = y := ⟨_, rfl⟩
                rw [hwl2] at V10 N10 ⊢
                clear hwl2
                simp only [Act.put, List.setIfInBounds_toArray, List.set_cons_succ, List.set_cons_zero]
                go_wp2_with fail
                go_roundg (gk - 1)
                case measure => have := KL.out; omega
                case rel =>
                  go_light
                  exact ⟨k + 1, _, _, by have := KL.out; omega, rfl, rfl, by go_num, U10, V10, N10, I10⟩
              · have t0 : decide (le ≤ (k : Int)) = false := by rw [decide_eq_false_iff_not]; exact hle
                have WQ := Lib.hid (wantQ_no (n := le) (gs := gs) (k := k) (fun h => hle h.2))
                rw [← WQ.out] at V8
                clear hle
                go_wp2_with fail
                go_roundg (gk - 1)
                case measure => have := KL.out; omega
                case rel =>
                  go_light
                  exact ⟨k + 1, _, _, by have := KL.out; omega, rfl, rfl, by go_num, U8, V8, N8, I8⟩
          · obtain rfl : r = k := by omega
            have d0 : decide ((r : Int) < (r : Int)) = false := by rw [decide_eq_false_iff_not]; omega
            have d1 : decide (r < r) = false := by rw [decide_eq_false_iff_not]; omega
            have EE6 : Hid (EnS w6 (.slice ua2 r uc2) (entsQ gs r)) := Lib.hid (U6.out.ents (by rw [LU.out]; have := R60.out; omega))
            have WW6 := Lib.hid (V6.out.ints (by have := wantQ_len le gs r; have := R60.out; omega))
            have MM6 := Lib.hid (MM5.out.below I6.out.b)
            have AA6 := Lib.hid (AA5.out.below I6.out.b)
            have T6 := Lib.hid (T5.out.below I6.out.b)
            have B6 := Lib.hid (B5.out.trans (I6.out.b.mono B5.out.size))
            have WR := awrong_any le (entsQ gs r) (by rw [LU.out]; have := R60.out; omega) (.slice ua q uc) (.slice va (2 * q) vc) (.slice ua2 r uc2) f s w6 EE6.out (fun W b => E1.out W (MM6.out.below b) (AA6.out.below b) (T6.out.below b))
            rw [show goneU (entsQ gs r) (entsQ gs r).length = goneU (entsQ gs r) r by rw [LU.out], wrongQ le gs r r (Nat.le_refl _)] at WR
            have WRH := Lib.hid WR
            have WL := Lib.hid (wantQ_len le gs r)
            obtain ⟨wl, hwl⟩ : ∃ y, wantQ le gs r = y := ⟨_, rfl⟩
            rw [hwl] at WRH WW6 WL ⊢
            clear WR hwl U6 V6 N6 I6 MM5 AA5 T5 B5 EE6 MM6 AA6 HG5 HG hlt
            go_wp2_with fail
            refine WRH.out.mono ?_
            rintro e w7 ⟨v7, rfl, o7, b7⟩
            have W7 := Lib.hid (ints_own o7 (by have := WL.out; have := R60.out; omega))
            have WW7 := Lib.hid (WW6.out.below b7)
            have B7 := Lib.hid (B6.out.trans (b7.mono B6.out.size))
            obtain ⟨va7, vc7, rfl⟩ := W7.out.slice
            clear o7 b7 WW6 B6 T6 WRH
            have SI := same_any _ _ wl wl w7 W7.out WW7.out
            rw [decide_eq_true rfl] at SI
            have SIH := Lib.hid SI
            clear SI
            go_wp2_with fail
            refine SIH.out.mono ?_
            rintro e w8 ⟨rfl, b8⟩
            have B8 := Lib.hid (B7.out.trans (b8.mono B7.out.size))
            clear b8
            go_wp2_with fail
            go_ret
            exact ⟨rfl, B8.out⟩
  · by_cases h0 : q = 0
    · subst h0
      have e1 : (((0 : Nat) : Int) == 0) = true := by decide
      go_enter Tryd.func6, Tryd.ntmps6
      have B0 := Lib.hid (Below.refl w.heap.size w)
      go_wp2_with fail
      refine (SN.out _ T0.out).mono ?_
      rintro e w1 ⟨rfl, b1⟩
      have B1 := Lib.hid (B0.out.trans (b1.mono B0.out.size))
      have T1 := Lib.hid (T0.out.below b1)
      clear b1 B0 T0
      go_wp2_with fail
      go_ret
      exact ⟨rfl, B1.out⟩
    · have e1 : ((q : Int) == 0) = false := by rw [beq_eq_false_iff_ne]; omega
      have e4 : (q == 0) = false := by rw [beq_eq_false_iff_ne]; omega
      have e7 : decide (q = 0) = false := by rw [decide_eq_false_iff_not]; omega
      by_cases h5 : 5 < q
      · have e2 : decide (5 < (q : Int)) = true := by rw [decide_eq_true_iff]; omega
        have e5 : decide (5 < q) = true := by rw [decide_eq_true_iff]; omega
        clear hin h0 h5
        go_enter Tryd.func6, Tryd.ntmps6
        have B0 := Lib.hid (Below.refl w.heap.size w)
        go_wp2_with fail
        refine (SN.out _ T0.out).mono ?_
        rintro e w1 ⟨rfl, b1⟩
        have B1 := Lib.hid (B0.out.trans (b1.mono B0.out.size))
        have T1 := Lib.hid (T0.out.below b1)
        clear b1 B0 T0
        go_wp2_with fail
        go_ret
        exact ⟨rfl, B1.out⟩
      · have e2 : decide (5 < (q : Int)) = false := by rw [decide_eq_false_iff_not]; omega
        have e5 : decide (5 < q) = false := by rw [decide_eq_false_iff_not]; omega
        have e3 : decide (60 < (r : Int)) = true := by rw [decide_eq_true_iff]; omega
        have e6 : decide (60 < r) = true := by rw [decide_eq_true_iff]; omega
        clear hin h0 h5
        go_enter Tryd.func6, Tryd.ntmps6
        have B0 := Lib.hid (Below.refl w.heap.size w)
        go_wp2_with fail
        refine (SN.out _ T0.out).mono ?_
        rintro e w1 ⟨rfl, b1⟩
        have B1 := Lib.hid (B0.out.trans (b1.mono B0.out.size))
        have T1 := Lib.hid (T0.out.below b1)
        clear b1 B0 T0
        go_wp2_with fail
        go_ret
        exact ⟨rfl, B1.out⟩

set_option maxRecDepth 100000 in
set_option maxHeartbeats 1000000 in
theorem lifted (os : Os) (started : os.Started) (H : Type) (enc : TypeId × Value → H) :
    ReturnsInHanded {} Tryd.checked os 6 .any (fun w args => (Rows.acksAllSpec.pre enc Tryd.prog Tryd.f6 [] false w args ∧ laidMetH Tryd.prog laidL w) ∧ sizedMet enc Tryd.prog Tryd.f6 (OpenSpec.ofChange Rows.acksAllSpec) false w args)
      (Rows.acksAllSpec.post enc Tryd.prog Tryd.f6 false true false false) := by
  refine returnsInHanded_of_change_and (C := Tryd.checked) (X := fun w _ => laidMetH Tryd.prog laidL w) (fun _ _ _ hh h => h.of_heap hh) own started (by kernel_rfl) Tryd.func6
    (ChangeSpec.witness_shaped (enc := enc) (C := Tryd.checked) (os := os) (X := fun w _ => laidMetH Tryd.prog laidL w) false (World.doorLaid Tryd.prog 19 os) #[.slice none 0 0, .int .i64 0, .int .i64 0, .slice none 0 0] 8 rfl (World.shaped_of_RefB (by kernel_rfl) (by kernel_rfl)) (by kernel_rfl) (by kernel_rfl) (by kernel_rfl) (door_met os _)) ?_
  intro W base args ds gs before hval0 hW _ hsz hL _
  have hval : ∀ (j : Nat) t v, Tryd.f6.params[j]? = some t → args[j]? = some v → Value.okWide Tryd.prog W .any base t v := hval0
  have hW' := hW
  obtain ⟨p, q, hA0, hV, rfl, hfz, hnd⟩ := hW
  have hA : DataW.TrodAll enc Tryd.prog W 0 (fun _ => true) true Tryd.f6.params.toList args.toList ds p := hA0
  rw [Tryd.params6] at hA hval
  obtain ⟨v0, vs0, d0, ds0, p0, q0, hargs, rfl, rfl, h0, r0⟩ := trodAll_cons hA
  obtain ⟨v1, vs1, d1, ds1, p1, q1, rfl, rfl, rfl, h1, r1⟩ := trodAll_cons r0
  obtain ⟨v2, vs2, d2, ds2, p2, q2, rfl, rfl, rfl, h2, r2⟩ := trodAll_cons r1
  obtain ⟨v3, vs3, d3, ds3, p3, q3, rfl, rfl, rfl, h3, r3⟩ := trodAll_cons r2
  obtain ⟨rfl, rfl, rfl⟩ := trodAll_nil r3
  obtain rfl : args = #[v0, v1, v2, v3] := by cases args; simp_all
  obtain ⟨rfl, rfl⟩ := trodVars_none hV
  have k0 := h0
  have lt0 : ∀ x ∈ p0, x.block < W.heap.size := by obtain ⟨m, hm⟩ := k0; exact DataW.trod_lt m _ _ _ hm
  obtain ⟨l0, b0, s0⟩ := bytes_open (hval 0 28 v0 rfl rfl) h0 (fun elems spare e => by
    have := sized_slice hsz (j := 0) (t := 28) (e := 5) (elems := elems) (spare := spare) (by kernel_rfl) (by rw [← e]; rfl) Tryd.underlying28
    rw [show Tryd.checked.prog.bytesOf 5 = 1 by kernel_rfl] at this; omega)
  obtain ⟨a1, rfl, rfl, rfl, w1⟩ := open_int Tryd.underlying3 (hval 1 3 v1 rfl rfl) h1
  obtain ⟨a2, rfl, rfl, rfl, w2⟩ := open_int Tryd.underlying3 (hval 2 3 v2 rfl rfl) h2
  have k3 := h3
  have lt3 : ∀ x ∈ p3, x.block < W.heap.size := by obtain ⟨m, hm⟩ := k3; exact DataW.trod_lt m _ _ _ hm
  obtain ⟨l3, g3, s3⟩ := slice_open (c := boC) (good := fun _ : Bool => True) false Tryd.underlying58 (show Tryd.prog.cellsOf 4 = 1 by kernel_rfl) (by decide) (fun n cs x h => trod_boo h) (hval 3 58 v3 rfl rfl) h3 (fun elems spare e => by
    have := sized_slice hsz (j := 3) (t := 58) (e := 4) (elems := elems) (spare := spare) (by kernel_rfl) (by rw [← e]; rfl) Tryd.underlying58
    rw [show Tryd.checked.prog.bytesOf 4 = 1 by kernel_rfl] at this; omega)
  have hT := tab_of_laid hL
  clear hA0 hval0 hsz hL
  simp only [List.append_nil] at hW'
  refine (walk v0 l0 b0 s0 a1 w1 a2 w2 v3 l3 g3 s3 hT).mono fun e W' ⟨he, hg⟩ => ?_
  subst he
  exact ⟨_, rfl, _, _, _, [], _, [], hW', trodAll_mk1 (shut_bool Tryd.underlying4 _), (trodAll_cons_mk (Below.trod laidOut (by kernel_rfl) (of_decide_eq_true (by kernel_rfl)) k0 hg lt0) (trodAll_cons_mk (shut_int Tryd.underlying3 w1) (trodAll_cons_mk (shut_int Tryd.underlying3 w2) (trodAll_cons_mk (Below.trod laidOut (by kernel_rfl) (of_decide_eq_true (by kernel_rfl)) k3 hg lt3) trodAll_mk0)))), rfl, hg.frame _, fun h => by cases h⟩

theorem over : Rows.acksAllRow.holds Tryd.pinned (OpenSpec.ofChange Rows.acksAllSpec) :=
  OpenClaim.holds_of_wide 6 Tryd.f6 rfl rfl rfl rfl rfl rfl rfl ⟨rfl, rfl, rfl, rfl, rfl⟩ rfl rfl rfl rfl rfl (by kernel_rfl) Tryd.func6 (by kernel_rfl)
    (of_decide_eq_true (by kernel_rfl)) (by unfold Func.isWrapper; first | (rw [if_pos (by decide +kernel)]; kernel_rfl) | (rw [if_neg (by decide +kernel)]; exact ⟨rfl, rfl⟩))
    (fun os started H enc _ => lifted os started H enc)

end Go.Proofs.YtbjbgneejdjniaaDoor.acksAll
namespace Go.Proofs.YtbjbgneejdjniaaDoor
set_option maxRecDepth 100000 in
theorem acksAll_holds : Rows.AcksAllCardSaid :=
  Claim7.holds_tied_plain_at .later [] [.data, .data] true _ true
    acksAll.over (fun _ h => by cases h) (by kernel_rfl) (fun _ h => by cases h) acksAll_row_tie rfl ⟨rfl, rfl⟩ (by kernel_rfl) rfl
    (fun f fn hf hfn => by
      obtain rfl : f = 6 := Option.some.inj ((show Tryd.prog.funcNamed "chartroom/chartroomlaw33.AcksAll" = some 6 by kernel_rfl).symm.trans hf) |>.symm
      obtain rfl : fn = Tryd.f6 := (Option.some.inj (Tryd.func6.symm.trans hfn)).symm
      exact ⟨by kernel_rfl, fun j t ht => by
        rw [Tryd.params6] at ht
        have hm : t ∈ [28, 3, 3, 58] := by simpa using Array.mem_of_getElem? ht
        have hall : ([28, 3, 3, 58].all fun u => !Tryd.prog.wantsStandIn u) = true := by kernel_rfl
        exact (show Tryd.prog.wantsStandIn t = false by simpa using List.all_eq_true.1 hall t hm)⟩)
    (by kernel_rfl)
#print axioms acksAll_holds
end Go.Proofs.YtbjbgneejdjniaaDoor
