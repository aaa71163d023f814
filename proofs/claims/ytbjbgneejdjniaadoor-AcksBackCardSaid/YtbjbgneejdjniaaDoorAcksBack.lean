/- AcksBack returns true for every input. No condition beyond the card's own: the two tables of package digest are tied to the program's text. -/
import Derived.Test.YtbjbgneejdjniaaDoorPk51
import Derived.Test.YtbjbgneejdjniaaDoorPk47
import Derived.Test.YtbjbgneejdjniaaDoorCards
namespace Go.Proofs.YtbjbgneejdjniaaDoor.acksBack
open Go.ChangeShapes Go.WideShapes Go.ChangeAt Go.RowKit
open Go.ChangeMaps (open_string shut_string)
set_option linter.unusedVariables false
set_option linter.unusedSimpArgs false

set_option maxRecDepth 100000 in
set_option maxHeartbeats 8000000 in
theorem walk {w : World} (a : Ak) (ha : a.wf) (v : Value) (l : List UInt8) (hv : BytesAt w v l) (hs : ∃ x cap, v = .slice x l.length cap) (hT : Tab w) :
    Calls Tryd.prog 7 #[.agg (rowF 38 (akC a)), v] w fun e w' => e = .returned (.bool true) ∧ Below w.heap.size w w' := by
  obtain ⟨xa, cap, rfl⟩ := hs
  have V := Lib.hid hv
  have T0 := Lib.hid hT
  have S := Lib.hid (fun W (h : Tab W) => sane33_any W h)
  by_cases hn : l.length ≤ 300
  · have ENC : ∀ (b : Ak), b.wf → okA b = true → ∀ W, Calls Tryd.prog 9 #[.agg (rowF 38 (akC b))] W fun e w' => (∃ u, e = .returned (.tuple #[u, .int .i64 0]) ∧ Owns w' W.heap.size u (encA b [b.r, b.g])) ∧ Below W.heap.size W w' := fun b hb h W => by
      refine (aencode_any b hb W).mono fun e w' h2 => ?_
      unfold AEncPost at h2
      rwa [if_pos h] at h2
    have D := Lib.hid (fun W (h : BytesAt W (.slice xa l.length cap) l) => adecode_any _ l W h (by omega))
    have WV := Lib.hid (adecV_wf l (by omega))
    have AO := Lib.hid (adecE_ok (l := l))
    have AB := Lib.hid (adecV_bad (l := l))
    have LB : Hid ((l.length : Int) ≤ 300) := Lib.hid (by omega)
    have EQ0 : Hid (∀ W, (binOp .eql 27 (.agg (rowF 38 (akC ak0))) (.agg #[.int .i64 0, .int .i64 0, .int .i64 0, .int .i64 0, .int .u8 0, .int .u8 0, .int .u8 0, .int .u8 0, .int .u8 0, .int .u8 0, .int .u8 0, .int .u8 0, .int .u8 0, .int .u8 0, .int .u8 0, .int .u8 0, .int .u8 0, .int .u8 0, .int .u8 0, .int .u8 0, .int .u8 0, .int .u8 0, .int .u8 0, .int .u8 0, .int .u8 0, .int .u8 0, .int .u8 0, .int .u8 0, .int .u8 0, .int .u8 0, .int .u8 0, .int .u8 0, .int .u8 0, .int .u8 0, .int .u8 0, .int .u8 0, .int .i64 0, .int .i64 0])).run Tryd.prog W = .ok (.bool true) W) := Lib.hid (fun W => eql_ack ak0 ak0 rfl rfl W)
    have EG0 : Hid (∀ x y W, (eqGuard .eql 27 x y (.agg (rowF 38 (akC ak0))) (.agg #[.int .i64 0, .int .i64 0, .int .i64 0, .int .i64 0, .int .u8 0, .int .u8 0, .int .u8 0, .int .u8 0, .int .u8 0, .int .u8 0, .int .u8 0, .int .u8 0, .int .u8 0, .int .u8 0, .int .u8 0, .int .u8 0, .int .u8 0, .int .u8 0, .int .u8 0, .int .u8 0, .int .u8 0, .int .u8 0, .int .u8 0, .int .u8 0, .int .u8 0, .int .u8 0, .int .u8 0, .int .u8 0, .int .u8 0, .int .u8 0, .int .u8 0, .int .u8 0, .int .u8 0, .int .u8 0, .int .u8 0, .int .u8 0, .int .i64 0, .int .i64 0])).run Tryd.prog W = .ok () W) := Lib.hid (fun x y W => guard_ack _ x y ak0 ak0 W)
    obtain ⟨ev, hev⟩ : ∃ y, adecV l = y := ⟨_, rfl⟩
    obtain ⟨ee, hee⟩ : ∃ y, adecE l = y := ⟨_, rfl⟩
    rw [hev] at D WV AO AB
    rw [hee] at D AO AB
    obtain ⟨n, hln⟩ : ∃ y, l.length = y := ⟨_, rfl⟩
    have HN := Lib.hid hln
    rw [hln] at V D hn LB ⊢
    have d1 : decide (300 < (n : Int)) = false := by rw [decide_eq_false_iff_not]; omega
    have d2 : decide (300 < n) = false := by rw [decide_eq_false_iff_not]; omega
    have HA := Lib.hid ha
    have EN := Lib.hid ENC
    clear hev hee hln hn hv hT ha ENC
    by_cases hok : okA a = true
    · have E1 := Lib.hid (EN.out a HA.out hok)
      have LA := Lib.hid (Nat.le_trans (encA_rg_len HA.out) (show 2000 ≤ 1000000 by decide))
      have D1 := Lib.hid (fun W v (h : BytesAt W v (encA a [a.r, a.g])) => adecode_any v _ W h LA.out)
      have LA2 : Hid (((encA a [a.r, a.g]).length : Int) ≤ 140737488351232) := Lib.hid (by have := LA.out; omega)
      rw [adecE_enc HA.out hok, adecV_enc HA.out hok] at D1
      have NE : ∀ W, (binOp .neq 27 (.agg (rowF 38 (akC a))) (.agg (rowF 38 (akC a)))).run Tryd.prog W = .ok (.bool false) W := fun W => by rw [neq_ack a a HA.out.ch HA.out.ch, akB_self]; rfl
      have GU : ∀ x y W, (eqGuard .neq 27 x y (.agg (rowF 38 (akC a))) (.agg (rowF 38 (akC a)))).run Tryd.prog W = .ok () W := fun x y W => guard_ack _ x y _ _ W
      obtain ⟨en, hen⟩ : ∃ y, encA a [a.r, a.g] = y := ⟨_, rfl⟩
      rw [hen] at E1 LA D1 LA2
      clear hen hok
      go_enter Tryd.func7, Tryd.ntmps7
      have B0 := Lib.hid (Below.refl w.heap.size w)
      go_upto_region 1 with fail
      obtain ⟨w1, hw1⟩ : ∃ y, w.alloc (.cells (rowF 38 (akC a)) 27) = y := ⟨_, rfl⟩
      have b1 : Below w.heap.size w w1 := by rw [← hw1]; exact (Below.refl _ _).alloc (Nat.le_refl _) _
      have A1 : Hid (RowV w1 w.heap.size 27 38 (akC a)) := Lib.hid (by rw [← hw1]; exact RowV.new w _ 38 (akC a))
      have z1 : w.heap.size + 1 = w1.heap.size := by rw [← hw1]; exact (Array.size_push _).symm
      rw [hw1]
      (try rw [z1])
      have B1 := Lib.hid (B0.out.trans (b1.mono B0.out.size))
      have T1 := Lib.hid (T0.out.below b1)
      clear b1 hw1 z1 B0 T0
      go_wp2_with fail
      refine (S.out _ T1.out).mono ?_
      rintro e w2 ⟨rfl, b2⟩
      have B2 := Lib.hid (B1.out.trans (b2.mono B1.out.size))
      have T2 := Lib.hid (T1.out.below b2)
      have A2 := Lib.hid (A1.out.below b2)
      clear b2 B1 T1 A1
      go_wp2_with (first | ((with_reducible (show wpList _ _ _ (Oper.mk (some 19) _ _ _ _ _ :: _) _ _)); refine wpList_load_rowV rfl 27 (.tmp 2) rfl w.heap.size rfl 38 27 _ A2.out _ Tryd.underlying27 rfl (by kernel_rfl) ?_))
      go_wp2_with fail
      refine (E1.out _).mono ?_
      rintro e w3 ⟨⟨u, rfl, o3⟩, b3⟩
      have O3 := Lib.hid o3
      have G3 := Lib.hid b3.size
      have S3 := Lib.hid B2.out.size
      have B3 := Lib.hid (B2.out.trans (b3.mono B2.out.size))
      have T3 := Lib.hid (T2.out.below b3)
      have A3 := Lib.hid (A2.out.below b3)
      clear b3 o3 B2 T2 A2
      obtain ⟨ua, uc, rfl⟩ := O3.out.slice
      have DD := Lib.hid (O3.out.bytesAt LA2.out)
      have D3 := DD
      clear O3 G3 S3 DD
      go_wp2_with fail
      refine (D1.out _ _ D3.out).mono ?_
      rintro e w4 ⟨rfl, b4⟩
      have B4 := Lib.hid (B3.out.trans (b4.mono B3.out.size))
      have T4 := Lib.hid (T3.out.below b4)
      have A4 := Lib.hid (A3.out.below b4)
      have D4 := Lib.hid (D3.out.below b4)
      clear b4 B3 T3 A3 D3
      clear D4
      have Zr := Lib.hid (RowV.new w4 27 38 (akC ak0))
      go_upto_region 8 with ((with_reducible (show wpList _ _ _ (Oper.mk none _ _ _ _ _ :: _) _ _)); refine wpList_store_rowV (o := ⟨none, .store 27 (.tmp 7) (.tmp 28), _, _, _, _⟩) rfl 27 (.tmp 7) (.tmp 28) rfl w4.heap.size rfl 38 27 _ (akC a) rfl Zr.out (by kernel_rfl) (fun j _ => akC_one a j) ?_; intro w5 X5 o5)
      have b5 : Below w4.heap.size w4 w5 := ((Below.refl _ _).alloc (Nat.le_refl _) _).trans (o5.out.below (Nat.le_refl _) (by rw [World.size_alloc]; omega))
      have B5 := Lib.hid (B4.out.trans (b5.mono B4.out.size))
      have T5 := Lib.hid (T4.out.below b5)
      have A5 := Lib.hid (A4.out.below b5)
      clear b5 o5 Zr B4 T4 A4
      go_wp2_with (first | ((with_reducible (show wpList _ _ _ (Oper.mk (some 33) _ _ _ _ _ :: _) _ _)); refine wpList_unguard rfl ?_; refine wpList_load_rowV rfl 27 (.tmp 7) rfl w4.heap.size rfl 38 27 _ X5.out _ Tryd.underlying27 rfl (by kernel_rfl) ?_) | ((with_reducible (show wpList _ _ _ (Oper.mk (some 34) _ _ _ _ _ :: _) _ _)); refine wpList_unguard rfl ?_; refine wpList_load_rowV rfl 27 (.tmp 2) rfl w.heap.size rfl 38 27 _ A5.out _ Tryd.underlying27 rfl (by kernel_rfl) ?_))
      clear NE GU
      go_wp2_with fail
      refine (D.out _ (V.out.below B5.out)).mono ?_
      rintro e w6 ⟨rfl, b6⟩
      have B6 := Lib.hid (B5.out.trans (b6.mono B5.out.size))
      have T6 := Lib.hid (T5.out.below b6)
      clear b6 B5 T5
      by_cases h0 : ee = 0
      · obtain ⟨hok, hen⟩ := AO.out h0
        subst h0
        have E2 := Lib.hid (EN.out ev WV.out hok)
        rw [hen] at E2
        clear hok hen AO AB D
        have Zr := Lib.hid (RowV.new w6 27 38 (akC ak0))
        go_upto_region 13 with ((with_reducible (show wpList _ _ _ (Oper.mk none _ _ _ _ _ :: _) _ _)); refine wpList_store_rowV (o := ⟨none, .store 27 (.tmp 9) (.tmp 48), _, _, _, _⟩) rfl 27 (.tmp 9) (.tmp 48) rfl w6.heap.size rfl 38 27 _ (akC ev) rfl Zr.out (by kernel_rfl) (fun j _ => akC_one ev j) ?_; intro w7 Y7 o7)
        have b7 : Below w6.heap.size w6 w7 := ((Below.refl _ _).alloc (Nat.le_refl _) _).trans (o7.out.below (Nat.le_refl _) (by rw [World.size_alloc]; omega))
        have B7 := Lib.hid (B6.out.trans (b7.mono B6.out.size))
        have T7 := Lib.hid (T6.out.below b7)
        clear b7 o7 Zr B6 T6
        go_wp2_with (first | ((with_reducible (show wpList _ _ _ (Oper.mk (some 56) _ _ _ _ _ :: _) _ _)); refine wpList_load_rowV rfl 27 (.tmp 9) rfl w6.heap.size rfl 38 27 _ Y7.out _ Tryd.underlying27 rfl (by kernel_rfl) ?_))
        go_wp2_with fail
        refine (E2.out _).mono ?_
        rintro e w8 ⟨⟨u2, rfl, o8⟩, b8⟩
        have O8 := Lib.hid o8
        have G8 := Lib.hid b8.size
        have S8 := Lib.hid B7.out.size
        have B8 := Lib.hid (B7.out.trans (b8.mono B7.out.size))
        have T8 := Lib.hid (T7.out.below b8)
        have Y8 := Lib.hid (Y7.out.below b8)
        clear b8 o8 B7 T7 Y7
        have DD := Lib.hid (O8.out.bytesAt (by have := LB.out; have := HN.out; omega))
        have t1 := run_text DD.out
        have t2 := run_text (V.out.below B8.out)
        obtain ⟨uc2, ud2, rfl⟩ := O8.out.slice
        rw [HN.out] at t1
        have he := bytes_eq l l
        rw [decide_eq_true rfl] at he
        obtain ⟨tx, htx⟩ : ∃ y, ByteArray.mk l.toArray = y := ⟨_, rfl⟩
        rw [htx] at t1 t2 he
        rw [HN.out]
        clear htx DD O8 G8 S8
        go_wp2_with fail
        go_ret
        exact ⟨by rw [← he]; rfl, B8.out⟩
      · obtain rfl := AB.out h0
        have e1 : (ee == 0) = false := by rw [beq_eq_false_iff_ne]; exact h0
        have e2 : (ee != 0) = true := by rw [bne_iff_ne]; exact h0
        clear AO AB D h0
        have Zr := Lib.hid (RowV.new w6 27 38 (akC ak0))
        go_upto_region 13 with ((with_reducible (show wpList _ _ _ (Oper.mk none _ _ _ _ _ :: _) _ _)); refine wpList_store_rowV (o := ⟨none, .store 27 (.tmp 9) (.tmp 48), _, _, _, _⟩) rfl 27 (.tmp 9) (.tmp 48) rfl w6.heap.size rfl 38 27 _ (akC ak0) rfl Zr.out (by kernel_rfl) (fun j _ => akC_one ak0 j) ?_; intro w7 Y7 o7)
        have b7 : Below w6.heap.size w6 w7 := ((Below.refl _ _).alloc (Nat.le_refl _) _).trans (o7.out.below (Nat.le_refl _) (by rw [World.size_alloc]; omega))
        have B7 := Lib.hid (B6.out.trans (b7.mono B6.out.size))
        have T7 := Lib.hid (T6.out.below b7)
        clear b7 o7 Zr B6 T6
        have q1 := EQ0.out
        have q2 := EG0.out
        go_wp2_with (first | ((with_reducible (show wpList _ _ _ (Oper.mk (some 52) _ _ _ _ _ :: _) _ _)); refine wpList_load_rowV rfl 27 (.tmp 9) rfl w6.heap.size rfl 38 27 _ Y7.out _ Tryd.underlying27 rfl (by kernel_rfl) ?_))
        go_wp2_with fail
        go_ret
        exact ⟨rfl, B7.out⟩
    · have hok2 : okA a = false := by simpa using hok
      have CK := Lib.hid (fun W (h : Tab W) => acheck_any a HA.out 4 W h)
      rw [show ckA a 4 = 330 by unfold ckA; rw [hok2]; rfl] at CK
      have E1 := Lib.hid (fun W => (aencode_any a HA.out W).mono (R' := fun e w' => e = .returned (.tuple #[.slice none 0 0, .int .i64 330]) ∧ Below W.heap.size W w') fun e w' h2 => by
        unfold AEncPost at h2
        rwa [if_neg hok] at h2)
      clear hok hok2
      go_enter Tryd.func7, Tryd.ntmps7
      have B0 := Lib.hid (Below.refl w.heap.size w)
      go_upto_region 1 with fail
      obtain ⟨w1, hw1⟩ : ∃ y, w.alloc (.cells (rowF 38 (akC a)) 27) = y := ⟨_, rfl⟩
      have b1 : Below w.heap.size w w1 := by rw [← hw1]; exact (Below.refl _ _).alloc (Nat.le_refl _) _
      have A1 : Hid (RowV w1 w.heap.size 27 38 (akC a)) := Lib.hid (by rw [← hw1]; exact RowV.new w _ 38 (akC a))
      have z1 : w.heap.size + 1 = w1.heap.size := by rw [← hw1]; exact (Array.size_push _).symm
      rw [hw1]
      (try rw [z1])
      have B1 := Lib.hid (B0.out.trans (b1.mono B0.out.size))
      have T1 := Lib.hid (T0.out.below b1)
      clear b1 hw1 z1 B0 T0
      go_wp2_with fail
      refine (S.out _ T1.out).mono ?_
      rintro e w2 ⟨rfl, b2⟩
      have B2 := Lib.hid (B1.out.trans (b2.mono B1.out.size))
      have T2 := Lib.hid (T1.out.below b2)
      have A2 := Lib.hid (A1.out.below b2)
      clear b2 B1 T1 A1
      go_wp2_with (first | ((with_reducible (show wpList _ _ _ (Oper.mk (some 19) _ _ _ _ _ :: _) _ _)); refine wpList_load_rowV rfl 27 (.tmp 2) rfl w.heap.size rfl 38 27 _ A2.out _ Tryd.underlying27 rfl (by kernel_rfl) ?_))
      go_wp2_with fail
      refine (E1.out _).mono ?_
      rintro e w3 ⟨rfl, b3⟩
      have B3 := Lib.hid (B2.out.trans (b3.mono B2.out.size))
      have T3 := Lib.hid (T2.out.below b3)
      have A3 := Lib.hid (A2.out.below b3)
      clear b3 B2 T2 A2
      go_wp2_with (first | ((with_reducible (show wpList _ _ _ (Oper.mk (some 41) _ _ _ _ _ :: _) _ _)); refine wpList_unguard rfl ?_; refine wpList_load_rowV rfl 27 (.tmp 2) rfl w.heap.size rfl 38 27 _ A3.out _ Tryd.underlying27 rfl (by kernel_rfl) ?_))
      refine (CK.out _ T3.out).mono ?_
      rintro e w4 ⟨rfl, b4⟩
      have B4 := Lib.hid (B3.out.trans (b4.mono B3.out.size))
      have T4 := Lib.hid (T3.out.below b4)
      have A4 := Lib.hid (A3.out.below b4)
      clear b4 B3 T3 A3
      go_wp2_with fail
      go_wp2_with fail
      refine (D.out _ (V.out.below B4.out)).mono ?_
      rintro e w5 ⟨rfl, b5⟩
      have B5 := Lib.hid (B4.out.trans (b5.mono B4.out.size))
      have T5 := Lib.hid (T4.out.below b5)
      clear b5 B4 T4
      by_cases h0 : ee = 0
      · obtain ⟨hok, hen⟩ := AO.out h0
        subst h0
        have E2 := Lib.hid (EN.out ev WV.out hok)
        rw [hen] at E2
        clear hok hen AO AB D
        have Zr := Lib.hid (RowV.new w5 27 38 (akC ak0))
        go_upto_region 13 with ((with_reducible (show wpList _ _ _ (Oper.mk none _ _ _ _ _ :: _) _ _)); refine wpList_store_rowV (o := ⟨none, .store 27 (.tmp 9) (.tmp 48), _, _, _, _⟩) rfl 27 (.tmp 9) (.tmp 48) rfl w5.heap.size rfl 38 27 _ (akC ev) rfl Zr.out (by kernel_rfl) (fun j _ => akC_one ev j) ?_; intro w6 Y6 o6)
        have b6 : Below w5.heap.size w5 w6 := ((Below.refl _ _).alloc (Nat.le_refl _) _).trans (o6.out.below (Nat.le_refl _) (by rw [World.size_alloc]; omega))
        have B6 := Lib.hid (B5.out.trans (b6.mono B5.out.size))
        have T6 := Lib.hid (T5.out.below b6)
        clear b6 o6 Zr B5 T5
        go_wp2_with (first | ((with_reducible (show wpList _ _ _ (Oper.mk (some 56) _ _ _ _ _ :: _) _ _)); refine wpList_load_rowV rfl 27 (.tmp 9) rfl w5.heap.size rfl 38 27 _ Y6.out _ Tryd.underlying27 rfl (by kernel_rfl) ?_))
        go_wp2_with fail
        refine (E2.out _).mono ?_
        rintro e w7 ⟨⟨u2, rfl, o7⟩, b7⟩
        have O7 := Lib.hid o7
        have G7 := Lib.hid b7.size
        have S7 := Lib.hid B6.out.size
        have B7 := Lib.hid (B6.out.trans (b7.mono B6.out.size))
        have T7 := Lib.hid (T6.out.below b7)
        have Y7 := Lib.hid (Y6.out.below b7)
        clear b7 o7 B6 T6 Y6
        have DD := Lib.hid (O7.out.bytesAt (by have := LB.out; have := HN.out; omega))
        have t1 := run_text DD.out
        have t2 := run_text (V.out.below B7.out)
        obtain ⟨uc2, ud2, rfl⟩ := O7.out.slice
        rw [HN.out] at t1
        have he := bytes_eq l l
        rw [decide_eq_true rfl] at he
        obtain ⟨tx, htx⟩ : ∃ y, ByteArray.mk l.toArray = y := ⟨_, rfl⟩
        rw [htx] at t1 t2 he
        rw [HN.out]
        clear htx DD O7 G7 S7
        go_wp2_with fail
        go_ret
        exact ⟨by rw [← he]; rfl, B7.out⟩
      · obtain rfl := AB.out h0
        have e1 : (ee == 0) = false := by rw [beq_eq_false_iff_ne]; exact h0
        have e2 : (ee != 0) = true := by rw [bne_iff_ne]; exact h0
        clear AO AB D h0
        have Zr := Lib.hid (RowV.new w5 27 38 (akC ak0))
        go_upto_region 13 with ((with_reducible (show wpList _ _ _ (Oper.mk none _ _ _ _ _ :: _) _ _)); refine wpList_store_rowV (o := ⟨none, .store 27 (.tmp 9) (.tmp 48), _, _, _, _⟩) rfl 27 (.tmp 9) (.tmp 48) rfl w5.heap.size rfl 38 27 _ (akC ak0) rfl Zr.out (by kernel_rfl) (fun j _ => akC_one ak0 j) ?_; intro w6 Y6 o6)
        have b6 : Below w5.heap.size w5 w6 := ((Below.refl _ _).alloc (Nat.le_refl _) _).trans (o6.out.below (Nat.le_refl _) (by rw [World.size_alloc]; omega))
        have B6 := Lib.hid (B5.out.trans (b6.mono B5.out.size))
        have T6 := Lib.hid (T5.out.below b6)
        clear b6 o6 Zr B5 T5
        have q1 := EQ0.out
        have q2 := EG0.out
        go_wp2_with (first | ((with_reducible (show wpList _ _ _ (Oper.mk (some 52) _ _ _ _ _ :: _) _ _)); refine wpList_load_rowV rfl 27 (.tmp 9) rfl w5.heap.size rfl 38 27 _ Y6.out _ Tryd.underlying27 rfl (by kernel_rfl) ?_))
        go_wp2_with fail
        go_ret
        exact ⟨rfl, B6.out⟩
  · have d1 : decide (300 < (l.length : Int)) = true := by rw [decide_eq_true_iff]; omega
    have d2 : decide (300 < l.length) = true := by rw [decide_eq_true_iff]; omega
    obtain ⟨n, hln⟩ : ∃ y, l.length = y := ⟨_, rfl⟩
    rw [hln] at d1 d2 ⊢
    clear hln hn hv hT ha
    go_enter Tryd.func7, Tryd.ntmps7
    have B0 := Lib.hid (Below.refl w.heap.size w)
    go_upto_region 1 with fail
    obtain ⟨w1, hw1⟩ : ∃ y, w.alloc (.cells (rowF 38 (akC a)) 27) = y := ⟨_, rfl⟩
    have b1 : Below w.heap.size w w1 := by rw [← hw1]; exact (Below.refl _ _).alloc (Nat.le_refl _) _
    have A1 : Hid (RowV w1 w.heap.size 27 38 (akC a)) := Lib.hid (by rw [← hw1]; exact RowV.new w _ 38 (akC a))
    have z1 : w.heap.size + 1 = w1.heap.size := by rw [← hw1]; exact (Array.size_push _).symm
    rw [hw1]
    (try rw [z1])
    have B1 := Lib.hid (B0.out.trans (b1.mono B0.out.size))
    have T1 := Lib.hid (T0.out.below b1)
    clear b1 hw1 z1 B0 T0
    go_wp2_with fail
    refine (S.out _ T1.out).mono ?_
    rintro e w2 ⟨rfl, b2⟩
    have B2 := Lib.hid (B1.out.trans (b2.mono B1.out.size))
    have T2 := Lib.hid (T1.out.below b2)
    have A2 := Lib.hid (A1.out.below b2)
    clear b2 B1 T1 A1
    go_wp2_with fail
    go_ret
    exact ⟨rfl, B2.out⟩

set_option maxRecDepth 100000 in
set_option maxHeartbeats 1000000 in
theorem lifted (os : Os) (started : os.Started) (H : Type) (enc : TypeId × Value → H) :
    ReturnsInHanded {} Tryd.checked os 7 .any (fun w args => (Rows.acksBackSpec.pre enc Tryd.prog Tryd.f7 [] false w args ∧ laidMetH Tryd.prog laidL w) ∧ sizedMet enc Tryd.prog Tryd.f7 (OpenSpec.ofChange Rows.acksBackSpec) false w args)
      (Rows.acksBackSpec.post enc Tryd.prog Tryd.f7 false true false false) := by
  refine returnsInHanded_of_change_and (C := Tryd.checked) (X := fun w _ => laidMetH Tryd.prog laidL w) (fun _ _ _ hh h => h.of_heap hh) own started (by kernel_rfl) Tryd.func7
    (ChangeSpec.witness_shaped (enc := enc) (C := Tryd.checked) (os := os) (X := fun w _ => laidMetH Tryd.prog laidL w) false (World.doorLaid Tryd.prog 19 os) #[.agg #[.int .i64 0, .int .i64 0, .int .i64 0, .int .i64 0, .int .u8 0, .int .u8 0, .int .u8 0, .int .u8 0, .int .u8 0, .int .u8 0, .int .u8 0, .int .u8 0, .int .u8 0, .int .u8 0, .int .u8 0, .int .u8 0, .int .u8 0, .int .u8 0, .int .u8 0, .int .u8 0, .int .u8 0, .int .u8 0, .int .u8 0, .int .u8 0, .int .u8 0, .int .u8 0, .int .u8 0, .int .u8 0, .int .u8 0, .int .u8 0, .int .u8 0, .int .u8 0, .int .u8 0, .int .u8 0, .int .u8 0, .int .u8 0, .int .i64 0, .int .i64 0], .slice none 0 0] 8 rfl (World.shaped_of_RefB (by kernel_rfl) (by kernel_rfl)) (by kernel_rfl) (by kernel_rfl) (by kernel_rfl) (door_met os _)) ?_
  intro W base args ds gs before hval0 hW _ hsz hL _
  have hval : ∀ (j : Nat) t v, Tryd.f7.params[j]? = some t → args[j]? = some v → Value.okWide Tryd.prog W .any base t v := hval0
  have hW' := hW
  obtain ⟨p, q, hA0, hV, rfl, hfz, hnd⟩ := hW
  have hA : DataW.TrodAll enc Tryd.prog W 0 (fun _ => true) true Tryd.f7.params.toList args.toList ds p := hA0
  rw [Tryd.params7] at hA hval
  obtain ⟨v0, vs0, d0, ds0, p0, q0, hargs, rfl, rfl, h0, r0⟩ := trodAll_cons hA
  obtain ⟨v1, vs1, d1, ds1, p1, q1, rfl, rfl, rfl, h1, r1⟩ := trodAll_cons r0
  obtain ⟨rfl, rfl, rfl⟩ := trodAll_nil r1
  obtain rfl : args = #[v0, v1] := by cases args; simp_all
  obtain ⟨rfl, rfl⟩ := trodVars_none hV
  have k0 := h0
  have lt0 : ∀ x ∈ p0, x.block < W.heap.size := by obtain ⟨m, hm⟩ := k0; exact DataW.trod_lt m _ _ _ hm
  obtain ⟨a0, wa0, rfl⟩ := ack_open (hval 0 27 v0 rfl rfl) h0
  have k1 := h1
  have lt1 : ∀ x ∈ p1, x.block < W.heap.size := by obtain ⟨m, hm⟩ := k1; exact DataW.trod_lt m _ _ _ hm
  obtain ⟨l1, b1, s1⟩ := bytes_open (hval 1 28 v1 rfl rfl) h1 (fun elems spare e => by
    have := sized_slice hsz (j := 1) (t := 28) (e := 5) (elems := elems) (spare := spare) (by kernel_rfl) (by rw [← e]; rfl) Tryd.underlying28
    rw [show Tryd.checked.prog.bytesOf 5 = 1 by kernel_rfl] at this; omega)
  have hT := tab_of_laid hL
  clear hA0 hval0 hsz hL
  simp only [List.append_nil] at hW'
  refine (walk a0 wa0 v1 l1 b1 s1 hT).mono fun e W' ⟨he, hg⟩ => ?_
  subst he
  exact ⟨_, rfl, _, _, _, [], _, [], hW', trodAll_mk1 (shut_bool Tryd.underlying4 _), (trodAll_cons_mk (Below.trod laidOut (by kernel_rfl) (of_decide_eq_true (by kernel_rfl)) k0 hg lt0) (trodAll_cons_mk (Below.trod laidOut (by kernel_rfl) (of_decide_eq_true (by kernel_rfl)) k1 hg lt1) trodAll_mk0)), rfl, hg.frame _, fun h => by cases h⟩

theorem over : Rows.acksBackRow.holds Tryd.pinned (OpenSpec.ofChange Rows.acksBackSpec) :=
  OpenClaim.holds_of_wide 7 Tryd.f7 rfl rfl rfl rfl rfl rfl rfl ⟨rfl, rfl, rfl, rfl, rfl⟩ rfl rfl rfl rfl rfl (by kernel_rfl) Tryd.func7 (by kernel_rfl)
    (of_decide_eq_true (by kernel_rfl)) (by unfold Func.isWrapper; first | (rw [if_pos (by decide +kernel)]; kernel_rfl) | (rw [if_neg (by decide +kernel)]; exact ⟨rfl, rfl⟩))
    (fun os started H enc _ => lifted os started H enc)

end Go.Proofs.YtbjbgneejdjniaaDoor.acksBack
namespace Go.Proofs.YtbjbgneejdjniaaDoor
set_option maxRecDepth 100000 in
theorem acksBack_holds : Rows.AcksBackCardSaid :=
  Claim7.holds_tied_plain_at .later [] [.data, .data] true _ true
    acksBack.over (fun _ h => by cases h) (by kernel_rfl) (fun _ h => by cases h) acksBack_row_tie rfl ⟨rfl, rfl⟩ (by kernel_rfl) rfl
    (fun f fn hf hfn => by
      obtain rfl : f = 7 := Option.some.inj ((show Tryd.prog.funcNamed "chartroom/chartroomlaw33.AcksBack" = some 7 by kernel_rfl).symm.trans hf) |>.symm
      obtain rfl : fn = Tryd.f7 := (Option.some.inj (Tryd.func7.symm.trans hfn)).symm
      exact ⟨by kernel_rfl, fun j t ht => by
        rw [Tryd.params7] at ht
        have hm : t ∈ [27, 28] := by simpa using Array.mem_of_getElem? ht
        have hall : ([27, 28].all fun u => !Tryd.prog.wantsStandIn u) = true := by kernel_rfl
        exact (show Tryd.prog.wantsStandIn t = false by simpa using List.all_eq_true.1 hall t hm)⟩)
    (by kernel_rfl)
#print axioms acksBack_holds
end Go.Proofs.YtbjbgneejdjniaaDoor
