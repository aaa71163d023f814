/- SignDifference returns true for every input. No condition beyond the card's own: the two tables of package digest are tied to the program's text. -/
import Derived.Test.YtcmabaolpaaonaaDoorSigOpen
import Derived.Test.YtcmabaolpaaonaaDoorLaid
import Derived.Test.YtcmabaolpaaonaaDoorCards
namespace Go.Proofs.YtcmabaolpaaonaaDoor.signDifference
open Go.ChangeShapes Go.WideShapes Go.ChangeAt Go.RowKit
open Go.ChangeMaps (open_string shut_string)
set_option linter.unusedVariables false
set_option linter.unusedSimpArgs false

set_option maxRecDepth 100000 in
set_option maxHeartbeats 4000000 in
theorem walk {w : World} (p : Int) (wp : (Lit.int .i64 p).wf = true) (v : Value) (l : List UInt8) (hv : BytesAt w v l) (hs : ∃ a cap, v = .slice a l.length cap) (v' : Value) (l' : List UInt8) (hv' : BytesAt w v' l') (hs' : ∃ a cap, v' = .slice a l'.length cap) (hT : Tab w) :
    Calls Tryd.prog 9 #[.int .i64 p, v, v'] w fun e w' => e = .returned (.bool true) ∧ Below w.heap.size w w' := by
  obtain ⟨a, cap, rfl⟩ := hs
  obtain ⟨a', cap', rfl⟩ := hs'
  obtain ⟨n, hn⟩ : ∃ n, l.length = n := ⟨_, rfl⟩
  obtain ⟨n', hn'⟩ : ∃ n, l'.length = n := ⟨_, rfl⟩
  have V := Lib.hid hv
  have V' := Lib.hid hv'
  have T := Lib.hid hT
  have C1 := Lib.hid (fun W hT => sane5_any W hT)
  have kb := keyM_bd p
  have c2 : ∀ W, Calls Tryd.prog 11 #[.int .i64 p] W fun e w' => e = .returned (.int .i64 ((keyM p : Nat) : Int)) ∧ W = w' := fun W => key_any p W wp
  obtain ⟨x, hx⟩ : ∃ x, keyM p = x := ⟨_, rfl⟩
  rw [hx] at c2 kb
  have c3 : ∀ W, Calls Tryd.prog 12 #[.int .i64 (x : Int)] W fun e w' => e = .returned (.tuple #[.int .i64 ((pubM x : Nat) : Int), .int .i64 0]) ∧ Below W.heap.size W w' := fun W => public_key x kb.1 kb.2 W
  have c4 : ∀ W, n ≤ 300 → BytesAt W (.slice a n cap) l → Tab W → Calls Tryd.prog 14 #[.int .i64 (x : Int), .slice a n cap] W fun e w' => e = .returned (.tuple #[.agg #[.int .i64 ((sigR x l : Nat) : Int), .int .i64 ((sigS x l : Nat) : Int)], .int .i64 0]) ∧ Below W.heap.size W w' := fun W h hv hT => sign_key x kb.1 kb.2 _ l W (by omega) hv hT
  have c5 : ∀ W, n' ≤ 300 → BytesAt W (.slice a' n' cap') l' → Tab W → Calls Tryd.prog 14 #[.int .i64 (x : Int), .slice a' n' cap'] W fun e w' => e = .returned (.tuple #[.agg #[.int .i64 ((sigR x l' : Nat) : Int), .int .i64 ((sigS x l' : Nat) : Int)], .int .i64 0]) ∧ Below W.heap.size W w' := fun W h hv hT => sign_key x kb.1 kb.2 _ l' W (by omega) hv hT
  have c6 := fun W => fsub_yes (sigS x l) (sigS x l') (sigS_lt _ _) (sigS_lt _ _) W
  have c7 : ∀ W, n ≤ 300 → BytesAt W (.slice a n cap) l → Tab W → Calls Tryd.prog 22 #[.int .i64 ((pubM x : Nat) : Int), .int .i64 ((sigR x l : Nat) : Int), .slice a n cap] W fun e w' => e = .returned (.int .i64 ((chal (pubM x) (sigR x l) l : Nat) : Int)) ∧ Below W.heap.size W w' := fun W h hv hT => challenge_any _ _ _ l W (by omega) hv hT
  have c8 : ∀ W, n' ≤ 300 → BytesAt W (.slice a' n' cap') l' → Tab W → Calls Tryd.prog 22 #[.int .i64 ((pubM x : Nat) : Int), .int .i64 ((sigR x l' : Nat) : Int), .slice a' n' cap'] W fun e w' => e = .returned (.int .i64 ((chal (pubM x) (sigR x l') l' : Nat) : Int)) ∧ Below W.heap.size W w' := fun W h hv hT => challenge_any _ _ _ l' W (by omega) hv hT
  have c9 := fun W => fsub_yes (chal (pubM x) (sigR x l) l) (chal (pubM x) (sigR x l') l') (chal_bd _ _ _).2 (chal_bd _ _ _).2 W
  have e1 : El (sigR x l') := pow4_El _
  have e2 : El (sigR x l) := pow4_El _
  have e3 : El (pubM x) := pow4_El _
  have c10 := fun W => ginv_el e1 rfl W
  have c11 := fun W => gmul_el e2 (powP_pos e1 2305843009213688668) rfl W
  have c12 := fun W => gexp_el e3 (k := subQ (chal (pubM x) (sigR x l) l) (chal (pubM x) (sigR x l') l')) (subQ_lt (chal_bd _ _ _).2) rfl W
  have c13 := fun W => gbase_any ((subQ (sigS x l) (sigS x l') : Nat) : Int) W
  have hd : subQ (sigS x l) (sigS x l') < 2305843009213688669 := subQ_lt (sigS_lt _ _)
  rw [gexp4 hd, gexpE4 (scalB_of hd), sig_diff x l l'] at c13
  have c14 := fun W => gmul_el (El.mul e2 (powP_pos e1 2305843009213688668)) (powP_pos e3 (subQ (chal (pubM x) (sigR x l) l) (chal (pubM x) (sigR x l') l'))) rfl W
  obtain ⟨A, hA⟩ : ∃ r, mulP (mulP (sigR x l) (powP (sigR x l') 2305843009213688668)) (powP (pubM x) (subQ (chal (pubM x) (sigR x l) l) (chal (pubM x) (sigR x l') l'))) = r := ⟨_, rfl⟩
  rw [hA] at c13 c14
  obtain ⟨A2, hA2⟩ : ∃ r, mulP (sigR x l) (powP (sigR x l') 2305843009213688668) = r := ⟨_, rfl⟩
  rw [hA2] at c11 c14
  obtain ⟨A3, hA3⟩ : ∃ r, powP (sigR x l') 2305843009213688668 = r := ⟨_, rfl⟩
  rw [hA3] at c10 c11
  obtain ⟨A4, hA4⟩ : ∃ r, powP (pubM x) (subQ (chal (pubM x) (sigR x l) l) (chal (pubM x) (sigR x l') l')) = r := ⟨_, rfl⟩
  rw [hA4] at c12 c14
  obtain ⟨A5, hA5⟩ : ∃ r, subQ (chal (pubM x) (sigR x l) l) (chal (pubM x) (sigR x l') l') = r := ⟨_, rfl⟩
  rw [hA5] at c9 c12
  obtain ⟨A6, hA6⟩ : ∃ r, chal (pubM x) (sigR x l) l = r := ⟨_, rfl⟩
  rw [hA6] at c7 c9
  obtain ⟨A7, hA7⟩ : ∃ r, chal (pubM x) (sigR x l') l' = r := ⟨_, rfl⟩
  rw [hA7] at c8 c9
  obtain ⟨A8, hA8⟩ : ∃ r, subQ (sigS x l) (sigS x l') = r := ⟨_, rfl⟩
  rw [hA8] at c6 c13
  obtain ⟨P, hP⟩ : ∃ r, pubM x = r := ⟨_, rfl⟩
  obtain ⟨R, hR⟩ : ∃ r, sigR x l = r := ⟨_, rfl⟩
  obtain ⟨S, hS⟩ : ∃ r, sigS x l = r := ⟨_, rfl⟩
  obtain ⟨R', hR'⟩ : ∃ r, sigR x l' = r := ⟨_, rfl⟩
  obtain ⟨S', hS'⟩ : ∃ r, sigS x l' = r := ⟨_, rfl⟩
  rw [hP] at c3 c7 c8 c12
  rw [hR] at c4 c7 c11
  rw [hS] at c4 c6
  rw [hR'] at c5 c8 c10
  rw [hS'] at c5 c6
  rw [hn] at V ⊢
  rw [hn'] at V' ⊢
  have C2 := Lib.hid c2; have C3 := Lib.hid c3; have C6 := Lib.hid c6; have C9 := Lib.hid c9; have C10 := Lib.hid c10; have C11 := Lib.hid c11; have C12 := Lib.hid c12; have C13 := Lib.hid c13; have C14 := Lib.hid c14
  clear hn hn' wp hv hv' hT hx hP hR hS hR' hS' hA hA2 hA3 hA4 hA5 hA6 hA7 hA8 kb e1 e2 e3 hd c2 c3 c6 c9 c10 c11 c12 c13 c14
  by_cases h1 : n ≤ 300
  · have C4 := Lib.hid (fun W => c4 W h1); have C7 := Lib.hid (fun W => c7 W h1)
    have d1 : decide (300 < (n : Int)) = false := by rw [decide_eq_false_iff_not]; omega
    have d2 : decide (300 < n) = false := by rw [decide_eq_false_iff_not]; omega
    have d3 : ¬ 300 < n := by omega
    clear c4 c7 h1
    by_cases h1 : n' ≤ 300
    · have C5 := Lib.hid (fun W => c5 W h1); have C8 := Lib.hid (fun W => c8 W h1)
      have d4 : decide (300 < (n' : Int)) = false := by rw [decide_eq_false_iff_not]; omega
      have d5 : decide (300 < n') = false := by rw [decide_eq_false_iff_not]; omega
      have d6 : ¬ 300 < n' := by omega
      clear c5 c8 h1
      go_enter Tryd.func9, Tryd.ntmps9
      have B0 := Lib.hid (Below.refl w.heap.size w)
      go_wp2_with fail
      refine (C1.out _ T.out).mono ?_
      rintro e w1 ⟨rfl, b1⟩
      have B1 := Lib.hid (B0.out.trans (b1.mono B0.out.size))
      clear b1 B0
      go_wp2_with fail
      refine (C2.out _).mono ?_
      rintro e wp ⟨rfl, rfl⟩
      go_wp2_with fail
      refine (C3.out _).mono ?_
      rintro e w2 ⟨rfl, b2⟩
      have B2 := Lib.hid (B1.out.trans (b2.mono B1.out.size))
      clear b2 B1
      go_wp2_with fail
      refine (C4.out _ (V.out.below B2.out) (T.out.below B2.out)).mono ?_
      rintro e w3 ⟨rfl, b3⟩
      have B3 := Lib.hid (B2.out.trans (b3.mono B2.out.size))
      clear b3 B2
      go_wp2_with fail
      obtain ⟨w4, hw4⟩ : ∃ y, w3.alloc (.cells #[.int .i64 (R : Int), .int .i64 (S : Int)] 30) = y := ⟨_, rfl⟩
      have b4 : Below w3.heap.size w3 w4 := by rw [← hw4]; exact (Below.refl _ _).alloc (Nat.le_refl _) _
      have Q4 : Hid (RowV w4 w3.heap.size 30 2 (sigF R S)) := Lib.hid (by rw [← hw4]; exact RowV.new w3 _ 2 (sigF R S))
      have z4 : w3.heap.size + 1 = w4.heap.size := by rw [← hw4]; exact (Array.size_push _).symm
      rw [hw4]
      (try rw [z4])
      have B4 := Lib.hid (B3.out.trans (b4.mono B3.out.size))
      clear b4 hw4 z4 B3
      go_wp2_with fail
      refine (C5.out _ (V'.out.below B4.out) (T.out.below B4.out)).mono ?_
      rintro e w5 ⟨rfl, b5⟩
      have B5 := Lib.hid (B4.out.trans (b5.mono B4.out.size))
      have Q5 := Lib.hid (Q4.out.below b5)
      clear b5 B4 Q4
      go_upto_region 9 with fail
      obtain ⟨w6, hw6⟩ : ∃ y, w5.alloc (.cells #[.int .i64 (R' : Int), .int .i64 (S' : Int)] 30) = y := ⟨_, rfl⟩
      have b6 : Below w5.heap.size w5 w6 := by rw [← hw6]; exact (Below.refl _ _).alloc (Nat.le_refl _) _
      have O6 : Hid (RowV w6 w5.heap.size 30 2 (sigF R' S')) := Lib.hid (by rw [← hw6]; exact RowV.new w5 _ 2 (sigF R' S'))
      have z6 : w5.heap.size + 1 = w6.heap.size := by rw [← hw6]; exact (Array.size_push _).symm
      rw [hw6]
      (try rw [z6])
      have B6 := Lib.hid (B5.out.trans (b6.mono B5.out.size))
      have Q6 := Lib.hid (Q5.out.below b6)
      clear b6 hw6 z6 B5 Q5
      have y1 : w6.cell? ⟨w3.heap.size, 1, none⟩ = some (.int .i64 (S : Int)) := Q6.out.cell (i := 1) (by decide)
      have y2 : w6.cell? ⟨w5.heap.size, 1, none⟩ = some (.int .i64 (S' : Int)) := O6.out.cell (i := 1) (by decide)
      go_wp2_with fail
      refine (C6.out _).mono ?_
      rintro e w7 ⟨rfl, b7⟩
      have B7 := Lib.hid (B6.out.trans (b7.mono B6.out.size))
      have Q7 := Lib.hid (Q6.out.below b7)
      have O7 := Lib.hid (O6.out.below b7)
      clear b7 B6 Q6 O6
      clear y1 y2
      go_upto_region 12 with fail
      have y1 : w7.cell? ⟨w3.heap.size, 0, none⟩ = some (.int .i64 (R : Int)) := Q7.out.cell (i := 0) (by decide)
      have y2 : w7.cell? ⟨w5.heap.size, 0, none⟩ = some (.int .i64 (R' : Int)) := O7.out.cell (i := 0) (by decide)
      have qy1 := fun d os => cell_regrown y1 d os
      have qy2 := fun d os => cell_regrown y2 d os
      clear y1 y2
      have D0 := Lib.hid (fun (W : World) (b : Below w7.heap.size w7 W) => C7.out W (V.out.below (B7.out.trans (b.mono B7.out.size))) (T.out.below (B7.out.trans (b.mono B7.out.size))))
      have D1 := Lib.hid (fun (W : World) (b : Below w7.heap.size w7 W) => C8.out W (V'.out.below (B7.out.trans (b.mono B7.out.size))) (T.out.below (B7.out.trans (b.mono B7.out.size))))
      have D2 := Lib.hid (fun (W : World) (b : Below w7.heap.size w7 W) => C9.out W)
      refine wp_region_quiet_below (by kernel_rfl) (by kernel_rfl) ?_
      repeat (quiet_step (first | with_reducible exact qbelow D0.out _ _ | with_reducible exact qbelow D1.out _ _ | with_reducible exact qbelow D2.out _ _))
      refine wpQuiet_nil ?_
      intro w8 hw8
      have b8 := regrown_below hw8
      have B8 := Lib.hid (B7.out.trans (b8.mono B7.out.size))
      have Q8 := Lib.hid (Q7.out.below b8)
      have O8 := Lib.hid (O7.out.below b8)
      clear b8 hw8 qy1 qy2 D0 D1 D2 B7 Q7 O7
      have y2 : w8.cell? ⟨w5.heap.size, 0, none⟩ = some (.int .i64 (R' : Int)) := O8.out.cell (i := 0) (by decide)
      go_wp2_with fail
      refine (C10.out _).mono ?_
      rintro e w9 ⟨rfl, b9⟩
      have B9 := Lib.hid (B8.out.trans (b9.mono B8.out.size))
      have Q9 := Lib.hid (Q8.out.below b9)
      have O9 := Lib.hid (O8.out.below b9)
      clear b9 B8 Q8 O8
      clear y2
      have y1 : w9.cell? ⟨w3.heap.size, 0, none⟩ = some (.int .i64 (R : Int)) := Q9.out.cell (i := 0) (by decide)
      go_wp2_with fail
      refine (C11.out _).mono ?_
      rintro e w10 ⟨rfl, b10⟩
      have B10 := Lib.hid (B9.out.trans (b10.mono B9.out.size))
      have Q10 := Lib.hid (Q9.out.below b10)
      have O10 := Lib.hid (O9.out.below b10)
      clear b10 B9 Q9 O9
      clear y1
      go_wp2_with fail
      refine (C12.out _).mono ?_
      rintro e w11 ⟨rfl, b11⟩
      have B11 := Lib.hid (B10.out.trans (b11.mono B10.out.size))
      have Q11 := Lib.hid (Q10.out.below b11)
      have O11 := Lib.hid (O10.out.below b11)
      clear b11 B10 Q10 O10
      go_wp2_with fail
      refine (C13.out _).mono ?_
      rintro e w12 ⟨rfl, b12⟩
      have B12 := Lib.hid (B11.out.trans (b12.mono B11.out.size))
      have Q12 := Lib.hid (Q11.out.below b12)
      have O12 := Lib.hid (O11.out.below b12)
      clear b12 B11 Q11 O11
      go_wp2_with fail
      refine (C14.out _).mono ?_
      rintro e w13 ⟨rfl, b13⟩
      have B13 := Lib.hid (B12.out.trans (b13.mono B12.out.size))
      have Q13 := Lib.hid (Q12.out.below b13)
      have O13 := Lib.hid (O12.out.below b13)
      clear b13 B12 Q12 O12
      go_wp2_with fail
      go_ret
      exact ⟨rfl, B13.out⟩
    · have d4 : decide (300 < (n' : Int)) = true := by rw [decide_eq_true_iff]; omega
      have d5 : decide (300 < n') = true := by rw [decide_eq_true_iff]; omega
      have d6 : 300 < n' := by omega
      clear c5 c8 h1
      go_enter Tryd.func9, Tryd.ntmps9
      have B0 := Lib.hid (Below.refl w.heap.size w)
      go_wp2_with fail
      refine (C1.out _ T.out).mono ?_
      rintro e w1 ⟨rfl, b1⟩
      have B1 := Lib.hid (B0.out.trans (b1.mono B0.out.size))
      clear b1 B0
      go_wp2_with fail
      go_ret
      exact ⟨rfl, B1.out⟩
  · have d1 : decide (300 < (n : Int)) = true := by rw [decide_eq_true_iff]; omega
    have d2 : decide (300 < n) = true := by rw [decide_eq_true_iff]; omega
    have d3 : 300 < n := by omega
    clear c4 c5 c7 c8 h1
    go_enter Tryd.func9, Tryd.ntmps9
    have B0 := Lib.hid (Below.refl w.heap.size w)
    go_wp2_with fail
    refine (C1.out _ T.out).mono ?_
    rintro e w1 ⟨rfl, b1⟩
    have B1 := Lib.hid (B0.out.trans (b1.mono B0.out.size))
    clear b1 B0
    go_wp2_with fail
    go_ret
    exact ⟨rfl, B1.out⟩

set_option maxRecDepth 100000 in
set_option maxHeartbeats 1000000 in
theorem lifted (os : Os) (started : os.Started) (H : Type) (enc : TypeId × Value → H) :
    ReturnsInHanded {} Tryd.checked os 9 .any (fun w args => (Rows.signDifferenceSpec.pre enc Tryd.prog Tryd.f9 [] false w args ∧ laidMetH Tryd.prog laidL w) ∧ sizedMet enc Tryd.prog Tryd.f9 (OpenSpec.ofChange Rows.signDifferenceSpec) false w args)
      (Rows.signDifferenceSpec.post enc Tryd.prog Tryd.f9 false true false false) := by
  refine returnsInHanded_of_change_and (C := Tryd.checked) (X := fun w _ => laidMetH Tryd.prog laidL w) (fun _ _ _ hh h => h.of_heap hh) own started (by kernel_rfl) Tryd.func9
    (ChangeSpec.witness_shaped (enc := enc) (C := Tryd.checked) (os := os) (X := fun w _ => laidMetH Tryd.prog laidL w) false (World.doorLaid Tryd.prog 19 os) #[.int .i64 0, .slice none 0 0, .slice none 0 0] 8 rfl (World.shaped_of_RefB (by kernel_rfl) (by kernel_rfl)) (by kernel_rfl) (by kernel_rfl) (by kernel_rfl) (door_met os _)) ?_
  intro W base args ds gs before hval0 hW _ hsz hL _
  have hval : ∀ (j : Nat) t v, Tryd.f9.params[j]? = some t → args[j]? = some v → Value.okWide Tryd.prog W .any base t v := hval0
  have hW' := hW
  obtain ⟨p, q, hA0, hV, rfl, hfz, hnd⟩ := hW
  have hA : DataW.TrodAll enc Tryd.prog W 0 (fun _ => true) true Tryd.f9.params.toList args.toList ds p := hA0
  rw [Tryd.params9] at hA hval
  obtain ⟨v0, vs0, d0, ds0, p0, q0, hargs, rfl, rfl, h0, r0⟩ := trodAll_cons hA
  obtain ⟨v1, vs1, d1, ds1, p1, q1, rfl, rfl, rfl, h1, r1⟩ := trodAll_cons r0
  obtain ⟨v2, vs2, d2, ds2, p2, q2, rfl, rfl, rfl, h2, r2⟩ := trodAll_cons r1
  obtain ⟨rfl, rfl, rfl⟩ := trodAll_nil r2
  obtain rfl : args = #[v0, v1, v2] := by cases args; simp_all
  obtain ⟨rfl, rfl⟩ := trodVars_none hV
  obtain ⟨a0, rfl, rfl, rfl, w0⟩ := open_int Tryd.underlying3 (hval 0 3 v0 rfl rfl) h0
  have k1 := h1
  have lt1 : ∀ x ∈ p1, x.block < W.heap.size := by obtain ⟨m, hm⟩ := k1; exact DataW.trod_lt m _ _ _ hm
  obtain ⟨l1, b1, s1⟩ := bytes_open (hval 1 22 v1 rfl rfl) h1 (fun elems spare e => by
    have := sized_slice hsz (j := 1) (t := 22) (e := 5) (elems := elems) (spare := spare) (by kernel_rfl) (by rw [← e]; rfl) Tryd.underlying22
    rw [show Tryd.checked.prog.bytesOf 5 = 1 by kernel_rfl] at this; omega)
  have k2 := h2
  have lt2 : ∀ x ∈ p2, x.block < W.heap.size := by obtain ⟨m, hm⟩ := k2; exact DataW.trod_lt m _ _ _ hm
  obtain ⟨l2, b2, s2⟩ := bytes_open (hval 2 22 v2 rfl rfl) h2 (fun elems spare e => by
    have := sized_slice hsz (j := 2) (t := 22) (e := 5) (elems := elems) (spare := spare) (by kernel_rfl) (by rw [← e]; rfl) Tryd.underlying22
    rw [show Tryd.checked.prog.bytesOf 5 = 1 by kernel_rfl] at this; omega)
  have hT := tab_of_laid hL
  clear hA0 hval0 hsz hL
  simp only [List.append_nil] at hW'
  refine (walk a0 w0 v1 l1 b1 s1 v2 l2 b2 s2 hT).mono fun e W' ⟨he, hg⟩ => ?_
  subst he
  exact ⟨_, rfl, _, _, _, [], _, [], hW', trodAll_mk1 (shut_bool Tryd.underlying4 _), (trodAll_cons_mk (shut_int Tryd.underlying3 w0) (trodAll_cons_mk (Below.trod laidOut (by kernel_rfl) (of_decide_eq_true (by kernel_rfl)) k1 hg lt1) (trodAll_cons_mk (Below.trod laidOut (by kernel_rfl) (of_decide_eq_true (by kernel_rfl)) k2 hg lt2) trodAll_mk0))), rfl, hg.frame _, fun h => by cases h⟩

theorem over : Rows.signDifferenceRow.holds Tryd.pinned (OpenSpec.ofChange Rows.signDifferenceSpec) :=
  OpenClaim.holds_of_wide 9 Tryd.f9 rfl rfl rfl rfl rfl rfl rfl ⟨rfl, rfl, rfl, rfl, rfl⟩ rfl rfl rfl rfl rfl (by kernel_rfl) Tryd.func9 (by kernel_rfl)
    (of_decide_eq_true (by kernel_rfl)) (by unfold Func.isWrapper; first | (rw [if_pos (by decide +kernel)]; kernel_rfl) | (rw [if_neg (by decide +kernel)]; exact ⟨rfl, rfl⟩))
    (fun os started H enc _ => lifted os started H enc)

end Go.Proofs.YtcmabaolpaaonaaDoor.signDifference
namespace Go.Proofs.YtcmabaolpaaonaaDoor
set_option maxRecDepth 100000 in
theorem signDifference_holds : Rows.SignDifferenceCardSaid :=
  Claim7.holds_tied_plain_at .later [] [.data, .data] true _ false
    signDifference.over (fun _ h => by cases h) (by kernel_rfl) (fun _ h => by cases h) signDifference_row_tie rfl ⟨rfl, rfl⟩ (by kernel_rfl) rfl
    (fun f fn hf hfn => by
      obtain rfl : f = 9 := Option.some.inj ((show Tryd.prog.funcNamed "chartroom/chartroomlaw05.SignDifference" = some 9 by kernel_rfl).symm.trans hf) |>.symm
      obtain rfl : fn = Tryd.f9 := (Option.some.inj (Tryd.func9.symm.trans hfn)).symm
      exact ⟨by kernel_rfl, fun j t ht => by
        rw [Tryd.params9] at ht
        have hm : t ∈ [3, 22, 22] := by simpa using Array.mem_of_getElem? ht
        have hall : ([3, 22, 22].all fun u => !Tryd.prog.wantsStandIn u) = true := by kernel_rfl
        exact (show Tryd.prog.wantsStandIn t = false by simpa using List.all_eq_true.1 hall t hm)⟩)
    (by kernel_rfl)
#print axioms signDifference_holds
end Go.Proofs.YtcmabaolpaaonaaDoor
