/- SignVerifies returns true for every input. No condition beyond the card's own: the two tables of package digest are tied to the program's text. -/
import Derived.Test.YtcmabaolpaaonaaDoorSigOpen
import Derived.Test.YtcmabaolpaaonaaDoorLaid
import Derived.Test.YtcmabaolpaaonaaDoorCards
namespace Go.Proofs.YtcmabaolpaaonaaDoor.signVerifies
open Go.ChangeShapes Go.WideShapes Go.ChangeAt Go.RowKit
open Go.ChangeMaps (open_string shut_string)
set_option linter.unusedVariables false
set_option linter.unusedSimpArgs false

set_option maxRecDepth 100000 in
set_option maxHeartbeats 4000000 in
theorem walk {w : World} (p : Int) (wp : (Lit.int .i64 p).wf = true) (v : Value) (l : List UInt8) (hv : BytesAt w v l) (hs : ∃ a cap, v = .slice a l.length cap) (hT : Tab w) :
    Calls Tryd.prog 5 #[.int .i64 p, v] w fun e w' => e = .returned (.bool true) ∧ Below w.heap.size w w' := by
  obtain ⟨a, cap, rfl⟩ := hs
  obtain ⟨n, hn⟩ : ∃ n, l.length = n := ⟨_, rfl⟩
  have V0 := Lib.hid hv
  have T0 := Lib.hid hT
  have C1 := Lib.hid (fun W hT => sane5_any W hT)
  have kb := keyM_bd p
  have c2 : ∀ W, Calls Tryd.prog 11 #[.int .i64 p] W fun e w' => e = .returned (.int .i64 ((keyM p : Nat) : Int)) ∧ W = w' := fun W => key_any p W wp
  obtain ⟨x, hx⟩ : ∃ x, keyM p = x := ⟨_, rfl⟩
  rw [hx] at c2 kb
  have c3 : ∀ W, Calls Tryd.prog 12 #[.int .i64 (x : Int)] W fun e w' => e = .returned (.tuple #[.int .i64 ((pubM x : Nat) : Int), .int .i64 0]) ∧ Below W.heap.size W w' := fun W => public_key x kb.1 kb.2 W
  have c4 : ∀ W, n ≤ 300 → BytesAt W (.slice a n cap) l → Tab W → Calls Tryd.prog 14 #[.int .i64 (x : Int), .slice a n cap] W fun e w' => e = .returned (.tuple #[.agg #[.int .i64 ((sigR x l : Nat) : Int), .int .i64 ((sigS x l : Nat) : Int)], .int .i64 0]) ∧ Below W.heap.size W w' := fun W h hv hT => sign_key x kb.1 kb.2 _ l W (by omega) hv hT
  have c5 : ∀ W, Calls Tryd.prog 18 #[.int .i64 ((pubM x : Nat) : Int)] W fun e w' => e = .returned (.int .i64 0) ∧ Below W.heap.size W w' := fun W => check_El (pow4_El _) W
  have c6 : ∀ W, Calls Tryd.prog 18 #[.int .i64 ((sigR x l : Nat) : Int)] W fun e w' => e = .returned (.int .i64 0) ∧ Below W.heap.size W w' := fun W => check_El (pow4_El _) W
  have c7 : ∀ W, Calls Tryd.prog 19 #[.int .i64 ((sigS x l : Nat) : Int)] W fun e w' => e = .returned (.int .i64 0) ∧ Below W.heap.size W w' := fun W => by
    have h := fcheck_any ((sigS x l : Nat) : Int) W
    rwa [show fchk ((sigS x l : Nat) : Int) = 0 by unfold fchk; rw [scalB_of (sigS_lt _ _)]; rfl] at h
  have c8 : ∀ W, n ≤ 300 → BytesAt W (.slice a n cap) l → Tab W → Calls Tryd.prog 16 #[.int .i64 ((pubM x : Nat) : Int), .slice a n cap, .agg #[.int .i64 ((sigR x l : Nat) : Int), .int .i64 ((sigS x l : Nat) : Int)]] W fun e w' => e = .returned (.bool true) ∧ Below W.heap.size W w' := fun W h hv hT => by
    have h := verify_any ((pubM x : Nat) : Int) ((sigR x l : Nat) : Int) ((sigS x l : Nat) : Int) _ l W (by omega) hv hT
    rwa [ver_sign] at h
  obtain ⟨P, hP⟩ : ∃ r, pubM x = r := ⟨_, rfl⟩
  obtain ⟨R, hR⟩ : ∃ r, sigR x l = r := ⟨_, rfl⟩
  obtain ⟨S, hS⟩ : ∃ r, sigS x l = r := ⟨_, rfl⟩
  rw [hP] at c3 c5 c8
  rw [hR] at c4 c6 c8
  rw [hS] at c4 c7 c8
  rw [hn] at V0 ⊢
  have C2 := Lib.hid c2; have C3 := Lib.hid c3; have C5 := Lib.hid c5; have C6 := Lib.hid c6; have C7 := Lib.hid c7
  clear hn wp hv hT hx hP hR hS kb c2 c3 c5 c6 c7
  by_cases h1 : n ≤ 300
  · have C4 := Lib.hid (fun W => c4 W h1); have C8 := Lib.hid (fun W => c8 W h1)
    have d1 : decide (300 < (n : Int)) = false := by rw [decide_eq_false_iff_not]; omega
    have d2 : decide (300 < n) = false := by rw [decide_eq_false_iff_not]; omega
    have d3 : ¬ 300 < n := by omega
    clear c4 c8 h1
    go_enter Tryd.func5, Tryd.ntmps5
    have B0 := Lib.hid (Below.refl w.heap.size w)
    go_wp2_with fail
    refine (C1.out _ T0.out).mono ?_
    rintro e w1 ⟨rfl, b1⟩
    have B1 := Lib.hid (B0.out.trans (b1.mono B0.out.size))
    have V1 := Lib.hid (V0.out.below b1)
    have T1 := Lib.hid (T0.out.below b1)
    clear b1 B0 V0 T0
    go_wp2_with fail
    refine (C2.out _).mono ?_
    rintro e wp ⟨rfl, rfl⟩
    go_wp2_with fail
    refine (C3.out _).mono ?_
    rintro e w2 ⟨rfl, b2⟩
    have B2 := Lib.hid (B1.out.trans (b2.mono B1.out.size))
    have V2 := Lib.hid (V1.out.below b2)
    have T2 := Lib.hid (T1.out.below b2)
    clear b2 B1 V1 T1
    go_wp2_with fail
    refine (C4.out _ V2.out T2.out).mono ?_
    rintro e w3 ⟨rfl, b3⟩
    have B3 := Lib.hid (B2.out.trans (b3.mono B2.out.size))
    have V3 := Lib.hid (V2.out.below b3)
    have T3 := Lib.hid (T2.out.below b3)
    clear b3 B2 V2 T2
    go_upto_region 8 with fail
    obtain ⟨w4, hw4⟩ : ∃ y, w3.alloc (.cells #[.int .i64 (R : Int), .int .i64 (S : Int)] 30) = y := ⟨_, rfl⟩
    have b4 : Below w3.heap.size w3 w4 := by rw [← hw4]; exact (Below.refl _ _).alloc (Nat.le_refl _) _
    have Q4 : Hid (RowV w4 w3.heap.size 30 2 (sigF R S)) := Lib.hid (by rw [← hw4]; exact RowV.new w3 _ 2 (sigF R S))
    have z4 : w3.heap.size + 1 = w4.heap.size := by rw [← hw4]; exact (Array.size_push _).symm
    rw [hw4]
    (try rw [z4])
    have B4 := Lib.hid (B3.out.trans (b4.mono B3.out.size))
    have V4 := Lib.hid (V3.out.below b4)
    have T4 := Lib.hid (T3.out.below b4)
    clear b4 hw4 z4 B3 V3 T3
    go_wp2_with fail
    refine (C5.out _).mono ?_
    rintro e w5 ⟨rfl, b5⟩
    have B5 := Lib.hid (B4.out.trans (b5.mono B4.out.size))
    have V5 := Lib.hid (V4.out.below b5)
    have T5 := Lib.hid (T4.out.below b5)
    have Q5 := Lib.hid (Q4.out.below b5)
    clear b5 B4 V4 T4 Q4
    have y0 : w5.cell? ⟨w3.heap.size, 0, none⟩ = some (.int .i64 (R : Int)) := Q5.out.cell (i := 0) (by decide)
    go_wp2_with fail
    refine (C6.out _).mono ?_
    rintro e w6 ⟨rfl, b6⟩
    have B6 := Lib.hid (B5.out.trans (b6.mono B5.out.size))
    have V6 := Lib.hid (V5.out.below b6)
    have T6 := Lib.hid (T5.out.below b6)
    have Q6 := Lib.hid (Q5.out.below b6)
    clear b6 B5 V5 T5 Q5
    clear y0
    have y1 : w6.cell? ⟨w3.heap.size, 1, none⟩ = some (.int .i64 (S : Int)) := Q6.out.cell (i := 1) (by decide)
    go_wp2_with fail
    refine (C7.out _).mono ?_
    rintro e w7 ⟨rfl, b7⟩
    have B7 := Lib.hid (B6.out.trans (b7.mono B6.out.size))
    have V7 := Lib.hid (V6.out.below b7)
    have T7 := Lib.hid (T6.out.below b7)
    have Q7 := Lib.hid (Q6.out.below b7)
    clear b7 B6 V6 T6 Q6
    clear y1
    have y0 : w7.cell? ⟨w3.heap.size, 0, none⟩ = some (.int .i64 (R : Int)) := Q7.out.cell (i := 0) (by decide)
    have y1 : w7.cell? ⟨w3.heap.size, 1, none⟩ = some (.int .i64 (S : Int)) := Q7.out.cell (i := 1) (by decide)
    go_wp2_with fail
    refine (C8.out _ V7.out T7.out).mono ?_
    rintro e w8 ⟨rfl, b8⟩
    have B8 := Lib.hid (B7.out.trans (b8.mono B7.out.size))
    have V8 := Lib.hid (V7.out.below b8)
    have T8 := Lib.hid (T7.out.below b8)
    have Q8 := Lib.hid (Q7.out.below b8)
    clear b8 B7 V7 T7 Q7
    go_wp2_with fail
    go_ret
    exact ⟨rfl, B8.out⟩
  · have d1 : decide (300 < (n : Int)) = true := by rw [decide_eq_true_iff]; omega
    have d2 : decide (300 < n) = true := by rw [decide_eq_true_iff]; omega
    have d3 : 300 < n := by omega
    clear c4 c8 h1
    go_enter Tryd.func5, Tryd.ntmps5
    have B0 := Lib.hid (Below.refl w.heap.size w)
    go_wp2_with fail
    refine (C1.out _ T0.out).mono ?_
    rintro e w1 ⟨rfl, b1⟩
    have B1 := Lib.hid (B0.out.trans (b1.mono B0.out.size))
    have V1 := Lib.hid (V0.out.below b1)
    have T1 := Lib.hid (T0.out.below b1)
    clear b1 B0 V0 T0
    go_wp2_with fail
    go_ret
    exact ⟨rfl, B1.out⟩

set_option maxRecDepth 100000 in
set_option maxHeartbeats 1000000 in
theorem lifted (os : Os) (started : os.Started) (H : Type) (enc : TypeId × Value → H) :
    ReturnsInHanded {} Tryd.checked os 5 .any (fun w args => (Rows.signVerifiesSpec.pre enc Tryd.prog Tryd.f5 [] false w args ∧ laidMetH Tryd.prog laidL w) ∧ sizedMet enc Tryd.prog Tryd.f5 (OpenSpec.ofChange Rows.signVerifiesSpec) false w args)
      (Rows.signVerifiesSpec.post enc Tryd.prog Tryd.f5 false true false false) := by
  refine returnsInHanded_of_change_and (C := Tryd.checked) (X := fun w _ => laidMetH Tryd.prog laidL w) (fun _ _ _ hh h => h.of_heap hh) own started (by kernel_rfl) Tryd.func5
    (ChangeSpec.witness_shaped (enc := enc) (C := Tryd.checked) (os := os) (X := fun w _ => laidMetH Tryd.prog laidL w) false (World.doorLaid Tryd.prog 19 os) #[.int .i64 0, .slice none 0 0] 8 rfl (World.shaped_of_RefB (by kernel_rfl) (by kernel_rfl)) (by kernel_rfl) (by kernel_rfl) (by kernel_rfl) (door_met os _)) ?_
  intro W base args ds gs before hval0 hW _ hsz hL _
  have hval : ∀ (j : Nat) t v, Tryd.f5.params[j]? = some t → args[j]? = some v → Value.okWide Tryd.prog W .any base t v := hval0
  have hW' := hW
  obtain ⟨p, q, hA0, hV, rfl, hfz, hnd⟩ := hW
  have hA : DataW.TrodAll enc Tryd.prog W 0 (fun _ => true) true Tryd.f5.params.toList args.toList ds p := hA0
  rw [Tryd.params5] at hA hval
  obtain ⟨v0, vs0, d0, ds0, p0, q0, hargs, rfl, rfl, h0, r0⟩ := trodAll_cons hA
  obtain ⟨v1, vs1, d1, ds1, p1, q1, rfl, rfl, rfl, h1, r1⟩ := trodAll_cons r0
  obtain ⟨rfl, rfl, rfl⟩ := trodAll_nil r1
  obtain rfl : args = #[v0, v1] := by cases args; simp_all
  obtain ⟨rfl, rfl⟩ := trodVars_none hV
  obtain ⟨a0, rfl, rfl, rfl, w0⟩ := open_int Tryd.underlying3 (hval 0 3 v0 rfl rfl) h0
  have k1 := h1
  have lt1 : ∀ x ∈ p1, x.block < W.heap.size := by obtain ⟨m, hm⟩ := k1; exact DataW.trod_lt m _ _ _ hm
  obtain ⟨l1, b1, s1⟩ := bytes_open (hval 1 22 v1 rfl rfl) h1 (fun elems spare e => by
    have := sized_slice hsz (j := 1) (t := 22) (e := 5) (elems := elems) (spare := spare) (by kernel_rfl) (by rw [← e]; rfl) Tryd.underlying22
    rw [show Tryd.checked.prog.bytesOf 5 = 1 by kernel_rfl] at this; omega)
  have hT := tab_of_laid hL
  clear hA0 hval0 hsz hL
  simp only [List.append_nil] at hW'
  refine (walk a0 w0 v1 l1 b1 s1 hT).mono fun e W' ⟨he, hg⟩ => ?_
  subst he
  exact ⟨_, rfl, _, _, _, [], _, [], hW', trodAll_mk1 (shut_bool Tryd.underlying4 _), (trodAll_cons_mk (shut_int Tryd.underlying3 w0) (trodAll_cons_mk (Below.trod laidOut (by kernel_rfl) (of_decide_eq_true (by kernel_rfl)) k1 hg lt1) trodAll_mk0)), rfl, hg.frame _, fun h => by cases h⟩

theorem over : Rows.signVerifiesRow.holds Tryd.pinned (OpenSpec.ofChange Rows.signVerifiesSpec) :=
  OpenClaim.holds_of_wide 5 Tryd.f5 rfl rfl rfl rfl rfl rfl rfl ⟨rfl, rfl, rfl, rfl, rfl⟩ rfl rfl rfl rfl rfl (by kernel_rfl) Tryd.func5 (by kernel_rfl)
    (of_decide_eq_true (by kernel_rfl)) (by unfold Func.isWrapper; first | (rw [if_pos (by decide +kernel)]; kernel_rfl) | (rw [if_neg (by decide +kernel)]; exact ⟨rfl, rfl⟩))
    (fun os started H enc _ => lifted os started H enc)

end Go.Proofs.YtcmabaolpaaonaaDoor.signVerifies
namespace Go.Proofs.YtcmabaolpaaonaaDoor
set_option maxRecDepth 100000 in
theorem signVerifies_holds : Rows.SignVerifiesCardSaid :=
  Claim7.holds_tied_plain_at .later [] [.data, .data] true _ false
    signVerifies.over (fun _ h => by cases h) (by kernel_rfl) (fun _ h => by cases h) signVerifies_row_tie rfl ⟨rfl, rfl⟩ (by kernel_rfl) rfl
    (fun f fn hf hfn => by
      obtain rfl : f = 5 := Option.some.inj ((show Tryd.prog.funcNamed "chartroom/chartroomlaw05.SignVerifies" = some 5 by kernel_rfl).symm.trans hf) |>.symm
      obtain rfl : fn = Tryd.f5 := (Option.some.inj (Tryd.func5.symm.trans hfn)).symm
      exact ⟨by kernel_rfl, fun j t ht => by
        rw [Tryd.params5] at ht
        have hm : t ∈ [3, 22] := by simpa using Array.mem_of_getElem? ht
        have hall : ([3, 22].all fun u => !Tryd.prog.wantsStandIn u) = true := by kernel_rfl
        exact (show Tryd.prog.wantsStandIn t = false by simpa using List.all_eq_true.1 hall t hm)⟩)
    (by kernel_rfl)
#print axioms signVerifies_holds
end Go.Proofs.YtcmabaolpaaonaaDoor
