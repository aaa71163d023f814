/- The reference of package sign: Verify. -/
import Derived.Test.YtcmabaolpaaonaaDoorSign5
set_option linter.unusedVariables false
set_option linter.unusedSimpArgs false
namespace Go.Proofs.YtcmabaolpaaonaaDoor
open Go.RowKit
theorem chk_t {a : Int} (h : elemB a = true) : chk a = 0 := by unfold chk; rw [h]; rfl
theorem chk_f {a : Int} (h : elemB a = false) : chk a = 40 := by unfold chk; rw [h]; rfl
set_option maxRecDepth 100000 in
set_option maxHeartbeats 4000000 in
theorem rverify_any (p r s : Int) (v : Value) (m : List UInt8) (w : World) (hm : m.length ≤ 1000) (hv : BytesAt w v m) :
    Calls Tryd.prog 17 #[.int .i64 p, v, .agg #[.int .i64 r, .int .i64 s]] w fun e w' => e = .returned (.bool (verB p m r s)) ∧ Below w.heap.size w w' := by
  have C1 := fun W => rcheck_any p W
  have C2 := fun W => rcheck_any r W
  have C3 := fun W => rscalar3_any s W
  have G1 := fun W => rbase_any s W
  have G0 : ∀ u W, BytesAt W u m → Calls Tryd.prog 39 #[.int .i64 p, .int .i64 r, u] W fun e w' => e = .returned (.int .i64 ((chal p r m : Nat) : Int)) ∧ Below W.heap.size W w' := fun u W h => rchallenge_any _ _ u m W hm h
  have G2 := fun W => rexp_any p ((chal p r m : Nat) : Int) W
  have G3 := fun W => rmul_any r (gexpV p ((chal p r m : Nat) : Int)) W
  have e0 : verB p m r s = (elemB p && elemB r && scalB s && decide (gexpV 4 s = gmulV r (gexpV p (chal p r m)))) := rfl
  obtain ⟨ans, hans⟩ : ∃ x, verB p m r s = x := ⟨_, rfl⟩
  rw [hans] at e0 ⊢
  obtain ⟨va, vc, rfl⟩ := hv.slice
  have Hv := Lib.hid hv
  have R0 := Lib.hid (RowV.new w 30 2 (sigF r s))
  have A0 := Lib.hid ((Below.refl _ w).alloc (Nat.le_refl _) (.cells (rowF 2 (sigF r s)) 30))
  obtain ⟨v1, hv1⟩ : ∃ x, gexpV 4 s = x := ⟨_, rfl⟩
  obtain ⟨v2, hv2⟩ : ∃ x, gexpV p ((chal p r m : Nat) : Int) = x := ⟨_, rfl⟩
  obtain ⟨v3, hv3⟩ : ∃ x, gmulV r v2 = x := ⟨_, rfl⟩
  rw [hv1] at G1 e0
  rw [hv2] at G2 G3 e0
  rw [hv3] at G3 e0
  obtain ⟨ck, hck⟩ : ∃ x, chal p r m = x := ⟨_, rfl⟩
  rw [hck] at G2 G0
  obtain ⟨f1, hf1⟩ : ∃ x, gexpE 4 s = x := ⟨_, rfl⟩
  obtain ⟨f2, hf2⟩ : ∃ x, gexpE p (ck : Int) = x := ⟨_, rfl⟩
  obtain ⟨f3, hf3⟩ : ∃ x, gmulE r v2 = x := ⟨_, rfl⟩
  rw [hf1] at G1
  rw [hf2] at G2
  rw [hf3] at G3
  have J0 := Lib.hid G0; have J1 := Lib.hid G1; have J2 := Lib.hid G2; have J3 := Lib.hid G3
  clear hv1 hv2 hv3 hck hf1 hf2 hf3 G0 G1 G2 G3 hans hv hm
  cases hp : elemB p with
  | false =>
    rw [hp] at e0
    rw [chk_f hp] at C1
    have H1 := Lib.hid C1
    obtain rfl : ans = false := e0
    clear C1 C2 C3 hp J0 J1 J2 J3
    go_enter Tryd.func17, Tryd.ntmps17
    go_wp2_with fail
    refine (H1.out _).mono ?_
    rintro e wp ⟨rfl, rfl⟩
    go_wp2_with fail
    go_ret
    exact ⟨rfl, A0.out⟩
  | true =>
    rw [hp] at e0
    rw [chk_t hp] at C1
    have H1 := Lib.hid C1
    clear C1 hp
    cases hr : elemB r with
    | false =>
      rw [hr] at e0
      rw [chk_f hr] at C2
      have H2 := Lib.hid C2
      obtain rfl : ans = false := e0
      clear C2 C3 hr J0 J1 J2 J3
      go_enter Tryd.func17, Tryd.ntmps17
      go_wp2_with fail
      refine (H1.out _).mono ?_
      rintro e wp ⟨rfl, rfl⟩
      go_wp2_with fail
      refine (H2.out _).mono ?_
      rintro e wp ⟨rfl, rfl⟩
      go_wp2_with fail
      go_ret
      exact ⟨rfl, A0.out⟩
    | true =>
      rw [hr] at e0
      rw [chk_t hr] at C2
      have H2 := Lib.hid C2
      clear C2 hr
      cases hs : scalB s with
      | false =>
        rw [hs] at e0 C3
        have H3 := Lib.hid C3
        obtain rfl : ans = false := e0
        clear C3 hs J0 J1 J2 J3
        go_enter Tryd.func17, Tryd.ntmps17
        go_wp2_with fail
        refine (H1.out _).mono ?_
        rintro e wp ⟨rfl, rfl⟩
        go_wp2_with fail
        refine (H2.out _).mono ?_
        rintro e wp ⟨rfl, rfl⟩
        go_wp2_with fail
        refine (H3.out _).mono ?_
        rintro e wp ⟨rfl, rfl⟩
        go_wp2_with fail
        go_ret
        exact ⟨rfl, A0.out⟩
      | true =>
        rw [hs] at e0 C3
        have H3 := Lib.hid C3
        obtain rfl : ans = decide (v1 = v3) := e0
        clear C3 hs
        go_enter Tryd.func17, Tryd.ntmps17
        go_wp2_with fail
        refine (H1.out _).mono ?_
        rintro e wp ⟨rfl, rfl⟩
        obtain ⟨w1, hw1⟩ : ∃ y, w.alloc (.cells (rowF 2 (sigF r s)) 30) = y := ⟨_, rfl⟩
        have hw2 : w.alloc (.cells #[.int .i64 r, .int .i64 s] 30) = w1 := hw1
        rw [hw1] at R0 A0
        rw [hw2]
        clear hw1 hw2
        obtain ⟨bs, hbs⟩ : ∃ y, w.heap.size = y := ⟨_, rfl⟩
        have Hbs := Lib.hid hbs
        rw [hbs] at R0 ⊢
        clear hbs
        have x0 : w1.cell? ⟨bs, 0, none⟩ = some (.int .i64 r) := R0.out.cell (i := 0) (by decide)
        have x1 : w1.cell? ⟨bs, 1, none⟩ = some (.int .i64 s) := R0.out.cell (i := 1) (by decide)
        go_wp2_with fail
        refine (H2.out _).mono ?_
        rintro e wp ⟨rfl, rfl⟩
        go_wp2_with fail
        refine (H3.out _).mono ?_
        rintro e wp ⟨rfl, rfl⟩
        go_wp2_with fail
        refine (J1.out _).mono ?_
        rintro e wp ⟨rfl, rfl⟩
        go_wp2_with fail
        refine (J0.out _ _ (Hv.out.below A0.out)).mono ?_
        rintro e w2 ⟨rfl, b2⟩
        have B2 := Lib.hid (A0.out.trans (b2.mono A0.out.size))
        have R2 := Lib.hid (R0.out.below b2)
        clear x0 x1 b2
        have x0 : w2.cell? ⟨bs, 0, none⟩ = some (.int .i64 r) := R2.out.cell (i := 0) (by decide)
        go_wp2_with fail
        refine (J2.out _).mono ?_
        rintro e wp ⟨rfl, rfl⟩
        go_wp2_with fail
        refine (J3.out _).mono ?_
        rintro e wp ⟨rfl, rfl⟩
        go_wp2_with fail
        go_ret
        exact ⟨rfl, B2.out⟩
end Go.Proofs.YtcmabaolpaaonaaDoor
