/- Package sign and its reference: keys and challenges. -/
import Derived.Test.YtcmabaolpaaonaaDoorNumb
import Derived.Test.YtcmabaolpaaonaaDoorGrpEl
import Derived.Test.YtcmabaolpaaonaaDoorRefFld
set_option linter.unusedVariables false
set_option linter.unusedSimpArgs false
namespace Go.Proofs.YtcmabaolpaaonaaDoor
open Go.RowKit

abbrev sSign : ByteArray := ⟨#[115, 105, 103, 110]⟩
abbrev sNonce : ByteArray := ⟨#[110, 111, 110, 99, 101]⟩
def privB (x : Int) : Bool := decide (1 ≤ x) && decide (x < 2305843009213688669)
def chal (p r : Int) (m : List UInt8) : Nat := hashM sSign.data.toList m [r, p]
theorem chal_bd (p r : Int) (m : List UInt8) : 1 ≤ chal p r m ∧ chal p r m < 2305843009213688669 := hashM_bd _ _ _
theorem nums8_two (r p : Int) : num8 r ++ num8 p = nums8 [r, p] := by simp [nums8]
theorem nums8_one (r : Int) : num8 r = nums8 [r] := by simp [nums8]

theorem row_one (w : World) (a : Int) : RowV (w.alloc (.cells #[.int .i64 a] 3)) w.heap.size 3 [a].length (fun i => .int .i64 ([a].getD i 0)) := RowV.new w 3 1 (fun i => .int .i64 ([a].getD i 0))
theorem row_two (w : World) (a b : Int) : RowV (w.alloc (.cells #[.int .i64 a, .int .i64 b] 3)) w.heap.size 3 [a, b].length (fun i => .int .i64 ([a, b].getD i 0)) := RowV.new w 3 2 (fun i => .int .i64 ([a, b].getD i 0))

theorem valid_any (x : Int) (w : World) :
    Calls Tryd.prog 30 #[.int .i64 x] w fun e w' => e = .returned (.bool (privB x)) ∧ w = w' := by
  unfold privB
  cases h : decide (1 ≤ x) with
  | false =>
    go_enter Tryd.func30, Tryd.ntmps30
    go_wp2_with fail
    go_ret
    exact ⟨rfl, rfl⟩
  | true =>
    cases h2 : decide (x < 2305843009213688669) with
    | false =>
      go_enter Tryd.func30, Tryd.ntmps30
      go_wp2_with fail
      go_ret
      exact ⟨rfl, rfl⟩
    | true =>
      go_enter Tryd.func30, Tryd.ntmps30
      go_wp2_with fail
      go_ret
      exact ⟨rfl, rfl⟩
theorem rprivate_any (x : Int) (w : World) :
    Calls Tryd.prog 32 #[.int .i64 x] w fun e w' => e = .returned (.bool (privB x)) ∧ w = w' := by
  unfold privB
  cases h : decide (1 ≤ x) with
  | false =>
    go_enter Tryd.func32, Tryd.ntmps32
    go_wp2_with fail
    go_ret
    exact ⟨rfl, rfl⟩
  | true =>
    cases h2 : decide (x < 2305843009213688669) with
    | false =>
      go_enter Tryd.func32, Tryd.ntmps32
      go_wp2_with fail
      go_ret
      exact ⟨rfl, rfl⟩
    | true =>
      go_enter Tryd.func32, Tryd.ntmps32
      go_wp2_with fail
      go_ret
      exact ⟨rfl, rfl⟩
theorem public_any (x : Int) (w : World) :
    Calls Tryd.prog 31 #[.int .i64 x] w fun e w' => e = .returned (.int .i64 (gexpV 4 x)) ∧ Below w.heap.size w w' := by
  have h := Lib.hid (fun W => gbase_any x W)
  obtain ⟨p, hp⟩ : ∃ p, gexpV 4 x = p := ⟨_, rfl⟩
  rw [hp] at h ⊢
  go_enter Tryd.func31, Tryd.ntmps31
  go_wp2_with fail
  refine (h.out _).mono ?_
  rintro e w1 ⟨rfl, b1⟩
  go_wp2_with fail
  go_ret
  exact ⟨rfl, b1⟩
/-- what Public answers -/
def pubV (x : Int) : Int := if privB x then gexpV 4 x else 0
def pubE (x : Int) : Int := if privB x then 0 else 50
theorem priv_scal {x : Int} (h : privB x = true) : scalB x = true := by
  unfold privB at h; unfold scalB
  simp only [Bool.and_eq_true, decide_eq_true_eq] at h
  exact decide_eq_true ⟨by omega, h.2⟩
theorem spublic_any (x : Int) (w : World) :
    Calls Tryd.prog 12 #[.int .i64 x] w fun e w' => e = .returned (.tuple #[.int .i64 (pubV x), .int .i64 (pubE x)]) ∧ Below w.heap.size w w' := by
  have h := Lib.hid (fun W => valid_any x W)
  have h2 := Lib.hid (fun W => public_any x W)
  unfold pubV pubE
  cases hx : privB x with
  | false =>
    rw [hx] at h
    clear h2
    go_enter Tryd.func12, Tryd.ntmps12
    go_wp2_with fail
    refine (h.out _).mono ?_
    rintro e w1 ⟨rfl, rfl⟩
    go_wp2_with fail
    go_ret2
    exact ⟨rfl, Below.refl _ _⟩
  | true =>
    rw [hx] at h
    rw [if_pos rfl, if_pos rfl]
    obtain ⟨p, hp⟩ : ∃ p, gexpV 4 x = p := ⟨_, rfl⟩
    rw [hp] at h2 ⊢
    go_enter Tryd.func12, Tryd.ntmps12
    go_wp2_with fail
    refine (h.out _).mono ?_
    rintro e w1 ⟨rfl, rfl⟩
    go_wp2_with fail
    refine (h2.out _).mono ?_
    rintro e w1 ⟨rfl, b1⟩
    go_wp2_with fail
    go_ret2
    exact ⟨rfl, b1⟩
theorem gexpE4 {x : Int} (h : scalB x = true) : gexpE 4 x = 0 := by unfold gexpE; rw [el4, h]; rfl
theorem rpublic5_any (x : Int) (w : World) :
    Calls Tryd.prog 13 #[.int .i64 x] w fun e w' => e = .returned (.tuple #[.int .i64 (pubV x), .int .i64 (pubE x)]) ∧ w = w' := by
  have h := Lib.hid (fun W => rprivate_any x W)
  have h2 := fun W => rbase_any x W
  unfold pubV pubE
  cases hx : privB x with
  | false =>
    rw [hx] at h
    clear h2
    go_enter Tryd.func13, Tryd.ntmps13
    go_wp2_with fail
    refine (h.out _).mono ?_
    rintro e w1 ⟨rfl, rfl⟩
    go_wp2_with fail
    go_ret2
    exact ⟨rfl, rfl⟩
  | true =>
    rw [hx] at h
    rw [if_pos rfl, if_pos rfl]
    rw [gexpE4 (priv_scal hx)] at h2
    obtain ⟨p, hp⟩ : ∃ p, gexpV 4 x = p := ⟨_, rfl⟩
    rw [hp] at h2 ⊢
    have H2 := Lib.hid h2
    clear h2
    go_enter Tryd.func13, Tryd.ntmps13
    go_wp2_with fail
    refine (h.out _).mono ?_
    rintro e w1 ⟨rfl, rfl⟩
    go_wp2_with fail
    refine (H2.out _).mono ?_
    rintro e w1 ⟨rfl, rfl⟩
    go_wp2_with fail
    go_ret2
    exact ⟨rfl, rfl⟩
end Go.Proofs.YtcmabaolpaaonaaDoor
