/- pake.roles: the map of both roles, and look-ups in it. -/
import Derived.Test.YtdcpejfnhegdaaaDoorMask
import Derived.Test.YtdcpejfnhegdaaaDoorMapLit
import Derived.Test.YtdcpejfnhegdaaaDoorFloat2
set_option linter.unusedVariables false
set_option linter.unusedSimpArgs false
namespace Go.Proofs.YtdcpejfnhegdaaaDoor
open Go.RowKit

abbrev roleH : Value := .agg #[.string sHost, .func (.func 71) #[] #[]]
abbrev roleG : Value := .agg #[.string sGuest, .func (.func 72) #[] #[]]
def rolesEs : Array MapEntry := #[{ key := .int .i64 1, val := roleH, born := 0 }, { key := .int .i64 2, val := roleG, born := 1 }]
/-- the map of the roles lies in block r -/
def RolesAt (W : World) (r : Nat) : Prop := W.heap[r]? = some (.map rolesEs 2)
theorem RolesAt.lt {W : World} {r : Nat} (h : RolesAt W r) : r < W.heap.size := (Array.getElem?_eq_some_iff.1 h).1
theorem RolesAt.below {W W' : World} {r : Nat} (h : RolesAt W r) (hb : Below W.heap.size W W') : RolesAt W' r := (hb.block _ h.lt).trans h

set_option maxRecDepth 100000 in
set_option maxHeartbeats 2000000 in
theorem roles_any (w : World) :
    Calls Tryd.prog 50 #[] w fun e w' => (∃ r, e = .returned (.map (some r)) ∧ RolesAt w' r) ∧ Below w.heap.size w w' := by
  have hmm := fun W => run_makeMap_plain (w := W) (P := Tryd.prog) 71
  have hb0 : (w.alloc (.map #[] 0)).heap[w.heap.size]? = some (.map #[] 0) := by show (w.heap.push _)[_]? = _; simp
  have h1 := run_insert_int (P := Tryd.prog) (w.alloc (.map #[] 0)) 71 3 70 .i64 w.heap.size 0 1 #[] roleH Tryd.underlying71 Tryd.underlying3 hb0 rfl
  have hb1 := setMap_at hb0 (#[].push { key := .int .i64 1, val := roleH, born := 0 }) (0 + 1)
  have B0 : Below w.heap.size w (w.alloc (.map #[] 0)) := (Below.refl _ _).alloc (Nat.le_refl _) _
  have B1 := setMap_below B0 (Nat.le_refl _) (#[].push { key := .int .i64 1, val := roleH, born := 0 }) (0 + 1)
  obtain ⟨w1, hw1⟩ : ∃ y, setMap (w.alloc (.map #[] 0)) w.heap.size (#[].push { key := .int .i64 1, val := roleH, born := 0 }) (0 + 1) = y := ⟨_, rfl⟩
  rw [hw1] at h1 hb1 B1
  have h2 := run_insert_int (P := Tryd.prog) w1 71 3 70 .i64 w.heap.size (0 + 1) 2 _ roleG Tryd.underlying71 Tryd.underlying3 hb1 rfl
  have hb2 := setMap_at hb1 ((#[].push { key := .int .i64 1, val := roleH, born := 0 }).push { key := .int .i64 2, val := roleG, born := 0 + 1 }) (0 + 1 + 1)
  have B2 := setMap_below B1 (Nat.le_refl _) ((#[].push { key := .int .i64 1, val := roleH, born := 0 }).push { key := .int .i64 2, val := roleG, born := 0 + 1 }) (0 + 1 + 1)
  obtain ⟨w2, hw2⟩ : ∃ y, setMap w1 w.heap.size ((#[].push { key := .int .i64 1, val := roleH, born := 0 }).push { key := .int .i64 2, val := roleG, born := 0 + 1 }) (0 + 1 + 1) = y := ⟨_, rfl⟩
  rw [hw2] at h2 hb2 B2
  have R2 : Hid (RolesAt w2 w.heap.size) := Lib.hid hb2
  have HB := Lib.hid B2
  clear hb0 hb1 hb2 B0 B1 B2 hw1 hw2
  go_enter Tryd.func50, Tryd.ntmps50
  go_wp2_with fail
  go_ret
  exact ⟨⟨_, rfl, R2.out⟩, HB.out⟩

/-- what a look-up finds -/
def roleZ : Value := .agg #[.string ByteArray.empty, .nilFunc]
theorem zero_role (W : World) : (zeroValue 70).run Tryd.prog W = .ok roleZ W := by kernel_rfl
def roleF (k : Int) : Value := if k = 1 then .func (.func 71) #[] #[] else .func (.func 72) #[] #[]
theorem roleH_is : roleH = .agg #[.string (nameR 1), roleF 1] := rfl
theorem roleG_is : roleG = .agg #[.string (nameR 2), roleF 2] := rfl
theorem find_1 : Instr.findNow (.int .i64) (.int .i64 1) rolesEs.toList 0 = some (some (0, roleH)) := rfl
theorem find_2 : Instr.findNow (.int .i64) (.int .i64 2) rolesEs.toList 0 = some (some (1, roleG)) := rfl
theorem find_no {k : Int} (h : ¬ (k = 1 ∨ k = 2)) : Instr.findNow (.int .i64) (.int .i64 k) rolesEs.toList 0 = some none := by
  have h1 : (k == 1) = false := by rw [beq_eq_false_iff_ne]; omega
  have h2 : (k == 2) = false := by rw [beq_eq_false_iff_ne]; omega
  simp [rolesEs, Instr.findNow, Instr.sameNow, h1, h2]
section
variable {W : World} {r : Nat} (h : RolesAt W r)
include h
theorem look_no {k : Int} (hk : ¬ (k = 1 ∨ k = 2)) : (Instr.lookup 71 (.map (some r)) (.int .i64 k) true).run Tryd.prog W = .ok (.tuple #[roleZ, .bool false]) W :=
  run_lookup_int W _ 3 70 .i64 r 2 k rolesEs true Tryd.underlying71 Tryd.underlying3 h zero_role (.inl ⟨find_no hk, rfl, rfl⟩)
theorem look_ok {k : Nat} (hk : k = 1 ∨ k = 2) : (Instr.lookup 71 (.map (some r)) (.int .i64 (k : Int)) true).run Tryd.prog W = .ok (.tuple #[.agg #[.string (nameR (k : Int)), roleF (k : Int)], .bool true]) W := by
  rcases hk with rfl | rfl
  · exact run_lookup_int W _ 3 70 .i64 r 2 1 rolesEs true Tryd.underlying71 Tryd.underlying3 h zero_role (.inr ⟨⟨_, find_1⟩, rfl⟩)
  · exact run_lookup_int W _ 3 70 .i64 r 2 2 rolesEs true Tryd.underlying71 Tryd.underlying3 h zero_role (.inr ⟨⟨_, find_2⟩, rfl⟩)
theorem look_plain {k : Nat} (hk : k = 1 ∨ k = 2) : (Instr.lookup 71 (.map (some r)) (.int .i64 (k : Int)) false).run Tryd.prog W = .ok (.agg #[.string (nameR (k : Int)), roleF (k : Int)]) W := by
  rcases hk with rfl | rfl
  · exact run_lookup_int W _ 3 70 .i64 r 2 1 rolesEs false Tryd.underlying71 Tryd.underlying3 h zero_role (.inr ⟨⟨_, find_1⟩, rfl⟩)
  · exact run_lookup_int W _ 3 70 .i64 r 2 2 rolesEs false Tryd.underlying71 Tryd.underlying3 h zero_role (.inr ⟨⟨_, find_2⟩, rfl⟩)
end
theorem look_gen (k : Int) : ∃ s fv, fv.oneCell' = true ∧ ∀ (W : World) (r : Nat), RolesAt W r → (Instr.lookup 71 (.map (some r)) (.int .i64 k) true).run Tryd.prog W = .ok (.tuple #[.agg #[.string s, fv], .bool (decide (k = 1 ∨ k = 2))]) W := by
  by_cases h : k = 1 ∨ k = 2
  · obtain ⟨n, rfl⟩ : ∃ n : Nat, k = (n : Int) := ⟨k.toNat, by omega⟩
    have hn : n = 1 ∨ n = 2 := by omega
    refine ⟨nameR (n : Int), roleF (n : Int), by unfold roleF; split <;> rfl, fun W r hr => ?_⟩
    rw [decide_eq_true h]
    exact look_ok hr hn
  · refine ⟨ByteArray.empty, .nilFunc, rfl, fun W r hr => ?_⟩
    rw [decide_eq_false h]
    exact look_no hr h
end Go.Proofs.YtdcpejfnhegdaaaDoor
