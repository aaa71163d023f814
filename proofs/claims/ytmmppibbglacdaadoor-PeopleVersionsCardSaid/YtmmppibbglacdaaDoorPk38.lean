/- A signature that came in, opened. -/
import Derived.Test.YtmmppibbglacdaaDoorPk29
import Derived.Test.YtmmppibbglacdaaDoorPk35
import Derived.Test.YtmmppibbglacdaaDoorPk19
import Derived.Lib.SmallJoins
import Derived.IntWalk
set_option linter.unusedVariables false
set_option linter.unusedSimpArgs false
namespace Go.Proofs.YtmmppibbglacdaaDoor
open Go.ChangeShapes Go.WideShapes Go.ChangeAt Go.RowKit
set_option maxRecDepth 100000 in
theorem sig_open {H : Type} {enc : TypeId × Value → H} {W : World} {v : Value} {d : DataW H} {p : List MemPlace} {base : Nat}
    (hok : Value.okWide Tryd.prog W .any base 25 v) (hj : DataW.Trod enc Tryd.prog W 0 (fun _ => true) true 25 v d p) :
    ∃ a b : Int, v = .agg #[.int .i64 a, .int .i64 b] := by
  obtain ⟨v0, v1, y0, y1, n, rfl, _, _, h0, h1⟩ := Joins.open_agg2 Tryd.underlying25 (by kernel_rfl) (by kernel_rfl) hok hj
  obtain ⟨a, e0, _, _⟩ := DataW.trod_int Tryd.underlying3 h0
  obtain ⟨b, e1, _, _⟩ := DataW.trod_int Tryd.underlying3 h1
  simp only [List.cons.injEq, and_true] at e0 e1
  subst e0 e1
  exact ⟨a, b, rfl⟩
theorem sigS_lt (x : Nat) (m : List UInt8) : sigS x m < 2305843009213688669 := addQ_lt _ _
/-- what Verify answers, by the answers of package group -/
theorem ver_eq (p r s : Int) (m : List UInt8) : verB p m r s = (decide (gexpE 4 s = 0) && decide (gexpE p ((chal p r m : Nat) : Int) = 0) && decide (gmulE r (gexpV p ((chal p r m : Nat) : Int)) = 0) && decide (gexpV 4 s = gmulV r (gexpV p ((chal p r m : Nat) : Int)))) := by
  unfold verB
  have cb := chal_bd p r m
  obtain ⟨c, hc⟩ : ∃ c, chal p r m = c := ⟨_, rfl⟩
  rw [hc] at cb ⊢
  have f1 : gexpE 4 s = if scalB s then 0 else 1 := by unfold gexpE; rw [el4]; rfl
  cases hp : elemB p with
  | false =>
    have : gexpE p (c : Int) = 40 := by unfold gexpE; rw [hp]; rfl
    rw [this]; simp
  | true =>
    obtain ⟨n, rfl, h1, h2, h3⟩ := elemB_nat hp
    have e : El n := ⟨h1, h2, h3⟩
    have f3 : gmulE r (((powP n c : Nat)) : Int) = if elemB r then 0 else 40 := by
      unfold gmulE; rw [elemB_El (powP_pos e _)]; simp
    rw [gexpE_el e cb.2, gexpV_el e cb.2, f1, f3]
    cases elemB r <;> cases scalB s <;> simp
theorem mulP_cancel {a b t : Nat} (ht : El t) (ha : a < 4611686018427377339) (hb : b < 4611686018427377339) (h : mulP a t = mulP b t) : a = b := by
  have h1 : mulP (mulP a t) (powP t 2305843009213688668) = mulP (mulP b t) (powP t 2305843009213688668) := by rw [h]
  rwa [mulP_assoc, mulP_assoc, El.inv ht, mulP_one ha, mulP_one hb] at h1
theorem sub_addQ {a b : Nat} (ha : a < 2305843009213688669) (hb : b < 2305843009213688669) : addQ (subQ a b) b = a := by
  unfold subQ addQ; split <;> omega
theorem add_subQ {a b : Nat} (ha : a < 2305843009213688669) (hb : b < 2305843009213688669) : subQ (addQ a b) b = a := by
  unfold subQ addQ; split <;> omega
theorem powP_addQ {a : Nat} (h : El a) (j k : Nat) : powP a (addQ j k) = mulP (powP a j) (powP a k) := by
  unfold addQ; rw [El.pow_mod h, powP_add]
/-- the difference of two signatures -/
theorem sig_diff (x : Nat) (m n : List UInt8) : powP 4 (subQ (sigS x m) (sigS x n)) =
    mulP (mulP (sigR x m) (powP (sigR x n) 2305843009213688668)) (powP (pubM x) (subQ (chal (pubM x) (sigR x m) m) (chal (pubM x) (sigR x n) n))) := by
  have e := pow4_El (sigS x n)
  have ep : El (pubM x) := pow4_El x
  have er : El (sigR x n) := pow4_El _
  refine mulP_cancel e (powP_lt _ _) (mulP_lt _ _) ?_
  rw [← pow4_add, sub_addQ (sigS_lt _ _) (sigS_lt _ _), sig_eq x m, sig_eq x n]
  have h1 := sub_addQ (a := chal (pubM x) (sigR x m) m) (b := chal (pubM x) (sigR x n) n) (chal_bd _ _ _).2 (chal_bd _ _ _).2
  obtain ⟨u, hu⟩ : ∃ u, chal (pubM x) (sigR x m) m = u := ⟨_, rfl⟩
  obtain ⟨v, hv⟩ : ∃ v, chal (pubM x) (sigR x n) n = v := ⟨_, rfl⟩
  rw [hu, hv] at h1 ⊢
  obtain ⟨P, hP⟩ : ∃ P, pubM x = P := ⟨_, rfl⟩
  obtain ⟨R, hR⟩ : ∃ R, sigR x n = R := ⟨_, rfl⟩
  obtain ⟨S, hS⟩ : ∃ S, sigR x m = S := ⟨_, rfl⟩
  have eS : S < 4611686018427377339 := hS ▸ powP_lt _ _
  rw [hP] at ep; rw [hR] at er; rw [hP, hR, hS]
  have h2 : powP P u = mulP (powP P (subQ u v)) (powP P v) := by rw [← powP_addQ ep, h1]
  rw [h2]
  obtain ⟨I, hI⟩ : ∃ I, powP R 2305843009213688668 = I := ⟨_, rfl⟩
  have h3 : mulP R I = 1 := hI ▸ El.inv er
  rw [hI]
  obtain ⟨A, hA⟩ : ∃ A, powP P (subQ u v) = A := ⟨_, rfl⟩
  obtain ⟨B, hB⟩ : ∃ B, powP P v = B := ⟨_, rfl⟩
  rw [hA, hB]
  have h4 : mulP (mulP (mulP S I) A) (mulP R B) = mulP (mulP S (mulP R I)) (mulP A B) := by
    rw [mulP_assoc S I A, mulP_assoc S (mulP I A) (mulP R B), ← mulP_assoc (mulP I A) R B, mulP_comm (mulP I A) R, ← mulP_assoc R I A, mulP_assoc (mulP R I) A B, mulP_assoc S (mulP R I) (mulP A B)]
  rw [h4, h3, mulP_one eS]
theorem i64_add {S : Nat} (h : S < 2305843009213688669) : IntKind.i64.wrap ((S : Int) + 2305843009213688669) = (S : Int) + 2305843009213688669 := IntWalk.i64_in _ (by omega)
theorem i64_sub {S : Nat} (h : S < 2305843009213688669) : IntKind.i64.wrap ((S : Int) - 2305843009213688669) = (S : Int) - 2305843009213688669 := IntWalk.i64_in _ (by omega)
end Go.Proofs.YtmmppibbglacdaaDoor
