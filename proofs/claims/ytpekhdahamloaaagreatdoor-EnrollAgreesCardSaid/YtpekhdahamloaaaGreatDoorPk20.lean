/- The contracts of package group's inner functions: times, digits, power. The contracts of package group: Check, Mul, Inv, Exp, Base. The contracts of chartroomref04: sum, Product, Power, Check, Mul, Inv, Exp, Base, IsScalar, Square. chartroomlaw04.sane returns true: the chapter's examples. The contracts of package group at elements, by numbers; chartroomlaw04.element. The contracts of package field's inner functions: outside, product, power. The contracts of package field's binary and power. -/
import Derived.Test.YtpekhdahamloaaaGreatDoorPk15
import Derived.Test.YtpekhdahamloaaaGreatDoorPk11
import Derived.RangeFuncNested
import Derived.RangeFuncBound
import Derived.RangeFuncCalls
import Derived.RangeFuncLeaves
import Derived.Shelf.Abstract
import Derived.Shelf.RegionOpen
import Derived.WalkKit
import Derived.OwnWalkIn
import Derived.TacticsInMore
import Derived.LoopNIn
import Derived.LoopIn
set_option linter.unusedVariables false
set_option linter.unusedSimpArgs false
namespace Go.Proofs.YtpekhdahamloaaaGreatDoor
open Go.RowKit Go.Shelf

theorem keepsOthers_of_below {W W' : World} (h : Below W.heap.size W W') : KeepsOthers W W' :=
  ⟨h.size, fun k _ hk _ => (h.block k (Array.getElem?_eq_some_iff.1 hk).1).trans hk⟩

theorem mul_hi_lt {a b : Nat} (ha : a < 4611686018427377339) (hb : b < 4611686018427377339) : a * b / 18446744073709551616 < 1152921504606844330 := by
  have h : a * b ≤ 4611686018427377338 * 4611686018427377338 := Nat.mul_le_mul (by omega) (by omega)
  omega

set_option maxHeartbeats 400000 in
/-- group.times: the product modulo P. -/
theorem times_any (a b : Nat) (ha : a < 4611686018427377339) (hb : b < 4611686018427377339) (w : World) :
    Calls Tryz.prog 93 #[.int .u64 a, .int .u64 b] w fun e w' => e = .returned (.int .u64 ((mulP a b : Nat) : Int)) ∧ Below w.heap.size w w' := by
  have h1 := mul64_any a b (by omega) (by omega) w
  have h2 := mul_hi_lt ha hb
  have h3 := Nat.div_add_mod' (a * b) 18446744073709551616
  have h4 := Nat.mod_lt (a * b) (show 0 < 18446744073709551616 by decide)
  obtain ⟨hi, e1⟩ : ∃ x, a * b / 18446744073709551616 = x := ⟨_, rfl⟩
  obtain ⟨lo, e2⟩ : ∃ x, a * b % 18446744073709551616 = x := ⟨_, rfl⟩
  rw [e1, e2] at h1 h3
  rw [e1] at h2
  rw [e2] at h4
  have h5 := div64_any hi lo 4611686018427377339 (by omega) (by omega) h4 w
  rw [h3] at h5
  have e3 : a * b % 4611686018427377339 = mulP a b := rfl
  obtain ⟨q, e4⟩ : ∃ x, a * b / 4611686018427377339 = x := ⟨_, rfl⟩
  rw [e3, e4] at h5
  have H1 := Lib.hid h1
  have H5 := Lib.hid h5
  clear h1 h5 h3 e1 e2 e3 e4
  go_enter Tryz.func93, Tryz.ntmps93
  go_wp2_with fail
  refine (H1.out).mono ?_
  rintro e w' ⟨rfl, rfl⟩
  go_wp2_with fail
  refine (H5.out).mono ?_
  rintro e w' ⟨rfl, hb'⟩
  go_wp2_with fail
  go_ret
  exact ⟨rfl, hb'⟩

attribute [local go_sem] Oper.semAt_some

theorem upto_length {α : Type} (f : Nat → α) (k : Nat) : (upto f k).length = k := by simp [upto]
/-- what a round that goes on keeps: whatever lay below n0, and one box -/
def KeepBox (n0 Bk : Nat) (W W' : World) : Prop := Below n0 W W' ∧ W'.heap[Bk]? = W.heap[Bk]?
theorem KeepBox.refl (n0 Bk : Nat) (W : World) : KeepBox n0 Bk W W := ⟨Below.refl _ _, rfl⟩
theorem KeepBox.trans {n0 Bk : Nat} {A B C : World} (h : KeepBox n0 Bk A B) (k : KeepBox n0 Bk B C) : KeepBox n0 Bk A C := ⟨h.1.trans k.1, k.2.trans h.2⟩
theorem keepBox_b {n0 Bk : Nat} {w : World} (hn : n0 ≤ w.heap.size) (hB : Bk < w.heap.size) (W : World) (l : Nat) (o o' : Obj) (hl : w.heap.size ≤ l) (h : W.heap[l]? = some o) (h1 : o.isCells = false) (h2 : o.isWalk = false) : KeepBox n0 Bk W (W.putObj l o') :=
  ⟨belowK_b hn W l o o' hl h h1 h2, World.putObj_heap_other (by omega)⟩

set_option maxRecDepth 100000 in
set_option maxHeartbeats 1000000 in
/-- digits's closure: for every loop body that keeps the box of k. -/
theorem digits1_in (n : Nat) (hn : 1 ≤ n) (l Bk n0 k : Nat) (hk : k < 18446744073709551616) (J Jx : List Bool → World → Prop)
    (hY : ∀ pre x W, J pre W → pre.length < Lib.bitLen k → YieldAt Fence.wide (n - 1) Tryz.prog l #[.bool x] W fun e W' =>
      (e = .returned (.bool true) ∧ J (pre ++ [x]) W' ∧ KeepBox n0 Bk W W') ∨ (e = .returned (.bool false) ∧ Jx (pre ++ [x]) W'))
    (W : World) (hB : W.cell? ⟨Bk, 0, none⟩ = some (.int .u64 k)) (h0 : J [] W) :
    CallsIn Fence.wide n Tryz.prog 135 #[.func (.yield l) #[] #[], .pointer (some ⟨Bk, 0, none⟩)] W fun e W' => (∃ v, e = .returned v) ∧
      ((∃ ys, ys = upto (bitAt k (Lib.bitLen k)) (Lib.bitLen k) ∧ J ys W') ∨ (∃ pre, (∃ j, j ≤ Lib.bitLen k ∧ pre = upto (bitAt k (Lib.bitLen k)) j) ∧ Jx pre W')) := by
  have hlen := len64_any k W (by omega) (by omega)
  rw [Int.toNat_natCast] at hlen
  have hL := bitLen_le64 (k : Int) (by omega) (by omega)
  rw [Int.toNat_natCast] at hL
  have Hlen := Lib.hid hlen
  clear hlen
  generalize Lib.bitLen k = L at *
  refine callsIn_of_wp Tryz.func135 rfl trivial ?_ rfl
  simp only [Tryz.ntmps135, List.size_toArray, List.length_cons, List.length_nil, Nat.reduceAdd, Nat.reduceSub, Array.replicate_succ, Array.replicate_zero, List.push_toArray, List.append_toArray, List.nil_append, List.cons_append]
  gi_wp2_with (refine ⟨trivial, ?_⟩; gi_at_call 136; refine (callsIn_wide.2 (Hlen.out)).mono ?_; rintro e w' ⟨rfl, rfl⟩)
  gi_loopw [3] (fun i wr => ∃ m : Nat, m ≤ L ∧ i = .int .i64 ((m : Int) - 1) ∧ J (upto (bitAt k L) (L - m)) wr ∧ KeepBox n0 Bk W wr) (fun i _ => (intOf i + 1).toNat)
  case atStart => exact ⟨L, Nat.le_refl _, rfl, by rw [Nat.sub_self]; exact h0, KeepBox.refl _ _ _⟩
  case round =>
    obtain ⟨m, hm, rfl, hJs, hkb⟩ := hrel
    have hB2 : wr.cell? ⟨Bk, 0, none⟩ = some (.int .u64 k) := (World.cell?_of_block (w := W) (a := ⟨Bk, 0, none⟩) hkb.2).trans hB
    clear hB
    cases m with
    | zero =>
      gi_wp2
      go_end0
      exact ⟨⟨_, rfl⟩, .inl ⟨_, rfl, by simpa using hJs⟩⟩
    | succ m =>
      have em : ((m + 1 : Nat) : Int) - 1 = (m : Int) := by omega
      rw [em]
      have rmin : min m 64 = m := by omega
      have hq2 : k / 2 ^ m < 18446744073709551616 := Nat.lt_of_le_of_lt (Nat.div_le_self _ _) hk
      obtain ⟨q, hq⟩ : ∃ q, k / 2 ^ m = q := ⟨_, rfl⟩
      have rq : (k : Int) / 2 ^ m = (q : Int) := by rw [← hq]; push_cast; rfl
      rw [hq] at hq2
      have hidx : L - 1 - (L - (m + 1)) = m := by omega
      have hnext : upto (bitAt k L) (L - m) = upto (bitAt k L) (L - (m + 1)) ++ [decide (q % 2 = 1)] := by
        rw [show L - m = (L - (m + 1)) + 1 from by omega, upto_succ]
        congr 2
        unfold bitAt; rw [hidx, hq]
      have rand : bits .and .u64 (q : Int) 1 = ((q % 2 : Nat) : Int) := by
        have h := bits_and_u64_nat q 1 hq2 (by omega)
        rw [Nat.and_one_is_mod] at h; exact h
      have Hnext := Lib.hid hnext
      clear hnext hq hidx em
      by_cases hbit : q % 2 = 1
      · have rand1 : bits .and .u64 (q : Int) 1 = 1 := by rw [rand, hbit]; rfl
        have hd : decide (q % 2 = 1) = true := by rw [hbit]; rfl
        have Hn2 := Hnext.out
        rw [hd] at Hn2
        have HN2 := Lib.hid Hn2
        obtain ⟨fn, tmps, assign, body, hy, hR⟩ := hY _ true wr hJs (by rw [upto_length]; omega)
        clear rand hbit hd Hn2 Hnext
        gi_wp2
        refine hR.mono ?_
        rintro e W3 (⟨rfl, hJ3, hk3⟩ | ⟨rfl, hJx3⟩)
        · gi_wp2
          go_roundw
          case rel => exact ⟨m, by omega, rfl, by rw [HN2.out]; exact hJ3, hkb.trans hk3⟩
          case measure => simp [intOf]
        · gi_wp2
          refine bodyPost_ret (results_none rfl _ _ _) rfl ?_
          exact ⟨⟨_, rfl⟩, .inr ⟨_, ⟨L - m, by omega, HN2.out.symm⟩, hJx3⟩⟩
      · have hbit : q % 2 = 0 := by omega
        have rand1 : bits .and .u64 (q : Int) 1 = 0 := by rw [rand, hbit]; rfl
        have hd : decide (q % 2 = 1) = false := by rw [hbit]; rfl
        have Hn2 := Hnext.out
        rw [hd] at Hn2
        have HN2 := Lib.hid Hn2
        obtain ⟨fn, tmps, assign, body, hy, hR⟩ := hY _ false wr hJs (by rw [upto_length]; omega)
        clear rand hbit hd Hn2 Hnext
        gi_wp2
        refine hR.mono ?_
        rintro e W3 (⟨rfl, hJ3, hk3⟩ | ⟨rfl, hJx3⟩)
        · gi_wp2
          go_roundw
          case rel => exact ⟨m, by omega, rfl, by rw [HN2.out]; exact hJ3, hkb.trans hk3⟩
          case measure => simp [intOf]
        · gi_wp2
          refine bodyPost_ret (results_none rfl _ _ _) rfl ?_
          exact ⟨⟨_, rfl⟩, .inr ⟨_, ⟨L - m, by omega, HN2.out.symm⟩, hJx3⟩⟩


theorem digits_stops (n : Nat) (hn : 1 ≤ n) (Bk n0 k : Nat) (hk : k < 18446744073709551616) (w : World) (hBk : Bk < w.heap.size) (hc : w.cell? ⟨Bk, 0, none⟩ = some (.int .u64 k)) :
    SeqStopsK Fence.wide n Tryz.prog 135 #[.pointer (some ⟨Bk, 0, none⟩)] (fun x : Bool => #[Value.bool x]) (KeepBox n0 Bk) (fun ys => ys = upto (bitAt k (Lib.bitLen k)) (Lib.bitLen k)) (fun _ => True) (Lib.bitLen k) w := fun l J Jx W hW _ _ hY h0 => by
  have hc' := (hW.cell (p := ⟨Bk, 0, none⟩) hBk).trans hc
  refine (digits1_in n hn l Bk n0 k hk J Jx hY W hc' h0).mono ?_
  rintro e W' ⟨he, ⟨ys, rfl, hj⟩ | ⟨pre, _, hj⟩⟩
  · exact ⟨he, .inl ⟨_, rfl, hj⟩⟩
  · exact ⟨he, .inr ⟨_, trivial, hj⟩⟩

/-- digits: the number is boxed; the function value captures the box. -/
theorem digits_any (k : Nat) (w : World) :
    Calls Tryz.prog 92 #[.int .u64 k] w fun e w' => e = .returned (.func (.func 135) #[] #[.pointer (some ⟨w.heap.size, 0, none⟩)]) ∧ w' = w.alloc (.cells #[.int .u64 k] 94) := by
  go_enter Tryz.func92, Tryz.ntmps92
  go_wp2
  go_ret
  exact ⟨rfl, rfl⟩

theorem bitLen_lt (k : Nat) (hk : k < 18446744073709551616) : k < 2 ^ Lib.bitLen k := (DivLaw.aux_lt 64 k hk).1

set_option maxRecDepth 100000 in
set_option maxHeartbeats 1000000 in
/-- group.power: the power modulo P. -/
theorem powerP_any (a k : Nat) (ha : a < 4611686018427377339) (hk : k < 18446744073709551616) (w : World) :
    Calls Tryz.prog 49 #[.int .u64 a, .int .u64 k] w fun e w' => e = .returned (.int .u64 ((powP a k : Nat) : Int)) ∧ Below w.heap.size w w' := by
  rw [← runP a k (Lib.bitLen k) (bitLen_lt k hk)]
  refine (callsIn_wide (n := 3)).1 ?_
  refine callsIn_of_wp_marks Tryz.func49 rfl trivial ?_ rfl
  simp only [Tryz.ntmps49, List.size_toArray, List.length_cons, List.length_nil, Nat.reduceAdd, Nat.reduceSub, Array.replicate_succ, Array.replicate_zero, List.push_toArray, List.append_toArray, List.nil_append, List.cons_append]
  gi_wp2_with (refine ⟨trivial, ?_⟩; gi_at_call 92; refine (callsIn_wide.2 (digits_any k _)).mono ?_; rintro e w' ⟨rfl, rfl⟩)
  have ba := ((Boxed.new w 94 (.int .u64 a)).alloc (.cells #[.int .u64 1] 94)).alloc (.cells #[.int .u64 k] 94)
  have bc := (Boxed.new (w.alloc (.cells #[.int .u64 a] 94)) 94 (.int .u64 1)).alloc (.cells #[.int .u64 k] 94)
  have bk := (Boxed.new ((w.alloc (.cells #[.int .u64 a] 94)).alloc (.cells #[.int .u64 1] 94)) 94 (.int .u64 k)).cell
  have hB0 : Below w.heap.size w (((w.alloc (.cells #[.int .u64 a] 94)).alloc (.cells #[.int .u64 1] 94)).alloc (.cells #[.int .u64 k] 94)) := (((Below.refl _ w).alloc (Nat.le_refl _) _).alloc (by simp) _).alloc (by simp; omega) _
  simp only [World.size_alloc] at bc bk
  obtain ⟨W0, hW0⟩ : ∃ W0, ((w.alloc (.cells #[.int .u64 a] 94)).alloc (.cells #[.int .u64 1] 94)).alloc (.cells #[.int .u64 k] 94) = W0 := ⟨_, rfl⟩
  have hsz : W0.heap.size = w.heap.size + 3 := by rw [← hW0]; simp
  rw [hW0] at ba bc bk hB0 ⊢
  clear hW0
  refine wpIn_rangeFunc_ownF rfl (by omega) (gf := 135) (lb := #[.pointer (some ⟨w.heap.size + 1 + 1, 0, none⟩)]) rfl trivial (enters_of Tryz.func135 (by kernel_rfl) rfl)
    (digits_stops 2 (by omega) (w.heap.size + 1 + 1) w.heap.size k hk W0 (by omega) bk) KeepBox.trans (keepBox_b (by omega) (by omega)) (Below.refl _ _) (fun _ => rfl)
    (fun pre W => (Boxed W w.heap.size 94 (.int .u64 a) ∧ Boxed W (w.heap.size + 1) 94 (.int .u64 ((run mulP a pre : Nat) : Int))) ∧ Below w.heap.size W0 W)
    (fun _ _ _ => False)
    (OwnFrom.and (OwnFrom.and (Own.from (boxed_own _ _ _) _) (Own.from (boxed_own _ _ _) _)) (ownFrom_below (by omega) (by omega)))
    (fun _ _ _ _ _ hs _ _ => hs)
    ⟨⟨ba, bc⟩, Below.refl _ _⟩
    (fun x => { tmps := #[.int .u64 a, .int .u64 k, .pointer (some ⟨w.heap.size, 0, none⟩), undef, .int .u64 0, .pointer (some ⟨w.heap.size + 1, 0, none⟩), .bool x, .int .u64 k, .func (.func 135) #[] #[.pointer (some ⟨w.heap.size + 1 + 1, 0, none⟩)], .bool x, undef, undef, undef, undef, undef, undef, undef, undef], defers := [] }) ?assign ?body ?done ?stop
  case assign =>
    intro l x W K hK
    gi_wp2
    exact hK
  case body =>
    rintro l pre x W ⟨⟨hba, hbc⟩, hB⟩ _
    have hlt := runP_lt a pre
    have hca := hba.cell
    have hcc := hbc.cell
    have hsW := hB.size
    have hm1 := mulP_lt (run mulP a pre) (run mulP a pre)
    have hstep : step mulP a (run mulP a pre) x = run mulP a (pre ++ [x]) := (run_snoc _ _ _ _).symm
    have Hstep := Lib.hid hstep
    clear hstep
    gi_wp2_with fail
    refine ⟨trivial, ?_⟩
    refine (CallsIn.inRound l (callsIn_wide.2 (times_any _ _ hlt hlt _))).mono ?_
    rintro e W1 ⟨rfl, hb1⟩
    have hba1 : Boxed W1 w.heap.size 94 (.int .u64 a) := (hb1.block _ hba.lt).trans hba
    have hbc1 : Boxed W1 (w.heap.size + 1) 94 _ := (hb1.block _ hbc.lt).trans hbc
    have hcc1 := hbc1.cell
    have hfc1 := hbc1.frozen
    clear hca hcc
    have hba2 := hba1.other (B' := w.heap.size + 1) (by omega) (.int .u64 ((mulP (run mulP a pre) (run mulP a pre) : Nat) : Int))
    have hbc2 := hbc1.set (.int .u64 ((mulP (run mulP a pre) (run mulP a pre) : Nat) : Int))
    have hca2 := hba2.cell
    have hcc2 := hbc2.cell
    have hfc2 := hbc2.frozen
    have hk1 : KeepBox w.heap.size (w.heap.size + 1 + 1) W (W1.setCell ⟨w.heap.size + 1, 0, none⟩ (.int .u64 ((mulP (run mulP a pre) (run mulP a pre) : Nat) : Int))) :=
      ⟨(hb1.mono (by omega)).setCell (p := ⟨w.heap.size + 1, 0, none⟩) (by simp) _, (Below.heap_setCell _ _ _ _ (by simp)).trans (hb1.block _ (by omega))⟩
    have hko1 := (keepsOthers_of_below hb1).trans (KeepsOthers.setCell W1 ⟨w.heap.size + 1, 0, none⟩ (.int .u64 ((mulP (run mulP a pre) (run mulP a pre) : Nat) : Int)))
    cases x with
    | false =>
      gi_wp2_with fail
      exact ⟨hko1, hk1, ⟨⟨hba2, by rw [← Hstep.out]; exact hbc2⟩, hB.trans hk1.1⟩⟩
    | true =>
      gi_wp2_with fail
      refine ⟨trivial, ?_⟩
      refine (CallsIn.inRound l (callsIn_wide.2 (times_any _ _ hm1 ha _))).mono ?_
      rintro e W2 ⟨rfl, hb2⟩
      have hba3 : Boxed W2 w.heap.size 94 (.int .u64 a) := (hb2.block _ hba2.lt).trans hba2
      have hbc3 : Boxed W2 (w.heap.size + 1) 94 _ := (hb2.block _ hbc2.lt).trans hbc2
      have hcc3 := hbc3.cell
      have hfc3 := hbc3.frozen
      clear hca2 hcc2 hfc2 hcc1 hfc1
      have hba4 := hba3.other (B' := w.heap.size + 1) (by omega) (.int .u64 ((mulP (mulP (run mulP a pre) (run mulP a pre)) a : Nat) : Int))
      have hbc4 := hbc3.set (.int .u64 ((mulP (mulP (run mulP a pre) (run mulP a pre)) a : Nat) : Int))
      have hsz2 : W.heap.size ≤ (W1.setCell ⟨w.heap.size + 1, 0, none⟩ (.int .u64 ((mulP (run mulP a pre) (run mulP a pre) : Nat) : Int))).heap.size := hk1.1.size
      have hk2 := hk1.trans (⟨(hb2.mono (by omega)).setCell (p := ⟨w.heap.size + 1, 0, none⟩) (by simp) _, (Below.heap_setCell _ _ _ _ (by simp)).trans (hb2.block _ (by omega))⟩ : KeepBox w.heap.size (w.heap.size + 1 + 1) _ (W2.setCell ⟨w.heap.size + 1, 0, none⟩ (.int .u64 ((mulP (mulP (run mulP a pre) (run mulP a pre)) a : Nat) : Int))))
      have hko2 := (hko1.trans (keepsOthers_of_below hb2)).trans (KeepsOthers.setCell W2 ⟨w.heap.size + 1, 0, none⟩ (.int .u64 ((mulP (mulP (run mulP a pre) (run mulP a pre)) a : Nat) : Int)))
      gi_wp2_with fail
      exact ⟨hko2, hk2, ⟨⟨hba4, by rw [← Hstep.out]; exact hbc4⟩, hB.trans hk2.1⟩⟩
  case done =>
    rintro D ys W hD rfl ⟨⟨_, hbc⟩, hB⟩ hK
    have hcc := hbc.cell
    gi_wp2
    refine ⟨by simp, .inl ⟨_, _, rfl, run_takeDeferred hK, ?_⟩⟩
    exact ⟨_, results_tmp rfl _ _ _, rfl, (hB0.trans hB).trans (belowK_b (w := w) (Nat.le_refl _) W D _ _ (by omega) hK rfl rfl)⟩
  case stop =>
    rintro D c pre W _ _ h _
    exact h.elim

end Go.Proofs.YtpekhdahamloaaaGreatDoor

namespace Go.Proofs.YtpekhdahamloaaaGreatDoor
open Go.RowKit Go.Shelf

/-- a number is an element of the group -/
def elemB (a : Int) : Bool := decide (1 ≤ a ∧ a < 4611686018427377339 ∧ powP a.toNat 2305843009213688669 = 1)
theorem elemB_nat {a : Int} (h : elemB a = true) : ∃ n : Nat, a = (n : Int) ∧ 1 ≤ n ∧ n < 4611686018427377339 ∧ powP n 2305843009213688669 = 1 := by
  unfold elemB at h
  obtain ⟨h1, h2, h3⟩ := of_decide_eq_true h
  exact ⟨a.toNat, by omega, by omega, by omega, h3⟩
theorem elemB_of {n : Nat} (h1 : 1 ≤ n) (h2 : n < 4611686018427377339) (h3 : powP n 2305843009213688669 = 1) : elemB (n : Int) = true := by
  unfold elemB; exact decide_eq_true ⟨by omega, by omega, by rw [Int.toNat_natCast]; exact h3⟩

set_option maxHeartbeats 400000 in
theorem check_yes (n : Nat) (h1 : 1 ≤ n) (h2 : n < 4611686018427377339) (h3 : powP n 2305843009213688669 = 1) (w : World) :
    Calls Tryz.prog 22 #[.int .i64 n] w fun e w' => e = .returned (.int .i64 0) ∧ Below w.heap.size w w' := by
  have hc : Calls Tryz.prog 49 #[.int .u64 n, .int .u64 2305843009213688669] w fun e w' => e = .returned (.int .u64 ((powP n 2305843009213688669 : Nat) : Int)) ∧ Below w.heap.size w w' := powerP_any n 2305843009213688669 h2 (by decide) w
  rw [h3] at hc
  have Hc := Lib.hid hc
  have g1 : decide ((n : Int) < 1) = false := by rw [decide_eq_false_iff_not]; omega
  have g2 : decide ((4611686018427377339 : Int) ≤ (n : Int)) = false := by rw [decide_eq_false_iff_not]; omega
  have g4 : (n : Int) ≤ 9223372036854775807 := by omega
  clear hc h3 h1 h2
  go_enter Tryz.func22, Tryz.ntmps22
  go_wp2_with fail
  refine (Hc.out).mono ?_
  rintro e w' ⟨rfl, hb⟩
  go_wp2_with fail
  go_ret
  exact ⟨rfl, hb⟩

set_option maxHeartbeats 400000 in
theorem check_no (a : Int) (h : elemB a = false) (w : World) :
    Calls Tryz.prog 22 #[.int .i64 a] w fun e w' => e = .returned (.int .i64 40) ∧ Below w.heap.size w w' := by
  by_cases h1 : a < 1
  · have g1 : decide (a < 1) = true := by simp; omega
    clear h h1
    go_enter Tryz.func22, Tryz.ntmps22
    go_wp2_with fail
    go_ret
    exact ⟨rfl, Below.refl _ _⟩
  · by_cases h2 : a < 4611686018427377339
    · obtain ⟨n, rfl⟩ : ∃ n : Nat, a = (n : Int) := ⟨a.toNat, by omega⟩
      have hn2 : n < 4611686018427377339 := by omega
      have h3 : ¬ powP n 2305843009213688669 = 1 := fun h3 => by
        rw [elemB_of (by omega) hn2 h3] at h; cases h
      have hc : Calls Tryz.prog 49 #[.int .u64 n, .int .u64 2305843009213688669] w fun e w' => e = .returned (.int .u64 ((powP n 2305843009213688669 : Nat) : Int)) ∧ Below w.heap.size w w' := powerP_any n 2305843009213688669 hn2 (by decide) w
      have Hc := Lib.hid hc
      have g1 : decide ((n : Int) < 1) = false := by rw [decide_eq_false_iff_not]; omega
      have g2 : decide ((4611686018427377339 : Int) ≤ (n : Int)) = false := by rw [decide_eq_false_iff_not]; omega
      have g4 : (n : Int) ≤ 9223372036854775807 := by omega
      have g3 : (((powP n 2305843009213688669 : Nat) : Int) != 1) = true := by rw [bne_iff_ne]; omega
      obtain ⟨p, hp⟩ : ∃ p, powP n 2305843009213688669 = p := ⟨_, rfl⟩
      rw [hp] at Hc g3
      clear hc h h3 hp h1 h2 hn2
      go_enter Tryz.func22, Tryz.ntmps22
      go_wp2_with fail
      refine (Hc.out).mono ?_
      rintro e w' ⟨rfl, hb⟩
      go_wp2_with fail
      go_ret
      exact ⟨rfl, hb⟩
    · have g1 : decide (a < 1) = false := by rw [decide_eq_false_iff_not]; omega
      have g2 : decide ((4611686018427377339 : Int) ≤ a) = true := by rw [decide_eq_true_iff]; omega
      clear h h1 h2
      go_enter Tryz.func22, Tryz.ntmps22
      go_wp2_with fail
      go_ret
      exact ⟨rfl, Below.refl _ _⟩

/-- the error of Check -/
def chk (a : Int) : Int := if elemB a then 0 else 40
theorem check_any (a : Int) (w : World) :
    Calls Tryz.prog 22 #[.int .i64 a] w fun e w' => e = .returned (.int .i64 (chk a)) ∧ Below w.heap.size w w' := by
  cases h : elemB a with
  | true =>
    obtain ⟨n, rfl, h1, h2, h3⟩ := elemB_nat h
    unfold chk; rw [h]; exact check_yes n h1 h2 h3 w
  | false => unfold chk; rw [h]; exact check_no a h w

theorem chk_01 (a : Int) : chk a = 0 ∨ chk a = 40 := by unfold chk; cases elemB a <;> simp

set_option maxHeartbeats 400000 in
/-- group.Mul of two elements -/
theorem gmul_yes (a b : Nat) (ha1 : 1 ≤ a) (ha2 : a < 4611686018427377339) (ha3 : powP a 2305843009213688669 = 1) (hb1 : 1 ≤ b) (hb2 : b < 4611686018427377339) (hb3 : powP b 2305843009213688669 = 1) (w : World) :
    Calls Tryz.prog 56 #[.int .i64 a, .int .i64 b] w fun e w' => e = .returned (.tuple #[.int .i64 ((mulP a b : Nat) : Int), .int .i64 0]) ∧ Below w.heap.size w w' := by
  have i0 : ∀ w, (Instr.index 154 (.agg #[.int .i64 (a : Int), .int .i64 (b : Int)]) (.int .i64 0)).run Tryz.prog w = .ok (.int .i64 (a : Int)) w := fun _ => by kernel_rfl
  have i1 : ∀ w, (Instr.index 154 (.agg #[.int .i64 (a : Int), .int .i64 (b : Int)]) (.int .i64 1)).run Tryz.prog w = .ok (.int .i64 (b : Int)) w := fun _ => by kernel_rfl
  have hm := mulP_lt a b
  have g4 : (a : Int) ≤ 9223372036854775807 := by omega
  have g5 : (b : Int) ≤ 9223372036854775807 := by omega
  have g6 : ((mulP a b : Nat) : Int) ≤ 9223372036854775807 := by omega
  have Ha := Lib.hid ha3
  have Hb := Lib.hid hb3
  have Ha2 := Lib.hid ha2
  have Hb2 := Lib.hid hb2
  clear ha3 hb3 ha2 hb2 hm
  go_enter Tryz.func56, Tryz.ntmps56
  go_wp2_with fail
  refine wp_loop_rounds 3 ?_
  rw [rounds_succ]
  go_wp2_with fail
  refine (check_yes a ha1 Ha2.out Ha.out _).mono ?_
  rintro e w1 ⟨rfl, hb1'⟩
  go_wp2_with fail
  rw [rounds_succ]
  go_wp2_with fail
  refine (check_yes b hb1 Hb2.out Hb.out _).mono ?_
  rintro e w2 ⟨rfl, hb2'⟩
  go_wp2_with fail
  rw [rounds_succ]
  go_wp2_with fail
  refine (times_any a b Ha2.out Hb2.out _).mono ?_
  rintro e w3 ⟨rfl, hb3'⟩
  go_wp2_with fail
  go_ret2
  exact ⟨rfl, hb1'.trans ((hb2'.mono hb1'.size).trans (hb3'.mono (Nat.le_trans hb1'.size hb2'.size)))⟩

set_option maxHeartbeats 400000 in
/-- group.Mul where the first is no element -/
theorem gmul_no1 (a b : Int) (ha : elemB a = false) (w : World) :
    Calls Tryz.prog 56 #[.int .i64 a, .int .i64 b] w fun e w' => e = .returned (.tuple #[.int .i64 0, .int .i64 40]) ∧ Below w.heap.size w w' := by
  have i0 : ∀ w, (Instr.index 154 (.agg #[.int .i64 a, .int .i64 b]) (.int .i64 0)).run Tryz.prog w = .ok (.int .i64 a) w := fun _ => by kernel_rfl
  have Ha := Lib.hid ha
  clear ha
  go_enter Tryz.func56, Tryz.ntmps56
  go_wp2_with fail
  refine wp_loop_rounds 3 ?_
  rw [rounds_succ]
  go_wp2_with fail
  refine (check_no a Ha.out _).mono ?_
  rintro e w1 ⟨rfl, hb1'⟩
  go_wp2_with fail
  go_ret2
  exact ⟨rfl, hb1'⟩

set_option maxHeartbeats 400000 in
/-- group.Mul where the second is no element -/
theorem gmul_no2 (a b : Int) (ha : elemB a = true) (hb : elemB b = false) (w : World) :
    Calls Tryz.prog 56 #[.int .i64 a, .int .i64 b] w fun e w' => e = .returned (.tuple #[.int .i64 0, .int .i64 40]) ∧ Below w.heap.size w w' := by
  have i0 : ∀ w, (Instr.index 154 (.agg #[.int .i64 a, .int .i64 b]) (.int .i64 0)).run Tryz.prog w = .ok (.int .i64 a) w := fun _ => by kernel_rfl
  have i1 : ∀ w, (Instr.index 154 (.agg #[.int .i64 a, .int .i64 b]) (.int .i64 1)).run Tryz.prog w = .ok (.int .i64 b) w := fun _ => by kernel_rfl
  have ca : ∀ w, Calls Tryz.prog 22 #[.int .i64 a] w fun e w' => e = .returned (.int .i64 0) ∧ Below w.heap.size w w' := fun w => by
    have := check_any a w; unfold chk at this; rwa [ha] at this
  have Ca := Lib.hid ca
  have Hb := Lib.hid hb
  clear ha hb ca
  go_enter Tryz.func56, Tryz.ntmps56
  go_wp2_with fail
  refine wp_loop_rounds 3 ?_
  rw [rounds_succ]
  go_wp2_with fail
  refine (Ca.out _).mono ?_
  rintro e w1 ⟨rfl, hb1'⟩
  go_wp2_with fail
  rw [rounds_succ]
  go_wp2_with fail
  refine (check_no b Hb.out _).mono ?_
  rintro e w2 ⟨rfl, hb2'⟩
  go_wp2_with fail
  go_ret2
  exact ⟨rfl, hb1'.trans (hb2'.mono hb1'.size)⟩

/-! ### Exp, Inv, Base -/
set_option maxHeartbeats 400000 in
theorem gexp_yes (a k : Nat) (ha1 : 1 ≤ a) (ha2 : a < 4611686018427377339) (ha3 : powP a 2305843009213688669 = 1) (hk : k < 2305843009213688669) (w : World) :
    Calls Tryz.prog 57 #[.int .i64 a, .int .i64 k] w fun e w' => e = .returned (.tuple #[.int .i64 ((powP a k : Nat) : Int), .int .i64 0]) ∧ Below w.heap.size w w' := by
  have hm := powP_lt a k
  have g4 : (a : Int) ≤ 9223372036854775807 := by omega
  have g5 : (k : Int) ≤ 9223372036854775807 := by omega
  have g6 : ((powP a k : Nat) : Int) ≤ 9223372036854775807 := by omega
  have g1 : decide ((k : Int) < 0) = false := by rw [decide_eq_false_iff_not]; omega
  have g2 : decide ((2305843009213688669 : Int) ≤ (k : Int)) = false := by rw [decide_eq_false_iff_not]; omega
  have Ha := Lib.hid ha3
  have Ha2 := Lib.hid ha2
  have Hk := Lib.hid hk
  clear ha3 ha2 hk hm
  go_enter Tryz.func57, Tryz.ntmps57
  go_wp2_with fail
  refine (check_yes a ha1 Ha2.out Ha.out _).mono ?_
  rintro e w1 ⟨rfl, hb1'⟩
  go_wp2_with fail
  refine (powerP_any a k Ha2.out (Nat.lt_trans Hk.out (by decide)) _).mono ?_
  rintro e w2 ⟨rfl, hb2'⟩
  go_wp2_with fail
  go_ret2
  exact ⟨rfl, hb1'.trans (hb2'.mono hb1'.size)⟩

set_option maxHeartbeats 400000 in
theorem gexp_no (a k : Int) (ha : elemB a = false) (w : World) :
    Calls Tryz.prog 57 #[.int .i64 a, .int .i64 k] w fun e w' => e = .returned (.tuple #[.int .i64 0, .int .i64 40]) ∧ Below w.heap.size w w' := by
  have Ha := Lib.hid ha
  clear ha
  go_enter Tryz.func57, Tryz.ntmps57
  go_wp2_with fail
  refine (check_no a Ha.out _).mono ?_
  rintro e w1 ⟨rfl, hb1'⟩
  go_wp2_with fail
  go_ret2
  exact ⟨rfl, hb1'⟩

/-- a number is a scalar -/
def scalB (k : Int) : Bool := decide (0 ≤ k ∧ k < 2305843009213688669)
theorem scalB_nat {k : Int} (h : scalB k = true) : ∃ n : Nat, k = (n : Int) ∧ n < 2305843009213688669 := by
  unfold scalB at h
  obtain ⟨h1, h2⟩ := of_decide_eq_true h
  exact ⟨k.toNat, by omega, by omega⟩
theorem scalB_of {n : Nat} (h : n < 2305843009213688669) : scalB (n : Int) = true := by unfold scalB; exact decide_eq_true ⟨by omega, by omega⟩
theorem scalB_no {k : Int} (h : scalB k = false) : k < 0 ∨ 2305843009213688669 ≤ k := by
  unfold scalB at h
  have := of_decide_eq_false h
  omega

set_option maxHeartbeats 400000 in
theorem gexp_noscalar (a k : Int) (ha : elemB a = true) (hk : scalB k = false) (w : World) :
    Calls Tryz.prog 57 #[.int .i64 a, .int .i64 k] w fun e w' => e = .returned (.tuple #[.int .i64 0, .int .i64 1]) ∧ Below w.heap.size w w' := by
  have ca : ∀ w, Calls Tryz.prog 22 #[.int .i64 a] w fun e w' => e = .returned (.int .i64 0) ∧ Below w.heap.size w w' := fun w => by
    have := check_any a w; unfold chk at this; rwa [ha] at this
  have Ca := Lib.hid ca
  rcases scalB_no hk with h | h
  · have g1 : decide (k < 0) = true := by rw [decide_eq_true_iff]; omega
    clear ha hk ca h
    go_enter Tryz.func57, Tryz.ntmps57
    go_wp2_with fail
    refine (Ca.out _).mono ?_
    rintro e w1 ⟨rfl, hb1'⟩
    go_wp2_with fail
    go_ret2
    exact ⟨rfl, hb1'⟩
  · have g1 : decide (k < 0) = false := by rw [decide_eq_false_iff_not]; omega
    have g2 : decide ((2305843009213688669 : Int) ≤ k) = true := by rw [decide_eq_true_iff]; omega
    clear ha hk ca h
    go_enter Tryz.func57, Tryz.ntmps57
    go_wp2_with fail
    refine (Ca.out _).mono ?_
    rintro e w1 ⟨rfl, hb1'⟩
    go_wp2_with fail
    go_ret2
    exact ⟨rfl, hb1'⟩

/-- what Mul, Exp, Inv, Base answer: the number and the error -/
def gmulV (a b : Int) : Int := if elemB a && elemB b then ((mulP a.toNat b.toNat : Nat) : Int) else 0
def gmulE (a b : Int) : Int := if elemB a && elemB b then 0 else 40
def gexpV (a k : Int) : Int := if elemB a && scalB k then ((powP a.toNat k.toNat : Nat) : Int) else 0
def gexpE (a k : Int) : Int := if elemB a then (if scalB k then 0 else 1) else 40

theorem gmul_any (a b : Int) (w : World) :
    Calls Tryz.prog 56 #[.int .i64 a, .int .i64 b] w fun e w' => e = .returned (.tuple #[.int .i64 (gmulV a b), .int .i64 (gmulE a b)]) ∧ Below w.heap.size w w' := by
  unfold gmulV gmulE
  cases ha : elemB a with
  | false => exact gmul_no1 a b ha w
  | true =>
    cases hb : elemB b with
    | false => exact gmul_no2 a b ha hb w
    | true =>
      obtain ⟨n, rfl, h1, h2, h3⟩ := elemB_nat ha
      obtain ⟨m, rfl, k1, k2, k3⟩ := elemB_nat hb
      exact gmul_yes n m h1 h2 h3 k1 k2 k3 w

theorem gexp_any (a k : Int) (w : World) :
    Calls Tryz.prog 57 #[.int .i64 a, .int .i64 k] w fun e w' => e = .returned (.tuple #[.int .i64 (gexpV a k), .int .i64 (gexpE a k)]) ∧ Below w.heap.size w w' := by
  unfold gexpV gexpE
  cases ha : elemB a with
  | false => exact gexp_no a k ha w
  | true =>
    cases hk : scalB k with
    | false => exact gexp_noscalar a k ha hk w
    | true =>
      obtain ⟨n, rfl, h1, h2, h3⟩ := elemB_nat ha
      obtain ⟨m, rfl, k1⟩ := scalB_nat hk
      exact gexp_yes n m h1 h2 h3 k1 w

theorem ginv_any (a : Int) (w : World) :
    Calls Tryz.prog 54 #[.int .i64 a] w fun e w' => e = .returned (.tuple #[.int .i64 (gexpV a 2305843009213688668), .int .i64 (gexpE a 2305843009213688668)]) ∧ Below w.heap.size w w' := by
  go_enter Tryz.func54, Tryz.ntmps54
  go_wp2_with fail
  refine (gexp_any a 2305843009213688668 _).mono ?_
  rintro e w1 ⟨rfl, hb1'⟩
  go_wp2_with fail
  go_ret2
  exact ⟨rfl, hb1'⟩

theorem gbase_any (k : Int) (w : World) :
    Calls Tryz.prog 74 #[.int .i64 k] w fun e w' => e = .returned (.tuple #[.int .i64 (gexpV 4 k), .int .i64 (gexpE 4 k)]) ∧ Below w.heap.size w w' := by
  go_enter Tryz.func74, Tryz.ntmps74
  go_wp2_with fail
  refine (gexp_any 4 k _).mono ?_
  rintro e w1 ⟨rfl, hb1'⟩
  go_wp2_with fail
  go_ret2
  exact ⟨rfl, hb1'⟩

end Go.Proofs.YtpekhdahamloaaaGreatDoor

namespace Go.Proofs.YtpekhdahamloaaaGreatDoor
open Go.RowKit Go.Shelf

def addM (a b m : Nat) : Nat := (a + b) % m
def mulM (a b m : Nat) : Nat := a * b % m
theorem addM_lt (a b : Nat) {m : Nat} (h : 0 < m) : addM a b m < m := Nat.mod_lt _ h
theorem mulM_lt (a b : Nat) {m : Nat} (h : 0 < m) : mulM a b m < m := Nat.mod_lt _ h

/-- the loop of Product: what its variables keep -/
def PInv (a0 b0 m c a b : Nat) : Prop := (c + a * b) % m = a0 * b0 % m
theorem pinv_start (a0 b0 m : Nat) : PInv a0 b0 m 0 a0 b0 := by unfold PInv; rw [Nat.zero_add]
theorem pinv_end {a0 b0 m c a : Nat} (hc : c < m) (h : PInv a0 b0 m c a 0) : c = mulM a0 b0 m := by
  unfold PInv at h; rw [Nat.mul_zero, Nat.add_zero, Nat.mod_eq_of_lt hc] at h; exact h
theorem pinv_even {a0 b0 m c a b : Nat} (h : PInv a0 b0 m c a b) (hb : b % 2 = 0) : PInv a0 b0 m c (addM a a m) (b / 2) := by
  unfold PInv addM at *
  rw [← h, Nat.add_mod, Nat.mod_mul_mod, ← Nat.add_mod, ← Nat.two_mul, Nat.mul_assoc, Nat.mul_comm 2, Nat.mul_assoc, show b / 2 * 2 = b from by omega]
theorem pinv_odd {a0 b0 m c a b : Nat} (h : PInv a0 b0 m c a b) (hb : b % 2 = 1) : PInv a0 b0 m (addM c a m) (addM a a m) (b / 2) := by
  unfold PInv addM at *
  rw [← h, Nat.add_mod, Nat.mod_mod, Nat.mod_mul_mod, ← Nat.add_mod, ← Nat.two_mul, Nat.mul_assoc, Nat.mul_comm 2, Nat.mul_assoc, Nat.add_assoc]
  congr 2
  have e : a * b = a * (b / 2 * 2 + 1) := by congr 1; omega
  rw [e, Nat.mul_add, Nat.mul_one, Nat.add_comm]

set_option maxHeartbeats 400000 in
theorem rsum_any (a b m : Nat) (ha : a < m) (hb : b < m) (hm : m ≤ 4611686018427387904) (w : World) :
    Calls Tryz.prog 151 #[.int .i64 a, .int .i64 b, .int .i64 m] w fun e w' => e = .returned (.int .i64 ((addM a b m : Nat) : Int)) ∧ w = w' := by
  have g1 : (a : Int) + (b : Int) ≤ 9223372036854775807 := by omega
  by_cases h : m ≤ a + b
  · have e : addM a b m = a + b - m := by
      unfold addM
      rw [Nat.mod_eq_sub_mod h, Nat.mod_eq_of_lt (by omega)]
    have g2 : decide ((m : Int) ≤ (a : Int) + (b : Int)) = true := by rw [decide_eq_true_iff]; omega
    have He : Hid (Ending.returned (.int .i64 ((a : Int) + (b : Int) - (m : Int))) = Ending.returned (.int .i64 ((addM a b m : Nat) : Int))) := by
      show _ = _; rw [e]; congr 2; omega
    clear e
    go_enter Tryz.func151, Tryz.ntmps151
    go_wp2
    go_ret
    exact ⟨He.out, rfl⟩
  · have e : addM a b m = a + b := by unfold addM; exact Nat.mod_eq_of_lt (by omega)
    have g2 : decide ((m : Int) ≤ (a : Int) + (b : Int)) = false := by rw [decide_eq_false_iff_not]; omega
    have He : Hid (Ending.returned (.int .i64 ((a : Int) + (b : Int))) = Ending.returned (.int .i64 ((addM a b m : Nat) : Int))) := by
      show _ = _; rw [e]; congr 2
    clear e
    go_enter Tryz.func151, Tryz.ntmps151
    go_wp2
    go_ret
    exact ⟨He.out, rfl⟩

set_option maxHeartbeats 1000000 in
theorem rproduct_any (a0 b0 m : Nat) (ha : a0 < m) (hb : b0 ≤ 9223372036854775807) (hm : m ≤ 4611686018427387904) (w : World) :
    Calls Tryz.prog 120 #[.int .i64 a0, .int .i64 b0, .int .i64 m] w fun e w' => e = .returned (.int .i64 ((mulM a0 b0 m : Nat) : Int)) ∧ w = w' := by
  have hm0 : 0 < m := by omega
  have Hm := Lib.hid hm
  have hm2 : (m : Int) ≤ 9223372036854775807 := by omega
  clear hm
  go_enter Tryz.func120, Tryz.ntmps120
  go_wp2_with fail
  go_loop [0, 1, 7] (fun s0 s1 s7 => ∃ a b c : Nat, s0 = .int .i64 a ∧ s1 = .int .i64 b ∧ s7 = .int .i64 c ∧ a < m ∧ c < m ∧ b ≤ 9223372036854775807 ∧ Hid (PInv a0 b0 m c a b)) (fun _ s1 _ => (RowKit.intOf s1).toNat)
  case atStart => exact ⟨a0, b0, 0, rfl, rfl, rfl, ha, hm0, hb, pinv_start _ _ _⟩
  case round =>
    obtain ⟨a, b, c, rfl, rfl, rfl, ha', hc', hb', hI⟩ := hrel
    rcases Nat.eq_zero_or_pos b with h0 | h0
    · subst h0
      have he := pinv_end hc' hI.out
      go_wp2
      go_ret
      exact ⟨rfl, rfl⟩
    · have g0 : decide ((0 : Int) < (b : Int)) = true := by rw [decide_eq_true_iff]; omega
      have ra := addM_lt a a hm0
      have rc := addM_lt c a hm0
      have hbi : (b : Int) ≤ 9223372036854775807 := by omega
      have hb2 : b / 2 < b := by omega
      by_cases ho : b % 2 = 1
      · have g1 : ((b : Int) % 2 == 1) = true := by rw [beq_iff_eq]; omega
        have hI' := pinv_odd hI.out ho
        have HI' := Lib.hid hI'
        have rdiv : (b : Int) / 2 = ((b / 2 : Nat) : Int) := by omega
        obtain ⟨d, hd⟩ : ∃ d, b / 2 = d := ⟨_, rfl⟩
        rw [hd] at rdiv HI' hb2
        clear hI' ho hI hd
        go_wp2_with fail
        refine (rsum_any c a m hc' ha' Hm.out _).mono ?_
        rintro e w' ⟨rfl, rfl⟩
        go_wp2_with fail
        refine (rsum_any a a m ha' ha' Hm.out _).mono ?_
        rintro e w' ⟨rfl, rfl⟩
        go_wp2_with fail
        go_round
        case rel => exact ⟨addM a a m, d, addM c a m, rfl, rfl, rfl, ra, rc, by omega, HI'⟩
        case measure => simp [RowKit.intOf]; omega
      · have hz : b % 2 = 0 := by omega
        have g1 : ((b : Int) % 2 == 1) = false := by rw [beq_eq_false_iff_ne]; omega
        have hI' := pinv_even hI.out hz
        have HI' := Lib.hid hI'
        have rdiv : (b : Int) / 2 = ((b / 2 : Nat) : Int) := by omega
        obtain ⟨d, hd⟩ : ∃ d, b / 2 = d := ⟨_, rfl⟩
        rw [hd] at rdiv HI' hb2
        clear hI' ho hz hI hd
        go_wp2_with fail
        refine (rsum_any a a m ha' ha' Hm.out _).mono ?_
        rintro e w' ⟨rfl, rfl⟩
        go_wp2_with fail
        go_round
        case rel => exact ⟨addM a a m, d, c, rfl, rfl, rfl, ra, hc', by omega, HI'⟩
        case measure => simp [RowKit.intOf]; omega

/-- the loop of Power: what its variables keep -/
def WInv (a0 k0 c a k : Nat) : Prop := c * a ^ k % 4611686018427377339 = a0 ^ k0 % 4611686018427377339
theorem winv_start (a0 k0 : Nat) : WInv a0 k0 1 a0 k0 := by unfold WInv; rw [Nat.one_mul]
theorem winv_end {a0 k0 c a : Nat} (hc : c < 4611686018427377339) (h : WInv a0 k0 c a 0) : c = powP a0 k0 := by
  unfold WInv at h; rw [Nat.pow_zero, Nat.mul_one, Nat.mod_eq_of_lt hc] at h; exact h
theorem winv_even {a0 k0 c a k : Nat} (h : WInv a0 k0 c a k) (hk : k % 2 = 0) : WInv a0 k0 c (mulM a a 4611686018427377339) (k / 2) := by
  unfold WInv mulM at *
  rw [← h, Nat.mul_mod, ← Nat.pow_mod, ← Nat.mul_mod, ← Nat.pow_two, ← Nat.pow_mul]
  congr 3; omega
theorem winv_odd {a0 k0 c a k : Nat} (h : WInv a0 k0 c a k) (hk : k % 2 = 1) : WInv a0 k0 (mulM c a 4611686018427377339) (mulM a a 4611686018427377339) (k / 2) := by
  unfold WInv mulM at *
  rw [← h, Nat.mod_mul_mod, Nat.mul_mod, ← Nat.pow_mod, ← Nat.mul_mod, ← Nat.pow_two, ← Nat.pow_mul, Nat.mul_assoc, ← Nat.pow_succ']
  congr 3; omega

set_option maxHeartbeats 1000000 in
theorem rpower_any (a0 k0 : Nat) (ha : a0 < 4611686018427377339) (hk : k0 ≤ 9223372036854775807) (w : World) :
    Calls Tryz.prog 79 #[.int .i64 a0, .int .i64 k0] w fun e w' => e = .returned (.int .i64 ((powP a0 k0 : Nat) : Int)) ∧ w = w' := by
  go_enter Tryz.func79, Tryz.ntmps79
  go_wp2_with fail
  go_loop [0, 1, 5] (fun s0 s1 s5 => ∃ a k c : Nat, s0 = .int .i64 a ∧ s1 = .int .i64 k ∧ s5 = .int .i64 c ∧ a < 4611686018427377339 ∧ c < 4611686018427377339 ∧ k ≤ 9223372036854775807 ∧ Hid (WInv a0 k0 c a k)) (fun _ s1 _ => (RowKit.intOf s1).toNat)
  case atStart => exact ⟨a0, k0, 1, rfl, rfl, rfl, ha, by decide, hk, winv_start _ _⟩
  case round =>
    obtain ⟨a, k, c, rfl, rfl, rfl, ha', hc', hk', hI⟩ := hrel
    have Ha := Lib.hid ha
    have Ha' := Lib.hid ha'
    have Hc' := Lib.hid hc'
    clear ha ha' hc' hk
    rcases Nat.eq_zero_or_pos k with h0 | h0
    · subst h0
      have he := winv_end Hc'.out hI.out
      go_wp2
      go_ret
      exact ⟨rfl, rfl⟩
    · have g0 : decide ((0 : Int) < (k : Int)) = true := by rw [decide_eq_true_iff]; omega
      have ra : Hid (mulM a a 4611686018427377339 < 4611686018427377339) := mulM_lt a a (by decide)
      have rc : Hid (mulM c a 4611686018427377339 < 4611686018427377339) := mulM_lt c a (by decide)
      have pa := fun w => rproduct_any a a 4611686018427377339 Ha'.out (Nat.le_trans (Nat.le_of_lt Ha'.out) (by decide)) (by decide) w
      have pc := fun w => rproduct_any c a 4611686018427377339 Hc'.out (Nat.le_trans (Nat.le_of_lt Ha'.out) (by decide)) (by decide) w
      have Pa := Lib.hid pa
      have Pc := Lib.hid pc
      clear pa pc
      obtain ⟨aa, haa⟩ : ∃ x, mulM a a 4611686018427377339 = x := ⟨_, rfl⟩
      obtain ⟨ca, hca⟩ : ∃ x, mulM c a 4611686018427377339 = x := ⟨_, rfl⟩
      rw [haa] at ra Pa
      rw [hca] at rc Pc
      have hki : (k : Int) ≤ 9223372036854775807 := by omega
      have hk2 : k / 2 < k := by omega
      by_cases ho : k % 2 = 1
      · have g1 : ((k : Int) % 2 == 1) = true := by rw [beq_iff_eq]; omega
        have hI' := winv_odd hI.out ho
        rw [haa, hca] at hI'
        have HI' := Lib.hid hI'
        have rdiv : (k : Int) / 2 = ((k / 2 : Nat) : Int) := by omega
        obtain ⟨d, hd⟩ : ∃ d, k / 2 = d := ⟨_, rfl⟩
        rw [hd] at rdiv HI' hk2
        clear hI' ho hI hd haa hca
        go_wp2_with fail
        refine (Pc.out _).mono ?_
        rintro e w' ⟨rfl, rfl⟩
        go_wp2_with fail
        refine (Pa.out _).mono ?_
        rintro e w' ⟨rfl, rfl⟩
        go_wp2_with fail
        go_round
        case rel => exact ⟨aa, d, ca, rfl, rfl, rfl, ra, rc, by omega, HI'⟩
        case measure => simp [RowKit.intOf]; omega
      · have hz : k % 2 = 0 := by omega
        have g1 : ((k : Int) % 2 == 1) = false := by rw [beq_eq_false_iff_ne]; omega
        have hI' := winv_even hI.out hz
        rw [haa] at hI'
        have HI' := Lib.hid hI'
        have rdiv : (k : Int) / 2 = ((k / 2 : Nat) : Int) := by omega
        obtain ⟨d, hd⟩ : ∃ d, k / 2 = d := ⟨_, rfl⟩
        rw [hd] at rdiv HI' hk2
        clear hI' ho hz hI hd haa hca
        go_wp2_with fail
        refine (Pa.out _).mono ?_
        rintro e w' ⟨rfl, rfl⟩
        go_wp2_with fail
        go_round
        case rel => exact ⟨aa, d, c, rfl, rfl, rfl, ra, Hc'.out, by omega, HI'⟩
        case measure => simp [RowKit.intOf]; omega

/-! ### Check -/
set_option maxHeartbeats 400000 in
theorem rcheck_yes (n : Nat) (h1 : 1 ≤ n) (h2 : n < 4611686018427377339) (h3 : powP n 2305843009213688669 = 1) (w : World) :
    Calls Tryz.prog 37 #[.int .i64 n] w fun e w' => e = .returned (.int .i64 0) ∧ w = w' := by
  have hc : Calls Tryz.prog 79 #[.int .i64 n, .int .i64 2305843009213688669] w fun e w' => e = .returned (.int .i64 ((powP n 2305843009213688669 : Nat) : Int)) ∧ w = w' := rpower_any n 2305843009213688669 h2 (by decide) w
  rw [h3] at hc
  have Hc := Lib.hid hc
  have g1 : decide ((n : Int) < 1) = false := by rw [decide_eq_false_iff_not]; omega
  have g2 : decide ((4611686018427377339 : Int) ≤ (n : Int)) = false := by rw [decide_eq_false_iff_not]; omega
  clear hc h3 h1 h2
  go_enter Tryz.func37, Tryz.ntmps37
  go_wp2_with fail
  refine (Hc.out).mono ?_
  rintro e w' ⟨rfl, rfl⟩
  go_wp2_with fail
  go_ret
  exact ⟨rfl, rfl⟩

set_option maxHeartbeats 400000 in
theorem rcheck_no (a : Int) (h : elemB a = false) (w : World) :
    Calls Tryz.prog 37 #[.int .i64 a] w fun e w' => e = .returned (.int .i64 40) ∧ w = w' := by
  by_cases h1 : a < 1
  · have g1 : decide (a < 1) = true := by simp; omega
    clear h h1
    go_enter Tryz.func37, Tryz.ntmps37
    go_wp2_with fail
    go_ret
    exact ⟨rfl, rfl⟩
  · by_cases h2 : a < 4611686018427377339
    · obtain ⟨n, rfl⟩ : ∃ n : Nat, a = (n : Int) := ⟨a.toNat, by omega⟩
      have hn2 : n < 4611686018427377339 := by omega
      have h3 : ¬ powP n 2305843009213688669 = 1 := fun h3 => by
        rw [elemB_of (by omega) hn2 h3] at h; cases h
      have hc : Calls Tryz.prog 79 #[.int .i64 n, .int .i64 2305843009213688669] w fun e w' => e = .returned (.int .i64 ((powP n 2305843009213688669 : Nat) : Int)) ∧ w = w' := rpower_any n 2305843009213688669 hn2 (by decide) w
      have Hc := Lib.hid hc
      have g1 : decide ((n : Int) < 1) = false := by rw [decide_eq_false_iff_not]; omega
      have g2 : decide ((4611686018427377339 : Int) ≤ (n : Int)) = false := by rw [decide_eq_false_iff_not]; omega
      have g3 : (((powP n 2305843009213688669 : Nat) : Int) != 1) = true := by rw [bne_iff_ne]; omega
      obtain ⟨p, hp⟩ : ∃ p, powP n 2305843009213688669 = p := ⟨_, rfl⟩
      rw [hp] at Hc g3
      clear hc h h3 hp h1 h2 hn2
      go_enter Tryz.func37, Tryz.ntmps37
      go_wp2_with fail
      refine (Hc.out).mono ?_
      rintro e w' ⟨rfl, rfl⟩
      go_wp2_with fail
      go_ret
      exact ⟨rfl, rfl⟩
    · have g1 : decide (a < 1) = false := by rw [decide_eq_false_iff_not]; omega
      have g2 : decide ((4611686018427377339 : Int) ≤ a) = true := by rw [decide_eq_true_iff]; omega
      clear h h1 h2
      go_enter Tryz.func37, Tryz.ntmps37
      go_wp2_with fail
      go_ret
      exact ⟨rfl, rfl⟩

theorem rcheck_any (a : Int) (w : World) :
    Calls Tryz.prog 37 #[.int .i64 a] w fun e w' => e = .returned (.int .i64 (chk a)) ∧ w = w' := by
  cases h : elemB a with
  | true =>
    obtain ⟨n, rfl, h1, h2, h3⟩ := elemB_nat h
    unfold chk; rw [h]; exact rcheck_yes n h1 h2 h3 w
  | false => unfold chk; rw [h]; exact rcheck_no a h w
theorem chk_yes {a : Int} (h : elemB a = true) : chk a = 0 := by unfold chk; rw [h]; rfl
theorem chk_no {a : Int} (h : elemB a = false) : chk a = 40 := by unfold chk; rw [h]; rfl

/-! ### Mul, Inv, Exp, Base, IsScalar -/
set_option maxHeartbeats 400000 in
theorem rmul_any (a b : Int) (w : World) :
    Calls Tryz.prog 76 #[.int .i64 a, .int .i64 b] w fun e w' => e = .returned (.tuple #[.int .i64 (gmulV a b), .int .i64 (gmulE a b)]) ∧ w = w' := by
  have ca := fun w => rcheck_any a w
  have cb := fun w => rcheck_any b w
  cases ha : elemB a with
  | false =>
    rw [chk_no ha] at ca
    have e1 : gmulV a b = 0 := by unfold gmulV; rw [ha]; rfl
    have e2 : gmulE a b = 40 := by unfold gmulE; rw [ha]; rfl
    rw [e1, e2]
    have Ca := Lib.hid ca
    clear ca cb ha e1 e2
    go_enter Tryz.func76, Tryz.ntmps76
    go_wp2_with fail
    refine (Ca.out _).mono ?_
    rintro e w' ⟨rfl, rfl⟩
    go_wp2_with fail
    go_ret2
    exact ⟨rfl, rfl⟩
  | true =>
    rw [chk_yes ha] at ca
    have Ca := Lib.hid ca
    cases hb : elemB b with
    | false =>
      rw [chk_no hb] at cb
      have e1 : gmulV a b = 0 := by unfold gmulV; rw [ha, hb]; rfl
      have e2 : gmulE a b = 40 := by unfold gmulE; rw [ha, hb]; rfl
      rw [e1, e2]
      have Cb := Lib.hid cb
      clear ca cb ha hb e1 e2
      go_enter Tryz.func76, Tryz.ntmps76
      go_wp2_with fail
      refine (Ca.out _).mono ?_
      rintro e w' ⟨rfl, rfl⟩
      go_wp2_with fail
      refine (Cb.out _).mono ?_
      rintro e w' ⟨rfl, rfl⟩
      go_wp2_with fail
      go_ret2
      exact ⟨rfl, rfl⟩
    | true =>
      rw [chk_yes hb] at cb
      have Cb := Lib.hid cb
      have e2 : gmulE a b = 0 := by unfold gmulE; rw [ha, hb]; rfl
      obtain ⟨n, rfl, h1, h2, h3⟩ := elemB_nat ha
      obtain ⟨m, rfl, k1, k2, k3⟩ := elemB_nat hb
      have e1 : gmulV n m = ((mulP n m : Nat) : Int) := by unfold gmulV; rw [ha, hb]; rfl
      have hp : Calls Tryz.prog 120 #[.int .i64 n, .int .i64 m, .int .i64 4611686018427377339] w fun e w' => e = .returned (.int .i64 ((mulP n m : Nat) : Int)) ∧ w = w' := rproduct_any n m 4611686018427377339 h2 (Nat.le_trans (Nat.le_of_lt k2) (by decide)) (by decide) w
      rw [e1, e2]
      have Hp := Lib.hid hp
      clear ca cb ha hb e1 e2 h1 h2 h3 k1 k2 k3 hp
      go_enter Tryz.func76, Tryz.ntmps76
      go_wp2_with fail
      refine (Ca.out _).mono ?_
      rintro e w' ⟨rfl, rfl⟩
      go_wp2_with fail
      refine (Cb.out _).mono ?_
      rintro e w' ⟨rfl, rfl⟩
      go_wp2_with fail
      refine (Hp.out).mono ?_
      rintro e w' ⟨rfl, rfl⟩
      go_wp2_with fail
      go_ret2
      exact ⟨rfl, rfl⟩

theorem risscalar_any (k : Int) (w : World) :
    Calls Tryz.prog 150 #[.int .i64 k] w fun e w' => e = .returned (.bool (scalB k)) ∧ w = w' := by
  cases h : scalB k with
  | true =>
    obtain ⟨n, rfl, hn⟩ := scalB_nat h
    have g1 : decide ((0 : Int) ≤ (n : Int)) = true := by rw [decide_eq_true_iff]; omega
    have g2 : decide ((n : Int) < 2305843009213688669) = true := by rw [decide_eq_true_iff]; omega
    clear h hn
    go_enter Tryz.func150, Tryz.ntmps150
    go_wp2_with fail
    go_ret
    exact ⟨rfl, rfl⟩
  | false =>
    by_cases h0 : k < 0
    · have g1 : decide ((0 : Int) ≤ k) = false := by rw [decide_eq_false_iff_not]; omega
      clear h h0
      go_enter Tryz.func150, Tryz.ntmps150
      go_wp2_with fail
      go_ret
      exact ⟨rfl, rfl⟩
    · have g1 : decide ((0 : Int) ≤ k) = true := by rw [decide_eq_true_iff]; omega
      have g2 : decide (k < 2305843009213688669) = false := by
        rw [decide_eq_false_iff_not]; have := scalB_no h; omega
      clear h h0
      go_enter Tryz.func150, Tryz.ntmps150
      go_wp2_with fail
      go_ret
      exact ⟨rfl, rfl⟩

set_option maxHeartbeats 400000 in
theorem rexp_any (a k : Int) (w : World) :
    Calls Tryz.prog 119 #[.int .i64 a, .int .i64 k] w fun e w' => e = .returned (.tuple #[.int .i64 (gexpV a k), .int .i64 (gexpE a k)]) ∧ w = w' := by
  have ca := fun w => rcheck_any a w
  have cs := fun w => risscalar_any k w
  cases ha : elemB a with
  | false =>
    rw [chk_no ha] at ca
    have e1 : gexpV a k = 0 := by unfold gexpV; rw [ha]; rfl
    have e2 : gexpE a k = 40 := by unfold gexpE; rw [ha]; rfl
    rw [e1, e2]
    have Ca := Lib.hid ca
    clear ca cs ha e1 e2
    go_enter Tryz.func119, Tryz.ntmps119
    go_wp2_with fail
    refine (Ca.out _).mono ?_
    rintro e w' ⟨rfl, rfl⟩
    go_wp2_with fail
    go_ret2
    exact ⟨rfl, rfl⟩
  | true =>
    rw [chk_yes ha] at ca
    have Ca := Lib.hid ca
    cases hk : scalB k with
    | false =>
      rw [hk] at cs
      have e1 : gexpV a k = 0 := by unfold gexpV; rw [ha, hk]; rfl
      have e2 : gexpE a k = 1 := by unfold gexpE; rw [ha, hk]; rfl
      rw [e1, e2]
      have Cs := Lib.hid cs
      clear ca cs ha hk e1 e2
      go_enter Tryz.func119, Tryz.ntmps119
      go_wp2_with fail
      refine (Ca.out _).mono ?_
      rintro e w' ⟨rfl, rfl⟩
      go_wp2_with fail
      refine (Cs.out _).mono ?_
      rintro e w' ⟨rfl, rfl⟩
      go_wp2_with fail
      go_ret2
      exact ⟨rfl, rfl⟩
    | true =>
      rw [hk] at cs
      have Cs := Lib.hid cs
      have e2 : gexpE a k = 0 := by unfold gexpE; rw [ha, hk]; rfl
      obtain ⟨n, rfl, h1, h2, h3⟩ := elemB_nat ha
      obtain ⟨m, rfl, k1⟩ := scalB_nat hk
      have e1 : gexpV n m = ((powP n m : Nat) : Int) := by unfold gexpV; rw [ha, hk]; rfl
      have hp := rpower_any n m h2 (Nat.le_trans (Nat.le_of_lt k1) (by decide)) w
      rw [e1, e2]
      have Hp := Lib.hid hp
      clear ca cs ha hk e1 e2 h1 h2 h3 k1 hp
      go_enter Tryz.func119, Tryz.ntmps119
      go_wp2_with fail
      refine (Ca.out _).mono ?_
      rintro e w' ⟨rfl, rfl⟩
      go_wp2_with fail
      refine (Cs.out _).mono ?_
      rintro e w' ⟨rfl, rfl⟩
      go_wp2_with fail
      refine (Hp.out).mono ?_
      rintro e w' ⟨rfl, rfl⟩
      go_wp2_with fail
      go_ret2
      exact ⟨rfl, rfl⟩

theorem rbase_any (k : Int) (w : World) :
    Calls Tryz.prog 75 #[.int .i64 k] w fun e w' => e = .returned (.tuple #[.int .i64 (gexpV 4 k), .int .i64 (gexpE 4 k)]) ∧ w = w' := by
  go_enter Tryz.func75, Tryz.ntmps75
  go_wp2_with fail
  refine (rexp_any 4 k _).mono ?_
  rintro e w' ⟨rfl, rfl⟩
  go_wp2_with fail
  go_ret2
  exact ⟨rfl, rfl⟩

/-- ref.Inv's power, without a look at the exponent -/
theorem gexpE_inv (a : Int) : gexpE a 2305843009213688668 = chk a := by unfold gexpE chk; cases elemB a <;> rfl
set_option maxHeartbeats 400000 in
theorem rinv_any (a : Int) (w : World) :
    Calls Tryz.prog 147 #[.int .i64 a] w fun e w' => e = .returned (.tuple #[.int .i64 (gexpV a 2305843009213688668), .int .i64 (gexpE a 2305843009213688668)]) ∧ w = w' := by
  have ca := fun w => rcheck_any a w
  rw [gexpE_inv]
  cases ha : elemB a with
  | false =>
    rw [chk_no ha] at ca
    have e1 : gexpV a 2305843009213688668 = 0 := by unfold gexpV; rw [ha]; rfl
    rw [e1, chk_no ha]
    have Ca := Lib.hid ca
    clear ca ha e1
    go_enter Tryz.func147, Tryz.ntmps147
    go_wp2_with fail
    refine (Ca.out _).mono ?_
    rintro e w' ⟨rfl, rfl⟩
    go_wp2_with fail
    go_ret2
    exact ⟨rfl, rfl⟩
  | true =>
    rw [chk_yes ha] at ca
    have Ca := Lib.hid ca
    rw [chk_yes ha]
    obtain ⟨n, rfl, h1, h2, h3⟩ := elemB_nat ha
    have e1 : gexpV n 2305843009213688668 = ((powP n 2305843009213688668 : Nat) : Int) := by unfold gexpV; rw [ha]; rfl
    have hp : Calls Tryz.prog 79 #[.int .i64 n, .int .i64 2305843009213688668] w fun e w' => e = .returned (.int .i64 ((powP n 2305843009213688668 : Nat) : Int)) ∧ w = w' := rpower_any n 2305843009213688668 h2 (by decide) w
    rw [e1]
    obtain ⟨p, hpe⟩ : ∃ p, powP n 2305843009213688668 = p := ⟨_, rfl⟩
    rw [hpe] at hp ⊢
    have Hp := Lib.hid hp
    clear ca ha e1 h1 h2 h3 hp hpe
    go_enter Tryz.func147, Tryz.ntmps147
    go_wp2_with fail
    refine (Ca.out _).mono ?_
    rintro e w' ⟨rfl, rfl⟩
    go_wp2_with fail
    refine (Hp.out).mono ?_
    rintro e w' ⟨rfl, rfl⟩
    go_wp2_with fail
    go_ret2
    exact ⟨rfl, rfl⟩

/-! ### Square -/
end Go.Proofs.YtpekhdahamloaaaGreatDoor

namespace Go.Proofs.YtpekhdahamloaaaGreatDoor
open Go.RowKit Go.Shelf

theorem powP_pm (a k : Nat) (hk : k < 18446744073709551616) : powP a k = Num.powMod 4611686018427377339 64 a k := (Num.powMod_eq 4611686018427377339 64 a k hk).symm

theorem el4 : elemB 4 = true := by
  show elemB ((4 : Nat) : Int) = true
  exact elemB_of (by decide) (by decide) (by rw [powP_pm 4 2305843009213688669 (by decide)]; decide +kernel)
end Go.Proofs.YtpekhdahamloaaaGreatDoor

namespace Go.Proofs.YtpekhdahamloaaaGreatDoor
open Go.RowKit Go.Shelf

theorem elemB_El {n : Nat} (h : El n) : elemB (n : Int) = true := elemB_of h.1 h.2.1 h.2.2
theorem gmul_el {a b : Nat} (ha : El a) (hb : El b) {c : Nat} (hc : mulP a b = c) (w : World) :
    Calls Tryz.prog 56 #[.int .i64 a, .int .i64 b] w fun e w' => e = .returned (.tuple #[.int .i64 (c : Int), .int .i64 0]) ∧ Below w.heap.size w w' := by
  subst hc; exact gmul_yes a b ha.1 ha.2.1 ha.2.2 hb.1 hb.2.1 hb.2.2 w
theorem gexp_el {a k : Nat} (ha : El a) (hk : k < 2305843009213688669) {c : Nat} (hc : powP a k = c) (w : World) :
    Calls Tryz.prog 57 #[.int .i64 a, .int .i64 k] w fun e w' => e = .returned (.tuple #[.int .i64 (c : Int), .int .i64 0]) ∧ Below w.heap.size w w' := by
  subst hc; exact gexp_yes a k ha.1 ha.2.1 ha.2.2 hk w
theorem ginv_el {a : Nat} (ha : El a) {c : Nat} (hc : powP a 2305843009213688668 = c) (w : World) :
    Calls Tryz.prog 54 #[.int .i64 a] w fun e w' => e = .returned (.tuple #[.int .i64 (c : Int), .int .i64 0]) ∧ Below w.heap.size w w' := by
  have h := ginv_any a w
  have e1 : gexpV a 2305843009213688668 = (c : Int) := by
    unfold gexpV
    rw [elemB_El ha, show scalB 2305843009213688668 = true from by decide]
    show ((powP a 2305843009213688668 : Nat) : Int) = _
    rw [hc]
  have e2 : gexpE a 2305843009213688668 = 0 := by rw [gexpE_inv, chk_yes (elemB_El ha)]
  rwa [e1, e2] at h
theorem check_El {a : Nat} (ha : El a) (w : World) :
    Calls Tryz.prog 22 #[.int .i64 a] w fun e w' => e = .returned (.int .i64 0) ∧ Below w.heap.size w w' := check_yes a ha.1 ha.2.1 ha.2.2 w
end Go.Proofs.YtpekhdahamloaaaGreatDoor

namespace Go.Proofs.YtpekhdahamloaaaGreatDoor
open Go.RowKit Go.Shelf

/-- one of some numbers is no scalar -/
def outB (zs : List Int) : Bool := zs.any fun z => !scalB z

theorem out1_any (a : Int) (w : World) :
    Calls Tryz.prog 164 #[.int .i64 a] w fun e w' => e = .returned (.bool (!scalB a)) ∧ w = w' := by
  cases h : scalB a with
  | true =>
    obtain ⟨n, rfl, hn⟩ := scalB_nat h
    have g1 : decide ((n : Int) < 0) = false := by rw [decide_eq_false_iff_not]; omega
    have g2 : decide ((2305843009213688669 : Int) ≤ (n : Int)) = false := by rw [decide_eq_false_iff_not]; omega
    clear h hn
    go_enter Tryz.func164, Tryz.ntmps164
    go_wp2_with fail
    go_ret
    exact ⟨rfl, rfl⟩
  | false =>
    by_cases h0 : a < 0
    · have g1 : decide (a < 0) = true := by rw [decide_eq_true_iff]; omega
      clear h h0
      go_enter Tryz.func164, Tryz.ntmps164
      go_wp2_with fail
      go_ret
      exact ⟨rfl, rfl⟩
    · have g1 : decide (a < 0) = false := by rw [decide_eq_false_iff_not]; omega
      have g2 : decide ((2305843009213688669 : Int) ≤ a) = true := by
        rw [decide_eq_true_iff]; have := scalB_no h; omega
      clear h h0
      go_enter Tryz.func164, Tryz.ntmps164
      go_wp2_with fail
      go_ret
      exact ⟨rfl, rfl⟩

theorem outB_false {zs : List Int} (h : ∀ j, j < zs.length → scalB (zs[j]?.getD 0) = true) : outB zs = false := by
  unfold outB
  rw [List.any_eq_false]
  intro x hx
  obtain ⟨j, hj, rfl⟩ := List.mem_iff_getElem.1 hx
  have := h j hj
  rw [List.getElem?_eq_getElem hj, Option.getD_some] at this
  rw [this]; decide
theorem outB_true {zs : List Int} {j : Nat} (hj : j < zs.length) (h : scalB (zs[j]?.getD 0) = false) : outB zs = true := by
  unfold outB
  rw [List.any_eq_true]
  refine ⟨zs[j], List.getElem_mem hj, ?_⟩
  rw [List.getElem?_eq_getElem hj, Option.getD_some] at h
  rw [h]; rfl

/-- what IndexFunc answers: some number, not negative just where one is outside -/
def IdxPost (zs : List Int) (w : World) (e : Ending) (w' : World) : Prop := (∃ r : Int, e = .returned (.int .i64 r) ∧ decide (0 ≤ r) = outB zs) ∧ w = w'

set_option maxHeartbeats 400000 in
theorem indexFunc_any (b off cap : Nat) (zs : List Int) (hlen : (zs.length : Int) ≤ 9223372036854775807) (w : World) (hc : ∀ j, j < zs.length → w.cell? ⟨b, off + j, none⟩ = some (.int .i64 (zs[j]?.getD 0))) :
    Calls Tryz.prog 169 #[.slice (some ⟨b, off, none⟩) zs.length cap, .func (.func 164) #[] #[]] w (IdxPost zs w) := by
  have HC := Lib.hid hc
  clear hc
  have hout : ∀ (j : Nat), j < zs.length → scalB (zs[j]?.getD 0) = false → decide ((0 : Int) ≤ (j : Int)) = outB zs := fun j hj h => by
    rw [outB_true hj h, decide_eq_true_iff]; omega
  have hin : (∀ j, j < zs.length → scalB (zs[j]?.getD 0) = true) → decide ((0 : Int) ≤ -1) = outB zs := fun h => by
    rw [outB_false h]; rfl
  have Hout := Lib.hid hout
  have Hin := Lib.hid hin
  clear hout hin
  go_enter Tryz.func169, Tryz.ntmps169
  go_wp2_with fail
  go_loop [8] (fun s8 => ∃ k : Nat, k ≤ zs.length ∧ s8 = .int .i64 k ∧ Hid (∀ j, j < k → scalB (zs[j]?.getD 0) = true)) (fun s8 => zs.length - (RowKit.intOf s8).toNat)
  case atStart => exact ⟨0, Nat.zero_le _, rfl, fun j hj => by omega⟩
  case round =>
    obtain ⟨k, hk, rfl, hI⟩ := hrel
    by_cases hlt : k < zs.length
    · have hcell := HC.out k hlt
      have g0 : decide ((k : Int) < (zs.length : Int)) = true := by rw [decide_eq_true_iff]; omega
      obtain ⟨z, hz⟩ : ∃ z, zs[k]?.getD 0 = z := ⟨_, rfl⟩
      rw [hz] at hcell
      have co := fun w => out1_any z w
      cases hs : scalB z with
      | true =>
        rw [hs] at co
        have Co := Lib.hid co
        have hI2 : Hid (∀ j, j < k + 1 → scalB (zs[j]?.getD 0) = true) := fun j hj => by
          by_cases hjk : j = k
          · rw [hjk, hz]; exact hs
          · exact hI.out j (by omega)
        clear hs hz co
        go_wp2_with fail
        refine (Co.out _).mono ?_
        rintro e w' ⟨rfl, rfl⟩
        go_wp2_with fail
        go_round
        case rel => exact ⟨k + 1, by omega, by go_num, hI2⟩
        case measure => simp [RowKit.intOf]; omega
      | false =>
        rw [hs] at co
        have Co := Lib.hid co
        have hfin := Hout.out k hlt (by rw [hz]; exact hs)
        have Hfin := Lib.hid hfin
        clear hs hz co hfin
        go_wp2_with fail
        refine (Co.out _).mono ?_
        rintro e w' ⟨rfl, rfl⟩
        go_wp2_with fail
        go_ret
        exact ⟨⟨_, rfl, Hfin.out⟩, rfl⟩
    · have g0 : decide (k < zs.length) = false := decide_eq_false hlt
      have hfin := Hin.out (fun j hj => hI.out j (by omega))
      have Hfin := Lib.hid hfin
      clear hfin hlt
      go_wp2_with fail
      go_ret
      exact ⟨⟨_, rfl, Hfin.out⟩, rfl⟩

theorem indexFunc_nil (a : Option Addr) (c : Nat) (w : World) :
    Calls Tryz.prog 169 #[.slice a 0 c, .func (.func 164) #[] #[]] w (IdxPost [] w) := by
  go_enter Tryz.func169, Tryz.ntmps169
  go_wp2_with fail
  refine wp_loop_rounds 1 ?_
  rw [rounds_succ]
  go_wp2_with fail
  go_ret
  exact ⟨⟨_, rfl, rfl⟩, rfl⟩

/-- a slice value that holds these ints; one of length 0 holds none -/
def IntsAt (w : World) (sv : Value) (zs : List Int) : Prop :=
  ((∃ (a : Option Addr) (c : Nat), sv = .slice a 0 c) ∧ zs = []) ∨ ∃ b off cap : Nat, sv = .slice (some ⟨b, off, none⟩) zs.length cap ∧ (zs.length : Int) ≤ 9223372036854775807 ∧ b < w.heap.size ∧ ∀ j, j < zs.length → w.cell? ⟨b, off + j, none⟩ = some (.int .i64 (zs[j]?.getD 0))
theorem IntsAt.below {w w' : World} {sv : Value} {zs : List Int} (h : IntsAt w sv zs) (hb : Below w.heap.size w w') : IntsAt w' sv zs := by
  rcases h with h | ⟨b, off, cap, h1, h2, h3, h4⟩
  · exact .inl h
  · exact .inr ⟨b, off, cap, h1, h2, Nat.lt_of_lt_of_le h3 hb.size, fun j hj => (hb.cell (p := ⟨b, off + j, none⟩) h3).trans (h4 j hj)⟩

theorem outside_any (sv : Value) (zs : List Int) (w : World) (h : IntsAt w sv zs) :
    Calls Tryz.prog 139 #[sv] w fun e w' => e = .returned (.bool (outB zs)) ∧ w = w' := by
  have hi : Calls Tryz.prog 169 #[sv, .func (.func 164) #[] #[]] w (IdxPost zs w) := by
    rcases h with ⟨⟨a, c, rfl⟩, rfl⟩ | ⟨b, off, cap, rfl, h2, h3, h4⟩
    · exact indexFunc_nil a c w
    · exact indexFunc_any b off cap zs h2 w h4
  have hcf : Calls Tryz.prog 163 #[sv, .func (.func 164) #[] #[]] w fun e w' => e = .returned (.bool (outB zs)) ∧ w = w' := by
    have Hi := Lib.hid hi
    clear hi h
    obtain ⟨bo, hbo⟩ : ∃ bo, outB zs = bo := ⟨_, rfl⟩
    rw [hbo]
    have Hbo := Lib.hid hbo
    clear hbo
    go_enter Tryz.func163, Tryz.ntmps163
    go_wp2_with fail
    refine (Hi.out).mono ?_
    rintro e w' ⟨⟨r, rfl, hr⟩, rfl⟩
    rw [Hbo.out] at hr
    go_wp2_with fail
    go_ret
    exact ⟨rfl, rfl⟩
  have Hcf := Lib.hid hcf
  clear hcf hi h
  go_enter Tryz.func139, Tryz.ntmps139
  go_wp2_with fail
  refine (Hcf.out).mono ?_
  rintro e w' ⟨rfl, rfl⟩
  go_wp2_with fail
  go_ret
  exact ⟨rfl, rfl⟩


/-! ### product -/
theorem mulq_hi_lt {a b : Nat} (ha : a < 2305843009213688669) (hb : b < 2305843009213688669) : a * b / 18446744073709551616 < 1152921504606844330 := by
  have h : a * b ≤ 2305843009213688668 * 2305843009213688668 := Nat.mul_le_mul (by omega) (by omega)
  omega

set_option maxHeartbeats 400000 in
/-- field.product: the product modulo Q. -/
theorem productQ_any (a b : Nat) (ha : a < 2305843009213688669) (hb : b < 2305843009213688669) (w : World) :
    Calls Tryz.prog 140 #[.int .i64 a, .int .i64 b] w fun e w' => e = .returned (.int .i64 ((mulQ a b : Nat) : Int)) ∧ Below w.heap.size w w' := by
  have h1 := mul64_any a b (by omega) (by omega) w
  have h2 := mulq_hi_lt ha hb
  have h3 := Nat.div_add_mod' (a * b) 18446744073709551616
  have h4 := Nat.mod_lt (a * b) (show 0 < 18446744073709551616 by decide)
  have hm := mulQ_lt a b
  obtain ⟨hi, e1⟩ : ∃ x, a * b / 18446744073709551616 = x := ⟨_, rfl⟩
  obtain ⟨lo, e2⟩ : ∃ x, a * b % 18446744073709551616 = x := ⟨_, rfl⟩
  rw [e1, e2] at h1 h3
  rw [e1] at h2
  rw [e2] at h4
  have h5 := div64_any hi lo 2305843009213688669 (by omega) (by omega) h4 w
  rw [h3] at h5
  have e3 : a * b % 2305843009213688669 = mulQ a b := rfl
  obtain ⟨q, e4⟩ : ∃ x, a * b / 2305843009213688669 = x := ⟨_, rfl⟩
  rw [e3, e4] at h5
  have H1 := Lib.hid h1
  have H5 := Lib.hid h5
  have g1 : (a : Int) ≤ 9223372036854775807 := by omega
  have g2 : (b : Int) ≤ 9223372036854775807 := by omega
  have g3 : ((mulQ a b : Nat) : Int) ≤ 9223372036854775807 := by omega
  clear h1 h5 h3 e1 e2 e3 e4 ha hb hm h2 h4
  go_enter Tryz.func140, Tryz.ntmps140
  go_wp2_with fail
  refine (H1.out).mono ?_
  rintro e w' ⟨rfl, rfl⟩
  go_wp2_with fail
  refine (H5.out).mono ?_
  rintro e w' ⟨rfl, hb'⟩
  go_wp2_with fail
  go_ret
  exact ⟨rfl, hb'⟩

end Go.Proofs.YtpekhdahamloaaaGreatDoor

namespace Go.Proofs.YtpekhdahamloaaaGreatDoor
open Go.RowKit Go.Shelf


attribute [local go_sem] Oper.semAt_some







end Go.Proofs.YtpekhdahamloaaaGreatDoor
