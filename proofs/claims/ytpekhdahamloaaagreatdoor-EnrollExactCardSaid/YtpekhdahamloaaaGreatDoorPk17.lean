/- The contracts of package group's inner functions: times, digits, power. -/
import Derived.Test.YtpekhdahamloaaaGreatDoorPk16
import Derived.Test.YtpekhdahamloaaaGreatDoorPk12
import Derived.RangeFuncNested
import Derived.RangeFuncBound
import Derived.RangeFuncCalls
import Derived.RangeFuncLeaves
import Derived.Shelf.Abstract
import Derived.Shelf.RegionOpen
import Derived.WalkKit
import Derived.OwnWalkIn
import Derived.TacticsInMore
import Derived.LoopNIn
import Derived.LoopIn
set_option linter.unusedVariables false
set_option linter.unusedSimpArgs false
namespace Go.Proofs.YtpekhdahamloaaaGreatDoor
open Go.RowKit Go.Shelf

theorem keepsOthers_of_below {W W' : World} (h : Below W.heap.size W W') : KeepsOthers W W' :=
  ⟨h.size, fun k _ hk _ => (h.block k (Array.getElem?_eq_some_iff.1 hk).1).trans hk⟩

theorem mul_hi_lt {a b : Nat} (ha : a < 4611686018427377339) (hb : b < 4611686018427377339) : a * b / 18446744073709551616 < 1152921504606844330 := by
  have h : a * b ≤ 4611686018427377338 * 4611686018427377338 := Nat.mul_le_mul (by omega) (by omega)
  omega

set_option maxHeartbeats 400000 in
/-- group.times: the product modulo P. -/
theorem times_any (a b : Nat) (ha : a < 4611686018427377339) (hb : b < 4611686018427377339) (w : World) :
    Calls Tryz.prog 93 #[.int .u64 a, .int .u64 b] w fun e w' => e = .returned (.int .u64 ((mulP a b : Nat) : Int)) ∧ Below w.heap.size w w' := by
  have h1 := mul64_any a b (by omega) (by omega) w
  have h2 := mul_hi_lt ha hb
  have h3 := Nat.div_add_mod' (a * b) 18446744073709551616
  have h4 := Nat.mod_lt (a * b) (show 0 < 18446744073709551616 by decide)
  obtain ⟨hi, e1⟩ : ∃ x, a * b / 18446744073709551616 = x := ⟨_, rfl⟩
  obtain ⟨lo, e2⟩ : ∃ x, a * b % 18446744073709551616 = x := ⟨_, rfl⟩
  rw [e1, e2] at h1 h3
  rw [e1] at h2
  rw [e2] at h4
  have h5 := div64_any hi lo 4611686018427377339 (by omega) (by omega) h4 w
  rw [h3] at h5
  have e3 : a * b % 4611686018427377339 = mulP a b := rfl
  obtain ⟨q, e4⟩ : ∃ x, a * b / 4611686018427377339 = x := ⟨_, rfl⟩
  rw [e3, e4] at h5
  have H1 := Lib.hid h1
  have H5 := Lib.hid h5
  clear h1 h5 h3 e1 e2 e3 e4
  go_enter Tryz.func93, Tryz.ntmps93
  go_wp2_with fail
  refine (H1.out).mono ?_
  rintro e w' ⟨rfl, rfl⟩
  go_wp2_with fail
  refine (H5.out).mono ?_
  rintro e w' ⟨rfl, hb'⟩
  go_wp2_with fail
  go_ret
  exact ⟨rfl, hb'⟩

attribute [local go_sem] Oper.semAt_some

theorem upto_length {α : Type} (f : Nat → α) (k : Nat) : (upto f k).length = k := by simp [upto]
theorem upto_prefix {α : Type} (f : Nat → α) {j k : Nat} (h : j ≤ k) : upto f j <+: upto f k := by
  obtain ⟨d, rfl⟩ : ∃ d, k = j + d := ⟨k - j, by omega⟩
  induction d with
  | zero => exact List.prefix_refl _
  | succ d ih => rw [← Nat.add_assoc, upto_succ]; exact List.IsPrefix.trans (ih (by omega)) (List.prefix_append _ _)

/-- what a round that goes on keeps: whatever lay below n0, and one box -/
def KeepBox (n0 Bk : Nat) (W W' : World) : Prop := Below n0 W W' ∧ W'.heap[Bk]? = W.heap[Bk]?
theorem KeepBox.refl (n0 Bk : Nat) (W : World) : KeepBox n0 Bk W W := ⟨Below.refl _ _, rfl⟩
theorem KeepBox.trans {n0 Bk : Nat} {A B C : World} (h : KeepBox n0 Bk A B) (k : KeepBox n0 Bk B C) : KeepBox n0 Bk A C := ⟨h.1.trans k.1, k.2.trans h.2⟩
theorem keepBox_b {n0 Bk : Nat} {w : World} (hn : n0 ≤ w.heap.size) (hB : Bk < w.heap.size) (W : World) (l : Nat) (o o' : Obj) (hl : w.heap.size ≤ l) (h : W.heap[l]? = some o) (h1 : o.isCells = false) (h2 : o.isWalk = false) : KeepBox n0 Bk W (W.putObj l o') :=
  ⟨belowK_b hn W l o o' hl h h1 h2, World.putObj_heap_other (by omega)⟩

set_option maxRecDepth 100000 in
set_option maxHeartbeats 1000000 in
/-- digits's closure: for every loop body that keeps the box of k. -/
theorem digits1_in (n : Nat) (hn : 1 ≤ n) (l Bk n0 k : Nat) (hk : k < 18446744073709551616) (J Jx : List Bool → World → Prop)
    (hY : ∀ pre x W, J pre W → pre.length < Lib.bitLen k → YieldAt Fence.wide (n - 1) Tryz.prog l #[.bool x] W fun e W' =>
      (e = .returned (.bool true) ∧ J (pre ++ [x]) W' ∧ KeepBox n0 Bk W W') ∨ (e = .returned (.bool false) ∧ Jx (pre ++ [x]) W'))
    (W : World) (hB : W.cell? ⟨Bk, 0, none⟩ = some (.int .u64 k)) (h0 : J [] W) :
    CallsIn Fence.wide n Tryz.prog 135 #[.func (.yield l) #[] #[], .pointer (some ⟨Bk, 0, none⟩)] W fun e W' => (∃ v, e = .returned v) ∧
      ((∃ ys, ys = upto (bitAt k (Lib.bitLen k)) (Lib.bitLen k) ∧ J ys W') ∨ (∃ pre, (∃ j, j ≤ Lib.bitLen k ∧ pre = upto (bitAt k (Lib.bitLen k)) j) ∧ Jx pre W')) := by
  have hlen := len64_any k W (by omega) (by omega)
  rw [Int.toNat_natCast] at hlen
  have hL := bitLen_le64 (k : Int) (by omega) (by omega)
  rw [Int.toNat_natCast] at hL
  have Hlen := Lib.hid hlen
  clear hlen
  generalize Lib.bitLen k = L at *
  refine callsIn_of_wp Tryz.func135 rfl trivial ?_ rfl
  simp only [Tryz.ntmps135, List.size_toArray, List.length_cons, List.length_nil, Nat.reduceAdd, Nat.reduceSub, Array.replicate_succ, Array.replicate_zero, List.push_toArray, List.append_toArray, List.nil_append, List.cons_append]
  gi_wp2_with (refine ⟨trivial, ?_⟩; gi_at_call 136; refine (callsIn_wide.2 (Hlen.out)).mono ?_; rintro e w' ⟨rfl, rfl⟩)
  gi_loopw [3] (fun i wr => ∃ m : Nat, m ≤ L ∧ i = .int .i64 ((m : Int) - 1) ∧ J (upto (bitAt k L) (L - m)) wr ∧ KeepBox n0 Bk W wr) (fun i _ => (intOf i + 1).toNat)
  case atStart => exact ⟨L, Nat.le_refl _, rfl, by rw [Nat.sub_self]; exact h0, KeepBox.refl _ _ _⟩
  case round =>
    obtain ⟨m, hm, rfl, hJs, hkb⟩ := hrel
    have hB2 : wr.cell? ⟨Bk, 0, none⟩ = some (.int .u64 k) := (World.cell?_of_block (w := W) (a := ⟨Bk, 0, none⟩) hkb.2).trans hB
    clear hB
    cases m with
    | zero =>
      gi_wp2
      go_end0
      exact ⟨⟨_, rfl⟩, .inl ⟨_, rfl, by simpa using hJs⟩⟩
    | succ m =>
      have em : ((m + 1 : Nat) : Int) - 1 = (m : Int) := by omega
      rw [em]
      have rmin : min m 64 = m := by omega
      have hq2 : k / 2 ^ m < 18446744073709551616 := Nat.lt_of_le_of_lt (Nat.div_le_self _ _) hk
      obtain ⟨q, hq⟩ : ∃ q, k / 2 ^ m = q := ⟨_, rfl⟩
      have rq : (k : Int) / 2 ^ m = (q : Int) := by rw [← hq]; push_cast; rfl
      rw [hq] at hq2
      have hidx : L - 1 - (L - (m + 1)) = m := by omega
      have hnext : upto (bitAt k L) (L - m) = upto (bitAt k L) (L - (m + 1)) ++ [decide (q % 2 = 1)] := by
        rw [show L - m = (L - (m + 1)) + 1 from by omega, upto_succ]
        congr 2
        unfold bitAt; rw [hidx, hq]
      have rand : bits .and .u64 (q : Int) 1 = ((q % 2 : Nat) : Int) := by
        have h := bits_and_u64_nat q 1 hq2 (by omega)
        rw [Nat.and_one_is_mod] at h; exact h
      have Hnext := Lib.hid hnext
      clear hnext hq hidx em
      by_cases hbit : q % 2 = 1
      · have rand1 : bits .and .u64 (q : Int) 1 = 1 := by rw [rand, hbit]; rfl
        have hd : decide (q % 2 = 1) = true := by rw [hbit]; rfl
        have Hn2 := Hnext.out
        rw [hd] at Hn2
        have HN2 := Lib.hid Hn2
        obtain ⟨fn, tmps, assign, body, hy, hR⟩ := hY _ true wr hJs (by rw [upto_length]; omega)
        clear rand hbit hd Hn2 Hnext
        gi_wp2
        refine hR.mono ?_
        rintro e W3 (⟨rfl, hJ3, hk3⟩ | ⟨rfl, hJx3⟩)
        · gi_wp2
          go_roundw
          case rel => exact ⟨m, by omega, rfl, by rw [HN2.out]; exact hJ3, hkb.trans hk3⟩
          case measure => simp [intOf]
        · gi_wp2
          refine bodyPost_ret (results_none rfl _ _ _) rfl ?_
          exact ⟨⟨_, rfl⟩, .inr ⟨_, ⟨L - m, by omega, HN2.out.symm⟩, hJx3⟩⟩
      · have hbit : q % 2 = 0 := by omega
        have rand1 : bits .and .u64 (q : Int) 1 = 0 := by rw [rand, hbit]; rfl
        have hd : decide (q % 2 = 1) = false := by rw [hbit]; rfl
        have Hn2 := Hnext.out
        rw [hd] at Hn2
        have HN2 := Lib.hid Hn2
        obtain ⟨fn, tmps, assign, body, hy, hR⟩ := hY _ false wr hJs (by rw [upto_length]; omega)
        clear rand hbit hd Hn2 Hnext
        gi_wp2
        refine hR.mono ?_
        rintro e W3 (⟨rfl, hJ3, hk3⟩ | ⟨rfl, hJx3⟩)
        · gi_wp2
          go_roundw
          case rel => exact ⟨m, by omega, rfl, by rw [HN2.out]; exact hJ3, hkb.trans hk3⟩
          case measure => simp [intOf]
        · gi_wp2
          refine bodyPost_ret (results_none rfl _ _ _) rfl ?_
          exact ⟨⟨_, rfl⟩, .inr ⟨_, ⟨L - m, by omega, HN2.out.symm⟩, hJx3⟩⟩


theorem digits_stops (n : Nat) (hn : 1 ≤ n) (Bk n0 k : Nat) (hk : k < 18446744073709551616) (w : World) (hBk : Bk < w.heap.size) (hc : w.cell? ⟨Bk, 0, none⟩ = some (.int .u64 k)) :
    SeqStopsK Fence.wide n Tryz.prog 135 #[.pointer (some ⟨Bk, 0, none⟩)] (fun x : Bool => #[Value.bool x]) (KeepBox n0 Bk) (fun ys => ys = upto (bitAt k (Lib.bitLen k)) (Lib.bitLen k)) (fun _ => True) (Lib.bitLen k) w := fun l J Jx W hW _ _ hY h0 => by
  have hc' := (hW.cell (p := ⟨Bk, 0, none⟩) hBk).trans hc
  refine (digits1_in n hn l Bk n0 k hk J Jx hY W hc' h0).mono ?_
  rintro e W' ⟨he, ⟨ys, rfl, hj⟩ | ⟨pre, _, hj⟩⟩
  · exact ⟨he, .inl ⟨_, rfl, hj⟩⟩
  · exact ⟨he, .inr ⟨_, trivial, hj⟩⟩

/-- digits: the number is boxed; the function value captures the box. -/
theorem digits_any (k : Nat) (w : World) :
    Calls Tryz.prog 92 #[.int .u64 k] w fun e w' => e = .returned (.func (.func 135) #[] #[.pointer (some ⟨w.heap.size, 0, none⟩)]) ∧ w' = w.alloc (.cells #[.int .u64 k] 94) := by
  go_enter Tryz.func92, Tryz.ntmps92
  go_wp2
  go_ret
  exact ⟨rfl, rfl⟩

theorem bitLen_lt (k : Nat) (hk : k < 18446744073709551616) : k < 2 ^ Lib.bitLen k := (DivLaw.aux_lt 64 k hk).1

set_option maxRecDepth 100000 in
set_option maxHeartbeats 1000000 in
/-- group.power: the power modulo P. -/
theorem powerP_any (a k : Nat) (ha : a < 4611686018427377339) (hk : k < 18446744073709551616) (w : World) :
    Calls Tryz.prog 49 #[.int .u64 a, .int .u64 k] w fun e w' => e = .returned (.int .u64 ((powP a k : Nat) : Int)) ∧ Below w.heap.size w w' := by
  rw [← runP a k (Lib.bitLen k) (bitLen_lt k hk)]
  refine (callsIn_wide (n := 3)).1 ?_
  refine callsIn_of_wp_marks Tryz.func49 rfl trivial ?_ rfl
  simp only [Tryz.ntmps49, List.size_toArray, List.length_cons, List.length_nil, Nat.reduceAdd, Nat.reduceSub, Array.replicate_succ, Array.replicate_zero, List.push_toArray, List.append_toArray, List.nil_append, List.cons_append]
  gi_wp2_with (refine ⟨trivial, ?_⟩; gi_at_call 92; refine (callsIn_wide.2 (digits_any k _)).mono ?_; rintro e w' ⟨rfl, rfl⟩)
  have ba := ((Boxed.new w 94 (.int .u64 a)).alloc (.cells #[.int .u64 1] 94)).alloc (.cells #[.int .u64 k] 94)
  have bc := (Boxed.new (w.alloc (.cells #[.int .u64 a] 94)) 94 (.int .u64 1)).alloc (.cells #[.int .u64 k] 94)
  have bk := (Boxed.new ((w.alloc (.cells #[.int .u64 a] 94)).alloc (.cells #[.int .u64 1] 94)) 94 (.int .u64 k)).cell
  have hB0 : Below w.heap.size w (((w.alloc (.cells #[.int .u64 a] 94)).alloc (.cells #[.int .u64 1] 94)).alloc (.cells #[.int .u64 k] 94)) := (((Below.refl _ w).alloc (Nat.le_refl _) _).alloc (by simp) _).alloc (by simp; omega) _
  simp only [World.size_alloc] at bc bk
  obtain ⟨W0, hW0⟩ : ∃ W0, ((w.alloc (.cells #[.int .u64 a] 94)).alloc (.cells #[.int .u64 1] 94)).alloc (.cells #[.int .u64 k] 94) = W0 := ⟨_, rfl⟩
  have hsz : W0.heap.size = w.heap.size + 3 := by rw [← hW0]; simp
  rw [hW0] at ba bc bk hB0 ⊢
  clear hW0
  refine wpIn_rangeFunc_ownF rfl (by omega) (gf := 135) (lb := #[.pointer (some ⟨w.heap.size + 1 + 1, 0, none⟩)]) rfl trivial (enters_of Tryz.func135 (by kernel_rfl) rfl)
    (digits_stops 2 (by omega) (w.heap.size + 1 + 1) w.heap.size k hk W0 (by omega) bk) KeepBox.trans (keepBox_b (by omega) (by omega)) (Below.refl _ _) (fun _ => rfl)
    (fun pre W => (Boxed W w.heap.size 94 (.int .u64 a) ∧ Boxed W (w.heap.size + 1) 94 (.int .u64 ((run mulP a pre : Nat) : Int))) ∧ Below w.heap.size W0 W)
    (fun _ _ _ => False)
    (OwnFrom.and (OwnFrom.and (Own.from (boxed_own _ _ _) _) (Own.from (boxed_own _ _ _) _)) (ownFrom_below (by omega) (by omega)))
    (fun _ _ _ _ _ hs _ _ => hs)
    ⟨⟨ba, bc⟩, Below.refl _ _⟩
    (fun x => { tmps := #[.int .u64 a, .int .u64 k, .pointer (some ⟨w.heap.size, 0, none⟩), undef, .int .u64 0, .pointer (some ⟨w.heap.size + 1, 0, none⟩), .bool x, .int .u64 k, .func (.func 135) #[] #[.pointer (some ⟨w.heap.size + 1 + 1, 0, none⟩)], .bool x, undef, undef, undef, undef, undef, undef, undef, undef], defers := [] }) ?assign ?body ?done ?stop
  case assign =>
    intro l x W K hK
    gi_wp2
    exact hK
  case body =>
    rintro l pre x W ⟨⟨hba, hbc⟩, hB⟩ _
    have hlt := runP_lt a pre
    have hca := hba.cell
    have hcc := hbc.cell
    have hsW := hB.size
    have hm1 := mulP_lt (run mulP a pre) (run mulP a pre)
    have hstep : step mulP a (run mulP a pre) x = run mulP a (pre ++ [x]) := (run_snoc _ _ _ _).symm
    have Hstep := Lib.hid hstep
    clear hstep
    gi_wp2_with fail
    refine ⟨trivial, ?_⟩
    refine (CallsIn.inRound l (callsIn_wide.2 (times_any _ _ hlt hlt _))).mono ?_
    rintro e W1 ⟨rfl, hb1⟩
    have hba1 : Boxed W1 w.heap.size 94 (.int .u64 a) := (hb1.block _ hba.lt).trans hba
    have hbc1 : Boxed W1 (w.heap.size + 1) 94 _ := (hb1.block _ hbc.lt).trans hbc
    have hcc1 := hbc1.cell
    have hfc1 := hbc1.frozen
    clear hca hcc
    have hba2 := hba1.other (B' := w.heap.size + 1) (by omega) (.int .u64 ((mulP (run mulP a pre) (run mulP a pre) : Nat) : Int))
    have hbc2 := hbc1.set (.int .u64 ((mulP (run mulP a pre) (run mulP a pre) : Nat) : Int))
    have hca2 := hba2.cell
    have hcc2 := hbc2.cell
    have hfc2 := hbc2.frozen
    have hk1 : KeepBox w.heap.size (w.heap.size + 1 + 1) W (W1.setCell ⟨w.heap.size + 1, 0, none⟩ (.int .u64 ((mulP (run mulP a pre) (run mulP a pre) : Nat) : Int))) :=
      ⟨(hb1.mono (by omega)).setCell (p := ⟨w.heap.size + 1, 0, none⟩) (by simp) _, (Below.heap_setCell _ _ _ _ (by simp)).trans (hb1.block _ (by omega))⟩
    have hko1 := (keepsOthers_of_below hb1).trans (KeepsOthers.setCell W1 ⟨w.heap.size + 1, 0, none⟩ (.int .u64 ((mulP (run mulP a pre) (run mulP a pre) : Nat) : Int)))
    cases x with
    | false =>
      gi_wp2_with fail
      exact ⟨hko1, hk1, ⟨⟨hba2, by rw [← Hstep.out]; exact hbc2⟩, hB.trans hk1.1⟩⟩
    | true =>
      gi_wp2_with fail
      refine ⟨trivial, ?_⟩
      refine (CallsIn.inRound l (callsIn_wide.2 (times_any _ _ hm1 ha _))).mono ?_
      rintro e W2 ⟨rfl, hb2⟩
      have hba3 : Boxed W2 w.heap.size 94 (.int .u64 a) := (hb2.block _ hba2.lt).trans hba2
      have hbc3 : Boxed W2 (w.heap.size + 1) 94 _ := (hb2.block _ hbc2.lt).trans hbc2
      have hcc3 := hbc3.cell
      have hfc3 := hbc3.frozen
      clear hca2 hcc2 hfc2 hcc1 hfc1
      have hba4 := hba3.other (B' := w.heap.size + 1) (by omega) (.int .u64 ((mulP (mulP (run mulP a pre) (run mulP a pre)) a : Nat) : Int))
      have hbc4 := hbc3.set (.int .u64 ((mulP (mulP (run mulP a pre) (run mulP a pre)) a : Nat) : Int))
      have hsz2 : W.heap.size ≤ (W1.setCell ⟨w.heap.size + 1, 0, none⟩ (.int .u64 ((mulP (run mulP a pre) (run mulP a pre) : Nat) : Int))).heap.size := hk1.1.size
      have hk2 := hk1.trans (⟨(hb2.mono (by omega)).setCell (p := ⟨w.heap.size + 1, 0, none⟩) (by simp) _, (Below.heap_setCell _ _ _ _ (by simp)).trans (hb2.block _ (by omega))⟩ : KeepBox w.heap.size (w.heap.size + 1 + 1) _ (W2.setCell ⟨w.heap.size + 1, 0, none⟩ (.int .u64 ((mulP (mulP (run mulP a pre) (run mulP a pre)) a : Nat) : Int))))
      have hko2 := (hko1.trans (keepsOthers_of_below hb2)).trans (KeepsOthers.setCell W2 ⟨w.heap.size + 1, 0, none⟩ (.int .u64 ((mulP (mulP (run mulP a pre) (run mulP a pre)) a : Nat) : Int)))
      gi_wp2_with fail
      exact ⟨hko2, hk2, ⟨⟨hba4, by rw [← Hstep.out]; exact hbc4⟩, hB.trans hk2.1⟩⟩
  case done =>
    rintro D ys W hD rfl ⟨⟨_, hbc⟩, hB⟩ hK
    have hcc := hbc.cell
    gi_wp2
    refine ⟨by simp, .inl ⟨_, _, rfl, run_takeDeferred hK, ?_⟩⟩
    exact ⟨_, results_tmp rfl _ _ _, rfl, (hB0.trans hB).trans (belowK_b (w := w) (Nat.le_refl _) W D _ _ (by omega) hK rfl rfl)⟩
  case stop =>
    rintro D c pre W _ _ h _
    exact h.elim

end Go.Proofs.YtpekhdahamloaaaGreatDoor
