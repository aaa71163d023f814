/- GroupHash: Scalar and Point agree with the reference: returns true for every input. No condition beyond the card's own: the two tables of package digest are tied to the program's text. -/
import Derived.Test.YtdcpejfnhegdaaaDoorHash
import Derived.Test.YtdcpejfnhegdaaaDoorSane4
import Derived.Test.YtdcpejfnhegdaaaDoorLaid
import Derived.Test.YtdcpejfnhegdaaaDoorCards
namespace Go.Proofs.YtdcpejfnhegdaaaDoor.groupHash
open Go.ChangeShapes Go.WideShapes Go.ChangeAt Go.RowKit
open Go.ChangeMaps (open_string shut_string)
set_option linter.unusedVariables false

set_option maxRecDepth 100000 in
set_option maxHeartbeats 1000000 in
theorem walk {w : World} (s : ByteArray) (w0 : s.size ≤ maxLen) (v : Value) (l : List UInt8) (hv : BytesAt w v l) (hs : ∃ a cap, v = .slice a l.length cap) (hT : Tab w) :
    Calls Tryd.prog 3 #[.string s, v] w fun e w' => e = .returned (.bool true) ∧ Below w.heap.size w w' := by
  obtain ⟨a, cap, rfl⟩ := hs
  have hcap : s.size ≤ 300 → l.length ≤ 1000 → ∀ w1, Below w.heap.size w w1 → BytesAt w1 (.slice a l.length cap) l ∧ Tab w1 := fun _ _ w1 h => ⟨hv.below h, hT.below h⟩
  obtain ⟨k, hk⟩ : ∃ k, scalarM s.data.toList l = k := ⟨_, rfl⟩
  obtain ⟨p, hp⟩ : ∃ p, pointM s.data.toList l = p := ⟨_, rfl⟩
  have c1 : s.size ≤ 300 → l.length ≤ 1000 → ∀ w1, Below w.heap.size w w1 → Calls Tryd.prog 13 #[.string s, .slice a l.length cap] w1 fun e w' => e = .returned (.int .i64 (k : Int)) ∧ Below w1.heap.size w1 w' := fun q1 q2 w1 h => hk ▸ scalar_any s _ l w1 (by omega) (by omega) (hv.below h) (hT.below h)
  have c2 : s.size ≤ 300 → l.length ≤ 1000 → ∀ w1, Below w.heap.size w w1 → Calls Tryd.prog 14 #[.string s, .slice a l.length cap] w1 fun e w' => e = .returned (.int .i64 (k : Int)) ∧ Below w1.heap.size w1 w' := fun q1 q2 w1 h => hk ▸ rscalar_any s _ l w1 (by omega) (by omega) (hv.below h)
  have c3 : s.size ≤ 300 → l.length ≤ 1000 → ∀ w1, Below w.heap.size w w1 → Calls Tryd.prog 15 #[.string s, .slice a l.length cap] w1 fun e w' => e = .returned (.int .i64 (p : Int)) ∧ Below w1.heap.size w1 w' := fun q1 q2 w1 h => hp ▸ point_any s _ l w1 (by omega) (by omega) (hv.below h) (hT.below h)
  have c4 : s.size ≤ 300 → l.length ≤ 1000 → ∀ w1, Below w.heap.size w w1 → Calls Tryd.prog 16 #[.string s, .slice a l.length cap] w1 fun e w' => e = .returned (.int .i64 (p : Int)) ∧ Below w1.heap.size w1 w' := fun q1 q2 w1 h => hp ▸ rpoint_any s _ l w1 (by omega) (by omega) (hv.below h)
  clear hcap hk hp hv hT
  obtain ⟨n, hn⟩ : ∃ n, l.length = n := ⟨_, rfl⟩
  rw [hn] at c1 c2 c3 c4 ⊢
  clear hn w0
  obtain ⟨m, hm⟩ : ∃ m, s.size = m := ⟨_, rfl⟩
  by_cases h1 : m ≤ 300
  · by_cases h2 : n ≤ 1000
    · have C1 := Lib.hid (c1 (by omega) (by omega)); have C2 := Lib.hid (c2 (by omega) (by omega)); have C3 := Lib.hid (c3 (by omega) (by omega)); have C4 := Lib.hid (c4 (by omega) (by omega))
      have d1 : decide (300 < (m : Int)) = false := by rw [decide_eq_false_iff_not]; omega
      have d2 : decide (1000 < (n : Int)) = false := by rw [decide_eq_false_iff_not]; omega
      have d3 : decide (300 < m) = false := by rw [decide_eq_false_iff_not]; omega
      have d4 : decide (1000 < n) = false := by rw [decide_eq_false_iff_not]; omega
      have d5 : ¬ 300 < m := by omega
      have d6 : ¬ 1000 < n := by omega
      clear h1 h2 c1 c2 c3 c4
      go_enter Tryd.func3, Tryd.ntmps3
      go_wp2_with fail
      refine (sane4_any _).mono ?_
      rintro e w1 ⟨rfl, b1⟩
      have B1 := Lib.hid b1
      clear b1
      go_wp2_with fail
      refine (C1.out _ B1.out).mono ?_
      rintro e w2 ⟨rfl, b2⟩
      have B2 := Lib.hid (B1.out.trans (b2.mono B1.out.size))
      clear b2
      go_wp2_with fail
      refine (C2.out _ B2.out).mono ?_
      rintro e w3 ⟨rfl, b3⟩
      have B3 := Lib.hid (B2.out.trans (b3.mono B2.out.size))
      clear b3
      go_wp2_with fail
      refine (C3.out _ B3.out).mono ?_
      rintro e w4 ⟨rfl, b4⟩
      have B4 := Lib.hid (B3.out.trans (b4.mono B3.out.size))
      clear b4
      go_wp2_with fail
      refine (C4.out _ B4.out).mono ?_
      rintro e w5 ⟨rfl, b5⟩
      have B5 := Lib.hid (B4.out.trans (b5.mono B4.out.size))
      clear b5
      go_wp2_with fail
      go_ret
      exact ⟨rfl, B5.out⟩
    · have d1 : decide (300 < (m : Int)) = false := by rw [decide_eq_false_iff_not]; omega
      have d2 : decide (1000 < (n : Int)) = true := by rw [decide_eq_true_iff]; omega
      have d3 : decide (300 < m) = false := by rw [decide_eq_false_iff_not]; omega
      have d4 : decide (1000 < n) = true := by rw [decide_eq_true_iff]; omega
      have d5 : ¬ 300 < m := by omega
      have d6 : 1000 < n := by omega
      clear h1 h2 c1 c2 c3 c4
      go_enter Tryd.func3, Tryd.ntmps3
      go_wp2_with fail
      refine (sane4_any _).mono ?_
      rintro e w1 ⟨rfl, b1⟩
      go_wp2_with fail
      go_ret
      exact ⟨rfl, b1⟩
  · have d1 : decide (300 < (m : Int)) = true := by rw [decide_eq_true_iff]; omega
    have d3 : decide (300 < m) = true := by rw [decide_eq_true_iff]; omega
    have d5 : 300 < m := by omega
    clear h1 c1 c2 c3 c4
    go_enter Tryd.func3, Tryd.ntmps3
    go_wp2_with fail
    refine (sane4_any _).mono ?_
    rintro e w1 ⟨rfl, b1⟩
    go_wp2_with fail
    go_ret
    exact ⟨rfl, b1⟩

set_option maxRecDepth 100000 in
set_option maxHeartbeats 1000000 in
theorem lifted (os : Os) (started : os.Started) (H : Type) (enc : TypeId × Value → H) :
    ReturnsInHanded {} Tryd.checked os 3 .any (fun w args => (Rows.groupHashSpec.pre enc Tryd.prog Tryd.f3 [] false w args ∧ laidMetH Tryd.prog laidL w) ∧ sizedMet enc Tryd.prog Tryd.f3 (OpenSpec.ofChange Rows.groupHashSpec) false w args)
      (Rows.groupHashSpec.post enc Tryd.prog Tryd.f3 false true false false) := by
  refine returnsInHanded_of_change_and (C := Tryd.checked) (X := fun w _ => laidMetH Tryd.prog laidL w) (fun _ _ _ hh h => h.of_heap hh) own started (by kernel_rfl) Tryd.func3
    (ChangeSpec.witness_shaped (enc := enc) (C := Tryd.checked) (os := os) (X := fun w _ => laidMetH Tryd.prog laidL w) false (World.doorLaid Tryd.prog 19 os) #[.string ByteArray.empty, .slice none 0 0] 8 rfl (World.shaped_of_RefB (by kernel_rfl) (by kernel_rfl)) (by kernel_rfl) (by kernel_rfl) (by kernel_rfl) (door_met os _)) ?_
  intro W base args ds gs before hval0 hW _ hsz hL _
  have hval : ∀ (j : Nat) t v, Tryd.f3.params[j]? = some t → args[j]? = some v → Value.okWide Tryd.prog W .any base t v := hval0
  have hW' := hW
  obtain ⟨p, q, hA0, hV, rfl, hfz, hnd⟩ := hW
  have hA : DataW.TrodAll enc Tryd.prog W 0 (fun _ => true) true Tryd.f3.params.toList args.toList ds p := hA0
  rw [Tryd.params3] at hA hval
  obtain ⟨v0, vs0, d0, ds0, p0, q0, hargs, rfl, rfl, h0, r0⟩ := trodAll_cons hA
  obtain ⟨v1, vs1, d1, ds1, p1, q1, rfl, rfl, rfl, h1, r1⟩ := trodAll_cons r0
  obtain ⟨rfl, rfl, rfl⟩ := trodAll_nil r1
  obtain rfl : args = #[v0, v1] := by cases args; simp_all
  obtain ⟨rfl, rfl⟩ := trodVars_none hV
  obtain ⟨a0, rfl, rfl, rfl, w0⟩ := open_string Tryd.underlying9 (hval 0 9 v0 rfl rfl) h0
  have k1 := h1
  have lt1 : ∀ x ∈ p1, x.block < W.heap.size := by obtain ⟨m, hm⟩ := k1; exact DataW.trod_lt m _ _ _ hm
  obtain ⟨l1, b1, s1⟩ := bytes_open (hval 1 22 v1 rfl rfl) h1 (fun elems spare e => by
    have := sized_slice hsz (j := 1) (t := 22) (e := 5) (elems := elems) (spare := spare) (by kernel_rfl) (by rw [← e]; rfl) Tryd.underlying22
    rw [show Tryd.checked.prog.bytesOf 5 = 1 by kernel_rfl] at this; omega)
  have hT := tab_of_laid hL
  clear hA0 hval0 hsz hL
  simp only [List.append_nil] at hW'
  refine (walk a0 w0 v1 l1 b1 s1 hT).mono fun e W' ⟨he, hg⟩ => ?_
  subst he
  exact ⟨_, rfl, _, _, _, [], _, [], hW', trodAll_mk1 (shut_bool Tryd.underlying4 _), (trodAll_cons_mk (shut_string Tryd.underlying9 w0) (trodAll_cons_mk (Below.trod laidOut (by kernel_rfl) (of_decide_eq_true (by kernel_rfl)) k1 hg lt1) trodAll_mk0)), rfl, hg.frame _, fun h => by cases h⟩

theorem over : Rows.groupHashRow.holds Tryd.pinned (OpenSpec.ofChange Rows.groupHashSpec) :=
  OpenClaim.holds_of_wide 3 Tryd.f3 rfl rfl rfl rfl rfl rfl rfl ⟨rfl, rfl, rfl, rfl, rfl⟩ rfl rfl rfl rfl rfl (by kernel_rfl) Tryd.func3 (by kernel_rfl)
    (of_decide_eq_true (by kernel_rfl)) (by unfold Func.isWrapper; first | (rw [if_pos (by decide +kernel)]; kernel_rfl) | (rw [if_neg (by decide +kernel)]; exact ⟨rfl, rfl⟩))
    (fun os started H enc _ => lifted os started H enc)

end Go.Proofs.YtdcpejfnhegdaaaDoor.groupHash
namespace Go.Proofs.YtdcpejfnhegdaaaDoor
set_option maxRecDepth 100000 in
theorem groupHash_holds : Rows.GroupHashCardSaid :=
  Claim7.holds_tied_plain_at .later [] [.data, .data] true _ false
    groupHash.over (fun _ h => by cases h) (by kernel_rfl) (fun _ h => by cases h) groupHash_row_tie rfl ⟨rfl, rfl⟩ (by kernel_rfl) rfl
    (fun f fn hf hfn => by
      obtain rfl : f = 3 := Option.some.inj ((show Tryd.prog.funcNamed "chartroom/chartroomlaw04.GroupHash" = some 3 by kernel_rfl).symm.trans hf) |>.symm
      obtain rfl : fn = Tryd.f3 := (Option.some.inj (Tryd.func3.symm.trans hfn)).symm
      exact ⟨by kernel_rfl, fun j t ht => by
        rw [Tryd.params3] at ht
        have hm : t ∈ [9, 22] := by simpa using Array.mem_of_getElem? ht
        have hall : ([9, 22].all fun u => !Tryd.prog.wantsStandIn u) = true := by kernel_rfl
        exact (show Tryd.prog.wantsStandIn t = false by simpa using List.all_eq_true.1 hall t hm)⟩)
    (by kernel_rfl)
#print axioms groupHash_holds
end Go.Proofs.YtdcpejfnhegdaaaDoor
