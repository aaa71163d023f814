/- GroupDetermined: scalars and points depend on the digest alone, and are in range: returns true for every input. No condition beyond the card's own: the two tables of package digest are tied to the program's text. -/
import Derived.Test.YtdcpejfnhegdaaaDoorDigest
import Derived.Test.YtdcpejfnhegdaaaDoorSane4
import Derived.Test.YtdcpejfnhegdaaaDoorLaid
import Derived.Test.YtdcpejfnhegdaaaDoorCards
namespace Go.Proofs.YtdcpejfnhegdaaaDoor.groupDetermined
open Go.ChangeShapes Go.WideShapes Go.ChangeAt Go.RowKit
open Go.ChangeMaps (open_string shut_string)
set_option linter.unusedVariables false
set_option linter.unusedSimpArgs false

/-- the walk where both tags and both slices are short enough -/
def Short (m1 m2 n1 n2 : Nat) : Prop := m1 + m2 ≤ 300 ∧ n1 + n2 ≤ 1000

set_option maxRecDepth 100000 in
set_option maxHeartbeats 2000000 in
theorem walk {w : World} (s : ByteArray) (w0 : s.size ≤ 140737488351232) (t : ByteArray) (w1 : t.size ≤ 140737488351232) (v : Value) (l : List UInt8) (hv : BytesAt w v l) (hs : ∃ a cap, v = .slice a l.length cap)
    (v' : Value) (l' : List UInt8) (hv' : BytesAt w v' l') (hs' : ∃ a cap, v' = .slice a l'.length cap) (hT : Tab w) :
    Calls Tryd.prog 4 #[.string s, .string t, v, v'] w fun e w' => e = .returned (.bool true) ∧ Below w.heap.size w w' := by
  have hll := hv.len_le
  have hll' := hv'.len_le
  obtain ⟨a, cap, rfl⟩ := hs
  obtain ⟨a', cap', rfl⟩ := hs'
  obtain ⟨g1, hg1⟩ : ∃ g, Sha.tagged s.data.toList l = g := ⟨_, rfl⟩
  obtain ⟨g2, hg2⟩ : ∃ g, Sha.tagged t.data.toList l' = g := ⟨_, rfl⟩
  have L1 : g1.length = 32 := hg1 ▸ tagged_len _ _
  have L2 : g2.length = 32 := hg2 ▸ tagged_len _ _
  obtain ⟨k, hk⟩ : ∃ k, scalarM s.data.toList l = k := ⟨_, rfl⟩
  obtain ⟨p, hp⟩ : ∃ p, pointM s.data.toList l = p := ⟨_, rfl⟩
  obtain ⟨k', hk'⟩ : ∃ k, scalarM t.data.toList l' = k := ⟨_, rfl⟩
  obtain ⟨p', hp'⟩ : ∃ p, pointM t.data.toList l' = p := ⟨_, rfl⟩
  have same : g1 = g2 → k = k' ∧ p = p' := by
    intro h
    subst hk hp hk' hp' hg1 hg2
    unfold scalarM pointM pointX
    rw [h]; exact ⟨rfl, rfl⟩
  have kb := hk ▸ scalarM_bd s.data.toList l
  have pel : El p := hp ▸ pointM_El _ _
  have pne : p ≠ 1 := hp ▸ pointM_ne_one _ _
  have ne : ∀ W, (binOp .neq 29 (digV g1) (digV g2)).run Tryd.prog W = .ok (.bool (!(g1 == g2))) W := fun W => neq_dig W _ Tryd.underlying29 L1 L2
  have ng : ∀ x y W, (eqGuard .neq 29 x y (digV g1) (digV g2)).run Tryd.prog W = .ok () W := fun x y W => guard_dig W _ _ x y _ _ (by kernel_rfl)
  obtain ⟨D1, hD1⟩ : ∃ D, digV g1 = D := ⟨_, rfl⟩
  obtain ⟨D2, hD2⟩ : ∃ D, digV g2 = D := ⟨_, rfl⟩
  rw [hD1, hD2] at ne ng
  have c1 : s.size ≤ 300 → l.length ≤ 1000 → ∀ w1, Below w.heap.size w w1 → Calls Tryd.prog 13 #[.string s, .slice a l.length cap] w1 fun e w' => e = .returned (.int .i64 (k : Int)) ∧ Below w1.heap.size w1 w' := fun q1 q2 w1 h => hk ▸ scalar_any s _ l w1 (by omega) (by omega) (hv.below h) (hT.below h)
  have c2 : t.size ≤ 300 → l'.length ≤ 1000 → ∀ w1, Below w.heap.size w w1 → Calls Tryd.prog 13 #[.string t, .slice a' l'.length cap'] w1 fun e w' => e = .returned (.int .i64 (k' : Int)) ∧ Below w1.heap.size w1 w' := fun q1 q2 w1 h => hk' ▸ scalar_any t _ l' w1 (by omega) (by omega) (hv'.below h) (hT.below h)
  have c3 : s.size ≤ 300 → l.length ≤ 1000 → ∀ w1, Below w.heap.size w w1 → Calls Tryd.prog 15 #[.string s, .slice a l.length cap] w1 fun e w' => e = .returned (.int .i64 (p : Int)) ∧ Below w1.heap.size w1 w' := fun q1 q2 w1 h => hp ▸ point_any s _ l w1 (by omega) (by omega) (hv.below h) (hT.below h)
  have c4 : t.size ≤ 300 → l'.length ≤ 1000 → ∀ w1, Below w.heap.size w w1 → Calls Tryd.prog 15 #[.string t, .slice a' l'.length cap'] w1 fun e w' => e = .returned (.int .i64 (p' : Int)) ∧ Below w1.heap.size w1 w' := fun q1 q2 w1 h => hp' ▸ point_any t _ l' w1 (by omega) (by omega) (hv'.below h) (hT.below h)
  have c5 : s.size ≤ 300 → l.length ≤ 1000 → ∀ w1, Below w.heap.size w w1 → Calls Tryd.prog 18 #[.string s, .slice a l.length cap] w1 fun e w' => e = .returned D1 ∧ Below w1.heap.size w1 w' := fun q1 q2 w1 h => hD1 ▸ hg1 ▸ tagged_any s _ l w1 (by omega) (by omega) (hv.below h) (hT.below h)
  have c6 : t.size ≤ 300 → l'.length ≤ 1000 → ∀ w1, Below w.heap.size w w1 → Calls Tryd.prog 18 #[.string t, .slice a' l'.length cap'] w1 fun e w' => e = .returned D2 ∧ Below w1.heap.size w1 w' := fun q1 q2 w1 h => hD2 ▸ hg2 ▸ tagged_any t _ l' w1 (by omega) (by omega) (hv'.below h) (hT.below h)
  clear hk hp hv hT hk' hp' hv' hg1 hg2 hD1 hD2 L1 L2
  have c7 := fun W => check_El pel W
  obtain ⟨n, hn⟩ : ∃ n, l.length = n := ⟨_, rfl⟩
  obtain ⟨n', hn'⟩ : ∃ n, l'.length = n := ⟨_, rfl⟩
  rw [hn] at c1 c3 c5 ⊢
  rw [hn'] at c2 c4 c6 ⊢
  rw [hn] at hll
  rw [hn'] at hll'
  clear hn hn'
  obtain ⟨m, hm⟩ : ∃ m, s.size = m := ⟨_, rfl⟩
  obtain ⟨m', hm'⟩ : ∃ m, t.size = m := ⟨_, rfl⟩
  rw [hm] at c1 c3 c5 w0
  rw [hm'] at c2 c4 c6 w1
  have z1 : IntKind.i64.wrap ((n : Int) + (n' : Int)) = (n : Int) + (n' : Int) := by rw [IntKind.wrap_i64]; omega
  by_cases h1 : m + m' ≤ 300
  · have z0 : IntKind.i64.wrap ((m : Int) + (m' : Int)) = (m : Int) + (m' : Int) := by rw [IntKind.wrap_i64]; omega
    have d1 : decide (300 < (m : Int) + (m' : Int)) = false := by rw [decide_eq_false_iff_not]; omega
    by_cases h2 : n + n' ≤ 1000
    · have C1 := Lib.hid (c1 (by omega) (by omega)); have C2 := Lib.hid (c2 (by omega) (by omega)); have C3 := Lib.hid (c3 (by omega) (by omega)); have C4 := Lib.hid (c4 (by omega) (by omega)); have C5 := Lib.hid (c5 (by omega) (by omega)); have C6 := Lib.hid (c6 (by omega) (by omega)); have C7 := Lib.hid c7
      have d2 : decide (1000 < (n : Int) + (n' : Int)) = false := by rw [decide_eq_false_iff_not]; omega
      have d3 : decide ((k : Int) < 1) = false := by rw [decide_eq_false_iff_not]; omega
      have d4 : decide (2305843009213688669 ≤ (k : Int)) = false := by rw [decide_eq_false_iff_not]; omega
      have d5 : ((p : Int) == 1) = false := by rw [beq_eq_false_iff_ne]; omega
      have d6 : decide (p = 1) = false := by rw [decide_eq_false_iff_not]; omega
      have d7 : (p == 1) = false := by rw [beq_eq_false_iff_ne]; omega
      have d8 : decide (k < 1) = false := by rw [decide_eq_false_iff_not]; omega
      have d9 : decide (2305843009213688669 ≤ k) = false := by rw [decide_eq_false_iff_not]; omega
      have k0 : (k = 0) = False := by simp; omega
      clear h1 h2 c1 c2 c3 c4 c5 c6 c7 kb pel hll hll' w0 w1
      go_enter Tryd.func4, Tryd.ntmps4
      go_wp2_with fail
      refine (sane4_any _).mono ?_
      rintro e w1 ⟨rfl, b1⟩
      have B1 := Lib.hid b1
      clear b1
      go_wp2_with fail
      refine (C1.out _ B1.out).mono ?_
      rintro e w2 ⟨rfl, b2⟩
      have B2 := Lib.hid (B1.out.trans (b2.mono B1.out.size))
      clear b2
      go_wp2_with fail
      refine (C3.out _ B2.out).mono ?_
      rintro e w3 ⟨rfl, b3⟩
      have B3 := Lib.hid (B2.out.trans (b3.mono B2.out.size))
      clear b3
      go_wp2_with fail
      refine (C7.out _).mono ?_
      rintro e w4 ⟨rfl, b4⟩
      have B4 := Lib.hid (B3.out.trans (b4.mono B3.out.size))
      clear b4
      go_wp2_with fail
      refine (C5.out _ B4.out).mono ?_
      rintro e w5 ⟨rfl, b5⟩
      have B5 := Lib.hid (B4.out.trans (b5.mono B4.out.size))
      clear b5
      go_wp2_with fail
      refine (C6.out _ B5.out).mono ?_
      rintro e w6 ⟨rfl, b6⟩
      have B6 := Lib.hid (B5.out.trans (b6.mono B5.out.size))
      clear b6
      by_cases hg : g1 = g2
      · obtain ⟨rfl, rfl⟩ := same hg
        have ne' : (g1 == g2) = true := by simp [hg]
        rw [ne'] at ne
        clear ne' hg same
        go_wp2_with fail
        refine (C2.out _ B6.out).mono ?_
        rintro e w7 ⟨rfl, b7⟩
        have B7 := Lib.hid (B6.out.trans (b7.mono B6.out.size))
        clear b7
        go_wp2_with fail
        refine (C4.out _ B7.out).mono ?_
        rintro e w8 ⟨rfl, b8⟩
        have B8 := Lib.hid (B7.out.trans (b8.mono B7.out.size))
        clear b8
        go_wp2_with fail
        go_ret
        exact ⟨rfl, B8.out⟩
      · have ne' : (g1 == g2) = false := by simp [hg]
        rw [ne'] at ne
        clear ne' hg same
        go_wp2_with fail
        go_ret
        exact ⟨rfl, B6.out⟩
    · have d2 : decide (1000 < (n : Int) + (n' : Int)) = true := by rw [decide_eq_true_iff]; omega
      clear h1 h2 c1 c2 c3 c4 c5 c6 c7 kb pel pne same hll hll' w0 w1
      go_enter Tryd.func4, Tryd.ntmps4
      go_wp2_with fail
      refine (sane4_any _).mono ?_
      rintro e w1 ⟨rfl, b1⟩
      go_wp2_with fail
      go_ret
      exact ⟨rfl, b1⟩
  · have z0 : IntKind.i64.wrap ((m : Int) + (m' : Int)) = (m : Int) + (m' : Int) := by rw [IntKind.wrap_i64]; omega
    have d1 : decide (300 < (m : Int) + (m' : Int)) = true := by rw [decide_eq_true_iff]; omega
    clear h1 c1 c2 c3 c4 c5 c6 c7 kb pel pne same hll hll' w0 w1
    go_enter Tryd.func4, Tryd.ntmps4
    go_wp2_with fail
    refine (sane4_any _).mono ?_
    rintro e w1 ⟨rfl, b1⟩
    go_wp2_with fail
    go_ret
    exact ⟨rfl, b1⟩

set_option maxRecDepth 100000 in
set_option maxHeartbeats 1000000 in
theorem lifted (os : Os) (started : os.Started) (H : Type) (enc : TypeId × Value → H) :
    ReturnsInHanded {} Tryd.checked os 4 .any (fun w args => (Rows.groupDeterminedSpec.pre enc Tryd.prog Tryd.f4 [] false w args ∧ laidMetH Tryd.prog laidL w) ∧ sizedMet enc Tryd.prog Tryd.f4 (OpenSpec.ofChange Rows.groupDeterminedSpec) false w args)
      (Rows.groupDeterminedSpec.post enc Tryd.prog Tryd.f4 false true false false) := by
  refine returnsInHanded_of_change_and (C := Tryd.checked) (X := fun w _ => laidMetH Tryd.prog laidL w) (fun _ _ _ hh h => h.of_heap hh) own started (by kernel_rfl) Tryd.func4
    (ChangeSpec.witness_shaped (enc := enc) (C := Tryd.checked) (os := os) (X := fun w _ => laidMetH Tryd.prog laidL w) false (World.doorLaid Tryd.prog 19 os) #[.string ByteArray.empty, .string ByteArray.empty, .slice none 0 0, .slice none 0 0] 8 rfl (World.shaped_of_RefB (by kernel_rfl) (by kernel_rfl)) (by kernel_rfl) (by kernel_rfl) (by kernel_rfl) (door_met os _)) ?_
  intro W base args ds gs before hval0 hW _ hsz hL _
  have hval : ∀ (j : Nat) t v, Tryd.f4.params[j]? = some t → args[j]? = some v → Value.okWide Tryd.prog W .any base t v := hval0
  have hW' := hW
  obtain ⟨p, q, hA0, hV, rfl, hfz, hnd⟩ := hW
  have hA : DataW.TrodAll enc Tryd.prog W 0 (fun _ => true) true Tryd.f4.params.toList args.toList ds p := hA0
  rw [Tryd.params4] at hA hval
  obtain ⟨v0, vs0, d0, ds0, p0, q0, hargs, rfl, rfl, h0, r0⟩ := trodAll_cons hA
  obtain ⟨v1, vs1, d1, ds1, p1, q1, rfl, rfl, rfl, h1, r1⟩ := trodAll_cons r0
  obtain ⟨v2, vs2, d2, ds2, p2, q2, rfl, rfl, rfl, h2, r2⟩ := trodAll_cons r1
  obtain ⟨v3, vs3, d3, ds3, p3, q3, rfl, rfl, rfl, h3, r3⟩ := trodAll_cons r2
  obtain ⟨rfl, rfl, rfl⟩ := trodAll_nil r3
  obtain rfl : args = #[v0, v1, v2, v3] := by cases args; simp_all
  obtain ⟨rfl, rfl⟩ := trodVars_none hV
  obtain ⟨a0, rfl, rfl, rfl, w0⟩ := open_string Tryd.underlying9 (hval 0 9 v0 rfl rfl) h0
  have y0 : a0.size ≤ 140737488351232 := by
    have := sized_string hsz (j := 0) (t := 9) (bytes := a0.data.toList) (by kernel_rfl) rfl
    unfold reachBytes at this; simpa using this
  obtain ⟨a1, rfl, rfl, rfl, w1⟩ := open_string Tryd.underlying9 (hval 1 9 v1 rfl rfl) h1
  have y1 : a1.size ≤ 140737488351232 := by
    have := sized_string hsz (j := 1) (t := 9) (bytes := a1.data.toList) (by kernel_rfl) rfl
    unfold reachBytes at this; simpa using this
  have k2 := h2
  have lt2 : ∀ x ∈ p2, x.block < W.heap.size := by obtain ⟨m, hm⟩ := k2; exact DataW.trod_lt m _ _ _ hm
  obtain ⟨l2, b2, s2⟩ := bytes_open (hval 2 22 v2 rfl rfl) h2 (fun elems spare e => by
    have := sized_slice hsz (j := 2) (t := 22) (e := 5) (elems := elems) (spare := spare) (by kernel_rfl) (by rw [← e]; rfl) Tryd.underlying22
    rw [show Tryd.checked.prog.bytesOf 5 = 1 by kernel_rfl] at this; omega)
  have k3 := h3
  have lt3 : ∀ x ∈ p3, x.block < W.heap.size := by obtain ⟨m, hm⟩ := k3; exact DataW.trod_lt m _ _ _ hm
  obtain ⟨l3, b3, s3⟩ := bytes_open (hval 3 22 v3 rfl rfl) h3 (fun elems spare e => by
    have := sized_slice hsz (j := 3) (t := 22) (e := 5) (elems := elems) (spare := spare) (by kernel_rfl) (by rw [← e]; rfl) Tryd.underlying22
    rw [show Tryd.checked.prog.bytesOf 5 = 1 by kernel_rfl] at this; omega)
  have hT := tab_of_laid hL
  clear hA0 hval0 hsz hL
  simp only [List.append_nil] at hW'
  refine (walk a0 y0 a1 y1 v2 l2 b2 s2 v3 l3 b3 s3 hT).mono fun e W' ⟨he, hg⟩ => ?_
  subst he
  exact ⟨_, rfl, _, _, _, [], _, [], hW', trodAll_mk1 (shut_bool Tryd.underlying4 _), (trodAll_cons_mk (shut_string Tryd.underlying9 w0) (trodAll_cons_mk (shut_string Tryd.underlying9 w1) (trodAll_cons_mk (Below.trod laidOut (by kernel_rfl) (of_decide_eq_true (by kernel_rfl)) k2 hg lt2) (trodAll_cons_mk (Below.trod laidOut (by kernel_rfl) (of_decide_eq_true (by kernel_rfl)) k3 hg lt3) trodAll_mk0)))), rfl, hg.frame _, fun h => by cases h⟩

theorem over : Rows.groupDeterminedRow.holds Tryd.pinned (OpenSpec.ofChange Rows.groupDeterminedSpec) :=
  OpenClaim.holds_of_wide 4 Tryd.f4 rfl rfl rfl rfl rfl rfl rfl ⟨rfl, rfl, rfl, rfl, rfl⟩ rfl rfl rfl rfl rfl (by kernel_rfl) Tryd.func4 (by kernel_rfl)
    (of_decide_eq_true (by kernel_rfl)) (by unfold Func.isWrapper; first | (rw [if_pos (by decide +kernel)]; kernel_rfl) | (rw [if_neg (by decide +kernel)]; exact ⟨rfl, rfl⟩))
    (fun os started H enc _ => lifted os started H enc)

end Go.Proofs.YtdcpejfnhegdaaaDoor.groupDetermined
namespace Go.Proofs.YtdcpejfnhegdaaaDoor
set_option maxRecDepth 100000 in
theorem groupDetermined_holds : Rows.GroupDeterminedCardSaid :=
  Claim7.holds_tied_plain_at .later [] [.data, .data] true _ false
    groupDetermined.over (fun _ h => by cases h) (by kernel_rfl) (fun _ h => by cases h) groupDetermined_row_tie rfl ⟨rfl, rfl⟩ (by kernel_rfl) rfl
    (fun f fn hf hfn => by
      obtain rfl : f = 4 := Option.some.inj ((show Tryd.prog.funcNamed "chartroom/chartroomlaw04.GroupDetermined" = some 4 by kernel_rfl).symm.trans hf) |>.symm
      obtain rfl : fn = Tryd.f4 := (Option.some.inj (Tryd.func4.symm.trans hfn)).symm
      exact ⟨by kernel_rfl, fun j t ht => by
        rw [Tryd.params4] at ht
        have hm : t ∈ [9, 9, 22, 22] := by simpa using Array.mem_of_getElem? ht
        have hall : ([9, 9, 22, 22].all fun u => !Tryd.prog.wantsStandIn u) = true := by kernel_rfl
        exact (show Tryd.prog.wantsStandIn t = false by simpa using List.all_eq_true.1 hall t hm)⟩)
    (by kernel_rfl)
#print axioms groupDetermined_holds
end Go.Proofs.YtdcpejfnhegdaaaDoor
