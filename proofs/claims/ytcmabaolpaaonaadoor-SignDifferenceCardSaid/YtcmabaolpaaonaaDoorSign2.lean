/- Package sign and its reference: challenges. -/
import Derived.Test.YtcmabaolpaaonaaDoorSign1
import Derived.Test.YtcmabaolpaaonaaDoorFloat
import Derived.Test.YtcmabaolpaaonaaDoorOf
set_option linter.unusedVariables false
set_option linter.unusedSimpArgs false
namespace Go.Proofs.YtcmabaolpaaonaaDoor
open Go.RowKit

set_option maxRecDepth 100000 in
set_option maxHeartbeats 2000000 in
theorem challenge_any (p r : Int) (v : Value) (m : List UInt8) (w : World) (hm : m.length ≤ 1000) (hv : BytesAt w v m) (hT : Tab w) :
    Calls Tryd.prog 22 #[.int .i64 p, .int .i64 r, v] w fun e w' => e = .returned (.int .i64 ((chal p r m : Nat) : Int)) ∧ Below w.heap.size w w' := by
  obtain ⟨va, vc, rfl⟩ := hv.slice
  have Hv := Lib.hid hv
  have HT := Lib.hid hT
  have C1 := Lib.hid (fun W => number_any r W)
  have C2 := Lib.hid (fun W => number_any p W)
  have Hm := Lib.hid hm
  have L1 := Lib.hid (show (num8 r).length + (num8 p).length ≤ 140737488351232 from by rw [num8_len, num8_len]; omega)
  have L2 := Lib.hid (show (num8 r ++ num8 p).length + m.length ≤ 140737488351232 from by rw [List.length_append, num8_len, num8_len]; omega)
  have L3 := Lib.hid (show (num8 r ++ num8 p ++ m).length ≤ 1000000 from by rw [List.length_append, List.length_append, num8_len, num8_len]; omega)
  clear hv hT hm
  go_enter Tryd.func22, Tryd.ntmps22
  go_wp2_with fail
  refine (C1.out _).mono ?_
  rintro e w1 ⟨⟨u1, rfl, o1⟩, b1⟩
  have O1 := Lib.hid o1
  have B1 := Lib.hid b1
  obtain ⟨a1, c1, rfl⟩ := o1.slice
  clear o1 b1
  go_wp2_with fail
  refine (C2.out _).mono ?_
  rintro e w2 ⟨⟨u2, rfl, o2⟩, b2⟩
  have O2 := Lib.hid (o2.bytesAt (by rw [num8_len]; omega))
  have B2 := Lib.hid (B1.out.trans (b2.mono B1.out.size))
  have O1' := Lib.hid (O1.out.below b2)
  obtain ⟨a2, c2, rfl⟩ := o2.slice
  clear o2 b2 O1
  go_wp2_with (first
    | ((with_reducible (show wpList _ _ _ (Oper.mk (some 11) _ _ _ _ _ :: _) _ _)); refine wpList_append_bytes rfl (.tmp 8) (.tmp 10) rfl w.heap.size (.slice a1 (num8 r).length c1) (.slice a2 (num8 p).length c2) _ _ rfl rfl O1'.out O2.out L1.out B2.out.size ?_; intro v3 w3 O3 B3 _)
    | ((with_reducible (show wpList _ _ _ (Oper.mk (some 13) _ _ _ _ _ :: _) _ _)); refine wpList_append_bytes rfl (.tmp 11) (.tmp 12) rfl w.heap.size v3 (.slice va m.length vc) _ _ rfl rfl O3.out (Hv.out.below (B2.out.trans B3.out)) L2.out (B2.out.trans B3.out).size ?_; intro v4 w4 O4 B4 _))
  have B5 := (B2.out.trans B3.out).trans B4.out
  refine (scalar_any sSign v4 _ w4 (by decide) L3.out (O4.out.bytesAt (by have := L3.out; omega)) (HT.out.below B5)).mono ?_
  rintro e w5 ⟨rfl, b5⟩
  have B6 := Lib.hid (B5.trans (b5.mono B5.size))
  clear b5 B5
  go_wp2_with fail
  go_ret
  refine ⟨?_, B6.out⟩
  unfold chal hashM
  rw [← nums8_two, List.append_assoc]
  rfl

set_option maxRecDepth 100000 in
set_option maxHeartbeats 2000000 in
theorem rchallenge_any (p r : Int) (v : Value) (m : List UInt8) (w : World) (hm : m.length ≤ 1000) (hv : BytesAt w v m) :
    Calls Tryd.prog 39 #[.int .i64 p, .int .i64 r, v] w fun e w' => e = .returned (.int .i64 ((chal p r m : Nat) : Int)) ∧ Below w.heap.size w w' := by
  obtain ⟨va, vc, rfl⟩ := hv.slice
  have Hv := Lib.hid hv
  have C1 := Lib.hid (fun W => rbytes_any r W)
  have C2 := Lib.hid (fun W => rbytes_any p W)
  have Hm := Lib.hid hm
  have L1 := Lib.hid (show (num8 r).length + (num8 p).length ≤ 140737488351232 from by rw [num8_len, num8_len]; omega)
  have L2 := Lib.hid (show (num8 r ++ num8 p).length + m.length ≤ 140737488351232 from by rw [List.length_append, num8_len, num8_len]; omega)
  have L3 := Lib.hid (show (num8 r ++ num8 p ++ m).length ≤ 1000000 from by rw [List.length_append, List.length_append, num8_len, num8_len]; omega)
  clear hv hm
  go_enter Tryd.func39, Tryd.ntmps39
  go_wp2_with fail
  refine (C1.out _).mono ?_
  rintro e w1 ⟨⟨u1, rfl, o1⟩, b1⟩
  have O1 := Lib.hid o1
  have B1 := Lib.hid b1
  obtain ⟨a1, c1, rfl⟩ := o1.slice
  clear o1 b1
  go_wp2_with fail
  refine (C2.out _).mono ?_
  rintro e w2 ⟨⟨u2, rfl, o2⟩, b2⟩
  have O2 := Lib.hid (o2.bytesAt (by rw [num8_len]; omega))
  have B2 := Lib.hid (B1.out.trans (b2.mono B1.out.size))
  have O1' := Lib.hid (O1.out.below b2)
  obtain ⟨a2, c2, rfl⟩ := o2.slice
  clear o2 b2 O1
  go_wp2_with (first
    | ((with_reducible (show wpList _ _ _ (Oper.mk (some 11) _ _ _ _ _ :: _) _ _)); refine wpList_append_bytes rfl (.tmp 8) (.tmp 10) rfl w.heap.size (.slice a1 (num8 r).length c1) (.slice a2 (num8 p).length c2) _ _ rfl rfl O1'.out O2.out L1.out B2.out.size ?_; intro v3 w3 O3 B3 _)
    | ((with_reducible (show wpList _ _ _ (Oper.mk (some 13) _ _ _ _ _ :: _) _ _)); refine wpList_append_bytes rfl (.tmp 11) (.tmp 12) rfl w.heap.size v3 (.slice va m.length vc) _ _ rfl rfl O3.out (Hv.out.below (B2.out.trans B3.out)) L2.out (B2.out.trans B3.out).size ?_; intro v4 w4 O4 B4 _))
  have B5 := (B2.out.trans B3.out).trans B4.out
  refine (rscalar_any sSign v4 _ w4 (by decide) L3.out (O4.out.bytesAt (by have := L3.out; omega))).mono ?_
  rintro e w5 ⟨rfl, b5⟩
  have B6 := Lib.hid (B5.trans (b5.mono B5.size))
  clear b5 B5
  go_wp2_with fail
  go_ret
  refine ⟨?_, B6.out⟩
  unfold chal hashM
  rw [← nums8_two, List.append_assoc]
  rfl

/-- the key that any number stands for -/
def keyM (z : Int) : Nat := 1 + ofQ z % 2305843009213688668
theorem keyM_bd (z : Int) : 1 ≤ keyM z ∧ keyM z < 2305843009213688669 := by unfold keyM; omega
theorem key_any (z : Int) (w : World) (hz : (Lit.int .i64 z).wf = true) :
    Calls Tryd.prog 11 #[.int .i64 z] w fun e w' => e = .returned (.int .i64 ((keyM z : Nat) : Int)) ∧ w = w' := by
  have h := fun W => of_any z W
  unfold keyM
  obtain ⟨n, hn⟩ : ∃ n, ofQ z = n := ⟨_, rfl⟩
  rw [hn] at h ⊢
  have H := Lib.hid h
  have z0 : (0 : Int) ≤ (n : Int) := Int.natCast_nonneg n
  have e1 : (n : Int).tmod 2305843009213688668 = ((n % 2305843009213688668 : Nat) : Int) := by rw [Int.tmod_eq_emod_of_nonneg z0, Int.natCast_emod]; rfl
  obtain ⟨q, hq⟩ : ∃ q, n % 2305843009213688668 = q := ⟨_, rfl⟩
  rw [hq] at e1 ⊢
  have hql : q < 2305843009213688668 := by omega
  have e2 : IntKind.i64.wrap (1 + (q : Int)) = 1 + (q : Int) := by rw [IntKind.wrap_i64]; omega
  have e3 : ((1 + q : Nat) : Int) = 1 + (q : Int) := by omega
  rw [e3]
  clear h hn hq hql e3
  go_enter Tryd.func11, Tryd.ntmps11
  go_wp2_with fail
  refine (H.out _).mono ?_
  rintro e w1 ⟨rfl, rfl⟩
  go_wp2_with fail
  go_ret
  exact ⟨rfl, rfl⟩
end Go.Proofs.YtcmabaolpaaonaaDoor
