/- Package sign: Sign. Package sign: Sign, of a valid key. The reference of package sign: Sign, Verify. The reference of package sign: Verify. The laws of package sign: what is signed is accepted; the contracts that the laws call. -/
import Derived.Test.YtmmppibbglacdaaDoorPk28
import Derived.Laws.ResultCell
import Derived.Laws.StructEq
set_option linter.unusedVariables false
set_option linter.unusedSimpArgs false
namespace Go.Proofs.YtmmppibbglacdaaDoor
open Go.RowKit
def sigF (r s : Int) : Nat → Value := fun i => if i = 0 then .int .i64 r else .int .i64 s
def nonceM (x : Int) (m : List UInt8) : Nat := hashM sNonce.data.toList m [x]
def sPlan : Plan := flAll [0, 1, 2, 3, 7] (.one 4 (.one 5 (.one 6 (.one 8 (flAll [9, 10, 11, 12] .done)))))
set_option maxRecDepth 100000 in
set_option maxHeartbeats 4000000 in
theorem sign_no (x : Int) (v : Value) (w : World) (hx : privB x = false) (hv : ∃ a l c, v = .slice a l c) :
    Calls Tryd.prog 43 #[.int .i64 x, v] w fun e w' => e = .returned (.tuple #[.agg #[.int .i64 0, .int .i64 0], .int .i64 50]) ∧ Below w.heap.size w w' := by
  have C1 := fun W => valid_any x W
  rw [hx] at C1
  have H1 := Lib.hid C1
  clear C1 hx
  have R0 := Lib.hid (RowV.new w 25 2 (sigF 0 0))
  go_enter Tryd.func43, Tryd.ntmps43
  go_wp2_with fail
  refine (H1.out _).mono ?_
  rintro e w1 ⟨rfl, rfl⟩
  go_wp2_with fail
  refine bodyPost_ret (v := .tuple #[.agg #[.int .i64 0, .int .i64 0], .int .i64 50]) (by exact results_rowV2 (fn := Tryd.f43) (p := 4) (u := 5) (ty := 25) rfl _ _ w.heap.size 2 25 (sigF 0 0) _ rfl R0.out Tryd.underlying25 rfl (by kernel_rfl)) rfl ⟨rfl, ?_⟩
  exact (Below.refl _ w).alloc (Nat.le_refl _) _
end Go.Proofs.YtmmppibbglacdaaDoor

namespace Go.Proofs.YtmmppibbglacdaaDoor
open Go.RowKit
theorem priv_nat {x : Int} (h : privB x = true) : ∃ n : Nat, x = (n : Int) ∧ 1 ≤ n ∧ n < 2305843009213688669 := by
  unfold privB at h
  simp only [Bool.and_eq_true, decide_eq_true_eq] at h
  exact ⟨x.toNat, by omega, by omega, by omega⟩
def pubM (x : Nat) : Nat := powP 4 x
def sigR (x : Nat) (m : List UInt8) : Nat := powP 4 (nonceM x m)
def sigS (x : Nat) (m : List UInt8) : Nat := addQ (nonceM x m) (mulQ (chal (pubM x) (sigR x m) m) x)
theorem gexp4 {k : Nat} (hk : k < 2305843009213688669) : gexpV 4 (k : Int) = ((powP 4 k : Nat) : Int) := by
  unfold gexpV; rw [el4, scalB_of hk]; rfl
set_option maxRecDepth 100000 in
set_option maxHeartbeats 4000000 in
theorem sign_yes (x : Nat) (hx1 : 1 ≤ x) (hx2 : x < 2305843009213688669) (v : Value) (m : List UInt8) (w : World) (hm : m.length ≤ 1000) (hv : BytesAt w v m) (hT : Tab w) :
    Calls Tryd.prog 43 #[.int .i64 (x : Int), v] w fun e w' => e = .returned (.tuple #[.agg (rowF 2 (sigF (sigR x m) (sigS x m))), .int .i64 0]) ∧ Below w.heap.size w w' := by
  have hp : privB (x : Int) = true := by unfold privB; simp only [Bool.and_eq_true, decide_eq_true_eq]; omega
  have C1 := fun W => valid_any (x : Int) W
  rw [hp] at C1
  have nb : 1 ≤ nonceM (x : Int) m ∧ nonceM (x : Int) m < 2305843009213688669 := hashM_bd sNonce.data.toList m [(x : Int)]
  have C2 := fun W => gbase_any ((nonceM (x : Int) m : Nat) : Int) W
  have C3 := fun W => public_any (x : Int) W
  have C4 := fun W => fmul_yes (chal (pubM x) (sigR x m) m) x (chal_bd _ _ _).2 hx2 W
  have C5 := fun W => fadd_yes (nonceM (x : Int) m) (mulQ (chal (pubM x) (sigR x m) m) x) nb.2 (mulQ_lt _ _) W
  rw [gexp4 nb.2, gexpE4 (scalB_of nb.2)] at C2
  rw [gexp4 hx2] at C3
  obtain ⟨va, vc, rfl⟩ := hv.slice
  have Hv := Lib.hid hv
  have HT := Lib.hid hT
  have Hm := Lib.hid hm
  have H1 := Lib.hid C1
  have H2 := Lib.hid C2
  have H3 := Lib.hid C3
  have H4 := Lib.hid C4
  have H5 := Lib.hid C5
  have R0 := Lib.hid (RowV.new w 25 2 (sigF 0 0))
  have A0 := Lib.hid ((Below.refl _ w).alloc (Nat.le_refl _) (.cells (rowF 2 (sigF 0 0)) 25))
  clear C1 C2 C3 C4 C5 hv hT hm hp nb hx1 hx2
  go_enter Tryd.func43, Tryd.ntmps43
  go_wp2_with fail
  refine (H1.out _).mono ?_
  rintro e w0 ⟨rfl, rfl⟩
  go_upto_region 5 with fail
  obtain ⟨w1, hw1⟩ : ∃ y, w.alloc (.cells (rowF 2 (sigF 0 0)) 25) = y := ⟨_, rfl⟩
  have hw2 : w.alloc (.cells #[.int .i64 0, .int .i64 0] 25) = w1 := hw1
  rw [hw1] at R0 A0
  rw [hw2]
  clear hw1 hw2
  obtain ⟨bs, hbs⟩ : ∃ y, w.heap.size = y := ⟨_, rfl⟩
  have Hbs := Lib.hid hbs
  rw [hbs] at R0 ⊢
  clear hbs
  go_wp2_with fail
  have al := (Below.refl _ w1).alloc (Nat.le_refl _) (.cells #[.int .i64 (x : Int)] 3)
  have BA := A0.out.trans (al.mono A0.out.size)
  refine (hash_any sNonce _ m w1.heap.size 1 [(x : Int)] _ (by decide) Hm.out (Hv.out.below BA) (HT.out.below BA) (row_one w1 x) (by simp)).mono ?_
  rintro e w2 ⟨rfl, c2⟩
  have B2 := Lib.hid (BA.trans (c2.mono BA.size))
  have R2 := Lib.hid ((RowV.alloc R0.out (.cells #[.int .i64 (x : Int)] 3)).below c2)
  rw [show hashM sNonce.data.toList m [(x : Int)] = nonceM (x : Int) m from rfl]
  clear al BA c2 A0 R0
  go_wp2_with fail
  refine (H2.out _).mono ?_
  rintro e w3 ⟨rfl, c3⟩
  have B3 := Lib.hid (B2.out.trans (c3.mono B2.out.size))
  have R3 := Lib.hid (R2.out.below c3)
  have x0 := R3.out.cell (i := 0) (by decide)
  have f0 := R3.out.frozen 0
  clear c3 R2 B2
  go_upto_region 7 with fail
  obtain ⟨w4, hw4⟩ : ∃ y, w3.setCell ⟨bs, 0, none⟩ (.int .i64 ((powP 4 (nonceM (x : Int) m) : Nat) : Int)) = y := ⟨_, rfl⟩
  have R4 : RowV w4 bs 25 2 (sigF ((sigR x m : Nat) : Int) 0) := by
    rw [← hw4]
    exact R3.out.put (fun i _ => by unfold sigF sigR; by_cases h : i = 0 <;> simp [h])
  have B4 : Below w.heap.size w w4 := by
    rw [← hw4]
    exact B3.out.trans ((OnlyB.setCell (OnlyB.refl bs w3) (.inl rfl) _).below (by rw [Hbs.out]; exact Nat.le_refl _) B3.out.size)
  rw [hw4]
  clear hw4 R3 B3 x0 f0
  go_cut [10] (fun s10 wx => s10 = .int .i64 ((mulQ (chal (pubM x) (sigR x m) m) x : Nat) : Int) ∧ RowV wx bs 25 2 (sigF ((sigR x m : Nat) : Int) 0) ∧ Below w4.heap.size w4 wx)
  case first =>
    refine wp_region_plan 13 sPlan (by kernel_rfl) (by kernel_rfl) ?_
    intro w5 b5 e5
    clear e5
    have B5 := Lib.hid b5
    have R5 := Lib.hid (R4.below b5)
    have y0 : w5.cell? ⟨bs, 0, none⟩ = some (.int .i64 ((sigR x m : Nat) : Int)) := R5.out.cell (i := 0) (by decide)
    have z0 := fun d os => cell_regrown y0 d os
    clear b5 y0
    unfold sPlan
    refine plan_floats [0, 1, 2, 3, 7] [_, _, _, _, _] rfl ?_
    dsimp only [List.getElem_toArray, List.getElem_cons_succ, List.getElem_cons_zero]
    repeat (go_big_quiet_step (fail))
    refine wpQuiet_nil ?_
    refine plan_one 4 rfl (fun K hK => ?_)
    go_wp2_with fail
    refine (H3.out _).mono ?_
    rintro e w6 ⟨rfl, b6⟩
    go_wp2_with fail
    refine hK _ _ b6 ?_
    have B6 := Lib.hid (B5.out.trans (b6.mono B5.out.size))
    have R6 := Lib.hid (R5.out.below b6)
    clear b6 hK K z0 B5 R5
    refine plan_one 5 rfl (fun K hK => ?_)
    go_wp2_with fail
    have al := (Below.refl _ w6).alloc (Nat.le_refl _) (.cells #[.int .i64 ((sigR x m : Nat) : Int), .int .i64 ((powP 4 x : Nat) : Int)] 3)
    refine hK _ _ al ?_
    have B7 := Lib.hid (B6.out.trans (al.mono B6.out.size))
    have R7 := Lib.hid (R6.out.below al)
    clear al hK K
    refine plan_one 6 rfl (fun K hK => ?_)
    go_wp2_with fail
    have BW := B4.trans (B7.out.mono B4.size)
    refine (hash_any sSign _ m w6.heap.size 2 [((sigR x m : Nat) : Int), ((powP 4 x : Nat) : Int)] _ (by decide) Hm.out (Hv.out.below BW) (HT.out.below BW) (row_two w6 _ _) (by simp)).mono ?_
    rintro e w8 ⟨rfl, b8⟩
    rw [show hashM sSign.data.toList m [((sigR x m : Nat) : Int), ((powP 4 x : Nat) : Int)] = chal (pubM x) (sigR x m) m from rfl]
    go_wp2_with fail
    refine hK _ _ b8 ?_
    have B8 := Lib.hid (B7.out.trans (b8.mono B7.out.size))
    have R8 := Lib.hid (R7.out.below b8)
    clear b8 hK K BW R7 B7 R6 B6
    refine plan_one 8 rfl (fun K hK => ?_)
    go_wp2_with fail
    refine (H4.out _).mono ?_
    rintro e w9 ⟨rfl, b9⟩
    go_wp2_with fail
    refine hK _ _ b9 ?_
    have B9 := Lib.hid (B8.out.trans (b9.mono B8.out.size))
    have R9 := Lib.hid (R8.out.below b9)
    clear b9 hK K R8 B8
    refine plan_floats [9, 10, 11, 12] [_, _, _, _] rfl ?_
    dsimp only [List.getElem_toArray, List.getElem_cons_succ, List.getElem_cons_zero]
    repeat (go_big_quiet_step (fail))
    refine wpQuiet_nil ?_
    refine plan_done (l := [_]) rfl (fun K hK => ?_)
    go_wp2_with fail
    go_meet
    exact ⟨rfl, R9.out, B9.out⟩
  case rest =>
    obtain ⟨rfl, Rc, Bc⟩ := hcut
    have BC := Lib.hid (B4.trans (Bc.mono B4.size))
    have RC := Lib.hid Rc
    have x1 := RC.out.cell (i := 1) (by decide)
    clear Rc Bc R4 B4 H1 H2 H3 H4 x1
    go_wp2_with fail
    refine (H5.out _).mono ?_
    rintro e w6 ⟨rfl, b6⟩
    have B6 := Lib.hid (BC.out.trans (b6.mono BC.out.size))
    have R6 := Lib.hid (RC.out.below b6)
    have x1 := R6.out.cell (i := 1) (by decide)
    have f1 := R6.out.frozen 1
    clear b6 RC BC
    go_upto_region 9 with fail
    rw [show addQ (nonceM (x : Int) m) (mulQ (chal (pubM x) (sigR x m) m) x) = sigS x m from rfl]
    obtain ⟨w7, hw7⟩ : ∃ y, w6.setCell ⟨bs, 1, none⟩ (.int .i64 ((sigS x m : Nat) : Int)) = y := ⟨_, rfl⟩
    have R7 : Hid (RowV w7 bs 25 2 (sigF ((sigR x m : Nat) : Int) ((sigS x m : Nat) : Int))) := Lib.hid (by
      rw [← hw7]
      exact R6.out.put (fun i hi => by unfold sigF; have : i = 0 ∨ i = 1 := by omega
                                       rcases this with rfl | rfl <;> rfl))
    have B7 : Hid (Below w.heap.size w w7) := Lib.hid (by
      rw [← hw7]
      exact B6.out.trans ((OnlyB.setCell (OnlyB.refl bs w6) (.inl rfl) _).below (by rw [Hbs.out]; exact Nat.le_refl _) B6.out.size))
    rw [hw7]
    clear hw7 R6 B6 x1 f1
    go_wp2_with (first
      | ((with_reducible (show wpList _ _ _ (Oper.mk (some 50) _ _ _ _ _ :: _) _ _)); refine wpList_load_rowV rfl 25 (.tmp 4) rfl bs rfl 2 25 _ R7.out _ Tryd.underlying25 rfl (by kernel_rfl) ?_)
      | (refine wpList_store_rowV (o := ⟨none, .store 25 (.tmp 4) (.tmp 50), _, _, _, _⟩) rfl 25 (.tmp 4) (.tmp 50) rfl bs rfl 2 25 _ (sigF ((sigR x m : Nat) : Int) ((sigS x m : Nat) : Int)) rfl R7.out (by kernel_rfl) (fun j _ => by unfold sigF; split <;> rfl) ?_; intro w9 R9 O9))
    refine bodyPost_ret (v := .tuple #[.agg (rowF 2 (sigF ((sigR x m : Nat) : Int) ((sigS x m : Nat) : Int))), .int .i64 0]) (by exact results_rowV2 (fn := Tryd.f43) (p := 4) (u := 5) (ty := 25) rfl _ _ bs 2 25 _ _ rfl R9.out Tryd.underlying25 rfl (by kernel_rfl)) rfl ⟨rfl, ?_⟩
    exact B7.out.trans (O9.out.below (by rw [Hbs.out]; exact Nat.le_refl _) B7.out.size)
end Go.Proofs.YtmmppibbglacdaaDoor

namespace Go.Proofs.YtmmppibbglacdaaDoor
open Go.RowKit

theorem nums_msg (x : Int) (m : List UInt8) : scalarM sNonce.data.toList (num8 x ++ m) = nonceM x m := by unfold nonceM hashM; rw [nums8_one]

end Go.Proofs.YtmmppibbglacdaaDoor

namespace Go.Proofs.YtmmppibbglacdaaDoor
open Go.RowKit
theorem chk_t {a : Int} (h : elemB a = true) : chk a = 0 := by unfold chk; rw [h]; rfl
theorem chk_f {a : Int} (h : elemB a = false) : chk a = 40 := by unfold chk; rw [h]; rfl
end Go.Proofs.YtmmppibbglacdaaDoor

namespace Go.Proofs.YtmmppibbglacdaaDoor
open Go.RowKit

theorem el_lt {a : Nat} (h : El a) : a < 4611686018427377339 := h.2.1
theorem pow4_El (k : Nat) : El (powP 4 k) := powP_pos El4 k
theorem pow4_add (a b : Nat) : powP 4 (addQ a b) = mulP (powP 4 a) (powP 4 b) := by
  unfold addQ; rw [El.pow_mod El4, powP_add]
theorem pow_mulQ {a : Nat} (ha : El a) (j k : Nat) : powP a (mulQ j k) = powP (powP a k) j := by
  unfold mulQ; rw [El.pow_mod ha, powP_powP, Nat.mul_comm]
theorem sig_eq (x : Nat) (m : List UInt8) : powP 4 (sigS x m) = mulP (sigR x m) (powP (pubM x) (chal (pubM x) (sigR x m) m)) := by
  unfold sigS
  rw [pow4_add, pow_mulQ El4]
  rfl
theorem ver_sign (x : Nat) (m : List UInt8) : verB (pubM x) m (sigR x m) (sigS x m) = true := by
  have e1 : El (pubM x) := pow4_El x
  have e2 : El (sigR x m) := pow4_El _
  have sb : sigS x m < 2305843009213688669 := addQ_lt _ _
  unfold verB
  rw [elemB_El e1, elemB_El e2, scalB_of sb, gexp4 sb, gexpV_el e1 (chal_bd _ _ _).2, gmulV_el e2 (powP_pos e1 _), sig_eq]
  simp

/-- the power of 4 tells scalars apart -/
theorem pow4_ne_one : powP 4 1 ≠ 1 := by decide
theorem pow_gcd_one {d q : Nat} (h1 : powP 4 d = 1) (h2 : powP 4 q = 1) (g : Nat.gcd d q = 1) : False := by
  have f1 : 4 ^ d % 4611686018427377339 = 1 % 4611686018427377339 := h1
  have f2 : 4 ^ q % 4611686018427377339 = 1 % 4611686018427377339 := h2
  have f3 := Num.pow_gcd d q f1 f2
  rw [g] at f3
  exact absurd f3 (by decide)
theorem pow4_lt {a b : Nat} (hab : a < b) (hb : b < 2305843009213688669) : powP 4 a ≠ powP 4 b := by
  intro h
  obtain ⟨d, rfl⟩ : ∃ d, b = a + d := ⟨b - a, by omega⟩
  rw [← powP_add] at h
  have e1 := pow4_El a
  have e2 := pow4_El d
  have h1 : powP 4 d = 1 := by
    have h2 : mulP (powP (powP 4 a) 2305843009213688668) (powP 4 a) = mulP (powP (powP 4 a) 2305843009213688668) (mulP (powP 4 a) (powP 4 d)) := by rw [← h]
    rw [← mulP_assoc, mulP_comm (powP (powP 4 a) 2305843009213688668), El.inv e1, mulP_comm 1, mulP_one e2.2.1] at h2
    exact h2.symm
  have g : Nat.gcd d 2305843009213688669 = 1 := by
    rw [Nat.gcd_comm]
    exact Num.coprime_of_not_dvd Num.prQ (Num.not_dvd_small (by omega) (by omega))
  exact pow_gcd_one h1 El4.2.2 g
theorem pow4_inj {a b : Nat} (ha : a < 2305843009213688669) (hb : b < 2305843009213688669) (h : powP 4 a = powP 4 b) : a = b := by
  rcases Nat.lt_trichotomy a b with h1 | h1 | h1
  · exact absurd h (pow4_lt h1 hb)
  · exact h1
  · exact absurd h.symm (pow4_lt h1 ha)
theorem ver_only (x : Nat) (m : List UInt8) (n : Int) : verB (pubM x) m (sigR x m) n = decide (n = (sigS x m : Int)) := by
  have e1 : El (pubM x) := pow4_El x
  have e2 : El (sigR x m) := pow4_El _
  have sb : sigS x m < 2305843009213688669 := addQ_lt _ _
  unfold verB
  rw [elemB_El e1, elemB_El e2, gexpV_el e1 (chal_bd _ _ _).2, gmulV_el e2 (powP_pos e1 _), ← sig_eq]
  cases h : scalB n with
  | false =>
    have := scalB_no h
    simp
    omega
  | true =>
    obtain ⟨k, rfl, hk⟩ := scalB_nat h
    rw [gexp4 hk, Bool.true_and, Bool.true_and, Bool.true_and, decide_eq_decide]
    constructor
    · intro h2
      have h3 : powP 4 k = powP 4 (sigS x m) := by omega
      rw [pow4_inj hk sb h3]
    · intro h2
      obtain rfl : k = sigS x m := by omega
      rfl

/-- what Sign answers -/
def sgR (x : Int) (m : List UInt8) : Int := if privB x then ((sigR x.toNat m : Nat) : Int) else 0
def sgS (x : Int) (m : List UInt8) : Int := if privB x then ((sigS x.toNat m : Nat) : Int) else 0
theorem sign_any (x : Int) (v : Value) (m : List UInt8) (w : World) (hm : m.length ≤ 1000) (hv : BytesAt w v m) (hT : Tab w) :
    Calls Tryd.prog 43 #[.int .i64 x, v] w fun e w' => e = .returned (.tuple #[.agg #[.int .i64 (sgR x m), .int .i64 (sgS x m)], .int .i64 (pubE x)]) ∧ Below w.heap.size w w' := by
  unfold sgR sgS pubE
  cases h : privB x with
  | false => exact sign_no x v w h (by obtain ⟨a, c, e⟩ := hv.slice; exact ⟨a, _, c, e⟩)
  | true =>
    obtain ⟨n, rfl, h1, h2⟩ := priv_nat h
    exact sign_yes n h1 h2 v m w hm hv hT
/-- at a private key -/
theorem priv_of {x : Nat} (h1 : 1 ≤ x) (h2 : x < 2305843009213688669) : privB (x : Int) = true := by unfold privB; simp only [Bool.and_eq_true, decide_eq_true_eq]; omega
theorem sign_key (x : Nat) (h1 : 1 ≤ x) (h2 : x < 2305843009213688669) (v : Value) (m : List UInt8) (w : World) (hm : m.length ≤ 1000) (hv : BytesAt w v m) (hT : Tab w) :
    Calls Tryd.prog 43 #[.int .i64 (x : Int), v] w fun e w' => e = .returned (.tuple #[.agg #[.int .i64 ((sigR x m : Nat) : Int), .int .i64 ((sigS x m : Nat) : Int)], .int .i64 0]) ∧ Below w.heap.size w w' := sign_yes x h1 h2 v m w hm hv hT
theorem public_key (x : Nat) (h1 : 1 ≤ x) (h2 : x < 2305843009213688669) (w : World) :
    Calls Tryd.prog 17 #[.int .i64 (x : Int)] w fun e w' => e = .returned (.tuple #[.int .i64 ((pubM x : Nat) : Int), .int .i64 0]) ∧ Below w.heap.size w w' := by
  have h := spublic_any (x : Int) w
  rwa [show pubV (x : Int) = ((pubM x : Nat) : Int) by unfold pubV pubM; rw [priv_of h1 h2, if_pos rfl, gexp4 h2], show pubE (x : Int) = 0 by unfold pubE; rw [priv_of h1 h2]; rfl] at h
theorem bytes_nil (w : World) : BytesAt w (.slice none 0 0) [] := .inl ⟨⟨none, 0, rfl, fun _ => rfl⟩, rfl⟩

theorem eql_sig (a b c d : Int) (W : World) : (binOp .eql 25 (.agg #[.int .i64 a, .int .i64 b]) (.agg #[.int .i64 c, .int .i64 d])).run Tryd.prog W = .ok (.bool (a == c && b == d)) W := by
  simp [go_sem]
  (repeat' split) <;> simp_all
theorem neq_sig (a b c d : Int) (W : World) : (binOp .neq 25 (.agg #[.int .i64 a, .int .i64 b]) (.agg #[.int .i64 c, .int .i64 d])).run Tryd.prog W = .ok (.bool !(a == c && b == d)) W := by
  simp [go_sem]
  (repeat' split) <;> simp_all

end Go.Proofs.YtmmppibbglacdaaDoor
