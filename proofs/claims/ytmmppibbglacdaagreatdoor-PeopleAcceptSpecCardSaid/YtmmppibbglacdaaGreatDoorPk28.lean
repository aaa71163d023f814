/- Package sign: Sign. Package sign: Sign, of a valid key. The reference of package sign: Sign, Verify. The reference of package sign: Verify. The laws of package sign: what is signed is accepted; the contracts that the laws call. -/
import Derived.Test.YtmmppibbglacdaaGreatDoorPk27
import Derived.Laws.ResultCell
import Derived.Laws.StructEq
set_option linter.unusedVariables false
set_option linter.unusedSimpArgs false
namespace Go.Proofs.YtmmppibbglacdaaGreatDoor
open Go.RowKit
def sigF (r s : Int) : Nat → Value := fun i => if i = 0 then .int .i64 r else .int .i64 s
def nonceM (x : Int) (m : List UInt8) : Nat := hashM sNonce.data.toList m [x]
def sPlan : Plan := flAll [0, 1, 2, 3, 7] (.one 4 (.one 5 (.one 6 (.one 8 (flAll [9, 10, 11, 12] .done)))))
set_option maxRecDepth 100000 in
set_option maxHeartbeats 4000000 in
theorem sign_no (x : Int) (v : Value) (w : World) (hx : privB x = false) (hv : ∃ a l c, v = .slice a l c) :
    Calls Tryz.prog 28 #[.int .i64 x, v] w fun e w' => e = .returned (.tuple #[.agg #[.int .i64 0, .int .i64 0], .int .i64 50]) ∧ Below w.heap.size w w' := by
  have C1 := fun W => valid_any x W
  rw [hx] at C1
  have H1 := Lib.hid C1
  clear C1 hx
  have R0 := Lib.hid (RowV.new w 31 2 (sigF 0 0))
  go_enter Tryz.func28, Tryz.ntmps28
  go_wp2_with fail
  refine (H1.out _).mono ?_
  rintro e w1 ⟨rfl, rfl⟩
  go_wp2_with fail
  refine bodyPost_ret (v := .tuple #[.agg #[.int .i64 0, .int .i64 0], .int .i64 50]) (by exact results_rowV2 (fn := Tryz.f28) (p := 4) (u := 5) (ty := 31) rfl _ _ w.heap.size 2 31 (sigF 0 0) _ rfl R0.out Tryz.underlying31 rfl (by kernel_rfl)) rfl ⟨rfl, ?_⟩
  exact (Below.refl _ w).alloc (Nat.le_refl _) _
end Go.Proofs.YtmmppibbglacdaaGreatDoor

namespace Go.Proofs.YtmmppibbglacdaaGreatDoor
open Go.RowKit
theorem priv_nat {x : Int} (h : privB x = true) : ∃ n : Nat, x = (n : Int) ∧ 1 ≤ n ∧ n < 2305843009213688669 := by
  unfold privB at h
  simp only [Bool.and_eq_true, decide_eq_true_eq] at h
  exact ⟨x.toNat, by omega, by omega, by omega⟩
def pubM (x : Nat) : Nat := powP 4 x
def sigR (x : Nat) (m : List UInt8) : Nat := powP 4 (nonceM x m)
def sigS (x : Nat) (m : List UInt8) : Nat := addQ (nonceM x m) (mulQ (chal (pubM x) (sigR x m) m) x)
theorem gexp4 {k : Nat} (hk : k < 2305843009213688669) : gexpV 4 (k : Int) = ((powP 4 k : Nat) : Int) := by
  unfold gexpV; rw [el4, scalB_of hk]; rfl
set_option maxRecDepth 100000 in
set_option maxHeartbeats 4000000 in
theorem sign_yes (x : Nat) (hx1 : 1 ≤ x) (hx2 : x < 2305843009213688669) (v : Value) (m : List UInt8) (w : World) (hm : m.length ≤ 1000) (hv : BytesAt w v m) (hT : Tab w) :
    Calls Tryz.prog 28 #[.int .i64 (x : Int), v] w fun e w' => e = .returned (.tuple #[.agg (rowF 2 (sigF (sigR x m) (sigS x m))), .int .i64 0]) ∧ Below w.heap.size w w' := by
  have hp : privB (x : Int) = true := by unfold privB; simp only [Bool.and_eq_true, decide_eq_true_eq]; omega
  have C1 := fun W => valid_any (x : Int) W
  rw [hp] at C1
  have nb : 1 ≤ nonceM (x : Int) m ∧ nonceM (x : Int) m < 2305843009213688669 := hashM_bd sNonce.data.toList m [(x : Int)]
  have C2 := fun W => gbase_any ((nonceM (x : Int) m : Nat) : Int) W
  have C3 := fun W => public_any (x : Int) W
  have C4 := fun W => fmul_yes (chal (pubM x) (sigR x m) m) x (chal_bd _ _ _).2 hx2 W
  have C5 := fun W => fadd_yes (nonceM (x : Int) m) (mulQ (chal (pubM x) (sigR x m) m) x) nb.2 (mulQ_lt _ _) W
  rw [gexp4 nb.2, gexpE4 (scalB_of nb.2)] at C2
  rw [gexp4 hx2] at C3
  obtain ⟨va, vc, rfl⟩ := hv.slice
  have Hv := Lib.hid hv
  have HT := Lib.hid hT
  have Hm := Lib.hid hm
  have H1 := Lib.hid C1
  have H2 := Lib.hid C2
  have H3 := Lib.hid C3
  have H4 := Lib.hid C4
  have H5 := Lib.hid C5
  have R0 := Lib.hid (RowV.new w 31 2 (sigF 0 0))
  have A0 := Lib.hid ((Below.refl _ w).alloc (Nat.le_refl _) (.cells (rowF 2 (sigF 0 0)) 31))
  clear C1 C2 C3 C4 C5 hv hT hm hp nb hx1 hx2
  go_enter Tryz.func28, Tryz.ntmps28
  go_wp2_with fail
  refine (H1.out _).mono ?_
  rintro e w0 ⟨rfl, rfl⟩
  go_upto_region 5 with fail
  obtain ⟨w1, hw1⟩ : ∃ y, w.alloc (.cells (rowF 2 (sigF 0 0)) 31) = y := ⟨_, rfl⟩
  have hw2 : w.alloc (.cells #[.int .i64 0, .int .i64 0] 31) = w1 := hw1
  rw [hw1] at R0 A0
  rw [hw2]
  clear hw1 hw2
  obtain ⟨bs, hbs⟩ : ∃ y, w.heap.size = y := ⟨_, rfl⟩
  have Hbs := Lib.hid hbs
  rw [hbs] at R0 ⊢
  clear hbs
  go_wp2_with fail
  have al := (Below.refl _ w1).alloc (Nat.le_refl _) (.cells #[.int .i64 (x : Int)] 3)
  have BA := A0.out.trans (al.mono A0.out.size)
  refine (hash_any sNonce _ m w1.heap.size 1 [(x : Int)] _ (by decide) Hm.out (Hv.out.below BA) (HT.out.below BA) (row_one w1 x) (by simp)).mono ?_
  rintro e w2 ⟨rfl, c2⟩
  have B2 := Lib.hid (BA.trans (c2.mono BA.size))
  have R2 := Lib.hid ((RowV.alloc R0.out (.cells #[.int .i64 (x : Int)] 3)).below c2)
  rw [show hashM sNonce.data.toList m [(x : Int)] = nonceM (x : Int) m from rfl]
  clear al BA c2 A0 R0
  go_wp2_with fail
  refine (H2.out _).mono ?_
  rintro e w3 ⟨rfl, c3⟩
  have B3 := Lib.hid (B2.out.trans (c3.mono B2.out.size))
  have R3 := Lib.hid (R2.out.below c3)
  have x0 := R3.out.cell (i := 0) (by decide)
  have f0 := R3.out.frozen 0
  clear c3 R2 B2
  go_upto_region 7 with fail
  obtain ⟨w4, hw4⟩ : ∃ y, w3.setCell ⟨bs, 0, none⟩ (.int .i64 ((powP 4 (nonceM (x : Int) m) : Nat) : Int)) = y := ⟨_, rfl⟩
  have R4 : RowV w4 bs 31 2 (sigF ((sigR x m : Nat) : Int) 0) := by
    rw [← hw4]
    exact R3.out.put (fun i _ => by unfold sigF sigR; by_cases h : i = 0 <;> simp [h])
  have B4 : Below w.heap.size w w4 := by
    rw [← hw4]
    exact B3.out.trans ((OnlyB.setCell (OnlyB.refl bs w3) (.inl rfl) _).below (by rw [Hbs.out]; exact Nat.le_refl _) B3.out.size)
  rw [hw4]
  clear hw4 R3 B3 x0 f0
  go_cut [10] (fun s10 wx => s10 = .int .i64 ((mulQ (chal (pubM x) (sigR x m) m) x : Nat) : Int) ∧ RowV wx bs 31 2 (sigF ((sigR x m : Nat) : Int) 0) ∧ Below w4.heap.size w4 wx)
  case first =>
    refine wp_region_plan 13 sPlan (by kernel_rfl) (by kernel_rfl) ?_
    intro w5 b5 e5
    clear e5
    have B5 := Lib.hid b5
    have R5 := Lib.hid (R4.below b5)
    have y0 : w5.cell? ⟨bs, 0, none⟩ = some (.int .i64 ((sigR x m : Nat) : Int)) := R5.out.cell (i := 0) (by decide)
    have z0 := fun d os => cell_regrown y0 d os
    clear b5 y0
    unfold sPlan
    refine plan_floats [0, 1, 2, 3, 7] [_, _, _, _, _] rfl ?_
    dsimp only [List.getElem_toArray, List.getElem_cons_succ, List.getElem_cons_zero]
    repeat (go_big_quiet_step (fail))
    refine wpQuiet_nil ?_
    refine plan_one 4 rfl (fun K hK => ?_)
    go_wp2_with fail
    refine (H3.out _).mono ?_
    rintro e w6 ⟨rfl, b6⟩
    go_wp2_with fail
    refine hK _ _ b6 ?_
    have B6 := Lib.hid (B5.out.trans (b6.mono B5.out.size))
    have R6 := Lib.hid (R5.out.below b6)
    clear b6 hK K z0 B5 R5
    refine plan_one 5 rfl (fun K hK => ?_)
    go_wp2_with fail
    have al := (Below.refl _ w6).alloc (Nat.le_refl _) (.cells #[.int .i64 ((sigR x m : Nat) : Int), .int .i64 ((powP 4 x : Nat) : Int)] 3)
    refine hK _ _ al ?_
    have B7 := Lib.hid (B6.out.trans (al.mono B6.out.size))
    have R7 := Lib.hid (R6.out.below al)
    clear al hK K
    refine plan_one 6 rfl (fun K hK => ?_)
    go_wp2_with fail
    have BW := B4.trans (B7.out.mono B4.size)
    refine (hash_any sSign _ m w6.heap.size 2 [((sigR x m : Nat) : Int), ((powP 4 x : Nat) : Int)] _ (by decide) Hm.out (Hv.out.below BW) (HT.out.below BW) (row_two w6 _ _) (by simp)).mono ?_
    rintro e w8 ⟨rfl, b8⟩
    rw [show hashM sSign.data.toList m [((sigR x m : Nat) : Int), ((powP 4 x : Nat) : Int)] = chal (pubM x) (sigR x m) m from rfl]
    go_wp2_with fail
    refine hK _ _ b8 ?_
    have B8 := Lib.hid (B7.out.trans (b8.mono B7.out.size))
    have R8 := Lib.hid (R7.out.below b8)
    clear b8 hK K BW R7 B7 R6 B6
    refine plan_one 8 rfl (fun K hK => ?_)
    go_wp2_with fail
    refine (H4.out _).mono ?_
    rintro e w9 ⟨rfl, b9⟩
    go_wp2_with fail
    refine hK _ _ b9 ?_
    have B9 := Lib.hid (B8.out.trans (b9.mono B8.out.size))
    have R9 := Lib.hid (R8.out.below b9)
    clear b9 hK K R8 B8
    refine plan_floats [9, 10, 11, 12] [_, _, _, _] rfl ?_
    dsimp only [List.getElem_toArray, List.getElem_cons_succ, List.getElem_cons_zero]
    repeat (go_big_quiet_step (fail))
    refine wpQuiet_nil ?_
    refine plan_done (l := [_]) rfl (fun K hK => ?_)
    go_wp2_with fail
    go_meet
    exact ⟨rfl, R9.out, B9.out⟩
  case rest =>
    obtain ⟨rfl, Rc, Bc⟩ := hcut
    have BC := Lib.hid (B4.trans (Bc.mono B4.size))
    have RC := Lib.hid Rc
    have x1 := RC.out.cell (i := 1) (by decide)
    clear Rc Bc R4 B4 H1 H2 H3 H4 x1
    go_wp2_with fail
    refine (H5.out _).mono ?_
    rintro e w6 ⟨rfl, b6⟩
    have B6 := Lib.hid (BC.out.trans (b6.mono BC.out.size))
    have R6 := Lib.hid (RC.out.below b6)
    have x1 := R6.out.cell (i := 1) (by decide)
    have f1 := R6.out.frozen 1
    clear b6 RC BC
    go_upto_region 9 with fail
    rw [show addQ (nonceM (x : Int) m) (mulQ (chal (pubM x) (sigR x m) m) x) = sigS x m from rfl]
    obtain ⟨w7, hw7⟩ : ∃ y, w6.setCell ⟨bs, 1, none⟩ (.int .i64 ((sigS x m : Nat) : Int)) = y := ⟨_, rfl⟩
    have R7 : Hid (RowV w7 bs 31 2 (sigF ((sigR x m : Nat) : Int) ((sigS x m : Nat) : Int))) := Lib.hid (by
      rw [← hw7]
      exact R6.out.put (fun i hi => by unfold sigF; have : i = 0 ∨ i = 1 := by omega
                                       rcases this with rfl | rfl <;> rfl))
    have B7 : Hid (Below w.heap.size w w7) := Lib.hid (by
      rw [← hw7]
      exact B6.out.trans ((OnlyB.setCell (OnlyB.refl bs w6) (.inl rfl) _).below (by rw [Hbs.out]; exact Nat.le_refl _) B6.out.size))
    rw [hw7]
    clear hw7 R6 B6 x1 f1
    go_wp2_with (first
      | ((with_reducible (show wpList _ _ _ (Oper.mk (some 50) _ _ _ _ _ :: _) _ _)); refine wpList_load_rowV rfl 31 (.tmp 4) rfl bs rfl 2 31 _ R7.out _ Tryz.underlying31 rfl (by kernel_rfl) ?_)
      | (refine wpList_store_rowV (o := ⟨none, .store 31 (.tmp 4) (.tmp 50), _, _, _, _⟩) rfl 31 (.tmp 4) (.tmp 50) rfl bs rfl 2 31 _ (sigF ((sigR x m : Nat) : Int) ((sigS x m : Nat) : Int)) rfl R7.out (by kernel_rfl) (fun j _ => by unfold sigF; split <;> rfl) ?_; intro w9 R9 O9))
    refine bodyPost_ret (v := .tuple #[.agg (rowF 2 (sigF ((sigR x m : Nat) : Int) ((sigS x m : Nat) : Int))), .int .i64 0]) (by exact results_rowV2 (fn := Tryz.f28) (p := 4) (u := 5) (ty := 31) rfl _ _ bs 2 31 _ _ rfl R9.out Tryz.underlying31 rfl (by kernel_rfl)) rfl ⟨rfl, ?_⟩
    exact B7.out.trans (O9.out.below (by rw [Hbs.out]; exact Nat.le_refl _) B7.out.size)
end Go.Proofs.YtmmppibbglacdaaGreatDoor

namespace Go.Proofs.YtmmppibbglacdaaGreatDoor
open Go.RowKit
end Go.Proofs.YtmmppibbglacdaaGreatDoor

namespace Go.Proofs.YtmmppibbglacdaaGreatDoor
open Go.RowKit
theorem chk_t {a : Int} (h : elemB a = true) : chk a = 0 := by unfold chk; rw [h]; rfl
theorem chk_f {a : Int} (h : elemB a = false) : chk a = 40 := by unfold chk; rw [h]; rfl
set_option maxRecDepth 100000 in
set_option maxHeartbeats 4000000 in
theorem rverify_any (p r s : Int) (v : Value) (m : List UInt8) (w : World) (hm : m.length ≤ 1000) (hv : BytesAt w v m) :
    Calls Tryz.prog 43 #[.int .i64 p, v, .agg #[.int .i64 r, .int .i64 s]] w fun e w' => e = .returned (.bool (verB p m r s)) ∧ Below w.heap.size w w' := by
  have C1 := fun W => rcheck_any p W
  have C2 := fun W => rcheck_any r W
  have C3 := fun W => rscalar3_any s W
  have G1 := fun W => rbase_any s W
  have G0 : ∀ u W, BytesAt W u m → Calls Tryz.prog 63 #[.int .i64 p, .int .i64 r, u] W fun e w' => e = .returned (.int .i64 ((chal p r m : Nat) : Int)) ∧ Below W.heap.size W w' := fun u W h => rchallenge_any _ _ u m W hm h
  have G2 := fun W => rexp_any p ((chal p r m : Nat) : Int) W
  have G3 := fun W => rmul_any r (gexpV p ((chal p r m : Nat) : Int)) W
  have e0 : verB p m r s = (elemB p && elemB r && scalB s && decide (gexpV 4 s = gmulV r (gexpV p (chal p r m)))) := rfl
  obtain ⟨ans, hans⟩ : ∃ x, verB p m r s = x := ⟨_, rfl⟩
  rw [hans] at e0 ⊢
  obtain ⟨va, vc, rfl⟩ := hv.slice
  have Hv := Lib.hid hv
  have R0 := Lib.hid (RowV.new w 31 2 (sigF r s))
  have A0 := Lib.hid ((Below.refl _ w).alloc (Nat.le_refl _) (.cells (rowF 2 (sigF r s)) 31))
  obtain ⟨v1, hv1⟩ : ∃ x, gexpV 4 s = x := ⟨_, rfl⟩
  obtain ⟨v2, hv2⟩ : ∃ x, gexpV p ((chal p r m : Nat) : Int) = x := ⟨_, rfl⟩
  obtain ⟨v3, hv3⟩ : ∃ x, gmulV r v2 = x := ⟨_, rfl⟩
  rw [hv1] at G1 e0
  rw [hv2] at G2 G3 e0
  rw [hv3] at G3 e0
  obtain ⟨ck, hck⟩ : ∃ x, chal p r m = x := ⟨_, rfl⟩
  rw [hck] at G2 G0
  obtain ⟨f1, hf1⟩ : ∃ x, gexpE 4 s = x := ⟨_, rfl⟩
  obtain ⟨f2, hf2⟩ : ∃ x, gexpE p (ck : Int) = x := ⟨_, rfl⟩
  obtain ⟨f3, hf3⟩ : ∃ x, gmulE r v2 = x := ⟨_, rfl⟩
  rw [hf1] at G1
  rw [hf2] at G2
  rw [hf3] at G3
  have J0 := Lib.hid G0; have J1 := Lib.hid G1; have J2 := Lib.hid G2; have J3 := Lib.hid G3
  clear hv1 hv2 hv3 hck hf1 hf2 hf3 G0 G1 G2 G3 hans hv hm
  cases hp : elemB p with
  | false =>
    rw [hp] at e0
    rw [chk_f hp] at C1
    have H1 := Lib.hid C1
    obtain rfl : ans = false := e0
    clear C1 C2 C3 hp J0 J1 J2 J3
    go_enter Tryz.func43, Tryz.ntmps43
    go_wp2_with fail
    refine (H1.out _).mono ?_
    rintro e wp ⟨rfl, rfl⟩
    go_wp2_with fail
    go_ret
    exact ⟨rfl, A0.out⟩
  | true =>
    rw [hp] at e0
    rw [chk_t hp] at C1
    have H1 := Lib.hid C1
    clear C1 hp
    cases hr : elemB r with
    | false =>
      rw [hr] at e0
      rw [chk_f hr] at C2
      have H2 := Lib.hid C2
      obtain rfl : ans = false := e0
      clear C2 C3 hr J0 J1 J2 J3
      go_enter Tryz.func43, Tryz.ntmps43
      go_wp2_with fail
      refine (H1.out _).mono ?_
      rintro e wp ⟨rfl, rfl⟩
      go_wp2_with fail
      refine (H2.out _).mono ?_
      rintro e wp ⟨rfl, rfl⟩
      go_wp2_with fail
      go_ret
      exact ⟨rfl, A0.out⟩
    | true =>
      rw [hr] at e0
      rw [chk_t hr] at C2
      have H2 := Lib.hid C2
      clear C2 hr
      cases hs : scalB s with
      | false =>
        rw [hs] at e0 C3
        have H3 := Lib.hid C3
        obtain rfl : ans = false := e0
        clear C3 hs J0 J1 J2 J3
        go_enter Tryz.func43, Tryz.ntmps43
        go_wp2_with fail
        refine (H1.out _).mono ?_
        rintro e wp ⟨rfl, rfl⟩
        go_wp2_with fail
        refine (H2.out _).mono ?_
        rintro e wp ⟨rfl, rfl⟩
        go_wp2_with fail
        refine (H3.out _).mono ?_
        rintro e wp ⟨rfl, rfl⟩
        go_wp2_with fail
        go_ret
        exact ⟨rfl, A0.out⟩
      | true =>
        rw [hs] at e0 C3
        have H3 := Lib.hid C3
        obtain rfl : ans = decide (v1 = v3) := e0
        clear C3 hs
        go_enter Tryz.func43, Tryz.ntmps43
        go_wp2_with fail
        refine (H1.out _).mono ?_
        rintro e wp ⟨rfl, rfl⟩
        obtain ⟨w1, hw1⟩ : ∃ y, w.alloc (.cells (rowF 2 (sigF r s)) 31) = y := ⟨_, rfl⟩
        have hw2 : w.alloc (.cells #[.int .i64 r, .int .i64 s] 31) = w1 := hw1
        rw [hw1] at R0 A0
        rw [hw2]
        clear hw1 hw2
        obtain ⟨bs, hbs⟩ : ∃ y, w.heap.size = y := ⟨_, rfl⟩
        have Hbs := Lib.hid hbs
        rw [hbs] at R0 ⊢
        clear hbs
        have x0 : w1.cell? ⟨bs, 0, none⟩ = some (.int .i64 r) := R0.out.cell (i := 0) (by decide)
        have x1 : w1.cell? ⟨bs, 1, none⟩ = some (.int .i64 s) := R0.out.cell (i := 1) (by decide)
        go_wp2_with fail
        refine (H2.out _).mono ?_
        rintro e wp ⟨rfl, rfl⟩
        go_wp2_with fail
        refine (H3.out _).mono ?_
        rintro e wp ⟨rfl, rfl⟩
        go_wp2_with fail
        refine (J1.out _).mono ?_
        rintro e wp ⟨rfl, rfl⟩
        go_wp2_with fail
        refine (J0.out _ _ (Hv.out.below A0.out)).mono ?_
        rintro e w2 ⟨rfl, b2⟩
        have B2 := Lib.hid (A0.out.trans (b2.mono A0.out.size))
        have R2 := Lib.hid (R0.out.below b2)
        clear x0 x1 b2
        have x0 : w2.cell? ⟨bs, 0, none⟩ = some (.int .i64 r) := R2.out.cell (i := 0) (by decide)
        go_wp2_with fail
        refine (J2.out _).mono ?_
        rintro e wp ⟨rfl, rfl⟩
        go_wp2_with fail
        refine (J3.out _).mono ?_
        rintro e wp ⟨rfl, rfl⟩
        go_wp2_with fail
        go_ret
        exact ⟨rfl, B2.out⟩
end Go.Proofs.YtmmppibbglacdaaGreatDoor

namespace Go.Proofs.YtmmppibbglacdaaGreatDoor
open Go.RowKit

theorem pow4_El (k : Nat) : El (powP 4 k) := powP_pos El4 k
theorem pow4_add (a b : Nat) : powP 4 (addQ a b) = mulP (powP 4 a) (powP 4 b) := by
  unfold addQ; rw [El.pow_mod El4, powP_add]
theorem pow_mulQ {a : Nat} (ha : El a) (j k : Nat) : powP a (mulQ j k) = powP (powP a k) j := by
  unfold mulQ; rw [El.pow_mod ha, powP_powP, Nat.mul_comm]
theorem sig_eq (x : Nat) (m : List UInt8) : powP 4 (sigS x m) = mulP (sigR x m) (powP (pubM x) (chal (pubM x) (sigR x m) m)) := by
  unfold sigS
  rw [pow4_add, pow_mulQ El4]
  rfl
theorem ver_sign (x : Nat) (m : List UInt8) : verB (pubM x) m (sigR x m) (sigS x m) = true := by
  have e1 : El (pubM x) := pow4_El x
  have e2 : El (sigR x m) := pow4_El _
  have sb : sigS x m < 2305843009213688669 := addQ_lt _ _
  unfold verB
  rw [elemB_El e1, elemB_El e2, scalB_of sb, gexp4 sb, gexpV_el e1 (chal_bd _ _ _).2, gmulV_el e2 (powP_pos e1 _), sig_eq]
  simp

/-- what Sign answers -/
def sgR (x : Int) (m : List UInt8) : Int := if privB x then ((sigR x.toNat m : Nat) : Int) else 0
def sgS (x : Int) (m : List UInt8) : Int := if privB x then ((sigS x.toNat m : Nat) : Int) else 0
theorem sign_any (x : Int) (v : Value) (m : List UInt8) (w : World) (hm : m.length ≤ 1000) (hv : BytesAt w v m) (hT : Tab w) :
    Calls Tryz.prog 28 #[.int .i64 x, v] w fun e w' => e = .returned (.tuple #[.agg #[.int .i64 (sgR x m), .int .i64 (sgS x m)], .int .i64 (pubE x)]) ∧ Below w.heap.size w w' := by
  unfold sgR sgS pubE
  cases h : privB x with
  | false => exact sign_no x v w h (by obtain ⟨a, c, e⟩ := hv.slice; exact ⟨a, _, c, e⟩)
  | true =>
    obtain ⟨n, rfl, h1, h2⟩ := priv_nat h
    exact sign_yes n h1 h2 v m w hm hv hT
end Go.Proofs.YtmmppibbglacdaaGreatDoor
