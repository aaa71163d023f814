/- PakeSharedSpec returns true for every input. No condition beyond the card's own: the two tables of package digest are tied to the program's text. -/
import Derived.Test.YtdcpejfnhegdaaaDoorPakeT
import Derived.Test.YtdcpejfnhegdaaaDoorLaid
import Derived.Test.YtdcpejfnhegdaaaDoorCards
namespace Go.Proofs.YtdcpejfnhegdaaaDoor.pakeSharedSpec
open Go.ChangeShapes Go.WideShapes Go.ChangeAt Go.RowKit
open Go.ChangeMaps (open_string shut_string)
set_option linter.unusedVariables false
set_option linter.unusedSimpArgs false

set_option maxRecDepth 100000 in
set_option maxHeartbeats 64000000 in
theorem walk {w : World} (r c x : Int) (wr : (Lit.int .i64 r).wf = true) (wc : (Lit.int .i64 c).wf = true) (wx : (Lit.int .i64 x).wf = true) (p : Int) (wp : (Lit.int .i64 p).wf = true) (d : List UInt8) (hd : d.length = 32) (hT : Tab w) :
    Calls Tryd.prog 6 #[.agg #[.int .i64 r, .int .i64 c, .int .i64 x], .int .i64 p, digV d] w fun e w' => e = .returned (.bool true) ∧ Below w.heap.size w w' := by
  have C1 := Lib.hid (fun W hT => sane10_any W hT)
  have c1 := fun W h => shared_any r c x p W h
  have c2 := fun W => rshared_any r c x p W
  have c3 := fun W h => proved_any r c x p W h
  have c4 := fun W => rproved_any r c x p W
  have c5 := fun W d hd h => accept_any r c x p d hd W h
  have c6 := fun W d hd => raccept_any r c x p d hd W
  obtain ⟨K, hK⟩ : ∃ l, sharedL r c x p = l := ⟨_, rfl⟩
  obtain ⟨P1, hP1⟩ : ∃ l, provedL r c x p = l := ⟨_, rfl⟩
  have kl : K.length = 32 := hK ▸ sharedL_len _ _ _ _
  have lP1 : P1.length = 32 := hP1 ▸ provedL_len _ _ _ _
  obtain ⟨er, her⟩ : ∃ e, sharedE r c x p = e := ⟨_, rfl⟩
  obtain ⟨AB, hAB⟩ : ∃ f, acceptB r c x p = f := ⟨_, rfl⟩
  rw [hK] at c1 c2
  rw [hP1] at c3 c4
  rw [her] at c1 c2 c3 c4 c5 c6
  rw [hAB] at c5 c6
  have zk := fun W => neq_dig W 38 Tryd.underlying38 kl kl
  have zd := fun W => neq_dig W 29 Tryd.underlying29 lP1 lP1
  rw [beq_self_eq_true] at zk zd
  have gk := fun a b W => guard_dig W .neq 38 a b K K (by kernel_rfl)
  have gd := fun a b W => guard_dig W .neq 29 a b P1 P1 (by kernel_rfl)
  unfold digV at c1 c2 c3 c4 zk zd gk gd ⊢
  obtain ⟨f, hf⟩ : ∃ f, (fun i => vB (K.getD i 0)) = f := ⟨_, rfl⟩
  obtain ⟨g, hg⟩ : ∃ f, (fun i => vB (P1.getD i 0)) = f := ⟨_, rfl⟩
  obtain ⟨h, hh⟩ : ∃ f, (fun i => vB (d.getD i 0)) = f := ⟨_, rfl⟩
  have f1 : ∀ j, j < 32 → (f j).oneCell' = true := by intro j _; rw [← hf]; rfl
  have g1 : ∀ j, j < 32 → (g j).oneCell' = true := by intro j _; rw [← hg]; rfl
  rw [hf] at c1 c2 zk gk
  rw [hg] at c3 c4 zd gd
  rw [hh]
  have H1 := Lib.hid c1; have H2 := Lib.hid c2; have H3 := Lib.hid c3; have H4 := Lib.hid c4; have H5 := Lib.hid c5; have H6 := Lib.hid c6; have T := Lib.hid hT; have F1 := Lib.hid f1; have G1 := Lib.hid g1
  have ZK := Lib.hid zk; have ZD := Lib.hid zd; have GK := Lib.hid gk; have GD := Lib.hid gd; have KL := Lib.hid kl
  clear c1 c2 c3 c4 c5 c6 hT f1 g1 zk zd gk gd kl hK hP1 her hAB wr wc wx wp
  go_enter Tryd.func6, Tryd.ntmps6
  have B0 := Lib.hid (Below.refl w.heap.size w)
  go_upto_region 1 with fail
  obtain ⟨w1, hw1⟩ : ∃ y, w.alloc (.cells #[.int .i64 r, .int .i64 c, .int .i64 x] 33) = y := ⟨_, rfl⟩
  have b1 : Below w.heap.size w w1 := by rw [← hw1]; exact (Below.refl _ _).alloc (Nat.le_refl _) _
  have S1 : Hid (RowV w1 w.heap.size 33 3 (sideF r c x)) := Lib.hid (by rw [← hw1]; exact RowV.new w _ 3 (sideF r c x))
  have z1 : w.heap.size + 1 = w1.heap.size := by rw [← hw1]; exact (Array.size_push _).symm
  rw [hw1]
  (try rw [z1])
  have B1 := Lib.hid (B0.out.trans (b1.mono B0.out.size))
  clear b1 hw1 z1 B0
  obtain ⟨w2, hw2⟩ : ∃ y, w1.alloc (.cells (rowF 32 h) 29) = y := ⟨_, rfl⟩
  have b2 : Below w1.heap.size w1 w2 := by rw [← hw2]; exact (Below.refl _ _).alloc (Nat.le_refl _) _
  have D2 : Hid (RowV w2 w1.heap.size 29 32 h) := Lib.hid (by rw [← hw2]; exact RowV.new w1 _ 32 h)
  have z2 : w1.heap.size + 1 = w2.heap.size := by rw [← hw2]; exact (Array.size_push _).symm
  rw [hw2]
  (try rw [z2])
  have B2 := Lib.hid (B1.out.trans (b2.mono B1.out.size))
  have S2 := Lib.hid (S1.out.below b2)
  clear b2 hw2 z2 B1 S1
  go_wp2_with fail
  refine (C1.out _ (T.out.below B2.out)).mono ?_
  rintro e w3 ⟨rfl, b3⟩
  have B3 := Lib.hid (B2.out.trans (b3.mono B2.out.size))
  have S3 := Lib.hid (S2.out.below b3)
  have D3 := Lib.hid (D2.out.below b3)
  clear b3 B2 S2 D2
  have x0 : _ = some (Value.int .i64 r) := S3.out.cell (i := 0) (by decide)
  have x1 : _ = some (Value.int .i64 c) := S3.out.cell (i := 1) (by decide)
  have x2 : _ = some (Value.int .i64 x) := S3.out.cell (i := 2) (by decide)
  go_wp2_with fail
  refine (H1.out _ (T.out.below B3.out)).mono ?_
  rintro e w4 ⟨rfl, b4⟩
  have B4 := Lib.hid (B3.out.trans (b4.mono B3.out.size))
  have S4 := Lib.hid (S3.out.below b4)
  have D4 := Lib.hid (D3.out.below b4)
  clear b4 B3 S3 D3
  clear x0 x1 x2
  have Zr := Lib.hid (RowV.new w4 38 32 (fun _ => vB 0))
  go_upto_region 4 with ((with_reducible (show wpList _ _ _ (Oper.mk none _ _ _ _ _ :: _) _ _)); refine wpList_store_rowV (o := ⟨none, .store 38 (.tmp 7) (.tmp 28), _, _, _, _⟩) rfl 38 (.tmp 7) (.tmp 28) rfl w4.heap.size rfl 32 38 _ f rfl Zr.out (by kernel_rfl) F1.out ?_; intro w5 K5 o5)
  have b5 : Below w4.heap.size w4 w5 := ((Below.refl _ _).alloc (Nat.le_refl _) _).trans (o5.out.below (Nat.le_refl _) (by rw [World.size_alloc]; omega))
  have B5 := Lib.hid (B4.out.trans (b5.mono B4.out.size))
  have S5 := Lib.hid (S4.out.below b5)
  have D5 := Lib.hid (D4.out.below b5)
  clear b5 o5 Zr B4 S4 D4
  have x0 : _ = some (Value.int .i64 r) := S5.out.cell (i := 0) (by decide)
  have x1 : _ = some (Value.int .i64 c) := S5.out.cell (i := 1) (by decide)
  have x2 : _ = some (Value.int .i64 x) := S5.out.cell (i := 2) (by decide)
  go_wp2_with fail
  refine (H2.out _).mono ?_
  rintro e w6 ⟨rfl, b6⟩
  have B6 := Lib.hid (B5.out.trans (b6.mono B5.out.size))
  have S6 := Lib.hid (S5.out.below b6)
  have D6 := Lib.hid (D5.out.below b6)
  have K6 := Lib.hid (K5.out.below b6)
  clear b6 B5 S5 D5 K5
  clear x0 x1 x2
  have Zr := Lib.hid (RowV.new w6 38 32 (fun _ => vB 0))
  go_upto_region 5 with ((with_reducible (show wpList _ _ _ (Oper.mk none _ _ _ _ _ :: _) _ _)); refine wpList_store_rowV (o := ⟨none, .store 38 (.tmp 9) (.tmp 34), _, _, _, _⟩) rfl 38 (.tmp 9) (.tmp 34) rfl w6.heap.size rfl 32 38 _ f rfl Zr.out (by kernel_rfl) F1.out ?_; intro w7 L7 o7)
  have b7 : Below w6.heap.size w6 w7 := ((Below.refl _ _).alloc (Nat.le_refl _) _).trans (o7.out.below (Nat.le_refl _) (by rw [World.size_alloc]; omega))
  have B7 := Lib.hid (B6.out.trans (b7.mono B6.out.size))
  have S7 := Lib.hid (S6.out.below b7)
  have D7 := Lib.hid (D6.out.below b7)
  have K7 := Lib.hid (K6.out.below b7)
  clear b7 o7 Zr B6 S6 D6 K6
  have x0 : _ = some (Value.int .i64 r) := S7.out.cell (i := 0) (by decide)
  have x1 : _ = some (Value.int .i64 c) := S7.out.cell (i := 1) (by decide)
  have x2 : _ = some (Value.int .i64 x) := S7.out.cell (i := 2) (by decide)
  go_wp2_with fail
  refine (H3.out _ (T.out.below B7.out)).mono ?_
  rintro e w8 ⟨rfl, b8⟩
  have B8 := Lib.hid (B7.out.trans (b8.mono B7.out.size))
  have S8 := Lib.hid (S7.out.below b8)
  have D8 := Lib.hid (D7.out.below b8)
  have K8 := Lib.hid (K7.out.below b8)
  have L8 := Lib.hid (L7.out.below b8)
  clear b8 B7 S7 D7 K7 L7
  clear x0 x1 x2
  have Zr := Lib.hid (RowV.new w8 29 32 (fun _ => vB 0))
  go_upto_region 6 with ((with_reducible (show wpList _ _ _ (Oper.mk none _ _ _ _ _ :: _) _ _)); refine wpList_store_rowV (o := ⟨none, .store 29 (.tmp 11) (.tmp 40), _, _, _, _⟩) rfl 29 (.tmp 11) (.tmp 40) rfl w8.heap.size rfl 32 29 _ g rfl Zr.out (by kernel_rfl) G1.out ?_; intro w9 G9 o9)
  have b9 : Below w8.heap.size w8 w9 := ((Below.refl _ _).alloc (Nat.le_refl _) _).trans (o9.out.below (Nat.le_refl _) (by rw [World.size_alloc]; omega))
  have B9 := Lib.hid (B8.out.trans (b9.mono B8.out.size))
  have S9 := Lib.hid (S8.out.below b9)
  have D9 := Lib.hid (D8.out.below b9)
  have K9 := Lib.hid (K8.out.below b9)
  have L9 := Lib.hid (L8.out.below b9)
  clear b9 o9 Zr B8 S8 D8 K8 L8
  have x0 : _ = some (Value.int .i64 r) := S9.out.cell (i := 0) (by decide)
  have x1 : _ = some (Value.int .i64 c) := S9.out.cell (i := 1) (by decide)
  have x2 : _ = some (Value.int .i64 x) := S9.out.cell (i := 2) (by decide)
  go_wp2_with fail
  refine (H4.out _).mono ?_
  rintro e w10 ⟨rfl, b10⟩
  have B10 := Lib.hid (B9.out.trans (b10.mono B9.out.size))
  have S10 := Lib.hid (S9.out.below b10)
  have D10 := Lib.hid (D9.out.below b10)
  have K10 := Lib.hid (K9.out.below b10)
  have L10 := Lib.hid (L9.out.below b10)
  have G10 := Lib.hid (G9.out.below b10)
  clear b10 B9 S9 D9 K9 L9 G9
  clear x0 x1 x2
  have Zr := Lib.hid (RowV.new w10 29 32 (fun _ => vB 0))
  go_upto_region 7 with ((with_reducible (show wpList _ _ _ (Oper.mk none _ _ _ _ _ :: _) _ _)); refine wpList_store_rowV (o := ⟨none, .store 29 (.tmp 13) (.tmp 46), _, _, _, _⟩) rfl 29 (.tmp 13) (.tmp 46) rfl w10.heap.size rfl 32 29 _ g rfl Zr.out (by kernel_rfl) G1.out ?_; intro w11 M11 o11)
  have b11 : Below w10.heap.size w10 w11 := ((Below.refl _ _).alloc (Nat.le_refl _) _).trans (o11.out.below (Nat.le_refl _) (by rw [World.size_alloc]; omega))
  have B11 := Lib.hid (B10.out.trans (b11.mono B10.out.size))
  have S11 := Lib.hid (S10.out.below b11)
  have D11 := Lib.hid (D10.out.below b11)
  have K11 := Lib.hid (K10.out.below b11)
  have L11 := Lib.hid (L10.out.below b11)
  have G11 := Lib.hid (G10.out.below b11)
  clear b11 o11 Zr B10 S10 D10 K10 L10 G10
  have zk := ZK.out
  have zd := ZD.out
  have gk := GK.out
  have gd := GD.out
  go_upto_region 9 with (first | ((with_reducible (show wpList _ _ _ (Oper.mk (some 48) _ _ _ _ _ :: _) _ _)); refine wpList_load_rowV rfl 38 (.tmp 7) rfl w4.heap.size rfl 32 38 _ K11.out _ Tryd.underlying38 rfl (by kernel_rfl) ?_) | ((with_reducible (show wpList _ _ _ (Oper.mk (some 49) _ _ _ _ _ :: _) _ _)); refine wpList_load_rowV rfl 38 (.tmp 9) rfl w6.heap.size rfl 32 38 _ L11.out _ Tryd.underlying38 rfl (by kernel_rfl) ?_) | ((with_reducible (show wpList _ _ _ (Oper.mk (some 57) _ _ _ _ _ :: _) _ _)); refine wpList_unguard rfl ?_; refine wpList_load_rowV rfl 29 (.tmp 11) rfl w8.heap.size rfl 32 29 _ G11.out _ Tryd.underlying29 rfl (by kernel_rfl) ?_) | ((with_reducible (show wpList _ _ _ (Oper.mk (some 58) _ _ _ _ _ :: _) _ _)); refine wpList_unguard rfl ?_; refine wpList_load_rowV rfl 29 (.tmp 13) rfl w10.heap.size rfl 32 29 _ M11.out _ Tryd.underlying29 rfl (by kernel_rfl) ?_))
  clear zk zd gk gd ZK ZD GK GD K11 G11
  obtain ⟨rr, wq⟩ : ∃ y, IntKind.i64.wrap (3 - r) = y := ⟨_, rfl⟩
  obtain ⟨P2, hP2⟩ : ∃ y, proofL K rr = y := ⟨_, rfl⟩
  obtain ⟨z, hz⟩ : ∃ y, roleByte rr = y := ⟨_, rfl⟩
  obtain ⟨g2, hg2⟩ : ∃ f, (fun i => vB (P2.getD i 0)) = f := ⟨_, rfl⟩
  have hb2 := vB_role rr
  rw [hz] at hb2
  have ct2 : ∀ v W, BytesAt W v (K ++ [z]) → Tab W → Calls Tryd.prog 18 #[.string sProof, v] W fun e w' => e = .returned (.agg (rowF 32 g2)) ∧ Below W.heap.size W w' := fun v W hv hT => by
    have h := tagged_any sProof v _ W (by decide) (by rw [List.length_append, KL.out, List.length_singleton]; decide) hv hT
    rw [← hg2, ← hP2]; unfold proofL; rw [hz]; exact h
  have G2 := Lib.hid (show ∀ j, j < 32 → (g2 j).oneCell' = true by intro j _; rw [← hg2]; rfl)
  have HT2 := Lib.hid ct2
  clear ct2
  go_cut [15] (fun s15 wx => ∃ b, s15 = .pointer (some ⟨b, 0, none⟩) ∧ RowV wx b 29 32 g2 ∧ Below w11.heap.size w11 wx)
  case first =>
    refine Tr.wp_region_plan w11.heap.size 12 [] (.fl 1 (.fl 3 (.fl 4 (.fl 5 (.fl 6 (.tri 0 7 10 (.tri 2 7 10 (.two 7 10 (.two 8 10 (.two 9 10 (.one 10 (.one 11 .done)) (.one 9 (.one 11 .done))) (.one 8 (.one 9 (.one 11 .done)))) (.one 7 (.one 8 (.one 9 (.one 11 .done))))) (.two 2 10 (.two 8 10 (.two 9 10 (.one 10 (.one 11 .done)) (.one 9 (.one 11 .done))) (.one 8 (.one 9 (.one 11 .done)))) (.one 2 (.one 8 (.one 9 (.one 11 .done))))) (.two 2 7 (.one 7 (.one 8 (.one 9 (.one 11 .done)))) (.one 2 (.one 8 (.one 9 (.one 11 .done)))))) (.two 0 10 (.two 2 10 (.two 8 10 (.two 9 10 (.one 10 (.one 11 .done)) (.one 9 (.one 11 .done))) (.one 8 (.one 9 (.one 11 .done)))) (.one 2 (.one 8 (.one 9 (.one 11 .done))))) (.one 0 (.one 2 (.one 8 (.one 9 (.one 11 .done)))))) (.two 0 7 (.two 2 7 (.one 7 (.one 8 (.one 9 (.one 11 .done)))) (.one 2 (.one 8 (.one 9 (.one 11 .done))))) (.one 0 (.one 2 (.one 8 (.one 9 (.one 11 .done)))))))))))) (by kernel_rfl) (by kernel_rfl) ?_
    intro w12 b12 e12
    clear e12
    have B12 := Lib.hid b12
    have T11 := Lib.hid (T.out.below B11.out)
    have S12 := Lib.hid (S11.out.below b12)
    have SLt := Lib.hid S11.out.lt
    have KB12 := Lib.hid (show BytesAt w11 (.slice (some ⟨w6.heap.size, 0, none⟩) 32 32) K from RowV.bytesAt (hf.symm ▸ L11.out) KL.out (by decide) (by decide))
    clear b12
    refine Tr.plan_floats [1, 3, 4, 5, 6] [_, _, _, _, _] rfl ?_
    dsimp only [List.getElem_toArray, List.getElem_cons_succ, List.getElem_cons_zero]
    obtain ⟨i0, hi0, _, _, _⟩ := info_parts info_byte
    refine quietN_slice_array rfl _ (.tmp 9) rfl w6.heap.size 32 rfl _ Tryd.underlying38 (by decide) i0 hi0 ?_
    simp only [Act.put, List.setIfInBounds_toArray, List.set_cons_succ, List.set_cons_zero]
    repeat (go_big_quiet_want; go_big_quiet_op; first | go_big_quiet_on | (refine ⟨_, fun _ _ => rfl, ?_⟩; go_big_quiet_on))
    refine quietN_load_cell rfl _ (.tmp 69) rfl w.heap.size 0 rfl 3 33 _ S12.out SLt.out (by decide) _ Tryd.underlying3 rfl (.int .i64 r) rfl ?_
    simp only [Act.put, List.setIfInBounds_toArray, List.set_cons_succ, List.set_cons_zero]
    repeat (go_big_quiet_want; go_big_quiet_op; first | go_big_quiet_on | (refine ⟨_, fun _ _ => rfl, ?_⟩; go_big_quiet_on))
    refine wpQuiet_nil ?_
    clear S12 SLt hb2 hi0 wq
    refine Tr.plan_tri 0 7 10 rfl rfl rfl (fun K hK => ?_) (fun K hK => ?_) (fun K hK => ?_)
    · skip
      go_wp2_with fail
      have al := (Below.refl _ w12).alloc (Nat.le_refl _) (.cells #[] 5)
      refine hK _ _ (al.mono B12.out.size) ?_
      obtain ⟨w13, hw⟩ : ∃ y, w12.alloc (.cells #[] 5) = y := ⟨_, rfl⟩
      have hw' : w12.alloc (.cells #[] 5) = w13 := hw
      rw [hw] at al
      rw [hw']
      have B13 := Lib.hid (B12.out.trans (al.mono B12.out.size))
      clear hK K B12 al hw hw'
      refine Tr.plan_tri 2 7 10 rfl rfl rfl (fun K hK => ?_) (fun K hK => ?_) (fun K hK => ?_)
      · skip
        refine wpList_append_fresh rfl (.tmp 66) (.tmp 67) rfl w12.heap.size (.slice (some ⟨w6.heap.size, 0, none⟩) 32 32) _ rfl rfl (KB12.out.below B13.out) (by rw [KL.out]; decide) (by rw [KL.out]; decide) ?_
        intro vA w14 hO hb
        go_wp2_with fail
        refine hK _ _ (hb.out.mono B13.out.size) ?_
        have O14 := Lib.hid hO.out
        have SA14 := Lib.hid hb.out.size
        have SB := Lib.hid B13.out.size
        have B14 := Lib.hid (B13.out.trans (hb.out.mono B13.out.size))
        clear hK K B13 hO hb
        refine Tr.plan_two 7 10 rfl rfl (fun K hK => ?_) (fun K hK => ?_)
        · skip
          go_wp2_with fail
          have al := (Below.refl _ w14).alloc (Nat.le_refl _) (.cells #[vB z] 5)
          refine hK _ _ (al.mono B14.out.size) ?_
          obtain ⟨w15, hw⟩ : ∃ y, w14.alloc (.cells #[vB z] 5) = y := ⟨_, rfl⟩
          have hw' : w14.alloc (.cells #[vB z] 5) = w15 := hw
          rw [hw] at al
          rw [hw']
          have O15 := Lib.hid (O14.out.below al)
          have SA15 := Lib.hid (Nat.le_trans SA14.out al.size)
          have Y15 : Hid (BytesAt w15 (.slice (some ⟨w14.heap.size, 0, none⟩) 1 1) [z]) := Lib.hid (by rw [← hw]; exact one_byte w14 z)
          have B15 := Lib.hid (B14.out.trans (al.mono B14.out.size))
          clear hK K B14 O14 SA14 al hw hw'
          refine Tr.plan_two 8 10 rfl rfl (fun K hK => ?_) (fun K hK => ?_)
          · skip
            refine wpList_append_bytes rfl (.tmp 68) (.tmp 73) rfl w13.heap.size vA (.slice (some ⟨w14.heap.size, 0, none⟩) 1 1) _ [z] rfl rfl O15.out Y15.out (by rw [KL.out, List.length_singleton]; decide) SA15.out ?_
            intro vC w16 hO hb hg
            go_wp2_with fail
            refine hK _ _ (hb.out.mono SB.out) ?_
            have O16 := Lib.hid hO.out
            have B16 := Lib.hid (B15.out.trans (hb.out.mono SB.out))
            clear hK K B15 hO hb hg Y15 O15 SA15
            refine Tr.plan_two 9 10 rfl rfl (fun K hK => ?_) (fun K hK => ?_)
            · skip
              go_wp2_with fail
              refine (HT2.out _ _ (O16.out.bytesAt (by rw [List.length_append, KL.out, List.length_singleton]; decide)) (T11.out.below B16.out)).mono ?_
              rintro e w17 ⟨rfl, b⟩
              go_wp2_with fail
              refine hK _ _ (b.mono B16.out.size) ?_
              have B17 := Lib.hid (B16.out.trans (b.mono B16.out.size))
              clear hK K B16 b O16
              refine Tr.plan_one 10 rfl (fun K hK => ?_)
              go_wp2_with fail
              have al := (Below.refl _ w17).alloc (Nat.le_refl _) (.cells (rowF 32 (fun _ => vB 0)) 29)
              refine hK _ _ (al.mono B17.out.size) ?_
              obtain ⟨w18, hw⟩ : ∃ y, w17.alloc (.cells (rowF 32 (fun _ => vB 0)) 29) = y := ⟨_, rfl⟩
              have hw' : w17.alloc (.cells #[.int .u8 0, .int .u8 0, .int .u8 0, .int .u8 0, .int .u8 0, .int .u8 0, .int .u8 0, .int .u8 0, .int .u8 0, .int .u8 0, .int .u8 0, .int .u8 0, .int .u8 0, .int .u8 0, .int .u8 0, .int .u8 0, .int .u8 0, .int .u8 0, .int .u8 0, .int .u8 0, .int .u8 0, .int .u8 0, .int .u8 0, .int .u8 0, .int .u8 0, .int .u8 0, .int .u8 0, .int .u8 0, .int .u8 0, .int .u8 0, .int .u8 0, .int .u8 0] 29) = w18 := hw
              rw [hw] at al
              rw [hw']
              have Z18 : Hid (RowV w18 w17.heap.size 29 32 (fun _ => vB 0)) := Lib.hid (by rw [← hw]; exact RowV.new w17 29 32 (fun _ => vB 0))
              have SV := Lib.hid B17.out.size
              have B18 := Lib.hid (B17.out.trans (al.mono B17.out.size))
              clear hK K B17 al hw hw'
              refine Tr.plan_one 11 rfl (fun K hK => ?_)
              refine wpList_store_rowV (o := ⟨none, .store 29 (.tmp 15) (.tmp 75), _, _, _, _⟩) rfl 29 (.tmp 15) (.tmp 75) rfl w17.heap.size rfl 32 29 _ g2 rfl Z18.out (by kernel_rfl) G2.out ?_
              intro w19 R19 o19
              refine (show wpList _ _ _ [] _ _ from hK _ _ (o19.out.below SV.out B18.out.size) ?_)
              have B19 := Lib.hid (B18.out.trans (o19.out.below SV.out B18.out.size))
              clear hK K B18 o19
              refine Tr.plan_done (l := []) rfl (fun K hK => ?_)
              go_wp2_with fail
              go_meet
              refine ⟨_, rfl, R19.out, B19.out⟩
            · skip
              go_wp2_with fail
              have al := (Below.refl _ w16).alloc (Nat.le_refl _) (.cells (rowF 32 (fun _ => vB 0)) 29)
              refine hK _ _ (al.mono B16.out.size) ?_
              obtain ⟨w17, hw⟩ : ∃ y, w16.alloc (.cells (rowF 32 (fun _ => vB 0)) 29) = y := ⟨_, rfl⟩
              have hw' : w16.alloc (.cells #[.int .u8 0, .int .u8 0, .int .u8 0, .int .u8 0, .int .u8 0, .int .u8 0, .int .u8 0, .int .u8 0, .int .u8 0, .int .u8 0, .int .u8 0, .int .u8 0, .int .u8 0, .int .u8 0, .int .u8 0, .int .u8 0, .int .u8 0, .int .u8 0, .int .u8 0, .int .u8 0, .int .u8 0, .int .u8 0, .int .u8 0, .int .u8 0, .int .u8 0, .int .u8 0, .int .u8 0, .int .u8 0, .int .u8 0, .int .u8 0, .int .u8 0, .int .u8 0] 29) = w17 := hw
              rw [hw] at al
              rw [hw']
              have O17 := Lib.hid (O16.out.below al)
              have Z17 : Hid (RowV w17 w16.heap.size 29 32 (fun _ => vB 0)) := Lib.hid (by rw [← hw]; exact RowV.new w16 29 32 (fun _ => vB 0))
              have SV := Lib.hid B16.out.size
              have N17 := Lib.hid (O16.out.ne_later (B := w16.heap.size) (Nat.le_refl _))
              have B17 := Lib.hid (B16.out.trans (al.mono B16.out.size))
              clear hK K B16 O16 al hw hw'
              refine Tr.plan_one 9 rfl (fun K hK => ?_)
              go_wp2_with fail
              refine (HT2.out _ _ (O17.out.bytesAt (by rw [List.length_append, KL.out, List.length_singleton]; decide)) (T11.out.below B17.out)).mono ?_
              rintro e w18 ⟨rfl, b⟩
              go_wp2_with fail
              refine hK _ _ (b.mono B17.out.size) ?_
              have Z18 := Lib.hid (Z17.out.below b)
              have B18 := Lib.hid (B17.out.trans (b.mono B17.out.size))
              clear hK K B17 Z17 b O17
              refine Tr.plan_one 11 rfl (fun K hK => ?_)
              refine wpList_store_rowV (o := ⟨none, .store 29 (.tmp 15) (.tmp 75), _, _, _, _⟩) rfl 29 (.tmp 15) (.tmp 75) rfl w16.heap.size rfl 32 29 _ g2 rfl Z18.out (by kernel_rfl) G2.out ?_
              intro w19 R19 o19
              refine (show wpList _ _ _ [] _ _ from hK _ _ (o19.out.below SV.out B18.out.size) ?_)
              have B19 := Lib.hid (B18.out.trans (o19.out.below SV.out B18.out.size))
              clear hK K B18 o19
              refine Tr.plan_done (l := []) rfl (fun K hK => ?_)
              go_wp2_with fail
              go_meet
              refine ⟨_, rfl, R19.out, B19.out⟩
          · skip
            go_wp2_with fail
            have al := (Below.refl _ w15).alloc (Nat.le_refl _) (.cells (rowF 32 (fun _ => vB 0)) 29)
            refine hK _ _ (al.mono B15.out.size) ?_
            obtain ⟨w16, hw⟩ : ∃ y, w15.alloc (.cells (rowF 32 (fun _ => vB 0)) 29) = y := ⟨_, rfl⟩
            have hw' : w15.alloc (.cells #[.int .u8 0, .int .u8 0, .int .u8 0, .int .u8 0, .int .u8 0, .int .u8 0, .int .u8 0, .int .u8 0, .int .u8 0, .int .u8 0, .int .u8 0, .int .u8 0, .int .u8 0, .int .u8 0, .int .u8 0, .int .u8 0, .int .u8 0, .int .u8 0, .int .u8 0, .int .u8 0, .int .u8 0, .int .u8 0, .int .u8 0, .int .u8 0, .int .u8 0, .int .u8 0, .int .u8 0, .int .u8 0, .int .u8 0, .int .u8 0, .int .u8 0, .int .u8 0] 29) = w16 := hw
            rw [hw] at al
            rw [hw']
            have Y16 := Lib.hid (Y15.out.below al)
            have O16 := Lib.hid (O15.out.below al)
            have SA16 := Lib.hid (Nat.le_trans SA15.out al.size)
            have Z16 : Hid (RowV w16 w15.heap.size 29 32 (fun _ => vB 0)) := Lib.hid (by rw [← hw]; exact RowV.new w15 29 32 (fun _ => vB 0))
            have SV := Lib.hid B15.out.size
            have N16 := Lib.hid (O15.out.ne_later (B := w15.heap.size) (Nat.le_refl _))
            have B16 := Lib.hid (B15.out.trans (al.mono B15.out.size))
            clear hK K B15 Y15 O15 SA15 al hw hw'
            refine Tr.plan_one 8 rfl (fun K hK => ?_)
            refine wpList_append_bytes rfl (.tmp 68) (.tmp 73) rfl w13.heap.size vA (.slice (some ⟨w14.heap.size, 0, none⟩) 1 1) _ [z] rfl rfl O16.out Y16.out (by rw [KL.out, List.length_singleton]; decide) SA16.out ?_
            intro vC w17 hO hb hg
            go_wp2_with fail
            refine hK _ _ (hb.out.mono SB.out) ?_
            have Z17 := Lib.hid (Z16.out.grown hg.out N16.out)
            have O17 := Lib.hid hO.out
            have B17 := Lib.hid (B16.out.trans (hb.out.mono SB.out))
            clear hK K B16 Z16 N16 hO hb hg Y16 O16 SA16
            refine Tr.plan_one 9 rfl (fun K hK => ?_)
            go_wp2_with fail
            refine (HT2.out _ _ (O17.out.bytesAt (by rw [List.length_append, KL.out, List.length_singleton]; decide)) (T11.out.below B17.out)).mono ?_
            rintro e w18 ⟨rfl, b⟩
            go_wp2_with fail
            refine hK _ _ (b.mono B17.out.size) ?_
            have Z18 := Lib.hid (Z17.out.below b)
            have B18 := Lib.hid (B17.out.trans (b.mono B17.out.size))
            clear hK K B17 Z17 b O17
            refine Tr.plan_one 11 rfl (fun K hK => ?_)
            refine wpList_store_rowV (o := ⟨none, .store 29 (.tmp 15) (.tmp 75), _, _, _, _⟩) rfl 29 (.tmp 15) (.tmp 75) rfl w15.heap.size rfl 32 29 _ g2 rfl Z18.out (by kernel_rfl) G2.out ?_
            intro w19 R19 o19
            refine (show wpList _ _ _ [] _ _ from hK _ _ (o19.out.below SV.out B18.out.size) ?_)
            have B19 := Lib.hid (B18.out.trans (o19.out.below SV.out B18.out.size))
            clear hK K B18 o19
            refine Tr.plan_done (l := []) rfl (fun K hK => ?_)
            go_wp2_with fail
            go_meet
            refine ⟨_, rfl, R19.out, B19.out⟩
        · skip
          go_wp2_with fail
          have al := (Below.refl _ w14).alloc (Nat.le_refl _) (.cells (rowF 32 (fun _ => vB 0)) 29)
          refine hK _ _ (al.mono B14.out.size) ?_
          obtain ⟨w15, hw⟩ : ∃ y, w14.alloc (.cells (rowF 32 (fun _ => vB 0)) 29) = y := ⟨_, rfl⟩
          have hw' : w14.alloc (.cells #[.int .u8 0, .int .u8 0, .int .u8 0, .int .u8 0, .int .u8 0, .int .u8 0, .int .u8 0, .int .u8 0, .int .u8 0, .int .u8 0, .int .u8 0, .int .u8 0, .int .u8 0, .int .u8 0, .int .u8 0, .int .u8 0, .int .u8 0, .int .u8 0, .int .u8 0, .int .u8 0, .int .u8 0, .int .u8 0, .int .u8 0, .int .u8 0, .int .u8 0, .int .u8 0, .int .u8 0, .int .u8 0, .int .u8 0, .int .u8 0, .int .u8 0, .int .u8 0] 29) = w15 := hw
          rw [hw] at al
          rw [hw']
          have O15 := Lib.hid (O14.out.below al)
          have SA15 := Lib.hid (Nat.le_trans SA14.out al.size)
          have Z15 : Hid (RowV w15 w14.heap.size 29 32 (fun _ => vB 0)) := Lib.hid (by rw [← hw]; exact RowV.new w14 29 32 (fun _ => vB 0))
          have SV := Lib.hid B14.out.size
          have N15 := Lib.hid (O14.out.ne_later (B := w14.heap.size) (Nat.le_refl _))
          have B15 := Lib.hid (B14.out.trans (al.mono B14.out.size))
          clear hK K B14 O14 SA14 al hw hw'
          refine Tr.plan_one 7 rfl (fun K hK => ?_)
          go_wp2_with fail
          have al := (Below.refl _ w15).alloc (Nat.le_refl _) (.cells #[vB z] 5)
          refine hK _ _ (al.mono B15.out.size) ?_
          obtain ⟨w16, hw⟩ : ∃ y, w15.alloc (.cells #[vB z] 5) = y := ⟨_, rfl⟩
          have hw' : w15.alloc (.cells #[vB z] 5) = w16 := hw
          rw [hw] at al
          rw [hw']
          have Z16 := Lib.hid (Z15.out.below al)
          have O16 := Lib.hid (O15.out.below al)
          have N16 := Lib.hid (N15.out)
          have SA16 := Lib.hid (Nat.le_trans SA15.out al.size)
          have Y16 : Hid (BytesAt w16 (.slice (some ⟨w15.heap.size, 0, none⟩) 1 1) [z]) := Lib.hid (by rw [← hw]; exact one_byte w15 z)
          have B16 := Lib.hid (B15.out.trans (al.mono B15.out.size))
          clear hK K B15 Z15 O15 N15 SA15 al hw hw'
          refine Tr.plan_one 8 rfl (fun K hK => ?_)
          refine wpList_append_bytes rfl (.tmp 68) (.tmp 73) rfl w13.heap.size vA (.slice (some ⟨w15.heap.size, 0, none⟩) 1 1) _ [z] rfl rfl O16.out Y16.out (by rw [KL.out, List.length_singleton]; decide) SA16.out ?_
          intro vC w17 hO hb hg
          go_wp2_with fail
          refine hK _ _ (hb.out.mono SB.out) ?_
          have Z17 := Lib.hid (Z16.out.grown hg.out N16.out)
          have O17 := Lib.hid hO.out
          have B17 := Lib.hid (B16.out.trans (hb.out.mono SB.out))
          clear hK K B16 Z16 N16 hO hb hg Y16 O16 SA16
          refine Tr.plan_one 9 rfl (fun K hK => ?_)
          go_wp2_with fail
          refine (HT2.out _ _ (O17.out.bytesAt (by rw [List.length_append, KL.out, List.length_singleton]; decide)) (T11.out.below B17.out)).mono ?_
          rintro e w18 ⟨rfl, b⟩
          go_wp2_with fail
          refine hK _ _ (b.mono B17.out.size) ?_
          have Z18 := Lib.hid (Z17.out.below b)
          have B18 := Lib.hid (B17.out.trans (b.mono B17.out.size))
          clear hK K B17 Z17 b O17
          refine Tr.plan_one 11 rfl (fun K hK => ?_)
          refine wpList_store_rowV (o := ⟨none, .store 29 (.tmp 15) (.tmp 75), _, _, _, _⟩) rfl 29 (.tmp 15) (.tmp 75) rfl w14.heap.size rfl 32 29 _ g2 rfl Z18.out (by kernel_rfl) G2.out ?_
          intro w19 R19 o19
          refine (show wpList _ _ _ [] _ _ from hK _ _ (o19.out.below SV.out B18.out.size) ?_)
          have B19 := Lib.hid (B18.out.trans (o19.out.below SV.out B18.out.size))
          clear hK K B18 o19
          refine Tr.plan_done (l := []) rfl (fun K hK => ?_)
          go_wp2_with fail
          go_meet
          refine ⟨_, rfl, R19.out, B19.out⟩
      · skip
        go_wp2_with fail
        have al := (Below.refl _ w13).alloc (Nat.le_refl _) (.cells #[vB z] 5)
        refine hK _ _ (al.mono B13.out.size) ?_
        obtain ⟨w14, hw⟩ : ∃ y, w13.alloc (.cells #[vB z] 5) = y := ⟨_, rfl⟩
        have hw' : w13.alloc (.cells #[vB z] 5) = w14 := hw
        rw [hw] at al
        rw [hw']
        have Y14 : Hid (BytesAt w14 (.slice (some ⟨w13.heap.size, 0, none⟩) 1 1) [z]) := Lib.hid (by rw [← hw]; exact one_byte w13 z)
        have B14 := Lib.hid (B13.out.trans (al.mono B13.out.size))
        clear hK K B13 al hw hw'
        refine Tr.plan_two 2 10 rfl rfl (fun K hK => ?_) (fun K hK => ?_)
        · skip
          refine wpList_append_fresh rfl (.tmp 66) (.tmp 67) rfl w12.heap.size (.slice (some ⟨w6.heap.size, 0, none⟩) 32 32) _ rfl rfl (KB12.out.below B14.out) (by rw [KL.out]; decide) (by rw [KL.out]; decide) ?_
          intro vA w15 hO hb
          go_wp2_with fail
          refine hK _ _ (hb.out.mono B14.out.size) ?_
          have Y15 := Lib.hid (Y14.out.below hb.out)
          have O15 := Lib.hid hO.out
          have SA15 := Lib.hid hb.out.size
          have SB := Lib.hid B14.out.size
          have B15 := Lib.hid (B14.out.trans (hb.out.mono B14.out.size))
          clear hK K B14 Y14 hO hb
          refine Tr.plan_two 8 10 rfl rfl (fun K hK => ?_) (fun K hK => ?_)
          · skip
            refine wpList_append_bytes rfl (.tmp 68) (.tmp 73) rfl w14.heap.size vA (.slice (some ⟨w13.heap.size, 0, none⟩) 1 1) _ [z] rfl rfl O15.out Y15.out (by rw [KL.out, List.length_singleton]; decide) SA15.out ?_
            intro vC w16 hO hb hg
            go_wp2_with fail
            refine hK _ _ (hb.out.mono SB.out) ?_
            have O16 := Lib.hid hO.out
            have B16 := Lib.hid (B15.out.trans (hb.out.mono SB.out))
            clear hK K B15 hO hb hg Y15 O15 SA15
            refine Tr.plan_two 9 10 rfl rfl (fun K hK => ?_) (fun K hK => ?_)
            · skip
              go_wp2_with fail
              refine (HT2.out _ _ (O16.out.bytesAt (by rw [List.length_append, KL.out, List.length_singleton]; decide)) (T11.out.below B16.out)).mono ?_
              rintro e w17 ⟨rfl, b⟩
              go_wp2_with fail
              refine hK _ _ (b.mono B16.out.size) ?_
              have B17 := Lib.hid (B16.out.trans (b.mono B16.out.size))
              clear hK K B16 b O16
              refine Tr.plan_one 10 rfl (fun K hK => ?_)
              go_wp2_with fail
              have al := (Below.refl _ w17).alloc (Nat.le_refl _) (.cells (rowF 32 (fun _ => vB 0)) 29)
              refine hK _ _ (al.mono B17.out.size) ?_
              obtain ⟨w18, hw⟩ : ∃ y, w17.alloc (.cells (rowF 32 (fun _ => vB 0)) 29) = y := ⟨_, rfl⟩
              have hw' : w17.alloc (.cells #[.int .u8 0, .int .u8 0, .int .u8 0, .int .u8 0, .int .u8 0, .int .u8 0, .int .u8 0, .int .u8 0, .int .u8 0, .int .u8 0, .int .u8 0, .int .u8 0, .int .u8 0, .int .u8 0, .int .u8 0, .int .u8 0, .int .u8 0, .int .u8 0, .int .u8 0, .int .u8 0, .int .u8 0, .int .u8 0, .int .u8 0, .int .u8 0, .int .u8 0, .int .u8 0, .int .u8 0, .int .u8 0, .int .u8 0, .int .u8 0, .int .u8 0, .int .u8 0] 29) = w18 := hw
              rw [hw] at al
              rw [hw']
              have Z18 : Hid (RowV w18 w17.heap.size 29 32 (fun _ => vB 0)) := Lib.hid (by rw [← hw]; exact RowV.new w17 29 32 (fun _ => vB 0))
              have SV := Lib.hid B17.out.size
              have B18 := Lib.hid (B17.out.trans (al.mono B17.out.size))
              clear hK K B17 al hw hw'
              refine Tr.plan_one 11 rfl (fun K hK => ?_)
              refine wpList_store_rowV (o := ⟨none, .store 29 (.tmp 15) (.tmp 75), _, _, _, _⟩) rfl 29 (.tmp 15) (.tmp 75) rfl w17.heap.size rfl 32 29 _ g2 rfl Z18.out (by kernel_rfl) G2.out ?_
              intro w19 R19 o19
              refine (show wpList _ _ _ [] _ _ from hK _ _ (o19.out.below SV.out B18.out.size) ?_)
              have B19 := Lib.hid (B18.out.trans (o19.out.below SV.out B18.out.size))
              clear hK K B18 o19
              refine Tr.plan_done (l := []) rfl (fun K hK => ?_)
              go_wp2_with fail
              go_meet
              refine ⟨_, rfl, R19.out, B19.out⟩
            · skip
              go_wp2_with fail
              have al := (Below.refl _ w16).alloc (Nat.le_refl _) (.cells (rowF 32 (fun _ => vB 0)) 29)
              refine hK _ _ (al.mono B16.out.size) ?_
              obtain ⟨w17, hw⟩ : ∃ y, w16.alloc (.cells (rowF 32 (fun _ => vB 0)) 29) = y := ⟨_, rfl⟩
              have hw' : w16.alloc (.cells #[.int .u8 0, .int .u8 0, .int .u8 0, .int .u8 0, .int .u8 0, .int .u8 0, .int .u8 0, .int .u8 0, .int .u8 0, .int .u8 0, .int .u8 0, .int .u8 0, .int .u8 0, .int .u8 0, .int .u8 0, .int .u8 0, .int .u8 0, .int .u8 0, .int .u8 0, .int .u8 0, .int .u8 0, .int .u8 0, .int .u8 0, .int .u8 0, .int .u8 0, .int .u8 0, .int .u8 0, .int .u8 0, .int .u8 0, .int .u8 0, .int .u8 0, .int .u8 0] 29) = w17 := hw
              rw [hw] at al
              rw [hw']
              have O17 := Lib.hid (O16.out.below al)
              have Z17 : Hid (RowV w17 w16.heap.size 29 32 (fun _ => vB 0)) := Lib.hid (by rw [← hw]; exact RowV.new w16 29 32 (fun _ => vB 0))
              have SV := Lib.hid B16.out.size
              have N17 := Lib.hid (O16.out.ne_later (B := w16.heap.size) (Nat.le_refl _))
              have B17 := Lib.hid (B16.out.trans (al.mono B16.out.size))
              clear hK K B16 O16 al hw hw'
              refine Tr.plan_one 9 rfl (fun K hK => ?_)
              go_wp2_with fail
              refine (HT2.out _ _ (O17.out.bytesAt (by rw [List.length_append, KL.out, List.length_singleton]; decide)) (T11.out.below B17.out)).mono ?_
              rintro e w18 ⟨rfl, b⟩
              go_wp2_with fail
              refine hK _ _ (b.mono B17.out.size) ?_
              have Z18 := Lib.hid (Z17.out.below b)
              have B18 := Lib.hid (B17.out.trans (b.mono B17.out.size))
              clear hK K B17 Z17 b O17
              refine Tr.plan_one 11 rfl (fun K hK => ?_)
              refine wpList_store_rowV (o := ⟨none, .store 29 (.tmp 15) (.tmp 75), _, _, _, _⟩) rfl 29 (.tmp 15) (.tmp 75) rfl w16.heap.size rfl 32 29 _ g2 rfl Z18.out (by kernel_rfl) G2.out ?_
              intro w19 R19 o19
              refine (show wpList _ _ _ [] _ _ from hK _ _ (o19.out.below SV.out B18.out.size) ?_)
              have B19 := Lib.hid (B18.out.trans (o19.out.below SV.out B18.out.size))
              clear hK K B18 o19
              refine Tr.plan_done (l := []) rfl (fun K hK => ?_)
              go_wp2_with fail
              go_meet
              refine ⟨_, rfl, R19.out, B19.out⟩
          · skip
            go_wp2_with fail
            have al := (Below.refl _ w15).alloc (Nat.le_refl _) (.cells (rowF 32 (fun _ => vB 0)) 29)
            refine hK _ _ (al.mono B15.out.size) ?_
            obtain ⟨w16, hw⟩ : ∃ y, w15.alloc (.cells (rowF 32 (fun _ => vB 0)) 29) = y := ⟨_, rfl⟩
            have hw' : w15.alloc (.cells #[.int .u8 0, .int .u8 0, .int .u8 0, .int .u8 0, .int .u8 0, .int .u8 0, .int .u8 0, .int .u8 0, .int .u8 0, .int .u8 0, .int .u8 0, .int .u8 0, .int .u8 0, .int .u8 0, .int .u8 0, .int .u8 0, .int .u8 0, .int .u8 0, .int .u8 0, .int .u8 0, .int .u8 0, .int .u8 0, .int .u8 0, .int .u8 0, .int .u8 0, .int .u8 0, .int .u8 0, .int .u8 0, .int .u8 0, .int .u8 0, .int .u8 0, .int .u8 0] 29) = w16 := hw
            rw [hw] at al
            rw [hw']
            have Y16 := Lib.hid (Y15.out.below al)
            have O16 := Lib.hid (O15.out.below al)
            have SA16 := Lib.hid (Nat.le_trans SA15.out al.size)
            have Z16 : Hid (RowV w16 w15.heap.size 29 32 (fun _ => vB 0)) := Lib.hid (by rw [← hw]; exact RowV.new w15 29 32 (fun _ => vB 0))
            have SV := Lib.hid B15.out.size
            have N16 := Lib.hid (O15.out.ne_later (B := w15.heap.size) (Nat.le_refl _))
            have B16 := Lib.hid (B15.out.trans (al.mono B15.out.size))
            clear hK K B15 Y15 O15 SA15 al hw hw'
            refine Tr.plan_one 8 rfl (fun K hK => ?_)
            refine wpList_append_bytes rfl (.tmp 68) (.tmp 73) rfl w14.heap.size vA (.slice (some ⟨w13.heap.size, 0, none⟩) 1 1) _ [z] rfl rfl O16.out Y16.out (by rw [KL.out, List.length_singleton]; decide) SA16.out ?_
            intro vC w17 hO hb hg
            go_wp2_with fail
            refine hK _ _ (hb.out.mono SB.out) ?_
            have Z17 := Lib.hid (Z16.out.grown hg.out N16.out)
            have O17 := Lib.hid hO.out
            have B17 := Lib.hid (B16.out.trans (hb.out.mono SB.out))
            clear hK K B16 Z16 N16 hO hb hg Y16 O16 SA16
            refine Tr.plan_one 9 rfl (fun K hK => ?_)
            go_wp2_with fail
            refine (HT2.out _ _ (O17.out.bytesAt (by rw [List.length_append, KL.out, List.length_singleton]; decide)) (T11.out.below B17.out)).mono ?_
            rintro e w18 ⟨rfl, b⟩
            go_wp2_with fail
            refine hK _ _ (b.mono B17.out.size) ?_
            have Z18 := Lib.hid (Z17.out.below b)
            have B18 := Lib.hid (B17.out.trans (b.mono B17.out.size))
            clear hK K B17 Z17 b O17
            refine Tr.plan_one 11 rfl (fun K hK => ?_)
            refine wpList_store_rowV (o := ⟨none, .store 29 (.tmp 15) (.tmp 75), _, _, _, _⟩) rfl 29 (.tmp 15) (.tmp 75) rfl w15.heap.size rfl 32 29 _ g2 rfl Z18.out (by kernel_rfl) G2.out ?_
            intro w19 R19 o19
            refine (show wpList _ _ _ [] _ _ from hK _ _ (o19.out.below SV.out B18.out.size) ?_)
            have B19 := Lib.hid (B18.out.trans (o19.out.below SV.out B18.out.size))
            clear hK K B18 o19
            refine Tr.plan_done (l := []) rfl (fun K hK => ?_)
            go_wp2_with fail
            go_meet
            refine ⟨_, rfl, R19.out, B19.out⟩
        · skip
          go_wp2_with fail
          have al := (Below.refl _ w14).alloc (Nat.le_refl _) (.cells (rowF 32 (fun _ => vB 0)) 29)
          refine hK _ _ (al.mono B14.out.size) ?_
          obtain ⟨w15, hw⟩ : ∃ y, w14.alloc (.cells (rowF 32 (fun _ => vB 0)) 29) = y := ⟨_, rfl⟩
          have hw' : w14.alloc (.cells #[.int .u8 0, .int .u8 0, .int .u8 0, .int .u8 0, .int .u8 0, .int .u8 0, .int .u8 0, .int .u8 0, .int .u8 0, .int .u8 0, .int .u8 0, .int .u8 0, .int .u8 0, .int .u8 0, .int .u8 0, .int .u8 0, .int .u8 0, .int .u8 0, .int .u8 0, .int .u8 0, .int .u8 0, .int .u8 0, .int .u8 0, .int .u8 0, .int .u8 0, .int .u8 0, .int .u8 0, .int .u8 0, .int .u8 0, .int .u8 0, .int .u8 0, .int .u8 0] 29) = w15 := hw
          rw [hw] at al
          rw [hw']
          have Y15 := Lib.hid (Y14.out.below al)
          have Z15 : Hid (RowV w15 w14.heap.size 29 32 (fun _ => vB 0)) := Lib.hid (by rw [← hw]; exact RowV.new w14 29 32 (fun _ => vB 0))
          have SV := Lib.hid B14.out.size
          have B15 := Lib.hid (B14.out.trans (al.mono B14.out.size))
          clear hK K B14 Y14 al hw hw'
          refine Tr.plan_one 2 rfl (fun K hK => ?_)
          refine wpList_append_fresh rfl (.tmp 66) (.tmp 67) rfl w12.heap.size (.slice (some ⟨w6.heap.size, 0, none⟩) 32 32) _ rfl rfl (KB12.out.below B15.out) (by rw [KL.out]; decide) (by rw [KL.out]; decide) ?_
          intro vA w16 hO hb
          go_wp2_with fail
          refine hK _ _ (hb.out.mono B15.out.size) ?_
          have Y16 := Lib.hid (Y15.out.below hb.out)
          have Z16 := Lib.hid (Z15.out.below hb.out)
          have N16 := Lib.hid (hO.out.ne_before (B := w14.heap.size) Z15.out.lt)
          have O16 := Lib.hid hO.out
          have SA16 := Lib.hid hb.out.size
          have SB := Lib.hid B15.out.size
          have B16 := Lib.hid (B15.out.trans (hb.out.mono B15.out.size))
          clear hK K B15 Y15 Z15 hO hb
          refine Tr.plan_one 8 rfl (fun K hK => ?_)
          refine wpList_append_bytes rfl (.tmp 68) (.tmp 73) rfl w15.heap.size vA (.slice (some ⟨w13.heap.size, 0, none⟩) 1 1) _ [z] rfl rfl O16.out Y16.out (by rw [KL.out, List.length_singleton]; decide) SA16.out ?_
          intro vC w17 hO hb hg
          go_wp2_with fail
          refine hK _ _ (hb.out.mono SB.out) ?_
          have Z17 := Lib.hid (Z16.out.grown hg.out N16.out)
          have O17 := Lib.hid hO.out
          have B17 := Lib.hid (B16.out.trans (hb.out.mono SB.out))
          clear hK K B16 Z16 N16 hO hb hg Y16 O16 SA16
          refine Tr.plan_one 9 rfl (fun K hK => ?_)
          go_wp2_with fail
          refine (HT2.out _ _ (O17.out.bytesAt (by rw [List.length_append, KL.out, List.length_singleton]; decide)) (T11.out.below B17.out)).mono ?_
          rintro e w18 ⟨rfl, b⟩
          go_wp2_with fail
          refine hK _ _ (b.mono B17.out.size) ?_
          have Z18 := Lib.hid (Z17.out.below b)
          have B18 := Lib.hid (B17.out.trans (b.mono B17.out.size))
          clear hK K B17 Z17 b O17
          refine Tr.plan_one 11 rfl (fun K hK => ?_)
          refine wpList_store_rowV (o := ⟨none, .store 29 (.tmp 15) (.tmp 75), _, _, _, _⟩) rfl 29 (.tmp 15) (.tmp 75) rfl w14.heap.size rfl 32 29 _ g2 rfl Z18.out (by kernel_rfl) G2.out ?_
          intro w19 R19 o19
          refine (show wpList _ _ _ [] _ _ from hK _ _ (o19.out.below SV.out B18.out.size) ?_)
          have B19 := Lib.hid (B18.out.trans (o19.out.below SV.out B18.out.size))
          clear hK K B18 o19
          refine Tr.plan_done (l := []) rfl (fun K hK => ?_)
          go_wp2_with fail
          go_meet
          refine ⟨_, rfl, R19.out, B19.out⟩
      · skip
        go_wp2_with fail
        have al := (Below.refl _ w13).alloc (Nat.le_refl _) (.cells (rowF 32 (fun _ => vB 0)) 29)
        refine hK _ _ (al.mono B13.out.size) ?_
        obtain ⟨w14, hw⟩ : ∃ y, w13.alloc (.cells (rowF 32 (fun _ => vB 0)) 29) = y := ⟨_, rfl⟩
        have hw' : w13.alloc (.cells #[.int .u8 0, .int .u8 0, .int .u8 0, .int .u8 0, .int .u8 0, .int .u8 0, .int .u8 0, .int .u8 0, .int .u8 0, .int .u8 0, .int .u8 0, .int .u8 0, .int .u8 0, .int .u8 0, .int .u8 0, .int .u8 0, .int .u8 0, .int .u8 0, .int .u8 0, .int .u8 0, .int .u8 0, .int .u8 0, .int .u8 0, .int .u8 0, .int .u8 0, .int .u8 0, .int .u8 0, .int .u8 0, .int .u8 0, .int .u8 0, .int .u8 0, .int .u8 0] 29) = w14 := hw
        rw [hw] at al
        rw [hw']
        have Z14 : Hid (RowV w14 w13.heap.size 29 32 (fun _ => vB 0)) := Lib.hid (by rw [← hw]; exact RowV.new w13 29 32 (fun _ => vB 0))
        have SV := Lib.hid B13.out.size
        have B14 := Lib.hid (B13.out.trans (al.mono B13.out.size))
        clear hK K B13 al hw hw'
        refine Tr.plan_two 2 7 rfl rfl (fun K hK => ?_) (fun K hK => ?_)
        · skip
          refine wpList_append_fresh rfl (.tmp 66) (.tmp 67) rfl w12.heap.size (.slice (some ⟨w6.heap.size, 0, none⟩) 32 32) _ rfl rfl (KB12.out.below B14.out) (by rw [KL.out]; decide) (by rw [KL.out]; decide) ?_
          intro vA w15 hO hb
          go_wp2_with fail
          refine hK _ _ (hb.out.mono B14.out.size) ?_
          have Z15 := Lib.hid (Z14.out.below hb.out)
          have N15 := Lib.hid (hO.out.ne_before (B := w13.heap.size) Z14.out.lt)
          have O15 := Lib.hid hO.out
          have SA15 := Lib.hid hb.out.size
          have SB := Lib.hid B14.out.size
          have B15 := Lib.hid (B14.out.trans (hb.out.mono B14.out.size))
          clear hK K B14 Z14 hO hb
          refine Tr.plan_one 7 rfl (fun K hK => ?_)
          go_wp2_with fail
          have al := (Below.refl _ w15).alloc (Nat.le_refl _) (.cells #[vB z] 5)
          refine hK _ _ (al.mono B15.out.size) ?_
          obtain ⟨w16, hw⟩ : ∃ y, w15.alloc (.cells #[vB z] 5) = y := ⟨_, rfl⟩
          have hw' : w15.alloc (.cells #[vB z] 5) = w16 := hw
          rw [hw] at al
          rw [hw']
          have Z16 := Lib.hid (Z15.out.below al)
          have O16 := Lib.hid (O15.out.below al)
          have N16 := Lib.hid (N15.out)
          have SA16 := Lib.hid (Nat.le_trans SA15.out al.size)
          have Y16 : Hid (BytesAt w16 (.slice (some ⟨w15.heap.size, 0, none⟩) 1 1) [z]) := Lib.hid (by rw [← hw]; exact one_byte w15 z)
          have B16 := Lib.hid (B15.out.trans (al.mono B15.out.size))
          clear hK K B15 Z15 O15 N15 SA15 al hw hw'
          refine Tr.plan_one 8 rfl (fun K hK => ?_)
          refine wpList_append_bytes rfl (.tmp 68) (.tmp 73) rfl w14.heap.size vA (.slice (some ⟨w15.heap.size, 0, none⟩) 1 1) _ [z] rfl rfl O16.out Y16.out (by rw [KL.out, List.length_singleton]; decide) SA16.out ?_
          intro vC w17 hO hb hg
          go_wp2_with fail
          refine hK _ _ (hb.out.mono SB.out) ?_
          have Z17 := Lib.hid (Z16.out.grown hg.out N16.out)
          have O17 := Lib.hid hO.out
          have B17 := Lib.hid (B16.out.trans (hb.out.mono SB.out))
          clear hK K B16 Z16 N16 hO hb hg Y16 O16 SA16
          refine Tr.plan_one 9 rfl (fun K hK => ?_)
          go_wp2_with fail
          refine (HT2.out _ _ (O17.out.bytesAt (by rw [List.length_append, KL.out, List.length_singleton]; decide)) (T11.out.below B17.out)).mono ?_
          rintro e w18 ⟨rfl, b⟩
          go_wp2_with fail
          refine hK _ _ (b.mono B17.out.size) ?_
          have Z18 := Lib.hid (Z17.out.below b)
          have B18 := Lib.hid (B17.out.trans (b.mono B17.out.size))
          clear hK K B17 Z17 b O17
          refine Tr.plan_one 11 rfl (fun K hK => ?_)
          refine wpList_store_rowV (o := ⟨none, .store 29 (.tmp 15) (.tmp 75), _, _, _, _⟩) rfl 29 (.tmp 15) (.tmp 75) rfl w13.heap.size rfl 32 29 _ g2 rfl Z18.out (by kernel_rfl) G2.out ?_
          intro w19 R19 o19
          refine (show wpList _ _ _ [] _ _ from hK _ _ (o19.out.below SV.out B18.out.size) ?_)
          have B19 := Lib.hid (B18.out.trans (o19.out.below SV.out B18.out.size))
          clear hK K B18 o19
          refine Tr.plan_done (l := []) rfl (fun K hK => ?_)
          go_wp2_with fail
          go_meet
          refine ⟨_, rfl, R19.out, B19.out⟩
        · skip
          go_wp2_with fail
          have al := (Below.refl _ w14).alloc (Nat.le_refl _) (.cells #[vB z] 5)
          refine hK _ _ (al.mono B14.out.size) ?_
          obtain ⟨w15, hw⟩ : ∃ y, w14.alloc (.cells #[vB z] 5) = y := ⟨_, rfl⟩
          have hw' : w14.alloc (.cells #[vB z] 5) = w15 := hw
          rw [hw] at al
          rw [hw']
          have Z15 := Lib.hid (Z14.out.below al)
          have Y15 : Hid (BytesAt w15 (.slice (some ⟨w14.heap.size, 0, none⟩) 1 1) [z]) := Lib.hid (by rw [← hw]; exact one_byte w14 z)
          have B15 := Lib.hid (B14.out.trans (al.mono B14.out.size))
          clear hK K B14 Z14 al hw hw'
          refine Tr.plan_one 2 rfl (fun K hK => ?_)
          refine wpList_append_fresh rfl (.tmp 66) (.tmp 67) rfl w12.heap.size (.slice (some ⟨w6.heap.size, 0, none⟩) 32 32) _ rfl rfl (KB12.out.below B15.out) (by rw [KL.out]; decide) (by rw [KL.out]; decide) ?_
          intro vA w16 hO hb
          go_wp2_with fail
          refine hK _ _ (hb.out.mono B15.out.size) ?_
          have Y16 := Lib.hid (Y15.out.below hb.out)
          have Z16 := Lib.hid (Z15.out.below hb.out)
          have N16 := Lib.hid (hO.out.ne_before (B := w13.heap.size) Z15.out.lt)
          have O16 := Lib.hid hO.out
          have SA16 := Lib.hid hb.out.size
          have SB := Lib.hid B15.out.size
          have B16 := Lib.hid (B15.out.trans (hb.out.mono B15.out.size))
          clear hK K B15 Y15 Z15 hO hb
          refine Tr.plan_one 8 rfl (fun K hK => ?_)
          refine wpList_append_bytes rfl (.tmp 68) (.tmp 73) rfl w15.heap.size vA (.slice (some ⟨w14.heap.size, 0, none⟩) 1 1) _ [z] rfl rfl O16.out Y16.out (by rw [KL.out, List.length_singleton]; decide) SA16.out ?_
          intro vC w17 hO hb hg
          go_wp2_with fail
          refine hK _ _ (hb.out.mono SB.out) ?_
          have Z17 := Lib.hid (Z16.out.grown hg.out N16.out)
          have O17 := Lib.hid hO.out
          have B17 := Lib.hid (B16.out.trans (hb.out.mono SB.out))
          clear hK K B16 Z16 N16 hO hb hg Y16 O16 SA16
          refine Tr.plan_one 9 rfl (fun K hK => ?_)
          go_wp2_with fail
          refine (HT2.out _ _ (O17.out.bytesAt (by rw [List.length_append, KL.out, List.length_singleton]; decide)) (T11.out.below B17.out)).mono ?_
          rintro e w18 ⟨rfl, b⟩
          go_wp2_with fail
          refine hK _ _ (b.mono B17.out.size) ?_
          have Z18 := Lib.hid (Z17.out.below b)
          have B18 := Lib.hid (B17.out.trans (b.mono B17.out.size))
          clear hK K B17 Z17 b O17
          refine Tr.plan_one 11 rfl (fun K hK => ?_)
          refine wpList_store_rowV (o := ⟨none, .store 29 (.tmp 15) (.tmp 75), _, _, _, _⟩) rfl 29 (.tmp 15) (.tmp 75) rfl w13.heap.size rfl 32 29 _ g2 rfl Z18.out (by kernel_rfl) G2.out ?_
          intro w19 R19 o19
          refine (show wpList _ _ _ [] _ _ from hK _ _ (o19.out.below SV.out B18.out.size) ?_)
          have B19 := Lib.hid (B18.out.trans (o19.out.below SV.out B18.out.size))
          clear hK K B18 o19
          refine Tr.plan_done (l := []) rfl (fun K hK => ?_)
          go_wp2_with fail
          go_meet
          refine ⟨_, rfl, R19.out, B19.out⟩
    · skip
      go_wp2_with fail
      have al := (Below.refl _ w12).alloc (Nat.le_refl _) (.cells #[vB z] 5)
      refine hK _ _ (al.mono B12.out.size) ?_
      obtain ⟨w13, hw⟩ : ∃ y, w12.alloc (.cells #[vB z] 5) = y := ⟨_, rfl⟩
      have hw' : w12.alloc (.cells #[vB z] 5) = w13 := hw
      rw [hw] at al
      rw [hw']
      have Y13 : Hid (BytesAt w13 (.slice (some ⟨w12.heap.size, 0, none⟩) 1 1) [z]) := Lib.hid (by rw [← hw]; exact one_byte w12 z)
      have B13 := Lib.hid (B12.out.trans (al.mono B12.out.size))
      clear hK K B12 al hw hw'
      refine Tr.plan_two 0 10 rfl rfl (fun K hK => ?_) (fun K hK => ?_)
      · skip
        go_wp2_with fail
        have al := (Below.refl _ w13).alloc (Nat.le_refl _) (.cells #[] 5)
        refine hK _ _ (al.mono B13.out.size) ?_
        obtain ⟨w14, hw⟩ : ∃ y, w13.alloc (.cells #[] 5) = y := ⟨_, rfl⟩
        have hw' : w13.alloc (.cells #[] 5) = w14 := hw
        rw [hw] at al
        rw [hw']
        have Y14 := Lib.hid (Y13.out.below al)
        have B14 := Lib.hid (B13.out.trans (al.mono B13.out.size))
        clear hK K B13 Y13 al hw hw'
        refine Tr.plan_two 2 10 rfl rfl (fun K hK => ?_) (fun K hK => ?_)
        · skip
          refine wpList_append_fresh rfl (.tmp 66) (.tmp 67) rfl w13.heap.size (.slice (some ⟨w6.heap.size, 0, none⟩) 32 32) _ rfl rfl (KB12.out.below B14.out) (by rw [KL.out]; decide) (by rw [KL.out]; decide) ?_
          intro vA w15 hO hb
          go_wp2_with fail
          refine hK _ _ (hb.out.mono B14.out.size) ?_
          have Y15 := Lib.hid (Y14.out.below hb.out)
          have O15 := Lib.hid hO.out
          have SA15 := Lib.hid hb.out.size
          have SB := Lib.hid B14.out.size
          have B15 := Lib.hid (B14.out.trans (hb.out.mono B14.out.size))
          clear hK K B14 Y14 hO hb
          refine Tr.plan_two 8 10 rfl rfl (fun K hK => ?_) (fun K hK => ?_)
          · skip
            refine wpList_append_bytes rfl (.tmp 68) (.tmp 73) rfl w14.heap.size vA (.slice (some ⟨w12.heap.size, 0, none⟩) 1 1) _ [z] rfl rfl O15.out Y15.out (by rw [KL.out, List.length_singleton]; decide) SA15.out ?_
            intro vC w16 hO hb hg
            go_wp2_with fail
            refine hK _ _ (hb.out.mono SB.out) ?_
            have O16 := Lib.hid hO.out
            have B16 := Lib.hid (B15.out.trans (hb.out.mono SB.out))
            clear hK K B15 hO hb hg Y15 O15 SA15
            refine Tr.plan_two 9 10 rfl rfl (fun K hK => ?_) (fun K hK => ?_)
            · skip
              go_wp2_with fail
              refine (HT2.out _ _ (O16.out.bytesAt (by rw [List.length_append, KL.out, List.length_singleton]; decide)) (T11.out.below B16.out)).mono ?_
              rintro e w17 ⟨rfl, b⟩
              go_wp2_with fail
              refine hK _ _ (b.mono B16.out.size) ?_
              have B17 := Lib.hid (B16.out.trans (b.mono B16.out.size))
              clear hK K B16 b O16
              refine Tr.plan_one 10 rfl (fun K hK => ?_)
              go_wp2_with fail
              have al := (Below.refl _ w17).alloc (Nat.le_refl _) (.cells (rowF 32 (fun _ => vB 0)) 29)
              refine hK _ _ (al.mono B17.out.size) ?_
              obtain ⟨w18, hw⟩ : ∃ y, w17.alloc (.cells (rowF 32 (fun _ => vB 0)) 29) = y := ⟨_, rfl⟩
              have hw' : w17.alloc (.cells #[.int .u8 0, .int .u8 0, .int .u8 0, .int .u8 0, .int .u8 0, .int .u8 0, .int .u8 0, .int .u8 0, .int .u8 0, .int .u8 0, .int .u8 0, .int .u8 0, .int .u8 0, .int .u8 0, .int .u8 0, .int .u8 0, .int .u8 0, .int .u8 0, .int .u8 0, .int .u8 0, .int .u8 0, .int .u8 0, .int .u8 0, .int .u8 0, .int .u8 0, .int .u8 0, .int .u8 0, .int .u8 0, .int .u8 0, .int .u8 0, .int .u8 0, .int .u8 0] 29) = w18 := hw
              rw [hw] at al
              rw [hw']
              have Z18 : Hid (RowV w18 w17.heap.size 29 32 (fun _ => vB 0)) := Lib.hid (by rw [← hw]; exact RowV.new w17 29 32 (fun _ => vB 0))
              have SV := Lib.hid B17.out.size
              have B18 := Lib.hid (B17.out.trans (al.mono B17.out.size))
              clear hK K B17 al hw hw'
              refine Tr.plan_one 11 rfl (fun K hK => ?_)
              refine wpList_store_rowV (o := ⟨none, .store 29 (.tmp 15) (.tmp 75), _, _, _, _⟩) rfl 29 (.tmp 15) (.tmp 75) rfl w17.heap.size rfl 32 29 _ g2 rfl Z18.out (by kernel_rfl) G2.out ?_
              intro w19 R19 o19
              refine (show wpList _ _ _ [] _ _ from hK _ _ (o19.out.below SV.out B18.out.size) ?_)
              have B19 := Lib.hid (B18.out.trans (o19.out.below SV.out B18.out.size))
              clear hK K B18 o19
              refine Tr.plan_done (l := []) rfl (fun K hK => ?_)
              go_wp2_with fail
              go_meet
              refine ⟨_, rfl, R19.out, B19.out⟩
            · skip
              go_wp2_with fail
              have al := (Below.refl _ w16).alloc (Nat.le_refl _) (.cells (rowF 32 (fun _ => vB 0)) 29)
              refine hK _ _ (al.mono B16.out.size) ?_
              obtain ⟨w17, hw⟩ : ∃ y, w16.alloc (.cells (rowF 32 (fun _ => vB 0)) 29) = y := ⟨_, rfl⟩
              have hw' : w16.alloc (.cells #[.int .u8 0, .int .u8 0, .int .u8 0, .int .u8 0, .int .u8 0, .int .u8 0, .int .u8 0, .int .u8 0, .int .u8 0, .int .u8 0, .int .u8 0, .int .u8 0, .int .u8 0, .int .u8 0, .int .u8 0, .int .u8 0, .int .u8 0, .int .u8 0, .int .u8 0, .int .u8 0, .int .u8 0, .int .u8 0, .int .u8 0, .int .u8 0, .int .u8 0, .int .u8 0, .int .u8 0, .int .u8 0, .int .u8 0, .int .u8 0, .int .u8 0, .int .u8 0] 29) = w17 := hw
              rw [hw] at al
              rw [hw']
              have O17 := Lib.hid (O16.out.below al)
              have Z17 : Hid (RowV w17 w16.heap.size 29 32 (fun _ => vB 0)) := Lib.hid (by rw [← hw]; exact RowV.new w16 29 32 (fun _ => vB 0))
              have SV := Lib.hid B16.out.size
              have N17 := Lib.hid (O16.out.ne_later (B := w16.heap.size) (Nat.le_refl _))
              have B17 := Lib.hid (B16.out.trans (al.mono B16.out.size))
              clear hK K B16 O16 al hw hw'
              refine Tr.plan_one 9 rfl (fun K hK => ?_)
              go_wp2_with fail
              refine (HT2.out _ _ (O17.out.bytesAt (by rw [List.length_append, KL.out, List.length_singleton]; decide)) (T11.out.below B17.out)).mono ?_
              rintro e w18 ⟨rfl, b⟩
              go_wp2_with fail
              refine hK _ _ (b.mono B17.out.size) ?_
              have Z18 := Lib.hid (Z17.out.below b)
              have B18 := Lib.hid (B17.out.trans (b.mono B17.out.size))
              clear hK K B17 Z17 b O17
              refine Tr.plan_one 11 rfl (fun K hK => ?_)
              refine wpList_store_rowV (o := ⟨none, .store 29 (.tmp 15) (.tmp 75), _, _, _, _⟩) rfl 29 (.tmp 15) (.tmp 75) rfl w16.heap.size rfl 32 29 _ g2 rfl Z18.out (by kernel_rfl) G2.out ?_
              intro w19 R19 o19
              refine (show wpList _ _ _ [] _ _ from hK _ _ (o19.out.below SV.out B18.out.size) ?_)
              have B19 := Lib.hid (B18.out.trans (o19.out.below SV.out B18.out.size))
              clear hK K B18 o19
              refine Tr.plan_done (l := []) rfl (fun K hK => ?_)
              go_wp2_with fail
              go_meet
              refine ⟨_, rfl, R19.out, B19.out⟩
          · skip
            go_wp2_with fail
            have al := (Below.refl _ w15).alloc (Nat.le_refl _) (.cells (rowF 32 (fun _ => vB 0)) 29)
            refine hK _ _ (al.mono B15.out.size) ?_
            obtain ⟨w16, hw⟩ : ∃ y, w15.alloc (.cells (rowF 32 (fun _ => vB 0)) 29) = y := ⟨_, rfl⟩
            have hw' : w15.alloc (.cells #[.int .u8 0, .int .u8 0, .int .u8 0, .int .u8 0, .int .u8 0, .int .u8 0, .int .u8 0, .int .u8 0, .int .u8 0, .int .u8 0, .int .u8 0, .int .u8 0, .int .u8 0, .int .u8 0, .int .u8 0, .int .u8 0, .int .u8 0, .int .u8 0, .int .u8 0, .int .u8 0, .int .u8 0, .int .u8 0, .int .u8 0, .int .u8 0, .int .u8 0, .int .u8 0, .int .u8 0, .int .u8 0, .int .u8 0, .int .u8 0, .int .u8 0, .int .u8 0] 29) = w16 := hw
            rw [hw] at al
            rw [hw']
            have Y16 := Lib.hid (Y15.out.below al)
            have O16 := Lib.hid (O15.out.below al)
            have SA16 := Lib.hid (Nat.le_trans SA15.out al.size)
            have Z16 : Hid (RowV w16 w15.heap.size 29 32 (fun _ => vB 0)) := Lib.hid (by rw [← hw]; exact RowV.new w15 29 32 (fun _ => vB 0))
            have SV := Lib.hid B15.out.size
            have N16 := Lib.hid (O15.out.ne_later (B := w15.heap.size) (Nat.le_refl _))
            have B16 := Lib.hid (B15.out.trans (al.mono B15.out.size))
            clear hK K B15 Y15 O15 SA15 al hw hw'
            refine Tr.plan_one 8 rfl (fun K hK => ?_)
            refine wpList_append_bytes rfl (.tmp 68) (.tmp 73) rfl w14.heap.size vA (.slice (some ⟨w12.heap.size, 0, none⟩) 1 1) _ [z] rfl rfl O16.out Y16.out (by rw [KL.out, List.length_singleton]; decide) SA16.out ?_
            intro vC w17 hO hb hg
            go_wp2_with fail
            refine hK _ _ (hb.out.mono SB.out) ?_
            have Z17 := Lib.hid (Z16.out.grown hg.out N16.out)
            have O17 := Lib.hid hO.out
            have B17 := Lib.hid (B16.out.trans (hb.out.mono SB.out))
            clear hK K B16 Z16 N16 hO hb hg Y16 O16 SA16
            refine Tr.plan_one 9 rfl (fun K hK => ?_)
            go_wp2_with fail
            refine (HT2.out _ _ (O17.out.bytesAt (by rw [List.length_append, KL.out, List.length_singleton]; decide)) (T11.out.below B17.out)).mono ?_
            rintro e w18 ⟨rfl, b⟩
            go_wp2_with fail
            refine hK _ _ (b.mono B17.out.size) ?_
            have Z18 := Lib.hid (Z17.out.below b)
            have B18 := Lib.hid (B17.out.trans (b.mono B17.out.size))
            clear hK K B17 Z17 b O17
            refine Tr.plan_one 11 rfl (fun K hK => ?_)
            refine wpList_store_rowV (o := ⟨none, .store 29 (.tmp 15) (.tmp 75), _, _, _, _⟩) rfl 29 (.tmp 15) (.tmp 75) rfl w15.heap.size rfl 32 29 _ g2 rfl Z18.out (by kernel_rfl) G2.out ?_
            intro w19 R19 o19
            refine (show wpList _ _ _ [] _ _ from hK _ _ (o19.out.below SV.out B18.out.size) ?_)
            have B19 := Lib.hid (B18.out.trans (o19.out.below SV.out B18.out.size))
            clear hK K B18 o19
            refine Tr.plan_done (l := []) rfl (fun K hK => ?_)
            go_wp2_with fail
            go_meet
            refine ⟨_, rfl, R19.out, B19.out⟩
        · skip
          go_wp2_with fail
          have al := (Below.refl _ w14).alloc (Nat.le_refl _) (.cells (rowF 32 (fun _ => vB 0)) 29)
          refine hK _ _ (al.mono B14.out.size) ?_
          obtain ⟨w15, hw⟩ : ∃ y, w14.alloc (.cells (rowF 32 (fun _ => vB 0)) 29) = y := ⟨_, rfl⟩
          have hw' : w14.alloc (.cells #[.int .u8 0, .int .u8 0, .int .u8 0, .int .u8 0, .int .u8 0, .int .u8 0, .int .u8 0, .int .u8 0, .int .u8 0, .int .u8 0, .int .u8 0, .int .u8 0, .int .u8 0, .int .u8 0, .int .u8 0, .int .u8 0, .int .u8 0, .int .u8 0, .int .u8 0, .int .u8 0, .int .u8 0, .int .u8 0, .int .u8 0, .int .u8 0, .int .u8 0, .int .u8 0, .int .u8 0, .int .u8 0, .int .u8 0, .int .u8 0, .int .u8 0, .int .u8 0] 29) = w15 := hw
          rw [hw] at al
          rw [hw']
          have Y15 := Lib.hid (Y14.out.below al)
          have Z15 : Hid (RowV w15 w14.heap.size 29 32 (fun _ => vB 0)) := Lib.hid (by rw [← hw]; exact RowV.new w14 29 32 (fun _ => vB 0))
          have SV := Lib.hid B14.out.size
          have B15 := Lib.hid (B14.out.trans (al.mono B14.out.size))
          clear hK K B14 Y14 al hw hw'
          refine Tr.plan_one 2 rfl (fun K hK => ?_)
          refine wpList_append_fresh rfl (.tmp 66) (.tmp 67) rfl w13.heap.size (.slice (some ⟨w6.heap.size, 0, none⟩) 32 32) _ rfl rfl (KB12.out.below B15.out) (by rw [KL.out]; decide) (by rw [KL.out]; decide) ?_
          intro vA w16 hO hb
          go_wp2_with fail
          refine hK _ _ (hb.out.mono B15.out.size) ?_
          have Y16 := Lib.hid (Y15.out.below hb.out)
          have Z16 := Lib.hid (Z15.out.below hb.out)
          have N16 := Lib.hid (hO.out.ne_before (B := w14.heap.size) Z15.out.lt)
          have O16 := Lib.hid hO.out
          have SA16 := Lib.hid hb.out.size
          have SB := Lib.hid B15.out.size
          have B16 := Lib.hid (B15.out.trans (hb.out.mono B15.out.size))
          clear hK K B15 Y15 Z15 hO hb
          refine Tr.plan_one 8 rfl (fun K hK => ?_)
          refine wpList_append_bytes rfl (.tmp 68) (.tmp 73) rfl w15.heap.size vA (.slice (some ⟨w12.heap.size, 0, none⟩) 1 1) _ [z] rfl rfl O16.out Y16.out (by rw [KL.out, List.length_singleton]; decide) SA16.out ?_
          intro vC w17 hO hb hg
          go_wp2_with fail
          refine hK _ _ (hb.out.mono SB.out) ?_
          have Z17 := Lib.hid (Z16.out.grown hg.out N16.out)
          have O17 := Lib.hid hO.out
          have B17 := Lib.hid (B16.out.trans (hb.out.mono SB.out))
          clear hK K B16 Z16 N16 hO hb hg Y16 O16 SA16
          refine Tr.plan_one 9 rfl (fun K hK => ?_)
          go_wp2_with fail
          refine (HT2.out _ _ (O17.out.bytesAt (by rw [List.length_append, KL.out, List.length_singleton]; decide)) (T11.out.below B17.out)).mono ?_
          rintro e w18 ⟨rfl, b⟩
          go_wp2_with fail
          refine hK _ _ (b.mono B17.out.size) ?_
          have Z18 := Lib.hid (Z17.out.below b)
          have B18 := Lib.hid (B17.out.trans (b.mono B17.out.size))
          clear hK K B17 Z17 b O17
          refine Tr.plan_one 11 rfl (fun K hK => ?_)
          refine wpList_store_rowV (o := ⟨none, .store 29 (.tmp 15) (.tmp 75), _, _, _, _⟩) rfl 29 (.tmp 15) (.tmp 75) rfl w14.heap.size rfl 32 29 _ g2 rfl Z18.out (by kernel_rfl) G2.out ?_
          intro w19 R19 o19
          refine (show wpList _ _ _ [] _ _ from hK _ _ (o19.out.below SV.out B18.out.size) ?_)
          have B19 := Lib.hid (B18.out.trans (o19.out.below SV.out B18.out.size))
          clear hK K B18 o19
          refine Tr.plan_done (l := []) rfl (fun K hK => ?_)
          go_wp2_with fail
          go_meet
          refine ⟨_, rfl, R19.out, B19.out⟩
      · skip
        go_wp2_with fail
        have al := (Below.refl _ w13).alloc (Nat.le_refl _) (.cells (rowF 32 (fun _ => vB 0)) 29)
        refine hK _ _ (al.mono B13.out.size) ?_
        obtain ⟨w14, hw⟩ : ∃ y, w13.alloc (.cells (rowF 32 (fun _ => vB 0)) 29) = y := ⟨_, rfl⟩
        have hw' : w13.alloc (.cells #[.int .u8 0, .int .u8 0, .int .u8 0, .int .u8 0, .int .u8 0, .int .u8 0, .int .u8 0, .int .u8 0, .int .u8 0, .int .u8 0, .int .u8 0, .int .u8 0, .int .u8 0, .int .u8 0, .int .u8 0, .int .u8 0, .int .u8 0, .int .u8 0, .int .u8 0, .int .u8 0, .int .u8 0, .int .u8 0, .int .u8 0, .int .u8 0, .int .u8 0, .int .u8 0, .int .u8 0, .int .u8 0, .int .u8 0, .int .u8 0, .int .u8 0, .int .u8 0] 29) = w14 := hw
        rw [hw] at al
        rw [hw']
        have Y14 := Lib.hid (Y13.out.below al)
        have Z14 : Hid (RowV w14 w13.heap.size 29 32 (fun _ => vB 0)) := Lib.hid (by rw [← hw]; exact RowV.new w13 29 32 (fun _ => vB 0))
        have SV := Lib.hid B13.out.size
        have B14 := Lib.hid (B13.out.trans (al.mono B13.out.size))
        clear hK K B13 Y13 al hw hw'
        refine Tr.plan_one 0 rfl (fun K hK => ?_)
        go_wp2_with fail
        have al := (Below.refl _ w14).alloc (Nat.le_refl _) (.cells #[] 5)
        refine hK _ _ (al.mono B14.out.size) ?_
        obtain ⟨w15, hw⟩ : ∃ y, w14.alloc (.cells #[] 5) = y := ⟨_, rfl⟩
        have hw' : w14.alloc (.cells #[] 5) = w15 := hw
        rw [hw] at al
        rw [hw']
        have Y15 := Lib.hid (Y14.out.below al)
        have Z15 := Lib.hid (Z14.out.below al)
        have B15 := Lib.hid (B14.out.trans (al.mono B14.out.size))
        clear hK K B14 Y14 Z14 al hw hw'
        refine Tr.plan_one 2 rfl (fun K hK => ?_)
        refine wpList_append_fresh rfl (.tmp 66) (.tmp 67) rfl w14.heap.size (.slice (some ⟨w6.heap.size, 0, none⟩) 32 32) _ rfl rfl (KB12.out.below B15.out) (by rw [KL.out]; decide) (by rw [KL.out]; decide) ?_
        intro vA w16 hO hb
        go_wp2_with fail
        refine hK _ _ (hb.out.mono B15.out.size) ?_
        have Y16 := Lib.hid (Y15.out.below hb.out)
        have Z16 := Lib.hid (Z15.out.below hb.out)
        have N16 := Lib.hid (hO.out.ne_before (B := w13.heap.size) Z15.out.lt)
        have O16 := Lib.hid hO.out
        have SA16 := Lib.hid hb.out.size
        have SB := Lib.hid B15.out.size
        have B16 := Lib.hid (B15.out.trans (hb.out.mono B15.out.size))
        clear hK K B15 Y15 Z15 hO hb
        refine Tr.plan_one 8 rfl (fun K hK => ?_)
        refine wpList_append_bytes rfl (.tmp 68) (.tmp 73) rfl w15.heap.size vA (.slice (some ⟨w12.heap.size, 0, none⟩) 1 1) _ [z] rfl rfl O16.out Y16.out (by rw [KL.out, List.length_singleton]; decide) SA16.out ?_
        intro vC w17 hO hb hg
        go_wp2_with fail
        refine hK _ _ (hb.out.mono SB.out) ?_
        have Z17 := Lib.hid (Z16.out.grown hg.out N16.out)
        have O17 := Lib.hid hO.out
        have B17 := Lib.hid (B16.out.trans (hb.out.mono SB.out))
        clear hK K B16 Z16 N16 hO hb hg Y16 O16 SA16
        refine Tr.plan_one 9 rfl (fun K hK => ?_)
        go_wp2_with fail
        refine (HT2.out _ _ (O17.out.bytesAt (by rw [List.length_append, KL.out, List.length_singleton]; decide)) (T11.out.below B17.out)).mono ?_
        rintro e w18 ⟨rfl, b⟩
        go_wp2_with fail
        refine hK _ _ (b.mono B17.out.size) ?_
        have Z18 := Lib.hid (Z17.out.below b)
        have B18 := Lib.hid (B17.out.trans (b.mono B17.out.size))
        clear hK K B17 Z17 b O17
        refine Tr.plan_one 11 rfl (fun K hK => ?_)
        refine wpList_store_rowV (o := ⟨none, .store 29 (.tmp 15) (.tmp 75), _, _, _, _⟩) rfl 29 (.tmp 15) (.tmp 75) rfl w13.heap.size rfl 32 29 _ g2 rfl Z18.out (by kernel_rfl) G2.out ?_
        intro w19 R19 o19
        refine (show wpList _ _ _ [] _ _ from hK _ _ (o19.out.below SV.out B18.out.size) ?_)
        have B19 := Lib.hid (B18.out.trans (o19.out.below SV.out B18.out.size))
        clear hK K B18 o19
        refine Tr.plan_done (l := []) rfl (fun K hK => ?_)
        go_wp2_with fail
        go_meet
        refine ⟨_, rfl, R19.out, B19.out⟩
    · skip
      go_wp2_with fail
      have al := (Below.refl _ w12).alloc (Nat.le_refl _) (.cells (rowF 32 (fun _ => vB 0)) 29)
      refine hK _ _ (al.mono B12.out.size) ?_
      obtain ⟨w13, hw⟩ : ∃ y, w12.alloc (.cells (rowF 32 (fun _ => vB 0)) 29) = y := ⟨_, rfl⟩
      have hw' : w12.alloc (.cells #[.int .u8 0, .int .u8 0, .int .u8 0, .int .u8 0, .int .u8 0, .int .u8 0, .int .u8 0, .int .u8 0, .int .u8 0, .int .u8 0, .int .u8 0, .int .u8 0, .int .u8 0, .int .u8 0, .int .u8 0, .int .u8 0, .int .u8 0, .int .u8 0, .int .u8 0, .int .u8 0, .int .u8 0, .int .u8 0, .int .u8 0, .int .u8 0, .int .u8 0, .int .u8 0, .int .u8 0, .int .u8 0, .int .u8 0, .int .u8 0, .int .u8 0, .int .u8 0] 29) = w13 := hw
      rw [hw] at al
      rw [hw']
      have Z13 : Hid (RowV w13 w12.heap.size 29 32 (fun _ => vB 0)) := Lib.hid (by rw [← hw]; exact RowV.new w12 29 32 (fun _ => vB 0))
      have SV := Lib.hid B12.out.size
      have B13 := Lib.hid (B12.out.trans (al.mono B12.out.size))
      clear hK K B12 al hw hw'
      refine Tr.plan_two 0 7 rfl rfl (fun K hK => ?_) (fun K hK => ?_)
      · skip
        go_wp2_with fail
        have al := (Below.refl _ w13).alloc (Nat.le_refl _) (.cells #[] 5)
        refine hK _ _ (al.mono B13.out.size) ?_
        obtain ⟨w14, hw⟩ : ∃ y, w13.alloc (.cells #[] 5) = y := ⟨_, rfl⟩
        have hw' : w13.alloc (.cells #[] 5) = w14 := hw
        rw [hw] at al
        rw [hw']
        have Z14 := Lib.hid (Z13.out.below al)
        have B14 := Lib.hid (B13.out.trans (al.mono B13.out.size))
        clear hK K B13 Z13 al hw hw'
        refine Tr.plan_two 2 7 rfl rfl (fun K hK => ?_) (fun K hK => ?_)
        · skip
          refine wpList_append_fresh rfl (.tmp 66) (.tmp 67) rfl w13.heap.size (.slice (some ⟨w6.heap.size, 0, none⟩) 32 32) _ rfl rfl (KB12.out.below B14.out) (by rw [KL.out]; decide) (by rw [KL.out]; decide) ?_
          intro vA w15 hO hb
          go_wp2_with fail
          refine hK _ _ (hb.out.mono B14.out.size) ?_
          have Z15 := Lib.hid (Z14.out.below hb.out)
          have N15 := Lib.hid (hO.out.ne_before (B := w12.heap.size) Z14.out.lt)
          have O15 := Lib.hid hO.out
          have SA15 := Lib.hid hb.out.size
          have SB := Lib.hid B14.out.size
          have B15 := Lib.hid (B14.out.trans (hb.out.mono B14.out.size))
          clear hK K B14 Z14 hO hb
          refine Tr.plan_one 7 rfl (fun K hK => ?_)
          go_wp2_with fail
          have al := (Below.refl _ w15).alloc (Nat.le_refl _) (.cells #[vB z] 5)
          refine hK _ _ (al.mono B15.out.size) ?_
          obtain ⟨w16, hw⟩ : ∃ y, w15.alloc (.cells #[vB z] 5) = y := ⟨_, rfl⟩
          have hw' : w15.alloc (.cells #[vB z] 5) = w16 := hw
          rw [hw] at al
          rw [hw']
          have Z16 := Lib.hid (Z15.out.below al)
          have O16 := Lib.hid (O15.out.below al)
          have N16 := Lib.hid (N15.out)
          have SA16 := Lib.hid (Nat.le_trans SA15.out al.size)
          have Y16 : Hid (BytesAt w16 (.slice (some ⟨w15.heap.size, 0, none⟩) 1 1) [z]) := Lib.hid (by rw [← hw]; exact one_byte w15 z)
          have B16 := Lib.hid (B15.out.trans (al.mono B15.out.size))
          clear hK K B15 Z15 O15 N15 SA15 al hw hw'
          refine Tr.plan_one 8 rfl (fun K hK => ?_)
          refine wpList_append_bytes rfl (.tmp 68) (.tmp 73) rfl w14.heap.size vA (.slice (some ⟨w15.heap.size, 0, none⟩) 1 1) _ [z] rfl rfl O16.out Y16.out (by rw [KL.out, List.length_singleton]; decide) SA16.out ?_
          intro vC w17 hO hb hg
          go_wp2_with fail
          refine hK _ _ (hb.out.mono SB.out) ?_
          have Z17 := Lib.hid (Z16.out.grown hg.out N16.out)
          have O17 := Lib.hid hO.out
          have B17 := Lib.hid (B16.out.trans (hb.out.mono SB.out))
          clear hK K B16 Z16 N16 hO hb hg Y16 O16 SA16
          refine Tr.plan_one 9 rfl (fun K hK => ?_)
          go_wp2_with fail
          refine (HT2.out _ _ (O17.out.bytesAt (by rw [List.length_append, KL.out, List.length_singleton]; decide)) (T11.out.below B17.out)).mono ?_
          rintro e w18 ⟨rfl, b⟩
          go_wp2_with fail
          refine hK _ _ (b.mono B17.out.size) ?_
          have Z18 := Lib.hid (Z17.out.below b)
          have B18 := Lib.hid (B17.out.trans (b.mono B17.out.size))
          clear hK K B17 Z17 b O17
          refine Tr.plan_one 11 rfl (fun K hK => ?_)
          refine wpList_store_rowV (o := ⟨none, .store 29 (.tmp 15) (.tmp 75), _, _, _, _⟩) rfl 29 (.tmp 15) (.tmp 75) rfl w12.heap.size rfl 32 29 _ g2 rfl Z18.out (by kernel_rfl) G2.out ?_
          intro w19 R19 o19
          refine (show wpList _ _ _ [] _ _ from hK _ _ (o19.out.below SV.out B18.out.size) ?_)
          have B19 := Lib.hid (B18.out.trans (o19.out.below SV.out B18.out.size))
          clear hK K B18 o19
          refine Tr.plan_done (l := []) rfl (fun K hK => ?_)
          go_wp2_with fail
          go_meet
          refine ⟨_, rfl, R19.out, B19.out⟩
        · skip
          go_wp2_with fail
          have al := (Below.refl _ w14).alloc (Nat.le_refl _) (.cells #[vB z] 5)
          refine hK _ _ (al.mono B14.out.size) ?_
          obtain ⟨w15, hw⟩ : ∃ y, w14.alloc (.cells #[vB z] 5) = y := ⟨_, rfl⟩
          have hw' : w14.alloc (.cells #[vB z] 5) = w15 := hw
          rw [hw] at al
          rw [hw']
          have Z15 := Lib.hid (Z14.out.below al)
          have Y15 : Hid (BytesAt w15 (.slice (some ⟨w14.heap.size, 0, none⟩) 1 1) [z]) := Lib.hid (by rw [← hw]; exact one_byte w14 z)
          have B15 := Lib.hid (B14.out.trans (al.mono B14.out.size))
          clear hK K B14 Z14 al hw hw'
          refine Tr.plan_one 2 rfl (fun K hK => ?_)
          refine wpList_append_fresh rfl (.tmp 66) (.tmp 67) rfl w13.heap.size (.slice (some ⟨w6.heap.size, 0, none⟩) 32 32) _ rfl rfl (KB12.out.below B15.out) (by rw [KL.out]; decide) (by rw [KL.out]; decide) ?_
          intro vA w16 hO hb
          go_wp2_with fail
          refine hK _ _ (hb.out.mono B15.out.size) ?_
          have Y16 := Lib.hid (Y15.out.below hb.out)
          have Z16 := Lib.hid (Z15.out.below hb.out)
          have N16 := Lib.hid (hO.out.ne_before (B := w12.heap.size) Z15.out.lt)
          have O16 := Lib.hid hO.out
          have SA16 := Lib.hid hb.out.size
          have SB := Lib.hid B15.out.size
          have B16 := Lib.hid (B15.out.trans (hb.out.mono B15.out.size))
          clear hK K B15 Y15 Z15 hO hb
          refine Tr.plan_one 8 rfl (fun K hK => ?_)
          refine wpList_append_bytes rfl (.tmp 68) (.tmp 73) rfl w15.heap.size vA (.slice (some ⟨w14.heap.size, 0, none⟩) 1 1) _ [z] rfl rfl O16.out Y16.out (by rw [KL.out, List.length_singleton]; decide) SA16.out ?_
          intro vC w17 hO hb hg
          go_wp2_with fail
          refine hK _ _ (hb.out.mono SB.out) ?_
          have Z17 := Lib.hid (Z16.out.grown hg.out N16.out)
          have O17 := Lib.hid hO.out
          have B17 := Lib.hid (B16.out.trans (hb.out.mono SB.out))
          clear hK K B16 Z16 N16 hO hb hg Y16 O16 SA16
          refine Tr.plan_one 9 rfl (fun K hK => ?_)
          go_wp2_with fail
          refine (HT2.out _ _ (O17.out.bytesAt (by rw [List.length_append, KL.out, List.length_singleton]; decide)) (T11.out.below B17.out)).mono ?_
          rintro e w18 ⟨rfl, b⟩
          go_wp2_with fail
          refine hK _ _ (b.mono B17.out.size) ?_
          have Z18 := Lib.hid (Z17.out.below b)
          have B18 := Lib.hid (B17.out.trans (b.mono B17.out.size))
          clear hK K B17 Z17 b O17
          refine Tr.plan_one 11 rfl (fun K hK => ?_)
          refine wpList_store_rowV (o := ⟨none, .store 29 (.tmp 15) (.tmp 75), _, _, _, _⟩) rfl 29 (.tmp 15) (.tmp 75) rfl w12.heap.size rfl 32 29 _ g2 rfl Z18.out (by kernel_rfl) G2.out ?_
          intro w19 R19 o19
          refine (show wpList _ _ _ [] _ _ from hK _ _ (o19.out.below SV.out B18.out.size) ?_)
          have B19 := Lib.hid (B18.out.trans (o19.out.below SV.out B18.out.size))
          clear hK K B18 o19
          refine Tr.plan_done (l := []) rfl (fun K hK => ?_)
          go_wp2_with fail
          go_meet
          refine ⟨_, rfl, R19.out, B19.out⟩
      · skip
        go_wp2_with fail
        have al := (Below.refl _ w13).alloc (Nat.le_refl _) (.cells #[vB z] 5)
        refine hK _ _ (al.mono B13.out.size) ?_
        obtain ⟨w14, hw⟩ : ∃ y, w13.alloc (.cells #[vB z] 5) = y := ⟨_, rfl⟩
        have hw' : w13.alloc (.cells #[vB z] 5) = w14 := hw
        rw [hw] at al
        rw [hw']
        have Z14 := Lib.hid (Z13.out.below al)
        have Y14 : Hid (BytesAt w14 (.slice (some ⟨w13.heap.size, 0, none⟩) 1 1) [z]) := Lib.hid (by rw [← hw]; exact one_byte w13 z)
        have B14 := Lib.hid (B13.out.trans (al.mono B13.out.size))
        clear hK K B13 Z13 al hw hw'
        refine Tr.plan_one 0 rfl (fun K hK => ?_)
        go_wp2_with fail
        have al := (Below.refl _ w14).alloc (Nat.le_refl _) (.cells #[] 5)
        refine hK _ _ (al.mono B14.out.size) ?_
        obtain ⟨w15, hw⟩ : ∃ y, w14.alloc (.cells #[] 5) = y := ⟨_, rfl⟩
        have hw' : w14.alloc (.cells #[] 5) = w15 := hw
        rw [hw] at al
        rw [hw']
        have Y15 := Lib.hid (Y14.out.below al)
        have Z15 := Lib.hid (Z14.out.below al)
        have B15 := Lib.hid (B14.out.trans (al.mono B14.out.size))
        clear hK K B14 Y14 Z14 al hw hw'
        refine Tr.plan_one 2 rfl (fun K hK => ?_)
        refine wpList_append_fresh rfl (.tmp 66) (.tmp 67) rfl w14.heap.size (.slice (some ⟨w6.heap.size, 0, none⟩) 32 32) _ rfl rfl (KB12.out.below B15.out) (by rw [KL.out]; decide) (by rw [KL.out]; decide) ?_
        intro vA w16 hO hb
        go_wp2_with fail
        refine hK _ _ (hb.out.mono B15.out.size) ?_
        have Y16 := Lib.hid (Y15.out.below hb.out)
        have Z16 := Lib.hid (Z15.out.below hb.out)
        have N16 := Lib.hid (hO.out.ne_before (B := w12.heap.size) Z15.out.lt)
        have O16 := Lib.hid hO.out
        have SA16 := Lib.hid hb.out.size
        have SB := Lib.hid B15.out.size
        have B16 := Lib.hid (B15.out.trans (hb.out.mono B15.out.size))
        clear hK K B15 Y15 Z15 hO hb
        refine Tr.plan_one 8 rfl (fun K hK => ?_)
        refine wpList_append_bytes rfl (.tmp 68) (.tmp 73) rfl w15.heap.size vA (.slice (some ⟨w13.heap.size, 0, none⟩) 1 1) _ [z] rfl rfl O16.out Y16.out (by rw [KL.out, List.length_singleton]; decide) SA16.out ?_
        intro vC w17 hO hb hg
        go_wp2_with fail
        refine hK _ _ (hb.out.mono SB.out) ?_
        have Z17 := Lib.hid (Z16.out.grown hg.out N16.out)
        have O17 := Lib.hid hO.out
        have B17 := Lib.hid (B16.out.trans (hb.out.mono SB.out))
        clear hK K B16 Z16 N16 hO hb hg Y16 O16 SA16
        refine Tr.plan_one 9 rfl (fun K hK => ?_)
        go_wp2_with fail
        refine (HT2.out _ _ (O17.out.bytesAt (by rw [List.length_append, KL.out, List.length_singleton]; decide)) (T11.out.below B17.out)).mono ?_
        rintro e w18 ⟨rfl, b⟩
        go_wp2_with fail
        refine hK _ _ (b.mono B17.out.size) ?_
        have Z18 := Lib.hid (Z17.out.below b)
        have B18 := Lib.hid (B17.out.trans (b.mono B17.out.size))
        clear hK K B17 Z17 b O17
        refine Tr.plan_one 11 rfl (fun K hK => ?_)
        refine wpList_store_rowV (o := ⟨none, .store 29 (.tmp 15) (.tmp 75), _, _, _, _⟩) rfl 29 (.tmp 15) (.tmp 75) rfl w12.heap.size rfl 32 29 _ g2 rfl Z18.out (by kernel_rfl) G2.out ?_
        intro w19 R19 o19
        refine (show wpList _ _ _ [] _ _ from hK _ _ (o19.out.below SV.out B18.out.size) ?_)
        have B19 := Lib.hid (B18.out.trans (o19.out.below SV.out B18.out.size))
        clear hK K B18 o19
        refine Tr.plan_done (l := []) rfl (fun K hK => ?_)
        go_wp2_with fail
        go_meet
        refine ⟨_, rfl, R19.out, B19.out⟩
  case rest =>
    rename World => w12
    obtain ⟨bo, e15, hZ, hB⟩ := hcut
    subst e15
    have B12 := Lib.hid (B11.out.trans (hB.mono B11.out.size))
    have D12 := Lib.hid (D11.out.below hB)
    have S12 := Lib.hid (S11.out.below hB)
    have M12 := Lib.hid (M11.out.below hB)
    have Y12 := Lib.hid hZ
    clear hZ hB B11 D11 S11 L11 M11 hb2 HT2 wq
    have lP2 : P2.length = 32 := hP2 ▸ proofL_len _ _
    obtain ⟨E, hE⟩ : ∃ E : Nat → List UInt8, (fun i => if i = 0 then d else if i = 1 then P1 else P2) = E := ⟨_, rfl⟩
    have E0 := Lib.hid (show Value.agg (rowF 32 h) = digV (E 0) by rw [← hE, ← hh]; rfl)
    have E1 := Lib.hid (show Value.agg (rowF 32 g) = digV (E 1) by rw [← hE, ← hg]; rfl)
    have E2 := Lib.hid (show Value.agg (rowF 32 g2) = digV (E 2) by rw [← hE, ← hg2]; rfl)
    have EL := Lib.hid (show ∀ k, (E k).length = 32 by intro k; rw [← hE]; dsimp only; split <;> (try split) <;> assumption)
    clear hE hh hg hg2 lP1 lP2 hP2 hd hz hf
    go_upto_region 11 with (first | ((with_reducible (show wpList _ _ _ (Oper.mk (some 76) _ _ _ _ _ :: _) _ _)); refine wpList_load_rowV rfl 29 (.tmp 5) rfl w1.heap.size rfl 32 29 _ D12.out _ Tryd.underlying29 rfl (by kernel_rfl) ?_) | ((with_reducible (show wpList _ _ _ (Oper.mk (some 77) _ _ _ _ _ :: _) _ _)); refine wpList_load_rowV rfl 29 (.tmp 13) rfl w10.heap.size rfl 32 29 _ M12.out _ Tryd.underlying29 rfl (by kernel_rfl) ?_) | ((with_reducible (show wpList _ _ _ (Oper.mk (some 78) _ _ _ _ _ :: _) _ _)); refine wpList_load_rowV rfl 29 (.tmp 15) rfl bo rfl 32 29 _ Y12.out _ Tryd.underlying29 rfl (by kernel_rfl) ?_) | ((with_reducible (show wpList _ _ _ (Oper.mk (some 79) _ _ _ _ _ :: _) _ _)); refine wpList_build3 rfl 43 29 (.tmp 76) (.tmp 77) (.tmp 78) rfl E _ _ _ rfl rfl rfl E0.out E1.out E2.out Tryd.underlying43 (by kernel_rfl) (by kernel_rfl) ?_; intro w13 L13 b13))
    have B13 := Lib.hid (B12.out.trans (b13.out.mono B12.out.size))
    have S13 := Lib.hid (S12.out.below b13.out)
    clear b13 B12 D12 S12 M12 Y12 E0 E1 E2
    go_loopg [81] 3 (fun g s81 wx => ∃ k : Nat, k + g = 3 ∧ s81 = .int .i64 (k : Int) ∧ Hid (Below w13.heap.size w13 wx))
    case atStart => exact ⟨0, by omega, rfl, Lib.hid (Below.refl _ _)⟩
    case round =>
      obtain ⟨k, hk, rfl, hB⟩ := hrel
      obtain ⟨w14, rfl⟩ : ∃ y, y = wr := ⟨_, rfl⟩
      by_cases hk2 : k < 3
      · obtain ⟨l, hl⟩ : ∃ l, E k = l := ⟨_, rfl⟩
        have ll := EL.out k
        rw [hl] at ll
        obtain ⟨f2, hf2⟩ : ∃ f, (fun i => vB (l.getD i 0)) = f := ⟨_, rfl⟩
        obtain ⟨q, hq⟩ : ∃ b, AB l = b := ⟨_, rfl⟩
        have PE := Lib.hid (show Value.agg (rowF 32 f2) = digV (E k) by rw [hl, ← hf2]; rfl)
        have F2 := Lib.hid (show ∀ j, j < 32 → (f2 j).oneCell' = true by intro j _; rw [← hf2]; rfl)
        have AC := Lib.hid (show ∀ W, Tab W → Calls Tryd.prog 28 #[.agg #[.int .i64 r, .int .i64 c, .int .i64 x], .int .i64 p, .agg (rowF 32 f2)] W fun e w' => e = .returned (.tuple #[.bool q, .int .i64 er]) ∧ Below W.heap.size W w' by
          intro W hW; have := H5.out W l ll hW; rw [hq] at this; rw [← hf2]; exact this)
        have AR := Lib.hid (show ∀ W, Calls Tryd.prog 29 #[.agg #[.int .i64 r, .int .i64 c, .int .i64 x], .int .i64 p, .agg (rowF 32 f2)] W fun e w' => e = .returned (.tuple #[.bool q, .int .i64 er]) ∧ Below W.heap.size W w' by
          intro W; have := H6.out W l ll; rw [hq] at this; rw [← hf2]; exact this)
        have HK := Lib.hid hk2
        have d0 : decide ((k : Int) < 3) = true := by rw [decide_eq_true_iff]; omega
        have z1 : (0 : Int) ≤ (k : Int) := Int.natCast_nonneg k
        have z2 : (k : Int) < 3 := by omega
        have p0 : 0 ≤ (k : Int) ∧ (k : Int) < 3 := by omega
        have z3 : ((k : Int)).toNat = k := Int.toNat_natCast k
        have B14 := Lib.hid (B13.out.trans (hB.out.mono B13.out.size))
        have L14 := Lib.hid (L13.out.below hB.out)
        have S14 := Lib.hid (S13.out.below hB.out)
        have ZR := Lib.hid (RowV.new w14 29 32 (fun _ => vB 0))
        clear hl ll hf2 hq hk2
        go_upto_region 13 with (first | ((with_reducible (show wpList _ _ _ (Oper.mk (some 84) _ _ _ _ _ :: _) _ _)); refine wpList_load_part rfl 29 (.tmp 83) rfl w12.heap.size _ rfl k 96 (by omega) 29 E L14.out (by have := HK.out; omega) _ Tryd.underlying29 rfl (by kernel_rfl) f2 PE.out ?_) | ((with_reducible (show wpList _ _ _ (Oper.mk none _ _ _ _ _ :: _) _ _)); refine wpList_store_rowV (o := ⟨none, .store 29 (.tmp 17) (.tmp 84), _, _, _, _⟩) rfl 29 (.tmp 17) (.tmp 84) rfl w14.heap.size rfl 32 29 _ f2 rfl ZR.out (by kernel_rfl) F2.out ?_; intro w15 V15 o15))
        have b15 : Below w14.heap.size w14 w15 := ((Below.refl _ w14).alloc (Nat.le_refl _) _).trans (o15.out.below (Nat.le_refl _) (by rw [World.size_alloc]; omega))
        have B15 := Lib.hid (B14.out.trans (b15.mono B14.out.size))
        have S15 := Lib.hid (S14.out.below b15)
        have K15 := Lib.hid (hB.out.trans (b15.mono hB.out.size))
        clear b15 o15 ZR L14 S14 B14 hB
        have x0 : _ = some (Value.int .i64 r) := S15.out.cell (i := 0) (by decide)
        have x1 : _ = some (Value.int .i64 c) := S15.out.cell (i := 1) (by decide)
        have x2 : _ = some (Value.int .i64 x) := S15.out.cell (i := 2) (by decide)
        go_wp2_with (first | ((with_reducible (show wpList _ _ _ (Oper.mk (some 88) _ _ _ _ _ :: _) _ _)); refine wpList_load_rowV rfl 29 (.tmp 17) rfl w14.heap.size rfl 32 29 _ V15.out _ Tryd.underlying29 rfl (by kernel_rfl) ?_))
        refine (AC.out _ (T.out.below B15.out)).mono ?_
        rintro e w16 ⟨rfl, b16⟩
        have V16 := Lib.hid (V15.out.below b16)
        have S16 := Lib.hid (S15.out.below b16)
        have K16 := Lib.hid (K15.out.trans (b16.mono K15.out.size))
        clear b16 x0 x1 x2 V15 S15 K15 B15
        have x0 : _ = some (Value.int .i64 r) := S16.out.cell (i := 0) (by decide)
        have x1 : _ = some (Value.int .i64 c) := S16.out.cell (i := 1) (by decide)
        have x2 : _ = some (Value.int .i64 x) := S16.out.cell (i := 2) (by decide)
        go_wp2_with (first | ((with_reducible (show wpList _ _ _ (Oper.mk (some 95) _ _ _ _ _ :: _) _ _)); refine wpList_load_rowV rfl 29 (.tmp 17) rfl w14.heap.size rfl 32 29 _ V16.out _ Tryd.underlying29 rfl (by kernel_rfl) ?_))
        refine (AR.out _).mono ?_
        rintro e w17 ⟨rfl, b17⟩
        have K17 := Lib.hid (K16.out.trans (b17.mono K16.out.size))
        clear b17 x0 x1 x2 V16 S16 K16
        go_wp2_with fail
        go_roundg (gk - 1)
        case measure => omega
        case rel =>
          go_light
          exact ⟨k + 1, by omega, by go_num, K17⟩
      · obtain rfl : k = 3 := by omega
        have d0 : decide (((3 : Nat) : Int) < 3) = false := by decide
        have BF := Lib.hid (B13.out.trans (hB.out.mono B13.out.size))
        clear hB
        go_wp2_with fail
        go_ret
        exact ⟨rfl, BF.out⟩

set_option maxRecDepth 100000 in
set_option maxHeartbeats 1000000 in
theorem lifted (os : Os) (started : os.Started) (H : Type) (enc : TypeId × Value → H) :
    ReturnsInHanded {} Tryd.checked os 6 .any (fun w args => (Rows.pakeSharedSpecSpec.pre enc Tryd.prog Tryd.f6 [] false w args ∧ laidMetH Tryd.prog laidL w) ∧ sizedMet enc Tryd.prog Tryd.f6 (OpenSpec.ofChange Rows.pakeSharedSpecSpec) false w args)
      (Rows.pakeSharedSpecSpec.post enc Tryd.prog Tryd.f6 false true false false) := by
  refine returnsInHanded_of_change_and (C := Tryd.checked) (X := fun w _ => laidMetH Tryd.prog laidL w) (fun _ _ _ hh h => h.of_heap hh) own started (by kernel_rfl) Tryd.func6
    (ChangeSpec.witness_shaped (enc := enc) (C := Tryd.checked) (os := os) (X := fun w _ => laidMetH Tryd.prog laidL w) false (World.doorLaid Tryd.prog 19 os) #[.agg #[.int .i64 0, .int .i64 0, .int .i64 0], .int .i64 0, .agg (Array.replicate 32 (.int .u8 0))] 8 rfl (World.shaped_of_RefB (by kernel_rfl) (by kernel_rfl)) (by kernel_rfl) (by kernel_rfl) (by kernel_rfl) (door_met os _)) ?_
  intro W base args ds gs before hval0 hW _ hsz hL _
  have hval : ∀ (j : Nat) t v, Tryd.f6.params[j]? = some t → args[j]? = some v → Value.okWide Tryd.prog W .any base t v := hval0
  have hW' := hW
  obtain ⟨p, q, hA0, hV, rfl, hfz, hnd⟩ := hW
  have hA : DataW.TrodAll enc Tryd.prog W 0 (fun _ => true) true Tryd.f6.params.toList args.toList ds p := hA0
  rw [Tryd.params6] at hA hval
  obtain ⟨v0, vs0, d0, ds0, p0, q0, hargs, rfl, rfl, h0, r0⟩ := trodAll_cons hA
  obtain ⟨v1, vs1, d1, ds1, p1, q1, rfl, rfl, rfl, h1, r1⟩ := trodAll_cons r0
  obtain ⟨v2, vs2, d2, ds2, p2, q2, rfl, rfl, rfl, h2, r2⟩ := trodAll_cons r1
  obtain ⟨rfl, rfl, rfl⟩ := trodAll_nil r2
  obtain rfl : args = #[v0, v1, v2] := by cases args; simp_all
  obtain ⟨rfl, rfl⟩ := trodVars_none hV
  have k0 := h0
  have lt0 : ∀ x ∈ p0, x.block < W.heap.size := by obtain ⟨m, hm⟩ := k0; exact DataW.trod_lt m _ _ _ hm
  obtain ⟨a0, b0, c0, wa0, wb0, wc0, rfl⟩ := side_open (hval 0 33 v0 rfl rfl) h0
  obtain ⟨a1, rfl, rfl, rfl, w1⟩ := open_int Tryd.underlying3 (hval 1 3 v1 rfl rfl) h1
  have k2 := h2
  have lt2 : ∀ x ∈ p2, x.block < W.heap.size := by obtain ⟨m, hm⟩ := k2; exact DataW.trod_lt m _ _ _ hm
  obtain ⟨l2, n2, rfl⟩ := digest_open (hval 2 29 v2 rfl rfl) h2
  have hT := tab_of_laid hL
  clear hA0 hval0 hsz hL
  simp only [List.append_nil] at hW'
  refine (walk a0 b0 c0 wa0 wb0 wc0 a1 w1 l2 n2 hT).mono fun e W' ⟨he, hg⟩ => ?_
  subst he
  exact ⟨_, rfl, _, _, _, [], _, [], hW', trodAll_mk1 (shut_bool Tryd.underlying4 _), (trodAll_cons_mk (Below.trod laidOut (by kernel_rfl) (of_decide_eq_true (by kernel_rfl)) k0 hg lt0) (trodAll_cons_mk (shut_int Tryd.underlying3 w1) (trodAll_cons_mk (Below.trod laidOut (by kernel_rfl) (of_decide_eq_true (by kernel_rfl)) k2 hg lt2) trodAll_mk0))), rfl, hg.frame _, fun h => by cases h⟩

theorem over : Rows.pakeSharedSpecRow.holds Tryd.pinned (OpenSpec.ofChange Rows.pakeSharedSpecSpec) :=
  OpenClaim.holds_of_wide 6 Tryd.f6 rfl rfl rfl rfl rfl rfl rfl ⟨rfl, rfl, rfl, rfl, rfl⟩ rfl rfl rfl rfl rfl (by kernel_rfl) Tryd.func6 (by kernel_rfl)
    (of_decide_eq_true (by kernel_rfl)) (by unfold Func.isWrapper; first | (rw [if_pos (by decide +kernel)]; kernel_rfl) | (rw [if_neg (by decide +kernel)]; exact ⟨rfl, rfl⟩))
    (fun os started H enc _ => lifted os started H enc)

end Go.Proofs.YtdcpejfnhegdaaaDoor.pakeSharedSpec
namespace Go.Proofs.YtdcpejfnhegdaaaDoor
set_option maxRecDepth 100000 in
theorem pakeSharedSpec_holds : Rows.PakeSharedSpecCardSaid :=
  Claim7.holds_tied_plain_at .later [] [.data, .data] true _ false
    pakeSharedSpec.over (fun _ h => by cases h) (by kernel_rfl) (fun _ h => by cases h) pakeSharedSpec_row_tie rfl ⟨rfl, rfl⟩ (by kernel_rfl) rfl
    (fun f fn hf hfn => by
      obtain rfl : f = 6 := Option.some.inj ((show Tryd.prog.funcNamed "chartroom/chartroomlaw10.PakeSharedSpec" = some 6 by kernel_rfl).symm.trans hf) |>.symm
      obtain rfl : fn = Tryd.f6 := (Option.some.inj (Tryd.func6.symm.trans hfn)).symm
      exact ⟨by kernel_rfl, fun j t ht => by
        rw [Tryd.params6] at ht
        have hm : t ∈ [33, 3, 29] := by simpa using Array.mem_of_getElem? ht
        have hall : ([33, 3, 29].all fun u => !Tryd.prog.wantsStandIn u) = true := by kernel_rfl
        exact (show Tryd.prog.wantsStandIn t = false by simpa using List.all_eq_true.1 hall t hm)⟩)
    (by kernel_rfl)
#print axioms pakeSharedSpec_holds
end Go.Proofs.YtdcpejfnhegdaaaDoor
