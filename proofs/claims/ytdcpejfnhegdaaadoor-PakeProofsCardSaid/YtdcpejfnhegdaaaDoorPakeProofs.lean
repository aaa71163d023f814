/- PakeProofs returns true for every input. No condition beyond the card's own: the two tables of package digest are tied to the program's text. -/
import Derived.Test.YtdcpejfnhegdaaaDoorPakeT
import Derived.Test.YtdcpejfnhegdaaaDoorLaid
import Derived.Test.YtdcpejfnhegdaaaDoorCards
namespace Go.Proofs.YtdcpejfnhegdaaaDoor.pakeProofs
open Go.ChangeShapes Go.WideShapes Go.ChangeAt Go.RowKit
open Go.ChangeMaps (open_string shut_string)
set_option linter.unusedVariables false
set_option linter.unusedSimpArgs false

set_option maxRecDepth 100000 in
set_option maxHeartbeats 64000000 in
theorem walk {w : World} (ro : Int) (wr : (Lit.int .i64 ro).wf = true) (c : Int) (wc : (Lit.int .i64 c).wf = true) (a : Int) (wa : (Lit.int .i64 a).wf = true) (po : Int) (wp : (Lit.int .i64 po).wf = true) (d : List UInt8) (hd : d.length = 32) (hT : Tab w) :
    Calls Tryd.prog 8 #[.int .i64 ro, .int .i64 c, .int .i64 a, .int .i64 po, digV d] w fun e w' => e = .returned (.bool true) ∧ Below w.heap.size w w' := by
  have C0 := Lib.hid (fun W hT => sane10_any W hT)
  have c1 := fun W => side_any ro c a W
  have hR := roleN_or ro
  have hC := codeN_lt c
  have hX := secN_bd a
  obtain ⟨R, eR⟩ : ∃ y, roleN ro = y := ⟨_, rfl⟩
  obtain ⟨C, eC⟩ : ∃ y, codeN c = y := ⟨_, rfl⟩
  obtain ⟨X, eX⟩ : ∃ y, secN a = y := ⟨_, rfl⟩
  rw [eR, eC, eX] at c1
  rw [eR] at hR
  rw [eC] at hC
  rw [eX] at hX
  -- the peer
  obtain ⟨q, hq⟩ : ∃ q, (po % 18446744073709551616).toNat % 2305843009213688669 = q := ⟨_, rfl⟩
  have hql : q < 2305843009213688669 := by omega
  have w1 : IntKind.u64.wrap po = (((po % 18446744073709551616).toNat : Nat) : Int) := by rw [IntKind.wrap_u64]; omega
  have w2 : (((po % 18446744073709551616).toNat : Nat) : Int).tmod 2305843009213688669 = (q : Int) := by
    rw [Int.tmod_eq_emod_of_nonneg (Int.natCast_nonneg _), ← hq]; rfl
  have w3 : IntKind.i64.wrap (q : Int) = (q : Int) := IntWalk.i64_in _ (by omega)
  obtain ⟨pu, hpu⟩ : ∃ y, (((po % 18446744073709551616).toNat : Nat) : Int) = y := ⟨_, rfl⟩
  rw [hpu] at w1 w2
  have elp := powP_pos El4 q
  have c2 := fun W => gbase_el hql rfl W
  obtain ⟨p, hp⟩ : ∃ y, powP 4 q = y := ⟨_, rfl⟩
  rw [hp] at elp c2
  obtain ⟨K, hK⟩ : ∃ y, keyS R C X p = y := ⟨_, rfl⟩
  have kl : K.length = 32 := hK ▸ keyL_len _ _ _
  obtain ⟨P1, hP1⟩ : ∃ y, proofL K (R : Int) = y := ⟨_, rfl⟩
  obtain ⟨P2, hP2⟩ : ∃ y, proofL K (3 - (R : Int)) = y := ⟨_, rfl⟩
  have c3 := fun W h => shared_ok hR hC hX.1 hX.2 elp hK W h
  have c4 := fun W h => proved_ok hR hC hX.1 hX.2 elp hK hP1 W h
  have c5 := fun W d hd h => accept_ok hR hC hX.1 hX.2 elp hK hP2 d hd W h
  unfold digV at c3 c4 ⊢
  obtain ⟨f, hf⟩ : ∃ f, (fun i => vB (K.getD i 0)) = f := ⟨_, rfl⟩
  obtain ⟨g, hg⟩ : ∃ f, (fun i => vB (P1.getD i 0)) = f := ⟨_, rfl⟩
  obtain ⟨h, hh⟩ : ∃ f, (fun i => vB (d.getD i 0)) = f := ⟨_, rfl⟩
  have f1 : ∀ j, j < 32 → (f j).oneCell' = true := by intro j _; rw [← hf]; rfl
  have g1 : ∀ j, j < 32 → (g j).oneCell' = true := by intro j _; rw [← hg]; rfl
  rw [hf] at c3
  rw [hg] at c4
  rw [hh]
  have H1 := Lib.hid c1; have H2 := Lib.hid c2; have H3 := Lib.hid c3; have H4 := Lib.hid c4; have H5 := Lib.hid c5; have T := Lib.hid hT; have F1 := Lib.hid f1; have G1 := Lib.hid g1
  clear hpu hq hql c1 c2 c3 c4 c5 hT f1 g1 eR eC eX hX hC elp hp wr wc wa wp
  go_enter Tryd.func8, Tryd.ntmps8
  have B0 := Lib.hid (Below.refl w.heap.size w)
  go_upto_region 1 with fail
  obtain ⟨w1, hw1⟩ : ∃ y, w.alloc (.cells (rowF 32 h) 29) = y := ⟨_, rfl⟩
  have b1 : Below w.heap.size w w1 := by rw [← hw1]; exact (Below.refl _ _).alloc (Nat.le_refl _) _
  have D1 : Hid (RowV w1 w.heap.size 29 32 h) := Lib.hid (by rw [← hw1]; exact RowV.new w _ 32 h)
  have z1 : w.heap.size + 1 = w1.heap.size := by rw [← hw1]; exact (Array.size_push _).symm
  rw [hw1]
  (try rw [z1])
  have B1 := Lib.hid (B0.out.trans (b1.mono B0.out.size))
  clear b1 hw1 z1 B0
  go_wp2_with fail
  refine (C0.out _ (T.out.below B1.out)).mono ?_
  rintro e w2 ⟨rfl, b2⟩
  have B2 := Lib.hid (B1.out.trans (b2.mono B1.out.size))
  have D2 := Lib.hid (D1.out.below b2)
  clear b2 B1 D1
  go_wp2_with fail
  refine (H1.out _).mono ?_
  rintro e w3 ⟨rfl, b3⟩
  have B3 := Lib.hid (B2.out.trans (b3.mono B2.out.size))
  have D3 := Lib.hid (D2.out.below b3)
  clear b3 B2 D2
  go_upto_region 4 with fail
  obtain ⟨w4, hw4⟩ : ∃ y, w3.alloc (.cells #[.int .i64 R, .int .i64 C, .int .i64 X] 33) = y := ⟨_, rfl⟩
  have b4 : Below w3.heap.size w3 w4 := by rw [← hw4]; exact (Below.refl _ _).alloc (Nat.le_refl _) _
  have P4 : Hid (RowV w4 w3.heap.size 33 3 (sideF R C X)) := Lib.hid (by rw [← hw4]; exact RowV.new w3 _ 3 (sideF R C X))
  have z4 : w3.heap.size + 1 = w4.heap.size := by rw [← hw4]; exact (Array.size_push _).symm
  rw [hw4]
  (try rw [z4])
  have B4 := Lib.hid (B3.out.trans (b4.mono B3.out.size))
  have D4 := Lib.hid (D3.out.below b4)
  clear b4 hw4 z4 B3 D3
  go_wp2_with fail
  refine (H2.out _).mono ?_
  rintro e w5 ⟨rfl, b5⟩
  have B5 := Lib.hid (B4.out.trans (b5.mono B4.out.size))
  have D5 := Lib.hid (D4.out.below b5)
  have P5 := Lib.hid (P4.out.below b5)
  clear b5 B4 D4 P4
  have x0 : _ = some (Value.int .i64 (R : Int)) := P5.out.cell (i := 0) (by decide)
  have x1 : _ = some (Value.int .i64 (C : Int)) := P5.out.cell (i := 1) (by decide)
  have x2 : _ = some (Value.int .i64 (X : Int)) := P5.out.cell (i := 2) (by decide)
  go_wp2_with fail
  refine (H3.out _ (T.out.below B5.out)).mono ?_
  rintro e w6 ⟨rfl, b6⟩
  have B6 := Lib.hid (B5.out.trans (b6.mono B5.out.size))
  have D6 := Lib.hid (D5.out.below b6)
  have P6 := Lib.hid (P5.out.below b6)
  clear b6 B5 D5 P5
  clear x0 x1 x2
  have Zr := Lib.hid (RowV.new w6 38 32 (fun _ => vB 0))
  go_upto_region 6 with ((with_reducible (show wpList _ _ _ (Oper.mk none _ _ _ _ _ :: _) _ _)); refine wpList_store_rowV (o := ⟨none, .store 38 (.tmp 14) (.tmp 42), _, _, _, _⟩) rfl 38 (.tmp 14) (.tmp 42) rfl w6.heap.size rfl 32 38 _ f rfl Zr.out (by kernel_rfl) F1.out ?_; intro w7 K7 o7)
  have b7 : Below w6.heap.size w6 w7 := ((Below.refl _ _).alloc (Nat.le_refl _) _).trans (o7.out.below (Nat.le_refl _) (by rw [World.size_alloc]; omega))
  have B7 := Lib.hid (B6.out.trans (b7.mono B6.out.size))
  have D7 := Lib.hid (D6.out.below b7)
  have P7 := Lib.hid (P6.out.below b7)
  clear b7 o7 Zr B6 D6 P6
  have x0 : _ = some (Value.int .i64 (R : Int)) := P7.out.cell (i := 0) (by decide)
  have x1 : _ = some (Value.int .i64 (C : Int)) := P7.out.cell (i := 1) (by decide)
  have x2 : _ = some (Value.int .i64 (X : Int)) := P7.out.cell (i := 2) (by decide)
  go_wp2_with fail
  refine (H4.out _ (T.out.below B7.out)).mono ?_
  rintro e w8 ⟨rfl, b8⟩
  have B8 := Lib.hid (B7.out.trans (b8.mono B7.out.size))
  have D8 := Lib.hid (D7.out.below b8)
  have P8 := Lib.hid (P7.out.below b8)
  have K8 := Lib.hid (K7.out.below b8)
  clear b8 B7 D7 P7 K7
  clear x0 x1 x2
  have Zr := Lib.hid (RowV.new w8 29 32 (fun _ => vB 0))
  go_upto_region 7 with ((with_reducible (show wpList _ _ _ (Oper.mk none _ _ _ _ _ :: _) _ _)); refine wpList_store_rowV (o := ⟨none, .store 29 (.tmp 16) (.tmp 48), _, _, _, _⟩) rfl 29 (.tmp 16) (.tmp 48) rfl w8.heap.size rfl 32 29 _ g rfl Zr.out (by kernel_rfl) G1.out ?_; intro w9 G9 o9)
  have b9 : Below w8.heap.size w8 w9 := ((Below.refl _ _).alloc (Nat.le_refl _) _).trans (o9.out.below (Nat.le_refl _) (by rw [World.size_alloc]; omega))
  have B9 := Lib.hid (B8.out.trans (b9.mono B8.out.size))
  have D9 := Lib.hid (D8.out.below b9)
  have P9 := Lib.hid (P8.out.below b9)
  have K9 := Lib.hid (K8.out.below b9)
  clear b9 o9 Zr B8 D8 P8 K8
  go_upto_region 9 with fail
  obtain ⟨x, hx⟩ : ∃ y, roleByte (R : Int) = y := ⟨_, rfl⟩
  have hb1 := vB_role (R : Int)
  rw [hx] at hb1
  have ct1 : ∀ v W, BytesAt W v (K ++ [x]) → Tab W → Calls Tryd.prog 18 #[.string sProof, v] W fun e w' => e = .returned (.agg (rowF 32 g)) ∧ Below W.heap.size W w' := fun v W hv hT => by
    have h := tagged_any sProof v _ W (by decide) (by rw [List.length_append, kl, List.length_singleton]; decide) hv hT
    rw [← hg, ← hP1]; unfold proofL; rw [hx]; exact h
  have HT1 := Lib.hid ct1
  have KL := Lib.hid kl
  clear ct1 kl
  go_cut [18] (fun s18 wx => ∃ b, s18 = .pointer (some ⟨b, 0, none⟩) ∧ RowV wx b 29 32 g ∧ Below w9.heap.size w9 wx)
  case first =>
    refine Tr.wp_region_plan w9.heap.size 11 [] (.fl 1 (.fl 3 (.fl 4 (.fl 5 (.tri 0 6 9 (.tri 2 6 9 (.two 6 9 (.two 7 9 (.two 8 9 (.one 9 (.one 10 .done)) (.one 8 (.one 10 .done))) (.one 7 (.one 8 (.one 10 .done)))) (.one 6 (.one 7 (.one 8 (.one 10 .done))))) (.two 2 9 (.two 7 9 (.two 8 9 (.one 9 (.one 10 .done)) (.one 8 (.one 10 .done))) (.one 7 (.one 8 (.one 10 .done)))) (.one 2 (.one 7 (.one 8 (.one 10 .done))))) (.two 2 6 (.one 6 (.one 7 (.one 8 (.one 10 .done)))) (.one 2 (.one 7 (.one 8 (.one 10 .done)))))) (.two 0 9 (.two 2 9 (.two 7 9 (.two 8 9 (.one 9 (.one 10 .done)) (.one 8 (.one 10 .done))) (.one 7 (.one 8 (.one 10 .done)))) (.one 2 (.one 7 (.one 8 (.one 10 .done))))) (.one 0 (.one 2 (.one 7 (.one 8 (.one 10 .done)))))) (.two 0 6 (.two 2 6 (.one 6 (.one 7 (.one 8 (.one 10 .done)))) (.one 2 (.one 7 (.one 8 (.one 10 .done))))) (.one 0 (.one 2 (.one 7 (.one 8 (.one 10 .done))))))))))) (by kernel_rfl) (by kernel_rfl) ?_
    intro w10 b10 e10
    clear e10
    have B10 := Lib.hid b10
    have T9 := Lib.hid (T.out.below B9.out)
    have KR := Lib.hid (K9.out.below b10)
    have KLt := Lib.hid K9.out.lt
    have P10 := Lib.hid (P9.out.below b10)
    have PLt := Lib.hid P9.out.lt
    clear b10
    refine Tr.plan_floats [1, 3, 4, 5] [_, _, _, _] rfl ?_
    dsimp only [List.getElem_toArray, List.getElem_cons_succ, List.getElem_cons_zero]
    obtain ⟨i0, hi0, _, _, _⟩ := info_parts info_byte
    refine quietN_slice_array rfl _ (.tmp 14) rfl w6.heap.size 32 rfl _ Tryd.underlying38 (by decide) i0 hi0 ?_
    simp only [Act.put, List.setIfInBounds_toArray, List.set_cons_succ, List.set_cons_zero]
    repeat (go_big_quiet_want; go_big_quiet_op; first | go_big_quiet_on | (refine ⟨_, fun _ _ => rfl, ?_⟩; go_big_quiet_on))
    refine quietN_load_cell rfl _ (.tmp 63) rfl w3.heap.size 0 rfl 3 33 _ P10.out PLt.out (by decide) _ Tryd.underlying3 rfl (.int .i64 (R : Int)) rfl ?_
    simp only [Act.put, List.setIfInBounds_toArray, List.set_cons_succ, List.set_cons_zero]
    repeat (go_big_quiet_want; go_big_quiet_op; first | go_big_quiet_on | (refine ⟨_, fun _ _ => rfl, ?_⟩; go_big_quiet_on))
    refine wpQuiet_nil ?_
    have KB10 := Lib.hid (show BytesAt w9 (.slice (some ⟨w6.heap.size, 0, none⟩) 32 32) K from RowV.bytesAt (hf.symm ▸ K9.out) KL.out (by decide) (by decide))
    clear KR KLt P10 PLt hb1 hi0
    refine Tr.plan_tri 0 6 9 rfl rfl rfl (fun K hK => ?_) (fun K hK => ?_) (fun K hK => ?_)
    · skip
      go_wp2_with fail
      have al := (Below.refl _ w10).alloc (Nat.le_refl _) (.cells #[] 5)
      refine hK _ _ (al.mono B10.out.size) ?_
      obtain ⟨w11, hw⟩ : ∃ y, w10.alloc (.cells #[] 5) = y := ⟨_, rfl⟩
      have hw' : w10.alloc (.cells #[] 5) = w11 := hw
      rw [hw] at al
      rw [hw']
      have B11 := Lib.hid (B10.out.trans (al.mono B10.out.size))
      clear hK K B10 al hw hw'
      refine Tr.plan_tri 2 6 9 rfl rfl rfl (fun K hK => ?_) (fun K hK => ?_) (fun K hK => ?_)
      · skip
        refine wpList_append_fresh rfl (.tmp 60) (.tmp 61) rfl w10.heap.size (.slice (some ⟨w6.heap.size, 0, none⟩) 32 32) _ rfl rfl (KB10.out.below B11.out) (by rw [KL.out]; decide) (by rw [KL.out]; decide) ?_
        intro vA w12 hO hb
        go_wp2_with fail
        refine hK _ _ (hb.out.mono B11.out.size) ?_
        have O12 := Lib.hid hO.out
        have SA12 := Lib.hid hb.out.size
        have SB := Lib.hid B11.out.size
        have B12 := Lib.hid (B11.out.trans (hb.out.mono B11.out.size))
        clear hK K B11 hO hb
        refine Tr.plan_two 6 9 rfl rfl (fun K hK => ?_) (fun K hK => ?_)
        · skip
          go_wp2_with fail
          have al := (Below.refl _ w12).alloc (Nat.le_refl _) (.cells #[vB x] 5)
          refine hK _ _ (al.mono B12.out.size) ?_
          obtain ⟨w13, hw⟩ : ∃ y, w12.alloc (.cells #[vB x] 5) = y := ⟨_, rfl⟩
          have hw' : w12.alloc (.cells #[vB x] 5) = w13 := hw
          rw [hw] at al
          rw [hw']
          have O13 := Lib.hid (O12.out.below al)
          have SA13 := Lib.hid (Nat.le_trans SA12.out al.size)
          have Y13 : Hid (BytesAt w13 (.slice (some ⟨w12.heap.size, 0, none⟩) 1 1) [x]) := Lib.hid (by rw [← hw]; exact one_byte w12 x)
          have B13 := Lib.hid (B12.out.trans (al.mono B12.out.size))
          clear hK K B12 O12 SA12 al hw hw'
          refine Tr.plan_two 7 9 rfl rfl (fun K hK => ?_) (fun K hK => ?_)
          · skip
            refine wpList_append_bytes rfl (.tmp 62) (.tmp 66) rfl w11.heap.size vA (.slice (some ⟨w12.heap.size, 0, none⟩) 1 1) _ [x] rfl rfl O13.out Y13.out (by rw [KL.out, List.length_singleton]; decide) SA13.out ?_
            intro vC w14 hO hb hg
            go_wp2_with fail
            refine hK _ _ (hb.out.mono SB.out) ?_
            have O14 := Lib.hid hO.out
            have B14 := Lib.hid (B13.out.trans (hb.out.mono SB.out))
            clear hK K B13 hO hb hg Y13 O13 SA13
            refine Tr.plan_two 8 9 rfl rfl (fun K hK => ?_) (fun K hK => ?_)
            · skip
              go_wp2_with fail
              refine (HT1.out _ _ (O14.out.bytesAt (by rw [List.length_append, KL.out, List.length_singleton]; decide)) (T9.out.below B14.out)).mono ?_
              rintro e w15 ⟨rfl, b⟩
              go_wp2_with fail
              refine hK _ _ (b.mono B14.out.size) ?_
              have B15 := Lib.hid (B14.out.trans (b.mono B14.out.size))
              clear hK K B14 b O14
              refine Tr.plan_one 9 rfl (fun K hK => ?_)
              go_wp2_with fail
              have al := (Below.refl _ w15).alloc (Nat.le_refl _) (.cells (rowF 32 (fun _ => vB 0)) 29)
              refine hK _ _ (al.mono B15.out.size) ?_
              obtain ⟨w16, hw⟩ : ∃ y, w15.alloc (.cells (rowF 32 (fun _ => vB 0)) 29) = y := ⟨_, rfl⟩
              have hw' : w15.alloc (.cells #[.int .u8 0, .int .u8 0, .int .u8 0, .int .u8 0, .int .u8 0, .int .u8 0, .int .u8 0, .int .u8 0, .int .u8 0, .int .u8 0, .int .u8 0, .int .u8 0, .int .u8 0, .int .u8 0, .int .u8 0, .int .u8 0, .int .u8 0, .int .u8 0, .int .u8 0, .int .u8 0, .int .u8 0, .int .u8 0, .int .u8 0, .int .u8 0, .int .u8 0, .int .u8 0, .int .u8 0, .int .u8 0, .int .u8 0, .int .u8 0, .int .u8 0, .int .u8 0] 29) = w16 := hw
              rw [hw] at al
              rw [hw']
              have Z16 : Hid (RowV w16 w15.heap.size 29 32 (fun _ => vB 0)) := Lib.hid (by rw [← hw]; exact RowV.new w15 29 32 (fun _ => vB 0))
              have SV := Lib.hid B15.out.size
              have B16 := Lib.hid (B15.out.trans (al.mono B15.out.size))
              clear hK K B15 al hw hw'
              refine Tr.plan_one 10 rfl (fun K hK => ?_)
              refine wpList_store_rowV (o := ⟨none, .store 29 (.tmp 18) (.tmp 68), _, _, _, _⟩) rfl 29 (.tmp 18) (.tmp 68) rfl w15.heap.size rfl 32 29 _ g rfl Z16.out (by kernel_rfl) G1.out ?_
              intro w17 R17 o17
              refine (show wpList _ _ _ [] _ _ from hK _ _ (o17.out.below SV.out B16.out.size) ?_)
              have B17 := Lib.hid (B16.out.trans (o17.out.below SV.out B16.out.size))
              clear hK K B16 o17
              refine Tr.plan_done (l := []) rfl (fun K hK => ?_)
              go_wp2_with fail
              go_meet
              refine ⟨_, rfl, R17.out, B17.out⟩
            · skip
              go_wp2_with fail
              have al := (Below.refl _ w14).alloc (Nat.le_refl _) (.cells (rowF 32 (fun _ => vB 0)) 29)
              refine hK _ _ (al.mono B14.out.size) ?_
              obtain ⟨w15, hw⟩ : ∃ y, w14.alloc (.cells (rowF 32 (fun _ => vB 0)) 29) = y := ⟨_, rfl⟩
              have hw' : w14.alloc (.cells #[.int .u8 0, .int .u8 0, .int .u8 0, .int .u8 0, .int .u8 0, .int .u8 0, .int .u8 0, .int .u8 0, .int .u8 0, .int .u8 0, .int .u8 0, .int .u8 0, .int .u8 0, .int .u8 0, .int .u8 0, .int .u8 0, .int .u8 0, .int .u8 0, .int .u8 0, .int .u8 0, .int .u8 0, .int .u8 0, .int .u8 0, .int .u8 0, .int .u8 0, .int .u8 0, .int .u8 0, .int .u8 0, .int .u8 0, .int .u8 0, .int .u8 0, .int .u8 0] 29) = w15 := hw
              rw [hw] at al
              rw [hw']
              have O15 := Lib.hid (O14.out.below al)
              have Z15 : Hid (RowV w15 w14.heap.size 29 32 (fun _ => vB 0)) := Lib.hid (by rw [← hw]; exact RowV.new w14 29 32 (fun _ => vB 0))
              have SV := Lib.hid B14.out.size
              have N15 := Lib.hid (O14.out.ne_later (B := w14.heap.size) (Nat.le_refl _))
              have B15 := Lib.hid (B14.out.trans (al.mono B14.out.size))
              clear hK K B14 O14 al hw hw'
              refine Tr.plan_one 8 rfl (fun K hK => ?_)
              go_wp2_with fail
              refine (HT1.out _ _ (O15.out.bytesAt (by rw [List.length_append, KL.out, List.length_singleton]; decide)) (T9.out.below B15.out)).mono ?_
              rintro e w16 ⟨rfl, b⟩
              go_wp2_with fail
              refine hK _ _ (b.mono B15.out.size) ?_
              have Z16 := Lib.hid (Z15.out.below b)
              have B16 := Lib.hid (B15.out.trans (b.mono B15.out.size))
              clear hK K B15 Z15 b O15
              refine Tr.plan_one 10 rfl (fun K hK => ?_)
              refine wpList_store_rowV (o := ⟨none, .store 29 (.tmp 18) (.tmp 68), _, _, _, _⟩) rfl 29 (.tmp 18) (.tmp 68) rfl w14.heap.size rfl 32 29 _ g rfl Z16.out (by kernel_rfl) G1.out ?_
              intro w17 R17 o17
              refine (show wpList _ _ _ [] _ _ from hK _ _ (o17.out.below SV.out B16.out.size) ?_)
              have B17 := Lib.hid (B16.out.trans (o17.out.below SV.out B16.out.size))
              clear hK K B16 o17
              refine Tr.plan_done (l := []) rfl (fun K hK => ?_)
              go_wp2_with fail
              go_meet
              refine ⟨_, rfl, R17.out, B17.out⟩
          · skip
            go_wp2_with fail
            have al := (Below.refl _ w13).alloc (Nat.le_refl _) (.cells (rowF 32 (fun _ => vB 0)) 29)
            refine hK _ _ (al.mono B13.out.size) ?_
            obtain ⟨w14, hw⟩ : ∃ y, w13.alloc (.cells (rowF 32 (fun _ => vB 0)) 29) = y := ⟨_, rfl⟩
            have hw' : w13.alloc (.cells #[.int .u8 0, .int .u8 0, .int .u8 0, .int .u8 0, .int .u8 0, .int .u8 0, .int .u8 0, .int .u8 0, .int .u8 0, .int .u8 0, .int .u8 0, .int .u8 0, .int .u8 0, .int .u8 0, .int .u8 0, .int .u8 0, .int .u8 0, .int .u8 0, .int .u8 0, .int .u8 0, .int .u8 0, .int .u8 0, .int .u8 0, .int .u8 0, .int .u8 0, .int .u8 0, .int .u8 0, .int .u8 0, .int .u8 0, .int .u8 0, .int .u8 0, .int .u8 0] 29) = w14 := hw
            rw [hw] at al
            rw [hw']
            have Y14 := Lib.hid (Y13.out.below al)
            have O14 := Lib.hid (O13.out.below al)
            have SA14 := Lib.hid (Nat.le_trans SA13.out al.size)
            have Z14 : Hid (RowV w14 w13.heap.size 29 32 (fun _ => vB 0)) := Lib.hid (by rw [← hw]; exact RowV.new w13 29 32 (fun _ => vB 0))
            have SV := Lib.hid B13.out.size
            have N14 := Lib.hid (O13.out.ne_later (B := w13.heap.size) (Nat.le_refl _))
            have B14 := Lib.hid (B13.out.trans (al.mono B13.out.size))
            clear hK K B13 Y13 O13 SA13 al hw hw'
            refine Tr.plan_one 7 rfl (fun K hK => ?_)
            refine wpList_append_bytes rfl (.tmp 62) (.tmp 66) rfl w11.heap.size vA (.slice (some ⟨w12.heap.size, 0, none⟩) 1 1) _ [x] rfl rfl O14.out Y14.out (by rw [KL.out, List.length_singleton]; decide) SA14.out ?_
            intro vC w15 hO hb hg
            go_wp2_with fail
            refine hK _ _ (hb.out.mono SB.out) ?_
            have Z15 := Lib.hid (Z14.out.grown hg.out N14.out)
            have O15 := Lib.hid hO.out
            have B15 := Lib.hid (B14.out.trans (hb.out.mono SB.out))
            clear hK K B14 Z14 N14 hO hb hg Y14 O14 SA14
            refine Tr.plan_one 8 rfl (fun K hK => ?_)
            go_wp2_with fail
            refine (HT1.out _ _ (O15.out.bytesAt (by rw [List.length_append, KL.out, List.length_singleton]; decide)) (T9.out.below B15.out)).mono ?_
            rintro e w16 ⟨rfl, b⟩
            go_wp2_with fail
            refine hK _ _ (b.mono B15.out.size) ?_
            have Z16 := Lib.hid (Z15.out.below b)
            have B16 := Lib.hid (B15.out.trans (b.mono B15.out.size))
            clear hK K B15 Z15 b O15
            refine Tr.plan_one 10 rfl (fun K hK => ?_)
            refine wpList_store_rowV (o := ⟨none, .store 29 (.tmp 18) (.tmp 68), _, _, _, _⟩) rfl 29 (.tmp 18) (.tmp 68) rfl w13.heap.size rfl 32 29 _ g rfl Z16.out (by kernel_rfl) G1.out ?_
            intro w17 R17 o17
            refine (show wpList _ _ _ [] _ _ from hK _ _ (o17.out.below SV.out B16.out.size) ?_)
            have B17 := Lib.hid (B16.out.trans (o17.out.below SV.out B16.out.size))
            clear hK K B16 o17
            refine Tr.plan_done (l := []) rfl (fun K hK => ?_)
            go_wp2_with fail
            go_meet
            refine ⟨_, rfl, R17.out, B17.out⟩
        · skip
          go_wp2_with fail
          have al := (Below.refl _ w12).alloc (Nat.le_refl _) (.cells (rowF 32 (fun _ => vB 0)) 29)
          refine hK _ _ (al.mono B12.out.size) ?_
          obtain ⟨w13, hw⟩ : ∃ y, w12.alloc (.cells (rowF 32 (fun _ => vB 0)) 29) = y := ⟨_, rfl⟩
          have hw' : w12.alloc (.cells #[.int .u8 0, .int .u8 0, .int .u8 0, .int .u8 0, .int .u8 0, .int .u8 0, .int .u8 0, .int .u8 0, .int .u8 0, .int .u8 0, .int .u8 0, .int .u8 0, .int .u8 0, .int .u8 0, .int .u8 0, .int .u8 0, .int .u8 0, .int .u8 0, .int .u8 0, .int .u8 0, .int .u8 0, .int .u8 0, .int .u8 0, .int .u8 0, .int .u8 0, .int .u8 0, .int .u8 0, .int .u8 0, .int .u8 0, .int .u8 0, .int .u8 0, .int .u8 0] 29) = w13 := hw
          rw [hw] at al
          rw [hw']
          have O13 := Lib.hid (O12.out.below al)
          have SA13 := Lib.hid (Nat.le_trans SA12.out al.size)
          have Z13 : Hid (RowV w13 w12.heap.size 29 32 (fun _ => vB 0)) := Lib.hid (by rw [← hw]; exact RowV.new w12 29 32 (fun _ => vB 0))
          have SV := Lib.hid B12.out.size
          have N13 := Lib.hid (O12.out.ne_later (B := w12.heap.size) (Nat.le_refl _))
          have B13 := Lib.hid (B12.out.trans (al.mono B12.out.size))
          clear hK K B12 O12 SA12 al hw hw'
          refine Tr.plan_one 6 rfl (fun K hK => ?_)
          go_wp2_with fail
          have al := (Below.refl _ w13).alloc (Nat.le_refl _) (.cells #[vB x] 5)
          refine hK _ _ (al.mono B13.out.size) ?_
          obtain ⟨w14, hw⟩ : ∃ y, w13.alloc (.cells #[vB x] 5) = y := ⟨_, rfl⟩
          have hw' : w13.alloc (.cells #[vB x] 5) = w14 := hw
          rw [hw] at al
          rw [hw']
          have Z14 := Lib.hid (Z13.out.below al)
          have O14 := Lib.hid (O13.out.below al)
          have N14 := Lib.hid (N13.out)
          have SA14 := Lib.hid (Nat.le_trans SA13.out al.size)
          have Y14 : Hid (BytesAt w14 (.slice (some ⟨w13.heap.size, 0, none⟩) 1 1) [x]) := Lib.hid (by rw [← hw]; exact one_byte w13 x)
          have B14 := Lib.hid (B13.out.trans (al.mono B13.out.size))
          clear hK K B13 Z13 O13 N13 SA13 al hw hw'
          refine Tr.plan_one 7 rfl (fun K hK => ?_)
          refine wpList_append_bytes rfl (.tmp 62) (.tmp 66) rfl w11.heap.size vA (.slice (some ⟨w13.heap.size, 0, none⟩) 1 1) _ [x] rfl rfl O14.out Y14.out (by rw [KL.out, List.length_singleton]; decide) SA14.out ?_
          intro vC w15 hO hb hg
          go_wp2_with fail
          refine hK _ _ (hb.out.mono SB.out) ?_
          have Z15 := Lib.hid (Z14.out.grown hg.out N14.out)
          have O15 := Lib.hid hO.out
          have B15 := Lib.hid (B14.out.trans (hb.out.mono SB.out))
          clear hK K B14 Z14 N14 hO hb hg Y14 O14 SA14
          refine Tr.plan_one 8 rfl (fun K hK => ?_)
          go_wp2_with fail
          refine (HT1.out _ _ (O15.out.bytesAt (by rw [List.length_append, KL.out, List.length_singleton]; decide)) (T9.out.below B15.out)).mono ?_
          rintro e w16 ⟨rfl, b⟩
          go_wp2_with fail
          refine hK _ _ (b.mono B15.out.size) ?_
          have Z16 := Lib.hid (Z15.out.below b)
          have B16 := Lib.hid (B15.out.trans (b.mono B15.out.size))
          clear hK K B15 Z15 b O15
          refine Tr.plan_one 10 rfl (fun K hK => ?_)
          refine wpList_store_rowV (o := ⟨none, .store 29 (.tmp 18) (.tmp 68), _, _, _, _⟩) rfl 29 (.tmp 18) (.tmp 68) rfl w12.heap.size rfl 32 29 _ g rfl Z16.out (by kernel_rfl) G1.out ?_
          intro w17 R17 o17
          refine (show wpList _ _ _ [] _ _ from hK _ _ (o17.out.below SV.out B16.out.size) ?_)
          have B17 := Lib.hid (B16.out.trans (o17.out.below SV.out B16.out.size))
          clear hK K B16 o17
          refine Tr.plan_done (l := []) rfl (fun K hK => ?_)
          go_wp2_with fail
          go_meet
          refine ⟨_, rfl, R17.out, B17.out⟩
      · skip
        go_wp2_with fail
        have al := (Below.refl _ w11).alloc (Nat.le_refl _) (.cells #[vB x] 5)
        refine hK _ _ (al.mono B11.out.size) ?_
        obtain ⟨w12, hw⟩ : ∃ y, w11.alloc (.cells #[vB x] 5) = y := ⟨_, rfl⟩
        have hw' : w11.alloc (.cells #[vB x] 5) = w12 := hw
        rw [hw] at al
        rw [hw']
        have Y12 : Hid (BytesAt w12 (.slice (some ⟨w11.heap.size, 0, none⟩) 1 1) [x]) := Lib.hid (by rw [← hw]; exact one_byte w11 x)
        have B12 := Lib.hid (B11.out.trans (al.mono B11.out.size))
        clear hK K B11 al hw hw'
        refine Tr.plan_two 2 9 rfl rfl (fun K hK => ?_) (fun K hK => ?_)
        · skip
          refine wpList_append_fresh rfl (.tmp 60) (.tmp 61) rfl w10.heap.size (.slice (some ⟨w6.heap.size, 0, none⟩) 32 32) _ rfl rfl (KB10.out.below B12.out) (by rw [KL.out]; decide) (by rw [KL.out]; decide) ?_
          intro vA w13 hO hb
          go_wp2_with fail
          refine hK _ _ (hb.out.mono B12.out.size) ?_
          have Y13 := Lib.hid (Y12.out.below hb.out)
          have O13 := Lib.hid hO.out
          have SA13 := Lib.hid hb.out.size
          have SB := Lib.hid B12.out.size
          have B13 := Lib.hid (B12.out.trans (hb.out.mono B12.out.size))
          clear hK K B12 Y12 hO hb
          refine Tr.plan_two 7 9 rfl rfl (fun K hK => ?_) (fun K hK => ?_)
          · skip
            refine wpList_append_bytes rfl (.tmp 62) (.tmp 66) rfl w12.heap.size vA (.slice (some ⟨w11.heap.size, 0, none⟩) 1 1) _ [x] rfl rfl O13.out Y13.out (by rw [KL.out, List.length_singleton]; decide) SA13.out ?_
            intro vC w14 hO hb hg
            go_wp2_with fail
            refine hK _ _ (hb.out.mono SB.out) ?_
            have O14 := Lib.hid hO.out
            have B14 := Lib.hid (B13.out.trans (hb.out.mono SB.out))
            clear hK K B13 hO hb hg Y13 O13 SA13
            refine Tr.plan_two 8 9 rfl rfl (fun K hK => ?_) (fun K hK => ?_)
            · skip
              go_wp2_with fail
              refine (HT1.out _ _ (O14.out.bytesAt (by rw [List.length_append, KL.out, List.length_singleton]; decide)) (T9.out.below B14.out)).mono ?_
              rintro e w15 ⟨rfl, b⟩
              go_wp2_with fail
              refine hK _ _ (b.mono B14.out.size) ?_
              have B15 := Lib.hid (B14.out.trans (b.mono B14.out.size))
              clear hK K B14 b O14
              refine Tr.plan_one 9 rfl (fun K hK => ?_)
              go_wp2_with fail
              have al := (Below.refl _ w15).alloc (Nat.le_refl _) (.cells (rowF 32 (fun _ => vB 0)) 29)
              refine hK _ _ (al.mono B15.out.size) ?_
              obtain ⟨w16, hw⟩ : ∃ y, w15.alloc (.cells (rowF 32 (fun _ => vB 0)) 29) = y := ⟨_, rfl⟩
              have hw' : w15.alloc (.cells #[.int .u8 0, .int .u8 0, .int .u8 0, .int .u8 0, .int .u8 0, .int .u8 0, .int .u8 0, .int .u8 0, .int .u8 0, .int .u8 0, .int .u8 0, .int .u8 0, .int .u8 0, .int .u8 0, .int .u8 0, .int .u8 0, .int .u8 0, .int .u8 0, .int .u8 0, .int .u8 0, .int .u8 0, .int .u8 0, .int .u8 0, .int .u8 0, .int .u8 0, .int .u8 0, .int .u8 0, .int .u8 0, .int .u8 0, .int .u8 0, .int .u8 0, .int .u8 0] 29) = w16 := hw
              rw [hw] at al
              rw [hw']
              have Z16 : Hid (RowV w16 w15.heap.size 29 32 (fun _ => vB 0)) := Lib.hid (by rw [← hw]; exact RowV.new w15 29 32 (fun _ => vB 0))
              have SV := Lib.hid B15.out.size
              have B16 := Lib.hid (B15.out.trans (al.mono B15.out.size))
              clear hK K B15 al hw hw'
              refine Tr.plan_one 10 rfl (fun K hK => ?_)
              refine wpList_store_rowV (o := ⟨none, .store 29 (.tmp 18) (.tmp 68), _, _, _, _⟩) rfl 29 (.tmp 18) (.tmp 68) rfl w15.heap.size rfl 32 29 _ g rfl Z16.out (by kernel_rfl) G1.out ?_
              intro w17 R17 o17
              refine (show wpList _ _ _ [] _ _ from hK _ _ (o17.out.below SV.out B16.out.size) ?_)
              have B17 := Lib.hid (B16.out.trans (o17.out.below SV.out B16.out.size))
              clear hK K B16 o17
              refine Tr.plan_done (l := []) rfl (fun K hK => ?_)
              go_wp2_with fail
              go_meet
              refine ⟨_, rfl, R17.out, B17.out⟩
            · skip
              go_wp2_with fail
              have al := (Below.refl _ w14).alloc (Nat.le_refl _) (.cells (rowF 32 (fun _ => vB 0)) 29)
              refine hK _ _ (al.mono B14.out.size) ?_
              obtain ⟨w15, hw⟩ : ∃ y, w14.alloc (.cells (rowF 32 (fun _ => vB 0)) 29) = y := ⟨_, rfl⟩
              have hw' : w14.alloc (.cells #[.int .u8 0, .int .u8 0, .int .u8 0, .int .u8 0, .int .u8 0, .int .u8 0, .int .u8 0, .int .u8 0, .int .u8 0, .int .u8 0, .int .u8 0, .int .u8 0, .int .u8 0, .int .u8 0, .int .u8 0, .int .u8 0, .int .u8 0, .int .u8 0, .int .u8 0, .int .u8 0, .int .u8 0, .int .u8 0, .int .u8 0, .int .u8 0, .int .u8 0, .int .u8 0, .int .u8 0, .int .u8 0, .int .u8 0, .int .u8 0, .int .u8 0, .int .u8 0] 29) = w15 := hw
              rw [hw] at al
              rw [hw']
              have O15 := Lib.hid (O14.out.below al)
              have Z15 : Hid (RowV w15 w14.heap.size 29 32 (fun _ => vB 0)) := Lib.hid (by rw [← hw]; exact RowV.new w14 29 32 (fun _ => vB 0))
              have SV := Lib.hid B14.out.size
              have N15 := Lib.hid (O14.out.ne_later (B := w14.heap.size) (Nat.le_refl _))
              have B15 := Lib.hid (B14.out.trans (al.mono B14.out.size))
              clear hK K B14 O14 al hw hw'
              refine Tr.plan_one 8 rfl (fun K hK => ?_)
              go_wp2_with fail
              refine (HT1.out _ _ (O15.out.bytesAt (by rw [List.length_append, KL.out, List.length_singleton]; decide)) (T9.out.below B15.out)).mono ?_
              rintro e w16 ⟨rfl, b⟩
              go_wp2_with fail
              refine hK _ _ (b.mono B15.out.size) ?_
              have Z16 := Lib.hid (Z15.out.below b)
              have B16 := Lib.hid (B15.out.trans (b.mono B15.out.size))
              clear hK K B15 Z15 b O15
              refine Tr.plan_one 10 rfl (fun K hK => ?_)
              refine wpList_store_rowV (o := ⟨none, .store 29 (.tmp 18) (.tmp 68), _, _, _, _⟩) rfl 29 (.tmp 18) (.tmp 68) rfl w14.heap.size rfl 32 29 _ g rfl Z16.out (by kernel_rfl) G1.out ?_
              intro w17 R17 o17
              refine (show wpList _ _ _ [] _ _ from hK _ _ (o17.out.below SV.out B16.out.size) ?_)
              have B17 := Lib.hid (B16.out.trans (o17.out.below SV.out B16.out.size))
              clear hK K B16 o17
              refine Tr.plan_done (l := []) rfl (fun K hK => ?_)
              go_wp2_with fail
              go_meet
              refine ⟨_, rfl, R17.out, B17.out⟩
          · skip
            go_wp2_with fail
            have al := (Below.refl _ w13).alloc (Nat.le_refl _) (.cells (rowF 32 (fun _ => vB 0)) 29)
            refine hK _ _ (al.mono B13.out.size) ?_
            obtain ⟨w14, hw⟩ : ∃ y, w13.alloc (.cells (rowF 32 (fun _ => vB 0)) 29) = y := ⟨_, rfl⟩
            have hw' : w13.alloc (.cells #[.int .u8 0, .int .u8 0, .int .u8 0, .int .u8 0, .int .u8 0, .int .u8 0, .int .u8 0, .int .u8 0, .int .u8 0, .int .u8 0, .int .u8 0, .int .u8 0, .int .u8 0, .int .u8 0, .int .u8 0, .int .u8 0, .int .u8 0, .int .u8 0, .int .u8 0, .int .u8 0, .int .u8 0, .int .u8 0, .int .u8 0, .int .u8 0, .int .u8 0, .int .u8 0, .int .u8 0, .int .u8 0, .int .u8 0, .int .u8 0, .int .u8 0, .int .u8 0] 29) = w14 := hw
            rw [hw] at al
            rw [hw']
            have Y14 := Lib.hid (Y13.out.below al)
            have O14 := Lib.hid (O13.out.below al)
            have SA14 := Lib.hid (Nat.le_trans SA13.out al.size)
            have Z14 : Hid (RowV w14 w13.heap.size 29 32 (fun _ => vB 0)) := Lib.hid (by rw [← hw]; exact RowV.new w13 29 32 (fun _ => vB 0))
            have SV := Lib.hid B13.out.size
            have N14 := Lib.hid (O13.out.ne_later (B := w13.heap.size) (Nat.le_refl _))
            have B14 := Lib.hid (B13.out.trans (al.mono B13.out.size))
            clear hK K B13 Y13 O13 SA13 al hw hw'
            refine Tr.plan_one 7 rfl (fun K hK => ?_)
            refine wpList_append_bytes rfl (.tmp 62) (.tmp 66) rfl w12.heap.size vA (.slice (some ⟨w11.heap.size, 0, none⟩) 1 1) _ [x] rfl rfl O14.out Y14.out (by rw [KL.out, List.length_singleton]; decide) SA14.out ?_
            intro vC w15 hO hb hg
            go_wp2_with fail
            refine hK _ _ (hb.out.mono SB.out) ?_
            have Z15 := Lib.hid (Z14.out.grown hg.out N14.out)
            have O15 := Lib.hid hO.out
            have B15 := Lib.hid (B14.out.trans (hb.out.mono SB.out))
            clear hK K B14 Z14 N14 hO hb hg Y14 O14 SA14
            refine Tr.plan_one 8 rfl (fun K hK => ?_)
            go_wp2_with fail
            refine (HT1.out _ _ (O15.out.bytesAt (by rw [List.length_append, KL.out, List.length_singleton]; decide)) (T9.out.below B15.out)).mono ?_
            rintro e w16 ⟨rfl, b⟩
            go_wp2_with fail
            refine hK _ _ (b.mono B15.out.size) ?_
            have Z16 := Lib.hid (Z15.out.below b)
            have B16 := Lib.hid (B15.out.trans (b.mono B15.out.size))
            clear hK K B15 Z15 b O15
            refine Tr.plan_one 10 rfl (fun K hK => ?_)
            refine wpList_store_rowV (o := ⟨none, .store 29 (.tmp 18) (.tmp 68), _, _, _, _⟩) rfl 29 (.tmp 18) (.tmp 68) rfl w13.heap.size rfl 32 29 _ g rfl Z16.out (by kernel_rfl) G1.out ?_
            intro w17 R17 o17
            refine (show wpList _ _ _ [] _ _ from hK _ _ (o17.out.below SV.out B16.out.size) ?_)
            have B17 := Lib.hid (B16.out.trans (o17.out.below SV.out B16.out.size))
            clear hK K B16 o17
            refine Tr.plan_done (l := []) rfl (fun K hK => ?_)
            go_wp2_with fail
            go_meet
            refine ⟨_, rfl, R17.out, B17.out⟩
        · skip
          go_wp2_with fail
          have al := (Below.refl _ w12).alloc (Nat.le_refl _) (.cells (rowF 32 (fun _ => vB 0)) 29)
          refine hK _ _ (al.mono B12.out.size) ?_
          obtain ⟨w13, hw⟩ : ∃ y, w12.alloc (.cells (rowF 32 (fun _ => vB 0)) 29) = y := ⟨_, rfl⟩
          have hw' : w12.alloc (.cells #[.int .u8 0, .int .u8 0, .int .u8 0, .int .u8 0, .int .u8 0, .int .u8 0, .int .u8 0, .int .u8 0, .int .u8 0, .int .u8 0, .int .u8 0, .int .u8 0, .int .u8 0, .int .u8 0, .int .u8 0, .int .u8 0, .int .u8 0, .int .u8 0, .int .u8 0, .int .u8 0, .int .u8 0, .int .u8 0, .int .u8 0, .int .u8 0, .int .u8 0, .int .u8 0, .int .u8 0, .int .u8 0, .int .u8 0, .int .u8 0, .int .u8 0, .int .u8 0] 29) = w13 := hw
          rw [hw] at al
          rw [hw']
          have Y13 := Lib.hid (Y12.out.below al)
          have Z13 : Hid (RowV w13 w12.heap.size 29 32 (fun _ => vB 0)) := Lib.hid (by rw [← hw]; exact RowV.new w12 29 32 (fun _ => vB 0))
          have SV := Lib.hid B12.out.size
          have B13 := Lib.hid (B12.out.trans (al.mono B12.out.size))
          clear hK K B12 Y12 al hw hw'
          refine Tr.plan_one 2 rfl (fun K hK => ?_)
          refine wpList_append_fresh rfl (.tmp 60) (.tmp 61) rfl w10.heap.size (.slice (some ⟨w6.heap.size, 0, none⟩) 32 32) _ rfl rfl (KB10.out.below B13.out) (by rw [KL.out]; decide) (by rw [KL.out]; decide) ?_
          intro vA w14 hO hb
          go_wp2_with fail
          refine hK _ _ (hb.out.mono B13.out.size) ?_
          have Y14 := Lib.hid (Y13.out.below hb.out)
          have Z14 := Lib.hid (Z13.out.below hb.out)
          have N14 := Lib.hid (hO.out.ne_before (B := w12.heap.size) Z13.out.lt)
          have O14 := Lib.hid hO.out
          have SA14 := Lib.hid hb.out.size
          have SB := Lib.hid B13.out.size
          have B14 := Lib.hid (B13.out.trans (hb.out.mono B13.out.size))
          clear hK K B13 Y13 Z13 hO hb
          refine Tr.plan_one 7 rfl (fun K hK => ?_)
          refine wpList_append_bytes rfl (.tmp 62) (.tmp 66) rfl w13.heap.size vA (.slice (some ⟨w11.heap.size, 0, none⟩) 1 1) _ [x] rfl rfl O14.out Y14.out (by rw [KL.out, List.length_singleton]; decide) SA14.out ?_
          intro vC w15 hO hb hg
          go_wp2_with fail
          refine hK _ _ (hb.out.mono SB.out) ?_
          have Z15 := Lib.hid (Z14.out.grown hg.out N14.out)
          have O15 := Lib.hid hO.out
          have B15 := Lib.hid (B14.out.trans (hb.out.mono SB.out))
          clear hK K B14 Z14 N14 hO hb hg Y14 O14 SA14
          refine Tr.plan_one 8 rfl (fun K hK => ?_)
          go_wp2_with fail
          refine (HT1.out _ _ (O15.out.bytesAt (by rw [List.length_append, KL.out, List.length_singleton]; decide)) (T9.out.below B15.out)).mono ?_
          rintro e w16 ⟨rfl, b⟩
          go_wp2_with fail
          refine hK _ _ (b.mono B15.out.size) ?_
          have Z16 := Lib.hid (Z15.out.below b)
          have B16 := Lib.hid (B15.out.trans (b.mono B15.out.size))
          clear hK K B15 Z15 b O15
          refine Tr.plan_one 10 rfl (fun K hK => ?_)
          refine wpList_store_rowV (o := ⟨none, .store 29 (.tmp 18) (.tmp 68), _, _, _, _⟩) rfl 29 (.tmp 18) (.tmp 68) rfl w12.heap.size rfl 32 29 _ g rfl Z16.out (by kernel_rfl) G1.out ?_
          intro w17 R17 o17
          refine (show wpList _ _ _ [] _ _ from hK _ _ (o17.out.below SV.out B16.out.size) ?_)
          have B17 := Lib.hid (B16.out.trans (o17.out.below SV.out B16.out.size))
          clear hK K B16 o17
          refine Tr.plan_done (l := []) rfl (fun K hK => ?_)
          go_wp2_with fail
          go_meet
          refine ⟨_, rfl, R17.out, B17.out⟩
      · skip
        go_wp2_with fail
        have al := (Below.refl _ w11).alloc (Nat.le_refl _) (.cells (rowF 32 (fun _ => vB 0)) 29)
        refine hK _ _ (al.mono B11.out.size) ?_
        obtain ⟨w12, hw⟩ : ∃ y, w11.alloc (.cells (rowF 32 (fun _ => vB 0)) 29) = y := ⟨_, rfl⟩
        have hw' : w11.alloc (.cells #[.int .u8 0, .int .u8 0, .int .u8 0, .int .u8 0, .int .u8 0, .int .u8 0, .int .u8 0, .int .u8 0, .int .u8 0, .int .u8 0, .int .u8 0, .int .u8 0, .int .u8 0, .int .u8 0, .int .u8 0, .int .u8 0, .int .u8 0, .int .u8 0, .int .u8 0, .int .u8 0, .int .u8 0, .int .u8 0, .int .u8 0, .int .u8 0, .int .u8 0, .int .u8 0, .int .u8 0, .int .u8 0, .int .u8 0, .int .u8 0, .int .u8 0, .int .u8 0] 29) = w12 := hw
        rw [hw] at al
        rw [hw']
        have Z12 : Hid (RowV w12 w11.heap.size 29 32 (fun _ => vB 0)) := Lib.hid (by rw [← hw]; exact RowV.new w11 29 32 (fun _ => vB 0))
        have SV := Lib.hid B11.out.size
        have B12 := Lib.hid (B11.out.trans (al.mono B11.out.size))
        clear hK K B11 al hw hw'
        refine Tr.plan_two 2 6 rfl rfl (fun K hK => ?_) (fun K hK => ?_)
        · skip
          refine wpList_append_fresh rfl (.tmp 60) (.tmp 61) rfl w10.heap.size (.slice (some ⟨w6.heap.size, 0, none⟩) 32 32) _ rfl rfl (KB10.out.below B12.out) (by rw [KL.out]; decide) (by rw [KL.out]; decide) ?_
          intro vA w13 hO hb
          go_wp2_with fail
          refine hK _ _ (hb.out.mono B12.out.size) ?_
          have Z13 := Lib.hid (Z12.out.below hb.out)
          have N13 := Lib.hid (hO.out.ne_before (B := w11.heap.size) Z12.out.lt)
          have O13 := Lib.hid hO.out
          have SA13 := Lib.hid hb.out.size
          have SB := Lib.hid B12.out.size
          have B13 := Lib.hid (B12.out.trans (hb.out.mono B12.out.size))
          clear hK K B12 Z12 hO hb
          refine Tr.plan_one 6 rfl (fun K hK => ?_)
          go_wp2_with fail
          have al := (Below.refl _ w13).alloc (Nat.le_refl _) (.cells #[vB x] 5)
          refine hK _ _ (al.mono B13.out.size) ?_
          obtain ⟨w14, hw⟩ : ∃ y, w13.alloc (.cells #[vB x] 5) = y := ⟨_, rfl⟩
          have hw' : w13.alloc (.cells #[vB x] 5) = w14 := hw
          rw [hw] at al
          rw [hw']
          have Z14 := Lib.hid (Z13.out.below al)
          have O14 := Lib.hid (O13.out.below al)
          have N14 := Lib.hid (N13.out)
          have SA14 := Lib.hid (Nat.le_trans SA13.out al.size)
          have Y14 : Hid (BytesAt w14 (.slice (some ⟨w13.heap.size, 0, none⟩) 1 1) [x]) := Lib.hid (by rw [← hw]; exact one_byte w13 x)
          have B14 := Lib.hid (B13.out.trans (al.mono B13.out.size))
          clear hK K B13 Z13 O13 N13 SA13 al hw hw'
          refine Tr.plan_one 7 rfl (fun K hK => ?_)
          refine wpList_append_bytes rfl (.tmp 62) (.tmp 66) rfl w12.heap.size vA (.slice (some ⟨w13.heap.size, 0, none⟩) 1 1) _ [x] rfl rfl O14.out Y14.out (by rw [KL.out, List.length_singleton]; decide) SA14.out ?_
          intro vC w15 hO hb hg
          go_wp2_with fail
          refine hK _ _ (hb.out.mono SB.out) ?_
          have Z15 := Lib.hid (Z14.out.grown hg.out N14.out)
          have O15 := Lib.hid hO.out
          have B15 := Lib.hid (B14.out.trans (hb.out.mono SB.out))
          clear hK K B14 Z14 N14 hO hb hg Y14 O14 SA14
          refine Tr.plan_one 8 rfl (fun K hK => ?_)
          go_wp2_with fail
          refine (HT1.out _ _ (O15.out.bytesAt (by rw [List.length_append, KL.out, List.length_singleton]; decide)) (T9.out.below B15.out)).mono ?_
          rintro e w16 ⟨rfl, b⟩
          go_wp2_with fail
          refine hK _ _ (b.mono B15.out.size) ?_
          have Z16 := Lib.hid (Z15.out.below b)
          have B16 := Lib.hid (B15.out.trans (b.mono B15.out.size))
          clear hK K B15 Z15 b O15
          refine Tr.plan_one 10 rfl (fun K hK => ?_)
          refine wpList_store_rowV (o := ⟨none, .store 29 (.tmp 18) (.tmp 68), _, _, _, _⟩) rfl 29 (.tmp 18) (.tmp 68) rfl w11.heap.size rfl 32 29 _ g rfl Z16.out (by kernel_rfl) G1.out ?_
          intro w17 R17 o17
          refine (show wpList _ _ _ [] _ _ from hK _ _ (o17.out.below SV.out B16.out.size) ?_)
          have B17 := Lib.hid (B16.out.trans (o17.out.below SV.out B16.out.size))
          clear hK K B16 o17
          refine Tr.plan_done (l := []) rfl (fun K hK => ?_)
          go_wp2_with fail
          go_meet
          refine ⟨_, rfl, R17.out, B17.out⟩
        · skip
          go_wp2_with fail
          have al := (Below.refl _ w12).alloc (Nat.le_refl _) (.cells #[vB x] 5)
          refine hK _ _ (al.mono B12.out.size) ?_
          obtain ⟨w13, hw⟩ : ∃ y, w12.alloc (.cells #[vB x] 5) = y := ⟨_, rfl⟩
          have hw' : w12.alloc (.cells #[vB x] 5) = w13 := hw
          rw [hw] at al
          rw [hw']
          have Z13 := Lib.hid (Z12.out.below al)
          have Y13 : Hid (BytesAt w13 (.slice (some ⟨w12.heap.size, 0, none⟩) 1 1) [x]) := Lib.hid (by rw [← hw]; exact one_byte w12 x)
          have B13 := Lib.hid (B12.out.trans (al.mono B12.out.size))
          clear hK K B12 Z12 al hw hw'
          refine Tr.plan_one 2 rfl (fun K hK => ?_)
          refine wpList_append_fresh rfl (.tmp 60) (.tmp 61) rfl w10.heap.size (.slice (some ⟨w6.heap.size, 0, none⟩) 32 32) _ rfl rfl (KB10.out.below B13.out) (by rw [KL.out]; decide) (by rw [KL.out]; decide) ?_
          intro vA w14 hO hb
          go_wp2_with fail
          refine hK _ _ (hb.out.mono B13.out.size) ?_
          have Y14 := Lib.hid (Y13.out.below hb.out)
          have Z14 := Lib.hid (Z13.out.below hb.out)
          have N14 := Lib.hid (hO.out.ne_before (B := w11.heap.size) Z13.out.lt)
          have O14 := Lib.hid hO.out
          have SA14 := Lib.hid hb.out.size
          have SB := Lib.hid B13.out.size
          have B14 := Lib.hid (B13.out.trans (hb.out.mono B13.out.size))
          clear hK K B13 Y13 Z13 hO hb
          refine Tr.plan_one 7 rfl (fun K hK => ?_)
          refine wpList_append_bytes rfl (.tmp 62) (.tmp 66) rfl w13.heap.size vA (.slice (some ⟨w12.heap.size, 0, none⟩) 1 1) _ [x] rfl rfl O14.out Y14.out (by rw [KL.out, List.length_singleton]; decide) SA14.out ?_
          intro vC w15 hO hb hg
          go_wp2_with fail
          refine hK _ _ (hb.out.mono SB.out) ?_
          have Z15 := Lib.hid (Z14.out.grown hg.out N14.out)
          have O15 := Lib.hid hO.out
          have B15 := Lib.hid (B14.out.trans (hb.out.mono SB.out))
          clear hK K B14 Z14 N14 hO hb hg Y14 O14 SA14
          refine Tr.plan_one 8 rfl (fun K hK => ?_)
          go_wp2_with fail
          refine (HT1.out _ _ (O15.out.bytesAt (by rw [List.length_append, KL.out, List.length_singleton]; decide)) (T9.out.below B15.out)).mono ?_
          rintro e w16 ⟨rfl, b⟩
          go_wp2_with fail
          refine hK _ _ (b.mono B15.out.size) ?_
          have Z16 := Lib.hid (Z15.out.below b)
          have B16 := Lib.hid (B15.out.trans (b.mono B15.out.size))
          clear hK K B15 Z15 b O15
          refine Tr.plan_one 10 rfl (fun K hK => ?_)
          refine wpList_store_rowV (o := ⟨none, .store 29 (.tmp 18) (.tmp 68), _, _, _, _⟩) rfl 29 (.tmp 18) (.tmp 68) rfl w11.heap.size rfl 32 29 _ g rfl Z16.out (by kernel_rfl) G1.out ?_
          intro w17 R17 o17
          refine (show wpList _ _ _ [] _ _ from hK _ _ (o17.out.below SV.out B16.out.size) ?_)
          have B17 := Lib.hid (B16.out.trans (o17.out.below SV.out B16.out.size))
          clear hK K B16 o17
          refine Tr.plan_done (l := []) rfl (fun K hK => ?_)
          go_wp2_with fail
          go_meet
          refine ⟨_, rfl, R17.out, B17.out⟩
    · skip
      go_wp2_with fail
      have al := (Below.refl _ w10).alloc (Nat.le_refl _) (.cells #[vB x] 5)
      refine hK _ _ (al.mono B10.out.size) ?_
      obtain ⟨w11, hw⟩ : ∃ y, w10.alloc (.cells #[vB x] 5) = y := ⟨_, rfl⟩
      have hw' : w10.alloc (.cells #[vB x] 5) = w11 := hw
      rw [hw] at al
      rw [hw']
      have Y11 : Hid (BytesAt w11 (.slice (some ⟨w10.heap.size, 0, none⟩) 1 1) [x]) := Lib.hid (by rw [← hw]; exact one_byte w10 x)
      have B11 := Lib.hid (B10.out.trans (al.mono B10.out.size))
      clear hK K B10 al hw hw'
      refine Tr.plan_two 0 9 rfl rfl (fun K hK => ?_) (fun K hK => ?_)
      · skip
        go_wp2_with fail
        have al := (Below.refl _ w11).alloc (Nat.le_refl _) (.cells #[] 5)
        refine hK _ _ (al.mono B11.out.size) ?_
        obtain ⟨w12, hw⟩ : ∃ y, w11.alloc (.cells #[] 5) = y := ⟨_, rfl⟩
        have hw' : w11.alloc (.cells #[] 5) = w12 := hw
        rw [hw] at al
        rw [hw']
        have Y12 := Lib.hid (Y11.out.below al)
        have B12 := Lib.hid (B11.out.trans (al.mono B11.out.size))
        clear hK K B11 Y11 al hw hw'
        refine Tr.plan_two 2 9 rfl rfl (fun K hK => ?_) (fun K hK => ?_)
        · skip
          refine wpList_append_fresh rfl (.tmp 60) (.tmp 61) rfl w11.heap.size (.slice (some ⟨w6.heap.size, 0, none⟩) 32 32) _ rfl rfl (KB10.out.below B12.out) (by rw [KL.out]; decide) (by rw [KL.out]; decide) ?_
          intro vA w13 hO hb
          go_wp2_with fail
          refine hK _ _ (hb.out.mono B12.out.size) ?_
          have Y13 := Lib.hid (Y12.out.below hb.out)
          have O13 := Lib.hid hO.out
          have SA13 := Lib.hid hb.out.size
          have SB := Lib.hid B12.out.size
          have B13 := Lib.hid (B12.out.trans (hb.out.mono B12.out.size))
          clear hK K B12 Y12 hO hb
          refine Tr.plan_two 7 9 rfl rfl (fun K hK => ?_) (fun K hK => ?_)
          · skip
            refine wpList_append_bytes rfl (.tmp 62) (.tmp 66) rfl w12.heap.size vA (.slice (some ⟨w10.heap.size, 0, none⟩) 1 1) _ [x] rfl rfl O13.out Y13.out (by rw [KL.out, List.length_singleton]; decide) SA13.out ?_
            intro vC w14 hO hb hg
            go_wp2_with fail
            refine hK _ _ (hb.out.mono SB.out) ?_
            have O14 := Lib.hid hO.out
            have B14 := Lib.hid (B13.out.trans (hb.out.mono SB.out))
            clear hK K B13 hO hb hg Y13 O13 SA13
            refine Tr.plan_two 8 9 rfl rfl (fun K hK => ?_) (fun K hK => ?_)
            · skip
              go_wp2_with fail
              refine (HT1.out _ _ (O14.out.bytesAt (by rw [List.length_append, KL.out, List.length_singleton]; decide)) (T9.out.below B14.out)).mono ?_
              rintro e w15 ⟨rfl, b⟩
              go_wp2_with fail
              refine hK _ _ (b.mono B14.out.size) ?_
              have B15 := Lib.hid (B14.out.trans (b.mono B14.out.size))
              clear hK K B14 b O14
              refine Tr.plan_one 9 rfl (fun K hK => ?_)
              go_wp2_with fail
              have al := (Below.refl _ w15).alloc (Nat.le_refl _) (.cells (rowF 32 (fun _ => vB 0)) 29)
              refine hK _ _ (al.mono B15.out.size) ?_
              obtain ⟨w16, hw⟩ : ∃ y, w15.alloc (.cells (rowF 32 (fun _ => vB 0)) 29) = y := ⟨_, rfl⟩
              have hw' : w15.alloc (.cells #[.int .u8 0, .int .u8 0, .int .u8 0, .int .u8 0, .int .u8 0, .int .u8 0, .int .u8 0, .int .u8 0, .int .u8 0, .int .u8 0, .int .u8 0, .int .u8 0, .int .u8 0, .int .u8 0, .int .u8 0, .int .u8 0, .int .u8 0, .int .u8 0, .int .u8 0, .int .u8 0, .int .u8 0, .int .u8 0, .int .u8 0, .int .u8 0, .int .u8 0, .int .u8 0, .int .u8 0, .int .u8 0, .int .u8 0, .int .u8 0, .int .u8 0, .int .u8 0] 29) = w16 := hw
              rw [hw] at al
              rw [hw']
              have Z16 : Hid (RowV w16 w15.heap.size 29 32 (fun _ => vB 0)) := Lib.hid (by rw [← hw]; exact RowV.new w15 29 32 (fun _ => vB 0))
              have SV := Lib.hid B15.out.size
              have B16 := Lib.hid (B15.out.trans (al.mono B15.out.size))
              clear hK K B15 al hw hw'
              refine Tr.plan_one 10 rfl (fun K hK => ?_)
              refine wpList_store_rowV (o := ⟨none, .store 29 (.tmp 18) (.tmp 68), _, _, _, _⟩) rfl 29 (.tmp 18) (.tmp 68) rfl w15.heap.size rfl 32 29 _ g rfl Z16.out (by kernel_rfl) G1.out ?_
              intro w17 R17 o17
              refine (show wpList _ _ _ [] _ _ from hK _ _ (o17.out.below SV.out B16.out.size) ?_)
              have B17 := Lib.hid (B16.out.trans (o17.out.below SV.out B16.out.size))
              clear hK K B16 o17
              refine Tr.plan_done (l := []) rfl (fun K hK => ?_)
              go_wp2_with fail
              go_meet
              refine ⟨_, rfl, R17.out, B17.out⟩
            · skip
              go_wp2_with fail
              have al := (Below.refl _ w14).alloc (Nat.le_refl _) (.cells (rowF 32 (fun _ => vB 0)) 29)
              refine hK _ _ (al.mono B14.out.size) ?_
              obtain ⟨w15, hw⟩ : ∃ y, w14.alloc (.cells (rowF 32 (fun _ => vB 0)) 29) = y := ⟨_, rfl⟩
              have hw' : w14.alloc (.cells #[.int .u8 0, .int .u8 0, .int .u8 0, .int .u8 0, .int .u8 0, .int .u8 0, .int .u8 0, .int .u8 0, .int .u8 0, .int .u8 0, .int .u8 0, .int .u8 0, .int .u8 0, .int .u8 0, .int .u8 0, .int .u8 0, .int .u8 0, .int .u8 0, .int .u8 0, .int .u8 0, .int .u8 0, .int .u8 0, .int .u8 0, .int .u8 0, .int .u8 0, .int .u8 0, .int .u8 0, .int .u8 0, .int .u8 0, .int .u8 0, .int .u8 0, .int .u8 0] 29) = w15 := hw
              rw [hw] at al
              rw [hw']
              have O15 := Lib.hid (O14.out.below al)
              have Z15 : Hid (RowV w15 w14.heap.size 29 32 (fun _ => vB 0)) := Lib.hid (by rw [← hw]; exact RowV.new w14 29 32 (fun _ => vB 0))
              have SV := Lib.hid B14.out.size
              have N15 := Lib.hid (O14.out.ne_later (B := w14.heap.size) (Nat.le_refl _))
              have B15 := Lib.hid (B14.out.trans (al.mono B14.out.size))
              clear hK K B14 O14 al hw hw'
              refine Tr.plan_one 8 rfl (fun K hK => ?_)
              go_wp2_with fail
              refine (HT1.out _ _ (O15.out.bytesAt (by rw [List.length_append, KL.out, List.length_singleton]; decide)) (T9.out.below B15.out)).mono ?_
              rintro e w16 ⟨rfl, b⟩
              go_wp2_with fail
              refine hK _ _ (b.mono B15.out.size) ?_
              have Z16 := Lib.hid (Z15.out.below b)
              have B16 := Lib.hid (B15.out.trans (b.mono B15.out.size))
              clear hK K B15 Z15 b O15
              refine Tr.plan_one 10 rfl (fun K hK => ?_)
              refine wpList_store_rowV (o := ⟨none, .store 29 (.tmp 18) (.tmp 68), _, _, _, _⟩) rfl 29 (.tmp 18) (.tmp 68) rfl w14.heap.size rfl 32 29 _ g rfl Z16.out (by kernel_rfl) G1.out ?_
              intro w17 R17 o17
              refine (show wpList _ _ _ [] _ _ from hK _ _ (o17.out.below SV.out B16.out.size) ?_)
              have B17 := Lib.hid (B16.out.trans (o17.out.below SV.out B16.out.size))
              clear hK K B16 o17
              refine Tr.plan_done (l := []) rfl (fun K hK => ?_)
              go_wp2_with fail
              go_meet
              refine ⟨_, rfl, R17.out, B17.out⟩
          · skip
            go_wp2_with fail
            have al := (Below.refl _ w13).alloc (Nat.le_refl _) (.cells (rowF 32 (fun _ => vB 0)) 29)
            refine hK _ _ (al.mono B13.out.size) ?_
            obtain ⟨w14, hw⟩ : ∃ y, w13.alloc (.cells (rowF 32 (fun _ => vB 0)) 29) = y := ⟨_, rfl⟩
            have hw' : w13.alloc (.cells #[.int .u8 0, .int .u8 0, .int .u8 0, .int .u8 0, .int .u8 0, .int .u8 0, .int .u8 0, .int .u8 0, .int .u8 0, .int .u8 0, .int .u8 0, .int .u8 0, .int .u8 0, .int .u8 0, .int .u8 0, .int .u8 0, .int .u8 0, .int .u8 0, .int .u8 0, .int .u8 0, .int .u8 0, .int .u8 0, .int .u8 0, .int .u8 0, .int .u8 0, .int .u8 0, .int .u8 0, .int .u8 0, .int .u8 0, .int .u8 0, .int .u8 0, .int .u8 0] 29) = w14 := hw
            rw [hw] at al
            rw [hw']
            have Y14 := Lib.hid (Y13.out.below al)
            have O14 := Lib.hid (O13.out.below al)
            have SA14 := Lib.hid (Nat.le_trans SA13.out al.size)
            have Z14 : Hid (RowV w14 w13.heap.size 29 32 (fun _ => vB 0)) := Lib.hid (by rw [← hw]; exact RowV.new w13 29 32 (fun _ => vB 0))
            have SV := Lib.hid B13.out.size
            have N14 := Lib.hid (O13.out.ne_later (B := w13.heap.size) (Nat.le_refl _))
            have B14 := Lib.hid (B13.out.trans (al.mono B13.out.size))
            clear hK K B13 Y13 O13 SA13 al hw hw'
            refine Tr.plan_one 7 rfl (fun K hK => ?_)
            refine wpList_append_bytes rfl (.tmp 62) (.tmp 66) rfl w12.heap.size vA (.slice (some ⟨w10.heap.size, 0, none⟩) 1 1) _ [x] rfl rfl O14.out Y14.out (by rw [KL.out, List.length_singleton]; decide) SA14.out ?_
            intro vC w15 hO hb hg
            go_wp2_with fail
            refine hK _ _ (hb.out.mono SB.out) ?_
            have Z15 := Lib.hid (Z14.out.grown hg.out N14.out)
            have O15 := Lib.hid hO.out
            have B15 := Lib.hid (B14.out.trans (hb.out.mono SB.out))
            clear hK K B14 Z14 N14 hO hb hg Y14 O14 SA14
            refine Tr.plan_one 8 rfl (fun K hK => ?_)
            go_wp2_with fail
            refine (HT1.out _ _ (O15.out.bytesAt (by rw [List.length_append, KL.out, List.length_singleton]; decide)) (T9.out.below B15.out)).mono ?_
            rintro e w16 ⟨rfl, b⟩
            go_wp2_with fail
            refine hK _ _ (b.mono B15.out.size) ?_
            have Z16 := Lib.hid (Z15.out.below b)
            have B16 := Lib.hid (B15.out.trans (b.mono B15.out.size))
            clear hK K B15 Z15 b O15
            refine Tr.plan_one 10 rfl (fun K hK => ?_)
            refine wpList_store_rowV (o := ⟨none, .store 29 (.tmp 18) (.tmp 68), _, _, _, _⟩) rfl 29 (.tmp 18) (.tmp 68) rfl w13.heap.size rfl 32 29 _ g rfl Z16.out (by kernel_rfl) G1.out ?_
            intro w17 R17 o17
            refine (show wpList _ _ _ [] _ _ from hK _ _ (o17.out.below SV.out B16.out.size) ?_)
            have B17 := Lib.hid (B16.out.trans (o17.out.below SV.out B16.out.size))
            clear hK K B16 o17
            refine Tr.plan_done (l := []) rfl (fun K hK => ?_)
            go_wp2_with fail
            go_meet
            refine ⟨_, rfl, R17.out, B17.out⟩
        · skip
          go_wp2_with fail
          have al := (Below.refl _ w12).alloc (Nat.le_refl _) (.cells (rowF 32 (fun _ => vB 0)) 29)
          refine hK _ _ (al.mono B12.out.size) ?_
          obtain ⟨w13, hw⟩ : ∃ y, w12.alloc (.cells (rowF 32 (fun _ => vB 0)) 29) = y := ⟨_, rfl⟩
          have hw' : w12.alloc (.cells #[.int .u8 0, .int .u8 0, .int .u8 0, .int .u8 0, .int .u8 0, .int .u8 0, .int .u8 0, .int .u8 0, .int .u8 0, .int .u8 0, .int .u8 0, .int .u8 0, .int .u8 0, .int .u8 0, .int .u8 0, .int .u8 0, .int .u8 0, .int .u8 0, .int .u8 0, .int .u8 0, .int .u8 0, .int .u8 0, .int .u8 0, .int .u8 0, .int .u8 0, .int .u8 0, .int .u8 0, .int .u8 0, .int .u8 0, .int .u8 0, .int .u8 0, .int .u8 0] 29) = w13 := hw
          rw [hw] at al
          rw [hw']
          have Y13 := Lib.hid (Y12.out.below al)
          have Z13 : Hid (RowV w13 w12.heap.size 29 32 (fun _ => vB 0)) := Lib.hid (by rw [← hw]; exact RowV.new w12 29 32 (fun _ => vB 0))
          have SV := Lib.hid B12.out.size
          have B13 := Lib.hid (B12.out.trans (al.mono B12.out.size))
          clear hK K B12 Y12 al hw hw'
          refine Tr.plan_one 2 rfl (fun K hK => ?_)
          refine wpList_append_fresh rfl (.tmp 60) (.tmp 61) rfl w11.heap.size (.slice (some ⟨w6.heap.size, 0, none⟩) 32 32) _ rfl rfl (KB10.out.below B13.out) (by rw [KL.out]; decide) (by rw [KL.out]; decide) ?_
          intro vA w14 hO hb
          go_wp2_with fail
          refine hK _ _ (hb.out.mono B13.out.size) ?_
          have Y14 := Lib.hid (Y13.out.below hb.out)
          have Z14 := Lib.hid (Z13.out.below hb.out)
          have N14 := Lib.hid (hO.out.ne_before (B := w12.heap.size) Z13.out.lt)
          have O14 := Lib.hid hO.out
          have SA14 := Lib.hid hb.out.size
          have SB := Lib.hid B13.out.size
          have B14 := Lib.hid (B13.out.trans (hb.out.mono B13.out.size))
          clear hK K B13 Y13 Z13 hO hb
          refine Tr.plan_one 7 rfl (fun K hK => ?_)
          refine wpList_append_bytes rfl (.tmp 62) (.tmp 66) rfl w13.heap.size vA (.slice (some ⟨w10.heap.size, 0, none⟩) 1 1) _ [x] rfl rfl O14.out Y14.out (by rw [KL.out, List.length_singleton]; decide) SA14.out ?_
          intro vC w15 hO hb hg
          go_wp2_with fail
          refine hK _ _ (hb.out.mono SB.out) ?_
          have Z15 := Lib.hid (Z14.out.grown hg.out N14.out)
          have O15 := Lib.hid hO.out
          have B15 := Lib.hid (B14.out.trans (hb.out.mono SB.out))
          clear hK K B14 Z14 N14 hO hb hg Y14 O14 SA14
          refine Tr.plan_one 8 rfl (fun K hK => ?_)
          go_wp2_with fail
          refine (HT1.out _ _ (O15.out.bytesAt (by rw [List.length_append, KL.out, List.length_singleton]; decide)) (T9.out.below B15.out)).mono ?_
          rintro e w16 ⟨rfl, b⟩
          go_wp2_with fail
          refine hK _ _ (b.mono B15.out.size) ?_
          have Z16 := Lib.hid (Z15.out.below b)
          have B16 := Lib.hid (B15.out.trans (b.mono B15.out.size))
          clear hK K B15 Z15 b O15
          refine Tr.plan_one 10 rfl (fun K hK => ?_)
          refine wpList_store_rowV (o := ⟨none, .store 29 (.tmp 18) (.tmp 68), _, _, _, _⟩) rfl 29 (.tmp 18) (.tmp 68) rfl w12.heap.size rfl 32 29 _ g rfl Z16.out (by kernel_rfl) G1.out ?_
          intro w17 R17 o17
          refine (show wpList _ _ _ [] _ _ from hK _ _ (o17.out.below SV.out B16.out.size) ?_)
          have B17 := Lib.hid (B16.out.trans (o17.out.below SV.out B16.out.size))
          clear hK K B16 o17
          refine Tr.plan_done (l := []) rfl (fun K hK => ?_)
          go_wp2_with fail
          go_meet
          refine ⟨_, rfl, R17.out, B17.out⟩
      · skip
        go_wp2_with fail
        have al := (Below.refl _ w11).alloc (Nat.le_refl _) (.cells (rowF 32 (fun _ => vB 0)) 29)
        refine hK _ _ (al.mono B11.out.size) ?_
        obtain ⟨w12, hw⟩ : ∃ y, w11.alloc (.cells (rowF 32 (fun _ => vB 0)) 29) = y := ⟨_, rfl⟩
        have hw' : w11.alloc (.cells #[.int .u8 0, .int .u8 0, .int .u8 0, .int .u8 0, .int .u8 0, .int .u8 0, .int .u8 0, .int .u8 0, .int .u8 0, .int .u8 0, .int .u8 0, .int .u8 0, .int .u8 0, .int .u8 0, .int .u8 0, .int .u8 0, .int .u8 0, .int .u8 0, .int .u8 0, .int .u8 0, .int .u8 0, .int .u8 0, .int .u8 0, .int .u8 0, .int .u8 0, .int .u8 0, .int .u8 0, .int .u8 0, .int .u8 0, .int .u8 0, .int .u8 0, .int .u8 0] 29) = w12 := hw
        rw [hw] at al
        rw [hw']
        have Y12 := Lib.hid (Y11.out.below al)
        have Z12 : Hid (RowV w12 w11.heap.size 29 32 (fun _ => vB 0)) := Lib.hid (by rw [← hw]; exact RowV.new w11 29 32 (fun _ => vB 0))
        have SV := Lib.hid B11.out.size
        have B12 := Lib.hid (B11.out.trans (al.mono B11.out.size))
        clear hK K B11 Y11 al hw hw'
        refine Tr.plan_one 0 rfl (fun K hK => ?_)
        go_wp2_with fail
        have al := (Below.refl _ w12).alloc (Nat.le_refl _) (.cells #[] 5)
        refine hK _ _ (al.mono B12.out.size) ?_
        obtain ⟨w13, hw⟩ : ∃ y, w12.alloc (.cells #[] 5) = y := ⟨_, rfl⟩
        have hw' : w12.alloc (.cells #[] 5) = w13 := hw
        rw [hw] at al
        rw [hw']
        have Y13 := Lib.hid (Y12.out.below al)
        have Z13 := Lib.hid (Z12.out.below al)
        have B13 := Lib.hid (B12.out.trans (al.mono B12.out.size))
        clear hK K B12 Y12 Z12 al hw hw'
        refine Tr.plan_one 2 rfl (fun K hK => ?_)
        refine wpList_append_fresh rfl (.tmp 60) (.tmp 61) rfl w12.heap.size (.slice (some ⟨w6.heap.size, 0, none⟩) 32 32) _ rfl rfl (KB10.out.below B13.out) (by rw [KL.out]; decide) (by rw [KL.out]; decide) ?_
        intro vA w14 hO hb
        go_wp2_with fail
        refine hK _ _ (hb.out.mono B13.out.size) ?_
        have Y14 := Lib.hid (Y13.out.below hb.out)
        have Z14 := Lib.hid (Z13.out.below hb.out)
        have N14 := Lib.hid (hO.out.ne_before (B := w11.heap.size) Z13.out.lt)
        have O14 := Lib.hid hO.out
        have SA14 := Lib.hid hb.out.size
        have SB := Lib.hid B13.out.size
        have B14 := Lib.hid (B13.out.trans (hb.out.mono B13.out.size))
        clear hK K B13 Y13 Z13 hO hb
        refine Tr.plan_one 7 rfl (fun K hK => ?_)
        refine wpList_append_bytes rfl (.tmp 62) (.tmp 66) rfl w13.heap.size vA (.slice (some ⟨w10.heap.size, 0, none⟩) 1 1) _ [x] rfl rfl O14.out Y14.out (by rw [KL.out, List.length_singleton]; decide) SA14.out ?_
        intro vC w15 hO hb hg
        go_wp2_with fail
        refine hK _ _ (hb.out.mono SB.out) ?_
        have Z15 := Lib.hid (Z14.out.grown hg.out N14.out)
        have O15 := Lib.hid hO.out
        have B15 := Lib.hid (B14.out.trans (hb.out.mono SB.out))
        clear hK K B14 Z14 N14 hO hb hg Y14 O14 SA14
        refine Tr.plan_one 8 rfl (fun K hK => ?_)
        go_wp2_with fail
        refine (HT1.out _ _ (O15.out.bytesAt (by rw [List.length_append, KL.out, List.length_singleton]; decide)) (T9.out.below B15.out)).mono ?_
        rintro e w16 ⟨rfl, b⟩
        go_wp2_with fail
        refine hK _ _ (b.mono B15.out.size) ?_
        have Z16 := Lib.hid (Z15.out.below b)
        have B16 := Lib.hid (B15.out.trans (b.mono B15.out.size))
        clear hK K B15 Z15 b O15
        refine Tr.plan_one 10 rfl (fun K hK => ?_)
        refine wpList_store_rowV (o := ⟨none, .store 29 (.tmp 18) (.tmp 68), _, _, _, _⟩) rfl 29 (.tmp 18) (.tmp 68) rfl w11.heap.size rfl 32 29 _ g rfl Z16.out (by kernel_rfl) G1.out ?_
        intro w17 R17 o17
        refine (show wpList _ _ _ [] _ _ from hK _ _ (o17.out.below SV.out B16.out.size) ?_)
        have B17 := Lib.hid (B16.out.trans (o17.out.below SV.out B16.out.size))
        clear hK K B16 o17
        refine Tr.plan_done (l := []) rfl (fun K hK => ?_)
        go_wp2_with fail
        go_meet
        refine ⟨_, rfl, R17.out, B17.out⟩
    · skip
      go_wp2_with fail
      have al := (Below.refl _ w10).alloc (Nat.le_refl _) (.cells (rowF 32 (fun _ => vB 0)) 29)
      refine hK _ _ (al.mono B10.out.size) ?_
      obtain ⟨w11, hw⟩ : ∃ y, w10.alloc (.cells (rowF 32 (fun _ => vB 0)) 29) = y := ⟨_, rfl⟩
      have hw' : w10.alloc (.cells #[.int .u8 0, .int .u8 0, .int .u8 0, .int .u8 0, .int .u8 0, .int .u8 0, .int .u8 0, .int .u8 0, .int .u8 0, .int .u8 0, .int .u8 0, .int .u8 0, .int .u8 0, .int .u8 0, .int .u8 0, .int .u8 0, .int .u8 0, .int .u8 0, .int .u8 0, .int .u8 0, .int .u8 0, .int .u8 0, .int .u8 0, .int .u8 0, .int .u8 0, .int .u8 0, .int .u8 0, .int .u8 0, .int .u8 0, .int .u8 0, .int .u8 0, .int .u8 0] 29) = w11 := hw
      rw [hw] at al
      rw [hw']
      have Z11 : Hid (RowV w11 w10.heap.size 29 32 (fun _ => vB 0)) := Lib.hid (by rw [← hw]; exact RowV.new w10 29 32 (fun _ => vB 0))
      have SV := Lib.hid B10.out.size
      have B11 := Lib.hid (B10.out.trans (al.mono B10.out.size))
      clear hK K B10 al hw hw'
      refine Tr.plan_two 0 6 rfl rfl (fun K hK => ?_) (fun K hK => ?_)
      · skip
        go_wp2_with fail
        have al := (Below.refl _ w11).alloc (Nat.le_refl _) (.cells #[] 5)
        refine hK _ _ (al.mono B11.out.size) ?_
        obtain ⟨w12, hw⟩ : ∃ y, w11.alloc (.cells #[] 5) = y := ⟨_, rfl⟩
        have hw' : w11.alloc (.cells #[] 5) = w12 := hw
        rw [hw] at al
        rw [hw']
        have Z12 := Lib.hid (Z11.out.below al)
        have B12 := Lib.hid (B11.out.trans (al.mono B11.out.size))
        clear hK K B11 Z11 al hw hw'
        refine Tr.plan_two 2 6 rfl rfl (fun K hK => ?_) (fun K hK => ?_)
        · skip
          refine wpList_append_fresh rfl (.tmp 60) (.tmp 61) rfl w11.heap.size (.slice (some ⟨w6.heap.size, 0, none⟩) 32 32) _ rfl rfl (KB10.out.below B12.out) (by rw [KL.out]; decide) (by rw [KL.out]; decide) ?_
          intro vA w13 hO hb
          go_wp2_with fail
          refine hK _ _ (hb.out.mono B12.out.size) ?_
          have Z13 := Lib.hid (Z12.out.below hb.out)
          have N13 := Lib.hid (hO.out.ne_before (B := w10.heap.size) Z12.out.lt)
          have O13 := Lib.hid hO.out
          have SA13 := Lib.hid hb.out.size
          have SB := Lib.hid B12.out.size
          have B13 := Lib.hid (B12.out.trans (hb.out.mono B12.out.size))
          clear hK K B12 Z12 hO hb
          refine Tr.plan_one 6 rfl (fun K hK => ?_)
          go_wp2_with fail
          have al := (Below.refl _ w13).alloc (Nat.le_refl _) (.cells #[vB x] 5)
          refine hK _ _ (al.mono B13.out.size) ?_
          obtain ⟨w14, hw⟩ : ∃ y, w13.alloc (.cells #[vB x] 5) = y := ⟨_, rfl⟩
          have hw' : w13.alloc (.cells #[vB x] 5) = w14 := hw
          rw [hw] at al
          rw [hw']
          have Z14 := Lib.hid (Z13.out.below al)
          have O14 := Lib.hid (O13.out.below al)
          have N14 := Lib.hid (N13.out)
          have SA14 := Lib.hid (Nat.le_trans SA13.out al.size)
          have Y14 : Hid (BytesAt w14 (.slice (some ⟨w13.heap.size, 0, none⟩) 1 1) [x]) := Lib.hid (by rw [← hw]; exact one_byte w13 x)
          have B14 := Lib.hid (B13.out.trans (al.mono B13.out.size))
          clear hK K B13 Z13 O13 N13 SA13 al hw hw'
          refine Tr.plan_one 7 rfl (fun K hK => ?_)
          refine wpList_append_bytes rfl (.tmp 62) (.tmp 66) rfl w12.heap.size vA (.slice (some ⟨w13.heap.size, 0, none⟩) 1 1) _ [x] rfl rfl O14.out Y14.out (by rw [KL.out, List.length_singleton]; decide) SA14.out ?_
          intro vC w15 hO hb hg
          go_wp2_with fail
          refine hK _ _ (hb.out.mono SB.out) ?_
          have Z15 := Lib.hid (Z14.out.grown hg.out N14.out)
          have O15 := Lib.hid hO.out
          have B15 := Lib.hid (B14.out.trans (hb.out.mono SB.out))
          clear hK K B14 Z14 N14 hO hb hg Y14 O14 SA14
          refine Tr.plan_one 8 rfl (fun K hK => ?_)
          go_wp2_with fail
          refine (HT1.out _ _ (O15.out.bytesAt (by rw [List.length_append, KL.out, List.length_singleton]; decide)) (T9.out.below B15.out)).mono ?_
          rintro e w16 ⟨rfl, b⟩
          go_wp2_with fail
          refine hK _ _ (b.mono B15.out.size) ?_
          have Z16 := Lib.hid (Z15.out.below b)
          have B16 := Lib.hid (B15.out.trans (b.mono B15.out.size))
          clear hK K B15 Z15 b O15
          refine Tr.plan_one 10 rfl (fun K hK => ?_)
          refine wpList_store_rowV (o := ⟨none, .store 29 (.tmp 18) (.tmp 68), _, _, _, _⟩) rfl 29 (.tmp 18) (.tmp 68) rfl w10.heap.size rfl 32 29 _ g rfl Z16.out (by kernel_rfl) G1.out ?_
          intro w17 R17 o17
          refine (show wpList _ _ _ [] _ _ from hK _ _ (o17.out.below SV.out B16.out.size) ?_)
          have B17 := Lib.hid (B16.out.trans (o17.out.below SV.out B16.out.size))
          clear hK K B16 o17
          refine Tr.plan_done (l := []) rfl (fun K hK => ?_)
          go_wp2_with fail
          go_meet
          refine ⟨_, rfl, R17.out, B17.out⟩
        · skip
          go_wp2_with fail
          have al := (Below.refl _ w12).alloc (Nat.le_refl _) (.cells #[vB x] 5)
          refine hK _ _ (al.mono B12.out.size) ?_
          obtain ⟨w13, hw⟩ : ∃ y, w12.alloc (.cells #[vB x] 5) = y := ⟨_, rfl⟩
          have hw' : w12.alloc (.cells #[vB x] 5) = w13 := hw
          rw [hw] at al
          rw [hw']
          have Z13 := Lib.hid (Z12.out.below al)
          have Y13 : Hid (BytesAt w13 (.slice (some ⟨w12.heap.size, 0, none⟩) 1 1) [x]) := Lib.hid (by rw [← hw]; exact one_byte w12 x)
          have B13 := Lib.hid (B12.out.trans (al.mono B12.out.size))
          clear hK K B12 Z12 al hw hw'
          refine Tr.plan_one 2 rfl (fun K hK => ?_)
          refine wpList_append_fresh rfl (.tmp 60) (.tmp 61) rfl w11.heap.size (.slice (some ⟨w6.heap.size, 0, none⟩) 32 32) _ rfl rfl (KB10.out.below B13.out) (by rw [KL.out]; decide) (by rw [KL.out]; decide) ?_
          intro vA w14 hO hb
          go_wp2_with fail
          refine hK _ _ (hb.out.mono B13.out.size) ?_
          have Y14 := Lib.hid (Y13.out.below hb.out)
          have Z14 := Lib.hid (Z13.out.below hb.out)
          have N14 := Lib.hid (hO.out.ne_before (B := w10.heap.size) Z13.out.lt)
          have O14 := Lib.hid hO.out
          have SA14 := Lib.hid hb.out.size
          have SB := Lib.hid B13.out.size
          have B14 := Lib.hid (B13.out.trans (hb.out.mono B13.out.size))
          clear hK K B13 Y13 Z13 hO hb
          refine Tr.plan_one 7 rfl (fun K hK => ?_)
          refine wpList_append_bytes rfl (.tmp 62) (.tmp 66) rfl w13.heap.size vA (.slice (some ⟨w12.heap.size, 0, none⟩) 1 1) _ [x] rfl rfl O14.out Y14.out (by rw [KL.out, List.length_singleton]; decide) SA14.out ?_
          intro vC w15 hO hb hg
          go_wp2_with fail
          refine hK _ _ (hb.out.mono SB.out) ?_
          have Z15 := Lib.hid (Z14.out.grown hg.out N14.out)
          have O15 := Lib.hid hO.out
          have B15 := Lib.hid (B14.out.trans (hb.out.mono SB.out))
          clear hK K B14 Z14 N14 hO hb hg Y14 O14 SA14
          refine Tr.plan_one 8 rfl (fun K hK => ?_)
          go_wp2_with fail
          refine (HT1.out _ _ (O15.out.bytesAt (by rw [List.length_append, KL.out, List.length_singleton]; decide)) (T9.out.below B15.out)).mono ?_
          rintro e w16 ⟨rfl, b⟩
          go_wp2_with fail
          refine hK _ _ (b.mono B15.out.size) ?_
          have Z16 := Lib.hid (Z15.out.below b)
          have B16 := Lib.hid (B15.out.trans (b.mono B15.out.size))
          clear hK K B15 Z15 b O15
          refine Tr.plan_one 10 rfl (fun K hK => ?_)
          refine wpList_store_rowV (o := ⟨none, .store 29 (.tmp 18) (.tmp 68), _, _, _, _⟩) rfl 29 (.tmp 18) (.tmp 68) rfl w10.heap.size rfl 32 29 _ g rfl Z16.out (by kernel_rfl) G1.out ?_
          intro w17 R17 o17
          refine (show wpList _ _ _ [] _ _ from hK _ _ (o17.out.below SV.out B16.out.size) ?_)
          have B17 := Lib.hid (B16.out.trans (o17.out.below SV.out B16.out.size))
          clear hK K B16 o17
          refine Tr.plan_done (l := []) rfl (fun K hK => ?_)
          go_wp2_with fail
          go_meet
          refine ⟨_, rfl, R17.out, B17.out⟩
      · skip
        go_wp2_with fail
        have al := (Below.refl _ w11).alloc (Nat.le_refl _) (.cells #[vB x] 5)
        refine hK _ _ (al.mono B11.out.size) ?_
        obtain ⟨w12, hw⟩ : ∃ y, w11.alloc (.cells #[vB x] 5) = y := ⟨_, rfl⟩
        have hw' : w11.alloc (.cells #[vB x] 5) = w12 := hw
        rw [hw] at al
        rw [hw']
        have Z12 := Lib.hid (Z11.out.below al)
        have Y12 : Hid (BytesAt w12 (.slice (some ⟨w11.heap.size, 0, none⟩) 1 1) [x]) := Lib.hid (by rw [← hw]; exact one_byte w11 x)
        have B12 := Lib.hid (B11.out.trans (al.mono B11.out.size))
        clear hK K B11 Z11 al hw hw'
        refine Tr.plan_one 0 rfl (fun K hK => ?_)
        go_wp2_with fail
        have al := (Below.refl _ w12).alloc (Nat.le_refl _) (.cells #[] 5)
        refine hK _ _ (al.mono B12.out.size) ?_
        obtain ⟨w13, hw⟩ : ∃ y, w12.alloc (.cells #[] 5) = y := ⟨_, rfl⟩
        have hw' : w12.alloc (.cells #[] 5) = w13 := hw
        rw [hw] at al
        rw [hw']
        have Y13 := Lib.hid (Y12.out.below al)
        have Z13 := Lib.hid (Z12.out.below al)
        have B13 := Lib.hid (B12.out.trans (al.mono B12.out.size))
        clear hK K B12 Y12 Z12 al hw hw'
        refine Tr.plan_one 2 rfl (fun K hK => ?_)
        refine wpList_append_fresh rfl (.tmp 60) (.tmp 61) rfl w12.heap.size (.slice (some ⟨w6.heap.size, 0, none⟩) 32 32) _ rfl rfl (KB10.out.below B13.out) (by rw [KL.out]; decide) (by rw [KL.out]; decide) ?_
        intro vA w14 hO hb
        go_wp2_with fail
        refine hK _ _ (hb.out.mono B13.out.size) ?_
        have Y14 := Lib.hid (Y13.out.below hb.out)
        have Z14 := Lib.hid (Z13.out.below hb.out)
        have N14 := Lib.hid (hO.out.ne_before (B := w10.heap.size) Z13.out.lt)
        have O14 := Lib.hid hO.out
        have SA14 := Lib.hid hb.out.size
        have SB := Lib.hid B13.out.size
        have B14 := Lib.hid (B13.out.trans (hb.out.mono B13.out.size))
        clear hK K B13 Y13 Z13 hO hb
        refine Tr.plan_one 7 rfl (fun K hK => ?_)
        refine wpList_append_bytes rfl (.tmp 62) (.tmp 66) rfl w13.heap.size vA (.slice (some ⟨w11.heap.size, 0, none⟩) 1 1) _ [x] rfl rfl O14.out Y14.out (by rw [KL.out, List.length_singleton]; decide) SA14.out ?_
        intro vC w15 hO hb hg
        go_wp2_with fail
        refine hK _ _ (hb.out.mono SB.out) ?_
        have Z15 := Lib.hid (Z14.out.grown hg.out N14.out)
        have O15 := Lib.hid hO.out
        have B15 := Lib.hid (B14.out.trans (hb.out.mono SB.out))
        clear hK K B14 Z14 N14 hO hb hg Y14 O14 SA14
        refine Tr.plan_one 8 rfl (fun K hK => ?_)
        go_wp2_with fail
        refine (HT1.out _ _ (O15.out.bytesAt (by rw [List.length_append, KL.out, List.length_singleton]; decide)) (T9.out.below B15.out)).mono ?_
        rintro e w16 ⟨rfl, b⟩
        go_wp2_with fail
        refine hK _ _ (b.mono B15.out.size) ?_
        have Z16 := Lib.hid (Z15.out.below b)
        have B16 := Lib.hid (B15.out.trans (b.mono B15.out.size))
        clear hK K B15 Z15 b O15
        refine Tr.plan_one 10 rfl (fun K hK => ?_)
        refine wpList_store_rowV (o := ⟨none, .store 29 (.tmp 18) (.tmp 68), _, _, _, _⟩) rfl 29 (.tmp 18) (.tmp 68) rfl w10.heap.size rfl 32 29 _ g rfl Z16.out (by kernel_rfl) G1.out ?_
        intro w17 R17 o17
        refine (show wpList _ _ _ [] _ _ from hK _ _ (o17.out.below SV.out B16.out.size) ?_)
        have B17 := Lib.hid (B16.out.trans (o17.out.below SV.out B16.out.size))
        clear hK K B16 o17
        refine Tr.plan_done (l := []) rfl (fun K hK => ?_)
        go_wp2_with fail
        go_meet
        refine ⟨_, rfl, R17.out, B17.out⟩
  case rest =>
    rename World => w10
    obtain ⟨bx, e18, hZ, hB⟩ := hcut
    subst e18
    have B10 := Lib.hid (B9.out.trans (hB.mono B9.out.size))
    have D10 := Lib.hid (D9.out.below hB)
    have P10 := Lib.hid (P9.out.below hB)
    have K10 := Lib.hid (K9.out.below hB)
    have G10 := Lib.hid (G9.out.below hB)
    have Z10 := Lib.hid hZ
    clear hZ hB B9 D9 P9 K9 G9 hb1 HT1
    go_upto_region 10 with fail
    obtain ⟨z, hz⟩ : ∃ y, roleByte (3 - (R : Int)) = y := ⟨_, rfl⟩
    obtain ⟨g2, hg2⟩ : ∃ f, (fun i => vB (P2.getD i 0)) = f := ⟨_, rfl⟩
    have hb2 := vB_role (3 - (R : Int))
    rw [hz] at hb2
    have ct2 : ∀ v W, BytesAt W v (K ++ [z]) → Tab W → Calls Tryd.prog 18 #[.string sProof, v] W fun e w' => e = .returned (.agg (rowF 32 g2)) ∧ Below W.heap.size W w' := fun v W hv hT => by
      have h := tagged_any sProof v _ W (by decide) (by rw [List.length_append, KL.out, List.length_singleton]; decide) hv hT
      rw [← hg2, ← hP2]; unfold proofL; rw [hz]; exact h
    have G2 := Lib.hid (show ∀ j, j < 32 → (g2 j).oneCell' = true by intro j _; rw [← hg2]; rfl)
    have HT2 := Lib.hid ct2
    have wq : IntKind.i64.wrap (3 - (R : Int)) = 3 - (R : Int) := IntWalk.i64_in _ (by omega)
    clear ct2
    go_cut [19] (fun s19 wx => ∃ b, s19 = .pointer (some ⟨b, 0, none⟩) ∧ RowV wx b 29 32 g2 ∧ Below w10.heap.size w10 wx)
    case first =>
      refine Tr.wp_region_plan w10.heap.size 12 [] (.fl 1 (.fl 3 (.fl 4 (.fl 5 (.fl 6 (.tri 0 7 10 (.tri 2 7 10 (.two 7 10 (.two 8 10 (.two 9 10 (.one 10 (.one 11 .done)) (.one 9 (.one 11 .done))) (.one 8 (.one 9 (.one 11 .done)))) (.one 7 (.one 8 (.one 9 (.one 11 .done))))) (.two 2 10 (.two 8 10 (.two 9 10 (.one 10 (.one 11 .done)) (.one 9 (.one 11 .done))) (.one 8 (.one 9 (.one 11 .done)))) (.one 2 (.one 8 (.one 9 (.one 11 .done))))) (.two 2 7 (.one 7 (.one 8 (.one 9 (.one 11 .done)))) (.one 2 (.one 8 (.one 9 (.one 11 .done)))))) (.two 0 10 (.two 2 10 (.two 8 10 (.two 9 10 (.one 10 (.one 11 .done)) (.one 9 (.one 11 .done))) (.one 8 (.one 9 (.one 11 .done)))) (.one 2 (.one 8 (.one 9 (.one 11 .done))))) (.one 0 (.one 2 (.one 8 (.one 9 (.one 11 .done)))))) (.two 0 7 (.two 2 7 (.one 7 (.one 8 (.one 9 (.one 11 .done)))) (.one 2 (.one 8 (.one 9 (.one 11 .done))))) (.one 0 (.one 2 (.one 8 (.one 9 (.one 11 .done)))))))))))) (by kernel_rfl) (by kernel_rfl) ?_
      intro w11 b11 e11
      clear e11
      have B11 := Lib.hid b11
      have T10 := Lib.hid (T.out.below B10.out)
      have P11 := Lib.hid (P10.out.below b11)
      have PLt := Lib.hid P10.out.lt
      have KB11 := Lib.hid (show BytesAt w10 (.slice (some ⟨w6.heap.size, 0, none⟩) 32 32) K from RowV.bytesAt (hf.symm ▸ K10.out) KL.out (by decide) (by decide))
      clear b11
      refine Tr.plan_floats [1, 3, 4, 5, 6] [_, _, _, _, _] rfl ?_
      dsimp only [List.getElem_toArray, List.getElem_cons_succ, List.getElem_cons_zero]
      obtain ⟨i0, hi0, _, _, _⟩ := info_parts info_byte
      refine quietN_slice_array rfl _ (.tmp 14) rfl w6.heap.size 32 rfl _ Tryd.underlying38 (by decide) i0 hi0 ?_
      simp only [Act.put, List.setIfInBounds_toArray, List.set_cons_succ, List.set_cons_zero]
      repeat (go_big_quiet_want; go_big_quiet_op; first | go_big_quiet_on | (refine ⟨_, fun _ _ => rfl, ?_⟩; go_big_quiet_on))
      refine quietN_load_cell rfl _ (.tmp 72) rfl w3.heap.size 0 rfl 3 33 _ P11.out PLt.out (by decide) _ Tryd.underlying3 rfl (.int .i64 (R : Int)) rfl ?_
      simp only [Act.put, List.setIfInBounds_toArray, List.set_cons_succ, List.set_cons_zero]
      repeat (go_big_quiet_want; go_big_quiet_op; first | go_big_quiet_on | (refine ⟨_, fun _ _ => rfl, ?_⟩; go_big_quiet_on))
      refine wpQuiet_nil ?_
      clear P11 PLt hb2 hi0 wq
      refine Tr.plan_tri 0 7 10 rfl rfl rfl (fun K hK => ?_) (fun K hK => ?_) (fun K hK => ?_)
      · skip
        go_wp2_with fail
        have al := (Below.refl _ w11).alloc (Nat.le_refl _) (.cells #[] 5)
        refine hK _ _ (al.mono B11.out.size) ?_
        obtain ⟨w12, hw⟩ : ∃ y, w11.alloc (.cells #[] 5) = y := ⟨_, rfl⟩
        have hw' : w11.alloc (.cells #[] 5) = w12 := hw
        rw [hw] at al
        rw [hw']
        have B12 := Lib.hid (B11.out.trans (al.mono B11.out.size))
        clear hK K B11 al hw hw'
        refine Tr.plan_tri 2 7 10 rfl rfl rfl (fun K hK => ?_) (fun K hK => ?_) (fun K hK => ?_)
        · skip
          refine wpList_append_fresh rfl (.tmp 69) (.tmp 70) rfl w11.heap.size (.slice (some ⟨w6.heap.size, 0, none⟩) 32 32) _ rfl rfl (KB11.out.below B12.out) (by rw [KL.out]; decide) (by rw [KL.out]; decide) ?_
          intro vA w13 hO hb
          go_wp2_with fail
          refine hK _ _ (hb.out.mono B12.out.size) ?_
          have O13 := Lib.hid hO.out
          have SA13 := Lib.hid hb.out.size
          have SB := Lib.hid B12.out.size
          have B13 := Lib.hid (B12.out.trans (hb.out.mono B12.out.size))
          clear hK K B12 hO hb
          refine Tr.plan_two 7 10 rfl rfl (fun K hK => ?_) (fun K hK => ?_)
          · skip
            go_wp2_with fail
            have al := (Below.refl _ w13).alloc (Nat.le_refl _) (.cells #[vB z] 5)
            refine hK _ _ (al.mono B13.out.size) ?_
            obtain ⟨w14, hw⟩ : ∃ y, w13.alloc (.cells #[vB z] 5) = y := ⟨_, rfl⟩
            have hw' : w13.alloc (.cells #[vB z] 5) = w14 := hw
            rw [hw] at al
            rw [hw']
            have O14 := Lib.hid (O13.out.below al)
            have SA14 := Lib.hid (Nat.le_trans SA13.out al.size)
            have Y14 : Hid (BytesAt w14 (.slice (some ⟨w13.heap.size, 0, none⟩) 1 1) [z]) := Lib.hid (by rw [← hw]; exact one_byte w13 z)
            have B14 := Lib.hid (B13.out.trans (al.mono B13.out.size))
            clear hK K B13 O13 SA13 al hw hw'
            refine Tr.plan_two 8 10 rfl rfl (fun K hK => ?_) (fun K hK => ?_)
            · skip
              refine wpList_append_bytes rfl (.tmp 71) (.tmp 76) rfl w12.heap.size vA (.slice (some ⟨w13.heap.size, 0, none⟩) 1 1) _ [z] rfl rfl O14.out Y14.out (by rw [KL.out, List.length_singleton]; decide) SA14.out ?_
              intro vC w15 hO hb hg
              go_wp2_with fail
              refine hK _ _ (hb.out.mono SB.out) ?_
              have O15 := Lib.hid hO.out
              have B15 := Lib.hid (B14.out.trans (hb.out.mono SB.out))
              clear hK K B14 hO hb hg Y14 O14 SA14
              refine Tr.plan_two 9 10 rfl rfl (fun K hK => ?_) (fun K hK => ?_)
              · skip
                go_wp2_with fail
                refine (HT2.out _ _ (O15.out.bytesAt (by rw [List.length_append, KL.out, List.length_singleton]; decide)) (T10.out.below B15.out)).mono ?_
                rintro e w16 ⟨rfl, b⟩
                go_wp2_with fail
                refine hK _ _ (b.mono B15.out.size) ?_
                have B16 := Lib.hid (B15.out.trans (b.mono B15.out.size))
                clear hK K B15 b O15
                refine Tr.plan_one 10 rfl (fun K hK => ?_)
                go_wp2_with fail
                have al := (Below.refl _ w16).alloc (Nat.le_refl _) (.cells (rowF 32 (fun _ => vB 0)) 29)
                refine hK _ _ (al.mono B16.out.size) ?_
                obtain ⟨w17, hw⟩ : ∃ y, w16.alloc (.cells (rowF 32 (fun _ => vB 0)) 29) = y := ⟨_, rfl⟩
                have hw' : w16.alloc (.cells #[.int .u8 0, .int .u8 0, .int .u8 0, .int .u8 0, .int .u8 0, .int .u8 0, .int .u8 0, .int .u8 0, .int .u8 0, .int .u8 0, .int .u8 0, .int .u8 0, .int .u8 0, .int .u8 0, .int .u8 0, .int .u8 0, .int .u8 0, .int .u8 0, .int .u8 0, .int .u8 0, .int .u8 0, .int .u8 0, .int .u8 0, .int .u8 0, .int .u8 0, .int .u8 0, .int .u8 0, .int .u8 0, .int .u8 0, .int .u8 0, .int .u8 0, .int .u8 0] 29) = w17 := hw
                rw [hw] at al
                rw [hw']
                have Z17 : Hid (RowV w17 w16.heap.size 29 32 (fun _ => vB 0)) := Lib.hid (by rw [← hw]; exact RowV.new w16 29 32 (fun _ => vB 0))
                have SV := Lib.hid B16.out.size
                have B17 := Lib.hid (B16.out.trans (al.mono B16.out.size))
                clear hK K B16 al hw hw'
                refine Tr.plan_one 11 rfl (fun K hK => ?_)
                refine wpList_store_rowV (o := ⟨none, .store 29 (.tmp 19) (.tmp 78), _, _, _, _⟩) rfl 29 (.tmp 19) (.tmp 78) rfl w16.heap.size rfl 32 29 _ g2 rfl Z17.out (by kernel_rfl) G2.out ?_
                intro w18 R18 o18
                refine (show wpList _ _ _ [] _ _ from hK _ _ (o18.out.below SV.out B17.out.size) ?_)
                have B18 := Lib.hid (B17.out.trans (o18.out.below SV.out B17.out.size))
                clear hK K B17 o18
                refine Tr.plan_done (l := []) rfl (fun K hK => ?_)
                go_wp2_with fail
                go_meet
                refine ⟨_, rfl, R18.out, B18.out⟩
              · skip
                go_wp2_with fail
                have al := (Below.refl _ w15).alloc (Nat.le_refl _) (.cells (rowF 32 (fun _ => vB 0)) 29)
                refine hK _ _ (al.mono B15.out.size) ?_
                obtain ⟨w16, hw⟩ : ∃ y, w15.alloc (.cells (rowF 32 (fun _ => vB 0)) 29) = y := ⟨_, rfl⟩
                have hw' : w15.alloc (.cells #[.int .u8 0, .int .u8 0, .int .u8 0, .int .u8 0, .int .u8 0, .int .u8 0, .int .u8 0, .int .u8 0, .int .u8 0, .int .u8 0, .int .u8 0, .int .u8 0, .int .u8 0, .int .u8 0, .int .u8 0, .int .u8 0, .int .u8 0, .int .u8 0, .int .u8 0, .int .u8 0, .int .u8 0, .int .u8 0, .int .u8 0, .int .u8 0, .int .u8 0, .int .u8 0, .int .u8 0, .int .u8 0, .int .u8 0, .int .u8 0, .int .u8 0, .int .u8 0] 29) = w16 := hw
                rw [hw] at al
                rw [hw']
                have O16 := Lib.hid (O15.out.below al)
                have Z16 : Hid (RowV w16 w15.heap.size 29 32 (fun _ => vB 0)) := Lib.hid (by rw [← hw]; exact RowV.new w15 29 32 (fun _ => vB 0))
                have SV := Lib.hid B15.out.size
                have N16 := Lib.hid (O15.out.ne_later (B := w15.heap.size) (Nat.le_refl _))
                have B16 := Lib.hid (B15.out.trans (al.mono B15.out.size))
                clear hK K B15 O15 al hw hw'
                refine Tr.plan_one 9 rfl (fun K hK => ?_)
                go_wp2_with fail
                refine (HT2.out _ _ (O16.out.bytesAt (by rw [List.length_append, KL.out, List.length_singleton]; decide)) (T10.out.below B16.out)).mono ?_
                rintro e w17 ⟨rfl, b⟩
                go_wp2_with fail
                refine hK _ _ (b.mono B16.out.size) ?_
                have Z17 := Lib.hid (Z16.out.below b)
                have B17 := Lib.hid (B16.out.trans (b.mono B16.out.size))
                clear hK K B16 Z16 b O16
                refine Tr.plan_one 11 rfl (fun K hK => ?_)
                refine wpList_store_rowV (o := ⟨none, .store 29 (.tmp 19) (.tmp 78), _, _, _, _⟩) rfl 29 (.tmp 19) (.tmp 78) rfl w15.heap.size rfl 32 29 _ g2 rfl Z17.out (by kernel_rfl) G2.out ?_
                intro w18 R18 o18
                refine (show wpList _ _ _ [] _ _ from hK _ _ (o18.out.below SV.out B17.out.size) ?_)
                have B18 := Lib.hid (B17.out.trans (o18.out.below SV.out B17.out.size))
                clear hK K B17 o18
                refine Tr.plan_done (l := []) rfl (fun K hK => ?_)
                go_wp2_with fail
                go_meet
                refine ⟨_, rfl, R18.out, B18.out⟩
            · skip
              go_wp2_with fail
              have al := (Below.refl _ w14).alloc (Nat.le_refl _) (.cells (rowF 32 (fun _ => vB 0)) 29)
              refine hK _ _ (al.mono B14.out.size) ?_
              obtain ⟨w15, hw⟩ : ∃ y, w14.alloc (.cells (rowF 32 (fun _ => vB 0)) 29) = y := ⟨_, rfl⟩
              have hw' : w14.alloc (.cells #[.int .u8 0, .int .u8 0, .int .u8 0, .int .u8 0, .int .u8 0, .int .u8 0, .int .u8 0, .int .u8 0, .int .u8 0, .int .u8 0, .int .u8 0, .int .u8 0, .int .u8 0, .int .u8 0, .int .u8 0, .int .u8 0, .int .u8 0, .int .u8 0, .int .u8 0, .int .u8 0, .int .u8 0, .int .u8 0, .int .u8 0, .int .u8 0, .int .u8 0, .int .u8 0, .int .u8 0, .int .u8 0, .int .u8 0, .int .u8 0, .int .u8 0, .int .u8 0] 29) = w15 := hw
              rw [hw] at al
              rw [hw']
              have Y15 := Lib.hid (Y14.out.below al)
              have O15 := Lib.hid (O14.out.below al)
              have SA15 := Lib.hid (Nat.le_trans SA14.out al.size)
              have Z15 : Hid (RowV w15 w14.heap.size 29 32 (fun _ => vB 0)) := Lib.hid (by rw [← hw]; exact RowV.new w14 29 32 (fun _ => vB 0))
              have SV := Lib.hid B14.out.size
              have N15 := Lib.hid (O14.out.ne_later (B := w14.heap.size) (Nat.le_refl _))
              have B15 := Lib.hid (B14.out.trans (al.mono B14.out.size))
              clear hK K B14 Y14 O14 SA14 al hw hw'
              refine Tr.plan_one 8 rfl (fun K hK => ?_)
              refine wpList_append_bytes rfl (.tmp 71) (.tmp 76) rfl w12.heap.size vA (.slice (some ⟨w13.heap.size, 0, none⟩) 1 1) _ [z] rfl rfl O15.out Y15.out (by rw [KL.out, List.length_singleton]; decide) SA15.out ?_
              intro vC w16 hO hb hg
              go_wp2_with fail
              refine hK _ _ (hb.out.mono SB.out) ?_
              have Z16 := Lib.hid (Z15.out.grown hg.out N15.out)
              have O16 := Lib.hid hO.out
              have B16 := Lib.hid (B15.out.trans (hb.out.mono SB.out))
              clear hK K B15 Z15 N15 hO hb hg Y15 O15 SA15
              refine Tr.plan_one 9 rfl (fun K hK => ?_)
              go_wp2_with fail
              refine (HT2.out _ _ (O16.out.bytesAt (by rw [List.length_append, KL.out, List.length_singleton]; decide)) (T10.out.below B16.out)).mono ?_
              rintro e w17 ⟨rfl, b⟩
              go_wp2_with fail
              refine hK _ _ (b.mono B16.out.size) ?_
              have Z17 := Lib.hid (Z16.out.below b)
              have B17 := Lib.hid (B16.out.trans (b.mono B16.out.size))
              clear hK K B16 Z16 b O16
              refine Tr.plan_one 11 rfl (fun K hK => ?_)
              refine wpList_store_rowV (o := ⟨none, .store 29 (.tmp 19) (.tmp 78), _, _, _, _⟩) rfl 29 (.tmp 19) (.tmp 78) rfl w14.heap.size rfl 32 29 _ g2 rfl Z17.out (by kernel_rfl) G2.out ?_
              intro w18 R18 o18
              refine (show wpList _ _ _ [] _ _ from hK _ _ (o18.out.below SV.out B17.out.size) ?_)
              have B18 := Lib.hid (B17.out.trans (o18.out.below SV.out B17.out.size))
              clear hK K B17 o18
              refine Tr.plan_done (l := []) rfl (fun K hK => ?_)
              go_wp2_with fail
              go_meet
              refine ⟨_, rfl, R18.out, B18.out⟩
          · skip
            go_wp2_with fail
            have al := (Below.refl _ w13).alloc (Nat.le_refl _) (.cells (rowF 32 (fun _ => vB 0)) 29)
            refine hK _ _ (al.mono B13.out.size) ?_
            obtain ⟨w14, hw⟩ : ∃ y, w13.alloc (.cells (rowF 32 (fun _ => vB 0)) 29) = y := ⟨_, rfl⟩
            have hw' : w13.alloc (.cells #[.int .u8 0, .int .u8 0, .int .u8 0, .int .u8 0, .int .u8 0, .int .u8 0, .int .u8 0, .int .u8 0, .int .u8 0, .int .u8 0, .int .u8 0, .int .u8 0, .int .u8 0, .int .u8 0, .int .u8 0, .int .u8 0, .int .u8 0, .int .u8 0, .int .u8 0, .int .u8 0, .int .u8 0, .int .u8 0, .int .u8 0, .int .u8 0, .int .u8 0, .int .u8 0, .int .u8 0, .int .u8 0, .int .u8 0, .int .u8 0, .int .u8 0, .int .u8 0] 29) = w14 := hw
            rw [hw] at al
            rw [hw']
            have O14 := Lib.hid (O13.out.below al)
            have SA14 := Lib.hid (Nat.le_trans SA13.out al.size)
            have Z14 : Hid (RowV w14 w13.heap.size 29 32 (fun _ => vB 0)) := Lib.hid (by rw [← hw]; exact RowV.new w13 29 32 (fun _ => vB 0))
            have SV := Lib.hid B13.out.size
            have N14 := Lib.hid (O13.out.ne_later (B := w13.heap.size) (Nat.le_refl _))
            have B14 := Lib.hid (B13.out.trans (al.mono B13.out.size))
            clear hK K B13 O13 SA13 al hw hw'
            refine Tr.plan_one 7 rfl (fun K hK => ?_)
            go_wp2_with fail
            have al := (Below.refl _ w14).alloc (Nat.le_refl _) (.cells #[vB z] 5)
            refine hK _ _ (al.mono B14.out.size) ?_
            obtain ⟨w15, hw⟩ : ∃ y, w14.alloc (.cells #[vB z] 5) = y := ⟨_, rfl⟩
            have hw' : w14.alloc (.cells #[vB z] 5) = w15 := hw
            rw [hw] at al
            rw [hw']
            have Z15 := Lib.hid (Z14.out.below al)
            have O15 := Lib.hid (O14.out.below al)
            have N15 := Lib.hid (N14.out)
            have SA15 := Lib.hid (Nat.le_trans SA14.out al.size)
            have Y15 : Hid (BytesAt w15 (.slice (some ⟨w14.heap.size, 0, none⟩) 1 1) [z]) := Lib.hid (by rw [← hw]; exact one_byte w14 z)
            have B15 := Lib.hid (B14.out.trans (al.mono B14.out.size))
            clear hK K B14 Z14 O14 N14 SA14 al hw hw'
            refine Tr.plan_one 8 rfl (fun K hK => ?_)
            refine wpList_append_bytes rfl (.tmp 71) (.tmp 76) rfl w12.heap.size vA (.slice (some ⟨w14.heap.size, 0, none⟩) 1 1) _ [z] rfl rfl O15.out Y15.out (by rw [KL.out, List.length_singleton]; decide) SA15.out ?_
            intro vC w16 hO hb hg
            go_wp2_with fail
            refine hK _ _ (hb.out.mono SB.out) ?_
            have Z16 := Lib.hid (Z15.out.grown hg.out N15.out)
            have O16 := Lib.hid hO.out
            have B16 := Lib.hid (B15.out.trans (hb.out.mono SB.out))
            clear hK K B15 Z15 N15 hO hb hg Y15 O15 SA15
            refine Tr.plan_one 9 rfl (fun K hK => ?_)
            go_wp2_with fail
            refine (HT2.out _ _ (O16.out.bytesAt (by rw [List.length_append, KL.out, List.length_singleton]; decide)) (T10.out.below B16.out)).mono ?_
            rintro e w17 ⟨rfl, b⟩
            go_wp2_with fail
            refine hK _ _ (b.mono B16.out.size) ?_
            have Z17 := Lib.hid (Z16.out.below b)
            have B17 := Lib.hid (B16.out.trans (b.mono B16.out.size))
            clear hK K B16 Z16 b O16
            refine Tr.plan_one 11 rfl (fun K hK => ?_)
            refine wpList_store_rowV (o := ⟨none, .store 29 (.tmp 19) (.tmp 78), _, _, _, _⟩) rfl 29 (.tmp 19) (.tmp 78) rfl w13.heap.size rfl 32 29 _ g2 rfl Z17.out (by kernel_rfl) G2.out ?_
            intro w18 R18 o18
            refine (show wpList _ _ _ [] _ _ from hK _ _ (o18.out.below SV.out B17.out.size) ?_)
            have B18 := Lib.hid (B17.out.trans (o18.out.below SV.out B17.out.size))
            clear hK K B17 o18
            refine Tr.plan_done (l := []) rfl (fun K hK => ?_)
            go_wp2_with fail
            go_meet
            refine ⟨_, rfl, R18.out, B18.out⟩
        · skip
          go_wp2_with fail
          have al := (Below.refl _ w12).alloc (Nat.le_refl _) (.cells #[vB z] 5)
          refine hK _ _ (al.mono B12.out.size) ?_
          obtain ⟨w13, hw⟩ : ∃ y, w12.alloc (.cells #[vB z] 5) = y := ⟨_, rfl⟩
          have hw' : w12.alloc (.cells #[vB z] 5) = w13 := hw
          rw [hw] at al
          rw [hw']
          have Y13 : Hid (BytesAt w13 (.slice (some ⟨w12.heap.size, 0, none⟩) 1 1) [z]) := Lib.hid (by rw [← hw]; exact one_byte w12 z)
          have B13 := Lib.hid (B12.out.trans (al.mono B12.out.size))
          clear hK K B12 al hw hw'
          refine Tr.plan_two 2 10 rfl rfl (fun K hK => ?_) (fun K hK => ?_)
          · skip
            refine wpList_append_fresh rfl (.tmp 69) (.tmp 70) rfl w11.heap.size (.slice (some ⟨w6.heap.size, 0, none⟩) 32 32) _ rfl rfl (KB11.out.below B13.out) (by rw [KL.out]; decide) (by rw [KL.out]; decide) ?_
            intro vA w14 hO hb
            go_wp2_with fail
            refine hK _ _ (hb.out.mono B13.out.size) ?_
            have Y14 := Lib.hid (Y13.out.below hb.out)
            have O14 := Lib.hid hO.out
            have SA14 := Lib.hid hb.out.size
            have SB := Lib.hid B13.out.size
            have B14 := Lib.hid (B13.out.trans (hb.out.mono B13.out.size))
            clear hK K B13 Y13 hO hb
            refine Tr.plan_two 8 10 rfl rfl (fun K hK => ?_) (fun K hK => ?_)
            · skip
              refine wpList_append_bytes rfl (.tmp 71) (.tmp 76) rfl w13.heap.size vA (.slice (some ⟨w12.heap.size, 0, none⟩) 1 1) _ [z] rfl rfl O14.out Y14.out (by rw [KL.out, List.length_singleton]; decide) SA14.out ?_
              intro vC w15 hO hb hg
              go_wp2_with fail
              refine hK _ _ (hb.out.mono SB.out) ?_
              have O15 := Lib.hid hO.out
              have B15 := Lib.hid (B14.out.trans (hb.out.mono SB.out))
              clear hK K B14 hO hb hg Y14 O14 SA14
              refine Tr.plan_two 9 10 rfl rfl (fun K hK => ?_) (fun K hK => ?_)
              · skip
                go_wp2_with fail
                refine (HT2.out _ _ (O15.out.bytesAt (by rw [List.length_append, KL.out, List.length_singleton]; decide)) (T10.out.below B15.out)).mono ?_
                rintro e w16 ⟨rfl, b⟩
                go_wp2_with fail
                refine hK _ _ (b.mono B15.out.size) ?_
                have B16 := Lib.hid (B15.out.trans (b.mono B15.out.size))
                clear hK K B15 b O15
                refine Tr.plan_one 10 rfl (fun K hK => ?_)
                go_wp2_with fail
                have al := (Below.refl _ w16).alloc (Nat.le_refl _) (.cells (rowF 32 (fun _ => vB 0)) 29)
                refine hK _ _ (al.mono B16.out.size) ?_
                obtain ⟨w17, hw⟩ : ∃ y, w16.alloc (.cells (rowF 32 (fun _ => vB 0)) 29) = y := ⟨_, rfl⟩
                have hw' : w16.alloc (.cells #[.int .u8 0, .int .u8 0, .int .u8 0, .int .u8 0, .int .u8 0, .int .u8 0, .int .u8 0, .int .u8 0, .int .u8 0, .int .u8 0, .int .u8 0, .int .u8 0, .int .u8 0, .int .u8 0, .int .u8 0, .int .u8 0, .int .u8 0, .int .u8 0, .int .u8 0, .int .u8 0, .int .u8 0, .int .u8 0, .int .u8 0, .int .u8 0, .int .u8 0, .int .u8 0, .int .u8 0, .int .u8 0, .int .u8 0, .int .u8 0, .int .u8 0, .int .u8 0] 29) = w17 := hw
                rw [hw] at al
                rw [hw']
                have Z17 : Hid (RowV w17 w16.heap.size 29 32 (fun _ => vB 0)) := Lib.hid (by rw [← hw]; exact RowV.new w16 29 32 (fun _ => vB 0))
                have SV := Lib.hid B16.out.size
                have B17 := Lib.hid (B16.out.trans (al.mono B16.out.size))
                clear hK K B16 al hw hw'
                refine Tr.plan_one 11 rfl (fun K hK => ?_)
                refine wpList_store_rowV (o := ⟨none, .store 29 (.tmp 19) (.tmp 78), _, _, _, _⟩) rfl 29 (.tmp 19) (.tmp 78) rfl w16.heap.size rfl 32 29 _ g2 rfl Z17.out (by kernel_rfl) G2.out ?_
                intro w18 R18 o18
                refine (show wpList _ _ _ [] _ _ from hK _ _ (o18.out.below SV.out B17.out.size) ?_)
                have B18 := Lib.hid (B17.out.trans (o18.out.below SV.out B17.out.size))
                clear hK K B17 o18
                refine Tr.plan_done (l := []) rfl (fun K hK => ?_)
                go_wp2_with fail
                go_meet
                refine ⟨_, rfl, R18.out, B18.out⟩
              · skip
                go_wp2_with fail
                have al := (Below.refl _ w15).alloc (Nat.le_refl _) (.cells (rowF 32 (fun _ => vB 0)) 29)
                refine hK _ _ (al.mono B15.out.size) ?_
                obtain ⟨w16, hw⟩ : ∃ y, w15.alloc (.cells (rowF 32 (fun _ => vB 0)) 29) = y := ⟨_, rfl⟩
                have hw' : w15.alloc (.cells #[.int .u8 0, .int .u8 0, .int .u8 0, .int .u8 0, .int .u8 0, .int .u8 0, .int .u8 0, .int .u8 0, .int .u8 0, .int .u8 0, .int .u8 0, .int .u8 0, .int .u8 0, .int .u8 0, .int .u8 0, .int .u8 0, .int .u8 0, .int .u8 0, .int .u8 0, .int .u8 0, .int .u8 0, .int .u8 0, .int .u8 0, .int .u8 0, .int .u8 0, .int .u8 0, .int .u8 0, .int .u8 0, .int .u8 0, .int .u8 0, .int .u8 0, .int .u8 0] 29) = w16 := hw
                rw [hw] at al
                rw [hw']
                have O16 := Lib.hid (O15.out.below al)
                have Z16 : Hid (RowV w16 w15.heap.size 29 32 (fun _ => vB 0)) := Lib.hid (by rw [← hw]; exact RowV.new w15 29 32 (fun _ => vB 0))
                have SV := Lib.hid B15.out.size
                have N16 := Lib.hid (O15.out.ne_later (B := w15.heap.size) (Nat.le_refl _))
                have B16 := Lib.hid (B15.out.trans (al.mono B15.out.size))
                clear hK K B15 O15 al hw hw'
                refine Tr.plan_one 9 rfl (fun K hK => ?_)
                go_wp2_with fail
                refine (HT2.out _ _ (O16.out.bytesAt (by rw [List.length_append, KL.out, List.length_singleton]; decide)) (T10.out.below B16.out)).mono ?_
                rintro e w17 ⟨rfl, b⟩
                go_wp2_with fail
                refine hK _ _ (b.mono B16.out.size) ?_
                have Z17 := Lib.hid (Z16.out.below b)
                have B17 := Lib.hid (B16.out.trans (b.mono B16.out.size))
                clear hK K B16 Z16 b O16
                refine Tr.plan_one 11 rfl (fun K hK => ?_)
                refine wpList_store_rowV (o := ⟨none, .store 29 (.tmp 19) (.tmp 78), _, _, _, _⟩) rfl 29 (.tmp 19) (.tmp 78) rfl w15.heap.size rfl 32 29 _ g2 rfl Z17.out (by kernel_rfl) G2.out ?_
                intro w18 R18 o18
                refine (show wpList _ _ _ [] _ _ from hK _ _ (o18.out.below SV.out B17.out.size) ?_)
                have B18 := Lib.hid (B17.out.trans (o18.out.below SV.out B17.out.size))
                clear hK K B17 o18
                refine Tr.plan_done (l := []) rfl (fun K hK => ?_)
                go_wp2_with fail
                go_meet
                refine ⟨_, rfl, R18.out, B18.out⟩
            · skip
              go_wp2_with fail
              have al := (Below.refl _ w14).alloc (Nat.le_refl _) (.cells (rowF 32 (fun _ => vB 0)) 29)
              refine hK _ _ (al.mono B14.out.size) ?_
              obtain ⟨w15, hw⟩ : ∃ y, w14.alloc (.cells (rowF 32 (fun _ => vB 0)) 29) = y := ⟨_, rfl⟩
              have hw' : w14.alloc (.cells #[.int .u8 0, .int .u8 0, .int .u8 0, .int .u8 0, .int .u8 0, .int .u8 0, .int .u8 0, .int .u8 0, .int .u8 0, .int .u8 0, .int .u8 0, .int .u8 0, .int .u8 0, .int .u8 0, .int .u8 0, .int .u8 0, .int .u8 0, .int .u8 0, .int .u8 0, .int .u8 0, .int .u8 0, .int .u8 0, .int .u8 0, .int .u8 0, .int .u8 0, .int .u8 0, .int .u8 0, .int .u8 0, .int .u8 0, .int .u8 0, .int .u8 0, .int .u8 0] 29) = w15 := hw
              rw [hw] at al
              rw [hw']
              have Y15 := Lib.hid (Y14.out.below al)
              have O15 := Lib.hid (O14.out.below al)
              have SA15 := Lib.hid (Nat.le_trans SA14.out al.size)
              have Z15 : Hid (RowV w15 w14.heap.size 29 32 (fun _ => vB 0)) := Lib.hid (by rw [← hw]; exact RowV.new w14 29 32 (fun _ => vB 0))
              have SV := Lib.hid B14.out.size
              have N15 := Lib.hid (O14.out.ne_later (B := w14.heap.size) (Nat.le_refl _))
              have B15 := Lib.hid (B14.out.trans (al.mono B14.out.size))
              clear hK K B14 Y14 O14 SA14 al hw hw'
              refine Tr.plan_one 8 rfl (fun K hK => ?_)
              refine wpList_append_bytes rfl (.tmp 71) (.tmp 76) rfl w13.heap.size vA (.slice (some ⟨w12.heap.size, 0, none⟩) 1 1) _ [z] rfl rfl O15.out Y15.out (by rw [KL.out, List.length_singleton]; decide) SA15.out ?_
              intro vC w16 hO hb hg
              go_wp2_with fail
              refine hK _ _ (hb.out.mono SB.out) ?_
              have Z16 := Lib.hid (Z15.out.grown hg.out N15.out)
              have O16 := Lib.hid hO.out
              have B16 := Lib.hid (B15.out.trans (hb.out.mono SB.out))
              clear hK K B15 Z15 N15 hO hb hg Y15 O15 SA15
              refine Tr.plan_one 9 rfl (fun K hK => ?_)
              go_wp2_with fail
              refine (HT2.out _ _ (O16.out.bytesAt (by rw [List.length_append, KL.out, List.length_singleton]; decide)) (T10.out.below B16.out)).mono ?_
              rintro e w17 ⟨rfl, b⟩
              go_wp2_with fail
              refine hK _ _ (b.mono B16.out.size) ?_
              have Z17 := Lib.hid (Z16.out.below b)
              have B17 := Lib.hid (B16.out.trans (b.mono B16.out.size))
              clear hK K B16 Z16 b O16
              refine Tr.plan_one 11 rfl (fun K hK => ?_)
              refine wpList_store_rowV (o := ⟨none, .store 29 (.tmp 19) (.tmp 78), _, _, _, _⟩) rfl 29 (.tmp 19) (.tmp 78) rfl w14.heap.size rfl 32 29 _ g2 rfl Z17.out (by kernel_rfl) G2.out ?_
              intro w18 R18 o18
              refine (show wpList _ _ _ [] _ _ from hK _ _ (o18.out.below SV.out B17.out.size) ?_)
              have B18 := Lib.hid (B17.out.trans (o18.out.below SV.out B17.out.size))
              clear hK K B17 o18
              refine Tr.plan_done (l := []) rfl (fun K hK => ?_)
              go_wp2_with fail
              go_meet
              refine ⟨_, rfl, R18.out, B18.out⟩
          · skip
            go_wp2_with fail
            have al := (Below.refl _ w13).alloc (Nat.le_refl _) (.cells (rowF 32 (fun _ => vB 0)) 29)
            refine hK _ _ (al.mono B13.out.size) ?_
            obtain ⟨w14, hw⟩ : ∃ y, w13.alloc (.cells (rowF 32 (fun _ => vB 0)) 29) = y := ⟨_, rfl⟩
            have hw' : w13.alloc (.cells #[.int .u8 0, .int .u8 0, .int .u8 0, .int .u8 0, .int .u8 0, .int .u8 0, .int .u8 0, .int .u8 0, .int .u8 0, .int .u8 0, .int .u8 0, .int .u8 0, .int .u8 0, .int .u8 0, .int .u8 0, .int .u8 0, .int .u8 0, .int .u8 0, .int .u8 0, .int .u8 0, .int .u8 0, .int .u8 0, .int .u8 0, .int .u8 0, .int .u8 0, .int .u8 0, .int .u8 0, .int .u8 0, .int .u8 0, .int .u8 0, .int .u8 0, .int .u8 0] 29) = w14 := hw
            rw [hw] at al
            rw [hw']
            have Y14 := Lib.hid (Y13.out.below al)
            have Z14 : Hid (RowV w14 w13.heap.size 29 32 (fun _ => vB 0)) := Lib.hid (by rw [← hw]; exact RowV.new w13 29 32 (fun _ => vB 0))
            have SV := Lib.hid B13.out.size
            have B14 := Lib.hid (B13.out.trans (al.mono B13.out.size))
            clear hK K B13 Y13 al hw hw'
            refine Tr.plan_one 2 rfl (fun K hK => ?_)
            refine wpList_append_fresh rfl (.tmp 69) (.tmp 70) rfl w11.heap.size (.slice (some ⟨w6.heap.size, 0, none⟩) 32 32) _ rfl rfl (KB11.out.below B14.out) (by rw [KL.out]; decide) (by rw [KL.out]; decide) ?_
            intro vA w15 hO hb
            go_wp2_with fail
            refine hK _ _ (hb.out.mono B14.out.size) ?_
            have Y15 := Lib.hid (Y14.out.below hb.out)
            have Z15 := Lib.hid (Z14.out.below hb.out)
            have N15 := Lib.hid (hO.out.ne_before (B := w13.heap.size) Z14.out.lt)
            have O15 := Lib.hid hO.out
            have SA15 := Lib.hid hb.out.size
            have SB := Lib.hid B14.out.size
            have B15 := Lib.hid (B14.out.trans (hb.out.mono B14.out.size))
            clear hK K B14 Y14 Z14 hO hb
            refine Tr.plan_one 8 rfl (fun K hK => ?_)
            refine wpList_append_bytes rfl (.tmp 71) (.tmp 76) rfl w14.heap.size vA (.slice (some ⟨w12.heap.size, 0, none⟩) 1 1) _ [z] rfl rfl O15.out Y15.out (by rw [KL.out, List.length_singleton]; decide) SA15.out ?_
            intro vC w16 hO hb hg
            go_wp2_with fail
            refine hK _ _ (hb.out.mono SB.out) ?_
            have Z16 := Lib.hid (Z15.out.grown hg.out N15.out)
            have O16 := Lib.hid hO.out
            have B16 := Lib.hid (B15.out.trans (hb.out.mono SB.out))
            clear hK K B15 Z15 N15 hO hb hg Y15 O15 SA15
            refine Tr.plan_one 9 rfl (fun K hK => ?_)
            go_wp2_with fail
            refine (HT2.out _ _ (O16.out.bytesAt (by rw [List.length_append, KL.out, List.length_singleton]; decide)) (T10.out.below B16.out)).mono ?_
            rintro e w17 ⟨rfl, b⟩
            go_wp2_with fail
            refine hK _ _ (b.mono B16.out.size) ?_
            have Z17 := Lib.hid (Z16.out.below b)
            have B17 := Lib.hid (B16.out.trans (b.mono B16.out.size))
            clear hK K B16 Z16 b O16
            refine Tr.plan_one 11 rfl (fun K hK => ?_)
            refine wpList_store_rowV (o := ⟨none, .store 29 (.tmp 19) (.tmp 78), _, _, _, _⟩) rfl 29 (.tmp 19) (.tmp 78) rfl w13.heap.size rfl 32 29 _ g2 rfl Z17.out (by kernel_rfl) G2.out ?_
            intro w18 R18 o18
            refine (show wpList _ _ _ [] _ _ from hK _ _ (o18.out.below SV.out B17.out.size) ?_)
            have B18 := Lib.hid (B17.out.trans (o18.out.below SV.out B17.out.size))
            clear hK K B17 o18
            refine Tr.plan_done (l := []) rfl (fun K hK => ?_)
            go_wp2_with fail
            go_meet
            refine ⟨_, rfl, R18.out, B18.out⟩
        · skip
          go_wp2_with fail
          have al := (Below.refl _ w12).alloc (Nat.le_refl _) (.cells (rowF 32 (fun _ => vB 0)) 29)
          refine hK _ _ (al.mono B12.out.size) ?_
          obtain ⟨w13, hw⟩ : ∃ y, w12.alloc (.cells (rowF 32 (fun _ => vB 0)) 29) = y := ⟨_, rfl⟩
          have hw' : w12.alloc (.cells #[.int .u8 0, .int .u8 0, .int .u8 0, .int .u8 0, .int .u8 0, .int .u8 0, .int .u8 0, .int .u8 0, .int .u8 0, .int .u8 0, .int .u8 0, .int .u8 0, .int .u8 0, .int .u8 0, .int .u8 0, .int .u8 0, .int .u8 0, .int .u8 0, .int .u8 0, .int .u8 0, .int .u8 0, .int .u8 0, .int .u8 0, .int .u8 0, .int .u8 0, .int .u8 0, .int .u8 0, .int .u8 0, .int .u8 0, .int .u8 0, .int .u8 0, .int .u8 0] 29) = w13 := hw
          rw [hw] at al
          rw [hw']
          have Z13 : Hid (RowV w13 w12.heap.size 29 32 (fun _ => vB 0)) := Lib.hid (by rw [← hw]; exact RowV.new w12 29 32 (fun _ => vB 0))
          have SV := Lib.hid B12.out.size
          have B13 := Lib.hid (B12.out.trans (al.mono B12.out.size))
          clear hK K B12 al hw hw'
          refine Tr.plan_two 2 7 rfl rfl (fun K hK => ?_) (fun K hK => ?_)
          · skip
            refine wpList_append_fresh rfl (.tmp 69) (.tmp 70) rfl w11.heap.size (.slice (some ⟨w6.heap.size, 0, none⟩) 32 32) _ rfl rfl (KB11.out.below B13.out) (by rw [KL.out]; decide) (by rw [KL.out]; decide) ?_
            intro vA w14 hO hb
            go_wp2_with fail
            refine hK _ _ (hb.out.mono B13.out.size) ?_
            have Z14 := Lib.hid (Z13.out.below hb.out)
            have N14 := Lib.hid (hO.out.ne_before (B := w12.heap.size) Z13.out.lt)
            have O14 := Lib.hid hO.out
            have SA14 := Lib.hid hb.out.size
            have SB := Lib.hid B13.out.size
            have B14 := Lib.hid (B13.out.trans (hb.out.mono B13.out.size))
            clear hK K B13 Z13 hO hb
            refine Tr.plan_one 7 rfl (fun K hK => ?_)
            go_wp2_with fail
            have al := (Below.refl _ w14).alloc (Nat.le_refl _) (.cells #[vB z] 5)
            refine hK _ _ (al.mono B14.out.size) ?_
            obtain ⟨w15, hw⟩ : ∃ y, w14.alloc (.cells #[vB z] 5) = y := ⟨_, rfl⟩
            have hw' : w14.alloc (.cells #[vB z] 5) = w15 := hw
            rw [hw] at al
            rw [hw']
            have Z15 := Lib.hid (Z14.out.below al)
            have O15 := Lib.hid (O14.out.below al)
            have N15 := Lib.hid (N14.out)
            have SA15 := Lib.hid (Nat.le_trans SA14.out al.size)
            have Y15 : Hid (BytesAt w15 (.slice (some ⟨w14.heap.size, 0, none⟩) 1 1) [z]) := Lib.hid (by rw [← hw]; exact one_byte w14 z)
            have B15 := Lib.hid (B14.out.trans (al.mono B14.out.size))
            clear hK K B14 Z14 O14 N14 SA14 al hw hw'
            refine Tr.plan_one 8 rfl (fun K hK => ?_)
            refine wpList_append_bytes rfl (.tmp 71) (.tmp 76) rfl w13.heap.size vA (.slice (some ⟨w14.heap.size, 0, none⟩) 1 1) _ [z] rfl rfl O15.out Y15.out (by rw [KL.out, List.length_singleton]; decide) SA15.out ?_
            intro vC w16 hO hb hg
            go_wp2_with fail
            refine hK _ _ (hb.out.mono SB.out) ?_
            have Z16 := Lib.hid (Z15.out.grown hg.out N15.out)
            have O16 := Lib.hid hO.out
            have B16 := Lib.hid (B15.out.trans (hb.out.mono SB.out))
            clear hK K B15 Z15 N15 hO hb hg Y15 O15 SA15
            refine Tr.plan_one 9 rfl (fun K hK => ?_)
            go_wp2_with fail
            refine (HT2.out _ _ (O16.out.bytesAt (by rw [List.length_append, KL.out, List.length_singleton]; decide)) (T10.out.below B16.out)).mono ?_
            rintro e w17 ⟨rfl, b⟩
            go_wp2_with fail
            refine hK _ _ (b.mono B16.out.size) ?_
            have Z17 := Lib.hid (Z16.out.below b)
            have B17 := Lib.hid (B16.out.trans (b.mono B16.out.size))
            clear hK K B16 Z16 b O16
            refine Tr.plan_one 11 rfl (fun K hK => ?_)
            refine wpList_store_rowV (o := ⟨none, .store 29 (.tmp 19) (.tmp 78), _, _, _, _⟩) rfl 29 (.tmp 19) (.tmp 78) rfl w12.heap.size rfl 32 29 _ g2 rfl Z17.out (by kernel_rfl) G2.out ?_
            intro w18 R18 o18
            refine (show wpList _ _ _ [] _ _ from hK _ _ (o18.out.below SV.out B17.out.size) ?_)
            have B18 := Lib.hid (B17.out.trans (o18.out.below SV.out B17.out.size))
            clear hK K B17 o18
            refine Tr.plan_done (l := []) rfl (fun K hK => ?_)
            go_wp2_with fail
            go_meet
            refine ⟨_, rfl, R18.out, B18.out⟩
          · skip
            go_wp2_with fail
            have al := (Below.refl _ w13).alloc (Nat.le_refl _) (.cells #[vB z] 5)
            refine hK _ _ (al.mono B13.out.size) ?_
            obtain ⟨w14, hw⟩ : ∃ y, w13.alloc (.cells #[vB z] 5) = y := ⟨_, rfl⟩
            have hw' : w13.alloc (.cells #[vB z] 5) = w14 := hw
            rw [hw] at al
            rw [hw']
            have Z14 := Lib.hid (Z13.out.below al)
            have Y14 : Hid (BytesAt w14 (.slice (some ⟨w13.heap.size, 0, none⟩) 1 1) [z]) := Lib.hid (by rw [← hw]; exact one_byte w13 z)
            have B14 := Lib.hid (B13.out.trans (al.mono B13.out.size))
            clear hK K B13 Z13 al hw hw'
            refine Tr.plan_one 2 rfl (fun K hK => ?_)
            refine wpList_append_fresh rfl (.tmp 69) (.tmp 70) rfl w11.heap.size (.slice (some ⟨w6.heap.size, 0, none⟩) 32 32) _ rfl rfl (KB11.out.below B14.out) (by rw [KL.out]; decide) (by rw [KL.out]; decide) ?_
            intro vA w15 hO hb
            go_wp2_with fail
            refine hK _ _ (hb.out.mono B14.out.size) ?_
            have Y15 := Lib.hid (Y14.out.below hb.out)
            have Z15 := Lib.hid (Z14.out.below hb.out)
            have N15 := Lib.hid (hO.out.ne_before (B := w12.heap.size) Z14.out.lt)
            have O15 := Lib.hid hO.out
            have SA15 := Lib.hid hb.out.size
            have SB := Lib.hid B14.out.size
            have B15 := Lib.hid (B14.out.trans (hb.out.mono B14.out.size))
            clear hK K B14 Y14 Z14 hO hb
            refine Tr.plan_one 8 rfl (fun K hK => ?_)
            refine wpList_append_bytes rfl (.tmp 71) (.tmp 76) rfl w14.heap.size vA (.slice (some ⟨w13.heap.size, 0, none⟩) 1 1) _ [z] rfl rfl O15.out Y15.out (by rw [KL.out, List.length_singleton]; decide) SA15.out ?_
            intro vC w16 hO hb hg
            go_wp2_with fail
            refine hK _ _ (hb.out.mono SB.out) ?_
            have Z16 := Lib.hid (Z15.out.grown hg.out N15.out)
            have O16 := Lib.hid hO.out
            have B16 := Lib.hid (B15.out.trans (hb.out.mono SB.out))
            clear hK K B15 Z15 N15 hO hb hg Y15 O15 SA15
            refine Tr.plan_one 9 rfl (fun K hK => ?_)
            go_wp2_with fail
            refine (HT2.out _ _ (O16.out.bytesAt (by rw [List.length_append, KL.out, List.length_singleton]; decide)) (T10.out.below B16.out)).mono ?_
            rintro e w17 ⟨rfl, b⟩
            go_wp2_with fail
            refine hK _ _ (b.mono B16.out.size) ?_
            have Z17 := Lib.hid (Z16.out.below b)
            have B17 := Lib.hid (B16.out.trans (b.mono B16.out.size))
            clear hK K B16 Z16 b O16
            refine Tr.plan_one 11 rfl (fun K hK => ?_)
            refine wpList_store_rowV (o := ⟨none, .store 29 (.tmp 19) (.tmp 78), _, _, _, _⟩) rfl 29 (.tmp 19) (.tmp 78) rfl w12.heap.size rfl 32 29 _ g2 rfl Z17.out (by kernel_rfl) G2.out ?_
            intro w18 R18 o18
            refine (show wpList _ _ _ [] _ _ from hK _ _ (o18.out.below SV.out B17.out.size) ?_)
            have B18 := Lib.hid (B17.out.trans (o18.out.below SV.out B17.out.size))
            clear hK K B17 o18
            refine Tr.plan_done (l := []) rfl (fun K hK => ?_)
            go_wp2_with fail
            go_meet
            refine ⟨_, rfl, R18.out, B18.out⟩
      · skip
        go_wp2_with fail
        have al := (Below.refl _ w11).alloc (Nat.le_refl _) (.cells #[vB z] 5)
        refine hK _ _ (al.mono B11.out.size) ?_
        obtain ⟨w12, hw⟩ : ∃ y, w11.alloc (.cells #[vB z] 5) = y := ⟨_, rfl⟩
        have hw' : w11.alloc (.cells #[vB z] 5) = w12 := hw
        rw [hw] at al
        rw [hw']
        have Y12 : Hid (BytesAt w12 (.slice (some ⟨w11.heap.size, 0, none⟩) 1 1) [z]) := Lib.hid (by rw [← hw]; exact one_byte w11 z)
        have B12 := Lib.hid (B11.out.trans (al.mono B11.out.size))
        clear hK K B11 al hw hw'
        refine Tr.plan_two 0 10 rfl rfl (fun K hK => ?_) (fun K hK => ?_)
        · skip
          go_wp2_with fail
          have al := (Below.refl _ w12).alloc (Nat.le_refl _) (.cells #[] 5)
          refine hK _ _ (al.mono B12.out.size) ?_
          obtain ⟨w13, hw⟩ : ∃ y, w12.alloc (.cells #[] 5) = y := ⟨_, rfl⟩
          have hw' : w12.alloc (.cells #[] 5) = w13 := hw
          rw [hw] at al
          rw [hw']
          have Y13 := Lib.hid (Y12.out.below al)
          have B13 := Lib.hid (B12.out.trans (al.mono B12.out.size))
          clear hK K B12 Y12 al hw hw'
          refine Tr.plan_two 2 10 rfl rfl (fun K hK => ?_) (fun K hK => ?_)
          · skip
            refine wpList_append_fresh rfl (.tmp 69) (.tmp 70) rfl w12.heap.size (.slice (some ⟨w6.heap.size, 0, none⟩) 32 32) _ rfl rfl (KB11.out.below B13.out) (by rw [KL.out]; decide) (by rw [KL.out]; decide) ?_
            intro vA w14 hO hb
            go_wp2_with fail
            refine hK _ _ (hb.out.mono B13.out.size) ?_
            have Y14 := Lib.hid (Y13.out.below hb.out)
            have O14 := Lib.hid hO.out
            have SA14 := Lib.hid hb.out.size
            have SB := Lib.hid B13.out.size
            have B14 := Lib.hid (B13.out.trans (hb.out.mono B13.out.size))
            clear hK K B13 Y13 hO hb
            refine Tr.plan_two 8 10 rfl rfl (fun K hK => ?_) (fun K hK => ?_)
            · skip
              refine wpList_append_bytes rfl (.tmp 71) (.tmp 76) rfl w13.heap.size vA (.slice (some ⟨w11.heap.size, 0, none⟩) 1 1) _ [z] rfl rfl O14.out Y14.out (by rw [KL.out, List.length_singleton]; decide) SA14.out ?_
              intro vC w15 hO hb hg
              go_wp2_with fail
              refine hK _ _ (hb.out.mono SB.out) ?_
              have O15 := Lib.hid hO.out
              have B15 := Lib.hid (B14.out.trans (hb.out.mono SB.out))
              clear hK K B14 hO hb hg Y14 O14 SA14
              refine Tr.plan_two 9 10 rfl rfl (fun K hK => ?_) (fun K hK => ?_)
              · skip
                go_wp2_with fail
                refine (HT2.out _ _ (O15.out.bytesAt (by rw [List.length_append, KL.out, List.length_singleton]; decide)) (T10.out.below B15.out)).mono ?_
                rintro e w16 ⟨rfl, b⟩
                go_wp2_with fail
                refine hK _ _ (b.mono B15.out.size) ?_
                have B16 := Lib.hid (B15.out.trans (b.mono B15.out.size))
                clear hK K B15 b O15
                refine Tr.plan_one 10 rfl (fun K hK => ?_)
                go_wp2_with fail
                have al := (Below.refl _ w16).alloc (Nat.le_refl _) (.cells (rowF 32 (fun _ => vB 0)) 29)
                refine hK _ _ (al.mono B16.out.size) ?_
                obtain ⟨w17, hw⟩ : ∃ y, w16.alloc (.cells (rowF 32 (fun _ => vB 0)) 29) = y := ⟨_, rfl⟩
                have hw' : w16.alloc (.cells #[.int .u8 0, .int .u8 0, .int .u8 0, .int .u8 0, .int .u8 0, .int .u8 0, .int .u8 0, .int .u8 0, .int .u8 0, .int .u8 0, .int .u8 0, .int .u8 0, .int .u8 0, .int .u8 0, .int .u8 0, .int .u8 0, .int .u8 0, .int .u8 0, .int .u8 0, .int .u8 0, .int .u8 0, .int .u8 0, .int .u8 0, .int .u8 0, .int .u8 0, .int .u8 0, .int .u8 0, .int .u8 0, .int .u8 0, .int .u8 0, .int .u8 0, .int .u8 0] 29) = w17 := hw
                rw [hw] at al
                rw [hw']
                have Z17 : Hid (RowV w17 w16.heap.size 29 32 (fun _ => vB 0)) := Lib.hid (by rw [← hw]; exact RowV.new w16 29 32 (fun _ => vB 0))
                have SV := Lib.hid B16.out.size
                have B17 := Lib.hid (B16.out.trans (al.mono B16.out.size))
                clear hK K B16 al hw hw'
                refine Tr.plan_one 11 rfl (fun K hK => ?_)
                refine wpList_store_rowV (o := ⟨none, .store 29 (.tmp 19) (.tmp 78), _, _, _, _⟩) rfl 29 (.tmp 19) (.tmp 78) rfl w16.heap.size rfl 32 29 _ g2 rfl Z17.out (by kernel_rfl) G2.out ?_
                intro w18 R18 o18
                refine (show wpList _ _ _ [] _ _ from hK _ _ (o18.out.below SV.out B17.out.size) ?_)
                have B18 := Lib.hid (B17.out.trans (o18.out.below SV.out B17.out.size))
                clear hK K B17 o18
                refine Tr.plan_done (l := []) rfl (fun K hK => ?_)
                go_wp2_with fail
                go_meet
                refine ⟨_, rfl, R18.out, B18.out⟩
              · skip
                go_wp2_with fail
                have al := (Below.refl _ w15).alloc (Nat.le_refl _) (.cells (rowF 32 (fun _ => vB 0)) 29)
                refine hK _ _ (al.mono B15.out.size) ?_
                obtain ⟨w16, hw⟩ : ∃ y, w15.alloc (.cells (rowF 32 (fun _ => vB 0)) 29) = y := ⟨_, rfl⟩
                have hw' : w15.alloc (.cells #[.int .u8 0, .int .u8 0, .int .u8 0, .int .u8 0, .int .u8 0, .int .u8 0, .int .u8 0, .int .u8 0, .int .u8 0, .int .u8 0, .int .u8 0, .int .u8 0, .int .u8 0, .int .u8 0, .int .u8 0, .int .u8 0, .int .u8 0, .int .u8 0, .int .u8 0, .int .u8 0, .int .u8 0, .int .u8 0, .int .u8 0, .int .u8 0, .int .u8 0, .int .u8 0, .int .u8 0, .int .u8 0, .int .u8 0, .int .u8 0, .int .u8 0, .int .u8 0] 29) = w16 := hw
                rw [hw] at al
                rw [hw']
                have O16 := Lib.hid (O15.out.below al)
                have Z16 : Hid (RowV w16 w15.heap.size 29 32 (fun _ => vB 0)) := Lib.hid (by rw [← hw]; exact RowV.new w15 29 32 (fun _ => vB 0))
                have SV := Lib.hid B15.out.size
                have N16 := Lib.hid (O15.out.ne_later (B := w15.heap.size) (Nat.le_refl _))
                have B16 := Lib.hid (B15.out.trans (al.mono B15.out.size))
                clear hK K B15 O15 al hw hw'
                refine Tr.plan_one 9 rfl (fun K hK => ?_)
                go_wp2_with fail
                refine (HT2.out _ _ (O16.out.bytesAt (by rw [List.length_append, KL.out, List.length_singleton]; decide)) (T10.out.below B16.out)).mono ?_
                rintro e w17 ⟨rfl, b⟩
                go_wp2_with fail
                refine hK _ _ (b.mono B16.out.size) ?_
                have Z17 := Lib.hid (Z16.out.below b)
                have B17 := Lib.hid (B16.out.trans (b.mono B16.out.size))
                clear hK K B16 Z16 b O16
                refine Tr.plan_one 11 rfl (fun K hK => ?_)
                refine wpList_store_rowV (o := ⟨none, .store 29 (.tmp 19) (.tmp 78), _, _, _, _⟩) rfl 29 (.tmp 19) (.tmp 78) rfl w15.heap.size rfl 32 29 _ g2 rfl Z17.out (by kernel_rfl) G2.out ?_
                intro w18 R18 o18
                refine (show wpList _ _ _ [] _ _ from hK _ _ (o18.out.below SV.out B17.out.size) ?_)
                have B18 := Lib.hid (B17.out.trans (o18.out.below SV.out B17.out.size))
                clear hK K B17 o18
                refine Tr.plan_done (l := []) rfl (fun K hK => ?_)
                go_wp2_with fail
                go_meet
                refine ⟨_, rfl, R18.out, B18.out⟩
            · skip
              go_wp2_with fail
              have al := (Below.refl _ w14).alloc (Nat.le_refl _) (.cells (rowF 32 (fun _ => vB 0)) 29)
              refine hK _ _ (al.mono B14.out.size) ?_
              obtain ⟨w15, hw⟩ : ∃ y, w14.alloc (.cells (rowF 32 (fun _ => vB 0)) 29) = y := ⟨_, rfl⟩
              have hw' : w14.alloc (.cells #[.int .u8 0, .int .u8 0, .int .u8 0, .int .u8 0, .int .u8 0, .int .u8 0, .int .u8 0, .int .u8 0, .int .u8 0, .int .u8 0, .int .u8 0, .int .u8 0, .int .u8 0, .int .u8 0, .int .u8 0, .int .u8 0, .int .u8 0, .int .u8 0, .int .u8 0, .int .u8 0, .int .u8 0, .int .u8 0, .int .u8 0, .int .u8 0, .int .u8 0, .int .u8 0, .int .u8 0, .int .u8 0, .int .u8 0, .int .u8 0, .int .u8 0, .int .u8 0] 29) = w15 := hw
              rw [hw] at al
              rw [hw']
              have Y15 := Lib.hid (Y14.out.below al)
              have O15 := Lib.hid (O14.out.below al)
              have SA15 := Lib.hid (Nat.le_trans SA14.out al.size)
              have Z15 : Hid (RowV w15 w14.heap.size 29 32 (fun _ => vB 0)) := Lib.hid (by rw [← hw]; exact RowV.new w14 29 32 (fun _ => vB 0))
              have SV := Lib.hid B14.out.size
              have N15 := Lib.hid (O14.out.ne_later (B := w14.heap.size) (Nat.le_refl _))
              have B15 := Lib.hid (B14.out.trans (al.mono B14.out.size))
              clear hK K B14 Y14 O14 SA14 al hw hw'
              refine Tr.plan_one 8 rfl (fun K hK => ?_)
              refine wpList_append_bytes rfl (.tmp 71) (.tmp 76) rfl w13.heap.size vA (.slice (some ⟨w11.heap.size, 0, none⟩) 1 1) _ [z] rfl rfl O15.out Y15.out (by rw [KL.out, List.length_singleton]; decide) SA15.out ?_
              intro vC w16 hO hb hg
              go_wp2_with fail
              refine hK _ _ (hb.out.mono SB.out) ?_
              have Z16 := Lib.hid (Z15.out.grown hg.out N15.out)
              have O16 := Lib.hid hO.out
              have B16 := Lib.hid (B15.out.trans (hb.out.mono SB.out))
              clear hK K B15 Z15 N15 hO hb hg Y15 O15 SA15
              refine Tr.plan_one 9 rfl (fun K hK => ?_)
              go_wp2_with fail
              refine (HT2.out _ _ (O16.out.bytesAt (by rw [List.length_append, KL.out, List.length_singleton]; decide)) (T10.out.below B16.out)).mono ?_
              rintro e w17 ⟨rfl, b⟩
              go_wp2_with fail
              refine hK _ _ (b.mono B16.out.size) ?_
              have Z17 := Lib.hid (Z16.out.below b)
              have B17 := Lib.hid (B16.out.trans (b.mono B16.out.size))
              clear hK K B16 Z16 b O16
              refine Tr.plan_one 11 rfl (fun K hK => ?_)
              refine wpList_store_rowV (o := ⟨none, .store 29 (.tmp 19) (.tmp 78), _, _, _, _⟩) rfl 29 (.tmp 19) (.tmp 78) rfl w14.heap.size rfl 32 29 _ g2 rfl Z17.out (by kernel_rfl) G2.out ?_
              intro w18 R18 o18
              refine (show wpList _ _ _ [] _ _ from hK _ _ (o18.out.below SV.out B17.out.size) ?_)
              have B18 := Lib.hid (B17.out.trans (o18.out.below SV.out B17.out.size))
              clear hK K B17 o18
              refine Tr.plan_done (l := []) rfl (fun K hK => ?_)
              go_wp2_with fail
              go_meet
              refine ⟨_, rfl, R18.out, B18.out⟩
          · skip
            go_wp2_with fail
            have al := (Below.refl _ w13).alloc (Nat.le_refl _) (.cells (rowF 32 (fun _ => vB 0)) 29)
            refine hK _ _ (al.mono B13.out.size) ?_
            obtain ⟨w14, hw⟩ : ∃ y, w13.alloc (.cells (rowF 32 (fun _ => vB 0)) 29) = y := ⟨_, rfl⟩
            have hw' : w13.alloc (.cells #[.int .u8 0, .int .u8 0, .int .u8 0, .int .u8 0, .int .u8 0, .int .u8 0, .int .u8 0, .int .u8 0, .int .u8 0, .int .u8 0, .int .u8 0, .int .u8 0, .int .u8 0, .int .u8 0, .int .u8 0, .int .u8 0, .int .u8 0, .int .u8 0, .int .u8 0, .int .u8 0, .int .u8 0, .int .u8 0, .int .u8 0, .int .u8 0, .int .u8 0, .int .u8 0, .int .u8 0, .int .u8 0, .int .u8 0, .int .u8 0, .int .u8 0, .int .u8 0] 29) = w14 := hw
            rw [hw] at al
            rw [hw']
            have Y14 := Lib.hid (Y13.out.below al)
            have Z14 : Hid (RowV w14 w13.heap.size 29 32 (fun _ => vB 0)) := Lib.hid (by rw [← hw]; exact RowV.new w13 29 32 (fun _ => vB 0))
            have SV := Lib.hid B13.out.size
            have B14 := Lib.hid (B13.out.trans (al.mono B13.out.size))
            clear hK K B13 Y13 al hw hw'
            refine Tr.plan_one 2 rfl (fun K hK => ?_)
            refine wpList_append_fresh rfl (.tmp 69) (.tmp 70) rfl w12.heap.size (.slice (some ⟨w6.heap.size, 0, none⟩) 32 32) _ rfl rfl (KB11.out.below B14.out) (by rw [KL.out]; decide) (by rw [KL.out]; decide) ?_
            intro vA w15 hO hb
            go_wp2_with fail
            refine hK _ _ (hb.out.mono B14.out.size) ?_
            have Y15 := Lib.hid (Y14.out.below hb.out)
            have Z15 := Lib.hid (Z14.out.below hb.out)
            have N15 := Lib.hid (hO.out.ne_before (B := w13.heap.size) Z14.out.lt)
            have O15 := Lib.hid hO.out
            have SA15 := Lib.hid hb.out.size
            have SB := Lib.hid B14.out.size
            have B15 := Lib.hid (B14.out.trans (hb.out.mono B14.out.size))
            clear hK K B14 Y14 Z14 hO hb
            refine Tr.plan_one 8 rfl (fun K hK => ?_)
            refine wpList_append_bytes rfl (.tmp 71) (.tmp 76) rfl w14.heap.size vA (.slice (some ⟨w11.heap.size, 0, none⟩) 1 1) _ [z] rfl rfl O15.out Y15.out (by rw [KL.out, List.length_singleton]; decide) SA15.out ?_
            intro vC w16 hO hb hg
            go_wp2_with fail
            refine hK _ _ (hb.out.mono SB.out) ?_
            have Z16 := Lib.hid (Z15.out.grown hg.out N15.out)
            have O16 := Lib.hid hO.out
            have B16 := Lib.hid (B15.out.trans (hb.out.mono SB.out))
            clear hK K B15 Z15 N15 hO hb hg Y15 O15 SA15
            refine Tr.plan_one 9 rfl (fun K hK => ?_)
            go_wp2_with fail
            refine (HT2.out _ _ (O16.out.bytesAt (by rw [List.length_append, KL.out, List.length_singleton]; decide)) (T10.out.below B16.out)).mono ?_
            rintro e w17 ⟨rfl, b⟩
            go_wp2_with fail
            refine hK _ _ (b.mono B16.out.size) ?_
            have Z17 := Lib.hid (Z16.out.below b)
            have B17 := Lib.hid (B16.out.trans (b.mono B16.out.size))
            clear hK K B16 Z16 b O16
            refine Tr.plan_one 11 rfl (fun K hK => ?_)
            refine wpList_store_rowV (o := ⟨none, .store 29 (.tmp 19) (.tmp 78), _, _, _, _⟩) rfl 29 (.tmp 19) (.tmp 78) rfl w13.heap.size rfl 32 29 _ g2 rfl Z17.out (by kernel_rfl) G2.out ?_
            intro w18 R18 o18
            refine (show wpList _ _ _ [] _ _ from hK _ _ (o18.out.below SV.out B17.out.size) ?_)
            have B18 := Lib.hid (B17.out.trans (o18.out.below SV.out B17.out.size))
            clear hK K B17 o18
            refine Tr.plan_done (l := []) rfl (fun K hK => ?_)
            go_wp2_with fail
            go_meet
            refine ⟨_, rfl, R18.out, B18.out⟩
        · skip
          go_wp2_with fail
          have al := (Below.refl _ w12).alloc (Nat.le_refl _) (.cells (rowF 32 (fun _ => vB 0)) 29)
          refine hK _ _ (al.mono B12.out.size) ?_
          obtain ⟨w13, hw⟩ : ∃ y, w12.alloc (.cells (rowF 32 (fun _ => vB 0)) 29) = y := ⟨_, rfl⟩
          have hw' : w12.alloc (.cells #[.int .u8 0, .int .u8 0, .int .u8 0, .int .u8 0, .int .u8 0, .int .u8 0, .int .u8 0, .int .u8 0, .int .u8 0, .int .u8 0, .int .u8 0, .int .u8 0, .int .u8 0, .int .u8 0, .int .u8 0, .int .u8 0, .int .u8 0, .int .u8 0, .int .u8 0, .int .u8 0, .int .u8 0, .int .u8 0, .int .u8 0, .int .u8 0, .int .u8 0, .int .u8 0, .int .u8 0, .int .u8 0, .int .u8 0, .int .u8 0, .int .u8 0, .int .u8 0] 29) = w13 := hw
          rw [hw] at al
          rw [hw']
          have Y13 := Lib.hid (Y12.out.below al)
          have Z13 : Hid (RowV w13 w12.heap.size 29 32 (fun _ => vB 0)) := Lib.hid (by rw [← hw]; exact RowV.new w12 29 32 (fun _ => vB 0))
          have SV := Lib.hid B12.out.size
          have B13 := Lib.hid (B12.out.trans (al.mono B12.out.size))
          clear hK K B12 Y12 al hw hw'
          refine Tr.plan_one 0 rfl (fun K hK => ?_)
          go_wp2_with fail
          have al := (Below.refl _ w13).alloc (Nat.le_refl _) (.cells #[] 5)
          refine hK _ _ (al.mono B13.out.size) ?_
          obtain ⟨w14, hw⟩ : ∃ y, w13.alloc (.cells #[] 5) = y := ⟨_, rfl⟩
          have hw' : w13.alloc (.cells #[] 5) = w14 := hw
          rw [hw] at al
          rw [hw']
          have Y14 := Lib.hid (Y13.out.below al)
          have Z14 := Lib.hid (Z13.out.below al)
          have B14 := Lib.hid (B13.out.trans (al.mono B13.out.size))
          clear hK K B13 Y13 Z13 al hw hw'
          refine Tr.plan_one 2 rfl (fun K hK => ?_)
          refine wpList_append_fresh rfl (.tmp 69) (.tmp 70) rfl w13.heap.size (.slice (some ⟨w6.heap.size, 0, none⟩) 32 32) _ rfl rfl (KB11.out.below B14.out) (by rw [KL.out]; decide) (by rw [KL.out]; decide) ?_
          intro vA w15 hO hb
          go_wp2_with fail
          refine hK _ _ (hb.out.mono B14.out.size) ?_
          have Y15 := Lib.hid (Y14.out.below hb.out)
          have Z15 := Lib.hid (Z14.out.below hb.out)
          have N15 := Lib.hid (hO.out.ne_before (B := w12.heap.size) Z14.out.lt)
          have O15 := Lib.hid hO.out
          have SA15 := Lib.hid hb.out.size
          have SB := Lib.hid B14.out.size
          have B15 := Lib.hid (B14.out.trans (hb.out.mono B14.out.size))
          clear hK K B14 Y14 Z14 hO hb
          refine Tr.plan_one 8 rfl (fun K hK => ?_)
          refine wpList_append_bytes rfl (.tmp 71) (.tmp 76) rfl w14.heap.size vA (.slice (some ⟨w11.heap.size, 0, none⟩) 1 1) _ [z] rfl rfl O15.out Y15.out (by rw [KL.out, List.length_singleton]; decide) SA15.out ?_
          intro vC w16 hO hb hg
          go_wp2_with fail
          refine hK _ _ (hb.out.mono SB.out) ?_
          have Z16 := Lib.hid (Z15.out.grown hg.out N15.out)
          have O16 := Lib.hid hO.out
          have B16 := Lib.hid (B15.out.trans (hb.out.mono SB.out))
          clear hK K B15 Z15 N15 hO hb hg Y15 O15 SA15
          refine Tr.plan_one 9 rfl (fun K hK => ?_)
          go_wp2_with fail
          refine (HT2.out _ _ (O16.out.bytesAt (by rw [List.length_append, KL.out, List.length_singleton]; decide)) (T10.out.below B16.out)).mono ?_
          rintro e w17 ⟨rfl, b⟩
          go_wp2_with fail
          refine hK _ _ (b.mono B16.out.size) ?_
          have Z17 := Lib.hid (Z16.out.below b)
          have B17 := Lib.hid (B16.out.trans (b.mono B16.out.size))
          clear hK K B16 Z16 b O16
          refine Tr.plan_one 11 rfl (fun K hK => ?_)
          refine wpList_store_rowV (o := ⟨none, .store 29 (.tmp 19) (.tmp 78), _, _, _, _⟩) rfl 29 (.tmp 19) (.tmp 78) rfl w12.heap.size rfl 32 29 _ g2 rfl Z17.out (by kernel_rfl) G2.out ?_
          intro w18 R18 o18
          refine (show wpList _ _ _ [] _ _ from hK _ _ (o18.out.below SV.out B17.out.size) ?_)
          have B18 := Lib.hid (B17.out.trans (o18.out.below SV.out B17.out.size))
          clear hK K B17 o18
          refine Tr.plan_done (l := []) rfl (fun K hK => ?_)
          go_wp2_with fail
          go_meet
          refine ⟨_, rfl, R18.out, B18.out⟩
      · skip
        go_wp2_with fail
        have al := (Below.refl _ w11).alloc (Nat.le_refl _) (.cells (rowF 32 (fun _ => vB 0)) 29)
        refine hK _ _ (al.mono B11.out.size) ?_
        obtain ⟨w12, hw⟩ : ∃ y, w11.alloc (.cells (rowF 32 (fun _ => vB 0)) 29) = y := ⟨_, rfl⟩
        have hw' : w11.alloc (.cells #[.int .u8 0, .int .u8 0, .int .u8 0, .int .u8 0, .int .u8 0, .int .u8 0, .int .u8 0, .int .u8 0, .int .u8 0, .int .u8 0, .int .u8 0, .int .u8 0, .int .u8 0, .int .u8 0, .int .u8 0, .int .u8 0, .int .u8 0, .int .u8 0, .int .u8 0, .int .u8 0, .int .u8 0, .int .u8 0, .int .u8 0, .int .u8 0, .int .u8 0, .int .u8 0, .int .u8 0, .int .u8 0, .int .u8 0, .int .u8 0, .int .u8 0, .int .u8 0] 29) = w12 := hw
        rw [hw] at al
        rw [hw']
        have Z12 : Hid (RowV w12 w11.heap.size 29 32 (fun _ => vB 0)) := Lib.hid (by rw [← hw]; exact RowV.new w11 29 32 (fun _ => vB 0))
        have SV := Lib.hid B11.out.size
        have B12 := Lib.hid (B11.out.trans (al.mono B11.out.size))
        clear hK K B11 al hw hw'
        refine Tr.plan_two 0 7 rfl rfl (fun K hK => ?_) (fun K hK => ?_)
        · skip
          go_wp2_with fail
          have al := (Below.refl _ w12).alloc (Nat.le_refl _) (.cells #[] 5)
          refine hK _ _ (al.mono B12.out.size) ?_
          obtain ⟨w13, hw⟩ : ∃ y, w12.alloc (.cells #[] 5) = y := ⟨_, rfl⟩
          have hw' : w12.alloc (.cells #[] 5) = w13 := hw
          rw [hw] at al
          rw [hw']
          have Z13 := Lib.hid (Z12.out.below al)
          have B13 := Lib.hid (B12.out.trans (al.mono B12.out.size))
          clear hK K B12 Z12 al hw hw'
          refine Tr.plan_two 2 7 rfl rfl (fun K hK => ?_) (fun K hK => ?_)
          · skip
            refine wpList_append_fresh rfl (.tmp 69) (.tmp 70) rfl w12.heap.size (.slice (some ⟨w6.heap.size, 0, none⟩) 32 32) _ rfl rfl (KB11.out.below B13.out) (by rw [KL.out]; decide) (by rw [KL.out]; decide) ?_
            intro vA w14 hO hb
            go_wp2_with fail
            refine hK _ _ (hb.out.mono B13.out.size) ?_
            have Z14 := Lib.hid (Z13.out.below hb.out)
            have N14 := Lib.hid (hO.out.ne_before (B := w11.heap.size) Z13.out.lt)
            have O14 := Lib.hid hO.out
            have SA14 := Lib.hid hb.out.size
            have SB := Lib.hid B13.out.size
            have B14 := Lib.hid (B13.out.trans (hb.out.mono B13.out.size))
            clear hK K B13 Z13 hO hb
            refine Tr.plan_one 7 rfl (fun K hK => ?_)
            go_wp2_with fail
            have al := (Below.refl _ w14).alloc (Nat.le_refl _) (.cells #[vB z] 5)
            refine hK _ _ (al.mono B14.out.size) ?_
            obtain ⟨w15, hw⟩ : ∃ y, w14.alloc (.cells #[vB z] 5) = y := ⟨_, rfl⟩
            have hw' : w14.alloc (.cells #[vB z] 5) = w15 := hw
            rw [hw] at al
            rw [hw']
            have Z15 := Lib.hid (Z14.out.below al)
            have O15 := Lib.hid (O14.out.below al)
            have N15 := Lib.hid (N14.out)
            have SA15 := Lib.hid (Nat.le_trans SA14.out al.size)
            have Y15 : Hid (BytesAt w15 (.slice (some ⟨w14.heap.size, 0, none⟩) 1 1) [z]) := Lib.hid (by rw [← hw]; exact one_byte w14 z)
            have B15 := Lib.hid (B14.out.trans (al.mono B14.out.size))
            clear hK K B14 Z14 O14 N14 SA14 al hw hw'
            refine Tr.plan_one 8 rfl (fun K hK => ?_)
            refine wpList_append_bytes rfl (.tmp 71) (.tmp 76) rfl w13.heap.size vA (.slice (some ⟨w14.heap.size, 0, none⟩) 1 1) _ [z] rfl rfl O15.out Y15.out (by rw [KL.out, List.length_singleton]; decide) SA15.out ?_
            intro vC w16 hO hb hg
            go_wp2_with fail
            refine hK _ _ (hb.out.mono SB.out) ?_
            have Z16 := Lib.hid (Z15.out.grown hg.out N15.out)
            have O16 := Lib.hid hO.out
            have B16 := Lib.hid (B15.out.trans (hb.out.mono SB.out))
            clear hK K B15 Z15 N15 hO hb hg Y15 O15 SA15
            refine Tr.plan_one 9 rfl (fun K hK => ?_)
            go_wp2_with fail
            refine (HT2.out _ _ (O16.out.bytesAt (by rw [List.length_append, KL.out, List.length_singleton]; decide)) (T10.out.below B16.out)).mono ?_
            rintro e w17 ⟨rfl, b⟩
            go_wp2_with fail
            refine hK _ _ (b.mono B16.out.size) ?_
            have Z17 := Lib.hid (Z16.out.below b)
            have B17 := Lib.hid (B16.out.trans (b.mono B16.out.size))
            clear hK K B16 Z16 b O16
            refine Tr.plan_one 11 rfl (fun K hK => ?_)
            refine wpList_store_rowV (o := ⟨none, .store 29 (.tmp 19) (.tmp 78), _, _, _, _⟩) rfl 29 (.tmp 19) (.tmp 78) rfl w11.heap.size rfl 32 29 _ g2 rfl Z17.out (by kernel_rfl) G2.out ?_
            intro w18 R18 o18
            refine (show wpList _ _ _ [] _ _ from hK _ _ (o18.out.below SV.out B17.out.size) ?_)
            have B18 := Lib.hid (B17.out.trans (o18.out.below SV.out B17.out.size))
            clear hK K B17 o18
            refine Tr.plan_done (l := []) rfl (fun K hK => ?_)
            go_wp2_with fail
            go_meet
            refine ⟨_, rfl, R18.out, B18.out⟩
          · skip
            go_wp2_with fail
            have al := (Below.refl _ w13).alloc (Nat.le_refl _) (.cells #[vB z] 5)
            refine hK _ _ (al.mono B13.out.size) ?_
            obtain ⟨w14, hw⟩ : ∃ y, w13.alloc (.cells #[vB z] 5) = y := ⟨_, rfl⟩
            have hw' : w13.alloc (.cells #[vB z] 5) = w14 := hw
            rw [hw] at al
            rw [hw']
            have Z14 := Lib.hid (Z13.out.below al)
            have Y14 : Hid (BytesAt w14 (.slice (some ⟨w13.heap.size, 0, none⟩) 1 1) [z]) := Lib.hid (by rw [← hw]; exact one_byte w13 z)
            have B14 := Lib.hid (B13.out.trans (al.mono B13.out.size))
            clear hK K B13 Z13 al hw hw'
            refine Tr.plan_one 2 rfl (fun K hK => ?_)
            refine wpList_append_fresh rfl (.tmp 69) (.tmp 70) rfl w12.heap.size (.slice (some ⟨w6.heap.size, 0, none⟩) 32 32) _ rfl rfl (KB11.out.below B14.out) (by rw [KL.out]; decide) (by rw [KL.out]; decide) ?_
            intro vA w15 hO hb
            go_wp2_with fail
            refine hK _ _ (hb.out.mono B14.out.size) ?_
            have Y15 := Lib.hid (Y14.out.below hb.out)
            have Z15 := Lib.hid (Z14.out.below hb.out)
            have N15 := Lib.hid (hO.out.ne_before (B := w11.heap.size) Z14.out.lt)
            have O15 := Lib.hid hO.out
            have SA15 := Lib.hid hb.out.size
            have SB := Lib.hid B14.out.size
            have B15 := Lib.hid (B14.out.trans (hb.out.mono B14.out.size))
            clear hK K B14 Y14 Z14 hO hb
            refine Tr.plan_one 8 rfl (fun K hK => ?_)
            refine wpList_append_bytes rfl (.tmp 71) (.tmp 76) rfl w14.heap.size vA (.slice (some ⟨w13.heap.size, 0, none⟩) 1 1) _ [z] rfl rfl O15.out Y15.out (by rw [KL.out, List.length_singleton]; decide) SA15.out ?_
            intro vC w16 hO hb hg
            go_wp2_with fail
            refine hK _ _ (hb.out.mono SB.out) ?_
            have Z16 := Lib.hid (Z15.out.grown hg.out N15.out)
            have O16 := Lib.hid hO.out
            have B16 := Lib.hid (B15.out.trans (hb.out.mono SB.out))
            clear hK K B15 Z15 N15 hO hb hg Y15 O15 SA15
            refine Tr.plan_one 9 rfl (fun K hK => ?_)
            go_wp2_with fail
            refine (HT2.out _ _ (O16.out.bytesAt (by rw [List.length_append, KL.out, List.length_singleton]; decide)) (T10.out.below B16.out)).mono ?_
            rintro e w17 ⟨rfl, b⟩
            go_wp2_with fail
            refine hK _ _ (b.mono B16.out.size) ?_
            have Z17 := Lib.hid (Z16.out.below b)
            have B17 := Lib.hid (B16.out.trans (b.mono B16.out.size))
            clear hK K B16 Z16 b O16
            refine Tr.plan_one 11 rfl (fun K hK => ?_)
            refine wpList_store_rowV (o := ⟨none, .store 29 (.tmp 19) (.tmp 78), _, _, _, _⟩) rfl 29 (.tmp 19) (.tmp 78) rfl w11.heap.size rfl 32 29 _ g2 rfl Z17.out (by kernel_rfl) G2.out ?_
            intro w18 R18 o18
            refine (show wpList _ _ _ [] _ _ from hK _ _ (o18.out.below SV.out B17.out.size) ?_)
            have B18 := Lib.hid (B17.out.trans (o18.out.below SV.out B17.out.size))
            clear hK K B17 o18
            refine Tr.plan_done (l := []) rfl (fun K hK => ?_)
            go_wp2_with fail
            go_meet
            refine ⟨_, rfl, R18.out, B18.out⟩
        · skip
          go_wp2_with fail
          have al := (Below.refl _ w12).alloc (Nat.le_refl _) (.cells #[vB z] 5)
          refine hK _ _ (al.mono B12.out.size) ?_
          obtain ⟨w13, hw⟩ : ∃ y, w12.alloc (.cells #[vB z] 5) = y := ⟨_, rfl⟩
          have hw' : w12.alloc (.cells #[vB z] 5) = w13 := hw
          rw [hw] at al
          rw [hw']
          have Z13 := Lib.hid (Z12.out.below al)
          have Y13 : Hid (BytesAt w13 (.slice (some ⟨w12.heap.size, 0, none⟩) 1 1) [z]) := Lib.hid (by rw [← hw]; exact one_byte w12 z)
          have B13 := Lib.hid (B12.out.trans (al.mono B12.out.size))
          clear hK K B12 Z12 al hw hw'
          refine Tr.plan_one 0 rfl (fun K hK => ?_)
          go_wp2_with fail
          have al := (Below.refl _ w13).alloc (Nat.le_refl _) (.cells #[] 5)
          refine hK _ _ (al.mono B13.out.size) ?_
          obtain ⟨w14, hw⟩ : ∃ y, w13.alloc (.cells #[] 5) = y := ⟨_, rfl⟩
          have hw' : w13.alloc (.cells #[] 5) = w14 := hw
          rw [hw] at al
          rw [hw']
          have Y14 := Lib.hid (Y13.out.below al)
          have Z14 := Lib.hid (Z13.out.below al)
          have B14 := Lib.hid (B13.out.trans (al.mono B13.out.size))
          clear hK K B13 Y13 Z13 al hw hw'
          refine Tr.plan_one 2 rfl (fun K hK => ?_)
          refine wpList_append_fresh rfl (.tmp 69) (.tmp 70) rfl w13.heap.size (.slice (some ⟨w6.heap.size, 0, none⟩) 32 32) _ rfl rfl (KB11.out.below B14.out) (by rw [KL.out]; decide) (by rw [KL.out]; decide) ?_
          intro vA w15 hO hb
          go_wp2_with fail
          refine hK _ _ (hb.out.mono B14.out.size) ?_
          have Y15 := Lib.hid (Y14.out.below hb.out)
          have Z15 := Lib.hid (Z14.out.below hb.out)
          have N15 := Lib.hid (hO.out.ne_before (B := w11.heap.size) Z14.out.lt)
          have O15 := Lib.hid hO.out
          have SA15 := Lib.hid hb.out.size
          have SB := Lib.hid B14.out.size
          have B15 := Lib.hid (B14.out.trans (hb.out.mono B14.out.size))
          clear hK K B14 Y14 Z14 hO hb
          refine Tr.plan_one 8 rfl (fun K hK => ?_)
          refine wpList_append_bytes rfl (.tmp 71) (.tmp 76) rfl w14.heap.size vA (.slice (some ⟨w12.heap.size, 0, none⟩) 1 1) _ [z] rfl rfl O15.out Y15.out (by rw [KL.out, List.length_singleton]; decide) SA15.out ?_
          intro vC w16 hO hb hg
          go_wp2_with fail
          refine hK _ _ (hb.out.mono SB.out) ?_
          have Z16 := Lib.hid (Z15.out.grown hg.out N15.out)
          have O16 := Lib.hid hO.out
          have B16 := Lib.hid (B15.out.trans (hb.out.mono SB.out))
          clear hK K B15 Z15 N15 hO hb hg Y15 O15 SA15
          refine Tr.plan_one 9 rfl (fun K hK => ?_)
          go_wp2_with fail
          refine (HT2.out _ _ (O16.out.bytesAt (by rw [List.length_append, KL.out, List.length_singleton]; decide)) (T10.out.below B16.out)).mono ?_
          rintro e w17 ⟨rfl, b⟩
          go_wp2_with fail
          refine hK _ _ (b.mono B16.out.size) ?_
          have Z17 := Lib.hid (Z16.out.below b)
          have B17 := Lib.hid (B16.out.trans (b.mono B16.out.size))
          clear hK K B16 Z16 b O16
          refine Tr.plan_one 11 rfl (fun K hK => ?_)
          refine wpList_store_rowV (o := ⟨none, .store 29 (.tmp 19) (.tmp 78), _, _, _, _⟩) rfl 29 (.tmp 19) (.tmp 78) rfl w11.heap.size rfl 32 29 _ g2 rfl Z17.out (by kernel_rfl) G2.out ?_
          intro w18 R18 o18
          refine (show wpList _ _ _ [] _ _ from hK _ _ (o18.out.below SV.out B17.out.size) ?_)
          have B18 := Lib.hid (B17.out.trans (o18.out.below SV.out B17.out.size))
          clear hK K B17 o18
          refine Tr.plan_done (l := []) rfl (fun K hK => ?_)
          go_wp2_with fail
          go_meet
          refine ⟨_, rfl, R18.out, B18.out⟩
    case rest =>
      rename World => w11
      obtain ⟨bo, e19, hZ, hB⟩ := hcut
      subst e19
      have B11 := Lib.hid (B10.out.trans (hB.mono B10.out.size))
      have D11 := Lib.hid (D10.out.below hB)
      have P11 := Lib.hid (P10.out.below hB)
      have G11 := Lib.hid (G10.out.below hB)
      have Z11 := Lib.hid (Z10.out.below hB)
      have Y11 := Lib.hid hZ
      clear hZ hB B10 D10 P10 K10 G10 Z10 hb2 HT2 wq
      have lP1 : P1.length = 32 := hP1 ▸ proofL_len _ _
      have lP2 : P2.length = 32 := hP2 ▸ proofL_len _ _
      obtain ⟨E, hE⟩ : ∃ E : Nat → List UInt8, (fun i => if i = 0 then d else if i = 1 then P1 else P2) = E := ⟨_, rfl⟩
      have E0 := Lib.hid (show Value.agg (rowF 32 h) = digV (E 0) by rw [← hE, ← hh]; rfl)
      have E1 := Lib.hid (show Value.agg (rowF 32 g) = digV (E 1) by rw [← hE, ← hg]; rfl)
      have E2 := Lib.hid (show Value.agg (rowF 32 g2) = digV (E 2) by rw [← hE, ← hg2]; rfl)
      have EL := Lib.hid (show ∀ k, (E k).length = 32 by intro k; rw [← hE]; dsimp only; split <;> (try split) <;> assumption)
      have EQ := Lib.hid (show ∀ l : List UInt8, l.length = 32 → ∀ W, (binOp .eql 29 (digV l) (.agg (rowF 32 g2))).run Tryd.prog W = .ok (.bool (l == P2)) W by
        intro l hl W; rw [← hg2]; exact eql_dig W _ Tryd.underlying29 hl lP2)
      have EG := Lib.hid (show ∀ (l : List UInt8) a b W, (eqGuard .eql 29 a b (digV l) (.agg (rowF 32 g2))).run Tryd.prog W = .ok () W by
        intro l a b W; rw [← hg2]; exact guard_dig W _ _ a b _ _ (by kernel_rfl))
      have OQ := Lib.hid (show ∀ W, (binOp .eql 29 (.agg (rowF 32 g)) (.agg (rowF 32 g))).run Tryd.prog W = .ok (.bool true) W by
        intro W; rw [← hg]; have := eql_dig W _ Tryd.underlying29 lP1 lP1; rwa [beq_self_eq_true] at this)
      have OG := Lib.hid (show ∀ a b W, (eqGuard .eql 29 a b (.agg (rowF 32 g)) (.agg (rowF 32 g))).run Tryd.prog W = .ok () W by
        intro a b W; rw [← hg]; exact guard_dig W _ _ a b _ _ (by kernel_rfl))
      clear hE hh hg hg2 lP1 lP2 hP1 hP2 hd hR hx hz hf
      go_upto_region 12 with (first | ((with_reducible (show wpList _ _ _ (Oper.mk (some 79) _ _ _ _ _ :: _) _ _)); refine wpList_load_rowV rfl 29 (.tmp 9) rfl w.heap.size rfl 32 29 _ D11.out _ Tryd.underlying29 rfl (by kernel_rfl) ?_) | ((with_reducible (show wpList _ _ _ (Oper.mk (some 80) _ _ _ _ _ :: _) _ _)); refine wpList_load_rowV rfl 29 (.tmp 16) rfl w8.heap.size rfl 32 29 _ G11.out _ Tryd.underlying29 rfl (by kernel_rfl) ?_) | ((with_reducible (show wpList _ _ _ (Oper.mk (some 81) _ _ _ _ _ :: _) _ _)); refine wpList_load_rowV rfl 29 (.tmp 19) rfl bo rfl 32 29 _ Y11.out _ Tryd.underlying29 rfl (by kernel_rfl) ?_) | ((with_reducible (show wpList _ _ _ (Oper.mk (some 82) _ _ _ _ _ :: _) _ _)); refine wpList_build3 rfl 43 29 (.tmp 79) (.tmp 80) (.tmp 81) rfl E _ _ _ rfl rfl rfl E0.out E1.out E2.out Tryd.underlying43 (by kernel_rfl) (by kernel_rfl) ?_; intro w12 L12 b12))
      have B12 := Lib.hid (B11.out.trans (b12.out.mono B11.out.size))
      have P12 := Lib.hid (P11.out.below b12.out)
      have G12 := Lib.hid (G11.out.below b12.out)
      have Z12 := Lib.hid (Z11.out.below b12.out)
      have Y12 := Lib.hid (Y11.out.below b12.out)
      clear b12 B11 D11 P11 G11 Z11 Y11 E0 E1 E2
      go_loopg [84] 3 (fun g s84 wx => ∃ k : Nat, k + g = 3 ∧ s84 = .int .i64 (k : Int) ∧ Hid (Below w12.heap.size w12 wx))
      case atStart => exact ⟨0, by omega, rfl, Lib.hid (Below.refl _ _)⟩
      case round =>
        obtain ⟨k, hk, rfl, hB⟩ := hrel
        obtain ⟨w13, rfl⟩ : ∃ y, y = wr := ⟨_, rfl⟩
        by_cases hk2 : k < 3
        · obtain ⟨l, hl⟩ : ∃ l, E k = l := ⟨_, rfl⟩
          have ll := EL.out k
          rw [hl] at ll
          obtain ⟨f2, hf2⟩ : ∃ f, (fun i => vB (l.getD i 0)) = f := ⟨_, rfl⟩
          obtain ⟨q, hq⟩ : ∃ b, (l == P2) = b := ⟨_, rfl⟩
          have PE := Lib.hid (show Value.agg (rowF 32 f2) = digV (E k) by rw [hl, ← hf2]; rfl)
          have F2 := Lib.hid (show ∀ j, j < 32 → (f2 j).oneCell' = true by intro j _; rw [← hf2]; rfl)
          have AC := Lib.hid (show ∀ W, Tab W → Calls Tryd.prog 28 #[.agg #[.int .i64 R, .int .i64 C, .int .i64 X], .int .i64 p, .agg (rowF 32 f2)] W fun e w' => e = .returned (.tuple #[.bool q, .int .i64 0]) ∧ Below W.heap.size W w' by
            intro W hW; have := H5.out W l ll hW; rw [hq] at this; rw [← hf2]; exact this)
          have eq := EQ.out l ll
          have eg := EG.out l
          rw [hq] at eq
          unfold digV at eq eg
          rw [hf2] at eq eg
          have EQ2 := Lib.hid eq
          have EG2 := Lib.hid eg
          have HK := Lib.hid hk2
          have d0 : decide ((k : Int) < 3) = true := by rw [decide_eq_true_iff]; omega
          have z1 : (0 : Int) ≤ (k : Int) := Int.natCast_nonneg k
          have z2 : (k : Int) < 3 := by omega
          have p0 : 0 ≤ (k : Int) ∧ (k : Int) < 3 := by omega
          have z3 : ((k : Int)).toNat = k := Int.toNat_natCast k
          have B13 := Lib.hid (B12.out.trans (hB.out.mono B12.out.size))
          have L13 := Lib.hid (L12.out.below hB.out)
          have P13 := Lib.hid (P12.out.below hB.out)
          have Y13 := Lib.hid (Y12.out.below hB.out)
          have SZ := Lib.hid hB.out.size
          have ZR := Lib.hid (RowV.new w13 29 32 (fun _ => vB 0))
          clear hl ll hf2 hq eq eg hk2
          go_upto_region 14 with (first | ((with_reducible (show wpList _ _ _ (Oper.mk (some 87) _ _ _ _ _ :: _) _ _)); refine wpList_load_part rfl 29 (.tmp 86) rfl w11.heap.size _ rfl k 96 (by omega) 29 E L13.out (by have := HK.out; omega) _ Tryd.underlying29 rfl (by kernel_rfl) f2 PE.out ?_) | ((with_reducible (show wpList _ _ _ (Oper.mk none _ _ _ _ _ :: _) _ _)); refine wpList_store_rowV (o := ⟨none, .store 29 (.tmp 21) (.tmp 87), _, _, _, _⟩) rfl 29 (.tmp 21) (.tmp 87) rfl w13.heap.size rfl 32 29 _ f2 rfl ZR.out (by kernel_rfl) F2.out ?_; intro w14 V14 o14))
          have b14 : Below w13.heap.size w13 w14 := ((Below.refl _ w13).alloc (Nat.le_refl _) _).trans (o14.out.below (Nat.le_refl _) (by rw [World.size_alloc]; omega))
          have B14 := Lib.hid (B13.out.trans (b14.mono B13.out.size))
          have P14 := Lib.hid (P13.out.below b14)
          have Y14 := Lib.hid (Y13.out.below b14)
          have K14 := Lib.hid (hB.out.trans (b14.mono SZ.out))
          clear b14 o14 ZR L13 P13 Y13 B13 hB
          have x0 : _ = some (Value.int .i64 (R : Int)) := P14.out.cell (i := 0) (by decide)
          have x1 : _ = some (Value.int .i64 (C : Int)) := P14.out.cell (i := 1) (by decide)
          have x2 : _ = some (Value.int .i64 (X : Int)) := P14.out.cell (i := 2) (by decide)
          go_wp2_with (first | ((with_reducible (show wpList _ _ _ (Oper.mk (some 91) _ _ _ _ _ :: _) _ _)); refine wpList_load_rowV rfl 29 (.tmp 21) rfl w13.heap.size rfl 32 29 _ V14.out _ Tryd.underlying29 rfl (by kernel_rfl) ?_))
          refine (AC.out _ (T.out.below B14.out)).mono ?_
          rintro e w15 ⟨rfl, b15⟩
          have V15 := Lib.hid (V14.out.below b15)
          have Y15 := Lib.hid (Y14.out.below b15)
          have K15 := Lib.hid (K14.out.trans (b15.mono K14.out.size))
          clear b15 x0 x1 x2 V14 Y14 K14 P14 B14
          have eq := EQ2.out
          have eg := EG2.out
          go_wp2_with (first | ((with_reducible (show wpList _ _ _ (Oper.mk (some 99) _ _ _ _ _ :: _) _ _)); refine wpList_unguard rfl ?_; refine wpList_load_rowV rfl 29 (.tmp 21) rfl w13.heap.size rfl 32 29 _ V15.out _ Tryd.underlying29 rfl (by kernel_rfl) ?_) | ((with_reducible (show wpList _ _ _ (Oper.mk (some 100) _ _ _ _ _ :: _) _ _)); refine wpList_unguard rfl ?_; refine wpList_load_rowV rfl 29 (.tmp 19) rfl bo rfl 32 29 _ Y15.out _ Tryd.underlying29 rfl (by kernel_rfl) ?_))
          go_roundg (gk - 1)
          case measure => omega
          case rel =>
            go_light
            exact ⟨k + 1, by omega, by go_num, K15⟩
        · obtain rfl : k = 3 := by omega
          have d0 : decide (((3 : Nat) : Int) < 3) = false := by decide
          have G13 := Lib.hid (G12.out.below hB.out)
          have Z13 := Lib.hid (Z12.out.below hB.out)
          have BF := Lib.hid (B12.out.trans (hB.out.mono B12.out.size))
          have oq := OQ.out
          have og := OG.out
          clear hB
          go_wp2_with (first | ((with_reducible (show wpList _ _ _ (Oper.mk (some 105) _ _ _ _ _ :: _) _ _)); refine wpList_load_rowV rfl 29 (.tmp 16) rfl w8.heap.size rfl 32 29 _ G13.out _ Tryd.underlying29 rfl (by kernel_rfl) ?_) | ((with_reducible (show wpList _ _ _ (Oper.mk (some 106) _ _ _ _ _ :: _) _ _)); refine wpList_load_rowV rfl 29 (.tmp 18) rfl bx rfl 32 29 _ Z13.out _ Tryd.underlying29 rfl (by kernel_rfl) ?_))
          go_ret
          exact ⟨rfl, BF.out⟩

set_option maxRecDepth 100000 in
set_option maxHeartbeats 1000000 in
theorem lifted (os : Os) (started : os.Started) (H : Type) (enc : TypeId × Value → H) :
    ReturnsInHanded {} Tryd.checked os 8 .any (fun w args => (Rows.pakeProofsSpec.pre enc Tryd.prog Tryd.f8 [] false w args ∧ laidMetH Tryd.prog laidL w) ∧ sizedMet enc Tryd.prog Tryd.f8 (OpenSpec.ofChange Rows.pakeProofsSpec) false w args)
      (Rows.pakeProofsSpec.post enc Tryd.prog Tryd.f8 false true false false) := by
  refine returnsInHanded_of_change_and (C := Tryd.checked) (X := fun w _ => laidMetH Tryd.prog laidL w) (fun _ _ _ hh h => h.of_heap hh) own started (by kernel_rfl) Tryd.func8
    (ChangeSpec.witness_shaped (enc := enc) (C := Tryd.checked) (os := os) (X := fun w _ => laidMetH Tryd.prog laidL w) false (World.doorLaid Tryd.prog 19 os) #[.int .i64 0, .int .i64 0, .int .i64 0, .int .i64 0, .agg (Array.replicate 32 (.int .u8 0))] 8 rfl (World.shaped_of_RefB (by kernel_rfl) (by kernel_rfl)) (by kernel_rfl) (by kernel_rfl) (by kernel_rfl) (door_met os _)) ?_
  intro W base args ds gs before hval0 hW _ hsz hL _
  have hval : ∀ (j : Nat) t v, Tryd.f8.params[j]? = some t → args[j]? = some v → Value.okWide Tryd.prog W .any base t v := hval0
  have hW' := hW
  obtain ⟨p, q, hA0, hV, rfl, hfz, hnd⟩ := hW
  have hA : DataW.TrodAll enc Tryd.prog W 0 (fun _ => true) true Tryd.f8.params.toList args.toList ds p := hA0
  rw [Tryd.params8] at hA hval
  obtain ⟨v0, vs0, d0, ds0, p0, q0, hargs, rfl, rfl, h0, r0⟩ := trodAll_cons hA
  obtain ⟨v1, vs1, d1, ds1, p1, q1, rfl, rfl, rfl, h1, r1⟩ := trodAll_cons r0
  obtain ⟨v2, vs2, d2, ds2, p2, q2, rfl, rfl, rfl, h2, r2⟩ := trodAll_cons r1
  obtain ⟨v3, vs3, d3, ds3, p3, q3, rfl, rfl, rfl, h3, r3⟩ := trodAll_cons r2
  obtain ⟨v4, vs4, d4, ds4, p4, q4, rfl, rfl, rfl, h4, r4⟩ := trodAll_cons r3
  obtain ⟨rfl, rfl, rfl⟩ := trodAll_nil r4
  obtain rfl : args = #[v0, v1, v2, v3, v4] := by cases args; simp_all
  obtain ⟨rfl, rfl⟩ := trodVars_none hV
  obtain ⟨a0, rfl, rfl, rfl, w0⟩ := open_int Tryd.underlying3 (hval 0 3 v0 rfl rfl) h0
  obtain ⟨a1, rfl, rfl, rfl, w1⟩ := open_int Tryd.underlying3 (hval 1 3 v1 rfl rfl) h1
  obtain ⟨a2, rfl, rfl, rfl, w2⟩ := open_int Tryd.underlying3 (hval 2 3 v2 rfl rfl) h2
  obtain ⟨a3, rfl, rfl, rfl, w3⟩ := open_int Tryd.underlying3 (hval 3 3 v3 rfl rfl) h3
  have k4 := h4
  have lt4 : ∀ x ∈ p4, x.block < W.heap.size := by obtain ⟨m, hm⟩ := k4; exact DataW.trod_lt m _ _ _ hm
  obtain ⟨l4, n4, rfl⟩ := digest_open (hval 4 29 v4 rfl rfl) h4
  have hT := tab_of_laid hL
  clear hA0 hval0 hsz hL
  simp only [List.append_nil] at hW'
  refine (walk a0 w0 a1 w1 a2 w2 a3 w3 l4 n4 hT).mono fun e W' ⟨he, hg⟩ => ?_
  subst he
  exact ⟨_, rfl, _, _, _, [], _, [], hW', trodAll_mk1 (shut_bool Tryd.underlying4 _), (trodAll_cons_mk (shut_int Tryd.underlying3 w0) (trodAll_cons_mk (shut_int Tryd.underlying3 w1) (trodAll_cons_mk (shut_int Tryd.underlying3 w2) (trodAll_cons_mk (shut_int Tryd.underlying3 w3) (trodAll_cons_mk (Below.trod laidOut (by kernel_rfl) (of_decide_eq_true (by kernel_rfl)) k4 hg lt4) trodAll_mk0))))), rfl, hg.frame _, fun h => by cases h⟩

theorem over : Rows.pakeProofsRow.holds Tryd.pinned (OpenSpec.ofChange Rows.pakeProofsSpec) :=
  OpenClaim.holds_of_wide 8 Tryd.f8 rfl rfl rfl rfl rfl rfl rfl ⟨rfl, rfl, rfl, rfl, rfl⟩ rfl rfl rfl rfl rfl (by kernel_rfl) Tryd.func8 (by kernel_rfl)
    (of_decide_eq_true (by kernel_rfl)) (by unfold Func.isWrapper; first | (rw [if_pos (by decide +kernel)]; kernel_rfl) | (rw [if_neg (by decide +kernel)]; exact ⟨rfl, rfl⟩))
    (fun os started H enc _ => lifted os started H enc)

end Go.Proofs.YtdcpejfnhegdaaaDoor.pakeProofs
namespace Go.Proofs.YtdcpejfnhegdaaaDoor
set_option maxRecDepth 100000 in
theorem pakeProofs_holds : Rows.PakeProofsCardSaid :=
  Claim7.holds_tied_plain_at .later [] [.data, .data] true _ false
    pakeProofs.over (fun _ h => by cases h) (by kernel_rfl) (fun _ h => by cases h) pakeProofs_row_tie rfl ⟨rfl, rfl⟩ (by kernel_rfl) rfl
    (fun f fn hf hfn => by
      obtain rfl : f = 8 := Option.some.inj ((show Tryd.prog.funcNamed "chartroom/chartroomlaw10.PakeProofs" = some 8 by kernel_rfl).symm.trans hf) |>.symm
      obtain rfl : fn = Tryd.f8 := (Option.some.inj (Tryd.func8.symm.trans hfn)).symm
      exact ⟨by kernel_rfl, fun j t ht => by
        rw [Tryd.params8] at ht
        have hm : t ∈ [3, 3, 3, 3, 29] := by simpa using Array.mem_of_getElem? ht
        have hall : ([3, 3, 3, 3, 29].all fun u => !Tryd.prog.wantsStandIn u) = true := by kernel_rfl
        exact (show Tryd.prog.wantsStandIn t = false by simpa using List.all_eq_true.1 hall t hm)⟩)
    (by kernel_rfl)
#print axioms pakeProofs_holds
end Go.Proofs.YtdcpejfnhegdaaaDoor
