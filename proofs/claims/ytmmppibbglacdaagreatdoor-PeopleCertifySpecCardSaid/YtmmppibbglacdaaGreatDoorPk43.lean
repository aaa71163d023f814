/- The reference: a list of numbers as a value; a certificate's message, Certify. -/
import Derived.Test.YtmmppibbglacdaaGreatDoorPk42
import Derived.Test.YtmmppibbglacdaaGreatDoorPk49
set_option linter.unusedVariables false
set_option linter.unusedSimpArgs false
namespace Go.Proofs.YtmmppibbglacdaaGreatDoor
open Go.RowKit Cod
theorem Owns.emp0 {w : World} {base B : Nat} (hb : base ≤ B) (h : w.heap[B]? = some (.cells #[] 5)) : Owns w base (.slice (some ⟨B, 0, none⟩) 0 0) [] :=
  ⟨by simp, .inr ⟨B, 0, #[], rfl, hb, h, Nat.le_refl _, by decide, by simp, by simp⟩⟩
set_option maxRecDepth 100000 in
set_option maxHeartbeats 8000000 in
theorem rints_any (zs : List Int) (v : Value) (w : World) (hv : IntsS w v zs) (hz : ∀ z ∈ zs, i64B z) (hl : zs.length ≤ 100) :
    Calls Tryz.prog 66 #[v] w fun e w' => (∃ u, e = .returned u ∧ CodAt w' u (lstT (zs.map numT))) ∧ Below w.heap.size w w' := by
  obtain ⟨va, vc, rfl⟩ := hv.slice
  have HV := Lib.hid hv
  have HZ := Lib.hid hz
  have HL := Lib.hid hl
  obtain ⟨n, hn⟩ : ∃ n, zs.length = n := ⟨_, rfl⟩
  have HN := Lib.hid hn
  rw [hn]
  clear hv hz hl hn
  go_enter Tryz.func66, Tryz.ntmps66
  have B0 := Lib.hid (Below.refl w.heap.size w)
  go_upto_region 1 with fail
  obtain ⟨w1, hw1⟩ : ∃ y, w.alloc (.cells #[.int .i64 0, .int .i64 0, .string ⟨#[]⟩, .slice none 0 0] 90) = y := ⟨_, rfl⟩
  have b1 : Below w.heap.size w w1 := by rw [← hw1]; exact (Below.refl _ _).alloc (Nat.le_refl _) _
  have Z1 : Hid (RowV w1 w.heap.size 90 4 (valC 0 0 ⟨#[]⟩ (.slice none 0 0))) := Lib.hid (by rw [← hw1]; exact RowV.new w _ 4 (valC 0 0 ⟨#[]⟩ (.slice none 0 0)))
  have z1 : w.heap.size + 1 = w1.heap.size := by rw [← hw1]; exact (Array.size_push _).symm
  rw [hw1]
  (try rw [z1])
  have B1 := Lib.hid (B0.out.trans (b1.mono B0.out.size))
  clear b1 hw1 z1 B0
  have ZL := Lib.hid Z1.out.lt
  go_upto_region 2 with fail
  obtain ⟨w2, hw2⟩ : ∃ y, w1.alloc (.cells #[.int .i64 3, .int .i64 0, .string ⟨#[]⟩, .slice none 0 0] 90) = y := ⟨_, rfl⟩
  have b2 : Below w1.heap.size w1 w2 := by rw [← hw2]; exact (Below.refl _ _).alloc (Nat.le_refl _) _
  have I2 : Hid (LstI w2 w1.heap.size (.slice none 0 0) [] w2) := Lib.hid (by rw [← hw2]; exact LstI.start w1)
  have z2 : w1.heap.size + 1 = w2.heap.size := by rw [← hw2]; exact (Array.size_push _).symm
  rw [hw2]
  (try rw [z2])
  have B2 := Lib.hid (B1.out.trans (b2.mono B1.out.size))
  have Z2 := Lib.hid (Z1.out.below b2)
  clear b2 hw2 z2 B1 Z1
  go_wp2_with fail
  have qn : (n : Int) ≤ 100 := by have := HL.out; have := HN.out; omega
  go_loopg [4] n (fun g s4 wx => ∃ (k : Nat) (sl : Value), k + g = n ∧ s4 = .int .i64 (k : Int) ∧ Hid (LstI w2 w1.heap.size sl ((zs.take k).map numT) wx))
  case atStart => exact ⟨0, .slice none 0 0, by omega, rfl, I2⟩
  case round =>
    obtain ⟨k, sl, hk, rfl, hI⟩ := hrel
    obtain ⟨w3, rfl⟩ : ∃ y, y = wr := ⟨_, rfl⟩
    have q0 : (0 : Int) ≤ (k : Int) := Int.natCast_nonneg k
    have B3 := Lib.hid (B2.out.trans (hI.out.only.below (K := w.heap.size) (by have := ZL.out; omega) (by have := ZL.out; have := I2.out.lt; omega)))
    by_cases hlt : k < n
    · have d0 : decide ((k : Int) < (n : Int)) = true := by rw [decide_eq_true_iff]; omega
      have d1 : decide (k < n) = true := by rw [decide_eq_true_iff]; omega
      have hv3 : SlAt 1 w (.slice va n vc) n (fun i _ => .int .i64 (zs.getD i 0)) := by
        have h := HV.out
        unfold IntsS at h
        rwa [HN.out] at h
      obtain ⟨b, off, rfl, hcap, hb, hc⟩ := SlAt.at_elem hv3 hlt
      have X0 : Hid (w3.cell? ⟨b, off + k, none⟩ = some (.int .i64 (zs.getD k 0))) := Lib.hid ((B3.out.cell (p := ⟨b, off + k, none⟩) hb).trans (by have := hc k hlt 0 (by decide); simpa using this))
      have HBW := Lib.hid (Nat.lt_of_lt_of_le hb B2.out.size)
      have HE : Hid ((zs.take (k + 1)).map numT = (zs.take k).map numT ++ [numT (zs.getD k 0)]) := Lib.hid (by
        rw [take_succ_getD 0 _ (show k < zs.length by rw [HN.out]; exact hlt), List.map_append]; rfl)
      have HB : Hid (i64B (zs.getD k 0)) := Lib.hid (by
        rw [List.getD_eq_getElem?_getD, List.getElem?_eq_getElem (show k < zs.length by rw [HN.out]; exact hlt)]
        exact HZ.out _ (List.getElem_mem _))
      obtain ⟨x, hx⟩ : ∃ x, zs.getD k 0 = x := ⟨_, rfl⟩
      rw [hx] at X0 HE HB
      obtain ⟨ts, hts⟩ : ∃ y, (zs.take k).map numT = y := ⟨_, rfl⟩
      have TL : Hid (ts.length ≤ 1000000) := Lib.hid (by rw [← hts]; simp only [List.length_map, List.length_take]; have := HL.out; omega)
      rw [hts] at HE hI
      obtain ⟨sa, sn, sc, rfl⟩ := hI.out.slice
      have HBL := Lib.hid (Nat.lt_of_lt_of_le hb B3.out.size)
      have HLT := Lib.hid hlt
      clear hx hts hv3 hc hb
      go_upto_region 5 with fail
      refine Tc.wp_region_plan (Tc.Rl.stay (fun j => j = w1.heap.size ∨ j = b)) 9 [] (.fl 0 (.fl 1 (.fl 2 (.fl 3 (.fl 4 (.fl 5 (.one 6 (.one 7 (.one 8 .done))))))))) (by kernel_rfl) (by kernel_rfl) ?_
      intro w4 b4 e4
      have I4 := Lib.hid (hI.out.later b4)
      have X4 := Lib.hid ((b4.cell (p := ⟨b, off + k, none⟩) HBL.out).trans X0.out)
      have BL4 := Lib.hid (Nat.lt_of_lt_of_le HBL.out b4.size)
      clear b4 e4 X0 hI
      refine Tc.plan_floats [0, 1, 2, 3, 4, 5] [_, _, _, _, _, _] rfl ?_
      dsimp only [List.getElem_toArray, List.getElem_cons_succ, List.getElem_cons_zero]
      repeat (go_big_quiet_want; go_big_quiet_op; first | go_big_quiet_on | (refine ⟨_, fun _ _ => rfl, ?_⟩; go_big_quiet_on))
      refine wpQuiet_load_cell rfl 88 (.tmp 12) rfl w1.heap.size 3 rfl _ Tryz.underlying88 rfl (.slice sa sn sc) (fun W hW => (stay_row (S := fun j => j = w1.heap.size ∨ j = b) I4.out.row (.inl rfl) hW).cell (i := 3) (by decide)) ?_
      simp only [Act.put, List.setIfInBounds_toArray, List.set_cons_succ, List.set_cons_zero]
      repeat (go_big_quiet_want; go_big_quiet_op; first | go_big_quiet_on | (refine ⟨_, fun _ _ => rfl, ?_⟩; go_big_quiet_on))
      refine wpQuiet_load_cell rfl 3 (.tmp 16) rfl b (off + k) rfl _ Tryz.underlying3 rfl (.int .i64 x) (fun W hW => (stay_cell (S := fun j => j = w1.heap.size ∨ j = b) (.inr rfl) hW).trans X4.out) ?_
      simp only [Act.put, List.setIfInBounds_toArray, List.set_cons_succ, List.set_cons_zero]
      refine wpQuiet_nil ?_
      clear X4
      refine Tc.plan_one 6 rfl (fun K hK => ?_)
      go_wp2_with fail
      refine (rint_any x _).mono ?_
      rintro e w5 ⟨rfl, b5⟩
      have I5 := Lib.hid (I4.out.later b5)
      have BL5 := Lib.hid (Nat.lt_of_lt_of_le BL4.out b5.size)
      go_wp2_with fail
      refine hK _ _ (stay_below b5 (fun j hj => by rcases hj with rfl | rfl; exact I4.out.row.lt; exact BL4.out)) ?_
      clear hK K b5 I4 BL4
      refine Tc.plan_one 7 rfl (fun K hK => ?_)
      go_wp2_with fail
      have al := (Below.refl _ w5).alloc (Nat.le_refl _) (.cells #[.int .i64 1, .int .i64 x, .string ByteArray.empty, .slice none 0 0] 90)
      have I6 := Lib.hid (I5.out.later al)
      have BL6 := Lib.hid (Nat.lt_of_lt_of_le BL5.out al.size)
      have G6 := Lib.hid (RowV.new w5 90 4 (valC 1 x ⟨#[]⟩ (.slice none 0 0)))
      refine hK _ _ (stay_below al (fun j hj => by rcases hj with rfl | rfl; exact I5.out.row.lt; exact BL5.out)) ?_
      obtain ⟨w6, hw6⟩ : ∃ y, w5.alloc (.cells #[.int .i64 1, .int .i64 x, .string ByteArray.empty, .slice none 0 0] 90) = y := ⟨_, rfl⟩
      rw [hw6] at I6 BL6 ⊢
      rw [show w5.alloc (.cells (rowF 4 (valC 1 x ⟨#[]⟩ (.slice none 0 0))) 90) = w6 from hw6] at G6
      clear hK K al hw6 I5 BL5
      refine Tc.plan_one 8 rfl (fun K hK => ?_)
      refine wpList_app_val rfl (.tmp 13) (.tmp 19) rfl w2.heap.size (.slice sa sn sc) _ rfl I6.out.own w5.heap.size 1 (valC 1 x ⟨#[]⟩ (.slice none 0 0)) (numT x) rfl G6.out (leafS _ _ HB.out) TL.out I6.out.size ?_
      intro v9 w9 L9 s9
      obtain ⟨a9, n9, c9, rfl⟩ := L9.out.slice3
      go_wp2_with fail
      have BL := Lib.hid (show w1.heap.size < w2.heap.size from I6.out.lt)
      refine hK _ _ (stay_app s9.out (fun j hj => ⟨by rcases hj with rfl | rfl; exact I6.out.row.lt; exact BL6.out, fun e => by have h1 := (I6.out.own.lt _ e).1; have h2 := BL.out; have h3 := HBW.out; rcases hj with rfl | rfl <;> omega⟩)) ?_
      obtain ⟨x9, f9⟩ := I6.out.mid s9.out
      have I9 := Lib.hid (I6.out.push L9.out s9.out)
      rw [← HE.out] at I9
      clear hK K L9 s9 I6 BL6 G6
      refine Tc.plan_done (l := [_, _]) rfl (fun K hK => ?_)
      go_wp2_with fail
      clear x9 f9
      go_roundg (gk - 1)
      case measure => have := HLT.out; omega
      case rel =>
        go_light
        exact ⟨k + 1, .slice a9 n9 c9, by have := HLT.out; omega, by go_num, I9⟩
    · obtain rfl : k = n := by omega
      have d0 : decide ((k : Int) < (k : Int)) = false := by rw [decide_eq_false_iff_not]; omega
      have I3 : Hid (LstI w2 w1.heap.size sl (zs.map numT) w3) := Lib.hid (by have h := hI.out; rwa [List.take_of_length_le (by rw [HN.out]; omega)] at h)
      obtain ⟨sa, sn, sc, rfl⟩ := I3.out.slice
      have Z3 := Lib.hid (I3.out.row' Z2.out (fun e => by have := ZL.out; omega))
      have IL := Lib.hid I2.out.lt
      clear hI
      go_wp2_with (first | ((with_reducible (show wpList _ _ _ (Oper.mk (some 22) _ _ _ _ _ :: _) _ _)); refine Hid.out ?_))
      refine Lib.hid ?_
      refine wpList_load_rowV rfl 90 (.tmp 3) rfl w1.heap.size rfl 4 90 _ I3.out.row _ Tryz.underlying90 rfl (by kernel_rfl) ?_
      go_wp2_with (first | ((with_reducible (show wpList _ _ _ (Oper.mk none _ _ _ _ _ :: _) _ _)); refine Hid.out ?_))
      refine Lib.hid ?_
      refine wpList_store_rowV (o := ⟨none, .store 90 (.tmp 2) (.tmp 22), _, _, _, _⟩) rfl 90 (.tmp 2) (.tmp 22) rfl w.heap.size rfl 4 90 _ (valC 3 0 ⟨#[]⟩ (.slice sa sn sc)) rfl Z3.out (by kernel_rfl) (fun j hj => by match j, hj with | 0, _ => rfl | 1, _ => rfl | 2, _ => rfl | 3, _ => rfl) ?_
      intro w4 Z4 O4
      have V4 := Lib.hid ((I3.out.own.only (rb := w.heap.size) O4.out.os O4.out.tape O4.out.output O4.out.size O4.out.block (by have := ZL.out; have := IL.out; omega)).value (by rw [List.length_map, HN.out]; have := HL.out; rw [HN.out] at this; omega))
      have B4 := Lib.hid (B3.out.trans (O4.out.below (Nat.le_refl _) B3.out.size))
      go_wp2_with fail
      refine bodyPost_ret (v := .agg (rowF 4 (valC 3 0 ⟨#[]⟩ (.slice sa sn sc)))) (by exact results_rowV (fn := Tryz.f66) (p := 2) (ty := 90) rfl _ _ w.heap.size 4 90 _ _ rfl Z4.out Tryz.underlying90 rfl (by kernel_rfl)) rfl ⟨⟨_, rfl, V4.out⟩, B4.out⟩
set_option maxRecDepth 100000 in
set_option maxHeartbeats 4000000 in
theorem qmessage_any (c : Ct) (hc : c.wf) (w : World) :
    Calls Tryz.prog 32 #[.agg (rowF 8 (ctC c))] w fun e w' => (∃ v, e = .returned v ∧ BytesAt w' v (msgC c)) ∧ Below w.heap.size w w' := by
  have NB := Lib.hid (numsC_bd hc)
  have EL := Lib.hid (encN_len (numsC c) (numsC_bd hc) (show (6 : Nat) ≤ 100 by decide))
  have G := Lib.hid (fun v W (h : BytesAt W v (encN (numsC c))) => reftagged_any ⟨#[99, 101, 114, 116]⟩ v _ W (by decide) (Nat.le_trans EL.out (by decide)) h)
  clear hc
  go_enter Tryz.func32, Tryz.ntmps32
  have B0 := Lib.hid (Below.refl w.heap.size w)
  go_upto_region 1 with fail
  obtain ⟨w1, hw1⟩ : ∃ y, w.alloc (.cells (rowF 8 (ctC c)) 33) = y := ⟨_, rfl⟩
  have b1 : Below w.heap.size w w1 := by rw [← hw1]; exact (Below.refl _ _).alloc (Nat.le_refl _) _
  have A1 : Hid (RowV w1 w.heap.size 33 8 (ctC c)) := Lib.hid (by rw [← hw1]; exact RowV.new w _ 8 (ctC c))
  have z1 : w.heap.size + 1 = w1.heap.size := by rw [← hw1]; exact (Array.size_push _).symm
  rw [hw1]
  (try rw [z1])
  have B1 := Lib.hid (B0.out.trans (b1.mono B0.out.size))
  clear b1 hw1 z1 B0
  have x0 : _ = some (Value.int .i64 c.k) := ct_cell A1.out (i := 0) (by decide)
  have x1 : _ = some (Value.int .i64 c.d) := ct_cell A1.out (i := 1) (by decide)
  have x2 : _ = some (Value.int .i64 c.v) := ct_cell A1.out (i := 2) (by decide)
  have x3 : _ = some (Value.int .i64 c.l) := ct_cell A1.out (i := 3) (by decide)
  have x4 : _ = some (Value.int .i64 c.n) := ct_cell A1.out (i := 4) (by decide)
  have x5 : _ = some (Value.int .i64 c.b) := ct_cell A1.out (i := 5) (by decide)
  go_wp2_with fail
  clear x0 x1 x2 x3 x4 x5
  obtain ⟨w2, hw2⟩ : ∃ y, w1.alloc (.cells #[.int .i64 c.k, .int .i64 c.d, .int .i64 c.v, .int .i64 c.l, .int .i64 c.n, .int .i64 c.b] 3) = y := ⟨_, rfl⟩
  have b2 : Below w1.heap.size w1 w2 := by rw [← hw2]; exact (Below.refl _ _).alloc (Nat.le_refl _) _
  have I2 : Hid (IntsS w2 (.slice (some ⟨w1.heap.size, 0, none⟩) 6 6) (numsC c)) := Lib.hid (by rw [← hw2]; exact ints_new w1 3 (numsC c) 6 rfl (by decide) (by decide))
  have z2 : w1.heap.size + 1 = w2.heap.size := by rw [← hw2]; exact (Array.size_push _).symm
  rw [hw2]
  (try rw [z2])
  have B2 := Lib.hid (B1.out.trans (b2.mono B1.out.size))
  have A2 := Lib.hid (A1.out.below b2)
  clear b2 hw2 z2 B1 A1
  refine (rints_any (numsC c) _ _ I2.out NB.out (show (6 : Nat) ≤ 100 by decide)).mono ?_
  rintro e w3 ⟨⟨u, rfl, hC⟩, b3⟩
  have C3 := Lib.hid hC
  have B3 := Lib.hid (B2.out.trans (b3.mono B2.out.size))
  clear hC b3 B2 I2 A2
  go_wp2_with fail
  refine (renc_nums NB.out (show (6 : Nat) ≤ 100 by decide) C3.out).mono ?_
  rintro e w4 ⟨⟨v, rfl, o4⟩, b4⟩
  have Y4 := Lib.hid (o4.bytesAt (by have := EL.out; omega))
  have B4 := Lib.hid (B3.out.trans (b4.mono B3.out.size))
  obtain ⟨va, vc, rfl⟩ := o4.slice
  clear o4 b4 B3 C3
  go_wp2_with fail
  refine (G.out _ _ Y4.out).mono ?_
  rintro e w5 ⟨rfl, b5⟩
  have B5 := Lib.hid (B4.out.trans (b5.mono B4.out.size))
  clear b5 B4 Y4 G
  have Zr := Lib.hid (RowV.new w5 95 32 (fun _ => vB 0))
  go_upto_region 3 with ((with_reducible (show wpList _ _ _ (Oper.mk none _ _ _ _ _ :: _) _ _)); refine wpList_store_rowV (o := ⟨none, .store 95 (.tmp 5) (.tmp 25), _, _, _, _⟩) rfl 95 (.tmp 5) (.tmp 25) rfl w5.heap.size rfl 32 95 _ (fun j => vB ((msgC c).getD j 0)) rfl Zr.out (by kernel_rfl) (fun _ _ => rfl) ?_; intro w6 D6 o6)
  have b6 : Below w5.heap.size w5 w6 := ((Below.refl _ _).alloc (Nat.le_refl _) _).trans (o6.out.below (Nat.le_refl _) (by rw [World.size_alloc]; omega))
  have B6 := Lib.hid (B5.out.trans (b6.mono B5.out.size))
  clear b6 o6 Zr B5
  have Y := Lib.hid (D6.out.bytesAt (msgC_len c) (by decide) (by decide))
  go_wp2_with (first | ((with_reducible (show wpList _ _ _ (Oper.mk (some 28) _ _ _ _ _ :: _) _ _)); refine Hid.out ?_))
  refine Lib.hid ?_
  have al := (Below.refl _ w6).alloc (Nat.le_refl _) (.cells #[] 5)
  have R := Owns.emp0 (w := w6.alloc (.cells #[] 5)) (base := w6.heap.size) (Nat.le_refl _) (MapKept.heap_alloc w6 _).1
  obtain ⟨w7, hw⟩ : ∃ y, w6.alloc (.cells #[] 5) = y := ⟨_, rfl⟩
  rw [hw] at al R ⊢
  have B7 := Lib.hid (B6.out.trans (al.mono B6.out.size))
  have Y7 := Lib.hid (Y.out.below al)
  have S6 := Lib.hid B6.out.size
  have S7 := Lib.hid al.size
  have R7 := Lib.hid R
  clear al R hw Y D6 B6
  refine wpList_app_bytes rfl (.tmp 26) (.tmp 27) rfl w6.heap.size _ _ [] (msgC c) rfl rfl R7.out Y7.out (by rw [msgC_len]; decide) S7.out ?_
  intro v8 w8 O8 s8
  have b8 := below_app s8.out (Nat.le_trans S6.out S7.out) (fun k hk => by have := (World.ownsRow.lt R7.out k hk).1; have := S6.out; omega)
  have B8 := Lib.hid (B7.out.trans b8)
  have Y8 := Lib.hid (O8.out.bytesAt (by simp only [List.nil_append, msgC_len]; decide))
  obtain ⟨va8, vc8, rfl⟩ := O8.out.slice
  clear b8 s8 O8 R7 Y7 B7
  rw [List.nil_append] at Y8 ⊢
  go_wp2_with fail
  go_ret
  exact ⟨⟨_, rfl, Y8.out⟩, B8.out⟩
set_option maxRecDepth 100000 in
set_option maxHeartbeats 8000000 in
theorem qcertify_any (k d v l n b x : Int) (hc : (ctN k d v l n b).wf) (w : World) :
    Calls Tryz.prog 14 #[.int .i64 k, .int .i64 d, .int .i64 v, .int .i64 l, .int .i64 n, .int .i64 b, .int .i64 x] w fun e w' => e = .returned (.tuple #[.agg (rowF 8 (ctC (crtV (ctN k d v l n b) x))), .int .i64 (crtE (ctN k d v l n b) x)]) ∧ Below w.heap.size w w' := by
  obtain ⟨ak, hak⟩ : ∃ y : Ct, ctN k d v l n b = y := ⟨_, rfl⟩
  have HAK := Lib.hid hak
  rw [hak] at hc ⊢
  have F := Lib.hid (fun W => qformed_any ak W)
  have M := Lib.hid (fun W => qmessage_any ak hc W)
  have SG := Lib.hid (fun v W (h : BytesAt W v (msgC ak)) => rsign_any x v _ W (by rw [msgC_len]; decide) h)
  have P2 := Lib.hid (pubE_two x)
  have VE : Hid (crtE ak x = if formC ak then pubE x else 370) := Lib.hid rfl
  have VV : Hid (crtV ak x = if crtE ak x = 0 then ⟨ak.k, ak.d, ak.v, ak.l, ak.n, ak.b, sgR x (msgC ak), sgS x (msgC ak)⟩ else ct0) := Lib.hid rfl
  obtain ⟨rv, hrv⟩ : ∃ y, crtV ak x = y := ⟨_, rfl⟩
  obtain ⟨re, hre⟩ : ∃ y, crtE ak x = y := ⟨_, rfl⟩
  rw [hrv, hre] at VV
  rw [hre] at VE
  rw [hrv, hre]
  obtain ⟨ok, hok⟩ : ∃ y, formC ak = y := ⟨_, rfl⟩
  obtain ⟨pe, hpe⟩ : ∃ y, pubE x = y := ⟨_, rfl⟩
  rw [hok] at F VE
  rw [hpe] at SG P2 VE
  clear hc hak hrv hre hok hpe
  go_enter Tryz.func14, Tryz.ntmps14
  have B0 := Lib.hid (Below.refl w.heap.size w)
  go_upto_region 1 with fail
  obtain ⟨w1, hw1⟩ : ∃ y, w.alloc (.cells #[.int .i64 0, .int .i64 0, .int .i64 0, .int .i64 0, .int .i64 0, .int .i64 0, .int .i64 0, .int .i64 0] 33) = y := ⟨_, rfl⟩
  have b1 : Below w.heap.size w w1 := by rw [← hw1]; exact (Below.refl _ _).alloc (Nat.le_refl _) _
  have Z1 : Hid (RowV w1 w.heap.size 33 8 (ctC ct0)) := Lib.hid (by rw [← hw1]; exact RowV.new w _ 8 (ctC ct0))
  have z1 : w.heap.size + 1 = w1.heap.size := by rw [← hw1]; exact (Array.size_push _).symm
  rw [hw1]
  (try rw [z1])
  have B1 := Lib.hid (B0.out.trans (b1.mono B0.out.size))
  clear b1 hw1 z1 B0
  have L1 := Lib.hid Z1.out.lt
  go_wp2_with (first | ((with_reducible (show wpList _ _ _ (Oper.mk (some 25) _ _ _ _ _ :: _) _ _)); refine Hid.out ?_))
  refine Lib.hid ?_
  refine wpList_build rfl 33 _ rfl (crtParts k d v l n b) (by simp only [List.map_toArray, List.map_cons, List.map_nil]; rfl) _ (build_crt k d v l n b _) ?_
  rw [HAK.out]
  have Zr := Lib.hid (RowV.new w1 33 8 (ctC ct0))
  go_upto_region 2 with ((with_reducible (show wpList _ _ _ (Oper.mk none _ _ _ _ _ :: _) _ _)); refine wpList_store_rowV (o := ⟨none, .store 33 (.tmp 16) (.tmp 25), _, _, _, _⟩) rfl 33 (.tmp 16) (.tmp 25) rfl w1.heap.size rfl 8 33 _ (ctC ak) rfl Zr.out (by kernel_rfl) (fun j _ => ctC_one ak j) ?_; intro w2 X2 o2)
  have b2 : Below w1.heap.size w1 w2 := ((Below.refl _ _).alloc (Nat.le_refl _) _).trans (o2.out.below (Nat.le_refl _) (by rw [World.size_alloc]; omega))
  have B2 := Lib.hid (B1.out.trans (b2.mono B1.out.size))
  have Z2 := Lib.hid (Z1.out.below b2)
  clear b2 o2 Zr B1 Z1
  go_wp2_with (first | ((with_reducible (show wpList _ _ _ (Oper.mk (some 26) _ _ _ _ _ :: _) _ _)); refine Hid.out ?_))
  refine Lib.hid ?_
  refine wpList_load_rowV rfl 33 (.tmp 16) rfl w1.heap.size rfl 8 _ _ (X2.out) _ Tryz.underlying33 rfl (by kernel_rfl) ?_
  go_wp2_with fail
  refine (F.out _).mono ?_
  rintro e w3 ⟨rfl, b3⟩
  have B3 := Lib.hid (B2.out.trans (b3.mono B2.out.size))
  have Z3 := Lib.hid (Z2.out.below b3)
  have X3 := Lib.hid (X2.out.below b3)
  clear b3 B2 Z2 X2
  clear F
  cases ok
  · obtain rfl : re = 370 := VE.out
    obtain rfl : rv = ct0 := by rw [VV.out, if_neg (by decide)]
    go_wp2_with (first | ((with_reducible (show wpList _ _ _ (Oper.mk none _ _ _ _ _ :: _) _ _)); refine Hid.out ?_))
    refine Lib.hid ?_
    refine wpList_store_rowV rfl 33 (.tmp 14) (.tmp 29) rfl w.heap.size rfl 8 _ _ _ rfl (Z3.out) (by kernel_rfl) (fun j _ => ctC_one ct0 j) ?_
    intro w9 Z9 O9
    go_wp2_with fail
    refine bodyPost_ret (v := .tuple #[.agg (rowF 8 (ctC ct0)), .int .i64 370]) (by exact results_rowV2 (fn := Tryz.f14) (p := 14) (u := 15) (ty := 33) rfl _ _ w.heap.size 8 33 _ _ rfl Z9.out Tryz.underlying33 rfl (by kernel_rfl)) rfl ⟨rfl, ?_⟩
    exact B3.out.trans (O9.out.below (Nat.le_refl _) B3.out.size)
  · have VE2 : Hid (re = pe) := VE
    clear VE
    have L3 := Lib.hid X3.out.lt
    go_wp2_with (first | ((with_reducible (show wpList _ _ _ (Oper.mk (some 32) _ _ _ _ _ :: _) _ _)); refine Hid.out ?_))
    refine Lib.hid ?_
    refine wpList_load_rowV rfl 33 (.tmp 16) rfl w1.heap.size rfl 8 _ _ (X3.out) _ Tryz.underlying33 rfl (by kernel_rfl) ?_
    go_wp2_with fail
    refine (M.out _).mono ?_
    rintro e w5 ⟨⟨v, rfl, y5⟩, b5⟩
    obtain ⟨va, vc, rfl⟩ := y5.slice
    have Y5 := Lib.hid y5
    have X5 := Lib.hid (X3.out.below b5)
    have Z5 := Lib.hid (Z3.out.below b5)
    have B5 := Lib.hid (B3.out.trans (b5.mono B3.out.size))
    clear y5 b5 X3 Z3 B3 M
    go_wp2_with fail
    refine (SG.out _ _ Y5.out).mono ?_
    rintro e w6 ⟨rfl, b6⟩
    have X6 := Lib.hid (X5.out.below b6)
    have Z6 := Lib.hid (Z5.out.below b6)
    have B6 := Lib.hid (B5.out.trans (b6.mono B5.out.size))
    clear b6 X5 Z5 B5 SG Y5
    obtain ⟨sr, hsr⟩ : ∃ y, sgR x (msgC ak) = y := ⟨_, rfl⟩
    obtain ⟨ss, hss⟩ : ∃ y, sgS x (msgC ak) = y := ⟨_, rfl⟩
    rw [hsr, hss] at VV ⊢
    clear hsr hss
    have L6 := Lib.hid X6.out.lt
    have Zr := Lib.hid (RowV.new w6 31 2 (fun _ => .int .i64 0))
    go_upto_region 5 with ((with_reducible (show wpList _ _ _ (Oper.mk none _ _ _ _ _ :: _) _ _)); refine wpList_store_rowV (o := ⟨none, .store 31 (.tmp 17) (.tmp 35), _, _, _, _⟩) rfl 31 (.tmp 17) (.tmp 35) rfl w6.heap.size rfl 2 31 _ (fun j => if j = 0 then Value.int .i64 sr else .int .i64 ss) rfl Zr.out (by kernel_rfl) (fun j _ => by show (if j = 0 then _ else _ : Value).oneCell' = true; split <;> rfl) ?_; intro w7 G7 o7)
    have b7 : Below w6.heap.size w6 w7 := ((Below.refl _ _).alloc (Nat.le_refl _) _).trans (o7.out.below (Nat.le_refl _) (by rw [World.size_alloc]; omega))
    have B7 := Lib.hid (B6.out.trans (b7.mono B6.out.size))
    have X7 := Lib.hid (X6.out.below b7)
    have Z7 := Lib.hid (Z6.out.below b7)
    clear b7 o7 Zr B6 X6 Z6
    rcases P2.out with h0 | h0
    · subst h0
      obtain rfl : re = 0 := VE2.out
      obtain rfl := VV.out
      go_wp2_with (first | ((with_reducible (show wpList _ _ _ (Oper.mk (some 41) _ _ _ _ _ :: _) _ _)); refine Hid.out ?_))
      refine Lib.hid ?_
      refine wpList_load_rowV rfl 31 (.tmp 17) rfl w6.heap.size rfl 2 _ _ (G7.out) _ Tryz.underlying31 rfl (by kernel_rfl) ?_
      go_wp2_with (first | ((with_reducible (show wpList _ _ _ (Oper.mk none _ _ _ _ _ :: _) _ _)); refine Hid.out ?_))
      refine Lib.hid ?_
      refine wpList_store_part rfl 31 (.tmp 42) (.tmp 41) rfl w1.heap.size 6 rfl 8 2 _ _ (fun j => if j = 0 then Value.int .i64 sr else .int .i64 ss) (ctC ⟨ak.k, ak.d, ak.v, ak.l, ak.n, ak.b, sr, ss⟩) rfl X7.out (by decide) (by kernel_rfl) (fun j _ => by show (if j = 0 then _ else _ : Value).oneCell' = true; split <;> rfl) (Ct.sig_cells ak sr ss) ?_
      intro w8 X8 O8
      have Z8 := Lib.hid (O8.out.row (show w.heap.size ≠ w1.heap.size from fun e => by have := L1.out; omega) Z7.out)
      have B8 := Lib.hid (B7.out.trans (O8.out.below (by have := L1.out; omega) B7.out.size))
      clear X7 O8 Z7 B7
      go_wp2_with (first | ((with_reducible (show wpList _ _ _ (Oper.mk (some 43) _ _ _ _ _ :: _) _ _)); refine Hid.out ?_))
      refine Lib.hid ?_
      refine wpList_load_rowV rfl 33 (.tmp 16) rfl w1.heap.size rfl 8 _ _ (X8.out) _ Tryz.underlying33 rfl (by kernel_rfl) ?_
      go_wp2_with (first | ((with_reducible (show wpList _ _ _ (Oper.mk none _ _ _ _ _ :: _) _ _)); refine Hid.out ?_))
      refine Lib.hid ?_
      refine wpList_store_rowV rfl 33 (.tmp 14) (.tmp 43) rfl w.heap.size rfl 8 _ _ _ rfl (Z8.out) (by kernel_rfl) (fun j _ => ctC_one _ j) ?_
      intro w9 Z9 O9
      go_wp2_with fail
      refine bodyPost_ret (v := .tuple #[.agg (rowF 8 (ctC ⟨ak.k, ak.d, ak.v, ak.l, ak.n, ak.b, sr, ss⟩)), .int .i64 0]) (by exact results_rowV2 (fn := Tryz.f14) (p := 14) (u := 15) (ty := 33) rfl _ _ w.heap.size 8 33 _ _ rfl Z9.out Tryz.underlying33 rfl (by kernel_rfl)) rfl ⟨rfl, ?_⟩
      exact B8.out.trans (O9.out.below (Nat.le_refl _) B8.out.size)
    · subst h0
      obtain rfl : re = 50 := VE2.out
      obtain rfl : rv = ct0 := by rw [VV.out, if_neg (by decide)]
      go_wp2_with (first | ((with_reducible (show wpList _ _ _ (Oper.mk none _ _ _ _ _ :: _) _ _)); refine Hid.out ?_))
      refine Lib.hid ?_
      refine wpList_store_rowV rfl 33 (.tmp 14) (.tmp 39) rfl w.heap.size rfl 8 _ _ _ rfl (Z7.out) (by kernel_rfl) (fun j _ => ctC_one ct0 j) ?_
      intro w9 Z9 O9
      go_wp2_with fail
      refine bodyPost_ret (v := .tuple #[.agg (rowF 8 (ctC ct0)), .int .i64 50]) (by exact results_rowV2 (fn := Tryz.f14) (p := 14) (u := 15) (ty := 33) rfl _ _ w.heap.size 8 33 _ _ rfl Z9.out Tryz.underlying33 rfl (by kernel_rfl)) rfl ⟨rfl, ?_⟩
      exact B7.out.trans (O9.out.below (Nat.le_refl _) B7.out.size)
end Go.Proofs.YtmmppibbglacdaaGreatDoor
