/- The reference of the codec: encode, Encode. The reference of the codec: Encode, and its makers of values. Package codec: the reader of bytes. Package codec: the reader's numerals. Package codec: the reader's integers and lengths; values that a reader has built. Values of the codec that a call has built: their lists lie in blocks of a kind. -/
import Derived.Test.YtmmppibbglacdaaGreatDoorPk22
set_option linter.unusedVariables false
set_option linter.unusedSimpArgs false
namespace Go.Proofs.YtmmppibbglacdaaGreatDoor
open Go.RowKit Cod
def REncPost (t : Tv) (w : World) (e : Ending) (w' : World) : Prop := (∃ u, e = .returned u ∧ Owns w' w.heap.size u (encV t)) ∧ Below w.heap.size w w'
set_option maxRecDepth 100000 in
set_option maxHeartbeats 16000000 in
theorem rencode_any : ∀ (d : Nat), ∀ (t : Tv) (v : Value) (w : World), depthN t ≤ d → formB t = true → CodAt w v t → (encV t).length ≤ 140737488340000 →
    Calls Tryz.prog 96 #[v] w (REncPost t w) := by
  intro d
  induction d using Nat.strongRecOn with
  | ind d ih =>
  intro t v w ht hf hv hlen
  obtain ⟨k, n, s, l⟩ := t
  obtain ⟨a, cap, c, rfl, hk, hn, hs, hl, hc⟩ := hv.open
  obtain ⟨m, hm⟩ : ∃ m, l.length = m := ⟨_, rfl⟩
  have zm := hl.len_le
  rcases form_kind hf with h1 | h1 | h1
  · obtain rfl : k = 1 := h1
    rw [enc_1] at hlen
    have EP : Hid (encV (.mk 1 n s l) = [1] ++ numE (zig n)) := Lib.hid (enc_1 n s l)
    unfold REncPost
    rw [EP.out]
    rw [hm] at *
    have HU := Lib.hid (fun W => runsigned_any n hn W)
    have HZ := Lib.hid (fun W => rnumeral_any (zig n) (zig_lt hn.1 hn.2) W)
    have H10 := Lib.hid (numE_10 (zig_lt hn.1 hn.2))
    obtain ⟨u, hu⟩ : ∃ u, zig n = u := ⟨_, rfl⟩
    rw [hu] at HU HZ H10 ⊢
    clear hl hc hv hm hlen hu EP ih ht hf
    go_enter Tryz.func96, Tryz.ntmps96
    have B0 := Lib.hid (Below.refl w.heap.size w)
    go_upto_region 1 with fail
    obtain ⟨w1, hw1⟩ : ∃ y, w.alloc (.cells #[.int .i64 1, .int .i64 n, .string s, .slice a m cap] 90) = y := ⟨_, rfl⟩
    have b1 : Below w.heap.size w w1 := by rw [← hw1]; exact (Below.refl _ _).alloc (Nat.le_refl _) _
    have V1 : Hid (RowV w1 w.heap.size 90 4 (valC 1 n s (.slice a m cap))) := Lib.hid (by rw [← hw1]; exact RowV.new w _ 4 (valC 1 n s (.slice a m cap)))
    have z1 : w.heap.size + 1 = w1.heap.size := by rw [← hw1]; exact (Array.size_push _).symm
    rw [hw1]
    (try rw [z1])
    have B1 := Lib.hid (B0.out.trans (b1.mono B0.out.size))
    clear b1 hw1 z1 B0
    have x0 : _ = some (Value.int .i64 1) := V1.out.cell (i := 0) (by decide)
    have x1 : (w1.alloc (.cells #[.int .u8 1] 5)).cell? ⟨w.heap.size, 1, none⟩ = some (Value.int .i64 n) := (V1.out.alloc _).cell (i := 1) (by decide)
    have OB := Lib.hid (Owns.one w1 1)
    go_wp2_with fail
    refine (HU.out _).mono ?_
    rintro e w' ⟨rfl, rfl⟩
    go_wp2_with fail
    refine (HZ.out _).mono ?_
    rintro e w2 ⟨⟨v2, rfl, o2⟩, b2⟩
    have O2 := Lib.hid (o2.bytesAt (by have := H10.out; omega))
    have OO := Lib.hid (OB.out.below b2)
    have K2 := Lib.hid (((Below.refl _ w1).alloc (Nat.le_refl _) _).trans (b2.mono (by rw [World.size_alloc]; omega)))
    clear o2 b2 OB x0 x1
    go_wp2_with ((with_reducible (show wpList _ _ _ (Oper.mk (some 14) _ _ _ _ _ :: _) _ _)); refine wpList_app_bytes rfl (.tmp 9) (.tmp 13) rfl w1.heap.size (.slice (some ⟨w1.heap.size, 0, none⟩) 1 1) v2 [1] (numE u) rfl rfl OO.out O2.out (by have := H10.out; simp only [List.length_cons, List.length_nil]; omega) K2.out.size ?_; intro v3 w3 O3 s3)
    go_ret
    exact ⟨⟨_, rfl, O3.out.lower B1.out.size⟩, B1.out.trans ((K2.out.trans (s3.out.below OO.out K2.out.size)).mono B1.out.size)⟩
  · obtain rfl : k = 2 := h1
    rw [enc_2] at hlen
    have EP : Hid (encV (.mk 2 n s l) = ([2] ++ numE s.size) ++ s.data.toList) := Lib.hid (by rw [enc_2, List.append_assoc]; rfl)
    unfold REncPost
    rw [EP.out]
    rw [hm] at *
    have HS := Lib.hid (show s.size < 18446744073709551616 by omega)
    have HZ := Lib.hid (fun W => rnumeral_any s.size HS.out W)
    have H10 := Lib.hid (numE_10 HS.out)
    have w1 : IntKind.u64.wrap (s.size : Int) = (s.size : Int) := by rw [IntKind.wrap_u64]; omega
    have HL := Lib.hid hlen
    clear hl hc hv hm hlen EP ih ht hf
    go_enter Tryz.func96, Tryz.ntmps96
    have B0 := Lib.hid (Below.refl w.heap.size w)
    go_upto_region 1 with fail
    obtain ⟨w1, hw1⟩ : ∃ y, w.alloc (.cells #[.int .i64 2, .int .i64 n, .string s, .slice a m cap] 90) = y := ⟨_, rfl⟩
    have b1 : Below w.heap.size w w1 := by rw [← hw1]; exact (Below.refl _ _).alloc (Nat.le_refl _) _
    have V1 : Hid (RowV w1 w.heap.size 90 4 (valC 2 n s (.slice a m cap))) := Lib.hid (by rw [← hw1]; exact RowV.new w _ 4 (valC 2 n s (.slice a m cap)))
    have z1 : w.heap.size + 1 = w1.heap.size := by rw [← hw1]; exact (Array.size_push _).symm
    rw [hw1]
    (try rw [z1])
    have B1 := Lib.hid (B0.out.trans (b1.mono B0.out.size))
    clear b1 hw1 z1 B0
    have x0 : _ = some (Value.int .i64 2) := V1.out.cell (i := 0) (by decide)
    go_upto_region 5 with fail
    clear x0
    have SZ := Lib.hid (V1.out.lt)
    have LB : Hid (([2] ++ numE s.size).length + s.size ≤ 140737488351232) := Lib.hid (by have := HL.out; have h2 := size_data s; simp only [List.length_cons, List.length_append, List.length_nil] at this ⊢; omega)
    refine Tc.wp_region_plan (Tc.Rl.stay (fun k => k = w.heap.size)) 9 [] (.fl 1 (.fl 2 (.fl 3 (.fl 4 (.fl 7 (.fl 8 (.two 0 5 (.one 5 (.one 6 .done)) (.one 0 (.one 6 .done))))))))) (by kernel_rfl) (by kernel_rfl) ?_
    intro w2 b2 e2
    have B2 := Lib.hid (B1.out.trans (b2.mono B1.out.size))
    have V2 := Lib.hid (V1.out.below b2)
    have SZ2 := Lib.hid (show w.heap.size < w2.heap.size by rw [e2]; exact SZ.out)
    clear b2 e2 B1 V1 SZ
    refine Tc.plan_floats [1, 2, 3, 4, 7, 8] [_, _, _, _, _, _] rfl ?_
    dsimp only [List.getElem_toArray, List.getElem_cons_succ, List.getElem_cons_zero]
    repeat (go_big_quiet_want; go_big_quiet_op; first | go_big_quiet_on | (refine ⟨_, fun _ _ => rfl, ?_⟩; go_big_quiet_on))
    refine wpQuiet_load_cell rfl 9 (.tmp 18) rfl w.heap.size 2 rfl _ Tryz.underlying9 rfl (.string s) (fun W hW => (stay_row (S := fun k => k = w.heap.size) V2.out rfl hW).cell (i := 2) (by decide)) ?_
    simp only [Act.put, List.setIfInBounds_toArray, List.set_cons_succ, List.set_cons_zero]
    repeat (go_big_quiet_want; go_big_quiet_op; first | go_big_quiet_on | (refine ⟨_, fun _ _ => rfl, ?_⟩; go_big_quiet_on))
    refine wpQuiet_load_cell rfl 9 (.tmp 24) rfl w.heap.size 2 rfl _ Tryz.underlying9 rfl (.string s) (fun W hW => (stay_row (S := fun k => k = w.heap.size) V2.out rfl hW).cell (i := 2) (by decide)) ?_
    simp only [Act.put, List.setIfInBounds_toArray, List.set_cons_succ, List.set_cons_zero]
    refine wpQuiet_nil ?_
    refine Tc.plan_two 0 5 rfl rfl (fun K hK => ?_) (fun K hK => ?_)
    · have K2 := Lib.hid (Below.refl w2.heap.size w2)
      go_wp2_with fail
      have al := (Below.refl _ w2).alloc (Nat.le_refl _) (.cells #[vB 2] 5)
      refine hK _ _ (stay_below al (fun k hk => by subst hk; exact SZ2.out)) ?_
      have OO := Lib.hid (Owns.one w2 2)
      have SZ3 := Lib.hid (Nat.lt_of_lt_of_le SZ2.out al.size)
      have B3 := Lib.hid (B2.out.trans (al.mono B2.out.size))
      have K3 := Lib.hid (K2.out.trans (al.mono K2.out.size))
      obtain ⟨w3, hw3⟩ : ∃ y, w2.alloc (.cells #[vB 2] 5) = y := ⟨_, rfl⟩
      have hw3' : w2.alloc (.cells #[.int .u8 2] 5) = w3 := hw3
      rw [hw3] at OO SZ3 B3 K3
      rw [hw3']
      clear hK K al hw3 hw3'
      refine Tc.plan_one 5 rfl (fun K hK => ?_)
      go_wp2_with fail
      refine (HZ.out _).mono ?_
      rintro e w4 ⟨⟨v2, rfl, o2⟩, b2⟩
      go_wp2_with fail
      refine hK _ _ (stay_below b2 (fun k hk => by subst hk; exact SZ3.out)) ?_
      have O2 := Lib.hid (o2.bytesAt (by have := H10.out; omega))
      have SZ4 := Lib.hid (Nat.lt_of_lt_of_le SZ3.out b2.size)
      have B4 := Lib.hid (B3.out.trans (b2.mono B3.out.size))
      have K4 := Lib.hid (K3.out.trans (b2.mono K3.out.size))
      have OOL := Lib.hid (OO.out.below b2)
      clear hK K o2 b2
      refine Tc.plan_one 6 rfl (fun K hK => ?_)
      refine wpList_app_bytes rfl (.tmp 17) (.tmp 22) rfl w2.heap.size (.slice (some ⟨w2.heap.size, 0, none⟩) 1 1) v2 [2] (numE s.size) rfl rfl OOL.out O2.out (by have := H10.out; simp only [List.length_cons, List.length_nil]; omega) K4.out.size ?_
      intro v5 w5 O5 s5
      go_wp2_with fail
      refine hK _ _ (stay_app s5.out (fun k hk => by subst hk; exact ⟨SZ4.out, fun e => by have := (World.ownsRow.lt OOL.out _ e).1; have := SZ2.out; omega⟩)) ?_
      have K5 := Lib.hid (K4.out.trans (s5.out.below OOL.out K4.out.size))
      clear hK K s5
      refine Tc.plan_done (l := [_, _]) rfl (fun K hK => ?_)
      go_wp2_with ((with_reducible (show wpList _ _ _ (Oper.mk (some 26) _ _ _ _ _ :: _) _ _)); refine wpList_app_string rfl (.tmp 23) (.tmp 25) rfl w2.heap.size v5 s _ rfl rfl O5.out LB.out K5.out.size ?_; intro v6 w6 O6 s6)
      go_ret
      exact ⟨⟨_, rfl, O6.out.lower B2.out.size⟩, B2.out.trans ((K5.out.trans (s6.out.below O5.out K5.out.size)).mono B2.out.size)⟩
    · have K2 := Lib.hid (Below.refl w2.heap.size w2)
      go_wp2_with fail
      refine (HZ.out _).mono ?_
      rintro e w3 ⟨⟨v2, rfl, o2⟩, b2⟩
      go_wp2_with fail
      refine hK _ _ (stay_below b2 (fun k hk => by subst hk; exact SZ2.out)) ?_
      have O2 := Lib.hid (o2.bytesAt (by have := H10.out; omega))
      have SZ3 := Lib.hid (Nat.lt_of_lt_of_le SZ2.out b2.size)
      have B3 := Lib.hid (B2.out.trans (b2.mono B2.out.size))
      have K3 := Lib.hid (K2.out.trans (b2.mono K2.out.size))
      clear hK K o2 b2
      refine Tc.plan_one 0 rfl (fun K hK => ?_)
      go_wp2_with fail
      have al := (Below.refl _ w3).alloc (Nat.le_refl _) (.cells #[vB 2] 5)
      refine hK _ _ (stay_below al (fun k hk => by subst hk; exact SZ3.out)) ?_
      have OO := Lib.hid (Owns.one w3 2)
      have SZ4 := Lib.hid (Nat.lt_of_lt_of_le SZ3.out al.size)
      have B4 := Lib.hid (B3.out.trans (al.mono B3.out.size))
      have K4 := Lib.hid (K3.out.trans (al.mono K3.out.size))
      have O2' := Lib.hid (O2.out.below al)
      clear O2
      obtain ⟨w4, hw4⟩ : ∃ y, w3.alloc (.cells #[vB 2] 5) = y := ⟨_, rfl⟩
      have hw4' : w3.alloc (.cells #[.int .u8 2] 5) = w4 := hw4
      rw [hw4] at OO SZ4 B4 K4 O2'
      rw [hw4']
      clear hK K al hw4 hw4'
      have O2 := O2'
      have OOL := Lib.hid (OO.out.lower K3.out.size)
      refine Tc.plan_one 6 rfl (fun K hK => ?_)
      refine wpList_app_bytes rfl (.tmp 17) (.tmp 22) rfl w2.heap.size (.slice (some ⟨w3.heap.size, 0, none⟩) 1 1) v2 [2] (numE s.size) rfl rfl OOL.out O2.out (by have := H10.out; simp only [List.length_cons, List.length_nil]; omega) K4.out.size ?_
      intro v5 w5 O5 s5
      go_wp2_with fail
      refine hK _ _ (stay_app s5.out (fun k hk => by subst hk; exact ⟨SZ4.out, fun e => by have := (World.ownsRow.lt OOL.out _ e).1; have := SZ2.out; omega⟩)) ?_
      have K5 := Lib.hid (K4.out.trans (s5.out.below OOL.out K4.out.size))
      clear hK K s5
      refine Tc.plan_done (l := [_, _]) rfl (fun K hK => ?_)
      go_wp2_with ((with_reducible (show wpList _ _ _ (Oper.mk (some 26) _ _ _ _ _ :: _) _ _)); refine wpList_app_string rfl (.tmp 23) (.tmp 25) rfl w2.heap.size v5 s _ rfl rfl O5.out LB.out K5.out.size ?_; intro v6 w6 O6 s6)
      go_ret
      exact ⟨⟨_, rfl, O6.out.lower B2.out.size⟩, B2.out.trans ((K5.out.trans (s6.out.below O5.out K5.out.size)).mono B2.out.size)⟩
  · obtain rfl : k = 3 := h1
    rw [enc_3] at hlen
    rw [depth_3] at ht
    rw [form_3, Bool.and_eq_true] at hf
    have EP : Hid (encV (.mk 3 n s l) = ([3] ++ numE m) ++ encL l) := Lib.hid (by rw [enc_3, hm, List.append_assoc]; rfl)
    have HM := Lib.hid hm
    have CH : Hid (∀ i, i < m → ∀ W, CodAt W (.agg (rowF 4 (c i))) (l.getD i tv0) → Calls Tryz.prog 96 #[.agg (rowF 4 (c i))] W (REncPost (l.getD i tv0) W)) := Lib.hid (fun i hi W h =>
      ih (d - 1) (by omega) (l.getD i tv0) _ W (depth_child (by rw [hm]; exact hi) (by omega)) (by
        cases hb : formB (l.getD i tv0) with
        | true => rfl
        | false => rw [formL_no (by rw [hm]; exact hi) hb] at hf; exact absurd hf.2 (by decide)) h (by
        have h2 := encL_le l (i := i) (by rw [hm]; exact hi)
        simp only [List.length_cons, List.length_append] at hlen
        omega))
    unfold REncPost
    rw [EP.out]
    rw [hm] at hl hc hlen zm ⊢
    have HL2 := Lib.hid hl
    have HC := Lib.hid hc
    have HS := Lib.hid (show m < 18446744073709551616 by omega)
    have HZ := Lib.hid (fun W => rnumeral_any m HS.out W)
    have H10 := Lib.hid (numE_10 HS.out)
    have w1 : IntKind.u64.wrap (m : Int) = (m : Int) := by rw [IntKind.wrap_u64]; omega
    have HL := Lib.hid hlen
    have L0 : Hid (encL (l.take 0) = []) := Lib.hid (by simp [encL])
    clear hl hc hv hm hlen EP ih ht hf
    go_enter Tryz.func96, Tryz.ntmps96
    have B0 := Lib.hid (Below.refl w.heap.size w)
    go_upto_region 1 with fail
    obtain ⟨w1, hw1⟩ : ∃ y, w.alloc (.cells #[.int .i64 3, .int .i64 n, .string s, .slice a m cap] 90) = y := ⟨_, rfl⟩
    have b1 : Below w.heap.size w w1 := by rw [← hw1]; exact (Below.refl _ _).alloc (Nat.le_refl _) _
    have V1 : Hid (RowV w1 w.heap.size 90 4 (valC 3 n s (.slice a m cap))) := Lib.hid (by rw [← hw1]; exact RowV.new w _ 4 (valC 3 n s (.slice a m cap)))
    have z1 : w.heap.size + 1 = w1.heap.size := by rw [← hw1]; exact (Array.size_push _).symm
    rw [hw1]
    (try rw [z1])
    have B1 := Lib.hid (B0.out.trans (b1.mono B0.out.size))
    clear b1 hw1 z1 B0
    have x0 : _ = some (Value.int .i64 3) := V1.out.cell (i := 0) (by decide)
    have x3 : (w1.alloc (.cells #[.int .u8 3] 5)).cell? ⟨w.heap.size, 3, none⟩ = some (Value.slice a m cap) := (V1.out.alloc _).cell (i := 3) (by decide)
    have OB := Lib.hid (Owns.one w1 3)
    go_wp2_with fail
    refine (HZ.out _).mono ?_
    rintro e w2 ⟨⟨v2, rfl, o2⟩, b2⟩
    have O2 := Lib.hid (o2.bytesAt (by have := H10.out; omega))
    have OO := Lib.hid (OB.out.below b2)
    have K2 := Lib.hid (((Below.refl _ w1).alloc (Nat.le_refl _) _).trans (b2.mono (by rw [World.size_alloc]; omega)))
    clear o2 b2 OB x0 x3
    go_upto_region 7 with ((with_reducible (show wpList _ _ _ (Oper.mk (some 33) _ _ _ _ _ :: _) _ _)); refine wpList_app_bytes rfl (.tmp 27) (.tmp 32) rfl w1.heap.size (.slice (some ⟨w1.heap.size, 0, none⟩) 1 1) v2 [3] (numE m) rfl rfl OO.out O2.out (by have := H10.out; simp only [List.length_cons, List.length_nil]; omega) K2.out.size ?_; intro v3 w3 O3 s3)
    have K3 := Lib.hid (K2.out.trans (s3.out.below OO.out K2.out.size))
    clear s3 OO O2 K2
    go_wp2_with fail
    go_loopg [3, 4] m (fun g s3 s4 wx => ∃ (i : Nat) (u : Value), i + g = m ∧ s4 = .int .i64 (i : Int) ∧ s3 = u ∧ Hid (Owns wx w1.heap.size u (([3] ++ numE m) ++ encL (l.take i))) ∧ Hid (Below w1.heap.size w1 wx))
    case atStart => exact ⟨0, v3, by omega, rfl, rfl, Lib.hid (by rw [L0.out, List.append_nil]; exact O3.out), K3⟩
    case round =>
      clear O3 K3
      obtain ⟨i, u, hi, rfl, e2, hO, hB⟩ := hrel
      obtain rfl : u = _ := e2.symm
      obtain ⟨w5, rfl⟩ : ∃ y, y = wr := ⟨_, rfl⟩
      have V5 := Lib.hid (V1.out.below hB.out)
      have B5 := Lib.hid (B1.out.trans (hB.out.mono B1.out.size))
      have x3 : _ = some (Value.slice a m cap) := V5.out.cell (i := 3) (by decide)
      by_cases hlt : i < m
      · obtain ⟨b2, off, rfl, hcap, hb2, hcell⟩ := (HL2.out.below B5.out).at_elem hlt
        have HE := Lib.hid (hcell i hlt)
        have CE := Lib.hid (HC.out i hlt)
        have CA := Lib.hid (CH.out i hlt)
        have ET := Lib.hid (encL_take l (k := i) (by rw [HM.out]; exact hlt))
        have EL := Lib.hid (encL_le l (i := i) (by rw [HM.out]; exact hlt))
        obtain ⟨ti, hti⟩ : ∃ f, l.getD i tv0 = f := ⟨_, rfl⟩
        rw [hti] at CE CA ET EL
        have LB : Hid ((([3] ++ numE m) ++ encL (l.take i)).length + (encV ti).length ≤ 140737488340000) := Lib.hid (by
          have h1 := HL.out; have h2 := EL.out
          simp only [List.length_append, List.length_cons, List.length_nil] at h1 ⊢; omega)
        have d0 : decide ((i : Int) < (m : Int)) = true := by rw [decide_eq_true_iff]; omega
        have z1 : (0 : Int) ≤ (i : Int) := Int.natCast_nonneg i
        have z2 : (i : Int) < (m : Int) := by omega
        have p0 : 0 ≤ (i : Int) ∧ (i : Int) < (m : Int) := by omega
        have z3 : ((i : Int)).toNat = i := Int.toNat_natCast i
        clear hcell hti hb2 hlt EL
        go_wp2_with ((with_reducible (show wpList _ _ _ (Oper.mk (some 46) _ _ _ _ _ :: _) _ _)); refine wpList_load_elem rfl 90 (.tmp 45) rfl b2 _ rfl 4 off i (by omega) (c i) HE.out _ Tryz.underlying90 rfl (by kernel_rfl) ?_)
        refine (CA.out _ (CE.out.later B5.out)).mono ?_
        rintro e w6 ⟨⟨v6, rfl, o6⟩, b6⟩
        have O6 := Lib.hid (o6.bytesAt (by have := LB.out; omega))
        have OU := Lib.hid (hO.out.below b6)
        have K6 := Lib.hid (hB.out.trans (b6.mono hB.out.size))
        clear o6 b6 hO hB HE CE CA x3 V5 B5
        go_wp2_with ((with_reducible (show wpList _ _ _ (Oper.mk (some 48) _ _ _ _ _ :: _) _ _)); refine wpList_app_bytes rfl (.tmp 41) (.tmp 47) rfl w1.heap.size u v6 _ (encV ti) rfl rfl OU.out O6.out (by have := LB.out; omega) K6.out.size ?_; intro v7 w7 O7 s7)
        go_roundg (gk - 1)
        case measure => omega
        case rel =>
          go_light
          exact ⟨i + 1, v7, by omega, by go_num, rfl, Lib.hid (by have h := O7.out; rw [List.append_assoc, ← ET.out] at h; exact h), Lib.hid (K6.out.trans (s7.out.below OU.out K6.out.size))⟩
      · obtain rfl : i = m := by omega
        have d0 : decide ((i : Int) < (i : Int)) = false := by rw [decide_eq_false_iff_not]; omega
        have e1 : Hid (l.take i = l) := Lib.hid (List.take_of_length_le (by rw [HM.out]; exact Nat.le_refl _))
        go_wp2_with fail
        go_ret
        exact ⟨⟨u, rfl, by have h := hO.out; rw [e1.out] at h; exact h.lower B1.out.size⟩, B5.out⟩
end Go.Proofs.YtmmppibbglacdaaGreatDoor

namespace Go.Proofs.YtmmppibbglacdaaGreatDoor
open Go.RowKit Cod
set_option maxRecDepth 100000 in
set_option maxHeartbeats 8000000 in
theorem rcencode_any (t : Tv) (v : Value) (w : World) (hd : depthN t ≤ 1000) (hv : CodAt w v t) (hlen : (encV t).length ≤ 140737488340000) :
    Calls Tryz.prog 65 #[v] w (EncPost t w) := by
  have H := Lib.hid (fun W h => rccheck_any t v W hd h)
  have HE := Lib.hid (fun (hf : formB t = true) W h => rencode_any 1000 t v W hd hf h hlen)
  have HV := Lib.hid hv
  obtain ⟨k, n, s, l⟩ := t
  obtain ⟨a, cap, c, rfl, -⟩ := hv.open
  obtain ⟨m, hm⟩ : ∃ m, l.length = m := ⟨_, rfl⟩
  rw [hm] at H HE HV ⊢
  obtain ⟨ct, hct⟩ : ∃ y, chkT (.mk k n s l) = y := ⟨_, rfl⟩
  have HCT := Lib.hid hct
  rw [hct] at H
  clear hm hct hv hlen hd
  rcases (HCT.out ▸ chkT_3 (.mk k n s l) : ct = 0 ∨ ct = 1 ∨ ct = 2) with h0 | h0
  · subst h0
    have HF := chkT_0 HCT.out
    have E1 := Lib.hid (HE.out HF.1)
    have EP : Hid (EncPost (.mk k n s l) w = fun e w' => (∃ u, e = .returned (.tuple #[u, .int .i64 0]) ∧ Owns w' w.heap.size u (encV (.mk k n s l))) ∧ Below w.heap.size w w') := Lib.hid (by
      funext e w'; unfold EncPost; rw [HCT.out, if_pos rfl])
    rw [EP.out]
    clear HF HE EP HCT
    go_enter Tryz.func65, Tryz.ntmps65
    have B0 := Lib.hid (Below.refl w.heap.size w)
    go_upto_region 1 with fail
    obtain ⟨w1, hw1⟩ : ∃ y, w.alloc (.cells #[.int .i64 k, .int .i64 n, .string s, .slice a m cap] 90) = y := ⟨_, rfl⟩
    have b1 : Below w.heap.size w w1 := by rw [← hw1]; exact (Below.refl _ _).alloc (Nat.le_refl _) _
    have V1 : Hid (RowV w1 w.heap.size 90 4 (valC k n s (.slice a m cap))) := Lib.hid (by rw [← hw1]; exact RowV.new w _ 4 (valC k n s (.slice a m cap)))
    have z1 : w.heap.size + 1 = w1.heap.size := by rw [← hw1]; exact (Array.size_push _).symm
    rw [hw1]
    (try rw [z1])
    have B1 := Lib.hid (B0.out.trans (b1.mono B0.out.size))
    clear b1 hw1 z1 B0
    have x0 : _ = some (Value.int .i64 k) := V1.out.cell (i := 0) (by decide)
    have x1 : _ = some (Value.int .i64 n) := V1.out.cell (i := 1) (by decide)
    have x2 : _ = some (Value.string s) := V1.out.cell (i := 2) (by decide)
    have x3 : _ = some (Value.slice a m cap) := V1.out.cell (i := 3) (by decide)
    have C1 := Lib.hid (HV.out.later B1.out)
    go_wp2_with fail
    refine (H.out _ C1.out).mono ?_
    rintro e w2 ⟨rfl, b2⟩
    have B2 := Lib.hid (B1.out.trans (b2.mono B1.out.size))
    have V2 := Lib.hid (V1.out.below b2)
    clear b2 B1 V1
    clear x0 x1 x2 x3 H C1
    have x0 : _ = some (Value.int .i64 k) := V2.out.cell (i := 0) (by decide)
    have x1 : _ = some (Value.int .i64 n) := V2.out.cell (i := 1) (by decide)
    have x2 : _ = some (Value.string s) := V2.out.cell (i := 2) (by decide)
    have x3 : _ = some (Value.slice a m cap) := V2.out.cell (i := 3) (by decide)
    have C2 := Lib.hid (HV.out.later B2.out)
    go_wp2_with fail
    refine (E1.out _ C2.out).mono ?_
    rintro e w3 ⟨⟨u, rfl, o3⟩, b3⟩
    have O3 := Lib.hid (o3.lower B2.out.size)
    have B3 := Lib.hid (B2.out.trans (b3.mono B2.out.size))
    clear o3 b3 x0 x1 x2 x3 C2
    go_wp2_with fail
    go_ret2
    exact ⟨⟨u, rfl, O3.out⟩, B3.out⟩
  · have EP : Hid (EncPost (.mk k n s l) w = fun e w' => e = .returned (.tuple #[.slice none 0 0, .int .i64 ct]) ∧ Below w.heap.size w w') := Lib.hid (by
      funext e w'; unfold EncPost; rw [HCT.out, if_neg (by rcases h0 with h | h <;> rw [h] <;> decide)])
    rw [EP.out]
    clear EP HE HCT
    rcases h0 with h0 | h0 <;> subst h0
    · go_enter Tryz.func65, Tryz.ntmps65
      have B0 := Lib.hid (Below.refl w.heap.size w)
      go_upto_region 1 with fail
      obtain ⟨w1, hw1⟩ : ∃ y, w.alloc (.cells #[.int .i64 k, .int .i64 n, .string s, .slice a m cap] 90) = y := ⟨_, rfl⟩
      have b1 : Below w.heap.size w w1 := by rw [← hw1]; exact (Below.refl _ _).alloc (Nat.le_refl _) _
      have V1 : Hid (RowV w1 w.heap.size 90 4 (valC k n s (.slice a m cap))) := Lib.hid (by rw [← hw1]; exact RowV.new w _ 4 (valC k n s (.slice a m cap)))
      have z1 : w.heap.size + 1 = w1.heap.size := by rw [← hw1]; exact (Array.size_push _).symm
      rw [hw1]
      (try rw [z1])
      have B1 := Lib.hid (B0.out.trans (b1.mono B0.out.size))
      clear b1 hw1 z1 B0
      have x0 : _ = some (Value.int .i64 k) := V1.out.cell (i := 0) (by decide)
      have x1 : _ = some (Value.int .i64 n) := V1.out.cell (i := 1) (by decide)
      have x2 : _ = some (Value.string s) := V1.out.cell (i := 2) (by decide)
      have x3 : _ = some (Value.slice a m cap) := V1.out.cell (i := 3) (by decide)
      have C1 := Lib.hid (HV.out.later B1.out)
      go_wp2_with fail
      refine (H.out _ C1.out).mono ?_
      rintro e w2 ⟨rfl, b2⟩
      have B2 := Lib.hid (B1.out.trans (b2.mono B1.out.size))
      have V2 := Lib.hid (V1.out.below b2)
      clear b2 B1 V1
      go_wp2_with fail
      go_ret2
      exact ⟨rfl, B2.out⟩
    · go_enter Tryz.func65, Tryz.ntmps65
      have B0 := Lib.hid (Below.refl w.heap.size w)
      go_upto_region 1 with fail
      obtain ⟨w1, hw1⟩ : ∃ y, w.alloc (.cells #[.int .i64 k, .int .i64 n, .string s, .slice a m cap] 90) = y := ⟨_, rfl⟩
      have b1 : Below w.heap.size w w1 := by rw [← hw1]; exact (Below.refl _ _).alloc (Nat.le_refl _) _
      have V1 : Hid (RowV w1 w.heap.size 90 4 (valC k n s (.slice a m cap))) := Lib.hid (by rw [← hw1]; exact RowV.new w _ 4 (valC k n s (.slice a m cap)))
      have z1 : w.heap.size + 1 = w1.heap.size := by rw [← hw1]; exact (Array.size_push _).symm
      rw [hw1]
      (try rw [z1])
      have B1 := Lib.hid (B0.out.trans (b1.mono B0.out.size))
      clear b1 hw1 z1 B0
      have x0 : _ = some (Value.int .i64 k) := V1.out.cell (i := 0) (by decide)
      have x1 : _ = some (Value.int .i64 n) := V1.out.cell (i := 1) (by decide)
      have x2 : _ = some (Value.string s) := V1.out.cell (i := 2) (by decide)
      have x3 : _ = some (Value.slice a m cap) := V1.out.cell (i := 3) (by decide)
      have C1 := Lib.hid (HV.out.later B1.out)
      go_wp2_with fail
      refine (H.out _ C1.out).mono ?_
      rintro e w2 ⟨rfl, b2⟩
      have B2 := Lib.hid (B1.out.trans (b2.mono B1.out.size))
      have V2 := Lib.hid (V1.out.below b2)
      clear b2 B1 V1
      go_wp2_with fail
      go_ret2
      exact ⟨rfl, B2.out⟩
set_option maxRecDepth 100000 in
set_option maxHeartbeats 2000000 in
theorem rint_any (n : Int) (w : World) :
    Calls Tryz.prog 97 #[.int .i64 n] w fun e w' => e = .returned (.agg #[.int .i64 1, .int .i64 n, .string ByteArray.empty, .slice none 0 0]) ∧ Below w.heap.size w w' := by
  go_enter Tryz.func97, Tryz.ntmps97
  go_wp2_with fail
  refine bodyPost_ret (v := .agg #[.int .i64 1, .int .i64 n, .string ByteArray.empty, .slice none 0 0]) (by exact results_rowV (fn := Tryz.f97) (p := 2) (ty := 90) rfl _ _ w.heap.size 4 90 (valC 1 n ByteArray.empty (.slice none 0 0)) _ rfl (RowV.new w _ 4 (valC 1 n ByteArray.empty (.slice none 0 0))) Tryz.underlying90 rfl (by kernel_rfl)) rfl ⟨rfl, ?_⟩
  exact (Below.refl _ w).alloc (Nat.le_refl _) _
end Go.Proofs.YtmmppibbglacdaaGreatDoor

namespace Go.Proofs.YtmmppibbglacdaaGreatDoor
open Go.RowKit Cod
end Go.Proofs.YtmmppibbglacdaaGreatDoor

namespace Go.Proofs.YtmmppibbglacdaaGreatDoor
open Go.RowKit Cod
end Go.Proofs.YtmmppibbglacdaaGreatDoor

namespace Go.Proofs.YtmmppibbglacdaaGreatDoor
open Go.RowKit Cod
end Go.Proofs.YtmmppibbglacdaaGreatDoor

namespace Go.Proofs.YtmmppibbglacdaaGreatDoor
open Go.RowKit Cod
def SlS (S : Nat → Prop) (s : Nat) (w : World) (v : Value) (n : Nat) (c : Nat → Nat → Value) : Prop :=
  ((∃ (a : Option Addr) (k : Nat), v = .slice a 0 k ∧ (a = none → k = 0)) ∧ n = 0) ∨
  ∃ b off cap : Nat, v = .slice (some ⟨b, off, none⟩) n cap ∧ n ≤ cap ∧ 0 < n ∧ ((n : Int) ≤ 140737488351232 ∧ (cap : Int) ≤ 9223372036854775807) ∧ (b < w.heap.size ∧ S b) ∧ ∀ i, i < n → ∀ j, j < s → w.cell? ⟨b, off + s * i + j, none⟩ = some (c i j)
theorem SlS.at' {S : Nat → Prop} {s : Nat} {w : World} {v : Value} {n : Nat} {c : Nat → Nat → Value} (h : SlS S s w v n c) : SlAt s w v n c := by
  rcases h with h | ⟨b, off, cap, h1, h2, h3, h4, h5, h6⟩
  · exact .inl h
  · exact .inr ⟨b, off, cap, h1, h2, h3, h4, h5.1, h6⟩
theorem SlS.keep {S S' : Nat → Prop} {s : Nat} {w w' : World} {v : Value} {n : Nat} {c : Nat → Nat → Value} (h : SlS S s w v n c) (hs : w.heap.size ≤ w'.heap.size) (hb : ∀ b, b < w.heap.size → S b → S' b ∧ w'.heap[b]? = w.heap[b]?) : SlS S' s w' v n c := by
  rcases h with h | ⟨b, off, cap, h1, h2, h3, h4, h5, h6⟩
  · exact .inl h
  · obtain ⟨g1, g2⟩ := hb b h5.1 h5.2
    exact .inr ⟨b, off, cap, h1, h2, h3, h4, ⟨Nat.lt_of_lt_of_le h5.1 hs, g1⟩, fun i hi j hj => (World.cell?_of_block (w := w) (w' := w') (a := ⟨b, off + s * i + j, none⟩) g2).trans (h6 i hi j hj)⟩
inductive CodS (S : Nat → Prop) (w : World) : Value → Tv → Prop
  | mk (k n : Int) (s : ByteArray) (sl : Value) (l : List Tv) (c : Nat → Nat → Value) (hk : i64B k) (hn : i64B n) (hs : (s.size : Int) ≤ 140737488351232) (hl : SlS S 4 w sl l.length c)
      (h : ∀ i, i < l.length → CodS S w (.agg (rowF 4 (c i))) (l.getD i tv0)) : CodS S w (.agg #[.int .i64 k, .int .i64 n, .string s, sl]) (.mk k n s l)
theorem CodS.at' {S : Nat → Prop} {w : World} {v : Value} {t : Tv} (h : CodS S w v t) : CodAt w v t := by
  induction h with
  | mk k n s sl l c hk hn hs hl _ ih => exact .mk k n s sl l c hk hn hs hl.at' ih
theorem CodS.keep {S S' : Nat → Prop} {w w' : World} {v : Value} {t : Tv} (h : CodS S w v t) (hs : w.heap.size ≤ w'.heap.size) (hb : ∀ b, b < w.heap.size → S b → S' b ∧ w'.heap[b]? = w.heap[b]?) : CodS S' w' v t := by
  induction h with
  | mk k n s sl l c hk hn hs' hl _ ih => exact .mk k n s sl l c hk hn hs' (hl.keep hs hb) ih
/-- the cells of so many values -/
def flatC (n : Nat) (c : Nat → Nat → Value) : List Value := (List.range (4 * n)).map fun j => c (j / 4) (j % 4)
theorem flatC_get {n : Nat} {c : Nat → Nat → Value} {i j : Nat} (hi : i < n) (hj : j < 4) : (flatC n c)[4 * i + j]? = some (c i j) := by
  unfold flatC
  rw [List.getElem?_map, List.getElem?_range (by omega), Option.map_some, show (4 * i + j) / 4 = i by omega, show (4 * i + j) % 4 = j by omega]
theorem flatC_succ (n : Nat) (c : Nat → Nat → Value) (f : Nat → Value) : flatC (n + 1) (fun i => if i = n then f else c i) = flatC n c ++ [f 0, f 1, f 2, f 3] := by
  unfold flatC
  rw [show 4 * (n + 1) = 4 * n + 4 by omega, List.range_add, List.map_append]
  congr 1
  · refine List.map_congr_left fun j hj => ?_
    have := List.mem_range.1 hj
    show (if j / 4 = n then f else c (j / 4)) (j % 4) = c (j / 4) (j % 4)
    rw [if_neg (by omega)]
  · simp only [List.map_map]
    show [_, _, _, _] = _
    simp only [Function.comp_apply]
    rw [show (4 * n + 0) / 4 = n by omega, show (4 * n + 1) / 4 = n by omega, show (4 * n + 2) / 4 = n by omega, show (4 * n + 3) / 4 = n by omega, show (4 * n + 0) % 4 = 0 by omega, show (4 * n + 1) % 4 = 1 by omega, show (4 * n + 2) % 4 = 2 by omega, show (4 * n + 3) % 4 = 3 by omega]
    simp
/-- a list of values of the call's own -/
def OwnV (w : World) (base : Nat) (v : Value) (ts : List Tv) : Prop :=
  ∃ c, w.ownsRow base 90 4 v ts.length (flatC ts.length c) ∧ ∀ i, i < ts.length → CodS (fun b => base ≤ b ∧ v.ownBlock ≠ some b) w (.agg (rowF 4 (c i))) (ts.getD i tv0)
theorem OwnV.nil (w : World) (base : Nat) : OwnV w base (.slice none 0 0) [] := ⟨fun _ _ => .int .i64 0, World.ownsRow_nil _ _ _ _, fun i hi => absurd hi (by simp)⟩
theorem OwnV.keep {w w' : World} {base : Nat} {v : Value} {ts : List Tv} (h : OwnV w base v ts) (hs : w.grownBy w' none) (hb : ∀ b, base ≤ b → b < w.heap.size → w'.heap[b]? = w.heap[b]?) : OwnV w' base v ts := by
  obtain ⟨c, h1, h2⟩ := h
  refine ⟨c, World.ownsRow.kept h1 (row := none) hs ?_, fun i hi => (h2 i hi).keep hs.size (fun b hlt hS => ⟨hS, hb b hS.1 hlt⟩)⟩
  cases hv : v.ownBlock with
  | none => exact .inl rfl
  | some k => exact .inr (by simp)
theorem OwnV.only {w w' : World} {base rb : Nat} {v : Value} {ts : List Tv} (h : OwnV w base v ts) (os : w'.os = w.os) (tape : w'.tape = w.tape) (output : w'.output = w.output) (hs : w.heap.size ≤ w'.heap.size) (hb : ∀ b, b < w.heap.size → b ≠ rb → w'.heap[b]? = w.heap[b]?) (hrb : rb < base) : OwnV w' base v ts := by
  obtain ⟨c, h1, h2⟩ := h
  refine ⟨c, World.ownsRow.kept h1 (row := some rb) ⟨os, tape, output, hs, fun k hk hn => hb k hk (fun e => hn (by rw [e]))⟩ ?_, fun i hi => (h2 i hi).keep hs (fun b hlt hS => ⟨hS, hb b hlt (by have := hS.1; omega)⟩)⟩
  cases hv : v.ownBlock with
  | none => exact .inl rfl
  | some k => exact .inr (by intro e; have := (World.ownsRow.lt h1 k hv).1; rw [Option.some.inj e] at this; omega)
theorem OwnV.lt {w : World} {base : Nat} {v : Value} {ts : List Tv} (h : OwnV w base v ts) : ∀ k, v.ownBlock = some k → base ≤ k ∧ k < w.heap.size := by
  obtain ⟨c, h1, _⟩ := h; exact World.ownsRow.lt h1
theorem OwnV.slice {w : World} {base : Nat} {v : Value} {ts : List Tv} (h : OwnV w base v ts) : ∃ (a : Option Addr) (c : Nat), v = .slice a ts.length c := by
  obtain ⟨c, h1, _⟩ := h
  rcases h1.2 with ⟨rfl, h3⟩ | ⟨g, cap, cur, rfl, _⟩
  · exact ⟨none, 0, by rw [h3]⟩
  · exact ⟨_, _, rfl⟩
theorem CodS.agg {S : Nat → Prop} {w : World} {u : Value} {t : Tv} (h : CodS S w u t) : ∃ k n s a m c, u = .agg #[.int .i64 k, .int .i64 n, .string s, .slice a m c] := by
  cases h with
  | mk k n s sl l c hk hn hs hl hi =>
    obtain ⟨a, cap, rfl⟩ := hl.at'.slice
    exact ⟨k, n, s, a, _, cap, rfl⟩
/-- it reads as a list -/
theorem OwnV.read {w : World} {base : Nat} {v : Value} {ts : List Tv} (h : OwnV w base v ts) (hn : (ts.length : Int) ≤ 140737488351232) {S : Nat → Prop} (hS : ∀ b, base ≤ b → S b) :
    ∃ c, SlS S 4 w v ts.length c ∧ ∀ i, i < ts.length → CodS S w (.agg (rowF 4 (c i))) (ts.getD i tv0) := by
  obtain ⟨c, h1, h2⟩ := h
  refine ⟨c, ?_, fun i hi => (h2 i hi).keep (Nat.le_refl _) (fun b _ hb => ⟨hS b hb.1, rfl⟩)⟩
  rcases h1.2 with ⟨rfl, h3⟩ | ⟨g, cap, cur, rfl, hb, hg, hle, hm, hs, ht⟩
  · exact .inl ⟨⟨none, 0, rfl, fun _ => rfl⟩, h3⟩
  · by_cases h0 : ts.length = 0
    · exact .inl ⟨⟨_, cap, by rw [h0], fun h => by cases h⟩, h0⟩
    · unfold maxLen at hm
      refine .inr ⟨g, 0, cap, rfl, hle, by omega, ⟨hn, by omega⟩, ⟨(Array.getElem?_eq_some_iff.1 hg).1, hS g hb⟩, fun i hi j hj => ?_⟩
      have h4 := World.ownsRow.cells h1 (g := g) rfl (4 * i + j) (c i j) (flatC_get hi hj)
      rw [Addr.add_mid, Nat.add_assoc] at *
      simpa using h4
theorem info_val3 : (Tryz.prog.info? 90).map (fun i => (i.zero, i.size, i.bytes)) = some (some (.agg #[.int .i64 0, .int .i64 0, .string ByteArray.empty, .slice none 0 0]), 4, 56) := by kernel_rfl
theorem info_parts3 {T : TypeId} {z : Value} {s b : Nat} (h : (Tryz.prog.info? T).map (fun i => (i.zero, i.size, i.bytes)) = some (some z, s, b)) : ∃ i, Tryz.prog.info? T = some i ∧ i.zero = some z ∧ i.size = s ∧ i.bytes = b := by
  obtain ⟨i, h1, h2⟩ := Option.map_eq_some_iff.1 h
  simp only [Prod.mk.injEq] at h2
  exact ⟨i, h1, h2.1, h2.2.1, h2.2.2⟩
/-- append(v.L, x) of one value -/
theorem wpList_app_val {w : World} {ops : Array Oper} {rest : List Oper} {o : Oper} {a : Act} {Q : Exit → Act → World → Prop} (hgd : o.guard = none) (s x : Operand)
    (ho : o.op = .call { callee := .builtin .append, args := #[s, x], argTypes := #[88, 88] })
    (base : Nat) (v : Value) (ts : List Tv) (hs : a.eval s = v) (hown : OwnV w base v ts) (g2 c2 : Nat) (f : Nat → Value) (t : Tv) (hx : a.eval x = .slice (some ⟨g2, 0, none⟩) 1 c2)
    (hrow : RowV w g2 90 4 f) (ht : CodS (fun b => base ≤ b ∧ v.ownBlock ≠ some b) w (.agg (rowF 4 f)) t) (hlen : ts.length ≤ 1000000) (hbase : base ≤ w.heap.size)
    (h : ∀ v' w', Hid (OwnV w' base v' (ts ++ [t])) → Hid (AppStep w v w' v') → wpList Tryz.prog ops Q rest (a.put o.dst v') w') : wpList Tryz.prog ops Q (o :: rest) a w := by
  obtain ⟨c, h1, h2⟩ := hown
  obtain ⟨i0, hi, hz0, hz1, hz2⟩ := info_parts3 info_val3
  have hone := ht.at'.cells
  refine wpList_app hgd s x 88 ho base 90 i0 _ 4 56 Tryz.underlying88 hi hz0 hz1 hz2 rfl (by decide) v ts.length (flatC ts.length c) hs h1 ⟨g2, 0, none⟩ 1 c2 [f 0, f 1, f 2, f 3] hx rfl ?_ ?_ (by unfold maxLen; omega) (by omega) hbase ?_
  · intro j u hj
    rw [Addr.add_mid, Nat.zero_add]
    have hj4 : j < 4 := by have := (List.getElem?_eq_some_iff.1 hj).1; simpa using this
    rw [hrow.cell hj4, ← hj]
    match j, hj4 with
    | 0, _ => rfl
    | 1, _ => rfl
    | 2, _ => rfl
    | 3, _ => rfl
  · intro u hu
    simp only [List.mem_cons, List.not_mem_nil, or_false] at hu
    rcases hu with rfl | rfl | rfl | rfl
    · exact hone 0 (by decide)
    · exact hone 1 (by decide)
    · exact hone 2 (by decide)
    · exact hone 3 (by decide)
  · intro v' w' h3 h4
    have keepS : ∀ {u : Value} {q : Tv}, CodS (fun b => base ≤ b ∧ v.ownBlock ≠ some b) w u q → CodS (fun b => base ≤ b ∧ v'.ownBlock ≠ some b) w' u q := fun hq =>
      hq.keep h4.1.size (fun b hlt hS => ⟨⟨hS.1, h4.ne hlt hS.2⟩, h4.block hlt hS.2⟩)
    refine h v' w' ⟨fun i => if i = ts.length then f else c i, ?_, ?_⟩ h4
    · rw [List.length_append, List.length_singleton, flatC_succ]; exact h3
    · intro i hi
      rw [List.length_append, List.length_singleton] at hi
      show CodS _ _ (.agg (rowF 4 (if i = ts.length then f else c i))) _
      by_cases e : i = ts.length
      · subst e
        rw [if_pos rfl, List.getD_eq_getElem?_getD, List.getElem?_append_right (Nat.le_refl _), Nat.sub_self]
        exact keepS ht
      · rw [if_neg e, List.getD_eq_getElem?_getD, List.getElem?_append_left (by omega), ← List.getD_eq_getElem?_getD]
        exact keepS (h2 i (by omega))
end Go.Proofs.YtmmppibbglacdaaGreatDoor
