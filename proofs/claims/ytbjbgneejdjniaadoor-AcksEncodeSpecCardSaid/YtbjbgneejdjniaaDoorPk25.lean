/- The reference of the codec: encode, Encode. -/
import Derived.Test.YtbjbgneejdjniaaDoorPk24
set_option linter.unusedVariables false
set_option linter.unusedSimpArgs false
namespace Go.Proofs.YtbjbgneejdjniaaDoor
open Go.RowKit Cod
def REncPost (t : Tv) (w : World) (e : Ending) (w' : World) : Prop := (∃ u, e = .returned u ∧ Owns w' w.heap.size u (encV t)) ∧ Below w.heap.size w w'
set_option maxRecDepth 100000 in
set_option maxHeartbeats 16000000 in
theorem rencode_any : ∀ (d : Nat), ∀ (t : Tv) (v : Value) (w : World), depthN t ≤ d → formB t = true → CodAt w v t → (encV t).length ≤ 140737488340000 →
    Calls Tryd.prog 55 #[v] w (REncPost t w) := by
  intro d
  induction d using Nat.strongRecOn with
  | ind d ih =>
  intro t v w ht hf hv hlen
  obtain ⟨k, n, s, l⟩ := t
  obtain ⟨a, cap, c, rfl, hk, hn, hs, hl, hc⟩ := hv.open
  obtain ⟨m, hm⟩ : ∃ m, l.length = m := ⟨_, rfl⟩
  have zm := hl.len_le
  rcases form_kind hf with h1 | h1 | h1
  · obtain rfl : k = 1 := h1
    rw [enc_1] at hlen
    have EP : Hid (encV (.mk 1 n s l) = [1] ++ numE (zig n)) := Lib.hid (enc_1 n s l)
    unfold REncPost
    rw [EP.out]
    rw [hm] at *
    have HU := Lib.hid (fun W => runsigned_any n hn W)
    have HZ := Lib.hid (fun W => rnumeral_any (zig n) (zig_lt hn.1 hn.2) W)
    have H10 := Lib.hid (numE_10 (zig_lt hn.1 hn.2))
    obtain ⟨u, hu⟩ : ∃ u, zig n = u := ⟨_, rfl⟩
    rw [hu] at HU HZ H10 ⊢
    clear hl hc hv hm hlen hu EP ih ht hf
    go_enter Tryd.func55, Tryd.ntmps55
    have B0 := Lib.hid (Below.refl w.heap.size w)
    go_upto_region 1 with fail
    obtain ⟨w1, hw1⟩ : ∃ y, w.alloc (.cells #[.int .i64 1, .int .i64 n, .string s, .slice a m cap] 51) = y := ⟨_, rfl⟩
    have b1 : Below w.heap.size w w1 := by rw [← hw1]; exact (Below.refl _ _).alloc (Nat.le_refl _) _
    have V1 : Hid (RowV w1 w.heap.size 51 4 (valC 1 n s (.slice a m cap))) := Lib.hid (by rw [← hw1]; exact RowV.new w _ 4 (valC 1 n s (.slice a m cap)))
    have z1 : w.heap.size + 1 = w1.heap.size := by rw [← hw1]; exact (Array.size_push _).symm
    rw [hw1]
    (try rw [z1])
    have B1 := Lib.hid (B0.out.trans (b1.mono B0.out.size))
    clear b1 hw1 z1 B0
    have x0 : _ = some (Value.int .i64 1) := V1.out.cell (i := 0) (by decide)
    have x1 : (w1.alloc (.cells #[.int .u8 1] 5)).cell? ⟨w.heap.size, 1, none⟩ = some (Value.int .i64 n) := (V1.out.alloc _).cell (i := 1) (by decide)
    have OB := Lib.hid (Owns.one w1 1)
    go_wp2_with fail
    refine (HU.out _).mono ?_
    rintro e w' ⟨rfl, rfl⟩
    go_wp2_with fail
    refine (HZ.out _).mono ?_
    rintro e w2 ⟨⟨v2, rfl, o2⟩, b2⟩
    have O2 := Lib.hid (o2.bytesAt (by have := H10.out; omega))
    have OO := Lib.hid (OB.out.below b2)
    have K2 := Lib.hid (((Below.refl _ w1).alloc (Nat.le_refl _) _).trans (b2.mono (by rw [World.size_alloc]; omega)))
    clear o2 b2 OB x0 x1
    go_wp2_with ((with_reducible (show wpList _ _ _ (Oper.mk (some 14) _ _ _ _ _ :: _) _ _)); refine wpList_app_bytes rfl (.tmp 9) (.tmp 13) rfl w1.heap.size (.slice (some ⟨w1.heap.size, 0, none⟩) 1 1) v2 [1] (numE u) rfl rfl OO.out O2.out (by have := H10.out; simp only [List.length_cons, List.length_nil]; omega) K2.out.size ?_; intro v3 w3 O3 s3)
    go_ret
    exact ⟨⟨_, rfl, O3.out.lower B1.out.size⟩, B1.out.trans ((K2.out.trans (s3.out.below OO.out K2.out.size)).mono B1.out.size)⟩
  · obtain rfl : k = 2 := h1
    rw [enc_2] at hlen
    have EP : Hid (encV (.mk 2 n s l) = ([2] ++ numE s.size) ++ s.data.toList) := Lib.hid (by rw [enc_2, List.append_assoc]; rfl)
    unfold REncPost
    rw [EP.out]
    rw [hm] at *
    have HS := Lib.hid (show s.size < 18446744073709551616 by omega)
    have HZ := Lib.hid (fun W => rnumeral_any s.size HS.out W)
    have H10 := Lib.hid (numE_10 HS.out)
    have w1 : IntKind.u64.wrap (s.size : Int) = (s.size : Int) := by rw [IntKind.wrap_u64]; omega
    have HL := Lib.hid hlen
    clear hl hc hv hm hlen EP ih ht hf
    go_enter Tryd.func55, Tryd.ntmps55
    have B0 := Lib.hid (Below.refl w.heap.size w)
    go_upto_region 1 with fail
    obtain ⟨w1, hw1⟩ : ∃ y, w.alloc (.cells #[.int .i64 2, .int .i64 n, .string s, .slice a m cap] 51) = y := ⟨_, rfl⟩
    have b1 : Below w.heap.size w w1 := by rw [← hw1]; exact (Below.refl _ _).alloc (Nat.le_refl _) _
    have V1 : Hid (RowV w1 w.heap.size 51 4 (valC 2 n s (.slice a m cap))) := Lib.hid (by rw [← hw1]; exact RowV.new w _ 4 (valC 2 n s (.slice a m cap)))
    have z1 : w.heap.size + 1 = w1.heap.size := by rw [← hw1]; exact (Array.size_push _).symm
    rw [hw1]
    (try rw [z1])
    have B1 := Lib.hid (B0.out.trans (b1.mono B0.out.size))
    clear b1 hw1 z1 B0
    have x0 : _ = some (Value.int .i64 2) := V1.out.cell (i := 0) (by decide)
    go_upto_region 5 with fail
    clear x0
    have SZ := Lib.hid (V1.out.lt)
    have LB : Hid (([2] ++ numE s.size).length + s.size ≤ 140737488351232) := Lib.hid (by have := HL.out; have h2 := size_data s; simp only [List.length_cons, List.length_append, List.length_nil] at this ⊢; omega)
    refine Tc.wp_region_plan (Tc.Rl.stay (fun k => k = w.heap.size)) 9 [] (.fl 1 (.fl 2 (.fl 3 (.fl 4 (.fl 7 (.fl 8 (.two 0 5 (.one 5 (.one 6 .done)) (.one 0 (.one 6 .done))))))))) (by kernel_rfl) (by kernel_rfl) ?_
    intro w2 b2 e2
    have B2 := Lib.hid (B1.out.trans (b2.mono B1.out.size))
    have V2 := Lib.hid (V1.out.below b2)
    have SZ2 := Lib.hid (show w.heap.size < w2.heap.size by rw [e2]; exact SZ.out)
    clear b2 e2 B1 V1 SZ
    refine Tc.plan_floats [1, 2, 3, 4, 7, 8] [_, _, _, _, _, _] rfl ?_
    dsimp only [List.getElem_toArray, List.getElem_cons_succ, List.getElem_cons_zero]
    repeat (go_big_quiet_want; go_big_quiet_op; first | go_big_quiet_on | (refine ⟨_, fun _ _ => rfl, ?_⟩; go_big_quiet_on))
    refine wpQuiet_load_cell rfl 9 (.tmp 18) rfl w.heap.size 2 rfl _ Tryd.underlying9 rfl (.string s) (fun W hW => (stay_row (S := fun k => k = w.heap.size) V2.out rfl hW).cell (i := 2) (by decide)) ?_
    simp only [Act.put, List.setIfInBounds_toArray, List.set_cons_succ, List.set_cons_zero]
    repeat (go_big_quiet_want; go_big_quiet_op; first | go_big_quiet_on | (refine ⟨_, fun _ _ => rfl, ?_⟩; go_big_quiet_on))
    refine wpQuiet_load_cell rfl 9 (.tmp 24) rfl w.heap.size 2 rfl _ Tryd.underlying9 rfl (.string s) (fun W hW => (stay_row (S := fun k => k = w.heap.size) V2.out rfl hW).cell (i := 2) (by decide)) ?_
    simp only [Act.put, List.setIfInBounds_toArray, List.set_cons_succ, List.set_cons_zero]
    refine wpQuiet_nil ?_
    refine Tc.plan_two 0 5 rfl rfl (fun K hK => ?_) (fun K hK => ?_)
    · have K2 := Lib.hid (Below.refl w2.heap.size w2)
      go_wp2_with fail
      have al := (Below.refl _ w2).alloc (Nat.le_refl _) (.cells #[vB 2] 5)
      refine hK _ _ (stay_below al (fun k hk => by subst hk; exact SZ2.out)) ?_
      have OO := Lib.hid (Owns.one w2 2)
      have SZ3 := Lib.hid (Nat.lt_of_lt_of_le SZ2.out al.size)
      have B3 := Lib.hid (B2.out.trans (al.mono B2.out.size))
      have K3 := Lib.hid (K2.out.trans (al.mono K2.out.size))
      obtain ⟨w3, hw3⟩ : ∃ y, w2.alloc (.cells #[vB 2] 5) = y := ⟨_, rfl⟩
      have hw3' : w2.alloc (.cells #[.int .u8 2] 5) = w3 := hw3
      rw [hw3] at OO SZ3 B3 K3
      rw [hw3']
      clear hK K al hw3 hw3'
      refine Tc.plan_one 5 rfl (fun K hK => ?_)
      go_wp2_with fail
      refine (HZ.out _).mono ?_
      rintro e w4 ⟨⟨v2, rfl, o2⟩, b2⟩
      go_wp2_with fail
      refine hK _ _ (stay_below b2 (fun k hk => by subst hk; exact SZ3.out)) ?_
      have O2 := Lib.hid (o2.bytesAt (by have := H10.out; omega))
      have SZ4 := Lib.hid (Nat.lt_of_lt_of_le SZ3.out b2.size)
      have B4 := Lib.hid (B3.out.trans (b2.mono B3.out.size))
      have K4 := Lib.hid (K3.out.trans (b2.mono K3.out.size))
      have OOL := Lib.hid (OO.out.below b2)
      clear hK K o2 b2
      refine Tc.plan_one 6 rfl (fun K hK => ?_)
      refine wpList_app_bytes rfl (.tmp 17) (.tmp 22) rfl w2.heap.size (.slice (some ⟨w2.heap.size, 0, none⟩) 1 1) v2 [2] (numE s.size) rfl rfl OOL.out O2.out (by have := H10.out; simp only [List.length_cons, List.length_nil]; omega) K4.out.size ?_
      intro v5 w5 O5 s5
      go_wp2_with fail
      refine hK _ _ (stay_app s5.out (fun k hk => by subst hk; exact ⟨SZ4.out, fun e => by have := (World.ownsRow.lt OOL.out _ e).1; have := SZ2.out; omega⟩)) ?_
      have K5 := Lib.hid (K4.out.trans (s5.out.below OOL.out K4.out.size))
      clear hK K s5
      refine Tc.plan_done (l := [_, _]) rfl (fun K hK => ?_)
      go_wp2_with ((with_reducible (show wpList _ _ _ (Oper.mk (some 26) _ _ _ _ _ :: _) _ _)); refine wpList_app_string rfl (.tmp 23) (.tmp 25) rfl w2.heap.size v5 s _ rfl rfl O5.out LB.out K5.out.size ?_; intro v6 w6 O6 s6)
      go_ret
      exact ⟨⟨_, rfl, O6.out.lower B2.out.size⟩, B2.out.trans ((K5.out.trans (s6.out.below O5.out K5.out.size)).mono B2.out.size)⟩
    · have K2 := Lib.hid (Below.refl w2.heap.size w2)
      go_wp2_with fail
      refine (HZ.out _).mono ?_
      rintro e w3 ⟨⟨v2, rfl, o2⟩, b2⟩
      go_wp2_with fail
      refine hK _ _ (stay_below b2 (fun k hk => by subst hk; exact SZ2.out)) ?_
      have O2 := Lib.hid (o2.bytesAt (by have := H10.out; omega))
      have SZ3 := Lib.hid (Nat.lt_of_lt_of_le SZ2.out b2.size)
      have B3 := Lib.hid (B2.out.trans (b2.mono B2.out.size))
      have K3 := Lib.hid (K2.out.trans (b2.mono K2.out.size))
      clear hK K o2 b2
      refine Tc.plan_one 0 rfl (fun K hK => ?_)
      go_wp2_with fail
      have al := (Below.refl _ w3).alloc (Nat.le_refl _) (.cells #[vB 2] 5)
      refine hK _ _ (stay_below al (fun k hk => by subst hk; exact SZ3.out)) ?_
      have OO := Lib.hid (Owns.one w3 2)
      have SZ4 := Lib.hid (Nat.lt_of_lt_of_le SZ3.out al.size)
      have B4 := Lib.hid (B3.out.trans (al.mono B3.out.size))
      have K4 := Lib.hid (K3.out.trans (al.mono K3.out.size))
      have O2' := Lib.hid (O2.out.below al)
      clear O2
      obtain ⟨w4, hw4⟩ : ∃ y, w3.alloc (.cells #[vB 2] 5) = y := ⟨_, rfl⟩
      have hw4' : w3.alloc (.cells #[.int .u8 2] 5) = w4 := hw4
      rw [hw4] at OO SZ4 B4 K4 O2'
      rw [hw4']
      clear hK K al hw4 hw4'
      have O2 := O2'
      have OOL := Lib.hid (OO.out.lower K3.out.size)
      refine Tc.plan_one 6 rfl (fun K hK => ?_)
      refine wpList_app_bytes rfl (.tmp 17) (.tmp 22) rfl w2.heap.size (.slice (some ⟨w3.heap.size, 0, none⟩) 1 1) v2 [2] (numE s.size) rfl rfl OOL.out O2.out (by have := H10.out; simp only [List.length_cons, List.length_nil]; omega) K4.out.size ?_
      intro v5 w5 O5 s5
      go_wp2_with fail
      refine hK _ _ (stay_app s5.out (fun k hk => by subst hk; exact ⟨SZ4.out, fun e => by have := (World.ownsRow.lt OOL.out _ e).1; have := SZ2.out; omega⟩)) ?_
      have K5 := Lib.hid (K4.out.trans (s5.out.below OOL.out K4.out.size))
      clear hK K s5
      refine Tc.plan_done (l := [_, _]) rfl (fun K hK => ?_)
      go_wp2_with ((with_reducible (show wpList _ _ _ (Oper.mk (some 26) _ _ _ _ _ :: _) _ _)); refine wpList_app_string rfl (.tmp 23) (.tmp 25) rfl w2.heap.size v5 s _ rfl rfl O5.out LB.out K5.out.size ?_; intro v6 w6 O6 s6)
      go_ret
      exact ⟨⟨_, rfl, O6.out.lower B2.out.size⟩, B2.out.trans ((K5.out.trans (s6.out.below O5.out K5.out.size)).mono B2.out.size)⟩
  · obtain rfl : k = 3 := h1
    rw [enc_3] at hlen
    rw [depth_3] at ht
    rw [form_3, Bool.and_eq_true] at hf
    have EP : Hid (encV (.mk 3 n s l) = ([3] ++ numE m) ++ encL l) := Lib.hid (by rw [enc_3, hm, List.append_assoc]; rfl)
    have HM := Lib.hid hm
    have CH : Hid (∀ i, i < m → ∀ W, CodAt W (.agg (rowF 4 (c i))) (l.getD i tv0) → Calls Tryd.prog 55 #[.agg (rowF 4 (c i))] W (REncPost (l.getD i tv0) W)) := Lib.hid (fun i hi W h =>
      ih (d - 1) (by omega) (l.getD i tv0) _ W (depth_child (by rw [hm]; exact hi) (by omega)) (by
        cases hb : formB (l.getD i tv0) with
        | true => rfl
        | false => rw [formL_no (by rw [hm]; exact hi) hb] at hf; exact absurd hf.2 (by decide)) h (by
        have h2 := encL_le l (i := i) (by rw [hm]; exact hi)
        simp only [List.length_cons, List.length_append] at hlen
        omega))
    unfold REncPost
    rw [EP.out]
    rw [hm] at hl hc hlen zm ⊢
    have HL2 := Lib.hid hl
    have HC := Lib.hid hc
    have HS := Lib.hid (show m < 18446744073709551616 by omega)
    have HZ := Lib.hid (fun W => rnumeral_any m HS.out W)
    have H10 := Lib.hid (numE_10 HS.out)
    have w1 : IntKind.u64.wrap (m : Int) = (m : Int) := by rw [IntKind.wrap_u64]; omega
    have HL := Lib.hid hlen
    have L0 : Hid (encL (l.take 0) = []) := Lib.hid (by simp [encL])
    clear hl hc hv hm hlen EP ih ht hf
    go_enter Tryd.func55, Tryd.ntmps55
    have B0 := Lib.hid (Below.refl w.heap.size w)
    go_upto_region 1 with fail
    obtain ⟨w1, hw1⟩ : ∃ y, w.alloc (.cells #[.int .i64 3, .int .i64 n, .string s, .slice a m cap] 51) = y := ⟨_, rfl⟩
    have b1 : Below w.heap.size w w1 := by rw [← hw1]; exact (Below.refl _ _).alloc (Nat.le_refl _) _
    have V1 : Hid (RowV w1 w.heap.size 51 4 (valC 3 n s (.slice a m cap))) := Lib.hid (by rw [← hw1]; exact RowV.new w _ 4 (valC 3 n s (.slice a m cap)))
    have z1 : w.heap.size + 1 = w1.heap.size := by rw [← hw1]; exact (Array.size_push _).symm
    rw [hw1]
    (try rw [z1])
    have B1 := Lib.hid (B0.out.trans (b1.mono B0.out.size))
    clear b1 hw1 z1 B0
    have x0 : _ = some (Value.int .i64 3) := V1.out.cell (i := 0) (by decide)
    have x3 : (w1.alloc (.cells #[.int .u8 3] 5)).cell? ⟨w.heap.size, 3, none⟩ = some (Value.slice a m cap) := (V1.out.alloc _).cell (i := 3) (by decide)
    have OB := Lib.hid (Owns.one w1 3)
    go_wp2_with fail
    refine (HZ.out _).mono ?_
    rintro e w2 ⟨⟨v2, rfl, o2⟩, b2⟩
    have O2 := Lib.hid (o2.bytesAt (by have := H10.out; omega))
    have OO := Lib.hid (OB.out.below b2)
    have K2 := Lib.hid (((Below.refl _ w1).alloc (Nat.le_refl _) _).trans (b2.mono (by rw [World.size_alloc]; omega)))
    clear o2 b2 OB x0 x3
    go_upto_region 7 with ((with_reducible (show wpList _ _ _ (Oper.mk (some 33) _ _ _ _ _ :: _) _ _)); refine wpList_app_bytes rfl (.tmp 27) (.tmp 32) rfl w1.heap.size (.slice (some ⟨w1.heap.size, 0, none⟩) 1 1) v2 [3] (numE m) rfl rfl OO.out O2.out (by have := H10.out; simp only [List.length_cons, List.length_nil]; omega) K2.out.size ?_; intro v3 w3 O3 s3)
    have K3 := Lib.hid (K2.out.trans (s3.out.below OO.out K2.out.size))
    clear s3 OO O2 K2
    go_wp2_with fail
    go_loopg [3, 4] m (fun g s3 s4 wx => ∃ (i : Nat) (u : Value), i + g = m ∧ s4 = .int .i64 (i : Int) ∧ s3 = u ∧ Hid (Owns wx w1.heap.size u (([3] ++ numE m) ++ encL (l.take i))) ∧ Hid (Below w1.heap.size w1 wx))
    case atStart => exact ⟨0, v3, by omega, rfl, rfl, Lib.hid (by rw [L0.out, List.append_nil]; exact O3.out), K3⟩
    case round =>
      clear O3 K3
      obtain ⟨i, u, hi, rfl, e2, hO, hB⟩ := hrel
      obtain rfl : u = _ := e2.symm
      obtain ⟨w5, rfl⟩ : ∃ y, y = wr := ⟨_, rfl⟩
      have V5 := Lib.hid (V1.out.below hB.out)
      have B5 := Lib.hid (B1.out.trans (hB.out.mono B1.out.size))
      have x3 : _ = some (Value.slice a m cap) := V5.out.cell (i := 3) (by decide)
      by_cases hlt : i < m
      · obtain ⟨b2, off, rfl, hcap, hb2, hcell⟩ := (HL2.out.below B5.out).at_elem hlt
        have HE := Lib.hid (hcell i hlt)
        have CE := Lib.hid (HC.out i hlt)
        have CA := Lib.hid (CH.out i hlt)
        have ET := Lib.hid (encL_take l (k := i) (by rw [HM.out]; exact hlt))
        have EL := Lib.hid (encL_le l (i := i) (by rw [HM.out]; exact hlt))
        obtain ⟨ti, hti⟩ : ∃ f, l.getD i tv0 = f := ⟨_, rfl⟩
        rw [hti] at CE CA ET EL
        have LB : Hid ((([3] ++ numE m) ++ encL (l.take i)).length + (encV ti).length ≤ 140737488340000) := Lib.hid (by
          have h1 := HL.out; have h2 := EL.out
          simp only [List.length_append, List.length_cons, List.length_nil] at h1 ⊢; omega)
        have d0 : decide ((i : Int) < (m : Int)) = true := by rw [decide_eq_true_iff]; omega
        have z1 : (0 : Int) ≤ (i : Int) := Int.natCast_nonneg i
        have z2 : (i : Int) < (m : Int) := by omega
        have p0 : 0 ≤ (i : Int) ∧ (i : Int) < (m : Int) := by omega
        have z3 : ((i : Int)).toNat = i := Int.toNat_natCast i
        clear hcell hti hb2 hlt EL
        go_wp2_with ((with_reducible (show wpList _ _ _ (Oper.mk (some 46) _ _ _ _ _ :: _) _ _)); refine wpList_load_elem rfl 51 (.tmp 45) rfl b2 _ rfl 4 off i (by omega) (c i) HE.out _ Tryd.underlying51 rfl (by kernel_rfl) ?_)
        refine (CA.out _ (CE.out.later B5.out)).mono ?_
        rintro e w6 ⟨⟨v6, rfl, o6⟩, b6⟩
        have O6 := Lib.hid (o6.bytesAt (by have := LB.out; omega))
        have OU := Lib.hid (hO.out.below b6)
        have K6 := Lib.hid (hB.out.trans (b6.mono hB.out.size))
        clear o6 b6 hO hB HE CE CA x3 V5 B5
        go_wp2_with ((with_reducible (show wpList _ _ _ (Oper.mk (some 48) _ _ _ _ _ :: _) _ _)); refine wpList_app_bytes rfl (.tmp 41) (.tmp 47) rfl w1.heap.size u v6 _ (encV ti) rfl rfl OU.out O6.out (by have := LB.out; omega) K6.out.size ?_; intro v7 w7 O7 s7)
        go_roundg (gk - 1)
        case measure => omega
        case rel =>
          go_light
          exact ⟨i + 1, v7, by omega, by go_num, rfl, Lib.hid (by have h := O7.out; rw [List.append_assoc, ← ET.out] at h; exact h), Lib.hid (K6.out.trans (s7.out.below OU.out K6.out.size))⟩
      · obtain rfl : i = m := by omega
        have d0 : decide ((i : Int) < (i : Int)) = false := by rw [decide_eq_false_iff_not]; omega
        have e1 : Hid (l.take i = l) := Lib.hid (List.take_of_length_le (by rw [HM.out]; exact Nat.le_refl _))
        go_wp2_with fail
        go_ret
        exact ⟨⟨u, rfl, by have h := hO.out; rw [e1.out] at h; exact h.lower B1.out.size⟩, B5.out⟩
end Go.Proofs.YtbjbgneejdjniaaDoor
