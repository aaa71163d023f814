/- Package codec: Check, Encode. The reference of the codec: Formed, Depth, Check. The reference of the codec: Check, numerals, encode, Encode. -/
import Derived.Test.YtmmppibbglacdaaGreatDoorPk21
set_option linter.unusedVariables false
set_option linter.unusedSimpArgs false
namespace Go.Proofs.YtmmppibbglacdaaGreatDoor
open Go.RowKit Cod
theorem write_all (W0 : World) (b c : Nat) (hw : WrAt W0 b c) : ∀ (d : Nat) (t : Tv) (v : Value), depthN t ≤ d → formB t = true → CodAt W0 v t → WrOk W0 b c v t := by
  intro d
  induction d using Nat.strongRecOn with
  | ind d ih =>
  intro t v hd hf hv
  obtain ⟨k, n, s, l⟩ := t
  rcases form_kind hf with h1 | h1 | h1
  · obtain rfl : k = 1 := h1
    intro base v0 l0 w hb0 hW h0 hbase hlen
    exact write1_any n s l v base v0 l0 w (hv.later hW) h0 hbase hlen
  · obtain rfl : k = 2 := h1
    intro base v0 l0 w hb0 hW h0 hbase hlen
    exact write2_any n s l v base v0 l0 w (hv.later hW) h0 hbase hlen
  · obtain rfl : k = 3 := h1
    obtain ⟨a, cap, c', rfl, hk, hn, hs, hl, hc⟩ := hv.open
    rw [depth_3] at hd
    rw [form_3, Bool.and_eq_true] at hf
    have hfi : ∀ i, i < l.length → formB (l.getD i tv0) = true := by
      intro i hi
      cases hb : formB (l.getD i tv0) with
      | true => rfl
      | false => rw [formL_no hi hb] at hf; exact absurd hf.2 (by decide)
    exact write3_any W0 b c hw n s l a l.length cap rfl c' hl hc hfi (fun i hi => ih (d - 1) (by omega) _ _ (depth_child hi (by omega)) (hfi i hi) (hc i hi))
theorem Owns.lower {w : World} {base low : Nat} {v : Value} {l : List UInt8} (h : Owns w base v l) (hb : low ≤ base) : Owns w low v l :=
  ⟨h.1, h.2.imp id (fun ⟨g, cap, cur, e, hb1, r⟩ => ⟨g, cap, cur, e, Nat.le_trans hb hb1, r⟩)⟩
/-- what Check answers -/
def chkT (t : Tv) : Int := if formB t then (if 16 < depthN t then 2 else 0) else 1
set_option maxRecDepth 100000 in
set_option maxHeartbeats 4000000 in
theorem ccheck_any (t : Tv) (v : Value) (w : World) (hd : depthN t ≤ 1000) (hv : CodAt w v t) :
    Calls Tryz.prog 87 #[v] w fun e w' => e = .returned (.int .i64 (chkT t)) ∧ Below w.heap.size w w' := by
  have H := Lib.hid (fun W h => formed_any 1000 (Nat.le_refl _) t v W hd h)
  have HV := Lib.hid hv
  obtain ⟨k, n, s, l⟩ := t
  obtain ⟨a, cap, c, rfl, -⟩ := hv.open
  obtain ⟨m, hm⟩ : ∃ m, l.length = m := ⟨_, rfl⟩
  rw [hm] at H HV ⊢
  obtain ⟨fb, hfb⟩ : ∃ f, formB (.mk k n s l) = f := ⟨_, rfl⟩
  obtain ⟨fd, hfd⟩ : ∃ f, fmD (.mk k n s l) = f := ⟨_, rfl⟩
  have FD : Hid (fb = true → fd = ((depthN (.mk k n s l) : Nat) : Int)) := Lib.hid (fun h => by rw [← hfd, fmD, hfb, h]; rfl)
  have CT : Hid (chkT (.mk k n s l) = if fb then (if 16 < depthN (.mk k n s l) then 2 else 0) else 1) := Lib.hid (by unfold chkT; rw [hfb])
  rw [hfb, hfd] at H
  obtain ⟨ct, hct⟩ : ∃ y, chkT (.mk k n s l) = y := ⟨_, rfl⟩
  rw [hct] at CT ⊢
  obtain ⟨dd, hdd⟩ : ∃ y, depthN (.mk k n s l) = y := ⟨_, rfl⟩
  rw [hdd] at CT FD
  clear hm hfb hfd hct hv hd hdd
  go_enter Tryz.func87, Tryz.ntmps87
  have B0 := Lib.hid (Below.refl w.heap.size w)
  go_upto_region 1 with fail
  obtain ⟨w1, hw1⟩ : ∃ y, w.alloc (.cells #[.int .i64 k, .int .i64 n, .string s, .slice a m cap] 90) = y := ⟨_, rfl⟩
  have b1 : Below w.heap.size w w1 := by rw [← hw1]; exact (Below.refl _ _).alloc (Nat.le_refl _) _
  have V1 : Hid (RowV w1 w.heap.size 90 4 (valC k n s (.slice a m cap))) := Lib.hid (by rw [← hw1]; exact RowV.new w _ 4 (valC k n s (.slice a m cap)))
  have z1 : w.heap.size + 1 = w1.heap.size := by rw [← hw1]; exact (Array.size_push _).symm
  rw [hw1]
  (try rw [z1])
  have B1 := Lib.hid (B0.out.trans (b1.mono B0.out.size))
  clear b1 hw1 z1 B0
  have x0 : _ = some (Value.int .i64 k) := V1.out.cell (i := 0) (by decide)
  have x1 : _ = some (Value.int .i64 n) := V1.out.cell (i := 1) (by decide)
  have x2 : _ = some (Value.string s) := V1.out.cell (i := 2) (by decide)
  have x3 : _ = some (Value.slice a m cap) := V1.out.cell (i := 3) (by decide)
  have C1 := Lib.hid (HV.out.later B1.out)
  go_wp2_with fail
  refine (H.out _ C1.out).mono ?_
  rintro e w2 ⟨rfl, b2⟩
  have B2 := Lib.hid (B1.out.trans (b2.mono B1.out.size))
  have V2 := Lib.hid (V1.out.below b2)
  clear b2 B1 V1
  clear x0 x1 x2 x3 H HV C1
  cases fb
  · obtain rfl : ct = 1 := CT.out
    clear CT FD
    go_wp2_with fail
    go_ret
    exact ⟨rfl, B2.out⟩
  · obtain rfl := FD.out rfl
    have CT2 : Hid (ct = if 16 < dd then 2 else 0) := Lib.hid CT.out
    clear CT FD
    by_cases h16 : 16 < dd
    · have d0 : decide ((16 : Int) < (dd : Int)) = true := by rw [decide_eq_true_iff]; omega
      have d1 : decide (16 < dd) = true := by rw [decide_eq_true_iff]; exact h16
      obtain rfl : ct = 2 := by rw [CT2.out, if_pos h16]
      clear CT2 h16
      go_wp2_with fail
      go_ret
      exact ⟨rfl, B2.out⟩
    · have d0 : decide ((16 : Int) < (dd : Int)) = false := by rw [decide_eq_false_iff_not]; omega
      have d1 : decide (16 < dd) = false := by rw [decide_eq_false_iff_not]; exact h16
      obtain rfl : ct = 0 := by rw [CT2.out, if_neg h16]
      clear CT2 h16
      go_wp2_with fail
      go_ret
      exact ⟨rfl, B2.out⟩
/-- what Encode answers -/
def EncPost (t : Tv) (w : World) (e : Ending) (w' : World) : Prop :=
  (if chkT t = 0 then ∃ u, e = .returned (.tuple #[u, .int .i64 0]) ∧ Owns w' w.heap.size u (encV t) else e = .returned (.tuple #[.slice none 0 0, .int .i64 (chkT t)])) ∧ Below w.heap.size w w'
theorem chkT_3 (t : Tv) : chkT t = 0 ∨ chkT t = 1 ∨ chkT t = 2 := by unfold chkT; split <;> (try split) <;> simp
theorem chkT_0 {t : Tv} (h : chkT t = 0) : formB t = true ∧ depthN t ≤ 16 := by
  unfold chkT at h
  split at h
  · rename_i h1
    refine ⟨h1, ?_⟩
    split at h
    · cases h
    · omega
  · cases h
set_option maxRecDepth 100000 in
set_option maxHeartbeats 8000000 in
theorem cencode_any (t : Tv) (v : Value) (w : World) (hd : depthN t ≤ 1000) (hv : CodAt w v t) (hlen : (encV t).length ≤ 140737488340000) :
    Calls Tryz.prog 56 #[v] w (EncPost t w) := by
  have H := Lib.hid (fun W h => ccheck_any t v W hd h)
  have HW := Lib.hid (fun (hf : formB t = true) (W0 : World) (b c : Nat) (hw : WrAt W0 b c) (h : CodAt W0 v t) => write_all W0 b c hw 1000 t v hd hf h)
  have HV := Lib.hid hv
  have HL := Lib.hid hlen
  have HD := Lib.hid hd
  obtain ⟨k, n, s, l⟩ := t
  obtain ⟨a, cap, c, rfl, -⟩ := hv.open
  obtain ⟨m, hm⟩ : ∃ m, l.length = m := ⟨_, rfl⟩
  rw [hm] at H HV HW ⊢
  obtain ⟨ct, hct⟩ : ∃ y, chkT (.mk k n s l) = y := ⟨_, rfl⟩
  have HCT := Lib.hid hct
  rw [hct] at H
  clear hm hct hv hlen hd
  rcases (HCT.out ▸ chkT_3 (.mk k n s l) : ct = 0 ∨ ct = 1 ∨ ct = 2) with h0 | h0
  · subst h0
    have HF := chkT_0 HCT.out
    have KI := Lib.hid (form_kind HF.1)
    have W1 := Lib.hid (HW.out HF.1)
    clear HF HW
    go_enter Tryz.func56, Tryz.ntmps56
    have B0 := Lib.hid (Below.refl w.heap.size w)
    go_upto_region 1 with fail
    obtain ⟨w1, hw1⟩ : ∃ y, w.alloc (.cells #[.int .i64 k, .int .i64 n, .string s, .slice a m cap] 90) = y := ⟨_, rfl⟩
    have b1 : Below w.heap.size w w1 := by rw [← hw1]; exact (Below.refl _ _).alloc (Nat.le_refl _) _
    have V1 : Hid (RowV w1 w.heap.size 90 4 (valC k n s (.slice a m cap))) := Lib.hid (by rw [← hw1]; exact RowV.new w _ 4 (valC k n s (.slice a m cap)))
    have z1 : w.heap.size + 1 = w1.heap.size := by rw [← hw1]; exact (Array.size_push _).symm
    rw [hw1]
    (try rw [z1])
    have B1 := Lib.hid (B0.out.trans (b1.mono B0.out.size))
    clear b1 hw1 z1 B0
    have x0 : _ = some (Value.int .i64 k) := V1.out.cell (i := 0) (by decide)
    have x1 : _ = some (Value.int .i64 n) := V1.out.cell (i := 1) (by decide)
    have x2 : _ = some (Value.string s) := V1.out.cell (i := 2) (by decide)
    have x3 : _ = some (Value.slice a m cap) := V1.out.cell (i := 3) (by decide)
    have C1 := Lib.hid (HV.out.later B1.out)
    go_wp2_with fail
    refine (H.out _ C1.out).mono ?_
    rintro e w2 ⟨rfl, b2⟩
    have B2 := Lib.hid (B1.out.trans (b2.mono B1.out.size))
    have V2 := Lib.hid (V1.out.below b2)
    clear b2 B1 V1
    clear x0 x1 x2 x3 H C1
    go_upto_region 4 with fail
    have L2 := Lib.hid V2.out.lt
    refine Tc.wp_region_plan (Tc.Rl.stay (fun k => k < w2.heap.size)) 8 [] (.fl 1 (.fl 2 (.fl 7 (.one 0 (.fl 3 (.fl 4 (.fl 5 (.one 6 .done)))))))) (by kernel_rfl) (by kernel_rfl) ?_
    intro w3 b3 e3
    have B3 := Lib.hid (B2.out.trans (b3.mono B2.out.size))
    have V3 := Lib.hid (V2.out.below b3)
    have S3 := Lib.hid b3.size
    clear b3 e3 B2 V2
    refine Tc.plan_floats [1, 2, 7] [_, _, _] rfl ?_
    dsimp only [List.getElem_toArray, List.getElem_cons_succ, List.getElem_cons_zero]
    repeat (go_big_quiet_want; go_big_quiet_op; first | go_big_quiet_on | (refine ⟨_, fun _ _ => rfl, ?_⟩; go_big_quiet_on))
    refine wpQuiet_load_cell rfl 3 (.tmp 11) rfl w.heap.size 0 rfl _ Tryz.underlying3 rfl (.int .i64 k) (fun W hW => (stay_row (S := fun k => k < w2.heap.size) V3.out L2.out hW).cell (i := 0) (by decide)) ?_
    simp only [Act.put, List.setIfInBounds_toArray, List.set_cons_succ, List.set_cons_zero]
    refine wpQuiet_load_agg rfl 90 (.tmp 1) rfl w.heap.size rfl _ Tryz.underlying90 rfl 4 (by kernel_rfl) 90 _ (fun W hW => stay_row (S := fun k => k < w2.heap.size) V3.out L2.out hW) ?_
    simp only [Act.put, List.setIfInBounds_toArray, List.set_cons_succ, List.set_cons_zero]
    refine wpQuiet_nil ?_
    refine Tc.plan_one 0 rfl (fun K hK => ?_)
    go_wp2_with fail
    refine (newWriter_any _).mono ?_
    rintro e w4 ⟨⟨b, c, rfl, hwr⟩, b4⟩
    go_wp2_with fail
    refine hK _ _ (stay_below b4 (fun k hk => Nat.lt_of_lt_of_le hk S3.out)) ?_
    have B4 := Lib.hid (B3.out.trans (b4.mono B3.out.size))
    have R4 := Lib.hid hwr
    have HC := Lib.hid (W1.out w4 b c hwr (HV.out.later B4.out))
    clear hK K b4 hwr B3 V3 S3 L2 W1 HV
    rcases KI.out with k1 | k1 | k1
    · obtain rfl : k = 1 := k1
      have call : Calls Tryz.prog 115 (#[.slice none 0 0, .agg #[.int .i64 1, .int .i64 n, .string s, .slice a m cap]]) w4 (fun e wx => ∃ vx, e = .returned vx ∧ Owns wx w4.heap.size vx ([] ++ encV (.mk 1 n s l)) ∧ AppStep w4 (.slice none 0 0) wx vx) :=
        HC.out w4.heap.size (.slice none 0 0) [] w4 (Nat.le_refl _) (Below.refl _ _) (Owns.nil _ _) (Nat.le_refl _) (by have := HL.out; simpa using this)
      have HCall := Lib.hid call
      have EP : Hid (chkT (.mk 1 n s l) = 0) := HCT
      clear call HC HCT KI
      refine Tc.plan_floats [3, 4, 5] [_, _, _] rfl ?_
      dsimp only [List.getElem_toArray, List.getElem_cons_succ, List.getElem_cons_zero]
      repeat (go_big_quiet_want; go_big_quiet_op; first | go_big_quiet_on | (refine ⟨_, fun _ _ => rfl, ?_⟩; go_big_quiet_on))
      refine wpQuiet_nil ?_
      refine Tc.plan_one 6 rfl (fun K hK => ?_)
      have y : w4.cell? ⟨b, 1, none⟩ = some (.func (.func 115) #[] #[]) := R4.out.1.cell (i := 1) (by decide)
      go_wp2_with fail
      refine hK _ _ (Tc.Rl.refl _ _) ?_
      clear hK K y
      refine Tc.plan_done (l := _) rfl (fun K hK => ?_)
      go_wp2_with fail
      refine HCall.out.mono ?_
      rintro e w5 ⟨u, rfl, o5, s5⟩
      have O5 := Lib.hid o5
      have B5 := Lib.hid (B4.out.trans ((s5.below (Owns.nil w4 w4.heap.size) (Nat.le_refl _)).mono B4.out.size))
      clear o5 s5 HCall
      go_wp2_with fail
      go_ret2
      exact ⟨by rw [EP.out, if_pos rfl]; exact ⟨u, rfl, O5.out.lower B4.out.size⟩, B5.out⟩
    · obtain rfl : k = 2 := k1
      have call : Calls Tryz.prog 118 (#[.slice none 0 0, .agg #[.int .i64 2, .int .i64 n, .string s, .slice a m cap]]) w4 (fun e wx => ∃ vx, e = .returned vx ∧ Owns wx w4.heap.size vx ([] ++ encV (.mk 2 n s l)) ∧ AppStep w4 (.slice none 0 0) wx vx) :=
        HC.out w4.heap.size (.slice none 0 0) [] w4 (Nat.le_refl _) (Below.refl _ _) (Owns.nil _ _) (Nat.le_refl _) (by have := HL.out; simpa using this)
      have HCall := Lib.hid call
      have EP : Hid (chkT (.mk 2 n s l) = 0) := HCT
      clear call HC HCT KI
      refine Tc.plan_floats [3, 4, 5] [_, _, _] rfl ?_
      dsimp only [List.getElem_toArray, List.getElem_cons_succ, List.getElem_cons_zero]
      repeat (go_big_quiet_want; go_big_quiet_op; first | go_big_quiet_on | (refine ⟨_, fun _ _ => rfl, ?_⟩; go_big_quiet_on))
      refine wpQuiet_nil ?_
      refine Tc.plan_one 6 rfl (fun K hK => ?_)
      have y : w4.cell? ⟨b, 2, none⟩ = some (.func (.func 118) #[] #[]) := R4.out.1.cell (i := 2) (by decide)
      go_wp2_with fail
      refine hK _ _ (Tc.Rl.refl _ _) ?_
      clear hK K y
      refine Tc.plan_done (l := _) rfl (fun K hK => ?_)
      go_wp2_with fail
      refine HCall.out.mono ?_
      rintro e w5 ⟨u, rfl, o5, s5⟩
      have O5 := Lib.hid o5
      have B5 := Lib.hid (B4.out.trans ((s5.below (Owns.nil w4 w4.heap.size) (Nat.le_refl _)).mono B4.out.size))
      clear o5 s5 HCall
      go_wp2_with fail
      go_ret2
      exact ⟨by rw [EP.out, if_pos rfl]; exact ⟨u, rfl, O5.out.lower B4.out.size⟩, B5.out⟩
    · obtain rfl : k = 3 := k1
      have call : Calls Tryz.prog 119 (#[.slice none 0 0, .agg #[.int .i64 3, .int .i64 n, .string s, .slice a m cap], .pointer (some ⟨c, 0, none⟩)]) w4 (fun e wx => ∃ vx, e = .returned vx ∧ Owns wx w4.heap.size vx ([] ++ encV (.mk 3 n s l)) ∧ AppStep w4 (.slice none 0 0) wx vx) :=
        HC.out w4.heap.size (.slice none 0 0) [] w4 (Nat.le_refl _) (Below.refl _ _) (Owns.nil _ _) (Nat.le_refl _) (by have := HL.out; simpa using this)
      have HCall := Lib.hid call
      have EP : Hid (chkT (.mk 3 n s l) = 0) := HCT
      clear call HC HCT KI
      refine Tc.plan_floats [3, 4, 5] [_, _, _] rfl ?_
      dsimp only [List.getElem_toArray, List.getElem_cons_succ, List.getElem_cons_zero]
      repeat (go_big_quiet_want; go_big_quiet_op; first | go_big_quiet_on | (refine ⟨_, fun _ _ => rfl, ?_⟩; go_big_quiet_on))
      refine wpQuiet_nil ?_
      refine Tc.plan_one 6 rfl (fun K hK => ?_)
      have y : w4.cell? ⟨b, 3, none⟩ = some (.func (.func 119) #[] #[.pointer (some ⟨c, 0, none⟩)]) := R4.out.1.cell (i := 3) (by decide)
      go_wp2_with fail
      refine hK _ _ (Tc.Rl.refl _ _) ?_
      clear hK K y
      refine Tc.plan_done (l := _) rfl (fun K hK => ?_)
      go_wp2_with fail
      refine HCall.out.mono ?_
      rintro e w5 ⟨u, rfl, o5, s5⟩
      have O5 := Lib.hid o5
      have B5 := Lib.hid (B4.out.trans ((s5.below (Owns.nil w4 w4.heap.size) (Nat.le_refl _)).mono B4.out.size))
      clear o5 s5 HCall
      go_wp2_with fail
      go_ret2
      exact ⟨by rw [EP.out, if_pos rfl]; exact ⟨u, rfl, O5.out.lower B4.out.size⟩, B5.out⟩
  · have EP : Hid (EncPost (.mk k n s l) w = fun e w' => e = .returned (.tuple #[.slice none 0 0, .int .i64 ct]) ∧ Below w.heap.size w w') := Lib.hid (by
      funext e w'; unfold EncPost; rw [HCT.out, if_neg (by rcases h0 with h | h <;> rw [h] <;> decide)])
    rw [EP.out]
    clear EP HW HCT
    rcases h0 with h0 | h0 <;> subst h0
    · go_enter Tryz.func56, Tryz.ntmps56
      have B0 := Lib.hid (Below.refl w.heap.size w)
      go_upto_region 1 with fail
      obtain ⟨w1, hw1⟩ : ∃ y, w.alloc (.cells #[.int .i64 k, .int .i64 n, .string s, .slice a m cap] 90) = y := ⟨_, rfl⟩
      have b1 : Below w.heap.size w w1 := by rw [← hw1]; exact (Below.refl _ _).alloc (Nat.le_refl _) _
      have V1 : Hid (RowV w1 w.heap.size 90 4 (valC k n s (.slice a m cap))) := Lib.hid (by rw [← hw1]; exact RowV.new w _ 4 (valC k n s (.slice a m cap)))
      have z1 : w.heap.size + 1 = w1.heap.size := by rw [← hw1]; exact (Array.size_push _).symm
      rw [hw1]
      (try rw [z1])
      have B1 := Lib.hid (B0.out.trans (b1.mono B0.out.size))
      clear b1 hw1 z1 B0
      have x0 : _ = some (Value.int .i64 k) := V1.out.cell (i := 0) (by decide)
      have x1 : _ = some (Value.int .i64 n) := V1.out.cell (i := 1) (by decide)
      have x2 : _ = some (Value.string s) := V1.out.cell (i := 2) (by decide)
      have x3 : _ = some (Value.slice a m cap) := V1.out.cell (i := 3) (by decide)
      have C1 := Lib.hid (HV.out.later B1.out)
      go_wp2_with fail
      refine (H.out _ C1.out).mono ?_
      rintro e w2 ⟨rfl, b2⟩
      have B2 := Lib.hid (B1.out.trans (b2.mono B1.out.size))
      have V2 := Lib.hid (V1.out.below b2)
      clear b2 B1 V1
      go_wp2_with fail
      go_ret2
      exact ⟨rfl, B2.out⟩
    · go_enter Tryz.func56, Tryz.ntmps56
      have B0 := Lib.hid (Below.refl w.heap.size w)
      go_upto_region 1 with fail
      obtain ⟨w1, hw1⟩ : ∃ y, w.alloc (.cells #[.int .i64 k, .int .i64 n, .string s, .slice a m cap] 90) = y := ⟨_, rfl⟩
      have b1 : Below w.heap.size w w1 := by rw [← hw1]; exact (Below.refl _ _).alloc (Nat.le_refl _) _
      have V1 : Hid (RowV w1 w.heap.size 90 4 (valC k n s (.slice a m cap))) := Lib.hid (by rw [← hw1]; exact RowV.new w _ 4 (valC k n s (.slice a m cap)))
      have z1 : w.heap.size + 1 = w1.heap.size := by rw [← hw1]; exact (Array.size_push _).symm
      rw [hw1]
      (try rw [z1])
      have B1 := Lib.hid (B0.out.trans (b1.mono B0.out.size))
      clear b1 hw1 z1 B0
      have x0 : _ = some (Value.int .i64 k) := V1.out.cell (i := 0) (by decide)
      have x1 : _ = some (Value.int .i64 n) := V1.out.cell (i := 1) (by decide)
      have x2 : _ = some (Value.string s) := V1.out.cell (i := 2) (by decide)
      have x3 : _ = some (Value.slice a m cap) := V1.out.cell (i := 3) (by decide)
      have C1 := Lib.hid (HV.out.later B1.out)
      go_wp2_with fail
      refine (H.out _ C1.out).mono ?_
      rintro e w2 ⟨rfl, b2⟩
      have B2 := Lib.hid (B1.out.trans (b2.mono B1.out.size))
      have V2 := Lib.hid (V1.out.below b2)
      clear b2 B1 V1
      go_wp2_with fail
      go_ret2
      exact ⟨rfl, B2.out⟩
end Go.Proofs.YtmmppibbglacdaaGreatDoor

namespace Go.Proofs.YtmmppibbglacdaaGreatDoor
open Go.RowKit Cod
set_option maxRecDepth 100000 in
set_option maxHeartbeats 16000000 in
theorem rformed_any : ∀ (d : Nat), ∀ (t : Tv) (v : Value) (w : World), depthN t ≤ d → CodAt w v t →
    Calls Tryz.prog 123 #[v] w fun e w' => e = .returned (.bool (formB t)) ∧ Below w.heap.size w w' := by
  intro d
  induction d using Nat.strongRecOn with
  | ind d ih =>
  intro t v w ht hv
  obtain ⟨k, n, s, l⟩ := t
  obtain ⟨a, cap, c, rfl, hk, hn, hs, hl, hc⟩ := hv.open
  obtain ⟨m, hm⟩ : ∃ m, l.length = m := ⟨_, rfl⟩
  have em : ((m : Int) == 0) = l.isEmpty := by
    rw [← hm]; cases l <;> simp
    omega
  rw [hm] at hl hc ⊢
  obtain ⟨bs, hbs⟩ : ∃ b, s.toList.isEmpty = b := ⟨_, rfl⟩
  obtain ⟨bm, hbm⟩ : ∃ b, ((m : Int) == 0) = b := ⟨_, rfl⟩
  obtain ⟨bn, hbn⟩ : ∃ b, (n == 0) = b := ⟨_, rfl⟩
  have e1 : formB (.mk 1 n s l) = (bs && bm) := by rw [form_1, ← em, ← empty_dec, hbs, hbm]
  have e2 : formB (.mk 2 n s l) = (bn && bm) := by rw [form_2, ← em, hbm, ← hbn]; rfl
  have e3 : formB (.mk 3 n s l) = (bn && bs && formL l) := by rw [form_3, ← empty_dec, hbs, ← hbn]; rfl
  have zm := hl.len_le
  have HL2 := Lib.hid hl
  have HC := Lib.hid hc
  have HM := Lib.hid hm
  have E1 := Lib.hid e1
  have E2 := Lib.hid e2
  have E3 := Lib.hid e3
  by_cases k1 : k = 1
  · subst k1
    rw [E1.out]
    clear hl hc hv hm ht e1 e2 e3 em E1 E2 E3 HL2 HC HM ih
    go_enter Tryz.func123, Tryz.ntmps123
    have B0 := Lib.hid (Below.refl w.heap.size w)
    go_upto_region 1 with fail
    obtain ⟨w1, hw1⟩ : ∃ y, w.alloc (.cells #[.int .i64 1, .int .i64 n, .string s, .slice a m cap] 90) = y := ⟨_, rfl⟩
    have b1 : Below w.heap.size w w1 := by rw [← hw1]; exact (Below.refl _ _).alloc (Nat.le_refl _) _
    have V1 : Hid (RowV w1 w.heap.size 90 4 (valC 1 n s (.slice a m cap))) := Lib.hid (by rw [← hw1]; exact RowV.new w _ 4 (valC 1 n s (.slice a m cap)))
    have z1 : w.heap.size + 1 = w1.heap.size := by rw [← hw1]; exact (Array.size_push _).symm
    rw [hw1]
    (try rw [z1])
    have B1 := Lib.hid (B0.out.trans (b1.mono B0.out.size))
    clear b1 hw1 z1 B0
    have x0 : _ = some (Value.int .i64 1) := V1.out.cell (i := 0) (by decide)
    have x2 : _ = some (Value.string s) := V1.out.cell (i := 2) (by decide)
    have x3 : _ = some (Value.slice a m cap) := V1.out.cell (i := 3) (by decide)
    clear hbn
    cases bs <;> cases bm <;> (go_wp2_with fail; go_ret; exact ⟨rfl, B1.out⟩)
  by_cases k2 : k = 2
  · subst k2
    rw [E2.out]
    clear hl hc hv hm ht e1 e2 e3 em E1 E2 E3 HL2 HC HM ih k1
    go_enter Tryz.func123, Tryz.ntmps123
    have B0 := Lib.hid (Below.refl w.heap.size w)
    go_upto_region 1 with fail
    obtain ⟨w1, hw1⟩ : ∃ y, w.alloc (.cells #[.int .i64 2, .int .i64 n, .string s, .slice a m cap] 90) = y := ⟨_, rfl⟩
    have b1 : Below w.heap.size w w1 := by rw [← hw1]; exact (Below.refl _ _).alloc (Nat.le_refl _) _
    have V1 : Hid (RowV w1 w.heap.size 90 4 (valC 2 n s (.slice a m cap))) := Lib.hid (by rw [← hw1]; exact RowV.new w _ 4 (valC 2 n s (.slice a m cap)))
    have z1 : w.heap.size + 1 = w1.heap.size := by rw [← hw1]; exact (Array.size_push _).symm
    rw [hw1]
    (try rw [z1])
    have B1 := Lib.hid (B0.out.trans (b1.mono B0.out.size))
    clear b1 hw1 z1 B0
    have x0 : _ = some (Value.int .i64 2) := V1.out.cell (i := 0) (by decide)
    have x1 : _ = some (Value.int .i64 n) := V1.out.cell (i := 1) (by decide)
    have x3 : _ = some (Value.slice a m cap) := V1.out.cell (i := 3) (by decide)
    clear hbs
    cases bn <;> cases bm <;> (go_wp2_with fail; go_ret; exact ⟨rfl, B1.out⟩)
  by_cases k3 : k = 3
  · subst k3
    rw [depth_3] at ht
    have HT3 := Lib.hid ht
    have CH : Hid (∀ i, i < m → ∀ W, CodAt W (.agg (rowF 4 (c i))) (l.getD i tv0) → Calls Tryz.prog 123 #[.agg (rowF 4 (c i))] W fun e w' => e = .returned (.bool (formB (l.getD i tv0))) ∧ Below W.heap.size W w') := Lib.hid (fun i hi W h =>
      ih (d - 1) (by omega) (l.getD i tv0) _ W (depth_child (by rw [hm]; exact hi) (by omega)) h)
    have L0 : Hid (formL (l.take 0) = true) := Lib.hid (by simp [formL])
    have HS := Lib.hid hbs
    have HN := Lib.hid hbn
    rw [E3.out]
    clear hl hc hv hm ht e1 e2 e3 em E1 E2 E3 ih k1 k2 hbs hbn hbm
    go_enter Tryz.func123, Tryz.ntmps123
    have B0 := Lib.hid (Below.refl w.heap.size w)
    go_upto_region 1 with fail
    obtain ⟨w1, hw1⟩ : ∃ y, w.alloc (.cells #[.int .i64 3, .int .i64 n, .string s, .slice a m cap] 90) = y := ⟨_, rfl⟩
    have b1 : Below w.heap.size w w1 := by rw [← hw1]; exact (Below.refl _ _).alloc (Nat.le_refl _) _
    have V1 : Hid (RowV w1 w.heap.size 90 4 (valC 3 n s (.slice a m cap))) := Lib.hid (by rw [← hw1]; exact RowV.new w _ 4 (valC 3 n s (.slice a m cap)))
    have z1 : w.heap.size + 1 = w1.heap.size := by rw [← hw1]; exact (Array.size_push _).symm
    rw [hw1]
    (try rw [z1])
    have B1 := Lib.hid (B0.out.trans (b1.mono B0.out.size))
    clear b1 hw1 z1 B0
    have x0 : _ = some (Value.int .i64 3) := V1.out.cell (i := 0) (by decide)
    go_wp2_with fail
    clear x0
    go_loopg [3] m (fun g s3 wx => ∃ i : Nat, i + g = m ∧ s3 = .int .i64 (i : Int) ∧ Hid (formL (l.take i) = true) ∧ Hid (Below w1.heap.size w1 wx))
    case atStart => exact ⟨0, by omega, rfl, L0, Lib.hid (Below.refl _ _)⟩
    case round =>
      obtain ⟨i, hi, rfl, hF, hB⟩ := hrel
      obtain ⟨w3, rfl⟩ : ∃ y, y = wr := ⟨_, rfl⟩
      have V3 := Lib.hid (V1.out.below hB.out)
      have B3 := Lib.hid (B1.out.trans (hB.out.mono B1.out.size))
      have x3 : _ = some (Value.slice a m cap) := V3.out.cell (i := 3) (by decide)
      by_cases hlt : i < m
      · obtain ⟨b2, off, rfl, hcap, hb2, hcell⟩ := (HL2.out.below B3.out).at_elem hlt
        have HE := Lib.hid (hcell i hlt)
        have CE := Lib.hid (HC.out i hlt)
        have CA := Lib.hid (CH.out i hlt)
        have ST := Lib.hid (formL_take l (k := i) (by rw [HM.out]; exact hlt))
        have NO := Lib.hid (fun h => formL_no (l := l) (k := i) (by rw [HM.out]; exact hlt) h)
        obtain ⟨ti, hti⟩ : ∃ f, l.getD i tv0 = f := ⟨_, rfl⟩
        rw [hti] at CE CA ST NO
        obtain ⟨fb, hfb⟩ : ∃ f, formB ti = f := ⟨_, rfl⟩
        rw [hfb] at CA ST NO
        have d0 : decide ((i : Int) < (m : Int)) = true := by rw [decide_eq_true_iff]; omega
        have z1 : (0 : Int) ≤ (i : Int) := Int.natCast_nonneg i
        have z2 : (i : Int) < (m : Int) := by omega
        have p0 : 0 ≤ (i : Int) ∧ (i : Int) < (m : Int) := by omega
        have z3 : ((i : Int)).toNat = i := Int.toNat_natCast i
        clear hcell hti hfb hb2 hlt
        go_wp2_with ((with_reducible (show wpList _ _ _ (Oper.mk (some 41) _ _ _ _ _ :: _) _ _)); refine wpList_load_elem rfl 90 (.tmp 40) rfl b2 _ rfl 4 off i (by omega) (c i) HE.out _ Tryz.underlying90 rfl (by kernel_rfl) ?_)
        refine (CA.out _ (CE.out.later B3.out)).mono ?_
        rintro e w4 ⟨rfl, b4⟩
        have B4 := Lib.hid (B3.out.trans (b4.mono B3.out.size))
        have K4 := Lib.hid (hB.out.trans (b4.mono hB.out.size))
        clear b4 B3 hB HE CE CA x3 V3
        cases fb
        · have F : Hid (Ending.returned (.bool false) = Ending.returned (.bool (bn && bs && formL l))) := Lib.hid (by rw [NO.out rfl, Bool.and_false])
          clear CH HC ST NO
          go_wp2_with fail
          go_ret
          exact ⟨F.out, B4.out⟩
        · have L1 : Hid (formL (l.take (i + 1)) = true) := Lib.hid (by rw [ST.out, hF.out]; rfl)
          clear ST NO
          go_wp2_with fail
          go_roundg (gk - 1)
          case measure => omega
          case rel =>
            go_light
            exact ⟨i + 1, by omega, by go_num, L1, K4⟩
      · obtain rfl : i = m := by omega
        have d0 : decide ((i : Int) < (i : Int)) = false := by rw [decide_eq_false_iff_not]; omega
        have e1 : l.take i = l := List.take_of_length_le (by rw [HM.out]; exact Nat.le_refl _)
        rw [e1] at hF
        have F := Lib.hid hF.out
        have x1 : _ = some (Value.int .i64 n) := V3.out.cell (i := 1) (by decide)
        have x2 : _ = some (Value.string s) := V3.out.cell (i := 2) (by decide)
        have hbs := HS.out
        have hbn := HN.out
        clear e1 hF hB CH HC HL2 HM HT3 HS HN
        cases bn <;> cases bs <;> (go_wp2_with fail; go_ret; exact ⟨by rw [F.out]; rfl, B3.out⟩)
  · rw [form_no n s l k1 k2 k3]
    clear hl hc hv hm ht e1 e2 e3 em E1 E2 E3 HL2 HC HM ih hbs hbn hbm
    have j1 : (k == 1) = false := by simpa using k1
    have j2 : (k == 2) = false := by simpa using k2
    have j3 : (k == 3) = false := by simpa using k3
    clear k1 k2 k3
    go_enter Tryz.func123, Tryz.ntmps123
    have B0 := Lib.hid (Below.refl w.heap.size w)
    go_upto_region 1 with fail
    obtain ⟨w1, hw1⟩ : ∃ y, w.alloc (.cells #[.int .i64 k, .int .i64 n, .string s, .slice a m cap] 90) = y := ⟨_, rfl⟩
    have b1 : Below w.heap.size w w1 := by rw [← hw1]; exact (Below.refl _ _).alloc (Nat.le_refl _) _
    have V1 : Hid (RowV w1 w.heap.size 90 4 (valC k n s (.slice a m cap))) := Lib.hid (by rw [← hw1]; exact RowV.new w _ 4 (valC k n s (.slice a m cap)))
    have z1 : w.heap.size + 1 = w1.heap.size := by rw [← hw1]; exact (Array.size_push _).symm
    rw [hw1]
    (try rw [z1])
    have B1 := Lib.hid (B0.out.trans (b1.mono B0.out.size))
    clear b1 hw1 z1 B0
    have x0 : _ = some (Value.int .i64 k) := V1.out.cell (i := 0) (by decide)
    go_wp2_with fail
    go_ret
    exact ⟨rfl, B1.out⟩
set_option maxRecDepth 100000 in
set_option maxHeartbeats 16000000 in
theorem rdepth_any : ∀ (d : Nat), d ≤ 1000 → ∀ (t : Tv) (v : Value) (w : World), depthN t ≤ d → CodAt w v t →
    Calls Tryz.prog 124 #[v] w fun e w' => e = .returned (.int .i64 ((depthN t : Nat) : Int)) ∧ Below w.heap.size w w' := by
  intro d
  induction d using Nat.strongRecOn with
  | ind d ih =>
  intro hd t v w ht hv
  obtain ⟨k, n, s, l⟩ := t
  obtain ⟨a, cap, c, rfl, hk, hn, hs, hl, hc⟩ := hv.open
  obtain ⟨m, hm⟩ : ∃ m, l.length = m := ⟨_, rfl⟩
  rw [hm] at hl hc ⊢
  have zm := hl.len_le
  by_cases k3 : k = 3
  · subst k3
    rw [depth_3] at ht
    have HL2 := Lib.hid hl
    have HC := Lib.hid hc
    have HM := Lib.hid hm
    have CH : Hid (∀ i, i < m → ∀ W, CodAt W (.agg (rowF 4 (c i))) (l.getD i tv0) → Calls Tryz.prog 124 #[.agg (rowF 4 (c i))] W fun e w' => e = .returned (.int .i64 ((depthN (l.getD i tv0) : Nat) : Int)) ∧ Below W.heap.size W w') := Lib.hid (fun i hi W h =>
      ih (d - 1) (by omega) (by omega) (l.getD i tv0) _ W (depth_child (by rw [hm]; exact hi) (by omega)) h)
    have DB : Hid (∀ i, (depthL (l.take i) : Int) ≤ 1000) := Lib.hid (fun i => by
      have h1 : depthL l = max (depthL (l.take i)) (depthL (l.drop i)) := by rw [← depthL_append, List.take_append_drop]
      omega)
    have D0 : Hid (depthL (l.take 0) = 0) := Lib.hid (by simp [depthL])
    have G3 : Hid (depthN (.mk 3 n s l) = depthL l + 1) := Lib.hid (by rw [depth_3])
    clear hl hc hv hm ht hd ih
    go_enter Tryz.func124, Tryz.ntmps124
    have B0 := Lib.hid (Below.refl w.heap.size w)
    go_upto_region 1 with fail
    obtain ⟨w1, hw1⟩ : ∃ y, w.alloc (.cells #[.int .i64 3, .int .i64 n, .string s, .slice a m cap] 90) = y := ⟨_, rfl⟩
    have b1 : Below w.heap.size w w1 := by rw [← hw1]; exact (Below.refl _ _).alloc (Nat.le_refl _) _
    have V1 : Hid (RowV w1 w.heap.size 90 4 (valC 3 n s (.slice a m cap))) := Lib.hid (by rw [← hw1]; exact RowV.new w _ 4 (valC 3 n s (.slice a m cap)))
    have z1 : w.heap.size + 1 = w1.heap.size := by rw [← hw1]; exact (Array.size_push _).symm
    rw [hw1]
    (try rw [z1])
    have B1 := Lib.hid (B0.out.trans (b1.mono B0.out.size))
    clear b1 hw1 z1 B0
    have x0 : _ = some (Value.int .i64 3) := V1.out.cell (i := 0) (by decide)
    go_wp2_with fail
    clear x0
    go_loopg [3, 4] m (fun g s3 s4 wx => ∃ i : Nat, i + g = m ∧ s4 = .int .i64 (i : Int) ∧ s3 = .int .i64 ((depthL (l.take i) : Nat) : Int) ∧ Hid (Below w1.heap.size w1 wx))
    case atStart => exact ⟨0, by omega, rfl, by rw [D0.out]; rfl, Lib.hid (Below.refl _ _)⟩
    case round =>
      obtain ⟨i, hi, rfl, rfl, hB⟩ := hrel
      obtain ⟨w3, rfl⟩ : ∃ y, y = wr := ⟨_, rfl⟩
      have V3 := Lib.hid (V1.out.below hB.out)
      have B3 := Lib.hid (B1.out.trans (hB.out.mono B1.out.size))
      have x3 : _ = some (Value.slice a m cap) := V3.out.cell (i := 3) (by decide)
      by_cases hlt : i < m
      · obtain ⟨b2, off, rfl, hcap, hb2, hcell⟩ := (HL2.out.below B3.out).at_elem hlt
        have HE := Lib.hid (hcell i hlt)
        have CE := Lib.hid (HC.out i hlt)
        have CA := Lib.hid (CH.out i hlt)
        have DT := Lib.hid (depthL_take l (k := i) (by rw [HM.out]; exact hlt))
        obtain ⟨ti, hti⟩ : ∃ f, l.getD i tv0 = f := ⟨_, rfl⟩
        rw [hti] at CE CA DT
        have d0 : decide ((i : Int) < (m : Int)) = true := by rw [decide_eq_true_iff]; omega
        have z1 : (0 : Int) ≤ (i : Int) := Int.natCast_nonneg i
        have z2 : (i : Int) < (m : Int) := by omega
        have p0 : 0 ≤ (i : Int) ∧ (i : Int) < (m : Int) := by omega
        have z3 : ((i : Int)).toNat = i := Int.toNat_natCast i
        clear hcell hti hb2 hlt
        go_wp2_with ((with_reducible (show wpList _ _ _ (Oper.mk (some 20) _ _ _ _ _ :: _) _ _)); refine wpList_load_elem rfl 90 (.tmp 19) rfl b2 _ rfl 4 off i (by omega) (c i) HE.out _ Tryz.underlying90 rfl (by kernel_rfl) ?_)
        refine (CA.out _ (CE.out.later B3.out)).mono ?_
        rintro e w4 ⟨rfl, b4⟩
        have K4 := Lib.hid (hB.out.trans (b4.mono hB.out.size))
        clear b4 B3 hB HE CE CA x3 V3
        have D1 := Lib.hid (DB.out (i + 1))
        rw [DT.out] at D1
        go_wp2_with fail
        go_roundg (gk - 1)
        case measure => omega
        case rel =>
          go_light
          exact ⟨i + 1, by omega, by go_num, by rw [DT.out]; congr 1; omega, K4⟩
      · obtain rfl : i = m := by omega
        have d0 : decide ((i : Int) < (i : Int)) = false := by rw [decide_eq_false_iff_not]; omega
        have e1 : l.take i = l := List.take_of_length_le (by rw [HM.out]; exact Nat.le_refl _)
        have D1 := DB.out i
        rw [e1] at D1 ⊢
        have F : Hid (Ending.returned (.int .i64 (((depthL l : Nat) : Int) + 1)) = Ending.returned (.int .i64 ((depthN (.mk 3 n s l) : Nat) : Int))) := Lib.hid (by rw [G3.out]; rfl)
        obtain ⟨dl, hdl⟩ : ∃ y, depthL l = y := ⟨_, rfl⟩
        rw [hdl] at F D1 ⊢
        have z0 : (0 : Int) ≤ (dl : Int) := Int.natCast_nonneg dl
        clear hdl e1 hB CH HC DB HL2 HM G3
        go_wp2_with fail
        go_ret
        exact ⟨F.out, B3.out⟩
  · rw [depth_no n s l k3]
    clear hl hc hv hm ht hd ih
    have j3 : (k == 3) = false := by simpa using k3
    have j3' : (k != 3) = true := by simpa using k3
    clear k3
    go_enter Tryz.func124, Tryz.ntmps124
    have B0 := Lib.hid (Below.refl w.heap.size w)
    go_upto_region 1 with fail
    obtain ⟨w1, hw1⟩ : ∃ y, w.alloc (.cells #[.int .i64 k, .int .i64 n, .string s, .slice a m cap] 90) = y := ⟨_, rfl⟩
    have b1 : Below w.heap.size w w1 := by rw [← hw1]; exact (Below.refl _ _).alloc (Nat.le_refl _) _
    have V1 : Hid (RowV w1 w.heap.size 90 4 (valC k n s (.slice a m cap))) := Lib.hid (by rw [← hw1]; exact RowV.new w _ 4 (valC k n s (.slice a m cap)))
    have z1 : w.heap.size + 1 = w1.heap.size := by rw [← hw1]; exact (Array.size_push _).symm
    rw [hw1]
    (try rw [z1])
    have B1 := Lib.hid (B0.out.trans (b1.mono B0.out.size))
    clear b1 hw1 z1 B0
    have x0 : _ = some (Value.int .i64 k) := V1.out.cell (i := 0) (by decide)
    go_wp2_with fail
    go_ret
    exact ⟨rfl, B1.out⟩
end Go.Proofs.YtmmppibbglacdaaGreatDoor

namespace Go.Proofs.YtmmppibbglacdaaGreatDoor
open Go.RowKit Cod
set_option maxRecDepth 100000 in
set_option maxHeartbeats 4000000 in
theorem rccheck_any (t : Tv) (v : Value) (w : World) (hd : depthN t ≤ 1000) (hv : CodAt w v t) :
    Calls Tryz.prog 95 #[v] w fun e w' => e = .returned (.int .i64 (chkT t)) ∧ Below w.heap.size w w' := by
  have H := Lib.hid (fun W h => rformed_any 1000 t v W hd h)
  have H2 := Lib.hid (fun W h => rdepth_any 1000 (Nat.le_refl _) t v W hd h)
  have HV := Lib.hid hv
  obtain ⟨k, n, s, l⟩ := t
  obtain ⟨a, cap, c, rfl, -⟩ := hv.open
  obtain ⟨m, hm⟩ : ∃ m, l.length = m := ⟨_, rfl⟩
  rw [hm] at H H2 HV ⊢
  obtain ⟨fb, hfb⟩ : ∃ f, formB (.mk k n s l) = f := ⟨_, rfl⟩
  have CT : Hid (chkT (.mk k n s l) = if fb then (if 16 < depthN (.mk k n s l) then 2 else 0) else 1) := Lib.hid (by unfold chkT; rw [hfb])
  rw [hfb] at H
  obtain ⟨ct, hct⟩ : ∃ y, chkT (.mk k n s l) = y := ⟨_, rfl⟩
  rw [hct] at CT ⊢
  obtain ⟨dd, hdd⟩ : ∃ y, depthN (.mk k n s l) = y := ⟨_, rfl⟩
  rw [hdd] at CT H2
  clear hm hfb hct hv hd hdd
  go_enter Tryz.func95, Tryz.ntmps95
  have B0 := Lib.hid (Below.refl w.heap.size w)
  go_upto_region 1 with fail
  obtain ⟨w1, hw1⟩ : ∃ y, w.alloc (.cells #[.int .i64 k, .int .i64 n, .string s, .slice a m cap] 90) = y := ⟨_, rfl⟩
  have b1 : Below w.heap.size w w1 := by rw [← hw1]; exact (Below.refl _ _).alloc (Nat.le_refl _) _
  have V1 : Hid (RowV w1 w.heap.size 90 4 (valC k n s (.slice a m cap))) := Lib.hid (by rw [← hw1]; exact RowV.new w _ 4 (valC k n s (.slice a m cap)))
  have z1 : w.heap.size + 1 = w1.heap.size := by rw [← hw1]; exact (Array.size_push _).symm
  rw [hw1]
  (try rw [z1])
  have B1 := Lib.hid (B0.out.trans (b1.mono B0.out.size))
  clear b1 hw1 z1 B0
  have x0 : _ = some (Value.int .i64 k) := V1.out.cell (i := 0) (by decide)
  have x1 : _ = some (Value.int .i64 n) := V1.out.cell (i := 1) (by decide)
  have x2 : _ = some (Value.string s) := V1.out.cell (i := 2) (by decide)
  have x3 : _ = some (Value.slice a m cap) := V1.out.cell (i := 3) (by decide)
  have C1 := Lib.hid (HV.out.later B1.out)
  go_wp2_with fail
  refine (H.out _ C1.out).mono ?_
  rintro e w2 ⟨rfl, b2⟩
  have B2 := Lib.hid (B1.out.trans (b2.mono B1.out.size))
  have V2 := Lib.hid (V1.out.below b2)
  clear b2 B1 V1
  clear x0 x1 x2 x3 H C1
  cases fb
  · obtain rfl : ct = 1 := CT.out
    clear CT H2
    go_wp2_with fail
    go_ret
    exact ⟨rfl, B2.out⟩
  · have CT2 : Hid (ct = if 16 < dd then 2 else 0) := Lib.hid CT.out
    clear CT
    have x0 : _ = some (Value.int .i64 k) := V2.out.cell (i := 0) (by decide)
    have x1 : _ = some (Value.int .i64 n) := V2.out.cell (i := 1) (by decide)
    have x2 : _ = some (Value.string s) := V2.out.cell (i := 2) (by decide)
    have x3 : _ = some (Value.slice a m cap) := V2.out.cell (i := 3) (by decide)
    have C2 := Lib.hid (HV.out.later B2.out)
    go_wp2_with fail
    refine (H2.out _ C2.out).mono ?_
    rintro e w3 ⟨rfl, b3⟩
    have B3 := Lib.hid (B2.out.trans (b3.mono B2.out.size))
    have V3 := Lib.hid (V2.out.below b3)
    clear b3 B2 V2
    clear x0 x1 x2 x3 H2 C2
    by_cases h16 : 16 < dd
    · have d0 : decide ((16 : Int) < (dd : Int)) = true := by rw [decide_eq_true_iff]; omega
      have d1 : decide (16 < dd) = true := by rw [decide_eq_true_iff]; exact h16
      obtain rfl : ct = 2 := by rw [CT2.out, if_pos h16]
      clear CT2 h16
      go_wp2_with fail
      go_ret
      exact ⟨rfl, B3.out⟩
    · have d0 : decide ((16 : Int) < (dd : Int)) = false := by rw [decide_eq_false_iff_not]; omega
      have d1 : decide (16 < dd) = false := by rw [decide_eq_false_iff_not]; exact h16
      obtain rfl : ct = 0 := by rw [CT2.out, if_neg h16]
      clear CT2 h16
      go_wp2_with fail
      go_ret
      exact ⟨rfl, B3.out⟩
/-- one byte of the call's own -/
theorem Owns.one (w : World) (y : UInt8) : Owns (w.alloc (.cells #[vB y] 5)) w.heap.size (.slice (some ⟨w.heap.size, 0, none⟩) 1 1) [y] :=
  ⟨rfl, .inr ⟨w.heap.size, 1, #[vB y], rfl, Nat.le_refl _, by show (w.heap.push _)[_]? = _; simp, Nat.le_refl _, by decide, rfl, rfl⟩⟩
set_option maxRecDepth 100000 in
set_option maxHeartbeats 4000000 in
theorem rnumeral_any : ∀ (u : Nat), u < 18446744073709551616 → ∀ w : World,
    Calls Tryz.prog 125 #[.int .u64 (u : Int)] w fun e w' => (∃ v, e = .returned v ∧ Owns w' w.heap.size v (numE u)) ∧ Below w.heap.size w w' := by
  intro u
  induction u using Nat.strongRecOn with
  | ind u ih =>
  intro hu w
  have HU := Lib.hid hu
  by_cases hx : u < 128
  · have d0 : decide ((u : Int) < 128) = true := by rw [decide_eq_true_iff]; omega
    have d1 : decide (u < 128) = true := by rw [decide_eq_true_iff]; omega
    obtain ⟨y, hy⟩ : ∃ y, UInt8.ofNat u = y := ⟨_, rfl⟩
    obtain ⟨yn, hyn⟩ : ∃ z : Int, (y.toNat : Int) = z := ⟨_, rfl⟩
    have hv : (u : Int) % 256 = yn := by rw [← hyn, ← hy]; simp
    have EN : Hid (numE u = [y]) := Lib.hid (by rw [numE_lo hx, hy])
    have OB := Lib.hid (Owns.one w y)
    unfold vB at OB
    rw [hyn] at OB
    rw [EN.out]
    clear hx hy hyn hu ih
    go_enter Tryz.func125, Tryz.ntmps125
    go_wp2_with fail
    go_ret
    exact ⟨⟨_, rfl, OB.out⟩, (Below.refl _ w).alloc (Nat.le_refl _) _⟩
  · have d0 : decide ((u : Int) < 128) = false := by rw [decide_eq_false_iff_not]; omega
    have d1 : decide (u < 128) = false := by rw [decide_eq_false_iff_not]; omega
    have IH := Lib.hid (ih (u / 128) (by omega) (by omega))
    obtain ⟨y, hy⟩ : ∃ y, UInt8.ofNat (u % 128 + 128) = y := ⟨_, rfl⟩
    obtain ⟨yn, hyn⟩ : ∃ z : Int, (y.toNat : Int) = z := ⟨_, rfl⟩
    have hyt : y.toNat = u % 128 + 128 := by rw [← hy]; simp; omega
    have t1 : ((u : Int)).tmod 128 = yn - 128 := by rw [Int.tmod_eq_emod_of_nonneg (Int.natCast_nonneg _), ← hyn]; omega
    have t2 : ((u : Int)).tdiv 128 = ((u / 128 : Nat) : Int) := by rw [Int.tdiv_eq_ediv_of_nonneg (Int.natCast_nonneg _)]; omega
    have y0 : 128 ≤ yn := by omega
    have y1 : yn ≤ 255 := by omega
    have EN : Hid (numE u = [y] ++ numE (u / 128)) := Lib.hid (by rw [numE_hi hx, hy]; rfl)
    obtain ⟨q, hq⟩ : ∃ q, u / 128 = q := ⟨_, rfl⟩
    rw [hq] at IH t2 EN
    have H10 := Lib.hid (numE_10 (u := q) (by omega))
    have OB := Lib.hid (Owns.one w y)
    unfold vB at OB
    rw [hyn] at OB
    rw [EN.out]
    have w3 : IntKind.u64.wrap (q : Int) = (q : Int) := by rw [IntKind.wrap_u64]; omega
    have u0 : (u : Int) % 128 = yn - 128 := by omega
    have u1 : (u : Int) / 128 = (q : Int) := by omega
    clear hx hy hyt hyn hu ih hq
    go_enter Tryz.func125, Tryz.ntmps125
    go_wp2_with fail
    refine (IH.out _).mono ?_
    rintro e w2 ⟨⟨v2, rfl, o2⟩, b2⟩
    have O2 := Lib.hid (o2.bytesAt (by have := H10.out; omega))
    have OO := Lib.hid (OB.out.below b2)
    have B2 := Lib.hid (((Below.refl _ w).alloc (Nat.le_refl _) _).trans (b2.mono (by rw [World.size_alloc]; omega)))
    clear o2 b2 OB
    go_wp2_with ((with_reducible (show wpList _ _ _ (Oper.mk (some 16) _ _ _ _ _ :: _) _ _)); refine wpList_app_bytes rfl (.tmp 12) (.tmp 15) rfl w.heap.size (.slice (some ⟨w.heap.size, 0, none⟩) 1 1) v2 [y] (numE q) rfl rfl OO.out O2.out (by have := H10.out; simp only [List.length_cons, List.length_nil]; omega) B2.out.size ?_; intro v3 w3 O3 s3)
    go_ret
    exact ⟨⟨_, rfl, O3.out⟩, B2.out.trans (s3.out.below OO.out B2.out.size)⟩
set_option maxRecDepth 100000 in
set_option maxHeartbeats 2000000 in
theorem runsigned_any (n : Int) (hn : i64B n) (w : World) :
    Calls Tryz.prog 126 #[.int .i64 n] w fun e w' => e = .returned (.int .u64 ((zig n : Nat) : Int)) ∧ w = w' := by
  obtain ⟨h1, h2⟩ := hn
  by_cases h0 : 0 ≤ n
  · have d0 : decide (0 ≤ n) = true := by rw [decide_eq_true_iff]; exact h0
    have w1 : IntKind.u64.wrap n = n := by rw [IntKind.wrap_u64]; omega
    have w2 : IntKind.u64.wrap (2 * n) = 2 * n := by rw [IntKind.wrap_u64]; omega
    have Z : Hid (((zig n : Nat) : Int) = 2 * n) := Lib.hid (by unfold zig; rw [if_pos h0]; omega)
    rw [Z.out]
    clear h1 h2 Z
    go_enter Tryz.func126, Tryz.ntmps126
    go_wp2_with fail
    go_ret
    exact ⟨rfl, rfl⟩
  · have d0 : decide (0 ≤ n) = false := by rw [decide_eq_false_iff_not]; exact h0
    obtain ⟨p, hp⟩ : ∃ p : Int, -(n + 1) = p := ⟨_, rfl⟩
    have p0 : 0 ≤ p := by omega
    have p1 : p < 9223372036854775808 := by omega
    have w0 : IntKind.i64.wrap (n + 1) = n + 1 := IntWalk.i64_in _ (by omega)
    have w1 : IntKind.i64.wrap (-(n + 1)) = p := by rw [hp]; exact IntWalk.i64_in _ (by omega)
    have w2 : IntKind.u64.wrap p = p := by rw [IntKind.wrap_u64]; omega
    have w3 : IntKind.u64.wrap (2 * p) = 2 * p := by rw [IntKind.wrap_u64]; omega
    have w4 : IntKind.u64.wrap (2 * p + 1) = 2 * p + 1 := by rw [IntKind.wrap_u64]; omega
    have Z : Hid (((zig n : Nat) : Int) = 2 * p + 1) := Lib.hid (by unfold zig; rw [if_neg h0]; omega)
    rw [Z.out]
    clear h1 h2 Z hp p1 h0
    go_enter Tryz.func126, Tryz.ntmps126
    go_wp2_with fail
    go_ret
    exact ⟨rfl, rfl⟩
end Go.Proofs.YtmmppibbglacdaaGreatDoor
