/- Package codec: Check, Encode. -/
import Derived.Test.YtmmppibbglacdaaDoorPk20
set_option linter.unusedVariables false
set_option linter.unusedSimpArgs false
namespace Go.Proofs.YtmmppibbglacdaaDoor
open Go.RowKit Cod
theorem write_all (W0 : World) (b c : Nat) (hw : WrAt W0 b c) : ∀ (d : Nat) (t : Tv) (v : Value), depthN t ≤ d → formB t = true → CodAt W0 v t → WrOk W0 b c v t := by
  intro d
  induction d using Nat.strongRecOn with
  | ind d ih =>
  intro t v hd hf hv
  obtain ⟨k, n, s, l⟩ := t
  rcases form_kind hf with h1 | h1 | h1
  · obtain rfl : k = 1 := h1
    intro base v0 l0 w hb0 hW h0 hbase hlen
    exact write1_any n s l v base v0 l0 w (hv.later hW) h0 hbase hlen
  · obtain rfl : k = 2 := h1
    intro base v0 l0 w hb0 hW h0 hbase hlen
    exact write2_any n s l v base v0 l0 w (hv.later hW) h0 hbase hlen
  · obtain rfl : k = 3 := h1
    obtain ⟨a, cap, c', rfl, hk, hn, hs, hl, hc⟩ := hv.open
    rw [depth_3] at hd
    rw [form_3, Bool.and_eq_true] at hf
    have hfi : ∀ i, i < l.length → formB (l.getD i tv0) = true := by
      intro i hi
      cases hb : formB (l.getD i tv0) with
      | true => rfl
      | false => rw [formL_no hi hb] at hf; exact absurd hf.2 (by decide)
    exact write3_any W0 b c hw n s l a l.length cap rfl c' hl hc hfi (fun i hi => ih (d - 1) (by omega) _ _ (depth_child hi (by omega)) (hfi i hi) (hc i hi))
theorem Owns.lower {w : World} {base low : Nat} {v : Value} {l : List UInt8} (h : Owns w base v l) (hb : low ≤ base) : Owns w low v l :=
  ⟨h.1, h.2.imp id (fun ⟨g, cap, cur, e, hb1, r⟩ => ⟨g, cap, cur, e, Nat.le_trans hb hb1, r⟩)⟩
/-- what Check answers -/
def chkT (t : Tv) : Int := if formB t then (if 16 < depthN t then 2 else 0) else 1
set_option maxRecDepth 100000 in
set_option maxHeartbeats 4000000 in
theorem ccheck_any (t : Tv) (v : Value) (w : World) (hd : depthN t ≤ 1000) (hv : CodAt w v t) :
    Calls Tryd.prog 54 #[v] w fun e w' => e = .returned (.int .i64 (chkT t)) ∧ Below w.heap.size w w' := by
  have H := Lib.hid (fun W h => formed_any 1000 (Nat.le_refl _) t v W hd h)
  have HV := Lib.hid hv
  obtain ⟨k, n, s, l⟩ := t
  obtain ⟨a, cap, c, rfl, -⟩ := hv.open
  obtain ⟨m, hm⟩ : ∃ m, l.length = m := ⟨_, rfl⟩
  rw [hm] at H HV ⊢
  obtain ⟨fb, hfb⟩ : ∃ f, formB (.mk k n s l) = f := ⟨_, rfl⟩
  obtain ⟨fd, hfd⟩ : ∃ f, fmD (.mk k n s l) = f := ⟨_, rfl⟩
  have FD : Hid (fb = true → fd = ((depthN (.mk k n s l) : Nat) : Int)) := Lib.hid (fun h => by rw [← hfd, fmD, hfb, h]; rfl)
  have CT : Hid (chkT (.mk k n s l) = if fb then (if 16 < depthN (.mk k n s l) then 2 else 0) else 1) := Lib.hid (by unfold chkT; rw [hfb])
  rw [hfb, hfd] at H
  obtain ⟨ct, hct⟩ : ∃ y, chkT (.mk k n s l) = y := ⟨_, rfl⟩
  rw [hct] at CT ⊢
  obtain ⟨dd, hdd⟩ : ∃ y, depthN (.mk k n s l) = y := ⟨_, rfl⟩
  rw [hdd] at CT FD
  clear hm hfb hfd hct hv hd hdd
  go_enter Tryd.func54, Tryd.ntmps54
  have B0 := Lib.hid (Below.refl w.heap.size w)
  go_upto_region 1 with fail
  obtain ⟨w1, hw1⟩ : ∃ y, w.alloc (.cells #[.int .i64 k, .int .i64 n, .string s, .slice a m cap] 75) = y := ⟨_, rfl⟩
  have b1 : Below w.heap.size w w1 := by rw [← hw1]; exact (Below.refl _ _).alloc (Nat.le_refl _) _
  have V1 : Hid (RowV w1 w.heap.size 75 4 (valC k n s (.slice a m cap))) := Lib.hid (by rw [← hw1]; exact RowV.new w _ 4 (valC k n s (.slice a m cap)))
  have z1 : w.heap.size + 1 = w1.heap.size := by rw [← hw1]; exact (Array.size_push _).symm
  rw [hw1]
  (try rw [z1])
  have B1 := Lib.hid (B0.out.trans (b1.mono B0.out.size))
  clear b1 hw1 z1 B0
  have x0 : _ = some (Value.int .i64 k) := V1.out.cell (i := 0) (by decide)
  have x1 : _ = some (Value.int .i64 n) := V1.out.cell (i := 1) (by decide)
  have x2 : _ = some (Value.string s) := V1.out.cell (i := 2) (by decide)
  have x3 : _ = some (Value.slice a m cap) := V1.out.cell (i := 3) (by decide)
  have C1 := Lib.hid (HV.out.later B1.out)
  go_wp2_with fail
  refine (H.out _ C1.out).mono ?_
  rintro e w2 ⟨rfl, b2⟩
  have B2 := Lib.hid (B1.out.trans (b2.mono B1.out.size))
  have V2 := Lib.hid (V1.out.below b2)
  clear b2 B1 V1
  clear x0 x1 x2 x3 H HV C1
  cases fb
  · obtain rfl : ct = 1 := CT.out
    clear CT FD
    go_wp2_with fail
    go_ret
    exact ⟨rfl, B2.out⟩
  · obtain rfl := FD.out rfl
    have CT2 : Hid (ct = if 16 < dd then 2 else 0) := Lib.hid CT.out
    clear CT FD
    by_cases h16 : 16 < dd
    · have d0 : decide ((16 : Int) < (dd : Int)) = true := by rw [decide_eq_true_iff]; omega
      have d1 : decide (16 < dd) = true := by rw [decide_eq_true_iff]; exact h16
      obtain rfl : ct = 2 := by rw [CT2.out, if_pos h16]
      clear CT2 h16
      go_wp2_with fail
      go_ret
      exact ⟨rfl, B2.out⟩
    · have d0 : decide ((16 : Int) < (dd : Int)) = false := by rw [decide_eq_false_iff_not]; omega
      have d1 : decide (16 < dd) = false := by rw [decide_eq_false_iff_not]; exact h16
      obtain rfl : ct = 0 := by rw [CT2.out, if_neg h16]
      clear CT2 h16
      go_wp2_with fail
      go_ret
      exact ⟨rfl, B2.out⟩
/-- what Encode answers -/
def EncPost (t : Tv) (w : World) (e : Ending) (w' : World) : Prop :=
  (if chkT t = 0 then ∃ u, e = .returned (.tuple #[u, .int .i64 0]) ∧ Owns w' w.heap.size u (encV t) else e = .returned (.tuple #[.slice none 0 0, .int .i64 (chkT t)])) ∧ Below w.heap.size w w'
theorem chkT_3 (t : Tv) : chkT t = 0 ∨ chkT t = 1 ∨ chkT t = 2 := by unfold chkT; split <;> (try split) <;> simp
theorem chkT_0 {t : Tv} (h : chkT t = 0) : formB t = true ∧ depthN t ≤ 16 := by
  unfold chkT at h
  split at h
  · rename_i h1
    refine ⟨h1, ?_⟩
    split at h
    · cases h
    · omega
  · cases h
set_option maxRecDepth 100000 in
set_option maxHeartbeats 8000000 in
theorem cencode_any (t : Tv) (v : Value) (w : World) (hd : depthN t ≤ 1000) (hv : CodAt w v t) (hlen : (encV t).length ≤ 140737488340000) :
    Calls Tryd.prog 35 #[v] w (EncPost t w) := by
  have H := Lib.hid (fun W h => ccheck_any t v W hd h)
  have HW := Lib.hid (fun (hf : formB t = true) (W0 : World) (b c : Nat) (hw : WrAt W0 b c) (h : CodAt W0 v t) => write_all W0 b c hw 1000 t v hd hf h)
  have HV := Lib.hid hv
  have HL := Lib.hid hlen
  have HD := Lib.hid hd
  obtain ⟨k, n, s, l⟩ := t
  obtain ⟨a, cap, c, rfl, -⟩ := hv.open
  obtain ⟨m, hm⟩ : ∃ m, l.length = m := ⟨_, rfl⟩
  rw [hm] at H HV HW ⊢
  obtain ⟨ct, hct⟩ : ∃ y, chkT (.mk k n s l) = y := ⟨_, rfl⟩
  have HCT := Lib.hid hct
  rw [hct] at H
  clear hm hct hv hlen hd
  rcases (HCT.out ▸ chkT_3 (.mk k n s l) : ct = 0 ∨ ct = 1 ∨ ct = 2) with h0 | h0
  · subst h0
    have HF := chkT_0 HCT.out
    have KI := Lib.hid (form_kind HF.1)
    have W1 := Lib.hid (HW.out HF.1)
    clear HF HW
    go_enter Tryd.func35, Tryd.ntmps35
    have B0 := Lib.hid (Below.refl w.heap.size w)
    go_upto_region 1 with fail
    obtain ⟨w1, hw1⟩ : ∃ y, w.alloc (.cells #[.int .i64 k, .int .i64 n, .string s, .slice a m cap] 75) = y := ⟨_, rfl⟩
    have b1 : Below w.heap.size w w1 := by rw [← hw1]; exact (Below.refl _ _).alloc (Nat.le_refl _) _
    have V1 : Hid (RowV w1 w.heap.size 75 4 (valC k n s (.slice a m cap))) := Lib.hid (by rw [← hw1]; exact RowV.new w _ 4 (valC k n s (.slice a m cap)))
    have z1 : w.heap.size + 1 = w1.heap.size := by rw [← hw1]; exact (Array.size_push _).symm
    rw [hw1]
    (try rw [z1])
    have B1 := Lib.hid (B0.out.trans (b1.mono B0.out.size))
    clear b1 hw1 z1 B0
    have x0 : _ = some (Value.int .i64 k) := V1.out.cell (i := 0) (by decide)
    have x1 : _ = some (Value.int .i64 n) := V1.out.cell (i := 1) (by decide)
    have x2 : _ = some (Value.string s) := V1.out.cell (i := 2) (by decide)
    have x3 : _ = some (Value.slice a m cap) := V1.out.cell (i := 3) (by decide)
    have C1 := Lib.hid (HV.out.later B1.out)
    go_wp2_with fail
    refine (H.out _ C1.out).mono ?_
    rintro e w2 ⟨rfl, b2⟩
    have B2 := Lib.hid (B1.out.trans (b2.mono B1.out.size))
    have V2 := Lib.hid (V1.out.below b2)
    clear b2 B1 V1
    clear x0 x1 x2 x3 H C1
    go_upto_region 4 with fail
    have L2 := Lib.hid V2.out.lt
    refine Tc.wp_region_plan (Tc.Rl.stay (fun k => k < w2.heap.size)) 8 [] (.fl 1 (.fl 2 (.fl 7 (.one 0 (.fl 3 (.fl 4 (.fl 5 (.one 6 .done)))))))) (by kernel_rfl) (by kernel_rfl) ?_
    intro w3 b3 e3
    have B3 := Lib.hid (B2.out.trans (b3.mono B2.out.size))
    have V3 := Lib.hid (V2.out.below b3)
    have S3 := Lib.hid b3.size
    clear b3 e3 B2 V2
    refine Tc.plan_floats [1, 2, 7] [_, _, _] rfl ?_
    dsimp only [List.getElem_toArray, List.getElem_cons_succ, List.getElem_cons_zero]
    repeat (go_big_quiet_want; go_big_quiet_op; first | go_big_quiet_on | (refine ⟨_, fun _ _ => rfl, ?_⟩; go_big_quiet_on))
    refine wpQuiet_load_cell rfl 3 (.tmp 11) rfl w.heap.size 0 rfl _ Tryd.underlying3 rfl (.int .i64 k) (fun W hW => (stay_row (S := fun k => k < w2.heap.size) V3.out L2.out hW).cell (i := 0) (by decide)) ?_
    simp only [Act.put, List.setIfInBounds_toArray, List.set_cons_succ, List.set_cons_zero]
    refine wpQuiet_load_agg rfl 75 (.tmp 1) rfl w.heap.size rfl _ Tryd.underlying75 rfl 4 (by kernel_rfl) 75 _ (fun W hW => stay_row (S := fun k => k < w2.heap.size) V3.out L2.out hW) ?_
    simp only [Act.put, List.setIfInBounds_toArray, List.set_cons_succ, List.set_cons_zero]
    refine wpQuiet_nil ?_
    refine Tc.plan_one 0 rfl (fun K hK => ?_)
    go_wp2_with fail
    refine (newWriter_any _).mono ?_
    rintro e w4 ⟨⟨b, c, rfl, hwr⟩, b4⟩
    go_wp2_with fail
    refine hK _ _ (stay_below b4 (fun k hk => Nat.lt_of_lt_of_le hk S3.out)) ?_
    have B4 := Lib.hid (B3.out.trans (b4.mono B3.out.size))
    have R4 := Lib.hid hwr
    have HC := Lib.hid (W1.out w4 b c hwr (HV.out.later B4.out))
    clear hK K b4 hwr B3 V3 S3 L2 W1 HV
    rcases KI.out with k1 | k1 | k1
    · obtain rfl : k = 1 := k1
      have call : Calls Tryd.prog 71 (#[.slice none 0 0, .agg #[.int .i64 1, .int .i64 n, .string s, .slice a m cap]]) w4 (fun e wx => ∃ vx, e = .returned vx ∧ Owns wx w4.heap.size vx ([] ++ encV (.mk 1 n s l)) ∧ AppStep w4 (.slice none 0 0) wx vx) :=
        HC.out w4.heap.size (.slice none 0 0) [] w4 (Nat.le_refl _) (Below.refl _ _) (Owns.nil _ _) (Nat.le_refl _) (by have := HL.out; simpa using this)
      have HCall := Lib.hid call
      have EP : Hid (chkT (.mk 1 n s l) = 0) := HCT
      clear call HC HCT KI
      refine Tc.plan_floats [3, 4, 5] [_, _, _] rfl ?_
      dsimp only [List.getElem_toArray, List.getElem_cons_succ, List.getElem_cons_zero]
      repeat (go_big_quiet_want; go_big_quiet_op; first | go_big_quiet_on | (refine ⟨_, fun _ _ => rfl, ?_⟩; go_big_quiet_on))
      refine wpQuiet_nil ?_
      refine Tc.plan_one 6 rfl (fun K hK => ?_)
      have y : w4.cell? ⟨b, 1, none⟩ = some (.func (.func 71) #[] #[]) := R4.out.1.cell (i := 1) (by decide)
      go_wp2_with fail
      refine hK _ _ (Tc.Rl.refl _ _) ?_
      clear hK K y
      refine Tc.plan_done (l := _) rfl (fun K hK => ?_)
      go_wp2_with fail
      refine HCall.out.mono ?_
      rintro e w5 ⟨u, rfl, o5, s5⟩
      have O5 := Lib.hid o5
      have B5 := Lib.hid (B4.out.trans ((s5.below (Owns.nil w4 w4.heap.size) (Nat.le_refl _)).mono B4.out.size))
      clear o5 s5 HCall
      go_wp2_with fail
      go_ret2
      exact ⟨by rw [EP.out, if_pos rfl]; exact ⟨u, rfl, O5.out.lower B4.out.size⟩, B5.out⟩
    · obtain rfl : k = 2 := k1
      have call : Calls Tryd.prog 74 (#[.slice none 0 0, .agg #[.int .i64 2, .int .i64 n, .string s, .slice a m cap]]) w4 (fun e wx => ∃ vx, e = .returned vx ∧ Owns wx w4.heap.size vx ([] ++ encV (.mk 2 n s l)) ∧ AppStep w4 (.slice none 0 0) wx vx) :=
        HC.out w4.heap.size (.slice none 0 0) [] w4 (Nat.le_refl _) (Below.refl _ _) (Owns.nil _ _) (Nat.le_refl _) (by have := HL.out; simpa using this)
      have HCall := Lib.hid call
      have EP : Hid (chkT (.mk 2 n s l) = 0) := HCT
      clear call HC HCT KI
      refine Tc.plan_floats [3, 4, 5] [_, _, _] rfl ?_
      dsimp only [List.getElem_toArray, List.getElem_cons_succ, List.getElem_cons_zero]
      repeat (go_big_quiet_want; go_big_quiet_op; first | go_big_quiet_on | (refine ⟨_, fun _ _ => rfl, ?_⟩; go_big_quiet_on))
      refine wpQuiet_nil ?_
      refine Tc.plan_one 6 rfl (fun K hK => ?_)
      have y : w4.cell? ⟨b, 2, none⟩ = some (.func (.func 74) #[] #[]) := R4.out.1.cell (i := 2) (by decide)
      go_wp2_with fail
      refine hK _ _ (Tc.Rl.refl _ _) ?_
      clear hK K y
      refine Tc.plan_done (l := _) rfl (fun K hK => ?_)
      go_wp2_with fail
      refine HCall.out.mono ?_
      rintro e w5 ⟨u, rfl, o5, s5⟩
      have O5 := Lib.hid o5
      have B5 := Lib.hid (B4.out.trans ((s5.below (Owns.nil w4 w4.heap.size) (Nat.le_refl _)).mono B4.out.size))
      clear o5 s5 HCall
      go_wp2_with fail
      go_ret2
      exact ⟨by rw [EP.out, if_pos rfl]; exact ⟨u, rfl, O5.out.lower B4.out.size⟩, B5.out⟩
    · obtain rfl : k = 3 := k1
      have call : Calls Tryd.prog 75 (#[.slice none 0 0, .agg #[.int .i64 3, .int .i64 n, .string s, .slice a m cap], .pointer (some ⟨c, 0, none⟩)]) w4 (fun e wx => ∃ vx, e = .returned vx ∧ Owns wx w4.heap.size vx ([] ++ encV (.mk 3 n s l)) ∧ AppStep w4 (.slice none 0 0) wx vx) :=
        HC.out w4.heap.size (.slice none 0 0) [] w4 (Nat.le_refl _) (Below.refl _ _) (Owns.nil _ _) (Nat.le_refl _) (by have := HL.out; simpa using this)
      have HCall := Lib.hid call
      have EP : Hid (chkT (.mk 3 n s l) = 0) := HCT
      clear call HC HCT KI
      refine Tc.plan_floats [3, 4, 5] [_, _, _] rfl ?_
      dsimp only [List.getElem_toArray, List.getElem_cons_succ, List.getElem_cons_zero]
      repeat (go_big_quiet_want; go_big_quiet_op; first | go_big_quiet_on | (refine ⟨_, fun _ _ => rfl, ?_⟩; go_big_quiet_on))
      refine wpQuiet_nil ?_
      refine Tc.plan_one 6 rfl (fun K hK => ?_)
      have y : w4.cell? ⟨b, 3, none⟩ = some (.func (.func 75) #[] #[.pointer (some ⟨c, 0, none⟩)]) := R4.out.1.cell (i := 3) (by decide)
      go_wp2_with fail
      refine hK _ _ (Tc.Rl.refl _ _) ?_
      clear hK K y
      refine Tc.plan_done (l := _) rfl (fun K hK => ?_)
      go_wp2_with fail
      refine HCall.out.mono ?_
      rintro e w5 ⟨u, rfl, o5, s5⟩
      have O5 := Lib.hid o5
      have B5 := Lib.hid (B4.out.trans ((s5.below (Owns.nil w4 w4.heap.size) (Nat.le_refl _)).mono B4.out.size))
      clear o5 s5 HCall
      go_wp2_with fail
      go_ret2
      exact ⟨by rw [EP.out, if_pos rfl]; exact ⟨u, rfl, O5.out.lower B4.out.size⟩, B5.out⟩
  · have EP : Hid (EncPost (.mk k n s l) w = fun e w' => e = .returned (.tuple #[.slice none 0 0, .int .i64 ct]) ∧ Below w.heap.size w w') := Lib.hid (by
      funext e w'; unfold EncPost; rw [HCT.out, if_neg (by rcases h0 with h | h <;> rw [h] <;> decide)])
    rw [EP.out]
    clear EP HW HCT
    rcases h0 with h0 | h0 <;> subst h0
    · go_enter Tryd.func35, Tryd.ntmps35
      have B0 := Lib.hid (Below.refl w.heap.size w)
      go_upto_region 1 with fail
      obtain ⟨w1, hw1⟩ : ∃ y, w.alloc (.cells #[.int .i64 k, .int .i64 n, .string s, .slice a m cap] 75) = y := ⟨_, rfl⟩
      have b1 : Below w.heap.size w w1 := by rw [← hw1]; exact (Below.refl _ _).alloc (Nat.le_refl _) _
      have V1 : Hid (RowV w1 w.heap.size 75 4 (valC k n s (.slice a m cap))) := Lib.hid (by rw [← hw1]; exact RowV.new w _ 4 (valC k n s (.slice a m cap)))
      have z1 : w.heap.size + 1 = w1.heap.size := by rw [← hw1]; exact (Array.size_push _).symm
      rw [hw1]
      (try rw [z1])
      have B1 := Lib.hid (B0.out.trans (b1.mono B0.out.size))
      clear b1 hw1 z1 B0
      have x0 : _ = some (Value.int .i64 k) := V1.out.cell (i := 0) (by decide)
      have x1 : _ = some (Value.int .i64 n) := V1.out.cell (i := 1) (by decide)
      have x2 : _ = some (Value.string s) := V1.out.cell (i := 2) (by decide)
      have x3 : _ = some (Value.slice a m cap) := V1.out.cell (i := 3) (by decide)
      have C1 := Lib.hid (HV.out.later B1.out)
      go_wp2_with fail
      refine (H.out _ C1.out).mono ?_
      rintro e w2 ⟨rfl, b2⟩
      have B2 := Lib.hid (B1.out.trans (b2.mono B1.out.size))
      have V2 := Lib.hid (V1.out.below b2)
      clear b2 B1 V1
      go_wp2_with fail
      go_ret2
      exact ⟨rfl, B2.out⟩
    · go_enter Tryd.func35, Tryd.ntmps35
      have B0 := Lib.hid (Below.refl w.heap.size w)
      go_upto_region 1 with fail
      obtain ⟨w1, hw1⟩ : ∃ y, w.alloc (.cells #[.int .i64 k, .int .i64 n, .string s, .slice a m cap] 75) = y := ⟨_, rfl⟩
      have b1 : Below w.heap.size w w1 := by rw [← hw1]; exact (Below.refl _ _).alloc (Nat.le_refl _) _
      have V1 : Hid (RowV w1 w.heap.size 75 4 (valC k n s (.slice a m cap))) := Lib.hid (by rw [← hw1]; exact RowV.new w _ 4 (valC k n s (.slice a m cap)))
      have z1 : w.heap.size + 1 = w1.heap.size := by rw [← hw1]; exact (Array.size_push _).symm
      rw [hw1]
      (try rw [z1])
      have B1 := Lib.hid (B0.out.trans (b1.mono B0.out.size))
      clear b1 hw1 z1 B0
      have x0 : _ = some (Value.int .i64 k) := V1.out.cell (i := 0) (by decide)
      have x1 : _ = some (Value.int .i64 n) := V1.out.cell (i := 1) (by decide)
      have x2 : _ = some (Value.string s) := V1.out.cell (i := 2) (by decide)
      have x3 : _ = some (Value.slice a m cap) := V1.out.cell (i := 3) (by decide)
      have C1 := Lib.hid (HV.out.later B1.out)
      go_wp2_with fail
      refine (H.out _ C1.out).mono ?_
      rintro e w2 ⟨rfl, b2⟩
      have B2 := Lib.hid (B1.out.trans (b2.mono B1.out.size))
      have V2 := Lib.hid (V1.out.below b2)
      clear b2 B1 V1
      go_wp2_with fail
      go_ret2
      exact ⟨rfl, B2.out⟩
end Go.Proofs.YtmmppibbglacdaaDoor
