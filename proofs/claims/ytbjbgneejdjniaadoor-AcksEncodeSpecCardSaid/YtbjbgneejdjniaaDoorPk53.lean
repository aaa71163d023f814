/- The reference of package acks: formed, list. The reference's reader. The reference's reader: a number. A slice of a slice of bytes, read in a region that draws. The reference's reader: a value. The reference: Decode. The reference of package acks: encoding, Encode. The reference of package acks: Decode. -/
import Derived.Test.YtbjbgneejdjniaaDoorPk52
import Derived.Test.YtbjbgneejdjniaaDoorPk39
import Derived.Test.YtbjbgneejdjniaaDoorPk49
import Derived.Test.YtbjbgneejdjniaaDoorPk40
set_option linter.unusedVariables false
set_option linter.unusedSimpArgs false
namespace Go.Proofs.YtbjbgneejdjniaaDoor
open Go.RowKit Cod
set_option maxRecDepth 100000 in
set_option maxHeartbeats 4000000 in
theorem r33formed_any (f d s u : Int) (w : World) :
    Calls Tryd.prog 26 #[.int .i64 f, .int .i64 d, .int .i64 s, .int .i64 u] w fun e w' => e = .returned (.bool (okA ⟨f, d, s, u, z32, 0, 0⟩)) ∧ Below w.heap.size w w' := by
  have HU : Hid (okA ⟨f, d, s, u, z32, 0, 0⟩ = (decide (0 ≤ f) && decide (f < 16) && decide (0 ≤ d) && decide (d < 512) && decide (0 ≤ s) && decide (s < 4) && decide (0 ≤ u) && decide (u ≤ 65536))) := Lib.hid (by
    unfold okA; congr 1; rw [decide_eq_decide]; show u < 65537 ↔ _; omega)
  rw [HU.out]
  clear HU
  go_enter Tryd.func26, Tryd.ntmps26
  cases h0 : decide (0 ≤ f)
  · go_wp2_with fail
    go_ret
    exact ⟨rfl, Below.refl _ _⟩
  cases h1 : decide (f < 16)
  · go_wp2_with fail
    go_ret
    exact ⟨rfl, Below.refl _ _⟩
  cases h2 : decide (0 ≤ d)
  · go_wp2_with fail
    go_ret
    exact ⟨rfl, Below.refl _ _⟩
  cases h3 : decide (d < 512)
  · go_wp2_with fail
    go_ret
    exact ⟨rfl, Below.refl _ _⟩
  cases h4 : decide (0 ≤ s)
  · go_wp2_with fail
    go_ret
    exact ⟨rfl, Below.refl _ _⟩
  cases h5 : decide (s < 4)
  · go_wp2_with fail
    go_ret
    exact ⟨rfl, Below.refl _ _⟩
  cases h6 : decide (0 ≤ u)
  · go_wp2_with fail
    go_ret
    exact ⟨rfl, Below.refl _ _⟩
  cases h7 : decide (u ≤ 65536)
  · go_wp2_with fail
    go_ret
    exact ⟨rfl, Below.refl _ _⟩
  · go_wp2_with fail
    go_ret
    exact ⟨rfl, Below.refl _ _⟩
set_option maxRecDepth 100000 in
set_option maxHeartbeats 8000000 in
theorem rlist33_any (a : Ak) (ha : a.wf) (w : World) :
    Calls Tryd.prog 47 #[.agg (rowF 38 (akC a))] w fun e w' => (∃ u tx, e = .returned (.agg (rowF 4 (valC 3 0 ⟨#[]⟩ u))) ∧ ByteArray.mk a.ch.toArray = tx ∧ OwnT 51 4 valE w' w.heap.size u [valC 1 a.f ⟨#[]⟩ (.slice none 0 0), valC 1 a.d ⟨#[]⟩ (.slice none 0 0), valC 1 a.s ⟨#[]⟩ (.slice none 0 0), valC 1 a.u ⟨#[]⟩ (.slice none 0 0), valC 2 0 tx (.slice none 0 0)]) ∧ Below w.heap.size w w' := by
  have WA := Lib.hid ha
  clear ha
  go_enter Tryd.func47, Tryd.ntmps47
  have B0 := Lib.hid (Below.refl w.heap.size w)
  go_upto_region 1 with fail
  obtain ⟨w1, hw1⟩ : ∃ y, w.alloc (.cells (rowF 38 (akC a)) 27) = y := ⟨_, rfl⟩
  have b1 : Below w.heap.size w w1 := by rw [← hw1]; exact (Below.refl _ _).alloc (Nat.le_refl _) _
  have A1 : Hid (RowV w1 w.heap.size 27 38 (akC a)) := Lib.hid (by rw [← hw1]; exact RowV.new w _ 38 (akC a))
  have z1 : w.heap.size + 1 = w1.heap.size := by rw [← hw1]; exact (Array.size_push _).symm
  rw [hw1]
  (try rw [z1])
  have B1 := Lib.hid (B0.out.trans (b1.mono B0.out.size))
  clear b1 hw1 z1 B0
  have S1 := Lib.hid B1.out.size
  obtain ⟨w2, hw2⟩ : ∃ y, w1.alloc (.cells #[.int .i64 0, .int .i64 0, .string ⟨#[]⟩, .slice none 0 0] 51) = y := ⟨_, rfl⟩
  have b2 : Below w1.heap.size w1 w2 := by rw [← hw2]; exact (Below.refl _ _).alloc (Nat.le_refl _) _
  have V2 : Hid (RowV w2 w1.heap.size 51 4 zeroC) := Lib.hid (by rw [← hw2]; exact RowV.new w1 _ 4 zeroC)
  have z2 : w1.heap.size + 1 = w2.heap.size := by rw [← hw2]; exact (Array.size_push _).symm
  rw [hw2]
  (try rw [z2])
  have B2 := Lib.hid (B1.out.trans (b2.mono B1.out.size))
  have A2 := Lib.hid (A1.out.below b2)
  clear b2 hw2 z2 B1 A1
  refine Tc.wp_region_plan (keep w2.heap.size) 18 [] (.fl 0 (.fl 1 (.fl 3 (.fl 4 (.fl 6 (.fl 7 (.fl 9 (.fl 10 (.fl 12 (.fl 13 (.fl 14 (.one 2 (.one 5 (.one 8 (.one 11 (.one 15 (.one 16 (.one 17 .done)))))))))))))))))) (by kernel_rfl) (by kernel_rfl) ?_
  intro w3 b3 e3
  have BB3 : Hid (Below w2.heap.size w2 w3) := Lib.hid b3
  clear b3 e3
  refine Tc.plan_floats [0, 1, 3, 4, 6, 7, 9, 10, 12, 13, 14] [_, _, _, _, _, _, _, _, _, _, _] rfl ?_
  dsimp only [List.getElem_toArray, List.getElem_cons_succ, List.getElem_cons_zero]
  repeat (first | go_big_quiet_skip | (go_big_quiet_want; go_big_quiet_op; first | go_big_quiet_on | (refine ⟨_, fun _ _ => rfl, ?_⟩; go_big_quiet_on)))
  refine wpQuiet_load_cell rfl 3 (.tmp 3) rfl w.heap.size 0 rfl _ Tryd.underlying3 rfl (.int .i64 a.f) (fun W hW => cell_keep (n := w2.heap.size) (ak_cell (A2.out.below BB3.out) (i := 0) (by decide) (by decide)) (A2.out.lt) hW) ?_
  simp only [Act.put, List.setIfInBounds_toArray, List.set_cons_succ, List.set_cons_zero]
  repeat (first | go_big_quiet_skip | (go_big_quiet_want; go_big_quiet_op; first | go_big_quiet_on | (refine ⟨_, fun _ _ => rfl, ?_⟩; go_big_quiet_on)))
  refine wpQuiet_load_cell rfl 3 (.tmp 6) rfl w.heap.size 1 rfl _ Tryd.underlying3 rfl (.int .i64 a.d) (fun W hW => cell_keep (n := w2.heap.size) (ak_cell (A2.out.below BB3.out) (i := 1) (by decide) (by decide)) (A2.out.lt) hW) ?_
  simp only [Act.put, List.setIfInBounds_toArray, List.set_cons_succ, List.set_cons_zero]
  repeat (first | go_big_quiet_skip | (go_big_quiet_want; go_big_quiet_op; first | go_big_quiet_on | (refine ⟨_, fun _ _ => rfl, ?_⟩; go_big_quiet_on)))
  refine wpQuiet_load_cell rfl 3 (.tmp 9) rfl w.heap.size 2 rfl _ Tryd.underlying3 rfl (.int .i64 a.s) (fun W hW => cell_keep (n := w2.heap.size) (ak_cell (A2.out.below BB3.out) (i := 2) (by decide) (by decide)) (A2.out.lt) hW) ?_
  simp only [Act.put, List.setIfInBounds_toArray, List.set_cons_succ, List.set_cons_zero]
  repeat (first | go_big_quiet_skip | (go_big_quiet_want; go_big_quiet_op; first | go_big_quiet_on | (refine ⟨_, fun _ _ => rfl, ?_⟩; go_big_quiet_on)))
  refine wpQuiet_load_cell rfl 3 (.tmp 12) rfl w.heap.size 3 rfl _ Tryd.underlying3 rfl (.int .i64 a.u) (fun W hW => cell_keep (n := w2.heap.size) (ak_cell (A2.out.below BB3.out) (i := 3) (by decide) (by decide)) (A2.out.lt) hW) ?_
  simp only [Act.put, List.setIfInBounds_toArray, List.set_cons_succ, List.set_cons_zero]
  repeat (first | go_big_quiet_skip | (go_big_quiet_want; go_big_quiet_op; first | go_big_quiet_on | (refine ⟨_, fun _ _ => rfl, ?_⟩; go_big_quiet_on)))
  refine wpQuiet_convert rfl 28 9 (.tmp 16) rfl _ (.string ⟨a.ch.toArray⟩) rfl (fun W hW => run_text (ak_bytes (row_keep (n := w2.heap.size) (A2.out.below BB3.out) A2.out.lt hW) WA.out)) ?_
  simp only [Act.put, List.setIfInBounds_toArray, List.set_cons_succ, List.set_cons_zero]
  repeat (first | go_big_quiet_skip | (go_big_quiet_want; go_big_quiet_op; first | go_big_quiet_on | (refine ⟨_, fun _ _ => rfl, ?_⟩; go_big_quiet_on)))
  refine wpQuiet_nil ?_
  obtain ⟨tx, htx⟩ : ∃ y, ByteArray.mk a.ch.toArray = y := ⟨_, rfl⟩
  have HTX := Lib.hid htx
  rw [htx]
  clear htx
  refine Tc.plan_one 2 rfl (fun K hK => ?_)
  go_wp2_with fail
  refine (rint_any a.f _).mono ?_
  rintro e w4 ⟨rfl, b4⟩
  have bb := b4.mono BB3.out.size
  have BB4 := Lib.hid (BB3.out.trans bb)
  go_wp2_with fail
  refine hK _ _ (keep_below bb) ?_
  clear hK K bb b4 BB3
  refine Tc.plan_one 5 rfl (fun K hK => ?_)
  go_wp2_with fail
  refine (rint_any a.d _).mono ?_
  rintro e w5 ⟨rfl, b5⟩
  have bb := b5.mono BB4.out.size
  have BB5 := Lib.hid (BB4.out.trans bb)
  go_wp2_with fail
  refine hK _ _ (keep_below bb) ?_
  clear hK K bb b5 BB4
  refine Tc.plan_one 8 rfl (fun K hK => ?_)
  go_wp2_with fail
  refine (rint_any a.s _).mono ?_
  rintro e w6 ⟨rfl, b6⟩
  have bb := b6.mono BB5.out.size
  have BB6 := Lib.hid (BB5.out.trans bb)
  go_wp2_with fail
  refine hK _ _ (keep_below bb) ?_
  clear hK K bb b6 BB5
  refine Tc.plan_one 11 rfl (fun K hK => ?_)
  go_wp2_with fail
  refine (rint_any a.u _).mono ?_
  rintro e w7 ⟨rfl, b7⟩
  have bb := b7.mono BB6.out.size
  have BB7 := Lib.hid (BB6.out.trans bb)
  go_wp2_with fail
  refine hK _ _ (keep_below bb) ?_
  clear hK K bb b7 BB6
  refine Tc.plan_one 15 rfl (fun K hK => ?_)
  go_wp2_with fail
  refine (rtext_any tx _).mono ?_
  rintro e w8 ⟨rfl, b8⟩
  have bb := b8.mono BB7.out.size
  have BB8 := Lib.hid (BB7.out.trans bb)
  go_wp2_with fail
  refine hK _ _ (keep_below bb) ?_
  clear hK K bb b8 BB7
  refine Tc.plan_one 16 rfl (fun K hK => ?_)
  refine wpList_buildT (s := 4) (c := valE) rfl 49 5 _ rfl zeroC [valC 1 a.f ⟨#[]⟩ (.slice none 0 0), valC 1 a.d ⟨#[]⟩ (.slice none 0 0), valC 1 a.s ⟨#[]⟩ (.slice none 0 0), valC 1 a.u ⟨#[]⟩ (.slice none 0 0), valC 2 0 tx (.slice none 0 0)] rfl (by decide) (by decide) (by decide) (by decide) rfl Tryd.underlying49 (by kernel_rfl) (by kernel_rfl) ?_
  intro w9 P9 b9 L9
  have bb := b9.out.mono BB8.out.size
  have BB9 := Lib.hid (BB8.out.trans bb)
  have Z8 := L9
  have SZ8 : Hid (w2.heap.size ≤ w8.heap.size) := Lib.hid BB8.out.size
  refine (show wpList _ _ _ [] _ _ from hK _ _ (keep_below bb) ?_)
  dsimp only [Act.put]
  simp only [List.setIfInBounds_toArray, List.set_cons_succ, List.set_cons_zero]
  clear hK K bb b9 L9 BB8
  refine Tc.plan_one 17 rfl (fun K hK => ?_)
  (try simp only [List.set_cons_succ, List.set_cons_zero])
  go_wp2_with fail
  refine (rlist_any _ 5 5 _).mono ?_
  rintro e w10 ⟨rfl, b10⟩
  have bb := b10.mono BB9.out.size
  have BB10 := Lib.hid (BB9.out.trans bb)
  have P10 := Lib.hid (P9.out.below b10)
  go_wp2_with fail
  refine hK _ _ (keep_below bb) ?_
  clear hK K bb b10 BB9 P9
  have V10 := Lib.hid (V2.out.below BB10.out)
  have B10 := Lib.hid (B2.out.trans (BB10.out.mono B2.out.size))
  refine Tc.plan_done (l := [_]) rfl (fun K hK => ?_)
  go_wp2_with ((with_reducible (show wpList _ _ _ (Oper.mk none _ _ _ _ _ :: _) _ _)); refine wpList_store_rowV rfl 51 (.tmp 2) (.tmp 20) rfl w1.heap.size rfl 4 51 zeroC (valC 3 0 ⟨#[]⟩ (.slice (some ⟨w8.heap.size, 0, none⟩) 5 5)) rfl V10.out (by kernel_rfl) (valC_one _ _ _ _) ?_; intro wz Vz oz)
  refine bodyPost_ret (v := .agg (rowF 4 (valC 3 0 ⟨#[]⟩ (.slice (some ⟨w8.heap.size, 0, none⟩) 5 5)))) (by exact results_rowV (fn := Tryd.f47) (p := 2) (ty := 51) rfl _ _ w1.heap.size 4 51 (valC 3 0 ⟨#[]⟩ (.slice (some ⟨w8.heap.size, 0, none⟩) 5 5)) _ rfl Vz.out Tryd.underlying51 rfl (by kernel_rfl)) rfl ?_
  have PZ := (P10.out.mono (show w2.heap.size ≤ w8.heap.size by have := SZ8.out; omega)).only oz.out (fun b hb => by have h1 := V2.out.lt; have h2 : w8.heap.size = b := Option.some.inj hb; have h3 := SZ8.out; omega)
  exact ⟨⟨_, tx, rfl, HTX.out, PZ.mono B2.out.size⟩, B10.out.trans (oz.out.below S1.out B10.out.size)⟩
end Go.Proofs.YtbjbgneejdjniaaDoor

namespace Go.Proofs.YtbjbgneejdjniaaDoor
open Go.RowKit Cod
def rdF (v : Value) (p : Nat) (bad : Bool) : Nat → Value | 0 => v | 1 => .int .i64 (p : Int) | _ => .bool bad
/-- the reference's reader stands at p -/
def RfAt (w : World) (rb : Nat) (v : Value) (l : List UInt8) (p : Nat) (bad : Bool) : Prop := RowV w rb 101 3 (rdF v p bad) ∧ BytesAt w v l ∧ p ≤ l.length
theorem BytesAt.onlyV {w w' : World} {rb n : Nat} {T : TypeId} {f : Nat → Value} (h : RowV w rb T n f) (hf : ∀ i, i < n → ∀ x, f i ≠ vB x) {u : Value} {m : List UInt8} (hu : BytesAt w u m) (ho : OnlyB rb w w') : BytesAt w' u m := by
  rcases hu with hu | ⟨b, off, cap, e1, e2, e3, e4, e5, e6⟩
  · exact .inl hu
  · have hne : b ≠ rb := by
      intro e
      subst e
      have h3 := e6 0 e3
      rw [Nat.add_zero] at h3
      by_cases h0 : off < n
      · rw [h.cell h0] at h3
        exact hf off h0 _ (Option.some.inj h3)
      · have : w.cell? ⟨b, off, none⟩ = none := by
          simp [World.cell?, show w.heap[b]? = _ from h, rowF]
          omega
        rw [this] at h3; cases h3
    exact .inr ⟨b, off, cap, e1, e2, e3, e4, Nat.lt_of_lt_of_le e5 ho.size, fun j hj => (ho.cell (p := ⟨b, off + j, none⟩) e5 hne).trans (e6 j hj)⟩
theorem rdF_no {v : Value} {l : List UInt8} {w : World} (h : BytesAt w v l) (p : Nat) (bad : Bool) : ∀ i, i < 3 → ∀ x, rdF v p bad i ≠ vB x := by
  obtain ⟨a, c, rfl⟩ := h.slice
  intro i hi x
  match i, hi with
  | 0, _ => intro h; cases h
  | 1, _ => intro h; cases h
  | 2, _ => intro h; cases h
theorem RfAt.drewN {w : World} {rb : Nat} {v : Value} {l : List UInt8} {p : Nat} {bad : Bool} (h : RfAt w rb v l p bad) (n : Nat) : RfAt (w.drewN n) rb v l p bad :=
  ⟨h.1, h.2.1.below (below_drewN (Below.refl _ w) n), h.2.2⟩
theorem RfAt.at' {w : World} {rb : Nat} {v : Value} {l : List UInt8} {p : Nat} {bad : Bool} (h : RfAt w rb v l p bad) {q : Nat} (hq : q ≤ l.length) : RfAt (w.setCell ⟨rb, 1, none⟩ (.int .i64 (q : Int))) rb v l q bad :=
  ⟨(h.1.set 1 _).congr (fun i hi => by match i, hi with | 0, _ => rfl | 1, _ => rfl | 2, _ => rfl), BytesAt.onlyV h.1 (rdF_no h.2.1 p bad) h.2.1 ((OnlyB.refl rb w).setCell (p := ⟨rb, 1, none⟩) (.inl rfl) _), hq⟩
theorem RfAt.bad' {w : World} {rb : Nat} {v : Value} {l : List UInt8} {p : Nat} {bad : Bool} (h : RfAt w rb v l p bad) : RfAt (w.setCell ⟨rb, 2, none⟩ (.bool true)) rb v l p true :=
  ⟨(h.1.set 2 _).congr (fun i hi => by match i, hi with | 0, _ => rfl | 1, _ => rfl | 2, _ => rfl), BytesAt.onlyV h.1 (rdF_no h.2.1 p bad) h.2.1 ((OnlyB.refl rb w).setCell (p := ⟨rb, 2, none⟩) (.inl rfl) _), h.2.2⟩
theorem only_set {w : World} (n rb j : Nat) (u : Value) : OnlyB rb w ((w.drewN n).setCell ⟨rb, j, none⟩ u) :=
  (OnlyB.of_below (B := rb) (below_drewN (Below.refl _ w) n)).trans ((OnlyB.refl rb _).setCell (p := ⟨rb, j, none⟩) (.inl rfl) u)
set_option maxRecDepth 100000 in
set_option maxHeartbeats 4000000 in
theorem rnext_no (rb : Nat) (v : Value) (l : List UInt8) (p : Nat) (bad : Bool) (w : World) (h : RfAt w rb v l p bad) (hp : l.length ≤ p) :
    Calls Tryd.prog 78 #[.pointer (some ⟨rb, 0, none⟩)] w fun e w' => e = .returned (.int .u8 0) ∧ RfAt w' rb v l p true ∧ OnlyB rb w w' := by
  obtain ⟨a, c, hv⟩ := h.2.1.slice
  obtain ⟨m, hm⟩ : ∃ m, l.length = m := ⟨_, rfl⟩
  rw [hm] at hv hp
  subst hv
  have c0 : w.cell? ⟨rb, 0, none⟩ = some (.slice a m c) := h.1.cell (i := 0) (by decide)
  have c1 : w.cell? ⟨rb, 1, none⟩ = some (.int .i64 (p : Int)) := h.1.cell (i := 1) (by decide)
  have c2 : w.cell? ⟨rb, 2, none⟩ = some (.bool bad) := h.1.cell (i := 2) (by decide)
  have f2 : w.frozen? ⟨rb, 2, none⟩ = false := h.1.frozen 2
  have d0 : decide ((m : Int) ≤ (p : Int)) = true := by rw [decide_eq_true_iff]; omega
  have d1 : decide (m ≤ p) = true := by rw [decide_eq_true_iff]; omega
  have H := Lib.hid h
  clear h hm hp
  go_enter Tryd.func78, Tryd.ntmps78
  go_wp2_with fail
  go_quiet (fail)
  go_wp2_with fail
  go_ret
  exact ⟨rfl, (H.out.drewN nq).bad', only_set nq rb 2 _⟩
set_option maxRecDepth 100000 in
set_option maxHeartbeats 4000000 in
theorem rnext_ok (rb : Nat) (v : Value) (l : List UInt8) (p : Nat) (bad : Bool) (w : World) (h : RfAt w rb v l p bad) (hp : p < l.length) :
    Calls Tryd.prog 78 #[.pointer (some ⟨rb, 0, none⟩)] w fun e w' => e = .returned (vB (l.getD p 0)) ∧ RfAt w' rb v l (p + 1) bad ∧ OnlyB rb w w' := by
  obtain ⟨a, c, hv⟩ := h.2.1.slice
  have hl := h.2.1.len_le
  obtain ⟨m, hm⟩ : ∃ m, l.length = m := ⟨_, rfl⟩
  rw [hm] at hv hp hl
  subst hv
  have c0 : w.cell? ⟨rb, 0, none⟩ = some (.slice a m c) := h.1.cell (i := 0) (by decide)
  have c1 : w.cell? ⟨rb, 1, none⟩ = some (.int .i64 (p : Int)) := h.1.cell (i := 1) (by decide)
  have f1 : w.frozen? ⟨rb, 1, none⟩ = false := h.1.frozen 1
  have d0 : decide ((m : Int) ≤ (p : Int)) = false := by rw [decide_eq_false_iff_not]; omega
  have d1 : decide (m ≤ p) = false := by rw [decide_eq_false_iff_not]; omega
  have k1 : IntKind.i64.wrap ((p : Int) + 1) = (p : Int) + 1 := IntWalk.i64_in _ (by omega)
  have HP := Lib.hid hp
  have HM := Lib.hid hm
  have H := Lib.hid h
  clear h hm hp hl
  go_enter Tryd.func78, Tryd.ntmps78
  go_wp2_with fail
  go_quiet (fail)
  go_wp2_with fail
  have H2 := Lib.hid ((H.out.drewN nq).at' (q := p + 1) (by have := HP.out; have := HM.out; omega))
  have O2 := Lib.hid (only_set (w := w) nq rb 1 (.int .i64 ((p + 1 : Nat) : Int)))
  rw [show ((p : Int) + 1) = ((p + 1 : Nat) : Int) from rfl]
  obtain ⟨w2, hw2⟩ : ∃ y, (w.drewN nq).setCell ⟨rb, 1, none⟩ (.int .i64 ((p + 1 : Nat) : Int)) = y := ⟨_, rfl⟩
  rw [hw2] at H2 O2 ⊢
  clear hw2 c0 c1 f1 d0 d1 k1 H
  have c0 : w2.cell? ⟨rb, 0, none⟩ = some (.slice a m c) := H2.out.1.cell (i := 0) (by decide)
  have c1 : w2.cell? ⟨rb, 1, none⟩ = some (.int .i64 ((p + 1 : Nat) : Int)) := H2.out.1.cell (i := 1) (by decide)
  rcases H2.out.2.1 with ⟨_, h0⟩ | ⟨b, off, cap, e1, e2, e3, e4, e5, e6⟩
  · have := HP.out; have := HM.out; simp [h0] at this; omega
  obtain ⟨rfl, rfl⟩ : a = some ⟨b, off, none⟩ ∧ c = cap := by cases e1; exact ⟨rfl, rfl⟩
  have xp : w2.cell? ⟨b, off + p, none⟩ = some (vB (l.getD p 0)) := e6 p (by have := HP.out; have := HM.out; omega)
  have k2 : IntKind.i64.wrap (p : Int) = (p : Int) := IntWalk.i64_in _ (by have := HP.out; have := HM.out; omega)
  have q0 : (0 : Int) ≤ (p : Int) := Int.natCast_nonneg p
  have q1 : (p : Int) < (m : Int) := by have := HP.out; omega
  clear e1 e2 e3 e4 e5 e6
  go_quiet (fail)
  go_wp2_with fail
  go_ret
  exact ⟨rfl, H2.out.drewN _, O2.out.trans (OnlyB.of_below (below_drewN (Below.refl _ _) _))⟩
end Go.Proofs.YtbjbgneejdjniaaDoor

namespace Go.Proofs.YtbjbgneejdjniaaDoor
open Go.RowKit Cod
def RNumPost (rb : Nat) (v : Value) (l : List UInt8) (p : Nat) (w : World) (e : Ending) (w' : World) : Prop :=
  (match numF 0 (l.drop p) with
   | some (n, r) => e = .returned (.int .u64 (n : Int)) ∧ RfAt w' rb v l (l.length - r.length) false
   | none => e = .returned (.int .u64 0) ∧ ∃ q, RfAt w' rb v l q true) ∧ OnlyB rb w w'
theorem RNumPost.no {rb : Nat} {v : Value} {l : List UInt8} {p q : Nat} {w w' : World} (h : numF 0 (l.drop p) = none) (hr : RfAt w' rb v l q true) (ho : OnlyB rb w w') : RNumPost rb v l p w (.returned (.int .u64 0)) w' := by
  unfold RNumPost; rw [h]; exact ⟨⟨rfl, q, hr⟩, ho⟩
theorem RNumPost.yes {rb : Nat} {v : Value} {l r : List UInt8} {p q n : Nat} {w w' : World} (h : numF 0 (l.drop p) = some (n, r)) (hq : l.length - r.length = q) (hr : RfAt w' rb v l q false) (ho : OnlyB rb w w') : RNumPost rb v l p w (.returned (.int .u64 (n : Int))) w' := by
  unfold RNumPost; rw [h]; exact ⟨⟨rfl, hq ▸ hr⟩, ho⟩
theorem numadd_step {acc i : Nat} {c : UInt8} (h1 : i ≤ 9) (ha : acc < 128 ^ i) (h2 : i < 9 ∨ c.toNat ≤ 1) :
    IntKind.u64.wrap ((acc : Int) + IntKind.u64.wrap (((c.toNat % 128 : Nat) : Int) * 2 ^ (7 * i))) = ((acc + c.toNat % 128 * 128 ^ i : Nat) : Int) := by
  have h3 := digit_lt h1 h2
  have h4 := pow_9 h1
  have e : ((c.toNat % 128 : Nat) : Int) * 2 ^ (7 * i) = ((c.toNat % 128 * 128 ^ i : Nat) : Int) := by
    rw [Int.natCast_mul, Int.natCast_pow, Int.pow_mul]; rfl
  have e2 : IntKind.u64.wrap ((c.toNat % 128 * 128 ^ i : Nat) : Int) = ((c.toNat % 128 * 128 ^ i : Nat) : Int) := by rw [IntKind.wrap_u64]; omega
  rw [e, e2, IntKind.wrap_u64]; omega
set_option maxRecDepth 100000 in
set_option maxHeartbeats 8000000 in
theorem rnumber_any (rb : Nat) (v : Value) (l : List UInt8) (p : Nat) (w : World) (h : RfAt w rb v l p false) :
    Calls Tryd.prog 79 #[.pointer (some ⟨rb, 0, none⟩)] w (RNumPost rb v l p w) := by
  have HR := Lib.hid h
  have I0 : Hid (NumI (l.drop p) 0 0 (l.drop p)) := Lib.hid ⟨by decide, by decide, by cases numF 0 (l.drop p) <;> simp⟩
  clear h
  go_enter Tryd.func79, Tryd.ntmps79
  go_wp2_with fail
  go_loopg [3, 4] (l.length - p) (fun g s3 s4 wx => ∃ (i acc q : Nat), l.length - q = g ∧ s4 = .int .i64 (i : Int) ∧ s3 = .int .u64 (acc : Int) ∧ Hid (NumI (l.drop p) i acc (l.drop q)) ∧ Hid (RfAt wx rb v l q false) ∧ Hid (OnlyB rb w wx))
  case atStart => exact ⟨0, 0, p, rfl, rfl, rfl, I0, HR, Lib.hid (OnlyB.refl _ _)⟩
  case round =>
    clear I0 HR
    obtain ⟨i, acc, q, rfl, rfl, rfl, hI, hR, hO⟩ := hrel
    obtain ⟨w1, rfl⟩ : ∃ y, y = wr := ⟨_, rfl⟩
    have c2 : w1.cell? ⟨rb, 2, none⟩ = some (.bool false) := hR.out.1.cell (i := 2) (by decide)
    by_cases hq : q < l.length
    · obtain ⟨c, hc⟩ : ∃ c, l.getD q 0 = c := ⟨_, rfl⟩
      have T := rnext_ok rb v l q false w1 hR.out hq
      rw [hc] at T
      have TH := Lib.hid T
      have hd : l.drop q = c :: l.drop (q + 1) := by rw [← hc, List.drop_eq_getElem_cons hq, List.getD_eq_getElem?_getD, List.getElem?_eq_getElem hq]; rfl
      rw [hd] at hI
      have HQ := Lib.hid hq
      clear T hc hd hq
      go_wp2_with fail
      refine TH.out.mono ?_
      rintro e w2 ⟨rfl, r2, o2⟩
      have R2 := Lib.hid r2
      have O2 := Lib.hid (hO.out.trans o2)
      clear r2 o2 hO hR TH c2
      obtain ⟨cn, hcn⟩ : ∃ z : Int, (c.toNat : Int) = z := ⟨_, rfl⟩
      rw [show vB c = .int .u8 cn by rw [← hcn]]
      have HCN := Lib.hid hcn
      have c1 : 0 ≤ cn := by omega
      have c2 : cn ≤ 255 := by have := c.toNat_lt; omega
      clear hcn
      by_cases hg : (i = 0 ∨ c ≠ 0) ∧ (i < 9 ∨ c.toNat ≤ 1)
      · have HG := Lib.hid hg
        go_upto_region 6 with fail
        go_cut [28] from 15 to 31 (fun s28 wx => s28 = .bool false ∧ w2 = wx)
        case first =>
          obtain ⟨g1, g2⟩ := hg
          by_cases i9 : i = 9
          · subst i9
            have q0 : decide (1 < cn) = false := by rw [decide_eq_false_iff_not]; have := HCN.out; omega
            have n0 : c ≠ 0 := by rcases g1 with h | h; cases h; exact h
            have q2 : (cn == 0) = false := by rw [beq_eq_false_iff_ne]; intro e; exact n0 (UInt8.toNat_inj.1 (by have := HCN.out; show c.toNat = 0; omega))
            clear g1 g2 n0
            go_wp2_with fail
            go_meet
            exact ⟨rfl, rfl⟩
          · have q3 : ((i : Int) == 9) = false := by rw [beq_eq_false_iff_ne]; omega
            have q4 : (i == 9) = false := by rw [beq_eq_false_iff_ne]; omega
            by_cases i0 : i = 0
            · subst i0
              clear g1 g2 i9
              go_wp2_with fail
              go_meet
              exact ⟨rfl, rfl⟩
            · have q1 : decide ((0 : Int) < (i : Int)) = true := by rw [decide_eq_true_iff]; omega
              have q5 : decide (0 < i) = true := by rw [decide_eq_true_iff]; omega
              have n0 : c ≠ 0 := by rcases g1 with h | h; exact absurd h i0; exact h
              have q2 : (cn == 0) = false := by rw [beq_eq_false_iff_ne]; intro e; exact n0 (UInt8.toNat_inj.1 (by have := HCN.out; show c.toNat = 0; omega))
              clear g1 g2 n0 i0 i9
              go_wp2_with fail
              go_meet
              exact ⟨rfl, rfl⟩
        case rest =>
          obtain ⟨rfl, rfl⟩ := hcut
          clear hg
          have b0 : (0 : Int) ≤ (i : Int) := Int.natCast_nonneg i
          have b9 : (i : Int) ≤ 9 := by have := hI.out.1; omega
          have z4 : (0 : Int) ≤ 7 * (i : Int) := by omega
          have z3 : (7 * (i : Int)).toNat = 7 * i := by omega
          obtain ⟨ca, hca⟩ : ∃ z : Int, cn.tmod 128 = z := ⟨_, rfl⟩
          have CA := Lib.hid (show ca = ((c.toNat % 128 : Nat) : Int) by rw [← hca, ← HCN.out, Int.natCast_emod]; rfl)
          have k0 : 0 ≤ ca := by rw [CA.out]; omega
          have k1 : ca ≤ 127 := by rw [CA.out]; omega
          have k2 : IntKind.u64.wrap ca = ca := by rw [IntKind.wrap_u64]; omega
          have OR : Hid (IntKind.u64.wrap ((acc : Int) + IntKind.u64.wrap (ca * 2 ^ (7 * i))) = ((acc + c.toNat % 128 * 128 ^ i : Nat) : Int)) := Lib.hid (by
            rw [CA.out]; exact numadd_step hI.out.1 hI.out.2.1 HG.out.2)
          go_upto_region 10 with fail
          rw [OR.out]
          clear OR b0 z4 z3 k0 k1 k2 b9
          by_cases hx : c.toNat < 128
          · have d0 : decide (cn < 128) = true := by rw [decide_eq_true_iff]; have := HCN.out; omega
            have F : Hid (numF 0 (l.drop p) = some (acc + c.toNat % 128 * 128 ^ i, l.drop (q + 1))) := Lib.hid (by
              rw [hI.out.2.2]
              have h1 : numF i (c :: l.drop (q + 1)) = some (c.toNat, l.drop (q + 1)) := by unfold numF; rw [if_pos HG.out, if_pos hx]
              rw [h1, Nat.mod_eq_of_lt hx]; rfl)
            have FIN : Hid (RNumPost rb v l p w (Ending.returned (.int .u64 ((acc + c.toNat % 128 * 128 ^ i : Nat) : Int))) w2) := Lib.hid (RNumPost.yes F.out (by rw [List.length_drop]; have := HQ.out; omega) R2.out O2.out)
            clear F hI R2 O2 hx
            obtain ⟨ac, hac⟩ : ∃ z : Int, ((acc + c.toNat % 128 * 128 ^ i : Nat) : Int) = z := ⟨_, rfl⟩
            rw [hac] at FIN ⊢
            clear hac
            go_wp2_with fail
            go_ret
            exact FIN.out
          · have d0 : decide (cn < 128) = false := by rw [decide_eq_false_iff_not]; have := HCN.out; omega
            have I2 : Hid (NumI (l.drop p) (i + 1) (acc + c.toNat % 128 * 128 ^ i) (l.drop (q + 1))) := Lib.hid (num_step hI.out HG.out hx)
            clear hI hx HG
            obtain ⟨ac, hac⟩ : ∃ z : Nat, acc + c.toNat % 128 * 128 ^ i = z := ⟨_, rfl⟩
            rw [hac] at I2 ⊢
            have b9 : (i : Int) + 1 ≤ 9 := by have := I2.out.1; omega
            have b0 : (0 : Int) ≤ (i : Int) := Int.natCast_nonneg i
            clear hac
            go_wp2_with fail
            go_roundg (l.length - (q + 1))
            case measure => have := HQ.out; omega
            case rel =>
              go_light
              exact ⟨i + 1, ac, q + 1, rfl, by go_num, rfl, I2, R2, O2⟩
      · have F : Hid (numF 0 (l.drop p) = none) := Lib.hid (by rw [hI.out.2.2, numF, if_neg hg]; rfl)
        have x2 : w2.cell? ⟨rb, 2, none⟩ = some (.bool false) := R2.out.1.cell (i := 2) (by decide)
        have f2 : w2.frozen? ⟨rb, 2, none⟩ = false := R2.out.1.frozen 2
        have HI9 := Lib.hid hI.out.1
        clear hI HQ
        by_cases i9 : i = 9
        · subst i9
          by_cases c9 : 1 < cn
          · have q0 : decide (1 < cn) = true := by rw [decide_eq_true_iff]; exact c9
            clear c9
            go_wp2_with fail
            go_ret
            exact RNumPost.no F.out R2.out.bad' (O2.out.trans ((OnlyB.refl rb _).setCell (p := ⟨rb, 2, none⟩) (.inl rfl) _))
          · have q0 : decide (1 < cn) = false := by rw [decide_eq_false_iff_not]; exact c9
            have hc0 : c = 0 := by
              apply Decidable.byContradiction; intro hn; exact hg ⟨.inr hn, .inr (by have := HCN.out; omega)⟩
            subst hc0
            obtain rfl : cn = 0 := HCN.out.symm
            clear c9 hg
            go_wp2_with fail
            go_ret
            exact RNumPost.no F.out R2.out.bad' (O2.out.trans ((OnlyB.refl rb _).setCell (p := ⟨rb, 2, none⟩) (.inl rfl) _))
        · have q3 : ((i : Int) == 9) = false := by rw [beq_eq_false_iff_ne]; omega
          have q4 : (i == 9) = false := by rw [beq_eq_false_iff_ne]; omega
          have i0 : i ≠ 0 := by intro e; exact hg ⟨.inl e, .inl (by omega)⟩
          have hc0 : c = 0 := by
            apply Decidable.byContradiction; intro hn; exact hg ⟨.inr hn, .inl (by have := HI9.out; omega)⟩
          subst hc0
          obtain rfl : cn = 0 := HCN.out.symm
          have q1 : decide ((0 : Int) < (i : Int)) = true := by rw [decide_eq_true_iff]; omega
          have q2 : decide (0 < i) = true := by rw [decide_eq_true_iff]; omega
          clear hg i9 i0
          go_wp2_with fail
          go_ret
          exact RNumPost.no F.out R2.out.bad' (O2.out.trans ((OnlyB.refl rb _).setCell (p := ⟨rb, 2, none⟩) (.inl rfl) _))
    · have F0 : l.drop q = [] := List.drop_eq_nil_of_le (by omega)
      have T := Lib.hid (rnext_no rb v l q false w1 hR.out (by omega))
      rw [F0] at hI
      have F : Hid (numF 0 (l.drop p) = none) := Lib.hid (by rw [hI.out.2.2]; rfl)
      have A := Lib.hid hI.out.2.1
      clear hI hR F0 hq
      go_wp2_with fail
      refine T.out.mono ?_
      rintro e w2 ⟨rfl, r2, o2⟩
      have R2 := Lib.hid r2
      have O2 := Lib.hid (hO.out.trans o2)
      have x2 : w2.cell? ⟨rb, 2, none⟩ = some (.bool true) := R2.out.1.cell (i := 2) (by decide)
      have f2 : w2.frozen? ⟨rb, 2, none⟩ = false := R2.out.1.frozen 2
      clear r2 o2 hO T c2
      by_cases i0 : i = 0
      · subst i0
        obtain rfl : acc = 0 := by have := A.out; omega
        clear A
        go_wp2_with fail
        go_ret
        exact RNumPost.no F.out R2.out O2.out
      · have q1 : decide ((0 : Int) < (i : Int)) = true := by rw [decide_eq_true_iff]; omega
        have q2 : decide (0 < i) = true := by rw [decide_eq_true_iff]; omega
        by_cases i9 : i = 9
        · subst i9
          go_wp2_with fail
          go_ret
          exact RNumPost.no F.out R2.out.bad' (O2.out.trans ((OnlyB.refl rb _).setCell (p := ⟨rb, 2, none⟩) (.inl rfl) _))
        · have q3 : ((i : Int) == 9) = false := by rw [beq_eq_false_iff_ne]; omega
          have q4 : (i == 9) = false := by rw [beq_eq_false_iff_ne]; omega
          go_wp2_with fail
          go_ret
          exact RNumPost.no F.out R2.out.bad' (O2.out.trans ((OnlyB.refl rb _).setCell (p := ⟨rb, 2, none⟩) (.inl rfl) _))
end Go.Proofs.YtbjbgneejdjniaaDoor

namespace Go.Proofs.YtbjbgneejdjniaaDoor
open Go.RowKit Cod
theorem sliced_bytes {W : World} {a : Option Addr} {m c : Nat} {l : List UInt8} (hb : BytesAt W (.slice a m c) l) (hm : l.length = m) {p n : Nat} (h : p + n ≤ m) : BytesAt W (sliced a p (p + n) c 1) ((l.drop p).take n) := by
  unfold sliced
  rw [Nat.add_sub_cancel_left]
  rcases Nat.eq_zero_or_pos n with h0 | h0
  · subst h0
    rw [List.take_zero]
    refine .inl ⟨⟨_, _, rfl, fun e => ?_⟩, rfl⟩
    rcases hb with ⟨⟨a', k, e1, e2⟩, h1⟩ | ⟨b, off, cap, e1, _⟩
    · obtain ⟨rfl, rfl, rfl⟩ : a = a' ∧ m = 0 ∧ c = k := by cases e1; exact ⟨rfl, rfl, rfl⟩
      by_cases hc : c = p
      · omega
      · rw [if_neg hc] at e
        cases a with
        | none => have := e2 rfl; omega
        | some a => cases e
    · obtain ⟨rfl, _⟩ : a = some ⟨b, off, none⟩ ∧ True := by cases e1; exact ⟨rfl, trivial⟩
      by_cases hc : c = p
      · omega
      · rw [if_neg hc] at e; cases e
  · rcases hb with ⟨⟨a', k, e1, e2⟩, h1⟩ | ⟨b, off, cap, e1, e2, e3, e4, e5, e6⟩
    · rw [h1] at hm; simp at hm; omega
    · obtain ⟨rfl, rfl⟩ : a = some ⟨b, off, none⟩ ∧ c = cap := by cases e1; exact ⟨rfl, rfl⟩
      have hlen : ((l.drop p).take n).length = n := by rw [List.length_take, List.length_drop]; omega
      refine .inr ⟨b, off + p, c - p, ?_, by rw [hlen]; omega, by rw [hlen]; exact h0, ⟨by rw [hlen]; omega, by omega⟩, e5, fun j hj => ?_⟩
      · rw [if_neg (by omega), hlen]
        show Value.slice (some (Addr.add ⟨b, off, none⟩ (p * 1))) n (c - p) = _
        unfold Addr.add; simp
      · rw [hlen] at hj
        have h6 := e6 (p + j) (by omega)
        rw [← Nat.add_assoc] at h6
        rw [h6]
        congr 2
        rw [List.getD_eq_getElem?_getD, List.getD_eq_getElem?_getD, List.getElem?_take_of_lt hj, List.getElem?_drop]
theorem size_u8 : ∀ W, (Go.sizeOf 5).run Tryd.prog W = .ok 1 W := fun W => by kernel_rfl
theorem run_slice_bytes (a : Option Addr) (m c p q : Nat) (h1 : p ≤ q) (h2 : q ≤ c) (W : World) :
    (Instr.sliceAt 28 (.slice a m c) (some (.int .i64 (p : Int))) (some (.int .i64 (q : Int))) none).run Tryd.prog W = .ok (sliced a p q c 1) W := by
  have hu : Tryd.prog.underlying 28 = some (.slice (Tryd.prog.elem 28)) := by kernel_rfl
  rw [run_sliceAt_slice W 28 _ _ _ _ hu, run_slice_lh W 28 a m c hu .i64 .i64 (p : Int) (q : Int) (by omega) (by omega) (by omega)]
  rw [show Tryd.prog.elem 28 = 5 by kernel_rfl, size_u8]
  rfl
theorem wpQuiet_slice {C : World → Prop} {ops : Array Oper} {rest : List Oper} {o : Oper} {a : Act} {Q : Act → Prop} (hgd : o.guard = none) (x lo hi : Operand) (ho : o.op = .slice 28 x (some lo) (some hi) none)
    (ad : Option Addr) (m c p q : Nat) (hx : a.eval x = .slice ad m c) (hlo : a.eval lo = .int .i64 (p : Int)) (hhi : a.eval hi = .int .i64 (q : Int)) (h1 : p ≤ q) (h2 : q ≤ c)
    (h : wpQuiet Tryd.prog ops C Q rest (a.put o.dst (sliced ad p q c 1))) : wpQuiet Tryd.prog ops C Q (o :: rest) a := by
  refine wpQuiet_val hgd _ (fun W hW => ?_) h
  unfold execOp
  simp only [ho, hx, Option.map_some, Option.map_none, hlo, hhi, Sem.run_bind, Sem.run_pure, Result.andThen_ok, run_slice_bytes ad m c p q h1 h2 W]
theorem BytesAt.keep {n : Nat} {w W : World} {v : Value} {l : List UInt8} (h : BytesAt w v l) (hr : (Go.Proofs.YtbjbgneejdjniaaDoor.keep n).r w W) (hn : w.heap.size ≤ n) : BytesAt W v l := by
  rcases h with h | ⟨b, off, cap, e1, e2, e3, e4, e5, e6⟩
  · exact .inl h
  · have hb : b < n := Nat.lt_of_lt_of_le e5 hn
    have h0 : W.cell? ⟨b, off + 0, none⟩ = some (vB (l.getD 0 0)) := cell_keep (e6 0 e3) hb hr
    exact .inr ⟨b, off, cap, e1, e2, e3, e4, block_of_cell h0, fun j hj => cell_keep (e6 j hj) hb hr⟩
theorem keep_trans {n : Nat} {w w' W : World} (b : Below n w w') (hr : (Go.Proofs.YtbjbgneejdjniaaDoor.keep n).r w' W) : (Go.Proofs.YtbjbgneejdjniaaDoor.keep n).r w W := fun k hk => (hr k hk).trans (b.block k hk)
/-- append of one value whose cells are known, whatever it reads as -/
theorem wpList_app_raw {w : World} {ops : Array Oper} {rest : List Oper} {o : Oper} {a : Act} {Q : Exit → Act → World → Prop} (hgd : o.guard = none) (s x : Operand)
    (ho : o.op = .call { callee := .builtin .append, args := #[s, x], argTypes := #[49, 49] })
    (base : Nat) (v : Value) (ts : List Tv) (hs : a.eval s = v) (hown : OwnV w base v ts) (g2 c2 : Nat) (f : Nat → Value) (hx : a.eval x = .slice (some ⟨g2, 0, none⟩) 1 c2)
    (hrow : RowV w g2 51 4 f) (hone : ∀ j, j < 4 → (f j).oneCell' = true) (hlen : ts.length ≤ 1000000) (hbase : base ≤ w.heap.size)
    (h : ∀ b n c w', Hid (AppStep w v w' (.slice b n c)) → wpList Tryd.prog ops Q rest (a.put o.dst (.slice b n c)) w') : wpList Tryd.prog ops Q (o :: rest) a w := by
  obtain ⟨c, h1, _⟩ := hown
  obtain ⟨i0, hi, hz0, hz1, hz2⟩ := info_parts3 info_val3
  refine wpList_app hgd s x 49 ho base 51 i0 _ 4 56 Tryd.underlying49 hi hz0 hz1 hz2 rfl (by decide) v ts.length (flatC ts.length c) hs h1 ⟨g2, 0, none⟩ 1 c2 [f 0, f 1, f 2, f 3] hx rfl ?_ ?_ (by unfold maxLen; omega) (by omega) hbase ?_
  · intro j u hj
    rw [Addr.add_mid, Nat.zero_add]
    have hj4 : j < 4 := by have := (List.getElem?_eq_some_iff.1 hj).1; simpa using this
    rw [hrow.cell hj4, ← hj]
    match j, hj4 with
    | 0, _ => rfl
    | 1, _ => rfl
    | 2, _ => rfl
    | 3, _ => rfl
  · intro u hu
    simp only [List.mem_cons, List.not_mem_nil, or_false] at hu
    rcases hu with rfl | rfl | rfl | rfl
    · exact hone 0 (by decide)
    · exact hone 1 (by decide)
    · exact hone 2 (by decide)
    · exact hone 3 (by decide)
  · intro v' w' h3 h4
    rcases h3.2 with ⟨rfl, h5⟩ | ⟨g, cap, cur, rfl, _⟩
    · exact h _ _ _ _ h4
    · exact h _ _ _ _ h4
theorem rf_app {w w' : World} {rb : Nat} {v : Value} {l : List UInt8} {p : Nat} {bad : Bool} (h : RfAt w rb v l p bad) {sl v' : Value} (s : AppStep w sl w' v') (hne : sl.ownBlock ≠ some rb) (hb : ∀ k, v.ownBlock = some k → sl.ownBlock ≠ some k) : RfAt w' rb v l p bad := by
  refine ⟨s.row h.1 hne, ?_, h.2.2⟩
  rcases h.2.1 with hu | ⟨b, off, cap, e1, e2, e3, e4, e5, e6⟩
  · exact .inl hu
  · have hb' : sl.ownBlock ≠ some b := hb b (by rw [e1]; rfl)
    exact .inr ⟨b, off, cap, e1, e2, e3, e4, Nat.lt_of_lt_of_le e5 s.1.size, fun j hj => (World.cell?_of_block (w := w) (w' := w') (a := ⟨b, off + j, none⟩) (s.block e5 hb')).trans (e6 j hj)⟩
theorem own_ltB {w : World} {v : Value} {l : List UInt8} (h : BytesAt w v l) (h0 : 0 < l.length) : ∀ k, v.ownBlock = some k → k < w.heap.size := by
  rcases h with ⟨_, h⟩ | ⟨b, off, cap, e1, e2, e3, e4, e5, e6⟩
  · rw [h] at h0; simp at h0
  · intro k hk; rw [e1] at hk; obtain rfl := Option.some.inj hk; exact e5
theorem suffix_drop {α : Type} {l pre r : List α} (h : l = pre ++ r) : l.drop (l.length - r.length) = r := by
  subst h; rw [List.length_append, Nat.add_sub_cancel, List.drop_left]
theorem numF_drop {l r : List UInt8} {p n i : Nat} (h : numF i (l.drop p) = some (n, r)) : l.drop (l.length - r.length) = r ∧ r.length ≤ l.length := by
  have e := (numF_enc _ _ _ _ h).1
  have e2 : l = (l.take p ++ numE n) ++ r := by rw [List.append_assoc, ← e, List.take_append_drop]
  refine ⟨suffix_drop e2, ?_⟩
  have := congrArg List.length e2
  rw [List.length_append] at this; omega
theorem RfAt.drewO {w : World} {rb : Nat} (n : Nat) : OnlyB rb w (w.drewN n) := OnlyB.of_below (below_drewN (Below.refl _ w) n)
end Go.Proofs.YtbjbgneejdjniaaDoor

namespace Go.Proofs.YtbjbgneejdjniaaDoor
open Go.RowKit Cod
def RValPost (rb : Nat) (v : Value) (l : List UInt8) (p rr : Nat) (w : World) (e : Ending) (w' : World) : Prop :=
  (match valF rr (l.drop p) with
   | some (t, r) => ∃ u, e = .returned u ∧ CodS (fun b => w.heap.size ≤ b) w' u t ∧ RfAt w' rb v l (l.length - r.length) false
   | none => ∃ q k n s a m c, e = .returned (.agg #[.int .i64 k, .int .i64 n, .string s, .slice a m c]) ∧ RfAt w' rb v l q true) ∧ OnlyB rb w w'
theorem RValPost.no {rb : Nat} {v : Value} {l : List UInt8} {p rr q : Nat} {k n : Int} {s : ByteArray} {a : Option Addr} {m c : Nat} {w w' : World} (h : valF rr (l.drop p) = none) (hr : RfAt w' rb v l q true) (ho : OnlyB rb w w') :
    RValPost rb v l p rr w (.returned (.agg #[.int .i64 k, .int .i64 n, .string s, .slice a m c])) w' := by
  unfold RValPost; rw [h]; exact ⟨⟨q, k, n, s, a, m, c, rfl, hr⟩, ho⟩
theorem RValPost.yes {rb : Nat} {v : Value} {l r : List UInt8} {p rr q : Nat} {t : Tv} {u : Value} {w w' : World} (h : valF rr (l.drop p) = some (t, r)) (hq : l.length - r.length = q) (hu : CodS (fun b => w.heap.size ≤ b) w' u t) (hr : RfAt w' rb v l q false) (ho : OnlyB rb w w') :
    RValPost rb v l p rr w (.returned u) w' := by
  unfold RValPost; rw [h]; exact ⟨⟨u, rfl, hu, hq ▸ hr⟩, ho⟩
theorem RfAt.below {w w' : World} {rb : Nat} {v : Value} {l : List UInt8} {p : Nat} {bad : Bool} (h : RfAt w rb v l p bad) (b : Below w.heap.size w w') : RfAt w' rb v l p bad := ⟨h.1.below b, h.2.1.below b, h.2.2⟩
theorem rf_other {w w' : World} {rb B : Nat} {v : Value} {l : List UInt8} {p : Nat} {bad : Bool} {T : TypeId} {k n : Int} {s : ByteArray} {a : Option Addr} {m c : Nat} (h : RfAt w rb v l p bad) (hr : RowV w B T 4 (valC k n s (.slice a m c))) (hne : rb ≠ B) (ho : OnlyB B w w') : RfAt w' rb v l p bad :=
  ⟨ho.row hne h.1, (NoByte.of_row hr valC_no).bytes h.2.1 ho, h.2.2⟩
set_option maxRecDepth 100000 in
set_option maxHeartbeats 16000000 in
theorem rvalue_any : ∀ (rr : Nat), rr ≤ 16 → ∀ (rb : Nat) (v : Value) (l : List UInt8) (p : Nat) (w : World), RfAt w rb v l p false → l.length ≤ 1000000 →
    Calls Tryd.prog 53 #[.pointer (some ⟨rb, 0, none⟩), .int .i64 (16 - (rr : Int))] w (RValPost rb v l p rr w) := by
  intro rr
  induction rr using Nat.strongRecOn with
  | ind rr ih =>
  intro hrr rb v l p w h hlen
  have IH := Lib.hid ih
  have HRR := Lib.hid hrr
  have HRB := Lib.hid h.1.lt
  have B1 := (Below.refl _ w).alloc (Nat.le_refl _) (.cells (rowF 4 zeroC) 51)
  obtain ⟨w1, hw1⟩ : ∃ y, w.alloc (.cells (rowF 4 zeroC) 51) = y := ⟨_, rfl⟩
  have V1 := RowV.new w 51 4 zeroC
  rw [hw1] at B1 V1
  have R1 := Lib.hid (h.below B1)
  have O1 := Lib.hid (OnlyB.of_below (B := rb) B1)
  have VV1 := Lib.hid V1
  have HLEN := Lib.hid hlen
  have z0 : (0 : Int) ≤ 16 - (rr : Int) := by omega
  have z1 : (16 : Int) - (rr : Int) ≤ 16 := by omega
  obtain ⟨dp, hdp⟩ : ∃ y : Int, 16 - (rr : Int) = y := ⟨_, rfl⟩
  have HDP := Lib.hid hdp
  rw [hdp] at z0 z1 ⊢
  have HPL := Lib.hid h.2.2
  clear h hlen ih B1 V1 hdp hrr
  have hw1' : w.alloc (.cells #[.int .i64 0, .int .i64 0, .string ⟨#[]⟩, .slice none 0 0] 51) = w1 := hw1
  have HW1 := Lib.hid hw1'
  clear hw1 hw1'
  by_cases hp : p < l.length
  · obtain ⟨c, hc⟩ : ∃ c, l.getD p 0 = c := ⟨_, rfl⟩
    have T0 := rnext_ok rb v l p false w1 R1.out hp
    rw [hc] at T0
    have T := Lib.hid T0
    have hd : l.drop p = c :: l.drop (p + 1) := by rw [← hc, List.drop_eq_getElem_cons hp, List.getD_eq_getElem?_getD, List.getElem?_eq_getElem hp]; rfl
    have HD := Lib.hid hd
    have HP := Lib.hid hp
    clear T0 hc hd hp
    go_enter Tryd.func53, Tryd.ntmps53
    go_upto_region 1 with fail
    rw [HW1.out]
    go_wp2_with fail
    refine T.out.mono ?_
    rintro e w2 ⟨rfl, r2, o2⟩
    have R2 := Lib.hid r2
    have O2 := Lib.hid (O1.out.trans o2)
    have V2 := Lib.hid (o2.row (show w.heap.size ≠ rb from fun e => by have := HRB.out; omega) VV1.out)
    clear r2 o2 T R1 O1 VV1
    obtain ⟨cn, hcn⟩ : ∃ z : Int, (c.toNat : Int) = z := ⟨_, rfl⟩
    rw [show vB c = .int .u8 cn by rw [← hcn]]
    have HCN := Lib.hid hcn
    clear hcn
    by_cases e1 : c = 1
    · subst e1
      obtain rfl : cn = 1 := HCN.out.symm
      clear HCN HRR HLEN HDP z0 z1 IH
      have N := rnumber_any rb v l (p + 1) w2 R2.out
      unfold RNumPost at N
      cases hnf : numF 0 (l.drop (p + 1)) with
      | none =>
        rw [hnf] at N
        have NH := Lib.hid N
        have F : Hid (valF rr (l.drop p) = none) := Lib.hid (by rw [HD.out, valF_1, hnf]; rfl)
        clear N hnf
        go_wp2_with fail
        refine NH.out.mono ?_
        rintro e w4 ⟨⟨rfl, q, r4⟩, o4⟩
        have R4 := Lib.hid r4
        have O4 := Lib.hid (O2.out.trans o4)
        have V4 := Lib.hid (o4.row (show w.heap.size ≠ rb from fun e => by have := HRB.out; omega) V2.out)
        clear r4 o4 NH
        go_wp2_with (first | ((with_reducible (show wpList _ _ _ (Oper.mk none _ _ _ _ _ :: _) _ _)); refine wpList_store_rowV (o := ⟨none, .store 51 (.tmp 4) (.tmp 28), _, _, _, _⟩) rfl 51 (.tmp 4) (.tmp 28) rfl w.heap.size rfl 4 51 _ (valC 1 0 ⟨#[]⟩ (.slice none 0 0)) rfl V4.out (by kernel_rfl) (valC_one _ _ _ _) ?_; intro wz Vz oz))
        refine bodyPost_ret (v := .agg (rowF 4 (valC 1 0 ⟨#[]⟩ (.slice none 0 0)))) (by exact results_rowV (fn := Tryd.f53) (p := 4) (ty := 51) rfl _ _ w.heap.size 4 51 (valC 1 0 ⟨#[]⟩ (.slice none 0 0)) _ rfl Vz.out Tryd.underlying51 rfl (by kernel_rfl)) rfl ?_
        exact RValPost.no F.out (rf_other R4.out V4.out (show rb ≠ w.heap.size from fun e => by have := HRB.out; omega) oz.out) (O4.out.new (Nat.le_refl _) oz.out)
      | some x =>
        obtain ⟨n, r⟩ := x
        rw [hnf] at N
        have NH := Lib.hid N
        have NL := Lib.hid (numF_lt hnf)
        have NB := Lib.hid (unzig_bd (numF_lt hnf))
        have F : Hid (valF rr (l.drop p) = some (.mk 1 (unzig n) ByteArray.empty [], r)) := Lib.hid (by rw [HD.out, valF_1, hnf]; rfl)
        clear N hnf
        go_wp2_with fail
        refine NH.out.mono ?_
        rintro e w4 ⟨⟨rfl, r4⟩, o4⟩
        have R4 := Lib.hid r4
        have O4 := Lib.hid (O2.out.trans o4)
        have V4 := Lib.hid (o4.row (show w.heap.size ≠ rb from fun e => by have := HRB.out; omega) V2.out)
        clear r4 o4 NH
        have QL : Hid (l.length - r.length ≤ l.length) := Lib.hid (Nat.sub_le _ _)
        obtain ⟨un, hun⟩ : ∃ y, unzig n = y := ⟨_, rfl⟩
        have UN := Lib.hid hun
        rw [hun] at F NB
        clear hun
        have h2 : (n : Int).tdiv 2 = ((n / 2 : Nat) : Int) := rfl
        obtain ⟨hf, hhf⟩ : ∃ y : Nat, n / 2 = y := ⟨_, rfl⟩
        rw [hhf] at h2
        have HF := Lib.hid hhf
        have w0 : wrap64 (hf : Int) = (hf : Int) := IntWalk.wrap64_in _ (by have := NL.out; omega)
        have w0u : IntKind.u64.wrap (hf : Int) = (hf : Int) := by rw [IntKind.wrap_u64]; have := NL.out; omega
        clear hhf
        by_cases hm : n % 2 = 1
        · have h1 : (n : Int).tmod 2 = 1 := by show ((n % 2 : Nat) : Int) = 1; omega
          have h1b : n % 2 = 1 := hm
          have w1 : wrap64 (-(hf : Int)) = -(hf : Int) := IntWalk.wrap64_in _ (by have := NL.out; have := HF.out; omega)
          have w2 : wrap64 (-(hf : Int) - 1) = un := by
            rw [show wrap64 (-(hf : Int) - 1) = -(hf : Int) - 1 from IntWalk.wrap64_in _ (by have := NL.out; have := HF.out; omega), ← UN.out, ← HF.out]; unfold unzig; rw [if_pos hm]
          clear hm
          go_wp2_with (first | ((with_reducible (show wpList _ _ _ (Oper.mk none _ _ _ _ _ :: _) _ _)); refine wpList_store_rowV (o := ⟨none, .store 51 (.tmp 4) (.tmp 24), _, _, _, _⟩) rfl 51 (.tmp 4) (.tmp 24) rfl w.heap.size rfl 4 51 _ (valC 1 un ⟨#[]⟩ (.slice none 0 0)) rfl V4.out (by kernel_rfl) (valC_one _ _ _ _) ?_; intro wz Vz oz))
          refine bodyPost_ret (v := .agg (rowF 4 (valC 1 un ⟨#[]⟩ (.slice none 0 0)))) (by exact results_rowV (fn := Tryd.f53) (p := 4) (ty := 51) rfl _ _ w.heap.size 4 51 (valC 1 un ⟨#[]⟩ (.slice none 0 0)) _ rfl Vz.out Tryd.underlying51 rfl (by kernel_rfl)) rfl ?_
          exact RValPost.yes F.out rfl (CodS.leaf _ _ ⟨by decide, by decide⟩ NB.out (by decide)) (rf_other R4.out V4.out (show rb ≠ w.heap.size from fun e => by have := HRB.out; omega) oz.out) (O4.out.new (Nat.le_refl _) oz.out)
        · have h1 : (n : Int).tmod 2 = 0 := by show ((n % 2 : Nat) : Int) = 0; omega
          have h1b : n % 2 = 0 := by omega
          have w2 : (hf : Int) = un := by rw [← UN.out, ← HF.out]; unfold unzig; rw [if_neg hm]
          rw [w2] at h2 w0 w0u
          clear hm w2
          go_wp2_with (first | ((with_reducible (show wpList _ _ _ (Oper.mk none _ _ _ _ _ :: _) _ _)); refine wpList_store_rowV (o := ⟨none, .store 51 (.tmp 4) (.tmp 28), _, _, _, _⟩) rfl 51 (.tmp 4) (.tmp 28) rfl w.heap.size rfl 4 51 _ (valC 1 un ⟨#[]⟩ (.slice none 0 0)) rfl V4.out (by kernel_rfl) (valC_one _ _ _ _) ?_; intro wz Vz oz))
          refine bodyPost_ret (v := .agg (rowF 4 (valC 1 un ⟨#[]⟩ (.slice none 0 0)))) (by exact results_rowV (fn := Tryd.f53) (p := 4) (ty := 51) rfl _ _ w.heap.size 4 51 (valC 1 un ⟨#[]⟩ (.slice none 0 0)) _ rfl Vz.out Tryd.underlying51 rfl (by kernel_rfl)) rfl ?_
          exact RValPost.yes F.out rfl (CodS.leaf _ _ ⟨by decide, by decide⟩ NB.out (by decide)) (rf_other R4.out V4.out (show rb ≠ w.heap.size from fun e => by have := HRB.out; omega) oz.out) (O4.out.new (Nat.le_refl _) oz.out)
    have j1 : (cn == 1) = false := by rw [beq_eq_false_iff_ne]; intro e; exact e1 (UInt8.toNat_inj.1 (by have := HCN.out; show c.toNat = 1; omega))
    by_cases e2 : c = 2
    · subst e2
      obtain rfl : cn = 2 := HCN.out.symm
      clear j1 e1 HCN HRR HDP z0 z1 IH
      have N := rnumber_any rb v l (p + 1) w2 R2.out
      unfold RNumPost at N
      obtain ⟨sa, sc, hsl⟩ := R2.out.2.1.slice
      obtain ⟨m, hm⟩ : ∃ m, l.length = m := ⟨_, rfl⟩
      have HM := Lib.hid hm
      rw [hm] at hsl
      cases hnf : numF 0 (l.drop (p + 1)) with
      | none =>
        rw [hnf] at N
        have NH := Lib.hid N
        have F : Hid (valF rr (l.drop p) = none) := Lib.hid (by rw [HD.out, valF_2, hnf])
        clear N hnf hm
        go_wp2_with fail
        refine NH.out.mono ?_
        rintro e w4 ⟨⟨rfl, q, r4⟩, o4⟩
        have R4 := Lib.hid r4
        have O4 := Lib.hid (O2.out.trans o4)
        have V4 := Lib.hid (o4.row (show w.heap.size ≠ rb from fun e => by have := HRB.out; omega) V2.out)
        clear r4 o4 NH
        have x2 : w4.cell? ⟨rb, 2, none⟩ = some (.bool true) := R4.out.1.cell (i := 2) (by decide)
        go_wp2_with fail
        go_quiet (fail)
        have R5 := Lib.hid (R4.out.drewN nq)
        have O5 := Lib.hid (O4.out.trans (RfAt.drewO nq))
        have V5 := Lib.hid (V4.out.below (below_drewN (Below.refl _ w4) nq))
        obtain ⟨w5, hw5⟩ : ∃ y, w4.drewN nq = y := ⟨_, rfl⟩
        rw [hw5] at R5 O5 V5 ⊢
        clear hw5 R4 O4 V4
        have f2 : w5.frozen? ⟨rb, 2, none⟩ = false := R5.out.1.frozen 2
        have y2 : w5.cell? ⟨rb, 2, none⟩ = some (.bool true) := R5.out.1.cell (i := 2) (by decide)
        go_upto_region 11 with fail
        clear x2 y2 f2
        have R6p := R5.out.bad'
        have o6 := (OnlyB.refl rb w5).setCell (p := ⟨rb, 2, none⟩) (.inl rfl) (.bool true)
        have O6p := O5.out.trans o6
        have V6p := o6.row (show w.heap.size ≠ rb from fun e => by have := HRB.out; omega) V5.out
        obtain ⟨w6, hw6⟩ : ∃ y, w5.setCell ⟨rb, 2, none⟩ (.bool true) = y := ⟨_, rfl⟩
        rw [hw6] at R6p O6p V6p ⊢
        have R6 := Lib.hid R6p
        have O6 := Lib.hid O6p
        have V6 := Lib.hid V6p
        clear R6p O6p V6p o6 hw6
        go_wp2_with (first | ((with_reducible (show wpList _ _ _ (Oper.mk none _ _ _ _ _ :: _) _ _)); refine wpList_store_rowV (o := ⟨none, .store 51 (.tmp 4) (.tmp 55), _, _, _, _⟩) rfl 51 (.tmp 4) (.tmp 55) rfl w.heap.size rfl 4 51 _ zeroC rfl V6.out (by kernel_rfl) (valC_one _ _ _ _) ?_; intro wz Vz oz))
        refine bodyPost_ret (v := .agg (rowF 4 zeroC)) (by exact results_rowV (fn := Tryd.f53) (p := 4) (ty := 51) rfl _ _ w.heap.size 4 51 zeroC _ rfl Vz.out Tryd.underlying51 rfl (by kernel_rfl)) rfl ?_
        exact RValPost.no F.out (rf_other R6.out V6.out (show rb ≠ w.heap.size from fun e => by have := HRB.out; omega) oz.out) (O6.out.new (Nat.le_refl _) oz.out)
      | some x =>
        obtain ⟨n, r⟩ := x
        rw [hnf] at N
        dsimp only at N
        have NH := Lib.hid N
        have NL := Lib.hid (numF_lt hnf)
        obtain ⟨hdr, hrl⟩ := numF_drop hnf
        have HDR := Lib.hid hdr
        have F0 : Hid (valF rr (l.drop p) = if n ≤ r.length then some (.mk 2 0 ⟨(r.take n).toArray⟩ [], r.drop n) else none) := Lib.hid (by rw [HD.out, valF_2, hnf])
        rw [hm] at hdr hrl NH HDR
        have HRL := Lib.hid hrl
        have hmB : (m : Int) ≤ 1000000 := by have := HLEN.out; omega
        obtain ⟨rl, hrlen⟩ : ∃ y, r.length = y := ⟨_, rfl⟩
        have HRLEN := Lib.hid hrlen
        rw [hrlen] at F0 NH HRL hrl HDR
        obtain ⟨q0, hq0⟩ : ∃ y, m - rl = y := ⟨_, rfl⟩
        rw [hq0] at NH HDR
        have HQ0 := Lib.hid hq0
        have s0 : (m : Int) - (q0 : Int) = (rl : Int) := by omega
        have s1 : IntKind.i64.wrap ((m : Int) - (q0 : Int)) = (rl : Int) := by rw [IntWalk.i64_in _ (by omega)]; omega
        have s2 : IntKind.u64.wrap (rl : Int) = (rl : Int) := by rw [IntKind.wrap_u64]; omega
        have qB : (q0 : Int) ≤ 1000000 := by omega
        subst hsl
        clear N hnf hm hdr hrl hrlen hq0
        go_wp2_with fail
        refine NH.out.mono ?_
        rintro e w4 ⟨⟨rfl, r4⟩, o4⟩
        have R4 := Lib.hid r4
        have O4 := Lib.hid (O2.out.trans o4)
        have V4 := Lib.hid (o4.row (show w.heap.size ≠ rb from fun e => by have := HRB.out; omega) V2.out)
        clear r4 o4 NH
        have x0 : w4.cell? ⟨rb, 0, none⟩ = some (.slice sa m sc) := R4.out.1.cell (i := 0) (by decide)
        have x1 : w4.cell? ⟨rb, 1, none⟩ = some (.int .i64 (q0 : Int)) := R4.out.1.cell (i := 1) (by decide)
        have x2 : w4.cell? ⟨rb, 2, none⟩ = some (.bool false) := R4.out.1.cell (i := 2) (by decide)
        by_cases hn : n ≤ rl
        · have t0 : decide ((rl : Int) < (n : Int)) = false := by rw [decide_eq_false_iff_not]; omega
          have t1 : decide (rl < n) = false := by rw [decide_eq_false_iff_not]; omega
          have F : Hid (valF rr (l.drop p) = some (.mk 2 0 ⟨(r.take n).toArray⟩ [], r.drop n)) := Lib.hid (by rw [F0.out, if_pos hn])
          have NLE := Lib.hid hn
          have nB : (n : Int) ≤ 1000000 := by have := HRL.out; omega
          have u0 : IntKind.i64.wrap (n : Int) = (n : Int) := IntWalk.i64_in _ (by omega)
          have u1 : IntKind.i64.wrap ((q0 : Int) + (n : Int)) = ((q0 + n : Nat) : Int) := by rw [IntWalk.i64_in _ (by omega)]; omega
          have u2 : IntKind.i64.wrap (((q0 + n : Nat) : Int) - (n : Int)) = (q0 : Int) := by rw [IntWalk.i64_in _ (by omega)]; omega
          clear F0 hn
          go_wp2_with fail
          go_quiet (fail)
          have R5 := Lib.hid (R4.out.drewN nq)
          have O5 := Lib.hid (O4.out.trans (RfAt.drewO nq))
          have V5 := Lib.hid (V4.out.below (below_drewN (Below.refl _ w4) nq))
          obtain ⟨w5, hw5⟩ : ∃ y, w4.drewN nq = y := ⟨_, rfl⟩
          rw [hw5] at R5 O5 V5 ⊢
          clear hw5 R4 O4 V4
          have f2 : w5.frozen? ⟨rb, 2, none⟩ = false := R5.out.1.frozen 2
          have y2 : w5.cell? ⟨rb, 2, none⟩ = some (.bool false) := R5.out.1.cell (i := 2) (by decide)
          have y1 : w5.cell? ⟨rb, 1, none⟩ = some (.int .i64 (q0 : Int)) := R5.out.1.cell (i := 1) (by decide)
          have f1 : w5.frozen? ⟨rb, 1, none⟩ = false := R5.out.1.frozen 1
          clear x0 x1 x2 y2 f2 t0 t1
          go_upto_region 13 with fail
          have CAPB : Hid (q0 + n ≤ sc) := Lib.hid (by
            rcases R5.out.2.1 with ⟨⟨a', k, e1, _⟩, h1⟩ | ⟨b, off, cap, e1, e2, _⟩
            · have := HM.out; rw [h1] at this; have := NLE.out; have := HQ0.out; have := HRL.out; simp at *; omega
            · obtain rfl : sc = cap := by cases e1; rfl
              have := HM.out; have := NLE.out; have := HQ0.out; have := HRL.out; omega)
          have R6p := R5.out.at' (q := q0 + n) (by have := NLE.out; have := HQ0.out; have := HRL.out; have := HM.out; omega)
          have o6 := (OnlyB.refl rb w5).setCell (p := ⟨rb, 1, none⟩) (.inl rfl) (.int .i64 ((q0 + n : Nat) : Int))
          have O6p := O5.out.trans o6
          have V6p := o6.row (show w.heap.size ≠ rb from fun e => by have := HRB.out; omega) V5.out
          rw [show ((q0 : Int) + (n : Int)) = ((q0 + n : Nat) : Int) from rfl]
          obtain ⟨w6, hw6⟩ : ∃ y, w5.setCell ⟨rb, 1, none⟩ (.int .i64 ((q0 + n : Nat) : Int)) = y := ⟨_, rfl⟩
          rw [hw6] at R6p O6p V6p ⊢
          have R6 := Lib.hid R6p
          have O6 := Lib.hid O6p
          have V6 := Lib.hid V6p
          clear R6p O6p V6p o6 hw6 R5 O5 V5 y1 f1
          have u3 : ((q0 + n : Nat) : Int) - (n : Int) = (q0 : Int) := by omega
          obtain ⟨qn, hqn⟩ : ∃ y : Int, ((q0 + n : Nat) : Int) = y := ⟨_, rfl⟩
          clear hqn qn
          refine Tc.wp_region_plan (keep w6.heap.size) 18 [] (.fl 0 (.fl 1 (.fl 2 (.fl 3 (.fl 4 (.fl 5 (.fl 6 (.fl 7 (.fl 8 (.fl 9 (.fl 10 (.fl 11 (.fl 12 (.fl 13 (.fl 14 (.fl 15 (.fl 16 (.fl 17 .done)))))))))))))))))) (by kernel_rfl) (by kernel_rfl) ?_
          intro w7 b7 e7
          have BB7 : Hid (Below w6.heap.size w6 w7) := Lib.hid b7
          clear b7 e7
          refine Tc.plan_floats [0, 1, 2, 3, 4, 5, 6, 7, 8, 9, 10, 11, 12, 13, 14, 15, 16, 17] [_, _, _, _, _, _, _, _, _, _, _, _, _, _, _, _, _, _] rfl ?_
          dsimp only [List.getElem_toArray, List.getElem_cons_succ, List.getElem_cons_zero]
          repeat (first | go_big_quiet_skip | (go_big_quiet_want; go_big_quiet_op; first | go_big_quiet_on | (refine ⟨_, fun _ _ => rfl, ?_⟩; go_big_quiet_on)))
          refine wpQuiet_load_cell rfl 28 (.tmp 68) rfl rb 0 rfl _ Tryd.underlying28 rfl (.slice sa m sc) (fun W hW => cell_keep (n := w6.heap.size) ((R6.out.1.below BB7.out).cell (i := 0) (by decide)) (R6.out.1.lt) hW) ?_
          simp only [Act.put, List.setIfInBounds_toArray, List.set_cons_succ, List.set_cons_zero]
          repeat (first | go_big_quiet_skip | (go_big_quiet_want; go_big_quiet_op; first | go_big_quiet_on | (refine ⟨_, fun _ _ => rfl, ?_⟩; go_big_quiet_on)))
          refine wpQuiet_load_cell rfl 3 (.tmp 72) rfl rb 1 rfl _ Tryd.underlying3 rfl (.int .i64 ((q0 + n : Nat) : Int)) (fun W hW => cell_keep (n := w6.heap.size) ((R6.out.1.below BB7.out).cell (i := 1) (by decide)) (R6.out.1.lt) hW) ?_
          simp only [Act.put, List.setIfInBounds_toArray, List.set_cons_succ, List.set_cons_zero]
          repeat (first | go_big_quiet_skip | (go_big_quiet_want; go_big_quiet_op; first | go_big_quiet_on | (refine ⟨_, fun _ _ => rfl, ?_⟩; go_big_quiet_on)))
          refine wpQuiet_load_cell rfl 3 (.tmp 79) rfl rb 1 rfl _ Tryd.underlying3 rfl (.int .i64 ((q0 + n : Nat) : Int)) (fun W hW => cell_keep (n := w6.heap.size) ((R6.out.1.below BB7.out).cell (i := 1) (by decide)) (R6.out.1.lt) hW) ?_
          simp only [Act.put, List.setIfInBounds_toArray, List.set_cons_succ, List.set_cons_zero]
          repeat (first | go_big_quiet_skip | (go_big_quiet_want; go_big_quiet_op; first | go_big_quiet_on | (refine ⟨_, fun _ _ => rfl, ?_⟩; go_big_quiet_on)))
          refine wpQuiet_slice rfl (.tmp 69) (.tmp 76) (.tmp 80) rfl sa m sc q0 (q0 + n) rfl rfl rfl (Nat.le_add_right _ _) CAPB.out ?_
          simp only [Act.put, List.setIfInBounds_toArray, List.set_cons_succ, List.set_cons_zero]
          repeat (first | go_big_quiet_skip | (go_big_quiet_want; go_big_quiet_op; first | go_big_quiet_on | (refine ⟨_, fun _ _ => rfl, ?_⟩; go_big_quiet_on)))
          refine wpQuiet_convert rfl 28 9 (.tmp 81) rfl _ (.string ⟨(r.take n).toArray⟩) rfl (fun W hW => by have h := run_text (sliced_bytes ((R6.out.2.1).keep (keep_trans BB7.out hW) (Nat.le_refl _)) HM.out (p := q0) (n := n) (by have := NLE.out; have := HQ0.out; have := HRL.out; omega)); rwa [HDR.out] at h) ?_
          simp only [Act.put, List.setIfInBounds_toArray, List.set_cons_succ, List.set_cons_zero]
          repeat (first | go_big_quiet_skip | (go_big_quiet_want; go_big_quiet_op; first | go_big_quiet_on | (refine ⟨_, fun _ _ => rfl, ?_⟩; go_big_quiet_on)))
          refine wpQuiet_nil ?_
          obtain ⟨tx, htx⟩ : ∃ y, ByteArray.mk (r.take n).toArray = y := ⟨_, rfl⟩
          rw [htx] at F ⊢
          have TXL : Hid ((tx.size : Int) ≤ 140737488351232) := Lib.hid (by rw [← htx]; show (((r.take n).toArray).size : Int) ≤ _; simp only [List.size_toArray, List.length_take]; omega)
          clear htx
          have R7 := Lib.hid (R6.out.below BB7.out)
          have V7 := Lib.hid (V6.out.below BB7.out)
          have O7 := Lib.hid (O6.out.trans (OnlyB.of_below BB7.out))
          refine Tc.plan_done (l := [_]) rfl (fun K hK => ?_)
          go_wp2_with (first | ((with_reducible (show wpList _ _ _ (Oper.mk none _ _ _ _ _ :: _) _ _)); refine wpList_store_rowV (o := ⟨none, .store 51 (.tmp 4) (.tmp 83), _, _, _, _⟩) rfl 51 (.tmp 4) (.tmp 83) rfl w.heap.size rfl 4 51 _ (valC 2 0 tx (.slice none 0 0)) rfl V7.out (by kernel_rfl) (valC_one _ _ _ _) ?_; intro wz Vz oz))
          refine bodyPost_ret (v := .agg (rowF 4 (valC 2 0 tx (.slice none 0 0)))) (by exact results_rowV (fn := Tryd.f53) (p := 4) (ty := 51) rfl _ _ w.heap.size 4 51 (valC 2 0 tx (.slice none 0 0)) _ rfl Vz.out Tryd.underlying51 rfl (by kernel_rfl)) rfl ?_
          exact RValPost.yes F.out (by rw [List.length_drop, HRLEN.out]; have := HM.out; have := NLE.out; have := HQ0.out; have := HRL.out; omega) (CodS.leaf _ _ ⟨by decide, by decide⟩ ⟨by decide, by decide⟩ TXL.out) (rf_other R7.out V7.out (show rb ≠ w.heap.size from fun e => by have := HRB.out; omega) oz.out) (O7.out.new (Nat.le_refl _) oz.out)
        · have t0 : decide ((rl : Int) < (n : Int)) = true := by rw [decide_eq_true_iff]; omega
          have t1 : decide (rl < n) = true := by rw [decide_eq_true_iff]; omega
          have F : Hid (valF rr (l.drop p) = none) := Lib.hid (by rw [F0.out, if_neg hn])
          clear F0 hn
          go_wp2_with fail
          go_quiet (fail)
          have R5 := Lib.hid (R4.out.drewN nq)
          have O5 := Lib.hid (O4.out.trans (RfAt.drewO nq))
          have V5 := Lib.hid (V4.out.below (below_drewN (Below.refl _ w4) nq))
          obtain ⟨w5, hw5⟩ : ∃ y, w4.drewN nq = y := ⟨_, rfl⟩
          rw [hw5] at R5 O5 V5 ⊢
          clear hw5 R4 O4 V4
          have f2 : w5.frozen? ⟨rb, 2, none⟩ = false := R5.out.1.frozen 2
          have y2 : w5.cell? ⟨rb, 2, none⟩ = some (.bool false) := R5.out.1.cell (i := 2) (by decide)
          go_upto_region 11 with fail
          clear x0 x1 x2 y2 f2
          have R6p := R5.out.bad'
          have o6 := (OnlyB.refl rb w5).setCell (p := ⟨rb, 2, none⟩) (.inl rfl) (.bool true)
          have O6p := O5.out.trans o6
          have V6p := o6.row (show w.heap.size ≠ rb from fun e => by have := HRB.out; omega) V5.out
          obtain ⟨w6, hw6⟩ : ∃ y, w5.setCell ⟨rb, 2, none⟩ (.bool true) = y := ⟨_, rfl⟩
          rw [hw6] at R6p O6p V6p ⊢
          have R6 := Lib.hid R6p
          have O6 := Lib.hid O6p
          have V6 := Lib.hid V6p
          clear R6p O6p V6p o6 hw6
          go_wp2_with (first | ((with_reducible (show wpList _ _ _ (Oper.mk none _ _ _ _ _ :: _) _ _)); refine wpList_store_rowV (o := ⟨none, .store 51 (.tmp 4) (.tmp 55), _, _, _, _⟩) rfl 51 (.tmp 4) (.tmp 55) rfl w.heap.size rfl 4 51 _ zeroC rfl V6.out (by kernel_rfl) (valC_one _ _ _ _) ?_; intro wz Vz oz))
          refine bodyPost_ret (v := .agg (rowF 4 zeroC)) (by exact results_rowV (fn := Tryd.f53) (p := 4) (ty := 51) rfl _ _ w.heap.size 4 51 zeroC _ rfl Vz.out Tryd.underlying51 rfl (by kernel_rfl)) rfl ?_
          exact RValPost.no F.out (rf_other R6.out V6.out (show rb ≠ w.heap.size from fun e => by have := HRB.out; omega) oz.out) (O6.out.new (Nat.le_refl _) oz.out)
    have j2 : (cn == 2) = false := by rw [beq_eq_false_iff_ne]; intro e; exact e2 (UInt8.toNat_inj.1 (by have := HCN.out; show c.toNat = 2; omega))
    by_cases e3 : c = 3
    · subst e3
      obtain rfl : cn = 3 := HCN.out.symm
      clear j1 e1 j2 e2 HCN
      have N := rnumber_any rb v l (p + 1) w2 R2.out
      unfold RNumPost at N
      obtain ⟨sa, sc, hsl⟩ := R2.out.2.1.slice
      obtain ⟨m, hm⟩ : ∃ m, l.length = m := ⟨_, rfl⟩
      have HM := Lib.hid hm
      rw [hm] at hsl
      cases hnf : numF 0 (l.drop (p + 1)) with
      | none =>
        rw [hnf] at N
        have NH := Lib.hid N
        have F : Hid (valF rr (l.drop p) = none) := Lib.hid (by rw [HD.out]; cases rr with | zero => exact valF_30 _ | succ r' => rw [valF_3, hnf])
        clear N hnf hm
        go_wp2_with fail
        refine NH.out.mono ?_
        rintro e w4 ⟨⟨rfl, q, r4⟩, o4⟩
        have R4 := Lib.hid r4
        have O4 := Lib.hid (O2.out.trans o4)
        have V4 := Lib.hid (o4.row (show w.heap.size ≠ rb from fun e => by have := HRB.out; omega) V2.out)
        clear r4 o4 NH
        have x2 : w4.cell? ⟨rb, 2, none⟩ = some (.bool true) := R4.out.1.cell (i := 2) (by decide)
        go_wp2_with fail
        go_quiet (fail)
        have R5 := Lib.hid (R4.out.drewN nq)
        have O5 := Lib.hid (O4.out.trans (RfAt.drewO nq))
        have V5 := Lib.hid (V4.out.below (below_drewN (Below.refl _ w4) nq))
        obtain ⟨w5, hw5⟩ : ∃ y, w4.drewN nq = y := ⟨_, rfl⟩
        rw [hw5] at R5 O5 V5 ⊢
        clear hw5 R4 O4 V4
        have f2 : w5.frozen? ⟨rb, 2, none⟩ = false := R5.out.1.frozen 2
        have y2 : w5.cell? ⟨rb, 2, none⟩ = some (.bool true) := R5.out.1.cell (i := 2) (by decide)
        go_upto_region 18 with fail
        clear x2 y2 f2
        have R6p := R5.out.bad'
        have o6 := (OnlyB.refl rb w5).setCell (p := ⟨rb, 2, none⟩) (.inl rfl) (.bool true)
        have O6p := O5.out.trans o6
        have V6p := o6.row (show w.heap.size ≠ rb from fun e => by have := HRB.out; omega) V5.out
        obtain ⟨w6, hw6⟩ : ∃ y, w5.setCell ⟨rb, 2, none⟩ (.bool true) = y := ⟨_, rfl⟩
        rw [hw6] at R6p O6p V6p ⊢
        have R6 := Lib.hid R6p
        have O6 := Lib.hid O6p
        have V6 := Lib.hid V6p
        clear R6p O6p V6p o6 hw6
        go_wp2_with (first | ((with_reducible (show wpList _ _ _ (Oper.mk none _ _ _ _ _ :: _) _ _)); refine wpList_store_rowV (o := ⟨none, .store 51 (.tmp 4) (.tmp 114), _, _, _, _⟩) rfl 51 (.tmp 4) (.tmp 114) rfl w.heap.size rfl 4 51 _ zeroC rfl V6.out (by kernel_rfl) (valC_one _ _ _ _) ?_; intro wz Vz oz))
        refine bodyPost_ret (v := .agg (rowF 4 zeroC)) (by exact results_rowV (fn := Tryd.f53) (p := 4) (ty := 51) rfl _ _ w.heap.size 4 51 zeroC _ rfl Vz.out Tryd.underlying51 rfl (by kernel_rfl)) rfl ?_
        exact RValPost.no F.out (rf_other R6.out V6.out (show rb ≠ w.heap.size from fun e => by have := HRB.out; omega) oz.out) (O6.out.new (Nat.le_refl _) oz.out)
      | some x =>
        obtain ⟨n, r⟩ := x
        rw [hnf] at N
        dsimp only at N
        have NH := Lib.hid N
        have NL := Lib.hid (numF_lt hnf)
        obtain ⟨hdr, hrl⟩ := numF_drop hnf
        have PRE : Hid (∃ pre, l = pre ++ r) := Lib.hid ⟨l.take (l.length - r.length), by have h := List.take_append_drop (l.length - r.length) l; rw [hdr] at h; exact h.symm⟩
        have FN := Lib.hid hnf
        rw [hm] at hdr hrl NH
        have HRL := Lib.hid hrl
        have hmB : (m : Int) ≤ 1000000 := by have := HLEN.out; omega
        obtain ⟨rl, hrlen⟩ : ∃ y, r.length = y := ⟨_, rfl⟩
        have HRLEN := Lib.hid hrlen
        rw [hrlen] at NH HRL hrl
        obtain ⟨q0, hq0⟩ : ∃ y, m - rl = y := ⟨_, rfl⟩
        rw [hq0] at NH
        have HQ0 := Lib.hid hq0
        have s0 : (m : Int) - (q0 : Int) = (rl : Int) := by omega
        have s1 : IntKind.i64.wrap ((m : Int) - (q0 : Int)) = (rl : Int) := by rw [IntWalk.i64_in _ (by omega)]; omega
        have s2 : IntKind.u64.wrap (rl : Int) = (rl : Int) := by rw [IntKind.wrap_u64]; omega
        have qB : (q0 : Int) ≤ 1000000 := by omega
        subst hsl
        clear N hnf hm hdr hrl hrlen hq0
        go_wp2_with fail
        refine NH.out.mono ?_
        rintro e w4 ⟨⟨rfl, r4⟩, o4⟩
        have R4 := Lib.hid r4
        have O4 := Lib.hid (O2.out.trans o4)
        have V4 := Lib.hid (o4.row (show w.heap.size ≠ rb from fun e => by have := HRB.out; omega) V2.out)
        clear r4 o4 NH
        have x0 : w4.cell? ⟨rb, 0, none⟩ = some (.slice sa m sc) := R4.out.1.cell (i := 0) (by decide)
        have x1 : w4.cell? ⟨rb, 1, none⟩ = some (.int .i64 (q0 : Int)) := R4.out.1.cell (i := 1) (by decide)
        have x2 : w4.cell? ⟨rb, 2, none⟩ = some (.bool false) := R4.out.1.cell (i := 2) (by decide)
        by_cases hn : n ≤ rl
        · have t0 : decide ((rl : Int) < (n : Int)) = false := by rw [decide_eq_false_iff_not]; omega
          have t1 : decide (rl < n) = false := by rw [decide_eq_false_iff_not]; omega
          have NLE := Lib.hid hn
          have NB : (n : Int) ≤ 1000000 := by have := HRL.out; omega
          cases rr with
          | zero =>
            have F : Hid (valF 0 (l.drop p) = none) := Lib.hid (by rw [HD.out]; exact valF_30 _)
            obtain rfl : dp = 16 := by have := HDP.out; omega
            clear hn
            go_wp2_with fail
            go_quiet (fail)
            have R5 := Lib.hid (R4.out.drewN nq)
            have O5 := Lib.hid (O4.out.trans (RfAt.drewO nq))
            have V5 := Lib.hid (V4.out.below (below_drewN (Below.refl _ w4) nq))
            obtain ⟨w5, hw5⟩ : ∃ y, w4.drewN nq = y := ⟨_, rfl⟩
            rw [hw5] at R5 O5 V5 ⊢
            clear hw5 R4 O4 V4
            have f2 : w5.frozen? ⟨rb, 2, none⟩ = false := R5.out.1.frozen 2
            have y2 : w5.cell? ⟨rb, 2, none⟩ = some (.bool false) := R5.out.1.cell (i := 2) (by decide)
            go_upto_region 18 with fail
            clear x0 x1 x2 y2 f2
            have R6p := R5.out.bad'
            have o6 := (OnlyB.refl rb w5).setCell (p := ⟨rb, 2, none⟩) (.inl rfl) (.bool true)
            have O6p := O5.out.trans o6
            have V6p := o6.row (show w.heap.size ≠ rb from fun e => by have := HRB.out; omega) V5.out
            obtain ⟨w6, hw6⟩ : ∃ y, w5.setCell ⟨rb, 2, none⟩ (.bool true) = y := ⟨_, rfl⟩
            rw [hw6] at R6p O6p V6p ⊢
            have R6 := Lib.hid R6p
            have O6 := Lib.hid O6p
            have V6 := Lib.hid V6p
            clear R6p O6p V6p o6 hw6
            go_wp2_with (first | ((with_reducible (show wpList _ _ _ (Oper.mk none _ _ _ _ _ :: _) _ _)); refine wpList_store_rowV (o := ⟨none, .store 51 (.tmp 4) (.tmp 114), _, _, _, _⟩) rfl 51 (.tmp 4) (.tmp 114) rfl w.heap.size rfl 4 51 _ zeroC rfl V6.out (by kernel_rfl) (valC_one _ _ _ _) ?_; intro wz Vz oz))
            refine bodyPost_ret (v := .agg (rowF 4 zeroC)) (by exact results_rowV (fn := Tryd.f53) (p := 4) (ty := 51) rfl _ _ w.heap.size 4 51 zeroC _ rfl Vz.out Tryd.underlying51 rfl (by kernel_rfl)) rfl ?_
            exact RValPost.no F.out (rf_other R6.out V6.out (show rb ≠ w.heap.size from fun e => by have := HRB.out; omega) oz.out) (O6.out.new (Nat.le_refl _) oz.out)
          | succ r' =>
            have F : Hid (valF (r' + 1) (l.drop p) = (repF (valF r') n r).map fun x => (.mk 3 0 ByteArray.empty x.1, x.2)) := Lib.hid (by
              rw [HD.out, valF_3, FN.out]; show (if n ≤ r.length then _ else _) = _; rw [if_pos (by rw [HRLEN.out]; exact hn)])
            have E16 : Hid (16 - (r' : Int) = dp + 1) := Lib.hid (by have := HDP.out; omega)
            have t2 : (dp == 16) = false := by rw [beq_eq_false_iff_ne]; have := HDP.out; omega
            clear hn
            go_wp2_with fail
            go_quiet (fail)
            have R5 := Lib.hid (R4.out.drewN nq)
            have O5 := Lib.hid (O4.out.trans (RfAt.drewO nq))
            have V5 := Lib.hid (V4.out.below (below_drewN (Below.refl _ w4) nq))
            obtain ⟨w5, hw5⟩ : ∃ y, w4.drewN nq = y := ⟨_, rfl⟩
            rw [hw5] at R5 O5 V5 ⊢
            clear hw5 R4 O4 V4
            have f2 : w5.frozen? ⟨rb, 2, none⟩ = false := R5.out.1.frozen 2
            have y2 : w5.cell? ⟨rb, 2, none⟩ = some (.bool false) := R5.out.1.cell (i := 2) (by decide)
            clear x0 x1 x2 y2 f2
            have Zr := Lib.hid (RowV.new w5 51 4 zeroC)
            go_upto_region 20 with ((with_reducible (show wpList _ _ _ (Oper.mk none _ _ _ _ _ :: _) _ _)); refine wpList_store_rowV (o := ⟨none, .store 51 (.tmp 8) (.tmp 115), _, _, _, _⟩) rfl 51 (.tmp 8) (.tmp 115) rfl w5.heap.size rfl 4 51 zeroC (valC 3 0 ⟨#[]⟩ (.slice none 0 0)) rfl Zr.out (by kernel_rfl) (valC_one _ _ _ _) ?_; intro w7 X7 o7)
            have b7 : Below w5.heap.size w5 w7 := ((Below.refl _ _).alloc (Nat.le_refl _) _).trans (o7.below (Nat.le_refl _) (by rw [World.size_alloc]; omega))
            have R7 := Lib.hid (R5.out.below b7)
            have O7 := Lib.hid (O5.out.trans (OnlyB.of_below b7))
            have V7 := Lib.hid (V5.out.below b7)
            have X7 := Lib.hid X7
            have L57 := Lib.hid X7.out.lt
            have LV5 := Lib.hid V5.out.lt
            have BL0 := Lib.hid (own_ltB R7.out.2.1 (by have := HP.out; omega))
            have PQ : Hid (l.length - r.length = q0) := Lib.hid (by rw [HRLEN.out]; have := HM.out; have := HQ0.out; omega)
            clear b7 o7 Zr R5 O5 V5
            have NS : Hid (n ≤ 1000000) := Lib.hid (by omega)
            go_wp2_with fail
            go_loopg [9] n (fun g s9 wx => ∃ (i : Nat) (sl : Value), i + g = n ∧ s9 = .int .u64 (i : Int) ∧ Hid (RowV wx w5.heap.size 51 4 (valC 3 0 ⟨#[]⟩ sl)) ∧ Hid (RowV wx w.heap.size 51 4 zeroC) ∧ Hid (OnlyB rb w wx) ∧ Hid (w7.heap.size ≤ wx.heap.size) ∧
              Hid ((∃ (ts : List Tv) (rest : List UInt8), RepI (valF r') n r i ts rest ∧ OwnV wx w7.heap.size sl ts ∧ RfAt wx rb (.slice sa m sc) l (l.length - rest.length) false ∧ ∃ pre, l = pre ++ rest) ∨ (∃ (q : Nat) (a : Option Addr) (k c : Nat), sl = .slice a k c ∧ RfAt wx rb (.slice sa m sc) l q true ∧ repF (valF r') n r = none)))
            case atStart => exact ⟨0, .slice none 0 0, by omega, rfl, X7, V7, O7, Lib.hid (Nat.le_refl _), Lib.hid (.inl ⟨[], r, RepI.start _ _ _, OwnV.nil _ _, by rw [PQ.out]; exact R7.out, PRE.out⟩)⟩
            case round =>
              obtain ⟨i, sl, hi, rfl, hX, hV, hO, hS, hG⟩ := hrel
              obtain ⟨w8, rfl⟩ : ∃ y, y = wr := ⟨_, rfl⟩
              have q0' : (0 : Int) ≤ (i : Int) := Int.natCast_nonneg i
              have iN : (i : Int) ≤ (n : Int) := by omega
              rcases hG.out with ⟨ts, rest, hI, hL, hR, hpre⟩ | ⟨q, a, kk, cc, hsl, hR, hrep⟩
              · have x2 : w8.cell? ⟨rb, 2, none⟩ = some (.bool false) := hR.1.cell (i := 2) (by decide)
                by_cases hlt : i < n
                · have t0 : decide ((i : Int) < (n : Int)) = true := by rw [decide_eq_true_iff]; omega
                  have t1 : decide (i < n) = true := by rw [decide_eq_true_iff]; omega
                  have HLT := Lib.hid hlt
                  have HI := Lib.hid hI
                  have HL := Lib.hid hL
                  have HR := Lib.hid hR
                  have HPRE := Lib.hid hpre
                  have HDRP : Hid (l.drop (l.length - rest.length) = rest) := Lib.hid (by obtain ⟨pre, e⟩ := hpre; exact suffix_drop e)
                  have k1 : IntKind.i64.wrap (dp + 1) = dp + 1 := IntWalk.i64_in _ (by omega)
                  have k2 : IntKind.u64.wrap ((i : Int) + 1) = (i : Int) + 1 := by rw [IntKind.wrap_u64]; omega
                  clear hI hL hR hpre hG hlt
                  go_upto_region 23 with fail
                  clear x2
                  refine Tc.wp_region_plan (Tc.Rl.stay (fun k => k = w5.heap.size)) 8 [] (.fl 0 (.fl 1 (.fl 2 (.fl 3 (.fl 4 (.one 5 (.one 6 (.one 7 .done)))))))) (by kernel_rfl) (by kernel_rfl) ?_
                  intro w9 b9 e9
                  have X9 := Lib.hid (hX.out.below b9)
                  have V9 := Lib.hid (hV.out.below b9)
                  have L9 := Lib.hid (HL.out.only (rb := rb) b9.os b9.tape b9.output b9.size (fun b hb _ => b9.block b hb) (by have := HRB.out; have := LV5.out; have := L57.out; omega))
                  have R9 := Lib.hid (HR.out.below b9)
                  have O9 := Lib.hid (hO.out.trans (OnlyB.of_below b9))
                  have S9 := Lib.hid (Nat.le_trans hS.out b9.size)
                  have IHC := IH.out r' (Nat.lt_succ_self r') (by have := HRR.out; omega) rb (.slice sa m sc) l (l.length - rest.length) w9 R9.out HLEN.out
                  rw [E16.out] at IHC
                  unfold RValPost at IHC
                  rw [HDRP.out] at IHC
                  clear b9 e9 hX hV HL HR hO hS
                  refine Tc.plan_floats [0, 1, 2, 3, 4] [_, _, _, _, _] rfl ?_
                  dsimp only [List.getElem_toArray, List.getElem_cons_succ, List.getElem_cons_zero]
                  repeat (first | go_big_quiet_skip | (go_big_quiet_want; go_big_quiet_op; first | go_big_quiet_on | (refine ⟨_, fun _ _ => rfl, ?_⟩; go_big_quiet_on)))
                  refine wpQuiet_load_cell rfl 49 (.tmp 128) rfl w5.heap.size 3 rfl _ Tryd.underlying49 rfl sl (fun W hW => (stay_row (S := fun k => k = w5.heap.size) X9.out rfl hW).cell (i := 3) (by decide)) ?_
                  simp only [Act.put, List.setIfInBounds_toArray, List.set_cons_succ, List.set_cons_zero]
                  repeat (first | go_big_quiet_skip | (go_big_quiet_want; go_big_quiet_op; first | go_big_quiet_on | (refine ⟨_, fun _ _ => rfl, ?_⟩; go_big_quiet_on)))
                  refine wpQuiet_nil ?_
                  have TL : Hid (ts.length ≤ 1000000) := Lib.hid (by have := HI.out.1; have := NS.out; have := HLT.out; omega)
                  have NB5 : Hid (w5.heap.size ≠ rb) := Lib.hid (fun e => by have := HRB.out; have := LV5.out; omega)
                  have NBV : Hid (w.heap.size ≠ rb) := Lib.hid (fun e => by have := HRB.out; omega)
                  cases hvf : valF r' rest with
                  | none =>
                    rw [hvf] at IHC
                    have IHH := Lib.hid IHC
                    have REP : Hid (repF (valF r') n r = none) := Lib.hid (RepI.none HI.out HLT.out hvf)
                    clear IHC hvf
                    refine Tc.plan_one 5 rfl (fun K hK => ?_)
                    go_wp2_with fail
                    refine IHH.out.mono ?_
                    rintro e w10 ⟨⟨q, uk, un, us, ua, um, uc, rfl, r10⟩, o10⟩
                    go_wp2_with fail
                    refine hK _ _ (fun k hk => by subst hk; exact o10.block _ X9.out.lt NB5.out) ?_
                    have X10 := Lib.hid (o10.row NB5.out X9.out)
                    have V10 := Lib.hid (o10.row NBV.out V9.out)
                    have L10 := Lib.hid (L9.out.only (rb := rb) o10.os o10.tape o10.output o10.size o10.block (by have := HRB.out; have := LV5.out; have := L57.out; omega))
                    have R10 := Lib.hid r10
                    have O10 := Lib.hid (O9.out.trans o10)
                    have S10 := Lib.hid (Nat.le_trans S9.out o10.size)
                    clear hK K r10 o10 X9 V9 R9 O9 IHH
                    refine Tc.plan_one 6 rfl (fun K hK => ?_)
                    go_wp2_with fail
                    have al := (Below.refl _ w10).alloc (Nat.le_refl _) (.cells (rowF 4 (valC uk un us (.slice ua um uc))) 51)
                    refine hK _ _ (stay_below al (fun k hk => by subst hk; exact X10.out.lt)) ?_
                    have G11f := RowV.new w10 51 4 (valC uk un us (.slice ua um uc))
                    have X11f := X10.out.below al
                    have V11f := V10.out.below al
                    have L11f := L10.out.only (rb := rb) al.os al.tape al.output al.size (fun b hb _ => al.block b hb) (by have := HRB.out; have := LV5.out; have := L57.out; omega)
                    have R11f := R10.out.below al
                    have O11f := O10.out.trans (OnlyB.of_below al)
                    have S11f := Nat.le_trans S10.out al.size
                    obtain ⟨w11, hw11⟩ : ∃ y, w10.alloc (.cells (rowF 4 (valC uk un us (.slice ua um uc))) 51) = y := ⟨_, rfl⟩
                    have hw11' : w10.alloc (.cells #[.int .i64 uk, .int .i64 un, .string us, .slice ua um uc] 51) = w11 := hw11
                    rw [hw11] at G11f X11f V11f L11f R11f O11f S11f 
                    rw [hw11']
                    have G11 := Lib.hid G11f
                    have X11 := Lib.hid X11f
                    have V11 := Lib.hid V11f
                    have L11 := Lib.hid L11f
                    have R11 := Lib.hid R11f
                    have O11 := Lib.hid O11f
                    have S11 := Lib.hid S11f
                    skip
                    clear hK K al hw11 hw11' G11f X11f V11f L11f R11f O11f S11f  X10 V10 L10 R10 O10 S10 L9 S9
                    refine Tc.plan_one 7 rfl (fun K hK => ?_)
                    refine wpList_app_raw rfl (.tmp 129) (.tmp 134) rfl w7.heap.size sl ts rfl L11.out w10.heap.size 1 (valC uk un us (.slice ua um uc)) rfl G11.out (valC_one _ _ _ _) TL.out S11.out ?_
                    intro a12 n12 c12 w12 s12
                    go_wp2_with fail
                    have NA5 : sl.ownBlock ≠ some w5.heap.size := fun e => by have := (L11.out.lt _ e).1; have := L57.out; omega
                    have NAV : sl.ownBlock ≠ some w.heap.size := fun e => by have := (L11.out.lt _ e).1; have := LV5.out; have := L57.out; omega
                    have NAR : sl.ownBlock ≠ some rb := fun e => by have := (L11.out.lt _ e).1; have := LV5.out; have := L57.out; have := HRB.out; omega
                    refine hK _ _ (stay_app s12.out (fun k hk => by subst hk; exact ⟨X11.out.lt, NA5⟩)) ?_
                    have X12 := Lib.hid (s12.out.row X11.out NA5)
                    have V12 := Lib.hid (s12.out.row V11.out NAV)
                    have O12 : Hid (OnlyB rb w w12) := Lib.hid (only_app O11.out s12.out (fun k e => by have := (L11.out.lt k e).1; have := LV5.out; have := L57.out; omega))
                    have R12 : Hid (RfAt w12 rb (.slice sa m sc) l _ _) := Lib.hid (rf_app R11.out s12.out NAR (fun k hk e => by have := BL0.out k hk; have := (L11.out.lt k e).1; omega))
                    have S12 := Lib.hid (Nat.le_trans S11.out s12.out.1.size)
                    obtain ⟨a8, c8, rfl⟩ := sl_slice L11.out
                    clear hK K s12 L11 G11 X11 V11 R11 O11 S11 NA5 NAV NAR
                    refine Tc.plan_done (l := [_, _]) rfl (fun K hK => ?_)
                    have x3 : w12.cell? ⟨w5.heap.size, 3, none⟩ = some (.slice a8 ts.length c8) := X12.out.cell (i := 3) (by decide)
                    have f3 : w12.frozen? ⟨w5.heap.size, 3, none⟩ = false := X12.out.frozen 3
                    go_wp2_with fail
                    clear x3 f3
                    have o13 := (OnlyB.refl w5.heap.size w12).setCell (p := ⟨w5.heap.size, 3, none⟩) (.inl rfl) (.slice a12 n12 c12)
                    have X13p := V_set (g := valC 3 0 ⟨#[]⟩ (.slice a12 n12 c12)) X12.out 3 (.slice a12 n12 c12) (by intro i hi; match i, hi with | 0, _ => rfl | 1, _ => rfl | 2, _ => rfl | 3, _ => rfl)
                    obtain ⟨w13, hw13⟩ : ∃ y, w12.setCell ⟨w5.heap.size, 3, none⟩ (.slice a12 n12 c12) = y := ⟨_, rfl⟩
                    rw [hw13] at o13 X13p ⊢
                    have X13 := Lib.hid X13p
                    have V13 := Lib.hid (o13.row (show w.heap.size ≠ w5.heap.size from fun e => by have := LV5.out; omega) V12.out)
                    have O13 := Lib.hid (O12.out.new (Nat.le_of_lt LV5.out) o13)
                    have S13 := Lib.hid (Nat.le_trans S12.out o13.size)
                    clear X13p hw13
                    have R13 := Lib.hid (rf_other R12.out X12.out (fun e => NB5.out e.symm) o13)
                    go_wp2_with fail
                    go_roundg (gk - 1)
                    case measure => have := HLT.out; omega
                    case rel =>
                      go_light
                      exact ⟨i + 1, .slice a12 n12 c12, by have := HLT.out; omega, by go_num, X13, V13, O13, S13, Lib.hid (.inr ⟨q, a12, n12, c12, rfl, R13.out, REP.out⟩)⟩
                  | some x =>
                    obtain ⟨t, rest'⟩ := x
                    rw [hvf] at IHC
                    have IHH := Lib.hid IHC
                    have I2 := Lib.hid (RepI.step HI.out HLT.out hvf (valF_len r' hvf))
                    have PRE2 : Hid (∃ pre, l = pre ++ rest') := Lib.hid (by
                      obtain ⟨pre, e⟩ := HPRE.out
                      have h := (valF_enc r' rest t rest' hvf).2.2
                      exact ⟨pre ++ encV t, by rw [e, List.append_assoc, ← h]⟩)
                    clear IHC hvf
                    refine Tc.plan_one 5 rfl (fun K hK => ?_)
                    go_wp2_with fail
                    refine IHH.out.mono ?_
                    rintro e w10 ⟨⟨u, rfl, hu, r10⟩, o10⟩
                    obtain ⟨uk, un, us, ua, um, uc, rfl⟩ := hu.agg
                    have U10 := Lib.hid hu
                    clear hu
                    go_wp2_with fail
                    refine hK _ _ (fun k hk => by subst hk; exact o10.block _ X9.out.lt NB5.out) ?_
                    have X10 := Lib.hid (o10.row NB5.out X9.out)
                    have V10 := Lib.hid (o10.row NBV.out V9.out)
                    have L10 := Lib.hid (L9.out.only (rb := rb) o10.os o10.tape o10.output o10.size o10.block (by have := HRB.out; have := LV5.out; have := L57.out; omega))
                    have R10 := Lib.hid r10
                    have O10 := Lib.hid (O9.out.trans o10)
                    have S10 := Lib.hid (Nat.le_trans S9.out o10.size)
                    clear hK K r10 o10 X9 V9 R9 O9 IHH
                    have U11f := U10.out.keep (S' := fun b => w7.heap.size ≤ b ∧ sl.ownBlock ≠ some b) (w' := w10.alloc (.cells (rowF 4 (valC uk un us (.slice ua um uc))) 51)) ((Below.refl _ w10).alloc (Nat.le_refl _) _).size (fun b hb hS => ⟨⟨Nat.le_trans S9.out hS, fun e => by have := (L9.out.lt b e).2; omega⟩, ((Below.refl _ w10).alloc (Nat.le_refl _) _).block b hb⟩)
                    refine Tc.plan_one 6 rfl (fun K hK => ?_)
                    go_wp2_with fail
                    have al := (Below.refl _ w10).alloc (Nat.le_refl _) (.cells (rowF 4 (valC uk un us (.slice ua um uc))) 51)
                    refine hK _ _ (stay_below al (fun k hk => by subst hk; exact X10.out.lt)) ?_
                    have G11f := RowV.new w10 51 4 (valC uk un us (.slice ua um uc))
                    have X11f := X10.out.below al
                    have V11f := V10.out.below al
                    have L11f := L10.out.only (rb := rb) al.os al.tape al.output al.size (fun b hb _ => al.block b hb) (by have := HRB.out; have := LV5.out; have := L57.out; omega)
                    have R11f := R10.out.below al
                    have O11f := O10.out.trans (OnlyB.of_below al)
                    have S11f := Nat.le_trans S10.out al.size
                    obtain ⟨w11, hw11⟩ : ∃ y, w10.alloc (.cells (rowF 4 (valC uk un us (.slice ua um uc))) 51) = y := ⟨_, rfl⟩
                    have hw11' : w10.alloc (.cells #[.int .i64 uk, .int .i64 un, .string us, .slice ua um uc] 51) = w11 := hw11
                    rw [hw11] at G11f X11f V11f L11f R11f O11f S11f U11f
                    rw [hw11']
                    have G11 := Lib.hid G11f
                    have X11 := Lib.hid X11f
                    have V11 := Lib.hid V11f
                    have L11 := Lib.hid L11f
                    have R11 := Lib.hid R11f
                    have O11 := Lib.hid O11f
                    have S11 := Lib.hid S11f
                    have U11 := Lib.hid U11f
                    clear hK K al hw11 hw11' G11f X11f V11f L11f R11f O11f S11f U11f X10 V10 L10 R10 O10 S10 L9 S9
                    refine Tc.plan_one 7 rfl (fun K hK => ?_)
                    refine wpList_app_val rfl (.tmp 129) (.tmp 134) rfl w7.heap.size sl ts rfl L11.out w10.heap.size 1 (valC uk un us (.slice ua um uc)) t rfl G11.out U11.out TL.out S11.out ?_
                    intro v12 w12 L12 s12
                    obtain ⟨a12, c12, rfl⟩ := L12.out.slice
                    have n12 : Hid ((ts ++ [t]).length = ts.length + 1) := Lib.hid (by rw [List.length_append, List.length_singleton])
                    rw [n12.out] at L12 s12 ⊢
                    go_wp2_with fail
                    have NA5 : sl.ownBlock ≠ some w5.heap.size := fun e => by have := (L11.out.lt _ e).1; have := L57.out; omega
                    have NAV : sl.ownBlock ≠ some w.heap.size := fun e => by have := (L11.out.lt _ e).1; have := LV5.out; have := L57.out; omega
                    have NAR : sl.ownBlock ≠ some rb := fun e => by have := (L11.out.lt _ e).1; have := LV5.out; have := L57.out; have := HRB.out; omega
                    refine hK _ _ (stay_app s12.out (fun k hk => by subst hk; exact ⟨X11.out.lt, NA5⟩)) ?_
                    have X12 := Lib.hid (s12.out.row X11.out NA5)
                    have V12 := Lib.hid (s12.out.row V11.out NAV)
                    have O12 : Hid (OnlyB rb w w12) := Lib.hid (only_app O11.out s12.out (fun k e => by have := (L11.out.lt k e).1; have := LV5.out; have := L57.out; omega))
                    have R12 : Hid (RfAt w12 rb (.slice sa m sc) l _ _) := Lib.hid (rf_app R11.out s12.out NAR (fun k hk e => by have := BL0.out k hk; have := (L11.out.lt k e).1; omega))
                    have S12 := Lib.hid (Nat.le_trans S11.out s12.out.1.size)
                    obtain ⟨a8, c8, rfl⟩ := sl_slice L11.out
                    clear hK K s12 L11 G11 X11 V11 R11 O11 S11 NA5 NAV NAR
                    refine Tc.plan_done (l := [_, _]) rfl (fun K hK => ?_)
                    have x3 : w12.cell? ⟨w5.heap.size, 3, none⟩ = some (.slice a8 ts.length c8) := X12.out.cell (i := 3) (by decide)
                    have f3 : w12.frozen? ⟨w5.heap.size, 3, none⟩ = false := X12.out.frozen 3
                    go_wp2_with fail
                    clear x3 f3
                    have o13 := (OnlyB.refl w5.heap.size w12).setCell (p := ⟨w5.heap.size, 3, none⟩) (.inl rfl) (.slice a12 (ts.length+1) c12)
                    have X13p := V_set (g := valC 3 0 ⟨#[]⟩ (.slice a12 (ts.length+1) c12)) X12.out 3 (.slice a12 (ts.length+1) c12) (by intro i hi; match i, hi with | 0, _ => rfl | 1, _ => rfl | 2, _ => rfl | 3, _ => rfl)
                    obtain ⟨w13, hw13⟩ : ∃ y, w12.setCell ⟨w5.heap.size, 3, none⟩ (.slice a12 (ts.length+1) c12) = y := ⟨_, rfl⟩
                    rw [hw13] at o13 X13p ⊢
                    have X13 := Lib.hid X13p
                    have V13 := Lib.hid (o13.row (show w.heap.size ≠ w5.heap.size from fun e => by have := LV5.out; omega) V12.out)
                    have O13 := Lib.hid (O12.out.new (Nat.le_of_lt LV5.out) o13)
                    have S13 := Lib.hid (Nat.le_trans S12.out o13.size)
                    clear X13p hw13
                    have R13 := Lib.hid (rf_other R12.out X12.out (fun e => NB5.out e.symm) o13)
                    have L13 := Lib.hid (L12.out.only (rb := w5.heap.size) o13.os o13.tape o13.output o13.size o13.block L57.out)
                    go_wp2_with fail
                    go_roundg (gk - 1)
                    case measure => have := HLT.out; omega
                    case rel =>
                      go_light
                      exact ⟨i + 1, .slice a12 (ts.length + 1) c12, by have := HLT.out; omega, by go_num, X13, V13, O13, S13, Lib.hid (.inl ⟨ts ++ [t], rest', I2.out, L13.out, R13.out, PRE2.out⟩)⟩
                · obtain rfl : n = i := by omega
                  have t0 : decide ((n : Int) < (n : Int)) = false := by rw [decide_eq_false_iff_not]; omega
                  have t1 : decide (n < n) = false := by rw [decide_eq_false_iff_not]; omega
                  have F2 : Hid (valF (r' + 1) (l.drop p) = some (.mk 3 0 ByteArray.empty ts, rest)) := Lib.hid (by rw [F.out, hI.done]; rfl)
                  obtain ⟨c, h1, h2⟩ := hL.read (S := fun b => w7.heap.size ≤ b) (by have := hI.1; have := NS.out; omega) (fun b hb => hb)
                  obtain ⟨sla, slc, rfl⟩ := hL.slice
                  have CS : Hid (CodS (fun b => w7.heap.size ≤ b) w8 (.agg #[.int .i64 3, .int .i64 0, .string ByteArray.empty, .slice sla ts.length slc]) (.mk 3 0 ByteArray.empty ts)) := Lib.hid (.mk 3 0 ByteArray.empty _ ts c ⟨by decide, by decide⟩ ⟨by decide, by decide⟩ (by decide) h1 h2)
                  have HR := Lib.hid hR
                  clear hI hL hR hpre hG hlt h1 h2
                  have x3 := hX.out
                  go_wp2_with (first | ((with_reducible (show wpList _ _ _ (Oper.mk (some 137) _ _ _ _ _ :: _) _ _)); refine wpList_load_rowV rfl 51 (.tmp 8) rfl w5.heap.size rfl 4 51 _ hX.out _ Tryd.underlying51 rfl (by kernel_rfl) ?_) | ((with_reducible (show wpList _ _ _ (Oper.mk none _ _ _ _ _ :: _) _ _)); refine wpList_store_rowV (o := ⟨none, .store 51 (.tmp 4) (.tmp 137), _, _, _, _⟩) rfl 51 (.tmp 4) (.tmp 137) rfl w.heap.size rfl 4 51 zeroC (valC 3 0 ⟨#[]⟩ (.slice sla ts.length slc)) rfl hV.out (by kernel_rfl) (valC_one _ _ _ _) ?_; intro wz Vz oz))
                  have CSZ := CS.out.keep (S' := fun b => w.heap.size ≤ b) (w' := wz) oz.out.size (fun b hb hS => ⟨by have := LV5.out; have := L57.out; omega, oz.out.block b hb (fun e => by have := LV5.out; have := L57.out; omega)⟩)
                  refine bodyPost_ret (v := .agg (rowF 4 (valC 3 0 ⟨#[]⟩ (.slice sla ts.length slc)))) (by exact results_rowV (fn := Tryd.f53) (p := 4) (ty := 51) rfl _ _ w.heap.size 4 51 (valC 3 0 ⟨#[]⟩ (.slice sla ts.length slc)) _ rfl Vz.out Tryd.underlying51 rfl (by kernel_rfl)) rfl ?_
                  exact RValPost.yes F2.out rfl CSZ (rf_other HR.out hV.out (show rb ≠ w.heap.size from fun e => by have := HRB.out; omega) oz.out) (hO.out.new (Nat.le_refl _) oz.out)
              · subst hsl
                have x2 : w8.cell? ⟨rb, 2, none⟩ = some (.bool true) := hR.1.cell (i := 2) (by decide)
                have F2 : Hid (valF (r' + 1) (l.drop p) = none) := Lib.hid (by rw [F.out, hrep]; rfl)
                have HR := Lib.hid hR
                clear hR hrep hG
                obtain ⟨tb, htb⟩ : ∃ tb, decide ((i : Int) < (n : Int)) = tb := ⟨_, rfl⟩
                obtain ⟨tb2, htb2⟩ : ∃ tb, decide (i < n) = tb := ⟨_, rfl⟩
                obtain rfl : tb = tb2 := by rw [← htb, ← htb2, decide_eq_decide]; omega
                cases tb
                · skip
                  have x3 := hX.out
                  go_wp2_with (first | ((with_reducible (show wpList _ _ _ (Oper.mk (some 137) _ _ _ _ _ :: _) _ _)); refine wpList_load_rowV rfl 51 (.tmp 8) rfl w5.heap.size rfl 4 51 _ hX.out _ Tryd.underlying51 rfl (by kernel_rfl) ?_) | ((with_reducible (show wpList _ _ _ (Oper.mk none _ _ _ _ _ :: _) _ _)); refine wpList_store_rowV (o := ⟨none, .store 51 (.tmp 4) (.tmp 137), _, _, _, _⟩) rfl 51 (.tmp 4) (.tmp 137) rfl w.heap.size rfl 4 51 zeroC (valC 3 0 ⟨#[]⟩ (.slice a kk cc)) rfl hV.out (by kernel_rfl) (valC_one _ _ _ _) ?_; intro wz Vz oz))
                  skip
                  refine bodyPost_ret (v := .agg (rowF 4 (valC 3 0 ⟨#[]⟩ (.slice a kk cc)))) (by exact results_rowV (fn := Tryd.f53) (p := 4) (ty := 51) rfl _ _ w.heap.size 4 51 (valC 3 0 ⟨#[]⟩ (.slice a kk cc)) _ rfl Vz.out Tryd.underlying51 rfl (by kernel_rfl)) rfl ?_
                  exact RValPost.no F2.out (rf_other HR.out hV.out (show rb ≠ w.heap.size from fun e => by have := HRB.out; omega) oz.out) (hO.out.new (Nat.le_refl _) oz.out)
                · skip
                  have x3 := hX.out
                  go_wp2_with (first | ((with_reducible (show wpList _ _ _ (Oper.mk (some 137) _ _ _ _ _ :: _) _ _)); refine wpList_load_rowV rfl 51 (.tmp 8) rfl w5.heap.size rfl 4 51 _ hX.out _ Tryd.underlying51 rfl (by kernel_rfl) ?_) | ((with_reducible (show wpList _ _ _ (Oper.mk none _ _ _ _ _ :: _) _ _)); refine wpList_store_rowV (o := ⟨none, .store 51 (.tmp 4) (.tmp 137), _, _, _, _⟩) rfl 51 (.tmp 4) (.tmp 137) rfl w.heap.size rfl 4 51 zeroC (valC 3 0 ⟨#[]⟩ (.slice a kk cc)) rfl hV.out (by kernel_rfl) (valC_one _ _ _ _) ?_; intro wz Vz oz))
                  skip
                  refine bodyPost_ret (v := .agg (rowF 4 (valC 3 0 ⟨#[]⟩ (.slice a kk cc)))) (by exact results_rowV (fn := Tryd.f53) (p := 4) (ty := 51) rfl _ _ w.heap.size 4 51 (valC 3 0 ⟨#[]⟩ (.slice a kk cc)) _ rfl Vz.out Tryd.underlying51 rfl (by kernel_rfl)) rfl ?_
                  exact RValPost.no F2.out (rf_other HR.out hV.out (show rb ≠ w.heap.size from fun e => by have := HRB.out; omega) oz.out) (hO.out.new (Nat.le_refl _) oz.out)
        · have t0 : decide ((rl : Int) < (n : Int)) = true := by rw [decide_eq_true_iff]; omega
          have t1 : decide (rl < n) = true := by rw [decide_eq_true_iff]; omega
          have F : Hid (valF rr (l.drop p) = none) := Lib.hid (by rw [HD.out]; cases rr with | zero => exact valF_30 _ | succ r' => rw [valF_3, FN.out]; show (if n ≤ r.length then _ else _) = _; rw [if_neg (by rw [HRLEN.out]; exact hn)])
          clear hn
          go_wp2_with fail
          go_quiet (fail)
          have R5 := Lib.hid (R4.out.drewN nq)
          have O5 := Lib.hid (O4.out.trans (RfAt.drewO nq))
          have V5 := Lib.hid (V4.out.below (below_drewN (Below.refl _ w4) nq))
          obtain ⟨w5, hw5⟩ : ∃ y, w4.drewN nq = y := ⟨_, rfl⟩
          rw [hw5] at R5 O5 V5 ⊢
          clear hw5 R4 O4 V4
          have f2 : w5.frozen? ⟨rb, 2, none⟩ = false := R5.out.1.frozen 2
          have y2 : w5.cell? ⟨rb, 2, none⟩ = some (.bool false) := R5.out.1.cell (i := 2) (by decide)
          go_upto_region 18 with fail
          clear x0 x1 x2 y2 f2
          have R6p := R5.out.bad'
          have o6 := (OnlyB.refl rb w5).setCell (p := ⟨rb, 2, none⟩) (.inl rfl) (.bool true)
          have O6p := O5.out.trans o6
          have V6p := o6.row (show w.heap.size ≠ rb from fun e => by have := HRB.out; omega) V5.out
          obtain ⟨w6, hw6⟩ : ∃ y, w5.setCell ⟨rb, 2, none⟩ (.bool true) = y := ⟨_, rfl⟩
          rw [hw6] at R6p O6p V6p ⊢
          have R6 := Lib.hid R6p
          have O6 := Lib.hid O6p
          have V6 := Lib.hid V6p
          clear R6p O6p V6p o6 hw6
          go_wp2_with (first | ((with_reducible (show wpList _ _ _ (Oper.mk none _ _ _ _ _ :: _) _ _)); refine wpList_store_rowV (o := ⟨none, .store 51 (.tmp 4) (.tmp 114), _, _, _, _⟩) rfl 51 (.tmp 4) (.tmp 114) rfl w.heap.size rfl 4 51 _ zeroC rfl V6.out (by kernel_rfl) (valC_one _ _ _ _) ?_; intro wz Vz oz))
          refine bodyPost_ret (v := .agg (rowF 4 zeroC)) (by exact results_rowV (fn := Tryd.f53) (p := 4) (ty := 51) rfl _ _ w.heap.size 4 51 zeroC _ rfl Vz.out Tryd.underlying51 rfl (by kernel_rfl)) rfl ?_
          exact RValPost.no F.out (rf_other R6.out V6.out (show rb ≠ w.heap.size from fun e => by have := HRB.out; omega) oz.out) (O6.out.new (Nat.le_refl _) oz.out)
    have j3 : (cn == 3) = false := by rw [beq_eq_false_iff_ne]; intro e; exact e3 (UInt8.toNat_inj.1 (by have := HCN.out; show c.toNat = 3; omega))
    have F : Hid (valF rr (l.drop p) = none) := Lib.hid (by rw [HD.out]; exact valF_no rr _ e1 e2 e3)
    have x2 : w2.cell? ⟨rb, 2, none⟩ = some (.bool false) := R2.out.1.cell (i := 2) (by decide)
    have f2 : w2.frozen? ⟨rb, 2, none⟩ = false := R2.out.1.frozen 2
    clear e1 e2 e3
    go_upto_region 26 with fail
    clear x2 f2
    have R3p := R2.out.bad'
    have o3 := (OnlyB.refl rb w2).setCell (p := ⟨rb, 2, none⟩) (.inl rfl) (.bool true)
    have O3p := O2.out.trans o3
    have V3p := o3.row (show w.heap.size ≠ rb from fun e => by have := HRB.out; omega) V2.out
    obtain ⟨w3, hw3⟩ : ∃ y, w2.setCell ⟨rb, 2, none⟩ (.bool true) = y := ⟨_, rfl⟩
    rw [hw3] at R3p O3p V3p ⊢
    have R3 := Lib.hid R3p
    have O3 := Lib.hid O3p
    have V3 := Lib.hid V3p
    clear R3p O3p V3p o3 hw3
    go_wp2_with (first | ((with_reducible (show wpList _ _ _ (Oper.mk none _ _ _ _ _ :: _) _ _)); refine wpList_store_rowV (o := ⟨none, .store 51 (.tmp 4) (.tmp 141), _, _, _, _⟩) rfl 51 (.tmp 4) (.tmp 141) rfl w.heap.size rfl 4 51 _ zeroC rfl V3.out (by kernel_rfl) (valC_one _ _ _ _) ?_; intro wz Vz oz))
    refine bodyPost_ret (v := .agg (rowF 4 zeroC)) (by exact results_rowV (fn := Tryd.f53) (p := 4) (ty := 51) rfl _ _ w.heap.size 4 51 zeroC _ rfl Vz.out Tryd.underlying51 rfl (by kernel_rfl)) rfl ?_
    exact RValPost.no F.out (rf_other R3.out V3.out (show rb ≠ w.heap.size from fun e => by have := HRB.out; omega) oz.out) (O3.out.new (Nat.le_refl _) oz.out)
  · have F0 : l.drop p = [] := List.drop_eq_nil_of_le (by omega)
    have T := Lib.hid (rnext_no rb v l p false w1 R1.out (by omega))
    have F : Hid (valF rr (l.drop p) = none) := Lib.hid (by rw [F0]; cases rr <;> rfl)
    clear F0 hp
    go_enter Tryd.func53, Tryd.ntmps53
    go_upto_region 1 with fail
    rw [HW1.out]
    go_wp2_with fail
    refine T.out.mono ?_
    rintro e w2 ⟨rfl, r2, o2⟩
    have R2 := Lib.hid r2
    have O2 := Lib.hid (O1.out.trans o2)
    have V2 := Lib.hid (o2.row (show w.heap.size ≠ rb from fun e => by have := HRB.out; omega) VV1.out)
    have x2 : w2.cell? ⟨rb, 2, none⟩ = some (.bool true) := R2.out.1.cell (i := 2) (by decide)
    have f2 : w2.frozen? ⟨rb, 2, none⟩ = false := R2.out.1.frozen 2
    clear r2 o2 T
    go_upto_region 26 with fail
    clear x2 f2
    have R3p := R2.out.bad'
    have o3 := (OnlyB.refl rb w2).setCell (p := ⟨rb, 2, none⟩) (.inl rfl) (.bool true)
    have O3p := O2.out.trans o3
    have V3p := o3.row (show w.heap.size ≠ rb from fun e => by have := HRB.out; omega) V2.out
    obtain ⟨w3, hw3⟩ : ∃ y, w2.setCell ⟨rb, 2, none⟩ (.bool true) = y := ⟨_, rfl⟩
    rw [hw3] at R3p O3p V3p ⊢
    have R3 := Lib.hid R3p
    have O3 := Lib.hid O3p
    have V3 := Lib.hid V3p
    clear R3p O3p V3p o3 hw3
    go_wp2_with (first | ((with_reducible (show wpList _ _ _ (Oper.mk none _ _ _ _ _ :: _) _ _)); refine wpList_store_rowV (o := ⟨none, .store 51 (.tmp 4) (.tmp 141), _, _, _, _⟩) rfl 51 (.tmp 4) (.tmp 141) rfl w.heap.size rfl 4 51 _ zeroC rfl V3.out (by kernel_rfl) (valC_one _ _ _ _) ?_; intro wz Vz oz))
    refine bodyPost_ret (v := .agg (rowF 4 zeroC)) (by exact results_rowV (fn := Tryd.f53) (p := 4) (ty := 51) rfl _ _ w.heap.size 4 51 zeroC _ rfl Vz.out Tryd.underlying51 rfl (by kernel_rfl)) rfl ?_
    exact RValPost.no F.out (rf_other R3.out V3.out (show rb ≠ w.heap.size from fun e => by have := HRB.out; omega) oz.out) (O3.out.new (Nat.le_refl _) oz.out)
end Go.Proofs.YtbjbgneejdjniaaDoor

namespace Go.Proofs.YtbjbgneejdjniaaDoor
open Go.RowKit Cod
/-- what is there stays -/
def RlGrow : Tc.Rl := ⟨fun w w' => Below w.heap.size w w', fun w => Below.refl _ w, fun {a b c} h1 h2 => h1.trans (h2.mono h1.size)⟩
theorem decF_of {l : List UInt8} : decF l = match valF 16 (l.drop 0) with | some (v, []) => some v | _ => none := by rw [List.drop_zero]; rfl
set_option maxRecDepth 100000 in
set_option maxHeartbeats 8000000 in
theorem rdecode_any (v : Value) (l : List UInt8) (w : World) (hb : BytesAt w v l) (hlen : l.length ≤ 1000000) :
    Calls Tryd.prog 30 #[v] w (DecPost l w) := by
  obtain ⟨sa, sc, rfl⟩ := hb.slice
  have HLEN := Lib.hid hlen
  have B1 := (Below.refl _ w).alloc (Nat.le_refl _) (.cells #[.int .i64 0, .int .i64 0, .string ⟨#[]⟩, .slice none 0 0] 51)
  have V1f : RowV (w.alloc (.cells #[.int .i64 0, .int .i64 0, .string ⟨#[]⟩, .slice none 0 0] 51)) w.heap.size 51 4 zeroC := RowV.new w 51 4 zeroC
  obtain ⟨w1, hw1⟩ : ∃ y, w.alloc (.cells #[.int .i64 0, .int .i64 0, .string ⟨#[]⟩, .slice none 0 0] 51) = y := ⟨_, rfl⟩
  rw [hw1] at B1 V1f
  obtain ⟨m, hm⟩ : ∃ y, l.length = y := ⟨_, rfl⟩
  have HM := Lib.hid hm
  rw [hm] at hb ⊢
  have b2 := (Below.refl _ w1).alloc (Nat.le_refl _) (.cells #[.slice sa m sc, .int .i64 0, .bool false] 101)
  have R2f : RfAt (w1.alloc (.cells #[.slice sa m sc, .int .i64 0, .bool false] 101)) w1.heap.size (.slice sa m sc) l 0 false :=
    ⟨RowV.new w1 101 3 (rdF (.slice sa m sc) 0 false), (hb.below B1).below b2, Nat.zero_le _⟩
  have V2f := V1f.below b2
  obtain ⟨w2, hw2⟩ : ∃ y, w1.alloc (.cells #[.slice sa m sc, .int .i64 0, .bool false] 101) = y := ⟨_, rfl⟩
  rw [hw2] at b2 R2f V2f
  have HW1 := Lib.hid hw1
  have HW2 := Lib.hid hw2
  have B2 := Lib.hid (B1.trans (b2.mono B1.size))
  have SZ2 := Lib.hid b2.size
  have R2 := Lib.hid R2f
  have V2 := Lib.hid V2f
  have S01 := Lib.hid V1f.lt
  have HB := Lib.hid hb
  have VR := rvalue_any 16 (by decide) w1.heap.size (.slice sa m sc) l 0 w2 R2f hlen
  rw [show (16 : Int) - ((16 : Nat) : Int) = 0 from rfl] at VR
  unfold RValPost at VR
  have DF : Hid (decF l = match valF 16 (l.drop 0) with | some (v, []) => some v | _ => none) := Lib.hid decF_of
  clear hb hlen hm B1 V1f hw1 b2 R2f V2f hw2
  cases hvf : valF 16 (l.drop 0) with
  | none =>
    rw [hvf] at VR DF
    have VH := Lib.hid VR
    have DN : Hid (decF l = none) := DF
    clear VR DF hvf
    go_enter Tryd.func30, Tryd.ntmps30
    go_upto_region 1 with fail
    rw [HW1.out]
    go_upto_region 2 with fail
    rw [HW2.out]
    go_wp2_with fail
    refine VH.out.mono ?_
    rintro e w3 ⟨⟨q, uk, un, us, ua, um, uc, rfl, r3⟩, o3⟩
    have B3 := Lib.hid (B2.out.trans (o3.below (Nat.le_of_lt S01.out) B2.out.size))
    have V3 := Lib.hid (o3.row (show w.heap.size ≠ w1.heap.size from fun e => by have := S01.out; omega) V2.out)
    have R3 := Lib.hid r3
    have S3 := Lib.hid o3.size
    clear r3 o3 VH R2 V2 B2
    have Zr := Lib.hid (RowV.new w3 51 4 zeroC)
    go_upto_region 3 with ((with_reducible (show wpList _ _ _ (Oper.mk none _ _ _ _ _ :: _) _ _)); refine wpList_store_rowV (o := ⟨none, .store 51 (.tmp 5) (.tmp 10), _, _, _, _⟩) rfl 51 (.tmp 5) (.tmp 10) rfl w3.heap.size rfl 4 51 zeroC (valC uk un us (.slice ua um uc)) rfl Zr.out (by kernel_rfl) (valC_one _ _ _ _) ?_; intro w4 X4 o4)
    have b4 : Below w3.heap.size w3 w4 := ((Below.refl _ _).alloc (Nat.le_refl _) _).trans (o4.below (Nat.le_refl _) (by rw [World.size_alloc]; omega))
    have B4 := Lib.hid (B3.out.trans (b4.mono B3.out.size))
    have R4 := Lib.hid (R3.out.below b4)
    have V4 := Lib.hid (V3.out.below b4)
    have S4 := Lib.hid b4.size
    simp only [Act.put]
    clear o4 Zr b4 R3 V3 B3
    refine Tc.wp_region_plan RlGrow 26 [] (.fl 0 (.fl 1 (.fl 2 (.fl 3 (.fl 4 (.fl 5 (.fl 6 (.fl 7 (.fl 8 (.fl 9 (.fl 10 (.fl 11 (.fl 12 (.fl 13 (.fl 14 (.one 15 (.fl 16 (.fl 17 (.fl 18 (.fl 19 (.fl 22 (.fl 23 (.one 20 (.fl 21 (.fl 24 (.fl 25 .done)))))))))))))))))))))))))) (by kernel_rfl) (by kernel_rfl) ?_
    intro w5 b5 e5
    have b5 : Below w4.heap.size w4 w5 := b5
    have R5 := Lib.hid (R4.out.below b5)
    have X5 := Lib.hid (X4.out.below b5)
    have V5 := Lib.hid (V4.out.below b5)
    have B5 := Lib.hid (B4.out.trans (b5.mono B4.out.size))
    have S5 := Lib.hid (Nat.le_trans S4.out b5.size)
    clear b5 e5 R4 X4 V4 B4
    refine Tc.plan_floats [0, 1, 2, 3, 4, 5, 6, 7, 8, 9, 10, 11, 12, 13, 14] [_, _, _, _, _, _, _, _, _, _, _, _, _, _, _] rfl ?_
    dsimp only [List.getElem_toArray, List.getElem_cons_succ, List.getElem_cons_zero]
    (try simp only [List.set_cons_succ, List.set_cons_zero])
    repeat (first | go_big_quiet_skip | (go_big_quiet_want; go_big_quiet_op; first | go_big_quiet_on | (refine ⟨_, fun _ _ => rfl, ?_⟩; go_big_quiet_on)))
    refine wpQuiet_load_cell rfl 4 (.tmp 13) rfl w1.heap.size 2 rfl _ Tryd.underlying4 rfl (.bool true) (fun W hW => (R5.out.below (show Below w5.heap.size w5 W from hW)).1.cell (i := 2) (by decide)) ?_
    simp only [Act.put, List.setIfInBounds_toArray, List.set_cons_succ, List.set_cons_zero]
    repeat (first | go_big_quiet_skip | (go_big_quiet_want; go_big_quiet_op; first | go_big_quiet_on | (refine ⟨_, fun _ _ => rfl, ?_⟩; go_big_quiet_on)))
    refine wpQuiet_nil ?_
    refine Tc.plan_one 15 rfl (fun K hK => ?_)
    refine wpList_skip rfl ?_
    refine (show wpList _ _ _ [] _ _ from hK _ _ (Below.refl _ _) ?_)
    dsimp only [Act.put]
    simp only [List.setIfInBounds_toArray, List.set_cons_succ, List.set_cons_zero]
    clear hK K
    refine Tc.plan_floats [16, 17, 18, 19, 22, 23] [_, _, _, _, _, _] rfl ?_
    dsimp only [List.getElem_toArray, List.getElem_cons_succ, List.getElem_cons_zero]
    (try simp only [List.set_cons_succ, List.set_cons_zero])
    repeat (first | go_big_quiet_skip | (go_big_quiet_want; go_big_quiet_op; first | go_big_quiet_on | (refine ⟨_, fun _ _ => rfl, ?_⟩; go_big_quiet_on)))
    refine wpQuiet_nil ?_
    refine Tc.plan_one 20 rfl (fun K hK => ?_)
    refine wpList_skip rfl ?_
    refine (show wpList _ _ _ [] _ _ from hK _ _ (Below.refl _ _) ?_)
    dsimp only [Act.put]
    simp only [List.setIfInBounds_toArray, List.set_cons_succ, List.set_cons_zero]
    clear hK K
    refine Tc.plan_floats [21, 24, 25] [_, _, _] rfl ?_
    dsimp only [List.getElem_toArray, List.getElem_cons_succ, List.getElem_cons_zero]
    (try simp only [List.set_cons_succ, List.set_cons_zero])
    repeat (first | go_big_quiet_skip | (go_big_quiet_want; go_big_quiet_op; first | go_big_quiet_on | (refine ⟨_, fun _ _ => rfl, ?_⟩; go_big_quiet_on)))
    refine wpQuiet_nil ?_
    refine Tc.plan_done (l := []) rfl (fun K hK => ?_)
    go_wp2_with (first | ((with_reducible (show wpList _ _ _ (Oper.mk (some 38) _ _ _ _ _ :: _) _ _)); refine wpList_load_rowV rfl 51 (.tmp 5) rfl w3.heap.size rfl 4 51 _ X5.out _ Tryd.underlying51 rfl (by kernel_rfl) ?_) | ((with_reducible (show wpList _ _ _ (Oper.mk none _ _ _ _ _ :: _) _ _)); refine wpList_store_rowV rfl 51 (.tmp 2) (.tmp 37) rfl w.heap.size rfl 4 51 zeroC (zeroC) rfl V5.out (by kernel_rfl) (valC_one _ _ _ _) ?_; intro w9 Z9 O9))
    refine bodyPost_ret (v := .tuple #[.agg (rowF 4 (zeroC)), .int .i64 10]) (by exact results_rowV2 (fn := Tryd.f30) (p := 2) (u := 3) (ty := 51) rfl _ _ w.heap.size 4 51 _ _ rfl Z9.out Tryd.underlying51 rfl (by kernel_rfl)) rfl ?_
    exact DecPost.bad DN.out (B5.out.trans (O9.below (Nat.le_refl _) B5.out.size))
  | some x =>
    obtain ⟨t, rest⟩ := x
    rw [hvf] at VR DF
    have VH := Lib.hid VR
    have LE := Lib.hid (valF_len 16 hvf)
    have TB := Lib.hid (valF_enc 16 _ _ _ hvf)
    clear VR hvf
    go_enter Tryd.func30, Tryd.ntmps30
    go_upto_region 1 with fail
    rw [HW1.out]
    go_upto_region 2 with fail
    rw [HW2.out]
    go_wp2_with fail
    refine VH.out.mono ?_
    rintro e w3 ⟨⟨u, rfl, hu, r3⟩, o3⟩
    obtain ⟨uk, un, us, ua, um, uc, rfl⟩ := hu.agg
    have U3 := Lib.hid hu
    clear hu
    have B3 := Lib.hid (B2.out.trans (o3.below (Nat.le_of_lt S01.out) B2.out.size))
    have V3 := Lib.hid (o3.row (show w.heap.size ≠ w1.heap.size from fun e => by have := S01.out; omega) V2.out)
    have R3 := Lib.hid r3
    have S3 := Lib.hid o3.size
    clear r3 o3 VH R2 V2 B2
    have Zr := Lib.hid (RowV.new w3 51 4 zeroC)
    go_upto_region 3 with ((with_reducible (show wpList _ _ _ (Oper.mk none _ _ _ _ _ :: _) _ _)); refine wpList_store_rowV (o := ⟨none, .store 51 (.tmp 5) (.tmp 10), _, _, _, _⟩) rfl 51 (.tmp 5) (.tmp 10) rfl w3.heap.size rfl 4 51 zeroC (valC uk un us (.slice ua um uc)) rfl Zr.out (by kernel_rfl) (valC_one _ _ _ _) ?_; intro w4 X4 o4)
    have b4 : Below w3.heap.size w3 w4 := ((Below.refl _ _).alloc (Nat.le_refl _) _).trans (o4.below (Nat.le_refl _) (by rw [World.size_alloc]; omega))
    have B4 := Lib.hid (B3.out.trans (b4.mono B3.out.size))
    have R4 := Lib.hid (R3.out.below b4)
    have V4 := Lib.hid (V3.out.below b4)
    have S4 := Lib.hid b4.size
    simp only [Act.put]
    obtain ⟨ps, hps⟩ : ∃ y, l.length - rest.length = y := ⟨_, rfl⟩
    have PS := Lib.hid hps
    rw [hps] at R4 R3
    clear hps
    by_cases hr : rest = []
    · subst hr
      have DN : Hid (decF l = some t) := DF
      have PL : Hid (ps = m) := Lib.hid (by have := PS.out; have := HM.out; simp at *; omega)
      obtain ⟨tf, td, te⟩ := TB.out
      rw [List.append_nil, List.drop_zero] at te
      have CK := Lib.hid (fun v W (h : CodAt W v t) => rccheck_any t v W (by omega) h)
      rw [show chkT t = 0 by unfold chkT; rw [if_pos tf, if_neg (by omega)]] at CK
      have EN : Hid (∀ v W, CodAt W v t → Calls Tryd.prog 55 #[v] W fun e w' => (∃ u, e = .returned u ∧ Owns w' W.heap.size u l) ∧ Below W.heap.size W w') := Lib.hid (fun v W h => by
        have h2 := rencode_any 1000 t v W (by omega) tf h (by rw [← te]; have := HLEN.out; omega)
        unfold REncPost at h2; rwa [← te] at h2)
      obtain ⟨tx, htx⟩ : ∃ y, ByteArray.mk l.toArray = y := ⟨_, rfl⟩
      have HTX := Lib.hid htx
      have HE1 : Hid ((tx.toList == tx.toList) = true) := Lib.hid (by simp)
      have HE2 : Hid ((tx.toList != tx.toList) = false) := Lib.hid (by simp)
      have U4 := Lib.hid (U3.out.at'.later b4)
      have I4 : Hid (Since w3 w4) := Lib.hid b4
      have t0 : ((ps : Int) != (m : Int)) = false := by rw [PL.out]; simp
      have t1 : ((ps : Int) == (m : Int)) = true := by rw [PL.out]; simp
      have t2 : (ps == m) = true := by rw [PL.out]; simp
      clear o4 Zr b4 R3 V3 B3 htx te td tf
      refine Tc.wp_region_plan RlGrow 26 [] (.fl 0 (.fl 1 (.fl 2 (.fl 3 (.fl 4 (.fl 5 (.fl 6 (.fl 7 (.fl 8 (.fl 9 (.fl 10 (.fl 11 (.fl 12 (.fl 13 (.fl 14 (.one 15 (.fl 16 (.fl 17 (.fl 18 (.fl 19 (.fl 22 (.fl 23 (.one 20 (.fl 21 (.fl 24 (.fl 25 .done)))))))))))))))))))))))))) (by kernel_rfl) (by kernel_rfl) ?_
      intro w5 b5 e5
      have b5 : Below w4.heap.size w4 w5 := b5
      have R5 := Lib.hid (R4.out.below b5)
      have X5 := Lib.hid (X4.out.below b5)
      have V5 := Lib.hid (V4.out.below b5)
      have B5 := Lib.hid (B4.out.trans (b5.mono B4.out.size))
      have S5 := Lib.hid (Nat.le_trans S4.out b5.size)
      have U5 := Lib.hid (U4.out.later b5)
      have I5 := Lib.hid (I4.out.below b5)
      clear b5 e5 R4 X4 V4 B4 U4 I4
      refine Tc.plan_floats [0, 1, 2, 3, 4, 5, 6, 7, 8, 9, 10, 11, 12, 13, 14] [_, _, _, _, _, _, _, _, _, _, _, _, _, _, _] rfl ?_
      dsimp only [List.getElem_toArray, List.getElem_cons_succ, List.getElem_cons_zero]
      (try simp only [List.set_cons_succ, List.set_cons_zero])
      repeat (first | go_big_quiet_skip | (go_big_quiet_want; go_big_quiet_op; first | go_big_quiet_on | (refine ⟨_, fun _ _ => rfl, ?_⟩; go_big_quiet_on)))
      refine wpQuiet_load_cell rfl 4 (.tmp 13) rfl w1.heap.size 2 rfl _ Tryd.underlying4 rfl (.bool false) (fun W hW => (R5.out.below (show Below w5.heap.size w5 W from hW)).1.cell (i := 2) (by decide)) ?_
      simp only [Act.put, List.setIfInBounds_toArray, List.set_cons_succ, List.set_cons_zero]
      repeat (first | go_big_quiet_skip | (go_big_quiet_want; go_big_quiet_op; first | go_big_quiet_on | (refine ⟨_, fun _ _ => rfl, ?_⟩; go_big_quiet_on)))
      refine wpQuiet_unguard rfl ?_
      refine wpQuiet_load_cell rfl 3 (.tmp 18) rfl w1.heap.size 1 rfl _ Tryd.underlying3 rfl (.int .i64 (ps : Int)) (fun W hW => (R5.out.below (show Below w5.heap.size w5 W from hW)).1.cell (i := 1) (by decide)) ?_
      simp only [Act.put, List.setIfInBounds_toArray, List.set_cons_succ, List.set_cons_zero]
      repeat (first | go_big_quiet_skip | (go_big_quiet_want; go_big_quiet_op; first | go_big_quiet_on | (refine ⟨_, fun _ _ => rfl, ?_⟩; go_big_quiet_on)))
      refine wpQuiet_unguard rfl ?_
      refine wpQuiet_load_part rfl 51 (.tmp 5) rfl w3.heap.size 0 rfl 4 4 51 (valC uk un us (.slice ua um uc)) (valC uk un us (.slice ua um uc)) (fun W hW => X5.out.below (show Below w5.heap.size w5 W from hW)) (by decide) (fun j _ => by rw [Nat.zero_add]) _ Tryd.underlying51 rfl (by kernel_rfl) ?_
      simp only [Act.put, List.setIfInBounds_toArray, List.set_cons_succ, List.set_cons_zero]
      repeat (first | go_big_quiet_skip | (go_big_quiet_want; go_big_quiet_op; first | go_big_quiet_on | (refine ⟨_, fun _ _ => rfl, ?_⟩; go_big_quiet_on)))
      refine wpQuiet_nil ?_
      refine Tc.plan_one 15 rfl (fun K hK => ?_)
      go_wp2_with fail
      refine (CK.out _ w5 U5.out).mono ?_
      rintro e w6 ⟨rfl, b6⟩
      have X6 := Lib.hid (X5.out.below b6)
      have V6 := Lib.hid (V5.out.below b6)
      have B6 := Lib.hid (B5.out.trans (b6.mono B5.out.size))
      have U6 := Lib.hid (U5.out.later b6)
      have I6 := Lib.hid (I5.out.below b6)
      have S6 := Lib.hid (Nat.le_trans S5.out b6.size)
      go_wp2_with fail
      refine hK _ _ b6 ?_
      clear hK K b6 X5 V5 B5 U5 I5 S5 R5
      refine Tc.plan_floats [16, 17, 18, 19, 22, 23] [_, _, _, _, _, _] rfl ?_
      dsimp only [List.getElem_toArray, List.getElem_cons_succ, List.getElem_cons_zero]
      (try simp only [List.set_cons_succ, List.set_cons_zero])
      repeat (first | go_big_quiet_skip | (go_big_quiet_want; go_big_quiet_op; first | go_big_quiet_on | (refine ⟨_, fun _ _ => rfl, ?_⟩; go_big_quiet_on)))
      refine wpQuiet_unguard rfl ?_
      refine wpQuiet_load_part rfl 51 (.tmp 5) rfl w3.heap.size 0 rfl 4 4 51 (valC uk un us (.slice ua um uc)) (valC uk un us (.slice ua um uc)) (fun W hW => X6.out.below (show Below w6.heap.size w6 W from hW)) (by decide) (fun j _ => by rw [Nat.zero_add]) _ Tryd.underlying51 rfl (by kernel_rfl) ?_
      simp only [Act.put, List.setIfInBounds_toArray, List.set_cons_succ, List.set_cons_zero]
      repeat (first | go_big_quiet_skip | (go_big_quiet_want; go_big_quiet_op; first | go_big_quiet_on | (refine ⟨_, fun _ _ => rfl, ?_⟩; go_big_quiet_on)))
      refine wpQuiet_unguard rfl ?_
      refine wpQuiet_convert rfl 28 9 (.tmp 33) rfl _ (.string tx) rfl (fun W hW => by have h := run_text (HB.out.below (B6.out.trans ((show Below w6.heap.size w6 W from hW).mono B6.out.size))); rwa [HTX.out] at h) ?_
      simp only [Act.put, List.setIfInBounds_toArray, List.set_cons_succ, List.set_cons_zero]
      repeat (first | go_big_quiet_skip | (go_big_quiet_want; go_big_quiet_op; first | go_big_quiet_on | (refine ⟨_, fun _ _ => rfl, ?_⟩; go_big_quiet_on)))
      refine wpQuiet_nil ?_
      refine Tc.plan_one 20 rfl (fun K hK => ?_)
      go_wp2_with fail
      refine (EN.out _ w6 U6.out).mono ?_
      rintro e w7 ⟨⟨u7, rfl, o7⟩, b7⟩
      have X7 := Lib.hid (X6.out.below b7)
      have V7 := Lib.hid (V6.out.below b7)
      have B7 := Lib.hid (B6.out.trans (b7.mono B6.out.size))
      have U7 := Lib.hid (U6.out.later b7)
      have I7 := Lib.hid (I6.out.below b7)
      have S7 := Lib.hid (Nat.le_trans S6.out b7.size)
      have Y7 := Lib.hid (o7.bytesAt (by have := HLEN.out; omega))
      obtain ⟨ya, yc, rfl⟩ := o7.slice
      go_wp2_with fail
      refine hK _ _ b7 ?_
      clear hK K b7 o7 X6 V6 B6 U6 I6 S6
      refine Tc.plan_floats [21, 24, 25] [_, _, _] rfl ?_
      dsimp only [List.getElem_toArray, List.getElem_cons_succ, List.getElem_cons_zero]
      (try simp only [List.set_cons_succ, List.set_cons_zero])
      repeat (first | go_big_quiet_skip | (go_big_quiet_want; go_big_quiet_op; first | go_big_quiet_on | (refine ⟨_, fun _ _ => rfl, ?_⟩; go_big_quiet_on)))
      refine wpQuiet_unguard rfl ?_
      refine wpQuiet_convert rfl 28 9 (.tmp 31) rfl _ (.string tx) rfl (fun W hW => by have h := run_text (Y7.out.below (show Below w7.heap.size w7 W from hW)); rwa [HTX.out] at h) ?_
      simp only [Act.put, List.setIfInBounds_toArray, List.set_cons_succ, List.set_cons_zero]
      have g0 := HE1.out
      have g1 := HE2.out
      repeat (first | go_big_quiet_skip | (go_big_quiet_want; go_big_quiet_op; first | go_big_quiet_on | (refine ⟨_, fun _ _ => rfl, ?_⟩; go_big_quiet_on)))
      refine wpQuiet_nil ?_
      clear g0 g1
      refine Tc.plan_done (l := []) rfl (fun K hK => ?_)
      go_wp2_with (first | ((with_reducible (show wpList _ _ _ (Oper.mk (some 38) _ _ _ _ _ :: _) _ _)); refine wpList_load_rowV rfl 51 (.tmp 5) rfl w3.heap.size rfl 4 51 _ X7.out _ Tryd.underlying51 rfl (by kernel_rfl) ?_) | ((with_reducible (show wpList _ _ _ (Oper.mk none _ _ _ _ _ :: _) _ _)); refine wpList_store_rowV rfl 51 (.tmp 2) (.tmp 38) rfl w.heap.size rfl 4 51 zeroC (valC uk un us (.slice ua um uc)) rfl V7.out (by kernel_rfl) (valC_one _ _ _ _) ?_; intro w9 Z9 O9))
      refine bodyPost_ret (v := .tuple #[.agg (rowF 4 (valC uk un us (.slice ua um uc))), .int .i64 0]) (by exact results_rowV2 (fn := Tryd.f30) (p := 2) (u := 3) (ty := 51) rfl _ _ w.heap.size 4 51 _ _ rfl Z9.out Tryd.underlying51 rfl (by kernel_rfl)) rfl ?_
      have UZ := U3.out.keep (S' := fun b => w.heap.size ≤ b) (w' := w9) (Nat.le_trans S7.out O9.size) (fun b hb hS => ⟨by have := S01.out; have := SZ2.out; omega, (O9.block b (Nat.lt_of_lt_of_le hb S7.out) (fun e => by have := S01.out; have := SZ2.out; omega)).trans (I7.out.b.block b hb)⟩)
      exact DecPost.good DN.out UZ (B7.out.trans (O9.below (Nat.le_refl _) B7.out.size))
    · have DN : Hid (decF l = none) := Lib.hid (by rw [DF.out]; cases rest with | nil => exact absurd rfl hr | cons a b => rfl)
      have PL : Hid (ps ≠ m) := Lib.hid (by have := PS.out; have := HM.out; have h2 := LE.out; rw [List.drop_zero] at h2; have : 0 < rest.length := List.length_pos_iff.2 hr; omega)
      have t0 : ((ps : Int) != (m : Int)) = true := by rw [bne_iff_ne]; have := PL.out; omega
      have t1 : ((ps : Int) == (m : Int)) = false := by rw [beq_eq_false_iff_ne]; have := PL.out; omega
      have t2 : (ps == m) = false := by rw [beq_eq_false_iff_ne]; exact PL.out
      clear o4 Zr b4 R3 V3 B3 hr U3
      refine Tc.wp_region_plan RlGrow 26 [] (.fl 0 (.fl 1 (.fl 2 (.fl 3 (.fl 4 (.fl 5 (.fl 6 (.fl 7 (.fl 8 (.fl 9 (.fl 10 (.fl 11 (.fl 12 (.fl 13 (.fl 14 (.one 15 (.fl 16 (.fl 17 (.fl 18 (.fl 19 (.fl 22 (.fl 23 (.one 20 (.fl 21 (.fl 24 (.fl 25 .done)))))))))))))))))))))))))) (by kernel_rfl) (by kernel_rfl) ?_
      intro w5 b5 e5
      have b5 : Below w4.heap.size w4 w5 := b5
      have R5 := Lib.hid (R4.out.below b5)
      have X5 := Lib.hid (X4.out.below b5)
      have V5 := Lib.hid (V4.out.below b5)
      have B5 := Lib.hid (B4.out.trans (b5.mono B4.out.size))
      have S5 := Lib.hid (Nat.le_trans S4.out b5.size)
      clear b5 e5 R4 X4 V4 B4
      refine Tc.plan_floats [0, 1, 2, 3, 4, 5, 6, 7, 8, 9, 10, 11, 12, 13, 14] [_, _, _, _, _, _, _, _, _, _, _, _, _, _, _] rfl ?_
      dsimp only [List.getElem_toArray, List.getElem_cons_succ, List.getElem_cons_zero]
      (try simp only [List.set_cons_succ, List.set_cons_zero])
      repeat (first | go_big_quiet_skip | (go_big_quiet_want; go_big_quiet_op; first | go_big_quiet_on | (refine ⟨_, fun _ _ => rfl, ?_⟩; go_big_quiet_on)))
      refine wpQuiet_load_cell rfl 4 (.tmp 13) rfl w1.heap.size 2 rfl _ Tryd.underlying4 rfl (.bool false) (fun W hW => (R5.out.below (show Below w5.heap.size w5 W from hW)).1.cell (i := 2) (by decide)) ?_
      simp only [Act.put, List.setIfInBounds_toArray, List.set_cons_succ, List.set_cons_zero]
      repeat (first | go_big_quiet_skip | (go_big_quiet_want; go_big_quiet_op; first | go_big_quiet_on | (refine ⟨_, fun _ _ => rfl, ?_⟩; go_big_quiet_on)))
      refine wpQuiet_unguard rfl ?_
      refine wpQuiet_load_cell rfl 3 (.tmp 18) rfl w1.heap.size 1 rfl _ Tryd.underlying3 rfl (.int .i64 (ps : Int)) (fun W hW => (R5.out.below (show Below w5.heap.size w5 W from hW)).1.cell (i := 1) (by decide)) ?_
      simp only [Act.put, List.setIfInBounds_toArray, List.set_cons_succ, List.set_cons_zero]
      repeat (first | go_big_quiet_skip | (go_big_quiet_want; go_big_quiet_op; first | go_big_quiet_on | (refine ⟨_, fun _ _ => rfl, ?_⟩; go_big_quiet_on)))
      refine wpQuiet_nil ?_
      refine Tc.plan_one 15 rfl (fun K hK => ?_)
      refine wpList_skip rfl ?_
      refine (show wpList _ _ _ [] _ _ from hK _ _ (Below.refl _ _) ?_)
      dsimp only [Act.put]
      simp only [List.setIfInBounds_toArray, List.set_cons_succ, List.set_cons_zero]
      clear hK K
      refine Tc.plan_floats [16, 17, 18, 19, 22, 23] [_, _, _, _, _, _] rfl ?_
      dsimp only [List.getElem_toArray, List.getElem_cons_succ, List.getElem_cons_zero]
      (try simp only [List.set_cons_succ, List.set_cons_zero])
      repeat (first | go_big_quiet_skip | (go_big_quiet_want; go_big_quiet_op; first | go_big_quiet_on | (refine ⟨_, fun _ _ => rfl, ?_⟩; go_big_quiet_on)))
      refine wpQuiet_nil ?_
      refine Tc.plan_one 20 rfl (fun K hK => ?_)
      refine wpList_skip rfl ?_
      refine (show wpList _ _ _ [] _ _ from hK _ _ (Below.refl _ _) ?_)
      dsimp only [Act.put]
      simp only [List.setIfInBounds_toArray, List.set_cons_succ, List.set_cons_zero]
      clear hK K
      refine Tc.plan_floats [21, 24, 25] [_, _, _] rfl ?_
      dsimp only [List.getElem_toArray, List.getElem_cons_succ, List.getElem_cons_zero]
      (try simp only [List.set_cons_succ, List.set_cons_zero])
      repeat (first | go_big_quiet_skip | (go_big_quiet_want; go_big_quiet_op; first | go_big_quiet_on | (refine ⟨_, fun _ _ => rfl, ?_⟩; go_big_quiet_on)))
      refine wpQuiet_nil ?_
      refine Tc.plan_done (l := []) rfl (fun K hK => ?_)
      go_wp2_with (first | ((with_reducible (show wpList _ _ _ (Oper.mk (some 38) _ _ _ _ _ :: _) _ _)); refine wpList_load_rowV rfl 51 (.tmp 5) rfl w3.heap.size rfl 4 51 _ X5.out _ Tryd.underlying51 rfl (by kernel_rfl) ?_) | ((with_reducible (show wpList _ _ _ (Oper.mk none _ _ _ _ _ :: _) _ _)); refine wpList_store_rowV rfl 51 (.tmp 2) (.tmp 37) rfl w.heap.size rfl 4 51 zeroC (zeroC) rfl V5.out (by kernel_rfl) (valC_one _ _ _ _) ?_; intro w9 Z9 O9))
      refine bodyPost_ret (v := .tuple #[.agg (rowF 4 (zeroC)), .int .i64 10]) (by exact results_rowV2 (fn := Tryd.f30) (p := 2) (u := 3) (ty := 51) rfl _ _ w.heap.size 4 51 _ _ rfl Z9.out Tryd.underlying51 rfl (by kernel_rfl)) rfl ?_
      exact DecPost.bad DN.out (B5.out.trans (O9.below (Nat.le_refl _) B5.out.size))
end Go.Proofs.YtbjbgneejdjniaaDoor

namespace Go.Proofs.YtbjbgneejdjniaaDoor
open Go.RowKit Cod
theorem CodAt.ack2 {w : World} {base : Nat} {v : Value} {a : Ak} (ha : a.wf) {tx : ByteArray} (ht : ByteArray.mk a.ch.toArray = tx)
    (h : OwnT 51 4 valE w base v ([valC 1 a.f ⟨#[]⟩ (.slice none 0 0), valC 1 a.d ⟨#[]⟩ (.slice none 0 0), valC 1 a.s ⟨#[]⟩ (.slice none 0 0), valC 1 a.u ⟨#[]⟩ (.slice none 0 0), valC 2 0 tx (.slice none 0 0)] ++ [valC 1 a.r ⟨#[]⟩ (.slice none 0 0), valC 1 a.g ⟨#[]⟩ (.slice none 0 0)])) :
    CodAt w (.agg #[.int .i64 3, .int .i64 0, .string ByteArray.empty, v]) (treeA a [a.r, a.g]) := by
  subst ht
  refine CodAt.lst (ts := fldA a [a.r, a.g]) h (by simp) rfl (fun i hi => ?_)
  have h5 : i < 7 := hi
  have hh : i = 0 ∨ i = 1 ∨ i = 2 ∨ i = 3 ∨ i = 4 ∨ i = 5 ∨ i = 6 := by omega
  rcases hh with rfl | rfl | rfl | rfl | rfl | rfl | rfl
  · exact (leafS (fun _ => True) w ha.f).at'
  · exact (leafS (fun _ => True) w ha.d).at'
  · exact (leafS (fun _ => True) w ha.s).at'
  · exact (leafS (fun _ => True) w ha.u).at'
  · exact (leafT (fun _ => True) w (l := a.ch) (by rw [ha.ch]; decide)).at'
  · exact (leafS (fun _ => True) w ha.r).at'
  · exact (leafS (fun _ => True) w ha.g).at'
/-- a leaf of a value: kind, number, text -/
structure Lf where
  k : Int
  n : Int
  s : ByteArray
def lfC (x : Lf) : Nat → Value := valC x.k x.n x.s (.slice none 0 0)
theorem lfC_one (x : Lf) (j : Nat) : (lfC x j).oneCell' = true := by
  unfold lfC
  match j with
  | 0 => rfl
  | 1 => rfl
  | 2 => rfl
  | (n + 3) => rfl
theorem more_bd {a : Ak} (ha : a.wf) : ∀ z ∈ [a.r, a.g], i64B z := fun z hz => by
  simp only [List.mem_cons, List.not_mem_nil, or_false] at hz
  rcases hz with rfl | rfl
  · exact ha.r
  · exact ha.g
theorem renc_ack2 (a : Ak) (ha : a.wf) (v : Value) (w : World) (h : CodAt w v (treeA a [a.r, a.g])) :
    Calls Tryd.prog 49 #[v] w fun e w' => (∃ u, e = .returned (.tuple #[u, .int .i64 0]) ∧ Owns w' w.heap.size u (encA a [a.r, a.g])) ∧ Below w.heap.size w w' := by
  have CT := chkT_lst (fldA_form a [a.r, a.g]) (fldA_depth a [a.r, a.g])
  have E := rcencode_any (lstT (fldA a [a.r, a.g])) v w CT.2 h (Nat.le_trans (encA_len a ha [a.r, a.g] (more_bd ha) (by simp)) (by decide))
  refine E.mono fun e w' h2 => ?_
  unfold EncPost at h2
  rw [if_pos CT.1] at h2
  exact h2
set_option maxRecDepth 100000 in
set_option maxHeartbeats 8000000 in
theorem rencoding_any (a : Ak) (ha : a.wf) (w : World) :
    Calls Tryd.prog 27 #[.agg (rowF 38 (akC a))] w fun e w' => (∃ u, e = .returned u ∧ Owns w' w.heap.size u (encA a [a.r, a.g])) ∧ Below w.heap.size w w' := by
  have WA := Lib.hid ha
  clear ha
  go_enter Tryd.func27, Tryd.ntmps27
  have B0 := Lib.hid (Below.refl w.heap.size w)
  go_upto_region 1 with fail
  obtain ⟨w1, hw1⟩ : ∃ y, w.alloc (.cells (rowF 38 (akC a)) 27) = y := ⟨_, rfl⟩
  have b1 : Below w.heap.size w w1 := by rw [← hw1]; exact (Below.refl _ _).alloc (Nat.le_refl _) _
  have A1 : Hid (RowV w1 w.heap.size 27 38 (akC a)) := Lib.hid (by rw [← hw1]; exact RowV.new w _ 38 (akC a))
  have z1 : w.heap.size + 1 = w1.heap.size := by rw [← hw1]; exact (Array.size_push _).symm
  rw [hw1]
  (try rw [z1])
  have B1 := Lib.hid (B0.out.trans (b1.mono B0.out.size))
  clear b1 hw1 z1 B0
  have S01 := Lib.hid A1.out.lt
  go_wp2_with (first | ((with_reducible (show wpList _ _ _ (Oper.mk (some 6) _ _ _ _ _ :: _) _ _)); refine wpList_load_rowV rfl 27 (.tmp 1) rfl w.heap.size rfl 38 27 _ A1.out _ Tryd.underlying27 rfl (by kernel_rfl) ?_))
  refine (rlist33_any a WA.out _).mono ?_
  rintro e w2 ⟨⟨u, tx, rfl, htx, own⟩, b2⟩
  have HTX := Lib.hid htx
  have P2 := Lib.hid own
  have A2 := Lib.hid (A1.out.below b2)
  have B2 := Lib.hid (B1.out.trans (b2.mono B1.out.size))
  have PL := Lib.hid (fun k hk => (own.lt k hk).2)
  have S12 := Lib.hid b2.size
  obtain ⟨ua, uc, rfl⟩ := own.slice
  clear own htx b2 B1 A1
  have Zr := Lib.hid (RowV.new w2 51 4 (zeroC))
  go_upto_region 2 with ((with_reducible (show wpList _ _ _ (Oper.mk none _ _ _ _ _ :: _) _ _)); refine wpList_store_rowV (o := ⟨none, .store 51 (.tmp 3) (.tmp 7), _, _, _, _⟩) rfl 51 (.tmp 3) (.tmp 7) rfl w2.heap.size rfl 4 51 _ (valC 3 0 ⟨#[]⟩ (.slice ua 5 uc)) rfl Zr.out (by kernel_rfl) (valC_one _ _ _ _) ?_; intro w3 X3 o3)
  have b3 : Below w2.heap.size w2 w3 := ((Below.refl _ _).alloc (Nat.le_refl _) _).trans (o3.out.below (Nat.le_refl _) (by rw [World.size_alloc]; omega))
  have B3 := Lib.hid (B2.out.trans (b3.mono B2.out.size))
  have A3 := Lib.hid (A2.out.below b3)
  have P3 := Lib.hid (P2.out.below b3)
  clear b3 o3 Zr B2 A2 P2
  simp only [Act.put]
  refine Tc.wp_region_plan (Tc.Rl.stay (fun k => k = w.heap.size ∨ k = w2.heap.size)) 12 [] (.fl 0 (.fl 1 (.fl 2 (.fl 3 (.fl 4 (.fl 6 (.fl 7 (.fl 8 (.one 5 (.one 9 (.one 10 (.one 11 .done)))))))))))) (by kernel_rfl) (by kernel_rfl) ?_
  intro w4 b4 e4
  have b4 : Below w3.heap.size w3 w4 := b4
  have A4 := Lib.hid (A3.out.below b4)
  have X4 := Lib.hid (X3.out.below b4)
  have P4 := Lib.hid (P3.out.below b4)
  have B4 := Lib.hid (B3.out.trans (b4.mono B3.out.size))
  clear b4 e4 A3 X3 P3 B3
  refine Tc.plan_floats [0, 1, 2, 3, 4, 6, 7, 8] [_, _, _, _, _, _, _, _] rfl ?_
  dsimp only [List.getElem_toArray, List.getElem_cons_succ, List.getElem_cons_zero]
  repeat (first | go_big_quiet_skip | (go_big_quiet_want; go_big_quiet_op; first | go_big_quiet_on | (refine ⟨_, fun _ _ => rfl, ?_⟩; go_big_quiet_on)))
  refine wpQuiet_load_cell rfl 49 (.tmp 8) rfl w2.heap.size 3 rfl _ Tryd.underlying49 rfl (.slice ua 5 uc) (fun W hW => (stay_row (S := fun k => k = w.heap.size ∨ k = w2.heap.size) X4.out (.inr rfl) hW).cell (i := 3) (by decide)) ?_
  simp only [Act.put, List.setIfInBounds_toArray, List.set_cons_succ, List.set_cons_zero]
  repeat (first | go_big_quiet_skip | (go_big_quiet_want; go_big_quiet_op; first | go_big_quiet_on | (refine ⟨_, fun _ _ => rfl, ?_⟩; go_big_quiet_on)))
  refine wpQuiet_load_cell rfl 3 (.tmp 11) rfl w.heap.size 36 rfl _ Tryd.underlying3 rfl (.int .i64 a.r) (fun W hW => ak_cell (stay_row (S := fun k => k = w.heap.size ∨ k = w2.heap.size) A4.out (.inl rfl) hW) (i := 36) (by decide) (by decide)) ?_
  simp only [Act.put, List.setIfInBounds_toArray, List.set_cons_succ, List.set_cons_zero]
  repeat (first | go_big_quiet_skip | (go_big_quiet_want; go_big_quiet_op; first | go_big_quiet_on | (refine ⟨_, fun _ _ => rfl, ?_⟩; go_big_quiet_on)))
  refine wpQuiet_load_cell rfl 3 (.tmp 15) rfl w.heap.size 37 rfl _ Tryd.underlying3 rfl (.int .i64 a.g) (fun W hW => ak_cell (stay_row (S := fun k => k = w.heap.size ∨ k = w2.heap.size) A4.out (.inl rfl) hW) (i := 37) (by decide) (by decide)) ?_
  simp only [Act.put, List.setIfInBounds_toArray, List.set_cons_succ, List.set_cons_zero]
  repeat (first | go_big_quiet_skip | (go_big_quiet_want; go_big_quiet_op; first | go_big_quiet_on | (refine ⟨_, fun _ _ => rfl, ?_⟩; go_big_quiet_on)))
  refine wpQuiet_nil ?_
  refine Tc.plan_one 5 rfl (fun K hK => ?_)
  go_wp2_with fail
  refine (rint_any a.r _).mono ?_
  rintro e w5 ⟨rfl, b5⟩
  go_wp2_with fail
  refine hK _ _ (stay_below b5 (fun k hk => by rcases hk with rfl | rfl; exact A4.out.lt; exact X4.out.lt)) ?_
  have A5 := Lib.hid (A4.out.below b5)
  have X5 := Lib.hid (X4.out.below b5)
  have P5 := Lib.hid (P4.out.below b5)
  have B5 := Lib.hid (B4.out.trans (b5.mono B4.out.size))
  clear hK K b5 A4 X4 P4 B4
  refine Tc.plan_one 9 rfl (fun K hK => ?_)
  go_wp2_with fail
  refine (rint_any a.g _).mono ?_
  rintro e w6 ⟨rfl, b6⟩
  go_wp2_with fail
  refine hK _ _ (stay_below b6 (fun k hk => by rcases hk with rfl | rfl; exact A5.out.lt; exact X5.out.lt)) ?_
  have A6 := Lib.hid (A5.out.below b6)
  have X6 := Lib.hid (X5.out.below b6)
  have P6 := Lib.hid (P5.out.below b6)
  have B6 := Lib.hid (B5.out.trans (b6.mono B5.out.size))
  clear hK K b6 A5 X5 P5 B5
  refine Tc.plan_one 10 rfl (fun K hK => ?_)
  refine wpList_buildT (s := 4) (c := valE) rfl 49 2 _ rfl zeroC [valC 1 a.r ⟨#[]⟩ (.slice none 0 0), valC 1 a.g ⟨#[]⟩ (.slice none 0 0)] rfl (by decide) (by decide) (by decide) (by decide) rfl Tryd.underlying49 (by kernel_rfl) (by kernel_rfl) ?_
  intro w7 R7 b7 L7
  have A7 := Lib.hid (A6.out.below b7.out)
  have X7 := Lib.hid (X6.out.below b7.out)
  have P7 := Lib.hid (P6.out.below b7.out)
  have B7 := Lib.hid (B6.out.trans (b7.out.mono B6.out.size))
  refine (show wpList _ _ _ [] _ _ from hK _ _ (stay_below b7.out (fun k hk => by rcases hk with rfl | rfl; exact A6.out.lt; exact X6.out.lt)) ?_)
  dsimp only [Act.put]
  (try simp only [List.setIfInBounds_toArray, List.set_cons_succ, List.set_cons_zero])
  clear hK K b7 L7 A6 X6 P6 B6
  refine Tc.plan_one 11 rfl (fun K hK => ?_)
  have P7L : OwnT 51 4 lfC w7 w1.heap.size (.slice ua 5 uc) [⟨1, a.f, ⟨#[]⟩⟩, ⟨1, a.d, ⟨#[]⟩⟩, ⟨1, a.s, ⟨#[]⟩⟩, ⟨1, a.u, ⟨#[]⟩⟩, ⟨2, 0, tx⟩] := P7.out
  have R7L : OwnT 51 4 lfC w7 w6.heap.size (.slice (some ⟨w6.heap.size, 0, none⟩) 2 2) [⟨1, a.r, ⟨#[]⟩⟩, ⟨1, a.g, ⟨#[]⟩⟩] := R7.out
  have P7H := Lib.hid P7L
  have R7H := Lib.hid R7L
  have S27 := Lib.hid X7.out.lt
  clear P7L R7L P7 R7
  refine wpList_app_S rfl (.tmp 9) (.tmp 18) info_val3 Tryd.underlying49 rfl (by decide) (by decide) lfC_one ⟨0, 0, ByteArray.empty⟩ rfl w1.heap.size (.slice ua 5 uc) [⟨1, a.f, ⟨#[]⟩⟩, ⟨1, a.d, ⟨#[]⟩⟩, ⟨1, a.s, ⟨#[]⟩⟩, ⟨1, a.u, ⟨#[]⟩⟩, ⟨2, 0, tx⟩] rfl P7H.out (.slice (some ⟨w6.heap.size, 0, none⟩) 2 2) [⟨1, a.r, ⟨#[]⟩⟩, ⟨1, a.g, ⟨#[]⟩⟩] rfl (R7H.out.at' ⟨0, 0, ByteArray.empty⟩ (by decide) (by decide) (by simp)) (by simp) (Nat.le_trans S12.out (Nat.le_of_lt S27.out)) ?_
  intro v8 w8 P8 s8
  have NA : (Value.slice ua 5 uc).ownBlock ≠ some w.heap.size := fun e => by have := P7H.out.ge _ e; have := S01.out; omega
  have NX : (Value.slice ua 5 uc).ownBlock ≠ some w2.heap.size := fun e => by have := PL.out _ e; omega
  have X8 := Lib.hid (s8.out.row X7.out NX)
  have B8 := Lib.hid (B7.out.trans (below_app s8.out B7.out.size (fun k hk => by have := P7H.out.ge k hk; have := S01.out; omega)))
  have NX8 := Lib.hid (s8.out.ne X7.out.lt NX)
  obtain ⟨a8, c8, rfl⟩ := P8.out.slice
  refine (show wpList _ _ _ [] _ _ from hK _ _ (stay_app s8.out (fun k hk => by rcases hk with rfl | rfl; exact ⟨A7.out.lt, NA⟩; exact ⟨X7.out.lt, NX⟩)) ?_)
  dsimp only [Act.put]
  (try simp only [List.setIfInBounds_toArray, List.set_cons_succ, List.set_cons_zero])
  clear hK K s8 NA NX A7 X7 P7H R7H B7
  refine Tc.plan_done (l := [_, _]) rfl (fun K hK => ?_)
  have x3 : w8.cell? ⟨w2.heap.size, 3, none⟩ = some (.slice ua 5 uc) := X8.out.cell (i := 3) (by decide)
  have f3 : w8.frozen? ⟨w2.heap.size, 3, none⟩ = false := X8.out.frozen 3
  go_upto_region 3 with fail
  clear x3 f3
  have o9 := (OnlyB.refl w2.heap.size w8).setCell (p := ⟨w2.heap.size, 3, none⟩) (.inl rfl) (.slice a8 7 c8)
  have X9p := V_set (g := valC 3 0 ⟨#[]⟩ (.slice a8 7 c8)) X8.out 3 (.slice a8 7 c8) (by intro i hi; match i, hi with | 0, _ => rfl | 1, _ => rfl | 2, _ => rfl | 3, _ => rfl)
  have P9p := P8.out.only o9 (fun b hb e => by subst e; exact NX8.out hb)
  have B9p := B8.out.trans (o9.below (Nat.le_trans (Nat.le_of_lt S01.out) S12.out) B8.out.size)
  obtain ⟨w9, hw9⟩ : ∃ y, w8.setCell ⟨w2.heap.size, 3, none⟩ (.slice a8 7 c8) = y := ⟨_, rfl⟩
  rw [hw9] at o9 X9p P9p B9p ⊢
  have X9 := Lib.hid X9p
  have B9 := Lib.hid B9p
  have C9 := Lib.hid (CodAt.ack2 WA.out HTX.out P9p)
  clear o9 X9p P9p B9p hw9 X8 P8 B8 NX8
  go_wp2_with (first | ((with_reducible (show wpList _ _ _ (Oper.mk (some 22) _ _ _ _ _ :: _) _ _)); refine wpList_load_rowV rfl 51 (.tmp 3) rfl w2.heap.size rfl 4 51 _ X9.out _ Tryd.underlying51 rfl (by kernel_rfl) ?_))
  refine (renc_ack2 a WA.out _ w9 C9.out).mono ?_
  rintro e w10 ⟨⟨v, rfl, o10⟩, b10⟩
  have O10 := Lib.hid (o10.lower B9.out.size)
  have B10 := Lib.hid (B9.out.trans (b10.mono B9.out.size))
  clear o10 b10
  go_wp2_with fail
  go_ret
  exact ⟨⟨_, rfl, O10.out⟩, B10.out⟩
set_option maxRecDepth 100000 in
set_option maxHeartbeats 4000000 in
theorem rencode33_any (a : Ak) (ha : a.wf) (w : World) :
    Calls Tryd.prog 10 #[.agg (rowF 38 (akC a))] w (AEncPost a w) := by
  have F := Lib.hid (fun W => r33formed_any a.f a.d a.s a.u W)
  have L := Lib.hid (fun W => rencoding_any a ha W)
  obtain ⟨ok, hok⟩ : ∃ y, okA a = y := ⟨_, rfl⟩
  have EP : Hid (AEncPost a w = fun e w' => (if ok then ∃ u, e = .returned (.tuple #[u, .int .i64 0]) ∧ Owns w' w.heap.size u (encA a [a.r, a.g]) else e = .returned (.tuple #[.slice none 0 0, .int .i64 330])) ∧ Below w.heap.size w w') := Lib.hid (by
    funext e w'; unfold AEncPost; rw [hok])
  rw [show okA ⟨a.f, a.d, a.s, a.u, z32, 0, 0⟩ = okA a from rfl, hok] at F
  clear hok
  cases ok
  · have EP2 : Hid (AEncPost a w = fun e w' => e = .returned (.tuple #[.slice none 0 0, .int .i64 330]) ∧ Below w.heap.size w w') := EP
    rw [EP2.out]
    clear EP EP2
    go_enter Tryd.func10, Tryd.ntmps10
    have B0 := Lib.hid (Below.refl w.heap.size w)
    go_upto_region 1 with fail
    obtain ⟨w1, hw1⟩ : ∃ y, w.alloc (.cells (rowF 38 (akC a)) 27) = y := ⟨_, rfl⟩
    have b1 : Below w.heap.size w w1 := by rw [← hw1]; exact (Below.refl _ _).alloc (Nat.le_refl _) _
    have A1 : Hid (RowV w1 w.heap.size 27 38 (akC a)) := Lib.hid (by rw [← hw1]; exact RowV.new w _ 38 (akC a))
    have z1 : w.heap.size + 1 = w1.heap.size := by rw [← hw1]; exact (Array.size_push _).symm
    rw [hw1]
    (try rw [z1])
    have B1 := Lib.hid (B0.out.trans (b1.mono B0.out.size))
    clear b1 hw1 z1 B0
    have x0 : w1.cell? ⟨w.heap.size, 0, none⟩ = some (Value.int .i64 a.f) := ak_cell A1.out (i := 0) (by decide) (by decide)
    have x1 : w1.cell? ⟨w.heap.size, 1, none⟩ = some (Value.int .i64 a.d) := ak_cell A1.out (i := 1) (by decide) (by decide)
    have x2 : w1.cell? ⟨w.heap.size, 2, none⟩ = some (Value.int .i64 a.s) := ak_cell A1.out (i := 2) (by decide) (by decide)
    have x3 : w1.cell? ⟨w.heap.size, 3, none⟩ = some (Value.int .i64 a.u) := ak_cell A1.out (i := 3) (by decide) (by decide)
    go_wp2_with fail
    refine (F.out _).mono ?_
    rintro e w2 ⟨rfl, b2⟩
    have B2 := Lib.hid (B1.out.trans (b2.mono B1.out.size))
    have A2 := Lib.hid (A1.out.below b2)
    clear b2 B1 A1
    go_wp2_with fail
    go_ret2
    exact ⟨rfl, B2.out⟩
  · have EP2 : Hid (AEncPost a w = fun e w' => (∃ u, e = .returned (.tuple #[u, .int .i64 0]) ∧ Owns w' w.heap.size u (encA a [a.r, a.g])) ∧ Below w.heap.size w w') := EP
    rw [EP2.out]
    clear EP EP2
    go_enter Tryd.func10, Tryd.ntmps10
    have B0 := Lib.hid (Below.refl w.heap.size w)
    go_upto_region 1 with fail
    obtain ⟨w1, hw1⟩ : ∃ y, w.alloc (.cells (rowF 38 (akC a)) 27) = y := ⟨_, rfl⟩
    have b1 : Below w.heap.size w w1 := by rw [← hw1]; exact (Below.refl _ _).alloc (Nat.le_refl _) _
    have A1 : Hid (RowV w1 w.heap.size 27 38 (akC a)) := Lib.hid (by rw [← hw1]; exact RowV.new w _ 38 (akC a))
    have z1 : w.heap.size + 1 = w1.heap.size := by rw [← hw1]; exact (Array.size_push _).symm
    rw [hw1]
    (try rw [z1])
    have B1 := Lib.hid (B0.out.trans (b1.mono B0.out.size))
    clear b1 hw1 z1 B0
    have x0 : w1.cell? ⟨w.heap.size, 0, none⟩ = some (Value.int .i64 a.f) := ak_cell A1.out (i := 0) (by decide) (by decide)
    have x1 : w1.cell? ⟨w.heap.size, 1, none⟩ = some (Value.int .i64 a.d) := ak_cell A1.out (i := 1) (by decide) (by decide)
    have x2 : w1.cell? ⟨w.heap.size, 2, none⟩ = some (Value.int .i64 a.s) := ak_cell A1.out (i := 2) (by decide) (by decide)
    have x3 : w1.cell? ⟨w.heap.size, 3, none⟩ = some (Value.int .i64 a.u) := ak_cell A1.out (i := 3) (by decide) (by decide)
    go_wp2_with fail
    refine (F.out _).mono ?_
    rintro e w2 ⟨rfl, b2⟩
    have B2 := Lib.hid (B1.out.trans (b2.mono B1.out.size))
    have A2 := Lib.hid (A1.out.below b2)
    clear b2 B1 A1
    clear x0 x1 x2 x3
    go_wp2_with (first | ((with_reducible (show wpList _ _ _ (Oper.mk (some 14) _ _ _ _ _ :: _) _ _)); refine wpList_load_rowV rfl 27 (.tmp 1) rfl w.heap.size rfl 38 27 _ A2.out _ Tryd.underlying27 rfl (by kernel_rfl) ?_))
    refine (L.out _).mono ?_
    rintro e w4 ⟨⟨u, rfl, o4⟩, b4⟩
    have O4 := Lib.hid (o4.lower B2.out.size)
    have B4 := Lib.hid (B2.out.trans (b4.mono B2.out.size))
    clear o4 b4
    go_wp2_with fail
    go_ret2
    exact ⟨⟨u, rfl, O4.out⟩, B4.out⟩
end Go.Proofs.YtbjbgneejdjniaaDoor

namespace Go.Proofs.YtbjbgneejdjniaaDoor
open Go.RowKit Cod
theorem rstr_at (s : ByteArray) (j : Nat) (h : j < s.size) (W : World) : (Instr.index 9 (.string s) (.int .i64 (j : Int))).run Tryd.prog W = .ok (vB (s.data.toList.getD j 0)) W := by
  rw [run_index_string (P := Tryd.prog) W 9 s .i64 (j : Int) Tryd.underlying9, dif_pos (by omega)]
  have e : s.data.toList.getD j 0 = s[j]'h := by
    rw [List.getD_eq_getElem?_getD, List.getElem?_eq_getElem (by rw [Array.length_toList]; exact h)]
    rfl
  rw [e]
  rfl
theorem chP_take (l : List UInt8) (q : Nat) (h : Nat.min l.length 32 ≤ q) : chP (l.take q) = chP l := by
  have hm1 : Nat.min l.length 32 = min l.length 32 := rfl
  unfold chP
  refine List.map_congr_left (fun i hi => ?_)
  have hi := List.mem_range.1 hi
  simp only [List.getD_eq_getElem?_getD, List.getElem?_take]
  by_cases h1 : i < q
  · rw [if_pos h1]
  · rw [if_neg h1, List.getElem?_eq_none (by omega)]
theorem chP_step (l : List UInt8) (j : Nat) (h : j < l.length) (i : Nat) (hi : i < 32) : (chP (l.take (j + 1))).getD i 0 = if i = j then l.getD j 0 else (chP (l.take j)).getD i 0 := by
  rw [chP_get _ hi, chP_get _ hi]
  simp only [List.getD_eq_getElem?_getD, List.getElem?_take]
  by_cases h1 : i = j
  · subst h1; simp
  · rw [if_neg h1]
    by_cases h2 : i < j
    · rw [if_pos h2, if_pos (by omega)]
    · rw [if_neg h2, if_neg (by omega)]
theorem chain_step {W : World} {B : Nat} {T : TypeId} {a : Ak} {l : List UInt8} {j : Nat} {y : UInt8} (h : RowV W B T 38 (akC ⟨a.f, a.d, a.s, a.u, chP (l.take j), a.r, a.g⟩)) (hj : j < 32) (hl : j < l.length) (hy : l.getD j 0 = y) :
    RowV (W.setCell ⟨B, 4 + j, none⟩ (vB y)) B T 38 (akC ⟨a.f, a.d, a.s, a.u, chP (l.take (j + 1)), a.r, a.g⟩) := by
  refine h.put (fun i hi => ?_)
  unfold akC
  by_cases h1 : 4 ≤ i ∧ i < 36
  · rw [if_pos h1, if_pos h1]
    show _ = vB ((chP (l.take (j + 1))).getD (i - 4) 0)
    rw [chP_step l j hl (i - 4) (by omega)]
    by_cases h2 : i = 4 + j
    · rw [if_pos h2, if_pos (by omega), hy]
    · rw [if_neg h2, if_neg (by omega)]
  · rw [if_neg h1, if_neg h1, if_neg (by omega)]
    rfl
set_option maxRecDepth 100000 in
set_option maxHeartbeats 8000000 in
theorem rdecode33_any (bv : Value) (l : List UInt8) (w : World) (hb : BytesAt w bv l) (hlen : l.length ≤ 1000000) :
    Calls Tryd.prog 12 #[bv] w fun e w' => e = .returned (.tuple #[.agg (rowF 38 (akC (adecV l))), .int .i64 (adecE l)]) ∧ Below w.heap.size w w' := by
  obtain ⟨va, vc, rfl⟩ := hb.slice
  have HB := Lib.hid hb
  have D := fun W (h : BytesAt W (.slice va l.length vc) l) => rdecode_any _ l W h hlen
  unfold DecPost at D
  obtain ⟨re, hre⟩ : ∃ y, adecE l = y := ⟨_, rfl⟩
  obtain ⟨rv, hrv⟩ : ∃ y, adecV l = y := ⟨_, rfl⟩
  have VV : Hid (rv = if re = 0 then (match decF l with | none => ak0 | some t => adecT t) else ak0) := Lib.hid (by rw [← hrv, ← hre]; rfl)
  have VE : Hid (re = match decF l with | none => 10 | some t => if t.l.length = 7 ∧ okA (adecT t) = true ∧ encA (adecT t) [(adecT t).r, (adecT t).g] = l then 0 else 330) := Lib.hid (by rw [← hre]; rfl)
  rw [hre, hrv]
  obtain ⟨ln, hln⟩ : ∃ y, l.length = y := ⟨_, rfl⟩
  have HLN := Lib.hid hln
  have HLE := Lib.hid hlen
  rw [hln] at D HB ⊢
  clear hb hlen hre hrv hln
  cases hdf : decF l with
  | none =>
    rw [hdf] at D VE VV
    have DH := Lib.hid D
    obtain rfl : re = 10 := VE.out
    obtain rfl : rv = ak0 := by rw [VV.out, if_neg (by decide)]
    clear D VE VV hdf HLN HLE
    go_enter Tryd.func12, Tryd.ntmps12
    have B0 := Lib.hid (Below.refl w.heap.size w)
    go_upto_region 1 with fail
    have Y0 := HB
    obtain ⟨w1, hw1⟩ : ∃ y, w.alloc (.cells #[.int .i64 0, .int .i64 0, .int .i64 0, .int .i64 0, .int .u8 0, .int .u8 0, .int .u8 0, .int .u8 0, .int .u8 0, .int .u8 0, .int .u8 0, .int .u8 0, .int .u8 0, .int .u8 0, .int .u8 0, .int .u8 0, .int .u8 0, .int .u8 0, .int .u8 0, .int .u8 0, .int .u8 0, .int .u8 0, .int .u8 0, .int .u8 0, .int .u8 0, .int .u8 0, .int .u8 0, .int .u8 0, .int .u8 0, .int .u8 0, .int .u8 0, .int .u8 0, .int .u8 0, .int .u8 0, .int .u8 0, .int .u8 0, .int .i64 0, .int .i64 0] 27) = y := ⟨_, rfl⟩
    have b1 : Below w.heap.size w w1 := by rw [← hw1]; exact (Below.refl _ _).alloc (Nat.le_refl _) _
    have Z1 : Hid (RowV w1 w.heap.size 27 38 (akC ak0)) := Lib.hid (by rw [← hw1]; exact RowV.new w _ 38 (akC ak0))
    have z1 : w.heap.size + 1 = w1.heap.size := by rw [← hw1]; exact (Array.size_push _).symm
    rw [hw1]
    (try rw [z1])
    have B1 := Lib.hid (B0.out.trans (b1.mono B0.out.size))
    have Y1 := Lib.hid (Y0.out.below b1)
    clear b1 hw1 z1 B0 Y0
    go_wp2_with fail
    refine (DH.out _ Y1.out).mono ?_
    rintro e w2 ⟨rfl, b2⟩
    have B2 := Lib.hid (B1.out.trans (b2.mono B1.out.size))
    have Y2 := Lib.hid (Y1.out.below b2)
    have Z2 := Lib.hid (Z1.out.below b2)
    clear b2 B1 Y1 Z1
    go_wp2_with ((with_reducible (show wpList _ _ _ (Oper.mk none _ _ _ _ _ :: _) _ _)); refine wpList_store_rowV rfl 27 (.tmp 2) (.tmp 15) rfl w.heap.size rfl 38 _ (akC ak0) (akC ak0) rfl (Z2.out.alloc _) (by kernel_rfl) (fun j _ => akC_one _ j) ?_; intro w9 Z9 O9)
    go_wp2_with fail
    refine bodyPost_ret (v := .tuple #[.agg (rowF 38 (akC ak0)), .int .i64 10]) (by exact results_rowV2 (fn := Tryd.f12) (p := 2) (u := 3) (ty := 27) rfl _ _ w.heap.size 38 27 _ _ rfl Z9.out Tryd.underlying27 rfl (by kernel_rfl)) rfl ⟨rfl, ?_⟩
    exact B2.out.trans (((Below.refl _ _).alloc (Nat.le_refl _) _ |>.mono B2.out.size).trans (O9.out.below (Nat.le_refl _) (by rw [World.size_alloc]; have := B2.out.size; omega)))
  | some t =>
    rw [hdf] at D VE VV
    have DH := Lib.hid D
    have VE1 : Hid (re = if t.l.length = 7 ∧ okA (adecT t) = true ∧ encA (adecT t) [(adecT t).r, (adecT t).g] = l then 0 else 330) := VE
    have VV1 : Hid (rv = if re = 0 then adecT t else ak0) := VV
    clear D VE VV hdf
    go_enter Tryd.func12, Tryd.ntmps12
    have B0 := Lib.hid (Below.refl w.heap.size w)
    go_upto_region 1 with fail
    have Y0 := HB
    obtain ⟨w1, hw1⟩ : ∃ y, w.alloc (.cells #[.int .i64 0, .int .i64 0, .int .i64 0, .int .i64 0, .int .u8 0, .int .u8 0, .int .u8 0, .int .u8 0, .int .u8 0, .int .u8 0, .int .u8 0, .int .u8 0, .int .u8 0, .int .u8 0, .int .u8 0, .int .u8 0, .int .u8 0, .int .u8 0, .int .u8 0, .int .u8 0, .int .u8 0, .int .u8 0, .int .u8 0, .int .u8 0, .int .u8 0, .int .u8 0, .int .u8 0, .int .u8 0, .int .u8 0, .int .u8 0, .int .u8 0, .int .u8 0, .int .u8 0, .int .u8 0, .int .u8 0, .int .u8 0, .int .i64 0, .int .i64 0] 27) = y := ⟨_, rfl⟩
    have b1 : Below w.heap.size w w1 := by rw [← hw1]; exact (Below.refl _ _).alloc (Nat.le_refl _) _
    have Z1 : Hid (RowV w1 w.heap.size 27 38 (akC ak0)) := Lib.hid (by rw [← hw1]; exact RowV.new w _ 38 (akC ak0))
    have z1 : w.heap.size + 1 = w1.heap.size := by rw [← hw1]; exact (Array.size_push _).symm
    rw [hw1]
    (try rw [z1])
    have B1 := Lib.hid (B0.out.trans (b1.mono B0.out.size))
    have Y1 := Lib.hid (Y0.out.below b1)
    clear b1 hw1 z1 B0 Y0
    go_wp2_with fail
    refine (DH.out _ Y1.out).mono ?_
    rintro e w2 ⟨⟨u, rfl, hu⟩, b2⟩
    have Y2 := Lib.hid (Y1.out.below b2)
    have Z2 := Lib.hid (Z1.out.below b2)
    have B2 := Lib.hid (B1.out.trans (b2.mono B1.out.size))
    clear b2 Y1 Z1 B1 DH
    obtain ⟨k, n, s, tl⟩ := t
    obtain ⟨a, cap, c, rfl, hk, hn, hs, hsl, hel⟩ := hu.at'.open
    obtain ⟨m, hm⟩ : ∃ y, tl.length = y := ⟨_, rfl⟩
    have VE2 : Hid (re = if m = 7 ∧ okA (adecT (.mk k n s tl)) = true ∧ encA (adecT (.mk k n s tl)) [(adecT (.mk k n s tl)).r, (adecT (.mk k n s tl)).g] = l then 0 else 330) := Lib.hid (by rw [← hm]; exact VE1.out)
    have HEL := Lib.hid hel
    have HSL := Lib.hid hsl
    have HM := Lib.hid hm
    rw [hm] at HSL ⊢
    clear hu hk hn hs hsl hel hm VE1
    go_upto_region 2 with fail
    obtain ⟨w3, hw3⟩ : ∃ y, w2.alloc (.cells #[.int .i64 k, .int .i64 n, .string s, .slice a m cap] 51) = y := ⟨_, rfl⟩
    have b3 : Below w2.heap.size w2 w3 := by rw [← hw3]; exact (Below.refl _ _).alloc (Nat.le_refl _) _
    have V3 : Hid (RowV w3 w2.heap.size 51 4 (valC k n s (.slice a m cap))) := Lib.hid (by rw [← hw3]; exact RowV.new w2 _ 4 (valC k n s (.slice a m cap)))
    have K3 : Hid (Below w2.heap.size w2 w3) := Lib.hid (by rw [← hw3]; exact (Below.refl _ w2).alloc (Nat.le_refl _) _)
    have z3 : w2.heap.size + 1 = w3.heap.size := by rw [← hw3]; exact (Array.size_push _).symm
    rw [hw3]
    (try rw [z3])
    have B3 := Lib.hid (B2.out.trans (b3.mono B2.out.size))
    have Y3 := Lib.hid (Y2.out.below b3)
    have Z3 := Lib.hid (Z2.out.below b3)
    clear b3 hw3 z3 B2 Y2 Z2
    have L1 := Lib.hid Z3.out.lt
    have x3 : _ = some (Value.slice a m cap) := V3.out.cell (i := 3) (by decide)
    by_cases h7 : m = 7
    · subst h7
      have VE3 : Hid (re = if okA (adecT (.mk k n s tl)) = true ∧ encA (adecT (.mk k n s tl)) [(adecT (.mk k n s tl)).r, (adecT (.mk k n s tl)).g] = l then 0 else 330) := Lib.hid (by rw [VE2.out]; simp)
      clear VE2
      go_upto_region 6 with fail
      clear x3
      obtain ⟨b, off, rfl, hcap, hb, hc⟩ := HSL.out.at_elem (i := 0) (by decide)
      have HBB := Lib.hid (show b < w3.heap.size from Nat.lt_of_lt_of_le hb K3.out.size)
      have SL3 : Hid (SCl 4 w3 b off 7 c) := Lib.hid (SCl.below ⟨hb, hc⟩ K3.out)
      clear hcap hb hc
      obtain ⟨n0, N0⟩ : ∃ z, Hid (c 0 1 = .int .i64 z ∧ i64B z ∧ (tl.getD 0 tv0).n = z) := by
        obtain ⟨h1, h2, _⟩ := (HEL.out 0 (by rw [HM.out]; decide)).parts
        exact ⟨_, h1, h2, rfl⟩
      obtain ⟨n1, N1⟩ : ∃ z, Hid (c 1 1 = .int .i64 z ∧ i64B z ∧ (tl.getD 1 tv0).n = z) := by
        obtain ⟨h1, h2, _⟩ := (HEL.out 1 (by rw [HM.out]; decide)).parts
        exact ⟨_, h1, h2, rfl⟩
      obtain ⟨n2, N2⟩ : ∃ z, Hid (c 2 1 = .int .i64 z ∧ i64B z ∧ (tl.getD 2 tv0).n = z) := by
        obtain ⟨h1, h2, _⟩ := (HEL.out 2 (by rw [HM.out]; decide)).parts
        exact ⟨_, h1, h2, rfl⟩
      obtain ⟨n3, N3⟩ : ∃ z, Hid (c 3 1 = .int .i64 z ∧ i64B z ∧ (tl.getD 3 tv0).n = z) := by
        obtain ⟨h1, h2, _⟩ := (HEL.out 3 (by rw [HM.out]; decide)).parts
        exact ⟨_, h1, h2, rfl⟩
      obtain ⟨n5, N5⟩ : ∃ z, Hid (c 5 1 = .int .i64 z ∧ i64B z ∧ (tl.getD 5 tv0).n = z) := by
        obtain ⟨h1, h2, _⟩ := (HEL.out 5 (by rw [HM.out]; decide)).parts
        exact ⟨_, h1, h2, rfl⟩
      obtain ⟨n6, N6⟩ : ∃ z, Hid (c 6 1 = .int .i64 z ∧ i64B z ∧ (tl.getD 6 tv0).n = z) := by
        obtain ⟨h1, h2, _⟩ := (HEL.out 6 (by rw [HM.out]; decide)).parts
        exact ⟨_, h1, h2, rfl⟩
      obtain ⟨s4, N4⟩ : ∃ z, Hid (c 4 2 = .string z ∧ (tl.getD 4 tv0).s = z) := by
        obtain ⟨_, _, h3⟩ := (HEL.out 4 (by rw [HM.out]; decide)).parts
        exact ⟨_, h3, rfl⟩
      refine Tc.wp_region_plan (Tc.Rl.stay (fun k => k = w2.heap.size ∨ k = b)) 33 [] (Tc.flAll [0, 1, 2, 3, 4, 5, 6, 7, 8, 9, 10, 11, 12, 13, 14, 15, 16, 17, 18, 19, 20, 21, 22, 23, 24, 25, 26, 27, 28, 29, 30, 31] (.one 32 .done)) (by kernel_rfl) (by kernel_rfl) ?_
      intro w4 b4 e4
      have Y4 := Lib.hid (Y3.out.below b4)
      have Z4 := Lib.hid (Z3.out.below b4)
      have V4 := Lib.hid (V3.out.below b4)
      have B4 := Lib.hid (B3.out.trans (b4.mono B3.out.size))
      have SL4 := Lib.hid (SL3.out.below b4)
      have S4 := Lib.hid (Nat.lt_of_lt_of_le HBB.out b4.size)
      clear b4 e4 Y3 Z3 V3 B3 SL3
      refine Tc.plan_floats [0, 1, 2, 3, 4, 5, 6, 7, 8, 9, 10, 11, 12, 13, 14, 15, 16, 17, 18, 19, 20, 21, 22, 23, 24, 25, 26, 27, 28, 29, 30, 31] [_, _, _, _, _, _, _, _, _, _, _, _, _, _, _, _, _, _, _, _, _, _, _, _, _, _, _, _, _, _, _, _] rfl ?_
      dsimp only [List.getElem_toArray, List.getElem_cons_succ, List.getElem_cons_zero]
      repeat (go_big_quiet_want; go_big_quiet_op; first | go_big_quiet_on | (refine ⟨_, fun _ _ => rfl, ?_⟩; go_big_quiet_on))
      refine wpQuiet_load_cell rfl 49 (.tmp 22) rfl w2.heap.size 3 rfl _ Tryd.underlying49 rfl (.slice (some ⟨b, off, none⟩) 7 cap) (fun W hW => (stay_row (S := fun k => k = w2.heap.size ∨ k = b) V4.out (.inl rfl) hW).cell (i := 3) (by decide)) ?_
      simp only [Act.put, List.setIfInBounds_toArray, List.set_cons_succ, List.set_cons_zero]
      repeat (go_big_quiet_want; go_big_quiet_op; first | go_big_quiet_on | (refine ⟨_, fun _ _ => rfl, ?_⟩; go_big_quiet_on))
      refine wpQuiet_load_cell rfl 3 (.tmp 25) rfl b (off + 1) rfl _ Tryd.underlying3 rfl (.int .i64 n0) (fun W hW => (stay_cell (S := fun k => k = w2.heap.size ∨ k = b) (.inr rfl) hW).trans (by rw [← N0.out.1]; exact SL4.out.2 0 (by decide) 1 (by decide))) ?_
      simp only [Act.put, List.setIfInBounds_toArray, List.set_cons_succ, List.set_cons_zero]
      repeat (go_big_quiet_want; go_big_quiet_op; first | go_big_quiet_on | (refine ⟨_, fun _ _ => rfl, ?_⟩; go_big_quiet_on))
      refine wpQuiet_load_cell rfl 49 (.tmp 27) rfl w2.heap.size 3 rfl _ Tryd.underlying49 rfl (.slice (some ⟨b, off, none⟩) 7 cap) (fun W hW => (stay_row (S := fun k => k = w2.heap.size ∨ k = b) V4.out (.inl rfl) hW).cell (i := 3) (by decide)) ?_
      simp only [Act.put, List.setIfInBounds_toArray, List.set_cons_succ, List.set_cons_zero]
      repeat (go_big_quiet_want; go_big_quiet_op; first | go_big_quiet_on | (refine ⟨_, fun _ _ => rfl, ?_⟩; go_big_quiet_on))
      refine wpQuiet_load_cell rfl 3 (.tmp 30) rfl b (off + 5) rfl _ Tryd.underlying3 rfl (.int .i64 n1) (fun W hW => (stay_cell (S := fun k => k = w2.heap.size ∨ k = b) (.inr rfl) hW).trans (by rw [← N1.out.1]; exact SL4.out.2 1 (by decide) 1 (by decide))) ?_
      simp only [Act.put, List.setIfInBounds_toArray, List.set_cons_succ, List.set_cons_zero]
      repeat (go_big_quiet_want; go_big_quiet_op; first | go_big_quiet_on | (refine ⟨_, fun _ _ => rfl, ?_⟩; go_big_quiet_on))
      refine wpQuiet_load_cell rfl 49 (.tmp 32) rfl w2.heap.size 3 rfl _ Tryd.underlying49 rfl (.slice (some ⟨b, off, none⟩) 7 cap) (fun W hW => (stay_row (S := fun k => k = w2.heap.size ∨ k = b) V4.out (.inl rfl) hW).cell (i := 3) (by decide)) ?_
      simp only [Act.put, List.setIfInBounds_toArray, List.set_cons_succ, List.set_cons_zero]
      repeat (go_big_quiet_want; go_big_quiet_op; first | go_big_quiet_on | (refine ⟨_, fun _ _ => rfl, ?_⟩; go_big_quiet_on))
      refine wpQuiet_load_cell rfl 3 (.tmp 35) rfl b (off + 9) rfl _ Tryd.underlying3 rfl (.int .i64 n2) (fun W hW => (stay_cell (S := fun k => k = w2.heap.size ∨ k = b) (.inr rfl) hW).trans (by rw [← N2.out.1]; exact SL4.out.2 2 (by decide) 1 (by decide))) ?_
      simp only [Act.put, List.setIfInBounds_toArray, List.set_cons_succ, List.set_cons_zero]
      repeat (go_big_quiet_want; go_big_quiet_op; first | go_big_quiet_on | (refine ⟨_, fun _ _ => rfl, ?_⟩; go_big_quiet_on))
      refine wpQuiet_load_cell rfl 49 (.tmp 37) rfl w2.heap.size 3 rfl _ Tryd.underlying49 rfl (.slice (some ⟨b, off, none⟩) 7 cap) (fun W hW => (stay_row (S := fun k => k = w2.heap.size ∨ k = b) V4.out (.inl rfl) hW).cell (i := 3) (by decide)) ?_
      simp only [Act.put, List.setIfInBounds_toArray, List.set_cons_succ, List.set_cons_zero]
      repeat (go_big_quiet_want; go_big_quiet_op; first | go_big_quiet_on | (refine ⟨_, fun _ _ => rfl, ?_⟩; go_big_quiet_on))
      refine wpQuiet_load_cell rfl 3 (.tmp 40) rfl b (off + 13) rfl _ Tryd.underlying3 rfl (.int .i64 n3) (fun W hW => (stay_cell (S := fun k => k = w2.heap.size ∨ k = b) (.inr rfl) hW).trans (by rw [← N3.out.1]; exact SL4.out.2 3 (by decide) 1 (by decide))) ?_
      simp only [Act.put, List.setIfInBounds_toArray, List.set_cons_succ, List.set_cons_zero]
      repeat (go_big_quiet_want; go_big_quiet_op; first | go_big_quiet_on | (refine ⟨_, fun _ _ => rfl, ?_⟩; go_big_quiet_on))
      refine wpQuiet_load_cell rfl 49 (.tmp 42) rfl w2.heap.size 3 rfl _ Tryd.underlying49 rfl (.slice (some ⟨b, off, none⟩) 7 cap) (fun W hW => (stay_row (S := fun k => k = w2.heap.size ∨ k = b) V4.out (.inl rfl) hW).cell (i := 3) (by decide)) ?_
      simp only [Act.put, List.setIfInBounds_toArray, List.set_cons_succ, List.set_cons_zero]
      repeat (go_big_quiet_want; go_big_quiet_op; first | go_big_quiet_on | (refine ⟨_, fun _ _ => rfl, ?_⟩; go_big_quiet_on))
      refine wpQuiet_load_cell rfl 3 (.tmp 45) rfl b (off + 21) rfl _ Tryd.underlying3 rfl (.int .i64 n5) (fun W hW => (stay_cell (S := fun k => k = w2.heap.size ∨ k = b) (.inr rfl) hW).trans (by rw [← N5.out.1]; exact SL4.out.2 5 (by decide) 1 (by decide))) ?_
      simp only [Act.put, List.setIfInBounds_toArray, List.set_cons_succ, List.set_cons_zero]
      repeat (go_big_quiet_want; go_big_quiet_op; first | go_big_quiet_on | (refine ⟨_, fun _ _ => rfl, ?_⟩; go_big_quiet_on))
      refine wpQuiet_load_cell rfl 49 (.tmp 47) rfl w2.heap.size 3 rfl _ Tryd.underlying49 rfl (.slice (some ⟨b, off, none⟩) 7 cap) (fun W hW => (stay_row (S := fun k => k = w2.heap.size ∨ k = b) V4.out (.inl rfl) hW).cell (i := 3) (by decide)) ?_
      simp only [Act.put, List.setIfInBounds_toArray, List.set_cons_succ, List.set_cons_zero]
      repeat (go_big_quiet_want; go_big_quiet_op; first | go_big_quiet_on | (refine ⟨_, fun _ _ => rfl, ?_⟩; go_big_quiet_on))
      refine wpQuiet_load_cell rfl 3 (.tmp 50) rfl b (off + 25) rfl _ Tryd.underlying3 rfl (.int .i64 n6) (fun W hW => (stay_cell (S := fun k => k = w2.heap.size ∨ k = b) (.inr rfl) hW).trans (by rw [← N6.out.1]; exact SL4.out.2 6 (by decide) 1 (by decide))) ?_
      simp only [Act.put, List.setIfInBounds_toArray, List.set_cons_succ, List.set_cons_zero]
      repeat (go_big_quiet_want; go_big_quiet_op; first | go_big_quiet_on | (refine ⟨_, fun _ _ => rfl, ?_⟩; go_big_quiet_on))
      refine wpQuiet_nil ?_
      have LV := Lib.hid V4.out.lt
      have LZ := Lib.hid Z4.out.lt
      refine Tc.plan_one 32 rfl (fun K hK => ?_)
      go_wp2_with fail
      have al := (Below.refl _ w4).alloc (Nat.le_refl _) (.cells #[.int .i64 0, .int .i64 0, .int .i64 0, .int .i64 0, .int .u8 0, .int .u8 0, .int .u8 0, .int .u8 0, .int .u8 0, .int .u8 0, .int .u8 0, .int .u8 0, .int .u8 0, .int .u8 0, .int .u8 0, .int .u8 0, .int .u8 0, .int .u8 0, .int .u8 0, .int .u8 0, .int .u8 0, .int .u8 0, .int .u8 0, .int .u8 0, .int .u8 0, .int .u8 0, .int .u8 0, .int .u8 0, .int .u8 0, .int .u8 0, .int .u8 0, .int .u8 0, .int .u8 0, .int .u8 0, .int .u8 0, .int .u8 0, .int .i64 0, .int .i64 0] 27)
      have K5 := Lib.hid al
      have X5 := Lib.hid (RowV.new w4 27 38 (akC ak0))
      refine hK _ _ (stay_below al (fun k hk => by rcases hk with rfl | rfl; exact LV.out; exact S4.out)) ?_
      obtain ⟨w5, hw5⟩ : ∃ y, w4.alloc (.cells #[.int .i64 0, .int .i64 0, .int .i64 0, .int .i64 0, .int .u8 0, .int .u8 0, .int .u8 0, .int .u8 0, .int .u8 0, .int .u8 0, .int .u8 0, .int .u8 0, .int .u8 0, .int .u8 0, .int .u8 0, .int .u8 0, .int .u8 0, .int .u8 0, .int .u8 0, .int .u8 0, .int .u8 0, .int .u8 0, .int .u8 0, .int .u8 0, .int .u8 0, .int .u8 0, .int .u8 0, .int .u8 0, .int .u8 0, .int .u8 0, .int .u8 0, .int .u8 0, .int .u8 0, .int .u8 0, .int .u8 0, .int .u8 0, .int .i64 0, .int .i64 0] 27) = y := ⟨_, rfl⟩
      rw [show w4.alloc (.cells (rowF 38 (akC ak0)) 27) = w5 from hw5] at X5
      rw [hw5] at K5 ⊢
      clear hK K al hw5
      refine Tc.plan_done (l := [_]) rfl (fun K hK => ?_)
      refine wpList_store_rowV rfl 27 (.tmp 6) (.tmp 53) rfl w4.heap.size rfl 38 _ _ (akC ⟨n0, n1, n2, n3, z32, n5, n6⟩) rfl X5.out (by kernel_rfl) (fun j _ => akC_one _ j) ?_
      intro w6 X6 O6
      have b6 : Below w4.heap.size w4 w6 := K5.out.trans (O6.out.below (Nat.le_refl _) (Nat.le_of_lt X5.out.lt))
      have Y6 := Lib.hid (Y4.out.below b6)
      have Z6 := Lib.hid (Z4.out.below b6)
      have V6 := Lib.hid (V4.out.below b6)
      have SL6 := Lib.hid (SL4.out.below b6)
      have B6 := Lib.hid (B4.out.trans (b6.mono B4.out.size))
      have XL := Lib.hid (show w.heap.size < w4.heap.size from LZ.out)
      have XV := Lib.hid (show w2.heap.size < w4.heap.size from LV.out)
      clear b6 K5 O6 X5 Y4 Z4 V4 SL4 B4
      go_wp2_with fail
      obtain ⟨q, hq⟩ : ∃ y, Nat.min s4.size 32 = y := ⟨_, rfl⟩
      have HQ := Lib.hid hq
      have X7 : Hid (RowV w6 w4.heap.size 27 38 (akC ⟨n0, n1, n2, n3, chP (s4.data.toList.take 0), n5, n6⟩)) := Lib.hid X6.out
      have HBW := Lib.hid (show b < w4.heap.size from S4.out)
      clear hq X6
      go_loopg [7] q (fun g s7 wx => ∃ j : Nat, j + g = q ∧ s7 = .int .i64 (j : Int) ∧ Hid (RowV wx w4.heap.size 27 38 (akC ⟨n0, n1, n2, n3, chP (s4.data.toList.take j), n5, n6⟩)) ∧ Hid (OnlyB w4.heap.size w6 wx))
      case atStart => exact ⟨0, by omega, rfl, X7, Lib.hid (OnlyB.refl _ _)⟩
      case round =>
        clear X7
        obtain ⟨j, hj, rfl, XR, OR⟩ := hrel
        have VR := Lib.hid (OR.out.row (show w2.heap.size ≠ w4.heap.size from fun e => by have := XV.out; omega) V6.out)
        have x3 : wr.cell? ⟨w2.heap.size, 3, none⟩ = some (Value.slice (some ⟨b, off, none⟩) 7 cap) := VR.out.cell (i := 3) (by decide)
        have x4 : wr.cell? ⟨b, off + 16 + 2, none⟩ = some (.string s4) := (OR.out.cell (p := ⟨b, off + 16 + 2, none⟩) SL6.out.1 (fun e => by have h1 := HBW.out; have h2 : b = w4.heap.size := e; omega)).trans (by rw [← N4.out.1]; exact SL6.out.2 4 (by decide) 2 (by decide))
        by_cases hkq : j < q
        · have zz := HQ.out
          have hm1 : Nat.min s4.size 32 = min s4.size 32 := rfl
          have j1 : j < s4.size := by omega
          have j2 : j < 32 := by omega
          have d1 : decide ((j : Int) < (s4.size : Int)) = true := by rw [decide_eq_true_iff]; omega
          have d3 : decide (j < s4.size) = true := decide_eq_true j1
          have d2 : decide ((j : Int) < 32) = true := by rw [decide_eq_true_iff]; omega
          have d4 : decide (j < 32) = true := decide_eq_true j2
          have ix : ∀ W : World, (Instr.index 9 (.string s4) (.int .i64 (j : Int))).run Tryd.prog W = .ok (vB (s4.data.toList.getD j 0)) W := fun W => rstr_at s4 j j1 W
          obtain ⟨y, hy⟩ : ∃ y, s4.data.toList.getD j 0 = y := ⟨_, rfl⟩
          rw [hy] at ix
          have z1 : (0 : Int) ≤ (j : Int) := Int.natCast_nonneg j
          have z2 : (j : Int) < 32 := by omega
          have c4 : wr.cell? ⟨w4.heap.size, 4 + j, none⟩ = some _ := XR.out.cell (i := 4 + j) (by omega)
          have f4 : wr.frozen? ⟨w4.heap.size, 4 + j, none⟩ = false := XR.out.frozen _
          have XN := Lib.hid (chain_step (a := ⟨n0, n1, n2, n3, [], n5, n6⟩) XR.out j2 (by rw [Array.length_toList]; exact j1) hy)
          have ON := Lib.hid (OR.out.setCell (p := ⟨w4.heap.size, 4 + j, none⟩) (.inl rfl) (vB y))
          have HK := Lib.hid hkq
          clear hkq zz hm1 j1 j2 hy
          go_wp2_with fail
          go_roundg (gk - 1)
          case measure => have := HK.out; omega
          case rel =>
            go_light
            have := HK.out
            exact ⟨j + 1, by omega, by go_num, XN, ON⟩
        · have zz := HQ.out
          have hm1 : s4.size ≤ q ∨ 32 ≤ q := by
            rw [← zz]
            rcases Nat.le_total s4.size 32 with h | h
            · exact .inl (Nat.le_of_eq (Nat.min_eq_left h).symm)
            · exact .inr (Nat.le_of_eq (Nat.min_eq_right h).symm)
          have EC : chP (s4.data.toList.take j) = chP s4.data.toList := chP_take _ _ (by rw [Array.length_toList]; show Nat.min s4.size 32 ≤ j; omega)
          rw [EC] at XR
          have Z8 := Lib.hid (OR.out.row (fun e => by have := XL.out; omega) Z6.out)
          have B8 := Lib.hid (B6.out.trans (OR.out.below (Nat.le_of_lt XL.out) B6.out.size))
          have X8 := Lib.hid XR.out
          have AK : Hid (adecT (.mk k n s tl) = ⟨n0, n1, n2, n3, chP s4.data.toList, n5, n6⟩) := Lib.hid (by
            unfold adecT
            simp only [Tv.l, N0.out.2.2, N1.out.2.2, N2.out.2.2, N3.out.2.2, N5.out.2.2, N6.out.2.2, N4.out.2])
          have WF : Hid (Ak.wf ⟨n0, n1, n2, n3, chP s4.data.toList, n5, n6⟩) := Lib.hid ⟨N0.out.2.1, N1.out.2.1, N2.out.2.1, N3.out.2.1, chP_len _, N5.out.2.1, N6.out.2.1⟩
          clear XR EC N0 N1 N2 N3 N4 N5 N6 OR VR Y6 Z6 V6 SL6 B6 HBW
          obtain ⟨w8, rfl⟩ : ∃ y, y = wr := ⟨_, rfl⟩
          by_cases h1 : j < s4.size
          · have d1 : decide ((j : Int) < (s4.size : Int)) = true := by rw [decide_eq_true_iff]; omega
            have d3 : decide (j < s4.size) = true := decide_eq_true h1
            have d2 : decide ((j : Int) < 32) = false := by rw [decide_eq_false_iff_not]; omega
            have d4 : decide (j < 32) = false := decide_eq_false (by omega)
            clear h1 hkq zz hm1
            obtain ⟨ak, hak⟩ : ∃ y : Ak, (⟨n0, n1, n2, n3, chP s4.data.toList, n5, n6⟩ : Ak) = y := ⟨_, rfl⟩
            rw [hak] at X8 AK WF
            rw [AK.out] at VE3 VV1
            have E := Lib.hid (fun W => rencoding_any ak WF.out W)
            have EL := Lib.hid (encA_len ak WF.out [ak.r, ak.g] (more_bd WF.out) (show (2 : Nat) ≤ 100 by decide))
            have F := Lib.hid (fun W => r33formed_any ak.f ak.d ak.s ak.u W)
            rw [show okA ⟨ak.f, ak.d, ak.s, ak.u, z32, 0, 0⟩ = okA ak from rfl] at F
            obtain ⟨ok, hok⟩ : ∃ y, okA ak = y := ⟨_, rfl⟩
            rw [hok] at F VE3
            clear hok hak AK WF
            go_upto_region 11 with fail
            clear x3 x4 d1 d3
            cases ok
            · have RE : Hid (re = 330) := Lib.hid (by rw [VE3.out]; rfl)
              have RV : Hid (rv = ak0) := Lib.hid (by rw [VV1.out, if_neg (by rw [RE.out]; decide)])
              clear E EL VE3 VV1
              refine Tc.wp_region_plan RlGrow 18 [] (.fl 0 (.fl 1 (.fl 2 (.fl 3 (.fl 4 (.fl 5 (.fl 6 (.fl 7 (.one 8 (.fl 9 (.fl 10 (.fl 11 (.fl 14 (.fl 15 (.one 12 (.fl 13 (.fl 16 (.fl 17 .done)))))))))))))))))) (by kernel_rfl) (by kernel_rfl) ?_
              intro w9 b9 e9
              have b9 : Below w8.heap.size w8 w9 := b9
              have X9 := Lib.hid (X8.out.below b9)
              have Z9 := Lib.hid (Z8.out.below b9)
              have B9 := Lib.hid (B8.out.trans (b9.mono B8.out.size))
              clear b9 e9 X8 Z8 B8
              refine Tc.plan_floats [0, 1, 2, 3, 4, 5, 6, 7] [_, _, _, _, _, _, _, _] rfl ?_
              dsimp only [List.getElem_toArray, List.getElem_cons_succ, List.getElem_cons_zero]
              (try simp only [List.set_cons_succ, List.set_cons_zero])
              repeat (first | go_big_quiet_skip | (go_big_quiet_want; go_big_quiet_op; first | go_big_quiet_on | (refine ⟨_, fun _ _ => rfl, ?_⟩; go_big_quiet_on)))
              refine wpQuiet_load_cell rfl 3 (.tmp 78) rfl w4.heap.size 0 rfl _ Tryd.underlying3 rfl (.int .i64 ak.f) (fun W hW => ak_cell (X9.out.below (show Below w9.heap.size w9 W from hW)) (i := 0) (by decide) (by decide)) ?_
              simp only [Act.put, List.setIfInBounds_toArray, List.set_cons_succ, List.set_cons_zero]
              repeat (first | go_big_quiet_skip | (go_big_quiet_want; go_big_quiet_op; first | go_big_quiet_on | (refine ⟨_, fun _ _ => rfl, ?_⟩; go_big_quiet_on)))
              refine wpQuiet_load_cell rfl 3 (.tmp 80) rfl w4.heap.size 1 rfl _ Tryd.underlying3 rfl (.int .i64 ak.d) (fun W hW => ak_cell (X9.out.below (show Below w9.heap.size w9 W from hW)) (i := 1) (by decide) (by decide)) ?_
              simp only [Act.put, List.setIfInBounds_toArray, List.set_cons_succ, List.set_cons_zero]
              repeat (first | go_big_quiet_skip | (go_big_quiet_want; go_big_quiet_op; first | go_big_quiet_on | (refine ⟨_, fun _ _ => rfl, ?_⟩; go_big_quiet_on)))
              refine wpQuiet_load_cell rfl 3 (.tmp 82) rfl w4.heap.size 2 rfl _ Tryd.underlying3 rfl (.int .i64 ak.s) (fun W hW => ak_cell (X9.out.below (show Below w9.heap.size w9 W from hW)) (i := 2) (by decide) (by decide)) ?_
              simp only [Act.put, List.setIfInBounds_toArray, List.set_cons_succ, List.set_cons_zero]
              repeat (first | go_big_quiet_skip | (go_big_quiet_want; go_big_quiet_op; first | go_big_quiet_on | (refine ⟨_, fun _ _ => rfl, ?_⟩; go_big_quiet_on)))
              refine wpQuiet_load_cell rfl 3 (.tmp 84) rfl w4.heap.size 3 rfl _ Tryd.underlying3 rfl (.int .i64 ak.u) (fun W hW => ak_cell (X9.out.below (show Below w9.heap.size w9 W from hW)) (i := 3) (by decide) (by decide)) ?_
              simp only [Act.put, List.setIfInBounds_toArray, List.set_cons_succ, List.set_cons_zero]
              repeat (first | go_big_quiet_skip | (go_big_quiet_want; go_big_quiet_op; first | go_big_quiet_on | (refine ⟨_, fun _ _ => rfl, ?_⟩; go_big_quiet_on)))
              refine wpQuiet_nil ?_
              refine Tc.plan_one 8 rfl (fun K hK => ?_)
              go_wp2_with fail
              refine (F.out _).mono ?_
              rintro e w10 ⟨rfl, b10⟩
              have X10 := Lib.hid (X9.out.below b10)
              have Z10 := Lib.hid (Z9.out.below b10)
              have B10 := Lib.hid (B9.out.trans (b10.mono B9.out.size))
              go_wp2_with fail
              refine hK _ _ b10 ?_
              clear hK K b10 X9 Z9 B9
              refine Tc.plan_floats [9, 10, 11, 14, 15] [_, _, _, _, _] rfl ?_
              dsimp only [List.getElem_toArray, List.getElem_cons_succ, List.getElem_cons_zero]
              (try simp only [List.set_cons_succ, List.set_cons_zero])
              repeat (first | go_big_quiet_skip | (go_big_quiet_want; go_big_quiet_op; first | go_big_quiet_on | (refine ⟨_, fun _ _ => rfl, ?_⟩; go_big_quiet_on)))
              refine wpQuiet_nil ?_
              refine Tc.plan_one 12 rfl (fun K hK => ?_)
              refine wpList_skip rfl ?_
              refine (show wpList _ _ _ [] _ _ from hK _ _ (Below.refl _ _) ?_)
              dsimp only [Act.put]
              simp only [List.setIfInBounds_toArray, List.set_cons_succ, List.set_cons_zero]
              clear hK K
              refine Tc.plan_floats [13, 16, 17] [_, _, _] rfl ?_
              dsimp only [List.getElem_toArray, List.getElem_cons_succ, List.getElem_cons_zero]
              (try simp only [List.set_cons_succ, List.set_cons_zero])
              repeat (first | go_big_quiet_skip | (go_big_quiet_want; go_big_quiet_op; first | go_big_quiet_on | (refine ⟨_, fun _ _ => rfl, ?_⟩; go_big_quiet_on)))
              refine wpQuiet_nil ?_
              refine Tc.plan_done (l := []) rfl (fun K hK => ?_)
              go_wp2_with (((with_reducible (show wpList _ _ _ (Oper.mk none _ _ _ _ _ :: _) _ _)); refine wpList_store_rowV rfl 27 (.tmp 2) (.tmp 96) rfl w.heap.size rfl 38 _ (akC ak0) (akC ak0) rfl Z10.out (by kernel_rfl) (fun j _ => akC_one _ j) ?_; intro w14 Z14 O14))
              refine bodyPost_ret (v := .tuple #[.agg (rowF 38 (akC ak0)), .int .i64 330]) (by exact results_rowV2 (fn := Tryd.f12) (p := 2) (u := 3) (ty := 27) rfl _ _ w.heap.size 38 27 _ _ rfl Z14.out Tryd.underlying27 rfl (by kernel_rfl)) rfl ⟨by rw [RE.out, RV.out], ?_⟩
              exact B10.out.trans (O14.out.below (Nat.le_refl _) B10.out.size)
            · obtain ⟨tx, htx⟩ : ∃ y, ByteArray.mk l.toArray = y := ⟨_, rfl⟩
              have HTX := Lib.hid htx
              obtain ⟨tu, htu⟩ : ∃ y, ByteArray.mk (encA ak [ak.r, ak.g]).toArray = y := ⟨_, rfl⟩
              have HTU := Lib.hid htu
              have BE := bytes_eq (encA ak [ak.r, ak.g]) l
              rw [htx, htu] at BE
              by_cases hq : encA ak [ak.r, ak.g] = l
              · have RE : Hid (re = 0) := Lib.hid (by rw [VE3.out, if_pos ⟨rfl, hq⟩])
                have RV : Hid (rv = ak) := Lib.hid (by rw [VV1.out, if_pos RE.out])
                have HE1 : Hid ((tu.toList == tx.toList) = true) := Lib.hid (by rw [BE]; exact decide_eq_true hq)
                have HE2 : Hid ((tu.toList != tx.toList) = false) := Lib.hid (by rw [bne, HE1.out]; rfl)
                clear VE3 VV1 hq BE htx htu
                refine Tc.wp_region_plan RlGrow 18 [] (.fl 0 (.fl 1 (.fl 2 (.fl 3 (.fl 4 (.fl 5 (.fl 6 (.fl 7 (.one 8 (.fl 9 (.fl 10 (.fl 11 (.fl 14 (.fl 15 (.one 12 (.fl 13 (.fl 16 (.fl 17 .done)))))))))))))))))) (by kernel_rfl) (by kernel_rfl) ?_
                intro w9 b9 e9
                have b9 : Below w8.heap.size w8 w9 := b9
                have X9 := Lib.hid (X8.out.below b9)
                have Z9 := Lib.hid (Z8.out.below b9)
                have B9 := Lib.hid (B8.out.trans (b9.mono B8.out.size))
                clear b9 e9 X8 Z8 B8
                refine Tc.plan_floats [0, 1, 2, 3, 4, 5, 6, 7] [_, _, _, _, _, _, _, _] rfl ?_
                dsimp only [List.getElem_toArray, List.getElem_cons_succ, List.getElem_cons_zero]
                (try simp only [List.set_cons_succ, List.set_cons_zero])
                repeat (first | go_big_quiet_skip | (go_big_quiet_want; go_big_quiet_op; first | go_big_quiet_on | (refine ⟨_, fun _ _ => rfl, ?_⟩; go_big_quiet_on)))
                refine wpQuiet_load_cell rfl 3 (.tmp 78) rfl w4.heap.size 0 rfl _ Tryd.underlying3 rfl (.int .i64 ak.f) (fun W hW => ak_cell (X9.out.below (show Below w9.heap.size w9 W from hW)) (i := 0) (by decide) (by decide)) ?_
                simp only [Act.put, List.setIfInBounds_toArray, List.set_cons_succ, List.set_cons_zero]
                repeat (first | go_big_quiet_skip | (go_big_quiet_want; go_big_quiet_op; first | go_big_quiet_on | (refine ⟨_, fun _ _ => rfl, ?_⟩; go_big_quiet_on)))
                refine wpQuiet_load_cell rfl 3 (.tmp 80) rfl w4.heap.size 1 rfl _ Tryd.underlying3 rfl (.int .i64 ak.d) (fun W hW => ak_cell (X9.out.below (show Below w9.heap.size w9 W from hW)) (i := 1) (by decide) (by decide)) ?_
                simp only [Act.put, List.setIfInBounds_toArray, List.set_cons_succ, List.set_cons_zero]
                repeat (first | go_big_quiet_skip | (go_big_quiet_want; go_big_quiet_op; first | go_big_quiet_on | (refine ⟨_, fun _ _ => rfl, ?_⟩; go_big_quiet_on)))
                refine wpQuiet_load_cell rfl 3 (.tmp 82) rfl w4.heap.size 2 rfl _ Tryd.underlying3 rfl (.int .i64 ak.s) (fun W hW => ak_cell (X9.out.below (show Below w9.heap.size w9 W from hW)) (i := 2) (by decide) (by decide)) ?_
                simp only [Act.put, List.setIfInBounds_toArray, List.set_cons_succ, List.set_cons_zero]
                repeat (first | go_big_quiet_skip | (go_big_quiet_want; go_big_quiet_op; first | go_big_quiet_on | (refine ⟨_, fun _ _ => rfl, ?_⟩; go_big_quiet_on)))
                refine wpQuiet_load_cell rfl 3 (.tmp 84) rfl w4.heap.size 3 rfl _ Tryd.underlying3 rfl (.int .i64 ak.u) (fun W hW => ak_cell (X9.out.below (show Below w9.heap.size w9 W from hW)) (i := 3) (by decide) (by decide)) ?_
                simp only [Act.put, List.setIfInBounds_toArray, List.set_cons_succ, List.set_cons_zero]
                repeat (first | go_big_quiet_skip | (go_big_quiet_want; go_big_quiet_op; first | go_big_quiet_on | (refine ⟨_, fun _ _ => rfl, ?_⟩; go_big_quiet_on)))
                refine wpQuiet_nil ?_
                refine Tc.plan_one 8 rfl (fun K hK => ?_)
                go_wp2_with fail
                refine (F.out _).mono ?_
                rintro e w10 ⟨rfl, b10⟩
                have X10 := Lib.hid (X9.out.below b10)
                have Z10 := Lib.hid (Z9.out.below b10)
                have B10 := Lib.hid (B9.out.trans (b10.mono B9.out.size))
                go_wp2_with fail
                refine hK _ _ b10 ?_
                clear hK K b10 X9 Z9 B9
                refine Tc.plan_floats [9, 10, 11, 14, 15] [_, _, _, _, _] rfl ?_
                dsimp only [List.getElem_toArray, List.getElem_cons_succ, List.getElem_cons_zero]
                (try simp only [List.set_cons_succ, List.set_cons_zero])
                repeat (first | go_big_quiet_skip | (go_big_quiet_want; go_big_quiet_op; first | go_big_quiet_on | (refine ⟨_, fun _ _ => rfl, ?_⟩; go_big_quiet_on)))
                refine wpQuiet_unguard rfl ?_
                refine wpQuiet_load_part rfl 27 (.tmp 6) rfl w4.heap.size 0 rfl 38 38 27 (akC ak) (akC ak) (fun W hW => X10.out.below (show Below w10.heap.size w10 W from hW)) (by decide) (fun j _ => by rw [Nat.zero_add]) _ Tryd.underlying27 rfl (by kernel_rfl) ?_
                simp only [Act.put, List.setIfInBounds_toArray, List.set_cons_succ, List.set_cons_zero]
                repeat (first | go_big_quiet_skip | (go_big_quiet_want; go_big_quiet_op; first | go_big_quiet_on | (refine ⟨_, fun _ _ => rfl, ?_⟩; go_big_quiet_on)))
                refine wpQuiet_unguard rfl ?_
                refine wpQuiet_convert rfl 28 9 (.tmp 92) rfl _ (.string tx) rfl (fun W hW => by have h := run_text (HB.out.below (B10.out.trans ((show Below w10.heap.size w10 W from hW).mono B10.out.size))); rwa [HTX.out] at h) ?_
                simp only [Act.put, List.setIfInBounds_toArray, List.set_cons_succ, List.set_cons_zero]
                repeat (first | go_big_quiet_skip | (go_big_quiet_want; go_big_quiet_op; first | go_big_quiet_on | (refine ⟨_, fun _ _ => rfl, ?_⟩; go_big_quiet_on)))
                refine wpQuiet_nil ?_
                refine Tc.plan_one 12 rfl (fun K hK => ?_)
                go_wp2_with fail
                refine (E.out _).mono ?_
                rintro e w11 ⟨⟨u11, rfl, o11⟩, b11⟩
                have X11 := Lib.hid (X10.out.below b11)
                have Z11 := Lib.hid (Z10.out.below b11)
                have B11 := Lib.hid (B10.out.trans (b11.mono B10.out.size))
                have Y11 := Lib.hid (o11.bytesAt (by have := EL.out; omega))
                obtain ⟨ya, yc, rfl⟩ := o11.slice
                obtain ⟨yn, hyn⟩ : ∃ y, (encA ak [ak.r, ak.g]).length = y := ⟨_, rfl⟩
                rw [hyn] at Y11 ⊢
                clear hyn
                go_wp2_with fail
                refine hK _ _ b11 ?_
                clear hK K b11 o11 X10 Z10 B10
                refine Tc.plan_floats [13, 16, 17] [_, _, _] rfl ?_
                dsimp only [List.getElem_toArray, List.getElem_cons_succ, List.getElem_cons_zero]
                (try simp only [List.set_cons_succ, List.set_cons_zero])
                repeat (first | go_big_quiet_skip | (go_big_quiet_want; go_big_quiet_op; first | go_big_quiet_on | (refine ⟨_, fun _ _ => rfl, ?_⟩; go_big_quiet_on)))
                refine wpQuiet_unguard rfl ?_
                refine wpQuiet_convert rfl 28 9 (.tmp 90) rfl _ (.string tu) rfl (fun W hW => by have h := run_text (Y11.out.below (show Below w11.heap.size w11 W from hW)); rwa [HTU.out] at h) ?_
                simp only [Act.put, List.setIfInBounds_toArray, List.set_cons_succ, List.set_cons_zero]
                have g0 := HE1.out
                have g1 := HE2.out
                repeat (first | go_big_quiet_skip | (go_big_quiet_want; go_big_quiet_op; first | go_big_quiet_on | (refine ⟨_, fun _ _ => rfl, ?_⟩; go_big_quiet_on)))
                refine wpQuiet_nil ?_
                clear g0 g1
                refine Tc.plan_done (l := []) rfl (fun K hK => ?_)
                go_wp2_with (first | ((with_reducible (show wpList _ _ _ (Oper.mk (some 97) _ _ _ _ _ :: _) _ _)); refine wpList_load_rowV rfl 27 (.tmp 6) rfl w4.heap.size rfl 38 27 _ X11.out _ Tryd.underlying27 rfl (by kernel_rfl) ?_) | ((with_reducible (show wpList _ _ _ (Oper.mk none _ _ _ _ _ :: _) _ _)); refine wpList_store_rowV rfl 27 (.tmp 2) (.tmp 97) rfl w.heap.size rfl 38 _ (akC ak0) (akC ak) rfl Z11.out (by kernel_rfl) (fun j _ => akC_one _ j) ?_; intro w14 Z14 O14))
                refine bodyPost_ret (v := .tuple #[.agg (rowF 38 (akC ak)), .int .i64 0]) (by exact results_rowV2 (fn := Tryd.f12) (p := 2) (u := 3) (ty := 27) rfl _ _ w.heap.size 38 27 _ _ rfl Z14.out Tryd.underlying27 rfl (by kernel_rfl)) rfl ⟨by rw [RE.out, RV.out], ?_⟩
                exact B11.out.trans (O14.out.below (Nat.le_refl _) B11.out.size)
              · have RE : Hid (re = 330) := Lib.hid (by rw [VE3.out, if_neg (fun h => hq h.2)])
                have RV : Hid (rv = ak0) := Lib.hid (by rw [VV1.out, if_neg (by rw [RE.out]; decide)])
                have HE1 : Hid ((tu.toList == tx.toList) = false) := Lib.hid (by rw [BE]; exact decide_eq_false hq)
                have HE2 : Hid ((tu.toList != tx.toList) = true) := Lib.hid (by rw [bne, HE1.out]; rfl)
                clear VE3 VV1 hq BE htx htu
                refine Tc.wp_region_plan RlGrow 18 [] (.fl 0 (.fl 1 (.fl 2 (.fl 3 (.fl 4 (.fl 5 (.fl 6 (.fl 7 (.one 8 (.fl 9 (.fl 10 (.fl 11 (.fl 14 (.fl 15 (.one 12 (.fl 13 (.fl 16 (.fl 17 .done)))))))))))))))))) (by kernel_rfl) (by kernel_rfl) ?_
                intro w9 b9 e9
                have b9 : Below w8.heap.size w8 w9 := b9
                have X9 := Lib.hid (X8.out.below b9)
                have Z9 := Lib.hid (Z8.out.below b9)
                have B9 := Lib.hid (B8.out.trans (b9.mono B8.out.size))
                clear b9 e9 X8 Z8 B8
                refine Tc.plan_floats [0, 1, 2, 3, 4, 5, 6, 7] [_, _, _, _, _, _, _, _] rfl ?_
                dsimp only [List.getElem_toArray, List.getElem_cons_succ, List.getElem_cons_zero]
                (try simp only [List.set_cons_succ, List.set_cons_zero])
                repeat (first | go_big_quiet_skip | (go_big_quiet_want; go_big_quiet_op; first | go_big_quiet_on | (refine ⟨_, fun _ _ => rfl, ?_⟩; go_big_quiet_on)))
                refine wpQuiet_load_cell rfl 3 (.tmp 78) rfl w4.heap.size 0 rfl _ Tryd.underlying3 rfl (.int .i64 ak.f) (fun W hW => ak_cell (X9.out.below (show Below w9.heap.size w9 W from hW)) (i := 0) (by decide) (by decide)) ?_
                simp only [Act.put, List.setIfInBounds_toArray, List.set_cons_succ, List.set_cons_zero]
                repeat (first | go_big_quiet_skip | (go_big_quiet_want; go_big_quiet_op; first | go_big_quiet_on | (refine ⟨_, fun _ _ => rfl, ?_⟩; go_big_quiet_on)))
                refine wpQuiet_load_cell rfl 3 (.tmp 80) rfl w4.heap.size 1 rfl _ Tryd.underlying3 rfl (.int .i64 ak.d) (fun W hW => ak_cell (X9.out.below (show Below w9.heap.size w9 W from hW)) (i := 1) (by decide) (by decide)) ?_
                simp only [Act.put, List.setIfInBounds_toArray, List.set_cons_succ, List.set_cons_zero]
                repeat (first | go_big_quiet_skip | (go_big_quiet_want; go_big_quiet_op; first | go_big_quiet_on | (refine ⟨_, fun _ _ => rfl, ?_⟩; go_big_quiet_on)))
                refine wpQuiet_load_cell rfl 3 (.tmp 82) rfl w4.heap.size 2 rfl _ Tryd.underlying3 rfl (.int .i64 ak.s) (fun W hW => ak_cell (X9.out.below (show Below w9.heap.size w9 W from hW)) (i := 2) (by decide) (by decide)) ?_
                simp only [Act.put, List.setIfInBounds_toArray, List.set_cons_succ, List.set_cons_zero]
                repeat (first | go_big_quiet_skip | (go_big_quiet_want; go_big_quiet_op; first | go_big_quiet_on | (refine ⟨_, fun _ _ => rfl, ?_⟩; go_big_quiet_on)))
                refine wpQuiet_load_cell rfl 3 (.tmp 84) rfl w4.heap.size 3 rfl _ Tryd.underlying3 rfl (.int .i64 ak.u) (fun W hW => ak_cell (X9.out.below (show Below w9.heap.size w9 W from hW)) (i := 3) (by decide) (by decide)) ?_
                simp only [Act.put, List.setIfInBounds_toArray, List.set_cons_succ, List.set_cons_zero]
                repeat (first | go_big_quiet_skip | (go_big_quiet_want; go_big_quiet_op; first | go_big_quiet_on | (refine ⟨_, fun _ _ => rfl, ?_⟩; go_big_quiet_on)))
                refine wpQuiet_nil ?_
                refine Tc.plan_one 8 rfl (fun K hK => ?_)
                go_wp2_with fail
                refine (F.out _).mono ?_
                rintro e w10 ⟨rfl, b10⟩
                have X10 := Lib.hid (X9.out.below b10)
                have Z10 := Lib.hid (Z9.out.below b10)
                have B10 := Lib.hid (B9.out.trans (b10.mono B9.out.size))
                go_wp2_with fail
                refine hK _ _ b10 ?_
                clear hK K b10 X9 Z9 B9
                refine Tc.plan_floats [9, 10, 11, 14, 15] [_, _, _, _, _] rfl ?_
                dsimp only [List.getElem_toArray, List.getElem_cons_succ, List.getElem_cons_zero]
                (try simp only [List.set_cons_succ, List.set_cons_zero])
                repeat (first | go_big_quiet_skip | (go_big_quiet_want; go_big_quiet_op; first | go_big_quiet_on | (refine ⟨_, fun _ _ => rfl, ?_⟩; go_big_quiet_on)))
                refine wpQuiet_unguard rfl ?_
                refine wpQuiet_load_part rfl 27 (.tmp 6) rfl w4.heap.size 0 rfl 38 38 27 (akC ak) (akC ak) (fun W hW => X10.out.below (show Below w10.heap.size w10 W from hW)) (by decide) (fun j _ => by rw [Nat.zero_add]) _ Tryd.underlying27 rfl (by kernel_rfl) ?_
                simp only [Act.put, List.setIfInBounds_toArray, List.set_cons_succ, List.set_cons_zero]
                repeat (first | go_big_quiet_skip | (go_big_quiet_want; go_big_quiet_op; first | go_big_quiet_on | (refine ⟨_, fun _ _ => rfl, ?_⟩; go_big_quiet_on)))
                refine wpQuiet_unguard rfl ?_
                refine wpQuiet_convert rfl 28 9 (.tmp 92) rfl _ (.string tx) rfl (fun W hW => by have h := run_text (HB.out.below (B10.out.trans ((show Below w10.heap.size w10 W from hW).mono B10.out.size))); rwa [HTX.out] at h) ?_
                simp only [Act.put, List.setIfInBounds_toArray, List.set_cons_succ, List.set_cons_zero]
                repeat (first | go_big_quiet_skip | (go_big_quiet_want; go_big_quiet_op; first | go_big_quiet_on | (refine ⟨_, fun _ _ => rfl, ?_⟩; go_big_quiet_on)))
                refine wpQuiet_nil ?_
                refine Tc.plan_one 12 rfl (fun K hK => ?_)
                go_wp2_with fail
                refine (E.out _).mono ?_
                rintro e w11 ⟨⟨u11, rfl, o11⟩, b11⟩
                have X11 := Lib.hid (X10.out.below b11)
                have Z11 := Lib.hid (Z10.out.below b11)
                have B11 := Lib.hid (B10.out.trans (b11.mono B10.out.size))
                have Y11 := Lib.hid (o11.bytesAt (by have := EL.out; omega))
                obtain ⟨ya, yc, rfl⟩ := o11.slice
                obtain ⟨yn, hyn⟩ : ∃ y, (encA ak [ak.r, ak.g]).length = y := ⟨_, rfl⟩
                rw [hyn] at Y11 ⊢
                clear hyn
                go_wp2_with fail
                refine hK _ _ b11 ?_
                clear hK K b11 o11 X10 Z10 B10
                refine Tc.plan_floats [13, 16, 17] [_, _, _] rfl ?_
                dsimp only [List.getElem_toArray, List.getElem_cons_succ, List.getElem_cons_zero]
                (try simp only [List.set_cons_succ, List.set_cons_zero])
                repeat (first | go_big_quiet_skip | (go_big_quiet_want; go_big_quiet_op; first | go_big_quiet_on | (refine ⟨_, fun _ _ => rfl, ?_⟩; go_big_quiet_on)))
                refine wpQuiet_unguard rfl ?_
                refine wpQuiet_convert rfl 28 9 (.tmp 90) rfl _ (.string tu) rfl (fun W hW => by have h := run_text (Y11.out.below (show Below w11.heap.size w11 W from hW)); rwa [HTU.out] at h) ?_
                simp only [Act.put, List.setIfInBounds_toArray, List.set_cons_succ, List.set_cons_zero]
                have g0 := HE1.out
                have g1 := HE2.out
                repeat (first | go_big_quiet_skip | (go_big_quiet_want; go_big_quiet_op; first | go_big_quiet_on | (refine ⟨_, fun _ _ => rfl, ?_⟩; go_big_quiet_on)))
                refine wpQuiet_nil ?_
                clear g0 g1
                refine Tc.plan_done (l := []) rfl (fun K hK => ?_)
                go_wp2_with (((with_reducible (show wpList _ _ _ (Oper.mk none _ _ _ _ _ :: _) _ _)); refine wpList_store_rowV rfl 27 (.tmp 2) (.tmp 96) rfl w.heap.size rfl 38 _ (akC ak0) (akC ak0) rfl Z11.out (by kernel_rfl) (fun j _ => akC_one _ j) ?_; intro w14 Z14 O14))
                refine bodyPost_ret (v := .tuple #[.agg (rowF 38 (akC ak0)), .int .i64 330]) (by exact results_rowV2 (fn := Tryd.f12) (p := 2) (u := 3) (ty := 27) rfl _ _ w.heap.size 38 27 _ _ rfl Z14.out Tryd.underlying27 rfl (by kernel_rfl)) rfl ⟨by rw [RE.out, RV.out], ?_⟩
                exact B11.out.trans (O14.out.below (Nat.le_refl _) B11.out.size)
          · have d1 : decide ((j : Int) < (s4.size : Int)) = false := by rw [decide_eq_false_iff_not]; omega
            have d3 : decide (j < s4.size) = false := decide_eq_false h1
            clear h1 hkq zz hm1
            obtain ⟨ak, hak⟩ : ∃ y : Ak, (⟨n0, n1, n2, n3, chP s4.data.toList, n5, n6⟩ : Ak) = y := ⟨_, rfl⟩
            rw [hak] at X8 AK WF
            rw [AK.out] at VE3 VV1
            have E := Lib.hid (fun W => rencoding_any ak WF.out W)
            have EL := Lib.hid (encA_len ak WF.out [ak.r, ak.g] (more_bd WF.out) (show (2 : Nat) ≤ 100 by decide))
            have F := Lib.hid (fun W => r33formed_any ak.f ak.d ak.s ak.u W)
            rw [show okA ⟨ak.f, ak.d, ak.s, ak.u, z32, 0, 0⟩ = okA ak from rfl] at F
            obtain ⟨ok, hok⟩ : ∃ y, okA ak = y := ⟨_, rfl⟩
            rw [hok] at F VE3
            clear hok hak AK WF
            go_upto_region 11 with fail
            clear x3 x4 d1 d3
            cases ok
            · have RE : Hid (re = 330) := Lib.hid (by rw [VE3.out]; rfl)
              have RV : Hid (rv = ak0) := Lib.hid (by rw [VV1.out, if_neg (by rw [RE.out]; decide)])
              clear E EL VE3 VV1
              refine Tc.wp_region_plan RlGrow 18 [] (.fl 0 (.fl 1 (.fl 2 (.fl 3 (.fl 4 (.fl 5 (.fl 6 (.fl 7 (.one 8 (.fl 9 (.fl 10 (.fl 11 (.fl 14 (.fl 15 (.one 12 (.fl 13 (.fl 16 (.fl 17 .done)))))))))))))))))) (by kernel_rfl) (by kernel_rfl) ?_
              intro w9 b9 e9
              have b9 : Below w8.heap.size w8 w9 := b9
              have X9 := Lib.hid (X8.out.below b9)
              have Z9 := Lib.hid (Z8.out.below b9)
              have B9 := Lib.hid (B8.out.trans (b9.mono B8.out.size))
              clear b9 e9 X8 Z8 B8
              refine Tc.plan_floats [0, 1, 2, 3, 4, 5, 6, 7] [_, _, _, _, _, _, _, _] rfl ?_
              dsimp only [List.getElem_toArray, List.getElem_cons_succ, List.getElem_cons_zero]
              (try simp only [List.set_cons_succ, List.set_cons_zero])
              repeat (first | go_big_quiet_skip | (go_big_quiet_want; go_big_quiet_op; first | go_big_quiet_on | (refine ⟨_, fun _ _ => rfl, ?_⟩; go_big_quiet_on)))
              refine wpQuiet_load_cell rfl 3 (.tmp 78) rfl w4.heap.size 0 rfl _ Tryd.underlying3 rfl (.int .i64 ak.f) (fun W hW => ak_cell (X9.out.below (show Below w9.heap.size w9 W from hW)) (i := 0) (by decide) (by decide)) ?_
              simp only [Act.put, List.setIfInBounds_toArray, List.set_cons_succ, List.set_cons_zero]
              repeat (first | go_big_quiet_skip | (go_big_quiet_want; go_big_quiet_op; first | go_big_quiet_on | (refine ⟨_, fun _ _ => rfl, ?_⟩; go_big_quiet_on)))
              refine wpQuiet_load_cell rfl 3 (.tmp 80) rfl w4.heap.size 1 rfl _ Tryd.underlying3 rfl (.int .i64 ak.d) (fun W hW => ak_cell (X9.out.below (show Below w9.heap.size w9 W from hW)) (i := 1) (by decide) (by decide)) ?_
              simp only [Act.put, List.setIfInBounds_toArray, List.set_cons_succ, List.set_cons_zero]
              repeat (first | go_big_quiet_skip | (go_big_quiet_want; go_big_quiet_op; first | go_big_quiet_on | (refine ⟨_, fun _ _ => rfl, ?_⟩; go_big_quiet_on)))
              refine wpQuiet_load_cell rfl 3 (.tmp 82) rfl w4.heap.size 2 rfl _ Tryd.underlying3 rfl (.int .i64 ak.s) (fun W hW => ak_cell (X9.out.below (show Below w9.heap.size w9 W from hW)) (i := 2) (by decide) (by decide)) ?_
              simp only [Act.put, List.setIfInBounds_toArray, List.set_cons_succ, List.set_cons_zero]
              repeat (first | go_big_quiet_skip | (go_big_quiet_want; go_big_quiet_op; first | go_big_quiet_on | (refine ⟨_, fun _ _ => rfl, ?_⟩; go_big_quiet_on)))
              refine wpQuiet_load_cell rfl 3 (.tmp 84) rfl w4.heap.size 3 rfl _ Tryd.underlying3 rfl (.int .i64 ak.u) (fun W hW => ak_cell (X9.out.below (show Below w9.heap.size w9 W from hW)) (i := 3) (by decide) (by decide)) ?_
              simp only [Act.put, List.setIfInBounds_toArray, List.set_cons_succ, List.set_cons_zero]
              repeat (first | go_big_quiet_skip | (go_big_quiet_want; go_big_quiet_op; first | go_big_quiet_on | (refine ⟨_, fun _ _ => rfl, ?_⟩; go_big_quiet_on)))
              refine wpQuiet_nil ?_
              refine Tc.plan_one 8 rfl (fun K hK => ?_)
              go_wp2_with fail
              refine (F.out _).mono ?_
              rintro e w10 ⟨rfl, b10⟩
              have X10 := Lib.hid (X9.out.below b10)
              have Z10 := Lib.hid (Z9.out.below b10)
              have B10 := Lib.hid (B9.out.trans (b10.mono B9.out.size))
              go_wp2_with fail
              refine hK _ _ b10 ?_
              clear hK K b10 X9 Z9 B9
              refine Tc.plan_floats [9, 10, 11, 14, 15] [_, _, _, _, _] rfl ?_
              dsimp only [List.getElem_toArray, List.getElem_cons_succ, List.getElem_cons_zero]
              (try simp only [List.set_cons_succ, List.set_cons_zero])
              repeat (first | go_big_quiet_skip | (go_big_quiet_want; go_big_quiet_op; first | go_big_quiet_on | (refine ⟨_, fun _ _ => rfl, ?_⟩; go_big_quiet_on)))
              refine wpQuiet_nil ?_
              refine Tc.plan_one 12 rfl (fun K hK => ?_)
              refine wpList_skip rfl ?_
              refine (show wpList _ _ _ [] _ _ from hK _ _ (Below.refl _ _) ?_)
              dsimp only [Act.put]
              simp only [List.setIfInBounds_toArray, List.set_cons_succ, List.set_cons_zero]
              clear hK K
              refine Tc.plan_floats [13, 16, 17] [_, _, _] rfl ?_
              dsimp only [List.getElem_toArray, List.getElem_cons_succ, List.getElem_cons_zero]
              (try simp only [List.set_cons_succ, List.set_cons_zero])
              repeat (first | go_big_quiet_skip | (go_big_quiet_want; go_big_quiet_op; first | go_big_quiet_on | (refine ⟨_, fun _ _ => rfl, ?_⟩; go_big_quiet_on)))
              refine wpQuiet_nil ?_
              refine Tc.plan_done (l := []) rfl (fun K hK => ?_)
              go_wp2_with (((with_reducible (show wpList _ _ _ (Oper.mk none _ _ _ _ _ :: _) _ _)); refine wpList_store_rowV rfl 27 (.tmp 2) (.tmp 96) rfl w.heap.size rfl 38 _ (akC ak0) (akC ak0) rfl Z10.out (by kernel_rfl) (fun j _ => akC_one _ j) ?_; intro w14 Z14 O14))
              refine bodyPost_ret (v := .tuple #[.agg (rowF 38 (akC ak0)), .int .i64 330]) (by exact results_rowV2 (fn := Tryd.f12) (p := 2) (u := 3) (ty := 27) rfl _ _ w.heap.size 38 27 _ _ rfl Z14.out Tryd.underlying27 rfl (by kernel_rfl)) rfl ⟨by rw [RE.out, RV.out], ?_⟩
              exact B10.out.trans (O14.out.below (Nat.le_refl _) B10.out.size)
            · obtain ⟨tx, htx⟩ : ∃ y, ByteArray.mk l.toArray = y := ⟨_, rfl⟩
              have HTX := Lib.hid htx
              obtain ⟨tu, htu⟩ : ∃ y, ByteArray.mk (encA ak [ak.r, ak.g]).toArray = y := ⟨_, rfl⟩
              have HTU := Lib.hid htu
              have BE := bytes_eq (encA ak [ak.r, ak.g]) l
              rw [htx, htu] at BE
              by_cases hq : encA ak [ak.r, ak.g] = l
              · have RE : Hid (re = 0) := Lib.hid (by rw [VE3.out, if_pos ⟨rfl, hq⟩])
                have RV : Hid (rv = ak) := Lib.hid (by rw [VV1.out, if_pos RE.out])
                have HE1 : Hid ((tu.toList == tx.toList) = true) := Lib.hid (by rw [BE]; exact decide_eq_true hq)
                have HE2 : Hid ((tu.toList != tx.toList) = false) := Lib.hid (by rw [bne, HE1.out]; rfl)
                clear VE3 VV1 hq BE htx htu
                refine Tc.wp_region_plan RlGrow 18 [] (.fl 0 (.fl 1 (.fl 2 (.fl 3 (.fl 4 (.fl 5 (.fl 6 (.fl 7 (.one 8 (.fl 9 (.fl 10 (.fl 11 (.fl 14 (.fl 15 (.one 12 (.fl 13 (.fl 16 (.fl 17 .done)))))))))))))))))) (by kernel_rfl) (by kernel_rfl) ?_
                intro w9 b9 e9
                have b9 : Below w8.heap.size w8 w9 := b9
                have X9 := Lib.hid (X8.out.below b9)
                have Z9 := Lib.hid (Z8.out.below b9)
                have B9 := Lib.hid (B8.out.trans (b9.mono B8.out.size))
                clear b9 e9 X8 Z8 B8
                refine Tc.plan_floats [0, 1, 2, 3, 4, 5, 6, 7] [_, _, _, _, _, _, _, _] rfl ?_
                dsimp only [List.getElem_toArray, List.getElem_cons_succ, List.getElem_cons_zero]
                (try simp only [List.set_cons_succ, List.set_cons_zero])
                repeat (first | go_big_quiet_skip | (go_big_quiet_want; go_big_quiet_op; first | go_big_quiet_on | (refine ⟨_, fun _ _ => rfl, ?_⟩; go_big_quiet_on)))
                refine wpQuiet_load_cell rfl 3 (.tmp 78) rfl w4.heap.size 0 rfl _ Tryd.underlying3 rfl (.int .i64 ak.f) (fun W hW => ak_cell (X9.out.below (show Below w9.heap.size w9 W from hW)) (i := 0) (by decide) (by decide)) ?_
                simp only [Act.put, List.setIfInBounds_toArray, List.set_cons_succ, List.set_cons_zero]
                repeat (first | go_big_quiet_skip | (go_big_quiet_want; go_big_quiet_op; first | go_big_quiet_on | (refine ⟨_, fun _ _ => rfl, ?_⟩; go_big_quiet_on)))
                refine wpQuiet_load_cell rfl 3 (.tmp 80) rfl w4.heap.size 1 rfl _ Tryd.underlying3 rfl (.int .i64 ak.d) (fun W hW => ak_cell (X9.out.below (show Below w9.heap.size w9 W from hW)) (i := 1) (by decide) (by decide)) ?_
                simp only [Act.put, List.setIfInBounds_toArray, List.set_cons_succ, List.set_cons_zero]
                repeat (first | go_big_quiet_skip | (go_big_quiet_want; go_big_quiet_op; first | go_big_quiet_on | (refine ⟨_, fun _ _ => rfl, ?_⟩; go_big_quiet_on)))
                refine wpQuiet_load_cell rfl 3 (.tmp 82) rfl w4.heap.size 2 rfl _ Tryd.underlying3 rfl (.int .i64 ak.s) (fun W hW => ak_cell (X9.out.below (show Below w9.heap.size w9 W from hW)) (i := 2) (by decide) (by decide)) ?_
                simp only [Act.put, List.setIfInBounds_toArray, List.set_cons_succ, List.set_cons_zero]
                repeat (first | go_big_quiet_skip | (go_big_quiet_want; go_big_quiet_op; first | go_big_quiet_on | (refine ⟨_, fun _ _ => rfl, ?_⟩; go_big_quiet_on)))
                refine wpQuiet_load_cell rfl 3 (.tmp 84) rfl w4.heap.size 3 rfl _ Tryd.underlying3 rfl (.int .i64 ak.u) (fun W hW => ak_cell (X9.out.below (show Below w9.heap.size w9 W from hW)) (i := 3) (by decide) (by decide)) ?_
                simp only [Act.put, List.setIfInBounds_toArray, List.set_cons_succ, List.set_cons_zero]
                repeat (first | go_big_quiet_skip | (go_big_quiet_want; go_big_quiet_op; first | go_big_quiet_on | (refine ⟨_, fun _ _ => rfl, ?_⟩; go_big_quiet_on)))
                refine wpQuiet_nil ?_
                refine Tc.plan_one 8 rfl (fun K hK => ?_)
                go_wp2_with fail
                refine (F.out _).mono ?_
                rintro e w10 ⟨rfl, b10⟩
                have X10 := Lib.hid (X9.out.below b10)
                have Z10 := Lib.hid (Z9.out.below b10)
                have B10 := Lib.hid (B9.out.trans (b10.mono B9.out.size))
                go_wp2_with fail
                refine hK _ _ b10 ?_
                clear hK K b10 X9 Z9 B9
                refine Tc.plan_floats [9, 10, 11, 14, 15] [_, _, _, _, _] rfl ?_
                dsimp only [List.getElem_toArray, List.getElem_cons_succ, List.getElem_cons_zero]
                (try simp only [List.set_cons_succ, List.set_cons_zero])
                repeat (first | go_big_quiet_skip | (go_big_quiet_want; go_big_quiet_op; first | go_big_quiet_on | (refine ⟨_, fun _ _ => rfl, ?_⟩; go_big_quiet_on)))
                refine wpQuiet_unguard rfl ?_
                refine wpQuiet_load_part rfl 27 (.tmp 6) rfl w4.heap.size 0 rfl 38 38 27 (akC ak) (akC ak) (fun W hW => X10.out.below (show Below w10.heap.size w10 W from hW)) (by decide) (fun j _ => by rw [Nat.zero_add]) _ Tryd.underlying27 rfl (by kernel_rfl) ?_
                simp only [Act.put, List.setIfInBounds_toArray, List.set_cons_succ, List.set_cons_zero]
                repeat (first | go_big_quiet_skip | (go_big_quiet_want; go_big_quiet_op; first | go_big_quiet_on | (refine ⟨_, fun _ _ => rfl, ?_⟩; go_big_quiet_on)))
                refine wpQuiet_unguard rfl ?_
                refine wpQuiet_convert rfl 28 9 (.tmp 92) rfl _ (.string tx) rfl (fun W hW => by have h := run_text (HB.out.below (B10.out.trans ((show Below w10.heap.size w10 W from hW).mono B10.out.size))); rwa [HTX.out] at h) ?_
                simp only [Act.put, List.setIfInBounds_toArray, List.set_cons_succ, List.set_cons_zero]
                repeat (first | go_big_quiet_skip | (go_big_quiet_want; go_big_quiet_op; first | go_big_quiet_on | (refine ⟨_, fun _ _ => rfl, ?_⟩; go_big_quiet_on)))
                refine wpQuiet_nil ?_
                refine Tc.plan_one 12 rfl (fun K hK => ?_)
                go_wp2_with fail
                refine (E.out _).mono ?_
                rintro e w11 ⟨⟨u11, rfl, o11⟩, b11⟩
                have X11 := Lib.hid (X10.out.below b11)
                have Z11 := Lib.hid (Z10.out.below b11)
                have B11 := Lib.hid (B10.out.trans (b11.mono B10.out.size))
                have Y11 := Lib.hid (o11.bytesAt (by have := EL.out; omega))
                obtain ⟨ya, yc, rfl⟩ := o11.slice
                obtain ⟨yn, hyn⟩ : ∃ y, (encA ak [ak.r, ak.g]).length = y := ⟨_, rfl⟩
                rw [hyn] at Y11 ⊢
                clear hyn
                go_wp2_with fail
                refine hK _ _ b11 ?_
                clear hK K b11 o11 X10 Z10 B10
                refine Tc.plan_floats [13, 16, 17] [_, _, _] rfl ?_
                dsimp only [List.getElem_toArray, List.getElem_cons_succ, List.getElem_cons_zero]
                (try simp only [List.set_cons_succ, List.set_cons_zero])
                repeat (first | go_big_quiet_skip | (go_big_quiet_want; go_big_quiet_op; first | go_big_quiet_on | (refine ⟨_, fun _ _ => rfl, ?_⟩; go_big_quiet_on)))
                refine wpQuiet_unguard rfl ?_
                refine wpQuiet_convert rfl 28 9 (.tmp 90) rfl _ (.string tu) rfl (fun W hW => by have h := run_text (Y11.out.below (show Below w11.heap.size w11 W from hW)); rwa [HTU.out] at h) ?_
                simp only [Act.put, List.setIfInBounds_toArray, List.set_cons_succ, List.set_cons_zero]
                have g0 := HE1.out
                have g1 := HE2.out
                repeat (first | go_big_quiet_skip | (go_big_quiet_want; go_big_quiet_op; first | go_big_quiet_on | (refine ⟨_, fun _ _ => rfl, ?_⟩; go_big_quiet_on)))
                refine wpQuiet_nil ?_
                clear g0 g1
                refine Tc.plan_done (l := []) rfl (fun K hK => ?_)
                go_wp2_with (first | ((with_reducible (show wpList _ _ _ (Oper.mk (some 97) _ _ _ _ _ :: _) _ _)); refine wpList_load_rowV rfl 27 (.tmp 6) rfl w4.heap.size rfl 38 27 _ X11.out _ Tryd.underlying27 rfl (by kernel_rfl) ?_) | ((with_reducible (show wpList _ _ _ (Oper.mk none _ _ _ _ _ :: _) _ _)); refine wpList_store_rowV rfl 27 (.tmp 2) (.tmp 97) rfl w.heap.size rfl 38 _ (akC ak0) (akC ak) rfl Z11.out (by kernel_rfl) (fun j _ => akC_one _ j) ?_; intro w14 Z14 O14))
                refine bodyPost_ret (v := .tuple #[.agg (rowF 38 (akC ak)), .int .i64 0]) (by exact results_rowV2 (fn := Tryd.f12) (p := 2) (u := 3) (ty := 27) rfl _ _ w.heap.size 38 27 _ _ rfl Z14.out Tryd.underlying27 rfl (by kernel_rfl)) rfl ⟨by rw [RE.out, RV.out], ?_⟩
                exact B11.out.trans (O14.out.below (Nat.le_refl _) B11.out.size)
              · have RE : Hid (re = 330) := Lib.hid (by rw [VE3.out, if_neg (fun h => hq h.2)])
                have RV : Hid (rv = ak0) := Lib.hid (by rw [VV1.out, if_neg (by rw [RE.out]; decide)])
                have HE1 : Hid ((tu.toList == tx.toList) = false) := Lib.hid (by rw [BE]; exact decide_eq_false hq)
                have HE2 : Hid ((tu.toList != tx.toList) = true) := Lib.hid (by rw [bne, HE1.out]; rfl)
                clear VE3 VV1 hq BE htx htu
                refine Tc.wp_region_plan RlGrow 18 [] (.fl 0 (.fl 1 (.fl 2 (.fl 3 (.fl 4 (.fl 5 (.fl 6 (.fl 7 (.one 8 (.fl 9 (.fl 10 (.fl 11 (.fl 14 (.fl 15 (.one 12 (.fl 13 (.fl 16 (.fl 17 .done)))))))))))))))))) (by kernel_rfl) (by kernel_rfl) ?_
                intro w9 b9 e9
                have b9 : Below w8.heap.size w8 w9 := b9
                have X9 := Lib.hid (X8.out.below b9)
                have Z9 := Lib.hid (Z8.out.below b9)
                have B9 := Lib.hid (B8.out.trans (b9.mono B8.out.size))
                clear b9 e9 X8 Z8 B8
                refine Tc.plan_floats [0, 1, 2, 3, 4, 5, 6, 7] [_, _, _, _, _, _, _, _] rfl ?_
                dsimp only [List.getElem_toArray, List.getElem_cons_succ, List.getElem_cons_zero]
                (try simp only [List.set_cons_succ, List.set_cons_zero])
                repeat (first | go_big_quiet_skip | (go_big_quiet_want; go_big_quiet_op; first | go_big_quiet_on | (refine ⟨_, fun _ _ => rfl, ?_⟩; go_big_quiet_on)))
                refine wpQuiet_load_cell rfl 3 (.tmp 78) rfl w4.heap.size 0 rfl _ Tryd.underlying3 rfl (.int .i64 ak.f) (fun W hW => ak_cell (X9.out.below (show Below w9.heap.size w9 W from hW)) (i := 0) (by decide) (by decide)) ?_
                simp only [Act.put, List.setIfInBounds_toArray, List.set_cons_succ, List.set_cons_zero]
                repeat (first | go_big_quiet_skip | (go_big_quiet_want; go_big_quiet_op; first | go_big_quiet_on | (refine ⟨_, fun _ _ => rfl, ?_⟩; go_big_quiet_on)))
                refine wpQuiet_load_cell rfl 3 (.tmp 80) rfl w4.heap.size 1 rfl _ Tryd.underlying3 rfl (.int .i64 ak.d) (fun W hW => ak_cell (X9.out.below (show Below w9.heap.size w9 W from hW)) (i := 1) (by decide) (by decide)) ?_
                simp only [Act.put, List.setIfInBounds_toArray, List.set_cons_succ, List.set_cons_zero]
                repeat (first | go_big_quiet_skip | (go_big_quiet_want; go_big_quiet_op; first | go_big_quiet_on | (refine ⟨_, fun _ _ => rfl, ?_⟩; go_big_quiet_on)))
                refine wpQuiet_load_cell rfl 3 (.tmp 82) rfl w4.heap.size 2 rfl _ Tryd.underlying3 rfl (.int .i64 ak.s) (fun W hW => ak_cell (X9.out.below (show Below w9.heap.size w9 W from hW)) (i := 2) (by decide) (by decide)) ?_
                simp only [Act.put, List.setIfInBounds_toArray, List.set_cons_succ, List.set_cons_zero]
                repeat (first | go_big_quiet_skip | (go_big_quiet_want; go_big_quiet_op; first | go_big_quiet_on | (refine ⟨_, fun _ _ => rfl, ?_⟩; go_big_quiet_on)))
                refine wpQuiet_load_cell rfl 3 (.tmp 84) rfl w4.heap.size 3 rfl _ Tryd.underlying3 rfl (.int .i64 ak.u) (fun W hW => ak_cell (X9.out.below (show Below w9.heap.size w9 W from hW)) (i := 3) (by decide) (by decide)) ?_
                simp only [Act.put, List.setIfInBounds_toArray, List.set_cons_succ, List.set_cons_zero]
                repeat (first | go_big_quiet_skip | (go_big_quiet_want; go_big_quiet_op; first | go_big_quiet_on | (refine ⟨_, fun _ _ => rfl, ?_⟩; go_big_quiet_on)))
                refine wpQuiet_nil ?_
                refine Tc.plan_one 8 rfl (fun K hK => ?_)
                go_wp2_with fail
                refine (F.out _).mono ?_
                rintro e w10 ⟨rfl, b10⟩
                have X10 := Lib.hid (X9.out.below b10)
                have Z10 := Lib.hid (Z9.out.below b10)
                have B10 := Lib.hid (B9.out.trans (b10.mono B9.out.size))
                go_wp2_with fail
                refine hK _ _ b10 ?_
                clear hK K b10 X9 Z9 B9
                refine Tc.plan_floats [9, 10, 11, 14, 15] [_, _, _, _, _] rfl ?_
                dsimp only [List.getElem_toArray, List.getElem_cons_succ, List.getElem_cons_zero]
                (try simp only [List.set_cons_succ, List.set_cons_zero])
                repeat (first | go_big_quiet_skip | (go_big_quiet_want; go_big_quiet_op; first | go_big_quiet_on | (refine ⟨_, fun _ _ => rfl, ?_⟩; go_big_quiet_on)))
                refine wpQuiet_unguard rfl ?_
                refine wpQuiet_load_part rfl 27 (.tmp 6) rfl w4.heap.size 0 rfl 38 38 27 (akC ak) (akC ak) (fun W hW => X10.out.below (show Below w10.heap.size w10 W from hW)) (by decide) (fun j _ => by rw [Nat.zero_add]) _ Tryd.underlying27 rfl (by kernel_rfl) ?_
                simp only [Act.put, List.setIfInBounds_toArray, List.set_cons_succ, List.set_cons_zero]
                repeat (first | go_big_quiet_skip | (go_big_quiet_want; go_big_quiet_op; first | go_big_quiet_on | (refine ⟨_, fun _ _ => rfl, ?_⟩; go_big_quiet_on)))
                refine wpQuiet_unguard rfl ?_
                refine wpQuiet_convert rfl 28 9 (.tmp 92) rfl _ (.string tx) rfl (fun W hW => by have h := run_text (HB.out.below (B10.out.trans ((show Below w10.heap.size w10 W from hW).mono B10.out.size))); rwa [HTX.out] at h) ?_
                simp only [Act.put, List.setIfInBounds_toArray, List.set_cons_succ, List.set_cons_zero]
                repeat (first | go_big_quiet_skip | (go_big_quiet_want; go_big_quiet_op; first | go_big_quiet_on | (refine ⟨_, fun _ _ => rfl, ?_⟩; go_big_quiet_on)))
                refine wpQuiet_nil ?_
                refine Tc.plan_one 12 rfl (fun K hK => ?_)
                go_wp2_with fail
                refine (E.out _).mono ?_
                rintro e w11 ⟨⟨u11, rfl, o11⟩, b11⟩
                have X11 := Lib.hid (X10.out.below b11)
                have Z11 := Lib.hid (Z10.out.below b11)
                have B11 := Lib.hid (B10.out.trans (b11.mono B10.out.size))
                have Y11 := Lib.hid (o11.bytesAt (by have := EL.out; omega))
                obtain ⟨ya, yc, rfl⟩ := o11.slice
                obtain ⟨yn, hyn⟩ : ∃ y, (encA ak [ak.r, ak.g]).length = y := ⟨_, rfl⟩
                rw [hyn] at Y11 ⊢
                clear hyn
                go_wp2_with fail
                refine hK _ _ b11 ?_
                clear hK K b11 o11 X10 Z10 B10
                refine Tc.plan_floats [13, 16, 17] [_, _, _] rfl ?_
                dsimp only [List.getElem_toArray, List.getElem_cons_succ, List.getElem_cons_zero]
                (try simp only [List.set_cons_succ, List.set_cons_zero])
                repeat (first | go_big_quiet_skip | (go_big_quiet_want; go_big_quiet_op; first | go_big_quiet_on | (refine ⟨_, fun _ _ => rfl, ?_⟩; go_big_quiet_on)))
                refine wpQuiet_unguard rfl ?_
                refine wpQuiet_convert rfl 28 9 (.tmp 90) rfl _ (.string tu) rfl (fun W hW => by have h := run_text (Y11.out.below (show Below w11.heap.size w11 W from hW)); rwa [HTU.out] at h) ?_
                simp only [Act.put, List.setIfInBounds_toArray, List.set_cons_succ, List.set_cons_zero]
                have g0 := HE1.out
                have g1 := HE2.out
                repeat (first | go_big_quiet_skip | (go_big_quiet_want; go_big_quiet_op; first | go_big_quiet_on | (refine ⟨_, fun _ _ => rfl, ?_⟩; go_big_quiet_on)))
                refine wpQuiet_nil ?_
                clear g0 g1
                refine Tc.plan_done (l := []) rfl (fun K hK => ?_)
                go_wp2_with (((with_reducible (show wpList _ _ _ (Oper.mk none _ _ _ _ _ :: _) _ _)); refine wpList_store_rowV rfl 27 (.tmp 2) (.tmp 96) rfl w.heap.size rfl 38 _ (akC ak0) (akC ak0) rfl Z11.out (by kernel_rfl) (fun j _ => akC_one _ j) ?_; intro w14 Z14 O14))
                refine bodyPost_ret (v := .tuple #[.agg (rowF 38 (akC ak0)), .int .i64 330]) (by exact results_rowV2 (fn := Tryd.f12) (p := 2) (u := 3) (ty := 27) rfl _ _ w.heap.size 38 27 _ _ rfl Z14.out Tryd.underlying27 rfl (by kernel_rfl)) rfl ⟨by rw [RE.out, RV.out], ?_⟩
                exact B11.out.trans (O14.out.below (Nat.le_refl _) B11.out.size)
    · have d7 : ((m : Int) == 7) = false := by rw [beq_eq_false_iff_ne]; omega
      have d8 : (m == 7) = false := by rw [beq_eq_false_iff_ne]; exact h7
      obtain rfl : re = 330 := by rw [VE2.out, if_neg (fun h => h7 h.1)]
      obtain rfl : rv = ak0 := by rw [VV1.out, if_neg (by decide)]
      clear h7
      go_wp2_with ((with_reducible (show wpList _ _ _ (Oper.mk none _ _ _ _ _ :: _) _ _)); refine wpList_store_rowV rfl 27 (.tmp 2) (.tmp 21) rfl w.heap.size rfl 38 _ (akC ak0) (akC ak0) rfl Z3.out (by kernel_rfl) (fun j _ => akC_one _ j) ?_; intro w9 Z9 O9)
      go_wp2_with fail
      refine bodyPost_ret (v := .tuple #[.agg (rowF 38 (akC ak0)), .int .i64 330]) (by exact results_rowV2 (fn := Tryd.f12) (p := 2) (u := 3) (ty := 27) rfl _ _ w.heap.size 38 27 _ _ rfl Z9.out Tryd.underlying27 rfl (by kernel_rfl)) rfl ⟨rfl, ?_⟩
      exact B3.out.trans (O9.out.below (Nat.le_refl _) B3.out.size)
end Go.Proofs.YtbjbgneejdjniaaDoor
