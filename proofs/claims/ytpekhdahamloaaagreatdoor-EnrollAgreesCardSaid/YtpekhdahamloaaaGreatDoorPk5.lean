/- The reference's SHA-256: numbers, block. -/
import Derived.Test.YtpekhdahamloaaaGreatDoorPk8
import Derived.Test.YtpekhdahamloaaaGreatDoorPk3
import Derived.Test.YtpekhdahamloaaaGreatDoorPk4
set_option linter.unusedVariables false
set_option linter.unusedSimpArgs false
namespace Go.Proofs.YtpekhdahamloaaaGreatDoor
open Go.RowKit
open Sha (Wd St)

section
variable {P : Program} {w : World} {ops : Array Oper} {rest : List Oper} {o : Oper} {a : Act} {Q : Exit → Act → World → Prop}
/-- an operation whose value is known by reckoning -/
theorem wpList_value (hgd : o.guard = none) (v : Value) (hr : (execOp a.eval o).run P w = .ok (.value v) w) (h : wpList P ops Q rest (a.put o.dst v) w) : wpList P ops Q (o :: rest) a w := by
  refine wpList_plain hgd fun K hK => ?_
  unfold Oper.wp
  rw [hr]
  exact hK _ _ h
/-- an array written whole, its cells written out -/
theorem wpList_store_cells (hgd : o.guard = none) (ty : TypeId) (x y : Operand) (ho : o.op = .store ty x y) (g : Nat) (hx : a.eval x = .pointer (some ⟨g, 0, none⟩)) (N : Nat) (T : TypeId) (f f' : Nat → Value) (cs : Array Value) (hy : a.eval y = .agg cs) (hcs : cs = rowF N f')
    (hrow : RowV w g T N f) (hi : (P.info? ty).map (·.size) = some N) (h1 : ∀ j, j < N → (f' j).oneCell' = true)
    (h : ∀ w', Hid (RowV w' g T N f') → Hid (OnlyB g w w') → wpList P ops Q rest (a.put o.dst undef) w') : wpList P ops Q (o :: rest) a w :=
  wpList_store_rowV hgd ty x y ho g hx N T f f' (hcs ▸ hy) hrow hi h1 h
end
theorem plus_row (s r : St) : #[vU (s.a + r.a), vU (s.b + r.b), vU (s.c + r.c), vU (s.d + r.d), vU (s.e + r.e), vU (s.f + r.f), vU (s.g + r.g), vU (s.h + r.h)] = rowF 8 (fun i => vU ((Sha.plus s r).out i)) := by
  rw [rowF_congr (g' := fun i => vU (s.out i + r.out i)) (fun i hi => by rw [St.out_plus s r i hi])]
  rfl

set_option maxRecDepth 100000 in
set_option maxHeartbeats 1000000 in
theorem refnumbers_any (w : World) :
    Calls Tryz.prog 168 #[] w fun e w' => e = .returned (.agg (rowF 64 fun i => vU (Sha.K i))) ∧ Below w.heap.size w w' := by
  have R1 := RowV.new w 199 64 (fun _ => vU 0)
  have B1 : Below w.heap.size w (w.alloc (.cells (rowF 64 fun _ => vU 0) 199)) := (Below.refl _ _).alloc (Nat.le_refl _) _
  go_enter Tryz.func168, Tryz.ntmps168
  go_wp2_with (first
    | (refine wpList_value (o := ⟨some 1, _, _, _, _, _⟩) rfl (.agg (rowF 64 fun i => vU (Sha.K i))) (by kernel_rfl) ?_)
    | (refine wpList_store_rowV (o := ⟨none, .store 199 (.tmp 0) (.tmp 1), _, _, _, _⟩) rfl 199 (.tmp 0) (.tmp 1) rfl w.heap.size rfl 64 199 (fun _ => vU 0) _ rfl R1 (by kernel_rfl) (fun _ _ => rfl) ?_; intro w5 R5 O5))
  exact bodyPost_ret (v := .agg (rowF 64 fun i => vU (Sha.K i))) (results_rowV rfl _ _ w.heap.size 64 199 _ _ rfl R5.out Tryz.underlying199 rfl (by kernel_rfl)) rfl ⟨rfl, B1.trans (O5.out.below (Nat.le_refl _) (Nat.le_of_lt R1.lt))⟩

/-- the reference's block: t words of the schedule reckoned -/
def RefI (c : Nat → UInt8) (s : St) (w : World) (B bw t : Nat) (wx : World) : Prop :=
  RowV wx bw 199 64 (schedRow c t) ∧ RowV wx B 162 8 (fun i => vU (s.out i)) ∧ RowV wx (B + 1) 162 8 (fun _ => vU 0) ∧ Below B w wx ∧ B + 1 < bw
theorem RefI.step {c : Nat → UInt8} {s : St} {w wx : World} {B bw t : Nat} (h : RefI c s w B bw t wx) {x : Wd} (hx : x = Sha.sched (Sha.wordsC c) t) : RefI c s w B bw (t + 1) (wx.setCell ⟨bw, t, none⟩ (vU x)) := by
  obtain ⟨h1, h2, h3, h4, h5⟩ := h
  refine ⟨h1.put fun i _ => ?_, h2.other (a := ⟨bw, t, none⟩) (show B ≠ bw by omega) _, h3.other (a := ⟨bw, t, none⟩) (show B + 1 ≠ bw by omega) _, h4.setCell (p := ⟨bw, t, none⟩) (show B ≤ bw by omega) _, h5⟩
  subst hx
  unfold schedRow
  by_cases hi : i = t
  · subst hi; rw [if_pos rfl, if_pos (by omega)]
  · rw [if_neg hi]
    by_cases h2 : i < t
    · rw [if_pos h2, if_pos (by omega)]
    · rw [if_neg h2, if_neg (by omega)]
theorem RefI.drewN {c : Nat → UInt8} {s : St} {w wx : World} {B bw t : Nat} (h : RefI c s w B bw t wx) (n : Nat) : RefI c s w B bw t (wx.drewN n) := ⟨h.1, h.2.1, h.2.2.1, ⟨h.2.2.2.1.os, h.2.2.2.1.tape, h.2.2.2.1.output, h.2.2.2.1.size, h.2.2.2.1.block⟩, h.2.2.2.2⟩
theorem RefI.cell {c : Nat → UInt8} {s : St} {w wx : World} {B bw t i : Nat} (h : RefI c s w B bw t wx) (hi : i < t) (ht : t ≤ 64) : wx.cell? ⟨bw, i, none⟩ = some (vU (Sha.sched (Sha.wordsC c) i)) := by
  rw [h.1.cell (by omega)]; unfold schedRow; rw [if_pos hi]

set_option maxRecDepth 100000 in
set_option maxHeartbeats 4000000 in
theorem refblock_any (b off cap : Nat) (s : St) (c : Nat → UInt8) (w : World) (hcap : 64 ≤ cap) (hm : (cap : Int) ≤ 9223372036854775807)
    (hb : b < w.heap.size) (hc : ∀ j, j < 64 → w.cell? ⟨b, off + j, none⟩ = some (vB (c j))) :
    Calls Tryz.prog 149 #[.agg #[vU s.a, vU s.b, vU s.c, vU s.d, vU s.e, vU s.f, vU s.g, vU s.h], .slice (some ⟨b, off, none⟩) 64 cap] w fun e w' => e = .returned (.agg (rowF 8 fun i => vU ((Sha.comp s (Sha.wordsC c)).out i))) ∧ Below w.heap.size w w' := by
  have Hc := Lib.hid hc
  have R0 : RowV (w.alloc (.cells (rowF 8 fun i => vU (s.out i)) 162)) w.heap.size 162 8 (fun i => vU (s.out i)) := RowV.new _ _ _ _
  have B0 : Below w.heap.size w (w.alloc (.cells (rowF 8 fun i => vU (s.out i)) 162)) := (Below.refl _ _).alloc (Nat.le_refl _) _
  have e0 : (w.alloc (.cells (rowF 8 fun i => vU (s.out i)) 162)).heap.size = w.heap.size + 1 := World.size_alloc _ _
  have R1 := R0.alloc (.cells (rowF 8 fun _ => vU 0) 162)
  have R1' := RowV.new (w.alloc (.cells (rowF 8 fun i => vU (s.out i)) 162)) 162 8 (fun _ => vU 0)
  have B1 := B0.alloc (by rw [e0]; omega) (.cells (rowF 8 fun _ => vU 0) 162)
  have e1 : ((w.alloc (.cells (rowF 8 fun i => vU (s.out i)) 162)).alloc (.cells (rowF 8 fun _ => vU 0) 162)).heap.size = w.heap.size + 1 + 1 := by rw [World.size_alloc, e0]
  rw [e0] at R1'
  have R2 := R1.alloc (.cells (rowF 64 fun _ => vU 0) 199)
  have R2' := R1'.alloc (.cells (rowF 64 fun _ => vU 0) 199)
  have R2'' := RowV.new ((w.alloc (.cells (rowF 8 fun i => vU (s.out i)) 162)).alloc (.cells (rowF 8 fun _ => vU 0) 162)) 199 64 (fun _ => vU 0)
  have B2 := B1.alloc (by rw [e1]; omega) (.cells (rowF 64 fun _ => vU 0) 199)
  rw [e1] at R2''
  have HI := Lib.hid (fun w' (h : OnlyB (w.heap.size + 1 + 1) _ w') (hr : RowV w' (w.heap.size + 1 + 1) 199 64 (fun _ => vU 0)) => (show RefI c s w w.heap.size (w.heap.size + 1 + 1) 0 w' from
    ⟨hr.congr fun i _ => rfl, h.row (by omega) R2, h.row (by omega) R2', B2.trans (h.below (by omega) (Nat.le_of_lt R2.lt)), by omega⟩))
  have HR := Lib.hid R2''
  clear hc R0 B0 e0 R1 R1' B1 e1 R2 R2' R2'' B2
  go_enter Tryz.func149, Tryz.ntmps149
  go_wp2_with (first
    | (refine wpList_value (o := ⟨some 22, _, _, _, _, _⟩) rfl (.agg (rowF 64 fun _ => vU 0)) (by kernel_rfl) ?_)
    | (refine wpList_store_rowV (o := ⟨none, .store 199 (.tmp 5) (.tmp 22), _, _, _, _⟩) rfl 199 (.tmp 5) (.tmp 22) rfl (w.heap.size + 1 + 1) rfl 64 199 (fun _ => vU 0) _ rfl HR.out (by kernel_rfl) (fun _ _ => rfl) ?_; intro w1 R5 O5))
  have I0 := Lib.hid (HI.out w1 O5.out R5.out)
  clear HI HR R5 O5
  obtain ⟨B, hB⟩ : ∃ B, w.heap.size = B := ⟨_, rfl⟩
  have HB := Lib.hid hB
  rw [hB] at I0 hb ⊢
  obtain ⟨bw, hbw⟩ : ∃ x, B + 1 + 1 = x := ⟨_, rfl⟩
  rw [hbw] at I0 ⊢
  clear hB hbw
  go_loopg [6] 16 (fun g s6 wx => ∃ t : Nat, t + g = 16 ∧ s6 = .int .i64 (t : Int) ∧ Hid (RefI c s w B bw t wx))
  case atStart => exact ⟨0, by omega, rfl, I0⟩
  case round =>
    obtain ⟨t, ht, rfl, hI⟩ := hrel
    clear I0
    by_cases ht16 : t < 16
    · have d0 : decide ((t : Int) < 16) = true := by rw [decide_eq_true_iff]; omega
      have z1 : (0 : Int) ≤ (t : Int) := Int.natCast_nonneg t
      have z2 : (t : Int) < 16 := by omega
      have z3 : ((t : Int)).toNat = t := Int.toNat_natCast t
      have z4 : (t : Int) < 64 := by omega
      have z5 : 4 * t + 4 - 4 * t = 4 := by omega
      have z6 : (4 * (t : Int) + 4).toNat = 4 * t + 4 := by omega
      have z7 : (4 * (t : Int)).toNat = 4 * t := by omega
      have hr := hI.out.1
      have c1 := hr.cell (show t < 64 by omega)
      have c2 := hr.frozen t
      have hw := refword_any b (off + 4 * t) 4 (cap - 4 * t) (fun j => c (4 * t + j)) wr (by omega) (by omega) (fun j hj => by
        have hz : Below w.heap.size w wr := by rw [HB.out]; exact hI.out.2.2.2.1
        rw [Nat.add_assoc]
        exact cellsAt_below (g := fun j => vB (c j)) Hc.out (by rw [HB.out]; exact hb) hz (4 * t + j) (by omega))
      have hnx := hI.out.step (t := t) (x := Sha.word4 (c (4 * t + 0)) (c (4 * t + 1)) (c (4 * t + 2)) (c (4 * t + 3))) (by rw [Sha.sched_lo _ ht16]; rfl)
      obtain ⟨x, hx⟩ : ∃ x, Sha.word4 (c (4 * t + 0)) (c (4 * t + 1)) (c (4 * t + 2)) (c (4 * t + 3)) = x := ⟨_, rfl⟩
      rw [hx] at hw hnx
      have Hnx := Lib.hid hnx
      have Hw := Lib.hid hw
      obtain ⟨v0, hv0⟩ : ∃ v, schedRow c t t = v := ⟨_, rfl⟩
      rw [hv0] at c1
      clear hw hx hr hv0 hnx
      go_wp2_with fail
      refine (Hw.out).mono ?_
      rintro e w' ⟨rfl, nd, rfl⟩
      go_wp2_with fail
      go_roundg (gk - 1)
      case measure => omega
      case rel =>
        go_light
        exact ⟨t + 1, by omega, by go_num, Lib.hid (Hnx.out.drewN nd)⟩
    · have d0 : decide ((t : Int) < 16) = false := by rw [decide_eq_false_iff_not]; omega
      obtain rfl : t = 16 := by omega
      clear ht ht16
      go_wp2_with fail
      clear d0
      go_loopg [7, 8, 9] 48 (fun g s7 s8 s9 wx => ∃ t : Nat, t + g = 64 ∧ 16 ≤ t ∧ s7 = .int .i64 (t : Int) ∧ Hid (RefI c s w B bw t wx))
      case atStart => exact ⟨16, by omega, by omega, rfl, hI⟩
      case round =>
        clear hI
        obtain ⟨t, ht, ht16, rfl, hI⟩ := hrel
        by_cases ht64 : t < 64
        · have d0 : decide ((t : Int) < 64) = true := by rw [decide_eq_true_iff]; omega
          have z2 : (t : Int) < 64 := by omega
          have z3 : ((t : Int)).toNat = t := Int.toNat_natCast t
          have y16 : (16 : Int) ≤ (t : Int) := by omega
          have e15 : ((t : Int) - 15).toNat = t - 15 := by omega
          have e2 : ((t : Int) - 2).toNat = t - 2 := by omega
          have e16 : ((t : Int) - 16).toNat = t - 16 := by omega
          have e7 : ((t : Int) - 7).toNat = t - 7 := by omega
          have hi := hI.out
          have c15 := hi.cell (show t - 15 < t by omega) (by omega)
          have c2 := hi.cell (show t - 2 < t by omega) (by omega)
          have c16 := hi.cell (show t - 16 < t by omega) (by omega)
          have c7 := hi.cell (show t - 7 < t by omega) (by omega)
          have c0 := hi.1.cell (show t < 64 by omega)
          have f0 := hi.1.frozen t
          have hnx := fun (y : Wd) (hy : y = _) => hi.step (x := y) (hy.trans (Sha.sched_hi (Sha.wordsC c) (show ¬ t < 16 by omega)).symm)
          obtain ⟨x15, h15⟩ : ∃ x, Sha.sched (Sha.wordsC c) (t - 15) = x := ⟨_, rfl⟩
          obtain ⟨x2, h2⟩ : ∃ x, Sha.sched (Sha.wordsC c) (t - 2) = x := ⟨_, rfl⟩
          obtain ⟨x16, h16⟩ : ∃ x, Sha.sched (Sha.wordsC c) (t - 16) = x := ⟨_, rfl⟩
          obtain ⟨x7, h7⟩ : ∃ x, Sha.sched (Sha.wordsC c) (t - 7) = x := ⟨_, rfl⟩
          obtain ⟨v0, hv0⟩ : ∃ v, schedRow c t t = v := ⟨_, rfl⟩
          rw [h15] at c15 hnx; rw [h2] at c2 hnx; rw [h16] at c16 hnx; rw [h7] at c7 hnx; rw [hv0] at c0
          have Hnx := Lib.hid hnx
          have a1 := fun y z => U_add y z
          have a2 := fun y z => U_xor y z
          have a3 : ∀ x : Wd, U x / (8 : Int) = U (x >>> 3) := fun x => U_shr x 3
          have a4 : ∀ x : Wd, U x / (1024 : Int) = U (x >>> 10) := fun x => U_shr x 10
          have w16 : IntKind.i64.wrap ((t : Int) - 16) = (t : Int) - 16 := by rw [IntKind.wrap_i64]; omega
          have w7 : IntKind.i64.wrap ((t : Int) - 7) = (t : Int) - 7 := by rw [IntKind.wrap_i64]; omega
          have y7 : (7 : Int) ≤ (t : Int) := by omega
          have p16 : 0 ≤ (t : Int) - 16 ∧ (t : Int) - 16 < 64 := by omega
          have p7 : 0 ≤ (t : Int) - 7 ∧ (t : Int) - 7 < 64 := by omega
          have p0 : 0 ≤ (t : Int) ∧ (t : Int) < 64 := by omega
          clear h15 h2 h16 h7 hv0 hnx hi
          go_upto_region 11 with fail
          refine wp_draw_tail 29 (by kernel_rfl) (by kernel_rfl) ?_
          simp only [List.take_succ_cons, List.take_zero, List.drop_succ_cons, List.drop_zero]
          repeat (go_big_quiet_step (fail))
          go_big_quiet_step ((go_at_call 167; exact qdraw (ror7 _ _)))
          repeat (go_big_quiet_step (fail))
          go_big_quiet_step ((go_at_call 167; exact qdraw (ror18 _ _)))
          repeat (go_big_quiet_step (fail))
          go_big_quiet_step ((go_at_call 167; exact qdraw (ror17 _ _)))
          repeat (go_big_quiet_step (fail))
          go_big_quiet_step ((go_at_call 167; exact qdraw (ror19 _ _)))
          repeat (go_big_quiet_step (fail))
          refine wpQuiet_nil ?_
          intro _ hw'
          obtain ⟨nq, hw''⟩ := hw'
          subst hw''
          go_wp2_with fail
          go_roundg (gk - 1)
          case measure => omega
          case rel =>
            go_light
            exact ⟨t + 1, by omega, by omega, by go_num, Lib.hid ((Hnx.out _ rfl).drewN _)⟩
        · have d0 : decide ((t : Int) < 64) = false := by rw [decide_eq_false_iff_not]; omega
          obtain rfl : t = 64 := by omega
          clear ht ht64 ht16
          have I1 := hI.out
          have hsz : bw < wr.heap.size := I1.1.lt
          have hN := fun W => refnumbers_any W
          have HN := Lib.hid hN
          clear hN
          go_wp2_with fail
          refine (HN.out _).mono ?_
          rintro e w2 ⟨rfl, b2⟩
          have I2 : Hid (RowV w2 bw 199 64 (schedRow c 64) ∧ RowV w2 B 162 8 (fun i => vU (s.out i)) ∧ RowV w2 (B + 1) 162 8 (fun _ => vU 0) ∧ Below B w w2) :=
            Lib.hid ⟨I1.1.below b2, I1.2.1.below b2, I1.2.2.1.below b2, I1.2.2.2.1.trans (b2.mono (by have := I1.2.2.2.2; omega))⟩
          have hBw : B + 1 < bw := I1.2.2.2.2
          have hbk : bw < w2.heap.size := Nat.lt_of_lt_of_le hsz b2.size
          have R3 := Lib.hid (RowV.new w2 199 64 (fun _ => vU 0))
          have I3 : Hid (RowV (w2.alloc (.cells (rowF 64 fun _ => vU 0) 199)) bw 199 64 (schedRow c 64) ∧ RowV (w2.alloc (.cells (rowF 64 fun _ => vU 0) 199)) B 162 8 (fun i => vU (s.out i)) ∧ RowV (w2.alloc (.cells (rowF 64 fun _ => vU 0) 199)) (B + 1) 162 8 (fun _ => vU 0) ∧ Below B w (w2.alloc (.cells (rowF 64 fun _ => vU 0) 199))) :=
            Lib.hid ⟨I2.out.1.alloc _, I2.out.2.1.alloc _, I2.out.2.2.1.alloc _, I2.out.2.2.2.alloc (by omega) _⟩
          clear I1 b2 I2 hI hsz d0
          go_upto_region 13 with (refine wpList_store_rowV (o := ⟨none, .store 199 (.tmp 10) (.tmp 78), _, _, _, _⟩) rfl 199 (.tmp 10) (.tmp 78) rfl w2.heap.size rfl 64 199 (fun _ => vU 0) _ rfl R3.out (by kernel_rfl) (fun _ _ => rfl) ?_; intro w4 R4 O4)
          have I4 : Hid (RowV w4 bw 199 64 (schedRow c 64) ∧ RowV w4 B 162 8 (fun i => vU (s.out i)) ∧ RowV w4 (B + 1) 162 8 (fun _ => vU 0) ∧ Below B w w4 ∧ RowV w4 w2.heap.size 199 64 (fun i => vU (Sha.K i))) :=
            Lib.hid ⟨O4.out.row (by omega) I3.out.1, O4.out.row (by omega) I3.out.2.1, O4.out.row (by omega) I3.out.2.2.1, I3.out.2.2.2.trans (O4.out.below (by omega) (by rw [World.size_alloc]; omega)), R4.out⟩
          clear I3 R3 O4 R4
          obtain ⟨bk, hbke⟩ : ∃ x, w2.heap.size = x := ⟨_, rfl⟩
          rw [hbke] at I4 hbk ⊢
          clear hbke
          have hs := I4.out.2.1
          have v0 := hs.cell (show 0 < 8 by decide)
          have v1 := hs.cell (show 1 < 8 by decide)
          have v2 := hs.cell (show 2 < 8 by decide)
          have v3 := hs.cell (show 3 < 8 by decide)
          have v4 := hs.cell (show 4 < 8 by decide)
          have v5 := hs.cell (show 5 < 8 by decide)
          have v6 := hs.cell (show 6 < 8 by decide)
          have v7 := hs.cell (show 7 < 8 by decide)
          simp only [Sha.St.out] at v0 v1 v2 v3 v4 v5 v6 v7
          clear hs
          go_quiet (fail)
          clear v0 v1 v2 v3 v4 v5 v6 v7
          go_wp2_with fail
          go_loopg [11, 12, 13, 14, 15, 16, 17, 18, 19, 20, 21] 64 (fun g s11 s12 s13 s14 s15 s16 s17 s18 s19 s20 s21 wx => ∃ (t : Nat) (r : St), t + g = 64 ∧ Hid (r = Sha.rnds (Sha.sched (Sha.wordsC c)) s t) ∧ s19 = .int .i64 (t : Int) ∧ s11 = vU r.a ∧ s12 = vU r.b ∧ s13 = vU r.c ∧ s14 = vU r.d ∧ s15 = vU r.e ∧ s16 = vU r.f ∧ s17 = vU r.g ∧ s18 = vU r.h ∧
            Hid (RowV wx bw 199 64 (schedRow c 64) ∧ RowV wx B 162 8 (fun i => vU (s.out i)) ∧ RowV wx (B + 1) 162 8 (fun _ => vU 0) ∧ Below B w wx ∧ RowV wx bk 199 64 (fun i => vU (Sha.K i))))
          case atStart =>
            go_light
            exact ⟨0, s, by omega, Lib.hid rfl, rfl, rfl, rfl, rfl, rfl, rfl, rfl, rfl, rfl, Lib.hid ⟨I4.out.1, I4.out.2.1, I4.out.2.2.1, ⟨I4.out.2.2.2.1.os, I4.out.2.2.2.1.tape, I4.out.2.2.2.1.output, I4.out.2.2.2.1.size, I4.out.2.2.2.1.block⟩, I4.out.2.2.2.2⟩⟩
          case round =>
            clear I4
            obtain ⟨t, r, ht, hr, rfl, rfl, rfl, rfl, rfl, rfl, rfl, rfl, rfl, hJ⟩ := hrel
            by_cases ht64 : t < 64
            · have d0 : decide ((t : Int) < 64) = true := by rw [decide_eq_true_iff]; omega
              have z1 : (0 : Int) ≤ (t : Int) := Int.natCast_nonneg t
              have z2 : (t : Int) < 64 := by omega
              have z3 : ((t : Int)).toNat = t := Int.toNat_natCast t
              have p0 : 0 ≤ (t : Int) ∧ (t : Int) < 64 := by omega
              have ck := hJ.out.2.2.2.2.cell ht64
              have cw := hJ.out.1.cell ht64
              rw [show schedRow c 64 t = vU (Sha.sched (Sha.wordsC c) t) from by unfold schedRow; rw [if_pos ht64]] at cw
              have Hn := Lib.hid (show Sha.rnd (Sha.K t) (Sha.sched (Sha.wordsC c) t) r = Sha.rnds (Sha.sched (Sha.wordsC c)) s (t + 1) from by rw [hr.out]; rfl)
              obtain ⟨wt, hwt⟩ : ∃ x, Sha.sched (Sha.wordsC c) t = x := ⟨_, rfl⟩
              obtain ⟨kt, hkt⟩ : ∃ x, Sha.K t = x := ⟨_, rfl⟩
              rw [hwt] at cw Hn; rw [hkt] at ck Hn
              have a1 := fun y z => U_add y z
              have a2 := fun y z => U_xor y z
              have a3 := fun y z => U_and y z
              have a4 := fun y => U_not y
              clear hwt hkt hr
              go_upto_region 17 with fail
              refine wp_region_quiet_lit (by kernel_rfl) (by kernel_rfl) ?_
              repeat (go_big_quiet_step (fail))
              go_big_quiet_step ((go_at_call 167; exact qdraw (ror6 _ _)))
              repeat (go_big_quiet_step (fail))
              go_big_quiet_step ((go_at_call 167; exact qdraw (ror11 _ _)))
              repeat (go_big_quiet_step (fail))
              go_big_quiet_step ((go_at_call 167; exact qdraw (ror25 _ _)))
              repeat (go_big_quiet_step (fail))
              refine wpQuiet_nil ?_
              intro _ hw'
              obtain ⟨nq, hw''⟩ := hw'
              subst hw''
              go_wp2_with fail
              refine (ror2 _ _).mono ?_
              rintro e w' ⟨rfl, n1, rfl⟩
              go_wp2_with fail
              refine (ror13 _ _).mono ?_
              rintro e w' ⟨rfl, n2, rfl⟩
              go_wp2_with fail
              refine (ror22 _ _).mono ?_
              rintro e w' ⟨rfl, n3, rfl⟩
              go_wp2_with fail
              go_roundg (gk - 1)
              case measure => omega
              case rel =>
                go_light
                refine ⟨t + 1, Sha.rnd kt wt r, by omega, Hn, by go_num, rfl, rfl, rfl, rfl, rfl, rfl, rfl, rfl, Lib.hid ?_⟩
                have hj := hJ.out
                exact ⟨hj.1, hj.2.1, hj.2.2.1, ⟨hj.2.2.2.1.os, hj.2.2.2.1.tape, hj.2.2.2.1.output, hj.2.2.2.1.size, hj.2.2.2.1.block⟩, hj.2.2.2.2⟩
            · have d0 : decide ((t : Int) < 64) = false := by rw [decide_eq_false_iff_not]; omega
              obtain rfl : t = 64 := by omega
              have hs := hJ.out.2.1
              have v0 := hs.cell (show 0 < 8 by decide)
              have v1 := hs.cell (show 1 < 8 by decide)
              have v2 := hs.cell (show 2 < 8 by decide)
              have v3 := hs.cell (show 3 < 8 by decide)
              have v4 := hs.cell (show 4 < 8 by decide)
              have v5 := hs.cell (show 5 < 8 by decide)
              have v6 := hs.cell (show 6 < 8 by decide)
              have v7 := hs.cell (show 7 < 8 by decide)
              simp only [Sha.St.out] at v0 v1 v2 v3 v4 v5 v6 v7
              have a1 := fun y z => U_add y z
              have R9 := Lib.hid hJ.out.2.2.1
              have B9 := Lib.hid hJ.out.2.2.2.1
              clear hs hJ ht ht64
              have Hplus := Lib.hid (plus_row s r)
              go_upto_region 20 with fail
              refine wp_region_lit ?_
              go_wp2_with ((with_reducible (show wpList _ _ _ (Oper.mk none (Op.store _ _ _) _ _ _ _ :: _) _ _)); refine wpList_store_cells rfl 162 (.tmp 4) (.tmp 190) rfl (B + 1) rfl 8 162 (fun _ => vU 0) (fun i => vU ((Sha.plus s r).out i)) _ rfl Hplus.out R9.out (by kernel_rfl) (fun _ _ => rfl) ?_; intro w9 R10 O10)
              refine bodyPost_ret (v := .agg (rowF 8 fun i => vU ((Sha.plus s r).out i))) (results_rowV rfl _ _ (B + 1) 8 162 _ _ rfl R10.out Tryz.underlying162 rfl (by kernel_rfl)) rfl ?_
              go_light
              refine ⟨by rw [hr.out]; rfl, ?_⟩
              rw [HB.out]
              exact B9.out.trans (O10.out.below (by omega) (Nat.le_trans (Nat.le_of_lt (show B < B + 1 by omega)) (Nat.le_of_lt R9.out.lt)))
end Go.Proofs.YtpekhdahamloaaaGreatDoor
