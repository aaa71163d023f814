/- Package people: isDevice, Owner, formed; its reference. -/
import Derived.Test.YtmmppibbglacdaaDoorPk40
set_option linter.unusedVariables false
set_option linter.unusedSimpArgs false
namespace Go.Proofs.YtmmppibbglacdaaDoor
open Go.RowKit Cod
theorem bits_i64 {z : Int} (h0 : 0 ≤ z) (h1 : z < 512) : IntKind.i64.wrap (z.tdiv 8) = z.tdiv 8 := IntWalk.i64_in _ (by rw [Int.tdiv_eq_ediv_of_nonneg h0]; omega)
theorem devB_iff (d : Int) : devB d = true ↔ 0 ≤ d ∧ d < 512 := by unfold devB; simp only [Bool.and_eq_true, decide_eq_true_eq]
def ownE (d : Int) : Int := if devB d then 0 else 371
def ownV (d : Int) : Int := if devB d then d.tdiv 8 else 0
theorem ct_cell {w : World} {B : Nat} {T : TypeId} {c : Ct} (h : RowV w B T 8 (ctC c)) {i : Nat} (hi : i < 8) : w.cell? ⟨B, i, none⟩ = some (.int .i64 (c.at i)) := h.cell hi
set_option maxRecDepth 100000 in
set_option maxHeartbeats 2000000 in
theorem pdev_any (d : Int) (w : World) :
    Calls Tryd.prog 28 #[.int .i64 d] w fun e w' => e = .returned (.bool (devB d)) ∧ w = w' := by
  have HU : Hid (devB d = (decide (0 ≤ d) && decide (d < 512))) := Lib.hid rfl
  rw [HU.out]
  clear HU
  go_enter Tryd.func28, Tryd.ntmps28
  cases h0 : decide (0 ≤ d)
  · go_wp2_with fail
    go_ret
    exact ⟨rfl, rfl⟩
  cases h1 : decide (d < 512)
  · go_wp2_with fail
    go_ret
    exact ⟨rfl, rfl⟩
  · go_wp2_with fail
    go_ret
    exact ⟨rfl, rfl⟩
set_option maxRecDepth 100000 in
set_option maxHeartbeats 2000000 in
theorem powner_any (d : Int) (w : World) :
    Calls Tryd.prog 11 #[.int .i64 d] w fun e w' => e = .returned (.tuple #[.int .i64 (ownV d), .int .i64 (ownE d)]) ∧ w = w' := by
  have D := pdev_any d
  have q : devB d = true → IntKind.i64.wrap (d.tdiv 8) = d.tdiv 8 := fun h => by
    have := (devB_iff d).1 h
    exact bits_i64 this.1 this.2
  unfold ownV ownE
  obtain ⟨b, hb⟩ : ∃ y, devB d = y := ⟨_, rfl⟩
  rw [hb] at D q ⊢
  have DH := Lib.hid D
  clear D hb
  cases b
  · clear q
    go_enter Tryd.func11, Tryd.ntmps11
    have B0 := Lib.hid (Below.refl w.heap.size w)
    go_wp2_with fail
    refine (DH.out _).mono ?_
    rintro e wp ⟨rfl, rfl⟩
    go_wp2_with fail
    go_ret2
    exact ⟨rfl, rfl⟩
  · have q1 := q rfl
    clear q
    go_enter Tryd.func11, Tryd.ntmps11
    have B0 := Lib.hid (Below.refl w.heap.size w)
    go_wp2_with fail
    refine (DH.out _).mono ?_
    rintro e wp ⟨rfl, rfl⟩
    go_wp2_with fail
    go_ret2
    exact ⟨rfl, rfl⟩
set_option maxRecDepth 100000 in
set_option maxHeartbeats 8000000 in
theorem pformed_any (c : Ct) (w : World) :
    Calls Tryd.prog 23 #[.agg (rowF 8 (ctC c))] w fun e w' => e = .returned (.bool (formC c)) ∧ Below w.heap.size w w' := by
  have D1 := pdev_any c.d
  have D2 := pdev_any c.b
  have K1 := fun W => check_any c.v W
  have K2 := fun W => check_any c.l W
  obtain ⟨F, hF⟩ : ∃ y, formC c = y := ⟨_, rfl⟩
  have FH : Hid (F = (devB c.d && !decide (c.n < 1) && !decide (1048576 < c.n) && kindB c)) := Lib.hid hF.symm
  have q1 : Hid (devB c.d = true → IntKind.i64.wrap (c.d.tdiv 8) = c.d.tdiv 8) := Lib.hid (fun h => by
    have := (devB_iff _).1 h
    exact bits_i64 this.1 this.2)
  have q2 : Hid (devB c.b = true → IntKind.i64.wrap (c.b.tdiv 8) = c.b.tdiv 8) := Lib.hid (fun h => by
    have := (devB_iff _).1 h
    exact bits_i64 this.1 this.2)
  have KB : Hid (kindB c = if c.k = 1 then (elemB c.v && elemB c.l) && decide (c.b = c.d) else if c.k = 2 then (elemB c.v && elemB c.l) && (devB c.b && !(c.b == c.d) && decide (c.b.tdiv 8 = c.d.tdiv 8)) else if c.k = 3 then (elemB c.v && elemB c.l) && decide (c.b = -1) else if c.k = 4 then decide (c.v = 0) && decide (c.l = 0) && (devB c.b && !(c.b == c.d) && decide (c.b.tdiv 8 = c.d.tdiv 8)) else false) := Lib.hid rfl
  rw [hF]
  clear hF
  obtain ⟨kd, hkd⟩ : ∃ y, c.k = y := ⟨_, rfl⟩
  obtain ⟨d, hd⟩ : ∃ y, c.d = y := ⟨_, rfl⟩
  obtain ⟨v, hv⟩ : ∃ y, c.v = y := ⟨_, rfl⟩
  obtain ⟨l, hl⟩ : ∃ y, c.l = y := ⟨_, rfl⟩
  obtain ⟨n, hn⟩ : ∃ y, c.n = y := ⟨_, rfl⟩
  obtain ⟨b, hb⟩ : ∃ y, c.b = y := ⟨_, rfl⟩
  have CX : Hid (c.at 0 = kd ∧ c.at 1 = d ∧ c.at 2 = v ∧ c.at 3 = l ∧ c.at 4 = n ∧ c.at 5 = b) := Lib.hid ⟨hkd, hd, hv, hl, hn, hb⟩
  rw [hd] at D1 q1 FH KB
  rw [hb] at D2 q2 KB
  rw [hv] at K1 KB
  rw [hl] at K2 KB
  rw [hn] at FH
  rw [hkd] at KB
  clear hkd hd hv hl hn hb
  unfold chk at K1 K2
  obtain ⟨db, hdb⟩ : ∃ y, devB d = y := ⟨_, rfl⟩
  obtain ⟨bb, hbb⟩ : ∃ y, devB b = y := ⟨_, rfl⟩
  obtain ⟨ev, hev⟩ : ∃ y, elemB v = y := ⟨_, rfl⟩
  obtain ⟨el, hel⟩ : ∃ y, elemB l = y := ⟨_, rfl⟩
  obtain ⟨kk, hkk⟩ : ∃ y, kindB c = y := ⟨_, rfl⟩
  rw [hdb] at D1 q1 FH
  rw [hbb] at D2 q2 KB
  rw [hev] at K1 KB
  rw [hel] at K2 KB
  rw [hkk] at FH KB
  have HD1 := Lib.hid D1; have HD2 := Lib.hid D2; have HK1 := Lib.hid K1; have HK2 := Lib.hid K2
  clear D1 D2 K1 K2 hdb hbb hev hel hkk
  go_enter Tryd.func23, Tryd.ntmps23
  have B0 := Lib.hid (Below.refl w.heap.size w)
  go_upto_region 1 with fail
  obtain ⟨w1, hw1⟩ : ∃ y, w.alloc (.cells (rowF 8 (ctC c)) 27) = y := ⟨_, rfl⟩
  have b1 : Below w.heap.size w w1 := by rw [← hw1]; exact (Below.refl _ _).alloc (Nat.le_refl _) _
  have C1 : Hid (RowV w1 w.heap.size 27 8 (ctC c)) := Lib.hid (by rw [← hw1]; exact RowV.new w _ 8 (ctC c))
  have z1 : w.heap.size + 1 = w1.heap.size := by rw [← hw1]; exact (Array.size_push _).symm
  rw [hw1]
  (try rw [z1])
  have B1 := Lib.hid (B0.out.trans (b1.mono B0.out.size))
  clear b1 hw1 z1 B0
  obtain ⟨e0, e1, e2, e3, e4, e5⟩ := CX.out
  have y0 : Hid (∀ W, Below w1.heap.size w1 W → W.cell? ⟨w.heap.size, 0, none⟩ = some (.int .i64 kd)) := Lib.hid (fun W hW => e0 ▸ ct_cell (C1.out.below hW) (i := 0) (by decide))
  have y1 : Hid (∀ W, Below w1.heap.size w1 W → W.cell? ⟨w.heap.size, 1, none⟩ = some (.int .i64 d)) := Lib.hid (fun W hW => e1 ▸ ct_cell (C1.out.below hW) (i := 1) (by decide))
  have y2 : Hid (∀ W, Below w1.heap.size w1 W → W.cell? ⟨w.heap.size, 2, none⟩ = some (.int .i64 v)) := Lib.hid (fun W hW => e2 ▸ ct_cell (C1.out.below hW) (i := 2) (by decide))
  have y3 : Hid (∀ W, Below w1.heap.size w1 W → W.cell? ⟨w.heap.size, 3, none⟩ = some (.int .i64 l)) := Lib.hid (fun W hW => e3 ▸ ct_cell (C1.out.below hW) (i := 3) (by decide))
  have y4 : Hid (∀ W, Below w1.heap.size w1 W → W.cell? ⟨w.heap.size, 4, none⟩ = some (.int .i64 n)) := Lib.hid (fun W hW => e4 ▸ ct_cell (C1.out.below hW) (i := 4) (by decide))
  have y5 : Hid (∀ W, Below w1.heap.size w1 W → W.cell? ⟨w.heap.size, 5, none⟩ = some (.int .i64 b)) := Lib.hid (fun W hW => e5 ▸ ct_cell (C1.out.below hW) (i := 5) (by decide))
  clear e0 e1 e2 e3 e4 e5 CX
  have R1 : Hid (Below w1.heap.size w1 w1) := Lib.hid (Below.refl _ w1)
  have x1 := y1.out _ R1.out
  go_wp2_with fail
  refine (HD1.out _).mono ?_
  rintro e w2 ⟨rfl, rfl⟩
  clear HD1
  cases db
  · obtain rfl : F = false := FH.out
    clear FH
    go_wp2_with fail
    go_ret
    exact ⟨rfl, B1.out⟩
  have qd := q1.out rfl
  have x4 := y4.out _ R1.out
  cases n0 : decide (n < 1)
  rotate_left
  · obtain rfl : F = false := by rw [FH.out, n0]; rfl
    clear FH
    go_wp2_with fail
    go_ret
    exact ⟨rfl, B1.out⟩
  cases n1 : decide (1048576 < n)
  rotate_left
  · obtain rfl : F = false := by rw [FH.out, n0, n1]; rfl
    clear FH
    go_wp2_with fail
    go_ret
    exact ⟨rfl, B1.out⟩
  obtain rfl : F = kk := by rw [FH.out, n0, n1]; cases kk <;> rfl
  clear FH
  go_upto_region 3 with fail
  clear n0 n1 x4 y4
  go_cut [3] (fun s3 wx => s3 = .bool (ev && el) ∧ Below w1.heap.size w1 wx)
  case first =>
    have x2 := y2.out _ R1.out
    go_wp2_with fail
    refine (HK1.out _).mono ?_
    rintro e w3 ⟨rfl, b3⟩
    have x3 := y3.out _ b3
    cases ev
    · go_wp2_with fail
      go_meet
      exact ⟨rfl, b3⟩
    · go_wp2_with fail
      refine (HK2.out _).mono ?_
      rintro e w4 ⟨rfl, b4⟩
      have B4 := b3.trans (b4.mono b3.size)
      cases el
      · go_wp2_with fail
        go_meet
        exact ⟨rfl, B4⟩
      · go_wp2_with fail
        go_meet
        exact ⟨rfl, B4⟩
  case rest =>
    rename World => w5
    obtain ⟨rfl, hB5⟩ := hcut
    obtain ⟨keys, hkeys⟩ : ∃ y, (ev && el) = y := ⟨_, rfl⟩
    rw [hkeys] at KB ⊢
    have B5 := Lib.hid hB5
    clear HK1 HK2 hkeys hB5 x1
    go_upto_region 4 with fail
    go_cut [4] (fun s4 wx => s4 = .bool (bb && !(b == d) && decide (b.tdiv 8 = d.tdiv 8)) ∧ w5 = wx)
    case first =>
      have x5 := y5.out _ B5.out
      have x1 := y1.out _ B5.out
      go_wp2_with fail
      refine (HD2.out _).mono ?_
      rintro e w6 ⟨rfl, rfl⟩
      cases bb
      · go_wp2_with fail
        go_meet
        exact ⟨rfl, rfl⟩
      · have qb := q2.out rfl
        cases z0 : (b == d)
        · have z3 : (b != d) = true := by show (!(b == d)) = true; rw [z0]; rfl
          cases z1 : decide (b.tdiv 8 = d.tdiv 8)
          · have z2 : (b.tdiv 8 == d.tdiv 8) = false := by rw [beq_eq_false_iff_ne]; exact of_decide_eq_false z1
            go_wp2_with fail
            go_meet
            exact ⟨by rw [z0, z1]; rfl, rfl⟩
          · have z2 : (b.tdiv 8 == d.tdiv 8) = true := by rw [beq_iff_eq]; exact of_decide_eq_true z1
            go_wp2_with fail
            go_meet
            exact ⟨by rw [z0, z1]; rfl, rfl⟩
        · have z3 : (b != d) = false := by show (!(b == d)) = false; rw [z0]; rfl
          go_wp2_with fail
          go_meet
          exact ⟨by rw [z0]; rfl, rfl⟩
    case rest =>
      obtain ⟨rfl, rfl⟩ := hcut
      obtain ⟨oth, hoth⟩ : ∃ y, (bb && !(b == d) && decide (b.tdiv 8 = d.tdiv 8)) = y := ⟨_, rfl⟩
      rw [hoth] at KB ⊢
      have BF := Lib.hid (B1.out.trans (B5.out.mono B1.out.size))
      have x0 := y0.out _ B5.out
      clear HD2 q1 q2 qd hoth
      by_cases k1 : kd = 1
      · subst k1
        have KB2 : Hid (F = (keys && decide (b = d))) := KB
        clear KB
        have x5 := y5.out _ B5.out
        have x1 := y1.out _ B5.out
        cases keys
        · obtain rfl : F = false := KB2.out
          go_wp2_with fail
          go_ret
          exact ⟨rfl, BF.out⟩
        · cases z0 : (b == d)
          · obtain rfl : F = false := by rw [KB2.out]; show decide (b = d) = false; rw [decide_eq_false_iff_not]; exact beq_eq_false_iff_ne.1 z0
            go_wp2_with fail
            go_ret
            exact ⟨rfl, BF.out⟩
          · obtain rfl : F = true := by rw [KB2.out]; show decide (b = d) = true; rw [decide_eq_true_iff]; exact beq_iff_eq.1 z0
            go_wp2_with fail
            go_ret
            exact ⟨rfl, BF.out⟩
      have k1b : (kd == 1) = false := by rw [beq_eq_false_iff_ne]; exact k1
      by_cases k2 : kd = 2
      · subst k2
        have KB2 : Hid (F = (keys && oth)) := KB
        clear KB k1 k1b
        cases keys
        · obtain rfl : F = false := KB2.out
          go_wp2_with fail
          go_ret
          exact ⟨rfl, BF.out⟩
        · obtain rfl : F = oth := KB2.out
          go_wp2_with fail
          go_ret
          exact ⟨rfl, BF.out⟩
      have k2b : (kd == 2) = false := by rw [beq_eq_false_iff_ne]; exact k2
      by_cases k3 : kd = 3
      · subst k3
        have KB2 : Hid (F = (keys && decide (b = -1))) := KB
        clear KB k1 k1b k2 k2b
        have x5 := y5.out _ B5.out
        cases keys
        · obtain rfl : F = false := KB2.out
          go_wp2_with fail
          go_ret
          exact ⟨rfl, BF.out⟩
        · cases z0 : (b == -1)
          · obtain rfl : F = false := by rw [KB2.out]; show decide (b = -1) = false; rw [decide_eq_false_iff_not]; exact beq_eq_false_iff_ne.1 z0
            go_wp2_with fail
            go_ret
            exact ⟨rfl, BF.out⟩
          · obtain rfl : F = true := by rw [KB2.out]; show decide (b = -1) = true; rw [decide_eq_true_iff]; exact beq_iff_eq.1 z0
            go_wp2_with fail
            go_ret
            exact ⟨rfl, BF.out⟩
      have k3b : (kd == 3) = false := by rw [beq_eq_false_iff_ne]; exact k3
      by_cases k4 : kd = 4
      · subst k4
        have KB2 : Hid (F = (decide (v = 0) && decide (l = 0) && oth)) := KB
        clear KB k1 k1b k2 k2b k3 k3b
        have x2 := y2.out _ B5.out
        have x3 := y3.out _ B5.out
        cases z0 : (v == 0)
        · obtain rfl : F = false := by rw [KB2.out, show decide (v = 0) = false from by rw [decide_eq_false_iff_not]; exact beq_eq_false_iff_ne.1 z0]; rfl
          go_wp2_with fail
          go_ret
          exact ⟨rfl, BF.out⟩
        · cases z1 : (l == 0)
          · obtain rfl : F = false := by rw [KB2.out, show decide (l = 0) = false from by rw [decide_eq_false_iff_not]; exact beq_eq_false_iff_ne.1 z1, Bool.and_false]; rfl
            go_wp2_with fail
            go_ret
            exact ⟨rfl, BF.out⟩
          · obtain rfl : F = oth := by rw [KB2.out, show decide (l = 0) = true from by rw [decide_eq_true_iff]; exact beq_iff_eq.1 z1, show decide (v = 0) = true from by rw [decide_eq_true_iff]; exact beq_iff_eq.1 z0]; rfl
            go_wp2_with fail
            go_ret
            exact ⟨rfl, BF.out⟩
      have k4b : (kd == 4) = false := by rw [beq_eq_false_iff_ne]; exact k4
      obtain rfl : F = false := by rw [KB.out, if_neg k1, if_neg k2, if_neg k3, if_neg k4]
      clear KB k1 k2 k3 k4
      go_wp2_with fail
      go_ret
      exact ⟨rfl, BF.out⟩
end Go.Proofs.YtmmppibbglacdaaDoor
