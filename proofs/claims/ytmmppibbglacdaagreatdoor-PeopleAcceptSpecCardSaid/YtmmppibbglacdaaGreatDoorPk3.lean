/- Package digest: a block of 64 bytes is absorbed. -/
import Derived.Test.YtmmppibbglacdaaGreatDoorPk2
import Derived.Test.YtmmppibbglacdaaGreatDoorPk0
import Derived.Deep.CutBlock
import Derived.Deep.DeepCutAuto
import Derived.Deep.Light
import Derived.StillTailTactics
import Derived.Deep.MidRow
set_option linter.unusedVariables false
set_option linter.unusedSimpArgs false
namespace Go.Proofs.YtmmppibbglacdaaGreatDoor
open Go.RowKit
open Sha (Wd St)

theorem stillOf {f : FuncId} {args : Array Value} {w : World} {v : Value} (h : Calls Tryz.prog f args w fun e w' => e = .returned v ∧ w = w') : Calls Tryz.prog f args w fun e w' => e = .returned v ∧ w' = w := h.mono fun _ _ ⟨a, b⟩ => ⟨a, b.symm⟩
theorem wp_tail {P : Program} {id : Nat} {Q : Exit → Act → World → Prop} {a : Act} {w : World} {l : List Oper} (n : Nat) (hm : P.follows .mixedOrders = true) (hB : Region.lexTailB .any l.toArray n = true)
    (h : wpStill P l.toArray w.drew (fun a' => wpList P l.toArray Q (l.drop n) a' w.drew) (l.take n) a) : (Code.region id l.toArray true).wp P Q a w := wp_region_still_tail n hm hB h
/-- the constants lie in the program's table -/
def KAt (w : World) : Prop := 3 < w.heap.size ∧ ∀ t, t < 64 → w.cell? ⟨3, t, none⟩ = some (vU (Sha.K t))
theorem KAt.below {w w' : World} (h : KAt w) (hb : Below w.heap.size w w') : KAt w' :=
  ⟨Nat.lt_of_lt_of_le h.1 hb.size, fun t ht => (hb.cell (p := ⟨_, t, none⟩) h.1).trans (h.2 t ht)⟩
theorem KAt.only {w w' : World} {B : Nat} (h : KAt w) (hb : OnlyB B w w') (hB : 3 ≠ B) : KAt w' :=
  ⟨Nat.lt_of_lt_of_le h.1 hb.size, fun t ht => (hb.cell (p := ⟨_, t, none⟩) h.1 hB).trans (h.2 t ht)⟩
theorem cellsAt_below {w w' : World} {b off n : Nat} {g : Nat → Value} (h : ∀ j, j < n → w.cell? ⟨b, off + j, none⟩ = some (g j)) (hlt : b < w.heap.size) (hb : Below w.heap.size w w') : ∀ j, j < n → w'.cell? ⟨b, off + j, none⟩ = some (g j) :=
  fun j hj => (hb.cell (p := ⟨b, off + j, none⟩) hlt).trans (h j hj)

/-- the words' row, t of them reckoned -/
def schedRow (c : Nat → UInt8) (t : Nat) : Nat → Value := fun i => vU (if i < t then Sha.sched (Sha.wordsC c) i else 0)
def AbsI (c : Nat → UInt8) (w : World) (bw t : Nat) (wx : World) : Prop := RowV wx bw 168 64 (schedRow c t) ∧ Below bw w wx
theorem AbsI.step {c : Nat → UInt8} {w wx : World} {bw t : Nat} (h : AbsI c w bw t wx) {x : Wd} (hx : x = Sha.sched (Sha.wordsC c) t) : AbsI c w bw (t + 1) (wx.setCell ⟨bw, t, none⟩ (vU x)) := by
  refine ⟨h.1.put fun i _ => ?_, h.2.setCell (p := ⟨bw, t, none⟩) (Nat.le_refl _) _⟩
  subst hx
  unfold schedRow
  by_cases hi : i = t
  · subst hi; rw [if_pos rfl, if_pos (by omega)]
  · rw [if_neg hi]
    by_cases h2 : i < t
    · rw [if_pos h2, if_pos (by omega)]
    · rw [if_neg h2, if_neg (by omega)]
theorem AbsI.drew {c : Nat → UInt8} {w wx : World} {bw t : Nat} (h : AbsI c w bw t wx) : AbsI c w bw t wx.drew := ⟨h.1, h.2.drew⟩
theorem AbsI.drewN {c : Nat → UInt8} {w wx : World} {bw t : Nat} (h : AbsI c w bw t wx) (n : Nat) : AbsI c w bw t (wx.drewN n) := ⟨h.1, ⟨h.2.os, h.2.tape, h.2.output, h.2.size, h.2.block⟩⟩
theorem AbsI.cell {c : Nat → UInt8} {w wx : World} {bw t i : Nat} (h : AbsI c w bw t wx) (hi : i < t) (ht : t ≤ 64) : wx.cell? ⟨bw, i, none⟩ = some (vU (Sha.sched (Sha.wordsC c) i)) := by
  rw [h.1.cell (by omega)]; unfold schedRow; rw [if_pos hi]

/-- the rounds: t of them done -/
def AbsJ (c : Nat → UInt8) (s : St) (w : World) (bw bv t : Nat) (wx : World) : Prop :=
  RowV wx bv 143 8 (fun i => vU ((Sha.rnds (Sha.sched (Sha.wordsC c)) s t).out i)) ∧ RowV wx bw 168 64 (schedRow c 64) ∧ Below bw w wx ∧ bw < bv
theorem AbsJ.drewN {c : Nat → UInt8} {s : St} {w wx : World} {bw bv t : Nat} (h : AbsJ c s w bw bv t wx) (n : Nat) : AbsJ c s w bw bv t (wx.drewN n) := ⟨h.1, h.2.1, ⟨h.2.2.1.os, h.2.2.1.tape, h.2.2.1.output, h.2.2.1.size, h.2.2.1.block⟩, h.2.2.2⟩
/-- the sum's loop: i words added -/
def AbsL (r s : St) (w : World) (bs bv T i : Nat) (wx : World) : Prop :=
  RowV wx bs T 8 (fun j => vU (if j < i then s.out j + r.out j else s.out j)) ∧ RowV wx bv 143 8 (fun j => vU (r.out j)) ∧ OnlyB bs w wx
theorem AbsL.drewN {r s : St} {w wx : World} {bs bv T i : Nat} (h : AbsL r s w bs bv T i wx) (n : Nat) : AbsL r s w bs bv T i (wx.drewN n) := ⟨h.1, h.2.1, ⟨h.2.2.os, h.2.2.tape, h.2.2.output, h.2.2.size, h.2.2.block⟩⟩
theorem St.out_plus (s v : St) : ∀ i, i < 8 → (Sha.plus s v).out i = s.out i + v.out i
  | 0, _ => rfl
  | 1, _ => rfl
  | 2, _ => rfl
  | 3, _ => rfl
  | 4, _ => rfl
  | 5, _ => rfl
  | 6, _ => rfl
  | 7, _ => rfl

theorem rnd_row (k w : Wd) (r : St) : ∀ i, i < 8 → (if i = 0 then vU (r.h + Sha.S1 r.e + Sha.ch r.e r.f r.g + k + w + (Sha.S0 r.a + Sha.maj r.a r.b r.c)) else if i = 4 then vU (r.d + (r.h + Sha.S1 r.e + Sha.ch r.e r.f r.g + k + w)) else if 1 ≤ i ∧ i < 1 + 7 then vU (r.out (i - 1)) else vU (r.out i)) = vU ((Sha.rnd k w r).out i)
  | 0, _ => rfl
  | 1, _ => rfl
  | 2, _ => rfl
  | 3, _ => rfl
  | 4, _ => rfl
  | 5, _ => rfl
  | 6, _ => rfl
  | 7, _ => rfl

set_option maxRecDepth 100000 in
set_option maxHeartbeats 4000000 in
theorem absorb_any (bs b off cap T : Nat) (s : St) (c : Nat → UInt8) (w : World) (hs : RowV w bs T 8 (fun i => vU (s.out i))) (hcap : 64 ≤ cap) (hm : (cap : Int) ≤ 9223372036854775807)
    (hb : b < w.heap.size) (hc : ∀ j, j < 64 → w.cell? ⟨b, off + j, none⟩ = some (vB (c j))) (hk : KAt w) :
    Calls Tryz.prog 120 #[.pointer (some ⟨bs, 0, none⟩), .slice (some ⟨b, off, none⟩) 64 cap] w fun e w' => e = .returned (.tuple #[]) ∧ RowV w' bs T 8 (fun i => vU ((Sha.comp s (Sha.wordsC c)).out i)) ∧ OnlyB bs w w' := by
  have Hs := Lib.hid hs
  have Hc := Lib.hid hc
  have Hk := Lib.hid hk
  have hbs := hs.lt
  clear hs hc hk
  go_enter Tryz.func120, Tryz.ntmps120
  go_wp2_with fail
  have I0 : Hid (AbsI c w w.heap.size 0 (w.alloc (.cells (rowF 64 fun _ => .int .u32 0) 168))) := Lib.hid ⟨(RowV.new w 168 64 _).congr fun i _ => rfl, Below.alloc (Below.refl _ _) (Nat.le_refl _) _⟩
  change Code.wp _ _ _ _ (w.alloc (.cells (rowF 64 fun _ => .int .u32 0) 168))
  obtain ⟨w1, hw1⟩ : ∃ x, w.alloc (.cells (rowF 64 fun _ => .int .u32 0) 168) = x := ⟨_, rfl⟩
  rw [hw1] at I0 ⊢
  clear hw1
  obtain ⟨bw, hbw⟩ : ∃ x, w.heap.size = x := ⟨_, rfl⟩
  have Hbw := Lib.hid hbw
  rw [hbw] at hb hbs I0 ⊢
  clear hbw
  go_loopg [5, 14] 16 (fun g s5 s14 wx => ∃ t : Nat, t + g = 16 ∧ s14 = .int .i64 (t : Int) ∧ Hid (AbsI c w bw t wx))
  case atStart => exact ⟨0, by omega, rfl, I0⟩
  case round =>
    obtain ⟨t, ht, rfl, hI⟩ := hrel
    clear I0
    by_cases ht16 : t < 16
    · have d0 : decide ((t : Int) < 16) = true := by rw [decide_eq_true_iff]; omega
      have z1 : (0 : Int) ≤ (t : Int) := Int.natCast_nonneg t
      have z2 : (t : Int) < 16 := by omega
      have z3 : ((t : Int)).toNat = t := Int.toNat_natCast t
      have z4 : (t : Int) < 64 := by omega
      have hr := hI.out.1
      have c1 := hr.cell (show t < 64 by omega)
      have c2 := hr.frozen t
      have hw := word_any b (off + 4 * t) (64 - 4 * t) (cap - 4 * t) (fun j => c (4 * t + j)) wr (by omega) (by omega) (fun j hj => by
        have hz : Below w.heap.size w wr := by rw [Hbw.out]; exact hI.out.2
        rw [Nat.add_assoc]
        exact cellsAt_below (g := fun j => vB (c j)) Hc.out (by rw [Hbw.out]; exact hb) hz (4 * t + j) (by omega))
      have hnx := Lib.hid (hI.out.step (t := t) (x := Sha.word4 (c (4 * t + 0)) (c (4 * t + 1)) (c (4 * t + 2)) (c (4 * t + 3))) (by rw [Sha.sched_lo _ ht16]; rfl))
      obtain ⟨x, hx⟩ : ∃ x, Sha.word4 (c (4 * t + 0)) (c (4 * t + 1)) (c (4 * t + 2)) (c (4 * t + 3)) = x := ⟨_, rfl⟩
      rw [hx] at hw hnx
      have Hw := Lib.hid hw
      obtain ⟨v0, hv0⟩ : ∃ v, schedRow c t t = v := ⟨_, rfl⟩
      rw [hv0] at c1
      clear hw hx hr hv0
      go_wp2_with fail
      refine (Hw.out).mono ?_
      rintro e w' ⟨rfl, rfl⟩
      go_wp2_with fail
      go_roundg (gk - 1)
      case measure => omega
      case rel => exact ⟨t + 1, by omega, by go_num, hnx⟩
    · have d0 : decide ((t : Int) < 16) = false := by rw [decide_eq_false_iff_not]; omega
      obtain rfl : t = 16 := by omega
      clear ht ht16
      go_wp2_with fail
      clear d0
      go_loopg [6, 7, 8] 48 (fun g s6 s7 s8 wx => ∃ t : Nat, t + g = 64 ∧ 16 ≤ t ∧ s6 = .int .i64 (t : Int) ∧ Hid (AbsI c w bw t wx))
      case atStart => exact ⟨16, by omega, by omega, rfl, hI⟩
      case round =>
        clear hI
        obtain ⟨t, ht, ht16, rfl, hI⟩ := hrel
        by_cases ht64 : t < 64
        · have d0 : decide ((t : Int) < 64) = true := by rw [decide_eq_true_iff]; omega
          have z2 : (t : Int) < 64 := by omega
          have z3 : ((t : Int)).toNat = t := Int.toNat_natCast t
          have y16 : (16 : Int) ≤ (t : Int) := by omega
          have e15 : ((t : Int) - 15).toNat = t - 15 := by omega
          have e2 : ((t : Int) - 2).toNat = t - 2 := by omega
          have e16 : ((t : Int) - 16).toNat = t - 16 := by omega
          have e7 : ((t : Int) - 7).toNat = t - 7 := by omega
          have hi := hI.out
          have c15 := hi.cell (show t - 15 < t by omega) (by omega)
          have c2 := hi.cell (show t - 2 < t by omega) (by omega)
          have c16 := hi.cell (show t - 16 < t by omega) (by omega)
          have c7 := hi.cell (show t - 7 < t by omega) (by omega)
          have c0 := hi.1.cell (show t < 64 by omega)
          have f0 := hi.1.frozen t
          have hnx := fun (y : Wd) (hy : y = _) => hi.step (x := y) (hy.trans (Sha.sched_hi (Sha.wordsC c) (show ¬ t < 16 by omega)).symm)
          obtain ⟨x15, h15⟩ : ∃ x, Sha.sched (Sha.wordsC c) (t - 15) = x := ⟨_, rfl⟩
          obtain ⟨x2, h2⟩ : ∃ x, Sha.sched (Sha.wordsC c) (t - 2) = x := ⟨_, rfl⟩
          obtain ⟨x16, h16⟩ : ∃ x, Sha.sched (Sha.wordsC c) (t - 16) = x := ⟨_, rfl⟩
          obtain ⟨x7, h7⟩ : ∃ x, Sha.sched (Sha.wordsC c) (t - 7) = x := ⟨_, rfl⟩
          obtain ⟨v0, hv0⟩ : ∃ v, schedRow c t t = v := ⟨_, rfl⟩
          rw [h15] at c15 hnx; rw [h2] at c2 hnx; rw [h16] at c16 hnx; rw [h7] at c7 hnx; rw [hv0] at c0
          have Hnx := Lib.hid hnx
          have a1 := fun y z => U_add y z
          have a2 := fun y z => U_xor y z
          have a3 : ∀ x : Wd, U x / (8 : Int) = U (x >>> 3) := fun x => U_shr x 3
          have a4 : ∀ x : Wd, U x / (1024 : Int) = U (x >>> 10) := fun x => U_shr x 10
          clear h15 h2 h16 h7 hv0 hnx hi
          go_upto_region 9 with fail
          go_quiet (fail)
          have q7 := fun w => stillOf (rot7 x15 w)
          have q18 := fun w => stillOf (rot18 x15 w)
          have q17 := fun w => stillOf (rot17 x2 w)
          have q19 := fun w => stillOf (rot19 x2 w)
          have w16 : IntKind.i64.wrap ((t : Int) - 16) = (t : Int) - 16 := by rw [IntKind.wrap_i64]; omega
          have w7 : IntKind.i64.wrap ((t : Int) - 7) = (t : Int) - 7 := by rw [IntKind.wrap_i64]; omega
          have y7 : (7 : Int) ≤ (t : Int) := by omega
          have p16 : 0 ≤ (t : Int) - 16 ∧ (t : Int) - 16 < 64 := by omega
          have p7 : 0 ≤ (t : Int) - 7 ∧ (t : Int) - 7 < 64 := by omega
          have p0 : 0 ≤ (t : Int) ∧ (t : Int) < 64 := by omega
          have Q7 := Lib.hid q7; have Q18 := Lib.hid q18; have Q17 := Lib.hid q17; have Q19 := Lib.hid q19
          clear q7 q18 q17 q19
          go_upto_region 10 with fail
          refine wp_tail 29 (by kernel_rfl) (by kernel_rfl) ?_
          simp only [List.take_succ_cons, List.take_zero, List.drop_succ_cons, List.drop_zero]
          repeat still_step
          still_call (Q7.out _)
          repeat still_step
          still_call (Q18.out _)
          repeat still_step
          still_call (Q17.out _)
          repeat still_step
          still_call (Q19.out _)
          repeat still_step
          refine wpStill_nil ?_
          go_wp2_with fail
          go_roundg (gk - 1)
          case measure => omega
          case rel =>
            go_light
            exact ⟨t + 1, by omega, by omega, by go_num, Lib.hid ((Hnx.out _ rfl).drewN _)⟩
        · have d0 : decide ((t : Int) < 64) = false := by rw [decide_eq_false_iff_not]; omega
          obtain rfl : t = 64 := by omega
          have hi := hI.out
          have hold : Below w.heap.size w wr := by rw [Hbw.out]; exact hi.2
          have hsr : RowV wr bs T 8 (fun i => vU (s.out i)) := Hs.out.below hold
          have v0 := hsr.cell (show 0 < 8 by decide)
          have v1 := hsr.cell (show 1 < 8 by decide)
          have v2 := hsr.cell (show 2 < 8 by decide)
          have v3 := hsr.cell (show 3 < 8 by decide)
          have v4 := hsr.cell (show 4 < 8 by decide)
          have v5 := hsr.cell (show 5 < 8 by decide)
          have v6 := hsr.cell (show 6 < 8 by decide)
          have v7 := hsr.cell (show 7 < 8 by decide)
          have hlt := hi.2.size
          clear hsr ht ht64 ht16 hi
          simp only [Sha.St.out] at v0 v1 v2 v3 v4 v5 v6 v7
          go_wp2_with fail
          have I1 : Hid (AbsJ c s w bw wr.heap.size 0 (wr.alloc (.cells (rowF 8 fun i => vU (s.out i)) 143))) :=
            Lib.hid ⟨RowV.new wr 143 8 _, hI.out.1.alloc _, hI.out.2.alloc (by rw [← Hbw.out]; exact hlt) _, hI.out.1.lt⟩
          change Code.wp _ _ _ _ (wr.alloc (.cells (rowF 8 fun i => vU (s.out i)) 143))
          obtain ⟨w2, hw2⟩ : ∃ x, wr.alloc (.cells (rowF 8 fun i => vU (s.out i)) 143) = x := ⟨_, rfl⟩
          obtain ⟨bv, hbv⟩ : ∃ x, wr.heap.size = x := ⟨_, rfl⟩
          rw [hw2, hbv] at I1
          rw [hw2, hbv]
          clear hw2 hbv v0 v1 v2 v3 v4 v5 v6 v7 hold hlt d0 hI
          go_loopg [10, 11, 12, 69] 64 (fun g s10 s11 s12 s69 wx => ∃ t : Nat, t + g = 64 ∧ s69 = .int .i64 (t : Int) ∧ Hid (AbsJ c s w bw bv t wx))
          case atStart => exact ⟨0, by omega, rfl, I1⟩
          case round =>
            clear I1
            obtain ⟨t, ht, rfl, hJ⟩ := hrel
            by_cases ht64 : t < 64
            · have d0 : decide ((t : Int) < 64) = true := by rw [decide_eq_true_iff]; omega
              have z1 : (0 : Int) ≤ (t : Int) := Int.natCast_nonneg t
              have z2 : (t : Int) < 64 := by omega
              have z3 : ((t : Int)).toNat = t := Int.toNat_natCast t
              have hj := hJ.out
              have hold : Below w.heap.size w wr := by rw [Hbw.out]; exact hj.2.2.1
              have ck := (Hk.out.below hold).2 t ht64
              have cw := hj.2.1.cell ht64
              rw [show schedRow c 64 t = vU (Sha.sched (Sha.wordsC c) t) from by unfold schedRow; rw [if_pos ht64]] at cw
              have hnx := fun (wx : World) (h : RowV wx bv 143 8 (fun i => vU ((Sha.rnd (Sha.K t) (Sha.sched (Sha.wordsC c) t) (Sha.rnds (Sha.sched (Sha.wordsC c)) s t)).out i))) (ho : OnlyB bv wr wx) =>
                (show AbsJ c s w bw bv (t + 1) wx from ⟨h, ho.row (Nat.ne_of_lt hj.2.2.2) hj.2.1, hj.2.2.1.trans (ho.below (Nat.le_of_lt hj.2.2.2) (Nat.le_of_lt hj.2.1.lt)), hj.2.2.2⟩)
              have hv := hj.1
              obtain ⟨r, hr⟩ : ∃ r, Sha.rnds (Sha.sched (Sha.wordsC c)) s t = r := ⟨_, rfl⟩
              obtain ⟨wt, hwt⟩ : ∃ x, Sha.sched (Sha.wordsC c) t = x := ⟨_, rfl⟩
              obtain ⟨kt, hkt⟩ : ∃ x, Sha.K t = x := ⟨_, rfl⟩
              rw [hr] at hv hnx; rw [hwt] at cw hnx; rw [hkt] at ck hnx
              have v0 := hv.cell (show 0 < 8 by decide)
              have v1 := hv.cell (show 1 < 8 by decide)
              have v2 := hv.cell (show 2 < 8 by decide)
              have v4 := hv.cell (show 4 < 8 by decide)
              have v5 := hv.cell (show 5 < 8 by decide)
              have v6 := hv.cell (show 6 < 8 by decide)
              have v7 := hv.cell (show 7 < 8 by decide)
              simp only [Sha.St.out] at v0 v1 v2 v4 v5 v6 v7
              have Hv := Lib.hid hv
              have Hnx := Lib.hid hnx
              have a1 := fun y z => U_add y z
              have a2 := fun y z => U_xor y z
              have a3 := fun y z => U_and y z
              have a4 := fun y z => U_or y z
              clear hv hnx hr hwt hkt hold hj
              go_upto_region 15 with fail
              go_quiet ((go_at_call 143; exact qsame (rotated1 _ _)))
              rw [Sha.ch_is]
              go_upto_region 16 with fail
              go_quiet ((go_at_call 143; exact qsame2 (rotated0 _ _)))
              rw [Sha.maj_is]
              go_upto_region 17 with fail
              refine wp_tail 2 (by kernel_rfl) (by kernel_rfl) ?_
              simp only [List.take_succ_cons, List.take_zero, List.drop_succ_cons, List.drop_zero]
              repeat still_step
              refine wpStill_nil ?_
              refine wpList_copy_rowV rfl (.tmp 116) (.tmp 117) 172 172 rfl 141 Tryz.underlying172 (by kernel_rfl) bv 1 7 7 ⟨bv, 0, none⟩ 7 8 rfl rfl 8 7 143 (fun i => vU (r.out i)) (fun i => vU (r.out i)) Hv.out rfl ?c1 (by decide) (fun _ _ => rfl) ?_
              case c1 =>
                intro j hj
                go_light
                have := Hv.out.cell (show j < 8 by omega)
                rw [Addr.add_mid, Nat.zero_add]
                exact this
              intro w4 hr4 ho4
              clear v0 v1 v2 v4 v5 v6 v7 ck cw
              have Ho4 := Lib.hid (OnlyB.trans (b := ((wr.drewN _).drewN nq).drew) (a := wr) ⟨rfl, rfl, rfl, Nat.le_refl _, fun _ _ _ => rfl⟩ ho4.out)
              have c4 := hr4.out.cell (show 4 < 8 by decide)
              have c0 := hr4.out.cell (show 0 < 8 by decide)
              have f4 := hr4.out.frozen 4
              have f0 := hr4.out.frozen 0
              simp only [Nat.reduceLeDiff, Nat.reduceLT, Nat.reduceAdd, and_self, if_true, Nat.reduceSub, Sha.St.out, if_false, false_and] at c4 c0
              have Hfin := Lib.hid (Hnx.out ((w4.setCell ⟨bv, 4, none⟩ (vU (r.d + (r.h + Sha.S1 r.e + Sha.ch r.e r.f r.g + kt + wt)))).setCell ⟨bv, 0, none⟩ (vU (r.h + Sha.S1 r.e + Sha.ch r.e r.f r.g + kt + wt + (Sha.S0 r.a + Sha.maj r.a r.b r.c)))) (((hr4.out.set 4 _).set 0 _).congr (rnd_row kt wt r)) ((Ho4.out.setCell (.inl rfl) _).setCell (.inl rfl) _))
              clear hr4 ho4
              go_wp2_with fail
              go_roundg (gk - 1)
              case measure => omega
              case rel =>
                go_light
                exact ⟨t + 1, by omega, by go_num, Hfin⟩
            · have d0 : decide ((t : Int) < 64) = false := by rw [decide_eq_false_iff_not]; omega
              obtain rfl : t = 64 := by omega
              clear ht ht64
              obtain ⟨r, hr⟩ : ∃ r, Sha.rnds (Sha.sched (Sha.wordsC c)) s 64 = r := ⟨_, rfl⟩
              have hj := hJ.out
              have hold : Below w.heap.size w wr := by rw [Hbw.out]; exact hj.2.2.1
              have I2 : Hid (AbsL r s w bs bv T 0 wr) := by
                refine Lib.hid ⟨(Hs.out.below hold).congr fun i _ => ?_, by rw [← hr]; exact hj.1, .of_below hold⟩
                rw [if_neg (Nat.not_lt_zero i)]
              have hlt : bs ≠ bv := by have := hj.2.2.2; omega
              have Hr := Lib.hid hr
              clear hr hj hold hJ
              go_wp2_with fail
              clear d0
              go_loopg [13, 129] 8 (fun g s13 s129 wx => ∃ i : Nat, i + g = 8 ∧ s129 = .int .i64 (i : Int) ∧ Hid (AbsL r s w bs bv T i wx))
              case atStart => exact ⟨0, by omega, rfl, I2⟩
              case round =>
                clear I2
                obtain ⟨i, hi, rfl, hL⟩ := hrel
                by_cases hi8 : i < 8
                · have d0 : decide ((i : Int) < 8) = true := by rw [decide_eq_true_iff]; omega
                  have z1 : (0 : Int) ≤ (i : Int) := Int.natCast_nonneg i
                  have z2 : (i : Int) < 8 := by omega
                  have z3 : ((i : Int)).toNat = i := Int.toNat_natCast i
                  have p0 : 0 ≤ (i : Int) ∧ (i : Int) < 8 := by omega
                  have c1 := hL.out.1.cell hi8
                  rw [if_neg (Nat.lt_irrefl i)] at c1
                  have c2 := hL.out.2.1.cell hi8
                  have f1 := hL.out.1.frozen i
                  have a1 := fun y z => U_add y z
                  have Hfin := Lib.hid (show AbsL r s w bs bv T (i + 1) (wr.setCell ⟨bs, i, none⟩ (vU (s.out i + r.out i))) from
                    ⟨hL.out.1.put fun j _ => by
                      by_cases hj : j = i
                      · subst hj; rw [if_pos rfl, if_pos (Nat.lt_succ_self j)]
                      · rw [if_neg hj]
                        by_cases h2 : j < i
                        · rw [if_pos h2, if_pos (by omega)]
                        · rw [if_neg h2, if_neg (by omega)],
                      hL.out.2.1.other (a := ⟨bs, i, none⟩) (Ne.symm hlt) _, hL.out.2.2.setCell (.inl rfl) _⟩)
                  obtain ⟨si, hsi⟩ : ∃ x, s.out i = x := ⟨_, rfl⟩
                  obtain ⟨ri, hri⟩ : ∃ x, r.out i = x := ⟨_, rfl⟩
                  rw [hsi] at c1 Hfin; rw [hri] at c2 Hfin
                  clear hsi hri
                  go_upto_region 24 with fail
                  refine wp_tail 11 (by kernel_rfl) (by kernel_rfl) ?_
                  simp only [List.take_succ_cons, List.take_zero, List.drop_succ_cons, List.drop_zero]
                  repeat still_step
                  refine wpStill_nil ?_
                  go_wp2_with fail
                  go_roundg (gk - 1)
                  case measure => omega
                  case rel =>
                    go_light
                    exact ⟨i + 1, by omega, by go_num, Lib.hid (Hfin.out.drewN 1)⟩
                · have d0 : decide ((i : Int) < 8) = false := by rw [decide_eq_false_iff_not]; omega
                  obtain rfl : i = 8 := by omega
                  go_wp2_with fail
                  go_end0
                  go_light
                  refine ⟨rfl, hL.out.1.congr fun j hj => ?_, hL.out.2.2⟩
                  rw [if_pos hj]
                  show _ = vU ((Sha.plus s (Sha.rnds (Sha.sched (Sha.wordsC c)) s 64)).out j)
                  rw [Hr.out, St.out_plus _ _ _ hj]
end Go.Proofs.YtmmppibbglacdaaGreatDoor
