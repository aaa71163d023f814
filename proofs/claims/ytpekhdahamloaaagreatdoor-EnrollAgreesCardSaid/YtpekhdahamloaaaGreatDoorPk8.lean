/- Package digest: a block of 64 bytes is absorbed. Package digest: Sum is SHA-256. -/
import Derived.Test.YtpekhdahamloaaaGreatDoorPk2
import Derived.Test.YtpekhdahamloaaaGreatDoorPk0
import Derived.Deep.CutBlock
import Derived.Deep.DeepCutAuto
import Derived.Deep.Light
import Derived.StillTailTactics
import Derived.Deep.MidRow
import Derived.Test.YtpekhdahamloaaaGreatDoorPk7
import Derived.Test.YtpekhdahamloaaaGreatDoorPk3
set_option linter.unusedVariables false
set_option linter.unusedSimpArgs false
namespace Go.Proofs.YtpekhdahamloaaaGreatDoor
open Go.RowKit
open Sha (Wd St)

theorem stillOf {f : FuncId} {args : Array Value} {w : World} {v : Value} (h : Calls Tryz.prog f args w fun e w' => e = .returned v ∧ w = w') : Calls Tryz.prog f args w fun e w' => e = .returned v ∧ w' = w := h.mono fun _ _ ⟨a, b⟩ => ⟨a, b.symm⟩
theorem wp_tail {P : Program} {id : Nat} {Q : Exit → Act → World → Prop} {a : Act} {w : World} {l : List Oper} (n : Nat) (hm : P.follows .mixedOrders = true) (hB : Region.lexTailB .any l.toArray n = true)
    (h : wpStill P l.toArray w.drew (fun a' => wpList P l.toArray Q (l.drop n) a' w.drew) (l.take n) a) : (Code.region id l.toArray true).wp P Q a w := wp_region_still_tail n hm hB h
/-- the constants lie in the program's table -/
def KAt (w : World) : Prop := 2 < w.heap.size ∧ ∀ t, t < 64 → w.cell? ⟨2, t, none⟩ = some (vU (Sha.K t))
theorem KAt.below {w w' : World} (h : KAt w) (hb : Below w.heap.size w w') : KAt w' :=
  ⟨Nat.lt_of_lt_of_le h.1 hb.size, fun t ht => (hb.cell (p := ⟨_, t, none⟩) h.1).trans (h.2 t ht)⟩
theorem KAt.only {w w' : World} {B : Nat} (h : KAt w) (hb : OnlyB B w w') (hB : 2 ≠ B) : KAt w' :=
  ⟨Nat.lt_of_lt_of_le h.1 hb.size, fun t ht => (hb.cell (p := ⟨_, t, none⟩) h.1 hB).trans (h.2 t ht)⟩
theorem cellsAt_below {w w' : World} {b off n : Nat} {g : Nat → Value} (h : ∀ j, j < n → w.cell? ⟨b, off + j, none⟩ = some (g j)) (hlt : b < w.heap.size) (hb : Below w.heap.size w w') : ∀ j, j < n → w'.cell? ⟨b, off + j, none⟩ = some (g j) :=
  fun j hj => (hb.cell (p := ⟨b, off + j, none⟩) hlt).trans (h j hj)

/-- the words' row, t of them reckoned -/
def schedRow (c : Nat → UInt8) (t : Nat) : Nat → Value := fun i => vU (if i < t then Sha.sched (Sha.wordsC c) i else 0)
def AbsI (c : Nat → UInt8) (w : World) (bw t : Nat) (wx : World) : Prop := RowV wx bw 199 64 (schedRow c t) ∧ Below bw w wx
theorem AbsI.step {c : Nat → UInt8} {w wx : World} {bw t : Nat} (h : AbsI c w bw t wx) {x : Wd} (hx : x = Sha.sched (Sha.wordsC c) t) : AbsI c w bw (t + 1) (wx.setCell ⟨bw, t, none⟩ (vU x)) := by
  refine ⟨h.1.put fun i _ => ?_, h.2.setCell (p := ⟨bw, t, none⟩) (Nat.le_refl _) _⟩
  subst hx
  unfold schedRow
  by_cases hi : i = t
  · subst hi; rw [if_pos rfl, if_pos (by omega)]
  · rw [if_neg hi]
    by_cases h2 : i < t
    · rw [if_pos h2, if_pos (by omega)]
    · rw [if_neg h2, if_neg (by omega)]
theorem AbsI.drew {c : Nat → UInt8} {w wx : World} {bw t : Nat} (h : AbsI c w bw t wx) : AbsI c w bw t wx.drew := ⟨h.1, h.2.drew⟩
theorem AbsI.drewN {c : Nat → UInt8} {w wx : World} {bw t : Nat} (h : AbsI c w bw t wx) (n : Nat) : AbsI c w bw t (wx.drewN n) := ⟨h.1, ⟨h.2.os, h.2.tape, h.2.output, h.2.size, h.2.block⟩⟩
theorem AbsI.cell {c : Nat → UInt8} {w wx : World} {bw t i : Nat} (h : AbsI c w bw t wx) (hi : i < t) (ht : t ≤ 64) : wx.cell? ⟨bw, i, none⟩ = some (vU (Sha.sched (Sha.wordsC c) i)) := by
  rw [h.1.cell (by omega)]; unfold schedRow; rw [if_pos hi]

/-- the rounds: t of them done -/
def AbsJ (c : Nat → UInt8) (s : St) (w : World) (bw bv t : Nat) (wx : World) : Prop :=
  RowV wx bv 163 8 (fun i => vU ((Sha.rnds (Sha.sched (Sha.wordsC c)) s t).out i)) ∧ RowV wx bw 199 64 (schedRow c 64) ∧ Below bw w wx ∧ bw < bv
theorem AbsJ.drewN {c : Nat → UInt8} {s : St} {w wx : World} {bw bv t : Nat} (h : AbsJ c s w bw bv t wx) (n : Nat) : AbsJ c s w bw bv t (wx.drewN n) := ⟨h.1, h.2.1, ⟨h.2.2.1.os, h.2.2.1.tape, h.2.2.1.output, h.2.2.1.size, h.2.2.1.block⟩, h.2.2.2⟩
/-- the sum's loop: i words added -/
def AbsL (r s : St) (w : World) (bs bv T i : Nat) (wx : World) : Prop :=
  RowV wx bs T 8 (fun j => vU (if j < i then s.out j + r.out j else s.out j)) ∧ RowV wx bv 163 8 (fun j => vU (r.out j)) ∧ OnlyB bs w wx
theorem AbsL.drewN {r s : St} {w wx : World} {bs bv T i : Nat} (h : AbsL r s w bs bv T i wx) (n : Nat) : AbsL r s w bs bv T i (wx.drewN n) := ⟨h.1, h.2.1, ⟨h.2.2.os, h.2.2.tape, h.2.2.output, h.2.2.size, h.2.2.block⟩⟩
theorem St.out_plus (s v : St) : ∀ i, i < 8 → (Sha.plus s v).out i = s.out i + v.out i
  | 0, _ => rfl
  | 1, _ => rfl
  | 2, _ => rfl
  | 3, _ => rfl
  | 4, _ => rfl
  | 5, _ => rfl
  | 6, _ => rfl
  | 7, _ => rfl

theorem rnd_row (k w : Wd) (r : St) : ∀ i, i < 8 → (if i = 0 then vU (r.h + Sha.S1 r.e + Sha.ch r.e r.f r.g + k + w + (Sha.S0 r.a + Sha.maj r.a r.b r.c)) else if i = 4 then vU (r.d + (r.h + Sha.S1 r.e + Sha.ch r.e r.f r.g + k + w)) else if 1 ≤ i ∧ i < 1 + 7 then vU (r.out (i - 1)) else vU (r.out i)) = vU ((Sha.rnd k w r).out i)
  | 0, _ => rfl
  | 1, _ => rfl
  | 2, _ => rfl
  | 3, _ => rfl
  | 4, _ => rfl
  | 5, _ => rfl
  | 6, _ => rfl
  | 7, _ => rfl

set_option maxRecDepth 100000 in
set_option maxHeartbeats 4000000 in
theorem absorb_any (bs b off cap T : Nat) (s : St) (c : Nat → UInt8) (w : World) (hs : RowV w bs T 8 (fun i => vU (s.out i))) (hcap : 64 ≤ cap) (hm : (cap : Int) ≤ 9223372036854775807)
    (hb : b < w.heap.size) (hc : ∀ j, j < 64 → w.cell? ⟨b, off + j, none⟩ = some (vB (c j))) (hk : KAt w) :
    Calls Tryz.prog 107 #[.pointer (some ⟨bs, 0, none⟩), .slice (some ⟨b, off, none⟩) 64 cap] w fun e w' => e = .returned (.tuple #[]) ∧ RowV w' bs T 8 (fun i => vU ((Sha.comp s (Sha.wordsC c)).out i)) ∧ OnlyB bs w w' := by
  have Hs := Lib.hid hs
  have Hc := Lib.hid hc
  have Hk := Lib.hid hk
  have hbs := hs.lt
  clear hs hc hk
  go_enter Tryz.func107, Tryz.ntmps107
  go_wp2_with fail
  have I0 : Hid (AbsI c w w.heap.size 0 (w.alloc (.cells (rowF 64 fun _ => .int .u32 0) 199))) := Lib.hid ⟨(RowV.new w 199 64 _).congr fun i _ => rfl, Below.alloc (Below.refl _ _) (Nat.le_refl _) _⟩
  change Code.wp _ _ _ _ (w.alloc (.cells (rowF 64 fun _ => .int .u32 0) 199))
  obtain ⟨w1, hw1⟩ : ∃ x, w.alloc (.cells (rowF 64 fun _ => .int .u32 0) 199) = x := ⟨_, rfl⟩
  rw [hw1] at I0 ⊢
  clear hw1
  obtain ⟨bw, hbw⟩ : ∃ x, w.heap.size = x := ⟨_, rfl⟩
  have Hbw := Lib.hid hbw
  rw [hbw] at hb hbs I0 ⊢
  clear hbw
  go_loopg [5, 14] 16 (fun g s5 s14 wx => ∃ t : Nat, t + g = 16 ∧ s14 = .int .i64 (t : Int) ∧ Hid (AbsI c w bw t wx))
  case atStart => exact ⟨0, by omega, rfl, I0⟩
  case round =>
    obtain ⟨t, ht, rfl, hI⟩ := hrel
    clear I0
    by_cases ht16 : t < 16
    · have d0 : decide ((t : Int) < 16) = true := by rw [decide_eq_true_iff]; omega
      have z1 : (0 : Int) ≤ (t : Int) := Int.natCast_nonneg t
      have z2 : (t : Int) < 16 := by omega
      have z3 : ((t : Int)).toNat = t := Int.toNat_natCast t
      have z4 : (t : Int) < 64 := by omega
      have hr := hI.out.1
      have c1 := hr.cell (show t < 64 by omega)
      have c2 := hr.frozen t
      have hw := word_any b (off + 4 * t) (64 - 4 * t) (cap - 4 * t) (fun j => c (4 * t + j)) wr (by omega) (by omega) (fun j hj => by
        have hz : Below w.heap.size w wr := by rw [Hbw.out]; exact hI.out.2
        rw [Nat.add_assoc]
        exact cellsAt_below (g := fun j => vB (c j)) Hc.out (by rw [Hbw.out]; exact hb) hz (4 * t + j) (by omega))
      have hnx := Lib.hid (hI.out.step (t := t) (x := Sha.word4 (c (4 * t + 0)) (c (4 * t + 1)) (c (4 * t + 2)) (c (4 * t + 3))) (by rw [Sha.sched_lo _ ht16]; rfl))
      obtain ⟨x, hx⟩ : ∃ x, Sha.word4 (c (4 * t + 0)) (c (4 * t + 1)) (c (4 * t + 2)) (c (4 * t + 3)) = x := ⟨_, rfl⟩
      rw [hx] at hw hnx
      have Hw := Lib.hid hw
      obtain ⟨v0, hv0⟩ : ∃ v, schedRow c t t = v := ⟨_, rfl⟩
      rw [hv0] at c1
      clear hw hx hr hv0
      go_wp2_with fail
      refine (Hw.out).mono ?_
      rintro e w' ⟨rfl, rfl⟩
      go_wp2_with fail
      go_roundg (gk - 1)
      case measure => omega
      case rel => exact ⟨t + 1, by omega, by go_num, hnx⟩
    · have d0 : decide ((t : Int) < 16) = false := by rw [decide_eq_false_iff_not]; omega
      obtain rfl : t = 16 := by omega
      clear ht ht16
      go_wp2_with fail
      clear d0
      go_loopg [6, 7, 8] 48 (fun g s6 s7 s8 wx => ∃ t : Nat, t + g = 64 ∧ 16 ≤ t ∧ s6 = .int .i64 (t : Int) ∧ Hid (AbsI c w bw t wx))
      case atStart => exact ⟨16, by omega, by omega, rfl, hI⟩
      case round =>
        clear hI
        obtain ⟨t, ht, ht16, rfl, hI⟩ := hrel
        by_cases ht64 : t < 64
        · have d0 : decide ((t : Int) < 64) = true := by rw [decide_eq_true_iff]; omega
          have z2 : (t : Int) < 64 := by omega
          have z3 : ((t : Int)).toNat = t := Int.toNat_natCast t
          have y16 : (16 : Int) ≤ (t : Int) := by omega
          have e15 : ((t : Int) - 15).toNat = t - 15 := by omega
          have e2 : ((t : Int) - 2).toNat = t - 2 := by omega
          have e16 : ((t : Int) - 16).toNat = t - 16 := by omega
          have e7 : ((t : Int) - 7).toNat = t - 7 := by omega
          have hi := hI.out
          have c15 := hi.cell (show t - 15 < t by omega) (by omega)
          have c2 := hi.cell (show t - 2 < t by omega) (by omega)
          have c16 := hi.cell (show t - 16 < t by omega) (by omega)
          have c7 := hi.cell (show t - 7 < t by omega) (by omega)
          have c0 := hi.1.cell (show t < 64 by omega)
          have f0 := hi.1.frozen t
          have hnx := fun (y : Wd) (hy : y = _) => hi.step (x := y) (hy.trans (Sha.sched_hi (Sha.wordsC c) (show ¬ t < 16 by omega)).symm)
          obtain ⟨x15, h15⟩ : ∃ x, Sha.sched (Sha.wordsC c) (t - 15) = x := ⟨_, rfl⟩
          obtain ⟨x2, h2⟩ : ∃ x, Sha.sched (Sha.wordsC c) (t - 2) = x := ⟨_, rfl⟩
          obtain ⟨x16, h16⟩ : ∃ x, Sha.sched (Sha.wordsC c) (t - 16) = x := ⟨_, rfl⟩
          obtain ⟨x7, h7⟩ : ∃ x, Sha.sched (Sha.wordsC c) (t - 7) = x := ⟨_, rfl⟩
          obtain ⟨v0, hv0⟩ : ∃ v, schedRow c t t = v := ⟨_, rfl⟩
          rw [h15] at c15 hnx; rw [h2] at c2 hnx; rw [h16] at c16 hnx; rw [h7] at c7 hnx; rw [hv0] at c0
          have Hnx := Lib.hid hnx
          have a1 := fun y z => U_add y z
          have a2 := fun y z => U_xor y z
          have a3 : ∀ x : Wd, U x / (8 : Int) = U (x >>> 3) := fun x => U_shr x 3
          have a4 : ∀ x : Wd, U x / (1024 : Int) = U (x >>> 10) := fun x => U_shr x 10
          clear h15 h2 h16 h7 hv0 hnx hi
          go_upto_region 9 with fail
          go_quiet (fail)
          have q7 := fun w => stillOf (rot7 x15 w)
          have q18 := fun w => stillOf (rot18 x15 w)
          have q17 := fun w => stillOf (rot17 x2 w)
          have q19 := fun w => stillOf (rot19 x2 w)
          have w16 : IntKind.i64.wrap ((t : Int) - 16) = (t : Int) - 16 := by rw [IntKind.wrap_i64]; omega
          have w7 : IntKind.i64.wrap ((t : Int) - 7) = (t : Int) - 7 := by rw [IntKind.wrap_i64]; omega
          have y7 : (7 : Int) ≤ (t : Int) := by omega
          have p16 : 0 ≤ (t : Int) - 16 ∧ (t : Int) - 16 < 64 := by omega
          have p7 : 0 ≤ (t : Int) - 7 ∧ (t : Int) - 7 < 64 := by omega
          have p0 : 0 ≤ (t : Int) ∧ (t : Int) < 64 := by omega
          have Q7 := Lib.hid q7; have Q18 := Lib.hid q18; have Q17 := Lib.hid q17; have Q19 := Lib.hid q19
          clear q7 q18 q17 q19
          go_upto_region 10 with fail
          refine wp_tail 29 (by kernel_rfl) (by kernel_rfl) ?_
          simp only [List.take_succ_cons, List.take_zero, List.drop_succ_cons, List.drop_zero]
          repeat still_step
          still_call (Q7.out _)
          repeat still_step
          still_call (Q18.out _)
          repeat still_step
          still_call (Q17.out _)
          repeat still_step
          still_call (Q19.out _)
          repeat still_step
          refine wpStill_nil ?_
          go_wp2_with fail
          go_roundg (gk - 1)
          case measure => omega
          case rel =>
            go_light
            exact ⟨t + 1, by omega, by omega, by go_num, Lib.hid ((Hnx.out _ rfl).drewN _)⟩
        · have d0 : decide ((t : Int) < 64) = false := by rw [decide_eq_false_iff_not]; omega
          obtain rfl : t = 64 := by omega
          have hi := hI.out
          have hold : Below w.heap.size w wr := by rw [Hbw.out]; exact hi.2
          have hsr : RowV wr bs T 8 (fun i => vU (s.out i)) := Hs.out.below hold
          have v0 := hsr.cell (show 0 < 8 by decide)
          have v1 := hsr.cell (show 1 < 8 by decide)
          have v2 := hsr.cell (show 2 < 8 by decide)
          have v3 := hsr.cell (show 3 < 8 by decide)
          have v4 := hsr.cell (show 4 < 8 by decide)
          have v5 := hsr.cell (show 5 < 8 by decide)
          have v6 := hsr.cell (show 6 < 8 by decide)
          have v7 := hsr.cell (show 7 < 8 by decide)
          have hlt := hi.2.size
          clear hsr ht ht64 ht16 hi
          simp only [Sha.St.out] at v0 v1 v2 v3 v4 v5 v6 v7
          go_wp2_with fail
          have I1 : Hid (AbsJ c s w bw wr.heap.size 0 (wr.alloc (.cells (rowF 8 fun i => vU (s.out i)) 163))) :=
            Lib.hid ⟨RowV.new wr 163 8 _, hI.out.1.alloc _, hI.out.2.alloc (by rw [← Hbw.out]; exact hlt) _, hI.out.1.lt⟩
          change Code.wp _ _ _ _ (wr.alloc (.cells (rowF 8 fun i => vU (s.out i)) 163))
          obtain ⟨w2, hw2⟩ : ∃ x, wr.alloc (.cells (rowF 8 fun i => vU (s.out i)) 163) = x := ⟨_, rfl⟩
          obtain ⟨bv, hbv⟩ : ∃ x, wr.heap.size = x := ⟨_, rfl⟩
          rw [hw2, hbv] at I1
          rw [hw2, hbv]
          clear hw2 hbv v0 v1 v2 v3 v4 v5 v6 v7 hold hlt d0 hI
          go_loopg [10, 11, 12, 69] 64 (fun g s10 s11 s12 s69 wx => ∃ t : Nat, t + g = 64 ∧ s69 = .int .i64 (t : Int) ∧ Hid (AbsJ c s w bw bv t wx))
          case atStart => exact ⟨0, by omega, rfl, I1⟩
          case round =>
            clear I1
            obtain ⟨t, ht, rfl, hJ⟩ := hrel
            by_cases ht64 : t < 64
            · have d0 : decide ((t : Int) < 64) = true := by rw [decide_eq_true_iff]; omega
              have z1 : (0 : Int) ≤ (t : Int) := Int.natCast_nonneg t
              have z2 : (t : Int) < 64 := by omega
              have z3 : ((t : Int)).toNat = t := Int.toNat_natCast t
              have hj := hJ.out
              have hold : Below w.heap.size w wr := by rw [Hbw.out]; exact hj.2.2.1
              have ck := (Hk.out.below hold).2 t ht64
              have cw := hj.2.1.cell ht64
              rw [show schedRow c 64 t = vU (Sha.sched (Sha.wordsC c) t) from by unfold schedRow; rw [if_pos ht64]] at cw
              have hnx := fun (wx : World) (h : RowV wx bv 163 8 (fun i => vU ((Sha.rnd (Sha.K t) (Sha.sched (Sha.wordsC c) t) (Sha.rnds (Sha.sched (Sha.wordsC c)) s t)).out i))) (ho : OnlyB bv wr wx) =>
                (show AbsJ c s w bw bv (t + 1) wx from ⟨h, ho.row (Nat.ne_of_lt hj.2.2.2) hj.2.1, hj.2.2.1.trans (ho.below (Nat.le_of_lt hj.2.2.2) (Nat.le_of_lt hj.2.1.lt)), hj.2.2.2⟩)
              have hv := hj.1
              obtain ⟨r, hr⟩ : ∃ r, Sha.rnds (Sha.sched (Sha.wordsC c)) s t = r := ⟨_, rfl⟩
              obtain ⟨wt, hwt⟩ : ∃ x, Sha.sched (Sha.wordsC c) t = x := ⟨_, rfl⟩
              obtain ⟨kt, hkt⟩ : ∃ x, Sha.K t = x := ⟨_, rfl⟩
              rw [hr] at hv hnx; rw [hwt] at cw hnx; rw [hkt] at ck hnx
              have v0 := hv.cell (show 0 < 8 by decide)
              have v1 := hv.cell (show 1 < 8 by decide)
              have v2 := hv.cell (show 2 < 8 by decide)
              have v4 := hv.cell (show 4 < 8 by decide)
              have v5 := hv.cell (show 5 < 8 by decide)
              have v6 := hv.cell (show 6 < 8 by decide)
              have v7 := hv.cell (show 7 < 8 by decide)
              simp only [Sha.St.out] at v0 v1 v2 v4 v5 v6 v7
              have Hv := Lib.hid hv
              have Hnx := Lib.hid hnx
              have a1 := fun y z => U_add y z
              have a2 := fun y z => U_xor y z
              have a3 := fun y z => U_and y z
              have a4 := fun y z => U_or y z
              clear hv hnx hr hwt hkt hold hj
              go_upto_region 15 with fail
              go_quiet ((go_at_call 144; exact qsame (rotated1 _ _)))
              rw [Sha.ch_is]
              go_upto_region 16 with fail
              go_quiet ((go_at_call 144; exact qsame2 (rotated0 _ _)))
              rw [Sha.maj_is]
              go_upto_region 17 with fail
              refine wp_tail 2 (by kernel_rfl) (by kernel_rfl) ?_
              simp only [List.take_succ_cons, List.take_zero, List.drop_succ_cons, List.drop_zero]
              repeat still_step
              refine wpStill_nil ?_
              refine wpList_copy_rowV rfl (.tmp 116) (.tmp 117) 203 203 rfl 161 Tryz.underlying203 (by kernel_rfl) bv 1 7 7 ⟨bv, 0, none⟩ 7 8 rfl rfl 8 7 163 (fun i => vU (r.out i)) (fun i => vU (r.out i)) Hv.out rfl ?c1 (by decide) (fun _ _ => rfl) ?_
              case c1 =>
                intro j hj
                go_light
                have := Hv.out.cell (show j < 8 by omega)
                rw [Addr.add_mid, Nat.zero_add]
                exact this
              intro w4 hr4 ho4
              clear v0 v1 v2 v4 v5 v6 v7 ck cw
              have Ho4 := Lib.hid (OnlyB.trans (b := ((wr.drewN _).drewN nq).drew) (a := wr) ⟨rfl, rfl, rfl, Nat.le_refl _, fun _ _ _ => rfl⟩ ho4.out)
              have c4 := hr4.out.cell (show 4 < 8 by decide)
              have c0 := hr4.out.cell (show 0 < 8 by decide)
              have f4 := hr4.out.frozen 4
              have f0 := hr4.out.frozen 0
              simp only [Nat.reduceLeDiff, Nat.reduceLT, Nat.reduceAdd, and_self, if_true, Nat.reduceSub, Sha.St.out, if_false, false_and] at c4 c0
              have Hfin := Lib.hid (Hnx.out ((w4.setCell ⟨bv, 4, none⟩ (vU (r.d + (r.h + Sha.S1 r.e + Sha.ch r.e r.f r.g + kt + wt)))).setCell ⟨bv, 0, none⟩ (vU (r.h + Sha.S1 r.e + Sha.ch r.e r.f r.g + kt + wt + (Sha.S0 r.a + Sha.maj r.a r.b r.c)))) (((hr4.out.set 4 _).set 0 _).congr (rnd_row kt wt r)) ((Ho4.out.setCell (.inl rfl) _).setCell (.inl rfl) _))
              clear hr4 ho4
              go_wp2_with fail
              go_roundg (gk - 1)
              case measure => omega
              case rel =>
                go_light
                exact ⟨t + 1, by omega, by go_num, Hfin⟩
            · have d0 : decide ((t : Int) < 64) = false := by rw [decide_eq_false_iff_not]; omega
              obtain rfl : t = 64 := by omega
              clear ht ht64
              obtain ⟨r, hr⟩ : ∃ r, Sha.rnds (Sha.sched (Sha.wordsC c)) s 64 = r := ⟨_, rfl⟩
              have hj := hJ.out
              have hold : Below w.heap.size w wr := by rw [Hbw.out]; exact hj.2.2.1
              have I2 : Hid (AbsL r s w bs bv T 0 wr) := by
                refine Lib.hid ⟨(Hs.out.below hold).congr fun i _ => ?_, by rw [← hr]; exact hj.1, .of_below hold⟩
                rw [if_neg (Nat.not_lt_zero i)]
              have hlt : bs ≠ bv := by have := hj.2.2.2; omega
              have Hr := Lib.hid hr
              clear hr hj hold hJ
              go_wp2_with fail
              clear d0
              go_loopg [13, 129] 8 (fun g s13 s129 wx => ∃ i : Nat, i + g = 8 ∧ s129 = .int .i64 (i : Int) ∧ Hid (AbsL r s w bs bv T i wx))
              case atStart => exact ⟨0, by omega, rfl, I2⟩
              case round =>
                clear I2
                obtain ⟨i, hi, rfl, hL⟩ := hrel
                by_cases hi8 : i < 8
                · have d0 : decide ((i : Int) < 8) = true := by rw [decide_eq_true_iff]; omega
                  have z1 : (0 : Int) ≤ (i : Int) := Int.natCast_nonneg i
                  have z2 : (i : Int) < 8 := by omega
                  have z3 : ((i : Int)).toNat = i := Int.toNat_natCast i
                  have p0 : 0 ≤ (i : Int) ∧ (i : Int) < 8 := by omega
                  have c1 := hL.out.1.cell hi8
                  rw [if_neg (Nat.lt_irrefl i)] at c1
                  have c2 := hL.out.2.1.cell hi8
                  have f1 := hL.out.1.frozen i
                  have a1 := fun y z => U_add y z
                  have Hfin := Lib.hid (show AbsL r s w bs bv T (i + 1) (wr.setCell ⟨bs, i, none⟩ (vU (s.out i + r.out i))) from
                    ⟨hL.out.1.put fun j _ => by
                      by_cases hj : j = i
                      · subst hj; rw [if_pos rfl, if_pos (Nat.lt_succ_self j)]
                      · rw [if_neg hj]
                        by_cases h2 : j < i
                        · rw [if_pos h2, if_pos (by omega)]
                        · rw [if_neg h2, if_neg (by omega)],
                      hL.out.2.1.other (a := ⟨bs, i, none⟩) (Ne.symm hlt) _, hL.out.2.2.setCell (.inl rfl) _⟩)
                  obtain ⟨si, hsi⟩ : ∃ x, s.out i = x := ⟨_, rfl⟩
                  obtain ⟨ri, hri⟩ : ∃ x, r.out i = x := ⟨_, rfl⟩
                  rw [hsi] at c1 Hfin; rw [hri] at c2 Hfin
                  clear hsi hri
                  go_upto_region 24 with fail
                  refine wp_tail 11 (by kernel_rfl) (by kernel_rfl) ?_
                  simp only [List.take_succ_cons, List.take_zero, List.drop_succ_cons, List.drop_zero]
                  repeat still_step
                  refine wpStill_nil ?_
                  go_wp2_with fail
                  go_roundg (gk - 1)
                  case measure => omega
                  case rel =>
                    go_light
                    exact ⟨i + 1, by omega, by go_num, Lib.hid (Hfin.out.drewN 1)⟩
                · have d0 : decide ((i : Int) < 8) = false := by rw [decide_eq_false_iff_not]; omega
                  obtain rfl : i = 8 := by omega
                  go_wp2_with fail
                  go_end0
                  go_light
                  refine ⟨rfl, hL.out.1.congr fun j hj => ?_, hL.out.2.2⟩
                  rw [if_pos hj]
                  show _ = vU ((Sha.plus s (Sha.rnds (Sha.sched (Sha.wordsC c)) s 64)).out j)
                  rw [Hr.out, St.out_plus _ _ _ hj]
end Go.Proofs.YtpekhdahamloaaaGreatDoor

namespace Go.Proofs.YtpekhdahamloaaaGreatDoor
open Go.RowKit
open Sha (Wd St)

/-- the start lies in the program's table -/
def SAt (w : World) : Prop := 1 < w.heap.size ∧ ∀ t, t < 8 → w.cell? ⟨1, t, none⟩ = some (vU (Sha.init.out t))
theorem SAt.below {w w' : World} (h : SAt w) (hb : Below w.heap.size w w') : SAt w' :=
  ⟨Nat.lt_of_lt_of_le h.1 hb.size, fun t ht => (hb.cell (p := ⟨_, t, none⟩) h.1).trans (h.2 t ht)⟩
/-- the two tables -/
def Tab (w : World) : Prop := KAt w ∧ SAt w
theorem Tab.below {w w' : World} (h : Tab w) (hb : Below w.heap.size w w') : Tab w' := ⟨h.1.below hb, h.2.below hb⟩
/-- a digest, as a value -/
def digV (l : List UInt8) : Value := .agg (rowF 32 fun i => vB (l.getD i 0))

/-- the padded message's bytes -/
def padF (m : List UInt8) (j : Nat) : UInt8 := (Sha.pad m).getD j 0
/-- i blocks absorbed -/
def SumI (m : List UInt8) (w : World) (bd bs i : Nat) (wx : World) : Prop :=
  RowV wx bs 163 8 (fun j => vU ((Sha.blocksF (padF m) Sha.init i).out j)) ∧ RowV wx bd 35 32 (fun _ => vB 0) ∧ Below bd w wx
theorem SumI.next {m : List UInt8} {w wx wy : World} {bd bs i : Nat} (h : SumI m w bd bs i wx) (hne : bd < bs)
    (hr : RowV wy bs 163 8 (fun j => vU ((Sha.comp (Sha.blocksF (padF m) Sha.init i) (Sha.wordsC fun j => padF m (64 * i + j))).out j))) (ho : OnlyB bs wx wy) : SumI m w bd bs (i + 1) wy :=
  ⟨hr, ho.row (Nat.ne_of_lt hne) h.2.1, h.2.2.trans (ho.below (Nat.le_of_lt hne) (Nat.le_of_lt h.2.1.lt))⟩

theorem end_row (m md : List UInt8) (i r E : Nat) (hri : m.length = 64 * i + r) (hr : r < 64) (hE : Sha.endLen m.length = E) (hEr : (55 < r → E = 128) ∧ (¬ 55 < r → E = 64)) (hlen : m.length * 8 < 2 ^ 64) (hd : ∀ j, md.getD j 0 = m.getD (64 * i + j) 0) :
    ∀ j, j < 128 → putRow (E - 8) (E - (E - 8)) (m.length * 8) (E - (E - 8)) (fun j => vB (if j = r then 0x80 else if j < r then md.getD j 0 else 0)) j = vB (if j < E then padF m (64 * i + j) else 0) := by
  intro j hj
  have hmod : m.length % 64 = r := by omega
  have hc : (55 < r ∧ E = 128) ∨ (¬ 55 < r ∧ E = 64) := by
    by_cases h : 55 < r
    · exact .inl ⟨h, hEr.1 h⟩
    · exact .inr ⟨h, hEr.2 h⟩
  unfold putRow
  dsimp only
  by_cases hjE : j < E
  · have hp := Sha.pad_end m (j := j) (by rw [hE]; exact hjE)
    rw [hmod, show m.length - r = 64 * i by omega] at hp
    rw [if_pos hjE, show padF m (64 * i + j) = Sha.endByte m j from hp]
    unfold Sha.endByte
    rw [hmod, hE, show m.length - r = 64 * i by omega]
    by_cases h1 : E ≤ j + 8
    · rw [if_pos (by omega), if_neg (by omega), if_neg (by omega), if_pos h1]
      unfold byteOfN Sha.lenByte
      rw [Nat.mod_eq_of_lt hlen, show E - 8 + (E - (E - 8)) - 1 - j = E - 1 - j by omega]
    · rw [if_neg (by omega)]
      by_cases h2 : j < r
      · rw [if_neg (by omega), if_pos h2, if_pos h2, hd]
      · by_cases h3 : j = r
        · rw [if_pos h3, if_neg h2, if_pos h3]
        · rw [if_neg h3, if_neg h2, if_neg h2, if_neg h3, if_neg h1]
  · rw [if_neg hjE, if_neg (by omega), if_neg (by omega), if_neg (by omega)]

/-- byte i of what has been written of the hash, k words done -/
def outRow (S : St) (k : Nat) (j : Nat) : Value := vB (if j < 4 * k then Sha.byteOf (S.out (j / 4)) (j % 4) else 0)
theorem outRow_step (S : St) {k : Nat} (hk : k < 8) : ∀ j, j < 32 → putRow (4 * k) 4 (S.out k).toNat 4 (outRow S k) j = outRow S (k + 1) j := by
  intro j hj
  unfold putRow outRow
  by_cases h1 : 4 * k + 4 ≤ j + 4 ∧ j < 4 * k + 4
  · rw [if_pos h1, if_pos (by omega), show j / 4 = k by omega]
    unfold byteOfN Sha.byteOf
    rw [show 8 * (4 * k + 4 - 1 - j) = 24 - 8 * (j % 4) by omega]
  · rw [if_neg h1]
    by_cases h2 : j < 4 * k
    · rw [if_pos h2, if_pos (by omega)]
    · rw [if_neg h2, if_neg (by omega)]
theorem outRow_end (S : St) : ∀ j, j < 32 → outRow S 8 j = vB ((Sha.digestOf S).getD j 0) := by
  intro j hj
  unfold outRow Sha.digestOf
  rw [if_pos (by omega), List.getD_eq_getElem?_getD, List.getElem?_map, List.getElem?_range hj]; rfl
theorem index8 (S : St) : ∀ k : Nat, k < 8 → ∀ W : World, (Instr.index 163 (.agg #[vU S.a, vU S.b, vU S.c, vU S.d, vU S.e, vU S.f, vU S.g, vU S.h]) (.int .i64 (k : Int))).run Tryz.prog W = .ok (vU (S.out k)) W
  | 0, _, _ => by kernel_rfl
  | 1, _, _ => by kernel_rfl
  | 2, _, _ => by kernel_rfl
  | 3, _, _ => by kernel_rfl
  | 4, _, _ => by kernel_rfl
  | 5, _, _ => by kernel_rfl
  | 6, _, _ => by kernel_rfl
  | 7, _, _ => by kernel_rfl
theorem sum_state (m : List UInt8) (i r E : Nat) (hri : m.length = 64 * i + r) (hr : r < 64) (hE : Sha.endLen m.length = E) : Sha.sum m = Sha.digestOf (Sha.blocksF (padF m) Sha.init (i + E / 64)) := by
  rw [Sha.sum_is, hE, show m.length / 64 = i by omega]; rfl

set_option maxRecDepth 100000 in
set_option maxHeartbeats 4000000 in
theorem sum_any (v : Value) (m : List UInt8) (w : World) (hv : BytesAt w v m) (hT : Tab w) :
    Calls Tryz.prog 61 #[v] w fun e w' => e = .returned (digV (Sha.sum m)) ∧ Below w.heap.size w w' := by
  obtain ⟨va, vc, rfl⟩ := hv.slice
  have Hv := Lib.hid hv
  have HT := Lib.hid hT
  have s0 := hT.2.2 0 (by decide)
  have s1 := hT.2.2 1 (by decide)
  have s2 := hT.2.2 2 (by decide)
  have s3 := hT.2.2 3 (by decide)
  have s4 := hT.2.2 4 (by decide)
  have s5 := hT.2.2 5 (by decide)
  have s6 := hT.2.2 6 (by decide)
  have s7 := hT.2.2 7 (by decide)
  have hz : 1 < w.heap.size := hT.2.1
  simp only [Sha.St.out] at s0 s1 s2 s3 s4 s5 s6 s7
  clear hv hT
  go_enter Tryz.func61, Tryz.ntmps61
  go_wp2_with fail
  clear s0 s1 s2 s3 s4 s5 s6 s7 hz
  have I0 : Hid (SumI m w w.heap.size (w.heap.size + 1) 0 ((w.alloc (.cells (rowF 32 fun _ => vB 0) 35)).alloc (.cells (rowF 8 fun j => vU (Sha.init.out j)) 163))) := by
    refine Lib.hid ⟨?_, (RowV.new w _ 32 _).alloc _, ((Below.refl _ _).alloc (Nat.le_refl _) _).alloc (by simp) _⟩
    have := RowV.new (w.alloc (.cells (rowF 32 fun _ => vB 0) 35)) 163 8 (fun j => vU (Sha.init.out j))
    rw [World.size_alloc] at this
    exact this
  change Code.wp _ _ _ _ ((w.alloc (.cells (rowF 32 fun _ => vB 0) 35)).alloc (.cells (rowF 8 fun j => vU (Sha.init.out j)) 163))
  obtain ⟨w1, hw1⟩ : ∃ x, (w.alloc (.cells (rowF 32 fun _ => vB 0) 35)).alloc (.cells (rowF 8 fun j => vU (Sha.init.out j)) 163) = x := ⟨_, rfl⟩
  rw [hw1] at I0 ⊢
  clear hw1
  obtain ⟨bd, hbd⟩ : ∃ x, w.heap.size = x := ⟨_, rfl⟩
  obtain ⟨bs, hbs⟩ : ∃ x, bd + 1 = x := ⟨_, rfl⟩
  have Hbd := Lib.hid hbd
  have hne : bd < bs := by omega
  rw [hbd, hbs] at I0 ⊢
  have Hm := Lib.hid (show ((m.length : Nat) : Int) ≤ 140737488351232 from Hv.out.len_le)
  clear hbd hbs
  go_loopg [5] (m.length / 64) (fun g s5 wx => ∃ (i : Nat) (sv : Value), i + g = m.length / 64 ∧ s5 = sv ∧ Hid (BytesAt w sv (m.drop (64 * i))) ∧ Hid (SumI m w bd bs i wx))
  case atStart => exact ⟨0, _, by omega, rfl, Lib.hid (by rw [Nat.mul_zero, List.drop_zero]; exact Hv.out), I0⟩
  case round =>
    clear I0
    obtain ⟨i, sv, hi, e5, hB, hI⟩ := hrel
    obtain rfl : sv = _ := e5.symm
    by_cases hlt : 64 * i + 64 ≤ m.length
    · have hlen : (m.drop (64 * i)).length = m.length - 64 * i := List.length_drop
      obtain ⟨b, o, cap, rfl, h2, h4, hbw, hcell⟩ : ∃ b o cap : Nat, sv = .slice (some ⟨b, o, none⟩) (m.length - 64 * i) cap ∧ m.length - 64 * i ≤ cap ∧ (cap : Int) ≤ 9223372036854775807 ∧ b < w.heap.size ∧ ∀ j, j < m.length - 64 * i → w.cell? ⟨b, o + j, none⟩ = some (vB ((m.drop (64 * i)).getD j 0)) := by
        rcases hB.out with ⟨_, h⟩ | ⟨b, o, cap, h1, h2, _, h4, h5, h6⟩
        · exfalso
          have := congrArg List.length h
          rw [hlen, List.length_nil] at this; omega
        · rw [hlen] at h1 h2 h6
          exact ⟨b, o, cap, h1, h2, h4.2, h5, h6⟩
      have hold : Below w.heap.size w wr := by rw [Hbd.out]; exact hI.out.2.2
      have hab := absorb_any bs b o cap 163 (Sha.blocksF (padF m) Sha.init i) (fun j => padF m (64 * i + j)) wr hI.out.1 (by omega) h4 (Nat.lt_of_lt_of_le hbw hold.size) (fun j hj => by
        rw [hold.cell (p := ⟨b, o + j, none⟩) hbw, hcell j (by omega), drop_getD]
        unfold padF
        rw [Sha.pad_lo m (by omega)]) (HT.out.1.below hold)
      have Hab := Lib.hid hab
      have Hcell := Lib.hid hcell
      obtain ⟨L, hL⟩ : ∃ L, m.length - 64 * i = L := ⟨_, rfl⟩
      have HL := Lib.hid hL
      rw [hL] at h2 Hcell ⊢
      have hq : i + 1 ≤ m.length / 64 := by omega
      have l64 : (64 : Int) ≤ (L : Int) := by omega
      have l64n : 64 ≤ L := by omega
      have l64c : 64 ≤ cap := by omega
      have lm : (L : Int) ≤ 140737488351232 := by have := Hm.out; omega
      clear hab hcell hold hL
      by_cases hc : cap = 64
      · subst hc
        have hB' : Hid (BytesAt w (.slice (some ⟨b, o, none⟩) (L - 64) (64 - 64)) (m.drop (64 * (i + 1)))) := by
          have := BytesAt.drop_same (w := w) (b := b) (o := o) (k := 64) (l := m.drop (64 * i)) rfl (by rw [hlen, HL.out]; exact h2)
          rw [hlen, HL.out, List.drop_drop, show 64 * i + 64 = 64 * (i + 1) by omega] at this
          exact this
        obtain rfl : L = 64 := by omega
        clear hlen hlt
        go_wp2_with fail
        refine (Hab.out).mono ?_
        rintro e w' ⟨rfl, hr, ho⟩
        have Hn := Lib.hid (hI.out.next hne hr ho)
        clear hr ho
        go_wp2_with fail
        go_roundg (gk - 1)
        case measure => omega
        case rel =>
          go_light
          exact ⟨i + 1, _, by omega, rfl, hB', Hn⟩
      · have hB' : Hid (BytesAt w (.slice (some ⟨b, o + 64, none⟩) (L - 64) (cap - 64)) (m.drop (64 * (i + 1)))) := by
          have := BytesAt.drop_at (w := w) (b := b) (o := o) (cap := cap) (k := 64) (l := m.drop (64 * i)) (by rw [hlen, HL.out]; exact h2) ⟨by rw [hlen, HL.out]; exact lm, h4⟩ hbw (by rw [hlen, HL.out]; exact Hcell.out) (by rw [hlen]; omega)
          rw [hlen, HL.out, List.drop_drop, show 64 * i + 64 = 64 * (i + 1) by omega] at this
          exact this
        have hc64 : ¬ cap = 64 := by omega
        clear hlen hlt
        go_wp2_with fail
        refine (Hab.out).mono ?_
        rintro e w' ⟨rfl, hr, ho⟩
        have Hn := Lib.hid (hI.out.next hne hr ho)
        clear hr ho
        go_wp2_with fail
        go_roundg (gk - 1)
        case measure => omega
        case rel =>
          go_light
          exact ⟨i + 1, _, by omega, rfl, hB', Hn⟩
    · have hlen : (m.drop (64 * i)).length = m.length - 64 * i := List.length_drop
      obtain ⟨va', vc', rfl⟩ := hB.out.slice
      rw [hlen] at hB ⊢
      obtain ⟨r, hr⟩ : ∃ r, m.length - 64 * i = r := ⟨_, rfl⟩
      have hr64 : r < 64 := by omega
      have hri : m.length = 64 * i + r := by omega
      have Hri := Lib.hid hri
      rw [hr] at hB ⊢
      have d0 : decide ((64 : Int) ≤ (r : Int)) = false := by rw [decide_eq_false_iff_not]; omega
      clear hlen hr hri hlt hi
      have hmk : ∀ W : World, (Instr.makeSlice 61 (.int .i64 64) (.int .i64 128)).run Tryz.prog W = .ok (.slice (some ⟨W.heap.size, 0, none⟩) 64 128) (W.alloc (.cells (rowF 128 fun _ => vB 0) 5)) := fun _ => by kernel_rfl
      go_upto_region 8 with fail
      clear hmk
      have R3 : Hid (RowV (wr.alloc (.cells (rowF 128 fun _ => vB 0) 5)) wr.heap.size 5 128 (fun _ => vB 0)) := Lib.hid (RowV.new wr _ 128 _)
      have I3 : Hid (SumI m w bd bs i (wr.alloc (.cells (rowF 128 fun _ => vB 0) 5))) := Lib.hid ⟨hI.out.1.alloc _, hI.out.2.1.alloc _, hI.out.2.2.alloc (Nat.le_of_lt hI.out.2.1.lt) _⟩
      have hbe : bs < wr.heap.size := hI.out.1.lt
      obtain ⟨w3, hw3⟩ : ∃ x, wr.alloc (.cells (rowF 128 fun _ => vB 0) 5) = x := ⟨_, rfl⟩
      obtain ⟨be, hbee⟩ : ∃ x, wr.heap.size = x := ⟨_, rfl⟩
      rw [hw3] at I3
      rw [hw3, hbee] at R3 ⊢
      rw [hbee] at hbe
      clear hw3 hbee hI d0
      have hlen : (m.drop (64 * i)).length = r := by rw [List.length_drop, Hri.out]; omega
      have hsrc : 0 < r → ∃ ad, va' = some ad ∧ ∀ j, j < r → w3.cell? (ad.add j) = some (vB ((m.drop (64 * i)).getD j 0)) := by
        intro h0
        rcases hB.out with ⟨⟨a, c, h1, _⟩, h⟩ | ⟨b, o, cap, h1, h2, _, h4, h5, h6⟩
        · rw [h] at hlen; simp at hlen; omega
        · cases h1
          refine ⟨_, rfl, fun j hj => ?_⟩
          have hold : Below w.heap.size w w3 := by rw [Hbd.out]; exact I3.out.2.2
          rw [Addr.add_mid, hold.cell (p := ⟨b, o + j, none⟩) h5]
          exact h6 j (by rw [hlen]; exact hj)
      have Hsrc := Lib.hid hsrc
      have Hmin := Lib.hid (show r = Nat.min r 64 from (Nat.min_eq_left (by omega)).symm)
      have Hdrop := Lib.hid (show ∀ j, (m.drop (64 * i)).getD j 0 = m.getD (64 * i + j) 0 from fun j => drop_getD _ _ _)
      obtain ⟨md, hmd⟩ : ∃ x, m.drop (64 * i) = x := ⟨_, rfl⟩
      rw [hmd] at Hsrc Hdrop
      have r64i : (r : Int) < 64 := by omega
      have r0i : (0 : Int) ≤ (r : Int) := by omega
      have rN : ((r : Int)).toNat = r := Int.toNat_natCast r
      clear hsrc hlen hB hmd
      go_upto_region 9 with (refine wpList_copy_any (o := ⟨some 24, _, _, _, _, _⟩) rfl (.tmp 22) (.tmp 23) 61 61 rfl 5 Tryz.underlying61 (by kernel_rfl) be 0 64 128 va' r vc' rfl rfl 128 r 5 _ (fun j => vB (md.getD j 0)) R3.out Hmin.out Hsrc.out (by omega) (fun _ _ => rfl) ?_; intro w4 hr4 ho4)
      have c9 := hr4.out.cell (show r < 128 by omega)
      have f9 := hr4.out.frozen r
      rw [if_neg (by omega)] at c9
      have I5 : Hid (SumI m w bd bs i (w4.setCell ⟨be, r, none⟩ (vB 0x80))) := Lib.hid
        ⟨(ho4.out.row (Nat.ne_of_lt hbe) I3.out.1).other (a := ⟨be, r, none⟩) (Nat.ne_of_lt hbe) _, (ho4.out.row (by omega) I3.out.2.1).other (a := ⟨be, r, none⟩) (show bd ≠ be by omega) _,
          (I3.out.2.2.trans (ho4.out.below (by omega) (Nat.le_of_lt I3.out.2.1.lt))).setCell (p := ⟨be, r, none⟩) (show bd ≤ be by omega) _⟩
      have R5 : Hid (RowV (w4.setCell ⟨be, r, none⟩ (vB 0x80)) be 5 128 (fun j => vB (if j = r then 0x80 else if j < r then md.getD j 0 else 0))) := Lib.hid (hr4.out.put fun j _ => by
        by_cases h1 : j = r
        · rw [if_pos h1, if_pos h1]
        · rw [if_neg h1, if_neg h1]
          by_cases h2 : j < r
          · rw [if_pos ⟨Nat.zero_le _, by omega⟩, if_pos h2, Nat.sub_zero]
          · rw [if_neg (by omega), if_neg h2])
      obtain ⟨v9, hv9⟩ : ∃ v : Value, vB 0 = v := ⟨_, rfl⟩
      obtain ⟨w5, hw5⟩ : ∃ x, w4.setCell ⟨be, r, none⟩ (vB 0x80) = x := ⟨_, rfl⟩
      have Hw5 := Lib.hid hw5
      rw [hw5] at I5 R5
      clear hw5 hv9 hr4 ho4 I3 R3 Hsrc
      go_upto_if 31 with fail
      change Code.wp _ _ _ _ (w4.setCell ⟨be, r, none⟩ (vB 0x80))
      rw [Hw5.out]
      clear c9 f9 Hw5
      have hmod : m.length % 64 = r := by rw [Hri.out]; omega
      obtain ⟨E, hE⟩ : ∃ E, Sha.endLen m.length = E := ⟨_, rfl⟩
      have hEr : (55 < r → E = 128) ∧ (¬ 55 < r → E = 64) := by
        rw [← hE]; unfold Sha.endLen; rw [hmod]
        exact ⟨fun h => if_pos h, fun h => if_neg h⟩
      have HE := Lib.hid hE
      have Hmod := Lib.hid hmod
      have HEr := Lib.hid hEr
      clear hE hmod hEr
      go_cut [6] (fun s6 wx => w5 = wx ∧ s6 = .slice (some ⟨be, 0, none⟩) E 128)
      case first =>
        by_cases h55 : 55 < r
        · have d1 : decide ((55 : Int) < (r : Int)) = true := by rw [decide_eq_true_iff]; omega
          obtain rfl : E = 128 := HEr.out.1 h55
          go_wp2_with fail
          go_meet
          exact ⟨rfl, rfl⟩
        · have d1 : decide ((55 : Int) < (r : Int)) = false := by rw [decide_eq_false_iff_not]; omega
          obtain rfl : E = 64 := HEr.out.2 h55
          go_wp2_with fail
          go_meet
          exact ⟨rfl, rfl⟩
      case rest =>
        obtain ⟨rfl, rfl⟩ := hcut
        have hE2 : E = 64 ∨ E = 128 := by
          by_cases h55 : 55 < r
          · exact .inr (HEr.out.1 h55)
          · exact .inl (HEr.out.2 h55)
        have e1 : (64 : Int) ≤ (E : Int) := by omega
        have e2 : (E : Int) ≤ 128 := by omega
        have e3 : ((E : Int) - 8).toNat = E - 8 := by omega
        have e4 : ¬ 128 = E - 8 := by omega
        have e5 : ¬ E - 8 = 128 := by omega
        have e6 := Hm.out
        have hp := put_any be (E - 8) (E - (E - 8)) (128 - (E - 8)) 128 5 (m.length * 8) _ w5 R5.out (by omega) (by omega) (by omega) (by omega)
        rw [show ((m.length * 8 : Nat) : Int) = (m.length : Int) * 8 by omega] at hp
        have Hp := Lib.hid hp
        have Hend := Lib.hid (end_row m md i r E Hri.out hr64 HE.out HEr.out (by omega) Hdrop.out)
        clear hp
        go_wp2_with fail
        refine (Hp.out).mono ?_
        rintro e w6 ⟨rfl, hr6, ho6⟩
        have R6 := Lib.hid (hr6.congr Hend.out)
        have I6 : Hid (SumI m w bd bs i w6) := Lib.hid ⟨ho6.row (Nat.ne_of_lt hbe) I5.out.1, ho6.row (by omega) I5.out.2.1, I5.out.2.2.trans (ho6.below (by omega) (Nat.le_of_lt I5.out.2.1.lt))⟩
        clear hr6 ho6 R5 I5
        clear e1 e2 e3 e4 e5 e6
        go_wp2_with fail
        go_loopg [6] (E / 64) (fun g s6 wx => ∃ (k o' c' : Nat), k + g = E / 64 ∧ s6 = .slice (some ⟨be, o', none⟩) (E - 64 * k) c' ∧ (64 * k < E → o' = 64 * k ∧ c' = 128 - 64 * k) ∧ Hid (SumI m w bd bs (i + k) wx) ∧ Hid (RowV wx be 5 128 (fun j => vB (if j < E then padF m (64 * i + j) else 0))))
        case atStart => exact ⟨0, 0, 128, by omega, rfl, fun _ => ⟨rfl, rfl⟩, I6, R6⟩
        case round =>
          clear I6 R6
          obtain ⟨k, o', c', hk, rfl, hoc, hI, hR⟩ := hrel
          by_cases hlt : 64 * k < E
          · obtain ⟨rfl, rfl⟩ := hoc hlt
            have hold : Below w.heap.size w wr := by rw [Hbd.out]; exact hI.out.2.2
            have hab := absorb_any bs be (64 * k) (128 - 64 * k) 163 (Sha.blocksF (padF m) Sha.init (i + k)) (fun j => padF m (64 * (i + k) + j)) wr hI.out.1 (by omega) (by omega) hR.out.lt (fun j hj => by
              rw [hR.out.cell (by omega), if_pos (by omega), show 64 * i + (64 * k + j) = 64 * (i + k) + j by omega]) (HT.out.1.below hold)
            have Hab := Lib.hid hab
            have hk2 : k = 0 ∨ k = 1 := by omega
            clear hab hold
            have hbs : bs ≠ be := by omega
            rcases hk2 with rfl | rfl
            · have hgk : E / 64 - (0 + 1) < gk := by omega
              clear hk
              go_wp2_with fail
              refine (Hab.out).mono ?_
              rintro e w' ⟨rfl, hr, ho⟩
              have Hn := Lib.hid (hI.out.next hne hr ho)
              have Rn := Lib.hid (ho.row (Ne.symm hbs) hR.out)
              clear hr ho
              go_wp2_with fail
              go_roundg (E / 64 - (0 + 1))
              case measure => exact hgk
              case rel =>
                go_light
                exact ⟨0 + 1, 64, 128 - 64, by omega, rfl, fun _ => ⟨rfl, rfl⟩, Hn, Rn⟩
            · have hgk : E / 64 - (1 + 1) < gk := by omega
              obtain rfl : E = 128 := by omega
              clear hk
              go_wp2_with fail
              refine (Hab.out).mono ?_
              rintro e w' ⟨rfl, hr, ho⟩
              have Hn := Lib.hid (hI.out.next hne hr ho)
              have Rn := Lib.hid (ho.row (Ne.symm hbs) hR.out)
              clear hr ho
              go_wp2_with fail
              go_roundg (128 / 64 - (1 + 1))
              case measure => exact hgk
              case rel =>
                go_light
                exact ⟨1 + 1, 64, 0, by omega, rfl, fun h => absurd h (by decide), Hn, Rn⟩
          · have hE0 : E - 64 * k = 0 := by omega
            have hkE : k = E / 64 := by omega
            rw [hE0]
            have hfin : Hid (SumI m w bd bs (i + E / 64) wr) := by rw [← hkE]; exact hI
            clear hoc hE0 hkE hI hR hk hlt
            have Hsum := Lib.hid (sum_state m i r E Hri.out hr64 HE.out)
            obtain ⟨S, hS⟩ : ∃ S, Sha.blocksF (padF m) Sha.init (i + E / 64) = S := ⟨_, rfl⟩
            rw [hS] at Hsum
            have hs := hfin.out.1
            rw [hS] at hs
            have v0 := hs.cell (show 0 < 8 by decide)
            have v1 := hs.cell (show 1 < 8 by decide)
            have v2 := hs.cell (show 2 < 8 by decide)
            have v3 := hs.cell (show 3 < 8 by decide)
            have v4 := hs.cell (show 4 < 8 by decide)
            have v5 := hs.cell (show 5 < 8 by decide)
            have v6 := hs.cell (show 6 < 8 by decide)
            have v7 := hs.cell (show 7 < 8 by decide)
            simp only [Sha.St.out] at v0 v1 v2 v3 v4 v5 v6 v7
            have J0 : Hid (RowV wr bd 35 32 (outRow S 0) ∧ Below bd w wr) := Lib.hid ⟨hfin.out.2.1, hfin.out.2.2⟩
            clear hS hs hfin
            go_wp2_with fail
            clear v0 v1 v2 v3 v4 v5 v6 v7
            go_loopg [7, 8, 54] 8 (fun g s7 s8 s54 wx => ∃ k : Nat, k + g = 8 ∧ s54 = .int .i64 (k : Int) ∧ Hid (RowV wx bd 35 32 (outRow S k) ∧ Below bd w wx))
            case atStart => exact ⟨0, by omega, rfl, J0⟩
            case round =>
              clear J0
              obtain ⟨k, hk, rfl, hJ⟩ := hrel
              by_cases hk8 : k < 8
              · have d0 : decide ((k : Int) < 8) = true := by rw [decide_eq_true_iff]; omega
                have z1 : (0 : Int) ≤ (k : Int) := Int.natCast_nonneg k
                have z2 : (k : Int) < 8 := by omega
                have z3 : (4 * (k : Int)).toNat = 4 * k := by omega
                have z4 : (4 * (k : Int) + 4).toNat = 4 * k + 4 := by omega
                have z5 : 4 * k + 4 - 4 * k = 4 := by omega
                have z6 : (0 : Int) ≤ 4 * (k : Int) := by omega
                have z7 : 4 * (k : Int) ≤ 4 * (k : Int) + 4 := by omega
                have z8 : 4 * (k : Int) + 4 ≤ 32 := by omega
                have hix := index8 S k hk8
                have hp := put_any bd (4 * k) 4 (32 - 4 * k) 32 35 (S.out k).toNat _ wr hJ.out.1 (by omega) (by omega) (by omega) (by have := (S.out k).isLt; omega)
                have hput := Lib.hid (outRow_step S hk8)
                have hu := U_lt (S.out k)
                rw [show (((S.out k).toNat : Nat) : Int) = U (S.out k) from rfl] at hp
                have u1 := hu.1
                have u2 := hu.2
                have Hp := Lib.hid hp
                clear hp hu
                go_wp2_with fail
                refine (Hp.out).mono ?_
                rintro e w' ⟨rfl, hr, ho⟩
                have Hn : Hid (RowV w' bd 35 32 (outRow S (k + 1)) ∧ Below bd w w') := Lib.hid ⟨hr.congr hput.out, hJ.out.2.trans (ho.below (Nat.le_refl _) (Nat.le_of_lt hJ.out.1.lt))⟩
                clear hr ho
                go_wp2_with fail
                go_roundg (gk - 1)
                case measure => omega
                case rel =>
                  go_light
                  exact ⟨k + 1, by omega, by go_num, Hn⟩
              · have d0 : decide ((k : Int) < 8) = false := by rw [decide_eq_false_iff_not]; omega
                obtain rfl : k = 8 := by omega
                have R8 : Hid (RowV wr bd 35 32 (fun j => vB ((Sha.sum m).getD j 0))) := Lib.hid (hJ.out.1.congr fun j hj => by rw [outRow_end S j hj, ← Hsum.out])
                have B8 := Lib.hid hJ.out.2
                clear hJ hk hk8
                go_wp2_with (first
                  | (refine wpList_load_rowV (o := ⟨some 68, _, _, _, _, _⟩) rfl 35 (.tmp 2) rfl bd rfl 32 35 _ R8.out _ Tryz.underlying35 rfl (by kernel_rfl) ?_)
                  | (refine wpList_store_rowV (o := ⟨none, .store 35 (.tmp 2) (.tmp 68), _, _, _, _⟩) rfl 35 (.tmp 2) (.tmp 68) rfl bd rfl 32 35 _ _ rfl R8.out (by kernel_rfl) (fun _ _ => rfl) ?_; intro w9 R9 O9))
                refine bodyPost_ret (v := digV (Sha.sum m)) (results_rowV rfl _ _ bd 32 35 _ _ rfl R9.out Tryz.underlying35 rfl (by kernel_rfl)) rfl ⟨rfl, ?_⟩
                go_light
                rw [Hbd.out]
                exact B8.out.trans (O9.out.below (Nat.le_refl _) (Nat.le_of_lt R8.out.lt))
end Go.Proofs.YtpekhdahamloaaaGreatDoor
