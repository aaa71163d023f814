/- Scalar and Point, of package group and of the reference. -/
import Derived.Test.YtdcpejfnhegdaaaDoorRest
set_option linter.unusedVariables false
set_option linter.unusedSimpArgs false
namespace Go.Proofs.YtdcpejfnhegdaaaDoor
open Go.RowKit

def scalarM (t m : List UInt8) : Nat := 1 + restM 2305843009213688668 (Sha.tagged t m)
def pointX (t m : List UInt8) : Nat := 2 + restM 4611686018427377336 (Sha.tagged t m)
def pointM (t m : List UInt8) : Nat := mulP (pointX t m) (pointX t m)
theorem tagged_len (t m : List UInt8) : (Sha.tagged t m).length = 32 := Sha.sum_len _
theorem scalarM_bd (t m : List UInt8) : 1 ≤ scalarM t m ∧ scalarM t m < 2305843009213688669 := by
  unfold scalarM; have := restM_lt (m := 2305843009213688668) (by decide) (Sha.tagged t m); omega
theorem pointX_bd (t m : List UInt8) : 2 ≤ pointX t m ∧ pointX t m < 4611686018427377338 := by
  unfold pointX; have := restM_lt (m := 4611686018427377336) (by decide) (Sha.tagged t m); omega

section
variable (s : ByteArray) (v : Value) (m : List UInt8) (w : World) (hs : s.size ≤ 1000000) (hm : m.length ≤ 1000000) (hv : BytesAt w v m)
include hs hm hv
set_option maxRecDepth 100000 in
set_option maxHeartbeats 1000000 in
theorem scalar_any (hT : Tab w) :
    Calls Tryd.prog 13 #[.string s, v] w fun e w' => e = .returned (.int .i64 ((scalarM s.data.toList m : Nat) : Int)) ∧ Below w.heap.size w w' := by
  have ht := Lib.hid (tagged_any s v m w hs hm hv hT)
  have hr := fun W => rest_any (Sha.tagged s.data.toList m) 2305843009213688668 W (tagged_len _ _) (by decide) (by decide)
  have hlt := restM_lt (m := 2305843009213688668) (by decide) (Sha.tagged s.data.toList m)
  rw [show scalarM s.data.toList m = 1 + restM 2305843009213688668 (Sha.tagged s.data.toList m) from rfl]
  obtain ⟨r, hr0⟩ : ∃ r, restM 2305843009213688668 (Sha.tagged s.data.toList m) = r := ⟨_, rfl⟩
  rw [hr0] at hr hlt ⊢
  have Hr := Lib.hid hr
  have z1 : (0 : Int) ≤ (r : Int) := Int.natCast_nonneg r
  have e1 : IntKind.i64.wrap (r : Int) = (r : Int) := by rw [IntKind.wrap_i64]; omega
  have e2 : IntKind.i64.wrap (1 + (r : Int)) = 1 + (r : Int) := by rw [IntKind.wrap_i64]; omega
  have Hlt := Lib.hid hlt
  clear hr hr0 hlt hs hm hv
  go_enter Tryd.func13, Tryd.ntmps13
  go_wp2_with fail
  refine (ht.out).mono ?_
  rintro e w1 ⟨rfl, b1⟩
  go_wp2_with fail
  refine (Hr.out _).mono ?_
  rintro e w2 ⟨rfl, b2⟩
  have B2 := Lib.hid (b1.trans (b2.mono b1.size))
  clear b1 b2
  go_wp2_with fail
  go_ret
  go_light
  exact ⟨by congr 2, B2.out⟩
set_option maxRecDepth 100000 in
set_option maxHeartbeats 1000000 in
theorem point_any (hT : Tab w) :
    Calls Tryd.prog 15 #[.string s, v] w fun e w' => e = .returned (.int .i64 ((pointM s.data.toList m : Nat) : Int)) ∧ Below w.heap.size w w' := by
  have ht := Lib.hid (tagged_any s v m w hs hm hv hT)
  have hr := fun W => rest_any (Sha.tagged s.data.toList m) 4611686018427377336 W (tagged_len _ _) (by decide) (by decide)
  have hlt := restM_lt (m := 4611686018427377336) (by decide) (Sha.tagged s.data.toList m)
  have hx := fun W => times_any (pointX s.data.toList m) (pointX s.data.toList m) (by have := pointX_bd s.data.toList m; omega) (by have := pointX_bd s.data.toList m; omega) W
  rw [show mulP (pointX s.data.toList m) (pointX s.data.toList m) = pointM s.data.toList m from rfl] at hx
  have hpl : pointM s.data.toList m < 4611686018427377339 := mulP_lt _ _
  obtain ⟨p, hp⟩ : ∃ p, pointM s.data.toList m = p := ⟨_, rfl⟩
  rw [hp] at hx hpl ⊢
  rw [show pointX s.data.toList m = 2 + restM 4611686018427377336 (Sha.tagged s.data.toList m) from rfl] at hx
  obtain ⟨r, hr0⟩ : ∃ r, restM 4611686018427377336 (Sha.tagged s.data.toList m) = r := ⟨_, rfl⟩
  rw [hr0] at hr hlt hx
  rw [show ((2 + r : Nat) : Int) = 2 + (r : Int) by omega] at hx
  have Hr := Lib.hid hr
  have Hx := Lib.hid hx
  have z1 : (0 : Int) ≤ (r : Int) := Int.natCast_nonneg r
  have e2 : IntKind.u64.wrap (2 + (r : Int)) = 2 + (r : Int) := by rw [IntKind.wrap_u64]; omega
  have e3 : IntKind.i64.wrap (p : Int) = (p : Int) := by rw [IntKind.wrap_i64]; omega
  clear hr hr0 hlt hs hm hv hx hp hpl
  go_enter Tryd.func15, Tryd.ntmps15
  go_wp2_with fail
  refine (ht.out).mono ?_
  rintro e w1 ⟨rfl, b1⟩
  go_wp2_with fail
  refine (Hr.out _).mono ?_
  rintro e w2 ⟨rfl, b2⟩
  have B2 := Lib.hid (b1.trans (b2.mono b1.size))
  clear b1 b2
  go_wp2_with fail
  refine (Hx.out _).mono ?_
  rintro e w3 ⟨rfl, b3⟩
  have B3 := Lib.hid (B2.out.trans (b3.mono B2.out.size))
  clear b3
  go_wp2_with fail
  go_ret
  exact ⟨rfl, B3.out⟩
end

set_option maxRecDepth 100000 in
set_option maxHeartbeats 1000000 in
theorem rrest_any (l : List UInt8) (m : Nat) (w : World) (hl : l.length = 32) (hm : 256 < m) (hm2 : m ≤ 4611686018427387904) :
    Calls Tryd.prog 42 #[digV l, .int .i64 (m : Int)] w fun e w' => e = .returned (.int .i64 ((restM m l : Nat) : Int)) ∧ Below w.heap.size w w' := by
  unfold digV
  have R0 := RowV.new w 29 32 (fun i => vB (l.getD i 0))
  have hgv : ∀ i, (fun i => vB (l.getD i 0)) i = vB (l.getD i 0) := fun _ => rfl
  obtain ⟨g, hg⟩ : ∃ g : Nat → Value, (fun i => vB (l.getD i 0)) = g := ⟨_, rfl⟩
  rw [hg] at R0 hgv ⊢
  have Hgv := Lib.hid hgv
  have I0 := Lib.hid (⟨R0, (Below.refl w.heap.size w).alloc (Nat.le_refl _) (.cells (rowF 32 g) 29)⟩ : RowV (w.alloc (.cells (rowF 32 g) 29)) w.heap.size 29 32 g ∧ Below w.heap.size w (w.alloc (.cells (rowF 32 g) 29)))
  have Hl := Lib.hid hl
  have Hm := Lib.hid hm
  have Hm2 := Lib.hid hm2
  have m0 : ¬ m = 0 := by omega
  clear hg hgv R0 hl hm hm2
  go_enter Tryd.func42, Tryd.ntmps42
  go_wp2_with fail
  obtain ⟨w1, hw1⟩ : ∃ x, w.alloc (.cells (rowF 32 g) 29) = x := ⟨_, rfl⟩
  rw [hw1] at I0 ⊢
  clear hw1
  obtain ⟨b0, hb0⟩ : ∃ x, w.heap.size = x := ⟨_, rfl⟩
  have Hb0 := Lib.hid hb0
  rw [hb0] at I0 ⊢
  clear hb0
  go_loopg [5, 6] 32 (fun q s5 s6 wx => ∃ k : Nat, k + q = 32 ∧ s6 = .int .i64 (k : Int) ∧ s5 = .int .i64 ((restM m (l.take k) : Nat) : Int) ∧ Hid (RowV wx b0 29 32 g ∧ Below b0 w wx))
  case atStart => exact ⟨0, by omega, rfl, rfl, I0⟩
  case round =>
    clear I0
    obtain ⟨k, hk, rfl, rfl, hI⟩ := hrel
    by_cases hk32 : k < 32
    · have d0 : decide ((k : Int) < 32) = true := by rw [decide_eq_true_iff]; omega
      have z1 : (0 : Int) ≤ (k : Int) := Int.natCast_nonneg k
      have z2 : (k : Int) < 32 := by omega
      have z3 : ((k : Int)).toNat = k := Int.toNat_natCast k
      have p0 : 0 ≤ (k : Int) ∧ (k : Int) < 32 := by omega
      have c1 := hI.out.1.cell hk32
      rw [Hgv.out k] at c1
      have hnlt := restM_lt (m := m) (by have := Hm.out; omega) (l.take k)
      have hp := fun W => rproduct_any 256 (restM m (l.take k)) m Hm.out (by have := Hm2.out; omega) Hm2.out W
      have hst : (mulM 256 (restM m (l.take k)) m + (l.getD k 0).toNat) % m = restM m (l.take (k + 1)) := by
        rw [take_snoc_getD l (by rw [Hl.out]; exact hk32), restM_snoc]; unfold mulM
        rw [Nat.mod_add_mod, Nat.mul_comm]
      have hb := (l.getD k 0).toNat_lt
      have hml := mulM_lt 256 (restM m (l.take k)) (m := m) (by have := Hm.out; omega)
      have hm2 := Hm2.out
      obtain ⟨x, hx⟩ : ∃ x, (l.getD k 0).toNat = x := ⟨_, rfl⟩
      obtain ⟨n, hn⟩ : ∃ x, restM m (l.take k) = x := ⟨_, rfl⟩
      obtain ⟨p, hp0⟩ : ∃ x, mulM 256 n m = x := ⟨_, rfl⟩
      rw [hn] at hp hst hml
      rw [hp0] at hp hst hml
      rw [hx] at hst hb
      rw [show vB (l.getD k 0) = .int .u8 (x : Int) by rw [← hx]] at c1
      rw [hn]
      have y1 : IntKind.i64.wrap ((p : Int) + (x : Int)) = (p : Int) + (x : Int) := by rw [IntKind.wrap_i64]; omega
      have y2 : ((p : Int) + (x : Int)).tmod (m : Int) = ((restM m (l.take (k + 1)) : Nat) : Int) := by
        rw [← hst, Int.tmod_eq_emod_of_nonneg (by omega), ← Int.natCast_add, ← Int.natCast_emod]
      have y3 : (0 : Int) ≤ (x : Int) := Int.natCast_nonneg x
      have y4 : (x : Int) < 256 := by omega
      have y5 : IntKind.i64.wrap (x : Int) = (x : Int) := by rw [IntKind.wrap_i64]; omega
      obtain ⟨n', hn'⟩ : ∃ x, restM m (l.take (k + 1)) = x := ⟨_, rfl⟩
      rw [hn'] at y2
      have Hn' := Lib.hid hn'
      have Hp := Lib.hid hp
      clear hnlt hp hst hb hml hm2 hx hn hp0 hn'
      go_upto_region 5 with fail
      go_quiet ((go_at_call 45; exact qsame (Hp.out _)))
      go_wp2_with fail
      go_roundg (gk - 1)
      case measure => omega
      case rel =>
        go_light
        exact ⟨k + 1, by omega, by go_num, by rw [Hn'.out], Lib.hid ⟨hI.out.1, ⟨hI.out.2.os, hI.out.2.tape, hI.out.2.output, hI.out.2.size, hI.out.2.block⟩⟩⟩
    · have d0 : decide ((k : Int) < 32) = false := by rw [decide_eq_false_iff_not]; omega
      obtain rfl : k = 32 := by omega
      have hfin : restM m (l.take 32) = restM m l := by rw [List.take_of_length_le (by rw [Hl.out]; exact Nat.le_refl _)]
      rw [hfin]
      clear hfin
      go_wp2_with fail
      go_ret
      go_light
      exact ⟨rfl, by rw [Hb0.out]; exact hI.out.2⟩

section
variable (s : ByteArray) (v : Value) (m : List UInt8) (w : World) (hs : s.size ≤ 1000000) (hm : m.length ≤ 1000000) (hv : BytesAt w v m)
include hs hm hv
set_option maxRecDepth 100000 in
set_option maxHeartbeats 1000000 in
theorem rscalar_any :
    Calls Tryd.prog 14 #[.string s, v] w fun e w' => e = .returned (.int .i64 ((scalarM s.data.toList m : Nat) : Int)) ∧ Below w.heap.size w w' := by
  have ht := Lib.hid (reftagged_any s v m w hs hm hv)
  have hr := fun W => rrest_any (Sha.tagged s.data.toList m) 2305843009213688668 W (tagged_len _ _) (by decide) (by decide)
  have hlt := restM_lt (m := 2305843009213688668) (by decide) (Sha.tagged s.data.toList m)
  rw [show scalarM s.data.toList m = 1 + restM 2305843009213688668 (Sha.tagged s.data.toList m) from rfl]
  obtain ⟨r, hr0⟩ : ∃ r, restM 2305843009213688668 (Sha.tagged s.data.toList m) = r := ⟨_, rfl⟩
  rw [hr0] at hr hlt ⊢
  have Hr := Lib.hid hr
  have z1 : (0 : Int) ≤ (r : Int) := Int.natCast_nonneg r
  have e2 : IntKind.i64.wrap (1 + (r : Int)) = 1 + (r : Int) := by rw [IntKind.wrap_i64]; omega
  clear hr hr0 hlt hs hm hv
  go_enter Tryd.func14, Tryd.ntmps14
  go_wp2_with fail
  refine (ht.out).mono ?_
  rintro e w1 ⟨rfl, b1⟩
  go_wp2_with fail
  refine (Hr.out _).mono ?_
  rintro e w2 ⟨rfl, b2⟩
  have B2 := Lib.hid (b1.trans (b2.mono b1.size))
  clear b1 b2
  go_wp2_with fail
  go_ret
  go_light
  exact ⟨by congr 2, B2.out⟩
set_option maxRecDepth 100000 in
set_option maxHeartbeats 1000000 in
theorem rpoint_any :
    Calls Tryd.prog 16 #[.string s, v] w fun e w' => e = .returned (.int .i64 ((pointM s.data.toList m : Nat) : Int)) ∧ Below w.heap.size w w' := by
  have ht := Lib.hid (reftagged_any s v m w hs hm hv)
  have hr := fun W => rrest_any (Sha.tagged s.data.toList m) 4611686018427377336 W (tagged_len _ _) (by decide) (by decide)
  have hlt := restM_lt (m := 4611686018427377336) (by decide) (Sha.tagged s.data.toList m)
  have hx := fun W => rproduct_any (pointX s.data.toList m) (pointX s.data.toList m) 4611686018427377339 (by have := pointX_bd s.data.toList m; omega) (by have := pointX_bd s.data.toList m; omega) (by decide) W
  rw [show mulM (pointX s.data.toList m) (pointX s.data.toList m) 4611686018427377339 = pointM s.data.toList m from rfl] at hx
  obtain ⟨p, hp⟩ : ∃ p, pointM s.data.toList m = p := ⟨_, rfl⟩
  rw [hp] at hx ⊢
  rw [show pointX s.data.toList m = 2 + restM 4611686018427377336 (Sha.tagged s.data.toList m) from rfl] at hx
  obtain ⟨r, hr0⟩ : ∃ r, restM 4611686018427377336 (Sha.tagged s.data.toList m) = r := ⟨_, rfl⟩
  rw [hr0] at hr hlt hx
  rw [show ((2 + r : Nat) : Int) = 2 + (r : Int) by omega] at hx
  have Hr := Lib.hid hr
  have Hx := Lib.hid hx
  have z1 : (0 : Int) ≤ (r : Int) := Int.natCast_nonneg r
  have e2 : IntKind.i64.wrap (2 + (r : Int)) = 2 + (r : Int) := by rw [IntKind.wrap_i64]; omega
  clear hr hr0 hlt hs hm hv hx hp
  go_enter Tryd.func16, Tryd.ntmps16
  go_wp2_with fail
  refine (ht.out).mono ?_
  rintro e w1 ⟨rfl, b1⟩
  go_wp2_with fail
  refine (Hr.out _).mono ?_
  rintro e w2 ⟨rfl, b2⟩
  have B2 := Lib.hid (b1.trans (b2.mono b1.size))
  clear b1 b2
  go_wp2_with fail
  refine (Hx.out _).mono ?_
  rintro e w3 ⟨rfl, rfl⟩
  go_wp2_with fail
  go_ret
  exact ⟨rfl, B2.out⟩
end
end Go.Proofs.YtdcpejfnhegdaaaDoor
