/- Package group: the remainder of a digest's number; Scalar, Point. The reference's Rest, Scalar, Point. Scalar and Point, of package group and of the reference. -/
import Derived.Test.YtpekhdahamloaaaGreatDoorPk21
import Derived.Test.YtpekhdahamloaaaGreatDoorPk11
import Derived.Test.YtpekhdahamloaaaGreatDoorPk20
import Derived.Laws.Bits64b
set_option linter.unusedVariables false
set_option linter.unusedSimpArgs false
namespace Go.Proofs.YtpekhdahamloaaaGreatDoor
open Go.RowKit

/-- the remainder of bytes as a number -/
def restM (m : Nat) (l : List UInt8) : Nat := l.foldl (fun n b => (n * 256 + b.toNat) % m) 0
theorem restM_snoc (m : Nat) (l : List UInt8) (b : UInt8) : restM m (l ++ [b]) = (restM m l * 256 + b.toNat) % m := by simp [restM]
theorem restM_lt {m : Nat} (hm : 0 < m) : ∀ l : List UInt8, restM m l < m := by
  intro l
  rcases List.eq_nil_or_concat l with rfl | ⟨l', b, rfl⟩
  · exact hm
  · rw [List.concat_eq_append, restM_snoc]; exact Nat.mod_lt _ hm
theorem shl_or (n : Nat) (b : UInt8) : bits .or .u64 (IntKind.u64.wrap ((n : Int) * 256)) ((b.toNat : Nat) : Int) = (((n * 256 % 18446744073709551616 + b.toNat : Nat)) : Int) := by
  have hb := b.toNat_lt
  have hw : IntKind.u64.wrap ((n : Int) * 256) = ((n * 256 % 18446744073709551616 : Nat) : Int) := by rw [IntKind.wrap_u64]; omega
  rw [hw, bits_or_u64_nat _ _ (by omega) (by omega)]
  congr 1
  obtain ⟨q, hq⟩ : ∃ q, n * 256 % 18446744073709551616 = q * 256 := ⟨n * 256 % 18446744073709551616 / 256, by omega⟩
  rw [hq]
  have := Nat.shiftLeft_add_eq_or_of_lt (i := 8) (b := b.toNat) (by omega) q
  rw [Nat.shiftLeft_eq] at this
  exact this.symm

set_option maxRecDepth 100000 in
set_option maxHeartbeats 1000000 in
theorem rest1_any (bn bm n m : Nat) (b : UInt8) (w : World) (hn : n < m) (hm : 256 ≤ m) (hm2 : m < 18446744073709551616) (hne : bn ≠ bm)
    (c1 : w.heap[bn]? = some (.cells #[.int .u64 (n : Int)] 94 (0, 0))) (c2 : w.heap[bm]? = some (.cells #[.int .u64 (m : Int)] 94 (0, 0))) :
    Calls Tryz.prog 165 #[.int .u8 ((b.toNat : Nat) : Int), .pointer (some ⟨bn, 0, none⟩), .pointer (some ⟨bm, 0, none⟩)] w fun e w' => e = .returned (.tuple #[]) ∧ w'.heap[bn]? = some (.cells #[.int .u64 (((n * 256 + b.toNat) % m : Nat) : Int)] 94 (0, 0)) ∧ OnlyB bn w w' := by
  have h1 := cell_of_one c1
  have h2 := free_of_one c1
  have h3 := cell_of_one c2
  have hb := b.toNat_lt
  have hd := fun W => div64_any (n / 72057594037927936) (n * 256 % 18446744073709551616 + b.toNat) m (by omega) hm2 (by omega) W
  have e1 : n / 72057594037927936 * 18446744073709551616 + (n * 256 % 18446744073709551616 + b.toNat) = n * 256 + b.toNat := by omega
  rw [e1] at hd
  have so := shl_or n b
  obtain ⟨lo, hlo⟩ : ∃ x, n * 256 % 18446744073709551616 + b.toNat = x := ⟨_, rfl⟩
  obtain ⟨hi, hhi⟩ : ∃ x, n / 72057594037927936 = x := ⟨_, rfl⟩
  obtain ⟨q, hq⟩ : ∃ x, (n * 256 + b.toNat) / m = x := ⟨_, rfl⟩
  obtain ⟨r, hr⟩ : ∃ x, (n * 256 + b.toNat) % m = x := ⟨_, rfl⟩
  rw [hlo] at hd so
  rw [hhi, hq, hr] at hd
  rw [hr]
  have hs : (n : Int) / 72057594037927936 = (hi : Int) := by omega
  have Hd := Lib.hid hd
  have C1 := Lib.hid c1
  clear hd hlo hhi hq hr e1 c1 c2 hn hm hm2 hb
  obtain ⟨c, hc⟩ : ∃ c, ((b.toNat : Nat) : Int) = c := ⟨_, rfl⟩
  rw [hc] at so ⊢
  have hcb : 0 ≤ c ∧ c < 256 := by have := b.toNat_lt; omega
  clear hc
  go_enter Tryz.func165, Tryz.ntmps165
  go_wp2_with fail
  refine (Hd.out _).mono ?_
  rintro e w1 ⟨rfl, hb1⟩
  have c4 : w1.heap[bn]? = some (.cells #[.int .u64 (n : Int)] 94 (0, 0)) := (hb1.block _ (Array.getElem?_eq_some_iff.1 C1.out).1).trans C1.out
  have h4 := cell_of_one c4
  have h5 := free_of_one c4
  have C4 := Lib.hid c4
  have O1 := Lib.hid (OnlyB.of_below (B := bn) hb1)
  clear h1 h2 h3 hb1 c4
  go_wp2_with fail
  go_end0
  exact ⟨rfl, one_setCell C4.out, O1.out.setCell (.inl rfl) _⟩

/-- the closure's variables and the digest, k bytes folded in -/
def RestI (l : List UInt8) (m : Nat) (w : World) (b0 k : Nat) (wx : World) : Prop :=
  wx.heap[b0 + 1]? = some (.cells #[.int .u64 (m : Int)] 94 (0, 0)) ∧ wx.heap[b0 + 1 + 1]? = some (.cells #[.int .u64 ((restM m (l.take k) : Nat) : Int)] 94 (0, 0)) ∧ Below b0 w wx
theorem index_rowF (N : Nat) (T e : TypeId) (g : Nat → Value) (k : Nat) (hu : Tryz.prog.underlying T = some (.array N e)) (hs : (Tryz.prog.info? e).map (·.size) = some 1) (hk : k < N) (ha : ∀ W, (isAgg e).run Tryz.prog W = .ok false W) (W : World) :
    (Instr.index T (.agg (rowF N g)) (.int .i64 (k : Int))).run Tryz.prog W = .ok (g k) W := by
  have h0 : 0 ≤ (k : Int) ∧ (k : Int) < (N : Int) := by omega
  cases hq : Tryz.prog.info? e with
  | none => simp [hq] at hs
  | some i =>
    have hsz : i.size = 1 := by simpa [hq] using hs
    simp [Instr.index, asIntOf, run_underlying hu, h0, sizeOf, typeInfo, hq, hsz, part, rowF_get hk, hk, ha]
theorem take_snoc_getD (l : List UInt8) {k : Nat} (h : k < l.length) : l.take (k + 1) = l.take k ++ [l.getD k 0] := by
  rw [List.take_succ_eq_append_getElem h, List.getD_eq_getElem?_getD, List.getElem?_eq_getElem h]; rfl

set_option maxRecDepth 100000 in
set_option maxHeartbeats 1000000 in
theorem rest_any (l : List UInt8) (m : Nat) (w : World) (hl : l.length = 32) (hm : 256 ≤ m) (hm2 : m < 18446744073709551616) :
    Calls Tryz.prog 141 #[digV l, .int .u64 (m : Int)] w fun e w' => e = .returned (.int .u64 ((restM m l : Nat) : Int)) ∧ Below w.heap.size w w' := by
  unfold digV
  have Hl := Lib.hid hl
  have Hm := Lib.hid hm
  have Hm2 := Lib.hid hm2
  have hix := fun k hk W => index_rowF 32 35 5 (fun i => vB (l.getD i 0)) k Tryz.underlying35 (by kernel_rfl) hk (fun _ => by kernel_rfl) W
  have hgv : ∀ i, (fun i => vB (l.getD i 0)) i = vB (l.getD i 0) := fun _ => rfl
  obtain ⟨g, hg⟩ : ∃ g : Nat → Value, (fun i => vB (l.getD i 0)) = g := ⟨_, rfl⟩
  rw [hg] at hix hgv ⊢
  have Hgv := Lib.hid hgv
  have Hix := Lib.hid hix
  have R0 := RowV.new w 35 32 g
  have R1 := (R0.alloc (.cells #[.int .u64 (m : Int)] 94)).alloc (.cells #[.int .u64 0] 94)
  have B1 := (((Below.refl w.heap.size w).alloc (Nat.le_refl _) (.cells (rowF 32 g) 35)).alloc (by rw [World.size_alloc]; omega) (.cells #[.int .u64 (m : Int)] 94)).alloc (by rw [World.size_alloc, World.size_alloc]; omega) (.cells #[.int .u64 0] 94)
  have C1 : (((w.alloc (.cells (rowF 32 g) 35)).alloc (.cells #[.int .u64 (m : Int)] 94)).alloc (.cells #[.int .u64 0] 94)).heap[w.heap.size + 1]? = some (.cells #[.int .u64 (m : Int)] 94 (0, 0)) := by
    show (((w.heap.push _).push _).push _)[_]? = _; simp [Array.getElem?_push, Array.getElem_push]
  have C2 : (((w.alloc (.cells (rowF 32 g) 35)).alloc (.cells #[.int .u64 (m : Int)] 94)).alloc (.cells #[.int .u64 0] 94)).heap[w.heap.size + 1 + 1]? = some (.cells #[.int .u64 ((restM m (l.take 0) : Nat) : Int)] 94 (0, 0)) := by
    show (((w.heap.push _).push _).push _)[_]? = _; simp [Array.getElem?_push, Array.getElem_push, restM]
  have I0 : Hid (RestI l m w w.heap.size 0 _) := Lib.hid ⟨C1, C2, B1⟩
  have HR1 := Lib.hid R1
  clear hl hm hm2 hix hgv hg R0 R1 B1 C1 C2
  go_enter Tryz.func141, Tryz.ntmps141
  go_wp2_with ((with_reducible (show wpList _ _ _ (Oper.mk (some 9) _ _ _ _ _ :: _) _ _)); refine wpList_load_rowV rfl 35 (.tmp 2) rfl w.heap.size rfl 32 35 g HR1.out _ Tryz.underlying35 rfl (by kernel_rfl) ?_)
  obtain ⟨w3, hw3⟩ : ∃ x, ((w.alloc (.cells (rowF 32 g) 35)).alloc (.cells #[.int .u64 (m : Int)] 94)).alloc (.cells #[.int .u64 0] 94) = x := ⟨_, rfl⟩
  rw [hw3] at I0 ⊢
  clear hw3 HR1
  obtain ⟨b0, hb0⟩ : ∃ x, w.heap.size = x := ⟨_, rfl⟩
  have Hb0 := Lib.hid hb0
  rw [hb0] at I0 ⊢
  clear hb0
  go_loopg [7, 10] 32 (fun q s7 s10 wx => ∃ k : Nat, k + q = 32 ∧ s10 = .int .i64 (k : Int) ∧ Hid (RestI l m w b0 k wx))
  case atStart => exact ⟨0, by omega, rfl, I0⟩
  case round =>
    clear I0
    obtain ⟨k, hk, rfl, hI⟩ := hrel
    by_cases hk32 : k < 32
    · have d0 : decide ((k : Int) < 32) = true := by rw [decide_eq_true_iff]; omega
      have z1 : (0 : Int) ≤ (k : Int) := Int.natCast_nonneg k
      have z2 : (k : Int) < 32 := by omega
      have ix := Hix.out k hk32
      have hr1 := fun W => rest1_any (b0 + 1 + 1) (b0 + 1) (restM m (l.take k)) m (l.getD k 0) W (restM_lt (by have := Hm.out; omega) _) Hm.out Hm2.out (by omega)
      have hst : (restM m (l.take k) * 256 + (l.getD k 0).toNat) % m = restM m (l.take (k + 1)) := by rw [take_snoc_getD l (by rw [Hl.out]; exact hk32), restM_snoc]
      rw [hst] at hr1
      have Hr1 := Lib.hid (hr1 wr hI.out.2.1 hI.out.1)
      clear hr1 hst
      obtain ⟨x, hx⟩ : ∃ x, l.getD k 0 = x := ⟨_, rfl⟩
      rw [hx] at ix Hr1
      clear hx
      go_wp2_with fail
      refine (Hr1.out).mono ?_
      rintro e w4 ⟨rfl, hc, ho⟩
      have hn : Hid (RestI l m w b0 (k + 1) w4) := Lib.hid ⟨(ho.block _ (Array.getElem?_eq_some_iff.1 hI.out.1).1 (by omega)).trans hI.out.1, hc, hI.out.2.2.trans (ho.below (by omega) (Nat.le_trans (by omega) (Nat.le_of_lt (Array.getElem?_eq_some_iff.1 hI.out.1).1)))⟩
      clear hc ho
      go_wp2_with fail
      go_roundg (gk - 1)
      case measure => omega
      case rel =>
        go_light
        exact ⟨k + 1, by omega, by go_num, hn⟩
    · have d0 : decide ((k : Int) < 32) = false := by rw [decide_eq_false_iff_not]; omega
      obtain rfl : k = 32 := by omega
      have hfin : restM m (l.take 32) = restM m l := by rw [List.take_of_length_le (by rw [Hl.out]; exact Nat.le_refl _)]
      have h2 := hI.out.2.1
      rw [hfin] at h2
      have c1 := cell_of_one h2
      have f1 := free_of_one h2
      have H2 := Lib.hid h2
      have HB := Lib.hid hI.out.2.2
      obtain ⟨r, hr⟩ : ∃ r, restM m l = r := ⟨_, rfl⟩
      rw [hr] at c1 H2
      have Hr := Lib.hid hr
      have c5 := World.cell?_setCell_same' wr ⟨b0 + 1 + 1, 0, none⟩ (.int .u64 (r : Int)) (by rw [c1]; rfl)
      have hB : Below b0 w (wr.setCell ⟨b0 + 1 + 1, 0, none⟩ (.int .u64 (r : Int))) := HB.out.setCell (p := ⟨b0 + 1 + 1, 0, none⟩) (show b0 ≤ b0 + 1 + 1 by omega) _
      have HB2 := Lib.hid hB
      clear hfin h2 hr hI hk hk32 hB
      go_wp2_with fail
      exact bodyPost_ret (v := .int .u64 (r : Int)) (by simp [results, Tryz.f141, go_sem, c5]) rfl ⟨by rw [Hr.out], by rw [Hb0.out]; exact HB2.out⟩
end Go.Proofs.YtpekhdahamloaaaGreatDoor

namespace Go.Proofs.YtpekhdahamloaaaGreatDoor
open Go.RowKit

def scalarM (t m : List UInt8) : Nat := 1 + restM 2305843009213688668 (Sha.tagged t m)
def pointX (t m : List UInt8) : Nat := 2 + restM 4611686018427377336 (Sha.tagged t m)
def pointM (t m : List UInt8) : Nat := mulP (pointX t m) (pointX t m)
theorem tagged_len (t m : List UInt8) : (Sha.tagged t m).length = 32 := Sha.sum_len _
theorem scalarM_bd (t m : List UInt8) : 1 ≤ scalarM t m ∧ scalarM t m < 2305843009213688669 := by
  unfold scalarM; have := restM_lt (m := 2305843009213688668) (by decide) (Sha.tagged t m); omega
theorem pointX_bd (t m : List UInt8) : 2 ≤ pointX t m ∧ pointX t m < 4611686018427377338 := by
  unfold pointX; have := restM_lt (m := 4611686018427377336) (by decide) (Sha.tagged t m); omega

section
variable (s : ByteArray) (v : Value) (m : List UInt8) (w : World) (hs : s.size ≤ 1000000) (hm : m.length ≤ 1000000) (hv : BytesAt w v m)
include hs hm hv
set_option maxRecDepth 100000 in
set_option maxHeartbeats 1000000 in
theorem scalar_any (hT : Tab w) :
    Calls Tryz.prog 99 #[.string s, v] w fun e w' => e = .returned (.int .i64 ((scalarM s.data.toList m : Nat) : Int)) ∧ Below w.heap.size w w' := by
  have ht := Lib.hid (tagged_any s v m w hs hm hv hT)
  have hr := fun W => rest_any (Sha.tagged s.data.toList m) 2305843009213688668 W (tagged_len _ _) (by decide) (by decide)
  have hlt := restM_lt (m := 2305843009213688668) (by decide) (Sha.tagged s.data.toList m)
  rw [show scalarM s.data.toList m = 1 + restM 2305843009213688668 (Sha.tagged s.data.toList m) from rfl]
  obtain ⟨r, hr0⟩ : ∃ r, restM 2305843009213688668 (Sha.tagged s.data.toList m) = r := ⟨_, rfl⟩
  rw [hr0] at hr hlt ⊢
  have Hr := Lib.hid hr
  have z1 : (0 : Int) ≤ (r : Int) := Int.natCast_nonneg r
  have e1 : IntKind.i64.wrap (r : Int) = (r : Int) := by rw [IntKind.wrap_i64]; omega
  have e2 : IntKind.i64.wrap (1 + (r : Int)) = 1 + (r : Int) := by rw [IntKind.wrap_i64]; omega
  have Hlt := Lib.hid hlt
  clear hr hr0 hlt hs hm hv
  go_enter Tryz.func99, Tryz.ntmps99
  go_wp2_with fail
  refine (ht.out).mono ?_
  rintro e w1 ⟨rfl, b1⟩
  go_wp2_with fail
  refine (Hr.out _).mono ?_
  rintro e w2 ⟨rfl, b2⟩
  have B2 := Lib.hid (b1.trans (b2.mono b1.size))
  clear b1 b2
  go_wp2_with fail
  go_ret
  go_light
  exact ⟨by congr 2, B2.out⟩
set_option maxRecDepth 100000 in
set_option maxHeartbeats 1000000 in
theorem point_any (hT : Tab w) :
    Calls Tryz.prog 100 #[.string s, v] w fun e w' => e = .returned (.int .i64 ((pointM s.data.toList m : Nat) : Int)) ∧ Below w.heap.size w w' := by
  have ht := Lib.hid (tagged_any s v m w hs hm hv hT)
  have hr := fun W => rest_any (Sha.tagged s.data.toList m) 4611686018427377336 W (tagged_len _ _) (by decide) (by decide)
  have hlt := restM_lt (m := 4611686018427377336) (by decide) (Sha.tagged s.data.toList m)
  have hx := fun W => times_any (pointX s.data.toList m) (pointX s.data.toList m) (by have := pointX_bd s.data.toList m; omega) (by have := pointX_bd s.data.toList m; omega) W
  rw [show mulP (pointX s.data.toList m) (pointX s.data.toList m) = pointM s.data.toList m from rfl] at hx
  have hpl : pointM s.data.toList m < 4611686018427377339 := mulP_lt _ _
  obtain ⟨p, hp⟩ : ∃ p, pointM s.data.toList m = p := ⟨_, rfl⟩
  rw [hp] at hx hpl ⊢
  rw [show pointX s.data.toList m = 2 + restM 4611686018427377336 (Sha.tagged s.data.toList m) from rfl] at hx
  obtain ⟨r, hr0⟩ : ∃ r, restM 4611686018427377336 (Sha.tagged s.data.toList m) = r := ⟨_, rfl⟩
  rw [hr0] at hr hlt hx
  rw [show ((2 + r : Nat) : Int) = 2 + (r : Int) by omega] at hx
  have Hr := Lib.hid hr
  have Hx := Lib.hid hx
  have z1 : (0 : Int) ≤ (r : Int) := Int.natCast_nonneg r
  have e2 : IntKind.u64.wrap (2 + (r : Int)) = 2 + (r : Int) := by rw [IntKind.wrap_u64]; omega
  have e3 : IntKind.i64.wrap (p : Int) = (p : Int) := by rw [IntKind.wrap_i64]; omega
  clear hr hr0 hlt hs hm hv hx hp hpl
  go_enter Tryz.func100, Tryz.ntmps100
  go_wp2_with fail
  refine (ht.out).mono ?_
  rintro e w1 ⟨rfl, b1⟩
  go_wp2_with fail
  refine (Hr.out _).mono ?_
  rintro e w2 ⟨rfl, b2⟩
  have B2 := Lib.hid (b1.trans (b2.mono b1.size))
  clear b1 b2
  go_wp2_with fail
  refine (Hx.out _).mono ?_
  rintro e w3 ⟨rfl, b3⟩
  have B3 := Lib.hid (B2.out.trans (b3.mono B2.out.size))
  clear b3
  go_wp2_with fail
  go_ret
  exact ⟨rfl, B3.out⟩
end

set_option maxRecDepth 100000 in
set_option maxHeartbeats 1000000 in
theorem rrest_any (l : List UInt8) (m : Nat) (w : World) (hl : l.length = 32) (hm : 256 < m) (hm2 : m ≤ 4611686018427387904) :
    Calls Tryz.prog 158 #[digV l, .int .i64 (m : Int)] w fun e w' => e = .returned (.int .i64 ((restM m l : Nat) : Int)) ∧ Below w.heap.size w w' := by
  unfold digV
  have R0 := RowV.new w 35 32 (fun i => vB (l.getD i 0))
  have hgv : ∀ i, (fun i => vB (l.getD i 0)) i = vB (l.getD i 0) := fun _ => rfl
  obtain ⟨g, hg⟩ : ∃ g : Nat → Value, (fun i => vB (l.getD i 0)) = g := ⟨_, rfl⟩
  rw [hg] at R0 hgv ⊢
  have Hgv := Lib.hid hgv
  have I0 := Lib.hid (⟨R0, (Below.refl w.heap.size w).alloc (Nat.le_refl _) (.cells (rowF 32 g) 35)⟩ : RowV (w.alloc (.cells (rowF 32 g) 35)) w.heap.size 35 32 g ∧ Below w.heap.size w (w.alloc (.cells (rowF 32 g) 35)))
  have Hl := Lib.hid hl
  have Hm := Lib.hid hm
  have Hm2 := Lib.hid hm2
  have m0 : ¬ m = 0 := by omega
  clear hg hgv R0 hl hm hm2
  go_enter Tryz.func158, Tryz.ntmps158
  go_wp2_with fail
  obtain ⟨w1, hw1⟩ : ∃ x, w.alloc (.cells (rowF 32 g) 35) = x := ⟨_, rfl⟩
  rw [hw1] at I0 ⊢
  clear hw1
  obtain ⟨b0, hb0⟩ : ∃ x, w.heap.size = x := ⟨_, rfl⟩
  have Hb0 := Lib.hid hb0
  rw [hb0] at I0 ⊢
  clear hb0
  go_loopg [5, 6] 32 (fun q s5 s6 wx => ∃ k : Nat, k + q = 32 ∧ s6 = .int .i64 (k : Int) ∧ s5 = .int .i64 ((restM m (l.take k) : Nat) : Int) ∧ Hid (RowV wx b0 35 32 g ∧ Below b0 w wx))
  case atStart => exact ⟨0, by omega, rfl, rfl, I0⟩
  case round =>
    clear I0
    obtain ⟨k, hk, rfl, rfl, hI⟩ := hrel
    by_cases hk32 : k < 32
    · have d0 : decide ((k : Int) < 32) = true := by rw [decide_eq_true_iff]; omega
      have z1 : (0 : Int) ≤ (k : Int) := Int.natCast_nonneg k
      have z2 : (k : Int) < 32 := by omega
      have z3 : ((k : Int)).toNat = k := Int.toNat_natCast k
      have p0 : 0 ≤ (k : Int) ∧ (k : Int) < 32 := by omega
      have c1 := hI.out.1.cell hk32
      rw [Hgv.out k] at c1
      have hnlt := restM_lt (m := m) (by have := Hm.out; omega) (l.take k)
      have hp := fun W => rproduct_any 256 (restM m (l.take k)) m Hm.out (by have := Hm2.out; omega) Hm2.out W
      have hst : (mulM 256 (restM m (l.take k)) m + (l.getD k 0).toNat) % m = restM m (l.take (k + 1)) := by
        rw [take_snoc_getD l (by rw [Hl.out]; exact hk32), restM_snoc]; unfold mulM
        rw [Nat.mod_add_mod, Nat.mul_comm]
      have hb := (l.getD k 0).toNat_lt
      have hml := mulM_lt 256 (restM m (l.take k)) (m := m) (by have := Hm.out; omega)
      have hm2 := Hm2.out
      obtain ⟨x, hx⟩ : ∃ x, (l.getD k 0).toNat = x := ⟨_, rfl⟩
      obtain ⟨n, hn⟩ : ∃ x, restM m (l.take k) = x := ⟨_, rfl⟩
      obtain ⟨p, hp0⟩ : ∃ x, mulM 256 n m = x := ⟨_, rfl⟩
      rw [hn] at hp hst hml
      rw [hp0] at hp hst hml
      rw [hx] at hst hb
      rw [show vB (l.getD k 0) = .int .u8 (x : Int) by rw [← hx]] at c1
      rw [hn]
      have y1 : IntKind.i64.wrap ((p : Int) + (x : Int)) = (p : Int) + (x : Int) := by rw [IntKind.wrap_i64]; omega
      have y2 : ((p : Int) + (x : Int)).tmod (m : Int) = ((restM m (l.take (k + 1)) : Nat) : Int) := by
        rw [← hst, Int.tmod_eq_emod_of_nonneg (by omega), ← Int.natCast_add, ← Int.natCast_emod]
      have y3 : (0 : Int) ≤ (x : Int) := Int.natCast_nonneg x
      have y4 : (x : Int) < 256 := by omega
      have y5 : IntKind.i64.wrap (x : Int) = (x : Int) := by rw [IntKind.wrap_i64]; omega
      obtain ⟨n', hn'⟩ : ∃ x, restM m (l.take (k + 1)) = x := ⟨_, rfl⟩
      rw [hn'] at y2
      have Hn' := Lib.hid hn'
      have Hp := Lib.hid hp
      clear hnlt hp hst hb hml hm2 hx hn hp0 hn'
      go_upto_region 5 with fail
      go_quiet ((go_at_call 120; exact qsame (Hp.out _)))
      go_wp2_with fail
      go_roundg (gk - 1)
      case measure => omega
      case rel =>
        go_light
        exact ⟨k + 1, by omega, by go_num, by rw [Hn'.out], Lib.hid ⟨hI.out.1, ⟨hI.out.2.os, hI.out.2.tape, hI.out.2.output, hI.out.2.size, hI.out.2.block⟩⟩⟩
    · have d0 : decide ((k : Int) < 32) = false := by rw [decide_eq_false_iff_not]; omega
      obtain rfl : k = 32 := by omega
      have hfin : restM m (l.take 32) = restM m l := by rw [List.take_of_length_le (by rw [Hl.out]; exact Nat.le_refl _)]
      rw [hfin]
      clear hfin
      go_wp2_with fail
      go_ret
      go_light
      exact ⟨rfl, by rw [Hb0.out]; exact hI.out.2⟩

section
variable (s : ByteArray) (v : Value) (m : List UInt8) (w : World) (hs : s.size ≤ 1000000) (hm : m.length ≤ 1000000) (hv : BytesAt w v m)
include hs hm hv
set_option maxRecDepth 100000 in
set_option maxHeartbeats 1000000 in
theorem rscalar_any :
    Calls Tryz.prog 130 #[.string s, v] w fun e w' => e = .returned (.int .i64 ((scalarM s.data.toList m : Nat) : Int)) ∧ Below w.heap.size w w' := by
  have ht := Lib.hid (reftagged_any s v m w hs hm hv)
  have hr := fun W => rrest_any (Sha.tagged s.data.toList m) 2305843009213688668 W (tagged_len _ _) (by decide) (by decide)
  have hlt := restM_lt (m := 2305843009213688668) (by decide) (Sha.tagged s.data.toList m)
  rw [show scalarM s.data.toList m = 1 + restM 2305843009213688668 (Sha.tagged s.data.toList m) from rfl]
  obtain ⟨r, hr0⟩ : ∃ r, restM 2305843009213688668 (Sha.tagged s.data.toList m) = r := ⟨_, rfl⟩
  rw [hr0] at hr hlt ⊢
  have Hr := Lib.hid hr
  have z1 : (0 : Int) ≤ (r : Int) := Int.natCast_nonneg r
  have e2 : IntKind.i64.wrap (1 + (r : Int)) = 1 + (r : Int) := by rw [IntKind.wrap_i64]; omega
  clear hr hr0 hlt hs hm hv
  go_enter Tryz.func130, Tryz.ntmps130
  go_wp2_with fail
  refine (ht.out).mono ?_
  rintro e w1 ⟨rfl, b1⟩
  go_wp2_with fail
  refine (Hr.out _).mono ?_
  rintro e w2 ⟨rfl, b2⟩
  have B2 := Lib.hid (b1.trans (b2.mono b1.size))
  clear b1 b2
  go_wp2_with fail
  go_ret
  go_light
  exact ⟨by congr 2, B2.out⟩
set_option maxRecDepth 100000 in
set_option maxHeartbeats 1000000 in
theorem rpoint_any :
    Calls Tryz.prog 152 #[.string s, v] w fun e w' => e = .returned (.int .i64 ((pointM s.data.toList m : Nat) : Int)) ∧ Below w.heap.size w w' := by
  have ht := Lib.hid (reftagged_any s v m w hs hm hv)
  have hr := fun W => rrest_any (Sha.tagged s.data.toList m) 4611686018427377336 W (tagged_len _ _) (by decide) (by decide)
  have hlt := restM_lt (m := 4611686018427377336) (by decide) (Sha.tagged s.data.toList m)
  have hx := fun W => rproduct_any (pointX s.data.toList m) (pointX s.data.toList m) 4611686018427377339 (by have := pointX_bd s.data.toList m; omega) (by have := pointX_bd s.data.toList m; omega) (by decide) W
  rw [show mulM (pointX s.data.toList m) (pointX s.data.toList m) 4611686018427377339 = pointM s.data.toList m from rfl] at hx
  obtain ⟨p, hp⟩ : ∃ p, pointM s.data.toList m = p := ⟨_, rfl⟩
  rw [hp] at hx ⊢
  rw [show pointX s.data.toList m = 2 + restM 4611686018427377336 (Sha.tagged s.data.toList m) from rfl] at hx
  obtain ⟨r, hr0⟩ : ∃ r, restM 4611686018427377336 (Sha.tagged s.data.toList m) = r := ⟨_, rfl⟩
  rw [hr0] at hr hlt hx
  rw [show ((2 + r : Nat) : Int) = 2 + (r : Int) by omega] at hx
  have Hr := Lib.hid hr
  have Hx := Lib.hid hx
  have z1 : (0 : Int) ≤ (r : Int) := Int.natCast_nonneg r
  have e2 : IntKind.i64.wrap (2 + (r : Int)) = 2 + (r : Int) := by rw [IntKind.wrap_i64]; omega
  clear hr hr0 hlt hs hm hv hx hp
  go_enter Tryz.func152, Tryz.ntmps152
  go_wp2_with fail
  refine (ht.out).mono ?_
  rintro e w1 ⟨rfl, b1⟩
  go_wp2_with fail
  refine (Hr.out _).mono ?_
  rintro e w2 ⟨rfl, b2⟩
  have B2 := Lib.hid (b1.trans (b2.mono b1.size))
  clear b1 b2
  go_wp2_with fail
  refine (Hx.out _).mono ?_
  rintro e w3 ⟨rfl, rfl⟩
  go_wp2_with fail
  go_ret
  exact ⟨rfl, B2.out⟩
end
end Go.Proofs.YtpekhdahamloaaaGreatDoor
