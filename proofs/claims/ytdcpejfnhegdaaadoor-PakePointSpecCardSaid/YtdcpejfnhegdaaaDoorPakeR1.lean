/- The reference of package pake: Mask, Password, masked, Point, Element. -/
import Derived.Test.YtdcpejfnhegdaaaDoorPake2
import Derived.Lib.SlBytesConst
set_option linter.unusedVariables false
set_option linter.unusedSimpArgs false
namespace Go.Proofs.YtdcpejfnhegdaaaDoor
open Go.RowKit
theorem bytes_new (w : World) (l : List UInt8) (h0 : 0 < l.length) (hn : l.length ≤ 1000) : BytesAt (w.alloc (.cells (rowF l.length (fun i => vB (l.getD i 0))) 5)) (.slice (some ⟨w.heap.size, 0, none⟩) l.length l.length) l :=
  RowV.bytesAt (RowV.new w 5 l.length _) rfl h0 hn
theorem bytes_mark (w : World) (l : List UInt8) (fr : Nat × Nat) (h0 : 0 < l.length) (hn : l.length ≤ 1000) : BytesAt (w.alloc (.cells (rowF l.length (fun i => vB (l.getD i 0))) 5 fr)) (.slice (some ⟨w.heap.size, 0, none⟩) l.length l.length) l :=
  .inr ⟨w.heap.size, 0, l.length, rfl, Nat.le_refl _, h0, ⟨by omega, by omega⟩, by rw [World.size_alloc]; omega, fun j hj => by
    rw [Nat.zero_add, World.cell?_alloc_mark, rowF_get hj]⟩
set_option maxRecDepth 100000 in
set_option maxHeartbeats 2000000 in
theorem rmask_any (r : Int) (w : World) :
    Calls Tryd.prog 33 #[.int .i64 r] w fun e w' => e = .returned (.int .i64 ((maskM r : Nat) : Int)) ∧ Below w.heap.size w w' := by
  have C1 : ∀ v W, BytesAt W v (nameR r).data.toList → Calls Tryd.prog 16 #[.string sPake, v] W fun e w' => e = .returned (.int .i64 ((maskM r : Nat) : Int)) ∧ Below W.heap.size W w' := fun v W hv => rpoint_any sPake v _ W (by decide) (by have := nameR_size r; simp; omega) hv
  obtain ⟨M, hM⟩ : ∃ M, maskM r = M := ⟨_, rfl⟩
  rw [hM] at C1 ⊢
  clear hM
  have hcv := fun (w : World) (C : Array Value) (n c : Nat) => Lib.run_convert_bytes_const (P := Tryd.prog) w 22 5 C n c Tryd.underlying22 Tryd.underlying5
  by_cases h : r = 1
  · subst h
    have H1 := Lib.hid C1
    clear C1
    go_enter Tryd.func33, Tryd.ntmps33
    have B0 := Lib.hid (Below.refl w.heap.size w)
    go_wp2_with fail
    obtain ⟨w1, hw1⟩ : ∃ y, w.alloc (.cells #[.int .u8 104, .int .u8 111, .int .u8 115, .int .u8 116] 5 (4, 5)) = y := ⟨_, rfl⟩
    have b1 : Below w.heap.size w w1 := by rw [← hw1]; exact (Below.refl _ _).alloc (Nat.le_refl _) _
    have Y1 : Hid (BytesAt w1 (.slice (some ⟨w.heap.size, 0, none⟩) 4 4) [104, 111, 115, 116]) := Lib.hid (by rw [← hw1]; exact bytes_mark w [104, 111, 115, 116] (4, 5) (by decide) (by decide))
    have z1 : w.heap.size + 1 = w1.heap.size := by rw [← hw1]; exact (Array.size_push _).symm
    rw [hw1]
    (try rw [z1])
    have B1 := Lib.hid (B0.out.trans (b1.mono B0.out.size))
    clear b1 hw1 z1 B0
    go_wp2_with fail
    refine (H1.out _ _ Y1.out).mono ?_
    rintro e w2 ⟨rfl, b2⟩
    have B2 := Lib.hid (B1.out.trans (b2.mono B1.out.size))
    have Y2 := Lib.hid (Y1.out.below b2)
    clear b2 B1 Y1
    go_wp2_with fail
    go_ret
    exact ⟨rfl, B2.out⟩
  · have e1 : nameR r = sGuest := by unfold nameR; rw [if_neg h]
    have t1 : (r == 1) = false := by simpa using h
    rw [e1] at C1
    have H1 := Lib.hid C1
    clear C1 e1 h
    go_enter Tryd.func33, Tryd.ntmps33
    have B0 := Lib.hid (Below.refl w.heap.size w)
    go_wp2_with fail
    obtain ⟨w1, hw1⟩ : ∃ y, w.alloc (.cells #[.int .u8 103, .int .u8 117, .int .u8 101, .int .u8 115, .int .u8 116] 5 (5, 6)) = y := ⟨_, rfl⟩
    have b1 : Below w.heap.size w w1 := by rw [← hw1]; exact (Below.refl _ _).alloc (Nat.le_refl _) _
    have Y1 : Hid (BytesAt w1 (.slice (some ⟨w.heap.size, 0, none⟩) 5 5) [103, 117, 101, 115, 116]) := Lib.hid (by rw [← hw1]; exact bytes_mark w [103, 117, 101, 115, 116] (5, 6) (by decide) (by decide))
    have z1 : w.heap.size + 1 = w1.heap.size := by rw [← hw1]; exact (Array.size_push _).symm
    rw [hw1]
    (try rw [z1])
    have B1 := Lib.hid (B0.out.trans (b1.mono B0.out.size))
    clear b1 hw1 z1 B0
    go_wp2_with fail
    refine (H1.out _ _ Y1.out).mono ?_
    rintro e w2 ⟨rfl, b2⟩
    have B2 := Lib.hid (B1.out.trans (b2.mono B1.out.size))
    have Y2 := Lib.hid (Y1.out.below b2)
    clear b2 B1 Y1
    go_wp2_with fail
    go_ret
    exact ⟨rfl, B2.out⟩
set_option maxRecDepth 100000 in
set_option maxHeartbeats 2000000 in
theorem rpass_any (c : Nat) (hc : c < 9223372036854775808) (w : World) :
    Calls Tryd.prog 34 #[.int .i64 (c : Int)] w fun e w' => e = .returned (.int .i64 ((passM c : Nat) : Int)) ∧ Below w.heap.size w w' := by
  have C1 := Lib.hid (fun W => reight_any c hc W)
  have C2 : ∀ v W, BytesAt W v (Sha.be8 c) → Calls Tryd.prog 14 #[.string sCode, v] W fun e w' => e = .returned (.int .i64 ((passM c : Nat) : Int)) ∧ Below W.heap.size W w' := fun v W hv => rscalar_any sCode v _ W (by decide) (by rw [be8_len]; decide) hv
  obtain ⟨M, hM⟩ : ∃ M, passM c = M := ⟨_, rfl⟩
  rw [hM] at C2 ⊢
  have H2 := Lib.hid C2
  clear C2 hM hc
  go_enter Tryd.func34, Tryd.ntmps34
  have B0 := Lib.hid (Below.refl w.heap.size w)
  go_wp2_with fail
  refine (C1.out _).mono ?_
  rintro e w1 ⟨⟨u, rfl, o1⟩, b1⟩
  have O1 := Lib.hid o1
  have G1 := Lib.hid b1.size
  have S1 := Lib.hid B0.out.size
  have B1 := Lib.hid (B0.out.trans (b1.mono B0.out.size))
  clear b1 o1 B0
  go_wp2_with fail
  refine (H2.out _ _ (O1.out.bytesAt (by rw [be8_len]; omega))).mono ?_
  rintro e w2 ⟨rfl, b2⟩
  have B2 := Lib.hid (B1.out.trans (b2.mono B1.out.size))
  clear b2 B1
  go_wp2_with fail
  go_ret
  exact ⟨rfl, B2.out⟩
set_option maxRecDepth 100000 in
set_option maxHeartbeats 2000000 in
theorem rmasked_any (r : Int) (c : Nat) (hc : c < 9223372036854775808) (w : World) :
    Calls Tryd.prog 53 #[.int .i64 r, .int .i64 (c : Int)] w fun e w' => e = .returned (.int .i64 ((maskedM r c : Nat) : Int)) ∧ Below w.heap.size w w' := by
  have C1 := fun W => rmask_any r W
  have C2 := fun W => rpass_any c hc W
  have C3 := fun W => rexp_el (maskM_El r) (passM_bd c).2 rfl W
  rw [show powP (maskM r) (passM c) = maskedM r c from rfl] at C3
  obtain ⟨k1, hk1⟩ : ∃ k, maskM r = k := ⟨_, rfl⟩
  obtain ⟨k2, hk2⟩ : ∃ k, passM c = k := ⟨_, rfl⟩
  obtain ⟨k3, hk3⟩ : ∃ k, maskedM r c = k := ⟨_, rfl⟩
  rw [hk1] at C1 C3
  rw [hk2] at C2 C3
  rw [hk3] at C3 ⊢
  have H1 := Lib.hid C1; have H2 := Lib.hid C2; have H3 := Lib.hid C3
  clear C1 C2 C3 hk1 hk2 hk3 hc
  go_enter Tryd.func53, Tryd.ntmps53
  have B0 := Lib.hid (Below.refl w.heap.size w)
  go_wp2_with fail
  refine (H1.out _).mono ?_
  rintro e w1 ⟨rfl, b1⟩
  have B1 := Lib.hid (B0.out.trans (b1.mono B0.out.size))
  clear b1 B0
  go_wp2_with fail
  refine (H2.out _).mono ?_
  rintro e w2 ⟨rfl, b2⟩
  have B2 := Lib.hid (B1.out.trans (b2.mono B1.out.size))
  clear b2 B1
  go_wp2_with fail
  refine (H3.out _).mono ?_
  rintro e wp ⟨rfl, rfl⟩
  go_wp2_with fail
  go_ret
  exact ⟨rfl, B2.out⟩
set_option maxRecDepth 100000 in
set_option maxHeartbeats 2000000 in
theorem rpoint_no (r c x : Int) (h : sideB r c x = false) (w : World) :
    Calls Tryd.prog 21 #[.agg #[.int .i64 r, .int .i64 c, .int .i64 x]] w fun e w' => e = .returned (.tuple #[.int .i64 0, .int .i64 100]) ∧ Below w.heap.size w w' := by
  have C1 := fun W => rcheckS_any r c x W
  rw [chkS_no h] at C1
  have H1 := Lib.hid C1
  clear C1 h
  go_enter Tryd.func21, Tryd.ntmps21
  have B0 := Lib.hid (Below.refl w.heap.size w)
  go_upto_region 1 with fail
  obtain ⟨w1, hw1⟩ : ∃ y, w.alloc (.cells #[.int .i64 r, .int .i64 c, .int .i64 x] 33) = y := ⟨_, rfl⟩
  have b1 : Below w.heap.size w w1 := by rw [← hw1]; exact (Below.refl _ _).alloc (Nat.le_refl _) _
  have S1 : Hid (RowV w1 w.heap.size 33 3 (sideF r c x)) := Lib.hid (by rw [← hw1]; exact RowV.new w _ 3 (sideF r c x))
  have z1 : w.heap.size + 1 = w1.heap.size := by rw [← hw1]; exact (Array.size_push _).symm
  rw [hw1]
  (try rw [z1])
  have B1 := Lib.hid (B0.out.trans (b1.mono B0.out.size))
  clear b1 hw1 z1 B0
  have x0 : _ = some (Value.int .i64 r) := S1.out.cell (i := 0) (by decide)
  have x1 : _ = some (Value.int .i64 c) := S1.out.cell (i := 1) (by decide)
  have x2 : _ = some (Value.int .i64 x) := S1.out.cell (i := 2) (by decide)
  go_wp2_with fail
  refine (H1.out _).mono ?_
  rintro e w2 ⟨rfl, b2⟩
  have B2 := Lib.hid (B1.out.trans (b2.mono B1.out.size))
  have S2 := Lib.hid (S1.out.below b2)
  clear b2 B1 S1
  clear x0 x1 x2
  go_wp2_with fail
  go_ret2
  exact ⟨rfl, B2.out⟩
set_option maxRecDepth 100000 in
set_option maxHeartbeats 2000000 in
theorem rpoint_yes (r c x : Nat) (hr : r = 1 ∨ r = 2) (hc : c < 1000000) (hx1 : 1 ≤ x) (hx2 : x < 2305843009213688669) (w : World) :
    Calls Tryd.prog 21 #[.agg #[.int .i64 r, .int .i64 c, .int .i64 x]] w fun e w' => e = .returned (.tuple #[.int .i64 ((pointS r c x : Nat) : Int), .int .i64 0]) ∧ Below w.heap.size w w' := by
  have C1 := fun W => rcheckS_any (r : Int) (c : Int) (x : Int) W
  rw [chkS_yes (sideB_of hr hc hx1 hx2)] at C1
  have C2 := fun W => rbase_el hx2 rfl W
  have C4 := fun W => rmasked_any (r : Int) c (by omega) W
  have C5 := fun W => rmul_el (powP_pos El4 x) (maskedM_El (r : Int) c) rfl W
  rw [show mulP (powP 4 x) (maskedM (r : Int) c) = pointS r c x from rfl] at C5
  obtain ⟨P, hP⟩ : ∃ P, pointS r c x = P := ⟨_, rfl⟩
  obtain ⟨M, hM⟩ : ∃ P, maskedM (r : Int) c = P := ⟨_, rfl⟩
  obtain ⟨X, hX⟩ : ∃ P, powP 4 x = P := ⟨_, rfl⟩
  rw [hP] at C5 ⊢
  rw [hM] at C4 C5
  rw [hX] at C2 C5
  have H1 := Lib.hid C1; have H2 := Lib.hid C2; have H4 := Lib.hid C4; have H5 := Lib.hid C5
  clear C1 C2 C4 C5 hP hM hX hr hc hx1 hx2
  go_enter Tryd.func21, Tryd.ntmps21
  have B0 := Lib.hid (Below.refl w.heap.size w)
  go_upto_region 1 with fail
  obtain ⟨w1, hw1⟩ : ∃ y, w.alloc (.cells #[.int .i64 r, .int .i64 c, .int .i64 x] 33) = y := ⟨_, rfl⟩
  have b1 : Below w.heap.size w w1 := by rw [← hw1]; exact (Below.refl _ _).alloc (Nat.le_refl _) _
  have S1 : Hid (RowV w1 w.heap.size 33 3 (sideF r c x)) := Lib.hid (by rw [← hw1]; exact RowV.new w _ 3 (sideF r c x))
  have z1 : w.heap.size + 1 = w1.heap.size := by rw [← hw1]; exact (Array.size_push _).symm
  rw [hw1]
  (try rw [z1])
  have B1 := Lib.hid (B0.out.trans (b1.mono B0.out.size))
  clear b1 hw1 z1 B0
  have x0 : _ = some (Value.int .i64 (r : Int)) := S1.out.cell (i := 0) (by decide)
  have x1 : _ = some (Value.int .i64 (c : Int)) := S1.out.cell (i := 1) (by decide)
  have x2 : _ = some (Value.int .i64 (x : Int)) := S1.out.cell (i := 2) (by decide)
  go_wp2_with fail
  refine (H1.out _).mono ?_
  rintro e w2 ⟨rfl, b2⟩
  have B2 := Lib.hid (B1.out.trans (b2.mono B1.out.size))
  have S2 := Lib.hid (S1.out.below b2)
  clear b2 B1 S1
  clear x0 x1 x2
  have x0 : _ = some (Value.int .i64 (r : Int)) := S2.out.cell (i := 0) (by decide)
  have x1 : _ = some (Value.int .i64 (c : Int)) := S2.out.cell (i := 1) (by decide)
  have x2 : _ = some (Value.int .i64 (x : Int)) := S2.out.cell (i := 2) (by decide)
  go_wp2_with fail
  refine (H2.out _).mono ?_
  rintro e wp ⟨rfl, rfl⟩
  go_wp2_with fail
  refine (H4.out _).mono ?_
  rintro e w3 ⟨rfl, b3⟩
  have B3 := Lib.hid (B2.out.trans (b3.mono B2.out.size))
  have S3 := Lib.hid (S2.out.below b3)
  clear b3 B2 S2
  clear x0 x1 x2
  go_wp2_with fail
  refine (H5.out _).mono ?_
  rintro e wp ⟨rfl, rfl⟩
  go_wp2_with fail
  go_ret2
  exact ⟨rfl, B3.out⟩
set_option maxRecDepth 100000 in
set_option maxHeartbeats 2000000 in
theorem relem_any (r c x p : Nat) (hr : r = 1 ∨ r = 2) (hc : c < 1000000) (hx2 : x < 2305843009213688669) (hp : El p) (w : World) :
    Calls Tryd.prog 39 #[.agg #[.int .i64 r, .int .i64 c, .int .i64 x], .int .i64 (p : Int)] w fun e w' => e = .returned (.int .i64 ((elemS r c x p : Nat) : Int)) ∧ Below w.heap.size w w' := by
  have C1 := fun W => rmasked_any ((3 - r : Nat) : Int) c (by omega) W
  have e3 : ((3 - r : Nat) : Int) = 3 - (r : Int) := by omega
  have e4 : IntKind.i64.wrap (3 - (r : Int)) = 3 - (r : Int) := IntWalk.i64_in _ (by omega)
  have C2 := fun W => rinv_el (maskedM_El ((3 - r : Nat) : Int) c) rfl W
  have C3 := fun W => rmul_el hp (powP_pos (maskedM_El ((3 - r : Nat) : Int) c) 2305843009213688668) rfl W
  have C4 := fun W => rexp_el (El.mul hp (powP_pos (maskedM_El ((3 - r : Nat) : Int) c) 2305843009213688668)) hx2 rfl W
  rw [show powP (mulP p (powP (maskedM ((3 - r : Nat) : Int) c) 2305843009213688668)) x = elemS r c x p from rfl] at C4
  obtain ⟨E, hE⟩ : ∃ P, elemS r c x p = P := ⟨_, rfl⟩
  obtain ⟨Y, hY⟩ : ∃ P, mulP p (powP (maskedM ((3 - r : Nat) : Int) c) 2305843009213688668) = P := ⟨_, rfl⟩
  obtain ⟨I, hI⟩ : ∃ P, powP (maskedM ((3 - r : Nat) : Int) c) 2305843009213688668 = P := ⟨_, rfl⟩
  obtain ⟨M, hM⟩ : ∃ P, maskedM ((3 - r : Nat) : Int) c = P := ⟨_, rfl⟩
  rw [hE] at C4 ⊢
  rw [hY] at C3 C4
  rw [hI] at C2 C3
  rw [hM, e3] at C1
  rw [hM] at C2
  have H1 := Lib.hid C1; have H2 := Lib.hid C2; have H3 := Lib.hid C3; have H4 := Lib.hid C4
  have z1 : (0 : Int) ≤ (r : Int) := Int.natCast_nonneg r
  have z2 : (r : Int) ≤ 2 := by omega
  clear C1 C2 C3 C4 hE hY hI hM hr hc hx2 hp e3 e4
  go_enter Tryd.func39, Tryd.ntmps39
  have B0 := Lib.hid (Below.refl w.heap.size w)
  go_upto_region 1 with fail
  obtain ⟨w1, hw1⟩ : ∃ y, w.alloc (.cells #[.int .i64 r, .int .i64 c, .int .i64 x] 33) = y := ⟨_, rfl⟩
  have b1 : Below w.heap.size w w1 := by rw [← hw1]; exact (Below.refl _ _).alloc (Nat.le_refl _) _
  have S1 : Hid (RowV w1 w.heap.size 33 3 (sideF r c x)) := Lib.hid (by rw [← hw1]; exact RowV.new w _ 3 (sideF r c x))
  have z1 : w.heap.size + 1 = w1.heap.size := by rw [← hw1]; exact (Array.size_push _).symm
  rw [hw1]
  (try rw [z1])
  have B1 := Lib.hid (B0.out.trans (b1.mono B0.out.size))
  clear b1 hw1 z1 B0
  have x0 : _ = some (Value.int .i64 (r : Int)) := S1.out.cell (i := 0) (by decide)
  have x1 : _ = some (Value.int .i64 (c : Int)) := S1.out.cell (i := 1) (by decide)
  go_wp2_with fail
  refine (H1.out _).mono ?_
  rintro e w2 ⟨rfl, b2⟩
  have B2 := Lib.hid (B1.out.trans (b2.mono B1.out.size))
  have S2 := Lib.hid (S1.out.below b2)
  clear b2 B1 S1
  clear x0 x1
  go_wp2_with fail
  refine (H2.out _).mono ?_
  rintro e wp ⟨rfl, rfl⟩
  go_wp2_with fail
  refine (H3.out _).mono ?_
  rintro e wp ⟨rfl, rfl⟩
  have x2 : _ = some (Value.int .i64 (x : Int)) := S2.out.cell (i := 2) (by decide)
  go_wp2_with fail
  refine (H4.out _).mono ?_
  rintro e wp ⟨rfl, rfl⟩
  clear x2
  go_wp2_with fail
  go_ret
  exact ⟨rfl, B2.out⟩
end Go.Proofs.YtdcpejfnhegdaaaDoor
