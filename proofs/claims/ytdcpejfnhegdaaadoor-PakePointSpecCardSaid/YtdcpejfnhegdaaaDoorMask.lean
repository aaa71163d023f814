/- The mask of a role, the password of a code; pake.roles. -/
import Derived.Test.YtdcpejfnhegdaaaDoorEight
import Derived.Test.YtdcpejfnhegdaaaDoorDigest
set_option linter.unusedVariables false
set_option linter.unusedSimpArgs false
namespace Go.Proofs.YtdcpejfnhegdaaaDoor
open Go.RowKit

abbrev sCode : ByteArray := ⟨#[99, 111, 100, 101]⟩
abbrev sPake : ByteArray := ⟨#[112, 97, 107, 101]⟩
abbrev sProof : ByteArray := ⟨#[112, 114, 111, 111, 102]⟩
abbrev sHost : ByteArray := ⟨#[104, 111, 115, 116]⟩
abbrev sGuest : ByteArray := ⟨#[103, 117, 101, 115, 116]⟩
/-- the name of a role, as the reference has it -/
def nameR (r : Int) : ByteArray := if r = 1 then sHost else sGuest
def maskM (r : Int) : Nat := pointM sPake.data.toList (nameR r).data.toList
def passM (c : Nat) : Nat := scalarM sCode.data.toList (Sha.be8 c)
def maskedM (r : Int) (c : Nat) : Nat := powP (maskM r) (passM c)
theorem maskM_El (r : Int) : El (maskM r) := pointM_El _ _
theorem passM_bd (c : Nat) : 1 ≤ passM c ∧ passM c < 2305843009213688669 := scalarM_bd _ _
theorem maskedM_El (r : Int) (c : Nat) : El (maskedM r c) := powP_pos (maskM_El r) _
theorem nameR_size (r : Int) : (nameR r).size ≤ 5 := by unfold nameR; split <;> decide

def roleV (r : Int) (f : Nat) : Value := .agg #[.string (nameR r), .func (.func f) #[] #[]]

set_option maxRecDepth 100000 in
set_option maxHeartbeats 2000000 in
theorem masked_any (r : Int) (fv : Value) (c : Nat) (hc : c < 9223372036854775808) (w : World) (hT : Tab w) :
    Calls Tryd.prog 49 #[.agg #[.string (nameR r), fv], .int .i64 (c : Int)] w fun e w' => e = .returned (.int .i64 ((maskedM r c : Nat) : Int)) ∧ Below w.heap.size w w' := by
  have C1 := Lib.hid (fun W => eight_any c hc W)
  have C2 : ∀ v W, BytesAt W v (Sha.be8 c) → Tab W → Calls Tryd.prog 13 #[.string sCode, v] W fun e w' => e = .returned (.int .i64 ((passM c : Nat) : Int)) ∧ Below W.heap.size W w' := fun v W hv hT => scalar_any sCode v _ W (by decide) (by rw [be8_len]; decide) hv hT
  have C3 : ∀ v W, BytesAt W v (nameR r).data.toList → Tab W → Calls Tryd.prog 15 #[.string sPake, v] W fun e w' => e = .returned (.int .i64 ((maskM r : Nat) : Int)) ∧ Below W.heap.size W w' := fun v W hv hT => point_any sPake v _ W (by decide) (by have := nameR_size r; simp; omega) hv hT
  have C4 : ∀ W, Calls Tryd.prog 32 #[.int .i64 ((maskM r : Nat) : Int), .int .i64 ((passM c : Nat) : Int)] W fun e w' => e = .returned (.tuple #[.int .i64 ((maskedM r c : Nat) : Int), .int .i64 0]) ∧ Below W.heap.size W w' := fun W => gexp_el (maskM_El r) (passM_bd c).2 rfl W
  have hns := nameR_size r
  obtain ⟨k1, hk1⟩ : ∃ k, maskM r = k := ⟨_, rfl⟩
  obtain ⟨k2, hk2⟩ : ∃ k, passM c = k := ⟨_, rfl⟩
  obtain ⟨k3, hk3⟩ : ∃ k, maskedM r c = k := ⟨_, rfl⟩
  obtain ⟨s, hs⟩ : ∃ s, nameR r = s := ⟨_, rfl⟩
  rw [hk2] at C2 C4
  rw [hk1] at C3 C4
  rw [hk3] at C4 ⊢
  rw [hs] at C3 hns ⊢
  have H2 := Lib.hid C2; have H3 := Lib.hid C3; have H4 := Lib.hid C4
  have hcv := fun W => convert_string W s
  have HT := Lib.hid hT
  have Hns := Lib.hid (show (s.size : Int) ≤ 140737488351232 by omega)
  clear C2 C3 C4 hk1 hk2 hk3 hs hT hns hc
  go_enter Tryd.func49, Tryd.ntmps49
  have B0 := Lib.hid (Below.refl w.heap.size w)
  go_upto_region 1 with fail
  obtain ⟨w1, hw1⟩ : ∃ y, w.alloc (.cells #[.string s, fv] 70) = y := ⟨_, rfl⟩
  have b1 : Below w.heap.size w w1 := by rw [← hw1]; exact (Below.refl _ _).alloc (Nat.le_refl _) _
  have R1 : Hid (RowV w1 w.heap.size 70 2 (fun i => if i = 0 then .string s else fv)) := Lib.hid (by rw [← hw1]; exact RowV.new w _ 2 (fun i => if i = 0 then .string s else fv))
  have z1 : w.heap.size + 1 = w1.heap.size := by rw [← hw1]; exact (Array.size_push _).symm
  rw [hw1]
  (try rw [z1])
  have B1 := Lib.hid (B0.out.trans (b1.mono B0.out.size))
  clear b1 hw1 z1 B0
  go_wp2_with fail
  refine (C1.out _).mono ?_
  rintro e w2 ⟨⟨u, rfl, o2⟩, b2⟩
  have O2 := Lib.hid o2
  have G2 := Lib.hid b2.size
  have S2 := Lib.hid B1.out.size
  have B2 := Lib.hid (B1.out.trans (b2.mono B1.out.size))
  have R2 := Lib.hid (R1.out.below b2)
  clear b2 o2 B1 R1
  go_wp2_with fail
  refine (H2.out _ _ (O2.out.bytesAt (by rw [be8_len]; omega)) (HT.out.below B2.out)).mono ?_
  rintro e w3 ⟨rfl, b3⟩
  have B3 := Lib.hid (B2.out.trans (b3.mono B2.out.size))
  have R3 := Lib.hid (R2.out.below b3)
  clear b3 B2 R2
  have x0 : w3.cell? ⟨w.heap.size, 0, none⟩ = some (.string s) := R3.out.cell (i := 0) (by decide)
  go_wp2_with fail
  obtain ⟨w4, hw4⟩ : ∃ y, Lib.bytesWorld w3 5 s = y := ⟨_, rfl⟩
  have b4 : Below w3.heap.size w3 w4 := by rw [← hw4]; exact below_bytesWorld w3 s
  have Y4 : Hid (BytesAt w4 (.slice (some ⟨w3.heap.size, 0, none⟩) s.size (grownCap w3 s.size 0 5)) s.data.toList) := Lib.hid (by rw [← hw4]; exact bytesAt_bytesWorld w3 s Hns.out)
  rw [hw4]
  have B4 := Lib.hid (B3.out.trans (b4.mono B3.out.size))
  have R4 := Lib.hid (R3.out.below b4)
  clear b4 hw4 B3 R3
  refine (H3.out _ _ Y4.out (HT.out.below B4.out)).mono ?_
  rintro e w5 ⟨rfl, b5⟩
  have B5 := Lib.hid (B4.out.trans (b5.mono B4.out.size))
  clear b5 x0
  go_wp2_with fail
  refine (H4.out _).mono ?_
  rintro e w6 ⟨rfl, b6⟩
  have B6 := Lib.hid (B5.out.trans (b6.mono B5.out.size))
  clear b6 B5
  go_wp2_with fail
  go_ret
  exact ⟨rfl, B6.out⟩

end Go.Proofs.YtdcpejfnhegdaaaDoor
