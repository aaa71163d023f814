/- Eight bytes of a number, as package sign, its reference and its laws write them; the hash of numbers and a message. Package sign and its reference: keys and challenges. Package sign and its reference: challenges. Package sign: Verify. Package sign: Sign. Package sign: Sign, of a valid key. The reference of package sign: Sign, Verify. The reference of package sign: Verify. The laws of package sign: what is signed is accepted; the contracts that the laws call. -/
import Derived.Test.YtpekhdahamloaaaGreatDoorPk21
import Derived.Test.YtpekhdahamloaaaGreatDoorPk23
import Derived.Test.YtpekhdahamloaaaGreatDoorPk22
import Derived.Test.YtpekhdahamloaaaGreatDoorPk16
import Derived.Test.YtpekhdahamloaaaGreatDoorPk18
import Derived.Laws.ResultCell
import Derived.Laws.StructEq
set_option linter.unusedVariables false
set_option linter.unusedSimpArgs false
namespace Go.Proofs.YtpekhdahamloaaaGreatDoor
open Go.RowKit

def u64 (z : Int) : Nat := (z % 18446744073709551616).toNat
theorem u64_lt (z : Int) : u64 z < 18446744073709551616 := by unfold u64; omega
theorem u64_wrap (z : Int) : IntKind.u64.wrap z = ((u64 z : Nat) : Int) := by rw [IntKind.wrap_u64]; unfold u64; omega
/-- the eight bytes -/
def num8 (z : Int) : List UInt8 := Sha.be8 (u64 z)
theorem num8_len (z : Int) : (num8 z).length = 8 := rfl
/-- the numbers' bytes, one behind the other -/
def nums8 (zs : List Int) : List UInt8 := (zs.map num8).flatten
theorem nums8_step (zs : List Int) {k : Nat} (h : k < zs.length) : nums8 (zs.take (k + 1)) = nums8 (zs.take k) ++ num8 (zs.getD k 0) := by
  unfold nums8
  rw [List.take_succ_eq_append_getElem h, List.map_append, List.flatten_append, List.getD_eq_getElem?_getD, List.getElem?_eq_getElem h]; simp
theorem nums8_len : ∀ zs : List Int, (nums8 zs).length = 8 * zs.length
  | [] => rfl
  | z :: zs => by
    have : nums8 (z :: zs) = num8 z ++ nums8 zs := by simp [nums8]
    rw [this, List.length_append, nums8_len zs, num8_len]; simp; omega
/-- the hash of numbers and a message under a tag -/
def hashM (t : List UInt8) (m : List UInt8) (zs : List Int) : Nat := scalarM t (nums8 zs ++ m)
theorem hashM_bd (t m : List UInt8) (zs : List Int) : 1 ≤ hashM t m zs ∧ hashM t m zs < 2305843009213688669 := scalarM_bd _ _

set_option maxRecDepth 100000 in
set_option maxHeartbeats 4000000 in
theorem hash_any (s : ByteArray) (v : Value) (m : List UInt8) (b cp : Nat) (zs : List Int) (w : World) (hs : s.size ≤ 1000) (hm : m.length ≤ 1000) (hv : BytesAt w v m) (hT : Tab w)
    (hz : RowV w b 3 zs.length (fun i => .int .i64 (zs.getD i 0))) (hn : zs.length ≤ 2) :
    Calls Tryz.prog 94 #[.string s, v, .slice (some ⟨b, 0, none⟩) zs.length cp] w fun e w' => e = .returned (.int .i64 ((hashM s.data.toList m zs : Nat) : Int)) ∧ Below w.heap.size w w' := by
  obtain ⟨va, vc, rfl⟩ := hv.slice
  have Hv := Lib.hid hv
  have HT := Lib.hid hT
  have Hz := Lib.hid hz
  have Hm := Lib.hid hm
  have Hn := Lib.hid hn
  have Hs := Lib.hid hs
  have P0 : Hid (Owns w w.heap.size (.slice none 0 0) (nums8 (zs.take 0))) := Lib.hid (Owns.nil w _)
  have B0 := Lib.hid (Below.refl w.heap.size w)
  obtain ⟨L, hL⟩ : ∃ L, zs.length = L := ⟨_, rfl⟩
  have HL := Lib.hid hL
  rw [hL] at hn ⊢
  clear hv hT hz hm hL hs
  go_enter Tryz.func94, Tryz.ntmps94
  go_wp2_with fail
  go_loopg [7, 13] L (fun g s7 s13 wx => ∃ (k : Nat) (u : Value), k + g = L ∧ s13 = .int .i64 (k : Int) ∧ s7 = u ∧ Hid (Owns wx w.heap.size u (nums8 (zs.take k))) ∧ Hid (Below w.heap.size w wx))
  case atStart => exact ⟨0, _, by omega, rfl, rfl, P0, B0⟩
  case round =>
    clear P0 B0
    obtain ⟨k, u, hk, rfl, e2, hO, hB⟩ := hrel
    obtain rfl : u = _ := e2.symm
    obtain ⟨G, hG⟩ : ∃ G, gk = G := ⟨_, rfl⟩
    by_cases hkL : k < L
    · have d0 : decide ((k : Int) < (L : Int)) = true := by rw [decide_eq_true_iff]; omega
      have z1 : (0 : Int) ≤ (k : Int) := Int.natCast_nonneg k
      have z2 : (k : Int) < (L : Int) := by omega
      have p0 : 0 ≤ (k : Int) ∧ (k : Int) < (L : Int) := by omega
      have z3 : ((k : Int)).toNat = k := Int.toNat_natCast k
      have c1 := (Hz.out.below hB.out).cell (i := k) (by rw [HL.out]; exact hkL)
      have hstep := nums8_step zs (k := k) (by rw [HL.out]; exact hkL)
      have hlen0 : (nums8 (zs.take k)).length ≤ 16 := by rw [nums8_len, List.length_take]; have := Hn.out; omega
      obtain ⟨z, hz⟩ : ∃ z, zs.getD k 0 = z := ⟨_, rfl⟩
      rw [hz] at c1 hstep
      obtain ⟨l0, hl0⟩ : ∃ l, nums8 (zs.take k) = l := ⟨_, rfl⟩
      rw [hl0] at hO hstep hlen0
      have hw := u64_wrap z
      have hlt := u64_lt z
      unfold num8 at hstep
      obtain ⟨n, hn⟩ : ∃ n, u64 z = n := ⟨_, rfl⟩
      rw [hn] at hw hlt hstep
      have Hlt := Lib.hid hlt
      have Hstep := Lib.hid hstep
      have Hlen0 := Lib.hid hlen0
      have P1 : Hid (Owns wr w.heap.size u (l0 ++ (Sha.be8 n).take 0)) := Lib.hid (by rw [List.take_zero, List.append_nil]; exact hO.out)
      clear hn hlt hstep hlen0 hl0 hz
      go_wp2_with fail
      clear c1
      go_loopg [7, 10] 8 (fun g s7 s10 wx => ∃ (j : Nat) (u : Value), j + g = 8 ∧ s10 = .int .i64 (56 - 8 * (j : Int)) ∧ s7 = u ∧ Hid (Owns wx w.heap.size u (l0 ++ (Sha.be8 n).take j)) ∧ Hid (Below w.heap.size w wx))
      case atStart => exact ⟨0, u, by omega, rfl, rfl, P1, hB⟩
      case round =>
        clear P1 hB hO
        obtain ⟨j, u, hj, rfl, e3, hO, hB⟩ := hrel
        obtain rfl : u = _ := e3.symm
        by_cases hj8 : j < 8
        · have d1 : decide (8 * (j : Int) ≤ 56) = true := by rw [decide_eq_true_iff]; omega
          have d2 : decide (0 ≤ 56 - 8 * (j : Int)) = true := by rw [decide_eq_true_iff]; omega
          have y1 : (0 : Int) ≤ (j : Int) := Int.natCast_nonneg j
          have y2 : (j : Int) < 8 := by omega
          have y3 : (56 - 8 * (j : Int)).toNat = 8 * (7 - j) := by omega
          have y4 : (0 : Int) ≤ 56 - 8 * (j : Int) := by omega
          have hv := byte_is n (7 - j)
          have hs := be8_step n hj8
          obtain ⟨x, hx⟩ : ∃ x, byteOfN n (7 - j) = x := ⟨_, rfl⟩
          rw [hx] at hv hs
          have Hs := Lib.hid hs
          have L4 := Lib.hid (show (l0 ++ (Sha.be8 n).take j).length + [x].length ≤ 140737488351232 from by
            have := Hlen0.out
            rw [List.length_singleton, List.length_append, List.length_take]; omega)
          clear hs hx hj8
          go_wp2_with ((with_reducible (show wpList _ _ _ (Oper.mk (some 28) _ _ _ _ _ :: _) _ _)); refine wpList_append_bytes rfl (.tmp 21) (.tmp 27) rfl w.heap.size u (.slice (some ⟨wr.heap.size, 0, none⟩) 1 1) _ _ rfl rfl (Owns.alloc hO.out _) (one_byte wr x) L4.out (hB.out.alloc hB.out.size _).size ?_; intro v3 w3 O3 B3 _)
          go_roundg (gk - 1)
          case measure => omega
          case rel =>
            go_light
            refine ⟨j + 1, v3, by omega, by congr 1; omega, rfl, Lib.hid ?_, Lib.hid ((hB.out.alloc hB.out.size _).trans B3.out)⟩
            have h := O3.out
            rw [List.append_assoc, Hs.out] at h
            exact h
        · obtain rfl : j = 8 := by omega
          have d1 : decide (8 * ((8 : Nat) : Int) ≤ 56) = false := by decide
          have d2 : decide ((0 : Int) ≤ 56 - 8 * ((8 : Nat) : Int)) = false := by decide
          go_wp2_with fail
          go_roundg (G - 1)
          case measure => omega
          case rel =>
            go_light
            refine ⟨k + 1, u, by omega, rfl, rfl, Lib.hid ?_, hB⟩
            have h := hO.out
            rw [List.take_of_length_le (by simp [Sha.be8]), ← Hstep.out] at h
            exact h
    · obtain rfl : k = L := by omega
      have d0 : decide ((k : Int) < (k : Int)) = false := by simp
      have hO' : Hid (Owns wr w.heap.size u (nums8 zs)) := Lib.hid (by have h := hO.out; rw [List.take_of_length_le (by rw [HL.out]; exact Nat.le_refl _)] at h; exact h)
      have hlen0 : (nums8 zs).length ≤ 16 := by rw [nums8_len, HL.out]; omega
      have L5 := Lib.hid (show (nums8 zs).length + m.length ≤ 140737488351232 from by have := Hm.out; omega)
      have Hlen0 := Lib.hid hlen0
      clear hO hlen0 hkL
      go_wp2_with ((with_reducible (show wpList _ _ _ (Oper.mk (some 33) _ _ _ _ _ :: _) _ _)); refine wpList_append_bytes rfl (.tmp 31) (.tmp 32) rfl w.heap.size u (.slice va m.length vc) _ _ rfl rfl hO'.out (Hv.out.below hB.out) L5.out hB.out.size ?_; intro v3 w3 O3 B3 _)
      have B4 := hB.out.trans B3.out
      have hl4 : (nums8 zs ++ m).length ≤ 1016 := by rw [List.length_append]; have := Hm.out; have := Hlen0.out; omega
      refine (scalar_any s v3 (nums8 zs ++ m) w3 (by have := Hs.out; omega) (by omega) (O3.out.bytesAt (by omega)) (HT.out.below B4)).mono ?_
      rintro e w4 ⟨rfl, b4⟩
      have B5 := Lib.hid (B4.trans (b4.mono B4.size))
      clear b4 B4 hl4
      go_wp2_with fail
      go_ret
      exact ⟨rfl, B5.out⟩
end Go.Proofs.YtpekhdahamloaaaGreatDoor

namespace Go.Proofs.YtpekhdahamloaaaGreatDoor
open Go.RowKit

abbrev sSign : ByteArray := ⟨#[115, 105, 103, 110]⟩
abbrev sNonce : ByteArray := ⟨#[110, 111, 110, 99, 101]⟩
def privB (x : Int) : Bool := decide (1 ≤ x) && decide (x < 2305843009213688669)
def chal (p r : Int) (m : List UInt8) : Nat := hashM sSign.data.toList m [r, p]
theorem chal_bd (p r : Int) (m : List UInt8) : 1 ≤ chal p r m ∧ chal p r m < 2305843009213688669 := hashM_bd _ _ _
theorem row_one (w : World) (a : Int) : RowV (w.alloc (.cells #[.int .i64 a] 3)) w.heap.size 3 [a].length (fun i => .int .i64 ([a].getD i 0)) := RowV.new w 3 1 (fun i => .int .i64 ([a].getD i 0))
theorem row_two (w : World) (a b : Int) : RowV (w.alloc (.cells #[.int .i64 a, .int .i64 b] 3)) w.heap.size 3 [a, b].length (fun i => .int .i64 ([a, b].getD i 0)) := RowV.new w 3 2 (fun i => .int .i64 ([a, b].getD i 0))

theorem valid_any (x : Int) (w : World) :
    Calls Tryz.prog 63 #[.int .i64 x] w fun e w' => e = .returned (.bool (privB x)) ∧ w = w' := by
  unfold privB
  cases h : decide (1 ≤ x) with
  | false =>
    go_enter Tryz.func63, Tryz.ntmps63
    go_wp2_with fail
    go_ret
    exact ⟨rfl, rfl⟩
  | true =>
    cases h2 : decide (x < 2305843009213688669) with
    | false =>
      go_enter Tryz.func63, Tryz.ntmps63
      go_wp2_with fail
      go_ret
      exact ⟨rfl, rfl⟩
    | true =>
      go_enter Tryz.func63, Tryz.ntmps63
      go_wp2_with fail
      go_ret
      exact ⟨rfl, rfl⟩
theorem public_any (x : Int) (w : World) :
    Calls Tryz.prog 64 #[.int .i64 x] w fun e w' => e = .returned (.int .i64 (gexpV 4 x)) ∧ Below w.heap.size w w' := by
  have h := Lib.hid (fun W => gbase_any x W)
  obtain ⟨p, hp⟩ : ∃ p, gexpV 4 x = p := ⟨_, rfl⟩
  rw [hp] at h ⊢
  go_enter Tryz.func64, Tryz.ntmps64
  go_wp2_with fail
  refine (h.out _).mono ?_
  rintro e w1 ⟨rfl, b1⟩
  go_wp2_with fail
  go_ret
  exact ⟨rfl, b1⟩
/-- what Public answers -/
def pubV (x : Int) : Int := if privB x then gexpV 4 x else 0
def pubE (x : Int) : Int := if privB x then 0 else 50
theorem spublic_any (x : Int) (w : World) :
    Calls Tryz.prog 28 #[.int .i64 x] w fun e w' => e = .returned (.tuple #[.int .i64 (pubV x), .int .i64 (pubE x)]) ∧ Below w.heap.size w w' := by
  have h := Lib.hid (fun W => valid_any x W)
  have h2 := Lib.hid (fun W => public_any x W)
  unfold pubV pubE
  cases hx : privB x with
  | false =>
    rw [hx] at h
    clear h2
    go_enter Tryz.func28, Tryz.ntmps28
    go_wp2_with fail
    refine (h.out _).mono ?_
    rintro e w1 ⟨rfl, rfl⟩
    go_wp2_with fail
    go_ret2
    exact ⟨rfl, Below.refl _ _⟩
  | true =>
    rw [hx] at h
    rw [if_pos rfl, if_pos rfl]
    obtain ⟨p, hp⟩ : ∃ p, gexpV 4 x = p := ⟨_, rfl⟩
    rw [hp] at h2 ⊢
    go_enter Tryz.func28, Tryz.ntmps28
    go_wp2_with fail
    refine (h.out _).mono ?_
    rintro e w1 ⟨rfl, rfl⟩
    go_wp2_with fail
    refine (h2.out _).mono ?_
    rintro e w1 ⟨rfl, b1⟩
    go_wp2_with fail
    go_ret2
    exact ⟨rfl, b1⟩
theorem gexpE4 {x : Int} (h : scalB x = true) : gexpE 4 x = 0 := by unfold gexpE; rw [el4, h]; rfl
end Go.Proofs.YtpekhdahamloaaaGreatDoor

namespace Go.Proofs.YtpekhdahamloaaaGreatDoor
open Go.RowKit


end Go.Proofs.YtpekhdahamloaaaGreatDoor

namespace Go.Proofs.YtpekhdahamloaaaGreatDoor
open Go.RowKit
def vPlan : Plan := flAll [0, 2, 3, 5, 6] (.two 1 9 (.two 4 9 (.two 7 9 (.fl 8 (.one 9 .done)) (.one 7 (.fl 8 .done))) (.one 4 (.one 7 (.fl 8 .done)))) (.one 1 (.one 4 (.one 7 (.fl 8 .done)))))
/-- three answers -/
def errs3 (a b c : Int) : Nat → Value := fun i => if i = 0 then .int .i64 a else if i = 1 then .int .i64 b else .int .i64 c
theorem chk_two (a : Int) : chk a = 0 ∨ chk a = 40 := chk_01 a
theorem fchk_two (a : Int) : fchk a = 0 ∨ fchk a = 1 := by unfold fchk; cases scalB a <;> simp
theorem neq3_zero (W : World) : (binOp .neq 205 (.agg (rowF 3 (errs3 0 0 0))) (.agg (rowF 3 (errs3 0 0 0)))).run Tryz.prog W = .ok (.bool false) W := by kernel_rfl
theorem neq3_some (a b c : Int) (ha : a = 0 ∨ a = 40) (hb : b = 0 ∨ b = 40) (hc : c = 0 ∨ c = 1) (h : ¬ (a = 0 ∧ b = 0 ∧ c = 0)) (W : World) :
    (binOp .neq 205 (.agg (rowF 3 (errs3 a b c))) (.agg (rowF 3 (errs3 0 0 0)))).run Tryz.prog W = .ok (.bool true) W := by
  rcases ha with rfl | rfl <;> rcases hb with rfl | rfl <;> rcases hc with rfl | rfl <;> first | (exact absurd ⟨rfl, rfl, rfl⟩ h) | kernel_rfl
theorem guard3 (x y : Operand) (a b c : Int) (W : World) : (eqGuard .neq 205 x y (.agg (rowF 3 (errs3 a b c))) (.agg (rowF 3 (errs3 0 0 0)))).run Tryz.prog W = .ok () W := run_eqGuard_agg W .neq _ x y _ _ (by kernel_rfl)
def verB (p : Int) (m : List UInt8) (r s : Int) : Bool := elemB p && elemB r && scalB s && decide (gexpV 4 s = gmulV r (gexpV p (chal p r m)))
theorem ver_ok {p r s : Int} (m : List UInt8) (h : chk p = 0 ∧ chk r = 0 ∧ fchk s = 0) : verB p m r s = decide (gexpV 4 s = gmulV r (gexpV p (chal p r m))) := by
  unfold verB; unfold chk fchk at h
  cases hp : elemB p <;> cases hr : elemB r <;> cases hs : scalB s <;> simp_all
theorem ver_no {p r s : Int} (m : List UInt8) (h : ¬ (chk p = 0 ∧ chk r = 0 ∧ fchk s = 0)) : verB p m r s = false := by
  unfold verB; unfold chk fchk at h
  cases hp : elemB p <;> cases hr : elemB r <;> cases hs : scalB s <;> simp_all
theorem errs3_one {a b c : Int} : ∀ j, j < 3 → (errs3 a b c j).oneCell' = true := by intro j _; unfold errs3; split; rfl; split <;> rfl
set_option maxRecDepth 100000 in
set_option maxHeartbeats 4000000 in
theorem verify_any (p r s : Int) (v : Value) (m : List UInt8) (w : World) (hm : m.length ≤ 1000) (hv : BytesAt w v m) (hT : Tab w) :
    Calls Tryz.prog 115 #[.int .i64 p, v, .agg #[.int .i64 r, .int .i64 s]] w fun e w' => e = .returned (.bool (verB p m r s)) ∧ Below w.heap.size w w' := by
  have hok := ver_ok (p := p) (r := r) (s := s) m
  have hno := ver_no (p := p) (r := r) (s := s) m
  obtain ⟨ans, hans⟩ : ∃ x, verB p m r s = x := ⟨_, rfl⟩
  have q1 := chk_two p
  have q2 := chk_two r
  have q3 := fchk_two s
  have C1 := fun W => check_any p W
  have C2 := fun W => check_any r W
  have C3 := fun W => fcheck_any s W
  obtain ⟨k1, hk1⟩ : ∃ k, chk p = k := ⟨_, rfl⟩
  obtain ⟨k2, hk2⟩ : ∃ k, chk r = k := ⟨_, rfl⟩
  obtain ⟨k3, hk3⟩ : ∃ k, fchk s = k := ⟨_, rfl⟩
  rw [hk1] at C1 q1
  rw [hk2] at C2 q2
  rw [hk3] at C3 q3
  rw [hk1, hk2, hk3, hans] at hok hno
  rw [hans]
  obtain ⟨va, vc, rfl⟩ := hv.slice
  have Hv := Lib.hid hv
  have HT := Lib.hid hT
  have Hm := Lib.hid hm
  have Hok := Lib.hid hok
  have Hno := Lib.hid hno
  have Q1 := Lib.hid q1
  have Q2 := Lib.hid q2
  have Q3 := Lib.hid q3
  clear hv hT hm hok hno hk1 hk2 hk3 hans q1 q2 q3
  have H1 := Lib.hid C1; have H2 := Lib.hid C2; have H3 := Lib.hid C3
  clear C1 C2 C3
  have R0 := Lib.hid (RowV.new w 42 2 (fun i => if i = 0 then .int .i64 r else .int .i64 s))
  go_enter Tryz.func115, Tryz.ntmps115
  go_upto_region 1 with fail
  obtain ⟨w1, hw1⟩ : ∃ x, w.alloc (.cells #[.int .i64 r, .int .i64 s] 42) = x := ⟨_, rfl⟩
  have B1 : Hid (Below w.heap.size w w1) := Lib.hid (by rw [← hw1]; exact (Below.refl _ _).alloc (Nat.le_refl _) _)
  have R1 : RowV w1 w.heap.size 42 2 (fun i => if i = 0 then .int .i64 r else .int .i64 s) := by rw [← hw1]; exact R0.out
  rw [hw1]
  clear hw1 R0
  obtain ⟨bs, hbs⟩ : ∃ x, w.heap.size = x := ⟨_, rfl⟩
  have Hbs := Lib.hid hbs
  rw [hbs] at R1 B1 ⊢
  clear hbs
  go_cut [7] (fun s7 wx => ∃ b : Nat, s7 = .pointer (some ⟨b, 0, none⟩) ∧ bs < b ∧ RowV wx b 205 3 (errs3 k1 k2 k3) ∧ Below w1.heap.size w1 wx)
  case first =>
    have x0 := R1.cell (i := 0) (by decide)
    have x1 := R1.cell (i := 1) (by decide)
    refine wp_region_plan 10 vPlan (by kernel_rfl) (by kernel_rfl) ?_
    intro w2 b2 e2
    clear e2
    have B2 := Lib.hid b2
    have Hlt := Lib.hid R1.lt
    have y0 := R1.below b2 |>.cell (i := 0) (by decide)
    have y1 := R1.below b2 |>.cell (i := 1) (by decide)
    have z0 := fun d os => cell_regrown y0 d os
    have z1 := fun d os => cell_regrown y1 d os
    clear b2 x0 x1 y0 y1
    unfold vPlan
    refine plan_floats [0, 2, 3, 5, 6] [_, _, _, _, _] rfl ?_
    dsimp only [List.getElem_toArray, List.getElem_cons_succ, List.getElem_cons_zero]
    repeat (go_big_quiet_step (fail))
    refine wpQuiet_nil ?_
    refine plan_two 1 9 rfl rfl (fun K hK => ?_) (fun K hK => ?_)
    · skip
      go_wp2_with fail
      refine (H1.out _).mono ?_
      rintro e w3 ⟨rfl, b3⟩
      go_wp2_with fail
      refine hK _ _ b3 ?_
      have B3 := Lib.hid (B2.out.trans (b3.mono B2.out.size))
      clear b3 hK K
      refine plan_two 4 9 rfl rfl (fun K hK => ?_) (fun K hK => ?_)
      · skip
        go_wp2_with fail
        refine (H2.out _).mono ?_
        rintro e w4 ⟨rfl, b4⟩
        go_wp2_with fail
        refine hK _ _ b4 ?_
        have B4 := Lib.hid (B3.out.trans (b4.mono B3.out.size))
        clear b4 hK K
        refine plan_two 7 9 rfl rfl (fun K hK => ?_) (fun K hK => ?_)
        · skip
          go_wp2_with fail
          refine (H3.out _).mono ?_
          rintro e w5 ⟨rfl, b5⟩
          go_wp2_with fail
          refine hK _ _ b5 ?_
          have B5 := Lib.hid (B4.out.trans (b5.mono B4.out.size))
          clear b5 hK K
          refine plan_floats [8] [_] rfl ?_
          dsimp only [List.getElem_toArray, List.getElem_cons_succ, List.getElem_cons_zero]
          repeat (go_big_quiet_step (fail))
          refine wpQuiet_nil ?_
          refine plan_one 9 rfl (fun K hK => ?_)
          go_wp2_with fail
          have R6 := Lib.hid (RowV.new w5 205 3 (errs3 0 0 0))
          have b6 : Below w5.heap.size w5 (w5.alloc (.cells (rowF 3 (errs3 0 0 0)) 205)) := (Below.refl _ _).alloc (Nat.le_refl _) _
          refine hK _ (w5.alloc (.cells (rowF 3 (errs3 0 0 0)) 205)) b6 ?_
          have B6 := Lib.hid (B5.out.trans (b6.mono B5.out.size))
          have l6 := Lib.hid (Nat.lt_of_lt_of_le Hlt.out B5.out.size)
          have g6 := Lib.hid B5.out.size
          obtain ⟨w6, hw6⟩ : ∃ x, w5.alloc (.cells (rowF 3 (errs3 0 0 0)) 205) = x := ⟨_, rfl⟩
          obtain ⟨p6, hp6⟩ : ∃ x, w5.heap.size = x := ⟨_, rfl⟩
          rw [hw6, hp6] at R6
          rw [hw6] at B6 ⊢
          rw [hp6] at l6 g6 ⊢
          clear hw6 hp6 b6 hK K
          refine plan_done (l := [_]) rfl (fun K hK => ?_)
          go_wp2_with (refine wpList_store_rowV (o := ⟨none, .store 205 (.tmp 7) (.tmp 22), _, _, _, _⟩) rfl 205 (.tmp 7) (.tmp 22) rfl p6 rfl 3 205 _ (errs3 k1 k2 k3) rfl R6.out (by kernel_rfl) errs3_one ?_; intro wz Rz Oz)
          go_meet
          exact ⟨p6, rfl, l6.out, Rz.out, B6.out.trans (Oz.out.below g6.out B6.out.size)⟩
        · skip
          go_wp2_with fail
          have R7 := Lib.hid (RowV.new w4 205 3 (errs3 0 0 0))
          have b7 : Below w4.heap.size w4 (w4.alloc (.cells (rowF 3 (errs3 0 0 0)) 205)) := (Below.refl _ _).alloc (Nat.le_refl _) _
          refine hK _ (w4.alloc (.cells (rowF 3 (errs3 0 0 0)) 205)) b7 ?_
          have B7 := Lib.hid (B4.out.trans (b7.mono B4.out.size))
          have l7 := Lib.hid (Nat.lt_of_lt_of_le Hlt.out B4.out.size)
          have g7 := Lib.hid B4.out.size
          obtain ⟨w7, hw7⟩ : ∃ x, w4.alloc (.cells (rowF 3 (errs3 0 0 0)) 205) = x := ⟨_, rfl⟩
          obtain ⟨p7, hp7⟩ : ∃ x, w4.heap.size = x := ⟨_, rfl⟩
          rw [hw7, hp7] at R7
          rw [hw7] at B7 ⊢
          rw [hp7] at l7 g7 ⊢
          clear hw7 hp7 b7 hK K
          refine plan_one 7 rfl (fun K hK => ?_)
          go_wp2_with fail
          refine (H3.out _).mono ?_
          rintro e w8 ⟨rfl, b8⟩
          go_wp2_with fail
          refine hK _ _ b8 ?_
          have B8 := Lib.hid (B7.out.trans (b8.mono B7.out.size))
          have R8 := Lib.hid (R7.out.below b8)
          clear b8 hK K
          refine plan_floats [8] [_] rfl ?_
          dsimp only [List.getElem_toArray, List.getElem_cons_succ, List.getElem_cons_zero]
          repeat (go_big_quiet_step (fail))
          refine wpQuiet_nil ?_
          refine plan_done (l := [_]) rfl (fun K hK => ?_)
          go_wp2_with (refine wpList_store_rowV (o := ⟨none, .store 205 (.tmp 7) (.tmp 22), _, _, _, _⟩) rfl 205 (.tmp 7) (.tmp 22) rfl p7 rfl 3 205 _ (errs3 k1 k2 k3) rfl R8.out (by kernel_rfl) errs3_one ?_; intro wz Rz Oz)
          go_meet
          exact ⟨p7, rfl, l7.out, Rz.out, B8.out.trans (Oz.out.below g7.out B8.out.size)⟩
      · skip
        go_wp2_with fail
        have R9 := Lib.hid (RowV.new w3 205 3 (errs3 0 0 0))
        have b9 : Below w3.heap.size w3 (w3.alloc (.cells (rowF 3 (errs3 0 0 0)) 205)) := (Below.refl _ _).alloc (Nat.le_refl _) _
        refine hK _ (w3.alloc (.cells (rowF 3 (errs3 0 0 0)) 205)) b9 ?_
        have B9 := Lib.hid (B3.out.trans (b9.mono B3.out.size))
        have l9 := Lib.hid (Nat.lt_of_lt_of_le Hlt.out B3.out.size)
        have g9 := Lib.hid B3.out.size
        obtain ⟨w9, hw9⟩ : ∃ x, w3.alloc (.cells (rowF 3 (errs3 0 0 0)) 205) = x := ⟨_, rfl⟩
        obtain ⟨p9, hp9⟩ : ∃ x, w3.heap.size = x := ⟨_, rfl⟩
        rw [hw9, hp9] at R9
        rw [hw9] at B9 ⊢
        rw [hp9] at l9 g9 ⊢
        clear hw9 hp9 b9 hK K
        refine plan_one 4 rfl (fun K hK => ?_)
        go_wp2_with fail
        refine (H2.out _).mono ?_
        rintro e w10 ⟨rfl, b10⟩
        go_wp2_with fail
        refine hK _ _ b10 ?_
        have B10 := Lib.hid (B9.out.trans (b10.mono B9.out.size))
        have R10 := Lib.hid (R9.out.below b10)
        clear b10 hK K
        refine plan_one 7 rfl (fun K hK => ?_)
        go_wp2_with fail
        refine (H3.out _).mono ?_
        rintro e w11 ⟨rfl, b11⟩
        go_wp2_with fail
        refine hK _ _ b11 ?_
        have B11 := Lib.hid (B10.out.trans (b11.mono B10.out.size))
        have R11 := Lib.hid (R10.out.below b11)
        clear b11 hK K
        refine plan_floats [8] [_] rfl ?_
        dsimp only [List.getElem_toArray, List.getElem_cons_succ, List.getElem_cons_zero]
        repeat (go_big_quiet_step (fail))
        refine wpQuiet_nil ?_
        refine plan_done (l := [_]) rfl (fun K hK => ?_)
        go_wp2_with (refine wpList_store_rowV (o := ⟨none, .store 205 (.tmp 7) (.tmp 22), _, _, _, _⟩) rfl 205 (.tmp 7) (.tmp 22) rfl p9 rfl 3 205 _ (errs3 k1 k2 k3) rfl R11.out (by kernel_rfl) errs3_one ?_; intro wz Rz Oz)
        go_meet
        exact ⟨p9, rfl, l9.out, Rz.out, B11.out.trans (Oz.out.below g9.out B11.out.size)⟩
    · skip
      go_wp2_with fail
      have R12 := Lib.hid (RowV.new w2 205 3 (errs3 0 0 0))
      have b12 : Below w2.heap.size w2 (w2.alloc (.cells (rowF 3 (errs3 0 0 0)) 205)) := (Below.refl _ _).alloc (Nat.le_refl _) _
      refine hK _ (w2.alloc (.cells (rowF 3 (errs3 0 0 0)) 205)) b12 ?_
      have B12 := Lib.hid (B2.out.trans (b12.mono B2.out.size))
      have l12 := Lib.hid (Nat.lt_of_lt_of_le Hlt.out B2.out.size)
      have g12 := Lib.hid B2.out.size
      obtain ⟨w12, hw12⟩ : ∃ x, w2.alloc (.cells (rowF 3 (errs3 0 0 0)) 205) = x := ⟨_, rfl⟩
      obtain ⟨p12, hp12⟩ : ∃ x, w2.heap.size = x := ⟨_, rfl⟩
      rw [hw12, hp12] at R12
      rw [hw12] at B12 ⊢
      rw [hp12] at l12 g12 ⊢
      clear hw12 hp12 b12 hK K
      refine plan_one 1 rfl (fun K hK => ?_)
      go_wp2_with fail
      refine (H1.out _).mono ?_
      rintro e w13 ⟨rfl, b13⟩
      go_wp2_with fail
      refine hK _ _ b13 ?_
      have B13 := Lib.hid (B12.out.trans (b13.mono B12.out.size))
      have R13 := Lib.hid (R12.out.below b13)
      clear b13 hK K
      refine plan_one 4 rfl (fun K hK => ?_)
      go_wp2_with fail
      refine (H2.out _).mono ?_
      rintro e w14 ⟨rfl, b14⟩
      go_wp2_with fail
      refine hK _ _ b14 ?_
      have B14 := Lib.hid (B13.out.trans (b14.mono B13.out.size))
      have R14 := Lib.hid (R13.out.below b14)
      clear b14 hK K
      refine plan_one 7 rfl (fun K hK => ?_)
      go_wp2_with fail
      refine (H3.out _).mono ?_
      rintro e w15 ⟨rfl, b15⟩
      go_wp2_with fail
      refine hK _ _ b15 ?_
      have B15 := Lib.hid (B14.out.trans (b15.mono B14.out.size))
      have R15 := Lib.hid (R14.out.below b15)
      clear b15 hK K
      refine plan_floats [8] [_] rfl ?_
      dsimp only [List.getElem_toArray, List.getElem_cons_succ, List.getElem_cons_zero]
      repeat (go_big_quiet_step (fail))
      refine wpQuiet_nil ?_
      refine plan_done (l := [_]) rfl (fun K hK => ?_)
      go_wp2_with (refine wpList_store_rowV (o := ⟨none, .store 205 (.tmp 7) (.tmp 22), _, _, _, _⟩) rfl 205 (.tmp 7) (.tmp 22) rfl p12 rfl 3 205 _ (errs3 k1 k2 k3) rfl R15.out (by kernel_rfl) errs3_one ?_; intro wz Rz Oz)
      go_meet
      exact ⟨p12, rfl, l12.out, Rz.out, B15.out.trans (Oz.out.below g12.out B15.out.size)⟩
  case rest =>
    obtain ⟨b, rfl, hb, Rb, Bx⟩ := hcut
    have RB := Lib.hid Rb
    have BX := Lib.hid (show Below w.heap.size w wc by rw [Hbs.out]; exact B1.out.trans (Bx.mono (by rw [← Hbs.out]; exact B1.out.size)))
    have RS := Lib.hid (RowV.below R1 Bx)
    clear Rb Bx hb R1 B1 H1 H2 H3
    by_cases hz : k1 = 0 ∧ k2 = 0 ∧ k3 = 0
    · have e0 := Hok.out hz
      obtain ⟨rfl, rfl, rfl⟩ := hz
      have hne : ∀ W, (binOp .neq 205 (.agg (rowF 3 (errs3 0 0 0))) (.agg #[.int .i64 0, .int .i64 0, .int .i64 0])).run Tryz.prog W = .ok (.bool false) W := neq3_zero
      have hgu : ∀ x y W, (eqGuard .neq 205 x y (.agg (rowF 3 (errs3 0 0 0))) (.agg #[.int .i64 0, .int .i64 0, .int .i64 0])).run Tryz.prog W = .ok () W := fun x y W => guard3 x y 0 0 0 W
      obtain ⟨V3, hV3⟩ : ∃ x, rowF 3 (errs3 0 0 0) = x := ⟨_, rfl⟩
      rw [hV3] at hne hgu
      have G1 := fun W => gbase_any s W
      have G2 := fun W => gexp_any p ((chal p r m : Nat) : Int) W
      have G3 := fun W => gmul_any r (gexpV p ((chal p r m : Nat) : Int)) W
      obtain ⟨v1, hv1⟩ : ∃ x, gexpV 4 s = x := ⟨_, rfl⟩
      obtain ⟨v2, hv2⟩ : ∃ x, gexpV p ((chal p r m : Nat) : Int) = x := ⟨_, rfl⟩
      obtain ⟨v3, hv3⟩ : ∃ x, gmulV r v2 = x := ⟨_, rfl⟩
      rw [hv1] at G1
      rw [hv2] at G2 G3
      rw [hv3] at G3
      rw [hv1, hv2, hv3] at e0
      obtain ⟨ck, hck⟩ : ∃ x, chal p r m = x := ⟨_, rfl⟩
      rw [hck] at G2
      have Hck := Lib.hid hck
      obtain ⟨f1, hf1⟩ : ∃ x, gexpE 4 s = x := ⟨_, rfl⟩
      obtain ⟨f2, hf2⟩ : ∃ x, gexpE p (ck : Int) = x := ⟨_, rfl⟩
      obtain ⟨f3, hf3⟩ : ∃ x, gmulE r v2 = x := ⟨_, rfl⟩
      rw [hf1] at G1
      rw [hf2] at G2
      rw [hf3] at G3
      have J1 := Lib.hid G1; have J2 := Lib.hid G2; have J3 := Lib.hid G3
      have x1 := RS.out.cell (i := 1) (by decide)
      clear Hno Hok Q1 Q2 Q3 hv1 hv2 hv3 hck hf1 hf2 hf3 G1 G2 G3
      subst e0
      go_wp2_with ((with_reducible (show wpList _ _ _ (Oper.mk (some 23) _ _ _ _ _ :: _) _ _)); refine wpList_load_rowV rfl 205 (.tmp 7) rfl b rfl 3 205 _ RB.out _ Tryz.underlying205 rfl (by kernel_rfl) ?_; rw [hV3])
      refine (J1.out _).mono ?_
      rintro e y1 ⟨rfl, c1⟩
      have BX1 := Lib.hid (BX.out.trans (c1.mono BX.out.size))
      have RS1 := Lib.hid (RS.out.below c1)
      have x0 := RS1.out.cell (i := 0) (by decide)
      clear c1 x1
      go_wp2_with fail
      have al := (Below.refl _ y1).alloc (Nat.le_refl _) (.cells #[.int .i64 r, .int .i64 p] 3)
      have BX2 := BX1.out.trans (al.mono BX1.out.size)
      refine (hash_any sSign _ m y1.heap.size 2 [r, p] _ (by decide) Hm.out (Hv.out.below BX2) (HT.out.below BX2) (row_two y1 r p) (by simp)).mono ?_
      rintro e y2 ⟨rfl, c2⟩
      have BX3 := Lib.hid (BX2.trans (c2.mono BX2.size))
      have RS2 := Lib.hid ((RS1.out.alloc (.cells #[.int .i64 r, .int .i64 p] 3)).below c2)
      rw [show hashM sSign.data.toList m [r, p] = ck from Hck.out]
      clear al BX2 c2 x0
      go_wp2_with fail
      refine (J2.out _).mono ?_
      rintro e y3 ⟨rfl, c3⟩
      have BX4 := Lib.hid (BX3.out.trans (c3.mono BX3.out.size))
      have RS3 := Lib.hid (RS2.out.below c3)
      have x0 := RS3.out.cell (i := 0) (by decide)
      clear c3
      go_wp2_with fail
      refine (J3.out _).mono ?_
      rintro e y4 ⟨rfl, c4⟩
      have BX5 := Lib.hid (BX4.out.trans (c4.mono BX4.out.size))
      clear c4
      go_wp2_with fail
      go_ret
      exact ⟨rfl, BX5.out⟩
    · have e0 := Hno.out hz
      have hne : ∀ W, (binOp .neq 205 (.agg (rowF 3 (errs3 k1 k2 k3))) (.agg #[.int .i64 0, .int .i64 0, .int .i64 0])).run Tryz.prog W = .ok (.bool true) W := neq3_some k1 k2 k3 Q1.out Q2.out Q3.out hz
      have hgu : ∀ x y W, (eqGuard .neq 205 x y (.agg (rowF 3 (errs3 k1 k2 k3))) (.agg #[.int .i64 0, .int .i64 0, .int .i64 0])).run Tryz.prog W = .ok () W := fun x y W => guard3 x y k1 k2 k3 W
      obtain ⟨V3, hV3⟩ : ∃ x, rowF 3 (errs3 k1 k2 k3) = x := ⟨_, rfl⟩
      rw [hV3] at hne hgu
      clear hz Hno Hok Q1 Q2 Q3
      subst e0
      go_wp2_with ((with_reducible (show wpList _ _ _ (Oper.mk (some 23) _ _ _ _ _ :: _) _ _)); refine wpList_load_rowV rfl 205 (.tmp 7) rfl b rfl 3 205 _ RB.out _ Tryz.underlying205 rfl (by kernel_rfl) ?_; rw [hV3])
      go_ret
      exact ⟨rfl, BX.out⟩
end Go.Proofs.YtpekhdahamloaaaGreatDoor

namespace Go.Proofs.YtpekhdahamloaaaGreatDoor
open Go.RowKit
def sigF (r s : Int) : Nat → Value := fun i => if i = 0 then .int .i64 r else .int .i64 s
def nonceM (x : Int) (m : List UInt8) : Nat := hashM sNonce.data.toList m [x]
def sPlan : Plan := flAll [0, 1, 2, 3, 7] (.one 4 (.one 5 (.one 6 (.one 8 (flAll [9, 10, 11, 12] .done)))))
set_option maxRecDepth 100000 in
set_option maxHeartbeats 4000000 in
theorem sign_no (x : Int) (v : Value) (w : World) (hx : privB x = false) (hv : ∃ a l c, v = .slice a l c) :
    Calls Tryz.prog 51 #[.int .i64 x, v] w fun e w' => e = .returned (.tuple #[.agg #[.int .i64 0, .int .i64 0], .int .i64 50]) ∧ Below w.heap.size w w' := by
  have C1 := fun W => valid_any x W
  rw [hx] at C1
  have H1 := Lib.hid C1
  clear C1 hx
  have R0 := Lib.hid (RowV.new w 42 2 (sigF 0 0))
  go_enter Tryz.func51, Tryz.ntmps51
  go_wp2_with fail
  refine (H1.out _).mono ?_
  rintro e w1 ⟨rfl, rfl⟩
  go_wp2_with fail
  refine bodyPost_ret (v := .tuple #[.agg #[.int .i64 0, .int .i64 0], .int .i64 50]) (by exact results_rowV2 (fn := Tryz.f51) (p := 4) (u := 5) (ty := 42) rfl _ _ w.heap.size 2 42 (sigF 0 0) _ rfl R0.out Tryz.underlying42 rfl (by kernel_rfl)) rfl ⟨rfl, ?_⟩
  exact (Below.refl _ w).alloc (Nat.le_refl _) _
end Go.Proofs.YtpekhdahamloaaaGreatDoor

namespace Go.Proofs.YtpekhdahamloaaaGreatDoor
open Go.RowKit
theorem priv_nat {x : Int} (h : privB x = true) : ∃ n : Nat, x = (n : Int) ∧ 1 ≤ n ∧ n < 2305843009213688669 := by
  unfold privB at h
  simp only [Bool.and_eq_true, decide_eq_true_eq] at h
  exact ⟨x.toNat, by omega, by omega, by omega⟩
def pubM (x : Nat) : Nat := powP 4 x
def sigR (x : Nat) (m : List UInt8) : Nat := powP 4 (nonceM x m)
def sigS (x : Nat) (m : List UInt8) : Nat := addQ (nonceM x m) (mulQ (chal (pubM x) (sigR x m) m) x)
theorem gexp4 {k : Nat} (hk : k < 2305843009213688669) : gexpV 4 (k : Int) = ((powP 4 k : Nat) : Int) := by
  unfold gexpV; rw [el4, scalB_of hk]; rfl
set_option maxRecDepth 100000 in
set_option maxHeartbeats 4000000 in
theorem sign_yes (x : Nat) (hx1 : 1 ≤ x) (hx2 : x < 2305843009213688669) (v : Value) (m : List UInt8) (w : World) (hm : m.length ≤ 1000) (hv : BytesAt w v m) (hT : Tab w) :
    Calls Tryz.prog 51 #[.int .i64 (x : Int), v] w fun e w' => e = .returned (.tuple #[.agg (rowF 2 (sigF (sigR x m) (sigS x m))), .int .i64 0]) ∧ Below w.heap.size w w' := by
  have hp : privB (x : Int) = true := by unfold privB; simp only [Bool.and_eq_true, decide_eq_true_eq]; omega
  have C1 := fun W => valid_any (x : Int) W
  rw [hp] at C1
  have nb : 1 ≤ nonceM (x : Int) m ∧ nonceM (x : Int) m < 2305843009213688669 := hashM_bd sNonce.data.toList m [(x : Int)]
  have C2 := fun W => gbase_any ((nonceM (x : Int) m : Nat) : Int) W
  have C3 := fun W => public_any (x : Int) W
  have C4 := fun W => fmul_yes (chal (pubM x) (sigR x m) m) x (chal_bd _ _ _).2 hx2 W
  have C5 := fun W => fadd_yes (nonceM (x : Int) m) (mulQ (chal (pubM x) (sigR x m) m) x) nb.2 (mulQ_lt _ _) W
  rw [gexp4 nb.2, gexpE4 (scalB_of nb.2)] at C2
  rw [gexp4 hx2] at C3
  obtain ⟨va, vc, rfl⟩ := hv.slice
  have Hv := Lib.hid hv
  have HT := Lib.hid hT
  have Hm := Lib.hid hm
  have H1 := Lib.hid C1
  have H2 := Lib.hid C2
  have H3 := Lib.hid C3
  have H4 := Lib.hid C4
  have H5 := Lib.hid C5
  have R0 := Lib.hid (RowV.new w 42 2 (sigF 0 0))
  have A0 := Lib.hid ((Below.refl _ w).alloc (Nat.le_refl _) (.cells (rowF 2 (sigF 0 0)) 42))
  clear C1 C2 C3 C4 C5 hv hT hm hp nb hx1 hx2
  go_enter Tryz.func51, Tryz.ntmps51
  go_wp2_with fail
  refine (H1.out _).mono ?_
  rintro e w0 ⟨rfl, rfl⟩
  go_upto_region 5 with fail
  obtain ⟨w1, hw1⟩ : ∃ y, w.alloc (.cells (rowF 2 (sigF 0 0)) 42) = y := ⟨_, rfl⟩
  have hw2 : w.alloc (.cells #[.int .i64 0, .int .i64 0] 42) = w1 := hw1
  rw [hw1] at R0 A0
  rw [hw2]
  clear hw1 hw2
  obtain ⟨bs, hbs⟩ : ∃ y, w.heap.size = y := ⟨_, rfl⟩
  have Hbs := Lib.hid hbs
  rw [hbs] at R0 ⊢
  clear hbs
  go_wp2_with fail
  have al := (Below.refl _ w1).alloc (Nat.le_refl _) (.cells #[.int .i64 (x : Int)] 3)
  have BA := A0.out.trans (al.mono A0.out.size)
  refine (hash_any sNonce _ m w1.heap.size 1 [(x : Int)] _ (by decide) Hm.out (Hv.out.below BA) (HT.out.below BA) (row_one w1 x) (by simp)).mono ?_
  rintro e w2 ⟨rfl, c2⟩
  have B2 := Lib.hid (BA.trans (c2.mono BA.size))
  have R2 := Lib.hid ((RowV.alloc R0.out (.cells #[.int .i64 (x : Int)] 3)).below c2)
  rw [show hashM sNonce.data.toList m [(x : Int)] = nonceM (x : Int) m from rfl]
  clear al BA c2 A0 R0
  go_wp2_with fail
  refine (H2.out _).mono ?_
  rintro e w3 ⟨rfl, c3⟩
  have B3 := Lib.hid (B2.out.trans (c3.mono B2.out.size))
  have R3 := Lib.hid (R2.out.below c3)
  have x0 := R3.out.cell (i := 0) (by decide)
  have f0 := R3.out.frozen 0
  clear c3 R2 B2
  go_upto_region 7 with fail
  obtain ⟨w4, hw4⟩ : ∃ y, w3.setCell ⟨bs, 0, none⟩ (.int .i64 ((powP 4 (nonceM (x : Int) m) : Nat) : Int)) = y := ⟨_, rfl⟩
  have R4 : RowV w4 bs 42 2 (sigF ((sigR x m : Nat) : Int) 0) := by
    rw [← hw4]
    exact R3.out.put (fun i _ => by unfold sigF sigR; by_cases h : i = 0 <;> simp [h])
  have B4 : Below w.heap.size w w4 := by
    rw [← hw4]
    exact B3.out.trans ((OnlyB.setCell (OnlyB.refl bs w3) (.inl rfl) _).below (by rw [Hbs.out]; exact Nat.le_refl _) B3.out.size)
  rw [hw4]
  clear hw4 R3 B3 x0 f0
  go_cut [10] (fun s10 wx => s10 = .int .i64 ((mulQ (chal (pubM x) (sigR x m) m) x : Nat) : Int) ∧ RowV wx bs 42 2 (sigF ((sigR x m : Nat) : Int) 0) ∧ Below w4.heap.size w4 wx)
  case first =>
    refine wp_region_plan 13 sPlan (by kernel_rfl) (by kernel_rfl) ?_
    intro w5 b5 e5
    clear e5
    have B5 := Lib.hid b5
    have R5 := Lib.hid (R4.below b5)
    have y0 : w5.cell? ⟨bs, 0, none⟩ = some (.int .i64 ((sigR x m : Nat) : Int)) := R5.out.cell (i := 0) (by decide)
    have z0 := fun d os => cell_regrown y0 d os
    clear b5 y0
    unfold sPlan
    refine plan_floats [0, 1, 2, 3, 7] [_, _, _, _, _] rfl ?_
    dsimp only [List.getElem_toArray, List.getElem_cons_succ, List.getElem_cons_zero]
    repeat (go_big_quiet_step (fail))
    refine wpQuiet_nil ?_
    refine plan_one 4 rfl (fun K hK => ?_)
    go_wp2_with fail
    refine (H3.out _).mono ?_
    rintro e w6 ⟨rfl, b6⟩
    go_wp2_with fail
    refine hK _ _ b6 ?_
    have B6 := Lib.hid (B5.out.trans (b6.mono B5.out.size))
    have R6 := Lib.hid (R5.out.below b6)
    clear b6 hK K z0 B5 R5
    refine plan_one 5 rfl (fun K hK => ?_)
    go_wp2_with fail
    have al := (Below.refl _ w6).alloc (Nat.le_refl _) (.cells #[.int .i64 ((sigR x m : Nat) : Int), .int .i64 ((powP 4 x : Nat) : Int)] 3)
    refine hK _ _ al ?_
    have B7 := Lib.hid (B6.out.trans (al.mono B6.out.size))
    have R7 := Lib.hid (R6.out.below al)
    clear al hK K
    refine plan_one 6 rfl (fun K hK => ?_)
    go_wp2_with fail
    have BW := B4.trans (B7.out.mono B4.size)
    refine (hash_any sSign _ m w6.heap.size 2 [((sigR x m : Nat) : Int), ((powP 4 x : Nat) : Int)] _ (by decide) Hm.out (Hv.out.below BW) (HT.out.below BW) (row_two w6 _ _) (by simp)).mono ?_
    rintro e w8 ⟨rfl, b8⟩
    rw [show hashM sSign.data.toList m [((sigR x m : Nat) : Int), ((powP 4 x : Nat) : Int)] = chal (pubM x) (sigR x m) m from rfl]
    go_wp2_with fail
    refine hK _ _ b8 ?_
    have B8 := Lib.hid (B7.out.trans (b8.mono B7.out.size))
    have R8 := Lib.hid (R7.out.below b8)
    clear b8 hK K BW R7 B7 R6 B6
    refine plan_one 8 rfl (fun K hK => ?_)
    go_wp2_with fail
    refine (H4.out _).mono ?_
    rintro e w9 ⟨rfl, b9⟩
    go_wp2_with fail
    refine hK _ _ b9 ?_
    have B9 := Lib.hid (B8.out.trans (b9.mono B8.out.size))
    have R9 := Lib.hid (R8.out.below b9)
    clear b9 hK K R8 B8
    refine plan_floats [9, 10, 11, 12] [_, _, _, _] rfl ?_
    dsimp only [List.getElem_toArray, List.getElem_cons_succ, List.getElem_cons_zero]
    repeat (go_big_quiet_step (fail))
    refine wpQuiet_nil ?_
    refine plan_done (l := [_]) rfl (fun K hK => ?_)
    go_wp2_with fail
    go_meet
    exact ⟨rfl, R9.out, B9.out⟩
  case rest =>
    obtain ⟨rfl, Rc, Bc⟩ := hcut
    have BC := Lib.hid (B4.trans (Bc.mono B4.size))
    have RC := Lib.hid Rc
    have x1 := RC.out.cell (i := 1) (by decide)
    clear Rc Bc R4 B4 H1 H2 H3 H4 x1
    go_wp2_with fail
    refine (H5.out _).mono ?_
    rintro e w6 ⟨rfl, b6⟩
    have B6 := Lib.hid (BC.out.trans (b6.mono BC.out.size))
    have R6 := Lib.hid (RC.out.below b6)
    have x1 := R6.out.cell (i := 1) (by decide)
    have f1 := R6.out.frozen 1
    clear b6 RC BC
    go_upto_region 9 with fail
    rw [show addQ (nonceM (x : Int) m) (mulQ (chal (pubM x) (sigR x m) m) x) = sigS x m from rfl]
    obtain ⟨w7, hw7⟩ : ∃ y, w6.setCell ⟨bs, 1, none⟩ (.int .i64 ((sigS x m : Nat) : Int)) = y := ⟨_, rfl⟩
    have R7 : Hid (RowV w7 bs 42 2 (sigF ((sigR x m : Nat) : Int) ((sigS x m : Nat) : Int))) := Lib.hid (by
      rw [← hw7]
      exact R6.out.put (fun i hi => by unfold sigF; have : i = 0 ∨ i = 1 := by omega
                                       rcases this with rfl | rfl <;> rfl))
    have B7 : Hid (Below w.heap.size w w7) := Lib.hid (by
      rw [← hw7]
      exact B6.out.trans ((OnlyB.setCell (OnlyB.refl bs w6) (.inl rfl) _).below (by rw [Hbs.out]; exact Nat.le_refl _) B6.out.size))
    rw [hw7]
    clear hw7 R6 B6 x1 f1
    go_wp2_with (first
      | ((with_reducible (show wpList _ _ _ (Oper.mk (some 50) _ _ _ _ _ :: _) _ _)); refine wpList_load_rowV rfl 42 (.tmp 4) rfl bs rfl 2 42 _ R7.out _ Tryz.underlying42 rfl (by kernel_rfl) ?_)
      | (refine wpList_store_rowV (o := ⟨none, .store 42 (.tmp 4) (.tmp 50), _, _, _, _⟩) rfl 42 (.tmp 4) (.tmp 50) rfl bs rfl 2 42 _ (sigF ((sigR x m : Nat) : Int) ((sigS x m : Nat) : Int)) rfl R7.out (by kernel_rfl) (fun j _ => by unfold sigF; split <;> rfl) ?_; intro w9 R9 O9))
    refine bodyPost_ret (v := .tuple #[.agg (rowF 2 (sigF ((sigR x m : Nat) : Int) ((sigS x m : Nat) : Int))), .int .i64 0]) (by exact results_rowV2 (fn := Tryz.f51) (p := 4) (u := 5) (ty := 42) rfl _ _ bs 2 42 _ _ rfl R9.out Tryz.underlying42 rfl (by kernel_rfl)) rfl ⟨rfl, ?_⟩
    exact B7.out.trans (O9.out.below (by rw [Hbs.out]; exact Nat.le_refl _) B7.out.size)
end Go.Proofs.YtpekhdahamloaaaGreatDoor

namespace Go.Proofs.YtpekhdahamloaaaGreatDoor
open Go.RowKit
end Go.Proofs.YtpekhdahamloaaaGreatDoor

namespace Go.Proofs.YtpekhdahamloaaaGreatDoor
open Go.RowKit
end Go.Proofs.YtpekhdahamloaaaGreatDoor

namespace Go.Proofs.YtpekhdahamloaaaGreatDoor
open Go.RowKit

theorem pow4_El (k : Nat) : El (powP 4 k) := powP_pos El4 k
theorem pow4_add (a b : Nat) : powP 4 (addQ a b) = mulP (powP 4 a) (powP 4 b) := by
  unfold addQ; rw [El.pow_mod El4, powP_add]
theorem pow_mulQ {a : Nat} (ha : El a) (j k : Nat) : powP a (mulQ j k) = powP (powP a k) j := by
  unfold mulQ; rw [El.pow_mod ha, powP_powP, Nat.mul_comm]
theorem sig_eq (x : Nat) (m : List UInt8) : powP 4 (sigS x m) = mulP (sigR x m) (powP (pubM x) (chal (pubM x) (sigR x m) m)) := by
  unfold sigS
  rw [pow4_add, pow_mulQ El4]
  rfl
theorem ver_sign (x : Nat) (m : List UInt8) : verB (pubM x) m (sigR x m) (sigS x m) = true := by
  have e1 : El (pubM x) := pow4_El x
  have e2 : El (sigR x m) := pow4_El _
  have sb : sigS x m < 2305843009213688669 := addQ_lt _ _
  unfold verB
  rw [elemB_El e1, elemB_El e2, scalB_of sb, gexp4 sb, gexpV_el e1 (chal_bd _ _ _).2, gmulV_el e2 (powP_pos e1 _), sig_eq]
  simp

/-- what Sign answers -/
def sgR (x : Int) (m : List UInt8) : Int := if privB x then ((sigR x.toNat m : Nat) : Int) else 0
def sgS (x : Int) (m : List UInt8) : Int := if privB x then ((sigS x.toNat m : Nat) : Int) else 0
theorem sign_any (x : Int) (v : Value) (m : List UInt8) (w : World) (hm : m.length ≤ 1000) (hv : BytesAt w v m) (hT : Tab w) :
    Calls Tryz.prog 51 #[.int .i64 x, v] w fun e w' => e = .returned (.tuple #[.agg #[.int .i64 (sgR x m), .int .i64 (sgS x m)], .int .i64 (pubE x)]) ∧ Below w.heap.size w w' := by
  unfold sgR sgS pubE
  cases h : privB x with
  | false => exact sign_no x v w h (by obtain ⟨a, c, e⟩ := hv.slice; exact ⟨a, _, c, e⟩)
  | true =>
    obtain ⟨n, rfl, h1, h2⟩ := priv_nat h
    exact sign_yes n h1 h2 v m w hm hv hT
/-- at a private key -/
theorem priv_of {x : Nat} (h1 : 1 ≤ x) (h2 : x < 2305843009213688669) : privB (x : Int) = true := by unfold privB; simp only [Bool.and_eq_true, decide_eq_true_eq]; omega
theorem public_key (x : Nat) (h1 : 1 ≤ x) (h2 : x < 2305843009213688669) (w : World) :
    Calls Tryz.prog 28 #[.int .i64 (x : Int)] w fun e w' => e = .returned (.tuple #[.int .i64 ((pubM x : Nat) : Int), .int .i64 0]) ∧ Below w.heap.size w w' := by
  have h := spublic_any (x : Int) w
  rwa [show pubV (x : Int) = ((pubM x : Nat) : Int) by unfold pubV pubM; rw [priv_of h1 h2, if_pos rfl, gexp4 h2], show pubE (x : Int) = 0 by unfold pubE; rw [priv_of h1 h2]; rfl] at h
end Go.Proofs.YtpekhdahamloaaaGreatDoor
