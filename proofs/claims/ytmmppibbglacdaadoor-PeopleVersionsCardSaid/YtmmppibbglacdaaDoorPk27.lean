/- Eight bytes of a number, as package sign, its reference and its laws write them; the hash of numbers and a message. Package sign and its reference: keys and challenges. Package sign and its reference: challenges. -/
import Derived.Test.YtmmppibbglacdaaDoorPk24
import Derived.Test.YtmmppibbglacdaaDoorPk26
import Derived.Test.YtmmppibbglacdaaDoorPk25
import Derived.Test.YtmmppibbglacdaaDoorPk17
import Derived.Test.YtmmppibbglacdaaDoorPk19
set_option linter.unusedVariables false
set_option linter.unusedSimpArgs false
namespace Go.Proofs.YtmmppibbglacdaaDoor
open Go.RowKit

def u64 (z : Int) : Nat := (z % 18446744073709551616).toNat
theorem u64_lt (z : Int) : u64 z < 18446744073709551616 := by unfold u64; omega
theorem u64_of_nat {n : Nat} (h : n < 18446744073709551616) : u64 (n : Int) = n := by unfold u64; omega
theorem u64_wrap (z : Int) : IntKind.u64.wrap z = ((u64 z : Nat) : Int) := by rw [IntKind.wrap_u64]; unfold u64; omega
/-- the eight bytes -/
def num8 (z : Int) : List UInt8 := Sha.be8 (u64 z)
theorem num8_len (z : Int) : (num8 z).length = 8 := rfl
theorem num8_take (z : Int) : (num8 z).take 8 = num8 z := by rw [List.take_of_length_le (by rw [num8_len]; exact Nat.le_refl _)]



/-- the numbers' bytes, one behind the other -/
def nums8 (zs : List Int) : List UInt8 := (zs.map num8).flatten
theorem nums8_step (zs : List Int) {k : Nat} (h : k < zs.length) : nums8 (zs.take (k + 1)) = nums8 (zs.take k) ++ num8 (zs.getD k 0) := by
  unfold nums8
  rw [List.take_succ_eq_append_getElem h, List.map_append, List.flatten_append, List.getD_eq_getElem?_getD, List.getElem?_eq_getElem h]; simp
theorem nums8_len : ∀ zs : List Int, (nums8 zs).length = 8 * zs.length
  | [] => rfl
  | z :: zs => by
    have : nums8 (z :: zs) = num8 z ++ nums8 zs := by simp [nums8]
    rw [this, List.length_append, nums8_len zs, num8_len]; simp; omega
/-- the hash of numbers and a message under a tag -/
def hashM (t : List UInt8) (m : List UInt8) (zs : List Int) : Nat := scalarM t (nums8 zs ++ m)
theorem hashM_bd (t m : List UInt8) (zs : List Int) : 1 ≤ hashM t m zs ∧ hashM t m zs < 2305843009213688669 := scalarM_bd _ _

set_option maxRecDepth 100000 in
set_option maxHeartbeats 4000000 in
theorem hash_any (s : ByteArray) (v : Value) (m : List UInt8) (b cp : Nat) (zs : List Int) (w : World) (hs : s.size ≤ 1000) (hm : m.length ≤ 1000) (hv : BytesAt w v m) (hT : Tab w)
    (hz : RowV w b 3 zs.length (fun i => .int .i64 (zs.getD i 0))) (hn : zs.length ≤ 2) :
    Calls Tryd.prog 33 #[.string s, v, .slice (some ⟨b, 0, none⟩) zs.length cp] w fun e w' => e = .returned (.int .i64 ((hashM s.data.toList m zs : Nat) : Int)) ∧ Below w.heap.size w w' := by
  obtain ⟨va, vc, rfl⟩ := hv.slice
  have Hv := Lib.hid hv
  have HT := Lib.hid hT
  have Hz := Lib.hid hz
  have Hm := Lib.hid hm
  have Hn := Lib.hid hn
  have Hs := Lib.hid hs
  have P0 : Hid (Owns w w.heap.size (.slice none 0 0) (nums8 (zs.take 0))) := Lib.hid (Owns.nil w _)
  have B0 := Lib.hid (Below.refl w.heap.size w)
  obtain ⟨L, hL⟩ : ∃ L, zs.length = L := ⟨_, rfl⟩
  have HL := Lib.hid hL
  rw [hL] at hn ⊢
  clear hv hT hz hm hL hs
  go_enter Tryd.func33, Tryd.ntmps33
  go_wp2_with fail
  go_loopg [7, 13] L (fun g s7 s13 wx => ∃ (k : Nat) (u : Value), k + g = L ∧ s13 = .int .i64 (k : Int) ∧ s7 = u ∧ Hid (Owns wx w.heap.size u (nums8 (zs.take k))) ∧ Hid (Below w.heap.size w wx))
  case atStart => exact ⟨0, _, by omega, rfl, rfl, P0, B0⟩
  case round =>
    clear P0 B0
    obtain ⟨k, u, hk, rfl, e2, hO, hB⟩ := hrel
    obtain rfl : u = _ := e2.symm
    obtain ⟨G, hG⟩ : ∃ G, gk = G := ⟨_, rfl⟩
    by_cases hkL : k < L
    · have d0 : decide ((k : Int) < (L : Int)) = true := by rw [decide_eq_true_iff]; omega
      have z1 : (0 : Int) ≤ (k : Int) := Int.natCast_nonneg k
      have z2 : (k : Int) < (L : Int) := by omega
      have p0 : 0 ≤ (k : Int) ∧ (k : Int) < (L : Int) := by omega
      have z3 : ((k : Int)).toNat = k := Int.toNat_natCast k
      have c1 := (Hz.out.below hB.out).cell (i := k) (by rw [HL.out]; exact hkL)
      have hstep := nums8_step zs (k := k) (by rw [HL.out]; exact hkL)
      have hlen0 : (nums8 (zs.take k)).length ≤ 16 := by rw [nums8_len, List.length_take]; have := Hn.out; omega
      obtain ⟨z, hz⟩ : ∃ z, zs.getD k 0 = z := ⟨_, rfl⟩
      rw [hz] at c1 hstep
      obtain ⟨l0, hl0⟩ : ∃ l, nums8 (zs.take k) = l := ⟨_, rfl⟩
      rw [hl0] at hO hstep hlen0
      have hw := u64_wrap z
      have hlt := u64_lt z
      unfold num8 at hstep
      obtain ⟨n, hn⟩ : ∃ n, u64 z = n := ⟨_, rfl⟩
      rw [hn] at hw hlt hstep
      have Hlt := Lib.hid hlt
      have Hstep := Lib.hid hstep
      have Hlen0 := Lib.hid hlen0
      have P1 : Hid (Owns wr w.heap.size u (l0 ++ (Sha.be8 n).take 0)) := Lib.hid (by rw [List.take_zero, List.append_nil]; exact hO.out)
      clear hn hlt hstep hlen0 hl0 hz
      go_wp2_with fail
      clear c1
      go_loopg [7, 10] 8 (fun g s7 s10 wx => ∃ (j : Nat) (u : Value), j + g = 8 ∧ s10 = .int .i64 (56 - 8 * (j : Int)) ∧ s7 = u ∧ Hid (Owns wx w.heap.size u (l0 ++ (Sha.be8 n).take j)) ∧ Hid (Below w.heap.size w wx))
      case atStart => exact ⟨0, u, by omega, rfl, rfl, P1, hB⟩
      case round =>
        clear P1 hB hO
        obtain ⟨j, u, hj, rfl, e3, hO, hB⟩ := hrel
        obtain rfl : u = _ := e3.symm
        by_cases hj8 : j < 8
        · have d1 : decide (8 * (j : Int) ≤ 56) = true := by rw [decide_eq_true_iff]; omega
          have d2 : decide (0 ≤ 56 - 8 * (j : Int)) = true := by rw [decide_eq_true_iff]; omega
          have y1 : (0 : Int) ≤ (j : Int) := Int.natCast_nonneg j
          have y2 : (j : Int) < 8 := by omega
          have y3 : (56 - 8 * (j : Int)).toNat = 8 * (7 - j) := by omega
          have y4 : (0 : Int) ≤ 56 - 8 * (j : Int) := by omega
          have hv := byte_is n (7 - j)
          have hs := be8_step n hj8
          obtain ⟨x, hx⟩ : ∃ x, byteOfN n (7 - j) = x := ⟨_, rfl⟩
          rw [hx] at hv hs
          have Hs := Lib.hid hs
          have L4 := Lib.hid (show (l0 ++ (Sha.be8 n).take j).length + [x].length ≤ 140737488351232 from by
            have := Hlen0.out
            rw [List.length_singleton, List.length_append, List.length_take]; omega)
          clear hs hx hj8
          go_wp2_with ((with_reducible (show wpList _ _ _ (Oper.mk (some 28) _ _ _ _ _ :: _) _ _)); refine wpList_append_bytes rfl (.tmp 21) (.tmp 27) rfl w.heap.size u (.slice (some ⟨wr.heap.size, 0, none⟩) 1 1) _ _ rfl rfl (Owns.alloc hO.out _) (one_byte wr x) L4.out (hB.out.alloc hB.out.size _).size ?_; intro v3 w3 O3 B3 _)
          go_roundg (gk - 1)
          case measure => omega
          case rel =>
            go_light
            refine ⟨j + 1, v3, by omega, by congr 1; omega, rfl, Lib.hid ?_, Lib.hid ((hB.out.alloc hB.out.size _).trans B3.out)⟩
            have h := O3.out
            rw [List.append_assoc, Hs.out] at h
            exact h
        · obtain rfl : j = 8 := by omega
          have d1 : decide (8 * ((8 : Nat) : Int) ≤ 56) = false := by decide
          have d2 : decide ((0 : Int) ≤ 56 - 8 * ((8 : Nat) : Int)) = false := by decide
          go_wp2_with fail
          go_roundg (G - 1)
          case measure => omega
          case rel =>
            go_light
            refine ⟨k + 1, u, by omega, rfl, rfl, Lib.hid ?_, hB⟩
            have h := hO.out
            rw [List.take_of_length_le (by simp [Sha.be8]), ← Hstep.out] at h
            exact h
    · obtain rfl : k = L := by omega
      have d0 : decide ((k : Int) < (k : Int)) = false := by simp
      have hO' : Hid (Owns wr w.heap.size u (nums8 zs)) := Lib.hid (by have h := hO.out; rw [List.take_of_length_le (by rw [HL.out]; exact Nat.le_refl _)] at h; exact h)
      have hlen0 : (nums8 zs).length ≤ 16 := by rw [nums8_len, HL.out]; omega
      have L5 := Lib.hid (show (nums8 zs).length + m.length ≤ 140737488351232 from by have := Hm.out; omega)
      have Hlen0 := Lib.hid hlen0
      clear hO hlen0 hkL
      go_wp2_with ((with_reducible (show wpList _ _ _ (Oper.mk (some 33) _ _ _ _ _ :: _) _ _)); refine wpList_append_bytes rfl (.tmp 31) (.tmp 32) rfl w.heap.size u (.slice va m.length vc) _ _ rfl rfl hO'.out (Hv.out.below hB.out) L5.out hB.out.size ?_; intro v3 w3 O3 B3 _)
      have B4 := hB.out.trans B3.out
      have hl4 : (nums8 zs ++ m).length ≤ 1016 := by rw [List.length_append]; have := Hm.out; have := Hlen0.out; omega
      refine (scalar_any s v3 (nums8 zs ++ m) w3 (by have := Hs.out; omega) (by omega) (O3.out.bytesAt (by omega)) (HT.out.below B4)).mono ?_
      rintro e w4 ⟨rfl, b4⟩
      have B5 := Lib.hid (B4.trans (b4.mono B4.size))
      clear b4 B4 hl4
      go_wp2_with fail
      go_ret
      exact ⟨rfl, B5.out⟩
end Go.Proofs.YtmmppibbglacdaaDoor

namespace Go.Proofs.YtmmppibbglacdaaDoor
open Go.RowKit

abbrev sSign : ByteArray := ⟨#[115, 105, 103, 110]⟩
abbrev sNonce : ByteArray := ⟨#[110, 111, 110, 99, 101]⟩
def privB (x : Int) : Bool := decide (1 ≤ x) && decide (x < 2305843009213688669)
def chal (p r : Int) (m : List UInt8) : Nat := hashM sSign.data.toList m [r, p]
theorem chal_bd (p r : Int) (m : List UInt8) : 1 ≤ chal p r m ∧ chal p r m < 2305843009213688669 := hashM_bd _ _ _
theorem nums8_two (r p : Int) : num8 r ++ num8 p = nums8 [r, p] := by simp [nums8]
theorem nums8_one (r : Int) : num8 r = nums8 [r] := by simp [nums8]

theorem row_one (w : World) (a : Int) : RowV (w.alloc (.cells #[.int .i64 a] 3)) w.heap.size 3 [a].length (fun i => .int .i64 ([a].getD i 0)) := RowV.new w 3 1 (fun i => .int .i64 ([a].getD i 0))
theorem row_two (w : World) (a b : Int) : RowV (w.alloc (.cells #[.int .i64 a, .int .i64 b] 3)) w.heap.size 3 [a, b].length (fun i => .int .i64 ([a, b].getD i 0)) := RowV.new w 3 2 (fun i => .int .i64 ([a, b].getD i 0))

theorem valid_any (x : Int) (w : World) :
    Calls Tryd.prog 41 #[.int .i64 x] w fun e w' => e = .returned (.bool (privB x)) ∧ w = w' := by
  unfold privB
  cases h : decide (1 ≤ x) with
  | false =>
    go_enter Tryd.func41, Tryd.ntmps41
    go_wp2_with fail
    go_ret
    exact ⟨rfl, rfl⟩
  | true =>
    cases h2 : decide (x < 2305843009213688669) with
    | false =>
      go_enter Tryd.func41, Tryd.ntmps41
      go_wp2_with fail
      go_ret
      exact ⟨rfl, rfl⟩
    | true =>
      go_enter Tryd.func41, Tryd.ntmps41
      go_wp2_with fail
      go_ret
      exact ⟨rfl, rfl⟩
theorem public_any (x : Int) (w : World) :
    Calls Tryd.prog 42 #[.int .i64 x] w fun e w' => e = .returned (.int .i64 (gexpV 4 x)) ∧ Below w.heap.size w w' := by
  have h := Lib.hid (fun W => gbase_any x W)
  obtain ⟨p, hp⟩ : ∃ p, gexpV 4 x = p := ⟨_, rfl⟩
  rw [hp] at h ⊢
  go_enter Tryd.func42, Tryd.ntmps42
  go_wp2_with fail
  refine (h.out _).mono ?_
  rintro e w1 ⟨rfl, b1⟩
  go_wp2_with fail
  go_ret
  exact ⟨rfl, b1⟩
/-- what Public answers -/
def pubV (x : Int) : Int := if privB x then gexpV 4 x else 0
def pubE (x : Int) : Int := if privB x then 0 else 50
theorem priv_scal {x : Int} (h : privB x = true) : scalB x = true := by
  unfold privB at h; unfold scalB
  simp only [Bool.and_eq_true, decide_eq_true_eq] at h
  exact decide_eq_true ⟨by omega, h.2⟩
theorem spublic_any (x : Int) (w : World) :
    Calls Tryd.prog 17 #[.int .i64 x] w fun e w' => e = .returned (.tuple #[.int .i64 (pubV x), .int .i64 (pubE x)]) ∧ Below w.heap.size w w' := by
  have h := Lib.hid (fun W => valid_any x W)
  have h2 := Lib.hid (fun W => public_any x W)
  unfold pubV pubE
  cases hx : privB x with
  | false =>
    rw [hx] at h
    clear h2
    go_enter Tryd.func17, Tryd.ntmps17
    go_wp2_with fail
    refine (h.out _).mono ?_
    rintro e w1 ⟨rfl, rfl⟩
    go_wp2_with fail
    go_ret2
    exact ⟨rfl, Below.refl _ _⟩
  | true =>
    rw [hx] at h
    rw [if_pos rfl, if_pos rfl]
    obtain ⟨p, hp⟩ : ∃ p, gexpV 4 x = p := ⟨_, rfl⟩
    rw [hp] at h2 ⊢
    go_enter Tryd.func17, Tryd.ntmps17
    go_wp2_with fail
    refine (h.out _).mono ?_
    rintro e w1 ⟨rfl, rfl⟩
    go_wp2_with fail
    refine (h2.out _).mono ?_
    rintro e w1 ⟨rfl, b1⟩
    go_wp2_with fail
    go_ret2
    exact ⟨rfl, b1⟩
theorem gexpE4 {x : Int} (h : scalB x = true) : gexpE 4 x = 0 := by unfold gexpE; rw [el4, h]; rfl
end Go.Proofs.YtmmppibbglacdaaDoor

namespace Go.Proofs.YtmmppibbglacdaaDoor
open Go.RowKit



/-- the key that any number stands for -/
def keyM (z : Int) : Nat := 1 + ofQ z % 2305843009213688668
theorem keyM_bd (z : Int) : 1 ≤ keyM z ∧ keyM z < 2305843009213688669 := by unfold keyM; omega
theorem key_any (z : Int) (w : World) (hz : (Lit.int .i64 z).wf = true) :
    Calls Tryd.prog 16 #[.int .i64 z] w fun e w' => e = .returned (.int .i64 ((keyM z : Nat) : Int)) ∧ w = w' := by
  have h := fun W => of_any z W
  unfold keyM
  obtain ⟨n, hn⟩ : ∃ n, ofQ z = n := ⟨_, rfl⟩
  rw [hn] at h ⊢
  have H := Lib.hid h
  have z0 : (0 : Int) ≤ (n : Int) := Int.natCast_nonneg n
  have e1 : (n : Int).tmod 2305843009213688668 = ((n % 2305843009213688668 : Nat) : Int) := by rw [Int.tmod_eq_emod_of_nonneg z0, Int.natCast_emod]; rfl
  obtain ⟨q, hq⟩ : ∃ q, n % 2305843009213688668 = q := ⟨_, rfl⟩
  rw [hq] at e1 ⊢
  have hql : q < 2305843009213688668 := by omega
  have e2 : IntKind.i64.wrap (1 + (q : Int)) = 1 + (q : Int) := by rw [IntKind.wrap_i64]; omega
  have e3 : ((1 + q : Nat) : Int) = 1 + (q : Int) := by omega
  rw [e3]
  clear h hn hq hql e3
  go_enter Tryd.func16, Tryd.ntmps16
  go_wp2_with fail
  refine (H.out _).mono ?_
  rintro e w1 ⟨rfl, rfl⟩
  go_wp2_with fail
  go_ret
  exact ⟨rfl, rfl⟩
end Go.Proofs.YtmmppibbglacdaaDoor
