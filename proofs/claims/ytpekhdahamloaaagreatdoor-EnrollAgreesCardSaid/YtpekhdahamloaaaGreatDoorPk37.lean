/- A map literal with integer keys that the call makes, and a look-up in it. eight, of package pake and of its reference. The mask of a role, the password of a code; pake.roles. pake.roles: the map of both roles, and look-ups in it. Package pake: what its functions compute. -/
import Derived.WalkKit
import Derived.MapKept
import Derived.WideMake
import Derived.Test.YtpekhdahamloaaaGreatDoorPk21
import Derived.ArgAppend
import Derived.Test.YtpekhdahamloaaaGreatDoorPk31
import Derived.Test.YtpekhdahamloaaaGreatDoorPk18
import Derived.Test.YtpekhdahamloaaaGreatDoorPk16
set_option linter.unusedVariables false
set_option linter.unusedSimpArgs false
/-! A map literal with integer keys that the call makes, and a look-up in it. -/
namespace Go.Proofs.YtpekhdahamloaaaGreatDoor
open Go
open Go.RowKit (Below)
section
variable {P : Program} (w : World)
def setMap (w : World) (r : Nat) (es : Array MapEntry) (clock : Nat) : World := { w with heap := w.heap.setIfInBounds r (.map es clock) }
theorem setMap_at {w : World} {r : Nat} {o : Obj} (hb : w.heap[r]? = some o) (es : Array MapEntry) (clock : Nat) : (setMap w r es clock).heap[r]? = some (.map es clock) := (MapKept.heap_set hb).1
theorem setMap_below {w w0 : World} {base r : Nat} (h : Below base w0 w) (hr : base ≤ r) (es : Array MapEntry) (clock : Nat) : Below base w0 (setMap w r es clock) :=
  ⟨h.os, h.tape, h.output, by have := h.size; simpa [setMap] using this, fun k hk => by
    rw [← h.block k hk]; show (w.heap.setIfInBounds r _)[k]? = _
    rw [Array.getElem?_setIfInBounds_ne (by omega)]⟩

theorem run_insert_int (mty kt et : TypeId) (q : IntKind) (r clock : Nat) (k : Int) (es : Array MapEntry) (val : Value) (hm : P.underlying mty = some (.map kt et)) (hk : P.underlying kt = some (.int q)) (hb : w.heap[r]? = some (.map es clock))
    (hf : Instr.findNow (.int q) (.int q k) es.toList 0 = some none) :
    (Instr.mapUpdate mty (.map (some r)) (.int q k) val).run P w = .ok () (setMap w r (es.push { key := .int q k, val := val, born := clock }) (clock + 1)) := by
  have hc : (Instr.checkKey false 10000 kt (.int q k)).run P w = .ok () w := MapKept.run_checkKey (k := .int q k) hk (by simp [MapKept.IsKey]) false 9999
  simp [Instr.mapUpdate, run_underlying hm, MapKept.run_getObj_map hb, hc, MapKept.run_findKey hk hf, MapKept.run_setObj_map _ hb, Result.andThen, setMap]

theorem run_lookup_int (mty kt et : TypeId) (q : IntKind) (r clock : Nat) (k : Int) (es : Array MapEntry) (ok : Bool) (hm : P.underlying mty = some (.map kt et)) (hk : P.underlying kt = some (.int q)) (hb : w.heap[r]? = some (.map es clock))
    {v z : Value} {y : Bool} (hz : ∀ W, (zeroValue et).run P W = .ok z W)
    (hf : (Instr.findNow (.int q) (.int q k) es.toList 0 = some none ∧ v = z ∧ y = false) ∨ (∃ j, Instr.findNow (.int q) (.int q k) es.toList 0 = some (some (j, v))) ∧ y = true) :
    (Instr.lookup mty (.map (some r)) (.int q k) ok).run P w = .ok (if ok then .tuple #[v, .bool y] else v) w := by
  have hc : (Instr.checkKey es.isEmpty 10000 kt (.int q k)).run P w = .ok () w := MapKept.run_checkKey (k := .int q k) hk (by simp [MapKept.IsKey]) _ 9999
  rcases hf with ⟨h1, rfl, rfl⟩ | ⟨⟨j, h1⟩, rfl⟩
  · cases ok <;> simp [Instr.lookup, run_underlying hm, MapKept.run_getObj_map hb, hc, MapKept.run_findKey hk h1, hz, Result.andThen]
  · cases ok <;> simp [Instr.lookup, run_underlying hm, MapKept.run_getObj_map hb, hc, MapKept.run_findKey hk h1, Result.andThen]
end
end Go.Proofs.YtpekhdahamloaaaGreatDoor

/-! eight, of package pake and of its reference. -/
namespace Go.Proofs.YtpekhdahamloaaaGreatDoor
open Go.RowKit

theorem be8_len (n : Nat) : (Sha.be8 n).length = 8 := rfl
theorem be8_take (n : Nat) : (Sha.be8 n).take 8 = Sha.be8 n := by rw [List.take_of_length_le (by rw [be8_len]; exact Nat.le_refl _)]

set_option maxRecDepth 100000 in
set_option maxHeartbeats 2000000 in
theorem eight_any (n : Nat) (hn : n < 9223372036854775808) (w : World) :
    Calls Tryz.prog 58 #[.int .i64 (n : Int)] w fun e w' => (∃ u, e = .returned u ∧ Owns w' w.heap.size u (Sha.be8 n)) ∧ Below w.heap.size w w' := by
  have Hn := Lib.hid hn
  have P0 : Hid (Owns w w.heap.size (.slice none 0 0) ((Sha.be8 n).take 0)) := Lib.hid (Owns.nil w _)
  have B0 := Lib.hid (Below.refl w.heap.size w)
  clear hn
  go_enter Tryz.func58, Tryz.ntmps58
  go_wp2_with fail
  go_loopg [2, 4] 8 (fun g s2 s4 wx => ∃ (k : Nat) (u : Value), k + g = 8 ∧ s4 = .int .i64 (k : Int) ∧ s2 = u ∧ Hid (Owns wx w.heap.size u ((Sha.be8 n).take k)) ∧ Hid (Below w.heap.size w wx))
  case atStart => exact ⟨0, _, by omega, rfl, rfl, P0, B0⟩
  case round =>
    clear P0 B0
    obtain ⟨k, u, hk, rfl, e2, hO, hB⟩ := hrel
    obtain rfl : u = _ := e2.symm
    by_cases hk8 : k < 8
    · have d0 : decide ((k : Int) < 8) = true := by rw [decide_eq_true_iff]; omega
      have z1 : (0 : Int) ≤ (k : Int) := Int.natCast_nonneg k
      have z2 : (k : Int) < 8 := by omega
      have z4 : (0 : Int) ≤ 56 - 8 * (k : Int) := by omega
      have z3 : (56 - 8 * (k : Int)).toNat = 8 * (7 - k) := by omega
      have hv := byte_is n (7 - k)
      have hs := be8_step n hk8
      obtain ⟨x, hx⟩ : ∃ x, byteOfN n (7 - k) = x := ⟨_, rfl⟩
      rw [hx] at hv hs
      have Hs := Lib.hid hs
      have L4 := Lib.hid (show ((Sha.be8 n).take k).length + [x].length ≤ 140737488351232 from by
        rw [List.length_singleton, List.length_take]; omega)
      clear hs hx hk8
      go_wp2_with ((with_reducible (show wpList _ _ _ (Oper.mk (some 15) _ _ _ _ _ :: _) _ _)); refine wpList_append_bytes rfl (.tmp 7) (.tmp 14) rfl w.heap.size u (.slice (some ⟨wr.heap.size, 0, none⟩) 1 1) _ _ rfl rfl (Owns.alloc hO.out _) (one_byte wr x) L4.out (hB.out.alloc hB.out.size _).size ?_; intro v3 w3 O3 B3 _)
      go_roundg (gk - 1)
      case measure => omega
      case rel =>
        go_light
        refine ⟨k + 1, v3, by omega, rfl, rfl, Lib.hid ?_, Lib.hid ((hB.out.alloc hB.out.size _).trans B3.out)⟩
        have h := O3.out
        rw [Hs.out] at h
        exact h
    · obtain rfl : k = 8 := by omega
      have d0 : decide (((8 : Nat) : Int) < 8) = false := by decide
      go_wp2_with fail
      go_ret
      go_light
      refine ⟨⟨_, rfl, ?_⟩, hB.out⟩
      have h := hO.out
      rw [be8_take] at h
      exact h

set_option maxRecDepth 100000 in
set_option maxHeartbeats 2000000 in
theorem reight_any (n : Nat) (hn : n < 9223372036854775808) (w : World) :
    Calls Tryz.prog 116 #[.int .i64 (n : Int)] w fun e w' => (∃ u, e = .returned u ∧ Owns w' w.heap.size u (Sha.be8 n)) ∧ Below w.heap.size w w' := by
  have Hn := Lib.hid hn
  have P0 : Hid (Owns (w.alloc (.cells #[] 5)) w.heap.size (.slice (some ⟨w.heap.size, 0, none⟩) 0 0) ((Sha.be8 n).take 0)) := Lib.hid (Owns.empty w (Nat.le_refl _))
  have B0 : Hid (Below w.heap.size w (w.alloc (.cells #[] 5))) := Lib.hid ((Below.refl _ _).alloc (Nat.le_refl _) _)
  clear hn
  go_enter Tryz.func116, Tryz.ntmps116
  go_wp2_with fail
  go_loopg [3, 4] 8 (fun g s3 s4 wx => ∃ (j : Nat) (u : Value), j + g = 8 ∧ s4 = .int .i64 (7 - (j : Int)) ∧ s3 = u ∧ Hid (Owns wx w.heap.size u ((Sha.be8 n).take j)) ∧ Hid (Below w.heap.size w wx))
  case atStart => exact ⟨0, _, by omega, rfl, rfl, P0, B0⟩
  case round =>
    clear P0 B0
    obtain ⟨j, u, hj, rfl, e3, hO, hB⟩ := hrel
    obtain rfl : u = _ := e3.symm
    by_cases hj8 : j < 8
    · have d0 : decide ((j : Int) ≤ 7) = true := by rw [decide_eq_true_iff]; omega
      have z1 : (0 : Int) ≤ (j : Int) := Int.natCast_nonneg j
      have z2 : (j : Int) ≤ 7 := by omega
      have z4 : (0 : Int) ≤ 8 * (7 - (j : Int)) := by omega
      have z3 : (8 * (7 - (j : Int))).toNat = 8 * (7 - j) := by omega
      have hv := byte_is n (7 - j)
      have hs := be8_step n hj8
      obtain ⟨x, hx⟩ : ∃ x, byteOfN n (7 - j) = x := ⟨_, rfl⟩
      rw [hx] at hv hs
      have Hs := Lib.hid hs
      have L4 := Lib.hid (show ((Sha.be8 n).take j).length + [x].length ≤ 140737488351232 from by
        rw [List.length_singleton, List.length_take]; omega)
      clear hs hx hj8
      go_wp2_with ((with_reducible (show wpList _ _ _ (Oper.mk (some 17) _ _ _ _ _ :: _) _ _)); refine wpList_append_bytes rfl (.tmp 10) (.tmp 16) rfl w.heap.size u (.slice (some ⟨wr.heap.size, 0, none⟩) 1 1) _ _ rfl rfl (Owns.alloc hO.out _) (one_byte wr x) L4.out (hB.out.alloc hB.out.size _).size ?_; intro v3 w3 O3 B3 _)
      go_roundg (gk - 1)
      case measure => omega
      case rel =>
        go_light
        refine ⟨j + 1, v3, by omega, by congr 1; omega, rfl, Lib.hid ?_, Lib.hid ((hB.out.alloc hB.out.size _).trans B3.out)⟩
        have h := O3.out
        rw [Hs.out] at h
        exact h
    · obtain rfl : j = 8 := by omega
      have d0 : decide (((8 : Nat) : Int) ≤ 7) = false := by decide
      go_wp2_with fail
      go_ret
      go_light
      refine ⟨⟨_, rfl, ?_⟩, hB.out⟩
      have h := hO.out
      rw [be8_take] at h
      exact h
end Go.Proofs.YtpekhdahamloaaaGreatDoor

/-! The mask of a role, the password of a code; pake.roles. -/
namespace Go.Proofs.YtpekhdahamloaaaGreatDoor
open Go.RowKit

abbrev sCode : ByteArray := ⟨#[99, 111, 100, 101]⟩
abbrev sPake : ByteArray := ⟨#[112, 97, 107, 101]⟩
abbrev sProof : ByteArray := ⟨#[112, 114, 111, 111, 102]⟩
abbrev sHost : ByteArray := ⟨#[104, 111, 115, 116]⟩
abbrev sGuest : ByteArray := ⟨#[103, 117, 101, 115, 116]⟩
/-- the name of a role, as the reference has it -/
def nameR (r : Int) : ByteArray := if r = 1 then sHost else sGuest
def maskM (r : Int) : Nat := pointM sPake.data.toList (nameR r).data.toList
def passM (c : Nat) : Nat := scalarM sCode.data.toList (Sha.be8 c)
def maskedM (r : Int) (c : Nat) : Nat := powP (maskM r) (passM c)
theorem maskM_El (r : Int) : El (maskM r) := pointM_El _ _
theorem passM_bd (c : Nat) : 1 ≤ passM c ∧ passM c < 2305843009213688669 := scalarM_bd _ _
theorem maskedM_El (r : Int) (c : Nat) : El (maskedM r c) := powP_pos (maskM_El r) _
theorem nameR_size (r : Int) : (nameR r).size ≤ 5 := by unfold nameR; split <;> decide

set_option maxRecDepth 100000 in
set_option maxHeartbeats 2000000 in
theorem masked_any (r : Int) (fv : Value) (c : Nat) (hc : c < 9223372036854775808) (w : World) (hT : Tab w) :
    Calls Tryz.prog 55 #[.agg #[.string (nameR r), fv], .int .i64 (c : Int)] w fun e w' => e = .returned (.int .i64 ((maskedM r c : Nat) : Int)) ∧ Below w.heap.size w w' := by
  have C1 := Lib.hid (fun W => eight_any c hc W)
  have C2 : ∀ v W, BytesAt W v (Sha.be8 c) → Tab W → Calls Tryz.prog 99 #[.string sCode, v] W fun e w' => e = .returned (.int .i64 ((passM c : Nat) : Int)) ∧ Below W.heap.size W w' := fun v W hv hT => scalar_any sCode v _ W (by decide) (by rw [be8_len]; decide) hv hT
  have C3 : ∀ v W, BytesAt W v (nameR r).data.toList → Tab W → Calls Tryz.prog 100 #[.string sPake, v] W fun e w' => e = .returned (.int .i64 ((maskM r : Nat) : Int)) ∧ Below W.heap.size W w' := fun v W hv hT => point_any sPake v _ W (by decide) (by have := nameR_size r; simp; omega) hv hT
  have C4 : ∀ W, Calls Tryz.prog 57 #[.int .i64 ((maskM r : Nat) : Int), .int .i64 ((passM c : Nat) : Int)] W fun e w' => e = .returned (.tuple #[.int .i64 ((maskedM r c : Nat) : Int), .int .i64 0]) ∧ Below W.heap.size W w' := fun W => gexp_el (maskM_El r) (passM_bd c).2 rfl W
  have hns := nameR_size r
  obtain ⟨k1, hk1⟩ : ∃ k, maskM r = k := ⟨_, rfl⟩
  obtain ⟨k2, hk2⟩ : ∃ k, passM c = k := ⟨_, rfl⟩
  obtain ⟨k3, hk3⟩ : ∃ k, maskedM r c = k := ⟨_, rfl⟩
  obtain ⟨s, hs⟩ : ∃ s, nameR r = s := ⟨_, rfl⟩
  rw [hk2] at C2 C4
  rw [hk1] at C3 C4
  rw [hk3] at C4 ⊢
  rw [hs] at C3 hns ⊢
  have H2 := Lib.hid C2; have H3 := Lib.hid C3; have H4 := Lib.hid C4
  have hcv := fun W => convert_string W s
  have HT := Lib.hid hT
  have Hns := Lib.hid (show (s.size : Int) ≤ 140737488351232 by omega)
  clear C2 C3 C4 hk1 hk2 hk3 hs hT hns hc
  go_enter Tryz.func55, Tryz.ntmps55
  have B0 := Lib.hid (Below.refl w.heap.size w)
  go_upto_region 1 with fail
  obtain ⟨w1, hw1⟩ : ∃ y, w.alloc (.cells #[.string s, fv] 105) = y := ⟨_, rfl⟩
  have b1 : Below w.heap.size w w1 := by rw [← hw1]; exact (Below.refl _ _).alloc (Nat.le_refl _) _
  have R1 : Hid (RowV w1 w.heap.size 105 2 (fun i => if i = 0 then .string s else fv)) := Lib.hid (by rw [← hw1]; exact RowV.new w _ 2 (fun i => if i = 0 then .string s else fv))
  have z1 : w.heap.size + 1 = w1.heap.size := by rw [← hw1]; exact (Array.size_push _).symm
  rw [hw1]
  (try rw [z1])
  have B1 := Lib.hid (B0.out.trans (b1.mono B0.out.size))
  clear b1 hw1 z1 B0
  go_wp2_with fail
  refine (C1.out _).mono ?_
  rintro e w2 ⟨⟨u, rfl, o2⟩, b2⟩
  have O2 := Lib.hid o2
  have G2 := Lib.hid b2.size
  have S2 := Lib.hid B1.out.size
  have B2 := Lib.hid (B1.out.trans (b2.mono B1.out.size))
  have R2 := Lib.hid (R1.out.below b2)
  clear b2 o2 B1 R1
  go_wp2_with fail
  refine (H2.out _ _ (O2.out.bytesAt (by rw [be8_len]; omega)) (HT.out.below B2.out)).mono ?_
  rintro e w3 ⟨rfl, b3⟩
  have B3 := Lib.hid (B2.out.trans (b3.mono B2.out.size))
  have R3 := Lib.hid (R2.out.below b3)
  clear b3 B2 R2
  have x0 : w3.cell? ⟨w.heap.size, 0, none⟩ = some (.string s) := R3.out.cell (i := 0) (by decide)
  go_wp2_with fail
  obtain ⟨w4, hw4⟩ : ∃ y, Lib.bytesWorld w3 5 s = y := ⟨_, rfl⟩
  have b4 : Below w3.heap.size w3 w4 := by rw [← hw4]; exact below_bytesWorld w3 s
  have Y4 : Hid (BytesAt w4 (.slice (some ⟨w3.heap.size, 0, none⟩) s.size (grownCap w3 s.size 0 5)) s.data.toList) := Lib.hid (by rw [← hw4]; exact bytesAt_bytesWorld w3 s Hns.out)
  rw [hw4]
  have B4 := Lib.hid (B3.out.trans (b4.mono B3.out.size))
  have R4 := Lib.hid (R3.out.below b4)
  clear b4 hw4 B3 R3
  refine (H3.out _ _ Y4.out (HT.out.below B4.out)).mono ?_
  rintro e w5 ⟨rfl, b5⟩
  have B5 := Lib.hid (B4.out.trans (b5.mono B4.out.size))
  clear b5 x0
  go_wp2_with fail
  refine (H4.out _).mono ?_
  rintro e w6 ⟨rfl, b6⟩
  have B6 := Lib.hid (B5.out.trans (b6.mono B5.out.size))
  clear b6 B5
  go_wp2_with fail
  go_ret
  exact ⟨rfl, B6.out⟩

end Go.Proofs.YtpekhdahamloaaaGreatDoor

/-! pake.roles: the map of both roles, and look-ups in it. -/
namespace Go.Proofs.YtpekhdahamloaaaGreatDoor
open Go.RowKit

abbrev roleH : Value := .agg #[.string sHost, .func (.func 97) #[] #[]]
abbrev roleG : Value := .agg #[.string sGuest, .func (.func 98) #[] #[]]
def rolesEs : Array MapEntry := #[{ key := .int .i64 1, val := roleH, born := 0 }, { key := .int .i64 2, val := roleG, born := 1 }]
/-- the map of the roles lies in block r -/
def RolesAt (W : World) (r : Nat) : Prop := W.heap[r]? = some (.map rolesEs 2)
theorem RolesAt.lt {W : World} {r : Nat} (h : RolesAt W r) : r < W.heap.size := (Array.getElem?_eq_some_iff.1 h).1
theorem RolesAt.below {W W' : World} {r : Nat} (h : RolesAt W r) (hb : Below W.heap.size W W') : RolesAt W' r := (hb.block _ h.lt).trans h

set_option maxRecDepth 100000 in
set_option maxHeartbeats 2000000 in
theorem roles_any (w : World) :
    Calls Tryz.prog 53 #[] w fun e w' => (∃ r, e = .returned (.map (some r)) ∧ RolesAt w' r) ∧ Below w.heap.size w w' := by
  have hmm := fun W => run_makeMap_plain (w := W) (P := Tryz.prog) 100
  have hb0 : (w.alloc (.map #[] 0)).heap[w.heap.size]? = some (.map #[] 0) := by show (w.heap.push _)[_]? = _; simp
  have h1 := run_insert_int (P := Tryz.prog) (w.alloc (.map #[] 0)) 100 3 105 .i64 w.heap.size 0 1 #[] roleH Tryz.underlying100 Tryz.underlying3 hb0 rfl
  have hb1 := setMap_at hb0 (#[].push { key := .int .i64 1, val := roleH, born := 0 }) (0 + 1)
  have B0 : Below w.heap.size w (w.alloc (.map #[] 0)) := (Below.refl _ _).alloc (Nat.le_refl _) _
  have B1 := setMap_below B0 (Nat.le_refl _) (#[].push { key := .int .i64 1, val := roleH, born := 0 }) (0 + 1)
  obtain ⟨w1, hw1⟩ : ∃ y, setMap (w.alloc (.map #[] 0)) w.heap.size (#[].push { key := .int .i64 1, val := roleH, born := 0 }) (0 + 1) = y := ⟨_, rfl⟩
  rw [hw1] at h1 hb1 B1
  have h2 := run_insert_int (P := Tryz.prog) w1 100 3 105 .i64 w.heap.size (0 + 1) 2 _ roleG Tryz.underlying100 Tryz.underlying3 hb1 rfl
  have hb2 := setMap_at hb1 ((#[].push { key := .int .i64 1, val := roleH, born := 0 }).push { key := .int .i64 2, val := roleG, born := 0 + 1 }) (0 + 1 + 1)
  have B2 := setMap_below B1 (Nat.le_refl _) ((#[].push { key := .int .i64 1, val := roleH, born := 0 }).push { key := .int .i64 2, val := roleG, born := 0 + 1 }) (0 + 1 + 1)
  obtain ⟨w2, hw2⟩ : ∃ y, setMap w1 w.heap.size ((#[].push { key := .int .i64 1, val := roleH, born := 0 }).push { key := .int .i64 2, val := roleG, born := 0 + 1 }) (0 + 1 + 1) = y := ⟨_, rfl⟩
  rw [hw2] at h2 hb2 B2
  have R2 : Hid (RolesAt w2 w.heap.size) := Lib.hid hb2
  have HB := Lib.hid B2
  clear hb0 hb1 hb2 B0 B1 B2 hw1 hw2
  go_enter Tryz.func53, Tryz.ntmps53
  go_wp2_with fail
  go_ret
  exact ⟨⟨_, rfl, R2.out⟩, HB.out⟩

/-- what a look-up finds -/
def roleZ : Value := .agg #[.string ByteArray.empty, .nilFunc]
theorem zero_role (W : World) : (zeroValue 105).run Tryz.prog W = .ok roleZ W := by kernel_rfl
def roleF (k : Int) : Value := if k = 1 then .func (.func 97) #[] #[] else .func (.func 98) #[] #[]
theorem find_1 : Instr.findNow (.int .i64) (.int .i64 1) rolesEs.toList 0 = some (some (0, roleH)) := rfl
theorem find_2 : Instr.findNow (.int .i64) (.int .i64 2) rolesEs.toList 0 = some (some (1, roleG)) := rfl
theorem find_no {k : Int} (h : ¬ (k = 1 ∨ k = 2)) : Instr.findNow (.int .i64) (.int .i64 k) rolesEs.toList 0 = some none := by
  have h1 : (k == 1) = false := by rw [beq_eq_false_iff_ne]; omega
  have h2 : (k == 2) = false := by rw [beq_eq_false_iff_ne]; omega
  simp [rolesEs, Instr.findNow, Instr.sameNow, h1, h2]
section
variable {W : World} {r : Nat} (h : RolesAt W r)
include h
theorem look_no {k : Int} (hk : ¬ (k = 1 ∨ k = 2)) : (Instr.lookup 100 (.map (some r)) (.int .i64 k) true).run Tryz.prog W = .ok (.tuple #[roleZ, .bool false]) W :=
  run_lookup_int W _ 3 105 .i64 r 2 k rolesEs true Tryz.underlying100 Tryz.underlying3 h zero_role (.inl ⟨find_no hk, rfl, rfl⟩)
theorem look_ok {k : Nat} (hk : k = 1 ∨ k = 2) : (Instr.lookup 100 (.map (some r)) (.int .i64 (k : Int)) true).run Tryz.prog W = .ok (.tuple #[.agg #[.string (nameR (k : Int)), roleF (k : Int)], .bool true]) W := by
  rcases hk with rfl | rfl
  · exact run_lookup_int W _ 3 105 .i64 r 2 1 rolesEs true Tryz.underlying100 Tryz.underlying3 h zero_role (.inr ⟨⟨_, find_1⟩, rfl⟩)
  · exact run_lookup_int W _ 3 105 .i64 r 2 2 rolesEs true Tryz.underlying100 Tryz.underlying3 h zero_role (.inr ⟨⟨_, find_2⟩, rfl⟩)
theorem look_plain {k : Nat} (hk : k = 1 ∨ k = 2) : (Instr.lookup 100 (.map (some r)) (.int .i64 (k : Int)) false).run Tryz.prog W = .ok (.agg #[.string (nameR (k : Int)), roleF (k : Int)]) W := by
  rcases hk with rfl | rfl
  · exact run_lookup_int W _ 3 105 .i64 r 2 1 rolesEs false Tryz.underlying100 Tryz.underlying3 h zero_role (.inr ⟨⟨_, find_1⟩, rfl⟩)
  · exact run_lookup_int W _ 3 105 .i64 r 2 2 rolesEs false Tryz.underlying100 Tryz.underlying3 h zero_role (.inr ⟨⟨_, find_2⟩, rfl⟩)
end
theorem look_gen (k : Int) : ∃ s fv, fv.oneCell' = true ∧ ∀ (W : World) (r : Nat), RolesAt W r → (Instr.lookup 100 (.map (some r)) (.int .i64 k) true).run Tryz.prog W = .ok (.tuple #[.agg #[.string s, fv], .bool (decide (k = 1 ∨ k = 2))]) W := by
  by_cases h : k = 1 ∨ k = 2
  · obtain ⟨n, rfl⟩ : ∃ n : Nat, k = (n : Int) := ⟨k.toNat, by omega⟩
    have hn : n = 1 ∨ n = 2 := by omega
    refine ⟨nameR (n : Int), roleF (n : Int), by unfold roleF; split <;> rfl, fun W r hr => ?_⟩
    rw [decide_eq_true h]
    exact look_ok hr hn
  · refine ⟨ByteArray.empty, .nilFunc, rfl, fun W r hr => ?_⟩
    rw [decide_eq_false h]
    exact look_no hr h
end Go.Proofs.YtpekhdahamloaaaGreatDoor

/-! Package pake: what its functions compute. -/
namespace Go.Proofs.YtpekhdahamloaaaGreatDoor
open Go.RowKit

def sideB (r c x : Int) : Bool := decide (1 ≤ r ∧ r ≤ 2 ∧ 0 ≤ c ∧ c < 1000000 ∧ 1 ≤ x ∧ x < 2305843009213688669)
def chkS (r c x : Int) : Int := if sideB r c x then 0 else 100
theorem sideB_nat {r c x : Int} (h : sideB r c x = true) : ∃ R C X : Nat, r = (R : Int) ∧ c = (C : Int) ∧ x = (X : Int) ∧ (R = 1 ∨ R = 2) ∧ C < 1000000 ∧ 1 ≤ X ∧ X < 2305843009213688669 := by
  unfold sideB at h
  simp only [decide_eq_true_eq] at h
  exact ⟨r.toNat, c.toNat, x.toNat, by omega, by omega, by omega, by omega, by omega, by omega, by omega⟩
theorem sideB_of {R C X : Nat} (hr : R = 1 ∨ R = 2) (hc : C < 1000000) (h1 : 1 ≤ X) (h2 : X < 2305843009213688669) : sideB (R : Int) (C : Int) (X : Int) = true := by
  unfold sideB; exact decide_eq_true ⟨by omega, by omega, by omega, by omega, by omega, by omega⟩
/-- the point of a side, the element that is shared, the key -/
def pointS (r c x : Nat) : Nat := mulP (powP 4 x) (maskedM r c)
def elemS (r c x p : Nat) : Nat := powP (mulP p (powP (maskedM (3 - r : Nat) c) 2305843009213688668)) x
def hostS (r c x p : Nat) : Nat := if r = 2 then p else pointS r c x
def guestS (r c x p : Nat) : Nat := if r = 2 then pointS r c x else p
def keyL (h g z : Nat) : List UInt8 := Sha.tagged sPake.data.toList (Sha.be8 h ++ Sha.be8 g ++ Sha.be8 z)
def keyS (r c x p : Nat) : List UInt8 := keyL (hostS r c x p) (guestS r c x p) (elemS r c x p)
def roleByte (r : Int) : UInt8 := UInt8.ofNat (r % 256).toNat
theorem vB_role (r : Int) : Value.int .u8 (IntKind.u8.wrap r) = vB (roleByte r) := by
  unfold vB roleByte
  congr 1
  rw [IntKind.wrap_u8]
  simp
  omega
def proofL (k : List UInt8) (r : Int) : List UInt8 := Sha.tagged sProof.data.toList (k ++ [roleByte r])
theorem pointS_El (r c x : Nat) : El (pointS r c x) := El.mul (powP_pos El4 x) (maskedM_El r c)
theorem elemS_El {p : Nat} (h : El p) (r c x : Nat) : El (elemS r c x p) := powP_pos (El.mul h (powP_pos (maskedM_El _ _) _)) _
theorem El.lt63 {a : Nat} (h : El a) : a < 9223372036854775808 := by have := h.2.1; omega
theorem keyL_len (h g z : Nat) : (keyL h g z).length = 32 := tagged_len _ _
theorem proofL_len (k : List UInt8) (r : Int) : (proofL k r).length = 32 := tagged_len _ _
theorem be8_3 (h g z : Nat) : (Sha.be8 h ++ Sha.be8 g ++ Sha.be8 z).length = 24 := by simp [be8_len]
/-- thirty-two zeros -/
def zero32 : List UInt8 := List.replicate 32 0
theorem zero32_len : zero32.length = 32 := rfl
set_option maxRecDepth 100000 in
set_option maxHeartbeats 2000000 in
theorem rcheckS_any (r c x : Int) (w : World) :
    Calls Tryz.prog 32 #[.agg #[.int .i64 r, .int .i64 c, .int .i64 x]] w fun e w' => e = .returned (.int .i64 (chkS r c x)) ∧ Below w.heap.size w w' := by
  have A0 := Lib.hid ((Below.refl _ w).alloc (Nat.le_refl _) (.cells #[.int .i64 r, .int .i64 c, .int .i64 x] 23))
  have key : chkS r c x = if decide (r < 1) || decide (2 < r) || decide (c < 0) || decide (999999 < c) || decide (x < 1) || decide (2305843009213688669 ≤ x) then 100 else 0 := by
    unfold chkS sideB
    by_cases h : (1 ≤ r ∧ r ≤ 2 ∧ 0 ≤ c ∧ c < 1000000 ∧ 1 ≤ x ∧ x < 2305843009213688669)
    · rw [if_pos (by simpa using h), if_neg (by simp; omega)]
    · rw [if_neg (by simpa using h), if_pos (by simp; omega)]
  obtain ⟨v, hv⟩ : ∃ v, chkS r c x = v := ⟨_, rfl⟩
  rw [hv] at key ⊢
  clear hv
  cases t0 : decide (r < 1) with
  | true =>
    obtain rfl : v = 100 := by rw [key]; simp only [t0]; rfl
    clear key
    go_enter Tryz.func32, Tryz.ntmps32
    go_wp2_with fail
    go_ret
    exact ⟨rfl, A0.out⟩
  | false =>
    cases t1 : decide (2 < r) with
    | true =>
      obtain rfl : v = 100 := by rw [key]; simp only [t0, t1]; rfl
      clear key
      go_enter Tryz.func32, Tryz.ntmps32
      go_wp2_with fail
      go_ret
      exact ⟨rfl, A0.out⟩
    | false =>
      cases t2 : decide (c < 0) with
      | true =>
        obtain rfl : v = 100 := by rw [key]; simp only [t0, t1, t2]; rfl
        clear key
        go_enter Tryz.func32, Tryz.ntmps32
        go_wp2_with fail
        go_ret
        exact ⟨rfl, A0.out⟩
      | false =>
        cases t3 : decide (999999 < c) with
        | true =>
          obtain rfl : v = 100 := by rw [key]; simp only [t0, t1, t2, t3]; rfl
          clear key
          go_enter Tryz.func32, Tryz.ntmps32
          go_wp2_with fail
          go_ret
          exact ⟨rfl, A0.out⟩
        | false =>
          cases t4 : decide (x < 1) with
          | true =>
            obtain rfl : v = 100 := by rw [key]; simp only [t0, t1, t2, t3, t4]; rfl
            clear key
            go_enter Tryz.func32, Tryz.ntmps32
            go_wp2_with fail
            go_ret
            exact ⟨rfl, A0.out⟩
          | false =>
            cases t5 : decide ((2305843009213688669 : Int) ≤ x) with
            | true =>
              obtain rfl : v = 100 := by rw [key]; simp only [t0, t1, t2, t3, t4, t5]; rfl
              clear key
              go_enter Tryz.func32, Tryz.ntmps32
              go_wp2_with fail
              go_ret
              exact ⟨rfl, A0.out⟩
            | false =>
              obtain rfl : v = 0 := by rw [key]; simp only [t0, t1, t2, t3, t4, t5]; rfl
              clear key
              go_enter Tryz.func32, Tryz.ntmps32
              go_wp2_with fail
              go_ret
              exact ⟨rfl, A0.out⟩
end Go.Proofs.YtpekhdahamloaaaGreatDoor
