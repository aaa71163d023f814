/- Package digest: put. -/
import Derived.Test.YtpekhdahamloaaaGreatDoorPk3
import Derived.Deep.LoopGhost
import Derived.Deep.Light
import Derived.Laws.ShiftsVar
set_option linter.unusedVariables false
set_option linter.unusedSimpArgs false
namespace Go.Proofs.YtpekhdahamloaaaGreatDoor
open Go.RowKit

/-- byte i of a number, the lowest being 0 -/
def byteOfN (n i : Nat) : UInt8 := UInt8.ofNat (n / 2 ^ (8 * i))
theorem byte_is (n i : Nat) : (n : Int) / 2 ^ (8 * i) % 256 = (((byteOfN n i).toNat : Nat) : Int) := by
  unfold byteOfN
  rw [UInt8.toNat_ofNat', Int.natCast_emod, Int.natCast_ediv, Int.natCast_pow]
  rfl
/-- the row while put goes on: k bytes written, from the end -/
def putRow (off L n k : Nat) (g : Nat → Value) : Nat → Value := fun j => if off + L ≤ j + k ∧ j < off + L then vB (byteOfN n (off + L - 1 - j)) else g j

set_option maxRecDepth 100000 in
set_option maxHeartbeats 1000000 in
theorem put_any (B off L cap N T n : Nat) (g : Nat → Value) (w : World) (hrow : RowV w B T N g) (hL : L ≤ 8) (hoff : off + L ≤ N) (hcap : L ≤ cap) (hn : n < 18446744073709551616) :
    Calls Tryz.prog 108 #[.slice (some ⟨B, off, none⟩) L cap, .int .u64 (n : Int)] w fun e w' => e = .returned (.tuple #[]) ∧ RowV w' B T N (putRow off L n L g) ∧ OnlyB B w w' := by
  have I0 : Hid (RowV w B T N (putRow off L n 0 g) ∧ OnlyB B w w) := Lib.hid ⟨hrow.congr fun j hj => by unfold putRow; rw [if_neg (by omega)], OnlyB.refl _ _⟩
  have Hn := Lib.hid hn
  clear hrow hn
  go_enter Tryz.func108, Tryz.ntmps108
  go_wp2_with fail
  go_loopg [4, 7] L (fun q s4 s7 wx => ∃ k : Nat, k + q = L ∧ s7 = .int .i64 (k : Int) ∧ Hid (RowV wx B T N (putRow off L n k g) ∧ OnlyB B w wx))
  case atStart => exact ⟨0, by omega, rfl, I0⟩
  case round =>
    clear I0
    obtain ⟨k, hk, rfl, hI⟩ := hrel
    by_cases hkL : k < L
    · have d0 : decide ((k : Int) < (L : Int)) = true := by rw [decide_eq_true_iff]; omega
      have z1 : (0 : Int) ≤ (k : Int) := Int.natCast_nonneg k
      have z2 : (k : Int) < (L : Int) := by omega
      have z4 : (L : Int) ≤ 8 := by omega
      have e1 : ((L : Int) - 1 - (k : Int)).toNat = L - 1 - k := by omega
      have hr := hI.out.1
      have c1 := hr.cell (i := off + (L - 1 - k)) (by omega)
      have f1 := hr.frozen (off + (L - 1 - k))
      have hv := byte_is n k
      have Hfin := Lib.hid (show RowV (wr.setCell ⟨B, off + (L - 1 - k), none⟩ (vB (byteOfN n k))) B T N (putRow off L n (k + 1) g) ∧ OnlyB B w (wr.setCell ⟨B, off + (L - 1 - k), none⟩ (vB (byteOfN n k))) from
        ⟨hr.put fun j hj => by
          unfold putRow
          by_cases h1 : j = off + (L - 1 - k)
          · subst h1; rw [if_pos rfl, if_pos (by omega), show off + L - 1 - (off + (L - 1 - k)) = k by omega]
          · rw [if_neg h1]
            by_cases h2 : off + L ≤ j + k ∧ j < off + L
            · rw [if_pos h2, if_pos (by omega)]
            · rw [if_neg h2, if_neg (by omega)], hI.out.2.setCell (.inl rfl) _⟩)
      obtain ⟨v0, hv0⟩ : ∃ v, putRow off L n k g (off + (L - 1 - k)) = v := ⟨_, rfl⟩
      rw [hv0] at c1
      clear hr hv0
      go_wp2_with fail
      go_roundg (gk - 1)
      case measure => omega
      case rel =>
        go_light
        exact ⟨k + 1, by omega, by go_num, Hfin⟩
    · have d0 : decide ((k : Int) < (L : Int)) = false := by rw [decide_eq_false_iff_not]; omega
      obtain rfl : k = L := by omega
      go_wp2_with fail
      go_end0
      go_light
      exact ⟨rfl, hI.out⟩
end Go.Proofs.YtpekhdahamloaaaGreatDoor
