/- The contract of math/bits.Div64, walked over this seat's translation. -/
import Derived.Test.YtpekhdahamloaaaGreatDoorPk13
import Derived.Test.YtpekhdahamloaaaGreatDoorPk14
import Derived.Deep.QuietTactic
import Derived.BigQuiet
import Derived.Deep.Cut
import Derived.Deep.CutRange
import Derived.Deep.CutBlock
import Derived.Deep.DeepCutAuto
import Derived.Deep.Light
set_option linter.unusedVariables false
set_option linter.unusedSimpArgs false
namespace Go.Proofs.YtpekhdahamloaaaGreatDoor
open Go.RowKit Go.Lib

set_option maxHeartbeats 400000 in
theorem lz64_sh (y : Nat) (w : World) (h0 : 0 < y) (h1 : y < 18446744073709551616) :
    Calls Tryz.prog 162 #[.int .u64 y] w fun e w' => e = .returned (.int .i64 (DivLaw.sh y : Nat)) ∧ w = w' :=
  (lz64_any y w (by omega) (by omega)).mono fun e w' ⟨he, hw⟩ => ⟨by
    rw [he]; congr 2
    have := (DivLaw.sh_spec y h0 h1).1
    unfold DivLaw.sh; rw [Int.toNat_natCast]; omega, hw⟩

set_option maxRecDepth 100000 in
set_option maxHeartbeats 1000000 in
theorem div64_big (hi lo y : Nat) (hh : 0 < hi) (hy : hi < y) (hy2 : y < 18446744073709551616) (hlo : lo < 18446744073709551616) (w : World) :
    Calls Tryz.prog 138 #[.int .u64 hi, .int .u64 lo, .int .u64 y] w fun e w' => e = .returned (.tuple #[.int .u64 (((hi * 18446744073709551616 + lo) / y : Nat) : Int), .int .u64 (((hi * 18446744073709551616 + lo) % y : Nat) : Int)]) ∧ w = w' := by
  have h0 : ((y : Int) == 0) = false := by rw [beq_eq_false_iff_ne]; omega
  have h1 : ((hi : Int) == 0) = false := by rw [beq_eq_false_iff_ne]; omega
  have h2 : decide ((y : Int) ≤ hi) = false := by simp; omega
  obtain ⟨_, hs63, hY2, hY1⟩ := DivLaw.sh_spec y (by omega) hy2
  have hlz := lz64_sh y w (by omega) hy2
  have Hlz := Lib.hid hlz
  clear hlz
  obtain ⟨hLs, hor, hwords⟩ := DivLaw.words hi lo (DivLaw.sh y) hs63 hlo
  obtain ⟨hb1, hb2⟩ := DivLaw.back hi lo y (DivLaw.sh y)
  generalize DivLaw.sh y = s at *
  have hHY : hi * 2 ^ s < y * 2 ^ s := Nat.mul_lt_mul_of_pos_right hy (Nat.two_pow_pos s)
  -- the plain names of what the walk computes, each a rule for it
  generalize hYe : y * 2 ^ s = Y at *
  generalize hHe : hi * 2 ^ s = H at *
  generalize hTe : 64 - s = t at *
  generalize hLe : lo / 2 ^ t = L at *
  have hL2 : L < 18446744073709551616 := by
    have := Nat.div_le_self lo (2 ^ t)
    omega
  have hMe : lo * 2 ^ s % 18446744073709551616 < 18446744073709551616 := Nat.mod_lt _ (by decide)
  generalize hme : lo * 2 ^ s % 18446744073709551616 = M at *
  have rY : (y : Int) * 2 ^ s = (Y : Int) := by rw [← hYe]; push_cast; rfl
  have rH : (hi : Int) * 2 ^ s = (H : Int) := by rw [← hHe]; push_cast; rfl
  have rM : IntKind.u64.wrap ((lo : Int) * 2 ^ s) = (M : Int) := by
    rw [← hme, ← wrapM]; push_cast; rfl
  have rL : (lo : Int) / 2 ^ t = (L : Int) := by rw [← hLe]; push_cast; rfl
  have rmin : min s 64 = s := by omega
  have rmin2 : min t 64 = t := by omega
  have rt : (64 - (s : Int)).toNat = t := by omega
  have rand0 : bits .and .u64 (Y : Int) 4294967295 = ((Y % 4294967296 : Nat) : Int) := maskN Y hY2
  have rand20 : bits .and .u64 (M : Int) 4294967295 = ((M % 4294967296 : Nat) : Int) := maskN M hMe
  have ror0 : bits .or .u64 (H : Int) (L : Int) = ((H + L : Nat) : Int) := by rw [bits_or_u64_nat H L (by omega) hL2, hor]
  have hAY : H + L < Y := by
    have : (hi + 1) * 2 ^ s ≤ y * 2 ^ s := Nat.mul_le_mul_right _ hy
    rw [Nat.add_mul, Nat.one_mul, hHe, hYe] at this
    omega
  have HN := Lib.hid hwords
  have Hb1 := Lib.hid hb1
  have Hb2 := Lib.hid hb2
  clear hwords hb1 hb2
  clear hHe hTe hLe hme
  generalize hAe : H + L = A at *
  have hbM : M / 4294967296 < 4294967296 := by omega
  have hI := DivLaw.init A (M / 4294967296) Y hY1 hY2 hAY hbM
  have hy1 : 2147483648 ≤ Y / 4294967296 := by omega
  have hy1' : Y / 4294967296 < 4294967296 := by omega
  have hdm := Nat.div_add_mod' A (Y / 4294967296)
  have hAd := Nat.mod_lt A (show 0 < Y / 4294967296 by omega)
  have hy0' : Y % 4294967296 < 4294967296 := by omega
  have ry1 : (Y : Int) / 4294967296 = ((Y / 4294967296 : Nat) : Int) := by omega
  have rb : (M : Int) / 4294967296 = ((M / 4294967296 : Nat) : Int) := by omega
  have HI := Lib.hid hI
  clear hI
  generalize hy1e : Y / 4294967296 = y1 at *
  generalize hy0e : Y % 4294967296 = y0 at *
  generalize hbe : M / 4294967296 = b at *
  generalize hce : M % 4294967296 = c at *
  generalize hqe : A / y1 = q at *
  generalize hre : A % y1 = r at *
  have rq : (A : Int) / (y1 : Int) = (q : Int) := by rw [← hqe]; push_cast; rfl
  generalize hme : q * y1 = m at *
  have rm : (q : Int) * (y1 : Int) = (m : Int) := by rw [← hme]; push_cast; rfl
  have rr : (A : Int) - (m : Int) = (r : Int) := by omega
  have hqm : q ≤ 4294967297 := by have := HI.out.2.2.2; exact this
  have hc : c < 4294967296 := by omega
  have Hy1e := Lib.hid hy1e
  have Hy0e := Lib.hid hy0e
  have Hbe := Lib.hid hbe
  have Hce := Lib.hid hce
  have HYe := Lib.hid hYe
  have HAe := Lib.hid hAe
  clear hy1e hy0e hbe hce hqe hre hme hdm hYe hAe
  go_enter Tryz.func138, Tryz.ntmps138
  go_wp2_with fail
  refine (Hlz.out).mono ?_
  rintro e w' ⟨rfl, rfl⟩
  go_upto_block 0 with fail
  have hbb : b < 4294967296 := hbM
  -- the first half: the guess, corrected
  go_cut [15, 16] (fun s15 s16 wx => w = wx ∧ ∃ p v : Nat, s15 = .int .u64 (p : Int) ∧ s16 = .int .u64 (v : Int) ∧ Hid (DivLaw.Fin A b Y p))
  case first =>
    clear Hlz rY rH rM rL rmin rmin2 rt rand0 rand20 ror0 rq rm rr
    go_wp2_with fail
    go_loopg [15, 16] q (fun g t15 t16 wx => w = wx ∧ ∃ p v : Nat, p = g ∧ t15 = .int .u64 (p : Int) ∧ t16 = .int .u64 (v : Int) ∧ v < 4294967296 ∧ p ≤ 4294967297 ∧ Hid (DivLaw.Inv A b Y p v))
    case atStart => exact ⟨rfl, q, r, rfl, rfl, rfl, by omega, hqm, HI⟩
    case round =>
      obtain ⟨rfl, p, v, rfl, rfl, rfl, hv, hp, hinv⟩ := hrel
      by_cases hp32 : p < 4294967296
      · have hpy : p * y0 < 18446744073709551616 := by
          have : p * y0 ≤ 4294967295 * 4294967295 := Nat.mul_le_mul (by omega) (by omega)
          omega
        obtain ⟨n, hn⟩ : ∃ n, p * y0 = n := ⟨_, rfl⟩
        have rpy : (p : Int) * (y0 : Int) = (n : Int) := by rw [← hn]; exact (Int.natCast_mul _ _).symm
        have hpos0 : v * 4294967296 + b < n → 1 ≤ p := fun h => by
          rcases Nat.eq_zero_or_pos p with h0 | h0
          · subst h0; rw [Nat.zero_mul] at hn; omega
          · exact h0
        rw [hn] at hpy
        have Hn := Lib.hid hn
        clear hn
        have g1 : decide ((4294967296 : Int) ≤ (p : Int)) = false := by simp; omega
        by_cases hgt : v * 4294967296 + b < n
        · have g2 : decide ((4294967296 : Int) * (v : Int) + (b : Int) < (n : Int)) = true := by simp; omega
          have hcase : 4294967296 ≤ p ∨ v * 4294967296 + b < p * y0 := Or.inr (by rw [Hn.out]; exact hgt)
          have hpos := hpos0 hgt
          clear hpos0
          by_cases hbr : v + y1 < 4294967296
          · have hnx : Hid (DivLaw.Inv A b Y (p - 1) (v + y1)) := by have := DivLaw.next (Y := Y) (A := A) (q := p) (r := v) hbb hAY hinv.out (by rw [Hy0e.out]; exact hcase) (by rw [Hy1e.out]; exact hbr); rw [Hy1e.out] at this; exact this
            have g3 : decide ((4294967296 : Int) ≤ (v : Int) + (y1 : Int)) = false := by simp; omega
            have hp1 : 1 ≤ p := hpos
            have Hbr := Lib.hid hbr
            clear hcase hbr hp32 hgt hpos
            clear ry1 rb hh hy hy2 hlo h0 h1 h2 hY2 hY1 hHY hLs hL2 hMe hor hAY hAd hqm hc hbM
            go_wp2
            go_light
            go_roundg (p - 1)
            case measure => omega
            case rel => exact ⟨rfl, p - 1, v + y1, rfl, by congr 1 <;> omega, by congr 1 <;> omega, Hbr.out, by omega, hnx⟩
          · have hfin : Hid (DivLaw.Fin A b Y (p - 1)) := DivLaw.brk (Y := Y) (A := A) (q := p) (r := v) hbb hAY hinv.out (by rw [Hy0e.out]; exact hcase) (by rw [Hy1e.out]; omega)
            have g3 : decide ((4294967296 : Int) ≤ (v : Int) + (y1 : Int)) = true := by simp; omega
            have hp1 : 1 ≤ p := hpos
            clear hcase hbr hp32 hgt hpos
            clear ry1 rb hh hy hy2 hlo h0 h1 h2 hY2 hY1 hHY hLs hL2 hMe hor hAY hAd hqm hc hbM
            go_wp2
            go_meet
            exact ⟨rfl, p - 1, v + y1, by congr 1 <;> omega, by congr 1 <;> omega, hfin⟩
        · have g2 : decide ((4294967296 : Int) * (v : Int) + (b : Int) < (n : Int)) = false := by simp; omega
          have hfin : Hid (DivLaw.Fin A b Y p) := by
            refine DivLaw.out hinv.out ?_
            rw [Hy0e.out, Hn.out]; omega
          clear hgt hp32 hpos0
          clear ry1 rb hh hy hy2 hlo h0 h1 h2 hY2 hY1 hHY hLs hL2 hMe hor hAY hAd hqm hc hbM
          go_wp2
          go_meet
          exact ⟨rfl, p, v, rfl, rfl, hfin⟩
      · have g1 : decide ((4294967296 : Int) ≤ (p : Int)) = true := by simp; omega
        have hcase : 4294967296 ≤ p ∨ v * 4294967296 + b < p * y0 := Or.inl (by omega)
        have hpos : 1 ≤ p := by omega
        by_cases hbr : v + y1 < 4294967296
        · have hnx : Hid (DivLaw.Inv A b Y (p - 1) (v + y1)) := by have := DivLaw.next (Y := Y) (A := A) (q := p) (r := v) hbb hAY hinv.out (by rw [Hy0e.out]; exact hcase) (by rw [Hy1e.out]; exact hbr); rw [Hy1e.out] at this; exact this
          have g3 : decide ((4294967296 : Int) ≤ (v : Int) + (y1 : Int)) = false := by simp; omega
          have hp1 : 1 ≤ p := hpos
          have Hbr := Lib.hid hbr
          clear hcase hbr hp32 hpos
          clear ry1 rb hh hy hy2 hlo h0 h1 h2 hY2 hY1 hHY hLs hL2 hMe hor hAY hAd hqm hc hbM
          go_wp2
          go_light
          go_roundg (p - 1)
          case measure => omega
          case rel => exact ⟨rfl, p - 1, v + y1, rfl, by congr 1 <;> omega, by congr 1 <;> omega, Hbr.out, by omega, hnx⟩
        · have hfin : Hid (DivLaw.Fin A b Y (p - 1)) := DivLaw.brk (Y := Y) (A := A) (q := p) (r := v) hbb hAY hinv.out (by rw [Hy0e.out]; exact hcase) (by rw [Hy1e.out]; omega)
          have g3 : decide ((4294967296 : Int) ≤ (v : Int) + (y1 : Int)) = true := by simp; omega
          have hp1 : 1 ≤ p := hpos
          clear hcase hbr hp32 hpos
          clear ry1 rb hh hy hy2 hlo h0 h1 h2 hY2 hY1 hHY hLs hL2 hMe hor hAY hAd hqm hc hbM
          go_wp2
          go_meet
          exact ⟨rfl, p - 1, v + y1, by congr 1 <;> omega, by congr 1 <;> omega, hfin⟩
  case rest =>
    obtain ⟨rfl, p1, v1, rfl, rfl, hfin1⟩ := hcut
    have hp32' := DivLaw.fin_lt hbb hAY hfin1.out
    have hTY : (A * 4294967296 + b) % Y < Y := Nat.mod_lt _ (by omega)
    have r21 : IntKind.u64.wrap (IntKind.u64.wrap (IntKind.u64.wrap ((A : Int) * 4294967296) + (b : Int)) - IntKind.u64.wrap ((p1 : Int) * (Y : Int))) = (((A * 4294967296 + b) % Y : Nat) : Int) := by
      rw [IntKind.wrap_u64, IntKind.wrap_u64, IntKind.wrap_u64, IntKind.wrap_u64]
      exact DivLaw.rest hY2 (by omega) hfin1.out
    obtain ⟨T, hTe⟩ : ∃ T, (A * 4294967296 + b) % Y = T := ⟨_, rfl⟩
    rw [hTe] at hTY r21
    have HT := Lib.hid hTe
    clear hTe
    have hI2 := DivLaw.init T c Y hY1 hY2 hTY hc
    rw [Hy1e.out] at hI2
    have hTd := Nat.mod_lt T (show 0 < y1 by omega)
    have hTm := Nat.div_add_mod' T y1
    obtain ⟨q2, hq2e⟩ : ∃ x, T / y1 = x := ⟨_, rfl⟩
    obtain ⟨r2, hr2e⟩ : ∃ x, T % y1 = x := ⟨_, rfl⟩
    have rq2 : (T : Int) / (y1 : Int) = (q2 : Int) := by rw [← hq2e]; push_cast; rfl
    rw [hq2e, hr2e] at hI2 hTm
    rw [hr2e] at hTd
    obtain ⟨m2, hm2e⟩ : ∃ x, q2 * y1 = x := ⟨_, rfl⟩
    rw [hm2e] at hTm
    have rm2 : (q2 : Int) * (y1 : Int) = (m2 : Int) := by rw [← hm2e]; push_cast; rfl
    have rr2 : (T : Int) - (m2 : Int) = (r2 : Int) := by omega
    have hq2m : q2 ≤ 4294967297 := hI2.2.2.2
    have HI2 := Lib.hid hI2
    clear hI2 hTm hq2e hr2e hm2e
    clear ry1 rb hh hy hy2 hlo h0 h1 h2 hHY hLs hL2 hMe hor hAd hbM HI Hlz rY rH rM rL rmin2 rt rand0 rand20 ror0 rq rm rr
    go_upto_block 2 with fail
    go_cut [16, 18] (fun s16 s18 wx => w = wx ∧ ∃ p v : Nat, s18 = .int .u64 (p : Int) ∧ s16 = .int .u64 (v : Int) ∧ Hid (DivLaw.Fin T c Y p))
    case first =>
      have HI := HI2
      clear HI2 r21 rq2 rm2 rr2 rmin
      go_wp2_with fail
      go_loopg [16, 18] q2 (fun g t16 t15 wx => w = wx ∧ ∃ p v : Nat, p = g ∧ t15 = .int .u64 (p : Int) ∧ t16 = .int .u64 (v : Int) ∧ v < 4294967296 ∧ p ≤ 4294967297 ∧ Hid (DivLaw.Inv T c Y p v))
      case atStart => exact ⟨rfl, q2, r2, rfl, rfl, rfl, by omega, hq2m, HI⟩
      case round =>
        obtain ⟨rfl, p, v, rfl, rfl, rfl, hv, hp, hinv⟩ := hrel
        by_cases hp32 : p < 4294967296
        · have hpy : p * y0 < 18446744073709551616 := by
            have : p * y0 ≤ 4294967295 * 4294967295 := Nat.mul_le_mul (by omega) (by omega)
            omega
          obtain ⟨n, hn⟩ : ∃ n, p * y0 = n := ⟨_, rfl⟩
          have rpy : (p : Int) * (y0 : Int) = (n : Int) := by rw [← hn]; exact (Int.natCast_mul _ _).symm
          have hpos0 : v * 4294967296 + c < n → 1 ≤ p := fun h => by
            rcases Nat.eq_zero_or_pos p with h0 | h0
            · subst h0; rw [Nat.zero_mul] at hn; omega
            · exact h0
          rw [hn] at hpy
          have Hn := Lib.hid hn
          clear hn
          have g1 : decide ((4294967296 : Int) ≤ (p : Int)) = false := by simp; omega
          by_cases hgt : v * 4294967296 + c < n
          · have g2 : decide ((4294967296 : Int) * (v : Int) + (c : Int) < (n : Int)) = true := by simp; omega
            have hcase : 4294967296 ≤ p ∨ v * 4294967296 + c < p * y0 := Or.inr (by rw [Hn.out]; exact hgt)
            have hpos := hpos0 hgt
            clear hpos0
            by_cases hbr : v + y1 < 4294967296
            · have hnx : Hid (DivLaw.Inv T c Y (p - 1) (v + y1)) := by have := DivLaw.next (Y := Y) (A := T) (q := p) (r := v) hc hTY hinv.out (by rw [Hy0e.out]; exact hcase) (by rw [Hy1e.out]; exact hbr); rw [Hy1e.out] at this; exact this
              have g3 : decide ((4294967296 : Int) ≤ (v : Int) + (y1 : Int)) = false := by simp; omega
              have hp1 : 1 ≤ p := hpos
              have Hbr := Lib.hid hbr
              clear hcase hbr hp32 hgt hpos
              clear hY2 hY1 hAY hqm hTY hTd hq2m hbb hp32'
              go_wp2
              go_light
              go_roundg (p - 1)
              case measure => omega
              case rel => exact ⟨rfl, p - 1, v + y1, rfl, by congr 1 <;> omega, by congr 1 <;> omega, Hbr.out, by omega, hnx⟩
            · have hfin : Hid (DivLaw.Fin T c Y (p - 1)) := DivLaw.brk (Y := Y) (A := T) (q := p) (r := v) hc hTY hinv.out (by rw [Hy0e.out]; exact hcase) (by rw [Hy1e.out]; omega)
              have g3 : decide ((4294967296 : Int) ≤ (v : Int) + (y1 : Int)) = true := by simp; omega
              have hp1 : 1 ≤ p := hpos
              clear hcase hbr hp32 hgt hpos
              clear hY2 hY1 hAY hqm hTY hTd hq2m hbb hp32'
              go_wp2
              go_meet
              exact ⟨rfl, p - 1, v + y1, by congr 1 <;> omega, by congr 1 <;> omega, hfin⟩
          · have g2 : decide ((4294967296 : Int) * (v : Int) + (c : Int) < (n : Int)) = false := by simp; omega
            have hfin : Hid (DivLaw.Fin T c Y p) := by
              refine DivLaw.out hinv.out ?_
              rw [Hy0e.out, Hn.out]; omega
            clear hgt hp32 hpos0
            clear hY2 hY1 hAY hqm hTY hTd hq2m hbb hp32'
            go_wp2
            go_meet
            exact ⟨rfl, p, v, rfl, rfl, hfin⟩
        · have g1 : decide ((4294967296 : Int) ≤ (p : Int)) = true := by simp; omega
          have hcase : 4294967296 ≤ p ∨ v * 4294967296 + c < p * y0 := Or.inl (by omega)
          have hpos : 1 ≤ p := by omega
          by_cases hbr : v + y1 < 4294967296
          · have hnx : Hid (DivLaw.Inv T c Y (p - 1) (v + y1)) := by have := DivLaw.next (Y := Y) (A := T) (q := p) (r := v) hc hTY hinv.out (by rw [Hy0e.out]; exact hcase) (by rw [Hy1e.out]; exact hbr); rw [Hy1e.out] at this; exact this
            have g3 : decide ((4294967296 : Int) ≤ (v : Int) + (y1 : Int)) = false := by simp; omega
            have hp1 : 1 ≤ p := hpos
            have Hbr := Lib.hid hbr
            clear hcase hbr hp32 hpos
            clear hY2 hY1 hAY hqm hTY hTd hq2m hbb hp32'
            go_wp2
            go_light
            go_roundg (p - 1)
            case measure => omega
            case rel => exact ⟨rfl, p - 1, v + y1, rfl, by congr 1 <;> omega, by congr 1 <;> omega, Hbr.out, by omega, hnx⟩
          · have hfin : Hid (DivLaw.Fin T c Y (p - 1)) := DivLaw.brk (Y := Y) (A := T) (q := p) (r := v) hc hTY hinv.out (by rw [Hy0e.out]; exact hcase) (by rw [Hy1e.out]; omega)
            have g3 : decide ((4294967296 : Int) ≤ (v : Int) + (y1 : Int)) = true := by simp; omega
            have hp1 : 1 ≤ p := hpos
            clear hcase hbr hp32 hpos
            clear hY2 hY1 hAY hqm hTY hTd hq2m hbb hp32'
            go_wp2
            go_meet
            exact ⟨rfl, p - 1, v + y1, by congr 1 <;> omega, by congr 1 <;> omega, hfin⟩
    case rest =>
      obtain ⟨rfl, p, v, rfl, rfl, hfin⟩ := hcut
      have hpl := DivLaw.fin_lt hc hTY hfin.out
      have r28 : IntKind.u64.wrap (IntKind.u64.wrap (IntKind.u64.wrap ((T : Int) * 4294967296) + (c : Int)) - IntKind.u64.wrap ((p : Int) * (Y : Int))) = (((T * 4294967296 + c) % Y : Nat) : Int) := by
        rw [IntKind.wrap_u64, IntKind.wrap_u64, IntKind.wrap_u64, IntKind.wrap_u64]
        exact DivLaw.rest hY2 (by omega) hfin.out
      obtain ⟨d1, d2⟩ := DivLaw.both (A * 4294967296 + b) c Y (by omega)
      have hN : (A * 4294967296 + b) * 4294967296 + c = A * 18446744073709551616 + M := by rw [← Hbe.out, ← Hce.out]; omega
      rw [hN, ← HN.out, HT.out] at d1 d2
      rw [Hb1.out, ← hfin1.out, ← hfin.out] at d1
      obtain ⟨R, hR⟩ : ∃ x, (T * 4294967296 + c) % Y = x := ⟨_, rfl⟩
      rw [hR] at r28 d2
      have hb2 := Hb2.out
      rw [d2] at hb2
      have rR : (R : Int) / 2 ^ s = (((hi * 18446744073709551616 + lo) % y : Nat) : Int) := by rw [← hb2]; push_cast; rfl
      have D1 := Lib.hid d1
      clear d1 d2 hR hb2 hN
      obtain ⟨g2, hg2⟩ : ∃ x, (hi * 18446744073709551616 + lo) % y = x := ⟨_, rfl⟩
      rw [hg2] at rR
      have Hg2 := Lib.hid hg2
      clear hg2 hY2 hY1 hAY hqm hTY hTd hq2m hbb r21 rq2 rm2 rr2
      have Hf : Hid (Ending.returned (Value.tuple #[.int .u64 ((p1 : Int) * 4294967296 + (p : Int)), .int .u64 (g2 : Int)]) = Ending.returned (.tuple #[.int .u64 (((hi * 18446744073709551616 + lo) / y : Nat) : Int), .int .u64 (((hi * 18446744073709551616 + lo) % y : Nat) : Int)])) := by
        show _ = _
        rw [D1.out, Hg2.out, show ((p1 * 4294967296 + p : Nat) : Int) = (p1 : Int) * 4294967296 + (p : Int) from by omega]
      clear Hg2 D1
      go_wp2
      go_ret2
      exact ⟨Hf.out, rfl⟩

set_option maxRecDepth 100000 in
set_option maxHeartbeats 400000 in
theorem div64_zero (lo y : Nat) (hy : 0 < y) (hy2 : y < 18446744073709551616) (hlo : lo < 18446744073709551616) (w : World) :
    Calls Tryz.prog 138 #[.int .u64 0, .int .u64 lo, .int .u64 y] w fun e w' => e = .returned (.tuple #[.int .u64 ((lo / y : Nat) : Int), .int .u64 ((lo % y : Nat) : Int)]) ∧ Below w.heap.size w w' := by
  have h0 : ((y : Int) == 0) = false := by rw [beq_eq_false_iff_ne]; omega
  have h1 : decide ((y : Int) ≤ 0) = false := by simp; omega
  have h3 : (1 : Int) ≤ (y : Int) := by omega
  obtain ⟨q, hq⟩ : ∃ q, lo / y = q := ⟨_, rfl⟩
  obtain ⟨r, hr⟩ : ∃ r, lo % y = r := ⟨_, rfl⟩
  have e1 : (lo : Int) / (y : Int) = (q : Int) := by rw [← hq]; push_cast; rfl
  have e2 : (lo : Int) % (y : Int) = (r : Int) := by rw [← hr]; push_cast; rfl
  have hql : q ≤ lo := by rw [← hq]; exact Nat.div_le_self _ _
  have hrl : r < y := by rw [← hr]; exact Nat.mod_lt _ hy
  rw [hq, hr]
  have Hf : Hid (Ending.returned (Value.tuple #[.int .u64 (q : Int), .int .u64 ((lo : Int) % (y : Int))]) = Ending.returned (Value.tuple #[.int .u64 (q : Int), .int .u64 (r : Int)])) := by
    show _ = _
    rw [e2]
  clear hq hr e2
  go_enter Tryz.func138, Tryz.ntmps138
  go_wp2_with fail
  go_quiet (fail)
  go_wp2
  go_ret2
  exact ⟨Hf.out, ⟨rfl, rfl, rfl, Nat.le_refl _, fun _ _ => rfl⟩⟩

/-- bits.Div64: where it does not panic: quotient and remainder of the number of two words. -/
theorem div64_any (hi lo y : Nat) (hy : hi < y) (hy2 : y < 18446744073709551616) (hlo : lo < 18446744073709551616) (w : World) :
    Calls Tryz.prog 138 #[.int .u64 hi, .int .u64 lo, .int .u64 y] w fun e w' => e = .returned (.tuple #[.int .u64 (((hi * 18446744073709551616 + lo) / y : Nat) : Int), .int .u64 (((hi * 18446744073709551616 + lo) % y : Nat) : Int)]) ∧ Below w.heap.size w w' := by
  rcases Nat.eq_zero_or_pos hi with h | h
  · subst h
    refine (div64_zero lo y hy hy2 hlo w).mono fun e w' hw => ?_
    rw [Nat.zero_mul, Nat.zero_add]; exact hw
  · exact (div64_big hi lo y h hy hy2 hlo w).mono fun e w' ⟨he, hw⟩ => ⟨he, hw ▸ Below.refl _ _⟩

end Go.Proofs.YtpekhdahamloaaaGreatDoor
