/- Package codec: the form of a value. -/
import Derived.Test.YtpekhdahamloaaaGreatDoorPk27
import Derived.Test.YtpekhdahamloaaaGreatDoorPk21
import Derived.Deep.CutBlock
import Derived.Deep.DeepCutAuto
import Derived.Deep.Light
import Derived.Deep.LoopGhost
import Derived.IntWalk
set_option linter.unusedVariables false
set_option linter.unusedSimpArgs false
namespace Go.Proofs.YtpekhdahamloaaaGreatDoor
open Go.RowKit Cod
/-- what 'formed' answers -/
def fmD (t : Tv) : Int := ((if formB t then depthN t else 0 : Nat) : Int)
theorem empty_dec (s : ByteArray) : s.toList.isEmpty = s.data.toList.isEmpty := by
  cases h : s.data.toList with
  | nil => simp [ByteArray.toList_eq, h]
  | cons a b => simp [ByteArray.toList_eq, h]
theorem form_1 (n : Int) (s : ByteArray) (l : List Tv) : formB (.mk 1 n s l) = (s.data.toList.isEmpty && l.isEmpty) := by simp [formB]
theorem form_2 (n : Int) (s : ByteArray) (l : List Tv) : formB (.mk 2 n s l) = (decide (n = 0) && l.isEmpty) := by simp [formB]
theorem form_3 (n : Int) (s : ByteArray) (l : List Tv) : formB (.mk 3 n s l) = (decide (n = 0) && s.data.toList.isEmpty && formL l) := by simp [formB]
theorem form_no {k : Int} (n : Int) (s : ByteArray) (l : List Tv) (h1 : k ≠ 1) (h2 : k ≠ 2) (h3 : k ≠ 3) : formB (.mk k n s l) = false := by simp [formB, h1, h2, h3]
theorem depth_3 (n : Int) (s : ByteArray) (l : List Tv) : depthN (.mk 3 n s l) = depthL l + 1 := by simp [depthN]
theorem depth_no {k : Int} (n : Int) (s : ByteArray) (l : List Tv) (h3 : k ≠ 3) : depthN (.mk k n s l) = 0 := by simp [depthN, h3]
theorem fmD_no {k : Int} (n : Int) (s : ByteArray) (l : List Tv) (h3 : k ≠ 3) : fmD (.mk k n s l) = 0 := by unfold fmD; rw [depth_no n s l h3]; split <;> rfl
theorem row4 (g : Nat → Value) : rowF 4 g = #[g 0, g 1, g 2, g 3] := rfl
theorem depth_child {l : List Tv} {i d : Nat} (hi : i < l.length) (h : depthL l ≤ d) : depthN (l.getD i tv0) ≤ d := by
  have h1 : l = l.take (i + 1) ++ l.drop (i + 1) := (List.take_append_drop _ _).symm
  rw [h1, depthL_append, depthL_take l hi] at h
  omega
set_option maxRecDepth 100000 in
set_option maxHeartbeats 16000000 in
theorem formed_any : ∀ (d : Nat), d ≤ 1000 → ∀ (t : Tv) (v : Value) (w : World), depthN t ≤ d → CodAt w v t →
    Calls Tryz.prog 101 #[v] w fun e w' => e = .returned (.tuple #[.int .i64 (fmD t), .bool (formB t)]) ∧ Below w.heap.size w w' := by
  intro d
  induction d using Nat.strongRecOn with
  | ind d ih =>
  intro hd t v w ht hv
  obtain ⟨k, n, s, l⟩ := t
  obtain ⟨a, cap, c, rfl, hk, hn, hs, hl, hc⟩ := hv.open
  obtain ⟨m, hm⟩ : ∃ m, l.length = m := ⟨_, rfl⟩
  obtain ⟨U, hU0, hU1, hU2, hU3⟩ : ∃ U : Nat → Bool, U 0 = false ∧ U 1 = (s.toList.isEmpty && ((m : Int) == 0)) ∧ U 2 = ((n == 0) && ((m : Int) == 0)) ∧ U 3 = ((n == 0) && s.toList.isEmpty) :=
    ⟨fun i => match i with | 0 => false | 1 => s.toList.isEmpty && ((m : Int) == 0) | 2 => (n == 0) && ((m : Int) == 0) | _ => (n == 0) && s.toList.isEmpty, rfl, rfl, rfl, rfl⟩
  have em : ((m : Int) == 0) = l.isEmpty := by
    rw [← hm]; cases l <;> simp
    omega
  have e1 : formB (.mk 1 n s l) = U 1 := by rw [form_1, hU1, em, empty_dec]
  have e2 : formB (.mk 2 n s l) = U 2 := by rw [form_2, hU2, em]; rfl
  have e3 : formB (.mk 3 n s l) = (U 3 && formL l) := by rw [form_3, hU3, empty_dec]; rfl
  rw [hm] at hl hc ⊢
  have IH := Lib.hid ih
  have HD := Lib.hid hd
  have HL := Lib.hid hl
  have HC := Lib.hid hc
  have HM := Lib.hid hm
  have HT := Lib.hid ht
  have E1 := Lib.hid e1
  have E2 := Lib.hid e2
  have E3 := Lib.hid e3
  obtain ⟨bs, hbs⟩ : ∃ b, s.toList.isEmpty = b := ⟨_, rfl⟩
  obtain ⟨bm, hbm⟩ : ∃ b, ((m : Int) == 0) = b := ⟨_, rfl⟩
  obtain ⟨bn, hbn⟩ : ∃ b, (n == 0) = b := ⟨_, rfl⟩
  rw [hbs, hbm] at hU1
  rw [hbn, hbm] at hU2
  rw [hbn, hbs] at hU3
  have HU := Lib.hid (And.intro hU0 (And.intro hU1 (And.intro hU2 hU3)))
  have HS := Lib.hid hbs
  have HN := Lib.hid hbn
  have HB := Lib.hid hbm
  clear ih hd hl hc hv hU0 hU1 hU2 hU3 hm ht e1 e2 e3 em hbs hbm hbn
  go_enter Tryz.func101, Tryz.ntmps101
  have B0 := Lib.hid (Below.refl w.heap.size w)
  go_upto_region 1 with fail
  obtain ⟨w1, hw1⟩ : ∃ y, w.alloc (.cells #[.int .i64 k, .int .i64 n, .string s, .slice a m cap] 59) = y := ⟨_, rfl⟩
  have b1 : Below w.heap.size w w1 := by rw [← hw1]; exact (Below.refl _ _).alloc (Nat.le_refl _) _
  have V1 : Hid (RowV w1 w.heap.size 59 4 (valC k n s (.slice a m cap))) := Lib.hid (by rw [← hw1]; exact RowV.new w _ 4 (valC k n s (.slice a m cap)))
  have z1 : w.heap.size + 1 = w1.heap.size := by rw [← hw1]; exact (Array.size_push _).symm
  rw [hw1]
  (try rw [z1])
  have B1 := Lib.hid (B0.out.trans (b1.mono B0.out.size))
  clear b1 hw1 z1 B0
  go_cut [4] (fun s4 wx => ∃ b, s4 = .pointer (some ⟨b, 0, none⟩) ∧ RowV wx b 197 4 (fun i => .bool (U i)) ∧ Below w1.heap.size w1 wx)
  case first =>
    have x0 : _ = some (Value.int .i64 k) := V1.out.cell (i := 0) (by decide)
    have x1 : _ = some (Value.int .i64 n) := V1.out.cell (i := 1) (by decide)
    have x2 : _ = some (Value.string s) := V1.out.cell (i := 2) (by decide)
    have x3 : _ = some (Value.slice a m cap) := V1.out.cell (i := 3) (by decide)
    have R := RowV.new w1 197 4 (fun i => .bool (U i))
    have RB := Lib.hid ((Below.refl _ w1).alloc (Nat.le_refl _) (.cells (rowF 4 (fun i => .bool (U i))) 197))
    obtain ⟨u0, u1, u2, u3⟩ := HU.out
    rw [row4, u0, u1, u2, u3] at R
    rw [row4, u0, u1, u2, u3] at RB
    have RR := Lib.hid R
    have hbs := HS.out
    have hbn := HN.out
    have hbm := HB.out
    clear u0 u1 u2 u3 R HU HS HN HB
    cases bs <;> cases bm <;> cases bn <;> (go_wp2_with fail; go_meet; exact ⟨_, rfl, RR.out, RB.out⟩)
  case rest =>
    rename World => w2
    obtain ⟨b, rfl, hR, hb⟩ := hcut
    have R2 := Lib.hid hR
    have B2 := Lib.hid (B1.out.trans (hb.mono B1.out.size))
    have V2 := Lib.hid (V1.out.below hb)
    have HL2 := Lib.hid ((HL.out.below B1.out).below hb)
    clear hR hb B1 V1 HU HS HN HB HL
    have x0 : _ = some (Value.int .i64 k) := V2.out.cell (i := 0) (by decide)
    by_cases k1 : k = 1
    · have y1 : w2.cell? ⟨b, 1, none⟩ = some (.bool (U 1)) := R2.out.cell (i := 1) (by decide)
      obtain ⟨u, hu⟩ : ∃ u, U 1 = u := ⟨_, rfl⟩
      rw [hu] at y1
      have F : Hid (Ending.returned (.tuple #[.int .i64 0, .bool u]) = Ending.returned (.tuple #[.int .i64 (fmD (.mk k n s l)), .bool (formB (.mk k n s l))])) := Lib.hid (by rw [k1, fmD_no _ _ _ (by decide), E1.out, hu])
      subst k1
      clear hu E1 E2 E3 HC HM HT IH HD V2 R2 HL2
      cases u <;> (go_wp2_with fail; go_ret2; exact ⟨F.out, B2.out⟩)
    by_cases k2 : k = 2
    · have y1 : w2.cell? ⟨b, 2, none⟩ = some (.bool (U 2)) := R2.out.cell (i := 2) (by decide)
      obtain ⟨u, hu⟩ : ∃ u, U 2 = u := ⟨_, rfl⟩
      rw [hu] at y1
      have F : Hid (Ending.returned (.tuple #[.int .i64 0, .bool u]) = Ending.returned (.tuple #[.int .i64 (fmD (.mk k n s l)), .bool (formB (.mk k n s l))])) := Lib.hid (by rw [k2, fmD_no _ _ _ (by decide), E2.out, hu])
      subst k2
      clear hu E1 E2 E3 HC HM HT IH HD V2 R2 HL2 k1
      cases u <;> (go_wp2_with fail; go_ret2; exact ⟨F.out, B2.out⟩)
    by_cases k3 : k = 3
    · subst k3
      have y1 : w2.cell? ⟨b, 3, none⟩ = some (.bool (U 3)) := R2.out.cell (i := 3) (by decide)
      obtain ⟨u, hu⟩ : ∃ u, U 3 = u := ⟨_, rfl⟩
      rw [hu] at y1
      have F3 : Hid (formB (.mk 3 n s l) = (u && formL l)) := Lib.hid (by rw [E3.out, hu])
      have HT3 : Hid (depthL l + 1 ≤ d) := Lib.hid (by have := HT.out; rwa [depth_3] at this)
      have G3 : Hid (depthN (.mk 3 n s l) = depthL l + 1) := Lib.hid (by rw [depth_3])
      clear hu E1 E2 E3 HT k1 k2
      cases u
      · have F : Hid (Ending.returned (.tuple #[.int .i64 0, .bool false]) = Ending.returned (.tuple #[.int .i64 (fmD (.mk 3 n s l)), .bool (formB (.mk 3 n s l))])) := Lib.hid (by rw [fmD, F3.out]; rfl)
        clear HC HM IH HD V2 R2 HL2
        go_wp2_with fail; go_ret2; exact ⟨F.out, B2.out⟩
      · have CH : Hid (∀ i, i < m → ∀ W, CodAt W (.agg (rowF 4 (c i))) (l.getD i tv0) → Calls Tryz.prog 101 #[.agg (rowF 4 (c i))] W fun e w' => e = .returned (.tuple #[.int .i64 (fmD (l.getD i tv0)), .bool (formB (l.getD i tv0))]) ∧ Below W.heap.size W w') := Lib.hid (fun i hi W h =>
          IH.out (d - 1) (by have := HT3.out; omega) (by have := HD.out; omega) (l.getD i tv0) _ W (depth_child (by rw [HM.out]; exact hi) (by have := HT3.out; omega)) h)
        have DB : Hid (∀ i, (depthL (l.take i) : Int) ≤ 1000) := Lib.hid (fun i => by
          have h1 : depthL l = max (depthL (l.take i)) (depthL (l.drop i)) := by rw [← depthL_append, List.take_append_drop]
          have := HT3.out; have := HD.out; omega)
        have x3 : _ = some (Value.slice a m cap) := V2.out.cell (i := 3) (by decide)
        have D0 : Hid (depthL (l.take 0) = 0) := Lib.hid (by simp [depthL])
        have L0 : Hid (formL (l.take 0) = true) := Lib.hid (by simp [formL])
        have zm := HL2.out.len_le
        go_upto_region 7 with fail
        clear x0 x3 y1 IH HD
        go_loopg [2, 57] m (fun g s2 s57 wx => ∃ i : Nat, i + g = m ∧ s57 = .int .i64 (i : Int) ∧ s2 = .int .i64 ((depthL (l.take i) : Nat) : Int) ∧ Hid (formL (l.take i) = true) ∧ Hid (Below w2.heap.size w2 wx))
        case atStart => exact ⟨0, by omega, rfl, by rw [D0.out]; rfl, L0, Lib.hid (Below.refl _ _)⟩
        case round =>
          obtain ⟨i, hi, rfl, rfl, hF, hB⟩ := hrel
          obtain ⟨w3, rfl⟩ : ∃ y, y = wr := ⟨_, rfl⟩
          by_cases hlt : i < m
          · obtain ⟨b2, off, rfl, hcap, hb2, hcell⟩ := (HL2.out.below hB.out).at_elem hlt
            have HE := Lib.hid (hcell i hlt)
            have CE := Lib.hid (HC.out i hlt)
            have CA := Lib.hid (CH.out i hlt)
            have OC := Lib.hid CE.out.cells
            have ST := Lib.hid (formL_take l (k := i) (by rw [HM.out]; exact hlt))
            have DT := Lib.hid (depthL_take l (k := i) (by rw [HM.out]; exact hlt))
            have NO := Lib.hid (fun h => formL_no (l := l) (k := i) (by rw [HM.out]; exact hlt) h)
            obtain ⟨ti, hti⟩ : ∃ f, l.getD i tv0 = f := ⟨_, rfl⟩
            rw [hti] at CE CA ST DT NO
            obtain ⟨fb, hfb⟩ : ∃ f, formB ti = f := ⟨_, rfl⟩
            obtain ⟨fd, hfd⟩ : ∃ f, fmD ti = f := ⟨_, rfl⟩
            have FD : Hid (fb = true → fd = ((depthN ti : Nat) : Int)) := Lib.hid (fun h => by rw [← hfd, fmD, hfb, h]; rfl)
            rw [hfb] at CA ST NO
            rw [hfd] at CA
            have d0 : decide ((i : Int) < (m : Int)) = true := by rw [decide_eq_true_iff]; omega
            have z1 : (0 : Int) ≤ (i : Int) := Int.natCast_nonneg i
            have z2 : (i : Int) < (m : Int) := by omega
            have p0 : 0 ≤ (i : Int) ∧ (i : Int) < (m : Int) := by omega
            have z3 : ((i : Int)).toNat = i := Int.toNat_natCast i
            have ZR := Lib.hid (RowV.new w3 59 4 zeroC)
            have BC := Lib.hid (B2.out.trans (hB.out.mono B2.out.size))
            clear hcell hti hfb hfd hb2 hlt
            go_upto_region 9 with (first | ((with_reducible (show wpList _ _ _ (Oper.mk (some 60) _ _ _ _ _ :: _) _ _)); refine wpList_load_elem rfl 59 (.tmp 59) rfl b2 _ rfl 4 off i (by omega) (c i) HE.out _ Tryz.underlying59 rfl (by kernel_rfl) ?_) | ((with_reducible (show wpList _ _ _ (Oper.mk none _ _ _ _ _ :: _) _ _)); refine wpList_store_rowV (o := ⟨none, .store 59 (.tmp 6) (.tmp 60), _, _, _, _⟩) rfl 59 (.tmp 6) (.tmp 60) rfl w3.heap.size rfl 4 59 _ (c i) rfl ZR.out (by kernel_rfl) OC.out ?_; intro w4 V4 o4))
            have b4 : Below w3.heap.size w3 w4 := ((Below.refl _ w3).alloc (Nat.le_refl _) _).trans (o4.out.below (Nat.le_refl _) (by rw [World.size_alloc]; omega))
            have B4 := Lib.hid (BC.out.trans (b4.mono BC.out.size))
            have K4 := Lib.hid (hB.out.trans (b4.mono hB.out.size))
            clear b4 o4 hB BC HE ZR OC
            go_wp2_with ((with_reducible (show wpList _ _ _ (Oper.mk (some 62) _ _ _ _ _ :: _) _ _)); refine wpList_load_rowV rfl 59 (.tmp 6) rfl w3.heap.size rfl 4 59 _ V4.out _ Tryz.underlying59 rfl (by kernel_rfl) ?_)
            refine (CA.out _ (CE.out.later B4.out)).mono ?_
            rintro e w5 ⟨rfl, b5⟩
            have B5 := Lib.hid (B4.out.trans (b5.mono B4.out.size))
            have K5 := Lib.hid (K4.out.trans (b5.mono K4.out.size))
            clear b5 B4 K4 V4 CE CA
            cases fb
            · have F : Hid (Ending.returned (.tuple #[.int .i64 0, .bool false]) = Ending.returned (.tuple #[.int .i64 (fmD (.mk 3 n s l)), .bool (formB (.mk 3 n s l))])) := Lib.hid (by rw [fmD, F3.out, NO.out rfl]; rfl)
              clear CH HC ST DT NO FD
              go_wp2_with fail
              go_ret2
              exact ⟨F.out, B5.out⟩
            · obtain rfl := FD.out rfl
              have D1 := Lib.hid (DB.out (i + 1))
              have L1 : Hid (formL (l.take (i + 1)) = true) := Lib.hid (by rw [ST.out, hF.out]; rfl)
              rw [DT.out] at D1
              clear ST FD NO
              go_wp2_with fail
              go_roundg (gk - 1)
              case measure => omega
              case rel =>
                go_light
                exact ⟨i + 1, by omega, by go_num, by rw [DT.out]; congr 1; omega, L1, K5⟩
          · obtain rfl : i = m := by omega
            have d0 : decide ((i : Int) < (i : Int)) = false := by rw [decide_eq_false_iff_not]; omega
            have e1 : l.take i = l := List.take_of_length_le (by rw [HM.out]; exact Nat.le_refl _)
            have D1 := DB.out i
            rw [e1] at hF D1 ⊢
            have F : Hid (Ending.returned (.tuple #[.int .i64 (((depthL l : Nat) : Int) + 1), .bool true]) = Ending.returned (.tuple #[.int .i64 (fmD (.mk 3 n s l)), .bool (formB (.mk 3 n s l))])) := Lib.hid (by rw [fmD, F3.out, hF.out, G3.out]; rfl)
            have BF := Lib.hid (B2.out.trans (hB.out.mono B2.out.size))
            obtain ⟨dl, hdl⟩ : ∃ y, depthL l = y := ⟨_, rfl⟩
            rw [hdl] at F D1 ⊢
            have z0 : (0 : Int) ≤ (dl : Int) := Int.natCast_nonneg dl
            clear hdl e1 hF hB CH HC DB HL2 HM HT3 G3
            go_wp2_with fail
            go_ret2
            exact ⟨F.out, BF.out⟩
    · have F : Hid (Ending.returned (.tuple #[.int .i64 0, .bool false]) = Ending.returned (.tuple #[.int .i64 (fmD (.mk k n s l)), .bool (formB (.mk k n s l))])) := Lib.hid (by rw [fmD_no _ _ _ k3, form_no n s l k1 k2 k3])
      by_cases hlo : k < 1
      · have d0 : decide (k < 1) = true := by rw [decide_eq_true_iff]; exact hlo
        clear k1 k2 k3 E1 E2 E3 HC HM HT IH HD V2 R2 HL2
        go_wp2_with fail; go_ret2; exact ⟨F.out, B2.out⟩
      · have d0 : decide (k < 1) = false := by rw [decide_eq_false_iff_not]; exact hlo
        have d1 : decide (3 < k) = true := by rw [decide_eq_true_iff]; omega
        clear k1 k2 k3 E1 E2 E3 HC HM HT IH HD V2 R2 HL2
        go_wp2_with fail; go_ret2; exact ⟨F.out, B2.out⟩
end Go.Proofs.YtpekhdahamloaaaGreatDoor
