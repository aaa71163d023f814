/- The contract of chartroomref03.Eval. -/
import Derived.Test.YtajcpbchpcnmaaaEval
set_option linter.unusedVariables false
set_option linter.unusedSimpArgs false
namespace Go.Proofs.Ytajcpbchpcnmaaa
open Go.RowKit Go.Shelf

theorem modadd {n a b c d : Nat} (h1 : a % n = b % n) (h2 : c % n = d % n) : (a + c) % n = (b + d) % n := by rw [Nat.add_mod, h1, h2, ← Nat.add_mod]
theorem modmul {n a b c d : Nat} (h1 : a % n = b % n) (h2 : c % n = d % n) : a * c % n = b * d % n := by rw [Nat.mul_mod, h1, h2, ← Nat.mul_mod]

/-- what the loop keeps: what has been added up, and the value of what is left times the power -/
def EInv (x v : Nat) (l : List Nat) (y p : Nat) : Prop := (y + p * evalQ x l) % 2305843009213688669 = v
theorem einv_start (x : Nat) (l : List Nat) : EInv x (evalQ x l) l 0 1 := by
  unfold EInv; rw [Nat.zero_add, Nat.one_mul, Nat.mod_eq_of_lt (evalQ_lt x l)]
theorem einv_end {x v y p : Nat} (hy : y < 2305843009213688669) (h : EInv x v [] y p) : y = v := by
  unfold EInv evalQ at h; rw [Nat.mul_zero, Nat.add_zero, Nat.mod_eq_of_lt hy] at h; exact h
theorem einv_step {x v c y p : Nat} {l : List Nat} (h : EInv x v (c :: l) y p) : EInv x v l (addQ y (mulQ c p)) (mulQ p x) := by
  unfold EInv at *
  rw [← h]
  show ((y + c * p % 2305843009213688669) % 2305843009213688669 + (p * x % 2305843009213688669) * evalQ x l) % 2305843009213688669 = (y + p * ((evalQ x l * x % 2305843009213688669 + c) % 2305843009213688669)) % 2305843009213688669
  generalize evalQ x l = e
  have e1 : ((y + c * p % 2305843009213688669) % 2305843009213688669 + (p * x % 2305843009213688669) * e) % 2305843009213688669 = (y + c * p + p * x * e) % 2305843009213688669 :=
    modadd ((Nat.mod_mod _ _).trans (modadd rfl (Nat.mod_mod _ _))) (modmul (Nat.mod_mod _ _) rfl)
  have e2 : (y + p * ((e * x % 2305843009213688669 + c) % 2305843009213688669)) % 2305843009213688669 = (y + p * (e * x + c)) % 2305843009213688669 :=
    modadd rfl (modmul rfl ((Nat.mod_mod _ _).trans (modadd (Nat.mod_mod _ _) rfl)))
  rw [e1, e2]
  congr 1
  rw [Nat.mul_add, Nat.mul_comm c p, Nat.mul_comm e x, Nat.mul_assoc]
  omega

set_option maxHeartbeats 1000000 in
theorem reval_yes (b off cap : Nat) (cs : List Sc) (x : Nat) (hx : x < 2305843009213688669) (hlen : (cs.length : Int) ≤ 9223372036854775807) (w : World) (hc : ∀ j, j < cs.length → w.cell? ⟨b, off + j, none⟩ = some (.int .i64 ((cs.getD j ⟨0, by decide⟩).1 : Int))) :
    Calls Try.prog 42 #[.slice (some ⟨b, off, none⟩) cs.length cap, .int .i64 x] w fun e w' => e = .returned (.tuple #[.int .i64 ((evalQ x (cs.map (·.1)) : Nat) : Int), .int .i64 0]) ∧ w = w' := by
  have s0 := fun w => rscalar3_any (x : Int) w
  rw [scalB_of hx] at s0
  have S0 := Lib.hid s0
  have HC := Lib.hid hc
  have Hx := Lib.hid hx
  obtain ⟨v, hv⟩ : ∃ v, evalQ x (cs.map (·.1)) = v := ⟨_, rfl⟩
  have hst : Hid (EInv x v ((cs.map (·.1)).drop 0) 0 1) := by
    rw [← hv]; exact einv_start x _
  have h1q : Hid (1 < 2305843009213688669) := (by decide : 1 < 2305843009213688669)
  have h0q : Hid (0 < 2305843009213688669) := (by decide : 0 < 2305843009213688669)
  rw [hv]
  clear s0 hc hx hv
  go_enter Try.func42, Try.ntmps42
  go_wp2_with fail
  refine (S0.out _).mono ?_
  rintro e w' ⟨rfl, rfl⟩
  go_wp2_with fail
  go_loop [6, 7, 8] (fun s6 s7 s8 => ∃ y p i : Nat, s6 = .int .i64 y ∧ s7 = .int .i64 p ∧ s8 = .int .i64 i ∧ i ≤ cs.length ∧ Hid (y < 2305843009213688669) ∧ Hid (p < 2305843009213688669) ∧ Hid (EInv x v ((cs.map (·.1)).drop i) y p)) (fun _ _ s8 => cs.length - (RowKit.intOf s8).toNat)
  case atStart => exact ⟨0, 1, 0, rfl, rfl, rfl, Nat.zero_le _, h0q, h1q, hst⟩
  case round =>
    obtain ⟨y, p, i, rfl, rfl, rfl, hi, hy, hp, hI⟩ := hrel
    clear hst h1q h0q
    by_cases hlt : i < cs.length
    · have hcell := HC.out i hlt
      have hg : (cs.getD i ⟨0, by decide⟩) = cs[i] := by rw [List.getD_eq_getElem?_getD, List.getElem?_eq_getElem hlt]; rfl
      rw [hg] at hcell
      have hdrop : (cs.map (·.1)).drop i = (cs[i]).1 :: (cs.map (·.1)).drop (i + 1) := by
        rw [List.drop_eq_getElem_cons (by rw [List.length_map]; exact hlt), List.getElem_map]
      have hI2 := hI.out
      rw [hdrop] at hI2
      have hI3 := einv_step hI2
      obtain ⟨⟨c, hcq⟩, hce⟩ : ∃ c : Sc, cs[i] = c := ⟨_, rfl⟩
      rw [hce] at hcell hI3
      have s1 := fun w => rscalar3_any (c : Int) w
      rw [scalB_of hcq] at s1
      have c1 := fun w => rproduct3_any c p hcq (Nat.le_trans (Nat.le_of_lt hp.out) (by decide)) w
      have c2 := fun w => rsum3_any y (mulQ c p) (addQ_bound hy.out (mulQ_lt c p)) w
      have c3 := fun w => rproduct3_any p x hp.out (Nat.le_trans (Nat.le_of_lt Hx.out) (by decide)) w
      have hy' : Hid (addQ y (mulQ c p) < 2305843009213688669) := addQ_lt _ _
      have hp' : Hid (mulQ p x < 2305843009213688669) := mulQ_lt _ _
      have HI3 := Lib.hid hI3
      obtain ⟨cp, ecp⟩ : ∃ z, mulQ c p = z := ⟨_, rfl⟩
      obtain ⟨y2, ey2⟩ : ∃ z, addQ y (mulQ c p) = z := ⟨_, rfl⟩
      obtain ⟨p2, ep2⟩ : ∃ z, mulQ p x = z := ⟨_, rfl⟩
      rw [ecp] at c1 ey2
      rw [ecp, ey2] at c2 hy' HI3
      rw [ep2] at c3 hp' HI3
      have S1 := Lib.hid s1
      have C1 := Lib.hid c1
      have C2 := Lib.hid c2
      have C3 := Lib.hid c3
      have HI4 : Hid (EInv x v ((cs.map (·.1)).drop (i + 1)) y2 p2) := HI3.out
      have hcell' : w.cell? ⟨b, off + i, none⟩ = some (.int .i64 (c : Int)) := hcell
      have g0 : decide (i < cs.length) = true := decide_eq_true hlt
      have hi' : i + 1 ≤ cs.length := hlt
      clear s1 c1 c2 c3 hI hI2 hI3 hcell hdrop hg hce hcq ecp ey2 ep2 hy hp HI3
      go_wp2_with fail
      refine (S1.out _).mono ?_
      rintro e w' ⟨rfl, rfl⟩
      go_wp2_with fail
      refine (C1.out _).mono ?_
      rintro e w' ⟨rfl, rfl⟩
      go_wp2_with fail
      refine (C2.out _).mono ?_
      rintro e w' ⟨rfl, rfl⟩
      go_wp2_with fail
      refine (C3.out _).mono ?_
      rintro e w' ⟨rfl, rfl⟩
      go_wp2_with fail
      go_round
      case rel => exact ⟨y2, p2, i + 1, rfl, rfl, by go_num, hi', hy', hp', HI4⟩
      case measure => simp [RowKit.intOf]; omega
    · have g0 : decide (i < cs.length) = false := decide_eq_false hlt
      have hfin := hI.out
      rw [List.drop_eq_nil_of_le (by rw [List.length_map]; omega)] at hfin
      have he := einv_end hy.out hfin
      subst he
      clear hI hfin hlt hi
      go_wp2_with fail
      go_ret2
      exact ⟨rfl, rfl⟩

set_option maxHeartbeats 1000000 in
theorem reval_x (a : Option Addr) (l c : Nat) (x : Int) (hx : scalB x = false) (w : World) :
    Calls Try.prog 42 #[.slice a l c, .int .i64 x] w fun e w' => e = .returned (.tuple #[.int .i64 0, .int .i64 1]) ∧ w = w' := by
  have s0 := fun w => rscalar3_any x w
  rw [hx] at s0
  have S0 := Lib.hid s0
  clear s0 hx
  go_enter Try.func42, Try.ntmps42
  go_wp2_with fail
  refine (S0.out _).mono ?_
  rintro e w' ⟨rfl, rfl⟩
  go_wp2_with fail
  go_ret2
  exact ⟨rfl, rfl⟩

theorem reval_nil (a : Option Addr) (c : Nat) (x : Nat) (hx : x < 2305843009213688669) (w : World) :
    Calls Try.prog 42 #[.slice a 0 c, .int .i64 x] w fun e w' => e = .returned (.tuple #[.int .i64 0, .int .i64 0]) ∧ w = w' := by
  have s0 := fun w => rscalar3_any (x : Int) w
  rw [scalB_of hx] at s0
  have S0 := Lib.hid s0
  clear s0 hx
  go_enter Try.func42, Try.ntmps42
  go_wp2_with fail
  refine (S0.out _).mono ?_
  rintro e w' ⟨rfl, rfl⟩
  go_wp2_with fail
  refine wp_loop_rounds 1 ?_
  rw [rounds_succ]
  go_wp2_with fail
  go_ret2
  exact ⟨rfl, rfl⟩

set_option maxHeartbeats 1000000 in
theorem reval_no (b off cap : Nat) (zs : List Int) (x : Nat) (hx : x < 2305843009213688669) (hlen : (zs.length : Int) ≤ 9223372036854775807) (ho : outB zs = true) (w : World) (hc : ∀ j, j < zs.length → w.cell? ⟨b, off + j, none⟩ = some (.int .i64 (zs[j]?.getD 0))) :
    Calls Try.prog 42 #[.slice (some ⟨b, off, none⟩) zs.length cap, .int .i64 x] w fun e w' => e = .returned (.tuple #[.int .i64 0, .int .i64 1]) ∧ w = w' := by
  have s0 := fun w => rscalar3_any (x : Int) w
  rw [scalB_of hx] at s0
  have S0 := Lib.hid s0
  have HC := Lib.hid hc
  have Hx := Lib.hid hx
  have Ho := Lib.hid ho
  have h1q : Hid (1 < 2305843009213688669) := (by decide : 1 < 2305843009213688669)
  have h0q : Hid (0 < 2305843009213688669) := (by decide : 0 < 2305843009213688669)
  clear s0 hc hx ho
  go_enter Try.func42, Try.ntmps42
  go_wp2_with fail
  refine (S0.out _).mono ?_
  rintro e w' ⟨rfl, rfl⟩
  go_wp2_with fail
  go_loop [6, 7, 8] (fun s6 s7 s8 => ∃ y p i : Nat, s6 = .int .i64 y ∧ s7 = .int .i64 p ∧ s8 = .int .i64 i ∧ i ≤ zs.length ∧ Hid (y < 2305843009213688669) ∧ Hid (p < 2305843009213688669) ∧ Hid (∀ j, j < i → scalB (zs[j]?.getD 0) = true)) (fun _ _ s8 => zs.length - (RowKit.intOf s8).toNat)
  case atStart => exact ⟨0, 1, 0, rfl, rfl, rfl, Nat.zero_le _, h0q, h1q, fun j hj => by omega⟩
  case round =>
    obtain ⟨y, p, i, rfl, rfl, rfl, hi, hy, hp, hI⟩ := hrel
    clear h1q h0q
    by_cases hlt : i < zs.length
    · have hcell := HC.out i hlt
      obtain ⟨z, hz⟩ : ∃ z, zs[i]?.getD 0 = z := ⟨_, rfl⟩
      rw [hz] at hcell
      have s1 := fun w => rscalar3_any z w
      have g0 : decide (i < zs.length) = true := decide_eq_true hlt
      have hi' : i + 1 ≤ zs.length := hlt
      cases hs : scalB z with
      | false =>
        rw [hs] at s1
        have S1 := Lib.hid s1
        clear s1 hs hz hy hp hI
        go_wp2_with fail
        refine (S1.out _).mono ?_
        rintro e w' ⟨rfl, rfl⟩
        go_wp2_with fail
        go_ret2
        exact ⟨rfl, rfl⟩
      | true =>
        rw [hs] at s1
        have hI' : Hid (∀ j, j < i + 1 → scalB (zs[j]?.getD 0) = true) := fun j hj => by
          by_cases hji : j = i
          · rw [hji, hz]; exact hs
          · exact hI.out j (by omega)
        obtain ⟨c, rfl, hcq⟩ := scalB_nat hs
        have c1 := fun w => rproduct3_any c p hcq (Nat.le_trans (Nat.le_of_lt hp.out) (by decide)) w
        have c2 := fun w => rsum3_any y (mulQ c p) (addQ_bound hy.out (mulQ_lt c p)) w
        have c3 := fun w => rproduct3_any p x hp.out (Nat.le_trans (Nat.le_of_lt Hx.out) (by decide)) w
        have hy' : Hid (addQ y (mulQ c p) < 2305843009213688669) := addQ_lt _ _
        have hp' : Hid (mulQ p x < 2305843009213688669) := mulQ_lt _ _
        obtain ⟨cp, ecp⟩ : ∃ z, mulQ c p = z := ⟨_, rfl⟩
        obtain ⟨y2, ey2⟩ : ∃ z, addQ y (mulQ c p) = z := ⟨_, rfl⟩
        obtain ⟨p2, ep2⟩ : ∃ z, mulQ p x = z := ⟨_, rfl⟩
        rw [ecp] at c1 ey2
        rw [ecp, ey2] at c2 hy'
        rw [ep2] at c3 hp'
        have S1 := Lib.hid s1
        have C1 := Lib.hid c1
        have C2 := Lib.hid c2
        have C3 := Lib.hid c3
        clear s1 c1 c2 c3 hI hz hs hcq ecp ey2 ep2 hy hp
        go_wp2_with fail
        refine (S1.out _).mono ?_
        rintro e w' ⟨rfl, rfl⟩
        go_wp2_with fail
        refine (C1.out _).mono ?_
        rintro e w' ⟨rfl, rfl⟩
        go_wp2_with fail
        refine (C2.out _).mono ?_
        rintro e w' ⟨rfl, rfl⟩
        go_wp2_with fail
        refine (C3.out _).mono ?_
        rintro e w' ⟨rfl, rfl⟩
        go_wp2_with fail
        go_round
        case rel => exact ⟨y2, p2, i + 1, rfl, rfl, by go_num, hi', hy', hp', hI'⟩
        case measure => simp [RowKit.intOf]; omega
    · exfalso
      have : outB zs = false := outB_false (fun j hj => hI.out j (by omega))
      rw [Ho.out] at this
      cases this

theorem reval_any (sv : Value) (zs : List Int) (x : Int) (w : World) (h : IntsAt w sv zs) :
    Calls Try.prog 42 #[sv, .int .i64 x] w fun e w' => e = .returned (.tuple #[.int .i64 (fevalV zs x), .int .i64 (fevalE zs x)]) ∧ w = w' := by
  unfold fevalV fevalE
  cases hx : scalB x with
  | false =>
    simp only [Bool.false_and, Bool.false_eq_true, if_false]
    rcases h with ⟨⟨a, c, rfl⟩, _⟩ | ⟨b, off, cap, rfl, _⟩
    · exact reval_x _ _ _ x hx w
    · exact reval_x _ _ _ x hx w
  | true =>
    obtain ⟨n, rfl, hn⟩ := scalB_nat hx
    cases ho : outB zs with
    | true =>
      simp only [Bool.not_true, Bool.and_false, Bool.false_eq_true, if_false]
      rcases h with ⟨_, rfl⟩ | ⟨b, off, cap, rfl, h2, _, h4⟩
      · exact absurd ho (by decide)
      · exact reval_no b off cap zs n hn h2 ho w h4
    | false =>
      simp only [Bool.not_false, Bool.and_self, if_true]
      obtain ⟨cs, e1, e2⟩ := scs_of zs ho
      rw [e2, Int.toNat_natCast]
      rcases h with ⟨⟨a, c, rfl⟩, rfl⟩ | ⟨b, off, cap, rfl, h2, _, h4⟩
      · have : cs = [] := List.map_eq_nil_iff.1 e1.symm
        subst this
        exact reval_nil a c n hn w
      · subst e1
        rw [List.length_map] at h2 ⊢
        exact reval_yes b off cap cs n hn h2 w (scsAt_cell h4)

end Go.Proofs.Ytajcpbchpcnmaaa
