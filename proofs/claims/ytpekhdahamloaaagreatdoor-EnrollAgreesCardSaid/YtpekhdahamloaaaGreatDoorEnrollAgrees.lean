/- EnrollAgrees returns true for every input. No condition beyond the card's own: the two tables of package digest and the variable errorType of package errors are tied to the program's text. -/
import Derived.Test.YtpekhdahamloaaaGreatDoorPk52
import Derived.Test.YtpekhdahamloaaaGreatDoorPk44
import Derived.Test.YtpekhdahamloaaaGreatDoorPk34
import Derived.Test.YtpekhdahamloaaaGreatDoorPk30
import Derived.Test.YtpekhdahamloaaaGreatDoorCards
namespace Go.Proofs.YtpekhdahamloaaaGreatDoor.enrollAgrees
open Go.ChangeShapes Go.WideShapes Go.ChangeAt Go.RowKit
open Go.ChangeMaps (open_string shut_string)
set_option linter.unusedVariables false
set_option linter.unusedSimpArgs false

abbrev peQ (a : Pe × Sv) (j : Nat) : Value := peC a.1 a.2 j
theorem build_p (i r : Int) (W : World) : (Instr.build 68 #[(0, .int .i64 i), (1, .int .i64 r)]).run Tryz.prog W = .ok (.agg (rowF 5 (peC ⟨i, r, [], 0, 0⟩ pe00))) W := by kernel_rfl
theorem pes_of {w : World} {v : Value} {p : Pe} (hp : p.gs = []) (h : SlAt 5 w v 1 (fun i => peQ ([(p, pe00)].getD i (pe0, pe00)))) : PesS w v [p] us0 := by
  refine ⟨h.congr (fun i hi j hj => ?_), fun i hi => ?_⟩
  · obtain rfl : i = 0 := by omega
    rfl
  · obtain rfl : i = 0 := by simp at hi; exact hi
    show (us0 0).n = p.gs.length ∧ IntsS w (.slice (us0 0).a (us0 0).n (us0 0).k) p.gs
    rw [hp]
    exact ⟨rfl, .inl ⟨⟨none, 0, rfl, fun _ => rfl⟩, rfl⟩⟩
theorem um (x : Int) (m : Int) (M : Nat) (hm : m = (M : Int)) : ∃ u : Int, IntKind.u64.wrap x = u ∧ u.tmod m = (((x % 18446744073709551616).toNat % M : Nat) : Int) := by
  refine ⟨(((x % 18446744073709551616).toNat : Nat) : Int), by rw [IntKind.wrap_u64]; omega, ?_⟩
  subst hm
  rw [Int.tmod_eq_emod_of_nonneg (Int.natCast_nonneg _)]; rfl
theorem hostD {P : Nat} (hP : P < 64) (s : Int) : ∃ s1 H : Int, bits .and .i64 s 7 = s1 ∧ IntKind.i64.wrap ((P : Int) * 8 + s1) = H ∧ devB H = true ∧ H.tdiv 8 = (P : Int) ∧ i64B H := by
  have h1 : 0 ≤ s % 8 ∧ s % 8 < 8 := by omega
  refine ⟨s % 8, (P : Int) * 8 + s % 8, i64_and7 s, IntWalk.i64_in _ (by omega), (devB_iff _).2 (by omega), ?_, by unfold i64B; omega⟩
  rw [Int.tdiv_eq_ediv_of_nonneg (by omega)]; omega
set_option maxRecDepth 100000 in
set_option maxHeartbeats 16000000 in
theorem walk {w : World} (p : Int) (wp : (Lit.int .i64 p).wf = true) (c : Int) (wc : (Lit.int .i64 c).wf = true) (a : Int) (wa : (Lit.int .i64 a).wf = true) (b : Int) (wb : (Lit.int .i64 b).wf = true) (sl : Int) (wsl : (Lit.int .i64 sl).wf = true) (ot : Int) (wot : (Lit.int .i64 ot).wf = true) (ks : Int) (wks : (Lit.int .i64 ks).wf = true) (hT : Tab w) (hE : ErrT w) :
    Calls Tryz.prog 9 #[.int .i64 p, .int .i64 c, .int .i64 a, .int .i64 b, .int .i64 sl, .int .i64 ot, .int .i64 ks] w fun e w' => e = .returned (.bool true) ∧ Below w.heap.size w w' := by
  have SN := Lib.hid (fun W (h : Tab W) (h2 : ErrT W) => sane38_any W h h2)
  have HT := Lib.hid hT
  have HE := Lib.hid hE
  have hsz : ∀ g : Nat → Value, (rowF 5 g).size = 5 := fun g => rowF_size _ _
  have hP : perN p < 64 := Nat.mod_lt _ (by decide)
  have hC : codeN c < 1000000 := codeN_lt c
  have hA := secN_bd a
  have hB := secN_bd b
  have hK : 1 ≤ keyN ks ∧ keyN ks ≤ 1000000 := by unfold keyN; omega
  obtain ⟨pu, e1, g1⟩ := um p 64 64 rfl
  rw [show (p % 18446744073709551616).toNat % 64 = perN p from rfl] at g1
  obtain ⟨cu, e2, g2⟩ := um c 1000000 1000000 rfl
  rw [show (c % 18446744073709551616).toNat % 1000000 = codeN c from rfl] at g2
  obtain ⟨au, e3, g3⟩ := um a 2305843009213688668 2305843009213688668 rfl
  obtain ⟨bu, e4, g4⟩ := um b 2305843009213688668 2305843009213688668 rfl
  obtain ⟨ku, e5, g5⟩ := um ks 1000000 1000000 rfl
  obtain ⟨P, eP⟩ : ∃ y, perN p = y := ⟨_, rfl⟩
  obtain ⟨C, eC⟩ : ∃ y, codeN c = y := ⟨_, rfl⟩
  rw [eP] at hP g1
  rw [eC] at hC g2
  obtain ⟨A, eA⟩ : ∃ y, secN a = y := ⟨_, rfl⟩
  obtain ⟨B, eB⟩ : ∃ y, secN b = y := ⟨_, rfl⟩
  obtain ⟨K, eK⟩ : ∃ y, keyN ks = y := ⟨_, rfl⟩
  rw [eA] at hA
  rw [eB] at hB
  rw [eK] at hK
  obtain ⟨a0, ha0⟩ : ∃ y : Int, (((a % 18446744073709551616).toNat % 2305843009213688668 : Nat) : Int) = y := ⟨_, rfl⟩
  obtain ⟨b0, hb0⟩ : ∃ y : Int, (((b % 18446744073709551616).toNat % 2305843009213688668 : Nat) : Int) = y := ⟨_, rfl⟩
  obtain ⟨k0, hk0⟩ : ∃ y : Int, (((ks % 18446744073709551616).toNat % 1000000 : Nat) : Int) = y := ⟨_, rfl⟩
  have qA : (A : Int) = 1 + a0 := by rw [← eA, ← ha0]; unfold secN; omega
  have qB : (B : Int) = 1 + b0 := by rw [← eB, ← hb0]; unfold secN; omega
  have qK : (K : Int) = 1 + k0 := by rw [← eK, ← hk0]; unfold keyN; omega
  rw [ha0] at g3
  rw [hb0] at g4
  rw [hk0] at g5
  obtain ⟨s1, H, hs1, v6, dH, tH, iH⟩ := hostD hP sl
  obtain ⟨s2, G, hs2, v7, dG, tG, iG⟩ := hostD hP ot
  have v1 : IntKind.i64.wrap (P : Int) = (P : Int) := IntWalk.i64_in _ (by omega)
  have v2 : IntKind.i64.wrap (C : Int) = (C : Int) := IntWalk.i64_in _ (by omega)
  have v3 : IntKind.i64.wrap a0 = a0 := IntWalk.i64_in _ (by omega)
  have v4 : IntKind.i64.wrap b0 = b0 := IntWalk.i64_in _ (by omega)
  have v5 : IntKind.i64.wrap k0 = k0 := IntWalk.i64_in _ (by omega)
  have v3' : IntKind.i64.wrap (1 + a0) = (A : Int) := by rw [qA]; exact IntWalk.i64_in _ (by omega)
  have v4' : IntKind.i64.wrap (1 + b0) = (B : Int) := by rw [qB]; exact IntWalk.i64_in _ (by omega)
  have v5' : IntKind.i64.wrap (1 + k0) = (K : Int) := by rw [qK]; exact IntWalk.i64_in _ (by omega)
  have ZO : Hid (¬ H = G → Agr.ok ⟨P, C, A, B, K, H, G⟩) := Lib.hid (fun h => ⟨hP, hC, hA.1, hA.2, hB.1, hB.2, hK.1, hK.2, dH, tH, dG, tG, h⟩)
  obtain ⟨P', xP⟩ : ∃ y : Int, (P : Int) = y := ⟨_, rfl⟩
  obtain ⟨C', xC⟩ : ∃ y : Int, (C : Int) = y := ⟨_, rfl⟩
  obtain ⟨A', xA⟩ : ∃ y : Int, (A : Int) = y := ⟨_, rfl⟩
  obtain ⟨B', xB⟩ : ∃ y : Int, (B : Int) = y := ⟨_, rfl⟩
  obtain ⟨K', xK⟩ : ∃ y : Int, (K : Int) = y := ⟨_, rfl⟩
  obtain ⟨P8, x8⟩ : ∃ y : Int, (P : Int) * 8 = y := ⟨_, rfl⟩
  obtain ⟨K1, y1⟩ : ∃ y : Int, (K : Int) + 1 = y := ⟨_, rfl⟩
  obtain ⟨K2, y2⟩ : ∃ y : Int, (K : Int) + 2 = y := ⟨_, rfl⟩
  obtain ⟨K3, y3⟩ : ∃ y : Int, (K : Int) + 3 = y := ⟨_, rfl⟩
  have v8 : IntKind.i64.wrap ((P : Int) * 8) = P8 := by rw [← x8]; exact IntWalk.i64_in _ (by omega)
  have k1 : IntKind.i64.wrap ((K : Int) + 1) = K1 := by rw [← y1]; exact IntWalk.i64_in _ (by omega)
  have k2 : IntKind.i64.wrap ((K : Int) + 2) = K2 := by rw [← y2]; exact IntWalk.i64_in _ (by omega)
  have k3 : IntKind.i64.wrap ((K : Int) + 3) = K3 := by rw [← y3]; exact IntWalk.i64_in _ (by omega)
  have XS := Lib.hid (show (P : Int) = P' ∧ (C : Int) = C' ∧ (A : Int) = A' ∧ (B : Int) = B' ∧ (K : Int) = K' ∧ (K : Int) + 1 = K1 ∧ (K : Int) + 2 = K2 ∧ (K : Int) + 3 = K3 from ⟨xP, xC, xA, xB, xK, y1, y2, y3⟩)
  rw [x8] at v6 v7
  rw [xP] at g1 v1 v8
  rw [xC] at g2 v2
  rw [xA] at v3'
  rw [xB] at v4'
  rw [xK] at v5' k1 k2 k3
  clear hP hC hA hB hK eP eC eA eB eK ha0 hb0 hk0 qA qB qK dH tH dG tG xP xC xA xB xK x8 y1 y2 y3 wp wc wa wb wsl wot wks hT hE iH iG
  go_enter Tryz.func9, Tryz.ntmps9
  have B0 := Lib.hid (Below.refl w.heap.size w)
  go_wp2_with fail
  refine (SN.out _ (HT.out.below B0.out) (HE.out.below B0.out HE.out.lt)).mono ?_
  rintro e w1 ⟨rfl, b1⟩
  have B1 := Lib.hid (B0.out.trans (b1.mono B0.out.size))
  clear b1 B0
  clear SN
  go_upto_region 6 with fail
  clear e1 e2 e3 e4 e5 g1 g2 g3 g4 g5 v1 v2 v3 v4 v5 v3' v4' v5' v6 v7 v8 hs1 hs2
  by_cases hne : H = G
  · have d1 : (H == G) = true := by rw [beq_iff_eq]; exact hne
    clear hne ZO XS
    go_wp2_with fail
    go_ret
    exact ⟨rfl, B1.out⟩
  have d1 : (H == G) = false := by rw [beq_eq_false_iff_ne]; exact hne
  obtain ⟨z, hz⟩ : ∃ z : Agr, (⟨P, C, A, B, K, H, G⟩ : Agr) = z := ⟨_, rfl⟩
  have OK : Hid z.ok := Lib.hid (by rw [← hz]; exact ZO.out hne)
  obtain ⟨x1, x2, x3, x4, x5, x6, x7, x8⟩ := XS.out
  have z1 : (z.p : Int) = P' := by rw [← hz]; exact x1
  have z2 : (z.c : Int) = C' := by rw [← hz]; exact x2
  have z3 : (z.a : Int) = A' := by rw [← hz]; exact x3
  have z4 : (z.b : Int) = B' := by rw [← hz]; exact x4
  have z5 : (z.k : Int) = K' := by rw [← hz]; exact x5
  have z6 : (z.k : Int) + 1 = K1 := by rw [← hz]; exact x6
  have z7 : (z.k : Int) + 2 = K2 := by rw [← hz]; exact x7
  have z8 : (z.k : Int) + 3 = K3 := by rw [← hz]; exact x8
  have z9 : z.h = H := by rw [← hz]
  have z10 : z.g = G := by rw [← hz]
  have o := OK.out
  have D1 : Hid (∀ W, Calls Tryz.prog 28 #[.int .i64 K'] W fun e w' => e = .returned (.tuple #[.int .i64 z.kr, .int .i64 0]) ∧ Below W.heap.size W w') := Lib.hid (fun W => by have h := spublic_any K' W; rw [← z5] at h ⊢; unfold pubE at h; rw [if_pos (Agr.p0 o)] at h; exact h)
  have D2 : Hid (∀ W, Calls Tryz.prog 28 #[.int .i64 K1] W fun e w' => e = .returned (.tuple #[.int .i64 z.kv, .int .i64 0]) ∧ Below W.heap.size W w') := Lib.hid (fun W => by have h := spublic_any K1 W; rw [← z6] at h ⊢; unfold pubE at h; rw [if_pos (Agr.p1 o)] at h; exact h)
  have D3 : Hid (∀ W, Calls Tryz.prog 28 #[.int .i64 K2] W fun e w' => e = .returned (.tuple #[.int .i64 z.kl, .int .i64 0]) ∧ Below W.heap.size W w') := Lib.hid (fun W => by have h := spublic_any K2 W; rw [← z7] at h ⊢; unfold pubE at h; rw [if_pos (Agr.p2 o)] at h; exact h)
  have D4 : Hid (∀ W, Calls Tryz.prog 28 #[.int .i64 K3] W fun e w' => e = .returned (.tuple #[.int .i64 z.ko, .int .i64 0]) ∧ Below W.heap.size W w') := Lib.hid (fun W => by have h := spublic_any K3 W; rw [← z8] at h ⊢; unfold pubE at h; rw [if_pos (Agr.p3 o)] at h; exact h)
  have N1 : Hid (∀ W, Calls Tryz.prog 11 #[.int .i64 P', .int .i64 C', .int .i64 A'] W fun e w' => e = .returned (.tuple #[.agg (rowF 6 (ssC (z.s false))), .int .i64 0]) ∧ Below W.heap.size W w') := Lib.hid (fun W => by have h := pnew38_any P' C' A' W; rw [← z1, ← z2, ← z3] at h ⊢; rw [(Agr.new o).1, (Agr.new o).2] at h; exact h)
  have N2 : Hid (∀ W, Tab W → Calls Tryz.prog 13 #[.agg (rowF 6 (ssC (z.s false)))] W fun e w' => e = .returned (.tuple #[.int .i64 z.pt, .int .i64 0]) ∧ Below W.heap.size W w') := Lib.hid (fun W t => by have h := ppoint38_any (z.s false) W t; rw [Agr.point o, Agr.chk o] at h; exact h)
  have N3 : Hid (∀ W, Tab W → Calls Tryz.prog 17 #[.int .i64 C', .int .i64 B', .int .i64 z.pt, .int .i64 G, .int .i64 z.kv, .int .i64 z.kl] W fun e w' => e = .returned (.tuple #[.agg (rowF 36 (rqC z.q)), .int .i64 0]) ∧ Below W.heap.size W w') := Lib.hid (fun W t => by have h := pask_any C' B' z.pt G z.kv z.kl (by rw [← z10]; exact (Agr.qwf o).dv) (Agr.qwf o).vf (Agr.qwf o).lf W t; rw [← z2, ← z4, ← z10] at h ⊢; rw [(Agr.ask o).1, (Agr.ask o).2] at h; exact h)
  have iH : i64B H := by rw [← z9]; have := (devB_iff z.h).1 o.h; unfold i64B; omega
  have N4 : Hid (∀ W, Tab W → ErrT W → Calls Tryz.prog 19 #[.agg (rowF 6 (ssC (z.s false))), .agg (rowF 36 (rqC z.q)), .int .i64 1, .int .i64 H, .int .i64 K3] W fun e w' => e = .returned (.tuple #[.agg (rowF 6 (ssC (z.s true))), .agg (rowF 8 (ctC z.ct)), .int .i64 0]) ∧ Below W.heap.size W w') := Lib.hid (fun W t u => by have h := pans_any (z.s false) z.q (Agr.qwf o) 1 H K3 (show i64B 1 from ⟨by decide, by decide⟩) iH W t u; rw [← z8, ← z9] at h ⊢; rw [(Agr.ans o).1, (Agr.ans o).2.1, (Agr.ans o).2.2] at h; exact h)
  have N5 : Hid (∀ v xv W, PesS W v [z.pe] us0 → SlAt 5 W xv 1 (fun i => liC ([z.li].getD i li0)) → Tab W → Calls Tryz.prog 29 #[v, xv, .agg (rowF 8 (ctC z.ct))] W fun e w' => e = .returned (.tuple #[liA z.y, .int .i64 0]) ∧ Below W.heap.size W w') := Lib.hid (fun v xv W h1 h2 t => by have h := paccept_any [z.pe] us0 v [z.li] xv z.ct (Agr.cwf o) W h1 (show 1 ≤ 1000 by decide) h2 (show 1 ≤ 1000 by decide) t; rw [Agr.acc o] at h; exact h)
  have N6 : Hid (∀ W, Calls Tryz.prog 15 #[.agg (rowF 6 (ssC (z.s true)))] W fun e w' => e = .returned (.int .i64 0) ∧ Below W.heap.size W w') := Lib.hid (fun W => by have h := pcheck38_any (z.s true) W; rw [Agr.chk o] at h; exact h)
  have N7 : Hid (∀ W, Tab W → ErrT W → ∃ s c, Calls Tryz.prog 19 #[.agg (rowF 6 (ssC (z.s true))), .agg (rowF 36 (rqC z.q)), .int .i64 1, .int .i64 H, .int .i64 K3] W fun e w' => e = .returned (.tuple #[.agg (rowF 6 (ssC s)), .agg (rowF 8 (ctC c)), .int .i64 380]) ∧ Below W.heap.size W w') := Lib.hid (fun W t u => by have h := pans_any (z.s true) z.q (Agr.qwf o) 1 H K3 (show i64B 1 from ⟨by decide, by decide⟩) iH W t u; rw [← z8, ← z9] at h ⊢; rw [Agr.again o] at h; exact ⟨_, _, h⟩)
  have PE : Hid (z.pe = ⟨P', z.kr, [], 0, 0⟩) := Lib.hid (by unfold Agr.pe; rw [z1])
  have LI : Hid (z.li = ⟨H, z.ko, z.ko, 1, false⟩) := Lib.hid (by unfold Agr.li; rw [z9])
  have YY : Hid (z.y = ⟨G, z.kv, z.kl, 1, false⟩) := Lib.hid (by unfold Agr.y; rw [z10])
  obtain ⟨kr, hkr⟩ : ∃ y, z.kr = y := ⟨_, rfl⟩
  obtain ⟨kv, hkv⟩ : ∃ y, z.kv = y := ⟨_, rfl⟩
  obtain ⟨kl, hkl⟩ : ∃ y, z.kl = y := ⟨_, rfl⟩
  obtain ⟨ko, hko⟩ : ∃ y, z.ko = y := ⟨_, rfl⟩
  obtain ⟨pt, hpt⟩ : ∃ y, z.pt = y := ⟨_, rfl⟩
  obtain ⟨S0, hS0⟩ : ∃ y, z.s false = y := ⟨_, rfl⟩
  obtain ⟨S1, hS1⟩ : ∃ y, z.s true = y := ⟨_, rfl⟩
  have ST : Hid (S1.t = 0 ∧ S1.d = true) := Lib.hid (by rw [← hS1]; exact ⟨rfl, rfl⟩)
  obtain ⟨Q, hQ⟩ : ∃ y, z.q = y := ⟨_, rfl⟩
  obtain ⟨CT, hCT⟩ : ∃ y, z.ct = y := ⟨_, rfl⟩
  obtain ⟨pe, hpe⟩ : ∃ y, z.pe = y := ⟨_, rfl⟩
  obtain ⟨li, hli⟩ : ∃ y, z.li = y := ⟨_, rfl⟩
  obtain ⟨yy, hyy⟩ : ∃ y, z.y = y := ⟨_, rfl⟩
  rw [hkr] at D1 PE
  rw [hkv] at D2 N3 YY
  rw [hkl] at D3 N3 YY
  rw [hko] at D4 LI
  rw [hpt] at N2 N3
  rw [hS0] at N1 N2 N4
  rw [hS1] at N4 N6 N7
  rw [hQ] at N3 N4 N7
  rw [hCT] at N4 N5
  rw [hpe] at N5 PE
  rw [hli] at N5 LI
  rw [hyy] at N5 YY
  clear hne ZO hz x1 x2 x3 x4 x5 x6 x7 x8 z1 z2 z3 z4 z5 z6 z7 z8 z9 z10 o iH hkr hkv hkl hko hpt hS0 hS1 hQ hCT hpe hli hyy OK XS
  go_wp2_with fail
  refine (D1.out _).mono ?_
  rintro e w2 ⟨rfl, b2⟩
  have B2 := Lib.hid (B1.out.trans (b2.mono B1.out.size))
  clear b2 B1
  go_wp2_with fail
  refine (D2.out _).mono ?_
  rintro e w3 ⟨rfl, b3⟩
  have B3 := Lib.hid (B2.out.trans (b3.mono B2.out.size))
  clear b3 B2
  go_wp2_with fail
  refine (D3.out _).mono ?_
  rintro e w4 ⟨rfl, b4⟩
  have B4 := Lib.hid (B3.out.trans (b4.mono B3.out.size))
  clear b4 B3
  go_wp2_with fail
  refine (N1.out _).mono ?_
  rintro e w5 ⟨rfl, b5⟩
  have B5 := Lib.hid (B4.out.trans (b5.mono B4.out.size))
  clear b5 B4
  clear D1 D2 D3 N1
  have Zr := Lib.hid (RowV.new w5 25 6 (ssC ss0))
  go_upto_region 12 with ((with_reducible (show wpList _ _ _ (Oper.mk none _ _ _ _ _ :: _) _ _)); refine wpList_store_rowV (o := ⟨none, .store 25 (.tmp 23) (.tmp 100), _, _, _, _⟩) rfl 25 (.tmp 23) (.tmp 100) rfl w5.heap.size rfl 6 25 _ (ssC S0) rfl Zr.out (by kernel_rfl) (fun j _ => ssC_one _ j) ?_; intro w6 S6 o6)
  have b6 : Below w5.heap.size w5 w6 := ((Below.refl _ _).alloc (Nat.le_refl _) _).trans (o6.out.below (Nat.le_refl _) (by rw [World.size_alloc]; omega))
  have B6 := Lib.hid (B5.out.trans (b6.mono B5.out.size))
  clear b6 o6 Zr B5
  go_wp2_with (first | ((with_reducible (show wpList _ _ _ (Oper.mk (some 103) _ _ _ _ _ :: _) _ _)); refine wpList_load_rowV rfl 25 (.tmp 23) rfl w5.heap.size rfl 6 25 _ S6.out _ Tryz.underlying25 rfl (by kernel_rfl) ?_))
  refine (N2.out _ (HT.out.below B6.out)).mono ?_
  rintro e w7 ⟨rfl, b7⟩
  have B7 := Lib.hid (B6.out.trans (b7.mono B6.out.size))
  have S7 := Lib.hid (S6.out.below b7)
  clear b7 B6 S6
  go_wp2_with fail
  refine (N3.out _ (HT.out.below B7.out)).mono ?_
  rintro e w8 ⟨rfl, b8⟩
  have B8 := Lib.hid (B7.out.trans (b8.mono B7.out.size))
  have S8 := Lib.hid (S7.out.below b8)
  clear b8 B7 S7
  clear N2 N3
  have Zr := Lib.hid (RowV.new w8 37 36 (rqC rq0))
  go_upto_region 14 with ((with_reducible (show wpList _ _ _ (Oper.mk none _ _ _ _ _ :: _) _ _)); refine wpList_store_rowV (o := ⟨none, .store 37 (.tmp 27) (.tmp 115), _, _, _, _⟩) rfl 37 (.tmp 27) (.tmp 115) rfl w8.heap.size rfl 36 37 _ (rqC Q) rfl Zr.out (by kernel_rfl) (fun j _ => rqC_one _ j) ?_; intro w9 Q9 o9)
  have b9 : Below w8.heap.size w8 w9 := ((Below.refl _ _).alloc (Nat.le_refl _) _).trans (o9.out.below (Nat.le_refl _) (by rw [World.size_alloc]; omega))
  have B9 := Lib.hid (B8.out.trans (b9.mono B8.out.size))
  have S9 := Lib.hid (S8.out.below b9)
  clear b9 o9 Zr B8 S8
  go_wp2_with (first | ((with_reducible (show wpList _ _ _ (Oper.mk (some 118) _ _ _ _ _ :: _) _ _)); refine Hid.out ?_))
  refine Lib.hid ?_
  refine wpList_load_rowV rfl 25 (.tmp 23) rfl w5.heap.size rfl 6 _ _ (S9.out) _ Tryz.underlying25 rfl (by kernel_rfl) ?_
  go_wp2_with (first | ((with_reducible (show wpList _ _ _ (Oper.mk (some 119) _ _ _ _ _ :: _) _ _)); refine Hid.out ?_))
  refine Lib.hid ?_
  refine wpList_load_rowV rfl 37 (.tmp 27) rfl w8.heap.size rfl 36 _ _ (Q9.out) _ Tryz.underlying37 rfl (by kernel_rfl) ?_
  go_wp2_with fail
  refine (N4.out _ (HT.out.below B9.out) (HE.out.below B9.out HE.out.lt)).mono ?_
  rintro e w10 ⟨rfl, b10⟩
  have B10 := Lib.hid (B9.out.trans (b10.mono B9.out.size))
  have S10 := Lib.hid (S9.out.below b10)
  have Q10 := Lib.hid (Q9.out.below b10)
  clear b10 B9 S9 Q9
  clear N4
  have Za := Lib.hid ((RowV.new w10 25 6 (ssC ss0)).alloc (.cells (rowF 8 (ctC ct0)) 44))
  have Zb : Hid (RowV ((w10.alloc (.cells (rowF 6 (ssC ss0)) 25)).alloc (.cells (rowF 8 (ctC ct0)) 44)) (w10.heap.size + 1) 44 8 (ctC ct0)) := Lib.hid (by have h := RowV.new (w10.alloc (.cells (rowF 6 (ssC ss0)) 25)) 44 8 (ctC ct0); rwa [World.size_alloc] at h)
  go_upto_region 15 with (first | ((with_reducible (show wpList _ _ _ (Oper.mk none _ _ _ _ _ :: _) _ _)); refine wpList_store_rowV (o := ⟨none, .store 25 (.tmp 29) (.tmp 124), _, _, _, _⟩) rfl 25 (.tmp 29) (.tmp 124) rfl (w10.heap.size) rfl 6 25 _ ((ssC S1)) rfl Za.out (by kernel_rfl) (fun j _ => ssC_one _ j) ?_; intro wa Sa oa) | ((with_reducible (show wpList _ _ _ (Oper.mk none _ _ _ _ _ :: _) _ _)); refine wpList_store_rowV (o := ⟨none, .store 44 (.tmp 30) (.tmp 125), _, _, _, _⟩) rfl 44 (.tmp 30) (.tmp 125) rfl (w10.heap.size + 1) rfl 8 44 _ ((ctC CT)) rfl (oa.out.row (Nat.ne_of_gt (Nat.lt_succ_self _)) Zb.out) (by kernel_rfl) (fun j _ => ctC_one _ j) ?_; intro w11 R11 ob))
  have X11 := Lib.hid (ob.out.row (Nat.ne_of_lt (Nat.lt_succ_self _)) Sa.out)
  have b11 : Below w10.heap.size w10 w11 := by
    have h1 := (Below.refl w10.heap.size w10).alloc (Nat.le_refl _) (.cells (rowF 6 (ssC ss0)) 25)
    have h2 := h1.alloc h1.size (.cells (rowF 8 (ctC ct0)) 44)
    have h3 := h2.trans (oa.out.below (K := w10.heap.size) (Nat.le_refl _) h2.size)
    exact h3.trans (ob.out.below (K := w10.heap.size) (Nat.le_succ _) h3.size)
  have B11 := Lib.hid (B10.out.trans (b11.mono B10.out.size))
  have S11 := Lib.hid (S10.out.below b11)
  have Q11 := Lib.hid (Q10.out.below b11)
  clear b11 oa ob Sa Za Zb B10 S10 Q10
  go_wp2_with fail
  refine (D4.out _).mono ?_
  rintro e w12 ⟨rfl, b12⟩
  have B12 := Lib.hid (B11.out.trans (b12.mono B11.out.size))
  have S12 := Lib.hid (S11.out.below b12)
  have Q12 := Lib.hid (Q11.out.below b12)
  have X12 := Lib.hid (X11.out.below b12)
  have R12 := Lib.hid (R11.out.below b12)
  clear b12 B11 S11 Q11 X11 R11
  clear D4
  go_wp2_with (first | ((with_reducible (show wpList _ _ _ (Oper.mk (some 161) _ _ _ _ _ :: _) _ _)); refine Hid.out ?_))
  refine Lib.hid ?_
  refine wpList_build rfl 68 _ rfl #[(0, .int .i64 P'), (1, .int .i64 kr)] (by simp only [List.map_toArray, List.map_cons, List.map_nil]; rfl) _ (build_p P' kr _) ?_
  rw [← PE.out]
  go_wp2_with (first | ((with_reducible (show wpList _ _ _ (Oper.mk (some 162) _ _ _ _ _ :: _) _ _)); refine Hid.out ?_))
  refine Lib.hid ?_
  refine wpList_buildT (s := 5) (c := peQ) rfl 69 1 _ rfl (pe0, pe00) [(pe, pe00)] rfl (by decide) (by decide) (by decide) (by decide) rfl Tryz.underlying69 (by kernel_rfl) (by kernel_rfl) ?_
  intro w13 N13 b13 L13
  have P13 : Hid (PesS w13 (.slice (some ⟨w12.heap.size, 0, none⟩) 1 1) [pe] us0) := Lib.hid (pes_of (by rw [PE.out]) (N13.out.at' (pe0, pe00) (by decide) (by decide) (show 1 ≤ 1000000 by decide)))
  have b13 := b13.out
  have B13 := Lib.hid (B12.out.trans (b13.mono B12.out.size))
  have S13 := Lib.hid (S12.out.below b13)
  have Q13 := Lib.hid (Q12.out.below b13)
  have X13 := Lib.hid (X12.out.below b13)
  have R13 := Lib.hid (R12.out.below b13)
  clear b13 B12 S12 Q12 X12 R12
  clear N13 L13
  go_wp2_with (first | ((with_reducible (show wpList _ _ _ (Oper.mk (some 168) _ _ _ _ _ :: _) _ _)); refine Hid.out ?_))
  refine Lib.hid ?_
  refine wpList_build rfl 71 _ rfl #[(0, .int .i64 H), (1, .int .i64 ko), (2, .int .i64 ko), (3, .int .i64 1)] (by simp only [List.map_toArray, List.map_cons, List.map_nil]; rfl) _ (build_li H ko ko 1 _) ?_
  rw [← LI.out]
  go_wp2_with (first | ((with_reducible (show wpList _ _ _ (Oper.mk (some 169) _ _ _ _ _ :: _) _ _)); refine Hid.out ?_))
  refine Lib.hid ?_
  refine wpList_buildT (s := 5) (c := liC) rfl 74 1 _ rfl li0 [li] rfl (by decide) (by decide) (by decide) (by decide) rfl Tryz.underlying74 (by kernel_rfl) (by kernel_rfl) ?_
  intro w14 N14 b14 L14
  have V14 : Hid (SlAt 5 w14 (.slice (some ⟨w13.heap.size, 0, none⟩) 1 1) 1 (fun i => liC ([li].getD i li0))) := Lib.hid (N14.out.at' li0 (by decide) (by decide) (show 1 ≤ 1000000 by decide))
  have b14 := b14.out
  have B14 := Lib.hid (B13.out.trans (b14.mono B13.out.size))
  have S14 := Lib.hid (S13.out.below b14)
  have Q14 := Lib.hid (Q13.out.below b14)
  have X14 := Lib.hid (X13.out.below b14)
  have R14 := Lib.hid (R13.out.below b14)
  have P14 := Lib.hid (P13.out.below b14)
  clear b14 B13 S13 Q13 X13 R13 P13
  clear N14 L14
  go_wp2_with (first | ((with_reducible (show wpList _ _ _ (Oper.mk (some 170) _ _ _ _ _ :: _) _ _)); refine Hid.out ?_))
  refine Lib.hid ?_
  refine wpList_load_rowV rfl 44 (.tmp 30) rfl (w10.heap.size + 1) rfl 8 _ _ (R14.out) _ Tryz.underlying44 rfl (by kernel_rfl) ?_
  go_wp2_with fail
  refine (N5.out _ _ _ P14.out V14.out (HT.out.below B14.out)).mono ?_
  rintro e w15 ⟨rfl, b15⟩
  have B15 := Lib.hid (B14.out.trans (b15.mono B14.out.size))
  have S15 := Lib.hid (S14.out.below b15)
  have Q15 := Lib.hid (Q14.out.below b15)
  have X15 := Lib.hid (X14.out.below b15)
  have R15 := Lib.hid (R14.out.below b15)
  have P15 := Lib.hid (P14.out.below b15)
  clear b15 B14 S14 Q14 X14 R14 P14
  clear N5 V14 PE LI
  have Zr := Lib.hid (RowV.new w15 71 5 (liC li0))
  go_upto_region 20 with ((with_reducible (show wpList _ _ _ (Oper.mk none _ _ _ _ _ :: _) _ _)); refine wpList_store_rowV (o := ⟨none, .store 71 (.tmp 35) (.tmp 172), _, _, _, _⟩) rfl 71 (.tmp 35) (.tmp 172) rfl w15.heap.size rfl 5 71 _ (liC yy) rfl Zr.out (by kernel_rfl) (fun j _ => liC_one _ j) ?_; intro w16 Y16 o16)
  have b16 : Below w15.heap.size w15 w16 := ((Below.refl _ _).alloc (Nat.le_refl _) _).trans (o16.out.below (Nat.le_refl _) (by rw [World.size_alloc]; omega))
  have B16 := Lib.hid (B15.out.trans (b16.mono B15.out.size))
  have S16 := Lib.hid (S15.out.below b16)
  have Q16 := Lib.hid (Q15.out.below b16)
  have X16 := Lib.hid (X15.out.below b16)
  have R16 := Lib.hid (R15.out.below b16)
  have P16 := Lib.hid (P15.out.below b16)
  clear b16 o16 Zr B15 S15 Q15 X15 R15 P15
  have n1 : ∀ W, (binOp .neq 71 (.agg (rowF 5 (liC yy))) (.agg (rowF 5 (liC yy)))).run Tryz.prog W = .ok (.bool false) W := fun W => by rw [neq_li, liB_self]; rfl
  have g1 : ∀ a b W, (eqGuard .neq 71 a b (.agg (rowF 5 (liC yy))) (.agg (rowF 5 (liC yy)))).run Tryz.prog W = .ok () W := fun a b W => guard_li _ _ _ _ _ _
  have x5 : w16.cell? ⟨w10.heap.size, 5, none⟩ = some (Value.bool S1.d) := ss_done X16.out
  have x4 : w16.cell? ⟨w10.heap.size, 4, none⟩ = some (Value.int .i64 S1.t) := ss_cell X16.out (i := 4) (by decide)
  rw [ST.out.2] at x5
  rw [ST.out.1] at x4
  go_wp2_with (first | ((with_reducible (show wpList _ _ _ (Oper.mk (some 181) _ _ _ _ _ :: _) _ _)); refine Hid.out ?_))
  refine Lib.hid ?_
  refine wpList_unguard rfl ?_
  refine wpList_load_rowV rfl 71 (.tmp 35) rfl w15.heap.size rfl 5 _ _ (Y16.out) _ Tryz.underlying71 rfl (by kernel_rfl) ?_
  go_wp2_with (first | ((with_reducible (show wpList _ _ _ (Oper.mk (some 185) _ _ _ _ _ :: _) _ _)); refine Hid.out ?_))
  refine Lib.hid ?_
  refine wpList_unguard rfl ?_
  refine wpList_build rfl 71 _ rfl #[(0, .int .i64 G), (1, .int .i64 kv), (2, .int .i64 kl), (3, .int .i64 1)] (by simp only [List.map_toArray, List.map_cons, List.map_nil]; rfl) _ (build_li G kv kl 1 _) ?_
  rw [← YY.out]
  go_wp2_with (first | ((with_reducible (show wpList _ _ _ (Oper.mk (some 199) _ _ _ _ _ :: _) _ _)); refine Hid.out ?_))
  refine Lib.hid ?_
  refine wpList_unguard rfl ?_
  refine wpList_load_rowV rfl 25 (.tmp 29) rfl w10.heap.size rfl 6 _ _ (X16.out) _ Tryz.underlying25 rfl (by kernel_rfl) ?_
  go_wp2_with fail
  refine (N6.out _).mono ?_
  rintro e w17 ⟨rfl, b17⟩
  have B17 := Lib.hid (B16.out.trans (b17.mono B16.out.size))
  have S17 := Lib.hid (S16.out.below b17)
  have Q17 := Lib.hid (Q16.out.below b17)
  have X17 := Lib.hid (X16.out.below b17)
  have R17 := Lib.hid (R16.out.below b17)
  have P17 := Lib.hid (P16.out.below b17)
  have Y17 := Lib.hid (Y16.out.below b17)
  clear b17 B16 S16 Q16 X16 R16 P16 Y16
  clear N6 n1 g1 x4 x5 YY ST
  go_wp2_with (first | ((with_reducible (show wpList _ _ _ (Oper.mk (some 204) _ _ _ _ _ :: _) _ _)); refine Hid.out ?_))
  refine Lib.hid ?_
  refine wpList_load_rowV rfl 25 (.tmp 29) rfl w10.heap.size rfl 6 _ _ (X17.out) _ Tryz.underlying25 rfl (by kernel_rfl) ?_
  go_wp2_with (first | ((with_reducible (show wpList _ _ _ (Oper.mk (some 205) _ _ _ _ _ :: _) _ _)); refine Hid.out ?_))
  refine Lib.hid ?_
  refine wpList_load_rowV rfl 37 (.tmp 27) rfl w8.heap.size rfl 36 _ _ (Q17.out) _ Tryz.underlying37 rfl (by kernel_rfl) ?_
  obtain ⟨s9, c9, N8⟩ := N7.out w17 (HT.out.below B17.out) (HE.out.below B17.out HE.out.lt)
  have N8 := Lib.hid N8
  clear N7
  go_wp2_with fail
  refine (N8.out).mono ?_
  rintro e w18 ⟨rfl, b18⟩
  have B18 := Lib.hid (B17.out.trans (b18.mono B17.out.size))
  have S18 := Lib.hid (S17.out.below b18)
  have Q18 := Lib.hid (Q17.out.below b18)
  have X18 := Lib.hid (X17.out.below b18)
  have R18 := Lib.hid (R17.out.below b18)
  have P18 := Lib.hid (P17.out.below b18)
  have Y18 := Lib.hid (Y17.out.below b18)
  clear b18 B17 S17 Q17 X17 R17 P17 Y17
  clear N8
  have Za := Lib.hid ((RowV.new w18 25 6 (ssC ss0)).alloc (.cells (rowF 8 (ctC ct0)) 44))
  have Zb : Hid (RowV ((w18.alloc (.cells (rowF 6 (ssC ss0)) 25)).alloc (.cells (rowF 8 (ctC ct0)) 44)) (w18.heap.size + 1) 44 8 (ctC ct0)) := Lib.hid (by have h := RowV.new (w18.alloc (.cells (rowF 6 (ssC ss0)) 25)) 44 8 (ctC ct0); rwa [World.size_alloc] at h)
  go_upto_region 23 with (first | ((with_reducible (show wpList _ _ _ (Oper.mk none _ _ _ _ _ :: _) _ _)); refine wpList_store_rowV (o := ⟨none, .store 25 (.tmp 37) (.tmp 210), _, _, _, _⟩) rfl 25 (.tmp 37) (.tmp 210) rfl (w18.heap.size) rfl 6 25 _ ((ssC s9)) rfl Za.out (by kernel_rfl) (fun j _ => ssC_one _ j) ?_; intro wa Sa oa) | ((with_reducible (show wpList _ _ _ (Oper.mk none _ _ _ _ _ :: _) _ _)); refine wpList_store_rowV (o := ⟨none, .store 44 (.tmp 38) (.tmp 211), _, _, _, _⟩) rfl 44 (.tmp 38) (.tmp 211) rfl (w18.heap.size + 1) rfl 8 44 _ ((ctC c9)) rfl (oa.out.row (Nat.ne_of_gt (Nat.lt_succ_self _)) Zb.out) (by kernel_rfl) (fun j _ => ctC_one _ j) ?_; intro w19 F19 ob))
  have E19 := Lib.hid (ob.out.row (Nat.ne_of_lt (Nat.lt_succ_self _)) Sa.out)
  have b19 : Below w18.heap.size w18 w19 := by
    have h1 := (Below.refl w18.heap.size w18).alloc (Nat.le_refl _) (.cells (rowF 6 (ssC ss0)) 25)
    have h2 := h1.alloc h1.size (.cells (rowF 8 (ctC ct0)) 44)
    have h3 := h2.trans (oa.out.below (K := w18.heap.size) (Nat.le_refl _) h2.size)
    exact h3.trans (ob.out.below (K := w18.heap.size) (Nat.le_succ _) h3.size)
  have B19 := Lib.hid (B18.out.trans (b19.mono B18.out.size))
  have S19 := Lib.hid (S18.out.below b19)
  have Q19 := Lib.hid (Q18.out.below b19)
  have X19 := Lib.hid (X18.out.below b19)
  have R19 := Lib.hid (R18.out.below b19)
  have P19 := Lib.hid (P18.out.below b19)
  have Y19 := Lib.hid (Y18.out.below b19)
  clear b19 oa ob Sa Za Zb B18 S18 Q18 X18 R18 P18 Y18
  go_wp2_with fail
  go_ret
  exact ⟨rfl, B19.out⟩

set_option maxRecDepth 100000 in
set_option maxHeartbeats 1000000 in
theorem lifted (os : Os) (started : os.Started) (H : Type) (enc : TypeId × Value → H) :
    ReturnsInHanded {} Tryz.checked os 9 .any (fun w args => (Rows.enrollAgreesSpec.pre enc Tryz.prog Tryz.f9 [] false w args ∧ laidMetH Tryz.prog laidLE w) ∧ sizedMet enc Tryz.prog Tryz.f9 (OpenSpec.ofChange Rows.enrollAgreesSpec) false w args)
      (Rows.enrollAgreesSpec.post enc Tryz.prog Tryz.f9 false true false false) := by
  refine returnsInHanded_of_change_and (C := Tryz.checked) (X := fun w _ => laidMetH Tryz.prog laidLE w) (fun _ _ _ hh h => h.of_heap hh) own started (by kernel_rfl) Tryz.func9
    (ChangeSpec.witness_shaped (enc := enc) (C := Tryz.checked) (os := os) (X := fun w _ => laidMetH Tryz.prog laidLE w) false (World.doorLaid Tryz.prog 19 os) #[.int .i64 0, .int .i64 0, .int .i64 0, .int .i64 0, .int .i64 0, .int .i64 0, .int .i64 0] 8 rfl (World.shaped_of_RefB (by kernel_rfl) (by kernel_rfl)) (by kernel_rfl) (by kernel_rfl) (by kernel_rfl) (door_metE os _)) ?_
  intro W base args ds gs before hval0 hW _ hsz hL _
  have hval : ∀ (j : Nat) t v, Tryz.f9.params[j]? = some t → args[j]? = some v → Value.okWide Tryz.prog W .any base t v := hval0
  have hW' := hW
  obtain ⟨p, q, hA0, hV, rfl, hfz, hnd⟩ := hW
  have hA : DataW.TrodAll enc Tryz.prog W 0 (fun _ => true) true Tryz.f9.params.toList args.toList ds p := hA0
  rw [Tryz.params9] at hA hval
  obtain ⟨v0, vs0, d0, ds0, p0, q0, hargs, rfl, rfl, h0, r0⟩ := trodAll_cons hA
  obtain ⟨v1, vs1, d1, ds1, p1, q1, rfl, rfl, rfl, h1, r1⟩ := trodAll_cons r0
  obtain ⟨v2, vs2, d2, ds2, p2, q2, rfl, rfl, rfl, h2, r2⟩ := trodAll_cons r1
  obtain ⟨v3, vs3, d3, ds3, p3, q3, rfl, rfl, rfl, h3, r3⟩ := trodAll_cons r2
  obtain ⟨v4, vs4, d4, ds4, p4, q4, rfl, rfl, rfl, h4, r4⟩ := trodAll_cons r3
  obtain ⟨v5, vs5, d5, ds5, p5, q5, rfl, rfl, rfl, h5, r5⟩ := trodAll_cons r4
  obtain ⟨v6, vs6, d6, ds6, p6, q6, rfl, rfl, rfl, h6, r6⟩ := trodAll_cons r5
  obtain ⟨rfl, rfl, rfl⟩ := trodAll_nil r6
  obtain rfl : args = #[v0, v1, v2, v3, v4, v5, v6] := by cases args; simp_all
  obtain ⟨rfl, rfl⟩ := trodVars_none hV
  obtain ⟨a0, rfl, rfl, rfl, w0⟩ := open_int Tryz.underlying3 (hval 0 3 v0 rfl rfl) h0
  obtain ⟨a1, rfl, rfl, rfl, w1⟩ := open_int Tryz.underlying3 (hval 1 3 v1 rfl rfl) h1
  obtain ⟨a2, rfl, rfl, rfl, w2⟩ := open_int Tryz.underlying3 (hval 2 3 v2 rfl rfl) h2
  obtain ⟨a3, rfl, rfl, rfl, w3⟩ := open_int Tryz.underlying3 (hval 3 3 v3 rfl rfl) h3
  obtain ⟨a4, rfl, rfl, rfl, w4⟩ := open_int Tryz.underlying3 (hval 4 3 v4 rfl rfl) h4
  obtain ⟨a5, rfl, rfl, rfl, w5⟩ := open_int Tryz.underlying3 (hval 5 3 v5 rfl rfl) h5
  obtain ⟨a6, rfl, rfl, rfl, w6⟩ := open_int Tryz.underlying3 (hval 6 3 v6 rfl rfl) h6
  obtain ⟨hT, hE⟩ := tabE_of_laid hL
  clear hA0 hval0 hsz hL
  simp only [List.append_nil] at hW'
  refine (walk a0 w0 a1 w1 a2 w2 a3 w3 a4 w4 a5 w5 a6 w6 hT hE).mono fun e W' ⟨he, hg⟩ => ?_
  subst he
  exact ⟨_, rfl, post_below (pa := []) (pv := []) hW' (fun _ _ _ => (trodAll_cons_mk (shut_bool Tryz.underlying4 _) trodAll_mk0)) (fun sp _ => (trodAll_cons_mk (shut_int Tryz.underlying3 w0) (trodAll_cons_mk (shut_int Tryz.underlying3 w1) (trodAll_cons_mk (shut_int Tryz.underlying3 w2) (trodAll_cons_mk (shut_int Tryz.underlying3 w3) (trodAll_cons_mk (shut_int Tryz.underlying3 w4) (trodAll_cons_mk (shut_int Tryz.underlying3 w5) (trodAll_cons_mk (shut_int Tryz.underlying3 w6) trodAll_mk0)))))))) (fun _ _ => rfl) rfl hg (ok_one (by kernel_rfl) rfl (okWide_bool_mk Tryz.underlying4 _))⟩

theorem over : Rows.enrollAgreesRow.holds Tryz.pinned (OpenSpec.ofChange Rows.enrollAgreesSpec) :=
  OpenClaim.holds_of_wide 9 Tryz.f9 rfl rfl rfl rfl rfl rfl rfl ⟨rfl, rfl, rfl, rfl, rfl⟩ rfl rfl rfl rfl rfl (by kernel_rfl) Tryz.func9 (by kernel_rfl)
    (of_decide_eq_true (by kernel_rfl)) (by unfold Func.isWrapper; first | (rw [if_pos (by decide +kernel)]; kernel_rfl) | (rw [if_neg (by decide +kernel)]; exact ⟨rfl, rfl⟩))
    (fun os started H enc _ => lifted os started H enc)

end Go.Proofs.YtpekhdahamloaaaGreatDoor.enrollAgrees
namespace Go.Proofs.YtpekhdahamloaaaGreatDoor
set_option maxRecDepth 100000 in
theorem enrollAgrees_holds : Rows.EnrollAgreesCardSaid :=
  Claim7.holds_tied_plain_at .later [] [.handle, .data, .data] true _ true
    enrollAgrees.over (fun _ h => by cases h) (by kernel_rfl) (fun _ h => by cases h) enrollAgrees_row_tie rfl ⟨rfl, rfl⟩ (by kernel_rfl) rfl
    (fun f fn hf hfn => by
      obtain rfl : f = 9 := Option.some.inj ((show Tryz.prog.funcNamed "chartroom/chartroomlaw38.EnrollAgrees" = some 9 by kernel_rfl).symm.trans hf) |>.symm
      obtain rfl : fn = Tryz.f9 := (Option.some.inj (Tryz.func9.symm.trans hfn)).symm
      exact ⟨by kernel_rfl, fun j t ht => by
        rw [Tryz.params9] at ht
        have hm : t ∈ [3, 3, 3, 3, 3, 3, 3] := by simpa using Array.mem_of_getElem? ht
        have hall : ([3, 3, 3, 3, 3, 3, 3].all fun u => !Tryz.prog.wantsStandIn u) = true := by kernel_rfl
        exact (show Tryz.prog.wantsStandIn t = false by simpa using List.all_eq_true.1 hall t hm)⟩)
    (by kernel_rfl)
#print axioms enrollAgrees_holds
end Go.Proofs.YtpekhdahamloaaaGreatDoor
