/- PeopleStory returns true for every input. No condition beyond the card's own: the two tables of package digest are tied to the program's text. -/
import Derived.Test.YtmmppibbglacdaaDoorPk52
import Derived.Test.YtmmppibbglacdaaDoorPk51
import Derived.Test.YtmmppibbglacdaaDoorPk35
import Derived.Test.YtmmppibbglacdaaDoorCards
namespace Go.Proofs.YtmmppibbglacdaaDoor.peopleStory
open Go.ChangeShapes Go.WideShapes Go.ChangeAt Go.RowKit
open Go.ChangeMaps (open_string shut_string)
set_option linter.unusedVariables false
set_option linter.unusedSimpArgs false

theorem build_pe (q z : Int) (W : World) : (Instr.build 40 #[(0, .int .i64 q), (1, .int .i64 z)]).run Tryd.prog W = .ok (.agg (rowF 5 (peC ⟨q, z, [], 0, 0⟩ pe00))) W := by kernel_rfl
theorem build_zl (d v l n : Int) (W : World) : (Instr.build 31 #[(0, .int .i64 d), (1, .int .i64 v), (2, .int .i64 l), (3, .int .i64 n)]).run Tryd.prog W = .ok (liA ⟨d, v, l, n, false⟩) W := by kernel_rfl
def sty (q a b r : Int) : Sty := ⟨[⟨q, pubV r, [], 0, 0⟩], ⟨q, pubV r, [], 0, 0⟩, 8 * q, 8 * q + 7, pubV a, pubV b, pubV b, pubV a, a, b, r⟩
theorem chk_sty {q z : Int} (h0 : 0 ≤ q) (h1 : q < 64) (hz : elemB z = true) : chkPe [⟨q, z, [], 0, 0⟩] = true := by
  unfold chkPe
  refine allB_true fun i hi => ?_
  obtain rfl : i = 0 := by simp at hi; exact hi
  unfold okPe hdPe cntB
  show (!decide (q < 0) && (!decide ((64 : Int) ≤ q) && ((decide (0 = 0) || _) && (elemB z && (!decide ((0 : Int) < 0) && !decide ((1048576 : Int) < 0))))) && (_ && allB _ 0)) = true
  rw [hz, decide_eq_false (by omega), decide_eq_false (by omega)]; rfl
theorem sty_ok {q a b r : Int} (h0 : 0 ≤ q) (h1 : q < 64) (ha : privB a = true) (hb : privB b = true) (hr : privB r = true) : (sty q a b r).ok := by
  have e1 : (8 * q).tdiv 8 = q := by rw [Int.tdiv_eq_ediv_of_nonneg (by omega)]; omega
  have e2 : (8 * q + 7).tdiv 8 = q := by rw [Int.tdiv_eq_ediv_of_nonneg (by omega)]; omega
  refine ⟨chk_sty h0 h1 (pubV_El hr), ?_, e1.symm, e2.trans e1.symm, (devB_iff _).2 ⟨?_, ?_⟩, (devB_iff _).2 ⟨?_, ?_⟩, ?_, pubV_El ha, pubV_El hb, pubV_El hb, pubV_El ha, ha, hb, hr, rfl⟩
  · show findP [⟨q, pubV r, [], 0, 0⟩] ((8 * q).tdiv 8) = _
    rw [e1]; unfold findP; rw [List.find?_cons_of_pos (by simp)]; rfl
  · show 0 ≤ 8 * q; omega
  · show 8 * q < 512; omega
  · show 0 ≤ 8 * q + 7; omega
  · show 8 * q + 7 < 512; omega
  · show 8 * q < 8 * q + 7; omega
theorem pub_i64 (x : Int) : i64B (pubV x) := by
  cases h : privB x
  · unfold pubV; rw [h]; exact i64B_0
  · rw [pubV_nat h]; exact (show i64B ((powP 4 x.toNat : Nat) : Int) by have := (pow4_El x.toNat).2.1; unfold i64B; omega)
theorem i64_of {z : Int} (h : -1000000 ≤ z ∧ z ≤ 1000000) : i64B z := i64s' h
set_option maxRecDepth 100000 in
set_option maxHeartbeats 16000000 in
theorem walk {w : World} (p : Int) (wp : (Lit.int .u8 p).wf = true) (a : Int) (wa : (Lit.int .i64 a).wf = true) (b : Int) (wb : (Lit.int .i64 b).wf = true) (r : Int) (wr : (Lit.int .i64 r).wf = true) (hT : Tab w) :
    Calls Tryd.prog 7 #[.int .u8 p, .int .i64 a, .int .i64 b, .int .i64 r] w fun e w' => e = .returned (.bool true) ∧ Below w.heap.size w w' := by
  have hp : 0 ≤ p ∧ p ≤ 255 := by
    have h : IntKind.u8.min ≤ p ∧ p ≤ IntKind.u8.max := by simpa [Lit.wf, IntKind.wrap] using wp
    exact h
  have T0 := Lib.hid hT
  have C1 := Lib.hid (fun W hT => sane37_any W hT)
  have ka := keyM_bd a
  have kb := keyM_bd b
  have kr := keyM_bd r
  have c2 : ∀ W, Calls Tryd.prog 16 #[.int .i64 a] W fun e w' => e = .returned (.int .i64 ((keyM a : Nat) : Int)) ∧ W = w' := fun W => key_any a W wa
  have c3 : ∀ W, Calls Tryd.prog 16 #[.int .i64 b] W fun e w' => e = .returned (.int .i64 ((keyM b : Nat) : Int)) ∧ W = w' := fun W => key_any b W wb
  have c4 : ∀ W, Calls Tryd.prog 16 #[.int .i64 r] W fun e w' => e = .returned (.int .i64 ((keyM r : Nat) : Int)) ∧ W = w' := fun W => key_any r W wr
  have pa := priv_of ka.1 ka.2
  have pb := priv_of kb.1 kb.2
  have pr := priv_of kr.1 kr.2
  obtain ⟨A, hA⟩ : ∃ y : Int, ((keyM a : Nat) : Int) = y := ⟨_, rfl⟩
  obtain ⟨B, hB⟩ : ∃ y : Int, ((keyM b : Nat) : Int) = y := ⟨_, rfl⟩
  obtain ⟨R, hR⟩ : ∃ y : Int, ((keyM r : Nat) : Int) = y := ⟨_, rfl⟩
  rw [hA] at c2 pa
  rw [hB] at c3 pb
  rw [hR] at c4 pr
  obtain ⟨q, hq⟩ : ∃ y, p % 64 = y := ⟨_, rfl⟩
  have q1 : 0 ≤ q := by omega
  have q2 : q < 64 := by omega
  have OK := Lib.hid (sty_ok q1 q2 pa pb pr)
  have wfA : (ctN 1 (8 * q) (pubV A) (pubV A) 1 (8 * q)).wf := ctn_wf (i64_of (by decide)) (i64_of (by omega)) (pub_i64 A) (pub_i64 A) (i64_of (by decide)) (i64_of (by omega))
  have wfB : (ctN 2 (8 * q + 7) (pubV B) (pubV B) 1 (8 * q)).wf := ctn_wf (i64_of (by decide)) (i64_of (by omega)) (pub_i64 B) (pub_i64 B) (i64_of (by decide)) (i64_of (by omega))
  have wfC : (ctN 4 (8 * q) 0 0 2 (8 * q + 7)).wf := ctn_wf (i64_of (by decide)) (i64_of (by omega)) i64B_0 i64B_0 (i64_of (by decide)) (i64_of (by omega))
  have wfD : (ctN 3 (8 * q) (pubV B) (pubV A) 3 (-1)).wf := ctn_wf (i64_of (by decide)) (i64_of (by omega)) (pub_i64 B) (pub_i64 A) (i64_of (by decide)) (i64_of (by decide))
  have F1 := Lib.hid (fun W h => crt_run (x := A) wfA (Sty.eA OK.out) W h)
  have F2 := Lib.hid (fun W h => crt_run (x := A) wfB (Sty.eB OK.out) W h)
  have F3 := Lib.hid (fun W h => crt_run (x := B) wfC (Sty.eC OK.out) W h)
  have F4 := Lib.hid (fun W h => crt_run (x := R) wfD (Sty.eD OK.out) W h)
  have L3 := Sty.list3 OK.out
  have CH : chkPe [⟨q, pubV R, [], 0, 0⟩] = true := OK.out.ps
  have wA := crt_wf A wfA
  have wB := crt_wf A wfB
  have wC := crt_wf B wfC
  have wD := crt_wf R wfD
  have U1 : Hid (∀ W, Calls Tryd.prog 17 #[.int .i64 A] W fun e w' => e = .returned (.tuple #[.int .i64 (pubV A), .int .i64 0]) ∧ Below W.heap.size W w') := Lib.hid (fun W => by have h := spublic_any A W; unfold pubE at h; rwa [if_pos pa] at h)
  have U2 : Hid (∀ W, Calls Tryd.prog 17 #[.int .i64 B] W fun e w' => e = .returned (.tuple #[.int .i64 (pubV B), .int .i64 0]) ∧ Below W.heap.size W w') := Lib.hid (fun W => by have h := spublic_any B W; unfold pubE at h; rwa [if_pos pb] at h)
  have U3 : Hid (∀ W, Calls Tryd.prog 17 #[.int .i64 R] W fun e w' => e = .returned (.tuple #[.int .i64 (pubV R), .int .i64 0]) ∧ Below W.heap.size W w') := Lib.hid (fun W => by have h := spublic_any R W; unfold pubE at h; rwa [if_pos pr] at h)
  replace L3 : lisF [⟨q, pubV R, [], 0, 0⟩] [crtV (ctN 3 (8 * q) (pubV B) (pubV A) 3 (-1)) R, crtV (ctN 4 (8 * q) 0 0 2 (8 * q + 7)) B, crtV (ctN 2 (8 * q + 7) (pubV B) (pubV B) 1 (8 * q)) A, crtV (ctN 1 (8 * q) (pubV A) (pubV A) 1 (8 * q)) A, crtV (ctN 4 (8 * q) 0 0 2 (8 * q + 7)) B, crtV (ctN 2 (8 * q + 7) (pubV B) (pubV B) 1 (8 * q)) A, crtV (ctN 3 (8 * q) (pubV B) (pubV A) 3 (-1)) R, crtV (ctN 4 (8 * q) 0 0 2 (8 * q + 7)) B, crtV (ctN 2 (8 * q + 7) (pubV B) (pubV B) 1 (8 * q)) A, crtV (ctN 3 (8 * q) (pubV B) (pubV A) 3 (-1)) R] = [⟨8 * q, pubV B, pubV A, 3, false⟩, ⟨8 * q + 7, pubV B, pubV B, 1, false⟩] := L3
  obtain ⟨cA, hA⟩ : ∃ y, crtV (ctN 1 (8 * q) (pubV A) (pubV A) 1 (8 * q)) A = y := ⟨_, rfl⟩
  obtain ⟨cB, hB⟩ : ∃ y, crtV (ctN 2 (8 * q + 7) (pubV B) (pubV B) 1 (8 * q)) A = y := ⟨_, rfl⟩
  obtain ⟨cC, hC⟩ : ∃ y, crtV (ctN 4 (8 * q) 0 0 2 (8 * q + 7)) B = y := ⟨_, rfl⟩
  obtain ⟨cD, hD⟩ : ∃ y, crtV (ctN 3 (8 * q) (pubV B) (pubV A) 3 (-1)) R = y := ⟨_, rfl⟩
  rw [hA] at F1 L3 wA
  rw [hB] at F2 L3 wB
  rw [hC] at F3 L3 wC
  rw [hD] at F4 L3 wD
  clear hA hB hC hD wfA wfB wfC wfD OK
  obtain ⟨X, hX⟩ : ∃ y, pubV A = y := ⟨_, rfl⟩
  obtain ⟨Y, hY⟩ : ∃ y, pubV B = y := ⟨_, rfl⟩
  obtain ⟨Z, hZ⟩ : ∃ y, pubV R = y := ⟨_, rfl⟩
  rw [hX] at F1 F4 U1 L3
  rw [hY] at F2 F4 U2 L3
  rw [hZ] at U3 L3 CH
  clear hX hY hZ
  have C9 : Hid (∀ v W, PesS W v [⟨q, Z, [], 0, 0⟩] us0 → Calls Tryd.prog 19 #[v] W fun e w' => e = .returned (.int .i64 0) ∧ Below W.heap.size W w') := Lib.hid (fun v W h => by have := pcheck37_any _ us0 v W h (show 1 ≤ 1000 by decide); rwa [CH] at this)
  have C13 : Hid (∀ v c W, PesS W v [⟨q, Z, [], 0, 0⟩] us0 → CtS W c [cD, cC, cB, cA, cC, cB, cD, cC, cB, cD] → Tab W → Calls Tryd.prog 14 #[v, c] W fun e w' => (∃ u, e = .returned u ∧ LiS w' u [⟨8 * q, Y, X, 3, false⟩, ⟨8 * q + 7, Y, Y, 1, false⟩]) ∧ Below W.heap.size W w') := Lib.hid (fun v c W hv hc t => by
    have := plistings_any _ us0 v _ c W hv (show 1 ≤ 1000 by decide) hc (show 10 ≤ 12 by decide) (fun c hc => by
      simp only [List.mem_cons, List.not_mem_nil, or_false] at hc
      rcases hc with rfl | rfl | rfl | rfl | rfl | rfl | rfl | rfl | rfl | rfl <;> assumption) t
    rw [L3] at this
    exact this.mono fun e w' ⟨u, h1, h2, h3⟩ => ⟨⟨u, h1, h2⟩, h3⟩)
  have C14 : Hid (∀ u v x W, x.length ≤ 1000 → LiS W u x → LiS W v x → Calls Tryd.prog 15 #[u, v] W fun e w' => e = .returned (.bool true) ∧ Below W.heap.size W w') := Lib.hid (fun u v x W hn hu hv => by have := same37_any x x u v W hu hv hn hn; rwa [(sameB_iff x x).2 rfl] at this)
  have K2 := Lib.hid c2
  have K3 := Lib.hid c3
  have K4 := Lib.hid c4
  have HQ := Lib.hid hq
  have p0 := hp.1
  have p1 := hp.2
  have e8 : IntKind.i64.wrap (8 * q) = 8 * q := IntWalk.i64_in _ (by omega)
  have e87 : IntKind.i64.wrap (8 * q + 7) = 8 * q + 7 := IntWalk.i64_in _ (by omega)
  have ec : IntKind.i64.wrap p = p := IntWalk.i64_in _ (by omega)
  have et : p.tmod 64 = q := by rw [Int.tmod_eq_emod_of_nonneg p0]; exact hq
  clear hp wp wa wb wr hT ka kb kr hA hB hR pa pb pr c2 c3 c4 hq wA wB wC wD L3 CH
  go_enter Tryd.func7, Tryd.ntmps7
  have B0 := Lib.hid (Below.refl w.heap.size w)
  go_wp2_with fail
  refine (C1.out _ T0.out).mono ?_
  rintro e w1 ⟨rfl, b1⟩
  have B1 := Lib.hid (B0.out.trans (b1.mono B0.out.size))
  have T1 := Lib.hid (T0.out.below b1)
  clear b1 B0 T0
  go_upto_region 4 with fail
  go_wp2_with fail
  refine (K2.out _).mono ?_
  rintro e wp ⟨rfl, rfl⟩
  go_wp2_with fail
  refine (K3.out _).mono ?_
  rintro e wp ⟨rfl, rfl⟩
  go_wp2_with fail
  refine (K4.out _).mono ?_
  rintro e wp ⟨rfl, rfl⟩
  clear K2 K3 K4 C1
  go_wp2_with fail
  refine (U1.out _).mono ?_
  rintro e w2 ⟨rfl, b2⟩
  have B2 := Lib.hid (B1.out.trans (b2.mono B1.out.size))
  have T2 := Lib.hid (T1.out.below b2)
  clear b2 B1 T1
  go_wp2_with fail
  refine (U2.out _).mono ?_
  rintro e w3 ⟨rfl, b3⟩
  have B3 := Lib.hid (B2.out.trans (b3.mono B2.out.size))
  have T3 := Lib.hid (T2.out.below b3)
  clear b3 B2 T2
  go_wp2_with fail
  refine (U3.out _).mono ?_
  rintro e w4 ⟨rfl, b4⟩
  have B4 := Lib.hid (B3.out.trans (b4.mono B3.out.size))
  have T4 := Lib.hid (T3.out.below b4)
  clear b4 B3 T3
  clear U1 U2 U3
  go_wp2_with (first | ((with_reducible (show wpList _ _ _ (Oper.mk (some 61) _ _ _ _ _ :: _) _ _)); refine Hid.out ?_))
  refine Lib.hid ?_
  refine wpList_build rfl 40 _ rfl #[(0, .int .i64 q), (1, .int .i64 Z)] (by simp only [List.map_toArray, List.map_cons, List.map_nil]; rfl) _ (build_pe q Z _) ?_
  have hsz : ∀ g : Nat → Value, (rowF 5 g).size = 5 := fun g => rowF_size _ _
  go_wp2_with fail
  rw [fold_pe]
  clear hsz
  obtain ⟨w5, hw5⟩ : ∃ y, w4.alloc (.cells (rowF 5 (peC ⟨q, Z, [], 0, 0⟩ pe00)) 40) = y := ⟨_, rfl⟩
  have b5 : Below w4.heap.size w4 w5 := by rw [← hw5]; exact (Below.refl _ _).alloc (Nat.le_refl _) _
  have V5 : Hid (PesS w5 (.slice (some ⟨w4.heap.size, 0, none⟩) 1 1) [⟨q, Z, [], 0, 0⟩] us0) := Lib.hid (by rw [← hw5]; exact pes_one ⟨q, Z, [], 0, 0⟩ rfl (RowV.new w4 _ 5 (peC ⟨q, Z, [], 0, 0⟩ pe00)))
  have z5 : w4.heap.size + 1 = w5.heap.size := by rw [← hw5]; exact (Array.size_push _).symm
  rw [hw5]
  (try rw [z5])
  have B5 := Lib.hid (B4.out.trans (b5.mono B4.out.size))
  have T5 := Lib.hid (T4.out.below b5)
  clear b5 hw5 z5 B4 T4
  go_wp2_with fail
  refine (F1.out _ T5.out).mono ?_
  rintro e w6 ⟨rfl, b6⟩
  have B6 := Lib.hid (B5.out.trans (b6.mono B5.out.size))
  have T6 := Lib.hid (T5.out.below b6)
  have V6 := Lib.hid (V5.out.below b6)
  clear b6 B5 T5 V5
  have Zr := Lib.hid (RowV.new w6 27 8 (ctC ct0))
  go_upto_region 11 with ((with_reducible (show wpList _ _ _ (Oper.mk none _ _ _ _ _ :: _) _ _)); refine wpList_store_rowV (o := ⟨none, .store 27 (.tmp 19) (.tmp 70), _, _, _, _⟩) rfl 27 (.tmp 19) (.tmp 70) rfl w6.heap.size rfl 8 27 _ (ctC cA) rfl Zr.out (by kernel_rfl) (fun j _ => ctC_one _ j) ?_; intro w7 P7 o7)
  have b7 : Below w6.heap.size w6 w7 := ((Below.refl _ _).alloc (Nat.le_refl _) _).trans (o7.out.below (Nat.le_refl _) (by rw [World.size_alloc]; omega))
  have B7 := Lib.hid (B6.out.trans (b7.mono B6.out.size))
  have T7 := Lib.hid (T6.out.below b7)
  have V7 := Lib.hid (V6.out.below b7)
  clear b7 o7 Zr B6 T6 V6
  go_wp2_with fail
  refine (F2.out _ T7.out).mono ?_
  rintro e w8 ⟨rfl, b8⟩
  have B8 := Lib.hid (B7.out.trans (b8.mono B7.out.size))
  have T8 := Lib.hid (T7.out.below b8)
  have V8 := Lib.hid (V7.out.below b8)
  have P8 := Lib.hid (P7.out.below b8)
  clear b8 B7 T7 V7 P7
  have Zr := Lib.hid (RowV.new w8 27 8 (ctC ct0))
  go_upto_region 12 with ((with_reducible (show wpList _ _ _ (Oper.mk none _ _ _ _ _ :: _) _ _)); refine wpList_store_rowV (o := ⟨none, .store 27 (.tmp 21) (.tmp 79), _, _, _, _⟩) rfl 27 (.tmp 21) (.tmp 79) rfl w8.heap.size rfl 8 27 _ (ctC cB) rfl Zr.out (by kernel_rfl) (fun j _ => ctC_one _ j) ?_; intro w9 Q9 o9)
  have b9 : Below w8.heap.size w8 w9 := ((Below.refl _ _).alloc (Nat.le_refl _) _).trans (o9.out.below (Nat.le_refl _) (by rw [World.size_alloc]; omega))
  have B9 := Lib.hid (B8.out.trans (b9.mono B8.out.size))
  have T9 := Lib.hid (T8.out.below b9)
  have V9 := Lib.hid (V8.out.below b9)
  have P9 := Lib.hid (P8.out.below b9)
  clear b9 o9 Zr B8 T8 V8 P8
  go_wp2_with fail
  refine (F3.out _ T9.out).mono ?_
  rintro e w10 ⟨rfl, b10⟩
  have B10 := Lib.hid (B9.out.trans (b10.mono B9.out.size))
  have T10 := Lib.hid (T9.out.below b10)
  have V10 := Lib.hid (V9.out.below b10)
  have P10 := Lib.hid (P9.out.below b10)
  have Q10 := Lib.hid (Q9.out.below b10)
  clear b10 B9 T9 V9 P9 Q9
  have Zr := Lib.hid (RowV.new w10 27 8 (ctC ct0))
  go_upto_region 13 with ((with_reducible (show wpList _ _ _ (Oper.mk none _ _ _ _ _ :: _) _ _)); refine wpList_store_rowV (o := ⟨none, .store 27 (.tmp 23) (.tmp 86), _, _, _, _⟩) rfl 27 (.tmp 23) (.tmp 86) rfl w10.heap.size rfl 8 27 _ (ctC cC) rfl Zr.out (by kernel_rfl) (fun j _ => ctC_one _ j) ?_; intro w11 R11 o11)
  have b11 : Below w10.heap.size w10 w11 := ((Below.refl _ _).alloc (Nat.le_refl _) _).trans (o11.out.below (Nat.le_refl _) (by rw [World.size_alloc]; omega))
  have B11 := Lib.hid (B10.out.trans (b11.mono B10.out.size))
  have T11 := Lib.hid (T10.out.below b11)
  have V11 := Lib.hid (V10.out.below b11)
  have P11 := Lib.hid (P10.out.below b11)
  have Q11 := Lib.hid (Q10.out.below b11)
  clear b11 o11 Zr B10 T10 V10 P10 Q10
  go_wp2_with fail
  refine (F4.out _ T11.out).mono ?_
  rintro e w12 ⟨rfl, b12⟩
  have B12 := Lib.hid (B11.out.trans (b12.mono B11.out.size))
  have T12 := Lib.hid (T11.out.below b12)
  have V12 := Lib.hid (V11.out.below b12)
  have P12 := Lib.hid (P11.out.below b12)
  have Q12 := Lib.hid (Q11.out.below b12)
  have R12 := Lib.hid (R11.out.below b12)
  clear b12 B11 T11 V11 P11 Q11 R11
  have Zr := Lib.hid (RowV.new w12 27 8 (ctC ct0))
  go_upto_region 14 with ((with_reducible (show wpList _ _ _ (Oper.mk none _ _ _ _ _ :: _) _ _)); refine wpList_store_rowV (o := ⟨none, .store 27 (.tmp 25) (.tmp 94), _, _, _, _⟩) rfl 27 (.tmp 25) (.tmp 94) rfl w12.heap.size rfl 8 27 _ (ctC cD) rfl Zr.out (by kernel_rfl) (fun j _ => ctC_one _ j) ?_; intro w13 S13 o13)
  have b13 : Below w12.heap.size w12 w13 := ((Below.refl _ _).alloc (Nat.le_refl _) _).trans (o13.out.below (Nat.le_refl _) (by rw [World.size_alloc]; omega))
  have B13 := Lib.hid (B12.out.trans (b13.mono B12.out.size))
  have T13 := Lib.hid (T12.out.below b13)
  have V13 := Lib.hid (V12.out.below b13)
  have P13 := Lib.hid (P12.out.below b13)
  have Q13 := Lib.hid (Q12.out.below b13)
  have R13 := Lib.hid (R12.out.below b13)
  clear b13 o13 Zr B12 T12 V12 P12 Q12 R12
  clear F1 F2 F3 F4
  go_wp2_with fail
  refine (C9.out _ _ V13.out).mono ?_
  rintro e w14 ⟨rfl, b14⟩
  have B14 := Lib.hid (B13.out.trans (b14.mono B13.out.size))
  have T14 := Lib.hid (T13.out.below b14)
  have V14 := Lib.hid (V13.out.below b14)
  have P14 := Lib.hid (P13.out.below b14)
  have Q14 := Lib.hid (Q13.out.below b14)
  have R14 := Lib.hid (R13.out.below b14)
  have S14 := Lib.hid (S13.out.below b14)
  clear b14 B13 T13 V13 P13 Q13 R13 S13
  clear C9
  go_wp2_with (first | ((with_reducible (show wpList _ _ _ (Oper.mk (some 128) _ _ _ _ _ :: _) _ _)); refine Hid.out ?_))
  refine Lib.hid ?_
  refine wpList_load_rowV rfl 27 (.tmp 25) rfl w12.heap.size rfl 8 _ _ (S14.out) _ Tryd.underlying27 rfl (by kernel_rfl) ?_
  go_wp2_with (first | ((with_reducible (show wpList _ _ _ (Oper.mk (some 129) _ _ _ _ _ :: _) _ _)); refine Hid.out ?_))
  refine Lib.hid ?_
  refine wpList_load_rowV rfl 27 (.tmp 23) rfl w10.heap.size rfl 8 _ _ (R14.out) _ Tryd.underlying27 rfl (by kernel_rfl) ?_
  go_wp2_with (first | ((with_reducible (show wpList _ _ _ (Oper.mk (some 130) _ _ _ _ _ :: _) _ _)); refine Hid.out ?_))
  refine Lib.hid ?_
  refine wpList_load_rowV rfl 27 (.tmp 21) rfl w8.heap.size rfl 8 _ _ (Q14.out) _ Tryd.underlying27 rfl (by kernel_rfl) ?_
  go_wp2_with (first | ((with_reducible (show wpList _ _ _ (Oper.mk (some 131) _ _ _ _ _ :: _) _ _)); refine Hid.out ?_))
  refine Lib.hid ?_
  refine wpList_load_rowV rfl 27 (.tmp 19) rfl w6.heap.size rfl 8 _ _ (P14.out) _ Tryd.underlying27 rfl (by kernel_rfl) ?_
  go_wp2_with (first | ((with_reducible (show wpList _ _ _ (Oper.mk (some 132) _ _ _ _ _ :: _) _ _)); refine Hid.out ?_))
  refine Lib.hid ?_
  refine wpList_load_rowV rfl 27 (.tmp 23) rfl w10.heap.size rfl 8 _ _ (R14.out) _ Tryd.underlying27 rfl (by kernel_rfl) ?_
  go_wp2_with (first | ((with_reducible (show wpList _ _ _ (Oper.mk (some 133) _ _ _ _ _ :: _) _ _)); refine Hid.out ?_))
  refine Lib.hid ?_
  refine wpList_load_rowV rfl 27 (.tmp 21) rfl w8.heap.size rfl 8 _ _ (Q14.out) _ Tryd.underlying27 rfl (by kernel_rfl) ?_
  go_wp2_with (first | ((with_reducible (show wpList _ _ _ (Oper.mk (some 134) _ _ _ _ _ :: _) _ _)); refine Hid.out ?_))
  refine Lib.hid ?_
  refine wpList_load_rowV rfl 27 (.tmp 25) rfl w12.heap.size rfl 8 _ _ (S14.out) _ Tryd.underlying27 rfl (by kernel_rfl) ?_
  go_wp2_with (first | ((with_reducible (show wpList _ _ _ (Oper.mk (some 135) _ _ _ _ _ :: _) _ _)); refine Hid.out ?_))
  refine Lib.hid ?_
  refine wpList_load_rowV rfl 27 (.tmp 23) rfl w10.heap.size rfl 8 _ _ (R14.out) _ Tryd.underlying27 rfl (by kernel_rfl) ?_
  go_wp2_with (first | ((with_reducible (show wpList _ _ _ (Oper.mk (some 136) _ _ _ _ _ :: _) _ _)); refine Hid.out ?_))
  refine Lib.hid ?_
  refine wpList_load_rowV rfl 27 (.tmp 21) rfl w8.heap.size rfl 8 _ _ (Q14.out) _ Tryd.underlying27 rfl (by kernel_rfl) ?_
  go_wp2_with (first | ((with_reducible (show wpList _ _ _ (Oper.mk (some 137) _ _ _ _ _ :: _) _ _)); refine Hid.out ?_))
  refine Lib.hid ?_
  refine wpList_load_rowV rfl 27 (.tmp 25) rfl w12.heap.size rfl 8 _ _ (S14.out) _ Tryd.underlying27 rfl (by kernel_rfl) ?_
  go_wp2_with (first | ((with_reducible (show wpList _ _ _ (Oper.mk (some 138) _ _ _ _ _ :: _) _ _)); refine Hid.out ?_))
  refine Lib.hid ?_
  refine wpList_buildT (s := 8) (c := ctC) rfl 45 10 _ rfl ct0 [cD, cC, cB, cA, cC, cB, cD, cC, cB, cD] rfl (by decide) (by decide) (by decide) (by decide) rfl Tryd.underlying45 (by kernel_rfl) (by kernel_rfl) ?_
  intro w15 O15 bb L15
  have b15 := bb.out
  clear bb L15
  have B15 := Lib.hid (B14.out.trans (b15.mono B14.out.size))
  have T15 := Lib.hid (T14.out.below b15)
  have V15 := Lib.hid (V14.out.below b15)
  have P15 := Lib.hid (P14.out.below b15)
  have Q15 := Lib.hid (Q14.out.below b15)
  have R15 := Lib.hid (R14.out.below b15)
  have S15 := Lib.hid (S14.out.below b15)
  clear b15 B14 T14 V14 P14 Q14 R14 S14
  clear P15 Q15 R15 S15
  go_wp2_with fail
  refine (C13.out _ _ _ V15.out (O15.out.at' ct0 (by decide) (by decide) (show 10 ≤ 1000000 by decide)) T15.out).mono ?_
  rintro e w16 ⟨⟨lv, rfl, hl⟩, b16⟩
  have B16 := Lib.hid (B15.out.trans (b16.mono B15.out.size))
  have T16 := Lib.hid (T15.out.below b16)
  have V16 := Lib.hid (V15.out.below b16)
  clear b16 B15 T15 V15
  obtain ⟨la, lc, hlv⟩ := hl.slice
  have hlv : lv = .slice la 2 lc := hlv
  subst hlv
  have U16 := Lib.hid hl
  clear hl C13
  clear V16 T16
  go_wp2_with (first | ((with_reducible (show wpList _ _ _ (Oper.mk (some 144) _ _ _ _ _ :: _) _ _)); refine Hid.out ?_))
  refine Lib.hid ?_
  refine wpList_build rfl 31 _ rfl #[(0, .int .i64 (8 * q)), (1, .int .i64 Y), (2, .int .i64 X), (3, .int .i64 3)] (by simp only [List.map_toArray, List.map_cons, List.map_nil]; rfl) _ (build_zl _ _ _ _ _) ?_
  go_wp2_with (first | ((with_reducible (show wpList _ _ _ (Oper.mk (some 148) _ _ _ _ _ :: _) _ _)); refine Hid.out ?_))
  refine Lib.hid ?_
  refine wpList_build rfl 31 _ rfl #[(0, .int .i64 (8 * q + 7)), (1, .int .i64 Y), (2, .int .i64 Y), (3, .int .i64 1)] (by simp only [List.map_toArray, List.map_cons, List.map_nil]; rfl) _ (build_zl _ _ _ _ _) ?_
  go_wp2_with (first | ((with_reducible (show wpList _ _ _ (Oper.mk (some 149) _ _ _ _ _ :: _) _ _)); refine Hid.out ?_))
  refine Lib.hid ?_
  refine wpList_buildT (s := 5) (c := liC) rfl 23 2 _ rfl li0 [⟨8 * q, Y, X, 3, false⟩, ⟨8 * q + 7, Y, Y, 1, false⟩] rfl (by decide) (by decide) (by decide) (by decide) rfl Tryd.underlying23 (by kernel_rfl) (by kernel_rfl) ?_
  intro w17 N17 bb L17
  have b17 := bb.out
  clear bb L17
  have B17 := Lib.hid (B16.out.trans (b17.mono B16.out.size))
  have U17 := Lib.hid (U16.out.below b17)
  clear b17 B16 U16
  go_wp2_with fail
  refine (C14.out _ _ [⟨8 * q, Y, X, 3, false⟩, ⟨8 * q + 7, Y, Y, 1, false⟩] _ (show 2 ≤ 1000 by decide) U17.out (N17.out.at' li0 (by decide) (by decide) (show 2 ≤ 1000000 by decide))).mono ?_
  rintro e w18 ⟨rfl, b18⟩
  have B18 := Lib.hid (B17.out.trans (b18.mono B17.out.size))
  have U18 := Lib.hid (U17.out.below b18)
  clear b18 B17 U17
  go_wp2_with fail
  go_ret
  exact ⟨rfl, B18.out⟩

set_option maxRecDepth 100000 in
set_option maxHeartbeats 1000000 in
theorem lifted (os : Os) (started : os.Started) (H : Type) (enc : TypeId × Value → H) :
    ReturnsInHanded {} Tryd.checked os 7 .any (fun w args => (Rows.peopleStorySpec.pre enc Tryd.prog Tryd.f7 [] false w args ∧ laidMetH Tryd.prog laidL w) ∧ sizedMet enc Tryd.prog Tryd.f7 (OpenSpec.ofChange Rows.peopleStorySpec) false w args)
      (Rows.peopleStorySpec.post enc Tryd.prog Tryd.f7 false true false false) := by
  refine returnsInHanded_of_change_and (C := Tryd.checked) (X := fun w _ => laidMetH Tryd.prog laidL w) (fun _ _ _ hh h => h.of_heap hh) own started (by kernel_rfl) Tryd.func7
    (ChangeSpec.witness_shaped (enc := enc) (C := Tryd.checked) (os := os) (X := fun w _ => laidMetH Tryd.prog laidL w) false (World.doorLaid Tryd.prog 19 os) #[.int .u8 0, .int .i64 0, .int .i64 0, .int .i64 0] 8 rfl (World.shaped_of_RefB (by kernel_rfl) (by kernel_rfl)) (by kernel_rfl) (by kernel_rfl) (by kernel_rfl) (door_met os _)) ?_
  intro W base args ds gs before hval0 hW _ hsz hL _
  have hval : ∀ (j : Nat) t v, Tryd.f7.params[j]? = some t → args[j]? = some v → Value.okWide Tryd.prog W .any base t v := hval0
  have hW' := hW
  obtain ⟨p, q, hA0, hV, rfl, hfz, hnd⟩ := hW
  have hA : DataW.TrodAll enc Tryd.prog W 0 (fun _ => true) true Tryd.f7.params.toList args.toList ds p := hA0
  rw [Tryd.params7] at hA hval
  obtain ⟨v0, vs0, d0, ds0, p0, q0, hargs, rfl, rfl, h0, r0⟩ := trodAll_cons hA
  obtain ⟨v1, vs1, d1, ds1, p1, q1, rfl, rfl, rfl, h1, r1⟩ := trodAll_cons r0
  obtain ⟨v2, vs2, d2, ds2, p2, q2, rfl, rfl, rfl, h2, r2⟩ := trodAll_cons r1
  obtain ⟨v3, vs3, d3, ds3, p3, q3, rfl, rfl, rfl, h3, r3⟩ := trodAll_cons r2
  obtain ⟨rfl, rfl, rfl⟩ := trodAll_nil r3
  obtain rfl : args = #[v0, v1, v2, v3] := by cases args; simp_all
  obtain ⟨rfl, rfl⟩ := trodVars_none hV
  obtain ⟨a0, rfl, rfl, rfl, w0⟩ := open_int Tryd.underlying5 (hval 0 5 v0 rfl rfl) h0
  obtain ⟨a1, rfl, rfl, rfl, w1⟩ := open_int Tryd.underlying3 (hval 1 3 v1 rfl rfl) h1
  obtain ⟨a2, rfl, rfl, rfl, w2⟩ := open_int Tryd.underlying3 (hval 2 3 v2 rfl rfl) h2
  obtain ⟨a3, rfl, rfl, rfl, w3⟩ := open_int Tryd.underlying3 (hval 3 3 v3 rfl rfl) h3
  have hT := tab_of_laid hL
  clear hA0 hval0 hsz hL
  simp only [List.append_nil] at hW'
  refine (walk a0 w0 a1 w1 a2 w2 a3 w3 hT).mono fun e W' ⟨he, hg⟩ => ?_
  subst he
  exact ⟨_, rfl, post_below (pa := []) (pv := []) hW' (fun _ _ _ => (trodAll_cons_mk (shut_bool Tryd.underlying4 _) trodAll_mk0)) (fun sp _ => (trodAll_cons_mk (shut_int Tryd.underlying5 w0) (trodAll_cons_mk (shut_int Tryd.underlying3 w1) (trodAll_cons_mk (shut_int Tryd.underlying3 w2) (trodAll_cons_mk (shut_int Tryd.underlying3 w3) trodAll_mk0))))) (fun _ _ => rfl) rfl hg (ok_one (by kernel_rfl) rfl (okWide_bool_mk Tryd.underlying4 _))⟩

theorem over : Rows.peopleStoryRow.holds Tryd.pinned (OpenSpec.ofChange Rows.peopleStorySpec) :=
  OpenClaim.holds_of_wide 7 Tryd.f7 rfl rfl rfl rfl rfl rfl rfl ⟨rfl, rfl, rfl, rfl, rfl⟩ rfl rfl rfl rfl rfl (by kernel_rfl) Tryd.func7 (by kernel_rfl)
    (of_decide_eq_true (by kernel_rfl)) (by unfold Func.isWrapper; first | (rw [if_pos (by decide +kernel)]; kernel_rfl) | (rw [if_neg (by decide +kernel)]; exact ⟨rfl, rfl⟩))
    (fun os started H enc _ => lifted os started H enc)

end Go.Proofs.YtmmppibbglacdaaDoor.peopleStory
namespace Go.Proofs.YtmmppibbglacdaaDoor
set_option maxRecDepth 100000 in
theorem peopleStory_holds : Rows.PeopleStoryCardSaid :=
  Claim7.holds_tied_plain_at .later [] [.data, .data] true _ true
    peopleStory.over (fun _ h => by cases h) (by kernel_rfl) (fun _ h => by cases h) peopleStory_row_tie rfl ⟨rfl, rfl⟩ (by kernel_rfl) rfl
    (fun f fn hf hfn => by
      obtain rfl : f = 7 := Option.some.inj ((show Tryd.prog.funcNamed "chartroom/chartroomlaw37.PeopleStory" = some 7 by kernel_rfl).symm.trans hf) |>.symm
      obtain rfl : fn = Tryd.f7 := (Option.some.inj (Tryd.func7.symm.trans hfn)).symm
      exact ⟨by kernel_rfl, fun j t ht => by
        rw [Tryd.params7] at ht
        have hm : t ∈ [5, 3, 3, 3] := by simpa using Array.mem_of_getElem? ht
        have hall : ([5, 3, 3, 3].all fun u => !Tryd.prog.wantsStandIn u) = true := by kernel_rfl
        exact (show Tryd.prog.wantsStandIn t = false by simpa using List.all_eq_true.1 hall t hm)⟩)
    (by kernel_rfl)
#print axioms peopleStory_holds
end Go.Proofs.YtmmppibbglacdaaDoor
