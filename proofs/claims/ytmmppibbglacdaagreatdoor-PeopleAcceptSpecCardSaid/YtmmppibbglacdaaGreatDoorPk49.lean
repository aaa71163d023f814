/- Package chartroomlaw37: sane. -/
import Derived.Test.YtmmppibbglacdaaGreatDoorPk48
import Derived.Test.YtmmppibbglacdaaGreatDoorPk38
set_option linter.unusedVariables false
set_option linter.unusedSimpArgs false
namespace Go.Proofs.YtmmppibbglacdaaGreatDoor
open Go.RowKit Cod
theorem acc_nil : accF [] [] ct0 = (370, li0) := rfl
theorem lis_nil (c : Ct) : lisF [] [c] = [] := by
  unfold lisF
  rw [List.foldl_cons, List.foldl_nil]
  unfold stepL
  rw [if_neg ?_]
  intro h
  obtain ⟨_, _, p, h3, _⟩ := accF_ok h
  cases h3
theorem chk_zero : chkPe [pe0] = false := by
  unfold chkPe
  refine allB_false (i := 0) (by decide) ?_
  refine okPe_head ?_
  unfold hdPe
  show (!decide ((0 : Int) < 0) && (!decide ((64 : Int) ≤ 0) && ((decide (0 = 0) || _) && (elemB 0 && _)))) = false
  rw [show elemB 0 = false by decide]; rfl
theorem s0_eA : crtE (ctN 1 3 64 4 1 3) 3 = 0 := by
  have h := Sty.eA s0_ok
  have e : s0.nA = ctN 1 3 64 4 1 3 := by show ctN 1 3 (pubV 3) 4 1 3 = _; rw [pub3]
  rw [e] at h; exact h
theorem s0_eB : crtE (ctN 2 5 256 4 1 3) 3 = 0 := by
  have h := Sty.eB s0_ok
  have e : s0.nB = ctN 2 5 256 4 1 3 := by show ctN 2 5 (pubV 4) 4 1 3 = _; rw [pub4]
  rw [e] at h; exact h
theorem fold_ce (g : Nat → Value) : Array.foldl (fun (cs : Array Value) (x : Value × Nat) => cs.setIfInBounds x.snd x.fst) #[.int .i64 0, .int .i64 0, .int .i64 0, .int .i64 0, .int .i64 0, .int .i64 0, .int .i64 0, .int .i64 0] (rowF 8 g).zipIdx 0 8 = rowF 8 g := by kernel_rfl
theorem zb1 (W : World) : (Instr.build 42 #[(0, .int .i64 3), (1, .int .i64 64), (2, .int .i64 4), (3, .int .i64 2), (4, .bool true)]).run Tryz.prog W = .ok (liA ⟨3, 64, 4, 2, true⟩) W := by kernel_rfl
theorem zb2 (W : World) : (Instr.build 42 #[(0, .int .i64 5), (1, .int .i64 256), (2, .int .i64 4), (3, .int .i64 1)]).run Tryz.prog W = .ok (liA ⟨5, 256, 4, 1, false⟩) W := by kernel_rfl
theorem zb3 (W : World) : (Instr.build 42 #[(0, .int .i64 3), (1, .int .i64 64), (2, .int .i64 4), (3, .int .i64 3)]).run Tryz.prog W = .ok (liA ⟨3, 64, 4, 3, false⟩) W := by kernel_rfl
/-- a slice of certificates -/
abbrev CtS (w : World) (v : Value) (cs : List Ct) : Prop := SlAt 8 w v cs.length (fun i => ctC (cs.getD i ct0))
abbrev LiS (w : World) (v : Value) (x : List Li) : Prop := SlAt 5 w v x.length (fun i => liC (x.getD i li0))
theorem crt_run {k d v l n b x : Int} (hw : (ctN k d v l n b).wf) (he : crtE (ctN k d v l n b) x = 0) (W : World) (h : Tab W) : Calls Tryz.prog 13 #[.int .i64 k, .int .i64 d, .int .i64 v, .int .i64 l, .int .i64 n, .int .i64 b, .int .i64 x] W fun e w' => e = .returned (.tuple #[.agg (rowF 8 (ctC (crtV (ctN k d v l n b) x))), .int .i64 0]) ∧ Below W.heap.size W w' := by
  have := pcertify_any k d v l n b x hw W h
  rwa [he] at this
theorem wf_A : (ctN 1 3 64 4 1 3).wf := ctn_wf (i64s' (by decide)) (i64s' (by decide)) (i64s' (by decide)) (i64s' (by decide)) (i64s' (by decide)) (i64s' (by decide))
theorem wf_B : (ctN 2 5 256 4 1 3).wf := ctn_wf (i64s' (by decide)) (i64s' (by decide)) (i64s' (by decide)) (i64s' (by decide)) (i64s' (by decide)) (i64s' (by decide))
theorem wf_C : (ctN 4 3 0 0 2 5).wf := ctn_wf (i64s' (by decide)) (i64s' (by decide)) (i64s' (by decide)) (i64s' (by decide)) (i64s' (by decide)) (i64s' (by decide))
theorem wf_D : (ctN 3 3 64 4 3 (-1)).wf := ctn_wf (i64s' (by decide)) (i64s' (by decide)) (i64s' (by decide)) (i64s' (by decide)) (i64s' (by decide)) (i64s' (by decide))
theorem s0_eC : crtE (ctN 4 3 0 0 2 5) 4 = 0 := Sty.eC s0_ok
theorem s0_eD : crtE (ctN 3 3 64 4 3 (-1)) 2 = 0 := by
  have h := Sty.eD s0_ok
  have e : s0.nD = ctN 3 3 64 4 3 (-1) := rfl
  have e2 : s0.kr = 2 := rfl
  rw [e, e2] at h; exact h
set_option maxRecDepth 100000 in
set_option maxHeartbeats 16000000 in
theorem sane37_any (w : World) (hT : Tab w) : Calls Tryz.prog 6 #[] w fun e w' => e = .returned (.bool true) ∧ Below w.heap.size w w' := by
  have i64 : ∀ {z : Int}, (-1000000 ≤ z ∧ z ≤ 1000000) → i64B z := i64s'
  have wA : s0.A.wf := by rw [s0_A]; exact crt_wf 3 wf_A
  have wB : s0.B.wf := by rw [s0_B]; exact crt_wf 3 wf_B
  have wC : s0.C.wf := by rw [s0_C]; exact crt_wf 4 wf_C
  have wD : s0.D.wf := by rw [s0_D]; exact crt_wf 2 wf_D
  have C1 := Lib.hid (fun W h => crt_run wf_A s0_eA W h)
  have C2 := Lib.hid (fun W h => crt_run wf_B s0_eB W h)
  have C3 := Lib.hid (fun W h => crt_run wf_C s0_eC W h)
  have C4 := Lib.hid (fun W h => crt_run wf_D s0_eD W h)
  rw [← s0_A] at C1
  rw [← s0_B] at C2
  rw [← s0_C] at C3
  rw [← s0_D] at C4
  have L0 := lis_nil s0.A
  have L1 : lisF pOne [s0.B, s0.A, s0.A, s0.B, s0.C] = [⟨3, 64, 4, 2, true⟩, ⟨5, 256, 4, 1, false⟩] := by
    have h := Sty.list1 s0_ok
    have e : s0.ps = pOne := rfl
    rw [e, s0_zC, s0_zB] at h; exact h
  have L2 : lisF pOne [s0.A, s0.B, s0.C, s0.D] = [⟨3, 64, 4, 3, false⟩, ⟨5, 256, 4, 1, false⟩] := by
    have h := Sty.list2 s0_ok
    have e : s0.ps = pOne := rfl
    rw [e, s0_zD, s0_zB] at h; exact h
  obtain ⟨cA, hA⟩ : ∃ y, s0.A = y := ⟨_, rfl⟩
  obtain ⟨cB, hB⟩ : ∃ y, s0.B = y := ⟨_, rfl⟩
  obtain ⟨cC, hC⟩ : ∃ y, s0.C = y := ⟨_, rfl⟩
  obtain ⟨cD, hD⟩ : ∃ y, s0.D = y := ⟨_, rfl⟩
  rw [hA] at C1 L0 L1 L2 wA
  rw [hB] at C2 L1 L2 wB
  rw [hC] at C3 L1 L2 wC
  rw [hD] at C4 L2 wD
  clear hA hB hC hD
  have C5 : Hid (∀ W, Calls Tryz.prog 8 #[.int .i64 512] W fun e w' => e = .returned (.tuple #[.int .i64 0, .int .i64 371]) ∧ Below W.heap.size W w') := Lib.hid (fun W => ((powner_any 512 W).mono fun e w' h => ⟨h.1, by rw [← h.2]; exact Below.refl _ _⟩))
  have C6 : Hid (∀ W, Calls Tryz.prog 8 #[.int .i64 7] W fun e w' => e = .returned (.tuple #[.int .i64 0, .int .i64 0]) ∧ Below W.heap.size W w') := Lib.hid (fun W => ((powner_any 7 W).mono fun e w' h => ⟨h.1, by rw [← h.2]; exact Below.refl _ _⟩))
  have C7 : Hid (∀ W, Tab W → Calls Tryz.prog 15 #[.slice none 0 0, .slice none 0 0, .agg #[.int .i64 0, .int .i64 0, .int .i64 0, .int .i64 0, .int .i64 0, .int .i64 0, .int .i64 0, .int .i64 0]] W fun e w' => e = .returned (.tuple #[liA li0, .int .i64 370]) ∧ Below W.heap.size W w') := Lib.hid (fun W h => by
    have := paccept_any [] us0 (.slice none 0 0) [] (.slice none 0 0) ct0 ct0_wf W (pes_nil W) (by decide) (sl_nil W) (by decide) h
    rw [acc_nil] at this
    exact this)
  have C8 : Hid (∀ W, Calls Tryz.prog 10 #[.slice none 0 0] W fun e w' => e = .returned (.int .i64 0) ∧ Below W.heap.size W w') := Lib.hid (fun W => pcheck37_any [] us0 _ W (pes_nil W) (by decide))
  have C9 : Hid (∀ v W, PesS W v pOne us0 → Calls Tryz.prog 10 #[v] W fun e w' => e = .returned (.int .i64 0) ∧ Below W.heap.size W w') := Lib.hid (fun v W h => by have := pcheck37_any pOne us0 v W h (by decide); rwa [chk_one] at this)
  have C10 : Hid (∀ v W, PesS W v [pe0] us0 → Calls Tryz.prog 10 #[v] W fun e w' => e = .returned (.int .i64 371) ∧ Below W.heap.size W w') := Lib.hid (fun v W h => by have := pcheck37_any [pe0] us0 v W h (by decide); rwa [chk_zero] at this)
  have C11 : Hid (∀ v W, CtS W v [cA] → Tab W → Calls Tryz.prog 18 #[.slice none 0 0, v] W fun e w' => (∃ u, e = .returned u ∧ LiS w' u []) ∧ Below W.heap.size W w') := Lib.hid (fun v W h t => by
    have := plistings_any [] us0 (.slice none 0 0) [cA] v W (pes_nil W) (by decide) h (show 1 ≤ 12 by decide) (fun c hc => by rw [List.mem_singleton] at hc; rw [hc]; exact wA) t
    rw [L0] at this
    exact this.mono fun e w' ⟨u, h1, h2, h3⟩ => ⟨⟨u, h1, h2⟩, h3⟩)
  have C12 : Hid (∀ v c W, PesS W v pOne us0 → CtS W c [cB, cA, cA, cB, cC] → Tab W → Calls Tryz.prog 18 #[v, c] W fun e w' => (∃ u, e = .returned u ∧ LiS w' u [⟨3, 64, 4, 2, true⟩, ⟨5, 256, 4, 1, false⟩]) ∧ Below W.heap.size W w') := Lib.hid (fun v c W hv hc t => by
    have := plistings_any pOne us0 v _ c W hv (by decide) hc (show 5 ≤ 12 by decide) (fun c hc => by
      simp only [List.mem_cons, List.not_mem_nil, or_false] at hc
      rcases hc with rfl | rfl | rfl | rfl | rfl
      · exact wB
      · exact wA
      · exact wA
      · exact wB
      · exact wC) t
    rw [L1] at this
    exact this.mono fun e w' ⟨u, h1, h2, h3⟩ => ⟨⟨u, h1, h2⟩, h3⟩)
  have C13 : Hid (∀ v c W, PesS W v pOne us0 → CtS W c [cA, cB, cC, cD] → Tab W → Calls Tryz.prog 18 #[v, c] W fun e w' => (∃ u, e = .returned u ∧ LiS w' u [⟨3, 64, 4, 3, false⟩, ⟨5, 256, 4, 1, false⟩]) ∧ Below W.heap.size W w') := Lib.hid (fun v c W hv hc t => by
    have := plistings_any pOne us0 v _ c W hv (by decide) hc (show 4 ≤ 12 by decide) (fun c hc => by
      simp only [List.mem_cons, List.not_mem_nil, or_false] at hc
      rcases hc with rfl | rfl | rfl | rfl
      · exact wA
      · exact wB
      · exact wC
      · exact wD) t
    rw [L2] at this
    exact this.mono fun e w' ⟨u, h1, h2, h3⟩ => ⟨⟨u, h1, h2⟩, h3⟩)
  have C14 : Hid (∀ u v x W, x.length ≤ 1000 → LiS W u x → LiS W v x → Calls Tryz.prog 17 #[u, v] W fun e w' => e = .returned (.bool true) ∧ Below W.heap.size W w') := Lib.hid (fun u v x W hn hu hv => by have := same37_any x x u v W hu hv hn hn; rwa [(sameB_iff x x).2 rfl] at this)
  have T0 := Lib.hid hT
  clear i64 wA wB wC wD L0 L1 L2 hT
  go_enter Tryz.func6, Tryz.ntmps6
  have B0 := Lib.hid (Below.refl w.heap.size w)
  go_wp2_with fail
  refine (C1.out _ T0.out).mono ?_
  rintro e w1 ⟨rfl, b1⟩
  have B1 := Lib.hid (B0.out.trans (b1.mono B0.out.size))
  have T1 := Lib.hid (T0.out.below b1)
  clear b1 B0 T0
  have Zr := Lib.hid (RowV.new w1 33 8 (ctC ct0))
  go_upto_region 2 with ((with_reducible (show wpList _ _ _ (Oper.mk none _ _ _ _ _ :: _) _ _)); refine wpList_store_rowV (o := ⟨none, .store 33 (.tmp 1) (.tmp 19), _, _, _, _⟩) rfl 33 (.tmp 1) (.tmp 19) rfl w1.heap.size rfl 8 33 _ (ctC cA) rfl Zr.out (by kernel_rfl) (fun j _ => ctC_one _ j) ?_; intro w2 P2 o2)
  have b2 : Below w1.heap.size w1 w2 := ((Below.refl _ _).alloc (Nat.le_refl _) _).trans (o2.out.below (Nat.le_refl _) (by rw [World.size_alloc]; omega))
  have B2 := Lib.hid (B1.out.trans (b2.mono B1.out.size))
  have T2 := Lib.hid (T1.out.below b2)
  clear b2 o2 Zr B1 T1
  go_wp2_with fail
  refine (C2.out _ T2.out).mono ?_
  rintro e w3 ⟨rfl, b3⟩
  have B3 := Lib.hid (B2.out.trans (b3.mono B2.out.size))
  have T3 := Lib.hid (T2.out.below b3)
  have P3 := Lib.hid (P2.out.below b3)
  clear b3 B2 T2 P2
  have Zr := Lib.hid (RowV.new w3 33 8 (ctC ct0))
  go_upto_region 3 with ((with_reducible (show wpList _ _ _ (Oper.mk none _ _ _ _ _ :: _) _ _)); refine wpList_store_rowV (o := ⟨none, .store 33 (.tmp 3) (.tmp 23), _, _, _, _⟩) rfl 33 (.tmp 3) (.tmp 23) rfl w3.heap.size rfl 8 33 _ (ctC cB) rfl Zr.out (by kernel_rfl) (fun j _ => ctC_one _ j) ?_; intro w4 Q4 o4)
  have b4 : Below w3.heap.size w3 w4 := ((Below.refl _ _).alloc (Nat.le_refl _) _).trans (o4.out.below (Nat.le_refl _) (by rw [World.size_alloc]; omega))
  have B4 := Lib.hid (B3.out.trans (b4.mono B3.out.size))
  have T4 := Lib.hid (T3.out.below b4)
  have P4 := Lib.hid (P3.out.below b4)
  clear b4 o4 Zr B3 T3 P3
  go_wp2_with fail
  refine (C3.out _ T4.out).mono ?_
  rintro e w5 ⟨rfl, b5⟩
  have B5 := Lib.hid (B4.out.trans (b5.mono B4.out.size))
  have T5 := Lib.hid (T4.out.below b5)
  have P5 := Lib.hid (P4.out.below b5)
  have Q5 := Lib.hid (Q4.out.below b5)
  clear b5 B4 T4 P4 Q4
  have Zr := Lib.hid (RowV.new w5 33 8 (ctC ct0))
  go_upto_region 4 with ((with_reducible (show wpList _ _ _ (Oper.mk none _ _ _ _ _ :: _) _ _)); refine wpList_store_rowV (o := ⟨none, .store 33 (.tmp 5) (.tmp 27), _, _, _, _⟩) rfl 33 (.tmp 5) (.tmp 27) rfl w5.heap.size rfl 8 33 _ (ctC cC) rfl Zr.out (by kernel_rfl) (fun j _ => ctC_one _ j) ?_; intro w6 R6 o6)
  have b6 : Below w5.heap.size w5 w6 := ((Below.refl _ _).alloc (Nat.le_refl _) _).trans (o6.out.below (Nat.le_refl _) (by rw [World.size_alloc]; omega))
  have B6 := Lib.hid (B5.out.trans (b6.mono B5.out.size))
  have T6 := Lib.hid (T5.out.below b6)
  have P6 := Lib.hid (P5.out.below b6)
  have Q6 := Lib.hid (Q5.out.below b6)
  clear b6 o6 Zr B5 T5 P5 Q5
  go_wp2_with fail
  refine (C4.out _ T6.out).mono ?_
  rintro e w7 ⟨rfl, b7⟩
  have B7 := Lib.hid (B6.out.trans (b7.mono B6.out.size))
  have T7 := Lib.hid (T6.out.below b7)
  have P7 := Lib.hid (P6.out.below b7)
  have Q7 := Lib.hid (Q6.out.below b7)
  have R7 := Lib.hid (R6.out.below b7)
  clear b7 B6 T6 P6 Q6 R6
  have Zr := Lib.hid (RowV.new w7 33 8 (ctC ct0))
  go_upto_region 5 with ((with_reducible (show wpList _ _ _ (Oper.mk none _ _ _ _ _ :: _) _ _)); refine wpList_store_rowV (o := ⟨none, .store 33 (.tmp 7) (.tmp 31), _, _, _, _⟩) rfl 33 (.tmp 7) (.tmp 31) rfl w7.heap.size rfl 8 33 _ (ctC cD) rfl Zr.out (by kernel_rfl) (fun j _ => ctC_one _ j) ?_; intro w8 S8 o8)
  have b8 : Below w7.heap.size w7 w8 := ((Below.refl _ _).alloc (Nat.le_refl _) _).trans (o8.out.below (Nat.le_refl _) (by rw [World.size_alloc]; omega))
  have B8 := Lib.hid (B7.out.trans (b8.mono B7.out.size))
  have T8 := Lib.hid (T7.out.below b8)
  have P8 := Lib.hid (P7.out.below b8)
  have Q8 := Lib.hid (Q7.out.below b8)
  have R8 := Lib.hid (R7.out.below b8)
  clear b8 o8 Zr B7 T7 P7 Q7 R7
  go_wp2_with fail
  refine (C5.out _).mono ?_
  rintro e w9 ⟨rfl, b9⟩
  have B9 := Lib.hid (B8.out.trans (b9.mono B8.out.size))
  have T9 := Lib.hid (T8.out.below b9)
  have P9 := Lib.hid (P8.out.below b9)
  have Q9 := Lib.hid (Q8.out.below b9)
  have R9 := Lib.hid (R8.out.below b9)
  have S9 := Lib.hid (S8.out.below b9)
  clear b9 B8 T8 P8 Q8 R8 S8
  go_wp2_with fail
  refine (C6.out _).mono ?_
  rintro e w10 ⟨rfl, b10⟩
  have B10 := Lib.hid (B9.out.trans (b10.mono B9.out.size))
  have T10 := Lib.hid (T9.out.below b10)
  have P10 := Lib.hid (P9.out.below b10)
  have Q10 := Lib.hid (Q9.out.below b10)
  have R10 := Lib.hid (R9.out.below b10)
  have S10 := Lib.hid (S9.out.below b10)
  clear b10 B9 T9 P9 Q9 R9 S9
  go_wp2_with fail
  refine (C7.out _ T10.out).mono ?_
  rintro e w11 ⟨rfl, b11⟩
  have B11 := Lib.hid (B10.out.trans (b11.mono B10.out.size))
  have T11 := Lib.hid (T10.out.below b11)
  have P11 := Lib.hid (P10.out.below b11)
  have Q11 := Lib.hid (Q10.out.below b11)
  have R11 := Lib.hid (R10.out.below b11)
  have S11 := Lib.hid (S10.out.below b11)
  clear b11 B10 T10 P10 Q10 R10 S10
  have Zr := Lib.hid (RowV.new w11 42 5 (liC li0))
  go_upto_region 8 with ((with_reducible (show wpList _ _ _ (Oper.mk none _ _ _ _ _ :: _) _ _)); refine wpList_store_rowV (o := ⟨none, .store 42 (.tmp 13) (.tmp 44), _, _, _, _⟩) rfl 42 (.tmp 13) (.tmp 44) rfl w11.heap.size rfl 5 42 _ (liC li0) rfl Zr.out (by kernel_rfl) (fun j _ => liC_one _ j) ?_; intro w12 Y12 o12)
  have b12 : Below w11.heap.size w11 w12 := ((Below.refl _ _).alloc (Nat.le_refl _) _).trans (o12.out.below (Nat.le_refl _) (by rw [World.size_alloc]; omega))
  have B12 := Lib.hid (B11.out.trans (b12.mono B11.out.size))
  have T12 := Lib.hid (T11.out.below b12)
  have P12 := Lib.hid (P11.out.below b12)
  have Q12 := Lib.hid (Q11.out.below b12)
  have R12 := Lib.hid (R11.out.below b12)
  have S12 := Lib.hid (S11.out.below b12)
  clear b12 o12 Zr B11 T11 P11 Q11 R11 S11
  clear C1 C2 C3 C4 C5 C6 C7
  clear Y12
  go_wp2_with fail
  refine (C8.out _).mono ?_
  rintro e w13 ⟨rfl, b13⟩
  have B13 := Lib.hid (B12.out.trans (b13.mono B12.out.size))
  have T13 := Lib.hid (T12.out.below b13)
  have P13 := Lib.hid (P12.out.below b13)
  have Q13 := Lib.hid (Q12.out.below b13)
  have R13 := Lib.hid (R12.out.below b13)
  have S13 := Lib.hid (S12.out.below b13)
  clear b13 B12 T12 P12 Q12 R12 S12
  go_wp2_with fail
  refine (one_any _).mono ?_
  rintro e w14 ⟨pv, rfl, hv, b14⟩
  have B14 := Lib.hid (B13.out.trans (b14.mono B13.out.size))
  have T14 := Lib.hid (T13.out.below b14)
  have P14 := Lib.hid (P13.out.below b14)
  have Q14 := Lib.hid (Q13.out.below b14)
  have R14 := Lib.hid (R13.out.below b14)
  have S14 := Lib.hid (S13.out.below b14)
  clear b14 B13 T13 P13 Q13 R13 S13
  have V := Lib.hid hv
  clear hv
  go_wp2_with fail
  refine (C9.out _ _ V.out).mono ?_
  rintro e w15 ⟨rfl, b15⟩
  have B15 := Lib.hid (B14.out.trans (b15.mono B14.out.size))
  have T15 := Lib.hid (T14.out.below b15)
  have P15 := Lib.hid (P14.out.below b15)
  have Q15 := Lib.hid (Q14.out.below b15)
  have R15 := Lib.hid (R14.out.below b15)
  have S15 := Lib.hid (S14.out.below b15)
  clear b15 B14 T14 P14 Q14 R14 S14
  clear V
  go_wp2_with fail
  obtain ⟨w16, hw16⟩ : ∃ y, w15.alloc (.cells #[.int .i64 0, .int .i64 0, .slice none 0 0, .int .i64 0, .int .i64 0] 50) = y := ⟨_, rfl⟩
  have b16 : Below w15.heap.size w15 w16 := by rw [← hw16]; exact (Below.refl _ _).alloc (Nat.le_refl _) _
  have V16 : Hid (RowV w16 w15.heap.size 50 5 (peC pe0 pe00)) := Lib.hid (by rw [← hw16]; exact RowV.new w15 _ 5 (peC pe0 pe00))
  have z16 : w15.heap.size + 1 = w16.heap.size := by rw [← hw16]; exact (Array.size_push _).symm
  rw [hw16]
  (try rw [z16])
  have B16 := Lib.hid (B15.out.trans (b16.mono B15.out.size))
  have T16 := Lib.hid (T15.out.below b16)
  have P16 := Lib.hid (P15.out.below b16)
  have Q16 := Lib.hid (Q15.out.below b16)
  have R16 := Lib.hid (R15.out.below b16)
  have S16 := Lib.hid (S15.out.below b16)
  clear b16 hw16 z16 B15 T15 P15 Q15 R15 S15
  go_wp2_with fail
  refine (C10.out _ _ (pes_one pe0 rfl V16.out)).mono ?_
  rintro e w17 ⟨rfl, b17⟩
  have B17 := Lib.hid (B16.out.trans (b17.mono B16.out.size))
  have T17 := Lib.hid (T16.out.below b17)
  have P17 := Lib.hid (P16.out.below b17)
  have Q17 := Lib.hid (Q16.out.below b17)
  have R17 := Lib.hid (R16.out.below b17)
  have S17 := Lib.hid (S16.out.below b17)
  have V17 := Lib.hid (V16.out.below b17)
  clear b17 B16 T16 P16 Q16 R16 S16 V16
  clear V17
  clear C8 C9 C10
  go_wp2_with (first | ((with_reducible (show wpList _ _ _ (Oper.mk (some 92) _ _ _ _ _ :: _) _ _)); refine Hid.out ?_))
  refine Lib.hid ?_
  refine wpList_unguard rfl ?_
  refine wpList_load_rowV rfl 33 (.tmp 1) rfl w1.heap.size rfl 8 _ _ (P17.out) _ Tryz.underlying33 rfl (by kernel_rfl) ?_
  have hsz : (rowF 8 (ctC cA)).size = 8 := rowF_size _ _
  go_wp2_with (first | ((with_reducible (show wpList _ _ _ (Oper.mk (some 94) _ _ _ _ _ :: _) _ _)); refine Hid.out ?_))
  refine Lib.hid ?_
  rw [fold_ce]
  clear hsz
  obtain ⟨w18, hw18⟩ : ∃ y, w17.alloc (.cells (rowF 8 (ctC cA)) 33) = y := ⟨_, rfl⟩
  have b18 : Below w17.heap.size w17 w18 := by rw [← hw18]; exact (Below.refl _ _).alloc (Nat.le_refl _) _
  have V18 : Hid (RowV w18 w17.heap.size 33 8 (ctC cA)) := Lib.hid (by rw [← hw18]; exact RowV.new w17 _ 8 (ctC cA))
  have z18 : w17.heap.size + 1 = w18.heap.size := by rw [← hw18]; exact (Array.size_push _).symm
  rw [hw18]
  (try rw [z18])
  have B18 := Lib.hid (B17.out.trans (b18.mono B17.out.size))
  have T18 := Lib.hid (T17.out.below b18)
  have P18 := Lib.hid (P17.out.below b18)
  have Q18 := Lib.hid (Q17.out.below b18)
  have R18 := Lib.hid (R17.out.below b18)
  have S18 := Lib.hid (S17.out.below b18)
  clear b18 hw18 z18 B17 T17 P17 Q17 R17 S17
  refine wpList_unguard rfl ?_
  go_wp2_with fail
  refine (C11.out _ _ (slAt_row (c := fun i => ctC ([cA].getD i ct0)) V18.out) T18.out).mono ?_
  rintro e w19 ⟨⟨lv, rfl, hl⟩, b19⟩
  have B19 := Lib.hid (B18.out.trans (b19.mono B18.out.size))
  have T19 := Lib.hid (T18.out.below b19)
  have P19 := Lib.hid (P18.out.below b19)
  have Q19 := Lib.hid (Q18.out.below b19)
  have R19 := Lib.hid (R18.out.below b19)
  have S19 := Lib.hid (S18.out.below b19)
  have V19 := Lib.hid (V18.out.below b19)
  clear b19 B18 T18 P18 Q18 R18 S18 V18
  obtain ⟨la, lc, rfl⟩ := hl.slice
  clear hl C11
  clear V19
  have LP := Lib.hid P19.out.lt
  have LQ := Lib.hid Q19.out.lt
  have LR := Lib.hid R19.out.lt
  have LS := Lib.hid S19.out.lt
  go_upto_region 10 with fail
  go_cut [15] from 17 to 129 (fun s15 wx => ∃ (ua : Option Addr) (uc : Nat), s15 = .slice ua 2 uc ∧ Hid (LiS wx (.slice ua 2 uc) [⟨3, 64, 4, 2, true⟩, ⟨5, 256, 4, 1, false⟩]) ∧ Hid (Below w19.heap.size w19 wx))
  case first =>
    refine Tc.wp_region_plan (keep w19.heap.size) 8 [] (.fl 1 (.fl 2 (.fl 3 (.fl 4 (.fl 5 (.two 0 6 (.one 6 (.one 7 .done)) (.one 0 (.one 7 .done)))))))) (by kernel_rfl) (by kernel_rfl) ?_
    intro w20 b20 e20
    have BB20 : Hid (Below w19.heap.size w19 w20) := Lib.hid b20
    clear b20 e20
    refine Tc.plan_floats [1, 2, 3, 4, 5] [_, _, _, _, _] rfl ?_
    dsimp only [List.getElem_toArray, List.getElem_cons_succ, List.getElem_cons_zero]
    repeat (first | go_big_quiet_skip | (go_big_quiet_want; go_big_quiet_op; first | go_big_quiet_on | (refine ⟨_, fun _ _ => rfl, ?_⟩; go_big_quiet_on)))
    refine wpQuiet_load_part rfl 33 (.tmp 3) rfl w3.heap.size 0 rfl 8 8 _ (ctC cB) (ctC cB) (fun W hW => row_keep (n := w19.heap.size) ((Q19.out).below BB20.out) (LQ.out) hW) (by decide) (fun j _ => by rw [Nat.zero_add]) _ Tryz.underlying33 rfl (by kernel_rfl) ?_
    simp only [Act.put, List.setIfInBounds_toArray, List.set_cons_succ, List.set_cons_zero]
    repeat (first | go_big_quiet_skip | (go_big_quiet_want; go_big_quiet_op; first | go_big_quiet_on | (refine ⟨_, fun _ _ => rfl, ?_⟩; go_big_quiet_on)))
    refine wpQuiet_load_part rfl 33 (.tmp 1) rfl w1.heap.size 0 rfl 8 8 _ (ctC cA) (ctC cA) (fun W hW => row_keep (n := w19.heap.size) ((P19.out).below BB20.out) (LP.out) hW) (by decide) (fun j _ => by rw [Nat.zero_add]) _ Tryz.underlying33 rfl (by kernel_rfl) ?_
    simp only [Act.put, List.setIfInBounds_toArray, List.set_cons_succ, List.set_cons_zero]
    repeat (first | go_big_quiet_skip | (go_big_quiet_want; go_big_quiet_op; first | go_big_quiet_on | (refine ⟨_, fun _ _ => rfl, ?_⟩; go_big_quiet_on)))
    refine wpQuiet_load_part rfl 33 (.tmp 1) rfl w1.heap.size 0 rfl 8 8 _ (ctC cA) (ctC cA) (fun W hW => row_keep (n := w19.heap.size) ((P19.out).below BB20.out) (LP.out) hW) (by decide) (fun j _ => by rw [Nat.zero_add]) _ Tryz.underlying33 rfl (by kernel_rfl) ?_
    simp only [Act.put, List.setIfInBounds_toArray, List.set_cons_succ, List.set_cons_zero]
    repeat (first | go_big_quiet_skip | (go_big_quiet_want; go_big_quiet_op; first | go_big_quiet_on | (refine ⟨_, fun _ _ => rfl, ?_⟩; go_big_quiet_on)))
    refine wpQuiet_load_part rfl 33 (.tmp 3) rfl w3.heap.size 0 rfl 8 8 _ (ctC cB) (ctC cB) (fun W hW => row_keep (n := w19.heap.size) ((Q19.out).below BB20.out) (LQ.out) hW) (by decide) (fun j _ => by rw [Nat.zero_add]) _ Tryz.underlying33 rfl (by kernel_rfl) ?_
    simp only [Act.put, List.setIfInBounds_toArray, List.set_cons_succ, List.set_cons_zero]
    repeat (first | go_big_quiet_skip | (go_big_quiet_want; go_big_quiet_op; first | go_big_quiet_on | (refine ⟨_, fun _ _ => rfl, ?_⟩; go_big_quiet_on)))
    refine wpQuiet_load_part rfl 33 (.tmp 5) rfl w5.heap.size 0 rfl 8 8 _ (ctC cC) (ctC cC) (fun W hW => row_keep (n := w19.heap.size) ((R19.out).below BB20.out) (LR.out) hW) (by decide) (fun j _ => by rw [Nat.zero_add]) _ Tryz.underlying33 rfl (by kernel_rfl) ?_
    simp only [Act.put, List.setIfInBounds_toArray, List.set_cons_succ, List.set_cons_zero]
    repeat (first | go_big_quiet_skip | (go_big_quiet_want; go_big_quiet_op; first | go_big_quiet_on | (refine ⟨_, fun _ _ => rfl, ?_⟩; go_big_quiet_on)))
    refine wpQuiet_nil ?_
    refine Tc.plan_two 0 6 rfl rfl (fun K hK => ?_) (fun K hK => ?_)
    · go_wp2_with fail
      refine (one_any _).mono ?_
      rintro e w21 ⟨pv, rfl, hv, b21⟩
      have bb := b21.mono BB20.out.size
      have BB21 := Lib.hid (BB20.out.trans bb)
      have V21 := Lib.hid hv
      go_wp2_with fail
      refine hK _ _ (keep_below bb) ?_
      clear hK K bb hv b21 BB20
      refine Tc.plan_one 6 rfl (fun K hK => ?_)
      refine wpList_buildT (s := 8) (c := ctC) rfl 40 5 _ rfl ct0 [cB, cA, cA, cB, cC] rfl (by decide) (by decide) (by decide) (by decide) rfl Tryz.underlying40 (by kernel_rfl) (by kernel_rfl) ?_
      intro w22 A22 b22 L22
      have bb := b22.out.mono BB21.out.size
      have BB22 := Lib.hid (BB21.out.trans bb)
      have Z21 := L22
      have SZ21 : Hid (w19.heap.size ≤ w21.heap.size) := Lib.hid BB21.out.size
      have V22 := Lib.hid (V21.out.below b22.out)
      refine (show wpList _ _ _ [] _ _ from hK _ _ (keep_below bb) ?_)
      dsimp only [Act.put]
      simp only [List.setIfInBounds_toArray, List.set_cons_succ, List.set_cons_zero]
      clear hK K bb b22 L22 BB21 V21
      refine Tc.plan_one 7 rfl (fun K hK => ?_)
      go_wp2_with fail
      refine (C12.out _ _ _ V22.out (A22.out.at' ct0 (by decide) (by decide) (show 5 ≤ 1000000 by decide)) (T19.out.below BB22.out)).mono ?_
      rintro e w23 ⟨⟨lv, rfl, hl⟩, b23⟩
      have bb := b23.mono BB22.out.size
      have BB23 := Lib.hid (BB22.out.trans bb)
      obtain ⟨la, lc, hlv⟩ := hl.slice
      have hlv : lv = .slice la 2 lc := hlv
      subst hlv
      have U := Lib.hid hl
      go_wp2_with fail
      refine hK _ _ (keep_below bb) ?_
      clear hK K bb hl b23 BB22 V22 A22
      refine Tc.plan_done (l := [_]) rfl (fun K hK => ?_)
      go_wp2_with fail
      go_meet
      exact ⟨la, lc, rfl, U, BB23⟩
    · refine wpList_buildT (s := 8) (c := ctC) rfl 40 5 _ rfl ct0 [cB, cA, cA, cB, cC] rfl (by decide) (by decide) (by decide) (by decide) rfl Tryz.underlying40 (by kernel_rfl) (by kernel_rfl) ?_
      intro w21 A21 b21 L21
      have bb := b21.out.mono BB20.out.size
      have BB21 := Lib.hid (BB20.out.trans bb)
      have Z20 := L21
      have SZ20 : Hid (w19.heap.size ≤ w20.heap.size) := Lib.hid BB20.out.size
      refine (show wpList _ _ _ [] _ _ from hK _ _ (keep_below bb) ?_)
      dsimp only [Act.put]
      simp only [List.setIfInBounds_toArray, List.set_cons_succ, List.set_cons_zero]
      clear hK K bb b21 L21 BB20
      refine Tc.plan_one 0 rfl (fun K hK => ?_)
      go_wp2_with fail
      refine (one_any _).mono ?_
      rintro e w22 ⟨pv, rfl, hv, b22⟩
      have bb := b22.mono BB21.out.size
      have BB22 := Lib.hid (BB21.out.trans bb)
      have V22 := Lib.hid hv
      have A22 := Lib.hid (A21.out.below b22)
      go_wp2_with fail
      refine hK _ _ (keep_below bb) ?_
      clear hK K bb hv b22 BB21 A21
      refine Tc.plan_one 7 rfl (fun K hK => ?_)
      go_wp2_with fail
      refine (C12.out _ _ _ V22.out (A22.out.at' ct0 (by decide) (by decide) (show 5 ≤ 1000000 by decide)) (T19.out.below BB22.out)).mono ?_
      rintro e w23 ⟨⟨lv, rfl, hl⟩, b23⟩
      have bb := b23.mono BB22.out.size
      have BB23 := Lib.hid (BB22.out.trans bb)
      obtain ⟨la, lc, hlv⟩ := hl.slice
      have hlv : lv = .slice la 2 lc := hlv
      subst hlv
      have U := Lib.hid hl
      go_wp2_with fail
      refine hK _ _ (keep_below bb) ?_
      clear hK K bb hl b23 BB22 V22 A22
      refine Tc.plan_done (l := [_]) rfl (fun K hK => ?_)
      go_wp2_with fail
      go_meet
      exact ⟨la, lc, rfl, U, BB23⟩
  case rest =>
    rename World => w20
    obtain ⟨ua, uc, rfl, U20, bb⟩ := hcut
    have b20 := bb.out
    clear bb
    have B20 := Lib.hid (B19.out.trans (b20.mono B19.out.size))
    have T20 := Lib.hid (T19.out.below b20)
    have P20 := Lib.hid (P19.out.below b20)
    have Q20 := Lib.hid (Q19.out.below b20)
    have R20 := Lib.hid (R19.out.below b20)
    have S20 := Lib.hid (S19.out.below b20)
    clear b20 B19 T19 P19 Q19 R19 S19
    clear C12 LP LQ LR LS
    have LP := Lib.hid P20.out.lt
    have LQ := Lib.hid Q20.out.lt
    have LR := Lib.hid R20.out.lt
    have LS := Lib.hid S20.out.lt
    go_upto_region 11 with fail
    go_cut [16] from 17 to 129 (fun s16 wx => ∃ (va : Option Addr) (vc : Nat), s16 = .slice va 2 vc ∧ Hid (LiS wx (.slice va 2 vc) [⟨3, 64, 4, 3, false⟩, ⟨5, 256, 4, 1, false⟩]) ∧ Hid (Below w20.heap.size w20 wx))
    case first =>
      refine Tc.wp_region_plan (keep w20.heap.size) 7 [] (.fl 1 (.fl 2 (.fl 3 (.fl 4 (.two 0 5 (.one 5 (.one 6 .done)) (.one 0 (.one 6 .done))))))) (by kernel_rfl) (by kernel_rfl) ?_
      intro w21 b21 e21
      have BB21 : Hid (Below w20.heap.size w20 w21) := Lib.hid b21
      clear b21 e21
      refine Tc.plan_floats [1, 2, 3, 4] [_, _, _, _] rfl ?_
      dsimp only [List.getElem_toArray, List.getElem_cons_succ, List.getElem_cons_zero]
      repeat (first | go_big_quiet_skip | (go_big_quiet_want; go_big_quiet_op; first | go_big_quiet_on | (refine ⟨_, fun _ _ => rfl, ?_⟩; go_big_quiet_on)))
      refine wpQuiet_load_part rfl 33 (.tmp 1) rfl w1.heap.size 0 rfl 8 8 _ (ctC cA) (ctC cA) (fun W hW => row_keep (n := w20.heap.size) ((P20.out).below BB21.out) (LP.out) hW) (by decide) (fun j _ => by rw [Nat.zero_add]) _ Tryz.underlying33 rfl (by kernel_rfl) ?_
      simp only [Act.put, List.setIfInBounds_toArray, List.set_cons_succ, List.set_cons_zero]
      repeat (first | go_big_quiet_skip | (go_big_quiet_want; go_big_quiet_op; first | go_big_quiet_on | (refine ⟨_, fun _ _ => rfl, ?_⟩; go_big_quiet_on)))
      refine wpQuiet_load_part rfl 33 (.tmp 3) rfl w3.heap.size 0 rfl 8 8 _ (ctC cB) (ctC cB) (fun W hW => row_keep (n := w20.heap.size) ((Q20.out).below BB21.out) (LQ.out) hW) (by decide) (fun j _ => by rw [Nat.zero_add]) _ Tryz.underlying33 rfl (by kernel_rfl) ?_
      simp only [Act.put, List.setIfInBounds_toArray, List.set_cons_succ, List.set_cons_zero]
      repeat (first | go_big_quiet_skip | (go_big_quiet_want; go_big_quiet_op; first | go_big_quiet_on | (refine ⟨_, fun _ _ => rfl, ?_⟩; go_big_quiet_on)))
      refine wpQuiet_load_part rfl 33 (.tmp 5) rfl w5.heap.size 0 rfl 8 8 _ (ctC cC) (ctC cC) (fun W hW => row_keep (n := w20.heap.size) ((R20.out).below BB21.out) (LR.out) hW) (by decide) (fun j _ => by rw [Nat.zero_add]) _ Tryz.underlying33 rfl (by kernel_rfl) ?_
      simp only [Act.put, List.setIfInBounds_toArray, List.set_cons_succ, List.set_cons_zero]
      repeat (first | go_big_quiet_skip | (go_big_quiet_want; go_big_quiet_op; first | go_big_quiet_on | (refine ⟨_, fun _ _ => rfl, ?_⟩; go_big_quiet_on)))
      refine wpQuiet_load_part rfl 33 (.tmp 7) rfl w7.heap.size 0 rfl 8 8 _ (ctC cD) (ctC cD) (fun W hW => row_keep (n := w20.heap.size) ((S20.out).below BB21.out) (LS.out) hW) (by decide) (fun j _ => by rw [Nat.zero_add]) _ Tryz.underlying33 rfl (by kernel_rfl) ?_
      simp only [Act.put, List.setIfInBounds_toArray, List.set_cons_succ, List.set_cons_zero]
      repeat (first | go_big_quiet_skip | (go_big_quiet_want; go_big_quiet_op; first | go_big_quiet_on | (refine ⟨_, fun _ _ => rfl, ?_⟩; go_big_quiet_on)))
      refine wpQuiet_nil ?_
      refine Tc.plan_two 0 5 rfl rfl (fun K hK => ?_) (fun K hK => ?_)
      · go_wp2_with fail
        refine (one_any _).mono ?_
        rintro e w22 ⟨pv, rfl, hv, b22⟩
        have bb := b22.mono BB21.out.size
        have BB22 := Lib.hid (BB21.out.trans bb)
        have V22 := Lib.hid hv
        go_wp2_with fail
        refine hK _ _ (keep_below bb) ?_
        clear hK K bb hv b22 BB21
        refine Tc.plan_one 5 rfl (fun K hK => ?_)
        refine wpList_buildT (s := 8) (c := ctC) rfl 40 4 _ rfl ct0 [cA, cB, cC, cD] rfl (by decide) (by decide) (by decide) (by decide) rfl Tryz.underlying40 (by kernel_rfl) (by kernel_rfl) ?_
        intro w23 A23 b23 L23
        have bb := b23.out.mono BB22.out.size
        have BB23 := Lib.hid (BB22.out.trans bb)
        have Z22 := L23
        have SZ22 : Hid (w20.heap.size ≤ w22.heap.size) := Lib.hid BB22.out.size
        have V23 := Lib.hid (V22.out.below b23.out)
        refine (show wpList _ _ _ [] _ _ from hK _ _ (keep_below bb) ?_)
        dsimp only [Act.put]
        simp only [List.setIfInBounds_toArray, List.set_cons_succ, List.set_cons_zero]
        clear hK K bb b23 L23 BB22 V22
        refine Tc.plan_one 6 rfl (fun K hK => ?_)
        go_wp2_with fail
        refine (C13.out _ _ _ V23.out (A23.out.at' ct0 (by decide) (by decide) (show 4 ≤ 1000000 by decide)) (T20.out.below BB23.out)).mono ?_
        rintro e w24 ⟨⟨lv, rfl, hl⟩, b24⟩
        have bb := b24.mono BB23.out.size
        have BB24 := Lib.hid (BB23.out.trans bb)
        obtain ⟨la, lc, hlv⟩ := hl.slice
        have hlv : lv = .slice la 2 lc := hlv
        subst hlv
        have U := Lib.hid hl
        go_wp2_with fail
        refine hK _ _ (keep_below bb) ?_
        clear hK K bb hl b24 BB23 V23 A23
        refine Tc.plan_done (l := [_]) rfl (fun K hK => ?_)
        go_wp2_with fail
        go_meet
        exact ⟨la, lc, rfl, U, BB24⟩
      · refine wpList_buildT (s := 8) (c := ctC) rfl 40 4 _ rfl ct0 [cA, cB, cC, cD] rfl (by decide) (by decide) (by decide) (by decide) rfl Tryz.underlying40 (by kernel_rfl) (by kernel_rfl) ?_
        intro w22 A22 b22 L22
        have bb := b22.out.mono BB21.out.size
        have BB22 := Lib.hid (BB21.out.trans bb)
        have Z21 := L22
        have SZ21 : Hid (w20.heap.size ≤ w21.heap.size) := Lib.hid BB21.out.size
        refine (show wpList _ _ _ [] _ _ from hK _ _ (keep_below bb) ?_)
        dsimp only [Act.put]
        simp only [List.setIfInBounds_toArray, List.set_cons_succ, List.set_cons_zero]
        clear hK K bb b22 L22 BB21
        refine Tc.plan_one 0 rfl (fun K hK => ?_)
        go_wp2_with fail
        refine (one_any _).mono ?_
        rintro e w23 ⟨pv, rfl, hv, b23⟩
        have bb := b23.mono BB22.out.size
        have BB23 := Lib.hid (BB22.out.trans bb)
        have V23 := Lib.hid hv
        have A23 := Lib.hid (A22.out.below b23)
        go_wp2_with fail
        refine hK _ _ (keep_below bb) ?_
        clear hK K bb hv b23 BB22 A22
        refine Tc.plan_one 6 rfl (fun K hK => ?_)
        go_wp2_with fail
        refine (C13.out _ _ _ V23.out (A23.out.at' ct0 (by decide) (by decide) (show 4 ≤ 1000000 by decide)) (T20.out.below BB23.out)).mono ?_
        rintro e w24 ⟨⟨lv, rfl, hl⟩, b24⟩
        have bb := b24.mono BB23.out.size
        have BB24 := Lib.hid (BB23.out.trans bb)
        obtain ⟨la, lc, hlv⟩ := hl.slice
        have hlv : lv = .slice la 2 lc := hlv
        subst hlv
        have U := Lib.hid hl
        go_wp2_with fail
        refine hK _ _ (keep_below bb) ?_
        clear hK K bb hl b24 BB23 V23 A23
        refine Tc.plan_done (l := [_]) rfl (fun K hK => ?_)
        go_wp2_with fail
        go_meet
        exact ⟨la, lc, rfl, U, BB24⟩
    case rest =>
      rename World => w21
      obtain ⟨va, vc, rfl, V21, bb⟩ := hcut
      have b21 := bb.out
      clear bb
      have B21 := Lib.hid (B20.out.trans (b21.mono B20.out.size))
      have T21 := Lib.hid (T20.out.below b21)
      have U21 := Lib.hid (U20.out.below b21)
      clear b21 B20 T20 U20
      clear C13 LP LQ LR LS P20 Q20 R20 S20
      obtain ⟨yb, yo, rfl, _, hyb, hyc⟩ := SlAt.at_elem (s := 5) (n := 2) (a := va) (k := vc) (c := fun i => liC (([⟨3, 64, 4, 3, false⟩, ⟨5, 256, 4, 1, false⟩] : List Li).getD i li0)) V21.out (show 0 < 2 by decide)
      have YC := Lib.hid (fun j hj => hyc 0 (by decide) j hj)
      have YB := Lib.hid hyb
      clear hyb hyc V21
      go_wp2_with (first | ((with_reducible (show wpList _ _ _ (Oper.mk (some 114) _ _ _ _ _ :: _) _ _)); refine Hid.out ?_))
      refine Lib.hid ?_
      refine wpList_build rfl 42 _ rfl #[(0, .int .i64 3), (1, .int .i64 64), (2, .int .i64 4), (3, .int .i64 2), (4, .bool true)] (by simp only [List.map_toArray, List.map_cons, List.map_nil]; rfl) _ (zb1 _) ?_
      go_wp2_with (first | ((with_reducible (show wpList _ _ _ (Oper.mk (some 115) _ _ _ _ _ :: _) _ _)); refine Hid.out ?_))
      refine Lib.hid ?_
      refine wpList_build rfl 42 _ rfl #[(0, .int .i64 5), (1, .int .i64 256), (2, .int .i64 4), (3, .int .i64 1)] (by simp only [List.map_toArray, List.map_cons, List.map_nil]; rfl) _ (zb2 _) ?_
      go_wp2_with (first | ((with_reducible (show wpList _ _ _ (Oper.mk (some 116) _ _ _ _ _ :: _) _ _)); refine Hid.out ?_))
      refine Lib.hid ?_
      refine wpList_buildT (s := 5) (c := liC) rfl 39 2 _ rfl li0 [⟨3, 64, 4, 2, true⟩, ⟨5, 256, 4, 1, false⟩] rfl (by decide) (by decide) (by decide) (by decide) rfl Tryz.underlying39 (by kernel_rfl) (by kernel_rfl) ?_
      intro w22 O22 bb L22
      have b22 := bb.out
      have b22k := bb
      clear bb L22
      have B22 := Lib.hid (B21.out.trans (b22.mono B21.out.size))
      have T22 := Lib.hid (T21.out.below b22)
      have U22 := Lib.hid (U21.out.below b22)
      clear b22 B21 T21 U21
      go_wp2_with fail
      refine (C14.out _ _ [⟨3, 64, 4, 2, true⟩, ⟨5, 256, 4, 1, false⟩] _ (show 2 ≤ 1000 by decide) U22.out (O22.out.at' li0 (by decide) (by decide) (show 2 ≤ 1000000 by decide))).mono ?_
      rintro e w23 ⟨rfl, b23⟩
      have B23 := Lib.hid (B22.out.trans (b23.mono B22.out.size))
      have ZC : Hid (∀ j, j < 5 → w23.cell? ⟨yb, yo + 5 * 0 + j, none⟩ = some (liC ⟨3, 64, 4, 3, false⟩ j)) := Lib.hid (fun j hj => ((b22k.out.trans (b23.mono b22k.out.size)).cell (p := ⟨yb, yo + 5 * 0 + j, none⟩) YB.out).trans (YC.out j hj))
      have e1 := fun W => eql_li ⟨3, 64, 4, 3, false⟩ ⟨3, 64, 4, 3, false⟩ W
      rw [liB_self] at e1
      have g1 := fun x y W => guard_li .eql x y ⟨3, 64, 4, 3, false⟩ ⟨3, 64, 4, 3, false⟩ W
      clear b23 B22 U22 T22 YC YB b22k
      go_wp2_with (first | ((with_reducible (show wpList _ _ _ (Oper.mk (some 126) _ _ _ _ _ :: _) _ _)); refine Hid.out ?_))
      refine Lib.hid ?_
      refine wpList_unguard rfl ?_
      refine wpList_load_elem rfl 42 (.tmp 125) rfl yb yo rfl 5 yo 0 (by omega) (liC ⟨3, 64, 4, 3, false⟩) ZC.out _ Tryz.underlying42 rfl (by kernel_rfl) ?_
      go_wp2_with (first | ((with_reducible (show wpList _ _ _ (Oper.mk (some 127) _ _ _ _ _ :: _) _ _)); refine Hid.out ?_))
      refine Lib.hid ?_
      refine wpList_unguard rfl ?_
      refine wpList_build rfl 42 _ rfl #[(0, .int .i64 3), (1, .int .i64 64), (2, .int .i64 4), (3, .int .i64 3)] (by simp only [List.map_toArray, List.map_cons, List.map_nil]; rfl) _ (zb3 _) ?_
      go_wp2_with fail
      go_ret
      exact ⟨rfl, B23.out⟩
end Go.Proofs.YtmmppibbglacdaaGreatDoor
