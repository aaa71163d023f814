/- Package pake: Shared. -/
import Derived.Test.YtdcpejfnhegdaaaDoorPake3
set_option linter.unusedVariables false
set_option linter.unusedSimpArgs false
namespace Go.Proofs.YtdcpejfnhegdaaaDoor
open Go.RowKit
/-- zeros -/
theorem zero_dig : Value.agg (rowF 32 (fun _ => vB 0)) = digV zero32 := by
  unfold digV
  congr 1
set_option maxRecDepth 100000 in
set_option maxHeartbeats 4000000 in
theorem shared_no1 (r c x p : Int) (h : sideB r c x = false) (w : World) :
    Calls Tryd.prog 24 #[.agg #[.int .i64 r, .int .i64 c, .int .i64 x], .int .i64 p] w fun e w' => e = .returned (.tuple #[digV zero32, .int .i64 100]) ∧ Below w.heap.size w w' := by
  have C1 := Lib.hid (fun W => point_no r c x h W)
  rw [← zero_dig]
  clear h
  go_enter Tryd.func24, Tryd.ntmps24
  have B0 := Lib.hid (Below.refl w.heap.size w)
  go_upto_region 1 with fail
  obtain ⟨w1, hw1⟩ : ∃ y, w.alloc (.cells #[.int .i64 r, .int .i64 c, .int .i64 x] 33) = y := ⟨_, rfl⟩
  have b1 : Below w.heap.size w w1 := by rw [← hw1]; exact (Below.refl _ _).alloc (Nat.le_refl _) _
  have S1 : Hid (RowV w1 w.heap.size 33 3 (sideF r c x)) := Lib.hid (by rw [← hw1]; exact RowV.new w _ 3 (sideF r c x))
  have z1 : w.heap.size + 1 = w1.heap.size := by rw [← hw1]; exact (Array.size_push _).symm
  rw [hw1]
  (try rw [z1])
  have B1 := Lib.hid (B0.out.trans (b1.mono B0.out.size))
  clear b1 hw1 z1 B0
  have LT := Lib.hid B1.out.size
  obtain ⟨w2, hw2⟩ : ∃ y, w1.alloc (.cells #[.int .u8 0, .int .u8 0, .int .u8 0, .int .u8 0, .int .u8 0, .int .u8 0, .int .u8 0, .int .u8 0, .int .u8 0, .int .u8 0, .int .u8 0, .int .u8 0, .int .u8 0, .int .u8 0, .int .u8 0, .int .u8 0, .int .u8 0, .int .u8 0, .int .u8 0, .int .u8 0, .int .u8 0, .int .u8 0, .int .u8 0, .int .u8 0, .int .u8 0, .int .u8 0, .int .u8 0, .int .u8 0, .int .u8 0, .int .u8 0, .int .u8 0, .int .u8 0] 38) = y := ⟨_, rfl⟩
  have b2 : Below w1.heap.size w1 w2 := by rw [← hw2]; exact (Below.refl _ _).alloc (Nat.le_refl _) _
  have D2 : Hid (RowV w2 w1.heap.size 38 32 (fun _ => vB 0)) := Lib.hid (by rw [← hw2]; exact RowV.new w1 _ 32 (fun _ => vB 0))
  have z2 : w1.heap.size + 1 = w2.heap.size := by rw [← hw2]; exact (Array.size_push _).symm
  rw [hw2]
  (try rw [z2])
  have B2 := Lib.hid (B1.out.trans (b2.mono B1.out.size))
  have S2 := Lib.hid (S1.out.below b2)
  clear b2 hw2 z2 B1 S1
  have x0 : _ = some (Value.int .i64 r) := S2.out.cell (i := 0) (by decide)
  have x1 : _ = some (Value.int .i64 c) := S2.out.cell (i := 1) (by decide)
  have x2 : _ = some (Value.int .i64 x) := S2.out.cell (i := 2) (by decide)
  go_wp2_with fail
  refine (C1.out _).mono ?_
  rintro e w3 ⟨rfl, b3⟩
  have B3 := Lib.hid (B2.out.trans (b3.mono B2.out.size))
  have S3 := Lib.hid (S2.out.below b3)
  have D3 := Lib.hid (D2.out.below b3)
  clear b3 B2 S2 D2
  clear x0 x1 x2
  go_wp2_with (first
    | ((with_reducible (show wpList _ _ _ (Oper.mk (some 26) _ _ _ _ _ :: _) _ _)); refine wpList_load_rowV rfl 38 (.tmp 4) rfl w1.heap.size rfl 32 38 _ D3.out _ Tryd.underlying38 rfl (by kernel_rfl) ?_)
    | ((with_reducible (show wpList _ _ _ (Oper.mk none _ _ _ _ _ :: _) _ _)); refine wpList_store_rowV (o := ⟨none, .store 38 (.tmp 4) (.tmp 26), _, _, _, _⟩) rfl 38 (.tmp 4) (.tmp 26) rfl w1.heap.size rfl 32 38 _ (fun _ => vB 0) rfl D3.out (by kernel_rfl) (fun _ _ => rfl) ?_; intro w9 R9 O9))
  refine bodyPost_ret (v := .tuple #[.agg (rowF 32 (fun _ => vB 0)), .int .i64 100]) (by exact results_rowV2 (fn := Tryd.f24) (p := 4) (u := 5) (ty := 38) rfl _ _ w1.heap.size 32 38 _ _ rfl R9.out Tryd.underlying38 rfl (by kernel_rfl)) rfl ⟨rfl, ?_⟩
  exact B3.out.trans (O9.out.below LT.out B3.out.size)
set_option maxRecDepth 100000 in
set_option maxHeartbeats 4000000 in
theorem shared_no2 (r c x : Nat) (hr : r = 1 ∨ r = 2) (hc : c < 1000000) (hx1 : 1 ≤ x) (hx2 : x < 2305843009213688669) (p : Int) (hp : elemB p = false) (w : World) (hT : Tab w) :
    Calls Tryd.prog 24 #[.agg #[.int .i64 r, .int .i64 c, .int .i64 x], .int .i64 p] w fun e w' => e = .returned (.tuple #[digV zero32, .int .i64 100]) ∧ Below w.heap.size w w' := by
  have C1 := Lib.hid (fun W h => point_yes r c x hr hc hx1 hx2 W h)
  have C2 := Lib.hid (fun W => check_no p hp W)
  have HT := Lib.hid hT
  rw [← zero_dig]
  clear hr hc hx1 hx2 hp hT
  go_enter Tryd.func24, Tryd.ntmps24
  have B0 := Lib.hid (Below.refl w.heap.size w)
  go_upto_region 1 with fail
  obtain ⟨w1, hw1⟩ : ∃ y, w.alloc (.cells #[.int .i64 r, .int .i64 c, .int .i64 x] 33) = y := ⟨_, rfl⟩
  have b1 : Below w.heap.size w w1 := by rw [← hw1]; exact (Below.refl _ _).alloc (Nat.le_refl _) _
  have S1 : Hid (RowV w1 w.heap.size 33 3 (sideF r c x)) := Lib.hid (by rw [← hw1]; exact RowV.new w _ 3 (sideF r c x))
  have z1 : w.heap.size + 1 = w1.heap.size := by rw [← hw1]; exact (Array.size_push _).symm
  rw [hw1]
  (try rw [z1])
  have B1 := Lib.hid (B0.out.trans (b1.mono B0.out.size))
  clear b1 hw1 z1 B0
  have LT := Lib.hid B1.out.size
  obtain ⟨w2, hw2⟩ : ∃ y, w1.alloc (.cells #[.int .u8 0, .int .u8 0, .int .u8 0, .int .u8 0, .int .u8 0, .int .u8 0, .int .u8 0, .int .u8 0, .int .u8 0, .int .u8 0, .int .u8 0, .int .u8 0, .int .u8 0, .int .u8 0, .int .u8 0, .int .u8 0, .int .u8 0, .int .u8 0, .int .u8 0, .int .u8 0, .int .u8 0, .int .u8 0, .int .u8 0, .int .u8 0, .int .u8 0, .int .u8 0, .int .u8 0, .int .u8 0, .int .u8 0, .int .u8 0, .int .u8 0, .int .u8 0] 38) = y := ⟨_, rfl⟩
  have b2 : Below w1.heap.size w1 w2 := by rw [← hw2]; exact (Below.refl _ _).alloc (Nat.le_refl _) _
  have D2 : Hid (RowV w2 w1.heap.size 38 32 (fun _ => vB 0)) := Lib.hid (by rw [← hw2]; exact RowV.new w1 _ 32 (fun _ => vB 0))
  have z2 : w1.heap.size + 1 = w2.heap.size := by rw [← hw2]; exact (Array.size_push _).symm
  rw [hw2]
  (try rw [z2])
  have B2 := Lib.hid (B1.out.trans (b2.mono B1.out.size))
  have S2 := Lib.hid (S1.out.below b2)
  clear b2 hw2 z2 B1 S1
  have x0 : _ = some (Value.int .i64 (r : Int)) := S2.out.cell (i := 0) (by decide)
  have x1 : _ = some (Value.int .i64 (c : Int)) := S2.out.cell (i := 1) (by decide)
  have x2 : _ = some (Value.int .i64 (x : Int)) := S2.out.cell (i := 2) (by decide)
  go_wp2_with fail
  refine (C1.out _ (HT.out.below B2.out)).mono ?_
  rintro e w3 ⟨rfl, b3⟩
  have B3 := Lib.hid (B2.out.trans (b3.mono B2.out.size))
  have S3 := Lib.hid (S2.out.below b3)
  have D3 := Lib.hid (D2.out.below b3)
  clear b3 B2 S2 D2
  clear x0 x1 x2
  go_wp2_with fail
  refine (C2.out _).mono ?_
  rintro e w4 ⟨rfl, b4⟩
  have B4 := Lib.hid (B3.out.trans (b4.mono B3.out.size))
  have S4 := Lib.hid (S3.out.below b4)
  have D4 := Lib.hid (D3.out.below b4)
  clear b4 B3 S3 D3
  go_wp2_with (first
    | ((with_reducible (show wpList _ _ _ (Oper.mk (some 31) _ _ _ _ _ :: _) _ _)); refine wpList_load_rowV rfl 38 (.tmp 4) rfl w1.heap.size rfl 32 38 _ D4.out _ Tryd.underlying38 rfl (by kernel_rfl) ?_)
    | ((with_reducible (show wpList _ _ _ (Oper.mk none _ _ _ _ _ :: _) _ _)); refine wpList_store_rowV (o := ⟨none, .store 38 (.tmp 4) (.tmp 31), _, _, _, _⟩) rfl 38 (.tmp 4) (.tmp 31) rfl w1.heap.size rfl 32 38 _ (fun _ => vB 0) rfl D4.out (by kernel_rfl) (fun _ _ => rfl) ?_; intro w9 R9 O9))
  refine bodyPost_ret (v := .tuple #[.agg (rowF 32 (fun _ => vB 0)), .int .i64 100]) (by exact results_rowV2 (fn := Tryd.f24) (p := 4) (u := 5) (ty := 38) rfl _ _ w1.heap.size 32 38 _ _ rfl R9.out Tryd.underlying38 rfl (by kernel_rfl)) rfl ⟨rfl, ?_⟩
  exact B4.out.trans (O9.out.below LT.out B4.out.size)
theorem key_1 (c x p : Nat) : keyS 1 c x p = Sha.tagged sPake.data.toList (Sha.be8 (pointS 1 c x) ++ Sha.be8 p ++ Sha.be8 (elemS 1 c x p)) := by
  unfold keyS keyL hostS guestS; rw [if_neg (by decide), if_neg (by decide)]
theorem key_2 (c x p : Nat) : keyS 2 c x p = Sha.tagged sPake.data.toList (Sha.be8 p ++ Sha.be8 (pointS 2 c x) ++ Sha.be8 (elemS 2 c x p)) := by
  unfold keyS keyL hostS guestS; rw [if_pos rfl, if_pos rfl]
theorem order1_any (a b : Int) (w : World) : Calls Tryd.prog 71 #[.int .i64 a, .int .i64 b] w fun e w' => e = .returned (.tuple #[.int .i64 a, .int .i64 b]) ∧ w = w' := by
  go_enter Tryd.func71, Tryd.ntmps71
  go_wp2_with fail
  go_ret2
  exact ⟨rfl, rfl⟩
theorem order2_any (a b : Int) (w : World) : Calls Tryd.prog 72 #[.int .i64 a, .int .i64 b] w fun e w' => e = .returned (.tuple #[.int .i64 b, .int .i64 a]) ∧ w = w' := by
  go_enter Tryd.func72, Tryd.ntmps72
  go_wp2_with fail
  go_ret2
  exact ⟨rfl, rfl⟩
set_option maxRecDepth 100000 in
set_option maxHeartbeats 4000000 in
theorem shared_yes1 (c x p : Nat) (hc : c < 1000000) (hx1 : 1 ≤ x) (hx2 : x < 2305843009213688669) (hp : El p) (w : World) (hT : Tab w) :
    Calls Tryd.prog 24 #[.agg #[.int .i64 1, .int .i64 c, .int .i64 x], .int .i64 (p : Int)] w fun e w' => e = .returned (.tuple #[digV (keyS 1 c x p), .int .i64 0]) ∧ Below w.heap.size w w' := by
  have C1 : ∀ W, Tab W → Calls Tryd.prog 20 #[.agg #[.int .i64 1, .int .i64 c, .int .i64 x]] W fun e w' => e = .returned (.tuple #[.int .i64 ((pointS 1 c x : Nat) : Int), .int .i64 0]) ∧ Below W.heap.size W w' := fun W h => point_yes 1 c x (by omega) hc hx1 hx2 W h
  have C2 := fun W => check_El hp W
  have C4 : ∀ W, Tab W → Calls Tryd.prog 49 #[.agg #[.string sGuest, .func (.func 72) #[] #[]], .int .i64 (c : Int)] W fun e w' => e = .returned (.int .i64 ((maskedM 2 c : Nat) : Int)) ∧ Below W.heap.size W w' := fun W h => masked_any 2 _ c (by omega) W h
  have C5 := fun W => ginv_el (maskedM_El 2 c) rfl W
  have C6 := fun W => gmul_el hp (powP_pos (maskedM_El 2 c) 2305843009213688668) rfl W
  have C7 := fun W => gexp_el (El.mul hp (powP_pos (maskedM_El 2 c) 2305843009213688668)) hx2 rfl W
  rw [show powP (mulP p (powP (maskedM 2 c) 2305843009213688668)) x = elemS 1 c x p from rfl] at C7
  have C10 : ∀ v W, BytesAt W v (Sha.be8 (pointS 1 c x) ++ Sha.be8 (p) ++ Sha.be8 (elemS 1 c x p)) → Tab W → Calls Tryd.prog 18 #[.string sPake, v] W fun e w' => e = .returned (digV (Sha.tagged sPake.data.toList (Sha.be8 (pointS 1 c x) ++ Sha.be8 p ++ Sha.be8 (elemS 1 c x p)))) ∧ Below W.heap.size W w' := fun v W hv hT => tagged_any sPake v _ W (by decide) (by rw [be8_3]; decide) hv hT
  rw [← key_1] at C10
  have hl1 : ∀ (W : World) m, RolesAt W m → (Instr.lookup 71 (.map (some m)) (.int .i64 1) false).run Tryd.prog W = .ok (.agg #[.string sHost, .func (.func 71) #[] #[]]) W := fun W m h => look_plain (k := 1) h (by omega)
  have hl2 : ∀ (W : World) m, RolesAt W m → (Instr.lookup 71 (.map (some m)) (.int .i64 2) false).run Tryd.prog W = .ok (.agg #[.string sGuest, .func (.func 72) #[] #[]]) W := fun W m h => look_plain (k := 2) h (by omega)
  have hfd : ∀ W, (Instr.field 70 (.agg #[.string sHost, .func (.func 71) #[] #[]]) 1).run Tryd.prog W = .ok (.func (.func 71) #[] #[]) W := fun W => by kernel_rfl
  have b1 := (pointS_El 1 c x).lt63
  have b2 := hp.lt63
  have b3 := (elemS_El hp 1 c x).lt63
  unfold digV at C10 ⊢
  obtain ⟨G, hG⟩ : ∃ g, (fun i => vB ((keyS 1 c x p).getD i 0)) = g := ⟨_, rfl⟩
  have g1 : ∀ j, j < 32 → (G j).oneCell' = true := by intro j _; rw [← hG]; rfl
  rw [hG] at C10 ⊢
  obtain ⟨E, hE⟩ : ∃ P, elemS 1 c x p = P := ⟨_, rfl⟩
  obtain ⟨Y, hY⟩ : ∃ P, mulP p (powP (maskedM 2 c) 2305843009213688668) = P := ⟨_, rfl⟩
  obtain ⟨I, hI⟩ : ∃ P, powP (maskedM 2 c) 2305843009213688668 = P := ⟨_, rfl⟩
  obtain ⟨M, hM⟩ : ∃ P, maskedM 2 c = P := ⟨_, rfl⟩
  obtain ⟨P, hP⟩ : ∃ P, pointS 1 c x = P := ⟨_, rfl⟩
  rw [hE] at C7 C10 b3
  rw [hY] at C6 C7
  rw [hI] at C5 C6
  rw [hM] at C4 C5
  rw [hP] at C1 C10 b1
  obtain ⟨zs, hzs⟩ : ∃ l : List Nat, [P, p, E] = l := ⟨_, rfl⟩
  have hz : ∀ k, k < 3 → zs.getD k 0 < 9223372036854775808 := by
    intro k hk
    have : k = 0 ∨ k = 1 ∨ k = 2 := by omega
    rw [← hzs]
    rcases this with rfl | rfl | rfl
    · exact b1
    · exact b2
    · exact b3
  have hstep : ∀ k, k < 3 → ((zs.take (k + 1)).map Sha.be8).flatten = ((zs.take k).map Sha.be8).flatten ++ Sha.be8 (zs.getD k 0) := by
    intro k hk
    have : k = 0 ∨ k = 1 ∨ k = 2 := by omega
    rw [← hzs]
    rcases this with rfl | rfl | rfl <;> simp
  have hall : ((zs.take 3).map Sha.be8).flatten = Sha.be8 P ++ Sha.be8 p ++ Sha.be8 E := by rw [← hzs]; simp
  have hle : ∀ k, k ≤ 3 → ((zs.take k).map Sha.be8).flatten.length ≤ 24 := by
    intro k hk
    have : k = 0 ∨ k = 1 ∨ k = 2 ∨ k = 3 := by omega
    rw [← hzs]
    rcases this with rfl | rfl | rfl | rfl <;> simp [be8_len]
  rw [← hall] at C10
  have hrow : ∀ W : World, RowV (W.alloc (.cells #[.int .i64 (P : Int), .int .i64 (p : Int), .int .i64 (E : Int)] 3)) W.heap.size 3 3 (fun i => .int .i64 ((zs.getD i 0 : Nat) : Int)) := by
    intro W; rw [← hzs]; exact RowV.new W 3 3 (fun i => .int .i64 (([P, p, E].getD i 0 : Nat) : Int))
  have H1 := Lib.hid C1; have H2 := Lib.hid C2; have H3 := Lib.hid (fun W => roles_any W); have H4 := Lib.hid C4; have H5 := Lib.hid C5; have H6 := Lib.hid C6; have H7 := Lib.hid C7; have H8 := Lib.hid (fun a b W => order1_any a b W); have H9 := Lib.hid (fun n hn W => eight_any n hn W); have H10 := Lib.hid C10
  have HL1 := Lib.hid hl1; have HL2 := Lib.hid hl2; have HT := Lib.hid hT; have G1 := Lib.hid g1; have HZ := Lib.hid hz; have HS := Lib.hid hstep; have HLE := Lib.hid hle; have HR := Lib.hid hrow
  clear C1 C2 C4 C5 C6 C7 C10 hl1 hl2 hT g1 hz hstep hle hrow hall hzs hE hY hI hM hP hG b1 b2 b3 hc hx1 hx2 hp
  go_enter Tryd.func24, Tryd.ntmps24
  have B0 := Lib.hid (Below.refl w.heap.size w)
  go_upto_region 1 with fail
  obtain ⟨w1, hw1⟩ : ∃ y, w.alloc (.cells #[.int .i64 1, .int .i64 c, .int .i64 x] 33) = y := ⟨_, rfl⟩
  have b1 : Below w.heap.size w w1 := by rw [← hw1]; exact (Below.refl _ _).alloc (Nat.le_refl _) _
  have S1 : Hid (RowV w1 w.heap.size 33 3 (sideF 1 c x)) := Lib.hid (by rw [← hw1]; exact RowV.new w _ 3 (sideF 1 c x))
  have z1 : w.heap.size + 1 = w1.heap.size := by rw [← hw1]; exact (Array.size_push _).symm
  rw [hw1]
  (try rw [z1])
  have B1 := Lib.hid (B0.out.trans (b1.mono B0.out.size))
  clear b1 hw1 z1 B0
  have LT := Lib.hid B1.out.size
  obtain ⟨w2, hw2⟩ : ∃ y, w1.alloc (.cells #[.int .u8 0, .int .u8 0, .int .u8 0, .int .u8 0, .int .u8 0, .int .u8 0, .int .u8 0, .int .u8 0, .int .u8 0, .int .u8 0, .int .u8 0, .int .u8 0, .int .u8 0, .int .u8 0, .int .u8 0, .int .u8 0, .int .u8 0, .int .u8 0, .int .u8 0, .int .u8 0, .int .u8 0, .int .u8 0, .int .u8 0, .int .u8 0, .int .u8 0, .int .u8 0, .int .u8 0, .int .u8 0, .int .u8 0, .int .u8 0, .int .u8 0, .int .u8 0] 38) = y := ⟨_, rfl⟩
  have b2 : Below w1.heap.size w1 w2 := by rw [← hw2]; exact (Below.refl _ _).alloc (Nat.le_refl _) _
  have D2 : Hid (RowV w2 w1.heap.size 38 32 (fun _ => vB 0)) := Lib.hid (by rw [← hw2]; exact RowV.new w1 _ 32 (fun _ => vB 0))
  have z2 : w1.heap.size + 1 = w2.heap.size := by rw [← hw2]; exact (Array.size_push _).symm
  rw [hw2]
  (try rw [z2])
  have B2 := Lib.hid (B1.out.trans (b2.mono B1.out.size))
  have S2 := Lib.hid (S1.out.below b2)
  clear b2 hw2 z2 B1 S1
  have x0 : _ = some (Value.int .i64 1) := S2.out.cell (i := 0) (by decide)
  have x1 : _ = some (Value.int .i64 (c : Int)) := S2.out.cell (i := 1) (by decide)
  have x2 : _ = some (Value.int .i64 (x : Int)) := S2.out.cell (i := 2) (by decide)
  go_wp2_with fail
  refine (H1.out _ (HT.out.below B2.out)).mono ?_
  rintro e w3 ⟨rfl, b3⟩
  have B3 := Lib.hid (B2.out.trans (b3.mono B2.out.size))
  have S3 := Lib.hid (S2.out.below b3)
  have D3 := Lib.hid (D2.out.below b3)
  clear b3 B2 S2 D2
  clear x0 x1 x2
  go_wp2_with fail
  refine (H2.out _).mono ?_
  rintro e w4 ⟨rfl, b4⟩
  have B4 := Lib.hid (B3.out.trans (b4.mono B3.out.size))
  have S4 := Lib.hid (S3.out.below b4)
  have D4 := Lib.hid (D3.out.below b4)
  clear b4 B3 S3 D3
  go_wp2_with fail
  refine (H3.out _).mono ?_
  rintro e w5 ⟨⟨m, rfl, hm⟩, b5⟩
  have B5 := Lib.hid (B4.out.trans (b5.mono B4.out.size))
  have S5 := Lib.hid (S4.out.below b5)
  have D5 := Lib.hid (D4.out.below b5)
  have M5 := Lib.hid hm
  clear b5 hm B4 S4 D4
  have q1 := HL2.out _ _ M5.out
  have x0 : _ = some (Value.int .i64 1) := S5.out.cell (i := 0) (by decide)
  have x1 : _ = some (Value.int .i64 (c : Int)) := S5.out.cell (i := 1) (by decide)
  go_wp2_with fail
  refine (H4.out _ (HT.out.below B5.out)).mono ?_
  rintro e w6 ⟨rfl, b6⟩
  have B6 := Lib.hid (B5.out.trans (b6.mono B5.out.size))
  have S6 := Lib.hid (S5.out.below b6)
  have D6 := Lib.hid (D5.out.below b6)
  have M6 := Lib.hid (M5.out.below b6)
  clear b6 B5 S5 D5 M5
  clear q1 x0 x1
  go_wp2_with fail
  refine (H5.out _).mono ?_
  rintro e w7 ⟨rfl, b7⟩
  have B7 := Lib.hid (B6.out.trans (b7.mono B6.out.size))
  have S7 := Lib.hid (S6.out.below b7)
  have D7 := Lib.hid (D6.out.below b7)
  have M7 := Lib.hid (M6.out.below b7)
  clear b7 B6 S6 D6 M6
  go_wp2_with fail
  refine (H6.out _).mono ?_
  rintro e w8 ⟨rfl, b8⟩
  have B8 := Lib.hid (B7.out.trans (b8.mono B7.out.size))
  have S8 := Lib.hid (S7.out.below b8)
  have D8 := Lib.hid (D7.out.below b8)
  have M8 := Lib.hid (M7.out.below b8)
  clear b8 B7 S7 D7 M7
  have x2 : _ = some (Value.int .i64 (x : Int)) := S8.out.cell (i := 2) (by decide)
  go_wp2_with fail
  refine (H7.out _).mono ?_
  rintro e w9 ⟨rfl, b9⟩
  have B9 := Lib.hid (B8.out.trans (b9.mono B8.out.size))
  have S9 := Lib.hid (S8.out.below b9)
  have D9 := Lib.hid (D8.out.below b9)
  have M9 := Lib.hid (M8.out.below b9)
  clear b9 B8 S8 D8 M8
  clear x2
  have q1 := HL1.out _ _ M9.out
  have x0 : _ = some (Value.int .i64 1) := S9.out.cell (i := 0) (by decide)
  go_wp2_with fail
  refine (H8.out _ _ _).mono ?_
  rintro e wp ⟨rfl, rfl⟩
  clear q1 x0
  go_wp2_with fail
  obtain ⟨w10, hw10⟩ : ∃ y, w9.alloc (.cells #[.int .i64 (P : Int), .int .i64 (p : Int), .int .i64 (E : Int)] 3) = y := ⟨_, rfl⟩
  have b10 : Below w9.heap.size w9 w10 := by rw [← hw10]; exact (Below.refl _ _).alloc (Nat.le_refl _) _
  have R10 : Hid (RowV w10 w9.heap.size 3 3 (fun i => .int .i64 ((zs.getD i 0 : Nat) : Int))) := Lib.hid (by rw [← hw10]; exact HR.out w9)
  have z10 : w9.heap.size + 1 = w10.heap.size := by rw [← hw10]; exact (Array.size_push _).symm
  rw [hw10]
  (try rw [z10])
  have B10 := Lib.hid (B9.out.trans (b10.mono B9.out.size))
  have S10 := Lib.hid (S9.out.below b10)
  have D10 := Lib.hid (D9.out.below b10)
  have M10 := Lib.hid (M9.out.below b10)
  clear b10 hw10 z10 B9 S9 D9 M9
  have SZ := Lib.hid B10.out.size
  go_loopg [16, 74] 3 (fun g s16 s74 wx => ∃ (k : Nat) (u : Value), k + g = 3 ∧ s74 = .int .i64 (k : Int) ∧ s16 = u ∧ Hid (Owns wx w10.heap.size u ((zs.take k).map Sha.be8).flatten) ∧ Hid (Below w10.heap.size w10 wx))
  case atStart => exact ⟨0, _, by omega, rfl, rfl, Lib.hid (Owns.nil _ _), Lib.hid (Below.refl _ _)⟩
  case round =>
    obtain ⟨k, u, hk, rfl, e2, hO, hB⟩ := hrel
    obtain rfl : u = _ := e2.symm
    by_cases hk3 : k < 3
    · have d0 : decide ((k : Int) < 3) = true := by rw [decide_eq_true_iff]; omega
      have z1 : (0 : Int) ≤ (k : Int) := Int.natCast_nonneg k
      have z2 : (k : Int) < 3 := by omega
      have p0 : 0 ≤ (k : Int) ∧ (k : Int) < 3 := by omega
      have z3 : ((k : Int)).toNat = k := Int.toNat_natCast k
      have c0 := (R10.out.below hB.out).cell (i := k) hk3
      have Hn := Lib.hid (HZ.out k hk3)
      have Hst := Lib.hid (HS.out k hk3)
      have Hl := HLE.out k (by omega)
      obtain ⟨n, hn⟩ : ∃ n, zs.getD k 0 = n := ⟨_, rfl⟩
      obtain ⟨l, hl⟩ : ∃ l, ((zs.take k).map Sha.be8).flatten = l := ⟨_, rfl⟩
      rw [hn] at c0 Hn Hst
      rw [hl] at hO Hst Hl
      have L1 := Lib.hid (show l.length + (Sha.be8 n).length ≤ 140737488351232 from by rw [be8_len]; omega)
      clear hn hl Hl hk3
      go_wp2_with fail
      refine (H9.out n Hn.out _).mono ?_
      rintro e w11 ⟨⟨u2, rfl, o2⟩, b2⟩
      have O2 := Lib.hid (o2.bytesAt (by rw [be8_len]; omega))
      have hO2 := Lib.hid (hO.out.below b2)
      have B11 := Lib.hid (hB.out.trans (b2.mono hB.out.size))
      clear o2 b2 hO hB c0
      go_wp2_with ((with_reducible (show wpList _ _ _ (Oper.mk (some 81) _ _ _ _ _ :: _) _ _)); refine wpList_append_bytes rfl (.tmp 78) (.tmp 80) rfl w10.heap.size u u2 l (Sha.be8 n) rfl rfl hO2.out O2.out L1.out B11.out.size ?_; intro v3 w12 O3 B3 _)
      go_roundg (gk - 1)
      case measure => omega
      case rel =>
        go_light
        exact ⟨k + 1, v3, by omega, rfl, rfl, Lib.hid (by rw [Hst.out]; exact O3.out), Lib.hid (B11.out.trans B3.out)⟩
    · obtain rfl : k = 3 := by omega
      have d0 : decide (((3 : Nat) : Int) < 3) = false := by decide
      have BF := B10.out.trans (hB.out.mono SZ.out)
      have DF := Lib.hid (D10.out.below hB.out)
      have BH := Lib.hid hB.out.size
      go_wp2_with fail
      refine (H10.out _ _ (hO.out.bytesAt (by have := HLE.out 3 (by omega); omega)) (HT.out.below BF)).mono ?_
      rintro e w11 ⟨rfl, b5⟩
      have B11 := Lib.hid (BF.trans (b5.mono BF.size))
      have D11 := Lib.hid (DF.out.below b5)
      clear b5 BF DF
      go_wp2_with ((with_reducible (show wpList _ _ _ (Oper.mk none _ _ _ _ _ :: _) _ _)); refine wpList_store_rowV (o := ⟨none, .store 38 (.tmp 4) (.tmp 84), _, _, _, _⟩) rfl 38 (.tmp 4) (.tmp 84) rfl w1.heap.size rfl 32 38 _ G rfl D11.out (by kernel_rfl) G1.out ?_; intro w12 R12 O12)
      refine bodyPost_ret (v := .tuple #[.agg (rowF 32 G), .int .i64 0]) (by exact results_rowV2 (fn := Tryd.f24) (p := 4) (u := 5) (ty := 38) rfl _ _ w1.heap.size 32 38 _ _ rfl R12.out Tryd.underlying38 rfl (by kernel_rfl)) rfl ⟨rfl, ?_⟩
      exact B11.out.trans (O12.out.below LT.out B11.out.size)
set_option maxRecDepth 100000 in
set_option maxHeartbeats 4000000 in
theorem shared_yes2 (c x p : Nat) (hc : c < 1000000) (hx1 : 1 ≤ x) (hx2 : x < 2305843009213688669) (hp : El p) (w : World) (hT : Tab w) :
    Calls Tryd.prog 24 #[.agg #[.int .i64 2, .int .i64 c, .int .i64 x], .int .i64 (p : Int)] w fun e w' => e = .returned (.tuple #[digV (keyS 2 c x p), .int .i64 0]) ∧ Below w.heap.size w w' := by
  have C1 : ∀ W, Tab W → Calls Tryd.prog 20 #[.agg #[.int .i64 2, .int .i64 c, .int .i64 x]] W fun e w' => e = .returned (.tuple #[.int .i64 ((pointS 2 c x : Nat) : Int), .int .i64 0]) ∧ Below W.heap.size W w' := fun W h => point_yes 2 c x (by omega) hc hx1 hx2 W h
  have C2 := fun W => check_El hp W
  have C4 : ∀ W, Tab W → Calls Tryd.prog 49 #[.agg #[.string sHost, .func (.func 71) #[] #[]], .int .i64 (c : Int)] W fun e w' => e = .returned (.int .i64 ((maskedM 1 c : Nat) : Int)) ∧ Below W.heap.size W w' := fun W h => masked_any 1 _ c (by omega) W h
  have C5 := fun W => ginv_el (maskedM_El 1 c) rfl W
  have C6 := fun W => gmul_el hp (powP_pos (maskedM_El 1 c) 2305843009213688668) rfl W
  have C7 := fun W => gexp_el (El.mul hp (powP_pos (maskedM_El 1 c) 2305843009213688668)) hx2 rfl W
  rw [show powP (mulP p (powP (maskedM 1 c) 2305843009213688668)) x = elemS 2 c x p from rfl] at C7
  have C10 : ∀ v W, BytesAt W v (Sha.be8 p ++ Sha.be8 (pointS 2 c x) ++ Sha.be8 (elemS 2 c x p)) → Tab W → Calls Tryd.prog 18 #[.string sPake, v] W fun e w' => e = .returned (digV (Sha.tagged sPake.data.toList (Sha.be8 p ++ Sha.be8 (pointS 2 c x) ++ Sha.be8 (elemS 2 c x p)))) ∧ Below W.heap.size W w' := fun v W hv hT => tagged_any sPake v _ W (by decide) (by rw [be8_3]; decide) hv hT
  rw [← key_2] at C10
  have hl1 : ∀ (W : World) m, RolesAt W m → (Instr.lookup 71 (.map (some m)) (.int .i64 2) false).run Tryd.prog W = .ok (.agg #[.string sGuest, .func (.func 72) #[] #[]]) W := fun W m h => look_plain (k := 2) h (by omega)
  have hl2 : ∀ (W : World) m, RolesAt W m → (Instr.lookup 71 (.map (some m)) (.int .i64 1) false).run Tryd.prog W = .ok (.agg #[.string sHost, .func (.func 71) #[] #[]]) W := fun W m h => look_plain (k := 1) h (by omega)
  have hfd : ∀ W, (Instr.field 70 (.agg #[.string sGuest, .func (.func 72) #[] #[]]) 1).run Tryd.prog W = .ok (.func (.func 72) #[] #[]) W := fun W => by kernel_rfl
  have b1 := (pointS_El 2 c x).lt63
  have b2 := hp.lt63
  have b3 := (elemS_El hp 2 c x).lt63
  unfold digV at C10 ⊢
  obtain ⟨G, hG⟩ : ∃ g, (fun i => vB ((keyS 2 c x p).getD i 0)) = g := ⟨_, rfl⟩
  have g1 : ∀ j, j < 32 → (G j).oneCell' = true := by intro j _; rw [← hG]; rfl
  rw [hG] at C10 ⊢
  obtain ⟨E, hE⟩ : ∃ P, elemS 2 c x p = P := ⟨_, rfl⟩
  obtain ⟨Y, hY⟩ : ∃ P, mulP p (powP (maskedM 1 c) 2305843009213688668) = P := ⟨_, rfl⟩
  obtain ⟨I, hI⟩ : ∃ P, powP (maskedM 1 c) 2305843009213688668 = P := ⟨_, rfl⟩
  obtain ⟨M, hM⟩ : ∃ P, maskedM 1 c = P := ⟨_, rfl⟩
  obtain ⟨P, hP⟩ : ∃ P, pointS 2 c x = P := ⟨_, rfl⟩
  rw [hE] at C7 C10 b3
  rw [hY] at C6 C7
  rw [hI] at C5 C6
  rw [hM] at C4 C5
  rw [hP] at C1 C10 b1
  obtain ⟨zs, hzs⟩ : ∃ l : List Nat, [p, P, E] = l := ⟨_, rfl⟩
  have hz : ∀ k, k < 3 → zs.getD k 0 < 9223372036854775808 := by
    intro k hk
    have : k = 0 ∨ k = 1 ∨ k = 2 := by omega
    rw [← hzs]
    rcases this with rfl | rfl | rfl
    · exact b2
    · exact b1
    · exact b3
  have hstep : ∀ k, k < 3 → ((zs.take (k + 1)).map Sha.be8).flatten = ((zs.take k).map Sha.be8).flatten ++ Sha.be8 (zs.getD k 0) := by
    intro k hk
    have : k = 0 ∨ k = 1 ∨ k = 2 := by omega
    rw [← hzs]
    rcases this with rfl | rfl | rfl <;> simp
  have hall : ((zs.take 3).map Sha.be8).flatten = Sha.be8 p ++ Sha.be8 P ++ Sha.be8 E := by rw [← hzs]; simp
  have hle : ∀ k, k ≤ 3 → ((zs.take k).map Sha.be8).flatten.length ≤ 24 := by
    intro k hk
    have : k = 0 ∨ k = 1 ∨ k = 2 ∨ k = 3 := by omega
    rw [← hzs]
    rcases this with rfl | rfl | rfl | rfl <;> simp [be8_len]
  rw [← hall] at C10
  have hrow : ∀ W : World, RowV (W.alloc (.cells #[.int .i64 (p : Int), .int .i64 (P : Int), .int .i64 (E : Int)] 3)) W.heap.size 3 3 (fun i => .int .i64 ((zs.getD i 0 : Nat) : Int)) := by
    intro W; rw [← hzs]; exact RowV.new W 3 3 (fun i => .int .i64 (([p, P, E].getD i 0 : Nat) : Int))
  have H1 := Lib.hid C1; have H2 := Lib.hid C2; have H3 := Lib.hid (fun W => roles_any W); have H4 := Lib.hid C4; have H5 := Lib.hid C5; have H6 := Lib.hid C6; have H7 := Lib.hid C7; have H8 := Lib.hid (fun a b W => order2_any a b W); have H9 := Lib.hid (fun n hn W => eight_any n hn W); have H10 := Lib.hid C10
  have HL1 := Lib.hid hl1; have HL2 := Lib.hid hl2; have HT := Lib.hid hT; have G1 := Lib.hid g1; have HZ := Lib.hid hz; have HS := Lib.hid hstep; have HLE := Lib.hid hle; have HR := Lib.hid hrow
  clear C1 C2 C4 C5 C6 C7 C10 hl1 hl2 hT g1 hz hstep hle hrow hall hzs hE hY hI hM hP hG b1 b2 b3 hc hx1 hx2 hp
  go_enter Tryd.func24, Tryd.ntmps24
  have B0 := Lib.hid (Below.refl w.heap.size w)
  go_upto_region 1 with fail
  obtain ⟨w1, hw1⟩ : ∃ y, w.alloc (.cells #[.int .i64 2, .int .i64 c, .int .i64 x] 33) = y := ⟨_, rfl⟩
  have b1 : Below w.heap.size w w1 := by rw [← hw1]; exact (Below.refl _ _).alloc (Nat.le_refl _) _
  have S1 : Hid (RowV w1 w.heap.size 33 3 (sideF 2 c x)) := Lib.hid (by rw [← hw1]; exact RowV.new w _ 3 (sideF 2 c x))
  have z1 : w.heap.size + 1 = w1.heap.size := by rw [← hw1]; exact (Array.size_push _).symm
  rw [hw1]
  (try rw [z1])
  have B1 := Lib.hid (B0.out.trans (b1.mono B0.out.size))
  clear b1 hw1 z1 B0
  have LT := Lib.hid B1.out.size
  obtain ⟨w2, hw2⟩ : ∃ y, w1.alloc (.cells #[.int .u8 0, .int .u8 0, .int .u8 0, .int .u8 0, .int .u8 0, .int .u8 0, .int .u8 0, .int .u8 0, .int .u8 0, .int .u8 0, .int .u8 0, .int .u8 0, .int .u8 0, .int .u8 0, .int .u8 0, .int .u8 0, .int .u8 0, .int .u8 0, .int .u8 0, .int .u8 0, .int .u8 0, .int .u8 0, .int .u8 0, .int .u8 0, .int .u8 0, .int .u8 0, .int .u8 0, .int .u8 0, .int .u8 0, .int .u8 0, .int .u8 0, .int .u8 0] 38) = y := ⟨_, rfl⟩
  have b2 : Below w1.heap.size w1 w2 := by rw [← hw2]; exact (Below.refl _ _).alloc (Nat.le_refl _) _
  have D2 : Hid (RowV w2 w1.heap.size 38 32 (fun _ => vB 0)) := Lib.hid (by rw [← hw2]; exact RowV.new w1 _ 32 (fun _ => vB 0))
  have z2 : w1.heap.size + 1 = w2.heap.size := by rw [← hw2]; exact (Array.size_push _).symm
  rw [hw2]
  (try rw [z2])
  have B2 := Lib.hid (B1.out.trans (b2.mono B1.out.size))
  have S2 := Lib.hid (S1.out.below b2)
  clear b2 hw2 z2 B1 S1
  have x0 : _ = some (Value.int .i64 2) := S2.out.cell (i := 0) (by decide)
  have x1 : _ = some (Value.int .i64 (c : Int)) := S2.out.cell (i := 1) (by decide)
  have x2 : _ = some (Value.int .i64 (x : Int)) := S2.out.cell (i := 2) (by decide)
  go_wp2_with fail
  refine (H1.out _ (HT.out.below B2.out)).mono ?_
  rintro e w3 ⟨rfl, b3⟩
  have B3 := Lib.hid (B2.out.trans (b3.mono B2.out.size))
  have S3 := Lib.hid (S2.out.below b3)
  have D3 := Lib.hid (D2.out.below b3)
  clear b3 B2 S2 D2
  clear x0 x1 x2
  go_wp2_with fail
  refine (H2.out _).mono ?_
  rintro e w4 ⟨rfl, b4⟩
  have B4 := Lib.hid (B3.out.trans (b4.mono B3.out.size))
  have S4 := Lib.hid (S3.out.below b4)
  have D4 := Lib.hid (D3.out.below b4)
  clear b4 B3 S3 D3
  go_wp2_with fail
  refine (H3.out _).mono ?_
  rintro e w5 ⟨⟨m, rfl, hm⟩, b5⟩
  have B5 := Lib.hid (B4.out.trans (b5.mono B4.out.size))
  have S5 := Lib.hid (S4.out.below b5)
  have D5 := Lib.hid (D4.out.below b5)
  have M5 := Lib.hid hm
  clear b5 hm B4 S4 D4
  have q1 := HL2.out _ _ M5.out
  have x0 : _ = some (Value.int .i64 2) := S5.out.cell (i := 0) (by decide)
  have x1 : _ = some (Value.int .i64 (c : Int)) := S5.out.cell (i := 1) (by decide)
  go_wp2_with fail
  refine (H4.out _ (HT.out.below B5.out)).mono ?_
  rintro e w6 ⟨rfl, b6⟩
  have B6 := Lib.hid (B5.out.trans (b6.mono B5.out.size))
  have S6 := Lib.hid (S5.out.below b6)
  have D6 := Lib.hid (D5.out.below b6)
  have M6 := Lib.hid (M5.out.below b6)
  clear b6 B5 S5 D5 M5
  clear q1 x0 x1
  go_wp2_with fail
  refine (H5.out _).mono ?_
  rintro e w7 ⟨rfl, b7⟩
  have B7 := Lib.hid (B6.out.trans (b7.mono B6.out.size))
  have S7 := Lib.hid (S6.out.below b7)
  have D7 := Lib.hid (D6.out.below b7)
  have M7 := Lib.hid (M6.out.below b7)
  clear b7 B6 S6 D6 M6
  go_wp2_with fail
  refine (H6.out _).mono ?_
  rintro e w8 ⟨rfl, b8⟩
  have B8 := Lib.hid (B7.out.trans (b8.mono B7.out.size))
  have S8 := Lib.hid (S7.out.below b8)
  have D8 := Lib.hid (D7.out.below b8)
  have M8 := Lib.hid (M7.out.below b8)
  clear b8 B7 S7 D7 M7
  have x2 : _ = some (Value.int .i64 (x : Int)) := S8.out.cell (i := 2) (by decide)
  go_wp2_with fail
  refine (H7.out _).mono ?_
  rintro e w9 ⟨rfl, b9⟩
  have B9 := Lib.hid (B8.out.trans (b9.mono B8.out.size))
  have S9 := Lib.hid (S8.out.below b9)
  have D9 := Lib.hid (D8.out.below b9)
  have M9 := Lib.hid (M8.out.below b9)
  clear b9 B8 S8 D8 M8
  clear x2
  have q1 := HL1.out _ _ M9.out
  have x0 : _ = some (Value.int .i64 2) := S9.out.cell (i := 0) (by decide)
  go_wp2_with fail
  refine (H8.out _ _ _).mono ?_
  rintro e wp ⟨rfl, rfl⟩
  clear q1 x0
  go_wp2_with fail
  obtain ⟨w10, hw10⟩ : ∃ y, w9.alloc (.cells #[.int .i64 (p : Int), .int .i64 (P : Int), .int .i64 (E : Int)] 3) = y := ⟨_, rfl⟩
  have b10 : Below w9.heap.size w9 w10 := by rw [← hw10]; exact (Below.refl _ _).alloc (Nat.le_refl _) _
  have R10 : Hid (RowV w10 w9.heap.size 3 3 (fun i => .int .i64 ((zs.getD i 0 : Nat) : Int))) := Lib.hid (by rw [← hw10]; exact HR.out w9)
  have z10 : w9.heap.size + 1 = w10.heap.size := by rw [← hw10]; exact (Array.size_push _).symm
  rw [hw10]
  (try rw [z10])
  have B10 := Lib.hid (B9.out.trans (b10.mono B9.out.size))
  have S10 := Lib.hid (S9.out.below b10)
  have D10 := Lib.hid (D9.out.below b10)
  have M10 := Lib.hid (M9.out.below b10)
  clear b10 hw10 z10 B9 S9 D9 M9
  have SZ := Lib.hid B10.out.size
  go_loopg [16, 74] 3 (fun g s16 s74 wx => ∃ (k : Nat) (u : Value), k + g = 3 ∧ s74 = .int .i64 (k : Int) ∧ s16 = u ∧ Hid (Owns wx w10.heap.size u ((zs.take k).map Sha.be8).flatten) ∧ Hid (Below w10.heap.size w10 wx))
  case atStart => exact ⟨0, _, by omega, rfl, rfl, Lib.hid (Owns.nil _ _), Lib.hid (Below.refl _ _)⟩
  case round =>
    obtain ⟨k, u, hk, rfl, e2, hO, hB⟩ := hrel
    obtain rfl : u = _ := e2.symm
    by_cases hk3 : k < 3
    · have d0 : decide ((k : Int) < 3) = true := by rw [decide_eq_true_iff]; omega
      have z1 : (0 : Int) ≤ (k : Int) := Int.natCast_nonneg k
      have z2 : (k : Int) < 3 := by omega
      have p0 : 0 ≤ (k : Int) ∧ (k : Int) < 3 := by omega
      have z3 : ((k : Int)).toNat = k := Int.toNat_natCast k
      have c0 := (R10.out.below hB.out).cell (i := k) hk3
      have Hn := Lib.hid (HZ.out k hk3)
      have Hst := Lib.hid (HS.out k hk3)
      have Hl := HLE.out k (by omega)
      obtain ⟨n, hn⟩ : ∃ n, zs.getD k 0 = n := ⟨_, rfl⟩
      obtain ⟨l, hl⟩ : ∃ l, ((zs.take k).map Sha.be8).flatten = l := ⟨_, rfl⟩
      rw [hn] at c0 Hn Hst
      rw [hl] at hO Hst Hl
      have L1 := Lib.hid (show l.length + (Sha.be8 n).length ≤ 140737488351232 from by rw [be8_len]; omega)
      clear hn hl Hl hk3
      go_wp2_with fail
      refine (H9.out n Hn.out _).mono ?_
      rintro e w11 ⟨⟨u2, rfl, o2⟩, b2⟩
      have O2 := Lib.hid (o2.bytesAt (by rw [be8_len]; omega))
      have hO2 := Lib.hid (hO.out.below b2)
      have B11 := Lib.hid (hB.out.trans (b2.mono hB.out.size))
      clear o2 b2 hO hB c0
      go_wp2_with ((with_reducible (show wpList _ _ _ (Oper.mk (some 81) _ _ _ _ _ :: _) _ _)); refine wpList_append_bytes rfl (.tmp 78) (.tmp 80) rfl w10.heap.size u u2 l (Sha.be8 n) rfl rfl hO2.out O2.out L1.out B11.out.size ?_; intro v3 w12 O3 B3 _)
      go_roundg (gk - 1)
      case measure => omega
      case rel =>
        go_light
        exact ⟨k + 1, v3, by omega, rfl, rfl, Lib.hid (by rw [Hst.out]; exact O3.out), Lib.hid (B11.out.trans B3.out)⟩
    · obtain rfl : k = 3 := by omega
      have d0 : decide (((3 : Nat) : Int) < 3) = false := by decide
      have BF := B10.out.trans (hB.out.mono SZ.out)
      have DF := Lib.hid (D10.out.below hB.out)
      have BH := Lib.hid hB.out.size
      go_wp2_with fail
      refine (H10.out _ _ (hO.out.bytesAt (by have := HLE.out 3 (by omega); omega)) (HT.out.below BF)).mono ?_
      rintro e w11 ⟨rfl, b5⟩
      have B11 := Lib.hid (BF.trans (b5.mono BF.size))
      have D11 := Lib.hid (DF.out.below b5)
      clear b5 BF DF
      go_wp2_with ((with_reducible (show wpList _ _ _ (Oper.mk none _ _ _ _ _ :: _) _ _)); refine wpList_store_rowV (o := ⟨none, .store 38 (.tmp 4) (.tmp 84), _, _, _, _⟩) rfl 38 (.tmp 4) (.tmp 84) rfl w1.heap.size rfl 32 38 _ G rfl D11.out (by kernel_rfl) G1.out ?_; intro w12 R12 O12)
      refine bodyPost_ret (v := .tuple #[.agg (rowF 32 G), .int .i64 0]) (by exact results_rowV2 (fn := Tryd.f24) (p := 4) (u := 5) (ty := 38) rfl _ _ w1.heap.size 32 38 _ _ rfl R12.out Tryd.underlying38 rfl (by kernel_rfl)) rfl ⟨rfl, ?_⟩
      exact B11.out.trans (O12.out.below LT.out B11.out.size)
/-- what Shared answers -/
def sharedL (r c x p : Int) : List UInt8 := if sideB r c x && elemB p then keyS r.toNat c.toNat x.toNat p.toNat else zero32
def sharedE (r c x p : Int) : Int := if sideB r c x && elemB p then 0 else 100
theorem sharedL_len (r c x p : Int) : (sharedL r c x p).length = 32 := by unfold sharedL; split; exact keyL_len _ _ _; rfl
theorem shared_any (r c x p : Int) (w : World) (hT : Tab w) :
    Calls Tryd.prog 24 #[.agg #[.int .i64 r, .int .i64 c, .int .i64 x], .int .i64 p] w fun e w' => e = .returned (.tuple #[digV (sharedL r c x p), .int .i64 (sharedE r c x p)]) ∧ Below w.heap.size w w' := by
  unfold sharedL sharedE
  cases h : sideB r c x with
  | false => exact shared_no1 r c x p h w
  | true =>
    obtain ⟨R, C, X, rfl, rfl, rfl, hr, hc, hx1, hx2⟩ := sideB_nat h
    cases h2 : elemB p with
    | false => exact shared_no2 R C X hr hc hx1 hx2 p h2 w hT
    | true =>
      obtain ⟨n, rfl, h3, h4, h5⟩ := elemB_nat h2
      rcases hr with rfl | rfl
      · exact shared_yes1 C X n hc hx1 hx2 ⟨h3, h4, h5⟩ w hT
      · exact shared_yes2 C X n hc hx1 hx2 ⟨h3, h4, h5⟩ w hT
end Go.Proofs.YtdcpejfnhegdaaaDoor
