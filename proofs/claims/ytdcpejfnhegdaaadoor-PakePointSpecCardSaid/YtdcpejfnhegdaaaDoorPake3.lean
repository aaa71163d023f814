/- Package pake: proof, of the program and of the reference. -/
import Derived.Test.YtdcpejfnhegdaaaDoorPakeR1
import Derived.ArgAppend
set_option linter.unusedVariables false
set_option linter.unusedSimpArgs false
namespace Go.Proofs.YtdcpejfnhegdaaaDoor
open Go.RowKit
/-- append(s, x...), s full, x some bytes -/
theorem wpList_append_full {w : World} {ops : Array Oper} {rest : List Oper} {o : Oper} {a : Act} {Q : Exit → Act → World → Prop} (hgd : o.guard = none) (s x : Operand)
    (ho : o.op = .call { callee := .builtin .append, args := #[s, x], argTypes := #[22, 22] })
    (vs vx : Value) (l lx : List UInt8) (ad : Addr) (hs : a.eval s = vs) (hvs : vs = .slice (some ad) l.length l.length) (hx : a.eval x = vx) (hbs : BytesAt w vs l) (hbx : BytesAt w vx lx) (h0 : 0 < l.length) (h1 : 0 < lx.length) (hlen : l.length + lx.length ≤ 140737488351232)
    (h : ∀ v' w', Hid (Owns w' w.heap.size v' (l ++ lx)) → Hid (Below w.heap.size w w') → wpList Tryd.prog ops Q rest (a.put o.dst v') w') : wpList Tryd.prog ops Q (o :: rest) a w := by
  obtain ⟨i0, hi, hz0, hz1, hz2⟩ := info_parts info_byte
  subst hvs
  rcases hbs with ⟨_, rfl⟩ | ⟨b, off, cap, e1, _, _, _, hb, hcell⟩
  · simp at h0
  rcases hbx with ⟨_, rfl⟩ | ⟨b', off', cap', rfl, _, _, _, hb', hcell'⟩
  · simp at h1
  injection e1 with e1 e2 e3
  injection e1 with e1
  subst e1
  have cells : ∀ (B off : Nat) (m : List UInt8), (∀ j, j < m.length → w.cell? ⟨B, off + j, none⟩ = some (vB (m.getD j 0))) → ∀ j u, (m.map vB)[j]? = some u → w.cell? ((⟨B, off, none⟩ : Addr).add j) = some u := by
    intro B off m hm j u hj
    obtain ⟨hlt, he⟩ := List.getElem?_eq_some_iff.1 hj
    rw [List.length_map] at hlt
    rw [Addr.add_mid, hm j hlt, ← he]
    simp [List.getD_eq_getElem?_getD, List.getElem?_eq_getElem hlt]
  refine wpList_append_grows w hgd s x 22 ho 5 i0 (.int .u8 0) 1 1 Tryd.underlying22 hi hz0 hz1 hz2 rfl (by decide) (some ⟨b, off, none⟩) l.length l.length (l.map vB) hs (fun h => by cases h) (by simp)
    (fun B hB => by injection hB with hB; subst hB; exact cells b off l hcell) ⟨b', off', none⟩ lx.length cap' (lx.map vB) hx (by simp) (cells b' off' lx hcell') (fun u hu => by obtain ⟨y, _, rfl⟩ := List.mem_map.1 hu; rfl) (by omega) (by unfold maxLen; omega) (by omega) ?_
  intro v' w' h1 hg
  refine h v' w' ?_ ((Below.refl _ w).grown hg (Nat.le_refl _) (fun k hk => by cases hk))
  unfold Hid Owns
  rw [List.length_append, List.map_append]
  exact h1
set_option maxRecDepth 100000 in
set_option maxHeartbeats 4000000 in
theorem proof_any (k : List UInt8) (hk : k.length = 32) (r : Int) (w : World) (hT : Tab w) :
    Calls Tryd.prog 56 #[digV k, .int .i64 r] w fun e w' => e = .returned (digV (proofL k r)) ∧ Below w.heap.size w w' := by
  have hb := vB_role r
  have C1 : ∀ v W, BytesAt W v (k ++ [roleByte r]) → Tab W → Calls Tryd.prog 18 #[.string sProof, v] W fun e w' => e = .returned (digV (proofL k r)) ∧ Below W.heap.size W w' := fun v W hv hT => tagged_any sProof v _ W (by decide) (by rw [List.length_append, hk, List.length_singleton]; decide) hv hT
  have hb1 : ∀ W B, RowV W B 38 32 (fun i => vB (k.getD i 0)) → BytesAt W (.slice (some ⟨B, 0, none⟩) 32 32) k := fun W B h => RowV.bytesAt h hk (by decide) (by decide)
  unfold digV at C1 ⊢
  obtain ⟨g, hg⟩ : ∃ g, (fun i => vB ((proofL k r).getD i 0)) = g := ⟨_, rfl⟩
  obtain ⟨f, hf⟩ : ∃ f, (fun i => vB (k.getD i 0)) = f := ⟨_, rfl⟩
  have g1 : ∀ j, j < 32 → (g j).oneCell' = true := by intro j _; rw [← hg]; rfl
  rw [hf] at hb1 ⊢
  rw [hg] at C1 ⊢
  obtain ⟨x, hx⟩ : ∃ x, roleByte r = x := ⟨_, rfl⟩
  rw [hx] at hb C1
  have H1 := Lib.hid C1; have HB1 := Lib.hid hb1; have G1 := Lib.hid g1; have HT := Lib.hid hT; have HK := Lib.hid hk
  clear C1 hb1 g1 hT hg hf hx hk
  go_enter Tryd.func56, Tryd.ntmps56
  have B0 := Lib.hid (Below.refl w.heap.size w)
  go_upto_region 1 with fail
  obtain ⟨w1, hw1⟩ : ∃ y, w.alloc (.cells (rowF 32 f) 38) = y := ⟨_, rfl⟩
  have b1 : Below w.heap.size w w1 := by rw [← hw1]; exact (Below.refl _ _).alloc (Nat.le_refl _) _
  have F1 : Hid (RowV w1 w.heap.size 38 32 f) := Lib.hid (by rw [← hw1]; exact RowV.new w _ 32 f)
  have z1 : w.heap.size + 1 = w1.heap.size := by rw [← hw1]; exact (Array.size_push _).symm
  rw [hw1]
  (try rw [z1])
  have B1 := Lib.hid (B0.out.trans (b1.mono B0.out.size))
  clear b1 hw1 z1 B0
  have LT := Lib.hid B1.out.size
  obtain ⟨w2, hw2⟩ : ∃ y, w1.alloc (.cells #[.int .u8 0, .int .u8 0, .int .u8 0, .int .u8 0, .int .u8 0, .int .u8 0, .int .u8 0, .int .u8 0, .int .u8 0, .int .u8 0, .int .u8 0, .int .u8 0, .int .u8 0, .int .u8 0, .int .u8 0, .int .u8 0, .int .u8 0, .int .u8 0, .int .u8 0, .int .u8 0, .int .u8 0, .int .u8 0, .int .u8 0, .int .u8 0, .int .u8 0, .int .u8 0, .int .u8 0, .int .u8 0, .int .u8 0, .int .u8 0, .int .u8 0, .int .u8 0] 29) = y := ⟨_, rfl⟩
  have b2 : Below w1.heap.size w1 w2 := by rw [← hw2]; exact (Below.refl _ _).alloc (Nat.le_refl _) _
  have D2 : Hid (RowV w2 w1.heap.size 29 32 (fun _ => vB 0)) := Lib.hid (by rw [← hw2]; exact RowV.new w1 _ 32 (fun _ => vB 0))
  have z2 : w1.heap.size + 1 = w2.heap.size := by rw [← hw2]; exact (Array.size_push _).symm
  rw [hw2]
  (try rw [z2])
  have B2 := Lib.hid (B1.out.trans (b2.mono B1.out.size))
  have F2 := Lib.hid (F1.out.below b2)
  clear b2 hw2 z2 B1 F1
  have W3 := Lib.hid (B2.out.alloc B2.out.size (.cells #[vB x] 5))
  have D3 := Lib.hid (D2.out.alloc (.cells #[vB x] 5))
  have K3 := Lib.hid (HB1.out _ _ (F2.out.alloc (.cells #[vB x] 5)))
  have X3 := Lib.hid (one_byte w2 x)
  go_wp2_with ((with_reducible (show wpList _ _ _ (Oper.mk (some 9) _ _ _ _ _ :: _) _ _)); refine wpList_append_full rfl (.tmp 5) (.tmp 8) rfl (.slice (some ⟨w.heap.size, 0, none⟩) 32 32) (.slice (some ⟨w2.heap.size, 0, none⟩) 1 1) k [x] ⟨w.heap.size, 0, none⟩ rfl (by rw [HK.out]) rfl K3.out X3.out (by rw [HK.out]; decide) (Nat.succ_pos 0) (by rw [HK.out, List.length_singleton]; decide) ?_; intro v4 w4 O4 b4)
  have B4 := Lib.hid (W3.out.trans (b4.out.mono W3.out.size))
  have D4 := Lib.hid (D3.out.below b4.out)
  refine (H1.out _ _ (O4.out.bytesAt (by rw [List.length_append, HK.out, List.length_singleton]; decide)) (HT.out.below B4.out)).mono ?_
  rintro e w5 ⟨rfl, b5⟩
  have B5 := Lib.hid (B4.out.trans (b5.mono B4.out.size))
  have D5 := Lib.hid (D4.out.below b5)
  clear b5 b4 D3 W3 K3 X3
  go_wp2_with ((with_reducible (show wpList _ _ _ (Oper.mk none _ _ _ _ _ :: _) _ _)); refine wpList_store_rowV (o := ⟨none, .store 29 (.tmp 4) (.tmp 10), _, _, _, _⟩) rfl 29 (.tmp 4) (.tmp 10) rfl w1.heap.size rfl 32 29 _ g rfl D5.out (by kernel_rfl) G1.out ?_; intro w6 R6 O6)
  refine bodyPost_ret (v := .agg (rowF 32 g)) (by exact results_rowV (fn := Tryd.f56) (p := 4) (ty := 29) rfl _ _ w1.heap.size 32 29 _ _ rfl R6.out Tryd.underlying29 rfl (by kernel_rfl)) rfl ⟨rfl, ?_⟩
  exact B5.out.trans (O6.out.below LT.out B5.out.size)
set_option maxRecDepth 100000 in
set_option maxHeartbeats 4000000 in
theorem rproof_any (k : List UInt8) (hk : k.length = 32) (r : Int) (w : World) :
    Calls Tryd.prog 57 #[digV k, .int .i64 r] w fun e w' => e = .returned (digV (proofL k r)) ∧ Below w.heap.size w w' := by
  have hb := vB_role r
  have C1 : ∀ v W, BytesAt W v (k ++ [roleByte r]) → Calls Tryd.prog 43 #[.string sProof, v] W fun e w' => e = .returned (digV (proofL k r)) ∧ Below W.heap.size W w' := fun v W hv => reftagged_any sProof v _ W (by decide) (by rw [List.length_append, hk, List.length_singleton]; decide) hv
  have hb1 : ∀ W B, RowV W B 38 32 (fun i => vB (k.getD i 0)) → BytesAt W (.slice (some ⟨B, 0, none⟩) 32 32) k := fun W B h => RowV.bytesAt h hk (by decide) (by decide)
  unfold digV at C1 ⊢
  obtain ⟨g, hg⟩ : ∃ g, (fun i => vB ((proofL k r).getD i 0)) = g := ⟨_, rfl⟩
  obtain ⟨f, hf⟩ : ∃ f, (fun i => vB (k.getD i 0)) = f := ⟨_, rfl⟩
  have g1 : ∀ j, j < 32 → (g j).oneCell' = true := by intro j _; rw [← hg]; rfl
  rw [hf] at hb1 ⊢
  rw [hg] at C1 ⊢
  obtain ⟨x, hx⟩ : ∃ x, roleByte r = x := ⟨_, rfl⟩
  rw [hx] at hb C1
  have H1 := Lib.hid C1; have HB1 := Lib.hid hb1; have G1 := Lib.hid g1; have HK := Lib.hid hk
  have L1 := Lib.hid (show ([] : List UInt8).length + k.length ≤ 140737488351232 from by rw [hk]; decide)
  have L2 := Lib.hid (show ([] ++ k).length + [x].length ≤ 140737488351232 from by rw [List.nil_append, hk, List.length_singleton]; decide)
  clear C1 hb1 g1 hg hf hx hk
  go_enter Tryd.func57, Tryd.ntmps57
  have B0 := Lib.hid (Below.refl w.heap.size w)
  go_upto_region 1 with fail
  obtain ⟨w1, hw1⟩ : ∃ y, w.alloc (.cells (rowF 32 f) 38) = y := ⟨_, rfl⟩
  have b1 : Below w.heap.size w w1 := by rw [← hw1]; exact (Below.refl _ _).alloc (Nat.le_refl _) _
  have F1 : Hid (RowV w1 w.heap.size 38 32 f) := Lib.hid (by rw [← hw1]; exact RowV.new w _ 32 f)
  have z1 : w.heap.size + 1 = w1.heap.size := by rw [← hw1]; exact (Array.size_push _).symm
  rw [hw1]
  (try rw [z1])
  have B1 := Lib.hid (B0.out.trans (b1.mono B0.out.size))
  clear b1 hw1 z1 B0
  have LT := Lib.hid B1.out.size
  obtain ⟨w2, hw2⟩ : ∃ y, w1.alloc (.cells #[.int .u8 0, .int .u8 0, .int .u8 0, .int .u8 0, .int .u8 0, .int .u8 0, .int .u8 0, .int .u8 0, .int .u8 0, .int .u8 0, .int .u8 0, .int .u8 0, .int .u8 0, .int .u8 0, .int .u8 0, .int .u8 0, .int .u8 0, .int .u8 0, .int .u8 0, .int .u8 0, .int .u8 0, .int .u8 0, .int .u8 0, .int .u8 0, .int .u8 0, .int .u8 0, .int .u8 0, .int .u8 0, .int .u8 0, .int .u8 0, .int .u8 0, .int .u8 0] 29) = y := ⟨_, rfl⟩
  have b2 : Below w1.heap.size w1 w2 := by rw [← hw2]; exact (Below.refl _ _).alloc (Nat.le_refl _) _
  have D2 : Hid (RowV w2 w1.heap.size 29 32 (fun _ => vB 0)) := Lib.hid (by rw [← hw2]; exact RowV.new w1 _ 32 (fun _ => vB 0))
  have z2 : w1.heap.size + 1 = w2.heap.size := by rw [← hw2]; exact (Array.size_push _).symm
  rw [hw2]
  (try rw [z2])
  have B2 := Lib.hid (B1.out.trans (b2.mono B1.out.size))
  have F2 := Lib.hid (F1.out.below b2)
  clear b2 hw2 z2 B1 F1
  have E3 := Lib.hid (Owns.empty w2 (Nat.le_refl _))
  have W3 := Lib.hid (B2.out.alloc B2.out.size (.cells #[] 5))
  have Z3 := Lib.hid (show w2.heap.size ≤ (w2.alloc (.cells #[] 5)).heap.size from by rw [World.size_alloc]; omega)
  have D3 := Lib.hid (D2.out.alloc (.cells #[] 5))
  have D3' := Lib.hid D2.out.lt
  have K3 := Lib.hid (HB1.out _ _ (F2.out.alloc (.cells #[] 5)))
  go_wp2_with (first
    | ((with_reducible (show wpList _ _ _ (Oper.mk (some 7) _ _ _ _ _ :: _) _ _)); refine wpList_append_bytes rfl (.tmp 5) (.tmp 6) rfl w2.heap.size (.slice (some ⟨w2.heap.size, 0, none⟩) 0 0) (.slice (some ⟨w.heap.size, 0, none⟩) 32 32) [] k rfl rfl E3.out K3.out L1.out Z3.out ?_; intro v4 w4 O4 b4 _)
    | ((with_reducible (show wpList _ _ _ (Oper.mk (some 11) _ _ _ _ _ :: _) _ _)); refine wpList_append_bytes rfl (.tmp 7) (.tmp 10) rfl w2.heap.size v4 (.slice (some ⟨w4.heap.size, 0, none⟩) 1 1) ([] ++ k) [x] rfl rfl (Owns.alloc O4.out _) (one_byte w4 x) L2.out (by rw [World.size_alloc]; have := Z3.out; have := b4.out.size; omega) ?_; intro v5 w5 O5 b5 _))
  have B4 := W3.out.trans (b4.out.mono B2.out.size)
  have B5 := Lib.hid ((B4.alloc B4.size (.cells #[vB x] 5)).trans (b5.out.mono B2.out.size))
  have D5 := Lib.hid (((D3.out.belowK D3'.out b4.out).alloc (.cells #[vB x] 5)).belowK D3'.out b5.out)
  refine (H1.out _ _ (O5.out.bytesAt (by have := L2.out; rw [List.length_append]; omega))).mono ?_
  rintro e w6 ⟨rfl, b6⟩
  have B6 := Lib.hid (B5.out.trans (b6.mono B5.out.size))
  have D6 := Lib.hid (D5.out.below b6)
  clear b6 D3 W3 K3 B4 D5 B5
  go_wp2_with ((with_reducible (show wpList _ _ _ (Oper.mk none _ _ _ _ _ :: _) _ _)); refine wpList_store_rowV (o := ⟨none, .store 29 (.tmp 4) (.tmp 12), _, _, _, _⟩) rfl 29 (.tmp 4) (.tmp 12) rfl w1.heap.size rfl 32 29 _ g rfl D6.out (by kernel_rfl) G1.out ?_; intro w7 R7 O7)
  refine bodyPost_ret (v := .agg (rowF 32 g)) (by exact results_rowV (fn := Tryd.f57) (p := 4) (ty := 29) rfl _ _ w1.heap.size 32 29 _ _ rfl R7.out Tryd.underlying29 rfl (by kernel_rfl)) rfl ⟨rfl, ?_⟩
  exact B6.out.trans (O7.out.below LT.out B6.out.size)
end Go.Proofs.YtdcpejfnhegdaaaDoor
