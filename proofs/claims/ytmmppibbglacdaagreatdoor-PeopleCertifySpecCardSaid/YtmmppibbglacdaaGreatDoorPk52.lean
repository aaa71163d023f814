/- slices.Backward of listings, maps.Values: their iterators. slices.AppendSeq, Collect, SortedFunc over the values of a map of listings. The reference of people: find, guards, Check. -/
import Derived.Test.YtmmppibbglacdaaGreatDoorPk46
import Derived.Test.YtmmppibbglacdaaGreatDoorPk45
import Derived.Test.YtmmppibbglacdaaGreatDoorPk49
import Derived.Test.YtmmppibbglacdaaGreatDoorPk48
set_option linter.unusedVariables false
set_option linter.unusedSimpArgs false
namespace Go.Proofs.YtmmppibbglacdaaGreatDoor
open Go.RowKit Cod
abbrev St (S : Nat → Prop) : World → World → Prop := (Tc.Rl.stay S).r
theorem SlS.stay {S : Nat → Prop} {s : Nat} {w w' : World} {v : Value} {n : Nat} {c : Nat → Nat → Value} (h : SlS S s w v n c) (hs : St S w w') : SlS S s w' v n c := by
  rcases h with h | ⟨b, off, cap, h1, h2, h3, h4, h5, h6⟩
  · exact .inl h
  · have e := hs b h5.2
    have hlt : b < w'.heap.size := by
      have := Array.getElem?_eq_getElem h5.1
      rw [← e] at this
      exact (Array.getElem?_eq_some_iff.1 this).1
    exact .inr ⟨b, off, cap, h1, h2, h3, h4, ⟨hlt, h5.2⟩, fun i hi j hj => (World.cell?_of_block (w := w) (w' := w') (a := ⟨b, off + s * i + j, none⟩) e).trans (h6 i hi j hj)⟩
theorem RowV.stay {S : Nat → Prop} {w w' : World} {B n : Nat} {T : TypeId} {g : Nat → Value} (h : RowV w B T n g) (hS : S B) (hs : St S w w') : RowV w' B T n g := h.of_block (hs B hS)
theorem St.trans {S : Nat → Prop} {a b c : World} (h : St S a b) (k : St S b c) : St S a c := (Tc.Rl.stay S).trans h k
theorem St.refl {S : Nat → Prop} (a : World) : St S a a := fun _ _ => rfl
/-- the first k that come -/
def bkL (x : List Li) (k : Nat) : List (Nat × Li) := (List.range k).map fun t => (x.length - 1 - t, x.getD (x.length - 1 - t) li0)
theorem bkL_len (x : List Li) (k : Nat) : (bkL x k).length = k := by simp [bkL]
theorem bkL_succ (x : List Li) (k : Nat) : bkL x (k + 1) = bkL x k ++ [(x.length - 1 - k, x.getD (x.length - 1 - k) li0)] := by unfold bkL; rw [List.range_succ, List.map_append]; rfl
theorem bkL_all (x : List Li) : ((bkL x x.length).map (·.2)).reverse = x := by
  unfold bkL
  rw [List.map_map]
  apply List.ext_getElem (by simp)
  intro i h1 h2
  simp only [List.getElem_reverse, List.getElem_map, List.getElem_range, Function.comp_apply, List.length_map, List.length_range]
  have : x.length - 1 - (x.length - 1 - i) = i := by omega
  simp [this, h2]
abbrev encB (p : Nat × Li) : Array Value := #[.int .i64 (p.1 : Int), liA p.2]
theorem pback_any (a : Option Addr) (m k : Nat) (w : World) : Calls Tryz.prog 37 #[.slice a m k] w fun e w' => e = .returned (.func (.func 68) #[] #[.pointer (some ⟨w.heap.size, 0, none⟩)]) ∧ w' = w.alloc (.cells #[.slice a m k] 39) := by
  have hmf : ∀ (fn : Fn) (first cap : Array Value) (w : World), (Instr.makeFunc fn first cap).run Tryz.prog w = .ok (.func fn first cap) w := fun _ _ _ _ => rfl
  go_enter Tryz.func37, Tryz.ntmps37
  go_wp2_with fail
  go_ret
  exact ⟨rfl, rfl⟩
set_option maxRecDepth 100000 in
set_option maxHeartbeats 8000000 in
theorem back_stops (n : Nat) (S : Nat → Prop) (B : Nat) (v : Value) (x : List Li) (w : World) (hS : S B) (hB : RowV w B 39 1 (fun _ => v)) (hx : SlS S 5 w v x.length (fun i => liC (x.getD i li0))) (hn : x.length ≤ 1000) (hbl : ∀ k, S k → k < w.heap.size) :
    SeqStopsK Fence.wide n Tryz.prog 68 #[.pointer (some ⟨B, 0, none⟩)] encB (St S) (fun xs => xs = bkL x x.length) (fun _ => True) x.length w := by
  intro l J Jx W hW hJ hJx hY h0
  refine callsIn_wide.2 ?_
  show Calls _ _ #[.func (.yield l) #[] #[], .pointer (some ⟨B, 0, none⟩)] W _
  have st : St S w W := fun k hk => hW.block k (hbl k hk)
  have X0 := Lib.hid (hx.stay st)
  have B0 := Lib.hid (hB.stay hS st)
  have HS := Lib.hid hS
  have HY := Lib.hid hY
  have HJ0 : Hid (J (bkL x 0) W) := Lib.hid h0
  obtain ⟨va, vc, rfl⟩ := hx.at'.slice
  have FIN : Hid (∀ (e : Ending) (W' : World), (∃ v, e = .returned v) → (J (bkL x x.length) W' ∨ ∃ pre, Jx pre W') → (∃ v, e = .returned v) ∧ ((∃ xs, xs = bkL x x.length ∧ J xs W') ∨ ∃ pre, True ∧ Jx pre W')) := Lib.hid (fun e W' h1 h2 => ⟨h1, h2.elim (fun h => .inl ⟨_, rfl, h⟩) (fun ⟨p, h⟩ => .inr ⟨p, trivial, h⟩)⟩)
  obtain ⟨m, hm⟩ : ∃ y, x.length = y := ⟨_, rfl⟩
  have HM := Lib.hid hm
  rw [hm] at X0 HY FIN B0 ⊢
  have qn : (m : Int) ≤ 1000 := by omega
  have m1 : IntKind.i64.wrap ((m : Int) - 1) = (m : Int) - 1 := IntWalk.i64_in _ (by omega)
  have x0 : W.cell? ⟨B, 0, none⟩ = some (.slice va m vc) := B0.out.cell (i := 0) (by decide)
  clear hx hB hS hn st hbl hJ hJx hY h0 hm hW
  refine Calls.mono (R := fun e W' => (∃ v, e = .returned v) ∧ (J (bkL x m) W' ∨ ∃ pre, Jx pre W')) ?_ (fun e W' h => by rw [HM.out] at *; exact FIN.out e W' h.1 h.2)
  clear FIN
  go_enter Tryz.func68, Tryz.ntmps68
  go_wp2_with fail
  clear x0 m1
  go_loopg [3] m (fun gh s3 wx => ∃ k : Nat, k + gh = m ∧ s3 = .int .i64 ((gh : Int) - 1) ∧ Hid (J (bkL x k) wx) ∧ Hid (SlS S 5 wx (.slice va m vc) m (fun i => liC (x.getD i li0))) ∧ Hid (RowV wx B 39 1 (fun _ => .slice va m vc)))
  case atStart => exact ⟨0, by omega, rfl, HJ0, X0, B0⟩
  case round =>
    clear HJ0 X0 B0
    obtain ⟨k, hk, rfl, hJ, hX, hB⟩ := hrel
    obtain ⟨w1, rfl⟩ : ∃ y, y = wr := ⟨_, rfl⟩
    cases gk with
    | zero =>
      obtain rfl : k = m := by omega
      go_wp2_with fail
      go_end0
      exact ⟨⟨_, rfl⟩, .inl hJ.out⟩
    | succ t =>
      have q0 : (0 : Int) ≤ (t : Int) := Int.natCast_nonneg t
      have e0 : ((t + 1 : Nat) : Int) - 1 = (t : Int) := by omega
      rw [e0]
      clear e0
      have d0 : decide ((0 : Int) ≤ (t : Int)) = true := by rw [decide_eq_true_iff]; omega
      have q1 : (t : Int) < (m : Int) := by omega
      have q2 : IntKind.i64.wrap ((t : Int) - 1) = (t : Int) - 1 := IntWalk.i64_in _ (by omega)
      obtain ⟨b, off, rfl, hcap, hb, hc⟩ := SlAt.at_elem (s := 5) (n := m) (a := va) (k := vc) (c := fun i => liC (x.getD i li0)) hX.out.at' (show t < m by omega)
      have x0 : w1.cell? ⟨B, 0, none⟩ = some (.slice (some ⟨b, off, none⟩) m vc) := hB.out.cell (i := 0) (by decide)
      have HCK := Lib.hid (fun j hj => hc t (show t < m by omega) j hj)
      have BS : Hid (bkL x (k + 1) = bkL x k ++ [(t, x.getD t li0)]) := Lib.hid (by rw [bkL_succ, HM.out, show m - 1 - k = t by omega])
      have YT := HY.out (bkL x k) (t, x.getD t li0) w1 hJ.out (by rw [bkL_len]; omega)
      have HYT := Lib.hid YT
      have HK := Lib.hid hk
      obtain ⟨z, hz⟩ : ∃ y, x.getD t li0 = y := ⟨_, rfl⟩
      rw [hz] at HCK BS HYT
      clear YT hz hc hb hcap hk
      go_upto_region 3 with fail
      refine (wpIn_wide (n := n)).1 (wpIn_region_lit (wpListIn_pre' 6 ?_))
      simp only [List.take_succ_cons, List.take_zero, List.drop_succ_cons, List.drop_zero]
      go_wp2_with (first | ((with_reducible (show wpList _ _ _ (Oper.mk (some 16) _ _ _ _ _ :: _) _ _)); refine Hid.out ?_))
      refine Lib.hid ?_
      refine wpList_load_elem rfl 42 (.tmp 15) rfl b (off + t * 5) rfl 5 off t (by rw [Nat.mul_comm]) (liC z) HCK.out _ Tryz.underlying42 rfl (by kernel_rfl) ?_
      go_wp2_with fail
      unfold preQ
      dsimp only
      refine wpListIn_yield rfl (.tmp 11) #[.tmp 12, .tmp 16] #[3, 42] rfl l rfl #[.int .i64 (t : Int), liA z] rfl HYT.out ?_
      clear HYT HCK x0
      rintro e w2 (⟨rfl, hJ2, hk2⟩ | ⟨rfl, hJx2⟩)
      · have J2 : Hid (J (bkL x (k + 1)) w2) := Lib.hid (by rw [BS.out]; exact hJ2)
        have X2 := Lib.hid (hX.out.stay hk2)
        have B2 := Lib.hid (hB.out.stay HS.out hk2)
        clear hJ2 hk2 BS hJ hX hB
        refine ⟨_, rfl, wpListIn_pre' 1 ?_⟩
        simp only [List.take_succ_cons, List.take_zero, List.drop_succ_cons, List.drop_zero]
        go_wp2_with fail
        unfold preQ
        dsimp only
        unfold wpListIn
        go_wp2_with fail
        go_roundg t
        case measure => omega
        case rel =>
          go_light
          exact ⟨k + 1, by have := HK.out; omega, rfl, J2, X2, B2⟩
      · refine ⟨_, rfl, wpListIn_pre' 1 ?_⟩
        simp only [List.take_succ_cons, List.take_zero, List.drop_succ_cons, List.drop_zero]
        have JX : Hid (∃ pre, Jx pre w2) := Lib.hid ⟨_, hJx2⟩
        clear hJx2
        go_wp2_with fail
        unfold preQ
        dsimp only
        unfold wpListIn
        go_wp2_with fail
        refine bodyPost_ret (results_none rfl _ _ _) rfl ?_
        exact ⟨⟨_, rfl⟩, .inr JX.out⟩
theorem pvals_any (b : Nat) (w : World) : Calls Tryz.prog 45 #[.map (some b)] w fun e w' => e = .returned (.func (.func 79) #[] #[.pointer (some ⟨w.heap.size, 0, none⟩)]) ∧ w' = w.alloc (.cells #[.map (some b)] 63) := by
  have hmf : ∀ (fn : Fn) (first cap : Array Value) (w : World), (Instr.makeFunc fn first cap).run Tryz.prog w = .ok (.func fn first cap) w := fun _ _ _ _ => rfl
  go_enter Tryz.func45, Tryz.ntmps45
  go_wp2_with fail
  go_ret
  exact ⟨rfl, rfl⟩
abbrev encV (z : Li) : Array Value := #[liA z]
abbrev prL (z : Li) : Int × Value := (z.d, liA z)
/-- block b is a map of these listings by their devices -/
def MapV (w : World) (b : Nat) (x : List Li) : Prop := ∃ m, IM.At w b m ∧ m.Perm (x.map prL)
theorem perm_map_inv {α β : Type} (f : α → β) {l : List α} {a : β} {l' : List β} (h : (l.map f).Perm (a :: l')) : ∃ z r, l.Perm (z :: r) ∧ a = f z ∧ (r.map f).Perm l' := by
  have hm : a ∈ l.map f := h.mem_iff.2 (List.mem_cons_self ..)
  obtain ⟨z, hz, rfl⟩ := List.mem_map.1 hm
  obtain ⟨s, t, rfl⟩ := List.append_of_mem hz
  refine ⟨z, s ++ t, List.perm_middle, rfl, ?_⟩
  have h2 := ((List.perm_middle (a := z) (l₁ := s) (l₂ := t)).map f).symm.trans h
  exact h2.cons_inv
set_option maxRecDepth 100000 in
set_option maxHeartbeats 8000000 in
theorem vals_stops (n : Nat) (B b : Nat) (x : List Li) (w : World) (hB : RowV w B 63 1 (fun _ => .map (some b))) (hm : MapV w b x) :
    SeqStopsK Fence.wide n Tryz.prog 79 #[.pointer (some ⟨B, 0, none⟩)] encV KeepsWalks (fun xs => xs.Perm x) (fun _ => True) x.length w := by
  intro l J Jx W hW hJ hJx hY h0
  refine callsIn_wide.2 ?_
  show Calls _ _ #[.func (.yield l) #[] #[], .pointer (some ⟨B, 0, none⟩)] W _
  obtain ⟨m, hm1, hm2⟩ := hm
  have M0 := Lib.hid (hm1.below hW)
  have MP := Lib.hid hm2
  have B0 := Lib.hid (hB.below hW)
  have HY := Lib.hid hY
  have HJ := Lib.hid hJ
  have HJ0 : Hid (J [] W) := Lib.hid h0
  have FIN : Hid (∀ (e : Ending) (W' : World), (∃ v, e = .returned v) → ((∃ xs, xs.Perm x ∧ J xs W') ∨ ∃ pre, Jx pre W') → (∃ v, e = .returned v) ∧ ((∃ xs, xs.Perm x ∧ J xs W') ∨ ∃ pre, True ∧ Jx pre W')) := Lib.hid (fun e W' h1 h2 => ⟨h1, h2.elim .inl (fun ⟨p, h⟩ => .inr ⟨p, trivial, h⟩)⟩)
  have x0 : W.cell? ⟨B, 0, none⟩ = some (.map (some b)) := B0.out.cell (i := 0) (by decide)
  clear hm1 hm2 hB hJ hJx hY h0 hW
  refine Calls.mono (R := fun e W' => (∃ v, e = .returned v) ∧ ((∃ xs, xs.Perm x ∧ J xs W') ∨ ∃ pre, Jx pre W')) ?_ (fun e W' h => FIN.out e W' h.1 h.2)
  clear FIN
  go_enter Tryz.func79, Tryz.ntmps79
  go_wp2_with (first | ((with_reducible (show wpList _ _ _ (Oper.mk (some 6) _ _ _ _ _ :: _) _ _)); refine Hid.out ?_))
  refine Lib.hid ?_
  refine IM.wpList_range rfl 63 3 42 (.tmp 5) rfl rfl M0.out Tryz.underlying63 ?_
  intro w1 R1 b1
  have J1 : Hid (J [] w1) := Lib.hid (HJ.out [] W w1 none HJ0.out ⟨b1.out.os, b1.out.tape, b1.out.output, b1.out.size, fun k hk _ => b1.out.block k hk⟩ (fun r e => by cases e))
  have SZ := Lib.hid b1.out.size
  clear b1 M0 HJ0 x0
  go_wp2_with fail
  simp only [Act.put, List.setIfInBounds_toArray, List.set_cons_succ, List.set_cons_zero]
  go_loopg [] x.length (fun gh wx => ∃ (dn lf : List Li) (L : List (Int × Value)), lf.length = gh ∧ Hid ((dn ++ lf).Perm x) ∧ Hid (L.Perm (lf.map prL)) ∧ Hid (IM.Rng wx b W.heap.size m L) ∧ Hid (J dn wx))
  case atStart => exact ⟨[], x, m, rfl, Lib.hid (List.Perm.refl _), MP, R1, J1⟩
  case round =>
    clear R1 J1 SZ
    obtain ⟨dn, lf, L, hg, hP, hL, hR, hJ⟩ := hrel
    obtain ⟨w1, rfl⟩ : ∃ y, y = wr := ⟨_, rfl⟩
    have HG := Lib.hid hg
    clear hg
    go_wp2_with (first | ((with_reducible (show wpList _ _ _ (Oper.mk (some 7) _ _ _ _ _ :: _) _ _)); refine Hid.out ?_))
    refine Lib.hid ?_
    refine IM.wpList_next rfl (.tmp 6) rfl rfl hR.out ?_ ?_
    · intro hl
      have FX : Hid (∃ xs, xs.Perm x ∧ J xs w1) := Lib.hid ⟨dn, by
        have h := hL.out
        rw [hl] at h
        have : lf = [] := List.map_eq_nil_iff.1 h.symm.eq_nil
        have h2 := hP.out
        rwa [this, List.append_nil] at h2, hJ.out⟩
      clear hl hR hL hP hJ HY HJ
      go_wp2_with fail
      go_end0
      exact ⟨⟨_, rfl⟩, .inl FX.out⟩
    · intro w2 a v L' hp R2 O2 he
      obtain ⟨z, r, hz1, hz2, hz3⟩ := perm_map_inv prL (hL.out.symm.trans hp.out)
      obtain ⟨rfl, rfl⟩ := Prod.mk.inj hz2
      have L2 : Hid (L'.Perm (r.map prL)) := Lib.hid hz3.symm
      have P2 : Hid ((dn ++ [z] ++ r).Perm x) := Lib.hid (by rw [List.append_assoc]; exact ((List.Perm.append_left dn hz1).symm).trans hP.out)
      have LEN : Hid (lf.length = r.length + 1) := Lib.hid (by rw [hz1.length_eq]; rfl)
      have DL : Hid (dn.length < x.length) := Lib.hid (by have h := P2.out.length_eq; simp at h; omega)
      have J2 : Hid (J dn w2) := Lib.hid (HJ.out dn w1 w2 (some W.heap.size) hJ.out ⟨O2.out.os, O2.out.tape, O2.out.output, O2.out.size, fun k hk hne => O2.out.block k hk (fun e => hne (by rw [e]))⟩ (fun q e => by
        cases e
        obtain ⟨es, clock, seen, _, _, _, h4, _⟩ := hR.out
        exact ⟨Nat.le_refl _, _, h4, rfl⟩))
      have SZ := Lib.hid (show W.heap.size ≤ w2.heap.size from Nat.le_of_lt R2.out.lt)
      clear hz1 hz2 hz3 hp hL hP hR hJ O2
      have B2 := Lib.hid (Below.refl w2.heap.size w2)
      have Zr := Lib.hid (RowV.new w2 42 5 (liC li0))
      go_upto_region 3 with ((with_reducible (show wpList _ _ _ (Oper.mk none _ _ _ _ _ :: _) _ _)); refine wpList_store_rowV (o := ⟨none, .store 42 (.tmp 4) (.tmp 10), _, _, _, _⟩) rfl 42 (.tmp 4) (.tmp 10) rfl w2.heap.size rfl 5 42 _ (liC z) rfl Zr.out (by kernel_rfl) (fun j _ => liC_one z j) ?_; intro w3 Y3 o3)
      have b3 : Below w2.heap.size w2 w3 := ((Below.refl _ _).alloc (Nat.le_refl _) _).trans (o3.out.below (Nat.le_refl _) (by rw [World.size_alloc]; omega))
      have B3 := Lib.hid (B2.out.trans (b3.mono B2.out.size))
      clear b3 o3 Zr B2
      have J3 : Hid (J dn w3) := Lib.hid (HJ.out dn w2 w3 none J2.out ⟨B3.out.os, B3.out.tape, B3.out.output, B3.out.size, fun k hk _ => B3.out.block k hk⟩ (fun r e => by cases e))
      have R3 := Lib.hid (R2.out.below B3.out)
      have HYT := Lib.hid (HY.out dn z w3 J3.out DL.out)
      clear he J2 R2 B3
      refine (wpIn_wide (n := n)).1 (wpIn_region_lit (wpListIn_pre' 2 ?_))
      simp only [List.take_succ_cons, List.take_zero, List.drop_succ_cons, List.drop_zero]
      go_wp2_with (first | ((with_reducible (show wpList _ _ _ (Oper.mk (some 12) _ _ _ _ _ :: _) _ _)); refine Hid.out ?_))
      refine Lib.hid ?_
      refine wpList_load_rowV rfl 42 (.tmp 4) rfl w2.heap.size rfl 5 _ _ (Y3.out) _ Tryz.underlying42 rfl (by kernel_rfl) ?_
      go_wp2_with fail
      unfold preQ
      dsimp only
      refine wpListIn_yield rfl (.tmp 11) #[.tmp 12] #[42] rfl l rfl #[liA z] rfl HYT.out ?_
      clear HYT Y3 J3
      rintro e w4 (⟨rfl, hJ4, hk4⟩ | ⟨rfl, hJx4⟩)
      · have J4 := Lib.hid hJ4
        have R4 : Hid (IM.Rng w4 b W.heap.size m L') := Lib.hid (by
          obtain ⟨es, clock, seen, h1, h2, h3, h4, h5⟩ := R3.out
          exact ⟨es, clock, seen, hk4.same b _ h1 rfl, h2, h3, hk4.same _ _ h4 rfl, h5⟩)
        clear hJ4 hk4 R3
        refine ⟨_, rfl, wpListIn_pre' 1 ?_⟩
        simp only [List.take_succ_cons, List.take_zero, List.drop_succ_cons, List.drop_zero]
        go_wp2_with fail
        unfold preQ
        dsimp only
        unfold wpListIn
        go_wp2_with fail
        go_roundg r.length
        case measure => have h1 := HG.out; have h2 := LEN.out; omega
        case rel => exact ⟨dn ++ [z], r, L', rfl, P2, L2, R4, J4⟩
      · refine ⟨_, rfl, wpListIn_pre' 1 ?_⟩
        simp only [List.take_succ_cons, List.take_zero, List.drop_succ_cons, List.drop_zero]
        have JX : Hid (∃ pre, Jx pre w4) := Lib.hid ⟨_, hJx4⟩
        clear hJx4 R3
        go_wp2_with fail
        unfold preQ
        dsimp only
        unfold wpListIn
        go_wp2_with fail
        refine bodyPost_ret (results_none rfl _ _ _) rfl ?_
        exact ⟨⟨_, rfl⟩, .inr JX.out⟩
end Go.Proofs.YtmmppibbglacdaaGreatDoor

namespace Go.Proofs.YtmmppibbglacdaaGreatDoor
open Go.RowKit Cod
theorem info_li : (Tryz.prog.info? 42).map (fun i => (i.zero, i.size, i.bytes)) = some (some (.agg #[.int .i64 0, .int .i64 0, .int .i64 0, .int .i64 0, .bool false]), 5, 40) := by kernel_rfl
abbrev OwnLi (w : World) (base : Nat) (v : Value) (l : List Li) : Prop := OwnT 42 5 liC w base v l
theorem ownFrom_row {β : Type} {B Bx n : Nat} {T : TypeId} {g : Nat → Value} : OwnFrom B (fun (_ : β) W => RowV W Bx T n g) := fun s W W' row hs hg hr => by
  refine (hg.block Bx hs.lt (fun e => ?_)).trans hs
  obtain ⟨o, ho, hc⟩ := (hr Bx e.symm).2
  rw [show W.heap[Bx]? = _ from hs] at ho
  cases ho; cases hc
theorem grown_below {W W' : World} (b : Below W.heap.size W W') : W.grownBy W' none := ⟨b.os, b.tape, b.output, b.size, fun k hk _ => b.block k hk⟩
theorem keepsFrom_below {B : Nat} {W W' : World} (b : Below W.heap.size W W') : KeepsFrom B W W' := ⟨b.size, fun k o _ hk _ => (b.block k (Array.getElem?_eq_some_iff.1 hk).1).trans hk⟩
theorem keepsWalks_below {W W' : World} (b : Below W.heap.size W W') : KeepsWalks W W' := ⟨b.size, fun k o hk _ => (b.block k (Array.getElem?_eq_some_iff.1 hk).1).trans hk⟩
theorem ownFrom_size {β : Type} (B n : Nat) : OwnFrom B (fun (_ : β) W => n ≤ W.heap.size) := fun s W W' row hs hg _ => Nat.le_trans hs hg.size
theorem own_cells {W : World} {base : Nat} {e : TypeId} {size : Nat} {v : Value} {k : Nat} {xs : List Value} (h : W.ownsRow base e size v k xs) : ∀ (j : Nat) (o : Obj), v.ownBlock = some j → W.heap[j]? = some o → o.isCells = true := by
  intro j o hj ho
  rcases h.2 with ⟨rfl, _⟩ | ⟨g, cap, cur, rfl, _, hgb, _⟩
  · simp [Value.ownBlock] at hj
  · have : g = j := by simpa [Value.ownBlock] using hj
    subst this; rw [hgb] at ho; cases ho; rfl
/-- what AppendSeq keeps: the box holds an own slice of what has come -/
def AppI (w : World) (n : Nat) (pre : List Li) (W : World) : Prop := (∃ v, Boxed W w.heap.size 39 v ∧ W.ownsRow w.heap.size 42 5 v pre.length (flatS 5 liC pre) ∧ True) ∧ (Below w.heap.size w W ∧ n ≤ W.heap.size)
theorem appI_own (w : World) (n B : Nat) (hB : w.heap.size ≤ B) : OwnFrom B (AppI w n) :=
  OwnFrom.and (Own.from (holdsRow_own (β := List Li) w.heap.size w.heap.size 39 42 5 (fun p => p.length) (fun p => flatS 5 liC p) (fun _ _ => True)) B) (OwnFrom.and (ownFrom_below (Nat.le_refl _) hB) (ownFrom_size B n))
set_option maxRecDepth 100000 in
set_option maxHeartbeats 8000000 in
theorem pappseq_any (B b : Nat) (x : List Li) (w : World) (hB : RowV w B 63 1 (fun _ => .map (some b))) (hm : MapV w b x) (hn : x.length ≤ 1000) :
    Calls Tryz.prog 103 #[.slice none 0 0, .func (.func 79) #[] #[.pointer (some ⟨B, 0, none⟩)]] w
      fun e w' => ∃ v l, e = .returned v ∧ l.Perm x ∧ OwnLi w' w.heap.size v l ∧ Below w.heap.size w w' := by
  have SQ := Lib.hid (vals_stops 4 B b x w hB hm)
  have HN := Lib.hid hn
  clear hB hm hn
  refine calls_of_marks Tryz.func103 rfl ?_
  simp only [Tryz.ntmps103, List.size_toArray, List.length_cons, List.length_nil, Nat.reduceAdd, Nat.reduceSub, Array.replicate_succ, Array.replicate_zero, List.push_toArray, List.append_toArray, List.nil_append, List.cons_append]
  go_wp2_with fail
  obtain ⟨w1, hw1⟩ : ∃ y, w.alloc (.cells #[.slice none 0 0] 39) = y := ⟨_, rfl⟩
  have hb1 : Below w.heap.size w w1 := by rw [← hw1]; exact (Below.refl _ w).alloc (Nat.le_refl _) _
  have hs1 : w.heap.size < w1.heap.size := by rw [← hw1, World.size_alloc]; omega
  have hbx : Boxed w1 w.heap.size 39 (.slice none 0 0) := by rw [← hw1]; exact Boxed.new w _ _
  rw [hw1]
  clear hw1
  have I0 : AppI w w1.heap.size [] w1 := ⟨⟨_, hbx, World.ownsRow_nil _ _ _ _, trivial⟩, hb1, Nat.le_refl _⟩
  refine (wpIn_wide (n := 5)).1 (wpIn_rangeFunc_ownH rfl (by decide) (gf := 79) (lb := #[.pointer (some ⟨B, 0, none⟩)]) rfl trivial (enters_of Tryz.func79 (by kernel_rfl) rfl) SQ.out walksK_t walksK_b hb1 (fun _ => rfl) (AppI w w1.heap.size) (fun _ _ _ => False) (appI_own w _ _ (Nat.le_of_lt hs1)) (fun _ _ _ _ _ h _ _ => h) I0 (fun z a' W => ∃ Bx, w1.heap.size ≤ Bx ∧ RowV W Bx 42 5 (liC z) ∧ a' = { tmps := #[.slice none 0 0, .func (.func 79) #[] #[.pointer (some ⟨B, 0, none⟩)], .pointer (some ⟨w.heap.size, 0, none⟩), undef, .slice none 0 0, .pointer (some ⟨Bx, 0, none⟩), .func (.func 79) #[] #[.pointer (some ⟨B, 0, none⟩)], liA z, undef, undef, undef, undef, undef], defers := [] }) ?hAx ?assign ?body ?done ?stop)
  case hAx =>
    intro z a' s W W' row hs hg hr
    obtain ⟨Bx, h1, h2, h3⟩ := hs
    exact ⟨Bx, h1, ownFrom_row (β := Unit) (B := w1.heap.size) () W W' row h2 hg hr, h3⟩
  case assign =>
    intro l pre z W K hI hK
    refine wpIn_region_of (fun ⟨_, _, h⟩ => h) rfl ?_
    have HI := Lib.hid hI
    have HK := Lib.hid hK
    have LE := Lib.hid hI.2.2
    clear hI hK
    have Zr := Lib.hid (RowV.new W 42 5 (liC li0))
    go_wp2_with (first | ((with_reducible (show wpList _ _ _ (Oper.mk none _ _ _ _ _ :: _) _ _)); refine Hid.out ?_))
    refine Lib.hid ?_
    refine wpList_store_rowV rfl 42 (.tmp 5) (.tmp 7) rfl W.heap.size rfl 5 _ _ _ rfl (Zr.out) (by kernel_rfl) (fun j _ => liC_one _ j) ?_
    intro w2 X2 O2
    have b2 : Below W.heap.size W w2 := ((Below.refl _ _).alloc (Nat.le_refl _) _).trans (O2.out.below (Nat.le_refl _) (by rw [World.size_alloc]; omega))
    show K _ _
    exact HK.out _ w2 (keepsFrom_below b2) (keepsWalks_below b2) (appI_own w _ _ (Nat.le_of_lt hs1) pre W w2 none HI.out (grown_below b2) (fun r e => by cases e)) ⟨W.heap.size, LE.out, X2.out, rfl⟩
  case body =>
    rintro l pre z a' W hl hr hI ⟨Bx, hBx, hX, rfl⟩ hlen
    refine wpIn_block (wpIn_region_of (fun ⟨_, _, h⟩ => h) rfl ?_)
    obtain ⟨⟨v, hv, hown, _⟩, hB, hn⟩ := hI
    have x0 := hv.cell
    have HX := Lib.hid hX
    have HV := Lib.hid hv
    have HO : Hid (OwnLi W w.heap.size v pre) := Lib.hid hown
    have HB := Lib.hid hB
    have HNW := Lib.hid hn
    have LX := Lib.hid hX.lt
    have HLEN := Lib.hid hlen
    have HBX := Lib.hid hBx
    have HS1 := Lib.hid hs1
    clear hX hv hown hB hn hlen hl hr hBx hs1 I0 hb1 hbx
    go_wp2_with (first | ((with_reducible (show wpList _ _ _ (Oper.mk (some 9) _ _ _ _ _ :: _) _ _)); refine Hid.out ?_))
    refine Lib.hid ?_
    refine wpList_load_rowV rfl 42 (.tmp 5) rfl Bx rfl 5 _ _ (HX.out) _ Tryz.underlying42 rfl (by kernel_rfl) ?_
    clear x0
    have hsz : (rowF 5 (liC z)).size = 5 := rowF_size _ _
    go_wp2_with (first | ((with_reducible (show wpList _ _ _ (Oper.mk (some 11) _ _ _ _ _ :: _) _ _)); refine Hid.out ?_))
    refine Lib.hid ?_
    rw [fold_li]
    have b2 : Below W.heap.size W (W.alloc (.cells (rowF 5 (liC z)) 42)) := (Below.refl _ _).alloc (Nat.le_refl _) _
    have R2 := Lib.hid (RowV.new W 42 5 (liC z))
    obtain ⟨w2, hw2⟩ : ∃ y, W.alloc (.cells (rowF 5 (liC z)) 42) = y := ⟨_, rfl⟩
    rw [hw2] at b2 R2 ⊢
    have O2 := Lib.hid (HO.out.below b2)
    have V2 := Lib.hid (HV.out.kept (grown_below b2) (fun e => by cases e))
    have B2 := Lib.hid b2
    clear hw2 b2 hsz
    refine wpList_app_T rfl (.tmp 8) (.tmp 10) info_li Tryz.underlying39 rfl (by decide) (by decide) (fun u j => liC_one u j) li0 rfl w.heap.size v pre rfl O2.out W.heap.size 1 [z] rfl (fun i hi j hj => by
      obtain rfl : i = 0 := by simp at hi; exact hi
      rw [Nat.mul_zero, Nat.zero_add]
      exact R2.out.cell hj) (by have h1 := HLEN.out; have h2 := HN.out; show pre.length + 1 ≤ 1000000; omega) (Nat.le_trans HB.out.size B2.out.size) ?_
    intro v3 w3 O3 s3
    obtain ⟨va, vc, rfl⟩ := O3.out.slice
    rw [show (pre ++ [z]).length = pre.length + 1 from by simp] at O3 s3 ⊢
    have V3 := Lib.hid (V2.out.kept s3.out.1 (V2.out.not_row (by decide) O2.out))
    have N3 := Lib.hid (V3.out.not_row (by decide) O3.out)
    have x1 := V3.out.cell
    have f1 := V3.out.frozen
    have KO : Hid (KeepsFrom w1.heap.size W w3) := Lib.hid ((keepsFrom_below B2.out).trans ((KeepsOthers.of_grownBy s3.out.1 (fun j o e ho => own_cells O2.out j o e ho)).from _))
    have KW : Hid (KeepsWalks W w3) := Lib.hid ((keepsWalks_below B2.out).trans (KeepsOthers.of_grownBy s3.out.1 (fun j o e ho => own_cells O2.out j o e ho)).walks)
    have B3 : Hid (Below w.heap.size w w3) := Lib.hid ((HB.out.trans (B2.out.mono HB.out.size)).grown s3.out.1 (Nat.le_trans HB.out.size B2.out.size) (fun k e => (O2.out.lt k e).1))
    have N4 : Hid (w1.heap.size ≤ w3.heap.size) := Lib.hid (Nat.le_trans HNW.out KO.out.size)
    clear R2 O2 V2 B2 s3 HV HO HB
    go_wp2_with fail
    have ko := KeepsOthers.setCell w3 ⟨w.heap.size, 0, none⟩ (.slice va (pre.length + 1) vc)
    have ob := (OnlyB.refl w.heap.size w3).setCell (p := ⟨w.heap.size, 0, none⟩) (.inl rfl) (.slice va (pre.length + 1) vc)
    refine ⟨KO.out.trans (ko.from _), KW.out.trans ko.walks, ⟨_, V3.out.set _, O3.out.only ob (fun b hb e => N3.out (by rw [hb, e])), trivial⟩, B3.out.trans (ob.below (Nat.le_refl _) B3.out.size), Nat.le_trans N4.out ko.size⟩
  case done =>
    intro D xs W hD hS hI hK
    obtain ⟨⟨v, hv, hown, _⟩, hB, _⟩ := hI
    have x0 := hv.cell
    have HD := Lib.hid hK
    have HL := Lib.hid (show w.heap.size ≤ D from Nat.le_trans (Nat.le_of_lt hs1) hD)
    have HO := Lib.hid hown
    have HB := Lib.hid hB
    have HS := Lib.hid hS
    clear hv hown hB hS hK hD
    go_wp2_with fail
    have hK := HD.out
    have DL := (Array.getElem?_eq_some_iff.1 hK).1
    refine ⟨by simp, .inl ⟨_, _, rfl, run_takeDeferred hK, ?_⟩⟩
    refine ⟨_, results_tmp rfl _ _ _, v, xs, rfl, HS.out, ownsRow_putObj HO.out _ hK rfl, HB.out.grown (grownBy_putObj' _ _ _) HB.out.size (fun k e => by cases e; exact HL.out)⟩
  case stop => intro D c pre W _ _ h _; exact h.elim
set_option maxHeartbeats 8000000 in
theorem pcollect_any (B b : Nat) (x : List Li) (w : World) (hB : RowV w B 63 1 (fun _ => .map (some b))) (hm : MapV w b x) (hn : x.length ≤ 1000) :
    Calls Tryz.prog 77 #[.func (.func 79) #[] #[.pointer (some ⟨B, 0, none⟩)]] w
      fun e w' => ∃ v l, e = .returned v ∧ l.Perm x ∧ OwnLi w' w.heap.size v l ∧ Below w.heap.size w w' := by
  have C := Lib.hid (pappseq_any B b x w hB hm hn)
  clear hB hm hn
  go_enter Tryz.func77, Tryz.ntmps77
  go_wp2_with fail
  refine C.out.mono ?_
  rintro e w1 ⟨v, l, rfl, h1, h2, h3⟩
  have H1 := Lib.hid h1
  have H2 := Lib.hid h2
  have H3 := Lib.hid h3
  clear h1 h2 h3 C
  go_wp2_with fail
  go_ret
  exact ⟨v, l, rfl, H1.out, H2.out, H3.out⟩
/-- an own slice of listings, as a row -/
theorem OwnLi.row {w : World} {base : Nat} {v : Value} {l : List Li} (h : OwnLi w base v l) (h0 : l ≠ []) : ∃ g cap N, v = .slice (some ⟨g, 0, none⟩) l.length cap ∧ l.length ≤ cap ∧ base ≤ g ∧ (cap : Int) ≤ 9223372036854775807 ∧ LiB w g N l.length (fun i => l.getD i li0) := by
  have hs := h.at' li0 (by decide) (by decide)
  obtain ⟨_, h2⟩ := h
  rcases h2 with ⟨_, h1⟩ | ⟨g, cap, cur, h1, h3, h4, h5, h6, h7, h8⟩
  · exact absurd (List.eq_nil_of_length_eq_zero h1) h0
  · refine ⟨g, cap, cap * 5, h1, h5, h3, ?_, by omega, fun i => cur.getD i undef, ?_, ?_⟩
    · unfold maxLen at h6; omega
    · show w.heap[g]? = some (.cells (rowF (cap * 5) fun i => cur.getD i undef) 42 (0, 0))
      rw [h4]
      congr 2
      apply Array.ext
      · rw [rowF_size, h7]
      · intro i h1 h2
        simp [rowF, h1]
    · intro i hi c hc
      have e := flatS_get (s := 5) (c := liC) li0 l i c hi hc
      rw [← h8, List.getElem?_take_of_lt (by omega)] at e
      show cur.getD (5 * i + c) undef = _
      rw [Array.getD_eq_getD_getElem?, ← Array.getElem?_toList, e]; rfl
theorem LiB.sl {w : World} {g N n cap : Nat} {f : Nat → Li} (h : LiB w g N n f) (h0 : 0 < n) (hn : n ≤ 1000) (hc : n ≤ cap) (hc2 : (cap : Int) ≤ 9223372036854775807) : SlAt 5 w (.slice (some ⟨g, 0, none⟩) n cap) n (fun i => liC ((lst f n).getD i li0)) := by
  obtain ⟨h1, q, h2, h3⟩ := h
  refine .inr ⟨g, 0, cap, rfl, hc, h0, ⟨by omega, hc2⟩, h2.lt, fun i hi j hj => ?_⟩
  rw [Nat.zero_add, h2.cell (by omega), h3 i hi j hj]
  congr 2
  simp [lst, hi]
theorem SlAt.only {s n b : Nat} {c : Nat → Nat → Value} {w w' : World} {u : Value} (h : SlAt s w u n c) (hs : 0 < s) {m : List (Int × Value)} (hm : IM.At w b m) (o : OnlyB b w w') : SlAt s w' u n c := by
  rcases h with h | ⟨g, off, cap, h1, h2, h3, h4, h5, h6⟩
  · exact .inl h
  · have hne : g ≠ b := by
      intro e
      subst e
      obtain ⟨es, cl, hb, _⟩ := hm
      have := h6 0 h3 0 hs
      simp [World.cell?, hb] at this
    exact .inr ⟨g, off, cap, h1, h2, h3, h4, Nat.lt_of_lt_of_le h5 o.size, fun i hi j hj => (o.cell (p := ⟨g, off + s * i + j, none⟩) h5 hne).trans (h6 i hi j hj)⟩
set_option maxHeartbeats 8000000 in
theorem psorted_any (B b : Nat) (x : List Li) (w : World) (hB : RowV w B 63 1 (fun _ => .map (some b))) (hm : MapV w b x) (hn : x.length ≤ 12) (h0 : x ≠ []) (hr : ∀ z ∈ x, 0 ≤ z.d ∧ z.d ≤ 1000) :
    Calls Tryz.prog 44 #[.func (.func 79) #[] #[.pointer (some ⟨B, 0, none⟩)], .func (.func 46) #[] #[]] w
      fun e w' => ∃ v, ∃ l : List Li, e = .returned v ∧ l.Perm x ∧ l.Pairwise (fun a b => a.d ≤ b.d) ∧ SlAt 5 w' v l.length (fun i => liC (l.getD i li0)) ∧ Below w.heap.size w w' := by
  have C := Lib.hid (pcollect_any B b x w hB hm (by omega))
  have HN := Lib.hid hn
  have H0 := Lib.hid h0
  have HR := Lib.hid hr
  clear hB hm hn h0 hr
  go_enter Tryz.func44, Tryz.ntmps44
  go_wp2_with fail
  refine C.out.mono ?_
  rintro e w1 ⟨v, l, rfl, h1, h2, h3⟩
  have hl : l ≠ [] := fun e => H0.out (by subst e; exact h1.symm.eq_nil)
  obtain ⟨g, cap, N, rfl, q1, q2, q3, q4⟩ := OwnLi.row h2 hl
  have hlen : l.length ≤ 12 := by rw [h1.length_eq]; exact HN.out
  have S := Lib.hid (psort_any g cap N l.length (fun i => l.getD i li0) w1 q4 hlen q1 (fun i hi => HR.out _ (h1.mem_iff.1 (by rw [List.getD_eq_getElem?_getD, List.getElem?_eq_getElem hi]; exact List.getElem_mem hi))))
  have HP := Lib.hid h1
  have HB := Lib.hid h3
  have Q1 := Lib.hid q1
  have Q2 := Lib.hid q2
  have Q3 := Lib.hid q3
  have Q0 := Lib.hid (show 0 < l.length from List.length_pos_iff.2 hl)
  have QL := Lib.hid hlen
  clear h1 h2 h3 hl q1 q2 q3 q4 hlen C HN H0 HR
  go_wp2_with fail
  refine S.out.mono ?_
  rintro e w2 ⟨rfl, hO, f', g1, g2, g3⟩
  have G1 := Lib.hid (g1.sl Q0.out (Nat.le_trans QL.out (by decide)) Q1.out Q3.out)
  have G2 := Lib.hid g2
  have G3 := Lib.hid g3
  have GO := Lib.hid hO
  clear g1 g2 g3 hO S
  go_wp2_with fail
  go_ret
  exact ⟨_, lst f' l.length, rfl, (G2.out.trans (by rw [lst_getD])).trans HP.out, srted_pairwise G3.out, by have h := G1.out; rwa [show (lst f' l.length).length = l.length by simp], HB.out.trans (GO.out.below Q2.out HB.out.size)⟩
end Go.Proofs.YtmmppibbglacdaaGreatDoor

namespace Go.Proofs.YtmmppibbglacdaaGreatDoor
open Go.RowKit Cod
theorem has_find {ps : List Pe} {z : Int} : hasB ps z = (findP ps z).isSome := by
  unfold hasB findP
  rw [Bool.eq_iff_iff, List.find?_isSome]
  simp
set_option maxRecDepth 100000 in
set_option maxHeartbeats 8000000 in
theorem rfind37_any (ps : List Pe) (us : Nat → Sv) (v : Value) (z : Int) (w : World) (h : SlAt 5 w v ps.length (fun i => peC (ps.getD i pe0) (us i))) (hn : ps.length ≤ 1000) :
    Calls Tryz.prog 39 #[v, .int .i64 z] w (PidxPost ps z w) := by
  obtain ⟨la, lc, rfl⟩ := h.slice
  have FY : Hid (∀ k w', (∀ i, i < k → ¬ (ps.getD i pe0).i = z) → k < ps.length → (ps.getD k pe0).i = z → Below w.heap.size w w' → PidxPost ps z w (.returned (.int .i64 (k : Int))) w') := Lib.hid (fun k w' h1 h2 h3 b => ⟨.inl ⟨k, h2, rfl, fndP_yes h1 h2 h3⟩, b⟩)
  have FN : Hid (∀ w', (∀ i, i < ps.length → ¬ (ps.getD i pe0).i = z) → Below w.heap.size w w' → PidxPost ps z w (.returned (.int .i64 (-1))) w') := Lib.hid (fun w' h1 b => ⟨.inr ⟨rfl, fndP_no h1⟩, b⟩)
  obtain ⟨n, hln⟩ : ∃ y, ps.length = y := ⟨_, rfl⟩
  have HN := Lib.hid hln
  have H0 : Hid (SlAt 5 w (.slice la n lc) n (fun i => peC (ps.getD i pe0) (us i))) := Lib.hid (by rw [← hln]; exact h)
  have qn : (n : Int) ≤ 1000 := by omega
  rw [hln] at FY FN ⊢
  clear h hn hln
  go_enter Tryz.func39, Tryz.ntmps39
  go_wp2_with fail
  go_loopg [5] n (fun g s5 wx => ∃ k : Nat, k + g = n ∧ s5 = .int .i64 (k : Int) ∧ Hid (∀ i, i < k → ¬ (ps.getD i pe0).i = z) ∧ w = wx)
  case atStart => exact ⟨0, by omega, rfl, Lib.hid (fun i hi => by omega), rfl⟩
  case round =>
    obtain ⟨k, hk, rfl, hA, rfl⟩ := hrel
    have q0 : (0 : Int) ≤ (k : Int) := Int.natCast_nonneg k
    by_cases hlt : k < n
    · have d0 : decide ((k : Int) < (n : Int)) = true := by rw [decide_eq_true_iff]; omega
      have d1 : decide (k < n) = true := by rw [decide_eq_true_iff]; omega
      have p2 : (k : Int) < (n : Int) := by omega
      obtain ⟨b, off, rfl, hcap, hb, hc⟩ := SlAt.at_elem (s := 5) (n := n) (a := la) (k := lc) (c := fun i => peC (ps.getD i pe0) (us i)) H0.out hlt
      have HLT := Lib.hid hlt
      have x0 : w.cell? ⟨b, off + k * 5, none⟩ = some (.int .i64 (ps.getD k pe0).i) := by have := hc k hlt 0 (by decide); rwa [Nat.mul_comm 5 k, Nat.add_zero] at this
      obtain ⟨y, hy⟩ : ∃ y, (ps.getD k pe0).i = y := ⟨_, rfl⟩
      rw [hy] at x0
      have HY := Lib.hid hy
      have p1 : (k : Int) + 1 ≤ 1000 := by omega
      clear hc hcap hb hy hlt
      by_cases he : y = z
      · have e1 : (y == z) = true := by rw [beq_iff_eq]; exact he
        have F := Lib.hid (FY.out k w hA.out HLT.out (by rw [HY.out]; exact he) (Below.refl _ _))
        clear he hA
        go_wp2_with fail
        go_ret
        exact F.out
      · have e1 : (y == z) = false := by rw [beq_eq_false_iff_ne]; exact he
        have A2 : Hid (∀ i, i < k + 1 → ¬ (ps.getD i pe0).i = z) := Lib.hid (fun i hi => by
          by_cases e : i = k
          · subst e; rw [HY.out]; exact he
          · exact hA.out i (by omega))
        clear he hA
        go_wp2_with fail
        go_roundg (n - (k + 1))
        case measure => have := HLT.out; omega
        case rel =>
          go_light
          exact ⟨k + 1, by have := HLT.out; omega, by go_num, A2, rfl⟩
    · have d0 : decide ((k : Int) < (n : Int)) = false := by rw [decide_eq_false_iff_not]; omega
      have d1 : decide (k < n) = false := by rw [decide_eq_false_iff_not]; omega
      have F := Lib.hid (FN.out w (fun i hi => hA.out i (by omega)) (Below.refl _ _))
      clear hA
      go_wp2_with fail
      go_ret
      exact F.out
theorem rfind_sign (ps : List Pe) (us : Nat → Sv) (v : Value) (z : Int) (w : World) (h : SlAt 5 w v ps.length (fun i => peC (ps.getD i pe0) (us i))) (hn : ps.length ≤ 1000) :
    Calls Tryz.prog 39 #[v, .int .i64 z] w fun e w' => ∃ r : Int, e = .returned (.int .i64 r) ∧ decide (r < 0) = !hasB ps z ∧ Below w.heap.size w w' := by
  refine (rfind37_any ps us v z w h hn).mono fun e w' hp => ?_
  rw [has_find]
  obtain ⟨h1 | h1, b⟩ := hp
  · obtain ⟨k, _, e1, e2⟩ := h1
    refine ⟨_, e1, ?_, b⟩
    rw [e2, decide_eq_false (by omega)]; rfl
  · refine ⟨_, h1.1, ?_, b⟩
    rw [h1.2]; rfl
theorem cnt_zero {p : Pe} (h : p.gs.length = 0) : cntB p = decide (p.n = 0) := by
  unfold cntB
  rw [h]
  rw [Bool.eq_iff_iff]
  simp only [Bool.and_eq_true, Bool.not_eq_true', decide_eq_false_iff_not, decide_eq_true_iff]
  constructor
  · rintro ⟨_, h1, h2⟩
    have : min (((0 : Nat) : Int)) 1 = 0 := by decide
    rw [this] at h1
    omega
  · intro h1
    refine ⟨by decide, ?_, ?_⟩
    · rw [h1]; decide
    · rw [h1]; decide
theorem cnt_pos {p : Pe} (h : 0 < p.gs.length) : cntB p = (!decide (16 < (p.gs.length : Int)) && (!decide (p.n < 1) && !decide ((p.gs.length : Int) < p.n))) := by
  unfold cntB
  rw [show min (p.gs.length : Int) 1 = 1 by omega]
set_option maxRecDepth 100000 in
set_option maxHeartbeats 16000000 in
theorem rguards_any (ps : List Pe) (us : Nat → Sv) (v : Value) (p : Pe) (s : Sv) (w : World) (h : SlAt 5 w v ps.length (fun i => peC (ps.getD i pe0) (us i))) (hn : ps.length ≤ 1000) (hs : s.n = p.gs.length) (hg : IntsS w (.slice s.a s.n s.k) p.gs) :
    Calls Tryz.prog 25 #[v, .agg (rowF 5 (peC p s))] w fun e w' => e = .returned (.bool (cntB p && allB (grdB ps p) p.gs.length)) ∧ Below w.heap.size w w' := by
  have HP := Lib.hid h
  have FI := Lib.hid (fun z W (h : SlAt 5 W v ps.length (fun i => peC (ps.getD i pe0) (us i))) => rfind_sign ps us v z W h hn)
  obtain ⟨va, vc, rfl⟩ := h.slice
  obtain ⟨n, hpn⟩ : ∃ y, ps.length = y := ⟨_, rfl⟩
  rw [hpn] at HP FI ⊢
  obtain ⟨sa, sn, sc⟩ := s
  obtain ⟨m, hm⟩ : ∃ y, p.gs.length = y := ⟨_, rfl⟩
  obtain rfl : sn = m := hs.trans hm
  have mlen := hg.len_le
  rw [hm] at mlen
  have HI : Hid (IntsS w (.slice sa sn sc) p.gs) := Lib.hid hg
  have HM := Lib.hid hm
  have CZ := Lib.hid (fun (h : sn = 0) => cnt_zero (p := p) (by omega))
  have CP : Hid (0 < sn → cntB p = (!decide (16 < (sn : Int)) && (!decide (p.n < 1) && !decide ((sn : Int) < p.n)))) := Lib.hid (fun h => by rw [cnt_pos (by omega), hm])
  obtain ⟨cb, hcb⟩ : ∃ y, cntB p = y := ⟨_, rfl⟩
  rw [hcb] at CZ CP ⊢
  rw [hm]
  have sn0 : (0 : Int) ≤ (sn : Int) := Int.natCast_nonneg sn
  obtain ⟨pn, hpn2⟩ : ∃ y, p.n = y := ⟨_, rfl⟩
  obtain ⟨pi, hpi⟩ : ∃ y, p.i = y := ⟨_, rfl⟩
  rw [hpn2] at CZ CP
  have HPN := Lib.hid hpn2
  have HPI := Lib.hid hpi
  obtain ⟨rb, hrb⟩ : ∃ y, (cb && allB (grdB ps p) sn) = y := ⟨_, rfl⟩
  rw [hrb]
  have HR := Lib.hid hrb
  clear h hn hs hg hm hcb hpn hpn2 hpi hrb
  go_enter Tryz.func25, Tryz.ntmps25
  have B0 := Lib.hid (Below.refl w.heap.size w)
  go_upto_region 1 with fail
  obtain ⟨w1, hw1⟩ : ∃ y, w.alloc (.cells (rowF 5 (peC p ⟨sa, sn, sc⟩)) 50) = y := ⟨_, rfl⟩
  have b1 : Below w.heap.size w w1 := by rw [← hw1]; exact (Below.refl _ _).alloc (Nat.le_refl _) _
  have X1 : Hid (RowV w1 w.heap.size 50 5 (peC p ⟨sa, sn, sc⟩)) := Lib.hid (by rw [← hw1]; exact RowV.new w _ 5 (peC p ⟨sa, sn, sc⟩))
  have z1 : w.heap.size + 1 = w1.heap.size := by rw [← hw1]; exact (Array.size_push _).symm
  rw [hw1]
  (try rw [z1])
  have B1 := Lib.hid (B0.out.trans (b1.mono B0.out.size))
  clear b1 hw1 z1 B0
  have x2 : w1.cell? ⟨w.heap.size, 2, none⟩ = some (.slice sa sn sc) := pe_cell X1.out (i := 2) (by decide)
  have x3 : w1.cell? ⟨w.heap.size, 3, none⟩ = some (.int .i64 p.n) := pe_cell X1.out (i := 3) (by decide)
  rw [HPN.out] at x3
  go_upto_region 2 with fail
  go_cut [35] from 7 to 76 (fun s35 wx => s35 = .bool (!cb) ∧ w1 = wx)
  case first =>
    by_cases h0 : sn = 0
    · subst h0
      have e := Lib.hid (CZ.out rfl)
      clear CZ CP
      cases hp0 : (pn == 0)
      · obtain rfl : cb = false := by rw [e.out, decide_eq_false (by rw [beq_eq_false_iff_ne] at hp0; exact hp0)]
        have hp1 : (pn != 0) = true := by rw [bne, hp0]; rfl
        go_wp2_with fail
        go_meet
        exact ⟨rfl, rfl⟩
      · obtain rfl : cb = true := by rw [e.out, decide_eq_true (by rw [beq_iff_eq] at hp0; exact hp0)]
        have hp1 : (pn != 0) = false := by rw [bne, hp0]; rfl
        go_wp2_with fail
        go_meet
        exact ⟨rfl, rfl⟩
    · have e := Lib.hid (CP.out (by omega))
      have e0 : ((sn : Int) == 0) = false := by rw [beq_eq_false_iff_ne]; omega
      have e1 : (sn == 0) = false := by rw [beq_eq_false_iff_ne]; exact h0
      have e2 : decide ((0 : Int) < (sn : Int)) = true := by rw [decide_eq_true_iff]; omega
      have e3 : decide (0 < sn) = true := by rw [decide_eq_true_iff]; omega
      clear CZ CP h0
      cases n0 : decide (16 < (sn : Int))
      · have n0' : decide (16 < sn) = false := by have := of_decide_eq_false n0; rw [decide_eq_false_iff_not]; omega
        cases n1 : decide (pn < 1)
        · cases n2 : decide ((sn : Int) < pn)
          · obtain rfl : cb = true := by rw [e.out, n0, n1, n2]; rfl
            go_wp2_with fail
            go_meet
            exact ⟨rfl, rfl⟩
          · obtain rfl : cb = false := by rw [e.out, n0, n1, n2]; rfl
            go_wp2_with fail
            go_meet
            exact ⟨rfl, rfl⟩
        · obtain rfl : cb = false := by rw [e.out, n0, n1]; rfl
          go_wp2_with fail
          go_meet
          exact ⟨rfl, rfl⟩
      · have n0' : decide (16 < sn) = true := by have := of_decide_eq_true n0; rw [decide_eq_true_iff]; omega
        obtain rfl : cb = false := by rw [e.out, n0]; rfl
        go_wp2_with fail
        go_meet
        exact ⟨rfl, rfl⟩
  case rest =>
    obtain ⟨rfl, rfl⟩ := hcut
    clear x2 x3 CZ CP
    cases cb
    · obtain rfl : rb = false := by rw [← HR.out]; rfl
      go_wp2_with fail
      go_ret
      exact ⟨rfl, B1.out⟩
    go_wp2_with fail
    go_loopg [6] sn (fun gh s6 wx => ∃ j : Nat, j + gh = sn ∧ s6 = .int .i64 (j : Int) ∧ Hid (∀ i, i < j → grdB ps p i = true) ∧ Hid (RowV wx w.heap.size 50 5 (peC p ⟨sa, sn, sc⟩)) ∧ Hid (Below w.heap.size w wx))
    case atStart => exact ⟨0, by omega, rfl, Lib.hid (fun i hi => by omega), X1, B1⟩
    case round =>
      clear X1 B1
      obtain ⟨j, hj, rfl, hG, hX, hB⟩ := hrel
      obtain ⟨w2, rfl⟩ : ∃ y, y = wr := ⟨_, rfl⟩
      have q1 : (0 : Int) ≤ (j : Int) := Int.natCast_nonneg j
      by_cases hlt : j < sn
      · have d0 : decide ((j : Int) < (sn : Int)) = true := by rw [decide_eq_true_iff]; omega
        have d1 : decide (j < sn) = true := by rw [decide_eq_true_iff]; omega
        have j1 : (j : Int) < (sn : Int) := by omega
        have j9 : IntKind.i64.wrap ((j : Int) + 1) = (j : Int) + 1 := IntWalk.i64_in _ (by omega)
        obtain ⟨gb, go, rfl, hcap, hgb, hgc⟩ := SlAt.at_elem (s := 1) (n := sn) (a := sa) (k := sc) (c := fun i _ => .int .i64 (p.gs.getD i 0)) (by have h := HI.out; unfold IntsS at h; rw [HM.out] at h; exact h) hlt
        have HJ := Lib.hid hlt
        have XL := Lib.hid hX.out.lt
        have GB : Hid (gb < w2.heap.size) := Lib.hid (Nat.lt_of_lt_of_le hgb hB.out.size)
        have X0 : Hid (w2.cell? ⟨w.heap.size, 0, none⟩ = some (.int .i64 pi)) := Lib.hid (by rw [← HPI.out]; exact pe_cell hX.out (i := 0) (by decide))
        have X2 : Hid (w2.cell? ⟨w.heap.size, 2, none⟩ = some (.slice (some ⟨gb, go, none⟩) sn sc)) := Lib.hid (pe_cell hX.out (i := 2) (by decide))
        have Y0 : Hid (w2.cell? ⟨gb, go + j, none⟩ = some (.int .i64 (p.gs.getD j 0))) := Lib.hid ((hB.out.cell (p := ⟨gb, go + j, none⟩) hgb).trans (by have := hgc j hlt 0 (by decide); rwa [Nat.one_mul, Nat.add_zero] at this))
        have YP : Hid (∀ t, j = t + 1 → w2.cell? ⟨gb, go + t, none⟩ = some (.int .i64 (p.gs.getD t 0))) := Lib.hid (fun t ht => (hB.out.cell (p := ⟨gb, go + t, none⟩) hgb).trans (by have := hgc t (by omega) 0 (by decide); rwa [Nat.one_mul, Nat.add_zero] at this))
        have GJ : Hid (grdB ps p j = (!decide (p.gs.getD j 0 = pi) && (hasB ps (p.gs.getD j 0) && (decide (j = 0) || !decide (p.gs.getD j 0 ≤ p.gs.getD (j - 1) 0))))) := Lib.hid (by unfold grdB; rw [HPI.out])
        have GA : Hid (∀ b, grdB ps p j = b → b = false → allB (grdB ps p) sn = false) := Lib.hid (fun b h1 h2 => allB_false hlt (h1.trans h2))
        obtain ⟨z, hz⟩ : ∃ y, p.gs.getD j 0 = y := ⟨_, rfl⟩
        rw [hz] at Y0 GJ
        obtain ⟨gj, hgj⟩ : ∃ y, grdB ps p j = y := ⟨_, rfl⟩
        rw [hgj] at GJ
        have HGJ := Lib.hid hgj
        have FZ := Lib.hid (fun W (h : Below w.heap.size w W) => FI.out z W (HP.out.below h))
        obtain ⟨hb, hhb⟩ : ∃ y, hasB ps z = y := ⟨_, rfl⟩
        rw [hhb] at GJ FZ
        clear hz hgj hgc hcap hgb hlt hhb
        go_upto_region 7 with fail
        clear d0 d1
        go_cut [76] from 36 to 76 (fun s76 wx => s76 = .bool (!gj) ∧ Hid (Below w2.heap.size w2 wx))
        case first =>
          by_cases hzp : z = pi
          · have e1 : (z == pi) = true := by rw [beq_iff_eq]; exact hzp
            obtain rfl : gj = false := by rw [GJ.out, hzp]; simp
            clear hzp
            clear GJ GA HGJ hG
            refine Tc.wp_region_plan (keep w2.heap.size) 36 [] (.fl 0 (.fl 1 (.fl 2 (.fl 3 (.fl 4 (.fl 5 (.fl 6 (.fl 7 (.fl 8 (.fl 9 (.fl 10 (.fl 11 (.fl 12 (.fl 13 (.fl 14 (.one 15 (.fl 16 (.fl 17 (.fl 18 (.fl 19 (.fl 20 (.fl 21 (.fl 22 (.fl 23 (.fl 24 (.fl 25 (.fl 26 (.fl 27 (.fl 28 (.fl 29 (.fl 30 (.fl 31 (.fl 32 (.fl 33 (.fl 34 (.fl 35 .done)))))))))))))))))))))))))))))))))))) (by kernel_rfl) (by kernel_rfl) ?_
            intro w3 b3 e3
            have BB3 : Hid (Below w2.heap.size w2 w3) := Lib.hid b3
            clear b3 e3
            refine Tc.plan_floats [0, 1, 2, 3, 4, 5, 6, 7, 8, 9, 10, 11, 12, 13, 14] [_, _, _, _, _, _, _, _, _, _, _, _, _, _, _] rfl ?_
            dsimp only [List.getElem_toArray, List.getElem_cons_succ, List.getElem_cons_zero]
            repeat (first | go_big_quiet_skip | (go_big_quiet_want; go_big_quiet_op; first | go_big_quiet_on | (refine ⟨_, fun _ _ => rfl, ?_⟩; go_big_quiet_on)))
            refine wpQuiet_load_cell rfl 35 (.tmp 41) rfl w.heap.size 2 rfl _ Tryz.underlying35 rfl (.slice (some ⟨gb, go, none⟩) sn sc) (fun W hW => cell_keep (n := w2.heap.size) ((BB3.out.cell (p := ⟨w.heap.size, 2, none⟩) XL.out).trans X2.out) (XL.out) hW) ?_
            simp only [Act.put, List.setIfInBounds_toArray, List.set_cons_succ, List.set_cons_zero]
            repeat (first | go_big_quiet_skip | (go_big_quiet_want; go_big_quiet_op; first | go_big_quiet_on | (refine ⟨_, fun _ _ => rfl, ?_⟩; go_big_quiet_on)))
            refine wpQuiet_load_cell rfl 3 (.tmp 44) rfl gb (go + j) rfl _ Tryz.underlying3 rfl (.int .i64 z) (fun W hW => cell_keep (n := w2.heap.size) ((BB3.out.cell (p := ⟨gb, (go + j), none⟩) GB.out).trans Y0.out) (GB.out) hW) ?_
            simp only [Act.put, List.setIfInBounds_toArray, List.set_cons_succ, List.set_cons_zero]
            repeat (first | go_big_quiet_skip | (go_big_quiet_want; go_big_quiet_op; first | go_big_quiet_on | (refine ⟨_, fun _ _ => rfl, ?_⟩; go_big_quiet_on)))
            refine wpQuiet_load_cell rfl 3 (.tmp 46) rfl w.heap.size 0 rfl _ Tryz.underlying3 rfl (.int .i64 pi) (fun W hW => cell_keep (n := w2.heap.size) ((BB3.out.cell (p := ⟨w.heap.size, 0, none⟩) XL.out).trans X0.out) (XL.out) hW) ?_
            simp only [Act.put, List.setIfInBounds_toArray, List.set_cons_succ, List.set_cons_zero]
            repeat (first | go_big_quiet_skip | (go_big_quiet_want; go_big_quiet_op; first | go_big_quiet_on | (refine ⟨_, fun _ _ => rfl, ?_⟩; go_big_quiet_on)))
            refine wpQuiet_nil ?_
            refine Tc.plan_one 15 rfl (fun K hK => ?_)
            refine wpList_pass rfl ?_
            refine hK _ _ (keep_below (Below.refl _ _)) ?_
            clear hK K
            (try dsimp only [Act.put])
            refine Tc.plan_floats [16, 17, 18, 19, 20, 21, 22, 23, 24, 25, 26, 27, 28, 29, 30, 31, 32, 33, 34, 35] [_, _, _, _, _, _, _, _, _, _, _, _, _, _, _, _, _, _, _, _] rfl ?_
            dsimp only [List.getElem_toArray, List.getElem_cons_succ, List.getElem_cons_zero]
            (try simp only [List.setIfInBounds_toArray, List.set_cons_succ, List.set_cons_zero])
            repeat (first | go_big_quiet_skip | (go_big_quiet_want; go_big_quiet_op; first | go_big_quiet_on | (refine ⟨_, fun _ _ => rfl, ?_⟩; go_big_quiet_on)))
            refine wpQuiet_nil ?_
            refine Tc.plan_done (l := []) rfl (fun K hK => ?_)
            go_wp2_with fail
            go_meet
            exact ⟨rfl, BB3⟩
          have e1 : (z == pi) = false := by rw [beq_eq_false_iff_ne]; exact hzp
          rw [decide_eq_false hzp, Bool.not_false, Bool.true_and] at GJ
          clear hzp
          cases hb
          · skip
            obtain rfl : gj = false := by rw [GJ.out]; simp []
            clear GJ GA HGJ hG
            refine Tc.wp_region_plan (keep w2.heap.size) 36 [] (.fl 0 (.fl 1 (.fl 2 (.fl 3 (.fl 4 (.fl 5 (.fl 6 (.fl 7 (.fl 8 (.fl 9 (.fl 10 (.fl 11 (.fl 12 (.fl 13 (.fl 14 (.one 15 (.fl 16 (.fl 17 (.fl 18 (.fl 19 (.fl 20 (.fl 21 (.fl 22 (.fl 23 (.fl 24 (.fl 25 (.fl 26 (.fl 27 (.fl 28 (.fl 29 (.fl 30 (.fl 31 (.fl 32 (.fl 33 (.fl 34 (.fl 35 .done)))))))))))))))))))))))))))))))))))) (by kernel_rfl) (by kernel_rfl) ?_
            intro w3 b3 e3
            have BB3 : Hid (Below w2.heap.size w2 w3) := Lib.hid b3
            clear b3 e3
            refine Tc.plan_floats [0, 1, 2, 3, 4, 5, 6, 7, 8, 9, 10, 11, 12, 13, 14] [_, _, _, _, _, _, _, _, _, _, _, _, _, _, _] rfl ?_
            dsimp only [List.getElem_toArray, List.getElem_cons_succ, List.getElem_cons_zero]
            repeat (first | go_big_quiet_skip | (go_big_quiet_want; go_big_quiet_op; first | go_big_quiet_on | (refine ⟨_, fun _ _ => rfl, ?_⟩; go_big_quiet_on)))
            refine wpQuiet_load_cell rfl 35 (.tmp 41) rfl w.heap.size 2 rfl _ Tryz.underlying35 rfl (.slice (some ⟨gb, go, none⟩) sn sc) (fun W hW => cell_keep (n := w2.heap.size) ((BB3.out.cell (p := ⟨w.heap.size, 2, none⟩) XL.out).trans X2.out) (XL.out) hW) ?_
            simp only [Act.put, List.setIfInBounds_toArray, List.set_cons_succ, List.set_cons_zero]
            repeat (first | go_big_quiet_skip | (go_big_quiet_want; go_big_quiet_op; first | go_big_quiet_on | (refine ⟨_, fun _ _ => rfl, ?_⟩; go_big_quiet_on)))
            refine wpQuiet_load_cell rfl 3 (.tmp 44) rfl gb (go + j) rfl _ Tryz.underlying3 rfl (.int .i64 z) (fun W hW => cell_keep (n := w2.heap.size) ((BB3.out.cell (p := ⟨gb, (go + j), none⟩) GB.out).trans Y0.out) (GB.out) hW) ?_
            simp only [Act.put, List.setIfInBounds_toArray, List.set_cons_succ, List.set_cons_zero]
            repeat (first | go_big_quiet_skip | (go_big_quiet_want; go_big_quiet_op; first | go_big_quiet_on | (refine ⟨_, fun _ _ => rfl, ?_⟩; go_big_quiet_on)))
            refine wpQuiet_load_cell rfl 3 (.tmp 46) rfl w.heap.size 0 rfl _ Tryz.underlying3 rfl (.int .i64 pi) (fun W hW => cell_keep (n := w2.heap.size) ((BB3.out.cell (p := ⟨w.heap.size, 0, none⟩) XL.out).trans X0.out) (XL.out) hW) ?_
            simp only [Act.put, List.setIfInBounds_toArray, List.set_cons_succ, List.set_cons_zero]
            repeat (first | go_big_quiet_skip | (go_big_quiet_want; go_big_quiet_op; first | go_big_quiet_on | (refine ⟨_, fun _ _ => rfl, ?_⟩; go_big_quiet_on)))
            refine wpQuiet_unguard rfl ?_
            repeat (first | go_big_quiet_skip | (go_big_quiet_want; go_big_quiet_op; first | go_big_quiet_on | (refine ⟨_, fun _ _ => rfl, ?_⟩; go_big_quiet_on)))
            refine wpQuiet_load_cell rfl 35 (.tmp 51) rfl w.heap.size 2 rfl _ Tryz.underlying35 rfl (.slice (some ⟨gb, go, none⟩) sn sc) (fun W hW => cell_keep (n := w2.heap.size) ((BB3.out.cell (p := ⟨w.heap.size, 2, none⟩) XL.out).trans X2.out) (XL.out) hW) ?_
            simp only [Act.put, List.setIfInBounds_toArray, List.set_cons_succ, List.set_cons_zero]
            repeat (first | go_big_quiet_skip | (go_big_quiet_want; go_big_quiet_op; first | go_big_quiet_on | (refine ⟨_, fun _ _ => rfl, ?_⟩; go_big_quiet_on)))
            refine wpQuiet_unguard rfl ?_
            repeat (first | go_big_quiet_skip | (go_big_quiet_want; go_big_quiet_op; first | go_big_quiet_on | (refine ⟨_, fun _ _ => rfl, ?_⟩; go_big_quiet_on)))
            refine wpQuiet_load_cell rfl 3 (.tmp 54) rfl gb (go + j) rfl _ Tryz.underlying3 rfl (.int .i64 z) (fun W hW => cell_keep (n := w2.heap.size) ((BB3.out.cell (p := ⟨gb, (go + j), none⟩) GB.out).trans Y0.out) (GB.out) hW) ?_
            simp only [Act.put, List.setIfInBounds_toArray, List.set_cons_succ, List.set_cons_zero]
            repeat (first | go_big_quiet_skip | (go_big_quiet_want; go_big_quiet_op; first | go_big_quiet_on | (refine ⟨_, fun _ _ => rfl, ?_⟩; go_big_quiet_on)))
            refine wpQuiet_nil ?_
            refine Tc.plan_one 15 rfl (fun K hK => ?_)
            go_wp2_with fail
            refine (FZ.out _ (hB.out.trans (BB3.out.mono hB.out.size))).mono ?_
            rintro e w4 ⟨rr, rfl, hrr, b4⟩
            have bb := b4.mono BB3.out.size
            have BB4 := Lib.hid (BB3.out.trans bb)
            have HRR := Lib.hid hrr
            clear hrr
            go_wp2_with fail
            refine hK _ _ (keep_below bb) ?_
            clear hK K bb b4 BB3
            have hrr := HRR.out
            refine Tc.plan_floats [16, 17, 18, 19, 20, 21, 22, 23, 24, 25, 26, 27, 28, 29, 30, 31, 32, 33, 34, 35] [_, _, _, _, _, _, _, _, _, _, _, _, _, _, _, _, _, _, _, _] rfl ?_
            dsimp only [List.getElem_toArray, List.getElem_cons_succ, List.getElem_cons_zero]
            repeat (first | go_big_quiet_skip | (go_big_quiet_want; go_big_quiet_op; first | go_big_quiet_on | (refine ⟨_, fun _ _ => rfl, ?_⟩; go_big_quiet_on)))
            refine wpQuiet_nil ?_
            refine Tc.plan_done (l := []) rfl (fun K hK => ?_)
            go_wp2_with fail
            go_meet
            exact ⟨rfl, BB4⟩
          rw [Bool.true_and] at GJ
          by_cases j0 : j = 0
          · subst j0
            obtain rfl : gj = true := by rw [GJ.out]; simp []
            clear GJ GA HGJ hG
            refine Tc.wp_region_plan (keep w2.heap.size) 36 [] (.fl 0 (.fl 1 (.fl 2 (.fl 3 (.fl 4 (.fl 5 (.fl 6 (.fl 7 (.fl 8 (.fl 9 (.fl 10 (.fl 11 (.fl 12 (.fl 13 (.fl 14 (.one 15 (.fl 16 (.fl 17 (.fl 18 (.fl 19 (.fl 20 (.fl 21 (.fl 22 (.fl 23 (.fl 24 (.fl 25 (.fl 26 (.fl 27 (.fl 28 (.fl 29 (.fl 30 (.fl 31 (.fl 32 (.fl 33 (.fl 34 (.fl 35 .done)))))))))))))))))))))))))))))))))))) (by kernel_rfl) (by kernel_rfl) ?_
            intro w3 b3 e3
            have BB3 : Hid (Below w2.heap.size w2 w3) := Lib.hid b3
            clear b3 e3
            refine Tc.plan_floats [0, 1, 2, 3, 4, 5, 6, 7, 8, 9, 10, 11, 12, 13, 14] [_, _, _, _, _, _, _, _, _, _, _, _, _, _, _] rfl ?_
            dsimp only [List.getElem_toArray, List.getElem_cons_succ, List.getElem_cons_zero]
            repeat (first | go_big_quiet_skip | (go_big_quiet_want; go_big_quiet_op; first | go_big_quiet_on | (refine ⟨_, fun _ _ => rfl, ?_⟩; go_big_quiet_on)))
            refine wpQuiet_load_cell rfl 35 (.tmp 41) rfl w.heap.size 2 rfl _ Tryz.underlying35 rfl (.slice (some ⟨gb, go, none⟩) sn sc) (fun W hW => cell_keep (n := w2.heap.size) ((BB3.out.cell (p := ⟨w.heap.size, 2, none⟩) XL.out).trans X2.out) (XL.out) hW) ?_
            simp only [Act.put, List.setIfInBounds_toArray, List.set_cons_succ, List.set_cons_zero]
            repeat (first | go_big_quiet_skip | (go_big_quiet_want; go_big_quiet_op; first | go_big_quiet_on | (refine ⟨_, fun _ _ => rfl, ?_⟩; go_big_quiet_on)))
            refine wpQuiet_load_cell rfl 3 (.tmp 44) rfl gb (go + 0) rfl _ Tryz.underlying3 rfl (.int .i64 z) (fun W hW => cell_keep (n := w2.heap.size) ((BB3.out.cell (p := ⟨gb, (go + 0), none⟩) GB.out).trans Y0.out) (GB.out) hW) ?_
            simp only [Act.put, List.setIfInBounds_toArray, List.set_cons_succ, List.set_cons_zero]
            repeat (first | go_big_quiet_skip | (go_big_quiet_want; go_big_quiet_op; first | go_big_quiet_on | (refine ⟨_, fun _ _ => rfl, ?_⟩; go_big_quiet_on)))
            refine wpQuiet_load_cell rfl 3 (.tmp 46) rfl w.heap.size 0 rfl _ Tryz.underlying3 rfl (.int .i64 pi) (fun W hW => cell_keep (n := w2.heap.size) ((BB3.out.cell (p := ⟨w.heap.size, 0, none⟩) XL.out).trans X0.out) (XL.out) hW) ?_
            simp only [Act.put, List.setIfInBounds_toArray, List.set_cons_succ, List.set_cons_zero]
            repeat (first | go_big_quiet_skip | (go_big_quiet_want; go_big_quiet_op; first | go_big_quiet_on | (refine ⟨_, fun _ _ => rfl, ?_⟩; go_big_quiet_on)))
            refine wpQuiet_unguard rfl ?_
            repeat (first | go_big_quiet_skip | (go_big_quiet_want; go_big_quiet_op; first | go_big_quiet_on | (refine ⟨_, fun _ _ => rfl, ?_⟩; go_big_quiet_on)))
            refine wpQuiet_load_cell rfl 35 (.tmp 51) rfl w.heap.size 2 rfl _ Tryz.underlying35 rfl (.slice (some ⟨gb, go, none⟩) sn sc) (fun W hW => cell_keep (n := w2.heap.size) ((BB3.out.cell (p := ⟨w.heap.size, 2, none⟩) XL.out).trans X2.out) (XL.out) hW) ?_
            simp only [Act.put, List.setIfInBounds_toArray, List.set_cons_succ, List.set_cons_zero]
            repeat (first | go_big_quiet_skip | (go_big_quiet_want; go_big_quiet_op; first | go_big_quiet_on | (refine ⟨_, fun _ _ => rfl, ?_⟩; go_big_quiet_on)))
            refine wpQuiet_unguard rfl ?_
            repeat (first | go_big_quiet_skip | (go_big_quiet_want; go_big_quiet_op; first | go_big_quiet_on | (refine ⟨_, fun _ _ => rfl, ?_⟩; go_big_quiet_on)))
            refine wpQuiet_load_cell rfl 3 (.tmp 54) rfl gb (go + 0) rfl _ Tryz.underlying3 rfl (.int .i64 z) (fun W hW => cell_keep (n := w2.heap.size) ((BB3.out.cell (p := ⟨gb, (go + 0), none⟩) GB.out).trans Y0.out) (GB.out) hW) ?_
            simp only [Act.put, List.setIfInBounds_toArray, List.set_cons_succ, List.set_cons_zero]
            repeat (first | go_big_quiet_skip | (go_big_quiet_want; go_big_quiet_op; first | go_big_quiet_on | (refine ⟨_, fun _ _ => rfl, ?_⟩; go_big_quiet_on)))
            refine wpQuiet_nil ?_
            refine Tc.plan_one 15 rfl (fun K hK => ?_)
            go_wp2_with fail
            refine (FZ.out _ (hB.out.trans (BB3.out.mono hB.out.size))).mono ?_
            rintro e w4 ⟨rr, rfl, hrr, b4⟩
            have bb := b4.mono BB3.out.size
            have BB4 := Lib.hid (BB3.out.trans bb)
            have HRR := Lib.hid hrr
            clear hrr
            go_wp2_with fail
            refine hK _ _ (keep_below bb) ?_
            clear hK K bb b4 BB3
            have hrr := HRR.out
            refine Tc.plan_floats [16, 17, 18, 19, 20, 21, 22, 23, 24, 25, 26, 27, 28, 29, 30, 31, 32, 33, 34, 35] [_, _, _, _, _, _, _, _, _, _, _, _, _, _, _, _, _, _, _, _] rfl ?_
            dsimp only [List.getElem_toArray, List.getElem_cons_succ, List.getElem_cons_zero]
            repeat (first | go_big_quiet_skip | (go_big_quiet_want; go_big_quiet_op; first | go_big_quiet_on | (refine ⟨_, fun _ _ => rfl, ?_⟩; go_big_quiet_on)))
            refine wpQuiet_nil ?_
            refine Tc.plan_done (l := []) rfl (fun K hK => ?_)
            go_wp2_with fail
            go_meet
            exact ⟨rfl, BB4⟩
          obtain ⟨t, rfl⟩ : ∃ t, j = t + 1 := ⟨j - 1, by omega⟩
          have Y1 := Lib.hid (YP.out t rfl)
          rw [show decide (t + 1 = 0) = false from rfl, Bool.false_or, Nat.add_sub_cancel] at GJ
          clear YP j0
          obtain ⟨u, hu⟩ : ∃ y, p.gs.getD t 0 = y := ⟨_, rfl⟩
          rw [hu] at Y1 GJ
          clear hu
          have t0 : (0 : Int) ≤ (t : Int) := Int.natCast_nonneg t
          have t1 : (t : Int) < (sn : Int) := by have := HJ.out; omega
          have t2 : IntKind.i64.wrap (t : Int) = (t : Int) := IntWalk.i64_in _ (by omega)
          have t3 : decide ((0 : Int) < (t : Int) + 1) = true := by rw [decide_eq_true_iff]; omega
          cases hc : decide (z ≤ u)
          · skip
            obtain rfl : gj = true := by rw [GJ.out]; simp [hc]
            clear GJ GA HGJ hG
            refine Tc.wp_region_plan (keep w2.heap.size) 36 [] (.fl 0 (.fl 1 (.fl 2 (.fl 3 (.fl 4 (.fl 5 (.fl 6 (.fl 7 (.fl 8 (.fl 9 (.fl 10 (.fl 11 (.fl 12 (.fl 13 (.fl 14 (.one 15 (.fl 16 (.fl 17 (.fl 18 (.fl 19 (.fl 20 (.fl 21 (.fl 22 (.fl 23 (.fl 24 (.fl 25 (.fl 26 (.fl 27 (.fl 28 (.fl 29 (.fl 30 (.fl 31 (.fl 32 (.fl 33 (.fl 34 (.fl 35 .done)))))))))))))))))))))))))))))))))))) (by kernel_rfl) (by kernel_rfl) ?_
            intro w3 b3 e3
            have BB3 : Hid (Below w2.heap.size w2 w3) := Lib.hid b3
            clear b3 e3
            refine Tc.plan_floats [0, 1, 2, 3, 4, 5, 6, 7, 8, 9, 10, 11, 12, 13, 14] [_, _, _, _, _, _, _, _, _, _, _, _, _, _, _] rfl ?_
            dsimp only [List.getElem_toArray, List.getElem_cons_succ, List.getElem_cons_zero]
            repeat (first | go_big_quiet_skip | (go_big_quiet_want; go_big_quiet_op; first | go_big_quiet_on | (refine ⟨_, fun _ _ => rfl, ?_⟩; go_big_quiet_on)))
            refine wpQuiet_load_cell rfl 35 (.tmp 41) rfl w.heap.size 2 rfl _ Tryz.underlying35 rfl (.slice (some ⟨gb, go, none⟩) sn sc) (fun W hW => cell_keep (n := w2.heap.size) ((BB3.out.cell (p := ⟨w.heap.size, 2, none⟩) XL.out).trans X2.out) (XL.out) hW) ?_
            simp only [Act.put, List.setIfInBounds_toArray, List.set_cons_succ, List.set_cons_zero]
            repeat (first | go_big_quiet_skip | (go_big_quiet_want; go_big_quiet_op; first | go_big_quiet_on | (refine ⟨_, fun _ _ => rfl, ?_⟩; go_big_quiet_on)))
            refine wpQuiet_load_cell rfl 3 (.tmp 44) rfl gb (go + (t + 1)) rfl _ Tryz.underlying3 rfl (.int .i64 z) (fun W hW => cell_keep (n := w2.heap.size) ((BB3.out.cell (p := ⟨gb, (go + (t + 1)), none⟩) GB.out).trans Y0.out) (GB.out) hW) ?_
            simp only [Act.put, List.setIfInBounds_toArray, List.set_cons_succ, List.set_cons_zero]
            repeat (first | go_big_quiet_skip | (go_big_quiet_want; go_big_quiet_op; first | go_big_quiet_on | (refine ⟨_, fun _ _ => rfl, ?_⟩; go_big_quiet_on)))
            refine wpQuiet_load_cell rfl 3 (.tmp 46) rfl w.heap.size 0 rfl _ Tryz.underlying3 rfl (.int .i64 pi) (fun W hW => cell_keep (n := w2.heap.size) ((BB3.out.cell (p := ⟨w.heap.size, 0, none⟩) XL.out).trans X0.out) (XL.out) hW) ?_
            simp only [Act.put, List.setIfInBounds_toArray, List.set_cons_succ, List.set_cons_zero]
            repeat (first | go_big_quiet_skip | (go_big_quiet_want; go_big_quiet_op; first | go_big_quiet_on | (refine ⟨_, fun _ _ => rfl, ?_⟩; go_big_quiet_on)))
            refine wpQuiet_unguard rfl ?_
            repeat (first | go_big_quiet_skip | (go_big_quiet_want; go_big_quiet_op; first | go_big_quiet_on | (refine ⟨_, fun _ _ => rfl, ?_⟩; go_big_quiet_on)))
            refine wpQuiet_load_cell rfl 35 (.tmp 51) rfl w.heap.size 2 rfl _ Tryz.underlying35 rfl (.slice (some ⟨gb, go, none⟩) sn sc) (fun W hW => cell_keep (n := w2.heap.size) ((BB3.out.cell (p := ⟨w.heap.size, 2, none⟩) XL.out).trans X2.out) (XL.out) hW) ?_
            simp only [Act.put, List.setIfInBounds_toArray, List.set_cons_succ, List.set_cons_zero]
            repeat (first | go_big_quiet_skip | (go_big_quiet_want; go_big_quiet_op; first | go_big_quiet_on | (refine ⟨_, fun _ _ => rfl, ?_⟩; go_big_quiet_on)))
            refine wpQuiet_unguard rfl ?_
            repeat (first | go_big_quiet_skip | (go_big_quiet_want; go_big_quiet_op; first | go_big_quiet_on | (refine ⟨_, fun _ _ => rfl, ?_⟩; go_big_quiet_on)))
            refine wpQuiet_load_cell rfl 3 (.tmp 54) rfl gb (go + (t + 1)) rfl _ Tryz.underlying3 rfl (.int .i64 z) (fun W hW => cell_keep (n := w2.heap.size) ((BB3.out.cell (p := ⟨gb, (go + (t + 1)), none⟩) GB.out).trans Y0.out) (GB.out) hW) ?_
            simp only [Act.put, List.setIfInBounds_toArray, List.set_cons_succ, List.set_cons_zero]
            repeat (first | go_big_quiet_skip | (go_big_quiet_want; go_big_quiet_op; first | go_big_quiet_on | (refine ⟨_, fun _ _ => rfl, ?_⟩; go_big_quiet_on)))
            refine wpQuiet_nil ?_
            refine Tc.plan_one 15 rfl (fun K hK => ?_)
            go_wp2_with fail
            refine (FZ.out _ (hB.out.trans (BB3.out.mono hB.out.size))).mono ?_
            rintro e w4 ⟨rr, rfl, hrr, b4⟩
            have bb := b4.mono BB3.out.size
            have BB4 := Lib.hid (BB3.out.trans bb)
            have HRR := Lib.hid hrr
            clear hrr
            go_wp2_with fail
            refine hK _ _ (keep_below bb) ?_
            clear hK K bb b4 BB3
            have hrr := HRR.out
            refine Tc.plan_floats [16, 17, 18, 19, 20, 21, 22, 23, 24, 25, 26, 27, 28, 29, 30, 31, 32, 33, 34, 35] [_, _, _, _, _, _, _, _, _, _, _, _, _, _, _, _, _, _, _, _] rfl ?_
            dsimp only [List.getElem_toArray, List.getElem_cons_succ, List.getElem_cons_zero]
            repeat (first | go_big_quiet_skip | (go_big_quiet_want; go_big_quiet_op; first | go_big_quiet_on | (refine ⟨_, fun _ _ => rfl, ?_⟩; go_big_quiet_on)))
            refine wpQuiet_unguard rfl ?_
            repeat (first | go_big_quiet_skip | (go_big_quiet_want; go_big_quiet_op; first | go_big_quiet_on | (refine ⟨_, fun _ _ => rfl, ?_⟩; go_big_quiet_on)))
            refine wpQuiet_load_cell rfl 35 (.tmp 63) rfl w.heap.size 2 rfl _ Tryz.underlying35 rfl (.slice (some ⟨gb, go, none⟩) sn sc) (fun W hW => cell_keep (n := w2.heap.size) ((BB4.out.cell (p := ⟨w.heap.size, 2, none⟩) XL.out).trans X2.out) (XL.out) hW) ?_
            simp only [Act.put, List.setIfInBounds_toArray, List.set_cons_succ, List.set_cons_zero]
            repeat (first | go_big_quiet_skip | (go_big_quiet_want; go_big_quiet_op; first | go_big_quiet_on | (refine ⟨_, fun _ _ => rfl, ?_⟩; go_big_quiet_on)))
            refine wpQuiet_unguard rfl ?_
            repeat (first | go_big_quiet_skip | (go_big_quiet_want; go_big_quiet_op; first | go_big_quiet_on | (refine ⟨_, fun _ _ => rfl, ?_⟩; go_big_quiet_on)))
            refine wpQuiet_load_cell rfl 3 (.tmp 66) rfl gb (go + (t + 1)) rfl _ Tryz.underlying3 rfl (.int .i64 z) (fun W hW => cell_keep (n := w2.heap.size) ((BB4.out.cell (p := ⟨gb, (go + (t + 1)), none⟩) GB.out).trans Y0.out) (GB.out) hW) ?_
            simp only [Act.put, List.setIfInBounds_toArray, List.set_cons_succ, List.set_cons_zero]
            repeat (first | go_big_quiet_skip | (go_big_quiet_want; go_big_quiet_op; first | go_big_quiet_on | (refine ⟨_, fun _ _ => rfl, ?_⟩; go_big_quiet_on)))
            refine wpQuiet_unguard rfl ?_
            repeat (first | go_big_quiet_skip | (go_big_quiet_want; go_big_quiet_op; first | go_big_quiet_on | (refine ⟨_, fun _ _ => rfl, ?_⟩; go_big_quiet_on)))
            refine wpQuiet_load_cell rfl 35 (.tmp 68) rfl w.heap.size 2 rfl _ Tryz.underlying35 rfl (.slice (some ⟨gb, go, none⟩) sn sc) (fun W hW => cell_keep (n := w2.heap.size) ((BB4.out.cell (p := ⟨w.heap.size, 2, none⟩) XL.out).trans X2.out) (XL.out) hW) ?_
            simp only [Act.put, List.setIfInBounds_toArray, List.set_cons_succ, List.set_cons_zero]
            repeat (first | go_big_quiet_skip | (go_big_quiet_want; go_big_quiet_op; first | go_big_quiet_on | (refine ⟨_, fun _ _ => rfl, ?_⟩; go_big_quiet_on)))
            refine wpQuiet_unguard rfl ?_
            repeat (first | go_big_quiet_skip | (go_big_quiet_want; go_big_quiet_op; first | go_big_quiet_on | (refine ⟨_, fun _ _ => rfl, ?_⟩; go_big_quiet_on)))
            refine wpQuiet_load_cell rfl 3 (.tmp 72) rfl gb (go + t) rfl _ Tryz.underlying3 rfl (.int .i64 u) (fun W hW => cell_keep (n := w2.heap.size) ((BB4.out.cell (p := ⟨gb, (go + t), none⟩) GB.out).trans Y1.out) (GB.out) hW) ?_
            simp only [Act.put, List.setIfInBounds_toArray, List.set_cons_succ, List.set_cons_zero]
            repeat (first | go_big_quiet_skip | (go_big_quiet_want; go_big_quiet_op; first | go_big_quiet_on | (refine ⟨_, fun _ _ => rfl, ?_⟩; go_big_quiet_on)))
            refine wpQuiet_nil ?_
            refine Tc.plan_done (l := []) rfl (fun K hK => ?_)
            go_wp2_with fail
            go_meet
            exact ⟨rfl, BB4⟩
          · skip
            obtain rfl : gj = false := by rw [GJ.out]; simp [hc]
            clear GJ GA HGJ hG
            refine Tc.wp_region_plan (keep w2.heap.size) 36 [] (.fl 0 (.fl 1 (.fl 2 (.fl 3 (.fl 4 (.fl 5 (.fl 6 (.fl 7 (.fl 8 (.fl 9 (.fl 10 (.fl 11 (.fl 12 (.fl 13 (.fl 14 (.one 15 (.fl 16 (.fl 17 (.fl 18 (.fl 19 (.fl 20 (.fl 21 (.fl 22 (.fl 23 (.fl 24 (.fl 25 (.fl 26 (.fl 27 (.fl 28 (.fl 29 (.fl 30 (.fl 31 (.fl 32 (.fl 33 (.fl 34 (.fl 35 .done)))))))))))))))))))))))))))))))))))) (by kernel_rfl) (by kernel_rfl) ?_
            intro w3 b3 e3
            have BB3 : Hid (Below w2.heap.size w2 w3) := Lib.hid b3
            clear b3 e3
            refine Tc.plan_floats [0, 1, 2, 3, 4, 5, 6, 7, 8, 9, 10, 11, 12, 13, 14] [_, _, _, _, _, _, _, _, _, _, _, _, _, _, _] rfl ?_
            dsimp only [List.getElem_toArray, List.getElem_cons_succ, List.getElem_cons_zero]
            repeat (first | go_big_quiet_skip | (go_big_quiet_want; go_big_quiet_op; first | go_big_quiet_on | (refine ⟨_, fun _ _ => rfl, ?_⟩; go_big_quiet_on)))
            refine wpQuiet_load_cell rfl 35 (.tmp 41) rfl w.heap.size 2 rfl _ Tryz.underlying35 rfl (.slice (some ⟨gb, go, none⟩) sn sc) (fun W hW => cell_keep (n := w2.heap.size) ((BB3.out.cell (p := ⟨w.heap.size, 2, none⟩) XL.out).trans X2.out) (XL.out) hW) ?_
            simp only [Act.put, List.setIfInBounds_toArray, List.set_cons_succ, List.set_cons_zero]
            repeat (first | go_big_quiet_skip | (go_big_quiet_want; go_big_quiet_op; first | go_big_quiet_on | (refine ⟨_, fun _ _ => rfl, ?_⟩; go_big_quiet_on)))
            refine wpQuiet_load_cell rfl 3 (.tmp 44) rfl gb (go + (t + 1)) rfl _ Tryz.underlying3 rfl (.int .i64 z) (fun W hW => cell_keep (n := w2.heap.size) ((BB3.out.cell (p := ⟨gb, (go + (t + 1)), none⟩) GB.out).trans Y0.out) (GB.out) hW) ?_
            simp only [Act.put, List.setIfInBounds_toArray, List.set_cons_succ, List.set_cons_zero]
            repeat (first | go_big_quiet_skip | (go_big_quiet_want; go_big_quiet_op; first | go_big_quiet_on | (refine ⟨_, fun _ _ => rfl, ?_⟩; go_big_quiet_on)))
            refine wpQuiet_load_cell rfl 3 (.tmp 46) rfl w.heap.size 0 rfl _ Tryz.underlying3 rfl (.int .i64 pi) (fun W hW => cell_keep (n := w2.heap.size) ((BB3.out.cell (p := ⟨w.heap.size, 0, none⟩) XL.out).trans X0.out) (XL.out) hW) ?_
            simp only [Act.put, List.setIfInBounds_toArray, List.set_cons_succ, List.set_cons_zero]
            repeat (first | go_big_quiet_skip | (go_big_quiet_want; go_big_quiet_op; first | go_big_quiet_on | (refine ⟨_, fun _ _ => rfl, ?_⟩; go_big_quiet_on)))
            refine wpQuiet_unguard rfl ?_
            repeat (first | go_big_quiet_skip | (go_big_quiet_want; go_big_quiet_op; first | go_big_quiet_on | (refine ⟨_, fun _ _ => rfl, ?_⟩; go_big_quiet_on)))
            refine wpQuiet_load_cell rfl 35 (.tmp 51) rfl w.heap.size 2 rfl _ Tryz.underlying35 rfl (.slice (some ⟨gb, go, none⟩) sn sc) (fun W hW => cell_keep (n := w2.heap.size) ((BB3.out.cell (p := ⟨w.heap.size, 2, none⟩) XL.out).trans X2.out) (XL.out) hW) ?_
            simp only [Act.put, List.setIfInBounds_toArray, List.set_cons_succ, List.set_cons_zero]
            repeat (first | go_big_quiet_skip | (go_big_quiet_want; go_big_quiet_op; first | go_big_quiet_on | (refine ⟨_, fun _ _ => rfl, ?_⟩; go_big_quiet_on)))
            refine wpQuiet_unguard rfl ?_
            repeat (first | go_big_quiet_skip | (go_big_quiet_want; go_big_quiet_op; first | go_big_quiet_on | (refine ⟨_, fun _ _ => rfl, ?_⟩; go_big_quiet_on)))
            refine wpQuiet_load_cell rfl 3 (.tmp 54) rfl gb (go + (t + 1)) rfl _ Tryz.underlying3 rfl (.int .i64 z) (fun W hW => cell_keep (n := w2.heap.size) ((BB3.out.cell (p := ⟨gb, (go + (t + 1)), none⟩) GB.out).trans Y0.out) (GB.out) hW) ?_
            simp only [Act.put, List.setIfInBounds_toArray, List.set_cons_succ, List.set_cons_zero]
            repeat (first | go_big_quiet_skip | (go_big_quiet_want; go_big_quiet_op; first | go_big_quiet_on | (refine ⟨_, fun _ _ => rfl, ?_⟩; go_big_quiet_on)))
            refine wpQuiet_nil ?_
            refine Tc.plan_one 15 rfl (fun K hK => ?_)
            go_wp2_with fail
            refine (FZ.out _ (hB.out.trans (BB3.out.mono hB.out.size))).mono ?_
            rintro e w4 ⟨rr, rfl, hrr, b4⟩
            have bb := b4.mono BB3.out.size
            have BB4 := Lib.hid (BB3.out.trans bb)
            have HRR := Lib.hid hrr
            clear hrr
            go_wp2_with fail
            refine hK _ _ (keep_below bb) ?_
            clear hK K bb b4 BB3
            have hrr := HRR.out
            refine Tc.plan_floats [16, 17, 18, 19, 20, 21, 22, 23, 24, 25, 26, 27, 28, 29, 30, 31, 32, 33, 34, 35] [_, _, _, _, _, _, _, _, _, _, _, _, _, _, _, _, _, _, _, _] rfl ?_
            dsimp only [List.getElem_toArray, List.getElem_cons_succ, List.getElem_cons_zero]
            repeat (first | go_big_quiet_skip | (go_big_quiet_want; go_big_quiet_op; first | go_big_quiet_on | (refine ⟨_, fun _ _ => rfl, ?_⟩; go_big_quiet_on)))
            refine wpQuiet_unguard rfl ?_
            repeat (first | go_big_quiet_skip | (go_big_quiet_want; go_big_quiet_op; first | go_big_quiet_on | (refine ⟨_, fun _ _ => rfl, ?_⟩; go_big_quiet_on)))
            refine wpQuiet_load_cell rfl 35 (.tmp 63) rfl w.heap.size 2 rfl _ Tryz.underlying35 rfl (.slice (some ⟨gb, go, none⟩) sn sc) (fun W hW => cell_keep (n := w2.heap.size) ((BB4.out.cell (p := ⟨w.heap.size, 2, none⟩) XL.out).trans X2.out) (XL.out) hW) ?_
            simp only [Act.put, List.setIfInBounds_toArray, List.set_cons_succ, List.set_cons_zero]
            repeat (first | go_big_quiet_skip | (go_big_quiet_want; go_big_quiet_op; first | go_big_quiet_on | (refine ⟨_, fun _ _ => rfl, ?_⟩; go_big_quiet_on)))
            refine wpQuiet_unguard rfl ?_
            repeat (first | go_big_quiet_skip | (go_big_quiet_want; go_big_quiet_op; first | go_big_quiet_on | (refine ⟨_, fun _ _ => rfl, ?_⟩; go_big_quiet_on)))
            refine wpQuiet_load_cell rfl 3 (.tmp 66) rfl gb (go + (t + 1)) rfl _ Tryz.underlying3 rfl (.int .i64 z) (fun W hW => cell_keep (n := w2.heap.size) ((BB4.out.cell (p := ⟨gb, (go + (t + 1)), none⟩) GB.out).trans Y0.out) (GB.out) hW) ?_
            simp only [Act.put, List.setIfInBounds_toArray, List.set_cons_succ, List.set_cons_zero]
            repeat (first | go_big_quiet_skip | (go_big_quiet_want; go_big_quiet_op; first | go_big_quiet_on | (refine ⟨_, fun _ _ => rfl, ?_⟩; go_big_quiet_on)))
            refine wpQuiet_unguard rfl ?_
            repeat (first | go_big_quiet_skip | (go_big_quiet_want; go_big_quiet_op; first | go_big_quiet_on | (refine ⟨_, fun _ _ => rfl, ?_⟩; go_big_quiet_on)))
            refine wpQuiet_load_cell rfl 35 (.tmp 68) rfl w.heap.size 2 rfl _ Tryz.underlying35 rfl (.slice (some ⟨gb, go, none⟩) sn sc) (fun W hW => cell_keep (n := w2.heap.size) ((BB4.out.cell (p := ⟨w.heap.size, 2, none⟩) XL.out).trans X2.out) (XL.out) hW) ?_
            simp only [Act.put, List.setIfInBounds_toArray, List.set_cons_succ, List.set_cons_zero]
            repeat (first | go_big_quiet_skip | (go_big_quiet_want; go_big_quiet_op; first | go_big_quiet_on | (refine ⟨_, fun _ _ => rfl, ?_⟩; go_big_quiet_on)))
            refine wpQuiet_unguard rfl ?_
            repeat (first | go_big_quiet_skip | (go_big_quiet_want; go_big_quiet_op; first | go_big_quiet_on | (refine ⟨_, fun _ _ => rfl, ?_⟩; go_big_quiet_on)))
            refine wpQuiet_load_cell rfl 3 (.tmp 72) rfl gb (go + t) rfl _ Tryz.underlying3 rfl (.int .i64 u) (fun W hW => cell_keep (n := w2.heap.size) ((BB4.out.cell (p := ⟨gb, (go + t), none⟩) GB.out).trans Y1.out) (GB.out) hW) ?_
            simp only [Act.put, List.setIfInBounds_toArray, List.set_cons_succ, List.set_cons_zero]
            repeat (first | go_big_quiet_skip | (go_big_quiet_want; go_big_quiet_op; first | go_big_quiet_on | (refine ⟨_, fun _ _ => rfl, ?_⟩; go_big_quiet_on)))
            refine wpQuiet_nil ?_
            refine Tc.plan_done (l := []) rfl (fun K hK => ?_)
            go_wp2_with fail
            go_meet
            exact ⟨rfl, BB4⟩
        case rest =>
          rename World => w3
          obtain ⟨rfl, b3⟩ := hcut
          have B3 := Lib.hid (hB.out.trans (b3.out.mono hB.out.size))
          have X3 := Lib.hid (hX.out.below b3.out)
          clear FZ GJ Y0 YP X0 X2 b3 hB hX
          cases gj
          · obtain rfl : rb = false := by rw [← HR.out, GA.out _ HGJ.out rfl]; rfl
            clear GA hG
            go_wp2_with fail
            go_ret
            exact ⟨rfl, B3.out⟩
          · have GN : Hid (∀ i, i < j + 1 → grdB ps p i = true) := Lib.hid (fun i hi => by
              by_cases e : i = j
              · subst e; exact HGJ.out
              · exact hG.out i (by omega))
            clear GA hG
            go_wp2_with fail
            go_roundg (sn - (j + 1))
            case measure => have := HJ.out; omega
            case rel =>
              go_light
              exact ⟨j + 1, by have := HJ.out; omega, by go_num, GN, X3, B3⟩
      · have d0 : decide ((j : Int) < (sn : Int)) = false := by rw [decide_eq_false_iff_not]; omega
        have d1 : decide (j < sn) = false := by rw [decide_eq_false_iff_not]; omega
        obtain rfl : rb = true := by rw [← HR.out, allB_true (fun i hi => hG.out i (by omega))]; rfl
        clear hG hlt hX
        go_wp2_with fail
        go_ret
        exact ⟨rfl, hB.out⟩
theorem okR {ps : List Pe} {k : Nat} {p : Pe} (h : ps.getD k pe0 = p) : okPe ps k = (!decide (p.i < 0) && (!decide (64 ≤ p.i) && ((decide (k = 0) || !decide (p.i ≤ (ps.getD (k - 1) pe0).i)) && (elemB p.r && ((cntB p && allB (grdB ps p) p.gs.length) && (!decide (p.c < 0) && !decide (1048576 < p.c))))))) := by
  unfold okPe hdPe
  rw [h]
  generalize decide (p.i < 0) = a
  generalize decide (64 ≤ p.i) = b
  generalize (decide (k = 0) || !decide (p.i ≤ (ps.getD (k - 1) pe0).i)) = c
  generalize elemB p.r = d
  generalize cntB p = e
  generalize allB (grdB ps p) p.gs.length = f
  generalize decide (p.c < 0) = g
  generalize decide (1048576 < p.c) = i
  cases a <;> cases b <;> cases c <;> cases d <;> cases e <;> cases f <;> cases g <;> cases i <;> rfl
set_option maxRecDepth 100000 in
set_option maxHeartbeats 16000000 in
theorem rcheck37_any (ps : List Pe) (us : Nat → Sv) (v : Value) (w : World) (h : PesS w v ps us) (hn : ps.length ≤ 1000) :
    Calls Tryz.prog 11 #[v] w fun e w' => e = .returned (.int .i64 (if chkPe ps then 0 else 371)) ∧ Below w.heap.size w w' := by
  obtain ⟨la, lc, rfl⟩ := h.1.slice
  have FT : Hid ((∀ i, i < ps.length → okPe ps i = true) → (if chkPe ps then (0 : Int) else 371) = 0) := Lib.hid (fun h => by unfold chkPe; rw [allB_true h, if_pos rfl])
  have FF : Hid (∀ i, i < ps.length → okPe ps i = false → (if chkPe ps then (0 : Int) else 371) = 371) := Lib.hid (fun i hi h => by unfold chkPe; rw [allB_false hi h, if_neg Bool.false_ne_true])
  obtain ⟨R, hR⟩ : ∃ y, (if chkPe ps then (0 : Int) else 371) = y := ⟨_, rfl⟩
  rw [hR] at FT FF ⊢
  obtain ⟨n, hln⟩ : ∃ y, ps.length = y := ⟨_, rfl⟩
  have HN := Lib.hid hln
  have H0 : Hid (PesS w (.slice la n lc) ps us) := Lib.hid (by rw [← hln]; exact h)
  have GC : Hid (∀ (p : Pe) (s : Sv) (W : World) , Below w.heap.size w W → s.n = p.gs.length → IntsS W (.slice s.a s.n s.k) p.gs → Calls Tryz.prog 25 #[.slice la n lc, .agg (rowF 5 (peC p s))] W fun e w' => e = .returned (.bool (cntB p && allB (grdB ps p) p.gs.length)) ∧ Below W.heap.size W w') :=
    Lib.hid (fun p s W hb h1 h2 => rguards_any ps us _ p s W (by have g := (h.below hb).1; rw [hln] at g ⊢; exact g) hn h1 h2)
  have qn : (n : Int) ≤ 1000 := by omega
  rw [hln] at FT FF ⊢
  clear h hn hR hln
  go_enter Tryz.func11, Tryz.ntmps11
  go_wp2_with fail
  go_loopg [3] n (fun g s3 wx => ∃ k : Nat, k + g = n ∧ s3 = .int .i64 (k : Int) ∧ Hid (∀ i, i < k → okPe ps i = true) ∧ Hid (Below w.heap.size w wx))
  case atStart => exact ⟨0, by omega, rfl, Lib.hid (fun i hi => by omega), Lib.hid (Below.refl _ _)⟩
  case round =>
    obtain ⟨k, hk, rfl, hA, hB⟩ := hrel
    obtain ⟨w3, rfl⟩ : ∃ y, y = wr := ⟨_, rfl⟩
    have q0 : (0 : Int) ≤ (k : Int) := Int.natCast_nonneg k
    by_cases hlt : k < n
    · have d0 : decide ((k : Int) < (n : Int)) = true := by rw [decide_eq_true_iff]; omega
      have d1 : decide (k < n) = true := by rw [decide_eq_true_iff]; omega
      obtain ⟨b, off, rfl, hcap, hb, hc⟩ := SlAt.at_elem (s := 5) (n := n) (a := la) (k := lc) (c := fun i => peC (ps.getD i pe0) (us i)) (by have h := H0.out.1; rw [HN.out] at h; exact h) hlt
      have HLT := Lib.hid hlt
      have HCK : Hid (∀ j, j < 5 → w3.cell? ⟨b, off + 5 * k + j, none⟩ = some (peC (ps.getD k pe0) (us k) j)) := Lib.hid (fun j hj => (hB.out.cell (p := ⟨b, off + 5 * k + j, none⟩) hb).trans (hc k HLT.out j hj))
      have HPV := Lib.hid (fun (i : Nat) (hi : i < n) => hc i hi 0 (by decide))
      have HBW := Lib.hid hb
      have GI := Lib.hid (H0.out.2 k (by rw [HN.out]; exact hlt))
      have OF := Lib.hid (FF.out k HLT.out)
      have OA : Hid (okPe ps k = true → ∀ i, i < k + 1 → okPe ps i = true) := Lib.hid (fun h i hi => by
        by_cases e : i = k
        · subst e; exact h
        · exact hA.out i (by omega))
      obtain ⟨p, hp⟩ : ∃ y, ps.getD k pe0 = y := ⟨_, rfl⟩
      obtain ⟨s, hs⟩ : ∃ y, us k = y := ⟨_, rfl⟩
      have HD := Lib.hid (okR hp)
      obtain ⟨ok, hok⟩ : ∃ y, okPe ps k = y := ⟨_, rfl⟩
      rw [hok] at OF OA HD
      rw [hp, hs] at HCK GI
      have p1 : (k : Int) + 1 ≤ 1000 := by omega
      clear hc hcap hb hp hs hlt hA hok
      go_upto_region 4 with fail
      clear d0 d1
      go_wp2_with (first | ((with_reducible (show wpList _ _ _ (Oper.mk (some 14) _ _ _ _ _ :: _) _ _)); refine Hid.out ?_))
      refine Lib.hid ?_
      refine wpList_load_elem rfl 50 (.tmp 13) rfl b (off + k * 5) rfl 5 off k (by rw [Nat.mul_comm]) (peC p s) HCK.out _ Tryz.underlying50 rfl (by kernel_rfl) ?_
      have B3 := hB
      clear hB HCK
      have Zr := Lib.hid (RowV.new w3 50 5 (peC pe0 pe00))
      go_upto_region 5 with ((with_reducible (show wpList _ _ _ (Oper.mk none _ _ _ _ _ :: _) _ _)); refine wpList_store_rowV (o := ⟨none, .store 50 (.tmp 4) (.tmp 14), _, _, _, _⟩) rfl 50 (.tmp 4) (.tmp 14) rfl w3.heap.size rfl 5 50 _ (peC p s) rfl Zr.out (by kernel_rfl) (fun j _ => peC_one p s j) ?_; intro w4 X4 o4)
      have b4 : Below w3.heap.size w3 w4 := ((Below.refl _ _).alloc (Nat.le_refl _) _).trans (o4.out.below (Nat.le_refl _) (by rw [World.size_alloc]; omega))
      have B4 := Lib.hid (B3.out.trans (b4.mono B3.out.size))
      clear b4 o4 Zr B3
      have x0 : w4.cell? ⟨w3.heap.size, 0, none⟩ = some (.int .i64 p.i) := pe_cell X4.out (i := 0) (by decide)
      have x1 : w4.cell? ⟨w3.heap.size, 1, none⟩ = some (.int .i64 p.r) := pe_cell X4.out (i := 1) (by decide)
      have x4 : w4.cell? ⟨w3.heap.size, 4, none⟩ = some (.int .i64 p.c) := pe_cell X4.out (i := 4) (by decide)
      have CK : Hid (∀ W, Calls Tryz.prog 24 #[.int .i64 p.r] W fun e w' => e = .returned (.int .i64 (if elemB p.r then 0 else 40)) ∧ Below W.heap.size W w') := Lib.hid (fun W => (rcheck_any p.r W).mono fun e w' ⟨h, hw⟩ => ⟨h, by rw [← hw]; exact Below.refl _ _⟩)
      have XP : Hid (∀ j, k = j + 1 → w4.cell? ⟨b, off + 5 * j, none⟩ = some (.int .i64 (ps.getD j pe0).i)) := Lib.hid (fun j hj => (B4.out.cell (p := ⟨b, off + 5 * j, none⟩) HBW.out).trans (HPV.out j (by have := HLT.out; omega)))
      have GK : Hid (∀ W, Below w.heap.size w W → Calls Tryz.prog 25 #[.slice (some ⟨b, off, none⟩) n lc, .agg (rowF 5 (peC p s))] W fun e w' => e = .returned (.bool (cntB p && allB (grdB ps p) p.gs.length)) ∧ Below W.heap.size W w') := Lib.hid (fun W hb => GC.out p s W hb GI.out.1 (GI.out.2.below hb))
      obtain ⟨gg, hgg⟩ : ∃ y, (cntB p && allB (grdB ps p) p.gs.length) = y := ⟨_, rfl⟩
      rw [hgg] at GK HD
      clear hgg GI
      obtain ⟨pi, hpi⟩ : ∃ y, p.i = y := ⟨_, rfl⟩
      obtain ⟨pr, hpr⟩ : ∃ y, p.r = y := ⟨_, rfl⟩
      obtain ⟨pc, hpc⟩ : ∃ y, p.c = y := ⟨_, rfl⟩
      rw [hpi] at x0 HD
      rw [hpr] at x1 CK HD
      rw [hpc] at x4 HD
      clear hpi hpr hpc
      obtain ⟨ev, hev⟩ : ∃ y, elemB pr = y := ⟨_, rfl⟩
      rw [hev] at CK HD
      clear hev
      dsimp only [Act.put]
      go_cut [3, 59] from 15 to 59 (fun s3 s59 wx => s3 = .int .i64 (k : Int) ∧ s59 = .bool (!ok) ∧ Hid (Below w.heap.size w wx))
      case first =>
        have LX := Lib.hid X4.out.lt
        have LB : Hid (b < w4.heap.size) := Lib.hid (by have h1 := HBW.out; have h2 := B4.out.size; omega)
        have X0 := Lib.hid x0
        have X1 := Lib.hid x1
        have X4c := Lib.hid x4
        clear x0 x1 x4
        by_cases k0 : k = 0
        · subst k0
          rw [show decide ((0 : Nat) = 0) = true from rfl, Bool.true_or, Bool.true_and] at HD
          clear XP HPV
          cases n0 : decide (pi < 0)
          rotate_left
          · skip
            obtain rfl : ok = false := by rw [HD.out]; simp [n0]
            clear HD OF OA
            refine Tc.wp_region_plan (keep w4.heap.size) 45 [] (.fl 0 (.fl 1 (.fl 2 (.fl 3 (.fl 4 (.fl 5 (.fl 6 (.fl 7 (.fl 8 (.fl 9 (.fl 10 (.fl 11 (.fl 12 (.fl 13 (.fl 14 (.fl 15 (.fl 16 (.fl 17 (.fl 18 (.fl 19 (.fl 20 (.fl 21 (.fl 22 (.fl 23 (.fl 24 (.fl 25 (.one 26 (.fl 27 (.fl 28 (.fl 29 (.fl 30 (.fl 31 (.one 32 (.fl 33 (.fl 34 (.fl 35 (.fl 36 (.fl 37 (.fl 38 (.fl 39 (.fl 40 (.fl 41 (.fl 42 (.fl 43 (.fl 44 .done))))))))))))))))))))))))))))))))))))))))))))) (by kernel_rfl) (by kernel_rfl) ?_
            intro w5 b5 e5
            have BB5 : Hid (Below w4.heap.size w4 w5) := Lib.hid b5
            clear b5 e5
            refine Tc.plan_floats [0, 1, 2, 3, 4, 5, 6, 7, 8, 9, 10, 11, 12, 13, 14, 15, 16, 17, 18, 19, 20, 21, 22, 23, 24, 25] [_, _, _, _, _, _, _, _, _, _, _, _, _, _, _, _, _, _, _, _, _, _, _, _, _, _] rfl ?_
            dsimp only [List.getElem_toArray, List.getElem_cons_succ, List.getElem_cons_zero]
            repeat (first | go_big_quiet_skip | (go_big_quiet_want; go_big_quiet_op; first | go_big_quiet_on | (refine ⟨_, fun _ _ => rfl, ?_⟩; go_big_quiet_on)))
            refine wpQuiet_load_cell rfl 3 (.tmp 15) rfl w3.heap.size 0 rfl _ Tryz.underlying3 rfl (.int .i64 pi) (fun W hW => cell_keep (n := w4.heap.size) ((BB5.out.cell (p := ⟨w3.heap.size, 0, none⟩) LX.out).trans X0.out) (LX.out) hW) ?_
            simp only [Act.put, List.setIfInBounds_toArray, List.set_cons_succ, List.set_cons_zero]
            repeat (first | go_big_quiet_skip | (go_big_quiet_want; go_big_quiet_op; first | go_big_quiet_on | (refine ⟨_, fun _ _ => rfl, ?_⟩; go_big_quiet_on)))
            refine wpQuiet_nil ?_
            refine Tc.plan_one 26 rfl (fun K hK => ?_)
            refine wpList_pass rfl ?_
            refine hK _ _ (keep_below (Below.refl _ _)) ?_
            clear hK K
            (try dsimp only [Act.put])
            refine Tc.plan_floats [27, 28, 29, 30, 31] [_, _, _, _, _] rfl ?_
            dsimp only [List.getElem_toArray, List.getElem_cons_succ, List.getElem_cons_zero]
            (try simp only [List.setIfInBounds_toArray, List.set_cons_succ, List.set_cons_zero])
            repeat (first | go_big_quiet_skip | (go_big_quiet_want; go_big_quiet_op; first | go_big_quiet_on | (refine ⟨_, fun _ _ => rfl, ?_⟩; go_big_quiet_on)))
            refine wpQuiet_nil ?_
            refine Tc.plan_one 32 rfl (fun K hK => ?_)
            refine wpList_pass rfl ?_
            refine hK _ _ (keep_below (Below.refl _ _)) ?_
            clear hK K
            (try dsimp only [Act.put])
            refine Tc.plan_floats [33, 34, 35, 36, 37, 38, 39, 40, 41, 42, 43, 44] [_, _, _, _, _, _, _, _, _, _, _, _] rfl ?_
            dsimp only [List.getElem_toArray, List.getElem_cons_succ, List.getElem_cons_zero]
            (try simp only [List.setIfInBounds_toArray, List.set_cons_succ, List.set_cons_zero])
            repeat (first | go_big_quiet_skip | (go_big_quiet_want; go_big_quiet_op; first | go_big_quiet_on | (refine ⟨_, fun _ _ => rfl, ?_⟩; go_big_quiet_on)))
            refine wpQuiet_nil ?_
            refine Tc.plan_done (l := []) rfl (fun K hK => ?_)
            go_wp2_with fail
            go_meet
            exact ⟨rfl, rfl, Lib.hid (B4.out.trans (BB5.out.mono B4.out.size))⟩
          cases n1 : decide (64 ≤ pi)
          rotate_left
          · skip
            obtain rfl : ok = false := by rw [HD.out]; simp [n0, n1]
            clear HD OF OA
            refine Tc.wp_region_plan (keep w4.heap.size) 45 [] (.fl 0 (.fl 1 (.fl 2 (.fl 3 (.fl 4 (.fl 5 (.fl 6 (.fl 7 (.fl 8 (.fl 9 (.fl 10 (.fl 11 (.fl 12 (.fl 13 (.fl 14 (.fl 15 (.fl 16 (.fl 17 (.fl 18 (.fl 19 (.fl 20 (.fl 21 (.fl 22 (.fl 23 (.fl 24 (.fl 25 (.one 26 (.fl 27 (.fl 28 (.fl 29 (.fl 30 (.fl 31 (.one 32 (.fl 33 (.fl 34 (.fl 35 (.fl 36 (.fl 37 (.fl 38 (.fl 39 (.fl 40 (.fl 41 (.fl 42 (.fl 43 (.fl 44 .done))))))))))))))))))))))))))))))))))))))))))))) (by kernel_rfl) (by kernel_rfl) ?_
            intro w5 b5 e5
            have BB5 : Hid (Below w4.heap.size w4 w5) := Lib.hid b5
            clear b5 e5
            refine Tc.plan_floats [0, 1, 2, 3, 4, 5, 6, 7, 8, 9, 10, 11, 12, 13, 14, 15, 16, 17, 18, 19, 20, 21, 22, 23, 24, 25] [_, _, _, _, _, _, _, _, _, _, _, _, _, _, _, _, _, _, _, _, _, _, _, _, _, _] rfl ?_
            dsimp only [List.getElem_toArray, List.getElem_cons_succ, List.getElem_cons_zero]
            repeat (first | go_big_quiet_skip | (go_big_quiet_want; go_big_quiet_op; first | go_big_quiet_on | (refine ⟨_, fun _ _ => rfl, ?_⟩; go_big_quiet_on)))
            refine wpQuiet_load_cell rfl 3 (.tmp 15) rfl w3.heap.size 0 rfl _ Tryz.underlying3 rfl (.int .i64 pi) (fun W hW => cell_keep (n := w4.heap.size) ((BB5.out.cell (p := ⟨w3.heap.size, 0, none⟩) LX.out).trans X0.out) (LX.out) hW) ?_
            simp only [Act.put, List.setIfInBounds_toArray, List.set_cons_succ, List.set_cons_zero]
            repeat (first | go_big_quiet_skip | (go_big_quiet_want; go_big_quiet_op; first | go_big_quiet_on | (refine ⟨_, fun _ _ => rfl, ?_⟩; go_big_quiet_on)))
            refine wpQuiet_unguard rfl ?_
            repeat (first | go_big_quiet_skip | (go_big_quiet_want; go_big_quiet_op; first | go_big_quiet_on | (refine ⟨_, fun _ _ => rfl, ?_⟩; go_big_quiet_on)))
            refine wpQuiet_load_cell rfl 3 (.tmp 19) rfl w3.heap.size 0 rfl _ Tryz.underlying3 rfl (.int .i64 pi) (fun W hW => cell_keep (n := w4.heap.size) ((BB5.out.cell (p := ⟨w3.heap.size, 0, none⟩) LX.out).trans X0.out) (LX.out) hW) ?_
            simp only [Act.put, List.setIfInBounds_toArray, List.set_cons_succ, List.set_cons_zero]
            repeat (first | go_big_quiet_skip | (go_big_quiet_want; go_big_quiet_op; first | go_big_quiet_on | (refine ⟨_, fun _ _ => rfl, ?_⟩; go_big_quiet_on)))
            refine wpQuiet_nil ?_
            refine Tc.plan_one 26 rfl (fun K hK => ?_)
            refine wpList_pass rfl ?_
            refine hK _ _ (keep_below (Below.refl _ _)) ?_
            clear hK K
            (try dsimp only [Act.put])
            refine Tc.plan_floats [27, 28, 29, 30, 31] [_, _, _, _, _] rfl ?_
            dsimp only [List.getElem_toArray, List.getElem_cons_succ, List.getElem_cons_zero]
            (try simp only [List.setIfInBounds_toArray, List.set_cons_succ, List.set_cons_zero])
            repeat (first | go_big_quiet_skip | (go_big_quiet_want; go_big_quiet_op; first | go_big_quiet_on | (refine ⟨_, fun _ _ => rfl, ?_⟩; go_big_quiet_on)))
            refine wpQuiet_nil ?_
            refine Tc.plan_one 32 rfl (fun K hK => ?_)
            refine wpList_pass rfl ?_
            refine hK _ _ (keep_below (Below.refl _ _)) ?_
            clear hK K
            (try dsimp only [Act.put])
            refine Tc.plan_floats [33, 34, 35, 36, 37, 38, 39, 40, 41, 42, 43, 44] [_, _, _, _, _, _, _, _, _, _, _, _] rfl ?_
            dsimp only [List.getElem_toArray, List.getElem_cons_succ, List.getElem_cons_zero]
            (try simp only [List.setIfInBounds_toArray, List.set_cons_succ, List.set_cons_zero])
            repeat (first | go_big_quiet_skip | (go_big_quiet_want; go_big_quiet_op; first | go_big_quiet_on | (refine ⟨_, fun _ _ => rfl, ?_⟩; go_big_quiet_on)))
            refine wpQuiet_nil ?_
            refine Tc.plan_done (l := []) rfl (fun K hK => ?_)
            go_wp2_with fail
            go_meet
            exact ⟨rfl, rfl, Lib.hid (B4.out.trans (BB5.out.mono B4.out.size))⟩
          cases ev
          · skip
            obtain rfl : ok = false := by rw [HD.out]; simp [n0, n1]
            clear HD OF OA
            refine Tc.wp_region_plan (keep w4.heap.size) 45 [] (.fl 0 (.fl 1 (.fl 2 (.fl 3 (.fl 4 (.fl 5 (.fl 6 (.fl 7 (.fl 8 (.fl 9 (.fl 10 (.fl 11 (.fl 12 (.fl 13 (.fl 14 (.fl 15 (.fl 16 (.fl 17 (.fl 18 (.fl 19 (.fl 20 (.fl 21 (.fl 22 (.fl 23 (.fl 24 (.fl 25 (.one 26 (.fl 27 (.fl 28 (.fl 29 (.fl 30 (.fl 31 (.one 32 (.fl 33 (.fl 34 (.fl 35 (.fl 36 (.fl 37 (.fl 38 (.fl 39 (.fl 40 (.fl 41 (.fl 42 (.fl 43 (.fl 44 .done))))))))))))))))))))))))))))))))))))))))))))) (by kernel_rfl) (by kernel_rfl) ?_
            intro w5 b5 e5
            have BB5 : Hid (Below w4.heap.size w4 w5) := Lib.hid b5
            clear b5 e5
            refine Tc.plan_floats [0, 1, 2, 3, 4, 5, 6, 7, 8, 9, 10, 11, 12, 13, 14, 15, 16, 17, 18, 19, 20, 21, 22, 23, 24, 25] [_, _, _, _, _, _, _, _, _, _, _, _, _, _, _, _, _, _, _, _, _, _, _, _, _, _] rfl ?_
            dsimp only [List.getElem_toArray, List.getElem_cons_succ, List.getElem_cons_zero]
            repeat (first | go_big_quiet_skip | (go_big_quiet_want; go_big_quiet_op; first | go_big_quiet_on | (refine ⟨_, fun _ _ => rfl, ?_⟩; go_big_quiet_on)))
            refine wpQuiet_load_cell rfl 3 (.tmp 15) rfl w3.heap.size 0 rfl _ Tryz.underlying3 rfl (.int .i64 pi) (fun W hW => cell_keep (n := w4.heap.size) ((BB5.out.cell (p := ⟨w3.heap.size, 0, none⟩) LX.out).trans X0.out) (LX.out) hW) ?_
            simp only [Act.put, List.setIfInBounds_toArray, List.set_cons_succ, List.set_cons_zero]
            repeat (first | go_big_quiet_skip | (go_big_quiet_want; go_big_quiet_op; first | go_big_quiet_on | (refine ⟨_, fun _ _ => rfl, ?_⟩; go_big_quiet_on)))
            refine wpQuiet_unguard rfl ?_
            repeat (first | go_big_quiet_skip | (go_big_quiet_want; go_big_quiet_op; first | go_big_quiet_on | (refine ⟨_, fun _ _ => rfl, ?_⟩; go_big_quiet_on)))
            refine wpQuiet_load_cell rfl 3 (.tmp 19) rfl w3.heap.size 0 rfl _ Tryz.underlying3 rfl (.int .i64 pi) (fun W hW => cell_keep (n := w4.heap.size) ((BB5.out.cell (p := ⟨w3.heap.size, 0, none⟩) LX.out).trans X0.out) (LX.out) hW) ?_
            simp only [Act.put, List.setIfInBounds_toArray, List.set_cons_succ, List.set_cons_zero]
            repeat (first | go_big_quiet_skip | (go_big_quiet_want; go_big_quiet_op; first | go_big_quiet_on | (refine ⟨_, fun _ _ => rfl, ?_⟩; go_big_quiet_on)))
            refine wpQuiet_unguard rfl ?_
            repeat (first | go_big_quiet_skip | (go_big_quiet_want; go_big_quiet_op; first | go_big_quiet_on | (refine ⟨_, fun _ _ => rfl, ?_⟩; go_big_quiet_on)))
            refine wpQuiet_load_cell rfl 3 (.tmp 39) rfl w3.heap.size 1 rfl _ Tryz.underlying3 rfl (.int .i64 pr) (fun W hW => cell_keep (n := w4.heap.size) ((BB5.out.cell (p := ⟨w3.heap.size, 1, none⟩) LX.out).trans X1.out) (LX.out) hW) ?_
            simp only [Act.put, List.setIfInBounds_toArray, List.set_cons_succ, List.set_cons_zero]
            repeat (first | go_big_quiet_skip | (go_big_quiet_want; go_big_quiet_op; first | go_big_quiet_on | (refine ⟨_, fun _ _ => rfl, ?_⟩; go_big_quiet_on)))
            refine wpQuiet_nil ?_
            refine Tc.plan_one 26 rfl (fun K hK => ?_)
            go_wp2_with fail
            refine (CK.out _).mono ?_
            rintro e w6 ⟨rfl, b6⟩
            have bb := b6.mono BB5.out.size
            have BB6 := Lib.hid (BB5.out.trans bb)
            go_wp2_with fail
            refine hK _ _ (keep_below bb) ?_
            clear hK K bb b6 BB5
            refine Tc.plan_floats [27, 28, 29, 30, 31] [_, _, _, _, _] rfl ?_
            dsimp only [List.getElem_toArray, List.getElem_cons_succ, List.getElem_cons_zero]
            repeat (first | go_big_quiet_skip | (go_big_quiet_want; go_big_quiet_op; first | go_big_quiet_on | (refine ⟨_, fun _ _ => rfl, ?_⟩; go_big_quiet_on)))
            refine wpQuiet_nil ?_
            refine Tc.plan_one 32 rfl (fun K hK => ?_)
            refine wpList_pass rfl ?_
            refine hK _ _ (keep_below (Below.refl _ _)) ?_
            clear hK K
            (try dsimp only [Act.put])
            refine Tc.plan_floats [33, 34, 35, 36, 37, 38, 39, 40, 41, 42, 43, 44] [_, _, _, _, _, _, _, _, _, _, _, _] rfl ?_
            dsimp only [List.getElem_toArray, List.getElem_cons_succ, List.getElem_cons_zero]
            (try simp only [List.setIfInBounds_toArray, List.set_cons_succ, List.set_cons_zero])
            repeat (first | go_big_quiet_skip | (go_big_quiet_want; go_big_quiet_op; first | go_big_quiet_on | (refine ⟨_, fun _ _ => rfl, ?_⟩; go_big_quiet_on)))
            refine wpQuiet_nil ?_
            refine Tc.plan_done (l := []) rfl (fun K hK => ?_)
            go_wp2_with fail
            go_meet
            exact ⟨rfl, rfl, Lib.hid (B4.out.trans (BB6.out.mono B4.out.size))⟩
          cases gg
          · skip
            obtain rfl : ok = false := by rw [HD.out]; simp [n0, n1]
            clear HD OF OA
            refine Tc.wp_region_plan (keep w4.heap.size) 45 [] (.fl 0 (.fl 1 (.fl 2 (.fl 3 (.fl 4 (.fl 5 (.fl 6 (.fl 7 (.fl 8 (.fl 9 (.fl 10 (.fl 11 (.fl 12 (.fl 13 (.fl 14 (.fl 15 (.fl 16 (.fl 17 (.fl 18 (.fl 19 (.fl 20 (.fl 21 (.fl 22 (.fl 23 (.fl 24 (.fl 25 (.one 26 (.fl 27 (.fl 28 (.fl 29 (.fl 30 (.fl 31 (.one 32 (.fl 33 (.fl 34 (.fl 35 (.fl 36 (.fl 37 (.fl 38 (.fl 39 (.fl 40 (.fl 41 (.fl 42 (.fl 43 (.fl 44 .done))))))))))))))))))))))))))))))))))))))))))))) (by kernel_rfl) (by kernel_rfl) ?_
            intro w5 b5 e5
            have BB5 : Hid (Below w4.heap.size w4 w5) := Lib.hid b5
            clear b5 e5
            refine Tc.plan_floats [0, 1, 2, 3, 4, 5, 6, 7, 8, 9, 10, 11, 12, 13, 14, 15, 16, 17, 18, 19, 20, 21, 22, 23, 24, 25] [_, _, _, _, _, _, _, _, _, _, _, _, _, _, _, _, _, _, _, _, _, _, _, _, _, _] rfl ?_
            dsimp only [List.getElem_toArray, List.getElem_cons_succ, List.getElem_cons_zero]
            repeat (first | go_big_quiet_skip | (go_big_quiet_want; go_big_quiet_op; first | go_big_quiet_on | (refine ⟨_, fun _ _ => rfl, ?_⟩; go_big_quiet_on)))
            refine wpQuiet_load_cell rfl 3 (.tmp 15) rfl w3.heap.size 0 rfl _ Tryz.underlying3 rfl (.int .i64 pi) (fun W hW => cell_keep (n := w4.heap.size) ((BB5.out.cell (p := ⟨w3.heap.size, 0, none⟩) LX.out).trans X0.out) (LX.out) hW) ?_
            simp only [Act.put, List.setIfInBounds_toArray, List.set_cons_succ, List.set_cons_zero]
            repeat (first | go_big_quiet_skip | (go_big_quiet_want; go_big_quiet_op; first | go_big_quiet_on | (refine ⟨_, fun _ _ => rfl, ?_⟩; go_big_quiet_on)))
            refine wpQuiet_unguard rfl ?_
            repeat (first | go_big_quiet_skip | (go_big_quiet_want; go_big_quiet_op; first | go_big_quiet_on | (refine ⟨_, fun _ _ => rfl, ?_⟩; go_big_quiet_on)))
            refine wpQuiet_load_cell rfl 3 (.tmp 19) rfl w3.heap.size 0 rfl _ Tryz.underlying3 rfl (.int .i64 pi) (fun W hW => cell_keep (n := w4.heap.size) ((BB5.out.cell (p := ⟨w3.heap.size, 0, none⟩) LX.out).trans X0.out) (LX.out) hW) ?_
            simp only [Act.put, List.setIfInBounds_toArray, List.set_cons_succ, List.set_cons_zero]
            repeat (first | go_big_quiet_skip | (go_big_quiet_want; go_big_quiet_op; first | go_big_quiet_on | (refine ⟨_, fun _ _ => rfl, ?_⟩; go_big_quiet_on)))
            refine wpQuiet_unguard rfl ?_
            repeat (first | go_big_quiet_skip | (go_big_quiet_want; go_big_quiet_op; first | go_big_quiet_on | (refine ⟨_, fun _ _ => rfl, ?_⟩; go_big_quiet_on)))
            refine wpQuiet_load_cell rfl 3 (.tmp 39) rfl w3.heap.size 1 rfl _ Tryz.underlying3 rfl (.int .i64 pr) (fun W hW => cell_keep (n := w4.heap.size) ((BB5.out.cell (p := ⟨w3.heap.size, 1, none⟩) LX.out).trans X1.out) (LX.out) hW) ?_
            simp only [Act.put, List.setIfInBounds_toArray, List.set_cons_succ, List.set_cons_zero]
            repeat (first | go_big_quiet_skip | (go_big_quiet_want; go_big_quiet_op; first | go_big_quiet_on | (refine ⟨_, fun _ _ => rfl, ?_⟩; go_big_quiet_on)))
            refine wpQuiet_nil ?_
            refine Tc.plan_one 26 rfl (fun K hK => ?_)
            go_wp2_with fail
            refine (CK.out _).mono ?_
            rintro e w6 ⟨rfl, b6⟩
            have bb := b6.mono BB5.out.size
            have BB6 := Lib.hid (BB5.out.trans bb)
            go_wp2_with fail
            refine hK _ _ (keep_below bb) ?_
            clear hK K bb b6 BB5
            refine Tc.plan_floats [27, 28, 29, 30, 31] [_, _, _, _, _] rfl ?_
            dsimp only [List.getElem_toArray, List.getElem_cons_succ, List.getElem_cons_zero]
            repeat (first | go_big_quiet_skip | (go_big_quiet_want; go_big_quiet_op; first | go_big_quiet_on | (refine ⟨_, fun _ _ => rfl, ?_⟩; go_big_quiet_on)))
            refine wpQuiet_unguard rfl ?_
            refine wpQuiet_load_part rfl 50 (.tmp 4) rfl w3.heap.size 0 rfl 5 5 _ ((peC p s)) ((peC p s)) (fun W hW => row_keep (n := w4.heap.size) ((X4.out).below BB6.out) (LX.out) hW) (by decide) (fun j _ => by rw [Nat.zero_add]) _ Tryz.underlying50 rfl (by kernel_rfl) ?_
            simp only [Act.put, List.setIfInBounds_toArray, List.set_cons_succ, List.set_cons_zero]
            repeat (first | go_big_quiet_skip | (go_big_quiet_want; go_big_quiet_op; first | go_big_quiet_on | (refine ⟨_, fun _ _ => rfl, ?_⟩; go_big_quiet_on)))
            refine wpQuiet_nil ?_
            refine Tc.plan_one 32 rfl (fun K hK => ?_)
            go_wp2_with fail
            refine (GK.out _ (B4.out.trans (BB6.out.mono B4.out.size))).mono ?_
            rintro e w7 ⟨rfl, b7⟩
            have bb := b7.mono BB6.out.size
            have BB7 := Lib.hid (BB6.out.trans bb)
            go_wp2_with fail
            refine hK _ _ (keep_below bb) ?_
            clear hK K bb b7 BB6
            refine Tc.plan_floats [33, 34, 35, 36, 37, 38, 39, 40, 41, 42, 43, 44] [_, _, _, _, _, _, _, _, _, _, _, _] rfl ?_
            dsimp only [List.getElem_toArray, List.getElem_cons_succ, List.getElem_cons_zero]
            repeat (first | go_big_quiet_skip | (go_big_quiet_want; go_big_quiet_op; first | go_big_quiet_on | (refine ⟨_, fun _ _ => rfl, ?_⟩; go_big_quiet_on)))
            refine wpQuiet_nil ?_
            refine Tc.plan_done (l := []) rfl (fun K hK => ?_)
            go_wp2_with fail
            go_meet
            exact ⟨rfl, rfl, Lib.hid (B4.out.trans (BB7.out.mono B4.out.size))⟩
          cases n4 : decide (pc < 0)
          rotate_left
          · skip
            obtain rfl : ok = false := by rw [HD.out]; simp [n0, n1, n4]
            clear HD OF OA
            refine Tc.wp_region_plan (keep w4.heap.size) 45 [] (.fl 0 (.fl 1 (.fl 2 (.fl 3 (.fl 4 (.fl 5 (.fl 6 (.fl 7 (.fl 8 (.fl 9 (.fl 10 (.fl 11 (.fl 12 (.fl 13 (.fl 14 (.fl 15 (.fl 16 (.fl 17 (.fl 18 (.fl 19 (.fl 20 (.fl 21 (.fl 22 (.fl 23 (.fl 24 (.fl 25 (.one 26 (.fl 27 (.fl 28 (.fl 29 (.fl 30 (.fl 31 (.one 32 (.fl 33 (.fl 34 (.fl 35 (.fl 36 (.fl 37 (.fl 38 (.fl 39 (.fl 40 (.fl 41 (.fl 42 (.fl 43 (.fl 44 .done))))))))))))))))))))))))))))))))))))))))))))) (by kernel_rfl) (by kernel_rfl) ?_
            intro w5 b5 e5
            have BB5 : Hid (Below w4.heap.size w4 w5) := Lib.hid b5
            clear b5 e5
            refine Tc.plan_floats [0, 1, 2, 3, 4, 5, 6, 7, 8, 9, 10, 11, 12, 13, 14, 15, 16, 17, 18, 19, 20, 21, 22, 23, 24, 25] [_, _, _, _, _, _, _, _, _, _, _, _, _, _, _, _, _, _, _, _, _, _, _, _, _, _] rfl ?_
            dsimp only [List.getElem_toArray, List.getElem_cons_succ, List.getElem_cons_zero]
            repeat (first | go_big_quiet_skip | (go_big_quiet_want; go_big_quiet_op; first | go_big_quiet_on | (refine ⟨_, fun _ _ => rfl, ?_⟩; go_big_quiet_on)))
            refine wpQuiet_load_cell rfl 3 (.tmp 15) rfl w3.heap.size 0 rfl _ Tryz.underlying3 rfl (.int .i64 pi) (fun W hW => cell_keep (n := w4.heap.size) ((BB5.out.cell (p := ⟨w3.heap.size, 0, none⟩) LX.out).trans X0.out) (LX.out) hW) ?_
            simp only [Act.put, List.setIfInBounds_toArray, List.set_cons_succ, List.set_cons_zero]
            repeat (first | go_big_quiet_skip | (go_big_quiet_want; go_big_quiet_op; first | go_big_quiet_on | (refine ⟨_, fun _ _ => rfl, ?_⟩; go_big_quiet_on)))
            refine wpQuiet_unguard rfl ?_
            repeat (first | go_big_quiet_skip | (go_big_quiet_want; go_big_quiet_op; first | go_big_quiet_on | (refine ⟨_, fun _ _ => rfl, ?_⟩; go_big_quiet_on)))
            refine wpQuiet_load_cell rfl 3 (.tmp 19) rfl w3.heap.size 0 rfl _ Tryz.underlying3 rfl (.int .i64 pi) (fun W hW => cell_keep (n := w4.heap.size) ((BB5.out.cell (p := ⟨w3.heap.size, 0, none⟩) LX.out).trans X0.out) (LX.out) hW) ?_
            simp only [Act.put, List.setIfInBounds_toArray, List.set_cons_succ, List.set_cons_zero]
            repeat (first | go_big_quiet_skip | (go_big_quiet_want; go_big_quiet_op; first | go_big_quiet_on | (refine ⟨_, fun _ _ => rfl, ?_⟩; go_big_quiet_on)))
            refine wpQuiet_unguard rfl ?_
            repeat (first | go_big_quiet_skip | (go_big_quiet_want; go_big_quiet_op; first | go_big_quiet_on | (refine ⟨_, fun _ _ => rfl, ?_⟩; go_big_quiet_on)))
            refine wpQuiet_load_cell rfl 3 (.tmp 39) rfl w3.heap.size 1 rfl _ Tryz.underlying3 rfl (.int .i64 pr) (fun W hW => cell_keep (n := w4.heap.size) ((BB5.out.cell (p := ⟨w3.heap.size, 1, none⟩) LX.out).trans X1.out) (LX.out) hW) ?_
            simp only [Act.put, List.setIfInBounds_toArray, List.set_cons_succ, List.set_cons_zero]
            repeat (first | go_big_quiet_skip | (go_big_quiet_want; go_big_quiet_op; first | go_big_quiet_on | (refine ⟨_, fun _ _ => rfl, ?_⟩; go_big_quiet_on)))
            refine wpQuiet_nil ?_
            refine Tc.plan_one 26 rfl (fun K hK => ?_)
            go_wp2_with fail
            refine (CK.out _).mono ?_
            rintro e w6 ⟨rfl, b6⟩
            have bb := b6.mono BB5.out.size
            have BB6 := Lib.hid (BB5.out.trans bb)
            go_wp2_with fail
            refine hK _ _ (keep_below bb) ?_
            clear hK K bb b6 BB5
            refine Tc.plan_floats [27, 28, 29, 30, 31] [_, _, _, _, _] rfl ?_
            dsimp only [List.getElem_toArray, List.getElem_cons_succ, List.getElem_cons_zero]
            repeat (first | go_big_quiet_skip | (go_big_quiet_want; go_big_quiet_op; first | go_big_quiet_on | (refine ⟨_, fun _ _ => rfl, ?_⟩; go_big_quiet_on)))
            refine wpQuiet_unguard rfl ?_
            refine wpQuiet_load_part rfl 50 (.tmp 4) rfl w3.heap.size 0 rfl 5 5 _ ((peC p s)) ((peC p s)) (fun W hW => row_keep (n := w4.heap.size) ((X4.out).below BB6.out) (LX.out) hW) (by decide) (fun j _ => by rw [Nat.zero_add]) _ Tryz.underlying50 rfl (by kernel_rfl) ?_
            simp only [Act.put, List.setIfInBounds_toArray, List.set_cons_succ, List.set_cons_zero]
            repeat (first | go_big_quiet_skip | (go_big_quiet_want; go_big_quiet_op; first | go_big_quiet_on | (refine ⟨_, fun _ _ => rfl, ?_⟩; go_big_quiet_on)))
            refine wpQuiet_nil ?_
            refine Tc.plan_one 32 rfl (fun K hK => ?_)
            go_wp2_with fail
            refine (GK.out _ (B4.out.trans (BB6.out.mono B4.out.size))).mono ?_
            rintro e w7 ⟨rfl, b7⟩
            have bb := b7.mono BB6.out.size
            have BB7 := Lib.hid (BB6.out.trans bb)
            go_wp2_with fail
            refine hK _ _ (keep_below bb) ?_
            clear hK K bb b7 BB6
            refine Tc.plan_floats [33, 34, 35, 36, 37, 38, 39, 40, 41, 42, 43, 44] [_, _, _, _, _, _, _, _, _, _, _, _] rfl ?_
            dsimp only [List.getElem_toArray, List.getElem_cons_succ, List.getElem_cons_zero]
            repeat (first | go_big_quiet_skip | (go_big_quiet_want; go_big_quiet_op; first | go_big_quiet_on | (refine ⟨_, fun _ _ => rfl, ?_⟩; go_big_quiet_on)))
            refine wpQuiet_unguard rfl ?_
            repeat (first | go_big_quiet_skip | (go_big_quiet_want; go_big_quiet_op; first | go_big_quiet_on | (refine ⟨_, fun _ _ => rfl, ?_⟩; go_big_quiet_on)))
            refine wpQuiet_load_cell rfl 3 (.tmp 51) rfl w3.heap.size 4 rfl _ Tryz.underlying3 rfl (.int .i64 pc) (fun W hW => cell_keep (n := w4.heap.size) ((BB7.out.cell (p := ⟨w3.heap.size, 4, none⟩) LX.out).trans X4c.out) (LX.out) hW) ?_
            simp only [Act.put, List.setIfInBounds_toArray, List.set_cons_succ, List.set_cons_zero]
            repeat (first | go_big_quiet_skip | (go_big_quiet_want; go_big_quiet_op; first | go_big_quiet_on | (refine ⟨_, fun _ _ => rfl, ?_⟩; go_big_quiet_on)))
            refine wpQuiet_nil ?_
            refine Tc.plan_done (l := []) rfl (fun K hK => ?_)
            go_wp2_with fail
            go_meet
            exact ⟨rfl, rfl, Lib.hid (B4.out.trans (BB7.out.mono B4.out.size))⟩
          cases n5 : decide (1048576 < pc)
          rotate_left
          · skip
            obtain rfl : ok = false := by rw [HD.out]; simp [n0, n1, n4, n5]
            clear HD OF OA
            refine Tc.wp_region_plan (keep w4.heap.size) 45 [] (.fl 0 (.fl 1 (.fl 2 (.fl 3 (.fl 4 (.fl 5 (.fl 6 (.fl 7 (.fl 8 (.fl 9 (.fl 10 (.fl 11 (.fl 12 (.fl 13 (.fl 14 (.fl 15 (.fl 16 (.fl 17 (.fl 18 (.fl 19 (.fl 20 (.fl 21 (.fl 22 (.fl 23 (.fl 24 (.fl 25 (.one 26 (.fl 27 (.fl 28 (.fl 29 (.fl 30 (.fl 31 (.one 32 (.fl 33 (.fl 34 (.fl 35 (.fl 36 (.fl 37 (.fl 38 (.fl 39 (.fl 40 (.fl 41 (.fl 42 (.fl 43 (.fl 44 .done))))))))))))))))))))))))))))))))))))))))))))) (by kernel_rfl) (by kernel_rfl) ?_
            intro w5 b5 e5
            have BB5 : Hid (Below w4.heap.size w4 w5) := Lib.hid b5
            clear b5 e5
            refine Tc.plan_floats [0, 1, 2, 3, 4, 5, 6, 7, 8, 9, 10, 11, 12, 13, 14, 15, 16, 17, 18, 19, 20, 21, 22, 23, 24, 25] [_, _, _, _, _, _, _, _, _, _, _, _, _, _, _, _, _, _, _, _, _, _, _, _, _, _] rfl ?_
            dsimp only [List.getElem_toArray, List.getElem_cons_succ, List.getElem_cons_zero]
            repeat (first | go_big_quiet_skip | (go_big_quiet_want; go_big_quiet_op; first | go_big_quiet_on | (refine ⟨_, fun _ _ => rfl, ?_⟩; go_big_quiet_on)))
            refine wpQuiet_load_cell rfl 3 (.tmp 15) rfl w3.heap.size 0 rfl _ Tryz.underlying3 rfl (.int .i64 pi) (fun W hW => cell_keep (n := w4.heap.size) ((BB5.out.cell (p := ⟨w3.heap.size, 0, none⟩) LX.out).trans X0.out) (LX.out) hW) ?_
            simp only [Act.put, List.setIfInBounds_toArray, List.set_cons_succ, List.set_cons_zero]
            repeat (first | go_big_quiet_skip | (go_big_quiet_want; go_big_quiet_op; first | go_big_quiet_on | (refine ⟨_, fun _ _ => rfl, ?_⟩; go_big_quiet_on)))
            refine wpQuiet_unguard rfl ?_
            repeat (first | go_big_quiet_skip | (go_big_quiet_want; go_big_quiet_op; first | go_big_quiet_on | (refine ⟨_, fun _ _ => rfl, ?_⟩; go_big_quiet_on)))
            refine wpQuiet_load_cell rfl 3 (.tmp 19) rfl w3.heap.size 0 rfl _ Tryz.underlying3 rfl (.int .i64 pi) (fun W hW => cell_keep (n := w4.heap.size) ((BB5.out.cell (p := ⟨w3.heap.size, 0, none⟩) LX.out).trans X0.out) (LX.out) hW) ?_
            simp only [Act.put, List.setIfInBounds_toArray, List.set_cons_succ, List.set_cons_zero]
            repeat (first | go_big_quiet_skip | (go_big_quiet_want; go_big_quiet_op; first | go_big_quiet_on | (refine ⟨_, fun _ _ => rfl, ?_⟩; go_big_quiet_on)))
            refine wpQuiet_unguard rfl ?_
            repeat (first | go_big_quiet_skip | (go_big_quiet_want; go_big_quiet_op; first | go_big_quiet_on | (refine ⟨_, fun _ _ => rfl, ?_⟩; go_big_quiet_on)))
            refine wpQuiet_load_cell rfl 3 (.tmp 39) rfl w3.heap.size 1 rfl _ Tryz.underlying3 rfl (.int .i64 pr) (fun W hW => cell_keep (n := w4.heap.size) ((BB5.out.cell (p := ⟨w3.heap.size, 1, none⟩) LX.out).trans X1.out) (LX.out) hW) ?_
            simp only [Act.put, List.setIfInBounds_toArray, List.set_cons_succ, List.set_cons_zero]
            repeat (first | go_big_quiet_skip | (go_big_quiet_want; go_big_quiet_op; first | go_big_quiet_on | (refine ⟨_, fun _ _ => rfl, ?_⟩; go_big_quiet_on)))
            refine wpQuiet_nil ?_
            refine Tc.plan_one 26 rfl (fun K hK => ?_)
            go_wp2_with fail
            refine (CK.out _).mono ?_
            rintro e w6 ⟨rfl, b6⟩
            have bb := b6.mono BB5.out.size
            have BB6 := Lib.hid (BB5.out.trans bb)
            go_wp2_with fail
            refine hK _ _ (keep_below bb) ?_
            clear hK K bb b6 BB5
            refine Tc.plan_floats [27, 28, 29, 30, 31] [_, _, _, _, _] rfl ?_
            dsimp only [List.getElem_toArray, List.getElem_cons_succ, List.getElem_cons_zero]
            repeat (first | go_big_quiet_skip | (go_big_quiet_want; go_big_quiet_op; first | go_big_quiet_on | (refine ⟨_, fun _ _ => rfl, ?_⟩; go_big_quiet_on)))
            refine wpQuiet_unguard rfl ?_
            refine wpQuiet_load_part rfl 50 (.tmp 4) rfl w3.heap.size 0 rfl 5 5 _ ((peC p s)) ((peC p s)) (fun W hW => row_keep (n := w4.heap.size) ((X4.out).below BB6.out) (LX.out) hW) (by decide) (fun j _ => by rw [Nat.zero_add]) _ Tryz.underlying50 rfl (by kernel_rfl) ?_
            simp only [Act.put, List.setIfInBounds_toArray, List.set_cons_succ, List.set_cons_zero]
            repeat (first | go_big_quiet_skip | (go_big_quiet_want; go_big_quiet_op; first | go_big_quiet_on | (refine ⟨_, fun _ _ => rfl, ?_⟩; go_big_quiet_on)))
            refine wpQuiet_nil ?_
            refine Tc.plan_one 32 rfl (fun K hK => ?_)
            go_wp2_with fail
            refine (GK.out _ (B4.out.trans (BB6.out.mono B4.out.size))).mono ?_
            rintro e w7 ⟨rfl, b7⟩
            have bb := b7.mono BB6.out.size
            have BB7 := Lib.hid (BB6.out.trans bb)
            go_wp2_with fail
            refine hK _ _ (keep_below bb) ?_
            clear hK K bb b7 BB6
            refine Tc.plan_floats [33, 34, 35, 36, 37, 38, 39, 40, 41, 42, 43, 44] [_, _, _, _, _, _, _, _, _, _, _, _] rfl ?_
            dsimp only [List.getElem_toArray, List.getElem_cons_succ, List.getElem_cons_zero]
            repeat (first | go_big_quiet_skip | (go_big_quiet_want; go_big_quiet_op; first | go_big_quiet_on | (refine ⟨_, fun _ _ => rfl, ?_⟩; go_big_quiet_on)))
            refine wpQuiet_unguard rfl ?_
            repeat (first | go_big_quiet_skip | (go_big_quiet_want; go_big_quiet_op; first | go_big_quiet_on | (refine ⟨_, fun _ _ => rfl, ?_⟩; go_big_quiet_on)))
            refine wpQuiet_load_cell rfl 3 (.tmp 51) rfl w3.heap.size 4 rfl _ Tryz.underlying3 rfl (.int .i64 pc) (fun W hW => cell_keep (n := w4.heap.size) ((BB7.out.cell (p := ⟨w3.heap.size, 4, none⟩) LX.out).trans X4c.out) (LX.out) hW) ?_
            simp only [Act.put, List.setIfInBounds_toArray, List.set_cons_succ, List.set_cons_zero]
            repeat (first | go_big_quiet_skip | (go_big_quiet_want; go_big_quiet_op; first | go_big_quiet_on | (refine ⟨_, fun _ _ => rfl, ?_⟩; go_big_quiet_on)))
            refine wpQuiet_unguard rfl ?_
            repeat (first | go_big_quiet_skip | (go_big_quiet_want; go_big_quiet_op; first | go_big_quiet_on | (refine ⟨_, fun _ _ => rfl, ?_⟩; go_big_quiet_on)))
            refine wpQuiet_load_cell rfl 3 (.tmp 56) rfl w3.heap.size 4 rfl _ Tryz.underlying3 rfl (.int .i64 pc) (fun W hW => cell_keep (n := w4.heap.size) ((BB7.out.cell (p := ⟨w3.heap.size, 4, none⟩) LX.out).trans X4c.out) (LX.out) hW) ?_
            simp only [Act.put, List.setIfInBounds_toArray, List.set_cons_succ, List.set_cons_zero]
            repeat (first | go_big_quiet_skip | (go_big_quiet_want; go_big_quiet_op; first | go_big_quiet_on | (refine ⟨_, fun _ _ => rfl, ?_⟩; go_big_quiet_on)))
            refine wpQuiet_nil ?_
            refine Tc.plan_done (l := []) rfl (fun K hK => ?_)
            go_wp2_with fail
            go_meet
            exact ⟨rfl, rfl, Lib.hid (B4.out.trans (BB7.out.mono B4.out.size))⟩
          obtain rfl : ok = true := by rw [HD.out]; simp [n0, n1, n4, n5]
          clear HD OF OA
          refine Tc.wp_region_plan (keep w4.heap.size) 45 [] (.fl 0 (.fl 1 (.fl 2 (.fl 3 (.fl 4 (.fl 5 (.fl 6 (.fl 7 (.fl 8 (.fl 9 (.fl 10 (.fl 11 (.fl 12 (.fl 13 (.fl 14 (.fl 15 (.fl 16 (.fl 17 (.fl 18 (.fl 19 (.fl 20 (.fl 21 (.fl 22 (.fl 23 (.fl 24 (.fl 25 (.one 26 (.fl 27 (.fl 28 (.fl 29 (.fl 30 (.fl 31 (.one 32 (.fl 33 (.fl 34 (.fl 35 (.fl 36 (.fl 37 (.fl 38 (.fl 39 (.fl 40 (.fl 41 (.fl 42 (.fl 43 (.fl 44 .done))))))))))))))))))))))))))))))))))))))))))))) (by kernel_rfl) (by kernel_rfl) ?_
          intro w5 b5 e5
          have BB5 : Hid (Below w4.heap.size w4 w5) := Lib.hid b5
          clear b5 e5
          refine Tc.plan_floats [0, 1, 2, 3, 4, 5, 6, 7, 8, 9, 10, 11, 12, 13, 14, 15, 16, 17, 18, 19, 20, 21, 22, 23, 24, 25] [_, _, _, _, _, _, _, _, _, _, _, _, _, _, _, _, _, _, _, _, _, _, _, _, _, _] rfl ?_
          dsimp only [List.getElem_toArray, List.getElem_cons_succ, List.getElem_cons_zero]
          repeat (first | go_big_quiet_skip | (go_big_quiet_want; go_big_quiet_op; first | go_big_quiet_on | (refine ⟨_, fun _ _ => rfl, ?_⟩; go_big_quiet_on)))
          refine wpQuiet_load_cell rfl 3 (.tmp 15) rfl w3.heap.size 0 rfl _ Tryz.underlying3 rfl (.int .i64 pi) (fun W hW => cell_keep (n := w4.heap.size) ((BB5.out.cell (p := ⟨w3.heap.size, 0, none⟩) LX.out).trans X0.out) (LX.out) hW) ?_
          simp only [Act.put, List.setIfInBounds_toArray, List.set_cons_succ, List.set_cons_zero]
          repeat (first | go_big_quiet_skip | (go_big_quiet_want; go_big_quiet_op; first | go_big_quiet_on | (refine ⟨_, fun _ _ => rfl, ?_⟩; go_big_quiet_on)))
          refine wpQuiet_unguard rfl ?_
          repeat (first | go_big_quiet_skip | (go_big_quiet_want; go_big_quiet_op; first | go_big_quiet_on | (refine ⟨_, fun _ _ => rfl, ?_⟩; go_big_quiet_on)))
          refine wpQuiet_load_cell rfl 3 (.tmp 19) rfl w3.heap.size 0 rfl _ Tryz.underlying3 rfl (.int .i64 pi) (fun W hW => cell_keep (n := w4.heap.size) ((BB5.out.cell (p := ⟨w3.heap.size, 0, none⟩) LX.out).trans X0.out) (LX.out) hW) ?_
          simp only [Act.put, List.setIfInBounds_toArray, List.set_cons_succ, List.set_cons_zero]
          repeat (first | go_big_quiet_skip | (go_big_quiet_want; go_big_quiet_op; first | go_big_quiet_on | (refine ⟨_, fun _ _ => rfl, ?_⟩; go_big_quiet_on)))
          refine wpQuiet_unguard rfl ?_
          repeat (first | go_big_quiet_skip | (go_big_quiet_want; go_big_quiet_op; first | go_big_quiet_on | (refine ⟨_, fun _ _ => rfl, ?_⟩; go_big_quiet_on)))
          refine wpQuiet_load_cell rfl 3 (.tmp 39) rfl w3.heap.size 1 rfl _ Tryz.underlying3 rfl (.int .i64 pr) (fun W hW => cell_keep (n := w4.heap.size) ((BB5.out.cell (p := ⟨w3.heap.size, 1, none⟩) LX.out).trans X1.out) (LX.out) hW) ?_
          simp only [Act.put, List.setIfInBounds_toArray, List.set_cons_succ, List.set_cons_zero]
          repeat (first | go_big_quiet_skip | (go_big_quiet_want; go_big_quiet_op; first | go_big_quiet_on | (refine ⟨_, fun _ _ => rfl, ?_⟩; go_big_quiet_on)))
          refine wpQuiet_nil ?_
          refine Tc.plan_one 26 rfl (fun K hK => ?_)
          go_wp2_with fail
          refine (CK.out _).mono ?_
          rintro e w6 ⟨rfl, b6⟩
          have bb := b6.mono BB5.out.size
          have BB6 := Lib.hid (BB5.out.trans bb)
          go_wp2_with fail
          refine hK _ _ (keep_below bb) ?_
          clear hK K bb b6 BB5
          refine Tc.plan_floats [27, 28, 29, 30, 31] [_, _, _, _, _] rfl ?_
          dsimp only [List.getElem_toArray, List.getElem_cons_succ, List.getElem_cons_zero]
          repeat (first | go_big_quiet_skip | (go_big_quiet_want; go_big_quiet_op; first | go_big_quiet_on | (refine ⟨_, fun _ _ => rfl, ?_⟩; go_big_quiet_on)))
          refine wpQuiet_unguard rfl ?_
          refine wpQuiet_load_part rfl 50 (.tmp 4) rfl w3.heap.size 0 rfl 5 5 _ ((peC p s)) ((peC p s)) (fun W hW => row_keep (n := w4.heap.size) ((X4.out).below BB6.out) (LX.out) hW) (by decide) (fun j _ => by rw [Nat.zero_add]) _ Tryz.underlying50 rfl (by kernel_rfl) ?_
          simp only [Act.put, List.setIfInBounds_toArray, List.set_cons_succ, List.set_cons_zero]
          repeat (first | go_big_quiet_skip | (go_big_quiet_want; go_big_quiet_op; first | go_big_quiet_on | (refine ⟨_, fun _ _ => rfl, ?_⟩; go_big_quiet_on)))
          refine wpQuiet_nil ?_
          refine Tc.plan_one 32 rfl (fun K hK => ?_)
          go_wp2_with fail
          refine (GK.out _ (B4.out.trans (BB6.out.mono B4.out.size))).mono ?_
          rintro e w7 ⟨rfl, b7⟩
          have bb := b7.mono BB6.out.size
          have BB7 := Lib.hid (BB6.out.trans bb)
          go_wp2_with fail
          refine hK _ _ (keep_below bb) ?_
          clear hK K bb b7 BB6
          refine Tc.plan_floats [33, 34, 35, 36, 37, 38, 39, 40, 41, 42, 43, 44] [_, _, _, _, _, _, _, _, _, _, _, _] rfl ?_
          dsimp only [List.getElem_toArray, List.getElem_cons_succ, List.getElem_cons_zero]
          repeat (first | go_big_quiet_skip | (go_big_quiet_want; go_big_quiet_op; first | go_big_quiet_on | (refine ⟨_, fun _ _ => rfl, ?_⟩; go_big_quiet_on)))
          refine wpQuiet_unguard rfl ?_
          repeat (first | go_big_quiet_skip | (go_big_quiet_want; go_big_quiet_op; first | go_big_quiet_on | (refine ⟨_, fun _ _ => rfl, ?_⟩; go_big_quiet_on)))
          refine wpQuiet_load_cell rfl 3 (.tmp 51) rfl w3.heap.size 4 rfl _ Tryz.underlying3 rfl (.int .i64 pc) (fun W hW => cell_keep (n := w4.heap.size) ((BB7.out.cell (p := ⟨w3.heap.size, 4, none⟩) LX.out).trans X4c.out) (LX.out) hW) ?_
          simp only [Act.put, List.setIfInBounds_toArray, List.set_cons_succ, List.set_cons_zero]
          repeat (first | go_big_quiet_skip | (go_big_quiet_want; go_big_quiet_op; first | go_big_quiet_on | (refine ⟨_, fun _ _ => rfl, ?_⟩; go_big_quiet_on)))
          refine wpQuiet_unguard rfl ?_
          repeat (first | go_big_quiet_skip | (go_big_quiet_want; go_big_quiet_op; first | go_big_quiet_on | (refine ⟨_, fun _ _ => rfl, ?_⟩; go_big_quiet_on)))
          refine wpQuiet_load_cell rfl 3 (.tmp 56) rfl w3.heap.size 4 rfl _ Tryz.underlying3 rfl (.int .i64 pc) (fun W hW => cell_keep (n := w4.heap.size) ((BB7.out.cell (p := ⟨w3.heap.size, 4, none⟩) LX.out).trans X4c.out) (LX.out) hW) ?_
          simp only [Act.put, List.setIfInBounds_toArray, List.set_cons_succ, List.set_cons_zero]
          repeat (first | go_big_quiet_skip | (go_big_quiet_want; go_big_quiet_op; first | go_big_quiet_on | (refine ⟨_, fun _ _ => rfl, ?_⟩; go_big_quiet_on)))
          refine wpQuiet_nil ?_
          refine Tc.plan_done (l := []) rfl (fun K hK => ?_)
          go_wp2_with fail
          go_meet
          exact ⟨rfl, rfl, Lib.hid (B4.out.trans (BB7.out.mono B4.out.size))⟩
        · obtain ⟨j, rfl⟩ : ∃ j, k = j + 1 := ⟨k - 1, by omega⟩
          have xp := XP.out j rfl
          rw [show off + 5 * j = off + j * 5 by omega] at xp
          rw [show decide (j + 1 = 0) = false from rfl, Bool.false_or, Nat.add_sub_cancel] at HD
          obtain ⟨pv, hpv⟩ : ∃ y, (ps.getD j pe0).i = y := ⟨_, rfl⟩
          rw [hpv] at xp HD
          have j0 : (0 : Int) ≤ (j : Int) := Int.natCast_nonneg j
          have j1 : (j : Int) < (n : Int) := by have := HLT.out; omega
          have j2 : IntKind.i64.wrap (j : Int) = (j : Int) := IntWalk.i64_in _ (by omega)
          have d3 : decide ((0 : Int) < (j : Int) + 1) = true := by rw [decide_eq_true_iff]; omega
          have XQ := Lib.hid xp
          clear k0 XP HPV hpv xp
          cases n0 : decide (pi < 0)
          rotate_left
          · skip
            obtain rfl : ok = false := by rw [HD.out]; simp [n0]
            clear HD OF OA
            refine Tc.wp_region_plan (keep w4.heap.size) 45 [] (.fl 0 (.fl 1 (.fl 2 (.fl 3 (.fl 4 (.fl 5 (.fl 6 (.fl 7 (.fl 8 (.fl 9 (.fl 10 (.fl 11 (.fl 12 (.fl 13 (.fl 14 (.fl 15 (.fl 16 (.fl 17 (.fl 18 (.fl 19 (.fl 20 (.fl 21 (.fl 22 (.fl 23 (.fl 24 (.fl 25 (.one 26 (.fl 27 (.fl 28 (.fl 29 (.fl 30 (.fl 31 (.one 32 (.fl 33 (.fl 34 (.fl 35 (.fl 36 (.fl 37 (.fl 38 (.fl 39 (.fl 40 (.fl 41 (.fl 42 (.fl 43 (.fl 44 .done))))))))))))))))))))))))))))))))))))))))))))) (by kernel_rfl) (by kernel_rfl) ?_
            intro w5 b5 e5
            have BB5 : Hid (Below w4.heap.size w4 w5) := Lib.hid b5
            clear b5 e5
            refine Tc.plan_floats [0, 1, 2, 3, 4, 5, 6, 7, 8, 9, 10, 11, 12, 13, 14, 15, 16, 17, 18, 19, 20, 21, 22, 23, 24, 25] [_, _, _, _, _, _, _, _, _, _, _, _, _, _, _, _, _, _, _, _, _, _, _, _, _, _] rfl ?_
            dsimp only [List.getElem_toArray, List.getElem_cons_succ, List.getElem_cons_zero]
            repeat (first | go_big_quiet_skip | (go_big_quiet_want; go_big_quiet_op; first | go_big_quiet_on | (refine ⟨_, fun _ _ => rfl, ?_⟩; go_big_quiet_on)))
            refine wpQuiet_load_cell rfl 3 (.tmp 15) rfl w3.heap.size 0 rfl _ Tryz.underlying3 rfl (.int .i64 pi) (fun W hW => cell_keep (n := w4.heap.size) ((BB5.out.cell (p := ⟨w3.heap.size, 0, none⟩) LX.out).trans X0.out) (LX.out) hW) ?_
            simp only [Act.put, List.setIfInBounds_toArray, List.set_cons_succ, List.set_cons_zero]
            repeat (first | go_big_quiet_skip | (go_big_quiet_want; go_big_quiet_op; first | go_big_quiet_on | (refine ⟨_, fun _ _ => rfl, ?_⟩; go_big_quiet_on)))
            refine wpQuiet_nil ?_
            refine Tc.plan_one 26 rfl (fun K hK => ?_)
            refine wpList_pass rfl ?_
            refine hK _ _ (keep_below (Below.refl _ _)) ?_
            clear hK K
            (try dsimp only [Act.put])
            refine Tc.plan_floats [27, 28, 29, 30, 31] [_, _, _, _, _] rfl ?_
            dsimp only [List.getElem_toArray, List.getElem_cons_succ, List.getElem_cons_zero]
            (try simp only [List.setIfInBounds_toArray, List.set_cons_succ, List.set_cons_zero])
            repeat (first | go_big_quiet_skip | (go_big_quiet_want; go_big_quiet_op; first | go_big_quiet_on | (refine ⟨_, fun _ _ => rfl, ?_⟩; go_big_quiet_on)))
            refine wpQuiet_nil ?_
            refine Tc.plan_one 32 rfl (fun K hK => ?_)
            refine wpList_pass rfl ?_
            refine hK _ _ (keep_below (Below.refl _ _)) ?_
            clear hK K
            (try dsimp only [Act.put])
            refine Tc.plan_floats [33, 34, 35, 36, 37, 38, 39, 40, 41, 42, 43, 44] [_, _, _, _, _, _, _, _, _, _, _, _] rfl ?_
            dsimp only [List.getElem_toArray, List.getElem_cons_succ, List.getElem_cons_zero]
            (try simp only [List.setIfInBounds_toArray, List.set_cons_succ, List.set_cons_zero])
            repeat (first | go_big_quiet_skip | (go_big_quiet_want; go_big_quiet_op; first | go_big_quiet_on | (refine ⟨_, fun _ _ => rfl, ?_⟩; go_big_quiet_on)))
            refine wpQuiet_nil ?_
            refine Tc.plan_done (l := []) rfl (fun K hK => ?_)
            go_wp2_with fail
            go_meet
            exact ⟨rfl, rfl, Lib.hid (B4.out.trans (BB5.out.mono B4.out.size))⟩
          cases n1 : decide (64 ≤ pi)
          rotate_left
          · skip
            obtain rfl : ok = false := by rw [HD.out]; simp [n0, n1]
            clear HD OF OA
            refine Tc.wp_region_plan (keep w4.heap.size) 45 [] (.fl 0 (.fl 1 (.fl 2 (.fl 3 (.fl 4 (.fl 5 (.fl 6 (.fl 7 (.fl 8 (.fl 9 (.fl 10 (.fl 11 (.fl 12 (.fl 13 (.fl 14 (.fl 15 (.fl 16 (.fl 17 (.fl 18 (.fl 19 (.fl 20 (.fl 21 (.fl 22 (.fl 23 (.fl 24 (.fl 25 (.one 26 (.fl 27 (.fl 28 (.fl 29 (.fl 30 (.fl 31 (.one 32 (.fl 33 (.fl 34 (.fl 35 (.fl 36 (.fl 37 (.fl 38 (.fl 39 (.fl 40 (.fl 41 (.fl 42 (.fl 43 (.fl 44 .done))))))))))))))))))))))))))))))))))))))))))))) (by kernel_rfl) (by kernel_rfl) ?_
            intro w5 b5 e5
            have BB5 : Hid (Below w4.heap.size w4 w5) := Lib.hid b5
            clear b5 e5
            refine Tc.plan_floats [0, 1, 2, 3, 4, 5, 6, 7, 8, 9, 10, 11, 12, 13, 14, 15, 16, 17, 18, 19, 20, 21, 22, 23, 24, 25] [_, _, _, _, _, _, _, _, _, _, _, _, _, _, _, _, _, _, _, _, _, _, _, _, _, _] rfl ?_
            dsimp only [List.getElem_toArray, List.getElem_cons_succ, List.getElem_cons_zero]
            repeat (first | go_big_quiet_skip | (go_big_quiet_want; go_big_quiet_op; first | go_big_quiet_on | (refine ⟨_, fun _ _ => rfl, ?_⟩; go_big_quiet_on)))
            refine wpQuiet_load_cell rfl 3 (.tmp 15) rfl w3.heap.size 0 rfl _ Tryz.underlying3 rfl (.int .i64 pi) (fun W hW => cell_keep (n := w4.heap.size) ((BB5.out.cell (p := ⟨w3.heap.size, 0, none⟩) LX.out).trans X0.out) (LX.out) hW) ?_
            simp only [Act.put, List.setIfInBounds_toArray, List.set_cons_succ, List.set_cons_zero]
            repeat (first | go_big_quiet_skip | (go_big_quiet_want; go_big_quiet_op; first | go_big_quiet_on | (refine ⟨_, fun _ _ => rfl, ?_⟩; go_big_quiet_on)))
            refine wpQuiet_unguard rfl ?_
            repeat (first | go_big_quiet_skip | (go_big_quiet_want; go_big_quiet_op; first | go_big_quiet_on | (refine ⟨_, fun _ _ => rfl, ?_⟩; go_big_quiet_on)))
            refine wpQuiet_load_cell rfl 3 (.tmp 19) rfl w3.heap.size 0 rfl _ Tryz.underlying3 rfl (.int .i64 pi) (fun W hW => cell_keep (n := w4.heap.size) ((BB5.out.cell (p := ⟨w3.heap.size, 0, none⟩) LX.out).trans X0.out) (LX.out) hW) ?_
            simp only [Act.put, List.setIfInBounds_toArray, List.set_cons_succ, List.set_cons_zero]
            repeat (first | go_big_quiet_skip | (go_big_quiet_want; go_big_quiet_op; first | go_big_quiet_on | (refine ⟨_, fun _ _ => rfl, ?_⟩; go_big_quiet_on)))
            refine wpQuiet_nil ?_
            refine Tc.plan_one 26 rfl (fun K hK => ?_)
            refine wpList_pass rfl ?_
            refine hK _ _ (keep_below (Below.refl _ _)) ?_
            clear hK K
            (try dsimp only [Act.put])
            refine Tc.plan_floats [27, 28, 29, 30, 31] [_, _, _, _, _] rfl ?_
            dsimp only [List.getElem_toArray, List.getElem_cons_succ, List.getElem_cons_zero]
            (try simp only [List.setIfInBounds_toArray, List.set_cons_succ, List.set_cons_zero])
            repeat (first | go_big_quiet_skip | (go_big_quiet_want; go_big_quiet_op; first | go_big_quiet_on | (refine ⟨_, fun _ _ => rfl, ?_⟩; go_big_quiet_on)))
            refine wpQuiet_nil ?_
            refine Tc.plan_one 32 rfl (fun K hK => ?_)
            refine wpList_pass rfl ?_
            refine hK _ _ (keep_below (Below.refl _ _)) ?_
            clear hK K
            (try dsimp only [Act.put])
            refine Tc.plan_floats [33, 34, 35, 36, 37, 38, 39, 40, 41, 42, 43, 44] [_, _, _, _, _, _, _, _, _, _, _, _] rfl ?_
            dsimp only [List.getElem_toArray, List.getElem_cons_succ, List.getElem_cons_zero]
            (try simp only [List.setIfInBounds_toArray, List.set_cons_succ, List.set_cons_zero])
            repeat (first | go_big_quiet_skip | (go_big_quiet_want; go_big_quiet_op; first | go_big_quiet_on | (refine ⟨_, fun _ _ => rfl, ?_⟩; go_big_quiet_on)))
            refine wpQuiet_nil ?_
            refine Tc.plan_done (l := []) rfl (fun K hK => ?_)
            go_wp2_with fail
            go_meet
            exact ⟨rfl, rfl, Lib.hid (B4.out.trans (BB5.out.mono B4.out.size))⟩
          cases n3 : decide (pi ≤ pv)
          rotate_left
          · skip
            obtain rfl : ok = false := by rw [HD.out]; simp [n0, n1, n3]
            clear HD OF OA
            refine Tc.wp_region_plan (keep w4.heap.size) 45 [] (.fl 0 (.fl 1 (.fl 2 (.fl 3 (.fl 4 (.fl 5 (.fl 6 (.fl 7 (.fl 8 (.fl 9 (.fl 10 (.fl 11 (.fl 12 (.fl 13 (.fl 14 (.fl 15 (.fl 16 (.fl 17 (.fl 18 (.fl 19 (.fl 20 (.fl 21 (.fl 22 (.fl 23 (.fl 24 (.fl 25 (.one 26 (.fl 27 (.fl 28 (.fl 29 (.fl 30 (.fl 31 (.one 32 (.fl 33 (.fl 34 (.fl 35 (.fl 36 (.fl 37 (.fl 38 (.fl 39 (.fl 40 (.fl 41 (.fl 42 (.fl 43 (.fl 44 .done))))))))))))))))))))))))))))))))))))))))))))) (by kernel_rfl) (by kernel_rfl) ?_
            intro w5 b5 e5
            have BB5 : Hid (Below w4.heap.size w4 w5) := Lib.hid b5
            clear b5 e5
            refine Tc.plan_floats [0, 1, 2, 3, 4, 5, 6, 7, 8, 9, 10, 11, 12, 13, 14, 15, 16, 17, 18, 19, 20, 21, 22, 23, 24, 25] [_, _, _, _, _, _, _, _, _, _, _, _, _, _, _, _, _, _, _, _, _, _, _, _, _, _] rfl ?_
            dsimp only [List.getElem_toArray, List.getElem_cons_succ, List.getElem_cons_zero]
            repeat (first | go_big_quiet_skip | (go_big_quiet_want; go_big_quiet_op; first | go_big_quiet_on | (refine ⟨_, fun _ _ => rfl, ?_⟩; go_big_quiet_on)))
            refine wpQuiet_load_cell rfl 3 (.tmp 15) rfl w3.heap.size 0 rfl _ Tryz.underlying3 rfl (.int .i64 pi) (fun W hW => cell_keep (n := w4.heap.size) ((BB5.out.cell (p := ⟨w3.heap.size, 0, none⟩) LX.out).trans X0.out) (LX.out) hW) ?_
            simp only [Act.put, List.setIfInBounds_toArray, List.set_cons_succ, List.set_cons_zero]
            repeat (first | go_big_quiet_skip | (go_big_quiet_want; go_big_quiet_op; first | go_big_quiet_on | (refine ⟨_, fun _ _ => rfl, ?_⟩; go_big_quiet_on)))
            refine wpQuiet_unguard rfl ?_
            repeat (first | go_big_quiet_skip | (go_big_quiet_want; go_big_quiet_op; first | go_big_quiet_on | (refine ⟨_, fun _ _ => rfl, ?_⟩; go_big_quiet_on)))
            refine wpQuiet_load_cell rfl 3 (.tmp 19) rfl w3.heap.size 0 rfl _ Tryz.underlying3 rfl (.int .i64 pi) (fun W hW => cell_keep (n := w4.heap.size) ((BB5.out.cell (p := ⟨w3.heap.size, 0, none⟩) LX.out).trans X0.out) (LX.out) hW) ?_
            simp only [Act.put, List.setIfInBounds_toArray, List.set_cons_succ, List.set_cons_zero]
            repeat (first | go_big_quiet_skip | (go_big_quiet_want; go_big_quiet_op; first | go_big_quiet_on | (refine ⟨_, fun _ _ => rfl, ?_⟩; go_big_quiet_on)))
            refine wpQuiet_unguard rfl ?_
            repeat (first | go_big_quiet_skip | (go_big_quiet_want; go_big_quiet_op; first | go_big_quiet_on | (refine ⟨_, fun _ _ => rfl, ?_⟩; go_big_quiet_on)))
            refine wpQuiet_load_cell rfl 3 (.tmp 27) rfl w3.heap.size 0 rfl _ Tryz.underlying3 rfl (.int .i64 pi) (fun W hW => cell_keep (n := w4.heap.size) ((BB5.out.cell (p := ⟨w3.heap.size, 0, none⟩) LX.out).trans X0.out) (LX.out) hW) ?_
            simp only [Act.put, List.setIfInBounds_toArray, List.set_cons_succ, List.set_cons_zero]
            repeat (first | go_big_quiet_skip | (go_big_quiet_want; go_big_quiet_op; first | go_big_quiet_on | (refine ⟨_, fun _ _ => rfl, ?_⟩; go_big_quiet_on)))
            refine wpQuiet_unguard rfl ?_
            repeat (first | go_big_quiet_skip | (go_big_quiet_want; go_big_quiet_op; first | go_big_quiet_on | (refine ⟨_, fun _ _ => rfl, ?_⟩; go_big_quiet_on)))
            refine wpQuiet_load_cell rfl 3 (.tmp 33) rfl b (off + j * 5) rfl _ Tryz.underlying3 rfl (.int .i64 pv) (fun W hW => cell_keep (n := w4.heap.size) ((BB5.out.cell (p := ⟨b, (off + j * 5), none⟩) LB.out).trans XQ.out) (LB.out) hW) ?_
            simp only [Act.put, List.setIfInBounds_toArray, List.set_cons_succ, List.set_cons_zero]
            repeat (first | go_big_quiet_skip | (go_big_quiet_want; go_big_quiet_op; first | go_big_quiet_on | (refine ⟨_, fun _ _ => rfl, ?_⟩; go_big_quiet_on)))
            refine wpQuiet_nil ?_
            refine Tc.plan_one 26 rfl (fun K hK => ?_)
            refine wpList_pass rfl ?_
            refine hK _ _ (keep_below (Below.refl _ _)) ?_
            clear hK K
            (try dsimp only [Act.put])
            refine Tc.plan_floats [27, 28, 29, 30, 31] [_, _, _, _, _] rfl ?_
            dsimp only [List.getElem_toArray, List.getElem_cons_succ, List.getElem_cons_zero]
            (try simp only [List.setIfInBounds_toArray, List.set_cons_succ, List.set_cons_zero])
            repeat (first | go_big_quiet_skip | (go_big_quiet_want; go_big_quiet_op; first | go_big_quiet_on | (refine ⟨_, fun _ _ => rfl, ?_⟩; go_big_quiet_on)))
            refine wpQuiet_nil ?_
            refine Tc.plan_one 32 rfl (fun K hK => ?_)
            refine wpList_pass rfl ?_
            refine hK _ _ (keep_below (Below.refl _ _)) ?_
            clear hK K
            (try dsimp only [Act.put])
            refine Tc.plan_floats [33, 34, 35, 36, 37, 38, 39, 40, 41, 42, 43, 44] [_, _, _, _, _, _, _, _, _, _, _, _] rfl ?_
            dsimp only [List.getElem_toArray, List.getElem_cons_succ, List.getElem_cons_zero]
            (try simp only [List.setIfInBounds_toArray, List.set_cons_succ, List.set_cons_zero])
            repeat (first | go_big_quiet_skip | (go_big_quiet_want; go_big_quiet_op; first | go_big_quiet_on | (refine ⟨_, fun _ _ => rfl, ?_⟩; go_big_quiet_on)))
            refine wpQuiet_nil ?_
            refine Tc.plan_done (l := []) rfl (fun K hK => ?_)
            go_wp2_with fail
            go_meet
            exact ⟨rfl, rfl, Lib.hid (B4.out.trans (BB5.out.mono B4.out.size))⟩
          cases ev
          · skip
            obtain rfl : ok = false := by rw [HD.out]; simp [n0, n1, n3]
            clear HD OF OA
            refine Tc.wp_region_plan (keep w4.heap.size) 45 [] (.fl 0 (.fl 1 (.fl 2 (.fl 3 (.fl 4 (.fl 5 (.fl 6 (.fl 7 (.fl 8 (.fl 9 (.fl 10 (.fl 11 (.fl 12 (.fl 13 (.fl 14 (.fl 15 (.fl 16 (.fl 17 (.fl 18 (.fl 19 (.fl 20 (.fl 21 (.fl 22 (.fl 23 (.fl 24 (.fl 25 (.one 26 (.fl 27 (.fl 28 (.fl 29 (.fl 30 (.fl 31 (.one 32 (.fl 33 (.fl 34 (.fl 35 (.fl 36 (.fl 37 (.fl 38 (.fl 39 (.fl 40 (.fl 41 (.fl 42 (.fl 43 (.fl 44 .done))))))))))))))))))))))))))))))))))))))))))))) (by kernel_rfl) (by kernel_rfl) ?_
            intro w5 b5 e5
            have BB5 : Hid (Below w4.heap.size w4 w5) := Lib.hid b5
            clear b5 e5
            refine Tc.plan_floats [0, 1, 2, 3, 4, 5, 6, 7, 8, 9, 10, 11, 12, 13, 14, 15, 16, 17, 18, 19, 20, 21, 22, 23, 24, 25] [_, _, _, _, _, _, _, _, _, _, _, _, _, _, _, _, _, _, _, _, _, _, _, _, _, _] rfl ?_
            dsimp only [List.getElem_toArray, List.getElem_cons_succ, List.getElem_cons_zero]
            repeat (first | go_big_quiet_skip | (go_big_quiet_want; go_big_quiet_op; first | go_big_quiet_on | (refine ⟨_, fun _ _ => rfl, ?_⟩; go_big_quiet_on)))
            refine wpQuiet_load_cell rfl 3 (.tmp 15) rfl w3.heap.size 0 rfl _ Tryz.underlying3 rfl (.int .i64 pi) (fun W hW => cell_keep (n := w4.heap.size) ((BB5.out.cell (p := ⟨w3.heap.size, 0, none⟩) LX.out).trans X0.out) (LX.out) hW) ?_
            simp only [Act.put, List.setIfInBounds_toArray, List.set_cons_succ, List.set_cons_zero]
            repeat (first | go_big_quiet_skip | (go_big_quiet_want; go_big_quiet_op; first | go_big_quiet_on | (refine ⟨_, fun _ _ => rfl, ?_⟩; go_big_quiet_on)))
            refine wpQuiet_unguard rfl ?_
            repeat (first | go_big_quiet_skip | (go_big_quiet_want; go_big_quiet_op; first | go_big_quiet_on | (refine ⟨_, fun _ _ => rfl, ?_⟩; go_big_quiet_on)))
            refine wpQuiet_load_cell rfl 3 (.tmp 19) rfl w3.heap.size 0 rfl _ Tryz.underlying3 rfl (.int .i64 pi) (fun W hW => cell_keep (n := w4.heap.size) ((BB5.out.cell (p := ⟨w3.heap.size, 0, none⟩) LX.out).trans X0.out) (LX.out) hW) ?_
            simp only [Act.put, List.setIfInBounds_toArray, List.set_cons_succ, List.set_cons_zero]
            repeat (first | go_big_quiet_skip | (go_big_quiet_want; go_big_quiet_op; first | go_big_quiet_on | (refine ⟨_, fun _ _ => rfl, ?_⟩; go_big_quiet_on)))
            refine wpQuiet_unguard rfl ?_
            repeat (first | go_big_quiet_skip | (go_big_quiet_want; go_big_quiet_op; first | go_big_quiet_on | (refine ⟨_, fun _ _ => rfl, ?_⟩; go_big_quiet_on)))
            refine wpQuiet_load_cell rfl 3 (.tmp 27) rfl w3.heap.size 0 rfl _ Tryz.underlying3 rfl (.int .i64 pi) (fun W hW => cell_keep (n := w4.heap.size) ((BB5.out.cell (p := ⟨w3.heap.size, 0, none⟩) LX.out).trans X0.out) (LX.out) hW) ?_
            simp only [Act.put, List.setIfInBounds_toArray, List.set_cons_succ, List.set_cons_zero]
            repeat (first | go_big_quiet_skip | (go_big_quiet_want; go_big_quiet_op; first | go_big_quiet_on | (refine ⟨_, fun _ _ => rfl, ?_⟩; go_big_quiet_on)))
            refine wpQuiet_unguard rfl ?_
            repeat (first | go_big_quiet_skip | (go_big_quiet_want; go_big_quiet_op; first | go_big_quiet_on | (refine ⟨_, fun _ _ => rfl, ?_⟩; go_big_quiet_on)))
            refine wpQuiet_load_cell rfl 3 (.tmp 33) rfl b (off + j * 5) rfl _ Tryz.underlying3 rfl (.int .i64 pv) (fun W hW => cell_keep (n := w4.heap.size) ((BB5.out.cell (p := ⟨b, (off + j * 5), none⟩) LB.out).trans XQ.out) (LB.out) hW) ?_
            simp only [Act.put, List.setIfInBounds_toArray, List.set_cons_succ, List.set_cons_zero]
            repeat (first | go_big_quiet_skip | (go_big_quiet_want; go_big_quiet_op; first | go_big_quiet_on | (refine ⟨_, fun _ _ => rfl, ?_⟩; go_big_quiet_on)))
            refine wpQuiet_unguard rfl ?_
            repeat (first | go_big_quiet_skip | (go_big_quiet_want; go_big_quiet_op; first | go_big_quiet_on | (refine ⟨_, fun _ _ => rfl, ?_⟩; go_big_quiet_on)))
            refine wpQuiet_load_cell rfl 3 (.tmp 39) rfl w3.heap.size 1 rfl _ Tryz.underlying3 rfl (.int .i64 pr) (fun W hW => cell_keep (n := w4.heap.size) ((BB5.out.cell (p := ⟨w3.heap.size, 1, none⟩) LX.out).trans X1.out) (LX.out) hW) ?_
            simp only [Act.put, List.setIfInBounds_toArray, List.set_cons_succ, List.set_cons_zero]
            repeat (first | go_big_quiet_skip | (go_big_quiet_want; go_big_quiet_op; first | go_big_quiet_on | (refine ⟨_, fun _ _ => rfl, ?_⟩; go_big_quiet_on)))
            refine wpQuiet_nil ?_
            refine Tc.plan_one 26 rfl (fun K hK => ?_)
            go_wp2_with fail
            refine (CK.out _).mono ?_
            rintro e w6 ⟨rfl, b6⟩
            have bb := b6.mono BB5.out.size
            have BB6 := Lib.hid (BB5.out.trans bb)
            go_wp2_with fail
            refine hK _ _ (keep_below bb) ?_
            clear hK K bb b6 BB5
            refine Tc.plan_floats [27, 28, 29, 30, 31] [_, _, _, _, _] rfl ?_
            dsimp only [List.getElem_toArray, List.getElem_cons_succ, List.getElem_cons_zero]
            repeat (first | go_big_quiet_skip | (go_big_quiet_want; go_big_quiet_op; first | go_big_quiet_on | (refine ⟨_, fun _ _ => rfl, ?_⟩; go_big_quiet_on)))
            refine wpQuiet_nil ?_
            refine Tc.plan_one 32 rfl (fun K hK => ?_)
            refine wpList_pass rfl ?_
            refine hK _ _ (keep_below (Below.refl _ _)) ?_
            clear hK K
            (try dsimp only [Act.put])
            refine Tc.plan_floats [33, 34, 35, 36, 37, 38, 39, 40, 41, 42, 43, 44] [_, _, _, _, _, _, _, _, _, _, _, _] rfl ?_
            dsimp only [List.getElem_toArray, List.getElem_cons_succ, List.getElem_cons_zero]
            (try simp only [List.setIfInBounds_toArray, List.set_cons_succ, List.set_cons_zero])
            repeat (first | go_big_quiet_skip | (go_big_quiet_want; go_big_quiet_op; first | go_big_quiet_on | (refine ⟨_, fun _ _ => rfl, ?_⟩; go_big_quiet_on)))
            refine wpQuiet_nil ?_
            refine Tc.plan_done (l := []) rfl (fun K hK => ?_)
            go_wp2_with fail
            go_meet
            exact ⟨rfl, rfl, Lib.hid (B4.out.trans (BB6.out.mono B4.out.size))⟩
          cases gg
          · skip
            obtain rfl : ok = false := by rw [HD.out]; simp [n0, n1, n3]
            clear HD OF OA
            refine Tc.wp_region_plan (keep w4.heap.size) 45 [] (.fl 0 (.fl 1 (.fl 2 (.fl 3 (.fl 4 (.fl 5 (.fl 6 (.fl 7 (.fl 8 (.fl 9 (.fl 10 (.fl 11 (.fl 12 (.fl 13 (.fl 14 (.fl 15 (.fl 16 (.fl 17 (.fl 18 (.fl 19 (.fl 20 (.fl 21 (.fl 22 (.fl 23 (.fl 24 (.fl 25 (.one 26 (.fl 27 (.fl 28 (.fl 29 (.fl 30 (.fl 31 (.one 32 (.fl 33 (.fl 34 (.fl 35 (.fl 36 (.fl 37 (.fl 38 (.fl 39 (.fl 40 (.fl 41 (.fl 42 (.fl 43 (.fl 44 .done))))))))))))))))))))))))))))))))))))))))))))) (by kernel_rfl) (by kernel_rfl) ?_
            intro w5 b5 e5
            have BB5 : Hid (Below w4.heap.size w4 w5) := Lib.hid b5
            clear b5 e5
            refine Tc.plan_floats [0, 1, 2, 3, 4, 5, 6, 7, 8, 9, 10, 11, 12, 13, 14, 15, 16, 17, 18, 19, 20, 21, 22, 23, 24, 25] [_, _, _, _, _, _, _, _, _, _, _, _, _, _, _, _, _, _, _, _, _, _, _, _, _, _] rfl ?_
            dsimp only [List.getElem_toArray, List.getElem_cons_succ, List.getElem_cons_zero]
            repeat (first | go_big_quiet_skip | (go_big_quiet_want; go_big_quiet_op; first | go_big_quiet_on | (refine ⟨_, fun _ _ => rfl, ?_⟩; go_big_quiet_on)))
            refine wpQuiet_load_cell rfl 3 (.tmp 15) rfl w3.heap.size 0 rfl _ Tryz.underlying3 rfl (.int .i64 pi) (fun W hW => cell_keep (n := w4.heap.size) ((BB5.out.cell (p := ⟨w3.heap.size, 0, none⟩) LX.out).trans X0.out) (LX.out) hW) ?_
            simp only [Act.put, List.setIfInBounds_toArray, List.set_cons_succ, List.set_cons_zero]
            repeat (first | go_big_quiet_skip | (go_big_quiet_want; go_big_quiet_op; first | go_big_quiet_on | (refine ⟨_, fun _ _ => rfl, ?_⟩; go_big_quiet_on)))
            refine wpQuiet_unguard rfl ?_
            repeat (first | go_big_quiet_skip | (go_big_quiet_want; go_big_quiet_op; first | go_big_quiet_on | (refine ⟨_, fun _ _ => rfl, ?_⟩; go_big_quiet_on)))
            refine wpQuiet_load_cell rfl 3 (.tmp 19) rfl w3.heap.size 0 rfl _ Tryz.underlying3 rfl (.int .i64 pi) (fun W hW => cell_keep (n := w4.heap.size) ((BB5.out.cell (p := ⟨w3.heap.size, 0, none⟩) LX.out).trans X0.out) (LX.out) hW) ?_
            simp only [Act.put, List.setIfInBounds_toArray, List.set_cons_succ, List.set_cons_zero]
            repeat (first | go_big_quiet_skip | (go_big_quiet_want; go_big_quiet_op; first | go_big_quiet_on | (refine ⟨_, fun _ _ => rfl, ?_⟩; go_big_quiet_on)))
            refine wpQuiet_unguard rfl ?_
            repeat (first | go_big_quiet_skip | (go_big_quiet_want; go_big_quiet_op; first | go_big_quiet_on | (refine ⟨_, fun _ _ => rfl, ?_⟩; go_big_quiet_on)))
            refine wpQuiet_load_cell rfl 3 (.tmp 27) rfl w3.heap.size 0 rfl _ Tryz.underlying3 rfl (.int .i64 pi) (fun W hW => cell_keep (n := w4.heap.size) ((BB5.out.cell (p := ⟨w3.heap.size, 0, none⟩) LX.out).trans X0.out) (LX.out) hW) ?_
            simp only [Act.put, List.setIfInBounds_toArray, List.set_cons_succ, List.set_cons_zero]
            repeat (first | go_big_quiet_skip | (go_big_quiet_want; go_big_quiet_op; first | go_big_quiet_on | (refine ⟨_, fun _ _ => rfl, ?_⟩; go_big_quiet_on)))
            refine wpQuiet_unguard rfl ?_
            repeat (first | go_big_quiet_skip | (go_big_quiet_want; go_big_quiet_op; first | go_big_quiet_on | (refine ⟨_, fun _ _ => rfl, ?_⟩; go_big_quiet_on)))
            refine wpQuiet_load_cell rfl 3 (.tmp 33) rfl b (off + j * 5) rfl _ Tryz.underlying3 rfl (.int .i64 pv) (fun W hW => cell_keep (n := w4.heap.size) ((BB5.out.cell (p := ⟨b, (off + j * 5), none⟩) LB.out).trans XQ.out) (LB.out) hW) ?_
            simp only [Act.put, List.setIfInBounds_toArray, List.set_cons_succ, List.set_cons_zero]
            repeat (first | go_big_quiet_skip | (go_big_quiet_want; go_big_quiet_op; first | go_big_quiet_on | (refine ⟨_, fun _ _ => rfl, ?_⟩; go_big_quiet_on)))
            refine wpQuiet_unguard rfl ?_
            repeat (first | go_big_quiet_skip | (go_big_quiet_want; go_big_quiet_op; first | go_big_quiet_on | (refine ⟨_, fun _ _ => rfl, ?_⟩; go_big_quiet_on)))
            refine wpQuiet_load_cell rfl 3 (.tmp 39) rfl w3.heap.size 1 rfl _ Tryz.underlying3 rfl (.int .i64 pr) (fun W hW => cell_keep (n := w4.heap.size) ((BB5.out.cell (p := ⟨w3.heap.size, 1, none⟩) LX.out).trans X1.out) (LX.out) hW) ?_
            simp only [Act.put, List.setIfInBounds_toArray, List.set_cons_succ, List.set_cons_zero]
            repeat (first | go_big_quiet_skip | (go_big_quiet_want; go_big_quiet_op; first | go_big_quiet_on | (refine ⟨_, fun _ _ => rfl, ?_⟩; go_big_quiet_on)))
            refine wpQuiet_nil ?_
            refine Tc.plan_one 26 rfl (fun K hK => ?_)
            go_wp2_with fail
            refine (CK.out _).mono ?_
            rintro e w6 ⟨rfl, b6⟩
            have bb := b6.mono BB5.out.size
            have BB6 := Lib.hid (BB5.out.trans bb)
            go_wp2_with fail
            refine hK _ _ (keep_below bb) ?_
            clear hK K bb b6 BB5
            refine Tc.plan_floats [27, 28, 29, 30, 31] [_, _, _, _, _] rfl ?_
            dsimp only [List.getElem_toArray, List.getElem_cons_succ, List.getElem_cons_zero]
            repeat (first | go_big_quiet_skip | (go_big_quiet_want; go_big_quiet_op; first | go_big_quiet_on | (refine ⟨_, fun _ _ => rfl, ?_⟩; go_big_quiet_on)))
            refine wpQuiet_unguard rfl ?_
            refine wpQuiet_load_part rfl 50 (.tmp 4) rfl w3.heap.size 0 rfl 5 5 _ ((peC p s)) ((peC p s)) (fun W hW => row_keep (n := w4.heap.size) ((X4.out).below BB6.out) (LX.out) hW) (by decide) (fun j _ => by rw [Nat.zero_add]) _ Tryz.underlying50 rfl (by kernel_rfl) ?_
            simp only [Act.put, List.setIfInBounds_toArray, List.set_cons_succ, List.set_cons_zero]
            repeat (first | go_big_quiet_skip | (go_big_quiet_want; go_big_quiet_op; first | go_big_quiet_on | (refine ⟨_, fun _ _ => rfl, ?_⟩; go_big_quiet_on)))
            refine wpQuiet_nil ?_
            refine Tc.plan_one 32 rfl (fun K hK => ?_)
            go_wp2_with fail
            refine (GK.out _ (B4.out.trans (BB6.out.mono B4.out.size))).mono ?_
            rintro e w7 ⟨rfl, b7⟩
            have bb := b7.mono BB6.out.size
            have BB7 := Lib.hid (BB6.out.trans bb)
            go_wp2_with fail
            refine hK _ _ (keep_below bb) ?_
            clear hK K bb b7 BB6
            refine Tc.plan_floats [33, 34, 35, 36, 37, 38, 39, 40, 41, 42, 43, 44] [_, _, _, _, _, _, _, _, _, _, _, _] rfl ?_
            dsimp only [List.getElem_toArray, List.getElem_cons_succ, List.getElem_cons_zero]
            repeat (first | go_big_quiet_skip | (go_big_quiet_want; go_big_quiet_op; first | go_big_quiet_on | (refine ⟨_, fun _ _ => rfl, ?_⟩; go_big_quiet_on)))
            refine wpQuiet_nil ?_
            refine Tc.plan_done (l := []) rfl (fun K hK => ?_)
            go_wp2_with fail
            go_meet
            exact ⟨rfl, rfl, Lib.hid (B4.out.trans (BB7.out.mono B4.out.size))⟩
          cases n4 : decide (pc < 0)
          rotate_left
          · skip
            obtain rfl : ok = false := by rw [HD.out]; simp [n0, n1, n4, n3]
            clear HD OF OA
            refine Tc.wp_region_plan (keep w4.heap.size) 45 [] (.fl 0 (.fl 1 (.fl 2 (.fl 3 (.fl 4 (.fl 5 (.fl 6 (.fl 7 (.fl 8 (.fl 9 (.fl 10 (.fl 11 (.fl 12 (.fl 13 (.fl 14 (.fl 15 (.fl 16 (.fl 17 (.fl 18 (.fl 19 (.fl 20 (.fl 21 (.fl 22 (.fl 23 (.fl 24 (.fl 25 (.one 26 (.fl 27 (.fl 28 (.fl 29 (.fl 30 (.fl 31 (.one 32 (.fl 33 (.fl 34 (.fl 35 (.fl 36 (.fl 37 (.fl 38 (.fl 39 (.fl 40 (.fl 41 (.fl 42 (.fl 43 (.fl 44 .done))))))))))))))))))))))))))))))))))))))))))))) (by kernel_rfl) (by kernel_rfl) ?_
            intro w5 b5 e5
            have BB5 : Hid (Below w4.heap.size w4 w5) := Lib.hid b5
            clear b5 e5
            refine Tc.plan_floats [0, 1, 2, 3, 4, 5, 6, 7, 8, 9, 10, 11, 12, 13, 14, 15, 16, 17, 18, 19, 20, 21, 22, 23, 24, 25] [_, _, _, _, _, _, _, _, _, _, _, _, _, _, _, _, _, _, _, _, _, _, _, _, _, _] rfl ?_
            dsimp only [List.getElem_toArray, List.getElem_cons_succ, List.getElem_cons_zero]
            repeat (first | go_big_quiet_skip | (go_big_quiet_want; go_big_quiet_op; first | go_big_quiet_on | (refine ⟨_, fun _ _ => rfl, ?_⟩; go_big_quiet_on)))
            refine wpQuiet_load_cell rfl 3 (.tmp 15) rfl w3.heap.size 0 rfl _ Tryz.underlying3 rfl (.int .i64 pi) (fun W hW => cell_keep (n := w4.heap.size) ((BB5.out.cell (p := ⟨w3.heap.size, 0, none⟩) LX.out).trans X0.out) (LX.out) hW) ?_
            simp only [Act.put, List.setIfInBounds_toArray, List.set_cons_succ, List.set_cons_zero]
            repeat (first | go_big_quiet_skip | (go_big_quiet_want; go_big_quiet_op; first | go_big_quiet_on | (refine ⟨_, fun _ _ => rfl, ?_⟩; go_big_quiet_on)))
            refine wpQuiet_unguard rfl ?_
            repeat (first | go_big_quiet_skip | (go_big_quiet_want; go_big_quiet_op; first | go_big_quiet_on | (refine ⟨_, fun _ _ => rfl, ?_⟩; go_big_quiet_on)))
            refine wpQuiet_load_cell rfl 3 (.tmp 19) rfl w3.heap.size 0 rfl _ Tryz.underlying3 rfl (.int .i64 pi) (fun W hW => cell_keep (n := w4.heap.size) ((BB5.out.cell (p := ⟨w3.heap.size, 0, none⟩) LX.out).trans X0.out) (LX.out) hW) ?_
            simp only [Act.put, List.setIfInBounds_toArray, List.set_cons_succ, List.set_cons_zero]
            repeat (first | go_big_quiet_skip | (go_big_quiet_want; go_big_quiet_op; first | go_big_quiet_on | (refine ⟨_, fun _ _ => rfl, ?_⟩; go_big_quiet_on)))
            refine wpQuiet_unguard rfl ?_
            repeat (first | go_big_quiet_skip | (go_big_quiet_want; go_big_quiet_op; first | go_big_quiet_on | (refine ⟨_, fun _ _ => rfl, ?_⟩; go_big_quiet_on)))
            refine wpQuiet_load_cell rfl 3 (.tmp 27) rfl w3.heap.size 0 rfl _ Tryz.underlying3 rfl (.int .i64 pi) (fun W hW => cell_keep (n := w4.heap.size) ((BB5.out.cell (p := ⟨w3.heap.size, 0, none⟩) LX.out).trans X0.out) (LX.out) hW) ?_
            simp only [Act.put, List.setIfInBounds_toArray, List.set_cons_succ, List.set_cons_zero]
            repeat (first | go_big_quiet_skip | (go_big_quiet_want; go_big_quiet_op; first | go_big_quiet_on | (refine ⟨_, fun _ _ => rfl, ?_⟩; go_big_quiet_on)))
            refine wpQuiet_unguard rfl ?_
            repeat (first | go_big_quiet_skip | (go_big_quiet_want; go_big_quiet_op; first | go_big_quiet_on | (refine ⟨_, fun _ _ => rfl, ?_⟩; go_big_quiet_on)))
            refine wpQuiet_load_cell rfl 3 (.tmp 33) rfl b (off + j * 5) rfl _ Tryz.underlying3 rfl (.int .i64 pv) (fun W hW => cell_keep (n := w4.heap.size) ((BB5.out.cell (p := ⟨b, (off + j * 5), none⟩) LB.out).trans XQ.out) (LB.out) hW) ?_
            simp only [Act.put, List.setIfInBounds_toArray, List.set_cons_succ, List.set_cons_zero]
            repeat (first | go_big_quiet_skip | (go_big_quiet_want; go_big_quiet_op; first | go_big_quiet_on | (refine ⟨_, fun _ _ => rfl, ?_⟩; go_big_quiet_on)))
            refine wpQuiet_unguard rfl ?_
            repeat (first | go_big_quiet_skip | (go_big_quiet_want; go_big_quiet_op; first | go_big_quiet_on | (refine ⟨_, fun _ _ => rfl, ?_⟩; go_big_quiet_on)))
            refine wpQuiet_load_cell rfl 3 (.tmp 39) rfl w3.heap.size 1 rfl _ Tryz.underlying3 rfl (.int .i64 pr) (fun W hW => cell_keep (n := w4.heap.size) ((BB5.out.cell (p := ⟨w3.heap.size, 1, none⟩) LX.out).trans X1.out) (LX.out) hW) ?_
            simp only [Act.put, List.setIfInBounds_toArray, List.set_cons_succ, List.set_cons_zero]
            repeat (first | go_big_quiet_skip | (go_big_quiet_want; go_big_quiet_op; first | go_big_quiet_on | (refine ⟨_, fun _ _ => rfl, ?_⟩; go_big_quiet_on)))
            refine wpQuiet_nil ?_
            refine Tc.plan_one 26 rfl (fun K hK => ?_)
            go_wp2_with fail
            refine (CK.out _).mono ?_
            rintro e w6 ⟨rfl, b6⟩
            have bb := b6.mono BB5.out.size
            have BB6 := Lib.hid (BB5.out.trans bb)
            go_wp2_with fail
            refine hK _ _ (keep_below bb) ?_
            clear hK K bb b6 BB5
            refine Tc.plan_floats [27, 28, 29, 30, 31] [_, _, _, _, _] rfl ?_
            dsimp only [List.getElem_toArray, List.getElem_cons_succ, List.getElem_cons_zero]
            repeat (first | go_big_quiet_skip | (go_big_quiet_want; go_big_quiet_op; first | go_big_quiet_on | (refine ⟨_, fun _ _ => rfl, ?_⟩; go_big_quiet_on)))
            refine wpQuiet_unguard rfl ?_
            refine wpQuiet_load_part rfl 50 (.tmp 4) rfl w3.heap.size 0 rfl 5 5 _ ((peC p s)) ((peC p s)) (fun W hW => row_keep (n := w4.heap.size) ((X4.out).below BB6.out) (LX.out) hW) (by decide) (fun j _ => by rw [Nat.zero_add]) _ Tryz.underlying50 rfl (by kernel_rfl) ?_
            simp only [Act.put, List.setIfInBounds_toArray, List.set_cons_succ, List.set_cons_zero]
            repeat (first | go_big_quiet_skip | (go_big_quiet_want; go_big_quiet_op; first | go_big_quiet_on | (refine ⟨_, fun _ _ => rfl, ?_⟩; go_big_quiet_on)))
            refine wpQuiet_nil ?_
            refine Tc.plan_one 32 rfl (fun K hK => ?_)
            go_wp2_with fail
            refine (GK.out _ (B4.out.trans (BB6.out.mono B4.out.size))).mono ?_
            rintro e w7 ⟨rfl, b7⟩
            have bb := b7.mono BB6.out.size
            have BB7 := Lib.hid (BB6.out.trans bb)
            go_wp2_with fail
            refine hK _ _ (keep_below bb) ?_
            clear hK K bb b7 BB6
            refine Tc.plan_floats [33, 34, 35, 36, 37, 38, 39, 40, 41, 42, 43, 44] [_, _, _, _, _, _, _, _, _, _, _, _] rfl ?_
            dsimp only [List.getElem_toArray, List.getElem_cons_succ, List.getElem_cons_zero]
            repeat (first | go_big_quiet_skip | (go_big_quiet_want; go_big_quiet_op; first | go_big_quiet_on | (refine ⟨_, fun _ _ => rfl, ?_⟩; go_big_quiet_on)))
            refine wpQuiet_unguard rfl ?_
            repeat (first | go_big_quiet_skip | (go_big_quiet_want; go_big_quiet_op; first | go_big_quiet_on | (refine ⟨_, fun _ _ => rfl, ?_⟩; go_big_quiet_on)))
            refine wpQuiet_load_cell rfl 3 (.tmp 51) rfl w3.heap.size 4 rfl _ Tryz.underlying3 rfl (.int .i64 pc) (fun W hW => cell_keep (n := w4.heap.size) ((BB7.out.cell (p := ⟨w3.heap.size, 4, none⟩) LX.out).trans X4c.out) (LX.out) hW) ?_
            simp only [Act.put, List.setIfInBounds_toArray, List.set_cons_succ, List.set_cons_zero]
            repeat (first | go_big_quiet_skip | (go_big_quiet_want; go_big_quiet_op; first | go_big_quiet_on | (refine ⟨_, fun _ _ => rfl, ?_⟩; go_big_quiet_on)))
            refine wpQuiet_nil ?_
            refine Tc.plan_done (l := []) rfl (fun K hK => ?_)
            go_wp2_with fail
            go_meet
            exact ⟨rfl, rfl, Lib.hid (B4.out.trans (BB7.out.mono B4.out.size))⟩
          cases n5 : decide (1048576 < pc)
          rotate_left
          · skip
            obtain rfl : ok = false := by rw [HD.out]; simp [n0, n1, n4, n5, n3]
            clear HD OF OA
            refine Tc.wp_region_plan (keep w4.heap.size) 45 [] (.fl 0 (.fl 1 (.fl 2 (.fl 3 (.fl 4 (.fl 5 (.fl 6 (.fl 7 (.fl 8 (.fl 9 (.fl 10 (.fl 11 (.fl 12 (.fl 13 (.fl 14 (.fl 15 (.fl 16 (.fl 17 (.fl 18 (.fl 19 (.fl 20 (.fl 21 (.fl 22 (.fl 23 (.fl 24 (.fl 25 (.one 26 (.fl 27 (.fl 28 (.fl 29 (.fl 30 (.fl 31 (.one 32 (.fl 33 (.fl 34 (.fl 35 (.fl 36 (.fl 37 (.fl 38 (.fl 39 (.fl 40 (.fl 41 (.fl 42 (.fl 43 (.fl 44 .done))))))))))))))))))))))))))))))))))))))))))))) (by kernel_rfl) (by kernel_rfl) ?_
            intro w5 b5 e5
            have BB5 : Hid (Below w4.heap.size w4 w5) := Lib.hid b5
            clear b5 e5
            refine Tc.plan_floats [0, 1, 2, 3, 4, 5, 6, 7, 8, 9, 10, 11, 12, 13, 14, 15, 16, 17, 18, 19, 20, 21, 22, 23, 24, 25] [_, _, _, _, _, _, _, _, _, _, _, _, _, _, _, _, _, _, _, _, _, _, _, _, _, _] rfl ?_
            dsimp only [List.getElem_toArray, List.getElem_cons_succ, List.getElem_cons_zero]
            repeat (first | go_big_quiet_skip | (go_big_quiet_want; go_big_quiet_op; first | go_big_quiet_on | (refine ⟨_, fun _ _ => rfl, ?_⟩; go_big_quiet_on)))
            refine wpQuiet_load_cell rfl 3 (.tmp 15) rfl w3.heap.size 0 rfl _ Tryz.underlying3 rfl (.int .i64 pi) (fun W hW => cell_keep (n := w4.heap.size) ((BB5.out.cell (p := ⟨w3.heap.size, 0, none⟩) LX.out).trans X0.out) (LX.out) hW) ?_
            simp only [Act.put, List.setIfInBounds_toArray, List.set_cons_succ, List.set_cons_zero]
            repeat (first | go_big_quiet_skip | (go_big_quiet_want; go_big_quiet_op; first | go_big_quiet_on | (refine ⟨_, fun _ _ => rfl, ?_⟩; go_big_quiet_on)))
            refine wpQuiet_unguard rfl ?_
            repeat (first | go_big_quiet_skip | (go_big_quiet_want; go_big_quiet_op; first | go_big_quiet_on | (refine ⟨_, fun _ _ => rfl, ?_⟩; go_big_quiet_on)))
            refine wpQuiet_load_cell rfl 3 (.tmp 19) rfl w3.heap.size 0 rfl _ Tryz.underlying3 rfl (.int .i64 pi) (fun W hW => cell_keep (n := w4.heap.size) ((BB5.out.cell (p := ⟨w3.heap.size, 0, none⟩) LX.out).trans X0.out) (LX.out) hW) ?_
            simp only [Act.put, List.setIfInBounds_toArray, List.set_cons_succ, List.set_cons_zero]
            repeat (first | go_big_quiet_skip | (go_big_quiet_want; go_big_quiet_op; first | go_big_quiet_on | (refine ⟨_, fun _ _ => rfl, ?_⟩; go_big_quiet_on)))
            refine wpQuiet_unguard rfl ?_
            repeat (first | go_big_quiet_skip | (go_big_quiet_want; go_big_quiet_op; first | go_big_quiet_on | (refine ⟨_, fun _ _ => rfl, ?_⟩; go_big_quiet_on)))
            refine wpQuiet_load_cell rfl 3 (.tmp 27) rfl w3.heap.size 0 rfl _ Tryz.underlying3 rfl (.int .i64 pi) (fun W hW => cell_keep (n := w4.heap.size) ((BB5.out.cell (p := ⟨w3.heap.size, 0, none⟩) LX.out).trans X0.out) (LX.out) hW) ?_
            simp only [Act.put, List.setIfInBounds_toArray, List.set_cons_succ, List.set_cons_zero]
            repeat (first | go_big_quiet_skip | (go_big_quiet_want; go_big_quiet_op; first | go_big_quiet_on | (refine ⟨_, fun _ _ => rfl, ?_⟩; go_big_quiet_on)))
            refine wpQuiet_unguard rfl ?_
            repeat (first | go_big_quiet_skip | (go_big_quiet_want; go_big_quiet_op; first | go_big_quiet_on | (refine ⟨_, fun _ _ => rfl, ?_⟩; go_big_quiet_on)))
            refine wpQuiet_load_cell rfl 3 (.tmp 33) rfl b (off + j * 5) rfl _ Tryz.underlying3 rfl (.int .i64 pv) (fun W hW => cell_keep (n := w4.heap.size) ((BB5.out.cell (p := ⟨b, (off + j * 5), none⟩) LB.out).trans XQ.out) (LB.out) hW) ?_
            simp only [Act.put, List.setIfInBounds_toArray, List.set_cons_succ, List.set_cons_zero]
            repeat (first | go_big_quiet_skip | (go_big_quiet_want; go_big_quiet_op; first | go_big_quiet_on | (refine ⟨_, fun _ _ => rfl, ?_⟩; go_big_quiet_on)))
            refine wpQuiet_unguard rfl ?_
            repeat (first | go_big_quiet_skip | (go_big_quiet_want; go_big_quiet_op; first | go_big_quiet_on | (refine ⟨_, fun _ _ => rfl, ?_⟩; go_big_quiet_on)))
            refine wpQuiet_load_cell rfl 3 (.tmp 39) rfl w3.heap.size 1 rfl _ Tryz.underlying3 rfl (.int .i64 pr) (fun W hW => cell_keep (n := w4.heap.size) ((BB5.out.cell (p := ⟨w3.heap.size, 1, none⟩) LX.out).trans X1.out) (LX.out) hW) ?_
            simp only [Act.put, List.setIfInBounds_toArray, List.set_cons_succ, List.set_cons_zero]
            repeat (first | go_big_quiet_skip | (go_big_quiet_want; go_big_quiet_op; first | go_big_quiet_on | (refine ⟨_, fun _ _ => rfl, ?_⟩; go_big_quiet_on)))
            refine wpQuiet_nil ?_
            refine Tc.plan_one 26 rfl (fun K hK => ?_)
            go_wp2_with fail
            refine (CK.out _).mono ?_
            rintro e w6 ⟨rfl, b6⟩
            have bb := b6.mono BB5.out.size
            have BB6 := Lib.hid (BB5.out.trans bb)
            go_wp2_with fail
            refine hK _ _ (keep_below bb) ?_
            clear hK K bb b6 BB5
            refine Tc.plan_floats [27, 28, 29, 30, 31] [_, _, _, _, _] rfl ?_
            dsimp only [List.getElem_toArray, List.getElem_cons_succ, List.getElem_cons_zero]
            repeat (first | go_big_quiet_skip | (go_big_quiet_want; go_big_quiet_op; first | go_big_quiet_on | (refine ⟨_, fun _ _ => rfl, ?_⟩; go_big_quiet_on)))
            refine wpQuiet_unguard rfl ?_
            refine wpQuiet_load_part rfl 50 (.tmp 4) rfl w3.heap.size 0 rfl 5 5 _ ((peC p s)) ((peC p s)) (fun W hW => row_keep (n := w4.heap.size) ((X4.out).below BB6.out) (LX.out) hW) (by decide) (fun j _ => by rw [Nat.zero_add]) _ Tryz.underlying50 rfl (by kernel_rfl) ?_
            simp only [Act.put, List.setIfInBounds_toArray, List.set_cons_succ, List.set_cons_zero]
            repeat (first | go_big_quiet_skip | (go_big_quiet_want; go_big_quiet_op; first | go_big_quiet_on | (refine ⟨_, fun _ _ => rfl, ?_⟩; go_big_quiet_on)))
            refine wpQuiet_nil ?_
            refine Tc.plan_one 32 rfl (fun K hK => ?_)
            go_wp2_with fail
            refine (GK.out _ (B4.out.trans (BB6.out.mono B4.out.size))).mono ?_
            rintro e w7 ⟨rfl, b7⟩
            have bb := b7.mono BB6.out.size
            have BB7 := Lib.hid (BB6.out.trans bb)
            go_wp2_with fail
            refine hK _ _ (keep_below bb) ?_
            clear hK K bb b7 BB6
            refine Tc.plan_floats [33, 34, 35, 36, 37, 38, 39, 40, 41, 42, 43, 44] [_, _, _, _, _, _, _, _, _, _, _, _] rfl ?_
            dsimp only [List.getElem_toArray, List.getElem_cons_succ, List.getElem_cons_zero]
            repeat (first | go_big_quiet_skip | (go_big_quiet_want; go_big_quiet_op; first | go_big_quiet_on | (refine ⟨_, fun _ _ => rfl, ?_⟩; go_big_quiet_on)))
            refine wpQuiet_unguard rfl ?_
            repeat (first | go_big_quiet_skip | (go_big_quiet_want; go_big_quiet_op; first | go_big_quiet_on | (refine ⟨_, fun _ _ => rfl, ?_⟩; go_big_quiet_on)))
            refine wpQuiet_load_cell rfl 3 (.tmp 51) rfl w3.heap.size 4 rfl _ Tryz.underlying3 rfl (.int .i64 pc) (fun W hW => cell_keep (n := w4.heap.size) ((BB7.out.cell (p := ⟨w3.heap.size, 4, none⟩) LX.out).trans X4c.out) (LX.out) hW) ?_
            simp only [Act.put, List.setIfInBounds_toArray, List.set_cons_succ, List.set_cons_zero]
            repeat (first | go_big_quiet_skip | (go_big_quiet_want; go_big_quiet_op; first | go_big_quiet_on | (refine ⟨_, fun _ _ => rfl, ?_⟩; go_big_quiet_on)))
            refine wpQuiet_unguard rfl ?_
            repeat (first | go_big_quiet_skip | (go_big_quiet_want; go_big_quiet_op; first | go_big_quiet_on | (refine ⟨_, fun _ _ => rfl, ?_⟩; go_big_quiet_on)))
            refine wpQuiet_load_cell rfl 3 (.tmp 56) rfl w3.heap.size 4 rfl _ Tryz.underlying3 rfl (.int .i64 pc) (fun W hW => cell_keep (n := w4.heap.size) ((BB7.out.cell (p := ⟨w3.heap.size, 4, none⟩) LX.out).trans X4c.out) (LX.out) hW) ?_
            simp only [Act.put, List.setIfInBounds_toArray, List.set_cons_succ, List.set_cons_zero]
            repeat (first | go_big_quiet_skip | (go_big_quiet_want; go_big_quiet_op; first | go_big_quiet_on | (refine ⟨_, fun _ _ => rfl, ?_⟩; go_big_quiet_on)))
            refine wpQuiet_nil ?_
            refine Tc.plan_done (l := []) rfl (fun K hK => ?_)
            go_wp2_with fail
            go_meet
            exact ⟨rfl, rfl, Lib.hid (B4.out.trans (BB7.out.mono B4.out.size))⟩
          obtain rfl : ok = true := by rw [HD.out]; simp [n0, n1, n4, n5, n3]
          clear HD OF OA
          refine Tc.wp_region_plan (keep w4.heap.size) 45 [] (.fl 0 (.fl 1 (.fl 2 (.fl 3 (.fl 4 (.fl 5 (.fl 6 (.fl 7 (.fl 8 (.fl 9 (.fl 10 (.fl 11 (.fl 12 (.fl 13 (.fl 14 (.fl 15 (.fl 16 (.fl 17 (.fl 18 (.fl 19 (.fl 20 (.fl 21 (.fl 22 (.fl 23 (.fl 24 (.fl 25 (.one 26 (.fl 27 (.fl 28 (.fl 29 (.fl 30 (.fl 31 (.one 32 (.fl 33 (.fl 34 (.fl 35 (.fl 36 (.fl 37 (.fl 38 (.fl 39 (.fl 40 (.fl 41 (.fl 42 (.fl 43 (.fl 44 .done))))))))))))))))))))))))))))))))))))))))))))) (by kernel_rfl) (by kernel_rfl) ?_
          intro w5 b5 e5
          have BB5 : Hid (Below w4.heap.size w4 w5) := Lib.hid b5
          clear b5 e5
          refine Tc.plan_floats [0, 1, 2, 3, 4, 5, 6, 7, 8, 9, 10, 11, 12, 13, 14, 15, 16, 17, 18, 19, 20, 21, 22, 23, 24, 25] [_, _, _, _, _, _, _, _, _, _, _, _, _, _, _, _, _, _, _, _, _, _, _, _, _, _] rfl ?_
          dsimp only [List.getElem_toArray, List.getElem_cons_succ, List.getElem_cons_zero]
          repeat (first | go_big_quiet_skip | (go_big_quiet_want; go_big_quiet_op; first | go_big_quiet_on | (refine ⟨_, fun _ _ => rfl, ?_⟩; go_big_quiet_on)))
          refine wpQuiet_load_cell rfl 3 (.tmp 15) rfl w3.heap.size 0 rfl _ Tryz.underlying3 rfl (.int .i64 pi) (fun W hW => cell_keep (n := w4.heap.size) ((BB5.out.cell (p := ⟨w3.heap.size, 0, none⟩) LX.out).trans X0.out) (LX.out) hW) ?_
          simp only [Act.put, List.setIfInBounds_toArray, List.set_cons_succ, List.set_cons_zero]
          repeat (first | go_big_quiet_skip | (go_big_quiet_want; go_big_quiet_op; first | go_big_quiet_on | (refine ⟨_, fun _ _ => rfl, ?_⟩; go_big_quiet_on)))
          refine wpQuiet_unguard rfl ?_
          repeat (first | go_big_quiet_skip | (go_big_quiet_want; go_big_quiet_op; first | go_big_quiet_on | (refine ⟨_, fun _ _ => rfl, ?_⟩; go_big_quiet_on)))
          refine wpQuiet_load_cell rfl 3 (.tmp 19) rfl w3.heap.size 0 rfl _ Tryz.underlying3 rfl (.int .i64 pi) (fun W hW => cell_keep (n := w4.heap.size) ((BB5.out.cell (p := ⟨w3.heap.size, 0, none⟩) LX.out).trans X0.out) (LX.out) hW) ?_
          simp only [Act.put, List.setIfInBounds_toArray, List.set_cons_succ, List.set_cons_zero]
          repeat (first | go_big_quiet_skip | (go_big_quiet_want; go_big_quiet_op; first | go_big_quiet_on | (refine ⟨_, fun _ _ => rfl, ?_⟩; go_big_quiet_on)))
          refine wpQuiet_unguard rfl ?_
          repeat (first | go_big_quiet_skip | (go_big_quiet_want; go_big_quiet_op; first | go_big_quiet_on | (refine ⟨_, fun _ _ => rfl, ?_⟩; go_big_quiet_on)))
          refine wpQuiet_load_cell rfl 3 (.tmp 27) rfl w3.heap.size 0 rfl _ Tryz.underlying3 rfl (.int .i64 pi) (fun W hW => cell_keep (n := w4.heap.size) ((BB5.out.cell (p := ⟨w3.heap.size, 0, none⟩) LX.out).trans X0.out) (LX.out) hW) ?_
          simp only [Act.put, List.setIfInBounds_toArray, List.set_cons_succ, List.set_cons_zero]
          repeat (first | go_big_quiet_skip | (go_big_quiet_want; go_big_quiet_op; first | go_big_quiet_on | (refine ⟨_, fun _ _ => rfl, ?_⟩; go_big_quiet_on)))
          refine wpQuiet_unguard rfl ?_
          repeat (first | go_big_quiet_skip | (go_big_quiet_want; go_big_quiet_op; first | go_big_quiet_on | (refine ⟨_, fun _ _ => rfl, ?_⟩; go_big_quiet_on)))
          refine wpQuiet_load_cell rfl 3 (.tmp 33) rfl b (off + j * 5) rfl _ Tryz.underlying3 rfl (.int .i64 pv) (fun W hW => cell_keep (n := w4.heap.size) ((BB5.out.cell (p := ⟨b, (off + j * 5), none⟩) LB.out).trans XQ.out) (LB.out) hW) ?_
          simp only [Act.put, List.setIfInBounds_toArray, List.set_cons_succ, List.set_cons_zero]
          repeat (first | go_big_quiet_skip | (go_big_quiet_want; go_big_quiet_op; first | go_big_quiet_on | (refine ⟨_, fun _ _ => rfl, ?_⟩; go_big_quiet_on)))
          refine wpQuiet_unguard rfl ?_
          repeat (first | go_big_quiet_skip | (go_big_quiet_want; go_big_quiet_op; first | go_big_quiet_on | (refine ⟨_, fun _ _ => rfl, ?_⟩; go_big_quiet_on)))
          refine wpQuiet_load_cell rfl 3 (.tmp 39) rfl w3.heap.size 1 rfl _ Tryz.underlying3 rfl (.int .i64 pr) (fun W hW => cell_keep (n := w4.heap.size) ((BB5.out.cell (p := ⟨w3.heap.size, 1, none⟩) LX.out).trans X1.out) (LX.out) hW) ?_
          simp only [Act.put, List.setIfInBounds_toArray, List.set_cons_succ, List.set_cons_zero]
          repeat (first | go_big_quiet_skip | (go_big_quiet_want; go_big_quiet_op; first | go_big_quiet_on | (refine ⟨_, fun _ _ => rfl, ?_⟩; go_big_quiet_on)))
          refine wpQuiet_nil ?_
          refine Tc.plan_one 26 rfl (fun K hK => ?_)
          go_wp2_with fail
          refine (CK.out _).mono ?_
          rintro e w6 ⟨rfl, b6⟩
          have bb := b6.mono BB5.out.size
          have BB6 := Lib.hid (BB5.out.trans bb)
          go_wp2_with fail
          refine hK _ _ (keep_below bb) ?_
          clear hK K bb b6 BB5
          refine Tc.plan_floats [27, 28, 29, 30, 31] [_, _, _, _, _] rfl ?_
          dsimp only [List.getElem_toArray, List.getElem_cons_succ, List.getElem_cons_zero]
          repeat (first | go_big_quiet_skip | (go_big_quiet_want; go_big_quiet_op; first | go_big_quiet_on | (refine ⟨_, fun _ _ => rfl, ?_⟩; go_big_quiet_on)))
          refine wpQuiet_unguard rfl ?_
          refine wpQuiet_load_part rfl 50 (.tmp 4) rfl w3.heap.size 0 rfl 5 5 _ ((peC p s)) ((peC p s)) (fun W hW => row_keep (n := w4.heap.size) ((X4.out).below BB6.out) (LX.out) hW) (by decide) (fun j _ => by rw [Nat.zero_add]) _ Tryz.underlying50 rfl (by kernel_rfl) ?_
          simp only [Act.put, List.setIfInBounds_toArray, List.set_cons_succ, List.set_cons_zero]
          repeat (first | go_big_quiet_skip | (go_big_quiet_want; go_big_quiet_op; first | go_big_quiet_on | (refine ⟨_, fun _ _ => rfl, ?_⟩; go_big_quiet_on)))
          refine wpQuiet_nil ?_
          refine Tc.plan_one 32 rfl (fun K hK => ?_)
          go_wp2_with fail
          refine (GK.out _ (B4.out.trans (BB6.out.mono B4.out.size))).mono ?_
          rintro e w7 ⟨rfl, b7⟩
          have bb := b7.mono BB6.out.size
          have BB7 := Lib.hid (BB6.out.trans bb)
          go_wp2_with fail
          refine hK _ _ (keep_below bb) ?_
          clear hK K bb b7 BB6
          refine Tc.plan_floats [33, 34, 35, 36, 37, 38, 39, 40, 41, 42, 43, 44] [_, _, _, _, _, _, _, _, _, _, _, _] rfl ?_
          dsimp only [List.getElem_toArray, List.getElem_cons_succ, List.getElem_cons_zero]
          repeat (first | go_big_quiet_skip | (go_big_quiet_want; go_big_quiet_op; first | go_big_quiet_on | (refine ⟨_, fun _ _ => rfl, ?_⟩; go_big_quiet_on)))
          refine wpQuiet_unguard rfl ?_
          repeat (first | go_big_quiet_skip | (go_big_quiet_want; go_big_quiet_op; first | go_big_quiet_on | (refine ⟨_, fun _ _ => rfl, ?_⟩; go_big_quiet_on)))
          refine wpQuiet_load_cell rfl 3 (.tmp 51) rfl w3.heap.size 4 rfl _ Tryz.underlying3 rfl (.int .i64 pc) (fun W hW => cell_keep (n := w4.heap.size) ((BB7.out.cell (p := ⟨w3.heap.size, 4, none⟩) LX.out).trans X4c.out) (LX.out) hW) ?_
          simp only [Act.put, List.setIfInBounds_toArray, List.set_cons_succ, List.set_cons_zero]
          repeat (first | go_big_quiet_skip | (go_big_quiet_want; go_big_quiet_op; first | go_big_quiet_on | (refine ⟨_, fun _ _ => rfl, ?_⟩; go_big_quiet_on)))
          refine wpQuiet_unguard rfl ?_
          repeat (first | go_big_quiet_skip | (go_big_quiet_want; go_big_quiet_op; first | go_big_quiet_on | (refine ⟨_, fun _ _ => rfl, ?_⟩; go_big_quiet_on)))
          refine wpQuiet_load_cell rfl 3 (.tmp 56) rfl w3.heap.size 4 rfl _ Tryz.underlying3 rfl (.int .i64 pc) (fun W hW => cell_keep (n := w4.heap.size) ((BB7.out.cell (p := ⟨w3.heap.size, 4, none⟩) LX.out).trans X4c.out) (LX.out) hW) ?_
          simp only [Act.put, List.setIfInBounds_toArray, List.set_cons_succ, List.set_cons_zero]
          repeat (first | go_big_quiet_skip | (go_big_quiet_want; go_big_quiet_op; first | go_big_quiet_on | (refine ⟨_, fun _ _ => rfl, ?_⟩; go_big_quiet_on)))
          refine wpQuiet_nil ?_
          refine Tc.plan_done (l := []) rfl (fun K hK => ?_)
          go_wp2_with fail
          go_meet
          exact ⟨rfl, rfl, Lib.hid (B4.out.trans (BB7.out.mono B4.out.size))⟩
      case rest =>
        rename World => w5
        obtain ⟨rfl, rfl, B5⟩ := hcut
        clear CK GK HD HPV XP B4 X4 x0 x1 x4
        cases ok
        · skip
          obtain rfl : R = 371 := OF.out rfl
          clear OF OA
          go_wp2_with fail
          go_ret
          exact ⟨rfl, B5.out⟩
        have AN := Lib.hid (OA.out rfl)
        clear OA OF
        go_wp2_with fail
        go_roundg (n - (k + 1))
        case measure => have := HLT.out; omega
        case rel =>
          go_light
          exact ⟨k + 1, by have := HLT.out; omega, by go_num, AN, B5⟩
    · have d0 : decide ((k : Int) < (n : Int)) = false := by rw [decide_eq_false_iff_not]; omega
      have d1 : decide (k < n) = false := by rw [decide_eq_false_iff_not]; omega
      obtain rfl : R = 0 := FT.out (fun i hi => hA.out i (by omega))
      clear hA
      go_wp2_with fail
      go_ret
      exact ⟨rfl, hB.out⟩
end Go.Proofs.YtmmppibbglacdaaGreatDoor
