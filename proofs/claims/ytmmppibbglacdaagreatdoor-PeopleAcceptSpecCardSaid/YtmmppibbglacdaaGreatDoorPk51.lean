/- The reference of people: Listing, present, known. The reference of people: Accept. -/
import Derived.Test.YtmmppibbglacdaaGreatDoorPk50
import Derived.Test.YtmmppibbglacdaaGreatDoorPk48
import Derived.Test.YtmmppibbglacdaaGreatDoorPk41
set_option linter.unusedVariables false
set_option linter.unusedSimpArgs false
namespace Go.Proofs.YtmmppibbglacdaaGreatDoor
open Go.RowKit Cod
theorem getL_yes {d : Int} : ∀ {x : List Li} {k : Nat}, (∀ i, i < k → ¬ (x.getD i li0).d = d) → k < x.length → (x.getD k li0).d = d → getL x d = some (x.getD k li0)
  | [], k, _, h, _ => by simp at h
  | z :: x, 0, _, _, h => by
    unfold getL
    rw [List.find?_cons_of_pos (by simpa using h)]; rfl
  | z :: x, k + 1, h0, h1, h => by
    have hz : ¬ z.d = d := h0 0 (by omega)
    unfold getL
    rw [List.find?_cons_of_neg (by simpa using hz)]
    exact getL_yes (x := x) (k := k) (fun i hi => h0 (i + 1) (by omega)) (by simpa using h1) h
theorem getL_no {d : Int} {x : List Li} (h : ∀ i, i < x.length → ¬ (x.getD i li0).d = d) : getL x d = none := by
  unfold getL
  rw [List.find?_eq_none]
  intro z hz
  obtain ⟨i, hi, e⟩ := List.mem_iff_getElem.1 hz
  have := h i hi
  rw [List.getD_eq_getElem?_getD, List.getElem?_eq_getElem hi, Option.getD_some, e] at this
  simpa using this
theorem zli (W : World) : (Instr.build 42 #[]).run Tryz.prog W = .ok (liA li0) W := by kernel_rfl
set_option maxRecDepth 100000 in
set_option maxHeartbeats 8000000 in
theorem rlisting_any (x : List Li) (v : Value) (d : Int) (w : World) (h : SlAt 5 w v x.length (fun i => liC (x.getD i li0))) (hn : x.length ≤ 1000) :
    Calls Tryz.prog 40 #[v, .int .i64 d] w fun e w' => e = .returned (.tuple #[liA (lastL x d), .bool (getL x d).isSome]) ∧ Below w.heap.size w w' := by
  obtain ⟨la, lc, rfl⟩ := h.slice
  have FY : Hid (∀ k y, (∀ i, i < k → ¬ (x.getD i li0).d = d) → k < x.length → x.getD k li0 = y → y.d = d → lastL x d = y ∧ (getL x d).isSome = true) := Lib.hid (fun k y h1 h2 h3 h4 => by
    have := getL_yes h1 h2 (by rw [h3]; exact h4)
    rw [h3] at this
    unfold lastL; rw [this]; exact ⟨rfl, rfl⟩)
  have FN : Hid ((∀ i, i < x.length → ¬ (x.getD i li0).d = d) → lastL x d = li0 ∧ (getL x d).isSome = false) := Lib.hid (fun h1 => by
    have := getL_no h1
    unfold lastL; rw [this]; exact ⟨rfl, rfl⟩)
  obtain ⟨R, hR⟩ : ∃ y, lastL x d = y := ⟨_, rfl⟩
  obtain ⟨S, hS⟩ : ∃ y, (getL x d).isSome = y := ⟨_, rfl⟩
  rw [hR, hS] at FY FN ⊢
  obtain ⟨n, hln⟩ : ∃ y, x.length = y := ⟨_, rfl⟩
  have H0 : Hid (SlAt 5 w (.slice la n lc) n (fun i => liC (x.getD i li0))) := Lib.hid (by rw [← hln]; exact h)
  have qn : (n : Int) ≤ 1000 := by omega
  rw [hln] at FY FN ⊢
  clear h hn hln hR hS
  go_enter Tryz.func40, Tryz.ntmps40
  have B0 := Lib.hid (Below.refl w.heap.size w)
  go_upto_region 1 with fail
  obtain ⟨w1, hw1⟩ : ∃ y, w.alloc (.cells #[.int .i64 0, .int .i64 0, .int .i64 0, .int .i64 0, .bool false] 42) = y := ⟨_, rfl⟩
  have b1 : Below w.heap.size w w1 := by rw [← hw1]; exact (Below.refl _ _).alloc (Nat.le_refl _) _
  have Z1 : Hid (RowV w1 w.heap.size 42 5 (liC li0)) := Lib.hid (by rw [← hw1]; exact RowV.new w _ 5 (liC li0))
  have z1 : w.heap.size + 1 = w1.heap.size := by rw [← hw1]; exact (Array.size_push _).symm
  rw [hw1]
  (try rw [z1])
  have B1 := Lib.hid (B0.out.trans (b1.mono B0.out.size))
  clear b1 hw1 z1 B0
  go_wp2_with fail
  go_loopg [6] n (fun g s6 wx => ∃ k : Nat, k + g = n ∧ s6 = .int .i64 (k : Int) ∧ Hid (∀ i, i < k → ¬ (x.getD i li0).d = d) ∧ w1 = wx)
  case atStart => exact ⟨0, by omega, rfl, Lib.hid (fun i hi => by omega), rfl⟩
  case round =>
    obtain ⟨k, hk, rfl, hA, rfl⟩ := hrel
    have q0 : (0 : Int) ≤ (k : Int) := Int.natCast_nonneg k
    by_cases hlt : k < n
    · have d0 : decide ((k : Int) < (n : Int)) = true := by rw [decide_eq_true_iff]; omega
      have d1 : decide (k < n) = true := by rw [decide_eq_true_iff]; omega
      have p2 : (k : Int) < (n : Int) := by omega
      obtain ⟨b, off, rfl, hcap, hb, hc⟩ := SlAt.at_elem (s := 5) (n := n) (a := la) (k := lc) (c := fun i => liC (x.getD i li0)) (H0.out.below B1.out) hlt
      have HLT := Lib.hid hlt
      have HCK := Lib.hid (fun j hj => hc k hlt j hj)
      obtain ⟨y, hy⟩ : ∃ y, x.getD k li0 = y := ⟨_, rfl⟩
      rw [hy] at HCK
      have x0 : w1.cell? ⟨b, off + k * 5, none⟩ = some (.int .i64 y.d) := by have := HCK.out 0 (by decide); rwa [Nat.mul_comm 5 k, Nat.add_zero] at this
      have HY := Lib.hid hy
      have p1 : (k : Int) + 1 ≤ 1000 := by omega
      clear hc hcap hb hy hlt
      by_cases he : y.d = d
      · have e1 : (y.d == d) = true := by rw [beq_iff_eq]; exact he
        obtain ⟨rfl, rfl⟩ := FY.out k y hA.out HLT.out HY.out he
        clear he hA FY FN
        go_wp2_with (first | ((with_reducible (show wpList _ _ _ (Oper.mk (some 23) _ _ _ _ _ :: _) _ _)); refine Hid.out ?_))
        refine Lib.hid ?_
        refine wpList_load_elem rfl 42 (.tmp 22) rfl b (off + k * 5) rfl 5 off k (by rw [Nat.mul_comm]) (liC R) HCK.out _ Tryz.underlying42 rfl (by kernel_rfl) ?_
        clear HCK
        go_wp2_with (first | ((with_reducible (show wpList _ _ _ (Oper.mk none _ _ _ _ _ :: _) _ _)); refine Hid.out ?_))
        refine Lib.hid ?_
        refine wpList_store_rowV rfl 42 (.tmp 4) (.tmp 23) rfl w.heap.size rfl 5 _ _ _ rfl (Z1.out) (by kernel_rfl) (fun j _ => liC_one R j) ?_
        intro w9 Z9 O9
        go_wp2_with fail
        refine bodyPost_ret (v := .tuple #[.agg (rowF 5 (liC R)), .bool true]) (by exact results_rowV2 (fn := Tryz.f40) (p := 4) (u := 5) (ty := 42) rfl _ _ w.heap.size 5 42 _ _ rfl Z9.out Tryz.underlying42 rfl (by kernel_rfl)) rfl ⟨rfl, ?_⟩
        exact B1.out.trans (O9.out.below (Nat.le_refl _) B1.out.size)
      · have e1 : (y.d == d) = false := by rw [beq_eq_false_iff_ne]; exact he
        have A2 : Hid (∀ i, i < k + 1 → ¬ (x.getD i li0).d = d) := Lib.hid (fun i hi => by
          by_cases e : i = k
          · subst e; rw [HY.out]; exact he
          · exact hA.out i (by omega))
        clear he hA HCK
        go_wp2_with fail
        go_roundg (n - (k + 1))
        case measure => have := HLT.out; omega
        case rel =>
          go_light
          exact ⟨k + 1, by have := HLT.out; omega, by go_num, A2, rfl⟩
    · have d0 : decide ((k : Int) < (n : Int)) = false := by rw [decide_eq_false_iff_not]; omega
      have d1 : decide (k < n) = false := by rw [decide_eq_false_iff_not]; omega
      obtain ⟨rfl, rfl⟩ := FN.out (fun i hi => hA.out i (by omega))
      clear hA FY
      go_wp2_with (first | ((with_reducible (show wpList _ _ _ (Oper.mk (some 24) _ _ _ _ _ :: _) _ _)); refine Hid.out ?_))
      refine Lib.hid ?_
      refine wpList_build rfl 42 _ rfl #[] (by simp only [List.map_toArray, List.map_nil]) _ (zli _) ?_
      go_wp2_with (first | ((with_reducible (show wpList _ _ _ (Oper.mk none _ _ _ _ _ :: _) _ _)); refine Hid.out ?_))
      refine Lib.hid ?_
      refine wpList_store_rowV rfl 42 (.tmp 4) (.tmp 24) rfl w.heap.size rfl 5 _ _ _ rfl (Z1.out) (by kernel_rfl) (fun j _ => liC_one li0 j) ?_
      intro w9 Z9 O9
      go_wp2_with fail
      refine bodyPost_ret (v := .tuple #[.agg (rowF 5 (liC li0)), .bool false]) (by exact results_rowV2 (fn := Tryz.f40) (p := 4) (u := 5) (ty := 42) rfl _ _ w.heap.size 5 42 _ _ rfl Z9.out Tryz.underlying42 rfl (by kernel_rfl)) rfl ⟨rfl, ?_⟩
      exact B1.out.trans (O9.out.below (Nat.le_refl _) B1.out.size)
set_option maxRecDepth 100000 in
set_option maxHeartbeats 8000000 in
theorem rpresent_any (x : List Li) (v : Value) (d : Int) (w : World) (h : SlAt 5 w v x.length (fun i => liC (x.getD i li0))) (hn : x.length ≤ 1000) :
    Calls Tryz.prog 42 #[v, .int .i64 d] w fun e w' => e = .returned (.bool (presB x d)) ∧ Below w.heap.size w w' := by
  have C := Lib.hid (rlisting_any x v d w h hn)
  have PB : Hid (presB x d = ((getL x d).isSome && !(lastL x d).g)) := Lib.hid rfl
  obtain ⟨la, lc, rfl⟩ := h.slice
  obtain ⟨R, hR⟩ : ∃ y, lastL x d = y := ⟨_, rfl⟩
  obtain ⟨S, hS⟩ : ∃ y, (getL x d).isSome = y := ⟨_, rfl⟩
  obtain ⟨p, hp⟩ : ∃ y, presB x d = y := ⟨_, rfl⟩
  rw [hR, hS, hp] at PB
  rw [hR, hS] at C
  rw [hp]
  clear h hn hR hS hp
  go_enter Tryz.func42, Tryz.ntmps42
  have B0 := Lib.hid (Below.refl w.heap.size w)
  go_wp2_with fail
  refine (C.out).mono ?_
  rintro e w1 ⟨rfl, b1⟩
  have B1 := Lib.hid (B0.out.trans (b1.mono B0.out.size))
  clear b1 B0
  clear C
  have Zr := Lib.hid (RowV.new w1 42 5 (liC li0))
  go_upto_region 2 with ((with_reducible (show wpList _ _ _ (Oper.mk none _ _ _ _ _ :: _) _ _)); refine wpList_store_rowV (o := ⟨none, .store 42 (.tmp 5) (.tmp 11), _, _, _, _⟩) rfl 42 (.tmp 5) (.tmp 11) rfl w1.heap.size rfl 5 42 _ (liC R) rfl Zr.out (by kernel_rfl) (fun j _ => liC_one _ j) ?_; intro w2 V2 o2)
  have b2 : Below w1.heap.size w1 w2 := ((Below.refl _ _).alloc (Nat.le_refl _) _).trans (o2.out.below (Nat.le_refl _) (by rw [World.size_alloc]; omega))
  have B2 := Lib.hid (B1.out.trans (b2.mono B1.out.size))
  clear b2 o2 Zr B1
  have x4 : w2.cell? ⟨w1.heap.size, 4, none⟩ = some (.bool R.g) := V2.out.cell (i := 4) (by decide)
  obtain ⟨g, hg⟩ : ∃ y, R.g = y := ⟨_, rfl⟩
  rw [hg] at x4 PB
  cases S
  · obtain rfl : p = false := PB.out
    go_wp2_with fail
    go_ret
    exact ⟨rfl, B2.out⟩
  · obtain rfl : p = !g := PB.out
    go_wp2_with fail
    go_ret
    exact ⟨rfl, B2.out⟩
set_option maxRecDepth 100000 in
set_option maxHeartbeats 8000000 in
theorem rknown_any (x : List Li) (v : Value) (p : Int) (w : World) (h : SlAt 5 w v x.length (fun i => liC (x.getD i li0))) (hn : x.length ≤ 1000) :
    Calls Tryz.prog 41 #[v, .int .i64 p] w fun e w' => e = .returned (.bool (famB x p)) ∧ Below w.heap.size w w' := by
  obtain ⟨la, lc, rfl⟩ := h.slice
  have FY : Hid (∀ k y, k < x.length → x.getD k li0 = y → devB y.d = true → y.d.tdiv 8 = p → famB x p = true) := Lib.hid (fun k y h1 h2 h3 h4 => by
    unfold famB
    rw [List.any_eq_true]
    refine ⟨y, ?_, by rw [h3, decide_eq_true h4]; rfl⟩
    rw [← h2, List.getD_eq_getElem?_getD, List.getElem?_eq_getElem h1]; exact List.getElem_mem h1)
  have FN : Hid ((∀ i, i < x.length → (devB (x.getD i li0).d && decide ((x.getD i li0).d.tdiv 8 = p)) = false) → famB x p = false) := Lib.hid (fun h1 => by
    unfold famB
    rw [List.any_eq_false]
    intro z hz
    obtain ⟨i, hi, e⟩ := List.mem_iff_getElem.1 hz
    have := h1 i hi
    rw [List.getD_eq_getElem?_getD, List.getElem?_eq_getElem hi, Option.getD_some, e] at this
    rw [this]; decide)
  obtain ⟨R, hR⟩ : ∃ y, famB x p = y := ⟨_, rfl⟩
  rw [hR] at FY FN ⊢
  obtain ⟨n, hln⟩ : ∃ y, x.length = y := ⟨_, rfl⟩
  have H0 : Hid (SlAt 5 w (.slice la n lc) n (fun i => liC (x.getD i li0))) := Lib.hid (by rw [← hln]; exact h)
  have qn : (n : Int) ≤ 1000 := by omega
  rw [hln] at FY FN ⊢
  have DV := Lib.hid (fun d w => qdev_any d w)
  clear h hn hln hR
  go_enter Tryz.func41, Tryz.ntmps41
  have B0 := Lib.hid (Below.refl w.heap.size w)
  go_wp2_with fail
  go_loopg [5] n (fun g s5 wx => ∃ k : Nat, k + g = n ∧ s5 = .int .i64 (k : Int) ∧ Hid (∀ i, i < k → (devB (x.getD i li0).d && decide ((x.getD i li0).d.tdiv 8 = p)) = false) ∧ w = wx)
  case atStart => exact ⟨0, by omega, rfl, Lib.hid (fun i hi => by omega), rfl⟩
  case round =>
    obtain ⟨k, hk, rfl, hA, rfl⟩ := hrel
    have q0 : (0 : Int) ≤ (k : Int) := Int.natCast_nonneg k
    by_cases hlt : k < n
    · have d0 : decide ((k : Int) < (n : Int)) = true := by rw [decide_eq_true_iff]; omega
      have d1 : decide (k < n) = true := by rw [decide_eq_true_iff]; omega
      have p2 : (k : Int) < (n : Int) := by omega
      obtain ⟨b, off, rfl, hcap, hb, hc⟩ := SlAt.at_elem (s := 5) (n := n) (a := la) (k := lc) (c := fun i => liC (x.getD i li0)) H0.out hlt
      have HLT := Lib.hid hlt
      have HCK := Lib.hid (fun j hj => hc k hlt j hj)
      obtain ⟨y, hy⟩ : ∃ y, x.getD k li0 = y := ⟨_, rfl⟩
      rw [hy] at HCK
      have x0 : w.cell? ⟨b, off + k * 5, none⟩ = some (.int .i64 y.d) := by have := HCK.out 0 (by decide); rwa [Nat.mul_comm 5 k, Nat.add_zero] at this
      have HY := Lib.hid hy
      have p1 : (k : Int) + 1 ≤ 1000 := by omega
      have TD : devB y.d = true → IntKind.i64.wrap (y.d.tdiv 8) = y.d.tdiv 8 := fun h => by
        have := (devB_iff y.d).1 h
        exact bits_i64 this.1 this.2
      have TD := Lib.hid TD
      obtain ⟨yd, hyd⟩ : ∃ z, y.d = z := ⟨_, rfl⟩
      have HYD := Lib.hid hyd
      rw [hyd] at x0 TD
      clear hc hcap hb hy hlt HCK hyd
      go_wp2_with fail
      refine (DV.out yd _).mono ?_
      rintro e wp ⟨rfl, rfl⟩
      obtain ⟨db, hdb⟩ : ∃ z, devB yd = z := ⟨_, rfl⟩
      have HDB := Lib.hid hdb
      rw [hdb] at TD ⊢
      clear hdb
      have NX : (devB yd && decide (yd.tdiv 8 = p)) = false → Hid (∀ i, i < k + 1 → (devB (x.getD i li0).d && decide ((x.getD i li0).d.tdiv 8 = p)) = false) := fun h => Lib.hid (fun i hi => by
        by_cases e : i = k
        · subst e; rw [HY.out, HYD.out]; exact h
        · exact hA.out i (by omega))
      have NX := Lib.hid NX
      cases db
      · have A2 := NX.out (by rw [HDB.out]; rfl)
        clear hA NX TD
        go_wp2_with fail
        go_roundg (n - (k + 1))
        case measure => have := HLT.out; omega
        case rel =>
          go_light
          exact ⟨k + 1, by have := HLT.out; omega, by go_num, A2, rfl⟩
      have td := TD.out rfl
      by_cases he : yd.tdiv 8 = p
      · have e1 : (yd.tdiv 8 == p) = true := by rw [beq_iff_eq]; exact he
        obtain rfl := FY.out k y HLT.out HY.out (by rw [HYD.out]; exact HDB.out) (by rw [HYD.out]; exact he)
        clear hA NX TD FY FN he
        go_wp2_with fail
        go_ret
        exact ⟨rfl, B0.out⟩
      · have e1 : (yd.tdiv 8 == p) = false := by rw [beq_eq_false_iff_ne]; exact he
        have A2 := NX.out (by rw [decide_eq_false he, Bool.and_false])
        clear hA NX TD he
        go_wp2_with fail
        go_roundg (n - (k + 1))
        case measure => have := HLT.out; omega
        case rel =>
          go_light
          exact ⟨k + 1, by have := HLT.out; omega, by go_num, A2, rfl⟩
    · have d0 : decide ((k : Int) < (n : Int)) = false := by rw [decide_eq_false_iff_not]; omega
      have d1 : decide (k < n) = false := by rw [decide_eq_false_iff_not]; omega
      obtain rfl := FN.out (fun i hi => hA.out i (by omega))
      clear hA FY
      go_wp2_with fail
      go_ret
      exact ⟨rfl, B0.out⟩
end Go.Proofs.YtmmppibbglacdaaGreatDoor

namespace Go.Proofs.YtmmppibbglacdaaGreatDoor
open Go.RowKit Cod
theorem AccPost.mk {r : Int × Li} {l : Li} {z : Int} {w w' : World} (h : r = (z, l)) (b : Below w.heap.size w w') : AccPost r w (.returned (.tuple #[liA l, .int .i64 z])) w' := by subst h; exact ⟨rfl, b⟩
theorem build_gone (d v l n : Int) (W : World) : (Instr.build 42 #[(0, .int .i64 d), (1, .int .i64 v), (2, .int .i64 l), (3, .int .i64 n), (4, .bool true)]).run Tryz.prog W = .ok (liA ⟨d, v, l, n, true⟩) W := by kernel_rfl
theorem lastL_dev {x : List Li} {d : Int} (h : presB x d = true) : (lastL x d).d = d := by
  unfold presB at h
  rw [Bool.and_eq_true] at h
  obtain ⟨z, hz⟩ := Option.isSome_iff_exists.1 h.1
  unfold lastL
  rw [hz]
  exact getL_d hz
set_option maxRecDepth 100000 in
set_option maxHeartbeats 16000000 in
theorem raccept_any (ps : List Pe) (us : Nat → Sv) (v : Value) (x : List Li) (xv : Value) (c : Ct) (hc : c.wf) (w : World) (h : PesS w v ps us) (hn : ps.length ≤ 1000) (hx : SlAt 5 w xv x.length (fun i => liC (x.getD i li0))) (hxn : x.length ≤ 1000) :
    Calls Tryz.prog 16 #[v, xv, .agg (rowF 8 (ctC c))] w (AccPost (accF ps x c) w) := by
  obtain ⟨va, vc, rfl⟩ := h.1.slice
  obtain ⟨xa, xc, rfl⟩ := hx.slice
  have C1 : Hid (∀ W, Below w.heap.size w W → Calls Tryz.prog 11 #[.slice va ps.length vc] W fun e w' => e = .returned (.int .i64 (if chkPe ps then 0 else 371)) ∧ Below W.heap.size W w') := Lib.hid (fun W b => rcheck37_any ps us _ W (h.below b) hn)
  have C2 := Lib.hid (fun W => qformed_any c W)
  have C3 : Hid (∀ W, Below w.heap.size w W → Calls Tryz.prog 39 #[.slice va ps.length vc, .int .i64 (c.d.tdiv 8)] W (PidxPost ps (c.d.tdiv 8) W)) := Lib.hid (fun W b => rfind37_any ps us _ _ W (h.below b).1 hn)
  have C4 : Hid (∀ d W, Below w.heap.size w W → Calls Tryz.prog 40 #[.slice xa x.length xc, .int .i64 d] W fun e w' => e = .returned (.tuple #[liA (lastL x d), .bool (getL x d).isSome]) ∧ Below W.heap.size W w') := Lib.hid (fun d W b => rlisting_any x _ d W (hx.below b) hxn)
  have C5 : Hid (∀ W, Below w.heap.size w W → Calls Tryz.prog 41 #[.slice xa x.length xc, .int .i64 (c.d.tdiv 8)] W fun e w' => e = .returned (.bool (famB x (c.d.tdiv 8))) ∧ Below W.heap.size W w') := Lib.hid (fun W b => rknown_any x _ _ W (hx.below b) hxn)
  have C6 : Hid (∀ d W, Below w.heap.size w W → Calls Tryz.prog 42 #[.slice xa x.length xc, .int .i64 d] W fun e w' => e = .returned (.bool (presB x d)) ∧ Below W.heap.size W w') := Lib.hid (fun d W b => rpresent_any x _ d W (hx.below b) hxn)
  have MS := Lib.hid (fun W => qmessage_any c hc W)
  have ML := Lib.hid (msgC_len c)
  have PS := Lib.hid h
  have AF : Hid (accF ps x c = if chkPe ps then (if formC c then (match findP ps (c.d.tdiv 8) with | none => ((371 : Int), li0) | some p => verF p x c) else (370, li0)) else (371, li0)) := Lib.hid rfl
  obtain ⟨R, hR⟩ : ∃ y, accF ps x c = y := ⟨_, rfl⟩
  rw [hR] at AF ⊢
  obtain ⟨n, hln⟩ : ∃ y, ps.length = y := ⟨_, rfl⟩
  have HN := Lib.hid hln
  obtain ⟨m, hlm⟩ : ∃ y, x.length = y := ⟨_, rfl⟩
  have qn : (n : Int) ≤ 1000 := by omega
  rw [hln] at C1 C3 ⊢
  rw [hlm] at C4 C5 C6 ⊢
  obtain ⟨ck, hck⟩ : ∃ y, chkPe ps = y := ⟨_, rfl⟩
  obtain ⟨fo, hfo⟩ : ∃ y, formC c = y := ⟨_, rfl⟩
  have HFO := Lib.hid hfo
  rw [hck] at C1 AF
  rw [hfo] at C2 AF
  obtain ⟨E, hE⟩ : ∃ E : Int, (if ck then (0 : Int) else 371) = E := ⟨_, rfl⟩
  have HE := Lib.hid hE
  rw [hE] at C1
  clear h hn hx hxn hc hR hln hlm hck hfo hE
  go_enter Tryz.func16, Tryz.ntmps16
  have B0 := Lib.hid (Below.refl w.heap.size w)
  go_upto_region 1 with fail
  obtain ⟨w1, hw1⟩ : ∃ y, w.alloc (.cells (rowF 8 (ctC c)) 33) = y := ⟨_, rfl⟩
  have b1 : Below w.heap.size w w1 := by rw [← hw1]; exact (Below.refl _ _).alloc (Nat.le_refl _) _
  have X1 : Hid (RowV w1 w.heap.size 33 8 (ctC c)) := Lib.hid (by rw [← hw1]; exact RowV.new w _ 8 (ctC c))
  have z1 : w.heap.size + 1 = w1.heap.size := by rw [← hw1]; exact (Array.size_push _).symm
  rw [hw1]
  (try rw [z1])
  have B1 := Lib.hid (B0.out.trans (b1.mono B0.out.size))
  clear b1 hw1 z1 B0
  have L1 : Hid (w.heap.size < w1.heap.size) := Lib.hid X1.out.lt
  obtain ⟨w2, hw2⟩ : ∃ y, w1.alloc (.cells #[.int .i64 0, .int .i64 0, .int .i64 0, .int .i64 0, .bool false] 42) = y := ⟨_, rfl⟩
  have b2 : Below w1.heap.size w1 w2 := by rw [← hw2]; exact (Below.refl _ _).alloc (Nat.le_refl _) _
  have Z2 : Hid (RowV w2 w1.heap.size 42 5 (liC li0)) := Lib.hid (by rw [← hw2]; exact RowV.new w1 _ 5 (liC li0))
  have z2 : w1.heap.size + 1 = w2.heap.size := by rw [← hw2]; exact (Array.size_push _).symm
  rw [hw2]
  (try rw [z2])
  have B2 := Lib.hid (B1.out.trans (b2.mono B1.out.size))
  have X2 := Lib.hid (X1.out.below b2)
  clear b2 hw2 z2 B1 X1
  have L2 : Hid (w1.heap.size < w2.heap.size) := Lib.hid Z2.out.lt
  go_wp2_with fail
  refine (C1.out _ B2.out).mono ?_
  rintro e w3 ⟨rfl, b3⟩
  have B3 := Lib.hid (B2.out.trans (b3.mono B2.out.size))
  have X3 := Lib.hid (X2.out.below b3)
  have Z3 := Lib.hid (Z2.out.below b3)
  clear b3 B2 X2 Z2
  clear C1
  cases ck
  · obtain rfl : E = 371 := by rw [← HE.out]; rfl
    have F : Hid (R = (371, li0)) := AF
    clear AF C2 C3 C4 C5 C6 MS ML
    go_wp2_with (first | ((with_reducible (show wpList _ _ _ (Oper.mk (some 20) _ _ _ _ _ :: _) _ _)); refine Hid.out ?_))
    refine Lib.hid ?_
    refine wpList_build rfl 42 _ rfl #[] (by simp only [List.map_toArray, List.map_nil]) _ (zli _) ?_
    go_wp2_with (first | ((with_reducible (show wpList _ _ _ (Oper.mk none _ _ _ _ _ :: _) _ _)); refine Hid.out ?_))
    refine Lib.hid ?_
    refine wpList_store_rowV rfl 42 (.tmp 6) (.tmp 20) rfl w1.heap.size rfl 5 _ _ _ rfl (Z3.out) (by kernel_rfl) (fun j _ => liC_one _ j) ?_
    intro w9 Z9 O9
    go_wp2_with fail
    refine bodyPost_ret (v := .tuple #[.agg (rowF 5 (liC li0)), .int .i64 371]) (by exact results_rowV2 (fn := Tryz.f16) (p := 6) (u := 7) (ty := 42) rfl _ _ w1.heap.size 5 42 _ _ rfl Z9.out Tryz.underlying42 rfl (by kernel_rfl)) rfl (AccPost.mk F.out ?_)
    exact B3.out.trans (O9.out.below (Nat.le_of_lt L1.out) B3.out.size)
  obtain rfl : E = 0 := by rw [← HE.out]; rfl
  rw [if_pos rfl] at AF
  go_wp2_with (first | ((with_reducible (show wpList _ _ _ (Oper.mk (some 22) _ _ _ _ _ :: _) _ _)); refine Hid.out ?_))
  refine Lib.hid ?_
  refine wpList_load_rowV rfl 33 (.tmp 5) rfl w.heap.size rfl 8 _ _ (X3.out) _ Tryz.underlying33 rfl (by kernel_rfl) ?_
  go_wp2_with fail
  refine (C2.out _).mono ?_
  rintro e w4 ⟨rfl, b4⟩
  have B4 := Lib.hid (B3.out.trans (b4.mono B3.out.size))
  have X4 := Lib.hid (X3.out.below b4)
  have Z4 := Lib.hid (Z3.out.below b4)
  clear b4 B3 X3 Z3
  clear C2
  cases fo
  · have F : Hid (R = (370, li0)) := AF
    clear AF C3 C4 C5 C6 MS ML
    go_wp2_with (first | ((with_reducible (show wpList _ _ _ (Oper.mk (some 25) _ _ _ _ _ :: _) _ _)); refine Hid.out ?_))
    refine Lib.hid ?_
    refine wpList_build rfl 42 _ rfl #[] (by simp only [List.map_toArray, List.map_nil]) _ (zli _) ?_
    go_wp2_with (first | ((with_reducible (show wpList _ _ _ (Oper.mk none _ _ _ _ _ :: _) _ _)); refine Hid.out ?_))
    refine Lib.hid ?_
    refine wpList_store_rowV rfl 42 (.tmp 6) (.tmp 25) rfl w1.heap.size rfl 5 _ _ _ rfl (Z4.out) (by kernel_rfl) (fun j _ => liC_one _ j) ?_
    intro w9 Z9 O9
    go_wp2_with fail
    refine bodyPost_ret (v := .tuple #[.agg (rowF 5 (liC li0)), .int .i64 370]) (by exact results_rowV2 (fn := Tryz.f16) (p := 6) (u := 7) (ty := 42) rfl _ _ w1.heap.size 5 42 _ _ rfl Z9.out Tryz.underlying42 rfl (by kernel_rfl)) rfl (AccPost.mk F.out ?_)
    exact B4.out.trans (O9.out.below (Nat.le_of_lt L1.out) B4.out.size)
  rw [if_pos rfl] at AF
  have DV := Lib.hid (form_dev HFO.out)
  have TD : Hid (IntKind.i64.wrap (c.d.tdiv 8) = c.d.tdiv 8) := Lib.hid (by have := (devB_iff c.d).1 DV.out; exact bits_i64 this.1 this.2)
  have KF := Lib.hid (kinds_form HFO.out)
  have x1 : w4.cell? ⟨w.heap.size, 1, none⟩ = some (Value.int .i64 c.d) := X4.out.cell (i := 1) (by decide)
  obtain ⟨pid, hpid⟩ : ∃ y, c.d.tdiv 8 = y := ⟨_, rfl⟩
  have HPID := Lib.hid hpid
  rw [hpid] at C3 C5 AF TD
  clear hpid
  have td := TD.out
  obtain ⟨cd, hcd⟩ : ∃ y, c.d = y := ⟨_, rfl⟩
  have HCD := Lib.hid hcd
  rw [hcd] at x1 HPID DV
  have hpid := HPID.out
  clear hcd
  go_wp2_with fail
  refine (C3.out _ B4.out).mono ?_
  rintro e w5 ⟨hidx, b5⟩
  have X5 := Lib.hid (X4.out.below b5)
  have Z5 := Lib.hid (Z4.out.below b5)
  have B5 := Lib.hid (B4.out.trans (b5.mono B4.out.size))
  clear b5 X4 Z4 B4 x1 C3 td hpid
  rcases hidx with ⟨k, hk, rfl, hf⟩ | ⟨rfl, hf⟩
  rotate_left
  · have F : Hid (R = (371, li0)) := Lib.hid (by rw [AF.out, hf])
    clear AF hf C4 C5 C6 MS ML
    go_wp2_with (first | ((with_reducible (show wpList _ _ _ (Oper.mk (some 34) _ _ _ _ _ :: _) _ _)); refine Hid.out ?_))
    refine Lib.hid ?_
    refine wpList_build rfl 42 _ rfl #[] (by simp only [List.map_toArray, List.map_nil]) _ (zli _) ?_
    go_wp2_with (first | ((with_reducible (show wpList _ _ _ (Oper.mk none _ _ _ _ _ :: _) _ _)); refine Hid.out ?_))
    refine Lib.hid ?_
    refine wpList_store_rowV rfl 42 (.tmp 6) (.tmp 34) rfl w1.heap.size rfl 5 _ _ _ rfl (Z5.out) (by kernel_rfl) (fun j _ => liC_one _ j) ?_
    intro w9 Z9 O9
    go_wp2_with fail
    refine bodyPost_ret (v := .tuple #[.agg (rowF 5 (liC li0)), .int .i64 371]) (by exact results_rowV2 (fn := Tryz.f16) (p := 6) (u := 7) (ty := 42) rfl _ _ w1.heap.size 5 42 _ _ rfl Z9.out Tryz.underlying42 rfl (by kernel_rfl)) rfl (AccPost.mk F.out ?_)
    exact B5.out.trans (O9.out.below (Nat.le_of_lt L1.out) B5.out.size)
  have q0 : (0 : Int) ≤ (k : Int) := Int.natCast_nonneg k
  have hkn : k < n := by rw [← HN.out]; exact hk
  have p2 : (k : Int) < (n : Int) := by omega
  have d2 : decide ((k : Int) < 0) = false := by rw [decide_eq_false_iff_not]; omega
  have HK := Lib.hid hkn
  clear hk hkn
  have PI : Hid ((ps.getD k pe0).i = pid) := Lib.hid (by have := List.find?_some hf; simpa using this)
  obtain ⟨p, hp⟩ : ∃ y, ps.getD k pe0 = y := ⟨_, rfl⟩
  have HP := Lib.hid hp
  rw [hp] at hf PI
  rw [hf] at AF
  clear hf hp
  have VF : Hid (R = if decide (c.n = IntKind.i64.wrap ((lastL x cd).n + 1)) then (match keyF p x c with | none => ((370 : Int), li0) | some k => if verB k (msgC c) c.r c.g then (0, resF x c) else (222, li0)) else (370, li0)) := Lib.hid (by rw [AF.out, ← HCD.out]; rfl)
  have RF : Hid (resF x c = if c.k = 4 then ⟨(lastL x cd).d, (lastL x cd).v, (lastL x cd).l, c.n, true⟩ else ⟨cd, c.v, c.l, c.n, false⟩) := Lib.hid (by rw [← HCD.out]; rfl)
  have LD : Hid (presB x cd = true → (lastL x cd).d = cd) := Lib.hid (fun h => lastL_dev h)
  have CL := Lib.hid (C4.out cd)
  obtain ⟨l, hl⟩ : ∃ y, lastL x cd = y := ⟨_, rfl⟩
  obtain ⟨is, his⟩ : ∃ y, (getL x cd).isSome = y := ⟨_, rfl⟩
  rw [hl] at VF RF CL LD
  rw [his] at CL
  clear hl his AF
  have x1 : w5.cell? ⟨w.heap.size, 1, none⟩ = some (Value.int .i64 cd) := by rw [← HCD.out]; exact X5.out.cell (i := 1) (by decide)
  go_wp2_with fail
  refine (CL.out _ B5.out).mono ?_
  rintro e w6 ⟨rfl, b6⟩
  have B6 := Lib.hid (B5.out.trans (b6.mono B5.out.size))
  have X6 := Lib.hid (X5.out.below b6)
  have Z6 := Lib.hid (Z5.out.below b6)
  clear b6 B5 X5 Z5
  clear CL x1
  have Zr := Lib.hid (RowV.new w6 42 5 (liC li0))
  go_upto_region 11 with ((with_reducible (show wpList _ _ _ (Oper.mk none _ _ _ _ _ :: _) _ _)); refine wpList_store_rowV (o := ⟨none, .store 42 (.tmp 11) (.tmp 40), _, _, _, _⟩) rfl 42 (.tmp 11) (.tmp 40) rfl w6.heap.size rfl 5 42 _ (liC l) rfl Zr.out (by kernel_rfl) (fun j _ => liC_one l j) ?_; intro w7 Y7 o7)
  have b7 : Below w6.heap.size w6 w7 := ((Below.refl _ _).alloc (Nat.le_refl _) _).trans (o7.out.below (Nat.le_refl _) (by rw [World.size_alloc]; omega))
  have B7 := Lib.hid (B6.out.trans (b7.mono B6.out.size))
  have X7 := Lib.hid (X6.out.below b7)
  have Z7 := Lib.hid (Z6.out.below b7)
  clear b7 o7 Zr B6 X6 Z6
  have L3 : Hid (w6.heap.size < w7.heap.size) := Lib.hid Y7.out.lt
  skip
  have x4 : w7.cell? ⟨w.heap.size, 4, none⟩ = some (Value.int .i64 c.n) := X7.out.cell (i := 4) (by decide)
  have y3 := li_cell Y7.out (i := 3) (by decide)
  obtain ⟨ln, hln⟩ : ∃ y, l.n = y := ⟨_, rfl⟩
  rw [show l.at 3 = l.n from rfl, hln] at y3
  rw [hln] at VF
  clear hln
  obtain ⟨nx, hnx⟩ : ∃ y, IntKind.i64.wrap (ln + 1) = y := ⟨_, rfl⟩
  rw [hnx] at VF
  obtain ⟨cn, hcn⟩ : ∃ y, c.n = y := ⟨_, rfl⟩
  have HCN := Lib.hid hcn
  rw [hcn] at x4 VF RF
  clear hcn
  by_cases hv : cn = nx
  rotate_left
  · have e1 : (cn != nx) = true := by rw [bne_iff_ne]; exact hv
    have F : Hid (R = (370, li0)) := Lib.hid (by rw [VF.out, decide_eq_false hv]; rfl)
    clear hv VF RF MS ML C4 C5 C6
    go_wp2_with (first | ((with_reducible (show wpList _ _ _ (Oper.mk (some 48) _ _ _ _ _ :: _) _ _)); refine Hid.out ?_))
    refine Lib.hid ?_
    refine wpList_build rfl 42 _ rfl #[] (by simp only [List.map_toArray, List.map_nil]) _ (zli _) ?_
    go_wp2_with (first | ((with_reducible (show wpList _ _ _ (Oper.mk none _ _ _ _ _ :: _) _ _)); refine Hid.out ?_))
    refine Lib.hid ?_
    refine wpList_store_rowV rfl 42 (.tmp 6) (.tmp 48) rfl w1.heap.size rfl 5 _ _ _ rfl (Z7.out) (by kernel_rfl) (fun j _ => liC_one _ j) ?_
    intro w9 Z9 O9
    go_wp2_with fail
    refine bodyPost_ret (v := .tuple #[.agg (rowF 5 (liC li0)), .int .i64 370]) (by exact results_rowV2 (fn := Tryz.f16) (p := 6) (u := 7) (ty := 42) rfl _ _ w1.heap.size 5 42 _ _ rfl Z9.out Tryz.underlying42 rfl (by kernel_rfl)) rfl (AccPost.mk F.out ?_)
    exact B7.out.trans (O9.out.below (Nat.le_of_lt L1.out) B7.out.size)
  have e1 : (cn != nx) = false := by rw [bne_eq_false_iff_eq]; exact hv
  rw [decide_eq_true hv, if_pos rfl] at VF
  clear hv
  go_upto_region 13 with fail
  clear e1 x4 y3 hnx
  obtain ⟨kn, hkn⟩ : ∃ y, (keyF p x c).isNone = y := ⟨_, rfl⟩
  have HKN := Lib.hid hkn
  clear hkn
  go_cut [85] from 49 to 85 (fun s85 wx => s85 = .bool kn ∧ Hid (Below w7.heap.size w7 wx))
  case first =>
    have x0 : w7.cell? ⟨w.heap.size, 0, none⟩ = some (Value.int .i64 c.k) := X7.out.cell (i := 0) (by decide)
    have x1 : w7.cell? ⟨w.heap.size, 1, none⟩ = some (Value.int .i64 cd) := by rw [← HCD.out]; exact X7.out.cell (i := 1) (by decide)
    have x5 : w7.cell? ⟨w.heap.size, 5, none⟩ = some (Value.int .i64 c.b) := X7.out.cell (i := 5) (by decide)
    clear VF RF MS ML C4 LD
    rcases KF.out with hk | hk | hk | hk
    · rw [hk] at x0
      have KK : Hid (kn = famB x pid) := Lib.hid (by rw [← HKN.out, key_first hk, PI.out]; cases famB x pid <;> rfl)
      obtain ⟨b, hb⟩ : ∃ y, famB x pid = y := ⟨_, rfl⟩
      rw [hb] at KK C5
      obtain rfl : b = kn := KK.out.symm
      clear hk hb C6 KK HKN
      go_wp2_with fail
      refine (C5.out _ B7.out).mono ?_
      rintro e w8 ⟨rfl, b8⟩
      have B8 := Lib.hid b8
      have x0b : w8.cell? ⟨w.heap.size, 0, none⟩ = some (Value.int .i64 1) := (b8.cell (p := ⟨w.heap.size, 0, none⟩) X7.out.lt).trans x0
      clear b8 x0 x1 x5 C5
      cases b
      · go_wp2_with fail
        go_meet
        exact ⟨rfl, B8⟩
      · go_wp2_with fail
        go_meet
        exact ⟨rfl, B8⟩
    · rw [hk] at x0
      have KK : Hid (kn = !presB x c.b) := Lib.hid (by rw [← HKN.out, key_enroll hk]; cases presB x c.b <;> rfl)
      have C7 := Lib.hid (C6.out c.b)
      obtain ⟨b, hb⟩ : ∃ y, presB x c.b = y := ⟨_, rfl⟩
      rw [hb] at KK C7
      obtain rfl := KK.out
      clear hk hb C6 KK C5 HKN
      go_wp2_with fail
      refine (C7.out _ B7.out).mono ?_
      rintro e w8 ⟨rfl, b8⟩
      have B8 := Lib.hid b8
      have x0b : w8.cell? ⟨w.heap.size, 0, none⟩ = some (Value.int .i64 2) := (b8.cell (p := ⟨w.heap.size, 0, none⟩) X7.out.lt).trans x0
      clear b8 x0 x1 x5 C7
      cases b
      · go_wp2_with fail
        go_meet
        exact ⟨rfl, B8⟩
      · go_wp2_with fail
        go_meet
        exact ⟨rfl, B8⟩
    · rw [hk] at x0
      have KK : Hid (kn = false) := Lib.hid (by rw [← HKN.out, key_restore hk]; rfl)
      obtain rfl := KK.out
      clear hk C5 C6 KK HKN
      go_wp2_with fail
      go_meet
      exact ⟨rfl, Lib.hid (Below.refl _ _)⟩
    · rw [hk] at x0
      have KK : Hid (kn = !(presB x c.b && presB x cd)) := Lib.hid (by rw [← HKN.out, key_revoke hk, HCD.out]; cases presB x c.b <;> cases presB x cd <;> rfl)
      have C7 := Lib.hid (C6.out c.b)
      have C8 := Lib.hid (C6.out cd)
      obtain ⟨b, hb⟩ : ∃ y, presB x c.b = y := ⟨_, rfl⟩
      obtain ⟨b', hb'⟩ : ∃ y, presB x cd = y := ⟨_, rfl⟩
      rw [hb, hb'] at KK
      rw [hb] at C7
      rw [hb'] at C8
      obtain rfl := KK.out
      clear hk hb hb' C6 KK C5 HKN
      go_wp2_with fail
      refine (C7.out _ B7.out).mono ?_
      rintro e w8 ⟨rfl, b8⟩
      have B8 := Lib.hid b8
      have x0b : w8.cell? ⟨w.heap.size, 0, none⟩ = some (Value.int .i64 4) := (b8.cell (p := ⟨w.heap.size, 0, none⟩) X7.out.lt).trans x0
      have x1b : w8.cell? ⟨w.heap.size, 1, none⟩ = some (Value.int .i64 cd) := (b8.cell (p := ⟨w.heap.size, 1, none⟩) X7.out.lt).trans x1
      have BW := Lib.hid (B7.out.trans (b8.mono B7.out.size))
      clear b8 x0 x1 x5 C7
      cases b
      · go_wp2_with fail
        go_meet
        exact ⟨rfl, B8⟩
      · go_wp2_with fail
        refine (C8.out _ BW.out).mono ?_
        rintro e w9 ⟨rfl, b9⟩
        have B9 := Lib.hid (B8.out.trans (b9.mono B8.out.size))
        clear b9 x0b x1b B8 BW C8
        cases b'
        · go_wp2_with fail
          go_meet
          exact ⟨rfl, B9⟩
        · go_wp2_with fail
          go_meet
          exact ⟨rfl, B9⟩
  case rest =>
    rename World => w8
    obtain ⟨rfl, hb8⟩ := hcut
    have b8 := hb8.out
    have B8 := Lib.hid (B7.out.trans (b8.mono B7.out.size))
    have X8 := Lib.hid (X7.out.below b8)
    have Y8 := Lib.hid (Y7.out.below b8)
    have Z8 := Lib.hid (Z7.out.below b8)
    clear b8 B7 X7 Y7 Z7
    clear C5 C6 hb8
    cases hkf : keyF p x c with
    | none =>
      rw [hkf] at VF
      have F : Hid (R = (370, li0)) := VF
      obtain rfl : kn = true := by rw [← HKN.out, hkf]; rfl
      clear VF RF MS ML C4
      go_wp2_with (first | ((with_reducible (show wpList _ _ _ (Oper.mk (some 86) _ _ _ _ _ :: _) _ _)); refine Hid.out ?_))
      refine Lib.hid ?_
      refine wpList_build rfl 42 _ rfl #[] (by simp only [List.map_toArray, List.map_nil]) _ (zli _) ?_
      go_wp2_with (first | ((with_reducible (show wpList _ _ _ (Oper.mk none _ _ _ _ _ :: _) _ _)); refine Hid.out ?_))
      refine Lib.hid ?_
      refine wpList_store_rowV rfl 42 (.tmp 6) (.tmp 86) rfl w1.heap.size rfl 5 _ _ _ rfl (Z8.out) (by kernel_rfl) (fun j _ => liC_one _ j) ?_
      intro w9 Z9 O9
      go_wp2_with fail
      refine bodyPost_ret (v := .tuple #[.agg (rowF 5 (liC li0)), .int .i64 370]) (by exact results_rowV2 (fn := Tryz.f16) (p := 6) (u := 7) (ty := 42) rfl _ _ w1.heap.size 5 42 _ _ rfl Z9.out Tryz.underlying42 rfl (by kernel_rfl)) rfl (AccPost.mk F.out ?_)
      exact B8.out.trans (O9.out.below (Nat.le_of_lt L1.out) B8.out.size)
    | some key =>
      rw [hkf] at VF
      have VF2 : Hid (R = if verB key (msgC c) c.r c.g then (0, resF x c) else (222, li0)) := VF
      clear VF
      obtain rfl : kn = false := by rw [← HKN.out, hkf]; rfl
      have K1 : Hid (c.k = 1 → key = c.v) := Lib.hid (fun h => by rw [key_first h] at hkf; split at hkf; cases hkf; exact (Option.some.inj hkf).symm)
      have K2 : Hid (c.k = 2 → key = (lastL x c.b).v) := Lib.hid (fun h => by rw [key_enroll h] at hkf; split at hkf; exact (Option.some.inj hkf).symm; cases hkf)
      have K3 : Hid (c.k = 3 → key = p.r) := Lib.hid (fun h => by rw [key_restore h] at hkf; exact (Option.some.inj hkf).symm)
      have K4 : Hid (c.k = 4 → key = (lastL x c.b).v ∧ l.d = cd) := Lib.hid (fun h => by
        rw [key_revoke h, HCD.out] at hkf
        split at hkf
        · rename_i h2; rw [Bool.and_eq_true] at h2; exact ⟨(Option.some.inj hkf).symm, LD.out h2.2⟩
        · cases hkf)
      clear hkf LD
      have x0 : w8.cell? ⟨w.heap.size, 0, none⟩ = some (Value.int .i64 c.k) := X8.out.cell (i := 0) (by decide)
      have x2 : w8.cell? ⟨w.heap.size, 2, none⟩ = some (Value.int .i64 c.v) := X8.out.cell (i := 2) (by decide)
      obtain ⟨k0, hk0⟩ : ∃ y, (if c.k = 3 then p.r else c.v) = y := ⟨_, rfl⟩
      have HK0 := Lib.hid hk0
      clear hk0
      go_upto_if 91 with fail
      obtain ⟨b, off, rfl, hcap, hb, hcc⟩ := SlAt.at_elem (s := 5) (n := n) (a := va) (k := vc) (c := fun i => peC (ps.getD i pe0) (us i)) (by have g := (PS.out.below B8.out).1; rw [HN.out] at g; exact g) HK.out
      have x9 : w8.cell? ⟨b, off + k * 5 + 1, none⟩ = some (Value.int .i64 p.r) := by have g := hcc k HK.out 1 (by decide); rw [Nat.mul_comm 5 k] at g; rw [g, HP.out]; rfl
      clear hcap hb hcc
      go_cut [13] from 92 to 96 (fun s13 wx => s13 = .int .i64 k0 ∧ w8 = wx)
      case first =>
        by_cases hk3 : c.k = 3
        · have e0 : (c.k == 3) = true := by rw [beq_iff_eq]; exact hk3
          obtain rfl : k0 = p.r := by rw [← HK0.out, if_pos hk3]
          clear hk3 HK0 K1 K2 K3 K4 VF2 RF
          go_wp2_with fail
          go_meet
          exact ⟨rfl, rfl⟩
        · have e0 : (c.k == 3) = false := by rw [beq_eq_false_iff_ne]; exact hk3
          obtain rfl : k0 = c.v := by rw [← HK0.out, if_neg hk3]
          clear hk3 HK0 K1 K2 K3 K4 VF2 RF
          go_wp2_with fail
          go_meet
          exact ⟨rfl, rfl⟩
      case rest =>
      obtain ⟨rfl, rfl⟩ := hcut
      clear x2 x9
      go_upto_region 18 with fail
      obtain ⟨ot, hot⟩ : ∃ y, decide (c.k = 2 ∨ c.k = 4) = y := ⟨_, rfl⟩
      have HOT := Lib.hid hot
      clear hot
      go_cut [104] from 97 to 104 (fun s104 wx => s104 = .bool ot ∧ w8 = wx)
      case first =>
        rcases KF.out with hk | hk | hk | hk
        · rw [hk] at x0
          obtain rfl : ot = false := by rw [← HOT.out, hk]; rfl
          clear hk K1 K2 K3 K4 VF2 RF HK0 HOT
          go_wp2_with fail
          go_meet
          exact ⟨rfl, rfl⟩
        · rw [hk] at x0
          obtain rfl : ot = true := by rw [← HOT.out, hk]; rfl
          clear hk K1 K2 K3 K4 VF2 RF HK0 HOT
          go_wp2_with fail
          go_meet
          exact ⟨rfl, rfl⟩
        · rw [hk] at x0
          obtain rfl : ot = false := by rw [← HOT.out, hk]; rfl
          clear hk K1 K2 K3 K4 VF2 RF HK0 HOT
          go_wp2_with fail
          go_meet
          exact ⟨rfl, rfl⟩
        · rw [hk] at x0
          obtain rfl : ot = true := by rw [← HOT.out, hk]; rfl
          clear hk K1 K2 K3 K4 VF2 RF HK0 HOT
          go_wp2_with fail
          go_meet
          exact ⟨rfl, rfl⟩
      case rest =>
      obtain ⟨rfl, rfl⟩ := hcut
      go_upto_if 104 with fail
      go_cut [13, 14, 15] from 105 to 113 (fun s13 s14 s15 wx => s13 = .int .i64 key ∧ Hid (Below w8.heap.size w8 wx))
      case first =>
        have CB := Lib.hid (C4.out c.b)
        have x5 : w8.cell? ⟨w.heap.size, 5, none⟩ = some (Value.int .i64 c.b) := X8.out.cell (i := 5) (by decide)
        obtain ⟨lb, hlb⟩ : ∃ y, lastL x c.b = y := ⟨_, rfl⟩
        obtain ⟨ib, hib⟩ : ∃ y, (getL x c.b).isSome = y := ⟨_, rfl⟩
        rw [hlb, hib] at CB
        rw [hlb] at K2 K4
        clear hlb hib C4 VF2 RF
        rcases KF.out with hk | hk | hk | hk
        · rw [hk] at x0
          obtain rfl : k0 = key := by rw [← HK0.out, if_neg (by omega)]; exact (K1.out hk).symm
          obtain rfl : ot = false := by rw [← HOT.out, hk]; rfl
          clear hk K1 K2 K3 K4 CB x5 HK0 HOT
          go_wp2_with fail
          go_meet
          exact ⟨rfl, Lib.hid (Below.refl _ _)⟩
        · rw [hk] at x0
          obtain rfl : key = lb.v := K2.out hk
          obtain rfl : ot = true := by rw [← HOT.out, hk]; rfl
          clear hk K1 K2 K3 K4 HK0 HOT
          go_wp2_with fail
          refine (CB.out _ B8.out).mono ?_
          rintro e w9 ⟨rfl, b9⟩
          have B9 := Lib.hid b9
          clear b9 x0 x5 CB
          have Zr := Lib.hid (RowV.new w9 42 5 (liC li0))
          go_wp2_with (first | ((with_reducible (show wpList _ _ _ (Oper.mk none _ _ _ _ _ :: _) _ _)); refine Hid.out ?_))
          refine Lib.hid ?_
          refine wpList_store_rowV rfl 42 (.tmp 14) (.tmp 110) rfl w9.heap.size rfl 5 42 _ (liC lb) rfl Zr.out (by kernel_rfl) (fun j _ => liC_one lb j) ?_
          intro w10 Y10 o10
          have B10 := Lib.hid (B9.out.trans ((((Below.refl _ _).alloc (Nat.le_refl _) _).trans (o10.out.below (Nat.le_refl _) (by rw [World.size_alloc]; omega))).mono B9.out.size))
          have y1 := li_cell Y10.out (i := 1) (by decide)
          rw [show lb.at 1 = lb.v from rfl] at y1
          clear Zr o10 B9
          go_wp2_with fail
          go_meet
          exact ⟨rfl, B10⟩
        · rw [hk] at x0
          obtain rfl : k0 = key := by rw [← HK0.out, if_pos hk]; exact (K3.out hk).symm
          obtain rfl : ot = false := by rw [← HOT.out, hk]; rfl
          clear hk K1 K2 K3 K4 CB x5 HK0 HOT
          go_wp2_with fail
          go_meet
          exact ⟨rfl, Lib.hid (Below.refl _ _)⟩
        · rw [hk] at x0
          obtain rfl : key = lb.v := (K4.out hk).1
          obtain rfl : ot = true := by rw [← HOT.out, hk]; rfl
          clear hk K1 K2 K3 K4 HK0 HOT
          go_wp2_with fail
          refine (CB.out _ B8.out).mono ?_
          rintro e w9 ⟨rfl, b9⟩
          have B9 := Lib.hid b9
          clear b9 x0 x5 CB
          have Zr := Lib.hid (RowV.new w9 42 5 (liC li0))
          go_wp2_with (first | ((with_reducible (show wpList _ _ _ (Oper.mk none _ _ _ _ _ :: _) _ _)); refine Hid.out ?_))
          refine Lib.hid ?_
          refine wpList_store_rowV rfl 42 (.tmp 14) (.tmp 110) rfl w9.heap.size rfl 5 42 _ (liC lb) rfl Zr.out (by kernel_rfl) (fun j _ => liC_one lb j) ?_
          intro w10 Y10 o10
          have B10 := Lib.hid (B9.out.trans ((((Below.refl _ _).alloc (Nat.le_refl _) _).trans (o10.out.below (Nat.le_refl _) (by rw [World.size_alloc]; omega))).mono B9.out.size))
          have y1 := li_cell Y10.out (i := 1) (by decide)
          rw [show lb.at 1 = lb.v from rfl] at y1
          clear Zr o10 B9
          go_wp2_with fail
          go_meet
          exact ⟨rfl, B10⟩
      case rest =>
      rename World => w9
      obtain ⟨rfl, hb9⟩ := hcut
      have b9 := hb9.out
      have B9 := Lib.hid (B8.out.trans (b9.mono B8.out.size))
      have X9 := Lib.hid (X8.out.below b9)
      have Y9 := Lib.hid (Y8.out.below b9)
      have Z9 := Lib.hid (Z8.out.below b9)
      clear b9 hb9 B8 X8 Y8 Z8 x0 K1 K2 K3 HK0 C4 HOT
      go_upto_region 21 with fail
      have LX := Lib.hid X9.out.lt
      obtain ⟨vb, hvb⟩ : ∃ y, verB key (msgC c) c.r c.g = y := ⟨_, rfl⟩
      rw [hvb] at VF2
      have HVB := Lib.hid hvb
      clear hvb
      go_cut [120] from 114 to 120 (fun s120 wx => s120 = .bool (!vb) ∧ Hid (Below w9.heap.size w9 wx))
      case first =>
        clear VF2 RF K4
        refine Tc.wp_region_plan (keep w9.heap.size) 7 [] (.fl 0 (.fl 1 (.fl 3 (.fl 4 (.one 2 (.one 5 (.fl 6 .done))))))) (by kernel_rfl) (by kernel_rfl) ?_
        intro w10 b10 e10
        have BB10 : Hid (Below w9.heap.size w9 w10) := Lib.hid b10
        clear b10 e10
        refine Tc.plan_floats [0, 1, 3, 4] [_, _, _, _] rfl ?_
        dsimp only [List.getElem_toArray, List.getElem_cons_succ, List.getElem_cons_zero]
        repeat (first | go_big_quiet_skip | (go_big_quiet_want; go_big_quiet_op; first | go_big_quiet_on | (refine ⟨_, fun _ _ => rfl, ?_⟩; go_big_quiet_on)))
        refine wpQuiet_load_part rfl 33 (.tmp 5) rfl w.heap.size 0 rfl 8 8 _ (ctC c) (ctC c) (fun W hW => row_keep (n := w9.heap.size) ((X9.out).below BB10.out) (LX.out) hW) (by decide) (fun j _ => by rw [Nat.zero_add]) _ Tryz.underlying33 rfl (by kernel_rfl) ?_
        simp only [Act.put, List.setIfInBounds_toArray, List.set_cons_succ, List.set_cons_zero]
        repeat (first | go_big_quiet_skip | (go_big_quiet_want; go_big_quiet_op; first | go_big_quiet_on | (refine ⟨_, fun _ _ => rfl, ?_⟩; go_big_quiet_on)))
        refine wpQuiet_load_part rfl 31 (.tmp 117) rfl w.heap.size 6 rfl 8 2 _ (ctC c) (sgC c) (fun W hW => row_keep (n := w9.heap.size) ((X9.out).below BB10.out) (LX.out) hW) (by decide) (fun j hj => by match j, hj with | 0, _ => rfl | 1, _ => rfl) _ Tryz.underlying31 rfl (by kernel_rfl) ?_
        simp only [Act.put, List.setIfInBounds_toArray, List.set_cons_succ, List.set_cons_zero]
        repeat (first | go_big_quiet_skip | (go_big_quiet_want; go_big_quiet_op; first | go_big_quiet_on | (refine ⟨_, fun _ _ => rfl, ?_⟩; go_big_quiet_on)))
        refine wpQuiet_nil ?_
        refine Tc.plan_one 2 rfl (fun K hK => ?_)
        go_wp2_with fail
        refine (MS.out _).mono ?_
        rintro e w11 ⟨⟨v, rfl, y11⟩, b11⟩
        obtain ⟨ya, yc, rfl⟩ := y11.slice
        have Y11 := Lib.hid y11
        have BB11 := Lib.hid (BB10.out.trans (b11.mono BB10.out.size))
        clear y11
        go_wp2_with fail
        refine hK _ _ (keep_below (b11.mono BB10.out.size)) ?_
        clear hK K b11 BB10 MS
        have VC := Lib.hid (rverify_any key c.r c.g _ (msgC c) w11 (by rw [ML.out]; decide) Y11.out)
        rw [HVB.out] at VC
        refine Tc.plan_one 5 rfl (fun K hK => ?_)
        go_wp2_with fail
        refine VC.out.mono ?_
        rintro e w12 ⟨rfl, b12⟩
        have BB12 := Lib.hid (BB11.out.trans (b12.mono BB11.out.size))
        go_wp2_with fail
        refine hK _ _ (keep_below (b12.mono BB11.out.size)) ?_
        clear hK K b12 BB11 Y11 VC
        refine Tc.plan_floats [6] [_] rfl ?_
        dsimp only [List.getElem_toArray, List.getElem_cons_succ, List.getElem_cons_zero]
        (try simp only [List.setIfInBounds_toArray, List.set_cons_succ, List.set_cons_zero])
        repeat (first | go_big_quiet_skip | (go_big_quiet_want; go_big_quiet_op; first | go_big_quiet_on | (refine ⟨_, fun _ _ => rfl, ?_⟩; go_big_quiet_on)))
        refine wpQuiet_nil ?_
        refine Tc.plan_done (l := []) rfl (fun K hK => ?_)
        go_wp2_with fail
        go_meet
        exact ⟨rfl, BB12⟩
      case rest =>
      rename World => w10
      obtain ⟨rfl, hb10⟩ := hcut
      have b10 := hb10.out
      have B10 := Lib.hid (B9.out.trans (b10.mono B9.out.size))
      have X10 := Lib.hid (X9.out.below b10)
      have Y10 := Lib.hid (Y9.out.below b10)
      have Z10 := Lib.hid (Z9.out.below b10)
      clear b10 hb10 B9 X9 Y9 Z9 MS
      cases vb
      · have F : Hid (R = (222, li0)) := VF2
        clear VF2 RF K4
        go_wp2_with (first | ((with_reducible (show wpList _ _ _ (Oper.mk (some 121) _ _ _ _ _ :: _) _ _)); refine Hid.out ?_))
        refine Lib.hid ?_
        refine wpList_build rfl 42 _ rfl #[] (by simp only [List.map_toArray, List.map_nil]) _ (zli _) ?_
        go_wp2_with (first | ((with_reducible (show wpList _ _ _ (Oper.mk none _ _ _ _ _ :: _) _ _)); refine Hid.out ?_))
        refine Lib.hid ?_
        refine wpList_store_rowV rfl 42 (.tmp 6) (.tmp 121) rfl w1.heap.size rfl 5 _ _ _ rfl (Z10.out) (by kernel_rfl) (fun j _ => liC_one _ j) ?_
        intro w9 Z9 O9
        go_wp2_with fail
        refine bodyPost_ret (v := .tuple #[.agg (rowF 5 (liC li0)), .int .i64 222]) (by exact results_rowV2 (fn := Tryz.f16) (p := 6) (u := 7) (ty := 42) rfl _ _ w1.heap.size 5 42 _ _ rfl Z9.out Tryz.underlying42 rfl (by kernel_rfl)) rfl (AccPost.mk F.out ?_)
        exact B10.out.trans (O9.out.below (Nat.le_of_lt L1.out) B10.out.size)
      have VF3 : Hid (R = (0, resF x c)) := VF2
      clear VF2
      have x0 : w10.cell? ⟨w.heap.size, 0, none⟩ = some (Value.int .i64 c.k) := X10.out.cell (i := 0) (by decide)
      have x1 : w10.cell? ⟨w.heap.size, 1, none⟩ = some (Value.int .i64 cd) := by rw [← HCD.out]; exact X10.out.cell (i := 1) (by decide)
      have x4 : w10.cell? ⟨w.heap.size, 4, none⟩ = some (Value.int .i64 cn) := by rw [← HCN.out]; exact X10.out.cell (i := 4) (by decide)
      by_cases hk4 : c.k = 4
      · have F : Hid (R = (0, ⟨cd, l.v, l.l, cn, true⟩)) := Lib.hid (by rw [VF3.out, RF.out, if_pos hk4, (K4.out hk4).2])
        rw [hk4] at x0
        clear VF3 RF K4 hk4
        have y1 := li_cell Y10.out (i := 1) (by decide)
        have y2 := li_cell Y10.out (i := 2) (by decide)
        rw [show l.at 1 = l.v from rfl] at y1
        rw [show l.at 2 = l.l from rfl] at y2
        go_wp2_with (first | ((with_reducible (show wpList _ _ _ (Oper.mk (some 133) _ _ _ _ _ :: _) _ _)); refine Hid.out ?_))
        refine Lib.hid ?_
        refine wpList_build rfl 42 _ rfl #[(0, .int .i64 cd), (1, .int .i64 l.v), (2, .int .i64 l.l), (3, .int .i64 cn), (4, .bool true)] (by simp only [List.map_toArray, List.map_cons, List.map_nil]; rfl) _ (build_gone cd l.v l.l cn _) ?_
        clear x0 x1 x4 y1 y2
        go_wp2_with (first | ((with_reducible (show wpList _ _ _ (Oper.mk none _ _ _ _ _ :: _) _ _)); refine Hid.out ?_))
        refine Lib.hid ?_
        refine wpList_store_rowV rfl 42 (.tmp 6) (.tmp 133) rfl w1.heap.size rfl 5 _ _ _ rfl (Z10.out) (by kernel_rfl) (fun j _ => liC_one _ j) ?_
        intro w9 Z9 O9
        go_wp2_with fail
        refine bodyPost_ret (v := .tuple #[.agg (rowF 5 (liC ⟨cd, l.v, l.l, cn, true⟩)), .int .i64 0]) (by exact results_rowV2 (fn := Tryz.f16) (p := 6) (u := 7) (ty := 42) rfl _ _ w1.heap.size 5 42 _ _ rfl Z9.out Tryz.underlying42 rfl (by kernel_rfl)) rfl (AccPost.mk F.out ?_)
        exact B10.out.trans (O9.out.below (Nat.le_of_lt L1.out) B10.out.size)
      · have F : Hid (R = (0, ⟨cd, c.v, c.l, cn, false⟩)) := Lib.hid (by rw [VF3.out, RF.out, if_neg hk4])
        have e0 : (c.k == 4) = false := by rw [beq_eq_false_iff_ne]; exact hk4
        clear VF3 RF K4 hk4
        have x2 : w10.cell? ⟨w.heap.size, 2, none⟩ = some (Value.int .i64 c.v) := X10.out.cell (i := 2) (by decide)
        have x3 : w10.cell? ⟨w.heap.size, 3, none⟩ = some (Value.int .i64 c.l) := X10.out.cell (i := 3) (by decide)
        go_wp2_with (first | ((with_reducible (show wpList _ _ _ (Oper.mk (some 142) _ _ _ _ _ :: _) _ _)); refine Hid.out ?_))
        refine Lib.hid ?_
        refine wpList_build rfl 42 _ rfl #[(0, .int .i64 cd), (1, .int .i64 c.v), (2, .int .i64 c.l), (3, .int .i64 cn)] (by simp only [List.map_toArray, List.map_cons, List.map_nil]; rfl) _ (build_li cd c.v c.l cn _) ?_
        clear x0 x1 x2 x3 x4 e0
        go_wp2_with (first | ((with_reducible (show wpList _ _ _ (Oper.mk none _ _ _ _ _ :: _) _ _)); refine Hid.out ?_))
        refine Lib.hid ?_
        refine wpList_store_rowV rfl 42 (.tmp 6) (.tmp 142) rfl w1.heap.size rfl 5 _ _ _ rfl (Z10.out) (by kernel_rfl) (fun j _ => liC_one _ j) ?_
        intro w9 Z9 O9
        go_wp2_with fail
        refine bodyPost_ret (v := .tuple #[.agg (rowF 5 (liC ⟨cd, c.v, c.l, cn, false⟩)), .int .i64 0]) (by exact results_rowV2 (fn := Tryz.f16) (p := 6) (u := 7) (ty := 42) rfl _ _ w1.heap.size 5 42 _ _ rfl Z9.out Tryz.underlying42 rfl (by kernel_rfl)) rfl (AccPost.mk F.out ?_)
        exact B10.out.trans (O9.out.below (Nat.le_of_lt L1.out) B10.out.size)
end Go.Proofs.YtmmppibbglacdaaGreatDoor
