/- The reference of people: with, Listings. -/
import Derived.Test.YtmmppibbglacdaaGreatDoorPk51
import Derived.Test.YtmmppibbglacdaaGreatDoorPk38
set_option linter.unusedVariables false
set_option linter.unusedSimpArgs false
namespace Go.Proofs.YtmmppibbglacdaaGreatDoor
open Go.RowKit Cod
/-- what 'with' has written after k listings: met: the new one is among them -/
def WithI (y : Li) (x : List Li) (k : Nat) (m : Bool) (o : List Li) : Prop :=
  withL y x = o ++ (if m then (x.drop k).filter (fun z => !decide (z.d = y.d)) else withL y (x.drop k)) ∧ o.length ≤ 2 * k
theorem dropL_getD {x : List Li} {k : Nat} (h : k < x.length) : x.drop k = x.getD k li0 :: x.drop (k + 1) := by
  rw [List.drop_eq_getElem_cons h, List.getD_eq_getElem?_getD, List.getElem?_eq_getElem h]; rfl
/-- not met, and lesser: it is passed on -/
theorem WithI.less {y : Li} {x : List Li} {k : Nat} {o : List Li} {z : Li} (h : WithI y x k false o) (hk : k < x.length) (hz : x.getD k li0 = z) (hl : z.d < y.d) : WithI y x (k + 1) false (o ++ [z]) := by
  obtain ⟨h1, h2⟩ := h
  refine ⟨?_, by rw [List.length_append, List.length_singleton]; omega⟩
  rw [h1, if_neg Bool.false_ne_true, if_neg Bool.false_ne_true, dropL_getD hk, hz, List.append_assoc]
  congr 1
  show withL y (z :: x.drop (k + 1)) = z :: withL y (x.drop (k + 1))
  conv => lhs; unfold withL
  rw [if_pos hl]
/-- not met, and not lesser: the new one is put -/
theorem WithI.put {y : Li} {x : List Li} {k : Nat} {o : List Li} {z : Li} (h : WithI y x k false o) (hk : k < x.length) (hz : x.getD k li0 = z) (hl : ¬ z.d < y.d) : withL y x = (o ++ [y]) ++ (x.drop k).filter (fun z => !decide (z.d = y.d)) := by
  obtain ⟨h1, h2⟩ := h
  rw [h1, if_neg Bool.false_ne_true, dropL_getD hk, hz, List.append_assoc]
  congr 1
  conv => lhs; unfold withL
  rw [if_neg hl]; rfl
theorem WithI.pass {y : Li} {x : List Li} {k : Nat} {o : List Li} {z : Li} (h : withL y x = o ++ (x.drop k).filter (fun z => !decide (z.d = y.d))) (hk : k < x.length) (hz : x.getD k li0 = z) (hl : ¬ z.d = y.d) (hn : o.length ≤ 2 * k + 1) : WithI y x (k + 1) true (o ++ [z]) := by
  refine ⟨?_, by rw [List.length_append, List.length_singleton]; omega⟩
  rw [h, if_pos rfl, dropL_getD hk, hz, List.filter_cons_of_pos (by simpa using hl), List.append_assoc]; rfl
theorem WithI.skip {y : Li} {x : List Li} {k : Nat} {o : List Li} {z : Li} (h : withL y x = o ++ (x.drop k).filter (fun z => !decide (z.d = y.d))) (hk : k < x.length) (hz : x.getD k li0 = z) (hl : z.d = y.d) (hn : o.length ≤ 2 * k + 1) : WithI y x (k + 1) true o := by
  refine ⟨?_, by omega⟩
  rw [h, if_pos rfl, dropL_getD hk, hz, List.filter_cons_of_neg (by simpa using hl)]
theorem WithI.endF {y : Li} {x : List Li} {o : List Li} (h : WithI y x x.length false o) : withL y x = o ++ [y] := by
  rw [h.1, if_neg Bool.false_ne_true, List.drop_length]; unfold withL; rfl
theorem WithI.endT {y : Li} {x : List Li} {o : List Li} (h : WithI y x x.length true o) : withL y x = o := by
  rw [h.1, if_pos rfl, List.drop_length]; simp
/-- the half of a round: what lies between its two tests -/
def WithH (y : Li) (x : List Li) (k : Nat) (z : Li) (m : Bool) (o : List Li) : Prop :=
  if m then (withL y x = o ++ (x.drop k).filter (fun z => !decide (z.d = y.d)) ∧ o.length ≤ 2 * k + 1) else (WithI y x k false o ∧ z.d < y.d)
abbrev LiOwn (w : World) (b : Nat) (v : Value) (l : List Li) : Prop := OwnT 42 5 liC w b v l
set_option maxRecDepth 100000 in
set_option maxHeartbeats 16000000 in
theorem rwith_any (x : List Li) (xv : Value) (yl : Li) (w : World) (hx : SlAt 5 w xv x.length (fun i => liC (x.getD i li0))) (hxn : x.length ≤ 1000) :
    Calls Tryz.prog 47 #[xv, liA yl] w fun e w' => ∃ u, e = .returned u ∧ SlAt 5 w' u (withL yl x).length (fun i => liC ((withL yl x).getD i li0)) ∧ Below w.heap.size w w' := by
  obtain ⟨xa, xc, rfl⟩ := hx.slice
  obtain ⟨n, hln⟩ : ∃ n, x.length = n := ⟨_, rfl⟩
  have HX : Hid (SlAt 5 w (.slice xa n xc) n (fun i => liC (x.getD i li0))) := Lib.hid (by rw [← hln]; exact hx)
  have HN := Lib.hid hln
  have W0 : Hid (WithI yl x 0 false []) := Lib.hid ⟨rfl, Nat.zero_le _⟩
  have WL : Hid ((withL yl x).length ≤ 1000000) := Lib.hid (by have := withL_len yl x; omega)
  have qn : (n : Int) ≤ 1000 := by omega
  rw [hln]
  clear hx hxn hln
  go_enter Tryz.func47, Tryz.ntmps47
  have B0 := Lib.hid (Below.refl w.heap.size w)
  go_upto_region 1 with fail
  obtain ⟨w1, hw1⟩ : ∃ y, w.alloc (.cells (rowF 5 (liC yl)) 42) = y := ⟨_, rfl⟩
  have b1 : Below w.heap.size w w1 := by rw [← hw1]; exact (Below.refl _ _).alloc (Nat.le_refl _) _
  have Y1 : Hid (RowV w1 w.heap.size 42 5 (liC yl)) := Lib.hid (by rw [← hw1]; exact RowV.new w _ 5 (liC yl))
  have z1 : w.heap.size + 1 = w1.heap.size := by rw [← hw1]; exact (Array.size_push _).symm
  rw [hw1]
  (try rw [z1])
  have B1 := Lib.hid (B0.out.trans (b1.mono B0.out.size))
  clear b1 hw1 z1 B0
  have L1 : Hid (w.heap.size < w1.heap.size) := Lib.hid Y1.out.lt
  have HY1 := Y1
  have HB1 := B1
  go_upto_region 2 with fail
  obtain ⟨w2, hw2⟩ : ∃ y, w1.alloc (.cells #[] 42) = y := ⟨_, rfl⟩
  have b2 : Below w1.heap.size w1 w2 := by rw [← hw2]; exact (Below.refl _ _).alloc (Nat.le_refl _) _
  have U2 : Hid (LiOwn w2 w1.heap.size (.slice (some ⟨w1.heap.size, 0, none⟩) 0 0) []) := Lib.hid (by rw [← hw2]; exact OwnT.none0 (Nat.le_refl _) (MapKept.heap_alloc w1 _).1)
  have S2 : Hid (Since w1 w2) := Lib.hid (by rw [← hw2]; exact (Below.refl _ _).alloc (Nat.le_refl _) _)
  have z2 : w1.heap.size + 1 = w2.heap.size := by rw [← hw2]; exact (Array.size_push _).symm
  rw [hw2]
  (try rw [z2])
  have B2 := Lib.hid (B1.out.trans (b2.mono B1.out.size))
  have Y2 := Lib.hid (Y1.out.below b2)
  clear b2 hw2 z2 B1 Y1
  clear B2 Y2
  go_wp2_with fail
  go_loopg [5, 6, 7] n (fun g s5 s6 s7 wx => ∃ (k : Nat) (u : Value) (m : Bool) (o : List Li), k + g = n ∧ s5 = u ∧ s6 = .bool m ∧ s7 = .int .i64 (k : Int) ∧ Hid (LiOwn wx w1.heap.size u o) ∧ Hid (WithI yl x k m o) ∧ Hid (Since w1 wx))
  case atStart => exact ⟨0, _, false, [], by omega, rfl, rfl, rfl, U2, W0, S2⟩
  case round =>
    clear U2 W0 S2
    obtain ⟨k, u, m, o, hk, rfl, rfl, rfl, hU, hW, hS⟩ := hrel
    obtain ⟨w3, rfl⟩ : ∃ y, y = wr := ⟨_, rfl⟩
    have q0 : (0 : Int) ≤ (k : Int) := Int.natCast_nonneg k
    by_cases hlt : k < n
    · have d0 : decide ((k : Int) < (n : Int)) = true := by rw [decide_eq_true_iff]; omega
      have d1 : decide (k < n) = true := by rw [decide_eq_true_iff]; omega
      have p2 : (k : Int) < (n : Int) := by omega
      have p1 : (k : Int) + 1 ≤ 1000 := by omega
      obtain ⟨b, off, rfl, hcap, hb, hc⟩ := SlAt.at_elem (s := 5) (n := n) (a := xa) (k := xc) (c := fun i => liC (x.getD i li0)) HX.out hlt
      have HLT := Lib.hid hlt
      have HLX : Hid (k < x.length) := Lib.hid (by rw [HN.out]; exact hlt)
      have HB : Hid (b < w.heap.size) := Lib.hid hb
      have HC : Hid (∀ j, j < 5 → w.cell? ⟨b, off + 5 * k + j, none⟩ = some (liC (x.getD k li0) j)) := Lib.hid (fun j hj => hc k hlt j hj)
      have XW : Hid (∀ W, Since w1 W → ∀ j, j < 5 → W.cell? ⟨b, off + 5 * k + j, none⟩ = some (liC (x.getD k li0) j)) := Lib.hid (fun W s j hj => ((HB1.out.trans (s.b.mono (Nat.le_of_lt L1.out))).cell (p := ⟨b, off + 5 * k + j, none⟩) HB.out).trans (HC.out j hj))
      have YW : Hid (∀ W, Since w1 W → RowV W w.heap.size 42 5 (liC yl)) := Lib.hid (fun W s => HY1.out.below s.b)
      obtain ⟨z, hz⟩ : ∃ z, x.getD k li0 = z := ⟨_, rfl⟩
      have HZ := Lib.hid hz
      rw [hz] at XW
      have OL : Hid (o.length ≤ 2000) := Lib.hid (by have := hW.out.2; omega)
      clear hc hcap hb hz hlt HC
      have x0 : w3.cell? ⟨b, off + k * 5, none⟩ = some (.int .i64 z.d) := by have := XW.out w3 hS.out 0 (by decide); rwa [Nat.mul_comm 5 k, Nat.add_zero] at this
      have y0 : w3.cell? ⟨w.heap.size, 0, none⟩ = some (.int .i64 yl.d) := li_cell (YW.out w3 hS.out) (i := 0) (by decide)
      go_upto_region 6 with fail
      clear d0 d1
      obtain ⟨tb, htb⟩ : ∃ q, (!m && decide (yl.d ≤ z.d)) = q := ⟨_, rfl⟩
      have HTB := Lib.hid htb
      clear htb
      go_cut [26] from 15 to 26 (fun s26 wx => s26 = .bool tb ∧ Hid (Below w3.heap.size w3 wx))
      case first =>
        cases m
        · by_cases hl : z.d < yl.d
          · have e0 : decide (yl.d ≤ z.d) = false := by rw [decide_eq_false_iff_not]; omega
            obtain rfl : tb = false := by rw [← HTB.out, e0]; rfl
            clear hl hW HTB
            go_quiet (fail)
            have bq := Lib.hid (below_drewN (Below.refl w3.heap.size w3) nq)
            go_wp2_with fail
            go_meet
            exact ⟨rfl, bq⟩
          · have e0 : decide (yl.d ≤ z.d) = true := by rw [decide_eq_true_iff]; omega
            obtain rfl : tb = true := by rw [← HTB.out, e0]; rfl
            clear hl hW HTB
            go_quiet (fail)
            have bq := Lib.hid (below_drewN (Below.refl w3.heap.size w3) nq)
            go_wp2_with fail
            go_meet
            exact ⟨rfl, bq⟩
        · obtain rfl : tb = false := by rw [← HTB.out]; rfl
          clear hW HTB
          go_quiet (fail)
          have bq := Lib.hid (below_drewN (Below.refl w3.heap.size w3) nq)
          go_wp2_with fail
          go_meet
          exact ⟨rfl, bq⟩
      case rest =>
      rename World => w5
      obtain ⟨rfl, b5⟩ := hcut
      have U5 := Lib.hid (hU.out.below b5.out)
      have S5 := Lib.hid (hS.out.below b5.out)
      clear hU hS b5 x0 y0
      go_upto_if 26 with fail
      go_cut [5, 6] from 27 to 30 (fun s5 s6 wx => ∃ (m' : Bool) (o' : List Li), s6 = .bool m' ∧ Hid (LiOwn wx w1.heap.size s5 o') ∧ Hid (WithH yl x k z m' o') ∧ Hid (Since w1 wx))
      case first =>
        cases m
        · by_cases hl : z.d < yl.d
          · obtain rfl : tb = false := by rw [← HTB.out, decide_eq_false (by omega)]; rfl
            have FH : Hid (WithH yl x k z false o) := Lib.hid ⟨hW.out, hl⟩
            clear hl hW HTB
            go_wp2_with fail
            go_meet
            exact ⟨false, o, rfl, U5, FH, S5⟩
          · obtain rfl : tb = true := by rw [← HTB.out, decide_eq_true (by omega)]; rfl
            have FH : Hid (WithH yl x k z true (o ++ [yl])) := Lib.hid ⟨WithI.put hW.out HLX.out HZ.out hl, by have := hW.out.2; rw [List.length_append, List.length_singleton]; omega⟩
            clear hl hW HTB
            have Y3 := Lib.hid (YW.out w5 S5.out)
            go_wp2_with (first | ((with_reducible (show wpList _ _ _ (Oper.mk (some 28) _ _ _ _ _ :: _) _ _)); refine Hid.out ?_))
            refine Lib.hid ?_
            refine wpList_load_rowV rfl 42 (.tmp 3) rfl w.heap.size rfl 5 _ _ (Y3.out) _ Tryz.underlying42 rfl (by kernel_rfl) ?_
            go_wp2_with (first | ((with_reducible (show wpList _ _ _ (Oper.mk (some 29) _ _ _ _ _ :: _) _ _)); refine Hid.out ?_))
            refine Lib.hid ?_
            refine wpList_buildT (s := 5) (c := liC) rfl 39 1 _ rfl li0 [yl] rfl (by decide) (by decide) (by decide) (by decide) rfl Tryz.underlying39 (by kernel_rfl) (by kernel_rfl) ?_
            intro w9 N9 bb L9
            have b9 := bb.out
            have U9 := Lib.hid (U5.out.below b9)
            have S9 := Lib.hid (S5.out.below b9)
            clear bb L9 b9 Y3 U5 S5
            refine wpList_app_S rfl (.tmp 27) (.tmp 29) info_li Tryz.underlying39 rfl (by decide) (by decide) liC_one li0 rfl w1.heap.size _ o rfl U9.out _ [yl] rfl (N9.out.at' li0 (by decide) (by decide) (show 1 ≤ 1000000 by decide)) (by have := OL.out; rw [List.length_singleton]; omega) S9.out.le ?_
            intro v10 w10 U10 s10
            have S10 := Lib.hid (S9.out.app s10.out (fun b hb => (U9.out.lt b hb).1))
            clear s10 S9 U9 N9
            go_wp2_with fail
            go_meet
            exact ⟨true, _, rfl, U10, FH, S10⟩
        · obtain rfl : tb = false := by rw [← HTB.out]; rfl
          have FH : Hid (WithH yl x k z true o) := Lib.hid ⟨by have := hW.out.1; rwa [if_pos rfl] at this, by have := hW.out.2; omega⟩
          clear hW HTB
          go_wp2_with fail
          go_meet
          exact ⟨true, o, rfl, U5, FH, S5⟩
      case rest =>
        rename World => w4
        rename Value => u4
        obtain ⟨m', o', rfl, U4, F4, S4⟩ := hcut
        clear U5 hW S5 OL HTB
        have x0 : w4.cell? ⟨b, off + k * 5, none⟩ = some (.int .i64 z.d) := by have := XW.out w4 S4.out 0 (by decide); rwa [Nat.mul_comm 5 k, Nat.add_zero] at this
        have y0 : w4.cell? ⟨w.heap.size, 0, none⟩ = some (.int .i64 yl.d) := li_cell (YW.out w4 S4.out) (i := 0) (by decide)
        have OL : Hid (o'.length ≤ 2001) := Lib.hid (by
          have h := F4.out
          unfold WithH at h
          cases m'
          · rw [if_neg Bool.false_ne_true] at h; have := h.1.2; have := HLT.out; omega
          · rw [if_pos rfl] at h; have := h.2; have := HLT.out; omega)
        go_upto_region 9 with fail
        by_cases he : z.d = yl.d
        · have e0 : (z.d != yl.d) = false := by rw [bne_eq_false_iff_eq]; exact he
          have FI : Hid (WithI yl x (k + 1) m' o') := Lib.hid (by
            have h := F4.out
            unfold WithH at h
            cases m'
            · rw [if_neg Bool.false_ne_true] at h; exact absurd h.2 (by omega)
            · rw [if_pos rfl] at h; exact WithI.skip h.1 HLX.out HZ.out he h.2)
          clear he F4
          go_quiet (fail)
          have bq := below_drewN (Below.refl w4.heap.size w4) nq
          have U6 := Lib.hid (U4.out.below bq)
          have S6 := Lib.hid (S4.out.below bq)
          clear bq U4 S4
          go_wp2_with fail
          go_roundg (n - (k + 1))
          case measure => have := HLT.out; omega
          case rel =>
            go_light
            exact ⟨k + 1, _, _, _, by have := HLT.out; omega, rfl, rfl, by go_num, U6, FI, S6⟩
        · have e0 : (z.d != yl.d) = true := by rw [bne_iff_ne]; exact he
          have FI : Hid (WithI yl x (k + 1) m' (o' ++ [z])) := Lib.hid (by
            have h := F4.out
            unfold WithH at h
            cases m'
            · rw [if_neg Bool.false_ne_true] at h; exact WithI.less h.1 HLX.out HZ.out h.2
            · rw [if_pos rfl] at h; exact WithI.pass h.1 HLX.out HZ.out he h.2)
          clear he F4
          go_quiet (fail)
          have bq := below_drewN (Below.refl w4.heap.size w4) nq
          have U6 := Lib.hid (U4.out.below bq)
          have S6 := Lib.hid (S4.out.below bq)
          obtain ⟨w6, hw6⟩ : ∃ q, w4.drewN nq = q := ⟨_, rfl⟩
          rw [hw6] at U6 S6 ⊢
          clear bq U4 S4 hw6
          have XC := Lib.hid (XW.out w6 S6.out)
          go_upto_region 10 with fail
          clear x0 y0
          go_wp2_with (first | ((with_reducible (show wpList _ _ _ (Oper.mk (some 43) _ _ _ _ _ :: _) _ _)); refine Hid.out ?_))
          refine Lib.hid ?_
          refine wpList_load_elem rfl 42 (.tmp 42) rfl b (off + k * 5) rfl 5 off k (by rw [Nat.mul_comm]) (liC z) XC.out _ Tryz.underlying42 rfl (by kernel_rfl) ?_
          go_wp2_with (first | ((with_reducible (show wpList _ _ _ (Oper.mk (some 44) _ _ _ _ _ :: _) _ _)); refine Hid.out ?_))
          refine Lib.hid ?_
          refine wpList_buildT (s := 5) (c := liC) rfl 39 1 _ rfl li0 [z] rfl (by decide) (by decide) (by decide) (by decide) rfl Tryz.underlying39 (by kernel_rfl) (by kernel_rfl) ?_
          intro w9 N9 bb L9
          have b9 := bb.out
          have U9 := Lib.hid (U6.out.below b9)
          have S9 := Lib.hid (S6.out.below b9)
          clear bb L9 b9 XC U6 S6
          refine wpList_app_S rfl (.tmp 39) (.tmp 44) info_li Tryz.underlying39 rfl (by decide) (by decide) liC_one li0 rfl w1.heap.size _ o' rfl U9.out _ [z] rfl (N9.out.at' li0 (by decide) (by decide) (show 1 ≤ 1000000 by decide)) (by have := OL.out; rw [List.length_singleton]; omega) S9.out.le ?_
          intro v10 w10 U10 s10
          have S10 := Lib.hid (S9.out.app s10.out (fun b hb => (U9.out.lt b hb).1))
          clear s10 S9 U9 N9
          go_wp2_with fail
          go_roundg (n - (k + 1))
          case measure => have := HLT.out; omega
          case rel =>
            go_light
            exact ⟨k + 1, _, _, _, by have := HLT.out; omega, rfl, rfl, by go_num, U10, FI, S10⟩
    · have d0 : decide ((k : Int) < (n : Int)) = false := by rw [decide_eq_false_iff_not]; omega
      have d1 : decide (k < n) = false := by rw [decide_eq_false_iff_not]; omega
      obtain rfl : k = n := by omega
      have OL : Hid (o.length ≤ 2000) := Lib.hid (by have := hW.out.2; omega)
      have BW : Hid (∀ W, Since w1 W → Below w.heap.size w W) := Lib.hid (fun W s => HB1.out.trans (s.b.mono (Nat.le_of_lt L1.out)))
      cases m
      · have E : Hid (withL yl x = o ++ [yl]) := Lib.hid (WithI.endF (by rw [HN.out]; exact hW.out))
        have Y3 := Lib.hid (HY1.out.below hS.out.b)
        clear hW hlt
        go_wp2_with (first | ((with_reducible (show wpList _ _ _ (Oper.mk (some 49) _ _ _ _ _ :: _) _ _)); refine Hid.out ?_))
        refine Lib.hid ?_
        refine wpList_load_rowV rfl 42 (.tmp 3) rfl w.heap.size rfl 5 _ _ (Y3.out) _ Tryz.underlying42 rfl (by kernel_rfl) ?_
        go_wp2_with (first | ((with_reducible (show wpList _ _ _ (Oper.mk (some 50) _ _ _ _ _ :: _) _ _)); refine Hid.out ?_))
        refine Lib.hid ?_
        refine wpList_buildT (s := 5) (c := liC) rfl 39 1 _ rfl li0 [yl] rfl (by decide) (by decide) (by decide) (by decide) rfl Tryz.underlying39 (by kernel_rfl) (by kernel_rfl) ?_
        intro w9 N9 bb L9
        have b9 := bb.out
        have U9 := Lib.hid (hU.out.below b9)
        have S9 := Lib.hid (hS.out.below b9)
        clear bb L9 b9 Y3 hU hS
        refine wpList_app_S rfl (.tmp 48) (.tmp 50) info_li Tryz.underlying39 rfl (by decide) (by decide) liC_one li0 rfl w1.heap.size _ o rfl U9.out _ [yl] rfl (N9.out.at' li0 (by decide) (by decide) (show 1 ≤ 1000000 by decide)) (by have := OL.out; rw [List.length_singleton]; omega) S9.out.le ?_
        intro v10 w10 U10 s10
        have S10 := Lib.hid (S9.out.app s10.out (fun b hb => (U9.out.lt b hb).1))
        clear s10 S9 U9 N9
        rw [← E.out] at U10
        go_wp2_with fail
        go_ret
        exact ⟨_, rfl, U10.out.at' li0 (by decide) (by decide) WL.out, BW.out _ S10.out⟩
      · obtain rfl : o = withL yl x := (WithI.endT (by rw [HN.out]; exact hW.out)).symm
        clear hW hlt
        go_wp2_with fail
        go_ret
        exact ⟨_, rfl, hU.out.at' li0 (by decide) (by decide) WL.out, BW.out _ hS.out⟩
set_option maxRecDepth 100000 in
set_option maxHeartbeats 16000000 in
theorem rlistings_any (ps : List Pe) (us : Nat → Sv) (v : Value) (cs : List Ct) (cv : Value) (w : World) (h : PesS w v ps us) (hn : ps.length ≤ 1000) (hc : SlAt 8 w cv cs.length (fun i => ctC (cs.getD i ct0))) (hcn : cs.length ≤ 12) (hw : ∀ c ∈ cs, c.wf) :
    Calls Tryz.prog 19 #[v, cv] w fun e w' => ∃ u, e = .returned u ∧ SlAt 5 w' u (lisF ps cs).length (fun i => liC ((lisF ps cs).getD i li0)) ∧ Below w.heap.size w w' := by
  obtain ⟨va, vc, rfl⟩ := h.1.slice
  obtain ⟨ca, cc, rfl⟩ := hc.slice
  have PS := Lib.hid h
  have HN := Lib.hid hn
  have CW : Hid (∀ k, k < cs.length → (cs.getD k ct0).wf) := Lib.hid (fun k hk => hw _ (by rw [List.getD_eq_getElem?_getD, List.getElem?_eq_getElem hk]; exact List.getElem_mem hk))
  obtain ⟨pn, hpn⟩ : ∃ y, ps.length = y := ⟨_, rfl⟩
  obtain ⟨n, hln⟩ : ∃ y, cs.length = y := ⟨_, rfl⟩
  have HLN := Lib.hid hln
  have HC : Hid (SlAt 8 w (.slice ca n cc) n (fun i => ctC (cs.getD i ct0))) := Lib.hid (by rw [← hln]; exact hc)
  have qn : (n : Int) ≤ 12 := by omega
  rw [hpn] at PS ⊢
  rw [hln] at CW ⊢
  have FIN : Hid (∀ u w', SlAt 5 w' u (lisF ps (cs.take n)).length (fun i => liC ((lisF ps (cs.take n)).getD i li0)) → SlAt 5 w' u (lisF ps cs).length (fun i => liC ((lisF ps cs).getD i li0))) := Lib.hid (fun u w' h => by rwa [List.take_of_length_le (by omega)] at h)
  clear h hn hc hcn hw hpn hln
  go_enter Tryz.func19, Tryz.ntmps19
  have B0 := Lib.hid (Below.refl w.heap.size w)
  go_upto_region 2 with fail
  obtain ⟨w1, hw1⟩ : ∃ y, w.alloc (.cells #[] 42) = y := ⟨_, rfl⟩
  have b1 : Below w.heap.size w w1 := by rw [← hw1]; exact (Below.refl _ _).alloc (Nat.le_refl _) _
  have S1 : Hid (SlAt 5 w1 (.slice (some ⟨w.heap.size, 0, none⟩) 0 0) (lisF ps []).length (fun i => liC ((lisF ps []).getD i li0))) := Lib.hid (by rw [← hw1]; exact .inl ⟨⟨_, 0, rfl, fun h => by cases h⟩, rfl⟩)
  have z1 : w.heap.size + 1 = w1.heap.size := by rw [← hw1]; exact (Array.size_push _).symm
  rw [hw1]
  (try rw [z1])
  have B1 := Lib.hid (B0.out.trans (b1.mono B0.out.size))
  clear b1 hw1 z1 B0
  go_wp2_with fail
  go_loopg [5, 6] n (fun g s5 s6 wx => ∃ k : Nat, k + g = n ∧ s6 = .int .i64 (k : Int) ∧ Hid (SlAt 5 wx s5 (lisF ps (cs.take k)).length (fun i => liC ((lisF ps (cs.take k)).getD i li0))) ∧ Hid (Below w.heap.size w wx))
  case atStart => exact ⟨0, by omega, rfl, S1, B1⟩
  case round =>
    clear S1 B1
    obtain ⟨k, hk, rfl, hS, hB⟩ := hrel
    obtain ⟨w1, rfl⟩ : ∃ y, y = wr := ⟨_, rfl⟩
    have q0 : (0 : Int) ≤ (k : Int) := Int.natCast_nonneg k
    by_cases hlt : k < n
    · have d0 : decide ((k : Int) < (n : Int)) = true := by rw [decide_eq_true_iff]; omega
      have d1 : decide (k < n) = true := by rw [decide_eq_true_iff]; omega
      have p2 : (k : Int) < (n : Int) := by omega
      obtain ⟨b, off, rfl, hcap, hb, hcc⟩ := SlAt.at_elem (s := 8) (n := n) (a := ca) (k := cc) (c := fun i => ctC (cs.getD i ct0)) (HC.out.below hB.out) hlt
      have HLT := Lib.hid hlt
      have HCK := Lib.hid (fun j hj => hcc k hlt j hj)
      have TK : Hid (lisF ps (cs.take (k + 1)) = stepL ps (lisF ps (cs.take k)) (cs.getD k ct0)) := Lib.hid (by rw [take_succ_getD ct0 cs (show k < cs.length by rw [HLN.out]; exact hlt), lisF_snoc])
      have CK := Lib.hid (CW.out k hlt)
      have LEN0 : Hid ((lisF ps (cs.take k)).length ≤ 1000) := Lib.hid (by have h1 := lisF_len ps (cs.take k); have h2 := List.length_take_le k cs; omega)
      obtain ⟨c, hcv⟩ : ∃ y, cs.getD k ct0 = y := ⟨_, rfl⟩
      rw [hcv] at HCK TK CK
      have p1 : (k : Int) + 1 ≤ 12 := by omega
      obtain ⟨sa, sc, rfl⟩ := hS.out.slice
      clear hcc hcap hb hcv hlt
      go_upto_region 5 with fail
      clear d0 d1
      go_wp2_with (first | ((with_reducible (show wpList _ _ _ (Oper.mk (some 22) _ _ _ _ _ :: _) _ _)); refine Hid.out ?_))
      refine Lib.hid ?_
      refine wpList_load_elem rfl 33 (.tmp 21) rfl b (off + k * 8) rfl 8 off k (by rw [Nat.mul_comm]) (ctC c) HCK.out _ Tryz.underlying33 rfl (by kernel_rfl) ?_
      have B1 := hB
      have S1 := hS
      clear hB hS HCK
      have AC := Lib.hid (raccept_any ps us _ (lisF ps (cs.take k)) _ c CK.out w1 (PS.out.below B1.out) HN.out S1.out LEN0.out)
      have ST : Hid (lisF ps (cs.take (k + 1)) = if (accF ps (lisF ps (cs.take k)) c).1 = 0 then withL (accF ps (lisF ps (cs.take k)) c).2 (lisF ps (cs.take k)) else lisF ps (cs.take k)) := TK
      obtain ⟨r, hr⟩ : ∃ y, accF ps (lisF ps (cs.take k)) c = y := ⟨_, rfl⟩
      rw [hr] at AC ST
      obtain ⟨E, Y⟩ := r
      clear TK CK hr
      go_wp2_with fail
      refine (AC.out).mono ?_
      rintro e w2 ⟨rfl, b2⟩
      have B2 := Lib.hid (B1.out.trans (b2.mono B1.out.size))
      have S2 := Lib.hid (S1.out.below b2)
      clear b2 B1 S1
      clear AC
      dsimp only
      have Zr := Lib.hid (RowV.new w2 42 5 (liC li0))
      go_upto_region 6 with ((with_reducible (show wpList _ _ _ (Oper.mk none _ _ _ _ _ :: _) _ _)); refine wpList_store_rowV (o := ⟨none, .store 42 (.tmp 7) (.tmp 24), _, _, _, _⟩) rfl 42 (.tmp 7) (.tmp 24) rfl w2.heap.size rfl 5 42 _ (liC Y) rfl Zr.out (by kernel_rfl) (fun j _ => liC_one Y j) ?_; intro w3 Z3 o3)
      have b3 : Below w2.heap.size w2 w3 := ((Below.refl _ _).alloc (Nat.le_refl _) _).trans (o3.out.below (Nat.le_refl _) (by rw [World.size_alloc]; omega))
      have B3 := Lib.hid (B2.out.trans (b3.mono B2.out.size))
      have S3 := Lib.hid (S2.out.below b3)
      clear b3 o3 Zr B2 S2
      by_cases hE : E = 0
      rotate_left
      · have e0 : (E == 0) = false := by rw [beq_eq_false_iff_ne]; exact hE
        have e1 : Hid (lisF ps (cs.take (k + 1)) = lisF ps (cs.take k)) := Lib.hid (by rw [ST.out]; exact if_neg hE)
        have S5 : Hid (SlAt 5 w3 (.slice sa (lisF ps (cs.take k)).length sc) (lisF ps (cs.take (k + 1))).length (fun i => liC ((lisF ps (cs.take (k + 1))).getD i li0))) := Lib.hid (by rw [e1.out]; exact S3.out)
        clear ST hE e1 S3 Z3 LEN0
        go_wp2_with fail
        go_roundg (n - (k + 1))
        case measure => have := HLT.out; omega
        case rel =>
          go_light
          exact ⟨k + 1, by have := HLT.out; omega, by go_num, S5, B3⟩
      · subst hE
        have e1 : Hid (lisF ps (cs.take (k + 1)) = withL Y (lisF ps (cs.take k))) := Lib.hid (by rw [ST.out]; exact if_pos rfl)
        have WC := Lib.hid (rwith_any (lisF ps (cs.take k)) _ Y w3 S3.out LEN0.out)
        rw [← e1.out] at WC
        clear ST LEN0 S3
        go_wp2_with (first | ((with_reducible (show wpList _ _ _ (Oper.mk (some 29) _ _ _ _ _ :: _) _ _)); refine Hid.out ?_))
        refine Lib.hid ?_
        refine wpList_load_rowV rfl 42 (.tmp 7) rfl w2.heap.size rfl 5 _ _ (Z3.out) _ Tryz.underlying42 rfl (by kernel_rfl) ?_
        go_wp2_with fail
        refine WC.out.mono ?_
        rintro e w4 ⟨u, rfl, g1, b4⟩
        have S4 := Lib.hid g1
        have B4 := Lib.hid (B3.out.trans (b4.mono B3.out.size))
        clear g1 b4 WC Z3 B3
        go_wp2_with fail
        go_roundg (n - (k + 1))
        case measure => have := HLT.out; omega
        case rel =>
          go_light
          exact ⟨k + 1, by have := HLT.out; omega, by go_num, S4, B4⟩
    · have d0 : decide ((k : Int) < (n : Int)) = false := by rw [decide_eq_false_iff_not]; omega
      have d1 : decide (k < n) = false := by rw [decide_eq_false_iff_not]; omega
      obtain rfl : k = n := by omega
      have SF := Lib.hid (FIN.out _ _ hS.out)
      clear hS FIN hlt
      go_wp2_with fail
      go_ret
      exact ⟨_, rfl, SF.out, hB.out⟩
end Go.Proofs.YtmmppibbglacdaaGreatDoor
