/- PeopleAcceptSpec returns true for every input. No condition beyond the card's own: the two tables of package digest are tied to the program's text. -/
import Derived.Test.YtmmppibbglacdaaGreatDoorPk52
import Derived.Test.YtmmppibbglacdaaGreatDoorPk49
import Derived.Test.YtmmppibbglacdaaGreatDoorPk48
import Derived.Test.YtmmppibbglacdaaGreatDoorPk34
import Derived.Test.YtmmppibbglacdaaGreatDoorCards
namespace Go.Proofs.YtmmppibbglacdaaGreatDoor.peopleAcceptSpec
open Go.ChangeShapes Go.WideShapes Go.ChangeAt Go.RowKit
open Go.ChangeMaps (open_string shut_string)
set_option linter.unusedVariables false
set_option linter.unusedSimpArgs false

set_option maxRecDepth 100000 in
set_option maxHeartbeats 16000000 in
theorem walk {w : World} (v : Value) (pl : List (Pe × Sv)) (hg : ∀ a ∈ pl, goodPe w a) (hs : SlAt 5 w v pl.length (fun i => peA (pl.getD i (pe0, pe00)))) (xv : Value) (x : List Li) (hxg : ∀ a ∈ x, a.wf) (hxs : LiS w xv x) (c : Ct) (wc : c.wf) (cv : Value) (cs : List Ct) (hcg : ∀ a ∈ cs, a.wf) (hcs : CtS w cv cs) (hT : Tab w) :
    Calls Tryz.prog 5 #[v, xv, .agg (rowF 8 (ctC c)), cv] w fun e w' => e = .returned (.bool true) ∧ Below w.heap.size w w' := by
  have PW := pes_open hg hs
  obtain ⟨ps, hps⟩ : ∃ y, pl.map (·.1) = y := ⟨_, rfl⟩
  obtain ⟨us, hus⟩ : ∃ y : Nat → Sv, (fun i => (pl.getD i (pe0, pe00)).2) = y := ⟨_, rfl⟩
  rw [hps, hus] at PW
  obtain ⟨va, vn, vc, rfl⟩ : ∃ va vn vc, v = .slice va vn vc := by obtain ⟨a, c, h⟩ := hs.slice; exact ⟨_, _, _, h⟩
  obtain ⟨xa, xc, rfl⟩ := hxs.slice
  obtain ⟨ca, cc, rfl⟩ := hcs.slice
  have T0 := Lib.hid hT
  have P0 : Hid (PesW w (.slice va vn vc) ps us) := Lib.hid PW
  have X0 : Hid (LiS w (.slice xa x.length xc) x) := Lib.hid hxs
  have S0 : Hid (CtS w (.slice ca cs.length cc) cs) := Lib.hid hcs
  have C1 := Lib.hid (fun W hT => sane37_any W hT)
  have C2 : Hid (∀ W, Below w.heap.size w W → Calls Tryz.prog 7 #[.slice va vn vc, .slice xa x.length xc, .slice ca cs.length cc] W fun e w' => e = .returned (.bool (fewB ps x.length cs.length)) ∧ Below W.heap.size W w') := Lib.hid (fun W b => few37_any ps us _ xa ca x.length xc cs.length cc W ⟨PW.1.below b, fun i hi => ⟨(PW.2 i hi).1, fun h => ((PW.2 i hi).2.1 h).below b, (PW.2 i hi).2.2⟩⟩ (Int.le_trans hxs.len_le (by decide)) (Int.le_trans hcs.len_le (by decide)))
  have FW := Lib.hid (fun (h : fewB ps x.length cs.length = true) => fewB_iff h)
  obtain ⟨R, hR⟩ : ∃ y, accF ps x c = y := ⟨_, rfl⟩
  obtain ⟨Y, hY⟩ : ∃ y, lisF ps cs = y := ⟨_, rfl⟩
  have HY : Hid (cs.length ≤ 10 → Y.length ≤ 1000) := Lib.hid (fun h => by rw [← hY]; have := lisF_len ps cs; omega)
  have C3 : Hid (fewB ps x.length cs.length = true → ∀ W, Below w.heap.size w W → Tab W → Calls Tryz.prog 15 #[.slice va vn vc, .slice xa x.length xc, .agg (rowF 8 (ctC c))] W (AccPost R W)) := Lib.hid (fun h W b t => by rw [← hR]; exact paccept_any ps us _ x _ c wc W ((PW.pes (fewB_iff h).2.2.2).below b) (Nat.le_trans (fewB_iff h).1 (by decide)) (hxs.below b) (Nat.le_trans (fewB_iff h).2.1 (by decide)) t)
  have C4 : Hid (fewB ps x.length cs.length = true → ∀ W, Below w.heap.size w W → Calls Tryz.prog 16 #[.slice va vn vc, .slice xa x.length xc, .agg (rowF 8 (ctC c))] W (AccPost R W)) := Lib.hid (fun h W b => by rw [← hR]; exact raccept_any ps us _ x _ c wc W ((PW.pes (fewB_iff h).2.2.2).below b) (Nat.le_trans (fewB_iff h).1 (by decide)) (hxs.below b) (Nat.le_trans (fewB_iff h).2.1 (by decide)))
  have C5 : Hid (fewB ps x.length cs.length = true → ∀ W, Below w.heap.size w W → Tab W → Calls Tryz.prog 18 #[.slice va vn vc, .slice ca cs.length cc] W fun e w' => ∃ u, e = .returned u ∧ LiS w' u Y ∧ Below W.heap.size W w') := Lib.hid (fun h W b t => by rw [← hY]; exact plistings_any ps us _ cs _ W ((PW.pes (fewB_iff h).2.2.2).below b) (Nat.le_trans (fewB_iff h).1 (by decide)) (hcs.below b) (Nat.le_trans (fewB_iff h).2.2.1 (by decide)) hcg t)
  have C6 : Hid (fewB ps x.length cs.length = true → ∀ W, Below w.heap.size w W → Calls Tryz.prog 19 #[.slice va vn vc, .slice ca cs.length cc] W fun e w' => ∃ u, e = .returned u ∧ LiS w' u Y ∧ Below W.heap.size W w') := Lib.hid (fun h W b => by rw [← hY]; exact rlistings_any ps us _ cs _ W ((PW.pes (fewB_iff h).2.2.2).below b) (Nat.le_trans (fewB_iff h).1 (by decide)) (hcs.below b) (Nat.le_trans (fewB_iff h).2.2.1 (by decide)) hcg)
  obtain ⟨fb, hfb⟩ : ∃ y, fewB ps x.length cs.length = y := ⟨_, rfl⟩
  rw [hfb] at C2 C3 C4 C5 C6 FW
  obtain ⟨xn, hxn⟩ : ∃ y, x.length = y := ⟨_, rfl⟩
  obtain ⟨cn, hcn⟩ : ∃ y, cs.length = y := ⟨_, rfl⟩
  rw [hxn, hcn] at C2 FW
  rw [hxn] at C3 C4
  rw [hcn] at C5 C6 HY
  rw [hxn, hcn]
  clear hT PW hps hus hg hs hxg hxs wc hcg hcs hR hY hfb P0 X0 S0 hxn hcn
  obtain ⟨E, U⟩ := R
  go_enter Tryz.func5, Tryz.ntmps5
  have B0 := Lib.hid (Below.refl w.heap.size w)
  go_upto_region 1 with fail
  obtain ⟨w1, hw1⟩ : ∃ y, w.alloc (.cells (rowF 8 (ctC c)) 33) = y := ⟨_, rfl⟩
  have b1 : Below w.heap.size w w1 := by rw [← hw1]; exact (Below.refl _ _).alloc (Nat.le_refl _) _
  have P1 : Hid (RowV w1 w.heap.size 33 8 (ctC c)) := Lib.hid (by rw [← hw1]; exact RowV.new w _ 8 (ctC c))
  have z1 : w.heap.size + 1 = w1.heap.size := by rw [← hw1]; exact (Array.size_push _).symm
  rw [hw1]
  (try rw [z1])
  have B1 := Lib.hid (B0.out.trans (b1.mono B0.out.size))
  have T1 := Lib.hid (T0.out.below b1)
  clear b1 hw1 z1 B0 T0
  go_wp2_with fail
  refine (C1.out _ T1.out).mono ?_
  rintro e w2 ⟨rfl, b2⟩
  have B2 := Lib.hid (B1.out.trans (b2.mono B1.out.size))
  have T2 := Lib.hid (T1.out.below b2)
  have P2 := Lib.hid (P1.out.below b2)
  clear b2 B1 T1 P1
  go_wp2_with fail
  refine (C2.out _ B2.out).mono ?_
  rintro e w3 ⟨rfl, b3⟩
  have B3 := Lib.hid (B2.out.trans (b3.mono B2.out.size))
  have T3 := Lib.hid (T2.out.below b3)
  have P3 := Lib.hid (P2.out.below b3)
  clear b3 B2 T2 P2
  clear C1 C2
  cases fb
  · go_wp2_with fail
    go_ret
    exact ⟨rfl, B3.out⟩
  have D3 := Lib.hid (C3.out rfl)
  have D4 := Lib.hid (C4.out rfl)
  have D5 := Lib.hid (C5.out rfl)
  have D6 := Lib.hid (C6.out rfl)
  have YN := Lib.hid (HY.out (FW.out rfl).2.2.1)
  clear C3 C4 C5 C6 FW HY
  go_wp2_with (first | ((with_reducible (show wpList _ _ _ (Oper.mk (some 23) _ _ _ _ _ :: _) _ _)); refine Hid.out ?_))
  refine Lib.hid ?_
  refine wpList_load_rowV rfl 33 (.tmp 6) rfl w.heap.size rfl 8 _ _ (P3.out) _ Tryz.underlying33 rfl (by kernel_rfl) ?_
  go_wp2_with fail
  refine (D3.out _ B3.out T3.out).mono ?_
  rintro e w4 ⟨rfl, b4⟩
  have B4 := Lib.hid (B3.out.trans (b4.mono B3.out.size))
  have T4 := Lib.hid (T3.out.below b4)
  have P4 := Lib.hid (P3.out.below b4)
  clear b4 B3 T3 P3
  dsimp only
  have Zr := Lib.hid (RowV.new w4 42 5 (liC li0))
  go_upto_region 6 with ((with_reducible (show wpList _ _ _ (Oper.mk none _ _ _ _ _ :: _) _ _)); refine wpList_store_rowV (o := ⟨none, .store 42 (.tmp 9) (.tmp 25), _, _, _, _⟩) rfl 42 (.tmp 9) (.tmp 25) rfl w4.heap.size rfl 5 42 _ (liC U) rfl Zr.out (by kernel_rfl) (fun j _ => liC_one U j) ?_; intro w5 A5 o5)
  have b5 : Below w4.heap.size w4 w5 := ((Below.refl _ _).alloc (Nat.le_refl _) _).trans (o5.out.below (Nat.le_refl _) (by rw [World.size_alloc]; omega))
  have B5 := Lib.hid (B4.out.trans (b5.mono B4.out.size))
  have T5 := Lib.hid (T4.out.below b5)
  have P5 := Lib.hid (P4.out.below b5)
  clear b5 o5 Zr B4 T4 P4
  go_wp2_with (first | ((with_reducible (show wpList _ _ _ (Oper.mk (some 30) _ _ _ _ _ :: _) _ _)); refine Hid.out ?_))
  refine Lib.hid ?_
  refine wpList_load_rowV rfl 33 (.tmp 6) rfl w.heap.size rfl 8 _ _ (P5.out) _ Tryz.underlying33 rfl (by kernel_rfl) ?_
  go_wp2_with fail
  refine (D4.out _ B5.out).mono ?_
  rintro e w6 ⟨rfl, b6⟩
  have B6 := Lib.hid (B5.out.trans (b6.mono B5.out.size))
  have T6 := Lib.hid (T5.out.below b6)
  have P6 := Lib.hid (P5.out.below b6)
  have A6 := Lib.hid (A5.out.below b6)
  clear b6 B5 T5 P5 A5
  dsimp only
  have Zr := Lib.hid (RowV.new w6 42 5 (liC li0))
  go_upto_region 7 with ((with_reducible (show wpList _ _ _ (Oper.mk none _ _ _ _ _ :: _) _ _)); refine wpList_store_rowV (o := ⟨none, .store 42 (.tmp 11) (.tmp 32), _, _, _, _⟩) rfl 42 (.tmp 11) (.tmp 32) rfl w6.heap.size rfl 5 42 _ (liC U) rfl Zr.out (by kernel_rfl) (fun j _ => liC_one U j) ?_; intro w7 Z7 o7)
  have b7 : Below w6.heap.size w6 w7 := ((Below.refl _ _).alloc (Nat.le_refl _) _).trans (o7.out.below (Nat.le_refl _) (by rw [World.size_alloc]; omega))
  have B7 := Lib.hid (B6.out.trans (b7.mono B6.out.size))
  have T7 := Lib.hid (T6.out.below b7)
  have P7 := Lib.hid (P6.out.below b7)
  have A7 := Lib.hid (A6.out.below b7)
  clear b7 o7 Zr B6 T6 P6 A6
  have n1 : ∀ W, (binOp .eql 42 (.agg (rowF 5 (liC U))) (.agg (rowF 5 (liC U)))).run Tryz.prog W = .ok (.bool true) W := fun W => by rw [eql_li, liB_self]
  have g1 : ∀ a b W, (eqGuard .eql 42 a b (.agg (rowF 5 (liC U))) (.agg (rowF 5 (liC U)))).run Tryz.prog W = .ok () W := fun a b W => guard_li _ _ _ _ _ _
  have e0 : (E == E) = true := by rw [beq_iff_eq]
  clear D3 D4
  go_wp2_with (first | ((with_reducible (show wpList _ _ _ (Oper.mk (some 34) _ _ _ _ _ :: _) _ _)); refine Hid.out ?_))
  refine Lib.hid ?_
  refine wpList_load_rowV rfl 42 (.tmp 9) rfl w4.heap.size rfl 5 _ _ (A7.out) _ Tryz.underlying42 rfl (by kernel_rfl) ?_
  go_wp2_with (first | ((with_reducible (show wpList _ _ _ (Oper.mk (some 35) _ _ _ _ _ :: _) _ _)); refine Hid.out ?_))
  refine Lib.hid ?_
  refine wpList_load_rowV rfl 42 (.tmp 11) rfl w6.heap.size rfl 5 _ _ (Z7.out) _ Tryz.underlying42 rfl (by kernel_rfl) ?_
  go_wp2_with fail
  refine (D5.out _ B7.out T7.out).mono ?_
  rintro e w8 ⟨u, rfl, hu, b8⟩
  have B8 := Lib.hid (B7.out.trans (b8.mono B7.out.size))
  have U8 := Lib.hid hu
  clear hu b8 n1 g1 A7 Z7 P7 T7 B7 D5
  go_wp2_with fail
  refine (D6.out _ B8.out).mono ?_
  rintro e w9 ⟨u', rfl, hu, b9⟩
  have B9 := Lib.hid (B8.out.trans (b9.mono B8.out.size))
  have U9 := Lib.hid (U8.out.below b9)
  have V9 := Lib.hid hu
  clear hu b9 U8 B8 D6
  go_wp2_with fail
  refine (same37_any Y Y _ _ _ U9.out V9.out YN.out YN.out).mono ?_
  rintro e w10 ⟨rfl, b10⟩
  have sb : sameB Y Y = true := (sameB_iff Y Y).2 rfl
  rw [sb]
  have B10 := Lib.hid (B9.out.trans (b10.mono B9.out.size))
  clear b10 U9 V9 B9 sb
  go_wp2_with fail
  go_ret
  exact ⟨rfl, B10.out⟩

set_option maxRecDepth 100000 in
set_option maxHeartbeats 1000000 in
theorem lifted (os : Os) (started : os.Started) (H : Type) (enc : TypeId × Value → H) :
    ReturnsInHanded {} Tryz.checked os 5 .any (fun w args => (Rows.peopleAcceptSpecSpec.pre enc Tryz.prog Tryz.f5 [] false w args ∧ laidMetH Tryz.prog laidL w) ∧ sizedMet enc Tryz.prog Tryz.f5 (OpenSpec.ofChange Rows.peopleAcceptSpecSpec) false w args)
      (Rows.peopleAcceptSpecSpec.post enc Tryz.prog Tryz.f5 false true false false) := by
  refine returnsInHanded_of_change_and (C := Tryz.checked) (X := fun w _ => laidMetH Tryz.prog laidL w) (fun _ _ _ hh h => h.of_heap hh) own started (by kernel_rfl) Tryz.func5
    (ChangeSpec.witness_shaped (enc := enc) (C := Tryz.checked) (os := os) (X := fun w _ => laidMetH Tryz.prog laidL w) false (World.doorLaid Tryz.prog 19 os) #[.slice none 0 0, .slice none 0 0, .agg #[.int .i64 0, .int .i64 0, .int .i64 0, .int .i64 0, .int .i64 0, .int .i64 0, .int .i64 0, .int .i64 0], .slice none 0 0] 8 rfl (World.shaped_of_RefB (by kernel_rfl) (by kernel_rfl)) (by kernel_rfl) (by kernel_rfl) (by kernel_rfl) (door_met os _)) ?_
  intro W base args ds gs before hval0 hW _ hsz hL _
  have hval : ∀ (j : Nat) t v, Tryz.f5.params[j]? = some t → args[j]? = some v → Value.okWide Tryz.prog W .any base t v := hval0
  have hW' := hW
  obtain ⟨p, q, hA0, hV, rfl, hfz, hnd⟩ := hW
  have hA : DataW.TrodAll enc Tryz.prog W 0 (fun _ => true) true Tryz.f5.params.toList args.toList ds p := hA0
  rw [Tryz.params5] at hA hval
  obtain ⟨v0, vs0, d0, ds0, p0, q0, hargs, rfl, rfl, h0, r0⟩ := trodAll_cons hA
  obtain ⟨v1, vs1, d1, ds1, p1, q1, rfl, rfl, rfl, h1, r1⟩ := trodAll_cons r0
  obtain ⟨v2, vs2, d2, ds2, p2, q2, rfl, rfl, rfl, h2, r2⟩ := trodAll_cons r1
  obtain ⟨v3, vs3, d3, ds3, p3, q3, rfl, rfl, rfl, h3, r3⟩ := trodAll_cons r2
  obtain ⟨rfl, rfl, rfl⟩ := trodAll_nil r3
  obtain rfl : args = #[v0, v1, v2, v3] := by cases args; simp_all
  obtain ⟨rfl, rfl⟩ := trodVars_none hV
  have k0 := h0
  have lt0 : ∀ x ∈ p0, x.block < W.heap.size := by obtain ⟨m, hm⟩ := k0; exact DataW.trod_lt m _ _ _ hm
  obtain ⟨l0, g0, s0⟩ := slice_open (c := peA) (good := goodPe W) (pe0, pe00) Tryz.underlying22 (show Tryz.prog.cellsOf 50 = 5 by kernel_rfl) (by decide) (fun n cs x h => trod_pe h) (hval 0 22 v0 rfl rfl) h0 (fun elems spare e => by
    have := sized_slice hsz (j := 0) (t := 22) (e := 50) (elems := elems) (spare := spare) (by kernel_rfl) (by rw [← e]; rfl) Tryz.underlying22
    rw [show Tryz.checked.prog.bytesOf 50 = 56 by kernel_rfl] at this; omega)
  have k1 := h1
  have lt1 : ∀ x ∈ p1, x.block < W.heap.size := by obtain ⟨m, hm⟩ := k1; exact DataW.trod_lt m _ _ _ hm
  obtain ⟨l1, g1, s1⟩ := slice_open (c := liC) (good := Li.wf) li0 Tryz.underlying39 (show Tryz.prog.cellsOf 42 = 5 by kernel_rfl) (by decide) (fun n cs x h => trod_li h) (hval 1 39 v1 rfl rfl) h1 (fun elems spare e => by
    have := sized_slice hsz (j := 1) (t := 39) (e := 42) (elems := elems) (spare := spare) (by kernel_rfl) (by rw [← e]; rfl) Tryz.underlying39
    rw [show Tryz.checked.prog.bytesOf 42 = 40 by kernel_rfl] at this; omega)
  have k2 := h2
  have lt2 : ∀ x ∈ p2, x.block < W.heap.size := by obtain ⟨m, hm⟩ := k2; exact DataW.trod_lt m _ _ _ hm
  obtain ⟨a2, wa2, rfl⟩ := ct_open (hval 2 33 v2 rfl rfl) h2
  have k3 := h3
  have lt3 : ∀ x ∈ p3, x.block < W.heap.size := by obtain ⟨m, hm⟩ := k3; exact DataW.trod_lt m _ _ _ hm
  obtain ⟨l3, g3, s3⟩ := slice_open (c := ctC) (good := Ct.wf) ct0 Tryz.underlying40 (show Tryz.prog.cellsOf 33 = 8 by kernel_rfl) (by decide) (fun n cs x h => trod_ct h) (hval 3 40 v3 rfl rfl) h3 (fun elems spare e => by
    have := sized_slice hsz (j := 3) (t := 40) (e := 33) (elems := elems) (spare := spare) (by kernel_rfl) (by rw [← e]; rfl) Tryz.underlying40
    rw [show Tryz.checked.prog.bytesOf 33 = 64 by kernel_rfl] at this; omega)
  have hT := tab_of_laid hL
  clear hA0 hval0 hsz hL
  simp only [List.append_nil] at hW'
  refine (walk v0 l0 g0 s0 v1 l1 g1 s1 a2 wa2 v3 l3 g3 s3 hT).mono fun e W' ⟨he, hg⟩ => ?_
  subst he
  exact ⟨_, rfl, _, _, _, [], _, [], hW', trodAll_mk1 (shut_bool Tryz.underlying4 _), (trodAll_cons_mk (Below.trod laidOut (by kernel_rfl) (of_decide_eq_true (by kernel_rfl)) k0 hg lt0) (trodAll_cons_mk (Below.trod laidOut (by kernel_rfl) (of_decide_eq_true (by kernel_rfl)) k1 hg lt1) (trodAll_cons_mk (Below.trod laidOut (by kernel_rfl) (of_decide_eq_true (by kernel_rfl)) k2 hg lt2) (trodAll_cons_mk (Below.trod laidOut (by kernel_rfl) (of_decide_eq_true (by kernel_rfl)) k3 hg lt3) trodAll_mk0)))), rfl, hg.frame _, fun h => by cases h⟩

theorem over : Rows.peopleAcceptSpecRow.holds Tryz.pinned (OpenSpec.ofChange Rows.peopleAcceptSpecSpec) :=
  OpenClaim.holds_of_wide 5 Tryz.f5 rfl rfl rfl rfl rfl rfl rfl ⟨rfl, rfl, rfl, rfl, rfl⟩ rfl rfl rfl rfl rfl (by kernel_rfl) Tryz.func5 (by kernel_rfl)
    (of_decide_eq_true (by kernel_rfl)) (by unfold Func.isWrapper; first | (rw [if_pos (by decide +kernel)]; kernel_rfl) | (rw [if_neg (by decide +kernel)]; exact ⟨rfl, rfl⟩))
    (fun os started H enc _ => lifted os started H enc)

end Go.Proofs.YtmmppibbglacdaaGreatDoor.peopleAcceptSpec
namespace Go.Proofs.YtmmppibbglacdaaGreatDoor
set_option maxRecDepth 100000 in
theorem peopleAcceptSpec_holds : Rows.PeopleAcceptSpecCardSaid :=
  Claim7.holds_tied_plain_at .later [] [.data, .data] true _ true
    peopleAcceptSpec.over (fun _ h => by cases h) (by kernel_rfl) (fun _ h => by cases h) peopleAcceptSpec_row_tie rfl ⟨rfl, rfl⟩ (by kernel_rfl) rfl
    (fun f fn hf hfn => by
      obtain rfl : f = 5 := Option.some.inj ((show Tryz.prog.funcNamed "chartroom/chartroomlaw37.PeopleAcceptSpec" = some 5 by kernel_rfl).symm.trans hf) |>.symm
      obtain rfl : fn = Tryz.f5 := (Option.some.inj (Tryz.func5.symm.trans hfn)).symm
      exact ⟨by kernel_rfl, fun j t ht => by
        rw [Tryz.params5] at ht
        have hm : t ∈ [22, 39, 33, 40] := by simpa using Array.mem_of_getElem? ht
        have hall : ([22, 39, 33, 40].all fun u => !Tryz.prog.wantsStandIn u) = true := by kernel_rfl
        exact (show Tryz.prog.wantsStandIn t = false by simpa using List.all_eq_true.1 hall t hm)⟩)
    (by kernel_rfl)
#print axioms peopleAcceptSpec_holds
end Go.Proofs.YtmmppibbglacdaaGreatDoor
