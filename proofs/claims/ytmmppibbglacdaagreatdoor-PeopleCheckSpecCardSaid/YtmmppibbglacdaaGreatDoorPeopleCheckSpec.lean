/- PeopleCheckSpec returns true for every input. No condition beyond the card's own: the two tables of package digest are tied to the program's text. -/
import Derived.Test.YtmmppibbglacdaaGreatDoorPk52
import Derived.Test.YtmmppibbglacdaaGreatDoorPk51
import Derived.Test.YtmmppibbglacdaaGreatDoorPk50
import Derived.Test.YtmmppibbglacdaaGreatDoorPk36
import Derived.Test.YtmmppibbglacdaaGreatDoorCards
namespace Go.Proofs.YtmmppibbglacdaaGreatDoor.peopleCheckSpec
open Go.ChangeShapes Go.WideShapes Go.ChangeAt Go.RowKit
open Go.ChangeMaps (open_string shut_string)
set_option linter.unusedVariables false
set_option linter.unusedSimpArgs false

set_option maxRecDepth 100000 in
set_option maxHeartbeats 8000000 in
theorem walk {w : World} (v : Value) (pl : List (Pe × Sv)) (hg : ∀ a ∈ pl, goodPe w a) (hs : SlAt 5 w v pl.length (fun i => peA (pl.getD i (pe0, pe00)))) (d : Int) (wd : (Lit.int .i64 d).wf = true) (hT : Tab w) :
    Calls Tryz.prog 3 #[v, .int .i64 d] w fun e w' => e = .returned (.bool true) ∧ Below w.heap.size w w' := by
  have PW := pes_open hg hs
  obtain ⟨ps, hps⟩ : ∃ y, pl.map (·.1) = y := ⟨_, rfl⟩
  obtain ⟨us, hus⟩ : ∃ y : Nat → Sv, (fun i => (pl.getD i (pe0, pe00)).2) = y := ⟨_, rfl⟩
  rw [hps, hus] at PW
  have T0 := Lib.hid hT
  have C1 := Lib.hid (fun W hT => sane37_any W hT)
  have C2 : Hid (∀ W, Below w.heap.size w W → Calls Tryz.prog 7 #[v, .slice none 0 0, .slice none 0 0] W fun e w' => e = .returned (.bool (fewB ps 0 0)) ∧ Below W.heap.size W w') := Lib.hid (fun W b => few37_any ps us v none none 0 0 0 0 W ⟨PW.1.below b, fun i hi => ⟨(PW.2 i hi).1, fun h => ((PW.2 i hi).2.1 h).below b, (PW.2 i hi).2.2⟩⟩ (by decide) (by decide))
  have C3 : Hid (∀ W, Calls Tryz.prog 8 #[.int .i64 d] W fun e w' => e = .returned (.tuple #[.int .i64 (ownV d), .int .i64 (ownE d)]) ∧ W = w') := Lib.hid (fun W => powner_any d W)
  have C4 : Hid (∀ W, Calls Tryz.prog 9 #[.int .i64 d] W fun e w' => e = .returned (.tuple #[.int .i64 (ownV d), .int .i64 (ownE d)]) ∧ W = w') := Lib.hid (fun W => qowner_any d W)
  have C5 : Hid (fewB ps 0 0 = true → ∀ W, Below w.heap.size w W → Calls Tryz.prog 10 #[v] W fun e w' => e = .returned (.int .i64 (if chkPe ps then 0 else 371)) ∧ Below W.heap.size W w') := Lib.hid (fun h W b => pcheck37_any ps us v W ((PW.pes (fewB_iff h).2.2.2).below b) (Nat.le_trans (fewB_iff h).1 (by decide)))
  have C6 : Hid (fewB ps 0 0 = true → ∀ W, Below w.heap.size w W → Calls Tryz.prog 11 #[v] W fun e w' => e = .returned (.int .i64 (if chkPe ps then 0 else 371)) ∧ Below W.heap.size W w') := Lib.hid (fun h W b => rcheck37_any ps us v W ((PW.pes (fewB_iff h).2.2.2).below b) (Nat.le_trans (fewB_iff h).1 (by decide)))
  obtain ⟨x, hx⟩ : ∃ y, ownV d = y := ⟨_, rfl⟩
  obtain ⟨f, hf⟩ : ∃ y, ownE d = y := ⟨_, rfl⟩
  obtain ⟨k, hk⟩ : ∃ y : Int, (if chkPe ps then (0 : Int) else 371) = y := ⟨_, rfl⟩
  obtain ⟨fb, hfb⟩ : ∃ y, fewB ps 0 0 = y := ⟨_, rfl⟩
  rw [hx, hf] at C3 C4
  rw [hk] at C5 C6
  rw [hfb] at C2 C5 C6
  obtain ⟨va, vn, vc, rfl⟩ : ∃ va vn vc, v = .slice va vn vc := by obtain ⟨a, c, h⟩ := hs.slice; exact ⟨_, _, _, h⟩
  clear hT PW hps hus hg hs hx hf hk hfb wd
  go_enter Tryz.func3, Tryz.ntmps3
  have B0 := Lib.hid (Below.refl w.heap.size w)
  go_wp2_with fail
  refine (C1.out _ T0.out).mono ?_
  rintro e w1 ⟨rfl, b1⟩
  have B1 := Lib.hid (B0.out.trans (b1.mono B0.out.size))
  have T1 := Lib.hid (T0.out.below b1)
  clear b1 B0 T0
  go_wp2_with fail
  refine (C2.out _ B1.out).mono ?_
  rintro e w2 ⟨rfl, b2⟩
  have B2 := Lib.hid (B1.out.trans (b2.mono B1.out.size))
  have T2 := Lib.hid (T1.out.below b2)
  clear b2 B1 T1
  clear C1 C2
  cases fb
  · go_wp2_with fail
    go_ret
    exact ⟨rfl, B2.out⟩
  go_wp2_with fail
  refine (C3.out _).mono ?_
  rintro e wp ⟨rfl, rfl⟩
  go_wp2_with fail
  refine (C4.out _).mono ?_
  rintro e wp ⟨rfl, rfl⟩
  go_wp2_with fail
  refine (C5.out trivial _ B2.out).mono ?_
  rintro e w3 ⟨rfl, b3⟩
  have B3 := Lib.hid (B2.out.trans (b3.mono B2.out.size))
  have T3 := Lib.hid (T2.out.below b3)
  clear b3 B2 T2
  go_wp2_with fail
  refine (C6.out trivial _ B3.out).mono ?_
  rintro e w4 ⟨rfl, b4⟩
  have B4 := Lib.hid (B3.out.trans (b4.mono B3.out.size))
  have T4 := Lib.hid (T3.out.below b4)
  clear b4 B3 T3
  go_wp2_with fail
  go_ret
  exact ⟨rfl, B4.out⟩

set_option maxRecDepth 100000 in
set_option maxHeartbeats 1000000 in
theorem lifted (os : Os) (started : os.Started) (H : Type) (enc : TypeId × Value → H) :
    ReturnsInHanded {} Tryz.checked os 3 .any (fun w args => (Rows.peopleCheckSpecSpec.pre enc Tryz.prog Tryz.f3 [] false w args ∧ laidMetH Tryz.prog laidL w) ∧ sizedMet enc Tryz.prog Tryz.f3 (OpenSpec.ofChange Rows.peopleCheckSpecSpec) false w args)
      (Rows.peopleCheckSpecSpec.post enc Tryz.prog Tryz.f3 false true false false) := by
  refine returnsInHanded_of_change_and (C := Tryz.checked) (X := fun w _ => laidMetH Tryz.prog laidL w) (fun _ _ _ hh h => h.of_heap hh) own started (by kernel_rfl) Tryz.func3
    (ChangeSpec.witness_shaped (enc := enc) (C := Tryz.checked) (os := os) (X := fun w _ => laidMetH Tryz.prog laidL w) false (World.doorLaid Tryz.prog 19 os) #[.slice none 0 0, .int .i64 0] 8 rfl (World.shaped_of_RefB (by kernel_rfl) (by kernel_rfl)) (by kernel_rfl) (by kernel_rfl) (by kernel_rfl) (door_met os _)) ?_
  intro W base args ds gs before hval0 hW _ hsz hL _
  have hval : ∀ (j : Nat) t v, Tryz.f3.params[j]? = some t → args[j]? = some v → Value.okWide Tryz.prog W .any base t v := hval0
  have hW' := hW
  obtain ⟨p, q, hA0, hV, rfl, hfz, hnd⟩ := hW
  have hA : DataW.TrodAll enc Tryz.prog W 0 (fun _ => true) true Tryz.f3.params.toList args.toList ds p := hA0
  rw [Tryz.params3] at hA hval
  obtain ⟨v0, vs0, d0, ds0, p0, q0, hargs, rfl, rfl, h0, r0⟩ := trodAll_cons hA
  obtain ⟨v1, vs1, d1, ds1, p1, q1, rfl, rfl, rfl, h1, r1⟩ := trodAll_cons r0
  obtain ⟨rfl, rfl, rfl⟩ := trodAll_nil r1
  obtain rfl : args = #[v0, v1] := by cases args; simp_all
  obtain ⟨rfl, rfl⟩ := trodVars_none hV
  have k0 := h0
  have lt0 : ∀ x ∈ p0, x.block < W.heap.size := by obtain ⟨m, hm⟩ := k0; exact DataW.trod_lt m _ _ _ hm
  obtain ⟨l0, g0, s0⟩ := slice_open (c := peA) (good := goodPe W) (pe0, pe00) Tryz.underlying22 (show Tryz.prog.cellsOf 50 = 5 by kernel_rfl) (by decide) (fun n cs x h => trod_pe h) (hval 0 22 v0 rfl rfl) h0 (fun elems spare e => by
    have := sized_slice hsz (j := 0) (t := 22) (e := 50) (elems := elems) (spare := spare) (by kernel_rfl) (by rw [← e]; rfl) Tryz.underlying22
    rw [show Tryz.checked.prog.bytesOf 50 = 56 by kernel_rfl] at this; omega)
  obtain ⟨a1, rfl, rfl, rfl, w1⟩ := open_int Tryz.underlying3 (hval 1 3 v1 rfl rfl) h1
  have hT := tab_of_laid hL
  clear hA0 hval0 hsz hL
  simp only [List.append_nil] at hW'
  refine (walk v0 l0 g0 s0 a1 w1 hT).mono fun e W' ⟨he, hg⟩ => ?_
  subst he
  exact ⟨_, rfl, _, _, _, [], _, [], hW', trodAll_mk1 (shut_bool Tryz.underlying4 _), (trodAll_cons_mk (Below.trod laidOut (by kernel_rfl) (of_decide_eq_true (by kernel_rfl)) k0 hg lt0) (trodAll_cons_mk (shut_int Tryz.underlying3 w1) trodAll_mk0)), rfl, hg.frame _, fun h => by cases h⟩

theorem over : Rows.peopleCheckSpecRow.holds Tryz.pinned (OpenSpec.ofChange Rows.peopleCheckSpecSpec) :=
  OpenClaim.holds_of_wide 3 Tryz.f3 rfl rfl rfl rfl rfl rfl rfl ⟨rfl, rfl, rfl, rfl, rfl⟩ rfl rfl rfl rfl rfl (by kernel_rfl) Tryz.func3 (by kernel_rfl)
    (of_decide_eq_true (by kernel_rfl)) (by unfold Func.isWrapper; first | (rw [if_pos (by decide +kernel)]; kernel_rfl) | (rw [if_neg (by decide +kernel)]; exact ⟨rfl, rfl⟩))
    (fun os started H enc _ => lifted os started H enc)

end Go.Proofs.YtmmppibbglacdaaGreatDoor.peopleCheckSpec
namespace Go.Proofs.YtmmppibbglacdaaGreatDoor
set_option maxRecDepth 100000 in
theorem peopleCheckSpec_holds : Rows.PeopleCheckSpecCardSaid :=
  Claim7.holds_tied_plain_at .later [] [.data, .data] true _ true
    peopleCheckSpec.over (fun _ h => by cases h) (by kernel_rfl) (fun _ h => by cases h) peopleCheckSpec_row_tie rfl ⟨rfl, rfl⟩ (by kernel_rfl) rfl
    (fun f fn hf hfn => by
      obtain rfl : f = 3 := Option.some.inj ((show Tryz.prog.funcNamed "chartroom/chartroomlaw37.PeopleCheckSpec" = some 3 by kernel_rfl).symm.trans hf) |>.symm
      obtain rfl : fn = Tryz.f3 := (Option.some.inj (Tryz.func3.symm.trans hfn)).symm
      exact ⟨by kernel_rfl, fun j t ht => by
        rw [Tryz.params3] at ht
        have hm : t ∈ [22, 3] := by simpa using Array.mem_of_getElem? ht
        have hall : ([22, 3].all fun u => !Tryz.prog.wantsStandIn u) = true := by kernel_rfl
        exact (show Tryz.prog.wantsStandIn t = false by simpa using List.all_eq_true.1 hall t hm)⟩)
    (by kernel_rfl)
#print axioms peopleCheckSpec_holds
end Go.Proofs.YtmmppibbglacdaaGreatDoor
