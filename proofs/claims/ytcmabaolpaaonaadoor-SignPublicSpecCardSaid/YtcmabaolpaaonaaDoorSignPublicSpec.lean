/- SignPublicSpec returns true for every input. No condition beyond the card's own: the two tables of package digest are tied to the program's text. -/
import Derived.Test.YtcmabaolpaaonaaDoorSigOpen
import Derived.Test.YtcmabaolpaaonaaDoorLaid
import Derived.Test.YtcmabaolpaaonaaDoorCards
namespace Go.Proofs.YtcmabaolpaaonaaDoor.signPublicSpec
open Go.ChangeShapes Go.WideShapes Go.ChangeAt Go.RowKit
open Go.ChangeMaps (open_string shut_string)
set_option linter.unusedVariables false
set_option linter.unusedSimpArgs false

set_option maxRecDepth 100000 in
set_option maxHeartbeats 4000000 in
theorem walk {w : World} (p : Int) (wp : (Lit.int .i64 p).wf = true) (v : Value) (l : List UInt8) (hv : BytesAt w v l) (hs : ∃ a cap, v = .slice a l.length cap) (hT : Tab w) :
    Calls Tryd.prog 3 #[.int .i64 p, v] w fun e w' => e = .returned (.bool true) ∧ Below w.heap.size w w' := by
  obtain ⟨a, cap, rfl⟩ := hs
  obtain ⟨n, hn⟩ : ∃ n, l.length = n := ⟨_, rfl⟩
  have V := Lib.hid hv
  have T := Lib.hid hT
  have C1 := Lib.hid (fun W hT => sane5_any W hT)
  have c2 : ∀ W, Calls Tryd.prog 11 #[.int .i64 p] W fun e w' => e = .returned (.int .i64 ((keyM p : Nat) : Int)) ∧ W = w' := fun W => key_any p W wp
  obtain ⟨x, hx⟩ : ∃ x : Int, ((keyM p : Nat) : Int) = x := ⟨_, rfl⟩
  rw [hx] at c2
  have C3 := Lib.hid (fun z W => spublic_any z W)
  have C4 := Lib.hid (fun z W => rpublic5_any z W)
  have c5 : ∀ z W, n ≤ 300 → BytesAt W (.slice a n cap) l → Tab W → Calls Tryd.prog 14 #[.int .i64 z, .slice a n cap] W fun e w' => e = .returned (.tuple #[.agg #[.int .i64 (sgR z l), .int .i64 (sgS z l)], .int .i64 (pubE z)]) ∧ Below W.heap.size W w' := fun z W h hv hT => sign_any z _ l W (by omega) hv hT
  have c6 : ∀ z W, n ≤ 300 → BytesAt W (.slice a n cap) l → Calls Tryd.prog 15 #[.int .i64 z, .slice a n cap] W fun e w' => e = .returned (.tuple #[.agg #[.int .i64 (sgR z l), .int .i64 (sgS z l)], .int .i64 (pubE z)]) ∧ Below W.heap.size W w' := fun z W h hv => rsign_any z _ l W (by omega) hv
  rw [hn] at V ⊢
  have C2 := Lib.hid c2
  clear hn wp hv hT hx c2
  by_cases h1 : n ≤ 300
  · have C5 := Lib.hid (fun z W => c5 z W h1); have C6 := Lib.hid (fun z W => c6 z W h1)
    have d1 : decide (300 < (n : Int)) = false := by rw [decide_eq_false_iff_not]; omega
    have d2 : decide (300 < n) = false := by rw [decide_eq_false_iff_not]; omega
    have d3 : ¬ 300 < n := by omega
    clear c5 c6 h1
    go_enter Tryd.func3, Tryd.ntmps3
    have B0 := Lib.hid (Below.refl w.heap.size w)
    go_wp2_with fail
    refine (C1.out _ T.out).mono ?_
    rintro e w1 ⟨rfl, b1⟩
    have B1 := Lib.hid (B0.out.trans (b1.mono B0.out.size))
    clear b1 B0
    go_wp2_with fail
    refine (C2.out _).mono ?_
    rintro e wp ⟨rfl, rfl⟩
    go_wp2_with fail
    obtain ⟨w2, hw2⟩ : ∃ y, w1.alloc (.cells #[.int .i64 p, .int .i64 x] 3) = y := ⟨_, rfl⟩
    have b2 : Below w1.heap.size w1 w2 := by rw [← hw2]; exact (Below.refl _ _).alloc (Nat.le_refl _) _
    have R2 : Hid (RowV w2 w1.heap.size 3 2 (fun i => .int .i64 ([p, x].getD i 0))) := Lib.hid (by rw [← hw2]; exact RowV.new w1 3 2 (fun i => .int .i64 ([p, x].getD i 0)))
    have z2 : w1.heap.size + 1 = w2.heap.size := by rw [← hw2]; exact (Array.size_push _).symm
    rw [hw2]
    (try rw [z2])
    have B2 := Lib.hid (B1.out.trans (b2.mono B1.out.size))
    clear b2 hw2 z2 B1
    go_loopg [25] 2 (fun g s25 wx => ∃ k : Nat, k + g = 2 ∧ s25 = .int .i64 (k : Int) ∧ Hid (Below w.heap.size w wx) ∧ Hid (RowV wx w1.heap.size 3 2 (fun i => .int .i64 ([p, x].getD i 0))))
    case atStart => exact ⟨0, by omega, rfl, B2, R2⟩
    case round =>
      clear B2 R2
      obtain ⟨k, hk, rfl, B10, R10⟩ := hrel
      obtain ⟨w10, rfl⟩ : ∃ y, y = wr := ⟨_, rfl⟩
      by_cases hk2 : k < 2
      · obtain ⟨z, hz⟩ : ∃ z, [p, x].getD k 0 = z := ⟨_, rfl⟩
        have c0 : w10.cell? ⟨w1.heap.size, k, none⟩ = some (.int .i64 z) := by rw [← hz]; exact R10.out.cell hk2
        have d0 : decide ((k : Int) < 2) = true := by rw [decide_eq_true_iff]; omega
        have z1 : (0 : Int) ≤ (k : Int) := Int.natCast_nonneg k
        have z2 : (k : Int) < 2 := by omega
        have p0 : 0 ≤ (k : Int) ∧ (k : Int) < 2 := by omega
        have z3 : ((k : Int)).toNat = k := Int.toNat_natCast k
        clear hz hk2
        go_wp2_with fail
        refine (C3.out z _).mono ?_
        rintro e w11 ⟨rfl, b11⟩
        have B11 := Lib.hid (B10.out.trans (b11.mono B10.out.size))
        have R11 := Lib.hid (R10.out.below b11)
        clear b11 B10 R10
        go_wp2_with fail
        refine (C4.out z _).mono ?_
        rintro e wp ⟨rfl, rfl⟩
        go_wp2_with fail
        refine (C5.out z _ (V.out.below B11.out) (T.out.below B11.out)).mono ?_
        rintro e w12 ⟨rfl, b12⟩
        have B12 := Lib.hid (B11.out.trans (b12.mono B11.out.size))
        have R12 := Lib.hid (R11.out.below b12)
        clear b12 B11 R11
        go_wp2_with fail
        obtain ⟨w13, hw13⟩ : ∃ y, w12.alloc (.cells #[.int .i64 (sgR z l), .int .i64 (sgS z l)] 30) = y := ⟨_, rfl⟩
        have b13 : Below w12.heap.size w12 w13 := by rw [← hw13]; exact (Below.refl _ _).alloc (Nat.le_refl _) _
        have P13 : Hid (RowV w13 w12.heap.size 30 2 (sigF (sgR z l) (sgS z l))) := Lib.hid (by rw [← hw13]; exact RowV.new w12 _ 2 (sigF (sgR z l) (sgS z l)))
        have z13 : w12.heap.size + 1 = w13.heap.size := by rw [← hw13]; exact (Array.size_push _).symm
        rw [hw13]
        (try rw [z13])
        have B13 := Lib.hid (B12.out.trans (b13.mono B12.out.size))
        have R13 := Lib.hid (R12.out.below b13)
        clear b13 hw13 z13 B12 R12
        go_wp2_with fail
        refine (C6.out z _ (V.out.below B13.out)).mono ?_
        rintro e w14 ⟨rfl, b14⟩
        have B14 := Lib.hid (B13.out.trans (b14.mono B13.out.size))
        have R14 := Lib.hid (R13.out.below b14)
        have P14 := Lib.hid (P13.out.below b14)
        clear b14 B13 R13 P13
        have P' := P14.out.alloc (.cells #[.int .i64 (sgR z l), .int .i64 (sgS z l)] 30)
        have y0 : (w14.alloc (.cells #[.int .i64 (sgR z l), .int .i64 (sgS z l)] 30)).cell? ⟨w12.heap.size, 0, none⟩ = some (.int .i64 (sgR z l)) := P'.cell (i := 0) (by decide)
        have y1 : (w14.alloc (.cells #[.int .i64 (sgR z l), .int .i64 (sgS z l)] 30)).cell? ⟨w12.heap.size, 1, none⟩ = some (.int .i64 (sgS z l)) := P'.cell (i := 1) (by decide)
        have bn := Lib.hid (B14.out.alloc B14.out.size (.cells #[.int .i64 (sgR z l), .int .i64 (sgS z l)] 30))
        have rn := Lib.hid (R14.out.alloc (.cells #[.int .i64 (sgR z l), .int .i64 (sgS z l)] 30))
        clear P' c0
        go_wp2_with fail
        go_roundg (gk - 1)
        case measure => omega
        case rel =>
          go_light
          exact ⟨k + 1, by omega, rfl, bn, rn⟩
      · obtain rfl : k = 2 := by omega
        have d0 : decide (((2 : Nat) : Int) < 2) = false := by decide
        go_wp2_with fail
        go_ret
        exact ⟨rfl, B10.out⟩
  · have d1 : decide (300 < (n : Int)) = true := by rw [decide_eq_true_iff]; omega
    have d2 : decide (300 < n) = true := by rw [decide_eq_true_iff]; omega
    have d3 : 300 < n := by omega
    clear c5 c6 h1
    go_enter Tryd.func3, Tryd.ntmps3
    have B0 := Lib.hid (Below.refl w.heap.size w)
    go_wp2_with fail
    refine (C1.out _ T.out).mono ?_
    rintro e w1 ⟨rfl, b1⟩
    have B1 := Lib.hid (B0.out.trans (b1.mono B0.out.size))
    clear b1 B0
    go_wp2_with fail
    go_ret
    exact ⟨rfl, B1.out⟩

set_option maxRecDepth 100000 in
set_option maxHeartbeats 1000000 in
theorem lifted (os : Os) (started : os.Started) (H : Type) (enc : TypeId × Value → H) :
    ReturnsInHanded {} Tryd.checked os 3 .any (fun w args => (Rows.signPublicSpecSpec.pre enc Tryd.prog Tryd.f3 [] false w args ∧ laidMetH Tryd.prog laidL w) ∧ sizedMet enc Tryd.prog Tryd.f3 (OpenSpec.ofChange Rows.signPublicSpecSpec) false w args)
      (Rows.signPublicSpecSpec.post enc Tryd.prog Tryd.f3 false true false false) := by
  refine returnsInHanded_of_change_and (C := Tryd.checked) (X := fun w _ => laidMetH Tryd.prog laidL w) (fun _ _ _ hh h => h.of_heap hh) own started (by kernel_rfl) Tryd.func3
    (ChangeSpec.witness_shaped (enc := enc) (C := Tryd.checked) (os := os) (X := fun w _ => laidMetH Tryd.prog laidL w) false (World.doorLaid Tryd.prog 19 os) #[.int .i64 0, .slice none 0 0] 8 rfl (World.shaped_of_RefB (by kernel_rfl) (by kernel_rfl)) (by kernel_rfl) (by kernel_rfl) (by kernel_rfl) (door_met os _)) ?_
  intro W base args ds gs before hval0 hW _ hsz hL _
  have hval : ∀ (j : Nat) t v, Tryd.f3.params[j]? = some t → args[j]? = some v → Value.okWide Tryd.prog W .any base t v := hval0
  have hW' := hW
  obtain ⟨p, q, hA0, hV, rfl, hfz, hnd⟩ := hW
  have hA : DataW.TrodAll enc Tryd.prog W 0 (fun _ => true) true Tryd.f3.params.toList args.toList ds p := hA0
  rw [Tryd.params3] at hA hval
  obtain ⟨v0, vs0, d0, ds0, p0, q0, hargs, rfl, rfl, h0, r0⟩ := trodAll_cons hA
  obtain ⟨v1, vs1, d1, ds1, p1, q1, rfl, rfl, rfl, h1, r1⟩ := trodAll_cons r0
  obtain ⟨rfl, rfl, rfl⟩ := trodAll_nil r1
  obtain rfl : args = #[v0, v1] := by cases args; simp_all
  obtain ⟨rfl, rfl⟩ := trodVars_none hV
  obtain ⟨a0, rfl, rfl, rfl, w0⟩ := open_int Tryd.underlying3 (hval 0 3 v0 rfl rfl) h0
  have k1 := h1
  have lt1 : ∀ x ∈ p1, x.block < W.heap.size := by obtain ⟨m, hm⟩ := k1; exact DataW.trod_lt m _ _ _ hm
  obtain ⟨l1, b1, s1⟩ := bytes_open (hval 1 22 v1 rfl rfl) h1 (fun elems spare e => by
    have := sized_slice hsz (j := 1) (t := 22) (e := 5) (elems := elems) (spare := spare) (by kernel_rfl) (by rw [← e]; rfl) Tryd.underlying22
    rw [show Tryd.checked.prog.bytesOf 5 = 1 by kernel_rfl] at this; omega)
  have hT := tab_of_laid hL
  clear hA0 hval0 hsz hL
  simp only [List.append_nil] at hW'
  refine (walk a0 w0 v1 l1 b1 s1 hT).mono fun e W' ⟨he, hg⟩ => ?_
  subst he
  exact ⟨_, rfl, _, _, _, [], _, [], hW', trodAll_mk1 (shut_bool Tryd.underlying4 _), (trodAll_cons_mk (shut_int Tryd.underlying3 w0) (trodAll_cons_mk (Below.trod laidOut (by kernel_rfl) (of_decide_eq_true (by kernel_rfl)) k1 hg lt1) trodAll_mk0)), rfl, hg.frame _, fun h => by cases h⟩

theorem over : Rows.signPublicSpecRow.holds Tryd.pinned (OpenSpec.ofChange Rows.signPublicSpecSpec) :=
  OpenClaim.holds_of_wide 3 Tryd.f3 rfl rfl rfl rfl rfl rfl rfl ⟨rfl, rfl, rfl, rfl, rfl⟩ rfl rfl rfl rfl rfl (by kernel_rfl) Tryd.func3 (by kernel_rfl)
    (of_decide_eq_true (by kernel_rfl)) (by unfold Func.isWrapper; first | (rw [if_pos (by decide +kernel)]; kernel_rfl) | (rw [if_neg (by decide +kernel)]; exact ⟨rfl, rfl⟩))
    (fun os started H enc _ => lifted os started H enc)

end Go.Proofs.YtcmabaolpaaonaaDoor.signPublicSpec
namespace Go.Proofs.YtcmabaolpaaonaaDoor
set_option maxRecDepth 100000 in
theorem signPublicSpec_holds : Rows.SignPublicSpecCardSaid :=
  Claim7.holds_tied_plain_at .later [] [.data, .data] true _ false
    signPublicSpec.over (fun _ h => by cases h) (by kernel_rfl) (fun _ h => by cases h) signPublicSpec_row_tie rfl ⟨rfl, rfl⟩ (by kernel_rfl) rfl
    (fun f fn hf hfn => by
      obtain rfl : f = 3 := Option.some.inj ((show Tryd.prog.funcNamed "chartroom/chartroomlaw05.SignPublicSpec" = some 3 by kernel_rfl).symm.trans hf) |>.symm
      obtain rfl : fn = Tryd.f3 := (Option.some.inj (Tryd.func3.symm.trans hfn)).symm
      exact ⟨by kernel_rfl, fun j t ht => by
        rw [Tryd.params3] at ht
        have hm : t ∈ [3, 22] := by simpa using Array.mem_of_getElem? ht
        have hall : ([3, 22].all fun u => !Tryd.prog.wantsStandIn u) = true := by kernel_rfl
        exact (show Tryd.prog.wantsStandIn t = false by simpa using List.all_eq_true.1 hall t hm)⟩)
    (by kernel_rfl)
#print axioms signPublicSpec_holds
end Go.Proofs.YtcmabaolpaaonaaDoor
