/- AcksProves returns true for every input. No condition beyond the card's own: the two tables of package digest are tied to the program's text. -/
import Derived.Test.YtbjbgneejdjniaaDoorPk52
import Derived.Test.YtbjbgneejdjniaaDoorPk45
import Derived.Test.YtbjbgneejdjniaaDoorCards
namespace Go.Proofs.YtbjbgneejdjniaaDoor.acksProves
open Go.ChangeShapes Go.WideShapes Go.ChangeAt Go.RowKit
open Go.ChangeMaps (open_string shut_string)
set_option linter.unusedVariables false
set_option linter.unusedSimpArgs false

set_option maxRecDepth 100000 in
set_option maxHeartbeats 8000000 in
theorem walk {w : World} (mv : Value) (ms : List Mb) (gm : ∀ m ∈ ms, m.wf) (hm : MbS w mv ms) (f : Int) (wf : (Lit.int .i64 f).wf = true) (s : Int) (ws : (Lit.int .i64 s).wf = true) (lv : Value) (l : List Ak) (gl : ∀ a ∈ l, a.wf) (hl : AkS w lv l) (ev : Value) (es : List En) (ge : ∀ e ∈ es, True) (he : EnS w ev es) (hT : Tab w) :
    Calls Tryd.prog 4 #[mv, .int .i64 f, .int .i64 s, lv, ev] w fun e w' => e = .returned (.bool true) ∧ Below w.heap.size w w' := by
  have SN := Lib.hid (fun W (h : Tab W) => sane33_any W h)
  have T0 := Lib.hid hT
  have TT := Lib.hid hT
  have HM := Lib.hid hm
  have HL := Lib.hid hl
  have HE := Lib.hid he
  obtain ⟨ma, mc, rfl⟩ := hm.slice
  obtain ⟨la, lc, rfl⟩ := hl.slice
  obtain ⟨ea, ec, rfl⟩ := he.slice
  obtain ⟨mn, hmn⟩ : ∃ y, ms.length = y := ⟨_, rfl⟩
  obtain ⟨ln, hln⟩ : ∃ y, l.length = y := ⟨_, rfl⟩
  obtain ⟨en, hen⟩ : ∃ y, es.length = y := ⟨_, rfl⟩
  have FEW := Lib.hid (fun W => few_any ma la ea mn ln en mc lc ec W)
  have HMN := Lib.hid hmn
  have HLN := Lib.hid hln
  have HEN := Lib.hid hen
  have GL := Lib.hid gl
  rw [hmn] at HM
  rw [hln] at HL
  rw [hen] at HE
  rw [hmn, hln, hen]
  by_cases hfew : mn ≤ 6 ∧ ln ≤ 12 ∧ en ≤ 60
  · obtain ⟨h6, h12, h60⟩ := hfew
    rw [show (decide (mn ≤ 6) && decide (ln ≤ 12) && decide (en ≤ 60)) = true by simp [h6, h12, h60]] at FEW
    have H6 := Lib.hid h6
    have H12 := Lib.hid h12
    have H60 := Lib.hid h60
    have LE := fun W (h1 : MbS W (.slice ma mn mc) ms) (h2 : AkS W (.slice la ln lc) l) (h6 : Tab W) => aleast_any ms l f s (.slice ma mn mc) (.slice la ln lc) W h1 h2 gl (by omega) (by omega) h6
    have PR := Lib.hid (fun i hi hg hw => proves_at (ms := ms) (f := f) (s := s) (l := l) (es := es) (k := en) (i := i) hi hg hw)
    obtain ⟨le, hle⟩ : ∃ y, leastM ms f s l = y := ⟨_, rfl⟩
    rw [hle] at LE PR
    have WR := Lib.hid (fun W (h1 : MbS W (.slice ma mn mc) ms) (h2 : AkS W (.slice la ln lc) l) (h3 : EnS W (.slice ea en ec) es) (h6 : Tab W) => awrong_any le es (by omega) (.slice ma mn mc) (.slice la ln lc) (.slice ea en ec) f s W h3 (fun W2 b => LE W2 (h1.below b) (h2.below b) (h6.below b)))
    have WM := Lib.hid (fun j => wrongL_mem (n := le) (j := j) (es := es) (k := en))
    rw [hen] at WR
    have WLn := Lib.hid (Nat.le_trans (wrongL_len le (goneU es en)) (goneU_len es en))
    obtain ⟨wl, hwl⟩ : ∃ y, wrongL le (goneU es en) = y := ⟨_, rfl⟩
    rw [hwl] at WR WM PR WLn
    clear LE hm hl he hmn hln hen gm gl ge wf ws hT h6 h12 h60 hle hwl
    have hmm := fun W => run_makeMap_plain (w := W) (P := Tryd.prog) 41
    go_enter Tryd.func4, Tryd.ntmps4
    have B0 := Lib.hid (Below.refl w.heap.size w)
    go_wp2_with fail
    refine (SN.out _ T0.out).mono ?_
    rintro e w1 ⟨rfl, b1⟩
    have B1 := Lib.hid (B0.out.trans (b1.mono B0.out.size))
    have T1 := Lib.hid (T0.out.below b1)
    clear b1 B0 T0
    go_wp2_with fail
    refine (FEW.out _).mono ?_
    rintro e w2 ⟨rfl, b2⟩
    have B2 := Lib.hid (B1.out.trans (b2.mono B1.out.size))
    have T2 := Lib.hid (T1.out.below b2)
    clear b2 B1 T1
    go_upto_region 6 with fail
    have BW := B2
    obtain ⟨w3, hw3⟩ : ∃ y, w2.alloc (.map #[] 0) = y := ⟨_, rfl⟩
    have b3 : Below w2.heap.size w2 w3 := by rw [← hw3]; exact (Below.refl _ _).alloc (Nat.le_refl _) _
    have P3 : Hid (IM.At w3 w2.heap.size []) := Lib.hid (by rw [← hw3]; exact IM.At.made w2)
    have G3 : Hid (Since w2 w3) := Lib.hid (by rw [← hw3]; exact (Below.refl _ w2).alloc (Nat.le_refl _) _)
    have z3 : w2.heap.size + 1 = w3.heap.size := by rw [← hw3]; exact (Array.size_push _).symm
    rw [hw3]
    (try rw [z3])
    have B3 := Lib.hid (B2.out.trans (b3.mono B2.out.size))
    have T3 := Lib.hid (T2.out.below b3)
    clear b3 hw3 z3 B2 T2
    clear hmm
    go_wp2_with fail
    refine (WR.out _ (HM.out.below B3.out) (HL.out.below B3.out) (HE.out.below B3.out) T3.out).mono ?_
    rintro e w4 ⟨v, rfl, o4, b4⟩
    have N4 := Lib.hid (OwnT.of_ints o4)
    have P4 := Lib.hid (P3.out.below b4)
    have G4 := Lib.hid (G3.out.below b4)
    have B4 := Lib.hid (B3.out.trans (b4.mono B3.out.size))
    have T4 := Lib.hid (T3.out.below b4)
    have S34 : Hid (w2.heap.size < w3.heap.size) := Lib.hid P3.out.lt
    clear o4 b4 P3 G3 B3 T3 WR
    obtain ⟨q, hq⟩ : ∃ y, wl.length = y := ⟨_, rfl⟩
    have HQ := Lib.hid hq
    obtain ⟨na, nc, rfl⟩ := N4.out.slice
    rw [hq] at N4 WLn ⊢
    clear hq
    have T2 : Hid (Tab w4) := T4
    have q60 : (q : Int) ≤ 60 := by have := WLn.out; have := H60.out; omega
    have mn6 : (mn : Int) ≤ 6 := by have := H6.out; omega
    have ln12 : (ln : Int) ≤ 12 := by have := H12.out; omega
    have en60 : (en : Int) ≤ 60 := by have := H60.out; omega
    go_wp2_with fail
    go_loopg [39] q (fun g s39 wx => ∃ (k : Nat), k + g = q ∧ s39 = .int .i64 (k : Int) ∧ Hid (IM.At wx w2.heap.size (wmapQ (wl.take k))) ∧ Hid (OwnT 3 1 intC wx w3.heap.size (.slice na q nc) wl) ∧ Hid (Since w2 wx))
    case atStart => exact ⟨0, by omega, rfl, P4, N4, G4⟩
    case round =>
      obtain ⟨k, hk, rfl, P5, N5, G5⟩ := hrel
      obtain ⟨w5, rfl⟩ : ∃ y, y = wr := ⟨_, rfl⟩
      have q0 : (0 : Int) ≤ (k : Int) := Int.natCast_nonneg k
      by_cases hlt : k < q
      · have d0 : decide ((k : Int) < (q : Int)) = true := by rw [decide_eq_true_iff]; omega
        have d1 : decide (k < q) = true := by rw [decide_eq_true_iff]; omega
        have k6 : (k : Int) < (q : Int) := by omega
        have KL := Lib.hid hlt
        have hin : wl.getD k 0 ∈ wl := getD_mem 0 (by rw [HQ.out]; exact hlt)
        obtain ⟨i, hi, hg, _, hji⟩ := (WM.out _).1 hin
        have TK := Lib.hid (take_succ_getD 0 wl (show k < wl.length by rw [HQ.out]; exact hlt))
        obtain ⟨b, off, e1, hcap, hb, hc⟩ := SlAt.at_elem (s := 1) (n := q) (a := na) (k := nc) (c := fun i => intC (wl.getD i 0)) (by have h := N5.out.at' 0 (by decide) (by decide) (by rw [HQ.out]; have := WLn.out; have := H60.out; omega); rw [HQ.out] at h; exact h) hlt
        have x0 : w5.cell? ⟨b, off + k, none⟩ = some (.int .i64 (wl.getD k 0)) := by have := hc k hlt 0 (by decide); simpa [intC] using this
        obtain ⟨be, oe, e2, hcape, hbe, hce⟩ := SlAt.at_elem (s := 35) (n := en) (a := ea) (k := ec) (c := fun i => enC (es.getD i en0)) (by have h := HE.out.below (BW.out.trans (G5.out.b.mono BW.out.size)); unfold EnS at h; rw [HEN.out] at h; exact h) hi
        have x1 : w5.cell? ⟨be, oe + i * 35 + 34, none⟩ = some (.bool true) := by
          have := hce i hi 34 (by decide)
          rw [Nat.mul_comm 35 i] at this
          rw [this, show enC (es.getD i en0) 34 = .bool (es.getD i en0).g from rfl, hg]
        obtain ⟨nI, hnI⟩ : ∃ y, wl.getD k 0 = y := ⟨_, rfl⟩
        rw [hnI] at x0 hji TK
        have i0 : (0 : Int) ≤ (i : Int) := Int.natCast_nonneg i
        have i1 : (i : Int) < (en : Int) := by omega
        have t0 : decide (nI < 1) = false := by rw [decide_eq_false_iff_not]; omega
        have t1 : decide ((en : Int) < nI) = false := by rw [decide_eq_false_iff_not]; omega
        have z0 : IntKind.i64.wrap (nI - 1) = (i : Int) := by rw [IntWalk.i64_in _ (by omega)]; omega
        have z1 : nI - 1 = (i : Int) := by omega
        subst e1 e2
        clear hc hb hcap hce hbe hcape hin hg hji hnI hi hlt
        go_wp2_with (first | ((with_reducible (show wpList _ _ _ (Oper.mk none _ _ _ _ _ :: _) _ _)); refine Hid.out ?_))
        refine Lib.hid ?_
        refine IM.wpList_update rfl 41 3 4 (.tmp 60) (.tmp 61) (.const (.bool true)) rfl nI (.bool true) rfl rfl rfl P5.out Tryd.underlying41 Tryd.underlying3 ?_
        intro w6 P6 O6
        have G6 : Hid (Since w2 w6) := Lib.hid (G5.out.b.trans (O6.out.below (Nat.le_refl _) G5.out.le))
        have N6 := Lib.hid (N5.out.only O6.out (fun b hb => by have := N5.out.ge b hb; have := S34.out; omega))
        have WS := Lib.hid (wmap_snoc (wl.take k) nI)
        rw [← WS.out, ← TK.out] at P6
        clear O6 P5 N5 G5 WS x0 x1
        go_wp2_with fail
        go_roundg (gk - 1)
        case measure => have := KL.out; omega
        case rel =>
          go_light
          exact ⟨k + 1, by have := KL.out; omega, by go_num, P6, N6, G6⟩
      · obtain rfl : q = k := by omega
        have d0 : decide ((q : Int) < (q : Int)) = false := by rw [decide_eq_false_iff_not]; omega
        have d1 : decide (q < q) = false := by rw [decide_eq_false_iff_not]; omega
        have TA : Hid (wl.take q = wl) := Lib.hid (List.take_of_length_le (by rw [HQ.out]; exact Nat.le_refl _))
        rw [TA.out] at P5
        have B5 := Lib.hid (BW.out.trans (G5.out.b.mono BW.out.size))
        have HM5 := Lib.hid (HM.out.below B5.out)
        have HL5 := Lib.hid (HL.out.below B5.out)
        have HE5 := Lib.hid (HE.out.below B5.out)
        have T5 := Lib.hid (TT.out.below B5.out)
        clear N5 G5 G4 N4 P4 B4 T4 T2 BW HM HL HE TA HQ WM hlt
        go_wp2_with fail
        go_loopg [65] en (fun g s65 wx => ∃ (k : Nat), k + g = en ∧ s65 = .int .i64 (k : Int) ∧ Hid (Since w5 wx))
        case atStart => exact ⟨0, by omega, rfl, Lib.hid (Since.refl _)⟩
        case round =>
          obtain ⟨g2, rfl⟩ : ∃ y, y = gk := ⟨_, rfl⟩
          obtain ⟨k, hk, rfl, G6⟩ := hrel
          obtain ⟨w6, rfl⟩ : ∃ y, y = wr := ⟨_, rfl⟩
          have q0 : (0 : Int) ≤ (k : Int) := Int.natCast_nonneg k
          by_cases hlt : k < en
          · have d0 : decide ((k : Int) < (en : Int)) = true := by rw [decide_eq_true_iff]; omega
            have d1 : decide (k < en) = true := by rw [decide_eq_true_iff]; omega
            have k6 : (k : Int) < (en : Int) := by omega
            have KL := Lib.hid hlt
            obtain ⟨be, oe, e2, hcape, hbe, hce⟩ := SlAt.at_elem (s := 35) (n := en) (a := ea) (k := ec) (c := fun i => enC (es.getD i en0)) (by have h := HE5.out.below G6.out.b; rw [HEN.out] at h; exact h) hlt
            have HCK := Lib.hid (fun j hj => hce k hlt j hj)
            have PK := Lib.hid (PR.out k hlt)
            have B6 := Lib.hid (B5.out.trans (G6.out.b.mono B5.out.size))
            obtain ⟨x, hx⟩ : ∃ y, es.getD k en0 = y := ⟨_, rfl⟩
            rw [hx] at HCK PK
            subst e2
            clear hce hcape hbe hx hlt
            go_wp2_with (first | ((with_reducible (show wpList _ _ _ (Oper.mk (some 69) _ _ _ _ _ :: _) _ _)); refine Hid.out ?_))
            refine Lib.hid ?_
            refine wpList_load_elem rfl 45 (.tmp 68) rfl be (oe + k * 35) rfl 35 oe k (by rw [Nat.mul_comm]) (enC x) HCK.out _ Tryd.underlying45 rfl (by kernel_rfl) ?_
            clear HCK
            have C6 := Lib.hid (P5.out.below G6.out.b)
            have Zr := Lib.hid (RowV.new w6 45 35 (enC en0))
            go_upto_region 16 with ((with_reducible (show wpList _ _ _ (Oper.mk none _ _ _ _ _ :: _) _ _)); refine wpList_store_rowV (o := ⟨none, .store 45 (.tmp 15) (.tmp 69), _, _, _, _⟩) rfl 45 (.tmp 15) (.tmp 69) rfl w6.heap.size rfl 35 45 _ (enC x) rfl Zr.out (by kernel_rfl) (fun j _ => enC_one x j) ?_; intro w7 X7 o7)
            have b7 : Below w6.heap.size w6 w7 := ((Below.refl _ _).alloc (Nat.le_refl _) _).trans (o7.out.below (Nat.le_refl _) (by rw [World.size_alloc]; omega))
            have B7 := Lib.hid (B6.out.trans (b7.mono B6.out.size))
            have G7 := Lib.hid (G6.out.below b7)
            have C7 := Lib.hid (C6.out.below b7)
            clear b7 o7 Zr B6 G6 C6
            obtain ⟨gb, hgb⟩ : ∃ y, x.g = y := ⟨_, rfl⟩
            have x34 : w7.cell? ⟨w6.heap.size, 34, none⟩ = some (.bool gb) := by rw [← hgb]; exact X7.out.cell (i := 34) (by decide)
            cases gb
            · clear hgb PK C7 X7
              go_wp2_with fail
              go_roundg (g2 - 1)
              case measure => have := KL.out; omega
              case rel =>
                go_light
                exact ⟨k + 1, by have := KL.out; omega, by go_num, G7⟩
            · skip
              go_wp2_with (first | ((with_reducible (show wpList _ _ _ (Oper.mk (some 77) _ _ _ _ _ :: _) _ _)); refine Hid.out ?_))
              refine Lib.hid ?_
              refine wpList_unguard rfl ?_
              refine IM.wpList_lookup rfl 41 3 4 (.tmp 74) (.tmp 76) false rfl ((k : Int) + 1) rfl rfl C7.out Tryd.underlying41 Tryd.underlying3 (z := .bool false) (fun W => by kernel_rfl) ?_
              rw [show (if false = true then Value.tuple #[(IM.get (wmapQ wl) ((k : Int) + 1)).getD (.bool false), .bool (IM.get (wmapQ wl) ((k : Int) + 1)).isSome] else (IM.get (wmapQ wl) ((k : Int) + 1)).getD (.bool false)) = .bool (decide ((k : Int) + 1 ∈ wl)) from wmap_val wl _]
              simp only [Act.put, List.setIfInBounds_toArray, List.set_cons_succ, List.set_cons_zero]
              by_cases hw : (k : Int) + 1 ∈ wl
              · rw [decide_eq_true hw]
                clear hgb PK C7 X7 hw x34
                go_wp2_with fail
                go_roundg (g2 - 1)
                case measure => have := KL.out; omega
                case rel =>
                  go_light
                  exact ⟨k + 1, by have := KL.out; omega, by go_num, G7⟩
              · rw [decide_eq_false hw]
                obtain ⟨k4, mne, hall⟩ := PK.out hgb hw
                have HALL := Lib.hid hall
                have x0 : w7.cell? ⟨w6.heap.size, 0, none⟩ = some (.int .i64 4) := by rw [← k4]; exact X7.out.cell (i := 0) (by decide)
                have mpos : 0 < mn := by rw [← HMN.out]; exact List.length_pos_iff.2 mne
                have t0 : ((mn : Int) == 0) = false := by rw [beq_eq_false_iff_ne]; omega
                have t1 : (mn == 0) = false := by rw [beq_eq_false_iff_ne]; omega
                have t2 : decide (mn = 0) = false := by rw [decide_eq_false_iff_not]; omega
                clear hgb PK C7 hw k4 mne hall mpos x34
                have HM7 := Lib.hid (HM5.out.below G7.out.b)
                have HL7 := Lib.hid (HL5.out.below G7.out.b)
                have T7 := Lib.hid (T5.out.below G7.out.b)
                clear X7
                go_wp2_with fail
                go_loopg [89] mn (fun g s89 wx => ∃ (c : Nat), c + g = mn ∧ s89 = .int .i64 (c : Int) ∧ Hid (Since w7 wx))
                case atStart => exact ⟨0, by omega, rfl, Lib.hid (Since.refl _)⟩
                case round =>
                  obtain ⟨g3, rfl⟩ : ∃ y, y = gk := ⟨_, rfl⟩
                  obtain ⟨c, hc, rfl, G8⟩ := hrel
                  obtain ⟨w8, rfl⟩ : ∃ y, y = wr := ⟨_, rfl⟩
                  have c0 : (0 : Int) ≤ (c : Int) := Int.natCast_nonneg c
                  by_cases hlc : c < mn
                  · have d2 : decide ((c : Int) < (mn : Int)) = true := by rw [decide_eq_true_iff]; omega
                    have d3 : decide (c < mn) = true := by rw [decide_eq_true_iff]; omega
                    have c6 : (c : Int) < (mn : Int) := by omega
                    have CL := Lib.hid hlc
                    obtain ⟨bm, om, e3, hcape, hbe, hce⟩ := SlAt.at_elem (s := 3) (n := mn) (a := ma) (k := mc) (c := fun i => mbC (ms.getD i mb0)) (by have h := HM7.out.below G8.out.b; rw [HMN.out] at h; exact h) hlc
                    have HCK := Lib.hid (fun j hj => hce c hlc j hj)
                    have HY := Lib.hid (HALL.out _ (getD_mem mb0 (show c < ms.length by rw [HMN.out]; exact hlc)))
                    have B8 := Lib.hid (B7.out.trans (G8.out.b.mono B7.out.size))
                    obtain ⟨y, hy⟩ : ∃ z, ms.getD c mb0 = z := ⟨_, rfl⟩
                    rw [hy] at HCK HY
                    subst e3
                    clear hce hcape hbe hy hlc
                    go_wp2_with (first | ((with_reducible (show wpList _ _ _ (Oper.mk (some 92) _ _ _ _ _ :: _) _ _)); refine Hid.out ?_))
                    refine Lib.hid ?_
                    refine wpList_load_elem rfl 47 (.tmp 91) rfl bm (om + c * 3) rfl 3 om c (by rw [Nat.mul_comm]) (mbC y) HCK.out _ Tryd.underlying47 rfl (by kernel_rfl) ?_
                    clear HCK
                    have Zr := Lib.hid (RowV.new w8 47 3 (mbC mb0))
                    go_upto_region 22 with ((with_reducible (show wpList _ _ _ (Oper.mk none _ _ _ _ _ :: _) _ _)); refine wpList_store_rowV (o := ⟨none, .store 47 (.tmp 17) (.tmp 92), _, _, _, _⟩) rfl 47 (.tmp 17) (.tmp 92) rfl w8.heap.size rfl 3 47 _ (mbC y) rfl Zr.out (by kernel_rfl) (fun j _ => mbC_one y j) ?_; intro w9 Y9 o9)
                    have b9 : Below w8.heap.size w8 w9 := ((Below.refl _ _).alloc (Nat.le_refl _) _).trans (o9.out.below (Nat.le_refl _) (by rw [World.size_alloc]; omega))
                    have B9 := Lib.hid (B8.out.trans (b9.mono B8.out.size))
                    have G9 := Lib.hid (G8.out.below b9)
                    clear b9 o9 Zr B8 G8
                    have HL9 := Lib.hid (HL7.out.below G9.out.b)
                    have T9 := Lib.hid (T7.out.below G9.out.b)
                    go_wp2_with fail
                    go_loopg [18, 95] ln (fun g s18 s95 wx => ∃ (d : Nat), d + g = ln ∧ s18 = .bool ((l.take d).any (cntP y f s k)) ∧ s95 = .int .i64 (d : Int) ∧ Hid (Since w9 wx))
                    case atStart => exact ⟨0, by omega, rfl, rfl, Lib.hid (Since.refl _)⟩
                    case round =>
                      obtain ⟨d, hd, rfl, rfl, G10⟩ := hrel
                      obtain ⟨w10, rfl⟩ : ∃ y, y = wr := ⟨_, rfl⟩
                      have dq : (0 : Int) ≤ (d : Int) := Int.natCast_nonneg d
                      by_cases hld : d < ln
                      · have d4 : decide ((d : Int) < (ln : Int)) = true := by rw [decide_eq_true_iff]; omega
                        have d5 : decide (d < ln) = true := by rw [decide_eq_true_iff]; omega
                        have d6 : (d : Int) < (ln : Int) := by omega
                        have DL := Lib.hid hld
                        obtain ⟨ba, oa, e4, hcape, hbe, hce⟩ := SlAt.at_elem (s := 38) (n := ln) (a := la) (k := lc) (c := fun i => akC (l.getD i ak0)) (by have h := HL9.out.below G10.out.b; rw [HLN.out] at h; exact h) hld
                        have HCK := Lib.hid (fun j hj => hce d hld j hj)
                        have WA := Lib.hid (GL.out _ (getD_mem ak0 (show d < l.length by rw [HLN.out]; exact hld)))
                        have AT := Lib.hid (any_take (m := y) (f := f) (s := s) (i := k) (l := l) (k := d) (by rw [HLN.out]; exact hld))
                        have B10 := Lib.hid (B9.out.trans (G10.out.b.mono B9.out.size))
                        obtain ⟨a, ha⟩ : ∃ z, l.getD d ak0 = z := ⟨_, rfl⟩
                        obtain ⟨met, hmet⟩ : ∃ z, (l.take d).any (cntP y f s k) = z := ⟨_, rfl⟩
                        rw [ha] at HCK WA AT
                        rw [hmet] at AT ⊢
                        subst e4
                        clear hce hcape hbe ha hld hmet
                        go_wp2_with (first | ((with_reducible (show wpList _ _ _ (Oper.mk (some 98) _ _ _ _ _ :: _) _ _)); refine Hid.out ?_))
                        refine Lib.hid ?_
                        refine wpList_load_elem rfl 27 (.tmp 97) rfl ba (oa + d * 38) rfl 38 oa d (by rw [Nat.mul_comm]) (akC a) HCK.out _ Tryd.underlying27 rfl (by kernel_rfl) ?_
                        clear HCK
                        have Y10 := Lib.hid (Y9.out.below G10.out.b)
                        have T10 := Lib.hid (T9.out.below G10.out.b)
                        have Zr := Lib.hid (RowV.new w10 27 38 (akC ak0))
                        go_upto_region 26 with ((with_reducible (show wpList _ _ _ (Oper.mk none _ _ _ _ _ :: _) _ _)); refine wpList_store_rowV (o := ⟨none, .store 27 (.tmp 20) (.tmp 98), _, _, _, _⟩) rfl 27 (.tmp 20) (.tmp 98) rfl w10.heap.size rfl 38 27 _ (akC a) rfl Zr.out (by kernel_rfl) (fun j _ => akC_one a j) ?_; intro w11 Z11 o11)
                        have b11 : Below w10.heap.size w10 w11 := ((Below.refl _ _).alloc (Nat.le_refl _) _).trans (o11.out.below (Nat.le_refl _) (by rw [World.size_alloc]; omega))
                        have B11 := Lib.hid (B10.out.trans (b11.mono B10.out.size))
                        have G11 := Lib.hid (G10.out.below b11)
                        have Y11 := Lib.hid (Y10.out.below b11)
                        have T11 := Lib.hid (T10.out.below b11)
                        clear b11 o11 Zr B10 G10 Y10 T10
                        simp only [Act.put]
                        go_cut [21, 22] (fun s21 s22 wx => ∃ u, s21 = u ∧ s22 = .int .i64 0 ∧ Hid (Owns wx w11.heap.size u (encA a [])) ∧ Hid (Below w11.heap.size w11 wx))
                        case first =>
                          refine Tc.wp_region_plan (keep w11.heap.size) 24 [] (.fl 0 (.fl 1 (.fl 3 (.fl 4 (.fl 6 (.fl 7 (.fl 9 (.fl 10 (.fl 12 (.fl 13 (.fl 14 (.fl 15 (.one 2 (.one 5 (.one 8 (.one 11 (.one 16 (.fl 17 (.one 18 (.fp 19 (.fp 20 (.fp 21 (.fp 22 (.fp 23 .done)))))))))))))))))))))))) (by kernel_rfl) (by kernel_rfl) ?_
                          intro w12 b12 e12
                          have BB12 : Hid (Below w11.heap.size w11 w12) := Lib.hid b12
                          clear b12 e12
                          refine Tc.plan_floats [0, 1, 3, 4, 6, 7, 9, 10, 12, 13, 14, 15] [_, _, _, _, _, _, _, _, _, _, _, _] rfl ?_
                          dsimp only [List.getElem_toArray, List.getElem_cons_succ, List.getElem_cons_zero]
                          repeat (first | go_big_quiet_skip | (go_big_quiet_want; go_big_quiet_op; first | go_big_quiet_on | (refine ⟨_, fun _ _ => rfl, ?_⟩; go_big_quiet_on)))
                          refine wpQuiet_load_cell rfl 3 (.tmp 100) rfl w10.heap.size 0 rfl _ Tryd.underlying3 rfl (.int .i64 a.f) (fun W hW => cell_keep (n := w11.heap.size) (ak_cell (Z11.out.below BB12.out) (i := 0) (by decide) (by decide)) (Z11.out.lt) hW) ?_
                          simp only [Act.put, List.setIfInBounds_toArray, List.set_cons_succ, List.set_cons_zero]
                          repeat (first | go_big_quiet_skip | (go_big_quiet_want; go_big_quiet_op; first | go_big_quiet_on | (refine ⟨_, fun _ _ => rfl, ?_⟩; go_big_quiet_on)))
                          refine wpQuiet_load_cell rfl 3 (.tmp 103) rfl w10.heap.size 1 rfl _ Tryd.underlying3 rfl (.int .i64 a.d) (fun W hW => cell_keep (n := w11.heap.size) (ak_cell (Z11.out.below BB12.out) (i := 1) (by decide) (by decide)) (Z11.out.lt) hW) ?_
                          simp only [Act.put, List.setIfInBounds_toArray, List.set_cons_succ, List.set_cons_zero]
                          repeat (first | go_big_quiet_skip | (go_big_quiet_want; go_big_quiet_op; first | go_big_quiet_on | (refine ⟨_, fun _ _ => rfl, ?_⟩; go_big_quiet_on)))
                          refine wpQuiet_load_cell rfl 3 (.tmp 106) rfl w10.heap.size 2 rfl _ Tryd.underlying3 rfl (.int .i64 a.s) (fun W hW => cell_keep (n := w11.heap.size) (ak_cell (Z11.out.below BB12.out) (i := 2) (by decide) (by decide)) (Z11.out.lt) hW) ?_
                          simp only [Act.put, List.setIfInBounds_toArray, List.set_cons_succ, List.set_cons_zero]
                          repeat (first | go_big_quiet_skip | (go_big_quiet_want; go_big_quiet_op; first | go_big_quiet_on | (refine ⟨_, fun _ _ => rfl, ?_⟩; go_big_quiet_on)))
                          refine wpQuiet_load_cell rfl 3 (.tmp 109) rfl w10.heap.size 3 rfl _ Tryd.underlying3 rfl (.int .i64 a.u) (fun W hW => cell_keep (n := w11.heap.size) (ak_cell (Z11.out.below BB12.out) (i := 3) (by decide) (by decide)) (Z11.out.lt) hW) ?_
                          simp only [Act.put, List.setIfInBounds_toArray, List.set_cons_succ, List.set_cons_zero]
                          repeat (first | go_big_quiet_skip | (go_big_quiet_want; go_big_quiet_op; first | go_big_quiet_on | (refine ⟨_, fun _ _ => rfl, ?_⟩; go_big_quiet_on)))
                          refine wpQuiet_convert rfl 28 9 (.tmp 113) rfl _ (.string ⟨a.ch.toArray⟩) rfl (fun W hW => run_text (ak_bytes (row_keep (n := w11.heap.size) (Z11.out.below BB12.out) Z11.out.lt hW) WA.out)) ?_
                          simp only [Act.put, List.setIfInBounds_toArray, List.set_cons_succ, List.set_cons_zero]
                          repeat (first | go_big_quiet_skip | (go_big_quiet_want; go_big_quiet_op; first | go_big_quiet_on | (refine ⟨_, fun _ _ => rfl, ?_⟩; go_big_quiet_on)))
                          refine wpQuiet_nil ?_
                          obtain ⟨tx, htx⟩ : ∃ y, ByteArray.mk a.ch.toArray = y := ⟨_, rfl⟩
                          have HTX := Lib.hid htx
                          rw [htx]
                          clear htx
                          refine Tc.plan_one 2 rfl (fun K hK => ?_)
                          go_wp2_with fail
                          refine (num_any a.f _).mono ?_
                          rintro e w13 ⟨rfl, b13⟩
                          have bb := b13.mono BB12.out.size
                          have BB13 := Lib.hid (BB12.out.trans bb)
                          go_wp2_with fail
                          refine hK _ _ (keep_below bb) ?_
                          clear hK K bb b13 BB12
                          refine Tc.plan_one 5 rfl (fun K hK => ?_)
                          go_wp2_with fail
                          refine (num_any a.d _).mono ?_
                          rintro e w14 ⟨rfl, b14⟩
                          have bb := b14.mono BB13.out.size
                          have BB14 := Lib.hid (BB13.out.trans bb)
                          go_wp2_with fail
                          refine hK _ _ (keep_below bb) ?_
                          clear hK K bb b14 BB13
                          refine Tc.plan_one 8 rfl (fun K hK => ?_)
                          go_wp2_with fail
                          refine (num_any a.s _).mono ?_
                          rintro e w15 ⟨rfl, b15⟩
                          have bb := b15.mono BB14.out.size
                          have BB15 := Lib.hid (BB14.out.trans bb)
                          go_wp2_with fail
                          refine hK _ _ (keep_below bb) ?_
                          clear hK K bb b15 BB14
                          refine Tc.plan_one 11 rfl (fun K hK => ?_)
                          go_wp2_with fail
                          refine (num_any a.u _).mono ?_
                          rintro e w16 ⟨rfl, b16⟩
                          have bb := b16.mono BB15.out.size
                          have BB16 := Lib.hid (BB15.out.trans bb)
                          go_wp2_with fail
                          refine hK _ _ (keep_below bb) ?_
                          clear hK K bb b16 BB15
                          refine Tc.plan_one 16 rfl (fun K hK => ?_)
                          refine wpList_buildT (s := 4) (c := valE) rfl 49 5 _ rfl zeroC [valC 1 a.f ⟨#[]⟩ (.slice none 0 0), valC 1 a.d ⟨#[]⟩ (.slice none 0 0), valC 1 a.s ⟨#[]⟩ (.slice none 0 0), valC 1 a.u ⟨#[]⟩ (.slice none 0 0), valC 2 0 tx (.slice none 0 0)] rfl (by decide) (by decide) (by decide) (by decide) rfl Tryd.underlying49 (by kernel_rfl) (by kernel_rfl) ?_
                          intro w17 P17 b17 L17
                          have bb := b17.out.mono BB16.out.size
                          have BB17 := Lib.hid (BB16.out.trans bb)
                          have Z16 := L17
                          refine (show wpList _ _ _ [] _ _ from hK _ _ (keep_below bb) ?_)
                          dsimp only [Act.put]
                          simp only [List.setIfInBounds_toArray, List.set_cons_succ, List.set_cons_zero]
                          clear hK K bb b17 L17 BB16
                          refine Tc.plan_floats [17] [_] rfl ?_
                          dsimp only [List.getElem_toArray, List.getElem_cons_succ, List.getElem_cons_zero]
                          simp only [List.set_cons_succ, List.set_cons_zero]
                          repeat (first | go_big_quiet_skip | (go_big_quiet_want; go_big_quiet_op; first | go_big_quiet_on | (refine ⟨_, fun _ _ => rfl, ?_⟩; go_big_quiet_on)))
                          refine wpQuiet_nil ?_
                          refine Tc.plan_one 18 rfl (fun K hK => ?_)
                          go_wp2_with fail
                          refine (enc_ack a WA.out _ w17 (CodAt.ack WA.out HTX.out P17.out)).mono ?_
                          rintro e w18 ⟨⟨u, rfl, o18⟩, b18⟩
                          have bb := b18.mono BB17.out.size
                          have BB18 := Lib.hid (BB17.out.trans bb)
                          have O18 := Lib.hid (o18.lower BB17.out.size)
                          obtain ⟨ua, uc, rfl⟩ := O18.out.slice
                          go_wp2_with fail
                          refine hK _ _ (keep_below bb) ?_
                          clear hK K bb b18 o18 BB17 P17
                          refine Tc.plan_pures [19, 20, 21, 22, 23] [_, _, _, _, _] rfl ?_
                          dsimp only [List.getElem_toArray, List.getElem_cons_succ, List.getElem_cons_zero]
                          repeat (first | go_big_quiet_skip | (go_big_quiet_want; go_big_quiet_op; first | go_big_quiet_on | (refine ⟨_, fun _ _ => rfl, ?_⟩; go_big_quiet_on)))
                          refine wpQuiet_nil ?_
                          refine Tc.plan_done (l := []) rfl (fun K hK => ?_)
                          go_wp2_with fail
                          go_meet
                          exact ⟨_, rfl, rfl, O18, BB18⟩
                        case rest =>
                          obtain ⟨u, rfl, rfl, O12, Bb⟩ := hcut
                          obtain ⟨w12, rfl⟩ : ∃ y, y = wc := ⟨_, rfl⟩
                          have B12 := Lib.hid (B11.out.trans (Bb.out.mono B11.out.size))
                          have G12 := Lib.hid (G11.out.below Bb.out)
                          have Y12 := Lib.hid (Y11.out.below Bb.out)
                          have Z12 := Lib.hid (Z11.out.below Bb.out)
                          have T12 := Lib.hid (T11.out.below Bb.out)
                          have LE2 := Lib.hid (encA_len a WA.out [] (fun z hz => absurd hz List.not_mem_nil) (by decide))
                          have V12 := Lib.hid (O12.out.bytesAt (by have := LE2.out; omega))
                          obtain ⟨ua, uc, rfl⟩ := O12.out.slice
                          clear Bb B11 G11 Y11 Z11 T11 O12
                          go_wp2_with fail
                          refine (tagged_any ⟨#[97, 99, 107]⟩ _ _ w12 (by decide) (Nat.le_trans LE2.out (by decide)) V12.out T12.out).mono ?_
                          rintro e w13 ⟨rfl, b13⟩
                          have B13 := Lib.hid (B12.out.trans (b13.mono B12.out.size))
                          have G13 := Lib.hid (G12.out.below b13)
                          have Y13 := Lib.hid (Y12.out.below b13)
                          have Z13 := Lib.hid (Z12.out.below b13)
                          have T13 := Lib.hid (T12.out.below b13)
                          clear b13 B12 G12 Y12 Z12 T12 V12 LE2
                          have Zr := Lib.hid (RowV.new w13 23 32 (fun _ => vB 0))
                          go_upto_region 28 with ((with_reducible (show wpList _ _ _ (Oper.mk none _ _ _ _ _ :: _) _ _)); refine wpList_store_rowV (o := ⟨none, .store 23 (.tmp 23) (.tmp 122), _, _, _, _⟩) rfl 23 (.tmp 23) (.tmp 122) rfl w13.heap.size rfl 32 23 _ (fun j => vB ((msgA a).getD j 0)) rfl Zr.out (by kernel_rfl) (fun _ _ => rfl) ?_; intro w14 D14 o14)
                          have b14 : Below w13.heap.size w13 w14 := ((Below.refl _ _).alloc (Nat.le_refl _) _).trans (o14.out.below (Nat.le_refl _) (by rw [World.size_alloc]; omega))
                          have B14 := Lib.hid (B13.out.trans (b14.mono B13.out.size))
                          have G14 := Lib.hid (G13.out.below b14)
                          have Y14 := Lib.hid (Y13.out.below b14)
                          have Z14 := Lib.hid (Z13.out.below b14)
                          have T14 := Lib.hid (T13.out.below b14)
                          clear b14 o14 Zr B13 G13 Y13 Z13 T13
                          simp only [Act.put]
                          cases met
                          · have CP : ∀ (b1 b2 b3 b4 b5 : Bool), decide (a.f = f) = b1 → decide (a.s = s) = b2 → decide (a.d = y.dev) = b3 → decide ((k : Int) < a.u) = b4 → verB y.ver (msgA a) a.r a.g = b5 → (false || cntP y f s k a) = (b1 && b2 && b3 && b4 && b5) := by
                              intro b1 b2 b3 b4 b5 h1 h2 h3 h4 h5; unfold cntP; rw [h1, h2, h3, h4, h5]; rfl
                            by_cases h1 : a.f = f
                            · have e1 : (a.f == f) = true := by simpa using h1
                              by_cases h2 : a.s = s
                              · have e2 : (a.s == s) = true := by simpa using h2
                                by_cases h3 : a.d = y.dev
                                · have e3 : (a.d == y.dev) = true := by simpa using h3
                                  by_cases h4 : (k : Int) < a.u
                                  · have e4 : decide ((k : Int) < a.u) = true := by simpa using h4
                                    have CF := Lib.hid (CP true true true true _ (by simpa using h1) (by simpa using h2) (by simpa using h3) e4 rfl)
                                    rw [show ((true && true && true && true) && verB y.ver (msgA a) a.r a.g) = verB y.ver (msgA a) a.r a.g from Bool.true_and _] at CF
                                    clear CP h1 h2 h3 h4
                                    refine Tc.wp_region_plan (keep w14.heap.size) 38 [] (.fl 0 (.fl 1 (.fl 2 (.fl 3 (.fl 4 (.fl 5 (.fl 6 (.fl 7 (.fl 8 (.fl 9 (.fl 10 (.fl 11 (.fl 12 (.fl 13 (.fl 14 (.fl 15 (.fl 16 (.fl 17 (.fl 18 (.fl 19 (.fl 20 (.fl 21 (.fl 22 (.fl 23 (.fl 24 (.fl 25 (.fl 26 (.fl 27 (.fl 28 (.fl 29 (.fl 30 (.fl 31 (.fl 32 (.fl 33 (.fl 34 (.one 35 (.fl 36 (.fl 37 .done)))))))))))))))))))))))))))))))))))))) (by kernel_rfl) (by kernel_rfl) ?_
                                    intro w15 b15 e15
                                    have BB15 : Hid (Below w14.heap.size w14 w15) := Lib.hid b15
                                    clear b15 e15
                                    refine Tc.plan_floats [0, 1, 2, 3, 4, 5, 6, 7, 8, 9, 10, 11, 12, 13, 14, 15, 16, 17, 18, 19, 20, 21, 22, 23, 24, 25, 26, 27, 28, 29, 30, 31, 32, 33, 34] [_, _, _, _, _, _, _, _, _, _, _, _, _, _, _, _, _, _, _, _, _, _, _, _, _, _, _, _, _, _, _, _, _, _, _] rfl ?_
                                    dsimp only [List.getElem_toArray, List.getElem_cons_succ, List.getElem_cons_zero]
                                    repeat (first | go_big_quiet_skip | (go_big_quiet_want; go_big_quiet_op; first | go_big_quiet_on | (refine ⟨_, fun _ _ => rfl, ?_⟩; go_big_quiet_on)))
                                    refine wpQuiet_unguard rfl ?_
                                    repeat (first | go_big_quiet_skip | (go_big_quiet_want; go_big_quiet_op; first | go_big_quiet_on | (refine ⟨_, fun _ _ => rfl, ?_⟩; go_big_quiet_on)))
                                    refine wpQuiet_load_cell rfl 3 (.tmp 128) rfl w10.heap.size 0 rfl _ Tryd.underlying3 rfl (.int .i64 a.f) (fun W hW => cell_keep (n := w14.heap.size) (ak_cell (Z14.out.below BB15.out) (i := 0) (by decide) (by decide)) (Z14.out.lt) hW) ?_
                                    simp only [Act.put, List.setIfInBounds_toArray, List.set_cons_succ, List.set_cons_zero]
                                    repeat (first | go_big_quiet_skip | (go_big_quiet_want; go_big_quiet_op; first | go_big_quiet_on | (refine ⟨_, fun _ _ => rfl, ?_⟩; go_big_quiet_on)))
                                    refine wpQuiet_unguard rfl ?_
                                    repeat (first | go_big_quiet_skip | (go_big_quiet_want; go_big_quiet_op; first | go_big_quiet_on | (refine ⟨_, fun _ _ => rfl, ?_⟩; go_big_quiet_on)))
                                    refine wpQuiet_load_cell rfl 3 (.tmp 134) rfl w10.heap.size 2 rfl _ Tryd.underlying3 rfl (.int .i64 a.s) (fun W hW => cell_keep (n := w14.heap.size) (ak_cell (Z14.out.below BB15.out) (i := 2) (by decide) (by decide)) (Z14.out.lt) hW) ?_
                                    simp only [Act.put, List.setIfInBounds_toArray, List.set_cons_succ, List.set_cons_zero]
                                    repeat (first | go_big_quiet_skip | (go_big_quiet_want; go_big_quiet_op; first | go_big_quiet_on | (refine ⟨_, fun _ _ => rfl, ?_⟩; go_big_quiet_on)))
                                    refine wpQuiet_unguard rfl ?_
                                    repeat (first | go_big_quiet_skip | (go_big_quiet_want; go_big_quiet_op; first | go_big_quiet_on | (refine ⟨_, fun _ _ => rfl, ?_⟩; go_big_quiet_on)))
                                    refine wpQuiet_load_cell rfl 3 (.tmp 140) rfl w10.heap.size 1 rfl _ Tryd.underlying3 rfl (.int .i64 a.d) (fun W hW => cell_keep (n := w14.heap.size) (ak_cell (Z14.out.below BB15.out) (i := 1) (by decide) (by decide)) (Z14.out.lt) hW) ?_
                                    simp only [Act.put, List.setIfInBounds_toArray, List.set_cons_succ, List.set_cons_zero]
                                    repeat (first | go_big_quiet_skip | (go_big_quiet_want; go_big_quiet_op; first | go_big_quiet_on | (refine ⟨_, fun _ _ => rfl, ?_⟩; go_big_quiet_on)))
                                    refine wpQuiet_unguard rfl ?_
                                    repeat (first | go_big_quiet_skip | (go_big_quiet_want; go_big_quiet_op; first | go_big_quiet_on | (refine ⟨_, fun _ _ => rfl, ?_⟩; go_big_quiet_on)))
                                    refine wpQuiet_load_cell rfl 3 (.tmp 142) rfl w8.heap.size 0 rfl _ Tryd.underlying3 rfl (.int .i64 y.dev) (fun W hW => cell_keep (n := w14.heap.size) ((Y14.out.below BB15.out).cell (i := 0) (by decide)) (Y14.out.lt) hW) ?_
                                    simp only [Act.put, List.setIfInBounds_toArray, List.set_cons_succ, List.set_cons_zero]
                                    repeat (first | go_big_quiet_skip | (go_big_quiet_want; go_big_quiet_op; first | go_big_quiet_on | (refine ⟨_, fun _ _ => rfl, ?_⟩; go_big_quiet_on)))
                                    refine wpQuiet_unguard rfl ?_
                                    repeat (first | go_big_quiet_skip | (go_big_quiet_want; go_big_quiet_op; first | go_big_quiet_on | (refine ⟨_, fun _ _ => rfl, ?_⟩; go_big_quiet_on)))
                                    refine wpQuiet_load_cell rfl 3 (.tmp 147) rfl w10.heap.size 3 rfl _ Tryd.underlying3 rfl (.int .i64 a.u) (fun W hW => cell_keep (n := w14.heap.size) (ak_cell (Z14.out.below BB15.out) (i := 3) (by decide) (by decide)) (Z14.out.lt) hW) ?_
                                    simp only [Act.put, List.setIfInBounds_toArray, List.set_cons_succ, List.set_cons_zero]
                                    repeat (first | go_big_quiet_skip | (go_big_quiet_want; go_big_quiet_op; first | go_big_quiet_on | (refine ⟨_, fun _ _ => rfl, ?_⟩; go_big_quiet_on)))
                                    refine wpQuiet_unguard rfl ?_
                                    repeat (first | go_big_quiet_skip | (go_big_quiet_want; go_big_quiet_op; first | go_big_quiet_on | (refine ⟨_, fun _ _ => rfl, ?_⟩; go_big_quiet_on)))
                                    refine wpQuiet_load_cell rfl 3 (.tmp 153) rfl w8.heap.size 2 rfl _ Tryd.underlying3 rfl (.int .i64 y.ver) (fun W hW => cell_keep (n := w14.heap.size) ((Y14.out.below BB15.out).cell (i := 2) (by decide)) (Y14.out.lt) hW) ?_
                                    simp only [Act.put, List.setIfInBounds_toArray, List.set_cons_succ, List.set_cons_zero]
                                    repeat (first | go_big_quiet_skip | (go_big_quiet_want; go_big_quiet_op; first | go_big_quiet_on | (refine ⟨_, fun _ _ => rfl, ?_⟩; go_big_quiet_on)))
                                    refine wpQuiet_unguard rfl ?_
                                    refine wpQuiet_load_part rfl 25 (.tmp 156) rfl w10.heap.size 36 rfl 38 2 _ (akC a) (fun i => if i = 0 then .int .i64 a.r else .int .i64 a.g) (fun W hW => row_keep (n := w14.heap.size) ((Z14.out).below BB15.out) (Z14.out.lt) hW) (by decide) (fun j hj => by match j, hj with | 0, _ => rfl | 1, _ => rfl) _ Tryd.underlying25 rfl (by kernel_rfl) ?_
                                    simp only [Act.put, List.setIfInBounds_toArray, List.set_cons_succ, List.set_cons_zero]
                                    repeat (first | go_big_quiet_skip | (go_big_quiet_want; go_big_quiet_op; first | go_big_quiet_on | (refine ⟨_, fun _ _ => rfl, ?_⟩; go_big_quiet_on)))
                                    refine wpQuiet_nil ?_
                                    refine Tc.plan_one 35 rfl (fun K hK => ?_)
                                    have DB := (D14.out.below BB15.out).bytesAt (msgA_len a) (by decide) (by decide)
                                    have T15 := T14.out.below BB15.out
                                    go_wp2_with fail
                                    refine (verify_any y.ver a.r a.g _ (msgA a) w15 (by rw [msgA_len]; decide) DB T15).mono ?_
                                    rintro e w16 ⟨rfl, b16⟩
                                    have bb := b16.mono BB15.out.size
                                    have BB16 := Lib.hid (BB15.out.trans bb)
                                    clear DB T15
                                    obtain ⟨vb, hvb⟩ : ∃ z, verB y.ver (msgA a) a.r a.g = z := ⟨_, rfl⟩
                                    rw [hvb] at CF ⊢
                                    clear hvb
                                    go_wp2_with fail
                                    refine hK _ _ (keep_below bb) ?_
                                    clear hK K bb b16 BB15
                                    refine Tc.plan_floats [36, 37] [_, _] rfl ?_
                                    dsimp only [List.getElem_toArray, List.getElem_cons_succ, List.getElem_cons_zero]
                                    repeat (first | go_big_quiet_skip | (go_big_quiet_want; go_big_quiet_op; first | go_big_quiet_on | (refine ⟨_, fun _ _ => rfl, ?_⟩; go_big_quiet_on)))
                                    refine wpQuiet_nil ?_
                                    refine Tc.plan_done (l := [_]) rfl (fun K hK => ?_)
                                    go_wp2_with fail
                                    have G16 := Lib.hid (G14.out.below BB16.out)
                                    go_roundg (gk - 1)
                                    case measure => have := DL.out; omega
                                    case rel =>
                                      go_light
                                      exact ⟨d + 1, by have := DL.out; omega, by rw [AT.out, CF.out], by go_num, G16⟩
                                  · have e4 : decide ((k : Int) < a.u) = false := by simpa using h4
                                    have CF := Lib.hid (CP true true true false _ (by simpa using h1) (by simpa using h2) (by simpa using h3) e4 rfl)
                                    rw [show ((true && true && true && false) && verB y.ver (msgA a) a.r a.g) = false from Bool.false_and _] at CF
                                    clear CP h1 h2 h3 h4
                                    refine Tc.wp_region_plan (keep w14.heap.size) 38 [] (.fl 0 (.fl 1 (.fl 2 (.fl 3 (.fl 4 (.fl 5 (.fl 6 (.fl 7 (.fl 8 (.fl 9 (.fl 10 (.fl 11 (.fl 12 (.fl 13 (.fl 14 (.fl 15 (.fl 16 (.fl 17 (.fl 18 (.fl 19 (.fl 20 (.fl 21 (.fl 22 (.fl 23 (.fl 24 (.fl 25 (.fl 26 (.fl 27 (.fl 28 (.fl 29 (.fl 30 (.fl 31 (.fl 32 (.fl 33 (.fl 34 (.one 35 (.fl 36 (.fl 37 .done)))))))))))))))))))))))))))))))))))))) (by kernel_rfl) (by kernel_rfl) ?_
                                    intro w15 b15 e15
                                    have BB15 : Hid (Below w14.heap.size w14 w15) := Lib.hid b15
                                    clear b15 e15
                                    refine Tc.plan_floats [0, 1, 2, 3, 4, 5, 6, 7, 8, 9, 10, 11, 12, 13, 14, 15, 16, 17, 18, 19, 20, 21, 22, 23, 24, 25, 26, 27, 28, 29, 30, 31, 32, 33, 34] [_, _, _, _, _, _, _, _, _, _, _, _, _, _, _, _, _, _, _, _, _, _, _, _, _, _, _, _, _, _, _, _, _, _, _] rfl ?_
                                    dsimp only [List.getElem_toArray, List.getElem_cons_succ, List.getElem_cons_zero]
                                    repeat (first | go_big_quiet_skip | (go_big_quiet_want; go_big_quiet_op; first | go_big_quiet_on | (refine ⟨_, fun _ _ => rfl, ?_⟩; go_big_quiet_on)))
                                    refine wpQuiet_unguard rfl ?_
                                    repeat (first | go_big_quiet_skip | (go_big_quiet_want; go_big_quiet_op; first | go_big_quiet_on | (refine ⟨_, fun _ _ => rfl, ?_⟩; go_big_quiet_on)))
                                    refine wpQuiet_load_cell rfl 3 (.tmp 128) rfl w10.heap.size 0 rfl _ Tryd.underlying3 rfl (.int .i64 a.f) (fun W hW => cell_keep (n := w14.heap.size) (ak_cell (Z14.out.below BB15.out) (i := 0) (by decide) (by decide)) (Z14.out.lt) hW) ?_
                                    simp only [Act.put, List.setIfInBounds_toArray, List.set_cons_succ, List.set_cons_zero]
                                    repeat (first | go_big_quiet_skip | (go_big_quiet_want; go_big_quiet_op; first | go_big_quiet_on | (refine ⟨_, fun _ _ => rfl, ?_⟩; go_big_quiet_on)))
                                    refine wpQuiet_unguard rfl ?_
                                    repeat (first | go_big_quiet_skip | (go_big_quiet_want; go_big_quiet_op; first | go_big_quiet_on | (refine ⟨_, fun _ _ => rfl, ?_⟩; go_big_quiet_on)))
                                    refine wpQuiet_load_cell rfl 3 (.tmp 134) rfl w10.heap.size 2 rfl _ Tryd.underlying3 rfl (.int .i64 a.s) (fun W hW => cell_keep (n := w14.heap.size) (ak_cell (Z14.out.below BB15.out) (i := 2) (by decide) (by decide)) (Z14.out.lt) hW) ?_
                                    simp only [Act.put, List.setIfInBounds_toArray, List.set_cons_succ, List.set_cons_zero]
                                    repeat (first | go_big_quiet_skip | (go_big_quiet_want; go_big_quiet_op; first | go_big_quiet_on | (refine ⟨_, fun _ _ => rfl, ?_⟩; go_big_quiet_on)))
                                    refine wpQuiet_unguard rfl ?_
                                    repeat (first | go_big_quiet_skip | (go_big_quiet_want; go_big_quiet_op; first | go_big_quiet_on | (refine ⟨_, fun _ _ => rfl, ?_⟩; go_big_quiet_on)))
                                    refine wpQuiet_load_cell rfl 3 (.tmp 140) rfl w10.heap.size 1 rfl _ Tryd.underlying3 rfl (.int .i64 a.d) (fun W hW => cell_keep (n := w14.heap.size) (ak_cell (Z14.out.below BB15.out) (i := 1) (by decide) (by decide)) (Z14.out.lt) hW) ?_
                                    simp only [Act.put, List.setIfInBounds_toArray, List.set_cons_succ, List.set_cons_zero]
                                    repeat (first | go_big_quiet_skip | (go_big_quiet_want; go_big_quiet_op; first | go_big_quiet_on | (refine ⟨_, fun _ _ => rfl, ?_⟩; go_big_quiet_on)))
                                    refine wpQuiet_unguard rfl ?_
                                    repeat (first | go_big_quiet_skip | (go_big_quiet_want; go_big_quiet_op; first | go_big_quiet_on | (refine ⟨_, fun _ _ => rfl, ?_⟩; go_big_quiet_on)))
                                    refine wpQuiet_load_cell rfl 3 (.tmp 142) rfl w8.heap.size 0 rfl _ Tryd.underlying3 rfl (.int .i64 y.dev) (fun W hW => cell_keep (n := w14.heap.size) ((Y14.out.below BB15.out).cell (i := 0) (by decide)) (Y14.out.lt) hW) ?_
                                    simp only [Act.put, List.setIfInBounds_toArray, List.set_cons_succ, List.set_cons_zero]
                                    repeat (first | go_big_quiet_skip | (go_big_quiet_want; go_big_quiet_op; first | go_big_quiet_on | (refine ⟨_, fun _ _ => rfl, ?_⟩; go_big_quiet_on)))
                                    refine wpQuiet_unguard rfl ?_
                                    repeat (first | go_big_quiet_skip | (go_big_quiet_want; go_big_quiet_op; first | go_big_quiet_on | (refine ⟨_, fun _ _ => rfl, ?_⟩; go_big_quiet_on)))
                                    refine wpQuiet_load_cell rfl 3 (.tmp 147) rfl w10.heap.size 3 rfl _ Tryd.underlying3 rfl (.int .i64 a.u) (fun W hW => cell_keep (n := w14.heap.size) (ak_cell (Z14.out.below BB15.out) (i := 3) (by decide) (by decide)) (Z14.out.lt) hW) ?_
                                    simp only [Act.put, List.setIfInBounds_toArray, List.set_cons_succ, List.set_cons_zero]
                                    repeat (first | go_big_quiet_skip | (go_big_quiet_want; go_big_quiet_op; first | go_big_quiet_on | (refine ⟨_, fun _ _ => rfl, ?_⟩; go_big_quiet_on)))
                                    refine wpQuiet_nil ?_
                                    refine Tc.plan_one 35 rfl (fun K hK => ?_)
                                    refine wpList_skip rfl ?_
                                    refine (show wpList _ _ _ [] _ _ from hK _ _ (keep_below (Below.refl _ _)) ?_)
                                    dsimp only [Act.put]
                                    simp only [List.setIfInBounds_toArray, List.set_cons_succ, List.set_cons_zero]
                                    clear hK K
                                    refine Tc.plan_floats [36, 37] [_, _] rfl ?_
                                    dsimp only [List.getElem_toArray, List.getElem_cons_succ, List.getElem_cons_zero]
                                    simp only [List.set_cons_succ, List.set_cons_zero]
                                    repeat (first | go_big_quiet_skip | (go_big_quiet_want; go_big_quiet_op; first | go_big_quiet_on | (refine ⟨_, fun _ _ => rfl, ?_⟩; go_big_quiet_on)))
                                    refine wpQuiet_nil ?_
                                    refine Tc.plan_done (l := [_]) rfl (fun K hK => ?_)
                                    go_wp2_with fail
                                    have G15 := Lib.hid (G14.out.below BB15.out)
                                    go_roundg (gk - 1)
                                    case measure => have := DL.out; omega
                                    case rel =>
                                      go_light
                                      exact ⟨d + 1, by have := DL.out; omega, by rw [AT.out, CF.out], by go_num, G15⟩
                                · have e3 : (a.d == y.dev) = false := by simpa using h3
                                  have CF := Lib.hid (CP true true false _ _ (by simpa using h1) (by simpa using h2) (by simpa using h3) rfl rfl)
                                  rw [show ((true && true && false && decide ((k : Int) < a.u)) && verB y.ver (msgA a) a.r a.g) = false from Bool.false_and _] at CF
                                  clear CP h1 h2 h3
                                  refine Tc.wp_region_plan (keep w14.heap.size) 38 [] (.fl 0 (.fl 1 (.fl 2 (.fl 3 (.fl 4 (.fl 5 (.fl 6 (.fl 7 (.fl 8 (.fl 9 (.fl 10 (.fl 11 (.fl 12 (.fl 13 (.fl 14 (.fl 15 (.fl 16 (.fl 17 (.fl 18 (.fl 19 (.fl 20 (.fl 21 (.fl 22 (.fl 23 (.fl 24 (.fl 25 (.fl 26 (.fl 27 (.fl 28 (.fl 29 (.fl 30 (.fl 31 (.fl 32 (.fl 33 (.fl 34 (.one 35 (.fl 36 (.fl 37 .done)))))))))))))))))))))))))))))))))))))) (by kernel_rfl) (by kernel_rfl) ?_
                                  intro w15 b15 e15
                                  have BB15 : Hid (Below w14.heap.size w14 w15) := Lib.hid b15
                                  clear b15 e15
                                  refine Tc.plan_floats [0, 1, 2, 3, 4, 5, 6, 7, 8, 9, 10, 11, 12, 13, 14, 15, 16, 17, 18, 19, 20, 21, 22, 23, 24, 25, 26, 27, 28, 29, 30, 31, 32, 33, 34] [_, _, _, _, _, _, _, _, _, _, _, _, _, _, _, _, _, _, _, _, _, _, _, _, _, _, _, _, _, _, _, _, _, _, _] rfl ?_
                                  dsimp only [List.getElem_toArray, List.getElem_cons_succ, List.getElem_cons_zero]
                                  repeat (first | go_big_quiet_skip | (go_big_quiet_want; go_big_quiet_op; first | go_big_quiet_on | (refine ⟨_, fun _ _ => rfl, ?_⟩; go_big_quiet_on)))
                                  refine wpQuiet_unguard rfl ?_
                                  repeat (first | go_big_quiet_skip | (go_big_quiet_want; go_big_quiet_op; first | go_big_quiet_on | (refine ⟨_, fun _ _ => rfl, ?_⟩; go_big_quiet_on)))
                                  refine wpQuiet_load_cell rfl 3 (.tmp 128) rfl w10.heap.size 0 rfl _ Tryd.underlying3 rfl (.int .i64 a.f) (fun W hW => cell_keep (n := w14.heap.size) (ak_cell (Z14.out.below BB15.out) (i := 0) (by decide) (by decide)) (Z14.out.lt) hW) ?_
                                  simp only [Act.put, List.setIfInBounds_toArray, List.set_cons_succ, List.set_cons_zero]
                                  repeat (first | go_big_quiet_skip | (go_big_quiet_want; go_big_quiet_op; first | go_big_quiet_on | (refine ⟨_, fun _ _ => rfl, ?_⟩; go_big_quiet_on)))
                                  refine wpQuiet_unguard rfl ?_
                                  repeat (first | go_big_quiet_skip | (go_big_quiet_want; go_big_quiet_op; first | go_big_quiet_on | (refine ⟨_, fun _ _ => rfl, ?_⟩; go_big_quiet_on)))
                                  refine wpQuiet_load_cell rfl 3 (.tmp 134) rfl w10.heap.size 2 rfl _ Tryd.underlying3 rfl (.int .i64 a.s) (fun W hW => cell_keep (n := w14.heap.size) (ak_cell (Z14.out.below BB15.out) (i := 2) (by decide) (by decide)) (Z14.out.lt) hW) ?_
                                  simp only [Act.put, List.setIfInBounds_toArray, List.set_cons_succ, List.set_cons_zero]
                                  repeat (first | go_big_quiet_skip | (go_big_quiet_want; go_big_quiet_op; first | go_big_quiet_on | (refine ⟨_, fun _ _ => rfl, ?_⟩; go_big_quiet_on)))
                                  refine wpQuiet_unguard rfl ?_
                                  repeat (first | go_big_quiet_skip | (go_big_quiet_want; go_big_quiet_op; first | go_big_quiet_on | (refine ⟨_, fun _ _ => rfl, ?_⟩; go_big_quiet_on)))
                                  refine wpQuiet_load_cell rfl 3 (.tmp 140) rfl w10.heap.size 1 rfl _ Tryd.underlying3 rfl (.int .i64 a.d) (fun W hW => cell_keep (n := w14.heap.size) (ak_cell (Z14.out.below BB15.out) (i := 1) (by decide) (by decide)) (Z14.out.lt) hW) ?_
                                  simp only [Act.put, List.setIfInBounds_toArray, List.set_cons_succ, List.set_cons_zero]
                                  repeat (first | go_big_quiet_skip | (go_big_quiet_want; go_big_quiet_op; first | go_big_quiet_on | (refine ⟨_, fun _ _ => rfl, ?_⟩; go_big_quiet_on)))
                                  refine wpQuiet_unguard rfl ?_
                                  repeat (first | go_big_quiet_skip | (go_big_quiet_want; go_big_quiet_op; first | go_big_quiet_on | (refine ⟨_, fun _ _ => rfl, ?_⟩; go_big_quiet_on)))
                                  refine wpQuiet_load_cell rfl 3 (.tmp 142) rfl w8.heap.size 0 rfl _ Tryd.underlying3 rfl (.int .i64 y.dev) (fun W hW => cell_keep (n := w14.heap.size) ((Y14.out.below BB15.out).cell (i := 0) (by decide)) (Y14.out.lt) hW) ?_
                                  simp only [Act.put, List.setIfInBounds_toArray, List.set_cons_succ, List.set_cons_zero]
                                  repeat (first | go_big_quiet_skip | (go_big_quiet_want; go_big_quiet_op; first | go_big_quiet_on | (refine ⟨_, fun _ _ => rfl, ?_⟩; go_big_quiet_on)))
                                  refine wpQuiet_nil ?_
                                  refine Tc.plan_one 35 rfl (fun K hK => ?_)
                                  refine wpList_skip rfl ?_
                                  refine (show wpList _ _ _ [] _ _ from hK _ _ (keep_below (Below.refl _ _)) ?_)
                                  dsimp only [Act.put]
                                  simp only [List.setIfInBounds_toArray, List.set_cons_succ, List.set_cons_zero]
                                  clear hK K
                                  refine Tc.plan_floats [36, 37] [_, _] rfl ?_
                                  dsimp only [List.getElem_toArray, List.getElem_cons_succ, List.getElem_cons_zero]
                                  simp only [List.set_cons_succ, List.set_cons_zero]
                                  repeat (first | go_big_quiet_skip | (go_big_quiet_want; go_big_quiet_op; first | go_big_quiet_on | (refine ⟨_, fun _ _ => rfl, ?_⟩; go_big_quiet_on)))
                                  refine wpQuiet_nil ?_
                                  refine Tc.plan_done (l := [_]) rfl (fun K hK => ?_)
                                  go_wp2_with fail
                                  have G15 := Lib.hid (G14.out.below BB15.out)
                                  go_roundg (gk - 1)
                                  case measure => have := DL.out; omega
                                  case rel =>
                                    go_light
                                    exact ⟨d + 1, by have := DL.out; omega, by rw [AT.out, CF.out], by go_num, G15⟩
                              · have e2 : (a.s == s) = false := by simpa using h2
                                have CF := Lib.hid (CP true false _ _ _ (by simpa using h1) (by simpa using h2) rfl rfl rfl)
                                rw [show ((true && false && decide (a.d = y.dev) && decide ((k : Int) < a.u)) && verB y.ver (msgA a) a.r a.g) = false from Bool.false_and _] at CF
                                clear CP h1 h2
                                refine Tc.wp_region_plan (keep w14.heap.size) 38 [] (.fl 0 (.fl 1 (.fl 2 (.fl 3 (.fl 4 (.fl 5 (.fl 6 (.fl 7 (.fl 8 (.fl 9 (.fl 10 (.fl 11 (.fl 12 (.fl 13 (.fl 14 (.fl 15 (.fl 16 (.fl 17 (.fl 18 (.fl 19 (.fl 20 (.fl 21 (.fl 22 (.fl 23 (.fl 24 (.fl 25 (.fl 26 (.fl 27 (.fl 28 (.fl 29 (.fl 30 (.fl 31 (.fl 32 (.fl 33 (.fl 34 (.one 35 (.fl 36 (.fl 37 .done)))))))))))))))))))))))))))))))))))))) (by kernel_rfl) (by kernel_rfl) ?_
                                intro w15 b15 e15
                                have BB15 : Hid (Below w14.heap.size w14 w15) := Lib.hid b15
                                clear b15 e15
                                refine Tc.plan_floats [0, 1, 2, 3, 4, 5, 6, 7, 8, 9, 10, 11, 12, 13, 14, 15, 16, 17, 18, 19, 20, 21, 22, 23, 24, 25, 26, 27, 28, 29, 30, 31, 32, 33, 34] [_, _, _, _, _, _, _, _, _, _, _, _, _, _, _, _, _, _, _, _, _, _, _, _, _, _, _, _, _, _, _, _, _, _, _] rfl ?_
                                dsimp only [List.getElem_toArray, List.getElem_cons_succ, List.getElem_cons_zero]
                                repeat (first | go_big_quiet_skip | (go_big_quiet_want; go_big_quiet_op; first | go_big_quiet_on | (refine ⟨_, fun _ _ => rfl, ?_⟩; go_big_quiet_on)))
                                refine wpQuiet_unguard rfl ?_
                                repeat (first | go_big_quiet_skip | (go_big_quiet_want; go_big_quiet_op; first | go_big_quiet_on | (refine ⟨_, fun _ _ => rfl, ?_⟩; go_big_quiet_on)))
                                refine wpQuiet_load_cell rfl 3 (.tmp 128) rfl w10.heap.size 0 rfl _ Tryd.underlying3 rfl (.int .i64 a.f) (fun W hW => cell_keep (n := w14.heap.size) (ak_cell (Z14.out.below BB15.out) (i := 0) (by decide) (by decide)) (Z14.out.lt) hW) ?_
                                simp only [Act.put, List.setIfInBounds_toArray, List.set_cons_succ, List.set_cons_zero]
                                repeat (first | go_big_quiet_skip | (go_big_quiet_want; go_big_quiet_op; first | go_big_quiet_on | (refine ⟨_, fun _ _ => rfl, ?_⟩; go_big_quiet_on)))
                                refine wpQuiet_unguard rfl ?_
                                repeat (first | go_big_quiet_skip | (go_big_quiet_want; go_big_quiet_op; first | go_big_quiet_on | (refine ⟨_, fun _ _ => rfl, ?_⟩; go_big_quiet_on)))
                                refine wpQuiet_load_cell rfl 3 (.tmp 134) rfl w10.heap.size 2 rfl _ Tryd.underlying3 rfl (.int .i64 a.s) (fun W hW => cell_keep (n := w14.heap.size) (ak_cell (Z14.out.below BB15.out) (i := 2) (by decide) (by decide)) (Z14.out.lt) hW) ?_
                                simp only [Act.put, List.setIfInBounds_toArray, List.set_cons_succ, List.set_cons_zero]
                                repeat (first | go_big_quiet_skip | (go_big_quiet_want; go_big_quiet_op; first | go_big_quiet_on | (refine ⟨_, fun _ _ => rfl, ?_⟩; go_big_quiet_on)))
                                refine wpQuiet_nil ?_
                                refine Tc.plan_one 35 rfl (fun K hK => ?_)
                                refine wpList_skip rfl ?_
                                refine (show wpList _ _ _ [] _ _ from hK _ _ (keep_below (Below.refl _ _)) ?_)
                                dsimp only [Act.put]
                                simp only [List.setIfInBounds_toArray, List.set_cons_succ, List.set_cons_zero]
                                clear hK K
                                refine Tc.plan_floats [36, 37] [_, _] rfl ?_
                                dsimp only [List.getElem_toArray, List.getElem_cons_succ, List.getElem_cons_zero]
                                simp only [List.set_cons_succ, List.set_cons_zero]
                                repeat (first | go_big_quiet_skip | (go_big_quiet_want; go_big_quiet_op; first | go_big_quiet_on | (refine ⟨_, fun _ _ => rfl, ?_⟩; go_big_quiet_on)))
                                refine wpQuiet_nil ?_
                                refine Tc.plan_done (l := [_]) rfl (fun K hK => ?_)
                                go_wp2_with fail
                                have G15 := Lib.hid (G14.out.below BB15.out)
                                go_roundg (gk - 1)
                                case measure => have := DL.out; omega
                                case rel =>
                                  go_light
                                  exact ⟨d + 1, by have := DL.out; omega, by rw [AT.out, CF.out], by go_num, G15⟩
                            · have e1 : (a.f == f) = false := by simpa using h1
                              have CF := Lib.hid (CP false _ _ _ _ (by simpa using h1) rfl rfl rfl rfl)
                              rw [show ((false && decide (a.s = s) && decide (a.d = y.dev) && decide ((k : Int) < a.u)) && verB y.ver (msgA a) a.r a.g) = false from Bool.false_and _] at CF
                              clear CP h1
                              refine Tc.wp_region_plan (keep w14.heap.size) 38 [] (.fl 0 (.fl 1 (.fl 2 (.fl 3 (.fl 4 (.fl 5 (.fl 6 (.fl 7 (.fl 8 (.fl 9 (.fl 10 (.fl 11 (.fl 12 (.fl 13 (.fl 14 (.fl 15 (.fl 16 (.fl 17 (.fl 18 (.fl 19 (.fl 20 (.fl 21 (.fl 22 (.fl 23 (.fl 24 (.fl 25 (.fl 26 (.fl 27 (.fl 28 (.fl 29 (.fl 30 (.fl 31 (.fl 32 (.fl 33 (.fl 34 (.one 35 (.fl 36 (.fl 37 .done)))))))))))))))))))))))))))))))))))))) (by kernel_rfl) (by kernel_rfl) ?_
                              intro w15 b15 e15
                              have BB15 : Hid (Below w14.heap.size w14 w15) := Lib.hid b15
                              clear b15 e15
                              refine Tc.plan_floats [0, 1, 2, 3, 4, 5, 6, 7, 8, 9, 10, 11, 12, 13, 14, 15, 16, 17, 18, 19, 20, 21, 22, 23, 24, 25, 26, 27, 28, 29, 30, 31, 32, 33, 34] [_, _, _, _, _, _, _, _, _, _, _, _, _, _, _, _, _, _, _, _, _, _, _, _, _, _, _, _, _, _, _, _, _, _, _] rfl ?_
                              dsimp only [List.getElem_toArray, List.getElem_cons_succ, List.getElem_cons_zero]
                              repeat (first | go_big_quiet_skip | (go_big_quiet_want; go_big_quiet_op; first | go_big_quiet_on | (refine ⟨_, fun _ _ => rfl, ?_⟩; go_big_quiet_on)))
                              refine wpQuiet_unguard rfl ?_
                              repeat (first | go_big_quiet_skip | (go_big_quiet_want; go_big_quiet_op; first | go_big_quiet_on | (refine ⟨_, fun _ _ => rfl, ?_⟩; go_big_quiet_on)))
                              refine wpQuiet_load_cell rfl 3 (.tmp 128) rfl w10.heap.size 0 rfl _ Tryd.underlying3 rfl (.int .i64 a.f) (fun W hW => cell_keep (n := w14.heap.size) (ak_cell (Z14.out.below BB15.out) (i := 0) (by decide) (by decide)) (Z14.out.lt) hW) ?_
                              simp only [Act.put, List.setIfInBounds_toArray, List.set_cons_succ, List.set_cons_zero]
                              repeat (first | go_big_quiet_skip | (go_big_quiet_want; go_big_quiet_op; first | go_big_quiet_on | (refine ⟨_, fun _ _ => rfl, ?_⟩; go_big_quiet_on)))
                              refine wpQuiet_nil ?_
                              refine Tc.plan_one 35 rfl (fun K hK => ?_)
                              refine wpList_skip rfl ?_
                              refine (show wpList _ _ _ [] _ _ from hK _ _ (keep_below (Below.refl _ _)) ?_)
                              dsimp only [Act.put]
                              simp only [List.setIfInBounds_toArray, List.set_cons_succ, List.set_cons_zero]
                              clear hK K
                              refine Tc.plan_floats [36, 37] [_, _] rfl ?_
                              dsimp only [List.getElem_toArray, List.getElem_cons_succ, List.getElem_cons_zero]
                              simp only [List.set_cons_succ, List.set_cons_zero]
                              repeat (first | go_big_quiet_skip | (go_big_quiet_want; go_big_quiet_op; first | go_big_quiet_on | (refine ⟨_, fun _ _ => rfl, ?_⟩; go_big_quiet_on)))
                              refine wpQuiet_nil ?_
                              refine Tc.plan_done (l := [_]) rfl (fun K hK => ?_)
                              go_wp2_with fail
                              have G15 := Lib.hid (G14.out.below BB15.out)
                              go_roundg (gk - 1)
                              case measure => have := DL.out; omega
                              case rel =>
                                go_light
                                exact ⟨d + 1, by have := DL.out; omega, by rw [AT.out, CF.out], by go_num, G15⟩
                          · have CF : Hid ((true || cntP y f s k a) = true) := Lib.hid rfl
                            refine Tc.wp_region_plan (keep w14.heap.size) 38 [] (.fl 0 (.fl 1 (.fl 2 (.fl 3 (.fl 4 (.fl 5 (.fl 6 (.fl 7 (.fl 8 (.fl 9 (.fl 10 (.fl 11 (.fl 12 (.fl 13 (.fl 14 (.fl 15 (.fl 16 (.fl 17 (.fl 18 (.fl 19 (.fl 20 (.fl 21 (.fl 22 (.fl 23 (.fl 24 (.fl 25 (.fl 26 (.fl 27 (.fl 28 (.fl 29 (.fl 30 (.fl 31 (.fl 32 (.fl 33 (.fl 34 (.one 35 (.fl 36 (.fl 37 .done)))))))))))))))))))))))))))))))))))))) (by kernel_rfl) (by kernel_rfl) ?_
                            intro w15 b15 e15
                            have BB15 : Hid (Below w14.heap.size w14 w15) := Lib.hid b15
                            clear b15 e15
                            refine Tc.plan_floats [0, 1, 2, 3, 4, 5, 6, 7, 8, 9, 10, 11, 12, 13, 14, 15, 16, 17, 18, 19, 20, 21, 22, 23, 24, 25, 26, 27, 28, 29, 30, 31, 32, 33, 34] [_, _, _, _, _, _, _, _, _, _, _, _, _, _, _, _, _, _, _, _, _, _, _, _, _, _, _, _, _, _, _, _, _, _, _] rfl ?_
                            dsimp only [List.getElem_toArray, List.getElem_cons_succ, List.getElem_cons_zero]
                            repeat (first | go_big_quiet_skip | (go_big_quiet_want; go_big_quiet_op; first | go_big_quiet_on | (refine ⟨_, fun _ _ => rfl, ?_⟩; go_big_quiet_on)))
                            refine wpQuiet_nil ?_
                            refine Tc.plan_one 35 rfl (fun K hK => ?_)
                            refine wpList_skip rfl ?_
                            refine (show wpList _ _ _ [] _ _ from hK _ _ (keep_below (Below.refl _ _)) ?_)
                            dsimp only [Act.put]
                            simp only [List.setIfInBounds_toArray, List.set_cons_succ, List.set_cons_zero]
                            clear hK K
                            refine Tc.plan_floats [36, 37] [_, _] rfl ?_
                            dsimp only [List.getElem_toArray, List.getElem_cons_succ, List.getElem_cons_zero]
                            simp only [List.set_cons_succ, List.set_cons_zero]
                            repeat (first | go_big_quiet_skip | (go_big_quiet_want; go_big_quiet_op; first | go_big_quiet_on | (refine ⟨_, fun _ _ => rfl, ?_⟩; go_big_quiet_on)))
                            refine wpQuiet_nil ?_
                            refine Tc.plan_done (l := [_]) rfl (fun K hK => ?_)
                            go_wp2_with fail
                            have G15 := Lib.hid (G14.out.below BB15.out)
                            go_roundg (gk - 1)
                            case measure => have := DL.out; omega
                            case rel =>
                              go_light
                              exact ⟨d + 1, by have := DL.out; omega, by rw [AT.out, CF.out], by go_num, G15⟩
                      · obtain rfl : ln = d := by omega
                        have d4 : decide ((ln : Int) < (ln : Int)) = false := by rw [decide_eq_false_iff_not]; omega
                        have d5 : decide (ln < ln) = false := by rw [decide_eq_false_iff_not]; omega
                        have AA := Lib.hid (any_all (m := y) (f := f) (s := s) (i := k) (l := l) HY.out)
                        rw [HLN.out] at AA
                        rw [AA.out]
                        have G10' := Lib.hid (G9.out.below (G10.out.b))
                        clear AA HY G10 G9 Y9 B9 HL9 T9 hld
                        go_wp2_with fail
                        go_roundg (g3 - 1)
                        case measure => have := CL.out; omega
                        case rel =>
                          go_light
                          exact ⟨c + 1, by have := CL.out; omega, by go_num, G10'⟩
                  · obtain rfl : mn = c := by omega
                    have d2 : decide ((mn : Int) < (mn : Int)) = false := by rw [decide_eq_false_iff_not]; omega
                    have d3 : decide (mn < mn) = false := by rw [decide_eq_false_iff_not]; omega
                    have G9 := Lib.hid (G7.out.below G8.out.b)
                    clear G8 G7 HM7 HL7 T7 hlc B7
                    go_wp2_with fail
                    go_roundg (g2 - 1)
                    case measure => have := KL.out; omega
                    case rel =>
                      go_light
                      exact ⟨k + 1, by have := KL.out; omega, by go_num, G9⟩
          · obtain rfl : en = k := by omega
            have d0 : decide ((en : Int) < (en : Int)) = false := by rw [decide_eq_false_iff_not]; omega
            have d1 : decide (en < en) = false := by rw [decide_eq_false_iff_not]; omega
            have B6 := Lib.hid (B5.out.trans (G6.out.b.mono B5.out.size))
            go_wp2_with fail
            go_ret
            exact ⟨rfl, B6.out⟩
  · have e1 : (decide (mn ≤ 6) && decide (ln ≤ 12) && decide (en ≤ 60)) = false := by
      rw [Bool.eq_false_iff]; intro h; simp only [Bool.and_eq_true, decide_eq_true_eq] at h; exact hfew ⟨h.1.1, h.1.2, h.2⟩
    rw [e1] at FEW
    clear e1 hfew hm hl he hmn hln hen gm gl ge wf ws hT
    go_enter Tryd.func4, Tryd.ntmps4
    have B0 := Lib.hid (Below.refl w.heap.size w)
    go_wp2_with fail
    refine (SN.out _ T0.out).mono ?_
    rintro e w1 ⟨rfl, b1⟩
    have B1 := Lib.hid (B0.out.trans (b1.mono B0.out.size))
    have T1 := Lib.hid (T0.out.below b1)
    clear b1 B0 T0
    go_wp2_with fail
    refine (FEW.out _).mono ?_
    rintro e w2 ⟨rfl, b2⟩
    have B2 := Lib.hid (B1.out.trans (b2.mono B1.out.size))
    have T2 := Lib.hid (T1.out.below b2)
    clear b2 B1 T1
    go_wp2_with fail
    go_ret
    exact ⟨rfl, B2.out⟩

set_option maxRecDepth 100000 in
set_option maxHeartbeats 1000000 in
theorem lifted (os : Os) (started : os.Started) (H : Type) (enc : TypeId × Value → H) :
    ReturnsInHanded {} Tryd.checked os 4 .any (fun w args => (Rows.acksProvesSpec.pre enc Tryd.prog Tryd.f4 [] false w args ∧ laidMetH Tryd.prog laidL w) ∧ sizedMet enc Tryd.prog Tryd.f4 (OpenSpec.ofChange Rows.acksProvesSpec) false w args)
      (Rows.acksProvesSpec.post enc Tryd.prog Tryd.f4 false true false false) := by
  refine returnsInHanded_of_change_and (C := Tryd.checked) (X := fun w _ => laidMetH Tryd.prog laidL w) (fun _ _ _ hh h => h.of_heap hh) own started (by kernel_rfl) Tryd.func4
    (ChangeSpec.witness_shaped (enc := enc) (C := Tryd.checked) (os := os) (X := fun w _ => laidMetH Tryd.prog laidL w) false (World.doorLaid Tryd.prog 19 os) #[.slice none 0 0, .int .i64 0, .int .i64 0, .slice none 0 0, .slice none 0 0] 8 rfl (World.shaped_of_RefB (by kernel_rfl) (by kernel_rfl)) (by kernel_rfl) (by kernel_rfl) (by kernel_rfl) (door_met os _)) ?_
  intro W base args ds gs before hval0 hW _ hsz hL _
  have hval : ∀ (j : Nat) t v, Tryd.f4.params[j]? = some t → args[j]? = some v → Value.okWide Tryd.prog W .any base t v := hval0
  have hW' := hW
  obtain ⟨p, q, hA0, hV, rfl, hfz, hnd⟩ := hW
  have hA : DataW.TrodAll enc Tryd.prog W 0 (fun _ => true) true Tryd.f4.params.toList args.toList ds p := hA0
  rw [Tryd.params4] at hA hval
  obtain ⟨v0, vs0, d0, ds0, p0, q0, hargs, rfl, rfl, h0, r0⟩ := trodAll_cons hA
  obtain ⟨v1, vs1, d1, ds1, p1, q1, rfl, rfl, rfl, h1, r1⟩ := trodAll_cons r0
  obtain ⟨v2, vs2, d2, ds2, p2, q2, rfl, rfl, rfl, h2, r2⟩ := trodAll_cons r1
  obtain ⟨v3, vs3, d3, ds3, p3, q3, rfl, rfl, rfl, h3, r3⟩ := trodAll_cons r2
  obtain ⟨v4, vs4, d4, ds4, p4, q4, rfl, rfl, rfl, h4, r4⟩ := trodAll_cons r3
  obtain ⟨rfl, rfl, rfl⟩ := trodAll_nil r4
  obtain rfl : args = #[v0, v1, v2, v3, v4] := by cases args; simp_all
  obtain ⟨rfl, rfl⟩ := trodVars_none hV
  have k0 := h0
  have lt0 : ∀ x ∈ p0, x.block < W.heap.size := by obtain ⟨m, hm⟩ := k0; exact DataW.trod_lt m _ _ _ hm
  obtain ⟨l0, g0, s0⟩ := slice_open (c := mbC) (good := Mb.wf) mb0 Tryd.underlying37 (show Tryd.prog.cellsOf 47 = 3 by kernel_rfl) (by decide) (fun n cs x h => trod_mem h) (hval 0 37 v0 rfl rfl) h0 (fun elems spare e => by
    have := sized_slice hsz (j := 0) (t := 37) (e := 47) (elems := elems) (spare := spare) (by kernel_rfl) (by rw [← e]; rfl) Tryd.underlying37
    rw [show Tryd.checked.prog.bytesOf 47 = 24 by kernel_rfl] at this; omega)
  obtain ⟨a1, rfl, rfl, rfl, w1⟩ := open_int Tryd.underlying3 (hval 1 3 v1 rfl rfl) h1
  obtain ⟨a2, rfl, rfl, rfl, w2⟩ := open_int Tryd.underlying3 (hval 2 3 v2 rfl rfl) h2
  have k3 := h3
  have lt3 : ∀ x ∈ p3, x.block < W.heap.size := by obtain ⟨m, hm⟩ := k3; exact DataW.trod_lt m _ _ _ hm
  obtain ⟨l3, g3, s3⟩ := slice_open (c := akC) (good := Ak.wf) ak0 Tryd.underlying38 (show Tryd.prog.cellsOf 27 = 38 by kernel_rfl) (by decide) (fun n cs x h => trod_ack h) (hval 3 38 v3 rfl rfl) h3 (fun elems spare e => by
    have := sized_slice hsz (j := 3) (t := 38) (e := 27) (elems := elems) (spare := spare) (by kernel_rfl) (by rw [← e]; rfl) Tryd.underlying38
    rw [show Tryd.checked.prog.bytesOf 27 = 80 by kernel_rfl] at this; omega)
  have k4 := h4
  have lt4 : ∀ x ∈ p4, x.block < W.heap.size := by obtain ⟨m, hm⟩ := k4; exact DataW.trod_lt m _ _ _ hm
  obtain ⟨l4, g4, s4⟩ := slice_open (c := enC) (good := fun _ : En => True) en0 Tryd.underlying39 (show Tryd.prog.cellsOf 45 = 35 by kernel_rfl) (by decide) (fun n cs x h => trod_ent h) (hval 4 39 v4 rfl rfl) h4 (fun elems spare e => by
    have := sized_slice hsz (j := 4) (t := 39) (e := 45) (elems := elems) (spare := spare) (by kernel_rfl) (by rw [← e]; rfl) Tryd.underlying39
    rw [show Tryd.checked.prog.bytesOf 45 = 72 by kernel_rfl] at this; omega)
  have hT := tab_of_laid hL
  clear hA0 hval0 hsz hL
  simp only [List.append_nil] at hW'
  refine (walk v0 l0 g0 s0 a1 w1 a2 w2 v3 l3 g3 s3 v4 l4 g4 s4 hT).mono fun e W' ⟨he, hg⟩ => ?_
  subst he
  exact ⟨_, rfl, _, _, _, [], _, [], hW', trodAll_mk1 (shut_bool Tryd.underlying4 _), (trodAll_cons_mk (Below.trod laidOut (by kernel_rfl) (of_decide_eq_true (by kernel_rfl)) k0 hg lt0) (trodAll_cons_mk (shut_int Tryd.underlying3 w1) (trodAll_cons_mk (shut_int Tryd.underlying3 w2) (trodAll_cons_mk (Below.trod laidOut (by kernel_rfl) (of_decide_eq_true (by kernel_rfl)) k3 hg lt3) (trodAll_cons_mk (Below.trod laidOut (by kernel_rfl) (of_decide_eq_true (by kernel_rfl)) k4 hg lt4) trodAll_mk0))))), rfl, hg.frame _, fun h => by cases h⟩

theorem over : Rows.acksProvesRow.holds Tryd.pinned (OpenSpec.ofChange Rows.acksProvesSpec) :=
  OpenClaim.holds_of_wide 4 Tryd.f4 rfl rfl rfl rfl rfl rfl rfl ⟨rfl, rfl, rfl, rfl, rfl⟩ rfl rfl rfl rfl rfl (by kernel_rfl) Tryd.func4 (by kernel_rfl)
    (of_decide_eq_true (by kernel_rfl)) (by unfold Func.isWrapper; first | (rw [if_pos (by decide +kernel)]; kernel_rfl) | (rw [if_neg (by decide +kernel)]; exact ⟨rfl, rfl⟩))
    (fun os started H enc _ => lifted os started H enc)

end Go.Proofs.YtbjbgneejdjniaaDoor.acksProves
namespace Go.Proofs.YtbjbgneejdjniaaDoor
set_option maxRecDepth 100000 in
theorem acksProves_holds : Rows.AcksProvesCardSaid :=
  Claim7.holds_tied_plain_at .later [] [.data, .data] true _ true
    acksProves.over (fun _ h => by cases h) (by kernel_rfl) (fun _ h => by cases h) acksProves_row_tie rfl ⟨rfl, rfl⟩ (by kernel_rfl) rfl
    (fun f fn hf hfn => by
      obtain rfl : f = 4 := Option.some.inj ((show Tryd.prog.funcNamed "chartroom/chartroomlaw33.AcksProves" = some 4 by kernel_rfl).symm.trans hf) |>.symm
      obtain rfl : fn = Tryd.f4 := (Option.some.inj (Tryd.func4.symm.trans hfn)).symm
      exact ⟨by kernel_rfl, fun j t ht => by
        rw [Tryd.params4] at ht
        have hm : t ∈ [37, 3, 3, 38, 39] := by simpa using Array.mem_of_getElem? ht
        have hall : ([37, 3, 3, 38, 39].all fun u => !Tryd.prog.wantsStandIn u) = true := by kernel_rfl
        exact (show Tryd.prog.wantsStandIn t = false by simpa using List.all_eq_true.1 hall t hm)⟩)
    (by kernel_rfl)
#print axioms acksProves_holds
end Go.Proofs.YtbjbgneejdjniaaDoor
