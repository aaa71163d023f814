/- AcksEncodeSpec returns true for every input. No condition beyond the card's own: the two tables of package digest are tied to the program's text. -/
import Derived.Test.YtbjbgneejdjniaaDoorPk49
import Derived.Test.YtbjbgneejdjniaaDoorPk53
import Derived.Test.YtbjbgneejdjniaaDoorPk45
import Derived.Test.YtbjbgneejdjniaaDoorCards
namespace Go.Proofs.YtbjbgneejdjniaaDoor.acksEncodeSpec
open Go.ChangeShapes Go.WideShapes Go.ChangeAt Go.RowKit
open Go.ChangeMaps (open_string shut_string)
set_option linter.unusedVariables false
set_option linter.unusedSimpArgs false

def encL (a : Ak) : List UInt8 := if okA a then encA a [a.r, a.g] else []
def encE (a : Ak) : Int := if okA a then 0 else 330
theorem encL_len (a : Ak) (ha : a.wf) : (encL a).length ≤ 2000 := by
  unfold encL
  split
  · exact encA_rg_len ha
  · exact Nat.zero_le _
theorem enc_text {a : Ak} (ha : a.wf) {w w' : World} {e : Ending} (h : AEncPost a w e w') :
    (∃ x c, e = .returned (.tuple #[.slice x (encL a).length c, .int .i64 (encE a)]) ∧ BytesAt w' (.slice x (encL a).length c) (encL a)) ∧ Below w.heap.size w w' := by
  have L := encL_len a ha
  unfold AEncPost at h
  by_cases ok : okA a = true
  · have e1 : encL a = encA a [a.r, a.g] := by unfold encL; rw [if_pos ok]
    have e2 : encE a = 0 := by unfold encE; rw [if_pos ok]
    rw [if_pos ok] at h
    rw [e1] at L
    rw [e1, e2]
    obtain ⟨⟨u, rfl, o⟩, b⟩ := h
    have y := o.bytesAt (by omega)
    obtain ⟨x, c, rfl⟩ := y.slice
    exact ⟨⟨x, c, rfl, y⟩, b⟩
  · have e1 : encL a = [] := by unfold encL; rw [if_neg ok]
    have e2 : encE a = 330 := by unfold encE; rw [if_neg ok]
    rw [if_neg ok] at h
    rw [e1, e2]
    obtain ⟨rfl, b⟩ := h
    exact ⟨⟨none, 0, rfl, .inl ⟨⟨none, 0, rfl, fun _ => rfl⟩, rfl⟩⟩, b⟩
set_option maxRecDepth 100000 in
set_option maxHeartbeats 8000000 in
theorem walk {w : World} (a : Ak) (ha : a.wf) (v : Value) (l : List UInt8) (hv : BytesAt w v l) (hs : ∃ x cap, v = .slice x l.length cap) (hT : Tab w) :
    Calls Tryd.prog 3 #[.agg (rowF 38 (akC a)), v] w fun e w' => e = .returned (.bool true) ∧ Below w.heap.size w w' := by
  obtain ⟨xa, cap, rfl⟩ := hs
  have V := Lib.hid hv
  have T0 := Lib.hid hT
  have S := Lib.hid (fun W (h : Tab W) => sane33_any W h)
  have E := Lib.hid (fun W => (aencode_any a ha W).mono (fun e w' h => enc_text ha h))
  have R := Lib.hid (fun W => (rencode33_any a ha W).mono (fun e w' h => enc_text ha h))
  have LE := Lib.hid (encL_len a ha)
  obtain ⟨el, hel⟩ : ∃ y, encL a = y := ⟨_, rfl⟩
  obtain ⟨ee, hee⟩ : ∃ y, encE a = y := ⟨_, rfl⟩
  rw [hel] at LE
  simp only [hel, hee] at E R
  obtain ⟨n, hln⟩ : ∃ y, l.length = y := ⟨_, rfl⟩
  have HN := Lib.hid hln
  obtain ⟨m, hlm⟩ : ∃ y, el.length = y := ⟨_, rfl⟩
  have HM := Lib.hid hlm
  rw [hln] at V ⊢
  rw [hlm] at LE E R
  clear hel hee hln hlm hv hT ha
  by_cases hn : n ≤ 300
  · have LN := Lib.hid hn
    have d1 : decide (300 < (n : Int)) = false := by rw [decide_eq_false_iff_not]; omega
    have d2 : decide (300 < n) = false := by rw [decide_eq_false_iff_not]; omega
    clear hn
    go_enter Tryd.func3, Tryd.ntmps3
    have B0 := Lib.hid (Below.refl w.heap.size w)
    go_upto_region 1 with fail
    obtain ⟨w1, hw1⟩ : ∃ y, w.alloc (.cells (rowF 38 (akC a)) 27) = y := ⟨_, rfl⟩
    have b1 : Below w.heap.size w w1 := by rw [← hw1]; exact (Below.refl _ _).alloc (Nat.le_refl _) _
    have A1 : Hid (RowV w1 w.heap.size 27 38 (akC a)) := Lib.hid (by rw [← hw1]; exact RowV.new w _ 38 (akC a))
    have z1 : w.heap.size + 1 = w1.heap.size := by rw [← hw1]; exact (Array.size_push _).symm
    rw [hw1]
    (try rw [z1])
    have B1 := Lib.hid (B0.out.trans (b1.mono B0.out.size))
    have T1 := Lib.hid (T0.out.below b1)
    clear b1 hw1 z1 B0 T0
    go_wp2_with fail
    refine (S.out _ T1.out).mono ?_
    rintro e w2 ⟨rfl, b2⟩
    have B2 := Lib.hid (B1.out.trans (b2.mono B1.out.size))
    have T2 := Lib.hid (T1.out.below b2)
    have A2 := Lib.hid (A1.out.below b2)
    clear b2 B1 T1 A1
    go_wp2_with (first | ((with_reducible (show wpList _ _ _ (Oper.mk (some 21) _ _ _ _ _ :: _) _ _)); refine wpList_load_rowV rfl 27 (.tmp 2) rfl w.heap.size rfl 38 27 _ A2.out _ Tryd.underlying27 rfl (by kernel_rfl) ?_))
    refine (E.out _).mono ?_
    rintro e w3 ⟨⟨x3, c3, rfl, y3⟩, b3⟩
    have P3 := Lib.hid y3
    have T3 := Lib.hid (T2.out.below b3)
    have A3 := Lib.hid (A2.out.below b3)
    have B3 := Lib.hid (B2.out.trans (b3.mono B2.out.size))
    clear y3 b3 T2 A2 B2 E S
    go_wp2_with (first | ((with_reducible (show wpList _ _ _ (Oper.mk (some 26) _ _ _ _ _ :: _) _ _)); refine wpList_load_rowV rfl 27 (.tmp 2) rfl w.heap.size rfl 38 27 _ A3.out _ Tryd.underlying27 rfl (by kernel_rfl) ?_))
    refine (R.out _).mono ?_
    rintro e w4 ⟨⟨x4, c4, rfl, y4⟩, b4⟩
    have Y4 := Lib.hid y4
    have P4 := Lib.hid (P3.out.below b4)
    have B4 := Lib.hid (B3.out.trans (b4.mono B3.out.size))
    clear y4 b4 T3 A3 B3 P3 R
    have t1 := run_text P4.out
    have t2 := run_text Y4.out
    have he : ((ByteArray.mk el.toArray).toList == (ByteArray.mk el.toArray).toList) = true := by simp
    have he2 : ((ByteArray.mk el.toArray).toList != (ByteArray.mk el.toArray).toList) = false := by simp
    have he3 : (ee != ee) = false := by simp
    obtain ⟨tx, htx⟩ : ∃ y, ByteArray.mk el.toArray = y := ⟨_, rfl⟩
    rw [htx] at t1 t2 he he2
    clear htx
    go_upto_region 9 with fail
    clear t1 t2 he he2 he3 P4
    go_upto_region 10 with fail
    obtain ⟨w5, hw5⟩ : ∃ y, w4.alloc (.cells #[.slice xa n cap, .slice x4 m c4] 28) = y := ⟨_, rfl⟩
    have b5 : Below w4.heap.size w4 w5 := by rw [← hw5]; exact (Below.refl _ _).alloc (Nat.le_refl _) _
    have Q5 : Hid (RowV w5 w4.heap.size 28 2 (fun i => if i = 0 then Value.slice xa n cap else Value.slice x4 m c4)) := Lib.hid (by rw [← hw5]; exact RowV.new w4 _ 2 (fun i => if i = 0 then Value.slice xa n cap else Value.slice x4 m c4))
    have z5 : w4.heap.size + 1 = w5.heap.size := by rw [← hw5]; exact (Array.size_push _).symm
    rw [hw5]
    (try rw [z5])
    have B5 := Lib.hid (B4.out.trans (b5.mono B4.out.size))
    have Y5 := Lib.hid (Y4.out.below b5)
    clear b5 hw5 z5 B4 Y4
    clear d1 d2
    go_loopg [44] 2 (fun g s44 wx => ∃ k : Nat, k + g = 2 ∧ s44 = .int .i64 (k : Int) ∧ Hid (Below w5.heap.size w5 wx))
    case atStart => exact ⟨0, by omega, rfl, Lib.hid (Below.refl _ _)⟩
    case round =>
      obtain ⟨k, hk, rfl, B10⟩ := hrel
      obtain ⟨w10, rfl⟩ : ∃ y, y = wr := ⟨_, rfl⟩
      by_cases hk2 : k < 2
      · obtain ⟨bx, bn, bc, bl, C0, G10, L10⟩ : ∃ (x : Option Addr) (p c : Nat) (z : List UInt8), Hid (w10.cell? ⟨w4.heap.size, k, none⟩ = some (.slice x p c)) ∧ Hid (BytesAt w10 (.slice x p c) z) ∧ Hid (z.length = p ∧ p ≤ 1000000) := by
          have q := Q5.out.below B10.out
          by_cases h0 : k = 0
          · subst h0
            exact ⟨xa, n, cap, l, Lib.hid (q.cell (i := 0) (by decide)), Lib.hid (V.out.below (B5.out.trans (B10.out.mono B5.out.size))), Lib.hid ⟨HN.out, by have := LN.out; omega⟩⟩
          · obtain rfl : k = 1 := by omega
            exact ⟨x4, m, c4, el, Lib.hid (q.cell (i := 1) (by decide)), Lib.hid (Y5.out.below B10.out), Lib.hid ⟨HM.out, by have := LE.out; omega⟩⟩
        have c0 := C0.out
        have BL : bl.length ≤ 1000000 := by have := L10.out; omega
        have D1 := Lib.hid (fun W (h : BytesAt W (.slice bx bn bc) bl) => adecode_any _ bl W h BL)
        have D2 := Lib.hid (fun W (h : BytesAt W (.slice bx bn bc) bl) => rdecode33_any _ bl W h BL)
        have WV := Lib.hid (adecV_wf bl BL)
        obtain ⟨ev, hev⟩ : ∃ y, adecV bl = y := ⟨_, rfl⟩
        obtain ⟨ed, hed⟩ : ∃ y, adecE bl = y := ⟨_, rfl⟩
        rw [hev] at D1 D2 WV
        rw [hed] at D1 D2
        have NE : ∀ W, (binOp .neq 27 (.agg (rowF 38 (akC ev))) (.agg (rowF 38 (akC ev)))).run Tryd.prog W = .ok (.bool false) W := fun W => by rw [neq_ack ev ev WV.out.ch WV.out.ch, akB_self]; rfl
        have GU : ∀ x y W, (eqGuard .neq 27 x y (.agg (rowF 38 (akC ev))) (.agg (rowF 38 (akC ev)))).run Tryd.prog W = .ok () W := fun x y W => guard_ack _ x y _ _ W
        have d0 : decide ((k : Int) < 2) = true := by rw [decide_eq_true_iff]; omega
        have z1 : (0 : Int) ≤ (k : Int) := Int.natCast_nonneg k
        have z2 : (k : Int) < 2 := by omega
        have p0 : 0 ≤ (k : Int) ∧ (k : Int) < 2 := by omega
        have z3 : ((k : Int)).toNat = k := Int.toNat_natCast k
        have HK := Lib.hid hk2
        clear hev hed BL hk2
        go_upto_region 12 with fail
        clear c0 C0 d0 z1 z2 p0 z3
        go_wp2_with fail
        refine (D1.out _ G10.out).mono ?_
        rintro e w11 ⟨rfl, b11⟩
        have B11 := Lib.hid (B10.out.trans (b11.mono B10.out.size))
        have G11 := Lib.hid (G10.out.below b11)
        clear b11 B10 G10
        have Zr := Lib.hid (RowV.new w11 27 38 (akC ak0))
        go_upto_region 13 with ((with_reducible (show wpList _ _ _ (Oper.mk none _ _ _ _ _ :: _) _ _)); refine wpList_store_rowV (o := ⟨none, .store 27 (.tmp 11) (.tmp 51), _, _, _, _⟩) rfl 27 (.tmp 11) (.tmp 51) rfl w11.heap.size rfl 38 27 _ (akC ev) rfl Zr.out (by kernel_rfl) (fun j _ => akC_one ev j) ?_; intro w12 X12 o12)
        have b12 : Below w11.heap.size w11 w12 := ((Below.refl _ _).alloc (Nat.le_refl _) _).trans (o12.out.below (Nat.le_refl _) (by rw [World.size_alloc]; omega))
        have B12 := Lib.hid (B11.out.trans (b12.mono B11.out.size))
        have G12 := Lib.hid (G11.out.below b12)
        clear b12 o12 Zr B11 G11
        go_wp2_with fail
        refine (D2.out _ G12.out).mono ?_
        rintro e w13 ⟨rfl, b13⟩
        have B13 := Lib.hid (B12.out.trans (b13.mono B12.out.size))
        have G13 := Lib.hid (G12.out.below b13)
        have X13 := Lib.hid (X12.out.below b13)
        clear b13 B12 G12 X12
        have Zr := Lib.hid (RowV.new w13 27 38 (akC ak0))
        go_upto_region 14 with ((with_reducible (show wpList _ _ _ (Oper.mk none _ _ _ _ _ :: _) _ _)); refine wpList_store_rowV (o := ⟨none, .store 27 (.tmp 13) (.tmp 56), _, _, _, _⟩) rfl 27 (.tmp 13) (.tmp 56) rfl w13.heap.size rfl 38 27 _ (akC ev) rfl Zr.out (by kernel_rfl) (fun j _ => akC_one ev j) ?_; intro w14 Z14 o14)
        have b14 : Below w13.heap.size w13 w14 := ((Below.refl _ _).alloc (Nat.le_refl _) _).trans (o14.out.below (Nat.le_refl _) (by rw [World.size_alloc]; omega))
        have B14 := Lib.hid (B13.out.trans (b14.mono B13.out.size))
        have G14 := Lib.hid (G13.out.below b14)
        have X14 := Lib.hid (X13.out.below b14)
        clear b14 o14 Zr B13 G13 X13
        go_wp2_with (first | ((with_reducible (show wpList _ _ _ (Oper.mk (some 58) _ _ _ _ _ :: _) _ _)); refine wpList_load_rowV rfl 27 (.tmp 11) rfl w11.heap.size rfl 38 27 _ X14.out _ Tryd.underlying27 rfl (by kernel_rfl) ?_) | ((with_reducible (show wpList _ _ _ (Oper.mk (some 59) _ _ _ _ _ :: _) _ _)); refine wpList_load_rowV rfl 27 (.tmp 13) rfl w13.heap.size rfl 38 27 _ Z14.out _ Tryd.underlying27 rfl (by kernel_rfl) ?_))
        go_roundg (gk - 1)
        case measure => have := HK.out; omega
        case rel =>
          go_light
          have := HK.out
          exact ⟨k + 1, by omega, by go_num, B14⟩
      · obtain rfl : k = 2 := by omega
        have d0 : decide (((2 : Nat) : Int) < 2) = false := by decide
        go_wp2_with fail
        go_ret
        exact ⟨rfl, B5.out.trans (B10.out.mono B5.out.size)⟩
  · have d1 : decide (300 < (n : Int)) = true := by rw [decide_eq_true_iff]; omega
    have d2 : decide (300 < n) = true := by rw [decide_eq_true_iff]; omega
    clear hn
    go_enter Tryd.func3, Tryd.ntmps3
    have B0 := Lib.hid (Below.refl w.heap.size w)
    go_upto_region 1 with fail
    obtain ⟨w1, hw1⟩ : ∃ y, w.alloc (.cells (rowF 38 (akC a)) 27) = y := ⟨_, rfl⟩
    have b1 : Below w.heap.size w w1 := by rw [← hw1]; exact (Below.refl _ _).alloc (Nat.le_refl _) _
    have A1 : Hid (RowV w1 w.heap.size 27 38 (akC a)) := Lib.hid (by rw [← hw1]; exact RowV.new w _ 38 (akC a))
    have z1 : w.heap.size + 1 = w1.heap.size := by rw [← hw1]; exact (Array.size_push _).symm
    rw [hw1]
    (try rw [z1])
    have B1 := Lib.hid (B0.out.trans (b1.mono B0.out.size))
    have T1 := Lib.hid (T0.out.below b1)
    clear b1 hw1 z1 B0 T0
    go_wp2_with fail
    refine (S.out _ T1.out).mono ?_
    rintro e w2 ⟨rfl, b2⟩
    have B2 := Lib.hid (B1.out.trans (b2.mono B1.out.size))
    have T2 := Lib.hid (T1.out.below b2)
    have A2 := Lib.hid (A1.out.below b2)
    clear b2 B1 T1 A1
    go_wp2_with fail
    go_ret
    exact ⟨rfl, B2.out⟩

set_option maxRecDepth 100000 in
set_option maxHeartbeats 1000000 in
theorem lifted (os : Os) (started : os.Started) (H : Type) (enc : TypeId × Value → H) :
    ReturnsInHanded {} Tryd.checked os 3 .any (fun w args => (Rows.acksEncodeSpecSpec.pre enc Tryd.prog Tryd.f3 [] false w args ∧ laidMetH Tryd.prog laidL w) ∧ sizedMet enc Tryd.prog Tryd.f3 (OpenSpec.ofChange Rows.acksEncodeSpecSpec) false w args)
      (Rows.acksEncodeSpecSpec.post enc Tryd.prog Tryd.f3 false true false false) := by
  refine returnsInHanded_of_change_and (C := Tryd.checked) (X := fun w _ => laidMetH Tryd.prog laidL w) (fun _ _ _ hh h => h.of_heap hh) own started (by kernel_rfl) Tryd.func3
    (ChangeSpec.witness_shaped (enc := enc) (C := Tryd.checked) (os := os) (X := fun w _ => laidMetH Tryd.prog laidL w) false (World.doorLaid Tryd.prog 19 os) #[.agg #[.int .i64 0, .int .i64 0, .int .i64 0, .int .i64 0, .int .u8 0, .int .u8 0, .int .u8 0, .int .u8 0, .int .u8 0, .int .u8 0, .int .u8 0, .int .u8 0, .int .u8 0, .int .u8 0, .int .u8 0, .int .u8 0, .int .u8 0, .int .u8 0, .int .u8 0, .int .u8 0, .int .u8 0, .int .u8 0, .int .u8 0, .int .u8 0, .int .u8 0, .int .u8 0, .int .u8 0, .int .u8 0, .int .u8 0, .int .u8 0, .int .u8 0, .int .u8 0, .int .u8 0, .int .u8 0, .int .u8 0, .int .u8 0, .int .i64 0, .int .i64 0], .slice none 0 0] 8 rfl (World.shaped_of_RefB (by kernel_rfl) (by kernel_rfl)) (by kernel_rfl) (by kernel_rfl) (by kernel_rfl) (door_met os _)) ?_
  intro W base args ds gs before hval0 hW _ hsz hL _
  have hval : ∀ (j : Nat) t v, Tryd.f3.params[j]? = some t → args[j]? = some v → Value.okWide Tryd.prog W .any base t v := hval0
  have hW' := hW
  obtain ⟨p, q, hA0, hV, rfl, hfz, hnd⟩ := hW
  have hA : DataW.TrodAll enc Tryd.prog W 0 (fun _ => true) true Tryd.f3.params.toList args.toList ds p := hA0
  rw [Tryd.params3] at hA hval
  obtain ⟨v0, vs0, d0, ds0, p0, q0, hargs, rfl, rfl, h0, r0⟩ := trodAll_cons hA
  obtain ⟨v1, vs1, d1, ds1, p1, q1, rfl, rfl, rfl, h1, r1⟩ := trodAll_cons r0
  obtain ⟨rfl, rfl, rfl⟩ := trodAll_nil r1
  obtain rfl : args = #[v0, v1] := by cases args; simp_all
  obtain ⟨rfl, rfl⟩ := trodVars_none hV
  have k0 := h0
  have lt0 : ∀ x ∈ p0, x.block < W.heap.size := by obtain ⟨m, hm⟩ := k0; exact DataW.trod_lt m _ _ _ hm
  obtain ⟨a0, wa0, rfl⟩ := ack_open (hval 0 27 v0 rfl rfl) h0
  have k1 := h1
  have lt1 : ∀ x ∈ p1, x.block < W.heap.size := by obtain ⟨m, hm⟩ := k1; exact DataW.trod_lt m _ _ _ hm
  obtain ⟨l1, b1, s1⟩ := bytes_open (hval 1 28 v1 rfl rfl) h1 (fun elems spare e => by
    have := sized_slice hsz (j := 1) (t := 28) (e := 5) (elems := elems) (spare := spare) (by kernel_rfl) (by rw [← e]; rfl) Tryd.underlying28
    rw [show Tryd.checked.prog.bytesOf 5 = 1 by kernel_rfl] at this; omega)
  have hT := tab_of_laid hL
  clear hA0 hval0 hsz hL
  simp only [List.append_nil] at hW'
  refine (walk a0 wa0 v1 l1 b1 s1 hT).mono fun e W' ⟨he, hg⟩ => ?_
  subst he
  exact ⟨_, rfl, _, _, _, [], _, [], hW', trodAll_mk1 (shut_bool Tryd.underlying4 _), (trodAll_cons_mk (Below.trod laidOut (by kernel_rfl) (of_decide_eq_true (by kernel_rfl)) k0 hg lt0) (trodAll_cons_mk (Below.trod laidOut (by kernel_rfl) (of_decide_eq_true (by kernel_rfl)) k1 hg lt1) trodAll_mk0)), rfl, hg.frame _, fun h => by cases h⟩

theorem over : Rows.acksEncodeSpecRow.holds Tryd.pinned (OpenSpec.ofChange Rows.acksEncodeSpecSpec) :=
  OpenClaim.holds_of_wide 3 Tryd.f3 rfl rfl rfl rfl rfl rfl rfl ⟨rfl, rfl, rfl, rfl, rfl⟩ rfl rfl rfl rfl rfl (by kernel_rfl) Tryd.func3 (by kernel_rfl)
    (of_decide_eq_true (by kernel_rfl)) (by unfold Func.isWrapper; first | (rw [if_pos (by decide +kernel)]; kernel_rfl) | (rw [if_neg (by decide +kernel)]; exact ⟨rfl, rfl⟩))
    (fun os started H enc _ => lifted os started H enc)

end Go.Proofs.YtbjbgneejdjniaaDoor.acksEncodeSpec
namespace Go.Proofs.YtbjbgneejdjniaaDoor
set_option maxRecDepth 100000 in
theorem acksEncodeSpec_holds : Rows.AcksEncodeSpecCardSaid :=
  Claim7.holds_tied_plain_at .later [] [.data, .data] true _ true
    acksEncodeSpec.over (fun _ h => by cases h) (by kernel_rfl) (fun _ h => by cases h) acksEncodeSpec_row_tie rfl ⟨rfl, rfl⟩ (by kernel_rfl) rfl
    (fun f fn hf hfn => by
      obtain rfl : f = 3 := Option.some.inj ((show Tryd.prog.funcNamed "chartroom/chartroomlaw33.AcksEncodeSpec" = some 3 by kernel_rfl).symm.trans hf) |>.symm
      obtain rfl : fn = Tryd.f3 := (Option.some.inj (Tryd.func3.symm.trans hfn)).symm
      exact ⟨by kernel_rfl, fun j t ht => by
        rw [Tryd.params3] at ht
        have hm : t ∈ [27, 28] := by simpa using Array.mem_of_getElem? ht
        have hall : ([27, 28].all fun u => !Tryd.prog.wantsStandIn u) = true := by kernel_rfl
        exact (show Tryd.prog.wantsStandIn t = false by simpa using List.all_eq_true.1 hall t hm)⟩)
    (by kernel_rfl)
#print axioms acksEncodeSpec_holds
end Go.Proofs.YtbjbgneejdjniaaDoor
