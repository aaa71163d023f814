/- EnrollExact returns true for every input. No condition beyond the card's own: the two tables of package digest and the variable errorType of package errors are tied to the program's text. -/
import Derived.Test.YtpekhdahamloaaaGreatDoorPk52
import Derived.Great.BuildSlice
import Derived.Great.FillDense
import Derived.Test.YtpekhdahamloaaaGreatDoorPk40
import Derived.Test.YtpekhdahamloaaaGreatDoorCards
namespace Go.Proofs.YtpekhdahamloaaaGreatDoor.enrollExact
open Go.ChangeShapes Go.WideShapes Go.ChangeAt Go.RowKit
open Go.ChangeMaps (open_string shut_string)
set_option linter.unusedVariables false
set_option linter.unusedSimpArgs false

open Cod
/-- nothing that was there at w0 has changed -/
def Since (w0 w : World) : Prop := Below w0.heap.size w0 w
theorem Since.refl (w : World) : Since w w := Below.refl _ _
theorem Since.below {w0 w w' : World} (h : Since w0 w) (b : Below w.heap.size w w') : Since w0 w' := Below.trans h (b.mono (Below.size h))
theorem Since.le {w0 w : World} (h : Since w0 w) : w0.heap.size ≤ w.heap.size := Below.size h
theorem Since.b {w0 w : World} (h : Since w0 w) : Below w0.heap.size w0 w := h
theorem Since.app {w0 w w' : World} {v v' : Value} (h : Since w0 w) (st : AppStep w v w' v') (hb : ∀ k, v.ownBlock = some k → w0.heap.size ≤ k) : Since w0 w' := Below.trans h (below_app st (Below.size h) hb)
section
variable {α : Type} {T : TypeId} {s : Nat} {c : α → Nat → Value}
theorem fillT (hs : 0 < s) (d : α) (l : List α) (cells : Array Value) (hc : cells.size = l.length * s) :
    Instr.fill (fun i => some (i * s, s)) cells (((l.map fun b => Value.agg (rowF s (c b))).zipIdx 0).map fun x => (x.2, x.1)) = some (flatS s c l).toArray := by
  obtain ⟨r, hr, hsz, hk⟩ := Great.fill_dense hs (l.map fun b => Value.agg (rowF s (c b))) 0 cells
    (by intro v hv; obtain ⟨b, _, rfl⟩ := List.mem_map.1 hv; exact rowF_size _ _) (by rw [hc, List.length_map, Nat.zero_add]; exact Nat.le_refl _)
  rw [hr]; congr 1
  apply Array.ext_getElem?
  intro k
  rw [hk k, List.length_map, Nat.zero_add, Nat.zero_mul]
  by_cases h : k < l.length * s
  · rw [if_pos ⟨by omega, h⟩]
    have hi : k / s < l.length := (Nat.div_lt_iff_lt_mul hs).2 h
    have hm : k % s < s := Nat.mod_lt _ hs
    have hg := flatS_get d (s := s) (c := c) l (k / s) (k % s) hi hm
    rw [Nat.div_add_mod] at hg
    have e1 : (flatS s c l).toArray[k]? = (flatS s c l)[k]? := by simp
    rw [e1, hg, Nat.sub_zero, List.getElem?_map, List.getElem?_eq_getElem hi, Option.map_some, Option.bind_some]
    show (rowF s (c l[k / s]))[k % s]? = _
    rw [rowF_get hm, List.getD_eq_getElem?_getD, List.getElem?_eq_getElem hi]; rfl
  · rw [if_neg (by omega), Array.getElem?_eq_none (by omega), Array.getElem?_eq_none (by simp [flatS_len]; omega)]
theorem wpList_buildT {P : Program} {w : World} {ops : Array Oper} {rest : List Oper} {o : Oper} {a : Act} {Q : Exit → Act → World → Prop} (hg : o.guard = none) (t : TypeId) (n : Nat) (parts : Array (Nat × Operand))
    (ho : o.op = .buildSlice t n parts) (d : α) (l : List α) (hn : l.length = n) (h0 : 0 < n) (hn2 : n ≤ 1000) (hs0 : 0 < s) (hs2 : s ≤ 1000)
    (hp : (parts.toList.map fun (i, x) => (i, a.eval x)) = ((l.map fun b => Value.agg (rowF s (c b))).zipIdx 0).map fun x => (x.2, x.1))
    (hu : P.underlying t = some (.slice T)) (hs : (P.info? T).map (·.size) = some s) (hzz : ((P.info? T).bind (·.zero)).isSome = true)
    (h : ∀ w', Hid (OwnT T s c w' w.heap.size (.slice (some ⟨w.heap.size, 0, none⟩) n n) l) → Hid (Below w.heap.size w w') → Hid (w.heap.size < w'.heap.size) → wpList P ops Q rest (a.put o.dst (.slice (some ⟨w.heap.size, 0, none⟩) n n)) w') : wpList P ops Q (o :: rest) a w := by
  cases hie : P.info? T with
  | none => simp [hie] at hs
  | some ie =>
    simp only [hie, Option.map_some, Option.some.injEq, Option.bind_some] at hs hzz
    obtain ⟨zv, hz0⟩ := Option.isSome_iff_exists.1 hzz
    have hb : n * s ≤ 1000 * 1000 := Nat.mul_le_mul hn2 hs2
    have hpos : 0 < n * s := Nat.mul_pos h0 hs0
    refine wpList_buildSlice hg t T n parts ho (flatS s c l).toArray ie zv hu hie hz0 (by rw [hs]; omega) (by rw [hs]; omega) ?_ (h _ ?_ ((Below.refl _ w).alloc (Nat.le_refl _) _) ?_)
    · rw [hs, Array.toList_map, hp]
      exact fillT hs0 d l _ (by simp [hn])
    · refine ⟨by rw [flatS_len, hn], .inr ⟨w.heap.size, n, (flatS s c l).toArray, by rw [hn], Nat.le_refl _, (MapKept.heap_alloc w _).1, by rw [hn]; exact Nat.le_refl _, by unfold maxLen; omega, by simp [flatS_len, hn], ?_⟩⟩
      show (flatS s c l).take (l.length * s) = _
      rw [List.take_of_length_le (by rw [flatS_len]; exact Nat.le_refl _)]
    · show w.heap.size < (w.alloc _).heap.size
      rw [World.size_alloc]; omega
end
def valR (b : Nat → Value) (j : Nat) : Value := b j
theorem CodAt.nums3 {w : World} {base : Nat} {v : Value} {x y z : Int} (hx : i64B x) (hy : i64B y) (hz : i64B z)
    (h : OwnT 59 4 valR w base v [valC 1 x ⟨#[]⟩ (.slice none 0 0), valC 1 y ⟨#[]⟩ (.slice none 0 0), valC 1 z ⟨#[]⟩ (.slice none 0 0)]) :
    CodAt w (.agg #[.int .i64 3, .int .i64 0, .string ByteArray.empty, v]) (lstT ([x, y, z].map numT)) := by
  refine .mk 3 0 ByteArray.empty v ([x, y, z].map numT) (fun i => [valC 1 x ⟨#[]⟩ (.slice none 0 0), valC 1 y ⟨#[]⟩ (.slice none 0 0), valC 1 z ⟨#[]⟩ (.slice none 0 0)].getD i zeroC) ⟨by decide, by decide⟩ ⟨by decide, by decide⟩ (by decide) (h.at' zeroC (by decide) (by decide) (by simp)) (fun i hi => ?_)
  have h3 : i < 3 := hi
  have hh : i = 0 ∨ i = 1 ∨ i = 2 := by omega
  rcases hh with rfl | rfl | rfl
  · exact (leafS (fun _ => True) w hx).at'
  · exact (leafS (fun _ => True) w hy).at'
  · exact (leafS (fun _ => True) w hz).at'
set_option maxRecDepth 100000 in
set_option maxHeartbeats 8000000 in
theorem exnum_any (x : Int) (w : World) :
    Calls Tryz.prog 25 #[.int .i64 x] w fun e w' => e = .returned (.agg (rowF 4 (valC 1 x ⟨#[]⟩ (.slice none 0 0)))) ∧ Below w.heap.size w w' := by
  go_enter Tryz.func25, Tryz.ntmps25
  have B0 := Lib.hid (Below.refl w.heap.size w)
  go_upto_region 1 with fail
  obtain ⟨w1, hw1⟩ : ∃ y, w.alloc (.cells #[.int .i64 0, .int .i64 0, .string ⟨#[]⟩, .slice none 0 0] 59) = y := ⟨_, rfl⟩
  have b1 : Below w.heap.size w w1 := by rw [← hw1]; exact (Below.refl _ _).alloc (Nat.le_refl _) _
  have V1 : Hid (RowV w1 w.heap.size 59 4 (valC 0 0 ⟨#[]⟩ (.slice none 0 0))) := Lib.hid (by rw [← hw1]; exact RowV.new w _ 4 (valC 0 0 ⟨#[]⟩ (.slice none 0 0)))
  have z1 : w.heap.size + 1 = w1.heap.size := by rw [← hw1]; exact (Array.size_push _).symm
  rw [hw1]
  (try rw [z1])
  have B1 := Lib.hid (B0.out.trans (b1.mono B0.out.size))
  clear b1 hw1 z1 B0
  go_wp2_with (first | ((with_reducible (show wpList _ _ _ (Oper.mk none _ _ _ _ _ :: _) _ _)); refine Hid.out ?_))
  refine Lib.hid ?_
  refine wpList_store_rowV (o := ⟨none, .store 59 (.tmp 2) (.tmp 4), _, _, _, _⟩) rfl 59 (.tmp 2) (.tmp 4) rfl w.heap.size rfl 4 59 _ (valC 1 x ⟨#[]⟩ (.slice none 0 0)) rfl V1.out (by kernel_rfl) (by intro j hj; match j, hj with | 0, _ => rfl | 1, _ => rfl | 2, _ => rfl | 3, _ => rfl) ?_
  intro w2 R2 O2
  go_wp2_with fail
  refine bodyPost_ret (v := .agg (rowF 4 (valC 1 x ⟨#[]⟩ (.slice none 0 0)))) (by exact results_rowV (fn := Tryz.f25) (p := 2) (ty := 59) rfl _ _ w.heap.size 4 59 _ _ rfl R2.out Tryz.underlying59 rfl (by kernel_rfl)) rfl ⟨rfl, ?_⟩
  exact B1.out.trans (O2.out.below (Nat.le_refl _) B1.out.size)
theorem rq_pf (q : Rq) : ∀ j, j < 32 → rqC q (4 + j) = dgF q.pf j := fun j _ => by
  unfold rqC dgF
  rw [if_neg (by omega), Nat.add_sub_cancel_left]
set_option maxRecDepth 100000 in
set_option maxHeartbeats 8000000 in
theorem walk {w : World} (s : Ss) (ws : s.wf) (q : Rq) (wq : q.wf) (v : Int) (wv : (Lit.int .i64 v).wf = true) (b : Int) (wb : (Lit.int .i64 b).wf = true) (x : Int) (wx : (Lit.int .i64 x).wf = true) (hT : Tab w) (hE : ErrT w) :
    Calls Tryz.prog 7 #[.agg (rowF 6 (ssC s)), .agg (rowF 36 (rqC q)), .int .i64 v, .int .i64 b, .int .i64 x] w fun e w' => e = .returned (.bool true) ∧ Below w.heap.size w w' := by
  have SN := Lib.hid (fun W (h : Tab W) (h2 : ErrT W) => sane38_any W h h2)
  have HT := Lib.hid hT; have HE := Lib.hid hE
  have HW := Lib.hid wq
  have c1 := fun W (h1 : Tab W) (h2 : ErrT W) => pans_any s q wq v b x (i64B_of wv) (i64B_of wb) W h1 h2
  have cc := fun W (h : Tab W) => pcertify_any 2 q.dv q.vf q.lf v b x ⟨show i64B 2 from ⟨by decide, by decide⟩, wq.dv, wq.vf, wq.lf, i64B_of wv, i64B_of wb, show i64B 0 from ⟨by decide, by decide⟩, show i64B 0 from ⟨by decide, by decide⟩⟩ W h
  have C0 := fun W => pcheck38_any s W
  have CO := fun W => powner_any q.dv W
  unfold ownV ownE at CO
  have K1 := fun W => check_any q.pt W
  have K2 := fun W => check_any q.vf W
  have K3 := fun W => check_any q.lf W
  unfold chk at K1 K2 K3
  have hpre : okSs s = true → ¬ s.t = 5 → s.d = false → fitsQ s q = true → crtE (certQ q v b) x = 0 → sharedE s.r s.c s.x q.pt = 0 ∧
      ((q.pf = wantL s q ∧ ansE s q v b x = 0 ∧ ansS s q v b x = ⟨s.r, s.c, s.x, s.p, s.t, true⟩ ∧ ansC s q v b x = crtV (certQ q v b) x) ∨
       (¬ q.pf = wantL s q ∧ ansE s q v b x = 380 ∧ ansS s q v b x = ⟨s.r, s.c, s.x, s.p, s.t + 1, s.d⟩ ∧ ansC s q v b x = ct0)) := fun h ht hd hf hc => by
    have p := pre_go h ht hd hf hc
    refine ⟨shared_of (q := q) (v := v) (b := b) (x := x) (chk_of h) (show (if fitsQ s q then (0 : Int) else 1) = 0 by rw [if_pos hf]), ?_⟩
    by_cases hw : q.pf = wantL s q
    · exact .inl ⟨hw, ans_yes p hw⟩
    · exact .inr ⟨hw, ans_no p hw⟩
  have FQ : fitsQ s q = (devB q.dv && decide (q.dv.tdiv 8 = s.p) && elemB q.pt && elemB q.vf && elemB q.lf) := rfl
  obtain ⟨e0, he0⟩ : ∃ y, chkSs s = y := ⟨_, rfl⟩
  have OK0 : e0 = 0 → okSs s = true := fun h => okSs_of (he0.trans h)
  rw [he0] at C0
  obtain ⟨fq, hfq⟩ : ∃ y, fitsQ s q = y := ⟨_, rfl⟩
  rw [hfq] at FQ hpre
  obtain ⟨db, hdb⟩ : ∃ y, devB q.dv = y := ⟨_, rfl⟩
  obtain ⟨ow, how⟩ : ∃ y, q.dv.tdiv 8 = y := ⟨_, rfl⟩
  obtain ⟨b1, hb1⟩ : ∃ y, elemB q.pt = y := ⟨_, rfl⟩
  obtain ⟨b2, hb2⟩ : ∃ y, elemB q.vf = y := ⟨_, rfl⟩
  obtain ⟨b3, hb3⟩ : ∃ y, elemB q.lf = y := ⟨_, rfl⟩
  rw [hdb, how, hb1, hb2, hb3] at FQ
  rw [hdb, how] at CO
  obtain ⟨ov, hov⟩ : ∃ y : Int, (if db = true then ow else 0) = y := ⟨_, rfl⟩
  obtain ⟨oe, hoe⟩ : ∃ y : Int, (if db = true then (0 : Int) else 371) = y := ⟨_, rfl⟩
  rw [hov, hoe] at CO
  have HOV := Lib.hid hov.symm
  have HOE := Lib.hid hoe.symm
  rw [hb1] at K1
  rw [hb2] at K2
  rw [hb3] at K3
  rw [show ctN 2 q.dv q.vf q.lf v b = certQ q v b from rfl] at cc
  have HP := Lib.hid hpre; have H1 := Lib.hid c1; have HC := Lib.hid cc; have H0 := Lib.hid C0; have HO := Lib.hid CO; have HK1 := Lib.hid K1; have HK2 := Lib.hid K2; have HK3 := Lib.hid K3; have HFQ := Lib.hid FQ; have HOK := Lib.hid OK0
  clear hT hE c1 cc C0 CO K1 K2 K3 FQ OK0 hpre ws wq wv wb wx he0 hfq hdb how hb1 hb2 hb3 hov hoe
  go_enter Tryz.func7, Tryz.ntmps7
  have B0 := Lib.hid (Below.refl w.heap.size w)
  go_upto_region 1 with fail
  obtain ⟨w1, hw1⟩ : ∃ y, w.alloc (.cells (rowF 6 (ssC s)) 25) = y := ⟨_, rfl⟩
  have b1 : Below w.heap.size w w1 := by rw [← hw1]; exact (Below.refl _ _).alloc (Nat.le_refl _) _
  have S1 : Hid (RowV w1 w.heap.size 25 6 (ssC s)) := Lib.hid (by rw [← hw1]; exact RowV.new w _ 6 (ssC s))
  have z1 : w.heap.size + 1 = w1.heap.size := by rw [← hw1]; exact (Array.size_push _).symm
  rw [hw1]
  (try rw [z1])
  have B1 := Lib.hid (B0.out.trans (b1.mono B0.out.size))
  clear b1 hw1 z1 B0
  obtain ⟨w2, hw2⟩ : ∃ y, w1.alloc (.cells (rowF 36 (rqC q)) 37) = y := ⟨_, rfl⟩
  have b2 : Below w1.heap.size w1 w2 := by rw [← hw2]; exact (Below.refl _ _).alloc (Nat.le_refl _) _
  have Q2 : Hid (RowV w2 w1.heap.size 37 36 (rqC q)) := Lib.hid (by rw [← hw2]; exact RowV.new w1 _ 36 (rqC q))
  have z2 : w1.heap.size + 1 = w2.heap.size := by rw [← hw2]; exact (Array.size_push _).symm
  rw [hw2]
  (try rw [z2])
  have B2 := Lib.hid (B1.out.trans (b2.mono B1.out.size))
  have S2 := Lib.hid (S1.out.below b2)
  clear b2 hw2 z2 B1 S1
  go_wp2_with fail
  refine (SN.out _ (HT.out.below B2.out) (HE.out.below B2.out HE.out.lt)).mono ?_
  rintro e w3 ⟨rfl, b3⟩
  have B3 := Lib.hid (B2.out.trans (b3.mono B2.out.size))
  have S3 := Lib.hid (S2.out.below b3)
  have Q3 := Lib.hid (Q2.out.below b3)
  clear b3 B2 S2 Q2
  have x7 : w3.cell? ⟨w1.heap.size, 1, none⟩ = some (Value.int .i64 q.dv) := rq_cell Q3.out (i := 1) (by decide)
  go_wp2_with fail
  refine (HO.out _).mono ?_
  rintro e wp ⟨rfl, rfl⟩
  clear x7 HO
  go_wp2_with (first | ((with_reducible (show wpList _ _ _ (Oper.mk (some 33) _ _ _ _ _ :: _) _ _)); refine wpList_load_rowV rfl 25 (.tmp 5) rfl w.heap.size rfl 6 25 _ S3.out _ Tryz.underlying25 rfl (by kernel_rfl) ?_))
  refine (H0.out _).mono ?_
  rintro e w4 ⟨rfl, b4⟩
  have B4 := Lib.hid (B3.out.trans (b4.mono B3.out.size))
  have S4 := Lib.hid (S3.out.below b4)
  have Q4 := Lib.hid (Q3.out.below b4)
  clear b4 B3 S3 Q3
  clear H0
  cases z0 : (e0 == 0)
  · have z1 := bne_true z0
    go_wp2_with fail
    go_ret
    exact ⟨rfl, B4.out⟩
  obtain rfl := beq_iff_eq.1 z0
  clear z0
  have x5 : w4.cell? ⟨w.heap.size, 5, none⟩ = some (Value.bool s.d) := ss_done S4.out
  have x4 : w4.cell? ⟨w.heap.size, 4, none⟩ = some (Value.int .i64 s.t) := ss_cell S4.out (i := 4) (by decide)
  have x3 : w4.cell? ⟨w.heap.size, 3, none⟩ = some (Value.int .i64 s.p) := ss_cell S4.out (i := 3) (by decide)
  cases hd : s.d
  rotate_left
  · rw [hd] at x5
    go_wp2_with fail
    go_ret
    exact ⟨rfl, B4.out⟩
  rw [hd] at x5
  cases z5 : decide ((5 : Int) ≤ s.t)
  rotate_left
  · go_wp2_with fail
    go_ret
    exact ⟨rfl, B4.out⟩
  have HT5 : Hid (¬ s.t = 5) := Lib.hid (by have := of_decide_eq_false z5; omega)
  have HT6 : Hid (-1 ≤ s.t ∧ s.t < 5) := Lib.hid (by have := of_decide_eq_false z5; have := (okSs_side (HOK.out (by first | rfl | trivial))).2.2.2.2.1; omega)
  have HD := Lib.hid hd
  clear hd
  cases db
  · obtain rfl : oe = 371 := HOE.out
    obtain rfl : ov = 0 := HOV.out
    go_wp2_with fail
    go_ret
    exact ⟨rfl, B4.out⟩
  obtain rfl : oe = 0 := HOE.out
  obtain rfl : ov = ow := HOV.out
  obtain ⟨p, hp⟩ : ∃ y, s.p = y := ⟨_, rfl⟩
  rw [hp] at x3 HFQ
  clear hp
  cases z0 : (ov == p)
  · have z1 := bne_true z0
    go_wp2_with fail
    go_ret
    exact ⟨rfl, B4.out⟩
  have z2 := Lib.hid (dec_true z0)
  rw [z2.out] at HFQ
  obtain rfl := beq_iff_eq.1 z0
  clear z0 z2
  have x6 : w4.cell? ⟨w1.heap.size, 0, none⟩ = some (Value.int .i64 q.pt) := rq_cell Q4.out (i := 0) (by decide)
  go_wp2_with fail
  refine (HK1.out _).mono ?_
  rintro e w5 ⟨rfl, b5⟩
  have B5 := Lib.hid (B4.out.trans (b5.mono B4.out.size))
  have S5 := Lib.hid (S4.out.below b5)
  have Q5 := Lib.hid (Q4.out.below b5)
  clear b5 B4 S4 Q4
  clear x6 x3 x4 x5 HK1 z5
  cases b1
  · go_wp2_with fail
    go_ret
    exact ⟨rfl, B5.out⟩
  have x8 : w5.cell? ⟨w1.heap.size, 2, none⟩ = some (Value.int .i64 q.vf) := rq_cell Q5.out (i := 2) (by decide)
  go_wp2_with fail
  refine (HK2.out _).mono ?_
  rintro e w6 ⟨rfl, b6⟩
  have B6 := Lib.hid (B5.out.trans (b6.mono B5.out.size))
  have S6 := Lib.hid (S5.out.below b6)
  have Q6 := Lib.hid (Q5.out.below b6)
  clear b6 B5 S5 Q5
  clear x8 HK2
  cases b2
  · go_wp2_with fail
    go_ret
    exact ⟨rfl, B6.out⟩
  have x9 : w6.cell? ⟨w1.heap.size, 3, none⟩ = some (Value.int .i64 q.lf) := rq_cell Q6.out (i := 3) (by decide)
  go_wp2_with fail
  refine (HK3.out _).mono ?_
  rintro e w7 ⟨rfl, b7⟩
  have B7 := Lib.hid (B6.out.trans (b7.mono B6.out.size))
  have S7 := Lib.hid (S6.out.below b7)
  have Q7 := Lib.hid (Q6.out.below b7)
  clear b7 B6 S6 Q6
  clear x9 HK3
  cases b3
  · go_wp2_with fail
    go_ret
    exact ⟨rfl, B7.out⟩
  obtain rfl : fq = true := HFQ.out
  have HP2 := Lib.hid (HP.out (HOK.out (by first | rfl | trivial)) HT5.out HD.out (by first | rfl | trivial))
  clear HFQ HP HOK HT5
  obtain ⟨ce, hce⟩ : ∃ y, crtE (certQ q v b) x = y := ⟨_, rfl⟩
  obtain ⟨cv, hcv⟩ : ∃ y, crtV (certQ q v b) x = y := ⟨_, rfl⟩
  rw [hce, hcv] at HP2 HC
  clear hce hcv
  have x7 : w7.cell? ⟨w1.heap.size, 1, none⟩ = some (Value.int .i64 q.dv) := rq_cell Q7.out (i := 1) (by decide)
  have x8 : w7.cell? ⟨w1.heap.size, 2, none⟩ = some (Value.int .i64 q.vf) := rq_cell Q7.out (i := 2) (by decide)
  have x9 : w7.cell? ⟨w1.heap.size, 3, none⟩ = some (Value.int .i64 q.lf) := rq_cell Q7.out (i := 3) (by decide)
  go_wp2_with fail
  refine (HC.out _ (HT.out.below B7.out)).mono ?_
  rintro e w8 ⟨rfl, b8⟩
  have B8 := Lib.hid (B7.out.trans (b8.mono B7.out.size))
  have S8 := Lib.hid (S7.out.below b8)
  have Q8 := Lib.hid (Q7.out.below b8)
  clear b8 B7 S7 Q7
  clear HC x7 x8 x9
  have Zr := Lib.hid (RowV.new w8 44 8 (ctC ct0))
  go_upto_region 7 with ((with_reducible (show wpList _ _ _ (Oper.mk none _ _ _ _ _ :: _) _ _)); refine wpList_store_rowV (o := ⟨none, .store 44 (.tmp 13) (.tmp 84), _, _, _, _⟩) rfl 44 (.tmp 13) (.tmp 84) rfl w8.heap.size rfl 8 44 _ (ctC cv) rfl Zr.out (by kernel_rfl) (fun j _ => ctC_one cv j) ?_; intro w9 C9 o9)
  have b9 : Below w8.heap.size w8 w9 := ((Below.refl _ _).alloc (Nat.le_refl _) _).trans (o9.out.below (Nat.le_refl _) (by rw [World.size_alloc]; omega))
  have B9 := Lib.hid (B8.out.trans (b9.mono B8.out.size))
  have S9 := Lib.hid (S8.out.below b9)
  have Q9 := Lib.hid (Q8.out.below b9)
  clear b9 o9 Zr B8 S8 Q8
  cases z0 : (ce == 0)
  · have z1 := bne_true z0
    go_wp2_with fail
    go_ret
    exact ⟨rfl, B9.out⟩
  obtain rfl := beq_iff_eq.1 z0
  clear z0
  obtain ⟨hs0, hans⟩ := HP2.out (by first | rfl | trivial)
  have HA := Lib.hid hans
  have SH := fun W (h : Tab W) => shared_any s.r s.c s.x q.pt W h
  rw [hs0] at SH
  have KL := Lib.hid (sharedL_len s.r s.c s.x q.pt)
  have HEN := Lib.hid (fun v W (h : CodAt W v (lstT ([q.dv, q.vf, q.lf].map numT))) => enc_nums (zs := [q.dv, q.vf, q.lf]) (zsQ_bd HW.out.dv HW.out.vf HW.out.lf) (by show (3 : Nat) ≤ 100; decide) h)
  have HX := Lib.hid (fun y W => exnum_any y W)
  have EL := encN_len [q.dv, q.vf, q.lf] (zsQ_bd HW.out.dv HW.out.vf HW.out.lf) (by show (3 : Nat) ≤ 100; decide)
  have EP := encN_pos [q.dv, q.vf, q.lf]
  have WL : wantL s q = Sha.tagged tagEnr (proofL (sharedL s.r s.c s.x q.pt) 2 ++ encN [q.dv, q.vf, q.lf]) := rfl
  obtain ⟨KY, hKY⟩ : ∃ y, sharedL s.r s.c s.x q.pt = y := ⟨_, rfl⟩
  rw [hKY] at SH KL WL
  have C2 : ∀ v W, BytesAt W v (KY ++ [(2 : UInt8)]) → Tab W → Calls Tryz.prog 27 #[.string ⟨#[112, 114, 111, 111, 102]⟩, v] W fun e w' => e = .returned (digV (proofL KY 2)) ∧ Below W.heap.size W w' := fun v W hv hT => tagged_any ⟨#[112, 114, 111, 111, 102]⟩ v _ W (by decide) (by rw [List.length_append, KL.out, List.length_singleton]; decide) hv hT
  have PL := proofL_len KY 2
  obtain ⟨PD, hPD⟩ : ∃ y, proofL KY 2 = y := ⟨_, rfl⟩
  rw [hPD] at C2 PL WL
  obtain ⟨EZ, hEZ⟩ : ∃ y, encN [q.dv, q.vf, q.lf] = y := ⟨_, rfl⟩
  rw [hEZ] at HEN EL EP WL
  have HEL := Lib.hid EL
  have HEP := Lib.hid EP
  have C3 : ∀ v W, BytesAt W v (PD ++ EZ) → Tab W → Calls Tryz.prog 27 #[.string ⟨#[101, 110, 114, 111, 108, 108]⟩, v] W fun e w' => e = .returned (digV (wantL s q)) ∧ Below W.heap.size W w' := fun v W hv hT => by
    rw [WL]
    exact tagged_any ⟨#[101, 110, 114, 111, 108, 108]⟩ v _ W (by decide) (by rw [List.length_append, PL]; omega) hv hT
  have WT32 : (wantL s q).length = 32 := wantL_len s q
  obtain ⟨WT, hWT⟩ : ∃ y, wantL s q = y := ⟨_, rfl⟩
  rw [hWT] at C3 WT32 HA
  have hb1 : ∀ W B, RowV W B 54 32 (fun i => vB (KY.getD i 0)) → BytesAt W (.slice (some ⟨B, 0, none⟩) 32 32) KY := fun W B h => RowV.bytesAt h KL.out (by decide) (by decide)
  have hb2 : ∀ W B, RowV W B 35 32 (fun i => vB (PD.getD i 0)) → BytesAt W (.slice (some ⟨B, 0, none⟩) 32 32) PD := fun W B h => RowV.bytesAt h PL (by decide) (by decide)
  have L1 := Lib.hid (show ([] : List UInt8).length + KY.length ≤ 140737488351232 from by rw [KL.out]; decide)
  have L2 := Lib.hid (show ([] ++ KY).length + [(2 : UInt8)].length ≤ 140737488351232 from by rw [List.nil_append, KL.out]; decide)
  have L3 := Lib.hid (show ([] : List UInt8).length + PD.length ≤ 140737488351232 from by rw [PL]; decide)
  have L4 := Lib.hid (show ([] ++ PD).length + EZ.length ≤ 140737488351232 from by rw [List.nil_append, PL]; omega)
  have ed : ∀ W, (binOp .eql 35 (.agg (rowF 32 (dgF q.pf))) (digV WT)).run Tryz.prog W = .ok (.bool (q.pf == WT)) W := fun W => eql_dig W 35 Tryz.underlying35 HW.out.pf WT32
  have gd : ∀ x y W, (eqGuard .eql 35 x y (.agg (rowF 32 (dgF q.pf))) (digV WT)).run Tryz.prog W = .ok () W := fun x y W => guard_dig W .eql 35 x y q.pf WT (by kernel_rfl)
  unfold digV at C2 C3 ed gd
  obtain ⟨gw, hgw⟩ : ∃ g, (fun i => vB (WT.getD i 0)) = g := ⟨_, rfl⟩
  have GW : Hid (∀ j, (gw j).oneCell' = true) := Lib.hid (fun j => by rw [← hgw]; rfl)
  rw [hgw] at C3
  have ed2 : ∀ W, (binOp .eql 35 (.agg (rowF 32 (dgF q.pf))) (.agg (rowF 32 gw))).run Tryz.prog W = .ok (.bool (q.pf == WT)) W := fun W => by rw [← hgw]; exact ed W
  have gd2 : ∀ x y W, (eqGuard .eql 35 x y (.agg (rowF 32 (dgF q.pf))) (.agg (rowF 32 gw))).run Tryz.prog W = .ok () W := fun x y W => by rw [← hgw]; exact gd x y W
  obtain ⟨AE, hAE⟩ : ∃ y, ansE s q v b x = y := ⟨_, rfl⟩
  obtain ⟨AS, hAS⟩ : ∃ y, ansS s q v b x = y := ⟨_, rfl⟩
  obtain ⟨AC, hAC⟩ : ∃ y, ansC s q v b x = y := ⟨_, rfl⟩
  rw [hAE, hAS, hAC] at H1 HA
  have HTP := Lib.hid C2
  have HTE := Lib.hid C3
  have HB1 := Lib.hid hb1
  have HB2 := Lib.hid hb2
  have ED := Lib.hid ed2
  have GD := Lib.hid gd2
  have HSH := Lib.hid SH
  clear hs0 hans SH WL hKY HP2 hEZ EL EP C2 C3 PL hPD WT32 hWT hb1 hb2 ed gd ed2 gd2 hgw hAE hAS hAC
  have xq : w9.cell? ⟨w1.heap.size, 0, none⟩ = some (Value.int .i64 q.pt) := rq_cell Q9.out (i := 0) (by decide)
  go_wp2_with (first | ((with_reducible (show wpList _ _ _ (Oper.mk (some 90) _ _ _ _ _ :: _) _ _)); refine Hid.out ?_))
  refine Lib.hid ?_
  refine wpList_load_part rfl 23 (.tmp 89) rfl w.heap.size 0 rfl 6 3 25 (ssC s) (sideF s.r s.c s.x) S9.out (by decide) (fun j hj => by match j, hj with | 0, _ => rfl | 1, _ => rfl | 2, _ => rfl) _ Tryz.underlying23 rfl (by kernel_rfl) ?_
  go_wp2_with fail
  refine (HSH.out _ (HT.out.below B9.out)).mono ?_
  rintro e w10 ⟨rfl, b10⟩
  have B10 := Lib.hid (B9.out.trans (b10.mono B9.out.size))
  have S10 := Lib.hid (S9.out.below b10)
  have Q10 := Lib.hid (Q9.out.below b10)
  have C10 := Lib.hid (C9.out.below b10)
  clear b10 B9 S9 Q9 C9
  clear HSH xq
  have Zr := Lib.hid (RowV.new w10 54 32 (fun _ => vB 0))
  go_upto_region 10 with ((with_reducible (show wpList _ _ _ (Oper.mk none _ _ _ _ _ :: _) _ _)); refine wpList_store_rowV (o := ⟨none, .store 54 (.tmp 15) (.tmp 94), _, _, _, _⟩) rfl 54 (.tmp 15) (.tmp 94) rfl w10.heap.size rfl 32 54 _ (fun i => vB (KY.getD i 0)) rfl Zr.out (by kernel_rfl) (fun _ _ => rfl) ?_; intro w11 K11 o11)
  have b11 : Below w10.heap.size w10 w11 := ((Below.refl _ _).alloc (Nat.le_refl _) _).trans (o11.out.below (Nat.le_refl _) (by rw [World.size_alloc]; omega))
  have B11 := Lib.hid (B10.out.trans (b11.mono B10.out.size))
  have S11 := Lib.hid (S10.out.below b11)
  have Q11 := Lib.hid (Q10.out.below b11)
  have C11 := Lib.hid (C10.out.below b11)
  clear b11 o11 Zr B10 S10 Q10 C10
  go_upto_region 11 with fail
  refine Tc.wp_region_plan (keep w11.heap.size) 20 [] (.fl 0 (.fl 1 (.fl 2 (.fl 4 (.fl 5 (.fl 6 (.fl 8 (.fl 9 (.fl 10 (.one 3 (.one 7 (.one 11 (.one 12 (.fl 13 (.one 14 (.fp 15 (.fp 16 (.fp 17 (.fp 18 (.fp 19 .done)))))))))))))))))))) (by kernel_rfl) (by kernel_rfl) ?_
  intro w12 b12 e12
  have BB12 : Hid (Below w11.heap.size w11 w12) := Lib.hid b12
  clear b12 e12
  refine Tc.plan_floats [0, 1, 2, 4, 5, 6, 8, 9, 10] [_, _, _, _, _, _, _, _, _] rfl ?_
  dsimp only [List.getElem_toArray, List.getElem_cons_succ, List.getElem_cons_zero]
  repeat (first | go_big_quiet_skip | (go_big_quiet_want; go_big_quiet_op; first | go_big_quiet_on | (refine ⟨_, fun _ _ => rfl, ?_⟩; go_big_quiet_on)))
  refine wpQuiet_load_cell rfl 3 (.tmp 98) rfl w1.heap.size 1 rfl _ Tryz.underlying3 rfl (.int .i64 q.dv) (fun W hW => cell_keep (n := w11.heap.size) ((rq_cell (i := 1) (Q11.out.below BB12.out) (by decide) : w12.cell? ⟨w1.heap.size, 1, none⟩ = some (.int .i64 q.dv))) (Q11.out.lt) hW) ?_
  simp only [Act.put, List.setIfInBounds_toArray, List.set_cons_succ, List.set_cons_zero]
  repeat (first | go_big_quiet_skip | (go_big_quiet_want; go_big_quiet_op; first | go_big_quiet_on | (refine ⟨_, fun _ _ => rfl, ?_⟩; go_big_quiet_on)))
  refine wpQuiet_load_cell rfl 3 (.tmp 102) rfl w1.heap.size 2 rfl _ Tryz.underlying3 rfl (.int .i64 q.vf) (fun W hW => cell_keep (n := w11.heap.size) ((rq_cell (i := 2) (Q11.out.below BB12.out) (by decide) : w12.cell? ⟨w1.heap.size, 2, none⟩ = some (.int .i64 q.vf))) (Q11.out.lt) hW) ?_
  simp only [Act.put, List.setIfInBounds_toArray, List.set_cons_succ, List.set_cons_zero]
  repeat (first | go_big_quiet_skip | (go_big_quiet_want; go_big_quiet_op; first | go_big_quiet_on | (refine ⟨_, fun _ _ => rfl, ?_⟩; go_big_quiet_on)))
  refine wpQuiet_load_cell rfl 3 (.tmp 106) rfl w1.heap.size 3 rfl _ Tryz.underlying3 rfl (.int .i64 q.lf) (fun W hW => cell_keep (n := w11.heap.size) ((rq_cell (i := 3) (Q11.out.below BB12.out) (by decide) : w12.cell? ⟨w1.heap.size, 3, none⟩ = some (.int .i64 q.lf))) (Q11.out.lt) hW) ?_
  simp only [Act.put, List.setIfInBounds_toArray, List.set_cons_succ, List.set_cons_zero]
  repeat (first | go_big_quiet_skip | (go_big_quiet_want; go_big_quiet_op; first | go_big_quiet_on | (refine ⟨_, fun _ _ => rfl, ?_⟩; go_big_quiet_on)))
  refine wpQuiet_nil ?_
  refine Tc.plan_one 3 rfl (fun K hK => ?_)
  go_wp2_with fail
  refine (HX.out q.dv _).mono ?_
  rintro e w13 ⟨rfl, b13⟩
  have bb := b13.mono BB12.out.size
  have BB13 := Lib.hid (BB12.out.trans bb)
  go_wp2_with fail
  refine hK _ _ (keep_below bb) ?_
  clear hK K bb b13 BB12
  refine Tc.plan_one 7 rfl (fun K hK => ?_)
  go_wp2_with fail
  refine (HX.out q.vf _).mono ?_
  rintro e w14 ⟨rfl, b14⟩
  have bb := b14.mono BB13.out.size
  have BB14 := Lib.hid (BB13.out.trans bb)
  go_wp2_with fail
  refine hK _ _ (keep_below bb) ?_
  clear hK K bb b14 BB13
  refine Tc.plan_one 11 rfl (fun K hK => ?_)
  go_wp2_with fail
  refine (HX.out q.lf _).mono ?_
  rintro e w15 ⟨rfl, b15⟩
  have bb := b15.mono BB14.out.size
  have BB15 := Lib.hid (BB14.out.trans bb)
  go_wp2_with fail
  refine hK _ _ (keep_below bb) ?_
  clear hK K bb b15 BB14
  refine Tc.plan_one 12 rfl (fun K hK => ?_)
  refine wpList_buildT (s := 4) (c := valR) rfl 57 3 _ rfl zeroC [valC 1 q.dv ⟨#[]⟩ (.slice none 0 0), valC 1 q.vf ⟨#[]⟩ (.slice none 0 0), valC 1 q.lf ⟨#[]⟩ (.slice none 0 0)] rfl (by decide) (by decide) (by decide) (by decide) rfl Tryz.underlying57 (by kernel_rfl) (by kernel_rfl) ?_
  intro w16 P16 b16 L16
  have bb := b16.out.mono BB15.out.size
  have BB16 := Lib.hid (BB15.out.trans bb)
  have Z15 := L16
  have SZ15 : Hid (w11.heap.size ≤ w15.heap.size) := Lib.hid BB15.out.size
  refine (show wpList _ _ _ [] _ _ from hK _ _ (keep_below bb) ?_)
  dsimp only [Act.put]
  simp only [List.setIfInBounds_toArray, List.set_cons_succ, List.set_cons_zero]
  clear hK K bb b16 L16 BB15
  refine Tc.plan_floats [13] [_] rfl ?_
  dsimp only [List.getElem_toArray, List.getElem_cons_succ, List.getElem_cons_zero]
  simp only [List.set_cons_succ, List.set_cons_zero]
  repeat (first | go_big_quiet_skip | (go_big_quiet_want; go_big_quiet_op; first | go_big_quiet_on | (refine ⟨_, fun _ _ => rfl, ?_⟩; go_big_quiet_on)))
  refine wpQuiet_nil ?_
  refine Tc.plan_one 14 rfl (fun K hK => ?_)
  (try simp only [List.set_cons_succ, List.set_cons_zero])
  go_wp2_with fail
  refine (HEN.out _ _ (CodAt.nums3 HW.out.dv HW.out.vf HW.out.lf P16.out)).mono ?_
  rintro e w17 ⟨⟨u, rfl, o17⟩, b17⟩
  have bb := b17.mono BB16.out.size
  have BB17 := Lib.hid (BB16.out.trans bb)
  have Y17 := Lib.hid (o17.bytesAt (by have := HEL.out; omega))
  go_wp2_with fail
  refine hK _ _ (keep_below bb) ?_
  clear hK K bb b17 o17 BB16 P16
  refine Tc.plan_pures [15, 16, 17, 18, 19] [_, _, _, _, _] rfl ?_
  dsimp only [List.getElem_toArray, List.getElem_cons_succ, List.getElem_cons_zero]
  repeat (first | go_big_quiet_skip | (go_big_quiet_want; go_big_quiet_op; first | go_big_quiet_on | (refine ⟨_, fun _ _ => rfl, ?_⟩; go_big_quiet_on)))
  refine wpQuiet_nil ?_
  have B17 := Lib.hid (B11.out.trans (BB17.out.mono B11.out.size))
  have S17 := Lib.hid (S11.out.below BB17.out)
  have Q17 := Lib.hid (Q11.out.below BB17.out)
  have C17 := Lib.hid (C11.out.below BB17.out)
  have K17 := Lib.hid (K11.out.below BB17.out)
  clear S11 Q11 C11 K11 B11 BB17 HEN HX
  refine Tc.plan_done (l := []) rfl (fun K hK => ?_)
  go_wp2_with (first | ((with_reducible (show wpList _ _ _ (Oper.mk (some 116) _ _ _ _ _ :: _) _ _)); refine Hid.out ?_))
  refine Lib.hid ?_
  have al := (Below.refl _ w17).alloc (Nat.le_refl _) (.cells #[] 5)
  have R := Owns.emp0 (w := w17.alloc (.cells #[] 5)) (base := w17.heap.size) (Nat.le_refl _) (MapKept.heap_alloc w17 _).1
  obtain ⟨w18, hw⟩ : ∃ y, w17.alloc (.cells #[] 5) = y := ⟨_, rfl⟩
  rw [hw] at al R ⊢
  have KA := Lib.hid (HB1.out _ _ (K17.out.below al))
  have AL := Lib.hid al
  have AZ := Lib.hid al.size
  have RA := Lib.hid R
  clear al R hw
  refine wpList_append_bytes rfl (.tmp 114) (.tmp 115) rfl w17.heap.size (.slice (some ⟨w17.heap.size, 0, none⟩) 0 0) ((.slice (some ⟨w10.heap.size, 0, none⟩) 32 32)) [] KY rfl rfl RA.out KA.out L1.out AZ.out ?_
  intro v19 w19 O19 b19 _
  have AM := Lib.hid (AL.out.trans b19.out)
  have AZ2 := Lib.hid AM.out.size
  clear AL AZ RA KA b19
  go_wp2_with (first | ((with_reducible (show wpList _ _ _ (Oper.mk (some 118) _ _ _ _ _ :: _) _ _)); refine Hid.out ?_))
  refine Lib.hid ?_
  have al := (Below.refl _ w19).alloc (Nat.le_refl _) (.cells #[.int .u8 2] 5)
  have R : BytesAt (w19.alloc (.cells #[.int .u8 2] 5)) (.slice (some ⟨w19.heap.size, 0, none⟩) 1 1) [(2 : UInt8)] := one_byte w19 2
  obtain ⟨w20, hw⟩ : ∃ y, w19.alloc (.cells #[.int .u8 2] 5) = y := ⟨_, rfl⟩
  rw [hw] at al R ⊢
  have O20 := Lib.hid (O19.out.below al)
  have RB := Lib.hid R
  have AN := Lib.hid (AM.out.trans (al.mono AZ2.out))
  have AZ3 := Lib.hid AN.out.size
  clear al R hw O19 AM AZ2
  refine wpList_append_bytes rfl (.tmp 116) (.tmp 117) rfl w17.heap.size v19 (.slice (some ⟨w19.heap.size, 0, none⟩) 1 1) ([] ++ KY) [(2 : UInt8)] rfl rfl O20.out RB.out L2.out AZ3.out ?_
  intro v21 w21 O21 b21 _
  have AP := Lib.hid (AN.out.trans b21.out)
  have Z21 := Lib.hid (O21.out.bytesAt (by have := L2.out; rw [List.length_append]; omega))
  have B21 := Lib.hid (B17.out.trans (AP.out.mono B17.out.size))
  have S21 := Lib.hid (S17.out.below AP.out)
  have Q21 := Lib.hid (Q17.out.below AP.out)
  have C21 := Lib.hid (C17.out.below AP.out)
  have Y21 := Lib.hid (Y17.out.below AP.out)
  clear AP AN AZ3 RB O21 O20 b21 S17 Q17 C17 Y17 K17 B17 HB1
  go_wp2_with fail
  refine (HTP.out _ _ Z21.out (HT.out.below B21.out)).mono ?_
  rintro e w22 ⟨rfl, b22⟩
  have B22 := Lib.hid (B21.out.trans (b22.mono B21.out.size))
  have S22 := Lib.hid (S21.out.below b22)
  have Q22 := Lib.hid (Q21.out.below b22)
  have C22 := Lib.hid (C21.out.below b22)
  have Y22 := Lib.hid (Y21.out.below b22)
  clear b22 B21 S21 Q21 C21 Y21
  clear Z21 HTP
  have Zr := Lib.hid (RowV.new w22 35 32 (fun _ => vB 0))
  go_upto_region 13 with ((with_reducible (show wpList _ _ _ (Oper.mk none _ _ _ _ _ :: _) _ _)); refine wpList_store_rowV (o := ⟨none, .store 35 (.tmp 20) (.tmp 119), _, _, _, _⟩) rfl 35 (.tmp 20) (.tmp 119) rfl w22.heap.size rfl 32 35 _ (fun i => vB (PD.getD i 0)) rfl Zr.out (by kernel_rfl) (fun _ _ => rfl) ?_; intro w23 D23 o23)
  have b23 : Below w22.heap.size w22 w23 := ((Below.refl _ _).alloc (Nat.le_refl _) _).trans (o23.out.below (Nat.le_refl _) (by rw [World.size_alloc]; omega))
  have B23 := Lib.hid (B22.out.trans (b23.mono B22.out.size))
  have S23 := Lib.hid (S22.out.below b23)
  have Q23 := Lib.hid (Q22.out.below b23)
  have C23 := Lib.hid (C22.out.below b23)
  have Y23 := Lib.hid (Y22.out.below b23)
  clear b23 o23 Zr B22 S22 Q22 C22 Y22
  go_wp2_with (first | ((with_reducible (show wpList _ _ _ (Oper.mk (some 122) _ _ _ _ _ :: _) _ _)); refine Hid.out ?_))
  refine Lib.hid ?_
  have al := (Below.refl _ w23).alloc (Nat.le_refl _) (.cells #[] 5)
  have R := Owns.emp0 (w := w23.alloc (.cells #[] 5)) (base := w23.heap.size) (Nat.le_refl _) (MapKept.heap_alloc w23 _).1
  obtain ⟨w24, hw⟩ : ∃ y, w23.alloc (.cells #[] 5) = y := ⟨_, rfl⟩
  rw [hw] at al R ⊢
  have KA := Lib.hid (HB2.out _ _ (D23.out.below al))
  have AL := Lib.hid al
  have AZ := Lib.hid al.size
  have RA := Lib.hid R
  clear al R hw
  refine wpList_append_bytes rfl (.tmp 120) (.tmp 121) rfl w23.heap.size (.slice (some ⟨w23.heap.size, 0, none⟩) 0 0) ((.slice (some ⟨w22.heap.size, 0, none⟩) 32 32)) [] PD rfl rfl RA.out KA.out L3.out AZ.out ?_
  intro v25 w25 O25 b25 _
  have AM := Lib.hid (AL.out.trans b25.out)
  have AZ2 := Lib.hid AM.out.size
  clear AL AZ RA KA b25
  go_wp2_with (first | ((with_reducible (show wpList _ _ _ (Oper.mk (some 124) _ _ _ _ _ :: _) _ _)); refine Hid.out ?_))
  refine Lib.hid ?_
  refine wpList_append_bytes rfl (.tmp 122) (.tmp 123) rfl w23.heap.size v25 u ([] ++ PD) EZ rfl rfl O25.out (Y23.out.below AM.out) L4.out AZ2.out ?_
  intro v26 w26 O26 b26 _
  have AP := Lib.hid (AM.out.trans b26.out)
  have Z26 := Lib.hid (O26.out.bytesAt (by have := L4.out; rw [List.length_append]; omega))
  have B26 := Lib.hid (B23.out.trans (AP.out.mono B23.out.size))
  have S26 := Lib.hid (S23.out.below AP.out)
  have Q26 := Lib.hid (Q23.out.below AP.out)
  have C26 := Lib.hid (C23.out.below AP.out)
  clear AP AM AZ2 O26 O25 b26 S23 Q23 C23 Y23 D23 B23 HB2
  go_wp2_with fail
  refine (HTE.out _ _ Z26.out (HT.out.below B26.out)).mono ?_
  rintro e w27 ⟨rfl, b27⟩
  have B27 := Lib.hid (B26.out.trans (b27.mono B26.out.size))
  have S27 := Lib.hid (S26.out.below b27)
  have Q27 := Lib.hid (Q26.out.below b27)
  have C27 := Lib.hid (C26.out.below b27)
  clear b27 B26 S26 Q26 C26
  clear Z26 HTE
  have Zr := Lib.hid (RowV.new w27 35 32 (fun _ => vB 0))
  go_upto_region 14 with ((with_reducible (show wpList _ _ _ (Oper.mk none _ _ _ _ _ :: _) _ _)); refine wpList_store_rowV (o := ⟨none, .store 35 (.tmp 21) (.tmp 125), _, _, _, _⟩) rfl 35 (.tmp 21) (.tmp 125) rfl w27.heap.size rfl 32 35 _ gw rfl Zr.out (by kernel_rfl) (fun j _ => GW.out j) ?_; intro w28 E28 o28)
  have b28 : Below w27.heap.size w27 w28 := ((Below.refl _ _).alloc (Nat.le_refl _) _).trans (o28.out.below (Nat.le_refl _) (by rw [World.size_alloc]; omega))
  have B28 := Lib.hid (B27.out.trans (b28.mono B27.out.size))
  have S28 := Lib.hid (S27.out.below b28)
  have Q28 := Lib.hid (Q27.out.below b28)
  have C28 := Lib.hid (C27.out.below b28)
  clear b28 o28 Zr B27 S27 Q27 C27
  go_wp2_with (first | ((with_reducible (show wpList _ _ _ (Oper.mk (some 127) _ _ _ _ _ :: _) _ _)); refine wpList_load_rowV rfl 25 (.tmp 5) rfl w.heap.size rfl 6 25 _ S28.out _ Tryz.underlying25 rfl (by kernel_rfl) ?_) | ((with_reducible (show wpList _ _ _ (Oper.mk (some 128) _ _ _ _ _ :: _) _ _)); refine wpList_load_rowV rfl 37 (.tmp 6) rfl w1.heap.size rfl 36 37 _ Q28.out _ Tryz.underlying37 rfl (by kernel_rfl) ?_))
  refine (H1.out _ (HT.out.below B28.out) (HE.out.below B28.out HE.out.lt)).mono ?_
  rintro e w29 ⟨rfl, b29⟩
  have B29 := Lib.hid (B28.out.trans (b29.mono B28.out.size))
  have S29 := Lib.hid (S28.out.below b29)
  have Q29 := Lib.hid (Q28.out.below b29)
  have C29 := Lib.hid (C28.out.below b29)
  have E29 := Lib.hid (E28.out.below b29)
  clear b29 B28 S28 Q28 C28 E28
  clear H1
  have Za := Lib.hid ((RowV.new w29 25 6 (ssC ss0)).alloc (.cells (rowF 8 (ctC ct0)) 44))
  have Zb : Hid (RowV ((w29.alloc (.cells (rowF 6 (ssC ss0)) 25)).alloc (.cells (rowF 8 (ctC ct0)) 44)) (w29.heap.size + 1) 44 8 (ctC ct0)) := Lib.hid (by have h := RowV.new (w29.alloc (.cells (rowF 6 (ssC ss0)) 25)) 44 8 (ctC ct0); rwa [World.size_alloc] at h)
  go_upto_region 15 with (first | ((with_reducible (show wpList _ _ _ (Oper.mk none _ _ _ _ _ :: _) _ _)); refine wpList_store_rowV (o := ⟨none, .store 25 (.tmp 22) (.tmp 133), _, _, _, _⟩) rfl 25 (.tmp 22) (.tmp 133) rfl (w29.heap.size) rfl 6 25 _ (ssC AS) rfl Za.out (by kernel_rfl) (fun j _ => ssC_one AS j) ?_; intro wa Sa oa) | ((with_reducible (show wpList _ _ _ (Oper.mk none _ _ _ _ _ :: _) _ _)); refine wpList_store_rowV (o := ⟨none, .store 44 (.tmp 23) (.tmp 134), _, _, _, _⟩) rfl 44 (.tmp 23) (.tmp 134) rfl (w29.heap.size + 1) rfl 8 44 _ (ctC AC) rfl (oa.out.row (Nat.ne_of_gt (Nat.lt_succ_self _)) Zb.out) (by kernel_rfl) (fun j _ => ctC_one AC j) ?_; intro w30 W30 ob))
  have X30 := Lib.hid (ob.out.row (Nat.ne_of_lt (Nat.lt_succ_self _)) Sa.out)
  have b30 : Below w29.heap.size w29 w30 := by
    have h1 := (Below.refl w29.heap.size w29).alloc (Nat.le_refl _) (.cells (rowF 6 (ssC ss0)) 25)
    have h2 := h1.alloc h1.size (.cells (rowF 8 (ctC ct0)) 44)
    have h3 := h2.trans (oa.out.below (K := w29.heap.size) (Nat.le_refl _) h2.size)
    exact h3.trans (ob.out.below (K := w29.heap.size) (Nat.le_succ _) h3.size)
  have B30 := Lib.hid (B29.out.trans (b30.mono B29.out.size))
  have S30 := Lib.hid (S29.out.below b30)
  have Q30 := Lib.hid (Q29.out.below b30)
  have C30 := Lib.hid (C29.out.below b30)
  have E30 := Lib.hid (E29.out.below b30)
  clear b30 oa ob Sa Za Zb B29 S29 Q29 C29 E29
  go_wp2_with (first | ((with_reducible (show wpList _ _ _ (Oper.mk (some 143) _ _ _ _ _ :: _) _ _)); refine Hid.out ?_))
  refine Lib.hid ?_
  refine wpList_load_part rfl 35 (.tmp 142) rfl w1.heap.size 4 rfl 36 32 37 (rqC q) (dgF q.pf) Q30.out (by decide) (rq_pf q) _ Tryz.underlying35 rfl (by kernel_rfl) ?_
  have ed := ED.out
  have gd := GD.out
  rcases HA.out with ⟨hw, rfl, hs, rfl⟩ | ⟨hw, rfl, hs, rfl⟩
  · have HS := Lib.hid hs
    rw [show (q.pf == WT) = true from beq_iff_eq.2 hw] at ed
    clear hs hw
    have ec : ∀ W, (binOp .eql 44 (.agg (rowF 8 (ctC AC))) (.agg (rowF 8 (ctC AC)))).run Tryz.prog W = .ok (.bool true) W := fun W => by rw [eql_ct AC AC W, ctB_self]
    have gc : ∀ x y W, (eqGuard .eql 44 x y (.agg (rowF 8 (ctC AC))) (.agg (rowF 8 (ctC AC)))).run Tryz.prog W = .ok () W := fun x y W => guard_ct .eql x y AC AC W
    have x4 : w30.cell? ⟨w.heap.size, 4, none⟩ = some (.int .i64 s.t) := ss_cell S30.out (i := 4) (by decide)
    have x5 : w30.cell? ⟨w29.heap.size, 5, none⟩ = some (.bool true) := by have h := ss_done X30.out; rwa [show AS.d = true from by rw [HS.out]] at h
    have x6 : w30.cell? ⟨w29.heap.size, 4, none⟩ = some (.int .i64 s.t) := by have h : w30.cell? ⟨w29.heap.size, 4, none⟩ = some (.int .i64 AS.t) := ss_cell X30.out (i := 4) (by decide); rwa [show AS.t = s.t from by rw [HS.out]] at h
    have bt : (s.t == s.t) = true := beq_self_eq_true _
    go_wp2_with (first | ((with_reducible (show wpList _ _ _ (Oper.mk (some 144) _ _ _ _ _ :: _) _ _)); refine Hid.out ?_))
    refine Lib.hid ?_
    refine wpList_load_rowV rfl 35 (.tmp 21) rfl w27.heap.size rfl 32 _ _ (E30.out) _ Tryz.underlying35 rfl (by kernel_rfl) ?_
    go_wp2_with (first | ((with_reducible (show wpList _ _ _ (Oper.mk (some 149) _ _ _ _ _ :: _) _ _)); refine Hid.out ?_))
    refine Lib.hid ?_
    refine wpList_unguard rfl ?_
    refine wpList_load_rowV rfl 44 (.tmp 23) rfl (w29.heap.size + 1) rfl 8 _ _ (W30.out) _ Tryz.underlying44 rfl (by kernel_rfl) ?_
    go_wp2_with (first | ((with_reducible (show wpList _ _ _ (Oper.mk (some 150) _ _ _ _ _ :: _) _ _)); refine Hid.out ?_))
    refine Lib.hid ?_
    refine wpList_unguard rfl ?_
    refine wpList_load_rowV rfl 44 (.tmp 13) rfl w8.heap.size rfl 8 _ _ (C30.out) _ Tryz.underlying44 rfl (by kernel_rfl) ?_
    go_wp2_with fail
    go_ret
    exact ⟨rfl, B30.out⟩
  · have HS := Lib.hid hs
    rw [show (q.pf == WT) = false from beq_eq_false_iff_ne.2 hw] at ed
    clear hs hw
    have ec : ∀ W, (binOp .eql 44 (.agg (rowF 8 (ctC ct0))) (.agg #[.int .i64 0, .int .i64 0, .int .i64 0, .int .i64 0, .int .i64 0, .int .i64 0, .int .i64 0, .int .i64 0])).run Tryz.prog W = .ok (.bool true) W := fun W => eql_ct ct0 ct0 W
    have gc : ∀ x y W, (eqGuard .eql 44 x y (.agg (rowF 8 (ctC ct0))) (.agg #[.int .i64 0, .int .i64 0, .int .i64 0, .int .i64 0, .int .i64 0, .int .i64 0, .int .i64 0, .int .i64 0])).run Tryz.prog W = .ok () W := fun x y W => guard_ct .eql x y ct0 ct0 W
    have x4 : w30.cell? ⟨w.heap.size, 4, none⟩ = some (.int .i64 s.t) := ss_cell S30.out (i := 4) (by decide)
    have x5 : w30.cell? ⟨w29.heap.size, 5, none⟩ = some (.bool false) := by have h := ss_done X30.out; rwa [show AS.d = false from by rw [HS.out]; exact HD.out] at h
    have x6 : w30.cell? ⟨w29.heap.size, 4, none⟩ = some (.int .i64 (s.t + 1)) := by have h : w30.cell? ⟨w29.heap.size, 4, none⟩ = some (.int .i64 AS.t) := ss_cell X30.out (i := 4) (by decide); rwa [show AS.t = s.t + 1 from by rw [HS.out]] at h
    have bt : (s.t + 1 == s.t + 1) = true := beq_self_eq_true _
    have tw : IntKind.i64.wrap (s.t + 1) = s.t + 1 := IntWalk.i64_in _ (by have := HT6.out; omega)
    go_wp2_with (first | ((with_reducible (show wpList _ _ _ (Oper.mk (some 144) _ _ _ _ _ :: _) _ _)); refine Hid.out ?_))
    refine Lib.hid ?_
    refine wpList_load_rowV rfl 35 (.tmp 21) rfl w27.heap.size rfl 32 _ _ (E30.out) _ Tryz.underlying35 rfl (by kernel_rfl) ?_
    go_wp2_with (first | ((with_reducible (show wpList _ _ _ (Oper.mk (some 167) _ _ _ _ _ :: _) _ _)); refine Hid.out ?_))
    refine Lib.hid ?_
    refine wpList_unguard rfl ?_
    refine wpList_load_rowV rfl 44 (.tmp 23) rfl (w29.heap.size + 1) rfl 8 _ _ (W30.out) _ Tryz.underlying44 rfl (by kernel_rfl) ?_
    go_wp2_with fail
    go_ret
    exact ⟨rfl, B30.out⟩

set_option maxRecDepth 100000 in
set_option maxHeartbeats 1000000 in
theorem lifted (os : Os) (started : os.Started) (H : Type) (enc : TypeId × Value → H) :
    ReturnsInHanded {} Tryz.checked os 7 .any (fun w args => (Rows.enrollExactSpec.pre enc Tryz.prog Tryz.f7 [] false w args ∧ laidMetH Tryz.prog laidLE w) ∧ sizedMet enc Tryz.prog Tryz.f7 (OpenSpec.ofChange Rows.enrollExactSpec) false w args)
      (Rows.enrollExactSpec.post enc Tryz.prog Tryz.f7 false true false false) := by
  refine returnsInHanded_of_change_and (C := Tryz.checked) (X := fun w _ => laidMetH Tryz.prog laidLE w) (fun _ _ _ hh h => h.of_heap hh) own started (by kernel_rfl) Tryz.func7
    (ChangeSpec.witness_shaped (enc := enc) (C := Tryz.checked) (os := os) (X := fun w _ => laidMetH Tryz.prog laidLE w) false (World.doorLaid Tryz.prog 19 os) #[.agg #[.int .i64 0, .int .i64 0, .int .i64 0, .int .i64 0, .int .i64 0, .bool false], .agg #[.int .i64 0, .int .i64 0, .int .i64 0, .int .i64 0, .int .u8 0, .int .u8 0, .int .u8 0, .int .u8 0, .int .u8 0, .int .u8 0, .int .u8 0, .int .u8 0, .int .u8 0, .int .u8 0, .int .u8 0, .int .u8 0, .int .u8 0, .int .u8 0, .int .u8 0, .int .u8 0, .int .u8 0, .int .u8 0, .int .u8 0, .int .u8 0, .int .u8 0, .int .u8 0, .int .u8 0, .int .u8 0, .int .u8 0, .int .u8 0, .int .u8 0, .int .u8 0, .int .u8 0, .int .u8 0, .int .u8 0, .int .u8 0], .int .i64 0, .int .i64 0, .int .i64 0] 8 rfl (World.shaped_of_RefB (by kernel_rfl) (by kernel_rfl)) (by kernel_rfl) (by kernel_rfl) (by kernel_rfl) (door_metE os _)) ?_
  intro W base args ds gs before hval0 hW _ hsz hL _
  have hval : ∀ (j : Nat) t v, Tryz.f7.params[j]? = some t → args[j]? = some v → Value.okWide Tryz.prog W .any base t v := hval0
  have hW' := hW
  obtain ⟨p, q, hA0, hV, rfl, hfz, hnd⟩ := hW
  have hA : DataW.TrodAll enc Tryz.prog W 0 (fun _ => true) true Tryz.f7.params.toList args.toList ds p := hA0
  rw [Tryz.params7] at hA hval
  obtain ⟨v0, vs0, d0, ds0, p0, q0, hargs, rfl, rfl, h0, r0⟩ := trodAll_cons hA
  obtain ⟨v1, vs1, d1, ds1, p1, q1, rfl, rfl, rfl, h1, r1⟩ := trodAll_cons r0
  obtain ⟨v2, vs2, d2, ds2, p2, q2, rfl, rfl, rfl, h2, r2⟩ := trodAll_cons r1
  obtain ⟨v3, vs3, d3, ds3, p3, q3, rfl, rfl, rfl, h3, r3⟩ := trodAll_cons r2
  obtain ⟨v4, vs4, d4, ds4, p4, q4, rfl, rfl, rfl, h4, r4⟩ := trodAll_cons r3
  obtain ⟨rfl, rfl, rfl⟩ := trodAll_nil r4
  obtain rfl : args = #[v0, v1, v2, v3, v4] := by cases args; simp_all
  obtain ⟨rfl, rfl⟩ := trodVars_none hV
  have k0 := h0
  have lt0 : ∀ x ∈ p0, x.block < W.heap.size := by obtain ⟨m, hm⟩ := k0; exact DataW.trod_lt m _ _ _ hm
  obtain ⟨a0, wa0, rfl⟩ := ss_open (hval 0 25 v0 rfl rfl) h0
  have k1 := h1
  have lt1 : ∀ x ∈ p1, x.block < W.heap.size := by obtain ⟨m, hm⟩ := k1; exact DataW.trod_lt m _ _ _ hm
  obtain ⟨a1, wa1, rfl⟩ := rq_open (hval 1 37 v1 rfl rfl) h1
  obtain ⟨a2, rfl, rfl, rfl, w2⟩ := open_int Tryz.underlying3 (hval 2 3 v2 rfl rfl) h2
  obtain ⟨a3, rfl, rfl, rfl, w3⟩ := open_int Tryz.underlying3 (hval 3 3 v3 rfl rfl) h3
  obtain ⟨a4, rfl, rfl, rfl, w4⟩ := open_int Tryz.underlying3 (hval 4 3 v4 rfl rfl) h4
  obtain ⟨hT, hE⟩ := tabE_of_laid hL
  clear hA0 hval0 hsz hL
  simp only [List.append_nil] at hW'
  refine (walk a0 wa0 a1 wa1 a2 w2 a3 w3 a4 w4 hT hE).mono fun e W' ⟨he, hg⟩ => ?_
  subst he
  exact ⟨_, rfl, _, _, _, [], _, [], hW', trodAll_mk1 (shut_bool Tryz.underlying4 _), (trodAll_cons_mk (Below.trod laidOut (by kernel_rfl) (of_decide_eq_true (by kernel_rfl)) k0 hg lt0) (trodAll_cons_mk (Below.trod laidOut (by kernel_rfl) (of_decide_eq_true (by kernel_rfl)) k1 hg lt1) (trodAll_cons_mk (shut_int Tryz.underlying3 w2) (trodAll_cons_mk (shut_int Tryz.underlying3 w3) (trodAll_cons_mk (shut_int Tryz.underlying3 w4) trodAll_mk0))))), rfl, hg.frame _, fun h => by cases h⟩

theorem over : Rows.enrollExactRow.holds Tryz.pinned (OpenSpec.ofChange Rows.enrollExactSpec) :=
  OpenClaim.holds_of_wide 7 Tryz.f7 rfl rfl rfl rfl rfl rfl rfl ⟨rfl, rfl, rfl, rfl, rfl⟩ rfl rfl rfl rfl rfl (by kernel_rfl) Tryz.func7 (by kernel_rfl)
    (of_decide_eq_true (by kernel_rfl)) (by unfold Func.isWrapper; first | (rw [if_pos (by decide +kernel)]; kernel_rfl) | (rw [if_neg (by decide +kernel)]; exact ⟨rfl, rfl⟩))
    (fun os started H enc _ => lifted os started H enc)

end Go.Proofs.YtpekhdahamloaaaGreatDoor.enrollExact
namespace Go.Proofs.YtpekhdahamloaaaGreatDoor
set_option maxRecDepth 100000 in
theorem enrollExact_holds : Rows.EnrollExactCardSaid :=
  Claim7.holds_tied_plain_at .later [] [.handle, .data, .data] true _ true
    enrollExact.over (fun _ h => by cases h) (by kernel_rfl) (fun _ h => by cases h) enrollExact_row_tie rfl ⟨rfl, rfl⟩ (by kernel_rfl) rfl
    (fun f fn hf hfn => by
      obtain rfl : f = 7 := Option.some.inj ((show Tryz.prog.funcNamed "chartroom/chartroomlaw38.EnrollExact" = some 7 by kernel_rfl).symm.trans hf) |>.symm
      obtain rfl : fn = Tryz.f7 := (Option.some.inj (Tryz.func7.symm.trans hfn)).symm
      exact ⟨by kernel_rfl, fun j t ht => by
        rw [Tryz.params7] at ht
        have hm : t ∈ [25, 37, 3, 3, 3] := by simpa using Array.mem_of_getElem? ht
        have hall : ([25, 37, 3, 3, 3].all fun u => !Tryz.prog.wantsStandIn u) = true := by kernel_rfl
        exact (show Tryz.prog.wantsStandIn t = false by simpa using List.all_eq_true.1 hall t hm)⟩)
    (by kernel_rfl)
#print axioms enrollExact_holds
end Go.Proofs.YtpekhdahamloaaaGreatDoor
