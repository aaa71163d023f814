/- Sessions and requests, in plain Lean. Package enroll: Check, Point, New; its reference. -/
import Derived.Test.YtpekhdahamloaaaGreatDoorPk35
import Derived.Test.YtpekhdahamloaaaGreatDoorPk40
set_option linter.unusedVariables false
set_option linter.unusedSimpArgs false
namespace Go.Proofs.YtpekhdahamloaaaGreatDoor
open Go.RowKit Cod

/-! sessions and requests -/
structure Ss where
  r : Int
  c : Int
  x : Int
  p : Int
  t : Int
  d : Bool
structure Ss.wf (s : Ss) : Prop where
  r : i64B s.r
  c : i64B s.c
  x : i64B s.x
  p : i64B s.p
  t : i64B s.t
def ss0 : Ss := ⟨0, 0, 0, 0, 0, false⟩
def Ss.at (s : Ss) (i : Nat) : Int := match i with | 0 => s.r | 1 => s.c | 2 => s.x | 3 => s.p | _ => s.t
/-- the cells of a session -/
def ssC (s : Ss) (j : Nat) : Value := if j = 5 then .bool s.d else .int .i64 (s.at j)
theorem ssC_one (s : Ss) (j : Nat) : (ssC s j).oneCell' = true := by unfold ssC; split <;> rfl
def okSs (s : Ss) : Bool := sideB s.r s.c s.x && decide (s.r = 1) && !decide (s.p < 0) && !decide (64 ≤ s.p) && !decide (s.t < 0) && !decide (5 < s.t)
def chkSs (s : Ss) : Int := if okSs s then 0 else 380
structure Rq where
  pt : Int
  dv : Int
  vf : Int
  lf : Int
  pf : List UInt8
structure Rq.wf (q : Rq) : Prop where
  pt : i64B q.pt
  dv : i64B q.dv
  vf : i64B q.vf
  lf : i64B q.lf
  pf : q.pf.length = 32
def rq0 : Rq := ⟨0, 0, 0, 0, zero32⟩
def Rq.at (q : Rq) (i : Nat) : Int := match i with | 0 => q.pt | 1 => q.dv | 2 => q.vf | _ => q.lf
/-- the cells of a request -/
def rqC (q : Rq) (j : Nat) : Value := if j < 4 then .int .i64 (q.at j) else vB (q.pf.getD (j - 4) 0)
theorem rqC_one (q : Rq) (j : Nat) : (rqC q j).oneCell' = true := by unfold rqC; split <;> rfl
def tagEnr : List UInt8 := [101, 110, 114, 111, 108, 108]
/-- the proof of a request -/
def prfL (d : List UInt8) (dv vf lf : Int) : List UInt8 := Sha.tagged tagEnr (d ++ encN [dv, vf, lf])
theorem prfL_len (d : List UInt8) (dv vf lf : Int) : (prfL d dv vf lf).length = 32 := tagged_len _ _
/-- the proof that a session wants -/
def wantL (s : Ss) (q : Rq) : List UInt8 := prfL (proofL (sharedL s.r s.c s.x q.pt) 2) q.dv q.vf q.lf
theorem wantL_len (s : Ss) (q : Rq) : (wantL s q).length = 32 := prfL_len _ _ _ _
/-- what New answers -/
def newE (p c x : Int) : Int := if p < 0 ∨ 64 ≤ p then 1 else chkS 1 c x
def newV (p c x : Int) : Ss := if newE p c x = 0 then ⟨1, c, x, p, 0, false⟩ else ss0
/-- what Point answers -/
def sptV (s : Ss) : Int := if okSs s then pointV s.r s.c s.x else 0
/-- what Ask answers -/
def askB (dv vf lf : Int) : Bool := devB dv && elemB vf && elemB lf
def askE (c x p dv vf lf : Int) : Int := if askB dv vf lf then sharedE 2 c x p else 1
def askV (c x p dv vf lf : Int) : Rq := if askE c x p dv vf lf = 0 then ⟨pointV 2 c x, dv, vf, lf, prfL (provedL 2 c x p) dv vf lf⟩ else rq0
/-- what Answer answers -/
def fitsQ (s : Ss) (q : Rq) : Bool := devB q.dv && decide (q.dv.tdiv 8 = s.p) && elemB q.pt && elemB q.vf && elemB q.lf
def certQ (q : Rq) (v b : Int) : Ct := ctN 2 q.dv q.vf q.lf v b
/-- why a request is not examined (0: it is) -/
def preE (s : Ss) (q : Rq) (v b x : Int) : Int := if chkSs s ≠ 0 then 380 else if s.t = 5 then 381 else if s.d then 380 else if fitsQ s q then crtE (certQ q v b) x else 1
def ansE (s : Ss) (q : Rq) (v b x : Int) : Int := if preE s q v b x ≠ 0 then preE s q v b x else if q.pf = wantL s q then 0 else 380
def ansS (s : Ss) (q : Rq) (v b x : Int) : Ss := if preE s q v b x ≠ 0 then ss0 else if q.pf = wantL s q then ⟨s.r, s.c, s.x, s.p, s.t, true⟩ else ⟨s.r, s.c, s.x, s.p, s.t + 1, s.d⟩
def ansC (s : Ss) (q : Rq) (v b x : Int) : Ct := if ansE s q v b x = 0 then crtV (certQ q v b) x else ct0
end Go.Proofs.YtpekhdahamloaaaGreatDoor

namespace Go.Proofs.YtpekhdahamloaaaGreatDoor
open Go.RowKit Cod
theorem ss_cell {w : World} {B : Nat} {T : TypeId} {s : Ss} (h : RowV w B T 6 (ssC s)) {i : Nat} (hi : i < 5) : w.cell? ⟨B, i, none⟩ = some (.int .i64 (s.at i)) := by
  have := h.cell (i := i) (by omega)
  unfold ssC at this
  rwa [if_neg (by omega)] at this
theorem ss_done {w : World} {B : Nat} {T : TypeId} {s : Ss} (h : RowV w B T 6 (ssC s)) : w.cell? ⟨B, 5, none⟩ = some (.bool s.d) := h.cell (i := 5) (by decide)
theorem bne_true {a b : Int} (h : (a == b) = false) : (a != b) = true := by show (!(a == b)) = true; rw [h]; rfl
theorem bne_false {a b : Int} (h : (a == b) = true) : (a != b) = false := by show (!(a == b)) = false; rw [h]; rfl
theorem dec_true {a b : Int} (h : (a == b) = true) : decide (a = b) = true := by rw [decide_eq_true_iff]; exact beq_iff_eq.1 h
theorem dec_false {a b : Int} (h : (a == b) = false) : decide (a = b) = false := by rw [decide_eq_false_iff_not]; exact beq_eq_false_iff_ne.1 h
set_option maxRecDepth 100000 in
set_option maxHeartbeats 4000000 in
theorem pcheck38_any (s : Ss) (w : World) :
    Calls Tryz.prog 15 #[.agg (rowF 6 (ssC s))] w fun e w' => e = .returned (.int .i64 (chkSs s)) ∧ Below w.heap.size w w' := by
  have C := fun W => check10_any s.r s.c s.x W
  unfold chkS at C
  have FH : chkSs s = if (sideB s.r s.c s.x && decide (s.r = 1) && !decide (s.p < 0) && !decide (64 ≤ s.p) && !decide (s.t < 0) && !decide (5 < s.t)) then 0 else 380 := rfl
  obtain ⟨F, hF⟩ : ∃ y, chkSs s = y := ⟨_, rfl⟩
  obtain ⟨sb, hsb⟩ : ∃ y, sideB s.r s.c s.x = y := ⟨_, rfl⟩
  rw [hF, hsb] at FH
  rw [hsb] at C
  rw [hF]
  clear hF hsb
  have CH := Lib.hid C
  replace FH := Lib.hid FH
  clear C
  go_enter Tryz.func15, Tryz.ntmps15
  have B0 := Lib.hid (Below.refl w.heap.size w)
  go_upto_region 1 with fail
  obtain ⟨w1, hw1⟩ : ∃ y, w.alloc (.cells (rowF 6 (ssC s)) 25) = y := ⟨_, rfl⟩
  have b1 : Below w.heap.size w w1 := by rw [← hw1]; exact (Below.refl _ _).alloc (Nat.le_refl _) _
  have S1 : Hid (RowV w1 w.heap.size 25 6 (ssC s)) := Lib.hid (by rw [← hw1]; exact RowV.new w _ 6 (ssC s))
  have z1 : w.heap.size + 1 = w1.heap.size := by rw [← hw1]; exact (Array.size_push _).symm
  rw [hw1]
  (try rw [z1])
  have B1 := Lib.hid (B0.out.trans (b1.mono B0.out.size))
  clear b1 hw1 z1 B0
  have x0 : _ = some (Value.int .i64 s.r) := ss_cell S1.out (i := 0) (by decide)
  have x1 : _ = some (Value.int .i64 s.c) := ss_cell S1.out (i := 1) (by decide)
  have x2 : _ = some (Value.int .i64 s.x) := ss_cell S1.out (i := 2) (by decide)
  go_wp2_with fail
  refine (CH.out _).mono ?_
  rintro e w2 ⟨rfl, b2⟩
  have B2 := Lib.hid (B1.out.trans (b2.mono B1.out.size))
  have S2 := Lib.hid (S1.out.below b2)
  clear b2 B1 S1
  clear x0 x1 x2 CH
  have x0 : _ = some (Value.int .i64 s.r) := ss_cell S2.out (i := 0) (by decide)
  have x3 : _ = some (Value.int .i64 s.p) := ss_cell S2.out (i := 3) (by decide)
  have x4 : _ = some (Value.int .i64 s.t) := ss_cell S2.out (i := 4) (by decide)
  obtain ⟨r, hr⟩ : ∃ y, s.r = y := ⟨_, rfl⟩
  obtain ⟨p, hp⟩ : ∃ y, s.p = y := ⟨_, rfl⟩
  obtain ⟨t, ht⟩ : ∃ y, s.t = y := ⟨_, rfl⟩
  rw [hr] at x0 FH
  rw [hp] at x3 FH
  rw [ht] at x4 FH
  clear hr hp ht
  cases sb
  · obtain rfl : F = 380 := FH.out
    clear FH
    go_wp2_with fail
    go_ret
    exact ⟨rfl, B2.out⟩
  cases z0 : (r == 1)
  · have z1 := bne_true z0
    obtain rfl : F = 380 := by rw [FH.out, dec_false z0]; rfl
    clear FH
    go_wp2_with fail
    go_ret
    exact ⟨rfl, B2.out⟩
  have z1 := bne_false z0
  have z2 := Lib.hid (dec_true z0)
  cases n0 : decide (p < 0)
  rotate_left
  · obtain rfl : F = 380 := by rw [FH.out, z2.out, n0]; simp
    clear FH
    go_wp2_with fail
    go_ret
    exact ⟨rfl, B2.out⟩
  cases n1 : decide (64 ≤ p)
  rotate_left
  · obtain rfl : F = 380 := by rw [FH.out, z2.out, n0, n1]; simp
    clear FH
    go_wp2_with fail
    go_ret
    exact ⟨rfl, B2.out⟩
  cases n2 : decide (t < 0)
  rotate_left
  · obtain rfl : F = 380 := by rw [FH.out, z2.out, n0, n1, n2]; simp
    clear FH
    go_wp2_with fail
    go_ret
    exact ⟨rfl, B2.out⟩
  cases n3 : decide (5 < t)
  rotate_left
  · obtain rfl : F = 380 := by rw [FH.out, z2.out, n0, n1, n2, n3]; simp
    clear FH
    go_wp2_with fail
    go_ret
    exact ⟨rfl, B2.out⟩
  obtain rfl : F = 0 := by rw [FH.out, z2.out, n0, n1, n2, n3]; rfl
  clear FH
  go_wp2_with fail
  go_ret
  exact ⟨rfl, B2.out⟩
set_option maxRecDepth 100000 in
set_option maxHeartbeats 4000000 in
theorem ppoint38_any (s : Ss) (w : World) (hT : Tab w) :
    Calls Tryz.prog 13 #[.agg (rowF 6 (ssC s))] w fun e w' => e = .returned (.tuple #[.int .i64 (sptV s), .int .i64 (chkSs s)]) ∧ Below w.heap.size w w' := by
  have C := Lib.hid (fun W => pcheck38_any s W)
  have P := Lib.hid (fun W (h : Tab W) => point_any10 s.r s.c s.x W h)
  have T0 := Lib.hid hT; clear hT
  obtain ⟨ok, hok⟩ : ∃ y, okSs s = y := ⟨_, rfl⟩
  have FH : chkSs s = if ok then 0 else 380 := by unfold chkSs; rw [hok]
  have VH : sptV s = if ok then pointV s.r s.c s.x else 0 := by unfold sptV; rw [hok]
  have SB : ok = true → chkS s.r s.c s.x = 0 := by
    intro h
    rw [h] at hok
    unfold okSs at hok
    simp only [Bool.and_eq_true] at hok
    exact chkS_yes hok.1.1.1.1.1
  rw [FH] at C
  rw [FH, VH]
  clear hok FH VH
  replace SB := Lib.hid SB
  go_enter Tryz.func13, Tryz.ntmps13
  have B0 := Lib.hid (Below.refl w.heap.size w)
  go_upto_region 1 with fail
  obtain ⟨w1, hw1⟩ : ∃ y, w.alloc (.cells (rowF 6 (ssC s)) 25) = y := ⟨_, rfl⟩
  have b1 : Below w.heap.size w w1 := by rw [← hw1]; exact (Below.refl _ _).alloc (Nat.le_refl _) _
  have S1 : Hid (RowV w1 w.heap.size 25 6 (ssC s)) := Lib.hid (by rw [← hw1]; exact RowV.new w _ 6 (ssC s))
  have z1 : w.heap.size + 1 = w1.heap.size := by rw [← hw1]; exact (Array.size_push _).symm
  rw [hw1]
  (try rw [z1])
  have B1 := Lib.hid (B0.out.trans (b1.mono B0.out.size))
  have T1 := Lib.hid (T0.out.below b1)
  clear b1 hw1 z1 B0 T0
  go_wp2_with (first | ((with_reducible (show wpList _ _ _ (Oper.mk (some 5) _ _ _ _ _ :: _) _ _)); refine Hid.out ?_))
  refine Lib.hid ?_
  refine wpList_load_rowV rfl 25 (.tmp 1) rfl w.heap.size rfl 6 _ _ (S1.out) _ Tryz.underlying25 rfl (by kernel_rfl) ?_
  go_wp2_with fail
  refine (C.out _).mono ?_
  rintro e w2 ⟨rfl, b2⟩
  have B2 := Lib.hid (B1.out.trans (b2.mono B1.out.size))
  have T2 := Lib.hid (T1.out.below b2)
  have S2 := Lib.hid (S1.out.below b2)
  clear b2 B1 T1 S1
  cases ok
  · go_wp2_with fail
    go_ret2
    exact ⟨rfl, B2.out⟩
  · have SB2 := SB.out rfl
    rw [SB2] at P
    clear SB SB2
    have x0 : _ = some (Value.int .i64 s.r) := ss_cell S2.out (i := 0) (by decide)
    have x1 : _ = some (Value.int .i64 s.c) := ss_cell S2.out (i := 1) (by decide)
    have x2 : _ = some (Value.int .i64 s.x) := ss_cell S2.out (i := 2) (by decide)
    go_wp2_with fail
    refine (P.out _ T2.out).mono ?_
    rintro e w3 ⟨rfl, b3⟩
    have B3 := Lib.hid (B2.out.trans (b3.mono B2.out.size))
    have T3 := Lib.hid (T2.out.below b3)
    have S3 := Lib.hid (S2.out.below b3)
    clear b3 B2 T2 S2
    go_wp2_with fail
    go_ret2
    exact ⟨rfl, B3.out⟩
set_option maxRecDepth 100000 in
set_option maxHeartbeats 4000000 in
theorem pnew38_any (q c x : Int) (w : World) :
    Calls Tryz.prog 11 #[.int .i64 q, .int .i64 c, .int .i64 x] w fun e w' => e = .returned (.tuple #[.agg (rowF 6 (ssC (newV q c x))), .int .i64 (newE q c x)]) ∧ Below w.heap.size w w' := by
  have C := fun W => check10_any 1 c x W
  have FH : newE q c x = if (decide (q < 0) || decide (64 ≤ q)) = true then 1 else chkS 1 c x := by
    unfold newE
    by_cases h : q < 0 ∨ 64 ≤ q
    · rw [if_pos h, if_pos (by simpa using h)]
    · rw [if_neg h, if_neg (by simpa using h)]
  have VH : newV q c x = if newE q c x = 0 then ⟨1, c, x, q, 0, false⟩ else ss0 := rfl
  have K2 : chkS 1 c x = 0 ∨ chkS 1 c x = 100 := by unfold chkS; split <;> simp
  obtain ⟨F, hF⟩ : ∃ y, newE q c x = y := ⟨_, rfl⟩
  obtain ⟨V, hV⟩ : ∃ y, newV q c x = y := ⟨_, rfl⟩
  obtain ⟨k, hk⟩ : ∃ y, chkS 1 c x = y := ⟨_, rfl⟩
  rw [hF, hk] at FH
  rw [hF, hV] at VH
  rw [hk] at C K2
  rw [hF, hV]
  clear hF hV hk
  have CH := Lib.hid C
  replace FH := Lib.hid FH; replace VH := Lib.hid VH; replace K2 := Lib.hid K2
  clear C
  go_enter Tryz.func11, Tryz.ntmps11
  have B0 := Lib.hid (Below.refl w.heap.size w)
  go_upto_region 1 with fail
  obtain ⟨w1, hw1⟩ : ∃ y, w.alloc (.cells #[.int .i64 0, .int .i64 0, .int .i64 0, .int .i64 0, .int .i64 0, .bool false] 25) = y := ⟨_, rfl⟩
  have b1 : Below w.heap.size w w1 := by rw [← hw1]; exact (Below.refl _ _).alloc (Nat.le_refl _) _
  have Z1 : Hid (RowV w1 w.heap.size 25 6 (ssC ss0)) := Lib.hid (by rw [← hw1]; exact RowV.new w _ 6 (ssC ss0))
  have z1 : w.heap.size + 1 = w1.heap.size := by rw [← hw1]; exact (Array.size_push _).symm
  rw [hw1]
  (try rw [z1])
  have B1 := Lib.hid (B0.out.trans (b1.mono B0.out.size))
  clear b1 hw1 z1 B0
  cases n0 : decide (q < 0)
  rotate_left
  · obtain rfl : F = 1 := by rw [FH.out, n0]; rfl
    obtain rfl : V = ss0 := by rw [VH.out, if_neg (by decide)]
    go_wp2_with (first | ((with_reducible (show wpList _ _ _ (Oper.mk (some 16) _ _ _ _ _ :: _) _ _)); refine Hid.out ?_))
    refine Lib.hid ?_
    refine wpList_load_rowV rfl 25 (.tmp 6) rfl w.heap.size rfl 6 _ _ (Z1.out) _ Tryz.underlying25 rfl (by kernel_rfl) ?_
    go_wp2_with (first | ((with_reducible (show wpList _ _ _ (Oper.mk none _ _ _ _ _ :: _) _ _)); refine Hid.out ?_))
    refine Lib.hid ?_
    refine wpList_store_rowV rfl 25 (.tmp 6) (.tmp 16) rfl w.heap.size rfl 6 _ _ _ rfl (Z1.out) (by kernel_rfl) (fun j _ => ssC_one ss0 j) ?_
    intro w9 Z9 O9
    go_wp2_with fail
    refine bodyPost_ret (v := .tuple #[.agg (rowF 6 (ssC ss0)), .int .i64 1]) (by exact results_rowV2 (fn := Tryz.f11) (p := 6) (u := 7) (ty := 25) rfl _ _ w.heap.size 6 25 _ _ rfl Z9.out Tryz.underlying25 rfl (by kernel_rfl)) rfl ⟨rfl, ?_⟩
    exact B1.out.trans (O9.out.below (Nat.le_refl _) B1.out.size)
  cases n1 : decide (64 ≤ q)
  rotate_left
  · obtain rfl : F = 1 := by rw [FH.out, n0, n1]; rfl
    obtain rfl : V = ss0 := by rw [VH.out, if_neg (by decide)]
    go_wp2_with (first | ((with_reducible (show wpList _ _ _ (Oper.mk (some 16) _ _ _ _ _ :: _) _ _)); refine Hid.out ?_))
    refine Lib.hid ?_
    refine wpList_load_rowV rfl 25 (.tmp 6) rfl w.heap.size rfl 6 _ _ (Z1.out) _ Tryz.underlying25 rfl (by kernel_rfl) ?_
    go_wp2_with (first | ((with_reducible (show wpList _ _ _ (Oper.mk none _ _ _ _ _ :: _) _ _)); refine Hid.out ?_))
    refine Lib.hid ?_
    refine wpList_store_rowV rfl 25 (.tmp 6) (.tmp 16) rfl w.heap.size rfl 6 _ _ _ rfl (Z1.out) (by kernel_rfl) (fun j _ => ssC_one ss0 j) ?_
    intro w9 Z9 O9
    go_wp2_with fail
    refine bodyPost_ret (v := .tuple #[.agg (rowF 6 (ssC ss0)), .int .i64 1]) (by exact results_rowV2 (fn := Tryz.f11) (p := 6) (u := 7) (ty := 25) rfl _ _ w.heap.size 6 25 _ _ rfl Z9.out Tryz.underlying25 rfl (by kernel_rfl)) rfl ⟨rfl, ?_⟩
    exact B1.out.trans (O9.out.below (Nat.le_refl _) B1.out.size)
  obtain rfl : F = k := by rw [FH.out, n0, n1]; rfl
  clear FH
  have L1 := Lib.hid Z1.out.lt
  go_upto_region 4 with fail
  obtain ⟨w2, hw2⟩ : ∃ y, w1.alloc (.cells #[.int .i64 1, .int .i64 c, .int .i64 x] 23) = y := ⟨_, rfl⟩
  have b2 : Below w1.heap.size w1 w2 := by rw [← hw2]; exact (Below.refl _ _).alloc (Nat.le_refl _) _
  have S2 : Hid (RowV w2 w1.heap.size 23 3 (sideF 1 c x)) := Lib.hid (by rw [← hw2]; exact RowV.new w1 _ 3 (sideF 1 c x))
  have z2 : w1.heap.size + 1 = w2.heap.size := by rw [← hw2]; exact (Array.size_push _).symm
  rw [hw2]
  (try rw [z2])
  have B2 := Lib.hid (B1.out.trans (b2.mono B1.out.size))
  have Z2 := Lib.hid (Z1.out.below b2)
  clear b2 hw2 z2 B1 Z1
  have x0 : _ = some (Value.int .i64 1) := S2.out.cell (i := 0) (by decide)
  have x1 : _ = some (Value.int .i64 c) := S2.out.cell (i := 1) (by decide)
  have x2 : _ = some (Value.int .i64 x) := S2.out.cell (i := 2) (by decide)
  go_wp2_with fail
  refine (CH.out _).mono ?_
  rintro e w3 ⟨rfl, b3⟩
  have B3 := Lib.hid (B2.out.trans (b3.mono B2.out.size))
  have Z3 := Lib.hid (Z2.out.below b3)
  have S3 := Lib.hid (S2.out.below b3)
  clear b3 B2 Z2 S2
  clear x0 x1 x2 CH
  rcases K2.out with rfl | rfl
  · obtain rfl : V = ⟨1, c, x, q, 0, false⟩ := by rw [VH.out, if_pos rfl]
    have x0 : _ = some (Value.int .i64 1) := S3.out.cell (i := 0) (by decide)
    have x1 : _ = some (Value.int .i64 c) := S3.out.cell (i := 1) (by decide)
    have x2 : _ = some (Value.int .i64 x) := S3.out.cell (i := 2) (by decide)
    go_wp2_with (first | ((with_reducible (show wpList _ _ _ (Oper.mk none _ _ _ _ _ :: _) _ _)); refine Hid.out ?_))
    refine Lib.hid ?_
    refine wpList_store_rowV (o := ⟨none, .store 25 (.tmp 6) (.tmp 28), _, _, _, _⟩) rfl 25 (.tmp 6) (.tmp 28) rfl w.heap.size rfl 6 25 _ (ssC ⟨1, c, x, q, 0, false⟩) rfl Z3.out (by kernel_rfl) (fun j _ => ssC_one _ j) ?_
    intro w9 Z9 O9
    go_wp2_with fail
    refine bodyPost_ret (v := .tuple #[.agg (rowF 6 (ssC ⟨1, c, x, q, 0, false⟩)), .int .i64 0]) (by exact results_rowV2 (fn := Tryz.f11) (p := 6) (u := 7) (ty := 25) rfl _ _ w.heap.size 6 25 _ _ rfl Z9.out Tryz.underlying25 rfl (by kernel_rfl)) rfl ⟨rfl, ?_⟩
    exact B3.out.trans (O9.out.below (Nat.le_refl _) B3.out.size)
  · obtain rfl : V = ss0 := by rw [VH.out, if_neg (by decide)]
    go_wp2_with (first | ((with_reducible (show wpList _ _ _ (Oper.mk (some 24) _ _ _ _ _ :: _) _ _)); refine Hid.out ?_))
    refine Lib.hid ?_
    refine wpList_load_rowV rfl 25 (.tmp 6) rfl w.heap.size rfl 6 _ _ (Z3.out) _ Tryz.underlying25 rfl (by kernel_rfl) ?_
    go_wp2_with (first | ((with_reducible (show wpList _ _ _ (Oper.mk none _ _ _ _ _ :: _) _ _)); refine Hid.out ?_))
    refine Lib.hid ?_
    refine wpList_store_rowV rfl 25 (.tmp 6) (.tmp 24) rfl w.heap.size rfl 6 _ _ _ rfl (Z3.out) (by kernel_rfl) (fun j _ => ssC_one ss0 j) ?_
    intro w9 Z9 O9
    go_wp2_with fail
    refine bodyPost_ret (v := .tuple #[.agg (rowF 6 (ssC ss0)), .int .i64 100]) (by exact results_rowV2 (fn := Tryz.f11) (p := 6) (u := 7) (ty := 25) rfl _ _ w.heap.size 6 25 _ _ rfl Z9.out Tryz.underlying25 rfl (by kernel_rfl)) rfl ⟨rfl, ?_⟩
    exact B3.out.trans (O9.out.below (Nat.le_refl _) B3.out.size)
end Go.Proofs.YtpekhdahamloaaaGreatDoor
