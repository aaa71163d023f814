/- Package enroll: Answer. The reference of package enroll: Wanted, Answer. The laws of package enroll: the examples. -/
import Derived.Test.YtpekhdahamloaaaGreatDoorPk42
import Derived.Test.YtpekhdahamloaaaGreatDoorPk36
set_option linter.unusedVariables false
set_option linter.unusedSimpArgs false
namespace Go.Proofs.YtpekhdahamloaaaGreatDoor
open Go.RowKit Cod
theorem results_rowV3 {P : Program} {fn : Func} {p p2 u : Tmp} {ty ty2 : TypeId} (h : fn.results = #[.cell p ty, .cell p2 ty2, .tmp u]) (tmps : Array Value) (w : World) (g N : Nat) (T : TypeId) (f : Nat → Value) (d : TypeDesc)
    (hp : tmps.getD p undef = .pointer (some ⟨g, 0, none⟩)) (hrow : RowV w g T N f)
    (hu : P.underlying ty = some d) (hd : (match d with | .struct _ | .array _ _ => true | _ => false) = true) (hi : (P.info? ty).map (·.size) = some N)
    (g2 N2 : Nat) (T2 : TypeId) (f2 : Nat → Value) (d2 : TypeDesc)
    (hp2 : tmps.getD p2 undef = .pointer (some ⟨g2, 0, none⟩)) (hrow2 : RowV w g2 T2 N2 f2)
    (hu2 : P.underlying ty2 = some d2) (hd2 : (match d2 with | .struct _ | .array _ _ => true | _ => false) = true) (hi2 : (P.info? ty2).map (·.size) = some N2) :
    (results fn tmps).run P w = .ok (.tuple #[.agg (rowF N f), .agg (rowF N2 f2), tmps.getD u undef]) w := by
  have hp' : tmps[p]?.getD undef = .pointer (some ⟨g, 0, none⟩) := by simpa using hp
  have hp2' : tmps[p2]?.getD undef = .pointer (some ⟨g2, 0, none⟩) := by simpa using hp2
  simp [results, h, hp', hp2', asAddr, Sem.run_bind, Result.andThen, run_loadVar_row w g T ty (rowF N f) (0, 0) d hrow hu hd (by rw [rowF_size]; exact hi), run_loadVar_row w g2 T2 ty2 (rowF N2 f2) (0, 0) d2 hrow2 hu2 hd2 (by rw [rowF_size]; exact hi2)]
/-- the closures of the examinations -/
def clF (bx : Nat) (j : Nat) : Value := match j with
  | 0 => .func (.func 40) #[.pointer (some ⟨bx, 0, none⟩)] #[]
  | 1 => .func (.func 41) #[.pointer (some ⟨bx, 0, none⟩)] #[]
  | 2 => .func (.func 42) #[.pointer (some ⟨bx, 0, none⟩)] #[]
  | 3 => .func (.func 43) #[.pointer (some ⟨bx, 0, none⟩)] #[]
  | _ => .func (.func 44) #[.pointer (some ⟨bx, 0, none⟩)] #[]
/-- what the examinations answer -/
def stgE (s : Ss) (q : Rq) (v b x : Int) (k : Nat) : Int := match k with
  | 0 => chkSs s
  | 1 => if s.t = 5 then 381 else if s.d then 380 else 0
  | 2 => if fitsQ s q then 0 else 1
  | 3 => crtE (certQ q v b) x
  | _ => if q.pf = wantL s q then 0 else 380
section
variable {s : Ss} {q : Rq} {v b x : Int}
theorem pre_of (h0 : chkSs s = 0) (h1 : stgE s q v b x 1 = 0) : preE s q v b x = if fitsQ s q then crtE (certQ q v b) x else 1 := by
  unfold stgE at h1
  unfold preE
  rw [if_neg (by rw [h0]; decide)]
  by_cases t : s.t = 5
  · rw [if_pos t] at h1; cases h1
  · rw [if_neg t] at h1 ⊢
    cases d : s.d
    · rfl
    · rw [d] at h1; cases h1
theorem ans_of {E : Int} (h : preE s q v b x = E) (hE : E ≠ 0) : ansE s q v b x = E ∧ ansS s q v b x = ss0 ∧ ansC s q v b x = ct0 := by
  have e : ansE s q v b x = E := by unfold ansE; rw [if_pos (by rw [h]; exact hE), h]
  refine ⟨e, ?_, ?_⟩
  · unfold ansS; rw [if_pos (by rw [h]; exact hE)]
  · unfold ansC; rw [if_neg (by rw [e]; exact hE)]
theorem ans_fail : ∀ {k : Nat}, k < 4 → (∀ j, j < k → stgE s q v b x j = 0) → stgE s q v b x k ≠ 0 → ansE s q v b x = stgE s q v b x k ∧ ansS s q v b x = ss0 ∧ ansC s q v b x = ct0
  | 0, _, _, hn => by
    have hn' : chkSs s ≠ 0 := hn
    have e : chkSs s = 380 := by
      unfold chkSs at hn' ⊢
      split
      · rename_i h; rw [if_pos h] at hn'; exact absurd rfl hn'
      · rfl
    refine ans_of ?_ hn
    unfold preE
    rw [if_pos hn']
    exact e.symm
  | 1, _, h, hn => by
    refine ans_of ?_ hn
    have h0 : chkSs s = 0 := h 0 (by decide)
    have hn' : (if s.t = 5 then (381 : Int) else if s.d then 380 else 0) ≠ 0 := hn
    show preE s q v b x = if s.t = 5 then 381 else if s.d then 380 else 0
    unfold preE
    rw [if_neg (by rw [h0]; decide)]
    by_cases t : s.t = 5
    · rw [if_pos t, if_pos t]
    · rw [if_neg t] at hn' ⊢
      rw [if_neg t]
      cases d : s.d
      · rw [d] at hn'; exact absurd rfl hn'
      · rfl
  | 2, _, h, hn => by
    refine ans_of ?_ hn
    rw [pre_of (h 0 (by decide)) (h 1 (by decide))]
    have hn' : (if fitsQ s q then (0 : Int) else 1) ≠ 0 := hn
    show _ = if fitsQ s q then (0 : Int) else 1
    cases f : fitsQ s q
    · rfl
    · rw [f] at hn'; exact absurd rfl hn'
  | 3, _, h, hn => by
    refine ans_of ?_ hn
    rw [pre_of (h 0 (by decide)) (h 1 (by decide))]
    have h2 : (if fitsQ s q then (0 : Int) else 1) = 0 := h 2 (by decide)
    cases f : fitsQ s q
    · rw [f] at h2; cases h2
    · rfl
  | k + 4, hk, _, _ => absurd hk (by omega)
theorem pre_all (h : ∀ j, j < 4 → stgE s q v b x j = 0) : preE s q v b x = 0 := by
  rw [pre_of (h 0 (by decide)) (h 1 (by decide))]
  have h2 : (if fitsQ s q then (0 : Int) else 1) = 0 := h 2 (by decide)
  cases f : fitsQ s q
  · rw [f] at h2; cases h2
  · exact h 3 (by decide)
theorem ans_bad (h : ∀ j, j < 4 → stgE s q v b x j = 0) (hn : stgE s q v b x 4 ≠ 0) : stgE s q v b x 4 = 380 ∧ ansE s q v b x = 380 ∧ ansS s q v b x = ⟨s.r, s.c, s.x, s.p, s.t + 1, s.d⟩ ∧ ansC s q v b x = ct0 := by
  have p := pre_all h
  have hn' : (if q.pf = wantL s q then (0 : Int) else 380) ≠ 0 := hn
  have hp : ¬ q.pf = wantL s q := fun e => by rw [if_pos e] at hn'; exact hn' rfl
  have e : ansE s q v b x = 380 := by unfold ansE; rw [if_neg (by rw [p]; decide), if_neg hp]
  refine ⟨if_neg hp, e, ?_, ?_⟩
  · unfold ansS; rw [if_neg (by rw [p]; decide), if_neg hp]
  · unfold ansC; rw [if_neg (by rw [e]; decide)]
theorem ans_good (h : ∀ j, j < 5 → stgE s q v b x j = 0) : ansE s q v b x = 0 ∧ ansS s q v b x = ⟨s.r, s.c, s.x, s.p, s.t, true⟩ ∧ ansC s q v b x = crtV (certQ q v b) x := by
  have p := pre_all (fun j hj => h j (by omega))
  have h4 : (if q.pf = wantL s q then (0 : Int) else 380) = 0 := h 4 (by decide)
  have hp : q.pf = wantL s q := by
    by_cases e : q.pf = wantL s q
    · exact e
    · rw [if_neg e] at h4; cases h4
  have e : ansE s q v b x = 0 := by unfold ansE; rw [if_neg (by rw [p]; decide), if_pos hp]
  refine ⟨e, ?_, ?_⟩
  · unfold ansS; rw [if_neg (by rw [p]; decide), if_pos hp]
  · unfold ansC; rw [if_pos e]
theorem okSs_of (h : chkSs s = 0) : okSs s = true := by
  unfold chkSs at h
  split at h
  · assumption
  · cases h
theorem okSs_side (h : okSs s = true) : sideB s.r s.c s.x = true ∧ s.r = 1 ∧ 0 ≤ s.p ∧ s.p < 64 ∧ 0 ≤ s.t ∧ s.t ≤ 5 := by
  unfold okSs at h
  simp only [Bool.and_eq_true, decide_eq_true_eq, Bool.not_eq_true', decide_eq_false_iff_not] at h
  obtain ⟨⟨⟨⟨⟨h0, h1⟩, h2⟩, h3⟩, h4⟩, h5⟩ := h
  exact ⟨h0, h1, by omega, by omega, by omega, by omega⟩
theorem shared_of (h0 : chkSs s = 0) (h2 : stgE s q v b x 2 = 0) : sharedE s.r s.c s.x q.pt = 0 := by
  have hs := (okSs_side (okSs_of h0)).1
  have h2' : (if fitsQ s q then (0 : Int) else 1) = 0 := h2
  cases f : fitsQ s q
  · rw [f] at h2'; cases h2'
  · unfold fitsQ at f
    simp only [Bool.and_eq_true] at f
    unfold sharedE
    rw [hs, f.1.1.2]; rfl
end
theorem same_row {w w' : World} {B N : Nat} {T : TypeId} {f : Nat → Value} (h : RowV w B T N f) (h' : RowV w' B T N f) (o : OnlyB B w w') : Below w.heap.size w w' :=
  ⟨o.os, o.tape, o.output, o.size, fun k hk => by
    by_cases e : k = B
    · subst e; exact h'.trans h.symm
    · exact o.block k hk e⟩
/-- what holds at each round -/
structure AnsI (w : World) (n0 b5 b10 b11 bx bs : Nat) (s : Ss) (q : Rq) (v b x : Int) (c : Ct) (wx : World) : Prop where
  s5 : RowV wx b5 25 6 (ssC s)
  z10 : RowV wx b10 25 6 (ssC ss0)
  z11 : RowV wx b11 44 8 (ctC ct0)
  ex : RowV wx bx 84 53 (exC s q v b x c)
  cl : RowV wx bs 85 5 (clF bx)
  tab : Tab wx
  err : ErrT wx
  bel : Below w.heap.size w wx
  ge : n0 ≤ wx.heap.size
section
variable {w wx wy : World} {n0 b5 b10 b11 bx bs : Nat} {s : Ss} {q : Rq} {v b x : Int} {c c2 : Ct}
theorem AnsI.below (h : AnsI w n0 b5 b10 b11 bx bs s q v b x c wx) (hb : Below wx.heap.size wx wy) : AnsI w n0 b5 b10 b11 bx bs s q v b x c wy :=
  ⟨h.s5.below hb, h.z10.below hb, h.z11.below hb, h.ex.below hb, h.cl.below hb, h.tab.below hb, h.err.below hb h.err.lt, h.bel.trans (hb.mono h.bel.size), Nat.le_trans h.ge hb.size⟩
theorem AnsI.turn (h : AnsI w n0 b5 b10 b11 bx bs s q v b x c wx) (o : OnlyB bx wx wy) (he : RowV wy bx 84 53 (exC s q v b x c2)) (hx : w.heap.size ≤ bx) (h5 : b5 ≠ bx) (h10 : b10 ≠ bx) (h11 : b11 ≠ bx) (hs : bs ≠ bx) (hT : Tab w) (hE : ErrT w) : AnsI w n0 b5 b10 b11 bx bs s q v b x c2 wy := by
  have B := h.bel.trans (o.below hx h.bel.size)
  exact ⟨o.row h5 h.s5, o.row h10 h.z10, o.row h11 h.z11, he, o.row hs h.cl, hT.below B, hE.below B hE.lt, B, Nat.le_trans h.ge o.size⟩
theorem AnsI.fresh {fb : Nat} (h : AnsI w n0 b5 b10 b11 bx bs s q v b x c wx) (o : OnlyB fb wx wy) (hf : n0 ≤ fb) (h0 : w.heap.size ≤ n0) (h5 : b5 < n0) (h10 : b10 < n0) (h11 : b11 < n0) (hx : bx < n0) (hs : bs < n0) (hT : Tab w) (hE : ErrT w) : AnsI w n0 b5 b10 b11 bx bs s q v b x c wy := by
  have B := h.bel.trans (o.below (Nat.le_trans h0 hf) h.bel.size)
  exact ⟨o.row (by omega) h.s5, o.row (by omega) h.z10, o.row (by omega) h.z11, o.row (by omega) h.ex, o.row (by omega) h.cl, hT.below B, hE.below B hE.lt, B, Nat.le_trans h.ge o.size⟩
end
abbrev exParts (s : Ss) (q : Rq) (v b x : Int) : Array (Nat × Value) := #[(0, .agg (rowF 6 (ssC s))), (1, .agg (rowF 36 (rqC q))), (2, .int .i64 v), (3, .int .i64 b), (4, .int .i64 x)]
theorem build_ex (s : Ss) (q : Rq) (v b x : Int) (W : World) : (Instr.build 84 (exParts s q v b x)).run Tryz.prog W = .ok (.agg (rowF 53 (exC s q v b x ct0))) W := by kernel_rfl
set_option maxRecDepth 100000 in
set_option maxHeartbeats 16000000 in
theorem pans_any (s : Ss) (q : Rq) (hq : q.wf) (v b x : Int) (hv : i64B v) (hb : i64B b) (w : World) (hT : Tab w) (hE : ErrT w) :
    Calls Tryz.prog 19 #[.agg (rowF 6 (ssC s)), .agg (rowF 36 (rqC q)), .int .i64 v, .int .i64 b, .int .i64 x] w fun e w' => e = .returned (.tuple #[.agg (rowF 6 (ssC (ansS s q v b x))), .agg (rowF 8 (ctC (ansC s q v b x))), .int .i64 (ansE s q v b x)]) ∧ Below w.heap.size w w' := by
  have HT := Lib.hid hT
  have HE := Lib.hid hE
  have HQ := Lib.hid hq
  have HC : Hid (certQ q v b).wf := Lib.hid ⟨show i64B 2 from ⟨by decide, by decide⟩, hq.dv, hq.vf, hq.lf, hv, hb, i64B_0, i64B_0⟩
  have AF := Lib.hid (fun (k : Nat) => @ans_fail s q v b x k)
  have AB := Lib.hid (@ans_bad s q v b x)
  have AG := Lib.hid (@ans_good s q v b x)
  obtain ⟨AE, hAE⟩ : ∃ y, ansE s q v b x = y := ⟨_, rfl⟩
  obtain ⟨AS, hAS⟩ : ∃ y, ansS s q v b x = y := ⟨_, rfl⟩
  obtain ⟨AC, hAC⟩ : ∃ y, ansC s q v b x = y := ⟨_, rfl⟩
  rw [hAE, hAS, hAC] at AF AB AG
  rw [hAE, hAS, hAC]
  clear hT hE hq hv hb hAE hAS hAC
  go_enter Tryz.func19, Tryz.ntmps19
  have B0 := Lib.hid (Below.refl w.heap.size w)
  go_upto_region 1 with fail
  obtain ⟨w1, hw1⟩ : ∃ y, w.alloc (.cells (rowF 6 (ssC s)) 25) = y := ⟨_, rfl⟩
  have b1 : Below w.heap.size w w1 := by rw [← hw1]; exact (Below.refl _ _).alloc (Nat.le_refl _) _
  have S1 : Hid (RowV w1 w.heap.size 25 6 (ssC s)) := Lib.hid (by rw [← hw1]; exact RowV.new w _ 6 (ssC s))
  have z1 : w.heap.size + 1 = w1.heap.size := by rw [← hw1]; exact (Array.size_push _).symm
  rw [hw1]
  (try rw [z1])
  have B1 := Lib.hid (B0.out.trans (b1.mono B0.out.size))
  clear b1 hw1 z1 B0
  have L0 := Lib.hid S1.out.lt
  obtain ⟨w2, hw2⟩ : ∃ y, w1.alloc (.cells (rowF 36 (rqC q)) 37) = y := ⟨_, rfl⟩
  have b2 : Below w1.heap.size w1 w2 := by rw [← hw2]; exact (Below.refl _ _).alloc (Nat.le_refl _) _
  have Q2 : Hid (RowV w2 w1.heap.size 37 36 (rqC q)) := Lib.hid (by rw [← hw2]; exact RowV.new w1 _ 36 (rqC q))
  have z2 : w1.heap.size + 1 = w2.heap.size := by rw [← hw2]; exact (Array.size_push _).symm
  rw [hw2]
  (try rw [z2])
  have B2 := Lib.hid (B1.out.trans (b2.mono B1.out.size))
  have S2 := Lib.hid (S1.out.below b2)
  clear b2 hw2 z2 B1 S1
  have L1 := Lib.hid Q2.out.lt
  obtain ⟨w3, hw3⟩ : ∃ y, w2.alloc (.cells #[.int .i64 0, .int .i64 0, .int .i64 0, .int .i64 0, .int .i64 0, .bool false] 25) = y := ⟨_, rfl⟩
  have b3 : Below w2.heap.size w2 w3 := by rw [← hw3]; exact (Below.refl _ _).alloc (Nat.le_refl _) _
  have X3 : Hid (RowV w3 w2.heap.size 25 6 (ssC ss0)) := Lib.hid (by rw [← hw3]; exact RowV.new w2 _ 6 (ssC ss0))
  have z3 : w2.heap.size + 1 = w3.heap.size := by rw [← hw3]; exact (Array.size_push _).symm
  rw [hw3]
  (try rw [z3])
  have B3 := Lib.hid (B2.out.trans (b3.mono B2.out.size))
  have S3 := Lib.hid (S2.out.below b3)
  have Q3 := Lib.hid (Q2.out.below b3)
  clear b3 hw3 z3 B2 S2 Q2
  have L2 := Lib.hid X3.out.lt
  obtain ⟨w4, hw4⟩ : ∃ y, w3.alloc (.cells #[.int .i64 0, .int .i64 0, .int .i64 0, .int .i64 0, .int .i64 0, .int .i64 0, .int .i64 0, .int .i64 0] 44) = y := ⟨_, rfl⟩
  have b4 : Below w3.heap.size w3 w4 := by rw [← hw4]; exact (Below.refl _ _).alloc (Nat.le_refl _) _
  have Y4 : Hid (RowV w4 w3.heap.size 44 8 (ctC ct0)) := Lib.hid (by rw [← hw4]; exact RowV.new w3 _ 8 (ctC ct0))
  have z4 : w3.heap.size + 1 = w4.heap.size := by rw [← hw4]; exact (Array.size_push _).symm
  rw [hw4]
  (try rw [z4])
  have B4 := Lib.hid (B3.out.trans (b4.mono B3.out.size))
  have S4 := Lib.hid (S3.out.below b4)
  have Q4 := Lib.hid (Q3.out.below b4)
  have X4 := Lib.hid (X3.out.below b4)
  clear b4 hw4 z4 B3 S3 Q3 X3
  have L3 := Lib.hid Y4.out.lt
  go_wp2_with (first | ((with_reducible (show wpList _ _ _ (Oper.mk (some 17) _ _ _ _ _ :: _) _ _)); refine Hid.out ?_))
  refine Lib.hid ?_
  refine wpList_load_rowV rfl 25 (.tmp 5) rfl w.heap.size rfl 6 _ _ (S4.out) _ Tryz.underlying25 rfl (by kernel_rfl) ?_
  go_wp2_with (first | ((with_reducible (show wpList _ _ _ (Oper.mk (some 18) _ _ _ _ _ :: _) _ _)); refine Hid.out ?_))
  refine Lib.hid ?_
  refine wpList_load_rowV rfl 37 (.tmp 6) rfl w1.heap.size rfl 36 _ _ (Q4.out) _ Tryz.underlying37 rfl (by kernel_rfl) ?_
  go_wp2_with (first | ((with_reducible (show wpList _ _ _ (Oper.mk (some 22) _ _ _ _ _ :: _) _ _)); refine Hid.out ?_))
  refine Lib.hid ?_
  refine wpList_build rfl 84 _ rfl (exParts s q v b x) (by simp only [List.map_toArray, List.map_cons, List.map_nil]; rfl) _ (build_ex s q v b x _) ?_
  clear Q4
  have Zr := Lib.hid (RowV.new w4 84 53 (exC ss0 rq0 0 0 0 ct0))
  go_upto_region 2 with ((with_reducible (show wpList _ _ _ (Oper.mk none _ _ _ _ _ :: _) _ _)); refine wpList_store_rowV (o := ⟨none, .store 84 (.tmp 13) (.tmp 22), _, _, _, _⟩) rfl 84 (.tmp 13) (.tmp 22) rfl w4.heap.size rfl 53 84 _ (exC s q v b x ct0) rfl Zr.out (by kernel_rfl) (fun j _ => exC_one s q v b x ct0 j) ?_; intro w5 E5 o5)
  have b5 : Below w4.heap.size w4 w5 := ((Below.refl _ _).alloc (Nat.le_refl _) _).trans (o5.out.below (Nat.le_refl _) (by rw [World.size_alloc]; omega))
  have B5 := Lib.hid (B4.out.trans (b5.mono B4.out.size))
  have S5 := Lib.hid (S4.out.below b5)
  have X5 := Lib.hid (X4.out.below b5)
  have Y5 := Lib.hid (Y4.out.below b5)
  clear b5 o5 Zr B4 S4 X4 Y4
  have L4 := Lib.hid E5.out.lt
  go_wp2_with fail
  obtain ⟨w6, hw6⟩ : ∃ y, w5.alloc (.cells #[.func (.func 40) #[.pointer (some ⟨w4.heap.size, 0, none⟩)] #[], .func (.func 41) #[.pointer (some ⟨w4.heap.size, 0, none⟩)] #[], .func (.func 42) #[.pointer (some ⟨w4.heap.size, 0, none⟩)] #[], .func (.func 43) #[.pointer (some ⟨w4.heap.size, 0, none⟩)] #[], .func (.func 44) #[.pointer (some ⟨w4.heap.size, 0, none⟩)] #[]] 85) = y := ⟨_, rfl⟩
  have b6 : Below w5.heap.size w5 w6 := by rw [← hw6]; exact (Below.refl _ _).alloc (Nat.le_refl _) _
  have J6 : Hid (RowV w6 w5.heap.size 85 5 (clF w4.heap.size)) := Lib.hid (by rw [← hw6]; exact RowV.new w5 85 5 (clF w4.heap.size))
  have z6 : w5.heap.size + 1 = w6.heap.size := by rw [← hw6]; exact (Array.size_push _).symm
  rw [hw6]
  (try rw [z6])
  have B6 := Lib.hid (B5.out.trans (b6.mono B5.out.size))
  have S6 := Lib.hid (S5.out.below b6)
  have X6 := Lib.hid (X5.out.below b6)
  have Y6 := Lib.hid (Y5.out.below b6)
  have E6 := Lib.hid (E5.out.below b6)
  clear b6 hw6 z6 B5 S5 X5 Y5 E5
  have L5 := Lib.hid E6.out.lt
  have L6 := Lib.hid J6.out.lt
  have N4 := Lib.hid (show w.heap.size ≤ w4.heap.size by have := L0.out; have := L1.out; have := L2.out; have := L3.out; omega)
  go_loopg [30] 5 (fun g s30 wx => ∃ (k : Nat) (cc : Ct), k + g = 5 ∧ s30 = .int .i64 (k : Int) ∧ Hid (∀ j, j < k → stgE s q v b x j = 0) ∧ Hid ((k ≤ 3 → cc = ct0) ∧ (3 < k → cc = crtV (certQ q v b) x)) ∧ Hid (AnsI w w6.heap.size w.heap.size w2.heap.size w3.heap.size w4.heap.size w5.heap.size s q v b x cc wx))
  case atStart => exact ⟨0, ct0, rfl, rfl, Lib.hid (fun j hj => absurd hj (by omega)), Lib.hid ⟨fun _ => rfl, fun h => absurd h (by omega)⟩, Lib.hid ⟨S6.out, X6.out, Y6.out, E6.out, J6.out, HT.out.below B6.out, HE.out.below B6.out HE.out.lt, B6.out, Nat.le_refl _⟩⟩
  case round =>
    clear S6 X6 Y6 E6 J6 B6
    obtain ⟨k, cc, hk, rfl, HPR, HCC, hI⟩ := hrel
    obtain ⟨w7, rfl⟩ : ∃ y, y = wr := ⟨_, rfl⟩
    have I7 := hI
    clear hI
    have N7 := Lib.hid I7.out.ge
    have q0 : (0 : Int) ≤ (k : Int) := Int.natCast_nonneg k
    by_cases hlt : k < 5
    · have d0 : decide ((k : Int) < 5) = true := by rw [decide_eq_true_iff]; omega
      have d1 : decide (k < 5) = true := by rw [decide_eq_true_iff]; omega
      have z2 : (k : Int) < 5 := by omega
      have p0 : 0 ≤ (k : Int) ∧ (k : Int) < 5 := by omega
      have z3 : ((k : Int)).toNat = k := Int.toNat_natCast k
      have HLT := Lib.hid hlt
      have c0 := I7.out.cl.cell (i := k) hlt
      go_upto_region 6 with fail
      have F8 := Lib.hid (RowV.new w7 88 2 (flF 0 false))
      have I8 := Lib.hid (I7.out.below ((Below.refl _ w7).alloc (Nat.le_refl _) (.cells #[.int .i64 0, .bool false] 88)))
      obtain ⟨w8, hw8⟩ : ∃ y, w7.alloc (.cells #[.int .i64 0, .bool false] 88) = y := ⟨_, rfl⟩
      rw [show w7.alloc (.cells (rowF 2 (flF 0 false)) 88) = w8 from hw8] at F8
      rw [hw8] at I8 ⊢
      clear hw8 I7 c0 d0 d1 z2 p0 z3
      have hk5 : k = 0 ∨ k = 1 ∨ k = 2 ∨ k = 3 ∨ k = 4 := by omega
      clear hlt
      rcases hk5 with hk0 | hk0 | hk0 | hk0 | hk0
      ·
        have hcl : clF w4.heap.size k = .func (.func 40) #[.pointer (some ⟨w4.heap.size, 0, none⟩)] #[] := by rw [hk0]; rfl
        rw [hcl]
        obtain rfl : cc = ct0 := (HCC.out).1 (by omega)
        obtain ⟨ee, hee⟩ : ∃ y, stgE s q v b x 0 = y := ⟨_, rfl⟩
        have EE := Lib.hid hee
        have PRE : Hid (∀ j, j < 0 → stgE s q v b x j = 0) := Lib.hid (hk0 ▸ HPR.out)
        have CT := xvalid_any s q v b x ct0 w4.heap.size w8 I8.out.ex
        rw [show chkSs s = ee from hee] at CT
        have CTH := Lib.hid CT
        clear CT hee hcl
        go_wp2_with fail
        refine (CTH.out).mono ?_
        rintro e w9 ⟨rfl, b9⟩
        have I9 := Lib.hid (I8.out.below b9)
        have F9 := Lib.hid (F8.out.below b9)
        clear b9
        clear CTH I8 F8
        by_cases h0 : ee = 0
        · subst h0
          rw [show refV 0 false = .nilIface from rfl]
          go_wp2_with fail
          refine (eas_nil _ _).mono ?_
          rintro e w10 ⟨rfl, b10⟩
          have I10 := Lib.hid (I9.out.below b10)
          clear b10 I9 F9
          go_wp2_with fail
          go_roundg (gk - 1)
          case measure => have := HLT.out; omega
          case rel =>
            go_light
            exact ⟨k + 1, ct0, by have := HLT.out; omega, by go_num, Lib.hid (by rw [hk0]; intro j hj; rcases Nat.lt_succ_iff_lt_or_eq.1 hj with h | h; exact PRE.out j h; rw [h]; exact EE.out), Lib.hid ⟨fun h => rfl, fun h => absurd h (by omega)⟩, I10⟩
        · rw [show refV ee false = .iface 88 (.agg #[.int .i64 ee, .bool false]) from if_neg h0]
          have H0 := Lib.hid h0
          clear h0
          go_wp2_with fail
          refine (eas_hit ee false w7.heap.size (flF 0 false) _ I9.out.err F9.out).mono ?_
          rintro e w10 ⟨rfl, r10, o10⟩
          have FR := Lib.hid r10
          have I10 := Lib.hid (I9.out.fresh o10 N7.out (by have := L0.out; have := L1.out; have := L2.out; have := L3.out; have := L4.out; have := L5.out; have := L6.out; have := N7.out; omega) (by have := L0.out; have := L1.out; have := L2.out; have := L3.out; have := L4.out; have := L5.out; have := L6.out; have := N7.out; omega) (by have := L0.out; have := L1.out; have := L2.out; have := L3.out; have := L4.out; have := L5.out; have := L6.out; have := N7.out; omega) (by have := L0.out; have := L1.out; have := L2.out; have := L3.out; have := L4.out; have := L5.out; have := L6.out; have := N7.out; omega) (by have := L0.out; have := L1.out; have := L2.out; have := L3.out; have := L4.out; have := L5.out; have := L6.out; have := N7.out; omega) (by have := L0.out; have := L1.out; have := L2.out; have := L3.out; have := L4.out; have := L5.out; have := L6.out; have := N7.out; omega) HT.out HE.out)
          clear r10 o10 I9 F9
          obtain ⟨hAE, rfl, rfl⟩ : ee = AE ∧ AS = ss0 ∧ AC = ct0 := by
            have h := AF.out 0 (by decide) PRE.out (by rw [EE.out]; exact H0.out)
            rw [EE.out] at h
            exact ⟨h.1.symm, h.2⟩
          subst hAE
          have x1 : _ = some (Value.bool false) := FR.out.cell (i := 1) (by decide)
          go_upto_region 10 with fail
          clear x1
          refine Tc.wp_region_plan (keep w10.heap.size) 6 [] (.fl 0 (.fl 1 (.fl 2 (.fl 3 (.one 4 (.one 5 .done)))))) (by kernel_rfl) (by kernel_rfl) ?_
          intro w11 b11 e11
          have BB11 : Hid (Below w10.heap.size w10 w11) := Lib.hid b11
          clear b11 e11
          refine Tc.plan_floats [0, 1, 2, 3] [_, _, _, _] rfl ?_
          dsimp only [List.getElem_toArray, List.getElem_cons_succ, List.getElem_cons_zero]
          repeat (first | go_big_quiet_skip | (go_big_quiet_want; go_big_quiet_op; first | go_big_quiet_on | (refine ⟨_, fun _ _ => rfl, ?_⟩; go_big_quiet_on)))
          refine wpQuiet_load_part rfl 25 (.tmp 10) rfl w2.heap.size 0 rfl 6 6 _ (ssC ss0) (ssC ss0) (fun W hW => row_keep (n := w10.heap.size) ((I10.out.z10).below BB11.out) ((I10.out.z10).lt) hW) (by decide) (fun j _ => by rw [Nat.zero_add]) _ Tryz.underlying25 rfl (by kernel_rfl) ?_
          simp only [Act.put, List.setIfInBounds_toArray, List.set_cons_succ, List.set_cons_zero]
          repeat (first | go_big_quiet_skip | (go_big_quiet_want; go_big_quiet_op; first | go_big_quiet_on | (refine ⟨_, fun _ _ => rfl, ?_⟩; go_big_quiet_on)))
          refine wpQuiet_load_part rfl 44 (.tmp 11) rfl w3.heap.size 0 rfl 8 8 _ (ctC ct0) (ctC ct0) (fun W hW => row_keep (n := w10.heap.size) ((I10.out.z11).below BB11.out) ((I10.out.z11).lt) hW) (by decide) (fun j _ => by rw [Nat.zero_add]) _ Tryz.underlying44 rfl (by kernel_rfl) ?_
          simp only [Act.put, List.setIfInBounds_toArray, List.set_cons_succ, List.set_cons_zero]
          repeat (first | go_big_quiet_skip | (go_big_quiet_want; go_big_quiet_op; first | go_big_quiet_on | (refine ⟨_, fun _ _ => rfl, ?_⟩; go_big_quiet_on)))
          refine wpQuiet_load_cell rfl 27 (.tmp 48) rfl w7.heap.size 0 rfl _ Tryz.underlying27 rfl (.int .i64 ee) (fun W hW => cell_keep (n := w10.heap.size) (((FR.out).below BB11.out).cell (i := 0) (by decide)) ((FR.out).lt) hW) ?_
          simp only [Act.put, List.setIfInBounds_toArray, List.set_cons_succ, List.set_cons_zero]
          repeat (first | go_big_quiet_skip | (go_big_quiet_want; go_big_quiet_op; first | go_big_quiet_on | (refine ⟨_, fun _ _ => rfl, ?_⟩; go_big_quiet_on)))
          refine wpQuiet_nil ?_
          refine Tc.plan_one 4 rfl (fun K hK => ?_)
          refine wpList_store_rowV (o := ⟨none, .store 25 (.tmp 10) (.tmp 46), _, _, _, _⟩) rfl 25 (.tmp 10) (.tmp 46) rfl w2.heap.size rfl 6 25 _ (ssC ss0) rfl ((I10.out.z10).below BB11.out) (by kernel_rfl) (fun j _ => ssC_one ss0 j) ?_
          intro w12 S12 O12
          have bb := (same_row ((I10.out.z10).below BB11.out) S12.out O12.out).mono BB11.out.size
          have BB12 := Lib.hid (BB11.out.trans bb)
          refine (show wpList _ _ _ [] _ _ from hK _ _ (keep_below bb) ?_)
          clear hK K bb O12 BB11 S12
          refine Tc.plan_one 5 rfl (fun K hK => ?_)
          refine wpList_store_rowV (o := ⟨none, .store 44 (.tmp 11) (.tmp 47), _, _, _, _⟩) rfl 44 (.tmp 11) (.tmp 47) rfl w3.heap.size rfl 8 44 _ (ctC ct0) rfl ((I10.out.z11).below BB12.out) (by kernel_rfl) (fun j _ => ctC_one ct0 j) ?_
          intro w13 S13 O13
          have bb := (same_row ((I10.out.z11).below BB12.out) S13.out O13.out).mono BB12.out.size
          have BB13 := Lib.hid (BB12.out.trans bb)
          refine (show wpList _ _ _ [] _ _ from hK _ _ (keep_below bb) ?_)
          clear hK K bb O13 BB12 S13
          refine Tc.plan_done (l := [_]) rfl (fun K hK => ?_)
          go_wp2_with fail
          refine bodyPost_ret (v := .tuple #[.agg (rowF 6 (ssC ss0)), .agg (rowF 8 (ctC ct0)), .int .i64 ee]) (by exact results_rowV3 (fn := Tryz.f19) (p := 10) (p2 := 11) (u := 12) (ty := 25) (ty2 := 44) rfl _ _ w2.heap.size 6 25 _ _ rfl ((I10.out.z10).below BB13.out) Tryz.underlying25 rfl (by kernel_rfl) w3.heap.size 8 44 _ _ rfl ((I10.out.z11).below BB13.out) Tryz.underlying44 rfl (by kernel_rfl)) rfl ⟨rfl, ?_⟩
          exact (I10.out.bel).trans (BB13.out.mono (I10.out.bel).size)
      ·
        have hcl : clF w4.heap.size k = .func (.func 41) #[.pointer (some ⟨w4.heap.size, 0, none⟩)] #[] := by rw [hk0]; rfl
        rw [hcl]
        obtain rfl : cc = ct0 := (HCC.out).1 (by omega)
        obtain ⟨ee, hee⟩ : ∃ y, stgE s q v b x 1 = y := ⟨_, rfl⟩
        have EE := Lib.hid hee
        have PRE : Hid (∀ j, j < 1 → stgE s q v b x j = 0) := Lib.hid (hk0 ▸ HPR.out)
        have CT := xopen_any s q v b x ct0 w4.heap.size w8 I8.out.ex
        rw [show (if s.t = 5 then 381 else if s.d then 380 else 0) = ee from hee] at CT
        have CTH := Lib.hid CT
        clear CT hee hcl
        go_wp2_with fail
        refine (CTH.out).mono ?_
        rintro e w9 ⟨rfl, b9⟩
        obtain rfl := b9
        have I9 := I8
        have F9 := F8
        clear CTH
        by_cases h0 : ee = 0
        · subst h0
          rw [show refV 0 false = .nilIface from rfl]
          go_wp2_with fail
          refine (eas_nil _ _).mono ?_
          rintro e w10 ⟨rfl, b10⟩
          have I10 := Lib.hid (I9.out.below b10)
          clear b10 I9 F9
          go_wp2_with fail
          go_roundg (gk - 1)
          case measure => have := HLT.out; omega
          case rel =>
            go_light
            exact ⟨k + 1, ct0, by have := HLT.out; omega, by go_num, Lib.hid (by rw [hk0]; intro j hj; rcases Nat.lt_succ_iff_lt_or_eq.1 hj with h | h; exact PRE.out j h; rw [h]; exact EE.out), Lib.hid ⟨fun h => rfl, fun h => absurd h (by omega)⟩, I10⟩
        · rw [show refV ee false = .iface 88 (.agg #[.int .i64 ee, .bool false]) from if_neg h0]
          have H0 := Lib.hid h0
          clear h0
          go_wp2_with fail
          refine (eas_hit ee false w7.heap.size (flF 0 false) _ I9.out.err F9.out).mono ?_
          rintro e w10 ⟨rfl, r10, o10⟩
          have FR := Lib.hid r10
          have I10 := Lib.hid (I9.out.fresh o10 N7.out (by have := L0.out; have := L1.out; have := L2.out; have := L3.out; have := L4.out; have := L5.out; have := L6.out; have := N7.out; omega) (by have := L0.out; have := L1.out; have := L2.out; have := L3.out; have := L4.out; have := L5.out; have := L6.out; have := N7.out; omega) (by have := L0.out; have := L1.out; have := L2.out; have := L3.out; have := L4.out; have := L5.out; have := L6.out; have := N7.out; omega) (by have := L0.out; have := L1.out; have := L2.out; have := L3.out; have := L4.out; have := L5.out; have := L6.out; have := N7.out; omega) (by have := L0.out; have := L1.out; have := L2.out; have := L3.out; have := L4.out; have := L5.out; have := L6.out; have := N7.out; omega) (by have := L0.out; have := L1.out; have := L2.out; have := L3.out; have := L4.out; have := L5.out; have := L6.out; have := N7.out; omega) HT.out HE.out)
          clear r10 o10 I9 F9
          obtain ⟨hAE, rfl, rfl⟩ : ee = AE ∧ AS = ss0 ∧ AC = ct0 := by
            have h := AF.out 1 (by decide) PRE.out (by rw [EE.out]; exact H0.out)
            rw [EE.out] at h
            exact ⟨h.1.symm, h.2⟩
          subst hAE
          have x1 : _ = some (Value.bool false) := FR.out.cell (i := 1) (by decide)
          go_upto_region 10 with fail
          clear x1
          refine Tc.wp_region_plan (keep w10.heap.size) 6 [] (.fl 0 (.fl 1 (.fl 2 (.fl 3 (.one 4 (.one 5 .done)))))) (by kernel_rfl) (by kernel_rfl) ?_
          intro w11 b11 e11
          have BB11 : Hid (Below w10.heap.size w10 w11) := Lib.hid b11
          clear b11 e11
          refine Tc.plan_floats [0, 1, 2, 3] [_, _, _, _] rfl ?_
          dsimp only [List.getElem_toArray, List.getElem_cons_succ, List.getElem_cons_zero]
          repeat (first | go_big_quiet_skip | (go_big_quiet_want; go_big_quiet_op; first | go_big_quiet_on | (refine ⟨_, fun _ _ => rfl, ?_⟩; go_big_quiet_on)))
          refine wpQuiet_load_part rfl 25 (.tmp 10) rfl w2.heap.size 0 rfl 6 6 _ (ssC ss0) (ssC ss0) (fun W hW => row_keep (n := w10.heap.size) ((I10.out.z10).below BB11.out) ((I10.out.z10).lt) hW) (by decide) (fun j _ => by rw [Nat.zero_add]) _ Tryz.underlying25 rfl (by kernel_rfl) ?_
          simp only [Act.put, List.setIfInBounds_toArray, List.set_cons_succ, List.set_cons_zero]
          repeat (first | go_big_quiet_skip | (go_big_quiet_want; go_big_quiet_op; first | go_big_quiet_on | (refine ⟨_, fun _ _ => rfl, ?_⟩; go_big_quiet_on)))
          refine wpQuiet_load_part rfl 44 (.tmp 11) rfl w3.heap.size 0 rfl 8 8 _ (ctC ct0) (ctC ct0) (fun W hW => row_keep (n := w10.heap.size) ((I10.out.z11).below BB11.out) ((I10.out.z11).lt) hW) (by decide) (fun j _ => by rw [Nat.zero_add]) _ Tryz.underlying44 rfl (by kernel_rfl) ?_
          simp only [Act.put, List.setIfInBounds_toArray, List.set_cons_succ, List.set_cons_zero]
          repeat (first | go_big_quiet_skip | (go_big_quiet_want; go_big_quiet_op; first | go_big_quiet_on | (refine ⟨_, fun _ _ => rfl, ?_⟩; go_big_quiet_on)))
          refine wpQuiet_load_cell rfl 27 (.tmp 48) rfl w7.heap.size 0 rfl _ Tryz.underlying27 rfl (.int .i64 ee) (fun W hW => cell_keep (n := w10.heap.size) (((FR.out).below BB11.out).cell (i := 0) (by decide)) ((FR.out).lt) hW) ?_
          simp only [Act.put, List.setIfInBounds_toArray, List.set_cons_succ, List.set_cons_zero]
          repeat (first | go_big_quiet_skip | (go_big_quiet_want; go_big_quiet_op; first | go_big_quiet_on | (refine ⟨_, fun _ _ => rfl, ?_⟩; go_big_quiet_on)))
          refine wpQuiet_nil ?_
          refine Tc.plan_one 4 rfl (fun K hK => ?_)
          refine wpList_store_rowV (o := ⟨none, .store 25 (.tmp 10) (.tmp 46), _, _, _, _⟩) rfl 25 (.tmp 10) (.tmp 46) rfl w2.heap.size rfl 6 25 _ (ssC ss0) rfl ((I10.out.z10).below BB11.out) (by kernel_rfl) (fun j _ => ssC_one ss0 j) ?_
          intro w12 S12 O12
          have bb := (same_row ((I10.out.z10).below BB11.out) S12.out O12.out).mono BB11.out.size
          have BB12 := Lib.hid (BB11.out.trans bb)
          refine (show wpList _ _ _ [] _ _ from hK _ _ (keep_below bb) ?_)
          clear hK K bb O12 BB11 S12
          refine Tc.plan_one 5 rfl (fun K hK => ?_)
          refine wpList_store_rowV (o := ⟨none, .store 44 (.tmp 11) (.tmp 47), _, _, _, _⟩) rfl 44 (.tmp 11) (.tmp 47) rfl w3.heap.size rfl 8 44 _ (ctC ct0) rfl ((I10.out.z11).below BB12.out) (by kernel_rfl) (fun j _ => ctC_one ct0 j) ?_
          intro w13 S13 O13
          have bb := (same_row ((I10.out.z11).below BB12.out) S13.out O13.out).mono BB12.out.size
          have BB13 := Lib.hid (BB12.out.trans bb)
          refine (show wpList _ _ _ [] _ _ from hK _ _ (keep_below bb) ?_)
          clear hK K bb O13 BB12 S13
          refine Tc.plan_done (l := [_]) rfl (fun K hK => ?_)
          go_wp2_with fail
          refine bodyPost_ret (v := .tuple #[.agg (rowF 6 (ssC ss0)), .agg (rowF 8 (ctC ct0)), .int .i64 ee]) (by exact results_rowV3 (fn := Tryz.f19) (p := 10) (p2 := 11) (u := 12) (ty := 25) (ty2 := 44) rfl _ _ w2.heap.size 6 25 _ _ rfl ((I10.out.z10).below BB13.out) Tryz.underlying25 rfl (by kernel_rfl) w3.heap.size 8 44 _ _ rfl ((I10.out.z11).below BB13.out) Tryz.underlying44 rfl (by kernel_rfl)) rfl ⟨rfl, ?_⟩
          exact (I10.out.bel).trans (BB13.out.mono (I10.out.bel).size)
      ·
        have hcl : clF w4.heap.size k = .func (.func 42) #[.pointer (some ⟨w4.heap.size, 0, none⟩)] #[] := by rw [hk0]; rfl
        rw [hcl]
        obtain rfl : cc = ct0 := (HCC.out).1 (by omega)
        obtain ⟨ee, hee⟩ : ∃ y, stgE s q v b x 2 = y := ⟨_, rfl⟩
        have EE := Lib.hid hee
        have PRE : Hid (∀ j, j < 2 → stgE s q v b x j = 0) := Lib.hid (hk0 ▸ HPR.out)
        have CT := xformed_any s q v b x ct0 w4.heap.size w8 I8.out.ex
        rw [show (if fitsQ s q then 0 else 1) = ee from hee] at CT
        have CTH := Lib.hid CT
        clear CT hee hcl
        go_wp2_with fail
        refine (CTH.out).mono ?_
        rintro e w9 ⟨rfl, b9⟩
        have I9 := Lib.hid (I8.out.below b9)
        have F9 := Lib.hid (F8.out.below b9)
        clear b9
        clear CTH I8 F8
        by_cases h0 : ee = 0
        · subst h0
          rw [show refV 0 false = .nilIface from rfl]
          go_wp2_with fail
          refine (eas_nil _ _).mono ?_
          rintro e w10 ⟨rfl, b10⟩
          have I10 := Lib.hid (I9.out.below b10)
          clear b10 I9 F9
          go_wp2_with fail
          go_roundg (gk - 1)
          case measure => have := HLT.out; omega
          case rel =>
            go_light
            exact ⟨k + 1, ct0, by have := HLT.out; omega, by go_num, Lib.hid (by rw [hk0]; intro j hj; rcases Nat.lt_succ_iff_lt_or_eq.1 hj with h | h; exact PRE.out j h; rw [h]; exact EE.out), Lib.hid ⟨fun h => rfl, fun h => absurd h (by omega)⟩, I10⟩
        · rw [show refV ee false = .iface 88 (.agg #[.int .i64 ee, .bool false]) from if_neg h0]
          have H0 := Lib.hid h0
          clear h0
          go_wp2_with fail
          refine (eas_hit ee false w7.heap.size (flF 0 false) _ I9.out.err F9.out).mono ?_
          rintro e w10 ⟨rfl, r10, o10⟩
          have FR := Lib.hid r10
          have I10 := Lib.hid (I9.out.fresh o10 N7.out (by have := L0.out; have := L1.out; have := L2.out; have := L3.out; have := L4.out; have := L5.out; have := L6.out; have := N7.out; omega) (by have := L0.out; have := L1.out; have := L2.out; have := L3.out; have := L4.out; have := L5.out; have := L6.out; have := N7.out; omega) (by have := L0.out; have := L1.out; have := L2.out; have := L3.out; have := L4.out; have := L5.out; have := L6.out; have := N7.out; omega) (by have := L0.out; have := L1.out; have := L2.out; have := L3.out; have := L4.out; have := L5.out; have := L6.out; have := N7.out; omega) (by have := L0.out; have := L1.out; have := L2.out; have := L3.out; have := L4.out; have := L5.out; have := L6.out; have := N7.out; omega) (by have := L0.out; have := L1.out; have := L2.out; have := L3.out; have := L4.out; have := L5.out; have := L6.out; have := N7.out; omega) HT.out HE.out)
          clear r10 o10 I9 F9
          obtain ⟨hAE, rfl, rfl⟩ : ee = AE ∧ AS = ss0 ∧ AC = ct0 := by
            have h := AF.out 2 (by decide) PRE.out (by rw [EE.out]; exact H0.out)
            rw [EE.out] at h
            exact ⟨h.1.symm, h.2⟩
          subst hAE
          have x1 : _ = some (Value.bool false) := FR.out.cell (i := 1) (by decide)
          go_upto_region 10 with fail
          clear x1
          refine Tc.wp_region_plan (keep w10.heap.size) 6 [] (.fl 0 (.fl 1 (.fl 2 (.fl 3 (.one 4 (.one 5 .done)))))) (by kernel_rfl) (by kernel_rfl) ?_
          intro w11 b11 e11
          have BB11 : Hid (Below w10.heap.size w10 w11) := Lib.hid b11
          clear b11 e11
          refine Tc.plan_floats [0, 1, 2, 3] [_, _, _, _] rfl ?_
          dsimp only [List.getElem_toArray, List.getElem_cons_succ, List.getElem_cons_zero]
          repeat (first | go_big_quiet_skip | (go_big_quiet_want; go_big_quiet_op; first | go_big_quiet_on | (refine ⟨_, fun _ _ => rfl, ?_⟩; go_big_quiet_on)))
          refine wpQuiet_load_part rfl 25 (.tmp 10) rfl w2.heap.size 0 rfl 6 6 _ (ssC ss0) (ssC ss0) (fun W hW => row_keep (n := w10.heap.size) ((I10.out.z10).below BB11.out) ((I10.out.z10).lt) hW) (by decide) (fun j _ => by rw [Nat.zero_add]) _ Tryz.underlying25 rfl (by kernel_rfl) ?_
          simp only [Act.put, List.setIfInBounds_toArray, List.set_cons_succ, List.set_cons_zero]
          repeat (first | go_big_quiet_skip | (go_big_quiet_want; go_big_quiet_op; first | go_big_quiet_on | (refine ⟨_, fun _ _ => rfl, ?_⟩; go_big_quiet_on)))
          refine wpQuiet_load_part rfl 44 (.tmp 11) rfl w3.heap.size 0 rfl 8 8 _ (ctC ct0) (ctC ct0) (fun W hW => row_keep (n := w10.heap.size) ((I10.out.z11).below BB11.out) ((I10.out.z11).lt) hW) (by decide) (fun j _ => by rw [Nat.zero_add]) _ Tryz.underlying44 rfl (by kernel_rfl) ?_
          simp only [Act.put, List.setIfInBounds_toArray, List.set_cons_succ, List.set_cons_zero]
          repeat (first | go_big_quiet_skip | (go_big_quiet_want; go_big_quiet_op; first | go_big_quiet_on | (refine ⟨_, fun _ _ => rfl, ?_⟩; go_big_quiet_on)))
          refine wpQuiet_load_cell rfl 27 (.tmp 48) rfl w7.heap.size 0 rfl _ Tryz.underlying27 rfl (.int .i64 ee) (fun W hW => cell_keep (n := w10.heap.size) (((FR.out).below BB11.out).cell (i := 0) (by decide)) ((FR.out).lt) hW) ?_
          simp only [Act.put, List.setIfInBounds_toArray, List.set_cons_succ, List.set_cons_zero]
          repeat (first | go_big_quiet_skip | (go_big_quiet_want; go_big_quiet_op; first | go_big_quiet_on | (refine ⟨_, fun _ _ => rfl, ?_⟩; go_big_quiet_on)))
          refine wpQuiet_nil ?_
          refine Tc.plan_one 4 rfl (fun K hK => ?_)
          refine wpList_store_rowV (o := ⟨none, .store 25 (.tmp 10) (.tmp 46), _, _, _, _⟩) rfl 25 (.tmp 10) (.tmp 46) rfl w2.heap.size rfl 6 25 _ (ssC ss0) rfl ((I10.out.z10).below BB11.out) (by kernel_rfl) (fun j _ => ssC_one ss0 j) ?_
          intro w12 S12 O12
          have bb := (same_row ((I10.out.z10).below BB11.out) S12.out O12.out).mono BB11.out.size
          have BB12 := Lib.hid (BB11.out.trans bb)
          refine (show wpList _ _ _ [] _ _ from hK _ _ (keep_below bb) ?_)
          clear hK K bb O12 BB11 S12
          refine Tc.plan_one 5 rfl (fun K hK => ?_)
          refine wpList_store_rowV (o := ⟨none, .store 44 (.tmp 11) (.tmp 47), _, _, _, _⟩) rfl 44 (.tmp 11) (.tmp 47) rfl w3.heap.size rfl 8 44 _ (ctC ct0) rfl ((I10.out.z11).below BB12.out) (by kernel_rfl) (fun j _ => ctC_one ct0 j) ?_
          intro w13 S13 O13
          have bb := (same_row ((I10.out.z11).below BB12.out) S13.out O13.out).mono BB12.out.size
          have BB13 := Lib.hid (BB12.out.trans bb)
          refine (show wpList _ _ _ [] _ _ from hK _ _ (keep_below bb) ?_)
          clear hK K bb O13 BB12 S13
          refine Tc.plan_done (l := [_]) rfl (fun K hK => ?_)
          go_wp2_with fail
          refine bodyPost_ret (v := .tuple #[.agg (rowF 6 (ssC ss0)), .agg (rowF 8 (ctC ct0)), .int .i64 ee]) (by exact results_rowV3 (fn := Tryz.f19) (p := 10) (p2 := 11) (u := 12) (ty := 25) (ty2 := 44) rfl _ _ w2.heap.size 6 25 _ _ rfl ((I10.out.z10).below BB13.out) Tryz.underlying25 rfl (by kernel_rfl) w3.heap.size 8 44 _ _ rfl ((I10.out.z11).below BB13.out) Tryz.underlying44 rfl (by kernel_rfl)) rfl ⟨rfl, ?_⟩
          exact (I10.out.bel).trans (BB13.out.mono (I10.out.bel).size)
      ·
        have hcl : clF w4.heap.size k = .func (.func 43) #[.pointer (some ⟨w4.heap.size, 0, none⟩)] #[] := by rw [hk0]; rfl
        rw [hcl]
        obtain rfl : cc = ct0 := (HCC.out).1 (by omega)
        obtain ⟨ee, hee⟩ : ∃ y, stgE s q v b x 3 = y := ⟨_, rfl⟩
        have EE := Lib.hid hee
        have PRE : Hid (∀ j, j < 3 → stgE s q v b x j = 0) := Lib.hid (hk0 ▸ HPR.out)
        have CT := xcertify_any s q v b x ct0 w4.heap.size w8 I8.out.ex HC.out I8.out.tab
        rw [show crtE (certQ q v b) x = ee from hee] at CT
        have CTH := Lib.hid CT
        clear CT hee hcl
        go_wp2_with fail
        refine (CTH.out).mono ?_
        rintro e w9 ⟨rfl, r9, o9⟩
        have I9 := Lib.hid (I8.out.turn o9 r9 N4.out (by have := L0.out; have := L1.out; have := L2.out; have := L3.out; have := L4.out; have := L5.out; have := L6.out; have := N7.out; omega) (by have := L0.out; have := L1.out; have := L2.out; have := L3.out; have := L4.out; have := L5.out; have := L6.out; have := N7.out; omega) (by have := L0.out; have := L1.out; have := L2.out; have := L3.out; have := L4.out; have := L5.out; have := L6.out; have := N7.out; omega) (by have := L0.out; have := L1.out; have := L2.out; have := L3.out; have := L4.out; have := L5.out; have := L6.out; have := N7.out; omega) HT.out HE.out)
        have F9 := Lib.hid (o9.row (by have := N7.out; have := L5.out; have := L6.out; have := L4.out; omega) F8.out)
        clear r9 o9
        clear CTH I8 F8
        by_cases h0 : ee = 0
        · subst h0
          rw [show refV 0 false = .nilIface from rfl]
          go_wp2_with fail
          refine (eas_nil _ _).mono ?_
          rintro e w10 ⟨rfl, b10⟩
          have I10 := Lib.hid (I9.out.below b10)
          clear b10 I9 F9
          go_wp2_with fail
          go_roundg (gk - 1)
          case measure => have := HLT.out; omega
          case rel =>
            go_light
            exact ⟨k + 1, (crtV (certQ q v b) x), by have := HLT.out; omega, by go_num, Lib.hid (by rw [hk0]; intro j hj; rcases Nat.lt_succ_iff_lt_or_eq.1 hj with h | h; exact PRE.out j h; rw [h]; exact EE.out), Lib.hid ⟨fun h => absurd h (by omega), fun h => rfl⟩, I10⟩
        · rw [show refV ee false = .iface 88 (.agg #[.int .i64 ee, .bool false]) from if_neg h0]
          have H0 := Lib.hid h0
          clear h0
          go_wp2_with fail
          refine (eas_hit ee false w7.heap.size (flF 0 false) _ I9.out.err F9.out).mono ?_
          rintro e w10 ⟨rfl, r10, o10⟩
          have FR := Lib.hid r10
          have I10 := Lib.hid (I9.out.fresh o10 N7.out (by have := L0.out; have := L1.out; have := L2.out; have := L3.out; have := L4.out; have := L5.out; have := L6.out; have := N7.out; omega) (by have := L0.out; have := L1.out; have := L2.out; have := L3.out; have := L4.out; have := L5.out; have := L6.out; have := N7.out; omega) (by have := L0.out; have := L1.out; have := L2.out; have := L3.out; have := L4.out; have := L5.out; have := L6.out; have := N7.out; omega) (by have := L0.out; have := L1.out; have := L2.out; have := L3.out; have := L4.out; have := L5.out; have := L6.out; have := N7.out; omega) (by have := L0.out; have := L1.out; have := L2.out; have := L3.out; have := L4.out; have := L5.out; have := L6.out; have := N7.out; omega) (by have := L0.out; have := L1.out; have := L2.out; have := L3.out; have := L4.out; have := L5.out; have := L6.out; have := N7.out; omega) HT.out HE.out)
          clear r10 o10 I9 F9
          obtain ⟨hAE, rfl, rfl⟩ : ee = AE ∧ AS = ss0 ∧ AC = ct0 := by
            have h := AF.out 3 (by decide) PRE.out (by rw [EE.out]; exact H0.out)
            rw [EE.out] at h
            exact ⟨h.1.symm, h.2⟩
          subst hAE
          have x1 : _ = some (Value.bool false) := FR.out.cell (i := 1) (by decide)
          go_upto_region 10 with fail
          clear x1
          refine Tc.wp_region_plan (keep w10.heap.size) 6 [] (.fl 0 (.fl 1 (.fl 2 (.fl 3 (.one 4 (.one 5 .done)))))) (by kernel_rfl) (by kernel_rfl) ?_
          intro w11 b11 e11
          have BB11 : Hid (Below w10.heap.size w10 w11) := Lib.hid b11
          clear b11 e11
          refine Tc.plan_floats [0, 1, 2, 3] [_, _, _, _] rfl ?_
          dsimp only [List.getElem_toArray, List.getElem_cons_succ, List.getElem_cons_zero]
          repeat (first | go_big_quiet_skip | (go_big_quiet_want; go_big_quiet_op; first | go_big_quiet_on | (refine ⟨_, fun _ _ => rfl, ?_⟩; go_big_quiet_on)))
          refine wpQuiet_load_part rfl 25 (.tmp 10) rfl w2.heap.size 0 rfl 6 6 _ (ssC ss0) (ssC ss0) (fun W hW => row_keep (n := w10.heap.size) ((I10.out.z10).below BB11.out) ((I10.out.z10).lt) hW) (by decide) (fun j _ => by rw [Nat.zero_add]) _ Tryz.underlying25 rfl (by kernel_rfl) ?_
          simp only [Act.put, List.setIfInBounds_toArray, List.set_cons_succ, List.set_cons_zero]
          repeat (first | go_big_quiet_skip | (go_big_quiet_want; go_big_quiet_op; first | go_big_quiet_on | (refine ⟨_, fun _ _ => rfl, ?_⟩; go_big_quiet_on)))
          refine wpQuiet_load_part rfl 44 (.tmp 11) rfl w3.heap.size 0 rfl 8 8 _ (ctC ct0) (ctC ct0) (fun W hW => row_keep (n := w10.heap.size) ((I10.out.z11).below BB11.out) ((I10.out.z11).lt) hW) (by decide) (fun j _ => by rw [Nat.zero_add]) _ Tryz.underlying44 rfl (by kernel_rfl) ?_
          simp only [Act.put, List.setIfInBounds_toArray, List.set_cons_succ, List.set_cons_zero]
          repeat (first | go_big_quiet_skip | (go_big_quiet_want; go_big_quiet_op; first | go_big_quiet_on | (refine ⟨_, fun _ _ => rfl, ?_⟩; go_big_quiet_on)))
          refine wpQuiet_load_cell rfl 27 (.tmp 48) rfl w7.heap.size 0 rfl _ Tryz.underlying27 rfl (.int .i64 ee) (fun W hW => cell_keep (n := w10.heap.size) (((FR.out).below BB11.out).cell (i := 0) (by decide)) ((FR.out).lt) hW) ?_
          simp only [Act.put, List.setIfInBounds_toArray, List.set_cons_succ, List.set_cons_zero]
          repeat (first | go_big_quiet_skip | (go_big_quiet_want; go_big_quiet_op; first | go_big_quiet_on | (refine ⟨_, fun _ _ => rfl, ?_⟩; go_big_quiet_on)))
          refine wpQuiet_nil ?_
          refine Tc.plan_one 4 rfl (fun K hK => ?_)
          refine wpList_store_rowV (o := ⟨none, .store 25 (.tmp 10) (.tmp 46), _, _, _, _⟩) rfl 25 (.tmp 10) (.tmp 46) rfl w2.heap.size rfl 6 25 _ (ssC ss0) rfl ((I10.out.z10).below BB11.out) (by kernel_rfl) (fun j _ => ssC_one ss0 j) ?_
          intro w12 S12 O12
          have bb := (same_row ((I10.out.z10).below BB11.out) S12.out O12.out).mono BB11.out.size
          have BB12 := Lib.hid (BB11.out.trans bb)
          refine (show wpList _ _ _ [] _ _ from hK _ _ (keep_below bb) ?_)
          clear hK K bb O12 BB11 S12
          refine Tc.plan_one 5 rfl (fun K hK => ?_)
          refine wpList_store_rowV (o := ⟨none, .store 44 (.tmp 11) (.tmp 47), _, _, _, _⟩) rfl 44 (.tmp 11) (.tmp 47) rfl w3.heap.size rfl 8 44 _ (ctC ct0) rfl ((I10.out.z11).below BB12.out) (by kernel_rfl) (fun j _ => ctC_one ct0 j) ?_
          intro w13 S13 O13
          have bb := (same_row ((I10.out.z11).below BB12.out) S13.out O13.out).mono BB12.out.size
          have BB13 := Lib.hid (BB12.out.trans bb)
          refine (show wpList _ _ _ [] _ _ from hK _ _ (keep_below bb) ?_)
          clear hK K bb O13 BB12 S13
          refine Tc.plan_done (l := [_]) rfl (fun K hK => ?_)
          go_wp2_with fail
          refine bodyPost_ret (v := .tuple #[.agg (rowF 6 (ssC ss0)), .agg (rowF 8 (ctC ct0)), .int .i64 ee]) (by exact results_rowV3 (fn := Tryz.f19) (p := 10) (p2 := 11) (u := 12) (ty := 25) (ty2 := 44) rfl _ _ w2.heap.size 6 25 _ _ rfl ((I10.out.z10).below BB13.out) Tryz.underlying25 rfl (by kernel_rfl) w3.heap.size 8 44 _ _ rfl ((I10.out.z11).below BB13.out) Tryz.underlying44 rfl (by kernel_rfl)) rfl ⟨rfl, ?_⟩
          exact (I10.out.bel).trans (BB13.out.mono (I10.out.bel).size)
      ·
        have hcl : clF w4.heap.size k = .func (.func 44) #[.pointer (some ⟨w4.heap.size, 0, none⟩)] #[] := by rw [hk0]; rfl
        rw [hcl]
        obtain rfl : cc = (crtV (certQ q v b) x) := (HCC.out).2 (by omega)
        obtain ⟨ee, hee⟩ : ∃ y, stgE s q v b x 4 = y := ⟨_, rfl⟩
        have EE := Lib.hid hee
        have PRE : Hid (∀ j, j < 4 → stgE s q v b x j = 0) := Lib.hid (hk0 ▸ HPR.out)
        have CT := xproved_any s q v b x (crtV (certQ q v b) x) w4.heap.size w8 I8.out.ex HQ.out (shared_of (PRE.out 0 (by decide)) (PRE.out 2 (by decide))) I8.out.tab
        rw [show (if q.pf = wantL s q then 0 else 380) = ee from hee] at CT
        have CTH := Lib.hid CT
        clear CT hee hcl
        go_wp2_with fail
        refine (CTH.out).mono ?_
        rintro e w9 ⟨rfl, b9⟩
        have I9 := Lib.hid (I8.out.below b9)
        have F9 := Lib.hid (F8.out.below b9)
        clear b9
        clear CTH I8 F8
        by_cases h0 : ee = 0
        · subst h0
          rw [show refV 0 true = .nilIface from rfl]
          go_wp2_with fail
          refine (eas_nil _ _).mono ?_
          rintro e w10 ⟨rfl, b10⟩
          have I10 := Lib.hid (I9.out.below b10)
          clear b10 I9 F9
          go_wp2_with fail
          go_roundg (gk - 1)
          case measure => have := HLT.out; omega
          case rel =>
            go_light
            exact ⟨k + 1, (crtV (certQ q v b) x), by have := HLT.out; omega, by go_num, Lib.hid (by rw [hk0]; intro j hj; rcases Nat.lt_succ_iff_lt_or_eq.1 hj with h | h; exact PRE.out j h; rw [h]; exact EE.out), Lib.hid ⟨fun h => absurd h (by omega), fun h => rfl⟩, I10⟩
        · rw [show refV ee true = .iface 88 (.agg #[.int .i64 ee, .bool true]) from if_neg h0]
          have H0 := Lib.hid h0
          clear h0
          go_wp2_with fail
          refine (eas_hit ee true w7.heap.size (flF 0 false) _ I9.out.err F9.out).mono ?_
          rintro e w10 ⟨rfl, r10, o10⟩
          have FR := Lib.hid r10
          have I10 := Lib.hid (I9.out.fresh o10 N7.out (by have := L0.out; have := L1.out; have := L2.out; have := L3.out; have := L4.out; have := L5.out; have := L6.out; have := N7.out; omega) (by have := L0.out; have := L1.out; have := L2.out; have := L3.out; have := L4.out; have := L5.out; have := L6.out; have := N7.out; omega) (by have := L0.out; have := L1.out; have := L2.out; have := L3.out; have := L4.out; have := L5.out; have := L6.out; have := N7.out; omega) (by have := L0.out; have := L1.out; have := L2.out; have := L3.out; have := L4.out; have := L5.out; have := L6.out; have := N7.out; omega) (by have := L0.out; have := L1.out; have := L2.out; have := L3.out; have := L4.out; have := L5.out; have := L6.out; have := N7.out; omega) (by have := L0.out; have := L1.out; have := L2.out; have := L3.out; have := L4.out; have := L5.out; have := L6.out; have := N7.out; omega) HT.out HE.out)
          clear r10 o10 I9 F9
          obtain ⟨h380, hAE, rfl, rfl⟩ := AB.out PRE.out (by rw [EE.out]; exact H0.out)
          obtain rfl : ee = 380 := EE.out.symm.trans h380
          subst hAE
          have x1 : _ = some (Value.bool true) := FR.out.cell (i := 1) (by decide)
          go_wp2_with (first | ((with_reducible (show wpList _ _ _ (Oper.mk (some 41) _ _ _ _ _ :: _) _ _)); refine Hid.out ?_))
          refine Lib.hid ?_
          refine wpList_load_rowV rfl 25 (.tmp 5) rfl w.heap.size rfl 6 _ _ (I10.out.s5) _ Tryz.underlying25 rfl (by kernel_rfl) ?_
          clear x1
          go_wp2_with (first | ((with_reducible (show wpList _ _ _ (Oper.mk none _ _ _ _ _ :: _) _ _)); refine Hid.out ?_))
          refine Lib.hid ?_
          refine wpList_store_rowV rfl 25 (.tmp 10) (.tmp 41) rfl w2.heap.size rfl 6 _ _ _ rfl (I10.out.z10) (by kernel_rfl) (fun j _ => ssC_one s j) ?_
          intro w11 S11 O11
          have x4 : w11.cell? ⟨w2.heap.size, 4, none⟩ = some (.int .i64 s.t) := ss_cell S11.out (i := 4) (by decide)
          have f4 : w11.frozen? ⟨w2.heap.size, 4, none⟩ = false := S11.out.frozen 4
          have tw : IntKind.i64.wrap (s.t + 1) = s.t + 1 := IntWalk.i64_in _ (by have := okSs_side (okSs_of (PRE.out 0 (by decide))); omega)
          go_upto_region 10 with fail
          clear x4 f4 tw
          have S12 := Lib.hid (show RowV (w11.setCell ⟨w2.heap.size, 4, none⟩ (.int .i64 (s.t + 1))) w2.heap.size 25 6 (ssC ⟨s.r, s.c, s.x, s.p, s.t + 1, s.d⟩) from (S11.out.set 4 (.int .i64 (s.t + 1))).congr (fun i hi => by match i, hi with | 0, _ => rfl | 1, _ => rfl | 2, _ => rfl | 3, _ => rfl | 4, _ => rfl | 5, _ => rfl))
          have O12 := Lib.hid (O11.out.trans ((OnlyB.refl w2.heap.size w11).setCell (p := ⟨w2.heap.size, 4, none⟩) (.inl rfl) (.int .i64 (s.t + 1))))
          obtain ⟨w12, hw12⟩ : ∃ y, w11.setCell ⟨w2.heap.size, 4, none⟩ (.int .i64 (s.t + 1)) = y := ⟨_, rfl⟩
          rw [hw12] at S12 O12 ⊢
          clear hw12 S11 O11
          have FR12 := Lib.hid (O12.out.row (show w7.heap.size ≠ w2.heap.size by have := L0.out; have := L1.out; have := L2.out; have := L3.out; have := L4.out; have := L5.out; have := L6.out; have := N7.out; omega) FR.out)
          have Z12 := Lib.hid (O12.out.row (show w3.heap.size ≠ w2.heap.size by have := L0.out; have := L1.out; have := L2.out; have := L3.out; have := L4.out; have := L5.out; have := L6.out; have := N7.out; omega) I10.out.z11)
          have B12 := Lib.hid (I10.out.bel.trans (O12.out.below (show w.heap.size ≤ w2.heap.size by have := L0.out; have := L1.out; have := L2.out; have := L3.out; have := L4.out; have := L5.out; have := L6.out; have := N7.out; omega) I10.out.bel.size))
          clear FR O12 I10
          refine Tc.wp_region_plan (keep w12.heap.size) 6 [] (.fl 0 (.fl 1 (.fl 2 (.fl 3 (.one 4 (.one 5 .done)))))) (by kernel_rfl) (by kernel_rfl) ?_
          intro w13 b13 e13
          have BB13 : Hid (Below w12.heap.size w12 w13) := Lib.hid b13
          clear b13 e13
          refine Tc.plan_floats [0, 1, 2, 3] [_, _, _, _] rfl ?_
          dsimp only [List.getElem_toArray, List.getElem_cons_succ, List.getElem_cons_zero]
          repeat (first | go_big_quiet_skip | (go_big_quiet_want; go_big_quiet_op; first | go_big_quiet_on | (refine ⟨_, fun _ _ => rfl, ?_⟩; go_big_quiet_on)))
          refine wpQuiet_load_part rfl 25 (.tmp 10) rfl w2.heap.size 0 rfl 6 6 _ (ssC ⟨s.r, s.c, s.x, s.p, s.t + 1, s.d⟩) (ssC ⟨s.r, s.c, s.x, s.p, s.t + 1, s.d⟩) (fun W hW => row_keep (n := w12.heap.size) ((S12.out).below BB13.out) ((S12.out).lt) hW) (by decide) (fun j _ => by rw [Nat.zero_add]) _ Tryz.underlying25 rfl (by kernel_rfl) ?_
          simp only [Act.put, List.setIfInBounds_toArray, List.set_cons_succ, List.set_cons_zero]
          repeat (first | go_big_quiet_skip | (go_big_quiet_want; go_big_quiet_op; first | go_big_quiet_on | (refine ⟨_, fun _ _ => rfl, ?_⟩; go_big_quiet_on)))
          refine wpQuiet_load_part rfl 44 (.tmp 11) rfl w3.heap.size 0 rfl 8 8 _ (ctC ct0) (ctC ct0) (fun W hW => row_keep (n := w12.heap.size) ((Z12.out).below BB13.out) ((Z12.out).lt) hW) (by decide) (fun j _ => by rw [Nat.zero_add]) _ Tryz.underlying44 rfl (by kernel_rfl) ?_
          simp only [Act.put, List.setIfInBounds_toArray, List.set_cons_succ, List.set_cons_zero]
          repeat (first | go_big_quiet_skip | (go_big_quiet_want; go_big_quiet_op; first | go_big_quiet_on | (refine ⟨_, fun _ _ => rfl, ?_⟩; go_big_quiet_on)))
          refine wpQuiet_load_cell rfl 27 (.tmp 48) rfl w7.heap.size 0 rfl _ Tryz.underlying27 rfl (.int .i64 380) (fun W hW => cell_keep (n := w12.heap.size) (((FR12.out).below BB13.out).cell (i := 0) (by decide)) ((FR12.out).lt) hW) ?_
          simp only [Act.put, List.setIfInBounds_toArray, List.set_cons_succ, List.set_cons_zero]
          repeat (first | go_big_quiet_skip | (go_big_quiet_want; go_big_quiet_op; first | go_big_quiet_on | (refine ⟨_, fun _ _ => rfl, ?_⟩; go_big_quiet_on)))
          refine wpQuiet_nil ?_
          refine Tc.plan_one 4 rfl (fun K hK => ?_)
          refine wpList_store_rowV (o := ⟨none, .store 25 (.tmp 10) (.tmp 46), _, _, _, _⟩) rfl 25 (.tmp 10) (.tmp 46) rfl w2.heap.size rfl 6 25 _ (ssC ⟨s.r, s.c, s.x, s.p, s.t + 1, s.d⟩) rfl ((S12.out).below BB13.out) (by kernel_rfl) (fun j _ => ssC_one ⟨s.r, s.c, s.x, s.p, s.t + 1, s.d⟩ j) ?_
          intro w14 S14 O14
          have bb := (same_row ((S12.out).below BB13.out) S14.out O14.out).mono BB13.out.size
          have BB14 := Lib.hid (BB13.out.trans bb)
          refine (show wpList _ _ _ [] _ _ from hK _ _ (keep_below bb) ?_)
          clear hK K bb O14 BB13 S14
          refine Tc.plan_one 5 rfl (fun K hK => ?_)
          refine wpList_store_rowV (o := ⟨none, .store 44 (.tmp 11) (.tmp 47), _, _, _, _⟩) rfl 44 (.tmp 11) (.tmp 47) rfl w3.heap.size rfl 8 44 _ (ctC ct0) rfl ((Z12.out).below BB14.out) (by kernel_rfl) (fun j _ => ctC_one ct0 j) ?_
          intro w15 S15 O15
          have bb := (same_row ((Z12.out).below BB14.out) S15.out O15.out).mono BB14.out.size
          have BB15 := Lib.hid (BB14.out.trans bb)
          refine (show wpList _ _ _ [] _ _ from hK _ _ (keep_below bb) ?_)
          clear hK K bb O15 BB14 S15
          refine Tc.plan_done (l := [_]) rfl (fun K hK => ?_)
          go_wp2_with fail
          refine bodyPost_ret (v := .tuple #[.agg (rowF 6 (ssC ⟨s.r, s.c, s.x, s.p, s.t + 1, s.d⟩)), .agg (rowF 8 (ctC ct0)), .int .i64 380]) (by exact results_rowV3 (fn := Tryz.f19) (p := 10) (p2 := 11) (u := 12) (ty := 25) (ty2 := 44) rfl _ _ w2.heap.size 6 25 _ _ rfl ((S12.out).below BB15.out) Tryz.underlying25 rfl (by kernel_rfl) w3.heap.size 8 44 _ _ rfl ((Z12.out).below BB15.out) Tryz.underlying44 rfl (by kernel_rfl)) rfl ⟨rfl, ?_⟩
          exact (B12.out).trans (BB15.out.mono (B12.out).size)
    ·
      obtain rfl : k = 5 := by omega
      have d0 : decide (((5 : Nat) : Int) < 5) = false := by decide
      obtain rfl : cc = crtV (certQ q v b) x := (HCC.out).2 (by decide)
      obtain ⟨hAE, rfl, rfl⟩ := AG.out HPR.out
      subst hAE
      clear AF AB AG HPR HCC hk hlt
      go_wp2_with (first | ((with_reducible (show wpList _ _ _ (Oper.mk (some 51) _ _ _ _ _ :: _) _ _)); refine Hid.out ?_))
      refine Lib.hid ?_
      refine wpList_load_rowV rfl 25 (.tmp 5) rfl w.heap.size rfl 6 _ _ (I7.out.s5) _ Tryz.underlying25 rfl (by kernel_rfl) ?_
      go_wp2_with (first | ((with_reducible (show wpList _ _ _ (Oper.mk none _ _ _ _ _ :: _) _ _)); refine Hid.out ?_))
      refine Lib.hid ?_
      refine wpList_store_rowV rfl 25 (.tmp 10) (.tmp 51) rfl w2.heap.size rfl 6 _ _ _ rfl (I7.out.z10) (by kernel_rfl) (fun j _ => ssC_one s j) ?_
      intro w8 S8 O8
      have x5 : w8.cell? ⟨w2.heap.size, 5, none⟩ = some (.bool s.d) := ss_done S8.out
      have f5 : w8.frozen? ⟨w2.heap.size, 5, none⟩ = false := S8.out.frozen 5
      go_upto_region 14 with fail
      clear x5 f5
      have S9 := Lib.hid (show RowV (w8.setCell ⟨w2.heap.size, 5, none⟩ (.bool true)) w2.heap.size 25 6 (ssC ⟨s.r, s.c, s.x, s.p, s.t, true⟩) from (S8.out.set 5 (.bool true)).congr (fun i hi => by match i, hi with | 0, _ => rfl | 1, _ => rfl | 2, _ => rfl | 3, _ => rfl | 4, _ => rfl | 5, _ => rfl))
      have O9 := Lib.hid (O8.out.trans ((OnlyB.refl w2.heap.size w8).setCell (p := ⟨w2.heap.size, 5, none⟩) (.inl rfl) (.bool true)))
      obtain ⟨w9, hw9⟩ : ∃ y, w8.setCell ⟨w2.heap.size, 5, none⟩ (.bool true) = y := ⟨_, rfl⟩
      rw [hw9] at S9 O9 ⊢
      clear hw9 S8 O8
      have E9 := Lib.hid (O9.out.row (show w4.heap.size ≠ w2.heap.size by have := L0.out; have := L1.out; have := L2.out; have := L3.out; have := L4.out; have := L5.out; have := L6.out; have := N7.out; omega) I7.out.ex)
      have Z9 := Lib.hid (O9.out.row (show w3.heap.size ≠ w2.heap.size by have := L0.out; have := L1.out; have := L2.out; have := L3.out; have := L4.out; have := L5.out; have := L6.out; have := N7.out; omega) I7.out.z11)
      have B9 := Lib.hid (I7.out.bel.trans (O9.out.below (show w.heap.size ≤ w2.heap.size by have := L0.out; have := L1.out; have := L2.out; have := L3.out; have := L4.out; have := L5.out; have := L6.out; have := N7.out; omega) I7.out.bel.size))
      clear O9 I7
      refine Tc.wp_region_plan (Tc.Rl.stay (fun j => j = w2.heap.size ∨ j = w4.heap.size)) 5 [] (.fl 0 (.fl 1 (.fl 2 (.one 3 (.one 4 .done))))) (by kernel_rfl) (by kernel_rfl) ?_
      intro w10 b10 e10
      have S10 := Lib.hid (S9.out.below b10)
      have E10 := Lib.hid (E9.out.below b10)
      have Z10 := Lib.hid (Z9.out.below b10)
      have B10 := Lib.hid (B9.out.trans (b10.mono B9.out.size))
      clear b10 e10 S9 E9 Z9 B9
      refine Tc.plan_floats [0, 1, 2] [_, _, _] rfl ?_
      dsimp only [List.getElem_toArray, List.getElem_cons_succ, List.getElem_cons_zero]
      repeat (first | go_big_quiet_skip | (go_big_quiet_want; go_big_quiet_op; first | go_big_quiet_on | (refine ⟨_, fun _ _ => rfl, ?_⟩; go_big_quiet_on)))
      refine wpQuiet_load_part rfl 25 (.tmp 10) rfl w2.heap.size 0 rfl 6 6 _ (ssC ⟨s.r, s.c, s.x, s.p, s.t, true⟩) (ssC ⟨s.r, s.c, s.x, s.p, s.t, true⟩) (fun W hW => stay_row (S := fun j => j = w2.heap.size ∨ j = w4.heap.size) S10.out (.inl rfl) hW) (by decide) (fun j _ => by rw [Nat.zero_add]) _ Tryz.underlying25 rfl (by kernel_rfl) ?_
      simp only [Act.put, List.setIfInBounds_toArray, List.set_cons_succ, List.set_cons_zero]
      repeat (first | go_big_quiet_skip | (go_big_quiet_want; go_big_quiet_op; first | go_big_quiet_on | (refine ⟨_, fun _ _ => rfl, ?_⟩; go_big_quiet_on)))
      refine wpQuiet_load_part rfl 44 (.tmp 54) rfl w4.heap.size 45 rfl 53 8 _ (exC s q v b x (crtV (certQ q v b) x)) (ctC (crtV (certQ q v b) x)) (fun W hW => stay_row (S := fun j => j = w2.heap.size ∨ j = w4.heap.size) E10.out (.inr rfl) hW) (by decide) (exC_ct s q v b x (crtV (certQ q v b) x)) _ Tryz.underlying44 rfl (by kernel_rfl) ?_
      simp only [Act.put, List.setIfInBounds_toArray, List.set_cons_succ, List.set_cons_zero]
      repeat (first | go_big_quiet_skip | (go_big_quiet_want; go_big_quiet_op; first | go_big_quiet_on | (refine ⟨_, fun _ _ => rfl, ?_⟩; go_big_quiet_on)))
      refine wpQuiet_nil ?_
      refine Tc.plan_one 3 rfl (fun K hK => ?_)
      refine wpList_store_rowV (o := ⟨none, .store 25 (.tmp 10) (.tmp 53), _, _, _, _⟩) rfl 25 (.tmp 10) (.tmp 53) rfl w2.heap.size rfl 6 25 _ (ssC ⟨s.r, s.c, s.x, s.p, s.t, true⟩) rfl S10.out (by kernel_rfl) (fun j _ => ssC_one _ j) ?_
      intro w11 S11 O11
      have bb := same_row S10.out S11.out O11.out
      have E11 := Lib.hid (E10.out.below bb)
      have Z11 := Lib.hid (Z10.out.below bb)
      have B11 := Lib.hid (B10.out.trans (bb.mono B10.out.size))
      refine (show wpList _ _ _ [] _ _ from hK _ _ (stay_below bb (fun j hj => by rcases hj with rfl | rfl; exact S10.out.lt; exact E10.out.lt)) ?_)
      clear hK K bb O11 S10 E10 Z10 B10
      refine Tc.plan_one 4 rfl (fun K hK => ?_)
      refine wpList_store_rowV (o := ⟨none, .store 44 (.tmp 11) (.tmp 55), _, _, _, _⟩) rfl 44 (.tmp 11) (.tmp 55) rfl w3.heap.size rfl 8 44 _ (ctC (crtV (certQ q v b) x)) rfl Z11.out (by kernel_rfl) (fun j _ => ctC_one _ j) ?_
      intro w12 Z12 O12
      have S12 := Lib.hid (O12.out.row (show w2.heap.size ≠ w3.heap.size by have := L0.out; have := L1.out; have := L2.out; have := L3.out; have := L4.out; have := L5.out; have := L6.out; have := N7.out; omega) S11.out)
      have B12 := Lib.hid (B11.out.trans (O12.out.below (show w.heap.size ≤ w3.heap.size by have := L0.out; have := L1.out; have := L2.out; have := L3.out; have := L4.out; have := L5.out; have := L6.out; have := N7.out; omega) B11.out.size))
      refine (show wpList _ _ _ [] _ _ from hK _ _ (fun j hj => O12.out.block j (by rcases hj with rfl | rfl; exact S11.out.lt; exact E11.out.lt) (by rcases hj with rfl | rfl <;> (have := L0.out; have := L1.out; have := L2.out; have := L3.out; have := L4.out; have := L5.out; have := L6.out; have := N7.out; omega))) ?_)
      clear hK K O12 S11 E11 Z11 B11
      refine Tc.plan_done (l := [_]) rfl (fun K hK => ?_)
      go_wp2_with fail
      refine bodyPost_ret (v := .tuple #[.agg (rowF 6 (ssC ⟨s.r, s.c, s.x, s.p, s.t, true⟩)), .agg (rowF 8 (ctC (crtV (certQ q v b) x))), .int .i64 0]) (by exact results_rowV3 (fn := Tryz.f19) (p := 10) (p2 := 11) (u := 12) (ty := 25) (ty2 := 44) rfl _ _ w2.heap.size 6 25 _ _ rfl (S12.out) Tryz.underlying25 rfl (by kernel_rfl) w3.heap.size 8 44 _ _ rfl (Z12.out) Tryz.underlying44 rfl (by kernel_rfl)) rfl ⟨rfl, ?_⟩
      exact B12.out
end Go.Proofs.YtpekhdahamloaaaGreatDoor

namespace Go.Proofs.YtpekhdahamloaaaGreatDoor
open Go.RowKit Cod
set_option maxRecDepth 100000 in
set_option maxHeartbeats 16000000 in
theorem qwanted_any (s : Ss) (q : Rq) (hq : q.wf) (w : World) :
    Calls Tryz.prog 30 #[.agg (rowF 6 (ssC s)), .agg (rowF 36 (rqC q))] w fun e w' => e = .returned (digV (wantL s q)) ∧ Below w.heap.size w w' := by
  have C1 := fun W => rshared_any s.r s.c s.x q.pt W
  have KL := Lib.hid (sharedL_len s.r s.c s.x q.pt)
  have C2 : ∀ v W, BytesAt W v (sharedL s.r s.c s.x q.pt ++ [(2 : UInt8)]) → Calls Tryz.prog 73 #[.string ⟨#[112, 114, 111, 111, 102]⟩, v] W fun e w' => e = .returned (digV (proofL (sharedL s.r s.c s.x q.pt) 2)) ∧ Below W.heap.size W w' := fun v W hv => reftagged_any ⟨#[112, 114, 111, 111, 102]⟩ v _ W (by decide) (by rw [List.length_append, KL.out, List.length_singleton]; decide) hv
  have C3 := fun W => qproof_any (proofL (sharedL s.r s.c s.x q.pt) 2) (proofL_len _ _) q.dv q.vf q.lf hq.dv hq.vf hq.lf W
  rw [show prfL (proofL (sharedL s.r s.c s.x q.pt) 2) q.dv q.vf q.lf = wantL s q from rfl] at C3
  have hb1 : ∀ W B, RowV W B 54 32 (fun i => vB ((sharedL s.r s.c s.x q.pt).getD i 0)) → BytesAt W (.slice (some ⟨B, 0, none⟩) 32 32) (sharedL s.r s.c s.x q.pt) := fun W B h => RowV.bytesAt h KL.out (by decide) (by decide)
  obtain ⟨KY, hKY⟩ : ∃ y, sharedL s.r s.c s.x q.pt = y := ⟨_, rfl⟩
  obtain ⟨P, hP⟩ : ∃ y, proofL KY 2 = y := ⟨_, rfl⟩
  obtain ⟨L, hL⟩ : ∃ y, wantL s q = y := ⟨_, rfl⟩
  rw [hKY] at C1 C2 C3 hb1 KL
  rw [hP] at C2 C3
  rw [hL] at C3 ⊢
  have L1 := Lib.hid (show ([] : List UInt8).length + KY.length ≤ 140737488351232 from by rw [KL.out]; decide)
  have L2 := Lib.hid (show ([] ++ KY).length + [(2 : UInt8)].length ≤ 140737488351232 from by rw [List.nil_append, KL.out, List.length_singleton]; decide)
  unfold digV at C1 C3 ⊢
  have H1 := Lib.hid C1; have H2 := Lib.hid C2; have H3 := Lib.hid C3; have HB1 := Lib.hid hb1
  clear hq C1 C2 C3 hb1 hKY hP hL
  go_enter Tryz.func30, Tryz.ntmps30
  have B0 := Lib.hid (Below.refl w.heap.size w)
  go_upto_region 1 with fail
  obtain ⟨w1, hw1⟩ : ∃ y, w.alloc (.cells (rowF 6 (ssC s)) 25) = y := ⟨_, rfl⟩
  have b1 : Below w.heap.size w w1 := by rw [← hw1]; exact (Below.refl _ _).alloc (Nat.le_refl _) _
  have S1 : Hid (RowV w1 w.heap.size 25 6 (ssC s)) := Lib.hid (by rw [← hw1]; exact RowV.new w _ 6 (ssC s))
  have z1 : w.heap.size + 1 = w1.heap.size := by rw [← hw1]; exact (Array.size_push _).symm
  rw [hw1]
  (try rw [z1])
  have B1 := Lib.hid (B0.out.trans (b1.mono B0.out.size))
  clear b1 hw1 z1 B0
  have L0 := Lib.hid S1.out.lt
  obtain ⟨w2, hw2⟩ : ∃ y, w1.alloc (.cells (rowF 36 (rqC q)) 37) = y := ⟨_, rfl⟩
  have b2 : Below w1.heap.size w1 w2 := by rw [← hw2]; exact (Below.refl _ _).alloc (Nat.le_refl _) _
  have Q2 : Hid (RowV w2 w1.heap.size 37 36 (rqC q)) := Lib.hid (by rw [← hw2]; exact RowV.new w1 _ 36 (rqC q))
  have z2 : w1.heap.size + 1 = w2.heap.size := by rw [← hw2]; exact (Array.size_push _).symm
  rw [hw2]
  (try rw [z2])
  have B2 := Lib.hid (B1.out.trans (b2.mono B1.out.size))
  have S2 := Lib.hid (S1.out.below b2)
  clear b2 hw2 z2 B1 S1
  have LQ := Lib.hid Q2.out.lt
  obtain ⟨w3, hw3⟩ : ∃ y, w2.alloc (.cells #[.int .u8 0, .int .u8 0, .int .u8 0, .int .u8 0, .int .u8 0, .int .u8 0, .int .u8 0, .int .u8 0, .int .u8 0, .int .u8 0, .int .u8 0, .int .u8 0, .int .u8 0, .int .u8 0, .int .u8 0, .int .u8 0, .int .u8 0, .int .u8 0, .int .u8 0, .int .u8 0, .int .u8 0, .int .u8 0, .int .u8 0, .int .u8 0, .int .u8 0, .int .u8 0, .int .u8 0, .int .u8 0, .int .u8 0, .int .u8 0, .int .u8 0, .int .u8 0] 35) = y := ⟨_, rfl⟩
  have b3 : Below w2.heap.size w2 w3 := by rw [← hw3]; exact (Below.refl _ _).alloc (Nat.le_refl _) _
  have D3 : Hid (RowV w3 w2.heap.size 35 32 (fun _ => vB 0)) := Lib.hid (by rw [← hw3]; exact RowV.new w2 _ 32 (fun _ => vB 0))
  have z3 : w2.heap.size + 1 = w3.heap.size := by rw [← hw3]; exact (Array.size_push _).symm
  rw [hw3]
  (try rw [z3])
  have B3 := Lib.hid (B2.out.trans (b3.mono B2.out.size))
  have S3 := Lib.hid (S2.out.below b3)
  have Q3 := Lib.hid (Q2.out.below b3)
  clear b3 hw3 z3 B2 S2 Q2
  have LD := Lib.hid D3.out.lt
  have x0 : _ = some (Value.int .i64 s.r) := ss_cell S3.out (i := 0) (by decide)
  have x1 : _ = some (Value.int .i64 s.c) := ss_cell S3.out (i := 1) (by decide)
  have x2 : _ = some (Value.int .i64 s.x) := ss_cell S3.out (i := 2) (by decide)
  have x3 : w3.cell? ⟨w1.heap.size, 0, none⟩ = some (Value.int .i64 q.pt) := rq_cell Q3.out (i := 0) (by decide)
  go_wp2_with fail
  refine (H1.out _).mono ?_
  rintro e w4 ⟨rfl, b4⟩
  have B4 := Lib.hid (B3.out.trans (b4.mono B3.out.size))
  have S4 := Lib.hid (S3.out.below b4)
  have Q4 := Lib.hid (Q3.out.below b4)
  have D4 := Lib.hid (D3.out.below b4)
  clear b4 B3 S3 Q3 D3
  clear x0 x1 x2 x3
  clear S4
  have Zr := Lib.hid (RowV.new w4 54 32 (fun _ => vB 0))
  go_upto_region 2 with ((with_reducible (show wpList _ _ _ (Oper.mk none _ _ _ _ _ :: _) _ _)); refine wpList_store_rowV (o := ⟨none, .store 54 (.tmp 5) (.tmp 13), _, _, _, _⟩) rfl 54 (.tmp 5) (.tmp 13) rfl w4.heap.size rfl 32 54 _ (fun j => vB (KY.getD j 0)) rfl Zr.out (by kernel_rfl) (fun _ _ => rfl) ?_; intro w5 Y5 o5)
  have b5 : Below w4.heap.size w4 w5 := ((Below.refl _ _).alloc (Nat.le_refl _) _).trans (o5.out.below (Nat.le_refl _) (by rw [World.size_alloc]; omega))
  have B5 := Lib.hid (B4.out.trans (b5.mono B4.out.size))
  have Q5 := Lib.hid (Q4.out.below b5)
  have D5 := Lib.hid (D4.out.below b5)
  clear b5 o5 Zr B4 Q4 D4
  have DL := Lib.hid D5.out.lt
  refine Tc.wp_region_plan (keep w5.heap.size) 13 [] (.fl 1 (.fl 6 (.fl 7 (.fl 8 (.fl 9 (.fl 10 (.fl 11 (.two 0 3 (.two 2 3 (.one 3 (.one 4 (.one 5 (.one 12 .done)))) (.one 2 (.one 4 (.one 5 (.one 12 .done))))) (.one 0 (.one 2 (.one 4 (.one 5 (.one 12 .done))))))))))))) (by kernel_rfl) (by kernel_rfl) ?_
  intro w6 b6 e6
  have BB6 : Hid (Below w5.heap.size w5 w6) := Lib.hid b6
  clear b6 e6
  refine Tc.plan_floats [1, 6, 7, 8, 9, 10, 11] [_, _, _, _, _, _, _] rfl ?_
  dsimp only [List.getElem_toArray, List.getElem_cons_succ, List.getElem_cons_zero]
  repeat (first | go_big_quiet_skip | (go_big_quiet_want; go_big_quiet_op; first | go_big_quiet_on | (refine ⟨_, fun _ _ => rfl, ?_⟩; go_big_quiet_on)))
  repeat (first | go_big_quiet_skip | (go_big_quiet_want; go_big_quiet_op; first | go_big_quiet_on | (refine ⟨_, fun _ _ => rfl, ?_⟩; go_big_quiet_on)))
  refine wpQuiet_load_cell rfl 3 (.tmp 21) rfl w1.heap.size 1 rfl _ Tryz.underlying3 rfl (.int .i64 q.dv) (fun W hW => cell_keep (n := w5.heap.size) (rq_cell (Q5.out.below BB6.out) (i := 1) (by decide)) (Q5.out.lt) hW) ?_
  simp only [Act.put, List.setIfInBounds_toArray, List.set_cons_succ, List.set_cons_zero]
  repeat (first | go_big_quiet_skip | (go_big_quiet_want; go_big_quiet_op; first | go_big_quiet_on | (refine ⟨_, fun _ _ => rfl, ?_⟩; go_big_quiet_on)))
  refine wpQuiet_load_cell rfl 3 (.tmp 23) rfl w1.heap.size 2 rfl _ Tryz.underlying3 rfl (.int .i64 q.vf) (fun W hW => cell_keep (n := w5.heap.size) (rq_cell (Q5.out.below BB6.out) (i := 2) (by decide)) (Q5.out.lt) hW) ?_
  simp only [Act.put, List.setIfInBounds_toArray, List.set_cons_succ, List.set_cons_zero]
  repeat (first | go_big_quiet_skip | (go_big_quiet_want; go_big_quiet_op; first | go_big_quiet_on | (refine ⟨_, fun _ _ => rfl, ?_⟩; go_big_quiet_on)))
  refine wpQuiet_load_cell rfl 3 (.tmp 25) rfl w1.heap.size 3 rfl _ Tryz.underlying3 rfl (.int .i64 q.lf) (fun W hW => cell_keep (n := w5.heap.size) (rq_cell (Q5.out.below BB6.out) (i := 3) (by decide)) (Q5.out.lt) hW) ?_
  simp only [Act.put, List.setIfInBounds_toArray, List.set_cons_succ, List.set_cons_zero]
  repeat (first | go_big_quiet_skip | (go_big_quiet_want; go_big_quiet_op; first | go_big_quiet_on | (refine ⟨_, fun _ _ => rfl, ?_⟩; go_big_quiet_on)))
  refine wpQuiet_nil ?_
  refine Tc.plan_two 0 3 rfl rfl (fun K hK => ?_) (fun K hK => ?_)
  · go_wp2_with fail
    have al := (Below.refl _ w6).alloc (Nat.le_refl _) (.cells #[] 5)
    have R := Lib.hid (show Owns (w6.alloc (.cells #[] 5)) w5.heap.size (.slice (some ⟨w6.heap.size, 0, none⟩) 0 0) [] from Owns.emp0 BB6.out.size (MapKept.heap_alloc w6 _).1)
    have RL : Hid (w6.heap.size < (w6.alloc (.cells #[] 5)).heap.size) := Lib.hid (by rw [World.size_alloc]; omega)
    refine hK _ _ (keep_below (al.mono BB6.out.size)) ?_
    obtain ⟨w7, hw⟩ : ∃ y, w6.alloc (.cells #[] 5) = y := ⟨_, rfl⟩
    rw [hw] at al R RL ⊢
    have BB7 := Lib.hid (BB6.out.trans (al.mono BB6.out.size))
    have Z6 := RL
    have G7 := R
    clear hK K al hw R RL BB6
    refine Tc.plan_two 2 3 rfl rfl (fun K hK => ?_) (fun K hK => ?_)
    · refine wpList_app_bytes rfl (.tmp 15) (.tmp 16) rfl w5.heap.size _ _ [] KY rfl rfl G7.out (HB1.out _ _ (Y5.out.below BB7.out)) L1.out BB7.out.size ?_
      intro v8 w8 O8 s8
      have bb := below_app s8.out BB7.out.size (fun k hk => (World.ownsRow.lt G7.out k hk).1)
      have BB8 := Lib.hid (BB7.out.trans bb)
      go_wp2_with fail
      refine hK _ _ (keep_below bb) ?_
      clear hK K bb s8 BB7 G7
      refine Tc.plan_one 3 rfl (fun K hK => ?_)
      go_wp2_with fail
      have al := (Below.refl _ w8).alloc (Nat.le_refl _) (.cells #[.int .u8 2] 5)
      have R := Lib.hid (show RowV (w8.alloc (.cells #[.int .u8 2] 5)) w8.heap.size 5 1 (fun i => vB ([(2 : UInt8)].getD i 0)) from RowV.new w8 5 1 (fun i => vB ([(2 : UInt8)].getD i 0)))
      have RL : Hid (w8.heap.size < (w8.alloc (.cells #[.int .u8 2] 5)).heap.size) := Lib.hid (by rw [World.size_alloc]; omega)
      refine hK _ _ (keep_below (al.mono BB8.out.size)) ?_
      obtain ⟨w9, hw⟩ : ∃ y, w8.alloc (.cells #[.int .u8 2] 5) = y := ⟨_, rfl⟩
      rw [hw] at al R RL ⊢
      have BB9 := Lib.hid (BB8.out.trans (al.mono BB8.out.size))
      have Z8 := RL
      have O9 := Lib.hid (O8.out.below al)
      have X9 := R
      clear hK K al hw R RL BB8 O8
      refine Tc.plan_one 4 rfl (fun K hK => ?_)
      refine wpList_app_bytes rfl (.tmp 17) (.tmp 18) rfl w5.heap.size _ _ ([] ++ KY) [(2 : UInt8)] rfl rfl O9.out (RowV.bytesAt X9.out rfl (by decide) (by decide)) L2.out BB9.out.size ?_
      intro v10 w10 O10 s10
      have bb := below_app s10.out BB9.out.size (fun k hk => (World.ownsRow.lt O9.out k hk).1)
      have BB10 := Lib.hid (BB9.out.trans bb)
      have U10 := Lib.hid (O10.out.bytesAt (by have := L2.out; rw [List.length_append]; omega))
      rw [List.nil_append] at U10
      go_wp2_with fail
      refine hK _ _ (keep_below bb) ?_
      clear hK K bb s10 BB9 O9 X9 O10
      refine Tc.plan_one 5 rfl (fun K hK => ?_)
      go_wp2_with fail
      refine (H2.out _ _ U10.out).mono ?_
      rintro e w11 ⟨rfl, b11⟩
      have bb := b11.mono BB10.out.size
      have BB11 := Lib.hid (BB10.out.trans bb)
      have U11 := Lib.hid (U10.out.below b11)
      go_wp2_with fail
      refine hK _ _ (keep_below bb) ?_
      clear hK K bb b11 BB10 U10
      clear U11
      refine Tc.plan_one 12 rfl (fun K hK => ?_)
      go_wp2_with fail
      refine (H3.out _).mono ?_
      rintro e w12 ⟨rfl, b12⟩
      have bb := b12.mono BB11.out.size
      have BB12 := Lib.hid (BB11.out.trans bb)
      go_wp2_with fail
      refine hK _ _ (keep_below bb) ?_
      clear hK K bb b12 BB11
      have D12 := Lib.hid (D5.out.below BB12.out)
      have B12 := Lib.hid (B5.out.trans (BB12.out.mono B5.out.size))
      refine Tc.plan_done (l := [_]) rfl (fun K hK => ?_)
      refine wpList_store_rowV (o := ⟨none, .store 35 (.tmp 4) (.tmp 27), _, _, _, _⟩) rfl 35 (.tmp 4) (.tmp 27) rfl w2.heap.size rfl 32 35 _ (fun i => vB (L.getD i 0)) rfl D12.out (by kernel_rfl) (fun _ _ => rfl) ?_
      intro w99 D99 O99
      refine (show wpList _ _ _ [] _ _ from hK _ _ ?_)
      go_wp2_with fail
      refine bodyPost_ret (v := .agg (rowF 32 (fun i => vB (L.getD i 0)))) (by exact results_rowV (fn := Tryz.f30) (p := 4) (ty := 35) rfl _ _ w2.heap.size 32 35 _ _ rfl D99.out Tryz.underlying35 rfl (by kernel_rfl)) rfl ⟨rfl, ?_⟩
      exact B12.out.trans (O99.out.below (by have := L0.out; have := LQ.out; omega) B12.out.size)
    · go_wp2_with fail
      have al := (Below.refl _ w7).alloc (Nat.le_refl _) (.cells #[.int .u8 2] 5)
      have R := Lib.hid (show RowV (w7.alloc (.cells #[.int .u8 2] 5)) w7.heap.size 5 1 (fun i => vB ([(2 : UInt8)].getD i 0)) from RowV.new w7 5 1 (fun i => vB ([(2 : UInt8)].getD i 0)))
      have RL : Hid (w7.heap.size < (w7.alloc (.cells #[.int .u8 2] 5)).heap.size) := Lib.hid (by rw [World.size_alloc]; omega)
      refine hK _ _ (keep_below (al.mono BB7.out.size)) ?_
      obtain ⟨w8, hw⟩ : ∃ y, w7.alloc (.cells #[.int .u8 2] 5) = y := ⟨_, rfl⟩
      rw [hw] at al R RL ⊢
      have BB8 := Lib.hid (BB7.out.trans (al.mono BB7.out.size))
      have Z7 := RL
      have G8 := Lib.hid (G7.out.below al)
      have X8 := R
      clear hK K al hw R RL BB7 G7
      refine Tc.plan_one 2 rfl (fun K hK => ?_)
      refine wpList_app_bytes rfl (.tmp 15) (.tmp 16) rfl w5.heap.size _ _ [] KY rfl rfl G8.out (HB1.out _ _ (Y5.out.below BB8.out)) L1.out BB8.out.size ?_
      intro v9 w9 O9 s9
      have bb := below_app s9.out BB8.out.size (fun k hk => (World.ownsRow.lt G8.out k hk).1)
      have BB9 := Lib.hid (BB8.out.trans bb)
      have X9 := Lib.hid (s9.out.row X8.out (fun e => by have h1 : w6.heap.size = w7.heap.size := Option.some.inj e; have h2 := Z6.out; omega))
      go_wp2_with fail
      refine hK _ _ (keep_below bb) ?_
      clear hK K bb s9 BB8 G8 X8
      refine Tc.plan_one 4 rfl (fun K hK => ?_)
      refine wpList_app_bytes rfl (.tmp 17) (.tmp 18) rfl w5.heap.size _ _ ([] ++ KY) [(2 : UInt8)] rfl rfl O9.out (RowV.bytesAt X9.out rfl (by decide) (by decide)) L2.out BB9.out.size ?_
      intro v10 w10 O10 s10
      have bb := below_app s10.out BB9.out.size (fun k hk => (World.ownsRow.lt O9.out k hk).1)
      have BB10 := Lib.hid (BB9.out.trans bb)
      have U10 := Lib.hid (O10.out.bytesAt (by have := L2.out; rw [List.length_append]; omega))
      rw [List.nil_append] at U10
      go_wp2_with fail
      refine hK _ _ (keep_below bb) ?_
      clear hK K bb s10 BB9 O9 X9 O10
      refine Tc.plan_one 5 rfl (fun K hK => ?_)
      go_wp2_with fail
      refine (H2.out _ _ U10.out).mono ?_
      rintro e w11 ⟨rfl, b11⟩
      have bb := b11.mono BB10.out.size
      have BB11 := Lib.hid (BB10.out.trans bb)
      have U11 := Lib.hid (U10.out.below b11)
      go_wp2_with fail
      refine hK _ _ (keep_below bb) ?_
      clear hK K bb b11 BB10 U10
      clear U11
      refine Tc.plan_one 12 rfl (fun K hK => ?_)
      go_wp2_with fail
      refine (H3.out _).mono ?_
      rintro e w12 ⟨rfl, b12⟩
      have bb := b12.mono BB11.out.size
      have BB12 := Lib.hid (BB11.out.trans bb)
      go_wp2_with fail
      refine hK _ _ (keep_below bb) ?_
      clear hK K bb b12 BB11
      have D12 := Lib.hid (D5.out.below BB12.out)
      have B12 := Lib.hid (B5.out.trans (BB12.out.mono B5.out.size))
      refine Tc.plan_done (l := [_]) rfl (fun K hK => ?_)
      refine wpList_store_rowV (o := ⟨none, .store 35 (.tmp 4) (.tmp 27), _, _, _, _⟩) rfl 35 (.tmp 4) (.tmp 27) rfl w2.heap.size rfl 32 35 _ (fun i => vB (L.getD i 0)) rfl D12.out (by kernel_rfl) (fun _ _ => rfl) ?_
      intro w99 D99 O99
      refine (show wpList _ _ _ [] _ _ from hK _ _ ?_)
      go_wp2_with fail
      refine bodyPost_ret (v := .agg (rowF 32 (fun i => vB (L.getD i 0)))) (by exact results_rowV (fn := Tryz.f30) (p := 4) (ty := 35) rfl _ _ w2.heap.size 32 35 _ _ rfl D99.out Tryz.underlying35 rfl (by kernel_rfl)) rfl ⟨rfl, ?_⟩
      exact B12.out.trans (O99.out.below (by have := L0.out; have := LQ.out; omega) B12.out.size)
  · go_wp2_with fail
    have al := (Below.refl _ w6).alloc (Nat.le_refl _) (.cells #[.int .u8 2] 5)
    have R := Lib.hid (show RowV (w6.alloc (.cells #[.int .u8 2] 5)) w6.heap.size 5 1 (fun i => vB ([(2 : UInt8)].getD i 0)) from RowV.new w6 5 1 (fun i => vB ([(2 : UInt8)].getD i 0)))
    have RL : Hid (w6.heap.size < (w6.alloc (.cells #[.int .u8 2] 5)).heap.size) := Lib.hid (by rw [World.size_alloc]; omega)
    refine hK _ _ (keep_below (al.mono BB6.out.size)) ?_
    obtain ⟨w7, hw⟩ : ∃ y, w6.alloc (.cells #[.int .u8 2] 5) = y := ⟨_, rfl⟩
    rw [hw] at al R RL ⊢
    have BB7 := Lib.hid (BB6.out.trans (al.mono BB6.out.size))
    have Z6 := RL
    have X7 := R
    clear hK K al hw R RL BB6
    refine Tc.plan_one 0 rfl (fun K hK => ?_)
    go_wp2_with fail
    have al := (Below.refl _ w7).alloc (Nat.le_refl _) (.cells #[] 5)
    have R := Lib.hid (show Owns (w7.alloc (.cells #[] 5)) w5.heap.size (.slice (some ⟨w7.heap.size, 0, none⟩) 0 0) [] from Owns.emp0 BB7.out.size (MapKept.heap_alloc w7 _).1)
    have RL : Hid (w7.heap.size < (w7.alloc (.cells #[] 5)).heap.size) := Lib.hid (by rw [World.size_alloc]; omega)
    refine hK _ _ (keep_below (al.mono BB7.out.size)) ?_
    obtain ⟨w8, hw⟩ : ∃ y, w7.alloc (.cells #[] 5) = y := ⟨_, rfl⟩
    rw [hw] at al R RL ⊢
    have BB8 := Lib.hid (BB7.out.trans (al.mono BB7.out.size))
    have Z7 := RL
    have X8 := Lib.hid (X7.out.below al)
    have G8 := R
    clear hK K al hw R RL BB7 X7
    refine Tc.plan_one 2 rfl (fun K hK => ?_)
    refine wpList_app_bytes rfl (.tmp 15) (.tmp 16) rfl w5.heap.size _ _ [] KY rfl rfl G8.out (HB1.out _ _ (Y5.out.below BB8.out)) L1.out BB8.out.size ?_
    intro v9 w9 O9 s9
    have bb := below_app s9.out BB8.out.size (fun k hk => (World.ownsRow.lt G8.out k hk).1)
    have BB9 := Lib.hid (BB8.out.trans bb)
    have X9 := Lib.hid (s9.out.row X8.out (fun e => by have h1 : w7.heap.size = w6.heap.size := Option.some.inj e; have h2 := Z6.out; omega))
    go_wp2_with fail
    refine hK _ _ (keep_below bb) ?_
    clear hK K bb s9 BB8 G8 X8
    refine Tc.plan_one 4 rfl (fun K hK => ?_)
    refine wpList_app_bytes rfl (.tmp 17) (.tmp 18) rfl w5.heap.size _ _ ([] ++ KY) [(2 : UInt8)] rfl rfl O9.out (RowV.bytesAt X9.out rfl (by decide) (by decide)) L2.out BB9.out.size ?_
    intro v10 w10 O10 s10
    have bb := below_app s10.out BB9.out.size (fun k hk => (World.ownsRow.lt O9.out k hk).1)
    have BB10 := Lib.hid (BB9.out.trans bb)
    have U10 := Lib.hid (O10.out.bytesAt (by have := L2.out; rw [List.length_append]; omega))
    rw [List.nil_append] at U10
    go_wp2_with fail
    refine hK _ _ (keep_below bb) ?_
    clear hK K bb s10 BB9 O9 X9 O10
    refine Tc.plan_one 5 rfl (fun K hK => ?_)
    go_wp2_with fail
    refine (H2.out _ _ U10.out).mono ?_
    rintro e w11 ⟨rfl, b11⟩
    have bb := b11.mono BB10.out.size
    have BB11 := Lib.hid (BB10.out.trans bb)
    have U11 := Lib.hid (U10.out.below b11)
    go_wp2_with fail
    refine hK _ _ (keep_below bb) ?_
    clear hK K bb b11 BB10 U10
    clear U11
    refine Tc.plan_one 12 rfl (fun K hK => ?_)
    go_wp2_with fail
    refine (H3.out _).mono ?_
    rintro e w12 ⟨rfl, b12⟩
    have bb := b12.mono BB11.out.size
    have BB12 := Lib.hid (BB11.out.trans bb)
    go_wp2_with fail
    refine hK _ _ (keep_below bb) ?_
    clear hK K bb b12 BB11
    have D12 := Lib.hid (D5.out.below BB12.out)
    have B12 := Lib.hid (B5.out.trans (BB12.out.mono B5.out.size))
    refine Tc.plan_done (l := [_]) rfl (fun K hK => ?_)
    refine wpList_store_rowV (o := ⟨none, .store 35 (.tmp 4) (.tmp 27), _, _, _, _⟩) rfl 35 (.tmp 4) (.tmp 27) rfl w2.heap.size rfl 32 35 _ (fun i => vB (L.getD i 0)) rfl D12.out (by kernel_rfl) (fun _ _ => rfl) ?_
    intro w99 D99 O99
    refine (show wpList _ _ _ [] _ _ from hK _ _ ?_)
    go_wp2_with fail
    refine bodyPost_ret (v := .agg (rowF 32 (fun i => vB (L.getD i 0)))) (by exact results_rowV (fn := Tryz.f30) (p := 4) (ty := 35) rfl _ _ w2.heap.size 32 35 _ _ rfl D99.out Tryz.underlying35 rfl (by kernel_rfl)) rfl ⟨rfl, ?_⟩
    exact B12.out.trans (O99.out.below (by have := L0.out; have := LQ.out; omega) B12.out.size)
end Go.Proofs.YtpekhdahamloaaaGreatDoor

namespace Go.Proofs.YtpekhdahamloaaaGreatDoor
open Go.RowKit Cod
/-! what a host and a guest come to with one code -/
theorem ok_host {c a : Nat} (hc : c < 1000000) (ha1 : 1 ≤ a) (ha2 : a < 2305843009213688669) {p t : Int} {d : Bool} (hp : 0 ≤ p ∧ p < 64) (ht : 0 ≤ t ∧ t ≤ 5) : okSs ⟨1, (c : Int), (a : Int), p, t, d⟩ = true := by
  show (sideB 1 (c : Int) (a : Int) && decide ((1 : Int) = 1) && !decide (p < 0) && !decide (64 ≤ p) && !decide (t < 0) && !decide (5 < t)) = true
  rw [show sideB 1 (c : Int) (a : Int) = true from sideB_of (R := 1) (.inl rfl) hc ha1 ha2]
  rw [show decide (p < 0) = false by rw [decide_eq_false_iff_not]; omega, show decide (64 ≤ p) = false by rw [decide_eq_false_iff_not]; omega, show decide (t < 0) = false by rw [decide_eq_false_iff_not]; omega, show decide (5 < t) = false by rw [decide_eq_false_iff_not]; omega]
  rfl
theorem pt_host {c a : Nat} (hc : c < 1000000) (ha1 : 1 ≤ a) (ha2 : a < 2305843009213688669) : pointV 1 (c : Int) (a : Int) = ((pointS 1 c a : Nat) : Int) := by
  unfold pointV
  rw [if_pos (show sideB 1 (c : Int) (a : Int) = true from sideB_of (R := 1) (.inl rfl) hc ha1 ha2)]
  rfl
theorem pt_guest {c b : Nat} (hc : c < 1000000) (hb1 : 1 ≤ b) (hb2 : b < 2305843009213688669) : pointV 2 (c : Int) (b : Int) = ((pointS 2 c b : Nat) : Int) := by
  unfold pointV
  rw [if_pos (show sideB 2 (c : Int) (b : Int) = true from sideB_of (R := 2) (.inr rfl) hc hb1 hb2)]
  rfl
theorem shE_guest {c a b : Nat} (hc : c < 1000000) (hb1 : 1 ≤ b) (hb2 : b < 2305843009213688669) : sharedE 2 (c : Int) (b : Int) ((pointS 1 c a : Nat) : Int) = 0 := sharedE_yes (.inr rfl) hc hb1 hb2 (pointS_El 1 c a)
theorem shL_guest {c a b : Nat} (hc : c < 1000000) (hb1 : 1 ≤ b) (hb2 : b < 2305843009213688669) : sharedL 2 (c : Int) (b : Int) ((pointS 1 c a : Nat) : Int) = keyS 2 c b (pointS 1 c a) := sharedL_yes (.inr rfl) hc hb1 hb2 (pointS_El 1 c a)
theorem shL_host {c a b : Nat} (hc : c < 1000000) (ha1 : 1 ≤ a) (ha2 : a < 2305843009213688669) : sharedL 1 (c : Int) (a : Int) ((pointS 2 c b : Nat) : Int) = keyS 2 c b (pointS 1 c a) := by
  have h : sharedL 1 (c : Int) (a : Int) ((pointS 2 c b : Nat) : Int) = keyS 1 c a (pointS 2 c b) := sharedL_yes (.inl rfl) hc ha1 ha2 (pointS_El 2 c b)
  rw [h, pake_agree]
theorem ask_ok {c a b : Nat} (hc : c < 1000000) (hb1 : 1 ≤ b) (hb2 : b < 2305843009213688669) {dv vf lf : Int} (h : askB dv vf lf = true) : askE (c : Int) (b : Int) ((pointS 1 c a : Nat) : Int) dv vf lf = 0 ∧
    askV (c : Int) (b : Int) ((pointS 1 c a : Nat) : Int) dv vf lf = ⟨((pointS 2 c b : Nat) : Int), dv, vf, lf, prfL (proofL (keyS 2 c b (pointS 1 c a)) 2) dv vf lf⟩ := by
  have hs : sharedE 2 (c : Int) (b : Int) ((pointS 1 c a : Nat) : Int) = 0 := shE_guest hc hb1 hb2
  have e : askE (c : Int) (b : Int) ((pointS 1 c a : Nat) : Int) dv vf lf = 0 := by unfold askE; rw [if_pos h, hs]
  refine ⟨e, ?_⟩
  unfold askV
  rw [if_pos e, sharedE_prv hs, shL_guest hc hb1 hb2, pt_guest hc hb1 hb2]
theorem want_ok {c a b : Nat} (hc : c < 1000000) (ha1 : 1 ≤ a) (ha2 : a < 2305843009213688669) {p t dv vf lf : Int} {d : Bool} {pf : List UInt8} : wantL ⟨1, (c : Int), (a : Int), p, t, d⟩ ⟨((pointS 2 c b : Nat) : Int), dv, vf, lf, pf⟩ = prfL (proofL (keyS 2 c b (pointS 1 c a)) 2) dv vf lf := by
  unfold wantL
  rw [show sharedL (Ss.mk 1 (c : Int) (a : Int) p t d).r (Ss.mk 1 (c : Int) (a : Int) p t d).c (Ss.mk 1 (c : Int) (a : Int) p t d).x (Rq.mk ((pointS 2 c b : Nat) : Int) dv vf lf pf).pt = keyS 2 c b (pointS 1 c a) from shL_host hc ha1 ha2]
theorem chk_of {s : Ss} (h : okSs s = true) : chkSs s = 0 := by unfold chkSs; rw [if_pos h]
/-- a session that is neither locked nor done -/
theorem pre_go {s : Ss} {q : Rq} {v b x : Int} (h : okSs s = true) (ht : s.t ≠ 5) (hd : s.d = false) (hf : fitsQ s q = true) (hc : crtE (certQ q v b) x = 0) : preE s q v b x = 0 := by
  unfold preE
  rw [if_neg (by rw [chk_of h]; decide), if_neg ht, if_neg (by rw [hd]; decide), if_pos hf, hc]
theorem ans_done {s : Ss} {q : Rq} {v b x : Int} (h : okSs s = true) (ht : s.t ≠ 5) (hd : s.d = true) : ansE s q v b x = 380 ∧ ansS s q v b x = ss0 ∧ ansC s q v b x = ct0 := by
  refine ans_of ?_ (by decide)
  unfold preE
  rw [if_neg (by rw [chk_of h]; decide), if_neg ht, if_pos hd]
theorem ans_lock {s : Ss} {q : Rq} {v b x : Int} (h : okSs s = true) (ht : s.t = 5) : ansE s q v b x = 381 ∧ ansS s q v b x = ss0 ∧ ansC s q v b x = ct0 := by
  refine ans_of ?_ (by decide)
  unfold preE
  rw [if_neg (by rw [chk_of h]; decide), if_pos ht]
theorem ans_yes {s : Ss} {q : Rq} {v b x : Int} (p : preE s q v b x = 0) (h : q.pf = wantL s q) : ansE s q v b x = 0 ∧ ansS s q v b x = ⟨s.r, s.c, s.x, s.p, s.t, true⟩ ∧ ansC s q v b x = crtV (certQ q v b) x := by
  have e : ansE s q v b x = 0 := by unfold ansE; rw [if_neg (by rw [p]; decide), if_pos h]
  refine ⟨e, ?_, ?_⟩
  · unfold ansS; rw [if_neg (by rw [p]; decide), if_pos h]
  · unfold ansC; rw [if_pos e]
theorem ans_no {s : Ss} {q : Rq} {v b x : Int} (p : preE s q v b x = 0) (h : ¬ q.pf = wantL s q) : ansE s q v b x = 380 ∧ ansS s q v b x = ⟨s.r, s.c, s.x, s.p, s.t + 1, s.d⟩ ∧ ansC s q v b x = ct0 := by
  have e : ansE s q v b x = 380 := by unfold ansE; rw [if_neg (by rw [p]; decide), if_neg h]
  refine ⟨e, ?_, ?_⟩
  · unfold ansS; rw [if_neg (by rw [p]; decide), if_neg h]
  · unfold ansC; rw [if_neg (by rw [e]; decide)]
/-! the examples, in plain Lean -/
def vf9 : Nat := pubM 9
theorem vf9_El : El vf9 := pow4_El 9
def sX : Ss := ⟨1, 123456, 7, 1, 0, false⟩
def pX : Nat := pointS 1 123456 7
def rX : Rq := ⟨((pointS 2 123456 11 : Nat) : Int), 10, (vf9 : Int), 4, prfL (proofL (keyS 2 123456 11 pX) 2) 10 (vf9 : Int) 4⟩
theorem askB_X : askB 10 (vf9 : Int) 4 = true := by
  unfold askB
  rw [elemB_El vf9_El, show elemB 4 = true from elemB_El El4]
  rfl
theorem ok_X {t : Int} {d : Bool} (ht : 0 ≤ t ∧ t ≤ 5) : okSs ⟨1, 123456, 7, 1, t, d⟩ = true := ok_host (c := 123456) (a := 7) (by decide) (by decide) (by decide) (by decide) ht
theorem fits_X {q : Rq} {pt : Nat} (hp : El pt) {t : Int} {d : Bool} (h1 : q.pt = (pt : Int)) (h2 : q.dv = 10) (h3 : q.vf = (vf9 : Int)) (h4 : q.lf = 4) : fitsQ ⟨1, 123456, 7, 1, t, d⟩ q = true := by
  unfold fitsQ
  rw [h1, h2, h3, h4, elemB_El hp, elemB_El vf9_El, show elemB 4 = true from elemB_El El4]
  rfl
theorem crt_X {q : Rq} (h2 : q.dv = 10) (h3 : q.vf = (vf9 : Int)) (h4 : q.lf = 4) : crtE (certQ q 1 8) 5 = 0 := by
  unfold crtE certQ
  rw [h2, h3, h4]
  have e : formC (ctN 2 10 (vf9 : Int) 4 1 8) = true := by
    unfold formC kindB keysB
    show (devB 10 && !decide ((1 : Int) < 1) && !decide (1048576 < (1 : Int)) && (if (2 : Int) = 1 then _ else if (2 : Int) = 2 then (elemB (vf9 : Int) && elemB 4) && otherB 10 8 else _)) = true
    rw [if_neg (by decide), if_pos rfl, elemB_El vf9_El, show elemB 4 = true from elemB_El El4]
    rfl
  rw [if_pos e]
  rfl
theorem X_new : newE 1 123456 7 = 0 ∧ newV 1 123456 7 = sX := ⟨rfl, rfl⟩
theorem X_ask : askE 123456 11 (pX : Int) 10 (vf9 : Int) 4 = 0 ∧ askV 123456 11 (pX : Int) 10 (vf9 : Int) 4 = rX :=
  ask_ok (c := 123456) (a := 7) (b := 11) (by decide) (by decide) (by decide) askB_X
theorem X_pt : sptV sX = (pX : Int) := by
  have h : okSs sX = true := ok_X (t := 0) (d := false) (by decide)
  unfold sptV
  rw [if_pos h]
  exact pt_host (c := 123456) (a := 7) (by decide) (by decide) (by decide)
theorem pt_bd {a : Nat} (h : El a) : i64B (a : Int) := by have h2 := h.lt63; unfold i64B; omega
theorem rX_wf : rX.wf := ⟨pt_bd (pointS_El 2 123456 11), ⟨by decide, by decide⟩, pt_bd vf9_El, ⟨by decide, by decide⟩, prfL_len _ _ _ _⟩
def xX : Ss := ⟨1, 123456, 7, 1, 0, true⟩
def cX : Ct := crtV (certQ rX 1 8) 5
theorem cX_is : cX.d = 10 ∧ cX.v = (vf9 : Int) ∧ cX.l = 4 ∧ cX.b = 8 := by
  unfold cX
  rw [crt_is, if_pos (crt_X (q := rX) rfl rfl rfl)]
  exact ⟨rfl, rfl, rfl, rfl⟩
theorem X_ans : ansE sX rX 1 8 5 = 0 ∧ ansS sX rX 1 8 5 = xX ∧ ansC sX rX 1 8 5 = cX := by
  have p : preE sX rX 1 8 5 = 0 := pre_go (ok_X (by decide)) (show (0 : Int) ≠ 5 by decide) rfl (fits_X (q := rX) (pointS_El 2 123456 11) rfl rfl rfl rfl) (crt_X rfl rfl rfl)
  exact ans_yes p (want_ok (c := 123456) (a := 7) (b := 11) (by decide) (by decide) (by decide)).symm
theorem X_again : ansE xX rX 1 8 5 = 380 ∧ ansS xX rX 1 8 5 = ss0 ∧ ansC xX rX 1 8 5 = ct0 := ans_done (ok_X (by decide)) (show (0 : Int) ≠ 5 by decide) rfl
theorem X_lock : ansE ⟨1, 123456, 7, 1, 5, false⟩ rX 1 8 5 = 381 ∧ ansS ⟨1, 123456, 7, 1, 5, false⟩ rX 1 8 5 = ss0 ∧ ansC ⟨1, 123456, 7, 1, 5, false⟩ rX 1 8 5 = ct0 := ans_lock (ok_X (by decide)) rfl
/-- the request with a wrong code -/
def wX : Rq := askV 123457 11 (pX : Int) 10 (vf9 : Int) 4
theorem X_wrong : askE 123457 11 (pX : Int) 10 (vf9 : Int) 4 = 0 ∧ wX.pt = ((pointS 2 123457 11 : Nat) : Int) ∧ wX.dv = 10 ∧ wX.vf = (vf9 : Int) ∧ wX.lf = 4 := by
  have hs : sharedE 2 ((123457 : Nat) : Int) ((11 : Nat) : Int) ((pX : Nat) : Int) = 0 := sharedE_yes (.inr rfl) (by decide) (by decide) (by decide) (pointS_El 1 123456 7)
  have e : askE 123457 11 (pX : Int) 10 (vf9 : Int) 4 = 0 := by unfold askE; rw [if_pos askB_X]; exact hs
  refine ⟨e, ?_⟩
  unfold wX askV
  rw [if_pos e]
  exact ⟨pt_guest (c := 123457) (b := 11) (by decide) (by decide) (by decide), rfl, rfl, rfl⟩
def zX : Rq := ⟨wX.pt, wX.dv, wX.vf, wX.lf, zero32⟩
theorem zX_is : ∃ a : Nat, El a ∧ zX = ⟨(a : Int), 10, (vf9 : Int), 4, zero32⟩ := by
  obtain ⟨_, h1, h2, h3, h4⟩ := X_wrong
  refine ⟨pointS 2 123457 11, pointS_El 2 123457 11, ?_⟩
  unfold zX
  rw [h1, h2, h3, h4]
theorem vf9_bd : i64B (vf9 : Int) := pt_bd vf9_El
theorem zX_wf : zX.wf := by
  obtain ⟨a, ha, e⟩ := zX_is
  rw [e]
  exact ⟨pt_bd ha, show i64B 10 from ⟨by decide, by decide⟩, vf9_bd, show i64B 4 from ⟨by decide, by decide⟩, rfl⟩
theorem X_zero : (zero32 = wantL sX zX ∧ ansE sX zX 1 8 5 = 0) ∨ (ansE sX zX 1 8 5 = 380 ∧ ansS sX zX 1 8 5 = ⟨1, 123456, 7, 1, 1, false⟩) := by
  obtain ⟨a, ha, e⟩ := zX_is
  rw [e]
  have p : preE sX ⟨(a : Int), 10, (vf9 : Int), 4, zero32⟩ 1 8 5 = 0 := pre_go (ok_X (by decide)) (show (0 : Int) ≠ 5 by decide) rfl (fits_X ha rfl rfl rfl rfl) (crt_X rfl rfl rfl)
  by_cases h : zero32 = wantL sX ⟨(a : Int), 10, (vf9 : Int), 4, zero32⟩
  · exact .inl ⟨h, (ans_yes p h).1⟩
  · exact .inr ⟨(ans_no p h).1, (ans_no p h).2.1⟩
theorem X_no : newE 64 0 1 = 1 ∧ newV 64 0 1 = ss0 ∧ newE 0 1000000 1 = 100 ∧ newV 0 1000000 1 = ss0 ∧ askE 0 1 4 512 4 4 = 1 ∧ askV 0 1 4 512 4 4 = rq0 := by
  have a : askE 0 1 4 512 4 4 = 1 := by unfold askE; rw [if_neg (by unfold askB; rw [show devB 512 = false from rfl]; decide)]
  refine ⟨rfl, rfl, rfl, rfl, a, ?_⟩
  unfold askV
  rw [if_neg (by rw [a]; decide)]
end Go.Proofs.YtpekhdahamloaaaGreatDoor
