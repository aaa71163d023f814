/- Listings and certificates compared; Few, Same. Certificates made and accepted, in plain Lean: a first device, a second one, a revocation, a recovery. Package chartroomlaw37: one, sane. People, listings and certificates that came in, opened. -/
import Derived.Test.YtmmppibbglacdaaDoorPk50
import Derived.Test.YtmmppibbglacdaaDoorPk49
set_option linter.unusedVariables false
set_option linter.unusedSimpArgs false
namespace Go.Proofs.YtmmppibbglacdaaDoor
open Go.RowKit Cod
def liB (a b : Li) : Bool := a.d == b.d && a.v == b.v && a.l == b.l && a.n == b.n && a.g == b.g
theorem liB_iff (a b : Li) : liB a b = true ↔ a = b := by
  obtain ⟨a1, a2, a3, a4, a5⟩ := a
  obtain ⟨b1, b2, b3, b4, b5⟩ := b
  unfold liB
  simp only [Bool.and_eq_true, beq_iff_eq, Li.mk.injEq, and_assoc]
theorem liB_self (a : Li) : liB a a = true := (liB_iff a a).2 rfl
def ceB (a b : Ct) : Bool := a.k == b.k && a.d == b.d && a.v == b.v && a.l == b.l && a.n == b.n && a.b == b.b && a.r == b.r && a.g == b.g
theorem ceB_iff (a b : Ct) : ceB a b = true ↔ a = b := by
  obtain ⟨k, d, v, l, n, b1, r, g⟩ := a
  obtain ⟨k', d', v', l', n', b', r', g'⟩ := b
  unfold ceB
  simp only [Bool.and_eq_true, beq_iff_eq, Ct.mk.injEq, and_assoc]
theorem ceB_self (a : Ct) : ceB a a = true := (ceB_iff a a).2 rfl
theorem eqinL_bool (d : Nat) (a b : Bool) (w : World) : (Op.equalIn (d + 1) 4 (.bool a) (.bool b)).run Tryd.prog w = .ok (a == b) w := run_equalIn_bool' w d 4 a b Tryd.underlying4
set_option maxRecDepth 100000 in
theorem eqin_li (a b : Li) (w : World) : (Op.equalIn 10000 31 (.agg (rowF 5 (liC a))) (.agg (rowF 5 (liC b)))).run Tryd.prog w = .ok (liB a b) w := by
  rw [run_equalIn_agg w 9999 31 _ _ (by kernel_rfl) (by kernel_rfl)]
  unfold Program.fieldsOf
  rw [Tryd.underlying31]
  have h0 : ∀ x y : Int, (Op.equalIn 9999 3 (.int .i64 x) (.int .i64 y)).run Tryd.prog w = .ok (x == y) w := fun x y => run_equalIn_int w 9998 3 .i64 .i64 x y Tryd.underlying3
  have hb := eqinL_bool 9998 a.g b.g w
  have p0 : ∀ c : Li, (part 3 (rowF 5 (liC c)) 0).run Tryd.prog w = .ok (.int .i64 c.d) w := fun c => by kernel_rfl
  have p1 : ∀ c : Li, (part 3 (rowF 5 (liC c)) 1).run Tryd.prog w = .ok (.int .i64 c.v) w := fun c => by kernel_rfl
  have p2 : ∀ c : Li, (part 3 (rowF 5 (liC c)) 2).run Tryd.prog w = .ok (.int .i64 c.l) w := fun c => by kernel_rfl
  have p3 : ∀ c : Li, (part 3 (rowF 5 (liC c)) 3).run Tryd.prog w = .ok (.int .i64 c.n) w := fun c => by kernel_rfl
  have p4 : ∀ c : Li, (part 4 (rowF 5 (liC c)) 4).run Tryd.prog w = .ok (.bool c.g) w := fun c => by kernel_rfl
  unfold liB
  show Sem.run _ (Op.eqFields _ _ _ (_ :: _ :: _ :: _ :: _ :: [])) w = _
  rw [eqF_cons (by decide) (p0 a) (p0 b) (h0 _ _), eqF_cons (by decide) (p1 a) (p1 b) (h0 _ _), eqF_cons (by decide) (p2 a) (p2 b) (h0 _ _), eqF_cons (by decide) (p3 a) (p3 b) (h0 _ _), eqF_cons (by decide) (p4 a) (p4 b) hb, eqF_nil]
  cases (a.d == b.d) <;> cases (a.v == b.v) <;> cases (a.l == b.l) <;> cases (a.n == b.n) <;> cases (a.g == b.g) <;> rfl
theorem eql_li (a b : Li) (w : World) : (binOp .eql 31 (.agg (rowF 5 (liC a))) (.agg (rowF 5 (liC b)))).run Tryd.prog w = .ok (.bool (liB a b)) w := by rw [run_eql_struct, eqin_li a b]; rfl
theorem neq_li (a b : Li) (w : World) : (binOp .neq 31 (.agg (rowF 5 (liC a))) (.agg (rowF 5 (liC b)))).run Tryd.prog w = .ok (.bool (!liB a b)) w := by rw [run_neq_struct, eqin_li a b]; rfl
theorem guard_li (op : BinOp) (x y : Operand) (a b : Li) (w : World) : (eqGuard op 31 x y (.agg (rowF 5 (liC a))) (.agg (rowF 5 (liC b)))).run Tryd.prog w = .ok () w := run_eqGuard_agg w op 31 x y _ _ (by kernel_rfl)
set_option maxRecDepth 100000 in
theorem eqin_ce (a b : Ct) (w : World) : (Op.equalIn 10000 27 (.agg (rowF 8 (ctC a))) (.agg (rowF 8 (ctC b)))).run Tryd.prog w = .ok (ceB a b) w := by
  rw [run_equalIn_agg w 9999 27 _ _ (by kernel_rfl) (by kernel_rfl)]
  unfold Program.fieldsOf
  rw [Tryd.underlying27]
  have h0 : ∀ x y : Int, (Op.equalIn 9999 3 (.int .i64 x) (.int .i64 y)).run Tryd.prog w = .ok (x == y) w := fun x y => run_equalIn_int w 9998 3 .i64 .i64 x y Tryd.underlying3
  have hs := eqin_sig 9996 a.r a.g b.r b.g w
  have p0 : ∀ c : Ct, (part 3 (rowF 8 (ctC c)) 0).run Tryd.prog w = .ok (.int .i64 c.k) w := fun c => by kernel_rfl
  have p1 : ∀ c : Ct, (part 3 (rowF 8 (ctC c)) 1).run Tryd.prog w = .ok (.int .i64 c.d) w := fun c => by kernel_rfl
  have p2 : ∀ c : Ct, (part 3 (rowF 8 (ctC c)) 2).run Tryd.prog w = .ok (.int .i64 c.v) w := fun c => by kernel_rfl
  have p3 : ∀ c : Ct, (part 3 (rowF 8 (ctC c)) 3).run Tryd.prog w = .ok (.int .i64 c.l) w := fun c => by kernel_rfl
  have p4 : ∀ c : Ct, (part 3 (rowF 8 (ctC c)) 4).run Tryd.prog w = .ok (.int .i64 c.n) w := fun c => by kernel_rfl
  have p5 : ∀ c : Ct, (part 3 (rowF 8 (ctC c)) 5).run Tryd.prog w = .ok (.int .i64 c.b) w := fun c => by kernel_rfl
  have p6 : ∀ c : Ct, (part 25 (rowF 8 (ctC c)) 6).run Tryd.prog w = .ok (.agg #[.int .i64 c.r, .int .i64 c.g]) w := fun c => by kernel_rfl
  unfold ceB
  show Sem.run _ (Op.eqFields _ _ _ (_ :: _ :: _ :: _ :: _ :: _ :: _ :: [])) w = _
  rw [eqF_cons (by decide) (p0 a) (p0 b) (h0 _ _), eqF_cons (by decide) (p1 a) (p1 b) (h0 _ _), eqF_cons (by decide) (p2 a) (p2 b) (h0 _ _), eqF_cons (by decide) (p3 a) (p3 b) (h0 _ _), eqF_cons (by decide) (p4 a) (p4 b) (h0 _ _), eqF_cons (by decide) (p5 a) (p5 b) (h0 _ _), eqF_cons (by decide) (p6 a) (p6 b) hs, eqF_nil]
  cases (a.k == b.k) <;> cases (a.d == b.d) <;> cases (a.v == b.v) <;> cases (a.l == b.l) <;> cases (a.n == b.n) <;> cases (a.b == b.b) <;> cases (a.r == b.r) <;> cases (a.g == b.g) <;> rfl
theorem eql_ce (a b : Ct) (w : World) : (binOp .eql 27 (.agg (rowF 8 (ctC a))) (.agg (rowF 8 (ctC b)))).run Tryd.prog w = .ok (.bool (ceB a b)) w := by rw [run_eql_struct, eqin_ce a b]; rfl
theorem neq_ce (a b : Ct) (w : World) : (binOp .neq 27 (.agg (rowF 8 (ctC a))) (.agg (rowF 8 (ctC b)))).run Tryd.prog w = .ok (.bool (!ceB a b)) w := by rw [run_neq_struct, eqin_ce a b]; rfl
theorem guard_ce (op : BinOp) (x y : Operand) (a b : Ct) (w : World) : (eqGuard op 27 x y (.agg (rowF 8 (ctC a))) (.agg (rowF 8 (ctC b)))).run Tryd.prog w = .ok () w := run_eqGuard_agg w op 27 x y _ _ (by kernel_rfl)
def sameB (xs ys : List Li) : Bool := decide (xs.length = ys.length) && allB (fun i => liB (xs.getD i li0) (ys.getD i li0)) xs.length
theorem sameB_iff (xs ys : List Li) : sameB xs ys = true ↔ xs = ys := by
  unfold sameB
  rw [Bool.and_eq_true, decide_eq_true_iff]
  constructor
  · rintro ⟨h1, h2⟩
    apply List.ext_getElem h1
    intro i g1 g2
    have := (liB_iff _ _).1 (allB_get h2 g1)
    rw [List.getD_eq_getElem?_getD, List.getD_eq_getElem?_getD, List.getElem?_eq_getElem g1, List.getElem?_eq_getElem g2] at this
    exact this
  · rintro rfl
    exact ⟨rfl, allB_true fun i _ => liB_self _⟩
set_option maxRecDepth 100000 in
set_option maxHeartbeats 8000000 in
theorem same37_any (xs ys : List Li) (xv yv : Value) (w : World) (hx : SlAt 5 w xv xs.length (fun i => liC (xs.getD i li0))) (hy : SlAt 5 w yv ys.length (fun i => liC (ys.getD i li0))) (hn : xs.length ≤ 1000) (hm : ys.length ≤ 1000) :
    Calls Tryd.prog 15 #[xv, yv] w fun e w' => e = .returned (.bool (sameB xs ys)) ∧ Below w.heap.size w w' := by
  obtain ⟨xa, xc, rfl⟩ := hx.slice
  obtain ⟨ya, yc, rfl⟩ := hy.slice
  have FL : Hid (xs.length = ys.length → sameB xs ys = allB (fun i => liB (xs.getD i li0) (ys.getD i li0)) xs.length) := Lib.hid (fun h => by unfold sameB; rw [decide_eq_true h, Bool.true_and])
  have FN : Hid (xs.length ≠ ys.length → sameB xs ys = false) := Lib.hid (fun h => by unfold sameB; rw [decide_eq_false h, Bool.false_and])
  obtain ⟨R, hR⟩ : ∃ y, sameB xs ys = y := ⟨_, rfl⟩
  rw [hR] at FL FN ⊢
  obtain ⟨n, hln⟩ : ∃ y, xs.length = y := ⟨_, rfl⟩
  obtain ⟨m, hlm⟩ : ∃ y, ys.length = y := ⟨_, rfl⟩
  rw [hln] at FL FN hx ⊢
  rw [hlm] at FL FN hy ⊢
  have HX := Lib.hid hx
  have HY := Lib.hid hy
  have qn : (n : Int) ≤ 1000 := by omega
  have qm : (m : Int) ≤ 1000 := by omega
  clear hx hy hn hm hR hln hlm
  by_cases hnm : n = m
  rotate_left
  · have e1 : ((n : Int) == (m : Int)) = false := by rw [beq_eq_false_iff_ne]; omega
    have e2 : (n == m) = false := by rw [beq_eq_false_iff_ne]; omega
    have e3 : ((n : Int) != (m : Int)) = true := by rw [bne_iff_ne]; omega
    have F := Lib.hid (FN.out hnm)
    clear hnm FL FN
    go_enter Tryd.func15, Tryd.ntmps15
    go_wp2_with fail
    go_ret
    exact ⟨by rw [F.out]; rfl, Below.refl _ _⟩
  subst hnm
  have F1 := Lib.hid (FL.out rfl)
  clear FL FN
  go_enter Tryd.func15, Tryd.ntmps15
  go_wp2_with fail
  go_loopg [5] n (fun g s5 wx => ∃ k : Nat, k + g = n ∧ s5 = .int .i64 (k : Int) ∧ Hid (∀ i, i < k → liB (xs.getD i li0) (ys.getD i li0) = true) ∧ Hid (Below w.heap.size w wx))
  case atStart => exact ⟨0, by omega, rfl, Lib.hid (fun i hi => by omega), Lib.hid (Below.refl _ _)⟩
  case round =>
    obtain ⟨k, hk, rfl, hA, hB⟩ := hrel
    obtain ⟨w2, rfl⟩ : ∃ y, y = wr := ⟨_, rfl⟩
    have q0 : (0 : Int) ≤ (k : Int) := Int.natCast_nonneg k
    by_cases hlt : k < n
    · have d0 : decide ((k : Int) < (n : Int)) = true := by rw [decide_eq_true_iff]; omega
      have d1 : decide (k < n) = true := by rw [decide_eq_true_iff]; omega
      have p2 : (k : Int) < (n : Int) := by omega
      have HLT := Lib.hid hlt
      obtain ⟨xb, xo, rfl, _, hxb, hxc⟩ := SlAt.at_elem (s := 5) (n := n) (a := xa) (k := xc) (c := fun i => liC (xs.getD i li0)) (HX.out.below hB.out) hlt
      obtain ⟨yb, yo, rfl, _, hyb, hyc⟩ := SlAt.at_elem (s := 5) (n := n) (a := ya) (k := yc) (c := fun i => liC (ys.getD i li0)) (HY.out.below hB.out) hlt
      have XC := Lib.hid (fun j hj => hxc k hlt j hj)
      have YC := Lib.hid (fun j hj => hyc k hlt j hj)
      have XB := Lib.hid hxb
      have YB := Lib.hid hyb
      have p1 : (k : Int) + 1 ≤ 1000 := by omega
      clear hxc hyc hxb hyb hlt
      go_upto_region 6 with fail
      refine Tc.wp_region_plan (keep w2.heap.size) 9 [] (.fl 0 (.fl 1 (.fl 2 (.fl 3 (.fl 4 (.fl 5 (.fl 6 (.fl 7 (.fl 8 .done))))))))) (by kernel_rfl) (by kernel_rfl) ?_
      intro w3 b3 e3
      have B3 := Lib.hid (hB.out.trans (b3.mono hB.out.size))
      have BB3 := Lib.hid b3
      clear b3 e3
      refine Tc.plan_floats [0, 1, 2, 3, 4, 5, 6, 7, 8] [_, _, _, _, _, _, _, _, _] rfl ?_
      dsimp only [List.getElem_toArray, List.getElem_cons_succ, List.getElem_cons_zero]
      repeat (go_big_quiet_want; go_big_quiet_op; first | go_big_quiet_on | (refine ⟨_, fun _ _ => rfl, ?_⟩; go_big_quiet_on))
      refine wpQuiet_load_elem rfl 31 (.tmp 19) rfl xb (xo + k * 5) rfl 5 (liC (xs.getD k li0)) (fun W hW j hj => cell_keep (n := w2.heap.size) ((BB3.out.cell (p := ⟨xb, xo + k * 5 + j, none⟩) XB.out).trans (by have h := XC.out j hj; rwa [Nat.mul_comm 5 k] at h)) XB.out hW) _ Tryd.underlying31 rfl (by kernel_rfl) ?_
      simp only [Act.put, List.setIfInBounds_toArray, List.set_cons_succ, List.set_cons_zero]
      repeat (go_big_quiet_want; go_big_quiet_op; first | go_big_quiet_on | (refine ⟨_, fun _ _ => rfl, ?_⟩; go_big_quiet_on))
      refine wpQuiet_load_elem rfl 31 (.tmp 23) rfl yb (yo + k * 5) rfl 5 (liC (ys.getD k li0)) (fun W hW j hj => cell_keep (n := w2.heap.size) ((BB3.out.cell (p := ⟨yb, yo + k * 5 + j, none⟩) YB.out).trans (by have h := YC.out j hj; rwa [Nat.mul_comm 5 k] at h)) YB.out hW) _ Tryd.underlying31 rfl (by kernel_rfl) ?_
      simp only [Act.put, List.setIfInBounds_toArray, List.set_cons_succ, List.set_cons_zero]
      refine wpQuiet_binOp rfl .neq 31 (.tmp 20) (.tmp 24) 31 rfl _ _ (.bool (!liB (xs.getD k li0) (ys.getD k li0))) rfl rfl (fun W => guard_li _ _ _ _ _ W) (fun W => neq_li _ _ W) ?_
      simp only [Act.put, List.setIfInBounds_toArray, List.set_cons_succ, List.set_cons_zero]
      refine wpQuiet_nil ?_
      refine Tc.plan_done (l := []) rfl (fun K hK => ?_)
      clear BB3 XC YC XB YB
      cases hl : liB (xs.getD k li0) (ys.getD k li0)
      · have F : Hid (R = false) := Lib.hid (by rw [F1.out]; exact allB_false HLT.out hl)
        clear hl hA F1
        go_wp2_with fail
        go_ret
        exact ⟨by rw [F.out]; rfl, B3.out⟩
      · have A2 : Hid (∀ i, i < k + 1 → liB (xs.getD i li0) (ys.getD i li0) = true) := Lib.hid (fun i hi => by
          by_cases e : i = k
          · subst e; exact hl
          · exact hA.out i (by omega))
        clear hl hA
        go_wp2_with fail
        go_roundg (n - (k + 1))
        case measure => have := HLT.out; omega
        case rel =>
          go_light
          exact ⟨k + 1, by have := HLT.out; omega, by go_num, A2, B3⟩
    · have d0 : decide ((k : Int) < (n : Int)) = false := by rw [decide_eq_false_iff_not]; omega
      have d1 : decide (k < n) = false := by rw [decide_eq_false_iff_not]; omega
      have F : Hid (R = true) := Lib.hid (by rw [F1.out]; exact allB_true (fun i hi => hA.out i (by omega)))
      clear hA F1 hlt
      go_wp2_with fail
      go_ret
      exact ⟨by rw [F.out]; rfl, hB.out⟩
/-- people that came in: their guards read as numbers where they are few -/
def PesW (w : World) (v : Value) (ps : List Pe) (us : Nat → Sv) : Prop :=
  SlAt 5 w v ps.length (fun i => peC (ps.getD i pe0) (us i)) ∧ ∀ i, i < ps.length → (us i).n = (ps.getD i pe0).gs.length ∧ ((ps.getD i pe0).gs.length ≤ 1000 → IntsS w (.slice (us i).a (us i).n (us i).k) (ps.getD i pe0).gs) ∧ ((us i).n : Int) ≤ 9223372036854775807
theorem PesW.pes {w : World} {v : Value} {ps : List Pe} {us : Nat → Sv} (h : PesW w v ps us) (hg : ∀ i, i < ps.length → (ps.getD i pe0).gs.length ≤ 20) : PesS w v ps us :=
  ⟨h.1, fun i hi => ⟨(h.2 i hi).1, (h.2 i hi).2.1 (Nat.le_trans (hg i hi) (by decide))⟩⟩
def fewB (ps : List Pe) (nx nc : Nat) : Bool := !decide (70 < (ps.length : Int)) && (!decide (12 < (nx : Int)) && (!decide (10 < (nc : Int)) && allB (fun i => !decide (20 < ((ps.getD i pe0).gs.length : Int))) ps.length))
theorem fewB_iff {ps : List Pe} {nx nc : Nat} (h : fewB ps nx nc = true) : ps.length ≤ 70 ∧ nx ≤ 12 ∧ nc ≤ 10 ∧ ∀ i, i < ps.length → (ps.getD i pe0).gs.length ≤ 20 := by
  unfold fewB at h
  simp only [Bool.and_eq_true, Bool.not_eq_true', decide_eq_false_iff_not] at h
  obtain ⟨h1, h2, h3, h4⟩ := h
  refine ⟨by omega, by omega, by omega, fun i hi => ?_⟩
  have := allB_get h4 hi
  simp only [Bool.not_eq_true', decide_eq_false_iff_not] at this
  omega
set_option maxRecDepth 100000 in
set_option maxHeartbeats 8000000 in
theorem few37_any (ps : List Pe) (us : Nat → Sv) (v : Value) (xa ca : Option Addr) (nx xc nc cc : Nat) (w : World) (h : PesW w v ps us) (hx : (nx : Int) ≤ 9223372036854775807) (hc : (nc : Int) ≤ 9223372036854775807) :
    Calls Tryd.prog 9 #[v, .slice xa nx xc, .slice ca nc cc] w fun e w' => e = .returned (.bool (fewB ps nx nc)) ∧ Below w.heap.size w w' := by
  obtain ⟨la, lc, rfl⟩ := h.1.slice
  have hlen := h.1.len_le
  have FB : Hid (fewB ps nx nc = (!decide (70 < (ps.length : Int)) && (!decide (12 < (nx : Int)) && (!decide (10 < (nc : Int)) && allB (fun i => !decide (20 < ((ps.getD i pe0).gs.length : Int))) ps.length)))) := Lib.hid rfl
  obtain ⟨R, hR⟩ : ∃ y, fewB ps nx nc = y := ⟨_, rfl⟩
  rw [hR] at FB ⊢
  have G0 := Lib.hid h.2
  obtain ⟨n, hln⟩ : ∃ y, ps.length = y := ⟨_, rfl⟩
  have H0 : Hid (SlAt 5 w (.slice la n lc) n (fun i => peC (ps.getD i pe0) (us i))) := Lib.hid (by rw [← hln]; exact h.1)
  rw [hln] at FB G0 hlen ⊢
  clear h hR hln
  cases n0 : decide (70 < (n : Int))
  rotate_left
  · have n0' : decide (70 < n) = true := by have := of_decide_eq_true n0; rw [decide_eq_true_iff]; omega
    obtain rfl : R = false := by rw [FB.out, n0]; rfl
    clear FB
    go_enter Tryd.func9, Tryd.ntmps9
    go_wp2_with fail
    go_ret
    exact ⟨rfl, Below.refl _ _⟩
  have n0' : decide (70 < n) = false := by have := of_decide_eq_false n0; rw [decide_eq_false_iff_not]; omega
  cases n1 : decide (12 < (nx : Int))
  rotate_left
  · have n1' : decide (12 < nx) = true := by have := of_decide_eq_true n1; rw [decide_eq_true_iff]; omega
    obtain rfl : R = false := by rw [FB.out, n0, n1]; rfl
    clear FB
    go_enter Tryd.func9, Tryd.ntmps9
    go_wp2_with fail
    go_ret
    exact ⟨rfl, Below.refl _ _⟩
  have n1' : decide (12 < nx) = false := by have := of_decide_eq_false n1; rw [decide_eq_false_iff_not]; omega
  cases n2 : decide (10 < (nc : Int))
  rotate_left
  · have n2' : decide (10 < nc) = true := by have := of_decide_eq_true n2; rw [decide_eq_true_iff]; omega
    obtain rfl : R = false := by rw [FB.out, n0, n1, n2]; rfl
    clear FB
    go_enter Tryd.func9, Tryd.ntmps9
    go_wp2_with fail
    go_ret
    exact ⟨rfl, Below.refl _ _⟩
  have n2' : decide (10 < nc) = false := by have := of_decide_eq_false n2; rw [decide_eq_false_iff_not]; omega
  have F1 : Hid (R = allB (fun i => !decide (20 < ((ps.getD i pe0).gs.length : Int))) n) := Lib.hid (by rw [FB.out, n0, n1, n2]; rfl)
  have qn : (n : Int) ≤ 70 := by have := of_decide_eq_false n0; omega
  clear FB hlen
  go_enter Tryd.func9, Tryd.ntmps9
  go_wp2_with fail
  clear n0 n0' n1 n1' n2 n2'
  go_loopg [7] n (fun g s7 wx => ∃ k : Nat, k + g = n ∧ s7 = .int .i64 (k : Int) ∧ Hid (∀ i, i < k → (!decide (20 < ((ps.getD i pe0).gs.length : Int))) = true) ∧ w = wx)
  case atStart => exact ⟨0, by omega, rfl, Lib.hid (fun i hi => by omega), rfl⟩
  case round =>
    obtain ⟨k, hk, rfl, hA, rfl⟩ := hrel
    have q0 : (0 : Int) ≤ (k : Int) := Int.natCast_nonneg k
    by_cases hlt : k < n
    · have d0 : decide ((k : Int) < (n : Int)) = true := by rw [decide_eq_true_iff]; omega
      have d1 : decide (k < n) = true := by rw [decide_eq_true_iff]; omega
      have p2 : (k : Int) < (n : Int) := by omega
      have HLT := Lib.hid hlt
      obtain ⟨b, off, rfl, _, hb, hc2⟩ := SlAt.at_elem (s := 5) (n := n) (a := la) (k := lc) (c := fun i => peC (ps.getD i pe0) (us i)) H0.out hlt
      have x2 : w.cell? ⟨b, off + k * 5 + 2, none⟩ = some (.slice (us k).a (us k).n (us k).k) := by have := hc2 k hlt 2 (by decide); rwa [Nat.mul_comm 5 k] at this
      obtain ⟨g1, _, g3⟩ := G0.out k hlt
      obtain ⟨s, hs⟩ : ∃ y, us k = y := ⟨_, rfl⟩
      rw [hs] at x2 g1 g3
      obtain ⟨sa, sn, sk⟩ := s
      have GL := Lib.hid g1
      have p1 : (k : Int) + 1 ≤ 70 := by omega
      have s0 : (0 : Int) ≤ (sn : Int) := Int.natCast_nonneg sn
      clear hc2 hb hlt hs g1
      cases hg : decide (20 < (sn : Int))
      · have hg' : decide (20 < sn) = false := by have := of_decide_eq_false hg; rw [decide_eq_false_iff_not]; omega
        have A2 : Hid (∀ i, i < k + 1 → (!decide (20 < ((ps.getD i pe0).gs.length : Int))) = true) := Lib.hid (fun i hi => by
          by_cases e : i = k
          · subst e
            have h9 : sn = (ps.getD i pe0).gs.length := GL.out
            rw [← h9, hg]; rfl
          · exact hA.out i (by omega))
        clear hA
        go_wp2_with fail
        go_roundg (n - (k + 1))
        case measure => have := HLT.out; omega
        case rel =>
          go_light
          exact ⟨k + 1, by have := HLT.out; omega, by go_num, A2, rfl⟩
      · have hg' : decide (20 < sn) = true := by have := of_decide_eq_true hg; rw [decide_eq_true_iff]; omega
        have F : Hid (R = false) := Lib.hid (by
          rw [F1.out]
          refine allB_false HLT.out ?_
          have h9 : sn = (ps.getD k pe0).gs.length := GL.out
          show (!decide (20 < ((ps.getD k pe0).gs.length : Int))) = false
          rw [← h9, hg]; rfl)
        clear hA F1
        go_wp2_with fail
        go_ret
        exact ⟨by rw [F.out]; rfl, Below.refl _ _⟩
    · have d0 : decide ((k : Int) < (n : Int)) = false := by rw [decide_eq_false_iff_not]; omega
      have d1 : decide (k < n) = false := by rw [decide_eq_false_iff_not]; omega
      have F : Hid (R = true) := Lib.hid (by rw [F1.out]; exact allB_true (fun i hi => hA.out i (by omega)))
      clear hA F1 hlt
      go_wp2_with fail
      go_ret
      exact ⟨by rw [F.out]; rfl, Below.refl _ _⟩
end Go.Proofs.YtmmppibbglacdaaDoor

namespace Go.Proofs.YtmmppibbglacdaaDoor
open Go.RowKit Cod
theorem pubV_nat {x : Int} (h : privB x = true) : pubV x = ((pubM x.toNat : Nat) : Int) := by
  obtain ⟨n, rfl, g1, g2⟩ := priv_nat h
  unfold pubV
  rw [h, if_pos rfl, gexpV4 g2]; rfl
theorem pubV_El {x : Int} (h : privB x = true) : elemB (pubV x) = true := by rw [pubV_nat h]; exact elemB_El (pow4_El _)
theorem ver_pub {x : Int} (h : privB x = true) (m : List UInt8) : verB (pubV x) m (sgR x m) (sgS x m) = true := by
  rw [pubV_nat h]
  unfold sgR sgS
  rw [h, if_pos rfl, if_pos rfl]
  exact ver_sign _ _
theorem crtV_yes {k d v l n b x : Int} (h : crtE (ctN k d v l n b) x = 0) : crtV (ctN k d v l n b) x = ⟨k, d, v, l, n, b, sgR x (msgC (ctN k d v l n b)), sgS x (msgC (ctN k d v l n b))⟩ := by rw [crt_is, if_pos h]; rfl
theorem crtE_yes {k d v l n b x : Int} (hf : formC (ctN k d v l n b) = true) (h : privB x = true) : crtE (ctN k d v l n b) x = 0 := by unfold crtE pubE; rw [if_pos hf, if_pos h]
theorem acc_ok {ps : List Pe} {x : List Li} {c : Ct} {p : Pe} {key : Int} (h1 : chkPe ps = true) (h2 : formC c = true) (h3 : findP ps (c.d.tdiv 8) = some p) (h4 : c.n = IntKind.i64.wrap ((lastL x c.d).n + 1)) (h5 : keyF p x c = some key) (h6 : verB key (msgC c) c.r c.g = true) :
    accF ps x c = (0, resF x c) := by
  unfold accF
  rw [if_pos h1, if_pos h2, h3]
  show verF p x c = _
  unfold verF
  rw [if_pos (decide_eq_true h4), h5]
  show (if verB key (msgC c) c.r c.g = true then ((0 : Int), resF x c) else (222, li0)) = _
  rw [if_pos h6]
theorem acc_old {ps : List Pe} {x : List Li} {c : Ct} (h : c.n ≠ IntKind.i64.wrap ((lastL x c.d).n + 1)) : (accF ps x c).1 ≠ 0 := fun e => by
  obtain ⟨_, h2, p, _, h4⟩ := accF_ok e
  rw [h4] at e
  exact h (verF_ok (kinds_form h2) e).2.1
theorem acc_key {ps : List Pe} {x : List Li} {c : Ct} (h : ∀ p, keyF p x c = none) : (accF ps x c).1 ≠ 0 := fun e => by
  obtain ⟨_, h2, p, _, h4⟩ := accF_ok e
  rw [h4] at e
  obtain ⟨_, _, k, h5, _⟩ := verF_ok (kinds_form h2) e
  rw [h p] at h5
  cases h5
/-- the world of the story -/
structure Sty where
  ps : List Pe
  p : Pe
  d1 : Int
  d2 : Int
  l1 : Int
  l2 : Int
  v3 : Int
  l3 : Int
  ka : Int
  kb : Int
  kr : Int
structure Sty.ok (s : Sty) : Prop where
  ps : chkPe s.ps = true
  f : findP s.ps (s.d1.tdiv 8) = some s.p
  i : s.p.i = s.d1.tdiv 8
  d : s.d2.tdiv 8 = s.d1.tdiv 8
  b1 : devB s.d1 = true
  b2 : devB s.d2 = true
  lt : s.d1 < s.d2
  l1 : elemB s.l1 = true
  l2 : elemB s.l2 = true
  v3 : elemB s.v3 = true
  l3 : elemB s.l3 = true
  ka : privB s.ka = true
  kb : privB s.kb = true
  kr : privB s.kr = true
  r : s.p.r = pubV s.kr
section
variable (s : Sty)
def Sty.nA : Ct := ctN 1 s.d1 (pubV s.ka) s.l1 1 s.d1
def Sty.nB : Ct := ctN 2 s.d2 (pubV s.kb) s.l2 1 s.d1
def Sty.nC : Ct := ctN 4 s.d1 0 0 2 s.d2
def Sty.nD : Ct := ctN 3 s.d1 s.v3 s.l3 3 (-1)
def Sty.A : Ct := crtV s.nA s.ka
def Sty.B : Ct := crtV s.nB s.ka
def Sty.C : Ct := crtV s.nC s.kb
def Sty.D : Ct := crtV s.nD s.kr
def Sty.zA : Li := ⟨s.d1, pubV s.ka, s.l1, 1, false⟩
def Sty.zB : Li := ⟨s.d2, pubV s.kb, s.l2, 1, false⟩
def Sty.zC : Li := ⟨s.d1, pubV s.ka, s.l1, 2, true⟩
def Sty.zD : Li := ⟨s.d1, s.v3, s.l3, 3, false⟩
end
section
variable {s : Sty} (h : s.ok)
include h
theorem Sty.fA : formC s.nA = true := by
  unfold formC kindB keysB
  show (devB s.d1 && !decide ((1 : Int) < 1) && !decide (1048576 < (1 : Int)) && (if (1 : Int) = 1 then (elemB (pubV s.ka) && elemB s.l1) && decide (s.d1 = s.d1) else _)) = true
  rw [if_pos rfl, h.b1, pubV_El h.ka, h.l1, decide_eq_true rfl]; rfl
theorem Sty.fB : formC s.nB = true := by
  unfold formC kindB keysB otherB
  show (devB s.d2 && !decide ((1 : Int) < 1) && !decide (1048576 < (1 : Int)) && (if (2 : Int) = 1 then _ else if (2 : Int) = 2 then (elemB (pubV s.kb) && elemB s.l2) && (devB s.d1 && !(s.d1 == s.d2) && decide (s.d1.tdiv 8 = s.d2.tdiv 8)) else _)) = true
  have hne : (s.d1 == s.d2) = false := by rw [beq_eq_false_iff_ne]; have := h.lt; omega
  rw [if_neg (by decide), if_pos rfl, h.b2, h.b1, pubV_El h.kb, h.l2, hne, decide_eq_true h.d.symm]; rfl
theorem Sty.fC : formC s.nC = true := by
  unfold formC kindB otherB
  show (devB s.d1 && !decide ((2 : Int) < 1) && !decide (1048576 < (2 : Int)) && (if (4 : Int) = 1 then _ else if (4 : Int) = 2 then _ else if (4 : Int) = 3 then _ else if (4 : Int) = 4 then decide ((0 : Int) = 0) && decide ((0 : Int) = 0) && (devB s.d2 && !(s.d2 == s.d1) && decide (s.d2.tdiv 8 = s.d1.tdiv 8)) else _)) = true
  have hne : (s.d2 == s.d1) = false := by rw [beq_eq_false_iff_ne]; have := h.lt; omega
  rw [if_neg (by decide), if_neg (by decide), if_neg (by decide), if_pos rfl, h.b1, h.b2, hne, decide_eq_true h.d]; rfl
theorem Sty.fD : formC s.nD = true := by
  unfold formC kindB keysB
  show (devB s.d1 && !decide ((3 : Int) < 1) && !decide (1048576 < (3 : Int)) && (if (3 : Int) = 1 then _ else if (3 : Int) = 2 then _ else if (3 : Int) = 3 then (elemB s.v3 && elemB s.l3) && decide ((-1 : Int) = -1) else _)) = true
  rw [if_neg (by decide), if_neg (by decide), if_pos rfl, h.b1, h.v3, h.l3]; rfl
theorem Sty.eA : crtE s.nA s.ka = 0 := crtE_yes (Sty.fA h) h.ka
theorem Sty.eB : crtE s.nB s.ka = 0 := crtE_yes (Sty.fB h) h.ka
theorem Sty.eC : crtE s.nC s.kb = 0 := crtE_yes (Sty.fC h) h.kb
theorem Sty.eD : crtE s.nD s.kr = 0 := crtE_yes (Sty.fD h) h.kr
theorem Sty.iA : s.A = ⟨1, s.d1, pubV s.ka, s.l1, 1, s.d1, sgR s.ka (msgC s.nA), sgS s.ka (msgC s.nA)⟩ := crtV_yes (Sty.eA h)
theorem Sty.iB : s.B = ⟨2, s.d2, pubV s.kb, s.l2, 1, s.d1, sgR s.ka (msgC s.nB), sgS s.ka (msgC s.nB)⟩ := crtV_yes (Sty.eB h)
theorem Sty.iC : s.C = ⟨4, s.d1, 0, 0, 2, s.d2, sgR s.kb (msgC s.nC), sgS s.kb (msgC s.nC)⟩ := crtV_yes (Sty.eC h)
theorem Sty.iD : s.D = ⟨3, s.d1, s.v3, s.l3, 3, -1, sgR s.kr (msgC s.nD), sgS s.kr (msgC s.nD)⟩ := crtV_yes (Sty.eD h)
theorem Sty.ne : ¬ s.d2 = s.d1 := by have := h.lt; omega
theorem Sty.ne' : ¬ s.d1 = s.d2 := by have := h.lt; omega
/-! what is refused by its number -/
omit h in
theorem Sty.old (m n : Int) {x : List Li} {c : Ct} (hn : (lastL x c.d).n = n) (hm : c.n = m) (hw : m ≠ IntKind.i64.wrap (n + 1)) : stepL s.ps x c = x := by
  unfold stepL; rw [if_neg (acc_old (by rw [hn, hm]; exact hw))]
theorem Sty.go (m n : Int) {x : List Li} {c : Ct} {key : Int} (hf : formC c = true) (hp : c.d.tdiv 8 = s.d1.tdiv 8) (hn : (lastL x c.d).n = n) (hm : c.n = m) (hw : m = IntKind.i64.wrap (n + 1)) (hk : keyF s.p x c = some key) (hv : verB key (msgC c) c.r c.g = true) : stepL s.ps x c = withL (resF x c) x := by
  unfold stepL
  rw [acc_ok h.ps hf (by rw [hp]; exact h.f) (by rw [hn, hm]; exact hw) hk hv, if_pos rfl]
omit h in
theorem Sty.q1 (z : Li) (hz : z.d = s.d1) : lastL [z] s.d1 = z := by unfold lastL getL; rw [List.find?_cons_of_pos (by simp [hz])]; rfl
theorem Sty.q1n (z : Li) (hz : z.d = s.d1) : lastL [z] s.d2 = li0 := by unfold lastL getL; rw [List.find?_cons_of_neg (by simp [hz, Sty.ne' h])]; rfl
omit h in
theorem Sty.q2a (z y : Li) (hz : z.d = s.d1) : lastL [z, y] s.d1 = z := by unfold lastL getL; rw [List.find?_cons_of_pos (by simp [hz])]; rfl
theorem Sty.q2b (z y : Li) (hz : z.d = s.d1) (hy : y.d = s.d2) : lastL [z, y] s.d2 = y := by unfold lastL getL; rw [List.find?_cons_of_neg (by simp [hz, Sty.ne' h]), List.find?_cons_of_pos (by simp [hy])]; rfl
theorem Sty.p2 (z y : Li) (hz : z.d = s.d1) (hy : y.d = s.d2) : presB [z, y] s.d2 = !y.g := by
  unfold presB; rw [Sty.q2b h z y hz hy]
  unfold getL; rw [List.find?_cons_of_neg (by simp [hz, Sty.ne' h]), List.find?_cons_of_pos (by simp [hy])]; rfl
omit h in
theorem Sty.p1 (z y : Li) (hz : z.d = s.d1) : presB [z, y] s.d1 = !z.g := by
  unfold presB; rw [Sty.q2a z y hz]
  unfold getL; rw [List.find?_cons_of_pos (by simp [hz])]; rfl
theorem Sty.step0A : stepL s.ps [] s.A = [s.zA] := by
  rw [Sty.iA h]
  refine (Sty.go h 1 0 (key := pubV s.ka) ?_ rfl rfl rfl (by decide) ?_ ?_).trans rfl
  · have := Sty.fA h; exact this
  · rw [key_first rfl]; rfl
  · exact ver_pub h.ka (msgC s.nA)
theorem Sty.step0B : stepL s.ps [] s.B = [] := by
  rw [Sty.iB h]; unfold stepL; rw [if_neg (acc_key (fun p => by rw [key_enroll rfl]; rfl))]
theorem Sty.step0C : stepL s.ps [] s.C = [] := by
  rw [Sty.iC h]; exact Sty.old 2 0 rfl rfl (by decide)
theorem Sty.step0D : stepL s.ps [] s.D = [] := by
  rw [Sty.iD h]; exact Sty.old 3 0 rfl rfl (by decide)
theorem Sty.step1A : stepL s.ps [s.zA] s.A = [s.zA] := by
  rw [Sty.iA h]; exact Sty.old 1 1 (by rw [Sty.q1 _ rfl]; rfl) rfl (by decide)
theorem Sty.step1C : stepL s.ps [s.zA] s.C = [s.zA] := by
  rw [Sty.iC h]; unfold stepL; rw [if_neg (acc_key (fun p => by
    rw [key_revoke rfl]
    have : presB [s.zA] s.d2 = false := by unfold presB getL; rw [List.find?_cons_of_neg (by simp [Sty.zA, Sty.ne' h])]; rfl
    rw [show presB [s.zA] (⟨4, s.d1, 0, 0, 2, s.d2, _, _⟩ : Ct).b = false from this]; rfl))]
theorem Sty.step1B : stepL s.ps [s.zA] s.B = [s.zA, s.zB] := by
  rw [Sty.iB h]
  have hp : presB [s.zA] s.d1 = true := by unfold presB; rw [Sty.q1 _ rfl]; unfold getL; rw [List.find?_cons_of_pos (by simp [Sty.zA])]; rfl
  refine (Sty.go h 1 0 (key := pubV s.ka) ?_ h.d (by rw [Sty.q1n h _ rfl]; rfl) rfl (by decide) ?_ ?_).trans ?_
  · have := Sty.fB h; exact this
  · rw [key_enroll rfl, if_pos hp]; show some (lastL [s.zA] s.d1).v = _; rw [Sty.q1 _ rfl]; rfl
  · exact ver_pub h.ka (msgC s.nB)
  · show withL s.zB [s.zA] = _
    unfold withL
    rw [if_pos (show s.zA.d < s.zB.d from h.lt)]; rfl
theorem Sty.step2A : stepL s.ps [s.zA, s.zB] s.A = [s.zA, s.zB] := by
  rw [Sty.iA h]; exact Sty.old 1 1 (by rw [Sty.q2a _ _ rfl]; rfl) rfl (by decide)
theorem Sty.step2B : stepL s.ps [s.zA, s.zB] s.B = [s.zA, s.zB] := by
  rw [Sty.iB h]; exact Sty.old 1 1 (by rw [Sty.q2b h _ _ rfl rfl]; rfl) rfl (by decide)
theorem Sty.step2D : stepL s.ps [s.zA, s.zB] s.D = [s.zA, s.zB] := by
  rw [Sty.iD h]; exact Sty.old 3 1 (by rw [Sty.q2a _ _ rfl]; rfl) rfl (by decide)
theorem Sty.step2C : stepL s.ps [s.zA, s.zB] s.C = [s.zC, s.zB] := by
  rw [Sty.iC h]
  refine (Sty.go h 2 1 (key := pubV s.kb) ?_ rfl (by rw [Sty.q2a _ _ rfl]; rfl) rfl (by decide) ?_ ?_).trans ?_
  · have := Sty.fC h; exact this
  · rw [key_revoke rfl]
    show (if presB [s.zA, s.zB] s.d2 && presB [s.zA, s.zB] s.d1 then some (lastL [s.zA, s.zB] s.d2).v else none) = _
    rw [Sty.p2 h _ _ rfl rfl, Sty.p1 _ _ rfl, Sty.q2b h _ _ rfl rfl]; rfl
  · exact ver_pub h.kb (msgC s.nC)
  · have e : resF [s.zA, s.zB] ⟨4, s.d1, 0, 0, 2, s.d2, sgR s.kb (msgC s.nC), sgS s.kb (msgC s.nC)⟩ = s.zC := by
      unfold resF
      rw [if_pos rfl]
      show (⟨(lastL [s.zA, s.zB] s.d1).d, (lastL [s.zA, s.zB] s.d1).v, (lastL [s.zA, s.zB] s.d1).l, 2, true⟩ : Li) = _
      rw [Sty.q2a _ _ rfl]; rfl
    rw [e]
    unfold withL
    rw [if_neg (show ¬ s.zA.d < s.zC.d from Int.lt_irrefl _), List.filter_cons_of_neg (by simp [Sty.zA, Sty.zC]), List.filter_cons_of_pos (by simp [Sty.zB, Sty.zC, Sty.ne h])]
    rfl
theorem Sty.step3B : stepL s.ps [s.zC, s.zB] s.B = [s.zC, s.zB] := by
  rw [Sty.iB h]; exact Sty.old 1 1 (by rw [Sty.q2b h _ _ rfl rfl]; rfl) rfl (by decide)
theorem Sty.step3D : stepL s.ps [s.zC, s.zB] s.D = [s.zD, s.zB] := by
  rw [Sty.iD h]
  refine (Sty.go h 3 2 (key := pubV s.kr) ?_ rfl (by rw [Sty.q2a _ _ rfl]; rfl) rfl (by decide) ?_ ?_).trans ?_
  · have := Sty.fD h; exact this
  · rw [key_restore rfl, h.r]
  · exact ver_pub h.kr (msgC s.nD)
  · show withL s.zD [s.zC, s.zB] = _
    unfold withL
    rw [if_neg (show ¬ s.zC.d < s.zD.d from Int.lt_irrefl _), List.filter_cons_of_neg (by simp [Sty.zC, Sty.zD]), List.filter_cons_of_pos (by simp [Sty.zB, Sty.zD, Sty.ne h])]
    rfl
theorem Sty.list1 : lisF s.ps [s.B, s.A, s.A, s.B, s.C] = [s.zC, s.zB] := by
  unfold lisF
  rw [List.foldl_cons, Sty.step0B h, List.foldl_cons, Sty.step0A h, List.foldl_cons, Sty.step1A h, List.foldl_cons, Sty.step1B h, List.foldl_cons, Sty.step2C h, List.foldl_nil]
theorem Sty.list2 : lisF s.ps [s.A, s.B, s.C, s.D] = [s.zD, s.zB] := by
  unfold lisF
  rw [List.foldl_cons, Sty.step0A h, List.foldl_cons, Sty.step1B h, List.foldl_cons, Sty.step2C h, List.foldl_cons, Sty.step3D h, List.foldl_nil]
theorem Sty.list3 : lisF s.ps [s.D, s.C, s.B, s.A, s.C, s.B, s.D, s.C, s.B, s.D] = [s.zD, s.zB] := by
  unfold lisF
  rw [List.foldl_cons, Sty.step0D h, List.foldl_cons, Sty.step0C h, List.foldl_cons, Sty.step0B h, List.foldl_cons, Sty.step0A h, List.foldl_cons, Sty.step1C h, List.foldl_cons, Sty.step1B h, List.foldl_cons, Sty.step2D h, List.foldl_cons, Sty.step2C h, List.foldl_cons, Sty.step3B h, List.foldl_cons, Sty.step3D h, List.foldl_nil]
end
end Go.Proofs.YtmmppibbglacdaaDoor

namespace Go.Proofs.YtmmppibbglacdaaDoor
open Go.RowKit Cod
def p1 : Pe := ⟨0, 16, [], 0, 0⟩
def pOne : List Pe := [p1]
def us0 (_ : Nat) : Sv := pe00
theorem pub_lit {n : Nat} {v : Int} (h : privB (n : Int) = true) (hv : ((powP 4 n : Nat) : Int) = v) : pubV (n : Int) = v := by rw [pubV_nat h, ← hv]; rfl
theorem pub2 : pubV 2 = 16 := pub_lit (n := 2) (by decide) (by decide)
theorem pub3 : pubV 3 = 64 := pub_lit (n := 3) (by decide) (by decide)
theorem pub4 : pubV 4 = 256 := pub_lit (n := 4) (by decide) (by decide)
theorem elB16 : elemB 16 = true := by rw [← pub2]; exact pubV_El (by decide)
theorem elB64 : elemB 64 = true := by rw [← pub3]; exact pubV_El (by decide)
theorem elB256 : elemB 256 = true := by rw [← pub4]; exact pubV_El (by decide)
theorem elB4 : elemB 4 = true := elemB_El El4
theorem chk_one : chkPe pOne = true := by
  unfold chkPe
  refine allB_true fun i hi => ?_
  obtain rfl : i = 0 := by simp [pOne] at hi; exact hi
  unfold okPe hdPe cntB
  show (!decide ((0 : Int) < 0) && (!decide ((64 : Int) ≤ 0) && ((decide (0 = 0) || _) && (elemB 16 && (!decide ((0 : Int) < 0) && !decide ((1048576 : Int) < 0))))) && (_ && allB _ 0)) = true
  rw [elB16]; rfl
def s0 : Sty := ⟨pOne, p1, 3, 5, 4, 4, 64, 4, 3, 4, 2⟩
theorem s0_ok : s0.ok := ⟨chk_one, rfl, rfl, rfl, rfl, rfl, by decide, elB4, elB4, elB64, elB4, by decide, by decide, by decide, pub2.symm⟩
theorem s0_A : s0.A = crtV (ctN 1 3 64 4 1 3) 3 := by rw [← pub3]; rfl
theorem s0_B : s0.B = crtV (ctN 2 5 256 4 1 3) 3 := by rw [← pub4]; rfl
theorem s0_C : s0.C = crtV (ctN 4 3 0 0 2 5) 4 := rfl
theorem s0_D : s0.D = crtV (ctN 3 3 64 4 3 (-1)) 2 := rfl
theorem s0_zC : s0.zC = ⟨3, 64, 4, 2, true⟩ := by rw [← pub3]; rfl
theorem s0_zB : s0.zB = ⟨5, 256, 4, 1, false⟩ := by rw [← pub4]; rfl
theorem s0_zD : s0.zD = ⟨3, 64, 4, 3, false⟩ := rfl
theorem i64s' {z : Int} (h : -1000000 ≤ z ∧ z ≤ 1000000) : i64B z := by unfold i64B; omega
theorem sgR_bd (x : Int) (m : List UInt8) : i64B (sgR x m) := by
  unfold sgR
  split
  · have := (pow4_El (nonceM x.toNat m)).2.1
    unfold sigR i64B; omega
  · exact i64B_0
theorem sgS_bd (x : Int) (m : List UInt8) : i64B (sgS x m) := by
  unfold sgS
  split
  · have : sigS x.toNat m < 2305843009213688669 := addQ_lt _ _
    unfold i64B; omega
  · exact i64B_0
theorem crt_wf {k d v l n b : Int} (x : Int) (h : (ctN k d v l n b).wf) : (crtV (ctN k d v l n b) x).wf := by
  rw [crt_is]
  split
  · exact ⟨h.k, h.d, h.v, h.l, h.n, h.b, sgR_bd _ _, sgS_bd _ _⟩
  · exact ct0_wf
theorem ctn_wf {k d v l n b : Int} (hk : i64B k) (hd : i64B d) (hv : i64B v) (hl : i64B l) (hn : i64B n) (hb : i64B b) : (ctN k d v l n b).wf := ⟨hk, hd, hv, hl, hn, hb, i64B_0, i64B_0⟩
theorem build_p1 (W : World) : (Instr.build 40 #[(1, .int .i64 16)]).run Tryd.prog W = .ok (.agg (rowF 5 (peC p1 pe00))) W := by kernel_rfl
theorem fold_pe (g : Nat → Value) : Array.foldl (fun (cs : Array Value) (x : Value × Nat) => cs.setIfInBounds x.snd x.fst) #[.int .i64 0, .int .i64 0, .slice none 0 0, .int .i64 0, .int .i64 0] (rowF 5 g).zipIdx 0 5 = rowF 5 g := by kernel_rfl
/-- a new slice of one person without guards -/
theorem pes_one {w : World} {B : Nat} (p : Pe) (hp : p.gs = []) (h : RowV w B 40 5 (peC p pe00)) : PesS w (.slice (some ⟨B, 0, none⟩) 1 1) [p] us0 := by
  refine ⟨.inr ⟨B, 0, 1, rfl, Nat.le_refl _, Nat.one_pos, ⟨by show ((1 : Nat) : Int) ≤ _; decide, by decide⟩, h.lt, fun i hi j hj => ?_⟩, fun i hi => ?_⟩
  · obtain rfl : i = 0 := by simp at hi; exact hi
    rw [Nat.mul_zero, Nat.add_zero, Nat.zero_add]
    exact h.cell hj
  · obtain rfl : i = 0 := by simp at hi; exact hi
    show (us0 0).n = p.gs.length ∧ IntsS w (.slice (us0 0).a (us0 0).n (us0 0).k) p.gs
    rw [hp]
    exact ⟨rfl, .inl ⟨⟨none, 0, rfl, fun _ => rfl⟩, rfl⟩⟩
theorem pes_nil (w : World) : PesS w (.slice none 0 0) [] us0 := ⟨.inl ⟨⟨none, 0, rfl, fun _ => rfl⟩, rfl⟩, fun i hi => by simp at hi⟩
set_option maxRecDepth 100000 in
set_option maxHeartbeats 4000000 in
theorem one_any (w : World) : Calls Tryd.prog 20 #[] w fun e w' => ∃ B, e = .returned (.slice (some ⟨B, 0, none⟩) 1 1) ∧ PesS w' (.slice (some ⟨B, 0, none⟩) 1 1) pOne us0 ∧ Below w.heap.size w w' := by
  have hsz : ∀ g : Nat → Value, (rowF 5 g).size = 5 := fun g => rowF_size _ _
  go_enter Tryd.func20, Tryd.ntmps20
  go_wp2_with (first | ((with_reducible (show wpList _ _ _ (Oper.mk (some 1) _ _ _ _ _ :: _) _ _)); refine Hid.out ?_))
  refine Lib.hid ?_
  refine wpList_build rfl 40 _ rfl #[(1, .int .i64 16)] (by simp only [List.map_toArray, List.map_cons, List.map_nil]; rfl) _ (build_p1 _) ?_
  go_wp2_with fail
  rw [fold_pe]
  have R1 := RowV.new w 40 5 (peC p1 pe00)
  have b1 := (Below.refl _ w).alloc (Nat.le_refl _) (.cells (rowF 5 (peC p1 pe00)) 40)
  go_ret
  exact ⟨_, rfl, pes_one p1 rfl R1, b1⟩
end Go.Proofs.YtmmppibbglacdaaDoor

namespace Go.Proofs.YtmmppibbglacdaaDoor
open Go.ChangeShapes Go.WideShapes Go.ChangeAt Go.RowKit Cod
section
variable {H : Type} {enc : TypeId × Value → H} {W : World} {fuel : Nat} {cs : List Value} {x : DataW H × List MemPlace}
set_option maxRecDepth 100000 in
theorem trod_li (h : DataW.trod enc Tryd.prog W 0 (fun _ => true) true fuel 31 cs = some x) : ∃ a : Li, a.wf ∧ cs = (List.range 5).map (liC a) := by
  obtain ⟨xs, n, rfl, _, hlen, hxl, hf⟩ := DataW.trod_struct Tryd.underlying31 h
  rw [show Tryd.prog.cellsOf 31 = 5 by kernel_rfl] at hlen
  obtain ⟨d, ed, wd⟩ := field_int hxl hf 0 0 rfl rfl rfl
  obtain ⟨v, ev, wv⟩ := field_int hxl hf 1 1 rfl rfl rfl
  obtain ⟨l, el, wl⟩ := field_int hxl hf 2 2 rfl rfl rfl
  obtain ⟨m, em, wm⟩ := field_int hxl hf 3 3 rfl rfl rfl
  obtain ⟨_, h4⟩ := field_at hxl hf 4 4 1 4 rfl rfl rfl (by kernel_rfl)
  obtain ⟨g, e4, _⟩ := DataW.trod_bool Tryd.underlying4 h4
  have e4 := drop_one e4
  refine ⟨⟨d, v, l, m, g⟩, ⟨wd, wv, wl, wm⟩, cells_eq hlen fun i hi => ?_⟩
  have hh : i = 0 ∨ i = 1 ∨ i = 2 ∨ i = 3 ∨ i = 4 := by omega
  rcases hh with rfl | rfl | rfl | rfl | rfl
  · exact ed
  · exact ev
  · exact el
  · exact em
  · exact e4
set_option maxRecDepth 100000 in
theorem trod_ct (h : DataW.trod enc Tryd.prog W 0 (fun _ => true) true fuel 27 cs = some x) : ∃ a : Ct, a.wf ∧ cs = (List.range 8).map (ctC a) := by
  obtain ⟨xs, n, rfl, _, hlen, hxl, hf⟩ := DataW.trod_struct Tryd.underlying27 h
  rw [show Tryd.prog.cellsOf 27 = 8 by kernel_rfl] at hlen
  obtain ⟨k, ek, wk⟩ := field_int hxl hf 0 0 rfl rfl rfl
  obtain ⟨d, ed, wd⟩ := field_int hxl hf 1 1 rfl rfl rfl
  obtain ⟨v, ev, wv⟩ := field_int hxl hf 2 2 rfl rfl rfl
  obtain ⟨l, el, wl⟩ := field_int hxl hf 3 3 rfl rfl rfl
  obtain ⟨m, em, wm⟩ := field_int hxl hf 4 4 rfl rfl rfl
  obtain ⟨b, eb, wb⟩ := field_int hxl hf 5 5 rfl rfl rfl
  obtain ⟨_, h5⟩ := field_at hxl hf 6 6 2 25 rfl rfl rfl (by kernel_rfl)
  obtain ⟨ys, n2, rfl, _, hlen2, hyl, hg⟩ := DataW.trod_struct Tryd.underlying25 h5
  obtain ⟨r, er, wr⟩ := field_int hyl hg 0 0 rfl rfl rfl
  obtain ⟨g, eg, wg⟩ := field_int hyl hg 1 1 rfl rfl rfl
  refine ⟨⟨k, d, v, l, m, b, r, g⟩, ⟨wk, wd, wv, wl, wm, wb, wr, wg⟩, cells_eq hlen fun i hi => ?_⟩
  have hh : i = 0 ∨ i = 1 ∨ i = 2 ∨ i = 3 ∨ i = 4 ∨ i = 5 ∨ i = 6 ∨ i = 7 := by omega
  rcases hh with rfl | rfl | rfl | rfl | rfl | rfl | rfl | rfl
  · exact ek
  · exact ed
  · exact ev
  · exact el
  · exact em
  · exact eb
  · rw [List.getElem?_take_of_lt (by decide), List.getElem?_drop] at er; exact er
  · rw [List.getElem?_take_of_lt (by decide), List.getElem?_drop] at eg; exact eg
set_option maxRecDepth 100000 in
theorem ct_open {v : Value} {d : DataW H} {p : List MemPlace} {base : Nat}
    (hok : Value.okWide Tryd.prog W .any base 27 v) (hj : DataW.Trod enc Tryd.prog W 0 (fun _ => true) true 27 v d p) : ∃ a : Ct, a.wf ∧ v = .agg (rowF 8 (ctC a)) := by
  obtain ⟨cs, rfl, hs⟩ := okWide_struct Tryd.underlying27 hok
  obtain ⟨fuel, hf⟩ := hj
  obtain ⟨a, wa, h⟩ := trod_ct hf
  refine ⟨a, wa, ?_⟩
  have h2 : cs.toList = (List.range 8).map (ctC a) := h
  rw [show cs = cs.toList.toArray by simp, h2]; rfl
set_option maxRecDepth 100000 in
/-- a slice of numbers inside a struct -/
theorem ints_field (h : DataW.trod enc Tryd.prog W 0 (fun _ => true) true fuel 38 cs = some x) :
    ∃ (s : Sv) (gs : List Int), cs = [.slice s.a s.n s.k] ∧ s.n = gs.length ∧ (∀ z ∈ gs, i64B z) ∧ (gs.length ≤ 1000 → IntsS W (.slice s.a s.n s.k) gs) ∧ (s.n : Int) ≤ 9223372036854775807 := by
  rcases Deep.open_slice Tryd.underlying38 h with ⟨hcs, _⟩ | ⟨x, l, cp, m, n, D, Pl, hcs, _, hl, hm, hmm, hx, hi⟩
  · exact ⟨⟨none, 0, 0⟩, [], hcs, rfl, (fun z hz => by cases hz), fun _ => .inl ⟨⟨none, 0, rfl, fun _ => rfl⟩, rfl⟩, by decide⟩
  · obtain rfl : m = cp := by simpa using hmm
    unfold maxLen at hm
    have hc1 : Tryd.prog.cellsOf 3 = 1 := by kernel_rfl
    have each : ∀ i, ∃ z : Int, i < l → i64B z ∧ W.cell? (x.add i) = some (.int .i64 z) := by
      intro i
      by_cases hil : i < l
      · obtain ⟨cs', h1, h2⟩ := hi i (by omega)
        obtain ⟨z, rfl, _, e3⟩ := DataW.trod_int Tryd.underlying3 h2
        obtain ⟨_, _, hat⟩ := World.cells?_some h1
        refine ⟨z, fun _ => ⟨i64B_of e3, ?_⟩⟩
        have h3 := hat 0 (by rw [hc1]; decide)
        rw [Go.Deep.add_add, hc1, Nat.mul_one, Nat.add_zero] at h3
        simpa using h3
      · exact ⟨0, fun h => absurd h hil⟩
    obtain ⟨f, hf⟩ := Classical.axiomOfChoice each
    have hlt : ((List.range l).map f).length = l := by simp
    refine ⟨⟨some x, l, m⟩, (List.range l).map f, hcs, hlt.symm, fun z hz => ?_, fun h1000 => ?_, by show ((l : Nat) : Int) ≤ _; omega⟩
    · obtain ⟨i, hi2, rfl⟩ := List.mem_map.1 hz
      exact (hf i (List.mem_range.1 hi2)).1
    · rw [hlt] at h1000
      unfold IntsS
      rw [hlt]
      rcases Nat.eq_zero_or_pos l with h0 | h0
      · subst h0
        exact .inl ⟨⟨_, _, rfl, fun h => by cases h⟩, rfl⟩
      obtain ⟨b, off, spot⟩ := x
      have hc0 := (hf 0 h0).2
      have hspot : spot = none := by simpa [Addr.add] using World.cell?_spot hc0
      subst hspot
      have hb : b < W.heap.size := block_of_cell (show W.cell? ⟨b, off, none⟩ = some _ by simpa [Addr.add] using hc0)
      refine .inr ⟨b, off, m, rfl, hl, h0, ⟨by omega, by omega⟩, hb, fun i hil j hj => ?_⟩
      obtain rfl : j = 0 := by omega
      have h1 := (hf i hil).2
      rw [show (Addr.add ⟨b, off, none⟩ i) = ⟨b, off + 1 * i + 0, none⟩ by unfold Addr.add; simp] at h1
      rw [h1]
      congr 2
      simp [hil]
abbrev goodPe (W : World) (a : Pe × Sv) : Prop := a.1.wf ∧ a.2.n = a.1.gs.length ∧ (a.1.gs.length ≤ 1000 → IntsS W (.slice a.2.a a.2.n a.2.k) a.1.gs) ∧ (a.2.n : Int) ≤ 9223372036854775807
abbrev peA (a : Pe × Sv) (j : Nat) : Value := peC a.1 a.2 j
set_option maxRecDepth 100000 in
theorem trod_pe (h : DataW.trod enc Tryd.prog W 0 (fun _ => true) true fuel 40 cs = some x) : ∃ a : Pe × Sv, goodPe W a ∧ cs = (List.range 5).map (peA a) := by
  obtain ⟨xs, n, rfl, _, hlen, hxl, hf⟩ := DataW.trod_struct Tryd.underlying40 h
  rw [show Tryd.prog.cellsOf 40 = 5 by kernel_rfl] at hlen
  obtain ⟨i0, ei, wi⟩ := field_int hxl hf 0 0 rfl rfl rfl
  obtain ⟨r, er, wr⟩ := field_int hxl hf 1 1 rfl rfl rfl
  obtain ⟨_, h2⟩ := field_at hxl hf 2 2 1 38 rfl rfl rfl (by kernel_rfl)
  obtain ⟨s, gs, e2, g1, g2, g3, g4⟩ := ints_field h2
  have e2 := drop_one e2
  obtain ⟨m, em, wm⟩ := field_int hxl hf 3 3 rfl rfl rfl
  obtain ⟨c, ec, wc⟩ := field_int hxl hf 4 4 rfl rfl rfl
  refine ⟨(⟨i0, r, gs, m, c⟩, s), ⟨⟨wi, wr, wm, wc, g2⟩, g1, g3, g4⟩, cells_eq hlen fun i hi => ?_⟩
  have hh : i = 0 ∨ i = 1 ∨ i = 2 ∨ i = 3 ∨ i = 4 := by omega
  rcases hh with rfl | rfl | rfl | rfl | rfl
  · exact ei
  · exact er
  · exact e2
  · exact em
  · exact ec
/-- people that came in -/
theorem pes_open {v : Value} {ps : List (Pe × Sv)} (hg : ∀ a ∈ ps, goodPe W a) (hs : SlAt 5 W v ps.length (fun i => peA (ps.getD i (pe0, pe00)))) : PesW W v (ps.map (·.1)) (fun i => (ps.getD i (pe0, pe00)).2) := by
  have e : ∀ i, (ps.map (·.1)).getD i pe0 = (ps.getD i (pe0, pe00)).1 := fun i => by
    rw [List.getD_eq_getElem?_getD, List.getD_eq_getElem?_getD, List.getElem?_map]
    cases ps[i]? <;> rfl
  refine ⟨?_, fun i hi => ?_⟩
  · rw [List.length_map]
    exact hs.congr (fun i hi j hj => by rw [e])
  · rw [List.length_map] at hi
    have hm : ps.getD i (pe0, pe00) ∈ ps := by rw [List.getD_eq_getElem?_getD, List.getElem?_eq_getElem hi]; exact List.getElem_mem hi
    obtain ⟨h1, h2, h3, h4⟩ := hg _ hm
    rw [e]
    exact ⟨h2, h3, h4⟩
end
end Go.Proofs.YtmmppibbglacdaaDoor
