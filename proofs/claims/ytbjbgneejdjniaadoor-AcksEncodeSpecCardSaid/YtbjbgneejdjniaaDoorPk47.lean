/- Acknowledgements compared; the statements' helpers num, SameInts, Few. Own slices of structs, of any kind: they read as lists; appends to them. -/
import Derived.Test.YtbjbgneejdjniaaDoorPk43
import Derived.Test.YtbjbgneejdjniaaDoorPk46
set_option linter.unusedVariables false
set_option linter.unusedSimpArgs false
namespace Go.Proofs.YtbjbgneejdjniaaDoor
open Go.RowKit Cod
def akB (a b : Ak) : Bool := a.f == b.f && a.d == b.d && a.s == b.s && a.u == b.u && a.ch == b.ch && a.r == b.r && a.g == b.g
theorem akB_iff (a b : Ak) : akB a b = true ↔ a = b := by
  obtain ⟨f, d, s, u, ch, r, g⟩ := a
  obtain ⟨f', d', s', u', ch', r', g'⟩ := b
  unfold akB
  simp only [Bool.and_eq_true, beq_iff_eq, Ak.mk.injEq, and_assoc]
theorem akB_self (a : Ak) : akB a a = true := (akB_iff a a).2 rfl
set_option maxRecDepth 100000 in
theorem part_int (a : Ak) (w : World) (i : Nat) (hi : i = 0 ∨ i = 1 ∨ i = 2 ∨ i = 3) : (part 3 (rowF 38 (akC a)) i).run Tryd.prog w = .ok (.int .i64 (a.at i)) w := by
  rcases hi with rfl | rfl | rfl | rfl <;> kernel_rfl
theorem eqF_cons {P : Program} {w : World} {d : Nat} {xs ys : Array Value} {nm : String} {ty : TypeId} {off : Nat} {e : Bool} {tg pk : String} {bo : Nat} {fs : List Field} {va vb : Value} {r : Bool} (hn : nm ≠ "_")
    (ha : (part ty xs off).run P w = .ok va w) (hb : (part ty ys off).run P w = .ok vb w) (hr : (Op.equalIn d ty va vb).run P w = .ok r w) :
    (Op.eqFields d xs ys (⟨nm, ty, off, e, tg, pk, bo⟩ :: fs)).run P w = if r then (Op.eqFields d xs ys fs).run P w else .ok false w := by
  simp only [Op.eqFields, Sem.run_ite, Sem.run_bind]
  rw [if_pos hn, ha, Result.andThen_ok, hb, Result.andThen_ok, hr, Result.andThen_ok]
  cases r <;> simp only [Bool.not_false, Bool.not_true, if_true, if_false, Sem.run_pure, Sem.run_ite, Bool.false_eq_true]
theorem eqF_nil {P : Program} {w : World} {d : Nat} {xs ys : Array Value} : (Op.eqFields d xs ys []).run P w = .ok true w := rfl
theorem part_ch (a : Ak) (w : World) : (part 23 (rowF 38 (akC a)) 4).run Tryd.prog w = .ok (digV a.ch) w := by kernel_rfl
theorem part_sig (a : Ak) (w : World) : (part 25 (rowF 38 (akC a)) 36).run Tryd.prog w = .ok (.agg #[.int .i64 a.r, .int .i64 a.g]) w := by kernel_rfl
theorem eqin_dig (d : Nat) (l m : List UInt8) (hl : l.length = 32) (hm : m.length = 32) (w : World) : (Op.equalIn (d + 2) 23 (digV l) (digV m)).run Tryd.prog w = .ok (l == m) w := by
  rw [digV_cells hl, digV_cells hm]
  exact run_equalIn_bytes w d 23 5 32 Tryd.underlying23 Tryd.underlying5 (fun w => by kernel_rfl) l m hl hm
theorem eqin_sig (d : Nat) (r g r' g' : Int) (w : World) : (Op.equalIn (d + 3) 25 (.agg #[.int .i64 r, .int .i64 g]) (.agg #[.int .i64 r', .int .i64 g'])).run Tryd.prog w = .ok (r == r' && g == g') w := by
  rw [run_equalIn_agg w (d + 2) 25 _ _ (by kernel_rfl) (by kernel_rfl)]
  unfold Program.fieldsOf
  rw [Tryd.underlying25]
  have h1 := run_equalIn_int w (d + 1) 3 .i64 .i64 r r' Tryd.underlying3
  have h2 := run_equalIn_int w (d + 1) 3 .i64 .i64 g g' Tryd.underlying3
  have p1 : ∀ x y, (part 3 #[.int .i64 x, .int .i64 y] 0).run Tryd.prog w = .ok (.int .i64 x) w := fun x y => by kernel_rfl
  have p2 : ∀ x y, (part 3 #[.int .i64 x, .int .i64 y] 1).run Tryd.prog w = .ok (.int .i64 y) w := fun x y => by kernel_rfl
  show Sem.run _ (Op.eqFields _ _ _ (_ :: _ :: [])) w = _
  rw [eqF_cons (by decide) (p1 r g) (p1 r' g') h1, eqF_cons (by decide) (p2 r g) (p2 r' g') h2, eqF_nil]
  cases (r == r') <;> cases (g == g') <;> rfl
theorem eqin_ack (a b : Ak) (ha : a.ch.length = 32) (hb : b.ch.length = 32) (w : World) : (Op.equalIn 10000 27 (.agg (rowF 38 (akC a))) (.agg (rowF 38 (akC b)))).run Tryd.prog w = .ok (akB a b) w := by
  rw [run_equalIn_agg w 9999 27 _ _ (by kernel_rfl) (by kernel_rfl)]
  unfold Program.fieldsOf
  rw [Tryd.underlying27]
  have h0 : ∀ x y : Int, (Op.equalIn 9999 3 (.int .i64 x) (.int .i64 y)).run Tryd.prog w = .ok (x == y) w := fun x y => run_equalIn_int w 9998 3 .i64 .i64 x y Tryd.underlying3
  have h4 := eqin_dig 9997 a.ch b.ch ha hb w
  have h5 := eqin_sig 9996 a.r a.g b.r b.g w
  have pi := fun c i hi => part_int c w i hi
  have p0 := fun c => pi c 0 (.inl rfl)
  have p1 := fun c => pi c 1 (.inr (.inl rfl))
  have p2 := fun c => pi c 2 (.inr (.inr (.inl rfl)))
  have p3 := fun c => pi c 3 (.inr (.inr (.inr rfl)))
  have p4 := fun c => part_ch c w
  have p5 := fun c => part_sig c w
  unfold akB
  show Sem.run _ (Op.eqFields _ _ _ (_ :: _ :: _ :: _ :: _ :: _ :: [])) w = _
  rw [eqF_cons (by decide) (p0 a) (p0 b) (h0 _ _), eqF_cons (by decide) (p1 a) (p1 b) (h0 _ _), eqF_cons (by decide) (p2 a) (p2 b) (h0 _ _), eqF_cons (by decide) (p3 a) (p3 b) (h0 _ _), eqF_cons (by decide) (p4 a) (p4 b) h4, eqF_cons (by decide) (p5 a) (p5 b) h5, eqF_nil]
  simp only [Ak.at]
  cases (a.f == b.f) <;> cases (a.d == b.d) <;> cases (a.s == b.s) <;> cases (a.u == b.u) <;> cases (a.ch == b.ch) <;> cases (a.r == b.r) <;> cases (a.g == b.g) <;> rfl
theorem eql_ack (a b : Ak) (ha : a.ch.length = 32) (hb : b.ch.length = 32) (w : World) : (binOp .eql 27 (.agg (rowF 38 (akC a))) (.agg (rowF 38 (akC b)))).run Tryd.prog w = .ok (.bool (akB a b)) w := by
  rw [run_eql_struct, eqin_ack a b ha hb]; rfl
theorem neq_ack (a b : Ak) (ha : a.ch.length = 32) (hb : b.ch.length = 32) (w : World) : (binOp .neq 27 (.agg (rowF 38 (akC a))) (.agg (rowF 38 (akC b)))).run Tryd.prog w = .ok (.bool (!akB a b)) w := by
  rw [run_neq_struct, eqin_ack a b ha hb]; rfl
theorem guard_ack (op : BinOp) (x y : Operand) (a b : Ak) (w : World) : (eqGuard op 27 x y (.agg (rowF 38 (akC a))) (.agg (rowF 38 (akC b)))).run Tryd.prog w = .ok () w :=
  run_eqGuard_agg w op 27 x y _ _ (by kernel_rfl)
set_option maxRecDepth 100000 in
set_option maxHeartbeats 2000000 in
theorem num_any (n : Int) (w : World) :
    Calls Tryd.prog 16 #[.int .i64 n] w fun e w' => e = .returned (.agg #[.int .i64 1, .int .i64 n, .string ByteArray.empty, .slice none 0 0]) ∧ Below w.heap.size w w' := by
  go_enter Tryd.func16, Tryd.ntmps16
  go_wp2_with fail
  refine bodyPost_ret (v := .agg #[.int .i64 1, .int .i64 n, .string ByteArray.empty, .slice none 0 0]) (by exact results_rowV (fn := Tryd.f16) (p := 2) (ty := 51) rfl _ _ w.heap.size 4 51 (valC 1 n ByteArray.empty (.slice none 0 0)) _ rfl (RowV.new w _ 4 (valC 1 n ByteArray.empty (.slice none 0 0))) Tryd.underlying51 rfl (by kernel_rfl)) rfl ⟨rfl, ?_⟩
  exact (Below.refl _ w).alloc (Nat.le_refl _) _
set_option maxRecDepth 100000 in
set_option maxHeartbeats 2000000 in
theorem few_any (ma la ea : Option Addr) (mn ln en mc lc ec : Nat) (w : World) :
    Calls Tryd.prog 13 #[.slice ma mn mc, .slice la ln lc, .slice ea en ec] w fun e w' => e = .returned (.bool (decide (mn ≤ 6) && decide (ln ≤ 12) && decide (en ≤ 60))) ∧ Below w.heap.size w w' := by
  have a0 : decide ((mn : Int) ≤ 6) = decide (mn ≤ 6) := by rw [decide_eq_decide]; omega
  have a1 : decide ((ln : Int) ≤ 12) = decide (ln ≤ 12) := by rw [decide_eq_decide]; omega
  have a2 : decide ((en : Int) ≤ 60) = decide (en ≤ 60) := by rw [decide_eq_decide]; omega
  go_enter Tryd.func13, Tryd.ntmps13
  cases e0 : decide (mn ≤ 6)
  · rw [e0] at a0
    go_wp2_with fail
    go_ret
    exact ⟨rfl, Below.refl _ _⟩
  · rw [e0] at a0
    cases e1 : decide (ln ≤ 12)
    · rw [e1] at a1
      go_wp2_with fail
      go_ret
      exact ⟨rfl, Below.refl _ _⟩
    · rw [e1] at a1
      cases e2 : decide (en ≤ 60)
      · rw [e2] at a2
        go_wp2_with fail
        go_ret
        exact ⟨rfl, Below.refl _ _⟩
      · rw [e2] at a2
        go_wp2_with fail
        go_ret
        exact ⟨rfl, Below.refl _ _⟩
theorem drop_same {xs ys : List Int} {k : Nat} (h1 : k < xs.length) (h2 : k < ys.length) : decide (xs.drop k = ys.drop k) = (decide (xs.getD k 0 = ys.getD k 0) && decide (xs.drop (k + 1) = ys.drop (k + 1))) := by
  rw [drop_succ_getD 0 xs h1, drop_succ_getD 0 ys h2, ← Bool.decide_and, decide_eq_decide]
  exact List.cons_eq_cons
set_option maxRecDepth 100000 in
set_option maxHeartbeats 4000000 in
theorem same_any (u v : Value) (xs ys : List Int) (w : World) (hu : IntsS w u xs) (hv : IntsS w v ys) :
    Calls Tryd.prog 23 #[u, v] w fun e w' => e = .returned (.bool (decide (xs = ys))) ∧ Below w.heap.size w w' := by
  obtain ⟨a, c, rfl⟩ := hu.slice
  obtain ⟨b, d, rfl⟩ := hv.slice
  have hlen := hu.len_le
  have HU := Lib.hid hu
  have HV := Lib.hid hv
  obtain ⟨n, hn⟩ : ∃ n, xs.length = n := ⟨_, rfl⟩
  obtain ⟨m, hm⟩ : ∃ n, ys.length = n := ⟨_, rfl⟩
  have HN := Lib.hid hn
  have HM := Lib.hid hm
  rw [hn] at hlen
  rw [hn, hm]
  clear hu hv hn hm
  go_enter Tryd.func23, Tryd.ntmps23
  by_cases hnm : n = m
  · subst hnm
    have e0 : ((n : Int) != (n : Int)) = false := by simp
    have e1 : ((n : Int) == (n : Int)) = true := by simp
    go_wp2_with fail
    go_loopg [5] n (fun g s5 wx => ∃ (k : Nat), k + g = n ∧ s5 = .int .i64 (k : Int) ∧ Hid (decide (xs = ys) = decide (xs.drop k = ys.drop k)) ∧ Hid (Below w.heap.size w wx))
    case atStart => exact ⟨0, by omega, rfl, Lib.hid rfl, Lib.hid (Below.refl _ _)⟩
    case round =>
      obtain ⟨k, hk, rfl, hI, hB⟩ := hrel
      obtain ⟨w1, rfl⟩ : ∃ y, y = wr := ⟨_, rfl⟩
      have q0 : (0 : Int) ≤ (k : Int) := Int.natCast_nonneg k
      by_cases hlt : k < n
      · have HL := Lib.hid hlt
        have d0 : decide ((k : Int) < (n : Int)) = true := by rw [decide_eq_true_iff]; omega
        have d1 : decide (k < n) = true := by rw [decide_eq_true_iff]; omega
        have p1 : (k : Int) < (n : Int) := by omega
        have DS := Lib.hid (drop_same (xs := xs) (ys := ys) (k := k) (by rw [HN.out]; exact hlt) (by rw [HM.out]; exact hlt))
        obtain ⟨b1, o1, rfl, hcap1, hb1, hc1⟩ := SlAt.at_elem (s := 1) (a := a) (k := c) (by have h := HU.out.below hB.out; unfold IntsS at h; rw [HN.out] at h; exact h) hlt
        obtain ⟨b2, o2, rfl, hcap2, hb2, hc2⟩ := SlAt.at_elem (s := 1) (a := b) (k := d) (by have h := HV.out.below hB.out; unfold IntsS at h; rw [HM.out] at h; exact h) hlt
        have x0 : w1.cell? ⟨b1, o1 + k, none⟩ = some (.int .i64 (xs.getD k 0)) := by have := hc1 k hlt 0 (by decide); simpa using this
        have x1 : w1.cell? ⟨b2, o2 + k, none⟩ = some (.int .i64 (ys.getD k 0)) := by have := hc2 k hlt 0 (by decide); simpa using this
        obtain ⟨x, hx⟩ : ∃ x, xs.getD k 0 = x := ⟨_, rfl⟩
        obtain ⟨y, hy⟩ : ∃ x, ys.getD k 0 = x := ⟨_, rfl⟩
        rw [hx, hy] at DS
        rw [hx] at x0
        rw [hy] at x1
        clear hc1 hc2 hx hy hlt
        by_cases hxy : x = y
        · have t0 : (x != y) = false := by simp [hxy]
          have t1 : (x == y) = true := by simp [hxy]
          have DT : Hid (decide (xs = ys) = decide (xs.drop (k + 1) = ys.drop (k + 1))) := Lib.hid (by rw [hI.out, DS.out, decide_eq_true hxy, Bool.true_and])
          clear hxy DS hI
          go_wp2_with fail
          go_quiet (fail)
          go_wp2_with fail
          have b1 := below_drewN (Below.refl w1.heap.size w1) nq
          go_roundg (gk - 1)
          case measure => have := HL.out; omega
          case rel =>
            go_light
            exact ⟨k + 1, by have := HL.out; omega, by go_num, DT, Lib.hid (hB.out.trans (b1.mono hB.out.size))⟩
        · have t0 : (x != y) = true := by simp [hxy]
          have t1 : (x == y) = false := by simp [hxy]
          have DT : Hid (decide (xs = ys) = false) := Lib.hid (by rw [hI.out, DS.out, decide_eq_false hxy, Bool.false_and])
          clear hxy DS hI
          have bb := fun m => below_drewN (Below.refl w1.heap.size w1) m
          go_wp2_with fail
          go_quiet (fail)
          go_wp2_with fail
          go_ret
          exact ⟨by rw [DT.out]; rfl, hB.out.trans ((bb nq).mono hB.out.size)⟩
      · have d0 : decide ((k : Int) < (n : Int)) = false := by rw [decide_eq_false_iff_not]; omega
        have d1 : decide (k < n) = false := by rw [decide_eq_false_iff_not]; omega
        have F : Hid (decide (xs = ys) = true) := Lib.hid (by rw [hI.out, List.drop_eq_nil_of_le (by rw [HN.out]; omega), List.drop_eq_nil_of_le (by rw [HM.out]; omega)]; rfl)
        clear hI hlt
        go_wp2_with fail
        go_ret
        exact ⟨by rw [F.out]; rfl, hB.out⟩
  · have e0 : ((n : Int) != (m : Int)) = true := by rw [bne_iff_ne]; omega
    have e1 : ((n : Int) == (m : Int)) = false := by rw [beq_eq_false_iff_ne]; omega
    have e2 : (n == m) = false := by rw [beq_eq_false_iff_ne]; exact hnm
    have NE : Hid (decide (xs = ys) = false) := Lib.hid (by rw [decide_eq_false_iff_not]; intro h; exact hnm (HN.out.symm.trans ((congrArg List.length h).trans HM.out)))
    go_wp2_with fail
    go_ret
    exact ⟨by rw [NE.out]; rfl, Below.refl _ _⟩
end Go.Proofs.YtbjbgneejdjniaaDoor

namespace Go.Proofs.YtbjbgneejdjniaaDoor
open Go.RowKit Cod
section
variable {α : Type}
def OwnT (T : TypeId) (s : Nat) (c : α → Nat → Value) (w : World) (base : Nat) (v : Value) (l : List α) : Prop := w.ownsRow base T s v l.length (flatS s c l)
variable {T : TypeId} {s : Nat} {c : α → Nat → Value} {w w' : World} {base : Nat} {v : Value} {l : List α}
theorem OwnT.nil (w : World) (base : Nat) : OwnT T s c w base (.slice none 0 0) [] := World.ownsRow_nil _ _ _ _
theorem OwnT.slice (h : OwnT T s c w base v l) : ∃ (a : Option Addr) (k : Nat), v = .slice a l.length k := by
  rcases h.2 with ⟨rfl, h3⟩ | ⟨g, cap, cur, rfl, _⟩
  · exact ⟨none, 0, by rw [h3]⟩
  · exact ⟨_, _, rfl⟩
theorem OwnT.below (h : OwnT T s c w base v l) (b : Below w.heap.size w w') : OwnT T s c w' base v l :=
  World.ownsRow.kept h (row := none) ⟨b.os, b.tape, b.output, b.size, fun k hk _ => b.block k hk⟩ (by cases v.ownBlock <;> simp)
theorem OwnT.mono {base' : Nat} (h : OwnT T s c w base v l) (hb : base' ≤ base) : OwnT T s c w base' v l := ownsRow_mono h hb
theorem OwnT.lt (h : OwnT T s c w base v l) : ∀ b, v.ownBlock = some b → base ≤ b ∧ b < w.heap.size := World.ownsRow.lt h
/-- another slice's append leaves it -/
theorem OwnT.app {u u' : Value} (h : OwnT T s c w base v l) (s1 : AppStep w u w' u') (hne : v.ownBlock = none ∨ v.ownBlock ≠ u.ownBlock) : OwnT T s c w' base v l := World.ownsRow.kept h s1.1 hne
theorem OwnT.only {B : Nat} (h : OwnT T s c w base v l) (o : OnlyB B w w') (hne : ∀ b, v.ownBlock = some b → b ≠ B) : OwnT T s c w' base v l :=
  World.ownsRow.kept h (row := some B) ⟨o.os, o.tape, o.output, o.size, fun k hk hn => o.block k hk (fun e => hn (by rw [e]))⟩ (by
    cases hb : v.ownBlock with
    | none => exact .inl rfl
    | some b => exact .inr (fun e => hne b hb (Option.some.inj e)))
theorem OwnT.at' (d : α) (hs : 0 < s) (hs2 : s ≤ 1000) (h : OwnT T s c w base v l) (hn : l.length ≤ 1000000) : SlAt s w v l.length (fun i => c (l.getD i d)) := by
  rcases h.2 with ⟨rfl, h3⟩ | ⟨g, cap, cur, rfl, hb, hg, hle, hm, hz, ht⟩
  · exact .inl ⟨⟨none, 0, rfl, fun _ => rfl⟩, h3⟩
  · by_cases h0 : l.length = 0
    · exact .inl ⟨⟨_, cap, by rw [h0], fun h => by cases h⟩, h0⟩
    · unfold maxLen at hm
      have hm2 : s * l.length ≤ 1000 * 1000000 := Nat.mul_le_mul hs2 hn
      refine .inr ⟨g, 0, cap, rfl, hle, by omega, ⟨by omega, by omega⟩, (Array.getElem?_eq_some_iff.1 hg).1, fun i hi j hj => ?_⟩
      have h4 := World.ownsRow.cells h (g := g) rfl (s * i + j) _ (flatS_get d l i j hi hj)
      rw [Addr.add_mid, Nat.add_assoc] at *
      simpa using h4
/-- a new slice of one element -/
theorem OwnT.one {B : Nat} {a : α} (hs : 0 < s) (h : RowV w B T s (c a)) : OwnT T s c w B (.slice (some ⟨B, 0, none⟩) 1 1) [a] := by
  have e : flatS s c [a] = (List.range s).map (c a) := by simp [flatS]
  refine ⟨by rw [e]; simp, .inr ⟨B, 1, rowF s (c a), rfl, Nat.le_refl _, h, Nat.le_refl _, by decide, by rw [rowF_size]; simp, ?_⟩⟩
  rw [e]
  show ((List.range s).map (c a)).take (([a] : List α).length * s) = _
  rw [List.length_singleton, Nat.one_mul, List.take_of_length_le (by simp)]
theorem flatS_join (l m : List α) : flatS s c (l ++ m) = flatS s c l ++ flatS s c m := by unfold flatS; rw [List.flatMap_append]
theorem wpList_app_T {z : Value} {bytes : Nat} {t : TypeId} {ops : Array Oper} {rest : List Oper} {o : Oper} {a : Act} {Q : Exit → Act → World → Prop} (hgd : o.guard = none) (x y : Operand)
    (hinfo : (Tryd.prog.info? T).map (fun i => (i.zero, i.size, i.bytes)) = some (some z, s, bytes)) (ht : Tryd.prog.underlying t = some (.slice T)) (hz : z.cells.size = s) (hs : 0 < s) (hby : bytes ≤ 1000) (h1 : ∀ u j, (c u j).oneCell' = true) (d : α)
    (ho : o.op = .call { callee := .builtin .append, args := #[x, y], argTypes := #[t, t] })
    (base : Nat) (v : Value) (l : List α) (hx : a.eval x = v) (hown : OwnT T s c w base v l) (g2 c2 : Nat) (l2 : List α) (hy : a.eval y = .slice (some ⟨g2, 0, none⟩) l2.length c2)
    (hc : ∀ i, i < l2.length → ∀ j, j < s → w.cell? ⟨g2, s * i + j, none⟩ = some (c (l2.getD i d) j)) (hlen : l.length + l2.length ≤ 1000000) (hbase : base ≤ w.heap.size)
    (h : ∀ v' w', Hid (OwnT T s c w' base v' (l ++ l2)) → Hid (AppStep w v w' v') → wpList Tryd.prog ops Q rest (a.put o.dst v') w') : wpList Tryd.prog ops Q (o :: rest) a w := by
  obtain ⟨i0, hi, hz0, hz1, hz2⟩ := info_parts3 hinfo
  refine wpList_app hgd x y t ho base T i0 z s bytes ht hi hz0 hz1 hz2 hz hs v l.length (flatS s c l) hx hown ⟨g2, 0, none⟩ l2.length c2 (flatS s c l2) hy (flatS_len l2) ?_ ?_ (by unfold maxLen; omega) (Nat.le_trans (Nat.mul_le_mul hlen hby) (by decide)) hbase ?_
  · intro j u hj
    have hjl : j < l2.length * s := by have := (List.getElem?_eq_some_iff.1 hj).1; rwa [flatS_len] at this
    have hi : j / s < l2.length := (Nat.div_lt_iff_lt_mul hs).2 hjl
    have hm : j % s < s := Nat.mod_lt _ hs
    have e := Nat.div_add_mod j s
    have hg := flatS_get d (s := s) (c := c) l2 (j / s) (j % s) hi hm
    rw [e] at hg
    rw [Addr.add_mid, Nat.zero_add, ← e, hc _ hi _ hm, ← hj]; exact hg.symm
  · intro u hu
    unfold flatS at hu
    obtain ⟨b, _, hb⟩ := List.mem_flatMap.1 hu
    obtain ⟨j, _, rfl⟩ := List.mem_map.1 hb
    exact h1 _ _
  · intro v' w' h3 h4
    refine h v' w' ?_ h4
    unfold Hid OwnT
    rw [List.length_append, flatS_join]
    exact h3
end
def intC (z : Int) (_ : Nat) : Value := .int .i64 z
theorem flat_ints (l : List Int) : flatS 1 intC l = l.map (Value.int .i64) := by
  induction l with
  | nil => rfl
  | cons z l ih => show (List.range 1).map (intC z) ++ flatS 1 intC l = _; rw [ih]; rfl
theorem OwnT.of_ints {w : World} {base : Nat} {v : Value} {l : List Int} (h : w.ownsRow base 3 1 v l.length (l.map (Value.int .i64))) : OwnT 3 1 intC w base v l := by unfold OwnT; rw [flat_ints]; exact h
theorem OwnT.ints {w : World} {base : Nat} {v : Value} {l : List Int} (h : OwnT 3 1 intC w base v l) (hn : l.length ≤ 1000000) : IntsS w v l := h.at' 0 (by decide) (by decide) hn
theorem OwnT.acks {w : World} {base : Nat} {v : Value} {l : List Ak} (h : OwnT 27 38 akC w base v l) (hn : l.length ≤ 1000000) : AkS w v l := h.at' ak0 (by decide) (by decide) hn
theorem OwnT.mems {w : World} {base : Nat} {v : Value} {l : List Mb} (h : OwnT 47 3 mbC w base v l) (hn : l.length ≤ 1000000) : MbS w v l := h.at' mb0 (by decide) (by decide) hn
theorem OwnT.ents {w : World} {base : Nat} {v : Value} {l : List En} (h : OwnT 45 35 enC w base v l) (hn : l.length ≤ 1000000) : EnS w v l := h.at' en0 (by decide) (by decide) hn
theorem info_mem : (Tryd.prog.info? 47).map (fun i => (i.zero, i.size, i.bytes)) = some (some (.agg #[.int .i64 0, .int .i64 0, .int .i64 0]), 3, 24) := by kernel_rfl
end Go.Proofs.YtbjbgneejdjniaaDoor
