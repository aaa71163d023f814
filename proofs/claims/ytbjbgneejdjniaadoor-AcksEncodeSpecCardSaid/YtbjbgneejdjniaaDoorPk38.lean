/- Package acks: message, Make, Check, Encode. Package acks: Make. -/
import Derived.Test.YtbjbgneejdjniaaDoorPk37
set_option linter.unusedVariables false
set_option linter.unusedSimpArgs false
namespace Go.Proofs.YtbjbgneejdjniaaDoor
open Go.RowKit Cod
theorem ints_nil (w : World) : IntsS w (.slice none 0 0) [] := .inl ⟨⟨none, 0, rfl, fun _ => rfl⟩, rfl⟩
theorem isSA {T : TypeId} {N : Nat} (h : (Tryd.prog.info? T).map (·.size) = some N) : (Tryd.prog.info? T).map (·.size) = some N := h
set_option maxRecDepth 100000 in
set_option maxHeartbeats 4000000 in
theorem amessage_any (a : Ak) (ha : a.wf) (w : World) (hT : Tab w) :
    Calls Tryd.prog 45 #[.agg (rowF 38 (akC a))] w fun e w' => (∃ v, e = .returned v ∧ BytesAt w' v (msgA a)) ∧ Below w.heap.size w w' := by
  have T0 := Lib.hid hT
  have L := Lib.hid (fun W => alist_any a ha (.slice none 0 0) [] W (ints_nil W) (fun z hz => absurd hz List.not_mem_nil) (by decide))
  have EL := Lib.hid (encA_len a ha [] (fun z hz => absurd hz List.not_mem_nil) (by decide))
  have G := Lib.hid (fun v W (h : BytesAt W v (encA a [])) (hT : Tab W) => tagged_any ⟨#[97, 99, 107]⟩ v _ W (by decide) (Nat.le_trans EL.out (by decide)) h hT)
  clear hT
  go_enter Tryd.func45, Tryd.ntmps45
  have B0 := Lib.hid (Below.refl w.heap.size w)
  go_upto_region 1 with fail
  obtain ⟨w1, hw1⟩ : ∃ y, w.alloc (.cells (rowF 38 (akC a)) 27) = y := ⟨_, rfl⟩
  have b1 : Below w.heap.size w w1 := by rw [← hw1]; exact (Below.refl _ _).alloc (Nat.le_refl _) _
  have A1 : Hid (RowV w1 w.heap.size 27 38 (akC a)) := Lib.hid (by rw [← hw1]; exact RowV.new w _ 38 (akC a))
  have z1 : w.heap.size + 1 = w1.heap.size := by rw [← hw1]; exact (Array.size_push _).symm
  rw [hw1]
  (try rw [z1])
  have B1 := Lib.hid (B0.out.trans (b1.mono B0.out.size))
  have T1 := Lib.hid (T0.out.below b1)
  clear b1 hw1 z1 B0 T0
  go_wp2_with ((with_reducible (show wpList _ _ _ (Oper.mk (some 4) _ _ _ _ _ :: _) _ _)); refine wpList_load_rowV rfl 27 (.tmp 1) rfl w.heap.size rfl 38 27 _ A1.out _ Tryd.underlying27 rfl (by kernel_rfl) ?_)
  refine (L.out _).mono ?_
  rintro e w2 ⟨⟨u, rfl, o2⟩, b2⟩
  have T2 := Lib.hid (T1.out.below b2)
  have B2 := Lib.hid (B1.out.trans (b2.mono B1.out.size))
  have Y2 := Lib.hid (o2.bytesAt (by have := EL.out; omega))
  clear o2 b2 T1 B1 L A1 EL
  go_wp2_with fail
  refine (G.out _ _ Y2.out T2.out).mono ?_
  rintro e w3 ⟨rfl, b3⟩
  have B3 := Lib.hid (B2.out.trans (b3.mono B2.out.size))
  clear b3 T2 B2 Y2 G
  have Zr := Lib.hid (RowV.new w3 23 32 (fun _ => vB 0))
  go_upto_region 2 with ((with_reducible (show wpList _ _ _ (Oper.mk none _ _ _ _ _ :: _) _ _)); refine wpList_store_rowV (o := ⟨none, .store 23 (.tmp 3) (.tmp 6), _, _, _, _⟩) rfl 23 (.tmp 3) (.tmp 6) rfl w3.heap.size rfl 32 23 _ (fun j => vB ((msgA a).getD j 0)) rfl Zr.out (by kernel_rfl) (fun _ _ => rfl) ?_; intro w4 D4 o4)
  have b4 : Below w3.heap.size w3 w4 := ((Below.refl _ _).alloc (Nat.le_refl _) _).trans (o4.out.below (Nat.le_refl _) (by rw [World.size_alloc]; omega))
  have B4 := Lib.hid (B3.out.trans (b4.mono B3.out.size))
  clear b4 o4 Zr B3
  have Y := Lib.hid (D4.out.bytesAt (msgA_len a) (by decide) (by decide))
  go_wp2_with fail
  go_ret
  exact ⟨⟨_, rfl, Y.out⟩, B4.out⟩
/-- an acknowledgement at its key -/
theorem ak_formed (a : Ak) (W : World) : Calls Tryd.prog 24 #[.agg (rowF 38 (akC a))] W fun e w' => e = .returned (.bool (okA a)) ∧ Below W.heap.size W w' := aformed_any a W
set_option maxRecDepth 100000 in
set_option maxHeartbeats 4000000 in
theorem acheck_any (a : Ak) (ha : a.wf) (p : Int) (w : World) (hT : Tab w) :
    Calls Tryd.prog 22 #[.agg (rowF 38 (akC a)), .int .i64 p] w fun e w' => e = .returned (.int .i64 (ckA a p)) ∧ Below w.heap.size w w' := by
  have T0 := Lib.hid hT
  have F := Lib.hid (fun W => aformed_any a W)
  have M := Lib.hid (fun W (h : Tab W) => amessage_any a ha W h)
  have V := Lib.hid (fun v W (h : BytesAt W v (msgA a)) (hT : Tab W) => verify_any p a.r a.g v _ W (by rw [msgA_len]; decide) h hT)
  clear hT
  obtain ⟨ok, hok⟩ : ∃ y, okA a = y := ⟨_, rfl⟩
  have CK : Hid (ckA a p = if ok then (if verB p (msgA a) a.r a.g then 0 else 222) else 330) := Lib.hid (by unfold ckA; rw [hok])
  rw [hok] at F
  clear hok
  go_enter Tryd.func22, Tryd.ntmps22
  have B0 := Lib.hid (Below.refl w.heap.size w)
  go_upto_region 1 with fail
  obtain ⟨w1, hw1⟩ : ∃ y, w.alloc (.cells (rowF 38 (akC a)) 27) = y := ⟨_, rfl⟩
  have b1 : Below w.heap.size w w1 := by rw [← hw1]; exact (Below.refl _ _).alloc (Nat.le_refl _) _
  have A1 : Hid (RowV w1 w.heap.size 27 38 (akC a)) := Lib.hid (by rw [← hw1]; exact RowV.new w _ 38 (akC a))
  have z1 : w.heap.size + 1 = w1.heap.size := by rw [← hw1]; exact (Array.size_push _).symm
  rw [hw1]
  (try rw [z1])
  have B1 := Lib.hid (B0.out.trans (b1.mono B0.out.size))
  have T1 := Lib.hid (T0.out.below b1)
  clear b1 hw1 z1 B0 T0
  go_wp2_with ((with_reducible (show wpList _ _ _ (Oper.mk (some 5) _ _ _ _ _ :: _) _ _)); refine wpList_load_rowV rfl 27 (.tmp 2) rfl w.heap.size rfl 38 27 _ A1.out _ Tryd.underlying27 rfl (by kernel_rfl) ?_)
  refine (F.out _).mono ?_
  rintro e w2 ⟨rfl, b2⟩
  have T2 := Lib.hid (T1.out.below b2)
  have A2 := Lib.hid (A1.out.below b2)
  have B2 := Lib.hid (B1.out.trans (b2.mono B1.out.size))
  clear b2 T1 A1 B1 F
  cases ok
  · have CK1 : Hid (ckA a p = 330) := CK
    clear CK
    go_wp2_with fail
    go_ret
    exact ⟨by rw [CK1.out]; rfl, B2.out⟩
  · have CK1 : Hid (ckA a p = if verB p (msgA a) a.r a.g then 0 else 222) := CK
    clear CK
    go_upto_region 3 with fail
    refine Tc.wp_region_plan (Tc.Rl.stay (fun k => k = w.heap.size)) 7 [] (.fl 0 (.fl 1 (.fl 3 (.fl 4 (.one 2 (.one 5 (.fl 6 .done))))))) (by kernel_rfl) (by kernel_rfl) ?_
    intro w4 b4 e4
    have T4 := Lib.hid (T2.out.below b4)
    have A4 := Lib.hid (A2.out.below b4)
    have B4 := Lib.hid (B2.out.trans (b4.mono B2.out.size))
    clear b4 e4 T2 A2 B2
    refine Tc.plan_floats [0, 1, 3, 4] [_, _, _, _] rfl ?_
    dsimp only [List.getElem_toArray, List.getElem_cons_succ, List.getElem_cons_zero]
    repeat (go_big_quiet_want; go_big_quiet_op; first | go_big_quiet_on | (refine ⟨_, fun _ _ => rfl, ?_⟩; go_big_quiet_on))
    refine wpQuiet_load_part rfl 27 (.tmp 2) rfl w.heap.size 0 rfl 38 38 27 (akC a) (akC a) (fun W hW => stay_row (S := fun k => k = w.heap.size) A4.out rfl hW) (by decide) (fun j _ => by rw [Nat.zero_add]) _ Tryd.underlying27 rfl (by kernel_rfl) ?_
    simp only [Act.put, List.setIfInBounds_toArray, List.set_cons_succ, List.set_cons_zero]
    repeat (go_big_quiet_want; go_big_quiet_op; first | go_big_quiet_on | (refine ⟨_, fun _ _ => rfl, ?_⟩; go_big_quiet_on))
    refine wpQuiet_load_part rfl 25 (.tmp 11) rfl w.heap.size 36 rfl 38 2 27 (akC a) (fun i => if i = 0 then .int .i64 a.r else .int .i64 a.g) (fun W hW => stay_row (S := fun k => k = w.heap.size) A4.out rfl hW) (by decide) (fun j hj => by match j, hj with | 0, _ => rfl | 1, _ => rfl) _ Tryd.underlying25 rfl (by kernel_rfl) ?_
    simp only [Act.put, List.setIfInBounds_toArray, List.set_cons_succ, List.set_cons_zero]
    refine wpQuiet_nil ?_
    refine Tc.plan_one 2 rfl (fun K hK => ?_)
    go_wp2_with fail
    refine (M.out _ T4.out).mono ?_
    rintro e w5 ⟨⟨v, rfl, y5⟩, b5⟩
    obtain ⟨va, vc, rfl⟩ := y5.slice
    have Y5 := Lib.hid y5
    have T5 := Lib.hid (T4.out.below b5)
    have B5 := Lib.hid (B4.out.trans (b5.mono B4.out.size))
    have S5 := Lib.hid (Nat.lt_of_lt_of_le A4.out.lt b5.size)
    go_wp2_with fail
    refine hK _ _ (stay_below b5 (fun k hk => by subst hk; exact A4.out.lt)) ?_
    clear hK K b5 y5 T4 B4 A4 M
    refine Tc.plan_one 5 rfl (fun K hK => ?_)
    go_wp2_with fail
    refine (V.out _ _ Y5.out T5.out).mono ?_
    rintro e w6 ⟨rfl, b6⟩
    have B6 := Lib.hid (B5.out.trans (b6.mono B5.out.size))
    obtain ⟨vb, hvb⟩ : ∃ y, verB p (msgA a) a.r a.g = y := ⟨_, rfl⟩
    rw [hvb] at CK1
    rw [hvb]
    go_wp2_with fail
    refine hK _ _ (stay_below b6 (fun k hk => by subst hk; exact S5.out)) ?_
    clear hK K b6 hvb T5 B5 Y5 V
    cases vb
    · have CK2 : Hid (ckA a p = 222) := CK1
      clear CK1
      refine Tc.plan_floats [6] [_] rfl ?_
      dsimp only [List.getElem_toArray, List.getElem_cons_succ, List.getElem_cons_zero]
      repeat (go_big_quiet_want; go_big_quiet_op; first | go_big_quiet_on | (refine ⟨_, fun _ _ => rfl, ?_⟩; go_big_quiet_on))
      refine wpQuiet_nil ?_
      refine Tc.plan_done (l := []) rfl (fun K hK => ?_)
      go_wp2_with fail
      go_ret
      exact ⟨by rw [CK2.out]; rfl, B6.out⟩
    · have CK2 : Hid (ckA a p = 0) := CK1
      clear CK1
      refine Tc.plan_floats [6] [_] rfl ?_
      dsimp only [List.getElem_toArray, List.getElem_cons_succ, List.getElem_cons_zero]
      repeat (go_big_quiet_want; go_big_quiet_op; first | go_big_quiet_on | (refine ⟨_, fun _ _ => rfl, ?_⟩; go_big_quiet_on))
      refine wpQuiet_nil ?_
      refine Tc.plan_done (l := []) rfl (fun K hK => ?_)
      go_wp2_with fail
      go_ret
      exact ⟨by rw [CK2.out]; rfl, B6.out⟩
/-- what Encode answers -/
def AEncPost (a : Ak) (w : World) (e : Ending) (w' : World) : Prop :=
  (if okA a then ∃ u, e = .returned (.tuple #[u, .int .i64 0]) ∧ Owns w' w.heap.size u (encA a [a.r, a.g]) else e = .returned (.tuple #[.slice none 0 0, .int .i64 330])) ∧ Below w.heap.size w w'
set_option maxRecDepth 100000 in
set_option maxHeartbeats 4000000 in
theorem aencode_any (a : Ak) (ha : a.wf) (w : World) :
    Calls Tryd.prog 9 #[.agg (rowF 38 (akC a))] w (AEncPost a w) := by
  have F := Lib.hid (fun W => aformed_any a W)
  have L := Lib.hid (fun v W (h : IntsS W v [a.r, a.g]) => alist_any a ha v [a.r, a.g] W h (fun z hz => by
    simp only [List.mem_cons, List.not_mem_nil, or_false] at hz
    rcases hz with rfl | rfl
    · exact ha.r
    · exact ha.g) (show (2 : Nat) ≤ 100 by decide))
  obtain ⟨ok, hok⟩ : ∃ y, okA a = y := ⟨_, rfl⟩
  have EP : Hid (AEncPost a w = fun e w' => (if ok then ∃ u, e = .returned (.tuple #[u, .int .i64 0]) ∧ Owns w' w.heap.size u (encA a [a.r, a.g]) else e = .returned (.tuple #[.slice none 0 0, .int .i64 330])) ∧ Below w.heap.size w w') := Lib.hid (by
    funext e w'; unfold AEncPost; rw [hok])
  rw [hok] at F
  clear hok
  cases ok
  · have EP2 : Hid (AEncPost a w = fun e w' => e = .returned (.tuple #[.slice none 0 0, .int .i64 330]) ∧ Below w.heap.size w w') := EP
    rw [EP2.out]
    clear EP EP2
    go_enter Tryd.func9, Tryd.ntmps9
    have B0 := Lib.hid (Below.refl w.heap.size w)
    go_upto_region 1 with fail
    obtain ⟨w1, hw1⟩ : ∃ y, w.alloc (.cells (rowF 38 (akC a)) 27) = y := ⟨_, rfl⟩
    have b1 : Below w.heap.size w w1 := by rw [← hw1]; exact (Below.refl _ _).alloc (Nat.le_refl _) _
    have A1 : Hid (RowV w1 w.heap.size 27 38 (akC a)) := Lib.hid (by rw [← hw1]; exact RowV.new w _ 38 (akC a))
    have z1 : w.heap.size + 1 = w1.heap.size := by rw [← hw1]; exact (Array.size_push _).symm
    rw [hw1]
    (try rw [z1])
    have B1 := Lib.hid (B0.out.trans (b1.mono B0.out.size))
    clear b1 hw1 z1 B0
    go_wp2_with ((with_reducible (show wpList _ _ _ (Oper.mk (some 4) _ _ _ _ _ :: _) _ _)); refine wpList_load_rowV rfl 27 (.tmp 1) rfl w.heap.size rfl 38 27 _ A1.out _ Tryd.underlying27 rfl (by kernel_rfl) ?_)
    refine (F.out _).mono ?_
    rintro e w2 ⟨rfl, b2⟩
    have B2 := Lib.hid (B1.out.trans (b2.mono B1.out.size))
    clear b2
    go_wp2_with fail
    go_ret2
    exact ⟨rfl, B2.out⟩
  · have EP2 : Hid (AEncPost a w = fun e w' => (∃ u, e = .returned (.tuple #[u, .int .i64 0]) ∧ Owns w' w.heap.size u (encA a [a.r, a.g])) ∧ Below w.heap.size w w') := EP
    rw [EP2.out]
    clear EP EP2
    go_enter Tryd.func9, Tryd.ntmps9
    have B0 := Lib.hid (Below.refl w.heap.size w)
    go_upto_region 1 with fail
    obtain ⟨w1, hw1⟩ : ∃ y, w.alloc (.cells (rowF 38 (akC a)) 27) = y := ⟨_, rfl⟩
    have b1 : Below w.heap.size w w1 := by rw [← hw1]; exact (Below.refl _ _).alloc (Nat.le_refl _) _
    have A1 : Hid (RowV w1 w.heap.size 27 38 (akC a)) := Lib.hid (by rw [← hw1]; exact RowV.new w _ 38 (akC a))
    have z1 : w.heap.size + 1 = w1.heap.size := by rw [← hw1]; exact (Array.size_push _).symm
    rw [hw1]
    (try rw [z1])
    have B1 := Lib.hid (B0.out.trans (b1.mono B0.out.size))
    clear b1 hw1 z1 B0
    go_wp2_with ((with_reducible (show wpList _ _ _ (Oper.mk (some 4) _ _ _ _ _ :: _) _ _)); refine wpList_load_rowV rfl 27 (.tmp 1) rfl w.heap.size rfl 38 27 _ A1.out _ Tryd.underlying27 rfl (by kernel_rfl) ?_)
    refine (F.out _).mono ?_
    rintro e w2 ⟨rfl, b2⟩
    have B2 := Lib.hid (B1.out.trans (b2.mono B1.out.size))
    have A2 := Lib.hid (A1.out.below b2)
    clear b2 A1 B1 F
    have x0 : _ = some (Value.int .i64 a.r) := ak_cell A2.out (i := 36) (by decide) (by decide)
    have x1 : _ = some (Value.int .i64 a.g) := ak_cell A2.out (i := 37) (by decide) (by decide)
    go_wp2_with ((with_reducible (show wpList _ _ _ (Oper.mk (some 7) _ _ _ _ _ :: _) _ _)); refine wpList_load_rowV rfl 27 (.tmp 1) rfl w.heap.size rfl 38 27 _ A2.out _ Tryd.underlying27 rfl (by kernel_rfl) ?_)
    have I3 := Lib.hid (ints_new w2 3 [a.r, a.g] 2 rfl (by decide) (by decide))
    have b3 := (Below.refl _ w2).alloc (Nat.le_refl _) (.cells (rowF 2 fun i => .int .i64 ([a.r, a.g].getD i 0)) 3)
    change Calls _ _ #[.agg (rowF 38 (akC a)), .slice (some ⟨w2.heap.size, 0, none⟩) 2 2] (w2.alloc (.cells (rowF 2 fun i => .int .i64 ([a.r, a.g].getD i 0)) 3)) _
    have B3 := Lib.hid (B2.out.trans (b3.mono B2.out.size))
    refine (L.out _ _ I3.out).mono ?_
    rintro e w4 ⟨⟨u, rfl, o4⟩, b4⟩
    have O4 := Lib.hid (o4.lower B3.out.size)
    have B4 := Lib.hid (B3.out.trans (b4.mono B3.out.size))
    clear o4 b4 b3 B3 I3 x0 x1 L A2 B2
    go_wp2_with fail
    go_ret2
    exact ⟨⟨u, rfl, O4.out⟩, B4.out⟩
end Go.Proofs.YtbjbgneejdjniaaDoor

namespace Go.Proofs.YtbjbgneejdjniaaDoor
open Go.RowKit Cod
/-- the cells of a digest -/
def dgF (ch : List UInt8) (i : Nat) : Value := vB (ch.getD i 0)
abbrev ackParts (f d s u : Int) (ch : List UInt8) : Array (Nat × Value) := #[(0, .int .i64 f), (1, .int .i64 d), (2, .int .i64 s), (3, .int .i64 u), (4, .agg (rowF 32 (dgF ch)))]
theorem build_ack (f d s u : Int) (ch : List UInt8) (W : World) : (Instr.build 27 (ackParts f d s u ch)).run Tryd.prog W = .ok (.agg (rowF 38 (akC ⟨f, d, s, u, ch, 0, 0⟩))) W := by kernel_rfl
theorem wpList_build {P : Program} {w : World} {ops : Array Oper} {rest : List Oper} {o : Oper} {a : Act} {Q : Exit → Act → World → Prop} (hgd : o.guard = none) (t : TypeId) (parts : Array (Nat × Operand)) (ho : o.op = .build t parts) (vs : Array (Nat × Value)) (hv : (parts.map fun (i, x) => (i, a.eval x)) = vs) (v : Value)
    (hrun : (Instr.build t vs).run P w = .ok v w) (h : wpList P ops Q rest (a.put o.dst v) w) : wpList P ops Q (o :: rest) a w := by
  refine wpList_val hgd v ?_ h
  unfold execOp
  subst hv
  simp only [ho, Sem.run_bind, Sem.run_pure, hrun, Result.andThen_ok]
/-- what Make answers -/
def mkA (f d s u : Int) (ch : List UInt8) (x : Int) : Ak := ⟨f, d, s, u, ch, sgR x (msgA ⟨f, d, s, u, ch, 0, 0⟩), sgS x (msgA ⟨f, d, s, u, ch, 0, 0⟩)⟩
def mkE (f d s u : Int) (ch : List UInt8) (x : Int) : Int := if okA ⟨f, d, s, u, ch, 0, 0⟩ then pubE x else 330
def mkV (f d s u : Int) (ch : List UInt8) (x : Int) : Ak := if mkE f d s u ch x = 0 then mkA f d s u ch x else ak0
theorem pubE_two (x : Int) : pubE x = 0 ∨ pubE x = 50 := by unfold pubE; split <;> simp
theorem Ak.sig_cells (a : Ak) (r g : Int) : ∀ i, i < 38 → (if 36 ≤ i ∧ i < 36 + 2 then (fun j => if j = 0 then Value.int .i64 r else .int .i64 g) (i - 36) else akC a i) = akC ⟨a.f, a.d, a.s, a.u, a.ch, r, g⟩ i := by
  intro i hi
  by_cases h : 36 ≤ i ∧ i < 36 + 2
  · rw [if_pos h]
    rcases (show i = 36 ∨ i = 37 by omega) with rfl | rfl <;> rfl
  · rw [if_neg h]
    unfold akC
    by_cases h2 : 4 ≤ i ∧ i < 36
    · rw [if_pos h2, if_pos h2]
    · rw [if_neg h2, if_neg h2]
      rcases (show i = 0 ∨ i = 1 ∨ i = 2 ∨ i = 3 by omega) with rfl | rfl | rfl | rfl <;> rfl
set_option maxRecDepth 100000 in
set_option maxHeartbeats 8000000 in
theorem amake_any (f d s u : Int) (ch : List UInt8) (x : Int) (hf : i64B f) (hd : i64B d) (hs : i64B s) (hu : i64B u) (hc : ch.length = 32) (w : World) (hT : Tab w) :
    Calls Tryd.prog 21 #[.int .i64 f, .int .i64 d, .int .i64 s, .int .i64 u, .agg (rowF 32 (dgF ch)), .int .i64 x] w fun e w' => e = .returned (.tuple #[.agg (rowF 38 (akC (mkV f d s u ch x))), .int .i64 (mkE f d s u ch x)]) ∧ Below w.heap.size w w' := by
  have T0 := Lib.hid hT
  have W0 : Hid (Ak.wf ⟨f, d, s, u, ch, 0, 0⟩) := Lib.hid ⟨hf, hd, hs, hu, hc, i64B_0, i64B_0⟩
  clear hT hf hd hs hu hc
  obtain ⟨ak, hak⟩ : ∃ y : Ak, (⟨f, d, s, u, ch, 0, 0⟩ : Ak) = y := ⟨_, rfl⟩
  have HAK := Lib.hid hak
  have F := Lib.hid (fun W => aformed_any ⟨f, d, s, u, ch, 0, 0⟩ W)
  have M := Lib.hid (fun W (h : Tab W) => amessage_any ⟨f, d, s, u, ch, 0, 0⟩ W0.out W h)
  have SG := Lib.hid (fun v W (h : BytesAt W v (msgA ⟨f, d, s, u, ch, 0, 0⟩)) (hT : Tab W) => sign_any x v _ W (by rw [msgA_len]; decide) h hT)
  have P2 := Lib.hid (pubE_two x)
  have VE : Hid (mkE f d s u ch x = if okA ⟨f, d, s, u, ch, 0, 0⟩ then pubE x else 330) := Lib.hid rfl
  have VV : Hid (mkV f d s u ch x = if mkE f d s u ch x = 0 then ⟨(⟨f, d, s, u, ch, 0, 0⟩ : Ak).f, (⟨f, d, s, u, ch, 0, 0⟩ : Ak).d, (⟨f, d, s, u, ch, 0, 0⟩ : Ak).s, (⟨f, d, s, u, ch, 0, 0⟩ : Ak).u, (⟨f, d, s, u, ch, 0, 0⟩ : Ak).ch, sgR x (msgA ⟨f, d, s, u, ch, 0, 0⟩), sgS x (msgA ⟨f, d, s, u, ch, 0, 0⟩)⟩ else ak0) := Lib.hid rfl
  obtain ⟨rv, hrv⟩ : ∃ y, mkV f d s u ch x = y := ⟨_, rfl⟩
  obtain ⟨re, hre⟩ : ∃ y, mkE f d s u ch x = y := ⟨_, rfl⟩
  rw [hrv, hre] at VV
  rw [hre] at VE
  rw [hrv, hre]
  rw [hak] at F M SG VE VV
  obtain ⟨ok, hok⟩ : ∃ y, okA ak = y := ⟨_, rfl⟩
  obtain ⟨pe, hpe⟩ : ∃ y, pubE x = y := ⟨_, rfl⟩
  rw [hok] at F VE
  rw [hpe] at SG P2 VE
  clear hak hrv hre hok hpe W0
  go_enter Tryd.func21, Tryd.ntmps21
  have B0 := Lib.hid (Below.refl w.heap.size w)
  go_upto_region 1 with fail
  obtain ⟨w1, hw1⟩ : ∃ y, w.alloc (.cells (rowF 32 (dgF ch)) 23) = y := ⟨_, rfl⟩
  have b1 : Below w.heap.size w w1 := by rw [← hw1]; exact (Below.refl _ _).alloc (Nat.le_refl _) _
  have C1 : Hid (RowV w1 w.heap.size 23 32 (dgF ch)) := Lib.hid (by rw [← hw1]; exact RowV.new w _ 32 (dgF ch))
  have z1 : w.heap.size + 1 = w1.heap.size := by rw [← hw1]; exact (Array.size_push _).symm
  rw [hw1]
  (try rw [z1])
  have B1 := Lib.hid (B0.out.trans (b1.mono B0.out.size))
  have T1 := Lib.hid (T0.out.below b1)
  clear b1 hw1 z1 B0 T0
  have L1 := Lib.hid C1.out.lt
  obtain ⟨w2, hw2⟩ : ∃ y, w1.alloc (.cells #[.int .i64 0, .int .i64 0, .int .i64 0, .int .i64 0, .int .u8 0, .int .u8 0, .int .u8 0, .int .u8 0, .int .u8 0, .int .u8 0, .int .u8 0, .int .u8 0, .int .u8 0, .int .u8 0, .int .u8 0, .int .u8 0, .int .u8 0, .int .u8 0, .int .u8 0, .int .u8 0, .int .u8 0, .int .u8 0, .int .u8 0, .int .u8 0, .int .u8 0, .int .u8 0, .int .u8 0, .int .u8 0, .int .u8 0, .int .u8 0, .int .u8 0, .int .u8 0, .int .u8 0, .int .u8 0, .int .u8 0, .int .u8 0, .int .i64 0, .int .i64 0] 27) = y := ⟨_, rfl⟩
  have b2 : Below w1.heap.size w1 w2 := by rw [← hw2]; exact (Below.refl _ _).alloc (Nat.le_refl _) _
  have Z2 : Hid (RowV w2 w1.heap.size 27 38 (akC ak0)) := Lib.hid (by rw [← hw2]; exact RowV.new w1 _ 38 (akC ak0))
  have z2 : w1.heap.size + 1 = w2.heap.size := by rw [← hw2]; exact (Array.size_push _).symm
  rw [hw2]
  (try rw [z2])
  have B2 := Lib.hid (B1.out.trans (b2.mono B1.out.size))
  have T2 := Lib.hid (T1.out.below b2)
  have C2 := Lib.hid (C1.out.below b2)
  clear b2 hw2 z2 B1 T1 C1
  have L2 := Lib.hid Z2.out.lt
  go_wp2_with (first | ((with_reducible (show wpList _ _ _ (Oper.mk (some 19) _ _ _ _ _ :: _) _ _)); refine Hid.out ?_))
  refine Lib.hid ?_
  refine wpList_load_rowV rfl 23 (.tmp 10) rfl w.heap.size rfl 32 23 _ C2.out _ Tryd.underlying23 rfl (by kernel_rfl) ?_
  go_wp2_with (first | ((with_reducible (show wpList _ _ _ (Oper.mk (some 20) _ _ _ _ _ :: _) _ _)); refine Hid.out ?_))
  refine Lib.hid ?_
  refine wpList_build rfl 27 _ rfl (ackParts f d s u ch) (by simp only [List.map_toArray, List.map_cons, List.map_nil]; rfl) _ (build_ack f d s u ch _) ?_
  rw [HAK.out]
  have Zr := Lib.hid (RowV.new w2 27 38 (akC ak0))
  go_upto_region 2 with ((with_reducible (show wpList _ _ _ (Oper.mk none _ _ _ _ _ :: _) _ _)); refine wpList_store_rowV (o := ⟨none, .store 27 (.tmp 14) (.tmp 20), _, _, _, _⟩) rfl 27 (.tmp 14) (.tmp 20) rfl w2.heap.size rfl 38 27 _ (akC ak) rfl Zr.out (by kernel_rfl) (fun j _ => akC_one ak j) ?_; intro w3 X3 o3)
  have b3 : Below w2.heap.size w2 w3 := ((Below.refl _ _).alloc (Nat.le_refl _) _).trans (o3.out.below (Nat.le_refl _) (by rw [World.size_alloc]; omega))
  have B3 := Lib.hid (B2.out.trans (b3.mono B2.out.size))
  have T3 := Lib.hid (T2.out.below b3)
  have C3 := Lib.hid (C2.out.below b3)
  have Z3 := Lib.hid (Z2.out.below b3)
  clear b3 o3 Zr B2 T2 C2 Z2
  go_wp2_with (first | ((with_reducible (show wpList _ _ _ (Oper.mk (some 21) _ _ _ _ _ :: _) _ _)); refine Hid.out ?_))
  refine Lib.hid ?_
  refine wpList_load_rowV rfl 27 (.tmp 14) rfl w2.heap.size rfl 38 _ _ (X3.out) _ Tryd.underlying27 rfl (by kernel_rfl) ?_
  go_wp2_with fail
  refine (F.out _).mono ?_
  rintro e w4 ⟨rfl, b4⟩
  have B4 := Lib.hid (B3.out.trans (b4.mono B3.out.size))
  have T4 := Lib.hid (T3.out.below b4)
  have C4 := Lib.hid (C3.out.below b4)
  have Z4 := Lib.hid (Z3.out.below b4)
  have X4 := Lib.hid (X3.out.below b4)
  clear b4 B3 T3 C3 Z3 X3
  clear F
  cases ok
  · obtain rfl : re = 330 := VE.out
    obtain rfl : rv = ak0 := by rw [VV.out, if_neg (by decide)]
    go_wp2_with (first | ((with_reducible (show wpList _ _ _ (Oper.mk (some 24) _ _ _ _ _ :: _) _ _)); refine Hid.out ?_))
    refine Lib.hid ?_
    refine wpList_load_rowV rfl 27 (.tmp 12) rfl w1.heap.size rfl 38 _ _ (Z4.out) _ Tryd.underlying27 rfl (by kernel_rfl) ?_
    go_wp2_with (first | ((with_reducible (show wpList _ _ _ (Oper.mk none _ _ _ _ _ :: _) _ _)); refine Hid.out ?_))
    refine Lib.hid ?_
    refine wpList_store_rowV rfl 27 (.tmp 12) (.tmp 24) rfl w1.heap.size rfl 38 _ _ _ rfl (Z4.out) (by kernel_rfl) (fun j _ => akC_one _ j) ?_
    intro w9 Z9 O9
    go_wp2_with fail
    refine bodyPost_ret (v := .tuple #[.agg (rowF 38 (akC ak0)), .int .i64 330]) (by exact results_rowV2 (fn := Tryd.f21) (p := 12) (u := 13) (ty := 27) rfl _ _ w1.heap.size 38 27 _ _ rfl Z9.out Tryd.underlying27 rfl (by kernel_rfl)) rfl ⟨rfl, ?_⟩
    exact B4.out.trans (O9.out.below (Nat.le_of_lt L1.out) B4.out.size)
  · have VE2 : Hid (re = pe) := VE
    clear VE
    go_wp2_with (first | ((with_reducible (show wpList _ _ _ (Oper.mk (some 27) _ _ _ _ _ :: _) _ _)); refine Hid.out ?_))
    refine Lib.hid ?_
    refine wpList_load_rowV rfl 27 (.tmp 14) rfl w2.heap.size rfl 38 _ _ (X4.out) _ Tryd.underlying27 rfl (by kernel_rfl) ?_
    go_wp2_with fail
    refine (M.out _ T4.out).mono ?_
    rintro e w5 ⟨⟨v, rfl, y5⟩, b5⟩
    obtain ⟨va, vc, rfl⟩ := y5.slice
    have Y5 := Lib.hid y5
    have T5 := Lib.hid (T4.out.below b5)
    have X5 := Lib.hid (X4.out.below b5)
    have Z5 := Lib.hid (Z4.out.below b5)
    have B5 := Lib.hid (B4.out.trans (b5.mono B4.out.size))
    clear y5 b5 T4 X4 Z4 B4 M C4
    go_wp2_with fail
    refine (SG.out _ _ Y5.out T5.out).mono ?_
    rintro e w6 ⟨rfl, b6⟩
    have X6 := Lib.hid (X5.out.below b6)
    have Z6 := Lib.hid (Z5.out.below b6)
    have B6 := Lib.hid (B5.out.trans (b6.mono B5.out.size))
    clear b6 T5 X5 Z5 B5 SG Y5
    obtain ⟨sr, hsr⟩ : ∃ y, sgR x (msgA ak) = y := ⟨_, rfl⟩
    obtain ⟨ss, hss⟩ : ∃ y, sgS x (msgA ak) = y := ⟨_, rfl⟩
    rw [hsr, hss] at VV ⊢
    clear hsr hss
    go_wp2_with (first | ((with_reducible (show wpList _ _ _ (Oper.mk none _ _ _ _ _ :: _) _ _)); refine Hid.out ?_))
    refine Lib.hid ?_
    refine wpList_store_part rfl 25 (.tmp 32) (.tmp 30) rfl w2.heap.size 36 rfl 38 2 _ _ (fun j => if j = 0 then Value.int .i64 sr else .int .i64 ss) (akC ⟨ak.f, ak.d, ak.s, ak.u, ak.ch, sr, ss⟩) rfl X6.out (by decide) (by kernel_rfl) (fun j _ => by show (if j = 0 then _ else _ : Value).oneCell' = true; split <;> rfl) (Ak.sig_cells ak sr ss) ?_
    intro w7 X7 O7
    have Z7 := Lib.hid (O7.out.row (show w1.heap.size ≠ w2.heap.size from fun e => by have := L2.out; omega) Z6.out)
    have B7 := Lib.hid (B6.out.trans (O7.out.below (by have := L2.out; have := L1.out; omega) B6.out.size))
    clear X6 O7 Z6 B6
    rcases P2.out with h0 | h0
    · subst h0
      obtain rfl : re = 0 := VE2.out
      obtain rfl := VV.out
      go_wp2_with (first | ((with_reducible (show wpList _ _ _ (Oper.mk (some 37) _ _ _ _ _ :: _) _ _)); refine Hid.out ?_))
      refine Lib.hid ?_
      refine wpList_load_rowV rfl 27 (.tmp 14) rfl w2.heap.size rfl 38 _ _ (X7.out) _ Tryd.underlying27 rfl (by kernel_rfl) ?_
      go_wp2_with (first | ((with_reducible (show wpList _ _ _ (Oper.mk none _ _ _ _ _ :: _) _ _)); refine Hid.out ?_))
      refine Lib.hid ?_
      refine wpList_store_rowV rfl 27 (.tmp 12) (.tmp 37) rfl w1.heap.size rfl 38 _ _ _ rfl (Z7.out) (by kernel_rfl) (fun j _ => akC_one _ j) ?_
      intro w9 Z9 O9
      go_wp2_with fail
      refine bodyPost_ret (v := .tuple #[.agg (rowF 38 (akC ⟨ak.f, ak.d, ak.s, ak.u, ak.ch, sr, ss⟩)), .int .i64 0]) (by exact results_rowV2 (fn := Tryd.f21) (p := 12) (u := 13) (ty := 27) rfl _ _ w1.heap.size 38 27 _ _ rfl Z9.out Tryd.underlying27 rfl (by kernel_rfl)) rfl ⟨rfl, ?_⟩
      exact B7.out.trans (O9.out.below (Nat.le_of_lt L1.out) B7.out.size)
    · subst h0
      obtain rfl : re = 50 := VE2.out
      obtain rfl : rv = ak0 := by rw [VV.out, if_neg (by decide)]
      go_wp2_with (first | ((with_reducible (show wpList _ _ _ (Oper.mk (some 35) _ _ _ _ _ :: _) _ _)); refine Hid.out ?_))
      refine Lib.hid ?_
      refine wpList_load_rowV rfl 27 (.tmp 12) rfl w1.heap.size rfl 38 _ _ (Z7.out) _ Tryd.underlying27 rfl (by kernel_rfl) ?_
      go_wp2_with (first | ((with_reducible (show wpList _ _ _ (Oper.mk none _ _ _ _ _ :: _) _ _)); refine Hid.out ?_))
      refine Lib.hid ?_
      refine wpList_store_rowV rfl 27 (.tmp 12) (.tmp 35) rfl w1.heap.size rfl 38 _ _ _ rfl (Z7.out) (by kernel_rfl) (fun j _ => akC_one _ j) ?_
      intro w9 Z9 O9
      go_wp2_with fail
      refine bodyPost_ret (v := .tuple #[.agg (rowF 38 (akC ak0)), .int .i64 50]) (by exact results_rowV2 (fn := Tryd.f21) (p := 12) (u := 13) (ty := 27) rfl _ _ w1.heap.size 38 27 _ _ rfl Z9.out Tryd.underlying27 rfl (by kernel_rfl)) rfl ⟨rfl, ?_⟩
      exact B7.out.trans (O9.out.below (Nat.le_of_lt L1.out) B7.out.size)
end Go.Proofs.YtbjbgneejdjniaaDoor
