/- Package people: Accept's closures; slices.IndexFunc of people. -/
import Derived.Test.YtpekhdahamloaaaGreatDoorPk48
set_option linter.unusedVariables false
set_option linter.unusedSimpArgs false
namespace Go.Proofs.YtpekhdahamloaaaGreatDoor
open Go.RowKit Cod
set_option maxRecDepth 100000 in
set_option maxHeartbeats 4000000 in
theorem pisown_any (p : Pe) (s : Sv) (c : Ct) (B : Nat) (w : World) (hB : RowV w B 44 8 (ctC c)) (hd : devB c.d = true) :
    Calls Tryz.prog 69 #[.agg (rowF 5 (peC p s)), .pointer (some ⟨B, 0, none⟩)] w fun e w' => e = .returned (.bool (decide (p.i = c.d.tdiv 8))) ∧ Below w.heap.size w w' := by
  have q1 : IntKind.i64.wrap (c.d.tdiv 8) = c.d.tdiv 8 := by
    have := (devB_iff c.d).1 hd
    exact bits_i64 this.1 this.2
  obtain ⟨z, hz⟩ : ∃ y, c.d.tdiv 8 = y := ⟨_, rfl⟩
  have HB := Lib.hid hB
  have HZ := Lib.hid hz
  have FIN : Hid ((p.i == z) = decide (p.i = z)) := Lib.hid (by rw [Bool.eq_iff_iff]; simp)
  rw [hz] at q1 ⊢
  obtain ⟨r, hr⟩ : ∃ y, decide (p.i = z) = y := ⟨_, rfl⟩
  rw [hr] at FIN ⊢
  have e1 := FIN.out
  obtain ⟨pi, hpi⟩ : ∃ y, p.i = y := ⟨_, rfl⟩
  rw [hpi] at e1
  have HP := Lib.hid hpi
  clear hB hd hr FIN
  go_enter Tryz.func69, Tryz.ntmps69
  have B0 := Lib.hid (Below.refl w.heap.size w)
  have HB0 := HB
  go_upto_region 1 with fail
  obtain ⟨w1, hw1⟩ : ∃ y, w.alloc (.cells (rowF 5 (peC p s)) 68) = y := ⟨_, rfl⟩
  have b1 : Below w.heap.size w w1 := by rw [← hw1]; exact (Below.refl _ _).alloc (Nat.le_refl _) _
  have X1 : Hid (RowV w1 w.heap.size 68 5 (peC p s)) := Lib.hid (by rw [← hw1]; exact RowV.new w _ 5 (peC p s))
  have z1 : w.heap.size + 1 = w1.heap.size := by rw [← hw1]; exact (Array.size_push _).symm
  rw [hw1]
  (try rw [z1])
  have B1 := Lib.hid (B0.out.trans (b1.mono B0.out.size))
  have HB1 := Lib.hid (HB0.out.below b1)
  clear b1 hw1 z1 B0 HB0
  have x0 : w1.cell? ⟨w.heap.size, 0, none⟩ = some (.int .i64 p.i) := pe_cell X1.out (i := 0) (by decide)
  have y1 : w1.cell? ⟨B, 1, none⟩ = some (.int .i64 c.d) := HB1.out.cell (i := 1) (by decide)
  rw [HP.out] at x0
  obtain ⟨cd, hcd⟩ : ∃ y, c.d = y := ⟨_, rfl⟩
  rw [hcd] at y1 hz
  have z1 : IntKind.i64.wrap (cd.tdiv 8) = z := by rw [hz]; exact q1
  clear hz hpi hcd q1
  go_wp2_with fail
  go_ret
  exact ⟨rfl, B1.out⟩
def PidxPost (ps : List Pe) (z : Int) (w : World) (e : Ending) (w' : World) : Prop :=
  ((∃ k, k < ps.length ∧ e = .returned (.int .i64 (k : Int)) ∧ findP ps z = some (ps.getD k pe0)) ∨ (e = .returned (.int .i64 (-1)) ∧ findP ps z = none)) ∧ Below w.heap.size w w'
theorem fndP_yes : ∀ {ps : List Pe} {z : Int} {k : Nat}, (∀ i, i < k → ¬ (ps.getD i pe0).i = z) → k < ps.length → (ps.getD k pe0).i = z → findP ps z = some (ps.getD k pe0)
  | [], _, _, _, h, _ => by simp at h
  | p :: ps, z, 0, _, _, h => by
    have : p.i = z := h
    unfold findP; rw [List.find?_cons_of_pos (by simp [this])]; rfl
  | p :: ps, z, k + 1, h1, h2, h3 => by
    have h0 : ¬ p.i = z := h1 0 (by omega)
    unfold findP; rw [List.find?_cons_of_neg (by simp [h0])]
    exact fndP_yes (ps := ps) (k := k) (fun i hi => h1 (i + 1) (by omega)) (by simpa using h2) h3
theorem fndP_no {ps : List Pe} {z : Int} (h : ∀ i, i < ps.length → ¬ (ps.getD i pe0).i = z) : findP ps z = none := by
  unfold findP
  rw [List.find?_eq_none]
  intro p hp
  obtain ⟨i, hi, rfl⟩ := List.mem_iff_getElem.1 hp
  have := h i hi
  rw [List.getD_eq_getElem?_getD, List.getElem?_eq_getElem hi] at this
  simpa using this
set_option maxRecDepth 100000 in
set_option maxHeartbeats 8000000 in
theorem pindexp_any (ps : List Pe) (us : Nat → Sv) (v : Value) (c : Ct) (B : Nat) (w : World) (h : PesS w v ps us) (hn : ps.length ≤ 1000) (hB : RowV w B 44 8 (ctC c)) (hd : devB c.d = true) :
    Calls Tryz.prog 68 #[v, .func (.func 69) #[] #[.pointer (some ⟨B, 0, none⟩)]] w (PidxPost ps (c.d.tdiv 8) w) := by
  have CL : Hid (∀ p s W, RowV W B 44 8 (ctC c) → Calls Tryz.prog 69 #[.agg (rowF 5 (peC p s)), .pointer (some ⟨B, 0, none⟩)] W fun e w' => e = .returned (.bool (decide (p.i = c.d.tdiv 8))) ∧ Below W.heap.size W w') := Lib.hid (fun p s W h => pisown_any p s c B W h hd)
  obtain ⟨z, hz⟩ : ∃ y, c.d.tdiv 8 = y := ⟨_, rfl⟩
  rw [hz] at CL ⊢
  obtain ⟨la, lc, rfl⟩ := h.1.slice
  have FY : Hid (∀ k w', (∀ i, i < k → ¬ (ps.getD i pe0).i = z) → k < ps.length → (ps.getD k pe0).i = z → Below w.heap.size w w' → PidxPost ps z w (.returned (.int .i64 (k : Int))) w') := Lib.hid (fun k w' h1 h2 h3 b => ⟨.inl ⟨k, h2, rfl, fndP_yes h1 h2 h3⟩, b⟩)
  have FN : Hid (∀ w', (∀ i, i < ps.length → ¬ (ps.getD i pe0).i = z) → Below w.heap.size w w' → PidxPost ps z w (.returned (.int .i64 (-1))) w') := Lib.hid (fun w' h1 b => ⟨.inr ⟨rfl, fndP_no h1⟩, b⟩)
  obtain ⟨n, hln⟩ : ∃ y, ps.length = y := ⟨_, rfl⟩
  have HN := Lib.hid hln
  have H0 : Hid (SlAt 5 w (.slice la n lc) n (fun i => peC (ps.getD i pe0) (us i))) := Lib.hid (by rw [← hln]; exact h.1)
  have qn : (n : Int) ≤ 1000 := by omega
  have HB := Lib.hid hB
  rw [hln] at FY FN ⊢
  clear h hn hln hz hB hd
  go_enter Tryz.func68, Tryz.ntmps68
  go_wp2_with fail
  go_loopg [8] n (fun g s8 wx => ∃ k : Nat, k + g = n ∧ s8 = .int .i64 (k : Int) ∧ Hid (∀ i, i < k → ¬ (ps.getD i pe0).i = z) ∧ Hid (Below w.heap.size w wx))
  case atStart => exact ⟨0, by omega, rfl, Lib.hid (fun i hi => by omega), Lib.hid (Below.refl _ _)⟩
  case round =>
    obtain ⟨k, hk, rfl, hA, hBl⟩ := hrel
    obtain ⟨w2, rfl⟩ : ∃ y, y = wr := ⟨_, rfl⟩
    have q0 : (0 : Int) ≤ (k : Int) := Int.natCast_nonneg k
    by_cases hlt : k < n
    · have d0 : decide ((k : Int) < (n : Int)) = true := by rw [decide_eq_true_iff]; omega
      have d1 : decide (k < n) = true := by rw [decide_eq_true_iff]; omega
      have p2 : (k : Int) < (n : Int) := by omega
      obtain ⟨b, off, rfl, hcap, hb, hc⟩ := SlAt.at_elem (s := 5) (n := n) (a := la) (k := lc) (c := fun i => peC (ps.getD i pe0) (us i)) (H0.out.below hBl.out) hlt
      have HLT := Lib.hid hlt
      have HCK := Lib.hid (fun j hj => hc k hlt j hj)
      have CC := Lib.hid (CL.out (ps.getD k pe0) (us k) w2 (HB.out.below hBl.out))
      obtain ⟨p, hp⟩ : ∃ y, ps.getD k pe0 = y := ⟨_, rfl⟩
      obtain ⟨s, hs⟩ : ∃ y, us k = y := ⟨_, rfl⟩
      rw [hp, hs] at HCK CC
      have HP := Lib.hid hp
      have p1 : (k : Int) + 1 ≤ 1000 := by omega
      clear hc hcap hb hp hs hlt
      go_wp2_with (first | ((with_reducible (show wpList _ _ _ (Oper.mk (some 15) _ _ _ _ _ :: _) _ _)); refine Hid.out ?_))
      refine Lib.hid ?_
      refine wpList_load_elem rfl 68 (.tmp 14) rfl b (off + k * 5) rfl 5 off k (by rw [Nat.mul_comm]) (peC p s) HCK.out _ Tryz.underlying68 rfl (by kernel_rfl) ?_
      go_wp2_with fail
      refine CC.out.mono ?_
      rintro e w3 ⟨rfl, b3⟩
      have B3 := Lib.hid (hBl.out.trans (b3.mono hBl.out.size))
      clear b3 CC HCK hBl
      by_cases he : p.i = z
      · have e1 : decide (p.i = z) = true := decide_eq_true he
        have F := Lib.hid (FY.out k w3 hA.out HLT.out (by rw [HP.out]; exact he) B3.out)
        clear he hA
        go_wp2_with fail
        go_ret
        exact F.out
      · have e1 : decide (p.i = z) = false := decide_eq_false he
        have A2 : Hid (∀ i, i < k + 1 → ¬ (ps.getD i pe0).i = z) := Lib.hid (fun i hi => by
          by_cases e : i = k
          · subst e; rw [HP.out]; exact he
          · exact hA.out i (by omega))
        clear he hA
        go_wp2_with fail
        go_roundg (n - (k + 1))
        case measure => have := HLT.out; omega
        case rel =>
          go_light
          exact ⟨k + 1, by have := HLT.out; omega, by go_num, A2, B3⟩
    · have d0 : decide ((k : Int) < (n : Int)) = false := by rw [decide_eq_false_iff_not]; omega
      have d1 : decide (k < n) = false := by rw [decide_eq_false_iff_not]; omega
      have F := Lib.hid (FN.out w2 (fun i hi => hA.out i (by omega)) hBl.out)
      clear hA
      go_wp2_with fail
      go_ret
      exact F.out
end Go.Proofs.YtpekhdahamloaaaGreatDoor
