/- The contract of package field's Eval. -/
import Derived.Test.YtajcpbchpcnmaaaBack
import Derived.Handy
set_option linter.unusedVariables false
set_option linter.unusedSimpArgs false
namespace Go.Proofs.Ytajcpbchpcnmaaa
open Go.RowKit Go.Shelf
attribute [local go_sem] Oper.semAt_some

set_option maxRecDepth 100000 in
set_option maxHeartbeats 1000000 in
/-- Eval at scalars: the value of the polynomial. -/
theorem feval_yes (sv : Value) (cs : List Sc) (x : Nat) (hx : x < 2305843009213688669) (w : World) (h : IntsAt w sv (cs.map fun c => (c.1 : Int))) :
    Calls Try.prog 41 #[sv, .int .i64 x] w fun e w' => e = .returned (.tuple #[.int .i64 ((evalQ x (cs.map (·.1)) : Nat) : Int), .int .i64 0]) ∧ Below w.heap.size w w' := by
  rw [← hrun_all x cs]
  have hsx : (!scalB (x : Int)) = false := by rw [scalB_of hx]; rfl
  have hout : outB (cs.map fun c => (c.1 : Int)) = false := outB_false (fun j hj => by
    rw [List.length_map] at hj
    rw [List.getElem?_map, List.getElem?_eq_getElem hj]
    exact scalB_of (cs[j]).2)
  obtain ⟨sa, sl, sc, rfl⟩ : ∃ (a : Option Addr) (l c : Nat), sv = .slice a l c := by
    rcases h with ⟨⟨a, c, rfl⟩, _⟩ | ⟨b, off, cap, rfl, _⟩
    · exact ⟨_, _, _, rfl⟩
    · exact ⟨_, _, _, rfl⟩
  have Hout := Lib.hid hout
  have Hh := Lib.hid h
  clear hout h
  refine (callsIn_wide (n := 3)).1 ?_
  refine callsIn_of_wp_marks Try.func41 rfl trivial ?_ rfl
  simp only [Try.ntmps41, List.size_toArray, List.length_cons, List.length_nil, Nat.reduceAdd, Nat.reduceSub, Array.replicate_succ, Array.replicate_zero, List.push_toArray, List.append_toArray, List.nil_append, List.cons_append]
  gi_wp2_with fail
  have ho := out_one ((w.alloc (.cells #[.int .i64 (x : Int)] 3)).alloc (.cells #[.int .i64 0] 3)) (x : Int) hsx
  simp only [World.size_alloc] at ho
  refine ⟨trivial, ?_⟩
  refine (callsIn_wide.2 ho).mono ?_
  rintro e w' ⟨rfl, rfl⟩
  clear ho
  have hB1 : Below w.heap.size w (((w.alloc (.cells #[.int .i64 (x : Int)] 3)).alloc (.cells #[.int .i64 0] 3)).alloc (.cells #[.int .i64 (x : Int)] 3)) := (((Below.refl _ w).alloc (Nat.le_refl _) _).alloc (by simp) _).alloc (by simp; omega) _
  have ho2 := outside_any (.slice sa sl sc) _ (((w.alloc (.cells #[.int .i64 (x : Int)] 3)).alloc (.cells #[.int .i64 0] 3)).alloc (.cells #[.int .i64 (x : Int)] 3)) (Hh.out.below hB1)
  rw [Hout.out] at ho2
  have Ho2 := Lib.hid ho2
  clear ho2
  gi_wp2_with fail
  refine ⟨trivial, ?_⟩
  refine (callsIn_wide.2 Ho2.out).mono ?_
  rintro e w' ⟨rfl, rfl⟩
  gi_wp2_with (refine ⟨trivial, ?_⟩; gi_at_call 59; refine (callsIn_wide.2 (back_any sa sl sc _)).mono ?_; rintro e w' ⟨rfl, rfl⟩)
  have bx := (((Boxed.new w 3 (.int .i64 (x : Int))).alloc (.cells #[.int .i64 0] 3)).alloc (.cells #[.int .i64 (x : Int)] 3)).alloc (.cells #[.slice sa sl sc] 38)
  have bY := ((Boxed.new (w.alloc (.cells #[.int .i64 (x : Int)] 3)) 3 (.int .i64 0)).alloc (.cells #[.int .i64 (x : Int)] 3)).alloc (.cells #[.slice sa sl sc] 38)
  have bk := (Boxed.new (((w.alloc (.cells #[.int .i64 (x : Int)] 3)).alloc (.cells #[.int .i64 0] 3)).alloc (.cells #[.int .i64 (x : Int)] 3)) 38 (.slice sa sl sc)).cell
  have hB0 : Below w.heap.size w ((((w.alloc (.cells #[.int .i64 (x : Int)] 3)).alloc (.cells #[.int .i64 0] 3)).alloc (.cells #[.int .i64 (x : Int)] 3)).alloc (.cells #[.slice sa sl sc] 38)) := hB1.alloc (by simp; omega) _
  simp only [World.size_alloc] at bY bk
  obtain ⟨W0, hW0⟩ : ∃ W0, (((w.alloc (.cells #[.int .i64 (x : Int)] 3)).alloc (.cells #[.int .i64 0] 3)).alloc (.cells #[.int .i64 (x : Int)] 3)).alloc (.cells #[.slice sa sl sc] 38) = W0 := ⟨_, rfl⟩
  have hsz : W0.heap.size = w.heap.size + 4 := by rw [← hW0]; simp
  rw [hW0] at bx bY bk hB0 ⊢
  clear hW0 hB1 Ho2
  have hsl : (∃ (a : Option Addr) (c : Nat), (Value.slice sa sl sc) = .slice a 0 c) ∧ cs = [] ∨ ∃ b off cap : Nat, (Value.slice sa sl sc) = .slice (some ⟨b, off, none⟩) cs.length cap ∧ (cs.length : Int) ≤ 9223372036854775807 ∧ b < w.heap.size ∧ ∀ j, j < cs.length → W0.cell? ⟨b, off + j, none⟩ = some (.int .i64 ((cs.getD j ⟨0, by decide⟩).1 : Int)) := by
    rcases Hh.out with ⟨h1, h2⟩ | ⟨b, off, cap, h1, h2, h3, h4⟩
    · exact .inl ⟨h1, List.map_eq_nil_iff.1 h2⟩
    · rw [List.length_map] at h1 h2
      exact .inr ⟨b, off, cap, h1, h2, h3, fun j hj => (hB0.cell (p := ⟨b, off + j, none⟩) h3).trans (scsAt_cell h4 j hj)⟩
  refine wpIn_rangeFunc_ownF rfl (by omega) (gf := 68) (lb := #[.pointer (some ⟨w.heap.size + 1 + 1 + 1, 0, none⟩)]) rfl trivial (enters_of Try.func68 (by kernel_rfl) rfl)
    (back_stops 2 (by omega) (w.heap.size + 1 + 1 + 1) w.heap.size _ cs W0 (by omega) (by omega) bk hsl) KeepBox.trans (keepBox_b (by omega) (by omega)) (Below.refl _ _) (fun _ => rfl)
    (fun pre W => (Boxed W w.heap.size 3 (.int .i64 (x : Int)) ∧ Boxed W (w.heap.size + 1) 3 (.int .i64 ((hrun x pre : Nat) : Int))) ∧ Below w.heap.size W0 W)
    (fun _ _ _ => False)
    (OwnFrom.and (OwnFrom.and (Own.from (boxed_own _ _ _) _) (Own.from (boxed_own _ _ _) _)) (ownFrom_below (by omega) (by omega)))
    (fun _ _ _ _ _ hs _ _ => hs)
    ⟨⟨bx, bY⟩, Below.refl _ _⟩
    (fun p => { tmps := #[.slice sa sl sc, .int .i64 (x : Int), undef, .pointer (some ⟨w.heap.size, 0, none⟩), .pointer (some ⟨w.heap.size + 1, 0, none⟩), .int .i64 0, undef, .int .i64 (p.2.1 : Int), .int .i64 (x : Int), .slice (some ⟨w.heap.size + 1 + 1, 0, none⟩) 1 1, .bool false, .bool false, .slice sa sl sc, .bool false, .bool false, .slice sa sl sc, .func (.func 68) #[] #[.pointer (some ⟨w.heap.size + 1 + 1 + 1, 0, none⟩)], .int .i64 (p.1 : Int), .int .i64 (p.2.1 : Int), undef, undef, undef, undef, undef, undef, undef], defers := [] }) ?assign ?body ?done ?stop
  case assign =>
    intro l p W K hK
    gi_wp2
    exact hK
  case body =>
    rintro l pre ⟨idx, c, hc⟩ W ⟨⟨hbx, hby⟩, hB⟩ _
    have hlt := hrun_lt x pre
    have hcx := hbx.cell
    have hcy := hby.cell
    have hsW := hB.size
    have hm1 := mulQ_lt (hrun x pre) x
    have hp := productQ_any (hrun x pre) x hlt hx W
    have re : ((mulQ (hrun x pre) x : Nat) : Int) + (c : Int) ≤ 9223372036854775807 := by omega
    have re2 : (((mulQ (hrun x pre) x : Nat) : Int) + (c : Int)) % 2305843009213688669 = ((hrun x (pre ++ [(idx, ⟨c, hc⟩)]) : Nat) : Int) := by
      rw [hrun_snoc, show horner x (hrun x pre) (idx, ⟨c, hc⟩) = addQ (mulQ (hrun x pre) x) c from rfl]; unfold addQ; omega
    obtain ⟨m, hm⟩ : ∃ m, mulQ (hrun x pre) x = m := ⟨_, rfl⟩
    obtain ⟨yy, hyy⟩ : ∃ m, hrun x pre = m := ⟨_, rfl⟩
    rw [hm] at hp re re2
    rw [hyy] at hp hby hcy
    have Hp := Lib.hid hp
    have Hre2 := Lib.hid re2
    clear hp re2 hm1 hlt hm hyy
    gi_wp2_with fail
    refine ⟨trivial, ?_⟩
    refine (CallsIn.inRound l (callsIn_wide.2 Hp.out)).mono ?_
    rintro e W1 ⟨rfl, hb1⟩
    have hbx1 : Boxed W1 w.heap.size 3 (.int .i64 (x : Int)) := (hb1.block _ hbx.lt).trans hbx
    have hby1 : Boxed W1 (w.heap.size + 1) 3 _ := (hb1.block _ hby.lt).trans hby
    have hcy1 := hby1.cell
    have hfy1 := hby1.frozen
    clear hcx hcy
    have hbx2 := hbx1.other (B' := w.heap.size + 1) (by omega) (.int .i64 (((m : Int) + (c : Int)) % 2305843009213688669))
    have hby2 := hby1.set (.int .i64 (((m : Int) + (c : Int)) % 2305843009213688669))
    have hk1 : KeepBox w.heap.size (w.heap.size + 1 + 1 + 1) W (W1.setCell ⟨w.heap.size + 1, 0, none⟩ (.int .i64 (((m : Int) + (c : Int)) % 2305843009213688669))) :=
      ⟨(hb1.mono (by omega)).setCell (p := ⟨w.heap.size + 1, 0, none⟩) (by simp) _, (Below.heap_setCell _ _ _ _ (by simp; omega)).trans (hb1.block _ (by omega))⟩
    have hko1 := (keepsOthers_of_below hb1).trans (KeepsOthers.setCell W1 ⟨w.heap.size + 1, 0, none⟩ (.int .i64 (((m : Int) + (c : Int)) % 2305843009213688669)))
    gi_wp2_with fail
    exact ⟨hko1, hk1, ⟨⟨hbx2, by rw [← Hre2.out]; exact hby2⟩, hB.trans hk1.1⟩⟩
  case done =>
    rintro D ys W hD rfl ⟨⟨_, hby⟩, hB⟩ hK
    have hcy := hby.cell
    have hfy := hby.frozen
    gi_wp2
    obtain ⟨rv, hrv⟩ : ∃ r, hrun x (allBack cs) = r := ⟨_, rfl⟩
    rw [hrv] at hcy ⊢
    have hK' := (KeepsOthers.setCell W ⟨w.heap.size + 1, 0, none⟩ (.int .i64 (rv : Int))).same D _ hK rfl
    refine ⟨by simp, .inl ⟨_, _, rfl, run_takeDeferred hK', ?_⟩⟩
    have hc5 := cell_kept (World.cell?_setCell_same' W ⟨w.heap.size + 1, 0, none⟩ (.int .i64 (rv : Int)) (by rw [hcy]; rfl)) (grownBy_putObj' _ D (.deferred none)) (fun r e => by cases e; exact ⟨_, hK', rfl⟩)
    refine ⟨.tuple #[.int .i64 (rv : Int), .int .i64 0], ?_, rfl, ((hB0.trans hB).setCell (p := ⟨w.heap.size + 1, 0, none⟩) (by simp) _).trans (belowK_b (w := w) (Nat.le_refl _) _ D _ _ (by omega) hK' rfl rfl)⟩
    simp [results, Try.f41, go_sem, hc5]
  case stop =>
    rintro D c pre W _ _ h _
    exact h.elim


/-! ### Eval where something is no scalar -/
set_option maxRecDepth 100000 in
set_option maxHeartbeats 1000000 in
theorem feval_no (sv : Value) (zs : List Int) (x : Int) (w : World) (h : IntsAt w sv zs) (hno : (!scalB x || outB zs) = true) :
    Calls Try.prog 41 #[sv, .int .i64 x] w fun e w' => e = .returned (.tuple #[.int .i64 0, .int .i64 1]) ∧ Below w.heap.size w w' := by
  have Hh := Lib.hid h
  clear h
  cases hx : scalB x with
  | false =>
    have ho := out_one ((w.alloc (.cells #[.int .i64 x] 3)).alloc (.cells #[.int .i64 0] 3)) x (x := true) (by rw [hx]; rfl)
    simp only [World.size_alloc] at ho
    have hB1 : Below w.heap.size w (((w.alloc (.cells #[.int .i64 x] 3)).alloc (.cells #[.int .i64 0] 3)).alloc (.cells #[.int .i64 x] 3)) := (((Below.refl _ w).alloc (Nat.le_refl _) _).alloc (by simp) _).alloc (by simp; omega) _
    have Ho := Lib.hid ho
    clear ho hx hno
    go_enter Try.func41, Try.ntmps41
    go_wp2_with fail
    refine (Ho.out).mono ?_
    rintro e w' ⟨rfl, rfl⟩
    go_wp2_with fail
    go_returns
    exact ⟨rfl, hB1⟩
  | true =>
    have ho := out_one ((w.alloc (.cells #[.int .i64 x] 3)).alloc (.cells #[.int .i64 0] 3)) x (x := false) (by rw [hx]; rfl)
    simp only [World.size_alloc] at ho
    have hB1 : Below w.heap.size w (((w.alloc (.cells #[.int .i64 x] 3)).alloc (.cells #[.int .i64 0] 3)).alloc (.cells #[.int .i64 x] 3)) := (((Below.refl _ w).alloc (Nat.le_refl _) _).alloc (by simp) _).alloc (by simp; omega) _
    have hz : outB zs = true := by rw [hx] at hno; simpa using hno
    have ho2 := outside_any sv zs _ (Hh.out.below hB1)
    rw [hz] at ho2
    have Ho := Lib.hid ho
    have Ho2 := Lib.hid ho2
    clear ho hx hno ho2 hz
    go_enter Try.func41, Try.ntmps41
    go_wp2_with fail
    refine (Ho.out).mono ?_
    rintro e w' ⟨rfl, rfl⟩
    go_wp2_with fail
    refine (Ho2.out).mono ?_
    rintro e w' ⟨rfl, rfl⟩
    go_wp2_with fail
    go_returns
    exact ⟨rfl, hB1⟩

/-! ### what Eval answers -/
def fevalV (zs : List Int) (x : Int) : Int := if scalB x && !outB zs then ((evalQ x.toNat (zs.map Int.toNat) : Nat) : Int) else 0
def fevalE (zs : List Int) (x : Int) : Int := if scalB x && !outB zs then 0 else 1

theorem scs_of : ∀ (zs : List Int), outB zs = false → ∃ cs : List Sc, zs = cs.map (fun c => (c.1 : Int)) ∧ zs.map Int.toNat = cs.map (·.1)
  | [], _ => ⟨[], rfl, rfl⟩
  | z :: zs, h => by
    unfold outB at h
    rw [List.any_cons, Bool.or_eq_false_iff] at h
    obtain ⟨cs, e1, e2⟩ := scs_of zs h.2
    have hz : scalB z = true := by simpa using h.1
    obtain ⟨n, rfl, hn⟩ := scalB_nat hz
    exact ⟨⟨n, hn⟩ :: cs, by rw [e1]; rfl, by rw [List.map_cons, e2]; rfl⟩

theorem feval_any (sv : Value) (zs : List Int) (x : Int) (w : World) (h : IntsAt w sv zs) :
    Calls Try.prog 41 #[sv, .int .i64 x] w fun e w' => e = .returned (.tuple #[.int .i64 (fevalV zs x), .int .i64 (fevalE zs x)]) ∧ Below w.heap.size w w' := by
  unfold fevalV fevalE
  cases hb : (scalB x && !outB zs) with
  | false =>
    refine feval_no sv zs x w h ?_
    cases hx : scalB x <;> cases hz : outB zs <;> simp_all
  | true =>
    rw [Bool.and_eq_true] at hb
    obtain ⟨n, rfl, hn⟩ := scalB_nat hb.1
    have hz : outB zs = false := by simpa using hb.2
    obtain ⟨cs, e1, e2⟩ := scs_of zs hz
    simp only [if_true]
    rw [e2, Int.toNat_natCast]
    exact feval_yes sv cs n hn w (e1 ▸ h)

end Go.Proofs.Ytajcpbchpcnmaaa
