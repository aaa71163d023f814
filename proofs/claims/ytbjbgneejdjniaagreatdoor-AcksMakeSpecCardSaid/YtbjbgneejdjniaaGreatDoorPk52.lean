/- slice literals of structs; what has not changed since a world. What Wrong does not name is acknowledged by all members: the plain law. The reference of package acks: formed, list. The reference of package acks: Message, Make, Check. -/
import Derived.Test.YtbjbgneejdjniaaGreatDoorPk51
import Derived.Great.BuildSlice
import Derived.Great.FillDense
set_option linter.unusedVariables false
set_option linter.unusedSimpArgs false
namespace Go.Proofs.YtbjbgneejdjniaaGreatDoor
open Go.RowKit Cod
/-- nothing that was there at w0 has changed -/
def Since (w0 w : World) : Prop := Below w0.heap.size w0 w
theorem Since.refl (w : World) : Since w w := Below.refl _ _
theorem Since.below {w0 w w' : World} (h : Since w0 w) (b : Below w.heap.size w w') : Since w0 w' := Below.trans h (b.mono (Below.size h))
theorem Since.le {w0 w : World} (h : Since w0 w) : w0.heap.size ≤ w.heap.size := Below.size h
theorem Since.b {w0 w : World} (h : Since w0 w) : Below w0.heap.size w0 w := h
theorem Since.app {w0 w w' : World} {v v' : Value} (h : Since w0 w) (st : AppStep w v w' v') (hb : ∀ k, v.ownBlock = some k → w0.heap.size ≤ k) : Since w0 w' := Below.trans h (below_app st (Below.size h) hb)
section
variable {α : Type} {T : TypeId} {s : Nat} {c : α → Nat → Value}
theorem fillT (hs : 0 < s) (d : α) (l : List α) (cells : Array Value) (hc : cells.size = l.length * s) :
    Instr.fill (fun i => some (i * s, s)) cells (((l.map fun b => Value.agg (rowF s (c b))).zipIdx 0).map fun x => (x.2, x.1)) = some (flatS s c l).toArray := by
  obtain ⟨r, hr, hsz, hk⟩ := Great.fill_dense hs (l.map fun b => Value.agg (rowF s (c b))) 0 cells
    (by intro v hv; obtain ⟨b, _, rfl⟩ := List.mem_map.1 hv; exact rowF_size _ _) (by rw [hc, List.length_map, Nat.zero_add]; exact Nat.le_refl _)
  rw [hr]; congr 1
  apply Array.ext_getElem?
  intro k
  rw [hk k, List.length_map, Nat.zero_add, Nat.zero_mul]
  by_cases h : k < l.length * s
  · rw [if_pos ⟨by omega, h⟩]
    have hi : k / s < l.length := (Nat.div_lt_iff_lt_mul hs).2 h
    have hm : k % s < s := Nat.mod_lt _ hs
    have hg := flatS_get d (s := s) (c := c) l (k / s) (k % s) hi hm
    rw [Nat.div_add_mod] at hg
    have e1 : (flatS s c l).toArray[k]? = (flatS s c l)[k]? := by simp
    rw [e1, hg, Nat.sub_zero, List.getElem?_map, List.getElem?_eq_getElem hi, Option.map_some, Option.bind_some]
    show (rowF s (c l[k / s]))[k % s]? = _
    rw [rowF_get hm, List.getD_eq_getElem?_getD, List.getElem?_eq_getElem hi]; rfl
  · rw [if_neg (by omega), Array.getElem?_eq_none (by omega), Array.getElem?_eq_none (by simp [flatS_len]; omega)]
theorem wpList_buildT {P : Program} {w : World} {ops : Array Oper} {rest : List Oper} {o : Oper} {a : Act} {Q : Exit → Act → World → Prop} (hg : o.guard = none) (t : TypeId) (n : Nat) (parts : Array (Nat × Operand))
    (ho : o.op = .buildSlice t n parts) (d : α) (l : List α) (hn : l.length = n) (h0 : 0 < n) (hn2 : n ≤ 1000) (hs0 : 0 < s) (hs2 : s ≤ 1000)
    (hp : (parts.toList.map fun (i, x) => (i, a.eval x)) = ((l.map fun b => Value.agg (rowF s (c b))).zipIdx 0).map fun x => (x.2, x.1))
    (hu : P.underlying t = some (.slice T)) (hs : (P.info? T).map (·.size) = some s) (hzz : ((P.info? T).bind (·.zero)).isSome = true)
    (h : ∀ w', Hid (OwnT T s c w' w.heap.size (.slice (some ⟨w.heap.size, 0, none⟩) n n) l) → Hid (Below w.heap.size w w') → Hid (w.heap.size < w'.heap.size) → wpList P ops Q rest (a.put o.dst (.slice (some ⟨w.heap.size, 0, none⟩) n n)) w') : wpList P ops Q (o :: rest) a w := by
  cases hie : P.info? T with
  | none => simp [hie] at hs
  | some ie =>
    simp only [hie, Option.map_some, Option.some.injEq, Option.bind_some] at hs hzz
    obtain ⟨zv, hz0⟩ := Option.isSome_iff_exists.1 hzz
    have hb : n * s ≤ 1000 * 1000 := Nat.mul_le_mul hn2 hs2
    have hpos : 0 < n * s := Nat.mul_pos h0 hs0
    refine wpList_buildSlice hg t T n parts ho (flatS s c l).toArray ie zv hu hie hz0 (by rw [hs]; omega) (by rw [hs]; omega) ?_ (h _ ?_ ((Below.refl _ w).alloc (Nat.le_refl _) _) ?_)
    · rw [hs, Array.toList_map, hp]
      exact fillT hs0 d l _ (by simp [hn])
    · refine ⟨by rw [flatS_len, hn], .inr ⟨w.heap.size, n, (flatS s c l).toArray, by rw [hn], Nat.le_refl _, (MapKept.heap_alloc w _).1, by rw [hn]; exact Nat.le_refl _, by unfold maxLen; omega, by simp [flatS_len, hn], ?_⟩⟩
      show (flatS s c l).take (l.length * s) = _
      rw [List.take_of_length_le (by rw [flatS_len]; exact Nat.le_refl _)]
    · show w.heap.size < (w.alloc _).heap.size
      rw [World.size_alloc]; omega
end
end Go.Proofs.YtbjbgneejdjniaaGreatDoor

namespace Go.Proofs.YtbjbgneejdjniaaGreatDoor
open Go.RowKit Cod
def wmapQ (wl : List Int) : List (Int × Value) := wl.foldl (fun m n => IM.put m n (.bool true)) []
theorem wmap_fold (j : Int) : ∀ (wl : List Int) (m : List (Int × Value)), IM.get (wl.foldl (fun m n => IM.put m n (.bool true)) m) j = if j ∈ wl then some (.bool true) else IM.get m j
  | [], m => by simp
  | n :: wl, m => by
    rw [List.foldl_cons, wmap_fold j wl]
    by_cases h : j ∈ wl
    · rw [if_pos h, if_pos (List.mem_cons_of_mem _ h)]
    · rw [if_neg h]
      by_cases hn : j = n
      · subst hn; rw [IM.get_put_same, if_pos (List.mem_cons_self ..)]
      · rw [IM.get_put_other hn, if_neg (fun h2 => by rcases List.mem_cons.1 h2 with h3 | h3; exact hn h3; exact h h3)]
theorem wmap_get (wl : List Int) (j : Int) : IM.get (wmapQ wl) j = if j ∈ wl then some (.bool true) else none := wmap_fold j wl []
theorem wmap_val (wl : List Int) (j : Int) : (IM.get (wmapQ wl) j).getD (.bool false) = .bool (decide (j ∈ wl)) := by
  rw [wmap_get]; by_cases h : j ∈ wl <;> simp [h]
theorem wmap_snoc (wl : List Int) (n : Int) : wmapQ (wl ++ [n]) = IM.put (wmapQ wl) n (.bool true) := by unfold wmapQ; rw [List.foldl_append]; rfl
theorem wrongL_mem {n j : Int} {es : List En} {k : Nat} : j ∈ wrongL n (goneU es k) ↔ ∃ i, i < k ∧ (es.getD i en0).g = true ∧ wrongP n (i + 1, es.getD i en0) = true ∧ j = ((i + 1 : Nat) : Int) := by
  unfold wrongL goneU
  simp only [List.mem_map, List.mem_filter, List.mem_range]
  constructor
  · rintro ⟨x, ⟨⟨i, ⟨hi, hg⟩, rfl⟩, hw⟩, rfl⟩; exact ⟨i, hi, hg, hw, rfl⟩
  · rintro ⟨i, hi, hg, hw, rfl⟩; exact ⟨_, ⟨⟨i, ⟨hi, hg⟩, rfl⟩, hw⟩, rfl⟩
/-- an acknowledgement of a member for an entry, as the statement reckons it -/
def cntP (m : Mb) (f s : Int) (i : Nat) (a : Ak) : Bool := decide (a.f = f) && decide (a.s = s) && decide (a.d = m.dev) && decide ((i : Int) < a.u) && verB m.ver (msgA a) a.r a.g
theorem proves_at {ms : List Mb} {f s : Int} {l : List Ak} {es : List En} {k i : Nat} (hi : i < k) (hg : (es.getD i en0).g = true) (hw : ((i + 1 : Nat) : Int) ∉ wrongL (leastM ms f s l) (goneU es k)) :
    (es.getD i en0).k = 4 ∧ ms ≠ [] ∧ ∀ m ∈ ms, ∃ a ∈ l, cntP m f s i a = true := by
  have hp : wrongP (leastM ms f s l) (i + 1, es.getD i en0) = false := by
    cases h : wrongP (leastM ms f s l) (i + 1, es.getD i en0) with
    | false => rfl
    | true => exact absurd (wrongL_mem.2 ⟨i, hi, hg, h, rfl⟩) hw
  unfold wrongP at hp
  simp only [Bool.or_eq_false_iff, Bool.not_eq_false', decide_eq_true_eq, decide_eq_false_iff_not] at hp
  have hn : ((i + 1 : Nat) : Int) ≤ leastM ms f s l := by omega
  refine ⟨hp.1, fun e => ?_, fun m hm => ?_⟩
  · subst e
    have : leastM ([] : List Mb) f s l = 0 := rfl
    omega
  · have h1 := leastM_le (f := f) (s := s) (l := l) hm
    rcases uptoM_some f s l m with h | ⟨a, ha, hc, h, _⟩
    · omega
    · refine ⟨a, ha, ?_⟩
      unfold cntA selA at hc
      simp only [Bool.and_eq_true, decide_eq_true_eq] at hc
      unfold cntP
      simp only [Bool.and_eq_true, decide_eq_true_eq]
      exact ⟨⟨⟨⟨hc.1.1.1, hc.1.1.2⟩, hc.1.2⟩, by omega⟩, (ckA_ok hc.2).2⟩
/-- one step of the inner loop -/
theorem any_take {m : Mb} {f s : Int} {i : Nat} {l : List Ak} {k : Nat} (h : k < l.length) : (l.take (k + 1)).any (cntP m f s i) = ((l.take k).any (cntP m f s i) || cntP m f s i (l.getD k ak0)) := by
  rw [take_succ_getD ak0 l h, List.any_append]; simp
theorem any_all {m : Mb} {f s : Int} {i : Nat} {l : List Ak} (h : ∃ a ∈ l, cntP m f s i a = true) : (l.take l.length).any (cntP m f s i) = true := by
  rw [List.take_length]; exact List.any_eq_true.2 h
/-- an operation whose guard is not met is passed over -/
theorem wpList_skip {P : Program} {ops : Array Oper} {Q : Exit → Act → World → Prop} {a : Act} {w : World} {rest : List Oper} {o : Oper} (hw : Region.wanted o (yielded ops a.tmps) = false) (h : wpList P ops Q rest (a.put o.dst undef) w) : wpList P ops Q (o :: rest) a w := by
  unfold wpList
  rw [if_neg (by rw [hw]; decide)]
  exact h
def valE (b : Nat → Value) (j : Nat) : Value := b j
/-- a list of values as the codec reads it -/
theorem CodAt.lst {w : World} {base : Nat} {v : Value} {L : List (Nat → Value)} {ts : List Tv} (h : OwnT 45 4 valE w base v L) (hn : L.length ≤ 1000000) (hl : ts.length = L.length)
    (hc : ∀ i, i < ts.length → CodAt w (.agg (rowF 4 (L.getD i zeroC))) (ts.getD i tv0)) : CodAt w (.agg #[.int .i64 3, .int .i64 0, .string ByteArray.empty, v]) (lstT ts) :=
  .mk 3 0 ByteArray.empty v ts (fun i => L.getD i zeroC) ⟨by decide, by decide⟩ ⟨by decide, by decide⟩ (by decide) (by have h2 := h.at' zeroC (by decide) (by decide) hn; rw [hl]; exact h2) hc
theorem CodAt.ack {w : World} {base : Nat} {v : Value} {a : Ak} (ha : a.wf) {tx : ByteArray} (ht : ByteArray.mk a.ch.toArray = tx)
    (h : OwnT 45 4 valE w base v [valC 1 a.f ⟨#[]⟩ (.slice none 0 0), valC 1 a.d ⟨#[]⟩ (.slice none 0 0), valC 1 a.s ⟨#[]⟩ (.slice none 0 0), valC 1 a.u ⟨#[]⟩ (.slice none 0 0), valC 2 0 tx (.slice none 0 0)]) :
    CodAt w (.agg #[.int .i64 3, .int .i64 0, .string ByteArray.empty, v]) (treeA a []) := by
  subst ht
  refine CodAt.lst (ts := fldA a []) h (by simp) rfl (fun i hi => ?_)
  have h5 : i < 5 := hi
  have hh : i = 0 ∨ i = 1 ∨ i = 2 ∨ i = 3 ∨ i = 4 := by omega
  rcases hh with rfl | rfl | rfl | rfl | rfl
  · exact (leafS (fun _ => True) w ha.f).at'
  · exact (leafS (fun _ => True) w ha.d).at'
  · exact (leafS (fun _ => True) w ha.s).at'
  · exact (leafS (fun _ => True) w ha.u).at'
  · exact (leafT (fun _ => True) w (l := a.ch) (by rw [ha.ch]; decide)).at'
theorem enc_ack (a : Ak) (ha : a.wf) (v : Value) (w : World) (h : CodAt w v (treeA a [])) :
    Calls Tryz.prog 13 #[v] w fun e w' => (∃ u, e = .returned (.tuple #[u, .int .i64 0]) ∧ Owns w' w.heap.size u (encA a [])) ∧ Below w.heap.size w w' := by
  have CT := chkT_lst (fldA_form a []) (fldA_depth a [])
  have E := cencode_any (lstT (fldA a [])) v w CT.2 h (Nat.le_trans (encA_len a ha [] (fun z hz => absurd hz List.not_mem_nil) (by decide)) (by decide))
  refine E.mono fun e w' h2 => ?_
  unfold EncPost at h2
  rw [if_pos CT.1] at h2
  exact h2
end Go.Proofs.YtbjbgneejdjniaaGreatDoor

namespace Go.Proofs.YtbjbgneejdjniaaGreatDoor
open Go.RowKit Cod
set_option maxRecDepth 100000 in
set_option maxHeartbeats 4000000 in
theorem r33formed_any (f d s u : Int) (w : World) :
    Calls Tryz.prog 22 #[.int .i64 f, .int .i64 d, .int .i64 s, .int .i64 u] w fun e w' => e = .returned (.bool (okA ⟨f, d, s, u, z32, 0, 0⟩)) ∧ Below w.heap.size w w' := by
  have HU : Hid (okA ⟨f, d, s, u, z32, 0, 0⟩ = (decide (0 ≤ f) && decide (f < 16) && decide (0 ≤ d) && decide (d < 512) && decide (0 ≤ s) && decide (s < 4) && decide (0 ≤ u) && decide (u ≤ 65536))) := Lib.hid (by
    unfold okA; congr 1; rw [decide_eq_decide]; show u < 65537 ↔ _; omega)
  rw [HU.out]
  clear HU
  go_enter Tryz.func22, Tryz.ntmps22
  cases h0 : decide (0 ≤ f)
  · go_wp2_with fail
    go_ret
    exact ⟨rfl, Below.refl _ _⟩
  cases h1 : decide (f < 16)
  · go_wp2_with fail
    go_ret
    exact ⟨rfl, Below.refl _ _⟩
  cases h2 : decide (0 ≤ d)
  · go_wp2_with fail
    go_ret
    exact ⟨rfl, Below.refl _ _⟩
  cases h3 : decide (d < 512)
  · go_wp2_with fail
    go_ret
    exact ⟨rfl, Below.refl _ _⟩
  cases h4 : decide (0 ≤ s)
  · go_wp2_with fail
    go_ret
    exact ⟨rfl, Below.refl _ _⟩
  cases h5 : decide (s < 4)
  · go_wp2_with fail
    go_ret
    exact ⟨rfl, Below.refl _ _⟩
  cases h6 : decide (0 ≤ u)
  · go_wp2_with fail
    go_ret
    exact ⟨rfl, Below.refl _ _⟩
  cases h7 : decide (u ≤ 65536)
  · go_wp2_with fail
    go_ret
    exact ⟨rfl, Below.refl _ _⟩
  · go_wp2_with fail
    go_ret
    exact ⟨rfl, Below.refl _ _⟩
set_option maxRecDepth 100000 in
set_option maxHeartbeats 8000000 in
theorem rlist33_any (a : Ak) (ha : a.wf) (w : World) :
    Calls Tryz.prog 49 #[.agg (rowF 38 (akC a))] w fun e w' => (∃ u tx, e = .returned (.agg (rowF 4 (valC 3 0 ⟨#[]⟩ u))) ∧ ByteArray.mk a.ch.toArray = tx ∧ OwnT 45 4 valE w' w.heap.size u [valC 1 a.f ⟨#[]⟩ (.slice none 0 0), valC 1 a.d ⟨#[]⟩ (.slice none 0 0), valC 1 a.s ⟨#[]⟩ (.slice none 0 0), valC 1 a.u ⟨#[]⟩ (.slice none 0 0), valC 2 0 tx (.slice none 0 0)]) ∧ Below w.heap.size w w' := by
  have WA := Lib.hid ha
  clear ha
  go_enter Tryz.func49, Tryz.ntmps49
  have B0 := Lib.hid (Below.refl w.heap.size w)
  go_upto_region 1 with fail
  obtain ⟨w1, hw1⟩ : ∃ y, w.alloc (.cells (rowF 38 (akC a)) 27) = y := ⟨_, rfl⟩
  have b1 : Below w.heap.size w w1 := by rw [← hw1]; exact (Below.refl _ _).alloc (Nat.le_refl _) _
  have A1 : Hid (RowV w1 w.heap.size 27 38 (akC a)) := Lib.hid (by rw [← hw1]; exact RowV.new w _ 38 (akC a))
  have z1 : w.heap.size + 1 = w1.heap.size := by rw [← hw1]; exact (Array.size_push _).symm
  rw [hw1]
  (try rw [z1])
  have B1 := Lib.hid (B0.out.trans (b1.mono B0.out.size))
  clear b1 hw1 z1 B0
  have S1 := Lib.hid B1.out.size
  obtain ⟨w2, hw2⟩ : ∃ y, w1.alloc (.cells #[.int .i64 0, .int .i64 0, .string ⟨#[]⟩, .slice none 0 0] 45) = y := ⟨_, rfl⟩
  have b2 : Below w1.heap.size w1 w2 := by rw [← hw2]; exact (Below.refl _ _).alloc (Nat.le_refl _) _
  have V2 : Hid (RowV w2 w1.heap.size 45 4 zeroC) := Lib.hid (by rw [← hw2]; exact RowV.new w1 _ 4 zeroC)
  have z2 : w1.heap.size + 1 = w2.heap.size := by rw [← hw2]; exact (Array.size_push _).symm
  rw [hw2]
  (try rw [z2])
  have B2 := Lib.hid (B1.out.trans (b2.mono B1.out.size))
  have A2 := Lib.hid (A1.out.below b2)
  clear b2 hw2 z2 B1 A1
  refine Tc.wp_region_plan (keep w2.heap.size) 18 [] (.fl 0 (.fl 1 (.fl 3 (.fl 4 (.fl 6 (.fl 7 (.fl 9 (.fl 10 (.fl 12 (.fl 13 (.fl 14 (.one 2 (.one 5 (.one 8 (.one 11 (.one 15 (.one 16 (.one 17 .done)))))))))))))))))) (by kernel_rfl) (by kernel_rfl) ?_
  intro w3 b3 e3
  have BB3 : Hid (Below w2.heap.size w2 w3) := Lib.hid b3
  clear b3 e3
  refine Tc.plan_floats [0, 1, 3, 4, 6, 7, 9, 10, 12, 13, 14] [_, _, _, _, _, _, _, _, _, _, _] rfl ?_
  dsimp only [List.getElem_toArray, List.getElem_cons_succ, List.getElem_cons_zero]
  repeat (first | go_big_quiet_skip | (go_big_quiet_want; go_big_quiet_op; first | go_big_quiet_on | (refine ⟨_, fun _ _ => rfl, ?_⟩; go_big_quiet_on)))
  refine wpQuiet_load_cell rfl 3 (.tmp 3) rfl w.heap.size 0 rfl _ Tryz.underlying3 rfl (.int .i64 a.f) (fun W hW => cell_keep (n := w2.heap.size) (ak_cell (A2.out.below BB3.out) (i := 0) (by decide) (by decide)) (A2.out.lt) hW) ?_
  simp only [Act.put, List.setIfInBounds_toArray, List.set_cons_succ, List.set_cons_zero]
  repeat (first | go_big_quiet_skip | (go_big_quiet_want; go_big_quiet_op; first | go_big_quiet_on | (refine ⟨_, fun _ _ => rfl, ?_⟩; go_big_quiet_on)))
  refine wpQuiet_load_cell rfl 3 (.tmp 6) rfl w.heap.size 1 rfl _ Tryz.underlying3 rfl (.int .i64 a.d) (fun W hW => cell_keep (n := w2.heap.size) (ak_cell (A2.out.below BB3.out) (i := 1) (by decide) (by decide)) (A2.out.lt) hW) ?_
  simp only [Act.put, List.setIfInBounds_toArray, List.set_cons_succ, List.set_cons_zero]
  repeat (first | go_big_quiet_skip | (go_big_quiet_want; go_big_quiet_op; first | go_big_quiet_on | (refine ⟨_, fun _ _ => rfl, ?_⟩; go_big_quiet_on)))
  refine wpQuiet_load_cell rfl 3 (.tmp 9) rfl w.heap.size 2 rfl _ Tryz.underlying3 rfl (.int .i64 a.s) (fun W hW => cell_keep (n := w2.heap.size) (ak_cell (A2.out.below BB3.out) (i := 2) (by decide) (by decide)) (A2.out.lt) hW) ?_
  simp only [Act.put, List.setIfInBounds_toArray, List.set_cons_succ, List.set_cons_zero]
  repeat (first | go_big_quiet_skip | (go_big_quiet_want; go_big_quiet_op; first | go_big_quiet_on | (refine ⟨_, fun _ _ => rfl, ?_⟩; go_big_quiet_on)))
  refine wpQuiet_load_cell rfl 3 (.tmp 12) rfl w.heap.size 3 rfl _ Tryz.underlying3 rfl (.int .i64 a.u) (fun W hW => cell_keep (n := w2.heap.size) (ak_cell (A2.out.below BB3.out) (i := 3) (by decide) (by decide)) (A2.out.lt) hW) ?_
  simp only [Act.put, List.setIfInBounds_toArray, List.set_cons_succ, List.set_cons_zero]
  repeat (first | go_big_quiet_skip | (go_big_quiet_want; go_big_quiet_op; first | go_big_quiet_on | (refine ⟨_, fun _ _ => rfl, ?_⟩; go_big_quiet_on)))
  refine wpQuiet_convert rfl 38 9 (.tmp 16) rfl _ (.string ⟨a.ch.toArray⟩) rfl (fun W hW => run_text (ak_bytes (row_keep (n := w2.heap.size) (A2.out.below BB3.out) A2.out.lt hW) WA.out)) ?_
  simp only [Act.put, List.setIfInBounds_toArray, List.set_cons_succ, List.set_cons_zero]
  repeat (first | go_big_quiet_skip | (go_big_quiet_want; go_big_quiet_op; first | go_big_quiet_on | (refine ⟨_, fun _ _ => rfl, ?_⟩; go_big_quiet_on)))
  refine wpQuiet_nil ?_
  obtain ⟨tx, htx⟩ : ∃ y, ByteArray.mk a.ch.toArray = y := ⟨_, rfl⟩
  have HTX := Lib.hid htx
  rw [htx]
  clear htx
  refine Tc.plan_one 2 rfl (fun K hK => ?_)
  go_wp2_with fail
  refine (rint_any a.f _).mono ?_
  rintro e w4 ⟨rfl, b4⟩
  have bb := b4.mono BB3.out.size
  have BB4 := Lib.hid (BB3.out.trans bb)
  go_wp2_with fail
  refine hK _ _ (keep_below bb) ?_
  clear hK K bb b4 BB3
  refine Tc.plan_one 5 rfl (fun K hK => ?_)
  go_wp2_with fail
  refine (rint_any a.d _).mono ?_
  rintro e w5 ⟨rfl, b5⟩
  have bb := b5.mono BB4.out.size
  have BB5 := Lib.hid (BB4.out.trans bb)
  go_wp2_with fail
  refine hK _ _ (keep_below bb) ?_
  clear hK K bb b5 BB4
  refine Tc.plan_one 8 rfl (fun K hK => ?_)
  go_wp2_with fail
  refine (rint_any a.s _).mono ?_
  rintro e w6 ⟨rfl, b6⟩
  have bb := b6.mono BB5.out.size
  have BB6 := Lib.hid (BB5.out.trans bb)
  go_wp2_with fail
  refine hK _ _ (keep_below bb) ?_
  clear hK K bb b6 BB5
  refine Tc.plan_one 11 rfl (fun K hK => ?_)
  go_wp2_with fail
  refine (rint_any a.u _).mono ?_
  rintro e w7 ⟨rfl, b7⟩
  have bb := b7.mono BB6.out.size
  have BB7 := Lib.hid (BB6.out.trans bb)
  go_wp2_with fail
  refine hK _ _ (keep_below bb) ?_
  clear hK K bb b7 BB6
  refine Tc.plan_one 15 rfl (fun K hK => ?_)
  go_wp2_with fail
  refine (rtext_any tx _).mono ?_
  rintro e w8 ⟨rfl, b8⟩
  have bb := b8.mono BB7.out.size
  have BB8 := Lib.hid (BB7.out.trans bb)
  go_wp2_with fail
  refine hK _ _ (keep_below bb) ?_
  clear hK K bb b8 BB7
  refine Tc.plan_one 16 rfl (fun K hK => ?_)
  refine wpList_buildT (s := 4) (c := valE) rfl 43 5 _ rfl zeroC [valC 1 a.f ⟨#[]⟩ (.slice none 0 0), valC 1 a.d ⟨#[]⟩ (.slice none 0 0), valC 1 a.s ⟨#[]⟩ (.slice none 0 0), valC 1 a.u ⟨#[]⟩ (.slice none 0 0), valC 2 0 tx (.slice none 0 0)] rfl (by decide) (by decide) (by decide) (by decide) rfl Tryz.underlying43 (by kernel_rfl) (by kernel_rfl) ?_
  intro w9 P9 b9 L9
  have bb := b9.out.mono BB8.out.size
  have BB9 := Lib.hid (BB8.out.trans bb)
  have Z8 := L9
  have SZ8 : Hid (w2.heap.size ≤ w8.heap.size) := Lib.hid BB8.out.size
  refine (show wpList _ _ _ [] _ _ from hK _ _ (keep_below bb) ?_)
  dsimp only [Act.put]
  simp only [List.setIfInBounds_toArray, List.set_cons_succ, List.set_cons_zero]
  clear hK K bb b9 L9 BB8
  refine Tc.plan_one 17 rfl (fun K hK => ?_)
  (try simp only [List.set_cons_succ, List.set_cons_zero])
  go_wp2_with fail
  refine (rlist_any _ 5 5 _).mono ?_
  rintro e w10 ⟨rfl, b10⟩
  have bb := b10.mono BB9.out.size
  have BB10 := Lib.hid (BB9.out.trans bb)
  have P10 := Lib.hid (P9.out.below b10)
  go_wp2_with fail
  refine hK _ _ (keep_below bb) ?_
  clear hK K bb b10 BB9 P9
  have V10 := Lib.hid (V2.out.below BB10.out)
  have B10 := Lib.hid (B2.out.trans (BB10.out.mono B2.out.size))
  refine Tc.plan_done (l := [_]) rfl (fun K hK => ?_)
  go_wp2_with ((with_reducible (show wpList _ _ _ (Oper.mk none _ _ _ _ _ :: _) _ _)); refine wpList_store_rowV rfl 45 (.tmp 2) (.tmp 20) rfl w1.heap.size rfl 4 45 zeroC (valC 3 0 ⟨#[]⟩ (.slice (some ⟨w8.heap.size, 0, none⟩) 5 5)) rfl V10.out (by kernel_rfl) (valC_one _ _ _ _) ?_; intro wz Vz oz)
  refine bodyPost_ret (v := .agg (rowF 4 (valC 3 0 ⟨#[]⟩ (.slice (some ⟨w8.heap.size, 0, none⟩) 5 5)))) (by exact results_rowV (fn := Tryz.f49) (p := 2) (ty := 45) rfl _ _ w1.heap.size 4 45 (valC 3 0 ⟨#[]⟩ (.slice (some ⟨w8.heap.size, 0, none⟩) 5 5)) _ rfl Vz.out Tryz.underlying45 rfl (by kernel_rfl)) rfl ?_
  have PZ := (P10.out.mono (show w2.heap.size ≤ w8.heap.size by have := SZ8.out; omega)).only oz.out (fun b hb => by have h1 := V2.out.lt; have h2 : w8.heap.size = b := Option.some.inj hb; have h3 := SZ8.out; omega)
  exact ⟨⟨_, tx, rfl, HTX.out, PZ.mono B2.out.size⟩, B10.out.trans (oz.out.below S1.out B10.out.size)⟩
end Go.Proofs.YtbjbgneejdjniaaGreatDoor

namespace Go.Proofs.YtbjbgneejdjniaaGreatDoor
open Go.RowKit Cod
theorem renc_ack (a : Ak) (ha : a.wf) (v : Value) (w : World) (h : CodAt w v (treeA a [])) :
    Calls Tryz.prog 48 #[v] w fun e w' => (∃ u, e = .returned (.tuple #[u, .int .i64 0]) ∧ Owns w' w.heap.size u (encA a [])) ∧ Below w.heap.size w w' := by
  have CT := chkT_lst (fldA_form a []) (fldA_depth a [])
  have E := rcencode_any (lstT (fldA a [])) v w CT.2 h (Nat.le_trans (encA_len a ha [] (fun z hz => absurd hz List.not_mem_nil) (by decide)) (by decide))
  refine E.mono fun e w' h2 => ?_
  unfold EncPost at h2
  rw [if_pos CT.1] at h2
  exact h2
theorem Owns.none0 {w : World} {base B : Nat} (hb : base ≤ B) (h : w.heap[B]? = some (.cells #[] 5)) : Owns w base (.slice (some ⟨B, 0, none⟩) 0 0) [] :=
  ⟨by simp, .inr ⟨B, 0, #[], rfl, hb, h, Nat.le_refl _, by decide, by simp, by simp⟩⟩
set_option maxRecDepth 100000 in
set_option maxHeartbeats 4000000 in
theorem rmessage_any (a : Ak) (ha : a.wf) (w : World) :
    Calls Tryz.prog 24 #[.agg (rowF 38 (akC a))] w fun e w' => (∃ v, e = .returned v ∧ BytesAt w' v (msgA a)) ∧ Below w.heap.size w w' := by
  have WA := Lib.hid ha
  have EL := Lib.hid (encA_len a ha [] (fun z hz => absurd hz List.not_mem_nil) (by decide))
  have G := Lib.hid (fun v W (h : BytesAt W v (encA a [])) => reftagged_any ⟨#[97, 99, 107]⟩ v _ W (by decide) (Nat.le_trans EL.out (by decide)) h)
  clear ha
  go_enter Tryz.func24, Tryz.ntmps24
  have B0 := Lib.hid (Below.refl w.heap.size w)
  go_upto_region 1 with fail
  obtain ⟨w1, hw1⟩ : ∃ y, w.alloc (.cells (rowF 38 (akC a)) 27) = y := ⟨_, rfl⟩
  have b1 : Below w.heap.size w w1 := by rw [← hw1]; exact (Below.refl _ _).alloc (Nat.le_refl _) _
  have A1 : Hid (RowV w1 w.heap.size 27 38 (akC a)) := Lib.hid (by rw [← hw1]; exact RowV.new w _ 38 (akC a))
  have z1 : w.heap.size + 1 = w1.heap.size := by rw [← hw1]; exact (Array.size_push _).symm
  rw [hw1]
  (try rw [z1])
  have B1 := Lib.hid (B0.out.trans (b1.mono B0.out.size))
  clear b1 hw1 z1 B0
  go_wp2_with (first | ((with_reducible (show wpList _ _ _ (Oper.mk (some 7) _ _ _ _ _ :: _) _ _)); refine wpList_load_rowV rfl 27 (.tmp 1) rfl w.heap.size rfl 38 27 _ A1.out _ Tryz.underlying27 rfl (by kernel_rfl) ?_))
  refine (rlist33_any a WA.out _).mono ?_
  rintro e w2 ⟨⟨u, tx, rfl, htx, own⟩, b2⟩
  have C2 := Lib.hid (CodAt.ack WA.out htx own)
  have B2 := Lib.hid (B1.out.trans (b2.mono B1.out.size))
  clear own htx b2 B1 A1
  go_wp2_with fail
  refine (renc_ack a WA.out _ w2 C2.out).mono ?_
  rintro e w3 ⟨⟨v, rfl, o3⟩, b3⟩
  have B3 := Lib.hid (B2.out.trans (b3.mono B2.out.size))
  have Y3 := Lib.hid (o3.bytesAt (by have := EL.out; omega))
  obtain ⟨va, vc, rfl⟩ := o3.slice
  clear o3 b3 B2 C2
  go_wp2_with fail
  refine (G.out _ _ Y3.out).mono ?_
  rintro e w4 ⟨rfl, b4⟩
  have B4 := Lib.hid (B3.out.trans (b4.mono B3.out.size))
  clear b4 B3 Y3 G
  have S4 := Lib.hid B4.out.size
  have Zr := Lib.hid (RowV.new w4 23 32 (fun _ => vB 0))
  go_upto_region 3 with ((with_reducible (show wpList _ _ _ (Oper.mk none _ _ _ _ _ :: _) _ _)); refine wpList_store_rowV (o := ⟨none, .store 23 (.tmp 5) (.tmp 13), _, _, _, _⟩) rfl 23 (.tmp 5) (.tmp 13) rfl w4.heap.size rfl 32 23 _ (fun j => vB ((msgA a).getD j 0)) rfl Zr.out (by kernel_rfl) (fun _ _ => rfl) ?_; intro w5 D5 o5)
  have b5 : Below w4.heap.size w4 w5 := ((Below.refl _ _).alloc (Nat.le_refl _) _).trans (o5.out.below (Nat.le_refl _) (by rw [World.size_alloc]; omega))
  have B5 := Lib.hid (B4.out.trans (b5.mono B4.out.size))
  clear b5 o5 Zr B4
  have Y := Lib.hid (D5.out.bytesAt (msgA_len a) (by decide) (by decide))
  go_wp2_with (first | ((with_reducible (show wpList _ _ _ (Oper.mk (some 16) _ _ _ _ _ :: _) _ _)); refine Hid.out ?_))
  refine Lib.hid ?_
  have al := (Below.refl _ w5).alloc (Nat.le_refl _) (.cells #[] 5)
  have R := Owns.none0 (w := w5.alloc (.cells #[] 5)) (base := w5.heap.size) (Nat.le_refl _) (MapKept.heap_alloc w5 _).1
  obtain ⟨w6, hw⟩ : ∃ y, w5.alloc (.cells #[] 5) = y := ⟨_, rfl⟩
  rw [hw] at al R ⊢
  have B6 := Lib.hid (B5.out.trans (al.mono B5.out.size))
  have Y6 := Lib.hid (Y.out.below al)
  have S5 := Lib.hid B5.out.size
  have S6 := Lib.hid al.size
  have R6 := Lib.hid R
  clear al R hw Y D5 B5
  refine wpList_app_bytes rfl (.tmp 14) (.tmp 15) rfl w5.heap.size _ _ [] (msgA a) rfl rfl R6.out Y6.out (by rw [msgA_len]; decide) S6.out ?_
  intro v7 w7 O7 s7
  have b7 := below_app s7.out (Nat.le_trans S5.out S6.out) (fun k hk => by have := (World.ownsRow.lt R6.out k hk).1; have := S5.out; omega)
  have B7 := Lib.hid (B6.out.trans b7)
  have Y7 := Lib.hid (O7.out.bytesAt (by simp only [List.nil_append, msgA_len]; decide))
  obtain ⟨va7, vc7, rfl⟩ := O7.out.slice
  clear b7 s7 O7 R6 Y6 B6
  rw [List.nil_append] at Y7 ⊢
  go_wp2_with fail
  go_ret
  exact ⟨⟨_, rfl, Y7.out⟩, B7.out⟩
set_option maxRecDepth 100000 in
set_option maxHeartbeats 4000000 in
theorem rcheck33_any (a : Ak) (ha : a.wf) (p : Int) (w : World) :
    Calls Tryz.prog 9 #[.agg (rowF 38 (akC a)), .int .i64 p] w fun e w' => e = .returned (.int .i64 (ckA a p)) ∧ Below w.heap.size w w' := by
  have F := Lib.hid (fun W => r33formed_any a.f a.d a.s a.u W)
  have M := Lib.hid (fun W => rmessage_any a ha W)
  have V := Lib.hid (fun v W (h : BytesAt W v (msgA a)) => rverify_any p a.r a.g v _ W (by rw [msgA_len]; decide) h)
  obtain ⟨ok, hok⟩ : ∃ y, okA a = y := ⟨_, rfl⟩
  have CK : Hid (ckA a p = if ok then (if verB p (msgA a) a.r a.g then 0 else 222) else 330) := Lib.hid (by unfold ckA; rw [hok])
  rw [show okA ⟨a.f, a.d, a.s, a.u, z32, 0, 0⟩ = okA a from rfl, hok] at F
  clear hok
  go_enter Tryz.func9, Tryz.ntmps9
  have B0 := Lib.hid (Below.refl w.heap.size w)
  go_upto_region 1 with fail
  obtain ⟨w1, hw1⟩ : ∃ y, w.alloc (.cells (rowF 38 (akC a)) 27) = y := ⟨_, rfl⟩
  have b1 : Below w.heap.size w w1 := by rw [← hw1]; exact (Below.refl _ _).alloc (Nat.le_refl _) _
  have A1 : Hid (RowV w1 w.heap.size 27 38 (akC a)) := Lib.hid (by rw [← hw1]; exact RowV.new w _ 38 (akC a))
  have z1 : w.heap.size + 1 = w1.heap.size := by rw [← hw1]; exact (Array.size_push _).symm
  rw [hw1]
  (try rw [z1])
  have B1 := Lib.hid (B0.out.trans (b1.mono B0.out.size))
  clear b1 hw1 z1 B0
  have x0 : w1.cell? ⟨w.heap.size, 0, none⟩ = some (Value.int .i64 a.f) := ak_cell A1.out (i := 0) (by decide) (by decide)
  have x1 : w1.cell? ⟨w.heap.size, 1, none⟩ = some (Value.int .i64 a.d) := ak_cell A1.out (i := 1) (by decide) (by decide)
  have x2 : w1.cell? ⟨w.heap.size, 2, none⟩ = some (Value.int .i64 a.s) := ak_cell A1.out (i := 2) (by decide) (by decide)
  have x3 : w1.cell? ⟨w.heap.size, 3, none⟩ = some (Value.int .i64 a.u) := ak_cell A1.out (i := 3) (by decide) (by decide)
  go_wp2_with fail
  refine (F.out _).mono ?_
  rintro e w2 ⟨rfl, b2⟩
  have A2 := Lib.hid (A1.out.below b2)
  have B2 := Lib.hid (B1.out.trans (b2.mono B1.out.size))
  clear b2 A1 B1 F x0 x1 x2 x3
  cases ok
  · have CK1 : Hid (ckA a p = 330) := CK
    clear CK
    go_wp2_with fail
    go_ret
    exact ⟨by rw [CK1.out]; rfl, B2.out⟩
  · have CK1 : Hid (ckA a p = if verB p (msgA a) a.r a.g then 0 else 222) := CK
    clear CK
    go_upto_region 3 with fail
    refine Tc.wp_region_plan (Tc.Rl.stay (fun k => k = w.heap.size)) 7 [] (.fl 0 (.fl 1 (.fl 3 (.fl 4 (.one 2 (.one 5 (.fl 6 .done))))))) (by kernel_rfl) (by kernel_rfl) ?_
    intro w4 b4 e4
    have A4 := Lib.hid (A2.out.below b4)
    have B4 := Lib.hid (B2.out.trans (b4.mono B2.out.size))
    clear b4 e4 A2 B2
    refine Tc.plan_floats [0, 1, 3, 4] [_, _, _, _] rfl ?_
    dsimp only [List.getElem_toArray, List.getElem_cons_succ, List.getElem_cons_zero]
    repeat (go_big_quiet_want; go_big_quiet_op; first | go_big_quiet_on | (refine ⟨_, fun _ _ => rfl, ?_⟩; go_big_quiet_on))
    refine wpQuiet_load_part rfl 27 (.tmp 2) rfl w.heap.size 0 rfl 38 38 27 (akC a) (akC a) (fun W hW => stay_row (S := fun k => k = w.heap.size) A4.out rfl hW) (by decide) (fun j _ => by rw [Nat.zero_add]) _ Tryz.underlying27 rfl (by kernel_rfl) ?_
    simp only [Act.put, List.setIfInBounds_toArray, List.set_cons_succ, List.set_cons_zero]
    repeat (go_big_quiet_want; go_big_quiet_op; first | go_big_quiet_on | (refine ⟨_, fun _ _ => rfl, ?_⟩; go_big_quiet_on))
    refine wpQuiet_load_part rfl 25 (.tmp 18) rfl w.heap.size 36 rfl 38 2 27 (akC a) (fun i => if i = 0 then .int .i64 a.r else .int .i64 a.g) (fun W hW => stay_row (S := fun k => k = w.heap.size) A4.out rfl hW) (by decide) (fun j hj => by match j, hj with | 0, _ => rfl | 1, _ => rfl) _ Tryz.underlying25 rfl (by kernel_rfl) ?_
    simp only [Act.put, List.setIfInBounds_toArray, List.set_cons_succ, List.set_cons_zero]
    refine wpQuiet_nil ?_
    refine Tc.plan_one 2 rfl (fun K hK => ?_)
    go_wp2_with fail
    refine (M.out _).mono ?_
    rintro e w5 ⟨⟨v, rfl, y5⟩, b5⟩
    obtain ⟨va, vc, rfl⟩ := y5.slice
    have Y5 := Lib.hid y5
    have B5 := Lib.hid (B4.out.trans (b5.mono B4.out.size))
    have S5 := Lib.hid (Nat.lt_of_lt_of_le A4.out.lt b5.size)
    go_wp2_with fail
    refine hK _ _ (stay_below b5 (fun k hk => by subst hk; exact A4.out.lt)) ?_
    clear hK K b5 y5 B4 A4 M
    refine Tc.plan_one 5 rfl (fun K hK => ?_)
    go_wp2_with fail
    refine (V.out _ _ Y5.out).mono ?_
    rintro e w6 ⟨rfl, b6⟩
    have B6 := Lib.hid (B5.out.trans (b6.mono B5.out.size))
    obtain ⟨vb, hvb⟩ : ∃ y, verB p (msgA a) a.r a.g = y := ⟨_, rfl⟩
    rw [hvb] at CK1
    rw [hvb]
    go_wp2_with fail
    refine hK _ _ (stay_below b6 (fun k hk => by subst hk; exact S5.out)) ?_
    clear hK K b6 hvb B5 Y5 V
    cases vb
    · have CK2 : Hid (ckA a p = 222) := CK1
      clear CK1
      refine Tc.plan_floats [6] [_] rfl ?_
      dsimp only [List.getElem_toArray, List.getElem_cons_succ, List.getElem_cons_zero]
      repeat (go_big_quiet_want; go_big_quiet_op; first | go_big_quiet_on | (refine ⟨_, fun _ _ => rfl, ?_⟩; go_big_quiet_on))
      refine wpQuiet_nil ?_
      refine Tc.plan_done (l := []) rfl (fun K hK => ?_)
      go_wp2_with fail
      go_ret
      exact ⟨by rw [CK2.out]; rfl, B6.out⟩
    · have CK2 : Hid (ckA a p = 0) := CK1
      clear CK1
      refine Tc.plan_floats [6] [_] rfl ?_
      dsimp only [List.getElem_toArray, List.getElem_cons_succ, List.getElem_cons_zero]
      repeat (go_big_quiet_want; go_big_quiet_op; first | go_big_quiet_on | (refine ⟨_, fun _ _ => rfl, ?_⟩; go_big_quiet_on))
      refine wpQuiet_nil ?_
      refine Tc.plan_done (l := []) rfl (fun K hK => ?_)
      go_wp2_with fail
      go_ret
      exact ⟨by rw [CK2.out]; rfl, B6.out⟩
set_option maxRecDepth 100000 in
set_option maxHeartbeats 8000000 in
theorem rmake_any (f d s u : Int) (ch : List UInt8) (x : Int) (hf : i64B f) (hd : i64B d) (hs : i64B s) (hu : i64B u) (hc : ch.length = 32) (w : World) :
    Calls Tryz.prog 7 #[.int .i64 f, .int .i64 d, .int .i64 s, .int .i64 u, .agg (rowF 32 (dgF ch)), .int .i64 x] w fun e w' => e = .returned (.tuple #[.agg (rowF 38 (akC (mkV f d s u ch x))), .int .i64 (mkE f d s u ch x)]) ∧ Below w.heap.size w w' := by
  have W0 : Hid (Ak.wf ⟨f, d, s, u, ch, 0, 0⟩) := Lib.hid ⟨hf, hd, hs, hu, hc, i64B_0, i64B_0⟩
  clear hf hd hs hu hc
  obtain ⟨ak, hak⟩ : ∃ y : Ak, (⟨f, d, s, u, ch, 0, 0⟩ : Ak) = y := ⟨_, rfl⟩
  have HAK := Lib.hid hak
  have F := Lib.hid (fun W => r33formed_any f d s u W)
  rw [show okA ⟨f, d, s, u, z32, 0, 0⟩ = okA ⟨f, d, s, u, ch, 0, 0⟩ from rfl] at F
  have M := Lib.hid (fun W => rmessage_any ⟨f, d, s, u, ch, 0, 0⟩ W0.out W)
  have SG := Lib.hid (fun v W (h : BytesAt W v (msgA ⟨f, d, s, u, ch, 0, 0⟩)) => rsign_any x v _ W (by rw [msgA_len]; decide) h)
  have P2 := Lib.hid (pubE_two x)
  have VE : Hid (mkE f d s u ch x = if okA ⟨f, d, s, u, ch, 0, 0⟩ then pubE x else 330) := Lib.hid rfl
  have VV : Hid (mkV f d s u ch x = if mkE f d s u ch x = 0 then ⟨(⟨f, d, s, u, ch, 0, 0⟩ : Ak).f, (⟨f, d, s, u, ch, 0, 0⟩ : Ak).d, (⟨f, d, s, u, ch, 0, 0⟩ : Ak).s, (⟨f, d, s, u, ch, 0, 0⟩ : Ak).u, (⟨f, d, s, u, ch, 0, 0⟩ : Ak).ch, sgR x (msgA ⟨f, d, s, u, ch, 0, 0⟩), sgS x (msgA ⟨f, d, s, u, ch, 0, 0⟩)⟩ else ak0) := Lib.hid rfl
  obtain ⟨rv, hrv⟩ : ∃ y, mkV f d s u ch x = y := ⟨_, rfl⟩
  obtain ⟨re, hre⟩ : ∃ y, mkE f d s u ch x = y := ⟨_, rfl⟩
  rw [hrv, hre] at VV
  rw [hre] at VE
  rw [hrv, hre]
  rw [hak] at F M SG VE VV
  obtain ⟨ok, hok⟩ : ∃ y, okA ak = y := ⟨_, rfl⟩
  obtain ⟨pe, hpe⟩ : ∃ y, pubE x = y := ⟨_, rfl⟩
  rw [hok] at F VE
  rw [hpe] at SG P2 VE
  clear hak hrv hre hok hpe W0
  go_enter Tryz.func7, Tryz.ntmps7
  have B0 := Lib.hid (Below.refl w.heap.size w)
  go_upto_region 1 with fail
  obtain ⟨w1, hw1⟩ : ∃ y, w.alloc (.cells (rowF 32 (dgF ch)) 23) = y := ⟨_, rfl⟩
  have b1 : Below w.heap.size w w1 := by rw [← hw1]; exact (Below.refl _ _).alloc (Nat.le_refl _) _
  have C1 : Hid (RowV w1 w.heap.size 23 32 (dgF ch)) := Lib.hid (by rw [← hw1]; exact RowV.new w _ 32 (dgF ch))
  have z1 : w.heap.size + 1 = w1.heap.size := by rw [← hw1]; exact (Array.size_push _).symm
  rw [hw1]
  (try rw [z1])
  have B1 := Lib.hid (B0.out.trans (b1.mono B0.out.size))
  clear b1 hw1 z1 B0
  have L1 := Lib.hid C1.out.lt
  obtain ⟨w2, hw2⟩ : ∃ y, w1.alloc (.cells #[.int .i64 0, .int .i64 0, .int .i64 0, .int .i64 0, .int .u8 0, .int .u8 0, .int .u8 0, .int .u8 0, .int .u8 0, .int .u8 0, .int .u8 0, .int .u8 0, .int .u8 0, .int .u8 0, .int .u8 0, .int .u8 0, .int .u8 0, .int .u8 0, .int .u8 0, .int .u8 0, .int .u8 0, .int .u8 0, .int .u8 0, .int .u8 0, .int .u8 0, .int .u8 0, .int .u8 0, .int .u8 0, .int .u8 0, .int .u8 0, .int .u8 0, .int .u8 0, .int .u8 0, .int .u8 0, .int .u8 0, .int .u8 0, .int .i64 0, .int .i64 0] 27) = y := ⟨_, rfl⟩
  have b2 : Below w1.heap.size w1 w2 := by rw [← hw2]; exact (Below.refl _ _).alloc (Nat.le_refl _) _
  have Z2 : Hid (RowV w2 w1.heap.size 27 38 (akC ak0)) := Lib.hid (by rw [← hw2]; exact RowV.new w1 _ 38 (akC ak0))
  have z2 : w1.heap.size + 1 = w2.heap.size := by rw [← hw2]; exact (Array.size_push _).symm
  rw [hw2]
  (try rw [z2])
  have B2 := Lib.hid (B1.out.trans (b2.mono B1.out.size))
  have C2 := Lib.hid (C1.out.below b2)
  clear b2 hw2 z2 B1 C1
  have L2 := Lib.hid Z2.out.lt
  go_wp2_with fail
  refine (F.out _).mono ?_
  rintro e w3 ⟨rfl, b3⟩
  have B3 := Lib.hid (B2.out.trans (b3.mono B2.out.size))
  have C3 := Lib.hid (C2.out.below b3)
  have Z3 := Lib.hid (Z2.out.below b3)
  clear b3 B2 C2 Z2
  clear F
  cases ok
  · obtain rfl : re = 330 := VE.out
    obtain rfl : rv = ak0 := by rw [VV.out, if_neg (by decide)]
    go_wp2_with (first | ((with_reducible (show wpList _ _ _ (Oper.mk none _ _ _ _ _ :: _) _ _)); refine Hid.out ?_))
    refine Lib.hid ?_
    refine wpList_store_rowV rfl 27 (.tmp 12) (.tmp 23) rfl w1.heap.size rfl 38 _ _ _ rfl (Z3.out) (by kernel_rfl) (fun j _ => akC_one ak0 j) ?_
    intro w9 Z9 O9
    go_wp2_with fail
    refine bodyPost_ret (v := .tuple #[.agg (rowF 38 (akC ak0)), .int .i64 330]) (by exact results_rowV2 (fn := Tryz.f7) (p := 12) (u := 13) (ty := 27) rfl _ _ w1.heap.size 38 27 _ _ rfl Z9.out Tryz.underlying27 rfl (by kernel_rfl)) rfl ⟨rfl, ?_⟩
    exact B3.out.trans (O9.out.below (Nat.le_of_lt L1.out) B3.out.size)
  · have VE2 : Hid (re = pe) := VE
    clear VE
    go_wp2_with (first | ((with_reducible (show wpList _ _ _ (Oper.mk (some 28) _ _ _ _ _ :: _) _ _)); refine Hid.out ?_))
    refine Lib.hid ?_
    refine wpList_load_rowV rfl 23 (.tmp 10) rfl w.heap.size rfl 32 23 _ C3.out _ Tryz.underlying23 rfl (by kernel_rfl) ?_
    go_wp2_with (first | ((with_reducible (show wpList _ _ _ (Oper.mk (some 29) _ _ _ _ _ :: _) _ _)); refine Hid.out ?_))
    refine Lib.hid ?_
    refine wpList_build rfl 27 _ rfl (ackParts f d s u ch) (by simp only [List.map_toArray, List.map_cons, List.map_nil]; rfl) _ (build_ack f d s u ch _) ?_
    rw [HAK.out]
    clear C3
    have L3 := Lib.hid Z3.out.lt
    have Zr := Lib.hid (RowV.new w3 27 38 (akC ak0))
    go_upto_region 4 with ((with_reducible (show wpList _ _ _ (Oper.mk none _ _ _ _ _ :: _) _ _)); refine wpList_store_rowV (o := ⟨none, .store 27 (.tmp 14) (.tmp 29), _, _, _, _⟩) rfl 27 (.tmp 14) (.tmp 29) rfl w3.heap.size rfl 38 27 _ (akC ak) rfl Zr.out (by kernel_rfl) (fun j _ => akC_one ak j) ?_; intro w4 X4 o4)
    have b4 : Below w3.heap.size w3 w4 := ((Below.refl _ _).alloc (Nat.le_refl _) _).trans (o4.out.below (Nat.le_refl _) (by rw [World.size_alloc]; omega))
    have B4 := Lib.hid (B3.out.trans (b4.mono B3.out.size))
    have Z4 := Lib.hid (Z3.out.below b4)
    clear b4 o4 Zr B3 Z3
    have L4 := Lib.hid X4.out.lt
    go_wp2_with (first | ((with_reducible (show wpList _ _ _ (Oper.mk (some 32) _ _ _ _ _ :: _) _ _)); refine Hid.out ?_))
    refine Lib.hid ?_
    refine wpList_load_rowV rfl 27 (.tmp 14) rfl w3.heap.size rfl 38 _ _ (X4.out) _ Tryz.underlying27 rfl (by kernel_rfl) ?_
    go_wp2_with fail
    refine (M.out _).mono ?_
    rintro e w5 ⟨⟨v, rfl, y5⟩, b5⟩
    obtain ⟨va, vc, rfl⟩ := y5.slice
    have Y5 := Lib.hid y5
    have X5 := Lib.hid (X4.out.below b5)
    have Z5 := Lib.hid (Z4.out.below b5)
    have B5 := Lib.hid (B4.out.trans (b5.mono B4.out.size))
    clear y5 b5 X4 Z4 B4 M
    go_wp2_with fail
    refine (SG.out _ _ Y5.out).mono ?_
    rintro e w6 ⟨rfl, b6⟩
    have X6 := Lib.hid (X5.out.below b6)
    have Z6 := Lib.hid (Z5.out.below b6)
    have B6 := Lib.hid (B5.out.trans (b6.mono B5.out.size))
    clear b6 X5 Z5 B5 SG Y5
    obtain ⟨sr, hsr⟩ : ∃ y, sgR x (msgA ak) = y := ⟨_, rfl⟩
    obtain ⟨ss, hss⟩ : ∃ y, sgS x (msgA ak) = y := ⟨_, rfl⟩
    rw [hsr, hss] at VV ⊢
    clear hsr hss
    have Zr := Lib.hid (RowV.new w6 25 2 (fun _ => .int .i64 0))
    go_upto_region 5 with ((with_reducible (show wpList _ _ _ (Oper.mk none _ _ _ _ _ :: _) _ _)); refine wpList_store_rowV (o := ⟨none, .store 25 (.tmp 15) (.tmp 35), _, _, _, _⟩) rfl 25 (.tmp 15) (.tmp 35) rfl w6.heap.size rfl 2 25 _ (fun j => if j = 0 then Value.int .i64 sr else .int .i64 ss) rfl Zr.out (by kernel_rfl) (fun j _ => by show (if j = 0 then _ else _ : Value).oneCell' = true; split <;> rfl) ?_; intro w7 G7 o7)
    have b7 : Below w6.heap.size w6 w7 := ((Below.refl _ _).alloc (Nat.le_refl _) _).trans (o7.out.below (Nat.le_refl _) (by rw [World.size_alloc]; omega))
    have B7 := Lib.hid (B6.out.trans (b7.mono B6.out.size))
    have X7 := Lib.hid (X6.out.below b7)
    have Z7 := Lib.hid (Z6.out.below b7)
    clear b7 o7 Zr B6 X6 Z6
    rcases P2.out with h0 | h0
    · subst h0
      obtain rfl : re = 0 := VE2.out
      obtain rfl := VV.out
      go_wp2_with (first | ((with_reducible (show wpList _ _ _ (Oper.mk (some 41) _ _ _ _ _ :: _) _ _)); refine Hid.out ?_))
      refine Lib.hid ?_
      refine wpList_load_rowV rfl 25 (.tmp 15) rfl w6.heap.size rfl 2 _ _ (G7.out) _ Tryz.underlying25 rfl (by kernel_rfl) ?_
      go_wp2_with (first | ((with_reducible (show wpList _ _ _ (Oper.mk none _ _ _ _ _ :: _) _ _)); refine Hid.out ?_))
      refine Lib.hid ?_
      refine wpList_store_part rfl 25 (.tmp 42) (.tmp 41) rfl w3.heap.size 36 rfl 38 2 _ _ (fun j => if j = 0 then Value.int .i64 sr else .int .i64 ss) (akC ⟨ak.f, ak.d, ak.s, ak.u, ak.ch, sr, ss⟩) rfl X7.out (by decide) (by kernel_rfl) (fun j _ => by show (if j = 0 then _ else _ : Value).oneCell' = true; split <;> rfl) (Ak.sig_cells ak sr ss) ?_
      intro w8 X8 O8
      have Z8 := Lib.hid (O8.out.row (show w1.heap.size ≠ w3.heap.size from fun e => by have := L2.out; have := L3.out; omega) Z7.out)
      have B8 := Lib.hid (B7.out.trans (O8.out.below (by have := L2.out; have := L1.out; have := L3.out; omega) B7.out.size))
      clear X7 O8 Z7 B7
      go_wp2_with (first | ((with_reducible (show wpList _ _ _ (Oper.mk (some 43) _ _ _ _ _ :: _) _ _)); refine Hid.out ?_))
      refine Lib.hid ?_
      refine wpList_load_rowV rfl 27 (.tmp 14) rfl w3.heap.size rfl 38 _ _ (X8.out) _ Tryz.underlying27 rfl (by kernel_rfl) ?_
      go_wp2_with (first | ((with_reducible (show wpList _ _ _ (Oper.mk none _ _ _ _ _ :: _) _ _)); refine Hid.out ?_))
      refine Lib.hid ?_
      refine wpList_store_rowV rfl 27 (.tmp 12) (.tmp 43) rfl w1.heap.size rfl 38 _ _ _ rfl (Z8.out) (by kernel_rfl) (fun j _ => akC_one _ j) ?_
      intro w9 Z9 O9
      go_wp2_with fail
      refine bodyPost_ret (v := .tuple #[.agg (rowF 38 (akC ⟨ak.f, ak.d, ak.s, ak.u, ak.ch, sr, ss⟩)), .int .i64 0]) (by exact results_rowV2 (fn := Tryz.f7) (p := 12) (u := 13) (ty := 27) rfl _ _ w1.heap.size 38 27 _ _ rfl Z9.out Tryz.underlying27 rfl (by kernel_rfl)) rfl ⟨rfl, ?_⟩
      exact B8.out.trans (O9.out.below (Nat.le_of_lt L1.out) B8.out.size)
    · subst h0
      obtain rfl : re = 50 := VE2.out
      obtain rfl : rv = ak0 := by rw [VV.out, if_neg (by decide)]
      go_wp2_with (first | ((with_reducible (show wpList _ _ _ (Oper.mk none _ _ _ _ _ :: _) _ _)); refine Hid.out ?_))
      refine Lib.hid ?_
      refine wpList_store_rowV rfl 27 (.tmp 12) (.tmp 39) rfl w1.heap.size rfl 38 _ _ _ rfl (Z7.out) (by kernel_rfl) (fun j _ => akC_one ak0 j) ?_
      intro w9 Z9 O9
      go_wp2_with fail
      refine bodyPost_ret (v := .tuple #[.agg (rowF 38 (akC ak0)), .int .i64 50]) (by exact results_rowV2 (fn := Tryz.f7) (p := 12) (u := 13) (ty := 27) rfl _ _ w1.heap.size 38 27 _ _ rfl Z9.out Tryz.underlying27 rfl (by kernel_rfl)) rfl ⟨rfl, ?_⟩
      exact B7.out.trans (O9.out.below (Nat.le_of_lt L1.out) B7.out.size)
end Go.Proofs.YtbjbgneejdjniaaGreatDoor
