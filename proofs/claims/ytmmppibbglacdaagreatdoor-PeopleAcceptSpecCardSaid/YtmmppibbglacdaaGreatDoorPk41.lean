/- Acknowledgements, members and entries that came in, opened; what is decoded fits. The statements' examples hold: sane. append onto an own slice of structs, the source nil, empty or not; an own slice without cells. regions that draw: what lies below a fixed number stays (every step of the region is Below it). The reference: a list of numbers as a value; a certificate's message, Certify. slices.SortFunc of listings, twelve or fewer: insertion sort. -/
import Derived.Test.YtmmppibbglacdaaGreatDoorPk36
import Derived.Test.YtmmppibbglacdaaGreatDoorPk37
import Derived.Deep.Slices
import Derived.Test.YtmmppibbglacdaaGreatDoorPk40
import Derived.Test.YtmmppibbglacdaaGreatDoorPk44
import Derived.Test.YtmmppibbglacdaaGreatDoorPk17
set_option linter.unusedVariables false
set_option linter.unusedSimpArgs false
namespace Go.Proofs.YtmmppibbglacdaaGreatDoor
open Go.ChangeShapes Go.WideShapes Go.ChangeAt Go.RowKit Cod
section
variable {H : Type} {enc : TypeId × Value → H} {W : World} {fuel : Nat} {cs : List Value} {x : DataW H × List MemPlace}
theorem drop_one {l : List Value} {i : Nat} {v : Value} (h : (l.drop i).take 1 = [v]) : l[i]? = some v := by
  have := congrArg (·[0]?) h
  simpa [List.getElem?_take, List.getElem?_drop] using this
theorem i64B_of {z : Int} (h : (Lit.int .i64 z).wf = true) : i64B z := by have := i64_bd h; unfold i64B; omega
theorem cells_eq {cs : List Value} {s : Nat} {c : Nat → Value} (hl : cs.length = s) (h : ∀ i, i < s → cs[i]? = some (c i)) : cs = (List.range s).map c := by
  apply List.ext_getElem?
  intro i
  by_cases hi : i < s
  · rw [h i hi, List.getElem?_map, List.getElem?_range hi]; rfl
  · rw [List.getElem?_eq_none (by omega), List.getElem?_eq_none (by simp; omega)]
theorem field_at {fs : Array Field} {cs : List Value} {xs : List (DataW H × List MemPlace)} {n : Nat} (hlen : xs.length = fs.size)
    (hf : ∀ (i : Nat) (f : Field), fs[i]? = some f → DataW.trod enc Tryz.prog W 0 (fun _ => true) true n f.type ((cs.drop f.offset).take (Tryz.prog.cellsOf f.type)) = xs[i]?)
    (i o c : Nat) (T : TypeId) {f : Field} (hi : fs[i]? = some f) (ht : f.type = T) (ho : f.offset = o) (hc : Tryz.prog.cellsOf T = c) : ∃ y, DataW.trod enc Tryz.prog W 0 (fun _ => true) true n T ((cs.drop o).take c) = some y := by
  have h1 := hf i f hi
  have hil : i < fs.size := (Array.getElem?_eq_some_iff.1 hi).1
  rw [List.getElem?_eq_getElem (by omega), ht, ho, hc] at h1
  exact ⟨_, h1⟩
theorem field_int {fs : Array Field} {cs : List Value} {xs : List (DataW H × List MemPlace)} {n : Nat} (hlen : xs.length = fs.size)
    (hf : ∀ (i : Nat) (f : Field), fs[i]? = some f → DataW.trod enc Tryz.prog W 0 (fun _ => true) true n f.type ((cs.drop f.offset).take (Tryz.prog.cellsOf f.type)) = xs[i]?)
    (i o : Nat) {f : Field} (hi : fs[i]? = some f) (ht : f.type = 3) (ho : f.offset = o) : ∃ z, cs[o]? = some (.int .i64 z) ∧ i64B z := by
  obtain ⟨y, h1⟩ := field_at hlen hf i o 1 3 hi ht ho (by kernel_rfl)
  obtain ⟨z, e1, _, e3⟩ := DataW.trod_int Tryz.underlying3 h1
  exact ⟨z, drop_one e1, i64B_of e3⟩
set_option maxRecDepth 100000 in
/-- a slice of structs that came in -/
theorem slice_open {α : Type} {T e : TypeId} {s : Nat} {c : α → Nat → Value} {good : α → Prop} (d0 : α) (ht : Tryz.prog.underlying T = some (.slice e)) (hc : Tryz.prog.cellsOf e = s) (hs0 : 0 < s)
    (hel : ∀ n cs x, DataW.trod enc Tryz.prog W 0 (fun _ => true) true n e cs = some x → ∃ a : α, good a ∧ cs = (List.range s).map (c a))
    {v : Value} {d : DataW H} {p : List MemPlace} {base : Nat}
    (hok : Value.okWide Tryz.prog W .any base T v) (hj : DataW.Trod enc Tryz.prog W 0 (fun _ => true) true T v d p)
    (hs : ∀ elems spare, d = .slice elems spare → elems.length + spare.length ≤ reachBytes) :
    ∃ l : List α, (∀ a ∈ l, good a) ∧ SlAt s W v l.length (fun i => c (l.getD i d0)) := by
  obtain ⟨a, len, cap, rfl⟩ := okWide_slice ht hok
  obtain ⟨fuel, hf⟩ := hj
  rcases Deep.open_slice ht hf with ⟨hcs, _⟩ | ⟨x, l, cp, m, n, D, Pl, hcs, _, hl, hm, hmm, hx, hi⟩
  · simp [Value.cells] at hcs
    obtain ⟨rfl, rfl, rfl⟩ := hcs
    exact ⟨[], (fun a h => by cases h), .inl ⟨⟨none, 0, rfl, fun _ => rfl⟩, rfl⟩⟩
  · simp [Value.cells] at hcs
    obtain ⟨rfl, rfl, rfl⟩ := hcs
    obtain rfl : m = cap := by simpa using hmm
    simp only [Prod.mk.injEq] at hx
    have hr := hs _ _ hx.1
    simp only [List.length_map, List.length_range] at hr
    unfold reachBytes at hr
    unfold maxLen at hm
    rcases Nat.eq_zero_or_pos len with h0 | h0
    · subst h0
      exact ⟨[], (fun a h => by cases h), .inl ⟨⟨_, _, rfl, fun h => by cases h⟩, rfl⟩⟩
    have each : ∀ i, ∃ a : α, i < len → good a ∧ ∀ j, j < s → W.cell? (x.add (s * i + j)) = some (c a j) := by
      intro i
      by_cases hil : i < len
      · obtain ⟨cs', h1, h2⟩ := hi i (by omega)
        obtain ⟨a, hg, rfl⟩ := hel _ _ _ h2
        obtain ⟨_, _, hat⟩ := World.cells?_some h1
        refine ⟨a, fun _ => ⟨hg, fun j hj => ?_⟩⟩
        have h3 := hat j (by rw [hc]; exact hj)
        rw [Go.Deep.add_add, hc] at h3
        rw [Nat.mul_comm s i, h3, List.getElem?_map, List.getElem?_range hj]; rfl
      · exact ⟨d0, fun h => absurd h hil⟩
    obtain ⟨f, hf⟩ := Classical.axiomOfChoice each
    have hlt : ((List.range len).map f).length = len := by simp
    obtain ⟨b, off, spot⟩ := x
    have hc0 := (hf 0 h0).2 0 hs0
    have hspot : spot = none := by simpa [Addr.add] using World.cell?_spot hc0
    subst hspot
    have hb : b < W.heap.size := block_of_cell (show W.cell? ⟨b, off, none⟩ = some _ by simpa [Addr.add] using hc0)
    refine ⟨(List.range len).map f, fun a ha => ?_, .inr ⟨b, off, m, by rw [hlt], by rw [hlt]; omega, by rw [hlt]; omega, ⟨by rw [hlt]; omega, by omega⟩, hb, fun i hil j hj => ?_⟩⟩
    · obtain ⟨i, hi, rfl⟩ := List.mem_map.1 ha
      exact (hf i (List.mem_range.1 hi)).1
    · rw [hlt] at hil
      have h1 := (hf i hil).2 j hj
      show W.cell? _ = some (c (((List.range len).map f).getD i d0) j)
      rw [List.getD_eq_getElem?_getD, List.getElem?_map, List.getElem?_range hil]
      have h2 : (Addr.add ⟨b, off, none⟩ (s * i + j)) = ⟨b, off + s * i + j, none⟩ := by
        unfold Addr.add; simp [Nat.add_assoc]
      rw [h2] at h1
      exact h1
end
end Go.Proofs.YtmmppibbglacdaaGreatDoor

namespace Go.Proofs.YtmmppibbglacdaaGreatDoor
open Go.RowKit Cod
theorem sl_nil {s : Nat} {c : Nat → Nat → Value} (w : World) : SlAt s w (.slice none 0 0) 0 c := .inl ⟨⟨none, 0, rfl, fun _ => rfl⟩, rfl⟩
theorem slAt_row {w : World} {B s : Nat} {T : TypeId} {c : Nat → Nat → Value} (h : RowV w B T s (c 0)) : SlAt s w (.slice (some ⟨B, 0, none⟩) 1 1) 1 c :=
  .inr ⟨B, 0, 1, rfl, Nat.le_refl _, by omega, ⟨by omega, by omega⟩, h.lt, fun i hi j hj => by
    obtain rfl : i = 0 := by omega
    have := h.cell hj
    simpa using this⟩
theorem wpQuiet_unguard {P : Program} {C : World → Prop} {ops : Array Oper} {rest : List Oper} {o : Oper} {a : Act} {Q : Act → Prop} (hw : Region.wanted o (yielded ops a.tmps) = true)
    (h : wpQuiet P ops C Q ({ o with guard := none } :: rest) a) : wpQuiet P ops C Q (o :: rest) a := by
  unfold wpQuiet at h ⊢
  rw [if_pos hw]
  rw [if_pos (show Region.wanted { o with guard := none } (yielded ops a.tmps) = true from rfl)] at h
  exact h
theorem wpQuiet_binOp {P : Program} {C : World → Prop} {ops : Array Oper} {rest : List Oper} {o : Oper} {a : Act} {Q : Act → Prop} (hgd : o.guard = none) (op : BinOp) (T : TypeId) (x y : Operand) (T2 : TypeId) (ho : o.op = .binOp op T x y T2) (u v r : Value) (hx : a.eval x = u) (hy : a.eval y = v)
    (hg : ∀ W, (eqGuard op T x y u v).run P W = .ok () W) (hr : ∀ W, (binOp op T u v).run P W = .ok r W) (h : wpQuiet P ops C Q rest (a.put o.dst r)) : wpQuiet P ops C Q (o :: rest) a :=
  wpQuiet_val hgd r (fun W _ => by
    unfold execOp
    simp only [ho, hx, hy, Sem.run_bind, Sem.run_pure, Result.andThen_ok, hg, hr]) h
end Go.Proofs.YtmmppibbglacdaaGreatDoor

namespace Go.Proofs.YtmmppibbglacdaaGreatDoor
open Go.RowKit Cod
theorem run_append_nil {P : Program} (w : World) (base : Nat) (t ty e : TypeId) (i : TypeInfo) (size : Nat) (ht : P.underlying t = some (.slice e)) (hi : P.info? e = some i)
    (v : Value) (n : Nat) (xs : List Value) (hown : w.ownsRow base e size v n xs) (c : Nat) : (Builtin.append_ #[t, t] ty #[v, .slice none 0 c]).run P w = .ok v w := by
  rcases hown.2 with ⟨rfl, rfl⟩ | ⟨g, cap, cur, rfl, _, _, hnc, _⟩
  · simp [Builtin.append_, run_underlying ht, sizeOf, typeInfo, hi, Builtin.lenOf, Builtin.firstCells]
  · simp [Builtin.append_, run_underlying ht, sizeOf, typeInfo, hi, Builtin.lenOf, Builtin.firstCells, hnc, storeCells]
section
variable {α : Type} {T : TypeId} {s : Nat} {c : α → Nat → Value} {w w' : World} {base : Nat} {v : Value} {l : List α}
/-- an own slice that has no cells -/
theorem OwnT.none0 {B : Nat} (hb : base ≤ B) (h : w.heap[B]? = some (.cells #[] T)) : OwnT T s c w base (.slice (some ⟨B, 0, none⟩) 0 0) [] :=
  ⟨by simp [flatS], .inr ⟨B, 0, #[], rfl, hb, h, Nat.le_refl _, by decide, by simp, by simp [flatS]⟩⟩
theorem wpList_app_S {z : Value} {bytes : Nat} {t : TypeId} {ops : Array Oper} {rest : List Oper} {o : Oper} {a : Act} {Q : Exit → Act → World → Prop} (hgd : o.guard = none) (x y : Operand)
    (hinfo : (Tryz.prog.info? T).map (fun i => (i.zero, i.size, i.bytes)) = some (some z, s, bytes)) (ht : Tryz.prog.underlying t = some (.slice T)) (hz : z.cells.size = s) (hs : 0 < s) (hby : bytes ≤ 1000) (h1 : ∀ u j, (c u j).oneCell' = true) (d : α)
    (ho : o.op = .call { callee := .builtin .append, args := #[x, y], argTypes := #[t, t] })
    (base : Nat) (v : Value) (l : List α) (hx : a.eval x = v) (hown : OwnT T s c w base v l) (u : Value) (l2 : List α) (hy : a.eval y = u)
    (hc : SlAt s w u l2.length (fun i => c (l2.getD i d))) (hlen : l.length + l2.length ≤ 1000000) (hbase : base ≤ w.heap.size)
    (h : ∀ v' w', Hid (OwnT T s c w' base v' (l ++ l2)) → Hid (AppStep w v w' v') → wpList Tryz.prog ops Q rest (a.put o.dst v') w') : wpList Tryz.prog ops Q (o :: rest) a w := by
  obtain ⟨i0, hi, hz0, hz1, hz2⟩ := info_parts3 hinfo
  have fin : ∀ v' w', w'.ownsRow base T s v' (l.length + l2.length) (flatS s c l ++ flatS s c l2) → AppStep w v w' v' → wpList Tryz.prog ops Q rest (a.put o.dst v') w' := by
    intro v' w' h3 h4
    refine h v' w' ?_ h4
    unfold Hid OwnT
    rw [List.length_append, flatS_join]
    exact h3
  have news1 : ∀ x ∈ flatS s c l2, x.oneCell' = true := by
    intro u hu
    unfold flatS at hu
    obtain ⟨b, _, hb⟩ := List.mem_flatMap.1 hu
    obtain ⟨j, _, rfl⟩ := List.mem_map.1 hb
    exact h1 _ _
  rcases hc with ⟨⟨ad, k, rfl, _⟩, h0⟩ | ⟨b, off, cap, rfl, _, _, _, _, hcell⟩
  · obtain rfl : l2 = [] := List.eq_nil_of_length_eq_zero h0
    cases ad with
    | none =>
      refine wpList_plain hgd fun K hK => ?_
      have hr := run_append_nil (P := Tryz.prog) w base t o.type T i0 s ht hi v l.length (flatS s c l) hown k
      unfold Oper.wp execOp
      simp only [ho, resolve, invoke, builtin, Sem.run_bind, Sem.run_pure, Result.andThen_ok, List.map_toArray, List.map_cons, List.map_nil, hx, hy, hr]
      exact hK _ _ (fin v w (by rw [show flatS s c ([] : List α) = [] from rfl, List.append_nil]; exact hown) ⟨World.grownBy.refl w _, .inl rfl⟩)
    | some ad =>
      exact wpList_app hgd x y t ho base T i0 z s bytes ht hi hz0 hz1 hz2 hz hs v l.length (flatS s c l) hx hown ad 0 k (flatS s c ([] : List α)) hy (by simp [flatS]) (fun j u hj => by simp [flatS] at hj) news1 (by simp only [List.length_nil] at hlen; unfold maxLen; omega) (Nat.le_trans (Nat.mul_le_mul hlen hby) (by decide)) hbase fin
  · refine wpList_app hgd x y t ho base T i0 z s bytes ht hi hz0 hz1 hz2 hz hs v l.length (flatS s c l) hx hown ⟨b, off, none⟩ l2.length cap (flatS s c l2) hy (flatS_len l2) ?_ news1 (by unfold maxLen; omega) (Nat.le_trans (Nat.mul_le_mul hlen hby) (by decide)) hbase fin
    intro j u hj
    have hjl : j < l2.length * s := by have := (List.getElem?_eq_some_iff.1 hj).1; rwa [flatS_len] at this
    have hi : j / s < l2.length := (Nat.div_lt_iff_lt_mul hs).2 hjl
    have hm : j % s < s := Nat.mod_lt _ hs
    have e := Nat.div_add_mod j s
    have hg := flatS_get d (s := s) (c := c) l2 (j / s) (j % s) hi hm
    rw [e] at hg
    have h5 := hcell _ hi _ hm
    rw [Addr.add_mid, show off + j = off + s * (j / s) + j % s by omega, h5, ← hj]; exact hg.symm
end
theorem SlAt.app {s n : Nat} {c : Nat → Nat → Value} {w w' : World} {u v v' : Value} (h : SlAt s w u n c) (st : AppStep w v w' v') (hne : ∀ b, v.ownBlock = some b → ∀ k off, u = .slice (some ⟨b, off, none⟩) n k → n = 0) : SlAt s w' u n c := by
  rcases h with h | ⟨b, off, cap, h1, h2, h3, h4, h5, h6⟩
  · exact .inl h
  · have hb : v.ownBlock ≠ some b := fun e => by have := hne b e cap off h1; omega
    exact .inr ⟨b, off, cap, h1, h2, h3, h4, Nat.lt_of_lt_of_le h5 st.1.size, fun i hi j hj => (World.cell?_of_block (w := w) (w' := w') (a := ⟨b, off + s * i + j, none⟩) (st.block h5 hb)).trans (h6 i hi j hj)⟩
end Go.Proofs.YtmmppibbglacdaaGreatDoor

namespace Go.Proofs.YtmmppibbglacdaaGreatDoor
open Go.RowKit Cod
abbrev keep (n : Nat) : Tc.Rl := Tc.Rl.stay (fun k => k < n)
theorem keep_below {n : Nat} {w W : World} (b : Below n w W) : (keep n).r w W := fun k hk => b.block k hk
theorem row_keep {n : Nat} {w W : World} {g N : Nat} {T : TypeId} {f : Nat → Value} (h : RowV w g T N f) (hn : g < n) (hr : (keep n).r w W) : RowV W g T N f := stay_row (S := fun k => k < n) h hn hr
theorem cell_keep {n : Nat} {w W : World} {b off : Nat} {v : Value} (h : w.cell? ⟨b, off, none⟩ = some v) (hn : b < n) (hr : (keep n).r w W) : W.cell? ⟨b, off, none⟩ = some v := (stay_cell (S := fun k => k < n) hn hr).trans h
theorem below_app {n : Nat} {w w' : World} {v v' : Value} (st : AppStep w v w' v') (hn : n ≤ w.heap.size) (hb : ∀ k, v.ownBlock = some k → n ≤ k) : Below n w w' := (Below.refl n w).grown st.1 hn hb
end Go.Proofs.YtmmppibbglacdaaGreatDoor

namespace Go.Proofs.YtmmppibbglacdaaGreatDoor
open Go.RowKit Cod
theorem Owns.emp0 {w : World} {base B : Nat} (hb : base ≤ B) (h : w.heap[B]? = some (.cells #[] 5)) : Owns w base (.slice (some ⟨B, 0, none⟩) 0 0) [] :=
  ⟨by simp, .inr ⟨B, 0, #[], rfl, hb, h, Nat.le_refl _, by decide, by simp, by simp⟩⟩
set_option maxRecDepth 100000 in
set_option maxHeartbeats 8000000 in
theorem rints_any (zs : List Int) (v : Value) (w : World) (hv : IntsS w v zs) (hz : ∀ z ∈ zs, i64B z) (hl : zs.length ≤ 100) :
    Calls Tryz.prog 66 #[v] w fun e w' => (∃ u, e = .returned u ∧ CodAt w' u (lstT (zs.map numT))) ∧ Below w.heap.size w w' := by
  obtain ⟨va, vc, rfl⟩ := hv.slice
  have HV := Lib.hid hv
  have HZ := Lib.hid hz
  have HL := Lib.hid hl
  obtain ⟨n, hn⟩ : ∃ n, zs.length = n := ⟨_, rfl⟩
  have HN := Lib.hid hn
  rw [hn]
  clear hv hz hl hn
  go_enter Tryz.func66, Tryz.ntmps66
  have B0 := Lib.hid (Below.refl w.heap.size w)
  go_upto_region 1 with fail
  obtain ⟨w1, hw1⟩ : ∃ y, w.alloc (.cells #[.int .i64 0, .int .i64 0, .string ⟨#[]⟩, .slice none 0 0] 90) = y := ⟨_, rfl⟩
  have b1 : Below w.heap.size w w1 := by rw [← hw1]; exact (Below.refl _ _).alloc (Nat.le_refl _) _
  have Z1 : Hid (RowV w1 w.heap.size 90 4 (valC 0 0 ⟨#[]⟩ (.slice none 0 0))) := Lib.hid (by rw [← hw1]; exact RowV.new w _ 4 (valC 0 0 ⟨#[]⟩ (.slice none 0 0)))
  have z1 : w.heap.size + 1 = w1.heap.size := by rw [← hw1]; exact (Array.size_push _).symm
  rw [hw1]
  (try rw [z1])
  have B1 := Lib.hid (B0.out.trans (b1.mono B0.out.size))
  clear b1 hw1 z1 B0
  have ZL := Lib.hid Z1.out.lt
  go_upto_region 2 with fail
  obtain ⟨w2, hw2⟩ : ∃ y, w1.alloc (.cells #[.int .i64 3, .int .i64 0, .string ⟨#[]⟩, .slice none 0 0] 90) = y := ⟨_, rfl⟩
  have b2 : Below w1.heap.size w1 w2 := by rw [← hw2]; exact (Below.refl _ _).alloc (Nat.le_refl _) _
  have I2 : Hid (LstI w2 w1.heap.size (.slice none 0 0) [] w2) := Lib.hid (by rw [← hw2]; exact LstI.start w1)
  have z2 : w1.heap.size + 1 = w2.heap.size := by rw [← hw2]; exact (Array.size_push _).symm
  rw [hw2]
  (try rw [z2])
  have B2 := Lib.hid (B1.out.trans (b2.mono B1.out.size))
  have Z2 := Lib.hid (Z1.out.below b2)
  clear b2 hw2 z2 B1 Z1
  go_wp2_with fail
  have qn : (n : Int) ≤ 100 := by have := HL.out; have := HN.out; omega
  go_loopg [4] n (fun g s4 wx => ∃ (k : Nat) (sl : Value), k + g = n ∧ s4 = .int .i64 (k : Int) ∧ Hid (LstI w2 w1.heap.size sl ((zs.take k).map numT) wx))
  case atStart => exact ⟨0, .slice none 0 0, by omega, rfl, I2⟩
  case round =>
    obtain ⟨k, sl, hk, rfl, hI⟩ := hrel
    obtain ⟨w3, rfl⟩ : ∃ y, y = wr := ⟨_, rfl⟩
    have q0 : (0 : Int) ≤ (k : Int) := Int.natCast_nonneg k
    have B3 := Lib.hid (B2.out.trans (hI.out.only.below (K := w.heap.size) (by have := ZL.out; omega) (by have := ZL.out; have := I2.out.lt; omega)))
    by_cases hlt : k < n
    · have d0 : decide ((k : Int) < (n : Int)) = true := by rw [decide_eq_true_iff]; omega
      have d1 : decide (k < n) = true := by rw [decide_eq_true_iff]; omega
      have hv3 : SlAt 1 w (.slice va n vc) n (fun i _ => .int .i64 (zs.getD i 0)) := by
        have h := HV.out
        unfold IntsS at h
        rwa [HN.out] at h
      obtain ⟨b, off, rfl, hcap, hb, hc⟩ := SlAt.at_elem hv3 hlt
      have X0 : Hid (w3.cell? ⟨b, off + k, none⟩ = some (.int .i64 (zs.getD k 0))) := Lib.hid ((B3.out.cell (p := ⟨b, off + k, none⟩) hb).trans (by have := hc k hlt 0 (by decide); simpa using this))
      have HBW := Lib.hid (Nat.lt_of_lt_of_le hb B2.out.size)
      have HE : Hid ((zs.take (k + 1)).map numT = (zs.take k).map numT ++ [numT (zs.getD k 0)]) := Lib.hid (by
        rw [take_succ_getD 0 _ (show k < zs.length by rw [HN.out]; exact hlt), List.map_append]; rfl)
      have HB : Hid (i64B (zs.getD k 0)) := Lib.hid (by
        rw [List.getD_eq_getElem?_getD, List.getElem?_eq_getElem (show k < zs.length by rw [HN.out]; exact hlt)]
        exact HZ.out _ (List.getElem_mem _))
      obtain ⟨x, hx⟩ : ∃ x, zs.getD k 0 = x := ⟨_, rfl⟩
      rw [hx] at X0 HE HB
      obtain ⟨ts, hts⟩ : ∃ y, (zs.take k).map numT = y := ⟨_, rfl⟩
      have TL : Hid (ts.length ≤ 1000000) := Lib.hid (by rw [← hts]; simp only [List.length_map, List.length_take]; have := HL.out; omega)
      rw [hts] at HE hI
      obtain ⟨sa, sn, sc, rfl⟩ := hI.out.slice
      have HBL := Lib.hid (Nat.lt_of_lt_of_le hb B3.out.size)
      have HLT := Lib.hid hlt
      clear hx hts hv3 hc hb
      go_upto_region 5 with fail
      refine Tc.wp_region_plan (Tc.Rl.stay (fun j => j = w1.heap.size ∨ j = b)) 9 [] (.fl 0 (.fl 1 (.fl 2 (.fl 3 (.fl 4 (.fl 5 (.one 6 (.one 7 (.one 8 .done))))))))) (by kernel_rfl) (by kernel_rfl) ?_
      intro w4 b4 e4
      have I4 := Lib.hid (hI.out.later b4)
      have X4 := Lib.hid ((b4.cell (p := ⟨b, off + k, none⟩) HBL.out).trans X0.out)
      have BL4 := Lib.hid (Nat.lt_of_lt_of_le HBL.out b4.size)
      clear b4 e4 X0 hI
      refine Tc.plan_floats [0, 1, 2, 3, 4, 5] [_, _, _, _, _, _] rfl ?_
      dsimp only [List.getElem_toArray, List.getElem_cons_succ, List.getElem_cons_zero]
      repeat (go_big_quiet_want; go_big_quiet_op; first | go_big_quiet_on | (refine ⟨_, fun _ _ => rfl, ?_⟩; go_big_quiet_on))
      refine wpQuiet_load_cell rfl 88 (.tmp 12) rfl w1.heap.size 3 rfl _ Tryz.underlying88 rfl (.slice sa sn sc) (fun W hW => (stay_row (S := fun j => j = w1.heap.size ∨ j = b) I4.out.row (.inl rfl) hW).cell (i := 3) (by decide)) ?_
      simp only [Act.put, List.setIfInBounds_toArray, List.set_cons_succ, List.set_cons_zero]
      repeat (go_big_quiet_want; go_big_quiet_op; first | go_big_quiet_on | (refine ⟨_, fun _ _ => rfl, ?_⟩; go_big_quiet_on))
      refine wpQuiet_load_cell rfl 3 (.tmp 16) rfl b (off + k) rfl _ Tryz.underlying3 rfl (.int .i64 x) (fun W hW => (stay_cell (S := fun j => j = w1.heap.size ∨ j = b) (.inr rfl) hW).trans X4.out) ?_
      simp only [Act.put, List.setIfInBounds_toArray, List.set_cons_succ, List.set_cons_zero]
      refine wpQuiet_nil ?_
      clear X4
      refine Tc.plan_one 6 rfl (fun K hK => ?_)
      go_wp2_with fail
      refine (rint_any x _).mono ?_
      rintro e w5 ⟨rfl, b5⟩
      have I5 := Lib.hid (I4.out.later b5)
      have BL5 := Lib.hid (Nat.lt_of_lt_of_le BL4.out b5.size)
      go_wp2_with fail
      refine hK _ _ (stay_below b5 (fun j hj => by rcases hj with rfl | rfl; exact I4.out.row.lt; exact BL4.out)) ?_
      clear hK K b5 I4 BL4
      refine Tc.plan_one 7 rfl (fun K hK => ?_)
      go_wp2_with fail
      have al := (Below.refl _ w5).alloc (Nat.le_refl _) (.cells #[.int .i64 1, .int .i64 x, .string ByteArray.empty, .slice none 0 0] 90)
      have I6 := Lib.hid (I5.out.later al)
      have BL6 := Lib.hid (Nat.lt_of_lt_of_le BL5.out al.size)
      have G6 := Lib.hid (RowV.new w5 90 4 (valC 1 x ⟨#[]⟩ (.slice none 0 0)))
      refine hK _ _ (stay_below al (fun j hj => by rcases hj with rfl | rfl; exact I5.out.row.lt; exact BL5.out)) ?_
      obtain ⟨w6, hw6⟩ : ∃ y, w5.alloc (.cells #[.int .i64 1, .int .i64 x, .string ByteArray.empty, .slice none 0 0] 90) = y := ⟨_, rfl⟩
      rw [hw6] at I6 BL6 ⊢
      rw [show w5.alloc (.cells (rowF 4 (valC 1 x ⟨#[]⟩ (.slice none 0 0))) 90) = w6 from hw6] at G6
      clear hK K al hw6 I5 BL5
      refine Tc.plan_one 8 rfl (fun K hK => ?_)
      refine wpList_app_val rfl (.tmp 13) (.tmp 19) rfl w2.heap.size (.slice sa sn sc) _ rfl I6.out.own w5.heap.size 1 (valC 1 x ⟨#[]⟩ (.slice none 0 0)) (numT x) rfl G6.out (leafS _ _ HB.out) TL.out I6.out.size ?_
      intro v9 w9 L9 s9
      obtain ⟨a9, n9, c9, rfl⟩ := L9.out.slice3
      go_wp2_with fail
      have BL := Lib.hid (show w1.heap.size < w2.heap.size from I6.out.lt)
      refine hK _ _ (stay_app s9.out (fun j hj => ⟨by rcases hj with rfl | rfl; exact I6.out.row.lt; exact BL6.out, fun e => by have h1 := (I6.out.own.lt _ e).1; have h2 := BL.out; have h3 := HBW.out; rcases hj with rfl | rfl <;> omega⟩)) ?_
      obtain ⟨x9, f9⟩ := I6.out.mid s9.out
      have I9 := Lib.hid (I6.out.push L9.out s9.out)
      rw [← HE.out] at I9
      clear hK K L9 s9 I6 BL6 G6
      refine Tc.plan_done (l := [_, _]) rfl (fun K hK => ?_)
      go_wp2_with fail
      clear x9 f9
      go_roundg (gk - 1)
      case measure => have := HLT.out; omega
      case rel =>
        go_light
        exact ⟨k + 1, .slice a9 n9 c9, by have := HLT.out; omega, by go_num, I9⟩
    · obtain rfl : k = n := by omega
      have d0 : decide ((k : Int) < (k : Int)) = false := by rw [decide_eq_false_iff_not]; omega
      have I3 : Hid (LstI w2 w1.heap.size sl (zs.map numT) w3) := Lib.hid (by have h := hI.out; rwa [List.take_of_length_le (by rw [HN.out]; omega)] at h)
      obtain ⟨sa, sn, sc, rfl⟩ := I3.out.slice
      have Z3 := Lib.hid (I3.out.row' Z2.out (fun e => by have := ZL.out; omega))
      have IL := Lib.hid I2.out.lt
      clear hI
      go_wp2_with (first | ((with_reducible (show wpList _ _ _ (Oper.mk (some 22) _ _ _ _ _ :: _) _ _)); refine Hid.out ?_))
      refine Lib.hid ?_
      refine wpList_load_rowV rfl 90 (.tmp 3) rfl w1.heap.size rfl 4 90 _ I3.out.row _ Tryz.underlying90 rfl (by kernel_rfl) ?_
      go_wp2_with (first | ((with_reducible (show wpList _ _ _ (Oper.mk none _ _ _ _ _ :: _) _ _)); refine Hid.out ?_))
      refine Lib.hid ?_
      refine wpList_store_rowV (o := ⟨none, .store 90 (.tmp 2) (.tmp 22), _, _, _, _⟩) rfl 90 (.tmp 2) (.tmp 22) rfl w.heap.size rfl 4 90 _ (valC 3 0 ⟨#[]⟩ (.slice sa sn sc)) rfl Z3.out (by kernel_rfl) (fun j hj => by match j, hj with | 0, _ => rfl | 1, _ => rfl | 2, _ => rfl | 3, _ => rfl) ?_
      intro w4 Z4 O4
      have V4 := Lib.hid ((I3.out.own.only (rb := w.heap.size) O4.out.os O4.out.tape O4.out.output O4.out.size O4.out.block (by have := ZL.out; have := IL.out; omega)).value (by rw [List.length_map, HN.out]; have := HL.out; rw [HN.out] at this; omega))
      have B4 := Lib.hid (B3.out.trans (O4.out.below (Nat.le_refl _) B3.out.size))
      go_wp2_with fail
      refine bodyPost_ret (v := .agg (rowF 4 (valC 3 0 ⟨#[]⟩ (.slice sa sn sc)))) (by exact results_rowV (fn := Tryz.f66) (p := 2) (ty := 90) rfl _ _ w.heap.size 4 90 _ _ rfl Z4.out Tryz.underlying90 rfl (by kernel_rfl)) rfl ⟨⟨_, rfl, V4.out⟩, B4.out⟩
set_option maxRecDepth 100000 in
set_option maxHeartbeats 4000000 in
theorem qmessage_any (c : Ct) (hc : c.wf) (w : World) :
    Calls Tryz.prog 32 #[.agg (rowF 8 (ctC c))] w fun e w' => (∃ v, e = .returned v ∧ BytesAt w' v (msgC c)) ∧ Below w.heap.size w w' := by
  have NB := Lib.hid (numsC_bd hc)
  have EL := Lib.hid (encN_len (numsC c) (numsC_bd hc) (show (6 : Nat) ≤ 100 by decide))
  have G := Lib.hid (fun v W (h : BytesAt W v (encN (numsC c))) => reftagged_any ⟨#[99, 101, 114, 116]⟩ v _ W (by decide) (Nat.le_trans EL.out (by decide)) h)
  clear hc
  go_enter Tryz.func32, Tryz.ntmps32
  have B0 := Lib.hid (Below.refl w.heap.size w)
  go_upto_region 1 with fail
  obtain ⟨w1, hw1⟩ : ∃ y, w.alloc (.cells (rowF 8 (ctC c)) 33) = y := ⟨_, rfl⟩
  have b1 : Below w.heap.size w w1 := by rw [← hw1]; exact (Below.refl _ _).alloc (Nat.le_refl _) _
  have A1 : Hid (RowV w1 w.heap.size 33 8 (ctC c)) := Lib.hid (by rw [← hw1]; exact RowV.new w _ 8 (ctC c))
  have z1 : w.heap.size + 1 = w1.heap.size := by rw [← hw1]; exact (Array.size_push _).symm
  rw [hw1]
  (try rw [z1])
  have B1 := Lib.hid (B0.out.trans (b1.mono B0.out.size))
  clear b1 hw1 z1 B0
  have x0 : _ = some (Value.int .i64 c.k) := ct_cell A1.out (i := 0) (by decide)
  have x1 : _ = some (Value.int .i64 c.d) := ct_cell A1.out (i := 1) (by decide)
  have x2 : _ = some (Value.int .i64 c.v) := ct_cell A1.out (i := 2) (by decide)
  have x3 : _ = some (Value.int .i64 c.l) := ct_cell A1.out (i := 3) (by decide)
  have x4 : _ = some (Value.int .i64 c.n) := ct_cell A1.out (i := 4) (by decide)
  have x5 : _ = some (Value.int .i64 c.b) := ct_cell A1.out (i := 5) (by decide)
  go_wp2_with fail
  clear x0 x1 x2 x3 x4 x5
  obtain ⟨w2, hw2⟩ : ∃ y, w1.alloc (.cells #[.int .i64 c.k, .int .i64 c.d, .int .i64 c.v, .int .i64 c.l, .int .i64 c.n, .int .i64 c.b] 3) = y := ⟨_, rfl⟩
  have b2 : Below w1.heap.size w1 w2 := by rw [← hw2]; exact (Below.refl _ _).alloc (Nat.le_refl _) _
  have I2 : Hid (IntsS w2 (.slice (some ⟨w1.heap.size, 0, none⟩) 6 6) (numsC c)) := Lib.hid (by rw [← hw2]; exact ints_new w1 3 (numsC c) 6 rfl (by decide) (by decide))
  have z2 : w1.heap.size + 1 = w2.heap.size := by rw [← hw2]; exact (Array.size_push _).symm
  rw [hw2]
  (try rw [z2])
  have B2 := Lib.hid (B1.out.trans (b2.mono B1.out.size))
  have A2 := Lib.hid (A1.out.below b2)
  clear b2 hw2 z2 B1 A1
  refine (rints_any (numsC c) _ _ I2.out NB.out (show (6 : Nat) ≤ 100 by decide)).mono ?_
  rintro e w3 ⟨⟨u, rfl, hC⟩, b3⟩
  have C3 := Lib.hid hC
  have B3 := Lib.hid (B2.out.trans (b3.mono B2.out.size))
  clear hC b3 B2 I2 A2
  go_wp2_with fail
  refine (renc_nums NB.out (show (6 : Nat) ≤ 100 by decide) C3.out).mono ?_
  rintro e w4 ⟨⟨v, rfl, o4⟩, b4⟩
  have Y4 := Lib.hid (o4.bytesAt (by have := EL.out; omega))
  have B4 := Lib.hid (B3.out.trans (b4.mono B3.out.size))
  obtain ⟨va, vc, rfl⟩ := o4.slice
  clear o4 b4 B3 C3
  go_wp2_with fail
  refine (G.out _ _ Y4.out).mono ?_
  rintro e w5 ⟨rfl, b5⟩
  have B5 := Lib.hid (B4.out.trans (b5.mono B4.out.size))
  clear b5 B4 Y4 G
  have Zr := Lib.hid (RowV.new w5 95 32 (fun _ => vB 0))
  go_upto_region 3 with ((with_reducible (show wpList _ _ _ (Oper.mk none _ _ _ _ _ :: _) _ _)); refine wpList_store_rowV (o := ⟨none, .store 95 (.tmp 5) (.tmp 25), _, _, _, _⟩) rfl 95 (.tmp 5) (.tmp 25) rfl w5.heap.size rfl 32 95 _ (fun j => vB ((msgC c).getD j 0)) rfl Zr.out (by kernel_rfl) (fun _ _ => rfl) ?_; intro w6 D6 o6)
  have b6 : Below w5.heap.size w5 w6 := ((Below.refl _ _).alloc (Nat.le_refl _) _).trans (o6.out.below (Nat.le_refl _) (by rw [World.size_alloc]; omega))
  have B6 := Lib.hid (B5.out.trans (b6.mono B5.out.size))
  clear b6 o6 Zr B5
  have Y := Lib.hid (D6.out.bytesAt (msgC_len c) (by decide) (by decide))
  go_wp2_with (first | ((with_reducible (show wpList _ _ _ (Oper.mk (some 28) _ _ _ _ _ :: _) _ _)); refine Hid.out ?_))
  refine Lib.hid ?_
  have al := (Below.refl _ w6).alloc (Nat.le_refl _) (.cells #[] 5)
  have R := Owns.emp0 (w := w6.alloc (.cells #[] 5)) (base := w6.heap.size) (Nat.le_refl _) (MapKept.heap_alloc w6 _).1
  obtain ⟨w7, hw⟩ : ∃ y, w6.alloc (.cells #[] 5) = y := ⟨_, rfl⟩
  rw [hw] at al R ⊢
  have B7 := Lib.hid (B6.out.trans (al.mono B6.out.size))
  have Y7 := Lib.hid (Y.out.below al)
  have S6 := Lib.hid B6.out.size
  have S7 := Lib.hid al.size
  have R7 := Lib.hid R
  clear al R hw Y D6 B6
  refine wpList_app_bytes rfl (.tmp 26) (.tmp 27) rfl w6.heap.size _ _ [] (msgC c) rfl rfl R7.out Y7.out (by rw [msgC_len]; decide) S7.out ?_
  intro v8 w8 O8 s8
  have b8 := below_app s8.out (Nat.le_trans S6.out S7.out) (fun k hk => by have := (World.ownsRow.lt R7.out k hk).1; have := S6.out; omega)
  have B8 := Lib.hid (B7.out.trans b8)
  have Y8 := Lib.hid (O8.out.bytesAt (by simp only [List.nil_append, msgC_len]; decide))
  obtain ⟨va8, vc8, rfl⟩ := O8.out.slice
  clear b8 s8 O8 R7 Y7 B7
  rw [List.nil_append] at Y8 ⊢
  go_wp2_with fail
  go_ret
  exact ⟨⟨_, rfl, Y8.out⟩, B8.out⟩
end Go.Proofs.YtmmppibbglacdaaGreatDoor

namespace Go.Proofs.YtmmppibbglacdaaGreatDoor
open Go.RowKit Cod
/-- block g holds listings -/
def LiB (w : World) (g N n : Nat) (f : Nat → Li) : Prop := 5 * n ≤ N ∧ ∃ h, RowV w g 42 N h ∧ ∀ i, i < n → ∀ c, c < 5 → h (5 * i + c) = liC (f i) c
theorem LiB.belowK {w w' : World} {g N n K : Nat} {f : Nat → Li} (h : LiB w g N n f) (hk : g < K) (b : Below K w w') : LiB w' g N n f := by
  obtain ⟨h1, h, h2, h3⟩ := h
  exact ⟨h1, h, h2.belowK hk b, h3⟩
theorem LiB.lt {w : World} {g N n : Nat} {f : Nat → Li} (h : LiB w g N n f) : g < w.heap.size := by obtain ⟨h1, h, h2, h3⟩ := h; exact h2.lt
theorem LiB.below {w w' : World} {g N n : Nat} {f : Nat → Li} (h : LiB w g N n f) (b : Below w.heap.size w w') : LiB w' g N n f := h.belowK h.lt b
theorem li_put {N n j : Nat} {f : Nat → Li} {h : Nat → Value} (v : Li) (h3 : ∀ i, i < n → ∀ c, c < 5 → h (5 * i + c) = liC (f i) c) :
    ∀ i, i < n → ∀ c, c < 5 → (if 5 * j ≤ 5 * i + c ∧ 5 * i + c < 5 * j + 5 then liC v (5 * i + c - 5 * j) else h (5 * i + c)) = liC (if i = j then v else f i) c := by
  intro i hi c hc
  by_cases e : i = j
  · subst e; rw [if_pos (by omega), if_pos rfl, show 5 * i + c - 5 * i = c by omega]
  · rw [if_neg (by omega), if_neg e]; exact h3 i hi c hc
theorem li_swap {w : World} {g N n j : Nat} {f : Nat → Li} {h : Nat → Value} (h1 : 5 * n ≤ N) (hj : 0 < j) (h3 : ∀ i, i < n → ∀ c, c < 5 → h (5 * i + c) = liC (f i) c)
    (h2 : RowV w g 42 N (fun i => if 5 * (j - 1) ≤ i ∧ i < 5 * (j - 1) + 5 then liC (f j) (i - 5 * (j - 1)) else (if 5 * j ≤ i ∧ i < 5 * j + 5 then liC (f (j - 1)) (i - 5 * j) else h i))) : LiB w g N n (swapF f j) := by
  refine ⟨h1, _, h2, fun i hi c hc => ?_⟩
  have e1 := li_put (j := j) (N := N) (f (j - 1)) h3
  have e2 := li_put (j := j - 1) (N := N) (f := fun i => if i = j then f (j - 1) else f i) (h := fun i => if 5 * j ≤ i ∧ i < 5 * j + 5 then liC (f (j - 1)) (i - 5 * j) else h i) (f j) e1 i hi c hc
  refine Eq.trans e2 ?_
  unfold swapF
  by_cases e : i = j
  · rw [if_neg (by omega), if_pos e, if_pos e]
  · rw [if_neg e, if_neg e]
theorem range_swap {f : Nat → Li} {n j : Nat} (hj : 0 < j) (hn : j < n) (h : ∀ i, i < n → 0 ≤ (f i).d ∧ (f i).d ≤ 1000) : ∀ i, i < n → 0 ≤ (swapF f j i).d ∧ (swapF f j i).d ≤ 1000 := by
  intro i hi
  unfold swapF
  split
  · exact h _ (by omega)
  · split
    · exact h _ hn
    · exact h _ hi
set_option maxRecDepth 100000 in
set_option maxHeartbeats 4000000 in
theorem pless_any (a b : Li) (w : World) (ha : 0 ≤ a.d ∧ a.d ≤ 1000) (hb : 0 ≤ b.d ∧ b.d ≤ 1000) :
    Calls Tryz.prog 46 #[liA a, liA b] w fun e w' => e = .returned (.int .i64 (a.d - b.d)) ∧ Below w.heap.size w w' := by
  have hw : IntKind.i64.wrap (a.d - b.d) = a.d - b.d := IntWalk.i64_in _ (by omega)
  clear ha hb
  go_enter Tryz.func46, Tryz.ntmps46
  have B0 := Lib.hid (Below.refl w.heap.size w)
  go_upto_region 1 with fail
  obtain ⟨w1, hw1⟩ : ∃ y, w.alloc (.cells (rowF 5 (liC a)) 42) = y := ⟨_, rfl⟩
  have b1 : Below w.heap.size w w1 := by rw [← hw1]; exact (Below.refl _ _).alloc (Nat.le_refl _) _
  have X1 : Hid (RowV w1 w.heap.size 42 5 (liC a)) := Lib.hid (by rw [← hw1]; exact RowV.new w _ 5 (liC a))
  have z1 : w.heap.size + 1 = w1.heap.size := by rw [← hw1]; exact (Array.size_push _).symm
  rw [hw1]
  (try rw [z1])
  have B1 := Lib.hid (B0.out.trans (b1.mono B0.out.size))
  clear b1 hw1 z1 B0
  obtain ⟨w2, hw2⟩ : ∃ y, w1.alloc (.cells (rowF 5 (liC b)) 42) = y := ⟨_, rfl⟩
  have b2 : Below w1.heap.size w1 w2 := by rw [← hw2]; exact (Below.refl _ _).alloc (Nat.le_refl _) _
  have Y2 : Hid (RowV w2 w1.heap.size 42 5 (liC b)) := Lib.hid (by rw [← hw2]; exact RowV.new w1 _ 5 (liC b))
  have z2 : w1.heap.size + 1 = w2.heap.size := by rw [← hw2]; exact (Array.size_push _).symm
  rw [hw2]
  (try rw [z2])
  have B2 := Lib.hid (B1.out.trans (b2.mono B1.out.size))
  have X2 := Lib.hid (X1.out.below b2)
  clear b2 hw2 z2 B1 X1
  have x0 : _ = some (Value.int .i64 a.d) := li_cell X2.out (i := 0) (by decide)
  have y0 : _ = some (Value.int .i64 b.d) := li_cell Y2.out (i := 0) (by decide)
  go_wp2_with fail
  go_ret
  exact ⟨rfl, B2.out⟩
set_option maxRecDepth 100000 in
set_option maxHeartbeats 16000000 in
theorem pinsert_any (g cap N n : Nat) (f : Nat → Li) (w : World) (hL : LiB w g N n f) (hn : n ≤ 1000) (hcap : n ≤ cap) (hr : ∀ i, i < n → 0 ≤ (f i).d ∧ (f i).d ≤ 1000) :
    Calls Tryz.prog 129 #[.slice (some ⟨g, 0, none⟩) n cap, .int .i64 0, .int .i64 n, .func (.func 46) #[] #[]] w
      fun e w' => e = .returned (.tuple #[]) ∧ OnlyB g w w' ∧ ∃ f', LiB w' g N n f' ∧ (lst f' n).Perm (lst f n) ∧ Srted f' n := by
  have L0 := Lib.hid hL
  have R0 := Lib.hid hr
  have HC := Lib.hid hcap
  have qn : (n : Int) ≤ 1000 := by omega
  clear hL hr hn hcap
  go_enter Tryz.func129, Tryz.ntmps129
  go_wp2_with fail
  go_loopg [8] (n - 1) (fun gh s8 wx => ∃ (i : Nat) (f1 : Nat → Li), n - i = gh ∧ 1 ≤ i ∧ i ≤ n + 1 ∧ s8 = .int .i64 (i : Int) ∧ Hid (LiB wx g N n f1) ∧ Hid ((lst f1 n).Perm (lst f n)) ∧ Hid (Srted f1 i) ∧ Hid (∀ i, i < n → 0 ≤ (f1 i).d ∧ (f1 i).d ≤ 1000) ∧ Hid (OnlyB g w wx))
  case atStart => exact ⟨1, f, rfl, Nat.le_refl _, by omega, rfl, L0, Lib.hid (List.Perm.refl _), Lib.hid (fun a b hab hb => by omega), R0, Lib.hid (OnlyB.refl _ _)⟩
  case round =>
    obtain ⟨i, f1, rfl, hi1, hi2, rfl, hL, hP, hS, hR, hO⟩ := hrel
    obtain ⟨w1, rfl⟩ : ∃ y, y = wr := ⟨_, rfl⟩
    have i1 : IntKind.i64.wrap ((i : Int) + 1) = (i : Int) + 1 := IntWalk.i64_in _ (by omega)
    by_cases hlt : i < n
    · have d0 : decide ((i : Int) < (n : Int)) = true := by rw [decide_eq_true_iff]; omega
      have d1 : decide (i < n) = true := by rw [decide_eq_true_iff]; omega
      have HLT := Lib.hid hlt
      clear hlt
      go_upto_region 3 with fail
      clear d0 d1
      go_wp2_with fail
      go_loopg [9] i (fun gh s9 wx => ∃ (j : Nat) (f2 : Nat → Li), j = gh ∧ j ≤ i ∧ s9 = .int .i64 (j : Int) ∧ Hid (LiB wx g N n f2) ∧ Hid ((lst f2 n).Perm (lst f n)) ∧ Hid (Srt f2 i j) ∧ Hid (∀ i, i < n → 0 ≤ (f2 i).d ∧ (f2 i).d ≤ 1000) ∧ Hid (OnlyB g w wx))
      case atStart => exact ⟨i, f1, rfl, Nat.le_refl _, rfl, hL, hP, Lib.hid (Srt.start hS.out), hR, hO⟩
      case round =>
        clear hL hP hS hR hO
        obtain ⟨j, f2, rfl, hj, rfl, hL, hP, hS, hR, hO⟩ := hrel
        obtain ⟨w2, rfl⟩ : ∃ y, y = wr := ⟨_, rfl⟩
        have bb := fun m => (OnlyB.of_below (B := g) (below_drewN (Below.refl w2.heap.size w2) m))
        by_cases h0 : 0 < j
        · have e0 : decide ((0 : Int) < (j : Int)) = true := by rw [decide_eq_true_iff]; omega
          have e0' : decide (0 < j) = true := by rw [decide_eq_true_iff]; omega
          clear bb
          obtain ⟨hN, h, hrow, hc⟩ := hL.out
          have jn : j < n := by have := HLT.out; omega
          have j1 : IntKind.i64.wrap ((j : Int) - 1) = (j : Int) - 1 := IntWalk.i64_in _ (by omega)
          have j2 : (1 : Int) ≤ (j : Int) := by omega
          have j3 : (j : Int) < (n : Int) := by omega
          have j4 : (j : Int) - 1 < (n : Int) := by omega
          have j5 : (0 : Int) ≤ (j : Int) - 1 := by omega
          have j6 : ((j : Int) - 1).toNat = j - 1 := by omega
          have H2 := Lib.hid hc
          have W2 := Lib.hid hrow
          have HN := Lib.hid hN
          have JN := Lib.hid jn
          have H0 := Lib.hid h0
          have CM := Lib.hid (fun W => pless_any (f2 j) (f2 (j - 1)) W (hR.out j jn) (hR.out (j - 1) (by omega)))
          have B2 := Lib.hid (Below.refl w2.heap.size w2)
          clear hc hrow hN jn h0
          go_upto_region 4 with fail
          obtain ⟨pa, hpa⟩ : ∃ y, (f2 j).d = y := ⟨_, rfl⟩
          obtain ⟨pb, hpb⟩ : ∃ y, (f2 (j - 1)).d = y := ⟨_, rfl⟩
          rw [hpa, hpb] at CM
          have PA := Lib.hid hpa
          have PB := Lib.hid hpb
          clear hpa hpb
          have GL := Lib.hid W2.out.lt
          refine Tc.wp_region_plan (keep w2.heap.size) 17 [] (.fl 0 (.fl 1 (.fl 2 (.fl 3 (.fl 4 (.fl 5 (.fl 6 (.fl 7 (.fl 8 (.fl 9 (.fl 10 (.fl 11 (.fl 12 (.fl 13 (.one 14 (.fl 15 (.fl 16 .done))))))))))))))))) (by kernel_rfl) (by kernel_rfl) ?_
          intro w3 b3 e3
          have BB3 : Hid (Below w2.heap.size w2 w3) := Lib.hid b3
          clear b3 e3
          refine Tc.plan_floats [0, 1, 2, 3, 4, 5, 6, 7, 8, 9, 10, 11, 12, 13] [_, _, _, _, _, _, _, _, _, _, _, _, _, _] rfl ?_
          dsimp only [List.getElem_toArray, List.getElem_cons_succ, List.getElem_cons_zero]
          repeat (first | go_big_quiet_skip | (go_big_quiet_want; go_big_quiet_op; first | go_big_quiet_on | (refine ⟨_, fun _ _ => rfl, ?_⟩; go_big_quiet_on)))
          refine wpQuiet_unguard rfl ?_
          refine wpQuiet_load_part rfl 42 (.tmp 25) rfl g (j * 5) rfl N 5 42 h (liC (f2 (j))) (fun W hW => row_keep (n := w2.heap.size) (W2.out.below BB3.out) GL.out hW) (by have := HN.out; have := JN.out; omega) (fun c hc => by rw [Nat.mul_comm]; exact H2.out (j) (by have := JN.out; omega) c hc) _ Tryz.underlying42 rfl (by kernel_rfl) ?_
          simp only [Act.put, List.setIfInBounds_toArray, List.set_cons_succ, List.set_cons_zero]
          repeat (first | go_big_quiet_skip | (go_big_quiet_want; go_big_quiet_op; first | go_big_quiet_on | (refine ⟨_, fun _ _ => rfl, ?_⟩; go_big_quiet_on)))
          refine wpQuiet_unguard rfl ?_
          refine wpQuiet_load_part rfl 42 (.tmp 30) rfl g ((j - 1) * 5) rfl N 5 42 h (liC (f2 ((j - 1)))) (fun W hW => row_keep (n := w2.heap.size) (W2.out.below BB3.out) GL.out hW) (by have := HN.out; have := JN.out; omega) (fun c hc => by rw [Nat.mul_comm]; exact H2.out ((j - 1)) (by have := JN.out; omega) c hc) _ Tryz.underlying42 rfl (by kernel_rfl) ?_
          simp only [Act.put, List.setIfInBounds_toArray, List.set_cons_succ, List.set_cons_zero]
          repeat (first | go_big_quiet_skip | (go_big_quiet_want; go_big_quiet_op; first | go_big_quiet_on | (refine ⟨_, fun _ _ => rfl, ?_⟩; go_big_quiet_on)))
          refine wpQuiet_nil ?_
          refine Tc.plan_one 14 rfl (fun K hK => ?_)
          go_wp2_with fail
          refine (CM.out _).mono ?_
          rintro e w4 ⟨rfl, b4⟩
          have bb := b4.mono BB3.out.size
          have BB4 := Lib.hid (BB3.out.trans bb)
          go_wp2_with fail
          refine hK _ _ (keep_below bb) ?_
          clear hK K bb b4 BB3
          clear CM
          by_cases hcm : pa < pb
          · have c0 : decide (pa - pb < 0) = true := by rw [decide_eq_true_iff]; omega
            have c1 : decide (pa < pb) = true := by rw [decide_eq_true_iff]; omega
            have HCM := Lib.hid hcm
            clear hcm
            refine Tc.plan_floats [15, 16] [_, _] rfl ?_
            dsimp only [List.getElem_toArray, List.getElem_cons_succ, List.getElem_cons_zero]
            repeat (first | go_big_quiet_skip | (go_big_quiet_want; go_big_quiet_op; first | go_big_quiet_on | (refine ⟨_, fun _ _ => rfl, ?_⟩; go_big_quiet_on)))
            refine wpQuiet_nil ?_
            refine Tc.plan_done (l := []) rfl (fun K hK => ?_)
            go_wp2_with fail
            have OO := Lib.hid (hO.out.trans (OnlyB.of_below (B := g) BB4.out))
            have LL : Hid (LiB w4 g N n f2) := Lib.hid (LiB.belowK ⟨HN.out, h, W2.out, H2.out⟩ GL.out BB4.out)
            clear c0 c1
            have ROW : Hid (RowV w4 g 42 N h) := Lib.hid (W2.out.belowK GL.out BB4.out)
            clear BB4 W2
            skip
            go_upto_region 6 with fail
            refine Tc.wp_region_plan (Tc.Rl.stay (fun _ => False)) 18 [] (Tc.flAll [0, 1, 2, 3, 4, 5, 6, 7, 8, 10, 11, 12] (.two 9 13 (.one 13 (.fl 14 (.one 15 (.fl 16 (.one 17 .done))))) (.one 9 (.fl 14 (.one 15 (.fl 16 (.one 17 .done))))))) (by kernel_rfl) (by kernel_rfl) ?_
            intro w6 b6 e6
            have R6 := Lib.hid (ROW.out.below b6)
            have O6 := Lib.hid (OO.out.trans (OnlyB.of_below (B := g) b6))
            clear b6 e6 ROW OO LL
            refine Tc.plan_floats [0, 1, 2, 3, 4, 5, 6, 7, 8, 10, 11, 12] [_, _, _, _, _, _, _, _, _, _, _, _] rfl ?_
            dsimp only [List.getElem_toArray, List.getElem_cons_succ, List.getElem_cons_zero]
            repeat (first | go_big_quiet_skip | (go_big_quiet_want; go_big_quiet_op; first | go_big_quiet_on | (refine ⟨_, fun _ _ => rfl, ?_⟩; go_big_quiet_on)))
            refine wpQuiet_nil ?_
            refine Tc.plan_two 9 13 rfl rfl (fun K hK => ?_) (fun K hK => ?_)
            · refine wpList_load_part rfl 42 (.tmp 45) rfl g ((j - 1) * 5) rfl N 5 42 h (liC (f2 ((j - 1)))) R6.out (by have := HN.out; have := JN.out; omega) (fun c hc => by rw [Nat.mul_comm]; exact H2.out ((j - 1)) (by have := JN.out; omega) c hc) _ Tryz.underlying42 rfl (by kernel_rfl) ?_
              refine hK _ _ (fun k hk => hk.elim) ?_
              clear hK K
              dsimp only [Act.put]
              (try simp only [List.setIfInBounds_toArray, List.set_cons_succ, List.set_cons_zero])
              refine Tc.plan_one 13 rfl (fun K hK => ?_)
              refine wpList_load_part rfl 42 (.tmp 49) rfl g (j * 5) rfl N 5 42 h (liC (f2 (j))) R6.out (by have := HN.out; have := JN.out; omega) (fun c hc => by rw [Nat.mul_comm]; exact H2.out (j) (by have := JN.out; omega) c hc) _ Tryz.underlying42 rfl (by kernel_rfl) ?_
              refine hK _ _ (fun k hk => hk.elim) ?_
              clear hK K
              dsimp only [Act.put]
              (try simp only [List.setIfInBounds_toArray, List.set_cons_succ, List.set_cons_zero])
              refine Tc.plan_floats [14] [_] rfl ?_
              dsimp only [List.getElem_toArray, List.getElem_cons_succ, List.getElem_cons_zero]
              (try simp only [List.setIfInBounds_toArray, List.set_cons_succ, List.set_cons_zero])
              repeat (first | go_big_quiet_skip | (go_big_quiet_want; go_big_quiet_op; first | go_big_quiet_on | (refine ⟨_, fun _ _ => rfl, ?_⟩; go_big_quiet_on)))
              refine wpQuiet_nil ?_
              refine Tc.plan_one 15 rfl (fun K hK => ?_)
              refine wpList_store_part rfl 42 (.tmp 51) (.tmp 46) rfl g (j * 5) rfl N 5 42 h (liC (f2 (j - 1))) (fun i => if 5 * j ≤ i ∧ i < 5 * j + 5 then liC (f2 (j - 1)) (i - 5 * j) else h i) rfl R6.out (by have := HN.out; have := JN.out; omega) (by kernel_rfl) (fun c _ => liC_one _ c) (fun i hi => by rw [show j * 5 = 5 * j from Nat.mul_comm _ _]) ?_
              intro w7 R7 O7
              refine hK _ _ (fun k hk => hk.elim) ?_
              clear hK K
              dsimp only [Act.put]
              (try simp only [List.setIfInBounds_toArray, List.set_cons_succ, List.set_cons_zero])
              refine Tc.plan_floats [16] [_] rfl ?_
              dsimp only [List.getElem_toArray, List.getElem_cons_succ, List.getElem_cons_zero]
              (try simp only [List.setIfInBounds_toArray, List.set_cons_succ, List.set_cons_zero])
              repeat (first | go_big_quiet_skip | (go_big_quiet_want; go_big_quiet_op; first | go_big_quiet_on | (refine ⟨_, fun _ _ => rfl, ?_⟩; go_big_quiet_on)))
              refine wpQuiet_nil ?_
              refine Tc.plan_one 17 rfl (fun K hK => ?_)
              refine wpList_store_part rfl 42 (.tmp 52) (.tmp 50) rfl g ((j - 1) * 5) rfl N 5 42 _ (liC (f2 j)) (fun i => if 5 * (j - 1) ≤ i ∧ i < 5 * (j - 1) + 5 then liC (f2 j) (i - 5 * (j - 1)) else (if 5 * j ≤ i ∧ i < 5 * j + 5 then liC (f2 (j - 1)) (i - 5 * j) else h i)) rfl R7.out (by have := HN.out; have := JN.out; omega) (by kernel_rfl) (fun c _ => liC_one _ c) (fun i hi => by rw [show (j - 1) * 5 = 5 * (j - 1) from Nat.mul_comm _ _]) ?_
              intro w8 R8 O8
              refine hK _ _ (fun k hk => hk.elim) ?_
              clear hK K
              refine Tc.plan_done (l := []) rfl (fun K hK => ?_)
              have L8 : Hid (LiB w8 g N n (swapF f2 j)) := Lib.hid (li_swap HN.out H0.out H2.out R8.out)
              have OO8 := Lib.hid ((O6.out.trans O7.out).trans O8.out)
              have S8 : Hid (Srt (swapF f2 j) i (j - 1)) := Lib.hid (Srt.swap hS.out H0.out hj (by rw [PA.out, PB.out]; exact HCM.out))
              have P8 : Hid ((lst (swapF f2 j) n).Perm (lst f n)) := Lib.hid ((swap_perm f2 H0.out JN.out).trans hP.out)
              have A8 : Hid (∀ i, i < n → 0 ≤ (swapF f2 j i).d ∧ (swapF f2 j i).d ≤ 1000) := Lib.hid (range_swap H0.out JN.out hR.out)
              clear R6 O6 R7 O7 R8 O8
              go_wp2_with fail
              go_roundg (j - 1)
              case measure => have := H0.out; omega
              case rel =>
                go_light
                exact ⟨j - 1, swapF f2 j, rfl, by omega, by have := H0.out; rw [show (((j - 1 : Nat)) : Int) = (j : Int) - 1 by omega], L8, P8, S8, A8, OO8⟩
            · refine wpList_load_part rfl 42 (.tmp 49) rfl g (j * 5) rfl N 5 42 h (liC (f2 (j))) R6.out (by have := HN.out; have := JN.out; omega) (fun c hc => by rw [Nat.mul_comm]; exact H2.out (j) (by have := JN.out; omega) c hc) _ Tryz.underlying42 rfl (by kernel_rfl) ?_
              refine hK _ _ (fun k hk => hk.elim) ?_
              clear hK K
              dsimp only [Act.put]
              (try simp only [List.setIfInBounds_toArray, List.set_cons_succ, List.set_cons_zero])
              refine Tc.plan_one 9 rfl (fun K hK => ?_)
              refine wpList_load_part rfl 42 (.tmp 45) rfl g ((j - 1) * 5) rfl N 5 42 h (liC (f2 ((j - 1)))) R6.out (by have := HN.out; have := JN.out; omega) (fun c hc => by rw [Nat.mul_comm]; exact H2.out ((j - 1)) (by have := JN.out; omega) c hc) _ Tryz.underlying42 rfl (by kernel_rfl) ?_
              refine hK _ _ (fun k hk => hk.elim) ?_
              clear hK K
              dsimp only [Act.put]
              (try simp only [List.setIfInBounds_toArray, List.set_cons_succ, List.set_cons_zero])
              refine Tc.plan_floats [14] [_] rfl ?_
              dsimp only [List.getElem_toArray, List.getElem_cons_succ, List.getElem_cons_zero]
              (try simp only [List.setIfInBounds_toArray, List.set_cons_succ, List.set_cons_zero])
              repeat (first | go_big_quiet_skip | (go_big_quiet_want; go_big_quiet_op; first | go_big_quiet_on | (refine ⟨_, fun _ _ => rfl, ?_⟩; go_big_quiet_on)))
              refine wpQuiet_nil ?_
              refine Tc.plan_one 15 rfl (fun K hK => ?_)
              refine wpList_store_part rfl 42 (.tmp 51) (.tmp 46) rfl g (j * 5) rfl N 5 42 h (liC (f2 (j - 1))) (fun i => if 5 * j ≤ i ∧ i < 5 * j + 5 then liC (f2 (j - 1)) (i - 5 * j) else h i) rfl R6.out (by have := HN.out; have := JN.out; omega) (by kernel_rfl) (fun c _ => liC_one _ c) (fun i hi => by rw [show j * 5 = 5 * j from Nat.mul_comm _ _]) ?_
              intro w7 R7 O7
              refine hK _ _ (fun k hk => hk.elim) ?_
              clear hK K
              dsimp only [Act.put]
              (try simp only [List.setIfInBounds_toArray, List.set_cons_succ, List.set_cons_zero])
              refine Tc.plan_floats [16] [_] rfl ?_
              dsimp only [List.getElem_toArray, List.getElem_cons_succ, List.getElem_cons_zero]
              (try simp only [List.setIfInBounds_toArray, List.set_cons_succ, List.set_cons_zero])
              repeat (first | go_big_quiet_skip | (go_big_quiet_want; go_big_quiet_op; first | go_big_quiet_on | (refine ⟨_, fun _ _ => rfl, ?_⟩; go_big_quiet_on)))
              refine wpQuiet_nil ?_
              refine Tc.plan_one 17 rfl (fun K hK => ?_)
              refine wpList_store_part rfl 42 (.tmp 52) (.tmp 50) rfl g ((j - 1) * 5) rfl N 5 42 _ (liC (f2 j)) (fun i => if 5 * (j - 1) ≤ i ∧ i < 5 * (j - 1) + 5 then liC (f2 j) (i - 5 * (j - 1)) else (if 5 * j ≤ i ∧ i < 5 * j + 5 then liC (f2 (j - 1)) (i - 5 * j) else h i)) rfl R7.out (by have := HN.out; have := JN.out; omega) (by kernel_rfl) (fun c _ => liC_one _ c) (fun i hi => by rw [show (j - 1) * 5 = 5 * (j - 1) from Nat.mul_comm _ _]) ?_
              intro w8 R8 O8
              refine hK _ _ (fun k hk => hk.elim) ?_
              clear hK K
              refine Tc.plan_done (l := []) rfl (fun K hK => ?_)
              have L8 : Hid (LiB w8 g N n (swapF f2 j)) := Lib.hid (li_swap HN.out H0.out H2.out R8.out)
              have OO8 := Lib.hid ((O6.out.trans O7.out).trans O8.out)
              have S8 : Hid (Srt (swapF f2 j) i (j - 1)) := Lib.hid (Srt.swap hS.out H0.out hj (by rw [PA.out, PB.out]; exact HCM.out))
              have P8 : Hid ((lst (swapF f2 j) n).Perm (lst f n)) := Lib.hid ((swap_perm f2 H0.out JN.out).trans hP.out)
              have A8 : Hid (∀ i, i < n → 0 ≤ (swapF f2 j i).d ∧ (swapF f2 j i).d ≤ 1000) := Lib.hid (range_swap H0.out JN.out hR.out)
              clear R6 O6 R7 O7 R8 O8
              go_wp2_with fail
              go_roundg (j - 1)
              case measure => have := H0.out; omega
              case rel =>
                go_light
                exact ⟨j - 1, swapF f2 j, rfl, by omega, by have := H0.out; rw [show (((j - 1 : Nat)) : Int) = (j : Int) - 1 by omega], L8, P8, S8, A8, OO8⟩
          · have c0 : decide (pa - pb < 0) = false := by rw [decide_eq_false_iff_not]; omega
            have c1 : decide (pa < pb) = false := by rw [decide_eq_false_iff_not]; omega
            have HCM := Lib.hid hcm
            clear hcm
            refine Tc.plan_floats [15, 16] [_, _] rfl ?_
            dsimp only [List.getElem_toArray, List.getElem_cons_succ, List.getElem_cons_zero]
            repeat (first | go_big_quiet_skip | (go_big_quiet_want; go_big_quiet_op; first | go_big_quiet_on | (refine ⟨_, fun _ _ => rfl, ?_⟩; go_big_quiet_on)))
            refine wpQuiet_nil ?_
            refine Tc.plan_done (l := []) rfl (fun K hK => ?_)
            go_wp2_with fail
            have OO := Lib.hid (hO.out.trans (OnlyB.of_below (B := g) BB4.out))
            have LL : Hid (LiB w4 g N n f2) := Lib.hid (LiB.belowK ⟨HN.out, h, W2.out, H2.out⟩ GL.out BB4.out)
            clear c0 c1
            have SF : Hid (Srted f2 (i + 1)) := Lib.hid (Srt.done hS.out H0.out hj (by rw [PA.out, PB.out]; have := HCM.out; omega))
            go_roundg (n - (i + 1))
            case measure => have := HLT.out; omega
            case rel =>
              go_light
              exact ⟨i + 1, f2, rfl, by omega, by have := HLT.out; omega, by go_num, LL, hP, SF, hR, OO⟩
        · obtain rfl : j = 0 := by omega
          clear h0
          have SF : Hid (Srted f2 (i + 1)) := Lib.hid hS.out.done0
          go_wp2_with fail
          go_quiet (fail)
          go_wp2_with fail
          have LL : Hid (LiB (w2.drewN nq) g N n f2) := Lib.hid hL.out
          have OO : Hid (OnlyB g w (w2.drewN nq)) := Lib.hid (hO.out.trans (bb nq))
          go_roundg (n - (i + 1))
          case measure => have := HLT.out; omega
          case rel =>
            go_light
            exact ⟨i + 1, f2, rfl, by omega, by have := HLT.out; omega, by go_num, LL, hP, SF, hR, OO⟩
    · have d0 : decide ((i : Int) < (n : Int)) = false := by rw [decide_eq_false_iff_not]; omega
      have d1 : decide (i < n) = false := by rw [decide_eq_false_iff_not]; omega
      have SF : Hid (Srted f1 n) := Lib.hid (fun a b hab hb => hS.out a b hab (by omega))
      go_wp2_with fail
      go_end0
      exact ⟨rfl, hO.out, f1, hL.out, hP.out, SF.out⟩
set_option maxRecDepth 100000 in
set_option maxHeartbeats 8000000 in
theorem ppdq_any (g cap N n : Nat) (f : Nat → Li) (lim : Int) (w : World) (hL : LiB w g N n f) (hn : n ≤ 12) (hcap : n ≤ cap) (hr : ∀ i, i < n → 0 ≤ (f i).d ∧ (f i).d ≤ 1000) :
    Calls Tryz.prog 104 #[.slice (some ⟨g, 0, none⟩) n cap, .int .i64 0, .int .i64 n, .int .i64 lim, .func (.func 46) #[] #[]] w
      fun e w' => e = .returned (.tuple #[]) ∧ OnlyB g w w' ∧ ∃ f', LiB w' g N n f' ∧ (lst f' n).Perm (lst f n) ∧ Srted f' n := by
  have C := Lib.hid (pinsert_any g cap N n f w hL (by omega) hcap hr)
  have e0 : decide ((n : Int) ≤ 12) = true := by rw [decide_eq_true_iff]; omega
  have e1 : decide (n ≤ 12) = true := by rw [decide_eq_true_iff]; omega
  have e2 : IntKind.i64.wrap (n : Int) = (n : Int) := IntWalk.i64_in _ (by omega)
  have q0 : (0 : Int) ≤ (n : Int) := Int.natCast_nonneg n
  have q1 : (n : Int) ≤ 12 := by omega
  clear hL hn hcap hr
  go_enter Tryz.func104, Tryz.ntmps104
  go_wp2_with fail
  refine wp_loop_once ?_
  go_wp2_with fail
  refine C.out.mono ?_
  rintro e w1 ⟨rfl, hO, f1, h1, h2, h3⟩
  have HO := Lib.hid hO
  have H1 := Lib.hid h1
  have H2 := Lib.hid h2
  have H3 := Lib.hid h3
  clear hO h1 h2 h3 C
  go_wp2_with fail
  refine bodyPost_ret (results_none rfl _ _ _) rfl ?_
  exact ⟨rfl, HO.out, f1, H1.out, H2.out, H3.out⟩
set_option maxRecDepth 100000 in
set_option maxHeartbeats 8000000 in
theorem psort_any (g cap N n : Nat) (f : Nat → Li) (w : World) (hL : LiB w g N n f) (hn : n ≤ 12) (hcap : n ≤ cap) (hr : ∀ i, i < n → 0 ≤ (f i).d ∧ (f i).d ≤ 1000) :
    Calls Tryz.prog 78 #[.slice (some ⟨g, 0, none⟩) n cap, .func (.func 46) #[] #[]] w
      fun e w' => e = .returned (.tuple #[]) ∧ OnlyB g w w' ∧ ∃ f', LiB w' g N n f' ∧ (lst f' n).Perm (lst f n) ∧ Srted f' n := by
  have C : Hid (∀ lim W, LiB W g N n f → Calls Tryz.prog 104 #[.slice (some ⟨g, 0, none⟩) n cap, .int .i64 0, .int .i64 n, .int .i64 lim, .func (.func 46) #[] #[]] W fun e w' => e = .returned (.tuple #[]) ∧ OnlyB g W w' ∧ ∃ f', LiB w' g N n f' ∧ (lst f' n).Perm (lst f n) ∧ Srted f' n) := Lib.hid (fun lim W h => ppdq_any g cap N n f lim W h hn hcap hr)
  have HL := Lib.hid hL
  have e2 : IntKind.u64.wrap (n : Int) = (n : Int) := IntWalk.u64_in _ (by omega)
  have q0 : (0 : Int) ≤ (n : Int) := Int.natCast_nonneg n
  have q1 : (n : Int) ≤ 12 := by omega
  clear hL hn hcap hr
  go_enter Tryz.func78, Tryz.ntmps78
  go_wp2_with fail
  refine (len_any n (by omega) _).mono ?_
  rintro e w1 ⟨rfl, rfl⟩
  go_wp2_with fail
  refine (C.out _ _ HL.out).mono ?_
  rintro e w1 ⟨rfl, hO, f1, h1, h2, h3⟩
  have HO := Lib.hid hO
  have H1 := Lib.hid h1
  have H2 := Lib.hid h2
  have H3 := Lib.hid h3
  clear hO h1 h2 h3 C
  go_wp2_with fail
  go_end0
  exact ⟨rfl, HO.out, f1, H1.out, H2.out, H3.out⟩
end Go.Proofs.YtmmppibbglacdaaGreatDoor
