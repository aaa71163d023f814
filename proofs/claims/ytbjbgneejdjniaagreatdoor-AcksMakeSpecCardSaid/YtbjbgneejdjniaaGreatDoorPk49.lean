/- Acknowledgements, members and entries that came in, opened; what is decoded fits. -/
import Derived.Test.YtbjbgneejdjniaaGreatDoorPk47
import Derived.Test.YtbjbgneejdjniaaGreatDoorPk48
import Derived.Deep.Slices
set_option linter.unusedVariables false
set_option linter.unusedSimpArgs false
namespace Go.Proofs.YtbjbgneejdjniaaGreatDoor
open Go.ChangeShapes Go.WideShapes Go.ChangeAt Go.RowKit Cod
section
variable {H : Type} {enc : TypeId × Value → H} {W : World} {fuel : Nat} {cs : List Value} {x : DataW H × List MemPlace}
theorem drop_one {l : List Value} {i : Nat} {v : Value} (h : (l.drop i).take 1 = [v]) : l[i]? = some v := by
  have := congrArg (·[0]?) h
  simpa [List.getElem?_take, List.getElem?_drop] using this
set_option maxRecDepth 100000 in
theorem trod_dig (h : DataW.trod enc Tryz.prog W 0 (fun _ => true) true fuel 23 cs = some x) : ∃ l : List UInt8, l.length = 32 ∧ ∀ i, i < 32 → cs[i]? = some (vB (l.getD i 0)) := by
  obtain ⟨xs, m, rfl, _, _, hn, hel⟩ := DataW.trod_array Tryz.underlying23 h
  have hc1 : Tryz.prog.cellsOf 5 = 1 := by kernel_rfl
  have each : ∀ i, i < 32 → ∃ z, cs[i]? = some (.int .u8 z) ∧ (Lit.int .u8 z).wf = true := by
    intro i hi
    have h1 := hel i hi
    rw [List.getElem?_eq_getElem (by omega)] at h1
    obtain ⟨z, e1, _, e3⟩ := DataW.trod_int Tryz.underlying5 h1
    rw [hc1, Nat.mul_one] at e1
    exact ⟨z, drop_one e1, e3⟩
  refine ⟨(List.range 32).map fun (i : Nat) => match (cs[i]? : Option Value) with | some (Value.int _ z) => UInt8.ofNat z.toNat | _ => 0, by simp, fun i hi => ?_⟩
  obtain ⟨z, e1, e2⟩ := each i hi
  rw [e1, vB_of e2]
  congr 2
  rw [List.getD_eq_getElem?_getD, List.getElem?_map, List.getElem?_range hi]
  simp [e1]
theorem i64B_of {z : Int} (h : (Lit.int .i64 z).wf = true) : i64B z := by have := i64_bd h; unfold i64B; omega
theorem cells_eq {cs : List Value} {s : Nat} {c : Nat → Value} (hl : cs.length = s) (h : ∀ i, i < s → cs[i]? = some (c i)) : cs = (List.range s).map c := by
  apply List.ext_getElem?
  intro i
  by_cases hi : i < s
  · rw [h i hi, List.getElem?_map, List.getElem?_range hi]; rfl
  · rw [List.getElem?_eq_none (by omega), List.getElem?_eq_none (by simp; omega)]
theorem field_at {fs : Array Field} {cs : List Value} {xs : List (DataW H × List MemPlace)} {n : Nat} (hlen : xs.length = fs.size)
    (hf : ∀ (i : Nat) (f : Field), fs[i]? = some f → DataW.trod enc Tryz.prog W 0 (fun _ => true) true n f.type ((cs.drop f.offset).take (Tryz.prog.cellsOf f.type)) = xs[i]?)
    (i o c : Nat) (T : TypeId) {f : Field} (hi : fs[i]? = some f) (ht : f.type = T) (ho : f.offset = o) (hc : Tryz.prog.cellsOf T = c) : ∃ y, DataW.trod enc Tryz.prog W 0 (fun _ => true) true n T ((cs.drop o).take c) = some y := by
  have h1 := hf i f hi
  have hil : i < fs.size := (Array.getElem?_eq_some_iff.1 hi).1
  rw [List.getElem?_eq_getElem (by omega), ht, ho, hc] at h1
  exact ⟨_, h1⟩
theorem field_int {fs : Array Field} {cs : List Value} {xs : List (DataW H × List MemPlace)} {n : Nat} (hlen : xs.length = fs.size)
    (hf : ∀ (i : Nat) (f : Field), fs[i]? = some f → DataW.trod enc Tryz.prog W 0 (fun _ => true) true n f.type ((cs.drop f.offset).take (Tryz.prog.cellsOf f.type)) = xs[i]?)
    (i o : Nat) {f : Field} (hi : fs[i]? = some f) (ht : f.type = 3) (ho : f.offset = o) : ∃ z, cs[o]? = some (.int .i64 z) ∧ i64B z := by
  obtain ⟨y, h1⟩ := field_at hlen hf i o 1 3 hi ht ho (by kernel_rfl)
  obtain ⟨z, e1, _, e3⟩ := DataW.trod_int Tryz.underlying3 h1
  exact ⟨z, drop_one e1, i64B_of e3⟩
set_option maxRecDepth 100000 in
theorem trod_ack (h : DataW.trod enc Tryz.prog W 0 (fun _ => true) true fuel 27 cs = some x) : ∃ a : Ak, a.wf ∧ cs = (List.range 38).map (akC a) := by
  obtain ⟨xs, n, rfl, _, hlen, hxl, hf⟩ := DataW.trod_struct Tryz.underlying27 h
  rw [show Tryz.prog.cellsOf 27 = 38 by kernel_rfl] at hlen
  obtain ⟨f, ef, wf⟩ := field_int hxl hf 0 0 rfl rfl rfl
  obtain ⟨d, ed, wd⟩ := field_int hxl hf 1 1 rfl rfl rfl
  obtain ⟨s, es, ws⟩ := field_int hxl hf 2 2 rfl rfl rfl
  obtain ⟨u, eu, wu⟩ := field_int hxl hf 3 3 rfl rfl rfl
  obtain ⟨_, h4⟩ := field_at hxl hf 4 4 32 23 rfl rfl rfl (by kernel_rfl)
  obtain ⟨ch, hch, ec⟩ := trod_dig h4
  obtain ⟨_, h5⟩ := field_at hxl hf 5 36 2 25 rfl rfl rfl (by kernel_rfl)
  obtain ⟨ys, n2, rfl, _, hlen2, hyl, hg⟩ := DataW.trod_struct Tryz.underlying25 h5
  obtain ⟨r, er, wr⟩ := field_int hyl hg 0 0 rfl rfl rfl
  obtain ⟨g, eg, wg⟩ := field_int hyl hg 1 1 rfl rfl rfl
  refine ⟨⟨f, d, s, u, ch, r, g⟩, ⟨wf, wd, ws, wu, hch, wr, wg⟩, cells_eq hlen fun i hi => ?_⟩
  unfold akC
  by_cases h32 : 4 ≤ i ∧ i < 36
  · rw [if_pos h32]
    have := ec (i - 4) (by omega)
    rw [List.getElem?_take_of_lt (by omega), List.getElem?_drop] at this
    rw [show 4 + (i - 4) = i by omega] at this
    exact this
  · rw [if_neg h32]
    have hh : i = 0 ∨ i = 1 ∨ i = 2 ∨ i = 3 ∨ i = 36 ∨ i = 37 := by omega
    rcases hh with rfl | rfl | rfl | rfl | rfl | rfl
    · exact ef
    · exact ed
    · exact es
    · exact eu
    · rw [List.getElem?_take_of_lt (by decide), List.getElem?_drop] at er; exact er
    · rw [List.getElem?_take_of_lt (by decide), List.getElem?_drop] at eg; exact eg
theorem trod_mem (h : DataW.trod enc Tryz.prog W 0 (fun _ => true) true fuel 48 cs = some x) : ∃ a : Mb, a.wf ∧ cs = (List.range 3).map (mbC a) := by
  obtain ⟨xs, n, rfl, _, hlen, hxl, hf⟩ := DataW.trod_struct Tryz.underlying48 h
  rw [show Tryz.prog.cellsOf 48 = 3 by kernel_rfl] at hlen
  obtain ⟨d, ed, wd⟩ := field_int hxl hf 0 0 rfl rfl rfl
  obtain ⟨s, es, ws⟩ := field_int hxl hf 1 1 rfl rfl rfl
  obtain ⟨u, eu, wu⟩ := field_int hxl hf 2 2 rfl rfl rfl
  refine ⟨⟨d, s, u⟩, ⟨wd, ws, wu⟩, cells_eq hlen fun i hi => ?_⟩
  have hh : i = 0 ∨ i = 1 ∨ i = 2 := by omega
  rcases hh with rfl | rfl | rfl
  · exact ed
  · exact es
  · exact eu
set_option maxRecDepth 100000 in
theorem trod_ent (h : DataW.trod enc Tryz.prog W 0 (fun _ => true) true fuel 52 cs = some x) : ∃ a : En, True ∧ cs = (List.range 35).map (enC a) := by
  obtain ⟨xs, n, rfl, _, hlen, hxl, hf⟩ := DataW.trod_struct Tryz.underlying52 h
  rw [show Tryz.prog.cellsOf 52 = 35 by kernel_rfl] at hlen
  obtain ⟨k, ek, _⟩ := field_int hxl hf 0 0 rfl rfl rfl
  obtain ⟨_, h1⟩ := field_at hxl hf 1 1 32 23 rfl rfl rfl (by kernel_rfl)
  obtain ⟨dg, hdg, ec⟩ := trod_dig h1
  obtain ⟨_, h2⟩ := field_at hxl hf 2 33 1 38 rfl rfl rfl (by kernel_rfl)
  have e2 : ∃ a n c, cs[33]? = some (.slice a n c) := by
    rcases Deep.open_slice Tryz.underlying38 h2 with ⟨h0, _⟩ | ⟨a, l, c, _, _, _, _, h0, _⟩
    · exact ⟨none, 0, 0, drop_one h0⟩
    · exact ⟨some a, l, c, drop_one h0⟩
  obtain ⟨sa, sn, sc, e2⟩ := e2
  obtain ⟨_, h3⟩ := field_at hxl hf 3 34 1 4 rfl rfl rfl (by kernel_rfl)
  obtain ⟨g, e3, _⟩ := DataW.trod_bool Tryz.underlying4 h3
  have e3 := drop_one e3
  refine ⟨⟨k, dg, sa, sn, sc, g⟩, trivial, cells_eq hlen fun i hi => ?_⟩
  unfold enC
  by_cases h0 : i = 0
  · rw [if_pos h0]; subst h0; exact ek
  · rw [if_neg h0]
    by_cases h32 : i < 33
    · rw [if_pos h32]
      have := ec (i - 1) (by omega)
      rw [List.getElem?_take_of_lt (by omega), List.getElem?_drop] at this
      rw [show 1 + (i - 1) = i by omega] at this
      exact this
    · rw [if_neg h32]
      by_cases h33 : i = 33
      · rw [if_pos h33]; subst h33; exact e2
      · rw [if_neg h33]; obtain rfl : i = 34 := by omega
        exact e3
set_option maxRecDepth 100000 in
theorem ack_open {v : Value} {d : DataW H} {p : List MemPlace} {base : Nat}
    (hok : Value.okWide Tryz.prog W .any base 27 v) (hj : DataW.Trod enc Tryz.prog W 0 (fun _ => true) true 27 v d p) : ∃ a : Ak, a.wf ∧ v = .agg (rowF 38 (akC a)) := by
  obtain ⟨cs, rfl, hs⟩ := okWide_struct Tryz.underlying27 hok
  obtain ⟨fuel, hf⟩ := hj
  obtain ⟨a, wa, h⟩ := trod_ack hf
  refine ⟨a, wa, ?_⟩
  have h2 : cs.toList = (List.range 38).map (akC a) := h
  rw [show cs = cs.toList.toArray by simp, h2]; rfl
set_option maxRecDepth 100000 in
theorem mem_open {v : Value} {d : DataW H} {p : List MemPlace} {base : Nat}
    (hok : Value.okWide Tryz.prog W .any base 48 v) (hj : DataW.Trod enc Tryz.prog W 0 (fun _ => true) true 48 v d p) : ∃ a : Mb, a.wf ∧ v = .agg (rowF 3 (mbC a)) := by
  obtain ⟨cs, rfl, hs⟩ := okWide_struct Tryz.underlying48 hok
  obtain ⟨fuel, hf⟩ := hj
  obtain ⟨a, wa, h⟩ := trod_mem hf
  refine ⟨a, wa, ?_⟩
  have h2 : cs.toList = (List.range 3).map (mbC a) := h
  rw [show cs = cs.toList.toArray by simp, h2]; rfl
set_option maxRecDepth 100000 in
/-- a slice of structs that came in -/
theorem slice_open {α : Type} {T e : TypeId} {s : Nat} {c : α → Nat → Value} {good : α → Prop} (d0 : α) (ht : Tryz.prog.underlying T = some (.slice e)) (hc : Tryz.prog.cellsOf e = s) (hs0 : 0 < s)
    (hel : ∀ n cs x, DataW.trod enc Tryz.prog W 0 (fun _ => true) true n e cs = some x → ∃ a : α, good a ∧ cs = (List.range s).map (c a))
    {v : Value} {d : DataW H} {p : List MemPlace} {base : Nat}
    (hok : Value.okWide Tryz.prog W .any base T v) (hj : DataW.Trod enc Tryz.prog W 0 (fun _ => true) true T v d p)
    (hs : ∀ elems spare, d = .slice elems spare → elems.length + spare.length ≤ reachBytes) :
    ∃ l : List α, (∀ a ∈ l, good a) ∧ SlAt s W v l.length (fun i => c (l.getD i d0)) := by
  obtain ⟨a, len, cap, rfl⟩ := okWide_slice ht hok
  obtain ⟨fuel, hf⟩ := hj
  rcases Deep.open_slice ht hf with ⟨hcs, _⟩ | ⟨x, l, cp, m, n, D, Pl, hcs, _, hl, hm, hmm, hx, hi⟩
  · simp [Value.cells] at hcs
    obtain ⟨rfl, rfl, rfl⟩ := hcs
    exact ⟨[], (fun a h => by cases h), .inl ⟨⟨none, 0, rfl, fun _ => rfl⟩, rfl⟩⟩
  · simp [Value.cells] at hcs
    obtain ⟨rfl, rfl, rfl⟩ := hcs
    obtain rfl : m = cap := by simpa using hmm
    simp only [Prod.mk.injEq] at hx
    have hr := hs _ _ hx.1
    simp only [List.length_map, List.length_range] at hr
    unfold reachBytes at hr
    unfold maxLen at hm
    rcases Nat.eq_zero_or_pos len with h0 | h0
    · subst h0
      exact ⟨[], (fun a h => by cases h), .inl ⟨⟨_, _, rfl, fun h => by cases h⟩, rfl⟩⟩
    have each : ∀ i, ∃ a : α, i < len → good a ∧ ∀ j, j < s → W.cell? (x.add (s * i + j)) = some (c a j) := by
      intro i
      by_cases hil : i < len
      · obtain ⟨cs', h1, h2⟩ := hi i (by omega)
        obtain ⟨a, hg, rfl⟩ := hel _ _ _ h2
        obtain ⟨_, _, hat⟩ := World.cells?_some h1
        refine ⟨a, fun _ => ⟨hg, fun j hj => ?_⟩⟩
        have h3 := hat j (by rw [hc]; exact hj)
        rw [Go.Deep.add_add, hc] at h3
        rw [Nat.mul_comm s i, h3, List.getElem?_map, List.getElem?_range hj]; rfl
      · exact ⟨d0, fun h => absurd h hil⟩
    obtain ⟨f, hf⟩ := Classical.axiomOfChoice each
    have hlt : ((List.range len).map f).length = len := by simp
    obtain ⟨b, off, spot⟩ := x
    have hc0 := (hf 0 h0).2 0 hs0
    have hspot : spot = none := by simpa [Addr.add] using World.cell?_spot hc0
    subst hspot
    have hb : b < W.heap.size := block_of_cell (show W.cell? ⟨b, off, none⟩ = some _ by simpa [Addr.add] using hc0)
    refine ⟨(List.range len).map f, fun a ha => ?_, .inr ⟨b, off, m, by rw [hlt], by rw [hlt]; omega, by rw [hlt]; omega, ⟨by rw [hlt]; omega, by omega⟩, hb, fun i hil j hj => ?_⟩⟩
    · obtain ⟨i, hi, rfl⟩ := List.mem_map.1 ha
      exact (hf i (List.mem_range.1 hi)).1
    · rw [hlt] at hil
      have h1 := (hf i hil).2 j hj
      show W.cell? _ = some (c (((List.range len).map f).getD i d0) j)
      rw [List.getD_eq_getElem?_getD, List.getElem?_map, List.getElem?_range hil]
      have h2 : (Addr.add ⟨b, off, none⟩ (s * i + j)) = ⟨b, off + s * i + j, none⟩ := by
        unfold Addr.add; simp [Nat.add_assoc]
      rw [h2] at h1
      exact h1
end
theorem repF_bd {r : Nat} (hf : ∀ (b : List UInt8) (v : Tv) (b' : List UInt8), valF r b = some (v, b') → b.length ≤ 1000000 → bdV v) : ∀ (n : Nat) (b : List UInt8) (l : List Tv) (b' : List UInt8), repF (valF r) n b = some (l, b') → b.length ≤ 1000000 → bdL l
  | 0, b, l, b', h, hb => by
    simp only [repF, Option.some.injEq, Prod.mk.injEq] at h
    obtain ⟨rfl, rfl⟩ := h
    simp [bdL]
  | n + 1, b, l, b', h, hb => by
    unfold repF at h
    split at h
    · cases h
    · rename_i v b1 h1
      obtain ⟨⟨l', b2⟩, h2, h3⟩ := Option.map_eq_some_iff.1 h
      simp only [Prod.mk.injEq] at h3
      obtain ⟨rfl, rfl⟩ := h3
      have e1 := hf _ _ _ h1 hb
      have hle : b1.length ≤ b.length := by rw [(valF_enc _ _ _ _ h1).2.2, List.length_append]; omega
      have f1 := repF_bd hf n b1 l' b2 h2 (by omega)
      unfold bdL
      exact ⟨e1, f1⟩
theorem valF_bd : ∀ (r : Nat) (b : List UInt8) (v : Tv) (b' : List UInt8), valF r b = some (v, b') → b.length ≤ 1000000 → bdV v
  | _, [], _, _, h, _ => by simp [valF] at h
  | r, c :: b, v, b', h, hb => by
    rw [List.length_cons] at hb
    unfold valF at h
    split at h
    · obtain ⟨⟨n, b1⟩, h1, h2⟩ := Option.map_eq_some_iff.1 h
      simp only [Prod.mk.injEq] at h2
      obtain ⟨rfl, rfl⟩ := h2
      unfold bdV
      exact ⟨unzig_bd (numF_lt h1), by decide, by decide, by simp [bdL]⟩
    · split at h
      · split at h
        · cases h
        · rename_i n b1 h1
          split at h
          · rename_i hn
            simp only [Option.some.injEq, Prod.mk.injEq] at h
            obtain ⟨rfl, rfl⟩ := h
            have hl := numF_len h1
            unfold bdV
            have hs : (ByteArray.mk (b1.take n).toArray).size = n := by simp [ByteArray.size]; omega
            exact ⟨⟨by decide, by decide⟩, by rw [hs]; omega, by decide, by simp [bdL]⟩
          · cases h
      · split at h
        · split at h
          · cases h
          · split at h
            · cases h
            · rename_i r' _ n b1 h1
              split at h
              · rename_i hn
                obtain ⟨⟨l, b2⟩, h2, h3⟩ := Option.map_eq_some_iff.1 h
                simp only [Prod.mk.injEq] at h3
                obtain ⟨rfl, rfl⟩ := h3
                have hl := numF_len h1
                have f1 := repF_bd (valF_bd r') n b1 l b2 h2 (by omega)
                have f2 := (repF_enc (valF_enc r') n b1 l b2 h2).1
                unfold bdV
                exact ⟨⟨by decide, by decide⟩, by decide, by omega, f1⟩
              · cases h
        · cases h
theorem decF_bd {b : List UInt8} {v : Tv} (h : decF b = some v) (hb : b.length ≤ 1000000) : bdV v := by
  unfold decF at h
  split at h
  · rename_i v' h1
    simp only [Option.some.injEq] at h
    subst h
    exact valF_bd 16 b v' [] h1 hb
  · cases h
theorem bdL_n : ∀ {l : List Tv}, bdL l → ∀ i, i64B (l.getD i tv0).n
  | [], _, i => ⟨by show (-9223372036854775808 : Int) ≤ 0; decide, by show (0 : Int) < 9223372036854775808; decide⟩
  | t :: l, h, i => by
    unfold bdL at h
    cases i with
    | zero => cases t with | mk k n s l' => have h1 := h.1; unfold bdV at h1; exact h1.1
    | succ i => exact bdL_n h.2 i
theorem adecV_wf (l : List UInt8) (hl : l.length ≤ 1000000) : (adecV l).wf := by
  unfold adecV
  split
  · cases h : decF l with
    | none => exact ak0_wf
    | some t =>
      have hb := decF_bd h hl
      obtain ⟨k, n, s, ts⟩ := t
      unfold bdV at hb
      have h1 := bdL_n hb.2.2.2
      exact ⟨h1 0, h1 1, h1 2, h1 3, chP_len _, h1 5, h1 6⟩
  · exact ak0_wf
end Go.Proofs.YtbjbgneejdjniaaGreatDoor
