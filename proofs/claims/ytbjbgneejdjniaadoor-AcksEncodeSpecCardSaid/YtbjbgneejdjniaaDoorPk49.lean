/- Acknowledgements, members and entries that came in, opened; what is decoded fits. The statements' examples hold: sane. append onto an own slice of structs, the source nil, empty or not; an own slice without cells. regions that draw: what lies below a fixed number stays (every step of the region is Below it). -/
import Derived.Test.YtbjbgneejdjniaaDoorPk47
import Derived.Test.YtbjbgneejdjniaaDoorPk48
import Derived.Deep.Slices
set_option linter.unusedVariables false
set_option linter.unusedSimpArgs false
namespace Go.Proofs.YtbjbgneejdjniaaDoor
open Go.ChangeShapes Go.WideShapes Go.ChangeAt Go.RowKit Cod
section
variable {H : Type} {enc : TypeId × Value → H} {W : World} {fuel : Nat} {cs : List Value} {x : DataW H × List MemPlace}
theorem drop_one {l : List Value} {i : Nat} {v : Value} (h : (l.drop i).take 1 = [v]) : l[i]? = some v := by
  have := congrArg (·[0]?) h
  simpa [List.getElem?_take, List.getElem?_drop] using this
set_option maxRecDepth 100000 in
theorem trod_dig (h : DataW.trod enc Tryd.prog W 0 (fun _ => true) true fuel 23 cs = some x) : ∃ l : List UInt8, l.length = 32 ∧ ∀ i, i < 32 → cs[i]? = some (vB (l.getD i 0)) := by
  obtain ⟨xs, m, rfl, _, _, hn, hel⟩ := DataW.trod_array Tryd.underlying23 h
  have hc1 : Tryd.prog.cellsOf 5 = 1 := by kernel_rfl
  have each : ∀ i, i < 32 → ∃ z, cs[i]? = some (.int .u8 z) ∧ (Lit.int .u8 z).wf = true := by
    intro i hi
    have h1 := hel i hi
    rw [List.getElem?_eq_getElem (by omega)] at h1
    obtain ⟨z, e1, _, e3⟩ := DataW.trod_int Tryd.underlying5 h1
    rw [hc1, Nat.mul_one] at e1
    exact ⟨z, drop_one e1, e3⟩
  refine ⟨(List.range 32).map fun (i : Nat) => match (cs[i]? : Option Value) with | some (Value.int _ z) => UInt8.ofNat z.toNat | _ => 0, by simp, fun i hi => ?_⟩
  obtain ⟨z, e1, e2⟩ := each i hi
  rw [e1, vB_of e2]
  congr 2
  rw [List.getD_eq_getElem?_getD, List.getElem?_map, List.getElem?_range hi]
  simp [e1]
theorem i64B_of {z : Int} (h : (Lit.int .i64 z).wf = true) : i64B z := by have := i64_bd h; unfold i64B; omega
theorem cells_eq {cs : List Value} {s : Nat} {c : Nat → Value} (hl : cs.length = s) (h : ∀ i, i < s → cs[i]? = some (c i)) : cs = (List.range s).map c := by
  apply List.ext_getElem?
  intro i
  by_cases hi : i < s
  · rw [h i hi, List.getElem?_map, List.getElem?_range hi]; rfl
  · rw [List.getElem?_eq_none (by omega), List.getElem?_eq_none (by simp; omega)]
theorem field_at {fs : Array Field} {cs : List Value} {xs : List (DataW H × List MemPlace)} {n : Nat} (hlen : xs.length = fs.size)
    (hf : ∀ (i : Nat) (f : Field), fs[i]? = some f → DataW.trod enc Tryd.prog W 0 (fun _ => true) true n f.type ((cs.drop f.offset).take (Tryd.prog.cellsOf f.type)) = xs[i]?)
    (i o c : Nat) (T : TypeId) {f : Field} (hi : fs[i]? = some f) (ht : f.type = T) (ho : f.offset = o) (hc : Tryd.prog.cellsOf T = c) : ∃ y, DataW.trod enc Tryd.prog W 0 (fun _ => true) true n T ((cs.drop o).take c) = some y := by
  have h1 := hf i f hi
  have hil : i < fs.size := (Array.getElem?_eq_some_iff.1 hi).1
  rw [List.getElem?_eq_getElem (by omega), ht, ho, hc] at h1
  exact ⟨_, h1⟩
theorem field_int {fs : Array Field} {cs : List Value} {xs : List (DataW H × List MemPlace)} {n : Nat} (hlen : xs.length = fs.size)
    (hf : ∀ (i : Nat) (f : Field), fs[i]? = some f → DataW.trod enc Tryd.prog W 0 (fun _ => true) true n f.type ((cs.drop f.offset).take (Tryd.prog.cellsOf f.type)) = xs[i]?)
    (i o : Nat) {f : Field} (hi : fs[i]? = some f) (ht : f.type = 3) (ho : f.offset = o) : ∃ z, cs[o]? = some (.int .i64 z) ∧ i64B z := by
  obtain ⟨y, h1⟩ := field_at hlen hf i o 1 3 hi ht ho (by kernel_rfl)
  obtain ⟨z, e1, _, e3⟩ := DataW.trod_int Tryd.underlying3 h1
  exact ⟨z, drop_one e1, i64B_of e3⟩
set_option maxRecDepth 100000 in
theorem trod_ack (h : DataW.trod enc Tryd.prog W 0 (fun _ => true) true fuel 27 cs = some x) : ∃ a : Ak, a.wf ∧ cs = (List.range 38).map (akC a) := by
  obtain ⟨xs, n, rfl, _, hlen, hxl, hf⟩ := DataW.trod_struct Tryd.underlying27 h
  rw [show Tryd.prog.cellsOf 27 = 38 by kernel_rfl] at hlen
  obtain ⟨f, ef, wf⟩ := field_int hxl hf 0 0 rfl rfl rfl
  obtain ⟨d, ed, wd⟩ := field_int hxl hf 1 1 rfl rfl rfl
  obtain ⟨s, es, ws⟩ := field_int hxl hf 2 2 rfl rfl rfl
  obtain ⟨u, eu, wu⟩ := field_int hxl hf 3 3 rfl rfl rfl
  obtain ⟨_, h4⟩ := field_at hxl hf 4 4 32 23 rfl rfl rfl (by kernel_rfl)
  obtain ⟨ch, hch, ec⟩ := trod_dig h4
  obtain ⟨_, h5⟩ := field_at hxl hf 5 36 2 25 rfl rfl rfl (by kernel_rfl)
  obtain ⟨ys, n2, rfl, _, hlen2, hyl, hg⟩ := DataW.trod_struct Tryd.underlying25 h5
  obtain ⟨r, er, wr⟩ := field_int hyl hg 0 0 rfl rfl rfl
  obtain ⟨g, eg, wg⟩ := field_int hyl hg 1 1 rfl rfl rfl
  refine ⟨⟨f, d, s, u, ch, r, g⟩, ⟨wf, wd, ws, wu, hch, wr, wg⟩, cells_eq hlen fun i hi => ?_⟩
  unfold akC
  by_cases h32 : 4 ≤ i ∧ i < 36
  · rw [if_pos h32]
    have := ec (i - 4) (by omega)
    rw [List.getElem?_take_of_lt (by omega), List.getElem?_drop] at this
    rw [show 4 + (i - 4) = i by omega] at this
    exact this
  · rw [if_neg h32]
    have hh : i = 0 ∨ i = 1 ∨ i = 2 ∨ i = 3 ∨ i = 36 ∨ i = 37 := by omega
    rcases hh with rfl | rfl | rfl | rfl | rfl | rfl
    · exact ef
    · exact ed
    · exact es
    · exact eu
    · rw [List.getElem?_take_of_lt (by decide), List.getElem?_drop] at er; exact er
    · rw [List.getElem?_take_of_lt (by decide), List.getElem?_drop] at eg; exact eg
theorem trod_mem (h : DataW.trod enc Tryd.prog W 0 (fun _ => true) true fuel 47 cs = some x) : ∃ a : Mb, a.wf ∧ cs = (List.range 3).map (mbC a) := by
  obtain ⟨xs, n, rfl, _, hlen, hxl, hf⟩ := DataW.trod_struct Tryd.underlying47 h
  rw [show Tryd.prog.cellsOf 47 = 3 by kernel_rfl] at hlen
  obtain ⟨d, ed, wd⟩ := field_int hxl hf 0 0 rfl rfl rfl
  obtain ⟨s, es, ws⟩ := field_int hxl hf 1 1 rfl rfl rfl
  obtain ⟨u, eu, wu⟩ := field_int hxl hf 2 2 rfl rfl rfl
  refine ⟨⟨d, s, u⟩, ⟨wd, ws, wu⟩, cells_eq hlen fun i hi => ?_⟩
  have hh : i = 0 ∨ i = 1 ∨ i = 2 := by omega
  rcases hh with rfl | rfl | rfl
  · exact ed
  · exact es
  · exact eu
set_option maxRecDepth 100000 in
theorem trod_ent (h : DataW.trod enc Tryd.prog W 0 (fun _ => true) true fuel 45 cs = some x) : ∃ a : En, True ∧ cs = (List.range 35).map (enC a) := by
  obtain ⟨xs, n, rfl, _, hlen, hxl, hf⟩ := DataW.trod_struct Tryd.underlying45 h
  rw [show Tryd.prog.cellsOf 45 = 35 by kernel_rfl] at hlen
  obtain ⟨k, ek, _⟩ := field_int hxl hf 0 0 rfl rfl rfl
  obtain ⟨_, h1⟩ := field_at hxl hf 1 1 32 23 rfl rfl rfl (by kernel_rfl)
  obtain ⟨dg, hdg, ec⟩ := trod_dig h1
  obtain ⟨_, h2⟩ := field_at hxl hf 2 33 1 28 rfl rfl rfl (by kernel_rfl)
  have e2 : ∃ a n c, cs[33]? = some (.slice a n c) := by
    rcases Deep.open_slice Tryd.underlying28 h2 with ⟨h0, _⟩ | ⟨a, l, c, _, _, _, _, h0, _⟩
    · exact ⟨none, 0, 0, drop_one h0⟩
    · exact ⟨some a, l, c, drop_one h0⟩
  obtain ⟨sa, sn, sc, e2⟩ := e2
  obtain ⟨_, h3⟩ := field_at hxl hf 3 34 1 4 rfl rfl rfl (by kernel_rfl)
  obtain ⟨g, e3, _⟩ := DataW.trod_bool Tryd.underlying4 h3
  have e3 := drop_one e3
  refine ⟨⟨k, dg, sa, sn, sc, g⟩, trivial, cells_eq hlen fun i hi => ?_⟩
  unfold enC
  by_cases h0 : i = 0
  · rw [if_pos h0]; subst h0; exact ek
  · rw [if_neg h0]
    by_cases h32 : i < 33
    · rw [if_pos h32]
      have := ec (i - 1) (by omega)
      rw [List.getElem?_take_of_lt (by omega), List.getElem?_drop] at this
      rw [show 1 + (i - 1) = i by omega] at this
      exact this
    · rw [if_neg h32]
      by_cases h33 : i = 33
      · rw [if_pos h33]; subst h33; exact e2
      · rw [if_neg h33]; obtain rfl : i = 34 := by omega
        exact e3
set_option maxRecDepth 100000 in
theorem ack_open {v : Value} {d : DataW H} {p : List MemPlace} {base : Nat}
    (hok : Value.okWide Tryd.prog W .any base 27 v) (hj : DataW.Trod enc Tryd.prog W 0 (fun _ => true) true 27 v d p) : ∃ a : Ak, a.wf ∧ v = .agg (rowF 38 (akC a)) := by
  obtain ⟨cs, rfl, hs⟩ := okWide_struct Tryd.underlying27 hok
  obtain ⟨fuel, hf⟩ := hj
  obtain ⟨a, wa, h⟩ := trod_ack hf
  refine ⟨a, wa, ?_⟩
  have h2 : cs.toList = (List.range 38).map (akC a) := h
  rw [show cs = cs.toList.toArray by simp, h2]; rfl
set_option maxRecDepth 100000 in
theorem mem_open {v : Value} {d : DataW H} {p : List MemPlace} {base : Nat}
    (hok : Value.okWide Tryd.prog W .any base 47 v) (hj : DataW.Trod enc Tryd.prog W 0 (fun _ => true) true 47 v d p) : ∃ a : Mb, a.wf ∧ v = .agg (rowF 3 (mbC a)) := by
  obtain ⟨cs, rfl, hs⟩ := okWide_struct Tryd.underlying47 hok
  obtain ⟨fuel, hf⟩ := hj
  obtain ⟨a, wa, h⟩ := trod_mem hf
  refine ⟨a, wa, ?_⟩
  have h2 : cs.toList = (List.range 3).map (mbC a) := h
  rw [show cs = cs.toList.toArray by simp, h2]; rfl
set_option maxRecDepth 100000 in
/-- a slice of structs that came in -/
theorem slice_open {α : Type} {T e : TypeId} {s : Nat} {c : α → Nat → Value} {good : α → Prop} (d0 : α) (ht : Tryd.prog.underlying T = some (.slice e)) (hc : Tryd.prog.cellsOf e = s) (hs0 : 0 < s)
    (hel : ∀ n cs x, DataW.trod enc Tryd.prog W 0 (fun _ => true) true n e cs = some x → ∃ a : α, good a ∧ cs = (List.range s).map (c a))
    {v : Value} {d : DataW H} {p : List MemPlace} {base : Nat}
    (hok : Value.okWide Tryd.prog W .any base T v) (hj : DataW.Trod enc Tryd.prog W 0 (fun _ => true) true T v d p)
    (hs : ∀ elems spare, d = .slice elems spare → elems.length + spare.length ≤ reachBytes) :
    ∃ l : List α, (∀ a ∈ l, good a) ∧ SlAt s W v l.length (fun i => c (l.getD i d0)) := by
  obtain ⟨a, len, cap, rfl⟩ := okWide_slice ht hok
  obtain ⟨fuel, hf⟩ := hj
  rcases Deep.open_slice ht hf with ⟨hcs, _⟩ | ⟨x, l, cp, m, n, D, Pl, hcs, _, hl, hm, hmm, hx, hi⟩
  · simp [Value.cells] at hcs
    obtain ⟨rfl, rfl, rfl⟩ := hcs
    exact ⟨[], (fun a h => by cases h), .inl ⟨⟨none, 0, rfl, fun _ => rfl⟩, rfl⟩⟩
  · simp [Value.cells] at hcs
    obtain ⟨rfl, rfl, rfl⟩ := hcs
    obtain rfl : m = cap := by simpa using hmm
    simp only [Prod.mk.injEq] at hx
    have hr := hs _ _ hx.1
    simp only [List.length_map, List.length_range] at hr
    unfold reachBytes at hr
    unfold maxLen at hm
    rcases Nat.eq_zero_or_pos len with h0 | h0
    · subst h0
      exact ⟨[], (fun a h => by cases h), .inl ⟨⟨_, _, rfl, fun h => by cases h⟩, rfl⟩⟩
    have each : ∀ i, ∃ a : α, i < len → good a ∧ ∀ j, j < s → W.cell? (x.add (s * i + j)) = some (c a j) := by
      intro i
      by_cases hil : i < len
      · obtain ⟨cs', h1, h2⟩ := hi i (by omega)
        obtain ⟨a, hg, rfl⟩ := hel _ _ _ h2
        obtain ⟨_, _, hat⟩ := World.cells?_some h1
        refine ⟨a, fun _ => ⟨hg, fun j hj => ?_⟩⟩
        have h3 := hat j (by rw [hc]; exact hj)
        rw [Go.Deep.add_add, hc] at h3
        rw [Nat.mul_comm s i, h3, List.getElem?_map, List.getElem?_range hj]; rfl
      · exact ⟨d0, fun h => absurd h hil⟩
    obtain ⟨f, hf⟩ := Classical.axiomOfChoice each
    have hlt : ((List.range len).map f).length = len := by simp
    obtain ⟨b, off, spot⟩ := x
    have hc0 := (hf 0 h0).2 0 hs0
    have hspot : spot = none := by simpa [Addr.add] using World.cell?_spot hc0
    subst hspot
    have hb : b < W.heap.size := block_of_cell (show W.cell? ⟨b, off, none⟩ = some _ by simpa [Addr.add] using hc0)
    refine ⟨(List.range len).map f, fun a ha => ?_, .inr ⟨b, off, m, by rw [hlt], by rw [hlt]; omega, by rw [hlt]; omega, ⟨by rw [hlt]; omega, by omega⟩, hb, fun i hil j hj => ?_⟩⟩
    · obtain ⟨i, hi, rfl⟩ := List.mem_map.1 ha
      exact (hf i (List.mem_range.1 hi)).1
    · rw [hlt] at hil
      have h1 := (hf i hil).2 j hj
      show W.cell? _ = some (c (((List.range len).map f).getD i d0) j)
      rw [List.getD_eq_getElem?_getD, List.getElem?_map, List.getElem?_range hil]
      have h2 : (Addr.add ⟨b, off, none⟩ (s * i + j)) = ⟨b, off + s * i + j, none⟩ := by
        unfold Addr.add; simp [Nat.add_assoc]
      rw [h2] at h1
      exact h1
end
theorem repF_bd {r : Nat} (hf : ∀ (b : List UInt8) (v : Tv) (b' : List UInt8), valF r b = some (v, b') → b.length ≤ 1000000 → bdV v) : ∀ (n : Nat) (b : List UInt8) (l : List Tv) (b' : List UInt8), repF (valF r) n b = some (l, b') → b.length ≤ 1000000 → bdL l
  | 0, b, l, b', h, hb => by
    simp only [repF, Option.some.injEq, Prod.mk.injEq] at h
    obtain ⟨rfl, rfl⟩ := h
    simp [bdL]
  | n + 1, b, l, b', h, hb => by
    unfold repF at h
    split at h
    · cases h
    · rename_i v b1 h1
      obtain ⟨⟨l', b2⟩, h2, h3⟩ := Option.map_eq_some_iff.1 h
      simp only [Prod.mk.injEq] at h3
      obtain ⟨rfl, rfl⟩ := h3
      have e1 := hf _ _ _ h1 hb
      have hle : b1.length ≤ b.length := by rw [(valF_enc _ _ _ _ h1).2.2, List.length_append]; omega
      have f1 := repF_bd hf n b1 l' b2 h2 (by omega)
      unfold bdL
      exact ⟨e1, f1⟩
theorem valF_bd : ∀ (r : Nat) (b : List UInt8) (v : Tv) (b' : List UInt8), valF r b = some (v, b') → b.length ≤ 1000000 → bdV v
  | _, [], _, _, h, _ => by simp [valF] at h
  | r, c :: b, v, b', h, hb => by
    rw [List.length_cons] at hb
    unfold valF at h
    split at h
    · obtain ⟨⟨n, b1⟩, h1, h2⟩ := Option.map_eq_some_iff.1 h
      simp only [Prod.mk.injEq] at h2
      obtain ⟨rfl, rfl⟩ := h2
      unfold bdV
      exact ⟨unzig_bd (numF_lt h1), by decide, by decide, by simp [bdL]⟩
    · split at h
      · split at h
        · cases h
        · rename_i n b1 h1
          split at h
          · rename_i hn
            simp only [Option.some.injEq, Prod.mk.injEq] at h
            obtain ⟨rfl, rfl⟩ := h
            have hl := numF_len h1
            unfold bdV
            have hs : (ByteArray.mk (b1.take n).toArray).size = n := by simp [ByteArray.size]; omega
            exact ⟨⟨by decide, by decide⟩, by rw [hs]; omega, by decide, by simp [bdL]⟩
          · cases h
      · split at h
        · split at h
          · cases h
          · split at h
            · cases h
            · rename_i r' _ n b1 h1
              split at h
              · rename_i hn
                obtain ⟨⟨l, b2⟩, h2, h3⟩ := Option.map_eq_some_iff.1 h
                simp only [Prod.mk.injEq] at h3
                obtain ⟨rfl, rfl⟩ := h3
                have hl := numF_len h1
                have f1 := repF_bd (valF_bd r') n b1 l b2 h2 (by omega)
                have f2 := (repF_enc (valF_enc r') n b1 l b2 h2).1
                unfold bdV
                exact ⟨⟨by decide, by decide⟩, by decide, by omega, f1⟩
              · cases h
        · cases h
theorem decF_bd {b : List UInt8} {v : Tv} (h : decF b = some v) (hb : b.length ≤ 1000000) : bdV v := by
  unfold decF at h
  split at h
  · rename_i v' h1
    simp only [Option.some.injEq] at h
    subst h
    exact valF_bd 16 b v' [] h1 hb
  · cases h
theorem bdL_n : ∀ {l : List Tv}, bdL l → ∀ i, i64B (l.getD i tv0).n
  | [], _, i => ⟨by show (-9223372036854775808 : Int) ≤ 0; decide, by show (0 : Int) < 9223372036854775808; decide⟩
  | t :: l, h, i => by
    unfold bdL at h
    cases i with
    | zero => cases t with | mk k n s l' => have h1 := h.1; unfold bdV at h1; exact h1.1
    | succ i => exact bdL_n h.2 i
theorem adecV_wf (l : List UInt8) (hl : l.length ≤ 1000000) : (adecV l).wf := by
  unfold adecV
  split
  · cases h : decF l with
    | none => exact ak0_wf
    | some t =>
      have hb := decF_bd h hl
      obtain ⟨k, n, s, ts⟩ := t
      unfold bdV at hb
      have h1 := bdL_n hb.2.2.2
      exact ⟨h1 0, h1 1, h1 2, h1 3, chP_len _, h1 5, h1 6⟩
  · exact ak0_wf
end Go.Proofs.YtbjbgneejdjniaaDoor

namespace Go.Proofs.YtbjbgneejdjniaaDoor
open Go.RowKit Cod
theorem sl_nil {s : Nat} {c : Nat → Nat → Value} (w : World) : SlAt s w (.slice none 0 0) 0 c := .inl ⟨⟨none, 0, rfl, fun _ => rfl⟩, rfl⟩
theorem slAt_row {w : World} {B s : Nat} {T : TypeId} {c : Nat → Nat → Value} (h : RowV w B T s (c 0)) : SlAt s w (.slice (some ⟨B, 0, none⟩) 1 1) 1 c :=
  .inr ⟨B, 0, 1, rfl, Nat.le_refl _, by omega, ⟨by omega, by omega⟩, h.lt, fun i hi j hj => by
    obtain rfl : i = 0 := by omega
    have := h.cell hj
    simpa using this⟩
theorem wpQuiet_unguard {P : Program} {C : World → Prop} {ops : Array Oper} {rest : List Oper} {o : Oper} {a : Act} {Q : Act → Prop} (hw : Region.wanted o (yielded ops a.tmps) = true)
    (h : wpQuiet P ops C Q ({ o with guard := none } :: rest) a) : wpQuiet P ops C Q (o :: rest) a := by
  unfold wpQuiet at h ⊢
  rw [if_pos hw]
  rw [if_pos (show Region.wanted { o with guard := none } (yielded ops a.tmps) = true from rfl)] at h
  exact h
theorem wpQuiet_binOp {P : Program} {C : World → Prop} {ops : Array Oper} {rest : List Oper} {o : Oper} {a : Act} {Q : Act → Prop} (hgd : o.guard = none) (op : BinOp) (T : TypeId) (x y : Operand) (T2 : TypeId) (ho : o.op = .binOp op T x y T2) (u v r : Value) (hx : a.eval x = u) (hy : a.eval y = v)
    (hg : ∀ W, (eqGuard op T x y u v).run P W = .ok () W) (hr : ∀ W, (binOp op T u v).run P W = .ok r W) (h : wpQuiet P ops C Q rest (a.put o.dst r)) : wpQuiet P ops C Q (o :: rest) a :=
  wpQuiet_val hgd r (fun W _ => by
    unfold execOp
    simp only [ho, hx, hy, Sem.run_bind, Sem.run_pure, Result.andThen_ok, hg, hr]) h
theorem OwnT.cells_one {α : Type} {T : TypeId} {s : Nat} {c : α → Nat → Value} {w : World} {base g cap : Nat} {a : α} (d : α) (h : OwnT T s c w base (.slice (some ⟨g, 0, none⟩) 1 cap) [a]) : ∀ i, i < [a].length → ∀ j, j < s → w.cell? ⟨g, s * i + j, none⟩ = some (c ([a].getD i d) j) := fun i hi j hj => by
  have h4 := World.ownsRow.cells h (g := g) rfl (s * i + j) _ (flatS_get d [a] i j hi hj)
  rw [Addr.add_mid, Nat.zero_add] at h4
  exact h4
theorem z32_lit : rowF 32 (dgF z32) = #[.int .u8 0, .int .u8 0, .int .u8 0, .int .u8 0, .int .u8 0, .int .u8 0, .int .u8 0, .int .u8 0, .int .u8 0, .int .u8 0, .int .u8 0, .int .u8 0, .int .u8 0, .int .u8 0, .int .u8 0, .int .u8 0, .int .u8 0, .int .u8 0, .int .u8 0, .int .u8 0, .int .u8 0, .int .u8 0, .int .u8 0, .int .u8 0, .int .u8 0, .int .u8 0, .int .u8 0, .int .u8 0, .int .u8 0, .int .u8 0, .int .u8 0, .int .u8 0] := by kernel_rfl
theorem ch5_lit : rowF 32 (dgF ch5) = #[.int .u8 5, .int .u8 0, .int .u8 0, .int .u8 0, .int .u8 0, .int .u8 0, .int .u8 0, .int .u8 0, .int .u8 0, .int .u8 0, .int .u8 0, .int .u8 0, .int .u8 0, .int .u8 0, .int .u8 0, .int .u8 0, .int .u8 0, .int .u8 0, .int .u8 0, .int .u8 0, .int .u8 0, .int .u8 0, .int .u8 0, .int .u8 0, .int .u8 0, .int .u8 0, .int .u8 0, .int .u8 0, .int .u8 0, .int .u8 0, .int .u8 0, .int .u8 0] := by kernel_rfl
theorem i64s {z : Int} (h : -1000000 ≤ z ∧ z ≤ 1000000) : i64B z := by unfold i64B; omega
theorem akE_wf : akE.wf := mkV_wf (i64s (by decide)) (i64s (by decide)) (i64s (by decide)) (i64s (by decide)) rfl
theorem akZ_wf : akZ.wf := mkV_wf (i64s (by decide)) (i64s (by decide)) (i64s (by decide)) (i64s (by decide)) rfl
theorem encA_rg_len {a : Ak} (ha : a.wf) : (encA a [a.r, a.g]).length ≤ 2000 := encA_len a ha _ (fun z hz => by
  simp only [List.mem_cons, List.not_mem_nil, or_false] at hz
  rcases hz with rfl | rfl
  · exact ha.r
  · exact ha.g) (by simp)
theorem enc7_len : (encV (numT 7)).length ≤ 11 := by
  have := encL_nums_len [7] (fun z hz => by rw [List.mem_singleton] at hz; subst hz; exact i64s (by decide))
  simpa [encL] using this
/-- an own slice of numbers reads as a list -/
theorem ints_own {w : World} {base : Nat} {v : Value} {l : List Int} (h : w.ownsRow base 3 1 v l.length (l.map (Value.int .i64))) (hn : l.length ≤ 1000000) : IntsS w v l := by
  rcases h.2 with ⟨rfl, h3⟩ | ⟨g, cap, cur, rfl, hb, hg, hle, hm, hs, ht⟩
  · exact .inl ⟨⟨none, 0, rfl, fun _ => rfl⟩, h3⟩
  · by_cases h0 : l.length = 0
    · exact .inl ⟨⟨_, cap, by rw [h0], fun h => by cases h⟩, h0⟩
    · unfold maxLen at hm
      refine .inr ⟨g, 0, cap, rfl, hle, by omega, ⟨by omega, by omega⟩, (Array.getElem?_eq_some_iff.1 hg).1, fun i hi j hj => ?_⟩
      obtain rfl : j = 0 := by omega
      have h4 := World.ownsRow.cells h (g := g) rfl i (.int .i64 (l.getD i 0)) (by simp [List.getD_eq_getElem?_getD, hi])
      rw [Addr.add_mid] at h4
      simpa using h4
theorem akE_ok : okA akE = true := by unfold akE; rw [(mkV_ok mk2).1]; exact (mkV_ok mk2).2.1
set_option maxRecDepth 100000 in
set_option maxHeartbeats 4000000 in
theorem sane33_any (w : World) (hT : Tab w) :
    Calls Tryd.prog 8 #[] w fun e w' => e = .returned (.bool true) ∧ Below w.heap.size w w' := by
  have c1 : ∀ W, Tab W → Calls Tryd.prog 21 #[.int .i64 16, .int .i64 0, .int .i64 0, .int .i64 0, .agg #[.int .u8 0, .int .u8 0, .int .u8 0, .int .u8 0, .int .u8 0, .int .u8 0, .int .u8 0, .int .u8 0, .int .u8 0, .int .u8 0, .int .u8 0, .int .u8 0, .int .u8 0, .int .u8 0, .int .u8 0, .int .u8 0, .int .u8 0, .int .u8 0, .int .u8 0, .int .u8 0, .int .u8 0, .int .u8 0, .int .u8 0, .int .u8 0, .int .u8 0, .int .u8 0, .int .u8 0, .int .u8 0, .int .u8 0, .int .u8 0, .int .u8 0, .int .u8 0], .int .i64 5] W fun e w' => e = .returned (.tuple #[.agg (rowF 38 (akC ak0)), .int .i64 330]) ∧ Below W.heap.size W w' := fun W h => by
    have := amake_any 16 0 0 0 z32 5 (i64s (by decide)) (i64s (by decide)) (i64s (by decide)) (i64s (by decide)) rfl W h
    rwa [z32_lit, mk1, show mkV 16 0 0 0 z32 5 = ak0 by unfold mkV; rw [mk1]; rfl] at this
  have c2 : ∀ W, Tab W → Calls Tryd.prog 21 #[.int .i64 1, .int .i64 2, .int .i64 3, .int .i64 4, .agg #[.int .u8 5, .int .u8 0, .int .u8 0, .int .u8 0, .int .u8 0, .int .u8 0, .int .u8 0, .int .u8 0, .int .u8 0, .int .u8 0, .int .u8 0, .int .u8 0, .int .u8 0, .int .u8 0, .int .u8 0, .int .u8 0, .int .u8 0, .int .u8 0, .int .u8 0, .int .u8 0, .int .u8 0, .int .u8 0, .int .u8 0, .int .u8 0, .int .u8 0, .int .u8 0, .int .u8 0, .int .u8 0, .int .u8 0, .int .u8 0, .int .u8 0, .int .u8 0], .int .i64 6] W fun e w' => e = .returned (.tuple #[.agg (rowF 38 (akC akE)), .int .i64 0]) ∧ Below W.heap.size W w' := fun W h => by
    have := amake_any 1 2 3 4 ch5 6 (i64s (by decide)) (i64s (by decide)) (i64s (by decide)) (i64s (by decide)) rfl W h
    rwa [ch5_lit, mk2] at this
  have c3 : ∀ W, Tab W → Calls Tryd.prog 21 #[.int .i64 1, .int .i64 2, .int .i64 3, .int .i64 0, .agg #[.int .u8 0, .int .u8 0, .int .u8 0, .int .u8 0, .int .u8 0, .int .u8 0, .int .u8 0, .int .u8 0, .int .u8 0, .int .u8 0, .int .u8 0, .int .u8 0, .int .u8 0, .int .u8 0, .int .u8 0, .int .u8 0, .int .u8 0, .int .u8 0, .int .u8 0, .int .u8 0, .int .u8 0, .int .u8 0, .int .u8 0, .int .u8 0, .int .u8 0, .int .u8 0, .int .u8 0, .int .u8 0, .int .u8 0, .int .u8 0, .int .u8 0, .int .u8 0], .int .i64 6] W fun e w' => e = .returned (.tuple #[.agg (rowF 38 (akC akZ)), .int .i64 0]) ∧ Below W.heap.size W w' := fun W h => by
    have := amake_any 1 2 3 0 z32 6 (i64s (by decide)) (i64s (by decide)) (i64s (by decide)) (i64s (by decide)) rfl W h
    rwa [z32_lit, mk3] at this
  have c4 : ∀ W, Calls Tryd.prog 20 #[.int .i64 6] W fun e w' => e = .returned (.tuple #[.int .i64 (pubV 6), .int .i64 0]) ∧ Below W.heap.size W w' := fun W => by
    have := spublic_any 6 W
    rwa [pub6] at this
  have c5 : ∀ W, Calls Tryd.prog 9 #[.agg (rowF 38 (akC akE))] W fun e w' => (∃ u, e = .returned (.tuple #[u, .int .i64 0]) ∧ Owns w' W.heap.size u (encA akE [akE.r, akE.g])) ∧ Below W.heap.size W w' := fun W => by
    refine (aencode_any akE akE_wf W).mono fun e w' h => ?_
    unfold AEncPost at h
    rwa [if_pos akE_ok] at h
  have c6 : ∀ W v, BytesAt W v (encA akE [akE.r, akE.g]) → Calls Tryd.prog 11 #[v] W fun e w' => e = .returned (.tuple #[.agg (rowF 38 (akC akE)), .int .i64 0]) ∧ Below W.heap.size W w' := fun W v h => by
    have := adecode_any v _ W h (Nat.le_trans (encA_rg_len akE_wf) (by decide))
    rwa [adecE_enc akE_wf akE_ok, adecV_enc akE_wf akE_ok] at this
  have c7 : ∀ W, Calls Tryd.prog 16 #[.int .i64 7] W fun e w' => e = .returned (.agg #[.int .i64 1, .int .i64 7, .string ByteArray.empty, .slice none 0 0]) ∧ Below W.heap.size W w' := fun W => num_any 7 W
  have c8 : ∀ W, Calls Tryd.prog 15 #[.agg #[.int .i64 1, .int .i64 7, .string ByteArray.empty, .slice none 0 0]] W fun e w' => (∃ u, e = .returned (.tuple #[u, .int .i64 0]) ∧ Owns w' W.heap.size u (encV (numT 7))) ∧ Below W.heap.size W w' := fun W => by
    have := cencode_any (numT 7) (.agg #[.int .i64 1, .int .i64 7, .string ByteArray.empty, .slice none 0 0]) W (by decide) ((leafS (fun _ => True) W (n := 7) (i64s (by decide))).at') (Nat.le_trans enc7_len (by decide))
    refine this.mono fun e w' h => ?_
    unfold EncPost at h
    rwa [if_pos (by decide)] at h
  have c9 : ∀ W v, BytesAt W v (encV (numT 7)) → Calls Tryd.prog 11 #[v] W fun e w' => e = .returned (.tuple #[.agg (rowF 38 (akC ak0)), .int .i64 330]) ∧ Below W.heap.size W w' := fun W v h => by
    have := adecode_any v _ W h (Nat.le_trans enc7_len (by decide))
    rwa [enc7, adecV_bad (by rw [enc7]; decide)] at this
  have c10 : ∀ W v, EnS W v [enG] → Tab W → Calls Tryd.prog 14 #[.slice none 0 0, .int .i64 0, .int .i64 0, .slice none 0 0, v] W fun e w' => (∃ u, e = .returned u ∧ OwnT 3 1 intC w' W.heap.size u [1]) ∧ Below W.heap.size W w' := fun W v h hT => by
    have := awrong_any 0 [enG] (by decide) (.slice none 0 0) (.slice none 0 0) v 0 0 W h (fun W2 b => aleast_any [] [] 0 0 _ _ W2 (sl_nil W2) (sl_nil W2) (fun a h => by cases h) (by decide) (by decide) (hT.below b))
    refine this.mono fun e w' h => ?_
    obtain ⟨u, e1, e2, e3⟩ := h
    rw [show goneU [enG] [enG].length = goneU [enG] 1 from rfl, wrong1] at e2
    exact ⟨⟨u, e1, OwnT.of_ints e2⟩, e3⟩
  have c11 : ∀ W, Tab W → Calls Tryd.prog 22 #[.agg (rowF 38 (akC akE)), .int .i64 (pubV 6)] W fun e w' => e = .returned (.int .i64 0) ∧ Below W.heap.size W w' := fun W h => by
    have := acheck_any akE akE_wf (pubV 6) W h
    rwa [show ckA akE (pubV 6) = 0 from make_ck mk2] at this
  have c12 : ∀ W, Tab W → Calls Tryd.prog 22 #[.agg (rowF 38 (akC akZ)), .int .i64 (pubV 6)] W fun e w' => e = .returned (.int .i64 0) ∧ Below W.heap.size W w' := fun W h => by
    have := acheck_any akZ akZ_wf (pubV 6) W h
    rwa [show ckA akZ (pubV 6) = 0 from make_ck mk3] at this
  have c13 : ∀ W, Tab W → Calls Tryd.prog 22 #[.agg #[.int .i64 0, .int .i64 0, .int .i64 0, .int .i64 0, .int .u8 0, .int .u8 0, .int .u8 0, .int .u8 0, .int .u8 0, .int .u8 0, .int .u8 0, .int .u8 0, .int .u8 0, .int .u8 0, .int .u8 0, .int .u8 0, .int .u8 0, .int .u8 0, .int .u8 0, .int .u8 0, .int .u8 0, .int .u8 0, .int .u8 0, .int .u8 0, .int .u8 0, .int .u8 0, .int .u8 0, .int .u8 0, .int .u8 0, .int .u8 0, .int .u8 0, .int .u8 0, .int .u8 0, .int .u8 0, .int .u8 0, .int .u8 0, .int .i64 0, .int .i64 0], .int .i64 4] W fun e w' => e = .returned (.int .i64 222) ∧ Below W.heap.size W w' := fun W h => by
    have := acheck_any ak0 ak0_wf 4 W h
    rw [ck4] at this
    exact this
  have c14 : ∀ W, Tab W → Calls Tryd.prog 19 #[.slice none 0 0, .int .i64 0, .int .i64 0, .slice none 0 0] W fun e w' => e = .returned (.int .i64 0) ∧ Below W.heap.size W w' := fun W h =>
    aleast_any [] [] 0 0 _ _ W (sl_nil W) (sl_nil W) (fun a h => by cases h) (by decide) (by decide) h
  have c15 : ∀ W u v, MbS W u [⟨2, 0, pubV 6⟩] → AkS W v [akE] → Tab W → Calls Tryd.prog 19 #[u, .int .i64 1, .int .i64 3, v] W fun e w' => e = .returned (.int .i64 4) ∧ Below W.heap.size W w' := fun W u v hu hv h => by
    have := aleast_any _ _ 1 3 u v W hu hv (fun a h => by rw [List.mem_singleton] at h; subst h; exact akE_wf) (by decide) (by decide) h
    rwa [least2] at this
  have c16 : ∀ W u v, MbS W u [⟨2, 0, pubV 6⟩, ⟨3, 0, 4⟩] → AkS W v [akE] → Tab W → Calls Tryd.prog 19 #[u, .int .i64 1, .int .i64 3, v] W fun e w' => e = .returned (.int .i64 0) ∧ Below W.heap.size W w' := fun W u v hu hv h => by
    have := aleast_any _ _ 1 3 u v W hu hv (fun a h => by rw [List.mem_singleton] at h; subst h; exact akE_wf) (by decide) (by decide) h
    rwa [least3] at this
  have c17 : ∀ W u v, IntsS W u [1] → IntsS W v [1] → Calls Tryd.prog 23 #[u, v] W fun e w' => e = .returned (.bool true) ∧ Below W.heap.size W w' := fun W u v hu hv => same_any u v [1] [1] W hu hv
  have ew := akE_wf
  have zw := akZ_wf
  have heq : ∀ W, (binOp .eql 27 (.agg (rowF 38 (akC akE))) (.agg (rowF 38 (akC akE)))).run Tryd.prog W = .ok (.bool true) W := fun W => by rw [eql_ack akE akE ew.ch ew.ch, akB_self]
  have hgu : ∀ x y W, (eqGuard .eql 27 x y (.agg (rowF 38 (akC akE))) (.agg (rowF 38 (akC akE)))).run Tryd.prog W = .ok () W := fun x y W => guard_ack _ x y _ _ W
  have lb := Nat.le_trans (encA_rg_len akE_wf) (show 2000 ≤ 1000000 by decide)
  have l7 := enc7_len
  generalize encA akE [akE.r, akE.g] = lE at c5 c6 lb
  generalize encV (numT 7) = l7' at c8 c9 l7
  generalize akE = E at *
  generalize akZ = Z at *
  generalize pubV 6 = pv at *
  clear ew zw
  have LB : Hid ((lE.length : Int) ≤ 140737488351232) := Lib.hid (by omega)
  have L7 : Hid ((l7'.length : Int) ≤ 140737488351232) := Lib.hid (by omega)
  have H1 := Lib.hid c1; have H2 := Lib.hid c2; have H3 := Lib.hid c3; have H4 := Lib.hid c4; have H5 := Lib.hid c5; have H6 := Lib.hid c6; have H7 := Lib.hid c7; have H8 := Lib.hid c8; have H9 := Lib.hid c9; have H10 := Lib.hid c10; have H11 := Lib.hid c11; have H12 := Lib.hid c12; have H13 := Lib.hid c13; have H14 := Lib.hid c14; have H15 := Lib.hid c15; have H16 := Lib.hid c16; have H17 := Lib.hid c17
  have HEQ := Lib.hid heq; have HGU := Lib.hid hgu; have T0 := Lib.hid hT; have TT := Lib.hid hT
  clear c1 c2 c3 c4 c5 c6 c7 c8 c9 c10 c11 c12 c13 c14 c15 c16 c17 heq hgu hT lb l7
  go_enter Tryd.func8, Tryd.ntmps8
  have B0 := Lib.hid (Below.refl w.heap.size w)
  go_wp2_with fail
  refine (H1.out _ T0.out).mono ?_
  rintro e w1 ⟨rfl, b1⟩
  have B1 := Lib.hid (B0.out.trans (b1.mono B0.out.size))
  have T1 := Lib.hid (T0.out.below b1)
  clear b1 B0 T0
  have Zr := Lib.hid (RowV.new w1 27 38 (akC ak0))
  go_upto_region 2 with ((with_reducible (show wpList _ _ _ (Oper.mk none _ _ _ _ _ :: _) _ _)); refine wpList_store_rowV (o := ⟨none, .store 27 (.tmp 1) (.tmp 22), _, _, _, _⟩) rfl 27 (.tmp 1) (.tmp 22) rfl w1.heap.size rfl 38 27 _ (akC ak0) rfl Zr.out (by kernel_rfl) (fun j _ => akC_one _ j) ?_; intro w2 P2 o2)
  have b2 : Below w1.heap.size w1 w2 := ((Below.refl _ _).alloc (Nat.le_refl _) _).trans (o2.out.below (Nat.le_refl _) (by rw [World.size_alloc]; omega))
  have B2 := Lib.hid (B1.out.trans (b2.mono B1.out.size))
  have T2 := Lib.hid (T1.out.below b2)
  clear b2 o2 Zr B1 T1
  clear P2
  go_wp2_with fail
  refine (H2.out _ T2.out).mono ?_
  rintro e w3 ⟨rfl, b3⟩
  have B3 := Lib.hid (B2.out.trans (b3.mono B2.out.size))
  have T3 := Lib.hid (T2.out.below b3)
  clear b3 B2 T2
  have Zr := Lib.hid (RowV.new w3 27 38 (akC ak0))
  go_upto_region 3 with ((with_reducible (show wpList _ _ _ (Oper.mk none _ _ _ _ _ :: _) _ _)); refine wpList_store_rowV (o := ⟨none, .store 27 (.tmp 3) (.tmp 27), _, _, _, _⟩) rfl 27 (.tmp 3) (.tmp 27) rfl w3.heap.size rfl 38 27 _ (akC E) rfl Zr.out (by kernel_rfl) (fun j _ => akC_one _ j) ?_; intro w4 E4 o4)
  have b4 : Below w3.heap.size w3 w4 := ((Below.refl _ _).alloc (Nat.le_refl _) _).trans (o4.out.below (Nat.le_refl _) (by rw [World.size_alloc]; omega))
  have B4 := Lib.hid (B3.out.trans (b4.mono B3.out.size))
  have T4 := Lib.hid (T3.out.below b4)
  clear b4 o4 Zr B3 T3
  go_wp2_with fail
  refine (H3.out _ T4.out).mono ?_
  rintro e w5 ⟨rfl, b5⟩
  have B5 := Lib.hid (B4.out.trans (b5.mono B4.out.size))
  have T5 := Lib.hid (T4.out.below b5)
  have E5 := Lib.hid (E4.out.below b5)
  clear b5 B4 T4 E4
  have Zr := Lib.hid (RowV.new w5 27 38 (akC ak0))
  go_upto_region 4 with ((with_reducible (show wpList _ _ _ (Oper.mk none _ _ _ _ _ :: _) _ _)); refine wpList_store_rowV (o := ⟨none, .store 27 (.tmp 5) (.tmp 32), _, _, _, _⟩) rfl 27 (.tmp 5) (.tmp 32) rfl w5.heap.size rfl 38 27 _ (akC Z) rfl Zr.out (by kernel_rfl) (fun j _ => akC_one _ j) ?_; intro w6 Z6 o6)
  have b6 : Below w5.heap.size w5 w6 := ((Below.refl _ _).alloc (Nat.le_refl _) _).trans (o6.out.below (Nat.le_refl _) (by rw [World.size_alloc]; omega))
  have B6 := Lib.hid (B5.out.trans (b6.mono B5.out.size))
  have T6 := Lib.hid (T5.out.below b6)
  have E6 := Lib.hid (E5.out.below b6)
  clear b6 o6 Zr B5 T5 E5
  go_wp2_with fail
  refine (H4.out _).mono ?_
  rintro e w7 ⟨rfl, b7⟩
  have B7 := Lib.hid (B6.out.trans (b7.mono B6.out.size))
  have T7 := Lib.hid (T6.out.below b7)
  have E7 := Lib.hid (E6.out.below b7)
  have Z7 := Lib.hid (Z6.out.below b7)
  clear b7 B6 T6 E6 Z6
  go_wp2_with (first | ((with_reducible (show wpList _ _ _ (Oper.mk (some 39) _ _ _ _ _ :: _) _ _)); refine wpList_load_rowV rfl 27 (.tmp 3) rfl w3.heap.size rfl 38 27 _ E7.out _ Tryd.underlying27 rfl (by kernel_rfl) ?_))
  go_wp2_with fail
  refine (H5.out _).mono ?_
  rintro e w8 ⟨⟨u8, rfl, o8⟩, b8⟩
  have O8 := Lib.hid o8
  have G8 := Lib.hid b8.size
  have S8 := Lib.hid B7.out.size
  have B8 := Lib.hid (B7.out.trans (b8.mono B7.out.size))
  have T8 := Lib.hid (T7.out.below b8)
  have E8 := Lib.hid (E7.out.below b8)
  have Z8 := Lib.hid (Z7.out.below b8)
  clear b8 o8 B7 T7 E7 Z7
  obtain ⟨u8a, u8c, rfl⟩ := O8.out.slice
  clear G8 S8
  have D8 := Lib.hid (O8.out.bytesAt LB.out)
  clear O8
  go_wp2_with fail
  refine (H6.out _ _ D8.out).mono ?_
  rintro e w9 ⟨rfl, b9⟩
  have B9 := Lib.hid (B8.out.trans (b9.mono B8.out.size))
  have T9 := Lib.hid (T8.out.below b9)
  have E9 := Lib.hid (E8.out.below b9)
  have Z9 := Lib.hid (Z8.out.below b9)
  have D9 := Lib.hid (D8.out.below b9)
  clear b9 B8 T8 E8 Z8 D8
  clear D9
  have Zr := Lib.hid (RowV.new w9 27 38 (akC ak0))
  go_upto_region 7 with ((with_reducible (show wpList _ _ _ (Oper.mk none _ _ _ _ _ :: _) _ _)); refine wpList_store_rowV (o := ⟨none, .store 27 (.tmp 11) (.tmp 46), _, _, _, _⟩) rfl 27 (.tmp 11) (.tmp 46) rfl w9.heap.size rfl 38 27 _ (akC E) rfl Zr.out (by kernel_rfl) (fun j _ => akC_one _ j) ?_; intro w10 X10 o10)
  have b10 : Below w9.heap.size w9 w10 := ((Below.refl _ _).alloc (Nat.le_refl _) _).trans (o10.out.below (Nat.le_refl _) (by rw [World.size_alloc]; omega))
  have B10 := Lib.hid (B9.out.trans (b10.mono B9.out.size))
  have T10 := Lib.hid (T9.out.below b10)
  have E10 := Lib.hid (E9.out.below b10)
  have Z10 := Lib.hid (Z9.out.below b10)
  clear b10 o10 Zr B9 T9 E9 Z9
  go_wp2_with fail
  refine (H7.out _).mono ?_
  rintro e w11 ⟨rfl, b11⟩
  have B11 := Lib.hid (B10.out.trans (b11.mono B10.out.size))
  have T11 := Lib.hid (T10.out.below b11)
  have E11 := Lib.hid (E10.out.below b11)
  have Z11 := Lib.hid (Z10.out.below b11)
  have X11 := Lib.hid (X10.out.below b11)
  clear b11 B10 T10 E10 Z10 X10
  go_wp2_with fail
  refine (H8.out _).mono ?_
  rintro e w12 ⟨⟨u12, rfl, o12⟩, b12⟩
  have O12 := Lib.hid o12
  have G12 := Lib.hid b12.size
  have S12 := Lib.hid B11.out.size
  have B12 := Lib.hid (B11.out.trans (b12.mono B11.out.size))
  have T12 := Lib.hid (T11.out.below b12)
  have E12 := Lib.hid (E11.out.below b12)
  have Z12 := Lib.hid (Z11.out.below b12)
  have X12 := Lib.hid (X11.out.below b12)
  clear b12 o12 B11 T11 E11 Z11 X11
  obtain ⟨u12a, u12c, rfl⟩ := O12.out.slice
  clear G12 S12
  have D12 := Lib.hid (O12.out.bytesAt L7.out)
  clear O12
  go_wp2_with fail
  refine (H9.out _ _ D12.out).mono ?_
  rintro e w13 ⟨rfl, b13⟩
  have B13 := Lib.hid (B12.out.trans (b13.mono B12.out.size))
  have T13 := Lib.hid (T12.out.below b13)
  have E13 := Lib.hid (E12.out.below b13)
  have Z13 := Lib.hid (Z12.out.below b13)
  have X13 := Lib.hid (X12.out.below b13)
  have D13 := Lib.hid (D12.out.below b13)
  clear b13 B12 T12 E12 Z12 X12 D12
  clear D13
  have Zr := Lib.hid (RowV.new w13 27 38 (akC ak0))
  go_upto_region 9 with ((with_reducible (show wpList _ _ _ (Oper.mk none _ _ _ _ _ :: _) _ _)); refine wpList_store_rowV (o := ⟨none, .store 27 (.tmp 15) (.tmp 56), _, _, _, _⟩) rfl 27 (.tmp 15) (.tmp 56) rfl w13.heap.size rfl 38 27 _ (akC ak0) rfl Zr.out (by kernel_rfl) (fun j _ => akC_one _ j) ?_; intro w14 P14 o14)
  have b14 : Below w13.heap.size w13 w14 := ((Below.refl _ _).alloc (Nat.le_refl _) _).trans (o14.out.below (Nat.le_refl _) (by rw [World.size_alloc]; omega))
  have B14 := Lib.hid (B13.out.trans (b14.mono B13.out.size))
  have T14 := Lib.hid (T13.out.below b14)
  have E14 := Lib.hid (E13.out.below b14)
  have Z14 := Lib.hid (Z13.out.below b14)
  have X14 := Lib.hid (X13.out.below b14)
  clear b14 o14 Zr B13 T13 E13 Z13 X13
  clear P14
  go_upto_region 10 with fail
  have YL : Hid (w3.heap.size < w14.heap.size ∧ w5.heap.size < w14.heap.size ∧ w9.heap.size < w14.heap.size) := Lib.hid ⟨E14.out.lt, Z14.out.lt, X14.out.lt⟩
  have M0 : Hid (w.heap.size ≤ w14.heap.size) := Lib.hid B14.out.size
  obtain ⟨w15, hw15⟩ : ∃ y, w14.alloc (.cells #[.int .i64 2, .int .i64 0, .int .i64 pv] 47) = y := ⟨_, rfl⟩
  have b15 : Below w14.heap.size w14 w15 := by rw [← hw15]; exact (Below.refl _ _).alloc (Nat.le_refl _) _
  have M15 : Hid (RowV w15 w14.heap.size 47 3 (mbC ⟨2, 0, pv⟩)) := Lib.hid (by rw [← hw15]; exact RowV.new w14 _ 3 (mbC ⟨2, 0, pv⟩))
  have z15 : w14.heap.size + 1 = w15.heap.size := by rw [← hw15]; exact (Array.size_push _).symm
  rw [hw15]
  (try rw [z15])
  have B15 := Lib.hid (B14.out.trans (b15.mono B14.out.size))
  have T15 := Lib.hid (T14.out.below b15)
  have E15 := Lib.hid (E14.out.below b15)
  have Z15 := Lib.hid (Z14.out.below b15)
  have X15 := Lib.hid (X14.out.below b15)
  clear b15 hw15 z15 B14 T14 E14 Z14 X14
  go_wp2_with fail
  obtain ⟨w16, hw16⟩ : ∃ y, w15.alloc (.cells #[.int .i64 4, .int .u8 0, .int .u8 0, .int .u8 0, .int .u8 0, .int .u8 0, .int .u8 0, .int .u8 0, .int .u8 0, .int .u8 0, .int .u8 0, .int .u8 0, .int .u8 0, .int .u8 0, .int .u8 0, .int .u8 0, .int .u8 0, .int .u8 0, .int .u8 0, .int .u8 0, .int .u8 0, .int .u8 0, .int .u8 0, .int .u8 0, .int .u8 0, .int .u8 0, .int .u8 0, .int .u8 0, .int .u8 0, .int .u8 0, .int .u8 0, .int .u8 0, .int .u8 0, .slice none 0 0, .bool true] 45) = y := ⟨_, rfl⟩
  have b16 : Below w15.heap.size w15 w16 := by rw [← hw16]; exact (Below.refl _ _).alloc (Nat.le_refl _) _
  have N16 : Hid (RowV w16 w15.heap.size 45 35 (enC enG)) := Lib.hid (by rw [← hw16]; exact RowV.new w15 _ 35 (enC enG))
  have z16 : w15.heap.size + 1 = w16.heap.size := by rw [← hw16]; exact (Array.size_push _).symm
  rw [hw16]
  (try rw [z16])
  have B16 := Lib.hid (B15.out.trans (b16.mono B15.out.size))
  have T16 := Lib.hid (T15.out.below b16)
  have E16 := Lib.hid (E15.out.below b16)
  have Z16 := Lib.hid (Z15.out.below b16)
  have X16 := Lib.hid (X15.out.below b16)
  have M16 := Lib.hid (M15.out.below b16)
  clear b16 hw16 z16 B15 T15 E15 Z15 X15 M15
  have SI : Hid (w14.heap.size < w16.heap.size) := Lib.hid M16.out.lt
  go_wp2_with fail
  refine (H10.out _ _ (slAt_row (c := fun i => enC ([enG].getD i en0)) N16.out) T16.out).mono ?_
  rintro e w17 ⟨⟨u17, rfl, o17⟩, b17⟩
  have O17 := Lib.hid o17
  have G17 := Lib.hid b17.size
  have S17 := Lib.hid B16.out.size
  have B17 := Lib.hid (B16.out.trans (b17.mono B16.out.size))
  have T17 := Lib.hid (T16.out.below b17)
  have E17 := Lib.hid (E16.out.below b17)
  have Z17 := Lib.hid (Z16.out.below b17)
  have X17 := Lib.hid (X16.out.below b17)
  have M17 := Lib.hid (M16.out.below b17)
  have N17 := Lib.hid (N16.out.below b17)
  clear b17 o17 B16 T16 E16 Z16 X16 M16 N16
  obtain ⟨u17a, u17c, rfl⟩ := O17.out.slice
  clear G17 S17
  have I17 := O17
  clear O17
  clear N17
  go_upto_region 13 with fail
  have XL : Hid (w3.heap.size < w14.heap.size ∧ w5.heap.size < w14.heap.size ∧ w9.heap.size < w14.heap.size) := YL
  have S17 : Hid (w14.heap.size < w17.heap.size) := Lib.hid M17.out.lt
  have MO := Lib.hid ((OwnT.one (c := mbC) (by decide) M17.out).mono M0.out)
  clear M17
  have M17 := MO
  clear MO M0
  refine Tc.wp_region_plan (Tc.Rl.stay (fun k => k = w3.heap.size ∨ k = w5.heap.size ∨ k = w9.heap.size)) 46 [] (.fl 0 (.fl 1 (.fl 2 (.fl 3 (.fl 4 (.fl 5 (.one 6 (.fl 7 (.fl 8 (.fl 9 (.fl 10 (.fl 11 (.one 12 (.fl 13 (.fl 14 (.fl 15 (.fl 16 (.one 17 (.fl 18 (.fl 19 (.fl 20 (.one 21 (.fl 22 (.fl 23 (.fl 24 (.fl 25 (.fl 26 (.one 27 (.one 28 (.fl 29 (.fl 30 (.fl 31 (.fl 32 (.fl 33 (.fl 36 (.two 34 37 (.two 35 37 (.one 37 (.one 38 (.fl 39 (.fl 40 (.fl 41 (.fl 42 (.one 43 (.one 44 (.fl 45 .done))))))))) (.one 35 (.one 38 (.fl 39 (.fl 40 (.fl 41 (.fl 42 (.one 43 (.one 44 (.fl 45 .done)))))))))) (.one 34 (.one 35 (.one 38 (.fl 39 (.fl 40 (.fl 41 (.fl 42 (.one 43 (.one 44 (.fl 45 .done)))))))))))))))))))))))))))))))))))))))))))))) (by kernel_rfl) (by kernel_rfl) ?_
  intro w18 b18 e18
  have b18' : Below w17.heap.size w17 w18 := b18
  have T18 := Lib.hid (T17.out.below b18)
  have E18 := Lib.hid (E17.out.below b18)
  have Z18 := Lib.hid (Z17.out.below b18)
  have X18 := Lib.hid (X17.out.below b18)
  have M18 := Lib.hid (M17.out.below b18)
  have I18 := Lib.hid (I17.out.below b18)
  have B18 := Lib.hid (B17.out.trans (b18.mono B17.out.size))
  have S18 := Lib.hid (Nat.lt_of_lt_of_le S17.out b18.size)
  clear T17 E17 Z17 X17 M17 I17 B17 S17 b18 b18' e18
  refine Tc.plan_floats [0, 1, 2, 3, 4, 5] [_, _, _, _, _, _] rfl ?_
  dsimp only [List.getElem_toArray, List.getElem_cons_succ, List.getElem_cons_zero]
  repeat (go_big_quiet_want; go_big_quiet_op; first | go_big_quiet_on | (refine ⟨_, fun _ _ => rfl, ?_⟩; go_big_quiet_on))
  refine wpQuiet_load_part rfl 27 (.tmp 11) rfl w9.heap.size 0 rfl 38 38 27 (akC E) (akC E) (fun W hW => stay_row (S := fun k => k = w3.heap.size ∨ k = w5.heap.size ∨ k = w9.heap.size) X18.out (.inr (.inr rfl)) hW) (by decide) (fun j _ => by rw [Nat.zero_add]) _ Tryd.underlying27 rfl (by kernel_rfl) ?_
  simp only [Act.put, List.setIfInBounds_toArray, List.set_cons_succ, List.set_cons_zero]
  repeat (go_big_quiet_want; go_big_quiet_op; first | go_big_quiet_on | (refine ⟨_, fun _ _ => rfl, ?_⟩; go_big_quiet_on))
  refine wpQuiet_load_part rfl 27 (.tmp 3) rfl w3.heap.size 0 rfl 38 38 27 (akC E) (akC E) (fun W hW => stay_row (S := fun k => k = w3.heap.size ∨ k = w5.heap.size ∨ k = w9.heap.size) E18.out (.inl rfl) hW) (by decide) (fun j _ => by rw [Nat.zero_add]) _ Tryd.underlying27 rfl (by kernel_rfl) ?_
  simp only [Act.put, List.setIfInBounds_toArray, List.set_cons_succ, List.set_cons_zero]
  refine wpQuiet_binOp rfl .eql 27 (.tmp 94) (.tmp 95) 27 rfl _ _ _ rfl rfl (fun W => HGU.out _ _ W) HEQ.out ?_
  simp only [Act.put, List.setIfInBounds_toArray, List.set_cons_succ, List.set_cons_zero]
  repeat (go_big_quiet_want; go_big_quiet_op; first | go_big_quiet_on | (refine ⟨_, fun _ _ => rfl, ?_⟩; go_big_quiet_on))
  refine wpQuiet_unguard rfl ?_
  refine wpQuiet_load_part rfl 27 (.tmp 3) rfl w3.heap.size 0 rfl 38 38 27 (akC E) (akC E) (fun W hW => stay_row (S := fun k => k = w3.heap.size ∨ k = w5.heap.size ∨ k = w9.heap.size) E18.out (.inl rfl) hW) (by decide) (fun j _ => by rw [Nat.zero_add]) _ Tryd.underlying27 rfl (by kernel_rfl) ?_
  simp only [Act.put, List.setIfInBounds_toArray, List.set_cons_succ, List.set_cons_zero]
  repeat (go_big_quiet_want; go_big_quiet_op; first | go_big_quiet_on | (refine ⟨_, fun _ _ => rfl, ?_⟩; go_big_quiet_on))
  refine wpQuiet_nil ?_
  refine Tc.plan_one 6 rfl (fun K hK => ?_)
  go_wp2_with fail
  refine (H11.out _ T18.out).mono ?_
  rintro e w19 ⟨rfl, b19⟩
  have T19 := Lib.hid (T18.out.below b19)
  have E19 := Lib.hid (E18.out.below b19)
  have Z19 := Lib.hid (Z18.out.below b19)
  have X19 := Lib.hid (X18.out.below b19)
  have M19 := Lib.hid (M18.out.below b19)
  have I19 := Lib.hid (I18.out.below b19)
  have B19 := Lib.hid (B18.out.trans (b19.mono B18.out.size))
  have S19 := Lib.hid (Nat.lt_of_lt_of_le S18.out b19.size)
  go_wp2_with fail
  refine hK _ _ (stay_below b19 (fun k hk => by have h1 := XL.out; have h2 := S18.out; rcases hk with rfl | rfl | rfl <;> omega)) ?_
  clear T18 E18 Z18 X18 M18 I18 B18 S18 hK K b19
  refine Tc.plan_floats [7, 8, 9, 10, 11] [_, _, _, _, _] rfl ?_
  dsimp only [List.getElem_toArray, List.getElem_cons_succ, List.getElem_cons_zero]
  repeat (go_big_quiet_want; go_big_quiet_op; first | go_big_quiet_on | (refine ⟨_, fun _ _ => rfl, ?_⟩; go_big_quiet_on))
  refine wpQuiet_unguard rfl ?_
  refine wpQuiet_load_part rfl 27 (.tmp 5) rfl w5.heap.size 0 rfl 38 38 27 (akC Z) (akC Z) (fun W hW => stay_row (S := fun k => k = w3.heap.size ∨ k = w5.heap.size ∨ k = w9.heap.size) Z19.out (.inr (.inl rfl)) hW) (by decide) (fun j _ => by rw [Nat.zero_add]) _ Tryd.underlying27 rfl (by kernel_rfl) ?_
  simp only [Act.put, List.setIfInBounds_toArray, List.set_cons_succ, List.set_cons_zero]
  repeat (go_big_quiet_want; go_big_quiet_op; first | go_big_quiet_on | (refine ⟨_, fun _ _ => rfl, ?_⟩; go_big_quiet_on))
  refine wpQuiet_nil ?_
  refine Tc.plan_one 12 rfl (fun K hK => ?_)
  go_wp2_with fail
  refine (H12.out _ T19.out).mono ?_
  rintro e w20 ⟨rfl, b20⟩
  have T20 := Lib.hid (T19.out.below b20)
  have E20 := Lib.hid (E19.out.below b20)
  have Z20 := Lib.hid (Z19.out.below b20)
  have X20 := Lib.hid (X19.out.below b20)
  have M20 := Lib.hid (M19.out.below b20)
  have I20 := Lib.hid (I19.out.below b20)
  have B20 := Lib.hid (B19.out.trans (b20.mono B19.out.size))
  have S20 := Lib.hid (Nat.lt_of_lt_of_le S19.out b20.size)
  go_wp2_with fail
  refine hK _ _ (stay_below b20 (fun k hk => by have h1 := XL.out; have h2 := S19.out; rcases hk with rfl | rfl | rfl <;> omega)) ?_
  clear T19 E19 Z19 X19 M19 I19 B19 S19 hK K b20
  refine Tc.plan_floats [13, 14, 15, 16] [_, _, _, _] rfl ?_
  dsimp only [List.getElem_toArray, List.getElem_cons_succ, List.getElem_cons_zero]
  repeat (go_big_quiet_want; go_big_quiet_op; first | go_big_quiet_on | (refine ⟨_, fun _ _ => rfl, ?_⟩; go_big_quiet_on))
  refine wpQuiet_nil ?_
  refine Tc.plan_one 17 rfl (fun K hK => ?_)
  go_wp2_with fail
  refine (H13.out _ T20.out).mono ?_
  rintro e w21 ⟨rfl, b21⟩
  have T21 := Lib.hid (T20.out.below b21)
  have E21 := Lib.hid (E20.out.below b21)
  have Z21 := Lib.hid (Z20.out.below b21)
  have X21 := Lib.hid (X20.out.below b21)
  have M21 := Lib.hid (M20.out.below b21)
  have I21 := Lib.hid (I20.out.below b21)
  have B21 := Lib.hid (B20.out.trans (b21.mono B20.out.size))
  have S21 := Lib.hid (Nat.lt_of_lt_of_le S20.out b21.size)
  go_wp2_with fail
  refine hK _ _ (stay_below b21 (fun k hk => by have h1 := XL.out; have h2 := S20.out; rcases hk with rfl | rfl | rfl <;> omega)) ?_
  clear T20 E20 Z20 X20 M20 I20 B20 S20 hK K b21
  refine Tc.plan_floats [18, 19, 20] [_, _, _] rfl ?_
  dsimp only [List.getElem_toArray, List.getElem_cons_succ, List.getElem_cons_zero]
  repeat (go_big_quiet_want; go_big_quiet_op; first | go_big_quiet_on | (refine ⟨_, fun _ _ => rfl, ?_⟩; go_big_quiet_on))
  refine wpQuiet_nil ?_
  refine Tc.plan_one 21 rfl (fun K hK => ?_)
  go_wp2_with fail
  refine (H14.out _ T21.out).mono ?_
  rintro e w22 ⟨rfl, b22⟩
  have T22 := Lib.hid (T21.out.below b22)
  have E22 := Lib.hid (E21.out.below b22)
  have Z22 := Lib.hid (Z21.out.below b22)
  have X22 := Lib.hid (X21.out.below b22)
  have M22 := Lib.hid (M21.out.below b22)
  have I22 := Lib.hid (I21.out.below b22)
  have B22 := Lib.hid (B21.out.trans (b22.mono B21.out.size))
  have S22 := Lib.hid (Nat.lt_of_lt_of_le S21.out b22.size)
  go_wp2_with fail
  refine hK _ _ (stay_below b22 (fun k hk => by have h1 := XL.out; have h2 := S21.out; rcases hk with rfl | rfl | rfl <;> omega)) ?_
  clear T21 E21 Z21 X21 M21 I21 B21 S21 hK K b22
  refine Tc.plan_floats [22, 23, 24, 25, 26] [_, _, _, _, _] rfl ?_
  dsimp only [List.getElem_toArray, List.getElem_cons_succ, List.getElem_cons_zero]
  repeat (go_big_quiet_want; go_big_quiet_op; first | go_big_quiet_on | (refine ⟨_, fun _ _ => rfl, ?_⟩; go_big_quiet_on))
  refine wpQuiet_unguard rfl ?_
  refine wpQuiet_load_part rfl 27 (.tmp 3) rfl w3.heap.size 0 rfl 38 38 27 (akC E) (akC E) (fun W hW => stay_row (S := fun k => k = w3.heap.size ∨ k = w5.heap.size ∨ k = w9.heap.size) E22.out (.inl rfl) hW) (by decide) (fun j _ => by rw [Nat.zero_add]) _ Tryd.underlying27 rfl (by kernel_rfl) ?_
  simp only [Act.put, List.setIfInBounds_toArray, List.set_cons_succ, List.set_cons_zero]
  repeat (go_big_quiet_want; go_big_quiet_op; first | go_big_quiet_on | (refine ⟨_, fun _ _ => rfl, ?_⟩; go_big_quiet_on))
  refine wpQuiet_nil ?_
  refine Tc.plan_one 27 rfl (fun K hK => ?_)
  have hsz : (rowF 38 (akC E)).size = 38 := rowF_size _ _
  go_wp2_with fail
  rw [fold_ack]
  have al := (Below.refl _ w22).alloc (Nat.le_refl _) (.cells (rowF 38 (akC E)) 27)
  have R : Hid (RowV (w22.alloc (.cells (rowF 38 (akC E)) 27)) w22.heap.size 27 38 (akC E)) := Lib.hid (RowV.new w22 27 38 (akC E))
  refine hK _ _ (stay_below al (fun k hk => by have h1 := XL.out; have h2 := S22.out; rcases hk with rfl | rfl | rfl <;> omega)) ?_
  obtain ⟨w23, hw⟩ : ∃ y, w22.alloc (.cells (rowF 38 (akC E)) 27) = y := ⟨_, rfl⟩
  rw [hw] at al R ⊢
  have T23 := Lib.hid (T22.out.below al)
  have E23 := Lib.hid (E22.out.below al)
  have Z23 := Lib.hid (Z22.out.below al)
  have X23 := Lib.hid (X22.out.below al)
  have M23 := Lib.hid (M22.out.below al)
  have I23 := Lib.hid (I22.out.below al)
  have B23 := Lib.hid (B22.out.trans (al.mono B22.out.size))
  have S23 := Lib.hid (Nat.lt_of_lt_of_le S22.out al.size)
  have A23 := Lib.hid (OwnT.one (by decide) R.out)
  have PA : Hid (w14.heap.size < w22.heap.size) := S22
  clear T22 E22 Z22 X22 M22 I22 B22 S22 hK K al hw R hsz
  refine Tc.plan_one 28 rfl (fun K hK => ?_)
  go_wp2_with fail
  refine (H15.out _ _ _ (M23.out.mems (by simp)) (A23.out.acks (by simp)) T23.out).mono ?_
  rintro e w24 ⟨rfl, b24⟩
  have T24 := Lib.hid (T23.out.below b24)
  have E24 := Lib.hid (E23.out.below b24)
  have Z24 := Lib.hid (Z23.out.below b24)
  have X24 := Lib.hid (X23.out.below b24)
  have M24 := Lib.hid (M23.out.below b24)
  have I24 := Lib.hid (I23.out.below b24)
  have A24 := Lib.hid (A23.out.below b24)
  have B24 := Lib.hid (B23.out.trans (b24.mono B23.out.size))
  have S24 := Lib.hid (Nat.lt_of_lt_of_le S23.out b24.size)
  go_wp2_with fail
  refine hK _ _ (stay_below b24 (fun k hk => by have h1 := XL.out; have h2 := S23.out; rcases hk with rfl | rfl | rfl <;> omega)) ?_
  clear T23 E23 Z23 X23 M23 I23 A23 B23 S23 hK K b24
  clear A24 PA Z24 X24
  refine Tc.plan_floats [29, 30, 31, 32, 33, 36] [_, _, _, _, _, _] rfl ?_
  dsimp only [List.getElem_toArray, List.getElem_cons_succ, List.getElem_cons_zero]
  repeat (go_big_quiet_want; go_big_quiet_op; first | go_big_quiet_on | (refine ⟨_, fun _ _ => rfl, ?_⟩; go_big_quiet_on))
  refine wpQuiet_unguard rfl ?_
  refine wpQuiet_load_part rfl 27 (.tmp 3) rfl w3.heap.size 0 rfl 38 38 27 (akC E) (akC E) (fun W hW => stay_row (S := fun k => k = w3.heap.size ∨ k = w5.heap.size ∨ k = w9.heap.size) E24.out (.inl rfl) hW) (by decide) (fun j _ => by rw [Nat.zero_add]) _ Tryd.underlying27 rfl (by kernel_rfl) ?_
  simp only [Act.put, List.setIfInBounds_toArray, List.set_cons_succ, List.set_cons_zero]
  repeat (go_big_quiet_want; go_big_quiet_op; first | go_big_quiet_on | (refine ⟨_, fun _ _ => rfl, ?_⟩; go_big_quiet_on))
  refine wpQuiet_nil ?_
  refine Tc.plan_two 34 37 rfl rfl (fun K hK => ?_) (fun K hK => ?_)
  · go_wp2_with fail
    have al := (Below.refl _ w24).alloc (Nat.le_refl _) (.cells #[.int .i64 3, .int .i64 0, .int .i64 4] 47)
    have R : Hid (RowV (w24.alloc (.cells #[.int .i64 3, .int .i64 0, .int .i64 4] 47)) w24.heap.size 47 3 (mbC ⟨3, 0, 4⟩)) := Lib.hid (RowV.new w24 47 3 (mbC ⟨3, 0, 4⟩))
    refine hK _ _ (stay_below al (fun k hk => by have h1 := XL.out; have h2 := S24.out; rcases hk with rfl | rfl | rfl <;> omega)) ?_
    obtain ⟨w25, hw⟩ : ∃ y, w24.alloc (.cells #[.int .i64 3, .int .i64 0, .int .i64 4] 47) = y := ⟨_, rfl⟩
    rw [hw] at al R ⊢
    have T25 := Lib.hid (T24.out.below al)
    have E25 := Lib.hid (E24.out.below al)
    have M25 := Lib.hid (M24.out.below al)
    have I25 := Lib.hid (I24.out.below al)
    have B25 := Lib.hid (B24.out.trans (al.mono B24.out.size))
    have S25 := Lib.hid (Nat.lt_of_lt_of_le S24.out al.size)
    have N25 := Lib.hid (OwnT.one (by decide) R.out)
    have PN : Hid (w14.heap.size < w24.heap.size) := S24
    clear T24 E24 M24 I24 B24 S24 hK K al hw R
    refine Tc.plan_two 35 37 rfl rfl (fun K hK => ?_) (fun K hK => ?_)
    · refine wpList_unguard rfl ?_
      refine wpList_app_T rfl (.tmp 126) (.tmp 128) info_mem Tryd.underlying37 rfl (by decide) (by decide) mbC_one mb0 rfl w.heap.size _ [⟨2, 0, pv⟩] rfl M25.out _ 1 [⟨3, 0, 4⟩] rfl (N25.out.cells_one mb0) (by simp) B25.out.size ?_
      intro v26 w26 M26 s26
      have b26 : Below w.heap.size w25 w26 := (Below.refl w.heap.size w25).grown s26.out.1 B25.out.size (fun k hk => (M25.out.lt k hk).1)
      have B26 := Lib.hid (B25.out.trans b26)
      have S26 := Lib.hid (Nat.lt_of_lt_of_le S25.out b26.size)
      have E26 := Lib.hid (s26.out.row E25.out (by intro e; have := XL.out; have e2 : some w14.heap.size = some w3.heap.size := e; have := Option.some.inj e2; omega))
      have T26 := Lib.hid (TT.out.below B26.out)
      have I26 := Lib.hid (I25.out.app s26.out (by refine .inr (fun e => ?_); have h1 := (I25.out.lt _ e).1; dsimp only at h1; have h2 := SI.out; omega))
      obtain ⟨va, vc, rfl⟩ := M26.out.slice
      go_wp2_with fail
      refine hK _ _ (stay_app s26.out (fun k hk => ⟨by have h1 := XL.out; have h2 := S25.out; rcases hk with rfl | rfl | rfl <;> omega, by intro e; have h1 := XL.out; have e2 : w14.heap.size = k := Option.some.inj e; rcases hk with rfl | rfl | rfl <;> omega⟩)) ?_
      clear hK K b26 s26 T25 E25 M25 N25 I25 B25 S25
      refine Tc.plan_one 37 rfl (fun K hK => ?_)
      have hsz : (rowF 38 (akC E)).size = 38 := rowF_size _ _
      go_wp2_with fail
      rw [fold_ack]
      have al := (Below.refl _ w26).alloc (Nat.le_refl _) (.cells (rowF 38 (akC E)) 27)
      have R : Hid (RowV (w26.alloc (.cells (rowF 38 (akC E)) 27)) w26.heap.size 27 38 (akC E)) := Lib.hid (RowV.new w26 27 38 (akC E))
      refine hK _ _ (stay_below al (fun k hk => by have h1 := XL.out; have h2 := S26.out; rcases hk with rfl | rfl | rfl <;> omega)) ?_
      obtain ⟨w27, hw⟩ : ∃ y, w26.alloc (.cells (rowF 38 (akC E)) 27) = y := ⟨_, rfl⟩
      rw [hw] at al R ⊢
      have T27 := Lib.hid (T26.out.below al)
      have E27 := Lib.hid (E26.out.below al)
      have M27 := Lib.hid (M26.out.below al)
      have I27 := Lib.hid (I26.out.below al)
      have B27 := Lib.hid (B26.out.trans (al.mono B26.out.size))
      have S27 := Lib.hid (Nat.lt_of_lt_of_le S26.out al.size)
      have A27 := Lib.hid (OwnT.one (by decide) R.out)
      have PA : Hid (w14.heap.size < w26.heap.size) := S26
      clear T26 E26 M26 I26 B26 S26 hK K al hw R hsz
      refine Tc.plan_one 38 rfl (fun K hK => ?_)
      go_wp2_with fail
      refine (H16.out _ _ _ (M27.out.mems (by simp)) (A27.out.acks (by simp)) T27.out).mono ?_
      rintro e w28 ⟨rfl, b28⟩
      have T28 := Lib.hid (T27.out.below b28)
      have E28 := Lib.hid (E27.out.below b28)
      have M28 := Lib.hid (M27.out.below b28)
      have I28 := Lib.hid (I27.out.below b28)
      have A28 := Lib.hid (A27.out.below b28)
      have B28 := Lib.hid (B27.out.trans (b28.mono B27.out.size))
      have S28 := Lib.hid (Nat.lt_of_lt_of_le S27.out b28.size)
      go_wp2_with fail
      refine hK _ _ (stay_below b28 (fun k hk => by have h1 := XL.out; have h2 := S27.out; rcases hk with rfl | rfl | rfl <;> omega)) ?_
      clear T27 E27 M27 I27 A27 B27 S27 hK K b28
      refine Tc.plan_floats [39, 40, 41, 42] [_, _, _, _] rfl ?_
      dsimp only [List.getElem_toArray, List.getElem_cons_succ, List.getElem_cons_zero]
      repeat (go_big_quiet_want; go_big_quiet_op; first | go_big_quiet_on | (refine ⟨_, fun _ _ => rfl, ?_⟩; go_big_quiet_on))
      refine wpQuiet_nil ?_
      refine Tc.plan_one 43 rfl (fun K hK => ?_)
      go_wp2_with fail
      have al := (Below.refl _ w28).alloc (Nat.le_refl _) (.cells #[.int .i64 1] 3)
      have R : Hid (RowV (w28.alloc (.cells #[.int .i64 1] 3)) w28.heap.size 3 1 (intC 1)) := Lib.hid (RowV.new w28 3 1 (intC 1))
      refine hK _ _ (stay_below al (fun k hk => by have h1 := XL.out; have h2 := S28.out; rcases hk with rfl | rfl | rfl <;> omega)) ?_
      obtain ⟨w29, hw⟩ : ∃ y, w28.alloc (.cells #[.int .i64 1] 3) = y := ⟨_, rfl⟩
      rw [hw] at al R ⊢
      have T29 := Lib.hid (T28.out.below al)
      have E29 := Lib.hid (E28.out.below al)
      have M29 := Lib.hid (M28.out.below al)
      have I29 := Lib.hid (I28.out.below al)
      have A29 := Lib.hid (A28.out.below al)
      have B29 := Lib.hid (B28.out.trans (al.mono B28.out.size))
      have S29 := Lib.hid (Nat.lt_of_lt_of_le S28.out al.size)
      have J29 := Lib.hid (OwnT.one (by decide) R.out)
      have PJ : Hid (w14.heap.size < w28.heap.size) := S28
      clear T28 E28 M28 I28 A28 B28 S28 hK K al hw R
      refine Tc.plan_one 44 rfl (fun K hK => ?_)
      go_wp2_with fail
      refine (H17.out _ _ _ (I29.out.ints (by simp)) (J29.out.ints (by simp))).mono ?_
      rintro e w30 ⟨rfl, b30⟩
      have T30 := Lib.hid (T29.out.below b30)
      have E30 := Lib.hid (E29.out.below b30)
      have M30 := Lib.hid (M29.out.below b30)
      have I30 := Lib.hid (I29.out.below b30)
      have A30 := Lib.hid (A29.out.below b30)
      have J30 := Lib.hid (J29.out.below b30)
      have B30 := Lib.hid (B29.out.trans (b30.mono B29.out.size))
      have S30 := Lib.hid (Nat.lt_of_lt_of_le S29.out b30.size)
      go_wp2_with fail
      refine hK _ _ (stay_below b30 (fun k hk => by have h1 := XL.out; have h2 := S29.out; rcases hk with rfl | rfl | rfl <;> omega)) ?_
      clear T29 E29 M29 I29 A29 J29 B29 S29 hK K b30
      refine Tc.plan_floats [45] [_] rfl ?_
      dsimp only [List.getElem_toArray, List.getElem_cons_succ, List.getElem_cons_zero]
      repeat (go_big_quiet_want; go_big_quiet_op; first | go_big_quiet_on | (refine ⟨_, fun _ _ => rfl, ?_⟩; go_big_quiet_on))
      refine wpQuiet_nil ?_
      refine Tc.plan_done (l := [_]) rfl (fun K hK => ?_)
      go_wp2_with fail
      go_ret
      exact ⟨rfl, B30.out⟩
    · have hsz : (rowF 38 (akC E)).size = 38 := rowF_size _ _
      go_wp2_with fail
      rw [fold_ack]
      have al := (Below.refl _ w25).alloc (Nat.le_refl _) (.cells (rowF 38 (akC E)) 27)
      have R : Hid (RowV (w25.alloc (.cells (rowF 38 (akC E)) 27)) w25.heap.size 27 38 (akC E)) := Lib.hid (RowV.new w25 27 38 (akC E))
      refine hK _ _ (stay_below al (fun k hk => by have h1 := XL.out; have h2 := S25.out; rcases hk with rfl | rfl | rfl <;> omega)) ?_
      obtain ⟨w26, hw⟩ : ∃ y, w25.alloc (.cells (rowF 38 (akC E)) 27) = y := ⟨_, rfl⟩
      rw [hw] at al R ⊢
      have T26 := Lib.hid (T25.out.below al)
      have E26 := Lib.hid (E25.out.below al)
      have M26 := Lib.hid (M25.out.below al)
      have I26 := Lib.hid (I25.out.below al)
      have N26 := Lib.hid (N25.out.below al)
      have B26 := Lib.hid (B25.out.trans (al.mono B25.out.size))
      have S26 := Lib.hid (Nat.lt_of_lt_of_le S25.out al.size)
      have A26 := Lib.hid (OwnT.one (by decide) R.out)
      have PA : Hid (w14.heap.size < w25.heap.size) := S25
      clear T25 E25 M25 I25 N25 B25 S25 hK K al hw R hsz
      refine Tc.plan_one 35 rfl (fun K hK => ?_)
      refine wpList_unguard rfl ?_
      refine wpList_app_T rfl (.tmp 126) (.tmp 128) info_mem Tryd.underlying37 rfl (by decide) (by decide) mbC_one mb0 rfl w.heap.size _ [⟨2, 0, pv⟩] rfl M26.out _ 1 [⟨3, 0, 4⟩] rfl (N26.out.cells_one mb0) (by simp) B26.out.size ?_
      intro v27 w27 M27 s27
      have b27 : Below w.heap.size w26 w27 := (Below.refl w.heap.size w26).grown s27.out.1 B26.out.size (fun k hk => (M26.out.lt k hk).1)
      have B27 := Lib.hid (B26.out.trans b27)
      have S27 := Lib.hid (Nat.lt_of_lt_of_le S26.out b27.size)
      have E27 := Lib.hid (s27.out.row E26.out (by intro e; have := XL.out; have e2 : some w14.heap.size = some w3.heap.size := e; have := Option.some.inj e2; omega))
      have T27 := Lib.hid (TT.out.below B27.out)
      have I27 := Lib.hid (I26.out.app s27.out (by refine .inr (fun e => ?_); have h1 := (I26.out.lt _ e).1; dsimp only at h1; have h2 := SI.out; omega))
      have A27 := Lib.hid (A26.out.app s27.out (by refine .inr (fun e => ?_); have h1 := (A26.out.lt _ e).1; dsimp only at h1; have h2 := PA.out; omega))
      obtain ⟨va, vc, rfl⟩ := M27.out.slice
      go_wp2_with fail
      refine hK _ _ (stay_app s27.out (fun k hk => ⟨by have h1 := XL.out; have h2 := S26.out; rcases hk with rfl | rfl | rfl <;> omega, by intro e; have h1 := XL.out; have e2 : w14.heap.size = k := Option.some.inj e; rcases hk with rfl | rfl | rfl <;> omega⟩)) ?_
      clear hK K b27 s27 T26 E26 M26 N26 I26 B26 S26 A26
      refine Tc.plan_one 38 rfl (fun K hK => ?_)
      go_wp2_with fail
      refine (H16.out _ _ _ (M27.out.mems (by simp)) (A27.out.acks (by simp)) T27.out).mono ?_
      rintro e w28 ⟨rfl, b28⟩
      have T28 := Lib.hid (T27.out.below b28)
      have E28 := Lib.hid (E27.out.below b28)
      have M28 := Lib.hid (M27.out.below b28)
      have I28 := Lib.hid (I27.out.below b28)
      have A28 := Lib.hid (A27.out.below b28)
      have B28 := Lib.hid (B27.out.trans (b28.mono B27.out.size))
      have S28 := Lib.hid (Nat.lt_of_lt_of_le S27.out b28.size)
      go_wp2_with fail
      refine hK _ _ (stay_below b28 (fun k hk => by have h1 := XL.out; have h2 := S27.out; rcases hk with rfl | rfl | rfl <;> omega)) ?_
      clear T27 E27 M27 I27 A27 B27 S27 hK K b28
      refine Tc.plan_floats [39, 40, 41, 42] [_, _, _, _] rfl ?_
      dsimp only [List.getElem_toArray, List.getElem_cons_succ, List.getElem_cons_zero]
      repeat (go_big_quiet_want; go_big_quiet_op; first | go_big_quiet_on | (refine ⟨_, fun _ _ => rfl, ?_⟩; go_big_quiet_on))
      refine wpQuiet_nil ?_
      refine Tc.plan_one 43 rfl (fun K hK => ?_)
      go_wp2_with fail
      have al := (Below.refl _ w28).alloc (Nat.le_refl _) (.cells #[.int .i64 1] 3)
      have R : Hid (RowV (w28.alloc (.cells #[.int .i64 1] 3)) w28.heap.size 3 1 (intC 1)) := Lib.hid (RowV.new w28 3 1 (intC 1))
      refine hK _ _ (stay_below al (fun k hk => by have h1 := XL.out; have h2 := S28.out; rcases hk with rfl | rfl | rfl <;> omega)) ?_
      obtain ⟨w29, hw⟩ : ∃ y, w28.alloc (.cells #[.int .i64 1] 3) = y := ⟨_, rfl⟩
      rw [hw] at al R ⊢
      have T29 := Lib.hid (T28.out.below al)
      have E29 := Lib.hid (E28.out.below al)
      have M29 := Lib.hid (M28.out.below al)
      have I29 := Lib.hid (I28.out.below al)
      have A29 := Lib.hid (A28.out.below al)
      have B29 := Lib.hid (B28.out.trans (al.mono B28.out.size))
      have S29 := Lib.hid (Nat.lt_of_lt_of_le S28.out al.size)
      have J29 := Lib.hid (OwnT.one (by decide) R.out)
      have PJ : Hid (w14.heap.size < w28.heap.size) := S28
      clear T28 E28 M28 I28 A28 B28 S28 hK K al hw R
      refine Tc.plan_one 44 rfl (fun K hK => ?_)
      go_wp2_with fail
      refine (H17.out _ _ _ (I29.out.ints (by simp)) (J29.out.ints (by simp))).mono ?_
      rintro e w30 ⟨rfl, b30⟩
      have T30 := Lib.hid (T29.out.below b30)
      have E30 := Lib.hid (E29.out.below b30)
      have M30 := Lib.hid (M29.out.below b30)
      have I30 := Lib.hid (I29.out.below b30)
      have A30 := Lib.hid (A29.out.below b30)
      have J30 := Lib.hid (J29.out.below b30)
      have B30 := Lib.hid (B29.out.trans (b30.mono B29.out.size))
      have S30 := Lib.hid (Nat.lt_of_lt_of_le S29.out b30.size)
      go_wp2_with fail
      refine hK _ _ (stay_below b30 (fun k hk => by have h1 := XL.out; have h2 := S29.out; rcases hk with rfl | rfl | rfl <;> omega)) ?_
      clear T29 E29 M29 I29 A29 J29 B29 S29 hK K b30
      refine Tc.plan_floats [45] [_] rfl ?_
      dsimp only [List.getElem_toArray, List.getElem_cons_succ, List.getElem_cons_zero]
      repeat (go_big_quiet_want; go_big_quiet_op; first | go_big_quiet_on | (refine ⟨_, fun _ _ => rfl, ?_⟩; go_big_quiet_on))
      refine wpQuiet_nil ?_
      refine Tc.plan_done (l := [_]) rfl (fun K hK => ?_)
      go_wp2_with fail
      go_ret
      exact ⟨rfl, B30.out⟩
  · have hsz : (rowF 38 (akC E)).size = 38 := rowF_size _ _
    go_wp2_with fail
    rw [fold_ack]
    have al := (Below.refl _ w24).alloc (Nat.le_refl _) (.cells (rowF 38 (akC E)) 27)
    have R : Hid (RowV (w24.alloc (.cells (rowF 38 (akC E)) 27)) w24.heap.size 27 38 (akC E)) := Lib.hid (RowV.new w24 27 38 (akC E))
    refine hK _ _ (stay_below al (fun k hk => by have h1 := XL.out; have h2 := S24.out; rcases hk with rfl | rfl | rfl <;> omega)) ?_
    obtain ⟨w25, hw⟩ : ∃ y, w24.alloc (.cells (rowF 38 (akC E)) 27) = y := ⟨_, rfl⟩
    rw [hw] at al R ⊢
    have T25 := Lib.hid (T24.out.below al)
    have E25 := Lib.hid (E24.out.below al)
    have M25 := Lib.hid (M24.out.below al)
    have I25 := Lib.hid (I24.out.below al)
    have B25 := Lib.hid (B24.out.trans (al.mono B24.out.size))
    have S25 := Lib.hid (Nat.lt_of_lt_of_le S24.out al.size)
    have A25 := Lib.hid (OwnT.one (by decide) R.out)
    have PA : Hid (w14.heap.size < w24.heap.size) := S24
    clear T24 E24 M24 I24 B24 S24 hK K al hw R hsz
    refine Tc.plan_one 34 rfl (fun K hK => ?_)
    go_wp2_with fail
    have al := (Below.refl _ w25).alloc (Nat.le_refl _) (.cells #[.int .i64 3, .int .i64 0, .int .i64 4] 47)
    have R : Hid (RowV (w25.alloc (.cells #[.int .i64 3, .int .i64 0, .int .i64 4] 47)) w25.heap.size 47 3 (mbC ⟨3, 0, 4⟩)) := Lib.hid (RowV.new w25 47 3 (mbC ⟨3, 0, 4⟩))
    refine hK _ _ (stay_below al (fun k hk => by have h1 := XL.out; have h2 := S25.out; rcases hk with rfl | rfl | rfl <;> omega)) ?_
    obtain ⟨w26, hw⟩ : ∃ y, w25.alloc (.cells #[.int .i64 3, .int .i64 0, .int .i64 4] 47) = y := ⟨_, rfl⟩
    rw [hw] at al R ⊢
    have T26 := Lib.hid (T25.out.below al)
    have E26 := Lib.hid (E25.out.below al)
    have M26 := Lib.hid (M25.out.below al)
    have I26 := Lib.hid (I25.out.below al)
    have A26 := Lib.hid (A25.out.below al)
    have B26 := Lib.hid (B25.out.trans (al.mono B25.out.size))
    have S26 := Lib.hid (Nat.lt_of_lt_of_le S25.out al.size)
    have N26 := Lib.hid (OwnT.one (by decide) R.out)
    have PN : Hid (w14.heap.size < w25.heap.size) := S25
    clear T25 E25 M25 I25 A25 B25 S25 hK K al hw R
    refine Tc.plan_one 35 rfl (fun K hK => ?_)
    refine wpList_unguard rfl ?_
    refine wpList_app_T rfl (.tmp 126) (.tmp 128) info_mem Tryd.underlying37 rfl (by decide) (by decide) mbC_one mb0 rfl w.heap.size _ [⟨2, 0, pv⟩] rfl M26.out _ 1 [⟨3, 0, 4⟩] rfl (N26.out.cells_one mb0) (by simp) B26.out.size ?_
    intro v27 w27 M27 s27
    have b27 : Below w.heap.size w26 w27 := (Below.refl w.heap.size w26).grown s27.out.1 B26.out.size (fun k hk => (M26.out.lt k hk).1)
    have B27 := Lib.hid (B26.out.trans b27)
    have S27 := Lib.hid (Nat.lt_of_lt_of_le S26.out b27.size)
    have E27 := Lib.hid (s27.out.row E26.out (by intro e; have := XL.out; have e2 : some w14.heap.size = some w3.heap.size := e; have := Option.some.inj e2; omega))
    have T27 := Lib.hid (TT.out.below B27.out)
    have I27 := Lib.hid (I26.out.app s27.out (by refine .inr (fun e => ?_); have h1 := (I26.out.lt _ e).1; dsimp only at h1; have h2 := SI.out; omega))
    have A27 := Lib.hid (A26.out.app s27.out (by refine .inr (fun e => ?_); have h1 := (A26.out.lt _ e).1; dsimp only at h1; have h2 := PA.out; omega))
    obtain ⟨va, vc, rfl⟩ := M27.out.slice
    go_wp2_with fail
    refine hK _ _ (stay_app s27.out (fun k hk => ⟨by have h1 := XL.out; have h2 := S26.out; rcases hk with rfl | rfl | rfl <;> omega, by intro e; have h1 := XL.out; have e2 : w14.heap.size = k := Option.some.inj e; rcases hk with rfl | rfl | rfl <;> omega⟩)) ?_
    clear hK K b27 s27 T26 E26 M26 N26 I26 B26 S26 A26
    refine Tc.plan_one 38 rfl (fun K hK => ?_)
    go_wp2_with fail
    refine (H16.out _ _ _ (M27.out.mems (by simp)) (A27.out.acks (by simp)) T27.out).mono ?_
    rintro e w28 ⟨rfl, b28⟩
    have T28 := Lib.hid (T27.out.below b28)
    have E28 := Lib.hid (E27.out.below b28)
    have M28 := Lib.hid (M27.out.below b28)
    have I28 := Lib.hid (I27.out.below b28)
    have A28 := Lib.hid (A27.out.below b28)
    have B28 := Lib.hid (B27.out.trans (b28.mono B27.out.size))
    have S28 := Lib.hid (Nat.lt_of_lt_of_le S27.out b28.size)
    go_wp2_with fail
    refine hK _ _ (stay_below b28 (fun k hk => by have h1 := XL.out; have h2 := S27.out; rcases hk with rfl | rfl | rfl <;> omega)) ?_
    clear T27 E27 M27 I27 A27 B27 S27 hK K b28
    refine Tc.plan_floats [39, 40, 41, 42] [_, _, _, _] rfl ?_
    dsimp only [List.getElem_toArray, List.getElem_cons_succ, List.getElem_cons_zero]
    repeat (go_big_quiet_want; go_big_quiet_op; first | go_big_quiet_on | (refine ⟨_, fun _ _ => rfl, ?_⟩; go_big_quiet_on))
    refine wpQuiet_nil ?_
    refine Tc.plan_one 43 rfl (fun K hK => ?_)
    go_wp2_with fail
    have al := (Below.refl _ w28).alloc (Nat.le_refl _) (.cells #[.int .i64 1] 3)
    have R : Hid (RowV (w28.alloc (.cells #[.int .i64 1] 3)) w28.heap.size 3 1 (intC 1)) := Lib.hid (RowV.new w28 3 1 (intC 1))
    refine hK _ _ (stay_below al (fun k hk => by have h1 := XL.out; have h2 := S28.out; rcases hk with rfl | rfl | rfl <;> omega)) ?_
    obtain ⟨w29, hw⟩ : ∃ y, w28.alloc (.cells #[.int .i64 1] 3) = y := ⟨_, rfl⟩
    rw [hw] at al R ⊢
    have T29 := Lib.hid (T28.out.below al)
    have E29 := Lib.hid (E28.out.below al)
    have M29 := Lib.hid (M28.out.below al)
    have I29 := Lib.hid (I28.out.below al)
    have A29 := Lib.hid (A28.out.below al)
    have B29 := Lib.hid (B28.out.trans (al.mono B28.out.size))
    have S29 := Lib.hid (Nat.lt_of_lt_of_le S28.out al.size)
    have J29 := Lib.hid (OwnT.one (by decide) R.out)
    have PJ : Hid (w14.heap.size < w28.heap.size) := S28
    clear T28 E28 M28 I28 A28 B28 S28 hK K al hw R
    refine Tc.plan_one 44 rfl (fun K hK => ?_)
    go_wp2_with fail
    refine (H17.out _ _ _ (I29.out.ints (by simp)) (J29.out.ints (by simp))).mono ?_
    rintro e w30 ⟨rfl, b30⟩
    have T30 := Lib.hid (T29.out.below b30)
    have E30 := Lib.hid (E29.out.below b30)
    have M30 := Lib.hid (M29.out.below b30)
    have I30 := Lib.hid (I29.out.below b30)
    have A30 := Lib.hid (A29.out.below b30)
    have J30 := Lib.hid (J29.out.below b30)
    have B30 := Lib.hid (B29.out.trans (b30.mono B29.out.size))
    have S30 := Lib.hid (Nat.lt_of_lt_of_le S29.out b30.size)
    go_wp2_with fail
    refine hK _ _ (stay_below b30 (fun k hk => by have h1 := XL.out; have h2 := S29.out; rcases hk with rfl | rfl | rfl <;> omega)) ?_
    clear T29 E29 M29 I29 A29 J29 B29 S29 hK K b30
    refine Tc.plan_floats [45] [_] rfl ?_
    dsimp only [List.getElem_toArray, List.getElem_cons_succ, List.getElem_cons_zero]
    repeat (go_big_quiet_want; go_big_quiet_op; first | go_big_quiet_on | (refine ⟨_, fun _ _ => rfl, ?_⟩; go_big_quiet_on))
    refine wpQuiet_nil ?_
    refine Tc.plan_done (l := [_]) rfl (fun K hK => ?_)
    go_wp2_with fail
    go_ret
    exact ⟨rfl, B30.out⟩
end Go.Proofs.YtbjbgneejdjniaaDoor

namespace Go.Proofs.YtbjbgneejdjniaaDoor
open Go.RowKit Cod
theorem run_append_nil {P : Program} (w : World) (base : Nat) (t ty e : TypeId) (i : TypeInfo) (size : Nat) (ht : P.underlying t = some (.slice e)) (hi : P.info? e = some i)
    (v : Value) (n : Nat) (xs : List Value) (hown : w.ownsRow base e size v n xs) (c : Nat) : (Builtin.append_ #[t, t] ty #[v, .slice none 0 c]).run P w = .ok v w := by
  rcases hown.2 with ⟨rfl, rfl⟩ | ⟨g, cap, cur, rfl, _, _, hnc, _⟩
  · simp [Builtin.append_, run_underlying ht, sizeOf, typeInfo, hi, Builtin.lenOf, Builtin.firstCells]
  · simp [Builtin.append_, run_underlying ht, sizeOf, typeInfo, hi, Builtin.lenOf, Builtin.firstCells, hnc, storeCells]
section
variable {α : Type} {T : TypeId} {s : Nat} {c : α → Nat → Value} {w w' : World} {base : Nat} {v : Value} {l : List α}
/-- an own slice that has no cells -/
theorem OwnT.none0 {B : Nat} (hb : base ≤ B) (h : w.heap[B]? = some (.cells #[] T)) : OwnT T s c w base (.slice (some ⟨B, 0, none⟩) 0 0) [] :=
  ⟨by simp [flatS], .inr ⟨B, 0, #[], rfl, hb, h, Nat.le_refl _, by decide, by simp, by simp [flatS]⟩⟩
theorem wpList_app_S {z : Value} {bytes : Nat} {t : TypeId} {ops : Array Oper} {rest : List Oper} {o : Oper} {a : Act} {Q : Exit → Act → World → Prop} (hgd : o.guard = none) (x y : Operand)
    (hinfo : (Tryd.prog.info? T).map (fun i => (i.zero, i.size, i.bytes)) = some (some z, s, bytes)) (ht : Tryd.prog.underlying t = some (.slice T)) (hz : z.cells.size = s) (hs : 0 < s) (hby : bytes ≤ 1000) (h1 : ∀ u j, (c u j).oneCell' = true) (d : α)
    (ho : o.op = .call { callee := .builtin .append, args := #[x, y], argTypes := #[t, t] })
    (base : Nat) (v : Value) (l : List α) (hx : a.eval x = v) (hown : OwnT T s c w base v l) (u : Value) (l2 : List α) (hy : a.eval y = u)
    (hc : SlAt s w u l2.length (fun i => c (l2.getD i d))) (hlen : l.length + l2.length ≤ 1000000) (hbase : base ≤ w.heap.size)
    (h : ∀ v' w', Hid (OwnT T s c w' base v' (l ++ l2)) → Hid (AppStep w v w' v') → wpList Tryd.prog ops Q rest (a.put o.dst v') w') : wpList Tryd.prog ops Q (o :: rest) a w := by
  obtain ⟨i0, hi, hz0, hz1, hz2⟩ := info_parts3 hinfo
  have fin : ∀ v' w', w'.ownsRow base T s v' (l.length + l2.length) (flatS s c l ++ flatS s c l2) → AppStep w v w' v' → wpList Tryd.prog ops Q rest (a.put o.dst v') w' := by
    intro v' w' h3 h4
    refine h v' w' ?_ h4
    unfold Hid OwnT
    rw [List.length_append, flatS_join]
    exact h3
  have news1 : ∀ x ∈ flatS s c l2, x.oneCell' = true := by
    intro u hu
    unfold flatS at hu
    obtain ⟨b, _, hb⟩ := List.mem_flatMap.1 hu
    obtain ⟨j, _, rfl⟩ := List.mem_map.1 hb
    exact h1 _ _
  rcases hc with ⟨⟨ad, k, rfl, _⟩, h0⟩ | ⟨b, off, cap, rfl, _, _, _, _, hcell⟩
  · obtain rfl : l2 = [] := List.eq_nil_of_length_eq_zero h0
    cases ad with
    | none =>
      refine wpList_plain hgd fun K hK => ?_
      have hr := run_append_nil (P := Tryd.prog) w base t o.type T i0 s ht hi v l.length (flatS s c l) hown k
      unfold Oper.wp execOp
      simp only [ho, resolve, invoke, builtin, Sem.run_bind, Sem.run_pure, Result.andThen_ok, List.map_toArray, List.map_cons, List.map_nil, hx, hy, hr]
      exact hK _ _ (fin v w (by rw [show flatS s c ([] : List α) = [] from rfl, List.append_nil]; exact hown) ⟨World.grownBy.refl w _, .inl rfl⟩)
    | some ad =>
      exact wpList_app hgd x y t ho base T i0 z s bytes ht hi hz0 hz1 hz2 hz hs v l.length (flatS s c l) hx hown ad 0 k (flatS s c ([] : List α)) hy (by simp [flatS]) (fun j u hj => by simp [flatS] at hj) news1 (by simp only [List.length_nil] at hlen; unfold maxLen; omega) (Nat.le_trans (Nat.mul_le_mul hlen hby) (by decide)) hbase fin
  · refine wpList_app hgd x y t ho base T i0 z s bytes ht hi hz0 hz1 hz2 hz hs v l.length (flatS s c l) hx hown ⟨b, off, none⟩ l2.length cap (flatS s c l2) hy (flatS_len l2) ?_ news1 (by unfold maxLen; omega) (Nat.le_trans (Nat.mul_le_mul hlen hby) (by decide)) hbase fin
    intro j u hj
    have hjl : j < l2.length * s := by have := (List.getElem?_eq_some_iff.1 hj).1; rwa [flatS_len] at this
    have hi : j / s < l2.length := (Nat.div_lt_iff_lt_mul hs).2 hjl
    have hm : j % s < s := Nat.mod_lt _ hs
    have e := Nat.div_add_mod j s
    have hg := flatS_get d (s := s) (c := c) l2 (j / s) (j % s) hi hm
    rw [e] at hg
    have h5 := hcell _ hi _ hm
    rw [Addr.add_mid, show off + j = off + s * (j / s) + j % s by omega, h5, ← hj]; exact hg.symm
end
theorem SlAt.app {s n : Nat} {c : Nat → Nat → Value} {w w' : World} {u v v' : Value} (h : SlAt s w u n c) (st : AppStep w v w' v') (hne : ∀ b, v.ownBlock = some b → ∀ k off, u = .slice (some ⟨b, off, none⟩) n k → n = 0) : SlAt s w' u n c := by
  rcases h with h | ⟨b, off, cap, h1, h2, h3, h4, h5, h6⟩
  · exact .inl h
  · have hb : v.ownBlock ≠ some b := fun e => by have := hne b e cap off h1; omega
    exact .inr ⟨b, off, cap, h1, h2, h3, h4, Nat.lt_of_lt_of_le h5 st.1.size, fun i hi j hj => (World.cell?_of_block (w := w) (w' := w') (a := ⟨b, off + s * i + j, none⟩) (st.block h5 hb)).trans (h6 i hi j hj)⟩
end Go.Proofs.YtbjbgneejdjniaaDoor

namespace Go.Proofs.YtbjbgneejdjniaaDoor
open Go.RowKit Cod
abbrev keep (n : Nat) : Tc.Rl := Tc.Rl.stay (fun k => k < n)
theorem keep_below {n : Nat} {w W : World} (b : Below n w W) : (keep n).r w W := fun k hk => b.block k hk
theorem row_keep {n : Nat} {w W : World} {g N : Nat} {T : TypeId} {f : Nat → Value} (h : RowV w g T N f) (hn : g < n) (hr : (keep n).r w W) : RowV W g T N f := stay_row (S := fun k => k < n) h hn hr
theorem cell_keep {n : Nat} {w W : World} {b off : Nat} {v : Value} (h : w.cell? ⟨b, off, none⟩ = some v) (hn : b < n) (hr : (keep n).r w W) : W.cell? ⟨b, off, none⟩ = some v := (stay_cell (S := fun k => k < n) hn hr).trans h
theorem below_app {n : Nat} {w w' : World} {v v' : Value} (st : AppStep w v w' v') (hn : n ≤ w.heap.size) (hb : ∀ k, v.ownBlock = some k → n ≤ k) : Below n w w' := (Below.refl n w).grown st.1 hn hb
theorem OwnT.ge {α : Type} {T : TypeId} {s : Nat} {c : α → Nat → Value} {w : World} {base : Nat} {v : Value} {l : List α} (h : OwnT T s c w base v l) : ∀ k, v.ownBlock = some k → base ≤ k := fun k hk => (h.lt k hk).1
/-- an own slice, and another one's append: their blocks lie on two sides of a number -/
theorem OwnT.appL {α : Type} {T : TypeId} {s : Nat} {c : α → Nat → Value} {w w' : World} {base n : Nat} {v u u' : Value} {l : List α} (h : OwnT T s c w base v l) (hlt : ∀ k, v.ownBlock = some k → k < n) (hge : ∀ k, u.ownBlock = some k → n ≤ k) (st : AppStep w u w' u') : OwnT T s c w' base v l :=
  h.app st (by
    cases hb : v.ownBlock with
    | none => exact .inl rfl
    | some k => exact .inr (fun e => by have := hlt k hb; have := hge k e.symm; omega))
theorem OwnT.appR {α : Type} {T : TypeId} {s : Nat} {c : α → Nat → Value} {w w' : World} {base n : Nat} {v u u' : Value} {l : List α} (h : OwnT T s c w base v l) (hlt : ∀ k, u.ownBlock = some k → k < n) (hge : ∀ k, v.ownBlock = some k → n ≤ k) (st : AppStep w u w' u') : OwnT T s c w' base v l :=
  h.app st (by
    cases hb : v.ownBlock with
    | none => exact .inl rfl
    | some k => exact .inr (fun e => by have := hge k hb; have := hlt k e.symm; omega))
theorem fold_mem (g : Nat → Value) : Array.foldl (fun (cs : Array Value) (x : Value × Nat) => cs.setIfInBounds x.snd x.fst) #[.int .i64 0, .int .i64 0, .int .i64 0] (rowF 3 g).zipIdx 0 3 = rowF 3 g := by kernel_rfl
/-- a list read backwards -/
theorem rev_take {α : Type} (d : α) (l : List α) {k q : Nat} (hq : l.length = q) (hk : k < q) : l.reverse.take (k + 1) = l.reverse.take k ++ [l.getD (q - 1 - k) d] := by
  subst hq
  rw [take_succ_getD d l.reverse (by simpa using hk)]
  congr 2
  rw [List.getD_eq_getElem?_getD, List.getD_eq_getElem?_getD, List.getElem?_reverse (by omega)]
theorem rev_all {α : Type} (l : List α) {q : Nat} (hq : l.length = q) : l.reverse.take q = l.reverse := List.take_of_length_le (by simp; omega)
end Go.Proofs.YtbjbgneejdjniaaDoor
