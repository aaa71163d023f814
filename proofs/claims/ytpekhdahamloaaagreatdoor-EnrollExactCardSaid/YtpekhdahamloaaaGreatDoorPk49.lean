/- Acknowledgements, members and entries that came in, opened; what is decoded fits. The statements' examples hold: sane. append onto an own slice of structs, the source nil, empty or not; an own slice without cells. regions that draw: what lies below a fixed number stays (every step of the region is Below it). The reference: a list of numbers as a value; a certificate's message, Certify. -/
import Derived.Test.YtpekhdahamloaaaGreatDoorPk42
import Derived.Test.YtpekhdahamloaaaGreatDoorPk43
import Derived.Deep.Slices
import Derived.Test.YtpekhdahamloaaaGreatDoorPk48
set_option linter.unusedVariables false
set_option linter.unusedSimpArgs false
namespace Go.Proofs.YtpekhdahamloaaaGreatDoor
open Go.ChangeShapes Go.WideShapes Go.ChangeAt Go.RowKit Cod
section
variable {H : Type} {enc : TypeId × Value → H} {W : World} {fuel : Nat} {cs : List Value} {x : DataW H × List MemPlace}
theorem drop_one {l : List Value} {i : Nat} {v : Value} (h : (l.drop i).take 1 = [v]) : l[i]? = some v := by
  have := congrArg (·[0]?) h
  simpa [List.getElem?_take, List.getElem?_drop] using this
set_option maxRecDepth 100000 in
theorem trod_dig (h : DataW.trod enc Tryz.prog W 0 (fun _ => true) true fuel 35 cs = some x) : ∃ l : List UInt8, l.length = 32 ∧ ∀ i, i < 32 → cs[i]? = some (vB (l.getD i 0)) := by
  obtain ⟨xs, m, rfl, _, _, hn, hel⟩ := DataW.trod_array Tryz.underlying35 h
  have hc1 : Tryz.prog.cellsOf 5 = 1 := by kernel_rfl
  have each : ∀ i, i < 32 → ∃ z, cs[i]? = some (.int .u8 z) ∧ (Lit.int .u8 z).wf = true := by
    intro i hi
    have h1 := hel i hi
    rw [List.getElem?_eq_getElem (by omega)] at h1
    obtain ⟨z, e1, _, e3⟩ := DataW.trod_int Tryz.underlying5 h1
    rw [hc1, Nat.mul_one] at e1
    exact ⟨z, drop_one e1, e3⟩
  refine ⟨(List.range 32).map fun (i : Nat) => match (cs[i]? : Option Value) with | some (Value.int _ z) => UInt8.ofNat z.toNat | _ => 0, by simp, fun i hi => ?_⟩
  obtain ⟨z, e1, e2⟩ := each i hi
  rw [e1, vB_of e2]
  congr 2
  rw [List.getD_eq_getElem?_getD, List.getElem?_map, List.getElem?_range hi]
  simp [e1]
theorem i64B_of {z : Int} (h : (Lit.int .i64 z).wf = true) : i64B z := by have := i64_bd h; unfold i64B; omega
theorem cells_eq {cs : List Value} {s : Nat} {c : Nat → Value} (hl : cs.length = s) (h : ∀ i, i < s → cs[i]? = some (c i)) : cs = (List.range s).map c := by
  apply List.ext_getElem?
  intro i
  by_cases hi : i < s
  · rw [h i hi, List.getElem?_map, List.getElem?_range hi]; rfl
  · rw [List.getElem?_eq_none (by omega), List.getElem?_eq_none (by simp; omega)]
theorem field_at {fs : Array Field} {cs : List Value} {xs : List (DataW H × List MemPlace)} {n : Nat} (hlen : xs.length = fs.size)
    (hf : ∀ (i : Nat) (f : Field), fs[i]? = some f → DataW.trod enc Tryz.prog W 0 (fun _ => true) true n f.type ((cs.drop f.offset).take (Tryz.prog.cellsOf f.type)) = xs[i]?)
    (i o c : Nat) (T : TypeId) {f : Field} (hi : fs[i]? = some f) (ht : f.type = T) (ho : f.offset = o) (hc : Tryz.prog.cellsOf T = c) : ∃ y, DataW.trod enc Tryz.prog W 0 (fun _ => true) true n T ((cs.drop o).take c) = some y := by
  have h1 := hf i f hi
  have hil : i < fs.size := (Array.getElem?_eq_some_iff.1 hi).1
  rw [List.getElem?_eq_getElem (by omega), ht, ho, hc] at h1
  exact ⟨_, h1⟩
theorem field_int {fs : Array Field} {cs : List Value} {xs : List (DataW H × List MemPlace)} {n : Nat} (hlen : xs.length = fs.size)
    (hf : ∀ (i : Nat) (f : Field), fs[i]? = some f → DataW.trod enc Tryz.prog W 0 (fun _ => true) true n f.type ((cs.drop f.offset).take (Tryz.prog.cellsOf f.type)) = xs[i]?)
    (i o : Nat) {f : Field} (hi : fs[i]? = some f) (ht : f.type = 3) (ho : f.offset = o) : ∃ z, cs[o]? = some (.int .i64 z) ∧ i64B z := by
  obtain ⟨y, h1⟩ := field_at hlen hf i o 1 3 hi ht ho (by kernel_rfl)
  obtain ⟨z, e1, _, e3⟩ := DataW.trod_int Tryz.underlying3 h1
  exact ⟨z, drop_one e1, i64B_of e3⟩
set_option maxRecDepth 100000 in
/-- a slice of structs that came in -/
theorem slice_open {α : Type} {T e : TypeId} {s : Nat} {c : α → Nat → Value} {good : α → Prop} (d0 : α) (ht : Tryz.prog.underlying T = some (.slice e)) (hc : Tryz.prog.cellsOf e = s) (hs0 : 0 < s)
    (hel : ∀ n cs x, DataW.trod enc Tryz.prog W 0 (fun _ => true) true n e cs = some x → ∃ a : α, good a ∧ cs = (List.range s).map (c a))
    {v : Value} {d : DataW H} {p : List MemPlace} {base : Nat}
    (hok : Value.okWide Tryz.prog W .any base T v) (hj : DataW.Trod enc Tryz.prog W 0 (fun _ => true) true T v d p)
    (hs : ∀ elems spare, d = .slice elems spare → elems.length + spare.length ≤ reachBytes) :
    ∃ l : List α, (∀ a ∈ l, good a) ∧ SlAt s W v l.length (fun i => c (l.getD i d0)) := by
  obtain ⟨a, len, cap, rfl⟩ := okWide_slice ht hok
  obtain ⟨fuel, hf⟩ := hj
  rcases Deep.open_slice ht hf with ⟨hcs, _⟩ | ⟨x, l, cp, m, n, D, Pl, hcs, _, hl, hm, hmm, hx, hi⟩
  · simp [Value.cells] at hcs
    obtain ⟨rfl, rfl, rfl⟩ := hcs
    exact ⟨[], (fun a h => by cases h), .inl ⟨⟨none, 0, rfl, fun _ => rfl⟩, rfl⟩⟩
  · simp [Value.cells] at hcs
    obtain ⟨rfl, rfl, rfl⟩ := hcs
    obtain rfl : m = cap := by simpa using hmm
    simp only [Prod.mk.injEq] at hx
    have hr := hs _ _ hx.1
    simp only [List.length_map, List.length_range] at hr
    unfold reachBytes at hr
    unfold maxLen at hm
    rcases Nat.eq_zero_or_pos len with h0 | h0
    · subst h0
      exact ⟨[], (fun a h => by cases h), .inl ⟨⟨_, _, rfl, fun h => by cases h⟩, rfl⟩⟩
    have each : ∀ i, ∃ a : α, i < len → good a ∧ ∀ j, j < s → W.cell? (x.add (s * i + j)) = some (c a j) := by
      intro i
      by_cases hil : i < len
      · obtain ⟨cs', h1, h2⟩ := hi i (by omega)
        obtain ⟨a, hg, rfl⟩ := hel _ _ _ h2
        obtain ⟨_, _, hat⟩ := World.cells?_some h1
        refine ⟨a, fun _ => ⟨hg, fun j hj => ?_⟩⟩
        have h3 := hat j (by rw [hc]; exact hj)
        rw [Go.Deep.add_add, hc] at h3
        rw [Nat.mul_comm s i, h3, List.getElem?_map, List.getElem?_range hj]; rfl
      · exact ⟨d0, fun h => absurd h hil⟩
    obtain ⟨f, hf⟩ := Classical.axiomOfChoice each
    have hlt : ((List.range len).map f).length = len := by simp
    obtain ⟨b, off, spot⟩ := x
    have hc0 := (hf 0 h0).2 0 hs0
    have hspot : spot = none := by simpa [Addr.add] using World.cell?_spot hc0
    subst hspot
    have hb : b < W.heap.size := block_of_cell (show W.cell? ⟨b, off, none⟩ = some _ by simpa [Addr.add] using hc0)
    refine ⟨(List.range len).map f, fun a ha => ?_, .inr ⟨b, off, m, by rw [hlt], by rw [hlt]; omega, by rw [hlt]; omega, ⟨by rw [hlt]; omega, by omega⟩, hb, fun i hil j hj => ?_⟩⟩
    · obtain ⟨i, hi, rfl⟩ := List.mem_map.1 ha
      exact (hf i (List.mem_range.1 hi)).1
    · rw [hlt] at hil
      have h1 := (hf i hil).2 j hj
      show W.cell? _ = some (c (((List.range len).map f).getD i d0) j)
      rw [List.getD_eq_getElem?_getD, List.getElem?_map, List.getElem?_range hil]
      have h2 : (Addr.add ⟨b, off, none⟩ (s * i + j)) = ⟨b, off + s * i + j, none⟩ := by
        unfold Addr.add; simp [Nat.add_assoc]
      rw [h2] at h1
      exact h1
end
theorem repF_bd {r : Nat} (hf : ∀ (b : List UInt8) (v : Tv) (b' : List UInt8), valF r b = some (v, b') → b.length ≤ 1000000 → bdV v) : ∀ (n : Nat) (b : List UInt8) (l : List Tv) (b' : List UInt8), repF (valF r) n b = some (l, b') → b.length ≤ 1000000 → bdL l
  | 0, b, l, b', h, hb => by
    simp only [repF, Option.some.injEq, Prod.mk.injEq] at h
    obtain ⟨rfl, rfl⟩ := h
    simp [bdL]
  | n + 1, b, l, b', h, hb => by
    unfold repF at h
    split at h
    · cases h
    · rename_i v b1 h1
      obtain ⟨⟨l', b2⟩, h2, h3⟩ := Option.map_eq_some_iff.1 h
      simp only [Prod.mk.injEq] at h3
      obtain ⟨rfl, rfl⟩ := h3
      have e1 := hf _ _ _ h1 hb
      have hle : b1.length ≤ b.length := by rw [(valF_enc _ _ _ _ h1).2.2, List.length_append]; omega
      have f1 := repF_bd hf n b1 l' b2 h2 (by omega)
      unfold bdL
      exact ⟨e1, f1⟩
theorem valF_bd : ∀ (r : Nat) (b : List UInt8) (v : Tv) (b' : List UInt8), valF r b = some (v, b') → b.length ≤ 1000000 → bdV v
  | _, [], _, _, h, _ => by simp [valF] at h
  | r, c :: b, v, b', h, hb => by
    rw [List.length_cons] at hb
    unfold valF at h
    split at h
    · obtain ⟨⟨n, b1⟩, h1, h2⟩ := Option.map_eq_some_iff.1 h
      simp only [Prod.mk.injEq] at h2
      obtain ⟨rfl, rfl⟩ := h2
      unfold bdV
      exact ⟨unzig_bd (numF_lt h1), by decide, by decide, by simp [bdL]⟩
    · split at h
      · split at h
        · cases h
        · rename_i n b1 h1
          split at h
          · rename_i hn
            simp only [Option.some.injEq, Prod.mk.injEq] at h
            obtain ⟨rfl, rfl⟩ := h
            have hl := numF_len h1
            unfold bdV
            have hs : (ByteArray.mk (b1.take n).toArray).size = n := by simp [ByteArray.size]; omega
            exact ⟨⟨by decide, by decide⟩, by rw [hs]; omega, by decide, by simp [bdL]⟩
          · cases h
      · split at h
        · split at h
          · cases h
          · split at h
            · cases h
            · rename_i r' _ n b1 h1
              split at h
              · rename_i hn
                obtain ⟨⟨l, b2⟩, h2, h3⟩ := Option.map_eq_some_iff.1 h
                simp only [Prod.mk.injEq] at h3
                obtain ⟨rfl, rfl⟩ := h3
                have hl := numF_len h1
                have f1 := repF_bd (valF_bd r') n b1 l b2 h2 (by omega)
                have f2 := (repF_enc (valF_enc r') n b1 l b2 h2).1
                unfold bdV
                exact ⟨⟨by decide, by decide⟩, by decide, by omega, f1⟩
              · cases h
        · cases h
theorem decF_bd {b : List UInt8} {v : Tv} (h : decF b = some v) (hb : b.length ≤ 1000000) : bdV v := by
  unfold decF at h
  split at h
  · rename_i v' h1
    simp only [Option.some.injEq] at h
    subst h
    exact valF_bd 16 b v' [] h1 hb
  · cases h
theorem bdL_n : ∀ {l : List Tv}, bdL l → ∀ i, i64B (l.getD i tv0).n
  | [], _, i => ⟨by show (-9223372036854775808 : Int) ≤ 0; decide, by show (0 : Int) < 9223372036854775808; decide⟩
  | t :: l, h, i => by
    unfold bdL at h
    cases i with
    | zero => cases t with | mk k n s l' => have h1 := h.1; unfold bdV at h1; exact h1.1
    | succ i => exact bdL_n h.2 i
theorem adecV_wf (l : List UInt8) (hl : l.length ≤ 1000000) : (adecV l).wf := by
  unfold adecV
  split
  · cases h : decF l with
    | none => exact ak0_wf
    | some t =>
      have hb := decF_bd h hl
      obtain ⟨k, n, s, ts⟩ := t
      unfold bdV at hb
      have h1 := bdL_n hb.2.2.2
      exact ⟨h1 0, h1 1, h1 2, h1 3, chP_len _, h1 5, h1 6⟩
  · exact ak0_wf
end Go.Proofs.YtpekhdahamloaaaGreatDoor

namespace Go.Proofs.YtpekhdahamloaaaGreatDoor
open Go.RowKit Cod
theorem sl_nil {s : Nat} {c : Nat → Nat → Value} (w : World) : SlAt s w (.slice none 0 0) 0 c := .inl ⟨⟨none, 0, rfl, fun _ => rfl⟩, rfl⟩
theorem slAt_row {w : World} {B s : Nat} {T : TypeId} {c : Nat → Nat → Value} (h : RowV w B T s (c 0)) : SlAt s w (.slice (some ⟨B, 0, none⟩) 1 1) 1 c :=
  .inr ⟨B, 0, 1, rfl, Nat.le_refl _, by omega, ⟨by omega, by omega⟩, h.lt, fun i hi j hj => by
    obtain rfl : i = 0 := by omega
    have := h.cell hj
    simpa using this⟩
theorem wpQuiet_unguard {P : Program} {C : World → Prop} {ops : Array Oper} {rest : List Oper} {o : Oper} {a : Act} {Q : Act → Prop} (hw : Region.wanted o (yielded ops a.tmps) = true)
    (h : wpQuiet P ops C Q ({ o with guard := none } :: rest) a) : wpQuiet P ops C Q (o :: rest) a := by
  unfold wpQuiet at h ⊢
  rw [if_pos hw]
  rw [if_pos (show Region.wanted { o with guard := none } (yielded ops a.tmps) = true from rfl)] at h
  exact h
theorem wpQuiet_binOp {P : Program} {C : World → Prop} {ops : Array Oper} {rest : List Oper} {o : Oper} {a : Act} {Q : Act → Prop} (hgd : o.guard = none) (op : BinOp) (T : TypeId) (x y : Operand) (T2 : TypeId) (ho : o.op = .binOp op T x y T2) (u v r : Value) (hx : a.eval x = u) (hy : a.eval y = v)
    (hg : ∀ W, (eqGuard op T x y u v).run P W = .ok () W) (hr : ∀ W, (binOp op T u v).run P W = .ok r W) (h : wpQuiet P ops C Q rest (a.put o.dst r)) : wpQuiet P ops C Q (o :: rest) a :=
  wpQuiet_val hgd r (fun W _ => by
    unfold execOp
    simp only [ho, hx, hy, Sem.run_bind, Sem.run_pure, Result.andThen_ok, hg, hr]) h
theorem OwnT.cells_one {α : Type} {T : TypeId} {s : Nat} {c : α → Nat → Value} {w : World} {base g cap : Nat} {a : α} (d : α) (h : OwnT T s c w base (.slice (some ⟨g, 0, none⟩) 1 cap) [a]) : ∀ i, i < [a].length → ∀ j, j < s → w.cell? ⟨g, s * i + j, none⟩ = some (c ([a].getD i d) j) := fun i hi j hj => by
  have h4 := World.ownsRow.cells h (g := g) rfl (s * i + j) _ (flatS_get d [a] i j hi hj)
  rw [Addr.add_mid, Nat.zero_add] at h4
  exact h4
theorem z32_lit : rowF 32 (dgF z32) = #[.int .u8 0, .int .u8 0, .int .u8 0, .int .u8 0, .int .u8 0, .int .u8 0, .int .u8 0, .int .u8 0, .int .u8 0, .int .u8 0, .int .u8 0, .int .u8 0, .int .u8 0, .int .u8 0, .int .u8 0, .int .u8 0, .int .u8 0, .int .u8 0, .int .u8 0, .int .u8 0, .int .u8 0, .int .u8 0, .int .u8 0, .int .u8 0, .int .u8 0, .int .u8 0, .int .u8 0, .int .u8 0, .int .u8 0, .int .u8 0, .int .u8 0, .int .u8 0] := by kernel_rfl
theorem ch5_lit : rowF 32 (dgF ch5) = #[.int .u8 5, .int .u8 0, .int .u8 0, .int .u8 0, .int .u8 0, .int .u8 0, .int .u8 0, .int .u8 0, .int .u8 0, .int .u8 0, .int .u8 0, .int .u8 0, .int .u8 0, .int .u8 0, .int .u8 0, .int .u8 0, .int .u8 0, .int .u8 0, .int .u8 0, .int .u8 0, .int .u8 0, .int .u8 0, .int .u8 0, .int .u8 0, .int .u8 0, .int .u8 0, .int .u8 0, .int .u8 0, .int .u8 0, .int .u8 0, .int .u8 0, .int .u8 0] := by kernel_rfl
theorem i64s {z : Int} (h : -1000000 ≤ z ∧ z ≤ 1000000) : i64B z := by unfold i64B; omega
theorem akE_wf : akE.wf := mkV_wf (i64s (by decide)) (i64s (by decide)) (i64s (by decide)) (i64s (by decide)) rfl
theorem akZ_wf : akZ.wf := mkV_wf (i64s (by decide)) (i64s (by decide)) (i64s (by decide)) (i64s (by decide)) rfl
theorem encA_rg_len {a : Ak} (ha : a.wf) : (encA a [a.r, a.g]).length ≤ 2000 := encA_len a ha _ (fun z hz => by
  simp only [List.mem_cons, List.not_mem_nil, or_false] at hz
  rcases hz with rfl | rfl
  · exact ha.r
  · exact ha.g) (by simp)
theorem enc7_len : (encV (numT 7)).length ≤ 11 := by
  have := encL_nums_len [7] (fun z hz => by rw [List.mem_singleton] at hz; subst hz; exact i64s (by decide))
  simpa [encL] using this
/-- an own slice of numbers reads as a list -/
theorem ints_own {w : World} {base : Nat} {v : Value} {l : List Int} (h : w.ownsRow base 3 1 v l.length (l.map (Value.int .i64))) (hn : l.length ≤ 1000000) : IntsS w v l := by
  rcases h.2 with ⟨rfl, h3⟩ | ⟨g, cap, cur, rfl, hb, hg, hle, hm, hs, ht⟩
  · exact .inl ⟨⟨none, 0, rfl, fun _ => rfl⟩, h3⟩
  · by_cases h0 : l.length = 0
    · exact .inl ⟨⟨_, cap, by rw [h0], fun h => by cases h⟩, h0⟩
    · unfold maxLen at hm
      refine .inr ⟨g, 0, cap, rfl, hle, by omega, ⟨by omega, by omega⟩, (Array.getElem?_eq_some_iff.1 hg).1, fun i hi j hj => ?_⟩
      obtain rfl : j = 0 := by omega
      have h4 := World.ownsRow.cells h (g := g) rfl i (.int .i64 (l.getD i 0)) (by simp [List.getD_eq_getElem?_getD, hi])
      rw [Addr.add_mid] at h4
      simpa using h4
theorem akE_ok : okA akE = true := by unfold akE; rw [(mkV_ok mk2).1]; exact (mkV_ok mk2).2.1
end Go.Proofs.YtpekhdahamloaaaGreatDoor

namespace Go.Proofs.YtpekhdahamloaaaGreatDoor
open Go.RowKit Cod
theorem run_append_nil {P : Program} (w : World) (base : Nat) (t ty e : TypeId) (i : TypeInfo) (size : Nat) (ht : P.underlying t = some (.slice e)) (hi : P.info? e = some i)
    (v : Value) (n : Nat) (xs : List Value) (hown : w.ownsRow base e size v n xs) (c : Nat) : (Builtin.append_ #[t, t] ty #[v, .slice none 0 c]).run P w = .ok v w := by
  rcases hown.2 with ⟨rfl, rfl⟩ | ⟨g, cap, cur, rfl, _, _, hnc, _⟩
  · simp [Builtin.append_, run_underlying ht, sizeOf, typeInfo, hi, Builtin.lenOf, Builtin.firstCells]
  · simp [Builtin.append_, run_underlying ht, sizeOf, typeInfo, hi, Builtin.lenOf, Builtin.firstCells, hnc, storeCells]
section
variable {α : Type} {T : TypeId} {s : Nat} {c : α → Nat → Value} {w w' : World} {base : Nat} {v : Value} {l : List α}
/-- an own slice that has no cells -/
theorem OwnT.none0 {B : Nat} (hb : base ≤ B) (h : w.heap[B]? = some (.cells #[] T)) : OwnT T s c w base (.slice (some ⟨B, 0, none⟩) 0 0) [] :=
  ⟨by simp [flatS], .inr ⟨B, 0, #[], rfl, hb, h, Nat.le_refl _, by decide, by simp, by simp [flatS]⟩⟩
theorem wpList_app_S {z : Value} {bytes : Nat} {t : TypeId} {ops : Array Oper} {rest : List Oper} {o : Oper} {a : Act} {Q : Exit → Act → World → Prop} (hgd : o.guard = none) (x y : Operand)
    (hinfo : (Tryz.prog.info? T).map (fun i => (i.zero, i.size, i.bytes)) = some (some z, s, bytes)) (ht : Tryz.prog.underlying t = some (.slice T)) (hz : z.cells.size = s) (hs : 0 < s) (hby : bytes ≤ 1000) (h1 : ∀ u j, (c u j).oneCell' = true) (d : α)
    (ho : o.op = .call { callee := .builtin .append, args := #[x, y], argTypes := #[t, t] })
    (base : Nat) (v : Value) (l : List α) (hx : a.eval x = v) (hown : OwnT T s c w base v l) (u : Value) (l2 : List α) (hy : a.eval y = u)
    (hc : SlAt s w u l2.length (fun i => c (l2.getD i d))) (hlen : l.length + l2.length ≤ 1000000) (hbase : base ≤ w.heap.size)
    (h : ∀ v' w', Hid (OwnT T s c w' base v' (l ++ l2)) → Hid (AppStep w v w' v') → wpList Tryz.prog ops Q rest (a.put o.dst v') w') : wpList Tryz.prog ops Q (o :: rest) a w := by
  obtain ⟨i0, hi, hz0, hz1, hz2⟩ := info_parts3 hinfo
  have fin : ∀ v' w', w'.ownsRow base T s v' (l.length + l2.length) (flatS s c l ++ flatS s c l2) → AppStep w v w' v' → wpList Tryz.prog ops Q rest (a.put o.dst v') w' := by
    intro v' w' h3 h4
    refine h v' w' ?_ h4
    unfold Hid OwnT
    rw [List.length_append, flatS_join]
    exact h3
  have news1 : ∀ x ∈ flatS s c l2, x.oneCell' = true := by
    intro u hu
    unfold flatS at hu
    obtain ⟨b, _, hb⟩ := List.mem_flatMap.1 hu
    obtain ⟨j, _, rfl⟩ := List.mem_map.1 hb
    exact h1 _ _
  rcases hc with ⟨⟨ad, k, rfl, _⟩, h0⟩ | ⟨b, off, cap, rfl, _, _, _, _, hcell⟩
  · obtain rfl : l2 = [] := List.eq_nil_of_length_eq_zero h0
    cases ad with
    | none =>
      refine wpList_plain hgd fun K hK => ?_
      have hr := run_append_nil (P := Tryz.prog) w base t o.type T i0 s ht hi v l.length (flatS s c l) hown k
      unfold Oper.wp execOp
      simp only [ho, resolve, invoke, builtin, Sem.run_bind, Sem.run_pure, Result.andThen_ok, List.map_toArray, List.map_cons, List.map_nil, hx, hy, hr]
      exact hK _ _ (fin v w (by rw [show flatS s c ([] : List α) = [] from rfl, List.append_nil]; exact hown) ⟨World.grownBy.refl w _, .inl rfl⟩)
    | some ad =>
      exact wpList_app hgd x y t ho base T i0 z s bytes ht hi hz0 hz1 hz2 hz hs v l.length (flatS s c l) hx hown ad 0 k (flatS s c ([] : List α)) hy (by simp [flatS]) (fun j u hj => by simp [flatS] at hj) news1 (by simp only [List.length_nil] at hlen; unfold maxLen; omega) (Nat.le_trans (Nat.mul_le_mul hlen hby) (by decide)) hbase fin
  · refine wpList_app hgd x y t ho base T i0 z s bytes ht hi hz0 hz1 hz2 hz hs v l.length (flatS s c l) hx hown ⟨b, off, none⟩ l2.length cap (flatS s c l2) hy (flatS_len l2) ?_ news1 (by unfold maxLen; omega) (Nat.le_trans (Nat.mul_le_mul hlen hby) (by decide)) hbase fin
    intro j u hj
    have hjl : j < l2.length * s := by have := (List.getElem?_eq_some_iff.1 hj).1; rwa [flatS_len] at this
    have hi : j / s < l2.length := (Nat.div_lt_iff_lt_mul hs).2 hjl
    have hm : j % s < s := Nat.mod_lt _ hs
    have e := Nat.div_add_mod j s
    have hg := flatS_get d (s := s) (c := c) l2 (j / s) (j % s) hi hm
    rw [e] at hg
    have h5 := hcell _ hi _ hm
    rw [Addr.add_mid, show off + j = off + s * (j / s) + j % s by omega, h5, ← hj]; exact hg.symm
end
theorem SlAt.app {s n : Nat} {c : Nat → Nat → Value} {w w' : World} {u v v' : Value} (h : SlAt s w u n c) (st : AppStep w v w' v') (hne : ∀ b, v.ownBlock = some b → ∀ k off, u = .slice (some ⟨b, off, none⟩) n k → n = 0) : SlAt s w' u n c := by
  rcases h with h | ⟨b, off, cap, h1, h2, h3, h4, h5, h6⟩
  · exact .inl h
  · have hb : v.ownBlock ≠ some b := fun e => by have := hne b e cap off h1; omega
    exact .inr ⟨b, off, cap, h1, h2, h3, h4, Nat.lt_of_lt_of_le h5 st.1.size, fun i hi j hj => (World.cell?_of_block (w := w) (w' := w') (a := ⟨b, off + s * i + j, none⟩) (st.block h5 hb)).trans (h6 i hi j hj)⟩
end Go.Proofs.YtpekhdahamloaaaGreatDoor

namespace Go.Proofs.YtpekhdahamloaaaGreatDoor
open Go.RowKit Cod
abbrev keep (n : Nat) : Tc.Rl := Tc.Rl.stay (fun k => k < n)
theorem keep_below {n : Nat} {w W : World} (b : Below n w W) : (keep n).r w W := fun k hk => b.block k hk
theorem row_keep {n : Nat} {w W : World} {g N : Nat} {T : TypeId} {f : Nat → Value} (h : RowV w g T N f) (hn : g < n) (hr : (keep n).r w W) : RowV W g T N f := stay_row (S := fun k => k < n) h hn hr
theorem cell_keep {n : Nat} {w W : World} {b off : Nat} {v : Value} (h : w.cell? ⟨b, off, none⟩ = some v) (hn : b < n) (hr : (keep n).r w W) : W.cell? ⟨b, off, none⟩ = some v := (stay_cell (S := fun k => k < n) hn hr).trans h
theorem below_app {n : Nat} {w w' : World} {v v' : Value} (st : AppStep w v w' v') (hn : n ≤ w.heap.size) (hb : ∀ k, v.ownBlock = some k → n ≤ k) : Below n w w' := (Below.refl n w).grown st.1 hn hb
theorem OwnT.ge {α : Type} {T : TypeId} {s : Nat} {c : α → Nat → Value} {w : World} {base : Nat} {v : Value} {l : List α} (h : OwnT T s c w base v l) : ∀ k, v.ownBlock = some k → base ≤ k := fun k hk => (h.lt k hk).1
/-- an own slice, and another one's append: their blocks lie on two sides of a number -/
theorem OwnT.appL {α : Type} {T : TypeId} {s : Nat} {c : α → Nat → Value} {w w' : World} {base n : Nat} {v u u' : Value} {l : List α} (h : OwnT T s c w base v l) (hlt : ∀ k, v.ownBlock = some k → k < n) (hge : ∀ k, u.ownBlock = some k → n ≤ k) (st : AppStep w u w' u') : OwnT T s c w' base v l :=
  h.app st (by
    cases hb : v.ownBlock with
    | none => exact .inl rfl
    | some k => exact .inr (fun e => by have := hlt k hb; have := hge k e.symm; omega))
theorem OwnT.appR {α : Type} {T : TypeId} {s : Nat} {c : α → Nat → Value} {w w' : World} {base n : Nat} {v u u' : Value} {l : List α} (h : OwnT T s c w base v l) (hlt : ∀ k, u.ownBlock = some k → k < n) (hge : ∀ k, v.ownBlock = some k → n ≤ k) (st : AppStep w u w' u') : OwnT T s c w' base v l :=
  h.app st (by
    cases hb : v.ownBlock with
    | none => exact .inl rfl
    | some k => exact .inr (fun e => by have := hge k hb; have := hlt k e.symm; omega))
theorem fold_mem (g : Nat → Value) : Array.foldl (fun (cs : Array Value) (x : Value × Nat) => cs.setIfInBounds x.snd x.fst) #[.int .i64 0, .int .i64 0, .int .i64 0] (rowF 3 g).zipIdx 0 3 = rowF 3 g := by kernel_rfl
/-- a list read backwards -/
theorem rev_take {α : Type} (d : α) (l : List α) {k q : Nat} (hq : l.length = q) (hk : k < q) : l.reverse.take (k + 1) = l.reverse.take k ++ [l.getD (q - 1 - k) d] := by
  subst hq
  rw [take_succ_getD d l.reverse (by simpa using hk)]
  congr 2
  rw [List.getD_eq_getElem?_getD, List.getD_eq_getElem?_getD, List.getElem?_reverse (by omega)]
theorem rev_all {α : Type} (l : List α) {q : Nat} (hq : l.length = q) : l.reverse.take q = l.reverse := List.take_of_length_le (by simp; omega)
end Go.Proofs.YtpekhdahamloaaaGreatDoor

namespace Go.Proofs.YtpekhdahamloaaaGreatDoor
open Go.RowKit Cod
theorem Owns.emp0 {w : World} {base B : Nat} (hb : base ≤ B) (h : w.heap[B]? = some (.cells #[] 5)) : Owns w base (.slice (some ⟨B, 0, none⟩) 0 0) [] :=
  ⟨by simp, .inr ⟨B, 0, #[], rfl, hb, h, Nat.le_refl _, by decide, by simp, by simp⟩⟩
set_option maxRecDepth 100000 in
set_option maxHeartbeats 8000000 in
theorem rints_any (zs : List Int) (v : Value) (w : World) (hv : IntsS w v zs) (hz : ∀ z ∈ zs, i64B z) (hl : zs.length ≤ 100) :
    Calls Tryz.prog 82 #[v] w fun e w' => (∃ u, e = .returned u ∧ CodAt w' u (lstT (zs.map numT))) ∧ Below w.heap.size w w' := by
  obtain ⟨va, vc, rfl⟩ := hv.slice
  have HV := Lib.hid hv
  have HZ := Lib.hid hz
  have HL := Lib.hid hl
  obtain ⟨n, hn⟩ : ∃ n, zs.length = n := ⟨_, rfl⟩
  have HN := Lib.hid hn
  rw [hn]
  clear hv hz hl hn
  go_enter Tryz.func82, Tryz.ntmps82
  have B0 := Lib.hid (Below.refl w.heap.size w)
  go_upto_region 1 with fail
  obtain ⟨w1, hw1⟩ : ∃ y, w.alloc (.cells #[.int .i64 0, .int .i64 0, .string ⟨#[]⟩, .slice none 0 0] 59) = y := ⟨_, rfl⟩
  have b1 : Below w.heap.size w w1 := by rw [← hw1]; exact (Below.refl _ _).alloc (Nat.le_refl _) _
  have Z1 : Hid (RowV w1 w.heap.size 59 4 (valC 0 0 ⟨#[]⟩ (.slice none 0 0))) := Lib.hid (by rw [← hw1]; exact RowV.new w _ 4 (valC 0 0 ⟨#[]⟩ (.slice none 0 0)))
  have z1 : w.heap.size + 1 = w1.heap.size := by rw [← hw1]; exact (Array.size_push _).symm
  rw [hw1]
  (try rw [z1])
  have B1 := Lib.hid (B0.out.trans (b1.mono B0.out.size))
  clear b1 hw1 z1 B0
  have ZL := Lib.hid Z1.out.lt
  go_upto_region 2 with fail
  obtain ⟨w2, hw2⟩ : ∃ y, w1.alloc (.cells #[.int .i64 3, .int .i64 0, .string ⟨#[]⟩, .slice none 0 0] 59) = y := ⟨_, rfl⟩
  have b2 : Below w1.heap.size w1 w2 := by rw [← hw2]; exact (Below.refl _ _).alloc (Nat.le_refl _) _
  have I2 : Hid (LstI w2 w1.heap.size (.slice none 0 0) [] w2) := Lib.hid (by rw [← hw2]; exact LstI.start w1)
  have z2 : w1.heap.size + 1 = w2.heap.size := by rw [← hw2]; exact (Array.size_push _).symm
  rw [hw2]
  (try rw [z2])
  have B2 := Lib.hid (B1.out.trans (b2.mono B1.out.size))
  have Z2 := Lib.hid (Z1.out.below b2)
  clear b2 hw2 z2 B1 Z1
  go_wp2_with fail
  have qn : (n : Int) ≤ 100 := by have := HL.out; have := HN.out; omega
  go_loopg [4] n (fun g s4 wx => ∃ (k : Nat) (sl : Value), k + g = n ∧ s4 = .int .i64 (k : Int) ∧ Hid (LstI w2 w1.heap.size sl ((zs.take k).map numT) wx))
  case atStart => exact ⟨0, .slice none 0 0, by omega, rfl, I2⟩
  case round =>
    obtain ⟨k, sl, hk, rfl, hI⟩ := hrel
    obtain ⟨w3, rfl⟩ : ∃ y, y = wr := ⟨_, rfl⟩
    have q0 : (0 : Int) ≤ (k : Int) := Int.natCast_nonneg k
    have B3 := Lib.hid (B2.out.trans (hI.out.only.below (K := w.heap.size) (by have := ZL.out; omega) (by have := ZL.out; have := I2.out.lt; omega)))
    by_cases hlt : k < n
    · have d0 : decide ((k : Int) < (n : Int)) = true := by rw [decide_eq_true_iff]; omega
      have d1 : decide (k < n) = true := by rw [decide_eq_true_iff]; omega
      have hv3 : SlAt 1 w (.slice va n vc) n (fun i _ => .int .i64 (zs.getD i 0)) := by
        have h := HV.out
        unfold IntsS at h
        rwa [HN.out] at h
      obtain ⟨b, off, rfl, hcap, hb, hc⟩ := SlAt.at_elem hv3 hlt
      have X0 : Hid (w3.cell? ⟨b, off + k, none⟩ = some (.int .i64 (zs.getD k 0))) := Lib.hid ((B3.out.cell (p := ⟨b, off + k, none⟩) hb).trans (by have := hc k hlt 0 (by decide); simpa using this))
      have HBW := Lib.hid (Nat.lt_of_lt_of_le hb B2.out.size)
      have HE : Hid ((zs.take (k + 1)).map numT = (zs.take k).map numT ++ [numT (zs.getD k 0)]) := Lib.hid (by
        rw [take_succ_getD 0 _ (show k < zs.length by rw [HN.out]; exact hlt), List.map_append]; rfl)
      have HB : Hid (i64B (zs.getD k 0)) := Lib.hid (by
        rw [List.getD_eq_getElem?_getD, List.getElem?_eq_getElem (show k < zs.length by rw [HN.out]; exact hlt)]
        exact HZ.out _ (List.getElem_mem _))
      obtain ⟨x, hx⟩ : ∃ x, zs.getD k 0 = x := ⟨_, rfl⟩
      rw [hx] at X0 HE HB
      obtain ⟨ts, hts⟩ : ∃ y, (zs.take k).map numT = y := ⟨_, rfl⟩
      have TL : Hid (ts.length ≤ 1000000) := Lib.hid (by rw [← hts]; simp only [List.length_map, List.length_take]; have := HL.out; omega)
      rw [hts] at HE hI
      obtain ⟨sa, sn, sc, rfl⟩ := hI.out.slice
      have HBL := Lib.hid (Nat.lt_of_lt_of_le hb B3.out.size)
      have HLT := Lib.hid hlt
      clear hx hts hv3 hc hb
      go_upto_region 5 with fail
      refine Tc.wp_region_plan (Tc.Rl.stay (fun j => j = w1.heap.size ∨ j = b)) 9 [] (.fl 0 (.fl 1 (.fl 2 (.fl 3 (.fl 4 (.fl 5 (.one 6 (.one 7 (.one 8 .done))))))))) (by kernel_rfl) (by kernel_rfl) ?_
      intro w4 b4 e4
      have I4 := Lib.hid (hI.out.later b4)
      have X4 := Lib.hid ((b4.cell (p := ⟨b, off + k, none⟩) HBL.out).trans X0.out)
      have BL4 := Lib.hid (Nat.lt_of_lt_of_le HBL.out b4.size)
      clear b4 e4 X0 hI
      refine Tc.plan_floats [0, 1, 2, 3, 4, 5] [_, _, _, _, _, _] rfl ?_
      dsimp only [List.getElem_toArray, List.getElem_cons_succ, List.getElem_cons_zero]
      repeat (go_big_quiet_want; go_big_quiet_op; first | go_big_quiet_on | (refine ⟨_, fun _ _ => rfl, ?_⟩; go_big_quiet_on))
      refine wpQuiet_load_cell rfl 57 (.tmp 12) rfl w1.heap.size 3 rfl _ Tryz.underlying57 rfl (.slice sa sn sc) (fun W hW => (stay_row (S := fun j => j = w1.heap.size ∨ j = b) I4.out.row (.inl rfl) hW).cell (i := 3) (by decide)) ?_
      simp only [Act.put, List.setIfInBounds_toArray, List.set_cons_succ, List.set_cons_zero]
      repeat (go_big_quiet_want; go_big_quiet_op; first | go_big_quiet_on | (refine ⟨_, fun _ _ => rfl, ?_⟩; go_big_quiet_on))
      refine wpQuiet_load_cell rfl 3 (.tmp 16) rfl b (off + k) rfl _ Tryz.underlying3 rfl (.int .i64 x) (fun W hW => (stay_cell (S := fun j => j = w1.heap.size ∨ j = b) (.inr rfl) hW).trans X4.out) ?_
      simp only [Act.put, List.setIfInBounds_toArray, List.set_cons_succ, List.set_cons_zero]
      refine wpQuiet_nil ?_
      clear X4
      refine Tc.plan_one 6 rfl (fun K hK => ?_)
      go_wp2_with fail
      refine (rint_any x _).mono ?_
      rintro e w5 ⟨rfl, b5⟩
      have I5 := Lib.hid (I4.out.later b5)
      have BL5 := Lib.hid (Nat.lt_of_lt_of_le BL4.out b5.size)
      go_wp2_with fail
      refine hK _ _ (stay_below b5 (fun j hj => by rcases hj with rfl | rfl; exact I4.out.row.lt; exact BL4.out)) ?_
      clear hK K b5 I4 BL4
      refine Tc.plan_one 7 rfl (fun K hK => ?_)
      go_wp2_with fail
      have al := (Below.refl _ w5).alloc (Nat.le_refl _) (.cells #[.int .i64 1, .int .i64 x, .string ByteArray.empty, .slice none 0 0] 59)
      have I6 := Lib.hid (I5.out.later al)
      have BL6 := Lib.hid (Nat.lt_of_lt_of_le BL5.out al.size)
      have G6 := Lib.hid (RowV.new w5 59 4 (valC 1 x ⟨#[]⟩ (.slice none 0 0)))
      refine hK _ _ (stay_below al (fun j hj => by rcases hj with rfl | rfl; exact I5.out.row.lt; exact BL5.out)) ?_
      obtain ⟨w6, hw6⟩ : ∃ y, w5.alloc (.cells #[.int .i64 1, .int .i64 x, .string ByteArray.empty, .slice none 0 0] 59) = y := ⟨_, rfl⟩
      rw [hw6] at I6 BL6 ⊢
      rw [show w5.alloc (.cells (rowF 4 (valC 1 x ⟨#[]⟩ (.slice none 0 0))) 59) = w6 from hw6] at G6
      clear hK K al hw6 I5 BL5
      refine Tc.plan_one 8 rfl (fun K hK => ?_)
      refine wpList_app_val rfl (.tmp 13) (.tmp 19) rfl w2.heap.size (.slice sa sn sc) _ rfl I6.out.own w5.heap.size 1 (valC 1 x ⟨#[]⟩ (.slice none 0 0)) (numT x) rfl G6.out (leafS _ _ HB.out) TL.out I6.out.size ?_
      intro v9 w9 L9 s9
      obtain ⟨a9, n9, c9, rfl⟩ := L9.out.slice3
      go_wp2_with fail
      have BL := Lib.hid (show w1.heap.size < w2.heap.size from I6.out.lt)
      refine hK _ _ (stay_app s9.out (fun j hj => ⟨by rcases hj with rfl | rfl; exact I6.out.row.lt; exact BL6.out, fun e => by have h1 := (I6.out.own.lt _ e).1; have h2 := BL.out; have h3 := HBW.out; rcases hj with rfl | rfl <;> omega⟩)) ?_
      obtain ⟨x9, f9⟩ := I6.out.mid s9.out
      have I9 := Lib.hid (I6.out.push L9.out s9.out)
      rw [← HE.out] at I9
      clear hK K L9 s9 I6 BL6 G6
      refine Tc.plan_done (l := [_, _]) rfl (fun K hK => ?_)
      go_wp2_with fail
      clear x9 f9
      go_roundg (gk - 1)
      case measure => have := HLT.out; omega
      case rel =>
        go_light
        exact ⟨k + 1, .slice a9 n9 c9, by have := HLT.out; omega, by go_num, I9⟩
    · obtain rfl : k = n := by omega
      have d0 : decide ((k : Int) < (k : Int)) = false := by rw [decide_eq_false_iff_not]; omega
      have I3 : Hid (LstI w2 w1.heap.size sl (zs.map numT) w3) := Lib.hid (by have h := hI.out; rwa [List.take_of_length_le (by rw [HN.out]; omega)] at h)
      obtain ⟨sa, sn, sc, rfl⟩ := I3.out.slice
      have Z3 := Lib.hid (I3.out.row' Z2.out (fun e => by have := ZL.out; omega))
      have IL := Lib.hid I2.out.lt
      clear hI
      go_wp2_with (first | ((with_reducible (show wpList _ _ _ (Oper.mk (some 22) _ _ _ _ _ :: _) _ _)); refine Hid.out ?_))
      refine Lib.hid ?_
      refine wpList_load_rowV rfl 59 (.tmp 3) rfl w1.heap.size rfl 4 59 _ I3.out.row _ Tryz.underlying59 rfl (by kernel_rfl) ?_
      go_wp2_with (first | ((with_reducible (show wpList _ _ _ (Oper.mk none _ _ _ _ _ :: _) _ _)); refine Hid.out ?_))
      refine Lib.hid ?_
      refine wpList_store_rowV (o := ⟨none, .store 59 (.tmp 2) (.tmp 22), _, _, _, _⟩) rfl 59 (.tmp 2) (.tmp 22) rfl w.heap.size rfl 4 59 _ (valC 3 0 ⟨#[]⟩ (.slice sa sn sc)) rfl Z3.out (by kernel_rfl) (fun j hj => by match j, hj with | 0, _ => rfl | 1, _ => rfl | 2, _ => rfl | 3, _ => rfl) ?_
      intro w4 Z4 O4
      have V4 := Lib.hid ((I3.out.own.only (rb := w.heap.size) O4.out.os O4.out.tape O4.out.output O4.out.size O4.out.block (by have := ZL.out; have := IL.out; omega)).value (by rw [List.length_map, HN.out]; have := HL.out; rw [HN.out] at this; omega))
      have B4 := Lib.hid (B3.out.trans (O4.out.below (Nat.le_refl _) B3.out.size))
      go_wp2_with fail
      refine bodyPost_ret (v := .agg (rowF 4 (valC 3 0 ⟨#[]⟩ (.slice sa sn sc)))) (by exact results_rowV (fn := Tryz.f82) (p := 2) (ty := 59) rfl _ _ w.heap.size 4 59 _ _ rfl Z4.out Tryz.underlying59 rfl (by kernel_rfl)) rfl ⟨⟨_, rfl, V4.out⟩, B4.out⟩
set_option maxRecDepth 100000 in
set_option maxHeartbeats 4000000 in
theorem qmessage_any (c : Ct) (hc : c.wf) (w : World) :
    Calls Tryz.prog 91 #[.agg (rowF 8 (ctC c))] w fun e w' => (∃ v, e = .returned v ∧ BytesAt w' v (msgC c)) ∧ Below w.heap.size w w' := by
  have NB := Lib.hid (numsC_bd hc)
  have EL := Lib.hid (encN_len (numsC c) (numsC_bd hc) (show (6 : Nat) ≤ 100 by decide))
  have G := Lib.hid (fun v W (h : BytesAt W v (encN (numsC c))) => reftagged_any ⟨#[99, 101, 114, 116]⟩ v _ W (by decide) (Nat.le_trans EL.out (by decide)) h)
  clear hc
  go_enter Tryz.func91, Tryz.ntmps91
  have B0 := Lib.hid (Below.refl w.heap.size w)
  go_upto_region 1 with fail
  obtain ⟨w1, hw1⟩ : ∃ y, w.alloc (.cells (rowF 8 (ctC c)) 44) = y := ⟨_, rfl⟩
  have b1 : Below w.heap.size w w1 := by rw [← hw1]; exact (Below.refl _ _).alloc (Nat.le_refl _) _
  have A1 : Hid (RowV w1 w.heap.size 44 8 (ctC c)) := Lib.hid (by rw [← hw1]; exact RowV.new w _ 8 (ctC c))
  have z1 : w.heap.size + 1 = w1.heap.size := by rw [← hw1]; exact (Array.size_push _).symm
  rw [hw1]
  (try rw [z1])
  have B1 := Lib.hid (B0.out.trans (b1.mono B0.out.size))
  clear b1 hw1 z1 B0
  have x0 : _ = some (Value.int .i64 c.k) := ct_cell A1.out (i := 0) (by decide)
  have x1 : _ = some (Value.int .i64 c.d) := ct_cell A1.out (i := 1) (by decide)
  have x2 : _ = some (Value.int .i64 c.v) := ct_cell A1.out (i := 2) (by decide)
  have x3 : _ = some (Value.int .i64 c.l) := ct_cell A1.out (i := 3) (by decide)
  have x4 : _ = some (Value.int .i64 c.n) := ct_cell A1.out (i := 4) (by decide)
  have x5 : _ = some (Value.int .i64 c.b) := ct_cell A1.out (i := 5) (by decide)
  go_wp2_with fail
  clear x0 x1 x2 x3 x4 x5
  obtain ⟨w2, hw2⟩ : ∃ y, w1.alloc (.cells #[.int .i64 c.k, .int .i64 c.d, .int .i64 c.v, .int .i64 c.l, .int .i64 c.n, .int .i64 c.b] 3) = y := ⟨_, rfl⟩
  have b2 : Below w1.heap.size w1 w2 := by rw [← hw2]; exact (Below.refl _ _).alloc (Nat.le_refl _) _
  have I2 : Hid (IntsS w2 (.slice (some ⟨w1.heap.size, 0, none⟩) 6 6) (numsC c)) := Lib.hid (by rw [← hw2]; exact ints_new w1 3 (numsC c) 6 rfl (by decide) (by decide))
  have z2 : w1.heap.size + 1 = w2.heap.size := by rw [← hw2]; exact (Array.size_push _).symm
  rw [hw2]
  (try rw [z2])
  have B2 := Lib.hid (B1.out.trans (b2.mono B1.out.size))
  have A2 := Lib.hid (A1.out.below b2)
  clear b2 hw2 z2 B1 A1
  refine (rints_any (numsC c) _ _ I2.out NB.out (show (6 : Nat) ≤ 100 by decide)).mono ?_
  rintro e w3 ⟨⟨u, rfl, hC⟩, b3⟩
  have C3 := Lib.hid hC
  have B3 := Lib.hid (B2.out.trans (b3.mono B2.out.size))
  clear hC b3 B2 I2 A2
  go_wp2_with fail
  refine (renc_nums NB.out (show (6 : Nat) ≤ 100 by decide) C3.out).mono ?_
  rintro e w4 ⟨⟨v, rfl, o4⟩, b4⟩
  have Y4 := Lib.hid (o4.bytesAt (by have := EL.out; omega))
  have B4 := Lib.hid (B3.out.trans (b4.mono B3.out.size))
  obtain ⟨va, vc, rfl⟩ := o4.slice
  clear o4 b4 B3 C3
  go_wp2_with fail
  refine (G.out _ _ Y4.out).mono ?_
  rintro e w5 ⟨rfl, b5⟩
  have B5 := Lib.hid (B4.out.trans (b5.mono B4.out.size))
  clear b5 B4 Y4 G
  have Zr := Lib.hid (RowV.new w5 35 32 (fun _ => vB 0))
  go_upto_region 3 with ((with_reducible (show wpList _ _ _ (Oper.mk none _ _ _ _ _ :: _) _ _)); refine wpList_store_rowV (o := ⟨none, .store 35 (.tmp 5) (.tmp 25), _, _, _, _⟩) rfl 35 (.tmp 5) (.tmp 25) rfl w5.heap.size rfl 32 35 _ (fun j => vB ((msgC c).getD j 0)) rfl Zr.out (by kernel_rfl) (fun _ _ => rfl) ?_; intro w6 D6 o6)
  have b6 : Below w5.heap.size w5 w6 := ((Below.refl _ _).alloc (Nat.le_refl _) _).trans (o6.out.below (Nat.le_refl _) (by rw [World.size_alloc]; omega))
  have B6 := Lib.hid (B5.out.trans (b6.mono B5.out.size))
  clear b6 o6 Zr B5
  have Y := Lib.hid (D6.out.bytesAt (msgC_len c) (by decide) (by decide))
  go_wp2_with (first | ((with_reducible (show wpList _ _ _ (Oper.mk (some 28) _ _ _ _ _ :: _) _ _)); refine Hid.out ?_))
  refine Lib.hid ?_
  have al := (Below.refl _ w6).alloc (Nat.le_refl _) (.cells #[] 5)
  have R := Owns.emp0 (w := w6.alloc (.cells #[] 5)) (base := w6.heap.size) (Nat.le_refl _) (MapKept.heap_alloc w6 _).1
  obtain ⟨w7, hw⟩ : ∃ y, w6.alloc (.cells #[] 5) = y := ⟨_, rfl⟩
  rw [hw] at al R ⊢
  have B7 := Lib.hid (B6.out.trans (al.mono B6.out.size))
  have Y7 := Lib.hid (Y.out.below al)
  have S6 := Lib.hid B6.out.size
  have S7 := Lib.hid al.size
  have R7 := Lib.hid R
  clear al R hw Y D6 B6
  refine wpList_app_bytes rfl (.tmp 26) (.tmp 27) rfl w6.heap.size _ _ [] (msgC c) rfl rfl R7.out Y7.out (by rw [msgC_len]; decide) S7.out ?_
  intro v8 w8 O8 s8
  have b8 := below_app s8.out (Nat.le_trans S6.out S7.out) (fun k hk => by have := (World.ownsRow.lt R7.out k hk).1; have := S6.out; omega)
  have B8 := Lib.hid (B7.out.trans b8)
  have Y8 := Lib.hid (O8.out.bytesAt (by simp only [List.nil_append, msgC_len]; decide))
  obtain ⟨va8, vc8, rfl⟩ := O8.out.slice
  clear b8 s8 O8 R7 Y7 B7
  rw [List.nil_append] at Y8 ⊢
  go_wp2_with fail
  go_ret
  exact ⟨⟨_, rfl, Y8.out⟩, B8.out⟩
set_option maxRecDepth 100000 in
set_option maxHeartbeats 8000000 in
theorem qcertify_any (k d v l n b x : Int) (hc : (ctN k d v l n b).wf) (w : World) :
    Calls Tryz.prog 47 #[.int .i64 k, .int .i64 d, .int .i64 v, .int .i64 l, .int .i64 n, .int .i64 b, .int .i64 x] w fun e w' => e = .returned (.tuple #[.agg (rowF 8 (ctC (crtV (ctN k d v l n b) x))), .int .i64 (crtE (ctN k d v l n b) x)]) ∧ Below w.heap.size w w' := by
  obtain ⟨ak, hak⟩ : ∃ y : Ct, ctN k d v l n b = y := ⟨_, rfl⟩
  have HAK := Lib.hid hak
  rw [hak] at hc ⊢
  have F := Lib.hid (fun W => qformed_any ak W)
  have M := Lib.hid (fun W => qmessage_any ak hc W)
  have SG := Lib.hid (fun v W (h : BytesAt W v (msgC ak)) => rsign_any x v _ W (by rw [msgC_len]; decide) h)
  have P2 := Lib.hid (pubE_two x)
  have VE : Hid (crtE ak x = if formC ak then pubE x else 370) := Lib.hid rfl
  have VV : Hid (crtV ak x = if crtE ak x = 0 then ⟨ak.k, ak.d, ak.v, ak.l, ak.n, ak.b, sgR x (msgC ak), sgS x (msgC ak)⟩ else ct0) := Lib.hid rfl
  obtain ⟨rv, hrv⟩ : ∃ y, crtV ak x = y := ⟨_, rfl⟩
  obtain ⟨re, hre⟩ : ∃ y, crtE ak x = y := ⟨_, rfl⟩
  rw [hrv, hre] at VV
  rw [hre] at VE
  rw [hrv, hre]
  obtain ⟨ok, hok⟩ : ∃ y, formC ak = y := ⟨_, rfl⟩
  obtain ⟨pe, hpe⟩ : ∃ y, pubE x = y := ⟨_, rfl⟩
  rw [hok] at F VE
  rw [hpe] at SG P2 VE
  clear hc hak hrv hre hok hpe
  go_enter Tryz.func47, Tryz.ntmps47
  have B0 := Lib.hid (Below.refl w.heap.size w)
  go_upto_region 1 with fail
  obtain ⟨w1, hw1⟩ : ∃ y, w.alloc (.cells #[.int .i64 0, .int .i64 0, .int .i64 0, .int .i64 0, .int .i64 0, .int .i64 0, .int .i64 0, .int .i64 0] 44) = y := ⟨_, rfl⟩
  have b1 : Below w.heap.size w w1 := by rw [← hw1]; exact (Below.refl _ _).alloc (Nat.le_refl _) _
  have Z1 : Hid (RowV w1 w.heap.size 44 8 (ctC ct0)) := Lib.hid (by rw [← hw1]; exact RowV.new w _ 8 (ctC ct0))
  have z1 : w.heap.size + 1 = w1.heap.size := by rw [← hw1]; exact (Array.size_push _).symm
  rw [hw1]
  (try rw [z1])
  have B1 := Lib.hid (B0.out.trans (b1.mono B0.out.size))
  clear b1 hw1 z1 B0
  have L1 := Lib.hid Z1.out.lt
  go_wp2_with (first | ((with_reducible (show wpList _ _ _ (Oper.mk (some 25) _ _ _ _ _ :: _) _ _)); refine Hid.out ?_))
  refine Lib.hid ?_
  refine wpList_build rfl 44 _ rfl (crtParts k d v l n b) (by simp only [List.map_toArray, List.map_cons, List.map_nil]; rfl) _ (build_crt k d v l n b _) ?_
  rw [HAK.out]
  have Zr := Lib.hid (RowV.new w1 44 8 (ctC ct0))
  go_upto_region 2 with ((with_reducible (show wpList _ _ _ (Oper.mk none _ _ _ _ _ :: _) _ _)); refine wpList_store_rowV (o := ⟨none, .store 44 (.tmp 16) (.tmp 25), _, _, _, _⟩) rfl 44 (.tmp 16) (.tmp 25) rfl w1.heap.size rfl 8 44 _ (ctC ak) rfl Zr.out (by kernel_rfl) (fun j _ => ctC_one ak j) ?_; intro w2 X2 o2)
  have b2 : Below w1.heap.size w1 w2 := ((Below.refl _ _).alloc (Nat.le_refl _) _).trans (o2.out.below (Nat.le_refl _) (by rw [World.size_alloc]; omega))
  have B2 := Lib.hid (B1.out.trans (b2.mono B1.out.size))
  have Z2 := Lib.hid (Z1.out.below b2)
  clear b2 o2 Zr B1 Z1
  go_wp2_with (first | ((with_reducible (show wpList _ _ _ (Oper.mk (some 26) _ _ _ _ _ :: _) _ _)); refine Hid.out ?_))
  refine Lib.hid ?_
  refine wpList_load_rowV rfl 44 (.tmp 16) rfl w1.heap.size rfl 8 _ _ (X2.out) _ Tryz.underlying44 rfl (by kernel_rfl) ?_
  go_wp2_with fail
  refine (F.out _).mono ?_
  rintro e w3 ⟨rfl, b3⟩
  have B3 := Lib.hid (B2.out.trans (b3.mono B2.out.size))
  have Z3 := Lib.hid (Z2.out.below b3)
  have X3 := Lib.hid (X2.out.below b3)
  clear b3 B2 Z2 X2
  clear F
  cases ok
  · obtain rfl : re = 370 := VE.out
    obtain rfl : rv = ct0 := by rw [VV.out, if_neg (by decide)]
    go_wp2_with (first | ((with_reducible (show wpList _ _ _ (Oper.mk none _ _ _ _ _ :: _) _ _)); refine Hid.out ?_))
    refine Lib.hid ?_
    refine wpList_store_rowV rfl 44 (.tmp 14) (.tmp 29) rfl w.heap.size rfl 8 _ _ _ rfl (Z3.out) (by kernel_rfl) (fun j _ => ctC_one ct0 j) ?_
    intro w9 Z9 O9
    go_wp2_with fail
    refine bodyPost_ret (v := .tuple #[.agg (rowF 8 (ctC ct0)), .int .i64 370]) (by exact results_rowV2 (fn := Tryz.f47) (p := 14) (u := 15) (ty := 44) rfl _ _ w.heap.size 8 44 _ _ rfl Z9.out Tryz.underlying44 rfl (by kernel_rfl)) rfl ⟨rfl, ?_⟩
    exact B3.out.trans (O9.out.below (Nat.le_refl _) B3.out.size)
  · have VE2 : Hid (re = pe) := VE
    clear VE
    have L3 := Lib.hid X3.out.lt
    go_wp2_with (first | ((with_reducible (show wpList _ _ _ (Oper.mk (some 32) _ _ _ _ _ :: _) _ _)); refine Hid.out ?_))
    refine Lib.hid ?_
    refine wpList_load_rowV rfl 44 (.tmp 16) rfl w1.heap.size rfl 8 _ _ (X3.out) _ Tryz.underlying44 rfl (by kernel_rfl) ?_
    go_wp2_with fail
    refine (M.out _).mono ?_
    rintro e w5 ⟨⟨v, rfl, y5⟩, b5⟩
    obtain ⟨va, vc, rfl⟩ := y5.slice
    have Y5 := Lib.hid y5
    have X5 := Lib.hid (X3.out.below b5)
    have Z5 := Lib.hid (Z3.out.below b5)
    have B5 := Lib.hid (B3.out.trans (b5.mono B3.out.size))
    clear y5 b5 X3 Z3 B3 M
    go_wp2_with fail
    refine (SG.out _ _ Y5.out).mono ?_
    rintro e w6 ⟨rfl, b6⟩
    have X6 := Lib.hid (X5.out.below b6)
    have Z6 := Lib.hid (Z5.out.below b6)
    have B6 := Lib.hid (B5.out.trans (b6.mono B5.out.size))
    clear b6 X5 Z5 B5 SG Y5
    obtain ⟨sr, hsr⟩ : ∃ y, sgR x (msgC ak) = y := ⟨_, rfl⟩
    obtain ⟨ss, hss⟩ : ∃ y, sgS x (msgC ak) = y := ⟨_, rfl⟩
    rw [hsr, hss] at VV ⊢
    clear hsr hss
    have L6 := Lib.hid X6.out.lt
    have Zr := Lib.hid (RowV.new w6 42 2 (fun _ => .int .i64 0))
    go_upto_region 5 with ((with_reducible (show wpList _ _ _ (Oper.mk none _ _ _ _ _ :: _) _ _)); refine wpList_store_rowV (o := ⟨none, .store 42 (.tmp 17) (.tmp 35), _, _, _, _⟩) rfl 42 (.tmp 17) (.tmp 35) rfl w6.heap.size rfl 2 42 _ (fun j => if j = 0 then Value.int .i64 sr else .int .i64 ss) rfl Zr.out (by kernel_rfl) (fun j _ => by show (if j = 0 then _ else _ : Value).oneCell' = true; split <;> rfl) ?_; intro w7 G7 o7)
    have b7 : Below w6.heap.size w6 w7 := ((Below.refl _ _).alloc (Nat.le_refl _) _).trans (o7.out.below (Nat.le_refl _) (by rw [World.size_alloc]; omega))
    have B7 := Lib.hid (B6.out.trans (b7.mono B6.out.size))
    have X7 := Lib.hid (X6.out.below b7)
    have Z7 := Lib.hid (Z6.out.below b7)
    clear b7 o7 Zr B6 X6 Z6
    rcases P2.out with h0 | h0
    · subst h0
      obtain rfl : re = 0 := VE2.out
      obtain rfl := VV.out
      go_wp2_with (first | ((with_reducible (show wpList _ _ _ (Oper.mk (some 41) _ _ _ _ _ :: _) _ _)); refine Hid.out ?_))
      refine Lib.hid ?_
      refine wpList_load_rowV rfl 42 (.tmp 17) rfl w6.heap.size rfl 2 _ _ (G7.out) _ Tryz.underlying42 rfl (by kernel_rfl) ?_
      go_wp2_with (first | ((with_reducible (show wpList _ _ _ (Oper.mk none _ _ _ _ _ :: _) _ _)); refine Hid.out ?_))
      refine Lib.hid ?_
      refine wpList_store_part rfl 42 (.tmp 42) (.tmp 41) rfl w1.heap.size 6 rfl 8 2 _ _ (fun j => if j = 0 then Value.int .i64 sr else .int .i64 ss) (ctC ⟨ak.k, ak.d, ak.v, ak.l, ak.n, ak.b, sr, ss⟩) rfl X7.out (by decide) (by kernel_rfl) (fun j _ => by show (if j = 0 then _ else _ : Value).oneCell' = true; split <;> rfl) (Ct.sig_cells ak sr ss) ?_
      intro w8 X8 O8
      have Z8 := Lib.hid (O8.out.row (show w.heap.size ≠ w1.heap.size from fun e => by have := L1.out; omega) Z7.out)
      have B8 := Lib.hid (B7.out.trans (O8.out.below (by have := L1.out; omega) B7.out.size))
      clear X7 O8 Z7 B7
      go_wp2_with (first | ((with_reducible (show wpList _ _ _ (Oper.mk (some 43) _ _ _ _ _ :: _) _ _)); refine Hid.out ?_))
      refine Lib.hid ?_
      refine wpList_load_rowV rfl 44 (.tmp 16) rfl w1.heap.size rfl 8 _ _ (X8.out) _ Tryz.underlying44 rfl (by kernel_rfl) ?_
      go_wp2_with (first | ((with_reducible (show wpList _ _ _ (Oper.mk none _ _ _ _ _ :: _) _ _)); refine Hid.out ?_))
      refine Lib.hid ?_
      refine wpList_store_rowV rfl 44 (.tmp 14) (.tmp 43) rfl w.heap.size rfl 8 _ _ _ rfl (Z8.out) (by kernel_rfl) (fun j _ => ctC_one _ j) ?_
      intro w9 Z9 O9
      go_wp2_with fail
      refine bodyPost_ret (v := .tuple #[.agg (rowF 8 (ctC ⟨ak.k, ak.d, ak.v, ak.l, ak.n, ak.b, sr, ss⟩)), .int .i64 0]) (by exact results_rowV2 (fn := Tryz.f47) (p := 14) (u := 15) (ty := 44) rfl _ _ w.heap.size 8 44 _ _ rfl Z9.out Tryz.underlying44 rfl (by kernel_rfl)) rfl ⟨rfl, ?_⟩
      exact B8.out.trans (O9.out.below (Nat.le_refl _) B8.out.size)
    · subst h0
      obtain rfl : re = 50 := VE2.out
      obtain rfl : rv = ct0 := by rw [VV.out, if_neg (by decide)]
      go_wp2_with (first | ((with_reducible (show wpList _ _ _ (Oper.mk none _ _ _ _ _ :: _) _ _)); refine Hid.out ?_))
      refine Lib.hid ?_
      refine wpList_store_rowV rfl 44 (.tmp 14) (.tmp 39) rfl w.heap.size rfl 8 _ _ _ rfl (Z7.out) (by kernel_rfl) (fun j _ => ctC_one ct0 j) ?_
      intro w9 Z9 O9
      go_wp2_with fail
      refine bodyPost_ret (v := .tuple #[.agg (rowF 8 (ctC ct0)), .int .i64 50]) (by exact results_rowV2 (fn := Tryz.f47) (p := 14) (u := 15) (ty := 44) rfl _ _ w.heap.size 8 44 _ _ rfl Z9.out Tryz.underlying44 rfl (by kernel_rfl)) rfl ⟨rfl, ?_⟩
      exact B7.out.trans (O9.out.below (Nat.le_refl _) B7.out.size)
end Go.Proofs.YtpekhdahamloaaaGreatDoor
