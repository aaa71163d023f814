/- Maps with keys of the kind int: what they hold as a list of pairs; look-ups and stores. The iterator over a map with keys of the kind int. -/
import Derived.Test.YtpekhdahamloaaaGreatDoorPk25
import Derived.MapKept
import Derived.WideMake
import Derived.Maps.RangeRun
set_option linter.unusedVariables false
set_option linter.unusedSimpArgs false
namespace Go.Proofs.YtpekhdahamloaaaGreatDoor
open Go.RowKit
namespace IM
def get : List (Int × Value) → Int → Option Value
  | [], _ => none
  | (a, v) :: m, k => if k = a then some v else get m k
def put : List (Int × Value) → Int → Value → List (Int × Value)
  | [], k, v => [(k, v)]
  | (a, u) :: m, k, v => if k = a then (k, v) :: m else (a, u) :: put m k v
theorem get_put_same (k : Int) (v : Value) : ∀ m, get (put m k v) k = some v
  | [] => by simp [put, get]
  | (a, u) :: m => by
    unfold put
    by_cases h : k = a
    · rw [if_pos h]; simp [get]
    · rw [if_neg h, get, if_neg h]; exact get_put_same k v m
theorem get_put_other {k j : Int} (h : j ≠ k) (v : Value) : ∀ m, get (put m k v) j = get m j
  | [] => by simp [put, get, h]
  | (a, u) :: m => by
    unfold put
    by_cases h1 : k = a
    · subst h1; rw [if_pos rfl]; simp [get, h]
    · rw [if_neg h1]
      unfold get
      rw [get_put_other h v m]
def EsOf (es : List MapEntry) (m : List (Int × Value)) : Prop := es.map (fun e => (e.key, e.val)) = m.map (fun p => (Value.int .i64 p.1, p.2))
theorem EsOf.cons {e : MapEntry} {es : List MapEntry} {m : List (Int × Value)} (h : EsOf (e :: es) m) : ∃ a m', m = (a, e.val) :: m' ∧ e.key = .int .i64 a ∧ EsOf es m' := by
  cases m with
  | nil => cases h
  | cons p m =>
    unfold EsOf at h
    simp only [List.map_cons, List.cons.injEq, Prod.mk.injEq] at h
    obtain ⟨⟨h1, h2⟩, h3⟩ := h
    refine ⟨p.1, m, ?_, h1, h3⟩
    rw [h2]
theorem find_of (k : Int) (v : Value) : ∀ (es : List MapEntry) (m : List (Int × Value)) (i : Nat), EsOf es m →
    (get m k = none ∧ Instr.findNow (.int .i64) (.int .i64 k) es i = some none ∧ put m k v = m ++ [(k, v)] ∧ (∀ e ∈ es, e.key ≠ .int .i64 k)) ∨
    ∃ j x, get m k = some x ∧ Instr.findNow (.int .i64) (.int .i64 k) es i = some (some (i + j, x)) ∧ put m k v = m.set j (k, v) ∧ j < es.length ∧ (es[j]?).map (·.key) = some (.int .i64 k)
  | [], m, i, h => by
    have : m = [] := by cases m; rfl; cases h
    subst this
    exact .inl ⟨rfl, rfl, rfl, fun e he => by cases he⟩
  | e :: es, m, i, h => by
    obtain ⟨a, m', rfl, hk, h'⟩ := h.cons
    by_cases hka : k = a
    · subst hka
      refine .inr ⟨0, e.val, by simp [get], ?_, by simp [put], by simp, by simp [hk]⟩
      unfold Instr.findNow
      simp [Instr.sameNow, hk]
    · have hb : (k == a) = false := by rw [beq_eq_false_iff_ne]; exact hka
      have hf : Instr.findNow (.int .i64) (.int .i64 k) (e :: es) i = Instr.findNow (.int .i64) (.int .i64 k) es (i + 1) := by
        rw [Instr.findNow]
        simp [Instr.sameNow, hk, hb]
      rcases find_of k v es m' (i + 1) h' with ⟨h1, h2, h3, h4⟩ | ⟨j, x, h1, h2, h3, h4, h5⟩
      · refine .inl ⟨by rw [get, if_neg hka]; exact h1, hf.trans h2, by rw [put, if_neg hka, h3]; rfl, fun e' he => ?_⟩
        rcases List.mem_cons.1 he with rfl | he
        · rw [hk]; intro e; exact hka (by cases e; rfl)
        · exact h4 e' he
      · exact .inr ⟨j + 1, x, by rw [get, if_neg hka]; exact h1, by rw [hf, h2, show i + 1 + j = i + (j + 1) by omega], by rw [put, if_neg hka, h3]; rfl, by simpa using h4, by simpa using h5⟩
/-- block r is a map that holds these pairs -/
def At (w : World) (r : Nat) (m : List (Int × Value)) : Prop := ∃ es clock, w.heap[r]? = some (.map es clock) ∧ EsOf es.toList m ∧ MapKept.Stamped es clock
def setM (w : World) (r : Nat) (es : Array MapEntry) (clock : Nat) : World := { w with heap := w.heap.setIfInBounds r (.map es clock) }
theorem setM_at {w : World} {r : Nat} {o : Obj} (hb : w.heap[r]? = some o) (es : Array MapEntry) (clock : Nat) : (setM w r es clock).heap[r]? = some (.map es clock) := (MapKept.heap_set hb).1
theorem setM_only (w : World) (r : Nat) (es : Array MapEntry) (clock : Nat) : OnlyB r w (setM w r es clock) :=
  ⟨rfl, rfl, rfl, by simp [setM], fun k hk hn => by show (w.heap.setIfInBounds r _)[k]? = _; rw [Array.getElem?_setIfInBounds_ne (Ne.symm hn)]⟩
section
variable {w w' : World} {r : Nat} {m : List (Int × Value)}
theorem At.lt (h : At w r m) : r < w.heap.size := by obtain ⟨es, c, h1, _⟩ := h; exact (Array.getElem?_eq_some_iff.1 h1).1
theorem At.of_block (h : At w r m) (hb : w'.heap[r]? = w.heap[r]?) : At w' r m := by obtain ⟨es, c, h1, h2⟩ := h; exact ⟨es, c, hb.trans h1, h2⟩
theorem At.below (h : At w r m) (hb : Below w.heap.size w w') : At w' r m := h.of_block (hb.block _ h.lt)
theorem At.only {B : Nat} (h : At w r m) (hb : OnlyB B w w') (hne : r ≠ B) : At w' r m := h.of_block (hb.block _ h.lt hne)
theorem At.made (w : World) : At (w.alloc (.map #[] 0)) w.heap.size [] := ⟨#[], 0, (MapKept.heap_alloc w _).1, rfl, MapKept.stamped_empty 0⟩
theorem EsOf.len {es : List MapEntry} (h : EsOf es m) : es.length = m.length := by have := congrArg List.length h; simpa using this
theorem run_lookup {P : Program} (mty kt et : TypeId) (k : Int) (h : At w r m) (hm : P.underlying mty = some (.map kt et)) (hk : P.underlying kt = some (.int .i64)) {z : Value} (hz : ∀ W, (zeroValue et).run P W = .ok z W) (ok : Bool) :
    (Instr.lookup mty (.map (some r)) (.int .i64 k) ok).run P w = .ok (if ok then .tuple #[(get m k).getD z, .bool (get m k).isSome] else (get m k).getD z) w := by
  obtain ⟨es, clock, hb, he, _⟩ := h
  have hc : (Instr.checkKey es.isEmpty 10000 kt (.int .i64 k)).run P w = .ok () w := MapKept.run_checkKey (k := .int .i64 k) hk (by simp [MapKept.IsKey]) _ 9999
  rcases find_of k undef es.toList m 0 he with ⟨h1, h2, _⟩ | ⟨j, x, h1, h2, _⟩
  · rw [h1]
    cases ok <;> simp [Instr.lookup, run_underlying hm, MapKept.run_getObj_map hb, hc, MapKept.run_findKey hk h2, hz, Result.andThen]
  · rw [h1]
    cases ok <;> simp [Instr.lookup, run_underlying hm, MapKept.run_getObj_map hb, hc, MapKept.run_findKey hk h2, Result.andThen]
theorem run_update {P : Program} (mty kt et : TypeId) (k : Int) (v : Value) (h : At w r m) (hm : P.underlying mty = some (.map kt et)) (hk : P.underlying kt = some (.int .i64)) :
    ∃ w', (Instr.mapUpdate mty (.map (some r)) (.int .i64 k) v).run P w = .ok () w' ∧ At w' r (put m k v) ∧ OnlyB r w w' := by
  obtain ⟨es, clock, hb, he, hs⟩ := h
  have hc : (Instr.checkKey false 10000 kt (.int .i64 k)).run P w = .ok () w := MapKept.run_checkKey (k := .int .i64 k) hk (by simp [MapKept.IsKey]) _ 9999
  rcases find_of k v es.toList m 0 he with ⟨h1, h2, h3, h4⟩ | ⟨j, x, h1, h2, h3, h4, h5⟩
  · refine ⟨setM w r (es.push { key := .int .i64 k, val := v, born := clock }) (clock + 1), ?_, ⟨_, _, setM_at hb _ _, ?_, MapKept.stamped_push hs h4⟩, setM_only _ _ _ _⟩
    · simp [Instr.mapUpdate, run_underlying hm, MapKept.run_getObj_map hb, hc, MapKept.run_findKey hk h2, MapKept.run_setObj_map _ hb, Result.andThen, setM]
    · unfold EsOf at he ⊢
      rw [h3, Array.toList_push, List.map_append, List.map_append, he]; rfl
  · have hj : j < es.size := by simpa using h4
    have hkey : es[j].key = .int .i64 k := by
      rw [List.getElem?_eq_getElem h4] at h5
      simpa using h5
    refine ⟨setM w r (es.modify j fun e => { e with key := .int .i64 k, val := v }) clock, ?_, ⟨_, _, setM_at hb _ _, ?_, ?_⟩, setM_only _ _ _ _⟩
    · rw [Nat.zero_add] at h2
      have hsb : Instr.sameBits 10000 (.int .i64 k) (.int .i64 k) = true := by simp [Instr.sameBits]
      have hkey' : (es[j]?.map (·.key)).getD (.int .i64 k) = .int .i64 k := by rw [Array.getElem?_eq_getElem hj]; simp [hkey]
      simp [Instr.mapUpdate, run_underlying hm, MapKept.run_getObj_map hb, hc, MapKept.run_findKey hk h2, MapKept.run_setObj_map _ hb, Result.andThen, setM, hkey', Instr.keyThatStays, hsb]
    · unfold EsOf at he ⊢
      rw [h3]
      apply List.ext_getElem?
      intro i
      have hi := congrArg (fun l => l[i]?) he
      simp only [List.getElem?_map] at hi
      simp only [List.getElem?_map, Array.getElem?_toList, Array.getElem?_modify, List.getElem?_set]
      rw [Array.getElem?_toList] at hi
      by_cases hij : j = i
      · subst hij
        have hm2 : j < m.length := by have := EsOf.len he; rw [← this]; exact h4
        simp [Array.getElem?_eq_getElem hj, hm2]
      · simp [hij, hi]
    · exact MapKept.stamped_modify hs j _ (fun e _ => rfl) (fun e _ h => by
        rw [Array.getElem?_eq_getElem hj] at h
        rw [← Option.some.inj h, hkey])
end
section
variable {P : Program} {w : World} {r : Nat} {m : List (Int × Value)} {ops : Array Oper} {rest : List Oper} {o : Oper} {a : Act}
theorem exec_lookup (mty kt et : TypeId) (x y : Operand) (ok : Bool) (ho : o.op = .lookup mty x y ok) (k : Int) (hx : a.eval x = .map (some r)) (hy : a.eval y = .int .i64 k) (h : At w r m) (hm : P.underlying mty = some (.map kt et)) (hk : P.underlying kt = some (.int .i64))
    {z : Value} (hz : ∀ W, (zeroValue et).run P W = .ok z W) : (execOp a.eval o).run P w = .ok (.value (if ok then .tuple #[(get m k).getD z, .bool (get m k).isSome] else (get m k).getD z)) w := by
  unfold execOp
  simp only [ho, hx, hy, Sem.run_bind, Sem.run_pure, Result.andThen_ok, run_lookup mty kt et k h hm hk hz ok]
theorem wpList_lookup {Q : Exit → Act → World → Prop} (hgd : o.guard = none) (mty kt et : TypeId) (x y : Operand) (ok : Bool) (ho : o.op = .lookup mty x y ok) (k : Int) (hx : a.eval x = .map (some r)) (hy : a.eval y = .int .i64 k) (h : At w r m) (hm : P.underlying mty = some (.map kt et)) (hk : P.underlying kt = some (.int .i64))
    {z : Value} (hz : ∀ W, (zeroValue et).run P W = .ok z W) (hn : wpList P ops Q rest (a.put o.dst (if ok then .tuple #[(get m k).getD z, .bool (get m k).isSome] else (get m k).getD z)) w) : wpList P ops Q (o :: rest) a w :=
  wpList_val hgd _ (exec_lookup mty kt et x y ok ho k hx hy h hm hk hz) hn
theorem wpList_update {Q : Exit → Act → World → Prop} (hgd : o.guard = none) (mty kt et : TypeId) (x y z : Operand) (ho : o.op = .mapUpdate mty x y z) (k : Int) (v : Value) (hx : a.eval x = .map (some r)) (hy : a.eval y = .int .i64 k) (hv : a.eval z = v) (h : At w r m) (hm : P.underlying mty = some (.map kt et)) (hk : P.underlying kt = some (.int .i64))
    (hn : ∀ w', Hid (At w' r (put m k v)) → Hid (OnlyB r w w') → wpList P ops Q rest (a.put o.dst undef) w') : wpList P ops Q (o :: rest) a w := by
  obtain ⟨w', hr, h1, h2⟩ := run_update (P := P) mty kt et k v h hm hk
  refine wpList_plain hgd fun K hK => ?_
  unfold Oper.wp execOp
  simp only [ho, hx, hy, hv, Sem.run_bind, Sem.run_pure, Result.andThen_ok, hr]
  exact hK _ _ (hn w' h1 h2)
end
end IM
end Go.Proofs.YtpekhdahamloaaaGreatDoor

namespace Go.Proofs.YtpekhdahamloaaaGreatDoor
open Go.RowKit
namespace IM
theorem EsOf.drop (e : MapEntry) : ∀ (L : List MapEntry) (m : List (Int × Value)), EsOf L m → (L.map (·.born)).Nodup → e ∈ L →
    ∃ a m', e.key = .int .i64 a ∧ EsOf (L.filter fun x => !(x.born == e.born)) m' ∧ m.Perm ((a, e.val) :: m')
  | [], m, _, _, he => by cases he
  | x :: L, m, h, hn, he => by
    obtain ⟨a, m1, rfl, hk, h'⟩ := h.cons
    rw [List.map_cons, List.nodup_cons] at hn
    by_cases hx : x.born = e.born
    · have hex : e = x := by
        rcases List.mem_cons.1 he with r | r
        · exact r
        · exact absurd (List.mem_map.2 ⟨e, r, rfl⟩) (hx ▸ hn.1)
      subst hex
      refine ⟨a, m1, hk, ?_, List.Perm.refl _⟩
      rw [List.filter_cons_of_neg (by simp), List.filter_eq_self.2 ?_]
      · exact h'
      · intro y hy
        have : y.born ≠ e.born := fun hh => hn.1 (List.mem_map.2 ⟨y, hy, hh⟩)
        simp [this]
    · have hm : e ∈ L := by
        rcases List.mem_cons.1 he with r | r
        · exact absurd (by rw [r]) hx
        · exact r
      obtain ⟨c, m2, h1, h2, h3⟩ := EsOf.drop e L m1 h' hn.2 hm
      refine ⟨c, (a, x.val) :: m2, h1, ?_, (h3.cons _).trans (List.Perm.swap _ _ _)⟩
      rw [List.filter_cons_of_pos (by simp [hx])]
      unfold EsOf at h2 ⊢
      rw [List.map_cons, List.map_cons, h2, hk]
/-- block r is an iterator over the map in block b, which holds m; left is still to come -/
def Rng (w : World) (b r : Nat) (m left : List (Int × Value)) : Prop :=
  ∃ es clock seen, w.heap[b]? = some (.map es clock) ∧ EsOf es.toList m ∧ MapKept.Stamped es clock ∧ w.heap[r]? = some (.mapIter (some b) clock seen clock) ∧ EsOf (leftOf es seen).toList left
section
variable {P : Program} {w w' : World} {b r : Nat} {m left : List (Int × Value)}
theorem Rng.at' (h : Rng w b r m left) : At w b m := by
  obtain ⟨es, clock, seen, h1, h2, h3, _⟩ := h
  exact ⟨es, clock, h1, h2, h3⟩
theorem Rng.lt (h : Rng w b r m left) : r < w.heap.size := by obtain ⟨es, clock, seen, h1, h2, h3, h4, _⟩ := h; exact (Array.getElem?_eq_some_iff.1 h4).1
theorem Rng.of_block (h : Rng w b r m left) (hb : w'.heap[b]? = w.heap[b]?) (hr : w'.heap[r]? = w.heap[r]?) : Rng w' b r m left := by
  obtain ⟨es, clock, seen, h1, h2, h3, h4, h5⟩ := h
  exact ⟨es, clock, seen, hb.trans h1, h2, h3, hr.trans h4, h5⟩
theorem Rng.below (h : Rng w b r m left) (hb : Below w.heap.size w w') : Rng w' b r m left := h.of_block (hb.block _ h.at'.lt) (hb.block _ h.lt)
theorem run_range (mty kt et : TypeId) (h : At w b m) (hm : P.underlying mty = some (.map kt et)) :
    ∃ o, (Instr.range mty (.map (some b))).run P w = .ok (.pointer (some ⟨w.heap.size, 0, none⟩)) (w.alloc o) ∧ Rng (w.alloc o) b w.heap.size m m := by
  obtain ⟨es, clock, h1, h2, h3⟩ := h
  have hlt : b < w.heap.size := (Array.getElem?_eq_some_iff.1 h1).1
  refine ⟨_, run_range_map w mty kt et b es clock hm h1, es, clock, #[], (Below.heap_alloc w _ b hlt).trans h1, h2, h3, heap_alloc_new w _, ?_⟩
  unfold leftOf
  have : (es.filter fun e => !(#[] : Array Nat).contains e.born) = es := Array.filter_eq_self.2 (fun x hx => by simp)
  rw [this]; exact h2
theorem Rng.next (h : Rng w b r m left) (ty : TypeId) :
    (left = [] ∧ (Instr.next (.pointer (some ⟨r, 0, none⟩)) false ty).run P w = .ok (.tuple #[.bool false]) w) ∨
    ∃ a v left' w', left.Perm ((a, v) :: left') ∧ (Instr.next (.pointer (some ⟨r, 0, none⟩)) false ty).run P w = .ok (.tuple #[.bool true, .int .i64 a, v]) w' ∧ Rng w' b r m left' ∧ OnlyB r w w' ∧
      (Instr.entry (.pointer (some ⟨r, 0, none⟩))).run P w' = .ok (.tuple #[.int .i64 a, v]) w' := by
  obtain ⟨es, clock, seen, h1, h2, h3, h4, h5⟩ := h
  have hbr : r ≠ b := fun e => by rw [e, h1] at h4; cases h4
  rcases run_next_at (P := P) w ty r b clock clock seen es clock h4 h1 h3.1 (Nat.le_refl _) with ⟨h0, hr⟩ | ⟨e, he, w1, hw1, hr⟩
  · refine .inl ⟨?_, hr⟩
    have : (leftOf es seen).toList = [] := by rw [Array.eq_empty_of_size_eq_zero h0]
    rw [this] at h5
    cases left with
    | nil => rfl
    | cons p l => cases h5
  · have hes : e ∈ es.toList := by
      unfold leftOf at he
      simp at he ⊢
      exact he.1
    have hnd : ((leftOf es seen).toList.map (·.born)).Nodup := by
      unfold leftOf
      rw [Array.toList_filter]
      exact (List.filter_sublist.map _).nodup h3.2.1
    obtain ⟨a, m', hk, hf, hp⟩ := EsOf.drop e _ _ h5 hnd he
    have e1 : w1.heap = w.heap := by rcases hw1 with rfl | rfl <;> rfl
    have e2 : w1.os = w.os ∧ w1.tape = w.tape ∧ w1.output = w.output := by rcases hw1 with rfl | rfl <;> exact ⟨rfl, rfl, rfl⟩
    have hb' : (ChangeMaps.setBlock w1 r (.mapIter (some b) clock (seen.push e.born) clock)).heap[b]? = some (.map es clock) := by
      show (w1.heap.setIfInBounds r _)[b]? = _
      rw [Array.getElem?_setIfInBounds_ne hbr, e1, h1]
    have hr' : (ChangeMaps.setBlock w1 r (.mapIter (some b) clock (seen.push e.born) clock)).heap[r]? = some (.mapIter (some b) clock (seen.push e.born) clock) := by
      have hl : r < w1.heap.size := by rw [e1]; exact (Array.getElem?_eq_some_iff.1 h4).1
      show (w1.heap.setIfInBounds r _)[r]? = _
      simp [hl]
    refine .inr ⟨a, e.val, m', _, hp, ?_, ⟨es, clock, seen.push e.born, hb', h2, h3, hr', ?_⟩, ⟨e2.1, e2.2.1, e2.2.2, ?_, ?_⟩, ?_⟩
    · rw [← hk]; exact hr
    · unfold leftOf at hf ⊢
      rw [Array.toList_filter] at hf ⊢
      rw [List.filter_filter] at hf
      have : (fun e_1 : MapEntry => !(e_1.born == e.born) && !seen.contains e_1.born) = fun e_1 : MapEntry => !(seen.push e.born).contains e_1.born := by
        funext x
        rw [← Bool.not_or]
        congr 1
        rw [Bool.eq_iff_iff]
        simp [Array.contains_iff_mem, Array.mem_push, or_comm]
      rw [this] at hf
      exact hf
    · show w.heap.size ≤ (w1.heap.setIfInBounds r _).size
      simp [e1]
    · intro k hk hne
      show (w1.heap.setIfInBounds r _)[k]? = _
      rw [Array.getElem?_setIfInBounds_ne (Ne.symm hne), e1]
    · rw [← hk]; exact run_entry_at _ r b clock seen es clock e hr' hb' hes h3.2.1
end
section
variable {P : Program} {w : World} {b r : Nat} {m left : List (Int × Value)} {ops : Array Oper} {rest : List Oper} {o : Oper} {a : Act} {Q : Exit → Act → World → Prop}
theorem wpList_range (hgd : o.guard = none) (mty kt et : TypeId) (x : Operand) (ho : o.op = .range mty x) (hx : a.eval x = .map (some b)) (h : At w b m) (hm : P.underlying mty = some (.map kt et))
    (hn : ∀ w', Hid (Rng w' b w.heap.size m m) → Hid (Below w.heap.size w w') → wpList P ops Q rest (a.put o.dst (.pointer (some ⟨w.heap.size, 0, none⟩))) w') : wpList P ops Q (o :: rest) a w := by
  obtain ⟨ob, hr, h1⟩ := run_range (P := P) mty kt et h hm
  refine wpList_plain hgd fun K hK => ?_
  unfold Oper.wp execOp
  simp only [ho, hx, Sem.run_bind, Sem.run_pure, Result.andThen_ok, hr]
  exact hK _ _ (hn _ h1 ((Below.refl _ w).alloc (Nat.le_refl _) _))
theorem wpList_next (hgd : o.guard = none) (x : Operand) (ho : o.op = .next x false) (hx : a.eval x = .pointer (some ⟨r, 0, none⟩)) (h : Rng w b r m left)
    (h0 : left = [] → wpList P ops Q rest (a.put o.dst (.tuple #[.bool false])) w)
    (hn : ∀ w' k v left', Hid (left.Perm ((k, v) :: left')) → Hid (Rng w' b r m left') → Hid (OnlyB r w w') → (Instr.entry (.pointer (some ⟨r, 0, none⟩))).run P w' = .ok (.tuple #[.int .i64 k, v]) w' → wpList P ops Q rest (a.put o.dst (.tuple #[.bool true, .int .i64 k, v])) w') : wpList P ops Q (o :: rest) a w := by
  refine wpList_plain hgd fun K hK => ?_
  unfold Oper.wp
  rcases h.next (P := P) o.type with ⟨hl, hr⟩ | ⟨k, v, left', w', h1, hr, h2, h3, h4⟩
  · simp [execOp, ho, hx, hr, Result.andThen]
    exact hK _ _ (h0 hl)
  · simp [execOp, ho, hx, hr, Result.andThen]
    exact hK _ _ (hn w' k v left' h1 h2 h3 h4)
end
end IM
end Go.Proofs.YtpekhdahamloaaaGreatDoor
