/- Lists of acknowledgements in memory; a map of such lists. -/
import Derived.Test.YtbjbgneejdjniaaDoorPk41
import Derived.Test.YtbjbgneejdjniaaDoorPk42
set_option linter.unusedVariables false
set_option linter.unusedSimpArgs false
namespace Go.Proofs.YtbjbgneejdjniaaDoor
open Go.RowKit Cod
/-- the cells of structs of s cells each -/
def flatS {α : Type} (s : Nat) (c : α → Nat → Value) (l : List α) : List Value := l.flatMap fun a => (List.range s).map (c a)
section
variable {α : Type} {s : Nat} {c : α → Nat → Value}
theorem flatS_len (l : List α) : (flatS s c l).length = l.length * s := by
  induction l with
  | nil => simp [flatS]
  | cons a l ih =>
    have : flatS s c (a :: l) = (List.range s).map (c a) ++ flatS s c l := rfl
    rw [this, List.length_append, ih, List.length_map, List.length_range, List.length_cons, Nat.add_mul]; omega
theorem flatS_get (d : α) : ∀ (l : List α) (i j : Nat), i < l.length → j < s → (flatS s c l)[s * i + j]? = some (c (l.getD i d) j)
  | [], i, j, hi, _ => absurd hi (by simp)
  | a :: l, 0, j, hi, hj => by
    have : flatS s c (a :: l) = (List.range s).map (c a) ++ flatS s c l := rfl
    rw [this, Nat.mul_zero, Nat.zero_add, List.getElem?_append_left (by simpa using hj), List.getElem?_map, List.getElem?_range hj]; rfl
  | a :: l, i + 1, j, hi, hj => by
    have : flatS s c (a :: l) = (List.range s).map (c a) ++ flatS s c l := rfl
    have hlen : ((List.range s).map (c a)).length = s := by simp
    rw [this, List.getElem?_append_right (by rw [hlen, Nat.mul_add]; omega), hlen, show s * (i + 1) + j - s = s * i + j by rw [Nat.mul_add]; omega]
    exact flatS_get d l i j (by simpa using hi) hj
theorem flatS_app (l : List α) (a : α) : flatS s c (l ++ [a]) = flatS s c l ++ (List.range s).map (c a) := by
  unfold flatS; rw [List.flatMap_append]; simp
end
def OwnAk (w : World) (base : Nat) (v : Value) (l : List Ak) : Prop := w.ownsRow base 27 38 v l.length (flatS 38 akC l)
theorem OwnAk.nil (w : World) (base : Nat) : OwnAk w base (.slice none 0 0) [] := World.ownsRow_nil _ _ _ _
theorem OwnAk.slice {w : World} {base : Nat} {v : Value} {l : List Ak} (h : OwnAk w base v l) : ∃ (a : Option Addr) (c : Nat), v = .slice a l.length c := by
  rcases h.2 with ⟨rfl, h3⟩ | ⟨g, cap, cur, rfl, _⟩
  · exact ⟨none, 0, by rw [h3]⟩
  · exact ⟨_, _, rfl⟩
/-- it reads as a list -/
theorem OwnAk.at' {w : World} {base : Nat} {v : Value} {l : List Ak} (h : OwnAk w base v l) (hn : l.length ≤ 1000000) : SlAt 38 w v l.length (fun i => akC (l.getD i ak0)) := by
  rcases h.2 with ⟨rfl, h3⟩ | ⟨g, cap, cur, rfl, hb, hg, hle, hm, hs, ht⟩
  · exact .inl ⟨⟨none, 0, rfl, fun _ => rfl⟩, h3⟩
  · by_cases h0 : l.length = 0
    · exact .inl ⟨⟨_, cap, by rw [h0], fun h => by cases h⟩, h0⟩
    · unfold maxLen at hm
      refine .inr ⟨g, 0, cap, rfl, hle, by omega, ⟨by omega, by omega⟩, (Array.getElem?_eq_some_iff.1 hg).1, fun i hi j hj => ?_⟩
      have h4 := World.ownsRow.cells h (g := g) rfl (38 * i + j) _ (flatS_get ak0 l i j hi hj)
      rw [Addr.add_mid, Nat.add_assoc] at *
      simpa using h4
theorem info_ack : (Tryd.prog.info? 27).map (fun i => (i.zero, i.size, i.bytes)) = some (some (.agg (rowF 38 (akC ak0))), 38, 80) := by kernel_rfl
/-- append of one acknowledgement -/
theorem wpList_app_ack {w : World} {ops : Array Oper} {rest : List Oper} {o : Oper} {a : Act} {Q : Exit → Act → World → Prop} (hgd : o.guard = none) (s x : Operand)
    (ho : o.op = .call { callee := .builtin .append, args := #[s, x], argTypes := #[38, 38] })
    (base : Nat) (v : Value) (l : List Ak) (hs : a.eval s = v) (hown : OwnAk w base v l) (g2 c2 : Nat) (t : Ak) (hx : a.eval x = .slice (some ⟨g2, 0, none⟩) 1 c2)
    (hrow : RowV w g2 27 38 (akC t)) (hlen : l.length ≤ 1000000) (hbase : base ≤ w.heap.size)
    (h : ∀ v' w', Hid (OwnAk w' base v' (l ++ [t])) → Hid (AppStep w v w' v') → wpList Tryd.prog ops Q rest (a.put o.dst v') w') : wpList Tryd.prog ops Q (o :: rest) a w := by
  obtain ⟨i0, hi, hz0, hz1, hz2⟩ := info_parts3 info_ack
  refine wpList_app hgd s x 38 ho base 27 i0 _ 38 80 Tryd.underlying38 hi hz0 hz1 hz2 (rowF_size _ _) (by decide) v l.length (flatS 38 akC l) hs hown ⟨g2, 0, none⟩ 1 c2 ((List.range 38).map (akC t)) hx (by simp) ?_ ?_ (by unfold maxLen; omega) (by omega) hbase ?_
  · intro j u hj
    rw [Addr.add_mid, Nat.zero_add]
    have hj38 : j < 38 := by have := (List.getElem?_eq_some_iff.1 hj).1; simpa using this
    rw [hrow.cell hj38, ← hj, List.getElem?_map, List.getElem?_range hj38]; rfl
  · intro u hu
    obtain ⟨j, _, rfl⟩ := List.mem_map.1 hu
    exact akC_one _ _
  · intro v' w' h3 h4
    refine h v' w' ?_ h4
    unfold Hid OwnAk
    rw [List.length_append, List.length_singleton, flatS_app]
    exact h3
/-- what a map of lists holds at a key -/
def gv (m : List (Int × Value)) (k : Int) : Value := (IM.get m k).getD (.slice none 0 0)
theorem gv_put_same (m : List (Int × Value)) (k : Int) (v : Value) : gv (IM.put m k v) k = v := by unfold gv; rw [IM.get_put_same]; rfl
theorem gv_put_other (m : List (Int × Value)) {k j : Int} (v : Value) (h : j ≠ k) : gv (IM.put m k v) j = gv m j := by unfold gv; rw [IM.get_put_other h]
/-- block r is a map that holds the lists G, each of which owns its cells -/
structure GInv (w : World) (base r : Nat) (m : List (Int × Value)) (G : Int → List Ak) : Prop where
  at' : IM.At w r m
  lt : r < base
  size : base ≤ w.heap.size
  own : ∀ k, OwnAk w base (gv m k) (G k)
  apart : ∀ j k, j ≠ k → (gv m j).ownBlock = none ∨ (gv m j).ownBlock ≠ (gv m k).ownBlock
section
variable {w w' : World} {base r : Nat} {m : List (Int × Value)} {G : Int → List Ak}
theorem OwnAk.below {v : Value} {l : List Ak} (h : OwnAk w base v l) (b : Below w.heap.size w w') : OwnAk w' base v l :=
  World.ownsRow.kept h (row := none) ⟨b.os, b.tape, b.output, b.size, fun k hk _ => b.block k hk⟩ (by cases v.ownBlock <;> simp)
theorem GInv.below (h : GInv w base r m G) (b : Below w.heap.size w w') : GInv w' base r m G :=
  ⟨h.at'.below b, h.lt, Nat.le_trans h.size b.size, fun k => (h.own k).below b, h.apart⟩
theorem GInv.block (h : GInv w base r m G) (k : Int) : ∀ b, (gv m k).ownBlock = some b → base ≤ b ∧ b < w.heap.size := World.ownsRow.lt (h.own k)
theorem GInv.start (w : World) : GInv (w.alloc (.map #[] 0)) (w.heap.size + 1) w.heap.size [] (fun _ => []) :=
  ⟨IM.At.made w, Nat.lt_succ_self _, by rw [World.size_alloc]; exact Nat.le_refl _, fun k => OwnAk.nil _ _, fun j k _ => .inl rfl⟩
/-- behind the append, and the store of its slice -/
theorem GInv.put {w1 : World} {k : Int} {v' : Value} {l' : List Ak} (h : GInv w base r m G) (s : AppStep w (gv m k) w1 v') (ho : OwnAk w1 base v' l') (ha : IM.At w' r (IM.put m k v')) (hw : OnlyB r w1 w') : GInv w' base r (IM.put m k v') (fun j => if j = k then l' else G j) := by
  have keep : ∀ {v : Value} {l : List Ak}, OwnAk w1 base v l → OwnAk w' base v l := fun {v l} hv =>
    World.ownsRow.kept hv (row := some r) ⟨hw.os, hw.tape, hw.output, hw.size, fun i hi hn => hw.block i hi (fun e => hn (by rw [e]))⟩ (by
      cases hb : v.ownBlock with
      | none => exact .inl rfl
      | some b => exact .inr (by intro e; have := (World.ownsRow.lt hv b hb).1; rw [Option.some.inj e] at this; have := h.lt; omega))
  have loc : ∀ b, v'.ownBlock = some b → (gv m k).ownBlock = some b ∨ w.heap.size ≤ b := fun b hb => by
    rcases s.2 with h1 | h1
    · exact .inl (h1.symm.trans hb)
    · exact .inr (h1 b hb)
  refine ⟨ha, h.lt, Nat.le_trans h.size (Nat.le_trans s.1.size hw.size), fun j => ?_, fun i j hij => ?_⟩
  · show OwnAk w' base _ (if j = k then l' else G j)
    by_cases hj : j = k
    · subst hj; rw [if_pos rfl, gv_put_same]; exact keep ho
    · rw [if_neg hj, gv_put_other m v' hj]
      exact keep (World.ownsRow.kept (h.own j) s.1 (h.apart j k hj))
  · by_cases hi : i = k
    · subst hi
      rw [gv_put_same, gv_put_other m v' (Ne.symm hij)]
      cases hb : v'.ownBlock with
      | none => exact .inl rfl
      | some b =>
        refine .inr (fun e => ?_)
        rcases loc b hb with h1 | h1
        · rcases h.apart i j hij with h2 | h2
          · rw [h2] at h1; cases h1
          · exact h2 (h1.trans e)
        · have := (h.block j b e.symm).2; omega
    · rw [gv_put_other m v' hi]
      by_cases hj : j = k
      · subst hj
        rw [gv_put_same]
        cases hb : (gv m i).ownBlock with
        | none => exact .inl rfl
        | some b =>
          refine .inr (fun e => ?_)
          rcases loc b e.symm with h1 | h1
          · rcases h.apart i j hij with h2 | h2
            · rw [h2] at hb; cases hb
            · exact h2 (hb.trans h1.symm)
          · have := (h.block i b hb).2; omega
      · rw [gv_put_other m v' hj]; exact h.apart i j hij
end
theorem ofDev_snoc (d : Int) (l : List Ak) (a : Ak) : ofDev d (l ++ [a]) = if a.d = d then ofDev d l ++ [a] else ofDev d l := by
  unfold ofDev
  rw [List.filter_append]
  by_cases h : a.d = d
  · rw [if_pos h]; simp [h]
  · rw [if_neg h]; simp [h]
theorem sel_snoc (f s : Int) (l : List Ak) (a : Ak) : (l ++ [a]).filter (selA f s) = if selA f s a then l.filter (selA f s) ++ [a] else l.filter (selA f s) := by
  rw [List.filter_append]
  cases h : selA f s a <;> simp [h]
end Go.Proofs.YtbjbgneejdjniaaDoor
