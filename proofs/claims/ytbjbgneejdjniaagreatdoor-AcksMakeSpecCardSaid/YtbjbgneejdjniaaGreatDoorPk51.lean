/- append onto an own slice of structs, the source nil, empty or not; an own slice without cells. regions that draw: what lies below a fixed number stays (every step of the region is Below it). -/
import Derived.Test.YtbjbgneejdjniaaGreatDoorPk50
set_option linter.unusedVariables false
set_option linter.unusedSimpArgs false
namespace Go.Proofs.YtbjbgneejdjniaaGreatDoor
open Go.RowKit Cod
theorem run_append_nil {P : Program} (w : World) (base : Nat) (t ty e : TypeId) (i : TypeInfo) (size : Nat) (ht : P.underlying t = some (.slice e)) (hi : P.info? e = some i)
    (v : Value) (n : Nat) (xs : List Value) (hown : w.ownsRow base e size v n xs) (c : Nat) : (Builtin.append_ #[t, t] ty #[v, .slice none 0 c]).run P w = .ok v w := by
  rcases hown.2 with ⟨rfl, rfl⟩ | ⟨g, cap, cur, rfl, _, _, hnc, _⟩
  · simp [Builtin.append_, run_underlying ht, sizeOf, typeInfo, hi, Builtin.lenOf, Builtin.firstCells]
  · simp [Builtin.append_, run_underlying ht, sizeOf, typeInfo, hi, Builtin.lenOf, Builtin.firstCells, hnc, storeCells]
section
variable {α : Type} {T : TypeId} {s : Nat} {c : α → Nat → Value} {w w' : World} {base : Nat} {v : Value} {l : List α}
/-- an own slice that has no cells -/
theorem OwnT.none0 {B : Nat} (hb : base ≤ B) (h : w.heap[B]? = some (.cells #[] T)) : OwnT T s c w base (.slice (some ⟨B, 0, none⟩) 0 0) [] :=
  ⟨by simp [flatS], .inr ⟨B, 0, #[], rfl, hb, h, Nat.le_refl _, by decide, by simp, by simp [flatS]⟩⟩
theorem wpList_app_S {z : Value} {bytes : Nat} {t : TypeId} {ops : Array Oper} {rest : List Oper} {o : Oper} {a : Act} {Q : Exit → Act → World → Prop} (hgd : o.guard = none) (x y : Operand)
    (hinfo : (Tryz.prog.info? T).map (fun i => (i.zero, i.size, i.bytes)) = some (some z, s, bytes)) (ht : Tryz.prog.underlying t = some (.slice T)) (hz : z.cells.size = s) (hs : 0 < s) (hby : bytes ≤ 1000) (h1 : ∀ u j, (c u j).oneCell' = true) (d : α)
    (ho : o.op = .call { callee := .builtin .append, args := #[x, y], argTypes := #[t, t] })
    (base : Nat) (v : Value) (l : List α) (hx : a.eval x = v) (hown : OwnT T s c w base v l) (u : Value) (l2 : List α) (hy : a.eval y = u)
    (hc : SlAt s w u l2.length (fun i => c (l2.getD i d))) (hlen : l.length + l2.length ≤ 1000000) (hbase : base ≤ w.heap.size)
    (h : ∀ v' w', Hid (OwnT T s c w' base v' (l ++ l2)) → Hid (AppStep w v w' v') → wpList Tryz.prog ops Q rest (a.put o.dst v') w') : wpList Tryz.prog ops Q (o :: rest) a w := by
  obtain ⟨i0, hi, hz0, hz1, hz2⟩ := info_parts3 hinfo
  have fin : ∀ v' w', w'.ownsRow base T s v' (l.length + l2.length) (flatS s c l ++ flatS s c l2) → AppStep w v w' v' → wpList Tryz.prog ops Q rest (a.put o.dst v') w' := by
    intro v' w' h3 h4
    refine h v' w' ?_ h4
    unfold Hid OwnT
    rw [List.length_append, flatS_join]
    exact h3
  have news1 : ∀ x ∈ flatS s c l2, x.oneCell' = true := by
    intro u hu
    unfold flatS at hu
    obtain ⟨b, _, hb⟩ := List.mem_flatMap.1 hu
    obtain ⟨j, _, rfl⟩ := List.mem_map.1 hb
    exact h1 _ _
  rcases hc with ⟨⟨ad, k, rfl, _⟩, h0⟩ | ⟨b, off, cap, rfl, _, _, _, _, hcell⟩
  · obtain rfl : l2 = [] := List.eq_nil_of_length_eq_zero h0
    cases ad with
    | none =>
      refine wpList_plain hgd fun K hK => ?_
      have hr := run_append_nil (P := Tryz.prog) w base t o.type T i0 s ht hi v l.length (flatS s c l) hown k
      unfold Oper.wp execOp
      simp only [ho, resolve, invoke, builtin, Sem.run_bind, Sem.run_pure, Result.andThen_ok, List.map_toArray, List.map_cons, List.map_nil, hx, hy, hr]
      exact hK _ _ (fin v w (by rw [show flatS s c ([] : List α) = [] from rfl, List.append_nil]; exact hown) ⟨World.grownBy.refl w _, .inl rfl⟩)
    | some ad =>
      exact wpList_app hgd x y t ho base T i0 z s bytes ht hi hz0 hz1 hz2 hz hs v l.length (flatS s c l) hx hown ad 0 k (flatS s c ([] : List α)) hy (by simp [flatS]) (fun j u hj => by simp [flatS] at hj) news1 (by simp only [List.length_nil] at hlen; unfold maxLen; omega) (Nat.le_trans (Nat.mul_le_mul hlen hby) (by decide)) hbase fin
  · refine wpList_app hgd x y t ho base T i0 z s bytes ht hi hz0 hz1 hz2 hz hs v l.length (flatS s c l) hx hown ⟨b, off, none⟩ l2.length cap (flatS s c l2) hy (flatS_len l2) ?_ news1 (by unfold maxLen; omega) (Nat.le_trans (Nat.mul_le_mul hlen hby) (by decide)) hbase fin
    intro j u hj
    have hjl : j < l2.length * s := by have := (List.getElem?_eq_some_iff.1 hj).1; rwa [flatS_len] at this
    have hi : j / s < l2.length := (Nat.div_lt_iff_lt_mul hs).2 hjl
    have hm : j % s < s := Nat.mod_lt _ hs
    have e := Nat.div_add_mod j s
    have hg := flatS_get d (s := s) (c := c) l2 (j / s) (j % s) hi hm
    rw [e] at hg
    have h5 := hcell _ hi _ hm
    rw [Addr.add_mid, show off + j = off + s * (j / s) + j % s by omega, h5, ← hj]; exact hg.symm
end
theorem SlAt.app {s n : Nat} {c : Nat → Nat → Value} {w w' : World} {u v v' : Value} (h : SlAt s w u n c) (st : AppStep w v w' v') (hne : ∀ b, v.ownBlock = some b → ∀ k off, u = .slice (some ⟨b, off, none⟩) n k → n = 0) : SlAt s w' u n c := by
  rcases h with h | ⟨b, off, cap, h1, h2, h3, h4, h5, h6⟩
  · exact .inl h
  · have hb : v.ownBlock ≠ some b := fun e => by have := hne b e cap off h1; omega
    exact .inr ⟨b, off, cap, h1, h2, h3, h4, Nat.lt_of_lt_of_le h5 st.1.size, fun i hi j hj => (World.cell?_of_block (w := w) (w' := w') (a := ⟨b, off + s * i + j, none⟩) (st.block h5 hb)).trans (h6 i hi j hj)⟩
end Go.Proofs.YtbjbgneejdjniaaGreatDoor

namespace Go.Proofs.YtbjbgneejdjniaaGreatDoor
open Go.RowKit Cod
abbrev keep (n : Nat) : Tc.Rl := Tc.Rl.stay (fun k => k < n)
theorem keep_below {n : Nat} {w W : World} (b : Below n w W) : (keep n).r w W := fun k hk => b.block k hk
theorem row_keep {n : Nat} {w W : World} {g N : Nat} {T : TypeId} {f : Nat → Value} (h : RowV w g T N f) (hn : g < n) (hr : (keep n).r w W) : RowV W g T N f := stay_row (S := fun k => k < n) h hn hr
theorem cell_keep {n : Nat} {w W : World} {b off : Nat} {v : Value} (h : w.cell? ⟨b, off, none⟩ = some v) (hn : b < n) (hr : (keep n).r w W) : W.cell? ⟨b, off, none⟩ = some v := (stay_cell (S := fun k => k < n) hn hr).trans h
theorem below_app {n : Nat} {w w' : World} {v v' : Value} (st : AppStep w v w' v') (hn : n ≤ w.heap.size) (hb : ∀ k, v.ownBlock = some k → n ≤ k) : Below n w w' := (Below.refl n w).grown st.1 hn hb
theorem OwnT.ge {α : Type} {T : TypeId} {s : Nat} {c : α → Nat → Value} {w : World} {base : Nat} {v : Value} {l : List α} (h : OwnT T s c w base v l) : ∀ k, v.ownBlock = some k → base ≤ k := fun k hk => (h.lt k hk).1
/-- an own slice, and another one's append: their blocks lie on two sides of a number -/
theorem OwnT.appL {α : Type} {T : TypeId} {s : Nat} {c : α → Nat → Value} {w w' : World} {base n : Nat} {v u u' : Value} {l : List α} (h : OwnT T s c w base v l) (hlt : ∀ k, v.ownBlock = some k → k < n) (hge : ∀ k, u.ownBlock = some k → n ≤ k) (st : AppStep w u w' u') : OwnT T s c w' base v l :=
  h.app st (by
    cases hb : v.ownBlock with
    | none => exact .inl rfl
    | some k => exact .inr (fun e => by have := hlt k hb; have := hge k e.symm; omega))
theorem OwnT.appR {α : Type} {T : TypeId} {s : Nat} {c : α → Nat → Value} {w w' : World} {base n : Nat} {v u u' : Value} {l : List α} (h : OwnT T s c w base v l) (hlt : ∀ k, u.ownBlock = some k → k < n) (hge : ∀ k, v.ownBlock = some k → n ≤ k) (st : AppStep w u w' u') : OwnT T s c w' base v l :=
  h.app st (by
    cases hb : v.ownBlock with
    | none => exact .inl rfl
    | some k => exact .inr (fun e => by have := hge k hb; have := hlt k e.symm; omega))
theorem fold_mem (g : Nat → Value) : Array.foldl (fun (cs : Array Value) (x : Value × Nat) => cs.setIfInBounds x.snd x.fst) #[.int .i64 0, .int .i64 0, .int .i64 0] (rowF 3 g).zipIdx 0 3 = rowF 3 g := by kernel_rfl
/-- a list read backwards -/
theorem rev_take {α : Type} (d : α) (l : List α) {k q : Nat} (hq : l.length = q) (hk : k < q) : l.reverse.take (k + 1) = l.reverse.take k ++ [l.getD (q - 1 - k) d] := by
  subst hq
  rw [take_succ_getD d l.reverse (by simpa using hk)]
  congr 2
  rw [List.getD_eq_getElem?_getD, List.getD_eq_getElem?_getD, List.getElem?_reverse (by omega)]
theorem rev_all {α : Type} (l : List α) {q : Nat} (hq : l.length = q) : l.reverse.take q = l.reverse := List.take_of_length_le (by simp; omega)
end Go.Proofs.YtbjbgneejdjniaaGreatDoor
