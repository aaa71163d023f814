/- Lists of acknowledgements in memory; a map of such lists. Package acks: Least. Acknowledgements: the plain laws of the examples, of decoding what is encoded. -/
import Derived.Test.YtbjbgneejdjniaaDoorPk40
import Derived.Test.YtbjbgneejdjniaaDoorPk41
import Derived.Test.YtbjbgneejdjniaaDoorPk42
set_option linter.unusedVariables false
set_option linter.unusedSimpArgs false
namespace Go.Proofs.YtbjbgneejdjniaaDoor
open Go.RowKit Cod
/-- the cells of structs of s cells each -/
def flatS {α : Type} (s : Nat) (c : α → Nat → Value) (l : List α) : List Value := l.flatMap fun a => (List.range s).map (c a)
section
variable {α : Type} {s : Nat} {c : α → Nat → Value}
theorem flatS_len (l : List α) : (flatS s c l).length = l.length * s := by
  induction l with
  | nil => simp [flatS]
  | cons a l ih =>
    have : flatS s c (a :: l) = (List.range s).map (c a) ++ flatS s c l := rfl
    rw [this, List.length_append, ih, List.length_map, List.length_range, List.length_cons, Nat.add_mul]; omega
theorem flatS_get (d : α) : ∀ (l : List α) (i j : Nat), i < l.length → j < s → (flatS s c l)[s * i + j]? = some (c (l.getD i d) j)
  | [], i, j, hi, _ => absurd hi (by simp)
  | a :: l, 0, j, hi, hj => by
    have : flatS s c (a :: l) = (List.range s).map (c a) ++ flatS s c l := rfl
    rw [this, Nat.mul_zero, Nat.zero_add, List.getElem?_append_left (by simpa using hj), List.getElem?_map, List.getElem?_range hj]; rfl
  | a :: l, i + 1, j, hi, hj => by
    have : flatS s c (a :: l) = (List.range s).map (c a) ++ flatS s c l := rfl
    have hlen : ((List.range s).map (c a)).length = s := by simp
    rw [this, List.getElem?_append_right (by rw [hlen, Nat.mul_add]; omega), hlen, show s * (i + 1) + j - s = s * i + j by rw [Nat.mul_add]; omega]
    exact flatS_get d l i j (by simpa using hi) hj
theorem flatS_app (l : List α) (a : α) : flatS s c (l ++ [a]) = flatS s c l ++ (List.range s).map (c a) := by
  unfold flatS; rw [List.flatMap_append]; simp
end
def OwnAk (w : World) (base : Nat) (v : Value) (l : List Ak) : Prop := w.ownsRow base 27 38 v l.length (flatS 38 akC l)
theorem OwnAk.nil (w : World) (base : Nat) : OwnAk w base (.slice none 0 0) [] := World.ownsRow_nil _ _ _ _
theorem OwnAk.slice {w : World} {base : Nat} {v : Value} {l : List Ak} (h : OwnAk w base v l) : ∃ (a : Option Addr) (c : Nat), v = .slice a l.length c := by
  rcases h.2 with ⟨rfl, h3⟩ | ⟨g, cap, cur, rfl, _⟩
  · exact ⟨none, 0, by rw [h3]⟩
  · exact ⟨_, _, rfl⟩
/-- it reads as a list -/
theorem OwnAk.at' {w : World} {base : Nat} {v : Value} {l : List Ak} (h : OwnAk w base v l) (hn : l.length ≤ 1000000) : SlAt 38 w v l.length (fun i => akC (l.getD i ak0)) := by
  rcases h.2 with ⟨rfl, h3⟩ | ⟨g, cap, cur, rfl, hb, hg, hle, hm, hs, ht⟩
  · exact .inl ⟨⟨none, 0, rfl, fun _ => rfl⟩, h3⟩
  · by_cases h0 : l.length = 0
    · exact .inl ⟨⟨_, cap, by rw [h0], fun h => by cases h⟩, h0⟩
    · unfold maxLen at hm
      refine .inr ⟨g, 0, cap, rfl, hle, by omega, ⟨by omega, by omega⟩, (Array.getElem?_eq_some_iff.1 hg).1, fun i hi j hj => ?_⟩
      have h4 := World.ownsRow.cells h (g := g) rfl (38 * i + j) _ (flatS_get ak0 l i j hi hj)
      rw [Addr.add_mid, Nat.add_assoc] at *
      simpa using h4
theorem info_ack : (Tryd.prog.info? 27).map (fun i => (i.zero, i.size, i.bytes)) = some (some (.agg (rowF 38 (akC ak0))), 38, 80) := by kernel_rfl
/-- append of one acknowledgement -/
theorem wpList_app_ack {w : World} {ops : Array Oper} {rest : List Oper} {o : Oper} {a : Act} {Q : Exit → Act → World → Prop} (hgd : o.guard = none) (s x : Operand)
    (ho : o.op = .call { callee := .builtin .append, args := #[s, x], argTypes := #[38, 38] })
    (base : Nat) (v : Value) (l : List Ak) (hs : a.eval s = v) (hown : OwnAk w base v l) (g2 c2 : Nat) (t : Ak) (hx : a.eval x = .slice (some ⟨g2, 0, none⟩) 1 c2)
    (hrow : RowV w g2 27 38 (akC t)) (hlen : l.length ≤ 1000000) (hbase : base ≤ w.heap.size)
    (h : ∀ v' w', Hid (OwnAk w' base v' (l ++ [t])) → Hid (AppStep w v w' v') → wpList Tryd.prog ops Q rest (a.put o.dst v') w') : wpList Tryd.prog ops Q (o :: rest) a w := by
  obtain ⟨i0, hi, hz0, hz1, hz2⟩ := info_parts3 info_ack
  refine wpList_app hgd s x 38 ho base 27 i0 _ 38 80 Tryd.underlying38 hi hz0 hz1 hz2 (rowF_size _ _) (by decide) v l.length (flatS 38 akC l) hs hown ⟨g2, 0, none⟩ 1 c2 ((List.range 38).map (akC t)) hx (by simp) ?_ ?_ (by unfold maxLen; omega) (by omega) hbase ?_
  · intro j u hj
    rw [Addr.add_mid, Nat.zero_add]
    have hj38 : j < 38 := by have := (List.getElem?_eq_some_iff.1 hj).1; simpa using this
    rw [hrow.cell hj38, ← hj, List.getElem?_map, List.getElem?_range hj38]; rfl
  · intro u hu
    obtain ⟨j, _, rfl⟩ := List.mem_map.1 hu
    exact akC_one _ _
  · intro v' w' h3 h4
    refine h v' w' ?_ h4
    unfold Hid OwnAk
    rw [List.length_append, List.length_singleton, flatS_app]
    exact h3
/-- what a map of lists holds at a key -/
def gv (m : List (Int × Value)) (k : Int) : Value := (IM.get m k).getD (.slice none 0 0)
theorem gv_put_same (m : List (Int × Value)) (k : Int) (v : Value) : gv (IM.put m k v) k = v := by unfold gv; rw [IM.get_put_same]; rfl
theorem gv_put_other (m : List (Int × Value)) {k j : Int} (v : Value) (h : j ≠ k) : gv (IM.put m k v) j = gv m j := by unfold gv; rw [IM.get_put_other h]
/-- block r is a map that holds the lists G, each of which owns its cells -/
structure GInv (w : World) (base r : Nat) (m : List (Int × Value)) (G : Int → List Ak) : Prop where
  at' : IM.At w r m
  lt : r < base
  size : base ≤ w.heap.size
  own : ∀ k, OwnAk w base (gv m k) (G k)
  apart : ∀ j k, j ≠ k → (gv m j).ownBlock = none ∨ (gv m j).ownBlock ≠ (gv m k).ownBlock
section
variable {w w' : World} {base r : Nat} {m : List (Int × Value)} {G : Int → List Ak}
theorem OwnAk.below {v : Value} {l : List Ak} (h : OwnAk w base v l) (b : Below w.heap.size w w') : OwnAk w' base v l :=
  World.ownsRow.kept h (row := none) ⟨b.os, b.tape, b.output, b.size, fun k hk _ => b.block k hk⟩ (by cases v.ownBlock <;> simp)
theorem GInv.below (h : GInv w base r m G) (b : Below w.heap.size w w') : GInv w' base r m G :=
  ⟨h.at'.below b, h.lt, Nat.le_trans h.size b.size, fun k => (h.own k).below b, h.apart⟩
theorem GInv.block (h : GInv w base r m G) (k : Int) : ∀ b, (gv m k).ownBlock = some b → base ≤ b ∧ b < w.heap.size := World.ownsRow.lt (h.own k)
theorem GInv.start (w : World) : GInv (w.alloc (.map #[] 0)) (w.heap.size + 1) w.heap.size [] (fun _ => []) :=
  ⟨IM.At.made w, Nat.lt_succ_self _, by rw [World.size_alloc]; exact Nat.le_refl _, fun k => OwnAk.nil _ _, fun j k _ => .inl rfl⟩
/-- behind the append, and the store of its slice -/
theorem GInv.put {w1 : World} {k : Int} {v' : Value} {l' : List Ak} (h : GInv w base r m G) (s : AppStep w (gv m k) w1 v') (ho : OwnAk w1 base v' l') (ha : IM.At w' r (IM.put m k v')) (hw : OnlyB r w1 w') : GInv w' base r (IM.put m k v') (fun j => if j = k then l' else G j) := by
  have keep : ∀ {v : Value} {l : List Ak}, OwnAk w1 base v l → OwnAk w' base v l := fun {v l} hv =>
    World.ownsRow.kept hv (row := some r) ⟨hw.os, hw.tape, hw.output, hw.size, fun i hi hn => hw.block i hi (fun e => hn (by rw [e]))⟩ (by
      cases hb : v.ownBlock with
      | none => exact .inl rfl
      | some b => exact .inr (by intro e; have := (World.ownsRow.lt hv b hb).1; rw [Option.some.inj e] at this; have := h.lt; omega))
  have loc : ∀ b, v'.ownBlock = some b → (gv m k).ownBlock = some b ∨ w.heap.size ≤ b := fun b hb => by
    rcases s.2 with h1 | h1
    · exact .inl (h1.symm.trans hb)
    · exact .inr (h1 b hb)
  refine ⟨ha, h.lt, Nat.le_trans h.size (Nat.le_trans s.1.size hw.size), fun j => ?_, fun i j hij => ?_⟩
  · show OwnAk w' base _ (if j = k then l' else G j)
    by_cases hj : j = k
    · subst hj; rw [if_pos rfl, gv_put_same]; exact keep ho
    · rw [if_neg hj, gv_put_other m v' hj]
      exact keep (World.ownsRow.kept (h.own j) s.1 (h.apart j k hj))
  · by_cases hi : i = k
    · subst hi
      rw [gv_put_same, gv_put_other m v' (Ne.symm hij)]
      cases hb : v'.ownBlock with
      | none => exact .inl rfl
      | some b =>
        refine .inr (fun e => ?_)
        rcases loc b hb with h1 | h1
        · rcases h.apart i j hij with h2 | h2
          · rw [h2] at h1; cases h1
          · exact h2 (h1.trans e)
        · have := (h.block j b e.symm).2; omega
    · rw [gv_put_other m v' hi]
      by_cases hj : j = k
      · subst hj
        rw [gv_put_same]
        cases hb : (gv m i).ownBlock with
        | none => exact .inl rfl
        | some b =>
          refine .inr (fun e => ?_)
          rcases loc b e.symm with h1 | h1
          · rcases h.apart i j hij with h2 | h2
            · rw [h2] at hb; cases hb
            · exact h2 (hb.trans h1.symm)
          · have := (h.block i b hb).2; omega
      · rw [gv_put_other m v' hj]; exact h.apart i j hij
end
theorem ofDev_snoc (d : Int) (l : List Ak) (a : Ak) : ofDev d (l ++ [a]) = if a.d = d then ofDev d l ++ [a] else ofDev d l := by
  unfold ofDev
  rw [List.filter_append]
  by_cases h : a.d = d
  · rw [if_pos h]; simp [h]
  · rw [if_neg h]; simp [h]
theorem sel_snoc (f s : Int) (l : List Ak) (a : Ak) : (l ++ [a]).filter (selA f s) = if selA f s a then l.filter (selA f s) ++ [a] else l.filter (selA f s) := by
  rw [List.filter_append]
  cases h : selA f s a <;> simp [h]
end Go.Proofs.YtbjbgneejdjniaaDoor

namespace Go.Proofs.YtbjbgneejdjniaaDoor
open Go.RowKit Cod
def AkS (w : World) (v : Value) (l : List Ak) : Prop := SlAt 38 w v l.length (fun i => akC (l.getD i ak0))
def MbS (w : World) (v : Value) (l : List Mb) : Prop := SlAt 3 w v l.length (fun i => mbC (l.getD i mb0))
theorem getD_mem {α : Type} (d : α) {l : List α} {i : Nat} (h : i < l.length) : l.getD i d ∈ l := by
  rw [List.getD_eq_getElem?_getD, List.getElem?_eq_getElem h]; exact List.getElem_mem h
theorem zero_acks (W : World) : (zeroValue 38).run Tryd.prog W = .ok (.slice none 0 0) W := by kernel_rfl
theorem drop_succ_getD {α : Type} (d : α) : ∀ (l : List α) {k : Nat}, k < l.length → l.drop k = l.getD k d :: l.drop (k + 1)
  | [], k, h => absurd h (by simp)
  | a :: l, 0, _ => rfl
  | a :: l, k + 1, h => by
    show l.drop k = l.getD k d :: l.drop (k + 1)
    exact drop_succ_getD d l (by simpa using h)
theorem mbC_one (m : Mb) (j : Nat) : (mbC m j).oneCell' = true := by unfold mbC; split; rfl; split <;> rfl
theorem fold_ack (g : Nat → Value) : Array.foldl (fun (cs : Array Value) (x : Value × Nat) => cs.setIfInBounds x.snd x.fst) #[.int .i64 0, .int .i64 0, .int .i64 0, .int .i64 0, .int .u8 0, .int .u8 0, .int .u8 0, .int .u8 0, .int .u8 0, .int .u8 0, .int .u8 0, .int .u8 0, .int .u8 0, .int .u8 0, .int .u8 0, .int .u8 0, .int .u8 0, .int .u8 0, .int .u8 0, .int .u8 0, .int .u8 0, .int .u8 0, .int .u8 0, .int .u8 0, .int .u8 0, .int .u8 0, .int .u8 0, .int .u8 0, .int .u8 0, .int .u8 0, .int .u8 0, .int .u8 0, .int .u8 0, .int .u8 0, .int .u8 0, .int .u8 0, .int .i64 0, .int .i64 0] (rowF 38 g).zipIdx 0 38 = rowF 38 g := by kernel_rfl
set_option maxRecDepth 100000 in
set_option maxHeartbeats 16000000 in
theorem aleast_any (ms : List Mb) (l : List Ak) (f s : Int) (mv lv : Value) (w : World) (hm : MbS w mv ms) (hl : AkS w lv l) (hwf : ∀ a ∈ l, a.wf) (hn : l.length ≤ 1000) (hmn : ms.length ≤ 1000) (hT : Tab w) :
    Calls Tryd.prog 19 #[mv, .int .i64 f, .int .i64 s, lv] w fun e w' => e = .returned (.int .i64 (leastM ms f s l)) ∧ Below w.heap.size w w' := by
  have hmm := fun W => run_makeMap_plain (w := W) (P := Tryd.prog) 87
  obtain ⟨ma, mc, rfl⟩ := hm.slice
  obtain ⟨la, lc, rfl⟩ := hl.slice
  have HM := Lib.hid hm
  have HL := Lib.hid hl
  have HW := Lib.hid hwf
  have HT := Lib.hid hT
  obtain ⟨n, hln⟩ : ∃ y, l.length = y := ⟨_, rfl⟩
  obtain ⟨q, hlm⟩ : ∃ y, ms.length = y := ⟨_, rfl⟩
  have HN := Lib.hid hln
  have HQ := Lib.hid hlm
  have qn : (n : Int) ≤ 1000 := by omega
  have qq : (q : Int) ≤ 1000 := by omega
  rw [hln, hlm]
  clear hm hl hwf hn hmn hT hln hlm
  go_enter Tryd.func19, Tryd.ntmps19
  have B0 := Lib.hid (Below.refl w.heap.size w)
  go_upto_region 2 with fail
  obtain ⟨w1, hw1⟩ : ∃ y, w.alloc (.map #[] 0) = y := ⟨_, rfl⟩
  have b1 : Below w.heap.size w w1 := by rw [← hw1]; exact (Below.refl _ _).alloc (Nat.le_refl _) _
  have I1 : Hid (GInv w1 (w.heap.size + 1) w.heap.size [] (fun _ => [])) := Lib.hid (by rw [← hw1]; exact GInv.start w)
  have z1 : w.heap.size + 1 = w1.heap.size := by rw [← hw1]; exact (Array.size_push _).symm
  rw [hw1]
  (try rw [z1])
  have B1 := Lib.hid (B0.out.trans (b1.mono B0.out.size))
  clear b1 hw1 z1 B0
  clear hmm
  go_wp2_with fail
  go_loopg [20] n (fun g s20 wx => ∃ (k : Nat) (m : List (Int × Value)) (G : Int → List Ak), k + g = n ∧ s20 = .int .i64 (k : Int) ∧ Hid (GInv wx (w.heap.size + 1) w.heap.size m G) ∧ Hid (G = fun d => ofDev d ((l.take k).filter (selA f s))) ∧ Hid (Below w.heap.size w wx))
  case atStart => exact ⟨0, [], _, by omega, rfl, I1, Lib.hid rfl, B1⟩
  case round =>
    clear I1 B1
    obtain ⟨k, m, G, hk, rfl, hI, hG, hB⟩ := hrel
    obtain ⟨w2, rfl⟩ : ∃ y, y = wr := ⟨_, rfl⟩
    have q0 : (0 : Int) ≤ (k : Int) := Int.natCast_nonneg k
    by_cases hlt : k < n
    · have d0 : decide ((k : Int) < (n : Int)) = true := by rw [decide_eq_true_iff]; omega
      have d1 : decide (k < n) = true := by rw [decide_eq_true_iff]; omega
      obtain ⟨b, off, rfl, hcap, hb, hc⟩ := SlAt.at_elem (s := 38) (n := n) (a := la) (k := lc) (c := fun i => akC (l.getD i ak0)) (by have h := HL.out.below hB.out; rw [HN.out] at h; exact h) hlt
      have HC := Lib.hid hc
      have WA := Lib.hid (HW.out _ (getD_mem ak0 (show k < l.length by rw [HN.out]; exact hlt)))
      have TK := Lib.hid (take_succ_getD ak0 l (show k < l.length by rw [HN.out]; exact hlt))
      have HLT := Lib.hid hlt
      have HCK := Lib.hid (fun j hj => HC.out k HLT.out j hj)
      obtain ⟨a, ha⟩ : ∃ y, l.getD k ak0 = y := ⟨_, rfl⟩
      rw [ha] at WA TK HCK
      have XO := Lib.hid (fun (k : Nat) (hk : (gv m a.d).ownBlock = some k) => (show k ≠ w2.heap.size ∧ k ≠ w.heap.size from by have := hI.out.block a.d k hk; omega))
      have GL : Hid ((G a.d).length ≤ 1000000) := Lib.hid (by
        rw [hG.out]
        have h1 := List.length_filter_le (fun (x : Ak) => decide (x.d = a.d)) ((l.take k).filter (selA f s))
        have h2 := List.length_filter_le (selA f s) (l.take k)
        have h3 := List.length_take_le k l
        show (ofDev a.d ((l.take k).filter (selA f s))).length ≤ 1000000
        unfold ofDev; omega)
      have p1 : (k : Int) < (n : Int) := by omega
      clear hc hcap hb ha hlt HC
      go_upto_region 4 with fail
      go_wp2_with (first | ((with_reducible (show wpList _ _ _ (Oper.mk (some 23) _ _ _ _ _ :: _) _ _)); refine Hid.out ?_))
      refine Lib.hid ?_
      refine wpList_load_elem rfl 27 (.tmp 22) rfl b (off + k * 38) rfl 38 off k (by rw [Nat.mul_comm]) (akC a) HCK.out _ Tryd.underlying27 rfl (by kernel_rfl) ?_
      have B2 := hB
      have I2 := hI
      clear hB hI HCK
      have Zr := Lib.hid (RowV.new w2 27 38 (akC ak0))
      go_upto_region 5 with ((with_reducible (show wpList _ _ _ (Oper.mk none _ _ _ _ _ :: _) _ _)); refine wpList_store_rowV (o := ⟨none, .store 27 (.tmp 11) (.tmp 23), _, _, _, _⟩) rfl 27 (.tmp 11) (.tmp 23) rfl w2.heap.size rfl 38 27 _ (akC a) rfl Zr.out (by kernel_rfl) (fun j _ => akC_one a j) ?_; intro w3 X3 o3)
      have b3 : Below w2.heap.size w2 w3 := ((Below.refl _ _).alloc (Nat.le_refl _) _).trans (o3.out.below (Nat.le_refl _) (by rw [World.size_alloc]; omega))
      have B3 := Lib.hid (B2.out.trans (b3.mono B2.out.size))
      have I3 := Lib.hid (I2.out.below b3)
      clear b3 o3 Zr B2 I2
      have x0 : w3.cell? ⟨w2.heap.size, 0, none⟩ = some (Value.int .i64 a.f) := ak_cell X3.out (i := 0) (by decide) (by decide)
      have x2 : w3.cell? ⟨w2.heap.size, 2, none⟩ = some (Value.int .i64 a.s) := ak_cell X3.out (i := 2) (by decide) (by decide)
      have b9 : (k : Int) + 1 ≤ 1000 := by have := HLT.out; omega
      by_cases hf : a.f = f
      · have e0 : (a.f == f) = true := by rw [beq_iff_eq]; exact hf
        by_cases hs : a.s = s
        · have e1 : (a.s == s) = true := by rw [beq_iff_eq]; exact hs
          have SE : Hid (selA f s a = true) := Lib.hid (by unfold selA; simp [hf, hs])
          clear hf hs
          go_upto_region 6 with fail
          clear x0 x2 e0 e1
          refine Tc.wp_region_plan (Tc.Rl.stay (fun k => k = w2.heap.size ∨ k = w.heap.size)) 10 [] (Tc.flAll [0, 1, 2, 3, 4, 5, 6, 7] (.one 8 (.one 9 .done))) (by kernel_rfl) (by kernel_rfl) ?_
          intro w4 b4 e4
          have I4 := Lib.hid (I3.out.below b4)
          have X4 := Lib.hid (X3.out.below b4)
          have B4 := Lib.hid (B3.out.trans (b4.mono B3.out.size))
          clear b4 e4 I3 X3 B3
          refine Tc.plan_floats [0, 1, 2, 3, 4, 5, 6, 7] [_, _, _, _, _, _, _, _] rfl ?_
          dsimp only [List.getElem_toArray, List.getElem_cons_succ, List.getElem_cons_zero]
          repeat (go_big_quiet_want; go_big_quiet_op; first | go_big_quiet_on | (refine ⟨_, fun _ _ => rfl, ?_⟩; go_big_quiet_on))
          refine wpQuiet_load_cell rfl 3 (.tmp 35) rfl w2.heap.size 1 rfl _ Tryd.underlying3 rfl (.int .i64 a.d) (fun W hW => ak_cell (stay_row (S := fun k => k = w2.heap.size ∨ k = w.heap.size) X4.out (.inl rfl) hW) (i := 1) (by decide) (by decide)) ?_
          simp only [Act.put, List.setIfInBounds_toArray, List.set_cons_succ, List.set_cons_zero]
          repeat (go_big_quiet_want; go_big_quiet_op; first | go_big_quiet_on | (refine ⟨_, fun _ _ => rfl, ?_⟩; go_big_quiet_on))
          refine wpQuiet_load_cell rfl 3 (.tmp 38) rfl w2.heap.size 1 rfl _ Tryd.underlying3 rfl (.int .i64 a.d) (fun W hW => ak_cell (stay_row (S := fun k => k = w2.heap.size ∨ k = w.heap.size) X4.out (.inl rfl) hW) (i := 1) (by decide) (by decide)) ?_
          simp only [Act.put, List.setIfInBounds_toArray, List.set_cons_succ, List.set_cons_zero]
          repeat (go_big_quiet_want; go_big_quiet_op; first | go_big_quiet_on | (refine ⟨_, fun _ _ => rfl, ?_⟩; go_big_quiet_on))
          refine IM.wpQuiet_lookup rfl 87 3 38 (.tmp 37) (.tmp 39) false rfl a.d rfl rfl (fun W hW => I4.out.at'.of_block (hW _ (.inr rfl))) Tryd.underlying87 Tryd.underlying3 zero_acks ?_
          rw [show (if false = true then Value.tuple #[(IM.get m a.d).getD (.slice none 0 0), .bool (IM.get m a.d).isSome] else (IM.get m a.d).getD (.slice none 0 0)) = gv m a.d from rfl]
          simp only [Act.put, List.setIfInBounds_toArray, List.set_cons_succ, List.set_cons_zero]
          repeat (go_big_quiet_want; go_big_quiet_op; first | go_big_quiet_on | (refine ⟨_, fun _ _ => rfl, ?_⟩; go_big_quiet_on))
          refine wpQuiet_load_part rfl 27 (.tmp 11) rfl w2.heap.size 0 rfl 38 38 27 (akC a) (akC a) (fun W hW => stay_row (S := fun k => k = w2.heap.size ∨ k = w.heap.size) X4.out (.inl rfl) hW) (by decide) (fun j _ => by rw [Nat.zero_add]) _ Tryd.underlying27 rfl (by kernel_rfl) ?_
          simp only [Act.put, List.setIfInBounds_toArray, List.set_cons_succ, List.set_cons_zero]
          refine wpQuiet_nil ?_
          refine Tc.plan_one 8 rfl (fun K hK => ?_)
          have hsz : (rowF 38 (akC a)).size = 38 := rowF_size _ _
          go_wp2_with fail
          rw [fold_ack]
          have al := (Below.refl _ w4).alloc (Nat.le_refl _) (.cells (rowF 38 (akC a)) 27)
          have I5 := Lib.hid (I4.out.below al)
          have Y5 := Lib.hid (RowV.new w4 27 38 (akC a))
          have B5 := Lib.hid (B4.out.trans (al.mono B4.out.size))
          refine hK _ _ (stay_below al (fun k hk => by rcases hk with rfl | rfl; exact X4.out.lt; exact I4.out.at'.lt)) ?_
          obtain ⟨w5, hw5⟩ : ∃ y, w4.alloc (.cells (rowF 38 (akC a)) 27) = y := ⟨_, rfl⟩
          rw [hw5] at I5 Y5 B5 ⊢
          have XL := Lib.hid (show w2.heap.size < w5.heap.size from by rw [← hw5, World.size_alloc]; have := X4.out.lt; omega)
          clear hK K al hw5 I4 X4 B4
          refine Tc.plan_one 9 rfl (fun K hK => ?_)
          refine wpList_app_ack rfl (.tmp 40) (.tmp 42) rfl (w.heap.size + 1) (gv m a.d) (G a.d) rfl (I5.out.own a.d) w4.heap.size 1 a rfl Y5.out GL.out I5.out.size ?_
          intro v6 w6 L6 s6
          go_wp2_with fail
          refine hK _ _ (stay_app s6.out (fun k hk => ⟨by rcases hk with rfl | rfl; exact XL.out; exact I5.out.at'.lt, fun e => by have := XO.out _ e; rcases hk with rfl | rfl; exact this.1 rfl; exact this.2 rfl⟩)) ?_
          have B6 := Lib.hid (B5.out.trans (((Below.refl (w.heap.size + 1) w5).grown s6.out.1 I5.out.size (fun k hk => (World.ownsRow.lt (I5.out.own a.d) k hk).1)).mono (by omega)))
          have A6 := Lib.hid (I5.out.at'.of_block (s6.out.block I5.out.at'.lt (fun e => (XO.out _ e).2 rfl)))
          clear hK K Y5 XL XO
          refine Tc.plan_done (l := [_]) rfl (fun K hK => ?_)
          refine IM.wpList_update rfl 87 3 38 (.tmp 34) (.tmp 36) (.tmp 43) rfl a.d v6 rfl rfl rfl A6.out Tryd.underlying87 Tryd.underlying3 ?_
          intro w7 A7 O7
          have I7 := Lib.hid (GInv.put I5.out s6.out L6.out A7.out O7.out)
          have B7 := Lib.hid (B6.out.trans (O7.out.below (Nat.le_refl _) B6.out.size))
          have GE : Hid ((fun j => if j = a.d then G a.d ++ [a] else G j) = fun d => ofDev d ((l.take (k + 1)).filter (selA f s))) := Lib.hid (by
            funext d
            rw [TK.out, sel_snoc, SE.out, if_pos rfl, ofDev_snoc, hG.out]
            by_cases hd : d = a.d
            · subst hd; simp only [if_true]
            · rw [if_neg hd, if_neg (fun e => hd e.symm)])
          clear A7 O7 B6 s6 L6 I5 B5 A6
          go_wp2_with fail
          go_roundg (gk - 1)
          case measure => have := HLT.out; omega
          case rel =>
            go_light
            exact ⟨k + 1, _, _, by have := HLT.out; omega, by go_num, I7, GE, B7⟩
        · have e1 : (a.s == s) = false := by rw [beq_eq_false_iff_ne]; exact hs
          have SE : Hid (selA f s a = false) := Lib.hid (by unfold selA; simp [hs])
          clear hf hs
          go_wp2_with fail
          go_roundg (gk - 1)
          case measure => have := HLT.out; omega
          case rel =>
            go_light
            exact ⟨k + 1, m, G, by have := HLT.out; omega, by go_num, I3, Lib.hid (by rw [hG.out, TK.out, sel_snoc, SE.out]; rfl), B3⟩
      · have e0 : (a.f == f) = false := by rw [beq_eq_false_iff_ne]; exact hf
        have SE : Hid (selA f s a = false) := Lib.hid (by unfold selA; simp [hf])
        clear hf
        go_wp2_with fail
        go_roundg (gk - 1)
        case measure => have := HLT.out; omega
        case rel =>
          go_light
          exact ⟨k + 1, m, G, by have := HLT.out; omega, by go_num, I3, Lib.hid (by rw [hG.out, TK.out, sel_snoc, SE.out]; rfl), B3⟩
    · have d0 : decide ((k : Int) < (n : Int)) = false := by rw [decide_eq_false_iff_not]; omega
      have d1 : decide (k < n) = false := by rw [decide_eq_false_iff_not]; omega
      have GE : Hid (G = fun d => ofDev d (l.filter (selA f s))) := Lib.hid (by rw [hG.out, List.take_of_length_le (by rw [HN.out]; omega)])
      have I2 := hI
      have B2 := hB
      clear hI hB hG hlt hk
      go_upto_region 8 with fail
      clear d0 d1
      go_wp2_with fail
      go_loopg [47, 8] q (fun g s47 s8 wx => ∃ (i : Nat) (v : Int), i + g = q ∧ s47 = .int .i64 (i : Int) ∧ s8 = .int .i64 v ∧ Hid (leastGo f s l (ms.drop i) i v = leastM ms f s l) ∧ Hid (Below w.heap.size w wx) ∧ Hid (GInv wx (w.heap.size + 1) w.heap.size m G))
      case atStart => exact ⟨0, 0, by omega, rfl, rfl, Lib.hid rfl, B2, I2⟩
      case round =>
        clear I2 B2
        obtain ⟨i, v, hi, rfl, rfl, hL, B3, I3⟩ := hrel
        obtain ⟨w3, rfl⟩ : ∃ y, y = wr := ⟨_, rfl⟩
        obtain ⟨go, rfl⟩ : ∃ y, y = gk := ⟨_, rfl⟩
        have q1 : (0 : Int) ≤ (i : Int) := Int.natCast_nonneg i
        by_cases hlt : i < q
        · have HLT := Lib.hid hlt
          have d0 : decide ((i : Int) < (q : Int)) = true := by rw [decide_eq_true_iff]; omega
          have d1 : decide (i < q) = true := by rw [decide_eq_true_iff]; omega
          have p1 : (i : Int) < (q : Int) := by omega
          obtain ⟨b, off, rfl, hcap, hb, hc⟩ := SlAt.at_elem (s := 3) (n := q) (a := ma) (k := mc) (c := fun i => mbC (ms.getD i mb0)) (by have h := HM.out.below B3.out; unfold MbS at h; rw [HQ.out] at h; exact h) hlt
          have DK := Lib.hid (drop_succ_getD mb0 ms (show i < ms.length by rw [HQ.out]; exact hlt))
          have HCK := Lib.hid (fun j hj => hc i hlt j hj)
          obtain ⟨mb, ha⟩ : ∃ y, ms.getD i mb0 = y := ⟨_, rfl⟩
          rw [ha] at DK HCK
          have hL2 : Hid (leastGo f s l (ms.drop (i + 1)) (i + 1) (leastStep f s l v i mb) = leastM ms f s l) := by have := hL.out; rw [DK.out] at this; exact this
          clear hc hcap hb ha hlt hL DK
          go_upto_region 10 with fail
          go_wp2_with (first | ((with_reducible (show wpList _ _ _ (Oper.mk (some 51) _ _ _ _ _ :: _) _ _)); refine Hid.out ?_))
          refine Lib.hid ?_
          refine wpList_load_elem rfl 47 (.tmp 50) rfl b (off + i * 3) rfl 3 off i (by rw [Nat.mul_comm]) (mbC mb) HCK.out _ Tryd.underlying47 rfl (by kernel_rfl) ?_
          clear HCK
          have Zr := Lib.hid (RowV.new w3 47 3 (mbC mb0))
          go_upto_region 11 with ((with_reducible (show wpList _ _ _ (Oper.mk none _ _ _ _ _ :: _) _ _)); refine wpList_store_rowV (o := ⟨none, .store 47 (.tmp 13) (.tmp 51), _, _, _, _⟩) rfl 47 (.tmp 13) (.tmp 51) rfl w3.heap.size rfl 3 47 _ (mbC mb) rfl Zr.out (by kernel_rfl) (fun j _ => mbC_one mb j) ?_; intro w4 M4 o4)
          have b4 : Below w3.heap.size w3 w4 := ((Below.refl _ _).alloc (Nat.le_refl _) _).trans (o4.out.below (Nat.le_refl _) (by rw [World.size_alloc]; omega))
          have B4 := Lib.hid (B3.out.trans (b4.mono B3.out.size))
          have I4 := Lib.hid (I3.out.below b4)
          clear b4 o4 Zr B3 I3
          have x0 : w4.cell? ⟨w3.heap.size, 0, none⟩ = some (Value.int .i64 mb.dev) := M4.out.cell (i := 0) (by decide)
          obtain ⟨ga, gc, hg⟩ := (I4.out.own mb.dev).slice
          have SA := (I4.out.own mb.dev).at'
          rw [hg] at SA
          have LE : Hid (G mb.dev = ofDev mb.dev (l.filter (selA f s))) := Lib.hid (by rw [GE.out])
          obtain ⟨L, hLL⟩ : ∃ y, G mb.dev = y := ⟨_, rfl⟩
          rw [hLL] at hg SA LE
          obtain ⟨nn, hnn⟩ : ∃ y, L.length = y := ⟨_, rfl⟩
          have LN := Lib.hid hnn
          have LW : Hid (∀ a, a ∈ L → a.wf) := Lib.hid (fun a ha => by rw [LE.out] at ha; exact HW.out a (mem_ofDev.1 ha).1)
          have LB : (nn : Int) ≤ 1000 := by
            rw [← hnn, LE.out]
            have h1 := List.length_filter_le (fun (x : Ak) => decide (x.d = mb.dev)) (l.filter (selA f s))
            have h2 := List.length_filter_le (selA f s) l
            have h3 := HN.out
            unfold ofDev; omega
          rw [hnn] at hg SA
          have A4 := Lib.hid (SA (by omega))
          have HG := Lib.hid hg
          clear hg SA hnn hLL
          go_upto_region 12 with fail
          go_wp2_with (first | ((with_reducible (show wpList _ _ _ (Oper.mk (some 55) _ _ _ _ _ :: _) _ _)); refine Hid.out ?_))
          refine Lib.hid ?_
          refine IM.wpList_lookup rfl 87 3 38 (.tmp 52) (.tmp 54) false rfl mb.dev rfl rfl I4.out.at' Tryd.underlying87 Tryd.underlying3 zero_acks ?_
          rw [show (if false = true then Value.tuple #[(IM.get m mb.dev).getD (.slice none 0 0), .bool (IM.get m mb.dev).isSome] else (IM.get m mb.dev).getD (.slice none 0 0)) = gv m mb.dev from rfl, HG.out]
          clear x0
          go_wp2_with fail
          go_loopg [57, 14] nn (fun g s57 s14 wx => ∃ (j : Nat) (v2 : Int), j + g = nn ∧ s57 = .int .i64 (j : Int) ∧ s14 = .int .i64 v2 ∧ Hid ((L.drop j).foldl (stepU mb) v2 = uptoM f s l mb) ∧ Hid (Below w.heap.size w wx) ∧ Hid (GInv wx (w.heap.size + 1) w.heap.size m G) ∧ Hid (SlAt 38 wx (.slice ga nn gc) nn (fun i => akC (L.getD i ak0))) ∧ Hid (RowV wx w3.heap.size 47 3 (mbC mb)))
          case atStart => exact ⟨0, 0, by omega, rfl, rfl, Lib.hid (by unfold uptoM; rw [← LE.out]; rfl), B4, I4, A4, M4⟩
          case round =>
            clear B4 I4 A4 M4
            obtain ⟨j, v2, hj, rfl, rfl, hF, B5, I5, A5, M5⟩ := hrel
            obtain ⟨w5, rfl⟩ : ∃ y, y = wr := ⟨_, rfl⟩
            have q2 : (0 : Int) ≤ (j : Int) := Int.natCast_nonneg j
            by_cases hlt : j < nn
            · have HLT2 := Lib.hid hlt
              have d2 : decide ((j : Int) < (nn : Int)) = true := by rw [decide_eq_true_iff]; omega
              have d3 : decide (j < nn) = true := by rw [decide_eq_true_iff]; omega
              have p2 : (j : Int) < (nn : Int) := by omega
              obtain ⟨b, off, rfl, hcap, hb, hc⟩ := SlAt.at_elem (s := 38) (n := nn) (a := ga) (k := gc) (c := fun i => akC (L.getD i ak0)) A5.out hlt
              have WA := Lib.hid (LW.out _ (getD_mem ak0 (show j < L.length by rw [LN.out]; exact hlt)))
              have DK := Lib.hid (drop_succ_getD ak0 L (show j < L.length by rw [LN.out]; exact hlt))
              have HCK := Lib.hid (fun i hi => hc j hlt i hi)
              obtain ⟨a, ha⟩ : ∃ y, L.getD j ak0 = y := ⟨_, rfl⟩
              rw [ha] at WA DK HCK
              have hF2 : Hid ((L.drop (j + 1)).foldl (stepU mb) (stepU mb v2 a) = uptoM f s l mb) := by have := hF.out; rw [DK.out] at this; exact this
              clear hc hcap hb ha hlt hF DK
              go_upto_region 14 with fail
              go_wp2_with (first | ((with_reducible (show wpList _ _ _ (Oper.mk (some 60) _ _ _ _ _ :: _) _ _)); refine Hid.out ?_))
              refine Lib.hid ?_
              refine wpList_load_elem rfl 27 (.tmp 59) rfl b (off + j * 38) rfl 38 off j (by rw [Nat.mul_comm]) (akC a) HCK.out _ Tryd.underlying27 rfl (by kernel_rfl) ?_
              clear HCK
              have Zr := Lib.hid (RowV.new w5 27 38 (akC ak0))
              go_upto_region 15 with ((with_reducible (show wpList _ _ _ (Oper.mk none _ _ _ _ _ :: _) _ _)); refine wpList_store_rowV (o := ⟨none, .store 27 (.tmp 16) (.tmp 60), _, _, _, _⟩) rfl 27 (.tmp 16) (.tmp 60) rfl w5.heap.size rfl 38 27 _ (akC a) rfl Zr.out (by kernel_rfl) (fun j _ => akC_one a j) ?_; intro w6 X6 o6)
              have b6 : Below w5.heap.size w5 w6 := ((Below.refl _ _).alloc (Nat.le_refl _) _).trans (o6.out.below (Nat.le_refl _) (by rw [World.size_alloc]; omega))
              have B6 := Lib.hid (B5.out.trans (b6.mono B5.out.size))
              have I6 := Lib.hid (I5.out.below b6)
              have A6 := Lib.hid (A5.out.below b6)
              have M6 := Lib.hid (M5.out.below b6)
              clear b6 o6 Zr B5 I5 A5 M5
              have x3 : w6.cell? ⟨w5.heap.size, 3, none⟩ = some (Value.int .i64 a.u) := ak_cell X6.out (i := 3) (by decide) (by decide)
              have x2 : w6.cell? ⟨w3.heap.size, 2, none⟩ = some (Value.int .i64 mb.ver) := M6.out.cell (i := 2) (by decide)
              by_cases hu : v2 < a.u
              · have e0 : decide (v2 < a.u) = true := by rw [decide_eq_true_iff]; exact hu
                have HU := Lib.hid hu
                clear hu
                go_wp2_with (first | ((with_reducible (show wpList _ _ _ (Oper.mk (some 66) _ _ _ _ _ :: _) _ _)); refine wpList_unguard rfl ?_; refine wpList_load_rowV rfl 27 (.tmp 16) rfl w5.heap.size rfl 38 27 _ X6.out _ Tryd.underlying27 rfl (by kernel_rfl) ?_))
                refine (acheck_any a WA.out mb.ver _ (HT.out.below B6.out)).mono ?_
                rintro e w7 ⟨rfl, b7⟩
                have B7 := Lib.hid (B6.out.trans (b7.mono B6.out.size))
                have I7 := Lib.hid (I6.out.below b7)
                have A7 := Lib.hid (A6.out.below b7)
                have M7 := Lib.hid (M6.out.below b7)
                have X7 := Lib.hid (X6.out.below b7)
                clear b7 B6 I6 A6 M6 X6
                have x4 : w7.cell? ⟨w5.heap.size, 3, none⟩ = some (Value.int .i64 a.u) := ak_cell X7.out (i := 3) (by decide) (by decide)
                obtain ⟨c, hc⟩ : ∃ y, ckA a mb.ver = y := ⟨_, rfl⟩
                rw [hc]
                have HC := Lib.hid hc
                clear hc
                by_cases h0 : c = 0
                · have e1 : (c == 0) = true := by rw [beq_iff_eq]; exact h0
                  have SU : Hid (stepU mb v2 a = a.u) := Lib.hid (by unfold stepU; rw [if_pos ⟨HU.out, by rw [HC.out]; exact h0⟩])
                  clear h0
                  go_wp2_with fail
                  go_roundg (gk - 1)
                  case measure => have := HLT2.out; omega
                  case rel =>
                    go_light
                    exact ⟨j + 1, a.u, by have := HLT2.out; omega, by go_num, rfl, by rw [SU.out] at hF2; exact hF2, B7, I7, A7, M7⟩
                · have e1 : (c == 0) = false := by rw [beq_eq_false_iff_ne]; exact h0
                  have SU : Hid (stepU mb v2 a = v2) := Lib.hid (by unfold stepU; rw [if_neg (fun h => h0 (HC.out.symm.trans h.2))])
                  clear h0
                  go_wp2_with fail
                  go_roundg (gk - 1)
                  case measure => have := HLT2.out; omega
                  case rel =>
                    go_light
                    exact ⟨j + 1, v2, by have := HLT2.out; omega, by go_num, rfl, by rw [SU.out] at hF2; exact hF2, B7, I7, A7, M7⟩
              · have e0 : decide (v2 < a.u) = false := by rw [decide_eq_false_iff_not]; exact hu
                have SU : Hid (stepU mb v2 a = v2) := Lib.hid (by unfold stepU; rw [if_neg (fun h => hu h.1)])
                clear hu
                go_wp2_with fail
                go_roundg (gk - 1)
                case measure => have := HLT2.out; omega
                case rel =>
                  go_light
                  exact ⟨j + 1, v2, by have := HLT2.out; omega, by go_num, rfl, by rw [SU.out] at hF2; exact hF2, B6, I6, A6, M6⟩
            · have d2 : decide ((j : Int) < (nn : Int)) = false := by rw [decide_eq_false_iff_not]; omega
              have d3 : decide (j < nn) = false := by rw [decide_eq_false_iff_not]; omega
              have UP : Hid (v2 = uptoM f s l mb) := Lib.hid (by have := hF.out; rw [List.drop_eq_nil_of_le (by rw [LN.out]; omega)] at this; exact this)
              clear hlt hF hj
              have LST : Hid (leastStep f s l v i mb = if i = 0 ∨ v2 < v then v2 else v) := Lib.hid (by unfold leastStep; rw [UP.out])
              have q3 : ((i : Int) == 0) = decide (i = 0) := by
                by_cases h : i = 0
                · subst h; rfl
                · rw [decide_eq_false h, beq_eq_false_iff_ne]; omega
              by_cases hi0 : i = 0
              · have e0 : decide (i = 0) = true := by rw [decide_eq_true_iff]; exact hi0
                have SU : Hid (leastStep f s l v i mb = v2) := Lib.hid (by rw [LST.out, if_pos (.inl hi0)])
                clear hi0 LST
                go_wp2_with fail
                go_roundg (go - 1)
                case measure => have := HLT.out; omega
                case rel =>
                  go_light
                  exact ⟨i + 1, v2, by have := HLT.out; omega, by go_num, rfl, by rw [SU.out] at hL2; exact hL2, B5, I5⟩
              · have e0 : decide (i = 0) = false := by rw [decide_eq_false_iff_not]; exact hi0
                by_cases hv : v2 < v
                · have e1 : decide (v2 < v) = true := by rw [decide_eq_true_iff]; exact hv
                  have SU : Hid (leastStep f s l v i mb = v2) := Lib.hid (by rw [LST.out, if_pos (.inr hv)])
                  clear hi0 LST hv
                  go_wp2_with fail
                  go_roundg (go - 1)
                  case measure => have := HLT.out; omega
                  case rel =>
                    go_light
                    exact ⟨i + 1, v2, by have := HLT.out; omega, by go_num, rfl, by rw [SU.out] at hL2; exact hL2, B5, I5⟩
                · have e1 : decide (v2 < v) = false := by rw [decide_eq_false_iff_not]; exact hv
                  have SU : Hid (leastStep f s l v i mb = v) := Lib.hid (by rw [LST.out, if_neg (fun h => h.elim hi0 hv)])
                  clear hi0 LST hv
                  go_wp2_with fail
                  go_roundg (go - 1)
                  case measure => have := HLT.out; omega
                  case rel =>
                    go_light
                    exact ⟨i + 1, v, by have := HLT.out; omega, by go_num, rfl, by rw [SU.out] at hL2; exact hL2, B5, I5⟩
        · have d0 : decide ((i : Int) < (q : Int)) = false := by rw [decide_eq_false_iff_not]; omega
          have d1 : decide (i < q) = false := by rw [decide_eq_false_iff_not]; omega
          have RS : Hid (v = leastM ms f s l) := Lib.hid (by have := hL.out; rw [List.drop_eq_nil_of_le (by rw [HQ.out]; omega)] at this; exact this)
          clear hlt hL hi
          go_wp2_with fail
          go_ret
          exact ⟨by rw [RS.out]; rfl, B3.out⟩
end Go.Proofs.YtbjbgneejdjniaaDoor

namespace Go.Proofs.YtbjbgneejdjniaaDoor
open Go.RowKit Cod
theorem ak_same (a : Ak) (r g : Int) : msgA ⟨a.f, a.d, a.s, a.u, a.ch, r, g⟩ = msgA a := rfl
theorem okA_same (a : Ak) (r g : Int) : okA ⟨a.f, a.d, a.s, a.u, a.ch, r, g⟩ = okA a := rfl
theorem mkV_ok {f d s u : Int} {ch : List UInt8} {x : Int} (h : mkE f d s u ch x = 0) : mkV f d s u ch x = mkA f d s u ch x ∧ okA (mkA f d s u ch x) = true ∧ privB x = true := by
  refine ⟨by unfold mkV; rw [if_pos h], ?_⟩
  unfold mkE at h
  cases h1 : okA ⟨f, d, s, u, ch, 0, 0⟩ with
  | false => rw [h1] at h; simp at h
  | true =>
    rw [h1, if_pos rfl] at h
    refine ⟨h1, ?_⟩
    unfold pubE at h
    cases h2 : privB x with
    | false => rw [h2] at h; simp at h
    | true => rfl
/-- what is made is accepted -/
theorem make_ck {f d s u : Int} {ch : List UInt8} {x : Int} (h : mkE f d s u ch x = 0) : ckA (mkV f d s u ch x) (pubV x) = 0 := by
  obtain ⟨h1, h2, h3⟩ := mkV_ok h
  rw [h1]
  unfold ckA
  rw [if_pos h2]
  have h4 : verB (pubV x) (msgA (mkA f d s u ch x)) (mkA f d s u ch x).r (mkA f d s u ch x).g = true := by
    show verB (pubV x) (msgA ⟨f, d, s, u, ch, 0, 0⟩) (sgR x _) (sgS x _) = true
    have hv := ver_sign x.toNat (msgA ⟨f, d, s, u, ch, 0, 0⟩)
    unfold sgR sgS pubV
    rw [h3, if_pos rfl, if_pos rfl, if_pos rfl]
    have hp : gexpV 4 x = ((pubM x.toNat : Nat) : Int) := by
      obtain ⟨n, rfl, g1, g2⟩ := priv_nat h3
      rw [gexpV4 g2]; rfl
    rw [hp]; exact hv
  rw [h4, if_pos rfl]
theorem mkV_wf {f d s u : Int} {ch : List UInt8} {x : Int} (hf : i64B f) (hd : i64B d) (hs : i64B s) (hu : i64B u) (hc : ch.length = 32) : (mkV f d s u ch x).wf := by
  unfold mkV
  split
  · refine ⟨hf, hd, hs, hu, hc, ?_, ?_⟩
    · show i64B (sgR x _)
      unfold sgR
      split
      · have := (pow4_El (nonceM x.toNat (msgA ⟨f, d, s, u, ch, 0, 0⟩))).2.1
        unfold sigR i64B; omega
      · exact i64B_0
    · show i64B (sgS x _)
      unfold sgS
      split
      · have : sigS x.toNat (msgA ⟨f, d, s, u, ch, 0, 0⟩) < 2305843009213688669 := addQ_lt _ _
        unfold i64B; omega
      · exact i64B_0
  · exact ak0_wf
theorem mkV_f {f d s u : Int} {ch : List UInt8} {x : Int} (h : mkE f d s u ch x = 0) : (mkV f d s u ch x).f = f ∧ (mkV f d s u ch x).d = d ∧ (mkV f d s u ch x).s = s ∧ (mkV f d s u ch x).u = u := by
  rw [(mkV_ok h).1]; exact ⟨rfl, rfl, rfl, rfl⟩
/-- what is encoded is read again -/
theorem adec_enc {a : Ak} (ha : a.wf) (h : okA a = true) : decF (encA a [a.r, a.g]) = some (treeA a [a.r, a.g]) ∧ adecT (treeA a [a.r, a.g]) = a := by
  refine ⟨?_, ?_⟩
  · have hc := chkT_0 (chkT_lst (fldA_form a [a.r, a.g]) (fldA_depth a [a.r, a.g])).1
    refine decF_encV hc.1 hc.2 ?_
    have hl : (ByteArray.mk a.ch.toArray).size = 32 := by show a.ch.toArray.size = 32; rw [List.size_toArray]; exact ha.ch
    have h1 := ha.f; have h2 := ha.d; have h3 := ha.s; have h4 := ha.u; have h5 := ha.r; have h6 := ha.g
    unfold i64B at h1 h2 h3 h4 h5 h6
    simp only [treeA, lstT, fldA, numT, txtT, List.map_cons, List.map_nil, List.cons_append, List.nil_append, bdV, bdL, hl]
    refine ⟨by decide, by decide, by simp, ⟨h1, by decide, by decide, trivial⟩, ⟨h2, by decide, by decide, trivial⟩, ⟨h3, by decide, by decide, trivial⟩, ⟨h4, by decide, by decide, trivial⟩, ⟨by decide, by decide, by decide, trivial⟩, ⟨h5, by decide, by decide, trivial⟩, ⟨h6, by decide, by decide, trivial⟩, trivial⟩
  · have hc := chP_same ha.ch
    show (⟨a.f, a.d, a.s, a.u, chP (ByteArray.mk a.ch.toArray).data.toList, a.r, a.g⟩ : Ak) = a
    rw [show (ByteArray.mk a.ch.toArray).data.toList = a.ch from rfl, hc]
theorem adecE_enc {a : Ak} (ha : a.wf) (h : okA a = true) : adecE (encA a [a.r, a.g]) = 0 := by
  obtain ⟨h1, h2⟩ := adec_enc ha h
  unfold adecE
  rw [h1]
  dsimp only
  rw [h2, if_pos ⟨rfl, h, rfl⟩]
theorem adecV_enc {a : Ak} (ha : a.wf) (h : okA a = true) : adecV (encA a [a.r, a.g]) = a := by
  unfold adecV
  rw [if_pos (adecE_enc ha h), (adec_enc ha h).1]
  exact (adec_enc ha h).2
theorem adecE_ok {l : List UInt8} (h : adecE l = 0) : okA (adecV l) = true ∧ encA (adecV l) [(adecV l).r, (adecV l).g] = l := by
  unfold adecV
  rw [if_pos h]
  unfold adecE at h
  cases hd : decF l with
  | none => rw [hd] at h; simp at h
  | some t =>
    rw [hd] at h
    dsimp only at h ⊢
    by_cases h1 : t.l.length = 7 ∧ okA (adecT t) = true ∧ encA (adecT t) [(adecT t).r, (adecT t).g] = l
    · exact h1.2
    · rw [if_neg h1] at h; simp at h
theorem adecV_bad {l : List UInt8} (h : adecE l ≠ 0) : adecV l = ak0 := by unfold adecV; rw [if_neg h]
/-! the examples -/
def ch5 : List UInt8 := 5 :: List.replicate 31 0
def akE : Ak := mkV 1 2 3 4 ch5 6
def akZ : Ak := mkV 1 2 3 0 z32 6
theorem pub6 : pubE 6 = 0 := by decide
theorem mk1 : mkE 16 0 0 0 z32 5 = 330 := by decide
theorem mk2 : mkE 1 2 3 4 ch5 6 = 0 := by decide
theorem mk3 : mkE 1 2 3 0 z32 6 = 0 := by decide
theorem ck4 : ckA ak0 4 = 222 := by
  unfold ckA
  rw [if_pos (by decide), ver_no _ (fun h => absurd h.2.1 (by unfold chk elemB; simp [ak0])), if_neg (by decide)]
theorem enc7 : adecE (encV (numT 7)) = 330 := by
  have h : decF (encV (numT 7)) = some (numT 7) := decF_encV (leaf_form 7) (by simp [numT, depthN]) (by simp only [numT, bdV, bdL]; exact ⟨by decide, by decide, by decide, trivial⟩)
  unfold adecE
  rw [h]
  rfl
theorem least1 : leastM [] 0 0 [] = 0 := rfl
theorem upto2 : uptoM 1 3 [akE] ⟨2, 0, pubV 6⟩ = 4 := by
  obtain ⟨h1, h2, h3, h4⟩ := mkV_f mk2
  have h5 : ckA akE (pubV 6) = 0 := make_ck mk2
  generalize pubV 6 = pv at h5 ⊢
  have e1 : selA 1 3 akE = true := by unfold selA akE; rw [h1, h3]; rfl
  have e2 : decide (akE.d = 2) = true := by unfold akE; rw [h2]; rfl
  unfold uptoM ofDev
  show (([akE].filter (selA 1 3)).filter fun a => decide (a.d = 2)).foldl (stepU ⟨2, 0, pv⟩) 0 = 4
  rw [List.filter_cons_of_pos e1, List.filter_nil, List.filter_cons_of_pos (p := fun a : Ak => decide (a.d = 2)) e2, List.filter_nil, List.foldl_cons, List.foldl_nil]
  unfold stepU
  rw [show akE.u = 4 from h4]
  exact if_pos ⟨by decide, h5⟩
theorem upto3 : uptoM 1 3 [akE] ⟨3, 0, 4⟩ = 0 := by
  obtain ⟨h1, h2, h3, h4⟩ := mkV_f mk2
  have e1 : selA 1 3 akE = true := by unfold selA akE; rw [h1, h3]; rfl
  have e2 : ¬ decide (akE.d = 3) = true := by unfold akE; rw [h2]; decide
  unfold uptoM ofDev
  show (([akE].filter (selA 1 3)).filter fun a => decide (a.d = 3)).foldl (stepU ⟨3, 0, 4⟩) 0 = 0
  rw [List.filter_cons_of_pos e1, List.filter_nil, List.filter_cons_of_neg (p := fun a : Ak => decide (a.d = 3)) e2, List.filter_nil, List.foldl_nil]
theorem leastGo_nil (f s : Int) (l : List Ak) (i : Nat) (n : Int) : leastGo f s l [] i n = n := rfl
theorem leastGo_one (f s : Int) (l : List Ak) (m : Mb) (i : Nat) (n : Int) : leastGo f s l [m] i n = leastStep f s l n i m := rfl
theorem least2 : leastM [⟨2, 0, pubV 6⟩] 1 3 [akE] = 4 := by
  rw [leastM_cons, leastGo_nil, upto2]
theorem least3 : leastM [⟨2, 0, pubV 6⟩, ⟨3, 0, 4⟩] 1 3 [akE] = 0 := by
  rw [leastM_cons, leastGo_one, upto2]
  unfold leastStep
  rw [upto3, if_pos (.inr (by decide))]
def enG : En := ⟨4, List.replicate 32 0, none, 0, 0, true⟩
theorem wrong1 : wrongL 0 (goneU [enG] 1) = [1] := by decide
end Go.Proofs.YtbjbgneejdjniaaDoor
