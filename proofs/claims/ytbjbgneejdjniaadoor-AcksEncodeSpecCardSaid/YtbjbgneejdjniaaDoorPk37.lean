/- Package acks: list, message. -/
import Derived.Test.YtbjbgneejdjniaaDoorPk35
import Derived.Test.YtbjbgneejdjniaaDoorPk36
set_option linter.unusedVariables false
set_option linter.unusedSimpArgs false
namespace Go.Proofs.YtbjbgneejdjniaaDoor
open Go.RowKit Cod
/-- a list value that is built in block bv: its elements so far; w0: the world in which it began -/
structure LstI (w0 : World) (bv : Nat) (sl : Value) (ts : List Tv) (wx : World) : Prop where
  own : OwnV wx w0.heap.size sl ts
  row : RowV wx bv 51 4 (valC 3 0 ⟨#[]⟩ sl)
  only : OnlyB bv w0 wx
  lt : bv < w0.heap.size
section
variable {w0 wx : World} {bv : Nat} {sl : Value} {ts : List Tv}
theorem LstI.start (w : World) : LstI (w.alloc (.cells (rowF 4 (valC 3 0 ⟨#[]⟩ (.slice none 0 0))) 51)) w.heap.size (.slice none 0 0) [] (w.alloc (.cells (rowF 4 (valC 3 0 ⟨#[]⟩ (.slice none 0 0))) 51)) :=
  ⟨OwnV.nil _ _, RowV.new w _ 4 _, OnlyB.refl _ _, by rw [World.size_alloc]; omega⟩
theorem LstI.later {wy : World} (h : LstI w0 bv sl ts wx) (b : Below wx.heap.size wx wy) : LstI w0 bv sl ts wy :=
  ⟨h.own.keep ⟨b.os, b.tape, b.output, b.size, fun k hk _ => b.block k hk⟩ (fun k _ hk => b.block k hk), h.row.below b, h.only.trans (OnlyB.of_below b), h.lt⟩
theorem LstI.alloc (h : LstI w0 bv sl ts wx) (o : Obj) : LstI w0 bv sl ts (wx.alloc o) := h.later ((Below.refl _ _).alloc (Nat.le_refl _) o)
theorem LstI.cell (h : LstI w0 bv sl ts wx) : wx.cell? ⟨bv, 3, none⟩ = some sl := h.row.cell (i := 3) (by decide)
theorem LstI.frozen (h : LstI w0 bv sl ts wx) : wx.frozen? ⟨bv, 3, none⟩ = false := h.row.frozen 3
theorem LstI.size (h : LstI w0 bv sl ts wx) : w0.heap.size ≤ wx.heap.size := h.only.size
theorem LstI.push {w9 : World} {v9 : Value} {t : Tv} (h : LstI w0 bv sl ts wx) (hO : OwnV w9 w0.heap.size v9 (ts ++ [t])) (s : AppStep wx sl w9 v9) :
    LstI w0 bv v9 (ts ++ [t]) (w9.setCell ⟨bv, 3, none⟩ v9) := by
  have hl : ∀ k, sl.ownBlock = some k → w0.heap.size ≤ k := fun k e => (h.own.lt k e).1
  have o := (OnlyB.refl bv w9).setCell (p := ⟨bv, 3, none⟩) (.inl rfl) v9
  have hr : RowV w9 bv 51 4 (valC 3 0 ⟨#[]⟩ sl) := s.row h.row (fun e => by have := hl bv e; have := h.lt; omega)
  exact ⟨hO.only (rb := bv) o.os o.tape o.output o.size o.block h.lt, V_set hr 3 v9 (by intro i hi; match i, hi with | 0, _ => rfl | 1, _ => rfl | 2, _ => rfl | 3, _ => rfl), (only_app h.only s hl).trans o, h.lt⟩
theorem LstI.value (h : LstI w0 bv sl ts wx) (hn : ts.length ≤ 1000000) : CodAt wx (.agg #[.int .i64 3, .int .i64 0, .string ⟨#[]⟩, sl]) (lstT ts) := by
  obtain ⟨c, h1, h2⟩ := h.own.read (S := fun b => True) (by omega) (fun _ _ => trivial)
  exact .mk 3 0 ByteArray.empty sl ts c ⟨by decide, by decide⟩ ⟨by decide, by decide⟩ (by decide) h1.at' (fun i hi => (h2 i hi).at')
theorem LstI.slice (h : LstI w0 bv sl ts wx) : ∃ (a : Option Addr) (n c : Nat), sl = .slice a n c := by obtain ⟨a, c, e⟩ := h.own.slice; exact ⟨a, _, c, e⟩
/-- behind the append, ahead of the store -/
theorem LstI.mid {w9 : World} {v9 : Value} (h : LstI w0 bv sl ts wx) (s : AppStep wx sl w9 v9) : w9.cell? ⟨bv, 3, none⟩ = some sl ∧ w9.frozen? ⟨bv, 3, none⟩ = false := by
  have hr : RowV w9 bv 51 4 (valC 3 0 ⟨#[]⟩ sl) := s.row h.row (fun e => by have := (h.own.lt bv e).1; have := h.lt; omega)
  exact ⟨hr.cell (i := 3) (by decide), hr.frozen 3⟩
theorem OwnV.slice3 {w : World} {base : Nat} {v : Value} {ts : List Tv} (h : OwnV w base v ts) : ∃ (a : Option Addr) (n c : Nat), v = .slice a n c := by obtain ⟨a, c, e⟩ := h.slice; exact ⟨a, _, c, e⟩
theorem LstI.row' (h : LstI w0 bv sl ts wx) {B n : Nat} {T : TypeId} {g : Nat → Value} (r : RowV w0 B T n g) (hne : B ≠ bv) : RowV wx B T n g := h.only.row hne r
end
theorem leafS (S : Nat → Prop) (w : World) {n : Int} (hn : i64B n) : CodS S w (.agg (rowF 4 (valC 1 n ⟨#[]⟩ (.slice none 0 0)))) (numT n) := CodS.leaf S w ⟨by decide, by decide⟩ hn (by decide)
theorem idx4 (a b c d : Int) (k : Nat) (hk : k < 4) (w : World) : (Instr.index 93 (.agg #[.int .i64 a, .int .i64 b, .int .i64 c, .int .i64 d]) (.int .i64 (k : Int))).run Tryd.prog w = .ok (.int .i64 ([a, b, c, d].getD k 0)) w := by
  match k, hk with
  | 0, _ => (refine (?_ : _ = _); kernel_rfl)
  | 1, _ => (refine (?_ : _ = _); kernel_rfl)
  | 2, _ => (refine (?_ : _ = _); kernel_rfl)
  | 3, _ => (refine (?_ : _ = _); kernel_rfl)
/-- bytes that lie in a row -/
theorem row_bytes {w : World} {B n off : Nat} {T : TypeId} {g : Nat → Value} {l : List UInt8} (h : RowV w B T n g) (hl : off + l.length ≤ n) (h0 : 0 < l.length) (hn : n ≤ 1000) (hg : ∀ j, j < l.length → g (off + j) = vB (l.getD j 0)) : BytesAt w (.slice (some ⟨B, off, none⟩) l.length l.length) l :=
  .inr ⟨B, off, l.length, rfl, Nat.le_refl _, h0, ⟨by omega, by omega⟩, h.lt, fun j hj => by rw [h.cell (by omega), hg j hj]⟩
theorem ak_bytes {w : World} {B : Nat} {T : TypeId} {a : Ak} (h : RowV w B T 38 (akC a)) (ha : a.wf) : BytesAt w (.slice (some ⟨B, 4, none⟩) 32 32) a.ch := by
  have := row_bytes (off := 4) (l := a.ch) h (by rw [ha.ch]; decide) (by rw [ha.ch]; decide) (by decide) (fun j hj => by
    rw [ha.ch] at hj
    unfold akC; rw [if_pos ⟨by omega, by omega⟩, show 4 + j - 4 = j by omega])
  rwa [ha.ch] at this
theorem leafT (S : Nat → Prop) (w : World) {l : List UInt8} (hl : l.length ≤ 1000000) : CodS S w (.agg (rowF 4 (valC 2 0 ⟨l.toArray⟩ (.slice none 0 0)))) (txtT l) :=
  CodS.leaf S w ⟨by decide, by decide⟩ ⟨by decide, by decide⟩ (by simp [ByteArray.size]; omega)
set_option maxRecDepth 100000 in
set_option maxHeartbeats 8000000 in
theorem alist_any (a : Ak) (ha : a.wf) (v : Value) (zs : List Int) (w : World) (hv : IntsS w v zs) (hz : ∀ z ∈ zs, i64B z) (hl : zs.length ≤ 100) :
    Calls Tryd.prog 25 #[.agg (rowF 38 (akC a)), v] w fun e w' => (∃ u, e = .returned u ∧ Owns w' w.heap.size u (encA a zs)) ∧ Below w.heap.size w w' := by
  obtain ⟨va, vc, rfl⟩ := hv.slice
  have HV := Lib.hid hv
  have HA := Lib.hid ha
  have HZ := Lib.hid hz
  have HL := Lib.hid hl
  obtain ⟨n, hn⟩ : ∃ n, zs.length = n := ⟨_, rfl⟩
  have HN := Lib.hid hn
  rw [hn]
  clear hv ha hz hl hn
  go_enter Tryd.func25, Tryd.ntmps25
  have B0 := Lib.hid (Below.refl w.heap.size w)
  go_upto_region 1 with fail
  obtain ⟨w1, hw1⟩ : ∃ y, w.alloc (.cells (rowF 38 (akC a)) 27) = y := ⟨_, rfl⟩
  have b1 : Below w.heap.size w w1 := by rw [← hw1]; exact (Below.refl _ _).alloc (Nat.le_refl _) _
  have A1 : Hid (RowV w1 w.heap.size 27 38 (akC a)) := Lib.hid (by rw [← hw1]; exact RowV.new w _ 38 (akC a))
  have z1 : w.heap.size + 1 = w1.heap.size := by rw [← hw1]; exact (Array.size_push _).symm
  rw [hw1]
  (try rw [z1])
  have B1 := Lib.hid (B0.out.trans (b1.mono B0.out.size))
  clear b1 hw1 z1 B0
  go_upto_region 2 with fail
  have BV := Lib.hid (show w.heap.size < w1.heap.size from A1.out.lt)
  obtain ⟨w2, hw2⟩ : ∃ y, w1.alloc (.cells #[.int .i64 3, .int .i64 0, .string ⟨#[]⟩, .slice none 0 0] 51) = y := ⟨_, rfl⟩
  have b2 : Below w1.heap.size w1 w2 := by rw [← hw2]; exact (Below.refl _ _).alloc (Nat.le_refl _) _
  have I2 : Hid (LstI w2 w1.heap.size (.slice none 0 0) [] w2) := Lib.hid (by rw [← hw2]; exact LstI.start w1)
  have z2 : w1.heap.size + 1 = w2.heap.size := by rw [← hw2]; exact (Array.size_push _).symm
  rw [hw2]
  (try rw [z2])
  have B2 := Lib.hid (B1.out.trans (b2.mono B1.out.size))
  have A2 := Lib.hid (A1.out.below b2)
  clear b2 hw2 z2 B1 A1
  have x0 : _ = some (Value.int .i64 a.f) := ak_cell A2.out (i := 0) (by decide) (by decide)
  have x1 : _ = some (Value.int .i64 a.d) := ak_cell A2.out (i := 1) (by decide) (by decide)
  have x2 : _ = some (Value.int .i64 a.s) := ak_cell A2.out (i := 2) (by decide) (by decide)
  have x3 : _ = some (Value.int .i64 a.u) := ak_cell A2.out (i := 3) (by decide) (by decide)
  go_wp2_with fail
  clear x0 x1 x2 x3
  go_loopg [20] 4 (fun g s20 wx => ∃ (k : Nat) (sl : Value), k + g = 4 ∧ s20 = .int .i64 (k : Int) ∧ Hid (LstI w2 w1.heap.size sl (([a.f, a.d, a.s, a.u].take k).map numT) wx))
  case atStart => exact ⟨0, .slice none 0 0, rfl, rfl, I2⟩
  case round =>
    obtain ⟨k, sl, hk, rfl, hI⟩ := hrel
    obtain ⟨w3, rfl⟩ : ∃ y, y = wr := ⟨_, rfl⟩
    have q0 : (0 : Int) ≤ (k : Int) := Int.natCast_nonneg k
    by_cases hlt : k < 4
    · have d0 : decide ((k : Int) < 4) = true := by rw [decide_eq_true_iff]; omega
      have d1 : decide (k < 4) = true := by rw [decide_eq_true_iff]; omega
      have ix := idx4 a.f a.d a.s a.u k hlt
      have HE : Hid (([a.f, a.d, a.s, a.u].take (k + 1)).map numT = ([a.f, a.d, a.s, a.u].take k).map numT ++ [numT ([a.f, a.d, a.s, a.u].getD k 0)]) := Lib.hid (by
        rw [take_succ_getD 0 _ (show k < [a.f, a.d, a.s, a.u].length from hlt), List.map_append]; rfl)
      have HB : Hid (i64B ([a.f, a.d, a.s, a.u].getD k 0)) := Lib.hid (by
        match k, hlt with
        | 0, _ => exact HA.out.f
        | 1, _ => exact HA.out.d
        | 2, _ => exact HA.out.s
        | 3, _ => exact HA.out.u)
      obtain ⟨x, hx⟩ : ∃ x, [a.f, a.d, a.s, a.u].getD k 0 = x := ⟨_, rfl⟩
      rw [hx] at ix HE HB
      have HLT := Lib.hid hlt
      obtain ⟨ts, hts⟩ : ∃ y, ([a.f, a.d, a.s, a.u].take k).map numT = y := ⟨_, rfl⟩
      have TL : Hid (ts.length ≤ 1000000) := Lib.hid (by rw [← hts, List.length_map, List.length_take]; have : [a.f, a.d, a.s, a.u].length = 4 := rfl; omega)
      rw [hts] at HE hI
      obtain ⟨sa, sn, sc, rfl⟩ := hI.out.slice
      have xs := hI.out.cell
      clear hx hlt hts
      go_wp2_with (first | ((with_reducible (show wpList _ _ _ (Oper.mk (some 28) _ _ _ _ _ :: _) _ _)); refine Hid.out ?_))
      refine Lib.hid ?_
      refine wpList_app_val rfl (.tmp 24) (.tmp 27) rfl w2.heap.size (.slice sa sn sc) ts rfl (hI.out.alloc _).own w3.heap.size 1 (valC 1 x ⟨#[]⟩ (.slice none 0 0)) (numT x) rfl (RowV.new w3 _ 4 (valC 1 x ⟨#[]⟩ (.slice none 0 0))) (leafS _ _ HB.out) TL.out (hI.out.alloc _).size ?_
      intro v9 w9 L9 s9
      obtain ⟨a9, n9, c9, rfl⟩ := L9.out.slice3
      obtain ⟨x9, f9⟩ := (hI.out.alloc _).mid s9.out
      have I9 := Lib.hid ((hI.out.alloc _).push L9.out s9.out)
      clear L9 s9 hI xs
      rw [← HE.out] at I9
      go_wp2_with fail
      go_roundg (gk - 1)
      case measure => have := HLT.out; omega
      case rel =>
        go_light
        exact ⟨k + 1, .slice a9 n9 c9, by have := HLT.out; omega, by go_num, I9⟩
    · obtain rfl : k = 4 := by omega
      clear hlt hk
      obtain ⟨sa, sn, sc, rfl⟩ := hI.out.slice
      have R3 := Lib.hid (hI.out.row' A2.out (fun e => by have := BV.out; omega))
      have I3 : Hid (LstI w2 w1.heap.size (.slice sa sn sc) [numT a.f, numT a.d, numT a.s, numT a.u] w3) := hI
      clear hI q0
      go_upto_region 7 with fail
      refine Tc.wp_region_plan (Tc.Rl.stay (fun k => k = w1.heap.size ∨ k = w.heap.size)) 8 [] (.fl 0 (.fl 1 (.fl 2 (.fl 3 (.fl 4 (.fl 5 (.one 6 (.one 7 .done)))))))) (by kernel_rfl) (by kernel_rfl) ?_
      intro w4 b4 e4
      have I4 := Lib.hid (I3.out.later b4)
      have R4 := Lib.hid (R3.out.below b4)
      clear b4 e4 I3 R3
      refine Tc.plan_floats [0, 1, 2, 3, 4, 5] [_, _, _, _, _, _] rfl ?_
      dsimp only [List.getElem_toArray, List.getElem_cons_succ, List.getElem_cons_zero]
      repeat (go_big_quiet_want; go_big_quiet_op; first | go_big_quiet_on | (refine ⟨_, fun _ _ => rfl, ?_⟩; go_big_quiet_on))
      refine wpQuiet_load_cell rfl 49 (.tmp 31) rfl w1.heap.size 3 rfl _ Tryd.underlying49 rfl (.slice sa sn sc) (fun W hW => (stay_row (S := fun k => k = w1.heap.size ∨ k = w.heap.size) I4.out.row (.inl rfl) hW).cell (i := 3) (by decide)) ?_
      simp only [Act.put, List.setIfInBounds_toArray, List.set_cons_succ, List.set_cons_zero]
      repeat (go_big_quiet_want; go_big_quiet_op; first | go_big_quiet_on | (refine ⟨_, fun _ _ => rfl, ?_⟩; go_big_quiet_on))
      refine wpQuiet_convert rfl 28 9 (.tmp 34) rfl _ (.string ⟨a.ch.toArray⟩) rfl (fun W hW => run_text (ak_bytes (stay_row (S := fun k => k = w1.heap.size ∨ k = w.heap.size) R4.out (.inr rfl) hW) HA.out)) ?_
      simp only [Act.put, List.setIfInBounds_toArray, List.set_cons_succ, List.set_cons_zero]
      repeat (go_big_quiet_want; go_big_quiet_op; first | go_big_quiet_on | (refine ⟨_, fun _ _ => rfl, ?_⟩; go_big_quiet_on))
      refine wpQuiet_nil ?_
      obtain ⟨tx, htx⟩ : ∃ y, ByteArray.mk a.ch.toArray = y := ⟨_, rfl⟩
      have LT := Lib.hid (fun S W => htx ▸ leafT S W (l := a.ch) (by rw [HA.out.ch]; decide))
      rw [htx]
      clear htx
      refine Tc.plan_one 6 rfl (fun K hK => ?_)
      go_wp2_with fail
      have BL := Lib.hid (show w1.heap.size < w2.heap.size from I4.out.lt)
      have al := (Below.refl _ w4).alloc (Nat.le_refl _) (.cells #[.int .i64 2, .int .i64 0, .string tx, .slice none 0 0] 51)
      have I5 := Lib.hid (I4.out.later al)
      have R5 := Lib.hid (R4.out.below al)
      have G5 := Lib.hid (RowV.new w4 51 4 (valC 2 0 tx (.slice none 0 0)))
      refine hK _ _ (stay_below al (fun k hk => by rcases hk with rfl | rfl; exact I4.out.row.lt; exact R4.out.lt)) ?_
      obtain ⟨w5, hw5⟩ : ∃ y, w4.alloc (.cells #[.int .i64 2, .int .i64 0, .string tx, .slice none 0 0] 51) = y := ⟨_, rfl⟩
      rw [hw5] at I5 R5 ⊢
      rw [show w4.alloc (.cells (rowF 4 (valC 2 0 tx (.slice none 0 0))) 51) = w5 from hw5] at G5
      clear hK K al hw5 I4 R4
      refine Tc.plan_one 7 rfl (fun K hK => ?_)
      refine wpList_app_val rfl (.tmp 32) (.tmp 37) rfl w2.heap.size (.slice sa sn sc) _ rfl I5.out.own w4.heap.size 1 (valC 2 0 tx (.slice none 0 0)) (txtT a.ch) rfl G5.out (LT.out _ _) (show (4 : Nat) ≤ 1000000 by decide) I5.out.size ?_
      intro v9 w9 L9 s9
      obtain ⟨a9, n9, c9, rfl⟩ := L9.out.slice3
      go_wp2_with fail
      refine hK _ _ (stay_app s9.out (fun k hk => ⟨by rcases hk with rfl | rfl; exact I5.out.row.lt; exact R5.out.lt, fun e => by have := (I5.out.own.lt _ e).1; have := BL.out; have := BV.out; omega⟩)) ?_
      obtain ⟨x9, f9⟩ := I5.out.mid s9.out
      have I9 := Lib.hid (I5.out.push L9.out s9.out)
      clear hK K L9 s9 I5 R5 G5 LT
      refine Tc.plan_done (l := [_, _]) rfl (fun K hK => ?_)
      go_wp2_with fail
      clear x9 f9
      have I10 : Hid (LstI w2 w1.heap.size (.slice a9 n9 c9) (fldA a []) (w9.setCell ⟨w1.heap.size, 3, none⟩ (.slice a9 n9 c9))) := I9
      obtain ⟨w10, hw10⟩ : ∃ y, w9.setCell ⟨w1.heap.size, 3, none⟩ (.slice a9 n9 c9) = y := ⟨_, rfl⟩
      rw [hw10] at I10 ⊢
      clear hw10 I9
      go_wp2_with fail
      have qn : (n : Int) ≤ 100 := by have := HL.out; have := HN.out; omega
      go_loopg [42] n (fun g s42 wx => ∃ (k : Nat) (sl : Value), k + g = n ∧ s42 = .int .i64 (k : Int) ∧ Hid (LstI w2 w1.heap.size sl (fldA a (zs.take k)) wx))
      case atStart => exact ⟨0, .slice a9 n9 c9, by omega, rfl, I10⟩
      case round =>
        clear I10
        obtain ⟨k, sl, hk, rfl, hI⟩ := hrel
        obtain ⟨w3, rfl⟩ : ∃ y, y = wr := ⟨_, rfl⟩
        have q0 : (0 : Int) ≤ (k : Int) := Int.natCast_nonneg k
        by_cases hlt : k < n
        · have d0 : decide ((k : Int) < (n : Int)) = true := by rw [decide_eq_true_iff]; omega
          have d1 : decide (k < n) = true := by rw [decide_eq_true_iff]; omega
          have hv3 : SlAt 1 w3 (.slice va n vc) n (fun i _ => .int .i64 (zs.getD i 0)) := by
            have h := HV.out.below (B2.out.trans ((hI.out.only.below (K := w.heap.size) (by have := BV.out; omega) (by have := BV.out; have := I2.out.lt; omega))))
            rwa [HN.out] at h
          obtain ⟨b, off, rfl, hcap, hb, hc⟩ := SlAt.at_elem hv3 hlt
          have x0 : w3.cell? ⟨b, off + k, none⟩ = some (.int .i64 (zs.getD k 0)) := by have := hc k hlt 0 (by decide); simpa using this
          have HE : Hid (fldA a (zs.take (k + 1)) = fldA a (zs.take k) ++ [numT (zs.getD k 0)]) := Lib.hid (by
            unfold fldA; rw [take_succ_getD 0 _ (show k < zs.length by rw [HN.out]; exact hlt), List.map_append, List.append_assoc]; rfl)
          have HB : Hid (i64B (zs.getD k 0)) := Lib.hid (by
            rw [List.getD_eq_getElem?_getD, List.getElem?_eq_getElem (show k < zs.length by rw [HN.out]; exact hlt)]
            exact HZ.out _ (List.getElem_mem _))
          obtain ⟨x, hx⟩ : ∃ x, zs.getD k 0 = x := ⟨_, rfl⟩
          rw [hx] at x0 HE HB
          obtain ⟨ts, hts⟩ : ∃ y, fldA a (zs.take k) = y := ⟨_, rfl⟩
          have TL : Hid (ts.length ≤ 1000000) := Lib.hid (by rw [← hts]; unfold fldA; simp only [List.length_append, List.length_map, List.length_take, List.length_cons, List.length_nil]; have := HL.out; omega)
          rw [hts] at HE hI
          obtain ⟨sa, sn, sc, rfl⟩ := hI.out.slice
          have xs := hI.out.cell
          have HLT := Lib.hid hlt
          clear hx hlt hts hv3 hc hb
          go_upto_region 11 with fail
          clear x0
          go_wp2_with (first | ((with_reducible (show wpList _ _ _ (Oper.mk (some 51) _ _ _ _ _ :: _) _ _)); refine Hid.out ?_))
          refine Lib.hid ?_
          refine wpList_app_val rfl (.tmp 47) (.tmp 50) rfl w2.heap.size (.slice sa sn sc) ts rfl (hI.out.alloc _).own w3.heap.size 1 (valC 1 x ⟨#[]⟩ (.slice none 0 0)) (numT x) rfl (RowV.new w3 _ 4 (valC 1 x ⟨#[]⟩ (.slice none 0 0))) (leafS _ _ HB.out) TL.out (hI.out.alloc _).size ?_
          intro v9 w9 L9 s9
          obtain ⟨a9, n9, c9, rfl⟩ := L9.out.slice3
          obtain ⟨x9, f9⟩ := (hI.out.alloc _).mid s9.out
          have I9 := Lib.hid ((hI.out.alloc _).push L9.out s9.out)
          clear L9 s9 hI xs
          rw [← HE.out] at I9
          go_wp2_with fail
          go_roundg (gk - 1)
          case measure => have := HLT.out; omega
          case rel =>
            go_light
            exact ⟨k + 1, .slice a9 n9 c9, by have := HLT.out; omega, by go_num, I9⟩
        · obtain rfl : k = n := by omega
          have d0 : decide ((k : Int) < (k : Int)) = false := by rw [decide_eq_false_iff_not]; omega
          have hI2 : Hid (LstI w2 w1.heap.size sl (fldA a zs) w3) := Lib.hid (by have h := hI.out; rwa [List.take_of_length_le (by rw [HN.out]; omega)] at h)
          obtain ⟨sa, sn, sc, rfl⟩ := hI.out.slice
          have FL : Hid ((fldA a zs).length ≤ 1000000) := Lib.hid (by unfold fldA; simp only [List.length_append, List.length_map, List.length_cons, List.length_nil]; have := HL.out; omega)
          have CT := chkT_lst (fldA_form a zs) (fldA_depth a zs)
          have E := Lib.hid (cencode_any (lstT (fldA a zs)) _ w3 CT.2 (hI2.out.value FL.out) (Nat.le_trans (encA_len a HA.out zs HZ.out HL.out) (by decide)))
          have EP : Hid (EncPost (lstT (fldA a zs)) w3 = fun e w' => (∃ u, e = .returned (.tuple #[u, .int .i64 0]) ∧ Owns w' w3.heap.size u (encA a zs)) ∧ Below w3.heap.size w3 w') := Lib.hid (by
            funext e w'; unfold EncPost; rw [if_pos CT.1]; rfl)
          rw [EP.out] at E
          clear CT EP hI hk
          have B3 := Lib.hid (B2.out.trans ((hI2.out.only.below (K := w.heap.size) (by have := BV.out; omega) (by have := BV.out; have := I2.out.lt; omega))))
          have SZ3 := Lib.hid (show w.heap.size ≤ w3.heap.size by have := hI2.out.size; have := BV.out; have := I2.out.lt; omega)
          go_upto_region 13 with fail
          go_wp2_with ((with_reducible (show wpList _ _ _ (Oper.mk (some 55) _ _ _ _ _ :: _) _ _)); refine wpList_load_rowV rfl 51 (.tmp 5) rfl w1.heap.size rfl 4 51 _ hI2.out.row _ Tryd.underlying51 rfl (by kernel_rfl) ?_)
          refine E.out.mono ?_
          rintro e w4 ⟨⟨u, rfl, o4⟩, b4⟩
          have O4 := Lib.hid (o4.lower SZ3.out)
          have B4 := Lib.hid (B3.out.trans (b4.mono SZ3.out))
          clear o4 b4
          go_wp2_with fail
          go_ret
          exact ⟨⟨u, rfl, O4.out⟩, B4.out⟩
end Go.Proofs.YtbjbgneejdjniaaDoor
