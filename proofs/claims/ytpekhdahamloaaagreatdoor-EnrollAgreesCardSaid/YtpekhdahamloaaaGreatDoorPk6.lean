/- slices.Grow of nil, slices.Concat at []byte. -/
import Derived.Test.YtpekhdahamloaaaGreatDoorPk3
import Derived.Lib.AppendZeros
import Derived.Laws.AppendOwn
import Derived.Laws.AppendOwnNone
import Derived.OwnWalk
import Derived.Deep.MidRow
import Derived.Deep.LoopGhost
import Derived.Deep.Light
import Derived.Deep.CutBlock
set_option linter.unusedVariables false
set_option linter.unusedSimpArgs false
namespace Go.Proofs.YtpekhdahamloaaaGreatDoor
open Go.RowKit

theorem info_byte : (Tryz.prog.info? 5).map (fun i => (i.zero, i.size, i.bytes)) = some (some (.int .u8 0), 1, 1) := by kernel_rfl
/-- a slice of the call's own that holds these bytes -/
def Owns (w : World) (base : Nat) (v : Value) (l : List UInt8) : Prop := w.ownsRow base 5 1 v l.length (l.map vB)
theorem Owns.bytesAt {w : World} {base : Nat} {v : Value} {l : List UInt8} (h : Owns w base v l) (hl : (l.length : Int) ≤ 140737488351232) : BytesAt w v l := by
  obtain ⟨h1, h2⟩ := h
  rcases h2 with ⟨rfl, h3⟩ | ⟨g, cap, cur, rfl, hb, hg, hle, hm, hs, ht⟩
  · rw [List.length_eq_zero_iff.1 h3]; exact .inl ⟨⟨none, 0, rfl, fun _ => rfl⟩, rfl⟩
  · by_cases h0 : l.length = 0
    · exact .inl ⟨⟨_, cap, by rw [h0], fun h => by cases h⟩, List.length_eq_zero_iff.1 h0⟩
    · unfold maxLen at hm
      refine .inr ⟨g, 0, cap, rfl, hle, by omega, ⟨hl, by omega⟩, (Array.getElem?_eq_some_iff.1 hg).1, fun j hj => ?_⟩
      have h := World.ownsRow.cellAt (w := w) (base := base) (e := 5) (size := 1) (g := g) (cap := cap) (n := l.length) (xs := l.map vB) ⟨h1, .inr ⟨g, cap, cur, rfl, hb, hg, hle, by unfold maxLen; omega, hs, ht⟩⟩ j (by omega)
      rw [Nat.zero_add, h]
      simp [List.getD_eq_getElem?_getD, List.getElem?_eq_getElem hj]
theorem Owns.nil (w : World) (base : Nat) : Owns w base (.slice none 0 0) [] := World.ownsRow_nil _ _ _ _
theorem Owns.below {w w' : World} {base : Nat} {v : Value} {l : List UInt8} (h : Owns w base v l) (hb : Below w.heap.size w w') : Owns w' base v l :=
  World.ownsRow.kept h (row := none) ⟨hb.os, hb.tape, hb.output, hb.size, fun k hk _ => hb.block k hk⟩ (by
    cases hv : v.ownBlock with
    | none => exact .inl rfl
    | some k => exact .inr (by simp))
/-- where the slice lies -/
theorem Owns.slice {w : World} {base : Nat} {v : Value} {l : List UInt8} (h : Owns w base v l) : ∃ (a : Option Addr) (c : Nat), v = .slice a l.length c := by
  obtain ⟨_, h2⟩ := h
  rcases h2 with ⟨rfl, h3⟩ | ⟨g, cap, cur, rfl, _⟩
  · exact ⟨none, 0, by rw [h3]⟩
  · exact ⟨_, _, rfl⟩

/-- append(s, x...), s a slice of the call's own, x any bytes -/
theorem wpList_append_bytes {w : World} {ops : Array Oper} {rest : List Oper} {o : Oper} {a : Act} {Q : Exit → Act → World → Prop} (hgd : o.guard = none) (s x : Operand)
    (ho : o.op = .call { callee := .builtin .append, args := #[s, x], argTypes := #[61, 61] })
    (base : Nat) (v vx : Value) (l lx : List UInt8) (hs : a.eval s = v) (hx : a.eval x = vx) (hown : Owns w base v l) (hbx : BytesAt w vx lx) (hlen : l.length + lx.length ≤ 140737488351232) (hbase : base ≤ w.heap.size)
    (h : ∀ v' w', Hid (Owns w' base v' (l ++ lx)) → Hid (Below base w w') → Hid (w.grownBy w' v.ownBlock) → wpList Tryz.prog ops Q rest (a.put o.dst v') w') : wpList Tryz.prog ops Q (o :: rest) a w := by
  obtain ⟨i0, hi, hz0, hz1, hz2⟩ := info_parts info_byte
  have fin : ∀ v' w', w'.ownsRow base 5 1 v' (l.length + lx.length) (l.map vB ++ lx.map vB) → w.grownBy w' v.ownBlock → wpList Tryz.prog ops Q rest (a.put o.dst v') w' := by
    intro v' w' h1 hg
    refine h v' w' ?_ ((Below.refl base w).grown hg hbase (fun k hk => (World.ownsRow.lt hown k hk).1)) hg
    unfold Hid Owns
    rw [List.length_append, List.map_append]
    exact h1
  rcases hbx with ⟨⟨ad, c, rfl, hc⟩, rfl⟩ | ⟨b, off, cap, rfl, hle, hpos, hcap, hb, hcell⟩
  · cases ad with
    | none =>
      obtain rfl := hc rfl
      refine wpList_append_own_none hgd s x 61 ho base 5 i0 1 Tryz.underlying61 hi v l.length (l.map vB) hs hown hx ?_
      exact fin v w (by have h := hown; unfold Owns at h; simpa using h) ⟨rfl, rfl, rfl, Nat.le_refl _, fun _ _ _ => rfl⟩
    | some ad =>
      refine wpList_append_own w hgd s x 61 ho base 5 i0 (.int .u8 0) 1 1 Tryz.underlying61 hi hz0 hz1 hz2 rfl (by decide) v l.length (l.map vB) hs hown ad 0 c [] hx rfl (fun j u hj => by cases hj) (fun u hu => by cases hu) (by unfold maxLen; omega) (by omega) hbase ?_
      intro v' w' h1 hg _
      exact fin v' w' (by simpa using h1) hg
  · refine wpList_append_own w hgd s x 61 ho base 5 i0 (.int .u8 0) 1 1 Tryz.underlying61 hi hz0 hz1 hz2 rfl (by decide) v l.length (l.map vB) hs hown ⟨b, off, none⟩ lx.length cap (lx.map vB) hx (by simp) (fun j u hj => ?_) (fun u hu => ?_) (by unfold maxLen; omega) (by omega) hbase ?_
    · obtain ⟨hlt, he⟩ := List.getElem?_eq_some_iff.1 hj
      rw [List.length_map] at hlt
      rw [Addr.add_mid, hcell j hlt, ← he]
      simp [List.getD_eq_getElem?_getD, List.getElem?_eq_getElem hlt]
    · obtain ⟨y, _, rfl⟩ := List.mem_map.1 hu; rfl
    · intro v' w' h1 hg _
      exact fin v' w' h1 hg

set_option maxRecDepth 100000 in
set_option maxHeartbeats 1000000 in
theorem grow_zero (w : World) :
    Calls Tryz.prog 109 #[.slice none 0 0, .int .i64 0] w fun e w' => e = .returned (.slice none 0 0) ∧ w = w' := by
  go_enter Tryz.func109, Tryz.ntmps109
  go_wp2
  go_ret
  exact ⟨rfl, rfl⟩
set_option maxRecDepth 100000 in
set_option maxHeartbeats 1000000 in
theorem grow_pos (n : Nat) (w : World) (h0 : 0 < n) (hn : n ≤ 140737488351232) :
    Calls Tryz.prog 109 #[.slice none 0 0, .int .i64 (n : Int)] w fun e w' => (∃ v, e = .returned v ∧ Owns w' w.heap.size v []) ∧ Below w.heap.size w w' := by
  obtain ⟨i0, hi, hz0, hz1, hz2⟩ := info_parts info_byte
  have z1 : (1 : Int) ≤ (n : Int) := by omega
  have z2 : (n : Int) ≤ 140737488351232 := by omega
  have d0 : decide ((n : Int) < 0) = false := by rw [decide_eq_false_iff_not]; omega
  have d1 : decide ((0 : Int) < (n : Int)) = true := by rw [decide_eq_true_iff]; omega
  have hg := fun ty => Lib.run_append_nil_zeros (P := Tryz.prog) w 61 3 ty 5 i0 (.int .u8 0) .i64 .i64 Tryz.underlying61 Tryz.underlying3 hi hz0 n h0 (by rw [hz1]; decide) (by omega) (by rw [hz2]; omega)
  have hO : Hid (Owns (w.drew.alloc (.cells (Builtin.zeroCells (Value.cells (.int .u8 0)) n ++ Builtin.zeroCells (Value.cells (.int .u8 0)) (grownCap w n 0 5 - n)) 5)) w.heap.size (.slice (some ⟨w.heap.size, 0, none⟩) 0 (grownCap w n 0 5)) []) := by
    have hge := grownCap_ge w n 0 5
    refine Lib.hid (World.ownsRow_made w.drew _ _ (Nat.le_refl _) (grownCap_le_maxLen w n 0 _ (by unfold maxLen; omega)) ?_)
    rw [Array.size_append, size_zeroCells, size_zeroCells]
    simp only [Value.cells, List.size_toArray, List.length_cons, List.length_nil]
    omega
  have HG := Lib.hid hg
  have hcap : (0 : Int) ≤ (grownCap w n 0 5 : Int) := Int.natCast_nonneg _
  obtain ⟨cap, hc⟩ : ∃ c, grownCap w n 0 5 = c := ⟨_, rfl⟩
  rw [hc] at HG hO hcap
  obtain ⟨cur, hcur⟩ : ∃ c, Builtin.zeroCells (Value.cells (.int .u8 0)) n ++ Builtin.zeroCells (Value.cells (.int .u8 0)) (cap - n) = c := ⟨_, rfl⟩
  rw [hcur] at HG hO
  have HB : Hid (Below w.heap.size w (w.drew.alloc (.cells cur 5))) := Lib.hid ((Below.refl _ w).drew.alloc (Nat.le_refl _) _)
  clear hg hc hcur h0 hn hi hz0 hz1 hz2
  go_enter Tryz.func109, Tryz.ntmps109
  go_wp2_with (at_builtin; refine Lib.wpList_append_run _ rfl (.tmp 20) (.tmp 21) 61 3 rfl _ _ rfl rfl _ _ (HG.out _) ?_)
  go_ret
  exact ⟨⟨_, rfl, hO⟩, HB⟩
/-- how many bytes the first k lists hold -/
def sumLen (ls : List (List UInt8)) (k : Nat) : Nat := (ls.take k).flatten.length
theorem flatten_step (ls : List (List UInt8)) {k : Nat} (h : k < ls.length) : (ls.take (k + 1)).flatten = (ls.take k).flatten ++ ls.getD k [] := by
  rw [List.take_succ_eq_append_getElem h, List.flatten_append, List.getD_eq_getElem?_getD, List.getElem?_eq_getElem h]; simp
theorem sumLen_step (ls : List (List UInt8)) {k : Nat} (h : k < ls.length) : sumLen ls (k + 1) = sumLen ls k + (ls.getD k []).length := by
  unfold sumLen; rw [flatten_step ls h, List.length_append]
theorem sumLen_le (ls : List (List UInt8)) (k : Nat) : sumLen ls k ≤ ls.flatten.length := by
  unfold sumLen
  have h : ls.flatten = (ls.take k).flatten ++ (ls.drop k).flatten := by rw [← List.flatten_append, List.take_append_drop]
  rw [h, List.length_append]; omega

set_option maxRecDepth 100000 in
set_option maxHeartbeats 2000000 in
/-- slices.Concat of byte slices: their bytes, one behind the other, in memory of its own -/
theorem concat_any (ls : List (List UInt8)) (vs : Nat → Value) (bx cp : Nat) (T : TypeId) (w : World) (hrow : RowV w bx T ls.length vs) (hb : ∀ i, i < ls.length → BytesAt w (vs i) (ls.getD i [])) (hn : ls.length ≤ 100) (hsum : ls.flatten.length ≤ 140737488351232) :
    Calls Tryz.prog 62 #[.slice (some ⟨bx, 0, none⟩) ls.length cp] w fun e w' => (∃ v, e = .returned v ∧ Owns w' w.heap.size v ls.flatten) ∧ Below w.heap.size w w' := by
  obtain ⟨n, hln⟩ : ∃ n, ls.length = n := ⟨_, rfl⟩
  have Hln := Lib.hid hln
  have Hrow := Lib.hid hrow
  have Hb := Lib.hid hb
  have Hsum := Lib.hid hsum
  have hbx := hrow.lt
  rw [hln] at hn ⊢
  clear hln hrow hb hsum
  go_enter Tryz.func62, Tryz.ntmps62
  go_wp2_with fail
  go_loopg [3, 5, 11] n (fun g s3 s5 s11 wx => w = wx ∧ ∃ k : Nat, k + g = n ∧ s11 = .int .i64 (k : Int) ∧ s3 = .int .i64 (sumLen ls k : Int))
  case atStart => exact ⟨rfl, 0, by omega, rfl, rfl⟩
  case round =>
    obtain ⟨rfl, k, hk, rfl, rfl⟩ := hrel
    have hsk := sumLen_le ls k
    by_cases hkn : k < n
    · have d0 : decide ((k : Int) < (n : Int)) = true := by rw [decide_eq_true_iff]; omega
      have z1 : (0 : Int) ≤ (k : Int) := Int.natCast_nonneg k
      have z2 : (k : Int) < (n : Int) := by omega
      have z3 : ((k : Int)).toNat = k := Int.toNat_natCast k
      have hkl : k < ls.length := by rw [Hln.out]; exact hkn
      have ck := Hrow.out.cell hkl
      have hst := sumLen_step ls hkl
      have hsk1 := sumLen_le ls (k + 1)
      have hbnd := Hsum.out
      obtain ⟨va, vc, hv⟩ := (Hb.out k hkl).slice
      rw [hv] at ck
      obtain ⟨a, ha⟩ : ∃ a, sumLen ls k = a := ⟨_, rfl⟩
      obtain ⟨c, hc⟩ : ∃ c, (ls.getD k []).length = c := ⟨_, rfl⟩
      obtain ⟨s, hs⟩ : ∃ s, sumLen ls (k + 1) = s := ⟨_, rfl⟩
      rw [ha, hc, hs] at hst
      rw [hc] at ck
      rw [ha]
      have Hst := Lib.hid hst
      have Hs := Lib.hid hs
      have y1 : (0 : Int) ≤ (a : Int) := Int.natCast_nonneg a
      have y2 : (0 : Int) ≤ (c : Int) := Int.natCast_nonneg c
      have y3 : (a : Int) + (c : Int) ≤ 140737488351232 := by omega
      have d1 : decide ((a : Int) + (c : Int) < 0) = false := by rw [decide_eq_false_iff_not]; omega
      clear hsk hkl hst hsk1 hbnd hv ha hc hs
      go_wp2_with fail
      go_roundg (gk - 1)
      case measure => omega
      case rel =>
        go_light
        exact ⟨rfl, k + 1, by omega, by go_num, by rw [Hs.out, Hst.out]; go_num⟩
    · have d0 : decide ((k : Int) < (n : Int)) = false := by rw [decide_eq_false_iff_not]; omega
      obtain rfl : k = n := by omega
      have htot : sumLen ls k = ls.flatten.length := by unfold sumLen; rw [List.take_of_length_le (by rw [Hln.out]; exact Nat.le_refl _)]
      obtain ⟨N, hN⟩ : ∃ N, ls.flatten.length = N := ⟨_, rfl⟩
      have HN := Lib.hid hN
      rw [htot, hN]
      have hg : ∀ W : World, Calls Tryz.prog 109 #[.slice none 0 0, .int .i64 (N : Int)] W fun e w' => (∃ v, e = .returned v ∧ Owns w' W.heap.size v []) ∧ Below W.heap.size W w' := by
        intro W
        by_cases h0 : N = 0
        · subst h0
          refine (grow_zero W).mono ?_
          rintro e w' ⟨rfl, rfl⟩
          exact ⟨⟨_, rfl, Owns.nil _ _⟩, Below.refl _ _⟩
        · exact grow_pos _ W (by omega) (by rw [← hN]; exact Hsum.out)
      have Hg := Lib.hid hg
      clear htot hN hg hsk hk hkn
      go_wp2_with fail
      refine (Hg.out _).mono ?_
      rintro e w1 ⟨⟨v, rfl, hO⟩, hB⟩
      have HO := Lib.hid hO
      have HB := Lib.hid hB
      clear hO hB d0
      go_wp2_with fail
      go_loopg [6, 8, 27] k (fun g s6 s8 s27 wx => ∃ (j : Nat) (v : Value), j + g = k ∧ s27 = .int .i64 (j : Int) ∧ s6 = v ∧ Hid (Owns wx w.heap.size v (ls.take j).flatten) ∧ Hid (Below w.heap.size w wx))
      case atStart => exact ⟨0, v, by omega, rfl, rfl, HO, HB⟩
      case round =>
        clear HO HB
        obtain ⟨j, v, hj, rfl, e6, hO, hB⟩ := hrel
        obtain rfl : v = _ := e6.symm
        by_cases hjk : j < k
        · have d0 : decide ((j : Int) < (k : Int)) = true := by rw [decide_eq_true_iff]; omega
          have z1 : (0 : Int) ≤ (j : Int) := Int.natCast_nonneg j
          have z2 : (j : Int) < (k : Int) := by omega
          have z3 : ((j : Int)).toNat = j := Int.toNat_natCast j
          have hjl : j < ls.length := by rw [Hln.out]; exact hjk
          have ck := (Hrow.out.below hB.out).cell hjl
          have Hby := Lib.hid ((Hb.out j hjl).below hB.out)
          have Hfl := Lib.hid (flatten_step ls hjl)
          have Hle := Lib.hid (show ((ls.take j).flatten).length + (ls.getD j []).length ≤ 140737488351232 from by
            have := sumLen_le ls (j + 1); rw [sumLen_step ls hjl] at this; unfold sumLen at this; have := Hsum.out; omega)
          have Hsz := Lib.hid hB.out.size
          obtain ⟨x, hx⟩ : ∃ x, vs j = x := ⟨_, rfl⟩
          rw [hx] at ck Hby
          clear hjl hx
          go_wp2_with (refine wpList_append_bytes (o := ⟨some 33, _, _, _, _, _⟩) rfl (.tmp 31) (.tmp 32) rfl w.heap.size v x _ _ rfl rfl hO.out Hby.out Hle.out Hsz.out ?_; intro v2 w2 O2 B2 _)
          go_roundg (gk - 1)
          case measure => omega
          case rel =>
            go_light
            exact ⟨j + 1, v2, by omega, by go_num, rfl, by rw [Hfl.out]; exact O2, Lib.hid (hB.out.trans B2.out)⟩
        · have d0 : decide ((j : Int) < (k : Int)) = false := by rw [decide_eq_false_iff_not]; omega
          obtain rfl : j = k := by omega
          go_wp2_with fail
          go_ret
          go_light
          refine ⟨⟨_, rfl, ?_⟩, hB.out⟩
          have h := hO.out
          rw [List.take_of_length_le (by rw [Hln.out]; exact Nat.le_refl _)] at h
          exact h
end Go.Proofs.YtpekhdahamloaaaGreatDoor
