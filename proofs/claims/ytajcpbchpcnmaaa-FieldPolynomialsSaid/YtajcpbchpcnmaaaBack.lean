/- slices.Backward over a slice of scalars: the iterator's contract; the value of a polynomial. -/
import Derived.Test.YtajcpbchpcnmaaaRefFld
set_option linter.unusedVariables false
set_option linter.unusedSimpArgs false
namespace Go.Proofs.Ytajcpbchpcnmaaa
open Go.RowKit Go.Shelf
attribute [local go_sem] Oper.semAt_some

/-- a scalar -/
abbrev Sc : Type := { n : Nat // n < 2305843009213688669 }
/-- what comes in round k: the index, and the scalar there -/
def item (g : Nat → Sc) (len k : Nat) : Nat × Sc := (len - 1 - k, g (len - 1 - k))

set_option maxRecDepth 100000 in
set_option maxHeartbeats 1000000 in
/-- Backward's closure: for every loop body that keeps the slice and its box. -/
theorem back1_in (n : Nat) (hn : 1 ≤ n) (l Bk n0 b off len cap : Nat) (g : Nat → Sc) (hlen : (len : Int) ≤ 9223372036854775807) (hb : b < n0) (J Jx : List (Nat × Sc) → World → Prop)
    (hY : ∀ pre x W, J pre W → pre.length < len → YieldAt Fence.wide (n - 1) Try.prog l #[.int .i64 (x.1 : Int), .int .i64 (x.2.1 : Int)] W fun e W' =>
      (e = .returned (.bool true) ∧ J (pre ++ [x]) W' ∧ KeepBox n0 Bk W W') ∨ (e = .returned (.bool false) ∧ Jx (pre ++ [x]) W'))
    (W : World) (hB : W.cell? ⟨Bk, 0, none⟩ = some (.slice (some ⟨b, off, none⟩) len cap)) (hc : ∀ j, j < len → W.cell? ⟨b, off + j, none⟩ = some (.int .i64 ((g j).1 : Int))) (h0 : J [] W) :
    CallsIn Fence.wide n Try.prog 68 #[.func (.yield l) #[] #[], .pointer (some ⟨Bk, 0, none⟩)] W fun e W' => (∃ v, e = .returned v) ∧
      ((∃ ys, ys = upto (item g len) len ∧ J ys W') ∨ (∃ pre, (∃ j, j ≤ len ∧ pre = upto (item g len) j) ∧ Jx pre W')) := by
  have HC := Lib.hid hc
  clear hc
  refine callsIn_of_wp Try.func68 rfl trivial ?_ rfl
  simp only [Try.ntmps68, List.size_toArray, List.length_cons, List.length_nil, Nat.reduceAdd, Nat.reduceSub, Array.replicate_succ, Array.replicate_zero, List.push_toArray, List.append_toArray, List.nil_append, List.cons_append]
  gi_wp2
  gi_loopw [3] (fun i wr => ∃ m : Nat, m ≤ len ∧ i = .int .i64 ((m : Int) - 1) ∧ J (upto (item g len) (len - m)) wr ∧ KeepBox n0 Bk W wr) (fun i _ => (intOf i + 1).toNat)
  case atStart => exact ⟨len, Nat.le_refl _, rfl, by rw [Nat.sub_self]; exact h0, KeepBox.refl _ _ _⟩
  case round =>
    obtain ⟨m, hm, rfl, hJs, hkb⟩ := hrel
    have hB2 : wr.cell? ⟨Bk, 0, none⟩ = some (.slice (some ⟨b, off, none⟩) len cap) := (World.cell?_of_block (w := W) (a := ⟨Bk, 0, none⟩) hkb.2).trans hB
    clear hB
    cases m with
    | zero =>
      gi_wp2
      go_end0
      exact ⟨⟨_, rfl⟩, .inl ⟨_, rfl, by simpa using hJs⟩⟩
    | succ m =>
      have em : ((m + 1 : Nat) : Int) - 1 = (m : Int) := by omega
      rw [em]
      have hcm : wr.cell? ⟨b, off + m, none⟩ = some (.int .i64 ((g m).1 : Int)) := (hkb.1.cell (p := ⟨b, off + m, none⟩) hb).trans (HC.out m (by omega))
      have hidx : item g len (len - (m + 1)) = (m, g m) := by unfold item; rw [show len - 1 - (len - (m + 1)) = m from by omega]
      have hnext : upto (item g len) (len - m) = upto (item g len) (len - (m + 1)) ++ [(m, g m)] := by
        rw [show len - m = (len - (m + 1)) + 1 from by omega, upto_succ, hidx]
      have HN := Lib.hid hnext
      have hml : m < len := by omega
      obtain ⟨fn, tmps, assign, body, hy, hR⟩ := hY _ (m, g m) wr hJs (by rw [upto_length]; omega)
      dsimp only at hy
      clear hnext hidx em
      gi_wp2
      refine hR.mono ?_
      rintro e W3 (⟨rfl, hJ3, hk3⟩ | ⟨rfl, hJx3⟩)
      · gi_wp2
        go_roundw
        case rel => exact ⟨m, by omega, rfl, by rw [HN.out]; exact hJ3, hkb.trans hk3⟩
        case measure => simp [intOf]
      · gi_wp2
        refine bodyPost_ret (results_none rfl _ _ _) rfl ?_
        exact ⟨⟨_, rfl⟩, .inr ⟨_, ⟨len - m, by omega, HN.out.symm⟩, hJx3⟩⟩

set_option maxRecDepth 100000 in
set_option maxHeartbeats 1000000 in
/-- .. at a slice of length 0: no round. -/
theorem back1_nil (a : Option Addr) (c : Nat) (n : Nat) (l Bk : Nat) (J : List (Nat × Sc) → World → Prop) (W : World) (hB : W.cell? ⟨Bk, 0, none⟩ = some (.slice a 0 c)) (h0 : J [] W) :
    CallsIn Fence.wide n Try.prog 68 #[.func (.yield l) #[] #[], .pointer (some ⟨Bk, 0, none⟩)] W fun e W' => (∃ v, e = .returned v) ∧ J [] W' := by
  refine callsIn_of_wp Try.func68 rfl trivial ?_ rfl
  simp only [Try.ntmps68, List.size_toArray, List.length_cons, List.length_nil, Nat.reduceAdd, Nat.reduceSub, Array.replicate_succ, Array.replicate_zero, List.push_toArray, List.append_toArray, List.nil_append, List.cons_append]
  gi_wp2
  gi_loopw [3] (fun i wr => i = .int .i64 (-1) ∧ J [] wr) (fun _ _ => 0)
  case atStart => exact ⟨rfl, h0⟩
  case round =>
    obtain ⟨rfl, hJs⟩ := hrel
    gi_wp2
    go_end0
    exact ⟨⟨_, rfl⟩, hJs⟩

/-- a slice value that holds the scalars cs; the nil slice holds none -/
def ScsAt (w : World) (sv : Value) (cs : List Sc) : Prop := IntsAt w sv (cs.map fun c => (c.1 : Int))
theorem scsAt_cell {w : World} {b off : Nat} {cs : List Sc} (h : ∀ j, j < (cs.map fun c : Sc => (c.1 : Int)).length → w.cell? ⟨b, off + j, none⟩ = some (.int .i64 ((cs.map fun c : Sc => (c.1 : Int))[j]?.getD 0))) :
    ∀ j, j < cs.length → w.cell? ⟨b, off + j, none⟩ = some (.int .i64 ((cs.getD j ⟨0, by decide⟩).1 : Int)) := fun j hj => by
  have := h j (by simpa using hj)
  rw [this]
  simp [hj]

/-- all that comes: the scalars from the last to the first, each with its index -/
def allBack (cs : List Sc) : List (Nat × Sc) := upto (item (fun j => cs.getD j ⟨0, by decide⟩) cs.length) cs.length

theorem back_stops (n : Nat) (hn : 1 ≤ n) (Bk n0 : Nat) (sv : Value) (cs : List Sc) (w : World) (hBk : Bk < w.heap.size) (hn0 : n0 ≤ w.heap.size) (hc : w.cell? ⟨Bk, 0, none⟩ = some sv)
    (h : (∃ (a : Option Addr) (c : Nat), sv = .slice a 0 c) ∧ cs = [] ∨ ∃ b off cap : Nat, sv = .slice (some ⟨b, off, none⟩) cs.length cap ∧ (cs.length : Int) ≤ 9223372036854775807 ∧ b < n0 ∧ ∀ j, j < cs.length → w.cell? ⟨b, off + j, none⟩ = some (.int .i64 ((cs.getD j ⟨0, by decide⟩).1 : Int))) :
    SeqStopsK Fence.wide n Try.prog 68 #[.pointer (some ⟨Bk, 0, none⟩)] (fun x : Nat × Sc => #[.int .i64 (x.1 : Int), .int .i64 (x.2.1 : Int)]) (KeepBox n0 Bk) (fun ys => ys = allBack cs) (fun _ => True) cs.length w := fun l J Jx W hW _ _ hY h0 => by
  have hc' := (hW.cell (p := ⟨Bk, 0, none⟩) hBk).trans hc
  rcases h with ⟨⟨a, c, rfl⟩, rfl⟩ | ⟨b, off, cap, rfl, h2, h3, h4⟩
  · exact (back1_nil a c n l Bk J W hc' h0).mono fun e W' ⟨he, hj⟩ => ⟨he, .inl ⟨_, rfl, hj⟩⟩
  · refine (back1_in n hn l Bk n0 b off cs.length cap (fun j => cs.getD j ⟨0, by decide⟩) h2 h3 J Jx hY W hc' (fun j hj => (hW.cell (p := ⟨b, off + j, none⟩) (Nat.lt_of_lt_of_le h3 hn0)).trans (h4 j hj)) h0).mono ?_
    rintro e W' ⟨he, ⟨ys, rfl, hj⟩ | ⟨pre, _, hj⟩⟩
    · exact ⟨he, .inl ⟨_, rfl, hj⟩⟩
    · exact ⟨he, .inr ⟨_, trivial, hj⟩⟩

/-- Backward: the slice is boxed; the function value captures the box. -/
theorem back_any (a : Option Addr) (len cap : Nat) (w : World) :
    Calls Try.prog 59 #[.slice a len cap] w fun e w' => e = .returned (.func (.func 68) #[] #[.pointer (some ⟨w.heap.size, 0, none⟩)]) ∧ w' = w.alloc (.cells #[.slice a len cap] 38) := by
  go_enter Try.func59, Try.ntmps59
  go_wp2
  go_ret
  exact ⟨rfl, rfl⟩

/-! ### the value of a polynomial -/
def evalQ (x : Nat) : List Nat → Nat
  | [] => 0
  | c :: l => addQ (mulQ (evalQ x l) x) c
theorem evalQ_lt (x : Nat) (l : List Nat) : evalQ x l < 2305843009213688669 := by
  cases l with
  | nil => exact (by decide : 0 < 2305843009213688669)
  | cons c l => exact addQ_lt _ _
/-- one round of Horner's rule -/
def horner (x : Nat) (y : Nat) (p : Nat × Sc) : Nat := addQ (mulQ y x) p.2.1
def hrun (x : Nat) (l : List (Nat × Sc)) : Nat := l.foldl (horner x) 0
theorem hrun_snoc (x : Nat) (l : List (Nat × Sc)) (p : Nat × Sc) : hrun x (l ++ [p]) = horner x (hrun x l) p := by simp [hrun]
theorem hrun_lt (x : Nat) (l : List (Nat × Sc)) : hrun x l < 2305843009213688669 := by
  rcases List.eq_nil_or_concat l with rfl | ⟨l', p, rfl⟩
  · exact (by decide : 0 < 2305843009213688669)
  · rw [List.concat_eq_append, hrun_snoc]; exact addQ_lt _ _
theorem allBack_cons (c : Sc) (cs : List Sc) : (allBack (c :: cs)).map (·.2) = (allBack cs).map (·.2) ++ [c] := by
  unfold allBack upto
  rw [List.length_cons, List.range_succ, List.map_append, List.map_append]
  congr 1
  · rw [List.map_map, List.map_map]
    refine List.map_congr_left fun k hk => ?_
    have hk' := List.mem_range.1 hk
    show (item _ _ k).2 = (item _ _ k).2
    unfold item
    show (c :: cs).getD (cs.length + 1 - 1 - k) _ = cs.getD (cs.length - 1 - k) _
    rw [show cs.length + 1 - 1 - k = (cs.length - 1 - k) + 1 from by omega]
    rfl
  · simp [item]
theorem hrun_map (x : Nat) (l : List (Nat × Sc)) : hrun x l = (l.map (·.2)).foldl (fun y c => addQ (mulQ y x) c.1) 0 := by
  unfold hrun; rw [List.foldl_map]; rfl
theorem hrun_all (x : Nat) (cs : List Sc) : hrun x (allBack cs) = evalQ x (cs.map (·.1)) := by
  rw [hrun_map]
  induction cs with
  | nil => rfl
  | cons c cs ih =>
    rw [allBack_cons, List.foldl_append, ih]
    rfl

end Go.Proofs.Ytajcpbchpcnmaaa
