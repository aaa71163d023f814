/- Package acks: Decode. Package acks: Decode, walked. -/
import Derived.Test.YtmmppibbglacdaaDoorPk42
import Derived.Lib.LazyBuf
import Derived.Test.YtmmppibbglacdaaDoorPk40
set_option linter.unusedVariables false
set_option linter.unusedSimpArgs false
namespace Go.Proofs.YtmmppibbglacdaaDoor
open Go.RowKit Cod
/-- the first thirty-two bytes, noughts behind them -/
def chP (l : List UInt8) : List UInt8 := (List.range 32).map fun i => l.getD i 0
theorem chP_len (l : List UInt8) : (chP l).length = 32 := by simp [chP]
theorem chP_get (l : List UInt8) {i : Nat} (h : i < 32) : (chP l).getD i 0 = l.getD i 0 := by
  unfold chP
  rw [List.getD_eq_getElem?_getD, List.getElem?_map, List.getElem?_range h]; rfl
theorem chP_same {l : List UInt8} (h : l.length = 32) : chP l = l := by
  apply List.ext_getElem?
  intro i
  by_cases hi : i < 32
  · have h1 := chP_get l hi
    rw [List.getD_eq_getElem?_getD, List.getD_eq_getElem?_getD, List.getElem?_eq_getElem (by rw [chP_len]; exact hi), List.getElem?_eq_getElem (by omega)] at h1
    rw [List.getElem?_eq_getElem (by rw [chP_len]; exact hi), List.getElem?_eq_getElem (by omega)]
    simpa using h1
  · rw [List.getElem?_eq_none (by rw [chP_len]; omega), List.getElem?_eq_none (by omega)]
/-- the acknowledgement that a list of seven values names -/
def adecT (t : Tv) : Ak := ⟨(t.l.getD 0 tv0).n, (t.l.getD 1 tv0).n, (t.l.getD 2 tv0).n, (t.l.getD 3 tv0).n, chP (t.l.getD 4 tv0).s.data.toList, (t.l.getD 5 tv0).n, (t.l.getD 6 tv0).n⟩
def adecB (l : List UInt8) : Option Ak := match decF l with
  | none => none
  | some t => if t.l.length = 7 ∧ okA (adecT t) = true ∧ encA (adecT t) [(adecT t).r, (adecT t).g] = l then some (adecT t) else none
/-- what Decode answers -/
def adecE (l : List UInt8) : Int := match decF l with
  | none => 10
  | some t => if t.l.length = 7 ∧ okA (adecT t) = true ∧ encA (adecT t) [(adecT t).r, (adecT t).g] = l then 0 else 330
def adecV (l : List UInt8) : Ak := if adecE l = 0 then (match decF l with | none => ak0 | some t => adecT t) else ak0
theorem toList_loop (s : ByteArray) : ∀ (k i : Nat) (r : List UInt8), s.size - i = k → ByteArray.toList.loop s i r = r.reverse ++ s.data.toList.drop i
  | 0, i, r, h => by
    unfold ByteArray.toList.loop
    rw [if_neg (by omega), List.drop_eq_nil_of_le (by rw [Array.length_toList]; show s.size ≤ i; omega), List.append_nil]
  | k + 1, i, r, h => by
    have hi : i < s.data.toList.length := by rw [Array.length_toList]; show i < s.size; omega
    unfold ByteArray.toList.loop
    rw [if_pos (by omega), toList_loop s k (i + 1) _ (by omega), List.drop_eq_getElem_cons hi]
    have hg : s.get! i = s.data.toList[i] := by
      show s.data[i]! = _
      have hi2 : i < s.data.size := by rw [← Array.length_toList]; exact hi
      rw [getElem!_pos s.data i hi2, Array.getElem_toList]
    rw [hg]
    simp
theorem toList_data (s : ByteArray) : s.toList = s.data.toList := by
  unfold ByteArray.toList
  rw [toList_loop s _ 0 [] rfl]; rfl
theorem bytes_eq (a b : List UInt8) : ((ByteArray.mk a.toArray).toList == (ByteArray.mk b.toArray).toList) = decide (a = b) := by
  rw [toList_data, toList_data]
  show ((a.toArray.toList) == (b.toArray.toList)) = _
  rw [Bool.eq_iff_iff]
  simp
/-- copy from a string into a row -/
theorem run_copy_string_min {P : Program} (w : World) (dT sT ty elem : TypeId) (b o dLen dCap : Nat) (t : ByteArray) (n : Nat) (hn : n = Nat.min t.size dLen)
    (hu : P.underlying dT = some (.slice elem)) (hz : ∀ w, (Go.sizeOf elem).run P w = .ok 1 w)
    (hc : ∀ j, j < n → (w.cell? ⟨b, o + j, none⟩).isSome = true) (hf : ∀ j, j < n → w.frozen? ⟨b, o + j, none⟩ = false) :
    (Builtin.copy_ #[dT, sT] ty #[.slice (some ⟨b, o, none⟩) dLen dCap, .string t]).run P w = .ok (goInt n) (w.setCells b o ((t.data.toList.map vB).take n)) := by
  have h0 : t.data.toList.length = t.size := Array.length_toList
  have hl : ((t.data.toList.map vB).take n).length = n := by rw [List.length_take, List.length_map, h0, hn]; exact Nat.min_eq_left (Nat.min_le_left _ _)
  have hst := run_storeCells_cells (P := P) b o ((t.data.toList.map vB).take n) 0 w (by rw [hl]; simpa using hc) (by rw [hl]; simpa using hf) (by
    intro v hv
    obtain ⟨x, _, rfl⟩ := List.mem_map.1 (List.mem_of_mem_take hv)
    rfl)
  subst hn
  simp [Builtin.copy_, run_underlying hu, Builtin.lenOf, Builtin.firstCells, hz]
  rw [hst]
  rfl
theorem wpList_copy_string {P : Program} {w : World} {ops : Array Oper} {rest : List Oper} {o : Oper} {a : Act} {Q : Exit → Act → World → Prop} (hgd : o.guard = none) (d s : Operand) (dT sT : TypeId)
    (ho : o.op = .call { callee := .builtin .copy, args := #[d, s], argTypes := #[dT, sT] }) (elem : TypeId) (hu : P.underlying dT = some (.slice elem)) (hz : ∀ w, (Go.sizeOf elem).run P w = .ok 1 w)
    (g off dLen dCap : Nat) (t : ByteArray) (hd : a.eval d = .slice (some ⟨g, off, none⟩) dLen dCap) (hs : a.eval s = .string t)
    (N : Nat) (T : TypeId) (f f' : Nat → Value) (hrow : RowV w g T N f) (hfit : off + dLen ≤ N)
    (hf' : ∀ i, i < N → (if off ≤ i ∧ i < off + Nat.min t.size dLen then vB (t.data.toList.getD (i - off) 0) else f i) = f' i)
    (h : ∀ w', Hid (RowV w' g T N f') → Hid (OnlyB g w w') → wpList P ops Q rest (a.put o.dst (goInt (Nat.min t.size dLen))) w') :
    wpList P ops Q (o :: rest) a w := by
  refine wpList_plain hgd fun K hK => ?_
  obtain ⟨n, hn⟩ : ∃ n, Nat.min t.size dLen = n := ⟨_, rfl⟩
  have hle : n ≤ dLen := by rw [← hn]; exact Nat.min_le_right _ _
  have hlt : n ≤ t.size := by rw [← hn]; exact Nat.min_le_left _ _
  rw [hn] at h hf'
  have hrun := run_copy_string_min (P := P) w dT sT o.type elem g off dLen dCap t n hn.symm hu hz (fun j hj => by rw [hrow.cell (by omega)]; rfl) (fun j hj => hrow.frozen _)
  have h0 : t.data.toList.length = t.size := Array.length_toList
  unfold Oper.wp
  simp [execOp, ho, resolve, invoke, builtin, hd, hs, hrun, Result.andThen]
  refine hK _ _ (h _ ?_ (setCells_only _ _ _))
  refine RowV.congr (setCells_rowV _ _ _ _ hrow) (fun i hi => ?_)
  rw [← hf' i hi, List.length_take, List.length_map, h0, Nat.min_eq_left hlt]
  by_cases h2 : off ≤ i ∧ i < off + n
  · rw [if_pos h2, if_pos h2, List.getD_eq_getElem?_getD, List.getElem?_take_of_lt (by omega), List.getElem?_map, List.getElem?_eq_getElem (show i - off < t.data.toList.length by omega), List.getD_eq_getElem?_getD, List.getElem?_eq_getElem (show i - off < t.data.toList.length by omega)]
    rfl
  · rw [if_neg h2, if_neg h2]
theorem chain_cells (a : Ak) (l : List UInt8) (n : Nat) (hn : n = Nat.min l.length 32) (hz : a.ch = z32) : ∀ i, i < 38 → (if 4 ≤ i ∧ i < 4 + n then vB (l.getD (i - 4) 0) else akC a i) = akC ⟨a.f, a.d, a.s, a.u, chP l, a.r, a.g⟩ i := by
  intro i hi
  have h32 : n ≤ 32 := by rw [hn]; exact Nat.min_le_right _ _
  unfold akC
  by_cases h1 : 4 ≤ i ∧ i < 36
  · rw [if_pos h1, if_pos h1, chP_get l (by omega)]
    by_cases h2 : 4 ≤ i ∧ i < 4 + n
    · rw [if_pos h2]
    · rw [if_neg h2, hz]
      have h3 : l.length ≤ i - 4 := by
        have h4 : l.length ≤ 32 := by
          rcases Nat.le_total l.length 32 with h | h
          · exact h
          · rw [hn, show Nat.min l.length 32 = 32 from Nat.min_eq_right h] at h2; omega
        rw [hn, show Nat.min l.length 32 = l.length from Nat.min_eq_left h4] at h2; omega
      rw [List.getD_eq_getElem?_getD, List.getD_eq_getElem?_getD, List.getElem?_eq_none h3]
      unfold z32
      rw [List.getElem?_replicate, if_pos (by omega)]; rfl
  · rw [if_neg h1, if_neg h1, if_neg (by omega)]
    rcases (show i = 0 ∨ i = 1 ∨ i = 2 ∨ i = 3 ∨ i = 36 ∨ i = 37 by omega) with rfl | rfl | rfl | rfl | rfl | rfl <;> rfl
theorem sizeOf_u8 : ∀ w, (Go.sizeOf 5).run Tryd.prog w = .ok 1 w := fun w => by kernel_rfl
end Go.Proofs.YtmmppibbglacdaaDoor

namespace Go.Proofs.YtmmppibbglacdaaDoor
open Go.RowKit Cod
theorem CodAt.parts {w : World} {f : Nat → Value} {t : Tv} (h : CodAt w (.agg (rowF 4 f)) t) : f 1 = .int .i64 t.n ∧ i64B t.n ∧ f 2 = .string t.s := by
  obtain ⟨k, n, s, l⟩ := t
  obtain ⟨a, cap, c, e, _, hn, _⟩ := h.open
  have e1 := Value.agg.inj e
  have e2 : ∀ j : Nat, (rowF 4 f)[j]? = (#[.int .i64 k, .int .i64 n, .string s, .slice a l.length cap] : Array Value)[j]? := fun j => by rw [e1]
  have h1 := e2 1
  have h2 := e2 2
  rw [rowF_get (by decide)] at h1 h2
  exact ⟨Option.some.inj h1, hn, Option.some.inj h2⟩
theorem stay_cell {S : Nat → Prop} {w W : World} {b off : Nat} (hS : S b) (hr : (Tc.Rl.stay S).r w W) : W.cell? ⟨b, off, none⟩ = w.cell? ⟨b, off, none⟩ := World.cell?_of_block (w := w) (w' := W) (a := ⟨b, off, none⟩) (hr b hS)
/-- the cells of a slice's elements -/
def SCl (s : Nat) (w : World) (b off n : Nat) (c : Nat → Nat → Value) : Prop := b < w.heap.size ∧ ∀ i, i < n → ∀ j, j < s → w.cell? ⟨b, off + s * i + j, none⟩ = some (c i j)
theorem SCl.below {s : Nat} {w w' : World} {b off n : Nat} {c : Nat → Nat → Value} (h : SCl s w b off n c) (hb : Below w.heap.size w w') : SCl s w' b off n c :=
  ⟨Nat.lt_of_lt_of_le h.1 hb.size, fun i hi j hj => (hb.cell (p := ⟨b, off + s * i + j, none⟩) h.1).trans (h.2 i hi j hj)⟩
end Go.Proofs.YtmmppibbglacdaaDoor
