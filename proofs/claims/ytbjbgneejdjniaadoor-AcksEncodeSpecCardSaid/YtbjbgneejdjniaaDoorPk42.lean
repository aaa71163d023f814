/- Values of the codec in memory. Entries that are gone: the iterator over them, for every loop body. Package acks: Wrong. -/
import Derived.Test.YtbjbgneejdjniaaDoorPk11
import Derived.Test.YtbjbgneejdjniaaDoorPk7
import Derived.Test.YtbjbgneejdjniaaDoorPk18
import Derived.Deep.MidRow
import Derived.RangeFuncNested
import Derived.RangeFuncBound
import Derived.RangeFuncCalls
import Derived.RangeFuncLeaves
import Derived.RangeFuncBox
import Derived.Shelf.Abstract
import Derived.Shelf.RegionOpen
import Derived.WalkKit
import Derived.OwnWalkIn
import Derived.TacticsInMore
import Derived.LoopNIn
import Derived.LoopIn
import Derived.Maps.AppendAt
set_option linter.unusedVariables false
set_option linter.unusedSimpArgs false
namespace Go.Proofs.YtbjbgneejdjniaaDoor
open Go.RowKit Cod

/-- a slice of n elements of s cells each: element i's cell j is c i j -/
def SlAt (s : Nat) (w : World) (v : Value) (n : Nat) (c : Nat → Nat → Value) : Prop :=
  ((∃ (a : Option Addr) (k : Nat), v = .slice a 0 k ∧ (a = none → k = 0)) ∧ n = 0) ∨
  ∃ b off cap : Nat, v = .slice (some ⟨b, off, none⟩) n cap ∧ n ≤ cap ∧ 0 < n ∧ ((n : Int) ≤ 140737488351232 ∧ (cap : Int) ≤ 9223372036854775807) ∧ b < w.heap.size ∧ ∀ i, i < n → ∀ j, j < s → w.cell? ⟨b, off + s * i + j, none⟩ = some (c i j)
section
variable {s : Nat} {w w' : World} {v : Value} {n : Nat} {c c' : Nat → Nat → Value}
theorem SlAt.below (h : SlAt s w v n c) (hb : Below w.heap.size w w') : SlAt s w' v n c := by
  rcases h with h | ⟨b, off, cap, h1, h2, h3, h4, h5, h6⟩
  · exact .inl h
  · exact .inr ⟨b, off, cap, h1, h2, h3, h4, Nat.lt_of_lt_of_le h5 hb.size, fun i hi j hj => (hb.cell (p := ⟨b, off + s * i + j, none⟩) h5).trans (h6 i hi j hj)⟩
theorem SlAt.slice (h : SlAt s w v n c) : ∃ (a : Option Addr) (k : Nat), v = .slice a n k := by
  rcases h with ⟨⟨a, k, rfl, _⟩, rfl⟩ | ⟨b, off, cap, rfl, _⟩
  · exact ⟨a, k, rfl⟩
  · exact ⟨_, _, rfl⟩
theorem SlAt.len_le (h : SlAt s w v n c) : (n : Int) ≤ 140737488351232 := by
  rcases h with ⟨_, rfl⟩ | ⟨_, _, _, _, _, _, h4, _⟩
  · decide
  · exact h4.1
theorem SlAt.congr (h : SlAt s w v n c) (he : ∀ i, i < n → ∀ j, j < s → c i j = c' i j) : SlAt s w v n c' := by
  rcases h with h | ⟨b, off, cap, h1, h2, h3, h4, h5, h6⟩
  · exact .inl h
  · exact .inr ⟨b, off, cap, h1, h2, h3, h4, h5, fun i hi j hj => by rw [h6 i hi j hj, he i hi j hj]⟩
/-- the slice at an element -/
theorem SlAt.at_elem {a : Option Addr} {k : Nat} (h : SlAt s w (.slice a n k) n c) {i : Nat} (hi : i < n) : ∃ b off, a = some ⟨b, off, none⟩ ∧ n ≤ k ∧ b < w.heap.size ∧ ∀ i, i < n → ∀ j, j < s → w.cell? ⟨b, off + s * i + j, none⟩ = some (c i j) := by
  rcases h with ⟨_, rfl⟩ | ⟨b, off, cap, h1, h2, h3, h4, h5, h6⟩
  · exact absurd hi (by omega)
  · cases h1; exact ⟨b, off, rfl, h2, h5, h6⟩
end
/-- an element of several cells is read out of a slice -/
theorem wpList_load_elem {P : Program} {w : World} {ops : Array Oper} {rest : List Oper} {o : Oper} {a : Act} {Q : Exit → Act → World → Prop} (hgd : o.guard = none) (ty : TypeId) (x : Operand) (ho : o.op = .load ty x)
    (g off : Nat) (hx : a.eval x = .pointer (some ⟨g, off, none⟩)) (N base i : Nat) (hoff : off = base + N * i) (f : Nat → Value) (hc : ∀ j, j < N → w.cell? ⟨g, base + N * i + j, none⟩ = some (f j))
    (d : TypeDesc) (hu : P.underlying ty = some d) (hd : d.isRow = true) (hi : (P.info? ty).map (·.size) = some N)
    (h : wpList P ops Q rest (a.put o.dst (.agg (rowF N f))) w) : wpList P ops Q (o :: rest) a w := by
  refine wpList_load_mid hgd ty x ho g off hx ((List.range N).map f) d (fun j v hv => ?_) hu hd (by simpa using hi) h
  have hj : j < N := by have := (List.getElem?_eq_some_iff.1 hv).1; simpa using this
  have hv' : v = f j := by simpa [hj] using hv.symm
  rw [hoff, hc j hj, hv']

/-- the four cells of a value -/
def valC (k n : Int) (s : ByteArray) (sl : Value) : Nat → Value
  | 0 => .int .i64 k
  | 1 => .int .i64 n
  | 2 => .string s
  | _ => sl
def i64B (z : Int) : Prop := -9223372036854775808 ≤ z ∧ z < 9223372036854775808
/-- the value reads as this tree -/
inductive CodAt (w : World) : Value → Tv → Prop
  | mk (k n : Int) (s : ByteArray) (sl : Value) (l : List Tv) (c : Nat → Nat → Value) (hk : i64B k) (hn : i64B n) (hs : (s.size : Int) ≤ 140737488351232) (hl : SlAt 4 w sl l.length c)
      (h : ∀ i, i < l.length → CodAt w (.agg (rowF 4 (c i))) (l.getD i tv0)) : CodAt w (.agg #[.int .i64 k, .int .i64 n, .string s, sl]) (.mk k n s l)
theorem CodAt.later {w w' : World} {v : Value} {t : Tv} (h : CodAt w v t) (hb : Below w.heap.size w w') : CodAt w' v t := by
  induction h with
  | mk k n s sl l c hk hn hs hl _ ih => exact .mk k n s sl l c hk hn hs (hl.below hb) ih
/-- opened -/
theorem CodAt.open {w : World} {v : Value} {k n : Int} {s : ByteArray} {l : List Tv} (h : CodAt w v (.mk k n s l)) :
    ∃ (a : Option Addr) (cap : Nat) (c : Nat → Nat → Value), v = .agg #[.int .i64 k, .int .i64 n, .string s, .slice a l.length cap] ∧ i64B k ∧ i64B n ∧ (s.size : Int) ≤ 140737488351232 ∧ SlAt 4 w (.slice a l.length cap) l.length c ∧
      ∀ i, i < l.length → CodAt w (.agg (rowF 4 (c i))) (l.getD i tv0) := by
  cases h with
  | mk _ _ _ sl _ c hk hn hs hl hi =>
    obtain ⟨a, cap, rfl⟩ := hl.slice
    exact ⟨a, cap, c, rfl, hk, hn, hs, hl, hi⟩
theorem CodAt.cells {w : World} {f : Nat → Value} {t : Tv} (h : CodAt w (.agg (rowF 4 f)) t) : ∀ j, j < 4 → (f j).oneCell' = true := by
  obtain ⟨k, n, s, l⟩ := t
  obtain ⟨a, cap, c, e, _⟩ := h.open
  have e1 := Value.agg.inj e
  have e2 : ∀ j : Nat, (rowF 4 f)[j]? = (#[.int .i64 k, .int .i64 n, .string s, .slice a l.length cap] : Array Value)[j]? := fun j => by rw [e1]
  intro j hj
  have h2 := e2 j
  rw [rowF_get hj] at h2
  match j, hj, h2 with
  | 0, _, h2 => rw [Option.some.inj h2]; rfl
  | 1, _, h2 => rw [Option.some.inj h2]; rfl
  | 2, _, h2 => rw [Option.some.inj h2]; rfl
  | 3, _, h2 => rw [Option.some.inj h2]; rfl
def zeroC : Nat → Value := valC 0 0 ByteArray.empty (.slice none 0 0)
theorem info_val : (Tryd.prog.info? 51).map (·.size) = some 4 := by kernel_rfl
theorem valC_agg (k n : Int) (s : ByteArray) (sl : Value) : Value.agg (rowF 4 (valC k n s sl)) = .agg #[.int .i64 k, .int .i64 n, .string s, sl] := rfl
/-- a leaf: a number -/
theorem CodAt.num (w : World) {n : Int} (hn : i64B n) {sl : Value} (hs : sl = .slice none 0 0) : CodAt w (.agg #[.int .i64 1, .int .i64 n, .string ByteArray.empty, sl]) (.mk 1 n ByteArray.empty []) := by
  subst hs
  exact .mk 1 n ByteArray.empty _ [] (fun _ _ => .int .i64 0) ⟨by decide, by decide⟩ hn (by decide) (.inl ⟨⟨none, 0, rfl, fun _ => rfl⟩, rfl⟩) (fun i hi => absurd hi (by simp))
/-- a leaf: a text -/
theorem CodAt.text (w : World) {s : ByteArray} (hs : (s.size : Int) ≤ 140737488351232) : CodAt w (.agg #[.int .i64 2, .int .i64 0, .string s, .slice none 0 0]) (.mk 2 0 s []) :=
  .mk 2 0 s _ [] (fun _ _ => .int .i64 0) ⟨by decide, by decide⟩ ⟨by decide, by decide⟩ hs (.inl ⟨⟨none, 0, rfl, fun _ => rfl⟩, rfl⟩) (fun i hi => absurd hi (by simp))

/-! what a tree says of its list, from place k on -/
theorem take_succ_getD {α : Type} (d : α) (l : List α) {k : Nat} (h : k < l.length) : l.take (k + 1) = l.take k ++ [l.getD k d] := by
  rw [List.take_succ_eq_append_getElem h, List.getD_eq_getElem?_getD, List.getElem?_eq_getElem h]; rfl
theorem depthL_take (l : List Tv) {k : Nat} (h : k < l.length) : depthL (l.take (k + 1)) = max (depthL (l.take k)) (depthN (l.getD k tv0)) := by
  rw [take_succ_getD tv0 l h, depthL_append, depthL_one]
theorem formL_take (l : List Tv) {k : Nat} (h : k < l.length) : formL (l.take (k + 1)) = (formL (l.take k) && formB (l.getD k tv0)) := by
  rw [take_succ_getD tv0 l h, formL_append, formL_one]
theorem encL_take (l : List Tv) {k : Nat} (h : k < l.length) : encL (l.take (k + 1)) = encL (l.take k) ++ encV (l.getD k tv0) := by
  rw [take_succ_getD tv0 l h, encL_append, encL_one]
theorem formL_no {l : List Tv} {k : Nat} (h : k < l.length) (hf : formB (l.getD k tv0) = false) : formL l = false := by
  have h1 : l = l.take (k + 1) ++ l.drop (k + 1) := (List.take_append_drop _ _).symm
  rw [h1, formL_append, formL_take l h, hf, Bool.and_false, Bool.false_and]
end Go.Proofs.YtbjbgneejdjniaaDoor

namespace Go.Proofs.YtbjbgneejdjniaaDoor
open Go.RowKit
attribute [local go_sem] Oper.semAt_some
structure En where
  k : Int
  dg : List UInt8
  sp : Option Addr
  sn : Nat
  sc : Nat
  g : Bool
def en0 : En := ⟨0, List.replicate 32 0, none, 0, 0, false⟩
/-- the cells of an entry -/
def enC (e : En) (j : Nat) : Value := if j = 0 then .int .i64 e.k else if j < 33 then vB (e.dg.getD (j - 1) 0) else if j = 33 then .slice e.sp e.sn e.sc else .bool e.g
theorem enC_one (e : En) (j : Nat) : (enC e j).oneCell' = true := by unfold enC; split; rfl; split; rfl; split <;> rfl
def goneU (es : List En) (k : Nat) : List (Nat × En) := ((List.range k).filter fun i => (es.getD i en0).g).map fun i => (i + 1, es.getD i en0)
theorem goneU_succ (es : List En) (k : Nat) : goneU es (k + 1) = if (es.getD k en0).g = true then goneU es k ++ [(k + 1, es.getD k en0)] else goneU es k := by
  unfold goneU
  rw [List.range_succ, List.filter_append, List.map_append]
  cases h : (es.getD k en0).g <;> (rw [List.getD_eq_getElem?_getD] at h; simp [h])
theorem goneU_len (es : List En) (k : Nat) : (goneU es k).length ≤ k := by
  unfold goneU; rw [List.length_map]; exact Nat.le_trans (List.length_filter_le _ _) (by simp)
section
variable {F : Fence} {n : Nat} {P : Program} {w w' : World} {ops : Array Oper} {rest : List Oper} {o : Oper} {a : Act} {Q : Exit → Act → World → Prop}
theorem wpListIn_unguard (hw : Region.wanted o (yielded ops a.tmps) = true) (h : wpListIn F n P ops Q ({ o with guard := none } :: rest) a w) : wpListIn F n P ops Q (o :: rest) a w := by
  unfold wpListIn at h ⊢
  rw [if_pos hw]
  rw [if_pos (show Region.wanted { o with guard := none } (yielded ops a.tmps) = true from rfl)] at h
  exact h
theorem wpListIn_value (hgd : o.guard = none) (hd : ∀ c, o.op ≠ .defer c) (hab : o.about P w a.eval = none) (v : Value) (hrun : (execOp a.eval o).run P w = .ok (.value v) w') (h : wpListIn F n P ops Q rest (a.put o.dst v) w') : wpListIn F n P ops Q (o :: rest) a w := by
  refine wpListIn_plain hgd fun K hK => ?_
  unfold Oper.wpIn
  refine ⟨fun f hf => (by rw [hab] at hf; cases hf), ?_⟩
  rw [Oper.semAt_plain F _ _ hd, hrun]
  exact hK _ _ h
theorem wpListIn_load_elem (hgd : o.guard = none) (ty : TypeId) (x : Operand) (ho : o.op = .load ty x)
    (g off : Nat) (hx : a.eval x = .pointer (some ⟨g, off, none⟩)) (N base i : Nat) (hoff : off = base + N * i) (f : Nat → Value) (hc : ∀ j, j < N → w.cell? ⟨g, base + N * i + j, none⟩ = some (f j))
    (d : TypeDesc) (hu : P.underlying ty = some d) (hd : d.isRow = true) (hi : (P.info? ty).map (·.size) = some N)
    (h : wpListIn F n P ops Q rest (a.put o.dst (.agg (rowF N f))) w) : wpListIn F n P ops Q (o :: rest) a w := by
  refine wpListIn_value hgd (by rw [ho]; intro c hc'; cases hc') (by unfold Oper.about; rw [ho]) _ ?_ h
  have hr : w.rangeAt g off ((List.range N).map f) := by
    intro j v hv
    have hj : j < N := by have := (List.getElem?_eq_some_iff.1 hv).1; simpa using this
    have hv' : v = f j := by simpa [hj] using hv.symm
    rw [hoff, hc j hj, hv']
  unfold execOp
  simp only [ho, hx, Instr.loadAt, Instr.sureAddr, Sem.run_bind, Sem.run_pure, Result.andThen_ok, run_loadVar_mid w g off ty ((List.range N).map f) d hr hu hd (by simpa using hi)]
  rfl
theorem wpListIn_load_rowV (hgd : o.guard = none) (ty : TypeId) (x : Operand) (ho : o.op = .load ty x) (g : Nat) (hx : a.eval x = .pointer (some ⟨g, 0, none⟩)) (N : Nat) (T : TypeId) (f : Nat → Value) (hrow : RowV w g T N f)
    (d : TypeDesc) (hu : P.underlying ty = some d) (hd : d.isRow = true) (hi : (P.info? ty).map (·.size) = some N)
    (h : wpListIn F n P ops Q rest (a.put o.dst (.agg (rowF N f))) w) : wpListIn F n P ops Q (o :: rest) a w :=
  wpListIn_load_elem hgd ty x ho g 0 hx N 0 0 (by simp) f (fun j hj => by have := hrow.cell hj; simpa using this) d hu hd hi h
theorem wpListIn_store_rowV (hgd : o.guard = none) (ty : TypeId) (x y : Operand) (ho : o.op = .store ty x y) (g : Nat) (hx : a.eval x = .pointer (some ⟨g, 0, none⟩)) (N : Nat) (T : TypeId) (f f' : Nat → Value) (hy : a.eval y = .agg (rowF N f'))
    (hrow : RowV w g T N f) (hi : (P.info? ty).map (·.size) = some N) (h1 : ∀ j, j < N → (f' j).oneCell' = true)
    (h : ∀ w', Hid (RowV w' g T N f') → Hid (OnlyB g w w') → wpListIn F n P ops Q rest (a.put o.dst undef) w') : wpListIn F n P ops Q (o :: rest) a w := by
  refine wpListIn_plain hgd fun K hK => ?_
  have hrun := run_storeVar_rowV (P := P) w g ty N T f f' hrow hi h1
  unfold Oper.wpIn
  refine ⟨fun f hf => (by unfold Oper.about at hf; rw [ho] at hf; cases hf), ?_⟩
  rw [Oper.semAt_plain F _ _ (by rw [ho]; intro c hc'; cases hc')]
  unfold execOp
  simp only [ho, hx, hy, Instr.storeAt, Instr.sureAddr, Sem.run_bind, Sem.run_pure, Result.andThen_ok, hrun]
  exact hK _ _ (h _ (setRow_rowV hrow _) (setRow_only _ _ _))
end
set_option maxRecDepth 100000 in
set_option maxHeartbeats 4000000 in
theorem gone1_in (n l Bs n₀ b off cap len : Nat) (es : List En) (hlen : es.length = len) (hreach : (len : Int) ≤ 1000) (hb : b < n₀) (B0 : Nat) (J Jx : List (Nat × En) → World → Prop) (hJ : AbidesFrom B0 J) (hB0 : n₀ ≤ B0)
    (hY : ∀ pre x W, J pre W → pre.length < len → YieldAt Fence.wide (n - 1) Tryd.prog l #[.int .i64 ((x.1 : Nat) : Int), .agg (rowF 35 (enC x.2))] W fun e W' =>
      (e = .returned (.bool true) ∧ J (pre ++ [x]) W' ∧ Below n₀ W W') ∨ (e = .returned (.bool false) ∧ Jx (pre ++ [x]) W'))
    (W : World) (hBs : W.cell? ⟨Bs, 0, none⟩ = some (.slice (some ⟨b, off, none⟩) len cap)) (hcap : len ≤ cap) (hsz : B0 ≤ W.heap.size) (hc : ∀ i, i < len → ∀ j, j < 35 → W.cell? ⟨b, off + 35 * i + j, none⟩ = some (enC (es.getD i en0) j)) (h0 : J [] W) :
    CallsIn Fence.wide n Tryd.prog 56 #[.func (.yield l) #[] #[], .pointer (some ⟨Bs, 0, none⟩)] W fun e W' => (∃ v, e = .returned v) ∧
      ((∃ ys, ys = goneU es len ∧ J ys W') ∨ (∃ pre, True ∧ Jx pre W')) := by
  refine callsIn_of_wp Tryd.func56 rfl trivial ?_ rfl
  simp only [Tryd.ntmps56, List.size_toArray, List.length_cons, List.length_nil, Nat.reduceAdd, Nat.reduceSub, Array.replicate_succ, Array.replicate_zero, List.push_toArray, List.append_toArray, List.nil_append, List.cons_append]
  have HC := Lib.hid hc
  have HL := Lib.hid hlen
  have H0 := Lib.hid h0
  have HY := Lib.hid hY
  have HJ := Lib.hid hJ
  have HCAP := Lib.hid hcap
  have HB0 := Lib.hid hB0
  have HSZ := Lib.hid hsz
  have HB := Lib.hid hb
  clear hc hlen h0 hY hJ hcap hB0 hsz hb
  gi_wp2
  gi_loopw [7] (fun i wr => ∃ k : Nat, Hid (k ≤ len) ∧ i = .int .i64 k ∧ Hid (J (goneU es k) wr) ∧ Hid (Below n₀ W wr))
    (fun i _ => len - (intOf i).toNat)
  case atStart => exact ⟨0, Lib.hid (Nat.zero_le _), rfl, H0, Lib.hid (Below.refl _ _)⟩
  case round =>
    obtain ⟨k, hk, rfl, hJs, hnx⟩ := hrel
    obtain ⟨e, he⟩ : ∃ y, es.getD k en0 = y := ⟨_, rfl⟩
    by_cases hlt : k < len
    · have HLT := Lib.hid hlt
      have p1 : (k : Int) < (len : Int) := by omega
      have q0 : (0 : Int) ≤ (k : Int) := Int.natCast_nonneg k
      have HCX : Hid (∀ j, j < 35 → wr.cell? ⟨b, off + 35 * k + j, none⟩ = some (enC e j)) := Lib.hid (fun j hj => (hnx.out.cell (p := ⟨b, off + 35 * k + j, none⟩) HB.out).trans (by rw [← he]; exact HC.out k HLT.out j hj))
      have SU := Lib.hid (goneU_succ es k)
      rw [he] at SU
      clear hlt he
      have Zr := Lib.hid (RowV.new wr 45 35 (enC en0))
      gi_wp2_with (first
        | ((with_reducible (show wpListIn _ _ _ _ _ (Oper.mk (some 11) _ _ _ _ _ :: _) _ _)); refine wpListIn_load_elem rfl 45 (.tmp 10) rfl b (off + k * 35) rfl 35 off k (by rw [Nat.mul_comm]) (enC e) HCX.out _ Tryd.underlying45 rfl (by kernel_rfl) ?_)
        | ((with_reducible (show wpListIn _ _ _ _ _ (Oper.mk none _ _ _ _ _ :: _) _ _)); refine Hid.out ?_))
      refine Lib.hid ?_
      refine wpListIn_store_rowV rfl 45 (.tmp 4) (.tmp 11) rfl wr.heap.size rfl 35 45 (enC en0) _ rfl Zr.out (by kernel_rfl) (fun j _ => enC_one e j) ?_
      intro w2 R2 O2
      have b2 : Below wr.heap.size wr w2 := ((Below.refl _ wr).alloc (Nat.le_refl _) _).trans (O2.out.below (Nat.le_refl _) (by rw [World.size_alloc]; omega))
      have HN : n₀ ≤ wr.heap.size := Nat.le_trans HB0.out (Nat.le_trans HSZ.out hnx.out.size)
      have J2 := Lib.hid (HJ.out _ wr w2 none hJs.out ⟨b2.os, b2.tape, b2.output, b2.size, fun i hi _ => b2.block i hi⟩ (fun r hr => by cases hr))
      have N2 := Lib.hid (hnx.out.trans (b2.mono HN))
      have x2 : w2.cell? ⟨wr.heap.size, 34, none⟩ = some (.bool e.g) := R2.out.cell (i := 34) (by decide)
      have p2 : (k : Int) + 1 ≤ 1000 := by omega
      clear b2 HN O2 HCX hJs Zr hnx
      by_cases hg : e.g = true
      · obtain ⟨fn, tmps, assign, body, hy, hR⟩ := HY.out (goneU es k) (k + 1, e) w2 J2.out (Nat.lt_of_le_of_lt (goneU_len es k) HLT.out)
        dsimp only at hy
        rw [show ((k + 1 : Nat) : Int) = (k : Int) + 1 from by push_cast; rfl] at hy
        rw [if_pos hg] at SU
        rw [hg] at x2
        clear hg HY
        gi_wp2_with ((with_reducible (show wpListIn _ _ _ _ _ (Oper.mk (some 18) _ _ _ _ _ :: _) _ _)); refine wpListIn_unguard rfl ?_; refine wpListIn_load_rowV rfl 45 (.tmp 4) rfl wr.heap.size rfl 35 45 (enC e) R2.out _ Tryd.underlying45 rfl (by kernel_rfl) ?_)
        refine ⟨fun h => (by simp [Fence.wide] at h), ?_⟩
        refine hR.mono ?_
        clear hR hy R2 x2
        rintro e3 w3 (⟨rfl, J3, k3⟩ | ⟨rfl, J3⟩)
        · have N3 := Lib.hid (N2.out.trans k3)
          have HJ3 := Lib.hid J3
          clear J3 k3 N2 J2
          gi_wp2
          go_roundw
          case rel => exact ⟨k + 1, HLT, by go_num, by rw [SU.out]; exact HJ3, N3⟩
          case measure => have := HLT.out; simp [intOf]; omega
        · have HJ3 := Lib.hid J3
          clear J3 N2 J2
          gi_wp2
          refine bodyPost_ret (results_none rfl _ _ _) rfl ?_
          exact ⟨⟨_, rfl⟩, .inr ⟨_, trivial, HJ3.out⟩⟩
      · have hg' : e.g = false := by simpa using hg
        rw [if_neg hg] at SU
        rw [hg'] at x2
        clear hg hg' HY R2
        gi_wp2
        refine ⟨fun _ h => (by cases h), ?_⟩
        gi_wp2
        go_roundw
        case rel => exact ⟨k + 1, HLT, by go_num, by rw [SU.out]; exact J2, N2⟩
        case measure => have := HLT.out; simp [intOf]; omega
    · obtain rfl : k = len := by have := hk.out; omega
      clear hlt
      gi_wp2
      go_end0
      exact ⟨⟨_, rfl⟩, .inl ⟨_, rfl, hJs.out⟩⟩
set_option maxRecDepth 100000 in
set_option maxHeartbeats 1000000 in
/-- .. at an empty slice: no round -/
theorem gone1_nil_in (n l Bs cap : Nat) (a : Option Addr) (J : List (Nat × En) → World → Prop) (W : World) (hBs : W.cell? ⟨Bs, 0, none⟩ = some (.slice a 0 cap)) (h0 : J [] W) :
    CallsIn Fence.wide n Tryd.prog 56 #[.func (.yield l) #[] #[], .pointer (some ⟨Bs, 0, none⟩)] W fun e W' => (∃ v, e = .returned v) ∧ J [] W' := by
  refine callsIn_of_wp Tryd.func56 rfl trivial ?_ rfl
  simp only [Tryd.ntmps56, List.size_toArray, List.length_cons, List.length_nil, Nat.reduceAdd, Nat.reduceSub, Array.replicate_succ, Array.replicate_zero, List.push_toArray, List.append_toArray, List.nil_append, List.cons_append]
  gi_wp2
  gi_loopw [7] (fun i wr => i = .int .i64 0 ∧ J [] wr) (fun _ _ => 0)
  case atStart => exact ⟨rfl, h0⟩
  case round =>
    obtain ⟨rfl, hJs⟩ := hrel
    gi_wp2
    go_end0
    exact ⟨⟨_, rfl⟩, hJs⟩
set_option maxHeartbeats 1000000 in
theorem gone_in (n : Nat) (a : Option Addr) (len cap : Nat) (w : World) :
    CallsIn Fence.wide n Tryd.prog 31 #[.slice a len cap] w fun e w' => e = .returned (.func (.func 56) #[] #[.pointer (some ⟨w.heap.size, 0, none⟩)]) ∧ w' = w.alloc (.cells #[.slice a len cap] 39) := by
  refine callsIn_of_wp Tryd.func31 rfl trivial ?_ rfl
  simp only [Tryd.ntmps31, List.size_toArray, List.length_cons, List.length_nil, Nat.reduceAdd, Nat.reduceSub, Array.replicate_succ, Array.replicate_zero, List.push_toArray, List.append_toArray, List.nil_append, List.cons_append]
  gi_wp2
  go_ret
  exact ⟨rfl, rfl⟩
def EnS (w : World) (v : Value) (es : List En) : Prop := SlAt 35 w v es.length (fun i => enC (es.getD i en0))
theorem gone_stops (n Bs : Nat) (w0 w : World) (a : Option Addr) (len cap : Nat) (es : List En) (hlen : es.length = len) (hreach : len ≤ 1000) (hE : EnS w0 (.slice a len cap) es) (hw : Below w0.heap.size w0 w) (hBs : Bs < w.heap.size)
    (hc : w.cell? ⟨Bs, 0, none⟩ = some (.slice a len cap)) :
    SeqStopsK Fence.wide n Tryd.prog 56 #[.pointer (some ⟨Bs, 0, none⟩)] (fun x : Nat × En => #[Value.int .i64 ((x.1 : Nat) : Int), .agg (rowF 35 (enC x.2))]) (Below w0.heap.size) (fun ys => ys = goneU es len) (fun _ => True) len w := fun l J Jx W hW hJ _ hY h0 => by
  have hc' := (hW.cell (p := ⟨Bs, 0, none⟩) hBs).trans hc
  have hB := hw.trans (hW.mono hw.size)
  by_cases h1 : len = 0
  · subst h1
    exact (gone1_nil_in n l Bs cap a J W hc' h0).mono fun e W' ⟨he, hj⟩ => ⟨he, .inl ⟨_, rfl, hj⟩⟩
  · unfold EnS at hE
    rw [hlen] at hE
    obtain ⟨b, off, rfl, hcap, hb, hcs⟩ := SlAt.at_elem hE (i := 0) (by omega)
    exact gone1_in n l Bs w0.heap.size b off cap len es hlen (by omega) hb W.heap.size J Jx hJ hB.size hY W hc' hcap (Nat.le_refl _) (fun i hi j hj => (hB.cell (p := ⟨b, off + 35 * i + j, none⟩) hb).trans (hcs i hi j hj)) h0
end Go.Proofs.YtbjbgneejdjniaaDoor

namespace Go.Proofs.YtbjbgneejdjniaaDoor
open Go.RowKit
attribute [local go_sem] Oper.semAt_some
def wrongP (n : Int) (x : Nat × En) : Bool := !decide (x.2.k = 4) || decide (n < (x.1 : Int))
def wrongL (n : Int) (l : List (Nat × En)) : List Int := (l.filter (wrongP n)).map fun x => (x.1 : Int)
theorem wrongL_hit (n : Int) (pre : List (Nat × En)) {x : Nat × En} (h : wrongP n x = true) : wrongL n (pre ++ [x]) = wrongL n pre ++ [(x.1 : Int)] := by simp [wrongL, h]
theorem wrongL_miss (n : Int) (pre : List (Nat × En)) {x : Nat × En} (h : wrongP n x = false) : wrongL n (pre ++ [x]) = wrongL n pre := by simp [wrongL, h]
theorem wrongL_len (n : Int) (l : List (Nat × En)) : (wrongL n l).length ≤ l.length := by unfold wrongL; rw [List.length_map]; exact List.length_filter_le _ _
theorem info_int3 : (Tryd.prog.info? 3).map (fun i => (i.zero, i.size, i.bytes)) = some (some (.int .i64 0), 1, 8) := by kernel_rfl
theorem rowV_own {β : Type} {B : Nat} {T : TypeId} {N : Nat} {g : Nat → Value} {X Y : World} {row : Option Nat} (h : RowV X B T N g) (hg : X.grownBy Y row) (hr : ∀ r, row = some r → ∃ o : Obj, X.heap[r]? = some o ∧ o.isCells = false) : RowV Y B T N g := by
  refine (hg.block B h.lt (fun e => ?_)).trans h
  obtain ⟨o, ho, hc⟩ := hr B e.symm
  rw [show X.heap[B]? = _ from h] at ho; cases ho; cases hc
theorem ownsRow_mono {W : World} {base base' : Nat} {e : TypeId} {size : Nat} {v : Value} {k : Nat} {xs : List Value} (h : W.ownsRow base e size v k xs) (hb : base' ≤ base) : W.ownsRow base' e size v k xs :=
  ⟨h.1, by
    rcases h.2 with h2 | ⟨g, cap, cur, h1, h2, h3⟩
    · exact .inl h2
    · exact .inr ⟨g, cap, cur, h1, Nat.le_trans hb h2, h3⟩⟩
set_option maxRecDepth 100000 in
set_option maxHeartbeats 4000000 in
theorem awrong_any (n : Int) (es : List En) (hes : es.length ≤ 1000) (mv lv ev : Value) (f s : Int) (w : World) (hE : EnS w ev es)
    (HLe : ∀ W, Below w.heap.size w W → Calls Tryd.prog 19 #[mv, .int .i64 f, .int .i64 s, lv] W fun e w' => e = .returned (.int .i64 n) ∧ Below W.heap.size W w') :
    Calls Tryd.prog 14 #[mv, .int .i64 f, .int .i64 s, lv, ev] w fun e w' => ∃ v, e = .returned v ∧ w'.ownsRow w.heap.size 3 1 v (wrongL n (goneU es es.length)).length ((wrongL n (goneU es es.length)).map (Value.int .i64)) ∧ Below w.heap.size w w' := by
  obtain ⟨ea, ec, rfl⟩ := hE.slice
  obtain ⟨len, hlen⟩ : ∃ y, es.length = y := ⟨_, rfl⟩
  have hE2 := hE
  have HES := Lib.hid hes
  rw [hlen] at hE2 ⊢
  obtain ⟨i0, hi, hz0, hz1, hz2⟩ := info_parts info_int3
  have HH := Lib.hid HLe
  have HLN := Lib.hid hlen
  have HE := Lib.hid hE
  rw [hlen] at HE
  clear hE hE2 hes hlen HLe
  refine (callsIn_wide (n := 6)).1 ?_
  refine callsIn_of_wp_marks Tryd.func14 rfl trivial ?_ rfl
  simp only [Tryd.ntmps14, List.size_toArray, List.length_cons, List.length_nil, Nat.reduceAdd, Nat.reduceSub, Array.replicate_succ, Array.replicate_zero, List.push_toArray, List.append_toArray, List.nil_append, List.cons_append]
  gi_wp2
  refine ⟨trivial, ?_⟩
  refine (callsIn_wide.2 (HH.out _ ((Below.refl _ w).alloc (Nat.le_refl _) _))).mono ?_
  clear HH
  rintro e w1 ⟨rfl, b1⟩
  have bR := Lib.hid ((Boxed.new w 42 (.slice none 0 0)).kept (row := none) ⟨b1.os, b1.tape, b1.output, b1.size, fun i hi _ => b1.block i hi⟩ (by simp))
  have B1 := Lib.hid (((Below.refl _ w).alloc (Nat.le_refl _) _).trans (b1.mono (by rw [World.size_alloc]; omega)))
  have S1 : Hid (w.heap.size < w1.heap.size) := Lib.hid bR.out.lt
  clear b1
  gi_wp2
  refine ⟨trivial, ?_⟩
  refine (gone_in _ _ _ _ _).mono ?_
  rintro e w' ⟨rfl, rfl⟩
  gi_wp2
  have bN := Boxed.new w1 3 (.int .i64 n)
  have bS := Boxed.new (w1.alloc (.cells #[.int .i64 n] 3)) 39 (.slice ea len ec)
  rw [World.size_alloc] at bS
  have g2 : w1.grownBy ((w1.alloc (.cells #[.int .i64 n] 3)).alloc (.cells #[.slice ea len ec] 39)) none := by
    have b := ((Below.refl w1.heap.size w1).alloc (Nat.le_refl _) (.cells #[.int .i64 n] 3)).alloc (by simp) (.cells #[.slice ea len ec] 39)
    exact ⟨b.os, b.tape, b.output, b.size, fun i hi _ => b.block i hi⟩
  have B2 : Below w.heap.size w ((w1.alloc (.cells #[.int .i64 n] 3)).alloc (.cells #[.slice ea len ec] 39)) := (B1.out.alloc (Nat.le_of_lt S1.out) _).alloc (by rw [World.size_alloc]; have := S1.out; omega) _
  have S2 : ((w1.alloc (.cells #[.int .i64 n] 3)).alloc (.cells #[.slice ea len ec] 39)).heap.size = w1.heap.size + 2 := by rw [World.size_alloc, World.size_alloc]
  have bR2 := bR.out.kept g2 (by simp)
  have bN2 := bN.alloc (.cells #[.slice ea len ec] 39)
  obtain ⟨w2, hw2⟩ : ∃ y, (w1.alloc (.cells #[.int .i64 n] 3)).alloc (.cells #[.slice ea len ec] 39) = y := ⟨_, rfl⟩
  rw [hw2] at bS B2 S2 bR2 bN2 ⊢
  clear hw2 g2 bN
  obtain ⟨I, hIdef⟩ : ∃ I : List (Nat × En) → World → Prop, I = fun pre W => (∃ v, Boxed W w.heap.size 42 v ∧ W.ownsRow (w1.heap.size + 1) 3 1 v (wrongL n pre).length ((wrongL n pre).map (Value.int .i64)) ∧ True) ∧ Boxed W w1.heap.size 3 (.int .i64 n) ∧ Below w.heap.size w W := ⟨_, rfl⟩
  have HI : OwnFrom w2.heap.size I := by
    rw [hIdef]
    exact OwnFrom.and (Own.from (holdsRow_own (w1.heap.size + 1) w.heap.size 42 3 1 (fun pre => (wrongL n pre).length) (fun pre => (wrongL n pre).map (Value.int .i64)) (fun _ _ => True)) _) (OwnFrom.and (Own.from (boxed_own w1.heap.size 3 (fun _ => Value.int .i64 n)) _) (ownFrom_below (Nat.le_refl _) (by have := S1.out; omega)))
  have hI0 : I [] w2 := by rw [hIdef]; exact ⟨⟨_, bR2, World.ownsRow_nil _ _ _ _, trivial⟩, bN2, B2⟩
  have HIo := Lib.hid HI
  have HId := Lib.hid hIdef
  refine wpIn_rangeFunc_ownH rfl (by omega) (gf := 56) (lb := #[.pointer (some ⟨w1.heap.size + 1, 0, none⟩)]) rfl trivial (enters_of Tryd.func56 (by kernel_rfl) rfl)
    (gone_stops 5 (w1.heap.size + 1) w w2 ea len ec es HLN.out (by rw [← HLN.out]; exact HES.out) HE.out B2 (by omega) bS.cell) belowK_t (belowK_b (by have := S1.out; omega)) (Below.refl _ _) (fun _ => rfl)
    I (fun _ _ _ => False) HI (fun _ _ _ _ _ hs _ _ => hs) hI0
    (fun x a' W => ∃ Bx, w1.heap.size < Bx ∧ RowV W Bx 45 35 (enC x.2) ∧ a' = { tmps := #[mv, .int .i64 f, .int .i64 s, lv, .slice ea len ec, undef, undef, undef, undef, undef, .pointer (some ⟨w.heap.size, 0, none⟩), .pointer (some ⟨w1.heap.size, 0, none⟩), .int .i64 ((x.1 : Nat) : Int), .pointer (some ⟨Bx, 0, none⟩), mv, .int .i64 f, .int .i64 s, lv, .int .i64 n, .slice ea len ec, .func (.func 56) #[] #[.pointer (some ⟨w1.heap.size + 1, 0, none⟩)], .int .i64 ((x.1 : Nat) : Int), .agg (rowF 35 (enC x.2)), undef, undef, undef, undef, undef, undef, undef, undef, undef, undef, undef, undef, undef], defers := [] })
    (fun x a' _ X Y row hs hg hr => by obtain ⟨Bx, h1, h2, h3⟩ := hs; exact ⟨Bx, h1, rowV_own (β := Unit) h2 hg (fun r e => (hr r e).2), h3⟩) ?assign ?body ?done ?stop
  case assign =>
    intro l pre x W K hI hK
    have Zr := Lib.hid (RowV.new W 45 35 (enC en0))
    have LT : w1.heap.size < W.heap.size := by rw [hIdef] at hI; exact hI.2.1.lt
    have HIp := Lib.hid hI
    clear hI hIdef HI hI0 bR2 bN2 bS
    gi_wp2_with ((with_reducible (show wpListIn _ _ _ _ _ (Oper.mk none _ _ _ _ _ :: _) _ _)); refine Hid.out ?_)
    refine Lib.hid ?_
    refine wpListIn_store_rowV rfl 45 (.tmp 13) (.tmp 22) rfl W.heap.size rfl 35 45 (enC en0) (enC x.2) rfl Zr.out (by kernel_rfl) (fun j _ => enC_one _ j) ?_
    intro W2 R2 O2
    have b2 : Below W.heap.size W W2 := ((Below.refl _ W).alloc (Nat.le_refl _) _).trans (O2.out.below (Nat.le_refl _) (by rw [World.size_alloc]; omega))
    have g2 : W.grownBy W2 none := ⟨b2.os, b2.tape, b2.output, b2.size, fun i hi _ => b2.block i hi⟩
    clear O2 Zr
    gi_wp2
    exact hK _ _ ((KeepsOthers.of_grownBy g2 (fun j o e => by cases e)).from _) (b2.mono (by have := S1.out; omega)) (HIo.out pre W W2 none HIp.out g2 (fun r e => by cases e)) ⟨W.heap.size, LT, R2.out, rfl⟩
  case body =>
    rintro l pre x a' W hl ⟨r, hr⟩ hI ⟨Bx, hBx, rX, rfl⟩ hlt
    rw [hIdef] at hI
    obtain ⟨⟨v, hv, hrow, _⟩, hb, hB⟩ := hI
    have x0 : W.cell? ⟨Bx, 0, none⟩ = some (.int .i64 x.2.k) := rX.cell (i := 0) (by decide)
    have hc := hv.cell
    have hbc := hb.cell
    have hpl : (wrongL n pre).length ≤ 1000 := by have := wrongL_len n pre; have := HES.out; have := HLN.out; omega
    have SZ : w1.heap.size + 1 ≤ W.heap.size := hb.lt
    have S3 : Hid (w.heap.size ≤ w1.heap.size + 1) := Lib.hid (by have := S1.out; omega)
    clear rX hr HI hI0 bR2 bN2 bS hIdef
    by_cases h4 : x.2.k = 4
    · have e0 : (x.2.k == 4) = true := by rw [beq_iff_eq]; exact h4
      have e1 : (x.2.k != 4) = false := by rw [bne, e0]; rfl
      by_cases h5 : n < ((x.1 : Nat) : Int)
      · have hwp : wrongP n x = true := by unfold wrongP; simp [h5]
        have d0 : decide (n < ((x.1 : Nat) : Int)) = true := by simp [h5]
        gi_wp2_with (gi_at_builtin; refine wpListIn_append_own _ rfl _ _ 42 rfl (w1.heap.size + 1) 3 i0 (.int .i64 0) 1 8 Tryd.underlying42 hi hz0 hz1 hz2 rfl (by decide) _ _ _ rfl (hrow.alloc _) ⟨W.heap.size, 0, none⟩ 1 1 [.int .i64 ((x.1 : Nat) : Int)] rfl rfl (cell_one_new _ _ _) (by simp [Value.oneCell']) (by unfold maxLen; omega) (by omega) (by simp; omega) ?_; intro v' w4 hown' hgrow _; obtain ⟨g', cap', rfl⟩ := ownsRow_succ hown'; obtain ⟨hv1, hv2, hr2, hk2, hb2⟩ := hv.appended (by decide) (ownsRow_mono hrow S3.out) hB.size (Nat.le_refl _) (ownsRow_mono hown' S3.out) hgrow; have hc1 := hv1.cell; have hf1 := hv1.frozen)
        have hb1 := ((hb.alloc _).kept hgrow (fun e => by have := (World.ownsRow.lt hrow _ e.symm).1; omega)).other (show w1.heap.size ≠ w.heap.size by have := S1.out; omega) (.slice (some ⟨g', 0, none⟩) ((wrongL n pre).length + 1) cap')
        have hr3 := hown'.kept (grownBy_setCell' w4 w.heap.size (.slice (some ⟨g', 0, none⟩) ((wrongL n pre).length + 1) cap')) (.inr (hv1.not_row (by decide) hown').symm)
        refine ⟨hk2.from _, hb2, ?_⟩
        rw [HId.out]
        exact ⟨⟨_, hv2, by rw [wrongL_hit n pre hwp]; simpa using hr3, trivial⟩, hb1, hB.trans hb2⟩
      · have hwp : wrongP n x = false := by unfold wrongP; simp [h4, h5]
        have d0 : decide (n < ((x.1 : Nat) : Int)) = false := by simp [h5]
        gi_wp2
        refine ⟨KeepsFrom.refl _ _, Below.refl _ _, ?_⟩
        rw [HId.out]
        exact ⟨⟨_, hv, by rw [wrongL_miss n pre hwp]; exact hrow, trivial⟩, hb, hB⟩
    · have e0 : (x.2.k == 4) = false := by rw [beq_eq_false_iff_ne]; exact h4
      have e1 : (x.2.k != 4) = true := by rw [bne, e0]; rfl
      have hwp : wrongP n x = true := by unfold wrongP; simp [h4]
      gi_wp2_with (gi_at_builtin; refine wpListIn_append_own _ rfl _ _ 42 rfl (w1.heap.size + 1) 3 i0 (.int .i64 0) 1 8 Tryd.underlying42 hi hz0 hz1 hz2 rfl (by decide) _ _ _ rfl (hrow.alloc _) ⟨W.heap.size, 0, none⟩ 1 1 [.int .i64 ((x.1 : Nat) : Int)] rfl rfl (cell_one_new _ _ _) (by simp [Value.oneCell']) (by unfold maxLen; omega) (by omega) (by simp; omega) ?_; intro v' w4 hown' hgrow _; obtain ⟨g', cap', rfl⟩ := ownsRow_succ hown'; obtain ⟨hv1, hv2, hr2, hk2, hb2⟩ := hv.appended (by decide) (ownsRow_mono hrow S3.out) hB.size (Nat.le_refl _) (ownsRow_mono hown' S3.out) hgrow; have hc1 := hv1.cell; have hf1 := hv1.frozen)
      have hb1 := ((hb.alloc _).kept hgrow (fun e => by have := (World.ownsRow.lt hrow _ e.symm).1; omega)).other (show w1.heap.size ≠ w.heap.size by have := S1.out; omega) (.slice (some ⟨g', 0, none⟩) ((wrongL n pre).length + 1) cap')
      have hr3 := hown'.kept (grownBy_setCell' w4 w.heap.size (.slice (some ⟨g', 0, none⟩) ((wrongL n pre).length + 1) cap')) (.inr (hv1.not_row (by decide) hown').symm)
      refine ⟨hk2.from _, hb2, ?_⟩
      rw [HId.out]
      exact ⟨⟨_, hv2, by rw [wrongL_hit n pre hwp]; simpa using hr3, trivial⟩, hb1, hB.trans hb2⟩
  case done =>
    rintro D ys W hD rfl hI hK
    rw [hIdef] at hI
    obtain ⟨⟨v, hv, hrow, _⟩, hb, hB⟩ := hI
    obtain ⟨va, vk, rfl⟩ : ∃ (a : Option Addr) (k : Nat), v = .slice a (wrongL n (goneU es len)).length k := by
      rcases hrow.2 with ⟨rfl, h3⟩ | ⟨g, cap, cur, rfl, _⟩
      · exact ⟨none, 0, by rw [h3]⟩
      · exact ⟨_, _, rfl⟩
    have hc := hv.cell
    have hf := hv.frozen
    clear HI hI0 bR2 bN2 bS hIdef hb
    gi_wp2
    obtain ⟨V, hV⟩ : ∃ V, Value.slice va (wrongL n (goneU es len)).length vk = V := ⟨_, rfl⟩
    rw [hV] at hv hrow hc ⊢
    have hK' := (KeepsOthers.setCell W ⟨w.heap.size, 0, none⟩ V).same D _ hK rfl
    refine ⟨by simp, .inl ⟨_, _, rfl, run_takeDeferred hK', ?_⟩⟩
    have hc5 := cell_kept (World.cell?_setCell_same' W ⟨w.heap.size, 0, none⟩ V (by rw [hc]; rfl)) (grownBy_putObj' _ D (.deferred none)) (fun r e => by cases e; exact ⟨_, hK', rfl⟩)
    have hr2 := ownsRow_mono (ownsRow_putObj (hrow.kept (grownBy_setCell' W w.heap.size V) (.inr (hv.not_row (by decide) hrow).symm)) (.deferred none) hK' rfl) (show w.heap.size ≤ w1.heap.size + 1 by have := S1.out; omega)
    refine ⟨V, ?_, V, rfl, hr2, (hB.setCell (p := ⟨w.heap.size, 0, none⟩) (Nat.le_refl _) _).trans (belowK_b (w := w) (Nat.le_refl _) _ D _ _ (by have := S1.out; omega) hK' rfl rfl)⟩
    simp [results, Tryd.f14, go_sem, hc5]
  case stop =>
    rintro D c pre W _ _ h _
    exact h.elim
end Go.Proofs.YtbjbgneejdjniaaDoor
