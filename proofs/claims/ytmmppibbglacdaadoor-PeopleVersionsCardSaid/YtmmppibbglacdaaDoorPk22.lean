/- The reference of the codec: Formed, Depth, Check. The reference of the codec: Check, numerals, encode, Encode. The reference of the codec: encode, Encode. The reference of the codec: Encode, and its makers of values. Package codec: the reader of bytes. Package codec: the reader's numerals. Package codec: the reader's integers and lengths; values that a reader has built. Values of the codec that a call has built: their lists lie in blocks of a kind. -/
import Derived.Test.YtmmppibbglacdaaDoorPk21
set_option linter.unusedVariables false
set_option linter.unusedSimpArgs false
namespace Go.Proofs.YtmmppibbglacdaaDoor
open Go.RowKit Cod
end Go.Proofs.YtmmppibbglacdaaDoor

namespace Go.Proofs.YtmmppibbglacdaaDoor
open Go.RowKit Cod
/-- one byte of the call's own -/
theorem Owns.one (w : World) (y : UInt8) : Owns (w.alloc (.cells #[vB y] 5)) w.heap.size (.slice (some ⟨w.heap.size, 0, none⟩) 1 1) [y] :=
  ⟨rfl, .inr ⟨w.heap.size, 1, #[vB y], rfl, Nat.le_refl _, by show (w.heap.push _)[_]? = _; simp, Nat.le_refl _, by decide, rfl, rfl⟩⟩
end Go.Proofs.YtmmppibbglacdaaDoor

namespace Go.Proofs.YtmmppibbglacdaaDoor
open Go.RowKit Cod
def REncPost (t : Tv) (w : World) (e : Ending) (w' : World) : Prop := (∃ u, e = .returned u ∧ Owns w' w.heap.size u (encV t)) ∧ Below w.heap.size w w'
end Go.Proofs.YtmmppibbglacdaaDoor

namespace Go.Proofs.YtmmppibbglacdaaDoor
open Go.RowKit Cod
end Go.Proofs.YtmmppibbglacdaaDoor

namespace Go.Proofs.YtmmppibbglacdaaDoor
open Go.RowKit Cod
theorem bytes_none (w : World) (a : Addr) (k : Nat) : BytesAt w (.slice (some a) 0 k) [] := .inl ⟨⟨some a, k, rfl, fun h => by cases h⟩, rfl⟩
theorem bytes_take {w : World} {b off n : Nat} {l : List UInt8} (hn : n ≤ l.length) (hl : (l.length : Int) ≤ 140737488351232) (hb : b < w.heap.size) (hcell : ∀ j, j < l.length → w.cell? ⟨b, off + j, none⟩ = some (vB (l.getD j 0))) :
    BytesAt w (.slice (some ⟨b, off, none⟩) n n) (l.take n) := by
  have ht : (l.take n).length = n := by rw [List.length_take]; omega
  by_cases h0 : n = 0
  · subst h0; exact bytes_none _ _ _
  · refine .inr ⟨b, off, n, by rw [ht], by omega, by omega, ⟨by omega, by omega⟩, hb, fun j hj => ?_⟩
    rw [ht] at hj
    rw [hcell j (by omega)]
    simp [List.getD_eq_getElem?_getD, List.getElem?_take_of_lt hj]
end Go.Proofs.YtmmppibbglacdaaDoor

namespace Go.Proofs.YtmmppibbglacdaaDoor
open Go.RowKit Cod
theorem and_127 (c : UInt8) : bits .and .u8 (c.toNat : Int) 127 = ((c.toNat % 128 : Nat) : Int) := by
  have h : ∀ a : Fin 256, bits .and .u8 (a.val : Int) 127 = ((a.val % 128 : Nat) : Int) := by decide +kernel
  exact h ⟨c.toNat, c.toNat_lt⟩
theorem or_u64 {a b : Nat} (ha : a < 18446744073709551616) (hb : b < 18446744073709551616) : bits .or .u64 (a : Int) (b : Int) = ((a ||| b : Nat) : Int) := by
  have h1 : (BitVec.ofInt 64 (a : Int)).toNat = a := by rw [BitVec.toNat_ofInt]; omega
  have h2 : (BitVec.ofInt 64 (b : Int)).toNat = b := by rw [BitVec.toNat_ofInt]; omega
  have h3 : a ||| b < 2 ^ 64 := Nat.or_lt_two_pow (by simpa using ha) (by simpa using hb)
  show IntKind.u64.wrap ((BitVec.ofInt 64 (a : Int) ||| BitVec.ofInt 64 (b : Int)).toNat : Nat) = _
  rw [BitVec.toNat_or, h1, h2, IntKind.wrap_u64]
  omega
theorem or_digit {a k i : Nat} (ha : a < 128 ^ i) : a ||| k * 128 ^ i = a + k * 128 ^ i := by
  have e : (128 : Nat) ^ i = 2 ^ (7 * i) := by rw [Nat.pow_mul]
  rw [e] at ha ⊢
  rw [Nat.or_comm, Nat.mul_comm, ← Nat.two_pow_add_eq_or_of_lt ha, Nat.add_comm]
/-- digits read so far -/
def NumI (l : List UInt8) (i acc : Nat) (r : List UInt8) : Prop := i ≤ 9 ∧ acc < 128 ^ i ∧ numF 0 l = (numF i r).map fun x => (acc + x.1 * 128 ^ i, x.2)
theorem pow_9 {i : Nat} (h : i ≤ 9) : 128 ^ i ≤ 128 ^ 9 := Nat.pow_le_pow_right (by decide) h
theorem digit_lt {c : UInt8} {i : Nat} (h1 : i ≤ 9) (h2 : i < 9 ∨ c.toNat ≤ 1) : c.toNat % 128 * 128 ^ i ≤ 9223372036854775808 := by
  rcases Nat.lt_or_ge i 9 with h | h
  · have h3 : 128 ^ i ≤ 128 ^ 8 := Nat.pow_le_pow_right (by decide) (by omega)
    have h4 : c.toNat % 128 * 128 ^ i ≤ 127 * 128 ^ 8 := Nat.mul_le_mul (by omega) h3
    omega
  · obtain rfl : i = 9 := by omega
    have h4 : c.toNat % 128 * 128 ^ 9 ≤ 1 * 128 ^ 9 := Nat.mul_le_mul (by omega) (Nat.le_refl _)
    omega
theorem numor_step {acc i : Nat} {c : UInt8} (h1 : i ≤ 9) (ha : acc < 128 ^ i) (h2 : i < 9 ∨ c.toNat ≤ 1) :
    bits .or .u64 (acc : Int) (IntKind.u64.wrap (((c.toNat % 128 : Nat) : Int) * 2 ^ (7 * i))) = ((acc + c.toNat % 128 * 128 ^ i : Nat) : Int) := by
  have h3 := digit_lt h1 h2
  have h4 := pow_9 h1
  have e : ((c.toNat % 128 : Nat) : Int) * 2 ^ (7 * i) = ((c.toNat % 128 * 128 ^ i : Nat) : Int) := by
    rw [Int.natCast_mul, Int.natCast_pow, Int.pow_mul]; rfl
  have e2 : IntKind.u64.wrap ((c.toNat % 128 * 128 ^ i : Nat) : Int) = ((c.toNat % 128 * 128 ^ i : Nat) : Int) := by rw [IntKind.wrap_u64]; omega
  rw [e, e2, or_u64 (by omega) (by omega), or_digit ha]
theorem num_step {l : List UInt8} {i acc : Nat} {c : UInt8} {r : List UInt8} (h : NumI l i acc (c :: r)) (hg : (i = 0 ∨ c ≠ 0) ∧ (i < 9 ∨ c.toNat ≤ 1)) (hx : ¬ c.toNat < 128) : NumI l (i + 1) (acc + c.toNat % 128 * 128 ^ i) r := by
  obtain ⟨h1, h2, h3⟩ := h
  have i9 : i < 9 := by rcases hg.2 with h | h; exact h; omega
  have e : 128 ^ (i + 1) = 128 * 128 ^ i := by rw [Nat.pow_succ, Nat.mul_comm]
  refine ⟨i9, ?_, ?_⟩
  · have h4 : c.toNat % 128 * 128 ^ i ≤ 127 * 128 ^ i := Nat.mul_le_mul_right _ (by omega)
    rw [e]; omega
  · rw [h3]
    conv => lhs; rw [numF, if_pos hg, if_neg hx]
    rw [Option.map_map]
    congr 1
    funext x
    simp only [Function.comp_apply, Prod.mk.injEq, and_true]
    rw [e, Nat.add_mul, Nat.mul_assoc, Nat.mul_left_comm, Nat.add_assoc]
theorem byte_at {w : World} {u : Value} {c : UInt8} (h : BytesAt w u [c]) : ∃ b off cap, u = .slice (some ⟨b, off, none⟩) 1 cap ∧ 1 ≤ cap ∧ w.cell? ⟨b, off, none⟩ = some (vB c) := by
  rcases h with ⟨_, h⟩ | ⟨b, off, cap, e1, e2, e3, e4, e5, e6⟩
  · cases h
  · exact ⟨b, off, cap, e1, e2, e6 0 (Nat.zero_lt_one)⟩
end Go.Proofs.YtmmppibbglacdaaDoor

namespace Go.Proofs.YtmmppibbglacdaaDoor
open Go.RowKit Cod
theorem xor_unzig {u : Nat} (hu : u < 18446744073709551616) : bits .xor .i64 ((u : Int) / 2) (-(((u % 2 : Nat)) : Int)) = unzig u := by
  rcases Nat.mod_two_eq_zero_or_one u with h | h
  · rw [h]
    have e : unzig u = (u : Int) / 2 := by unfold unzig; rw [if_neg (by omega)]; omega
    rw [e]
    show IntKind.i64.wrap ((BitVec.ofInt 64 ((u : Int) / 2) ^^^ BitVec.ofInt 64 (-((0 : Nat) : Int))).toNat : Nat) = _
    rw [show BitVec.ofInt 64 (-((0 : Nat) : Int)) = 0#64 from rfl, BitVec.xor_zero, BitVec.toNat_ofInt, IntKind.wrap_i64]
    omega
  · rw [h]
    have e : unzig u = -((u : Int) / 2) - 1 := by unfold unzig; rw [if_pos h]; omega
    rw [e]
    show IntKind.i64.wrap ((BitVec.ofInt 64 ((u : Int) / 2) ^^^ BitVec.ofInt 64 (-((1 : Nat) : Int))).toNat : Nat) = _
    rw [show BitVec.ofInt 64 (-((1 : Nat) : Int)) = BitVec.allOnes 64 from rfl, BitVec.xor_allOnes, BitVec.toNat_not, BitVec.toNat_ofInt, IntKind.wrap_i64]
    have : ((2 ^ 64 : Nat) : Int) = 18446744073709551616 := by decide
    rw [this]
    omega
theorem and_1 {u : Nat} (hu : u < 18446744073709551616) : bits .and .u64 (u : Int) 1 = ((u % 2 : Nat) : Int) := by
  have h2 : (BitVec.ofInt 64 (u : Int)).toNat = u := by rw [BitVec.toNat_ofInt]; omega
  have h1 : (BitVec.ofInt 64 1).toNat = 2 ^ 1 - 1 := by decide
  show IntKind.u64.wrap ((BitVec.ofInt 64 (u : Int) &&& BitVec.ofInt 64 1).toNat : Nat) = _
  rw [BitVec.toNat_and, h2, h1, Nat.and_two_pow_sub_one_eq_mod, IntKind.wrap_u64]
  omega
end Go.Proofs.YtmmppibbglacdaaDoor

namespace Go.Proofs.YtmmppibbglacdaaDoor
open Go.RowKit Cod
def SlS (S : Nat → Prop) (s : Nat) (w : World) (v : Value) (n : Nat) (c : Nat → Nat → Value) : Prop :=
  ((∃ (a : Option Addr) (k : Nat), v = .slice a 0 k ∧ (a = none → k = 0)) ∧ n = 0) ∨
  ∃ b off cap : Nat, v = .slice (some ⟨b, off, none⟩) n cap ∧ n ≤ cap ∧ 0 < n ∧ ((n : Int) ≤ 140737488351232 ∧ (cap : Int) ≤ 9223372036854775807) ∧ (b < w.heap.size ∧ S b) ∧ ∀ i, i < n → ∀ j, j < s → w.cell? ⟨b, off + s * i + j, none⟩ = some (c i j)
theorem SlS.at' {S : Nat → Prop} {s : Nat} {w : World} {v : Value} {n : Nat} {c : Nat → Nat → Value} (h : SlS S s w v n c) : SlAt s w v n c := by
  rcases h with h | ⟨b, off, cap, h1, h2, h3, h4, h5, h6⟩
  · exact .inl h
  · exact .inr ⟨b, off, cap, h1, h2, h3, h4, h5.1, h6⟩
theorem SlS.keep {S S' : Nat → Prop} {s : Nat} {w w' : World} {v : Value} {n : Nat} {c : Nat → Nat → Value} (h : SlS S s w v n c) (hs : w.heap.size ≤ w'.heap.size) (hb : ∀ b, b < w.heap.size → S b → S' b ∧ w'.heap[b]? = w.heap[b]?) : SlS S' s w' v n c := by
  rcases h with h | ⟨b, off, cap, h1, h2, h3, h4, h5, h6⟩
  · exact .inl h
  · obtain ⟨g1, g2⟩ := hb b h5.1 h5.2
    exact .inr ⟨b, off, cap, h1, h2, h3, h4, ⟨Nat.lt_of_lt_of_le h5.1 hs, g1⟩, fun i hi j hj => (World.cell?_of_block (w := w) (w' := w') (a := ⟨b, off + s * i + j, none⟩) g2).trans (h6 i hi j hj)⟩
inductive CodS (S : Nat → Prop) (w : World) : Value → Tv → Prop
  | mk (k n : Int) (s : ByteArray) (sl : Value) (l : List Tv) (c : Nat → Nat → Value) (hk : i64B k) (hn : i64B n) (hs : (s.size : Int) ≤ 140737488351232) (hl : SlS S 4 w sl l.length c)
      (h : ∀ i, i < l.length → CodS S w (.agg (rowF 4 (c i))) (l.getD i tv0)) : CodS S w (.agg #[.int .i64 k, .int .i64 n, .string s, sl]) (.mk k n s l)
theorem CodS.at' {S : Nat → Prop} {w : World} {v : Value} {t : Tv} (h : CodS S w v t) : CodAt w v t := by
  induction h with
  | mk k n s sl l c hk hn hs hl _ ih => exact .mk k n s sl l c hk hn hs hl.at' ih
theorem CodS.keep {S S' : Nat → Prop} {w w' : World} {v : Value} {t : Tv} (h : CodS S w v t) (hs : w.heap.size ≤ w'.heap.size) (hb : ∀ b, b < w.heap.size → S b → S' b ∧ w'.heap[b]? = w.heap[b]?) : CodS S' w' v t := by
  induction h with
  | mk k n s sl l c hk hn hs' hl _ ih => exact .mk k n s sl l c hk hn hs' (hl.keep hs hb) ih
/-- the cells of so many values -/
def flatC (n : Nat) (c : Nat → Nat → Value) : List Value := (List.range (4 * n)).map fun j => c (j / 4) (j % 4)
theorem flatC_len (n : Nat) (c : Nat → Nat → Value) : (flatC n c).length = 4 * n := by simp [flatC]
theorem flatC_get {n : Nat} {c : Nat → Nat → Value} {i j : Nat} (hi : i < n) (hj : j < 4) : (flatC n c)[4 * i + j]? = some (c i j) := by
  unfold flatC
  rw [List.getElem?_map, List.getElem?_range (by omega), Option.map_some, show (4 * i + j) / 4 = i by omega, show (4 * i + j) % 4 = j by omega]
theorem flatC_succ (n : Nat) (c : Nat → Nat → Value) (f : Nat → Value) : flatC (n + 1) (fun i => if i = n then f else c i) = flatC n c ++ [f 0, f 1, f 2, f 3] := by
  unfold flatC
  rw [show 4 * (n + 1) = 4 * n + 4 by omega, List.range_add, List.map_append]
  congr 1
  · refine List.map_congr_left fun j hj => ?_
    have := List.mem_range.1 hj
    show (if j / 4 = n then f else c (j / 4)) (j % 4) = c (j / 4) (j % 4)
    rw [if_neg (by omega)]
  · simp only [List.map_map]
    show [_, _, _, _] = _
    simp only [Function.comp_apply]
    rw [show (4 * n + 0) / 4 = n by omega, show (4 * n + 1) / 4 = n by omega, show (4 * n + 2) / 4 = n by omega, show (4 * n + 3) / 4 = n by omega, show (4 * n + 0) % 4 = 0 by omega, show (4 * n + 1) % 4 = 1 by omega, show (4 * n + 2) % 4 = 2 by omega, show (4 * n + 3) % 4 = 3 by omega]
    simp
/-- a list of values of the call's own -/
def OwnV (w : World) (base : Nat) (v : Value) (ts : List Tv) : Prop :=
  ∃ c, w.ownsRow base 75 4 v ts.length (flatC ts.length c) ∧ ∀ i, i < ts.length → CodS (fun b => base ≤ b ∧ v.ownBlock ≠ some b) w (.agg (rowF 4 (c i))) (ts.getD i tv0)
theorem OwnV.nil (w : World) (base : Nat) : OwnV w base (.slice none 0 0) [] := ⟨fun _ _ => .int .i64 0, World.ownsRow_nil _ _ _ _, fun i hi => absurd hi (by simp)⟩
theorem OwnV.keep {w w' : World} {base : Nat} {v : Value} {ts : List Tv} (h : OwnV w base v ts) (hs : w.grownBy w' none) (hb : ∀ b, base ≤ b → b < w.heap.size → w'.heap[b]? = w.heap[b]?) : OwnV w' base v ts := by
  obtain ⟨c, h1, h2⟩ := h
  refine ⟨c, World.ownsRow.kept h1 (row := none) hs ?_, fun i hi => (h2 i hi).keep hs.size (fun b hlt hS => ⟨hS, hb b hS.1 hlt⟩)⟩
  cases hv : v.ownBlock with
  | none => exact .inl rfl
  | some k => exact .inr (by simp)
theorem OwnV.only {w w' : World} {base rb : Nat} {v : Value} {ts : List Tv} (h : OwnV w base v ts) (os : w'.os = w.os) (tape : w'.tape = w.tape) (output : w'.output = w.output) (hs : w.heap.size ≤ w'.heap.size) (hb : ∀ b, b < w.heap.size → b ≠ rb → w'.heap[b]? = w.heap[b]?) (hrb : rb < base) : OwnV w' base v ts := by
  obtain ⟨c, h1, h2⟩ := h
  refine ⟨c, World.ownsRow.kept h1 (row := some rb) ⟨os, tape, output, hs, fun k hk hn => hb k hk (fun e => hn (by rw [e]))⟩ ?_, fun i hi => (h2 i hi).keep hs (fun b hlt hS => ⟨hS, hb b hlt (by have := hS.1; omega)⟩)⟩
  cases hv : v.ownBlock with
  | none => exact .inl rfl
  | some k => exact .inr (by intro e; have := (World.ownsRow.lt h1 k hv).1; rw [Option.some.inj e] at this; omega)
theorem OwnV.lt {w : World} {base : Nat} {v : Value} {ts : List Tv} (h : OwnV w base v ts) : ∀ k, v.ownBlock = some k → base ≤ k ∧ k < w.heap.size := by
  obtain ⟨c, h1, _⟩ := h; exact World.ownsRow.lt h1
theorem OwnV.slice {w : World} {base : Nat} {v : Value} {ts : List Tv} (h : OwnV w base v ts) : ∃ (a : Option Addr) (c : Nat), v = .slice a ts.length c := by
  obtain ⟨c, h1, _⟩ := h
  rcases h1.2 with ⟨rfl, h3⟩ | ⟨g, cap, cur, rfl, _⟩
  · exact ⟨none, 0, by rw [h3]⟩
  · exact ⟨_, _, rfl⟩
theorem CodS.agg {S : Nat → Prop} {w : World} {u : Value} {t : Tv} (h : CodS S w u t) : ∃ k n s a m c, u = .agg #[.int .i64 k, .int .i64 n, .string s, .slice a m c] := by
  cases h with
  | mk k n s sl l c hk hn hs hl hi =>
    obtain ⟨a, cap, rfl⟩ := hl.at'.slice
    exact ⟨k, n, s, a, _, cap, rfl⟩
/-- it reads as a list -/
theorem OwnV.read {w : World} {base : Nat} {v : Value} {ts : List Tv} (h : OwnV w base v ts) (hn : (ts.length : Int) ≤ 140737488351232) {S : Nat → Prop} (hS : ∀ b, base ≤ b → S b) :
    ∃ c, SlS S 4 w v ts.length c ∧ ∀ i, i < ts.length → CodS S w (.agg (rowF 4 (c i))) (ts.getD i tv0) := by
  obtain ⟨c, h1, h2⟩ := h
  refine ⟨c, ?_, fun i hi => (h2 i hi).keep (Nat.le_refl _) (fun b _ hb => ⟨hS b hb.1, rfl⟩)⟩
  rcases h1.2 with ⟨rfl, h3⟩ | ⟨g, cap, cur, rfl, hb, hg, hle, hm, hs, ht⟩
  · exact .inl ⟨⟨none, 0, rfl, fun _ => rfl⟩, h3⟩
  · by_cases h0 : ts.length = 0
    · exact .inl ⟨⟨_, cap, by rw [h0], fun h => by cases h⟩, h0⟩
    · unfold maxLen at hm
      refine .inr ⟨g, 0, cap, rfl, hle, by omega, ⟨hn, by omega⟩, ⟨(Array.getElem?_eq_some_iff.1 hg).1, hS g hb⟩, fun i hi j hj => ?_⟩
      have h4 := World.ownsRow.cells h1 (g := g) rfl (4 * i + j) (c i j) (flatC_get hi hj)
      rw [Addr.add_mid, Nat.add_assoc] at *
      simpa using h4
theorem info_val3 : (Tryd.prog.info? 75).map (fun i => (i.zero, i.size, i.bytes)) = some (some (.agg #[.int .i64 0, .int .i64 0, .string ByteArray.empty, .slice none 0 0]), 4, 56) := by kernel_rfl
theorem info_parts3 {T : TypeId} {z : Value} {s b : Nat} (h : (Tryd.prog.info? T).map (fun i => (i.zero, i.size, i.bytes)) = some (some z, s, b)) : ∃ i, Tryd.prog.info? T = some i ∧ i.zero = some z ∧ i.size = s ∧ i.bytes = b := by
  obtain ⟨i, h1, h2⟩ := Option.map_eq_some_iff.1 h
  simp only [Prod.mk.injEq] at h2
  exact ⟨i, h1, h2.1, h2.2.1, h2.2.2⟩
/-- append(v.L, x) of one value -/
theorem wpList_app_val {w : World} {ops : Array Oper} {rest : List Oper} {o : Oper} {a : Act} {Q : Exit → Act → World → Prop} (hgd : o.guard = none) (s x : Operand)
    (ho : o.op = .call { callee := .builtin .append, args := #[s, x], argTypes := #[73, 73] })
    (base : Nat) (v : Value) (ts : List Tv) (hs : a.eval s = v) (hown : OwnV w base v ts) (g2 c2 : Nat) (f : Nat → Value) (t : Tv) (hx : a.eval x = .slice (some ⟨g2, 0, none⟩) 1 c2)
    (hrow : RowV w g2 75 4 f) (ht : CodS (fun b => base ≤ b ∧ v.ownBlock ≠ some b) w (.agg (rowF 4 f)) t) (hlen : ts.length ≤ 1000000) (hbase : base ≤ w.heap.size)
    (h : ∀ v' w', Hid (OwnV w' base v' (ts ++ [t])) → Hid (AppStep w v w' v') → wpList Tryd.prog ops Q rest (a.put o.dst v') w') : wpList Tryd.prog ops Q (o :: rest) a w := by
  obtain ⟨c, h1, h2⟩ := hown
  obtain ⟨i0, hi, hz0, hz1, hz2⟩ := info_parts3 info_val3
  have hone := ht.at'.cells
  refine wpList_app hgd s x 73 ho base 75 i0 _ 4 56 Tryd.underlying73 hi hz0 hz1 hz2 rfl (by decide) v ts.length (flatC ts.length c) hs h1 ⟨g2, 0, none⟩ 1 c2 [f 0, f 1, f 2, f 3] hx rfl ?_ ?_ (by unfold maxLen; omega) (by omega) hbase ?_
  · intro j u hj
    rw [Addr.add_mid, Nat.zero_add]
    have hj4 : j < 4 := by have := (List.getElem?_eq_some_iff.1 hj).1; simpa using this
    rw [hrow.cell hj4, ← hj]
    match j, hj4 with
    | 0, _ => rfl
    | 1, _ => rfl
    | 2, _ => rfl
    | 3, _ => rfl
  · intro u hu
    simp only [List.mem_cons, List.not_mem_nil, or_false] at hu
    rcases hu with rfl | rfl | rfl | rfl
    · exact hone 0 (by decide)
    · exact hone 1 (by decide)
    · exact hone 2 (by decide)
    · exact hone 3 (by decide)
  · intro v' w' h3 h4
    have keepS : ∀ {u : Value} {q : Tv}, CodS (fun b => base ≤ b ∧ v.ownBlock ≠ some b) w u q → CodS (fun b => base ≤ b ∧ v'.ownBlock ≠ some b) w' u q := fun hq =>
      hq.keep h4.1.size (fun b hlt hS => ⟨⟨hS.1, h4.ne hlt hS.2⟩, h4.block hlt hS.2⟩)
    refine h v' w' ⟨fun i => if i = ts.length then f else c i, ?_, ?_⟩ h4
    · rw [List.length_append, List.length_singleton, flatC_succ]; exact h3
    · intro i hi
      rw [List.length_append, List.length_singleton] at hi
      show CodS _ _ (.agg (rowF 4 (if i = ts.length then f else c i))) _
      by_cases e : i = ts.length
      · subst e
        rw [if_pos rfl, List.getD_eq_getElem?_getD, List.getElem?_append_right (Nat.le_refl _), Nat.sub_self]
        exact keepS ht
      · rw [if_neg e, List.getD_eq_getElem?_getD, List.getElem?_append_left (by omega), ← List.getD_eq_getElem?_getD]
        exact keepS (h2 i (by omega))
end Go.Proofs.YtmmppibbglacdaaDoor
