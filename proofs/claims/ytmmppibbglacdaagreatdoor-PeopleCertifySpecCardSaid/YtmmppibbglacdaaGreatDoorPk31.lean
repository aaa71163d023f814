/- Package codec: the reader's values. Values of the codec: what is encoded is read again. Package codec: Decode. Package codec: Decode. -/
import Derived.Test.YtmmppibbglacdaaGreatDoorPk22
import Derived.Laws.BytesString
import Derived.Laws.IdiomStrings
import Derived.Lib.BufferRead
import Derived.Defers
import Derived.Recover
set_option linter.unusedVariables false
set_option linter.unusedSimpArgs false
namespace Go.Proofs.YtmmppibbglacdaaGreatDoor
open Go.RowKit Cod
/-- no cell of the block is a byte -/
def NoByte (w : World) (B : Nat) : Prop := ∀ o x, w.cell? ⟨B, o, none⟩ ≠ some (vB x)
theorem NoByte.bytes {w w' : World} {B : Nat} (h : NoByte w B) {u : Value} {m : List UInt8} (hu : BytesAt w u m) (ho : OnlyB B w w') : BytesAt w' u m := by
  rcases hu with hu | ⟨b, off, cap, e1, e2, e3, e4, e5, e6⟩
  · exact .inl hu
  · have hne : b ≠ B := fun e => by subst e; exact h _ _ (e6 0 e3)
    exact .inr ⟨b, off, cap, e1, e2, e3, e4, Nat.lt_of_lt_of_le e5 ho.size, fun j hj => (ho.cell (p := ⟨b, off + j, none⟩) e5 hne).trans (e6 j hj)⟩
theorem OnlyB.new {rb B : Nat} {w w1 w' : World} (h : OnlyB rb w w1) (hB : w.heap.size ≤ B) (k : OnlyB B w1 w') : OnlyB rb w w' :=
  ⟨k.os.trans h.os, k.tape.trans h.tape, k.output.trans h.output, Nat.le_trans h.size k.size, fun i hi hn => (k.block i (Nat.lt_of_lt_of_le hi h.size) (by omega)).trans (h.block i hi hn)⟩
theorem only_app {w0 w w' : World} {rb : Nat} {sl v' : Value} (h : OnlyB rb w0 w) (s : AppStep w sl w' v') (hn : ∀ k, sl.ownBlock = some k → w0.heap.size ≤ k) : OnlyB rb w0 w' :=
  ⟨s.1.os.trans h.os, s.1.tape.trans h.tape, s.1.output.trans h.output, Nat.le_trans h.size s.1.size, fun k hk hne => (s.block (Nat.lt_of_lt_of_le hk h.size) (fun e => by have := hn k e; omega)).trans (h.block k hk hne)⟩
theorem CodS.leaf (S : Nat → Prop) (w : World) {k n : Int} {s : ByteArray} (hk : i64B k) (hn : i64B n) (hs : (s.size : Int) ≤ 140737488351232) : CodS S w (.agg (rowF 4 (valC k n s (.slice none 0 0)))) (.mk k n s []) :=
  .mk k n s (.slice none 0 0) [] (fun _ _ => .int .i64 0) hk hn hs (.inl ⟨⟨none, 0, rfl, fun _ => rfl⟩, rfl⟩) (fun i hi => absurd hi (by simp))
theorem valF_1 (rr : Nat) (b : List UInt8) : valF rr (1 :: b) = (numF 0 b).map fun x => (.mk 1 (unzig x.1) ByteArray.empty [], x.2) := by
  unfold valF; rw [if_pos rfl]
theorem valF_2 (rr : Nat) (b : List UInt8) : valF rr (2 :: b) = (match numF 0 b with
      | none => none
      | some (n, b') => if n ≤ b'.length then some (.mk 2 0 ⟨(b'.take n).toArray⟩ [], b'.drop n) else none) := by
  unfold valF; rw [if_neg (by decide), if_pos rfl]; cases numF 0 b <;> rfl
theorem valF_3 (rr : Nat) (b : List UInt8) : valF (rr + 1) (3 :: b) = (match numF 0 b with
      | none => none
      | some (n, b') => if n ≤ b'.length then (repF (valF rr) n b').map fun x => (.mk 3 0 ByteArray.empty x.1, x.2) else none) := by
  rw [valF]; rw [if_neg (by decide), if_neg (by decide), if_pos rfl]; cases numF 0 b <;> rfl
theorem V_set {w : World} {B : Nat} {T : TypeId} {f g : Nat → Value} (h : RowV w B T 4 f) (j : Nat) (u : Value) (he : ∀ i, i < 4 → (if i = j then u else f i) = g i) : RowV (w.setCell ⟨B, j, none⟩ u) B T 4 g := (h.set j u).congr he
/-- i of n values read -/
def RepI (f : List UInt8 → Option (Tv × List UInt8)) (n : Nat) (r0 : List UInt8) (i : Nat) (ts : List Tv) (rest : List UInt8) : Prop :=
  ts.length = i ∧ repF f n r0 = (repF f (n - i) rest).map (fun x => (ts ++ x.1, x.2)) ∧ rest.length ≤ r0.length
theorem RepI.start (f : List UInt8 → Option (Tv × List UInt8)) (n : Nat) (r0 : List UInt8) : RepI f n r0 0 [] r0 := ⟨rfl, by rw [Nat.sub_zero]; cases repF f n r0 <;> simp, Nat.le_refl _⟩
theorem RepI.none {f : List UInt8 → Option (Tv × List UInt8)} {n : Nat} {r0 : List UInt8} {i : Nat} {ts : List Tv} {rest : List UInt8} (h : RepI f n r0 i ts rest) (hi : i < n) (hf : f rest = none) : repF f n r0 = none := by
  rw [h.2.1, show n - i = (n - i - 1) + 1 by omega, repF, hf]; rfl
theorem RepI.step {f : List UInt8 → Option (Tv × List UInt8)} {n : Nat} {r0 : List UInt8} {i : Nat} {ts : List Tv} {rest : List UInt8} (h : RepI f n r0 i ts rest) (hi : i < n) {t : Tv} {rest' : List UInt8} (hf : f rest = some (t, rest')) (hl : rest'.length ≤ rest.length) : RepI f n r0 (i + 1) (ts ++ [t]) rest' := by
  refine ⟨by rw [List.length_append, h.1]; rfl, ?_, Nat.le_trans hl h.2.2⟩
  rw [h.2.1, show n - i = (n - (i + 1)) + 1 by omega, repF, hf]
  show Option.map _ (Option.map _ _) = _
  rw [Option.map_map]
  congr 1
  funext x
  simp
theorem RepI.done {f : List UInt8 → Option (Tv × List UInt8)} {n : Nat} {r0 : List UInt8} {ts : List Tv} {rest : List UInt8} (h : RepI f n r0 n ts rest) : repF f n r0 = some (ts, rest) := by
  rw [h.2.1, Nat.sub_self, repF]; simp
end Go.Proofs.YtmmppibbglacdaaGreatDoor

namespace Go.Proofs.YtmmppibbglacdaaGreatDoor
namespace Cod
mutual
def bdV : Tv → Prop
  | .mk k n s l => (-9223372036854775808 ≤ n ∧ n < 9223372036854775808) ∧ s.size < 18446744073709551616 ∧ l.length < 18446744073709551616 ∧ bdL l
def bdL : List Tv → Prop
  | [] => True
  | t :: l => bdV t ∧ bdL l
end
theorem ba_empty {s : ByteArray} (h : s.data.toList.isEmpty = true) : s = ByteArray.empty := by
  have : s.data.toList = [] := List.isEmpty_iff.1 h
  have h2 : s.data = #[] := by rw [← Array.toArray_toList (xs := s.data), this]
  exact ByteArray.ext h2
mutual
theorem valF_encV : ∀ (t : Tv) (rr : Nat) (r : List UInt8), formB t = true → depthN t ≤ rr → bdV t → valF rr (encV t ++ r) = some (t, r)
  | .mk k n s l, rr, r, hf, hd, hb => by
    unfold bdV at hb
    obtain ⟨⟨b1, b2⟩, b3, b4, b5⟩ := hb
    unfold formB at hf
    unfold encV
    by_cases k1 : k = 1
    · rw [if_pos k1] at hf ⊢
      rw [Bool.and_eq_true] at hf
      rw [List.cons_append, valF_1, numF_of (zig_lt b1 b2), Option.map_some, unzig_zig, ba_empty hf.1, List.isEmpty_iff.1 hf.2, k1]
    · rw [if_neg k1] at hf ⊢
      by_cases k2 : k = 2
      · rw [if_pos k2] at hf ⊢
        rw [Bool.and_eq_true, decide_eq_true_eq] at hf
        have hs : s.size = s.data.toList.length := Array.length_toList.symm
        rw [List.cons_append, List.append_assoc, valF_2, numF_of b3]
        dsimp only
        rw [if_pos (by rw [List.length_append]; omega), hs, List.take_left' rfl, List.drop_left' rfl, Array.toArray_toList, hf.1, List.isEmpty_iff.1 hf.2, k2]
      · rw [if_neg k2] at hf ⊢
        by_cases k3 : k = 3
        · rw [if_pos k3, Bool.and_eq_true, Bool.and_eq_true, decide_eq_true_eq] at hf
          unfold depthN at hd
          rw [if_pos k3] at hd
          cases rr with
          | zero => omega
          | succ rr =>
            rw [List.cons_append, List.append_assoc, valF_3, numF_of b4]
            dsimp only
            rw [if_pos (by rw [List.length_append]; have := encL_len l; omega), repF_encL l rr r hf.2 (by omega) b5, Option.map_some, hf.1.1, ba_empty hf.1.2, k3]
        · rw [if_neg k3] at hf
          cases hf
theorem repF_encL : ∀ (l : List Tv) (rr : Nat) (r : List UInt8), formL l = true → depthL l ≤ rr → bdL l → repF (valF rr) l.length (encL l ++ r) = some (l, r)
  | [], rr, r, _, _, _ => by simp [encL, repF]
  | t :: l, rr, r, hf, hd, hb => by
    unfold bdL at hb
    rw [formL_cons, Bool.and_eq_true] at hf
    rw [depthL_cons] at hd
    rw [encL_cons, List.append_assoc, List.length_cons]
    unfold repF
    rw [valF_encV t rr _ hf.1 (by omega) hb.1]
    dsimp only
    rw [repF_encL l rr r hf.2 (by omega) hb.2, Option.map_some]
end
theorem bdL_of : ∀ (l : List Tv), (∀ i, i < l.length → bdV (l.getD i tv0)) → bdL l
  | [], _ => by unfold bdL; trivial
  | t :: l, h => by
    unfold bdL
    exact ⟨h 0 (by simp), bdL_of l fun i hi => h (i + 1) (by simpa using hi)⟩
end Cod
open Cod
theorem CodAt.bd {w : World} {v : Value} {t : Tv} (h : CodAt w v t) : bdV t := by
  induction h with
  | mk k n s sl l c hk hn hs hl _ ih =>
    unfold bdV
    refine ⟨hn, by omega, ?_, bdL_of l ih⟩
    rcases hl with ⟨_, h⟩ | ⟨_, _, _, _, _, _, ⟨h, _⟩, _⟩ <;> omega
end Go.Proofs.YtmmppibbglacdaaGreatDoor

namespace Go.Proofs.YtmmppibbglacdaaGreatDoor
open Go.RowKit Cod
end Go.Proofs.YtmmppibbglacdaaGreatDoor

namespace Go.Proofs.YtmmppibbglacdaaGreatDoor
open Go.RowKit Cod
def DecPost (l : List UInt8) (w : World) (e : Ending) (w' : World) : Prop :=
  (match decF l with
   | some t => ∃ u, e = .returned (.tuple #[u, .int .i64 0]) ∧ CodS (fun b => w.heap.size ≤ b) w' u t
   | none => e = .returned (.tuple #[.agg #[.int .i64 0, .int .i64 0, .string ByteArray.empty, .slice none 0 0], .int .i64 10])) ∧ Below w.heap.size w w'
theorem DecPost.bad {l : List UInt8} {w w' : World} (h : decF l = none) (b : Below w.heap.size w w') : DecPost l w (.returned (.tuple #[.agg #[.int .i64 0, .int .i64 0, .string ByteArray.empty, .slice none 0 0], .int .i64 10])) w' := by
  unfold DecPost; rw [h]; exact ⟨rfl, b⟩
theorem DecPost.good {l : List UInt8} {w w' : World} {t : Tv} {u : Value} (h : decF l = some t) (hu : CodS (fun b => w.heap.size ≤ b) w' u t) (b : Below w.heap.size w w') : DecPost l w (.returned (.tuple #[u, .int .i64 0])) w' := by
  unfold DecPost; rw [h]; exact ⟨⟨u, rfl, hu⟩, b⟩
end Go.Proofs.YtmmppibbglacdaaGreatDoor
