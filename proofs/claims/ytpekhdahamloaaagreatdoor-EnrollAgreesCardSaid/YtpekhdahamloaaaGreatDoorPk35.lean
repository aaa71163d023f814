/- Package codec: the reader's values. Values of the codec: what is encoded is read again. Acknowledgements, in plain Lean: their form, their message, what they count for. Package acks: valid, formed. Package acks: list, message. Package acks: message, Make, Check, Encode. Package acks: Make. Package codec: Decode. Package codec: Decode. Certificates, in plain Lean. Package people: isDevice, Owner, formed; its reference. Package people: message, Certify; its reference; numbers of a list, encoded. Package people: Certify. -/
import Derived.Test.YtpekhdahamloaaaGreatDoorPk19
import Derived.Laws.BytesString
import Derived.Laws.IdiomStrings
import Derived.Lib.BufferRead
import Derived.Test.YtpekhdahamloaaaGreatDoorPk24
import Derived.Test.YtpekhdahamloaaaGreatDoorPk25
import Derived.Defers
import Derived.Recover
set_option linter.unusedVariables false
set_option linter.unusedSimpArgs false
namespace Go.Proofs.YtpekhdahamloaaaGreatDoor
open Go.RowKit Cod
/-- no cell of the block is a byte -/
def NoByte (w : World) (B : Nat) : Prop := ∀ o x, w.cell? ⟨B, o, none⟩ ≠ some (vB x)
theorem NoByte.bytes {w w' : World} {B : Nat} (h : NoByte w B) {u : Value} {m : List UInt8} (hu : BytesAt w u m) (ho : OnlyB B w w') : BytesAt w' u m := by
  rcases hu with hu | ⟨b, off, cap, e1, e2, e3, e4, e5, e6⟩
  · exact .inl hu
  · have hne : b ≠ B := fun e => by subst e; exact h _ _ (e6 0 e3)
    exact .inr ⟨b, off, cap, e1, e2, e3, e4, Nat.lt_of_lt_of_le e5 ho.size, fun j hj => (ho.cell (p := ⟨b, off + j, none⟩) e5 hne).trans (e6 j hj)⟩
theorem OnlyB.new {rb B : Nat} {w w1 w' : World} (h : OnlyB rb w w1) (hB : w.heap.size ≤ B) (k : OnlyB B w1 w') : OnlyB rb w w' :=
  ⟨k.os.trans h.os, k.tape.trans h.tape, k.output.trans h.output, Nat.le_trans h.size k.size, fun i hi hn => (k.block i (Nat.lt_of_lt_of_le hi h.size) (by omega)).trans (h.block i hi hn)⟩
theorem only_app {w0 w w' : World} {rb : Nat} {sl v' : Value} (h : OnlyB rb w0 w) (s : AppStep w sl w' v') (hn : ∀ k, sl.ownBlock = some k → w0.heap.size ≤ k) : OnlyB rb w0 w' :=
  ⟨s.1.os.trans h.os, s.1.tape.trans h.tape, s.1.output.trans h.output, Nat.le_trans h.size s.1.size, fun k hk hne => (s.block (Nat.lt_of_lt_of_le hk h.size) (fun e => by have := hn k e; omega)).trans (h.block k hk hne)⟩
theorem CodS.leaf (S : Nat → Prop) (w : World) {k n : Int} {s : ByteArray} (hk : i64B k) (hn : i64B n) (hs : (s.size : Int) ≤ 140737488351232) : CodS S w (.agg (rowF 4 (valC k n s (.slice none 0 0)))) (.mk k n s []) :=
  .mk k n s (.slice none 0 0) [] (fun _ _ => .int .i64 0) hk hn hs (.inl ⟨⟨none, 0, rfl, fun _ => rfl⟩, rfl⟩) (fun i hi => absurd hi (by simp))
theorem valF_1 (rr : Nat) (b : List UInt8) : valF rr (1 :: b) = (numF 0 b).map fun x => (.mk 1 (unzig x.1) ByteArray.empty [], x.2) := by
  unfold valF; rw [if_pos rfl]
theorem valF_2 (rr : Nat) (b : List UInt8) : valF rr (2 :: b) = (match numF 0 b with
      | none => none
      | some (n, b') => if n ≤ b'.length then some (.mk 2 0 ⟨(b'.take n).toArray⟩ [], b'.drop n) else none) := by
  unfold valF; rw [if_neg (by decide), if_pos rfl]; cases numF 0 b <;> rfl
theorem valF_3 (rr : Nat) (b : List UInt8) : valF (rr + 1) (3 :: b) = (match numF 0 b with
      | none => none
      | some (n, b') => if n ≤ b'.length then (repF (valF rr) n b').map fun x => (.mk 3 0 ByteArray.empty x.1, x.2) else none) := by
  rw [valF]; rw [if_neg (by decide), if_neg (by decide), if_pos rfl]; cases numF 0 b <;> rfl
theorem V_set {w : World} {B : Nat} {T : TypeId} {f g : Nat → Value} (h : RowV w B T 4 f) (j : Nat) (u : Value) (he : ∀ i, i < 4 → (if i = j then u else f i) = g i) : RowV (w.setCell ⟨B, j, none⟩ u) B T 4 g := (h.set j u).congr he
/-- i of n values read -/
def RepI (f : List UInt8 → Option (Tv × List UInt8)) (n : Nat) (r0 : List UInt8) (i : Nat) (ts : List Tv) (rest : List UInt8) : Prop :=
  ts.length = i ∧ repF f n r0 = (repF f (n - i) rest).map (fun x => (ts ++ x.1, x.2)) ∧ rest.length ≤ r0.length
theorem RepI.start (f : List UInt8 → Option (Tv × List UInt8)) (n : Nat) (r0 : List UInt8) : RepI f n r0 0 [] r0 := ⟨rfl, by rw [Nat.sub_zero]; cases repF f n r0 <;> simp, Nat.le_refl _⟩
theorem RepI.none {f : List UInt8 → Option (Tv × List UInt8)} {n : Nat} {r0 : List UInt8} {i : Nat} {ts : List Tv} {rest : List UInt8} (h : RepI f n r0 i ts rest) (hi : i < n) (hf : f rest = none) : repF f n r0 = none := by
  rw [h.2.1, show n - i = (n - i - 1) + 1 by omega, repF, hf]; rfl
theorem RepI.step {f : List UInt8 → Option (Tv × List UInt8)} {n : Nat} {r0 : List UInt8} {i : Nat} {ts : List Tv} {rest : List UInt8} (h : RepI f n r0 i ts rest) (hi : i < n) {t : Tv} {rest' : List UInt8} (hf : f rest = some (t, rest')) (hl : rest'.length ≤ rest.length) : RepI f n r0 (i + 1) (ts ++ [t]) rest' := by
  refine ⟨by rw [List.length_append, h.1]; rfl, ?_, Nat.le_trans hl h.2.2⟩
  rw [h.2.1, show n - i = (n - (i + 1)) + 1 by omega, repF, hf]
  show Option.map _ (Option.map _ _) = _
  rw [Option.map_map]
  congr 1
  funext x
  simp
theorem RepI.done {f : List UInt8 → Option (Tv × List UInt8)} {n : Nat} {r0 : List UInt8} {ts : List Tv} {rest : List UInt8} (h : RepI f n r0 n ts rest) : repF f n r0 = some (ts, rest) := by
  rw [h.2.1, Nat.sub_self, repF]; simp
end Go.Proofs.YtpekhdahamloaaaGreatDoor

namespace Go.Proofs.YtpekhdahamloaaaGreatDoor
namespace Cod
mutual
def bdV : Tv → Prop
  | .mk k n s l => (-9223372036854775808 ≤ n ∧ n < 9223372036854775808) ∧ s.size < 18446744073709551616 ∧ l.length < 18446744073709551616 ∧ bdL l
def bdL : List Tv → Prop
  | [] => True
  | t :: l => bdV t ∧ bdL l
end
theorem ba_empty {s : ByteArray} (h : s.data.toList.isEmpty = true) : s = ByteArray.empty := by
  have : s.data.toList = [] := List.isEmpty_iff.1 h
  have h2 : s.data = #[] := by rw [← Array.toArray_toList (xs := s.data), this]
  exact ByteArray.ext h2
mutual
theorem valF_encV : ∀ (t : Tv) (rr : Nat) (r : List UInt8), formB t = true → depthN t ≤ rr → bdV t → valF rr (encV t ++ r) = some (t, r)
  | .mk k n s l, rr, r, hf, hd, hb => by
    unfold bdV at hb
    obtain ⟨⟨b1, b2⟩, b3, b4, b5⟩ := hb
    unfold formB at hf
    unfold encV
    by_cases k1 : k = 1
    · rw [if_pos k1] at hf ⊢
      rw [Bool.and_eq_true] at hf
      rw [List.cons_append, valF_1, numF_of (zig_lt b1 b2), Option.map_some, unzig_zig, ba_empty hf.1, List.isEmpty_iff.1 hf.2, k1]
    · rw [if_neg k1] at hf ⊢
      by_cases k2 : k = 2
      · rw [if_pos k2] at hf ⊢
        rw [Bool.and_eq_true, decide_eq_true_eq] at hf
        have hs : s.size = s.data.toList.length := Array.length_toList.symm
        rw [List.cons_append, List.append_assoc, valF_2, numF_of b3]
        dsimp only
        rw [if_pos (by rw [List.length_append]; omega), hs, List.take_left' rfl, List.drop_left' rfl, Array.toArray_toList, hf.1, List.isEmpty_iff.1 hf.2, k2]
      · rw [if_neg k2] at hf ⊢
        by_cases k3 : k = 3
        · rw [if_pos k3, Bool.and_eq_true, Bool.and_eq_true, decide_eq_true_eq] at hf
          unfold depthN at hd
          rw [if_pos k3] at hd
          cases rr with
          | zero => omega
          | succ rr =>
            rw [List.cons_append, List.append_assoc, valF_3, numF_of b4]
            dsimp only
            rw [if_pos (by rw [List.length_append]; have := encL_len l; omega), repF_encL l rr r hf.2 (by omega) b5, Option.map_some, hf.1.1, ba_empty hf.1.2, k3]
        · rw [if_neg k3] at hf
          cases hf
theorem repF_encL : ∀ (l : List Tv) (rr : Nat) (r : List UInt8), formL l = true → depthL l ≤ rr → bdL l → repF (valF rr) l.length (encL l ++ r) = some (l, r)
  | [], rr, r, _, _, _ => by simp [encL, repF]
  | t :: l, rr, r, hf, hd, hb => by
    unfold bdL at hb
    rw [formL_cons, Bool.and_eq_true] at hf
    rw [depthL_cons] at hd
    rw [encL_cons, List.append_assoc, List.length_cons]
    unfold repF
    rw [valF_encV t rr _ hf.1 (by omega) hb.1]
    dsimp only
    rw [repF_encL l rr r hf.2 (by omega) hb.2, Option.map_some]
end
theorem bdL_of : ∀ (l : List Tv), (∀ i, i < l.length → bdV (l.getD i tv0)) → bdL l
  | [], _ => by unfold bdL; trivial
  | t :: l, h => by
    unfold bdL
    exact ⟨h 0 (by simp), bdL_of l fun i hi => h (i + 1) (by simpa using hi)⟩
end Cod
open Cod
theorem CodAt.bd {w : World} {v : Value} {t : Tv} (h : CodAt w v t) : bdV t := by
  induction h with
  | mk k n s sl l c hk hn hs hl _ ih =>
    unfold bdV
    refine ⟨hn, by omega, ?_, bdL_of l ih⟩
    rcases hl with ⟨_, h⟩ | ⟨_, _, _, _, _, _, ⟨h, _⟩, _⟩ <;> omega
end Go.Proofs.YtpekhdahamloaaaGreatDoor

namespace Go.Proofs.YtpekhdahamloaaaGreatDoor
open Go.RowKit Cod

structure Ak where
  f : Int
  d : Int
  s : Int
  u : Int
  ch : List UInt8
  r : Int
  g : Int
structure Ak.wf (a : Ak) : Prop where
  f : i64B a.f
  d : i64B a.d
  s : i64B a.s
  u : i64B a.u
  ch : a.ch.length = 32
  r : i64B a.r
  g : i64B a.g
theorem i64B_0 : i64B 0 := ⟨by decide, by decide⟩
def Ak.at (a : Ak) (i : Nat) : Int := match i with | 0 => a.f | 1 => a.d | 2 => a.s | 3 => a.u | 36 => a.r | _ => a.g
/-- the cells of an acknowledgement -/
def akC (a : Ak) (j : Nat) : Value := if 4 ≤ j ∧ j < 36 then vB (a.ch.getD (j - 4) 0) else .int .i64 (a.at j)
def numT (n : Int) : Tv := .mk 1 n ByteArray.empty []
def lstT (l : List Tv) : Tv := .mk 3 0 ByteArray.empty l
theorem leaf_form (n : Int) : formB (numT n) = true := by simp [numT, formB]
theorem formL_nums (zs : List Int) : formL (zs.map numT) = true := by
  induction zs with
  | nil => simp [formL]
  | cons z zs ih => rw [List.map_cons, formL_cons, leaf_form, ih]; rfl
theorem depthL_nums (zs : List Int) : depthL (zs.map numT) = 0 := by
  induction zs with
  | nil => simp [depthL]
  | cons z zs ih => rw [List.map_cons, depthL_cons, ih]; simp [numT, depthN]
theorem encL_nums_len (zs : List Int) (h : ∀ z ∈ zs, i64B z) : (encL (zs.map numT)).length ≤ 11 * zs.length := by
  induction zs with
  | nil => simp [encL]
  | cons z zs ih =>
    have h1 := h z (List.mem_cons_self ..)
    have h2 := numE_10 (zig_lt h1.1 h1.2)
    have h3 := ih fun y hy => h y (List.mem_cons_of_mem _ hy)
    rw [List.map_cons, encL_cons, List.length_append]
    have h4 : (encV (numT z)).length = (numE (zig z)).length + 1 := by simp [numT, encV]
    rw [List.length_cons]; omega
/-- a list of values that fit is encoded -/
theorem chkT_lst {l : List Tv} (hf : formL l = true) (hd : depthL l = 0) : chkT (lstT l) = 0 ∧ depthN (lstT l) ≤ 1000 := by
  have h1 : formB (lstT l) = true := by simp [lstT, formB, hf]
  have h2 : depthN (lstT l) = 1 := by simp [lstT, depthN, hd]
  refine ⟨?_, by rw [h2]; decide⟩
  unfold chkT; rw [if_pos h1, h2]; rfl
theorem encV_lst (l : List Tv) : encV (lstT l) = 3 :: (numE l.length ++ encL l) := by simp [lstT, encV]
/-! what acknowledgements count for -/
structure Mb where
  dev : Int
  sin : Int
  ver : Int
structure Mb.wf (m : Mb) : Prop where
  dev : i64B m.dev
  sin : i64B m.sin
  ver : i64B m.ver
end Go.Proofs.YtpekhdahamloaaaGreatDoor

namespace Go.Proofs.YtpekhdahamloaaaGreatDoor
open Go.RowKit Cod
/-- a slice of integers -/
def IntsS (w : World) (v : Value) (zs : List Int) : Prop := SlAt 1 w v zs.length (fun i _ => .int .i64 (zs.getD i 0))
/-- new integers -/
theorem ints_new (w : World) (T : TypeId) (zs : List Int) (n : Nat) (hn : zs.length = n) (h0 : 0 < n) (h1 : n ≤ 1000) : IntsS (w.alloc (.cells (rowF n fun i => .int .i64 (zs.getD i 0)) T)) (.slice (some ⟨w.heap.size, 0, none⟩) n n) zs := by
  have h := RowV.new w T n (fun i => .int .i64 (zs.getD i 0))
  refine .inr ⟨w.heap.size, 0, n, by rw [hn], by omega, by omega, ⟨by omega, by omega⟩, h.lt, fun i hi j hj => ?_⟩
  obtain rfl : j = 0 := by omega
  rw [show 0 + 1 * i + 0 = i by omega]
  exact h.cell (by omega)
end Go.Proofs.YtpekhdahamloaaaGreatDoor

namespace Go.Proofs.YtpekhdahamloaaaGreatDoor
open Go.RowKit Cod
/-- a list value that is built in block bv: its elements so far; w0: the world in which it began -/
structure LstI (w0 : World) (bv : Nat) (sl : Value) (ts : List Tv) (wx : World) : Prop where
  own : OwnV wx w0.heap.size sl ts
  row : RowV wx bv 59 4 (valC 3 0 ⟨#[]⟩ sl)
  only : OnlyB bv w0 wx
  lt : bv < w0.heap.size
section
variable {w0 wx : World} {bv : Nat} {sl : Value} {ts : List Tv}
theorem LstI.start (w : World) : LstI (w.alloc (.cells (rowF 4 (valC 3 0 ⟨#[]⟩ (.slice none 0 0))) 59)) w.heap.size (.slice none 0 0) [] (w.alloc (.cells (rowF 4 (valC 3 0 ⟨#[]⟩ (.slice none 0 0))) 59)) :=
  ⟨OwnV.nil _ _, RowV.new w _ 4 _, OnlyB.refl _ _, by rw [World.size_alloc]; omega⟩
theorem LstI.later {wy : World} (h : LstI w0 bv sl ts wx) (b : Below wx.heap.size wx wy) : LstI w0 bv sl ts wy :=
  ⟨h.own.keep ⟨b.os, b.tape, b.output, b.size, fun k hk _ => b.block k hk⟩ (fun k _ hk => b.block k hk), h.row.below b, h.only.trans (OnlyB.of_below b), h.lt⟩
theorem LstI.alloc (h : LstI w0 bv sl ts wx) (o : Obj) : LstI w0 bv sl ts (wx.alloc o) := h.later ((Below.refl _ _).alloc (Nat.le_refl _) o)
theorem LstI.cell (h : LstI w0 bv sl ts wx) : wx.cell? ⟨bv, 3, none⟩ = some sl := h.row.cell (i := 3) (by decide)
theorem LstI.frozen (h : LstI w0 bv sl ts wx) : wx.frozen? ⟨bv, 3, none⟩ = false := h.row.frozen 3
theorem LstI.size (h : LstI w0 bv sl ts wx) : w0.heap.size ≤ wx.heap.size := h.only.size
theorem LstI.push {w9 : World} {v9 : Value} {t : Tv} (h : LstI w0 bv sl ts wx) (hO : OwnV w9 w0.heap.size v9 (ts ++ [t])) (s : AppStep wx sl w9 v9) :
    LstI w0 bv v9 (ts ++ [t]) (w9.setCell ⟨bv, 3, none⟩ v9) := by
  have hl : ∀ k, sl.ownBlock = some k → w0.heap.size ≤ k := fun k e => (h.own.lt k e).1
  have o := (OnlyB.refl bv w9).setCell (p := ⟨bv, 3, none⟩) (.inl rfl) v9
  have hr : RowV w9 bv 59 4 (valC 3 0 ⟨#[]⟩ sl) := s.row h.row (fun e => by have := hl bv e; have := h.lt; omega)
  exact ⟨hO.only (rb := bv) o.os o.tape o.output o.size o.block h.lt, V_set hr 3 v9 (by intro i hi; match i, hi with | 0, _ => rfl | 1, _ => rfl | 2, _ => rfl | 3, _ => rfl), (only_app h.only s hl).trans o, h.lt⟩
theorem LstI.value (h : LstI w0 bv sl ts wx) (hn : ts.length ≤ 1000000) : CodAt wx (.agg #[.int .i64 3, .int .i64 0, .string ⟨#[]⟩, sl]) (lstT ts) := by
  obtain ⟨c, h1, h2⟩ := h.own.read (S := fun b => True) (by omega) (fun _ _ => trivial)
  exact .mk 3 0 ByteArray.empty sl ts c ⟨by decide, by decide⟩ ⟨by decide, by decide⟩ (by decide) h1.at' (fun i hi => (h2 i hi).at')
theorem LstI.slice (h : LstI w0 bv sl ts wx) : ∃ (a : Option Addr) (n c : Nat), sl = .slice a n c := by obtain ⟨a, c, e⟩ := h.own.slice; exact ⟨a, _, c, e⟩
/-- behind the append, ahead of the store -/
theorem LstI.mid {w9 : World} {v9 : Value} (h : LstI w0 bv sl ts wx) (s : AppStep wx sl w9 v9) : w9.cell? ⟨bv, 3, none⟩ = some sl ∧ w9.frozen? ⟨bv, 3, none⟩ = false := by
  have hr : RowV w9 bv 59 4 (valC 3 0 ⟨#[]⟩ sl) := s.row h.row (fun e => by have := (h.own.lt bv e).1; have := h.lt; omega)
  exact ⟨hr.cell (i := 3) (by decide), hr.frozen 3⟩
theorem OwnV.slice3 {w : World} {base : Nat} {v : Value} {ts : List Tv} (h : OwnV w base v ts) : ∃ (a : Option Addr) (n c : Nat), v = .slice a n c := by obtain ⟨a, c, e⟩ := h.slice; exact ⟨a, _, c, e⟩
theorem LstI.row' (h : LstI w0 bv sl ts wx) {B n : Nat} {T : TypeId} {g : Nat → Value} (r : RowV w0 B T n g) (hne : B ≠ bv) : RowV wx B T n g := h.only.row hne r
end
theorem leafS (S : Nat → Prop) (w : World) {n : Int} (hn : i64B n) : CodS S w (.agg (rowF 4 (valC 1 n ⟨#[]⟩ (.slice none 0 0)))) (numT n) := CodS.leaf S w ⟨by decide, by decide⟩ hn (by decide)
end Go.Proofs.YtpekhdahamloaaaGreatDoor

namespace Go.Proofs.YtpekhdahamloaaaGreatDoor
open Go.RowKit Cod
end Go.Proofs.YtpekhdahamloaaaGreatDoor

namespace Go.Proofs.YtpekhdahamloaaaGreatDoor
open Go.RowKit Cod
/-- the cells of a digest -/
def dgF (ch : List UInt8) (i : Nat) : Value := vB (ch.getD i 0)
theorem wpList_build {P : Program} {w : World} {ops : Array Oper} {rest : List Oper} {o : Oper} {a : Act} {Q : Exit → Act → World → Prop} (hgd : o.guard = none) (t : TypeId) (parts : Array (Nat × Operand)) (ho : o.op = .build t parts) (vs : Array (Nat × Value)) (hv : (parts.map fun (i, x) => (i, a.eval x)) = vs) (v : Value)
    (hrun : (Instr.build t vs).run P w = .ok v w) (h : wpList P ops Q rest (a.put o.dst v) w) : wpList P ops Q (o :: rest) a w := by
  refine wpList_val hgd v ?_ h
  unfold execOp
  subst hv
  simp only [ho, Sem.run_bind, Sem.run_pure, hrun, Result.andThen_ok]
theorem pubE_two (x : Int) : pubE x = 0 ∨ pubE x = 50 := by unfold pubE; split <;> simp
theorem Ak.sig_cells (a : Ak) (r g : Int) : ∀ i, i < 38 → (if 36 ≤ i ∧ i < 36 + 2 then (fun j => if j = 0 then Value.int .i64 r else .int .i64 g) (i - 36) else akC a i) = akC ⟨a.f, a.d, a.s, a.u, a.ch, r, g⟩ i := by
  intro i hi
  by_cases h : 36 ≤ i ∧ i < 36 + 2
  · rw [if_pos h]
    rcases (show i = 36 ∨ i = 37 by omega) with rfl | rfl <;> rfl
  · rw [if_neg h]
    unfold akC
    by_cases h2 : 4 ≤ i ∧ i < 36
    · rw [if_pos h2, if_pos h2]
    · rw [if_neg h2, if_neg h2]
      rcases (show i = 0 ∨ i = 1 ∨ i = 2 ∨ i = 3 by omega) with rfl | rfl | rfl | rfl <;> rfl
end Go.Proofs.YtpekhdahamloaaaGreatDoor

namespace Go.Proofs.YtpekhdahamloaaaGreatDoor
open Go.RowKit Cod
end Go.Proofs.YtpekhdahamloaaaGreatDoor

namespace Go.Proofs.YtpekhdahamloaaaGreatDoor
open Go.RowKit Cod
def DecPost (l : List UInt8) (w : World) (e : Ending) (w' : World) : Prop :=
  (match decF l with
   | some t => ∃ u, e = .returned (.tuple #[u, .int .i64 0]) ∧ CodS (fun b => w.heap.size ≤ b) w' u t
   | none => e = .returned (.tuple #[.agg #[.int .i64 0, .int .i64 0, .string ByteArray.empty, .slice none 0 0], .int .i64 10])) ∧ Below w.heap.size w w'
theorem DecPost.bad {l : List UInt8} {w w' : World} (h : decF l = none) (b : Below w.heap.size w w') : DecPost l w (.returned (.tuple #[.agg #[.int .i64 0, .int .i64 0, .string ByteArray.empty, .slice none 0 0], .int .i64 10])) w' := by
  unfold DecPost; rw [h]; exact ⟨rfl, b⟩
end Go.Proofs.YtpekhdahamloaaaGreatDoor

namespace Go.Proofs.YtpekhdahamloaaaGreatDoor
open Go.RowKit Cod

/-! numbers in a list, encoded -/
def encN (zs : List Int) : List UInt8 := encV (lstT (zs.map numT))
theorem encN_len (zs : List Int) (h : ∀ z ∈ zs, i64B z) (hl : zs.length ≤ 100) : (encN zs).length ≤ 2000 := by
  unfold encN
  rw [encV_lst, List.length_cons, List.length_append]
  have h1 := encL_nums_len zs h
  have h5 := numE_10 (u := (zs.map numT).length) (by rw [List.length_map]; omega)
  omega
theorem encN_chk (zs : List Int) : chkT (lstT (zs.map numT)) = 0 ∧ depthN (lstT (zs.map numT)) ≤ 1000 := chkT_lst (formL_nums zs) (depthL_nums zs)

/-! certificates -/
structure Ct where
  k : Int
  d : Int
  v : Int
  l : Int
  n : Int
  b : Int
  r : Int
  g : Int
structure Ct.wf (c : Ct) : Prop where
  k : i64B c.k
  d : i64B c.d
  v : i64B c.v
  l : i64B c.l
  n : i64B c.n
  b : i64B c.b
  r : i64B c.r
  g : i64B c.g
def ct0 : Ct := ⟨0, 0, 0, 0, 0, 0, 0, 0⟩
theorem ct0_wf : ct0.wf := ⟨i64B_0, i64B_0, i64B_0, i64B_0, i64B_0, i64B_0, i64B_0, i64B_0⟩
def Ct.at (c : Ct) (i : Nat) : Int := match i with | 0 => c.k | 1 => c.d | 2 => c.v | 3 => c.l | 4 => c.n | 5 => c.b | 6 => c.r | _ => c.g
/-- the cells of a certificate -/
def ctC (c : Ct) (j : Nat) : Value := .int .i64 (c.at j)
theorem ctC_one (c : Ct) (j : Nat) : (ctC c j).oneCell' = true := rfl
def devB (d : Int) : Bool := decide (0 ≤ d) && decide (d < 512)
def keysB (v l : Int) : Bool := elemB v && elemB l
def otherB (d b : Int) : Bool := devB b && !(b == d) && decide (b.tdiv 8 = d.tdiv 8)
def kindB (c : Ct) : Bool :=
  if c.k = 1 then keysB c.v c.l && decide (c.b = c.d) else if c.k = 2 then keysB c.v c.l && otherB c.d c.b else if c.k = 3 then keysB c.v c.l && decide (c.b = -1)
  else if c.k = 4 then decide (c.v = 0) && decide (c.l = 0) && otherB c.d c.b else false
def formC (c : Ct) : Bool := devB c.d && !decide (c.n < 1) && !decide (1048576 < c.n) && kindB c
def numsC (c : Ct) : List Int := [c.k, c.d, c.v, c.l, c.n, c.b]
theorem numsC_bd {c : Ct} (h : c.wf) : ∀ z ∈ numsC c, i64B z := by
  intro z hz
  simp only [numsC, List.mem_cons, List.not_mem_nil, or_false] at hz
  rcases hz with rfl | rfl | rfl | rfl | rfl | rfl
  · exact h.k
  · exact h.d
  · exact h.v
  · exact h.l
  · exact h.n
  · exact h.b
def tagCert : List UInt8 := [99, 101, 114, 116]
def msgC (c : Ct) : List UInt8 := Sha.tagged tagCert (encN (numsC c))
theorem msgC_len (c : Ct) : (msgC c).length = 32 := tagged_len _ _
/-- what Certify answers -/
def crtE (c : Ct) (x : Int) : Int := if formC c then pubE x else 370
def crtV (c : Ct) (x : Int) : Ct := if crtE c x = 0 then ⟨c.k, c.d, c.v, c.l, c.n, c.b, sgR x (msgC c), sgS x (msgC c)⟩ else ct0
def ctN (k d v l n b : Int) : Ct := ⟨k, d, v, l, n, b, 0, 0⟩
end Go.Proofs.YtpekhdahamloaaaGreatDoor

namespace Go.Proofs.YtpekhdahamloaaaGreatDoor
open Go.RowKit Cod
theorem bits_i64 {z : Int} (h0 : 0 ≤ z) (h1 : z < 512) : IntKind.i64.wrap (z.tdiv 8) = z.tdiv 8 := IntWalk.i64_in _ (by rw [Int.tdiv_eq_ediv_of_nonneg h0]; omega)
theorem devB_iff (d : Int) : devB d = true ↔ 0 ≤ d ∧ d < 512 := by unfold devB; simp only [Bool.and_eq_true, decide_eq_true_eq]
def ownE (d : Int) : Int := if devB d then 0 else 371
def ownV (d : Int) : Int := if devB d then d.tdiv 8 else 0
theorem ct_cell {w : World} {B : Nat} {T : TypeId} {c : Ct} (h : RowV w B T 8 (ctC c)) {i : Nat} (hi : i < 8) : w.cell? ⟨B, i, none⟩ = some (.int .i64 (c.at i)) := h.cell hi
set_option maxRecDepth 100000 in
set_option maxHeartbeats 2000000 in
theorem pdev_any (d : Int) (w : World) :
    Calls Tryz.prog 48 #[.int .i64 d] w fun e w' => e = .returned (.bool (devB d)) ∧ w = w' := by
  have HU : Hid (devB d = (decide (0 ≤ d) && decide (d < 512))) := Lib.hid rfl
  rw [HU.out]
  clear HU
  go_enter Tryz.func48, Tryz.ntmps48
  cases h0 : decide (0 ≤ d)
  · go_wp2_with fail
    go_ret
    exact ⟨rfl, rfl⟩
  cases h1 : decide (d < 512)
  · go_wp2_with fail
    go_ret
    exact ⟨rfl, rfl⟩
  · go_wp2_with fail
    go_ret
    exact ⟨rfl, rfl⟩
set_option maxRecDepth 100000 in
set_option maxHeartbeats 2000000 in
theorem powner_any (d : Int) (w : World) :
    Calls Tryz.prog 21 #[.int .i64 d] w fun e w' => e = .returned (.tuple #[.int .i64 (ownV d), .int .i64 (ownE d)]) ∧ w = w' := by
  have D := pdev_any d
  have q : devB d = true → IntKind.i64.wrap (d.tdiv 8) = d.tdiv 8 := fun h => by
    have := (devB_iff d).1 h
    exact bits_i64 this.1 this.2
  unfold ownV ownE
  obtain ⟨b, hb⟩ : ∃ y, devB d = y := ⟨_, rfl⟩
  rw [hb] at D q ⊢
  have DH := Lib.hid D
  clear D hb
  cases b
  · clear q
    go_enter Tryz.func21, Tryz.ntmps21
    have B0 := Lib.hid (Below.refl w.heap.size w)
    go_wp2_with fail
    refine (DH.out _).mono ?_
    rintro e wp ⟨rfl, rfl⟩
    go_wp2_with fail
    go_ret2
    exact ⟨rfl, rfl⟩
  · have q1 := q rfl
    clear q
    go_enter Tryz.func21, Tryz.ntmps21
    have B0 := Lib.hid (Below.refl w.heap.size w)
    go_wp2_with fail
    refine (DH.out _).mono ?_
    rintro e wp ⟨rfl, rfl⟩
    go_wp2_with fail
    go_ret2
    exact ⟨rfl, rfl⟩
set_option maxRecDepth 100000 in
set_option maxHeartbeats 8000000 in
theorem pformed_any (c : Ct) (w : World) :
    Calls Tryz.prog 50 #[.agg (rowF 8 (ctC c))] w fun e w' => e = .returned (.bool (formC c)) ∧ Below w.heap.size w w' := by
  have D1 := pdev_any c.d
  have D2 := pdev_any c.b
  have K1 := fun W => check_any c.v W
  have K2 := fun W => check_any c.l W
  obtain ⟨F, hF⟩ : ∃ y, formC c = y := ⟨_, rfl⟩
  have FH : Hid (F = (devB c.d && !decide (c.n < 1) && !decide (1048576 < c.n) && kindB c)) := Lib.hid hF.symm
  have q1 : Hid (devB c.d = true → IntKind.i64.wrap (c.d.tdiv 8) = c.d.tdiv 8) := Lib.hid (fun h => by
    have := (devB_iff _).1 h
    exact bits_i64 this.1 this.2)
  have q2 : Hid (devB c.b = true → IntKind.i64.wrap (c.b.tdiv 8) = c.b.tdiv 8) := Lib.hid (fun h => by
    have := (devB_iff _).1 h
    exact bits_i64 this.1 this.2)
  have KB : Hid (kindB c = if c.k = 1 then (elemB c.v && elemB c.l) && decide (c.b = c.d) else if c.k = 2 then (elemB c.v && elemB c.l) && (devB c.b && !(c.b == c.d) && decide (c.b.tdiv 8 = c.d.tdiv 8)) else if c.k = 3 then (elemB c.v && elemB c.l) && decide (c.b = -1) else if c.k = 4 then decide (c.v = 0) && decide (c.l = 0) && (devB c.b && !(c.b == c.d) && decide (c.b.tdiv 8 = c.d.tdiv 8)) else false) := Lib.hid rfl
  rw [hF]
  clear hF
  obtain ⟨kd, hkd⟩ : ∃ y, c.k = y := ⟨_, rfl⟩
  obtain ⟨d, hd⟩ : ∃ y, c.d = y := ⟨_, rfl⟩
  obtain ⟨v, hv⟩ : ∃ y, c.v = y := ⟨_, rfl⟩
  obtain ⟨l, hl⟩ : ∃ y, c.l = y := ⟨_, rfl⟩
  obtain ⟨n, hn⟩ : ∃ y, c.n = y := ⟨_, rfl⟩
  obtain ⟨b, hb⟩ : ∃ y, c.b = y := ⟨_, rfl⟩
  have CX : Hid (c.at 0 = kd ∧ c.at 1 = d ∧ c.at 2 = v ∧ c.at 3 = l ∧ c.at 4 = n ∧ c.at 5 = b) := Lib.hid ⟨hkd, hd, hv, hl, hn, hb⟩
  rw [hd] at D1 q1 FH KB
  rw [hb] at D2 q2 KB
  rw [hv] at K1 KB
  rw [hl] at K2 KB
  rw [hn] at FH
  rw [hkd] at KB
  clear hkd hd hv hl hn hb
  unfold chk at K1 K2
  obtain ⟨db, hdb⟩ : ∃ y, devB d = y := ⟨_, rfl⟩
  obtain ⟨bb, hbb⟩ : ∃ y, devB b = y := ⟨_, rfl⟩
  obtain ⟨ev, hev⟩ : ∃ y, elemB v = y := ⟨_, rfl⟩
  obtain ⟨el, hel⟩ : ∃ y, elemB l = y := ⟨_, rfl⟩
  obtain ⟨kk, hkk⟩ : ∃ y, kindB c = y := ⟨_, rfl⟩
  rw [hdb] at D1 q1 FH
  rw [hbb] at D2 q2 KB
  rw [hev] at K1 KB
  rw [hel] at K2 KB
  rw [hkk] at FH KB
  have HD1 := Lib.hid D1; have HD2 := Lib.hid D2; have HK1 := Lib.hid K1; have HK2 := Lib.hid K2
  clear D1 D2 K1 K2 hdb hbb hev hel hkk
  go_enter Tryz.func50, Tryz.ntmps50
  have B0 := Lib.hid (Below.refl w.heap.size w)
  go_upto_region 1 with fail
  obtain ⟨w1, hw1⟩ : ∃ y, w.alloc (.cells (rowF 8 (ctC c)) 44) = y := ⟨_, rfl⟩
  have b1 : Below w.heap.size w w1 := by rw [← hw1]; exact (Below.refl _ _).alloc (Nat.le_refl _) _
  have C1 : Hid (RowV w1 w.heap.size 44 8 (ctC c)) := Lib.hid (by rw [← hw1]; exact RowV.new w _ 8 (ctC c))
  have z1 : w.heap.size + 1 = w1.heap.size := by rw [← hw1]; exact (Array.size_push _).symm
  rw [hw1]
  (try rw [z1])
  have B1 := Lib.hid (B0.out.trans (b1.mono B0.out.size))
  clear b1 hw1 z1 B0
  obtain ⟨e0, e1, e2, e3, e4, e5⟩ := CX.out
  have y0 : Hid (∀ W, Below w1.heap.size w1 W → W.cell? ⟨w.heap.size, 0, none⟩ = some (.int .i64 kd)) := Lib.hid (fun W hW => e0 ▸ ct_cell (C1.out.below hW) (i := 0) (by decide))
  have y1 : Hid (∀ W, Below w1.heap.size w1 W → W.cell? ⟨w.heap.size, 1, none⟩ = some (.int .i64 d)) := Lib.hid (fun W hW => e1 ▸ ct_cell (C1.out.below hW) (i := 1) (by decide))
  have y2 : Hid (∀ W, Below w1.heap.size w1 W → W.cell? ⟨w.heap.size, 2, none⟩ = some (.int .i64 v)) := Lib.hid (fun W hW => e2 ▸ ct_cell (C1.out.below hW) (i := 2) (by decide))
  have y3 : Hid (∀ W, Below w1.heap.size w1 W → W.cell? ⟨w.heap.size, 3, none⟩ = some (.int .i64 l)) := Lib.hid (fun W hW => e3 ▸ ct_cell (C1.out.below hW) (i := 3) (by decide))
  have y4 : Hid (∀ W, Below w1.heap.size w1 W → W.cell? ⟨w.heap.size, 4, none⟩ = some (.int .i64 n)) := Lib.hid (fun W hW => e4 ▸ ct_cell (C1.out.below hW) (i := 4) (by decide))
  have y5 : Hid (∀ W, Below w1.heap.size w1 W → W.cell? ⟨w.heap.size, 5, none⟩ = some (.int .i64 b)) := Lib.hid (fun W hW => e5 ▸ ct_cell (C1.out.below hW) (i := 5) (by decide))
  clear e0 e1 e2 e3 e4 e5 CX
  have R1 : Hid (Below w1.heap.size w1 w1) := Lib.hid (Below.refl _ w1)
  have x1 := y1.out _ R1.out
  go_wp2_with fail
  refine (HD1.out _).mono ?_
  rintro e w2 ⟨rfl, rfl⟩
  clear HD1
  cases db
  · obtain rfl : F = false := FH.out
    clear FH
    go_wp2_with fail
    go_ret
    exact ⟨rfl, B1.out⟩
  have qd := q1.out rfl
  have x4 := y4.out _ R1.out
  cases n0 : decide (n < 1)
  rotate_left
  · obtain rfl : F = false := by rw [FH.out, n0]; rfl
    clear FH
    go_wp2_with fail
    go_ret
    exact ⟨rfl, B1.out⟩
  cases n1 : decide (1048576 < n)
  rotate_left
  · obtain rfl : F = false := by rw [FH.out, n0, n1]; rfl
    clear FH
    go_wp2_with fail
    go_ret
    exact ⟨rfl, B1.out⟩
  obtain rfl : F = kk := by rw [FH.out, n0, n1]; cases kk <;> rfl
  clear FH
  go_upto_region 3 with fail
  clear n0 n1 x4 y4
  go_cut [3] (fun s3 wx => s3 = .bool (ev && el) ∧ Below w1.heap.size w1 wx)
  case first =>
    have x2 := y2.out _ R1.out
    go_wp2_with fail
    refine (HK1.out _).mono ?_
    rintro e w3 ⟨rfl, b3⟩
    have x3 := y3.out _ b3
    cases ev
    · go_wp2_with fail
      go_meet
      exact ⟨rfl, b3⟩
    · go_wp2_with fail
      refine (HK2.out _).mono ?_
      rintro e w4 ⟨rfl, b4⟩
      have B4 := b3.trans (b4.mono b3.size)
      cases el
      · go_wp2_with fail
        go_meet
        exact ⟨rfl, B4⟩
      · go_wp2_with fail
        go_meet
        exact ⟨rfl, B4⟩
  case rest =>
    rename World => w5
    obtain ⟨rfl, hB5⟩ := hcut
    obtain ⟨keys, hkeys⟩ : ∃ y, (ev && el) = y := ⟨_, rfl⟩
    rw [hkeys] at KB ⊢
    have B5 := Lib.hid hB5
    clear HK1 HK2 hkeys hB5 x1
    go_upto_region 4 with fail
    go_cut [4] (fun s4 wx => s4 = .bool (bb && !(b == d) && decide (b.tdiv 8 = d.tdiv 8)) ∧ w5 = wx)
    case first =>
      have x5 := y5.out _ B5.out
      have x1 := y1.out _ B5.out
      go_wp2_with fail
      refine (HD2.out _).mono ?_
      rintro e w6 ⟨rfl, rfl⟩
      cases bb
      · go_wp2_with fail
        go_meet
        exact ⟨rfl, rfl⟩
      · have qb := q2.out rfl
        cases z0 : (b == d)
        · have z3 : (b != d) = true := by show (!(b == d)) = true; rw [z0]; rfl
          cases z1 : decide (b.tdiv 8 = d.tdiv 8)
          · have z2 : (b.tdiv 8 == d.tdiv 8) = false := by rw [beq_eq_false_iff_ne]; exact of_decide_eq_false z1
            go_wp2_with fail
            go_meet
            exact ⟨by rw [z0, z1]; rfl, rfl⟩
          · have z2 : (b.tdiv 8 == d.tdiv 8) = true := by rw [beq_iff_eq]; exact of_decide_eq_true z1
            go_wp2_with fail
            go_meet
            exact ⟨by rw [z0, z1]; rfl, rfl⟩
        · have z3 : (b != d) = false := by show (!(b == d)) = false; rw [z0]; rfl
          go_wp2_with fail
          go_meet
          exact ⟨by rw [z0]; rfl, rfl⟩
    case rest =>
      obtain ⟨rfl, rfl⟩ := hcut
      obtain ⟨oth, hoth⟩ : ∃ y, (bb && !(b == d) && decide (b.tdiv 8 = d.tdiv 8)) = y := ⟨_, rfl⟩
      rw [hoth] at KB ⊢
      have BF := Lib.hid (B1.out.trans (B5.out.mono B1.out.size))
      have x0 := y0.out _ B5.out
      clear HD2 q1 q2 qd hoth
      by_cases k1 : kd = 1
      · subst k1
        have KB2 : Hid (F = (keys && decide (b = d))) := KB
        clear KB
        have x5 := y5.out _ B5.out
        have x1 := y1.out _ B5.out
        cases keys
        · obtain rfl : F = false := KB2.out
          go_wp2_with fail
          go_ret
          exact ⟨rfl, BF.out⟩
        · cases z0 : (b == d)
          · obtain rfl : F = false := by rw [KB2.out]; show decide (b = d) = false; rw [decide_eq_false_iff_not]; exact beq_eq_false_iff_ne.1 z0
            go_wp2_with fail
            go_ret
            exact ⟨rfl, BF.out⟩
          · obtain rfl : F = true := by rw [KB2.out]; show decide (b = d) = true; rw [decide_eq_true_iff]; exact beq_iff_eq.1 z0
            go_wp2_with fail
            go_ret
            exact ⟨rfl, BF.out⟩
      have k1b : (kd == 1) = false := by rw [beq_eq_false_iff_ne]; exact k1
      by_cases k2 : kd = 2
      · subst k2
        have KB2 : Hid (F = (keys && oth)) := KB
        clear KB k1 k1b
        cases keys
        · obtain rfl : F = false := KB2.out
          go_wp2_with fail
          go_ret
          exact ⟨rfl, BF.out⟩
        · obtain rfl : F = oth := KB2.out
          go_wp2_with fail
          go_ret
          exact ⟨rfl, BF.out⟩
      have k2b : (kd == 2) = false := by rw [beq_eq_false_iff_ne]; exact k2
      by_cases k3 : kd = 3
      · subst k3
        have KB2 : Hid (F = (keys && decide (b = -1))) := KB
        clear KB k1 k1b k2 k2b
        have x5 := y5.out _ B5.out
        cases keys
        · obtain rfl : F = false := KB2.out
          go_wp2_with fail
          go_ret
          exact ⟨rfl, BF.out⟩
        · cases z0 : (b == -1)
          · obtain rfl : F = false := by rw [KB2.out]; show decide (b = -1) = false; rw [decide_eq_false_iff_not]; exact beq_eq_false_iff_ne.1 z0
            go_wp2_with fail
            go_ret
            exact ⟨rfl, BF.out⟩
          · obtain rfl : F = true := by rw [KB2.out]; show decide (b = -1) = true; rw [decide_eq_true_iff]; exact beq_iff_eq.1 z0
            go_wp2_with fail
            go_ret
            exact ⟨rfl, BF.out⟩
      have k3b : (kd == 3) = false := by rw [beq_eq_false_iff_ne]; exact k3
      by_cases k4 : kd = 4
      · subst k4
        have KB2 : Hid (F = (decide (v = 0) && decide (l = 0) && oth)) := KB
        clear KB k1 k1b k2 k2b k3 k3b
        have x2 := y2.out _ B5.out
        have x3 := y3.out _ B5.out
        cases z0 : (v == 0)
        · obtain rfl : F = false := by rw [KB2.out, show decide (v = 0) = false from by rw [decide_eq_false_iff_not]; exact beq_eq_false_iff_ne.1 z0]; rfl
          go_wp2_with fail
          go_ret
          exact ⟨rfl, BF.out⟩
        · cases z1 : (l == 0)
          · obtain rfl : F = false := by rw [KB2.out, show decide (l = 0) = false from by rw [decide_eq_false_iff_not]; exact beq_eq_false_iff_ne.1 z1, Bool.and_false]; rfl
            go_wp2_with fail
            go_ret
            exact ⟨rfl, BF.out⟩
          · obtain rfl : F = oth := by rw [KB2.out, show decide (l = 0) = true from by rw [decide_eq_true_iff]; exact beq_iff_eq.1 z1, show decide (v = 0) = true from by rw [decide_eq_true_iff]; exact beq_iff_eq.1 z0]; rfl
            go_wp2_with fail
            go_ret
            exact ⟨rfl, BF.out⟩
      have k4b : (kd == 4) = false := by rw [beq_eq_false_iff_ne]; exact k4
      obtain rfl : F = false := by rw [KB.out, if_neg k1, if_neg k2, if_neg k3, if_neg k4]
      clear KB k1 k2 k3 k4
      go_wp2_with fail
      go_ret
      exact ⟨rfl, BF.out⟩
end Go.Proofs.YtpekhdahamloaaaGreatDoor

namespace Go.Proofs.YtpekhdahamloaaaGreatDoor
open Go.RowKit Cod
theorem OwnV.value {w : World} {base : Nat} {sl : Value} {ts : List Tv} (h : OwnV w base sl ts) (hn : ts.length ≤ 1000000) : CodAt w (.agg #[.int .i64 3, .int .i64 0, .string ⟨#[]⟩, sl]) (lstT ts) := by
  obtain ⟨c, h1, h2⟩ := h.read (S := fun b => True) (by omega) (fun _ _ => trivial)
  exact .mk 3 0 ByteArray.empty sl ts c ⟨by decide, by decide⟩ ⟨by decide, by decide⟩ (by decide) h1.at' (fun i hi => (h2 i hi).at')
section
variable {zs : List Int} (h : ∀ z ∈ zs, i64B z) (hl : zs.length ≤ 100) {v : Value} {w : World} (hv : CodAt w v (lstT (zs.map numT)))
include h hl hv
theorem enc_nums : Calls Tryz.prog 26 #[v] w fun e w' => (∃ u, e = .returned (.tuple #[u, .int .i64 0]) ∧ Owns w' w.heap.size u (encN zs)) ∧ Below w.heap.size w w' := by
  have CT := encN_chk zs
  have E := cencode_any (lstT (zs.map numT)) v w CT.2 hv (Nat.le_trans (encN_len zs h hl) (by decide))
  refine E.mono fun e w' h2 => ?_
  unfold EncPost at h2
  rw [if_pos CT.1] at h2
  exact h2
theorem renc_nums : Calls Tryz.prog 81 #[v] w fun e w' => (∃ u, e = .returned (.tuple #[u, .int .i64 0]) ∧ Owns w' w.heap.size u (encN zs)) ∧ Below w.heap.size w w' := by
  have CT := encN_chk zs
  have E := rcencode_any (lstT (zs.map numT)) v w CT.2 hv (Nat.le_trans (encN_len zs h hl) (by decide))
  refine E.mono fun e w' h2 => ?_
  unfold EncPost at h2
  rw [if_pos CT.1] at h2
  exact h2
end
theorem idx6 (a b c d e f : Int) (k : Nat) (hk : k < 6) (w : World) : (Instr.index 152 (.agg #[.int .i64 a, .int .i64 b, .int .i64 c, .int .i64 d, .int .i64 e, .int .i64 f]) (.int .i64 (k : Int))).run Tryz.prog w = .ok (.int .i64 ([a, b, c, d, e, f].getD k 0)) w := by
  match k, hk with
  | 0, _ => (refine (?_ : _ = _); kernel_rfl)
  | 1, _ => (refine (?_ : _ = _); kernel_rfl)
  | 2, _ => (refine (?_ : _ = _); kernel_rfl)
  | 3, _ => (refine (?_ : _ = _); kernel_rfl)
  | 4, _ => (refine (?_ : _ = _); kernel_rfl)
  | 5, _ => (refine (?_ : _ = _); kernel_rfl)
set_option maxRecDepth 100000 in
set_option maxHeartbeats 8000000 in
theorem pmessage_any (c : Ct) (hc : c.wf) (w : World) (hT : Tab w) :
    Calls Tryz.prog 52 #[.agg (rowF 8 (ctC c))] w fun e w' => (∃ v, e = .returned v ∧ BytesAt w' v (msgC c)) ∧ Below w.heap.size w w' := by
  have HT := Lib.hid hT
  have EL := Lib.hid (encN_len (numsC c) (numsC_bd hc) (show (6 : Nat) ≤ 100 by decide))
  have EN := Lib.hid (fun v W (h : CodAt W v (lstT ((numsC c).map numT))) => enc_nums (numsC_bd hc) (show (6 : Nat) ≤ 100 by decide) h)
  have G := Lib.hid (fun v W (h : BytesAt W v (encN (numsC c))) (hT : Tab W) => tagged_any ⟨#[99, 101, 114, 116]⟩ v _ W (by decide) (Nat.le_trans EL.out (by decide)) h hT)
  have HB : Hid (∀ k, k < 6 → i64B ((numsC c).getD k 0)) := Lib.hid (by
    intro k hk
    match k, hk with
    | 0, _ => exact hc.k
    | 1, _ => exact hc.d
    | 2, _ => exact hc.v
    | 3, _ => exact hc.l
    | 4, _ => exact hc.n
    | 5, _ => exact hc.b)
  clear hT hc
  go_enter Tryz.func52, Tryz.ntmps52
  have B0 := Lib.hid (Below.refl w.heap.size w)
  go_upto_region 1 with fail
  obtain ⟨w1, hw1⟩ : ∃ y, w.alloc (.cells (rowF 8 (ctC c)) 44) = y := ⟨_, rfl⟩
  have b1 : Below w.heap.size w w1 := by rw [← hw1]; exact (Below.refl _ _).alloc (Nat.le_refl _) _
  have A1 : Hid (RowV w1 w.heap.size 44 8 (ctC c)) := Lib.hid (by rw [← hw1]; exact RowV.new w _ 8 (ctC c))
  have z1 : w.heap.size + 1 = w1.heap.size := by rw [← hw1]; exact (Array.size_push _).symm
  rw [hw1]
  (try rw [z1])
  have B1 := Lib.hid (B0.out.trans (b1.mono B0.out.size))
  clear b1 hw1 z1 B0
  go_upto_region 2 with fail
  have BV := Lib.hid (show w.heap.size < w1.heap.size from A1.out.lt)
  obtain ⟨w2, hw2⟩ : ∃ y, w1.alloc (.cells #[.int .i64 3, .int .i64 0, .string ⟨#[]⟩, .slice none 0 0] 59) = y := ⟨_, rfl⟩
  have b2 : Below w1.heap.size w1 w2 := by rw [← hw2]; exact (Below.refl _ _).alloc (Nat.le_refl _) _
  have I2 : Hid (LstI w2 w1.heap.size (.slice none 0 0) [] w2) := Lib.hid (by rw [← hw2]; exact LstI.start w1)
  have z2 : w1.heap.size + 1 = w2.heap.size := by rw [← hw2]; exact (Array.size_push _).symm
  rw [hw2]
  (try rw [z2])
  have B2 := Lib.hid (B1.out.trans (b2.mono B1.out.size))
  have A2 := Lib.hid (A1.out.below b2)
  clear b2 hw2 z2 B1 A1
  have x0 : _ = some (Value.int .i64 c.k) := ct_cell A2.out (i := 0) (by decide)
  have x1 : _ = some (Value.int .i64 c.d) := ct_cell A2.out (i := 1) (by decide)
  have x2 : _ = some (Value.int .i64 c.v) := ct_cell A2.out (i := 2) (by decide)
  have x3 : _ = some (Value.int .i64 c.l) := ct_cell A2.out (i := 3) (by decide)
  have x4 : _ = some (Value.int .i64 c.n) := ct_cell A2.out (i := 4) (by decide)
  have x5 : _ = some (Value.int .i64 c.b) := ct_cell A2.out (i := 5) (by decide)
  go_wp2_with fail
  clear x0 x1 x2 x3 x4 x5 A2
  have IX := Lib.hid (fun k (hk : k < 6) W => idx6 c.k c.d c.v c.l c.n c.b k hk W)
  go_loopg [23] 6 (fun g s23 wx => ∃ (k : Nat) (sl : Value), k + g = 6 ∧ s23 = .int .i64 (k : Int) ∧ Hid (LstI w2 w1.heap.size sl (((numsC c).take k).map numT) wx))
  case atStart => exact ⟨0, .slice none 0 0, rfl, rfl, I2⟩
  case round =>
    obtain ⟨k, sl, hk, rfl, hI⟩ := hrel
    obtain ⟨w3, rfl⟩ : ∃ y, y = wr := ⟨_, rfl⟩
    have q0 : (0 : Int) ≤ (k : Int) := Int.natCast_nonneg k
    by_cases hlt : k < 6
    · have d0 : decide ((k : Int) < 6) = true := by rw [decide_eq_true_iff]; omega
      have d1 : decide (k < 6) = true := by rw [decide_eq_true_iff]; omega
      have ix := IX.out k hlt
      have HE : Hid (((numsC c).take (k + 1)).map numT = ((numsC c).take k).map numT ++ [numT ((numsC c).getD k 0)]) := Lib.hid (by
        rw [take_succ_getD 0 _ (show k < (numsC c).length from hlt), List.map_append]; rfl)
      have HX := Lib.hid (HB.out k hlt)
      have hxx : [c.k, c.d, c.v, c.l, c.n, c.b].getD k 0 = (numsC c).getD k 0 := rfl
      rw [hxx] at ix
      obtain ⟨x, hx⟩ : ∃ x, (numsC c).getD k 0 = x := ⟨_, rfl⟩
      rw [hx] at ix HE HX
      have HLT := Lib.hid hlt
      obtain ⟨ts, hts⟩ : ∃ y, ((numsC c).take k).map numT = y := ⟨_, rfl⟩
      have TL : Hid (ts.length ≤ 1000000) := Lib.hid (by rw [← hts, List.length_map, List.length_take]; have : (numsC c).length = 6 := rfl; omega)
      rw [hts] at HE hI
      obtain ⟨sa, sn, sc, rfl⟩ := hI.out.slice
      have xs := hI.out.cell
      clear hx hlt hts hxx
      go_wp2_with (first | ((with_reducible (show wpList _ _ _ (Oper.mk (some 31) _ _ _ _ _ :: _) _ _)); refine Hid.out ?_))
      refine Lib.hid ?_
      refine wpList_app_val rfl (.tmp 27) (.tmp 30) rfl w2.heap.size (.slice sa sn sc) ts rfl (hI.out.alloc _).own w3.heap.size 1 (valC 1 x ⟨#[]⟩ (.slice none 0 0)) (numT x) rfl (RowV.new w3 _ 4 (valC 1 x ⟨#[]⟩ (.slice none 0 0))) (leafS _ _ HX.out) TL.out (hI.out.alloc _).size ?_
      intro v9 w9 L9 s9
      obtain ⟨a9, n9, c9, rfl⟩ := L9.out.slice3
      obtain ⟨x9, f9⟩ := (hI.out.alloc _).mid s9.out
      have I9 := Lib.hid ((hI.out.alloc _).push L9.out s9.out)
      clear L9 s9 hI xs
      rw [← HE.out] at I9
      go_wp2_with fail
      go_roundg (gk - 1)
      case measure => have := HLT.out; omega
      case rel =>
        go_light
        exact ⟨k + 1, .slice a9 n9 c9, by have := HLT.out; omega, by go_num, I9⟩
    · obtain rfl : k = 6 := by omega
      clear hlt hk
      obtain ⟨sa, sn, sc, rfl⟩ := hI.out.slice
      have I3 : Hid (LstI w2 w1.heap.size (.slice sa sn sc) ((numsC c).map numT) w3) := hI
      have E := Lib.hid (EN.out _ w3 (I3.out.value (by rw [List.length_map]; show (6 : Nat) ≤ 1000000; decide)))
      have B3 := Lib.hid (B2.out.trans (I3.out.only.below (K := w.heap.size) (by have := BV.out; omega) (by have := BV.out; have := I2.out.lt; omega)))
      have T3 := Lib.hid (HT.out.below B3.out)
      clear hI q0 EN IX
      go_upto_region 7 with fail
      go_wp2_with (first | ((with_reducible (show wpList _ _ _ (Oper.mk (some 35) _ _ _ _ _ :: _) _ _)); refine Hid.out ?_))
      refine Lib.hid ?_
      refine wpList_load_rowV rfl 59 (.tmp 3) rfl w1.heap.size rfl 4 59 _ I3.out.row _ Tryz.underlying59 rfl (by kernel_rfl) ?_
      go_wp2_with fail
      refine E.out.mono ?_
      rintro e w4 ⟨⟨u, rfl, o4⟩, b4⟩
      have Y4 := Lib.hid (o4.bytesAt (by have := EL.out; omega))
      have B4 := Lib.hid (B3.out.trans (b4.mono B3.out.size))
      have T4 := Lib.hid (T3.out.below b4)
      clear o4 b4 E I3 T3 B3
      go_wp2_with fail
      refine (G.out _ _ Y4.out T4.out).mono ?_
      rintro e w5 ⟨rfl, b5⟩
      have B5 := Lib.hid (B4.out.trans (b5.mono B4.out.size))
      clear b5 T4 B4 Y4 G
      have Zr := Lib.hid (RowV.new w5 35 32 (fun _ => vB 0))
      go_upto_region 9 with ((with_reducible (show wpList _ _ _ (Oper.mk none _ _ _ _ _ :: _) _ _)); refine wpList_store_rowV (o := ⟨none, .store 35 (.tmp 8) (.tmp 40), _, _, _, _⟩) rfl 35 (.tmp 8) (.tmp 40) rfl w5.heap.size rfl 32 35 _ (fun j => vB ((msgC c).getD j 0)) rfl Zr.out (by kernel_rfl) (fun _ _ => rfl) ?_; intro w6 D6 o6)
      have b6 : Below w5.heap.size w5 w6 := ((Below.refl _ _).alloc (Nat.le_refl _) _).trans (o6.out.below (Nat.le_refl _) (by rw [World.size_alloc]; omega))
      have B6 := Lib.hid (B5.out.trans (b6.mono B5.out.size))
      clear b6 o6 Zr B5
      have Y := Lib.hid (D6.out.bytesAt (msgC_len c) (by decide) (by decide))
      go_wp2_with fail
      go_ret
      exact ⟨⟨_, rfl, Y.out⟩, B6.out⟩
end Go.Proofs.YtpekhdahamloaaaGreatDoor

namespace Go.Proofs.YtpekhdahamloaaaGreatDoor
open Go.RowKit Cod
abbrev crtParts (k d v l n b : Int) : Array (Nat × Value) := #[(0, .int .i64 k), (1, .int .i64 d), (2, .int .i64 v), (3, .int .i64 l), (4, .int .i64 n), (5, .int .i64 b)]
theorem build_crt (k d v l n b : Int) (W : World) : (Instr.build 44 (crtParts k d v l n b)).run Tryz.prog W = .ok (.agg (rowF 8 (ctC (ctN k d v l n b)))) W := by kernel_rfl
theorem Ct.sig_cells (c : Ct) (r g : Int) : ∀ i, i < 8 → (if 6 ≤ i ∧ i < 6 + 2 then (fun j => if j = 0 then Value.int .i64 r else .int .i64 g) (i - 6) else ctC c i) = ctC ⟨c.k, c.d, c.v, c.l, c.n, c.b, r, g⟩ i := by
  intro i hi
  match i, hi with
  | 0, _ => rfl
  | 1, _ => rfl
  | 2, _ => rfl
  | 3, _ => rfl
  | 4, _ => rfl
  | 5, _ => rfl
  | 6, _ => rfl
  | 7, _ => rfl
theorem crt_is (c : Ct) (x : Int) : crtV c x = if crtE c x = 0 then ⟨c.k, c.d, c.v, c.l, c.n, c.b, sgR x (msgC c), sgS x (msgC c)⟩ else ct0 := rfl
set_option maxRecDepth 100000 in
set_option maxHeartbeats 8000000 in
theorem pcertify_any (k d v l n b x : Int) (hc : (ctN k d v l n b).wf) (w : World) (hT : Tab w) :
    Calls Tryz.prog 23 #[.int .i64 k, .int .i64 d, .int .i64 v, .int .i64 l, .int .i64 n, .int .i64 b, .int .i64 x] w fun e w' => e = .returned (.tuple #[.agg (rowF 8 (ctC (crtV (ctN k d v l n b) x))), .int .i64 (crtE (ctN k d v l n b) x)]) ∧ Below w.heap.size w w' := by
  have T0 := Lib.hid hT
  obtain ⟨ak, hak⟩ : ∃ y : Ct, ctN k d v l n b = y := ⟨_, rfl⟩
  have HAK := Lib.hid hak
  rw [hak] at hc ⊢
  have F := Lib.hid (fun W => pformed_any ak W)
  have M := Lib.hid (fun W (h : Tab W) => pmessage_any ak hc W h)
  have SG := Lib.hid (fun v W (h : BytesAt W v (msgC ak)) (hT : Tab W) => sign_any x v _ W (by rw [msgC_len]; decide) h hT)
  have P2 := Lib.hid (pubE_two x)
  have VE : Hid (crtE ak x = if formC ak then pubE x else 370) := Lib.hid rfl
  have VV : Hid (crtV ak x = if crtE ak x = 0 then ⟨ak.k, ak.d, ak.v, ak.l, ak.n, ak.b, sgR x (msgC ak), sgS x (msgC ak)⟩ else ct0) := Lib.hid rfl
  obtain ⟨rv, hrv⟩ : ∃ y, crtV ak x = y := ⟨_, rfl⟩
  obtain ⟨re, hre⟩ : ∃ y, crtE ak x = y := ⟨_, rfl⟩
  rw [hrv, hre] at VV
  rw [hre] at VE
  rw [hrv, hre]
  obtain ⟨ok, hok⟩ : ∃ y, formC ak = y := ⟨_, rfl⟩
  obtain ⟨pe, hpe⟩ : ∃ y, pubE x = y := ⟨_, rfl⟩
  rw [hok] at F VE
  rw [hpe] at SG P2 VE
  clear hT hc hak hrv hre hok hpe
  go_enter Tryz.func23, Tryz.ntmps23
  have B0 := Lib.hid (Below.refl w.heap.size w)
  go_upto_region 1 with fail
  obtain ⟨w1, hw1⟩ : ∃ y, w.alloc (.cells #[.int .i64 0, .int .i64 0, .int .i64 0, .int .i64 0, .int .i64 0, .int .i64 0, .int .i64 0, .int .i64 0] 44) = y := ⟨_, rfl⟩
  have b1 : Below w.heap.size w w1 := by rw [← hw1]; exact (Below.refl _ _).alloc (Nat.le_refl _) _
  have Z1 : Hid (RowV w1 w.heap.size 44 8 (ctC ct0)) := Lib.hid (by rw [← hw1]; exact RowV.new w _ 8 (ctC ct0))
  have z1 : w.heap.size + 1 = w1.heap.size := by rw [← hw1]; exact (Array.size_push _).symm
  rw [hw1]
  (try rw [z1])
  have B1 := Lib.hid (B0.out.trans (b1.mono B0.out.size))
  have T1 := Lib.hid (T0.out.below b1)
  clear b1 hw1 z1 B0 T0
  have L1 := Lib.hid Z1.out.lt
  go_wp2_with (first | ((with_reducible (show wpList _ _ _ (Oper.mk (some 23) _ _ _ _ _ :: _) _ _)); refine Hid.out ?_))
  refine Lib.hid ?_
  refine wpList_build rfl 44 _ rfl (crtParts k d v l n b) (by simp only [List.map_toArray, List.map_cons, List.map_nil]; rfl) _ (build_crt k d v l n b _) ?_
  rw [HAK.out]
  have Zr := Lib.hid (RowV.new w1 44 8 (ctC ct0))
  go_upto_region 2 with ((with_reducible (show wpList _ _ _ (Oper.mk none _ _ _ _ _ :: _) _ _)); refine wpList_store_rowV (o := ⟨none, .store 44 (.tmp 16) (.tmp 23), _, _, _, _⟩) rfl 44 (.tmp 16) (.tmp 23) rfl w1.heap.size rfl 8 44 _ (ctC ak) rfl Zr.out (by kernel_rfl) (fun j _ => ctC_one ak j) ?_; intro w2 X2 o2)
  have b2 : Below w1.heap.size w1 w2 := ((Below.refl _ _).alloc (Nat.le_refl _) _).trans (o2.out.below (Nat.le_refl _) (by rw [World.size_alloc]; omega))
  have B2 := Lib.hid (B1.out.trans (b2.mono B1.out.size))
  have T2 := Lib.hid (T1.out.below b2)
  have Z2 := Lib.hid (Z1.out.below b2)
  clear b2 o2 Zr B1 T1 Z1
  go_wp2_with (first | ((with_reducible (show wpList _ _ _ (Oper.mk (some 24) _ _ _ _ _ :: _) _ _)); refine Hid.out ?_))
  refine Lib.hid ?_
  refine wpList_load_rowV rfl 44 (.tmp 16) rfl w1.heap.size rfl 8 _ _ (X2.out) _ Tryz.underlying44 rfl (by kernel_rfl) ?_
  go_wp2_with fail
  refine (F.out _).mono ?_
  rintro e w3 ⟨rfl, b3⟩
  have B3 := Lib.hid (B2.out.trans (b3.mono B2.out.size))
  have T3 := Lib.hid (T2.out.below b3)
  have Z3 := Lib.hid (Z2.out.below b3)
  have X3 := Lib.hid (X2.out.below b3)
  clear b3 B2 T2 Z2 X2
  clear F
  cases ok
  · obtain rfl : re = 370 := VE.out
    obtain rfl : rv = ct0 := by rw [VV.out, if_neg (by decide)]
    go_wp2_with (first | ((with_reducible (show wpList _ _ _ (Oper.mk (some 27) _ _ _ _ _ :: _) _ _)); refine Hid.out ?_))
    refine Lib.hid ?_
    refine wpList_load_rowV rfl 44 (.tmp 14) rfl w.heap.size rfl 8 _ _ (Z3.out) _ Tryz.underlying44 rfl (by kernel_rfl) ?_
    go_wp2_with (first | ((with_reducible (show wpList _ _ _ (Oper.mk none _ _ _ _ _ :: _) _ _)); refine Hid.out ?_))
    refine Lib.hid ?_
    refine wpList_store_rowV rfl 44 (.tmp 14) (.tmp 27) rfl w.heap.size rfl 8 _ _ _ rfl (Z3.out) (by kernel_rfl) (fun j _ => ctC_one _ j) ?_
    intro w9 Z9 O9
    go_wp2_with fail
    refine bodyPost_ret (v := .tuple #[.agg (rowF 8 (ctC ct0)), .int .i64 370]) (by exact results_rowV2 (fn := Tryz.f23) (p := 14) (u := 15) (ty := 44) rfl _ _ w.heap.size 8 44 _ _ rfl Z9.out Tryz.underlying44 rfl (by kernel_rfl)) rfl ⟨rfl, ?_⟩
    exact B3.out.trans (O9.out.below (Nat.le_refl _) B3.out.size)
  · have VE2 : Hid (re = pe) := VE
    clear VE
    go_wp2_with (first | ((with_reducible (show wpList _ _ _ (Oper.mk (some 30) _ _ _ _ _ :: _) _ _)); refine Hid.out ?_))
    refine Lib.hid ?_
    refine wpList_load_rowV rfl 44 (.tmp 16) rfl w1.heap.size rfl 8 _ _ (X3.out) _ Tryz.underlying44 rfl (by kernel_rfl) ?_
    go_wp2_with fail
    refine (M.out _ T3.out).mono ?_
    rintro e w5 ⟨⟨v, rfl, y5⟩, b5⟩
    obtain ⟨va, vc, rfl⟩ := y5.slice
    have Y5 := Lib.hid y5
    have T5 := Lib.hid (T3.out.below b5)
    have X5 := Lib.hid (X3.out.below b5)
    have Z5 := Lib.hid (Z3.out.below b5)
    have B5 := Lib.hid (B3.out.trans (b5.mono B3.out.size))
    clear y5 b5 T3 X3 Z3 B3 M
    go_wp2_with fail
    refine (SG.out _ _ Y5.out T5.out).mono ?_
    rintro e w6 ⟨rfl, b6⟩
    have X6 := Lib.hid (X5.out.below b6)
    have Z6 := Lib.hid (Z5.out.below b6)
    have B6 := Lib.hid (B5.out.trans (b6.mono B5.out.size))
    clear b6 T5 X5 Z5 B5 SG Y5
    obtain ⟨sr, hsr⟩ : ∃ y, sgR x (msgC ak) = y := ⟨_, rfl⟩
    obtain ⟨ss, hss⟩ : ∃ y, sgS x (msgC ak) = y := ⟨_, rfl⟩
    rw [hsr, hss] at VV ⊢
    clear hsr hss
    go_wp2_with (first | ((with_reducible (show wpList _ _ _ (Oper.mk none _ _ _ _ _ :: _) _ _)); refine Hid.out ?_))
    refine Lib.hid ?_
    refine wpList_store_part rfl 42 (.tmp 35) (.tmp 33) rfl w1.heap.size 6 rfl 8 2 _ _ (fun j => if j = 0 then Value.int .i64 sr else .int .i64 ss) (ctC ⟨ak.k, ak.d, ak.v, ak.l, ak.n, ak.b, sr, ss⟩) rfl X6.out (by decide) (by kernel_rfl) (fun j _ => by show (if j = 0 then _ else _ : Value).oneCell' = true; split <;> rfl) (Ct.sig_cells ak sr ss) ?_
    intro w7 X7 O7
    have Z7 := Lib.hid (O7.out.row (show w.heap.size ≠ w1.heap.size from fun e => by have := L1.out; omega) Z6.out)
    have B7 := Lib.hid (B6.out.trans (O7.out.below (by have := L1.out; omega) B6.out.size))
    clear X6 O7 Z6 B6
    rcases P2.out with h0 | h0
    · subst h0
      obtain rfl : re = 0 := VE2.out
      obtain rfl := VV.out
      go_wp2_with (first | ((with_reducible (show wpList _ _ _ (Oper.mk (some 40) _ _ _ _ _ :: _) _ _)); refine Hid.out ?_))
      refine Lib.hid ?_
      refine wpList_load_rowV rfl 44 (.tmp 16) rfl w1.heap.size rfl 8 _ _ (X7.out) _ Tryz.underlying44 rfl (by kernel_rfl) ?_
      go_wp2_with (first | ((with_reducible (show wpList _ _ _ (Oper.mk none _ _ _ _ _ :: _) _ _)); refine Hid.out ?_))
      refine Lib.hid ?_
      refine wpList_store_rowV rfl 44 (.tmp 14) (.tmp 40) rfl w.heap.size rfl 8 _ _ _ rfl (Z7.out) (by kernel_rfl) (fun j _ => ctC_one _ j) ?_
      intro w9 Z9 O9
      go_wp2_with fail
      refine bodyPost_ret (v := .tuple #[.agg (rowF 8 (ctC ⟨ak.k, ak.d, ak.v, ak.l, ak.n, ak.b, sr, ss⟩)), .int .i64 0]) (by exact results_rowV2 (fn := Tryz.f23) (p := 14) (u := 15) (ty := 44) rfl _ _ w.heap.size 8 44 _ _ rfl Z9.out Tryz.underlying44 rfl (by kernel_rfl)) rfl ⟨rfl, ?_⟩
      exact B7.out.trans (O9.out.below (Nat.le_refl _) B7.out.size)
    · subst h0
      obtain rfl : re = 50 := VE2.out
      obtain rfl : rv = ct0 := by rw [VV.out, if_neg (by decide)]
      go_wp2_with (first | ((with_reducible (show wpList _ _ _ (Oper.mk (some 38) _ _ _ _ _ :: _) _ _)); refine Hid.out ?_))
      refine Lib.hid ?_
      refine wpList_load_rowV rfl 44 (.tmp 14) rfl w.heap.size rfl 8 _ _ (Z7.out) _ Tryz.underlying44 rfl (by kernel_rfl) ?_
      go_wp2_with (first | ((with_reducible (show wpList _ _ _ (Oper.mk none _ _ _ _ _ :: _) _ _)); refine Hid.out ?_))
      refine Lib.hid ?_
      refine wpList_store_rowV rfl 44 (.tmp 14) (.tmp 38) rfl w.heap.size rfl 8 _ _ _ rfl (Z7.out) (by kernel_rfl) (fun j _ => ctC_one _ j) ?_
      intro w9 Z9 O9
      go_wp2_with fail
      refine bodyPost_ret (v := .tuple #[.agg (rowF 8 (ctC ct0)), .int .i64 50]) (by exact results_rowV2 (fn := Tryz.f23) (p := 14) (u := 15) (ty := 44) rfl _ _ w.heap.size 8 44 _ _ rfl Z9.out Tryz.underlying44 rfl (by kernel_rfl)) rfl ⟨rfl, ?_⟩
      exact B7.out.trans (O9.out.below (Nat.le_refl _) B7.out.size)
end Go.Proofs.YtpekhdahamloaaaGreatDoor
