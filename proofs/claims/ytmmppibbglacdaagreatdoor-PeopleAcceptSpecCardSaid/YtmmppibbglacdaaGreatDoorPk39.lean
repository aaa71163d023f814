/- Package codec: the reader's values. Values of the codec: what is encoded is read again. Acknowledgements, in plain Lean: their form, their message, what they count for. Package codec: Decode. Package codec: Decode. Certificates, in plain Lean. Package people: isDevice, Owner, formed; its reference. -/
import Derived.Test.YtmmppibbglacdaaGreatDoorPk23
import Derived.Laws.BytesString
import Derived.Laws.IdiomStrings
import Derived.Lib.BufferRead
import Derived.Test.YtmmppibbglacdaaGreatDoorPk28
import Derived.Defers
import Derived.Recover
set_option linter.unusedVariables false
set_option linter.unusedSimpArgs false
namespace Go.Proofs.YtmmppibbglacdaaGreatDoor
open Go.RowKit Cod
/-- no cell of the block is a byte -/
def NoByte (w : World) (B : Nat) : Prop := ∀ o x, w.cell? ⟨B, o, none⟩ ≠ some (vB x)
theorem NoByte.bytes {w w' : World} {B : Nat} (h : NoByte w B) {u : Value} {m : List UInt8} (hu : BytesAt w u m) (ho : OnlyB B w w') : BytesAt w' u m := by
  rcases hu with hu | ⟨b, off, cap, e1, e2, e3, e4, e5, e6⟩
  · exact .inl hu
  · have hne : b ≠ B := fun e => by subst e; exact h _ _ (e6 0 e3)
    exact .inr ⟨b, off, cap, e1, e2, e3, e4, Nat.lt_of_lt_of_le e5 ho.size, fun j hj => (ho.cell (p := ⟨b, off + j, none⟩) e5 hne).trans (e6 j hj)⟩
theorem OnlyB.new {rb B : Nat} {w w1 w' : World} (h : OnlyB rb w w1) (hB : w.heap.size ≤ B) (k : OnlyB B w1 w') : OnlyB rb w w' :=
  ⟨k.os.trans h.os, k.tape.trans h.tape, k.output.trans h.output, Nat.le_trans h.size k.size, fun i hi hn => (k.block i (Nat.lt_of_lt_of_le hi h.size) (by omega)).trans (h.block i hi hn)⟩
theorem only_app {w0 w w' : World} {rb : Nat} {sl v' : Value} (h : OnlyB rb w0 w) (s : AppStep w sl w' v') (hn : ∀ k, sl.ownBlock = some k → w0.heap.size ≤ k) : OnlyB rb w0 w' :=
  ⟨s.1.os.trans h.os, s.1.tape.trans h.tape, s.1.output.trans h.output, Nat.le_trans h.size s.1.size, fun k hk hne => (s.block (Nat.lt_of_lt_of_le hk h.size) (fun e => by have := hn k e; omega)).trans (h.block k hk hne)⟩
theorem CodS.leaf (S : Nat → Prop) (w : World) {k n : Int} {s : ByteArray} (hk : i64B k) (hn : i64B n) (hs : (s.size : Int) ≤ 140737488351232) : CodS S w (.agg (rowF 4 (valC k n s (.slice none 0 0)))) (.mk k n s []) :=
  .mk k n s (.slice none 0 0) [] (fun _ _ => .int .i64 0) hk hn hs (.inl ⟨⟨none, 0, rfl, fun _ => rfl⟩, rfl⟩) (fun i hi => absurd hi (by simp))
theorem valF_1 (rr : Nat) (b : List UInt8) : valF rr (1 :: b) = (numF 0 b).map fun x => (.mk 1 (unzig x.1) ByteArray.empty [], x.2) := by
  unfold valF; rw [if_pos rfl]
theorem valF_2 (rr : Nat) (b : List UInt8) : valF rr (2 :: b) = (match numF 0 b with
      | none => none
      | some (n, b') => if n ≤ b'.length then some (.mk 2 0 ⟨(b'.take n).toArray⟩ [], b'.drop n) else none) := by
  unfold valF; rw [if_neg (by decide), if_pos rfl]; cases numF 0 b <;> rfl
theorem valF_3 (rr : Nat) (b : List UInt8) : valF (rr + 1) (3 :: b) = (match numF 0 b with
      | none => none
      | some (n, b') => if n ≤ b'.length then (repF (valF rr) n b').map fun x => (.mk 3 0 ByteArray.empty x.1, x.2) else none) := by
  rw [valF]; rw [if_neg (by decide), if_neg (by decide), if_pos rfl]; cases numF 0 b <;> rfl
theorem V_set {w : World} {B : Nat} {T : TypeId} {f g : Nat → Value} (h : RowV w B T 4 f) (j : Nat) (u : Value) (he : ∀ i, i < 4 → (if i = j then u else f i) = g i) : RowV (w.setCell ⟨B, j, none⟩ u) B T 4 g := (h.set j u).congr he
/-- i of n values read -/
def RepI (f : List UInt8 → Option (Tv × List UInt8)) (n : Nat) (r0 : List UInt8) (i : Nat) (ts : List Tv) (rest : List UInt8) : Prop :=
  ts.length = i ∧ repF f n r0 = (repF f (n - i) rest).map (fun x => (ts ++ x.1, x.2)) ∧ rest.length ≤ r0.length
theorem RepI.start (f : List UInt8 → Option (Tv × List UInt8)) (n : Nat) (r0 : List UInt8) : RepI f n r0 0 [] r0 := ⟨rfl, by rw [Nat.sub_zero]; cases repF f n r0 <;> simp, Nat.le_refl _⟩
theorem RepI.none {f : List UInt8 → Option (Tv × List UInt8)} {n : Nat} {r0 : List UInt8} {i : Nat} {ts : List Tv} {rest : List UInt8} (h : RepI f n r0 i ts rest) (hi : i < n) (hf : f rest = none) : repF f n r0 = none := by
  rw [h.2.1, show n - i = (n - i - 1) + 1 by omega, repF, hf]; rfl
theorem RepI.step {f : List UInt8 → Option (Tv × List UInt8)} {n : Nat} {r0 : List UInt8} {i : Nat} {ts : List Tv} {rest : List UInt8} (h : RepI f n r0 i ts rest) (hi : i < n) {t : Tv} {rest' : List UInt8} (hf : f rest = some (t, rest')) (hl : rest'.length ≤ rest.length) : RepI f n r0 (i + 1) (ts ++ [t]) rest' := by
  refine ⟨by rw [List.length_append, h.1]; rfl, ?_, Nat.le_trans hl h.2.2⟩
  rw [h.2.1, show n - i = (n - (i + 1)) + 1 by omega, repF, hf]
  show Option.map _ (Option.map _ _) = _
  rw [Option.map_map]
  congr 1
  funext x
  simp
theorem RepI.done {f : List UInt8 → Option (Tv × List UInt8)} {n : Nat} {r0 : List UInt8} {ts : List Tv} {rest : List UInt8} (h : RepI f n r0 n ts rest) : repF f n r0 = some (ts, rest) := by
  rw [h.2.1, Nat.sub_self, repF]; simp
end Go.Proofs.YtmmppibbglacdaaGreatDoor

namespace Go.Proofs.YtmmppibbglacdaaGreatDoor
namespace Cod
mutual
def bdV : Tv → Prop
  | .mk k n s l => (-9223372036854775808 ≤ n ∧ n < 9223372036854775808) ∧ s.size < 18446744073709551616 ∧ l.length < 18446744073709551616 ∧ bdL l
def bdL : List Tv → Prop
  | [] => True
  | t :: l => bdV t ∧ bdL l
end
theorem ba_empty {s : ByteArray} (h : s.data.toList.isEmpty = true) : s = ByteArray.empty := by
  have : s.data.toList = [] := List.isEmpty_iff.1 h
  have h2 : s.data = #[] := by rw [← Array.toArray_toList (xs := s.data), this]
  exact ByteArray.ext h2
mutual
theorem valF_encV : ∀ (t : Tv) (rr : Nat) (r : List UInt8), formB t = true → depthN t ≤ rr → bdV t → valF rr (encV t ++ r) = some (t, r)
  | .mk k n s l, rr, r, hf, hd, hb => by
    unfold bdV at hb
    obtain ⟨⟨b1, b2⟩, b3, b4, b5⟩ := hb
    unfold formB at hf
    unfold encV
    by_cases k1 : k = 1
    · rw [if_pos k1] at hf ⊢
      rw [Bool.and_eq_true] at hf
      rw [List.cons_append, valF_1, numF_of (zig_lt b1 b2), Option.map_some, unzig_zig, ba_empty hf.1, List.isEmpty_iff.1 hf.2, k1]
    · rw [if_neg k1] at hf ⊢
      by_cases k2 : k = 2
      · rw [if_pos k2] at hf ⊢
        rw [Bool.and_eq_true, decide_eq_true_eq] at hf
        have hs : s.size = s.data.toList.length := Array.length_toList.symm
        rw [List.cons_append, List.append_assoc, valF_2, numF_of b3]
        dsimp only
        rw [if_pos (by rw [List.length_append]; omega), hs, List.take_left' rfl, List.drop_left' rfl, Array.toArray_toList, hf.1, List.isEmpty_iff.1 hf.2, k2]
      · rw [if_neg k2] at hf ⊢
        by_cases k3 : k = 3
        · rw [if_pos k3, Bool.and_eq_true, Bool.and_eq_true, decide_eq_true_eq] at hf
          unfold depthN at hd
          rw [if_pos k3] at hd
          cases rr with
          | zero => omega
          | succ rr =>
            rw [List.cons_append, List.append_assoc, valF_3, numF_of b4]
            dsimp only
            rw [if_pos (by rw [List.length_append]; have := encL_len l; omega), repF_encL l rr r hf.2 (by omega) b5, Option.map_some, hf.1.1, ba_empty hf.1.2, k3]
        · rw [if_neg k3] at hf
          cases hf
theorem repF_encL : ∀ (l : List Tv) (rr : Nat) (r : List UInt8), formL l = true → depthL l ≤ rr → bdL l → repF (valF rr) l.length (encL l ++ r) = some (l, r)
  | [], rr, r, _, _, _ => by simp [encL, repF]
  | t :: l, rr, r, hf, hd, hb => by
    unfold bdL at hb
    rw [formL_cons, Bool.and_eq_true] at hf
    rw [depthL_cons] at hd
    rw [encL_cons, List.append_assoc, List.length_cons]
    unfold repF
    rw [valF_encV t rr _ hf.1 (by omega) hb.1]
    dsimp only
    rw [repF_encL l rr r hf.2 (by omega) hb.2, Option.map_some]
end
theorem bdL_of : ∀ (l : List Tv), (∀ i, i < l.length → bdV (l.getD i tv0)) → bdL l
  | [], _ => by unfold bdL; trivial
  | t :: l, h => by
    unfold bdL
    exact ⟨h 0 (by simp), bdL_of l fun i hi => h (i + 1) (by simpa using hi)⟩
end Cod
open Cod
theorem CodAt.bd {w : World} {v : Value} {t : Tv} (h : CodAt w v t) : bdV t := by
  induction h with
  | mk k n s sl l c hk hn hs hl _ ih =>
    unfold bdV
    refine ⟨hn, by omega, ?_, bdL_of l ih⟩
    rcases hl with ⟨_, h⟩ | ⟨_, _, _, _, _, _, ⟨h, _⟩, _⟩ <;> omega
end Go.Proofs.YtmmppibbglacdaaGreatDoor

namespace Go.Proofs.YtmmppibbglacdaaGreatDoor
open Go.RowKit Cod

structure Ak where
  f : Int
  d : Int
  s : Int
  u : Int
  ch : List UInt8
  r : Int
  g : Int
structure Ak.wf (a : Ak) : Prop where
  f : i64B a.f
  d : i64B a.d
  s : i64B a.s
  u : i64B a.u
  ch : a.ch.length = 32
  r : i64B a.r
  g : i64B a.g
theorem i64B_0 : i64B 0 := ⟨by decide, by decide⟩
def Ak.at (a : Ak) (i : Nat) : Int := match i with | 0 => a.f | 1 => a.d | 2 => a.s | 3 => a.u | 36 => a.r | _ => a.g
/-- the cells of an acknowledgement -/
def akC (a : Ak) (j : Nat) : Value := if 4 ≤ j ∧ j < 36 then vB (a.ch.getD (j - 4) 0) else .int .i64 (a.at j)
def numT (n : Int) : Tv := .mk 1 n ByteArray.empty []
def lstT (l : List Tv) : Tv := .mk 3 0 ByteArray.empty l
theorem leaf_form (n : Int) : formB (numT n) = true := by simp [numT, formB]
theorem formL_nums (zs : List Int) : formL (zs.map numT) = true := by
  induction zs with
  | nil => simp [formL]
  | cons z zs ih => rw [List.map_cons, formL_cons, leaf_form, ih]; rfl
theorem depthL_nums (zs : List Int) : depthL (zs.map numT) = 0 := by
  induction zs with
  | nil => simp [depthL]
  | cons z zs ih => rw [List.map_cons, depthL_cons, ih]; simp [numT, depthN]
theorem encL_nums_len (zs : List Int) (h : ∀ z ∈ zs, i64B z) : (encL (zs.map numT)).length ≤ 11 * zs.length := by
  induction zs with
  | nil => simp [encL]
  | cons z zs ih =>
    have h1 := h z (List.mem_cons_self ..)
    have h2 := numE_10 (zig_lt h1.1 h1.2)
    have h3 := ih fun y hy => h y (List.mem_cons_of_mem _ hy)
    rw [List.map_cons, encL_cons, List.length_append]
    have h4 : (encV (numT z)).length = (numE (zig z)).length + 1 := by simp [numT, encV]
    rw [List.length_cons]; omega
/-- a list of values that fit is encoded -/
theorem chkT_lst {l : List Tv} (hf : formL l = true) (hd : depthL l = 0) : chkT (lstT l) = 0 ∧ depthN (lstT l) ≤ 1000 := by
  have h1 : formB (lstT l) = true := by simp [lstT, formB, hf]
  have h2 : depthN (lstT l) = 1 := by simp [lstT, depthN, hd]
  refine ⟨?_, by rw [h2]; decide⟩
  unfold chkT; rw [if_pos h1, h2]; rfl
theorem encV_lst (l : List Tv) : encV (lstT l) = 3 :: (numE l.length ++ encL l) := by simp [lstT, encV]
/-! what acknowledgements count for -/
structure Mb where
  dev : Int
  sin : Int
  ver : Int
structure Mb.wf (m : Mb) : Prop where
  dev : i64B m.dev
  sin : i64B m.sin
  ver : i64B m.ver
end Go.Proofs.YtmmppibbglacdaaGreatDoor

namespace Go.Proofs.YtmmppibbglacdaaGreatDoor
open Go.RowKit Cod
end Go.Proofs.YtmmppibbglacdaaGreatDoor

namespace Go.Proofs.YtmmppibbglacdaaGreatDoor
open Go.RowKit Cod
def DecPost (l : List UInt8) (w : World) (e : Ending) (w' : World) : Prop :=
  (match decF l with
   | some t => ∃ u, e = .returned (.tuple #[u, .int .i64 0]) ∧ CodS (fun b => w.heap.size ≤ b) w' u t
   | none => e = .returned (.tuple #[.agg #[.int .i64 0, .int .i64 0, .string ByteArray.empty, .slice none 0 0], .int .i64 10])) ∧ Below w.heap.size w w'
theorem DecPost.bad {l : List UInt8} {w w' : World} (h : decF l = none) (b : Below w.heap.size w w') : DecPost l w (.returned (.tuple #[.agg #[.int .i64 0, .int .i64 0, .string ByteArray.empty, .slice none 0 0], .int .i64 10])) w' := by
  unfold DecPost; rw [h]; exact ⟨rfl, b⟩
theorem DecPost.good {l : List UInt8} {w w' : World} {t : Tv} {u : Value} (h : decF l = some t) (hu : CodS (fun b => w.heap.size ≤ b) w' u t) (b : Below w.heap.size w w') : DecPost l w (.returned (.tuple #[u, .int .i64 0])) w' := by
  unfold DecPost; rw [h]; exact ⟨⟨u, rfl, hu⟩, b⟩
end Go.Proofs.YtmmppibbglacdaaGreatDoor

namespace Go.Proofs.YtmmppibbglacdaaGreatDoor
open Go.RowKit Cod

/-! numbers in a list, encoded -/
def encN (zs : List Int) : List UInt8 := encV (lstT (zs.map numT))
theorem encN_len (zs : List Int) (h : ∀ z ∈ zs, i64B z) (hl : zs.length ≤ 100) : (encN zs).length ≤ 2000 := by
  unfold encN
  rw [encV_lst, List.length_cons, List.length_append]
  have h1 := encL_nums_len zs h
  have h5 := numE_10 (u := (zs.map numT).length) (by rw [List.length_map]; omega)
  omega
theorem encN_chk (zs : List Int) : chkT (lstT (zs.map numT)) = 0 ∧ depthN (lstT (zs.map numT)) ≤ 1000 := chkT_lst (formL_nums zs) (depthL_nums zs)

/-! certificates -/
structure Ct where
  k : Int
  d : Int
  v : Int
  l : Int
  n : Int
  b : Int
  r : Int
  g : Int
structure Ct.wf (c : Ct) : Prop where
  k : i64B c.k
  d : i64B c.d
  v : i64B c.v
  l : i64B c.l
  n : i64B c.n
  b : i64B c.b
  r : i64B c.r
  g : i64B c.g
def ct0 : Ct := ⟨0, 0, 0, 0, 0, 0, 0, 0⟩
theorem ct0_wf : ct0.wf := ⟨i64B_0, i64B_0, i64B_0, i64B_0, i64B_0, i64B_0, i64B_0, i64B_0⟩
def Ct.at (c : Ct) (i : Nat) : Int := match i with | 0 => c.k | 1 => c.d | 2 => c.v | 3 => c.l | 4 => c.n | 5 => c.b | 6 => c.r | _ => c.g
/-- the cells of a certificate -/
def ctC (c : Ct) (j : Nat) : Value := .int .i64 (c.at j)
theorem ctC_one (c : Ct) (j : Nat) : (ctC c j).oneCell' = true := rfl
def devB (d : Int) : Bool := decide (0 ≤ d) && decide (d < 512)
def keysB (v l : Int) : Bool := elemB v && elemB l
def otherB (d b : Int) : Bool := devB b && !(b == d) && decide (b.tdiv 8 = d.tdiv 8)
def kindB (c : Ct) : Bool :=
  if c.k = 1 then keysB c.v c.l && decide (c.b = c.d) else if c.k = 2 then keysB c.v c.l && otherB c.d c.b else if c.k = 3 then keysB c.v c.l && decide (c.b = -1)
  else if c.k = 4 then decide (c.v = 0) && decide (c.l = 0) && otherB c.d c.b else false
def formC (c : Ct) : Bool := devB c.d && !decide (c.n < 1) && !decide (1048576 < c.n) && kindB c
def numsC (c : Ct) : List Int := [c.k, c.d, c.v, c.l, c.n, c.b]
theorem numsC_bd {c : Ct} (h : c.wf) : ∀ z ∈ numsC c, i64B z := by
  intro z hz
  simp only [numsC, List.mem_cons, List.not_mem_nil, or_false] at hz
  rcases hz with rfl | rfl | rfl | rfl | rfl | rfl
  · exact h.k
  · exact h.d
  · exact h.v
  · exact h.l
  · exact h.n
  · exact h.b
def tagCert : List UInt8 := [99, 101, 114, 116]
def msgC (c : Ct) : List UInt8 := Sha.tagged tagCert (encN (numsC c))
theorem msgC_len (c : Ct) : (msgC c).length = 32 := tagged_len _ _
/-- what Certify answers -/
def crtE (c : Ct) (x : Int) : Int := if formC c then pubE x else 370
def crtV (c : Ct) (x : Int) : Ct := if crtE c x = 0 then ⟨c.k, c.d, c.v, c.l, c.n, c.b, sgR x (msgC c), sgS x (msgC c)⟩ else ct0
def ctN (k d v l n b : Int) : Ct := ⟨k, d, v, l, n, b, 0, 0⟩
end Go.Proofs.YtmmppibbglacdaaGreatDoor

namespace Go.Proofs.YtmmppibbglacdaaGreatDoor
open Go.RowKit Cod
theorem bits_i64 {z : Int} (h0 : 0 ≤ z) (h1 : z < 512) : IntKind.i64.wrap (z.tdiv 8) = z.tdiv 8 := IntWalk.i64_in _ (by rw [Int.tdiv_eq_ediv_of_nonneg h0]; omega)
theorem devB_iff (d : Int) : devB d = true ↔ 0 ≤ d ∧ d < 512 := by unfold devB; simp only [Bool.and_eq_true, decide_eq_true_eq]
def ownE (d : Int) : Int := if devB d then 0 else 371
def ownV (d : Int) : Int := if devB d then d.tdiv 8 else 0
theorem ct_cell {w : World} {B : Nat} {T : TypeId} {c : Ct} (h : RowV w B T 8 (ctC c)) {i : Nat} (hi : i < 8) : w.cell? ⟨B, i, none⟩ = some (.int .i64 (c.at i)) := h.cell hi
set_option maxRecDepth 100000 in
set_option maxHeartbeats 2000000 in
theorem pdev_any (d : Int) (w : World) :
    Calls Tryz.prog 21 #[.int .i64 d] w fun e w' => e = .returned (.bool (devB d)) ∧ w = w' := by
  have HU : Hid (devB d = (decide (0 ≤ d) && decide (d < 512))) := Lib.hid rfl
  rw [HU.out]
  clear HU
  go_enter Tryz.func21, Tryz.ntmps21
  cases h0 : decide (0 ≤ d)
  · go_wp2_with fail
    go_ret
    exact ⟨rfl, rfl⟩
  cases h1 : decide (d < 512)
  · go_wp2_with fail
    go_ret
    exact ⟨rfl, rfl⟩
  · go_wp2_with fail
    go_ret
    exact ⟨rfl, rfl⟩
set_option maxRecDepth 100000 in
set_option maxHeartbeats 2000000 in
theorem powner_any (d : Int) (w : World) :
    Calls Tryz.prog 8 #[.int .i64 d] w fun e w' => e = .returned (.tuple #[.int .i64 (ownV d), .int .i64 (ownE d)]) ∧ w = w' := by
  have D := pdev_any d
  have q : devB d = true → IntKind.i64.wrap (d.tdiv 8) = d.tdiv 8 := fun h => by
    have := (devB_iff d).1 h
    exact bits_i64 this.1 this.2
  unfold ownV ownE
  obtain ⟨b, hb⟩ : ∃ y, devB d = y := ⟨_, rfl⟩
  rw [hb] at D q ⊢
  have DH := Lib.hid D
  clear D hb
  cases b
  · clear q
    go_enter Tryz.func8, Tryz.ntmps8
    have B0 := Lib.hid (Below.refl w.heap.size w)
    go_wp2_with fail
    refine (DH.out _).mono ?_
    rintro e wp ⟨rfl, rfl⟩
    go_wp2_with fail
    go_ret2
    exact ⟨rfl, rfl⟩
  · have q1 := q rfl
    clear q
    go_enter Tryz.func8, Tryz.ntmps8
    have B0 := Lib.hid (Below.refl w.heap.size w)
    go_wp2_with fail
    refine (DH.out _).mono ?_
    rintro e wp ⟨rfl, rfl⟩
    go_wp2_with fail
    go_ret2
    exact ⟨rfl, rfl⟩
set_option maxRecDepth 100000 in
set_option maxHeartbeats 8000000 in
theorem pformed_any (c : Ct) (w : World) :
    Calls Tryz.prog 27 #[.agg (rowF 8 (ctC c))] w fun e w' => e = .returned (.bool (formC c)) ∧ Below w.heap.size w w' := by
  have D1 := pdev_any c.d
  have D2 := pdev_any c.b
  have K1 := fun W => check_any c.v W
  have K2 := fun W => check_any c.l W
  obtain ⟨F, hF⟩ : ∃ y, formC c = y := ⟨_, rfl⟩
  have FH : Hid (F = (devB c.d && !decide (c.n < 1) && !decide (1048576 < c.n) && kindB c)) := Lib.hid hF.symm
  have q1 : Hid (devB c.d = true → IntKind.i64.wrap (c.d.tdiv 8) = c.d.tdiv 8) := Lib.hid (fun h => by
    have := (devB_iff _).1 h
    exact bits_i64 this.1 this.2)
  have q2 : Hid (devB c.b = true → IntKind.i64.wrap (c.b.tdiv 8) = c.b.tdiv 8) := Lib.hid (fun h => by
    have := (devB_iff _).1 h
    exact bits_i64 this.1 this.2)
  have KB : Hid (kindB c = if c.k = 1 then (elemB c.v && elemB c.l) && decide (c.b = c.d) else if c.k = 2 then (elemB c.v && elemB c.l) && (devB c.b && !(c.b == c.d) && decide (c.b.tdiv 8 = c.d.tdiv 8)) else if c.k = 3 then (elemB c.v && elemB c.l) && decide (c.b = -1) else if c.k = 4 then decide (c.v = 0) && decide (c.l = 0) && (devB c.b && !(c.b == c.d) && decide (c.b.tdiv 8 = c.d.tdiv 8)) else false) := Lib.hid rfl
  rw [hF]
  clear hF
  obtain ⟨kd, hkd⟩ : ∃ y, c.k = y := ⟨_, rfl⟩
  obtain ⟨d, hd⟩ : ∃ y, c.d = y := ⟨_, rfl⟩
  obtain ⟨v, hv⟩ : ∃ y, c.v = y := ⟨_, rfl⟩
  obtain ⟨l, hl⟩ : ∃ y, c.l = y := ⟨_, rfl⟩
  obtain ⟨n, hn⟩ : ∃ y, c.n = y := ⟨_, rfl⟩
  obtain ⟨b, hb⟩ : ∃ y, c.b = y := ⟨_, rfl⟩
  have CX : Hid (c.at 0 = kd ∧ c.at 1 = d ∧ c.at 2 = v ∧ c.at 3 = l ∧ c.at 4 = n ∧ c.at 5 = b) := Lib.hid ⟨hkd, hd, hv, hl, hn, hb⟩
  rw [hd] at D1 q1 FH KB
  rw [hb] at D2 q2 KB
  rw [hv] at K1 KB
  rw [hl] at K2 KB
  rw [hn] at FH
  rw [hkd] at KB
  clear hkd hd hv hl hn hb
  unfold chk at K1 K2
  obtain ⟨db, hdb⟩ : ∃ y, devB d = y := ⟨_, rfl⟩
  obtain ⟨bb, hbb⟩ : ∃ y, devB b = y := ⟨_, rfl⟩
  obtain ⟨ev, hev⟩ : ∃ y, elemB v = y := ⟨_, rfl⟩
  obtain ⟨el, hel⟩ : ∃ y, elemB l = y := ⟨_, rfl⟩
  obtain ⟨kk, hkk⟩ : ∃ y, kindB c = y := ⟨_, rfl⟩
  rw [hdb] at D1 q1 FH
  rw [hbb] at D2 q2 KB
  rw [hev] at K1 KB
  rw [hel] at K2 KB
  rw [hkk] at FH KB
  have HD1 := Lib.hid D1; have HD2 := Lib.hid D2; have HK1 := Lib.hid K1; have HK2 := Lib.hid K2
  clear D1 D2 K1 K2 hdb hbb hev hel hkk
  go_enter Tryz.func27, Tryz.ntmps27
  have B0 := Lib.hid (Below.refl w.heap.size w)
  go_upto_region 1 with fail
  obtain ⟨w1, hw1⟩ : ∃ y, w.alloc (.cells (rowF 8 (ctC c)) 33) = y := ⟨_, rfl⟩
  have b1 : Below w.heap.size w w1 := by rw [← hw1]; exact (Below.refl _ _).alloc (Nat.le_refl _) _
  have C1 : Hid (RowV w1 w.heap.size 33 8 (ctC c)) := Lib.hid (by rw [← hw1]; exact RowV.new w _ 8 (ctC c))
  have z1 : w.heap.size + 1 = w1.heap.size := by rw [← hw1]; exact (Array.size_push _).symm
  rw [hw1]
  (try rw [z1])
  have B1 := Lib.hid (B0.out.trans (b1.mono B0.out.size))
  clear b1 hw1 z1 B0
  obtain ⟨e0, e1, e2, e3, e4, e5⟩ := CX.out
  have y0 : Hid (∀ W, Below w1.heap.size w1 W → W.cell? ⟨w.heap.size, 0, none⟩ = some (.int .i64 kd)) := Lib.hid (fun W hW => e0 ▸ ct_cell (C1.out.below hW) (i := 0) (by decide))
  have y1 : Hid (∀ W, Below w1.heap.size w1 W → W.cell? ⟨w.heap.size, 1, none⟩ = some (.int .i64 d)) := Lib.hid (fun W hW => e1 ▸ ct_cell (C1.out.below hW) (i := 1) (by decide))
  have y2 : Hid (∀ W, Below w1.heap.size w1 W → W.cell? ⟨w.heap.size, 2, none⟩ = some (.int .i64 v)) := Lib.hid (fun W hW => e2 ▸ ct_cell (C1.out.below hW) (i := 2) (by decide))
  have y3 : Hid (∀ W, Below w1.heap.size w1 W → W.cell? ⟨w.heap.size, 3, none⟩ = some (.int .i64 l)) := Lib.hid (fun W hW => e3 ▸ ct_cell (C1.out.below hW) (i := 3) (by decide))
  have y4 : Hid (∀ W, Below w1.heap.size w1 W → W.cell? ⟨w.heap.size, 4, none⟩ = some (.int .i64 n)) := Lib.hid (fun W hW => e4 ▸ ct_cell (C1.out.below hW) (i := 4) (by decide))
  have y5 : Hid (∀ W, Below w1.heap.size w1 W → W.cell? ⟨w.heap.size, 5, none⟩ = some (.int .i64 b)) := Lib.hid (fun W hW => e5 ▸ ct_cell (C1.out.below hW) (i := 5) (by decide))
  clear e0 e1 e2 e3 e4 e5 CX
  have R1 : Hid (Below w1.heap.size w1 w1) := Lib.hid (Below.refl _ w1)
  have x1 := y1.out _ R1.out
  go_wp2_with fail
  refine (HD1.out _).mono ?_
  rintro e w2 ⟨rfl, rfl⟩
  clear HD1
  cases db
  · obtain rfl : F = false := FH.out
    clear FH
    go_wp2_with fail
    go_ret
    exact ⟨rfl, B1.out⟩
  have qd := q1.out rfl
  have x4 := y4.out _ R1.out
  cases n0 : decide (n < 1)
  rotate_left
  · obtain rfl : F = false := by rw [FH.out, n0]; rfl
    clear FH
    go_wp2_with fail
    go_ret
    exact ⟨rfl, B1.out⟩
  cases n1 : decide (1048576 < n)
  rotate_left
  · obtain rfl : F = false := by rw [FH.out, n0, n1]; rfl
    clear FH
    go_wp2_with fail
    go_ret
    exact ⟨rfl, B1.out⟩
  obtain rfl : F = kk := by rw [FH.out, n0, n1]; cases kk <;> rfl
  clear FH
  go_upto_region 3 with fail
  clear n0 n1 x4 y4
  go_cut [3] (fun s3 wx => s3 = .bool (ev && el) ∧ Below w1.heap.size w1 wx)
  case first =>
    have x2 := y2.out _ R1.out
    go_wp2_with fail
    refine (HK1.out _).mono ?_
    rintro e w3 ⟨rfl, b3⟩
    have x3 := y3.out _ b3
    cases ev
    · go_wp2_with fail
      go_meet
      exact ⟨rfl, b3⟩
    · go_wp2_with fail
      refine (HK2.out _).mono ?_
      rintro e w4 ⟨rfl, b4⟩
      have B4 := b3.trans (b4.mono b3.size)
      cases el
      · go_wp2_with fail
        go_meet
        exact ⟨rfl, B4⟩
      · go_wp2_with fail
        go_meet
        exact ⟨rfl, B4⟩
  case rest =>
    rename World => w5
    obtain ⟨rfl, hB5⟩ := hcut
    obtain ⟨keys, hkeys⟩ : ∃ y, (ev && el) = y := ⟨_, rfl⟩
    rw [hkeys] at KB ⊢
    have B5 := Lib.hid hB5
    clear HK1 HK2 hkeys hB5 x1
    go_upto_region 4 with fail
    go_cut [4] (fun s4 wx => s4 = .bool (bb && !(b == d) && decide (b.tdiv 8 = d.tdiv 8)) ∧ w5 = wx)
    case first =>
      have x5 := y5.out _ B5.out
      have x1 := y1.out _ B5.out
      go_wp2_with fail
      refine (HD2.out _).mono ?_
      rintro e w6 ⟨rfl, rfl⟩
      cases bb
      · go_wp2_with fail
        go_meet
        exact ⟨rfl, rfl⟩
      · have qb := q2.out rfl
        cases z0 : (b == d)
        · have z3 : (b != d) = true := by show (!(b == d)) = true; rw [z0]; rfl
          cases z1 : decide (b.tdiv 8 = d.tdiv 8)
          · have z2 : (b.tdiv 8 == d.tdiv 8) = false := by rw [beq_eq_false_iff_ne]; exact of_decide_eq_false z1
            go_wp2_with fail
            go_meet
            exact ⟨by rw [z0, z1]; rfl, rfl⟩
          · have z2 : (b.tdiv 8 == d.tdiv 8) = true := by rw [beq_iff_eq]; exact of_decide_eq_true z1
            go_wp2_with fail
            go_meet
            exact ⟨by rw [z0, z1]; rfl, rfl⟩
        · have z3 : (b != d) = false := by show (!(b == d)) = false; rw [z0]; rfl
          go_wp2_with fail
          go_meet
          exact ⟨by rw [z0]; rfl, rfl⟩
    case rest =>
      obtain ⟨rfl, rfl⟩ := hcut
      obtain ⟨oth, hoth⟩ : ∃ y, (bb && !(b == d) && decide (b.tdiv 8 = d.tdiv 8)) = y := ⟨_, rfl⟩
      rw [hoth] at KB ⊢
      have BF := Lib.hid (B1.out.trans (B5.out.mono B1.out.size))
      have x0 := y0.out _ B5.out
      clear HD2 q1 q2 qd hoth
      by_cases k1 : kd = 1
      · subst k1
        have KB2 : Hid (F = (keys && decide (b = d))) := KB
        clear KB
        have x5 := y5.out _ B5.out
        have x1 := y1.out _ B5.out
        cases keys
        · obtain rfl : F = false := KB2.out
          go_wp2_with fail
          go_ret
          exact ⟨rfl, BF.out⟩
        · cases z0 : (b == d)
          · obtain rfl : F = false := by rw [KB2.out]; show decide (b = d) = false; rw [decide_eq_false_iff_not]; exact beq_eq_false_iff_ne.1 z0
            go_wp2_with fail
            go_ret
            exact ⟨rfl, BF.out⟩
          · obtain rfl : F = true := by rw [KB2.out]; show decide (b = d) = true; rw [decide_eq_true_iff]; exact beq_iff_eq.1 z0
            go_wp2_with fail
            go_ret
            exact ⟨rfl, BF.out⟩
      have k1b : (kd == 1) = false := by rw [beq_eq_false_iff_ne]; exact k1
      by_cases k2 : kd = 2
      · subst k2
        have KB2 : Hid (F = (keys && oth)) := KB
        clear KB k1 k1b
        cases keys
        · obtain rfl : F = false := KB2.out
          go_wp2_with fail
          go_ret
          exact ⟨rfl, BF.out⟩
        · obtain rfl : F = oth := KB2.out
          go_wp2_with fail
          go_ret
          exact ⟨rfl, BF.out⟩
      have k2b : (kd == 2) = false := by rw [beq_eq_false_iff_ne]; exact k2
      by_cases k3 : kd = 3
      · subst k3
        have KB2 : Hid (F = (keys && decide (b = -1))) := KB
        clear KB k1 k1b k2 k2b
        have x5 := y5.out _ B5.out
        cases keys
        · obtain rfl : F = false := KB2.out
          go_wp2_with fail
          go_ret
          exact ⟨rfl, BF.out⟩
        · cases z0 : (b == -1)
          · obtain rfl : F = false := by rw [KB2.out]; show decide (b = -1) = false; rw [decide_eq_false_iff_not]; exact beq_eq_false_iff_ne.1 z0
            go_wp2_with fail
            go_ret
            exact ⟨rfl, BF.out⟩
          · obtain rfl : F = true := by rw [KB2.out]; show decide (b = -1) = true; rw [decide_eq_true_iff]; exact beq_iff_eq.1 z0
            go_wp2_with fail
            go_ret
            exact ⟨rfl, BF.out⟩
      have k3b : (kd == 3) = false := by rw [beq_eq_false_iff_ne]; exact k3
      by_cases k4 : kd = 4
      · subst k4
        have KB2 : Hid (F = (decide (v = 0) && decide (l = 0) && oth)) := KB
        clear KB k1 k1b k2 k2b k3 k3b
        have x2 := y2.out _ B5.out
        have x3 := y3.out _ B5.out
        cases z0 : (v == 0)
        · obtain rfl : F = false := by rw [KB2.out, show decide (v = 0) = false from by rw [decide_eq_false_iff_not]; exact beq_eq_false_iff_ne.1 z0]; rfl
          go_wp2_with fail
          go_ret
          exact ⟨rfl, BF.out⟩
        · cases z1 : (l == 0)
          · obtain rfl : F = false := by rw [KB2.out, show decide (l = 0) = false from by rw [decide_eq_false_iff_not]; exact beq_eq_false_iff_ne.1 z1, Bool.and_false]; rfl
            go_wp2_with fail
            go_ret
            exact ⟨rfl, BF.out⟩
          · obtain rfl : F = oth := by rw [KB2.out, show decide (l = 0) = true from by rw [decide_eq_true_iff]; exact beq_iff_eq.1 z1, show decide (v = 0) = true from by rw [decide_eq_true_iff]; exact beq_iff_eq.1 z0]; rfl
            go_wp2_with fail
            go_ret
            exact ⟨rfl, BF.out⟩
      have k4b : (kd == 4) = false := by rw [beq_eq_false_iff_ne]; exact k4
      obtain rfl : F = false := by rw [KB.out, if_neg k1, if_neg k2, if_neg k3, if_neg k4]
      clear KB k1 k2 k3 k4
      go_wp2_with fail
      go_ret
      exact ⟨rfl, BF.out⟩
set_option maxRecDepth 100000 in
set_option maxHeartbeats 2000000 in
theorem qdev_any (d : Int) (w : World) :
    Calls Tryz.prog 22 #[.int .i64 d] w fun e w' => e = .returned (.bool (devB d)) ∧ w = w' := by
  have HU : Hid (devB d = (decide (0 ≤ d) && decide (d < 512))) := Lib.hid rfl
  rw [HU.out]
  clear HU
  go_enter Tryz.func22, Tryz.ntmps22
  cases h0 : decide (0 ≤ d)
  · go_wp2_with fail
    go_ret
    exact ⟨rfl, rfl⟩
  cases h1 : decide (d < 512)
  · go_wp2_with fail
    go_ret
    exact ⟨rfl, rfl⟩
  · go_wp2_with fail
    go_ret
    exact ⟨rfl, rfl⟩
set_option maxRecDepth 100000 in
set_option maxHeartbeats 8000000 in
theorem qformed_any (c : Ct) (w : World) :
    Calls Tryz.prog 30 #[.agg (rowF 8 (ctC c))] w fun e w' => e = .returned (.bool (formC c)) ∧ Below w.heap.size w w' := by
  have D1 := qdev_any c.d
  have D2 := qdev_any c.b
  have K1 := fun W => of_same (rcheck_any c.v W)
  have K2 := fun W => of_same (rcheck_any c.l W)
  obtain ⟨F, hF⟩ : ∃ y, formC c = y := ⟨_, rfl⟩
  have FH : Hid (F = (devB c.d && !decide (c.n < 1) && !decide (1048576 < c.n) && kindB c)) := Lib.hid hF.symm
  have q1 : Hid (devB c.d = true → IntKind.i64.wrap (c.d.tdiv 8) = c.d.tdiv 8) := Lib.hid (fun h => by
    have := (devB_iff _).1 h
    exact bits_i64 this.1 this.2)
  have q2 : Hid (devB c.b = true → IntKind.i64.wrap (c.b.tdiv 8) = c.b.tdiv 8) := Lib.hid (fun h => by
    have := (devB_iff _).1 h
    exact bits_i64 this.1 this.2)
  have KB : Hid (kindB c = if c.k = 1 then (elemB c.v && elemB c.l) && decide (c.b = c.d) else if c.k = 2 then (elemB c.v && elemB c.l) && (devB c.b && !(c.b == c.d) && decide (c.b.tdiv 8 = c.d.tdiv 8)) else if c.k = 3 then (elemB c.v && elemB c.l) && decide (c.b = -1) else if c.k = 4 then decide (c.v = 0) && decide (c.l = 0) && (devB c.b && !(c.b == c.d) && decide (c.b.tdiv 8 = c.d.tdiv 8)) else false) := Lib.hid rfl
  rw [hF]
  clear hF
  obtain ⟨kd, hkd⟩ : ∃ y, c.k = y := ⟨_, rfl⟩
  obtain ⟨d, hd⟩ : ∃ y, c.d = y := ⟨_, rfl⟩
  obtain ⟨v, hv⟩ : ∃ y, c.v = y := ⟨_, rfl⟩
  obtain ⟨l, hl⟩ : ∃ y, c.l = y := ⟨_, rfl⟩
  obtain ⟨n, hn⟩ : ∃ y, c.n = y := ⟨_, rfl⟩
  obtain ⟨b, hb⟩ : ∃ y, c.b = y := ⟨_, rfl⟩
  have CX : Hid (c.at 0 = kd ∧ c.at 1 = d ∧ c.at 2 = v ∧ c.at 3 = l ∧ c.at 4 = n ∧ c.at 5 = b) := Lib.hid ⟨hkd, hd, hv, hl, hn, hb⟩
  rw [hd] at D1 q1 FH KB
  rw [hb] at D2 q2 KB
  rw [hv] at K1 KB
  rw [hl] at K2 KB
  rw [hn] at FH
  rw [hkd] at KB
  clear hkd hd hv hl hn hb
  unfold chk at K1 K2
  obtain ⟨db, hdb⟩ : ∃ y, devB d = y := ⟨_, rfl⟩
  obtain ⟨bb, hbb⟩ : ∃ y, devB b = y := ⟨_, rfl⟩
  obtain ⟨ev, hev⟩ : ∃ y, elemB v = y := ⟨_, rfl⟩
  obtain ⟨el, hel⟩ : ∃ y, elemB l = y := ⟨_, rfl⟩
  obtain ⟨kk, hkk⟩ : ∃ y, kindB c = y := ⟨_, rfl⟩
  rw [hdb] at D1 q1 FH
  rw [hbb] at D2 q2 KB
  rw [hev] at K1 KB
  rw [hel] at K2 KB
  rw [hkk] at FH KB
  have HD1 := Lib.hid D1; have HD2 := Lib.hid D2; have HK1 := Lib.hid K1; have HK2 := Lib.hid K2
  clear D1 D2 K1 K2 hdb hbb hev hel hkk
  go_enter Tryz.func30, Tryz.ntmps30
  have B0 := Lib.hid (Below.refl w.heap.size w)
  go_upto_region 1 with fail
  obtain ⟨w1, hw1⟩ : ∃ y, w.alloc (.cells (rowF 8 (ctC c)) 33) = y := ⟨_, rfl⟩
  have b1 : Below w.heap.size w w1 := by rw [← hw1]; exact (Below.refl _ _).alloc (Nat.le_refl _) _
  have C1 : Hid (RowV w1 w.heap.size 33 8 (ctC c)) := Lib.hid (by rw [← hw1]; exact RowV.new w _ 8 (ctC c))
  have z1 : w.heap.size + 1 = w1.heap.size := by rw [← hw1]; exact (Array.size_push _).symm
  rw [hw1]
  (try rw [z1])
  have B1 := Lib.hid (B0.out.trans (b1.mono B0.out.size))
  clear b1 hw1 z1 B0
  obtain ⟨e0, e1, e2, e3, e4, e5⟩ := CX.out
  have y0 : Hid (∀ W, Below w1.heap.size w1 W → W.cell? ⟨w.heap.size, 0, none⟩ = some (.int .i64 kd)) := Lib.hid (fun W hW => e0 ▸ ct_cell (C1.out.below hW) (i := 0) (by decide))
  have y1 : Hid (∀ W, Below w1.heap.size w1 W → W.cell? ⟨w.heap.size, 1, none⟩ = some (.int .i64 d)) := Lib.hid (fun W hW => e1 ▸ ct_cell (C1.out.below hW) (i := 1) (by decide))
  have y2 : Hid (∀ W, Below w1.heap.size w1 W → W.cell? ⟨w.heap.size, 2, none⟩ = some (.int .i64 v)) := Lib.hid (fun W hW => e2 ▸ ct_cell (C1.out.below hW) (i := 2) (by decide))
  have y3 : Hid (∀ W, Below w1.heap.size w1 W → W.cell? ⟨w.heap.size, 3, none⟩ = some (.int .i64 l)) := Lib.hid (fun W hW => e3 ▸ ct_cell (C1.out.below hW) (i := 3) (by decide))
  have y4 : Hid (∀ W, Below w1.heap.size w1 W → W.cell? ⟨w.heap.size, 4, none⟩ = some (.int .i64 n)) := Lib.hid (fun W hW => e4 ▸ ct_cell (C1.out.below hW) (i := 4) (by decide))
  have y5 : Hid (∀ W, Below w1.heap.size w1 W → W.cell? ⟨w.heap.size, 5, none⟩ = some (.int .i64 b)) := Lib.hid (fun W hW => e5 ▸ ct_cell (C1.out.below hW) (i := 5) (by decide))
  clear e0 e1 e2 e3 e4 e5 CX
  have R1 : Hid (Below w1.heap.size w1 w1) := Lib.hid (Below.refl _ w1)
  have x1 := y1.out _ R1.out
  go_wp2_with fail
  refine (HD1.out _).mono ?_
  rintro e w2 ⟨rfl, rfl⟩
  clear HD1
  cases db
  · obtain rfl : F = false := FH.out
    clear FH
    go_wp2_with fail
    go_ret
    exact ⟨rfl, B1.out⟩
  have qd := q1.out rfl
  have x4 := y4.out _ R1.out
  cases n0 : decide (n < 1)
  rotate_left
  · obtain rfl : F = false := by rw [FH.out, n0]; rfl
    clear FH
    go_wp2_with fail
    go_ret
    exact ⟨rfl, B1.out⟩
  cases n1 : decide (1048576 < n)
  rotate_left
  · obtain rfl : F = false := by rw [FH.out, n0, n1]; rfl
    clear FH
    go_wp2_with fail
    go_ret
    exact ⟨rfl, B1.out⟩
  obtain rfl : F = kk := by rw [FH.out, n0, n1]; cases kk <;> rfl
  clear FH
  go_upto_region 3 with fail
  clear n0 n1 x4 y4
  go_cut [3] (fun s3 wx => s3 = .bool (ev && el) ∧ Below w1.heap.size w1 wx)
  case first =>
    have x2 := y2.out _ R1.out
    go_wp2_with fail
    refine (HK1.out _).mono ?_
    rintro e w3 ⟨rfl, b3⟩
    have x3 := y3.out _ b3
    cases ev
    · go_wp2_with fail
      go_meet
      exact ⟨rfl, b3⟩
    · go_wp2_with fail
      refine (HK2.out _).mono ?_
      rintro e w4 ⟨rfl, b4⟩
      have B4 := b3.trans (b4.mono b3.size)
      cases el
      · go_wp2_with fail
        go_meet
        exact ⟨rfl, B4⟩
      · go_wp2_with fail
        go_meet
        exact ⟨rfl, B4⟩
  case rest =>
    rename World => w5
    obtain ⟨rfl, hB5⟩ := hcut
    obtain ⟨keys, hkeys⟩ : ∃ y, (ev && el) = y := ⟨_, rfl⟩
    rw [hkeys] at KB ⊢
    have B5 := Lib.hid hB5
    clear HK1 HK2 hkeys hB5 x1
    go_upto_region 4 with fail
    go_cut [4] (fun s4 wx => s4 = .bool (bb && !(b == d) && decide (b.tdiv 8 = d.tdiv 8)) ∧ w5 = wx)
    case first =>
      have x5 := y5.out _ B5.out
      have x1 := y1.out _ B5.out
      go_wp2_with fail
      refine (HD2.out _).mono ?_
      rintro e w6 ⟨rfl, rfl⟩
      cases bb
      · go_wp2_with fail
        go_meet
        exact ⟨rfl, rfl⟩
      · have qb := q2.out rfl
        cases z0 : (b == d)
        · have z3 : (b != d) = true := by show (!(b == d)) = true; rw [z0]; rfl
          cases z1 : decide (b.tdiv 8 = d.tdiv 8)
          · have z2 : (b.tdiv 8 == d.tdiv 8) = false := by rw [beq_eq_false_iff_ne]; exact of_decide_eq_false z1
            go_wp2_with fail
            go_meet
            exact ⟨by rw [z0, z1]; rfl, rfl⟩
          · have z2 : (b.tdiv 8 == d.tdiv 8) = true := by rw [beq_iff_eq]; exact of_decide_eq_true z1
            go_wp2_with fail
            go_meet
            exact ⟨by rw [z0, z1]; rfl, rfl⟩
        · have z3 : (b != d) = false := by show (!(b == d)) = false; rw [z0]; rfl
          go_wp2_with fail
          go_meet
          exact ⟨by rw [z0]; rfl, rfl⟩
    case rest =>
      obtain ⟨rfl, rfl⟩ := hcut
      obtain ⟨oth, hoth⟩ : ∃ y, (bb && !(b == d) && decide (b.tdiv 8 = d.tdiv 8)) = y := ⟨_, rfl⟩
      rw [hoth] at KB ⊢
      have BF := Lib.hid (B1.out.trans (B5.out.mono B1.out.size))
      have x0 := y0.out _ B5.out
      clear HD2 q1 q2 qd hoth
      by_cases k1 : kd = 1
      · subst k1
        have KB2 : Hid (F = (keys && decide (b = d))) := KB
        clear KB
        have x5 := y5.out _ B5.out
        have x1 := y1.out _ B5.out
        cases keys
        · obtain rfl : F = false := KB2.out
          go_wp2_with fail
          go_ret
          exact ⟨rfl, BF.out⟩
        · cases z0 : (b == d)
          · obtain rfl : F = false := by rw [KB2.out]; show decide (b = d) = false; rw [decide_eq_false_iff_not]; exact beq_eq_false_iff_ne.1 z0
            go_wp2_with fail
            go_ret
            exact ⟨rfl, BF.out⟩
          · obtain rfl : F = true := by rw [KB2.out]; show decide (b = d) = true; rw [decide_eq_true_iff]; exact beq_iff_eq.1 z0
            go_wp2_with fail
            go_ret
            exact ⟨rfl, BF.out⟩
      have k1b : (kd == 1) = false := by rw [beq_eq_false_iff_ne]; exact k1
      by_cases k2 : kd = 2
      · subst k2
        have KB2 : Hid (F = (keys && oth)) := KB
        clear KB k1 k1b
        cases keys
        · obtain rfl : F = false := KB2.out
          go_wp2_with fail
          go_ret
          exact ⟨rfl, BF.out⟩
        · obtain rfl : F = oth := KB2.out
          go_wp2_with fail
          go_ret
          exact ⟨rfl, BF.out⟩
      have k2b : (kd == 2) = false := by rw [beq_eq_false_iff_ne]; exact k2
      by_cases k3 : kd = 3
      · subst k3
        have KB2 : Hid (F = (keys && decide (b = -1))) := KB
        clear KB k1 k1b k2 k2b
        have x5 := y5.out _ B5.out
        cases keys
        · obtain rfl : F = false := KB2.out
          go_wp2_with fail
          go_ret
          exact ⟨rfl, BF.out⟩
        · cases z0 : (b == -1)
          · obtain rfl : F = false := by rw [KB2.out]; show decide (b = -1) = false; rw [decide_eq_false_iff_not]; exact beq_eq_false_iff_ne.1 z0
            go_wp2_with fail
            go_ret
            exact ⟨rfl, BF.out⟩
          · obtain rfl : F = true := by rw [KB2.out]; show decide (b = -1) = true; rw [decide_eq_true_iff]; exact beq_iff_eq.1 z0
            go_wp2_with fail
            go_ret
            exact ⟨rfl, BF.out⟩
      have k3b : (kd == 3) = false := by rw [beq_eq_false_iff_ne]; exact k3
      by_cases k4 : kd = 4
      · subst k4
        have KB2 : Hid (F = (decide (v = 0) && decide (l = 0) && oth)) := KB
        clear KB k1 k1b k2 k2b k3 k3b
        have x2 := y2.out _ B5.out
        have x3 := y3.out _ B5.out
        cases z0 : (v == 0)
        · obtain rfl : F = false := by rw [KB2.out, show decide (v = 0) = false from by rw [decide_eq_false_iff_not]; exact beq_eq_false_iff_ne.1 z0]; rfl
          go_wp2_with fail
          go_ret
          exact ⟨rfl, BF.out⟩
        · cases z1 : (l == 0)
          · obtain rfl : F = false := by rw [KB2.out, show decide (l = 0) = false from by rw [decide_eq_false_iff_not]; exact beq_eq_false_iff_ne.1 z1, Bool.and_false]; rfl
            go_wp2_with fail
            go_ret
            exact ⟨rfl, BF.out⟩
          · obtain rfl : F = oth := by rw [KB2.out, show decide (l = 0) = true from by rw [decide_eq_true_iff]; exact beq_iff_eq.1 z1, show decide (v = 0) = true from by rw [decide_eq_true_iff]; exact beq_iff_eq.1 z0]; rfl
            go_wp2_with fail
            go_ret
            exact ⟨rfl, BF.out⟩
      have k4b : (kd == 4) = false := by rw [beq_eq_false_iff_ne]; exact k4
      obtain rfl : F = false := by rw [KB.out, if_neg k1, if_neg k2, if_neg k3, if_neg k4]
      clear KB k1 k2 k3 k4
      go_wp2_with fail
      go_ret
      exact ⟨rfl, BF.out⟩
end Go.Proofs.YtmmppibbglacdaaGreatDoor
