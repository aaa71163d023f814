/- Package codec: the reader's values. Values of the codec: what is encoded is read again. Acknowledgements, in plain Lean: their form, their message, what they count for. Package codec: Decode. Package codec: Decode. Certificates, in plain Lean. -/
import Derived.Test.YtmmppibbglacdaaDoorPk22
import Derived.Laws.BytesString
import Derived.Laws.IdiomStrings
import Derived.Lib.BufferRead
import Derived.Test.YtmmppibbglacdaaDoorPk29
import Derived.Defers
import Derived.Recover
set_option linter.unusedVariables false
set_option linter.unusedSimpArgs false
namespace Go.Proofs.YtmmppibbglacdaaDoor
open Go.RowKit Cod
/-- no cell of the block is a byte -/
def NoByte (w : World) (B : Nat) : Prop := ∀ o x, w.cell? ⟨B, o, none⟩ ≠ some (vB x)
theorem NoByte.of_row {w : World} {B n : Nat} {T : TypeId} {g : Nat → Value} (h : RowV w B T n g) (hg : ∀ i, i < n → ∀ x, g i ≠ vB x) : NoByte w B := by
  intro o x e
  by_cases ho : o < n
  · rw [h.cell ho] at e; exact hg o ho x (Option.some.inj e)
  · have : w.cell? ⟨B, o, none⟩ = none := by
      simp [World.cell?, show w.heap[B]? = _ from h, rowF]; omega
    rw [this] at e; cases e
theorem NoByte.bytes {w w' : World} {B : Nat} (h : NoByte w B) {u : Value} {m : List UInt8} (hu : BytesAt w u m) (ho : OnlyB B w w') : BytesAt w' u m := by
  rcases hu with hu | ⟨b, off, cap, e1, e2, e3, e4, e5, e6⟩
  · exact .inl hu
  · have hne : b ≠ B := fun e => by subst e; exact h _ _ (e6 0 e3)
    exact .inr ⟨b, off, cap, e1, e2, e3, e4, Nat.lt_of_lt_of_le e5 ho.size, fun j hj => (ho.cell (p := ⟨b, off + j, none⟩) e5 hne).trans (e6 j hj)⟩
theorem valC_no {k n : Int} {s : ByteArray} {a : Option Addr} {m c : Nat} : ∀ i, i < 4 → ∀ x, valC k n s (.slice a m c) i ≠ vB x := by
  intro i hi x
  match i, hi with
  | 0, _ => intro e; cases e
  | 1, _ => intro e; cases e
  | 2, _ => intro e; cases e
  | 3, _ => intro e; cases e
theorem run_text {w : World} {v : Value} {l : List UInt8} (h : BytesAt w v l) : (convert 42 9 v).run Tryd.prog w = .ok (.string ⟨l.toArray⟩) w := by
  rcases h with ⟨⟨a, c, rfl, hc⟩, rfl⟩ | ⟨b, off, cap, rfl, e2, e3, e4, e5, e6⟩
  · cases a with
    | none => exact Lib.run_convert_nil_bytes w 42 9 5 c Tryd.underlying42 Tryd.underlying5 Tryd.underlying9
    | some a => exact run_convert_bytes_back w 42 9 5 a c [] Tryd.underlying42 Tryd.underlying5 Tryd.underlying9 (fun j hj => absurd hj (by simp))
  · refine run_convert_bytes_back w 42 9 5 ⟨b, off, none⟩ cap l Tryd.underlying42 Tryd.underlying5 Tryd.underlying9 (fun j hj => ?_)
    rw [Addr.add_mid, e6 j hj]
    simp [List.getD_eq_getElem?_getD, List.getElem?_eq_getElem hj]
theorem OnlyB.new {rb B : Nat} {w w1 w' : World} (h : OnlyB rb w w1) (hB : w.heap.size ≤ B) (k : OnlyB B w1 w') : OnlyB rb w w' :=
  ⟨k.os.trans h.os, k.tape.trans h.tape, k.output.trans h.output, Nat.le_trans h.size k.size, fun i hi hn => (k.block i (Nat.lt_of_lt_of_le hi h.size) (by omega)).trans (h.block i hi hn)⟩
theorem own_lt {w : World} {v : Value} {c : UInt8} {r : List UInt8} (h : BytesAt w v (c :: r)) : ∀ k, v.ownBlock = some k → k < w.heap.size := by
  rcases h with ⟨_, h⟩ | ⟨b, off, cap, e1, e2, e3, e4, e5, e6⟩
  · cases h
  · intro k hk; rw [e1] at hk; obtain rfl := Option.some.inj hk; exact e5
theorem only_app {w0 w w' : World} {rb : Nat} {sl v' : Value} (h : OnlyB rb w0 w) (s : AppStep w sl w' v') (hn : ∀ k, sl.ownBlock = some k → w0.heap.size ≤ k) : OnlyB rb w0 w' :=
  ⟨s.1.os.trans h.os, s.1.tape.trans h.tape, s.1.output.trans h.output, Nat.le_trans h.size s.1.size, fun k hk hne => (s.block (Nat.lt_of_lt_of_le hk h.size) (fun e => by have := hn k e; omega)).trans (h.block k hk hne)⟩
theorem sl_slice {w : World} {base : Nat} {v : Value} {ts : List Tv} (h : OwnV w base v ts) : ∃ (a : Option Addr) (c : Nat), v = .slice a ts.length c := h.slice
theorem CodS.leaf (S : Nat → Prop) (w : World) {k n : Int} {s : ByteArray} (hk : i64B k) (hn : i64B n) (hs : (s.size : Int) ≤ 140737488351232) : CodS S w (.agg (rowF 4 (valC k n s (.slice none 0 0)))) (.mk k n s []) :=
  .mk k n s (.slice none 0 0) [] (fun _ _ => .int .i64 0) hk hn hs (.inl ⟨⟨none, 0, rfl, fun _ => rfl⟩, rfl⟩) (fun i hi => absurd hi (by simp))
theorem valF_1 (rr : Nat) (b : List UInt8) : valF rr (1 :: b) = (numF 0 b).map fun x => (.mk 1 (unzig x.1) ByteArray.empty [], x.2) := by
  unfold valF; rw [if_pos rfl]
theorem valF_2 (rr : Nat) (b : List UInt8) : valF rr (2 :: b) = (match numF 0 b with
      | none => none
      | some (n, b') => if n ≤ b'.length then some (.mk 2 0 ⟨(b'.take n).toArray⟩ [], b'.drop n) else none) := by
  unfold valF; rw [if_neg (by decide), if_pos rfl]; cases numF 0 b <;> rfl
theorem valF_30 (b : List UInt8) : valF 0 (3 :: b) = none := by
  unfold valF; rw [if_neg (by decide), if_neg (by decide), if_pos rfl]
theorem valF_3 (rr : Nat) (b : List UInt8) : valF (rr + 1) (3 :: b) = (match numF 0 b with
      | none => none
      | some (n, b') => if n ≤ b'.length then (repF (valF rr) n b').map fun x => (.mk 3 0 ByteArray.empty x.1, x.2) else none) := by
  rw [valF]; rw [if_neg (by decide), if_neg (by decide), if_pos rfl]; cases numF 0 b <;> rfl
theorem valF_no (rr : Nat) {c : UInt8} (b : List UInt8) (h1 : c ≠ 1) (h2 : c ≠ 2) (h3 : c ≠ 3) : valF rr (c :: b) = none := by
  unfold valF; rw [if_neg h1, if_neg h2, if_neg h3]
theorem V_set {w : World} {B : Nat} {T : TypeId} {f g : Nat → Value} (h : RowV w B T 4 f) (j : Nat) (u : Value) (he : ∀ i, i < 4 → (if i = j then u else f i) = g i) : RowV (w.setCell ⟨B, j, none⟩ u) B T 4 g := (h.set j u).congr he
/-- i of n values read -/
def RepI (f : List UInt8 → Option (Tv × List UInt8)) (n : Nat) (r0 : List UInt8) (i : Nat) (ts : List Tv) (rest : List UInt8) : Prop :=
  ts.length = i ∧ repF f n r0 = (repF f (n - i) rest).map (fun x => (ts ++ x.1, x.2)) ∧ rest.length ≤ r0.length
theorem RepI.start (f : List UInt8 → Option (Tv × List UInt8)) (n : Nat) (r0 : List UInt8) : RepI f n r0 0 [] r0 := ⟨rfl, by rw [Nat.sub_zero]; cases repF f n r0 <;> simp, Nat.le_refl _⟩
theorem RepI.none {f : List UInt8 → Option (Tv × List UInt8)} {n : Nat} {r0 : List UInt8} {i : Nat} {ts : List Tv} {rest : List UInt8} (h : RepI f n r0 i ts rest) (hi : i < n) (hf : f rest = none) : repF f n r0 = none := by
  rw [h.2.1, show n - i = (n - i - 1) + 1 by omega, repF, hf]; rfl
theorem RepI.step {f : List UInt8 → Option (Tv × List UInt8)} {n : Nat} {r0 : List UInt8} {i : Nat} {ts : List Tv} {rest : List UInt8} (h : RepI f n r0 i ts rest) (hi : i < n) {t : Tv} {rest' : List UInt8} (hf : f rest = some (t, rest')) (hl : rest'.length ≤ rest.length) : RepI f n r0 (i + 1) (ts ++ [t]) rest' := by
  refine ⟨by rw [List.length_append, h.1]; rfl, ?_, Nat.le_trans hl h.2.2⟩
  rw [h.2.1, show n - i = (n - (i + 1)) + 1 by omega, repF, hf]
  show Option.map _ (Option.map _ _) = _
  rw [Option.map_map]
  congr 1
  funext x
  simp
theorem RepI.done {f : List UInt8 → Option (Tv × List UInt8)} {n : Nat} {r0 : List UInt8} {ts : List Tv} {rest : List UInt8} (h : RepI f n r0 n ts rest) : repF f n r0 = some (ts, rest) := by
  rw [h.2.1, Nat.sub_self, repF]; simp
theorem valF_len (rr : Nat) {b b' : List UInt8} {t : Tv} (h : valF rr b = some (t, b')) : b'.length ≤ b.length := by
  have := (valF_enc rr b t b' h).2.2
  rw [this, List.length_append]; omega
theorem valC_one (k n : Int) (s : ByteArray) (x : Value) (hx : x.oneCell' = true := by rfl) : ∀ j, j < 4 → (valC k n s x j).oneCell' = true := by
  intro j hj
  match j, hj with
  | 0, _ => rfl
  | 1, _ => rfl
  | 2, _ => rfl
  | 3, _ => exact hx
end Go.Proofs.YtmmppibbglacdaaDoor

namespace Go.Proofs.YtmmppibbglacdaaDoor
namespace Cod
mutual
def bdV : Tv → Prop
  | .mk k n s l => (-9223372036854775808 ≤ n ∧ n < 9223372036854775808) ∧ s.size < 18446744073709551616 ∧ l.length < 18446744073709551616 ∧ bdL l
def bdL : List Tv → Prop
  | [] => True
  | t :: l => bdV t ∧ bdL l
end
theorem ba_empty {s : ByteArray} (h : s.data.toList.isEmpty = true) : s = ByteArray.empty := by
  have : s.data.toList = [] := List.isEmpty_iff.1 h
  have h2 : s.data = #[] := by rw [← Array.toArray_toList (xs := s.data), this]
  exact ByteArray.ext h2
mutual
theorem valF_encV : ∀ (t : Tv) (rr : Nat) (r : List UInt8), formB t = true → depthN t ≤ rr → bdV t → valF rr (encV t ++ r) = some (t, r)
  | .mk k n s l, rr, r, hf, hd, hb => by
    unfold bdV at hb
    obtain ⟨⟨b1, b2⟩, b3, b4, b5⟩ := hb
    unfold formB at hf
    unfold encV
    by_cases k1 : k = 1
    · rw [if_pos k1] at hf ⊢
      rw [Bool.and_eq_true] at hf
      rw [List.cons_append, valF_1, numF_of (zig_lt b1 b2), Option.map_some, unzig_zig, ba_empty hf.1, List.isEmpty_iff.1 hf.2, k1]
    · rw [if_neg k1] at hf ⊢
      by_cases k2 : k = 2
      · rw [if_pos k2] at hf ⊢
        rw [Bool.and_eq_true, decide_eq_true_eq] at hf
        have hs : s.size = s.data.toList.length := Array.length_toList.symm
        rw [List.cons_append, List.append_assoc, valF_2, numF_of b3]
        dsimp only
        rw [if_pos (by rw [List.length_append]; omega), hs, List.take_left' rfl, List.drop_left' rfl, Array.toArray_toList, hf.1, List.isEmpty_iff.1 hf.2, k2]
      · rw [if_neg k2] at hf ⊢
        by_cases k3 : k = 3
        · rw [if_pos k3, Bool.and_eq_true, Bool.and_eq_true, decide_eq_true_eq] at hf
          unfold depthN at hd
          rw [if_pos k3] at hd
          cases rr with
          | zero => omega
          | succ rr =>
            rw [List.cons_append, List.append_assoc, valF_3, numF_of b4]
            dsimp only
            rw [if_pos (by rw [List.length_append]; have := encL_len l; omega), repF_encL l rr r hf.2 (by omega) b5, Option.map_some, hf.1.1, ba_empty hf.1.2, k3]
        · rw [if_neg k3] at hf
          cases hf
theorem repF_encL : ∀ (l : List Tv) (rr : Nat) (r : List UInt8), formL l = true → depthL l ≤ rr → bdL l → repF (valF rr) l.length (encL l ++ r) = some (l, r)
  | [], rr, r, _, _, _ => by simp [encL, repF]
  | t :: l, rr, r, hf, hd, hb => by
    unfold bdL at hb
    rw [formL_cons, Bool.and_eq_true] at hf
    rw [depthL_cons] at hd
    rw [encL_cons, List.append_assoc, List.length_cons]
    unfold repF
    rw [valF_encV t rr _ hf.1 (by omega) hb.1]
    dsimp only
    rw [repF_encL l rr r hf.2 (by omega) hb.2, Option.map_some]
end
theorem decF_encV {t : Tv} (hf : formB t = true) (hd : depthN t ≤ 16) (hb : bdV t) : decF (encV t) = some t := by
  have := valF_encV t 16 [] hf hd hb
  rw [List.append_nil] at this
  unfold decF
  rw [this]
theorem bdL_of : ∀ (l : List Tv), (∀ i, i < l.length → bdV (l.getD i tv0)) → bdL l
  | [], _ => by unfold bdL; trivial
  | t :: l, h => by
    unfold bdL
    exact ⟨h 0 (by simp), bdL_of l fun i hi => h (i + 1) (by simpa using hi)⟩
end Cod
open Cod
theorem CodAt.bd {w : World} {v : Value} {t : Tv} (h : CodAt w v t) : bdV t := by
  induction h with
  | mk k n s sl l c hk hn hs hl _ ih =>
    unfold bdV
    refine ⟨hn, by omega, ?_, bdL_of l ih⟩
    rcases hl with ⟨_, h⟩ | ⟨_, _, _, _, _, _, ⟨h, _⟩, _⟩ <;> omega
end Go.Proofs.YtmmppibbglacdaaDoor

namespace Go.Proofs.YtmmppibbglacdaaDoor
open Go.RowKit Cod

structure Ak where
  f : Int
  d : Int
  s : Int
  u : Int
  ch : List UInt8
  r : Int
  g : Int
structure Ak.wf (a : Ak) : Prop where
  f : i64B a.f
  d : i64B a.d
  s : i64B a.s
  u : i64B a.u
  ch : a.ch.length = 32
  r : i64B a.r
  g : i64B a.g
def z32 : List UInt8 := List.replicate 32 0
def ak0 : Ak := ⟨0, 0, 0, 0, z32, 0, 0⟩
theorem i64B_0 : i64B 0 := ⟨by decide, by decide⟩
theorem ak0_wf : ak0.wf := ⟨i64B_0, i64B_0, i64B_0, i64B_0, rfl, i64B_0, i64B_0⟩
def Ak.at (a : Ak) (i : Nat) : Int := match i with | 0 => a.f | 1 => a.d | 2 => a.s | 3 => a.u | 36 => a.r | _ => a.g
/-- the cells of an acknowledgement -/
def akC (a : Ak) (j : Nat) : Value := if 4 ≤ j ∧ j < 36 then vB (a.ch.getD (j - 4) 0) else .int .i64 (a.at j)
theorem akC_one (a : Ak) (j : Nat) : (akC a j).oneCell' = true := by unfold akC; split <;> rfl
def okA (a : Ak) : Bool := decide (0 ≤ a.f) && decide (a.f < 16) && decide (0 ≤ a.d) && decide (a.d < 512) && decide (0 ≤ a.s) && decide (a.s < 4) && decide (0 ≤ a.u) && decide (a.u < 65537)
theorem okA_iff (a : Ak) : okA a = true ↔ (0 ≤ a.f ∧ a.f < 16 ∧ 0 ≤ a.d ∧ a.d < 512 ∧ 0 ≤ a.s ∧ a.s < 4 ∧ 0 ≤ a.u ∧ a.u < 65537) := by
  unfold okA; simp only [Bool.and_eq_true, decide_eq_true_eq, and_assoc]
def numT (n : Int) : Tv := .mk 1 n ByteArray.empty []
def txtT (l : List UInt8) : Tv := .mk 2 0 ⟨l.toArray⟩ []
def lstT (l : List Tv) : Tv := .mk 3 0 ByteArray.empty l
def fldA (a : Ak) (more : List Int) : List Tv := [numT a.f, numT a.d, numT a.s, numT a.u, txtT a.ch] ++ more.map numT
def treeA (a : Ak) (more : List Int) : Tv := lstT (fldA a more)
def encA (a : Ak) (more : List Int) : List UInt8 := encV (treeA a more)
def tagAck : List UInt8 := [97, 99, 107]
def msgA (a : Ak) : List UInt8 := Sha.tagged tagAck (encA a [])
/-- what Check answers -/
def ckA (a : Ak) (v : Int) : Int := if okA a then (if verB v (msgA a) a.r a.g then 0 else 222) else 330

theorem leaf_form (n : Int) : formB (numT n) = true := by simp [numT, formB]
theorem leaf_formT (l : List UInt8) : formB (txtT l) = true := by simp [txtT, formB]
theorem formL_nums (zs : List Int) : formL (zs.map numT) = true := by
  induction zs with
  | nil => simp [formL]
  | cons z zs ih => rw [List.map_cons, formL_cons, leaf_form, ih]; rfl
theorem depthL_nums (zs : List Int) : depthL (zs.map numT) = 0 := by
  induction zs with
  | nil => simp [depthL]
  | cons z zs ih => rw [List.map_cons, depthL_cons, ih]; simp [numT, depthN]
theorem encL_nums_len (zs : List Int) (h : ∀ z ∈ zs, i64B z) : (encL (zs.map numT)).length ≤ 11 * zs.length := by
  induction zs with
  | nil => simp [encL]
  | cons z zs ih =>
    have h1 := h z (List.mem_cons_self ..)
    have h2 := numE_10 (zig_lt h1.1 h1.2)
    have h3 := ih fun y hy => h y (List.mem_cons_of_mem _ hy)
    rw [List.map_cons, encL_cons, List.length_append]
    have h4 : (encV (numT z)).length = (numE (zig z)).length + 1 := by simp [numT, encV]
    rw [List.length_cons]; omega
/-- a list of values that fit is encoded -/
theorem chkT_lst {l : List Tv} (hf : formL l = true) (hd : depthL l = 0) : chkT (lstT l) = 0 ∧ depthN (lstT l) ≤ 1000 := by
  have h1 : formB (lstT l) = true := by simp [lstT, formB, hf]
  have h2 : depthN (lstT l) = 1 := by simp [lstT, depthN, hd]
  refine ⟨?_, by rw [h2]; decide⟩
  unfold chkT; rw [if_pos h1, h2]; rfl
theorem fldA_form (a : Ak) (more : List Int) : formL (fldA a more) = true := by
  unfold fldA
  rw [formL_append, formL_nums]
  simp [formL, leaf_form, leaf_formT]
theorem fldA_depth (a : Ak) (more : List Int) : depthL (fldA a more) = 0 := by
  unfold fldA
  rw [depthL_append, depthL_nums]
  simp [depthL, numT, txtT, depthN]
theorem encV_lst (l : List Tv) : encV (lstT l) = 3 :: (numE l.length ++ encL l) := by simp [lstT, encV]
theorem encV_txt_len (l : List UInt8) (h : l.length ≤ 1000000) : (encV (txtT l)).length ≤ 11 + l.length := by
  have : (encV (txtT l)).length = (numE l.length).length + l.length + 1 := by simp [txtT, encV, ByteArray.size]
  have h2 := numE_10 (u := l.length) (by omega)
  omega
theorem encA_len (a : Ak) (h : a.wf) (more : List Int) (hm : ∀ z ∈ more, i64B z) (hl : more.length ≤ 100) : (encA a more).length ≤ 2000 := by
  unfold encA treeA
  rw [encV_lst, List.length_cons, List.length_append]
  unfold fldA
  rw [encL_append, List.length_append]
  have h1 := encL_nums_len more hm
  have h2 : (encL ([a.f, a.d, a.s, a.u].map numT)).length ≤ 44 := encL_nums_len [a.f, a.d, a.s, a.u] (by
    intro z hz
    simp only [List.mem_cons, List.not_mem_nil, or_false] at hz
    rcases hz with rfl | rfl | rfl | rfl
    · exact h.f
    · exact h.d
    · exact h.s
    · exact h.u)
  have h3 : encL [numT a.f, numT a.d, numT a.s, numT a.u, txtT a.ch] = encL ([a.f, a.d, a.s, a.u].map numT) ++ encV (txtT a.ch) := by
    rw [show [numT a.f, numT a.d, numT a.s, numT a.u, txtT a.ch] = [a.f, a.d, a.s, a.u].map numT ++ [txtT a.ch] from rfl, encL_append, encL_one]
  have h4 := encV_txt_len a.ch (by rw [h.ch]; decide)
  rw [h3, List.length_append, List.length_append, List.length_map]
  have h5 := numE_10 (u := [numT a.f, numT a.d, numT a.s, numT a.u, txtT a.ch].length + more.length) (by simp; omega)
  have h6 := h.ch
  omega
theorem msgA_len (a : Ak) : (msgA a).length = 32 := tagged_len _ _

/-! what acknowledgements count for -/
structure Mb where
  dev : Int
  sin : Int
  ver : Int
def mb0 : Mb := ⟨0, 0, 0⟩
def mbC (m : Mb) (j : Nat) : Value := if j = 0 then .int .i64 m.dev else if j = 1 then .int .i64 m.sin else .int .i64 m.ver
structure Mb.wf (m : Mb) : Prop where
  dev : i64B m.dev
  sin : i64B m.sin
  ver : i64B m.ver
def selA (f s : Int) (a : Ak) : Bool := decide (a.f = f) && decide (a.s = s)
/-- one acknowledgement of a device, counted -/
def stepU (m : Mb) (n : Int) (a : Ak) : Int := if n < a.u ∧ ckA a m.ver = 0 then a.u else n
/-- those of a device -/
def ofDev (d : Int) (l : List Ak) : List Ak := l.filter fun a => decide (a.d = d)
def uptoM (f s : Int) (l : List Ak) (m : Mb) : Int := (ofDev m.dev (l.filter (selA f s))).foldl (stepU m) 0
def leastStep (f s : Int) (l : List Ak) (n : Int) (i : Nat) (m : Mb) : Int := if i = 0 ∨ uptoM f s l m < n then uptoM f s l m else n
def leastGo (f s : Int) (l : List Ak) : List Mb → Nat → Int → Int
  | [], _, n => n
  | m :: ms, i, n => leastGo f s l ms (i + 1) (leastStep f s l n i m)
def leastM (ms : List Mb) (f s : Int) (l : List Ak) : Int := leastGo f s l ms 0 0
/-- what counts for a member -/
def cntA (m : Mb) (f s : Int) (a : Ak) : Bool := selA f s a && decide (a.d = m.dev) && decide (ckA a m.ver = 0)
theorem ckA_ok {a : Ak} {v : Int} (h : ckA a v = 0) : okA a = true ∧ verB v (msgA a) a.r a.g = true := by
  unfold ckA at h
  split at h
  · split at h
    · exact ⟨by assumption, by assumption⟩
    · cases h
  · cases h
theorem fold_ge (m : Mb) : ∀ (l : List Ak) (n : Int), n ≤ l.foldl (stepU m) n
  | [], n => Int.le_refl _
  | a :: l, n => by
    have := fold_ge m l (stepU m n a)
    rw [List.foldl_cons]
    refine Int.le_trans ?_ this
    unfold stepU; split <;> omega
theorem fold_all (m : Mb) : ∀ (l : List Ak) (n : Int) (a : Ak), a ∈ l → ckA a m.ver = 0 → a.u ≤ l.foldl (stepU m) n
  | b :: l, n, a, ha, hc => by
    rw [List.foldl_cons]
    rcases List.mem_cons.1 ha with rfl | h
    · refine Int.le_trans ?_ (fold_ge m l _)
      unfold stepU; split <;> omega
    · exact fold_all m l _ a h hc
theorem fold_some (m : Mb) : ∀ (l : List Ak) (n : Int), l.foldl (stepU m) n = n ∨ ∃ a ∈ l, ckA a m.ver = 0 ∧ l.foldl (stepU m) n = a.u ∧ n < a.u
  | [], n => .inl rfl
  | b :: l, n => by
    rw [List.foldl_cons]
    by_cases h : n < b.u ∧ ckA b m.ver = 0
    · have e : stepU m n b = b.u := by unfold stepU; rw [if_pos h]
      rw [e]
      rcases fold_some m l b.u with h1 | ⟨a, ha, hc, h1, h2⟩
      · exact .inr ⟨b, List.mem_cons_self .., h.2, h1, h.1⟩
      · exact .inr ⟨a, List.mem_cons_of_mem _ ha, hc, h1, by omega⟩
    · have e : stepU m n b = n := by unfold stepU; rw [if_neg h]
      rw [e]
      rcases fold_some m l n with h1 | ⟨a, ha, hc, h1, h2⟩
      · exact .inl h1
      · exact .inr ⟨a, List.mem_cons_of_mem _ ha, hc, h1, h2⟩
theorem mem_ofDev {f s d : Int} {l : List Ak} {a : Ak} : a ∈ ofDev d (l.filter (selA f s)) ↔ a ∈ l ∧ a.f = f ∧ a.s = s ∧ a.d = d := by
  unfold ofDev selA
  simp only [List.mem_filter, Bool.and_eq_true, decide_eq_true_eq, and_assoc]
/-- the greatest number that counts -/
theorem uptoM_ge (f s : Int) (l : List Ak) (m : Mb) : 0 ≤ uptoM f s l m := fold_ge m _ 0
theorem uptoM_all {f s : Int} {l : List Ak} {m : Mb} {a : Ak} (ha : a ∈ l) (h : cntA m f s a = true) : a.u ≤ uptoM f s l m := by
  unfold cntA selA at h
  simp only [Bool.and_eq_true, decide_eq_true_eq] at h
  exact fold_all m _ 0 a (mem_ofDev.2 ⟨ha, h.1.1.1, h.1.1.2, h.1.2⟩) h.2
theorem uptoM_some (f s : Int) (l : List Ak) (m : Mb) : uptoM f s l m = 0 ∨ ∃ a ∈ l, cntA m f s a = true ∧ uptoM f s l m = a.u ∧ 0 < a.u := by
  rcases fold_some m (ofDev m.dev (l.filter (selA f s))) 0 with h | ⟨a, ha, hc, h1, h2⟩
  · exact .inl h
  · obtain ⟨h3, h4, h5, h6⟩ := mem_ofDev.1 ha
    refine .inr ⟨a, h3, ?_, h1, h2⟩
    unfold cntA selA
    simp [h4, h5, h6, hc]
theorem leastGo_min (f s : Int) (l : List Ak) : ∀ (ms : List Mb) (i : Nat) (n : Int), 0 < i → (leastGo f s l ms i n ≤ n ∧ (∀ m ∈ ms, leastGo f s l ms i n ≤ uptoM f s l m) ∧ (leastGo f s l ms i n = n ∨ ∃ m ∈ ms, leastGo f s l ms i n = uptoM f s l m))
  | [], i, n, _ => by
    unfold leastGo
    exact ⟨Int.le_refl _, (fun m hm => absurd hm List.not_mem_nil), .inl rfl⟩
  | m :: ms, i, n, hi => by
    obtain ⟨h1, h2, h3⟩ := leastGo_min f s l ms (i + 1) (leastStep f s l n i m) (by omega)
    have e : leastStep f s l n i m ≤ n ∧ leastStep f s l n i m ≤ uptoM f s l m ∧ (leastStep f s l n i m = n ∨ leastStep f s l n i m = uptoM f s l m) := by
      unfold leastStep; split
      · rename_i h; rcases h with h | h
        · omega
        · exact ⟨by omega, Int.le_refl _, .inr rfl⟩
      · rename_i h; exact ⟨Int.le_refl _, by omega, .inl rfl⟩
    unfold leastGo
    refine ⟨by omega, fun x hx => ?_, ?_⟩
    · rcases List.mem_cons.1 hx with rfl | hx
      · omega
      · exact h2 x hx
    · rcases h3 with h3 | ⟨x, hx, h3⟩
      · rcases e.2.2 with h4 | h4
        · exact .inl (h3.trans h4)
        · exact .inr ⟨m, List.mem_cons_self .., h3.trans h4⟩
      · exact .inr ⟨x, List.mem_cons_of_mem _ hx, h3⟩
theorem leastM_cons (f s : Int) (l : List Ak) (m : Mb) (ms : List Mb) : leastM (m :: ms) f s l = leastGo f s l ms 1 (uptoM f s l m) := by
  show leastGo f s l ms (0 + 1) (leastStep f s l 0 0 m) = _
  unfold leastStep; rw [if_pos (.inl rfl)]
theorem leastM_le {f s : Int} {l : List Ak} {ms : List Mb} {m : Mb} (h : m ∈ ms) : leastM ms f s l ≤ uptoM f s l m := by
  cases ms with
  | nil => cases h
  | cons x ms =>
    rw [leastM_cons]
    obtain ⟨h1, h2, _⟩ := leastGo_min f s l ms 1 (uptoM f s l x) (by decide)
    rcases List.mem_cons.1 h with rfl | h
    · exact h1
    · exact h2 m h
theorem leastM_at {f s : Int} {l : List Ak} {ms : List Mb} (h : ms ≠ []) : ∃ m ∈ ms, leastM ms f s l = uptoM f s l m := by
  cases ms with
  | nil => exact absurd rfl h
  | cons x ms =>
    rw [leastM_cons]
    obtain ⟨_, _, h3⟩ := leastGo_min f s l ms 1 (uptoM f s l x) (by decide)
    rcases h3 with h3 | ⟨m, hm, h3⟩
    · exact ⟨x, List.mem_cons_self .., h3⟩
    · exact ⟨m, List.mem_cons_of_mem _ hm, h3⟩
theorem leastM_ge (f s : Int) (l : List Ak) (ms : List Mb) : 0 ≤ leastM ms f s l := by
  cases ms with
  | nil => exact Int.le_refl _
  | cons x ms =>
    obtain ⟨m, _, h⟩ := leastM_at (f := f) (s := s) (l := l) (ms := x :: ms) (by simp)
    rw [h]; exact uptoM_ge _ _ _ _
theorem uptoM_max (f s : Int) (l : List Ak) (m : Mb) : uptoM f s l m ≤ 65536 := by
  rcases uptoM_some f s l m with h | ⟨a, _, hc, h, _⟩
  · omega
  · unfold cntA at hc
    simp only [Bool.and_eq_true, decide_eq_true_eq] at hc
    have := (okA_iff a).1 (ckA_ok hc.2).1
    omega
theorem leastM_max (f s : Int) (l : List Ak) (ms : List Mb) : leastM ms f s l ≤ 65536 := by
  cases ms with
  | nil => show (0 : Int) ≤ 65536; decide
  | cons x ms =>
    obtain ⟨m, _, h⟩ := leastM_at (f := f) (s := s) (l := l) (ms := x :: ms) (by simp)
    rw [h]; exact uptoM_max _ _ _ _
/-- Least hangs on which acknowledgements and which members there are, not on their order -/
theorem uptoM_mono {f s : Int} {l l' : List Ak} (h : ∀ a ∈ l, a ∈ l') (m : Mb) : uptoM f s l m ≤ uptoM f s l' m := by
  rcases uptoM_some f s l m with h1 | ⟨a, ha, hc, h1, _⟩
  · rw [h1]; exact uptoM_ge _ _ _ _
  · rw [h1]; exact uptoM_all (h a ha) hc
theorem leastM_mono {f s : Int} {l l' : List Ak} {ms ms' : List Mb} (h : ∀ a ∈ l, a ∈ l') (hm : ∀ m ∈ ms', m ∈ ms) (hn : ms' ≠ []) : leastM ms f s l ≤ leastM ms' f s l' := by
  obtain ⟨m, hx, e⟩ := leastM_at (f := f) (s := s) (l := l') hn
  rw [e]
  exact Int.le_trans (leastM_le (hm m hx)) (uptoM_mono h m)
theorem leastM_same {f s : Int} {l l' : List Ak} {ms ms' : List Mb} (h : ∀ a, a ∈ l ↔ a ∈ l') (hm : ∀ m, m ∈ ms ↔ m ∈ ms') : leastM ms f s l = leastM ms' f s l' := by
  cases ms with
  | nil =>
    have : ms' = [] := List.eq_nil_iff_forall_not_mem.2 fun m hx => by cases (hm m).2 hx
    rw [this]; rfl
  | cons x ms =>
    have h1 : ms' ≠ [] := fun e => by have := (hm x).1 (List.mem_cons_self ..); rw [e] at this; cases this
    exact Int.le_antisymm (leastM_mono (fun a => (h a).1) (fun m => (hm m).2) h1) (leastM_mono (fun a => (h a).2) (fun m => (hm m).1) (by simp))
end Go.Proofs.YtmmppibbglacdaaDoor

namespace Go.Proofs.YtmmppibbglacdaaDoor
open Go.RowKit Cod
theorem fin_caught {vb eb : Nat} {w w2 w3 w4 : World} (B2 : Below w.heap.size w w2) (E2 : w2.heap.size = w.heap.size) (o3 : OnlyB vb w2 w3) (o4 : OnlyB eb w3 w4) :
    w.heap.size ≤ w4.heap.size ∧ w4.os = w.os ∧ w4.tape = w.tape ∧ w4.output = w.output ∧ ∀ k, k < w.heap.size → ¬k = vb → ¬k = eb → w4.heap[k]? = w.heap[k]? :=
  ⟨by have := o3.size; have := o4.size; omega, (o4.os.trans o3.os).trans B2.os, (o4.tape.trans o3.tape).trans B2.tape, (o4.output.trans o3.output).trans B2.output,
    fun k hk h1 h2 => ((o4.block k (by have := o3.size; omega) h2).trans (o3.block k (by omega) h1)).trans (B2.block k hk)⟩
end Go.Proofs.YtmmppibbglacdaaDoor

namespace Go.Proofs.YtmmppibbglacdaaDoor
open Go.RowKit Cod
def DecPost (l : List UInt8) (w : World) (e : Ending) (w' : World) : Prop :=
  (match decF l with
   | some t => ∃ u, e = .returned (.tuple #[u, .int .i64 0]) ∧ CodS (fun b => w.heap.size ≤ b) w' u t
   | none => e = .returned (.tuple #[.agg #[.int .i64 0, .int .i64 0, .string ByteArray.empty, .slice none 0 0], .int .i64 10])) ∧ Below w.heap.size w w'
theorem DecPost.bad {l : List UInt8} {w w' : World} (h : decF l = none) (b : Below w.heap.size w w') : DecPost l w (.returned (.tuple #[.agg #[.int .i64 0, .int .i64 0, .string ByteArray.empty, .slice none 0 0], .int .i64 10])) w' := by
  unfold DecPost; rw [h]; exact ⟨rfl, b⟩
theorem DecPost.good {l : List UInt8} {w w' : World} {t : Tv} {u : Value} (h : decF l = some t) (hu : CodS (fun b => w.heap.size ≤ b) w' u t) (b : Below w.heap.size w w') : DecPost l w (.returned (.tuple #[u, .int .i64 0])) w' := by
  unfold DecPost; rw [h]; exact ⟨⟨u, rfl, hu⟩, b⟩
theorem fin_dec' {w w3 w4 w5 w' : World} {n : Nat} (B : Below n w w3) (hs : w3.heap.size = n + 3) (o4 : OnlyB (n + 2) w3 w4) (o5 : OnlyB n w4 w5) (s1 : w5.heap.size ≤ w'.heap.size) (s2 : w'.os = w5.os) (s3 : w'.tape = w5.tape) (s4 : w'.output = w5.output)
    (s5 : ∀ k, k < w5.heap.size → k ≠ n → k ≠ n + 1 → w'.heap[k]? = w5.heap[k]?) : Below n w w' :=
  ⟨s2.trans ((o5.os.trans o4.os).trans B.os), s3.trans ((o5.tape.trans o4.tape).trans B.tape), s4.trans ((o5.output.trans o4.output).trans B.output), by have := B.size; have := o4.size; have := o5.size; omega,
    fun k hk => (s5 k (by have := o4.size; have := o5.size; omega) (by omega) (by omega)).trans ((o5.block k (by have := o4.size; omega) (by omega)).trans ((o4.block k (by omega) (by omega)).trans (B.block k hk)))⟩
theorem fin_dec {w w3 w4 w' : World} {n : Nat} (B : Below n w w3) (hs : w3.heap.size = n + 3) (o3 : OnlyB n w3 w3) (o4 : OnlyB (n + 2) w3 w4) (s1 : w4.heap.size ≤ w'.heap.size) (s2 : w'.os = w4.os) (s3 : w'.tape = w4.tape) (s4 : w'.output = w4.output)
    (s5 : ∀ k, k < w4.heap.size → k ≠ n → k ≠ n + 1 → w'.heap[k]? = w4.heap[k]?) : Below n w w' :=
  fin_dec' B hs o4 (OnlyB.refl _ _) s1 s2 s3 s4 s5
theorem alloc_sz (w : World) (o : Obj) : (w.alloc o).heap.size = w.heap.size + 1 := by
  show (w.heap.push _).size = _; simp
end Go.Proofs.YtmmppibbglacdaaDoor

namespace Go.Proofs.YtmmppibbglacdaaDoor
open Go.RowKit Cod

/-! numbers in a list, encoded -/
def encN (zs : List Int) : List UInt8 := encV (lstT (zs.map numT))
theorem encN_len (zs : List Int) (h : ∀ z ∈ zs, i64B z) (hl : zs.length ≤ 100) : (encN zs).length ≤ 2000 := by
  unfold encN
  rw [encV_lst, List.length_cons, List.length_append]
  have h1 := encL_nums_len zs h
  have h5 := numE_10 (u := (zs.map numT).length) (by rw [List.length_map]; omega)
  omega
theorem encN_chk (zs : List Int) : chkT (lstT (zs.map numT)) = 0 ∧ depthN (lstT (zs.map numT)) ≤ 1000 := chkT_lst (formL_nums zs) (depthL_nums zs)

/-! certificates -/
structure Ct where
  k : Int
  d : Int
  v : Int
  l : Int
  n : Int
  b : Int
  r : Int
  g : Int
structure Ct.wf (c : Ct) : Prop where
  k : i64B c.k
  d : i64B c.d
  v : i64B c.v
  l : i64B c.l
  n : i64B c.n
  b : i64B c.b
  r : i64B c.r
  g : i64B c.g
def ct0 : Ct := ⟨0, 0, 0, 0, 0, 0, 0, 0⟩
theorem ct0_wf : ct0.wf := ⟨i64B_0, i64B_0, i64B_0, i64B_0, i64B_0, i64B_0, i64B_0, i64B_0⟩
def Ct.at (c : Ct) (i : Nat) : Int := match i with | 0 => c.k | 1 => c.d | 2 => c.v | 3 => c.l | 4 => c.n | 5 => c.b | 6 => c.r | _ => c.g
/-- the cells of a certificate -/
def ctC (c : Ct) (j : Nat) : Value := .int .i64 (c.at j)
theorem ctC_one (c : Ct) (j : Nat) : (ctC c j).oneCell' = true := rfl
def devB (d : Int) : Bool := decide (0 ≤ d) && decide (d < 512)
def keysB (v l : Int) : Bool := elemB v && elemB l
def otherB (d b : Int) : Bool := devB b && !(b == d) && decide (b.tdiv 8 = d.tdiv 8)
def kindB (c : Ct) : Bool :=
  if c.k = 1 then keysB c.v c.l && decide (c.b = c.d) else if c.k = 2 then keysB c.v c.l && otherB c.d c.b else if c.k = 3 then keysB c.v c.l && decide (c.b = -1)
  else if c.k = 4 then decide (c.v = 0) && decide (c.l = 0) && otherB c.d c.b else false
def formC (c : Ct) : Bool := devB c.d && !decide (c.n < 1) && !decide (1048576 < c.n) && kindB c
def numsC (c : Ct) : List Int := [c.k, c.d, c.v, c.l, c.n, c.b]
theorem numsC_bd {c : Ct} (h : c.wf) : ∀ z ∈ numsC c, i64B z := by
  intro z hz
  simp only [numsC, List.mem_cons, List.not_mem_nil, or_false] at hz
  rcases hz with rfl | rfl | rfl | rfl | rfl | rfl
  · exact h.k
  · exact h.d
  · exact h.v
  · exact h.l
  · exact h.n
  · exact h.b
def tagCert : List UInt8 := [99, 101, 114, 116]
def msgC (c : Ct) : List UInt8 := Sha.tagged tagCert (encN (numsC c))
theorem msgC_len (c : Ct) : (msgC c).length = 32 := tagged_len _ _
/-- what Certify answers -/
def crtE (c : Ct) (x : Int) : Int := if formC c then pubE x else 370
def crtV (c : Ct) (x : Int) : Ct := if crtE c x = 0 then ⟨c.k, c.d, c.v, c.l, c.n, c.b, sgR x (msgC c), sgS x (msgC c)⟩ else ct0
def ctN (k d v l n b : Int) : Ct := ⟨k, d, v, l, n, b, 0, 0⟩
end Go.Proofs.YtmmppibbglacdaaDoor
