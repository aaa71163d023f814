/- Values of the codec: what is encoded is read again. Acknowledgements, in plain Lean: their form, their message, what they count for. Package acks: valid, formed. -/
import Derived.Test.YtbjbgneejdjniaaDoorPk39
import Derived.Test.YtbjbgneejdjniaaDoorPk34
set_option linter.unusedVariables false
set_option linter.unusedSimpArgs false
namespace Go.Proofs.YtbjbgneejdjniaaDoor
namespace Cod
mutual
def bdV : Tv → Prop
  | .mk k n s l => (-9223372036854775808 ≤ n ∧ n < 9223372036854775808) ∧ s.size < 18446744073709551616 ∧ l.length < 18446744073709551616 ∧ bdL l
def bdL : List Tv → Prop
  | [] => True
  | t :: l => bdV t ∧ bdL l
end
theorem ba_empty {s : ByteArray} (h : s.data.toList.isEmpty = true) : s = ByteArray.empty := by
  have : s.data.toList = [] := List.isEmpty_iff.1 h
  have h2 : s.data = #[] := by rw [← Array.toArray_toList (xs := s.data), this]
  exact ByteArray.ext h2
mutual
theorem valF_encV : ∀ (t : Tv) (rr : Nat) (r : List UInt8), formB t = true → depthN t ≤ rr → bdV t → valF rr (encV t ++ r) = some (t, r)
  | .mk k n s l, rr, r, hf, hd, hb => by
    unfold bdV at hb
    obtain ⟨⟨b1, b2⟩, b3, b4, b5⟩ := hb
    unfold formB at hf
    unfold encV
    by_cases k1 : k = 1
    · rw [if_pos k1] at hf ⊢
      rw [Bool.and_eq_true] at hf
      rw [List.cons_append, valF_1, numF_of (zig_lt b1 b2), Option.map_some, unzig_zig, ba_empty hf.1, List.isEmpty_iff.1 hf.2, k1]
    · rw [if_neg k1] at hf ⊢
      by_cases k2 : k = 2
      · rw [if_pos k2] at hf ⊢
        rw [Bool.and_eq_true, decide_eq_true_eq] at hf
        have hs : s.size = s.data.toList.length := Array.length_toList.symm
        rw [List.cons_append, List.append_assoc, valF_2, numF_of b3]
        dsimp only
        rw [if_pos (by rw [List.length_append]; omega), hs, List.take_left' rfl, List.drop_left' rfl, Array.toArray_toList, hf.1, List.isEmpty_iff.1 hf.2, k2]
      · rw [if_neg k2] at hf ⊢
        by_cases k3 : k = 3
        · rw [if_pos k3, Bool.and_eq_true, Bool.and_eq_true, decide_eq_true_eq] at hf
          unfold depthN at hd
          rw [if_pos k3] at hd
          cases rr with
          | zero => omega
          | succ rr =>
            rw [List.cons_append, List.append_assoc, valF_3, numF_of b4]
            dsimp only
            rw [if_pos (by rw [List.length_append]; have := encL_len l; omega), repF_encL l rr r hf.2 (by omega) b5, Option.map_some, hf.1.1, ba_empty hf.1.2, k3]
        · rw [if_neg k3] at hf
          cases hf
theorem repF_encL : ∀ (l : List Tv) (rr : Nat) (r : List UInt8), formL l = true → depthL l ≤ rr → bdL l → repF (valF rr) l.length (encL l ++ r) = some (l, r)
  | [], rr, r, _, _, _ => by simp [encL, repF]
  | t :: l, rr, r, hf, hd, hb => by
    unfold bdL at hb
    rw [formL_cons, Bool.and_eq_true] at hf
    rw [depthL_cons] at hd
    rw [encL_cons, List.append_assoc, List.length_cons]
    unfold repF
    rw [valF_encV t rr _ hf.1 (by omega) hb.1]
    dsimp only
    rw [repF_encL l rr r hf.2 (by omega) hb.2, Option.map_some]
end
theorem decF_encV {t : Tv} (hf : formB t = true) (hd : depthN t ≤ 16) (hb : bdV t) : decF (encV t) = some t := by
  have := valF_encV t 16 [] hf hd hb
  rw [List.append_nil] at this
  unfold decF
  rw [this]
theorem bdL_of : ∀ (l : List Tv), (∀ i, i < l.length → bdV (l.getD i tv0)) → bdL l
  | [], _ => by unfold bdL; trivial
  | t :: l, h => by
    unfold bdL
    exact ⟨h 0 (by simp), bdL_of l fun i hi => h (i + 1) (by simpa using hi)⟩
end Cod
open Cod
theorem CodAt.bd {w : World} {v : Value} {t : Tv} (h : CodAt w v t) : bdV t := by
  induction h with
  | mk k n s sl l c hk hn hs hl _ ih =>
    unfold bdV
    refine ⟨hn, by omega, ?_, bdL_of l ih⟩
    rcases hl with ⟨_, h⟩ | ⟨_, _, _, _, _, _, ⟨h, _⟩, _⟩ <;> omega
end Go.Proofs.YtbjbgneejdjniaaDoor

namespace Go.Proofs.YtbjbgneejdjniaaDoor
open Go.RowKit Cod

structure Ak where
  f : Int
  d : Int
  s : Int
  u : Int
  ch : List UInt8
  r : Int
  g : Int
structure Ak.wf (a : Ak) : Prop where
  f : i64B a.f
  d : i64B a.d
  s : i64B a.s
  u : i64B a.u
  ch : a.ch.length = 32
  r : i64B a.r
  g : i64B a.g
def z32 : List UInt8 := List.replicate 32 0
def ak0 : Ak := ⟨0, 0, 0, 0, z32, 0, 0⟩
theorem i64B_0 : i64B 0 := ⟨by decide, by decide⟩
theorem ak0_wf : ak0.wf := ⟨i64B_0, i64B_0, i64B_0, i64B_0, rfl, i64B_0, i64B_0⟩
def Ak.at (a : Ak) (i : Nat) : Int := match i with | 0 => a.f | 1 => a.d | 2 => a.s | 3 => a.u | 36 => a.r | _ => a.g
/-- the cells of an acknowledgement -/
def akC (a : Ak) (j : Nat) : Value := if 4 ≤ j ∧ j < 36 then vB (a.ch.getD (j - 4) 0) else .int .i64 (a.at j)
theorem akC_one (a : Ak) (j : Nat) : (akC a j).oneCell' = true := by unfold akC; split <;> rfl
def okA (a : Ak) : Bool := decide (0 ≤ a.f) && decide (a.f < 16) && decide (0 ≤ a.d) && decide (a.d < 512) && decide (0 ≤ a.s) && decide (a.s < 4) && decide (0 ≤ a.u) && decide (a.u < 65537)
theorem okA_iff (a : Ak) : okA a = true ↔ (0 ≤ a.f ∧ a.f < 16 ∧ 0 ≤ a.d ∧ a.d < 512 ∧ 0 ≤ a.s ∧ a.s < 4 ∧ 0 ≤ a.u ∧ a.u < 65537) := by
  unfold okA; simp only [Bool.and_eq_true, decide_eq_true_eq, and_assoc]
def numT (n : Int) : Tv := .mk 1 n ByteArray.empty []
def txtT (l : List UInt8) : Tv := .mk 2 0 ⟨l.toArray⟩ []
def lstT (l : List Tv) : Tv := .mk 3 0 ByteArray.empty l
def fldA (a : Ak) (more : List Int) : List Tv := [numT a.f, numT a.d, numT a.s, numT a.u, txtT a.ch] ++ more.map numT
def treeA (a : Ak) (more : List Int) : Tv := lstT (fldA a more)
def encA (a : Ak) (more : List Int) : List UInt8 := encV (treeA a more)
def tagAck : List UInt8 := [97, 99, 107]
def msgA (a : Ak) : List UInt8 := Sha.tagged tagAck (encA a [])
/-- what Check answers -/
def ckA (a : Ak) (v : Int) : Int := if okA a then (if verB v (msgA a) a.r a.g then 0 else 222) else 330

theorem leaf_form (n : Int) : formB (numT n) = true := by simp [numT, formB]
theorem leaf_formT (l : List UInt8) : formB (txtT l) = true := by simp [txtT, formB]
theorem formL_nums (zs : List Int) : formL (zs.map numT) = true := by
  induction zs with
  | nil => simp [formL]
  | cons z zs ih => rw [List.map_cons, formL_cons, leaf_form, ih]; rfl
theorem depthL_nums (zs : List Int) : depthL (zs.map numT) = 0 := by
  induction zs with
  | nil => simp [depthL]
  | cons z zs ih => rw [List.map_cons, depthL_cons, ih]; simp [numT, depthN]
theorem encL_nums_len (zs : List Int) (h : ∀ z ∈ zs, i64B z) : (encL (zs.map numT)).length ≤ 11 * zs.length := by
  induction zs with
  | nil => simp [encL]
  | cons z zs ih =>
    have h1 := h z (List.mem_cons_self ..)
    have h2 := numE_10 (zig_lt h1.1 h1.2)
    have h3 := ih fun y hy => h y (List.mem_cons_of_mem _ hy)
    rw [List.map_cons, encL_cons, List.length_append]
    have h4 : (encV (numT z)).length = (numE (zig z)).length + 1 := by simp [numT, encV]
    rw [List.length_cons]; omega
/-- a list of values that fit is encoded -/
theorem chkT_lst {l : List Tv} (hf : formL l = true) (hd : depthL l = 0) : chkT (lstT l) = 0 ∧ depthN (lstT l) ≤ 1000 := by
  have h1 : formB (lstT l) = true := by simp [lstT, formB, hf]
  have h2 : depthN (lstT l) = 1 := by simp [lstT, depthN, hd]
  refine ⟨?_, by rw [h2]; decide⟩
  unfold chkT; rw [if_pos h1, h2]; rfl
theorem fldA_form (a : Ak) (more : List Int) : formL (fldA a more) = true := by
  unfold fldA
  rw [formL_append, formL_nums]
  simp [formL, leaf_form, leaf_formT]
theorem fldA_depth (a : Ak) (more : List Int) : depthL (fldA a more) = 0 := by
  unfold fldA
  rw [depthL_append, depthL_nums]
  simp [depthL, numT, txtT, depthN]
theorem encV_lst (l : List Tv) : encV (lstT l) = 3 :: (numE l.length ++ encL l) := by simp [lstT, encV]
theorem encV_txt_len (l : List UInt8) (h : l.length ≤ 1000000) : (encV (txtT l)).length ≤ 11 + l.length := by
  have : (encV (txtT l)).length = (numE l.length).length + l.length + 1 := by simp [txtT, encV, ByteArray.size]
  have h2 := numE_10 (u := l.length) (by omega)
  omega
theorem encA_len (a : Ak) (h : a.wf) (more : List Int) (hm : ∀ z ∈ more, i64B z) (hl : more.length ≤ 100) : (encA a more).length ≤ 2000 := by
  unfold encA treeA
  rw [encV_lst, List.length_cons, List.length_append]
  unfold fldA
  rw [encL_append, List.length_append]
  have h1 := encL_nums_len more hm
  have h2 : (encL ([a.f, a.d, a.s, a.u].map numT)).length ≤ 44 := encL_nums_len [a.f, a.d, a.s, a.u] (by
    intro z hz
    simp only [List.mem_cons, List.not_mem_nil, or_false] at hz
    rcases hz with rfl | rfl | rfl | rfl
    · exact h.f
    · exact h.d
    · exact h.s
    · exact h.u)
  have h3 : encL [numT a.f, numT a.d, numT a.s, numT a.u, txtT a.ch] = encL ([a.f, a.d, a.s, a.u].map numT) ++ encV (txtT a.ch) := by
    rw [show [numT a.f, numT a.d, numT a.s, numT a.u, txtT a.ch] = [a.f, a.d, a.s, a.u].map numT ++ [txtT a.ch] from rfl, encL_append, encL_one]
  have h4 := encV_txt_len a.ch (by rw [h.ch]; decide)
  rw [h3, List.length_append, List.length_append, List.length_map]
  have h5 := numE_10 (u := [numT a.f, numT a.d, numT a.s, numT a.u, txtT a.ch].length + more.length) (by simp; omega)
  have h6 := h.ch
  omega
theorem msgA_len (a : Ak) : (msgA a).length = 32 := tagged_len _ _

/-! what acknowledgements count for -/
structure Mb where
  dev : Int
  sin : Int
  ver : Int
def mb0 : Mb := ⟨0, 0, 0⟩
def mbC (m : Mb) (j : Nat) : Value := if j = 0 then .int .i64 m.dev else if j = 1 then .int .i64 m.sin else .int .i64 m.ver
structure Mb.wf (m : Mb) : Prop where
  dev : i64B m.dev
  sin : i64B m.sin
  ver : i64B m.ver
def selA (f s : Int) (a : Ak) : Bool := decide (a.f = f) && decide (a.s = s)
/-- one acknowledgement of a device, counted -/
def stepU (m : Mb) (n : Int) (a : Ak) : Int := if n < a.u ∧ ckA a m.ver = 0 then a.u else n
/-- those of a device -/
def ofDev (d : Int) (l : List Ak) : List Ak := l.filter fun a => decide (a.d = d)
def uptoM (f s : Int) (l : List Ak) (m : Mb) : Int := (ofDev m.dev (l.filter (selA f s))).foldl (stepU m) 0
def leastStep (f s : Int) (l : List Ak) (n : Int) (i : Nat) (m : Mb) : Int := if i = 0 ∨ uptoM f s l m < n then uptoM f s l m else n
def leastGo (f s : Int) (l : List Ak) : List Mb → Nat → Int → Int
  | [], _, n => n
  | m :: ms, i, n => leastGo f s l ms (i + 1) (leastStep f s l n i m)
def leastM (ms : List Mb) (f s : Int) (l : List Ak) : Int := leastGo f s l ms 0 0
/-- what counts for a member -/
def cntA (m : Mb) (f s : Int) (a : Ak) : Bool := selA f s a && decide (a.d = m.dev) && decide (ckA a m.ver = 0)
theorem ckA_ok {a : Ak} {v : Int} (h : ckA a v = 0) : okA a = true ∧ verB v (msgA a) a.r a.g = true := by
  unfold ckA at h
  split at h
  · split at h
    · exact ⟨by assumption, by assumption⟩
    · cases h
  · cases h
theorem fold_ge (m : Mb) : ∀ (l : List Ak) (n : Int), n ≤ l.foldl (stepU m) n
  | [], n => Int.le_refl _
  | a :: l, n => by
    have := fold_ge m l (stepU m n a)
    rw [List.foldl_cons]
    refine Int.le_trans ?_ this
    unfold stepU; split <;> omega
theorem fold_all (m : Mb) : ∀ (l : List Ak) (n : Int) (a : Ak), a ∈ l → ckA a m.ver = 0 → a.u ≤ l.foldl (stepU m) n
  | b :: l, n, a, ha, hc => by
    rw [List.foldl_cons]
    rcases List.mem_cons.1 ha with rfl | h
    · refine Int.le_trans ?_ (fold_ge m l _)
      unfold stepU; split <;> omega
    · exact fold_all m l _ a h hc
theorem fold_some (m : Mb) : ∀ (l : List Ak) (n : Int), l.foldl (stepU m) n = n ∨ ∃ a ∈ l, ckA a m.ver = 0 ∧ l.foldl (stepU m) n = a.u ∧ n < a.u
  | [], n => .inl rfl
  | b :: l, n => by
    rw [List.foldl_cons]
    by_cases h : n < b.u ∧ ckA b m.ver = 0
    · have e : stepU m n b = b.u := by unfold stepU; rw [if_pos h]
      rw [e]
      rcases fold_some m l b.u with h1 | ⟨a, ha, hc, h1, h2⟩
      · exact .inr ⟨b, List.mem_cons_self .., h.2, h1, h.1⟩
      · exact .inr ⟨a, List.mem_cons_of_mem _ ha, hc, h1, by omega⟩
    · have e : stepU m n b = n := by unfold stepU; rw [if_neg h]
      rw [e]
      rcases fold_some m l n with h1 | ⟨a, ha, hc, h1, h2⟩
      · exact .inl h1
      · exact .inr ⟨a, List.mem_cons_of_mem _ ha, hc, h1, h2⟩
theorem mem_ofDev {f s d : Int} {l : List Ak} {a : Ak} : a ∈ ofDev d (l.filter (selA f s)) ↔ a ∈ l ∧ a.f = f ∧ a.s = s ∧ a.d = d := by
  unfold ofDev selA
  simp only [List.mem_filter, Bool.and_eq_true, decide_eq_true_eq, and_assoc]
/-- the greatest number that counts -/
theorem uptoM_ge (f s : Int) (l : List Ak) (m : Mb) : 0 ≤ uptoM f s l m := fold_ge m _ 0
theorem uptoM_all {f s : Int} {l : List Ak} {m : Mb} {a : Ak} (ha : a ∈ l) (h : cntA m f s a = true) : a.u ≤ uptoM f s l m := by
  unfold cntA selA at h
  simp only [Bool.and_eq_true, decide_eq_true_eq] at h
  exact fold_all m _ 0 a (mem_ofDev.2 ⟨ha, h.1.1.1, h.1.1.2, h.1.2⟩) h.2
theorem uptoM_some (f s : Int) (l : List Ak) (m : Mb) : uptoM f s l m = 0 ∨ ∃ a ∈ l, cntA m f s a = true ∧ uptoM f s l m = a.u ∧ 0 < a.u := by
  rcases fold_some m (ofDev m.dev (l.filter (selA f s))) 0 with h | ⟨a, ha, hc, h1, h2⟩
  · exact .inl h
  · obtain ⟨h3, h4, h5, h6⟩ := mem_ofDev.1 ha
    refine .inr ⟨a, h3, ?_, h1, h2⟩
    unfold cntA selA
    simp [h4, h5, h6, hc]
theorem leastGo_min (f s : Int) (l : List Ak) : ∀ (ms : List Mb) (i : Nat) (n : Int), 0 < i → (leastGo f s l ms i n ≤ n ∧ (∀ m ∈ ms, leastGo f s l ms i n ≤ uptoM f s l m) ∧ (leastGo f s l ms i n = n ∨ ∃ m ∈ ms, leastGo f s l ms i n = uptoM f s l m))
  | [], i, n, _ => by
    unfold leastGo
    exact ⟨Int.le_refl _, (fun m hm => absurd hm List.not_mem_nil), .inl rfl⟩
  | m :: ms, i, n, hi => by
    obtain ⟨h1, h2, h3⟩ := leastGo_min f s l ms (i + 1) (leastStep f s l n i m) (by omega)
    have e : leastStep f s l n i m ≤ n ∧ leastStep f s l n i m ≤ uptoM f s l m ∧ (leastStep f s l n i m = n ∨ leastStep f s l n i m = uptoM f s l m) := by
      unfold leastStep; split
      · rename_i h; rcases h with h | h
        · omega
        · exact ⟨by omega, Int.le_refl _, .inr rfl⟩
      · rename_i h; exact ⟨Int.le_refl _, by omega, .inl rfl⟩
    unfold leastGo
    refine ⟨by omega, fun x hx => ?_, ?_⟩
    · rcases List.mem_cons.1 hx with rfl | hx
      · omega
      · exact h2 x hx
    · rcases h3 with h3 | ⟨x, hx, h3⟩
      · rcases e.2.2 with h4 | h4
        · exact .inl (h3.trans h4)
        · exact .inr ⟨m, List.mem_cons_self .., h3.trans h4⟩
      · exact .inr ⟨x, List.mem_cons_of_mem _ hx, h3⟩
theorem leastM_cons (f s : Int) (l : List Ak) (m : Mb) (ms : List Mb) : leastM (m :: ms) f s l = leastGo f s l ms 1 (uptoM f s l m) := by
  show leastGo f s l ms (0 + 1) (leastStep f s l 0 0 m) = _
  unfold leastStep; rw [if_pos (.inl rfl)]
theorem leastM_le {f s : Int} {l : List Ak} {ms : List Mb} {m : Mb} (h : m ∈ ms) : leastM ms f s l ≤ uptoM f s l m := by
  cases ms with
  | nil => cases h
  | cons x ms =>
    rw [leastM_cons]
    obtain ⟨h1, h2, _⟩ := leastGo_min f s l ms 1 (uptoM f s l x) (by decide)
    rcases List.mem_cons.1 h with rfl | h
    · exact h1
    · exact h2 m h
theorem leastM_at {f s : Int} {l : List Ak} {ms : List Mb} (h : ms ≠ []) : ∃ m ∈ ms, leastM ms f s l = uptoM f s l m := by
  cases ms with
  | nil => exact absurd rfl h
  | cons x ms =>
    rw [leastM_cons]
    obtain ⟨_, _, h3⟩ := leastGo_min f s l ms 1 (uptoM f s l x) (by decide)
    rcases h3 with h3 | ⟨m, hm, h3⟩
    · exact ⟨x, List.mem_cons_self .., h3⟩
    · exact ⟨m, List.mem_cons_of_mem _ hm, h3⟩
theorem leastM_ge (f s : Int) (l : List Ak) (ms : List Mb) : 0 ≤ leastM ms f s l := by
  cases ms with
  | nil => exact Int.le_refl _
  | cons x ms =>
    obtain ⟨m, _, h⟩ := leastM_at (f := f) (s := s) (l := l) (ms := x :: ms) (by simp)
    rw [h]; exact uptoM_ge _ _ _ _
theorem uptoM_max (f s : Int) (l : List Ak) (m : Mb) : uptoM f s l m ≤ 65536 := by
  rcases uptoM_some f s l m with h | ⟨a, _, hc, h, _⟩
  · omega
  · unfold cntA at hc
    simp only [Bool.and_eq_true, decide_eq_true_eq] at hc
    have := (okA_iff a).1 (ckA_ok hc.2).1
    omega
theorem leastM_max (f s : Int) (l : List Ak) (ms : List Mb) : leastM ms f s l ≤ 65536 := by
  cases ms with
  | nil => show (0 : Int) ≤ 65536; decide
  | cons x ms =>
    obtain ⟨m, _, h⟩ := leastM_at (f := f) (s := s) (l := l) (ms := x :: ms) (by simp)
    rw [h]; exact uptoM_max _ _ _ _
/-- Least hangs on which acknowledgements and which members there are, not on their order -/
theorem uptoM_mono {f s : Int} {l l' : List Ak} (h : ∀ a ∈ l, a ∈ l') (m : Mb) : uptoM f s l m ≤ uptoM f s l' m := by
  rcases uptoM_some f s l m with h1 | ⟨a, ha, hc, h1, _⟩
  · rw [h1]; exact uptoM_ge _ _ _ _
  · rw [h1]; exact uptoM_all (h a ha) hc
theorem leastM_mono {f s : Int} {l l' : List Ak} {ms ms' : List Mb} (h : ∀ a ∈ l, a ∈ l') (hm : ∀ m ∈ ms', m ∈ ms) (hn : ms' ≠ []) : leastM ms f s l ≤ leastM ms' f s l' := by
  obtain ⟨m, hx, e⟩ := leastM_at (f := f) (s := s) (l := l') hn
  rw [e]
  exact Int.le_trans (leastM_le (hm m hx)) (uptoM_mono h m)
theorem leastM_same {f s : Int} {l l' : List Ak} {ms ms' : List Mb} (h : ∀ a, a ∈ l ↔ a ∈ l') (hm : ∀ m, m ∈ ms ↔ m ∈ ms') : leastM ms f s l = leastM ms' f s l' := by
  cases ms with
  | nil =>
    have : ms' = [] := List.eq_nil_iff_forall_not_mem.2 fun m hx => by cases (hm m).2 hx
    rw [this]; rfl
  | cons x ms =>
    have h1 : ms' ≠ [] := fun e => by have := (hm x).1 (List.mem_cons_self ..); rw [e] at this; cases this
    exact Int.le_antisymm (leastM_mono (fun a => (h a).1) (fun m => (hm m).2) h1) (leastM_mono (fun a => (h a).2) (fun m => (hm m).1) (by simp))
end Go.Proofs.YtbjbgneejdjniaaDoor

namespace Go.Proofs.YtbjbgneejdjniaaDoor
open Go.RowKit Cod
/-- a slice of integers -/
def IntsS (w : World) (v : Value) (zs : List Int) : Prop := SlAt 1 w v zs.length (fun i _ => .int .i64 (zs.getD i 0))
def validB : List Int → Bool
  | x :: y :: r => decide (0 ≤ x) && decide (x < y) && validB r
  | _ => true
theorem validB_two {zs : List Int} {k : Nat} (h : k + 1 < zs.length) : validB (zs.drop k) = (decide (0 ≤ zs.getD k 0) && decide (zs.getD k 0 < zs.getD (k + 1) 0) && validB (zs.drop (k + 2))) := by
  rw [List.drop_eq_getElem_cons (show k < zs.length by omega), List.drop_eq_getElem_cons (show k + 1 < zs.length by omega)]
  simp [validB, List.getD_eq_getElem?_getD, List.getElem?_eq_getElem (show k < zs.length by omega), List.getElem?_eq_getElem h]
theorem validB_end {zs : List Int} {k : Nat} (h : zs.length ≤ k + 1) : validB (zs.drop k) = true := by
  rcases Nat.lt_or_ge k zs.length with h1 | h1
  · rw [List.drop_eq_getElem_cons h1, List.drop_eq_nil_of_le (by omega)]; rfl
  · rw [List.drop_eq_nil_of_le h1]; rfl
set_option maxRecDepth 100000 in
set_option maxHeartbeats 4000000 in
theorem avalid_any (v : Value) (zs : List Int) (w : World) (hv : IntsS w v zs) :
    Calls Tryd.prog 46 #[v] w fun e w' => e = .returned (.bool (validB zs)) ∧ Below w.heap.size w w' := by
  obtain ⟨a, c, rfl⟩ := hv.slice
  have hlen := hv.len_le
  have HV := Lib.hid hv
  obtain ⟨n, hn⟩ : ∃ n, zs.length = n := ⟨_, rfl⟩
  have HN := Lib.hid hn
  rw [hn] at hlen
  rw [hn]
  clear hv hn
  go_enter Tryd.func46, Tryd.ntmps46
  go_wp2_with fail
  go_loopg [3] (n - 0) (fun g s3 wx => ∃ (k : Nat), n - k = g ∧ k ≤ n + 1 ∧ s3 = .int .i64 (k : Int) ∧ Hid (validB zs = validB (zs.drop k)) ∧ Hid (Below w.heap.size w wx))
  case atStart => exact ⟨0, rfl, by omega, rfl, Lib.hid rfl, Lib.hid (Below.refl _ _)⟩
  case round =>
    obtain ⟨k, rfl, hk, rfl, hI, hB⟩ := hrel
    obtain ⟨w1, rfl⟩ : ∃ y, y = wr := ⟨_, rfl⟩
    have q0 : (0 : Int) ≤ (k : Int) := Int.natCast_nonneg k
    have k1 : IntKind.i64.wrap ((k : Int) + 1) = (k : Int) + 1 := IntWalk.i64_in _ (by omega)
    by_cases hlt : k + 1 < n
    · have d0 : decide ((k : Int) + 1 < (n : Int)) = true := by rw [decide_eq_true_iff]; omega
      have d1 : decide (k + 1 < n) = true := by rw [decide_eq_true_iff]; omega
      have HL := Lib.hid hlt
      have HW := Lib.hid (HV.out.below hB.out)
      obtain ⟨b, off, rfl, hcap, hb, hc⟩ := SlAt.at_elem (s := 1) (a := a) (k := c) (by have h := HW.out; unfold IntsS at h; rw [HN.out] at h; exact h) (show k < n by omega)
      have x0 : w1.cell? ⟨b, off + k, none⟩ = some (.int .i64 (zs.getD k 0)) := by have := hc k (by omega) 0 (by decide); simpa using this
      have x1 : w1.cell? ⟨b, off + (k + 1), none⟩ = some (.int .i64 (zs.getD (k + 1) 0)) := by have := hc (k + 1) (by omega) 0 (by decide); simpa using this
      have V2 := Lib.hid (validB_two (zs := zs) (k := k) (by rw [HN.out]; omega))
      obtain ⟨x, hx⟩ : ∃ x, zs.getD k 0 = x := ⟨_, rfl⟩
      obtain ⟨y, hy⟩ : ∃ x, zs.getD (k + 1) 0 = x := ⟨_, rfl⟩
      rw [hx, hy] at V2
      rw [hx] at x0
      rw [hy] at x1
      clear hc hx hy hlt
      have c0 : (0 : Int) ≤ (k : Int) + 1 := by omega
      have p1 : (k : Int) < (n : Int) := by have := HL.out; omega
      have p2 : (k : Int) + 1 < (n : Int) := by have := HL.out; omega
      by_cases hg : 0 ≤ x ∧ x < y
      · have t0 : decide (x < 0) = false := by rw [decide_eq_false_iff_not]; omega
        have t1 : decide (y ≤ x) = false := by rw [decide_eq_false_iff_not]; omega
        have k2 : IntKind.i64.wrap ((k : Int) + 2) = (k : Int) + 2 := IntWalk.i64_in _ (by omega)
        have I2 : Hid (validB zs = validB (zs.drop (k + 2))) := Lib.hid (by rw [hI.out, V2.out, decide_eq_true hg.1, decide_eq_true hg.2]; rfl)
        clear hg V2 hI
        go_wp2_with fail
        go_quiet (fail)
        go_wp2_with fail
        have b1 := below_drewN (Below.refl w1.heap.size w1) nq
        go_roundg (n - (k + 2))
        case measure => have := HL.out; omega
        case rel =>
          go_light
          exact ⟨k + 2, rfl, by have := HL.out; omega, by go_num, I2, Lib.hid (hB.out.trans (b1.mono hB.out.size))⟩
      · have F : Hid (validB zs = false) := Lib.hid (by
          rw [hI.out, V2.out, show (decide (0 ≤ x) && decide (x < y)) = false by simp; omega]; rfl)
        have bb := fun m => below_drewN (Below.refl w1.heap.size w1) m
        by_cases h0 : x < 0
        · have t0 : decide (x < 0) = true := decide_eq_true h0
          clear hg V2 hI h0
          go_wp2_with fail
          go_quiet (fail)
          go_wp2_with fail
          go_ret
          exact ⟨by rw [F.out]; rfl, hB.out.trans ((bb nq).mono hB.out.size)⟩
        · have t0 : decide (x < 0) = false := decide_eq_false h0
          have t1 : decide (y ≤ x) = true := by rw [decide_eq_true_iff]; omega
          clear hg V2 hI h0
          go_wp2_with fail
          go_quiet (fail)
          go_wp2_with fail
          go_ret
          exact ⟨by rw [F.out]; rfl, hB.out.trans ((bb nq).mono hB.out.size)⟩
    · have d0 : decide ((k : Int) + 1 < (n : Int)) = false := by rw [decide_eq_false_iff_not]; omega
      have d1 : decide (k + 1 < n) = false := by rw [decide_eq_false_iff_not]; omega
      have F : Hid (validB zs = true) := Lib.hid (by rw [hI.out, validB_end (by rw [HN.out]; omega)])
      clear hI hlt
      go_wp2_with fail
      go_ret
      exact ⟨by rw [F.out]; rfl, hB.out⟩
/-- the cells of the bounds -/
def bnds (a b c d : Int) : List Int := [a, 16, b, 512, c, 4, d, 65537]
theorem bnds_ok (a : Ak) : validB (bnds a.f a.d a.s a.u) = okA a := by
  simp [bnds, validB, okA, Bool.and_assoc]
theorem ak_cell {w : World} {B : Nat} {T : TypeId} {a : Ak} (h : RowV w B T 38 (akC a)) {i : Nat} (hi : i < 38) (h2 : ¬ (4 ≤ i ∧ i < 36)) : w.cell? ⟨B, i, none⟩ = some (.int .i64 (a.at i)) := by
  rw [h.cell hi, akC, if_neg h2]
/-- new integers -/
theorem ints_new (w : World) (T : TypeId) (zs : List Int) (n : Nat) (hn : zs.length = n) (h0 : 0 < n) (h1 : n ≤ 1000) : IntsS (w.alloc (.cells (rowF n fun i => .int .i64 (zs.getD i 0)) T)) (.slice (some ⟨w.heap.size, 0, none⟩) n n) zs := by
  have h := RowV.new w T n (fun i => .int .i64 (zs.getD i 0))
  refine .inr ⟨w.heap.size, 0, n, by rw [hn], by omega, by omega, ⟨by omega, by omega⟩, h.lt, fun i hi j hj => ?_⟩
  obtain rfl : j = 0 := by omega
  rw [show 0 + 1 * i + 0 = i by omega]
  exact h.cell (by omega)
set_option maxRecDepth 100000 in
set_option maxHeartbeats 4000000 in
theorem aformed_any (a : Ak) (w : World) :
    Calls Tryd.prog 24 #[.agg (rowF 38 (akC a))] w fun e w' => e = .returned (.bool (okA a)) ∧ Below w.heap.size w w' := by
  have V : Hid (∀ v W, IntsS W v (bnds a.f a.d a.s a.u) → Calls Tryd.prog 46 #[v] W fun e w' => e = .returned (.bool (okA a)) ∧ Below W.heap.size W w') := Lib.hid (fun v W h => by have := avalid_any v _ W h; rwa [bnds_ok] at this)
  go_enter Tryd.func24, Tryd.ntmps24
  have B0 := Lib.hid (Below.refl w.heap.size w)
  go_upto_region 1 with fail
  obtain ⟨w1, hw1⟩ : ∃ y, w.alloc (.cells (rowF 38 (akC a)) 27) = y := ⟨_, rfl⟩
  have b1 : Below w.heap.size w w1 := by rw [← hw1]; exact (Below.refl _ _).alloc (Nat.le_refl _) _
  have A1 : Hid (RowV w1 w.heap.size 27 38 (akC a)) := Lib.hid (by rw [← hw1]; exact RowV.new w _ 38 (akC a))
  have z1 : w.heap.size + 1 = w1.heap.size := by rw [← hw1]; exact (Array.size_push _).symm
  rw [hw1]
  (try rw [z1])
  have B1 := Lib.hid (B0.out.trans (b1.mono B0.out.size))
  clear b1 hw1 z1 B0
  have x0 : _ = some (Value.int .i64 a.f) := ak_cell A1.out (i := 0) (by decide) (by decide)
  have x1 : _ = some (Value.int .i64 a.d) := ak_cell A1.out (i := 1) (by decide) (by decide)
  have x2 : _ = some (Value.int .i64 a.s) := ak_cell A1.out (i := 2) (by decide) (by decide)
  have x3 : _ = some (Value.int .i64 a.u) := ak_cell A1.out (i := 3) (by decide) (by decide)
  go_wp2_with fail
  clear x0 x1 x2 x3
  have I2 := Lib.hid (ints_new w1 3 (bnds a.f a.d a.s a.u) 8 rfl (by decide) (by decide))
  change Calls _ _ #[.slice (some ⟨w1.heap.size, 0, none⟩) 8 8] (w1.alloc (.cells (rowF 8 fun i => .int .i64 ((bnds a.f a.d a.s a.u).getD i 0)) 3)) _
  have b2 := (Below.refl _ w1).alloc (Nat.le_refl _) (.cells (rowF 8 fun i => .int .i64 ((bnds a.f a.d a.s a.u).getD i 0)) 3)
  refine (V.out _ _ I2.out).mono ?_
  rintro e w3 ⟨rfl, b3⟩
  have B3 := Lib.hid (B1.out.trans ((b2.trans (b3.mono b2.size)).mono B1.out.size))
  clear b2 b3 I2
  go_wp2_with fail
  go_ret
  exact ⟨rfl, B3.out⟩
end Go.Proofs.YtbjbgneejdjniaaDoor
