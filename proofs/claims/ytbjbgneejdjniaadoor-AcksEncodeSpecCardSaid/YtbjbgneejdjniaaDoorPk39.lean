/- Package codec: the reader's values. Package codec: Decode. Package codec: Decode. -/
import Derived.Test.YtbjbgneejdjniaaDoorPk26
import Derived.Laws.BytesString
import Derived.Laws.IdiomStrings
import Derived.Lib.BufferRead
import Derived.Defers
import Derived.Recover
set_option linter.unusedVariables false
set_option linter.unusedSimpArgs false
namespace Go.Proofs.YtbjbgneejdjniaaDoor
open Go.RowKit Cod
/-- no cell of the block is a byte -/
def NoByte (w : World) (B : Nat) : Prop := ∀ o x, w.cell? ⟨B, o, none⟩ ≠ some (vB x)
theorem NoByte.of_row {w : World} {B n : Nat} {T : TypeId} {g : Nat → Value} (h : RowV w B T n g) (hg : ∀ i, i < n → ∀ x, g i ≠ vB x) : NoByte w B := by
  intro o x e
  by_cases ho : o < n
  · rw [h.cell ho] at e; exact hg o ho x (Option.some.inj e)
  · have : w.cell? ⟨B, o, none⟩ = none := by
      simp [World.cell?, show w.heap[B]? = _ from h, rowF]; omega
    rw [this] at e; cases e
theorem NoByte.bytes {w w' : World} {B : Nat} (h : NoByte w B) {u : Value} {m : List UInt8} (hu : BytesAt w u m) (ho : OnlyB B w w') : BytesAt w' u m := by
  rcases hu with hu | ⟨b, off, cap, e1, e2, e3, e4, e5, e6⟩
  · exact .inl hu
  · have hne : b ≠ B := fun e => by subst e; exact h _ _ (e6 0 e3)
    exact .inr ⟨b, off, cap, e1, e2, e3, e4, Nat.lt_of_lt_of_le e5 ho.size, fun j hj => (ho.cell (p := ⟨b, off + j, none⟩) e5 hne).trans (e6 j hj)⟩
theorem valC_no {k n : Int} {s : ByteArray} {a : Option Addr} {m c : Nat} : ∀ i, i < 4 → ∀ x, valC k n s (.slice a m c) i ≠ vB x := by
  intro i hi x
  match i, hi with
  | 0, _ => intro e; cases e
  | 1, _ => intro e; cases e
  | 2, _ => intro e; cases e
  | 3, _ => intro e; cases e
theorem RdAt.noval {w w' : World} {rb B : Nat} {v : Value} {l : List UInt8} (h : RdAt w rb v l) {T : TypeId} {k n : Int} {s : ByteArray} {a : Option Addr} {m c : Nat} (hr : RowV w B T 4 (valC k n s (.slice a m c))) (hne : rb ≠ B) (ho : OnlyB B w w') : RdAt w' rb v l :=
  ⟨ho.row hne h.1, (NoByte.of_row hr valC_no).bytes h.2 ho⟩
theorem RdAt.below {w w' : World} {rb : Nat} {v : Value} {l : List UInt8} (h : RdAt w rb v l) (hb : Below w.heap.size w w') : RdAt w' rb v l := ⟨h.1.below hb, h.2.below hb⟩
theorem run_text {w : World} {v : Value} {l : List UInt8} (h : BytesAt w v l) : (convert 28 9 v).run Tryd.prog w = .ok (.string ⟨l.toArray⟩) w := by
  rcases h with ⟨⟨a, c, rfl, hc⟩, rfl⟩ | ⟨b, off, cap, rfl, e2, e3, e4, e5, e6⟩
  · cases a with
    | none => exact Lib.run_convert_nil_bytes w 28 9 5 c Tryd.underlying28 Tryd.underlying5 Tryd.underlying9
    | some a => exact run_convert_bytes_back w 28 9 5 a c [] Tryd.underlying28 Tryd.underlying5 Tryd.underlying9 (fun j hj => absurd hj (by simp))
  · refine run_convert_bytes_back w 28 9 5 ⟨b, off, none⟩ cap l Tryd.underlying28 Tryd.underlying5 Tryd.underlying9 (fun j hj => ?_)
    rw [Addr.add_mid, e6 j hj]
    simp [List.getD_eq_getElem?_getD, List.getElem?_eq_getElem hj]
/-- what reading a value leaves -/
def ValPost (rb : Nat) (v : Value) (l : List UInt8) (rr : Nat) (w : World) (e : Ending) (w' : World) : Prop :=
  (match valF rr l with
   | some (t, r) => ∃ u v', e = .returned u ∧ CodS (fun b => w.heap.size ≤ b) w' u t ∧ RdAt w' rb v' r ∧ v'.ownBlock = v.ownBlock
   | none => e = (Ending.panicked [{ v := .iface 30 (.int .i64 10), recovered := false }])) ∧ OnlyB rb w w'
theorem ValPost.no {rb : Nat} {v : Value} {l : List UInt8} {rr : Nat} {w w' : World} (h : valF rr l = none) (ho : OnlyB rb w w') : ValPost rb v l rr w (Ending.panicked [{ v := .iface 30 (.int .i64 10), recovered := false }]) w' := by
  unfold ValPost; rw [h]; exact ⟨rfl, ho⟩
theorem ValPost.yes {rb : Nat} {v : Value} {l r : List UInt8} {rr : Nat} {w w' : World} {t : Tv} {u v' : Value} (h : valF rr l = some (t, r)) (hu : CodS (fun b => w.heap.size ≤ b) w' u t) (hr : RdAt w' rb v' r) (ho : OnlyB rb w w') (hb : v'.ownBlock = v.ownBlock) : ValPost rb v l rr w (.returned u) w' := by
  unfold ValPost; rw [h]; exact ⟨⟨u, v', rfl, hu, hr, hb⟩, ho⟩
theorem OnlyB.new {rb B : Nat} {w w1 w' : World} (h : OnlyB rb w w1) (hB : w.heap.size ≤ B) (k : OnlyB B w1 w') : OnlyB rb w w' :=
  ⟨k.os.trans h.os, k.tape.trans h.tape, k.output.trans h.output, Nat.le_trans h.size k.size, fun i hi hn => (k.block i (Nat.lt_of_lt_of_le hi h.size) (by omega)).trans (h.block i hi hn)⟩
theorem rd_app {w w' : World} {rb : Nat} {v : Value} {l : List UInt8} (h : RdAt w rb v l) {sl v' : Value} (s : AppStep w sl w' v') (hne : sl.ownBlock ≠ some rb) (hb : ∀ k, v.ownBlock = some k → sl.ownBlock ≠ some k) : RdAt w' rb v l := by
  refine ⟨s.row h.1 hne, ?_⟩
  rcases h.2 with hu | ⟨b, off, cap, e1, e2, e3, e4, e5, e6⟩
  · exact .inl hu
  · have hb' : sl.ownBlock ≠ some b := hb b (by rw [e1]; rfl)
    exact .inr ⟨b, off, cap, e1, e2, e3, e4, Nat.lt_of_lt_of_le e5 s.1.size, fun j hj => (World.cell?_of_block (w := w) (w' := w') (a := ⟨b, off + j, none⟩) (s.block e5 hb')).trans (e6 j hj)⟩
theorem own_lt {w : World} {v : Value} {c : UInt8} {r : List UInt8} (h : BytesAt w v (c :: r)) : ∀ k, v.ownBlock = some k → k < w.heap.size := by
  rcases h with ⟨_, h⟩ | ⟨b, off, cap, e1, e2, e3, e4, e5, e6⟩
  · cases h
  · intro k hk; rw [e1] at hk; obtain rfl := Option.some.inj hk; exact e5
theorem only_app {w0 w w' : World} {rb : Nat} {sl v' : Value} (h : OnlyB rb w0 w) (s : AppStep w sl w' v') (hn : ∀ k, sl.ownBlock = some k → w0.heap.size ≤ k) : OnlyB rb w0 w' :=
  ⟨s.1.os.trans h.os, s.1.tape.trans h.tape, s.1.output.trans h.output, Nat.le_trans h.size s.1.size, fun k hk hne => (s.block (Nat.lt_of_lt_of_le hk h.size) (fun e => by have := hn k e; omega)).trans (h.block k hk hne)⟩
theorem sl_slice {w : World} {base : Nat} {v : Value} {ts : List Tv} (h : OwnV w base v ts) : ∃ (a : Option Addr) (c : Nat), v = .slice a ts.length c := h.slice
theorem CodS.leaf (S : Nat → Prop) (w : World) {k n : Int} {s : ByteArray} (hk : i64B k) (hn : i64B n) (hs : (s.size : Int) ≤ 140737488351232) : CodS S w (.agg (rowF 4 (valC k n s (.slice none 0 0)))) (.mk k n s []) :=
  .mk k n s (.slice none 0 0) [] (fun _ _ => .int .i64 0) hk hn hs (.inl ⟨⟨none, 0, rfl, fun _ => rfl⟩, rfl⟩) (fun i hi => absurd hi (by simp))
theorem valF_1 (rr : Nat) (b : List UInt8) : valF rr (1 :: b) = (numF 0 b).map fun x => (.mk 1 (unzig x.1) ByteArray.empty [], x.2) := by
  unfold valF; rw [if_pos rfl]
theorem valF_2 (rr : Nat) (b : List UInt8) : valF rr (2 :: b) = (match numF 0 b with
      | none => none
      | some (n, b') => if n ≤ b'.length then some (.mk 2 0 ⟨(b'.take n).toArray⟩ [], b'.drop n) else none) := by
  unfold valF; rw [if_neg (by decide), if_pos rfl]; cases numF 0 b <;> rfl
theorem valF_30 (b : List UInt8) : valF 0 (3 :: b) = none := by
  unfold valF; rw [if_neg (by decide), if_neg (by decide), if_pos rfl]
theorem valF_3 (rr : Nat) (b : List UInt8) : valF (rr + 1) (3 :: b) = (match numF 0 b with
      | none => none
      | some (n, b') => if n ≤ b'.length then (repF (valF rr) n b').map fun x => (.mk 3 0 ByteArray.empty x.1, x.2) else none) := by
  rw [valF]; rw [if_neg (by decide), if_neg (by decide), if_pos rfl]; cases numF 0 b <;> rfl
theorem valF_no (rr : Nat) {c : UInt8} (b : List UInt8) (h1 : c ≠ 1) (h2 : c ≠ 2) (h3 : c ≠ 3) : valF rr (c :: b) = none := by
  unfold valF; rw [if_neg h1, if_neg h2, if_neg h3]
theorem V_set {w : World} {B : Nat} {T : TypeId} {f g : Nat → Value} (h : RowV w B T 4 f) (j : Nat) (u : Value) (he : ∀ i, i < 4 → (if i = j then u else f i) = g i) : RowV (w.setCell ⟨B, j, none⟩ u) B T 4 g := (h.set j u).congr he
/-- i of n values read -/
def RepI (f : List UInt8 → Option (Tv × List UInt8)) (n : Nat) (r0 : List UInt8) (i : Nat) (ts : List Tv) (rest : List UInt8) : Prop :=
  ts.length = i ∧ repF f n r0 = (repF f (n - i) rest).map (fun x => (ts ++ x.1, x.2)) ∧ rest.length ≤ r0.length
theorem RepI.start (f : List UInt8 → Option (Tv × List UInt8)) (n : Nat) (r0 : List UInt8) : RepI f n r0 0 [] r0 := ⟨rfl, by rw [Nat.sub_zero]; cases repF f n r0 <;> simp, Nat.le_refl _⟩
theorem RepI.none {f : List UInt8 → Option (Tv × List UInt8)} {n : Nat} {r0 : List UInt8} {i : Nat} {ts : List Tv} {rest : List UInt8} (h : RepI f n r0 i ts rest) (hi : i < n) (hf : f rest = none) : repF f n r0 = none := by
  rw [h.2.1, show n - i = (n - i - 1) + 1 by omega, repF, hf]; rfl
theorem RepI.step {f : List UInt8 → Option (Tv × List UInt8)} {n : Nat} {r0 : List UInt8} {i : Nat} {ts : List Tv} {rest : List UInt8} (h : RepI f n r0 i ts rest) (hi : i < n) {t : Tv} {rest' : List UInt8} (hf : f rest = some (t, rest')) (hl : rest'.length ≤ rest.length) : RepI f n r0 (i + 1) (ts ++ [t]) rest' := by
  refine ⟨by rw [List.length_append, h.1]; rfl, ?_, Nat.le_trans hl h.2.2⟩
  rw [h.2.1, show n - i = (n - (i + 1)) + 1 by omega, repF, hf]
  show Option.map _ (Option.map _ _) = _
  rw [Option.map_map]
  congr 1
  funext x
  simp
theorem RepI.done {f : List UInt8 → Option (Tv × List UInt8)} {n : Nat} {r0 : List UInt8} {ts : List Tv} {rest : List UInt8} (h : RepI f n r0 n ts rest) : repF f n r0 = some (ts, rest) := by
  rw [h.2.1, Nat.sub_self, repF]; simp
theorem valF_len (rr : Nat) {b b' : List UInt8} {t : Tv} (h : valF rr b = some (t, b')) : b'.length ≤ b.length := by
  have := (valF_enc rr b t b' h).2.2
  rw [this, List.length_append]; omega
theorem valC_one (k n : Int) (s : ByteArray) (x : Value) (hx : x.oneCell' = true := by rfl) : ∀ j, j < 4 → (valC k n s x j).oneCell' = true := by
  intro j hj
  match j, hj with
  | 0, _ => rfl
  | 1, _ => rfl
  | 2, _ => rfl
  | 3, _ => exact hx
set_option maxRecDepth 100000 in
set_option maxHeartbeats 16000000 in
theorem value_rd : ∀ (rr : Nat), rr ≤ 16 → ∀ (rb : Nat) (v : Value) (l : List UInt8) (w : World), RdAt w rb v l → l.length ≤ 1000000 →
    Calls Tryd.prog 51 #[.pointer (some ⟨rb, 0, none⟩), .int .i64 (16 - (rr : Int))] w (ValPost rb v l rr w) := by
  intro rr
  induction rr using Nat.strongRecOn with
  | ind rr ih =>
  intro hrr rb v l w h hlen
  have IH := Lib.hid ih
  have HRR := Lib.hid hrr
  have HRB := Lib.hid h.1.lt
  have HL0 := Lib.hid h.2
  have B1 := (Below.refl _ w).alloc (Nat.le_refl _) (.cells (rowF 4 zeroC) 51)
  obtain ⟨w1, hw1⟩ : ∃ y, w.alloc (.cells (rowF 4 zeroC) 51) = y := ⟨_, rfl⟩
  have V1 := RowV.new w 51 4 zeroC
  rw [hw1] at B1 V1
  have R1 := Lib.hid (h.below B1)
  have O1 := Lib.hid (OnlyB.of_below (B := rb) B1)
  have VV1 := Lib.hid V1
  have HLEN := Lib.hid hlen
  have z0 : (0 : Int) ≤ 16 - (rr : Int) := by omega
  have z1 : (16 : Int) - (rr : Int) ≤ 16 := by omega
  obtain ⟨dp, hdp⟩ : ∃ y : Int, 16 - (rr : Int) = y := ⟨_, rfl⟩
  have HDP := Lib.hid hdp
  rw [hdp] at z0 z1 ⊢
  clear h hlen ih B1 V1 hdp hrr
  have hw1' : w.alloc (.cells #[.int .i64 0, .int .i64 0, .string ⟨#[]⟩, .slice none 0 0] 51) = w1 := hw1
  have HW1 := Lib.hid hw1'
  clear hw1 hw1'
  cases l with
  | nil =>
    have T := Lib.hid (take_no rb v [] 1 w1 R1.out (by decide))
    have F : Hid (valF rr [] = none) := Lib.hid (by cases rr <;> rfl)
    go_enter Tryd.func51, Tryd.ntmps51
    go_upto_region 1 with fail
    rw [HW1.out]
    go_wp2_with fail
    refine T.out.mono ?_
    rintro e w2 ⟨rfl, rfl⟩
    go_wp2_with fail
    exact ⟨rfl, ValPost.no F.out O1.out⟩
  | cons c r =>
    have VB := Lib.hid (own_lt HL0.out)
    have T := Lib.hid (take_ok rb v (c :: r) 1 w1 R1.out (by simp))
    go_enter Tryd.func51, Tryd.ntmps51
    go_upto_region 1 with fail
    rw [HW1.out]
    go_wp2_with fail
    refine T.out.mono ?_
    rintro e w2 ⟨u, v2, rfl, hu, hr2, ho2, hb2⟩
    have BO2 := Lib.hid hb2
    obtain ⟨bb, off, cap, rfl, hcap, hcell⟩ := byte_at hu
    have V2 := Lib.hid (ho2.row (show w.heap.size ≠ rb from fun e => by have := HRB.out; omega) VV1.out)
    have R2 : Hid (RdAt w2 rb v2 r) := Lib.hid hr2
    have O2 := Lib.hid (O1.out.trans ho2)
    clear hu hr2 ho2 hb2 T R1 VV1 O1
    obtain ⟨cn, hcn⟩ : ∃ z : Int, (c.toNat : Int) = z := ⟨_, rfl⟩
    have c0 : w2.cell? ⟨bb, off, none⟩ = some (.int .u8 cn) := by rw [← hcn]; exact hcell
    have HCN := Lib.hid hcn
    have c1 : 0 ≤ cn := by omega
    have c2 : cn ≤ 255 := by have := c.toNat_lt; omega
    have x0 : w2.cell? ⟨w.heap.size, 0, none⟩ = some (.int .i64 0) := V2.out.cell (i := 0) (by decide)
    have f0 : w2.frozen? ⟨w.heap.size, 0, none⟩ = false := V2.out.frozen 0
    clear hcell hcn
    go_upto_region 2 with fail
    clear c0 x0 f0
    have V3p := V_set (g := valC cn 0 ⟨#[]⟩ (.slice none 0 0)) V2.out 0 (.int .i64 cn) (by intro i hi; match i, hi with | 0, _ => rfl | 1, _ => rfl | 2, _ => rfl | 3, _ => rfl)
    have o3 := (OnlyB.refl w.heap.size w2).setCell (p := ⟨w.heap.size, 0, none⟩) (.inl rfl) (.int .i64 cn)
    have R3p := R2.out.noval V2.out (show rb ≠ w.heap.size from fun e => by have := HRB.out; omega) o3
    have O3p := O2.out.new (Nat.le_refl _) o3
    obtain ⟨w3, hw3⟩ : ∃ y, w2.setCell ⟨w.heap.size, 0, none⟩ (.int .i64 cn) = y := ⟨_, rfl⟩
    rw [hw3] at V3p R3p O3p ⊢
    have V3 := Lib.hid V3p
    have R3 := Lib.hid R3p
    have O3 := Lib.hid O3p
    clear V3p R3p O3p o3 hw3 V2 R2 O2
    have x0 : w3.cell? ⟨w.heap.size, 0, none⟩ = some (.int .i64 cn) := V3.out.cell (i := 0) (by decide)
    by_cases e1 : c = 1
    · subst e1
      obtain rfl : cn = 1 := HCN.out.symm
      have N := number_rd rb v2 r w3 R3.out
      unfold NumPost at N
      cases hnf : numF 0 r with
      | none =>
        rw [hnf] at N
        have NH := Lib.hid N
        have F : Hid (valF rr (1 :: r) = none) := Lib.hid (by rw [valF_1, hnf]; rfl)
        clear N hnf
        go_wp2_with fail
        refine NH.out.mono ?_
        rintro e w4 ⟨rfl, o4⟩
        have O4 := Lib.hid (O3.out.trans o4)
        clear o4
        go_wp2_with fail
        exact ⟨rfl, ValPost.no F.out O4.out⟩
      | some x =>
        obtain ⟨n, r'⟩ := x
        rw [hnf] at N
        have NH := Lib.hid N
        have F : Hid (valF rr (1 :: r) = some (.mk 1 (unzig n) ByteArray.empty [], r')) := Lib.hid (by rw [valF_1, hnf]; rfl)
        have NB := Lib.hid (unzig_bd (numF_lt hnf))
        have SG := Lib.hid (fun W => signed_any n (numF_lt hnf) W)
        clear N hnf
        go_wp2_with fail
        refine NH.out.mono ?_
        rintro e w4 ⟨⟨rfl, v4, r4, b4⟩, o4⟩
        have O4 := Lib.hid (O3.out.trans o4)
        have R4 := Lib.hid r4
        have BO4 := Lib.hid (b4.trans BO2.out)
        have V4 := Lib.hid (o4.row (show w.heap.size ≠ rb from fun e => by have := HRB.out; omega) V3.out)
        clear o4 r4 b4 O3 R3 V3 NH
        go_wp2_with fail
        refine (SG.out _).mono ?_
        rintro e w' ⟨rfl, rfl⟩
        obtain ⟨un, hun⟩ : ∃ y, unzig n = y := ⟨_, rfl⟩
        rw [hun] at NB F ⊢
        clear SG hun x0
        have x1 : w4.cell? ⟨w.heap.size, 1, none⟩ = some (.int .i64 0) := V4.out.cell (i := 1) (by decide)
        have f1 : w4.frozen? ⟨w.heap.size, 1, none⟩ = false := V4.out.frozen 1
        go_upto_region 14 with fail
        clear x1 f1
        have V5p := V_set (g := valC 1 un ⟨#[]⟩ (.slice none 0 0)) V4.out 1 (.int .i64 un) (by intro i hi; match i, hi with | 0, _ => rfl | 1, _ => rfl | 2, _ => rfl | 3, _ => rfl)
        have o5 := (OnlyB.refl w.heap.size w4).setCell (p := ⟨w.heap.size, 1, none⟩) (.inl rfl) (.int .i64 un)
        have R5p := R4.out.noval V4.out (show rb ≠ w.heap.size from fun e => by have := HRB.out; omega) o5
        have O5p := O4.out.new (Nat.le_refl _) o5
        obtain ⟨w5, hw5⟩ : ∃ y, w4.setCell ⟨w.heap.size, 1, none⟩ (.int .i64 un) = y := ⟨_, rfl⟩
        rw [hw5] at V5p R5p O5p ⊢
        have V5 := Lib.hid V5p
        have R5 := Lib.hid R5p
        have O5 := Lib.hid O5p
        clear V5p R5p O5p o5 hw5 V4 R4 O4
        go_wp2_with (first | ((with_reducible (show wpList _ _ _ (Oper.mk (some 49) _ _ _ _ _ :: _) _ _)); refine wpList_load_rowV rfl 51 (.tmp 4) rfl w.heap.size rfl 4 51 _ V5.out _ Tryd.underlying51 rfl (by kernel_rfl) ?_) | ((with_reducible (show wpList _ _ _ (Oper.mk none _ _ _ _ _ :: _) _ _)); refine wpList_store_rowV (o := ⟨none, .store 51 (.tmp 4) (.tmp 49), _, _, _, _⟩) rfl 51 (.tmp 4) (.tmp 49) rfl w.heap.size rfl 4 51 _ (valC 1 un ⟨#[]⟩ (.slice none 0 0)) rfl V5.out (by kernel_rfl) (valC_one _ _ _ _) ?_; intro wz Vz oz))
        refine bodyPost_ret (v := .agg (rowF 4 (valC 1 un ⟨#[]⟩ (.slice none 0 0)))) (by exact results_rowV (fn := Tryd.f51) (p := 4) (ty := 51) rfl _ _ w.heap.size 4 51 (valC 1 un ⟨#[]⟩ (.slice none 0 0)) _ rfl Vz.out Tryd.underlying51 rfl (by kernel_rfl)) rfl ?_
        exact ValPost.yes F.out (CodS.leaf _ _ ⟨by decide, by decide⟩ NB.out (by decide)) (R5.out.noval V5.out (show rb ≠ w.heap.size from fun e => by have := HRB.out; omega) oz.out) (O5.out.new (Nat.le_refl _) oz.out) BO4.out
    have j1 : (cn == 1) = false := by rw [beq_eq_false_iff_ne]; intro e; exact e1 (UInt8.toNat_inj.1 (by have := HCN.out; show c.toNat = 1; omega))
    by_cases e2 : c = 2
    · subst e2
      obtain rfl : cn = 2 := HCN.out.symm
      clear j1 e1
      have N := length_rd rb v2 r w3 R3.out
      unfold LenPost at N
      cases hnf : numF 0 r with
      | none =>
        rw [hnf] at N
        have NH := Lib.hid N
        have F : Hid (valF rr (2 :: r) = none) := Lib.hid (by rw [valF_2, hnf])
        clear N hnf
        go_wp2_with fail
        refine NH.out.mono ?_
        rintro e w4 ⟨rfl, o4⟩
        have O4 := Lib.hid (O3.out.trans o4)
        clear o4
        go_wp2_with fail
        exact ⟨rfl, ValPost.no F.out O4.out⟩
      | some x =>
        obtain ⟨n, r'⟩ := x
        rw [hnf] at N
        have N' : Calls Tryd.prog 77 #[.pointer (some ⟨rb, 0, none⟩)] w3 (fun e w' => (if n ≤ r'.length then e = .returned (.int .i64 (n : Int)) ∧ ∃ v', RdAt w' rb v' r' ∧ v'.ownBlock = v2.ownBlock else e = (Ending.panicked [{ v := .iface 30 (.int .i64 10), recovered := false }])) ∧ OnlyB rb w3 w') := N
        have FF : valF rr (2 :: r) = if n ≤ r'.length then some (.mk 2 0 ⟨(r'.take n).toArray⟩ [], r'.drop n) else none := by rw [valF_2, hnf]
        have RL := Lib.hid (numF_len hnf)
        clear N hnf
        by_cases hn : n ≤ r'.length
        · rw [if_pos hn] at FF
          simp only [if_pos hn] at N'
          have NH := Lib.hid N'
          have F := Lib.hid FF
          have HN := Lib.hid hn
          clear N' FF hn
          go_wp2_with fail
          refine NH.out.mono ?_
          rintro e w4 ⟨⟨rfl, v4, r4, b4⟩, o4⟩
          have O4 := Lib.hid (O3.out.trans o4)
          have R4 := Lib.hid r4
          have BO4 := Lib.hid (b4.trans BO2.out)
          have V4 := Lib.hid (o4.row (show w.heap.size ≠ rb from fun e => by have := HRB.out; omega) V3.out)
          have T := Lib.hid (take_ok rb v4 r' n w4 r4 HN.out)
          clear o4 r4 b4 O3 R3 V3 NH
          go_wp2_with fail
          refine T.out.mono ?_
          rintro e w5 ⟨u, v5, rfl, hu, r5, o5, b5⟩
          have BO5 := Lib.hid (b5.trans BO4.out)
          have TX := Lib.hid (run_text hu)
          have O5 := Lib.hid (O4.out.trans o5)
          have R5 := Lib.hid r5
          have V5 := Lib.hid (o5.row (show w.heap.size ≠ rb from fun e => by have := HRB.out; omega) V4.out)
          have SL : Hid (((ByteArray.mk (r'.take n).toArray).size : Int) ≤ 140737488351232) := Lib.hid (by
            have h1 := HLEN.out; have h2 := RL.out
            have h3 : (ByteArray.mk (r'.take n).toArray).size ≤ r'.length := by simp [ByteArray.size]; exact Nat.min_le_right _ _
            simp only [List.length_cons] at h1
            omega)
          obtain ⟨tx, htx⟩ : ∃ y, ByteArray.mk (r'.take n).toArray = y := ⟨_, rfl⟩
          rw [htx] at TX SL F
          have tx0 := TX.out
          clear o5 r5 b5 O4 R4 V4 hu T htx x0 TX
          have x2 : w5.cell? ⟨w.heap.size, 2, none⟩ = some (.string ⟨#[]⟩) := V5.out.cell (i := 2) (by decide)
          have f2 : w5.frozen? ⟨w.heap.size, 2, none⟩ = false := V5.out.frozen 2
          go_upto_region 14 with fail
          clear x2 f2 tx0
          have V6p := V_set (g := valC 2 0 tx (.slice none 0 0)) V5.out 2 (.string tx) (by intro i hi; match i, hi with | 0, _ => rfl | 1, _ => rfl | 2, _ => rfl | 3, _ => rfl)
          have o6 := (OnlyB.refl w.heap.size w5).setCell (p := ⟨w.heap.size, 2, none⟩) (.inl rfl) (.string tx)
          have R6p := R5.out.noval V5.out (show rb ≠ w.heap.size from fun e => by have := HRB.out; omega) o6
          have O6p := O5.out.new (Nat.le_refl _) o6
          obtain ⟨w6, hw6⟩ : ∃ y, w5.setCell ⟨w.heap.size, 2, none⟩ (.string tx) = y := ⟨_, rfl⟩
          rw [hw6] at V6p R6p O6p ⊢
          have V6 := Lib.hid V6p
          have R6 := Lib.hid R6p
          have O6 := Lib.hid O6p
          clear V6p R6p O6p o6 hw6 V5 R5 O5
          go_wp2_with (first | ((with_reducible (show wpList _ _ _ (Oper.mk (some 49) _ _ _ _ _ :: _) _ _)); refine wpList_load_rowV rfl 51 (.tmp 4) rfl w.heap.size rfl 4 51 _ V6.out _ Tryd.underlying51 rfl (by kernel_rfl) ?_) | ((with_reducible (show wpList _ _ _ (Oper.mk none _ _ _ _ _ :: _) _ _)); refine wpList_store_rowV (o := ⟨none, .store 51 (.tmp 4) (.tmp 49), _, _, _, _⟩) rfl 51 (.tmp 4) (.tmp 49) rfl w.heap.size rfl 4 51 _ (valC 2 0 tx (.slice none 0 0)) rfl V6.out (by kernel_rfl) (valC_one _ _ _ _) ?_; intro wz Vz oz))
          refine bodyPost_ret (v := .agg (rowF 4 (valC 2 0 tx (.slice none 0 0)))) (by exact results_rowV (fn := Tryd.f51) (p := 4) (ty := 51) rfl _ _ w.heap.size 4 51 (valC 2 0 tx (.slice none 0 0)) _ rfl Vz.out Tryd.underlying51 rfl (by kernel_rfl)) rfl ?_
          exact ValPost.yes F.out (CodS.leaf _ _ ⟨by decide, by decide⟩ ⟨by decide, by decide⟩ SL.out) (R6.out.noval V6.out (show rb ≠ w.heap.size from fun e => by have := HRB.out; omega) oz.out) (O6.out.new (Nat.le_refl _) oz.out) BO5.out
        · rw [if_neg hn] at FF
          simp only [if_neg hn] at N'
          have NH := Lib.hid N'
          have F := Lib.hid FF
          clear N' FF hn
          go_wp2_with fail
          refine NH.out.mono ?_
          rintro e w4 ⟨rfl, o4⟩
          have O4 := Lib.hid (O3.out.trans o4)
          clear o4
          go_wp2_with fail
          exact ⟨rfl, ValPost.no F.out O4.out⟩
    have j2 : (cn == 2) = false := by rw [beq_eq_false_iff_ne]; intro e; exact e2 (UInt8.toNat_inj.1 (by have := HCN.out; show c.toNat = 2; omega))
    by_cases e3 : c = 3
    · subst e3
      obtain rfl : cn = 3 := HCN.out.symm
      clear j1 e1 j2 e2
      cases rr with
      | zero =>
        obtain rfl : dp = 16 := HDP.out.symm
        have F := Lib.hid (valF_30 r)
        go_wp2_with fail
        refine (want_false _ _).mono ?_
        rintro e w4 ⟨rfl, rfl⟩
        go_wp2_with fail
        exact ⟨rfl, ValPost.no F.out O3.out⟩
      | succ rr =>
        have d0 : decide (dp < 16) = true := by rw [decide_eq_true_iff]; have := HDP.out; omega
        have E16 : Hid ((16 : Int) - (rr : Int) = dp + 1) := Lib.hid (by have := HDP.out; omega)
        have N := length_rd rb v2 r w3 R3.out
        unfold LenPost at N
        go_wp2_with fail
        refine (want_true _ _).mono ?_
        rintro e w' ⟨rfl, rfl⟩
        cases hnf : numF 0 r with
        | none =>
          rw [hnf] at N
          have NH := Lib.hid N
          have F : Hid (valF (rr + 1) (3 :: r) = none) := Lib.hid (by rw [valF_3, hnf])
          clear N hnf
          go_wp2_with fail
          refine NH.out.mono ?_
          rintro e w4 ⟨rfl, o4⟩
          have O4 := Lib.hid (O3.out.trans o4)
          clear o4
          go_wp2_with fail
          exact ⟨rfl, ValPost.no F.out O4.out⟩
        | some x =>
          obtain ⟨n, r'⟩ := x
          rw [hnf] at N
          have N' : Calls Tryd.prog 77 #[.pointer (some ⟨rb, 0, none⟩)] w3 (fun e w' => (if n ≤ r'.length then e = .returned (.int .i64 (n : Int)) ∧ ∃ v', RdAt w' rb v' r' ∧ v'.ownBlock = v2.ownBlock else e = (Ending.panicked [{ v := .iface 30 (.int .i64 10), recovered := false }])) ∧ OnlyB rb w3 w') := N
          have FF : valF (rr + 1) (3 :: r) = if n ≤ r'.length then (repF (valF rr) n r').map (fun x => (.mk 3 0 ByteArray.empty x.1, x.2)) else none := by rw [valF_3, hnf]
          have RL := Lib.hid (numF_len hnf)
          clear N hnf
          by_cases hn : n ≤ r'.length
          · rw [if_pos hn] at FF
            simp only [if_pos hn] at N'
            have NH := Lib.hid N'
            have F := Lib.hid FF
            have HN := Lib.hid hn
            have NB : Hid (n ≤ 1000000) := Lib.hid (by have h1 := HLEN.out; have h2 := RL.out; simp only [List.length_cons] at h1; omega)
            clear N' FF hn
            go_wp2_with fail
            refine NH.out.mono ?_
            rintro e w4 ⟨⟨rfl, v4, r4, b4⟩, o4⟩
            have O4 := Lib.hid (O3.out.trans o4)
            have R4 := Lib.hid r4
            have BO4 := Lib.hid (b4.trans BO2.out)
            have V4 := Lib.hid (o4.row (show w.heap.size ≠ rb from fun e => by have := HRB.out; omega) V3.out)
            clear o4 r4 b4 O3 R3 V3 NH x0
            go_upto_region 11 with fail
            have zn : (n : Int) ≤ 1000000 := by have := NB.out; omega
            go_loopg [37] n (fun g s37 wx => ∃ (i : Nat) (ts : List Tv) (v' sl : Value) (rest : List UInt8), i + g = n ∧ s37 = .int .i64 (i : Int) ∧ Hid (RepI (valF rr) n r' i ts rest) ∧ Hid (OwnV wx w4.heap.size sl ts) ∧ Hid (RowV wx w.heap.size 51 4 (valC 3 0 ⟨#[]⟩ sl)) ∧ Hid (RdAt wx rb v' rest) ∧ Hid (OnlyB rb w wx) ∧ Hid (w4.heap.size ≤ wx.heap.size) ∧ Hid (v'.ownBlock = v.ownBlock))
            case atStart => exact ⟨0, [], v4, .slice none 0 0, r', by omega, rfl, Lib.hid (RepI.start _ _ _), Lib.hid (OwnV.nil _ _), V4, R4, O4, Lib.hid (Nat.le_refl _), BO4⟩
            case round =>
              obtain ⟨i, ts, v5, sl, rest, hi, rfl, hI, hL, hV, hR, hO, hS, hBO⟩ := hrel
              obtain ⟨w5, rfl⟩ : ∃ y, y = wr := ⟨_, rfl⟩
              have LT4 := Lib.hid V4.out.lt
              by_cases hlt : i < n
              · have q0 : decide ((i : Int) < (n : Int)) = true := by rw [decide_eq_true_iff]; omega
                have q1 : (0 : Int) ≤ (i : Int) := Int.natCast_nonneg i
                have HLT := Lib.hid hlt
                have k1 : IntKind.i64.wrap (dp + 1) = dp + 1 := IntWalk.i64_in _ (by omega)
                clear hlt
                go_upto_region 12 with fail
                refine Tc.wp_region_panics (Tc.Rl.stay (fun k => k = w.heap.size)) (fun c w' => c = [{ v := .iface 30 (.int .i64 10), recovered := false }] ∧ ValPost rb v (3 :: r) (rr + 1) w (.panicked c) w') ?_ 8 [] (.fl 0 (.fl 1 (.fl 2 (.fl 3 (.fl 4 (.one 5 (.one 6 (.one 7 .done)))))))) (by kernel_rfl) (by kernel_rfl) ?_
                · intro c a' w' hd hR0
                  obtain ⟨rfl, hR1⟩ := hR0
                  exact ⟨hd, hR1⟩
                intro w6 b6 e6
                have V6 := Lib.hid (hV.out.below b6)
                have L6 := Lib.hid (hL.out.only (rb := rb) b6.os b6.tape b6.output b6.size (fun b hb _ => b6.block b hb) (by have := HRB.out; have := LT4.out; omega))
                have R6 := Lib.hid (hR.out.below b6)
                have O6 := Lib.hid (hO.out.trans (OnlyB.of_below b6))
                have S6 := Lib.hid (Nat.le_trans hS.out b6.size)
                have IHC := IH.out rr (Nat.lt_succ_self rr) (by have := HRR.out; omega) rb v5 rest w6 R6.out (by
                  have h1 := HLEN.out; have h2 := RL.out; have h3 := hI.out.2.2; simp only [List.length_cons] at h1; omega)
                rw [E16.out] at IHC
                unfold ValPost at IHC
                clear b6 e6 hV hL hR hO hS
                refine Tc.plan_floats [0, 1, 2, 3, 4] [_, _, _, _, _] rfl ?_
                dsimp only [List.getElem_toArray, List.getElem_cons_succ, List.getElem_cons_zero]
                cases hvf : valF rr rest with
                | none =>
                  rw [hvf] at IHC
                  have IHH := Lib.hid IHC
                  have F2 : Hid (valF (rr + 1) (3 :: r) = none) := Lib.hid (by rw [F.out, RepI.none hI.out HLT.out hvf]; rfl)
                  clear IHC hvf
                  repeat (go_big_quiet_want; go_big_quiet_op; first | go_big_quiet_on | (refine ⟨_, fun _ _ => rfl, ?_⟩; go_big_quiet_on))
                  refine wpQuiet_load_cell rfl 49 (.tmp 39) rfl w.heap.size 3 rfl _ Tryd.underlying49 rfl sl (fun W hW => (stay_row (S := fun k => k = w.heap.size) V6.out rfl hW).cell (i := 3) (by decide)) ?_
                  simp only [Act.put, List.setIfInBounds_toArray, List.set_cons_succ, List.set_cons_zero]
                  repeat (go_big_quiet_want; go_big_quiet_op; first | go_big_quiet_on | (refine ⟨_, fun _ _ => rfl, ?_⟩; go_big_quiet_on))
                  refine wpQuiet_nil ?_
                  refine Tc.plan_panics 5 rfl (fun K hK hP => ?_)
                  go_wp2_with fail
                  refine IHH.out.mono ?_
                  rintro e w7 ⟨rfl, o7⟩
                  exact hP _ _ _ ⟨rfl, rfl, ValPost.no F2.out (O6.out.trans o7)⟩
                | some x =>
                  obtain ⟨t, rest'⟩ := x
                  rw [hvf] at IHC
                  have IHH := Lib.hid IHC
                  have I2 := Lib.hid (RepI.step hI.out HLT.out hvf (valF_len rr hvf))
                  have TL : Hid (ts.length ≤ 1000000) := Lib.hid (by have := hI.out.1; have := NB.out; have := HLT.out; omega)
                  clear IHC hvf
                  repeat (go_big_quiet_want; go_big_quiet_op; first | go_big_quiet_on | (refine ⟨_, fun _ _ => rfl, ?_⟩; go_big_quiet_on))
                  refine wpQuiet_load_cell rfl 49 (.tmp 39) rfl w.heap.size 3 rfl _ Tryd.underlying49 rfl sl (fun W hW => (stay_row (S := fun k => k = w.heap.size) V6.out rfl hW).cell (i := 3) (by decide)) ?_
                  simp only [Act.put, List.setIfInBounds_toArray, List.set_cons_succ, List.set_cons_zero]
                  repeat (go_big_quiet_want; go_big_quiet_op; first | go_big_quiet_on | (refine ⟨_, fun _ _ => rfl, ?_⟩; go_big_quiet_on))
                  refine wpQuiet_nil ?_
                  refine Tc.plan_one 5 rfl (fun K hK => ?_)
                  go_wp2_with fail
                  refine IHH.out.mono ?_
                  rintro e w7 ⟨⟨u, v7, rfl, hu, r7, b7⟩, o7⟩
                  have BO7 := Lib.hid (b7.trans hBO.out)
                  obtain ⟨uk, un, us, ua, um, uc, rfl⟩ := hu.agg
                  go_wp2_with fail
                  refine hK _ _ (fun k hk => by subst hk; exact o7.block _ V6.out.lt (fun e => by have := HRB.out; omega)) ?_
                  have V7 := Lib.hid (o7.row (show w.heap.size ≠ rb from fun e => by have := HRB.out; omega) V6.out)
                  have L7 := Lib.hid (L6.out.only (rb := rb) o7.os o7.tape o7.output o7.size o7.block (by have := HRB.out; have := LT4.out; omega))
                  have R7 := Lib.hid r7
                  have O7 := Lib.hid (O6.out.trans o7)
                  have S7 := Lib.hid (Nat.le_trans S6.out o7.size)
                  have U7 := Lib.hid hu
                  have Z7 := Lib.hid o7.size
                  clear hK K r7 o7 b7 hu V6 R6 O6 IHH hBO
                  refine Tc.plan_one 6 rfl (fun K hK => ?_)
                  go_wp2_with fail
                  have al := (Below.refl _ w7).alloc (Nat.le_refl _) (.cells (rowF 4 (valC uk un us (.slice ua um uc))) 51)
                  refine hK _ _ (stay_below al (fun k hk => by subst hk; exact V7.out.lt)) ?_
                  have G8 := RowV.new w7 51 4 (valC uk un us (.slice ua um uc))
                  have V8 := V7.out.below al
                  have L8 := L7.out.only (rb := rb) al.os al.tape al.output al.size (fun b hb _ => al.block b hb) (by have := HRB.out; have := LT4.out; omega)
                  have R8 := R7.out.below al
                  have O8 := O7.out.trans (OnlyB.of_below al)
                  have U8 := U7.out.keep (S' := fun b => w4.heap.size ≤ b ∧ sl.ownBlock ≠ some b) al.size (fun b hb hS => ⟨⟨Nat.le_trans S6.out hS, fun e => by have := (L6.out.lt b e).2; omega⟩, al.block b hb⟩)
                  have S8 := Nat.le_trans S7.out al.size
                  obtain ⟨w8, hw8⟩ : ∃ y, w7.alloc (.cells (rowF 4 (valC uk un us (.slice ua um uc))) 51) = y := ⟨_, rfl⟩
                  have hw8' : w7.alloc (.cells #[.int .i64 uk, .int .i64 un, .string us, .slice ua um uc] 51) = w8 := hw8
                  rw [hw8] at G8 V8 L8 R8 O8 U8 S8
                  rw [hw8']
                  have GH := Lib.hid G8
                  have V8H := Lib.hid V8
                  have L8H := Lib.hid L8
                  have R8H := Lib.hid R8
                  have O8H := Lib.hid O8
                  have U8H := Lib.hid U8
                  have S8H := Lib.hid S8
                  clear hK K al hw8 hw8' G8 V8 L8 R8 O8 U8 S8 V7 R7 O7 U7 L7 L6 S7
                  refine Tc.plan_one 7 rfl (fun K hK => ?_)
                  refine wpList_app_val rfl (.tmp 40) (.tmp 45) rfl w4.heap.size sl ts rfl L8H.out w7.heap.size 1 (valC uk un us (.slice ua um uc)) t rfl GH.out U8H.out TL.out S8H.out ?_
                  intro v9 w9 L9 s9
                  go_wp2_with fail
                  have NB4 : sl.ownBlock ≠ some w.heap.size := fun e => by have := (L8H.out.lt _ e).1; have := LT4.out; omega
                  have NRB : sl.ownBlock ≠ some rb := fun e => by have := (L8H.out.lt _ e).1; have := LT4.out; have := HRB.out; omega
                  refine hK _ _ (stay_app s9.out (fun k hk => by subst hk; exact ⟨V8H.out.lt, NB4⟩)) ?_
                  have V9 := Lib.hid (s9.out.row V8H.out NB4)
                  have R9 : Hid (RdAt w9 rb v7 rest') := Lib.hid (rd_app R8H.out s9.out NRB (fun k hk e => by rw [BO7.out] at hk; have := VB.out k hk; have := (L8H.out.lt k e).1; have := LT4.out; omega))
                  have O9 : Hid (OnlyB rb w w9) := Lib.hid (only_app O8H.out s9.out (fun k e => by have := (L8H.out.lt k e).1; have := LT4.out; omega))
                  have S9 := Lib.hid (Nat.le_trans S8H.out s9.out.1.size)
                  obtain ⟨a9, c9, rfl⟩ := L9.out.slice
                  obtain ⟨a8, c8, rfl⟩ := sl_slice L8H.out
                  clear hK K s9 L8H GH U8H V8H R8H O8H S8H NB4 NRB
                  refine Tc.plan_end (l := [_, _]) rfl (fun K hK => ?_)
                  have x3 : w9.cell? ⟨w.heap.size, 3, none⟩ = some (.slice a8 ts.length c8) := V9.out.cell (i := 3) (by decide)
                  have f3 : w9.frozen? ⟨w.heap.size, 3, none⟩ = false := V9.out.frozen 3
                  go_wp2_with fail
                  unfold Tc.withP
                  dsimp only
                  clear x3 f3
                  have L9p : Hid (OwnV w9 w4.heap.size (.slice a9 (ts.length + 1) c9) (ts ++ [t])) := by have h := L9; rwa [List.length_append, List.length_singleton] at h
                  have o10 := (OnlyB.refl w.heap.size w9).setCell (p := ⟨w.heap.size, 3, none⟩) (.inl rfl) (.slice a9 (ts.length + 1) c9)
                  have L10p := L9p.out.only (rb := w.heap.size) o10.os o10.tape o10.output o10.size o10.block LT4.out
                  have S10p := Nat.le_trans S9.out o10.size
                  have V10p := V_set (g := valC 3 0 ⟨#[]⟩ (.slice a9 (ts.length + 1) c9)) V9.out 3 (.slice a9 (ts.length + 1) c9) (by intro i hi; match i, hi with | 0, _ => rfl | 1, _ => rfl | 2, _ => rfl | 3, _ => rfl)
                  have R10p := R9.out.noval V9.out (show rb ≠ w.heap.size from fun e => by have := HRB.out; omega) o10
                  have O10p := O9.out.new (Nat.le_refl _) o10
                  obtain ⟨w10, hw10⟩ : ∃ y, w9.setCell ⟨w.heap.size, 3, none⟩ (.slice a9 (ts.length + 1) c9) = y := ⟨_, rfl⟩
                  rw [hw10] at L10p S10p V10p R10p O10p ⊢
                  have L10 := Lib.hid L10p
                  have S10 := Lib.hid S10p
                  have V10 := Lib.hid V10p
                  have R10 := Lib.hid R10p
                  have O10 := Lib.hid O10p
                  clear L10p S10p V10p R10p O10p o10 hw10 L9 L9p S9 V9 R9 O9
                  go_wp2_with fail
                  go_roundg (gk - 1)
                  case measure => omega
                  case rel =>
                    go_light
                    exact ⟨i + 1, ts ++ [t], v7, .slice a9 (ts.length + 1) c9, rest', by omega, by go_num, I2, L10, V10, R10, O10, S10, BO7⟩
              · obtain rfl : i = n := by omega
                have q0 : decide ((i : Int) < (i : Int)) = false := by rw [decide_eq_false_iff_not]; omega
                have F2 : Hid (valF (rr + 1) (3 :: r) = some (.mk 3 0 ByteArray.empty ts, rest)) := Lib.hid (by rw [F.out, hI.out.done]; rfl)
                obtain ⟨a8, c8, rfl⟩ := hL.out.slice
                have TL : Hid (ts.length ≤ 1000000) := Lib.hid (by have := hI.out.1; have := NB.out; omega)
                obtain ⟨cc, cs1, cs2⟩ := hL.out.read (by have := TL.out; omega) (S := fun b => w4.heap.size ≤ b) (fun b hb => hb)
                have CS : Hid (CodS (fun b => w4.heap.size ≤ b) w5 (.agg (rowF 4 (valC 3 0 ⟨#[]⟩ (.slice a8 ts.length c8)))) (.mk 3 0 ByteArray.empty ts)) := Lib.hid (CodS.mk 3 0 ByteArray.empty _ ts cc ⟨by decide, by decide⟩ ⟨by decide, by decide⟩ (by decide) cs1 cs2)
                have V5 := hV
                have R5 := hR
                have O5 := hO
                have BO5 := hBO
                clear cs1 cs2 hL hI hV hR hO hS hBO
                go_upto_region 14 with fail
                go_wp2_with (first | ((with_reducible (show wpList _ _ _ (Oper.mk (some 49) _ _ _ _ _ :: _) _ _)); refine wpList_load_rowV rfl 51 (.tmp 4) rfl w.heap.size rfl 4 51 _ V5.out _ Tryd.underlying51 rfl (by kernel_rfl) ?_) | ((with_reducible (show wpList _ _ _ (Oper.mk none _ _ _ _ _ :: _) _ _)); refine wpList_store_rowV (o := ⟨none, .store 51 (.tmp 4) (.tmp 49), _, _, _, _⟩) rfl 51 (.tmp 4) (.tmp 49) rfl w.heap.size rfl 4 51 _ (valC 3 0 ⟨#[]⟩ (.slice a8 ts.length c8)) rfl V5.out (by kernel_rfl) (valC_one _ _ _ _) ?_; intro wz Vz oz))
                refine bodyPost_ret (v := .agg (rowF 4 (valC 3 0 ⟨#[]⟩ (.slice a8 ts.length c8)))) (by exact results_rowV (fn := Tryd.f51) (p := 4) (ty := 51) rfl _ _ w.heap.size 4 51 (valC 3 0 ⟨#[]⟩ (.slice a8 ts.length c8)) _ rfl Vz.out Tryd.underlying51 rfl (by kernel_rfl)) rfl ?_
                exact ValPost.yes F2.out (CS.out.keep oz.out.size (fun b hb hS => ⟨Nat.le_trans (Nat.le_of_lt LT4.out) hS, oz.out.block b hb (fun e => by have := LT4.out; omega)⟩)) (R5.out.noval V5.out (show rb ≠ w.heap.size from fun e => by have := HRB.out; omega) oz.out) (O5.out.new (Nat.le_refl _) oz.out) BO5.out
          · rw [if_neg hn] at FF
            simp only [if_neg hn] at N'
            have NH := Lib.hid N'
            have F := Lib.hid FF
            clear N' FF hn
            go_wp2_with fail
            refine NH.out.mono ?_
            rintro e w4 ⟨rfl, o4⟩
            have O4 := Lib.hid (O3.out.trans o4)
            clear o4
            go_wp2_with fail
            exact ⟨rfl, ValPost.no F.out O4.out⟩
    · have j3 : (cn == 3) = false := by rw [beq_eq_false_iff_ne]; intro e; exact e3 (UInt8.toNat_inj.1 (by have := HCN.out; show c.toNat = 3; omega))
      have F := Lib.hid (valF_no rr r e1 e2 e3)
      clear e1 e2 e3
      go_wp2_with fail
      refine (want_false _ _).mono ?_
      rintro e w4 ⟨rfl, rfl⟩
      go_wp2_with fail
      exact ⟨rfl, ValPost.no F.out O3.out⟩
end Go.Proofs.YtbjbgneejdjniaaDoor

namespace Go.Proofs.YtbjbgneejdjniaaDoor
open Go.RowKit Cod
theorem fin_caught {vb eb : Nat} {w w2 w3 w4 : World} (B2 : Below w.heap.size w w2) (E2 : w2.heap.size = w.heap.size) (o3 : OnlyB vb w2 w3) (o4 : OnlyB eb w3 w4) :
    w.heap.size ≤ w4.heap.size ∧ w4.os = w.os ∧ w4.tape = w.tape ∧ w4.output = w.output ∧ ∀ k, k < w.heap.size → ¬k = vb → ¬k = eb → w4.heap[k]? = w.heap[k]? :=
  ⟨by have := o3.size; have := o4.size; omega, (o4.os.trans o3.os).trans B2.os, (o4.tape.trans o3.tape).trans B2.tape, (o4.output.trans o3.output).trans B2.output,
    fun k hk h1 h2 => ((o4.block k (by have := o3.size; omega) h2).trans (o3.block k (by omega) h1)).trans (B2.block k hk)⟩
set_option maxRecDepth 100000 in
set_option maxHeartbeats 4000000 in
theorem caught_panicking (vb eb : Nat) (f : Nat → Value) (x : Int) (older : List PanicEntry) (w : World) (hv : RowV w vb 51 4 f) (he : RowV w eb 30 1 (fun _ => .int .i64 x)) (hne : vb ≠ eb) :
    CallsD Tryd.prog 50 #[.pointer (some ⟨vb, 0, none⟩), .pointer (some ⟨eb, 0, none⟩)] (.panicking ({ v := .iface 30 (.int .i64 10), recovered := false } :: older)) w fun e u' w' =>
      e = .returned (.tuple #[]) ∧ u' = .panicking ({ v := .iface 30 (.int .i64 10), recovered := true } :: older) ∧ RowV w' vb 51 4 zeroC ∧ RowV w' eb 30 1 (fun _ => .int .i64 10) ∧ w.heap.size ≤ w'.heap.size ∧ w'.os = w.os ∧ w'.tape = w.tape ∧ w'.output = w.output ∧ ∀ k, k < w.heap.size → k ≠ vb → k ≠ eb → w'.heap[k]? = w.heap[k]? := by
  refine callsD_of_wpS Tryd.func50 rfl fun c₀ cs hu => ?_
  apply wpS_seq
  apply wpS_region
  simp [wpOpsS, go_sem, recoverD, hu, Tryd.ntmps50, Exit.thenS]
  refine wpS_of_wp ?_
  have hl : #[Value.pointer (some { block := vb, off := 0 }), Value.pointer (some { block := eb, off := 0 })] ++ ((Array.replicate 7 undef).setIfInBounds 1 (Value.iface 30 (Value.int IntKind.i64 10))).setIfInBounds 0 (Value.iface 30 (Value.int IntKind.i64 10)) = #[.pointer (some ⟨vb, 0, none⟩), .pointer (some ⟨eb, 0, none⟩), .iface 30 (.int .i64 10), .iface 30 (.int .i64 10), undef, undef, undef, undef, undef] := rfl
  rw [hl]
  clear hl
  have hta : ∀ W, (Instr.typeAssert (.iface 30 (.int .i64 10)) 20 30 false).run Tryd.prog W = .ok (.int .i64 10) W := fun _ => by kernel_rfl
  have HV := Lib.hid hv
  have HE := Lib.hid he
  have HN := Lib.hid hne
  have HU := Lib.hid hu
  clear hv he hne hu
  go_wp2_with fail
  refine Tc.wp_region_plan (Tc.Rl.stay (fun _ => False)) 5 [] (.fl 0 (.fl 1 (.two 2 3 (.one 3 (.one 4 .done)) (.one 2 (.one 4 .done))))) (by kernel_rfl) (by kernel_rfl) ?_
  intro w2 b2 e2
  have HV2 := HV.out.below b2
  have HE2 := HE.out.below b2
  clear HV HE
  have HV := Lib.hid HV2
  have HE := Lib.hid HE2
  have B2 := Lib.hid b2
  have E2 := Lib.hid e2
  clear HV2 HE2 b2 e2
  refine Tc.plan_floats [0, 1] [_, _] rfl ?_
  dsimp only [List.getElem_toArray, List.getElem_cons_succ, List.getElem_cons_zero]
  repeat (go_big_quiet_want; go_big_quiet_op; first | go_big_quiet_on | (refine ⟨_, fun _ _ => rfl, ?_⟩; go_big_quiet_on))
  refine wpQuiet_nil ?_
  refine Tc.plan_two 2 3 rfl rfl (fun K hK => ?_) (fun K hK => ?_)
  · skip
    go_wp2_with fail
    refine hK _ _ (fun k hk => hk.elim) ?_
    clear hK K
    refine Tc.plan_one 3 rfl (fun K hK => ?_)
    refine wpList_store_rowV (o := ⟨none, .store 51 (.tmp 0) (.tmp 6), _, _, _, _⟩) rfl 51 (.tmp 0) (.tmp 6) rfl vb rfl 4 51 _ zeroC rfl HV.out (by kernel_rfl) (valC_one _ _ _ _) ?_
    intro w3 V3 o3
    go_wp2_with fail
    refine hK _ _ (fun k hk => hk.elim) ?_
    have E3 := Lib.hid (o3.out.row (Ne.symm HN.out) HE.out)
    clear hK K
    refine Tc.plan_one 4 rfl (fun K hK => ?_)
    have x0 : w3.cell? ⟨eb, 0, none⟩ = some (.int .i64 x) := E3.out.cell (i := 0) (by decide)
    have f0 : w3.frozen? ⟨eb, 0, none⟩ = false := E3.out.frozen 0
    go_wp2_with fail
    refine hK _ _ (fun k hk => hk.elim) ?_
    clear hK K x0 f0
    refine Tc.plan_done (l := []) rfl (fun K hK => ?_)
    go_wp2_with fail
    have R4 := (E3.out.set 0 (.int .i64 10)).congr (g' := fun _ => .int .i64 10) (fun i hi => if_pos (by omega))
    have V4 := V3.out.other (a := ⟨eb, 0, none⟩) HN.out (.int .i64 10)
    have o4 := (OnlyB.refl eb w3).setCell (p := ⟨eb, 0, none⟩) (.inl rfl) (.int .i64 10)
    have B2 := B2.out
    have E2 := E2.out
    have HU := HU.out
    have FIN := fin_caught B2 E2 o3.out o4
    exact ⟨rfl, _, rfl, .tuple #[], by kernel_rfl, rfl, rfl, V4, R4, FIN⟩
  · skip
    refine wpList_store_rowV (o := ⟨none, .store 51 (.tmp 0) (.tmp 6), _, _, _, _⟩) rfl 51 (.tmp 0) (.tmp 6) rfl vb rfl 4 51 _ zeroC rfl HV.out (by kernel_rfl) (valC_one _ _ _ _) ?_
    intro w3 V3 o3
    go_wp2_with fail
    refine hK _ _ (fun k hk => hk.elim) ?_
    have E3 := Lib.hid (o3.out.row (Ne.symm HN.out) HE.out)
    clear hK K
    refine Tc.plan_one 2 rfl (fun K hK => ?_)
    go_wp2_with fail
    refine hK _ _ (fun k hk => hk.elim) ?_
    clear hK K
    refine Tc.plan_one 4 rfl (fun K hK => ?_)
    have x0 : w3.cell? ⟨eb, 0, none⟩ = some (.int .i64 x) := E3.out.cell (i := 0) (by decide)
    have f0 : w3.frozen? ⟨eb, 0, none⟩ = false := E3.out.frozen 0
    go_wp2_with fail
    refine hK _ _ (fun k hk => hk.elim) ?_
    clear hK K x0 f0
    refine Tc.plan_done (l := []) rfl (fun K hK => ?_)
    go_wp2_with fail
    have R4 := (E3.out.set 0 (.int .i64 10)).congr (g' := fun _ => .int .i64 10) (fun i hi => if_pos (by omega))
    have V4 := V3.out.other (a := ⟨eb, 0, none⟩) HN.out (.int .i64 10)
    have o4 := (OnlyB.refl eb w3).setCell (p := ⟨eb, 0, none⟩) (.inl rfl) (.int .i64 10)
    have B2 := B2.out
    have E2 := E2.out
    have HU := HU.out
    have FIN := fin_caught B2 E2 o3.out o4
    exact ⟨rfl, _, rfl, .tuple #[], by kernel_rfl, rfl, rfl, V4, R4, FIN⟩
theorem caught_idle (p q : Value) (w : World) :
    CallsD Tryd.prog 50 #[p, q] .returning w fun e u' w' => e = .returned (.tuple #[]) ∧ u' = .returning ∧ w' = w := by
  have hnil : ∀ w : World, (binOp BinOp.neq 20 .nilIface .nilIface).run Tryd.prog w = .ok (.bool false) w := fun _ => by kernel_rfl
  refine callsD_of_wpS Tryd.func50 rfl fun c₀ cs hu => ?_
  apply wpS_seq
  apply wpS_region
  simp [wpOpsS, go_sem, recoverD, hu, Tryd.ntmps50, Exit.thenS]
  have HU := Lib.hid hu
  clear hu
  refine wpS_of_wp ?_
  have hl : #[p, q] ++ ((Array.replicate 7 undef).setIfInBounds 1 Value.nilIface).setIfInBounds 0 Value.nilIface = #[p, q, .nilIface, .nilIface, undef, undef, undef, undef, undef] := rfl
  rw [hl]
  clear hl
  go_wp2
  have HU := HU.out
  cases c₀
  simp_all [bodyPostS, results, Tryd.results50]
end Go.Proofs.YtbjbgneejdjniaaDoor

namespace Go.Proofs.YtbjbgneejdjniaaDoor
open Go.RowKit Cod
def DecPost (l : List UInt8) (w : World) (e : Ending) (w' : World) : Prop :=
  (match decF l with
   | some t => ∃ u, e = .returned (.tuple #[u, .int .i64 0]) ∧ CodS (fun b => w.heap.size ≤ b) w' u t
   | none => e = .returned (.tuple #[.agg #[.int .i64 0, .int .i64 0, .string ByteArray.empty, .slice none 0 0], .int .i64 10])) ∧ Below w.heap.size w w'
theorem DecPost.bad {l : List UInt8} {w w' : World} (h : decF l = none) (b : Below w.heap.size w w') : DecPost l w (.returned (.tuple #[.agg #[.int .i64 0, .int .i64 0, .string ByteArray.empty, .slice none 0 0], .int .i64 10])) w' := by
  unfold DecPost; rw [h]; exact ⟨rfl, b⟩
theorem DecPost.good {l : List UInt8} {w w' : World} {t : Tv} {u : Value} (h : decF l = some t) (hu : CodS (fun b => w.heap.size ≤ b) w' u t) (b : Below w.heap.size w w') : DecPost l w (.returned (.tuple #[u, .int .i64 0])) w' := by
  unfold DecPost; rw [h]; exact ⟨⟨u, rfl, hu⟩, b⟩
theorem fin_dec' {w w3 w4 w5 w' : World} {n : Nat} (B : Below n w w3) (hs : w3.heap.size = n + 3) (o4 : OnlyB (n + 2) w3 w4) (o5 : OnlyB n w4 w5) (s1 : w5.heap.size ≤ w'.heap.size) (s2 : w'.os = w5.os) (s3 : w'.tape = w5.tape) (s4 : w'.output = w5.output)
    (s5 : ∀ k, k < w5.heap.size → k ≠ n → k ≠ n + 1 → w'.heap[k]? = w5.heap[k]?) : Below n w w' :=
  ⟨s2.trans ((o5.os.trans o4.os).trans B.os), s3.trans ((o5.tape.trans o4.tape).trans B.tape), s4.trans ((o5.output.trans o4.output).trans B.output), by have := B.size; have := o4.size; have := o5.size; omega,
    fun k hk => (s5 k (by have := o4.size; have := o5.size; omega) (by omega) (by omega)).trans ((o5.block k (by have := o4.size; omega) (by omega)).trans ((o4.block k (by omega) (by omega)).trans (B.block k hk)))⟩
theorem fin_dec {w w3 w4 w' : World} {n : Nat} (B : Below n w w3) (hs : w3.heap.size = n + 3) (o3 : OnlyB n w3 w3) (o4 : OnlyB (n + 2) w3 w4) (s1 : w4.heap.size ≤ w'.heap.size) (s2 : w'.os = w4.os) (s3 : w'.tape = w4.tape) (s4 : w'.output = w4.output)
    (s5 : ∀ k, k < w4.heap.size → k ≠ n → k ≠ n + 1 → w'.heap[k]? = w4.heap[k]?) : Below n w w' :=
  fin_dec' B hs o4 (OnlyB.refl _ _) s1 s2 s3 s4 s5
theorem alloc_sz (w : World) (o : Obj) : (w.alloc o).heap.size = w.heap.size + 1 := by
  show (w.heap.push _).size = _; simp
theorem results_dec {tmps : Array Value} {w : World} {vb eb : Nat} {f : Nat → Value} {x : Int} (h2 : tmps.getD 2 undef = .pointer (some ⟨vb, 0, none⟩)) (h3 : tmps.getD 3 undef = .pointer (some ⟨eb, 0, none⟩)) (hv : RowV w vb 51 4 f) (he : RowV w eb 30 1 (fun _ => .int .i64 x)) :
    (results Tryd.f28 tmps).run Tryd.prog w = .ok (.tuple #[.agg (rowF 4 f), .int .i64 x]) w := by
  have hr : Tryd.f28.results = #[.cell 2 51, .cell 3 30] := rfl
  have e1 : w.cell? ⟨eb, 0, none⟩ = some (.int .i64 x) := he.cell (i := 0) (by decide)
  have l1 := run_loadVar_row (P := Tryd.prog) w vb 51 51 (rowF 4 f) (0, 0) _ hv Tryd.underlying51 rfl (by rw [rowF_size]; kernel_rfl)
  have l2 : (loadVar 30 ⟨eb, 0, none⟩).run Tryd.prog w = .ok (.int .i64 x) w := by
    simp [go_sem, e1]
  rw [Array.getD_eq_getD_getElem?] at h2 h3
  simp [results, hr, h2, h3, Sem.run_bind, asAddr, l1, l2]
theorem leave_bad {tmps : Array Value} {R : Ending → World → Prop} {w : World} {vb eb : Nat} {f : Nat → Value} {x : Int} (h2 : tmps.getD 2 undef = .pointer (some ⟨vb, 0, none⟩)) (h3 : tmps.getD 3 undef = .pointer (some ⟨eb, 0, none⟩)) (hv : RowV w vb 51 4 f) (he : RowV w eb 30 1 (fun _ => .int .i64 x)) (hne : vb ≠ eb)
    (h : ∀ w', w.heap.size ≤ w'.heap.size → w'.os = w.os → w'.tape = w.tape → w'.output = w.output → (∀ k, k < w.heap.size → k ≠ vb → k ≠ eb → w'.heap[k]? = w.heap[k]?) → R (.returned (.tuple #[.agg #[.int .i64 0, .int .i64 0, .string ByteArray.empty, .slice none 0 0], .int .i64 10])) w') :
    Leaves Tryd.prog Tryd.f28 tmps R [{ target := .fn (.func 50) #[.pointer (some ⟨vb, 0, none⟩), .pointer (some ⟨eb, 0, none⟩)], args := #[] }] (.panicking [{ v := .iface 30 (.int .i64 10), recovered := false }]) w := by
  refine leaves_cons (f := 50) (args := #[.pointer (some ⟨vb, 0, none⟩), .pointer (some ⟨eb, 0, none⟩)]) (by simp) (by simp [go_sem]) ?_
  refine (caught_panicking vb eb f x [] w hv he hne).mono ?_
  rintro e u' w' ⟨rfl, rfl, hv', he', s1, s2, s3, s4, s5⟩
  show Leaves _ _ _ _ [] .returning w'
  exact ⟨_, results_dec h2 h3 hv' he', h w' s1 s2 s3 s4 s5⟩
theorem leave_good {tmps : Array Value} {R : Ending → World → Prop} {w : World} {vb eb : Nat} {f : Nat → Value} {x : Int} (h2 : tmps.getD 2 undef = .pointer (some ⟨vb, 0, none⟩)) (h3 : tmps.getD 3 undef = .pointer (some ⟨eb, 0, none⟩)) (hv : RowV w vb 51 4 f) (he : RowV w eb 30 1 (fun _ => .int .i64 x))
    (h : R (.returned (.tuple #[.agg (rowF 4 f), .int .i64 x])) w) :
    Leaves Tryd.prog Tryd.f28 tmps R [{ target := .fn (.func 50) #[.pointer (some ⟨vb, 0, none⟩), .pointer (some ⟨eb, 0, none⟩)], args := #[] }] .returning w := by
  refine leaves_cons (f := 50) (args := #[.pointer (some ⟨vb, 0, none⟩), .pointer (some ⟨eb, 0, none⟩)]) (by simp) (by simp [go_sem]) ?_
  refine (caught_idle _ _ w).mono ?_
  rintro e u' w' ⟨rfl, rfl, rfl⟩
  show Leaves _ _ _ _ [] .returning w'
  exact ⟨_, results_dec h2 h3 hv he, h⟩
set_option maxRecDepth 100000 in
set_option maxHeartbeats 4000000 in
theorem decode_any (bv : Value) (l : List UInt8) (w : World) (hb : BytesAt w bv l) (hlen : l.length ≤ 1000000) :
    Calls Tryd.prog 28 #[bv] w (DecPost l w) := by
  have hmf : ∀ (fn : Fn) (first cap : Array Value) (w : World), (Instr.makeFunc fn first cap).run Tryd.prog w = .ok (.func fn first cap) w := fun _ _ _ _ => rfl
  obtain ⟨a, c, rfl⟩ := hb.slice
  have B1 := (Below.refl _ w).alloc (Nat.le_refl _) (.cells (rowF 4 zeroC) 51)
  have V1 := RowV.new w 51 4 zeroC
  have s1 : (w.alloc (.cells (rowF 4 zeroC) 51)).heap.size = w.heap.size + 1 := alloc_sz _ _
  obtain ⟨w1, hw1⟩ : ∃ y, w.alloc (.cells (rowF 4 zeroC) 51) = y := ⟨_, rfl⟩
  rw [hw1] at B1 V1 s1
  have B2 := (Below.refl _ w1).alloc (Nat.le_refl _) (.cells (rowF 1 (fun _ => .int .i64 0)) 30)
  have E2 := RowV.new w1 30 1 (fun _ => .int .i64 0)
  have s2 : (w1.alloc (.cells (rowF 1 (fun _ => .int .i64 0)) 30)).heap.size = w.heap.size + 2 := by rw [alloc_sz, s1]
  obtain ⟨w2, hw2⟩ : ∃ y, w1.alloc (.cells (rowF 1 (fun _ => .int .i64 0)) 30) = y := ⟨_, rfl⟩
  rw [hw2] at B2 E2 s2
  have B3 := (Below.refl _ w2).alloc (Nat.le_refl _) (.cells (rowF 1 (fun _ => (.slice a l.length c))) 97)
  have R3 := RowV.new w2 97 1 (fun _ => (.slice a l.length c))
  have s3 : (w2.alloc (.cells (rowF 1 (fun _ => (.slice a l.length c))) 97)).heap.size = w.heap.size + 3 := by rw [alloc_sz, s2]
  obtain ⟨w3, hw3⟩ : ∃ y, w2.alloc (.cells (rowF 1 (fun _ => (.slice a l.length c))) 97) = y := ⟨_, rfl⟩
  rw [hw3] at B3 R3 s3
  rw [s1] at E2
  rw [s2] at R3
  have b13 : Below w.heap.size w w3 := (B1.trans (B2.mono (by omega))).trans (B3.mono (by omega))
  have VV := Lib.hid ((V1.below B2).below B3)
  have EE := Lib.hid (E2.below B3)
  have RD : Hid (RdAt w3 (w.heap.size + 2) (.slice a l.length c) l) := Lib.hid ⟨R3, BytesAt.below hb b13⟩
  have BB := Lib.hid b13
  have SZ := Lib.hid s3
  have VR := value_rd 16 (Nat.le_refl _) (w.heap.size + 2) (.slice a l.length c) l w3 RD.out hlen
  rw [show (16 : Int) - ((16 : Nat) : Int) = 0 from rfl] at VR
  have HW1 : Hid (w.alloc (.cells #[.int .i64 0, .int .i64 0, .string ⟨#[]⟩, .slice none 0 0] 51) = w1) := Lib.hid hw1
  have HW2 : Hid (w1.alloc (.cells #[.int .i64 0] 30) = w2) := Lib.hid hw2
  have HW3 : Hid (w2.alloc (.cells #[.slice a l.length c] 97) = w3) := Lib.hid hw3
  clear hb B1 V1 s1 B2 E2 s2 B3 R3 s3 hw1 hw2 hw3 b13 hlen
  go_enter_defers Tryd.func28, Tryd.ntmps28
  go_upto_region 3 with fail
  rw [HW1.out, HW2.out, HW3.out]
  clear HW1 HW2 HW3
  unfold ValPost at VR
  cases hv : valF 16 l with
  | none =>
    rw [hv] at VR
    have VRH := Lib.hid VR
    have F : Hid (decF l = none) := Lib.hid (by unfold decF; rw [hv])
    clear VR hv
    go_wp2_with fail
    refine VRH.out.mono ?_
    rintro e w4 ⟨rfl, o4⟩
    go_wp2_with fail
    exact leave_bad rfl rfl ((OnlyB.row o4) (show w.heap.size ≠ w.heap.size + 2 by omega) VV.out) ((OnlyB.row o4) (show w.heap.size + 1 ≠ w.heap.size + 2 by omega) EE.out) (by omega) (fun w' s1 s2 s3 s4 s5 => DecPost.bad F.out (fin_dec BB.out SZ.out (OnlyB.refl w.heap.size w3) o4 s1 s2 s3 s4 s5))
  | some x =>
    obtain ⟨t, r⟩ := x
    rw [hv] at VR
    have VRH := Lib.hid VR
    go_wp2_with fail
    refine VRH.out.mono ?_
    rintro e w4 ⟨⟨u, v4, rfl, hu, r4, b4⟩, o4⟩
    obtain ⟨uk, un, us, ua, um, uc, rfl⟩ := hu.agg
    obtain ⟨a4, c4, rfl⟩ := r4.2.slice
    have U4 := Lib.hid hu
    have R4 := Lib.hid r4
    have O4 := Lib.hid o4
    have V4 := Lib.hid (o4.row (show w.heap.size ≠ w.heap.size + 2 by omega) VV.out)
    have E4 := Lib.hid (o4.row (show w.heap.size + 1 ≠ w.heap.size + 2 by omega) EE.out)
    clear hu r4 b4 o4 VV EE RD VR VRH
    go_upto_region 4 with (first | ((with_reducible (show wpList _ _ _ (Oper.mk none _ _ _ _ _ :: _) _ _)); refine wpList_store_rowV (o := ⟨none, .store 51 (.tmp 2) (.tmp 10), _, _, _, _⟩) rfl 51 (.tmp 2) (.tmp 10) rfl w.heap.size rfl 4 51 _ (valC uk un us (.slice ua um uc)) rfl V4.out (by kernel_rfl) (valC_one _ _ _ _) ?_; intro w5 V5 o5))
    have R5 := Lib.hid (R4.out.noval V4.out (show w.heap.size + 2 ≠ w.heap.size by omega) o5.out)
    have E5 := Lib.hid (o5.out.row (show w.heap.size + 1 ≠ w.heap.size by omega) E4.out)
    have U5 := Lib.hid (U4.out.keep (S' := fun b => w3.heap.size ≤ b) o5.out.size (fun b hb hS => ⟨hS, o5.out.block b hb (by have := SZ.out; omega)⟩))
    have X5 : w5.cell? ⟨w.heap.size + 1 + 1, 0, none⟩ = some (.slice a4 r.length c4) := R5.out.1.cell (i := 0) (by decide)
    cases r with
    | nil =>
      have F : Hid (decF l = some t) := Lib.hid (by unfold decF; rw [hv])
      have q0 : decide ((([] : List UInt8).length : Int) = 0) = true := rfl
      go_upto_region 5 with fail
      refine (want_true _ _).mono ?_
      rintro e w' ⟨rfl, rfl⟩
      clear X5 R5 R4 E4 V4 q0 hv
      go_upto_region 5 with fail
      go_wp2_with (first | ((with_reducible (show wpList _ _ _ (Oper.mk (some 19) _ _ _ _ _ :: _) _ _)); refine wpList_load_rowV rfl 51 (.tmp 2) rfl w.heap.size rfl 4 51 _ V5.out _ Tryd.underlying51 rfl (by kernel_rfl) ?_) | ((with_reducible (show wpList _ _ _ (⟨none, .store 51 _ _, _, _, _, _⟩ :: _) _ _)); refine wpList_store_rowV (o := ⟨none, .store 51 (.tmp 2) (.tmp 19), _, _, _, _⟩) rfl 51 (.tmp 2) (.tmp 19) rfl w.heap.size rfl 4 51 _ (valC uk un us (.slice ua um uc)) rfl V5.out (by kernel_rfl) (valC_one _ _ _ _) ?_; intro w6 V6 o6; have E6 := Lib.hid (o6.out.row (show w.heap.size + 1 ≠ w.heap.size by omega) E5.out); have x6 : w6.cell? ⟨w.heap.size + 1, 0, none⟩ = some (.int .i64 0) := E6.out.cell (i := 0) (by decide); have f6 : w6.frozen? ⟨w.heap.size + 1, 0, none⟩ = false := E6.out.frozen 0))
      have o7 := (OnlyB.refl (w.heap.size + 1) w6).setCell (p := ⟨w.heap.size + 1, 0, none⟩) (.inl rfl) (.int .i64 0)
      have E7 := (E6.out.set 0 (.int .i64 0)).congr (g' := fun _ => .int .i64 0) (fun i hi => if_pos (by omega))
      have V7 := V6.out.other (a := ⟨w.heap.size + 1, 0, none⟩) (show w.heap.size ≠ w.heap.size + 1 by omega) (.int .i64 0)
      refine leave_good rfl rfl V7 E7 (DecPost.good F.out (U5.out.keep ?_ ?_) ?_)
      · have := o6.out.size; have := o7.size; omega
      · intro b hb hS
        have hS : w3.heap.size ≤ b := hS
        have := SZ.out
        exact ⟨by omega, (o7.block b (by have := o6.out.size; omega) (by omega)).trans (o6.out.block b hb (by omega))⟩
      · refine fin_dec' BB.out SZ.out O4.out o5.out ?_ ?_ ?_ ?_ ?_
        · have := o6.out.size; have := o7.size; omega
        · exact o7.os.trans o6.out.os
        · exact o7.tape.trans o6.out.tape
        · exact o7.output.trans o6.out.output
        · intro k hk h1 h2
          exact (o7.block k (by have := o6.out.size; omega) h2).trans (o6.out.block k hk h1)
    | cons c0 r0 =>
      have F : Hid (decF l = none) := Lib.hid (by unfold decF; rw [hv])
      have q0 : decide (((c0 :: r0).length : Int) = 0) = false := by rw [decide_eq_false_iff_not]; simp only [List.length_cons]; omega
      go_wp2_with fail
      refine (want_false _ _).mono ?_
      rintro e w' ⟨rfl, rfl⟩
      go_wp2_with fail
      exact leave_bad rfl rfl V5.out E5.out (by omega) (fun w' s1 s2 s3 s4 s5 => DecPost.bad F.out (fin_dec' BB.out SZ.out O4.out o5.out s1 s2 s3 s4 s5))
end Go.Proofs.YtbjbgneejdjniaaDoor
