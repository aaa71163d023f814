/- The reference of the codec: Encode, and its makers of values. Package codec: the reader of bytes. Package codec: the reader's numerals. Package codec: the reader's integers and lengths; values that a reader has built. Values of the codec that a call has built: their lists lie in blocks of a kind. -/
import Derived.Test.YtbjbgneejdjniaaDoorPk25
set_option linter.unusedVariables false
set_option linter.unusedSimpArgs false
namespace Go.Proofs.YtbjbgneejdjniaaDoor
open Go.RowKit Cod
set_option maxRecDepth 100000 in
set_option maxHeartbeats 8000000 in
theorem rcencode_any (t : Tv) (v : Value) (w : World) (hd : depthN t ≤ 1000) (hv : CodAt w v t) (hlen : (encV t).length ≤ 140737488340000) :
    Calls Tryd.prog 49 #[v] w (EncPost t w) := by
  have H := Lib.hid (fun W h => rccheck_any t v W hd h)
  have HE := Lib.hid (fun (hf : formB t = true) W h => rencode_any 1000 t v W hd hf h hlen)
  have HV := Lib.hid hv
  obtain ⟨k, n, s, l⟩ := t
  obtain ⟨a, cap, c, rfl, -⟩ := hv.open
  obtain ⟨m, hm⟩ : ∃ m, l.length = m := ⟨_, rfl⟩
  rw [hm] at H HE HV ⊢
  obtain ⟨ct, hct⟩ : ∃ y, chkT (.mk k n s l) = y := ⟨_, rfl⟩
  have HCT := Lib.hid hct
  rw [hct] at H
  clear hm hct hv hlen hd
  rcases (HCT.out ▸ chkT_3 (.mk k n s l) : ct = 0 ∨ ct = 1 ∨ ct = 2) with h0 | h0
  · subst h0
    have HF := chkT_0 HCT.out
    have E1 := Lib.hid (HE.out HF.1)
    have EP : Hid (EncPost (.mk k n s l) w = fun e w' => (∃ u, e = .returned (.tuple #[u, .int .i64 0]) ∧ Owns w' w.heap.size u (encV (.mk k n s l))) ∧ Below w.heap.size w w') := Lib.hid (by
      funext e w'; unfold EncPost; rw [HCT.out, if_pos rfl])
    rw [EP.out]
    clear HF HE EP HCT
    go_enter Tryd.func49, Tryd.ntmps49
    have B0 := Lib.hid (Below.refl w.heap.size w)
    go_upto_region 1 with fail
    obtain ⟨w1, hw1⟩ : ∃ y, w.alloc (.cells #[.int .i64 k, .int .i64 n, .string s, .slice a m cap] 51) = y := ⟨_, rfl⟩
    have b1 : Below w.heap.size w w1 := by rw [← hw1]; exact (Below.refl _ _).alloc (Nat.le_refl _) _
    have V1 : Hid (RowV w1 w.heap.size 51 4 (valC k n s (.slice a m cap))) := Lib.hid (by rw [← hw1]; exact RowV.new w _ 4 (valC k n s (.slice a m cap)))
    have z1 : w.heap.size + 1 = w1.heap.size := by rw [← hw1]; exact (Array.size_push _).symm
    rw [hw1]
    (try rw [z1])
    have B1 := Lib.hid (B0.out.trans (b1.mono B0.out.size))
    clear b1 hw1 z1 B0
    have x0 : _ = some (Value.int .i64 k) := V1.out.cell (i := 0) (by decide)
    have x1 : _ = some (Value.int .i64 n) := V1.out.cell (i := 1) (by decide)
    have x2 : _ = some (Value.string s) := V1.out.cell (i := 2) (by decide)
    have x3 : _ = some (Value.slice a m cap) := V1.out.cell (i := 3) (by decide)
    have C1 := Lib.hid (HV.out.later B1.out)
    go_wp2_with fail
    refine (H.out _ C1.out).mono ?_
    rintro e w2 ⟨rfl, b2⟩
    have B2 := Lib.hid (B1.out.trans (b2.mono B1.out.size))
    have V2 := Lib.hid (V1.out.below b2)
    clear b2 B1 V1
    clear x0 x1 x2 x3 H C1
    have x0 : _ = some (Value.int .i64 k) := V2.out.cell (i := 0) (by decide)
    have x1 : _ = some (Value.int .i64 n) := V2.out.cell (i := 1) (by decide)
    have x2 : _ = some (Value.string s) := V2.out.cell (i := 2) (by decide)
    have x3 : _ = some (Value.slice a m cap) := V2.out.cell (i := 3) (by decide)
    have C2 := Lib.hid (HV.out.later B2.out)
    go_wp2_with fail
    refine (E1.out _ C2.out).mono ?_
    rintro e w3 ⟨⟨u, rfl, o3⟩, b3⟩
    have O3 := Lib.hid (o3.lower B2.out.size)
    have B3 := Lib.hid (B2.out.trans (b3.mono B2.out.size))
    clear o3 b3 x0 x1 x2 x3 C2
    go_wp2_with fail
    go_ret2
    exact ⟨⟨u, rfl, O3.out⟩, B3.out⟩
  · have EP : Hid (EncPost (.mk k n s l) w = fun e w' => e = .returned (.tuple #[.slice none 0 0, .int .i64 ct]) ∧ Below w.heap.size w w') := Lib.hid (by
      funext e w'; unfold EncPost; rw [HCT.out, if_neg (by rcases h0 with h | h <;> rw [h] <;> decide)])
    rw [EP.out]
    clear EP HE HCT
    rcases h0 with h0 | h0 <;> subst h0
    · go_enter Tryd.func49, Tryd.ntmps49
      have B0 := Lib.hid (Below.refl w.heap.size w)
      go_upto_region 1 with fail
      obtain ⟨w1, hw1⟩ : ∃ y, w.alloc (.cells #[.int .i64 k, .int .i64 n, .string s, .slice a m cap] 51) = y := ⟨_, rfl⟩
      have b1 : Below w.heap.size w w1 := by rw [← hw1]; exact (Below.refl _ _).alloc (Nat.le_refl _) _
      have V1 : Hid (RowV w1 w.heap.size 51 4 (valC k n s (.slice a m cap))) := Lib.hid (by rw [← hw1]; exact RowV.new w _ 4 (valC k n s (.slice a m cap)))
      have z1 : w.heap.size + 1 = w1.heap.size := by rw [← hw1]; exact (Array.size_push _).symm
      rw [hw1]
      (try rw [z1])
      have B1 := Lib.hid (B0.out.trans (b1.mono B0.out.size))
      clear b1 hw1 z1 B0
      have x0 : _ = some (Value.int .i64 k) := V1.out.cell (i := 0) (by decide)
      have x1 : _ = some (Value.int .i64 n) := V1.out.cell (i := 1) (by decide)
      have x2 : _ = some (Value.string s) := V1.out.cell (i := 2) (by decide)
      have x3 : _ = some (Value.slice a m cap) := V1.out.cell (i := 3) (by decide)
      have C1 := Lib.hid (HV.out.later B1.out)
      go_wp2_with fail
      refine (H.out _ C1.out).mono ?_
      rintro e w2 ⟨rfl, b2⟩
      have B2 := Lib.hid (B1.out.trans (b2.mono B1.out.size))
      have V2 := Lib.hid (V1.out.below b2)
      clear b2 B1 V1
      go_wp2_with fail
      go_ret2
      exact ⟨rfl, B2.out⟩
    · go_enter Tryd.func49, Tryd.ntmps49
      have B0 := Lib.hid (Below.refl w.heap.size w)
      go_upto_region 1 with fail
      obtain ⟨w1, hw1⟩ : ∃ y, w.alloc (.cells #[.int .i64 k, .int .i64 n, .string s, .slice a m cap] 51) = y := ⟨_, rfl⟩
      have b1 : Below w.heap.size w w1 := by rw [← hw1]; exact (Below.refl _ _).alloc (Nat.le_refl _) _
      have V1 : Hid (RowV w1 w.heap.size 51 4 (valC k n s (.slice a m cap))) := Lib.hid (by rw [← hw1]; exact RowV.new w _ 4 (valC k n s (.slice a m cap)))
      have z1 : w.heap.size + 1 = w1.heap.size := by rw [← hw1]; exact (Array.size_push _).symm
      rw [hw1]
      (try rw [z1])
      have B1 := Lib.hid (B0.out.trans (b1.mono B0.out.size))
      clear b1 hw1 z1 B0
      have x0 : _ = some (Value.int .i64 k) := V1.out.cell (i := 0) (by decide)
      have x1 : _ = some (Value.int .i64 n) := V1.out.cell (i := 1) (by decide)
      have x2 : _ = some (Value.string s) := V1.out.cell (i := 2) (by decide)
      have x3 : _ = some (Value.slice a m cap) := V1.out.cell (i := 3) (by decide)
      have C1 := Lib.hid (HV.out.later B1.out)
      go_wp2_with fail
      refine (H.out _ C1.out).mono ?_
      rintro e w2 ⟨rfl, b2⟩
      have B2 := Lib.hid (B1.out.trans (b2.mono B1.out.size))
      have V2 := Lib.hid (V1.out.below b2)
      clear b2 B1 V1
      go_wp2_with fail
      go_ret2
      exact ⟨rfl, B2.out⟩
set_option maxRecDepth 100000 in
set_option maxHeartbeats 2000000 in
theorem rint_any (n : Int) (w : World) :
    Calls Tryd.prog 48 #[.int .i64 n] w fun e w' => e = .returned (.agg #[.int .i64 1, .int .i64 n, .string ByteArray.empty, .slice none 0 0]) ∧ Below w.heap.size w w' := by
  go_enter Tryd.func48, Tryd.ntmps48
  go_wp2_with fail
  refine bodyPost_ret (v := .agg #[.int .i64 1, .int .i64 n, .string ByteArray.empty, .slice none 0 0]) (by exact results_rowV (fn := Tryd.f48) (p := 2) (ty := 51) rfl _ _ w.heap.size 4 51 (valC 1 n ByteArray.empty (.slice none 0 0)) _ rfl (RowV.new w _ 4 (valC 1 n ByteArray.empty (.slice none 0 0))) Tryd.underlying51 rfl (by kernel_rfl)) rfl ⟨rfl, ?_⟩
  exact (Below.refl _ w).alloc (Nat.le_refl _) _
set_option maxRecDepth 100000 in
set_option maxHeartbeats 2000000 in
theorem rtext_any (s : ByteArray) (w : World) :
    Calls Tryd.prog 73 #[.string s] w fun e w' => e = .returned (.agg #[.int .i64 2, .int .i64 0, .string s, .slice none 0 0]) ∧ Below w.heap.size w w' := by
  go_enter Tryd.func73, Tryd.ntmps73
  go_wp2_with fail
  refine bodyPost_ret (v := .agg #[.int .i64 2, .int .i64 0, .string s, .slice none 0 0]) (by exact results_rowV (fn := Tryd.f73) (p := 2) (ty := 51) rfl _ _ w.heap.size 4 51 (valC 2 0 s (.slice none 0 0)) _ rfl (RowV.new w _ 4 (valC 2 0 s (.slice none 0 0))) Tryd.underlying51 rfl (by kernel_rfl)) rfl ⟨rfl, ?_⟩
  exact (Below.refl _ w).alloc (Nat.le_refl _) _
set_option maxRecDepth 100000 in
set_option maxHeartbeats 2000000 in
theorem rlist_any (a : Option Addr) (m cap : Nat) (w : World) :
    Calls Tryd.prog 72 #[.slice a m cap] w fun e w' => e = .returned (.agg #[.int .i64 3, .int .i64 0, .string ByteArray.empty, .slice a m cap]) ∧ Below w.heap.size w w' := by
  go_enter Tryd.func72, Tryd.ntmps72
  go_wp2_with fail
  refine bodyPost_ret (v := .agg #[.int .i64 3, .int .i64 0, .string ByteArray.empty, .slice a m cap]) (by exact results_rowV (fn := Tryd.f72) (p := 2) (ty := 51) rfl _ _ w.heap.size 4 51 (valC 3 0 ByteArray.empty (.slice a m cap)) _ rfl (RowV.new w _ 4 (valC 3 0 ByteArray.empty (.slice a m cap))) Tryd.underlying51 rfl (by kernel_rfl)) rfl ⟨rfl, ?_⟩
  exact (Below.refl _ w).alloc (Nat.le_refl _) _
end Go.Proofs.YtbjbgneejdjniaaDoor

namespace Go.Proofs.YtbjbgneejdjniaaDoor
open Go.RowKit Cod
set_option maxRecDepth 100000 in
theorem want_true (p : Value) (w : World) : Calls Tryd.prog 52 #[p, .bool true] w fun e w' => e = .returned (.tuple #[]) ∧ w = w' := by
  go_enter Tryd.func52, Tryd.ntmps52
  go_wp2
  go_end0
  exact ⟨rfl, rfl⟩
set_option maxRecDepth 100000 in
theorem want_false (p : Value) (w : World) : Calls Tryd.prog 52 #[p, .bool false] w fun e w' => e = (Ending.panicked [{ v := .iface 30 (.int .i64 10), recovered := false }]) ∧ w = w' := by
  go_enter Tryd.func52, Tryd.ntmps52
  go_wp2
  exact ⟨rfl, rfl, rfl⟩
/-- the bytes that a reader has still to read -/
def RdAt (w : World) (rb : Nat) (v : Value) (l : List UInt8) : Prop := RowV w rb 97 1 (fun _ => v) ∧ BytesAt w v l
theorem BytesAt.only {w w' : World} {rb : Nat} {v : Value} {l : List UInt8} (h : RdAt w rb v l) (u : Value) (m : List UInt8) (hu : BytesAt w u m) (ho : OnlyB rb w w') : BytesAt w' u m := by
  obtain ⟨h1, h2⟩ := h
  obtain ⟨a, c, rfl⟩ := h2.slice
  rcases hu with hu | ⟨b, off, cap, e1, e2, e3, e4, e5, e6⟩
  · exact .inl hu
  · have hne : b ≠ rb := by
      intro e
      subst e
      have h3 := e6 0 e3
      rw [Nat.add_zero] at h3
      by_cases h0 : off = 0
      · subst h0
        rw [h1.cell (i := 0) (by decide)] at h3
        cases h3
      · have : w.cell? ⟨b, off, none⟩ = none := by
          simp [World.cell?, show w.heap[b]? = _ from h1, rowF]
          omega
        rw [this] at h3; cases h3
    exact .inr ⟨b, off, cap, e1, e2, e3, e4, Nat.lt_of_lt_of_le e5 ho.size, fun j hj => (ho.cell (p := ⟨b, off + j, none⟩) e5 hne).trans (e6 j hj)⟩
theorem rd_set {w : World} {rb : Nat} {v : Value} {l : List UInt8} (h : RdAt w rb v l) (u : Value) : RowV (w.setCell ⟨rb, 0, none⟩ u) rb 97 1 (fun _ => u) :=
  (h.1.set 0 u).congr (fun i hi => if_pos (by omega))
theorem rd_only {w : World} {rb : Nat} {v : Value} {l : List UInt8} (h : RdAt w rb v l) (u : Value) : OnlyB rb w (w.setCell ⟨rb, 0, none⟩ u) := (OnlyB.refl rb w).setCell (p := ⟨rb, 0, none⟩) (.inl rfl) u
theorem bytes_none (w : World) (a : Addr) (k : Nat) : BytesAt w (.slice (some a) 0 k) [] := .inl ⟨⟨some a, k, rfl, fun h => by cases h⟩, rfl⟩
theorem bytes_take {w : World} {b off n : Nat} {l : List UInt8} (hn : n ≤ l.length) (hl : (l.length : Int) ≤ 140737488351232) (hb : b < w.heap.size) (hcell : ∀ j, j < l.length → w.cell? ⟨b, off + j, none⟩ = some (vB (l.getD j 0))) :
    BytesAt w (.slice (some ⟨b, off, none⟩) n n) (l.take n) := by
  have ht : (l.take n).length = n := by rw [List.length_take]; omega
  by_cases h0 : n = 0
  · subst h0; exact bytes_none _ _ _
  · refine .inr ⟨b, off, n, by rw [ht], by omega, by omega, ⟨by omega, by omega⟩, hb, fun j hj => ?_⟩
    rw [ht] at hj
    rw [hcell j (by omega)]
    simp [List.getD_eq_getElem?_getD, List.getElem?_take_of_lt hj]
set_option maxRecDepth 100000 in
set_option maxHeartbeats 4000000 in
theorem take_no (rb : Nat) (v : Value) (l : List UInt8) (n : Nat) (w : World) (h : RdAt w rb v l) (hn : l.length < n) :
    Calls Tryd.prog 74 #[.pointer (some ⟨rb, 0, none⟩), .int .i64 (n : Int)] w fun e w' => e = (Ending.panicked [{ v := .iface 30 (.int .i64 10), recovered := false }]) ∧ w = w' := by
  obtain ⟨a, c, hv⟩ := h.2.slice
  obtain ⟨m, hm⟩ : ∃ m, l.length = m := ⟨_, rfl⟩
  rw [hm] at hv hn
  subst hv
  have c0 : w.cell? ⟨rb, 0, none⟩ = some (.slice a m c) := h.1.cell (i := 0) (by decide)
  have d0 : decide ((n : Int) ≤ (m : Int)) = false := by rw [decide_eq_false_iff_not]; omega
  have d1 : decide (n ≤ m) = false := by rw [decide_eq_false_iff_not]; omega
  clear h hm hn
  go_enter Tryd.func74, Tryd.ntmps74
  go_wp2_with fail
  refine (want_false _ _).mono ?_
  rintro e w' ⟨rfl, rfl⟩
  go_wp2_with fail
  exact ⟨rfl, rfl, rfl⟩
set_option maxRecDepth 100000 in
set_option maxHeartbeats 4000000 in
theorem take_ok (rb : Nat) (v : Value) (l : List UInt8) (n : Nat) (w : World) (h : RdAt w rb v l) (hn : n ≤ l.length) :
    Calls Tryd.prog 74 #[.pointer (some ⟨rb, 0, none⟩), .int .i64 (n : Int)] w fun e w' => ∃ u v', e = .returned u ∧ BytesAt w' u (l.take n) ∧ RdAt w' rb v' (l.drop n) ∧ OnlyB rb w w' ∧ v'.ownBlock = v.ownBlock := by
  have HR := Lib.hid h
  have SET := Lib.hid (fun (u : Value) => rd_set h u)
  have ONL := Lib.hid (fun (u : Value) => rd_only h u)
  rcases h.2 with ⟨⟨a, c, hv, hc⟩, hl⟩ | ⟨b, off, cap, hv, hle, hpos, hcap, hb, hcell⟩
  · subst hl
    obtain rfl : n = 0 := by simpa using hn
    subst hv
    have c0 : w.cell? ⟨rb, 0, none⟩ = some (.slice a 0 c) := h.1.cell (i := 0) (by decide)
    have f0 : w.frozen? ⟨rb, 0, none⟩ = false := h.1.frozen 0
    clear h hn
    cases a with
    | none =>
      obtain rfl := hc rfl
      clear hc
      go_enter Tryd.func74, Tryd.ntmps74
      go_wp2_with fail
      refine (want_true _ _).mono ?_
      rintro e w' ⟨rfl, rfl⟩
      go_wp2_with fail
      go_ret
      exact ⟨_, _, rfl, .inl ⟨⟨none, 0, rfl, fun _ => rfl⟩, rfl⟩, ⟨SET.out _, .inl ⟨⟨none, 0, rfl, fun _ => rfl⟩, rfl⟩⟩, ONL.out _, rfl⟩
    | some a =>
      clear hc
      by_cases h0 : c = 0
      · subst h0
        go_enter Tryd.func74, Tryd.ntmps74
        go_wp2_with fail
        refine (want_true _ _).mono ?_
        rintro e w' ⟨rfl, rfl⟩
        go_wp2_with fail
        go_ret
        exact ⟨_, _, rfl, bytes_none _ _ _, ⟨SET.out _, bytes_none _ _ _⟩, ONL.out _, rfl⟩
      · go_enter Tryd.func74, Tryd.ntmps74
        go_wp2_with fail
        refine (want_true _ _).mono ?_
        rintro e w' ⟨rfl, rfl⟩
        go_wp2_with fail
        go_ret
        exact ⟨_, _, rfl, bytes_none _ _ _, ⟨SET.out _, bytes_none _ _ _⟩, ONL.out _, rfl⟩
  · subst hv
    obtain ⟨m, hm⟩ : ∃ m, l.length = m := ⟨_, rfl⟩
    have c0 : w.cell? ⟨rb, 0, none⟩ = some (.slice (some ⟨b, off, none⟩) l.length cap) := h.1.cell (i := 0) (by decide)
    rw [hm] at c0
    have f0 : w.frozen? ⟨rb, 0, none⟩ = false := h.1.frozen 0
    have d0 : decide ((n : Int) ≤ (m : Int)) = true := by rw [decide_eq_true_iff]; omega
    have d1 : decide (n ≤ m) = true := by rw [decide_eq_true_iff]; omega
    have HC := Lib.hid hcell
    have HM := Lib.hid hm
    have HN := Lib.hid hn
    have HE := Lib.hid hle
    have HP := Lib.hid hcap
    have HB := Lib.hid hb
    clear h hcell hm hcap hpos
    by_cases hcn : cap = n
    · obtain rfl : cap = n := hcn
      obtain rfl : m = cap := by have := HM.out; omega
      clear hle hn hb d0 d1
      go_enter Tryd.func74, Tryd.ntmps74
      go_wp2_with fail
      refine (want_true _ _).mono ?_
      rintro e w' ⟨rfl, rfl⟩
      go_wp2_with fail
      go_ret
      refine ⟨_, _, rfl, BytesAt.only HR.out _ _ (bytes_take HN.out HP.out.1 HB.out HC.out) (ONL.out _), ⟨SET.out _, ?_⟩, ONL.out _, rfl⟩
      rw [List.drop_eq_nil_of_le (by rw [HM.out]; exact Nat.le_refl _)]
      exact bytes_none _ _ _
    · have hlt : n < cap := by omega
      have hle' : n ≤ m := by have := HM.out; omega
      have hle2 : m ≤ cap := by have := HM.out; omega
      clear hle hn hb hcn
      go_enter Tryd.func74, Tryd.ntmps74
      go_wp2_with fail
      refine (want_true _ _).mono ?_
      rintro e w' ⟨rfl, rfl⟩
      go_wp2_with fail
      go_ret
      refine ⟨_, _, rfl, BytesAt.only HR.out _ _ (bytes_take HN.out HP.out.1 HB.out HC.out) (ONL.out _), ⟨SET.out _, BytesAt.only HR.out _ _ ?_ (ONL.out _)⟩, ONL.out _, rfl⟩
      have h1 := BytesAt.drop_at (w := w) (b := b) (o := off) (cap := cap) (k := n) (l := l) HE.out HP.out HB.out HC.out HN.out
      rw [HM.out] at h1
      exact h1
end Go.Proofs.YtbjbgneejdjniaaDoor

namespace Go.Proofs.YtbjbgneejdjniaaDoor
open Go.RowKit Cod
/-- what reading a numeral leaves -/
def NumPost (rb : Nat) (v : Value) (l : List UInt8) (w : World) (e : Ending) (w' : World) : Prop :=
  (match numF 0 l with
   | some (n, r) => e = .returned (.int .u64 (n : Int)) ∧ ∃ v', RdAt w' rb v' r ∧ v'.ownBlock = v.ownBlock
   | none => e = (Ending.panicked [{ v := .iface 30 (.int .i64 10), recovered := false }])) ∧ OnlyB rb w w'
theorem and_127 (c : UInt8) : bits .and .u8 (c.toNat : Int) 127 = ((c.toNat % 128 : Nat) : Int) := by
  have h : ∀ a : Fin 256, bits .and .u8 (a.val : Int) 127 = ((a.val % 128 : Nat) : Int) := by decide +kernel
  exact h ⟨c.toNat, c.toNat_lt⟩
theorem or_u64 {a b : Nat} (ha : a < 18446744073709551616) (hb : b < 18446744073709551616) : bits .or .u64 (a : Int) (b : Int) = ((a ||| b : Nat) : Int) := by
  have h1 : (BitVec.ofInt 64 (a : Int)).toNat = a := by rw [BitVec.toNat_ofInt]; omega
  have h2 : (BitVec.ofInt 64 (b : Int)).toNat = b := by rw [BitVec.toNat_ofInt]; omega
  have h3 : a ||| b < 2 ^ 64 := Nat.or_lt_two_pow (by simpa using ha) (by simpa using hb)
  show IntKind.u64.wrap ((BitVec.ofInt 64 (a : Int) ||| BitVec.ofInt 64 (b : Int)).toNat : Nat) = _
  rw [BitVec.toNat_or, h1, h2, IntKind.wrap_u64]
  omega
theorem or_digit {a k i : Nat} (ha : a < 128 ^ i) : a ||| k * 128 ^ i = a + k * 128 ^ i := by
  have e : (128 : Nat) ^ i = 2 ^ (7 * i) := by rw [Nat.pow_mul]
  rw [e] at ha ⊢
  rw [Nat.or_comm, Nat.mul_comm, ← Nat.two_pow_add_eq_or_of_lt ha, Nat.add_comm]
/-- digits read so far -/
def NumI (l : List UInt8) (i acc : Nat) (r : List UInt8) : Prop := i ≤ 9 ∧ acc < 128 ^ i ∧ numF 0 l = (numF i r).map fun x => (acc + x.1 * 128 ^ i, x.2)
theorem pow_9 {i : Nat} (h : i ≤ 9) : 128 ^ i ≤ 128 ^ 9 := Nat.pow_le_pow_right (by decide) h
theorem digit_lt {c : UInt8} {i : Nat} (h1 : i ≤ 9) (h2 : i < 9 ∨ c.toNat ≤ 1) : c.toNat % 128 * 128 ^ i ≤ 9223372036854775808 := by
  rcases Nat.lt_or_ge i 9 with h | h
  · have h3 : 128 ^ i ≤ 128 ^ 8 := Nat.pow_le_pow_right (by decide) (by omega)
    have h4 : c.toNat % 128 * 128 ^ i ≤ 127 * 128 ^ 8 := Nat.mul_le_mul (by omega) h3
    omega
  · obtain rfl : i = 9 := by omega
    have h4 : c.toNat % 128 * 128 ^ 9 ≤ 1 * 128 ^ 9 := Nat.mul_le_mul (by omega) (Nat.le_refl _)
    omega
theorem numor_step {acc i : Nat} {c : UInt8} (h1 : i ≤ 9) (ha : acc < 128 ^ i) (h2 : i < 9 ∨ c.toNat ≤ 1) :
    bits .or .u64 (acc : Int) (IntKind.u64.wrap (((c.toNat % 128 : Nat) : Int) * 2 ^ (7 * i))) = ((acc + c.toNat % 128 * 128 ^ i : Nat) : Int) := by
  have h3 := digit_lt h1 h2
  have h4 := pow_9 h1
  have e : ((c.toNat % 128 : Nat) : Int) * 2 ^ (7 * i) = ((c.toNat % 128 * 128 ^ i : Nat) : Int) := by
    rw [Int.natCast_mul, Int.natCast_pow, Int.pow_mul]; rfl
  have e2 : IntKind.u64.wrap ((c.toNat % 128 * 128 ^ i : Nat) : Int) = ((c.toNat % 128 * 128 ^ i : Nat) : Int) := by rw [IntKind.wrap_u64]; omega
  rw [e, e2, or_u64 (by omega) (by omega), or_digit ha]
theorem num_step {l : List UInt8} {i acc : Nat} {c : UInt8} {r : List UInt8} (h : NumI l i acc (c :: r)) (hg : (i = 0 ∨ c ≠ 0) ∧ (i < 9 ∨ c.toNat ≤ 1)) (hx : ¬ c.toNat < 128) : NumI l (i + 1) (acc + c.toNat % 128 * 128 ^ i) r := by
  obtain ⟨h1, h2, h3⟩ := h
  have i9 : i < 9 := by rcases hg.2 with h | h; exact h; omega
  have e : 128 ^ (i + 1) = 128 * 128 ^ i := by rw [Nat.pow_succ, Nat.mul_comm]
  refine ⟨i9, ?_, ?_⟩
  · have h4 : c.toNat % 128 * 128 ^ i ≤ 127 * 128 ^ i := Nat.mul_le_mul_right _ (by omega)
    rw [e]; omega
  · rw [h3]
    conv => lhs; rw [numF, if_pos hg, if_neg hx]
    rw [Option.map_map]
    congr 1
    funext x
    simp only [Function.comp_apply, Prod.mk.injEq, and_true]
    rw [e, Nat.add_mul, Nat.mul_assoc, Nat.mul_left_comm, Nat.add_assoc]
theorem byte_at {w : World} {u : Value} {c : UInt8} (h : BytesAt w u [c]) : ∃ b off cap, u = .slice (some ⟨b, off, none⟩) 1 cap ∧ 1 ≤ cap ∧ w.cell? ⟨b, off, none⟩ = some (vB c) := by
  rcases h with ⟨_, h⟩ | ⟨b, off, cap, e1, e2, e3, e4, e5, e6⟩
  · cases h
  · exact ⟨b, off, cap, e1, e2, e6 0 (Nat.zero_lt_one)⟩
set_option maxRecDepth 100000 in
set_option maxHeartbeats 8000000 in
theorem number_rd (rb : Nat) (v : Value) (l : List UInt8) (w : World) (h : RdAt w rb v l) :
    Calls Tryd.prog 76 #[.pointer (some ⟨rb, 0, none⟩)] w (NumPost rb v l w) := by
  have HR := Lib.hid h
  have I0 : Hid (NumI l 0 0 l) := Lib.hid ⟨by decide, by decide, by cases numF 0 l <;> simp⟩
  clear h
  go_enter Tryd.func76, Tryd.ntmps76
  go_wp2_with fail
  go_loopg [2, 3] l.length (fun g s2 s3 wx => ∃ (i acc : Nat) (v' : Value) (r : List UInt8), r.length = g ∧ s3 = .int .i64 (i : Int) ∧ s2 = .int .u64 (acc : Int) ∧ Hid (NumI l i acc r) ∧ Hid (RdAt wx rb v' r ∧ v'.ownBlock = v.ownBlock) ∧ Hid (OnlyB rb w wx))
  case atStart => exact ⟨0, 0, v, l, rfl, rfl, rfl, I0, Lib.hid ⟨HR.out, rfl⟩, Lib.hid (OnlyB.refl _ _)⟩
  case round =>
    clear I0 HR
    obtain ⟨i, acc, v', r, rfl, rfl, rfl, hI, hR, hO⟩ := hrel
    obtain ⟨w1, rfl⟩ : ∃ y, y = wr := ⟨_, rfl⟩
    cases r with
    | nil =>
      have T := Lib.hid (take_no rb v' [] 1 w1 hR.out.1 (by decide))
      have F : Hid (numF 0 l = none) := Lib.hid (by rw [hI.out.2.2]; rfl)
      clear hI hR
      go_wp2_with fail
      refine T.out.mono ?_
      rintro e w2 ⟨rfl, rfl⟩
      go_wp2_with fail
      exact ⟨rfl, by unfold NumPost; rw [F.out]; exact ⟨rfl, hO.out⟩⟩
    | cons c r =>
      have T := Lib.hid (take_ok rb v' (c :: r) 1 w1 hR.out.1 (by simp))
      go_wp2_with fail
      refine T.out.mono ?_
      rintro e w2 ⟨u, v2, rfl, hu, hr2, ho2, hb2⟩
      obtain ⟨bb, off, cap, rfl, hcap, hcell⟩ := byte_at hu
      have R2 : Hid (RdAt w2 rb v2 r ∧ v2.ownBlock = v.ownBlock) := Lib.hid ⟨hr2, hb2.trans hR.out.2⟩
      have O2 := Lib.hid (hO.out.trans ho2)
      clear hu hr2 ho2 hb2 hO hR T
      obtain ⟨cn, hcn⟩ : ∃ z : Int, (c.toNat : Int) = z := ⟨_, rfl⟩
      have c0 : w2.cell? ⟨bb, off, none⟩ = some (.int .u8 cn) := by rw [← hcn]; exact hcell
      have HCN := Lib.hid hcn
      have c1 : 0 ≤ cn := by omega
      have c2 : cn ≤ 255 := by have := c.toNat_lt; omega
      clear hcell hcn
      have c3 : (cn == 0) = decide (c = 0) := by
        rw [Bool.eq_iff_iff]; simp only [beq_iff_eq, decide_eq_true_eq]
        constructor
        · intro h; exact UInt8.toNat_inj.1 (by have := HCN.out; show c.toNat = 0; omega)
        · intro h; subst h; have := HCN.out; simpa using this.symm
      have c4 : decide (cn ≤ 1) = decide (c.toNat ≤ 1) := by
        rw [Bool.eq_iff_iff]; simp only [decide_eq_true_eq]; have := HCN.out; omega
      have C3 := Lib.hid c3
      have C4 := Lib.hid c4
      clear c3 c4
      by_cases hg : (i = 0 ∨ c ≠ 0) ∧ (i < 9 ∨ c.toNat ≤ 1)
      · have HG := Lib.hid hg
        go_upto_region 4 with fail
        go_cut [] from 11 to 26 (fun wx => w2 = wx)
        case first =>
          obtain ⟨g1, g2⟩ := hg
          by_cases i0 : i = 0
          · subst i0
            clear g1 g2
            go_wp2_with fail
            refine (want_true _ _).mono ?_
            rintro e w' ⟨rfl, rfl⟩
            go_wp2_with fail
            go_meet
            rfl
          · have q1 : ((i : Int) == 0) = false := by simpa using i0
            have q2 : (cn == 0) = false := by rw [C3.out, decide_eq_false_iff_not]; rcases g1 with h | h; exact absurd h i0; exact h
            have q3 : (cn != 0) = true := by rw [bne, q2]; rfl
            by_cases i9 : i < 9
            · have q4 : decide ((i : Int) < 9) = true := by rw [decide_eq_true_iff]; omega
              have q5 : decide (i < 9) = true := by rw [decide_eq_true_iff]; omega
              clear g1 g2 i0 i9
              go_wp2_with fail
              refine (want_true _ _).mono ?_
              rintro e w' ⟨rfl, rfl⟩
              go_wp2_with fail
              go_meet
              rfl
            · have q4 : decide ((i : Int) < 9) = false := by rw [decide_eq_false_iff_not]; omega
              have q5 : decide (i < 9) = false := by rw [decide_eq_false_iff_not]; omega
              have q6 : decide (cn ≤ 1) = true := by rw [C4.out, decide_eq_true_iff]; rcases g2 with h | h; exact absurd h i9; exact h
              clear g1 g2 i0 i9
              go_wp2_with fail
              refine (want_true _ _).mono ?_
              rintro e w' ⟨rfl, rfl⟩
              go_wp2_with fail
              go_meet
              rfl
        case rest =>
          obtain rfl := hcut
          clear hg
          have b0 : (0 : Int) ≤ (i : Int) := Int.natCast_nonneg i
          have b9 : (i : Int) ≤ 9 := by have := hI.out.1; omega
          have z4 : (0 : Int) ≤ 7 * (i : Int) := by omega
          have z3 : (7 * (i : Int)).toNat = 7 * i := by omega
          obtain ⟨ca, hca⟩ : ∃ z : Int, bits .and .u8 cn 127 = z := ⟨_, rfl⟩
          have CA := Lib.hid (show ca = ((c.toNat % 128 : Nat) : Int) by rw [← hca, ← HCN.out]; exact and_127 c)
          have k0 : 0 ≤ ca := by rw [CA.out]; omega
          have k1 : ca ≤ 127 := by rw [CA.out]; omega
          have k2 : IntKind.u64.wrap ca = ca := by rw [IntKind.wrap_u64]; omega
          have OR : Hid (bits .or .u64 (acc : Int) (IntKind.u64.wrap (ca * 2 ^ (7 * i))) = ((acc + c.toNat % 128 * 128 ^ i : Nat) : Int)) := Lib.hid (by
            rw [CA.out]; exact numor_step hI.out.1 hI.out.2.1 HG.out.2)
          go_upto_region 6 with fail
          rw [OR.out]
          clear OR b0 z4 z3 k0 k1 k2 b9
          by_cases hx : c.toNat < 128
          · have d0 : decide (cn < 128) = true := by rw [decide_eq_true_iff]; have := HCN.out; omega
            have F : Hid (numF 0 l = some (acc + c.toNat % 128 * 128 ^ i, r)) := Lib.hid (by
              rw [hI.out.2.2]
              have h1 : numF i (c :: r) = some (c.toNat, r) := by unfold numF; rw [if_pos HG.out, if_pos hx]
              rw [h1, Nat.mod_eq_of_lt hx]; rfl)
            have FIN : Hid (NumPost rb v l w (Ending.returned (.int .u64 ((acc + c.toNat % 128 * 128 ^ i : Nat) : Int))) w2) := Lib.hid (by unfold NumPost; rw [F.out]; exact ⟨⟨rfl, _, R2.out⟩, O2.out⟩)
            clear F hI R2 O2 hx C3 C4
            obtain ⟨ac, hac⟩ : ∃ z : Int, ((acc + c.toNat % 128 * 128 ^ i : Nat) : Int) = z := ⟨_, rfl⟩
            rw [hac] at FIN ⊢
            clear hac
            go_wp2_with fail
            go_ret
            exact FIN.out
          · have d0 : decide (cn < 128) = false := by rw [decide_eq_false_iff_not]; have := HCN.out; omega
            have I2 : Hid (NumI l (i + 1) (acc + c.toNat % 128 * 128 ^ i) r) := Lib.hid (num_step hI.out HG.out hx)
            clear hI hx C3 C4 HG
            obtain ⟨ac, hac⟩ : ∃ z : Nat, acc + c.toNat % 128 * 128 ^ i = z := ⟨_, rfl⟩
            rw [hac] at I2 ⊢
            have b9 : (i : Int) + 1 ≤ 9 := by have := I2.out.1; omega
            have b0 : (0 : Int) ≤ (i : Int) := Int.natCast_nonneg i
            clear hac
            go_wp2_with fail
            go_roundg r.length
            case measure => simp
            case rel =>
              go_light
              exact ⟨i + 1, ac, v2, r, rfl, by go_num, rfl, I2, R2, O2⟩
      · have F : Hid (numF 0 l = none) := Lib.hid (by rw [hI.out.2.2]; unfold numF; rw [if_neg hg]; rfl)
        have FIN : Hid (NumPost rb v l w (Ending.panicked [{ v := .iface 30 (.int .i64 10), recovered := false }]) w2) := Lib.hid (by unfold NumPost; rw [F.out]; exact ⟨rfl, O2.out⟩)
        clear F hI R2 O2
        by_cases i0 : i = 0
        · exact absurd ⟨.inl i0, .inl (by omega)⟩ hg
        · have q1 : ((i : Int) == 0) = false := by simpa using i0
          by_cases cz : c = 0
          · have q2 : (cn == 0) = true := by rw [C3.out, decide_eq_true_iff]; exact cz
            have q3 : (cn != 0) = false := by rw [bne, q2]; rfl
            clear hg i0 cz
            go_wp2_with fail
            refine (want_false _ _).mono ?_
            rintro e w' ⟨rfl, rfl⟩
            go_wp2_with fail
            exact ⟨rfl, FIN.out⟩
          · have q2 : (cn == 0) = false := by rw [C3.out, decide_eq_false_iff_not]; exact cz
            have q3 : (cn != 0) = true := by rw [bne, q2]; rfl
            have i9 : ¬ i < 9 := fun h => hg ⟨.inr cz, .inl h⟩
            have q4 : decide ((i : Int) < 9) = false := by rw [decide_eq_false_iff_not]; omega
            have q5 : decide (i < 9) = false := by rw [decide_eq_false_iff_not]; omega
            have q6 : decide (cn ≤ 1) = false := by rw [C4.out, decide_eq_false_iff_not]; exact fun h => hg ⟨.inr cz, .inr h⟩
            clear hg i0 cz i9
            go_wp2_with fail
            refine (want_false _ _).mono ?_
            rintro e w' ⟨rfl, rfl⟩
            go_wp2_with fail
            exact ⟨rfl, FIN.out⟩
end Go.Proofs.YtbjbgneejdjniaaDoor

namespace Go.Proofs.YtbjbgneejdjniaaDoor
open Go.RowKit Cod
theorem xor_unzig {u : Nat} (hu : u < 18446744073709551616) : bits .xor .i64 ((u : Int) / 2) (-(((u % 2 : Nat)) : Int)) = unzig u := by
  rcases Nat.mod_two_eq_zero_or_one u with h | h
  · rw [h]
    have e : unzig u = (u : Int) / 2 := by unfold unzig; rw [if_neg (by omega)]; omega
    rw [e]
    show IntKind.i64.wrap ((BitVec.ofInt 64 ((u : Int) / 2) ^^^ BitVec.ofInt 64 (-((0 : Nat) : Int))).toNat : Nat) = _
    rw [show BitVec.ofInt 64 (-((0 : Nat) : Int)) = 0#64 from rfl, BitVec.xor_zero, BitVec.toNat_ofInt, IntKind.wrap_i64]
    omega
  · rw [h]
    have e : unzig u = -((u : Int) / 2) - 1 := by unfold unzig; rw [if_pos h]; omega
    rw [e]
    show IntKind.i64.wrap ((BitVec.ofInt 64 ((u : Int) / 2) ^^^ BitVec.ofInt 64 (-((1 : Nat) : Int))).toNat : Nat) = _
    rw [show BitVec.ofInt 64 (-((1 : Nat) : Int)) = BitVec.allOnes 64 from rfl, BitVec.xor_allOnes, BitVec.toNat_not, BitVec.toNat_ofInt, IntKind.wrap_i64]
    have : ((2 ^ 64 : Nat) : Int) = 18446744073709551616 := by decide
    rw [this]
    omega
theorem and_1 {u : Nat} (hu : u < 18446744073709551616) : bits .and .u64 (u : Int) 1 = ((u % 2 : Nat) : Int) := by
  have h2 : (BitVec.ofInt 64 (u : Int)).toNat = u := by rw [BitVec.toNat_ofInt]; omega
  have h1 : (BitVec.ofInt 64 1).toNat = 2 ^ 1 - 1 := by decide
  show IntKind.u64.wrap ((BitVec.ofInt 64 (u : Int) &&& BitVec.ofInt 64 1).toNat : Nat) = _
  rw [BitVec.toNat_and, h2, h1, Nat.and_two_pow_sub_one_eq_mod, IntKind.wrap_u64]
  omega
set_option maxRecDepth 100000 in
set_option maxHeartbeats 2000000 in
theorem signed_any (u : Nat) (hu : u < 18446744073709551616) (w : World) :
    Calls Tryd.prog 75 #[.int .u64 (u : Int)] w fun e w' => e = .returned (.int .i64 (unzig u)) ∧ w = w' := by
  have a1 := and_1 hu
  have HX := Lib.hid (xor_unzig hu)
  obtain ⟨q, hq⟩ : ∃ q : Int, (u : Int) / 2 = q := ⟨_, rfl⟩
  obtain ⟨p, hp⟩ : ∃ p : Int, ((u % 2 : Nat) : Int) = p := ⟨_, rfl⟩
  rw [hp] at a1 HX
  rw [hq] at HX
  have q0 : 0 ≤ q := by omega
  have q1 : q ≤ 9223372036854775807 := by omega
  have p0 : 0 ≤ p := by omega
  have p1 : p ≤ 1 := by omega
  have w1 : IntKind.i64.wrap q = q := IntWalk.i64_in _ (by omega)
  have w2 : IntKind.i64.wrap p = p := IntWalk.i64_in _ (by omega)
  have w3 : IntKind.i64.wrap (-p) = -p := IntWalk.i64_in _ (by omega)
  clear hu hp q1
  go_enter Tryd.func75, Tryd.ntmps75
  go_wp2_with fail
  rw [HX.out]
  go_ret
  exact ⟨rfl, rfl⟩
/-- what reading a length leaves -/
def LenPost (rb : Nat) (v : Value) (l : List UInt8) (w : World) (e : Ending) (w' : World) : Prop :=
  (match numF 0 l with
   | some (n, r) => if n ≤ r.length then e = .returned (.int .i64 (n : Int)) ∧ ∃ v', RdAt w' rb v' r ∧ v'.ownBlock = v.ownBlock else e = (Ending.panicked [{ v := .iface 30 (.int .i64 10), recovered := false }])
   | none => e = (Ending.panicked [{ v := .iface 30 (.int .i64 10), recovered := false }])) ∧ OnlyB rb w w'
set_option maxRecDepth 100000 in
set_option maxHeartbeats 4000000 in
theorem length_rd (rb : Nat) (v : Value) (l : List UInt8) (w : World) (h : RdAt w rb v l) :
    Calls Tryd.prog 77 #[.pointer (some ⟨rb, 0, none⟩)] w (LenPost rb v l w) := by
  have N := Lib.hid (number_rd rb v l w h)
  unfold NumPost at N
  cases hnf : numF 0 l with
  | none =>
    rw [hnf] at N
    have FIN : Hid (∀ w1, OnlyB rb w w1 → LenPost rb v l w (Ending.panicked [{ v := .iface 30 (.int .i64 10), recovered := false }]) w1) := Lib.hid (fun w1 o => by unfold LenPost; rw [hnf]; exact ⟨rfl, o⟩)
    clear h hnf
    go_enter Tryd.func77, Tryd.ntmps77
    go_wp2_with fail
    refine N.out.mono ?_
    rintro e w1 ⟨rfl, o1⟩
    have O1 := Lib.hid o1
    clear o1
    go_wp2_with fail
    exact ⟨rfl, FIN.out _ O1.out⟩
  | some x =>
    obtain ⟨n, r⟩ := x
    rw [hnf] at N
    have hlt := numF_lt hnf
    have HLT := Lib.hid hlt
    obtain ⟨m, hm0⟩ : ∃ m, r.length = m := ⟨_, rfl⟩
    have HM := Lib.hid hm0
    clear hm0
    have HNF := Lib.hid hnf
    clear h hnf hlt
    go_enter Tryd.func77, Tryd.ntmps77
    go_wp2_with fail
    refine N.out.mono ?_
    rintro e w1 ⟨⟨rfl, v1, r1, ob1⟩, o1⟩
    have O1 := Lib.hid o1
    have R1 := Lib.hid (And.intro r1 ob1)
    obtain ⟨a, cc, hv⟩ := r1.2.slice
    have hml := r1.2.len_le
    have hm := HM.out
    rw [hm] at hv hml
    subst hv
    have c0 : w1.cell? ⟨rb, 0, none⟩ = some (.slice a m cc) := r1.1.cell (i := 0) (by decide)
    have k1 : IntKind.u64.wrap (m : Int) = (m : Int) := by rw [IntKind.wrap_u64]; omega
    clear o1 r1 ob1
    by_cases hn : n ≤ m
    · have d0 : decide ((n : Int) ≤ (m : Int)) = true := by rw [decide_eq_true_iff]; omega
      have d1 : decide (n ≤ m) = true := by rw [decide_eq_true_iff]; omega
      have k2 : IntKind.i64.wrap (n : Int) = (n : Int) := IntWalk.i64_in _ (by omega)
      have FIN : Hid (LenPost rb v l w (Ending.returned (.int .i64 (n : Int))) w1) := Lib.hid (by unfold LenPost; rw [HNF.out]; show (if n ≤ r.length then _ else _) ∧ _; rw [HM.out, if_pos hn]; exact ⟨⟨rfl, _, R1.out⟩, O1.out⟩)
      clear hn hm hml
      go_wp2_with fail
      refine (want_true _ _).mono ?_
      rintro e w' ⟨rfl, rfl⟩
      go_wp2_with fail
      go_ret
      exact FIN.out
    · have d0 : decide ((n : Int) ≤ (m : Int)) = false := by rw [decide_eq_false_iff_not]; omega
      have d1 : decide (n ≤ m) = false := by rw [decide_eq_false_iff_not]; omega
      have FIN : Hid (LenPost rb v l w (Ending.panicked [{ v := .iface 30 (.int .i64 10), recovered := false }]) w1) := Lib.hid (by unfold LenPost; rw [HNF.out]; show (if n ≤ r.length then _ else _) ∧ _; rw [HM.out, if_neg hn]; exact ⟨rfl, O1.out⟩)
      clear hn hm hml
      go_wp2_with fail
      refine (want_false _ _).mono ?_
      rintro e w' ⟨rfl, rfl⟩
      go_wp2_with fail
      exact ⟨rfl, FIN.out⟩
end Go.Proofs.YtbjbgneejdjniaaDoor

namespace Go.Proofs.YtbjbgneejdjniaaDoor
open Go.RowKit Cod
def SlS (S : Nat → Prop) (s : Nat) (w : World) (v : Value) (n : Nat) (c : Nat → Nat → Value) : Prop :=
  ((∃ (a : Option Addr) (k : Nat), v = .slice a 0 k ∧ (a = none → k = 0)) ∧ n = 0) ∨
  ∃ b off cap : Nat, v = .slice (some ⟨b, off, none⟩) n cap ∧ n ≤ cap ∧ 0 < n ∧ ((n : Int) ≤ 140737488351232 ∧ (cap : Int) ≤ 9223372036854775807) ∧ (b < w.heap.size ∧ S b) ∧ ∀ i, i < n → ∀ j, j < s → w.cell? ⟨b, off + s * i + j, none⟩ = some (c i j)
theorem SlS.at' {S : Nat → Prop} {s : Nat} {w : World} {v : Value} {n : Nat} {c : Nat → Nat → Value} (h : SlS S s w v n c) : SlAt s w v n c := by
  rcases h with h | ⟨b, off, cap, h1, h2, h3, h4, h5, h6⟩
  · exact .inl h
  · exact .inr ⟨b, off, cap, h1, h2, h3, h4, h5.1, h6⟩
theorem SlS.keep {S S' : Nat → Prop} {s : Nat} {w w' : World} {v : Value} {n : Nat} {c : Nat → Nat → Value} (h : SlS S s w v n c) (hs : w.heap.size ≤ w'.heap.size) (hb : ∀ b, b < w.heap.size → S b → S' b ∧ w'.heap[b]? = w.heap[b]?) : SlS S' s w' v n c := by
  rcases h with h | ⟨b, off, cap, h1, h2, h3, h4, h5, h6⟩
  · exact .inl h
  · obtain ⟨g1, g2⟩ := hb b h5.1 h5.2
    exact .inr ⟨b, off, cap, h1, h2, h3, h4, ⟨Nat.lt_of_lt_of_le h5.1 hs, g1⟩, fun i hi j hj => (World.cell?_of_block (w := w) (w' := w') (a := ⟨b, off + s * i + j, none⟩) g2).trans (h6 i hi j hj)⟩
inductive CodS (S : Nat → Prop) (w : World) : Value → Tv → Prop
  | mk (k n : Int) (s : ByteArray) (sl : Value) (l : List Tv) (c : Nat → Nat → Value) (hk : i64B k) (hn : i64B n) (hs : (s.size : Int) ≤ 140737488351232) (hl : SlS S 4 w sl l.length c)
      (h : ∀ i, i < l.length → CodS S w (.agg (rowF 4 (c i))) (l.getD i tv0)) : CodS S w (.agg #[.int .i64 k, .int .i64 n, .string s, sl]) (.mk k n s l)
theorem CodS.at' {S : Nat → Prop} {w : World} {v : Value} {t : Tv} (h : CodS S w v t) : CodAt w v t := by
  induction h with
  | mk k n s sl l c hk hn hs hl _ ih => exact .mk k n s sl l c hk hn hs hl.at' ih
theorem CodS.keep {S S' : Nat → Prop} {w w' : World} {v : Value} {t : Tv} (h : CodS S w v t) (hs : w.heap.size ≤ w'.heap.size) (hb : ∀ b, b < w.heap.size → S b → S' b ∧ w'.heap[b]? = w.heap[b]?) : CodS S' w' v t := by
  induction h with
  | mk k n s sl l c hk hn hs' hl _ ih => exact .mk k n s sl l c hk hn hs' (hl.keep hs hb) ih
/-- the cells of so many values -/
def flatC (n : Nat) (c : Nat → Nat → Value) : List Value := (List.range (4 * n)).map fun j => c (j / 4) (j % 4)
theorem flatC_len (n : Nat) (c : Nat → Nat → Value) : (flatC n c).length = 4 * n := by simp [flatC]
theorem flatC_get {n : Nat} {c : Nat → Nat → Value} {i j : Nat} (hi : i < n) (hj : j < 4) : (flatC n c)[4 * i + j]? = some (c i j) := by
  unfold flatC
  rw [List.getElem?_map, List.getElem?_range (by omega), Option.map_some, show (4 * i + j) / 4 = i by omega, show (4 * i + j) % 4 = j by omega]
theorem flatC_succ (n : Nat) (c : Nat → Nat → Value) (f : Nat → Value) : flatC (n + 1) (fun i => if i = n then f else c i) = flatC n c ++ [f 0, f 1, f 2, f 3] := by
  unfold flatC
  rw [show 4 * (n + 1) = 4 * n + 4 by omega, List.range_add, List.map_append]
  congr 1
  · refine List.map_congr_left fun j hj => ?_
    have := List.mem_range.1 hj
    show (if j / 4 = n then f else c (j / 4)) (j % 4) = c (j / 4) (j % 4)
    rw [if_neg (by omega)]
  · simp only [List.map_map]
    show [_, _, _, _] = _
    simp only [Function.comp_apply]
    rw [show (4 * n + 0) / 4 = n by omega, show (4 * n + 1) / 4 = n by omega, show (4 * n + 2) / 4 = n by omega, show (4 * n + 3) / 4 = n by omega, show (4 * n + 0) % 4 = 0 by omega, show (4 * n + 1) % 4 = 1 by omega, show (4 * n + 2) % 4 = 2 by omega, show (4 * n + 3) % 4 = 3 by omega]
    simp
/-- a list of values of the call's own -/
def OwnV (w : World) (base : Nat) (v : Value) (ts : List Tv) : Prop :=
  ∃ c, w.ownsRow base 51 4 v ts.length (flatC ts.length c) ∧ ∀ i, i < ts.length → CodS (fun b => base ≤ b ∧ v.ownBlock ≠ some b) w (.agg (rowF 4 (c i))) (ts.getD i tv0)
theorem OwnV.nil (w : World) (base : Nat) : OwnV w base (.slice none 0 0) [] := ⟨fun _ _ => .int .i64 0, World.ownsRow_nil _ _ _ _, fun i hi => absurd hi (by simp)⟩
theorem OwnV.keep {w w' : World} {base : Nat} {v : Value} {ts : List Tv} (h : OwnV w base v ts) (hs : w.grownBy w' none) (hb : ∀ b, base ≤ b → b < w.heap.size → w'.heap[b]? = w.heap[b]?) : OwnV w' base v ts := by
  obtain ⟨c, h1, h2⟩ := h
  refine ⟨c, World.ownsRow.kept h1 (row := none) hs ?_, fun i hi => (h2 i hi).keep hs.size (fun b hlt hS => ⟨hS, hb b hS.1 hlt⟩)⟩
  cases hv : v.ownBlock with
  | none => exact .inl rfl
  | some k => exact .inr (by simp)
theorem OwnV.only {w w' : World} {base rb : Nat} {v : Value} {ts : List Tv} (h : OwnV w base v ts) (os : w'.os = w.os) (tape : w'.tape = w.tape) (output : w'.output = w.output) (hs : w.heap.size ≤ w'.heap.size) (hb : ∀ b, b < w.heap.size → b ≠ rb → w'.heap[b]? = w.heap[b]?) (hrb : rb < base) : OwnV w' base v ts := by
  obtain ⟨c, h1, h2⟩ := h
  refine ⟨c, World.ownsRow.kept h1 (row := some rb) ⟨os, tape, output, hs, fun k hk hn => hb k hk (fun e => hn (by rw [e]))⟩ ?_, fun i hi => (h2 i hi).keep hs (fun b hlt hS => ⟨hS, hb b hlt (by have := hS.1; omega)⟩)⟩
  cases hv : v.ownBlock with
  | none => exact .inl rfl
  | some k => exact .inr (by intro e; have := (World.ownsRow.lt h1 k hv).1; rw [Option.some.inj e] at this; omega)
theorem OwnV.lt {w : World} {base : Nat} {v : Value} {ts : List Tv} (h : OwnV w base v ts) : ∀ k, v.ownBlock = some k → base ≤ k ∧ k < w.heap.size := by
  obtain ⟨c, h1, _⟩ := h; exact World.ownsRow.lt h1
theorem OwnV.slice {w : World} {base : Nat} {v : Value} {ts : List Tv} (h : OwnV w base v ts) : ∃ (a : Option Addr) (c : Nat), v = .slice a ts.length c := by
  obtain ⟨c, h1, _⟩ := h
  rcases h1.2 with ⟨rfl, h3⟩ | ⟨g, cap, cur, rfl, _⟩
  · exact ⟨none, 0, by rw [h3]⟩
  · exact ⟨_, _, rfl⟩
theorem CodS.agg {S : Nat → Prop} {w : World} {u : Value} {t : Tv} (h : CodS S w u t) : ∃ k n s a m c, u = .agg #[.int .i64 k, .int .i64 n, .string s, .slice a m c] := by
  cases h with
  | mk k n s sl l c hk hn hs hl hi =>
    obtain ⟨a, cap, rfl⟩ := hl.at'.slice
    exact ⟨k, n, s, a, _, cap, rfl⟩
/-- it reads as a list -/
theorem OwnV.read {w : World} {base : Nat} {v : Value} {ts : List Tv} (h : OwnV w base v ts) (hn : (ts.length : Int) ≤ 140737488351232) {S : Nat → Prop} (hS : ∀ b, base ≤ b → S b) :
    ∃ c, SlS S 4 w v ts.length c ∧ ∀ i, i < ts.length → CodS S w (.agg (rowF 4 (c i))) (ts.getD i tv0) := by
  obtain ⟨c, h1, h2⟩ := h
  refine ⟨c, ?_, fun i hi => (h2 i hi).keep (Nat.le_refl _) (fun b _ hb => ⟨hS b hb.1, rfl⟩)⟩
  rcases h1.2 with ⟨rfl, h3⟩ | ⟨g, cap, cur, rfl, hb, hg, hle, hm, hs, ht⟩
  · exact .inl ⟨⟨none, 0, rfl, fun _ => rfl⟩, h3⟩
  · by_cases h0 : ts.length = 0
    · exact .inl ⟨⟨_, cap, by rw [h0], fun h => by cases h⟩, h0⟩
    · unfold maxLen at hm
      refine .inr ⟨g, 0, cap, rfl, hle, by omega, ⟨hn, by omega⟩, ⟨(Array.getElem?_eq_some_iff.1 hg).1, hS g hb⟩, fun i hi j hj => ?_⟩
      have h4 := World.ownsRow.cells h1 (g := g) rfl (4 * i + j) (c i j) (flatC_get hi hj)
      rw [Addr.add_mid, Nat.add_assoc] at *
      simpa using h4
theorem info_val3 : (Tryd.prog.info? 51).map (fun i => (i.zero, i.size, i.bytes)) = some (some (.agg #[.int .i64 0, .int .i64 0, .string ByteArray.empty, .slice none 0 0]), 4, 56) := by kernel_rfl
theorem info_parts3 {T : TypeId} {z : Value} {s b : Nat} (h : (Tryd.prog.info? T).map (fun i => (i.zero, i.size, i.bytes)) = some (some z, s, b)) : ∃ i, Tryd.prog.info? T = some i ∧ i.zero = some z ∧ i.size = s ∧ i.bytes = b := by
  obtain ⟨i, h1, h2⟩ := Option.map_eq_some_iff.1 h
  simp only [Prod.mk.injEq] at h2
  exact ⟨i, h1, h2.1, h2.2.1, h2.2.2⟩
/-- append(v.L, x) of one value -/
theorem wpList_app_val {w : World} {ops : Array Oper} {rest : List Oper} {o : Oper} {a : Act} {Q : Exit → Act → World → Prop} (hgd : o.guard = none) (s x : Operand)
    (ho : o.op = .call { callee := .builtin .append, args := #[s, x], argTypes := #[49, 49] })
    (base : Nat) (v : Value) (ts : List Tv) (hs : a.eval s = v) (hown : OwnV w base v ts) (g2 c2 : Nat) (f : Nat → Value) (t : Tv) (hx : a.eval x = .slice (some ⟨g2, 0, none⟩) 1 c2)
    (hrow : RowV w g2 51 4 f) (ht : CodS (fun b => base ≤ b ∧ v.ownBlock ≠ some b) w (.agg (rowF 4 f)) t) (hlen : ts.length ≤ 1000000) (hbase : base ≤ w.heap.size)
    (h : ∀ v' w', Hid (OwnV w' base v' (ts ++ [t])) → Hid (AppStep w v w' v') → wpList Tryd.prog ops Q rest (a.put o.dst v') w') : wpList Tryd.prog ops Q (o :: rest) a w := by
  obtain ⟨c, h1, h2⟩ := hown
  obtain ⟨i0, hi, hz0, hz1, hz2⟩ := info_parts3 info_val3
  have hone := ht.at'.cells
  refine wpList_app hgd s x 49 ho base 51 i0 _ 4 56 Tryd.underlying49 hi hz0 hz1 hz2 rfl (by decide) v ts.length (flatC ts.length c) hs h1 ⟨g2, 0, none⟩ 1 c2 [f 0, f 1, f 2, f 3] hx rfl ?_ ?_ (by unfold maxLen; omega) (by omega) hbase ?_
  · intro j u hj
    rw [Addr.add_mid, Nat.zero_add]
    have hj4 : j < 4 := by have := (List.getElem?_eq_some_iff.1 hj).1; simpa using this
    rw [hrow.cell hj4, ← hj]
    match j, hj4 with
    | 0, _ => rfl
    | 1, _ => rfl
    | 2, _ => rfl
    | 3, _ => rfl
  · intro u hu
    simp only [List.mem_cons, List.not_mem_nil, or_false] at hu
    rcases hu with rfl | rfl | rfl | rfl
    · exact hone 0 (by decide)
    · exact hone 1 (by decide)
    · exact hone 2 (by decide)
    · exact hone 3 (by decide)
  · intro v' w' h3 h4
    have keepS : ∀ {u : Value} {q : Tv}, CodS (fun b => base ≤ b ∧ v.ownBlock ≠ some b) w u q → CodS (fun b => base ≤ b ∧ v'.ownBlock ≠ some b) w' u q := fun hq =>
      hq.keep h4.1.size (fun b hlt hS => ⟨⟨hS.1, h4.ne hlt hS.2⟩, h4.block hlt hS.2⟩)
    refine h v' w' ⟨fun i => if i = ts.length then f else c i, ?_, ?_⟩ h4
    · rw [List.length_append, List.length_singleton, flatC_succ]; exact h3
    · intro i hi
      rw [List.length_append, List.length_singleton] at hi
      show CodS _ _ (.agg (rowF 4 (if i = ts.length then f else c i))) _
      by_cases e : i = ts.length
      · subst e
        rw [if_pos rfl, List.getD_eq_getElem?_getD, List.getElem?_append_right (Nat.le_refl _), Nat.sub_self]
        exact keepS ht
      · rw [if_neg e, List.getD_eq_getElem?_getD, List.getElem?_append_left (by omega), ← List.getD_eq_getElem?_getD]
        exact keepS (h2 i (by omega))
end Go.Proofs.YtbjbgneejdjniaaDoor
