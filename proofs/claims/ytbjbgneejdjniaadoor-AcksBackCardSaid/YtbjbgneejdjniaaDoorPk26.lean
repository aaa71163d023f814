/- The reference of the codec: Encode, and its makers of values. Package codec: the reader of bytes. -/
import Derived.Test.YtbjbgneejdjniaaDoorPk25
set_option linter.unusedVariables false
set_option linter.unusedSimpArgs false
namespace Go.Proofs.YtbjbgneejdjniaaDoor
open Go.RowKit Cod
set_option maxRecDepth 100000 in
set_option maxHeartbeats 8000000 in
theorem rcencode_any (t : Tv) (v : Value) (w : World) (hd : depthN t ≤ 1000) (hv : CodAt w v t) (hlen : (encV t).length ≤ 140737488340000) :
    Calls Tryd.prog 49 #[v] w (EncPost t w) := by
  have H := Lib.hid (fun W h => rccheck_any t v W hd h)
  have HE := Lib.hid (fun (hf : formB t = true) W h => rencode_any 1000 t v W hd hf h hlen)
  have HV := Lib.hid hv
  obtain ⟨k, n, s, l⟩ := t
  obtain ⟨a, cap, c, rfl, -⟩ := hv.open
  obtain ⟨m, hm⟩ : ∃ m, l.length = m := ⟨_, rfl⟩
  rw [hm] at H HE HV ⊢
  obtain ⟨ct, hct⟩ : ∃ y, chkT (.mk k n s l) = y := ⟨_, rfl⟩
  have HCT := Lib.hid hct
  rw [hct] at H
  clear hm hct hv hlen hd
  rcases (HCT.out ▸ chkT_3 (.mk k n s l) : ct = 0 ∨ ct = 1 ∨ ct = 2) with h0 | h0
  · subst h0
    have HF := chkT_0 HCT.out
    have E1 := Lib.hid (HE.out HF.1)
    have EP : Hid (EncPost (.mk k n s l) w = fun e w' => (∃ u, e = .returned (.tuple #[u, .int .i64 0]) ∧ Owns w' w.heap.size u (encV (.mk k n s l))) ∧ Below w.heap.size w w') := Lib.hid (by
      funext e w'; unfold EncPost; rw [HCT.out, if_pos rfl])
    rw [EP.out]
    clear HF HE EP HCT
    go_enter Tryd.func49, Tryd.ntmps49
    have B0 := Lib.hid (Below.refl w.heap.size w)
    go_upto_region 1 with fail
    obtain ⟨w1, hw1⟩ : ∃ y, w.alloc (.cells #[.int .i64 k, .int .i64 n, .string s, .slice a m cap] 51) = y := ⟨_, rfl⟩
    have b1 : Below w.heap.size w w1 := by rw [← hw1]; exact (Below.refl _ _).alloc (Nat.le_refl _) _
    have V1 : Hid (RowV w1 w.heap.size 51 4 (valC k n s (.slice a m cap))) := Lib.hid (by rw [← hw1]; exact RowV.new w _ 4 (valC k n s (.slice a m cap)))
    have z1 : w.heap.size + 1 = w1.heap.size := by rw [← hw1]; exact (Array.size_push _).symm
    rw [hw1]
    (try rw [z1])
    have B1 := Lib.hid (B0.out.trans (b1.mono B0.out.size))
    clear b1 hw1 z1 B0
    have x0 : _ = some (Value.int .i64 k) := V1.out.cell (i := 0) (by decide)
    have x1 : _ = some (Value.int .i64 n) := V1.out.cell (i := 1) (by decide)
    have x2 : _ = some (Value.string s) := V1.out.cell (i := 2) (by decide)
    have x3 : _ = some (Value.slice a m cap) := V1.out.cell (i := 3) (by decide)
    have C1 := Lib.hid (HV.out.later B1.out)
    go_wp2_with fail
    refine (H.out _ C1.out).mono ?_
    rintro e w2 ⟨rfl, b2⟩
    have B2 := Lib.hid (B1.out.trans (b2.mono B1.out.size))
    have V2 := Lib.hid (V1.out.below b2)
    clear b2 B1 V1
    clear x0 x1 x2 x3 H C1
    have x0 : _ = some (Value.int .i64 k) := V2.out.cell (i := 0) (by decide)
    have x1 : _ = some (Value.int .i64 n) := V2.out.cell (i := 1) (by decide)
    have x2 : _ = some (Value.string s) := V2.out.cell (i := 2) (by decide)
    have x3 : _ = some (Value.slice a m cap) := V2.out.cell (i := 3) (by decide)
    have C2 := Lib.hid (HV.out.later B2.out)
    go_wp2_with fail
    refine (E1.out _ C2.out).mono ?_
    rintro e w3 ⟨⟨u, rfl, o3⟩, b3⟩
    have O3 := Lib.hid (o3.lower B2.out.size)
    have B3 := Lib.hid (B2.out.trans (b3.mono B2.out.size))
    clear o3 b3 x0 x1 x2 x3 C2
    go_wp2_with fail
    go_ret2
    exact ⟨⟨u, rfl, O3.out⟩, B3.out⟩
  · have EP : Hid (EncPost (.mk k n s l) w = fun e w' => e = .returned (.tuple #[.slice none 0 0, .int .i64 ct]) ∧ Below w.heap.size w w') := Lib.hid (by
      funext e w'; unfold EncPost; rw [HCT.out, if_neg (by rcases h0 with h | h <;> rw [h] <;> decide)])
    rw [EP.out]
    clear EP HE HCT
    rcases h0 with h0 | h0 <;> subst h0
    · go_enter Tryd.func49, Tryd.ntmps49
      have B0 := Lib.hid (Below.refl w.heap.size w)
      go_upto_region 1 with fail
      obtain ⟨w1, hw1⟩ : ∃ y, w.alloc (.cells #[.int .i64 k, .int .i64 n, .string s, .slice a m cap] 51) = y := ⟨_, rfl⟩
      have b1 : Below w.heap.size w w1 := by rw [← hw1]; exact (Below.refl _ _).alloc (Nat.le_refl _) _
      have V1 : Hid (RowV w1 w.heap.size 51 4 (valC k n s (.slice a m cap))) := Lib.hid (by rw [← hw1]; exact RowV.new w _ 4 (valC k n s (.slice a m cap)))
      have z1 : w.heap.size + 1 = w1.heap.size := by rw [← hw1]; exact (Array.size_push _).symm
      rw [hw1]
      (try rw [z1])
      have B1 := Lib.hid (B0.out.trans (b1.mono B0.out.size))
      clear b1 hw1 z1 B0
      have x0 : _ = some (Value.int .i64 k) := V1.out.cell (i := 0) (by decide)
      have x1 : _ = some (Value.int .i64 n) := V1.out.cell (i := 1) (by decide)
      have x2 : _ = some (Value.string s) := V1.out.cell (i := 2) (by decide)
      have x3 : _ = some (Value.slice a m cap) := V1.out.cell (i := 3) (by decide)
      have C1 := Lib.hid (HV.out.later B1.out)
      go_wp2_with fail
      refine (H.out _ C1.out).mono ?_
      rintro e w2 ⟨rfl, b2⟩
      have B2 := Lib.hid (B1.out.trans (b2.mono B1.out.size))
      have V2 := Lib.hid (V1.out.below b2)
      clear b2 B1 V1
      go_wp2_with fail
      go_ret2
      exact ⟨rfl, B2.out⟩
    · go_enter Tryd.func49, Tryd.ntmps49
      have B0 := Lib.hid (Below.refl w.heap.size w)
      go_upto_region 1 with fail
      obtain ⟨w1, hw1⟩ : ∃ y, w.alloc (.cells #[.int .i64 k, .int .i64 n, .string s, .slice a m cap] 51) = y := ⟨_, rfl⟩
      have b1 : Below w.heap.size w w1 := by rw [← hw1]; exact (Below.refl _ _).alloc (Nat.le_refl _) _
      have V1 : Hid (RowV w1 w.heap.size 51 4 (valC k n s (.slice a m cap))) := Lib.hid (by rw [← hw1]; exact RowV.new w _ 4 (valC k n s (.slice a m cap)))
      have z1 : w.heap.size + 1 = w1.heap.size := by rw [← hw1]; exact (Array.size_push _).symm
      rw [hw1]
      (try rw [z1])
      have B1 := Lib.hid (B0.out.trans (b1.mono B0.out.size))
      clear b1 hw1 z1 B0
      have x0 : _ = some (Value.int .i64 k) := V1.out.cell (i := 0) (by decide)
      have x1 : _ = some (Value.int .i64 n) := V1.out.cell (i := 1) (by decide)
      have x2 : _ = some (Value.string s) := V1.out.cell (i := 2) (by decide)
      have x3 : _ = some (Value.slice a m cap) := V1.out.cell (i := 3) (by decide)
      have C1 := Lib.hid (HV.out.later B1.out)
      go_wp2_with fail
      refine (H.out _ C1.out).mono ?_
      rintro e w2 ⟨rfl, b2⟩
      have B2 := Lib.hid (B1.out.trans (b2.mono B1.out.size))
      have V2 := Lib.hid (V1.out.below b2)
      clear b2 B1 V1
      go_wp2_with fail
      go_ret2
      exact ⟨rfl, B2.out⟩
set_option maxRecDepth 100000 in
set_option maxHeartbeats 2000000 in
theorem rint_any (n : Int) (w : World) :
    Calls Tryd.prog 48 #[.int .i64 n] w fun e w' => e = .returned (.agg #[.int .i64 1, .int .i64 n, .string ByteArray.empty, .slice none 0 0]) ∧ Below w.heap.size w w' := by
  go_enter Tryd.func48, Tryd.ntmps48
  go_wp2_with fail
  refine bodyPost_ret (v := .agg #[.int .i64 1, .int .i64 n, .string ByteArray.empty, .slice none 0 0]) (by exact results_rowV (fn := Tryd.f48) (p := 2) (ty := 51) rfl _ _ w.heap.size 4 51 (valC 1 n ByteArray.empty (.slice none 0 0)) _ rfl (RowV.new w _ 4 (valC 1 n ByteArray.empty (.slice none 0 0))) Tryd.underlying51 rfl (by kernel_rfl)) rfl ⟨rfl, ?_⟩
  exact (Below.refl _ w).alloc (Nat.le_refl _) _
set_option maxRecDepth 100000 in
set_option maxHeartbeats 2000000 in
theorem rtext_any (s : ByteArray) (w : World) :
    Calls Tryd.prog 73 #[.string s] w fun e w' => e = .returned (.agg #[.int .i64 2, .int .i64 0, .string s, .slice none 0 0]) ∧ Below w.heap.size w w' := by
  go_enter Tryd.func73, Tryd.ntmps73
  go_wp2_with fail
  refine bodyPost_ret (v := .agg #[.int .i64 2, .int .i64 0, .string s, .slice none 0 0]) (by exact results_rowV (fn := Tryd.f73) (p := 2) (ty := 51) rfl _ _ w.heap.size 4 51 (valC 2 0 s (.slice none 0 0)) _ rfl (RowV.new w _ 4 (valC 2 0 s (.slice none 0 0))) Tryd.underlying51 rfl (by kernel_rfl)) rfl ⟨rfl, ?_⟩
  exact (Below.refl _ w).alloc (Nat.le_refl _) _
set_option maxRecDepth 100000 in
set_option maxHeartbeats 2000000 in
theorem rlist_any (a : Option Addr) (m cap : Nat) (w : World) :
    Calls Tryd.prog 72 #[.slice a m cap] w fun e w' => e = .returned (.agg #[.int .i64 3, .int .i64 0, .string ByteArray.empty, .slice a m cap]) ∧ Below w.heap.size w w' := by
  go_enter Tryd.func72, Tryd.ntmps72
  go_wp2_with fail
  refine bodyPost_ret (v := .agg #[.int .i64 3, .int .i64 0, .string ByteArray.empty, .slice a m cap]) (by exact results_rowV (fn := Tryd.f72) (p := 2) (ty := 51) rfl _ _ w.heap.size 4 51 (valC 3 0 ByteArray.empty (.slice a m cap)) _ rfl (RowV.new w _ 4 (valC 3 0 ByteArray.empty (.slice a m cap))) Tryd.underlying51 rfl (by kernel_rfl)) rfl ⟨rfl, ?_⟩
  exact (Below.refl _ w).alloc (Nat.le_refl _) _
end Go.Proofs.YtbjbgneejdjniaaDoor

namespace Go.Proofs.YtbjbgneejdjniaaDoor
open Go.RowKit Cod
set_option maxRecDepth 100000 in
theorem want_true (p : Value) (w : World) : Calls Tryd.prog 52 #[p, .bool true] w fun e w' => e = .returned (.tuple #[]) ∧ w = w' := by
  go_enter Tryd.func52, Tryd.ntmps52
  go_wp2
  go_end0
  exact ⟨rfl, rfl⟩
set_option maxRecDepth 100000 in
theorem want_false (p : Value) (w : World) : Calls Tryd.prog 52 #[p, .bool false] w fun e w' => e = (Ending.panicked [{ v := .iface 30 (.int .i64 10), recovered := false }]) ∧ w = w' := by
  go_enter Tryd.func52, Tryd.ntmps52
  go_wp2
  exact ⟨rfl, rfl, rfl⟩
/-- the bytes that a reader has still to read -/
def RdAt (w : World) (rb : Nat) (v : Value) (l : List UInt8) : Prop := RowV w rb 97 1 (fun _ => v) ∧ BytesAt w v l
theorem BytesAt.only {w w' : World} {rb : Nat} {v : Value} {l : List UInt8} (h : RdAt w rb v l) (u : Value) (m : List UInt8) (hu : BytesAt w u m) (ho : OnlyB rb w w') : BytesAt w' u m := by
  obtain ⟨h1, h2⟩ := h
  obtain ⟨a, c, rfl⟩ := h2.slice
  rcases hu with hu | ⟨b, off, cap, e1, e2, e3, e4, e5, e6⟩
  · exact .inl hu
  · have hne : b ≠ rb := by
      intro e
      subst e
      have h3 := e6 0 e3
      rw [Nat.add_zero] at h3
      by_cases h0 : off = 0
      · subst h0
        rw [h1.cell (i := 0) (by decide)] at h3
        cases h3
      · have : w.cell? ⟨b, off, none⟩ = none := by
          simp [World.cell?, show w.heap[b]? = _ from h1, rowF]
          omega
        rw [this] at h3; cases h3
    exact .inr ⟨b, off, cap, e1, e2, e3, e4, Nat.lt_of_lt_of_le e5 ho.size, fun j hj => (ho.cell (p := ⟨b, off + j, none⟩) e5 hne).trans (e6 j hj)⟩
theorem rd_set {w : World} {rb : Nat} {v : Value} {l : List UInt8} (h : RdAt w rb v l) (u : Value) : RowV (w.setCell ⟨rb, 0, none⟩ u) rb 97 1 (fun _ => u) :=
  (h.1.set 0 u).congr (fun i hi => if_pos (by omega))
theorem rd_only {w : World} {rb : Nat} {v : Value} {l : List UInt8} (h : RdAt w rb v l) (u : Value) : OnlyB rb w (w.setCell ⟨rb, 0, none⟩ u) := (OnlyB.refl rb w).setCell (p := ⟨rb, 0, none⟩) (.inl rfl) u
theorem bytes_none (w : World) (a : Addr) (k : Nat) : BytesAt w (.slice (some a) 0 k) [] := .inl ⟨⟨some a, k, rfl, fun h => by cases h⟩, rfl⟩
theorem bytes_take {w : World} {b off n : Nat} {l : List UInt8} (hn : n ≤ l.length) (hl : (l.length : Int) ≤ 140737488351232) (hb : b < w.heap.size) (hcell : ∀ j, j < l.length → w.cell? ⟨b, off + j, none⟩ = some (vB (l.getD j 0))) :
    BytesAt w (.slice (some ⟨b, off, none⟩) n n) (l.take n) := by
  have ht : (l.take n).length = n := by rw [List.length_take]; omega
  by_cases h0 : n = 0
  · subst h0; exact bytes_none _ _ _
  · refine .inr ⟨b, off, n, by rw [ht], by omega, by omega, ⟨by omega, by omega⟩, hb, fun j hj => ?_⟩
    rw [ht] at hj
    rw [hcell j (by omega)]
    simp [List.getD_eq_getElem?_getD, List.getElem?_take_of_lt hj]
set_option maxRecDepth 100000 in
set_option maxHeartbeats 4000000 in
theorem take_no (rb : Nat) (v : Value) (l : List UInt8) (n : Nat) (w : World) (h : RdAt w rb v l) (hn : l.length < n) :
    Calls Tryd.prog 74 #[.pointer (some ⟨rb, 0, none⟩), .int .i64 (n : Int)] w fun e w' => e = (Ending.panicked [{ v := .iface 30 (.int .i64 10), recovered := false }]) ∧ w = w' := by
  obtain ⟨a, c, hv⟩ := h.2.slice
  obtain ⟨m, hm⟩ : ∃ m, l.length = m := ⟨_, rfl⟩
  rw [hm] at hv hn
  subst hv
  have c0 : w.cell? ⟨rb, 0, none⟩ = some (.slice a m c) := h.1.cell (i := 0) (by decide)
  have d0 : decide ((n : Int) ≤ (m : Int)) = false := by rw [decide_eq_false_iff_not]; omega
  have d1 : decide (n ≤ m) = false := by rw [decide_eq_false_iff_not]; omega
  clear h hm hn
  go_enter Tryd.func74, Tryd.ntmps74
  go_wp2_with fail
  refine (want_false _ _).mono ?_
  rintro e w' ⟨rfl, rfl⟩
  go_wp2_with fail
  exact ⟨rfl, rfl, rfl⟩
set_option maxRecDepth 100000 in
set_option maxHeartbeats 4000000 in
theorem take_ok (rb : Nat) (v : Value) (l : List UInt8) (n : Nat) (w : World) (h : RdAt w rb v l) (hn : n ≤ l.length) :
    Calls Tryd.prog 74 #[.pointer (some ⟨rb, 0, none⟩), .int .i64 (n : Int)] w fun e w' => ∃ u v', e = .returned u ∧ BytesAt w' u (l.take n) ∧ RdAt w' rb v' (l.drop n) ∧ OnlyB rb w w' ∧ v'.ownBlock = v.ownBlock := by
  have HR := Lib.hid h
  have SET := Lib.hid (fun (u : Value) => rd_set h u)
  have ONL := Lib.hid (fun (u : Value) => rd_only h u)
  rcases h.2 with ⟨⟨a, c, hv, hc⟩, hl⟩ | ⟨b, off, cap, hv, hle, hpos, hcap, hb, hcell⟩
  · subst hl
    obtain rfl : n = 0 := by simpa using hn
    subst hv
    have c0 : w.cell? ⟨rb, 0, none⟩ = some (.slice a 0 c) := h.1.cell (i := 0) (by decide)
    have f0 : w.frozen? ⟨rb, 0, none⟩ = false := h.1.frozen 0
    clear h hn
    cases a with
    | none =>
      obtain rfl := hc rfl
      clear hc
      go_enter Tryd.func74, Tryd.ntmps74
      go_wp2_with fail
      refine (want_true _ _).mono ?_
      rintro e w' ⟨rfl, rfl⟩
      go_wp2_with fail
      go_ret
      exact ⟨_, _, rfl, .inl ⟨⟨none, 0, rfl, fun _ => rfl⟩, rfl⟩, ⟨SET.out _, .inl ⟨⟨none, 0, rfl, fun _ => rfl⟩, rfl⟩⟩, ONL.out _, rfl⟩
    | some a =>
      clear hc
      by_cases h0 : c = 0
      · subst h0
        go_enter Tryd.func74, Tryd.ntmps74
        go_wp2_with fail
        refine (want_true _ _).mono ?_
        rintro e w' ⟨rfl, rfl⟩
        go_wp2_with fail
        go_ret
        exact ⟨_, _, rfl, bytes_none _ _ _, ⟨SET.out _, bytes_none _ _ _⟩, ONL.out _, rfl⟩
      · go_enter Tryd.func74, Tryd.ntmps74
        go_wp2_with fail
        refine (want_true _ _).mono ?_
        rintro e w' ⟨rfl, rfl⟩
        go_wp2_with fail
        go_ret
        exact ⟨_, _, rfl, bytes_none _ _ _, ⟨SET.out _, bytes_none _ _ _⟩, ONL.out _, rfl⟩
  · subst hv
    obtain ⟨m, hm⟩ : ∃ m, l.length = m := ⟨_, rfl⟩
    have c0 : w.cell? ⟨rb, 0, none⟩ = some (.slice (some ⟨b, off, none⟩) l.length cap) := h.1.cell (i := 0) (by decide)
    rw [hm] at c0
    have f0 : w.frozen? ⟨rb, 0, none⟩ = false := h.1.frozen 0
    have d0 : decide ((n : Int) ≤ (m : Int)) = true := by rw [decide_eq_true_iff]; omega
    have d1 : decide (n ≤ m) = true := by rw [decide_eq_true_iff]; omega
    have HC := Lib.hid hcell
    have HM := Lib.hid hm
    have HN := Lib.hid hn
    have HE := Lib.hid hle
    have HP := Lib.hid hcap
    have HB := Lib.hid hb
    clear h hcell hm hcap hpos
    by_cases hcn : cap = n
    · obtain rfl : cap = n := hcn
      obtain rfl : m = cap := by have := HM.out; omega
      clear hle hn hb d0 d1
      go_enter Tryd.func74, Tryd.ntmps74
      go_wp2_with fail
      refine (want_true _ _).mono ?_
      rintro e w' ⟨rfl, rfl⟩
      go_wp2_with fail
      go_ret
      refine ⟨_, _, rfl, BytesAt.only HR.out _ _ (bytes_take HN.out HP.out.1 HB.out HC.out) (ONL.out _), ⟨SET.out _, ?_⟩, ONL.out _, rfl⟩
      rw [List.drop_eq_nil_of_le (by rw [HM.out]; exact Nat.le_refl _)]
      exact bytes_none _ _ _
    · have hlt : n < cap := by omega
      have hle' : n ≤ m := by have := HM.out; omega
      have hle2 : m ≤ cap := by have := HM.out; omega
      clear hle hn hb hcn
      go_enter Tryd.func74, Tryd.ntmps74
      go_wp2_with fail
      refine (want_true _ _).mono ?_
      rintro e w' ⟨rfl, rfl⟩
      go_wp2_with fail
      go_ret
      refine ⟨_, _, rfl, BytesAt.only HR.out _ _ (bytes_take HN.out HP.out.1 HB.out HC.out) (ONL.out _), ⟨SET.out _, BytesAt.only HR.out _ _ ?_ (ONL.out _)⟩, ONL.out _, rfl⟩
      have h1 := BytesAt.drop_at (w := w) (b := b) (o := off) (cap := cap) (k := n) (l := l) HE.out HP.out HB.out HC.out HN.out
      rw [HM.out] at h1
      exact h1
end Go.Proofs.YtbjbgneejdjniaaDoor
