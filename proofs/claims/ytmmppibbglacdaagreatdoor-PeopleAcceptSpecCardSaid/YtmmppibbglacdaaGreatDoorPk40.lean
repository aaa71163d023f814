/- Package acks: valid, formed. Package acks: list, message. Package acks: message, Make, Check, Encode. Package acks: Make. Package people: message, Certify; its reference; numbers of a list, encoded. Package people: Certify. -/
import Derived.Test.YtmmppibbglacdaaGreatDoorPk39
import Derived.Test.YtmmppibbglacdaaGreatDoorPk29
import Derived.Test.YtmmppibbglacdaaGreatDoorPk23
set_option linter.unusedVariables false
set_option linter.unusedSimpArgs false
namespace Go.Proofs.YtmmppibbglacdaaGreatDoor
open Go.RowKit Cod
/-- a slice of integers -/
def IntsS (w : World) (v : Value) (zs : List Int) : Prop := SlAt 1 w v zs.length (fun i _ => .int .i64 (zs.getD i 0))
/-- new integers -/
theorem ints_new (w : World) (T : TypeId) (zs : List Int) (n : Nat) (hn : zs.length = n) (h0 : 0 < n) (h1 : n ≤ 1000) : IntsS (w.alloc (.cells (rowF n fun i => .int .i64 (zs.getD i 0)) T)) (.slice (some ⟨w.heap.size, 0, none⟩) n n) zs := by
  have h := RowV.new w T n (fun i => .int .i64 (zs.getD i 0))
  refine .inr ⟨w.heap.size, 0, n, by rw [hn], by omega, by omega, ⟨by omega, by omega⟩, h.lt, fun i hi j hj => ?_⟩
  obtain rfl : j = 0 := by omega
  rw [show 0 + 1 * i + 0 = i by omega]
  exact h.cell (by omega)
end Go.Proofs.YtmmppibbglacdaaGreatDoor

namespace Go.Proofs.YtmmppibbglacdaaGreatDoor
open Go.RowKit Cod
/-- a list value that is built in block bv: its elements so far; w0: the world in which it began -/
structure LstI (w0 : World) (bv : Nat) (sl : Value) (ts : List Tv) (wx : World) : Prop where
  own : OwnV wx w0.heap.size sl ts
  row : RowV wx bv 90 4 (valC 3 0 ⟨#[]⟩ sl)
  only : OnlyB bv w0 wx
  lt : bv < w0.heap.size
section
variable {w0 wx : World} {bv : Nat} {sl : Value} {ts : List Tv}
theorem LstI.start (w : World) : LstI (w.alloc (.cells (rowF 4 (valC 3 0 ⟨#[]⟩ (.slice none 0 0))) 90)) w.heap.size (.slice none 0 0) [] (w.alloc (.cells (rowF 4 (valC 3 0 ⟨#[]⟩ (.slice none 0 0))) 90)) :=
  ⟨OwnV.nil _ _, RowV.new w _ 4 _, OnlyB.refl _ _, by rw [World.size_alloc]; omega⟩
theorem LstI.later {wy : World} (h : LstI w0 bv sl ts wx) (b : Below wx.heap.size wx wy) : LstI w0 bv sl ts wy :=
  ⟨h.own.keep ⟨b.os, b.tape, b.output, b.size, fun k hk _ => b.block k hk⟩ (fun k _ hk => b.block k hk), h.row.below b, h.only.trans (OnlyB.of_below b), h.lt⟩
theorem LstI.alloc (h : LstI w0 bv sl ts wx) (o : Obj) : LstI w0 bv sl ts (wx.alloc o) := h.later ((Below.refl _ _).alloc (Nat.le_refl _) o)
theorem LstI.cell (h : LstI w0 bv sl ts wx) : wx.cell? ⟨bv, 3, none⟩ = some sl := h.row.cell (i := 3) (by decide)
theorem LstI.frozen (h : LstI w0 bv sl ts wx) : wx.frozen? ⟨bv, 3, none⟩ = false := h.row.frozen 3
theorem LstI.size (h : LstI w0 bv sl ts wx) : w0.heap.size ≤ wx.heap.size := h.only.size
theorem LstI.push {w9 : World} {v9 : Value} {t : Tv} (h : LstI w0 bv sl ts wx) (hO : OwnV w9 w0.heap.size v9 (ts ++ [t])) (s : AppStep wx sl w9 v9) :
    LstI w0 bv v9 (ts ++ [t]) (w9.setCell ⟨bv, 3, none⟩ v9) := by
  have hl : ∀ k, sl.ownBlock = some k → w0.heap.size ≤ k := fun k e => (h.own.lt k e).1
  have o := (OnlyB.refl bv w9).setCell (p := ⟨bv, 3, none⟩) (.inl rfl) v9
  have hr : RowV w9 bv 90 4 (valC 3 0 ⟨#[]⟩ sl) := s.row h.row (fun e => by have := hl bv e; have := h.lt; omega)
  exact ⟨hO.only (rb := bv) o.os o.tape o.output o.size o.block h.lt, V_set hr 3 v9 (by intro i hi; match i, hi with | 0, _ => rfl | 1, _ => rfl | 2, _ => rfl | 3, _ => rfl), (only_app h.only s hl).trans o, h.lt⟩
theorem LstI.value (h : LstI w0 bv sl ts wx) (hn : ts.length ≤ 1000000) : CodAt wx (.agg #[.int .i64 3, .int .i64 0, .string ⟨#[]⟩, sl]) (lstT ts) := by
  obtain ⟨c, h1, h2⟩ := h.own.read (S := fun b => True) (by omega) (fun _ _ => trivial)
  exact .mk 3 0 ByteArray.empty sl ts c ⟨by decide, by decide⟩ ⟨by decide, by decide⟩ (by decide) h1.at' (fun i hi => (h2 i hi).at')
theorem LstI.slice (h : LstI w0 bv sl ts wx) : ∃ (a : Option Addr) (n c : Nat), sl = .slice a n c := by obtain ⟨a, c, e⟩ := h.own.slice; exact ⟨a, _, c, e⟩
/-- behind the append, ahead of the store -/
theorem LstI.mid {w9 : World} {v9 : Value} (h : LstI w0 bv sl ts wx) (s : AppStep wx sl w9 v9) : w9.cell? ⟨bv, 3, none⟩ = some sl ∧ w9.frozen? ⟨bv, 3, none⟩ = false := by
  have hr : RowV w9 bv 90 4 (valC 3 0 ⟨#[]⟩ sl) := s.row h.row (fun e => by have := (h.own.lt bv e).1; have := h.lt; omega)
  exact ⟨hr.cell (i := 3) (by decide), hr.frozen 3⟩
theorem OwnV.slice3 {w : World} {base : Nat} {v : Value} {ts : List Tv} (h : OwnV w base v ts) : ∃ (a : Option Addr) (n c : Nat), v = .slice a n c := by obtain ⟨a, c, e⟩ := h.slice; exact ⟨a, _, c, e⟩
theorem LstI.row' (h : LstI w0 bv sl ts wx) {B n : Nat} {T : TypeId} {g : Nat → Value} (r : RowV w0 B T n g) (hne : B ≠ bv) : RowV wx B T n g := h.only.row hne r
end
theorem leafS (S : Nat → Prop) (w : World) {n : Int} (hn : i64B n) : CodS S w (.agg (rowF 4 (valC 1 n ⟨#[]⟩ (.slice none 0 0)))) (numT n) := CodS.leaf S w ⟨by decide, by decide⟩ hn (by decide)
end Go.Proofs.YtmmppibbglacdaaGreatDoor

namespace Go.Proofs.YtmmppibbglacdaaGreatDoor
open Go.RowKit Cod
end Go.Proofs.YtmmppibbglacdaaGreatDoor

namespace Go.Proofs.YtmmppibbglacdaaGreatDoor
open Go.RowKit Cod
theorem wpList_build {P : Program} {w : World} {ops : Array Oper} {rest : List Oper} {o : Oper} {a : Act} {Q : Exit → Act → World → Prop} (hgd : o.guard = none) (t : TypeId) (parts : Array (Nat × Operand)) (ho : o.op = .build t parts) (vs : Array (Nat × Value)) (hv : (parts.map fun (i, x) => (i, a.eval x)) = vs) (v : Value)
    (hrun : (Instr.build t vs).run P w = .ok v w) (h : wpList P ops Q rest (a.put o.dst v) w) : wpList P ops Q (o :: rest) a w := by
  refine wpList_val hgd v ?_ h
  unfold execOp
  subst hv
  simp only [ho, Sem.run_bind, Sem.run_pure, hrun, Result.andThen_ok]
theorem pubE_two (x : Int) : pubE x = 0 ∨ pubE x = 50 := by unfold pubE; split <;> simp
theorem Ak.sig_cells (a : Ak) (r g : Int) : ∀ i, i < 38 → (if 36 ≤ i ∧ i < 36 + 2 then (fun j => if j = 0 then Value.int .i64 r else .int .i64 g) (i - 36) else akC a i) = akC ⟨a.f, a.d, a.s, a.u, a.ch, r, g⟩ i := by
  intro i hi
  by_cases h : 36 ≤ i ∧ i < 36 + 2
  · rw [if_pos h]
    rcases (show i = 36 ∨ i = 37 by omega) with rfl | rfl <;> rfl
  · rw [if_neg h]
    unfold akC
    by_cases h2 : 4 ≤ i ∧ i < 36
    · rw [if_pos h2, if_pos h2]
    · rw [if_neg h2, if_neg h2]
      rcases (show i = 0 ∨ i = 1 ∨ i = 2 ∨ i = 3 by omega) with rfl | rfl | rfl | rfl <;> rfl
end Go.Proofs.YtmmppibbglacdaaGreatDoor

namespace Go.Proofs.YtmmppibbglacdaaGreatDoor
open Go.RowKit Cod
theorem OwnV.value {w : World} {base : Nat} {sl : Value} {ts : List Tv} (h : OwnV w base sl ts) (hn : ts.length ≤ 1000000) : CodAt w (.agg #[.int .i64 3, .int .i64 0, .string ⟨#[]⟩, sl]) (lstT ts) := by
  obtain ⟨c, h1, h2⟩ := h.read (S := fun b => True) (by omega) (fun _ _ => trivial)
  exact .mk 3 0 ByteArray.empty sl ts c ⟨by decide, by decide⟩ ⟨by decide, by decide⟩ (by decide) h1.at' (fun i hi => (h2 i hi).at')
section
variable {zs : List Int} (h : ∀ z ∈ zs, i64B z) (hl : zs.length ≤ 100) {v : Value} {w : World} (hv : CodAt w v (lstT (zs.map numT)))
include h hl hv
theorem enc_nums : Calls Tryz.prog 56 #[v] w fun e w' => (∃ u, e = .returned (.tuple #[u, .int .i64 0]) ∧ Owns w' w.heap.size u (encN zs)) ∧ Below w.heap.size w w' := by
  have CT := encN_chk zs
  have E := cencode_any (lstT (zs.map numT)) v w CT.2 hv (Nat.le_trans (encN_len zs h hl) (by decide))
  refine E.mono fun e w' h2 => ?_
  unfold EncPost at h2
  rw [if_pos CT.1] at h2
  exact h2
theorem renc_nums : Calls Tryz.prog 65 #[v] w fun e w' => (∃ u, e = .returned (.tuple #[u, .int .i64 0]) ∧ Owns w' w.heap.size u (encN zs)) ∧ Below w.heap.size w w' := by
  have CT := encN_chk zs
  have E := rcencode_any (lstT (zs.map numT)) v w CT.2 hv (Nat.le_trans (encN_len zs h hl) (by decide))
  refine E.mono fun e w' h2 => ?_
  unfold EncPost at h2
  rw [if_pos CT.1] at h2
  exact h2
end
theorem idx6 (a b c d e f : Int) (k : Nat) (hk : k < 6) (w : World) : (Instr.index 91 (.agg #[.int .i64 a, .int .i64 b, .int .i64 c, .int .i64 d, .int .i64 e, .int .i64 f]) (.int .i64 (k : Int))).run Tryz.prog w = .ok (.int .i64 ([a, b, c, d, e, f].getD k 0)) w := by
  match k, hk with
  | 0, _ => (refine (?_ : _ = _); kernel_rfl)
  | 1, _ => (refine (?_ : _ = _); kernel_rfl)
  | 2, _ => (refine (?_ : _ = _); kernel_rfl)
  | 3, _ => (refine (?_ : _ = _); kernel_rfl)
  | 4, _ => (refine (?_ : _ = _); kernel_rfl)
  | 5, _ => (refine (?_ : _ = _); kernel_rfl)
set_option maxRecDepth 100000 in
set_option maxHeartbeats 8000000 in
theorem pmessage_any (c : Ct) (hc : c.wf) (w : World) (hT : Tab w) :
    Calls Tryz.prog 29 #[.agg (rowF 8 (ctC c))] w fun e w' => (∃ v, e = .returned v ∧ BytesAt w' v (msgC c)) ∧ Below w.heap.size w w' := by
  have HT := Lib.hid hT
  have EL := Lib.hid (encN_len (numsC c) (numsC_bd hc) (show (6 : Nat) ≤ 100 by decide))
  have EN := Lib.hid (fun v W (h : CodAt W v (lstT ((numsC c).map numT))) => enc_nums (numsC_bd hc) (show (6 : Nat) ≤ 100 by decide) h)
  have G := Lib.hid (fun v W (h : BytesAt W v (encN (numsC c))) (hT : Tab W) => tagged_any ⟨#[99, 101, 114, 116]⟩ v _ W (by decide) (Nat.le_trans EL.out (by decide)) h hT)
  have HB : Hid (∀ k, k < 6 → i64B ((numsC c).getD k 0)) := Lib.hid (by
    intro k hk
    match k, hk with
    | 0, _ => exact hc.k
    | 1, _ => exact hc.d
    | 2, _ => exact hc.v
    | 3, _ => exact hc.l
    | 4, _ => exact hc.n
    | 5, _ => exact hc.b)
  clear hT hc
  go_enter Tryz.func29, Tryz.ntmps29
  have B0 := Lib.hid (Below.refl w.heap.size w)
  go_upto_region 1 with fail
  obtain ⟨w1, hw1⟩ : ∃ y, w.alloc (.cells (rowF 8 (ctC c)) 33) = y := ⟨_, rfl⟩
  have b1 : Below w.heap.size w w1 := by rw [← hw1]; exact (Below.refl _ _).alloc (Nat.le_refl _) _
  have A1 : Hid (RowV w1 w.heap.size 33 8 (ctC c)) := Lib.hid (by rw [← hw1]; exact RowV.new w _ 8 (ctC c))
  have z1 : w.heap.size + 1 = w1.heap.size := by rw [← hw1]; exact (Array.size_push _).symm
  rw [hw1]
  (try rw [z1])
  have B1 := Lib.hid (B0.out.trans (b1.mono B0.out.size))
  clear b1 hw1 z1 B0
  go_upto_region 2 with fail
  have BV := Lib.hid (show w.heap.size < w1.heap.size from A1.out.lt)
  obtain ⟨w2, hw2⟩ : ∃ y, w1.alloc (.cells #[.int .i64 3, .int .i64 0, .string ⟨#[]⟩, .slice none 0 0] 90) = y := ⟨_, rfl⟩
  have b2 : Below w1.heap.size w1 w2 := by rw [← hw2]; exact (Below.refl _ _).alloc (Nat.le_refl _) _
  have I2 : Hid (LstI w2 w1.heap.size (.slice none 0 0) [] w2) := Lib.hid (by rw [← hw2]; exact LstI.start w1)
  have z2 : w1.heap.size + 1 = w2.heap.size := by rw [← hw2]; exact (Array.size_push _).symm
  rw [hw2]
  (try rw [z2])
  have B2 := Lib.hid (B1.out.trans (b2.mono B1.out.size))
  have A2 := Lib.hid (A1.out.below b2)
  clear b2 hw2 z2 B1 A1
  have x0 : _ = some (Value.int .i64 c.k) := ct_cell A2.out (i := 0) (by decide)
  have x1 : _ = some (Value.int .i64 c.d) := ct_cell A2.out (i := 1) (by decide)
  have x2 : _ = some (Value.int .i64 c.v) := ct_cell A2.out (i := 2) (by decide)
  have x3 : _ = some (Value.int .i64 c.l) := ct_cell A2.out (i := 3) (by decide)
  have x4 : _ = some (Value.int .i64 c.n) := ct_cell A2.out (i := 4) (by decide)
  have x5 : _ = some (Value.int .i64 c.b) := ct_cell A2.out (i := 5) (by decide)
  go_wp2_with fail
  clear x0 x1 x2 x3 x4 x5 A2
  have IX := Lib.hid (fun k (hk : k < 6) W => idx6 c.k c.d c.v c.l c.n c.b k hk W)
  go_loopg [23] 6 (fun g s23 wx => ∃ (k : Nat) (sl : Value), k + g = 6 ∧ s23 = .int .i64 (k : Int) ∧ Hid (LstI w2 w1.heap.size sl (((numsC c).take k).map numT) wx))
  case atStart => exact ⟨0, .slice none 0 0, rfl, rfl, I2⟩
  case round =>
    obtain ⟨k, sl, hk, rfl, hI⟩ := hrel
    obtain ⟨w3, rfl⟩ : ∃ y, y = wr := ⟨_, rfl⟩
    have q0 : (0 : Int) ≤ (k : Int) := Int.natCast_nonneg k
    by_cases hlt : k < 6
    · have d0 : decide ((k : Int) < 6) = true := by rw [decide_eq_true_iff]; omega
      have d1 : decide (k < 6) = true := by rw [decide_eq_true_iff]; omega
      have ix := IX.out k hlt
      have HE : Hid (((numsC c).take (k + 1)).map numT = ((numsC c).take k).map numT ++ [numT ((numsC c).getD k 0)]) := Lib.hid (by
        rw [take_succ_getD 0 _ (show k < (numsC c).length from hlt), List.map_append]; rfl)
      have HX := Lib.hid (HB.out k hlt)
      have hxx : [c.k, c.d, c.v, c.l, c.n, c.b].getD k 0 = (numsC c).getD k 0 := rfl
      rw [hxx] at ix
      obtain ⟨x, hx⟩ : ∃ x, (numsC c).getD k 0 = x := ⟨_, rfl⟩
      rw [hx] at ix HE HX
      have HLT := Lib.hid hlt
      obtain ⟨ts, hts⟩ : ∃ y, ((numsC c).take k).map numT = y := ⟨_, rfl⟩
      have TL : Hid (ts.length ≤ 1000000) := Lib.hid (by rw [← hts, List.length_map, List.length_take]; have : (numsC c).length = 6 := rfl; omega)
      rw [hts] at HE hI
      obtain ⟨sa, sn, sc, rfl⟩ := hI.out.slice
      have xs := hI.out.cell
      clear hx hlt hts hxx
      go_wp2_with (first | ((with_reducible (show wpList _ _ _ (Oper.mk (some 31) _ _ _ _ _ :: _) _ _)); refine Hid.out ?_))
      refine Lib.hid ?_
      refine wpList_app_val rfl (.tmp 27) (.tmp 30) rfl w2.heap.size (.slice sa sn sc) ts rfl (hI.out.alloc _).own w3.heap.size 1 (valC 1 x ⟨#[]⟩ (.slice none 0 0)) (numT x) rfl (RowV.new w3 _ 4 (valC 1 x ⟨#[]⟩ (.slice none 0 0))) (leafS _ _ HX.out) TL.out (hI.out.alloc _).size ?_
      intro v9 w9 L9 s9
      obtain ⟨a9, n9, c9, rfl⟩ := L9.out.slice3
      obtain ⟨x9, f9⟩ := (hI.out.alloc _).mid s9.out
      have I9 := Lib.hid ((hI.out.alloc _).push L9.out s9.out)
      clear L9 s9 hI xs
      rw [← HE.out] at I9
      go_wp2_with fail
      go_roundg (gk - 1)
      case measure => have := HLT.out; omega
      case rel =>
        go_light
        exact ⟨k + 1, .slice a9 n9 c9, by have := HLT.out; omega, by go_num, I9⟩
    · obtain rfl : k = 6 := by omega
      clear hlt hk
      obtain ⟨sa, sn, sc, rfl⟩ := hI.out.slice
      have I3 : Hid (LstI w2 w1.heap.size (.slice sa sn sc) ((numsC c).map numT) w3) := hI
      have E := Lib.hid (EN.out _ w3 (I3.out.value (by rw [List.length_map]; show (6 : Nat) ≤ 1000000; decide)))
      have B3 := Lib.hid (B2.out.trans (I3.out.only.below (K := w.heap.size) (by have := BV.out; omega) (by have := BV.out; have := I2.out.lt; omega)))
      have T3 := Lib.hid (HT.out.below B3.out)
      clear hI q0 EN IX
      go_upto_region 7 with fail
      go_wp2_with (first | ((with_reducible (show wpList _ _ _ (Oper.mk (some 35) _ _ _ _ _ :: _) _ _)); refine Hid.out ?_))
      refine Lib.hid ?_
      refine wpList_load_rowV rfl 90 (.tmp 3) rfl w1.heap.size rfl 4 90 _ I3.out.row _ Tryz.underlying90 rfl (by kernel_rfl) ?_
      go_wp2_with fail
      refine E.out.mono ?_
      rintro e w4 ⟨⟨u, rfl, o4⟩, b4⟩
      have Y4 := Lib.hid (o4.bytesAt (by have := EL.out; omega))
      have B4 := Lib.hid (B3.out.trans (b4.mono B3.out.size))
      have T4 := Lib.hid (T3.out.below b4)
      clear o4 b4 E I3 T3 B3
      go_wp2_with fail
      refine (G.out _ _ Y4.out T4.out).mono ?_
      rintro e w5 ⟨rfl, b5⟩
      have B5 := Lib.hid (B4.out.trans (b5.mono B4.out.size))
      clear b5 T4 B4 Y4 G
      have Zr := Lib.hid (RowV.new w5 95 32 (fun _ => vB 0))
      go_upto_region 9 with ((with_reducible (show wpList _ _ _ (Oper.mk none _ _ _ _ _ :: _) _ _)); refine wpList_store_rowV (o := ⟨none, .store 95 (.tmp 8) (.tmp 40), _, _, _, _⟩) rfl 95 (.tmp 8) (.tmp 40) rfl w5.heap.size rfl 32 95 _ (fun j => vB ((msgC c).getD j 0)) rfl Zr.out (by kernel_rfl) (fun _ _ => rfl) ?_; intro w6 D6 o6)
      have b6 : Below w5.heap.size w5 w6 := ((Below.refl _ _).alloc (Nat.le_refl _) _).trans (o6.out.below (Nat.le_refl _) (by rw [World.size_alloc]; omega))
      have B6 := Lib.hid (B5.out.trans (b6.mono B5.out.size))
      clear b6 o6 Zr B5
      have Y := Lib.hid (D6.out.bytesAt (msgC_len c) (by decide) (by decide))
      go_wp2_with fail
      go_ret
      exact ⟨⟨_, rfl, Y.out⟩, B6.out⟩
end Go.Proofs.YtmmppibbglacdaaGreatDoor

namespace Go.Proofs.YtmmppibbglacdaaGreatDoor
open Go.RowKit Cod
abbrev crtParts (k d v l n b : Int) : Array (Nat × Value) := #[(0, .int .i64 k), (1, .int .i64 d), (2, .int .i64 v), (3, .int .i64 l), (4, .int .i64 n), (5, .int .i64 b)]
theorem build_crt (k d v l n b : Int) (W : World) : (Instr.build 33 (crtParts k d v l n b)).run Tryz.prog W = .ok (.agg (rowF 8 (ctC (ctN k d v l n b)))) W := by kernel_rfl
theorem Ct.sig_cells (c : Ct) (r g : Int) : ∀ i, i < 8 → (if 6 ≤ i ∧ i < 6 + 2 then (fun j => if j = 0 then Value.int .i64 r else .int .i64 g) (i - 6) else ctC c i) = ctC ⟨c.k, c.d, c.v, c.l, c.n, c.b, r, g⟩ i := by
  intro i hi
  match i, hi with
  | 0, _ => rfl
  | 1, _ => rfl
  | 2, _ => rfl
  | 3, _ => rfl
  | 4, _ => rfl
  | 5, _ => rfl
  | 6, _ => rfl
  | 7, _ => rfl
theorem crt_is (c : Ct) (x : Int) : crtV c x = if crtE c x = 0 then ⟨c.k, c.d, c.v, c.l, c.n, c.b, sgR x (msgC c), sgS x (msgC c)⟩ else ct0 := rfl
set_option maxRecDepth 100000 in
set_option maxHeartbeats 8000000 in
theorem pcertify_any (k d v l n b x : Int) (hc : (ctN k d v l n b).wf) (w : World) (hT : Tab w) :
    Calls Tryz.prog 13 #[.int .i64 k, .int .i64 d, .int .i64 v, .int .i64 l, .int .i64 n, .int .i64 b, .int .i64 x] w fun e w' => e = .returned (.tuple #[.agg (rowF 8 (ctC (crtV (ctN k d v l n b) x))), .int .i64 (crtE (ctN k d v l n b) x)]) ∧ Below w.heap.size w w' := by
  have T0 := Lib.hid hT
  obtain ⟨ak, hak⟩ : ∃ y : Ct, ctN k d v l n b = y := ⟨_, rfl⟩
  have HAK := Lib.hid hak
  rw [hak] at hc ⊢
  have F := Lib.hid (fun W => pformed_any ak W)
  have M := Lib.hid (fun W (h : Tab W) => pmessage_any ak hc W h)
  have SG := Lib.hid (fun v W (h : BytesAt W v (msgC ak)) (hT : Tab W) => sign_any x v _ W (by rw [msgC_len]; decide) h hT)
  have P2 := Lib.hid (pubE_two x)
  have VE : Hid (crtE ak x = if formC ak then pubE x else 370) := Lib.hid rfl
  have VV : Hid (crtV ak x = if crtE ak x = 0 then ⟨ak.k, ak.d, ak.v, ak.l, ak.n, ak.b, sgR x (msgC ak), sgS x (msgC ak)⟩ else ct0) := Lib.hid rfl
  obtain ⟨rv, hrv⟩ : ∃ y, crtV ak x = y := ⟨_, rfl⟩
  obtain ⟨re, hre⟩ : ∃ y, crtE ak x = y := ⟨_, rfl⟩
  rw [hrv, hre] at VV
  rw [hre] at VE
  rw [hrv, hre]
  obtain ⟨ok, hok⟩ : ∃ y, formC ak = y := ⟨_, rfl⟩
  obtain ⟨pe, hpe⟩ : ∃ y, pubE x = y := ⟨_, rfl⟩
  rw [hok] at F VE
  rw [hpe] at SG P2 VE
  clear hT hc hak hrv hre hok hpe
  go_enter Tryz.func13, Tryz.ntmps13
  have B0 := Lib.hid (Below.refl w.heap.size w)
  go_upto_region 1 with fail
  obtain ⟨w1, hw1⟩ : ∃ y, w.alloc (.cells #[.int .i64 0, .int .i64 0, .int .i64 0, .int .i64 0, .int .i64 0, .int .i64 0, .int .i64 0, .int .i64 0] 33) = y := ⟨_, rfl⟩
  have b1 : Below w.heap.size w w1 := by rw [← hw1]; exact (Below.refl _ _).alloc (Nat.le_refl _) _
  have Z1 : Hid (RowV w1 w.heap.size 33 8 (ctC ct0)) := Lib.hid (by rw [← hw1]; exact RowV.new w _ 8 (ctC ct0))
  have z1 : w.heap.size + 1 = w1.heap.size := by rw [← hw1]; exact (Array.size_push _).symm
  rw [hw1]
  (try rw [z1])
  have B1 := Lib.hid (B0.out.trans (b1.mono B0.out.size))
  have T1 := Lib.hid (T0.out.below b1)
  clear b1 hw1 z1 B0 T0
  have L1 := Lib.hid Z1.out.lt
  go_wp2_with (first | ((with_reducible (show wpList _ _ _ (Oper.mk (some 23) _ _ _ _ _ :: _) _ _)); refine Hid.out ?_))
  refine Lib.hid ?_
  refine wpList_build rfl 33 _ rfl (crtParts k d v l n b) (by simp only [List.map_toArray, List.map_cons, List.map_nil]; rfl) _ (build_crt k d v l n b _) ?_
  rw [HAK.out]
  have Zr := Lib.hid (RowV.new w1 33 8 (ctC ct0))
  go_upto_region 2 with ((with_reducible (show wpList _ _ _ (Oper.mk none _ _ _ _ _ :: _) _ _)); refine wpList_store_rowV (o := ⟨none, .store 33 (.tmp 16) (.tmp 23), _, _, _, _⟩) rfl 33 (.tmp 16) (.tmp 23) rfl w1.heap.size rfl 8 33 _ (ctC ak) rfl Zr.out (by kernel_rfl) (fun j _ => ctC_one ak j) ?_; intro w2 X2 o2)
  have b2 : Below w1.heap.size w1 w2 := ((Below.refl _ _).alloc (Nat.le_refl _) _).trans (o2.out.below (Nat.le_refl _) (by rw [World.size_alloc]; omega))
  have B2 := Lib.hid (B1.out.trans (b2.mono B1.out.size))
  have T2 := Lib.hid (T1.out.below b2)
  have Z2 := Lib.hid (Z1.out.below b2)
  clear b2 o2 Zr B1 T1 Z1
  go_wp2_with (first | ((with_reducible (show wpList _ _ _ (Oper.mk (some 24) _ _ _ _ _ :: _) _ _)); refine Hid.out ?_))
  refine Lib.hid ?_
  refine wpList_load_rowV rfl 33 (.tmp 16) rfl w1.heap.size rfl 8 _ _ (X2.out) _ Tryz.underlying33 rfl (by kernel_rfl) ?_
  go_wp2_with fail
  refine (F.out _).mono ?_
  rintro e w3 ⟨rfl, b3⟩
  have B3 := Lib.hid (B2.out.trans (b3.mono B2.out.size))
  have T3 := Lib.hid (T2.out.below b3)
  have Z3 := Lib.hid (Z2.out.below b3)
  have X3 := Lib.hid (X2.out.below b3)
  clear b3 B2 T2 Z2 X2
  clear F
  cases ok
  · obtain rfl : re = 370 := VE.out
    obtain rfl : rv = ct0 := by rw [VV.out, if_neg (by decide)]
    go_wp2_with (first | ((with_reducible (show wpList _ _ _ (Oper.mk (some 27) _ _ _ _ _ :: _) _ _)); refine Hid.out ?_))
    refine Lib.hid ?_
    refine wpList_load_rowV rfl 33 (.tmp 14) rfl w.heap.size rfl 8 _ _ (Z3.out) _ Tryz.underlying33 rfl (by kernel_rfl) ?_
    go_wp2_with (first | ((with_reducible (show wpList _ _ _ (Oper.mk none _ _ _ _ _ :: _) _ _)); refine Hid.out ?_))
    refine Lib.hid ?_
    refine wpList_store_rowV rfl 33 (.tmp 14) (.tmp 27) rfl w.heap.size rfl 8 _ _ _ rfl (Z3.out) (by kernel_rfl) (fun j _ => ctC_one _ j) ?_
    intro w9 Z9 O9
    go_wp2_with fail
    refine bodyPost_ret (v := .tuple #[.agg (rowF 8 (ctC ct0)), .int .i64 370]) (by exact results_rowV2 (fn := Tryz.f13) (p := 14) (u := 15) (ty := 33) rfl _ _ w.heap.size 8 33 _ _ rfl Z9.out Tryz.underlying33 rfl (by kernel_rfl)) rfl ⟨rfl, ?_⟩
    exact B3.out.trans (O9.out.below (Nat.le_refl _) B3.out.size)
  · have VE2 : Hid (re = pe) := VE
    clear VE
    go_wp2_with (first | ((with_reducible (show wpList _ _ _ (Oper.mk (some 30) _ _ _ _ _ :: _) _ _)); refine Hid.out ?_))
    refine Lib.hid ?_
    refine wpList_load_rowV rfl 33 (.tmp 16) rfl w1.heap.size rfl 8 _ _ (X3.out) _ Tryz.underlying33 rfl (by kernel_rfl) ?_
    go_wp2_with fail
    refine (M.out _ T3.out).mono ?_
    rintro e w5 ⟨⟨v, rfl, y5⟩, b5⟩
    obtain ⟨va, vc, rfl⟩ := y5.slice
    have Y5 := Lib.hid y5
    have T5 := Lib.hid (T3.out.below b5)
    have X5 := Lib.hid (X3.out.below b5)
    have Z5 := Lib.hid (Z3.out.below b5)
    have B5 := Lib.hid (B3.out.trans (b5.mono B3.out.size))
    clear y5 b5 T3 X3 Z3 B3 M
    go_wp2_with fail
    refine (SG.out _ _ Y5.out T5.out).mono ?_
    rintro e w6 ⟨rfl, b6⟩
    have X6 := Lib.hid (X5.out.below b6)
    have Z6 := Lib.hid (Z5.out.below b6)
    have B6 := Lib.hid (B5.out.trans (b6.mono B5.out.size))
    clear b6 T5 X5 Z5 B5 SG Y5
    obtain ⟨sr, hsr⟩ : ∃ y, sgR x (msgC ak) = y := ⟨_, rfl⟩
    obtain ⟨ss, hss⟩ : ∃ y, sgS x (msgC ak) = y := ⟨_, rfl⟩
    rw [hsr, hss] at VV ⊢
    clear hsr hss
    go_wp2_with (first | ((with_reducible (show wpList _ _ _ (Oper.mk none _ _ _ _ _ :: _) _ _)); refine Hid.out ?_))
    refine Lib.hid ?_
    refine wpList_store_part rfl 31 (.tmp 35) (.tmp 33) rfl w1.heap.size 6 rfl 8 2 _ _ (fun j => if j = 0 then Value.int .i64 sr else .int .i64 ss) (ctC ⟨ak.k, ak.d, ak.v, ak.l, ak.n, ak.b, sr, ss⟩) rfl X6.out (by decide) (by kernel_rfl) (fun j _ => by show (if j = 0 then _ else _ : Value).oneCell' = true; split <;> rfl) (Ct.sig_cells ak sr ss) ?_
    intro w7 X7 O7
    have Z7 := Lib.hid (O7.out.row (show w.heap.size ≠ w1.heap.size from fun e => by have := L1.out; omega) Z6.out)
    have B7 := Lib.hid (B6.out.trans (O7.out.below (by have := L1.out; omega) B6.out.size))
    clear X6 O7 Z6 B6
    rcases P2.out with h0 | h0
    · subst h0
      obtain rfl : re = 0 := VE2.out
      obtain rfl := VV.out
      go_wp2_with (first | ((with_reducible (show wpList _ _ _ (Oper.mk (some 40) _ _ _ _ _ :: _) _ _)); refine Hid.out ?_))
      refine Lib.hid ?_
      refine wpList_load_rowV rfl 33 (.tmp 16) rfl w1.heap.size rfl 8 _ _ (X7.out) _ Tryz.underlying33 rfl (by kernel_rfl) ?_
      go_wp2_with (first | ((with_reducible (show wpList _ _ _ (Oper.mk none _ _ _ _ _ :: _) _ _)); refine Hid.out ?_))
      refine Lib.hid ?_
      refine wpList_store_rowV rfl 33 (.tmp 14) (.tmp 40) rfl w.heap.size rfl 8 _ _ _ rfl (Z7.out) (by kernel_rfl) (fun j _ => ctC_one _ j) ?_
      intro w9 Z9 O9
      go_wp2_with fail
      refine bodyPost_ret (v := .tuple #[.agg (rowF 8 (ctC ⟨ak.k, ak.d, ak.v, ak.l, ak.n, ak.b, sr, ss⟩)), .int .i64 0]) (by exact results_rowV2 (fn := Tryz.f13) (p := 14) (u := 15) (ty := 33) rfl _ _ w.heap.size 8 33 _ _ rfl Z9.out Tryz.underlying33 rfl (by kernel_rfl)) rfl ⟨rfl, ?_⟩
      exact B7.out.trans (O9.out.below (Nat.le_refl _) B7.out.size)
    · subst h0
      obtain rfl : re = 50 := VE2.out
      obtain rfl : rv = ct0 := by rw [VV.out, if_neg (by decide)]
      go_wp2_with (first | ((with_reducible (show wpList _ _ _ (Oper.mk (some 38) _ _ _ _ _ :: _) _ _)); refine Hid.out ?_))
      refine Lib.hid ?_
      refine wpList_load_rowV rfl 33 (.tmp 14) rfl w.heap.size rfl 8 _ _ (Z7.out) _ Tryz.underlying33 rfl (by kernel_rfl) ?_
      go_wp2_with (first | ((with_reducible (show wpList _ _ _ (Oper.mk none _ _ _ _ _ :: _) _ _)); refine Hid.out ?_))
      refine Lib.hid ?_
      refine wpList_store_rowV rfl 33 (.tmp 14) (.tmp 38) rfl w.heap.size rfl 8 _ _ _ rfl (Z7.out) (by kernel_rfl) (fun j _ => ctC_one _ j) ?_
      intro w9 Z9 O9
      go_wp2_with fail
      refine bodyPost_ret (v := .tuple #[.agg (rowF 8 (ctC ct0)), .int .i64 50]) (by exact results_rowV2 (fn := Tryz.f13) (p := 14) (u := 15) (ty := 33) rfl _ _ w.heap.size 8 33 _ _ rfl Z9.out Tryz.underlying33 rfl (by kernel_rfl)) rfl ⟨rfl, ?_⟩
      exact B7.out.trans (O9.out.below (Nat.le_refl _) B7.out.size)
end Go.Proofs.YtmmppibbglacdaaGreatDoor
