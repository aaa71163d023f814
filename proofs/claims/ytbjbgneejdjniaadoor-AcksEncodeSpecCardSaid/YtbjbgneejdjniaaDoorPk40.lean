/- Package acks: Decode. Package acks: Decode, walked. -/
import Derived.Test.YtbjbgneejdjniaaDoorPk38
import Derived.Lib.LazyBuf
import Derived.Test.YtbjbgneejdjniaaDoorPk39
set_option linter.unusedVariables false
set_option linter.unusedSimpArgs false
namespace Go.Proofs.YtbjbgneejdjniaaDoor
open Go.RowKit Cod
/-- the first thirty-two bytes, noughts behind them -/
def chP (l : List UInt8) : List UInt8 := (List.range 32).map fun i => l.getD i 0
theorem chP_len (l : List UInt8) : (chP l).length = 32 := by simp [chP]
theorem chP_get (l : List UInt8) {i : Nat} (h : i < 32) : (chP l).getD i 0 = l.getD i 0 := by
  unfold chP
  rw [List.getD_eq_getElem?_getD, List.getElem?_map, List.getElem?_range h]; rfl
theorem chP_same {l : List UInt8} (h : l.length = 32) : chP l = l := by
  apply List.ext_getElem?
  intro i
  by_cases hi : i < 32
  · have h1 := chP_get l hi
    rw [List.getD_eq_getElem?_getD, List.getD_eq_getElem?_getD, List.getElem?_eq_getElem (by rw [chP_len]; exact hi), List.getElem?_eq_getElem (by omega)] at h1
    rw [List.getElem?_eq_getElem (by rw [chP_len]; exact hi), List.getElem?_eq_getElem (by omega)]
    simpa using h1
  · rw [List.getElem?_eq_none (by rw [chP_len]; omega), List.getElem?_eq_none (by omega)]
/-- the acknowledgement that a list of seven values names -/
def adecT (t : Tv) : Ak := ⟨(t.l.getD 0 tv0).n, (t.l.getD 1 tv0).n, (t.l.getD 2 tv0).n, (t.l.getD 3 tv0).n, chP (t.l.getD 4 tv0).s.data.toList, (t.l.getD 5 tv0).n, (t.l.getD 6 tv0).n⟩
def adecB (l : List UInt8) : Option Ak := match decF l with
  | none => none
  | some t => if t.l.length = 7 ∧ okA (adecT t) = true ∧ encA (adecT t) [(adecT t).r, (adecT t).g] = l then some (adecT t) else none
/-- what Decode answers -/
def adecE (l : List UInt8) : Int := match decF l with
  | none => 10
  | some t => if t.l.length = 7 ∧ okA (adecT t) = true ∧ encA (adecT t) [(adecT t).r, (adecT t).g] = l then 0 else 330
def adecV (l : List UInt8) : Ak := if adecE l = 0 then (match decF l with | none => ak0 | some t => adecT t) else ak0
theorem toList_loop (s : ByteArray) : ∀ (k i : Nat) (r : List UInt8), s.size - i = k → ByteArray.toList.loop s i r = r.reverse ++ s.data.toList.drop i
  | 0, i, r, h => by
    unfold ByteArray.toList.loop
    rw [if_neg (by omega), List.drop_eq_nil_of_le (by rw [Array.length_toList]; show s.size ≤ i; omega), List.append_nil]
  | k + 1, i, r, h => by
    have hi : i < s.data.toList.length := by rw [Array.length_toList]; show i < s.size; omega
    unfold ByteArray.toList.loop
    rw [if_pos (by omega), toList_loop s k (i + 1) _ (by omega), List.drop_eq_getElem_cons hi]
    have hg : s.get! i = s.data.toList[i] := by
      show s.data[i]! = _
      have hi2 : i < s.data.size := by rw [← Array.length_toList]; exact hi
      rw [getElem!_pos s.data i hi2, Array.getElem_toList]
    rw [hg]
    simp
theorem toList_data (s : ByteArray) : s.toList = s.data.toList := by
  unfold ByteArray.toList
  rw [toList_loop s _ 0 [] rfl]; rfl
theorem bytes_eq (a b : List UInt8) : ((ByteArray.mk a.toArray).toList == (ByteArray.mk b.toArray).toList) = decide (a = b) := by
  rw [toList_data, toList_data]
  show ((a.toArray.toList) == (b.toArray.toList)) = _
  rw [Bool.eq_iff_iff]
  simp
set_option maxRecDepth 100000 in
set_option maxHeartbeats 2000000 in
theorem bequal_any (u v : Value) (a b : List UInt8) (w : World) (hu : BytesAt w u a) (hv : BytesAt w v b) :
    Calls Tryd.prog 29 #[u, v] w fun e w' => e = .returned (.bool (decide (a = b))) ∧ Below w.heap.size w w' := by
  have t1 := run_text hu
  have t2 := run_text hv
  have he := bytes_eq a b
  obtain ⟨ua, uc, rfl⟩ := hu.slice
  obtain ⟨va, vc, rfl⟩ := hv.slice
  obtain ⟨n, hn⟩ : ∃ y, a.length = y := ⟨_, rfl⟩
  obtain ⟨m, hm⟩ : ∃ y, b.length = y := ⟨_, rfl⟩
  obtain ⟨x, hx⟩ : ∃ y, ByteArray.mk a.toArray = y := ⟨_, rfl⟩
  obtain ⟨y, hy⟩ : ∃ y, ByteArray.mk b.toArray = y := ⟨_, rfl⟩
  rw [hn, hx] at t1
  rw [hm, hy] at t2
  rw [hx, hy] at he
  rw [hn, hm]
  obtain ⟨r, hr⟩ : ∃ y, decide (a = b) = y := ⟨_, rfl⟩
  rw [hr] at he ⊢
  clear hu hv hn hm hx hy hr
  go_enter Tryd.func29, Tryd.ntmps29
  go_wp2_with fail
  go_ret
  exact ⟨by rw [← he]; rfl, Below.refl _ _⟩
/-- copy from a string into a row -/
theorem run_copy_string_min {P : Program} (w : World) (dT sT ty elem : TypeId) (b o dLen dCap : Nat) (t : ByteArray) (n : Nat) (hn : n = Nat.min t.size dLen)
    (hu : P.underlying dT = some (.slice elem)) (hz : ∀ w, (Go.sizeOf elem).run P w = .ok 1 w)
    (hc : ∀ j, j < n → (w.cell? ⟨b, o + j, none⟩).isSome = true) (hf : ∀ j, j < n → w.frozen? ⟨b, o + j, none⟩ = false) :
    (Builtin.copy_ #[dT, sT] ty #[.slice (some ⟨b, o, none⟩) dLen dCap, .string t]).run P w = .ok (goInt n) (w.setCells b o ((t.data.toList.map vB).take n)) := by
  have h0 : t.data.toList.length = t.size := Array.length_toList
  have hl : ((t.data.toList.map vB).take n).length = n := by rw [List.length_take, List.length_map, h0, hn]; exact Nat.min_eq_left (Nat.min_le_left _ _)
  have hst := run_storeCells_cells (P := P) b o ((t.data.toList.map vB).take n) 0 w (by rw [hl]; simpa using hc) (by rw [hl]; simpa using hf) (by
    intro v hv
    obtain ⟨x, _, rfl⟩ := List.mem_map.1 (List.mem_of_mem_take hv)
    rfl)
  subst hn
  simp [Builtin.copy_, run_underlying hu, Builtin.lenOf, Builtin.firstCells, hz]
  rw [hst]
  rfl
theorem wpList_copy_string {P : Program} {w : World} {ops : Array Oper} {rest : List Oper} {o : Oper} {a : Act} {Q : Exit → Act → World → Prop} (hgd : o.guard = none) (d s : Operand) (dT sT : TypeId)
    (ho : o.op = .call { callee := .builtin .copy, args := #[d, s], argTypes := #[dT, sT] }) (elem : TypeId) (hu : P.underlying dT = some (.slice elem)) (hz : ∀ w, (Go.sizeOf elem).run P w = .ok 1 w)
    (g off dLen dCap : Nat) (t : ByteArray) (hd : a.eval d = .slice (some ⟨g, off, none⟩) dLen dCap) (hs : a.eval s = .string t)
    (N : Nat) (T : TypeId) (f f' : Nat → Value) (hrow : RowV w g T N f) (hfit : off + dLen ≤ N)
    (hf' : ∀ i, i < N → (if off ≤ i ∧ i < off + Nat.min t.size dLen then vB (t.data.toList.getD (i - off) 0) else f i) = f' i)
    (h : ∀ w', Hid (RowV w' g T N f') → Hid (OnlyB g w w') → wpList P ops Q rest (a.put o.dst (goInt (Nat.min t.size dLen))) w') :
    wpList P ops Q (o :: rest) a w := by
  refine wpList_plain hgd fun K hK => ?_
  obtain ⟨n, hn⟩ : ∃ n, Nat.min t.size dLen = n := ⟨_, rfl⟩
  have hle : n ≤ dLen := by rw [← hn]; exact Nat.min_le_right _ _
  have hlt : n ≤ t.size := by rw [← hn]; exact Nat.min_le_left _ _
  rw [hn] at h hf'
  have hrun := run_copy_string_min (P := P) w dT sT o.type elem g off dLen dCap t n hn.symm hu hz (fun j hj => by rw [hrow.cell (by omega)]; rfl) (fun j hj => hrow.frozen _)
  have h0 : t.data.toList.length = t.size := Array.length_toList
  unfold Oper.wp
  simp [execOp, ho, resolve, invoke, builtin, hd, hs, hrun, Result.andThen]
  refine hK _ _ (h _ ?_ (setCells_only _ _ _))
  refine RowV.congr (setCells_rowV _ _ _ _ hrow) (fun i hi => ?_)
  rw [← hf' i hi, List.length_take, List.length_map, h0, Nat.min_eq_left hlt]
  by_cases h2 : off ≤ i ∧ i < off + n
  · rw [if_pos h2, if_pos h2, List.getD_eq_getElem?_getD, List.getElem?_take_of_lt (by omega), List.getElem?_map, List.getElem?_eq_getElem (show i - off < t.data.toList.length by omega), List.getD_eq_getElem?_getD, List.getElem?_eq_getElem (show i - off < t.data.toList.length by omega)]
    rfl
  · rw [if_neg h2, if_neg h2]
theorem chain_cells (a : Ak) (l : List UInt8) (n : Nat) (hn : n = Nat.min l.length 32) (hz : a.ch = z32) : ∀ i, i < 38 → (if 4 ≤ i ∧ i < 4 + n then vB (l.getD (i - 4) 0) else akC a i) = akC ⟨a.f, a.d, a.s, a.u, chP l, a.r, a.g⟩ i := by
  intro i hi
  have h32 : n ≤ 32 := by rw [hn]; exact Nat.min_le_right _ _
  unfold akC
  by_cases h1 : 4 ≤ i ∧ i < 36
  · rw [if_pos h1, if_pos h1, chP_get l (by omega)]
    by_cases h2 : 4 ≤ i ∧ i < 4 + n
    · rw [if_pos h2]
    · rw [if_neg h2, hz]
      have h3 : l.length ≤ i - 4 := by
        have h4 : l.length ≤ 32 := by
          rcases Nat.le_total l.length 32 with h | h
          · exact h
          · rw [hn, show Nat.min l.length 32 = 32 from Nat.min_eq_right h] at h2; omega
        rw [hn, show Nat.min l.length 32 = l.length from Nat.min_eq_left h4] at h2; omega
      rw [List.getD_eq_getElem?_getD, List.getD_eq_getElem?_getD, List.getElem?_eq_none h3]
      unfold z32
      rw [List.getElem?_replicate, if_pos (by omega)]; rfl
  · rw [if_neg h1, if_neg h1, if_neg (by omega)]
    rcases (show i = 0 ∨ i = 1 ∨ i = 2 ∨ i = 3 ∨ i = 36 ∨ i = 37 by omega) with rfl | rfl | rfl | rfl | rfl | rfl <;> rfl
theorem sizeOf_u8 : ∀ w, (Go.sizeOf 5).run Tryd.prog w = .ok 1 w := fun w => by kernel_rfl
end Go.Proofs.YtbjbgneejdjniaaDoor

namespace Go.Proofs.YtbjbgneejdjniaaDoor
open Go.RowKit Cod
theorem CodAt.parts {w : World} {f : Nat → Value} {t : Tv} (h : CodAt w (.agg (rowF 4 f)) t) : f 1 = .int .i64 t.n ∧ i64B t.n ∧ f 2 = .string t.s := by
  obtain ⟨k, n, s, l⟩ := t
  obtain ⟨a, cap, c, e, _, hn, _⟩ := h.open
  have e1 := Value.agg.inj e
  have e2 : ∀ j : Nat, (rowF 4 f)[j]? = (#[.int .i64 k, .int .i64 n, .string s, .slice a l.length cap] : Array Value)[j]? := fun j => by rw [e1]
  have h1 := e2 1
  have h2 := e2 2
  rw [rowF_get (by decide)] at h1 h2
  exact ⟨Option.some.inj h1, hn, Option.some.inj h2⟩
theorem stay_cell {S : Nat → Prop} {w W : World} {b off : Nat} (hS : S b) (hr : (Tc.Rl.stay S).r w W) : W.cell? ⟨b, off, none⟩ = w.cell? ⟨b, off, none⟩ := World.cell?_of_block (w := w) (w' := W) (a := ⟨b, off, none⟩) (hr b hS)
/-- the cells of a slice's elements -/
def SCl (s : Nat) (w : World) (b off n : Nat) (c : Nat → Nat → Value) : Prop := b < w.heap.size ∧ ∀ i, i < n → ∀ j, j < s → w.cell? ⟨b, off + s * i + j, none⟩ = some (c i j)
theorem SCl.below {s : Nat} {w w' : World} {b off n : Nat} {c : Nat → Nat → Value} (h : SCl s w b off n c) (hb : Below w.heap.size w w') : SCl s w' b off n c :=
  ⟨Nat.lt_of_lt_of_le h.1 hb.size, fun i hi j hj => (hb.cell (p := ⟨b, off + s * i + j, none⟩) h.1).trans (h.2 i hi j hj)⟩
set_option maxRecDepth 100000 in
set_option maxHeartbeats 8000000 in
theorem adecode_any (bv : Value) (l : List UInt8) (w : World) (hb : BytesAt w bv l) (hlen : l.length ≤ 1000000) :
    Calls Tryd.prog 11 #[bv] w fun e w' => e = .returned (.tuple #[.agg (rowF 38 (akC (adecV l))), .int .i64 (adecE l)]) ∧ Below w.heap.size w w' := by
  obtain ⟨va, vc, rfl⟩ := hb.slice
  have HB := Lib.hid hb
  have D := fun W (h : BytesAt W (.slice va l.length vc) l) => decode_any _ l W h hlen
  unfold DecPost at D
  obtain ⟨re, hre⟩ : ∃ y, adecE l = y := ⟨_, rfl⟩
  obtain ⟨rv, hrv⟩ : ∃ y, adecV l = y := ⟨_, rfl⟩
  have VV : Hid (rv = if re = 0 then (match decF l with | none => ak0 | some t => adecT t) else ak0) := Lib.hid (by rw [← hrv, ← hre]; rfl)
  have VE : Hid (re = match decF l with | none => 10 | some t => if t.l.length = 7 ∧ okA (adecT t) = true ∧ encA (adecT t) [(adecT t).r, (adecT t).g] = l then 0 else 330) := Lib.hid (by rw [← hre]; rfl)
  rw [hre, hrv]
  obtain ⟨ln, hln⟩ : ∃ y, l.length = y := ⟨_, rfl⟩
  have HLN := Lib.hid hln
  have HLE := Lib.hid hlen
  rw [hln] at D HB ⊢
  clear hb hlen hre hrv hln
  cases hdf : decF l with
  | none =>
    rw [hdf] at D VE VV
    have DH := Lib.hid D
    obtain rfl : re = 10 := VE.out
    obtain rfl : rv = ak0 := by rw [VV.out, if_neg (by decide)]
    clear D VE VV hdf HLN HLE
    go_enter Tryd.func11, Tryd.ntmps11
    have B0 := Lib.hid (Below.refl w.heap.size w)
    go_upto_region 1 with fail
    have Y0 := HB
    obtain ⟨w1, hw1⟩ : ∃ y, w.alloc (.cells #[.int .i64 0, .int .i64 0, .int .i64 0, .int .i64 0, .int .u8 0, .int .u8 0, .int .u8 0, .int .u8 0, .int .u8 0, .int .u8 0, .int .u8 0, .int .u8 0, .int .u8 0, .int .u8 0, .int .u8 0, .int .u8 0, .int .u8 0, .int .u8 0, .int .u8 0, .int .u8 0, .int .u8 0, .int .u8 0, .int .u8 0, .int .u8 0, .int .u8 0, .int .u8 0, .int .u8 0, .int .u8 0, .int .u8 0, .int .u8 0, .int .u8 0, .int .u8 0, .int .u8 0, .int .u8 0, .int .u8 0, .int .u8 0, .int .i64 0, .int .i64 0] 27) = y := ⟨_, rfl⟩
    have b1 : Below w.heap.size w w1 := by rw [← hw1]; exact (Below.refl _ _).alloc (Nat.le_refl _) _
    have Z1 : Hid (RowV w1 w.heap.size 27 38 (akC ak0)) := Lib.hid (by rw [← hw1]; exact RowV.new w _ 38 (akC ak0))
    have z1 : w.heap.size + 1 = w1.heap.size := by rw [← hw1]; exact (Array.size_push _).symm
    rw [hw1]
    (try rw [z1])
    have B1 := Lib.hid (B0.out.trans (b1.mono B0.out.size))
    have Y1 := Lib.hid (Y0.out.below b1)
    clear b1 hw1 z1 B0 Y0
    go_wp2_with fail
    refine (DH.out _ Y1.out).mono ?_
    rintro e w2 ⟨rfl, b2⟩
    have B2 := Lib.hid (B1.out.trans (b2.mono B1.out.size))
    have Y2 := Lib.hid (Y1.out.below b2)
    have Z2 := Lib.hid (Z1.out.below b2)
    clear b2 B1 Y1 Z1
    go_wp2_with (first | ((with_reducible (show wpList _ _ _ (Oper.mk (some 15) _ _ _ _ _ :: _) _ _)); refine Hid.out ?_))
    refine Lib.hid ?_
    refine wpList_load_rowV rfl 27 (.tmp 2) rfl w.heap.size rfl 38 _ _ ((Z2.out.alloc _)) _ Tryd.underlying27 rfl (by kernel_rfl) ?_
    go_wp2_with (first | ((with_reducible (show wpList _ _ _ (Oper.mk none _ _ _ _ _ :: _) _ _)); refine Hid.out ?_))
    refine Lib.hid ?_
    refine wpList_store_rowV rfl 27 (.tmp 2) (.tmp 15) rfl w.heap.size rfl 38 _ _ _ rfl ((Z2.out.alloc _)) (by kernel_rfl) (fun j _ => akC_one _ j) ?_
    intro w9 Z9 O9
    go_wp2_with fail
    refine bodyPost_ret (v := .tuple #[.agg (rowF 38 (akC ak0)), .int .i64 10]) (by exact results_rowV2 (fn := Tryd.f11) (p := 2) (u := 3) (ty := 27) rfl _ _ w.heap.size 38 27 _ _ rfl Z9.out Tryd.underlying27 rfl (by kernel_rfl)) rfl ⟨rfl, ?_⟩
    exact B2.out.trans (((Below.refl _ _).alloc (Nat.le_refl _) _ |>.mono B2.out.size).trans (O9.out.below (Nat.le_refl _) (by rw [World.size_alloc]; have := B2.out.size; omega)))
  | some t =>
    rw [hdf] at D VE VV
    have DH := Lib.hid D
    have VE1 : Hid (re = if t.l.length = 7 ∧ okA (adecT t) = true ∧ encA (adecT t) [(adecT t).r, (adecT t).g] = l then 0 else 330) := VE
    have VV1 : Hid (rv = if re = 0 then adecT t else ak0) := VV
    clear D VE VV hdf
    go_enter Tryd.func11, Tryd.ntmps11
    have B0 := Lib.hid (Below.refl w.heap.size w)
    go_upto_region 1 with fail
    have Y0 := HB
    obtain ⟨w1, hw1⟩ : ∃ y, w.alloc (.cells #[.int .i64 0, .int .i64 0, .int .i64 0, .int .i64 0, .int .u8 0, .int .u8 0, .int .u8 0, .int .u8 0, .int .u8 0, .int .u8 0, .int .u8 0, .int .u8 0, .int .u8 0, .int .u8 0, .int .u8 0, .int .u8 0, .int .u8 0, .int .u8 0, .int .u8 0, .int .u8 0, .int .u8 0, .int .u8 0, .int .u8 0, .int .u8 0, .int .u8 0, .int .u8 0, .int .u8 0, .int .u8 0, .int .u8 0, .int .u8 0, .int .u8 0, .int .u8 0, .int .u8 0, .int .u8 0, .int .u8 0, .int .u8 0, .int .i64 0, .int .i64 0] 27) = y := ⟨_, rfl⟩
    have b1 : Below w.heap.size w w1 := by rw [← hw1]; exact (Below.refl _ _).alloc (Nat.le_refl _) _
    have Z1 : Hid (RowV w1 w.heap.size 27 38 (akC ak0)) := Lib.hid (by rw [← hw1]; exact RowV.new w _ 38 (akC ak0))
    have z1 : w.heap.size + 1 = w1.heap.size := by rw [← hw1]; exact (Array.size_push _).symm
    rw [hw1]
    (try rw [z1])
    have B1 := Lib.hid (B0.out.trans (b1.mono B0.out.size))
    have Y1 := Lib.hid (Y0.out.below b1)
    clear b1 hw1 z1 B0 Y0
    go_wp2_with fail
    refine (DH.out _ Y1.out).mono ?_
    rintro e w2 ⟨⟨u, rfl, hu⟩, b2⟩
    have Y2 := Lib.hid (Y1.out.below b2)
    have Z2 := Lib.hid (Z1.out.below b2)
    have B2 := Lib.hid (B1.out.trans (b2.mono B1.out.size))
    clear b2 Y1 Z1 B1 DH
    obtain ⟨k, n, s, tl⟩ := t
    obtain ⟨a, cap, c, rfl, hk, hn, hs, hsl, hel⟩ := hu.at'.open
    obtain ⟨m, hm⟩ : ∃ y, tl.length = y := ⟨_, rfl⟩
    have VE2 : Hid (re = if m = 7 ∧ okA (adecT (.mk k n s tl)) = true ∧ encA (adecT (.mk k n s tl)) [(adecT (.mk k n s tl)).r, (adecT (.mk k n s tl)).g] = l then 0 else 330) := Lib.hid (by rw [← hm]; exact VE1.out)
    have HEL := Lib.hid hel
    have HSL := Lib.hid hsl
    have HM := Lib.hid hm
    rw [hm] at HSL ⊢
    clear hu hk hn hs hsl hel hm VE1
    go_upto_region 2 with fail
    obtain ⟨w3, hw3⟩ : ∃ y, w2.alloc (.cells #[.int .i64 k, .int .i64 n, .string s, .slice a m cap] 51) = y := ⟨_, rfl⟩
    have b3 : Below w2.heap.size w2 w3 := by rw [← hw3]; exact (Below.refl _ _).alloc (Nat.le_refl _) _
    have V3 : Hid (RowV w3 w2.heap.size 51 4 (valC k n s (.slice a m cap))) := Lib.hid (by rw [← hw3]; exact RowV.new w2 _ 4 (valC k n s (.slice a m cap)))
    have K3 : Hid (Below w2.heap.size w2 w3) := Lib.hid (by rw [← hw3]; exact (Below.refl _ w2).alloc (Nat.le_refl _) _)
    have z3 : w2.heap.size + 1 = w3.heap.size := by rw [← hw3]; exact (Array.size_push _).symm
    rw [hw3]
    (try rw [z3])
    have B3 := Lib.hid (B2.out.trans (b3.mono B2.out.size))
    have Y3 := Lib.hid (Y2.out.below b3)
    have Z3 := Lib.hid (Z2.out.below b3)
    clear b3 hw3 z3 B2 Y2 Z2
    have L1 := Lib.hid Z3.out.lt
    have x3 : _ = some (Value.slice a m cap) := V3.out.cell (i := 3) (by decide)
    by_cases h7 : m = 7
    · subst h7
      have VE3 : Hid (re = if okA (adecT (.mk k n s tl)) = true ∧ encA (adecT (.mk k n s tl)) [(adecT (.mk k n s tl)).r, (adecT (.mk k n s tl)).g] = l then 0 else 330) := Lib.hid (by rw [VE2.out]; simp)
      clear VE2
      go_upto_region 6 with fail
      clear x3
      obtain ⟨b, off, rfl, hcap, hb, hc⟩ := HSL.out.at_elem (i := 0) (by decide)
      have HBB := Lib.hid (show b < w3.heap.size from Nat.lt_of_lt_of_le hb K3.out.size)
      have SL3 : Hid (SCl 4 w3 b off 7 c) := Lib.hid (SCl.below ⟨hb, hc⟩ K3.out)
      clear hcap hb hc
      obtain ⟨n0, N0⟩ : ∃ z, Hid (c 0 1 = .int .i64 z ∧ i64B z ∧ (tl.getD 0 tv0).n = z) := by
        obtain ⟨h1, h2, _⟩ := (HEL.out 0 (by rw [HM.out]; decide)).parts
        exact ⟨_, h1, h2, rfl⟩
      obtain ⟨n1, N1⟩ : ∃ z, Hid (c 1 1 = .int .i64 z ∧ i64B z ∧ (tl.getD 1 tv0).n = z) := by
        obtain ⟨h1, h2, _⟩ := (HEL.out 1 (by rw [HM.out]; decide)).parts
        exact ⟨_, h1, h2, rfl⟩
      obtain ⟨n2, N2⟩ : ∃ z, Hid (c 2 1 = .int .i64 z ∧ i64B z ∧ (tl.getD 2 tv0).n = z) := by
        obtain ⟨h1, h2, _⟩ := (HEL.out 2 (by rw [HM.out]; decide)).parts
        exact ⟨_, h1, h2, rfl⟩
      obtain ⟨n3, N3⟩ : ∃ z, Hid (c 3 1 = .int .i64 z ∧ i64B z ∧ (tl.getD 3 tv0).n = z) := by
        obtain ⟨h1, h2, _⟩ := (HEL.out 3 (by rw [HM.out]; decide)).parts
        exact ⟨_, h1, h2, rfl⟩
      obtain ⟨n5, N5⟩ : ∃ z, Hid (c 5 1 = .int .i64 z ∧ i64B z ∧ (tl.getD 5 tv0).n = z) := by
        obtain ⟨h1, h2, _⟩ := (HEL.out 5 (by rw [HM.out]; decide)).parts
        exact ⟨_, h1, h2, rfl⟩
      obtain ⟨n6, N6⟩ : ∃ z, Hid (c 6 1 = .int .i64 z ∧ i64B z ∧ (tl.getD 6 tv0).n = z) := by
        obtain ⟨h1, h2, _⟩ := (HEL.out 6 (by rw [HM.out]; decide)).parts
        exact ⟨_, h1, h2, rfl⟩
      obtain ⟨s4, N4⟩ : ∃ z, Hid (c 4 2 = .string z ∧ (tl.getD 4 tv0).s = z) := by
        obtain ⟨_, _, h3⟩ := (HEL.out 4 (by rw [HM.out]; decide)).parts
        exact ⟨_, h3, rfl⟩
      refine Tc.wp_region_plan (Tc.Rl.stay (fun k => k = w2.heap.size ∨ k = b)) 33 [] (Tc.flAll [0, 1, 2, 3, 4, 5, 6, 7, 8, 9, 10, 11, 12, 13, 14, 15, 16, 17, 18, 19, 20, 21, 22, 23, 24, 25, 26, 27, 28, 29, 30, 31] (.one 32 .done)) (by kernel_rfl) (by kernel_rfl) ?_
      intro w4 b4 e4
      have Y4 := Lib.hid (Y3.out.below b4)
      have Z4 := Lib.hid (Z3.out.below b4)
      have V4 := Lib.hid (V3.out.below b4)
      have B4 := Lib.hid (B3.out.trans (b4.mono B3.out.size))
      have SL4 := Lib.hid (SL3.out.below b4)
      have S4 := Lib.hid (Nat.lt_of_lt_of_le HBB.out b4.size)
      clear b4 e4 Y3 Z3 V3 B3 SL3
      refine Tc.plan_floats [0, 1, 2, 3, 4, 5, 6, 7, 8, 9, 10, 11, 12, 13, 14, 15, 16, 17, 18, 19, 20, 21, 22, 23, 24, 25, 26, 27, 28, 29, 30, 31] [_, _, _, _, _, _, _, _, _, _, _, _, _, _, _, _, _, _, _, _, _, _, _, _, _, _, _, _, _, _, _, _] rfl ?_
      dsimp only [List.getElem_toArray, List.getElem_cons_succ, List.getElem_cons_zero]
      repeat (go_big_quiet_want; go_big_quiet_op; first | go_big_quiet_on | (refine ⟨_, fun _ _ => rfl, ?_⟩; go_big_quiet_on))
      refine wpQuiet_load_cell rfl 49 (.tmp 22) rfl w2.heap.size 3 rfl _ Tryd.underlying49 rfl (.slice (some ⟨b, off, none⟩) 7 cap) (fun W hW => (stay_row (S := fun k => k = w2.heap.size ∨ k = b) V4.out (.inl rfl) hW).cell (i := 3) (by decide)) ?_
      simp only [Act.put, List.setIfInBounds_toArray, List.set_cons_succ, List.set_cons_zero]
      repeat (go_big_quiet_want; go_big_quiet_op; first | go_big_quiet_on | (refine ⟨_, fun _ _ => rfl, ?_⟩; go_big_quiet_on))
      refine wpQuiet_load_cell rfl 3 (.tmp 25) rfl b (off + 1) rfl _ Tryd.underlying3 rfl (.int .i64 n0) (fun W hW => (stay_cell (S := fun k => k = w2.heap.size ∨ k = b) (.inr rfl) hW).trans (by rw [← N0.out.1]; exact SL4.out.2 0 (by decide) 1 (by decide))) ?_
      simp only [Act.put, List.setIfInBounds_toArray, List.set_cons_succ, List.set_cons_zero]
      repeat (go_big_quiet_want; go_big_quiet_op; first | go_big_quiet_on | (refine ⟨_, fun _ _ => rfl, ?_⟩; go_big_quiet_on))
      refine wpQuiet_load_cell rfl 49 (.tmp 27) rfl w2.heap.size 3 rfl _ Tryd.underlying49 rfl (.slice (some ⟨b, off, none⟩) 7 cap) (fun W hW => (stay_row (S := fun k => k = w2.heap.size ∨ k = b) V4.out (.inl rfl) hW).cell (i := 3) (by decide)) ?_
      simp only [Act.put, List.setIfInBounds_toArray, List.set_cons_succ, List.set_cons_zero]
      repeat (go_big_quiet_want; go_big_quiet_op; first | go_big_quiet_on | (refine ⟨_, fun _ _ => rfl, ?_⟩; go_big_quiet_on))
      refine wpQuiet_load_cell rfl 3 (.tmp 30) rfl b (off + 5) rfl _ Tryd.underlying3 rfl (.int .i64 n1) (fun W hW => (stay_cell (S := fun k => k = w2.heap.size ∨ k = b) (.inr rfl) hW).trans (by rw [← N1.out.1]; exact SL4.out.2 1 (by decide) 1 (by decide))) ?_
      simp only [Act.put, List.setIfInBounds_toArray, List.set_cons_succ, List.set_cons_zero]
      repeat (go_big_quiet_want; go_big_quiet_op; first | go_big_quiet_on | (refine ⟨_, fun _ _ => rfl, ?_⟩; go_big_quiet_on))
      refine wpQuiet_load_cell rfl 49 (.tmp 32) rfl w2.heap.size 3 rfl _ Tryd.underlying49 rfl (.slice (some ⟨b, off, none⟩) 7 cap) (fun W hW => (stay_row (S := fun k => k = w2.heap.size ∨ k = b) V4.out (.inl rfl) hW).cell (i := 3) (by decide)) ?_
      simp only [Act.put, List.setIfInBounds_toArray, List.set_cons_succ, List.set_cons_zero]
      repeat (go_big_quiet_want; go_big_quiet_op; first | go_big_quiet_on | (refine ⟨_, fun _ _ => rfl, ?_⟩; go_big_quiet_on))
      refine wpQuiet_load_cell rfl 3 (.tmp 35) rfl b (off + 9) rfl _ Tryd.underlying3 rfl (.int .i64 n2) (fun W hW => (stay_cell (S := fun k => k = w2.heap.size ∨ k = b) (.inr rfl) hW).trans (by rw [← N2.out.1]; exact SL4.out.2 2 (by decide) 1 (by decide))) ?_
      simp only [Act.put, List.setIfInBounds_toArray, List.set_cons_succ, List.set_cons_zero]
      repeat (go_big_quiet_want; go_big_quiet_op; first | go_big_quiet_on | (refine ⟨_, fun _ _ => rfl, ?_⟩; go_big_quiet_on))
      refine wpQuiet_load_cell rfl 49 (.tmp 37) rfl w2.heap.size 3 rfl _ Tryd.underlying49 rfl (.slice (some ⟨b, off, none⟩) 7 cap) (fun W hW => (stay_row (S := fun k => k = w2.heap.size ∨ k = b) V4.out (.inl rfl) hW).cell (i := 3) (by decide)) ?_
      simp only [Act.put, List.setIfInBounds_toArray, List.set_cons_succ, List.set_cons_zero]
      repeat (go_big_quiet_want; go_big_quiet_op; first | go_big_quiet_on | (refine ⟨_, fun _ _ => rfl, ?_⟩; go_big_quiet_on))
      refine wpQuiet_load_cell rfl 3 (.tmp 40) rfl b (off + 13) rfl _ Tryd.underlying3 rfl (.int .i64 n3) (fun W hW => (stay_cell (S := fun k => k = w2.heap.size ∨ k = b) (.inr rfl) hW).trans (by rw [← N3.out.1]; exact SL4.out.2 3 (by decide) 1 (by decide))) ?_
      simp only [Act.put, List.setIfInBounds_toArray, List.set_cons_succ, List.set_cons_zero]
      repeat (go_big_quiet_want; go_big_quiet_op; first | go_big_quiet_on | (refine ⟨_, fun _ _ => rfl, ?_⟩; go_big_quiet_on))
      refine wpQuiet_load_cell rfl 49 (.tmp 42) rfl w2.heap.size 3 rfl _ Tryd.underlying49 rfl (.slice (some ⟨b, off, none⟩) 7 cap) (fun W hW => (stay_row (S := fun k => k = w2.heap.size ∨ k = b) V4.out (.inl rfl) hW).cell (i := 3) (by decide)) ?_
      simp only [Act.put, List.setIfInBounds_toArray, List.set_cons_succ, List.set_cons_zero]
      repeat (go_big_quiet_want; go_big_quiet_op; first | go_big_quiet_on | (refine ⟨_, fun _ _ => rfl, ?_⟩; go_big_quiet_on))
      refine wpQuiet_load_cell rfl 3 (.tmp 45) rfl b (off + 21) rfl _ Tryd.underlying3 rfl (.int .i64 n5) (fun W hW => (stay_cell (S := fun k => k = w2.heap.size ∨ k = b) (.inr rfl) hW).trans (by rw [← N5.out.1]; exact SL4.out.2 5 (by decide) 1 (by decide))) ?_
      simp only [Act.put, List.setIfInBounds_toArray, List.set_cons_succ, List.set_cons_zero]
      repeat (go_big_quiet_want; go_big_quiet_op; first | go_big_quiet_on | (refine ⟨_, fun _ _ => rfl, ?_⟩; go_big_quiet_on))
      refine wpQuiet_load_cell rfl 49 (.tmp 47) rfl w2.heap.size 3 rfl _ Tryd.underlying49 rfl (.slice (some ⟨b, off, none⟩) 7 cap) (fun W hW => (stay_row (S := fun k => k = w2.heap.size ∨ k = b) V4.out (.inl rfl) hW).cell (i := 3) (by decide)) ?_
      simp only [Act.put, List.setIfInBounds_toArray, List.set_cons_succ, List.set_cons_zero]
      repeat (go_big_quiet_want; go_big_quiet_op; first | go_big_quiet_on | (refine ⟨_, fun _ _ => rfl, ?_⟩; go_big_quiet_on))
      refine wpQuiet_load_cell rfl 3 (.tmp 50) rfl b (off + 25) rfl _ Tryd.underlying3 rfl (.int .i64 n6) (fun W hW => (stay_cell (S := fun k => k = w2.heap.size ∨ k = b) (.inr rfl) hW).trans (by rw [← N6.out.1]; exact SL4.out.2 6 (by decide) 1 (by decide))) ?_
      simp only [Act.put, List.setIfInBounds_toArray, List.set_cons_succ, List.set_cons_zero]
      repeat (go_big_quiet_want; go_big_quiet_op; first | go_big_quiet_on | (refine ⟨_, fun _ _ => rfl, ?_⟩; go_big_quiet_on))
      refine wpQuiet_nil ?_
      have LV := Lib.hid V4.out.lt
      have LZ := Lib.hid Z4.out.lt
      refine Tc.plan_one 32 rfl (fun K hK => ?_)
      go_wp2_with fail
      have al := (Below.refl _ w4).alloc (Nat.le_refl _) (.cells #[.int .i64 0, .int .i64 0, .int .i64 0, .int .i64 0, .int .u8 0, .int .u8 0, .int .u8 0, .int .u8 0, .int .u8 0, .int .u8 0, .int .u8 0, .int .u8 0, .int .u8 0, .int .u8 0, .int .u8 0, .int .u8 0, .int .u8 0, .int .u8 0, .int .u8 0, .int .u8 0, .int .u8 0, .int .u8 0, .int .u8 0, .int .u8 0, .int .u8 0, .int .u8 0, .int .u8 0, .int .u8 0, .int .u8 0, .int .u8 0, .int .u8 0, .int .u8 0, .int .u8 0, .int .u8 0, .int .u8 0, .int .u8 0, .int .i64 0, .int .i64 0] 27)
      have K5 := Lib.hid al
      have X5 := Lib.hid (RowV.new w4 27 38 (akC ak0))
      refine hK _ _ (stay_below al (fun k hk => by rcases hk with rfl | rfl; exact LV.out; exact S4.out)) ?_
      obtain ⟨w5, hw5⟩ : ∃ y, w4.alloc (.cells #[.int .i64 0, .int .i64 0, .int .i64 0, .int .i64 0, .int .u8 0, .int .u8 0, .int .u8 0, .int .u8 0, .int .u8 0, .int .u8 0, .int .u8 0, .int .u8 0, .int .u8 0, .int .u8 0, .int .u8 0, .int .u8 0, .int .u8 0, .int .u8 0, .int .u8 0, .int .u8 0, .int .u8 0, .int .u8 0, .int .u8 0, .int .u8 0, .int .u8 0, .int .u8 0, .int .u8 0, .int .u8 0, .int .u8 0, .int .u8 0, .int .u8 0, .int .u8 0, .int .u8 0, .int .u8 0, .int .u8 0, .int .u8 0, .int .i64 0, .int .i64 0] 27) = y := ⟨_, rfl⟩
      rw [show w4.alloc (.cells (rowF 38 (akC ak0)) 27) = w5 from hw5] at X5
      rw [hw5] at K5 ⊢
      clear hK K al hw5
      refine Tc.plan_done (l := [_]) rfl (fun K hK => ?_)
      refine wpList_store_rowV rfl 27 (.tmp 5) (.tmp 53) rfl w4.heap.size rfl 38 _ _ (akC ⟨n0, n1, n2, n3, z32, n5, n6⟩) rfl X5.out (by kernel_rfl) (fun j _ => akC_one _ j) ?_
      intro w6 X6 O6
      have b6 : Below w4.heap.size w4 w6 := K5.out.trans (O6.out.below (Nat.le_refl _) (Nat.le_of_lt X5.out.lt))
      have Y6 := Lib.hid (Y4.out.below b6)
      have Z6 := Lib.hid (Z4.out.below b6)
      have V6 := Lib.hid (V4.out.below b6)
      have SL6 := Lib.hid (SL4.out.below b6)
      have B6 := Lib.hid (B4.out.trans (b6.mono B4.out.size))
      have XL := Lib.hid (show w.heap.size < w4.heap.size from LZ.out)
      have XV := Lib.hid (show w2.heap.size < w4.heap.size from LV.out)
      clear b6 K5 O6 X5 Y4 Z4 V4 SL4 B4
      go_upto_region 7 with fail
      simp only [Act.put]
      refine Tc.wp_region_plan (Tc.Rl.stay (fun k => k = w2.heap.size ∨ k = b)) 7 [] (Tc.flAll [0, 1, 2, 3, 4, 5, 6] .done) (by kernel_rfl) (by kernel_rfl) ?_
      intro w7 b7 e7
      have Y7 := Lib.hid (Y6.out.below b7)
      have Z7 := Lib.hid (Z6.out.below b7)
      have V7 := Lib.hid (V6.out.below b7)
      have SL7 := Lib.hid (SL6.out.below b7)
      have X7 := Lib.hid (X6.out.below b7)
      have B7 := Lib.hid (B6.out.trans (b7.mono B6.out.size))
      clear b7 e7 Y6 Z6 V6 SL6 X6 B6
      refine Tc.plan_floats [0, 1, 2, 3, 4, 5, 6] [_, _, _, _, _, _, _] rfl ?_
      dsimp only [List.getElem_toArray, List.getElem_cons_succ, List.getElem_cons_zero]
      repeat (go_big_quiet_want; go_big_quiet_op; first | go_big_quiet_on | (refine ⟨_, fun _ _ => rfl, ?_⟩; go_big_quiet_on))
      refine wpQuiet_load_cell rfl 49 (.tmp 56) rfl w2.heap.size 3 rfl _ Tryd.underlying49 rfl (.slice (some ⟨b, off, none⟩) 7 cap) (fun W hW => (stay_row (S := fun k => k = w2.heap.size ∨ k = b) V7.out (.inl rfl) hW).cell (i := 3) (by decide)) ?_
      simp only [Act.put, List.setIfInBounds_toArray, List.set_cons_succ, List.set_cons_zero]
      repeat (go_big_quiet_want; go_big_quiet_op; first | go_big_quiet_on | (refine ⟨_, fun _ _ => rfl, ?_⟩; go_big_quiet_on))
      refine wpQuiet_load_cell rfl 9 (.tmp 59) rfl b (off + 18) rfl _ Tryd.underlying9 rfl (.string s4) (fun W hW => (stay_cell (S := fun k => k = w2.heap.size ∨ k = b) (.inr rfl) hW).trans (by rw [← N4.out.1]; exact SL7.out.2 4 (by decide) 2 (by decide))) ?_
      simp only [Act.put, List.setIfInBounds_toArray, List.set_cons_succ, List.set_cons_zero]
      refine wpQuiet_nil ?_
      refine Tc.plan_done (l := [_]) rfl (fun K hK => ?_)
      refine wpList_copy_string rfl (.tmp 55) (.tmp 60) 28 9 rfl 5 Tryd.underlying28 sizeOf_u8 w4.heap.size 4 32 32 s4 rfl rfl 38 _ _ (akC ⟨n0, n1, n2, n3, chP s4.data.toList, n5, n6⟩) X7.out (by decide) (chain_cells ⟨n0, n1, n2, n3, z32, n5, n6⟩ s4.data.toList (Nat.min s4.size 32) (by rw [show s4.data.toList.length = s4.size from Array.length_toList]) rfl) ?_
      intro w8 X8 O8
      have Z8 := Lib.hid (O8.out.row (fun e => by have := XL.out; omega) Z7.out)
      have B8 := Lib.hid (B7.out.trans (O8.out.below (Nat.le_of_lt XL.out) B7.out.size))
      have Y8 := Lib.hid (HB.out.below B8.out)
      have AK : Hid (adecT (.mk k n s tl) = ⟨n0, n1, n2, n3, chP s4.data.toList, n5, n6⟩) := Lib.hid (by
        unfold adecT
        simp only [Tv.l, N0.out.2.2, N1.out.2.2, N2.out.2.2, N3.out.2.2, N5.out.2.2, N6.out.2.2, N4.out.2])
      have WF : Hid (Ak.wf ⟨n0, n1, n2, n3, chP s4.data.toList, n5, n6⟩) := Lib.hid ⟨N0.out.2.1, N1.out.2.1, N2.out.2.1, N3.out.2.1, chP_len _, N5.out.2.1, N6.out.2.1⟩
      clear O8 Y7 Z7 V7 SL7 X7 B7 N0 N1 N2 N3 N4 N5 N6
      obtain ⟨ak, hak⟩ : ∃ y : Ak, (⟨n0, n1, n2, n3, chP s4.data.toList, n5, n6⟩ : Ak) = y := ⟨_, rfl⟩
      rw [hak] at X8 AK WF
      rw [AK.out] at VE3 VV1
      have E := Lib.hid (fun W => aencode_any ak WF.out W)
      have EL := Lib.hid (encA_len ak WF.out [ak.r, ak.g] (fun z hz => by
        simp only [List.mem_cons, List.not_mem_nil, or_false] at hz
        rcases hz with rfl | rfl
        · exact WF.out.r
        · exact WF.out.g) (show (2 : Nat) ≤ 100 by decide))
      unfold AEncPost at E
      obtain ⟨ok, hok⟩ : ∃ y, okA ak = y := ⟨_, rfl⟩
      rw [hok] at E VE3
      clear hok hak AK WF
      go_upto_region 8 with fail
      cases ok
      · have E1 : Hid (∀ W, Calls Tryd.prog 9 #[.agg (rowF 38 (akC ak))] W fun e w' => e = .returned (.tuple #[.slice none 0 0, .int .i64 330]) ∧ Below W.heap.size W w') := E
        obtain rfl : re = 330 := by rw [VE3.out]; rfl
        obtain rfl : rv = ak0 := by rw [VV1.out, if_neg (by decide)]
        clear E VE3 VV1
        go_wp2_with (first | ((with_reducible (show wpList _ _ _ (Oper.mk (some 63) _ _ _ _ _ :: _) _ _)); refine Hid.out ?_))
        refine Lib.hid ?_
        refine wpList_load_rowV rfl 27 (.tmp 5) rfl w4.heap.size rfl 38 _ _ (X8.out) _ Tryd.underlying27 rfl (by kernel_rfl) ?_
        go_wp2_with fail
        refine (E1.out _).mono ?_
        rintro e w9 ⟨rfl, b9⟩
        have B9 := Lib.hid (B8.out.trans (b9.mono B8.out.size))
        have Y9 := Lib.hid (Y8.out.below b9)
        have Z9 := Lib.hid (Z8.out.below b9)
        have X9 := Lib.hid (X8.out.below b9)
        clear b9 B8 Y8 Z8 X8
        go_wp2_with (first | ((with_reducible (show wpList _ _ _ (Oper.mk (some 75) _ _ _ _ _ :: _) _ _)); refine Hid.out ?_))
        refine Lib.hid ?_
        refine wpList_load_rowV rfl 27 (.tmp 2) rfl w.heap.size rfl 38 _ _ (Z9.out) _ Tryd.underlying27 rfl (by kernel_rfl) ?_
        go_wp2_with (first | ((with_reducible (show wpList _ _ _ (Oper.mk none _ _ _ _ _ :: _) _ _)); refine Hid.out ?_))
        refine Lib.hid ?_
        refine wpList_store_rowV rfl 27 (.tmp 2) (.tmp 75) rfl w.heap.size rfl 38 _ _ _ rfl (Z9.out) (by kernel_rfl) (fun j _ => akC_one _ j) ?_
        intro w10 Z10 O10
        go_wp2_with fail
        refine bodyPost_ret (v := .tuple #[.agg (rowF 38 (akC ak0)), .int .i64 330]) (by exact results_rowV2 (fn := Tryd.f11) (p := 2) (u := 3) (ty := 27) rfl _ _ w.heap.size 38 27 _ _ rfl Z10.out Tryd.underlying27 rfl (by kernel_rfl)) rfl ⟨rfl, ?_⟩
        exact B9.out.trans (O10.out.below (Nat.le_refl _) B9.out.size)
      · have E1 : Hid (∀ W, Calls Tryd.prog 9 #[.agg (rowF 38 (akC ak))] W fun e w' => (∃ u, e = .returned (.tuple #[u, .int .i64 0]) ∧ Owns w' W.heap.size u (encA ak [ak.r, ak.g])) ∧ Below W.heap.size W w') := E
        have VE4 : Hid (re = if encA ak [ak.r, ak.g] = l then 0 else 330) := Lib.hid (by rw [VE3.out]; simp)
        clear E VE3
        go_wp2_with (first | ((with_reducible (show wpList _ _ _ (Oper.mk (some 63) _ _ _ _ _ :: _) _ _)); refine Hid.out ?_))
        refine Lib.hid ?_
        refine wpList_load_rowV rfl 27 (.tmp 5) rfl w4.heap.size rfl 38 _ _ (X8.out) _ Tryd.underlying27 rfl (by kernel_rfl) ?_
        go_wp2_with fail
        refine (E1.out _).mono ?_
        rintro e w9 ⟨⟨u, rfl, o9⟩, b9⟩
        have Y9 := Lib.hid (Y8.out.below b9)
        have Z9 := Lib.hid (Z8.out.below b9)
        have X9 := Lib.hid (X8.out.below b9)
        have B9 := Lib.hid (B8.out.trans (b9.mono B8.out.size))
        have U9 := o9.bytesAt (by have := EL.out; omega)
        obtain ⟨ua, uc, rfl⟩ := U9.slice
        have Q := Lib.hid (bequal_any _ _ _ _ w9 Y9.out U9)
        clear o9 b9 U9 Y8 Z8 X8 B8 E1 EL Y9
        obtain ⟨un, hun⟩ : ∃ y, (encA ak [ak.r, ak.g]).length = y := ⟨_, rfl⟩
        rw [hun] at Q ⊢
        clear hun
        go_wp2_with fail
        go_wp2_with fail
        refine (Q.out).mono ?_
        rintro e w10 ⟨rfl, b10⟩
        have B10 := Lib.hid (B9.out.trans (b10.mono B9.out.size))
        have Z10 := Lib.hid (Z9.out.below b10)
        have X10 := Lib.hid (X9.out.below b10)
        clear b10 B9 Z9 X9
        clear Q
        by_cases hq : l = encA ak [ak.r, ak.g]
        · have dq : decide (l = encA ak [ak.r, ak.g]) = true := decide_eq_true hq
          obtain rfl : re = 0 := by rw [VE4.out, if_pos hq.symm]
          obtain rfl : rv = ak := by rw [VV1.out, if_pos rfl]
          clear hq
          go_wp2_with (first | ((with_reducible (show wpList _ _ _ (Oper.mk (some 76) _ _ _ _ _ :: _) _ _)); refine Hid.out ?_))
          refine Lib.hid ?_
          refine wpList_load_rowV rfl 27 (.tmp 5) rfl w4.heap.size rfl 38 _ _ (X10.out) _ Tryd.underlying27 rfl (by kernel_rfl) ?_
          go_wp2_with (first | ((with_reducible (show wpList _ _ _ (Oper.mk none _ _ _ _ _ :: _) _ _)); refine Hid.out ?_))
          refine Lib.hid ?_
          refine wpList_store_rowV rfl 27 (.tmp 2) (.tmp 76) rfl w.heap.size rfl 38 _ _ _ rfl (Z10.out) (by kernel_rfl) (fun j _ => akC_one _ j) ?_
          intro w11 Z11 O11
          go_wp2_with fail
          refine bodyPost_ret (v := .tuple #[.agg (rowF 38 (akC rv)), .int .i64 0]) (by exact results_rowV2 (fn := Tryd.f11) (p := 2) (u := 3) (ty := 27) rfl _ _ w.heap.size 38 27 _ _ rfl Z11.out Tryd.underlying27 rfl (by kernel_rfl)) rfl ⟨rfl, ?_⟩
          exact B10.out.trans (O11.out.below (Nat.le_refl _) B10.out.size)
        · have dq : decide (l = encA ak [ak.r, ak.g]) = false := decide_eq_false hq
          obtain rfl : re = 330 := by rw [VE4.out, if_neg (fun h => hq h.symm)]
          obtain rfl : rv = ak0 := by rw [VV1.out, if_neg (by decide)]
          clear hq
          go_wp2_with (first | ((with_reducible (show wpList _ _ _ (Oper.mk (some 75) _ _ _ _ _ :: _) _ _)); refine Hid.out ?_))
          refine Lib.hid ?_
          refine wpList_load_rowV rfl 27 (.tmp 2) rfl w.heap.size rfl 38 _ _ (Z10.out) _ Tryd.underlying27 rfl (by kernel_rfl) ?_
          go_wp2_with (first | ((with_reducible (show wpList _ _ _ (Oper.mk none _ _ _ _ _ :: _) _ _)); refine Hid.out ?_))
          refine Lib.hid ?_
          refine wpList_store_rowV rfl 27 (.tmp 2) (.tmp 75) rfl w.heap.size rfl 38 _ _ _ rfl (Z10.out) (by kernel_rfl) (fun j _ => akC_one _ j) ?_
          intro w11 Z11 O11
          go_wp2_with fail
          refine bodyPost_ret (v := .tuple #[.agg (rowF 38 (akC ak0)), .int .i64 330]) (by exact results_rowV2 (fn := Tryd.f11) (p := 2) (u := 3) (ty := 27) rfl _ _ w.heap.size 38 27 _ _ rfl Z11.out Tryd.underlying27 rfl (by kernel_rfl)) rfl ⟨rfl, ?_⟩
          exact B10.out.trans (O11.out.below (Nat.le_refl _) B10.out.size)
    · have d7 : ((m : Int) == 7) = false := by rw [beq_eq_false_iff_ne]; omega
      have d8 : (m == 7) = false := by rw [beq_eq_false_iff_ne]; exact h7
      obtain rfl : re = 330 := by rw [VE2.out, if_neg (fun h => h7 h.1)]
      obtain rfl : rv = ak0 := by rw [VV1.out, if_neg (by decide)]
      clear h7
      go_wp2_with (first | ((with_reducible (show wpList _ _ _ (Oper.mk (some 21) _ _ _ _ _ :: _) _ _)); refine Hid.out ?_))
      refine Lib.hid ?_
      refine wpList_load_rowV rfl 27 (.tmp 2) rfl w.heap.size rfl 38 _ _ (Z3.out) _ Tryd.underlying27 rfl (by kernel_rfl) ?_
      go_wp2_with (first | ((with_reducible (show wpList _ _ _ (Oper.mk none _ _ _ _ _ :: _) _ _)); refine Hid.out ?_))
      refine Lib.hid ?_
      refine wpList_store_rowV rfl 27 (.tmp 2) (.tmp 21) rfl w.heap.size rfl 38 _ _ _ rfl (Z3.out) (by kernel_rfl) (fun j _ => akC_one _ j) ?_
      intro w9 Z9 O9
      go_wp2_with fail
      refine bodyPost_ret (v := .tuple #[.agg (rowF 38 (akC ak0)), .int .i64 330]) (by exact results_rowV2 (fn := Tryd.f11) (p := 2) (u := 3) (ty := 27) rfl _ _ w.heap.size 38 27 _ _ rfl Z9.out Tryd.underlying27 rfl (by kernel_rfl)) rfl ⟨rfl, ?_⟩
      exact B3.out.trans (O9.out.below (Nat.le_refl _) B3.out.size)
end Go.Proofs.YtbjbgneejdjniaaDoor
