/- slices.Backward of listings, maps.Values: their iterators. slices.AppendSeq, Collect, SortedFunc over the values of a map of listings. Package people: Accept. Package people: Listings. Listings and certificates compared; Few, Same. Certificates made and accepted, in plain Lean: a first device, a second one, a revocation, a recovery. Package chartroomlaw37: one, sane. -/
import Derived.Test.YtpekhdahamloaaaGreatDoorPk46
import Derived.Test.YtpekhdahamloaaaGreatDoorPk50
import Derived.Test.YtpekhdahamloaaaGreatDoorPk42
import Derived.Test.YtpekhdahamloaaaGreatDoorPk47
import Derived.Test.YtpekhdahamloaaaGreatDoorPk49
import Derived.Deep.MidRow
set_option linter.unusedVariables false
set_option linter.unusedSimpArgs false
namespace Go.Proofs.YtpekhdahamloaaaGreatDoor
open Go.RowKit Cod
abbrev St (S : Nat → Prop) : World → World → Prop := (Tc.Rl.stay S).r
theorem SlS.stay {S : Nat → Prop} {s : Nat} {w w' : World} {v : Value} {n : Nat} {c : Nat → Nat → Value} (h : SlS S s w v n c) (hs : St S w w') : SlS S s w' v n c := by
  rcases h with h | ⟨b, off, cap, h1, h2, h3, h4, h5, h6⟩
  · exact .inl h
  · have e := hs b h5.2
    have hlt : b < w'.heap.size := by
      have := Array.getElem?_eq_getElem h5.1
      rw [← e] at this
      exact (Array.getElem?_eq_some_iff.1 this).1
    exact .inr ⟨b, off, cap, h1, h2, h3, h4, ⟨hlt, h5.2⟩, fun i hi j hj => (World.cell?_of_block (w := w) (w' := w') (a := ⟨b, off + s * i + j, none⟩) e).trans (h6 i hi j hj)⟩
theorem RowV.stay {S : Nat → Prop} {w w' : World} {B n : Nat} {T : TypeId} {g : Nat → Value} (h : RowV w B T n g) (hS : S B) (hs : St S w w') : RowV w' B T n g := h.of_block (hs B hS)
theorem St.trans {S : Nat → Prop} {a b c : World} (h : St S a b) (k : St S b c) : St S a c := (Tc.Rl.stay S).trans h k
theorem St.refl {S : Nat → Prop} (a : World) : St S a a := fun _ _ => rfl
/-- the first k that come -/
def bkL (x : List Li) (k : Nat) : List (Nat × Li) := (List.range k).map fun t => (x.length - 1 - t, x.getD (x.length - 1 - t) li0)
theorem bkL_len (x : List Li) (k : Nat) : (bkL x k).length = k := by simp [bkL]
theorem bkL_succ (x : List Li) (k : Nat) : bkL x (k + 1) = bkL x k ++ [(x.length - 1 - k, x.getD (x.length - 1 - k) li0)] := by unfold bkL; rw [List.range_succ, List.map_append]; rfl
theorem bkL_all (x : List Li) : ((bkL x x.length).map (·.2)).reverse = x := by
  unfold bkL
  rw [List.map_map]
  apply List.ext_getElem (by simp)
  intro i h1 h2
  simp only [List.getElem_reverse, List.getElem_map, List.getElem_range, Function.comp_apply, List.length_map, List.length_range]
  have : x.length - 1 - (x.length - 1 - i) = i := by omega
  simp [this, h2]
abbrev encB (p : Nat × Li) : Array Value := #[.int .i64 (p.1 : Int), liA p.2]
theorem pback_any (a : Option Addr) (m k : Nat) (w : World) : Calls Tryz.prog 70 #[.slice a m k] w fun e w' => e = .returned (.func (.func 110) #[] #[.pointer (some ⟨w.heap.size, 0, none⟩)]) ∧ w' = w.alloc (.cells #[.slice a m k] 74) := by
  have hmf : ∀ (fn : Fn) (first cap : Array Value) (w : World), (Instr.makeFunc fn first cap).run Tryz.prog w = .ok (.func fn first cap) w := fun _ _ _ _ => rfl
  go_enter Tryz.func70, Tryz.ntmps70
  go_wp2_with fail
  go_ret
  exact ⟨rfl, rfl⟩
set_option maxRecDepth 100000 in
set_option maxHeartbeats 8000000 in
theorem back_stops (n : Nat) (S : Nat → Prop) (B : Nat) (v : Value) (x : List Li) (w : World) (hS : S B) (hB : RowV w B 74 1 (fun _ => v)) (hx : SlS S 5 w v x.length (fun i => liC (x.getD i li0))) (hn : x.length ≤ 1000) (hbl : ∀ k, S k → k < w.heap.size) :
    SeqStopsK Fence.wide n Tryz.prog 110 #[.pointer (some ⟨B, 0, none⟩)] encB (St S) (fun xs => xs = bkL x x.length) (fun _ => True) x.length w := by
  intro l J Jx W hW hJ hJx hY h0
  refine callsIn_wide.2 ?_
  show Calls _ _ #[.func (.yield l) #[] #[], .pointer (some ⟨B, 0, none⟩)] W _
  have st : St S w W := fun k hk => hW.block k (hbl k hk)
  have X0 := Lib.hid (hx.stay st)
  have B0 := Lib.hid (hB.stay hS st)
  have HS := Lib.hid hS
  have HY := Lib.hid hY
  have HJ0 : Hid (J (bkL x 0) W) := Lib.hid h0
  obtain ⟨va, vc, rfl⟩ := hx.at'.slice
  have FIN : Hid (∀ (e : Ending) (W' : World), (∃ v, e = .returned v) → (J (bkL x x.length) W' ∨ ∃ pre, Jx pre W') → (∃ v, e = .returned v) ∧ ((∃ xs, xs = bkL x x.length ∧ J xs W') ∨ ∃ pre, True ∧ Jx pre W')) := Lib.hid (fun e W' h1 h2 => ⟨h1, h2.elim (fun h => .inl ⟨_, rfl, h⟩) (fun ⟨p, h⟩ => .inr ⟨p, trivial, h⟩)⟩)
  obtain ⟨m, hm⟩ : ∃ y, x.length = y := ⟨_, rfl⟩
  have HM := Lib.hid hm
  rw [hm] at X0 HY FIN B0 ⊢
  have qn : (m : Int) ≤ 1000 := by omega
  have m1 : IntKind.i64.wrap ((m : Int) - 1) = (m : Int) - 1 := IntWalk.i64_in _ (by omega)
  have x0 : W.cell? ⟨B, 0, none⟩ = some (.slice va m vc) := B0.out.cell (i := 0) (by decide)
  clear hx hB hS hn st hbl hJ hJx hY h0 hm hW
  refine Calls.mono (R := fun e W' => (∃ v, e = .returned v) ∧ (J (bkL x m) W' ∨ ∃ pre, Jx pre W')) ?_ (fun e W' h => by rw [HM.out] at *; exact FIN.out e W' h.1 h.2)
  clear FIN
  go_enter Tryz.func110, Tryz.ntmps110
  go_wp2_with fail
  clear x0 m1
  go_loopg [3] m (fun gh s3 wx => ∃ k : Nat, k + gh = m ∧ s3 = .int .i64 ((gh : Int) - 1) ∧ Hid (J (bkL x k) wx) ∧ Hid (SlS S 5 wx (.slice va m vc) m (fun i => liC (x.getD i li0))) ∧ Hid (RowV wx B 74 1 (fun _ => .slice va m vc)))
  case atStart => exact ⟨0, by omega, rfl, HJ0, X0, B0⟩
  case round =>
    clear HJ0 X0 B0
    obtain ⟨k, hk, rfl, hJ, hX, hB⟩ := hrel
    obtain ⟨w1, rfl⟩ : ∃ y, y = wr := ⟨_, rfl⟩
    cases gk with
    | zero =>
      obtain rfl : k = m := by omega
      go_wp2_with fail
      go_end0
      exact ⟨⟨_, rfl⟩, .inl hJ.out⟩
    | succ t =>
      have q0 : (0 : Int) ≤ (t : Int) := Int.natCast_nonneg t
      have e0 : ((t + 1 : Nat) : Int) - 1 = (t : Int) := by omega
      rw [e0]
      clear e0
      have d0 : decide ((0 : Int) ≤ (t : Int)) = true := by rw [decide_eq_true_iff]; omega
      have q1 : (t : Int) < (m : Int) := by omega
      have q2 : IntKind.i64.wrap ((t : Int) - 1) = (t : Int) - 1 := IntWalk.i64_in _ (by omega)
      obtain ⟨b, off, rfl, hcap, hb, hc⟩ := SlAt.at_elem (s := 5) (n := m) (a := va) (k := vc) (c := fun i => liC (x.getD i li0)) hX.out.at' (show t < m by omega)
      have x0 : w1.cell? ⟨B, 0, none⟩ = some (.slice (some ⟨b, off, none⟩) m vc) := hB.out.cell (i := 0) (by decide)
      have HCK := Lib.hid (fun j hj => hc t (show t < m by omega) j hj)
      have BS : Hid (bkL x (k + 1) = bkL x k ++ [(t, x.getD t li0)]) := Lib.hid (by rw [bkL_succ, HM.out, show m - 1 - k = t by omega])
      have YT := HY.out (bkL x k) (t, x.getD t li0) w1 hJ.out (by rw [bkL_len]; omega)
      have HYT := Lib.hid YT
      have HK := Lib.hid hk
      obtain ⟨z, hz⟩ : ∃ y, x.getD t li0 = y := ⟨_, rfl⟩
      rw [hz] at HCK BS HYT
      clear YT hz hc hb hcap hk
      go_upto_region 3 with fail
      refine (wpIn_wide (n := n)).1 (wpIn_region_lit (wpListIn_pre' 6 ?_))
      simp only [List.take_succ_cons, List.take_zero, List.drop_succ_cons, List.drop_zero]
      go_wp2_with (first | ((with_reducible (show wpList _ _ _ (Oper.mk (some 16) _ _ _ _ _ :: _) _ _)); refine Hid.out ?_))
      refine Lib.hid ?_
      refine wpList_load_elem rfl 71 (.tmp 15) rfl b (off + t * 5) rfl 5 off t (by rw [Nat.mul_comm]) (liC z) HCK.out _ Tryz.underlying71 rfl (by kernel_rfl) ?_
      go_wp2_with fail
      unfold preQ
      dsimp only
      refine wpListIn_yield rfl (.tmp 11) #[.tmp 12, .tmp 16] #[3, 71] rfl l rfl #[.int .i64 (t : Int), liA z] rfl HYT.out ?_
      clear HYT HCK x0
      rintro e w2 (⟨rfl, hJ2, hk2⟩ | ⟨rfl, hJx2⟩)
      · have J2 : Hid (J (bkL x (k + 1)) w2) := Lib.hid (by rw [BS.out]; exact hJ2)
        have X2 := Lib.hid (hX.out.stay hk2)
        have B2 := Lib.hid (hB.out.stay HS.out hk2)
        clear hJ2 hk2 BS hJ hX hB
        refine ⟨_, rfl, wpListIn_pre' 1 ?_⟩
        simp only [List.take_succ_cons, List.take_zero, List.drop_succ_cons, List.drop_zero]
        go_wp2_with fail
        unfold preQ
        dsimp only
        unfold wpListIn
        go_wp2_with fail
        go_roundg t
        case measure => omega
        case rel =>
          go_light
          exact ⟨k + 1, by have := HK.out; omega, rfl, J2, X2, B2⟩
      · refine ⟨_, rfl, wpListIn_pre' 1 ?_⟩
        simp only [List.take_succ_cons, List.take_zero, List.drop_succ_cons, List.drop_zero]
        have JX : Hid (∃ pre, Jx pre w2) := Lib.hid ⟨_, hJx2⟩
        clear hJx2
        go_wp2_with fail
        unfold preQ
        dsimp only
        unfold wpListIn
        go_wp2_with fail
        refine bodyPost_ret (results_none rfl _ _ _) rfl ?_
        exact ⟨⟨_, rfl⟩, .inr JX.out⟩
abbrev encV (z : Li) : Array Value := #[liA z]
abbrev prL (z : Li) : Int × Value := (z.d, liA z)
/-- block b is a map of these listings by their devices -/
def MapV (w : World) (b : Nat) (x : List Li) : Prop := ∃ m, IM.At w b m ∧ m.Perm (x.map prL)
end Go.Proofs.YtpekhdahamloaaaGreatDoor

namespace Go.Proofs.YtpekhdahamloaaaGreatDoor
open Go.RowKit Cod
abbrev OwnLi (w : World) (base : Nat) (v : Value) (l : List Li) : Prop := OwnT 71 5 liC w base v l
theorem ownFrom_row {β : Type} {B Bx n : Nat} {T : TypeId} {g : Nat → Value} : OwnFrom B (fun (_ : β) W => RowV W Bx T n g) := fun s W W' row hs hg hr => by
  refine (hg.block Bx hs.lt (fun e => ?_)).trans hs
  obtain ⟨o, ho, hc⟩ := (hr Bx e.symm).2
  rw [show W.heap[Bx]? = _ from hs] at ho
  cases ho; cases hc
theorem grown_below {W W' : World} (b : Below W.heap.size W W') : W.grownBy W' none := ⟨b.os, b.tape, b.output, b.size, fun k hk _ => b.block k hk⟩
theorem keepsFrom_below {B : Nat} {W W' : World} (b : Below W.heap.size W W') : KeepsFrom B W W' := ⟨b.size, fun k o _ hk _ => (b.block k (Array.getElem?_eq_some_iff.1 hk).1).trans hk⟩
/-- an own slice of listings, as a row -/
theorem OwnLi.row {w : World} {base : Nat} {v : Value} {l : List Li} (h : OwnLi w base v l) (h0 : l ≠ []) : ∃ g cap N, v = .slice (some ⟨g, 0, none⟩) l.length cap ∧ l.length ≤ cap ∧ base ≤ g ∧ (cap : Int) ≤ 9223372036854775807 ∧ LiB w g N l.length (fun i => l.getD i li0) := by
  have hs := h.at' li0 (by decide) (by decide)
  obtain ⟨_, h2⟩ := h
  rcases h2 with ⟨_, h1⟩ | ⟨g, cap, cur, h1, h3, h4, h5, h6, h7, h8⟩
  · exact absurd (List.eq_nil_of_length_eq_zero h1) h0
  · refine ⟨g, cap, cap * 5, h1, h5, h3, ?_, by omega, fun i => cur.getD i undef, ?_, ?_⟩
    · unfold maxLen at h6; omega
    · show w.heap[g]? = some (.cells (rowF (cap * 5) fun i => cur.getD i undef) 71 (0, 0))
      rw [h4]
      congr 2
      apply Array.ext
      · rw [rowF_size, h7]
      · intro i h1 h2
        simp [rowF, h1]
    · intro i hi c hc
      have e := flatS_get (s := 5) (c := liC) li0 l i c hi hc
      rw [← h8, List.getElem?_take_of_lt (by omega)] at e
      show cur.getD (5 * i + c) undef = _
      rw [Array.getD_eq_getD_getElem?, ← Array.getElem?_toList, e]; rfl
theorem LiB.sl {w : World} {g N n cap : Nat} {f : Nat → Li} (h : LiB w g N n f) (h0 : 0 < n) (hn : n ≤ 1000) (hc : n ≤ cap) (hc2 : (cap : Int) ≤ 9223372036854775807) : SlAt 5 w (.slice (some ⟨g, 0, none⟩) n cap) n (fun i => liC ((lst f n).getD i li0)) := by
  obtain ⟨h1, q, h2, h3⟩ := h
  refine .inr ⟨g, 0, cap, rfl, hc, h0, ⟨by omega, hc2⟩, h2.lt, fun i hi j hj => ?_⟩
  rw [Nat.zero_add, h2.cell (by omega), h3 i hi j hj]
  congr 2
  simp [lst, hi]
theorem SlAt.only {s n b : Nat} {c : Nat → Nat → Value} {w w' : World} {u : Value} (h : SlAt s w u n c) (hs : 0 < s) {m : List (Int × Value)} (hm : IM.At w b m) (o : OnlyB b w w') : SlAt s w' u n c := by
  rcases h with h | ⟨g, off, cap, h1, h2, h3, h4, h5, h6⟩
  · exact .inl h
  · have hne : g ≠ b := by
      intro e
      subst e
      obtain ⟨es, cl, hb, _⟩ := hm
      have := h6 0 h3 0 hs
      simp [World.cell?, hb] at this
    exact .inr ⟨g, off, cap, h1, h2, h3, h4, Nat.lt_of_lt_of_le h5 o.size, fun i hi j hj => (o.cell (p := ⟨g, off + s * i + j, none⟩) h5 hne).trans (h6 i hi j hj)⟩
end Go.Proofs.YtpekhdahamloaaaGreatDoor

namespace Go.Proofs.YtpekhdahamloaaaGreatDoor
open Go.RowKit Cod
theorem fin_caught2 {vb eb : Nat} {w w2 w3 w4 : World} (B2 : Below w.heap.size w w2) (E2 : w2.heap.size = w.heap.size) (o3 : OnlyB vb w2 w3) (o4 : OnlyB eb w3 w4) :
    w.heap.size ≤ w4.heap.size ∧ w4.os = w.os ∧ w4.tape = w.tape ∧ w4.output = w.output ∧ ∀ k, k < w.heap.size → ¬k = vb → ¬k = eb → w4.heap[k]? = w.heap[k]? :=
  ⟨by have := o3.size; have := o4.size; omega, (o4.os.trans o3.os).trans B2.os, (o4.tape.trans o3.tape).trans B2.tape, (o4.output.trans o3.output).trans B2.output,
    fun k hk h1 h2 => ((o4.block k (by have := o3.size; omega) h2).trans (o3.block k (by omega) h1)).trans (B2.block k hk)⟩
set_option maxRecDepth 100000 in
set_option maxHeartbeats 4000000 in
theorem acc_caught (vb eb : Nat) (f : Nat → Value) (x z : Int) (older : List PanicEntry) (w : World) (hv : RowV w vb 71 5 f) (he : RowV w eb 27 1 (fun _ => .int .i64 x)) (hne : vb ≠ eb) :
    CallsDIn Fence.wide 4 Tryz.prog 65 #[.pointer (some ⟨vb, 0, none⟩), .pointer (some ⟨eb, 0, none⟩)] (.panicking ({ v := .iface 27 (.int .i64 z), recovered := false } :: older)) w fun e u' w' =>
      e = .returned (.tuple #[]) ∧ u' = .panicking ({ v := .iface 27 (.int .i64 z), recovered := true } :: older) ∧ RowV w' vb 71 5 (liC li0) ∧ RowV w' eb 27 1 (fun _ => .int .i64 z) ∧ w.heap.size ≤ w'.heap.size ∧ w'.os = w.os ∧ w'.tape = w.tape ∧ w'.output = w.output ∧ ∀ k, k < w.heap.size → k ≠ vb → k ≠ eb → w'.heap[k]? = w.heap[k]? := by
  refine callsDIn_of_wpSIn Tryz.func65 rfl trivial fun c₀ cs hu => ?_
  apply wpSIn_seq
  apply wpSIn_region
  simp [wpOpsSIn, Fence.wide, go_sem, recoverD, hu, Tryz.ntmps65, Exit.thenS]
  refine wpSIn_of_wpIn rfl (wpIn_wide.2 ?_)
  have hl : #[Value.pointer (some { block := vb, off := 0 }), Value.pointer (some { block := eb, off := 0 })] ++ ((Array.replicate 7 undef).setIfInBounds 1 (Value.iface 27 (Value.int IntKind.i64 z))).setIfInBounds 0 (Value.iface 27 (Value.int IntKind.i64 z)) = #[.pointer (some ⟨vb, 0, none⟩), .pointer (some ⟨eb, 0, none⟩), .iface 27 (.int .i64 z), .iface 27 (.int .i64 z), undef, undef, undef, undef, undef] := rfl
  rw [hl]
  clear hl
  have hta : ∀ W, (Instr.typeAssert (.iface 27 (.int .i64 z)) 20 27 false).run Tryz.prog W = .ok (.int .i64 z) W := fun _ => by kernel_rfl
  have HV := Lib.hid hv
  have HE := Lib.hid he
  have HN := Lib.hid hne
  have HU := Lib.hid hu
  clear hv he hne hu
  go_wp2_with fail
  refine Tc.wp_region_plan (Tc.Rl.stay (fun _ => False)) 5 [] (.fl 0 (.fl 1 (.two 2 3 (.one 3 (.one 4 .done)) (.one 2 (.one 4 .done))))) (by kernel_rfl) (by kernel_rfl) ?_
  intro w2 b2 e2
  have HV2 := HV.out.below b2
  have HE2 := HE.out.below b2
  clear HV HE
  have HV := Lib.hid HV2
  have HE := Lib.hid HE2
  have B2 := Lib.hid b2
  have E2 := Lib.hid e2
  clear HV2 HE2 b2 e2
  refine Tc.plan_floats [0, 1] [_, _] rfl ?_
  dsimp only [List.getElem_toArray, List.getElem_cons_succ, List.getElem_cons_zero]
  repeat (go_big_quiet_want; go_big_quiet_op; first | go_big_quiet_on | (refine ⟨_, fun _ _ => rfl, ?_⟩; go_big_quiet_on))
  refine wpQuiet_nil ?_
  refine Tc.plan_two 2 3 rfl rfl (fun K hK => ?_) (fun K hK => ?_)
  · skip
    go_wp2_with fail
    refine hK _ _ (fun k hk => hk.elim) ?_
    clear hK K
    refine Tc.plan_one 3 rfl (fun K hK => ?_)
    refine wpList_store_rowV (o := ⟨none, .store 71 (.tmp 0) (.tmp 6), _, _, _, _⟩) rfl 71 (.tmp 0) (.tmp 6) rfl vb rfl 5 71 _ (liC li0) rfl HV.out (by kernel_rfl) (fun j _ => liC_one _ j) ?_
    intro w3 V3 o3
    go_wp2_with fail
    refine hK _ _ (fun k hk => hk.elim) ?_
    have E3 := Lib.hid (o3.out.row (Ne.symm HN.out) HE.out)
    clear hK K
    refine Tc.plan_one 4 rfl (fun K hK => ?_)
    have x0 : w3.cell? ⟨eb, 0, none⟩ = some (.int .i64 x) := E3.out.cell (i := 0) (by decide)
    have f0 : w3.frozen? ⟨eb, 0, none⟩ = false := E3.out.frozen 0
    go_wp2_with fail
    refine hK _ _ (fun k hk => hk.elim) ?_
    clear hK K x0 f0
    refine Tc.plan_done (l := []) rfl (fun K hK => ?_)
    go_wp2_with fail
    have R4 := (E3.out.set 0 (.int .i64 z)).congr (g' := fun _ => .int .i64 z) (fun i hi => if_pos (by omega))
    have V4 := V3.out.other (a := ⟨eb, 0, none⟩) HN.out (.int .i64 z)
    have o4 := (OnlyB.refl eb w3).setCell (p := ⟨eb, 0, none⟩) (.inl rfl) (.int .i64 z)
    have B2 := B2.out
    have E2 := E2.out
    have HU := HU.out
    have FIN := fin_caught2 B2 E2 o3.out o4
    exact ⟨rfl, _, rfl, .tuple #[], by kernel_rfl, rfl, rfl, V4, R4, FIN⟩
  · skip
    refine wpList_store_rowV (o := ⟨none, .store 71 (.tmp 0) (.tmp 6), _, _, _, _⟩) rfl 71 (.tmp 0) (.tmp 6) rfl vb rfl 5 71 _ (liC li0) rfl HV.out (by kernel_rfl) (fun j _ => liC_one _ j) ?_
    intro w3 V3 o3
    go_wp2_with fail
    refine hK _ _ (fun k hk => hk.elim) ?_
    have E3 := Lib.hid (o3.out.row (Ne.symm HN.out) HE.out)
    clear hK K
    refine Tc.plan_one 2 rfl (fun K hK => ?_)
    go_wp2_with fail
    refine hK _ _ (fun k hk => hk.elim) ?_
    clear hK K
    refine Tc.plan_one 4 rfl (fun K hK => ?_)
    have x0 : w3.cell? ⟨eb, 0, none⟩ = some (.int .i64 x) := E3.out.cell (i := 0) (by decide)
    have f0 : w3.frozen? ⟨eb, 0, none⟩ = false := E3.out.frozen 0
    go_wp2_with fail
    refine hK _ _ (fun k hk => hk.elim) ?_
    clear hK K x0 f0
    refine Tc.plan_done (l := []) rfl (fun K hK => ?_)
    go_wp2_with fail
    have R4 := (E3.out.set 0 (.int .i64 z)).congr (g' := fun _ => .int .i64 z) (fun i hi => if_pos (by omega))
    have V4 := V3.out.other (a := ⟨eb, 0, none⟩) HN.out (.int .i64 z)
    have o4 := (OnlyB.refl eb w3).setCell (p := ⟨eb, 0, none⟩) (.inl rfl) (.int .i64 z)
    have B2 := B2.out
    have E2 := E2.out
    have HU := HU.out
    have FIN := fin_caught2 B2 E2 o3.out o4
    exact ⟨rfl, _, rfl, .tuple #[], by kernel_rfl, rfl, rfl, V4, R4, FIN⟩
theorem acc_idle (p q : Value) (w : World) :
    CallsDIn Fence.wide 4 Tryz.prog 65 #[p, q] .returning w fun e u' w' => e = .returned (.tuple #[]) ∧ u' = .returning ∧ w' = w := by
  have hnil : ∀ w : World, (binOp BinOp.neq 20 .nilIface .nilIface).run Tryz.prog w = .ok (.bool false) w := fun _ => by kernel_rfl
  refine callsDIn_of_wpSIn Tryz.func65 rfl trivial fun c₀ cs hu => ?_
  apply wpSIn_seq
  apply wpSIn_region
  simp [wpOpsSIn, Fence.wide, go_sem, recoverD, hu, Tryz.ntmps65, Exit.thenS]
  have HU := Lib.hid hu
  clear hu
  refine wpSIn_of_wpIn rfl (wpIn_wide.2 ?_)
  have hl : #[p, q] ++ ((Array.replicate 7 undef).setIfInBounds 1 Value.nilIface).setIfInBounds 0 Value.nilIface = #[p, q, .nilIface, .nilIface, undef, undef, undef, undef, undef] := rfl
  rw [hl]
  clear hl
  go_wp2
  have HU := HU.out
  cases c₀
  simp_all [bodyPostS, results, Tryz.results65]
abbrev cloA (vb eb : Nat) : Deferred := { target := .fn (.func 65) #[.pointer (some ⟨vb, 0, none⟩), .pointer (some ⟨eb, 0, none⟩)], args := #[] }
theorem results_acc {tmps : Array Value} {w : World} {vb eb : Nat} {f : Nat → Value} {x : Int} (h6 : tmps.getD 6 undef = .pointer (some ⟨vb, 0, none⟩)) (h7 : tmps.getD 7 undef = .pointer (some ⟨eb, 0, none⟩)) (hv : RowV w vb 71 5 f) (he : RowV w eb 27 1 (fun _ => .int .i64 x)) :
    (results Tryz.f29 tmps).run Tryz.prog w = .ok (.tuple #[.agg (rowF 5 f), .int .i64 x]) w := by
  have hr : Tryz.f29.results = #[.cell 6 71, .cell 7 27] := rfl
  have e1 : w.cell? ⟨eb, 0, none⟩ = some (.int .i64 x) := he.cell (i := 0) (by decide)
  have l1 := run_loadVar_row (P := Tryz.prog) w vb 71 71 (rowF 5 f) (0, 0) _ hv Tryz.underlying71 rfl (by rw [rowF_size]; kernel_rfl)
  have l2 : (loadVar 27 ⟨eb, 0, none⟩).run Tryz.prog w = .ok (.int .i64 x) w := by
    simp [go_sem, e1]
  rw [Array.getD_eq_getD_getElem?] at h6 h7
  simp [results, hr, h6, h7, Sem.run_bind, asAddr, l1, l2]
theorem acc_bad {tmps : Array Value} {R : Ending → World → Prop} {w : World} {vb eb : Nat} {f : Nat → Value} {x z : Int} (h6 : tmps.getD 6 undef = .pointer (some ⟨vb, 0, none⟩)) (h7 : tmps.getD 7 undef = .pointer (some ⟨eb, 0, none⟩)) (hv : RowV w vb 71 5 f) (he : RowV w eb 27 1 (fun _ => .int .i64 x)) (hne : vb ≠ eb)
    (h : ∀ w', w.heap.size ≤ w'.heap.size → w'.os = w.os → w'.tape = w.tape → w'.output = w.output → (∀ k, k < w.heap.size → k ≠ vb → k ≠ eb → w'.heap[k]? = w.heap[k]?) → R (.returned (.tuple #[liA li0, .int .i64 z])) w') :
    LeavesInM Fence.wide 5 Tryz.prog Tryz.f29 tmps R [cloA vb eb] (.panicking [{ v := .iface 27 (.int .i64 z), recovered := false }]) w := by
  refine ⟨by simp, .inr ⟨fun e => (by cases e), _, _, 65, #[.pointer (some ⟨vb, 0, none⟩), .pointer (some ⟨eb, 0, none⟩)], rfl, by simp [go_sem], fun _ _ => trivial, ?_⟩⟩
  obtain ⟨t, hh⟩ := acc_caught vb eb f x z [] w hv he hne
  refine ⟨t, fun c cs hm hr => ?_⟩
  obtain ⟨e, u', w', fr, ⟨rfl, rfl, hv', he', s1, s2, s3, s4, s5⟩, g1, g2, g3, g4⟩ := hh c cs hm hr
  refine ⟨_, _, w', fr, ?_, g1, g2, g3, g4⟩
  show LeavesInM _ _ _ _ _ _ [] .returning w'
  exact ⟨_, results_acc h6 h7 hv' he', h w' s1 s2 s3 s4 s5⟩
theorem acc_good {tmps : Array Value} {R : Ending → World → Prop} {w : World} {vb eb : Nat} {f : Nat → Value} {x : Int} (h6 : tmps.getD 6 undef = .pointer (some ⟨vb, 0, none⟩)) (h7 : tmps.getD 7 undef = .pointer (some ⟨eb, 0, none⟩)) (hv : RowV w vb 71 5 f) (he : RowV w eb 27 1 (fun _ => .int .i64 x))
    (h : R (.returned (.tuple #[.agg (rowF 5 f), .int .i64 x])) w) :
    LeavesInM Fence.wide 5 Tryz.prog Tryz.f29 tmps R [cloA vb eb] .returning w := by
  refine ⟨by simp, .inr ⟨fun e => (by cases e), _, _, 65, #[.pointer (some ⟨vb, 0, none⟩), .pointer (some ⟨eb, 0, none⟩)], rfl, by simp [go_sem], fun _ _ => trivial, ?_⟩⟩
  obtain ⟨t, hh⟩ := acc_idle (.pointer (some ⟨vb, 0, none⟩)) (.pointer (some ⟨eb, 0, none⟩)) w
  refine ⟨t, fun c cs hm hr => ?_⟩
  obtain ⟨e, u', w', fr, ⟨rfl, rfl, rfl⟩, g1, g2, g3, g4⟩ := hh c cs hm hr
  refine ⟨_, _, w', fr, ?_, g1, g2, g3, g4⟩
  show LeavesInM _ _ _ _ _ _ [] .returning w'
  exact ⟨_, results_acc h6 h7 hv he, h⟩
theorem acc_mark {tmps : Array Value} {R : Ending → World → Prop} {w : World} {D : Nat} {ds : List Deferred} {u : FrameMode} (hu : u ≠ .run) (hK : w.heap[D]? = some (.deferred (some [])))
    (h : LeavesInM Fence.wide 5 Tryz.prog Tryz.f29 tmps R ds u (w.putObj D (.deferred none))) : LeavesInM Fence.wide 5 Tryz.prog Tryz.f29 tmps R ({ target := .collected D, args := #[] } :: ds) u w :=
  ⟨hu, .inl ⟨D, _, rfl, run_takeDeferred hK, h⟩⟩
theorem build_tr (c : Ct) (p : Pe) (s : Sv) (b : Nat) (W : World) : (Instr.build 125 #[(0, .agg (rowF 8 (ctC c))), (1, .agg (rowF 5 (peC p s))), (2, .map (some b))]).run Tryz.prog W = .ok (.agg (rowF 14 (trC c p s b))) W := by kernel_rfl
def zTr (j : Nat) : Value := if j = 13 then .map none else trC ct0 pe0 pe00 0 j
theorem wpQuiet_build {P : Program} {C : World → Prop} {ops : Array Oper} {rest : List Oper} {o : Oper} {a : Act} {Q : Act → Prop} (hgd : o.guard = none) (t : TypeId) (parts : Array (Nat × Operand)) (ho : o.op = .build t parts) (vs : Array (Nat × Value)) (hv : (parts.map fun (i, x) => (i, a.eval x)) = vs) (v : Value)
    (hrun : ∀ W, (Instr.build t vs).run P W = .ok v W) (h : wpQuiet P ops C Q rest (a.put o.dst v)) : wpQuiet P ops C Q (o :: rest) a :=
  wpQuiet_val hgd v (fun W _ => by
    unfold execOp
    subst hv
    simp only [ho, Sem.run_bind, Sem.run_pure, hrun, Result.andThen_ok]) h
theorem wpQuiet_load_elem {P : Program} {C : World → Prop} {ops : Array Oper} {rest : List Oper} {o : Oper} {a : Act} {Q : Act → Prop} (hgd : o.guard = none) (ty : TypeId) (x : Operand) (ho : o.op = .load ty x) (g off : Nat) (hx : a.eval x = .pointer (some ⟨g, off, none⟩)) (n : Nat) (f : Nat → Value)
    (hc : ∀ W, C W → ∀ j, j < n → W.cell? ⟨g, off + j, none⟩ = some (f j)) (d : TypeDesc) (hu : P.underlying ty = some d) (hd : d.isRow = true) (hi : (P.info? ty).map (·.size) = some n)
    (h : wpQuiet P ops C Q rest (a.put o.dst (.agg (rowF n f)))) : wpQuiet P ops C Q (o :: rest) a := by
  refine wpQuiet_val hgd _ (fun W hW => ?_) h
  have hr : W.rangeAt g off ((List.range n).map f) := fun j v hv => by
    have hj : j < n := by have := (List.getElem?_eq_some_iff.1 hv).1; simpa using this
    have hv' : v = f j := by simpa [hj] using hv.symm
    rw [hc W hW j hj, hv']
  unfold execOp
  simp only [ho, hx, Instr.loadAt, Instr.sureAddr, Sem.run_bind, Sem.run_pure, Result.andThen_ok, run_loadVar_mid W g off ty ((List.range n).map f) d hr hu hd (by simpa using hi)]
  rfl
theorem kinds_form {c : Ct} (h : formC c = true) : c.k = 1 ∨ c.k = 2 ∨ c.k = 3 ∨ c.k = 4 := by
  unfold formC kindB at h
  by_cases h1 : c.k = 1
  · exact .inl h1
  · by_cases h2 : c.k = 2
    · exact .inr (.inl h2)
    · by_cases h3 : c.k = 3
      · exact .inr (.inr (.inl h3))
      · by_cases h4 : c.k = 4
        · exact .inr (.inr (.inr h4))
        · rw [if_neg h1, if_neg h2, if_neg h3, if_neg h4, Bool.and_false] at h; cases h
theorem form_dev {c : Ct} (h : formC c = true) : devB c.d = true := by
  unfold formC at h
  simp only [Bool.and_eq_true] at h
  exact h.1.1.1
theorem verF_err {p : Pe} {x : List Li} {c : Ct} (h : (verF p x c).1 ≠ 0) : (verF p x c).2 = li0 := by
  unfold verF at h ⊢
  split
  · rename_i h1
    rw [if_pos h1] at h
    split
    · rfl
    · rename_i k hk
      rw [hk] at h
      dsimp only at h ⊢
      split
      · rename_i h2; rw [if_pos h2] at h; exact absurd rfl h
      · rfl
  · rfl
/-- what the loop over the listings keeps -/
def AccI (w8 : World) (mb : Nat) (pre : List (Nat × Li)) (W : World) : Prop := MapL W mb ((pre.map (·.2)).reverse) ∧ OnlyB mb w8 W
theorem accI_own {w8 : World} {mb : Nat} (hmb : mb < w8.heap.size) : OwnFrom w8.heap.size (AccI w8 mb) := by
  rintro s W W' row ⟨⟨q, h1, h2⟩, ho⟩ hg hr
  have hne : some mb ≠ row := fun e => by have := (hr mb e.symm).1; omega
  refine ⟨⟨q, h1.of_block (hg.block mb h1.lt hne), h2⟩, hg.os.trans ho.os, hg.tape.trans ho.tape, hg.output.trans ho.output, Nat.le_trans ho.size hg.size, fun k hk hkb => ?_⟩
  refine (hg.block k (Nat.lt_of_lt_of_le hk ho.size) (fun e => ?_)).trans (ho.block k hk hkb)
  have := (hr k e.symm).1
  omega
theorem mapL_cons {W : World} {b : Nat} {x : List Li} {m : List (Int × Value)} {z : Li} (hm : ∀ d, IM.get m d = (getL x d).map liA) (h : IM.At W b (IM.put m z.d (liA z))) : MapL W b (z :: x) := by
  refine ⟨_, h, fun d => ?_⟩
  unfold getL
  by_cases hd : d = z.d
  · subst hd; rw [IM.get_put_same, List.find?_cons_of_pos (by simp)]; rfl
  · rw [IM.get_put_other hd, hm, List.find?_cons_of_neg (by simp; exact fun e => hd e.symm)]; rfl
def AccPost (r : Int × Li) (w : World) (e : Ending) (w' : World) : Prop := e = .returned (.tuple #[liA r.2, .int .i64 r.1]) ∧ Below w.heap.size w w'
theorem AccPost.bad {r : Int × Li} {z : Int} {w w1 w' : World} {vb eb : Nat} (h : r = (z, li0)) (b : Below w.heap.size w w1) (hv : w.heap.size ≤ vb) (he : w.heap.size ≤ eb)
    (s1 : w1.heap.size ≤ w'.heap.size) (s2 : w'.os = w1.os) (s3 : w'.tape = w1.tape) (s4 : w'.output = w1.output) (s5 : ∀ k, k < w1.heap.size → k ≠ vb → k ≠ eb → w'.heap[k]? = w1.heap[k]?) : AccPost r w (.returned (.tuple #[liA li0, .int .i64 z])) w' := by
  subst h
  exact ⟨rfl, s2.trans b.os, s3.trans b.tape, s4.trans b.output, Nat.le_trans b.size s1, fun k hk => (s5 k (Nat.lt_of_lt_of_le hk b.size) (by omega) (by omega)).trans (b.block k hk)⟩
set_option maxRecDepth 100000 in
set_option maxHeartbeats 16000000 in
theorem paccept_any (ps : List Pe) (us : Nat → Sv) (v : Value) (x : List Li) (xv : Value) (c : Ct) (hc : c.wf) (w : World) (h : PesS w v ps us) (hn : ps.length ≤ 1000) (hx : SlAt 5 w xv x.length (fun i => liC (x.getD i li0))) (hxn : x.length ≤ 1000) (hT : Tab w) :
    Calls Tryz.prog 29 #[v, xv, .agg (rowF 8 (ctC c))] w (AccPost (accF ps x c) w) := by
  have AF : Hid (accF ps x c = if chkPe ps then (if formC c then (match findP ps (c.d.tdiv 8) with | none => ((371 : Int), li0) | some p => verF p x c) else (370, li0)) else (371, li0)) := Lib.hid rfl
  obtain ⟨R, hR⟩ : ∃ y, accF ps x c = y := ⟨_, rfl⟩
  rw [hR] at AF ⊢
  have P0 := Lib.hid h
  have T0 := Lib.hid hT
  have TT := Lib.hid hT
  have HC := Lib.hid hc
  have HX := Lib.hid hx
  have HXN := Lib.hid hxn
  have HN := Lib.hid hn
  have CK := Lib.hid (fun W (h : PesS W v ps us) => pcheck37_any ps us v W h hn)
  have hmf : ∀ (fn : Fn) (first cap : Array Value) (w : World), (Instr.makeFunc fn first cap).run Tryz.prog w = .ok (.func fn first cap) w := fun _ _ _ _ => rfl
  obtain ⟨va, vc, rfl⟩ := h.1.slice
  obtain ⟨xa, xc, rfl⟩ := hx.slice
  obtain ⟨m, hm⟩ : ∃ y, x.length = y := ⟨_, rfl⟩
  have HM := Lib.hid hm
  obtain ⟨n, hpn⟩ : ∃ y, ps.length = y := ⟨_, rfl⟩
  have HPN := Lib.hid hpn
  rw [hpn] at P0 CK ⊢
  rw [hm] at HX ⊢
  clear hR h hT hc hx hxn hn hm hpn
  refine calls_of_marks Tryz.func29 rfl ?_
  simp only [Tryz.ntmps29, List.size_toArray, List.length_cons, List.length_nil, Nat.reduceAdd, Nat.reduceSub, Array.replicate_succ, Array.replicate_zero, List.push_toArray, List.append_toArray, List.nil_append, List.cons_append]
  have B0 := Lib.hid (Below.refl w.heap.size w)
  go_upto_region 2 with fail
  obtain ⟨w1, hw1⟩ : ∃ y, w.alloc (.cells (rowF 8 (ctC c)) 44) = y := ⟨_, rfl⟩
  have b1 : Below w.heap.size w w1 := by rw [← hw1]; exact (Below.refl _ _).alloc (Nat.le_refl _) _
  have C1 : Hid (RowV w1 w.heap.size 44 8 (ctC c)) := Lib.hid (by rw [← hw1]; exact RowV.new w _ 8 (ctC c))
  have z1 : w.heap.size + 1 = w1.heap.size := by rw [← hw1]; exact (Array.size_push _).symm
  rw [hw1]
  (try rw [z1])
  have B1 := Lib.hid (B0.out.trans (b1.mono B0.out.size))
  have P1 := Lib.hid (P0.out.below b1)
  have T1 := Lib.hid (T0.out.below b1)
  clear b1 hw1 z1 B0 P0 T0
  have Z1 := Lib.hid C1.out.lt
  obtain ⟨w2, hw2⟩ : ∃ y, w1.alloc (.cells #[.int .i64 0, .int .i64 0, .int .i64 0, .int .i64 0, .bool false] 71) = y := ⟨_, rfl⟩
  have b2 : Below w1.heap.size w1 w2 := by rw [← hw2]; exact (Below.refl _ _).alloc (Nat.le_refl _) _
  have V2 : Hid (RowV w2 w1.heap.size 71 5 (liC li0)) := Lib.hid (by rw [← hw2]; exact RowV.new w1 _ 5 (liC li0))
  have z2 : w1.heap.size + 1 = w2.heap.size := by rw [← hw2]; exact (Array.size_push _).symm
  rw [hw2]
  (try rw [z2])
  have B2 := Lib.hid (B1.out.trans (b2.mono B1.out.size))
  have P2 := Lib.hid (P1.out.below b2)
  have T2 := Lib.hid (T1.out.below b2)
  have C2 := Lib.hid (C1.out.below b2)
  clear b2 hw2 z2 B1 P1 T1 C1
  have Z2 := Lib.hid V2.out.lt
  obtain ⟨w3, hw3⟩ : ∃ y, w2.alloc (.cells #[.int .i64 0] 27) = y := ⟨_, rfl⟩
  have b3 : Below w2.heap.size w2 w3 := by rw [← hw3]; exact (Below.refl _ _).alloc (Nat.le_refl _) _
  have E3 : Hid (RowV w3 w2.heap.size 27 1 (fun _ => .int .i64 0)) := Lib.hid (by rw [← hw3]; exact RowV.new w2 _ 1 (fun _ => .int .i64 0))
  have z3 : w2.heap.size + 1 = w3.heap.size := by rw [← hw3]; exact (Array.size_push _).symm
  rw [hw3]
  (try rw [z3])
  have B3 := Lib.hid (B2.out.trans (b3.mono B2.out.size))
  have P3 := Lib.hid (P2.out.below b3)
  have T3 := Lib.hid (T2.out.below b3)
  have C3 := Lib.hid (C2.out.below b3)
  have V3 := Lib.hid (V2.out.below b3)
  clear b3 hw3 z3 B2 P2 T2 C2 V2
  have LB1 : Hid (w.heap.size ≤ w1.heap.size) := Lib.hid (Nat.le_of_lt Z1.out)
  have LB2 : Hid (w.heap.size ≤ w2.heap.size) := Lib.hid (by have := Z1.out; have := Z2.out; omega)
  have NE : Hid (w1.heap.size ≠ w2.heap.size) := Lib.hid (by have := Z2.out; omega)
  go_wp2_with fail
  refine (CK.out _ P3.out).mono ?_
  rintro e w4 ⟨rfl, b4⟩
  have B4 := Lib.hid (B3.out.trans (b4.mono B3.out.size))
  have P4 := Lib.hid (P3.out.below b4)
  have T4 := Lib.hid (T3.out.below b4)
  have C4 := Lib.hid (C3.out.below b4)
  have V4 := Lib.hid (V3.out.below b4)
  have E4 := Lib.hid (E3.out.below b4)
  clear b4 B3 P3 T3 C3 V3 E3
  have HMF := Lib.hid hmf
  clear CK hmf
  cases hck : chkPe ps
  · have F : Hid (R = (371, li0)) := Lib.hid (by rw [AF.out, hck]; rfl)
    clear hck AF P4 T4
    rw [if_neg Bool.false_ne_true]
    go_wp2_with fail
    refine (must_false _ _).mono ?_
    rintro e w5 ⟨rfl, rfl⟩
    go_wp2_with fail
    exact acc_bad rfl rfl V4.out E4.out NE.out (fun w' s1 s2 s3 s4 s5 => AccPost.bad F.out B4.out LB1.out LB2.out s1 s2 s3 s4 s5)
  rw [if_pos rfl]
  have AF2 : Hid (R = if formC c then (match findP ps (c.d.tdiv 8) with | none => ((371 : Int), li0) | some p => verF p x c) else (370, li0)) := Lib.hid (by rw [AF.out, hck]; rfl)
  clear hck AF
  go_wp2_with fail
  refine (must_true _ _).mono ?_
  rintro e w5 ⟨rfl, rfl⟩
  have FO := Lib.hid (fun W => pformed_any c W)
  have FK := Lib.hid (fun (h : formC c = true) => And.intro (kinds_form h) (form_dev h))
  obtain ⟨fo, hfo⟩ : ∃ y, formC c = y := ⟨_, rfl⟩
  rw [hfo] at FO AF2 FK
  clear hfo
  go_wp2_with (first | ((with_reducible (show wpList _ _ _ (Oper.mk (some 20) _ _ _ _ _ :: _) _ _)); refine wpList_load_rowV rfl 44 (.tmp 5) rfl w.heap.size rfl 8 44 _ C4.out _ Tryz.underlying44 rfl (by kernel_rfl) ?_))
  refine (FO.out _).mono ?_
  rintro e w5 ⟨rfl, b5⟩
  have B5 := Lib.hid (B4.out.trans (b5.mono B4.out.size))
  have P5 := Lib.hid (P4.out.below b5)
  have T5 := Lib.hid (T4.out.below b5)
  have C5 := Lib.hid (C4.out.below b5)
  have V5 := Lib.hid (V4.out.below b5)
  have E5 := Lib.hid (E4.out.below b5)
  clear b5 B4 P4 T4 C4 V4 E4
  clear FO
  cases fo
  · have F : Hid (R = (370, li0)) := Lib.hid (by rw [AF2.out]; rfl)
    clear AF2 P5 T5 FK
    go_wp2_with fail
    refine (must_false _ _).mono ?_
    rintro e w6 ⟨rfl, rfl⟩
    go_wp2_with fail
    exact acc_bad rfl rfl V5.out E5.out NE.out (fun w' s1 s2 s3 s4 s5 => AccPost.bad F.out B5.out LB1.out LB2.out s1 s2 s3 s4 s5)
  have HK := Lib.hid (FK.out rfl).1
  have HD := Lib.hid (FK.out rfl).2
  clear FK
  rw [if_pos rfl] at AF2
  go_wp2_with fail
  refine (must_true _ _).mono ?_
  rintro e w6 ⟨rfl, rfl⟩
  have hmf := HMF.out
  go_wp2_with fail
  clear hmf
  refine (pindexp_any ps us _ c w.heap.size _ P5.out HN.out C5.out HD.out).mono ?_
  rintro e w6 ⟨hcase, b6⟩
  have B6 := Lib.hid (B5.out.trans (b6.mono B5.out.size))
  have P6 := Lib.hid (P5.out.below b6)
  have T6 := Lib.hid (T5.out.below b6)
  have C6 := Lib.hid (C5.out.below b6)
  have V6 := Lib.hid (V5.out.below b6)
  have E6 := Lib.hid (E5.out.below b6)
  clear b6 B5 P5 T5 C5 V5 E5
  rcases hcase with ⟨k, hk, rfl, hf⟩ | ⟨rfl, hf⟩
  rotate_left
  · have F : Hid (R = (371, li0)) := Lib.hid (by rw [AF2.out, hf])
    clear AF2 P6 T6 hf
    go_wp2_with fail
    refine (must_false _ _).mono ?_
    rintro e w6 ⟨rfl, rfl⟩
    go_wp2_with fail
    exact acc_bad rfl rfl V6.out E6.out NE.out (fun w' s1 s2 s3 s4 s5 => AccPost.bad F.out B6.out LB1.out LB2.out s1 s2 s3 s4 s5)
  have VF : Hid (R = verF (ps.getD k pe0) x c) := Lib.hid (by rw [AF2.out, hf])
  have d0 : decide ((0 : Int) ≤ (k : Int)) = true := by rw [decide_eq_true_iff]; omega
  have hkn : k < n := by rw [← HPN.out]; exact hk
  have HKN := Lib.hid hkn
  have k0 : (0 : Int) ≤ (k : Int) := Int.natCast_nonneg k
  clear AF2 hf hk
  go_wp2_with fail
  refine (must_true _ _).mono ?_
  rintro e w7 ⟨rfl, rfl⟩
  clear d0
  obtain ⟨pb, off, rfl, hcap, hb, hcc⟩ := SlAt.at_elem (s := 5) (n := n) (a := va) (k := vc) (c := fun i => peC (ps.getD i pe0) (us i)) (by have h := P6.out.1; rw [HPN.out] at h; exact h) hkn
  have HCK := Lib.hid (fun j hj => hcc k hkn j hj)
  have HPB := Lib.hid hb
  obtain ⟨p, hp⟩ : ∃ y, ps.getD k pe0 = y := ⟨_, rfl⟩
  obtain ⟨s, hs⟩ : ∃ y, us k = y := ⟨_, rfl⟩
  rw [hp, hs] at HCK
  rw [hp] at VF
  have k1 : (k : Int) < (n : Int) := by omega
  clear hcc hcap hb hp hs hkn P6
  have hmm := fun W => run_makeMap_plain (w := W) (P := Tryz.prog) 123
  go_upto_region 7 with fail
  go_cut [10] from 13 to 46 (fun s10 wx => ∃ mb tB : Nat, s10 = .pointer (some ⟨tB, 0, none⟩) ∧ Hid (mb ≠ tB) ∧ Hid (w6.heap.size ≤ mb) ∧ Hid (w6.heap.size ≤ tB) ∧ Hid (MapL wx mb []) ∧ Hid (RowV wx tB 125 14 (trC c p s mb)) ∧ Hid (Below w6.heap.size w6 wx))
  case first =>
    have CL := Lib.hid C6.out.lt
    have PL : Hid (pb < w6.heap.size) := HPB
    refine Tc.wp_region_plan (keep w6.heap.size) 9 [] (.fl 0 (.fl 1 (.fl 2 (.fl 3 (.fl 4 (.two 5 7 (.fl 6 (.one 7 (.one 8 .done))) (.one 5 (.fl 6 (.one 8 .done))))))))) (by kernel_rfl) (by kernel_rfl) ?_
    intro w7 b7 e7
    have BB7 : Hid (Below w6.heap.size w6 w7) := Lib.hid b7
    clear b7 e7
    refine Tc.plan_floats [0, 1, 2, 3, 4] [_, _, _, _, _] rfl ?_
    dsimp only [List.getElem_toArray, List.getElem_cons_succ, List.getElem_cons_zero]
    repeat (first | go_big_quiet_skip | (go_big_quiet_want; go_big_quiet_op; first | go_big_quiet_on | (refine ⟨_, fun _ _ => rfl, ?_⟩; go_big_quiet_on)))
    refine wpQuiet_load_part rfl 44 (.tmp 5) rfl w.heap.size 0 rfl 8 8 _ (ctC c) (ctC c) (fun W hW => row_keep (n := w6.heap.size) ((C6.out).below BB7.out) (CL.out) hW) (by decide) (fun j _ => by rw [Nat.zero_add]) _ Tryz.underlying44 rfl (by kernel_rfl) ?_
    simp only [Act.put, List.setIfInBounds_toArray, List.set_cons_succ, List.set_cons_zero]
    repeat (first | go_big_quiet_skip | (go_big_quiet_want; go_big_quiet_op; first | go_big_quiet_on | (refine ⟨_, fun _ _ => rfl, ?_⟩; go_big_quiet_on)))
    refine wpQuiet_load_elem rfl 68 (.tmp 32) rfl pb (off + k * 5) rfl 5 (peC p s) (fun W hW j hj => cell_keep (n := w6.heap.size) ((BB7.out.cell (p := ⟨pb, off + k * 5 + j, none⟩) PL.out).trans (by have h := HCK.out j hj; rwa [Nat.mul_comm 5 k] at h)) PL.out hW) _ Tryz.underlying68 rfl (by kernel_rfl) ?_
    simp only [Act.put, List.setIfInBounds_toArray, List.set_cons_succ, List.set_cons_zero]
    repeat (first | go_big_quiet_skip | (go_big_quiet_want; go_big_quiet_op; first | go_big_quiet_on | (refine ⟨_, fun _ _ => rfl, ?_⟩; go_big_quiet_on)))
    refine wpQuiet_nil ?_
    refine Tc.plan_two 5 7 rfl rfl (fun K hK => ?_) (fun K hK => ?_)
    · have S7 := Lib.hid BB7.out.size
      go_wp2_with fail
      have al := (Below.refl _ w7).alloc (Nat.le_refl _) (.map #[] 0)
      have R := Lib.hid (show MapL (w7.alloc (.map #[] 0)) w7.heap.size [] from ⟨[], IM.At.made _, fun _ => rfl⟩)
      have RL : Hid (w7.heap.size < (w7.alloc (.map #[] 0)).heap.size) := Lib.hid (by rw [World.size_alloc]; omega)
      refine hK _ _ (keep_below (al.mono BB7.out.size)) ?_
      obtain ⟨w8, hw⟩ : ∃ y, w7.alloc (.map #[] 0) = y := ⟨_, rfl⟩
      rw [hw] at al R RL ⊢
      have BB8 := Lib.hid (BB7.out.trans (al.mono BB7.out.size))
      have Z7 := RL
      have M8 := R
      clear hK K al hw R RL BB7
      refine Tc.plan_floats [6] [_] rfl ?_
      dsimp only [List.getElem_toArray, List.getElem_cons_succ, List.getElem_cons_zero]
      (try simp only [List.setIfInBounds_toArray, List.set_cons_succ, List.set_cons_zero])
      refine wpQuiet_build rfl 125 _ rfl #[(0, .agg (rowF 8 (ctC c))), (1, .agg (rowF 5 (peC p s))), (2, .map (some w7.heap.size))] (by simp only [List.map_toArray, List.map_cons, List.map_nil]; rfl) _ (fun W => build_tr c p s w7.heap.size W) ?_
      simp only [Act.put, List.setIfInBounds_toArray, List.set_cons_succ, List.set_cons_zero]
      refine wpQuiet_nil ?_
      refine Tc.plan_one 7 rfl (fun K hK => ?_)
      have S8 := Lib.hid BB8.out.size
      go_wp2_with fail
      have al := (Below.refl _ w8).alloc (Nat.le_refl _) (.cells #[.int .i64 0, .int .i64 0, .int .i64 0, .int .i64 0, .int .i64 0, .int .i64 0, .int .i64 0, .int .i64 0, .int .i64 0, .int .i64 0, .slice none 0 0, .int .i64 0, .int .i64 0, .map none] 125)
      have R := Lib.hid (show RowV (w8.alloc (.cells #[.int .i64 0, .int .i64 0, .int .i64 0, .int .i64 0, .int .i64 0, .int .i64 0, .int .i64 0, .int .i64 0, .int .i64 0, .int .i64 0, .slice none 0 0, .int .i64 0, .int .i64 0, .map none] 125)) w8.heap.size 125 14 zTr from RowV.new _ _ 14 zTr)
      have RL : Hid (w8.heap.size < (w8.alloc (.cells #[.int .i64 0, .int .i64 0, .int .i64 0, .int .i64 0, .int .i64 0, .int .i64 0, .int .i64 0, .int .i64 0, .int .i64 0, .int .i64 0, .slice none 0 0, .int .i64 0, .int .i64 0, .map none] 125)).heap.size) := Lib.hid (by rw [World.size_alloc]; omega)
      refine hK _ _ (keep_below (al.mono BB8.out.size)) ?_
      obtain ⟨w9, hw⟩ : ∃ y, w8.alloc (.cells #[.int .i64 0, .int .i64 0, .int .i64 0, .int .i64 0, .int .i64 0, .int .i64 0, .int .i64 0, .int .i64 0, .int .i64 0, .int .i64 0, .slice none 0 0, .int .i64 0, .int .i64 0, .map none] 125) = y := ⟨_, rfl⟩
      rw [hw] at al R RL ⊢
      have BB9 := Lib.hid (BB8.out.trans (al.mono BB8.out.size))
      have Z8 := RL
      have M9 := Lib.hid (M8.out.below al)
      have X9 := R
      clear hK K al hw R RL BB8 M8
      refine Tc.plan_one 8 rfl (fun K hK => ?_)
      refine wpList_store_rowV rfl 125 (.tmp 10) (.tmp 35) rfl w8.heap.size rfl 14 125 _ _ rfl X9.out (by kernel_rfl) (fun j _ => trC_one _ _ _ _ j) ?_
      intro w11 X11 O11
      have LT : Hid (w6.heap.size ≤ w8.heap.size) := S8
      have LM : Hid (w6.heap.size ≤ w7.heap.size) := S7
      have NM : Hid (w7.heap.size ≠ w8.heap.size) := Lib.hid (by have := Z7.out; omega)
      have bb := O11.out.below LT.out BB9.out.size
      have BB11 := Lib.hid (BB9.out.trans bb)
      have M11 : Hid (MapL w11 w7.heap.size []) := Lib.hid (by obtain ⟨q, h1, h2⟩ := M9.out; exact ⟨q, h1.only O11.out NM.out, h2⟩)
      refine hK _ _ (keep_below bb) ?_
      clear hK K bb O11 BB9 M9 X9
      refine Tc.plan_done (l := []) rfl (fun K hK => ?_)
      go_wp2_with fail
      go_meet
      exact ⟨w7.heap.size, w8.heap.size, rfl, NM, LM, LT, M11, X11, BB11⟩
    · have S7 := Lib.hid BB7.out.size
      go_wp2_with fail
      have al := (Below.refl _ w7).alloc (Nat.le_refl _) (.cells #[.int .i64 0, .int .i64 0, .int .i64 0, .int .i64 0, .int .i64 0, .int .i64 0, .int .i64 0, .int .i64 0, .int .i64 0, .int .i64 0, .slice none 0 0, .int .i64 0, .int .i64 0, .map none] 125)
      have R := Lib.hid (show RowV (w7.alloc (.cells #[.int .i64 0, .int .i64 0, .int .i64 0, .int .i64 0, .int .i64 0, .int .i64 0, .int .i64 0, .int .i64 0, .int .i64 0, .int .i64 0, .slice none 0 0, .int .i64 0, .int .i64 0, .map none] 125)) w7.heap.size 125 14 zTr from RowV.new _ _ 14 zTr)
      have RL : Hid (w7.heap.size < (w7.alloc (.cells #[.int .i64 0, .int .i64 0, .int .i64 0, .int .i64 0, .int .i64 0, .int .i64 0, .int .i64 0, .int .i64 0, .int .i64 0, .int .i64 0, .slice none 0 0, .int .i64 0, .int .i64 0, .map none] 125)).heap.size) := Lib.hid (by rw [World.size_alloc]; omega)
      refine hK _ _ (keep_below (al.mono BB7.out.size)) ?_
      obtain ⟨w8, hw⟩ : ∃ y, w7.alloc (.cells #[.int .i64 0, .int .i64 0, .int .i64 0, .int .i64 0, .int .i64 0, .int .i64 0, .int .i64 0, .int .i64 0, .int .i64 0, .int .i64 0, .slice none 0 0, .int .i64 0, .int .i64 0, .map none] 125) = y := ⟨_, rfl⟩
      rw [hw] at al R RL ⊢
      have BB8 := Lib.hid (BB7.out.trans (al.mono BB7.out.size))
      have Z7 := RL
      have X8 := R
      clear hK K al hw R RL BB7
      refine Tc.plan_one 5 rfl (fun K hK => ?_)
      have S8 := Lib.hid BB8.out.size
      go_wp2_with fail
      have al := (Below.refl _ w8).alloc (Nat.le_refl _) (.map #[] 0)
      have R := Lib.hid (show MapL (w8.alloc (.map #[] 0)) w8.heap.size [] from ⟨[], IM.At.made _, fun _ => rfl⟩)
      have RL : Hid (w8.heap.size < (w8.alloc (.map #[] 0)).heap.size) := Lib.hid (by rw [World.size_alloc]; omega)
      refine hK _ _ (keep_below (al.mono BB8.out.size)) ?_
      obtain ⟨w9, hw⟩ : ∃ y, w8.alloc (.map #[] 0) = y := ⟨_, rfl⟩
      rw [hw] at al R RL ⊢
      have BB9 := Lib.hid (BB8.out.trans (al.mono BB8.out.size))
      have Z8 := RL
      have X9 := Lib.hid (X8.out.below al)
      have M9 := R
      clear hK K al hw R RL BB8 X8
      refine Tc.plan_floats [6] [_] rfl ?_
      dsimp only [List.getElem_toArray, List.getElem_cons_succ, List.getElem_cons_zero]
      (try simp only [List.setIfInBounds_toArray, List.set_cons_succ, List.set_cons_zero])
      refine wpQuiet_build rfl 125 _ rfl #[(0, .agg (rowF 8 (ctC c))), (1, .agg (rowF 5 (peC p s))), (2, .map (some w8.heap.size))] (by simp only [List.map_toArray, List.map_cons, List.map_nil]; rfl) _ (fun W => build_tr c p s w8.heap.size W) ?_
      simp only [Act.put, List.setIfInBounds_toArray, List.set_cons_succ, List.set_cons_zero]
      refine wpQuiet_nil ?_
      refine Tc.plan_one 8 rfl (fun K hK => ?_)
      refine wpList_store_rowV rfl 125 (.tmp 10) (.tmp 35) rfl w7.heap.size rfl 14 125 _ _ rfl X9.out (by kernel_rfl) (fun j _ => trC_one _ _ _ _ j) ?_
      intro w11 X11 O11
      have LT : Hid (w6.heap.size ≤ w7.heap.size) := S7
      have LM : Hid (w6.heap.size ≤ w8.heap.size) := S8
      have NM : Hid (w8.heap.size ≠ w7.heap.size) := Lib.hid (by have := Z7.out; omega)
      have bb := O11.out.below LT.out BB9.out.size
      have BB11 := Lib.hid (BB9.out.trans bb)
      have M11 : Hid (MapL w11 w8.heap.size []) := Lib.hid (by obtain ⟨q, h1, h2⟩ := M9.out; exact ⟨q, h1.only O11.out NM.out, h2⟩)
      refine hK _ _ (keep_below bb) ?_
      clear hK K bb O11 BB9 M9 X9
      refine Tc.plan_done (l := []) rfl (fun K hK => ?_)
      go_wp2_with fail
      go_meet
      exact ⟨w8.heap.size, w7.heap.size, rfl, NM, LM, LT, M11, X11, BB11⟩
  case rest =>
    rename World => w7
    obtain ⟨mb, tB, rfl, NM, LM, LT, M7, X7, BB7⟩ := hcut
    have B7 := Lib.hid (B6.out.trans (BB7.out.mono B6.out.size))
    have T7 := Lib.hid (T6.out.below BB7.out)
    have V7 := Lib.hid (V6.out.below BB7.out)
    have E7 := Lib.hid (E6.out.below BB7.out)
    have LV := Lib.hid V6.out.lt
    have LE := Lib.hid E6.out.lt
    clear hmm HCK B6 T6 V6 E6 C6 BB7 HPB k0 k1
    go_wp2_with fail
    refine (pback_any xa m xc _).mono ?_
    rintro e w8 ⟨rfl, hw8⟩
    have b8 : Below w7.heap.size w7 w8 := by rw [hw8]; exact (Below.refl _ _).alloc (Nat.le_refl _) _
    have BX : Hid (RowV w8 w7.heap.size 74 1 (fun _ => .slice xa m xc)) := Lib.hid (by rw [hw8]; exact RowV.new w7 _ 1 (fun _ => .slice xa m xc))
    have B8 := Lib.hid (B7.out.trans (b8.mono B7.out.size))
    have T8 := Lib.hid (T7.out.below b8)
    have V8 := Lib.hid (V7.out.below b8)
    have E8 := Lib.hid (E7.out.below b8)
    have M8 := Lib.hid (M7.out.below b8)
    have X8 := Lib.hid (X7.out.below b8)
    have L78 : Hid (w7.heap.size < w8.heap.size) := Lib.hid (by rw [hw8, World.size_alloc]; omega)
    have LMB : Hid (mb < w7.heap.size) := Lib.hid M7.out.lt
    have LTB : Hid (tB < w7.heap.size) := Lib.hid X7.out.lt
    clear b8 hw8 B7 T7 V7 E7 M7 X7
    have hS : (fun k => k < w8.heap.size ∧ k ≠ mb) w7.heap.size := ⟨L78.out, by have := LMB.out; omega⟩
    have hxS : SlS (fun k => k < w8.heap.size ∧ k ≠ mb) 5 w8 (.slice xa m xc) x.length (fun i => liC (x.getD i li0)) := by
      rw [HM.out]
      rcases HX.out with h | ⟨b, o, cap, h1, h2, h3, h4, h5, h6⟩
      · exact .inl h
      · have hlt : b < w8.heap.size := Nat.lt_of_lt_of_le h5 B8.out.size
        exact .inr ⟨b, o, cap, h1, h2, h3, h4, ⟨hlt, hlt, by have h7 := LM.out; have h8 := LV.out; have h9 := LB1.out; omega⟩, fun i hi j hj => (B8.out.cell (p := ⟨b, o + 5 * i + j, none⟩) h5).trans (h6 i hi j hj)⟩
    have SQ := Lib.hid (back_stops 4 (fun k => k < w8.heap.size ∧ k ≠ mb) w7.heap.size _ x w8 hS BX.out hxS HXN.out (fun k hk => hk.1))
    have hmb8 : mb < w8.heap.size := Nat.lt_trans LMB.out L78.out
    have I0 : AccI w8 mb [] w8 := ⟨M8.out, OnlyB.refl _ _⟩
    clear hS hxS BX HX M8
    go_wp2_with fail
    refine (wpIn_wide (n := 5)).1 (wpIn_rangeFunc_ownH rfl (by decide) (gf := 110) (lb := #[.pointer (some ⟨w7.heap.size, 0, none⟩)]) rfl trivial (enters_of Tryz.func110 (by kernel_rfl) rfl) SQ.out (fun h k => St.trans h k) (fun W l o o' hl _ _ _ => fun k hk => World.putObj_heap_other (by have := hk.1; omega)) (Below.refl _ _) (fun _ => rfl) (AccI w8 mb) (fun _ _ _ => False) (accI_own hmb8) (fun _ _ _ _ _ h _ _ => h) I0 (fun z a' W => ∃ Bx, w8.heap.size ≤ Bx ∧ RowV W Bx 71 5 (liC z.2) ∧ a' = { tmps := #[.slice (some ⟨pb, off, none⟩) n vc, .slice xa m xc, .agg (rowF 8 (ctC c)), undef, undef, .pointer (some ⟨w.heap.size, 0, none⟩), .pointer (some ⟨w1.heap.size, 0, none⟩), .pointer (some ⟨w2.heap.size, 0, none⟩), .int .i64 0, .int .i64 k, .pointer (some ⟨tB, 0, none⟩), undef, .pointer (some ⟨Bx, 0, none⟩), u13, u14, u15, u16, u17, u18, u19, u20, u21, u22, u23, u24, u25, u26, u27, u28, u29, u30, u31, u32, u33, u34, u35, .slice xa m xc, .func (.func 110) #[] #[.pointer (some ⟨w7.heap.size, 0, none⟩)], .int .i64 (z.1 : Int), liA z.2, u40, u41, u42, u43, u44, u45, u46], defers := [] }) ?hAx ?assign ?body ?done ?stop)
    case hAx =>
      intro z a' s W W' row hs hg hr
      obtain ⟨Bx, h1, h2, h3⟩ := hs
      exact ⟨Bx, h1, ownFrom_row (β := Unit) (B := w8.heap.size) () W W' row h2 hg hr, h3⟩
    case assign =>
      intro l pre z W K hI hK
      refine wpIn_region_of (fun ⟨_, _, h⟩ => h) rfl ?_
      have HI := Lib.hid hI
      have HKK := Lib.hid hK
      have LEW := Lib.hid hI.2.size
      clear hI hK
      have Zr := Lib.hid (RowV.new W 71 5 (liC li0))
      go_wp2_with (first | ((with_reducible (show wpList _ _ _ (Oper.mk none _ _ _ _ _ :: _) _ _)); refine Hid.out ?_))
      refine Lib.hid ?_
      refine wpList_store_rowV rfl 71 (.tmp 12) (.tmp 39) rfl W.heap.size rfl 5 _ _ _ rfl (Zr.out) (by kernel_rfl) (fun j _ => liC_one _ j) ?_
      intro w9 X9 O9
      have b9 : Below W.heap.size W w9 := ((Below.refl _ _).alloc (Nat.le_refl _) _).trans (O9.out.below (Nat.le_refl _) (by rw [World.size_alloc]; omega))
      show K _ _
      exact HKK.out _ w9 (keepsFrom_below b9) (fun k hk => b9.block k (by have h1 := hk.1; have h2 := LEW.out; omega)) (accI_own hmb8 pre W w9 none HI.out (grown_below b9) (fun r e => by cases e)) ⟨W.heap.size, LEW.out, X9.out, rfl⟩
    case body =>
      rintro l pre z a' W hl hr ⟨⟨q, hq1, hq2⟩, hO⟩ ⟨Bx, hBx, hX, rfl⟩ hlen
      refine wpIn_block (wpIn_region_of (fun ⟨_, _, h⟩ => h) rfl ?_)
      have XT : Hid (RowV W tB 125 14 (trC c p s mb)) := Lib.hid (hO.row (Ne.symm NM.out) X8.out)
      have xm : W.cell? ⟨tB, 13, none⟩ = some (.map (some mb)) := XT.out.cell (i := 13) (by decide)
      have x0 : W.cell? ⟨Bx, 0, none⟩ = some (.int .i64 z.2.d) := li_cell hX (i := 0) (by decide)
      have HX2 := Lib.hid hX
      have Q1 := Lib.hid hq1
      have Q2 := Lib.hid hq2
      have OO := Lib.hid hO
      have HBX := Lib.hid hBx
      have HM8 := Lib.hid hmb8
      clear hX hq1 hq2 hO hBx hmb8 hl hr hlen I0
      go_wp2_with (first | ((with_reducible (show wpList _ _ _ (Oper.mk (some 44) _ _ _ _ _ :: _) _ _)); refine Hid.out ?_))
      refine Lib.hid ?_
      refine wpList_load_rowV rfl 71 (.tmp 12) rfl Bx rfl 5 _ _ (HX2.out) _ Tryz.underlying71 rfl (by kernel_rfl) ?_
      go_wp2_with (first | ((with_reducible (show wpList _ _ _ (Oper.mk none _ _ _ _ _ :: _) _ _)); refine Hid.out ?_))
      refine Lib.hid ?_
      refine IM.wpList_update rfl 123 3 71 (.tmp 41) (.tmp 43) _ rfl z.2.d (liA z.2) rfl rfl rfl Q1.out Tryz.underlying123 Tryz.underlying3 ?_
      intro w9 A9 O9
      clear xm x0
      go_wp2_with fail
      have KF : KeepsFrom w8.heap.size W w9 := KeepsFrom.of_grownBy (row := some mb) ⟨O9.out.os, O9.out.tape, O9.out.output, O9.out.size, fun k hk hne => O9.out.block k hk (fun e => hne (by rw [e]))⟩ (fun j e => by cases e; exact HM8.out)
      exact ⟨KF, (fun k hk => O9.out.block k (Nat.lt_of_lt_of_le hk.1 OO.out.size) hk.2), by
        rw [List.map_append, List.reverse_append]
        exact mapL_cons Q2.out A9.out, OO.out.trans O9.out⟩
    case stop => intro D c pre W _ _ h _; exact h.elim
    case done =>
      rintro D xs W hD rfl ⟨hM, hO⟩ hKD
      rw [bkL_all] at hM
      have b9 : Below w.heap.size w W := B8.out.trans (hO.below (by have h7 := LM.out; have h8 := LV.out; have h9 := LB1.out; omega) B8.out.size)
      have B9 := Lib.hid b9
      have T9 := Lib.hid (TT.out.below b9)
      have V9 := Lib.hid (hO.row (by have h7 := LM.out; have h8 := LV.out; omega) V8.out)
      have E9 := Lib.hid (hO.row (by have h7 := LM.out; have h8 := LE.out; omega) E8.out)
      have X9 : Hid (RowV W tB 125 14 (trC c p s mb)) := Lib.hid (hO.row (Ne.symm NM.out) X8.out)
      have M9 := Lib.hid hM
      have KD := Lib.hid hKD
      have HDD := Lib.hid hD
      have VV := Lib.hid (pverify_any c p s mb x W HC.out HK.out hM T9.out)
      clear hM hO hKD hD b9 B8 V8 E8 X8 T8 SQ I0 hmb8
      obtain ⟨w9, rfl⟩ : ∃ y, y = W := ⟨_, rfl⟩
      go_wp2_with (first | ((with_reducible (show wpList _ _ _ (Oper.mk (some 45) _ _ _ _ _ :: _) _ _)); refine Hid.out ?_))
      refine Lib.hid ?_
      refine wpList_load_rowV rfl 125 (.tmp 10) rfl tB rfl 14 _ _ (X9.out) _ Tryz.underlying125 rfl (by kernel_rfl) ?_
      go_wp2_with fail
      refine VV.out.mono ?_
      rintro e w10 ⟨he, b10⟩
      have B10 := Lib.hid (B9.out.trans (b10.mono B9.out.size))
      have V10 := Lib.hid (V9.out.below b10)
      have E10 := Lib.hid (E9.out.below b10)
      have KD10 : Hid (w10.heap[D]? = some (.deferred (some []))) := Lib.hid ((b10.block D (Array.getElem?_eq_some_iff.1 KD.out).1).trans KD.out)
      have DV : Hid (w1.heap.size ≠ D) := Lib.hid (by have h1 := HDD.out; have h2 := LV.out; have h3 := LM.out; have h4 := LMB.out; have h5 := L78.out; omega)
      have DE : Hid (w2.heap.size ≠ D) := Lib.hid (by have h1 := HDD.out; have h2 := LE.out; have h3 := LM.out; have h4 := LMB.out; have h5 := L78.out; omega)
      have DW : Hid (w.heap.size ≤ D) := Lib.hid (by have h1 := HDD.out; have h2 := LV.out; have h3 := LM.out; have h4 := LMB.out; have h5 := L78.out; have h6 := LB1.out; omega)
      have VE := Lib.hid (verF_err (p := p) (x := x) (c := c))
      rw [← VF.out] at he VE
      clear b10 B9 T9 V9 E9 X9 M9 KD VV VF HK HD
      by_cases hz : R.1 = 0
      · rw [if_pos hz] at he
        subst he
        obtain ⟨rz, rl⟩ := R
        obtain rfl : rz = 0 := hz
        clear VE
        go_wp2_with (first | ((with_reducible (show wpList _ _ _ (Oper.mk none _ _ _ _ _ :: _) _ _)); refine Hid.out ?_))
        refine Lib.hid ?_
        refine wpList_store_rowV rfl 71 (.tmp 6) (.tmp 46) rfl w1.heap.size rfl 5 _ _ _ rfl (V10.out) (by kernel_rfl) (fun j _ => liC_one _ j) ?_
        intro w11 V11 O11
        have E11 := Lib.hid (O11.out.row (Ne.symm NE.out) E10.out)
        have KD11 : Hid (w11.heap[D]? = some (.deferred (some []))) := Lib.hid ((O11.out.block D (Array.getElem?_eq_some_iff.1 KD10.out).1 (Ne.symm DV.out)).trans KD10.out)
        have B11 := Lib.hid (B10.out.trans (O11.out.below LB1.out B10.out.size))
        have x0 : w11.cell? ⟨w2.heap.size, 0, none⟩ = some (.int .i64 0) := E11.out.cell (i := 0) (by decide)
        have f0 : w11.frozen? ⟨w2.heap.size, 0, none⟩ = false := E11.out.frozen 0
        clear V10 E10 KD10 B10 O11
        go_wp2_with fail
        have o12 := (OnlyB.refl w2.heap.size w11).setCell (p := ⟨w2.heap.size, 0, none⟩) (.inl rfl) (.int .i64 0)
        have E12 := (E11.out.set 0 (.int .i64 0)).congr (g' := fun _ => .int .i64 0) (fun i hi => if_pos (by omega))
        have V12 := o12.row NE.out V11.out
        have B12 := B11.out.trans (o12.below LB2.out B11.out.size)
        have KD12 : (w11.setCell ⟨w2.heap.size, 0, none⟩ (.int .i64 0)).heap[D]? = some (.deferred (some [])) := (o12.block D (Array.getElem?_eq_some_iff.1 KD11.out).1 (Ne.symm DE.out)).trans KD11.out
        refine acc_mark (by simp) KD12 (acc_good rfl rfl (V12.of_block (World.putObj_heap_other DV.out)) (E12.of_block (World.putObj_heap_other DE.out)) ⟨rfl, B12.grown (grownBy_putObj' _ _ _) B12.size (fun k e => by cases e; exact DW.out)⟩)
      · rw [if_neg hz] at he
        subst he
        have F : Hid (R = (R.1, li0)) := Lib.hid (by rw [← VE.out hz])
        obtain ⟨rz, hrz⟩ : ∃ y, R.1 = y := ⟨_, rfl⟩
        rw [hrz] at F ⊢
        clear hz VE hrz
        go_wp2_with fail
        have B11 := B10.out.grown (grownBy_putObj' w10 D (.deferred none)) B10.out.size (fun k e => by cases e; exact DW.out)
        refine acc_mark (by simp) KD10.out (acc_bad rfl rfl (V10.out.of_block (World.putObj_heap_other DV.out)) (E10.out.of_block (World.putObj_heap_other DE.out)) NE.out (fun w' s1 s2 s3 s4 s5 => AccPost.bad F.out B11 LB1.out LB2.out s1 s2 s3 s4 s5))
end Go.Proofs.YtpekhdahamloaaaGreatDoor

namespace Go.Proofs.YtpekhdahamloaaaGreatDoor
open Go.RowKit Cod
theorem verF_ok {p : Pe} {x : List Li} {c : Ct} (hk : c.k = 1 ∨ c.k = 2 ∨ c.k = 3 ∨ c.k = 4) (h : (verF p x c).1 = 0) : (verF p x c).2 = resF x c ∧ c.n = IntKind.i64.wrap ((lastL x c.d).n + 1) ∧ ∃ k, keyF p x c = some k ∧ verB k (msgC c) c.r c.g = true := by
  unfold verF at h ⊢
  split
  · rename_i h1
    rw [if_pos h1] at h
    split
    · rename_i h2; rw [h2] at h; exact absurd (show (370 : Int) = 0 from h) (by decide)
    · rename_i k h2
      rw [h2] at h
      dsimp only at h ⊢
      split
      · rename_i h3; exact ⟨rfl, of_decide_eq_true h1, k, h2, h3⟩
      · rename_i h3; rw [if_neg h3] at h; exact absurd h (by decide)
  · rename_i h1; rw [if_neg h1] at h; exact absurd h (by decide)
theorem accF_ok {ps : List Pe} {x : List Li} {c : Ct} (h : (accF ps x c).1 = 0) : chkPe ps = true ∧ formC c = true ∧ ∃ p, findP ps (c.d.tdiv 8) = some p ∧ accF ps x c = verF p x c := by
  unfold accF at h ⊢
  split
  · rename_i h1
    rw [if_pos h1] at h
    split
    · rename_i h2
      rw [if_pos h2] at h
      split
      · rename_i h3; rw [h3] at h; exact absurd (show (371 : Int) = 0 from h) (by decide)
      · rename_i p h3; exact ⟨h1, h2, p, h3, rfl⟩
    · rename_i h2; rw [if_neg h2] at h; exact absurd h (by decide)
  · rename_i h1; rw [if_neg h1] at h; exact absurd h (by decide)
theorem MapV.below {w w' : World} {b : Nat} {x : List Li} (h : MapV w b x) (hb : Below w.heap.size w w') : MapV w' b x := by
  obtain ⟨m, h1, h2⟩ := h
  exact ⟨m, h1.below hb, h2⟩
theorem MapV.lt {w : World} {b : Nat} {x : List Li} (h : MapV w b x) : b < w.heap.size := by obtain ⟨m, h1, _⟩ := h; exact h1.lt
end Go.Proofs.YtpekhdahamloaaaGreatDoor

namespace Go.Proofs.YtpekhdahamloaaaGreatDoor
open Go.RowKit Cod
def liB (a b : Li) : Bool := a.d == b.d && a.v == b.v && a.l == b.l && a.n == b.n && a.g == b.g
theorem liB_iff (a b : Li) : liB a b = true ↔ a = b := by
  obtain ⟨a1, a2, a3, a4, a5⟩ := a
  obtain ⟨b1, b2, b3, b4, b5⟩ := b
  unfold liB
  simp only [Bool.and_eq_true, beq_iff_eq, Li.mk.injEq, and_assoc]
theorem liB_self (a : Li) : liB a a = true := (liB_iff a a).2 rfl
theorem eqinL_bool (d : Nat) (a b : Bool) (w : World) : (Op.equalIn (d + 1) 4 (.bool a) (.bool b)).run Tryz.prog w = .ok (a == b) w := run_equalIn_bool' w d 4 a b Tryz.underlying4
set_option maxRecDepth 100000 in
theorem eqin_li (a b : Li) (w : World) : (Op.equalIn 10000 71 (.agg (rowF 5 (liC a))) (.agg (rowF 5 (liC b)))).run Tryz.prog w = .ok (liB a b) w := by
  rw [run_equalIn_agg w 9999 71 _ _ (by kernel_rfl) (by kernel_rfl)]
  unfold Program.fieldsOf
  rw [Tryz.underlying71]
  have h0 : ∀ x y : Int, (Op.equalIn 9999 3 (.int .i64 x) (.int .i64 y)).run Tryz.prog w = .ok (x == y) w := fun x y => run_equalIn_int w 9998 3 .i64 .i64 x y Tryz.underlying3
  have hb := eqinL_bool 9998 a.g b.g w
  have p0 : ∀ c : Li, (part 3 (rowF 5 (liC c)) 0).run Tryz.prog w = .ok (.int .i64 c.d) w := fun c => by kernel_rfl
  have p1 : ∀ c : Li, (part 3 (rowF 5 (liC c)) 1).run Tryz.prog w = .ok (.int .i64 c.v) w := fun c => by kernel_rfl
  have p2 : ∀ c : Li, (part 3 (rowF 5 (liC c)) 2).run Tryz.prog w = .ok (.int .i64 c.l) w := fun c => by kernel_rfl
  have p3 : ∀ c : Li, (part 3 (rowF 5 (liC c)) 3).run Tryz.prog w = .ok (.int .i64 c.n) w := fun c => by kernel_rfl
  have p4 : ∀ c : Li, (part 4 (rowF 5 (liC c)) 4).run Tryz.prog w = .ok (.bool c.g) w := fun c => by kernel_rfl
  unfold liB
  show Sem.run _ (Op.eqFields _ _ _ (_ :: _ :: _ :: _ :: _ :: [])) w = _
  rw [eqF_cons (by decide) (p0 a) (p0 b) (h0 _ _), eqF_cons (by decide) (p1 a) (p1 b) (h0 _ _), eqF_cons (by decide) (p2 a) (p2 b) (h0 _ _), eqF_cons (by decide) (p3 a) (p3 b) (h0 _ _), eqF_cons (by decide) (p4 a) (p4 b) hb, eqF_nil]
  cases (a.d == b.d) <;> cases (a.v == b.v) <;> cases (a.l == b.l) <;> cases (a.n == b.n) <;> cases (a.g == b.g) <;> rfl
theorem neq_li (a b : Li) (w : World) : (binOp .neq 71 (.agg (rowF 5 (liC a))) (.agg (rowF 5 (liC b)))).run Tryz.prog w = .ok (.bool (!liB a b)) w := by rw [run_neq_struct, eqin_li a b]; rfl
theorem guard_li (op : BinOp) (x y : Operand) (a b : Li) (w : World) : (eqGuard op 71 x y (.agg (rowF 5 (liC a))) (.agg (rowF 5 (liC b)))).run Tryz.prog w = .ok () w := run_eqGuard_agg w op 71 x y _ _ (by kernel_rfl)
end Go.Proofs.YtpekhdahamloaaaGreatDoor

namespace Go.Proofs.YtpekhdahamloaaaGreatDoor
open Go.RowKit Cod
theorem pubV_nat {x : Int} (h : privB x = true) : pubV x = ((pubM x.toNat : Nat) : Int) := by
  obtain ⟨n, rfl, g1, g2⟩ := priv_nat h
  unfold pubV
  rw [h, if_pos rfl, gexpV4 g2]; rfl
theorem pubV_El {x : Int} (h : privB x = true) : elemB (pubV x) = true := by rw [pubV_nat h]; exact elemB_El (pow4_El _)
theorem ver_pub {x : Int} (h : privB x = true) (m : List UInt8) : verB (pubV x) m (sgR x m) (sgS x m) = true := by
  rw [pubV_nat h]
  unfold sgR sgS
  rw [h, if_pos rfl, if_pos rfl]
  exact ver_sign _ _
theorem crtE_yes {k d v l n b x : Int} (hf : formC (ctN k d v l n b) = true) (h : privB x = true) : crtE (ctN k d v l n b) x = 0 := by unfold crtE pubE; rw [if_pos hf, if_pos h]
theorem acc_ok {ps : List Pe} {x : List Li} {c : Ct} {p : Pe} {key : Int} (h1 : chkPe ps = true) (h2 : formC c = true) (h3 : findP ps (c.d.tdiv 8) = some p) (h4 : c.n = IntKind.i64.wrap ((lastL x c.d).n + 1)) (h5 : keyF p x c = some key) (h6 : verB key (msgC c) c.r c.g = true) :
    accF ps x c = (0, resF x c) := by
  unfold accF
  rw [if_pos h1, if_pos h2, h3]
  show verF p x c = _
  unfold verF
  rw [if_pos (decide_eq_true h4), h5]
  show (if verB key (msgC c) c.r c.g = true then ((0 : Int), resF x c) else (222, li0)) = _
  rw [if_pos h6]
theorem acc_old {ps : List Pe} {x : List Li} {c : Ct} (h : c.n ≠ IntKind.i64.wrap ((lastL x c.d).n + 1)) : (accF ps x c).1 ≠ 0 := fun e => by
  obtain ⟨_, h2, p, _, h4⟩ := accF_ok e
  rw [h4] at e
  exact h (verF_ok (kinds_form h2) e).2.1
/-- the world of the story -/
structure Sty where
  ps : List Pe
  p : Pe
  d1 : Int
  d2 : Int
  l1 : Int
  l2 : Int
  v3 : Int
  l3 : Int
  ka : Int
  kb : Int
  kr : Int
structure Sty.ok (s : Sty) : Prop where
  ps : chkPe s.ps = true
  f : findP s.ps (s.d1.tdiv 8) = some s.p
  i : s.p.i = s.d1.tdiv 8
  d : s.d2.tdiv 8 = s.d1.tdiv 8
  b1 : devB s.d1 = true
  b2 : devB s.d2 = true
  lt : s.d1 < s.d2
  l1 : elemB s.l1 = true
  l2 : elemB s.l2 = true
  v3 : elemB s.v3 = true
  l3 : elemB s.l3 = true
  ka : privB s.ka = true
  kb : privB s.kb = true
  kr : privB s.kr = true
  r : s.p.r = pubV s.kr
section
variable (s : Sty)
def Sty.nA : Ct := ctN 1 s.d1 (pubV s.ka) s.l1 1 s.d1
def Sty.nB : Ct := ctN 2 s.d2 (pubV s.kb) s.l2 1 s.d1
def Sty.nC : Ct := ctN 4 s.d1 0 0 2 s.d2
def Sty.nD : Ct := ctN 3 s.d1 s.v3 s.l3 3 (-1)
def Sty.A : Ct := crtV s.nA s.ka
def Sty.B : Ct := crtV s.nB s.ka
def Sty.C : Ct := crtV s.nC s.kb
def Sty.D : Ct := crtV s.nD s.kr
end
section
variable {s : Sty} (h : s.ok)
include h
theorem Sty.fA : formC s.nA = true := by
  unfold formC kindB keysB
  show (devB s.d1 && !decide ((1 : Int) < 1) && !decide (1048576 < (1 : Int)) && (if (1 : Int) = 1 then (elemB (pubV s.ka) && elemB s.l1) && decide (s.d1 = s.d1) else _)) = true
  rw [if_pos rfl, h.b1, pubV_El h.ka, h.l1, decide_eq_true rfl]; rfl
theorem Sty.fB : formC s.nB = true := by
  unfold formC kindB keysB otherB
  show (devB s.d2 && !decide ((1 : Int) < 1) && !decide (1048576 < (1 : Int)) && (if (2 : Int) = 1 then _ else if (2 : Int) = 2 then (elemB (pubV s.kb) && elemB s.l2) && (devB s.d1 && !(s.d1 == s.d2) && decide (s.d1.tdiv 8 = s.d2.tdiv 8)) else _)) = true
  have hne : (s.d1 == s.d2) = false := by rw [beq_eq_false_iff_ne]; have := h.lt; omega
  rw [if_neg (by decide), if_pos rfl, h.b2, h.b1, pubV_El h.kb, h.l2, hne, decide_eq_true h.d.symm]; rfl
theorem Sty.fC : formC s.nC = true := by
  unfold formC kindB otherB
  show (devB s.d1 && !decide ((2 : Int) < 1) && !decide (1048576 < (2 : Int)) && (if (4 : Int) = 1 then _ else if (4 : Int) = 2 then _ else if (4 : Int) = 3 then _ else if (4 : Int) = 4 then decide ((0 : Int) = 0) && decide ((0 : Int) = 0) && (devB s.d2 && !(s.d2 == s.d1) && decide (s.d2.tdiv 8 = s.d1.tdiv 8)) else _)) = true
  have hne : (s.d2 == s.d1) = false := by rw [beq_eq_false_iff_ne]; have := h.lt; omega
  rw [if_neg (by decide), if_neg (by decide), if_neg (by decide), if_pos rfl, h.b1, h.b2, hne, decide_eq_true h.d]; rfl
theorem Sty.eA : crtE s.nA s.ka = 0 := crtE_yes (Sty.fA h) h.ka
theorem Sty.eB : crtE s.nB s.ka = 0 := crtE_yes (Sty.fB h) h.ka
theorem Sty.eC : crtE s.nC s.kb = 0 := crtE_yes (Sty.fC h) h.kb
theorem Sty.ne : ¬ s.d2 = s.d1 := by have := h.lt; omega
theorem Sty.ne' : ¬ s.d1 = s.d2 := by have := h.lt; omega
/-! what is refused by its number -/
omit h in
theorem Sty.old (m n : Int) {x : List Li} {c : Ct} (hn : (lastL x c.d).n = n) (hm : c.n = m) (hw : m ≠ IntKind.i64.wrap (n + 1)) : stepL s.ps x c = x := by
  unfold stepL; rw [if_neg (acc_old (by rw [hn, hm]; exact hw))]
theorem Sty.go (m n : Int) {x : List Li} {c : Ct} {key : Int} (hf : formC c = true) (hp : c.d.tdiv 8 = s.d1.tdiv 8) (hn : (lastL x c.d).n = n) (hm : c.n = m) (hw : m = IntKind.i64.wrap (n + 1)) (hk : keyF s.p x c = some key) (hv : verB key (msgC c) c.r c.g = true) : stepL s.ps x c = withL (resF x c) x := by
  unfold stepL
  rw [acc_ok h.ps hf (by rw [hp]; exact h.f) (by rw [hn, hm]; exact hw) hk hv, if_pos rfl]
omit h in
theorem Sty.q1 (z : Li) (hz : z.d = s.d1) : lastL [z] s.d1 = z := by unfold lastL getL; rw [List.find?_cons_of_pos (by simp [hz])]; rfl
omit h in
theorem Sty.q2a (z y : Li) (hz : z.d = s.d1) : lastL [z, y] s.d1 = z := by unfold lastL getL; rw [List.find?_cons_of_pos (by simp [hz])]; rfl
theorem Sty.q2b (z y : Li) (hz : z.d = s.d1) (hy : y.d = s.d2) : lastL [z, y] s.d2 = y := by unfold lastL getL; rw [List.find?_cons_of_neg (by simp [hz, Sty.ne' h]), List.find?_cons_of_pos (by simp [hy])]; rfl
theorem Sty.p2 (z y : Li) (hz : z.d = s.d1) (hy : y.d = s.d2) : presB [z, y] s.d2 = !y.g := by
  unfold presB; rw [Sty.q2b h z y hz hy]
  unfold getL; rw [List.find?_cons_of_neg (by simp [hz, Sty.ne' h]), List.find?_cons_of_pos (by simp [hy])]; rfl
omit h in
theorem Sty.p1 (z y : Li) (hz : z.d = s.d1) : presB [z, y] s.d1 = !z.g := by
  unfold presB; rw [Sty.q2a z y hz]
  unfold getL; rw [List.find?_cons_of_pos (by simp [hz])]; rfl
end
end Go.Proofs.YtpekhdahamloaaaGreatDoor

namespace Go.Proofs.YtpekhdahamloaaaGreatDoor
open Go.RowKit Cod
def p1 : Pe := ⟨0, 16, [], 0, 0⟩
def pOne : List Pe := [p1]
def us0 (_ : Nat) : Sv := pe00
def s0 : Sty := ⟨pOne, p1, 3, 5, 4, 4, 64, 4, 3, 4, 2⟩
theorem sgR_bd (x : Int) (m : List UInt8) : i64B (sgR x m) := by
  unfold sgR
  split
  · have := (pow4_El (nonceM x.toNat m)).2.1
    unfold sigR i64B; omega
  · exact i64B_0
theorem sgS_bd (x : Int) (m : List UInt8) : i64B (sgS x m) := by
  unfold sgS
  split
  · have : sigS x.toNat m < 2305843009213688669 := addQ_lt _ _
    unfold i64B; omega
  · exact i64B_0
theorem crt_wf {k d v l n b : Int} (x : Int) (h : (ctN k d v l n b).wf) : (crtV (ctN k d v l n b) x).wf := by
  rw [crt_is]
  split
  · exact ⟨h.k, h.d, h.v, h.l, h.n, h.b, sgR_bd _ _, sgS_bd _ _⟩
  · exact ct0_wf
end Go.Proofs.YtpekhdahamloaaaGreatDoor
