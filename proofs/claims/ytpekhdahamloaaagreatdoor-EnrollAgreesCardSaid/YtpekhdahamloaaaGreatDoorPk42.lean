/- Acknowledgements, members and entries that came in, opened; what is decoded fits. The statements' examples hold: sane. append onto an own slice of structs, the source nil, empty or not; an own slice without cells. regions that draw: what lies below a fixed number stays (every step of the region is Below it). The reference: a list of numbers as a value; a certificate's message, Certify. Package enroll: proof; its reference. Package enroll: Ask; its reference. Package enroll: refuse, the five examinations of a request. Package enroll: the examinations that certify and that compare the proof. slices.SortFunc of listings, twelve or fewer: insertion sort. -/
import Derived.Test.YtpekhdahamloaaaGreatDoorPk32
import Derived.Test.YtpekhdahamloaaaGreatDoorPk33
import Derived.Deep.Slices
import Derived.Test.YtpekhdahamloaaaGreatDoorPk35
import Derived.Test.YtpekhdahamloaaaGreatDoorPk41
import Derived.Test.YtpekhdahamloaaaGreatDoorPk46
import Derived.Test.YtpekhdahamloaaaGreatDoorPk20
set_option linter.unusedVariables false
set_option linter.unusedSimpArgs false
namespace Go.Proofs.YtpekhdahamloaaaGreatDoor
open Go.ChangeShapes Go.WideShapes Go.ChangeAt Go.RowKit Cod
section
variable {H : Type} {enc : TypeId × Value → H} {W : World} {fuel : Nat} {cs : List Value} {x : DataW H × List MemPlace}
end
end Go.Proofs.YtpekhdahamloaaaGreatDoor

namespace Go.Proofs.YtpekhdahamloaaaGreatDoor
open Go.RowKit Cod
theorem wpQuiet_unguard {P : Program} {C : World → Prop} {ops : Array Oper} {rest : List Oper} {o : Oper} {a : Act} {Q : Act → Prop} (hw : Region.wanted o (yielded ops a.tmps) = true)
    (h : wpQuiet P ops C Q ({ o with guard := none } :: rest) a) : wpQuiet P ops C Q (o :: rest) a := by
  unfold wpQuiet at h ⊢
  rw [if_pos hw]
  rw [if_pos (show Region.wanted { o with guard := none } (yielded ops a.tmps) = true from rfl)] at h
  exact h
end Go.Proofs.YtpekhdahamloaaaGreatDoor

namespace Go.Proofs.YtpekhdahamloaaaGreatDoor
open Go.RowKit Cod
section
variable {α : Type} {T : TypeId} {s : Nat} {c : α → Nat → Value} {w w' : World} {base : Nat} {v : Value} {l : List α}
end
end Go.Proofs.YtpekhdahamloaaaGreatDoor

namespace Go.Proofs.YtpekhdahamloaaaGreatDoor
open Go.RowKit Cod
abbrev keep (n : Nat) : Tc.Rl := Tc.Rl.stay (fun k => k < n)
theorem keep_below {n : Nat} {w W : World} (b : Below n w W) : (keep n).r w W := fun k hk => b.block k hk
theorem row_keep {n : Nat} {w W : World} {g N : Nat} {T : TypeId} {f : Nat → Value} (h : RowV w g T N f) (hn : g < n) (hr : (keep n).r w W) : RowV W g T N f := stay_row (S := fun k => k < n) h hn hr
theorem cell_keep {n : Nat} {w W : World} {b off : Nat} {v : Value} (h : w.cell? ⟨b, off, none⟩ = some v) (hn : b < n) (hr : (keep n).r w W) : W.cell? ⟨b, off, none⟩ = some v := (stay_cell (S := fun k => k < n) hn hr).trans h
theorem below_app {n : Nat} {w w' : World} {v v' : Value} (st : AppStep w v w' v') (hn : n ≤ w.heap.size) (hb : ∀ k, v.ownBlock = some k → n ≤ k) : Below n w w' := (Below.refl n w).grown st.1 hn hb
theorem OwnT.ge {α : Type} {T : TypeId} {s : Nat} {c : α → Nat → Value} {w : World} {base : Nat} {v : Value} {l : List α} (h : OwnT T s c w base v l) : ∀ k, v.ownBlock = some k → base ≤ k := fun k hk => (h.lt k hk).1
end Go.Proofs.YtpekhdahamloaaaGreatDoor

namespace Go.Proofs.YtpekhdahamloaaaGreatDoor
open Go.RowKit Cod
theorem Owns.emp0 {w : World} {base B : Nat} (hb : base ≤ B) (h : w.heap[B]? = some (.cells #[] 5)) : Owns w base (.slice (some ⟨B, 0, none⟩) 0 0) [] :=
  ⟨by simp, .inr ⟨B, 0, #[], rfl, hb, h, Nat.le_refl _, by decide, by simp, by simp⟩⟩
set_option maxRecDepth 100000 in
set_option maxHeartbeats 8000000 in
theorem rints_any (zs : List Int) (v : Value) (w : World) (hv : IntsS w v zs) (hz : ∀ z ∈ zs, i64B z) (hl : zs.length ≤ 100) :
    Calls Tryz.prog 82 #[v] w fun e w' => (∃ u, e = .returned u ∧ CodAt w' u (lstT (zs.map numT))) ∧ Below w.heap.size w w' := by
  obtain ⟨va, vc, rfl⟩ := hv.slice
  have HV := Lib.hid hv
  have HZ := Lib.hid hz
  have HL := Lib.hid hl
  obtain ⟨n, hn⟩ : ∃ n, zs.length = n := ⟨_, rfl⟩
  have HN := Lib.hid hn
  rw [hn]
  clear hv hz hl hn
  go_enter Tryz.func82, Tryz.ntmps82
  have B0 := Lib.hid (Below.refl w.heap.size w)
  go_upto_region 1 with fail
  obtain ⟨w1, hw1⟩ : ∃ y, w.alloc (.cells #[.int .i64 0, .int .i64 0, .string ⟨#[]⟩, .slice none 0 0] 59) = y := ⟨_, rfl⟩
  have b1 : Below w.heap.size w w1 := by rw [← hw1]; exact (Below.refl _ _).alloc (Nat.le_refl _) _
  have Z1 : Hid (RowV w1 w.heap.size 59 4 (valC 0 0 ⟨#[]⟩ (.slice none 0 0))) := Lib.hid (by rw [← hw1]; exact RowV.new w _ 4 (valC 0 0 ⟨#[]⟩ (.slice none 0 0)))
  have z1 : w.heap.size + 1 = w1.heap.size := by rw [← hw1]; exact (Array.size_push _).symm
  rw [hw1]
  (try rw [z1])
  have B1 := Lib.hid (B0.out.trans (b1.mono B0.out.size))
  clear b1 hw1 z1 B0
  have ZL := Lib.hid Z1.out.lt
  go_upto_region 2 with fail
  obtain ⟨w2, hw2⟩ : ∃ y, w1.alloc (.cells #[.int .i64 3, .int .i64 0, .string ⟨#[]⟩, .slice none 0 0] 59) = y := ⟨_, rfl⟩
  have b2 : Below w1.heap.size w1 w2 := by rw [← hw2]; exact (Below.refl _ _).alloc (Nat.le_refl _) _
  have I2 : Hid (LstI w2 w1.heap.size (.slice none 0 0) [] w2) := Lib.hid (by rw [← hw2]; exact LstI.start w1)
  have z2 : w1.heap.size + 1 = w2.heap.size := by rw [← hw2]; exact (Array.size_push _).symm
  rw [hw2]
  (try rw [z2])
  have B2 := Lib.hid (B1.out.trans (b2.mono B1.out.size))
  have Z2 := Lib.hid (Z1.out.below b2)
  clear b2 hw2 z2 B1 Z1
  go_wp2_with fail
  have qn : (n : Int) ≤ 100 := by have := HL.out; have := HN.out; omega
  go_loopg [4] n (fun g s4 wx => ∃ (k : Nat) (sl : Value), k + g = n ∧ s4 = .int .i64 (k : Int) ∧ Hid (LstI w2 w1.heap.size sl ((zs.take k).map numT) wx))
  case atStart => exact ⟨0, .slice none 0 0, by omega, rfl, I2⟩
  case round =>
    obtain ⟨k, sl, hk, rfl, hI⟩ := hrel
    obtain ⟨w3, rfl⟩ : ∃ y, y = wr := ⟨_, rfl⟩
    have q0 : (0 : Int) ≤ (k : Int) := Int.natCast_nonneg k
    have B3 := Lib.hid (B2.out.trans (hI.out.only.below (K := w.heap.size) (by have := ZL.out; omega) (by have := ZL.out; have := I2.out.lt; omega)))
    by_cases hlt : k < n
    · have d0 : decide ((k : Int) < (n : Int)) = true := by rw [decide_eq_true_iff]; omega
      have d1 : decide (k < n) = true := by rw [decide_eq_true_iff]; omega
      have hv3 : SlAt 1 w (.slice va n vc) n (fun i _ => .int .i64 (zs.getD i 0)) := by
        have h := HV.out
        unfold IntsS at h
        rwa [HN.out] at h
      obtain ⟨b, off, rfl, hcap, hb, hc⟩ := SlAt.at_elem hv3 hlt
      have X0 : Hid (w3.cell? ⟨b, off + k, none⟩ = some (.int .i64 (zs.getD k 0))) := Lib.hid ((B3.out.cell (p := ⟨b, off + k, none⟩) hb).trans (by have := hc k hlt 0 (by decide); simpa using this))
      have HBW := Lib.hid (Nat.lt_of_lt_of_le hb B2.out.size)
      have HE : Hid ((zs.take (k + 1)).map numT = (zs.take k).map numT ++ [numT (zs.getD k 0)]) := Lib.hid (by
        rw [take_succ_getD 0 _ (show k < zs.length by rw [HN.out]; exact hlt), List.map_append]; rfl)
      have HB : Hid (i64B (zs.getD k 0)) := Lib.hid (by
        rw [List.getD_eq_getElem?_getD, List.getElem?_eq_getElem (show k < zs.length by rw [HN.out]; exact hlt)]
        exact HZ.out _ (List.getElem_mem _))
      obtain ⟨x, hx⟩ : ∃ x, zs.getD k 0 = x := ⟨_, rfl⟩
      rw [hx] at X0 HE HB
      obtain ⟨ts, hts⟩ : ∃ y, (zs.take k).map numT = y := ⟨_, rfl⟩
      have TL : Hid (ts.length ≤ 1000000) := Lib.hid (by rw [← hts]; simp only [List.length_map, List.length_take]; have := HL.out; omega)
      rw [hts] at HE hI
      obtain ⟨sa, sn, sc, rfl⟩ := hI.out.slice
      have HBL := Lib.hid (Nat.lt_of_lt_of_le hb B3.out.size)
      have HLT := Lib.hid hlt
      clear hx hts hv3 hc hb
      go_upto_region 5 with fail
      refine Tc.wp_region_plan (Tc.Rl.stay (fun j => j = w1.heap.size ∨ j = b)) 9 [] (.fl 0 (.fl 1 (.fl 2 (.fl 3 (.fl 4 (.fl 5 (.one 6 (.one 7 (.one 8 .done))))))))) (by kernel_rfl) (by kernel_rfl) ?_
      intro w4 b4 e4
      have I4 := Lib.hid (hI.out.later b4)
      have X4 := Lib.hid ((b4.cell (p := ⟨b, off + k, none⟩) HBL.out).trans X0.out)
      have BL4 := Lib.hid (Nat.lt_of_lt_of_le HBL.out b4.size)
      clear b4 e4 X0 hI
      refine Tc.plan_floats [0, 1, 2, 3, 4, 5] [_, _, _, _, _, _] rfl ?_
      dsimp only [List.getElem_toArray, List.getElem_cons_succ, List.getElem_cons_zero]
      repeat (go_big_quiet_want; go_big_quiet_op; first | go_big_quiet_on | (refine ⟨_, fun _ _ => rfl, ?_⟩; go_big_quiet_on))
      refine wpQuiet_load_cell rfl 57 (.tmp 12) rfl w1.heap.size 3 rfl _ Tryz.underlying57 rfl (.slice sa sn sc) (fun W hW => (stay_row (S := fun j => j = w1.heap.size ∨ j = b) I4.out.row (.inl rfl) hW).cell (i := 3) (by decide)) ?_
      simp only [Act.put, List.setIfInBounds_toArray, List.set_cons_succ, List.set_cons_zero]
      repeat (go_big_quiet_want; go_big_quiet_op; first | go_big_quiet_on | (refine ⟨_, fun _ _ => rfl, ?_⟩; go_big_quiet_on))
      refine wpQuiet_load_cell rfl 3 (.tmp 16) rfl b (off + k) rfl _ Tryz.underlying3 rfl (.int .i64 x) (fun W hW => (stay_cell (S := fun j => j = w1.heap.size ∨ j = b) (.inr rfl) hW).trans X4.out) ?_
      simp only [Act.put, List.setIfInBounds_toArray, List.set_cons_succ, List.set_cons_zero]
      refine wpQuiet_nil ?_
      clear X4
      refine Tc.plan_one 6 rfl (fun K hK => ?_)
      go_wp2_with fail
      refine (rint_any x _).mono ?_
      rintro e w5 ⟨rfl, b5⟩
      have I5 := Lib.hid (I4.out.later b5)
      have BL5 := Lib.hid (Nat.lt_of_lt_of_le BL4.out b5.size)
      go_wp2_with fail
      refine hK _ _ (stay_below b5 (fun j hj => by rcases hj with rfl | rfl; exact I4.out.row.lt; exact BL4.out)) ?_
      clear hK K b5 I4 BL4
      refine Tc.plan_one 7 rfl (fun K hK => ?_)
      go_wp2_with fail
      have al := (Below.refl _ w5).alloc (Nat.le_refl _) (.cells #[.int .i64 1, .int .i64 x, .string ByteArray.empty, .slice none 0 0] 59)
      have I6 := Lib.hid (I5.out.later al)
      have BL6 := Lib.hid (Nat.lt_of_lt_of_le BL5.out al.size)
      have G6 := Lib.hid (RowV.new w5 59 4 (valC 1 x ⟨#[]⟩ (.slice none 0 0)))
      refine hK _ _ (stay_below al (fun j hj => by rcases hj with rfl | rfl; exact I5.out.row.lt; exact BL5.out)) ?_
      obtain ⟨w6, hw6⟩ : ∃ y, w5.alloc (.cells #[.int .i64 1, .int .i64 x, .string ByteArray.empty, .slice none 0 0] 59) = y := ⟨_, rfl⟩
      rw [hw6] at I6 BL6 ⊢
      rw [show w5.alloc (.cells (rowF 4 (valC 1 x ⟨#[]⟩ (.slice none 0 0))) 59) = w6 from hw6] at G6
      clear hK K al hw6 I5 BL5
      refine Tc.plan_one 8 rfl (fun K hK => ?_)
      refine wpList_app_val rfl (.tmp 13) (.tmp 19) rfl w2.heap.size (.slice sa sn sc) _ rfl I6.out.own w5.heap.size 1 (valC 1 x ⟨#[]⟩ (.slice none 0 0)) (numT x) rfl G6.out (leafS _ _ HB.out) TL.out I6.out.size ?_
      intro v9 w9 L9 s9
      obtain ⟨a9, n9, c9, rfl⟩ := L9.out.slice3
      go_wp2_with fail
      have BL := Lib.hid (show w1.heap.size < w2.heap.size from I6.out.lt)
      refine hK _ _ (stay_app s9.out (fun j hj => ⟨by rcases hj with rfl | rfl; exact I6.out.row.lt; exact BL6.out, fun e => by have h1 := (I6.out.own.lt _ e).1; have h2 := BL.out; have h3 := HBW.out; rcases hj with rfl | rfl <;> omega⟩)) ?_
      obtain ⟨x9, f9⟩ := I6.out.mid s9.out
      have I9 := Lib.hid (I6.out.push L9.out s9.out)
      rw [← HE.out] at I9
      clear hK K L9 s9 I6 BL6 G6
      refine Tc.plan_done (l := [_, _]) rfl (fun K hK => ?_)
      go_wp2_with fail
      clear x9 f9
      go_roundg (gk - 1)
      case measure => have := HLT.out; omega
      case rel =>
        go_light
        exact ⟨k + 1, .slice a9 n9 c9, by have := HLT.out; omega, by go_num, I9⟩
    · obtain rfl : k = n := by omega
      have d0 : decide ((k : Int) < (k : Int)) = false := by rw [decide_eq_false_iff_not]; omega
      have I3 : Hid (LstI w2 w1.heap.size sl (zs.map numT) w3) := Lib.hid (by have h := hI.out; rwa [List.take_of_length_le (by rw [HN.out]; omega)] at h)
      obtain ⟨sa, sn, sc, rfl⟩ := I3.out.slice
      have Z3 := Lib.hid (I3.out.row' Z2.out (fun e => by have := ZL.out; omega))
      have IL := Lib.hid I2.out.lt
      clear hI
      go_wp2_with (first | ((with_reducible (show wpList _ _ _ (Oper.mk (some 22) _ _ _ _ _ :: _) _ _)); refine Hid.out ?_))
      refine Lib.hid ?_
      refine wpList_load_rowV rfl 59 (.tmp 3) rfl w1.heap.size rfl 4 59 _ I3.out.row _ Tryz.underlying59 rfl (by kernel_rfl) ?_
      go_wp2_with (first | ((with_reducible (show wpList _ _ _ (Oper.mk none _ _ _ _ _ :: _) _ _)); refine Hid.out ?_))
      refine Lib.hid ?_
      refine wpList_store_rowV (o := ⟨none, .store 59 (.tmp 2) (.tmp 22), _, _, _, _⟩) rfl 59 (.tmp 2) (.tmp 22) rfl w.heap.size rfl 4 59 _ (valC 3 0 ⟨#[]⟩ (.slice sa sn sc)) rfl Z3.out (by kernel_rfl) (fun j hj => by match j, hj with | 0, _ => rfl | 1, _ => rfl | 2, _ => rfl | 3, _ => rfl) ?_
      intro w4 Z4 O4
      have V4 := Lib.hid ((I3.out.own.only (rb := w.heap.size) O4.out.os O4.out.tape O4.out.output O4.out.size O4.out.block (by have := ZL.out; have := IL.out; omega)).value (by rw [List.length_map, HN.out]; have := HL.out; rw [HN.out] at this; omega))
      have B4 := Lib.hid (B3.out.trans (O4.out.below (Nat.le_refl _) B3.out.size))
      go_wp2_with fail
      refine bodyPost_ret (v := .agg (rowF 4 (valC 3 0 ⟨#[]⟩ (.slice sa sn sc)))) (by exact results_rowV (fn := Tryz.f82) (p := 2) (ty := 59) rfl _ _ w.heap.size 4 59 _ _ rfl Z4.out Tryz.underlying59 rfl (by kernel_rfl)) rfl ⟨⟨_, rfl, V4.out⟩, B4.out⟩
end Go.Proofs.YtpekhdahamloaaaGreatDoor

namespace Go.Proofs.YtpekhdahamloaaaGreatDoor
open Go.RowKit Cod
def zsQ (dv vf lf : Int) : List Int := [dv, vf, lf]
theorem zsQ_bd {dv vf lf : Int} (h1 : i64B dv) (h2 : i64B vf) (h3 : i64B lf) : ∀ z ∈ zsQ dv vf lf, i64B z := by
  intro z hz
  simp only [zsQ, List.mem_cons, List.not_mem_nil, or_false] at hz
  rcases hz with rfl | rfl | rfl
  · exact h1
  · exact h2
  · exact h3
theorem encN_pos (zs : List Int) : 0 < (encN zs).length := by unfold encN; rw [encV_lst, List.length_cons]; omega
theorem rq_cell {w : World} {B : Nat} {T : TypeId} {q : Rq} (h : RowV w B T 36 (rqC q)) {i : Nat} (hi : i < 4) : w.cell? ⟨B, i, none⟩ = some (.int .i64 (q.at i)) := by
  have := h.cell (i := i) (by omega)
  unfold rqC at this
  rwa [if_pos hi] at this
theorem LstI.begin {w : World} {bv : Nat} (h : RowV w bv 59 4 (valC 3 0 ⟨#[]⟩ (.slice none 0 0))) : LstI w bv (.slice none 0 0) [] w := ⟨OwnV.nil _ _, h, OnlyB.refl _ _, h.lt⟩
set_option maxRecDepth 100000 in
set_option maxHeartbeats 8000000 in
theorem pproof_any (d : List UInt8) (hd : d.length = 32) (q : Rq) (hq : q.wf) (w : World) (hT : Tab w) :
    Calls Tryz.prog 36 #[digV d, .agg (rowF 36 (rqC q))] w fun e w' => e = .returned (digV (prfL d q.dv q.vf q.lf)) ∧ Below w.heap.size w w' := by
  have HNB := zsQ_bd hq.dv hq.vf hq.lf
  have hrow : ∀ W : World, RowV (W.alloc (.cells #[.int .i64 q.dv, .int .i64 q.vf, .int .i64 q.lf] 3)) W.heap.size 3 3 (fun i => .int .i64 ((zsQ q.dv q.vf q.lf).getD i 0)) := fun W => RowV.new W 3 3 (fun i => .int .i64 (([q.dv, q.vf, q.lf] : List Int).getD i 0))
  have hlen : (zsQ q.dv q.vf q.lf).length = 3 := rfl
  have hprf : prfL d q.dv q.vf q.lf = Sha.tagged tagEnr (d ++ encN (zsQ q.dv q.vf q.lf)) := rfl
  obtain ⟨P, hP⟩ : ∃ y, prfL d q.dv q.vf q.lf = y := ⟨_, rfl⟩
  obtain ⟨zs, hzs⟩ : ∃ y, zsQ q.dv q.vf q.lf = y := ⟨_, rfl⟩
  rw [hzs] at HNB hrow hlen hprf
  rw [hP] at hprf ⊢
  have EL := encN_len zs HNB (by omega)
  have EN := fun v W (h : CodAt W v (lstT (zs.map numT))) => enc_nums HNB (by omega) h
  have EP := encN_pos zs
  have C1 : ∀ v W, BytesAt W v (d ++ encN zs) → Tab W → Calls Tryz.prog 27 #[.string ⟨#[101, 110, 114, 111, 108, 108]⟩, v] W fun e w' => e = .returned (digV P) ∧ Below W.heap.size W w' := fun v W hv hT => by
    rw [hprf]
    exact tagged_any ⟨#[101, 110, 114, 111, 108, 108]⟩ v _ W (by decide) (by rw [List.length_append, hd]; omega) hv hT
  have hb1 : ∀ W B, RowV W B 35 32 (fun i => vB (d.getD i 0)) → BytesAt W (.slice (some ⟨B, 0, none⟩) 32 32) d := fun W B h => RowV.bytesAt h hd (by decide) (by decide)
  have HB : ∀ k, k < 3 → i64B (zs.getD k 0) := fun k hk => by
    rw [List.getD_eq_getElem?_getD, List.getElem?_eq_getElem (show k < zs.length by omega)]
    exact HNB _ (List.getElem_mem _)
  unfold digV at C1 ⊢
  obtain ⟨g, hg⟩ : ∃ g, (fun i => vB (P.getD i 0)) = g := ⟨_, rfl⟩
  obtain ⟨f, hf⟩ : ∃ f, (fun i => vB (d.getD i 0)) = f := ⟨_, rfl⟩
  have g1 : ∀ j, j < 32 → (g j).oneCell' = true := by intro j _; rw [← hg]; rfl
  rw [hf] at hb1 ⊢
  rw [hg] at C1 ⊢
  have H1 := Lib.hid C1; have HB1 := Lib.hid hb1; have G1 := Lib.hid g1; have HT := Lib.hid hT; have HK := Lib.hid hd; have HEL := Lib.hid EL; have HEP := Lib.hid EP; have HEN := Lib.hid EN; have HR := Lib.hid hrow; have HLE := Lib.hid hlen; have HBB := Lib.hid HB
  clear C1 hb1 g1 hT hg hf hd hq EL EP EN hrow hlen HB HNB hzs hP hprf
  go_enter Tryz.func36, Tryz.ntmps36
  have B0 := Lib.hid (Below.refl w.heap.size w)
  go_upto_region 1 with fail
  obtain ⟨w1, hw1⟩ : ∃ y, w.alloc (.cells (rowF 32 f) 35) = y := ⟨_, rfl⟩
  have b1 : Below w.heap.size w w1 := by rw [← hw1]; exact (Below.refl _ _).alloc (Nat.le_refl _) _
  have F1 : Hid (RowV w1 w.heap.size 35 32 f) := Lib.hid (by rw [← hw1]; exact RowV.new w _ 32 f)
  have z1 : w.heap.size + 1 = w1.heap.size := by rw [← hw1]; exact (Array.size_push _).symm
  rw [hw1]
  (try rw [z1])
  have B1 := Lib.hid (B0.out.trans (b1.mono B0.out.size))
  clear b1 hw1 z1 B0
  have LF := Lib.hid F1.out.lt
  obtain ⟨w2, hw2⟩ : ∃ y, w1.alloc (.cells (rowF 36 (rqC q)) 37) = y := ⟨_, rfl⟩
  have b2 : Below w1.heap.size w1 w2 := by rw [← hw2]; exact (Below.refl _ _).alloc (Nat.le_refl _) _
  have Q2 : Hid (RowV w2 w1.heap.size 37 36 (rqC q)) := Lib.hid (by rw [← hw2]; exact RowV.new w1 _ 36 (rqC q))
  have z2 : w1.heap.size + 1 = w2.heap.size := by rw [← hw2]; exact (Array.size_push _).symm
  rw [hw2]
  (try rw [z2])
  have B2 := Lib.hid (B1.out.trans (b2.mono B1.out.size))
  have F2 := Lib.hid (F1.out.below b2)
  clear b2 hw2 z2 B1 F1
  have LQ := Lib.hid Q2.out.lt
  obtain ⟨w3, hw3⟩ : ∃ y, w2.alloc (.cells #[.int .u8 0, .int .u8 0, .int .u8 0, .int .u8 0, .int .u8 0, .int .u8 0, .int .u8 0, .int .u8 0, .int .u8 0, .int .u8 0, .int .u8 0, .int .u8 0, .int .u8 0, .int .u8 0, .int .u8 0, .int .u8 0, .int .u8 0, .int .u8 0, .int .u8 0, .int .u8 0, .int .u8 0, .int .u8 0, .int .u8 0, .int .u8 0, .int .u8 0, .int .u8 0, .int .u8 0, .int .u8 0, .int .u8 0, .int .u8 0, .int .u8 0, .int .u8 0] 35) = y := ⟨_, rfl⟩
  have b3 : Below w2.heap.size w2 w3 := by rw [← hw3]; exact (Below.refl _ _).alloc (Nat.le_refl _) _
  have D3 : Hid (RowV w3 w2.heap.size 35 32 (fun _ => vB 0)) := Lib.hid (by rw [← hw3]; exact RowV.new w2 _ 32 (fun _ => vB 0))
  have z3 : w2.heap.size + 1 = w3.heap.size := by rw [← hw3]; exact (Array.size_push _).symm
  rw [hw3]
  (try rw [z3])
  have B3 := Lib.hid (B2.out.trans (b3.mono B2.out.size))
  have F3 := Lib.hid (F2.out.below b3)
  have Q3 := Lib.hid (Q2.out.below b3)
  clear b3 hw3 z3 B2 F2 Q2
  have LD := Lib.hid D3.out.lt
  go_upto_region 2 with fail
  obtain ⟨w4, hw4⟩ : ∃ y, w3.alloc (.cells #[.int .i64 3, .int .i64 0, .string ⟨#[]⟩, .slice none 0 0] 59) = y := ⟨_, rfl⟩
  have b4 : Below w3.heap.size w3 w4 := by rw [← hw4]; exact (Below.refl _ _).alloc (Nat.le_refl _) _
  have V4 : Hid (RowV w4 w3.heap.size 59 4 (valC 3 0 ⟨#[]⟩ (.slice none 0 0))) := Lib.hid (by rw [← hw4]; exact RowV.new w3 _ 4 (valC 3 0 ⟨#[]⟩ (.slice none 0 0)))
  have z4 : w3.heap.size + 1 = w4.heap.size := by rw [← hw4]; exact (Array.size_push _).symm
  rw [hw4]
  (try rw [z4])
  have B4 := Lib.hid (B3.out.trans (b4.mono B3.out.size))
  have F4 := Lib.hid (F3.out.below b4)
  have Q4 := Lib.hid (Q3.out.below b4)
  have D4 := Lib.hid (D3.out.below b4)
  clear b4 hw4 z4 B3 F3 Q3 D3
  have LV := Lib.hid V4.out.lt
  have x1 : _ = some (Value.int .i64 q.dv) := rq_cell Q4.out (i := 1) (by decide)
  have x2 : _ = some (Value.int .i64 q.vf) := rq_cell Q4.out (i := 2) (by decide)
  have x3 : _ = some (Value.int .i64 q.lf) := rq_cell Q4.out (i := 3) (by decide)
  go_wp2_with fail
  clear x1 x2 x3
  obtain ⟨w5, hw5⟩ : ∃ y, w4.alloc (.cells #[.int .i64 q.dv, .int .i64 q.vf, .int .i64 q.lf] 3) = y := ⟨_, rfl⟩
  have b5 : Below w4.heap.size w4 w5 := by rw [← hw5]; exact (Below.refl _ _).alloc (Nat.le_refl _) _
  have R5 : Hid (RowV w5 w4.heap.size 3 3 (fun i => .int .i64 (zs.getD i 0))) := Lib.hid (by rw [← hw5]; exact HR.out w4)
  have z5 : w4.heap.size + 1 = w5.heap.size := by rw [← hw5]; exact (Array.size_push _).symm
  rw [hw5]
  (try rw [z5])
  have B5 := Lib.hid (B4.out.trans (b5.mono B4.out.size))
  have F5 := Lib.hid (F4.out.below b5)
  have Q5 := Lib.hid (Q4.out.below b5)
  have D5 := Lib.hid (D4.out.below b5)
  have V5 := Lib.hid (V4.out.below b5)
  clear b5 hw5 z5 B4 F4 Q4 D4 V4
  have LR := Lib.hid R5.out.lt
  go_loopg [19] 3 (fun g s19 wx => ∃ (k : Nat) (sl : Value), k + g = 3 ∧ s19 = .int .i64 (k : Int) ∧ Hid (LstI w5 w3.heap.size sl ((zs.take k).map numT) wx))
  case atStart => exact ⟨0, .slice none 0 0, rfl, rfl, Lib.hid (LstI.begin V5.out)⟩
  case round =>
    obtain ⟨k, sl, hk, rfl, hI⟩ := hrel
    obtain ⟨w6, rfl⟩ : ∃ y, y = wr := ⟨_, rfl⟩
    have q0 : (0 : Int) ≤ (k : Int) := Int.natCast_nonneg k
    by_cases hlt : k < 3
    · have d0 : decide ((k : Int) < 3) = true := by rw [decide_eq_true_iff]; omega
      have d1 : decide (k < 3) = true := by rw [decide_eq_true_iff]; omega
      have z2 : (k : Int) < 3 := by omega
      have p0 : 0 ≤ (k : Int) ∧ (k : Int) < 3 := by omega
      have z3 : ((k : Int)).toNat = k := Int.toNat_natCast k
      have c0 := (hI.out.row' R5.out (fun e => by have := LV.out; omega)).cell (i := k) hlt
      have HE : Hid ((zs.take (k + 1)).map numT = (zs.take k).map numT ++ [numT (zs.getD k 0)]) := Lib.hid (by
        rw [take_succ_getD 0 _ (show k < zs.length by rw [HLE.out]; exact hlt), List.map_append]; rfl)
      have HX := Lib.hid (HBB.out k hlt)
      obtain ⟨x, hx⟩ : ∃ x, zs.getD k 0 = x := ⟨_, rfl⟩
      rw [hx] at c0 HE HX
      have HLT := Lib.hid hlt
      obtain ⟨ts, hts⟩ : ∃ y, (zs.take k).map numT = y := ⟨_, rfl⟩
      have TL : Hid (ts.length ≤ 1000000) := Lib.hid (by rw [← hts, List.length_map, List.length_take]; have := HLE.out; omega)
      rw [hts] at HE hI
      obtain ⟨sa, sn, sc, rfl⟩ := hI.out.slice
      have xs := hI.out.cell
      clear hx hlt hts
      go_wp2_with (first | ((with_reducible (show wpList _ _ _ (Oper.mk (some 28) _ _ _ _ _ :: _) _ _)); refine Hid.out ?_))
      refine Lib.hid ?_
      refine wpList_app_val rfl (.tmp 24) (.tmp 27) rfl w5.heap.size (.slice sa sn sc) ts rfl (hI.out.alloc _).own w6.heap.size 1 (valC 1 x ⟨#[]⟩ (.slice none 0 0)) (numT x) rfl (RowV.new w6 _ 4 (valC 1 x ⟨#[]⟩ (.slice none 0 0))) (leafS _ _ HX.out) TL.out (hI.out.alloc _).size ?_
      intro v9 w9 L9 s9
      obtain ⟨a9, n9, c9, rfl⟩ := L9.out.slice3
      obtain ⟨x9, f9⟩ := (hI.out.alloc _).mid s9.out
      have I9 := Lib.hid ((hI.out.alloc _).push L9.out s9.out)
      clear L9 s9 hI xs c0
      rw [← HE.out] at I9
      go_wp2_with fail
      go_roundg (gk - 1)
      case measure => have := HLT.out; omega
      case rel =>
        go_light
        exact ⟨k + 1, .slice a9 n9 c9, by have := HLT.out; omega, by go_num, I9⟩
    · obtain rfl : k = 3 := by omega
      clear hlt hk
      obtain ⟨sa, sn, sc, rfl⟩ := hI.out.slice
      have I6 : Hid (LstI w5 w3.heap.size (.slice sa sn sc) (zs.map numT) w6) := Lib.hid (by have h := hI.out; rwa [List.take_of_length_le (by rw [HLE.out]; omega)] at h)
      have E := Lib.hid (HEN.out _ w6 (I6.out.value (by rw [List.length_map, HLE.out]; decide)))
      have B6 := Lib.hid (B5.out.trans (I6.out.only.below (K := w.heap.size) (by have := LF.out; have := LQ.out; have := LD.out; omega) B5.out.size))
      have T6 := Lib.hid (HT.out.below B6.out)
      have F6 := Lib.hid (I6.out.row' F5.out (fun e => by have := LF.out; have := LQ.out; have := LD.out; omega))
      have D6 := Lib.hid (I6.out.row' D5.out (fun e => by have := LD.out; omega))
      clear hI q0 HEN
      go_wp2_with (first | ((with_reducible (show wpList _ _ _ (Oper.mk (some 32) _ _ _ _ _ :: _) _ _)); refine Hid.out ?_))
      refine Lib.hid ?_
      refine wpList_load_rowV rfl 59 (.tmp 5) rfl w3.heap.size rfl 4 59 _ I6.out.row _ Tryz.underlying59 rfl (by kernel_rfl) ?_
      go_wp2_with fail
      refine E.out.mono ?_
      rintro e w7 ⟨⟨u, rfl, o7⟩, b7⟩
      have Y7 := Lib.hid (o7.bytesAt (by have := HEL.out; omega))
      have B7 := Lib.hid (B6.out.trans (b7.mono B6.out.size))
      have T7 := Lib.hid (T6.out.below b7)
      have K7 := Lib.hid (HB1.out _ _ (F6.out.below b7))
      have D7 := Lib.hid (D6.out.below b7)
      clear o7 b7 E I6 T6 B6 F6 D6
      go_wp2_with (first | ((with_reducible (show wpList _ _ _ (Oper.mk (some 38) _ _ _ _ _ :: _) _ _)); refine Hid.out ?_))
      refine Lib.hid ?_
      refine wpList_append_full rfl (.tmp 36) (.tmp 37) rfl (.slice (some ⟨w.heap.size, 0, none⟩) 32 32) u d (encN zs) ⟨w.heap.size, 0, none⟩ rfl (by rw [HK.out]) rfl K7.out Y7.out (by rw [HK.out]; decide) HEP.out (by rw [HK.out]; have := HEL.out; omega) ?_
      intro v8 w8 O8 b8
      have B8 := Lib.hid (B7.out.trans (b8.out.mono B7.out.size))
      have T8 := Lib.hid (T7.out.below b8.out)
      have D8 := Lib.hid (D7.out.below b8.out)
      have Y8 := Lib.hid (O8.out.bytesAt (by rw [List.length_append, HK.out]; have := HEL.out; omega))
      clear O8 b8 B7 T7 D7 K7 Y7
      go_wp2_with fail
      refine (H1.out _ _ Y8.out T8.out).mono ?_
      rintro e w9 ⟨rfl, b9⟩
      have B9 := Lib.hid (B8.out.trans (b9.mono B8.out.size))
      have D9 := Lib.hid (D8.out.below b9)
      clear b9 B8 T8 D8 Y8
      go_wp2_with (first | ((with_reducible (show wpList _ _ _ (Oper.mk none _ _ _ _ _ :: _) _ _)); refine Hid.out ?_))
      refine Lib.hid ?_
      refine wpList_store_rowV (o := ⟨none, .store 35 (.tmp 4) (.tmp 39), _, _, _, _⟩) rfl 35 (.tmp 4) (.tmp 39) rfl w2.heap.size rfl 32 35 _ g rfl D9.out (by kernel_rfl) G1.out ?_
      intro w10 R10 O10
      go_wp2_with fail
      refine bodyPost_ret (v := .agg (rowF 32 g)) (by exact results_rowV (fn := Tryz.f36) (p := 4) (ty := 35) rfl _ _ w2.heap.size 32 35 _ _ rfl R10.out Tryz.underlying35 rfl (by kernel_rfl)) rfl ⟨rfl, ?_⟩
      exact B9.out.trans (O10.out.below (by have := LF.out; have := LQ.out; omega) B9.out.size)
set_option maxRecDepth 100000 in
set_option maxHeartbeats 8000000 in
theorem qproof_any (d : List UInt8) (hd : d.length = 32) (dv vf lf : Int) (h1 : i64B dv) (h2 : i64B vf) (h3 : i64B lf) (w : World) :
    Calls Tryz.prog 39 #[digV d, .int .i64 dv, .int .i64 vf, .int .i64 lf] w fun e w' => e = .returned (digV (prfL d dv vf lf)) ∧ Below w.heap.size w w' := by
  have HNB := zsQ_bd h1 h2 h3
  have hint : ∀ W : World, IntsS (W.alloc (.cells #[.int .i64 dv, .int .i64 vf, .int .i64 lf] 3)) (.slice (some ⟨W.heap.size, 0, none⟩) 3 3) (zsQ dv vf lf) := fun W => ints_new W 3 [dv, vf, lf] 3 rfl (by decide) (by decide)
  have hlen : (zsQ dv vf lf).length = 3 := rfl
  have hprf : prfL d dv vf lf = Sha.tagged tagEnr (d ++ encN (zsQ dv vf lf)) := rfl
  obtain ⟨P, hP⟩ : ∃ y, prfL d dv vf lf = y := ⟨_, rfl⟩
  obtain ⟨zs, hzs⟩ : ∃ y, zsQ dv vf lf = y := ⟨_, rfl⟩
  rw [hzs] at HNB hint hlen hprf
  rw [hP] at hprf ⊢
  have EL := encN_len zs HNB (by omega)
  have IN := fun v W (h : IntsS W v zs) => rints_any zs v W h HNB (by omega)
  have EN := fun v W (h : CodAt W v (lstT (zs.map numT))) => renc_nums HNB (by omega) h
  have C1 : ∀ v W, BytesAt W v (d ++ encN zs) → Calls Tryz.prog 73 #[.string ⟨#[101, 110, 114, 111, 108, 108]⟩, v] W fun e w' => e = .returned (digV P) ∧ Below W.heap.size W w' := fun v W hv => by
    rw [hprf]
    exact reftagged_any ⟨#[101, 110, 114, 111, 108, 108]⟩ v _ W (by decide) (by rw [List.length_append, hd]; omega) hv
  have hb1 : ∀ W B, RowV W B 35 32 (fun i => vB (d.getD i 0)) → BytesAt W (.slice (some ⟨B, 0, none⟩) 32 32) d := fun W B h => RowV.bytesAt h hd (by decide) (by decide)
  unfold digV at C1 ⊢
  obtain ⟨g, hg⟩ : ∃ g, (fun i => vB (P.getD i 0)) = g := ⟨_, rfl⟩
  obtain ⟨f, hf⟩ : ∃ f, (fun i => vB (d.getD i 0)) = f := ⟨_, rfl⟩
  have g1 : ∀ j, j < 32 → (g j).oneCell' = true := by intro j _; rw [← hg]; rfl
  rw [hf] at hb1 ⊢
  rw [hg] at C1 ⊢
  have L1 := Lib.hid (show ([] : List UInt8).length + d.length ≤ 140737488351232 from by rw [hd]; decide)
  have L2 := Lib.hid (show ([] ++ d).length + (encN zs).length ≤ 140737488351232 from by rw [List.nil_append, hd]; omega)
  have H1 := Lib.hid C1; have HB1 := Lib.hid hb1; have G1 := Lib.hid g1; have HK := Lib.hid hd; have HEL := Lib.hid EL; have HIN := Lib.hid IN; have HEN := Lib.hid EN; have HR := Lib.hid hint
  clear C1 hb1 g1 hg hf hd EL IN EN hint hlen HNB hzs hP hprf h1 h2 h3
  go_enter Tryz.func39, Tryz.ntmps39
  have B0 := Lib.hid (Below.refl w.heap.size w)
  go_upto_region 1 with fail
  obtain ⟨w1, hw1⟩ : ∃ y, w.alloc (.cells (rowF 32 f) 35) = y := ⟨_, rfl⟩
  have b1 : Below w.heap.size w w1 := by rw [← hw1]; exact (Below.refl _ _).alloc (Nat.le_refl _) _
  have F1 : Hid (RowV w1 w.heap.size 35 32 f) := Lib.hid (by rw [← hw1]; exact RowV.new w _ 32 f)
  have z1 : w.heap.size + 1 = w1.heap.size := by rw [← hw1]; exact (Array.size_push _).symm
  rw [hw1]
  (try rw [z1])
  have B1 := Lib.hid (B0.out.trans (b1.mono B0.out.size))
  clear b1 hw1 z1 B0
  have LF := Lib.hid F1.out.lt
  obtain ⟨w2, hw2⟩ : ∃ y, w1.alloc (.cells #[.int .u8 0, .int .u8 0, .int .u8 0, .int .u8 0, .int .u8 0, .int .u8 0, .int .u8 0, .int .u8 0, .int .u8 0, .int .u8 0, .int .u8 0, .int .u8 0, .int .u8 0, .int .u8 0, .int .u8 0, .int .u8 0, .int .u8 0, .int .u8 0, .int .u8 0, .int .u8 0, .int .u8 0, .int .u8 0, .int .u8 0, .int .u8 0, .int .u8 0, .int .u8 0, .int .u8 0, .int .u8 0, .int .u8 0, .int .u8 0, .int .u8 0, .int .u8 0] 35) = y := ⟨_, rfl⟩
  have b2 : Below w1.heap.size w1 w2 := by rw [← hw2]; exact (Below.refl _ _).alloc (Nat.le_refl _) _
  have D2 : Hid (RowV w2 w1.heap.size 35 32 (fun _ => vB 0)) := Lib.hid (by rw [← hw2]; exact RowV.new w1 _ 32 (fun _ => vB 0))
  have z2 : w1.heap.size + 1 = w2.heap.size := by rw [← hw2]; exact (Array.size_push _).symm
  rw [hw2]
  (try rw [z2])
  have B2 := Lib.hid (B1.out.trans (b2.mono B1.out.size))
  have F2 := Lib.hid (F1.out.below b2)
  clear b2 hw2 z2 B1 F1
  have LD := Lib.hid D2.out.lt
  go_wp2_with fail
  obtain ⟨w3, hw3⟩ : ∃ y, w2.alloc (.cells #[.int .i64 dv, .int .i64 vf, .int .i64 lf] 3) = y := ⟨_, rfl⟩
  have b3 : Below w2.heap.size w2 w3 := by rw [← hw3]; exact (Below.refl _ _).alloc (Nat.le_refl _) _
  have R3 : Hid (IntsS w3 (.slice (some ⟨w2.heap.size, 0, none⟩) 3 3) zs) := Lib.hid (by rw [← hw3]; exact HR.out w2)
  have z3 : w2.heap.size + 1 = w3.heap.size := by rw [← hw3]; exact (Array.size_push _).symm
  rw [hw3]
  (try rw [z3])
  have B3 := Lib.hid (B2.out.trans (b3.mono B2.out.size))
  have F3 := Lib.hid (F2.out.below b3)
  have D3 := Lib.hid (D2.out.below b3)
  clear b3 hw3 z3 B2 F2 D2
  refine (HIN.out _ _ R3.out).mono ?_
  rintro e w4 ⟨⟨u, rfl, hC⟩, b4⟩
  have C4 := Lib.hid hC
  have B4 := Lib.hid (B3.out.trans (b4.mono B3.out.size))
  have F4 := Lib.hid (F3.out.below b4)
  have D4 := Lib.hid (D3.out.below b4)
  clear hC b4 B3 F3 D3 R3
  go_wp2_with fail
  refine (HEN.out _ _ C4.out).mono ?_
  rintro e w5 ⟨⟨v, rfl, o5⟩, b5⟩
  have Y5 := Lib.hid (o5.bytesAt (by have := HEL.out; omega))
  have B5 := Lib.hid (B4.out.trans (b5.mono B4.out.size))
  have F5 := Lib.hid (F4.out.below b5)
  have D5 := Lib.hid (D4.out.below b5)
  clear o5 b5 B4 F4 D4 C4 HIN HEN
  go_wp2_with (first | ((with_reducible (show wpList _ _ _ (Oper.mk (some 22) _ _ _ _ _ :: _) _ _)); refine Hid.out ?_))
  refine Lib.hid ?_
  have al := (Below.refl _ w5).alloc (Nat.le_refl _) (.cells #[] 5)
  have R := Owns.emp0 (w := w5.alloc (.cells #[] 5)) (base := w5.heap.size) (Nat.le_refl _) (MapKept.heap_alloc w5 _).1
  obtain ⟨w6, hw⟩ : ∃ y, w5.alloc (.cells #[] 5) = y := ⟨_, rfl⟩
  rw [hw] at al R ⊢
  have B6 := Lib.hid (B5.out.trans (al.mono B5.out.size))
  have K6 := Lib.hid (HB1.out _ _ (F5.out.below al))
  have AL := Lib.hid al
  have S5 := Lib.hid B5.out.size
  have S6 := Lib.hid al.size
  have R6 := Lib.hid R
  clear al R hw B5 F5
  refine wpList_append_bytes rfl (.tmp 20) (.tmp 21) rfl w5.heap.size (.slice (some ⟨w5.heap.size, 0, none⟩) 0 0) (.slice (some ⟨w.heap.size, 0, none⟩) 32 32) [] d rfl rfl R6.out K6.out L1.out S6.out ?_
  intro v7 w7 O7 b7 _
  have B7 := Lib.hid (B6.out.trans (b7.out.mono S5.out))
  have AL7 := Lib.hid (AL.out.trans b7.out)
  have S7 := Lib.hid AL7.out.size
  clear AL S6 R6 K6 B6 b7
  go_wp2_with (first | ((with_reducible (show wpList _ _ _ (Oper.mk (some 24) _ _ _ _ _ :: _) _ _)); refine Hid.out ?_))
  refine Lib.hid ?_
  refine wpList_append_bytes rfl (.tmp 22) (.tmp 23) rfl w5.heap.size v7 v ([] ++ d) (encN zs) rfl rfl O7.out (Y5.out.below AL7.out) L2.out S7.out ?_
  intro v8 w8 O8 b8 _
  have B8 := Lib.hid (B7.out.trans (b8.out.mono S5.out))
  have D8 := Lib.hid (D5.out.below (AL7.out.trans b8.out))
  have Y8 := Lib.hid (O8.out.bytesAt (by have := L2.out; rw [List.length_append]; omega))
  clear AL7 S7 O8 b8 O7 Y5 D5 B7
  go_wp2_with fail
  refine (H1.out _ _ Y8.out).mono ?_
  rintro e w9 ⟨rfl, b9⟩
  have B9 := Lib.hid (B8.out.trans (b9.mono B8.out.size))
  have D9 := Lib.hid (D8.out.below b9)
  clear b9 B8 D8 Y8
  go_wp2_with (first | ((with_reducible (show wpList _ _ _ (Oper.mk none _ _ _ _ _ :: _) _ _)); refine Hid.out ?_))
  refine Lib.hid ?_
  refine wpList_store_rowV (o := ⟨none, .store 35 (.tmp 8) (.tmp 25), _, _, _, _⟩) rfl 35 (.tmp 8) (.tmp 25) rfl w1.heap.size rfl 32 35 _ g rfl D9.out (by kernel_rfl) G1.out ?_
  intro w10 R10 O10
  go_wp2_with fail
  refine bodyPost_ret (v := .agg (rowF 32 g)) (by exact results_rowV (fn := Tryz.f39) (p := 8) (ty := 35) rfl _ _ w1.heap.size 32 35 _ _ rfl R10.out Tryz.underlying35 rfl (by kernel_rfl)) rfl ⟨rfl, ?_⟩
  exact B9.out.trans (O10.out.below (by have := LF.out; omega) B9.out.size)
end Go.Proofs.YtpekhdahamloaaaGreatDoor

namespace Go.Proofs.YtpekhdahamloaaaGreatDoor
open Go.RowKit Cod
theorem pointV_bd (r c x : Int) : i64B (pointV r c x) := by
  unfold pointV
  split
  · have h := (pointS_El r.toNat c.toNat x.toNat).lt63
    unfold i64B
    omega
  · exact i64B_0
abbrev rqParts (a b c d : Int) : Array (Nat × Value) := #[(0, .int .i64 a), (1, .int .i64 b), (2, .int .i64 c), (3, .int .i64 d)]
set_option maxRecDepth 100000 in
theorem build_rq (a b c d : Int) (W : World) : (Instr.build 37 (rqParts a b c d)).run Tryz.prog W = .ok (.agg (rowF 36 (rqC ⟨a, b, c, d, zero32⟩))) W := by kernel_rfl
theorem rq_proof (q : Rq) (l : List UInt8) : ∀ i, i < 36 → (if 4 ≤ i ∧ i < 4 + 32 then dgF l (i - 4) else rqC q i) = rqC ⟨q.pt, q.dv, q.vf, q.lf, l⟩ i := by
  intro i hi
  by_cases h : 4 ≤ i
  · rw [if_pos ⟨h, hi⟩]
    unfold rqC dgF
    rw [if_neg (by omega)]
  · rw [if_neg (by omega)]
    match i, h with
    | 0, _ => rfl
    | 1, _ => rfl
    | 2, _ => rfl
    | 3, _ => rfl
    | n + 4, h => exact absurd (by omega) h
theorem sharedE_chk {r c x p : Int} (h : sharedE r c x p = 0) : chkS r c x = 0 := by
  unfold sharedE at h
  split at h
  · rename_i h2
    simp only [Bool.and_eq_true] at h2
    exact chkS_yes h2.1
  · cases h
theorem sharedE_prv {r c x p : Int} (h : sharedE r c x p = 0) : provedL r c x p = proofL (sharedL r c x p) r := by unfold provedL; rw [if_pos h]
set_option maxRecDepth 100000 in
set_option maxHeartbeats 8000000 in
theorem pask_any (c x n dv vf lf : Int) (h1 : i64B dv) (h2 : i64B vf) (h3 : i64B lf) (w : World) (hT : Tab w) :
    Calls Tryz.prog 17 #[.int .i64 c, .int .i64 x, .int .i64 n, .int .i64 dv, .int .i64 vf, .int .i64 lf] w fun e w' => e = .returned (.tuple #[.agg (rowF 36 (rqC (askV c x n dv vf lf))), .int .i64 (askE c x n dv vf lf)]) ∧ Below w.heap.size w w' := by
  have K1 := fun W => check_any vf W
  have K2 := fun W => check_any lf W
  unfold chk at K1 K2
  have C1 := fun W (h : Tab W) => proved_any 2 c x n W h
  have C2 := fun W (h : Tab W) => point_any10 2 c x W h
  have SC : sharedE 2 c x n = 0 → chkS 2 c x = 0 := sharedE_chk
  have S2 := sharedE_01 2 c x n
  have pb := pointV_bd 2 c x
  have AB : askB dv vf lf = !(decide (dv < 0) || decide (512 ≤ dv) || !elemB vf || !elemB lf) := by
    unfold askB devB
    rw [show decide (0 ≤ dv) = !decide (dv < 0) from by rw [← decide_not, decide_eq_decide]; omega, show decide (dv < 512) = !decide (512 ≤ dv) from by rw [← decide_not, decide_eq_decide]; omega]
    simp [Bool.not_or]
  have FH : askE c x n dv vf lf = if askB dv vf lf then sharedE 2 c x n else 1 := rfl
  have VH : askV c x n dv vf lf = if askE c x n dv vf lf = 0 then ⟨pointV 2 c x, dv, vf, lf, prfL (provedL 2 c x n) dv vf lf⟩ else rq0 := rfl
  have CP := fun W (h : Tab W) => pproof_any (provedL 2 c x n) (provedL_len 2 c x n) ⟨pointV 2 c x, dv, vf, lf, zero32⟩ ⟨pb, h1, h2, h3, rfl⟩ W h
  obtain ⟨F, hF⟩ : ∃ y, askE c x n dv vf lf = y := ⟨_, rfl⟩
  obtain ⟨V, hV⟩ : ∃ y, askV c x n dv vf lf = y := ⟨_, rfl⟩
  obtain ⟨D, hD⟩ : ∃ y, provedL 2 c x n = y := ⟨_, rfl⟩
  obtain ⟨o, ho⟩ : ∃ y, pointV 2 c x = y := ⟨_, rfl⟩
  obtain ⟨se, hse⟩ : ∃ y, sharedE 2 c x n = y := ⟨_, rfl⟩
  obtain ⟨ev, hev⟩ : ∃ y, elemB vf = y := ⟨_, rfl⟩
  obtain ⟨el, hel⟩ : ∃ y, elemB lf = y := ⟨_, rfl⟩
  obtain ⟨P, hP⟩ : ∃ y, prfL D dv vf lf = y := ⟨_, rfl⟩
  rw [hF, hse, AB, hev, hel] at FH
  rw [hF, hV, ho, hD, hP] at VH
  rw [hse] at C1 S2 SC
  rw [hD] at C1 CP
  rw [ho] at C2 CP
  rw [hev] at K1
  rw [hel] at K2
  rw [hP] at CP
  rw [hF, hV]
  obtain ⟨bad, hbad⟩ : ∃ y, (decide (dv < 0) || decide (512 ≤ dv) || !ev || !el) = y := ⟨_, rfl⟩
  rw [hbad] at FH
  have BD := Lib.hid hbad
  have H1 := Lib.hid K1; have H2 := Lib.hid K2; have H3 := Lib.hid C1; have H4 := Lib.hid C2; have H5 := Lib.hid CP
  replace FH := Lib.hid FH; replace VH := Lib.hid VH; replace S2 := Lib.hid S2; replace SC := Lib.hid SC
  have T0 := Lib.hid hT; clear hT
  clear K1 K2 C1 C2 CP AB pb hF hV hD ho hse hev hel hP hbad h1 h2 h3
  go_enter Tryz.func17, Tryz.ntmps17
  have B0 := Lib.hid (Below.refl w.heap.size w)
  skip
  go_upto_region 1 with fail
  obtain ⟨w1, hw1⟩ : ∃ y, w.alloc (.cells #[.int .i64 0, .int .i64 0, .int .i64 0, .int .i64 0, .int .u8 0, .int .u8 0, .int .u8 0, .int .u8 0, .int .u8 0, .int .u8 0, .int .u8 0, .int .u8 0, .int .u8 0, .int .u8 0, .int .u8 0, .int .u8 0, .int .u8 0, .int .u8 0, .int .u8 0, .int .u8 0, .int .u8 0, .int .u8 0, .int .u8 0, .int .u8 0, .int .u8 0, .int .u8 0, .int .u8 0, .int .u8 0, .int .u8 0, .int .u8 0, .int .u8 0, .int .u8 0, .int .u8 0, .int .u8 0, .int .u8 0, .int .u8 0] 37) = y := ⟨_, rfl⟩
  have b1 : Below w.heap.size w w1 := by rw [← hw1]; exact (Below.refl _ _).alloc (Nat.le_refl _) _
  have Z1 : Hid (RowV w1 w.heap.size 37 36 (rqC rq0)) := Lib.hid (by rw [← hw1]; exact RowV.new w _ 36 (rqC rq0))
  have z1 : w.heap.size + 1 = w1.heap.size := by rw [← hw1]; exact (Array.size_push _).symm
  rw [hw1]
  (try rw [z1])
  have B1 := Lib.hid (B0.out.trans (b1.mono B0.out.size))
  clear b1 hw1 z1 B0
  have L1 := Lib.hid Z1.out.lt
  go_cut [32] (fun sb wx => sb = .bool bad ∧ Below w1.heap.size w1 wx)
  case first =>
    have R1 := Lib.hid (Below.refl w1.heap.size w1)
    cases n0 : decide (dv < 0)
    rotate_left
    · obtain rfl : bad = true := by rw [← BD.out, n0]; rfl
      clear BD
      go_wp2_with fail
      go_meet
      exact ⟨rfl, R1.out⟩
    cases n1 : decide (512 ≤ dv)
    rotate_left
    · obtain rfl : bad = true := by rw [← BD.out, n0, n1]; rfl
      clear BD
      go_wp2_with fail
      go_meet
      exact ⟨rfl, R1.out⟩
    go_wp2_with fail
    refine (H1.out _).mono ?_
    rintro e w2 ⟨rfl, b2⟩
    have R2 := Lib.hid b2
    clear b2
    cases ev
    · obtain rfl : bad = true := by rw [← BD.out, n0, n1]; rfl
      clear BD
      go_wp2_with fail
      go_meet
      exact ⟨rfl, R2.out⟩
    go_wp2_with fail
    refine (H2.out _).mono ?_
    rintro e w3 ⟨rfl, b3⟩
    have R3 := Lib.hid (R2.out.trans (b3.mono R2.out.size))
    clear b3
    cases el
    · obtain rfl : bad = true := by rw [← BD.out, n0, n1]; rfl
      clear BD
      go_wp2_with fail
      go_meet
      exact ⟨rfl, R3.out⟩
    · obtain rfl : bad = false := by rw [← BD.out, n0, n1]; rfl
      clear BD
      go_wp2_with fail
      go_meet
      exact ⟨rfl, R3.out⟩
  case rest =>
    rename World => w2
    obtain ⟨rfl, hb2⟩ := hcut
    have B2 := Lib.hid (B1.out.trans (hb2.mono B1.out.size))
    have Z2 := Lib.hid (Z1.out.below hb2)
    have T2 := Lib.hid (T0.out.below B2.out)
    clear hb2 B1 Z1 H1 H2 BD
    cases bad
    rotate_left
    · obtain rfl : F = 1 := FH.out
      obtain rfl : V = rq0 := by rw [VH.out, if_neg (by decide)]
      go_wp2_with (first | ((with_reducible (show wpList _ _ _ (Oper.mk (some 33) _ _ _ _ _ :: _) _ _)); refine Hid.out ?_))
      refine Lib.hid ?_
      refine wpList_load_rowV rfl 37 (.tmp 12) rfl w.heap.size rfl 36 _ _ (Z2.out) _ Tryz.underlying37 rfl (by kernel_rfl) ?_
      go_wp2_with (first | ((with_reducible (show wpList _ _ _ (Oper.mk none _ _ _ _ _ :: _) _ _)); refine Hid.out ?_))
      refine Lib.hid ?_
      refine wpList_store_rowV rfl 37 (.tmp 12) (.tmp 33) rfl w.heap.size rfl 36 _ _ _ rfl (Z2.out) (by kernel_rfl) (fun j _ => rqC_one rq0 j) ?_
      intro w9 Z9 O9
      go_wp2_with fail
      refine bodyPost_ret (v := .tuple #[.agg (rowF 36 (rqC rq0)), .int .i64 1]) (by exact results_rowV2 (fn := Tryz.f17) (p := 12) (u := 13) (ty := 37) rfl _ _ w.heap.size 36 37 _ _ rfl Z9.out Tryz.underlying37 rfl (by kernel_rfl)) rfl ⟨rfl, ?_⟩
      exact B2.out.trans (O9.out.below (Nat.le_refl _) B2.out.size)
    obtain rfl : F = se := FH.out
    clear FH
    go_upto_region 4 with fail
    obtain ⟨w3, hw3⟩ : ∃ y, w2.alloc (.cells #[.int .i64 2, .int .i64 c, .int .i64 x] 23) = y := ⟨_, rfl⟩
    have b3 : Below w2.heap.size w2 w3 := by rw [← hw3]; exact (Below.refl _ _).alloc (Nat.le_refl _) _
    have S3 : Hid (RowV w3 w2.heap.size 23 3 (sideF 2 c x)) := Lib.hid (by rw [← hw3]; exact RowV.new w2 _ 3 (sideF 2 c x))
    have z3 : w2.heap.size + 1 = w3.heap.size := by rw [← hw3]; exact (Array.size_push _).symm
    rw [hw3]
    (try rw [z3])
    have B3 := Lib.hid (B2.out.trans (b3.mono B2.out.size))
    have Z3 := Lib.hid (Z2.out.below b3)
    have T3 := Lib.hid (T2.out.below b3)
    clear b3 hw3 z3 B2 Z2 T2
    have x0 : _ = some (Value.int .i64 2) := S3.out.cell (i := 0) (by decide)
    have x1 : _ = some (Value.int .i64 c) := S3.out.cell (i := 1) (by decide)
    have x2 : _ = some (Value.int .i64 x) := S3.out.cell (i := 2) (by decide)
    go_wp2_with fail
    refine (H3.out _ T3.out).mono ?_
    rintro e w4 ⟨rfl, b4⟩
    have B4 := Lib.hid (B3.out.trans (b4.mono B3.out.size))
    have Z4 := Lib.hid (Z3.out.below b4)
    have T4 := Lib.hid (T3.out.below b4)
    have S4 := Lib.hid (S3.out.below b4)
    clear b4 B3 Z3 T3 S3
    clear x0 x1 x2 H3
    have LY := Lib.hid Z4.out.lt
    unfold digV
    have Zr := Lib.hid (RowV.new w4 35 32 (fun _ => vB 0))
    go_upto_region 5 with ((with_reducible (show wpList _ _ _ (Oper.mk none _ _ _ _ _ :: _) _ _)); refine wpList_store_rowV (o := ⟨none, .store 35 (.tmp 15) (.tmp 41), _, _, _, _⟩) rfl 35 (.tmp 15) (.tmp 41) rfl w4.heap.size rfl 32 35 _ (fun j => vB (D.getD j 0)) rfl Zr.out (by kernel_rfl) (fun _ _ => rfl) ?_; intro w5 Y5 o5)
    have b5 : Below w4.heap.size w4 w5 := ((Below.refl _ _).alloc (Nat.le_refl _) _).trans (o5.out.below (Nat.le_refl _) (by rw [World.size_alloc]; omega))
    have B5 := Lib.hid (B4.out.trans (b5.mono B4.out.size))
    have Z5 := Lib.hid (Z4.out.below b5)
    have T5 := Lib.hid (T4.out.below b5)
    have S5 := Lib.hid (S4.out.below b5)
    clear b5 o5 Zr B4 Z4 T4 S4
    rcases S2.out with rfl | rfl
    rotate_left
    · obtain rfl : V = rq0 := by rw [VH.out, if_neg (by decide)]
      go_wp2_with (first | ((with_reducible (show wpList _ _ _ (Oper.mk (some 45) _ _ _ _ _ :: _) _ _)); refine Hid.out ?_))
      refine Lib.hid ?_
      refine wpList_load_rowV rfl 37 (.tmp 12) rfl w.heap.size rfl 36 _ _ (Z5.out) _ Tryz.underlying37 rfl (by kernel_rfl) ?_
      go_wp2_with (first | ((with_reducible (show wpList _ _ _ (Oper.mk none _ _ _ _ _ :: _) _ _)); refine Hid.out ?_))
      refine Lib.hid ?_
      refine wpList_store_rowV rfl 37 (.tmp 12) (.tmp 45) rfl w.heap.size rfl 36 _ _ _ rfl (Z5.out) (by kernel_rfl) (fun j _ => rqC_one rq0 j) ?_
      intro w9 Z9 O9
      go_wp2_with fail
      refine bodyPost_ret (v := .tuple #[.agg (rowF 36 (rqC rq0)), .int .i64 100]) (by exact results_rowV2 (fn := Tryz.f17) (p := 12) (u := 13) (ty := 37) rfl _ _ w.heap.size 36 37 _ _ rfl Z9.out Tryz.underlying37 rfl (by kernel_rfl)) rfl ⟨rfl, ?_⟩
      exact B5.out.trans (O9.out.below (Nat.le_refl _) B5.out.size)
    have sc := SC.out rfl
    rw [sc] at H4
    clear SC sc S2
    obtain rfl : V = ⟨o, dv, vf, lf, P⟩ := by rw [VH.out, if_pos rfl]
    clear VH
    have x0 : _ = some (Value.int .i64 2) := S5.out.cell (i := 0) (by decide)
    have x1 : _ = some (Value.int .i64 c) := S5.out.cell (i := 1) (by decide)
    have x2 : _ = some (Value.int .i64 x) := S5.out.cell (i := 2) (by decide)
    go_wp2_with fail
    refine (H4.out _ T5.out).mono ?_
    rintro e w6 ⟨rfl, b6⟩
    have B6 := Lib.hid (B5.out.trans (b6.mono B5.out.size))
    have Z6 := Lib.hid (Z5.out.below b6)
    have T6 := Lib.hid (T5.out.below b6)
    have S6 := Lib.hid (S5.out.below b6)
    have Y6 := Lib.hid (Y5.out.below b6)
    clear b6 B5 Z5 T5 S5 Y5
    clear x0 x1 x2 H4
    unfold digV at H5
    go_wp2_with (first | ((with_reducible (show wpList _ _ _ (Oper.mk (some 60) _ _ _ _ _ :: _) _ _)); refine Hid.out ?_))
    refine Lib.hid ?_
    refine wpList_build rfl 37 _ rfl (rqParts o dv vf lf) (by simp only [List.map_toArray, List.map_cons, List.map_nil]; rfl) _ (build_rq o dv vf lf _) ?_
    go_wp2_with (first | ((with_reducible (show wpList _ _ _ (Oper.mk none _ _ _ _ _ :: _) _ _)); refine Hid.out ?_))
    refine Lib.hid ?_
    refine wpList_store_rowV rfl 37 (.tmp 12) (.tmp 60) rfl w.heap.size rfl 36 _ _ _ rfl (Z6.out) (by kernel_rfl) (fun j _ => rqC_one _ j) ?_
    intro w7 Z7 O7
    have Y7 := Lib.hid (O7.out.row (show w4.heap.size ≠ w.heap.size from fun e => by have := LY.out; omega) Y6.out)
    have T7 := Lib.hid (T0.out.below (B6.out.trans (O7.out.below (Nat.le_refl _) B6.out.size)))
    have B7 := Lib.hid (B6.out.trans (O7.out.below (Nat.le_refl _) B6.out.size))
    clear Z6 Y6 B6 O7 T6 S6
    go_wp2_with (first | ((with_reducible (show wpList _ _ _ (Oper.mk (some 61) _ _ _ _ _ :: _) _ _)); refine Hid.out ?_))
    refine Lib.hid ?_
    refine wpList_load_rowV rfl 35 (.tmp 15) rfl w4.heap.size rfl 32 _ _ (Y7.out) _ Tryz.underlying35 rfl (by kernel_rfl) ?_
    go_wp2_with (first | ((with_reducible (show wpList _ _ _ (Oper.mk (some 62) _ _ _ _ _ :: _) _ _)); refine Hid.out ?_))
    refine Lib.hid ?_
    refine wpList_load_rowV rfl 37 (.tmp 12) rfl w.heap.size rfl 36 _ _ (Z7.out) _ Tryz.underlying37 rfl (by kernel_rfl) ?_
    go_wp2_with fail
    refine (H5.out _ T7.out).mono ?_
    rintro e w8 ⟨rfl, b8⟩
    have Z8 := Lib.hid (Z7.out.below b8)
    have B8 := Lib.hid (B7.out.trans (b8.mono B7.out.size))
    clear b8 Z7 B7 T7 Y7 H5
    go_wp2_with (first | ((with_reducible (show wpList _ _ _ (Oper.mk none _ _ _ _ _ :: _) _ _)); refine Hid.out ?_))
    refine Lib.hid ?_
    refine wpList_store_part rfl 35 (.tmp 64) (.tmp 63) rfl w.heap.size 4 rfl 36 32 _ _ (dgF P) (rqC ⟨o, dv, vf, lf, P⟩) rfl Z8.out (by decide) (by kernel_rfl) (fun _ _ => rfl) (rq_proof ⟨o, dv, vf, lf, zero32⟩ P) ?_
    intro w9 Z9 O9
    have B9 := Lib.hid (B8.out.trans (O9.out.below (Nat.le_refl _) B8.out.size))
    clear Z8 B8 O9
    go_wp2_with (first | ((with_reducible (show wpList _ _ _ (Oper.mk (some 65) _ _ _ _ _ :: _) _ _)); refine Hid.out ?_))
    refine Lib.hid ?_
    refine wpList_load_rowV rfl 37 (.tmp 12) rfl w.heap.size rfl 36 _ _ (Z9.out) _ Tryz.underlying37 rfl (by kernel_rfl) ?_
    go_wp2_with (first | ((with_reducible (show wpList _ _ _ (Oper.mk none _ _ _ _ _ :: _) _ _)); refine Hid.out ?_))
    refine Lib.hid ?_
    refine wpList_store_rowV rfl 37 (.tmp 12) (.tmp 65) rfl w.heap.size rfl 36 _ _ _ rfl (Z9.out) (by kernel_rfl) (fun j _ => rqC_one _ j) ?_
    intro w10 Z10 O10
    go_wp2_with fail
    refine bodyPost_ret (v := .tuple #[.agg (rowF 36 (rqC ⟨o, dv, vf, lf, P⟩)), .int .i64 0]) (by exact results_rowV2 (fn := Tryz.f17) (p := 12) (u := 13) (ty := 37) rfl _ _ w.heap.size 36 37 _ _ rfl Z10.out Tryz.underlying37 rfl (by kernel_rfl)) rfl ⟨rfl, ?_⟩
    exact B9.out.trans (O10.out.below (Nat.le_refl _) B9.out.size)
end Go.Proofs.YtpekhdahamloaaaGreatDoor

namespace Go.Proofs.YtpekhdahamloaaaGreatDoor
open Go.RowKit Cod
/-- a failure as an error; none for 0 -/
def refV (e : Int) (t : Bool) : Value := if e = 0 then .nilIface else .iface 88 (.agg #[.int .i64 e, .bool t])
theorem refuse_any (e : Int) (w : World) :
    Calls Tryz.prog 83 #[.int .i64 e] w fun r w' => r = .returned (refV e false) ∧ w = w' := by
  unfold refV
  cases z : (e == 0)
  · rw [if_neg (beq_eq_false_iff_ne.1 z)]
    go_enter Tryz.func83, Tryz.ntmps83
    go_wp2_with fail
    go_ret
    exact ⟨rfl, rfl⟩
  · rw [if_pos (beq_iff_eq.1 z)]
    go_enter Tryz.func83, Tryz.ntmps83
    go_wp2_with fail
    go_ret
    exact ⟨rfl, rfl⟩
/-- the cells of an examination -/
def exC (s : Ss) (q : Rq) (v b x : Int) (c : Ct) (j : Nat) : Value := if j < 6 then ssC s j else if j < 42 then rqC q (j - 6) else if j = 42 then .int .i64 v else if j = 43 then .int .i64 b else if j = 44 then .int .i64 x else ctC c (j - 45)
theorem exC_one (s : Ss) (q : Rq) (v b x : Int) (c : Ct) (j : Nat) : (exC s q v b x c j).oneCell' = true := by
  unfold exC
  split
  · exact ssC_one s j
  split
  · exact rqC_one q _
  split
  · rfl
  split
  · rfl
  split
  · rfl
  · exact ctC_one c _
theorem exC_ss (s : Ss) (q : Rq) (v b x : Int) (c : Ct) : ∀ j, j < 6 → exC s q v b x c (0 + j) = ssC s j := fun j hj => by rw [Nat.zero_add]; unfold exC; rw [if_pos hj]
theorem exC_rq (s : Ss) (q : Rq) (v b x : Int) (c : Ct) : ∀ j, j < 36 → exC s q v b x c (6 + j) = rqC q j := fun j hj => by
  unfold exC; rw [if_neg (by omega), if_pos (by omega), Nat.add_sub_cancel_left]
theorem exC_pf (s : Ss) (q : Rq) (v b x : Int) (c : Ct) : ∀ j, j < 32 → exC s q v b x c (10 + j) = dgF q.pf j := fun j hj => by
  unfold exC rqC dgF; rw [if_neg (by omega), if_pos (by omega), if_neg (by omega), show 10 + j - 6 - 4 = j by omega]
theorem exC_ct (s : Ss) (q : Rq) (v b x : Int) (c : Ct) : ∀ j, j < 8 → exC s q v b x c (45 + j) = ctC c j := fun j hj => by
  unfold exC; rw [if_neg (by omega), if_neg (by omega), if_neg (by omega), if_neg (by omega), if_neg (by omega), Nat.add_sub_cancel_left]
section
variable {w : World} {B : Nat} {T : TypeId} {s : Ss} {q : Rq} {v b x : Int} {c : Ct} (h : RowV w B T 53 (exC s q v b x c))
include h
theorem ex_p : w.cell? ⟨B, 3, none⟩ = some (.int .i64 s.p) := h.cell (i := 3) (by decide)
theorem ex_t : w.cell? ⟨B, 4, none⟩ = some (.int .i64 s.t) := h.cell (i := 4) (by decide)
theorem ex_d : w.cell? ⟨B, 5, none⟩ = some (.bool s.d) := h.cell (i := 5) (by decide)
theorem ex_pt : w.cell? ⟨B, 6, none⟩ = some (.int .i64 q.pt) := h.cell (i := 6) (by decide)
theorem ex_dv : w.cell? ⟨B, 7, none⟩ = some (.int .i64 q.dv) := h.cell (i := 7) (by decide)
theorem ex_vf : w.cell? ⟨B, 8, none⟩ = some (.int .i64 q.vf) := h.cell (i := 8) (by decide)
theorem ex_lf : w.cell? ⟨B, 9, none⟩ = some (.int .i64 q.lf) := h.cell (i := 9) (by decide)
theorem ex_v : w.cell? ⟨B, 42, none⟩ = some (.int .i64 v) := h.cell (i := 42) (by decide)
theorem ex_b : w.cell? ⟨B, 43, none⟩ = some (.int .i64 b) := h.cell (i := 43) (by decide)
theorem ex_k : w.cell? ⟨B, 44, none⟩ = some (.int .i64 x) := h.cell (i := 44) (by decide)
end
section
variable (s : Ss) (q : Rq) (v b x : Int) (c : Ct) (B : Nat) (w : World) (h : RowV w B 84 53 (exC s q v b x c))
include h
set_option maxRecDepth 100000 in
set_option maxHeartbeats 4000000 in
theorem xvalid_any : Calls Tryz.prog 40 #[.pointer (some ⟨B, 0, none⟩)] w fun e w' => e = .returned (refV (chkSs s) false) ∧ Below w.heap.size w w' := by
  have H := Lib.hid h
  have C := Lib.hid (fun W => pcheck38_any s W)
  have R := Lib.hid (fun e W => refuse_any e W)
  clear h
  obtain ⟨k, hk⟩ : ∃ y, chkSs s = y := ⟨_, rfl⟩
  rw [hk] at C ⊢
  clear hk
  go_enter Tryz.func40, Tryz.ntmps40
  have B0 := Lib.hid (Below.refl w.heap.size w)
  go_wp2_with (first | ((with_reducible (show wpList _ _ _ (Oper.mk (some 6) _ _ _ _ _ :: _) _ _)); refine Hid.out ?_))
  refine Lib.hid ?_
  refine wpList_load_part rfl 25 (.tmp 5) rfl B 0 rfl 53 6 84 (exC s q v b x c) (ssC s) H.out (by decide) (exC_ss s q v b x c) _ Tryz.underlying25 rfl (by kernel_rfl) ?_
  go_wp2_with fail
  refine (C.out _).mono ?_
  rintro e w1 ⟨rfl, b1⟩
  have B1 := Lib.hid (B0.out.trans (b1.mono B0.out.size))
  clear b1 B0
  go_wp2_with fail
  refine (R.out _ _).mono ?_
  rintro e wp ⟨rfl, rfl⟩
  go_wp2_with fail
  go_ret
  exact ⟨rfl, B1.out⟩
set_option maxRecDepth 100000 in
set_option maxHeartbeats 4000000 in
theorem xopen_any : Calls Tryz.prog 41 #[.pointer (some ⟨B, 0, none⟩)] w fun e w' => e = .returned (refV (if s.t = 5 then 381 else if s.d then 380 else 0) false) ∧ w = w' := by
  have x4 := ex_t h
  have x5 := ex_d h
  have R := Lib.hid (fun e W => refuse_any e W)
  clear h
  obtain ⟨t, ht⟩ : ∃ y, s.t = y := ⟨_, rfl⟩
  obtain ⟨d, hd⟩ : ∃ y, s.d = y := ⟨_, rfl⟩
  rw [ht] at x4 ⊢
  rw [hd] at x5 ⊢
  clear ht hd
  cases z : (t == 5)
  · rw [if_neg (beq_eq_false_iff_ne.1 z)]
    cases d
    · rw [if_neg (by decide)]
      go_enter Tryz.func41, Tryz.ntmps41
      go_wp2_with fail
      go_ret
      exact ⟨rfl, rfl⟩
    · rw [if_pos rfl]
      go_enter Tryz.func41, Tryz.ntmps41
      have B0 := Lib.hid (Below.refl w.heap.size w)
      go_wp2_with fail
      refine (R.out _ _).mono ?_
      rintro e wp ⟨rfl, rfl⟩
      go_wp2_with fail
      go_ret
      exact ⟨rfl, rfl⟩
  · rw [if_pos (beq_iff_eq.1 z)]
    go_enter Tryz.func41, Tryz.ntmps41
    have B0 := Lib.hid (Below.refl w.heap.size w)
    go_wp2_with fail
    refine (R.out _ _).mono ?_
    rintro e wp ⟨rfl, rfl⟩
    go_wp2_with fail
    go_ret
    exact ⟨rfl, rfl⟩
set_option maxRecDepth 100000 in
set_option maxHeartbeats 8000000 in
theorem xformed_any : Calls Tryz.prog 42 #[.pointer (some ⟨B, 0, none⟩)] w fun e w' => e = .returned (refV (if fitsQ s q then 0 else 1) false) ∧ Below w.heap.size w w' := by
  have H := Lib.hid h
  have R := Lib.hid (fun W => refuse_any 1 W)
  have O := fun W => powner_any q.dv W
  unfold ownV ownE at O
  have K1 := fun W => check_any q.pt W
  have K2 := fun W => check_any q.vf W
  have K3 := fun W => check_any q.lf W
  unfold chk at K1 K2 K3
  have FH : fitsQ s q = (devB q.dv && decide (q.dv.tdiv 8 = s.p) && elemB q.pt && elemB q.vf && elemB q.lf) := rfl
  obtain ⟨F, hF⟩ : ∃ y, fitsQ s q = y := ⟨_, rfl⟩
  obtain ⟨db, hdb⟩ : ∃ y, devB q.dv = y := ⟨_, rfl⟩
  obtain ⟨ow, how⟩ : ∃ y, q.dv.tdiv 8 = y := ⟨_, rfl⟩
  obtain ⟨b1, hb1⟩ : ∃ y, elemB q.pt = y := ⟨_, rfl⟩
  obtain ⟨b2, hb2⟩ : ∃ y, elemB q.vf = y := ⟨_, rfl⟩
  obtain ⟨b3, hb3⟩ : ∃ y, elemB q.lf = y := ⟨_, rfl⟩
  rw [hF, hdb, how, hb1, hb2, hb3] at FH
  rw [hdb, how] at O
  rw [hb1] at K1
  rw [hb2] at K2
  rw [hb3] at K3
  rw [hF]
  have OH := Lib.hid O; have H1 := Lib.hid K1; have H2 := Lib.hid K2; have H3 := Lib.hid K3
  replace FH := Lib.hid FH
  clear h O K1 K2 K3 hF hdb how hb1 hb2 hb3
  go_enter Tryz.func42, Tryz.ntmps42
  have B0 := Lib.hid (Below.refl w.heap.size w)
  have x7 := ex_dv H.out
  go_wp2_with fail
  refine (OH.out _).mono ?_
  rintro e wp ⟨rfl, rfl⟩
  clear x7 OH
  cases db
  · obtain rfl : F = false := FH.out
    clear FH
    go_wp2_with fail
    go_wp2_with fail
    refine (R.out _).mono ?_
    rintro e wp ⟨rfl, rfl⟩
    go_wp2_with fail
    go_ret
    exact ⟨rfl, B0.out⟩
  have x3 := ex_p H.out
  have x6 := ex_pt H.out
  obtain ⟨p, hp⟩ : ∃ y, s.p = y := ⟨_, rfl⟩
  rw [hp] at x3 FH
  clear hp
  cases z0 : (ow == p)
  · have z1 := bne_true z0
    obtain rfl : F = false := by rw [FH.out, dec_false z0]; rfl
    clear FH
    go_wp2_with fail
    go_wp2_with fail
    refine (R.out _).mono ?_
    rintro e wp ⟨rfl, rfl⟩
    go_wp2_with fail
    go_ret
    exact ⟨rfl, B0.out⟩
  have z1 := bne_false z0
  have z2 := Lib.hid (dec_true z0)
  rw [z2.out] at FH
  go_wp2_with fail
  refine (H1.out _).mono ?_
  rintro e w1 ⟨rfl, b1⟩
  have B1 := Lib.hid (B0.out.trans (b1.mono B0.out.size))
  clear b1 B0
  clear x3 x6
  cases b1
  · obtain rfl : F = false := FH.out
    clear FH
    go_wp2_with fail
    go_wp2_with fail
    refine (R.out _).mono ?_
    rintro e wp ⟨rfl, rfl⟩
    go_wp2_with fail
    go_ret
    exact ⟨rfl, B1.out⟩
  have x8 := ex_vf (H.out.below B1.out)
  go_wp2_with fail
  refine (H2.out _).mono ?_
  rintro e w2 ⟨rfl, b2⟩
  have B2 := Lib.hid (B1.out.trans (b2.mono B1.out.size))
  clear b2 B1
  clear x8
  cases b2
  · obtain rfl : F = false := FH.out
    clear FH
    go_wp2_with fail
    go_wp2_with fail
    refine (R.out _).mono ?_
    rintro e wp ⟨rfl, rfl⟩
    go_wp2_with fail
    go_ret
    exact ⟨rfl, B2.out⟩
  have x9 := ex_lf (H.out.below B2.out)
  go_wp2_with fail
  refine (H3.out _).mono ?_
  rintro e w3 ⟨rfl, b3⟩
  have B3 := Lib.hid (B2.out.trans (b3.mono B2.out.size))
  clear b3 B2
  clear x9
  cases b3
  · obtain rfl : F = false := FH.out
    clear FH
    go_wp2_with fail
    go_wp2_with fail
    refine (R.out _).mono ?_
    rintro e wp ⟨rfl, rfl⟩
    go_wp2_with fail
    go_ret
    exact ⟨rfl, B3.out⟩
  · obtain rfl : F = true := FH.out
    clear FH
    go_wp2_with fail
    go_ret
    exact ⟨rfl, B3.out⟩
end
end Go.Proofs.YtpekhdahamloaaaGreatDoor

namespace Go.Proofs.YtpekhdahamloaaaGreatDoor
open Go.RowKit Cod
theorem exC_set (s : Ss) (q : Rq) (v b x : Int) (c c2 : Ct) : ∀ i, i < 53 → (if 45 ≤ i ∧ i < 45 + 8 then ctC c2 (i - 45) else exC s q v b x c i) = exC s q v b x c2 i := by
  intro i hi
  by_cases h : 45 ≤ i
  · rw [if_pos ⟨h, hi⟩]
    unfold exC
    rw [if_neg (by omega), if_neg (by omega), if_neg (by omega), if_neg (by omega), if_neg (by omega)]
  · rw [if_neg (by omega)]
    unfold exC
    by_cases h1 : i < 6
    · rw [if_pos h1, if_pos h1]
    rw [if_neg h1, if_neg h1]
    by_cases h2 : i < 42
    · rw [if_pos h2, if_pos h2]
    rw [if_neg h2, if_neg h2]
    by_cases h3 : i = 42
    · rw [if_pos h3, if_pos h3]
    rw [if_neg h3, if_neg h3]
    by_cases h4 : i = 43
    · rw [if_pos h4, if_pos h4]
    rw [if_neg h4, if_neg h4]
    rw [if_pos (by omega), if_pos (by omega)]
theorem exC_sd (s : Ss) (q : Rq) (v b x : Int) (c : Ct) : ∀ j, j < 3 → exC s q v b x c (0 + j) = sideF s.r s.c s.x j := fun j hj => by
  match j, hj with
  | 0, _ => rfl
  | 1, _ => rfl
  | 2, _ => rfl
section
variable (s : Ss) (q : Rq) (v b x : Int) (c : Ct) (B : Nat) (w0 : World) (h : RowV w0 B 84 53 (exC s q v b x c))
include h
set_option maxRecDepth 100000 in
set_option maxHeartbeats 8000000 in
theorem xcertify_any (hc : (certQ q v b).wf) (hT : Tab w0) : Calls Tryz.prog 43 #[.pointer (some ⟨B, 0, none⟩)] w0 fun e w' => e = .returned (refV (crtE (certQ q v b) x) false) ∧ RowV w' B 84 53 (exC s q v b x (crtV (certQ q v b) x)) ∧ OnlyB B w0 w' := by
  have H := Lib.hid h
  have HL := Lib.hid h.lt
  have T0 := Lib.hid hT
  have R := Lib.hid (fun e W => refuse_any e W)
  have C := fun W (hT : Tab W) => pcertify_any 2 q.dv q.vf q.lf v b x hc W hT
  obtain ⟨V, hV⟩ : ∃ y, crtV (certQ q v b) x = y := ⟨_, rfl⟩
  obtain ⟨E, hE⟩ : ∃ y, crtE (certQ q v b) x = y := ⟨_, rfl⟩
  rw [show crtV (ctN 2 q.dv q.vf q.lf v b) x = V from hV, show crtE (ctN 2 q.dv q.vf q.lf v b) x = E from hE] at C
  rw [hV, hE]
  have CH := Lib.hid C
  clear h hc hT C hV hE
  go_enter Tryz.func43, Tryz.ntmps43
  go_upto_region 1 with fail
  go_cut [3, 4] (fun s3 s4 wx => ∃ bk, s3 = .pointer (some ⟨bk, 0, none⟩) ∧ s4 = .int .i64 E ∧ Hid (RowV wx bk 44 8 (ctC V)) ∧ Hid (Below w0.heap.size w0 wx))
  case first =>
    refine Tc.wp_region_plan (keep w0.heap.size) 33 [] (.fl 0 (.fl 1 (.fl 2 (.fl 3 (.fl 4 (.fl 5 (.fl 6 (.fl 7 (.fl 8 (.fl 9 (.fl 10 (.fl 11 (.fl 12 (.fl 13 (.fl 14 (.fl 15 (.fl 16 (.fl 17 (.fl 18 (.fl 19 (.fl 20 (.fl 21 (.fl 22 (.fl 23 (.fl 24 (.fl 25 (.fl 26 (.two 27 31 (.fp 28 (.fp 29 (.fp 30 (.one 31 (.one 32 .done))))) (.one 27 (.fp 28 (.fp 29 (.fp 30 (.one 32 .done))))))))))))))))))))))))))))))))) (by kernel_rfl) (by kernel_rfl) ?_
    intro w1 b1 e1
    have BB1 : Hid (Below w0.heap.size w0 w1) := Lib.hid b1
    clear b1 e1
    refine Tc.plan_floats [0, 1, 2, 3, 4, 5, 6, 7, 8, 9, 10, 11, 12, 13, 14, 15, 16, 17, 18, 19, 20, 21, 22, 23, 24, 25, 26] [_, _, _, _, _, _, _, _, _, _, _, _, _, _, _, _, _, _, _, _, _, _, _, _, _, _, _] rfl ?_
    dsimp only [List.getElem_toArray, List.getElem_cons_succ, List.getElem_cons_zero]
    repeat (first | go_big_quiet_skip | (go_big_quiet_want; go_big_quiet_op; first | go_big_quiet_on | (refine ⟨_, fun _ _ => rfl, ?_⟩; go_big_quiet_on)))
    refine wpQuiet_load_cell rfl 3 (.tmp 9) rfl B 7 rfl _ Tryz.underlying3 rfl (.int .i64 q.dv) (fun W hW => cell_keep (n := w0.heap.size) (ex_dv (H.out.below BB1.out)) (HL.out) hW) ?_
    simp only [Act.put, List.setIfInBounds_toArray, List.set_cons_succ, List.set_cons_zero]
    repeat (first | go_big_quiet_skip | (go_big_quiet_want; go_big_quiet_op; first | go_big_quiet_on | (refine ⟨_, fun _ _ => rfl, ?_⟩; go_big_quiet_on)))
    refine wpQuiet_load_cell rfl 3 (.tmp 14) rfl B 8 rfl _ Tryz.underlying3 rfl (.int .i64 q.vf) (fun W hW => cell_keep (n := w0.heap.size) (ex_vf (H.out.below BB1.out)) (HL.out) hW) ?_
    simp only [Act.put, List.setIfInBounds_toArray, List.set_cons_succ, List.set_cons_zero]
    repeat (first | go_big_quiet_skip | (go_big_quiet_want; go_big_quiet_op; first | go_big_quiet_on | (refine ⟨_, fun _ _ => rfl, ?_⟩; go_big_quiet_on)))
    refine wpQuiet_load_cell rfl 3 (.tmp 19) rfl B 9 rfl _ Tryz.underlying3 rfl (.int .i64 q.lf) (fun W hW => cell_keep (n := w0.heap.size) (ex_lf (H.out.below BB1.out)) (HL.out) hW) ?_
    simp only [Act.put, List.setIfInBounds_toArray, List.set_cons_succ, List.set_cons_zero]
    repeat (first | go_big_quiet_skip | (go_big_quiet_want; go_big_quiet_op; first | go_big_quiet_on | (refine ⟨_, fun _ _ => rfl, ?_⟩; go_big_quiet_on)))
    refine wpQuiet_load_cell rfl 3 (.tmp 23) rfl B 42 rfl _ Tryz.underlying3 rfl (.int .i64 v) (fun W hW => cell_keep (n := w0.heap.size) (ex_v (H.out.below BB1.out)) (HL.out) hW) ?_
    simp only [Act.put, List.setIfInBounds_toArray, List.set_cons_succ, List.set_cons_zero]
    repeat (first | go_big_quiet_skip | (go_big_quiet_want; go_big_quiet_op; first | go_big_quiet_on | (refine ⟨_, fun _ _ => rfl, ?_⟩; go_big_quiet_on)))
    refine wpQuiet_load_cell rfl 3 (.tmp 27) rfl B 43 rfl _ Tryz.underlying3 rfl (.int .i64 b) (fun W hW => cell_keep (n := w0.heap.size) (ex_b (H.out.below BB1.out)) (HL.out) hW) ?_
    simp only [Act.put, List.setIfInBounds_toArray, List.set_cons_succ, List.set_cons_zero]
    repeat (first | go_big_quiet_skip | (go_big_quiet_want; go_big_quiet_op; first | go_big_quiet_on | (refine ⟨_, fun _ _ => rfl, ?_⟩; go_big_quiet_on)))
    refine wpQuiet_load_cell rfl 3 (.tmp 31) rfl B 44 rfl _ Tryz.underlying3 rfl (.int .i64 x) (fun W hW => cell_keep (n := w0.heap.size) (ex_k (H.out.below BB1.out)) (HL.out) hW) ?_
    simp only [Act.put, List.setIfInBounds_toArray, List.set_cons_succ, List.set_cons_zero]
    repeat (first | go_big_quiet_skip | (go_big_quiet_want; go_big_quiet_op; first | go_big_quiet_on | (refine ⟨_, fun _ _ => rfl, ?_⟩; go_big_quiet_on)))
    refine wpQuiet_nil ?_
    refine Tc.plan_two 27 31 rfl rfl (fun K hK => ?_) (fun K hK => ?_)
    · go_wp2_with fail
      refine (CH.out _ (T0.out.below BB1.out)).mono ?_
      rintro e w2 ⟨rfl, b2⟩
      have bb := b2.mono BB1.out.size
      have BB2 := Lib.hid (BB1.out.trans bb)
      go_wp2_with fail
      refine hK _ _ (keep_below bb) ?_
      clear hK K bb b2 BB1
      refine Tc.plan_pures [28, 29, 30] [_, _, _] rfl ?_
      dsimp only [List.getElem_toArray, List.getElem_cons_succ, List.getElem_cons_zero]
      repeat (first | go_big_quiet_skip | (go_big_quiet_want; go_big_quiet_op; first | go_big_quiet_on | (refine ⟨_, fun _ _ => rfl, ?_⟩; go_big_quiet_on)))
      refine wpQuiet_nil ?_
      have BL2 := Lib.hid BB2.out.size
      refine Tc.plan_one 31 rfl (fun K hK => ?_)
      go_wp2_with fail
      have al := (Below.refl _ w2).alloc (Nat.le_refl _) (.cells #[.int .i64 0, .int .i64 0, .int .i64 0, .int .i64 0, .int .i64 0, .int .i64 0, .int .i64 0, .int .i64 0] 44)
      have R := Lib.hid (show RowV (w2.alloc (.cells #[.int .i64 0, .int .i64 0, .int .i64 0, .int .i64 0, .int .i64 0, .int .i64 0, .int .i64 0, .int .i64 0] 44)) w2.heap.size 44 8 (ctC ct0) from RowV.new w2 44 8 (ctC ct0))
      have RL : Hid (w2.heap.size < (w2.alloc (.cells #[.int .i64 0, .int .i64 0, .int .i64 0, .int .i64 0, .int .i64 0, .int .i64 0, .int .i64 0, .int .i64 0] 44)).heap.size) := Lib.hid (by rw [World.size_alloc]; omega)
      refine hK _ _ (keep_below (al.mono BB2.out.size)) ?_
      obtain ⟨w3, hw⟩ : ∃ y, w2.alloc (.cells #[.int .i64 0, .int .i64 0, .int .i64 0, .int .i64 0, .int .i64 0, .int .i64 0, .int .i64 0, .int .i64 0] 44) = y := ⟨_, rfl⟩
      rw [hw] at al R RL ⊢
      have BB3 := Lib.hid (BB2.out.trans (al.mono BB2.out.size))
      have Z2 := RL
      have Z3 := R
      clear hK K al hw R RL BB2
      refine Tc.plan_one 32 rfl (fun K hK => ?_)
      refine wpList_store_rowV (o := ⟨none, .store 44 (.tmp 3) (.tmp 34), _, _, _, _⟩) rfl 44 (.tmp 3) (.tmp 34) rfl w2.heap.size rfl 8 44 _ (ctC V) rfl Z3.out (by kernel_rfl) (fun j _ => ctC_one V j) ?_
      intro w4 S4 O4
      have bb := O4.out.below (K := w0.heap.size) (BL2.out) BB3.out.size
      have BB4 := Lib.hid (BB3.out.trans bb)
      refine (show wpList _ _ _ [] _ _ from hK _ _ (keep_below bb) ?_)
      clear hK K bb O4 BB3
      refine Tc.plan_done (l := [_]) rfl (fun K hK => ?_)
      go_wp2_with fail
      go_meet
      exact ⟨_, rfl, rfl, S4, BB4⟩
    · have BL1 := Lib.hid BB1.out.size
      go_wp2_with fail
      have al := (Below.refl _ w1).alloc (Nat.le_refl _) (.cells #[.int .i64 0, .int .i64 0, .int .i64 0, .int .i64 0, .int .i64 0, .int .i64 0, .int .i64 0, .int .i64 0] 44)
      have R := Lib.hid (show RowV (w1.alloc (.cells #[.int .i64 0, .int .i64 0, .int .i64 0, .int .i64 0, .int .i64 0, .int .i64 0, .int .i64 0, .int .i64 0] 44)) w1.heap.size 44 8 (ctC ct0) from RowV.new w1 44 8 (ctC ct0))
      have RL : Hid (w1.heap.size < (w1.alloc (.cells #[.int .i64 0, .int .i64 0, .int .i64 0, .int .i64 0, .int .i64 0, .int .i64 0, .int .i64 0, .int .i64 0] 44)).heap.size) := Lib.hid (by rw [World.size_alloc]; omega)
      refine hK _ _ (keep_below (al.mono BB1.out.size)) ?_
      obtain ⟨w2, hw⟩ : ∃ y, w1.alloc (.cells #[.int .i64 0, .int .i64 0, .int .i64 0, .int .i64 0, .int .i64 0, .int .i64 0, .int .i64 0, .int .i64 0] 44) = y := ⟨_, rfl⟩
      rw [hw] at al R RL ⊢
      have BB2 := Lib.hid (BB1.out.trans (al.mono BB1.out.size))
      have Z1 := RL
      have Z2 := R
      clear hK K al hw R RL BB1
      refine Tc.plan_one 27 rfl (fun K hK => ?_)
      go_wp2_with fail
      refine (CH.out _ (T0.out.below BB2.out)).mono ?_
      rintro e w3 ⟨rfl, b3⟩
      have bb := b3.mono BB2.out.size
      have BB3 := Lib.hid (BB2.out.trans bb)
      have Z3 := Lib.hid (Z2.out.below b3)
      go_wp2_with fail
      refine hK _ _ (keep_below bb) ?_
      clear hK K bb b3 BB2 Z2
      refine Tc.plan_pures [28, 29, 30] [_, _, _] rfl ?_
      dsimp only [List.getElem_toArray, List.getElem_cons_succ, List.getElem_cons_zero]
      repeat (first | go_big_quiet_skip | (go_big_quiet_want; go_big_quiet_op; first | go_big_quiet_on | (refine ⟨_, fun _ _ => rfl, ?_⟩; go_big_quiet_on)))
      refine wpQuiet_nil ?_
      refine Tc.plan_one 32 rfl (fun K hK => ?_)
      refine wpList_store_rowV (o := ⟨none, .store 44 (.tmp 3) (.tmp 34), _, _, _, _⟩) rfl 44 (.tmp 3) (.tmp 34) rfl w1.heap.size rfl 8 44 _ (ctC V) rfl Z3.out (by kernel_rfl) (fun j _ => ctC_one V j) ?_
      intro w4 S4 O4
      have bb := O4.out.below (K := w0.heap.size) (BL1.out) BB3.out.size
      have BB4 := Lib.hid (BB3.out.trans bb)
      refine (show wpList _ _ _ [] _ _ from hK _ _ (keep_below bb) ?_)
      clear hK K bb O4 BB3
      refine Tc.plan_done (l := [_]) rfl (fun K hK => ?_)
      go_wp2_with fail
      go_meet
      exact ⟨_, rfl, rfl, S4, BB4⟩
  case rest =>
    rename World => w1
    obtain ⟨bk, rfl, rfl, Z1, B1⟩ := hcut
    have H1 := Lib.hid (H.out.below B1.out)
    go_wp2_with (first | ((with_reducible (show wpList _ _ _ (Oper.mk (some 37) _ _ _ _ _ :: _) _ _)); refine Hid.out ?_))
    refine Lib.hid ?_
    refine wpList_load_rowV rfl 44 (.tmp 3) rfl bk rfl 8 _ _ (Z1.out) _ Tryz.underlying44 rfl (by kernel_rfl) ?_
    go_wp2_with (first | ((with_reducible (show wpList _ _ _ (Oper.mk none _ _ _ _ _ :: _) _ _)); refine Hid.out ?_))
    refine Lib.hid ?_
    refine wpList_store_part rfl 44 (.tmp 39) (.tmp 37) rfl B 45 rfl 53 8 _ _ (ctC V) (exC s q v b x V) rfl H1.out (by decide) (by kernel_rfl) (fun j _ => ctC_one V j) (exC_set s q v b x c V) ?_
    intro w2 H2 O2
    have Y2 := Lib.hid ((OnlyB.of_below (B := B) B1.out).trans O2.out)
    clear H1 O2 B1 Z1 H
    go_wp2_with fail
    refine (R.out _ _).mono ?_
    rintro e wp ⟨rfl, rfl⟩
    go_wp2_with fail
    go_ret
    exact ⟨rfl, H2.out, Y2.out⟩
set_option maxRecDepth 100000 in
set_option maxHeartbeats 8000000 in
theorem xproved_any (hq : q.wf) (hS : sharedE s.r s.c s.x q.pt = 0) (hT : Tab w0) : Calls Tryz.prog 44 #[.pointer (some ⟨B, 0, none⟩)] w0 fun e w' => e = .returned (refV (if q.pf = wantL s q then 0 else 380) true) ∧ Below w0.heap.size w0 w' := by
  have H := Lib.hid h
  have HL := Lib.hid h.lt
  have T0 := Lib.hid hT
  have C1 := fun W (hT : Tab W) => shared_any s.r s.c s.x q.pt W hT
  have KL := Lib.hid (sharedL_len s.r s.c s.x q.pt)
  have C2 : ∀ v W, BytesAt W v (sharedL s.r s.c s.x q.pt ++ [(2 : UInt8)]) → Tab W → Calls Tryz.prog 27 #[.string ⟨#[112, 114, 111, 111, 102]⟩, v] W fun e w' => e = .returned (digV (proofL (sharedL s.r s.c s.x q.pt) 2)) ∧ Below W.heap.size W w' := fun v W hv hT => tagged_any ⟨#[112, 114, 111, 111, 102]⟩ v _ W (by decide) (by rw [List.length_append, KL.out, List.length_singleton]; decide) hv hT
  have C3 := fun W (hT : Tab W) => pproof_any (proofL (sharedL s.r s.c s.x q.pt) 2) (proofL_len _ _) q hq W hT
  have WL : (wantL s q).length = 32 := wantL_len s q
  have PL := hq.pf
  rw [show prfL (proofL (sharedL s.r s.c s.x q.pt) 2) q.dv q.vf q.lf = wantL s q from rfl] at C3
  rw [hS] at C1
  have hb1 : ∀ W B, RowV W B 54 32 (fun i => vB ((sharedL s.r s.c s.x q.pt).getD i 0)) → BytesAt W (.slice (some ⟨B, 0, none⟩) 32 32) (sharedL s.r s.c s.x q.pt) := fun W B h => RowV.bytesAt h KL.out (by decide) (by decide)
  obtain ⟨KY, hKY⟩ : ∃ y, sharedL s.r s.c s.x q.pt = y := ⟨_, rfl⟩
  obtain ⟨P, hP⟩ : ∃ y, proofL KY 2 = y := ⟨_, rfl⟩
  obtain ⟨L, hL⟩ : ∃ y, wantL s q = y := ⟨_, rfl⟩
  rw [hKY] at C1 C2 C3 hb1 KL
  rw [hP] at C2 C3
  rw [hL] at C3 WL ⊢
  obtain ⟨rv, hrv⟩ : ∃ y, refV (if q.pf = L then 0 else 380) true = y := ⟨_, rfl⟩
  have RV := Lib.hid hrv
  rw [hrv]
  have ne : ∀ W, (binOp .neq 35 (.agg (rowF 32 (dgF q.pf))) (digV L)).run Tryz.prog W = .ok (.bool (!(q.pf == L))) W := fun W => neq_dig W 35 Tryz.underlying35 PL WL
  obtain ⟨eb, heb⟩ : ∃ y, (q.pf == L) = y := ⟨_, rfl⟩
  rw [heb] at ne
  have NE := Lib.hid ne
  have EB := Lib.hid heb
  have gu : ∀ x y W, (eqGuard .neq 35 x y (.agg (rowF 32 (dgF q.pf))) (digV L)).run Tryz.prog W = .ok () W := fun x y W => guard_dig W .neq 35 x y q.pf L (by kernel_rfl)
  have GU := Lib.hid gu
  have H1 := Lib.hid C1; have H2 := Lib.hid C2; have H3 := Lib.hid C3; have HB1 := Lib.hid hb1
  clear h hq hS hT C1 C2 C3 hb1 hKY hP hL WL PL ne gu heb hrv
  go_enter Tryz.func44, Tryz.ntmps44
  go_upto_region 1 with fail
  go_cut [3, 4] (fun s3 s4 wx => ∃ bk, s3 = .pointer (some ⟨bk, 0, none⟩) ∧ s4 = .int .i64 0 ∧ Hid (RowV wx bk 54 32 (fun i => vB (KY.getD i 0))) ∧ Hid (Below w0.heap.size w0 wx))
  case first =>
    clear H2 H3 NE GU HB1 EB RV
    refine Tc.wp_region_plan (keep w0.heap.size) 16 [] (.fl 0 (.fl 1 (.fl 2 (.fl 3 (.fl 4 (.fl 5 (.fl 6 (.fl 7 (.fl 8 (.fl 9 (.two 10 14 (.fp 11 (.fp 12 (.fp 13 (.one 14 (.one 15 .done))))) (.one 10 (.fp 11 (.fp 12 (.fp 13 (.one 15 .done)))))))))))))))) (by kernel_rfl) (by kernel_rfl) ?_
    intro w1 b1 e1
    have BB1 : Hid (Below w0.heap.size w0 w1) := Lib.hid b1
    clear b1 e1
    refine Tc.plan_floats [0, 1, 2, 3, 4, 5, 6, 7, 8, 9] [_, _, _, _, _, _, _, _, _, _] rfl ?_
    dsimp only [List.getElem_toArray, List.getElem_cons_succ, List.getElem_cons_zero]
    repeat (first | go_big_quiet_skip | (go_big_quiet_want; go_big_quiet_op; first | go_big_quiet_on | (refine ⟨_, fun _ _ => rfl, ?_⟩; go_big_quiet_on)))
    refine wpQuiet_load_part rfl 23 (.tmp 9) rfl B 0 rfl 53 3 _ (exC s q v b x c) (sideF s.r s.c s.x) (fun W hW => row_keep (n := w0.heap.size) ((H.out).below BB1.out) (HL.out) hW) (by decide) (exC_sd s q v b x c) _ Tryz.underlying23 rfl (by kernel_rfl) ?_
    simp only [Act.put, List.setIfInBounds_toArray, List.set_cons_succ, List.set_cons_zero]
    repeat (first | go_big_quiet_skip | (go_big_quiet_want; go_big_quiet_op; first | go_big_quiet_on | (refine ⟨_, fun _ _ => rfl, ?_⟩; go_big_quiet_on)))
    refine wpQuiet_load_cell rfl 3 (.tmp 14) rfl B 6 rfl _ Tryz.underlying3 rfl (.int .i64 q.pt) (fun W hW => cell_keep (n := w0.heap.size) (ex_pt (H.out.below BB1.out)) (HL.out) hW) ?_
    simp only [Act.put, List.setIfInBounds_toArray, List.set_cons_succ, List.set_cons_zero]
    repeat (first | go_big_quiet_skip | (go_big_quiet_want; go_big_quiet_op; first | go_big_quiet_on | (refine ⟨_, fun _ _ => rfl, ?_⟩; go_big_quiet_on)))
    refine wpQuiet_nil ?_
    refine Tc.plan_two 10 14 rfl rfl (fun K hK => ?_) (fun K hK => ?_)
    · go_wp2_with fail
      refine (H1.out _ (T0.out.below BB1.out)).mono ?_
      rintro e w2 ⟨rfl, b2⟩
      have bb := b2.mono BB1.out.size
      have BB2 := Lib.hid (BB1.out.trans bb)
      go_wp2_with fail
      refine hK _ _ (keep_below bb) ?_
      clear hK K bb b2 BB1
      refine Tc.plan_pures [11, 12, 13] [_, _, _] rfl ?_
      dsimp only [List.getElem_toArray, List.getElem_cons_succ, List.getElem_cons_zero]
      repeat (first | go_big_quiet_skip | (go_big_quiet_want; go_big_quiet_op; first | go_big_quiet_on | (refine ⟨_, fun _ _ => rfl, ?_⟩; go_big_quiet_on)))
      refine wpQuiet_nil ?_
      have BL2 := Lib.hid BB2.out.size
      refine Tc.plan_one 14 rfl (fun K hK => ?_)
      go_wp2_with fail
      have al := (Below.refl _ w2).alloc (Nat.le_refl _) (.cells #[.int .u8 0, .int .u8 0, .int .u8 0, .int .u8 0, .int .u8 0, .int .u8 0, .int .u8 0, .int .u8 0, .int .u8 0, .int .u8 0, .int .u8 0, .int .u8 0, .int .u8 0, .int .u8 0, .int .u8 0, .int .u8 0, .int .u8 0, .int .u8 0, .int .u8 0, .int .u8 0, .int .u8 0, .int .u8 0, .int .u8 0, .int .u8 0, .int .u8 0, .int .u8 0, .int .u8 0, .int .u8 0, .int .u8 0, .int .u8 0, .int .u8 0, .int .u8 0] 54)
      have R := Lib.hid (show RowV (w2.alloc (.cells #[.int .u8 0, .int .u8 0, .int .u8 0, .int .u8 0, .int .u8 0, .int .u8 0, .int .u8 0, .int .u8 0, .int .u8 0, .int .u8 0, .int .u8 0, .int .u8 0, .int .u8 0, .int .u8 0, .int .u8 0, .int .u8 0, .int .u8 0, .int .u8 0, .int .u8 0, .int .u8 0, .int .u8 0, .int .u8 0, .int .u8 0, .int .u8 0, .int .u8 0, .int .u8 0, .int .u8 0, .int .u8 0, .int .u8 0, .int .u8 0, .int .u8 0, .int .u8 0] 54)) w2.heap.size 54 32 (fun _ => vB 0) from RowV.new w2 54 32 (fun _ => vB 0))
      have RL : Hid (w2.heap.size < (w2.alloc (.cells #[.int .u8 0, .int .u8 0, .int .u8 0, .int .u8 0, .int .u8 0, .int .u8 0, .int .u8 0, .int .u8 0, .int .u8 0, .int .u8 0, .int .u8 0, .int .u8 0, .int .u8 0, .int .u8 0, .int .u8 0, .int .u8 0, .int .u8 0, .int .u8 0, .int .u8 0, .int .u8 0, .int .u8 0, .int .u8 0, .int .u8 0, .int .u8 0, .int .u8 0, .int .u8 0, .int .u8 0, .int .u8 0, .int .u8 0, .int .u8 0, .int .u8 0, .int .u8 0] 54)).heap.size) := Lib.hid (by rw [World.size_alloc]; omega)
      refine hK _ _ (keep_below (al.mono BB2.out.size)) ?_
      obtain ⟨w3, hw⟩ : ∃ y, w2.alloc (.cells #[.int .u8 0, .int .u8 0, .int .u8 0, .int .u8 0, .int .u8 0, .int .u8 0, .int .u8 0, .int .u8 0, .int .u8 0, .int .u8 0, .int .u8 0, .int .u8 0, .int .u8 0, .int .u8 0, .int .u8 0, .int .u8 0, .int .u8 0, .int .u8 0, .int .u8 0, .int .u8 0, .int .u8 0, .int .u8 0, .int .u8 0, .int .u8 0, .int .u8 0, .int .u8 0, .int .u8 0, .int .u8 0, .int .u8 0, .int .u8 0, .int .u8 0, .int .u8 0] 54) = y := ⟨_, rfl⟩
      rw [hw] at al R RL ⊢
      have BB3 := Lib.hid (BB2.out.trans (al.mono BB2.out.size))
      have Z2 := RL
      have Z3 := R
      clear hK K al hw R RL BB2
      refine Tc.plan_one 15 rfl (fun K hK => ?_)
      refine wpList_store_rowV (o := ⟨none, .store 54 (.tmp 3) (.tmp 17), _, _, _, _⟩) rfl 54 (.tmp 3) (.tmp 17) rfl w2.heap.size rfl 32 54 _ (fun i => vB (KY.getD i 0)) rfl Z3.out (by kernel_rfl) (fun _ _ => rfl) ?_
      intro w4 S4 O4
      have bb := O4.out.below (K := w0.heap.size) (BL2.out) BB3.out.size
      have BB4 := Lib.hid (BB3.out.trans bb)
      refine (show wpList _ _ _ [] _ _ from hK _ _ (keep_below bb) ?_)
      clear hK K bb O4 BB3
      refine Tc.plan_done (l := [_]) rfl (fun K hK => ?_)
      go_wp2_with fail
      go_meet
      exact ⟨_, rfl, rfl, S4, BB4⟩
    · have BL1 := Lib.hid BB1.out.size
      go_wp2_with fail
      have al := (Below.refl _ w1).alloc (Nat.le_refl _) (.cells #[.int .u8 0, .int .u8 0, .int .u8 0, .int .u8 0, .int .u8 0, .int .u8 0, .int .u8 0, .int .u8 0, .int .u8 0, .int .u8 0, .int .u8 0, .int .u8 0, .int .u8 0, .int .u8 0, .int .u8 0, .int .u8 0, .int .u8 0, .int .u8 0, .int .u8 0, .int .u8 0, .int .u8 0, .int .u8 0, .int .u8 0, .int .u8 0, .int .u8 0, .int .u8 0, .int .u8 0, .int .u8 0, .int .u8 0, .int .u8 0, .int .u8 0, .int .u8 0] 54)
      have R := Lib.hid (show RowV (w1.alloc (.cells #[.int .u8 0, .int .u8 0, .int .u8 0, .int .u8 0, .int .u8 0, .int .u8 0, .int .u8 0, .int .u8 0, .int .u8 0, .int .u8 0, .int .u8 0, .int .u8 0, .int .u8 0, .int .u8 0, .int .u8 0, .int .u8 0, .int .u8 0, .int .u8 0, .int .u8 0, .int .u8 0, .int .u8 0, .int .u8 0, .int .u8 0, .int .u8 0, .int .u8 0, .int .u8 0, .int .u8 0, .int .u8 0, .int .u8 0, .int .u8 0, .int .u8 0, .int .u8 0] 54)) w1.heap.size 54 32 (fun _ => vB 0) from RowV.new w1 54 32 (fun _ => vB 0))
      have RL : Hid (w1.heap.size < (w1.alloc (.cells #[.int .u8 0, .int .u8 0, .int .u8 0, .int .u8 0, .int .u8 0, .int .u8 0, .int .u8 0, .int .u8 0, .int .u8 0, .int .u8 0, .int .u8 0, .int .u8 0, .int .u8 0, .int .u8 0, .int .u8 0, .int .u8 0, .int .u8 0, .int .u8 0, .int .u8 0, .int .u8 0, .int .u8 0, .int .u8 0, .int .u8 0, .int .u8 0, .int .u8 0, .int .u8 0, .int .u8 0, .int .u8 0, .int .u8 0, .int .u8 0, .int .u8 0, .int .u8 0] 54)).heap.size) := Lib.hid (by rw [World.size_alloc]; omega)
      refine hK _ _ (keep_below (al.mono BB1.out.size)) ?_
      obtain ⟨w2, hw⟩ : ∃ y, w1.alloc (.cells #[.int .u8 0, .int .u8 0, .int .u8 0, .int .u8 0, .int .u8 0, .int .u8 0, .int .u8 0, .int .u8 0, .int .u8 0, .int .u8 0, .int .u8 0, .int .u8 0, .int .u8 0, .int .u8 0, .int .u8 0, .int .u8 0, .int .u8 0, .int .u8 0, .int .u8 0, .int .u8 0, .int .u8 0, .int .u8 0, .int .u8 0, .int .u8 0, .int .u8 0, .int .u8 0, .int .u8 0, .int .u8 0, .int .u8 0, .int .u8 0, .int .u8 0, .int .u8 0] 54) = y := ⟨_, rfl⟩
      rw [hw] at al R RL ⊢
      have BB2 := Lib.hid (BB1.out.trans (al.mono BB1.out.size))
      have Z1 := RL
      have Z2 := R
      clear hK K al hw R RL BB1
      refine Tc.plan_one 10 rfl (fun K hK => ?_)
      go_wp2_with fail
      refine (H1.out _ (T0.out.below BB2.out)).mono ?_
      rintro e w3 ⟨rfl, b3⟩
      have bb := b3.mono BB2.out.size
      have BB3 := Lib.hid (BB2.out.trans bb)
      have Z3 := Lib.hid (Z2.out.below b3)
      go_wp2_with fail
      refine hK _ _ (keep_below bb) ?_
      clear hK K bb b3 BB2 Z2
      refine Tc.plan_pures [11, 12, 13] [_, _, _] rfl ?_
      dsimp only [List.getElem_toArray, List.getElem_cons_succ, List.getElem_cons_zero]
      repeat (first | go_big_quiet_skip | (go_big_quiet_want; go_big_quiet_op; first | go_big_quiet_on | (refine ⟨_, fun _ _ => rfl, ?_⟩; go_big_quiet_on)))
      refine wpQuiet_nil ?_
      refine Tc.plan_one 15 rfl (fun K hK => ?_)
      refine wpList_store_rowV (o := ⟨none, .store 54 (.tmp 3) (.tmp 17), _, _, _, _⟩) rfl 54 (.tmp 3) (.tmp 17) rfl w1.heap.size rfl 32 54 _ (fun i => vB (KY.getD i 0)) rfl Z3.out (by kernel_rfl) (fun _ _ => rfl) ?_
      intro w4 S4 O4
      have bb := O4.out.below (K := w0.heap.size) (BL1.out) BB3.out.size
      have BB4 := Lib.hid (BB3.out.trans bb)
      refine (show wpList _ _ _ [] _ _ from hK _ _ (keep_below bb) ?_)
      clear hK K bb O4 BB3
      refine Tc.plan_done (l := [_]) rfl (fun K hK => ?_)
      go_wp2_with fail
      go_meet
      exact ⟨_, rfl, rfl, S4, BB4⟩
  case rest =>
    rename World => w1
    obtain ⟨bk, rfl, rfl, Z1, B1⟩ := hcut
    have E1 := Lib.hid (H.out.below B1.out)
    have EL := Lib.hid E1.out.lt
    have ZL := Lib.hid Z1.out.lt
    have T1 := Lib.hid (T0.out.below B1.out)
    clear H T0 H1 HL
    go_upto_region 4 with fail
    have ne := NE.out
    have gu := GU.out
    refine Tc.wp_region_plan (keep w1.heap.size) 15 [] (.fl 0 (.fl 1 (.fl 2 (.fl 3 (.fl 4 (.fl 5 (.fl 9 (.fl 10 (.fl 11 (.fl 12 (.one 6 (.one 7 (.one 8 (.one 13 (.fl 14 .done))))))))))))))) (by kernel_rfl) (by kernel_rfl) ?_
    intro w2 b2 e2
    have BB2 : Hid (Below w1.heap.size w1 w2) := Lib.hid b2
    clear b2 e2
    refine Tc.plan_floats [0, 1, 2, 3, 4, 5, 9, 10, 11, 12] [_, _, _, _, _, _, _, _, _, _] rfl ?_
    dsimp only [List.getElem_toArray, List.getElem_cons_succ, List.getElem_cons_zero]
    repeat (first | go_big_quiet_skip | (go_big_quiet_want; go_big_quiet_op; first | go_big_quiet_on | (refine ⟨_, fun _ _ => rfl, ?_⟩; go_big_quiet_on)))
    refine wpQuiet_load_part rfl 35 (.tmp 26) rfl B 10 rfl 53 32 _ (exC s q v b x c) (dgF q.pf) (fun W hW => row_keep (n := w1.heap.size) ((E1.out).below BB2.out) (EL.out) hW) (by decide) (exC_pf s q v b x c) _ Tryz.underlying35 rfl (by kernel_rfl) ?_
    simp only [Act.put, List.setIfInBounds_toArray, List.set_cons_succ, List.set_cons_zero]
    repeat (first | go_big_quiet_skip | (go_big_quiet_want; go_big_quiet_op; first | go_big_quiet_on | (refine ⟨_, fun _ _ => rfl, ?_⟩; go_big_quiet_on)))
    refine wpQuiet_load_part rfl 37 (.tmp 34) rfl B 6 rfl 53 36 _ (exC s q v b x c) (rqC q) (fun W hW => row_keep (n := w1.heap.size) ((E1.out).below BB2.out) (EL.out) hW) (by decide) (exC_rq s q v b x c) _ Tryz.underlying37 rfl (by kernel_rfl) ?_
    simp only [Act.put, List.setIfInBounds_toArray, List.set_cons_succ, List.set_cons_zero]
    repeat (first | go_big_quiet_skip | (go_big_quiet_want; go_big_quiet_op; first | go_big_quiet_on | (refine ⟨_, fun _ _ => rfl, ?_⟩; go_big_quiet_on)))
    refine wpQuiet_nil ?_
    refine Tc.plan_one 6 rfl (fun K hK => ?_)
    go_wp2_with fail
    have al := (Below.refl _ w2).alloc (Nat.le_refl _) (.cells #[.int .u8 2] 5)
    have R := Lib.hid (show BytesAt (w2.alloc (.cells #[.int .u8 2] 5)) (.slice (some ⟨w2.heap.size, 0, none⟩) 1 1) [(2 : UInt8)] from one_byte w2 2)
    have RL : Hid (w2.heap.size < (w2.alloc (.cells #[.int .u8 2] 5)).heap.size) := Lib.hid (by rw [World.size_alloc]; omega)
    refine hK _ _ (keep_below (al.mono BB2.out.size)) ?_
    obtain ⟨w3, hw⟩ : ∃ y, w2.alloc (.cells #[.int .u8 2] 5) = y := ⟨_, rfl⟩
    rw [hw] at al R RL ⊢
    have BB3 := Lib.hid (BB2.out.trans (al.mono BB2.out.size))
    have Z2 := RL
    have X3 := R
    clear hK K al hw R RL BB2
    refine Tc.plan_one 7 rfl (fun K hK => ?_)
    refine wpList_append_full rfl (.tmp 28) (.tmp 29) rfl (.slice (some ⟨bk, 0, none⟩) 32 32) (.slice (some ⟨w2.heap.size, 0, none⟩) 1 1) KY [(2 : UInt8)] ⟨bk, 0, none⟩ rfl (by rw [KL.out]) rfl (HB1.out _ _ (Z1.out.below BB3.out)) X3.out (by rw [KL.out]; decide) (Nat.succ_pos 0) (by rw [KL.out, List.length_singleton]; decide) ?_
    intro v4 w4 O4 b4
    have bb := b4.out.mono BB3.out.size
    have BB4 := Lib.hid (BB3.out.trans bb)
    have Y4 := Lib.hid (O4.out.bytesAt (by rw [List.length_append, KL.out, List.length_singleton]; decide))
    go_wp2_with fail
    refine hK _ _ (keep_below bb) ?_
    clear hK K bb b4 O4 BB3 X3
    refine Tc.plan_one 8 rfl (fun K hK => ?_)
    go_wp2_with fail
    refine (H2.out _ _ Y4.out (T1.out.below BB4.out)).mono ?_
    rintro e w5 ⟨rfl, b5⟩
    have bb := b5.mono BB4.out.size
    have BB5 := Lib.hid (BB4.out.trans bb)
    have Y5 := Lib.hid (Y4.out.below b5)
    go_wp2_with fail
    refine hK _ _ (keep_below bb) ?_
    clear hK K bb b5 BB4 Y4
    clear Y5
    refine Tc.plan_one 13 rfl (fun K hK => ?_)
    go_wp2_with fail
    refine (H3.out _ (T1.out.below BB5.out)).mono ?_
    rintro e w6 ⟨rfl, b6⟩
    have bb := b6.mono BB5.out.size
    have BB6 := Lib.hid (BB5.out.trans bb)
    go_wp2_with fail
    refine hK _ _ (keep_below bb) ?_
    clear hK K bb b6 BB5
    have BF := Lib.hid (B1.out.trans (BB6.out.mono B1.out.size))
    cases eb
    · refine Tc.plan_floats [14] [_] rfl ?_
      dsimp only [List.getElem_toArray, List.getElem_cons_succ, List.getElem_cons_zero]
      repeat (first | go_big_quiet_skip | (go_big_quiet_want; go_big_quiet_op; first | go_big_quiet_on | (refine ⟨_, fun _ _ => rfl, ?_⟩; go_big_quiet_on)))
      refine wpQuiet_nil ?_
      refine Tc.plan_done (l := []) rfl (fun K hK => ?_)
      go_wp2_with fail
      go_ret
      exact ⟨by rw [← RV.out, if_neg (beq_eq_false_iff_ne.1 EB.out)]; rfl, BF.out⟩
    · refine Tc.plan_floats [14] [_] rfl ?_
      dsimp only [List.getElem_toArray, List.getElem_cons_succ, List.getElem_cons_zero]
      repeat (first | go_big_quiet_skip | (go_big_quiet_want; go_big_quiet_op; first | go_big_quiet_on | (refine ⟨_, fun _ _ => rfl, ?_⟩; go_big_quiet_on)))
      refine wpQuiet_nil ?_
      refine Tc.plan_done (l := []) rfl (fun K hK => ?_)
      go_wp2_with fail
      go_ret
      exact ⟨by rw [← RV.out, if_pos (beq_iff_eq.1 EB.out)]; rfl, BF.out⟩
end
end Go.Proofs.YtpekhdahamloaaaGreatDoor

namespace Go.Proofs.YtpekhdahamloaaaGreatDoor
open Go.RowKit Cod
/-- block g holds listings -/
def LiB (w : World) (g N n : Nat) (f : Nat → Li) : Prop := 5 * n ≤ N ∧ ∃ h, RowV w g 71 N h ∧ ∀ i, i < n → ∀ c, c < 5 → h (5 * i + c) = liC (f i) c
theorem LiB.belowK {w w' : World} {g N n K : Nat} {f : Nat → Li} (h : LiB w g N n f) (hk : g < K) (b : Below K w w') : LiB w' g N n f := by
  obtain ⟨h1, h, h2, h3⟩ := h
  exact ⟨h1, h, h2.belowK hk b, h3⟩
theorem LiB.lt {w : World} {g N n : Nat} {f : Nat → Li} (h : LiB w g N n f) : g < w.heap.size := by obtain ⟨h1, h, h2, h3⟩ := h; exact h2.lt
theorem LiB.below {w w' : World} {g N n : Nat} {f : Nat → Li} (h : LiB w g N n f) (b : Below w.heap.size w w') : LiB w' g N n f := h.belowK h.lt b
end Go.Proofs.YtpekhdahamloaaaGreatDoor
