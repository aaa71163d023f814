/- PeopleSigned returns true for every input. No condition beyond the card's own: the two tables of package digest are tied to the program's text. -/
import Derived.Test.YtmmppibbglacdaaDoorPk52
import Derived.Test.YtmmppibbglacdaaDoorPk51
import Derived.Test.YtmmppibbglacdaaDoorPk43
import Derived.Test.YtmmppibbglacdaaDoorPk42
import Derived.Test.YtmmppibbglacdaaDoorPk35
import Derived.Test.YtmmppibbglacdaaDoorCards
namespace Go.Proofs.YtmmppibbglacdaaDoor.peopleSigned
open Go.ChangeShapes Go.WideShapes Go.ChangeAt Go.RowKit
open Go.ChangeMaps (open_string shut_string)
set_option linter.unusedVariables false
set_option linter.unusedSimpArgs false

section
open Cod
theorem lst_rebase {w0 w1 : World} {bv : Nat} (h : LstI w0 bv (.slice none 0 0) [] w0) (b : Below w0.heap.size w0 w1) : LstI w1 bv (.slice none 0 0) [] w1 :=
  ⟨OwnV.nil _ _, h.row.below b, OnlyB.refl _ _, Nat.lt_of_lt_of_le h.lt b.size⟩
set_option maxRecDepth 100000 in
set_option maxHeartbeats 8000000 in
theorem lmessage_any (c : Ct) (hc : c.wf) (w : World) (hT : Tab w) :
    Calls Tryd.prog 13 #[.agg (rowF 8 (ctC c))] w fun e w' => (∃ v, e = .returned v ∧ BytesAt w' v (msgC c)) ∧ Below w.heap.size w w' := by
  have HT := Lib.hid hT
  have EL := Lib.hid (encN_len (numsC c) (numsC_bd hc) (show (6 : Nat) ≤ 100 by decide))
  have EN := Lib.hid (fun v W (h : CodAt W v (lstT ((numsC c).map numT))) => enc_nums (numsC_bd hc) (show (6 : Nat) ≤ 100 by decide) h)
  have G := Lib.hid (fun v W (h : BytesAt W v (encN (numsC c))) (hT : Tab W) => tagged_any ⟨#[99, 101, 114, 116]⟩ v _ W (by decide) (Nat.le_trans EL.out (by decide)) h hT)
  have HB : Hid (∀ k, k < 6 → i64B ((numsC c).getD k 0)) := Lib.hid (by
    intro k hk
    match k, hk with
    | 0, _ => exact hc.k
    | 1, _ => exact hc.d
    | 2, _ => exact hc.v
    | 3, _ => exact hc.l
    | 4, _ => exact hc.n
    | 5, _ => exact hc.b)
  clear hT hc
  go_enter Tryd.func13, Tryd.ntmps13
  have B0 := Lib.hid (Below.refl w.heap.size w)
  go_upto_region 1 with fail
  obtain ⟨w1, hw1⟩ : ∃ y, w.alloc (.cells (rowF 8 (ctC c)) 27) = y := ⟨_, rfl⟩
  have b1 : Below w.heap.size w w1 := by rw [← hw1]; exact (Below.refl _ _).alloc (Nat.le_refl _) _
  have A1 : Hid (RowV w1 w.heap.size 27 8 (ctC c)) := Lib.hid (by rw [← hw1]; exact RowV.new w _ 8 (ctC c))
  have z1 : w.heap.size + 1 = w1.heap.size := by rw [← hw1]; exact (Array.size_push _).symm
  rw [hw1]
  (try rw [z1])
  have B1 := Lib.hid (B0.out.trans (b1.mono B0.out.size))
  clear b1 hw1 z1 B0
  go_upto_region 2 with fail
  have BV := Lib.hid (show w.heap.size < w1.heap.size from A1.out.lt)
  obtain ⟨w2, hw2⟩ : ∃ y, w1.alloc (.cells #[.int .i64 3, .int .i64 0, .string ⟨#[]⟩, .slice none 0 0] 75) = y := ⟨_, rfl⟩
  have b2 : Below w1.heap.size w1 w2 := by rw [← hw2]; exact (Below.refl _ _).alloc (Nat.le_refl _) _
  have I2 : Hid (LstI w2 w1.heap.size (.slice none 0 0) [] w2) := Lib.hid (by rw [← hw2]; exact LstI.start w1)
  have z2 : w1.heap.size + 1 = w2.heap.size := by rw [← hw2]; exact (Array.size_push _).symm
  rw [hw2]
  (try rw [z2])
  have B2 := Lib.hid (B1.out.trans (b2.mono B1.out.size))
  have A2 := Lib.hid (A1.out.below b2)
  clear b2 hw2 z2 B1 A1
  have x0 : _ = some (Value.int .i64 c.k) := ct_cell A2.out (i := 0) (by decide)
  have x1 : _ = some (Value.int .i64 c.d) := ct_cell A2.out (i := 1) (by decide)
  have x2 : _ = some (Value.int .i64 c.v) := ct_cell A2.out (i := 2) (by decide)
  have x3 : _ = some (Value.int .i64 c.l) := ct_cell A2.out (i := 3) (by decide)
  have x4 : _ = some (Value.int .i64 c.n) := ct_cell A2.out (i := 4) (by decide)
  have x5 : _ = some (Value.int .i64 c.b) := ct_cell A2.out (i := 5) (by decide)
  go_wp2_with fail
  clear x0 x1 x2 x3 x4 x5 A2
  have hv2 := (Below.refl _ w2).alloc (Nat.le_refl _) (.cells #[.int .i64 c.k, .int .i64 c.d, .int .i64 c.v, .int .i64 c.l, .int .i64 c.n, .int .i64 c.b] 3)
  have J := RowV.new w2 3 6 (fun j => .int .i64 ((numsC c).getD j 0))
  have J0 : RowV (w2.alloc (.cells #[.int .i64 c.k, .int .i64 c.d, .int .i64 c.v, .int .i64 c.l, .int .i64 c.n, .int .i64 c.b] 3)) w2.heap.size 3 6 (fun j => .int .i64 ((numsC c).getD j 0)) := J
  have J1 : Hid (∃ w2', Below w2.heap.size w2 w2' ∧ RowV w2' w2.heap.size 3 6 (fun j => .int .i64 ((numsC c).getD j 0)) ∧ w2.alloc (.cells #[.int .i64 c.k, .int .i64 c.d, .int .i64 c.v, .int .i64 c.l, .int .i64 c.n, .int .i64 c.b] 3) = w2') := Lib.hid ⟨_, hv2, J0, rfl⟩
  clear hv2 J J0
  obtain ⟨w20, b20, J20, hw20⟩ := J1.out
  rw [hw20]
  have I20 := Lib.hid (lst_rebase I2.out b20)
  have J20 := Lib.hid J20
  have B20 := Lib.hid (B2.out.trans (b20.mono B2.out.size))
  have NE := Lib.hid (show w2.heap.size ≠ w1.heap.size by have := I2.out.row.lt; omega)
  have SZ := Lib.hid (show w2.heap.size ≤ w20.heap.size from b20.size)
  clear hw20 b20 J1 I2
  go_wp2_with fail
  go_loopg [24] 6 (fun g s24 wx => ∃ (k : Nat) (sl : Value), k + g = 6 ∧ s24 = .int .i64 (k : Int) ∧ Hid (LstI w20 w1.heap.size sl (((numsC c).take k).map numT) wx))
  case atStart => exact ⟨0, .slice none 0 0, rfl, rfl, I20⟩
  case round =>
    obtain ⟨k, sl, hk, rfl, hI⟩ := hrel
    obtain ⟨w3, rfl⟩ : ∃ y, y = wr := ⟨_, rfl⟩
    have q0 : (0 : Int) ≤ (k : Int) := Int.natCast_nonneg k
    by_cases hlt : k < 6
    · have d0 : decide ((k : Int) < 6) = true := by rw [decide_eq_true_iff]; omega
      have d1 : decide (k < 6) = true := by rw [decide_eq_true_iff]; omega
      have y0 : w3.cell? ⟨w2.heap.size, k, none⟩ = some (.int .i64 ((numsC c).getD k 0)) := (hI.out.row' J20.out NE.out).cell hlt
      have p1 : (k : Int) < 6 := by omega
      have HE : Hid (((numsC c).take (k + 1)).map numT = ((numsC c).take k).map numT ++ [numT ((numsC c).getD k 0)]) := Lib.hid (by
        rw [take_succ_getD 0 _ (show k < (numsC c).length from hlt), List.map_append]; rfl)
      have HX := Lib.hid (HB.out k hlt)
      obtain ⟨x, hx⟩ : ∃ x, (numsC c).getD k 0 = x := ⟨_, rfl⟩
      rw [hx] at y0 HE HX
      have HLT := Lib.hid hlt
      obtain ⟨ts, hts⟩ : ∃ y, ((numsC c).take k).map numT = y := ⟨_, rfl⟩
      have TL : Hid (ts.length ≤ 1000000) := Lib.hid (by rw [← hts, List.length_map, List.length_take]; have : (numsC c).length = 6 := rfl; omega)
      rw [hts] at HE hI
      obtain ⟨sa, sn, sc, rfl⟩ := hI.out.slice
      have xs := hI.out.cell
      clear hx hlt hts
      go_wp2_with (first | ((with_reducible (show wpList _ _ _ (Oper.mk (some 33) _ _ _ _ _ :: _) _ _)); refine Hid.out ?_))
      refine Lib.hid ?_
      refine wpList_app_val rfl (.tmp 29) (.tmp 32) rfl w20.heap.size (.slice sa sn sc) ts rfl (hI.out.alloc _).own w3.heap.size 1 (valC 1 x ⟨#[]⟩ (.slice none 0 0)) (numT x) rfl (RowV.new w3 _ 4 (valC 1 x ⟨#[]⟩ (.slice none 0 0))) (leafS _ _ HX.out) TL.out (hI.out.alloc _).size ?_
      intro v9 w9 L9 s9
      obtain ⟨a9, n9, c9, rfl⟩ := L9.out.slice3
      obtain ⟨x9, f9⟩ := (hI.out.alloc _).mid s9.out
      have I9 := Lib.hid ((hI.out.alloc _).push L9.out s9.out)
      clear L9 s9 hI xs
      rw [← HE.out] at I9
      go_wp2_with fail
      go_roundg (gk - 1)
      case measure => have := HLT.out; omega
      case rel =>
        go_light
        exact ⟨k + 1, .slice a9 n9 c9, by have := HLT.out; omega, by go_num, I9⟩
    · obtain rfl : k = 6 := by omega
      clear hlt hk
      obtain ⟨sa, sn, sc, rfl⟩ := hI.out.slice
      have I3 : Hid (LstI w20 w1.heap.size (.slice sa sn sc) ((numsC c).map numT) w3) := hI
      have E := Lib.hid (EN.out _ w3 (I3.out.value (by rw [List.length_map]; show (6 : Nat) ≤ 1000000; decide)))
      have B3 := Lib.hid (B20.out.trans (I3.out.only.below (K := w.heap.size) (by have := BV.out; omega) (by have := BV.out; have := I20.out.lt; omega)))
      have T3 := Lib.hid (HT.out.below B3.out)
      clear hI q0 EN
      go_upto_region 7 with fail
      go_wp2_with (first | ((with_reducible (show wpList _ _ _ (Oper.mk (some 37) _ _ _ _ _ :: _) _ _)); refine Hid.out ?_))
      refine Lib.hid ?_
      refine wpList_load_rowV rfl 75 (.tmp 3) rfl w1.heap.size rfl 4 75 _ I3.out.row _ Tryd.underlying75 rfl (by kernel_rfl) ?_
      go_wp2_with fail
      refine E.out.mono ?_
      rintro e w4 ⟨⟨u, rfl, o4⟩, b4⟩
      have Y4 := Lib.hid (o4.bytesAt (by have := EL.out; omega))
      have B4 := Lib.hid (B3.out.trans (b4.mono B3.out.size))
      have T4 := Lib.hid (T3.out.below b4)
      clear o4 b4 E I3 T3 B3
      go_wp2_with fail
      refine (G.out _ _ Y4.out T4.out).mono ?_
      rintro e w5 ⟨rfl, b5⟩
      have B5 := Lib.hid (B4.out.trans (b5.mono B4.out.size))
      clear b5 T4 B4 Y4 G
      have Zr := Lib.hid (RowV.new w5 79 32 (fun _ => vB 0))
      go_upto_region 9 with ((with_reducible (show wpList _ _ _ (Oper.mk none _ _ _ _ _ :: _) _ _)); refine wpList_store_rowV (o := ⟨none, .store 79 (.tmp 8) (.tmp 42), _, _, _, _⟩) rfl 79 (.tmp 8) (.tmp 42) rfl w5.heap.size rfl 32 79 _ (fun j => vB ((msgC c).getD j 0)) rfl Zr.out (by kernel_rfl) (fun _ _ => rfl) ?_; intro w6 D6 o6)
      have b6 : Below w5.heap.size w5 w6 := ((Below.refl _ _).alloc (Nat.le_refl _) _).trans (o6.out.below (Nat.le_refl _) (by rw [World.size_alloc]; omega))
      have B6 := Lib.hid (B5.out.trans (b6.mono B5.out.size))
      clear b6 o6 Zr B5
      have Y := Lib.hid (D6.out.bytesAt (msgC_len c) (by decide) (by decide))
      go_wp2_with fail
      go_ret
      exact ⟨⟨_, rfl, Y.out⟩, B6.out⟩
end
def ownP (p d : Int) : Bool := devB d && decide (d.tdiv 8 = p)
theorem own_is (d p : Int) : ((ownE d == 0) && (ownV d == p)) = ownP p d := by
  unfold ownE ownV ownP
  cases h : devB d
  · simp
  · simp
    rw [Bool.eq_iff_iff]; simp
theorem acc_bad0 {ps : List Pe} {x : List Li} {c : Ct} (h : (accF ps x c).1 ≠ 0) : (accF ps x c).2 = li0 := by
  unfold accF at h ⊢
  split
  · rename_i h1
    rw [if_pos h1] at h
    split
    · rename_i h2
      rw [if_pos h2] at h
      cases hq : findP ps (c.d.tdiv 8) with
      | none => rfl
      | some q =>
        rw [hq] at h
        show (verF q x c).2 = li0
        replace h : (verF q x c).1 ≠ 0 := h
        unfold verF at h ⊢
        split
        · rename_i h3
          rw [if_pos h3] at h
          cases hk : keyF q x c with
          | none => rfl
          | some k =>
            rw [hk] at h
            show (if verB k (msgC c) c.r c.g = true then ((0 : Int), resF x c) else (222, li0)).2 = li0
            replace h : (if verB k (msgC c) c.r c.g = true then ((0 : Int), resF x c) else (222, li0)).1 ≠ 0 := h
            split
            · rename_i h4; rw [if_pos h4] at h; exact absurd rfl h
            · rfl
        · rfl
    · rfl
  · rfl
theorem acc_res {ps : List Pe} {x : List Li} {c : Ct} (h : (accF ps x c).1 = 0) : (accF ps x c).2.d = c.d ∧ (accF ps x c).2.n = c.n ∧ (accF ps x c).2.g = decide (c.k = 4) := by
  refine ⟨(accF_dev h).1, ?_⟩
  obtain ⟨h1, h2, p, h3, h4⟩ := accF_ok h
  rw [h4] at h ⊢
  rw [(verF_ok (kinds_form h2) h).1]
  unfold resF
  split
  · rename_i e; exact ⟨rfl, (decide_eq_true e).symm⟩
  · rename_i e; exact ⟨rfl, (decide_eq_false e).symm⟩
/-- the key that the listings give -/
def lawK (c : Ct) (x : List Li) : List (Int × Value) := if ownP (c.d.tdiv 8) c.b && (presB x c.b && !decide (c.b = c.d)) then [((lastL x c.b).v, .bool true)] else []
def metM (p : Int) (x : List Li) (m : List (Int × Value)) : Prop := ∀ d, IM.get m d = if ownP p d && (getL x d).isSome then some (.bool true) else none
theorem get_app (x : List Li) (z : Li) (d : Int) : getL (x ++ [z]) d = (getL x d).or (if z.d = d then some z else none) := by
  unfold getL
  rw [List.find?_append]
  congr 1
  by_cases h : z.d = d
  · rw [if_pos h, List.find?_cons_of_pos (by simp [h])]
  · rw [if_neg h, List.find?_cons_of_neg (by simp [h])]; rfl
theorem fam_app (x : List Li) (z : Li) (p : Int) : famB (x ++ [z]) p = (famB x p || ownP p z.d) := by unfold famB ownP; rw [List.any_append]; simp
theorem fam_get {x : List Li} {d p : Int} (h : ownP p d = true) (hm : (getL x d).isSome = true) : famB x p = true := by
  obtain ⟨z, hz⟩ := Option.isSome_iff_exists.1 hm
  unfold famB
  rw [List.any_eq_true]
  refine ⟨z, getL_mem hz, ?_⟩
  rw [getL_d hz]; exact h
theorem get_same {x : List Li} {z : Li} {d p : Int} (h : ownP p z.d = false ∨ (getL x z.d).isSome = true) (hd : ownP p d = true) : getL (x ++ [z]) d = getL x d := by
  rw [get_app]
  by_cases e : z.d = d
  · rcases h with h | h
    · rw [e, hd] at h; cases h
    · rw [e] at h
      obtain ⟨u, hu⟩ := Option.isSome_iff_exists.1 h
      rw [hu]; rfl
  · rw [if_neg e, Option.or_none]
theorem step_no {c : Ct} {x : List Li} {z : Li} (h : ownP (c.d.tdiv 8) z.d = false ∨ (getL x z.d).isSome = true) : lawK c (x ++ [z]) = lawK c x ∧ (∀ m, metM (c.d.tdiv 8) x m → metM (c.d.tdiv 8) (x ++ [z]) m) ∧ famB (x ++ [z]) (c.d.tdiv 8) = famB x (c.d.tdiv 8) := by
  refine ⟨?_, fun m hm d => ?_, ?_⟩
  · unfold lawK
    cases hb : ownP (c.d.tdiv 8) c.b
    · rfl
    · unfold presB lastL
      rw [get_same h hb]
  · rw [hm d]
    cases hb : ownP (c.d.tdiv 8) d
    · rfl
    · rw [get_same h hb]
  · rw [fam_app]
    rcases h with h | h
    · rw [h, Bool.or_false]
    · cases ho : ownP (c.d.tdiv 8) z.d
      · rw [Bool.or_false]
      · rw [fam_get ho h]; rfl
theorem step_yes {c : Ct} {x : List Li} {z : Li} (h1 : ownP (c.d.tdiv 8) z.d = true) (h2 : (getL x z.d).isSome = false) :
    lawK c (x ++ [z]) = (if !z.g && (decide (z.d = c.b) && !decide (c.b = c.d)) then IM.put (lawK c x) z.v (.bool true) else lawK c x) ∧ (∀ m, metM (c.d.tdiv 8) x m → metM (c.d.tdiv 8) (x ++ [z]) (IM.put m z.d (.bool true))) ∧ famB (x ++ [z]) (c.d.tdiv 8) = true := by
  have hn : getL x z.d = none := by rwa [Option.isSome_eq_false_iff, Option.isNone_iff_eq_none] at h2
  refine ⟨?_, fun m hm d => ?_, ?_⟩
  · by_cases e : z.d = c.b
    · have e0 : getL x c.b = none := by rw [← e]; exact hn
      have k0 : lawK c x = [] := by unfold lawK presB; rw [e0]; simp
      rw [k0]
      unfold lawK presB lastL
      rw [get_app, e0, if_pos e, ← e, h1]
      simp [IM.put]
    · rw [decide_eq_false e, Bool.false_and, Bool.and_false, if_neg Bool.false_ne_true]
      unfold lawK presB lastL
      rw [get_app, if_neg e, Option.or_none]
  · rw [get_app]
    by_cases e : z.d = d
    · subst e
      rw [IM.get_put_same, hn, if_pos rfl, h1]; rfl
    · rw [IM.get_put_other (fun h => e h.symm), hm d, if_neg e, Option.or_none]
  · rw [fam_app, h1, Bool.or_true]
theorem met_nil (p : Int) : metM p [] [] := fun d => by unfold getL; simp; rfl
/-- the key that must be among those of the law -/
theorem key_of {ps : List Pe} {x : List Li} {c : Ct} (h : (accF ps x c).1 = 0) : ∃ key, verB key (msgC c) c.r c.g = true ∧
    ((c.k = 1 ∧ famB x (c.d.tdiv 8) = false ∧ key = c.v) ∨ (c.k = 3 ∧ ∃ q, findP ps (c.d.tdiv 8) = some q ∧ key = q.r) ∨ (¬ c.k = 1 ∧ ¬ c.k = 3 ∧ lawK c x = [(key, .bool true)])) := by
  obtain ⟨h1, h2, q, h3, h4⟩ := accF_ok h
  rw [h4] at h
  have hk := kinds_form h2
  obtain ⟨_, _, key, h5, h6⟩ := verF_ok hk h
  refine ⟨key, h6, ?_⟩
  have hqi : q.i = c.d.tdiv 8 := by have := List.find?_some h3; simpa using this
  unfold keyF at h5
  have oth : (c.k = 2 ∨ c.k = 4) → ownP (c.d.tdiv 8) c.b = true ∧ ¬ c.b = c.d := fun hk => by
    unfold formC kindB at h2
    rw [Bool.and_eq_true] at h2
    have g2 := h2.2
    have key : otherB c.d c.b = true := by
      rcases hk with e | e
      · rw [if_neg (by omega), if_pos e, Bool.and_eq_true] at g2; exact g2.2
      · rw [if_neg (by omega), if_neg (by omega), if_neg (by omega), if_pos e] at g2
        simp only [Bool.and_eq_true] at g2; exact g2.2
    unfold otherB at key
    simp only [Bool.and_eq_true, Bool.not_eq_true', beq_eq_false_iff_ne] at key
    refine ⟨by unfold ownP; rw [key.1.1, key.2]; rfl, fun e => key.1.2 e⟩
  rcases hk with e | e | e | e
  · rw [if_pos e] at h5
    split at h5
    · cases h5
    · rename_i hf
      refine .inl ⟨e, ?_, (Option.some.inj h5).symm⟩
      rw [← hqi]; simpa using hf
  · rw [if_neg (by omega), if_pos e] at h5
    split at h5
    · rename_i hp
      obtain ⟨o1, o2⟩ := oth (.inl e)
      refine .inr (.inr ⟨by omega, by omega, ?_⟩)
      unfold lawK
      rw [o1, hp, decide_eq_false o2, ← Option.some.inj h5]; rfl
    · cases h5
  · rw [if_neg (by omega), if_neg (by omega), if_pos e] at h5
    exact .inr (.inl ⟨e, q, h3, (Option.some.inj h5).symm⟩)
  · rw [if_neg (by omega), if_neg (by omega), if_neg (by omega)] at h5
    split at h5
    · rename_i hp
      rw [Bool.and_eq_true] at hp
      obtain ⟨o1, o2⟩ := oth (.inr e)
      refine .inr (.inr ⟨by omega, by omega, ?_⟩)
      unfold lawK
      rw [o1, hp.1, decide_eq_false o2, ← Option.some.inj h5]; rfl
    · cases h5
def sgC (c : Ct) (j : Nat) : Value := match j with | 0 => .int .i64 c.r | _ => .int .i64 c.g
theorem mem_get {k : Int} {v : Value} : ∀ {m : List (Int × Value)}, IM.get m k = some v → k ∈ m.map Prod.fst
  | [], h => by unfold IM.get at h; cases h
  | (a, u) :: m, h => by
    unfold IM.get at h
    rw [List.map_cons, List.mem_cons]
    split at h
    · rename_i e; exact .inl e
    · exact .inr (mem_get h)
theorem zl0 (W : World) : (Instr.build 31 #[]).run Tryd.prog W = .ok (liA li0) W := by kernel_rfl
set_option maxRecDepth 100000 in
set_option maxHeartbeats 16000000 in
theorem walk {w : World} (v : Value) (pl : List (Pe × Sv)) (hg : ∀ a ∈ pl, goodPe w a) (hs : SlAt 5 w v pl.length (fun i => peA (pl.getD i (pe0, pe00))))
    (xv : Value) (x : List Li) (gx : ∀ a ∈ x, a.wf) (hx : SlAt 5 w xv x.length (fun i => liC (x.getD i li0))) (c : Ct) (wc : c.wf) (hT : Tab w) :
    Calls Tryd.prog 3 #[v, xv, .agg (rowF 8 (ctC c))] w fun e w' => e = .returned (.bool true) ∧ Below w.heap.size w w' := by
  have hmm := fun W => run_makeMap_plain (w := W) (P := Tryd.prog) 37
  have PW := pes_open hg hs
  obtain ⟨ps, hps⟩ : ∃ y, pl.map (·.1) = y := ⟨_, rfl⟩
  obtain ⟨us, hus⟩ : ∃ y : Nat → Sv, (fun i => (pl.getD i (pe0, pe00)).2) = y := ⟨_, rfl⟩
  rw [hps, hus] at PW
  have T0 := Lib.hid hT
  have XV := Lib.hid hx
  have xlen : (x.length : Int) ≤ 9223372036854775807 := by have := hx.len_le; omega
  have C1 := Lib.hid (fun W hT => sane37_any W hT)
  obtain ⟨xa, xc, rfl⟩ := hx.slice
  have C2 : Hid (∀ W, Below w.heap.size w W → Calls Tryd.prog 9 #[v, .slice xa x.length xc, .slice none 0 0] W fun e w' => e = .returned (.bool (fewB ps x.length 0)) ∧ Below W.heap.size W w') := Lib.hid (fun W b => few37_any ps us v xa none x.length xc 0 0 W ⟨PW.1.below b, fun i hi => ⟨(PW.2 i hi).1, fun h => ((PW.2 i hi).2.1 h).below b, (PW.2 i hi).2.2⟩⟩ xlen (by decide))
  have C4 : Hid (fewB ps x.length 0 = true → ∀ W, Below w.heap.size w W → Tab W → Calls Tryd.prog 10 #[v, .slice xa x.length xc, .agg (rowF 8 (ctC c))] W fun e w' => e = .returned (.tuple #[liA (accF ps x c).2, .int .i64 (accF ps x c).1]) ∧ Below W.heap.size W w') := Lib.hid (fun h W b t => paccept_any ps us v x (.slice xa x.length xc) c wc W ((PW.pes (fewB_iff h).2.2.2).below b) (Nat.le_trans (fewB_iff h).1 (by decide)) (hx.below b) (Nat.le_trans (fewB_iff h).2.1 (by decide)) t)
  have C5 : Hid (∀ d W, Calls Tryd.prog 11 #[.int .i64 d] W fun e w' => e = .returned (.tuple #[.int .i64 (ownV d), .int .i64 (ownE d)]) ∧ W = w') := Lib.hid (fun d W => powner_any d W)
  have C6 : Hid (∀ W, Tab W → Calls Tryd.prog 13 #[.agg (rowF 8 (ctC c))] W fun e w' => (∃ v, e = .returned v ∧ BytesAt w' v (msgC c)) ∧ Below W.heap.size W w') := Lib.hid (fun W t => lmessage_any c wc W t)
  have C7 : Hid (∀ key u W, BytesAt W u (msgC c) → Tab W → Calls Tryd.prog 12 #[.int .i64 key, u, .agg #[.int .i64 c.r, .int .i64 c.g]] W fun e w' => e = .returned (.bool (verB key (msgC c) c.r c.g)) ∧ Below W.heap.size W w') := Lib.hid (fun key u W h t => verify_any key c.r c.g u (msgC c) W (by rw [msgC_len]; decide) h t)
  have PL : Hid (fewB ps x.length 0 = true → ps.length ≤ 1000 ∧ x.length ≤ 12) := Lib.hid (fun h => ⟨Nat.le_trans (fewB_iff h).1 (by decide), (fewB_iff h).2.1⟩)
  have PV := Lib.hid PW.1
  have A0 := Lib.hid (@acc_bad0 ps x c)
  have A1 := Lib.hid (@acc_res ps x c)
  have A2 := Lib.hid (@key_of ps x c)
  have AD : Hid ((accF ps x c).1 = 0 → devB c.d = true) := Lib.hid (fun h => (accF_dev h).2)
  obtain ⟨F, hF⟩ : ∃ y, accF ps x c = y := ⟨_, rfl⟩
  rw [hF] at C4 A0 A1 A2 AD
  obtain ⟨E, y⟩ := F
  obtain ⟨fb, hfb⟩ : ∃ y, fewB ps x.length 0 = y := ⟨_, rfl⟩
  rw [hfb] at C2 C4 PL
  obtain ⟨n, hcn⟩ : ∃ y, x.length = y := ⟨_, rfl⟩
  rw [hcn] at C2 C4 XV PL ⊢
  have HN := Lib.hid hcn
  obtain ⟨va, vc, rfl⟩ := PV.out.slice
  clear hT PW hps hus hg hs hfb wc gx hx hcn xlen hF
  go_enter Tryd.func3, Tryd.ntmps3
  have B0 := Lib.hid (Below.refl w.heap.size w)
  go_upto_region 1 with fail
  obtain ⟨w1, hw1⟩ : ∃ y, w.alloc (.cells (rowF 8 (ctC c)) 27) = y := ⟨_, rfl⟩
  have b1 : Below w.heap.size w w1 := by rw [← hw1]; exact (Below.refl _ _).alloc (Nat.le_refl _) _
  have P1 : Hid (RowV w1 w.heap.size 27 8 (ctC c)) := Lib.hid (by rw [← hw1]; exact RowV.new w _ 8 (ctC c))
  have z1 : w.heap.size + 1 = w1.heap.size := by rw [← hw1]; exact (Array.size_push _).symm
  rw [hw1]
  (try rw [z1])
  have B1 := Lib.hid (B0.out.trans (b1.mono B0.out.size))
  have T1 := Lib.hid (T0.out.below b1)
  clear b1 hw1 z1 B0 T0
  go_wp2_with fail
  refine (C1.out _ T1.out).mono ?_
  rintro e w2 ⟨rfl, b2⟩
  have B2 := Lib.hid (B1.out.trans (b2.mono B1.out.size))
  have T2 := Lib.hid (T1.out.below b2)
  have P2 := Lib.hid (P1.out.below b2)
  clear b2 B1 T1 P1
  go_wp2_with fail
  refine (C2.out _ B2.out).mono ?_
  rintro e w3 ⟨rfl, b3⟩
  have B3 := Lib.hid (B2.out.trans (b3.mono B2.out.size))
  have T3 := Lib.hid (T2.out.below b3)
  have P3 := Lib.hid (P2.out.below b3)
  clear b3 B2 T2 P2
  clear C1 C2
  cases fb
  · go_wp2_with fail
    go_ret
    exact ⟨rfl, B3.out⟩
  go_wp2_with (first | ((with_reducible (show wpList _ _ _ (Oper.mk (some 30) _ _ _ _ _ :: _) _ _)); refine Hid.out ?_))
  refine Lib.hid ?_
  refine wpList_load_rowV rfl 27 (.tmp 5) rfl w.heap.size rfl 8 _ _ (P3.out) _ Tryd.underlying27 rfl (by kernel_rfl) ?_
  go_wp2_with fail
  refine (C4.out (by first | rfl | trivial) _ B3.out T3.out).mono ?_
  rintro e w4 ⟨rfl, b4⟩
  have B4 := Lib.hid (B3.out.trans (b4.mono B3.out.size))
  have T4 := Lib.hid (T3.out.below b4)
  have P4 := Lib.hid (P3.out.below b4)
  clear b4 B3 T3 P3
  have Zr := Lib.hid (RowV.new w4 31 5 (liC li0))
  go_upto_region 6 with ((with_reducible (show wpList _ _ _ (Oper.mk none _ _ _ _ _ :: _) _ _)); refine wpList_store_rowV (o := ⟨none, .store 31 (.tmp 7) (.tmp 32), _, _, _, _⟩) rfl 31 (.tmp 7) (.tmp 32) rfl w4.heap.size rfl 5 31 _ (liC y) rfl Zr.out (by kernel_rfl) (fun j _ => liC_one _ j) ?_; intro w5 Y5 o5)
  have b5 : Below w4.heap.size w4 w5 := ((Below.refl _ _).alloc (Nat.le_refl _) _).trans (o5.out.below (Nat.le_refl _) (by rw [World.size_alloc]; omega))
  have B5 := Lib.hid (B4.out.trans (b5.mono B4.out.size))
  have T5 := Lib.hid (T4.out.below b5)
  have P5 := Lib.hid (P4.out.below b5)
  clear b5 o5 Zr B4 T4 P4
  clear C4
  obtain ⟨pn, n12⟩ := PL.out (by first | rfl | trivial)
  clear PL
  by_cases hE : E = 0
  rotate_left
  · obtain rfl : y = li0 := A0.out hE
    have e1 : (E == 0) = false := by rw [beq_eq_false_iff_ne]; exact hE
    have e2 : (E != 0) = true := by rw [bne, e1]; rfl
    have q1 := fun W => eql_li li0 li0 W
    rw [liB_self] at q1
    have q2 := fun a b W => guard_li .eql a b li0 li0 W
    clear hE A0 A1 A2 AD
    go_upto_region 7 with fail
    go_wp2_with (first | ((with_reducible (show wpList _ _ _ (Oper.mk (some 36) _ _ _ _ _ :: _) _ _)); refine Hid.out ?_))
    refine Lib.hid ?_
    refine wpList_load_rowV rfl 31 (.tmp 7) rfl w4.heap.size rfl 5 _ _ (Y5.out) _ Tryd.underlying31 rfl (by kernel_rfl) ?_
    go_wp2_with (first | ((with_reducible (show wpList _ _ _ (Oper.mk (some 37) _ _ _ _ _ :: _) _ _)); refine Hid.out ?_))
    refine Lib.hid ?_
    refine wpList_build rfl 31 _ rfl #[] (by simp only [List.map_toArray, List.map_nil]) _ (zl0 _) ?_
    go_wp2_with fail
    go_ret
    exact ⟨rfl, B5.out⟩
  have d1 := A1.out hE
  obtain ⟨key, hkey⟩ := A2.out hE
  have HK := Lib.hid hkey
  have OD : ownE c.d = 0 ∧ ownV c.d = c.d.tdiv 8 := by have := AD.out hE; unfold ownE ownV; rw [if_pos this, if_pos this]; exact ⟨rfl, rfl⟩
  subst hE
  obtain ⟨g4, hg4⟩ : ∃ g, decide (c.k = 4) = g := ⟨_, rfl⟩
  have e4 : (c.k == 4) = g4 := by rw [← hg4, Bool.eq_iff_iff, beq_iff_eq, decide_eq_true_iff]
  obtain ⟨h1, h2, h3⟩ := d1
  rw [hg4] at h3
  have y0 : w5.cell? ⟨w4.heap.size, 0, none⟩ = some (.int .i64 c.d) := by rw [← h1]; exact Y5.out.cell (i := 0) (by decide)
  have y3 : w5.cell? ⟨w4.heap.size, 3, none⟩ = some (.int .i64 c.n) := by rw [← h2]; exact Y5.out.cell (i := 3) (by decide)
  have y4 : w5.cell? ⟨w4.heap.size, 4, none⟩ = some (.bool g4) := by rw [← h3]; exact Y5.out.cell (i := 4) (by decide)
  have x0 : w5.cell? ⟨w.heap.size, 0, none⟩ = some (.int .i64 c.k) := P5.out.cell (i := 0) (by decide)
  have x1 : w5.cell? ⟨w.heap.size, 1, none⟩ = some (.int .i64 c.d) := P5.out.cell (i := 1) (by decide)
  have x4 : w5.cell? ⟨w.heap.size, 4, none⟩ = some (.int .i64 c.n) := P5.out.cell (i := 4) (by decide)
  clear hkey hg4 h1 h2 h3 A0 A1 A2 AD Y5
  go_wp2_with fail
  refine (C5.out c.d _).mono ?_
  rintro e wp ⟨rfl, rfl⟩
  rw [OD.1, OD.2]
  clear OD
  obtain ⟨p, hp⟩ : ∃ y, c.d.tdiv 8 = y := ⟨_, rfl⟩
  have HP := Lib.hid hp
  rw [hp] at HK ⊢
  clear hp
  have n1 : (c.d != c.d) = false := by simp
  have n2 : (c.n != c.n) = false := by simp
  have n3 : (g4 != g4) = false := by simp
  have S5 := Lib.hid (Since.refl w5)
  have BS := Lib.hid B5.out
  have PS := Lib.hid P5.out
  have TS := Lib.hid T5.out
  clear P5 T5
  go_wp2_with fail
  obtain ⟨w6, hw6⟩ : ∃ y, w5.alloc (.map #[] 0) = y := ⟨_, rfl⟩
  have b6 : Below w5.heap.size w5 w6 := by rw [← hw6]; exact (Below.refl _ _).alloc (Nat.le_refl _) _
  have M6 : Hid (IM.At w6 w5.heap.size []) := Lib.hid (by rw [← hw6]; exact IM.At.made w5)
  have z6 : w5.heap.size + 1 = w6.heap.size := by rw [← hw6]; exact (Array.size_push _).symm
  rw [hw6]
  (try rw [z6])
  have B6 := Lib.hid (B5.out.trans (b6.mono B5.out.size))
  have S6 := Lib.hid (S5.out.below b6)
  clear b6 hw6 z6 B5 S5
  have NE := Lib.hid (show w5.heap.size < w6.heap.size from M6.out.lt)
  clear y0 y3 y4 x0 x1 x4 n1 n2 n3 e4
  go_wp2_with fail
  obtain ⟨w7, hw7⟩ : ∃ y, w6.alloc (.map #[] 0) = y := ⟨_, rfl⟩
  have b7 : Below w6.heap.size w6 w7 := by rw [← hw7]; exact (Below.refl _ _).alloc (Nat.le_refl _) _
  have N7 : Hid (IM.At w7 w6.heap.size []) := Lib.hid (by rw [← hw7]; exact IM.At.made w6)
  have z7 : w6.heap.size + 1 = w7.heap.size := by rw [← hw7]; exact (Array.size_push _).symm
  rw [hw7]
  (try rw [z7])
  have B7 := Lib.hid (B6.out.trans (b7.mono B6.out.size))
  have S7 := Lib.hid (S6.out.below b7)
  have M7 := Lib.hid (M6.out.below b7)
  clear b7 hw7 z7 B6 S6 M6
  clear hmm
  go_wp2_with fail
  have L0 : lawK c [] = [] := by unfold lawK presB getL; simp
  go_loopg [12, 73] n (fun g s12 s73 wx => ∃ k : Nat, k + g = n ∧ s12 = .bool (famB (x.take k) p) ∧ s73 = .int .i64 (k : Int) ∧ Hid (IM.At wx w5.heap.size (lawK c (x.take k))) ∧ Hid (∃ m, IM.At wx w6.heap.size m ∧ metM p (x.take k) m) ∧ Hid (Since w5 wx))
  case atStart => exact ⟨0, by omega, rfl, rfl, Lib.hid (by rw [List.take_zero, L0]; exact M7.out), Lib.hid ⟨_, N7.out, met_nil p⟩, S7⟩
  case round =>
    clear M7 N7 S7 L0
    obtain ⟨k, hk, rfl, rfl, hM, hN, hS⟩ := hrel
    obtain ⟨w8, rfl⟩ : ∃ y, y = wr := ⟨_, rfl⟩
    have q0 : (0 : Int) ≤ (k : Int) := Int.natCast_nonneg k
    have B8 := Lib.hid (BS.out.trans (hS.out.b.mono BS.out.size))
    by_cases hlt : k < n
    · have d0 : decide ((k : Int) < (n : Int)) = true := by rw [decide_eq_true_iff]; omega
      have d1 : decide (k < n) = true := by rw [decide_eq_true_iff]; omega
      obtain ⟨b, off, rfl, hcap, hb, hc⟩ := SlAt.at_elem (s := 5) (n := n) (a := xa) (k := xc) (c := fun i => liC (x.getD i li0)) (XV.out.below B8.out) hlt
      have HLT := Lib.hid hlt
      have HCK := Lib.hid (fun j hj => hc k hlt j hj)
      have TK := take_succ_getD li0 x (show k < x.length by rw [HN.out]; exact hlt)
      have SNO := @step_no c (x.take k) (x.getD k li0)
      have SYE := @step_yes c (x.take k) (x.getD k li0)
      rw [← TK, HP.out] at SNO SYE
      obtain ⟨z, hz⟩ : ∃ y, x.getD k li0 = y := ⟨_, rfl⟩
      rw [hz] at HCK SNO SYE
      have SNO := Lib.hid SNO
      have SYE := Lib.hid SYE
      have p1 : (k : Int) + 1 ≤ 1000 := by omega
      obtain ⟨m, hm1, hm2⟩ := hN.out
      have ME := Lib.hid (hm2 z.d)
      have MM := Lib.hid hm2
      have M8 := hM
      have N8 := Lib.hid hm1
      have S8 := hS
      have NL := Lib.hid N8.out.lt
      clear hcap hb hc hlt TK hz hM hN hS hm1 hm2
      obtain ⟨xk, hxk⟩ : ∃ y, x.take k = y := ⟨_, rfl⟩
      obtain ⟨xl, hxl⟩ : ∃ y, x.take (k + 1) = y := ⟨_, rfl⟩
      rw [hxk] at SNO SYE ME MM M8 ⊢
      rw [hxl] at SNO SYE
      have HXL := Lib.hid hxl
      clear hxk hxl
      go_wp2_with (first | ((with_reducible (show wpList _ _ _ (Oper.mk (some 76) _ _ _ _ _ :: _) _ _)); refine Hid.out ?_))
      refine Lib.hid ?_
      refine wpList_load_elem rfl 31 (.tmp 75) rfl b (off + k * 5) rfl 5 off k (by rw [Nat.mul_comm]) (liC z) HCK.out _ Tryd.underlying31 rfl (by kernel_rfl) ?_
      clear HCK d0 d1
      have Zr := Lib.hid (RowV.new w8 31 5 (liC li0))
      go_upto_region 17 with ((with_reducible (show wpList _ _ _ (Oper.mk none _ _ _ _ _ :: _) _ _)); refine wpList_store_rowV (o := ⟨none, .store 31 (.tmp 15) (.tmp 76), _, _, _, _⟩) rfl 31 (.tmp 15) (.tmp 76) rfl w8.heap.size rfl 5 31 _ (liC z) rfl Zr.out (by kernel_rfl) (fun j _ => liC_one _ j) ?_; intro w9 V9 o9)
      have b9 : Below w8.heap.size w8 w9 := ((Below.refl _ _).alloc (Nat.le_refl _) _).trans (o9.out.below (Nat.le_refl _) (by rw [World.size_alloc]; omega))
      have B9 := Lib.hid (B8.out.trans (b9.mono B8.out.size))
      have M9 := Lib.hid (M8.out.below b9)
      have N9 := Lib.hid (N8.out.below b9)
      have S9 := Lib.hid (S8.out.below b9)
      clear b9 o9 Zr B8 M8 N8 S8
      have z0 : w9.cell? ⟨w8.heap.size, 0, none⟩ = some (.int .i64 z.d) := V9.out.cell (i := 0) (by decide)
      have z1 : w9.cell? ⟨w8.heap.size, 1, none⟩ = some (.int .i64 z.v) := V9.out.cell (i := 1) (by decide)
      have z4 : w9.cell? ⟨w8.heap.size, 4, none⟩ = some (.bool z.g) := V9.out.cell (i := 4) (by decide)
      go_wp2_with fail
      refine (C5.out z.d _).mono ?_
      rintro e wp ⟨rfl, rfl⟩
      have OI := Lib.hid (own_is z.d p)
      obtain ⟨ov, hov⟩ : ∃ y, ownV z.d = y := ⟨_, rfl⟩
      obtain ⟨oe, hoe⟩ : ∃ y, ownE z.d = y := ⟨_, rfl⟩
      obtain ⟨ob, hob⟩ : ∃ y, ownP p z.d = y := ⟨_, rfl⟩
      obtain ⟨is, his⟩ : ∃ y, (getL xk z.d).isSome = y := ⟨_, rfl⟩
      rw [hov, hoe, hob] at OI
      rw [hov, hoe]
      rw [hob, his] at SNO SYE ME
      clear hov hoe hob his
      cases he : (oe == 0)
      · have he2 : (oe != 0) = true := by rw [bne, he]; rfl
        obtain rfl : ob = false := by rw [← OI.out, he]; rfl
        obtain ⟨kb, mb, fb⟩ := SNO.out (.inl rfl)
        rw [← HXL.out] at kb mb fb
        have KB := Lib.hid kb; have MB := Lib.hid mb; have FB := Lib.hid fb
        clear kb mb fb SNO SYE OI ME z0 z1 z4 V9
        go_wp2_with fail
        go_roundg (n - (k + 1))
        case measure => have := HLT.out; omega
        case rel =>
          go_light
          exact ⟨k + 1, by have := HLT.out; omega, FB.out ▸ rfl, by go_num, KB.out ▸ M9, Lib.hid ⟨_, N9.out, MB.out _ MM.out⟩, S9⟩
      have he2 : (oe != 0) = false := by rw [bne, he]; rfl
      cases hv : (ov == p)
      · have hv2 : (ov != p) = true := by rw [bne, hv]; rfl
        obtain rfl : ob = false := by rw [← OI.out, he, hv]; rfl
        obtain ⟨kb, mb, fb⟩ := SNO.out (.inl rfl)
        rw [← HXL.out] at kb mb fb
        have KB := Lib.hid kb; have MB := Lib.hid mb; have FB := Lib.hid fb
        clear kb mb fb SNO SYE OI ME z0 z1 z4 V9
        go_wp2_with fail
        go_roundg (n - (k + 1))
        case measure => have := HLT.out; omega
        case rel =>
          go_light
          exact ⟨k + 1, by have := HLT.out; omega, FB.out ▸ rfl, by go_num, KB.out ▸ M9, Lib.hid ⟨_, N9.out, MB.out _ MM.out⟩, S9⟩
      have hv2 : (ov != p) = false := by rw [bne, hv]; rfl
      obtain rfl : ob = true := by rw [← OI.out, he, hv]; rfl
      go_wp2_with (first | ((with_reducible (show wpList _ _ _ (Oper.mk (some 94) _ _ _ _ _ :: _) _ _)); refine Hid.out ?_))
      refine Lib.hid ?_
      refine wpList_unguard rfl ?_
      refine IM.wpList_lookup rfl 37 3 4 (.tmp 91) (.tmp 93) false rfl z.d rfl rfl N9.out Tryd.underlying37 Tryd.underlying3 zero_bool ?_
      rw [if_neg Bool.false_ne_true, ME.out, Bool.true_and]
      clear ME OI
      cases is
      rotate_left
      · obtain ⟨kb, mb, fb⟩ := SNO.out (.inr rfl)
        rw [← HXL.out] at kb mb fb
        have KB := Lib.hid kb; have MB := Lib.hid mb; have FB := Lib.hid fb
        clear kb mb fb SNO SYE z0 z1 z4 V9
        rw [if_pos rfl, Option.getD_some]
        go_wp2_with fail
        go_roundg (n - (k + 1))
        case measure => have := HLT.out; omega
        case rel =>
          go_light
          exact ⟨k + 1, by have := HLT.out; omega, FB.out ▸ rfl, by go_num, KB.out ▸ M9, Lib.hid ⟨_, N9.out, MB.out _ MM.out⟩, S9⟩
      rw [if_neg Bool.false_ne_true, Option.getD_none]
      obtain ⟨kb, mb, fb⟩ := SYE.out (by first | rfl | trivial) (by first | rfl | trivial)
      rw [← HXL.out] at kb mb fb
      have KB := Lib.hid kb; have MB := Lib.hid mb; have FB := Lib.hid fb
      clear kb mb fb SNO SYE
      go_upto_region 19 with fail
      go_wp2_with (first | ((with_reducible (show wpList _ _ _ (Oper.mk none _ _ _ _ _ :: _) _ _)); refine Hid.out ?_))
      refine Lib.hid ?_
      refine IM.wpList_update rfl 37 3 4 (.tmp 96) (.tmp 98) (.const (.bool true)) rfl z.d (.bool true) rfl rfl rfl N9.out Tryd.underlying37 Tryd.underlying3 ?_
      intro w10 A10 O10
      have S10 : Hid (Since w5 w10) := Lib.hid (Below.trans S9.out.b (O10.out.below (Nat.le_of_lt NE.out) S9.out.le))
      have M10 := Lib.hid (M9.out.only O10.out (Nat.ne_of_lt NE.out))
      have V10 := Lib.hid (O10.out.row (show w8.heap.size ≠ w6.heap.size by have := NL.out; omega) V9.out)
      have B10 : Hid (Below w.heap.size w w10) := Lib.hid (BS.out.trans (S10.out.b.mono BS.out.size))
      have P10 := Lib.hid (PS.out.below S10.out.b)
      have N10 := A10
      clear A10 O10 M9 N9 S9 B9 V9 z0 z1 z4
      have z0 : w10.cell? ⟨w8.heap.size, 0, none⟩ = some (.int .i64 z.d) := V10.out.cell (i := 0) (by decide)
      have z1 : w10.cell? ⟨w8.heap.size, 1, none⟩ = some (.int .i64 z.v) := V10.out.cell (i := 1) (by decide)
      have z4 : w10.cell? ⟨w8.heap.size, 4, none⟩ = some (.bool z.g) := V10.out.cell (i := 4) (by decide)
      have c1 : w10.cell? ⟨w.heap.size, 1, none⟩ = some (.int .i64 c.d) := P10.out.cell (i := 1) (by decide)
      have c5 : w10.cell? ⟨w.heap.size, 5, none⟩ = some (.int .i64 c.b) := P10.out.cell (i := 5) (by decide)
      obtain ⟨zg, hzg⟩ : ∃ y, z.g = y := ⟨_, rfl⟩
      rw [hzg] at z4 KB
      obtain ⟨t1, ht1⟩ : ∃ y, decide (z.d = c.b) = y := ⟨_, rfl⟩
      obtain ⟨t2, ht2⟩ : ∃ y, decide (c.b = c.d) = y := ⟨_, rfl⟩
      have u1 : (z.d == c.b) = t1 := by rw [← ht1, Bool.eq_iff_iff, beq_iff_eq, decide_eq_true_iff]
      have u2 : (c.b != c.d) = !t2 := by rw [← ht2, bne, show (c.b == c.d) = decide (c.b = c.d) from by rw [Bool.eq_iff_iff, beq_iff_eq, decide_eq_true_iff]]
      rw [ht1, ht2] at KB
      clear hzg ht1 ht2 V10 P10
      have KN : Hid ((!zg && (t1 && !t2)) = false → IM.At w10 w5.heap.size (lawK c (x.take (k + 1)))) := Lib.hid (fun h => by rw [KB.out, if_neg (by rw [h]; decide)]; exact M10.out)
      cases zg
      rotate_left
      · have KM := Lib.hid (KN.out rfl)
        clear KB KN u1 u2
        go_wp2_with fail
        go_roundg (n - (k + 1))
        case measure => have := HLT.out; omega
        case rel =>
          go_light
          exact ⟨k + 1, by have := HLT.out; omega, by rw [FB.out], by go_num, KM, Lib.hid ⟨_, N10.out, MB.out _ MM.out⟩, S10⟩
      cases t1
      · have KM := Lib.hid (KN.out rfl)
        clear KB KN u2
        go_wp2_with fail
        go_roundg (n - (k + 1))
        case measure => have := HLT.out; omega
        case rel =>
          go_light
          exact ⟨k + 1, by have := HLT.out; omega, by rw [FB.out], by go_num, KM, Lib.hid ⟨_, N10.out, MB.out _ MM.out⟩, S10⟩
      cases t2
      rotate_left
      · have KM := Lib.hid (KN.out rfl)
        clear KB KN
        go_wp2_with fail
        go_roundg (n - (k + 1))
        case measure => have := HLT.out; omega
        case rel =>
          go_light
          exact ⟨k + 1, by have := HLT.out; omega, by rw [FB.out], by go_num, KM, Lib.hid ⟨_, N10.out, MB.out _ MM.out⟩, S10⟩
      clear KN
      go_upto_region 22 with fail
      go_wp2_with (first | ((with_reducible (show wpList _ _ _ (Oper.mk none _ _ _ _ _ :: _) _ _)); refine Hid.out ?_))
      refine Lib.hid ?_
      refine IM.wpList_update rfl 37 3 4 (.tmp 116) (.tmp 118) (.const (.bool true)) rfl z.v (.bool true) rfl rfl rfl M10.out Tryd.underlying37 Tryd.underlying3 ?_
      intro w11 A11 O11
      have S11 : Hid (Since w5 w11) := Lib.hid (Below.trans S10.out.b (O11.out.below (Nat.le_refl _) S10.out.le))
      have N11 := Lib.hid (N10.out.only O11.out (Ne.symm (Nat.ne_of_lt NE.out)))
      have KM : Hid (IM.At w11 w5.heap.size (lawK c (x.take (k + 1)))) := Lib.hid (by rw [KB.out, if_pos (by decide)]; exact A11.out)
      clear A11 O11 N10 M10 S10 B10 KB z0 z1 z4 c1 c5 u1 u2
      go_wp2_with fail
      go_roundg (n - (k + 1))
      case measure => have := HLT.out; omega
      case rel =>
        go_light
        exact ⟨k + 1, by have := HLT.out; omega, by rw [FB.out], by go_num, KM, Lib.hid ⟨_, N11.out, MB.out _ MM.out⟩, S11⟩
    · have d0 : decide ((k : Int) < (n : Int)) = false := by rw [decide_eq_false_iff_not]; omega
      have d1 : decide (k < n) = false := by rw [decide_eq_false_iff_not]; omega
      rw [List.take_of_length_le (by rw [HN.out]; omega)] at hM ⊢
      have M8 := hM
      have S8 := hS
      have P8 := Lib.hid (PS.out.below hS.out.b)
      have x0 : w8.cell? ⟨w.heap.size, 0, none⟩ = some (.int .i64 c.k) := P8.out.cell (i := 0) (by decide)
      have x2 : w8.cell? ⟨w.heap.size, 2, none⟩ = some (.int .i64 c.v) := P8.out.cell (i := 2) (by decide)
      clear hM hN hS hlt hk q0 XV HN NE
      obtain ⟨hv, hkk⟩ := HK.out
      have HV := Lib.hid hv
      have HKK := Lib.hid hkk
      clear hv hkk HK
      go_upto_region 24 with fail
      clear d0 d1
      by_cases k1 : c.k = 1
      · have f1 : (c.k == 1) = true := by rw [beq_iff_eq]; exact k1
        have F1 : famB x p = false ∧ key = c.v := by
          rcases HKK.out with h | h | h
          · exact h.2
          · omega
          · exact absurd k1 h.1
        obtain ⟨ff, rfl⟩ := F1
        rw [ff]
        clear HKK k1 ff
        go_upto_region 28 with fail
        go_wp2_with (first | ((with_reducible (show wpList _ _ _ (Oper.mk none _ _ _ _ _ :: _) _ _)); refine Hid.out ?_))
        refine Lib.hid ?_
        refine IM.wpList_update rfl 37 3 4 (.tmp 125) (.tmp 127) (.const (.bool true)) rfl c.v (.bool true) rfl rfl rfl M8.out Tryd.underlying37 Tryd.underlying3 ?_
        intro w9 A9 O9
        obtain ⟨mm, hmm⟩ : ∃ y, IM.put (lawK c x) c.v (.bool true) = y := ⟨_, rfl⟩
        have KE : Hid (IM.get mm c.v = some (.bool true)) := Lib.hid (by rw [← hmm]; exact IM.get_put_same _ _ _)
        rw [hmm] at A9
        have MA := A9
        have SY : Hid (Since w5 w9) := Lib.hid (Below.trans S8.out.b (O9.out.below (Nat.le_refl _) S8.out.le))
        obtain ⟨key, hkey⟩ : ∃ y, c.v = y := ⟨_, rfl⟩
        rw [hkey] at KE HV
        clear hkey hmm A9 O9 M8 S8 x0 x2 P8 B8
        go_wp2_with (first | ((with_reducible (show wpList _ _ _ (Oper.mk (some 145) _ _ _ _ _ :: _) _ _)); refine Hid.out ?_))
        refine Lib.hid ?_
        refine IM.wpList_range rfl 37 3 4 (.tmp 144) rfl rfl MA.out Tryd.underlying37 ?_
        intro w30 R30 b30
        have S30 := Lib.hid (Since.below SY.out b30.out)
        have KI := Lib.hid (mem_get KE.out)
        have RL := Lib.hid (show w5.heap.size ≤ w9.heap.size from SY.out.le)
        clear b30 MA KE SY
        go_wp2_with fail
        simp only [Act.put, List.setIfInBounds_toArray, List.set_cons_succ, List.set_cons_zero]
        go_loopg [] mm.length (fun gh wx => ∃ L : List (Int × Value), L.length = gh ∧ Hid (key ∈ L.map Prod.fst) ∧ Hid (IM.Rng wx w5.heap.size w9.heap.size mm L) ∧ Hid (Since w5 wx))
        case atStart => exact ⟨mm, rfl, KI, R30, S30⟩
        case round =>
          clear R30 S30 KI
          obtain ⟨L, hg, hK, hR, hS⟩ := hrel
          obtain ⟨w31, rfl⟩ : ∃ y, y = wr := ⟨_, rfl⟩
          have HG := Lib.hid hg
          clear hg
          go_wp2_with (first | ((with_reducible (show wpList _ _ _ (Oper.mk (some 146) _ _ _ _ _ :: _) _ _)); refine Hid.out ?_))
          refine Lib.hid ?_
          refine IM.wpList_next rfl (.tmp 145) rfl rfl hR.out ?_ ?_
          · intro hl
            exfalso
            have h := hK.out
            rw [hl] at h
            cases h
          · intro w32 a v L' hp R32 O32 he
            have S32 : Hid (Since w5 w32) := Lib.hid (Below.trans hS.out.b (O32.out.below RL.out hS.out.le))
            have PE : Hid (L'.length + 1 = gk) := Lib.hid (by have h := hp.out.length_eq; have h2 := HG.out; rw [List.length_cons] at h; omega)
            have KM : Hid (key = a ∨ key ∈ L'.map Prod.fst) := Lib.hid (by have h := (hp.out.map Prod.fst).mem_iff.1 hK.out; rw [List.map_cons, List.mem_cons] at h; exact h)
            have B32 := Lib.hid (BS.out.trans (S32.out.b.mono BS.out.size))
            have P32 := Lib.hid (PS.out.below S32.out.b)
            have T32 := Lib.hid (TS.out.below S32.out.b)
            have PL := Lib.hid P32.out.lt
            clear hp O32 hR hS hK HG
            go_upto_region 39 with fail
            clear he
            go_cut [155] from 150 to 155 (fun s155 wx => s155 = .bool (verB a (msgC c) c.r c.g) ∧ Hid (Below w32.heap.size w32 wx))
            case first =>
              refine Tc.wp_region_plan (keep w32.heap.size) 6 [] (.fl 0 (.fl 1 (.fl 3 (.fl 4 (.one 2 (.one 5 .done)))))) (by kernel_rfl) (by kernel_rfl) ?_
              intro w33 b33 e33
              have BB33 : Hid (Below w32.heap.size w32 w33) := Lib.hid b33
              clear b33 e33
              refine Tc.plan_floats [0, 1, 3, 4] [_, _, _, _] rfl ?_
              dsimp only [List.getElem_toArray, List.getElem_cons_succ, List.getElem_cons_zero]
              repeat (first | go_big_quiet_skip | (go_big_quiet_want; go_big_quiet_op; first | go_big_quiet_on | (refine ⟨_, fun _ _ => rfl, ?_⟩; go_big_quiet_on)))
              refine wpQuiet_load_part rfl 27 (.tmp 5) rfl w.heap.size 0 rfl 8 8 _ ((ctC c)) ((ctC c)) (fun W hW => row_keep (n := w32.heap.size) ((P32.out).below BB33.out) (PL.out) hW) (by decide) (fun j _ => by rw [Nat.zero_add]) _ Tryd.underlying27 rfl (by kernel_rfl) ?_
              simp only [Act.put, List.setIfInBounds_toArray, List.set_cons_succ, List.set_cons_zero]
              repeat (first | go_big_quiet_skip | (go_big_quiet_want; go_big_quiet_op; first | go_big_quiet_on | (refine ⟨_, fun _ _ => rfl, ?_⟩; go_big_quiet_on)))
              refine wpQuiet_load_part rfl 25 (.tmp 153) rfl w.heap.size 6 rfl 8 2 _ ((ctC c)) ((sgC c)) (fun W hW => row_keep (n := w32.heap.size) ((P32.out).below BB33.out) (PL.out) hW) (by decide) (fun j hj => by match j, hj with | 0, _ => rfl | 1, _ => rfl) _ Tryd.underlying25 rfl (by kernel_rfl) ?_
              simp only [Act.put, List.setIfInBounds_toArray, List.set_cons_succ, List.set_cons_zero]
              repeat (first | go_big_quiet_skip | (go_big_quiet_want; go_big_quiet_op; first | go_big_quiet_on | (refine ⟨_, fun _ _ => rfl, ?_⟩; go_big_quiet_on)))
              refine wpQuiet_nil ?_
              refine Tc.plan_one 2 rfl (fun K hK => ?_)
              go_wp2_with fail
              refine (C6.out _ (T32.out.below BB33.out)).mono ?_
              rintro e w34 ⟨⟨u, rfl, hu⟩, b34⟩
              have bb := b34.mono BB33.out.size
              have BB34 := Lib.hid (BB33.out.trans bb)
              have Y34 := Lib.hid hu
              go_wp2_with fail
              refine hK _ _ (keep_below bb) ?_
              clear hK K bb b34 BB33 hu
              refine Tc.plan_one 5 rfl (fun K hK => ?_)
              go_wp2_with fail
              refine (C7.out a u _ Y34.out (T32.out.below BB34.out)).mono ?_
              rintro e w35 ⟨rfl, b35⟩
              have bb := b35.mono BB34.out.size
              have BB35 := Lib.hid (BB34.out.trans bb)
              go_wp2_with fail
              refine hK _ _ (keep_below bb) ?_
              clear hK K bb b35 BB34 Y34
              refine Tc.plan_done (l := []) rfl (fun K hK => ?_)
              go_wp2_with fail
              go_meet
              exact ⟨rfl, BB35⟩
            case rest =>
              rename World => w33
              obtain ⟨rfl, b33⟩ := hcut
              have B33 := Lib.hid (B32.out.trans (b33.out.mono B32.out.size))
              have S33 := Lib.hid (S32.out.below b33.out)
              have R33 := Lib.hid (R32.out.below b33.out)
              have HV2 := HV
              obtain ⟨vb, hvb⟩ : ∃ vb, verB a (msgC c) c.r c.g = vb := ⟨_, rfl⟩
              have VB := Lib.hid hvb
              rw [hvb]
              clear hvb b33 B32 S32 R32 P32 T32 PL
              cases vb
              rotate_left
              · go_wp2_with fail
                go_ret
                exact ⟨rfl, B33.out⟩
              have K2 : Hid (key ∈ L'.map Prod.fst) := Lib.hid (by
                rcases KM.out with e | e
                · have h := VB.out
                  rw [← e, HV.out] at h
                  cases h
                · exact e)
              clear KM VB
              go_wp2_with fail
              go_roundg (gk - 1)
              case measure => have := PE.out; omega
              case rel =>
                go_light
                exact ⟨L', by have := PE.out; omega, K2, R33, S33⟩
      have f1 : (c.k == 1) = false := by rw [beq_eq_false_iff_ne]; exact k1
      by_cases k3 : c.k = 3
      · have f3 : (c.k == 3) = true := by rw [beq_iff_eq]; exact k3
        have F1 : ∃ q, findP ps p = some q ∧ key = q.r := by
          rcases HKK.out with h | h | h
          · exact absurd h.1 k1
          · exact h.2
          · exact absurd k3 h.2.1
        have F2 : ∃ j, j < ps.length ∧ (ps.getD j pe0).i = p ∧ (ps.getD j pe0).r = key := by
          obtain ⟨q, hq, rfl⟩ := F1
          obtain ⟨j, hj, hjq⟩ := List.mem_iff_getElem.1 (List.mem_of_find?_eq_some hq)
          have e : ps.getD j pe0 = q := by rw [List.getD_eq_getElem?_getD, List.getElem?_eq_getElem hj, Option.getD_some]; exact hjq
          refine ⟨j, hj, ?_, by rw [e]⟩
          have := List.find?_some hq
          rw [e]; simpa using this
        have F2 := Lib.hid F2
        obtain ⟨pm, hpm⟩ : ∃ y, ps.length = y := ⟨_, rfl⟩
        have PVX : Hid (SlAt 5 w (.slice va ps.length vc) ps.length (fun i => peC (ps.getD i pe0) (us i))) := Lib.hid PV.out
        rw [hpm] at F2 PVX pn ⊢
        have qpm : (pm : Int) ≤ 1000 := by omega
        have M9 : Hid (∃ m, IM.At w8 w5.heap.size m ∧ ∀ j, j < 0 → (ps.getD j pe0).i = p → IM.get m (ps.getD j pe0).r = some (.bool true)) := Lib.hid ⟨_, M8.out, fun j hj => by omega⟩
        clear HKK k1 k3 F1 hpm PV M8 x2 P8 B8
        go_upto_region 30 with fail
        go_wp2_with fail
        clear x0 f1 f3
        go_loopg [132] pm (fun g s132 wx => ∃ k : Nat, k + g = pm ∧ s132 = .int .i64 (k : Int) ∧ Hid (∃ m, IM.At wx w5.heap.size m ∧ ∀ j, j < k → (ps.getD j pe0).i = p → IM.get m (ps.getD j pe0).r = some (.bool true)) ∧ Hid (Since w5 wx))
        case atStart => exact ⟨0, by omega, rfl, M9, S8⟩
        case round =>
          clear M9 S8
          obtain ⟨k, hk, rfl, hM, hS⟩ := hrel
          obtain ⟨w9, rfl⟩ : ∃ y, y = wr := ⟨_, rfl⟩
          have q0 : (0 : Int) ≤ (k : Int) := Int.natCast_nonneg k
          have B9 := Lib.hid (BS.out.trans (hS.out.b.mono BS.out.size))
          by_cases hlt : k < pm
          · have d0 : decide ((k : Int) < (pm : Int)) = true := by rw [decide_eq_true_iff]; omega
            have d1 : decide (k < pm) = true := by rw [decide_eq_true_iff]; omega
            obtain ⟨b, off, rfl, hcap, hb, hc⟩ := SlAt.at_elem (s := 5) (n := pm) (a := va) (k := vc) (c := fun i => peC (ps.getD i pe0) (us i)) (PVX.out.below B9.out) hlt
            have HLT := Lib.hid hlt
            have HCK := Lib.hid (fun j hj => hc k hlt j hj)
            obtain ⟨m, hm1, hm2⟩ := hM.out
            have M9 := Lib.hid hm1
            have S9 := hS
            have G9 := Lib.hid hm2
            obtain ⟨q, hq⟩ : ∃ y, ps.getD k pe0 = y := ⟨_, rfl⟩
            obtain ⟨s, hs⟩ : ∃ y, us k = y := ⟨_, rfl⟩
            rw [hq, hs] at HCK
            have HQ := Lib.hid hq
            have p1 : (k : Int) + 1 ≤ 1000 := by omega
            clear hc hcap hb hq hs hlt hm1 hm2 hM hS
            go_wp2_with (first | ((with_reducible (show wpList _ _ _ (Oper.mk (some 135) _ _ _ _ _ :: _) _ _)); refine Hid.out ?_))
            refine Lib.hid ?_
            refine wpList_load_elem rfl 40 (.tmp 134) rfl b (off + k * 5) rfl 5 off k (by rw [Nat.mul_comm]) (peC q s) HCK.out _ Tryd.underlying40 rfl (by kernel_rfl) ?_
            clear HCK d0 d1
            have Zr := Lib.hid (RowV.new w9 40 5 (peC pe0 pe00))
            go_upto_region 33 with ((with_reducible (show wpList _ _ _ (Oper.mk none _ _ _ _ _ :: _) _ _)); refine wpList_store_rowV (o := ⟨none, .store 40 (.tmp 19) (.tmp 135), _, _, _, _⟩) rfl 40 (.tmp 19) (.tmp 135) rfl w9.heap.size rfl 5 40 _ (peC q s) rfl Zr.out (by kernel_rfl) (fun j _ => peC_one q s j) ?_; intro w10 V10 o10)
            have b10 : Below w9.heap.size w9 w10 := ((Below.refl _ _).alloc (Nat.le_refl _) _).trans (o10.out.below (Nat.le_refl _) (by rw [World.size_alloc]; omega))
            have B10 := Lib.hid (B9.out.trans (b10.mono B9.out.size))
            have M10 := Lib.hid (M9.out.below b10)
            have S10 := Lib.hid (S9.out.below b10)
            clear b10 o10 Zr B9 M9 S9
            have y0 : w10.cell? ⟨w9.heap.size, 0, none⟩ = some (.int .i64 q.i) := pe_cell V10.out (i := 0) (by decide)
            have y1 : w10.cell? ⟨w9.heap.size, 1, none⟩ = some (.int .i64 q.r) := pe_cell V10.out (i := 1) (by decide)
            cases hi : (q.i == p)
            · have G10 : Hid (∃ m, IM.At w10 w5.heap.size m ∧ ∀ j, j < k + 1 → (ps.getD j pe0).i = p → IM.get m (ps.getD j pe0).r = some (.bool true)) := Lib.hid ⟨m, M10.out, fun j hj he => by
                by_cases e : j = k
                · subst e; rw [HQ.out] at he; rw [beq_eq_false_iff_ne] at hi; exact absurd he hi
                · exact G9.out j (by omega) he⟩
              clear M10 V10 G9 HQ
              go_wp2_with fail
              go_roundg (pm - (k + 1))
              case measure => have := HLT.out; omega
              case rel =>
                go_light
                exact ⟨k + 1, by have := HLT.out; omega, by go_num, G10, S10⟩
            · go_upto_region 34 with fail
              go_wp2_with (first | ((with_reducible (show wpList _ _ _ (Oper.mk none _ _ _ _ _ :: _) _ _)); refine Hid.out ?_))
              refine Lib.hid ?_
              refine IM.wpList_update rfl 37 3 4 (.tmp 140) (.tmp 142) (.const (.bool true)) rfl q.r (.bool true) rfl rfl rfl M10.out Tryd.underlying37 Tryd.underlying3 ?_
              intro w11 A11 O11
              have S11 : Hid (Since w5 w11) := Lib.hid (Below.trans S10.out.b (O11.out.below (Nat.le_refl _) S10.out.le))
              have G11 : Hid (∃ m, IM.At w11 w5.heap.size m ∧ ∀ j, j < k + 1 → (ps.getD j pe0).i = p → IM.get m (ps.getD j pe0).r = some (.bool true)) := Lib.hid ⟨_, A11.out, fun j hj he => by
                by_cases e : j = k
                · subst e; rw [HQ.out]; exact IM.get_put_same _ _ _
                · have := G9.out j (by omega) he
                  by_cases e2 : (ps.getD j pe0).r = q.r
                  · rw [e2]; exact IM.get_put_same _ _ _
                  · rw [IM.get_put_other e2]; exact this⟩
              clear A11 O11 M10 V10 G9 HQ S10 B10 y0 y1
              go_wp2_with fail
              go_roundg (pm - (k + 1))
              case measure => have := HLT.out; omega
              case rel =>
                go_light
                exact ⟨k + 1, by have := HLT.out; omega, by go_num, G11, S11⟩
          · have d0 : decide ((k : Int) < (pm : Int)) = false := by rw [decide_eq_false_iff_not]; omega
            have d1 : decide (k < pm) = false := by rw [decide_eq_false_iff_not]; omega
            obtain ⟨mm, hm1, hm2⟩ := hM.out
            have MA := Lib.hid hm1
            have SY := hS
            have KE : Hid (IM.get mm key = some (.bool true)) := Lib.hid (by
              obtain ⟨j, h1, h2, h3⟩ := F2.out
              have := hm2 j (by omega) h2
              rwa [h3] at this)
            clear hM hS hm1 hm2 hk F2 PVX B9
            go_upto_region 36 with fail
            clear hlt d0 d1
            go_wp2_with (first | ((with_reducible (show wpList _ _ _ (Oper.mk (some 145) _ _ _ _ _ :: _) _ _)); refine Hid.out ?_))
            refine Lib.hid ?_
            refine IM.wpList_range rfl 37 3 4 (.tmp 144) rfl rfl MA.out Tryd.underlying37 ?_
            intro w30 R30 b30
            have S30 := Lib.hid (Since.below SY.out b30.out)
            have KI := Lib.hid (mem_get KE.out)
            have RL := Lib.hid (show w5.heap.size ≤ w9.heap.size from SY.out.le)
            clear b30 MA KE SY
            go_wp2_with fail
            simp only [Act.put, List.setIfInBounds_toArray, List.set_cons_succ, List.set_cons_zero]
            go_loopg [] mm.length (fun gh wx => ∃ L : List (Int × Value), L.length = gh ∧ Hid (key ∈ L.map Prod.fst) ∧ Hid (IM.Rng wx w5.heap.size w9.heap.size mm L) ∧ Hid (Since w5 wx))
            case atStart => exact ⟨mm, rfl, KI, R30, S30⟩
            case round =>
              clear R30 S30 KI
              obtain ⟨L, hg, hK, hR, hS⟩ := hrel
              obtain ⟨w31, rfl⟩ : ∃ y, y = wr := ⟨_, rfl⟩
              have HG := Lib.hid hg
              clear hg
              go_wp2_with (first | ((with_reducible (show wpList _ _ _ (Oper.mk (some 146) _ _ _ _ _ :: _) _ _)); refine Hid.out ?_))
              refine Lib.hid ?_
              refine IM.wpList_next rfl (.tmp 145) rfl rfl hR.out ?_ ?_
              · intro hl
                exfalso
                have h := hK.out
                rw [hl] at h
                cases h
              · intro w32 a v L' hp R32 O32 he
                have S32 : Hid (Since w5 w32) := Lib.hid (Below.trans hS.out.b (O32.out.below RL.out hS.out.le))
                have PE : Hid (L'.length + 1 = gk) := Lib.hid (by have h := hp.out.length_eq; have h2 := HG.out; rw [List.length_cons] at h; omega)
                have KM : Hid (key = a ∨ key ∈ L'.map Prod.fst) := Lib.hid (by have h := (hp.out.map Prod.fst).mem_iff.1 hK.out; rw [List.map_cons, List.mem_cons] at h; exact h)
                have B32 := Lib.hid (BS.out.trans (S32.out.b.mono BS.out.size))
                have P32 := Lib.hid (PS.out.below S32.out.b)
                have T32 := Lib.hid (TS.out.below S32.out.b)
                have PL := Lib.hid P32.out.lt
                clear hp O32 hR hS hK HG
                go_upto_region 39 with fail
                clear he
                go_cut [155] from 150 to 155 (fun s155 wx => s155 = .bool (verB a (msgC c) c.r c.g) ∧ Hid (Below w32.heap.size w32 wx))
                case first =>
                  refine Tc.wp_region_plan (keep w32.heap.size) 6 [] (.fl 0 (.fl 1 (.fl 3 (.fl 4 (.one 2 (.one 5 .done)))))) (by kernel_rfl) (by kernel_rfl) ?_
                  intro w33 b33 e33
                  have BB33 : Hid (Below w32.heap.size w32 w33) := Lib.hid b33
                  clear b33 e33
                  refine Tc.plan_floats [0, 1, 3, 4] [_, _, _, _] rfl ?_
                  dsimp only [List.getElem_toArray, List.getElem_cons_succ, List.getElem_cons_zero]
                  repeat (first | go_big_quiet_skip | (go_big_quiet_want; go_big_quiet_op; first | go_big_quiet_on | (refine ⟨_, fun _ _ => rfl, ?_⟩; go_big_quiet_on)))
                  refine wpQuiet_load_part rfl 27 (.tmp 5) rfl w.heap.size 0 rfl 8 8 _ ((ctC c)) ((ctC c)) (fun W hW => row_keep (n := w32.heap.size) ((P32.out).below BB33.out) (PL.out) hW) (by decide) (fun j _ => by rw [Nat.zero_add]) _ Tryd.underlying27 rfl (by kernel_rfl) ?_
                  simp only [Act.put, List.setIfInBounds_toArray, List.set_cons_succ, List.set_cons_zero]
                  repeat (first | go_big_quiet_skip | (go_big_quiet_want; go_big_quiet_op; first | go_big_quiet_on | (refine ⟨_, fun _ _ => rfl, ?_⟩; go_big_quiet_on)))
                  refine wpQuiet_load_part rfl 25 (.tmp 153) rfl w.heap.size 6 rfl 8 2 _ ((ctC c)) ((sgC c)) (fun W hW => row_keep (n := w32.heap.size) ((P32.out).below BB33.out) (PL.out) hW) (by decide) (fun j hj => by match j, hj with | 0, _ => rfl | 1, _ => rfl) _ Tryd.underlying25 rfl (by kernel_rfl) ?_
                  simp only [Act.put, List.setIfInBounds_toArray, List.set_cons_succ, List.set_cons_zero]
                  repeat (first | go_big_quiet_skip | (go_big_quiet_want; go_big_quiet_op; first | go_big_quiet_on | (refine ⟨_, fun _ _ => rfl, ?_⟩; go_big_quiet_on)))
                  refine wpQuiet_nil ?_
                  refine Tc.plan_one 2 rfl (fun K hK => ?_)
                  go_wp2_with fail
                  refine (C6.out _ (T32.out.below BB33.out)).mono ?_
                  rintro e w34 ⟨⟨u, rfl, hu⟩, b34⟩
                  have bb := b34.mono BB33.out.size
                  have BB34 := Lib.hid (BB33.out.trans bb)
                  have Y34 := Lib.hid hu
                  go_wp2_with fail
                  refine hK _ _ (keep_below bb) ?_
                  clear hK K bb b34 BB33 hu
                  refine Tc.plan_one 5 rfl (fun K hK => ?_)
                  go_wp2_with fail
                  refine (C7.out a u _ Y34.out (T32.out.below BB34.out)).mono ?_
                  rintro e w35 ⟨rfl, b35⟩
                  have bb := b35.mono BB34.out.size
                  have BB35 := Lib.hid (BB34.out.trans bb)
                  go_wp2_with fail
                  refine hK _ _ (keep_below bb) ?_
                  clear hK K bb b35 BB34 Y34
                  refine Tc.plan_done (l := []) rfl (fun K hK => ?_)
                  go_wp2_with fail
                  go_meet
                  exact ⟨rfl, BB35⟩
                case rest =>
                  rename World => w33
                  obtain ⟨rfl, b33⟩ := hcut
                  have B33 := Lib.hid (B32.out.trans (b33.out.mono B32.out.size))
                  have S33 := Lib.hid (S32.out.below b33.out)
                  have R33 := Lib.hid (R32.out.below b33.out)
                  have HV2 := HV
                  obtain ⟨vb, hvb⟩ : ∃ vb, verB a (msgC c) c.r c.g = vb := ⟨_, rfl⟩
                  have VB := Lib.hid hvb
                  rw [hvb]
                  clear hvb b33 B32 S32 R32 P32 T32 PL
                  cases vb
                  rotate_left
                  · go_wp2_with fail
                    go_ret
                    exact ⟨rfl, B33.out⟩
                  have K2 : Hid (key ∈ L'.map Prod.fst) := Lib.hid (by
                    rcases KM.out with e | e
                    · have h := VB.out
                      rw [← e, HV.out] at h
                      cases h
                    · exact e)
                  clear KM VB
                  go_wp2_with fail
                  go_roundg (gk - 1)
                  case measure => have := PE.out; omega
                  case rel =>
                    go_light
                    exact ⟨L', by have := PE.out; omega, K2, R33, S33⟩
      have f3 : (c.k == 3) = false := by rw [beq_eq_false_iff_ne]; exact k3
      have F1 : lawK c x = [(key, .bool true)] := by
        rcases HKK.out with h | h | h
        · exact absurd h.1 k1
        · exact absurd h.1 k3
        · exact h.2.2
      rw [F1] at M8
      obtain ⟨mm, hmm⟩ : ∃ y : List (Int × Value), [(key, .bool true)] = y := ⟨_, rfl⟩
      have KE : Hid (IM.get mm key = some (.bool true)) := Lib.hid (by rw [← hmm]; unfold IM.get; rw [if_pos rfl])
      rw [hmm] at M8
      have MA := M8
      have SY := S8
      clear hmm M8 S8 x2 P8 B8 HKK F1 k1 k3
      go_wp2_with (first | ((with_reducible (show wpList _ _ _ (Oper.mk (some 145) _ _ _ _ _ :: _) _ _)); refine Hid.out ?_))
      refine Lib.hid ?_
      refine IM.wpList_range rfl 37 3 4 (.tmp 144) rfl rfl MA.out Tryd.underlying37 ?_
      intro w30 R30 b30
      have S30 := Lib.hid (Since.below SY.out b30.out)
      have KI := Lib.hid (mem_get KE.out)
      have RL := Lib.hid (show w5.heap.size ≤ w8.heap.size from SY.out.le)
      clear b30 MA KE SY
      go_wp2_with fail
      simp only [Act.put, List.setIfInBounds_toArray, List.set_cons_succ, List.set_cons_zero]
      go_loopg [] mm.length (fun gh wx => ∃ L : List (Int × Value), L.length = gh ∧ Hid (key ∈ L.map Prod.fst) ∧ Hid (IM.Rng wx w5.heap.size w8.heap.size mm L) ∧ Hid (Since w5 wx))
      case atStart => exact ⟨mm, rfl, KI, R30, S30⟩
      case round =>
        clear R30 S30 KI
        obtain ⟨L, hg, hK, hR, hS⟩ := hrel
        obtain ⟨w31, rfl⟩ : ∃ y, y = wr := ⟨_, rfl⟩
        have HG := Lib.hid hg
        clear hg
        go_wp2_with (first | ((with_reducible (show wpList _ _ _ (Oper.mk (some 146) _ _ _ _ _ :: _) _ _)); refine Hid.out ?_))
        refine Lib.hid ?_
        refine IM.wpList_next rfl (.tmp 145) rfl rfl hR.out ?_ ?_
        · intro hl
          exfalso
          have h := hK.out
          rw [hl] at h
          cases h
        · intro w32 a v L' hp R32 O32 he
          have S32 : Hid (Since w5 w32) := Lib.hid (Below.trans hS.out.b (O32.out.below RL.out hS.out.le))
          have PE : Hid (L'.length + 1 = gk) := Lib.hid (by have h := hp.out.length_eq; have h2 := HG.out; rw [List.length_cons] at h; omega)
          have KM : Hid (key = a ∨ key ∈ L'.map Prod.fst) := Lib.hid (by have h := (hp.out.map Prod.fst).mem_iff.1 hK.out; rw [List.map_cons, List.mem_cons] at h; exact h)
          have B32 := Lib.hid (BS.out.trans (S32.out.b.mono BS.out.size))
          have P32 := Lib.hid (PS.out.below S32.out.b)
          have T32 := Lib.hid (TS.out.below S32.out.b)
          have PL := Lib.hid P32.out.lt
          clear hp O32 hR hS hK HG
          go_upto_region 39 with fail
          clear he
          go_cut [155] from 150 to 155 (fun s155 wx => s155 = .bool (verB a (msgC c) c.r c.g) ∧ Hid (Below w32.heap.size w32 wx))
          case first =>
            refine Tc.wp_region_plan (keep w32.heap.size) 6 [] (.fl 0 (.fl 1 (.fl 3 (.fl 4 (.one 2 (.one 5 .done)))))) (by kernel_rfl) (by kernel_rfl) ?_
            intro w33 b33 e33
            have BB33 : Hid (Below w32.heap.size w32 w33) := Lib.hid b33
            clear b33 e33
            refine Tc.plan_floats [0, 1, 3, 4] [_, _, _, _] rfl ?_
            dsimp only [List.getElem_toArray, List.getElem_cons_succ, List.getElem_cons_zero]
            repeat (first | go_big_quiet_skip | (go_big_quiet_want; go_big_quiet_op; first | go_big_quiet_on | (refine ⟨_, fun _ _ => rfl, ?_⟩; go_big_quiet_on)))
            refine wpQuiet_load_part rfl 27 (.tmp 5) rfl w.heap.size 0 rfl 8 8 _ ((ctC c)) ((ctC c)) (fun W hW => row_keep (n := w32.heap.size) ((P32.out).below BB33.out) (PL.out) hW) (by decide) (fun j _ => by rw [Nat.zero_add]) _ Tryd.underlying27 rfl (by kernel_rfl) ?_
            simp only [Act.put, List.setIfInBounds_toArray, List.set_cons_succ, List.set_cons_zero]
            repeat (first | go_big_quiet_skip | (go_big_quiet_want; go_big_quiet_op; first | go_big_quiet_on | (refine ⟨_, fun _ _ => rfl, ?_⟩; go_big_quiet_on)))
            refine wpQuiet_load_part rfl 25 (.tmp 153) rfl w.heap.size 6 rfl 8 2 _ ((ctC c)) ((sgC c)) (fun W hW => row_keep (n := w32.heap.size) ((P32.out).below BB33.out) (PL.out) hW) (by decide) (fun j hj => by match j, hj with | 0, _ => rfl | 1, _ => rfl) _ Tryd.underlying25 rfl (by kernel_rfl) ?_
            simp only [Act.put, List.setIfInBounds_toArray, List.set_cons_succ, List.set_cons_zero]
            repeat (first | go_big_quiet_skip | (go_big_quiet_want; go_big_quiet_op; first | go_big_quiet_on | (refine ⟨_, fun _ _ => rfl, ?_⟩; go_big_quiet_on)))
            refine wpQuiet_nil ?_
            refine Tc.plan_one 2 rfl (fun K hK => ?_)
            go_wp2_with fail
            refine (C6.out _ (T32.out.below BB33.out)).mono ?_
            rintro e w34 ⟨⟨u, rfl, hu⟩, b34⟩
            have bb := b34.mono BB33.out.size
            have BB34 := Lib.hid (BB33.out.trans bb)
            have Y34 := Lib.hid hu
            go_wp2_with fail
            refine hK _ _ (keep_below bb) ?_
            clear hK K bb b34 BB33 hu
            refine Tc.plan_one 5 rfl (fun K hK => ?_)
            go_wp2_with fail
            refine (C7.out a u _ Y34.out (T32.out.below BB34.out)).mono ?_
            rintro e w35 ⟨rfl, b35⟩
            have bb := b35.mono BB34.out.size
            have BB35 := Lib.hid (BB34.out.trans bb)
            go_wp2_with fail
            refine hK _ _ (keep_below bb) ?_
            clear hK K bb b35 BB34 Y34
            refine Tc.plan_done (l := []) rfl (fun K hK => ?_)
            go_wp2_with fail
            go_meet
            exact ⟨rfl, BB35⟩
          case rest =>
            rename World => w33
            obtain ⟨rfl, b33⟩ := hcut
            have B33 := Lib.hid (B32.out.trans (b33.out.mono B32.out.size))
            have S33 := Lib.hid (S32.out.below b33.out)
            have R33 := Lib.hid (R32.out.below b33.out)
            have HV2 := HV
            obtain ⟨vb, hvb⟩ : ∃ vb, verB a (msgC c) c.r c.g = vb := ⟨_, rfl⟩
            have VB := Lib.hid hvb
            rw [hvb]
            clear hvb b33 B32 S32 R32 P32 T32 PL
            cases vb
            rotate_left
            · go_wp2_with fail
              go_ret
              exact ⟨rfl, B33.out⟩
            have K2 : Hid (key ∈ L'.map Prod.fst) := Lib.hid (by
              rcases KM.out with e | e
              · have h := VB.out
                rw [← e, HV.out] at h
                cases h
              · exact e)
            clear KM VB
            go_wp2_with fail
            go_roundg (gk - 1)
            case measure => have := PE.out; omega
            case rel =>
              go_light
              exact ⟨L', by have := PE.out; omega, K2, R33, S33⟩

set_option maxRecDepth 100000 in
set_option maxHeartbeats 1000000 in
theorem lifted (os : Os) (started : os.Started) (H : Type) (enc : TypeId × Value → H) :
    ReturnsInHanded {} Tryd.checked os 3 .any (fun w args => (Rows.peopleSignedSpec.pre enc Tryd.prog Tryd.f3 [] false w args ∧ laidMetH Tryd.prog laidL w) ∧ sizedMet enc Tryd.prog Tryd.f3 (OpenSpec.ofChange Rows.peopleSignedSpec) false w args)
      (Rows.peopleSignedSpec.post enc Tryd.prog Tryd.f3 false true false false) := by
  refine returnsInHanded_of_change_and (C := Tryd.checked) (X := fun w _ => laidMetH Tryd.prog laidL w) (fun _ _ _ hh h => h.of_heap hh) own started (by kernel_rfl) Tryd.func3
    (ChangeSpec.witness_shaped (enc := enc) (C := Tryd.checked) (os := os) (X := fun w _ => laidMetH Tryd.prog laidL w) false (World.doorLaid Tryd.prog 19 os) #[.slice none 0 0, .slice none 0 0, .agg #[.int .i64 0, .int .i64 0, .int .i64 0, .int .i64 0, .int .i64 0, .int .i64 0, .int .i64 0, .int .i64 0]] 8 rfl (World.shaped_of_RefB (by kernel_rfl) (by kernel_rfl)) (by kernel_rfl) (by kernel_rfl) (by kernel_rfl) (door_met os _)) ?_
  intro W base args ds gs before hval0 hW _ hsz hL _
  have hval : ∀ (j : Nat) t v, Tryd.f3.params[j]? = some t → args[j]? = some v → Value.okWide Tryd.prog W .any base t v := hval0
  have hW' := hW
  obtain ⟨p, q, hA0, hV, rfl, hfz, hnd⟩ := hW
  have hA : DataW.TrodAll enc Tryd.prog W 0 (fun _ => true) true Tryd.f3.params.toList args.toList ds p := hA0
  rw [Tryd.params3] at hA hval
  obtain ⟨v0, vs0, d0, ds0, p0, q0, hargs, rfl, rfl, h0, r0⟩ := trodAll_cons hA
  obtain ⟨v1, vs1, d1, ds1, p1, q1, rfl, rfl, rfl, h1, r1⟩ := trodAll_cons r0
  obtain ⟨v2, vs2, d2, ds2, p2, q2, rfl, rfl, rfl, h2, r2⟩ := trodAll_cons r1
  obtain ⟨rfl, rfl, rfl⟩ := trodAll_nil r2
  obtain rfl : args = #[v0, v1, v2] := by cases args; simp_all
  obtain ⟨rfl, rfl⟩ := trodVars_none hV
  have k0 := h0
  have lt0 : ∀ x ∈ p0, x.block < W.heap.size := by obtain ⟨m, hm⟩ := k0; exact DataW.trod_lt m _ _ _ hm
  obtain ⟨l0, g0, s0⟩ := slice_open (c := peA) (good := goodPe W) (pe0, pe00) Tryd.underlying22 (show Tryd.prog.cellsOf 40 = 5 by kernel_rfl) (by decide) (fun n cs x h => trod_pe h) (hval 0 22 v0 rfl rfl) h0 (fun elems spare e => by
    have := sized_slice hsz (j := 0) (t := 22) (e := 40) (elems := elems) (spare := spare) (by kernel_rfl) (by rw [← e]; rfl) Tryd.underlying22
    rw [show Tryd.checked.prog.bytesOf 40 = 56 by kernel_rfl] at this; omega)
  have k1 := h1
  have lt1 : ∀ x ∈ p1, x.block < W.heap.size := by obtain ⟨m, hm⟩ := k1; exact DataW.trod_lt m _ _ _ hm
  obtain ⟨l1, g1, s1⟩ := slice_open (c := liC) (good := Li.wf) li0 Tryd.underlying23 (show Tryd.prog.cellsOf 31 = 5 by kernel_rfl) (by decide) (fun n cs x h => trod_li h) (hval 1 23 v1 rfl rfl) h1 (fun elems spare e => by
    have := sized_slice hsz (j := 1) (t := 23) (e := 31) (elems := elems) (spare := spare) (by kernel_rfl) (by rw [← e]; rfl) Tryd.underlying23
    rw [show Tryd.checked.prog.bytesOf 31 = 40 by kernel_rfl] at this; omega)
  have k2 := h2
  have lt2 : ∀ x ∈ p2, x.block < W.heap.size := by obtain ⟨m, hm⟩ := k2; exact DataW.trod_lt m _ _ _ hm
  obtain ⟨a2, wa2, rfl⟩ := ct_open (hval 2 27 v2 rfl rfl) h2
  have hT := tab_of_laid hL
  clear hA0 hval0 hsz hL
  simp only [List.append_nil] at hW'
  refine (walk v0 l0 g0 s0 v1 l1 g1 s1 a2 wa2 hT).mono fun e W' ⟨he, hg⟩ => ?_
  subst he
  exact ⟨_, rfl, _, _, _, [], _, [], hW', trodAll_mk1 (shut_bool Tryd.underlying4 _), (trodAll_cons_mk (Below.trod laidOut (by kernel_rfl) (of_decide_eq_true (by kernel_rfl)) k0 hg lt0) (trodAll_cons_mk (Below.trod laidOut (by kernel_rfl) (of_decide_eq_true (by kernel_rfl)) k1 hg lt1) (trodAll_cons_mk (Below.trod laidOut (by kernel_rfl) (of_decide_eq_true (by kernel_rfl)) k2 hg lt2) trodAll_mk0))), rfl, hg.frame _, fun h => by cases h⟩

theorem over : Rows.peopleSignedRow.holds Tryd.pinned (OpenSpec.ofChange Rows.peopleSignedSpec) :=
  OpenClaim.holds_of_wide 3 Tryd.f3 rfl rfl rfl rfl rfl rfl rfl ⟨rfl, rfl, rfl, rfl, rfl⟩ rfl rfl rfl rfl rfl (by kernel_rfl) Tryd.func3 (by kernel_rfl)
    (of_decide_eq_true (by kernel_rfl)) (by unfold Func.isWrapper; first | (rw [if_pos (by decide +kernel)]; kernel_rfl) | (rw [if_neg (by decide +kernel)]; exact ⟨rfl, rfl⟩))
    (fun os started H enc _ => lifted os started H enc)

end Go.Proofs.YtmmppibbglacdaaDoor.peopleSigned
namespace Go.Proofs.YtmmppibbglacdaaDoor
set_option maxRecDepth 100000 in
theorem peopleSigned_holds : Rows.PeopleSignedCardSaid :=
  Claim7.holds_tied_plain_at .later [] [.data, .data] true _ true
    peopleSigned.over (fun _ h => by cases h) (by kernel_rfl) (fun _ h => by cases h) peopleSigned_row_tie rfl ⟨rfl, rfl⟩ (by kernel_rfl) rfl
    (fun f fn hf hfn => by
      obtain rfl : f = 3 := Option.some.inj ((show Tryd.prog.funcNamed "chartroom/chartroomlaw37.PeopleSigned" = some 3 by kernel_rfl).symm.trans hf) |>.symm
      obtain rfl : fn = Tryd.f3 := (Option.some.inj (Tryd.func3.symm.trans hfn)).symm
      exact ⟨by kernel_rfl, fun j t ht => by
        rw [Tryd.params3] at ht
        have hm : t ∈ [22, 23, 27] := by simpa using Array.mem_of_getElem? ht
        have hall : ([22, 23, 27].all fun u => !Tryd.prog.wantsStandIn u) = true := by kernel_rfl
        exact (show Tryd.prog.wantsStandIn t = false by simpa using List.all_eq_true.1 hall t hm)⟩)
    (by kernel_rfl)
#print axioms peopleSigned_holds
end Go.Proofs.YtmmppibbglacdaaDoor
