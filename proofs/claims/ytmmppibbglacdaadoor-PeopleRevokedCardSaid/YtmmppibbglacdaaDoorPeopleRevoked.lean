/- PeopleRevoked returns true for every input. No condition beyond the card's own: the two tables of package digest are tied to the program's text. -/
import Derived.Test.YtmmppibbglacdaaDoorPk52
import Derived.Test.YtmmppibbglacdaaDoorPk51
import Derived.Test.YtmmppibbglacdaaDoorPk35
import Derived.Test.YtmmppibbglacdaaDoorCards
namespace Go.Proofs.YtmmppibbglacdaaDoor.peopleRevoked
open Go.ChangeShapes Go.WideShapes Go.ChangeAt Go.RowKit
open Go.ChangeMaps (open_string shut_string)
set_option linter.unusedVariables false
set_option linter.unusedSimpArgs false

/-- the map of the present devices -/
def MapP (w : World) (b : Nat) (l : List Li) : Prop := ∃ m, IM.At w b m ∧ ∀ z, IM.get m z = (getL l z).map (fun y => .bool (!y.g))
theorem MapP.below {w w' : World} {b : Nat} {l : List Li} (h : MapP w b l) (hb : Below w.heap.size w w') : MapP w' b l := by
  obtain ⟨m, h1, h2⟩ := h
  exact ⟨m, h1.below hb, h2⟩
theorem MapP.made (w : World) : MapP (w.alloc (.map #[] 0)) w.heap.size [] := ⟨[], IM.At.made w, fun z => rfl⟩
theorem get_snoc {x : List Li} (hu : Up x) {k : Nat} (hk : k < x.length) {y : Li} (hy : x.getD k li0 = y) (z : Int) : getL (x.take (k + 1)) z = if z = y.d then some y else getL (x.take k) z := by
  have ht : x.take (k + 1) = x.take k ++ [y] := by rw [take_succ_getD li0 x hk, hy]
  have hp : (x.take (k + 1)).Pairwise fun a b => a.d < b.d := hu.sublist (List.take_sublist _ _)
  rw [ht] at hp ⊢
  have hlt := (List.pairwise_append.1 hp).2.2
  unfold getL
  rw [List.find?_append]
  by_cases h : z = y.d
  · rw [if_pos h, List.find?_eq_none.2 (fun a ha => by have := hlt a ha y (List.mem_singleton_self _); simp; omega), List.find?_cons_of_pos (by simp [h])]; rfl
  · rw [if_neg h, List.find?_cons_of_neg (by simp; exact fun e => h e.symm)]; simp
theorem mapP_put {x : List Li} (hu : Up x) {k : Nat} (hk : k < x.length) {y : Li} (hy : x.getD k li0 = y) {m : List (Int × Value)} (h : ∀ z, IM.get m z = (getL (x.take k) z).map (fun y => .bool (!y.g))) (z : Int) : IM.get (IM.put m y.d (.bool (!y.g))) z = (getL (x.take (k + 1)) z).map (fun y => .bool (!y.g)) := by
  rw [get_snoc hu hk hy]
  by_cases hz : z = y.d
  · subst hz; rw [IM.get_put_same, if_pos rfl]; rfl
  · rw [IM.get_put_other hz, h, if_neg hz]
theorem get_pres {x : List Li} {m : List (Int × Value)} (h : ∀ z, IM.get m z = (getL x z).map (fun y => .bool (!y.g))) (z : Int) : (IM.get m z).getD (.bool false) = .bool (presB x z) := by
  rw [h]; unfold presB lastL
  cases getL x z <;> rfl
theorem rev_ok {ps : List Pe} {x : List Li} {c : Ct} (h : (accF ps x c).1 = 0) : c.k = 1 ∨ c.k = 3 ∨ (c.k = 2 ∧ presB x c.b = true) ∨ (c.k = 4 ∧ presB x c.b = true ∧ presB x c.d = true) := by
  obtain ⟨_, h2, p, _, h4⟩ := accF_ok h
  rw [h4] at h
  have hk := kinds_form h2
  obtain ⟨_, _, k, h5, _⟩ := verF_ok hk h
  unfold keyF at h5
  rcases hk with e | e | e | e
  · exact .inl e
  · rw [if_neg (by omega), if_pos e] at h5
    split at h5
    · rename_i hp; exact .inr (.inr (.inl ⟨e, hp⟩))
    · cases h5
  · exact .inr (.inl e)
  · rw [if_neg (by omega), if_neg (by omega), if_neg (by omega)] at h5
    split at h5
    · rename_i hp; rw [Bool.and_eq_true] at hp; exact .inr (.inr (.inr ⟨e, hp⟩))
    · cases h5
set_option maxRecDepth 100000 in
set_option maxHeartbeats 16000000 in
theorem walk {w : World} (v : Value) (pl : List (Pe × Sv)) (hg : ∀ a ∈ pl, goodPe w a) (hs : SlAt 5 w v pl.length (fun i => peA (pl.getD i (pe0, pe00))))
    (cv : Value) (cs : List Ct) (gc : ∀ a ∈ cs, a.wf) (hc : SlAt 8 w cv cs.length (fun i => ctC (cs.getD i ct0))) (c : Ct) (wc : c.wf) (hT : Tab w) :
    Calls Tryd.prog 6 #[v, cv, .agg (rowF 8 (ctC c))] w fun e w' => e = .returned (.bool true) ∧ Below w.heap.size w w' := by
  have hmm := fun W => run_makeMap_plain (w := W) (P := Tryd.prog) 37
  have PW := pes_open hg hs
  obtain ⟨ps, hps⟩ : ∃ y, pl.map (·.1) = y := ⟨_, rfl⟩
  obtain ⟨us, hus⟩ : ∃ y : Nat → Sv, (fun i => (pl.getD i (pe0, pe00)).2) = y := ⟨_, rfl⟩
  rw [hps, hus] at PW
  have T0 := Lib.hid hT
  have clen : (cs.length : Int) ≤ 9223372036854775807 := by have := hc.len_le; omega
  have C1 := Lib.hid (fun W hT => sane37_any W hT)
  obtain ⟨ca, cc, rfl⟩ := hc.slice
  have C2 : Hid (∀ W, Below w.heap.size w W → Calls Tryd.prog 9 #[v, .slice none 0 0, .slice ca cs.length cc] W fun e w' => e = .returned (.bool (fewB ps 0 cs.length)) ∧ Below W.heap.size W w') := Lib.hid (fun W b => few37_any ps us v none ca 0 0 cs.length cc W ⟨PW.1.below b, fun i hi => ⟨(PW.2 i hi).1, fun h => ((PW.2 i hi).2.1 h).below b, (PW.2 i hi).2.2⟩⟩ (by decide) clen)
  obtain ⟨X, hX⟩ : ∃ y, lisF ps cs = y := ⟨_, rfl⟩
  have C3 : Hid (fewB ps 0 cs.length = true → ∀ W, Below w.heap.size w W → Tab W → Calls Tryd.prog 14 #[v, .slice ca cs.length cc] W fun e w' => (∃ u, e = .returned u ∧ LiS w' u X) ∧ Below W.heap.size W w') := Lib.hid (fun h W b t => by
    have := plistings_any ps us v cs (.slice ca cs.length cc) W ((PW.pes (fewB_iff h).2.2.2).below b) (Nat.le_trans (fewB_iff h).1 (by decide)) (hc.below b) (Nat.le_trans (fewB_iff h).2.2.1 (by decide)) gc t
    rw [hX] at this
    exact this.mono fun e w' ⟨u, h1, h2, h3⟩ => ⟨⟨u, h1, h2⟩, h3⟩)
  have xu : Up X := by rw [← hX]; exact lisF_up ps cs
  have XL : fewB ps 0 cs.length = true → X.length ≤ 1000 := fun h => by rw [← hX]; exact Nat.le_trans (lisF_len ps cs) (Nat.le_trans (fewB_iff h).2.2.1 (by decide))
  have C4 : Hid (fewB ps 0 cs.length = true → ∀ u W, Below w.heap.size w W → Tab W → LiS W u X → Calls Tryd.prog 10 #[v, u, .agg (rowF 8 (ctC c))] W fun e w' => e = .returned (.tuple #[liA (accF ps X c).2, .int .i64 (accF ps X c).1]) ∧ Below W.heap.size W w') := Lib.hid (fun h u W b t hu => paccept_any ps us v X u c wc W ((PW.pes (fewB_iff h).2.2.2).below b) (Nat.le_trans (fewB_iff h).1 (by decide)) hu (XL h) t)
  have rk := @rev_ok ps X c
  obtain ⟨R, hR⟩ : ∃ y, accF ps X c = y := ⟨_, rfl⟩
  rw [hR] at C4 rk
  obtain ⟨E, y⟩ := R
  obtain ⟨fb, hfb⟩ : ∃ y, fewB ps 0 cs.length = y := ⟨_, rfl⟩
  rw [hfb] at C2 C3 C4 XL
  obtain ⟨cn, hcn⟩ : ∃ y, cs.length = y := ⟨_, rfl⟩
  rw [hcn] at C2 C3 clen ⊢
  have RK := Lib.hid rk
  have XU := Lib.hid xu
  have HXL := Lib.hid XL
  obtain ⟨va, vn, vc, rfl⟩ : ∃ va vn vc, v = .slice va vn vc := by obtain ⟨a, c, h⟩ := hs.slice; exact ⟨_, _, _, h⟩
  clear hT PW hps hus hg hs hR hfb wc gc hc hX XL hcn rk xu clen
  go_enter Tryd.func6, Tryd.ntmps6
  have B0 := Lib.hid (Below.refl w.heap.size w)
  go_upto_region 1 with fail
  obtain ⟨w1, hw1⟩ : ∃ y, w.alloc (.cells (rowF 8 (ctC c)) 27) = y := ⟨_, rfl⟩
  have b1 : Below w.heap.size w w1 := by rw [← hw1]; exact (Below.refl _ _).alloc (Nat.le_refl _) _
  have P1 : Hid (RowV w1 w.heap.size 27 8 (ctC c)) := Lib.hid (by rw [← hw1]; exact RowV.new w _ 8 (ctC c))
  have z1 : w.heap.size + 1 = w1.heap.size := by rw [← hw1]; exact (Array.size_push _).symm
  rw [hw1]
  (try rw [z1])
  have B1 := Lib.hid (B0.out.trans (b1.mono B0.out.size))
  have T1 := Lib.hid (T0.out.below b1)
  clear b1 hw1 z1 B0 T0
  go_wp2_with fail
  refine (C1.out _ T1.out).mono ?_
  rintro e w2 ⟨rfl, b2⟩
  have B2 := Lib.hid (B1.out.trans (b2.mono B1.out.size))
  have T2 := Lib.hid (T1.out.below b2)
  have P2 := Lib.hid (P1.out.below b2)
  clear b2 B1 T1 P1
  go_wp2_with fail
  refine (C2.out _ B2.out).mono ?_
  rintro e w3 ⟨rfl, b3⟩
  have B3 := Lib.hid (B2.out.trans (b3.mono B2.out.size))
  have T3 := Lib.hid (T2.out.below b3)
  have P3 := Lib.hid (P2.out.below b3)
  clear b3 B2 T2 P2
  clear C1 C2
  cases fb
  · go_wp2_with fail
    go_ret
    exact ⟨rfl, B3.out⟩
  go_wp2_with fail
  refine (C3.out trivial _ B3.out T3.out).mono ?_
  rintro e w4 ⟨⟨lv, rfl, hl⟩, b4⟩
  have B4 := Lib.hid (B3.out.trans (b4.mono B3.out.size))
  have T4 := Lib.hid (T3.out.below b4)
  have P4 := Lib.hid (P3.out.below b4)
  clear b4 B3 T3 P3
  obtain ⟨xa, xc, rfl⟩ := hl.slice
  have U4 := Lib.hid hl
  clear hl C3
  go_wp2_with (first | ((with_reducible (show wpList _ _ _ (Oper.mk (some 25) _ _ _ _ _ :: _) _ _)); refine Hid.out ?_))
  refine Lib.hid ?_
  refine wpList_load_rowV rfl 27 (.tmp 5) rfl w.heap.size rfl 8 _ _ (P4.out) _ Tryd.underlying27 rfl (by kernel_rfl) ?_
  go_wp2_with fail
  refine (C4.out trivial _ _ B4.out T4.out U4.out).mono ?_
  rintro e w5 ⟨rfl, b5⟩
  have B5 := Lib.hid (B4.out.trans (b5.mono B4.out.size))
  have T5 := Lib.hid (T4.out.below b5)
  have P5 := Lib.hid (P4.out.below b5)
  have U5 := Lib.hid (U4.out.below b5)
  clear b5 B4 T4 P4 U4
  have Zr := Lib.hid (RowV.new w5 31 5 (liC li0))
  go_upto_region 7 with ((with_reducible (show wpList _ _ _ (Oper.mk none _ _ _ _ _ :: _) _ _)); refine wpList_store_rowV (o := ⟨none, .store 31 (.tmp 8) (.tmp 27), _, _, _, _⟩) rfl 31 (.tmp 8) (.tmp 27) rfl w5.heap.size rfl 5 31 _ (liC y) rfl Zr.out (by kernel_rfl) (fun j _ => liC_one _ j) ?_; intro w6 Y6 o6)
  have b6 : Below w5.heap.size w5 w6 := ((Below.refl _ _).alloc (Nat.le_refl _) _).trans (o6.out.below (Nat.le_refl _) (by rw [World.size_alloc]; omega))
  have B6 := Lib.hid (B5.out.trans (b6.mono B5.out.size))
  have T6 := Lib.hid (T5.out.below b6)
  have P6 := Lib.hid (P5.out.below b6)
  have U6 := Lib.hid (U5.out.below b6)
  clear b6 o6 Zr B5 T5 P5 U5
  clear Y6
  clear C4
  have XLE := HXL.out trivial
  obtain ⟨n, hn⟩ : ∃ y, X.length = y := ⟨_, rfl⟩
  have U := Lib.hid U6.out
  rw [hn] at XLE U ⊢
  have HN := Lib.hid hn
  have qn : (n : Int) ≤ 1000 := by omega
  have S6 := Lib.hid (Since.refl w6)
  have BS := Lib.hid B6.out
  have PS := Lib.hid P6.out
  clear hn XLE HXL
  clear T6 P6 U6
  go_wp2_with fail
  obtain ⟨w7, hw7⟩ : ∃ y, w6.alloc (.map #[] 0) = y := ⟨_, rfl⟩
  have b7 : Below w6.heap.size w6 w7 := by rw [← hw7]; exact (Below.refl _ _).alloc (Nat.le_refl _) _
  have M7 : Hid (MapP w7 w6.heap.size []) := Lib.hid (by rw [← hw7]; exact MapP.made w6)
  have z7 : w6.heap.size + 1 = w7.heap.size := by rw [← hw7]; exact (Array.size_push _).symm
  rw [hw7]
  (try rw [z7])
  have B7 := Lib.hid (B6.out.trans (b7.mono B6.out.size))
  have S7 := Lib.hid (S6.out.below b7)
  clear b7 hw7 z7 B6 S6
  clear hmm
  go_wp2_with fail
  go_loopg [32] n (fun g s32 wx => ∃ k : Nat, k + g = n ∧ s32 = .int .i64 (k : Int) ∧ Hid (MapP wx w6.heap.size (X.take k)) ∧ Hid (Since w6 wx))
  case atStart => exact ⟨0, by omega, rfl, M7, S7⟩
  case round =>
    clear M7 S7
    obtain ⟨k, hk, rfl, hM, hS⟩ := hrel
    obtain ⟨w8, rfl⟩ : ∃ y, y = wr := ⟨_, rfl⟩
    have q0 : (0 : Int) ≤ (k : Int) := Int.natCast_nonneg k
    by_cases hlt : k < n
    · have d0 : decide ((k : Int) < (n : Int)) = true := by rw [decide_eq_true_iff]; omega
      have d1 : decide (k < n) = true := by rw [decide_eq_true_iff]; omega
      obtain ⟨b, off, rfl, hcap, hb, hc⟩ := SlAt.at_elem (s := 5) (n := n) (a := xa) (k := xc) (c := fun i => liC (X.getD i li0)) (U.out.below hS.out) hlt
      have HLT := Lib.hid hlt
      have HCK := Lib.hid (fun j hj => hc k hlt j hj)
      obtain ⟨u, hu⟩ : ∃ y, X.getD k li0 = y := ⟨_, rfl⟩
      have PUT := Lib.hid (fun m h => @mapP_put X XU.out k (by rw [HN.out]; exact hlt) u hu m h)
      rw [hu] at HCK
      have p1 : (k : Int) + 1 ≤ 1000 := by omega
      clear hc hcap hb hu hlt
      go_wp2_with (first | ((with_reducible (show wpList _ _ _ (Oper.mk (some 35) _ _ _ _ _ :: _) _ _)); refine Hid.out ?_))
      refine Lib.hid ?_
      refine wpList_load_elem rfl 31 (.tmp 34) rfl b (off + k * 5) rfl 5 off k (by rw [Nat.mul_comm]) (liC u) HCK.out _ Tryd.underlying31 rfl (by kernel_rfl) ?_
      clear HCK d0 d1
      have M8 := hM
      have S8 := hS
      have B8 := Lib.hid (BS.out.trans (hS.out.b.mono BS.out.size))
      clear hM hS
      have Zr := Lib.hid (RowV.new w8 31 5 (liC li0))
      go_upto_region 11 with ((with_reducible (show wpList _ _ _ (Oper.mk none _ _ _ _ _ :: _) _ _)); refine wpList_store_rowV (o := ⟨none, .store 31 (.tmp 12) (.tmp 35), _, _, _, _⟩) rfl 31 (.tmp 12) (.tmp 35) rfl w8.heap.size rfl 5 31 _ (liC u) rfl Zr.out (by kernel_rfl) (fun j _ => liC_one _ j) ?_; intro w9 V9 o9)
      have b9 : Below w8.heap.size w8 w9 := ((Below.refl _ _).alloc (Nat.le_refl _) _).trans (o9.out.below (Nat.le_refl _) (by rw [World.size_alloc]; omega))
      have B9 := Lib.hid (B8.out.trans (b9.mono B8.out.size))
      have M9 := Lib.hid (M8.out.below b9)
      have S9 := Lib.hid (S8.out.below b9)
      clear b9 o9 Zr B8 M8 S8
      obtain ⟨m, hm1, hm2⟩ := M9.out
      have x0 : w9.cell? ⟨w8.heap.size, 0, none⟩ = some (.int .i64 u.d) := V9.out.cell (i := 0) (by decide)
      have x4 : w9.cell? ⟨w8.heap.size, 4, none⟩ = some (.bool u.g) := V9.out.cell (i := 4) (by decide)
      have MP := Lib.hid hm2
      go_wp2_with (first | ((with_reducible (show wpList _ _ _ (Oper.mk none _ _ _ _ _ :: _) _ _)); refine Hid.out ?_))
      refine Lib.hid ?_
      refine IM.wpList_update rfl 37 3 4 (.tmp 36) (.tmp 38) (.tmp 41) rfl u.d (.bool (!u.g)) rfl rfl rfl hm1 Tryd.underlying37 Tryd.underlying3 ?_
      intro w10 A10 O10
      have M10 : Hid (MapP w10 w6.heap.size (X.take (k + 1))) := Lib.hid ⟨_, A10.out, fun z => PUT.out m MP.out z⟩
      have S10 : Hid (Since w6 w10) := Lib.hid (Below.trans S9.out.b (O10.out.below (Nat.le_refl _) S9.out.le))
      clear A10 O10 hm1 hm2 MP M9 B9 V9 S9 x0 x4 PUT
      go_wp2_with fail
      go_roundg (n - (k + 1))
      case measure => have := HLT.out; omega
      case rel =>
        go_light
        exact ⟨k + 1, by have := HLT.out; omega, by go_num, M10, S10⟩
    · have d0 : decide ((k : Int) < (n : Int)) = false := by rw [decide_eq_false_iff_not]; omega
      have d1 : decide (k < n) = false := by rw [decide_eq_false_iff_not]; omega
      have M8 : Hid (MapP w8 w6.heap.size X) := Lib.hid (by have h := hM.out; rwa [List.take_of_length_le (by rw [HN.out]; omega)] at h)
      have B8 := Lib.hid (BS.out.trans (hS.out.b.mono BS.out.size))
      have P8 := Lib.hid (PS.out.below hS.out.b)
      obtain ⟨m, hm1, hm2⟩ := M8.out
      have GP := Lib.hid (fun z => get_pres hm2 z)
      have x0 : w8.cell? ⟨w.heap.size, 0, none⟩ = some (.int .i64 c.k) := P8.out.cell (i := 0) (by decide)
      have x1 : w8.cell? ⟨w.heap.size, 1, none⟩ = some (.int .i64 c.d) := P8.out.cell (i := 1) (by decide)
      have x5 : w8.cell? ⟨w.heap.size, 5, none⟩ = some (.int .i64 c.b) := P8.out.cell (i := 5) (by decide)
      clear M8 P8 hM hS hm2 PS BS hlt hk q0 U XU HN
      go_upto_region 13 with fail
      clear d0 d1
      by_cases k2 : c.k = 2
      · have e1 : (c.k == 2) = true := by rw [beq_iff_eq]; exact k2
        have RB : Hid (E = 0 → presB X c.b = true) := Lib.hid (fun h => by rcases RK.out h with e | e | e | e; omega; omega; exact e.2; omega)
        clear k2 RK
        go_wp2_with (first | ((with_reducible (show wpList _ _ _ (Oper.mk (some 50) _ _ _ _ _ :: _) _ _)); refine Hid.out ?_))
        refine Lib.hid ?_
        refine IM.wpList_lookup rfl 37 3 4 (.tmp 47) (.tmp 49) false rfl c.b rfl rfl hm1 Tryd.underlying37 Tryd.underlying3 zero_bool ?_
        rw [if_neg Bool.false_ne_true, GP.out]
        obtain ⟨pb, hpb⟩ : ∃ y, presB X c.b = y := ⟨_, rfl⟩
        rw [hpb] at RB ⊢
        clear GP hm1 hpb
        cases pb
        · have e2 : (E == 0) = false := by rw [beq_eq_false_iff_ne]; intro h; exact Bool.false_ne_true (RB.out h)
          have e3 : (E != 0) = true := by rw [bne, e2]; rfl
          clear RB
          go_wp2_with fail
          go_ret
          exact ⟨rfl, B8.out⟩
        · clear RB
          go_wp2_with fail
          go_ret
          exact ⟨rfl, B8.out⟩
      have e1 : (c.k == 2) = false := by rw [beq_eq_false_iff_ne]; exact k2
      by_cases k4 : c.k = 4
      · have e4 : (c.k == 4) = true := by rw [beq_iff_eq]; exact k4
        have RB : Hid (E = 0 → presB X c.b = true ∧ presB X c.d = true) := Lib.hid (fun h => by rcases RK.out h with e | e | e | e; omega; omega; omega; exact e.2)
        clear k2 k4 RK
        go_wp2_with (first | ((with_reducible (show wpList _ _ _ (Oper.mk (some 60) _ _ _ _ _ :: _) _ _)); refine Hid.out ?_))
        refine Lib.hid ?_
        refine IM.wpList_lookup rfl 37 3 4 (.tmp 57) (.tmp 59) false rfl c.b rfl rfl hm1 Tryd.underlying37 Tryd.underlying3 zero_bool ?_
        rw [if_neg Bool.false_ne_true, GP.out]
        obtain ⟨pb, hpb⟩ : ∃ y, presB X c.b = y := ⟨_, rfl⟩
        rw [hpb] at RB ⊢
        clear hpb
        cases pb
        · have e2 : (E == 0) = false := by rw [beq_eq_false_iff_ne]; intro h; exact Bool.false_ne_true (RB.out h).1
          have e3 : (E != 0) = true := by rw [bne, e2]; rfl
          clear RB GP hm1
          go_wp2_with fail
          go_ret
          exact ⟨rfl, B8.out⟩
        · skip
          go_wp2_with (first | ((with_reducible (show wpList _ _ _ (Oper.mk (some 65) _ _ _ _ _ :: _) _ _)); refine Hid.out ?_))
          refine Lib.hid ?_
          refine wpList_unguard rfl ?_
          refine IM.wpList_lookup rfl 37 3 4 (.tmp 62) (.tmp 64) false rfl c.d rfl rfl hm1 Tryd.underlying37 Tryd.underlying3 zero_bool ?_
          rw [if_neg Bool.false_ne_true, GP.out]
          obtain ⟨pd, hpd⟩ : ∃ y, presB X c.d = y := ⟨_, rfl⟩
          rw [hpd] at RB ⊢
          clear hpd GP hm1
          cases pd
          · have e2 : (E == 0) = false := by rw [beq_eq_false_iff_ne]; intro h; exact Bool.false_ne_true (RB.out h).2
            have e3 : (E != 0) = true := by rw [bne, e2]; rfl
            clear RB
            go_wp2_with fail
            go_ret
            exact ⟨rfl, B8.out⟩
          · clear RB
            go_wp2_with fail
            go_ret
            exact ⟨rfl, B8.out⟩
      have e4 : (c.k == 4) = false := by rw [beq_eq_false_iff_ne]; exact k4
      have RB : Hid (E = 0 → c.k = 1 ∨ c.k = 3) := Lib.hid (fun h => by rcases RK.out h with e | e | e | e; exact .inl e; exact .inr e; omega; omega)
      clear GP hm1 k2 k4 RK
      by_cases k1 : c.k = 1
      · have e5 : (c.k == 1) = true := by rw [beq_iff_eq]; exact k1
        clear RB k1
        go_wp2_with fail
        go_ret
        exact ⟨rfl, B8.out⟩
      have e5 : (c.k == 1) = false := by rw [beq_eq_false_iff_ne]; exact k1
      by_cases k3 : c.k = 3
      · have e6 : (c.k == 3) = true := by rw [beq_iff_eq]; exact k3
        clear RB k1 k3
        go_wp2_with fail
        go_ret
        exact ⟨rfl, B8.out⟩
      have e6 : (c.k == 3) = false := by rw [beq_eq_false_iff_ne]; exact k3
      have e2 : (E == 0) = false := by rw [beq_eq_false_iff_ne]; intro h; rcases RB.out h with e | e; exact k1 e; exact k3 e
      have e3 : (E != 0) = true := by rw [bne, e2]; rfl
      clear RB k1 k3
      go_wp2_with fail
      go_ret
      exact ⟨rfl, B8.out⟩

set_option maxRecDepth 100000 in
set_option maxHeartbeats 1000000 in
theorem lifted (os : Os) (started : os.Started) (H : Type) (enc : TypeId × Value → H) :
    ReturnsInHanded {} Tryd.checked os 6 .any (fun w args => (Rows.peopleRevokedSpec.pre enc Tryd.prog Tryd.f6 [] false w args ∧ laidMetH Tryd.prog laidL w) ∧ sizedMet enc Tryd.prog Tryd.f6 (OpenSpec.ofChange Rows.peopleRevokedSpec) false w args)
      (Rows.peopleRevokedSpec.post enc Tryd.prog Tryd.f6 false true false false) := by
  refine returnsInHanded_of_change_and (C := Tryd.checked) (X := fun w _ => laidMetH Tryd.prog laidL w) (fun _ _ _ hh h => h.of_heap hh) own started (by kernel_rfl) Tryd.func6
    (ChangeSpec.witness_shaped (enc := enc) (C := Tryd.checked) (os := os) (X := fun w _ => laidMetH Tryd.prog laidL w) false (World.doorLaid Tryd.prog 19 os) #[.slice none 0 0, .slice none 0 0, .agg #[.int .i64 0, .int .i64 0, .int .i64 0, .int .i64 0, .int .i64 0, .int .i64 0, .int .i64 0, .int .i64 0]] 8 rfl (World.shaped_of_RefB (by kernel_rfl) (by kernel_rfl)) (by kernel_rfl) (by kernel_rfl) (by kernel_rfl) (door_met os _)) ?_
  intro W base args ds gs before hval0 hW _ hsz hL _
  have hval : ∀ (j : Nat) t v, Tryd.f6.params[j]? = some t → args[j]? = some v → Value.okWide Tryd.prog W .any base t v := hval0
  have hW' := hW
  obtain ⟨p, q, hA0, hV, rfl, hfz, hnd⟩ := hW
  have hA : DataW.TrodAll enc Tryd.prog W 0 (fun _ => true) true Tryd.f6.params.toList args.toList ds p := hA0
  rw [Tryd.params6] at hA hval
  obtain ⟨v0, vs0, d0, ds0, p0, q0, hargs, rfl, rfl, h0, r0⟩ := trodAll_cons hA
  obtain ⟨v1, vs1, d1, ds1, p1, q1, rfl, rfl, rfl, h1, r1⟩ := trodAll_cons r0
  obtain ⟨v2, vs2, d2, ds2, p2, q2, rfl, rfl, rfl, h2, r2⟩ := trodAll_cons r1
  obtain ⟨rfl, rfl, rfl⟩ := trodAll_nil r2
  obtain rfl : args = #[v0, v1, v2] := by cases args; simp_all
  obtain ⟨rfl, rfl⟩ := trodVars_none hV
  have k0 := h0
  have lt0 : ∀ x ∈ p0, x.block < W.heap.size := by obtain ⟨m, hm⟩ := k0; exact DataW.trod_lt m _ _ _ hm
  obtain ⟨l0, g0, s0⟩ := slice_open (c := peA) (good := goodPe W) (pe0, pe00) Tryd.underlying22 (show Tryd.prog.cellsOf 40 = 5 by kernel_rfl) (by decide) (fun n cs x h => trod_pe h) (hval 0 22 v0 rfl rfl) h0 (fun elems spare e => by
    have := sized_slice hsz (j := 0) (t := 22) (e := 40) (elems := elems) (spare := spare) (by kernel_rfl) (by rw [← e]; rfl) Tryd.underlying22
    rw [show Tryd.checked.prog.bytesOf 40 = 56 by kernel_rfl] at this; omega)
  have k1 := h1
  have lt1 : ∀ x ∈ p1, x.block < W.heap.size := by obtain ⟨m, hm⟩ := k1; exact DataW.trod_lt m _ _ _ hm
  obtain ⟨l1, g1, s1⟩ := slice_open (c := ctC) (good := Ct.wf) ct0 Tryd.underlying45 (show Tryd.prog.cellsOf 27 = 8 by kernel_rfl) (by decide) (fun n cs x h => trod_ct h) (hval 1 45 v1 rfl rfl) h1 (fun elems spare e => by
    have := sized_slice hsz (j := 1) (t := 45) (e := 27) (elems := elems) (spare := spare) (by kernel_rfl) (by rw [← e]; rfl) Tryd.underlying45
    rw [show Tryd.checked.prog.bytesOf 27 = 64 by kernel_rfl] at this; omega)
  have k2 := h2
  have lt2 : ∀ x ∈ p2, x.block < W.heap.size := by obtain ⟨m, hm⟩ := k2; exact DataW.trod_lt m _ _ _ hm
  obtain ⟨a2, wa2, rfl⟩ := ct_open (hval 2 27 v2 rfl rfl) h2
  have hT := tab_of_laid hL
  clear hA0 hval0 hsz hL
  simp only [List.append_nil] at hW'
  refine (walk v0 l0 g0 s0 v1 l1 g1 s1 a2 wa2 hT).mono fun e W' ⟨he, hg⟩ => ?_
  subst he
  exact ⟨_, rfl, _, _, _, [], _, [], hW', trodAll_mk1 (shut_bool Tryd.underlying4 _), (trodAll_cons_mk (Below.trod laidOut (by kernel_rfl) (of_decide_eq_true (by kernel_rfl)) k0 hg lt0) (trodAll_cons_mk (Below.trod laidOut (by kernel_rfl) (of_decide_eq_true (by kernel_rfl)) k1 hg lt1) (trodAll_cons_mk (Below.trod laidOut (by kernel_rfl) (of_decide_eq_true (by kernel_rfl)) k2 hg lt2) trodAll_mk0))), rfl, hg.frame _, fun h => by cases h⟩

theorem over : Rows.peopleRevokedRow.holds Tryd.pinned (OpenSpec.ofChange Rows.peopleRevokedSpec) :=
  OpenClaim.holds_of_wide 6 Tryd.f6 rfl rfl rfl rfl rfl rfl rfl ⟨rfl, rfl, rfl, rfl, rfl⟩ rfl rfl rfl rfl rfl (by kernel_rfl) Tryd.func6 (by kernel_rfl)
    (of_decide_eq_true (by kernel_rfl)) (by unfold Func.isWrapper; first | (rw [if_pos (by decide +kernel)]; kernel_rfl) | (rw [if_neg (by decide +kernel)]; exact ⟨rfl, rfl⟩))
    (fun os started H enc _ => lifted os started H enc)

end Go.Proofs.YtmmppibbglacdaaDoor.peopleRevoked
namespace Go.Proofs.YtmmppibbglacdaaDoor
set_option maxRecDepth 100000 in
theorem peopleRevoked_holds : Rows.PeopleRevokedCardSaid :=
  Claim7.holds_tied_plain_at .later [] [.data, .data] true _ true
    peopleRevoked.over (fun _ h => by cases h) (by kernel_rfl) (fun _ h => by cases h) peopleRevoked_row_tie rfl ⟨rfl, rfl⟩ (by kernel_rfl) rfl
    (fun f fn hf hfn => by
      obtain rfl : f = 6 := Option.some.inj ((show Tryd.prog.funcNamed "chartroom/chartroomlaw37.PeopleRevoked" = some 6 by kernel_rfl).symm.trans hf) |>.symm
      obtain rfl : fn = Tryd.f6 := (Option.some.inj (Tryd.func6.symm.trans hfn)).symm
      exact ⟨by kernel_rfl, fun j t ht => by
        rw [Tryd.params6] at ht
        have hm : t ∈ [22, 45, 27] := by simpa using Array.mem_of_getElem? ht
        have hall : ([22, 45, 27].all fun u => !Tryd.prog.wantsStandIn u) = true := by kernel_rfl
        exact (show Tryd.prog.wantsStandIn t = false by simpa using List.all_eq_true.1 hall t hm)⟩)
    (by kernel_rfl)
#print axioms peopleRevoked_holds
end Go.Proofs.YtmmppibbglacdaaDoor
