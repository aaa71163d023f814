/- PeopleVersions returns true for every input. No condition beyond the card's own: the two tables of package digest are tied to the program's text. -/
import Derived.Test.YtmmppibbglacdaaDoorPk52
import Derived.Test.YtmmppibbglacdaaDoorPk51
import Derived.Test.YtmmppibbglacdaaDoorPk35
import Derived.Test.YtmmppibbglacdaaDoorCards
namespace Go.Proofs.YtmmppibbglacdaaDoor.peopleVersions
open Go.ChangeShapes Go.WideShapes Go.ChangeAt Go.RowKit
open Go.ChangeMaps (open_string shut_string)
set_option linter.unusedVariables false
set_option linter.unusedSimpArgs false

abbrev prN (z : Li) : Int × Value := (z.d, .int .i64 z.n)
theorem mapN_put {m : List (Int × Value)} {x : List Li} {y : Li} (hm : m.Perm (x.map prN)) (hn : (m.map (·.1)).Nodup) : (IM.put m y.d (.int .i64 y.n)).Perm ((withL y x).map prN) := by
  refine (put_perm hn).trans ?_
  refine List.Perm.trans ?_ ((withL_perm y x).map prN).symm
  rw [List.map_cons]
  refine List.Perm.cons _ ((hm.filter _).trans ?_)
  rw [List.filter_map]
  exact List.Perm.refl _
theorem mapN_keys {m : List (Int × Value)} {x : List Li} (hu : Up x) (hm : m.Perm (x.map prN)) : (m.map (·.1)).Nodup := by
  refine ((hm.map (·.1)).nodup_iff).2 ?_
  rw [List.map_map]
  exact up_nodup hu
theorem get_mem {m : List (Int × Value)} {k : Int} {v : Value} (hn : (m.map (·.1)).Nodup) (h : (k, v) ∈ m) : IM.get m k = some v := by
  induction m with
  | nil => cases h
  | cons q m ih =>
    obtain ⟨a, u⟩ := q
    rw [List.map_cons, List.nodup_cons] at hn
    unfold IM.get
    rcases List.mem_cons.1 h with e | e
    · cases e; rw [if_pos rfl]
    · rw [if_neg (fun h2 => hn.1 (by rw [← h2]; exact List.mem_map.2 ⟨_, e, rfl⟩))]
      exact ih hn.2 e
theorem get_not {m : List (Int × Value)} {k : Int} (h : k ∉ m.map (·.1)) : IM.get m k = none := by
  induction m with
  | nil => rfl
  | cons q m ih =>
    obtain ⟨a, u⟩ := q
    rw [List.map_cons, List.mem_cons, not_or] at h
    unfold IM.get
    rw [if_neg h.1]
    exact ih h.2
theorem getL_none {x : List Li} {d : Int} (h : getL x d = none) : d ∉ x.map (·.d) := by
  intro hm
  obtain ⟨z, hz, e⟩ := List.mem_map.1 hm
  unfold getL at h
  have := List.find?_eq_none.1 h z hz
  simp at this
  exact this e
theorem mapN_get {m : List (Int × Value)} {x : List Li} (hu : Up x) (hm : m.Perm (x.map prN)) (d : Int) : (IM.get m d).getD (.int .i64 0) = .int .i64 (lastL x d).n := by
  unfold lastL
  cases h : getL x d with
  | none =>
    rw [get_not (fun h2 => getL_none h ?_)]
    · rfl
    · have := (hm.map (·.1)).mem_iff.1 h2
      rw [List.map_map] at this
      exact this
  | some z =>
    have h1 : (d, Value.int .i64 z.n) ∈ m := hm.mem_iff.2 (List.mem_map.2 ⟨z, getL_mem h, by rw [← getL_d h]⟩)
    rw [get_mem (mapN_keys hu hm) h1]; rfl
/-- the map holds the versions of the listings -/
def MapN (w : World) (b : Nat) (x : List Li) : Prop := ∃ m, IM.At w b m ∧ m.Perm (x.map prN)
theorem MapN.below {w w' : World} {b : Nat} {x : List Li} (h : MapN w b x) (hb : Below w.heap.size w w') : MapN w' b x := by
  obtain ⟨m, h1, h2⟩ := h
  exact ⟨m, h1.below hb, h2⟩
theorem MapN.lt {w : World} {b : Nat} {x : List Li} (h : MapN w b x) : b < w.heap.size := by obtain ⟨m, h1, _⟩ := h; exact h1.lt
theorem MapN.made (w : World) : MapN (w.alloc (.map #[] 0)) w.heap.size [] := ⟨[], IM.At.made w, List.Perm.refl _⟩
theorem acc_ver {ps : List Pe} {x : List Li} {c : Ct} (h : (accF ps x c).1 = 0) : (accF ps x c).2.d = c.d ∧ (accF ps x c).2.n = IntKind.i64.wrap ((lastL x c.d).n + 1) ∧ c.n = IntKind.i64.wrap ((lastL x c.d).n + 1) ∧ 1 ≤ c.n ∧ c.n ≤ 1048576 ∧ (accF ps x c).2.n = c.n := by
  obtain ⟨h1, h2, p, h3, h4⟩ := accF_ok h
  have hd := (accF_dev h).1
  rw [h4] at h hd ⊢
  obtain ⟨h5, h6, _⟩ := verF_ok (kinds_form h2) h
  have hn : (verF p x c).2.n = c.n := by rw [h5]; unfold resF; split <;> rfl
  refine ⟨hd, by rw [hn]; exact h6, h6, ?_, ?_, hn⟩
  · unfold formC at h2; simp only [Bool.and_eq_true, Bool.not_eq_true', decide_eq_false_iff_not] at h2; omega
  · unfold formC at h2; simp only [Bool.and_eq_true, Bool.not_eq_true', decide_eq_false_iff_not] at h2; omega
theorem acc_twice {ps : List Pe} {x : List Li} {c : Ct} (h : (accF ps x c).1 = 0) : ¬ (accF ps (withL (accF ps x c).2 x) c).1 = 0 := by
  obtain ⟨h1, _, _, h3, h4, h5⟩ := acc_ver h
  refine acc_old ?_
  unfold lastL
  rw [get_withL, if_pos h1.symm, Option.getD_some, h5]
  have : IntKind.i64.wrap (c.n + 1) = c.n + 1 := IntWalk.i64_in _ (by omega)
  rw [this]; omega
theorem snoc_len {x : List Li} (hu : Up x) (y : Li) : (withL y x).length = x.length ∨ (withL y x).length = x.length + 1 := by
  have key : ∀ {x : List Li}, Up x → ∀ d, x.length ≤ (x.filter fun z => !decide (z.d = d)).length + 1 := by
    intro x
    induction x with
    | nil => intro _ d; simp
    | cons a x ih =>
      intro hu d
      obtain ⟨h1, h2⟩ := List.pairwise_cons.1 hu
      by_cases e : a.d = d
      · rw [List.filter_cons_of_neg (by simp [e]), List.filter_eq_self.2 (fun z hz => ?_)]
        · exact Nat.le_refl _
        · have := h1 z hz; simp; omega
      · rw [List.filter_cons_of_pos (by simp [e]), List.length_cons, List.length_cons]
        have := ih h2 d; omega
  have h1 := (withL_perm y x).length_eq
  have h2 := key hu y.d
  have h3 := List.length_filter_le (fun z : Li => !decide (z.d = y.d)) x
  rw [List.length_cons] at h1
  omega
theorem in_with {x : List Li} {y a : Li} (h : a ∈ withL y x) : (a.d = y.d ∧ a = y) ∨ (¬ a.d = y.d ∧ a ∈ x) := by
  rcases List.mem_cons.1 ((withL_perm y x).mem_iff.1 h) with e | e
  · exact .inl ⟨by rw [e], e⟩
  · obtain ⟨h1, h2⟩ := List.mem_filter.1 e
    simp at h2
    exact .inr ⟨h2, h1⟩
theorem y_in (x : List Li) (y : Li) : y ∈ withL y x := (withL_perm y x).mem_iff.2 (List.mem_cons_self ..)
def anyD (d : Int) (z : List Li) : Bool := z.any fun a => decide (a.d = d)
def anyE (a : Li) (x : List Li) : Bool := x.any fun b => liB a b
theorem anyD_with (x : List Li) (y : Li) : anyD y.d (withL y x) = true := by unfold anyD; rw [List.any_eq_true]; exact ⟨y, y_in x y, by simp⟩
theorem anyE_in {a : Li} {x : List Li} (h : a ∈ x) : anyE a x = true := by unfold anyE; rw [List.any_eq_true]; exact ⟨a, h, liB_self a⟩
theorem anyD_snoc {x : List Li} {k : Nat} (hk : k < x.length) {y : Li} (hy : x.getD k li0 = y) (d : Int) : anyD d (x.take (k + 1)) = (anyD d (x.take k) || decide (y.d = d)) := by unfold anyD; rw [take_succ_getD li0 x hk, hy, List.any_append]; simp
theorem anyE_snoc {x : List Li} {k : Nat} (hk : k < x.length) {y : Li} (hy : x.getD k li0 = y) (a : Li) : anyE a (x.take (k + 1)) = (anyE a (x.take k) || liB a y) := by unfold anyE; rw [take_succ_getD li0 x hk, hy, List.any_append]; simp
theorem info_ct : (Tryd.prog.info? 27).map (fun i => (i.zero, i.size, i.bytes)) = some (some (.agg #[.int .i64 0, .int .i64 0, .int .i64 0, .int .i64 0, .int .i64 0, .int .i64 0, .int .i64 0, .int .i64 0]), 8, 64) := by kernel_rfl
theorem zero_int (W : World) : (zeroValue 3).run Tryd.prog W = .ok (.int .i64 0) W := by kernel_rfl
theorem up_lt {x : List Li} (h : Up x) {i j : Nat} (hij : i < j) (hj : j < x.length) : (x.getD i li0).d < (x.getD j li0).d := by
  rw [List.getD_eq_getElem?_getD, List.getD_eq_getElem?_getD, List.getElem?_eq_getElem hj, List.getElem?_eq_getElem (by omega)]
  exact List.pairwise_iff_getElem.1 h i j (by omega) hj hij
theorem last_at {x : List Li} (h : Up x) {i : Nat} (hi : i < x.length) : lastL x (x.getD i li0).d = x.getD i li0 := by
  have hm : x.getD i li0 ∈ x := by rw [List.getD_eq_getElem?_getD, List.getElem?_eq_getElem hi]; exact List.getElem_mem hi
  unfold lastL
  cases hg : getL x (x.getD i li0).d with
  | none => exact absurd (List.mem_map.2 ⟨_, hm, rfl⟩) (getL_none hg)
  | some z =>
    show z = _
    have hz := getL_mem hg
    have hd := getL_d hg
    obtain ⟨j, hj, hje⟩ := List.mem_iff_getElem.1 hz
    have hje2 : x.getD j li0 = z := by rw [List.getD_eq_getElem?_getD, List.getElem?_eq_getElem hj]; exact hje
    rcases Nat.lt_trichotomy j i with h1 | h1 | h1
    · have := up_lt h h1 hi; rw [hje2] at this; omega
    · rw [← hje2, h1]
    · have := up_lt h h1 hj; rw [hje2] at this; omega
theorem slat_pre {s n m : Nat} {c : Nat → Nat → Value} {w : World} {a : Option Addr} {k : Nat} (h : SlAt s w (.slice a n k) n c) (hm : m ≤ n) : SlAt s w (.slice a m k) m c := by
  rcases h with ⟨⟨b, l, h1, h2⟩, h0⟩ | ⟨b, off, cap, h1, h2, h3, h4, h5, h6⟩
  · cases h1
    obtain rfl : m = 0 := by omega
    exact .inl ⟨⟨_, _, rfl, h2⟩, rfl⟩
  · cases h1
    by_cases h0 : m = 0
    · subst h0; exact .inl ⟨⟨_, _, rfl, fun e => by cases e⟩, rfl⟩
    · exact .inr ⟨b, off, _, rfl, by omega, by omega, ⟨by omega, h4.2⟩, h5, fun i hi j hj => h6 i (by omega) j hj⟩
theorem cts_take {w : World} {a : Option Addr} {k n cc : Nat} {cs : List Ct} (hn : cs.length = n) (h : SlAt 8 w (.slice a n cc) n (fun i => ctC (cs.getD i ct0))) (hk : k ≤ n) : CtS w (.slice a k cc) (cs.take k) := by
  have hl : (cs.take k).length = k := by rw [List.length_take]; omega
  show SlAt 8 w (.slice a k cc) (cs.take k).length (fun i => ctC ((cs.take k).getD i ct0))
  rw [hl]
  rcases slat_pre h hk with h1 | ⟨b, off, cap, h1, h2, h3, h4, h5, h6⟩
  · exact .inl h1
  · refine .inr ⟨b, off, cap, h1, h2, h3, h4, h5, fun i hi j hj => ?_⟩
    rw [h6 i hi j hj]
    show some (ctC (cs.getD i ct0) j) = some (ctC ((cs.take k).getD i ct0) j)
    congr 2
    rw [List.getD_eq_getElem?_getD, List.getD_eq_getElem?_getD, List.getElem?_take_of_lt hi]
set_option maxRecDepth 100000 in
set_option maxHeartbeats 32000000 in
theorem walk {w : World} (v : Value) (pl : List (Pe × Sv)) (hg : ∀ a ∈ pl, goodPe w a) (hs : SlAt 5 w v pl.length (fun i => peA (pl.getD i (pe0, pe00))))
    (cv : Value) (cs : List Ct) (gc : ∀ a ∈ cs, a.wf) (hc : SlAt 8 w cv cs.length (fun i => ctC (cs.getD i ct0))) (c : Ct) (wc : c.wf) (hT : Tab w) :
    Calls Tryd.prog 4 #[v, cv, .agg (rowF 8 (ctC c))] w fun e w' => e = .returned (.bool true) ∧ Below w.heap.size w w' := by
  have hmm := fun W => run_makeMap_plain (w := W) (P := Tryd.prog) 46
  have PW := pes_open hg hs
  obtain ⟨ps, hps⟩ : ∃ y, pl.map (·.1) = y := ⟨_, rfl⟩
  obtain ⟨us, hus⟩ : ∃ y : Nat → Sv, (fun i => (pl.getD i (pe0, pe00)).2) = y := ⟨_, rfl⟩
  rw [hps, hus] at PW
  have T0 := Lib.hid hT
  have clen : (cs.length : Int) ≤ 9223372036854775807 := by have := hc.len_le; omega
  have C1 := Lib.hid (fun W hT => sane37_any W hT)
  obtain ⟨ca, cc, rfl⟩ := hc.slice
  have CV := Lib.hid hc
  have C2 : Hid (∀ W, Below w.heap.size w W → Calls Tryd.prog 9 #[v, .slice none 0 0, .slice ca cs.length cc] W fun e w' => e = .returned (.bool (fewB ps 0 cs.length)) ∧ Below W.heap.size W w') := Lib.hid (fun W b => few37_any ps us v none ca 0 0 cs.length cc W ⟨PW.1.below b, fun i hi => ⟨(PW.2 i hi).1, fun h => ((PW.2 i hi).2.1 h).below b, (PW.2 i hi).2.2⟩⟩ (by decide) clen)
  have C3 : Hid (fewB ps 0 cs.length = true → ∀ l u W, (∀ a ∈ l, a.wf) → l.length ≤ 12 → Below w.heap.size w W → Tab W → CtS W u l → Calls Tryd.prog 14 #[v, u] W fun e w' => (∃ u, e = .returned u ∧ LiS w' u (lisF ps l)) ∧ Below W.heap.size W w') := Lib.hid (fun h l u W hw hl b t hu => by
    have := plistings_any ps us v l u W ((PW.pes (fewB_iff h).2.2.2).below b) (Nat.le_trans (fewB_iff h).1 (by decide)) hu hl hw t
    exact this.mono fun e w' ⟨u, h1, h2, h3⟩ => ⟨⟨u, h1, h2⟩, h3⟩)
  have C4 : Hid (fewB ps 0 cs.length = true → ∀ x d u W, d.wf → x.length ≤ 1000 → Below w.heap.size w W → Tab W → LiS W u x → Calls Tryd.prog 10 #[v, u, .agg (rowF 8 (ctC d))] W fun e w' => e = .returned (.tuple #[liA (accF ps x d).2, .int .i64 (accF ps x d).1]) ∧ Below W.heap.size W w') := Lib.hid (fun h x d u W wd hx b t hu => paccept_any ps us v x u d wd W ((PW.pes (fewB_iff h).2.2.2).below b) (Nat.le_trans (fewB_iff h).1 (by decide)) hu hx t)
  have C5 : Hid (∀ u v x W, x.length ≤ 1000 → LiS W u x → LiS W v x → Calls Tryd.prog 15 #[u, v] W fun e w' => e = .returned (.bool true) ∧ Below W.heap.size W w') := Lib.hid (fun u v x W hn hu hv => by have := same37_any x x u v W hu hv hn hn; rwa [(sameB_iff x x).2 rfl] at this)
  have fl : fewB ps 0 cs.length = true → cs.length ≤ 10 := fun h => (fewB_iff h).2.2.1
  have GC := Lib.hid gc
  have WC := Lib.hid wc
  obtain ⟨fb, hfb⟩ : ∃ y, fewB ps 0 cs.length = y := ⟨_, rfl⟩
  rw [hfb] at C2 C3 C4 fl
  obtain ⟨n, hcn⟩ : ∃ y, cs.length = y := ⟨_, rfl⟩
  rw [hcn] at C2 CV fl ⊢
  have HN := Lib.hid hcn
  have FL := Lib.hid fl
  obtain ⟨va, vn, vc, rfl⟩ : ∃ va vn vc, v = .slice va vn vc := by obtain ⟨a, c, h⟩ := hs.slice; exact ⟨_, _, _, h⟩
  clear hT PW hps hus hg hs hfb gc hc hcn clen wc fl
  go_enter Tryd.func4, Tryd.ntmps4
  have B0 := Lib.hid (Below.refl w.heap.size w)
  go_upto_region 1 with fail
  obtain ⟨w1, hw1⟩ : ∃ y, w.alloc (.cells (rowF 8 (ctC c)) 27) = y := ⟨_, rfl⟩
  have b1 : Below w.heap.size w w1 := by rw [← hw1]; exact (Below.refl _ _).alloc (Nat.le_refl _) _
  have P1 : Hid (RowV w1 w.heap.size 27 8 (ctC c)) := Lib.hid (by rw [← hw1]; exact RowV.new w _ 8 (ctC c))
  have z1 : w.heap.size + 1 = w1.heap.size := by rw [← hw1]; exact (Array.size_push _).symm
  rw [hw1]
  (try rw [z1])
  have B1 := Lib.hid (B0.out.trans (b1.mono B0.out.size))
  have T1 := Lib.hid (T0.out.below b1)
  clear b1 hw1 z1 B0 T0
  go_wp2_with fail
  refine (C1.out _ T1.out).mono ?_
  rintro e w2 ⟨rfl, b2⟩
  have B2 := Lib.hid (B1.out.trans (b2.mono B1.out.size))
  have T2 := Lib.hid (T1.out.below b2)
  have P2 := Lib.hid (P1.out.below b2)
  clear b2 B1 T1 P1
  go_wp2_with fail
  refine (C2.out _ B2.out).mono ?_
  rintro e w3 ⟨rfl, b3⟩
  have B3 := Lib.hid (B2.out.trans (b3.mono B2.out.size))
  have T3 := Lib.hid (T2.out.below b3)
  have P3 := Lib.hid (P2.out.below b3)
  clear b3 B2 T2 P2
  clear C1 C2
  cases fb
  · go_wp2_with fail
    go_ret
    exact ⟨rfl, B3.out⟩
  have n10 := FL.out (by first | rfl | trivial)
  have L3 := Lib.hid (C3.out (by first | rfl | trivial))
  have L4 := Lib.hid (C4.out (by first | rfl | trivial))
  clear C3 C4 FL
  have qn : (n : Int) ≤ 10 := by omega
  have S3 := Lib.hid (Since.refl w3)
  have BS := Lib.hid B3.out
  have TS := Lib.hid T3.out
  have PS := Lib.hid P3.out
  clear T3 P3
  go_wp2_with fail
  obtain ⟨w4, hw4⟩ : ∃ y, w3.alloc (.map #[] 0) = y := ⟨_, rfl⟩
  have b4 : Below w3.heap.size w3 w4 := by rw [← hw4]; exact (Below.refl _ _).alloc (Nat.le_refl _) _
  have M4 : Hid (MapN w4 w3.heap.size []) := Lib.hid (by rw [← hw4]; exact MapN.made w3)
  have z4 : w3.heap.size + 1 = w4.heap.size := by rw [← hw4]; exact (Array.size_push _).symm
  rw [hw4]
  (try rw [z4])
  have B4 := Lib.hid (B3.out.trans (b4.mono B3.out.size))
  have S4 := Lib.hid (S3.out.below b4)
  clear b4 hw4 z4 B3 S3
  clear hmm
  go_wp2_with fail
  go_loopg [36] n (fun g s36 wx => ∃ k : Nat, k + g = n ∧ s36 = .int .i64 (k : Int) ∧ Hid (MapN wx w3.heap.size (lisF ps (cs.take k))) ∧ Hid (Since w3 wx))
  case atStart => exact ⟨0, by omega, rfl, M4, S4⟩
  case round =>
    clear M4 S4
    obtain ⟨k, hk, rfl, hM, hS⟩ := hrel
    obtain ⟨w5, rfl⟩ : ∃ y, y = wr := ⟨_, rfl⟩
    have q0 : (0 : Int) ≤ (k : Int) := Int.natCast_nonneg k
    have B5 := Lib.hid (BS.out.trans (hS.out.b.mono BS.out.size))
    have T5 := Lib.hid (TS.out.below hS.out.b)
    have M5 := hM
    have S5 := hS
    clear hM hS
    by_cases hlt : k < n
    · have d0 : decide ((k : Int) < (n : Int)) = true := by rw [decide_eq_true_iff]; omega
      have d1 : decide (k < n) = true := by rw [decide_eq_true_iff]; omega
      have O5 : Hid (CtS w5 (.slice ca k cc) (cs.take k)) := Lib.hid (cts_take HN.out (CV.out.below B5.out) (by omega))
      have LK : Hid ((cs.take k).length ≤ 10) := Lib.hid (by rw [List.length_take]; omega)
      have WK : Hid (∀ a ∈ cs.take k, a.wf) := Lib.hid (fun a ha => GC.out a (List.mem_of_mem_take ha))
      obtain ⟨b, off, rfl, hcap, hb, hc⟩ := SlAt.at_elem (s := 8) (n := n) (a := ca) (k := cc) (c := fun i => ctC (cs.getD i ct0)) (CV.out.below B5.out) hlt
      have HLT := Lib.hid hlt
      have HCK := Lib.hid (fun j hj => hc k hlt j hj)
      have LSN : Hid (lisF ps (cs.take (k + 1)) = stepL ps (lisF ps (cs.take k)) (cs.getD k ct0)) := Lib.hid (by rw [take_succ_getD ct0 cs (show k < cs.length by rw [HN.out]; exact hlt), lisF_snoc])
      have WD : Hid ((cs.getD k ct0).wf) := Lib.hid (GC.out _ (by
        rw [List.getD_eq_getElem?_getD, List.getElem?_eq_getElem (show k < cs.length by rw [HN.out]; exact hlt)]; exact List.getElem_mem _))
      obtain ⟨d, hd⟩ : ∃ y, cs.getD k ct0 = y := ⟨_, rfl⟩
      rw [hd] at HCK LSN WD
      have p1 : (k : Int) + 1 ≤ 1000 := by omega
      have kc : (k : Int) ≤ (cc : Int) := by omega
      have kc2 : k ≤ cc := by omega
      clear hc hb hd hlt
      go_wp2_with (first | ((with_reducible (show wpList _ _ _ (Oper.mk (some 40) _ _ _ _ _ :: _) _ _)); refine Hid.out ?_))
      refine Lib.hid ?_
      refine wpList_load_elem rfl 27 (.tmp 39) rfl b (off + k * 8) rfl 8 off k (by rw [Nat.mul_comm]) (ctC d) HCK.out _ Tryd.underlying27 rfl (by kernel_rfl) ?_
      clear HCK d0 d1
      have M5L := Lib.hid M5.out.lt
      have Zr := Lib.hid (RowV.new w5 27 8 (ctC ct0))
      go_upto_region 9 with ((with_reducible (show wpList _ _ _ (Oper.mk none _ _ _ _ _ :: _) _ _)); refine wpList_store_rowV (o := ⟨none, .store 27 (.tmp 9) (.tmp 40), _, _, _, _⟩) rfl 27 (.tmp 9) (.tmp 40) rfl w5.heap.size rfl 8 27 _ (ctC d) rfl Zr.out (by kernel_rfl) (fun j _ => ctC_one _ j) ?_; intro w6 V6 o6)
      have b6 : Below w5.heap.size w5 w6 := ((Below.refl _ _).alloc (Nat.le_refl _) _).trans (o6.out.below (Nat.le_refl _) (by rw [World.size_alloc]; omega))
      have B6 := Lib.hid (B5.out.trans (b6.mono B5.out.size))
      have M6 := Lib.hid (M5.out.below b6)
      have S6 := Lib.hid (S5.out.below b6)
      have T6 := Lib.hid (T5.out.below b6)
      have O6 := Lib.hid (O5.out.below b6)
      clear b6 o6 Zr B5 M5 S5 T5 O5
      go_wp2_with fail
      refine (L3.out _ _ _ WK.out (by have := LK.out; omega) B6.out T6.out O6.out).mono ?_
      rintro e w7 ⟨⟨lv, rfl, hl⟩, b7⟩
      have B7 := Lib.hid (B6.out.trans (b7.mono B6.out.size))
      have M7 := Lib.hid (M6.out.below b7)
      have S7 := Lib.hid (S6.out.below b7)
      have T7 := Lib.hid (T6.out.below b7)
      have O7 := Lib.hid (O6.out.below b7)
      have V7 := Lib.hid (V6.out.below b7)
      clear b7 B6 M6 S6 T6 O6 V6
      obtain ⟨xa, xc, rfl⟩ := hl.slice
      have U7 := Lib.hid hl
      clear hl WK LK O7
      have LX : Hid ((lisF ps (cs.take k)).length ≤ 1000) := Lib.hid (Nat.le_trans (lisF_len _ _) (by rw [List.length_take]; omega))
      have UX := Lib.hid (lisF_up ps (cs.take k))
      obtain ⟨xk, hxk⟩ : ∃ y, lisF ps (cs.take k) = y := ⟨_, rfl⟩
      obtain ⟨xl, hxl⟩ : ∃ y, lisF ps (cs.take (k + 1)) = y := ⟨_, rfl⟩
      rw [hxk] at LX UX M7 U7 LSN ⊢
      rw [hxl] at LSN
      have HXL := Lib.hid hxl
      have AV := Lib.hid (@acc_ver ps xk d)
      clear hxk hxl
      go_wp2_with (first | ((with_reducible (show wpList _ _ _ (Oper.mk (some 49) _ _ _ _ _ :: _) _ _)); refine Hid.out ?_))
      refine Lib.hid ?_
      refine wpList_load_rowV rfl 27 (.tmp 9) rfl w5.heap.size rfl 8 _ _ (V7.out) _ Tryd.underlying27 rfl (by kernel_rfl) ?_
      go_wp2_with fail
      refine (L4.out xk d _ _ WD.out LX.out B7.out T7.out U7.out).mono ?_
      rintro e w8 ⟨rfl, b8⟩
      have B8 := Lib.hid (B7.out.trans (b8.mono B7.out.size))
      have M8 := Lib.hid (M7.out.below b8)
      have S8 := Lib.hid (S7.out.below b8)
      have T8 := Lib.hid (T7.out.below b8)
      have V8 := Lib.hid (V7.out.below b8)
      have U8 := Lib.hid (U7.out.below b8)
      clear b8 B7 M7 S7 T7 V7 U7
      obtain ⟨F, hF⟩ : ∃ y, accF ps xk d = y := ⟨_, rfl⟩
      have LS2 : Hid (xl = if F.1 = 0 then withL F.2 xk else xk) := Lib.hid (by rw [LSN.out, ← hF]; rfl)
      rw [hF] at AV ⊢
      clear hF LSN
      obtain ⟨E, y⟩ := F
      have M8L := Lib.hid M8.out.lt
      have Zr := Lib.hid (RowV.new w8 31 5 (liC li0))
      go_upto_region 11 with ((with_reducible (show wpList _ _ _ (Oper.mk none _ _ _ _ _ :: _) _ _)); refine wpList_store_rowV (o := ⟨none, .store 31 (.tmp 11) (.tmp 51), _, _, _, _⟩) rfl 31 (.tmp 11) (.tmp 51) rfl w8.heap.size rfl 5 31 _ (liC y) rfl Zr.out (by kernel_rfl) (fun j _ => liC_one _ j) ?_; intro w9 Y9 o9)
      have b9 : Below w8.heap.size w8 w9 := ((Below.refl _ _).alloc (Nat.le_refl _) _).trans (o9.out.below (Nat.le_refl _) (by rw [World.size_alloc]; omega))
      have B9 := Lib.hid (B8.out.trans (b9.mono B8.out.size))
      have M9 := Lib.hid (M8.out.below b9)
      have S9 := Lib.hid (S8.out.below b9)
      have T9 := Lib.hid (T8.out.below b9)
      have V9 := Lib.hid (V8.out.below b9)
      have U9 := Lib.hid (U8.out.below b9)
      clear b9 o9 Zr B8 M8 S8 T8 V8 U8
      cases he : (E == 0)
      · have e2 := LS2.out
        rw [if_neg (by rw [beq_eq_false_iff_ne] at he; exact he)] at e2
        obtain rfl : xl = xk := e2
        clear LS2 AV UX Y9 V9 U9 T9
        go_wp2_with fail
        go_roundg (n - (k + 1))
        case measure => have := HLT.out; omega
        case rel =>
          go_light
          exact ⟨k + 1, by have := HLT.out; omega, by go_num, by rw [HXL.out]; exact M9, S9⟩
      obtain rfl : E = 0 := by rw [beq_iff_eq] at he; exact he
      have e2 := LS2.out
      rw [if_pos rfl] at e2
      obtain rfl : xl = withL y xk := e2
      obtain ⟨a1, a2, _⟩ := AV.out rfl
      clear LS2 AV he
      obtain ⟨m, hm1, hm2⟩ := M9.out
      have MG := Lib.hid (mapN_get UX.out hm2 d.d)
      have MPt := mapN_put (y := y) hm2 (mapN_keys UX.out hm2)
      rw [show y.d = d.d from a1] at MPt
      have MP := Lib.hid MPt
      have A2 := Lib.hid a2
      have v1 : w9.cell? ⟨w5.heap.size, 1, none⟩ = some (.int .i64 d.d) := V9.out.cell (i := 1) (by decide)
      obtain ⟨ln, hln⟩ : ∃ z, (lastL xk d.d).n = z := ⟨_, rfl⟩
      rw [hln] at MG A2
      obtain ⟨yn, hyn⟩ : ∃ z, y.n = z := ⟨_, rfl⟩
      have y3 : w9.cell? ⟨w8.heap.size, 3, none⟩ = some (.int .i64 yn) := by rw [← hyn]; exact Y9.out.cell (i := 3) (by decide)
      have NW : Hid (wrap64 (ln + 1) = yn) := Lib.hid (by rw [← hyn, ← IntWalk.i64_left]; exact A2.out.symm)
      rw [hyn] at MP
      have HYN := Lib.hid hyn
      clear a1 a2 hln hyn hm2 MPt A2 U9 T9
      go_wp2_with (first | ((with_reducible (show wpList _ _ _ (Oper.mk (some 58) _ _ _ _ _ :: _) _ _)); refine Hid.out ?_))
      refine Lib.hid ?_
      refine IM.wpList_lookup rfl 46 3 3 (.tmp 55) (.tmp 57) false rfl d.d rfl rfl hm1 Tryd.underlying46 Tryd.underlying3 zero_int ?_
      rw [if_neg Bool.false_ne_true, MG.out]
      go_wp2_with (first | ((with_reducible (show wpList _ _ _ (Oper.mk none _ _ _ _ _ :: _) _ _)); refine Hid.out ?_))
      refine Lib.hid ?_
      rw [NW.out]
      refine IM.wpList_update rfl 46 3 3 (.tmp 55) (.tmp 57) (.tmp 59) rfl d.d (.int .i64 yn) rfl rfl rfl hm1 Tryd.underlying46 Tryd.underlying3 ?_
      intro w10 A10 O10
      have M10 : Hid (MapN w10 w3.heap.size (withL y xk)) := Lib.hid ⟨_, A10.out, MP.out⟩
      have S10 : Hid (Since w3 w10) := Lib.hid (Below.trans S9.out.b (O10.out.below (Nat.le_refl _) S9.out.le))
      have V10 := Lib.hid (O10.out.row (show w5.heap.size ≠ w3.heap.size by have := M5L.out; omega) V9.out)
      have Y10 := Lib.hid (O10.out.row (show w8.heap.size ≠ w3.heap.size by have := M8L.out; omega) Y9.out)
      have v1' : w10.cell? ⟨w5.heap.size, 1, none⟩ = some (.int .i64 d.d) := V10.out.cell (i := 1) (by decide)
      have y3' : w10.cell? ⟨w8.heap.size, 3, none⟩ = some (.int .i64 yn) := by rw [← HYN.out]; exact Y10.out.cell (i := 3) (by decide)
      have G10 : Hid ((IM.get (IM.put m d.d (.int .i64 yn)) d.d).getD (.int .i64 0) = .int .i64 yn) := Lib.hid (by rw [IM.get_put_same]; rfl)
      have A11 := A10
      have e1 : (yn != yn) = false := by simp
      clear O10 V10 Y10 M9 V9 Y9 S9 B9 v1 y3 NW MG MP A10 hm1
      have v1 := v1'
      have y3 := y3'
      clear v1' y3'
      go_wp2_with (first | ((with_reducible (show wpList _ _ _ (Oper.mk (some 65) _ _ _ _ _ :: _) _ _)); refine Hid.out ?_))
      refine Lib.hid ?_
      refine IM.wpList_lookup rfl 46 3 3 (.tmp 62) (.tmp 64) false rfl d.d rfl rfl A11.out Tryd.underlying46 Tryd.underlying3 zero_int ?_
      rw [if_neg Bool.false_ne_true, G10.out]
      clear G10 A11
      go_wp2_with fail
      go_roundg (n - (k + 1))
      case measure => have := HLT.out; omega
      case rel =>
        go_light
        exact ⟨k + 1, by have := HLT.out; omega, by go_num, by rw [HXL.out]; exact M10, S10⟩
    · have d0 : decide ((k : Int) < (n : Int)) = false := by rw [decide_eq_false_iff_not]; omega
      have d1 : decide (k < n) = false := by rw [decide_eq_false_iff_not]; omega
      rw [List.take_of_length_le (by rw [HN.out]; omega)] at M5
      have O5 : Hid (CtS w5 (.slice ca n cc) cs) := Lib.hid (by show SlAt 8 w5 (.slice ca n cc) cs.length _; rw [HN.out]; exact CV.out.below B5.out)
      clear hlt hk q0
      go_wp2_with fail
      refine (L3.out _ _ _ GC.out (by rw [HN.out]; omega) B5.out T5.out O5.out).mono ?_
      rintro e w6 ⟨⟨lv, rfl, hl⟩, b6⟩
      have B6 := Lib.hid (B5.out.trans (b6.mono B5.out.size))
      have M6 := Lib.hid (M5.out.below b6)
      have S6 := Lib.hid (S5.out.below b6)
      have T6 := Lib.hid (T5.out.below b6)
      have O6 := Lib.hid (O5.out.below b6)
      clear b6 B5 M5 S5 T5 O5
      obtain ⟨xa, xc, rfl⟩ := hl.slice
      have U6 := Lib.hid hl
      clear hl O6
      have XU := Lib.hid (lisF_up ps cs)
      have xl := lisF_len ps cs
      have LSN := Lib.hid (lisF_snoc ps cs c)
      rw [HN.out] at xl
      obtain ⟨X, hX⟩ : ∃ y, lisF ps cs = y := ⟨_, rfl⟩
      rw [hX] at M6 U6 XU xl LSN ⊢
      clear hX
      obtain ⟨q, hq⟩ : ∃ y, X.length = y := ⟨_, rfl⟩
      have U : Hid (SlAt 5 w6 (.slice xa X.length xc) X.length (fun i => liC (X.getD i li0))) := Lib.hid U6.out
      rw [hq] at U xl ⊢
      have HQ := Lib.hid hq
      have qq : (q : Int) ≤ 10 := by omega
      obtain ⟨m, hm1, hm2⟩ := M6.out
      obtain ⟨es, clock, he1, he2, he3⟩ := hm1
      have hes : es.size = q := by
        have h1 := IM.EsOf.len he2
        rw [Array.length_toList] at h1
        have h2 := hm2.length_eq
        rw [List.length_map, hq] at h2
        omega
      have hlm : (Builtin.len_ #[46] 3 #[.map (some w3.heap.size)]).run Tryd.prog w6 = .ok (.int .i64 (q : Int)) w6 := by rw [run_len_map (es := es) (clock := clock) (h := by kernel_rfl) (hb := he1), hes]; rfl
      have MAt : Hid (IM.At w6 w3.heap.size m) := Lib.hid ⟨es, clock, he1, he2, he3⟩
      have MGt := Lib.hid (fun d => mapN_get XU.out hm2 d)
      clear hq U6 hm2 he2 he3 he1 hes
      go_upto_region 17 with fail
      go_upto_region 19 with fail
      clear d0 d1 hlm
      have BX := Lib.hid B6.out
      have TX := Lib.hid T6.out
      have SX := Lib.hid S6.out
      have S6 := Lib.hid (Since.refl w6)
      go_wp2_with fail
      go_loopg [78] q (fun g s78 wx => ∃ k : Nat, k + g = q ∧ s78 = .int .i64 (k : Int) ∧ Hid (Since w6 wx))
      case atStart => exact ⟨0, by omega, rfl, S6⟩
      case round =>
        clear S6
        obtain ⟨k, hk, rfl, hS⟩ := hrel
        obtain ⟨w7, rfl⟩ : ∃ y, y = wr := ⟨_, rfl⟩
        have q0 : (0 : Int) ≤ (k : Int) := Int.natCast_nonneg k
        have B7 := Lib.hid (BX.out.trans (hS.out.b.mono BX.out.size))
        have S7 := hS
        have M7 := Lib.hid (MAt.out.below hS.out.b)
        clear hS
        by_cases hlt : k < q
        · have d0 : decide ((k : Int) < (q : Int)) = true := by rw [decide_eq_true_iff]; omega
          have d1 : decide (k < q) = true := by rw [decide_eq_true_iff]; omega
          obtain ⟨b, off, rfl, hcap, hb, hc⟩ := SlAt.at_elem (s := 5) (n := q) (a := xa) (k := xc) (c := fun i => liC (X.getD i li0)) (U.out.below S7.out.b) hlt
          have HLT := Lib.hid hlt
          have HCK := Lib.hid (fun j hj => hc k hlt j hj)
          have HBW := Lib.hid hb
          have XP := Lib.hid (fun j (hj : k = j + 1) => hc j (by omega) 0 (by decide))
          have UL := Lib.hid (fun j (hj : k = j + 1) => up_lt XU.out (show j < k by omega) (show k < X.length by rw [HQ.out]; exact hlt))
          have LA := Lib.hid (last_at XU.out (show k < X.length by rw [HQ.out]; exact hlt))
          obtain ⟨y, hy⟩ : ∃ y, X.getD k li0 = y := ⟨_, rfl⟩
          rw [hy] at HCK UL LA
          have MY := Lib.hid (MGt.out y.d)
          rw [LA.out] at MY
          have p1 : (k : Int) + 1 ≤ 1000 := by omega
          clear hc hcap hb hy hlt LA
          go_wp2_with (first | ((with_reducible (show wpList _ _ _ (Oper.mk (some 82) _ _ _ _ _ :: _) _ _)); refine Hid.out ?_))
          refine Lib.hid ?_
          refine wpList_load_elem rfl 31 (.tmp 81) rfl b (off + k * 5) rfl 5 off k (by rw [Nat.mul_comm]) (liC y) HCK.out _ Tryd.underlying31 rfl (by kernel_rfl) ?_
          clear HCK d0 d1
          have G7 := Lib.hid (Since.refl w7)
          have Zr := Lib.hid (RowV.new w7 31 5 (liC li0))
          go_upto_region 22 with ((with_reducible (show wpList _ _ _ (Oper.mk none _ _ _ _ _ :: _) _ _)); refine wpList_store_rowV (o := ⟨none, .store 31 (.tmp 15) (.tmp 82), _, _, _, _⟩) rfl 31 (.tmp 15) (.tmp 82) rfl w7.heap.size rfl 5 31 _ (liC y) rfl Zr.out (by kernel_rfl) (fun j _ => liC_one _ j) ?_; intro w8 V8 o8)
          have b8 : Below w7.heap.size w7 w8 := ((Below.refl _ _).alloc (Nat.le_refl _) _).trans (o8.out.below (Nat.le_refl _) (by rw [World.size_alloc]; omega))
          have B8 := Lib.hid (B7.out.trans (b8.mono B7.out.size))
          have M8 := Lib.hid (M7.out.below b8)
          have S8 := Lib.hid (S7.out.below b8)
          have G8 := Lib.hid (G7.out.below b8)
          clear b8 o8 Zr B7 M7 S7 G7
          obtain ⟨yd, hyd⟩ : ∃ z, y.d = z := ⟨_, rfl⟩
          obtain ⟨yn, hyn⟩ : ∃ z, y.n = z := ⟨_, rfl⟩
          have Y0 : Hid (w8.cell? ⟨w7.heap.size, 0, none⟩ = some (.int .i64 yd)) := Lib.hid (by rw [← hyd]; exact V8.out.cell (i := 0) (by decide))
          have Y3 : Hid (w8.cell? ⟨w7.heap.size, 3, none⟩ = some (.int .i64 yn)) := Lib.hid (by rw [← hyn]; exact V8.out.cell (i := 3) (by decide))
          rw [hyd] at UL MY
          rw [hyn] at MY
          have LY := Lib.hid V8.out.lt
          have e1 : (yn != yn) = false := by simp
          have B7X : Hid (Below w7.heap.size w7 w8) := Lib.hid G8.out.b
          have LB : Hid (b < w8.heap.size) := Lib.hid (by have h1 := HBW.out; have h2 := LY.out; omega)
          clear hyd hyn V8
          dsimp only [Act.put]
          go_cut [104] from 83 to 104 (fun s104 wx => s104 = .bool false ∧ Hid (Below w8.heap.size w8 wx))
          case first =>
            by_cases k0 : k = 0
            · subst k0
              clear XP UL
              refine Tc.wp_region_plan (keep w8.heap.size) 22 [] (.fl 0 (.fl 1 (.fl 2 (.fl 3 (.fl 4 (.fl 5 (.fl 6 (.fl 7 (.fl 8 (.fl 9 (.fl 10 (.fl 11 (.fl 12 (.fl 13 (.fl 14 (.fl 15 (.fl 16 (.fl 17 (.fl 18 (.fl 19 (.fl 20 (.fl 21 .done)))))))))))))))))))))) (by kernel_rfl) (by kernel_rfl) ?_
              intro w9 b9 e9
              have BB9 : Hid (Below w8.heap.size w8 w9) := Lib.hid b9
              clear b9 e9
              refine Tc.plan_floats [0, 1, 2, 3, 4, 5, 6, 7, 8, 9, 10, 11, 12, 13, 14, 15, 16, 17, 18, 19, 20, 21] [_, _, _, _, _, _, _, _, _, _, _, _, _, _, _, _, _, _, _, _, _, _] rfl ?_
              dsimp only [List.getElem_toArray, List.getElem_cons_succ, List.getElem_cons_zero]
              repeat (first | go_big_quiet_skip | (go_big_quiet_want; go_big_quiet_op; first | go_big_quiet_on | (refine ⟨_, fun _ _ => rfl, ?_⟩; go_big_quiet_on)))
              refine wpQuiet_unguard rfl ?_
              repeat (first | go_big_quiet_skip | (go_big_quiet_want; go_big_quiet_op; first | go_big_quiet_on | (refine ⟨_, fun _ _ => rfl, ?_⟩; go_big_quiet_on)))
              refine wpQuiet_load_cell rfl 3 (.tmp 97) rfl w7.heap.size 3 rfl _ Tryd.underlying3 rfl (.int .i64 yn) (fun W hW => cell_keep (n := w8.heap.size) ((BB9.out.cell (p := ⟨w7.heap.size, 3, none⟩) LY.out).trans Y3.out) (LY.out) hW) ?_
              simp only [Act.put, List.setIfInBounds_toArray, List.set_cons_succ, List.set_cons_zero]
              repeat (first | go_big_quiet_skip | (go_big_quiet_want; go_big_quiet_op; first | go_big_quiet_on | (refine ⟨_, fun _ _ => rfl, ?_⟩; go_big_quiet_on)))
              refine wpQuiet_unguard rfl ?_
              repeat (first | go_big_quiet_skip | (go_big_quiet_want; go_big_quiet_op; first | go_big_quiet_on | (refine ⟨_, fun _ _ => rfl, ?_⟩; go_big_quiet_on)))
              refine wpQuiet_load_cell rfl 3 (.tmp 100) rfl w7.heap.size 0 rfl _ Tryd.underlying3 rfl (.int .i64 yd) (fun W hW => cell_keep (n := w8.heap.size) ((BB9.out.cell (p := ⟨w7.heap.size, 0, none⟩) LY.out).trans Y0.out) (LY.out) hW) ?_
              simp only [Act.put, List.setIfInBounds_toArray, List.set_cons_succ, List.set_cons_zero]
              repeat (first | go_big_quiet_skip | (go_big_quiet_want; go_big_quiet_op; first | go_big_quiet_on | (refine ⟨_, fun _ _ => rfl, ?_⟩; go_big_quiet_on)))
              refine wpQuiet_unguard rfl ?_
              refine IM.wpQuiet_lookup rfl 46 3 3 (.tmp 99) (.tmp 101) false rfl yd rfl rfl (fun W hW => (M8.out.below BB9.out).of_block (hW _ M8.out.lt)) Tryd.underlying46 Tryd.underlying3 zero_int ?_
              rw [if_neg Bool.false_ne_true, MY.out]
              simp only [Act.put, List.setIfInBounds_toArray, List.set_cons_succ, List.set_cons_zero]
              repeat (first | go_big_quiet_skip | (go_big_quiet_want; go_big_quiet_op; first | go_big_quiet_on | (refine ⟨_, fun _ _ => rfl, ?_⟩; go_big_quiet_on)))
              refine wpQuiet_nil ?_
              refine Tc.plan_done (l := []) rfl (fun K hK => ?_)
              go_wp2_with fail
              go_meet
              exact ⟨rfl, BB9⟩
            · obtain ⟨j, rfl⟩ : ∃ j, k = j + 1 := ⟨k - 1, by omega⟩
              have xp := XP.out j rfl
              have ul := UL.out j rfl
              obtain ⟨pd, hpd⟩ : ∃ z, (X.getD j li0).d = z := ⟨_, rfl⟩
              rw [hpd] at ul
              have xp2 : w7.cell? ⟨b, off + j * 5, none⟩ = some (.int .i64 pd) := by rw [show off + j * 5 = off + 5 * j by omega, ← hpd]; exact xp
              have XQ := Lib.hid (((Below.refl w7.heap.size w7).trans B7X.out).cell (p := ⟨b, off + j * 5, none⟩) HBW.out |>.trans xp2)
              have g1 : decide (yd ≤ pd) = false := by rw [decide_eq_false_iff_not]; omega
              have j0 : (0 : Int) ≤ (j : Int) := Int.natCast_nonneg j
              have j1 : (j : Int) < (q : Int) := by have := HLT.out; omega
              have j2 : IntKind.i64.wrap (j : Int) = (j : Int) := IntWalk.i64_in _ (by omega)
              have d3 : decide ((0 : Int) < (j : Int) + 1) = true := by rw [decide_eq_true_iff]; omega
              clear k0 XP UL xp xp2 ul hpd
              refine Tc.wp_region_plan (keep w8.heap.size) 22 [] (.fl 0 (.fl 1 (.fl 2 (.fl 3 (.fl 4 (.fl 5 (.fl 6 (.fl 7 (.fl 8 (.fl 9 (.fl 10 (.fl 11 (.fl 12 (.fl 13 (.fl 14 (.fl 15 (.fl 16 (.fl 17 (.fl 18 (.fl 19 (.fl 20 (.fl 21 .done)))))))))))))))))))))) (by kernel_rfl) (by kernel_rfl) ?_
              intro w9 b9 e9
              have BB9 : Hid (Below w8.heap.size w8 w9) := Lib.hid b9
              clear b9 e9
              refine Tc.plan_floats [0, 1, 2, 3, 4, 5, 6, 7, 8, 9, 10, 11, 12, 13, 14, 15, 16, 17, 18, 19, 20, 21] [_, _, _, _, _, _, _, _, _, _, _, _, _, _, _, _, _, _, _, _, _, _] rfl ?_
              dsimp only [List.getElem_toArray, List.getElem_cons_succ, List.getElem_cons_zero]
              repeat (first | go_big_quiet_skip | (go_big_quiet_want; go_big_quiet_op; first | go_big_quiet_on | (refine ⟨_, fun _ _ => rfl, ?_⟩; go_big_quiet_on)))
              refine wpQuiet_unguard rfl ?_
              repeat (first | go_big_quiet_skip | (go_big_quiet_want; go_big_quiet_op; first | go_big_quiet_on | (refine ⟨_, fun _ _ => rfl, ?_⟩; go_big_quiet_on)))
              refine wpQuiet_load_cell rfl 3 (.tmp 90) rfl b (off + j * 5) rfl _ Tryd.underlying3 rfl (.int .i64 pd) (fun W hW => cell_keep (n := w8.heap.size) ((BB9.out.cell (p := ⟨b, (off + j * 5), none⟩) LB.out).trans XQ.out) (LB.out) hW) ?_
              simp only [Act.put, List.setIfInBounds_toArray, List.set_cons_succ, List.set_cons_zero]
              repeat (first | go_big_quiet_skip | (go_big_quiet_want; go_big_quiet_op; first | go_big_quiet_on | (refine ⟨_, fun _ _ => rfl, ?_⟩; go_big_quiet_on)))
              refine wpQuiet_unguard rfl ?_
              repeat (first | go_big_quiet_skip | (go_big_quiet_want; go_big_quiet_op; first | go_big_quiet_on | (refine ⟨_, fun _ _ => rfl, ?_⟩; go_big_quiet_on)))
              refine wpQuiet_load_cell rfl 3 (.tmp 92) rfl w7.heap.size 0 rfl _ Tryd.underlying3 rfl (.int .i64 yd) (fun W hW => cell_keep (n := w8.heap.size) ((BB9.out.cell (p := ⟨w7.heap.size, 0, none⟩) LY.out).trans Y0.out) (LY.out) hW) ?_
              simp only [Act.put, List.setIfInBounds_toArray, List.set_cons_succ, List.set_cons_zero]
              repeat (first | go_big_quiet_skip | (go_big_quiet_want; go_big_quiet_op; first | go_big_quiet_on | (refine ⟨_, fun _ _ => rfl, ?_⟩; go_big_quiet_on)))
              refine wpQuiet_unguard rfl ?_
              repeat (first | go_big_quiet_skip | (go_big_quiet_want; go_big_quiet_op; first | go_big_quiet_on | (refine ⟨_, fun _ _ => rfl, ?_⟩; go_big_quiet_on)))
              refine wpQuiet_load_cell rfl 3 (.tmp 97) rfl w7.heap.size 3 rfl _ Tryd.underlying3 rfl (.int .i64 yn) (fun W hW => cell_keep (n := w8.heap.size) ((BB9.out.cell (p := ⟨w7.heap.size, 3, none⟩) LY.out).trans Y3.out) (LY.out) hW) ?_
              simp only [Act.put, List.setIfInBounds_toArray, List.set_cons_succ, List.set_cons_zero]
              repeat (first | go_big_quiet_skip | (go_big_quiet_want; go_big_quiet_op; first | go_big_quiet_on | (refine ⟨_, fun _ _ => rfl, ?_⟩; go_big_quiet_on)))
              refine wpQuiet_unguard rfl ?_
              repeat (first | go_big_quiet_skip | (go_big_quiet_want; go_big_quiet_op; first | go_big_quiet_on | (refine ⟨_, fun _ _ => rfl, ?_⟩; go_big_quiet_on)))
              refine wpQuiet_load_cell rfl 3 (.tmp 100) rfl w7.heap.size 0 rfl _ Tryd.underlying3 rfl (.int .i64 yd) (fun W hW => cell_keep (n := w8.heap.size) ((BB9.out.cell (p := ⟨w7.heap.size, 0, none⟩) LY.out).trans Y0.out) (LY.out) hW) ?_
              simp only [Act.put, List.setIfInBounds_toArray, List.set_cons_succ, List.set_cons_zero]
              repeat (first | go_big_quiet_skip | (go_big_quiet_want; go_big_quiet_op; first | go_big_quiet_on | (refine ⟨_, fun _ _ => rfl, ?_⟩; go_big_quiet_on)))
              refine wpQuiet_unguard rfl ?_
              refine IM.wpQuiet_lookup rfl 46 3 3 (.tmp 99) (.tmp 101) false rfl yd rfl rfl (fun W hW => (M8.out.below BB9.out).of_block (hW _ M8.out.lt)) Tryd.underlying46 Tryd.underlying3 zero_int ?_
              rw [if_neg Bool.false_ne_true, MY.out]
              simp only [Act.put, List.setIfInBounds_toArray, List.set_cons_succ, List.set_cons_zero]
              repeat (first | go_big_quiet_skip | (go_big_quiet_want; go_big_quiet_op; first | go_big_quiet_on | (refine ⟨_, fun _ _ => rfl, ?_⟩; go_big_quiet_on)))
              refine wpQuiet_nil ?_
              refine Tc.plan_done (l := []) rfl (fun K hK => ?_)
              go_wp2_with fail
              go_meet
              exact ⟨rfl, BB9⟩
          case rest =>
            rename World => w9
            obtain ⟨rfl, b9⟩ := hcut
            have S9 := Lib.hid (S8.out.below b9.out)
            clear b9 M8 S8 MY LB
            go_wp2_with fail
            go_roundg (q - (k + 1))
            case measure => have := HLT.out; omega
            case rel =>
              go_light
              exact ⟨k + 1, by have := HLT.out; omega, by go_num, S9⟩
        · have d0 : decide ((k : Int) < (q : Int)) = false := by rw [decide_eq_false_iff_not]; omega
          have d1 : decide (k < q) = false := by rw [decide_eq_false_iff_not]; omega
          have P7 := Lib.hid (PS.out.below (Since.below SX.out S7.out.b).b)
          have T7 := Lib.hid (TX.out.below S7.out.b)
          have U7 : Hid (LiS w7 (.slice xa q xc) X) := Lib.hid (by show SlAt 5 w7 (.slice xa q xc) X.length _; rw [HQ.out]; exact U.out.below S7.out.b)
          have QL : Hid (X.length ≤ 1000) := Lib.hid (by rw [HQ.out]; omega)
          have AV := Lib.hid (@acc_ver ps X c)
          have AT := Lib.hid (@acc_twice ps X c)
          clear hlt hk q0 S7 M7 MGt MAt
          go_upto_region 25 with fail
          clear d0 d1
          go_wp2_with (first | ((with_reducible (show wpList _ _ _ (Oper.mk (some 109) _ _ _ _ _ :: _) _ _)); refine Hid.out ?_))
          refine Lib.hid ?_
          refine wpList_load_rowV rfl 27 (.tmp 5) rfl w.heap.size rfl 8 _ _ (P7.out) _ Tryd.underlying27 rfl (by kernel_rfl) ?_
          go_wp2_with fail
          refine (L4.out X c _ _ WC.out QL.out B7.out T7.out U7.out).mono ?_
          rintro e w8 ⟨rfl, b8⟩
          have B8 := Lib.hid (B7.out.trans (b8.mono B7.out.size))
          have P8 := Lib.hid (P7.out.below b8)
          have T8 := Lib.hid (T7.out.below b8)
          have U8 := Lib.hid (U7.out.below b8)
          clear b8 B7 P7 T7 U7
          obtain ⟨F, hF⟩ : ∃ y, accF ps X c = y := ⟨_, rfl⟩
          have ZS : Hid (lisF ps (cs ++ [c]) = if F.1 = 0 then withL F.2 X else X) := Lib.hid (by rw [LSN.out, ← hF]; rfl)
          rw [hF] at AV AT ⊢
          clear hF LSN
          obtain ⟨E, y⟩ := F
          have Zr := Lib.hid (RowV.new w8 31 5 (liC li0))
          go_upto_region 26 with ((with_reducible (show wpList _ _ _ (Oper.mk none _ _ _ _ _ :: _) _ _)); refine wpList_store_rowV (o := ⟨none, .store 31 (.tmp 16) (.tmp 111), _, _, _, _⟩) rfl 31 (.tmp 16) (.tmp 111) rfl w8.heap.size rfl 5 31 _ (liC y) rfl Zr.out (by kernel_rfl) (fun j _ => liC_one _ j) ?_; intro w9 Y9 o9)
          have b9 : Below w8.heap.size w8 w9 := ((Below.refl _ _).alloc (Nat.le_refl _) _).trans (o9.out.below (Nat.le_refl _) (by rw [World.size_alloc]; omega))
          have B9 := Lib.hid (B8.out.trans (b9.mono B8.out.size))
          have P9 := Lib.hid (P8.out.below b9)
          have T9 := Lib.hid (T8.out.below b9)
          have U9 := Lib.hid (U8.out.below b9)
          clear b9 o9 Zr B8 P8 T8 U8
          have LP := Lib.hid P9.out.lt
          have CX : Hid (CtS w9 (.slice ca n cc) cs) := Lib.hid (by show SlAt 8 w9 (.slice ca n cc) cs.length _; rw [HN.out]; exact CV.out.below B9.out)
          have CL : Hid (cs.length ≤ 10) := Lib.hid (by rw [HN.out]; exact n10)
          have WW : Hid (∀ a ∈ cs ++ [c], a.wf) := Lib.hid (fun a ha => by
            rcases List.mem_append.1 ha with h | h
            · exact GC.out a h
            · rw [List.mem_singleton] at h; rw [h]; exact WC.out)
          have LW : Hid ((cs ++ [c]).length ≤ 12) := Lib.hid (by rw [List.length_append, List.length_singleton]; have := CL.out; omega)
          have L3Z : Hid (∀ u W, Below w.heap.size w W → Tab W → SlAt 8 W u (cs.length + 1) (fun i => ctC ((([] : List Ct) ++ cs ++ [c]).getD i ct0)) → Calls Tryd.prog 14 #[.slice va vn vc, u] W fun e w' => (∃ u, e = .returned u ∧ LiS w' u (lisF ps (cs ++ [c]))) ∧ Below W.heap.size W w') := Lib.hid (fun u W b t hu => L3.out (cs ++ [c]) u W WW.out LW.out b t (by show SlAt 8 W u (cs ++ [c]).length _; rw [show (cs ++ [c]).length = cs.length + 1 by simp]; exact hu))
          have LZ : Hid (([] ++ cs ++ [c]).length ≤ 1000000) := Lib.hid (by rw [List.nil_append, List.length_append, List.length_singleton]; have := CL.out; omega)
          obtain ⟨Z, hZ⟩ : ∃ y, lisF ps (cs ++ [c]) = y := ⟨_, rfl⟩
          rw [hZ] at L3Z ZS
          clear hZ WW LW L3
          (try dsimp only [Act.put])
          go_cut [18] from 113 to 120 (fun s18 wx => ∃ (za : Option Addr) (zc : Nat), s18 = .slice za Z.length zc ∧ Hid (LiS wx (.slice za Z.length zc) Z) ∧ Hid (Below w9.heap.size w9 wx))
          case first =>
            refine Tc.wp_region_plan (keep w9.heap.size) 8 [] (.fl 0 (.fl 2 (.fl 4 (.two 1 5 (.two 3 5 (.one 5 (.one 6 (.one 7 .done))) (.one 3 (.one 6 (.one 7 .done)))) (.one 1 (.one 3 (.one 6 (.one 7 .done)))))))) (by kernel_rfl) (by kernel_rfl) ?_
            intro w10 b10 e10
            have BB10 : Hid (Below w9.heap.size w9 w10) := Lib.hid b10
            clear b10 e10
            refine Tc.plan_floats [0, 2, 4] [_, _, _] rfl ?_
            dsimp only [List.getElem_toArray, List.getElem_cons_succ, List.getElem_cons_zero]
            repeat (first | go_big_quiet_skip | (go_big_quiet_want; go_big_quiet_op; first | go_big_quiet_on | (refine ⟨_, fun _ _ => rfl, ?_⟩; go_big_quiet_on)))
            refine wpQuiet_load_part rfl 27 (.tmp 5) rfl w.heap.size 0 rfl 8 8 _ (ctC c) (ctC c) (fun W hW => row_keep (n := w9.heap.size) ((P9.out).below BB10.out) (LP.out) hW) (by decide) (fun j _ => by rw [Nat.zero_add]) _ Tryd.underlying27 rfl (by kernel_rfl) ?_
            simp only [Act.put, List.setIfInBounds_toArray, List.set_cons_succ, List.set_cons_zero]
            repeat (first | go_big_quiet_skip | (go_big_quiet_want; go_big_quiet_op; first | go_big_quiet_on | (refine ⟨_, fun _ _ => rfl, ?_⟩; go_big_quiet_on)))
            refine wpQuiet_nil ?_
            refine Tc.plan_two 1 5 rfl rfl (fun K hK => ?_) (fun K hK => ?_)
            · go_wp2_with fail
              have al := (Below.refl _ w10).alloc (Nat.le_refl _) (.cells #[] 27)
              have R := Lib.hid (show OwnT 27 8 ctC (w10.alloc (.cells #[] 27)) w9.heap.size (.slice (some ⟨w10.heap.size, 0, none⟩) 0 0) [] from OwnT.none0 BB10.out.size (MapKept.heap_alloc w10 _).1)
              have RL : Hid (w10.heap.size < (w10.alloc (.cells #[] 27)).heap.size) := Lib.hid (by rw [World.size_alloc]; omega)
              refine hK _ _ (keep_below (al.mono BB10.out.size)) ?_
              obtain ⟨w11, hw⟩ : ∃ y, w10.alloc (.cells #[] 27) = y := ⟨_, rfl⟩
              rw [hw] at al R RL ⊢
              have BB11 := Lib.hid (BB10.out.trans (al.mono BB10.out.size))
              have Z10 := RL
              have P11 := R
              clear hK K al hw R RL BB10
              refine Tc.plan_two 3 5 rfl rfl (fun K hK => ?_) (fun K hK => ?_)
              · refine wpList_app_S rfl (.tmp 114) (.tmp 115) info_ct Tryd.underlying45 rfl (by decide) (by decide) ctC_one ct0 rfl w9.heap.size _ ([]) rfl P11.out _ (cs) rfl (CX.out.below BB11.out) (by have := CL.out; simp only [List.length_nil]; omega) BB11.out.size ?_
                intro v12 w12 P12 s12
                have bb := below_app s12.out BB11.out.size P11.out.ge
                have BB12 := Lib.hid (BB11.out.trans bb)
                obtain ⟨va12, vc12, rfl⟩ := P12.out.slice
                go_wp2_with fail
                refine hK _ _ (keep_below bb) ?_
                clear hK K bb s12 BB11 P11
                refine Tc.plan_one 5 rfl (fun K hK => ?_)
                have hsz : (rowF 8 (ctC c)).size = 8 := rowF_size _ _
                go_wp2_with fail
                rw [fold_ce]
                clear hsz
                have al := (Below.refl _ w12).alloc (Nat.le_refl _) (.cells (rowF 8 (ctC c)) 27)
                have R := Lib.hid (OwnT.one (c := ctC) (a := c) (by decide) (RowV.new w12 27 8 (ctC c)))
                have RL : Hid (w12.heap.size < (w12.alloc (.cells (rowF 8 (ctC c)) 27)).heap.size) := Lib.hid (by rw [World.size_alloc]; omega)
                refine hK _ _ (keep_below (al.mono BB12.out.size)) ?_
                obtain ⟨w13, hw⟩ : ∃ y, w12.alloc (.cells (rowF 8 (ctC c)) 27) = y := ⟨_, rfl⟩
                rw [hw] at al R RL ⊢
                have BB13 := Lib.hid (BB12.out.trans (al.mono BB12.out.size))
                have Z12 := RL
                have P13 := Lib.hid (P12.out.below al)
                have Q13 := R
                clear hK K al hw R RL BB12 P12
                refine Tc.plan_one 6 rfl (fun K hK => ?_)
                refine wpList_app_S rfl (.tmp 116) (.tmp 118) info_ct Tryd.underlying45 rfl (by decide) (by decide) ctC_one ct0 rfl w9.heap.size _ ([] ++ cs) rfl P13.out _ ([c]) rfl (Q13.out.at' ct0 (by decide) (by decide) (by simp)) (by have := CL.out; simp only [List.nil_append, List.length_singleton]; omega) BB13.out.size ?_
                intro v14 w14 P14 s14
                have bb := below_app s14.out BB13.out.size P13.out.ge
                have BB14 := Lib.hid (BB13.out.trans bb)
                obtain ⟨va14, vc14, rfl⟩ := P14.out.slice
                go_wp2_with fail
                refine hK _ _ (keep_below bb) ?_
                clear hK K bb s14 BB13 P13 Q13
                refine Tc.plan_one 7 rfl (fun K hK => ?_)
                go_wp2_with fail
                have HP := P14.out.at' ct0 (by decide) (by decide) LZ.out
                rw [show (([] : List Ct) ++ cs ++ [c]).length = cs.length + 1 by simp] at HP
                refine (L3Z.out _ _ (B9.out.trans (BB14.out.mono B9.out.size)) (T9.out.below BB14.out) HP).mono ?_
                rintro e w15 ⟨⟨lv, rfl, hl⟩, b15⟩
                have bb := b15.mono BB14.out.size
                have BB15 := Lib.hid (BB14.out.trans bb)
                obtain ⟨la, lc, rfl⟩ := hl.slice
                have HL := Lib.hid hl
                go_wp2_with fail
                refine hK _ _ (keep_below bb) ?_
                clear hK K bb hl HP b15 BB14 P14
                refine Tc.plan_done (l := [_]) rfl (fun K hK => ?_)
                go_wp2_with fail
                go_meet
                exact ⟨la, lc, rfl, HL, BB15⟩
              · have hsz : (rowF 8 (ctC c)).size = 8 := rowF_size _ _
                go_wp2_with fail
                rw [fold_ce]
                clear hsz
                have al := (Below.refl _ w11).alloc (Nat.le_refl _) (.cells (rowF 8 (ctC c)) 27)
                have R := Lib.hid (OwnT.one (c := ctC) (a := c) (by decide) (RowV.new w11 27 8 (ctC c)))
                have RL : Hid (w11.heap.size < (w11.alloc (.cells (rowF 8 (ctC c)) 27)).heap.size) := Lib.hid (by rw [World.size_alloc]; omega)
                refine hK _ _ (keep_below (al.mono BB11.out.size)) ?_
                obtain ⟨w12, hw⟩ : ∃ y, w11.alloc (.cells (rowF 8 (ctC c)) 27) = y := ⟨_, rfl⟩
                rw [hw] at al R RL ⊢
                have BB12 := Lib.hid (BB11.out.trans (al.mono BB11.out.size))
                have Z11 := RL
                have P12 := Lib.hid (P11.out.below al)
                have Q12 := R
                clear hK K al hw R RL BB11 P11
                refine Tc.plan_one 3 rfl (fun K hK => ?_)
                refine wpList_app_S rfl (.tmp 114) (.tmp 115) info_ct Tryd.underlying45 rfl (by decide) (by decide) ctC_one ct0 rfl w9.heap.size _ ([]) rfl P12.out _ (cs) rfl (CX.out.below BB12.out) (by have := CL.out; simp only [List.length_nil]; omega) BB12.out.size ?_
                intro v13 w13 P13 s13
                have bb := below_app s13.out BB12.out.size P12.out.ge
                have BB13 := Lib.hid (BB12.out.trans bb)
                have Q13 := Lib.hid (Q12.out.app s13.out (by refine .inr (fun e => ?_); have h0 : w11.heap.size = w10.heap.size := Option.some.inj e; have := Z10.out; omega))
                obtain ⟨va13, vc13, rfl⟩ := P13.out.slice
                go_wp2_with fail
                refine hK _ _ (keep_below bb) ?_
                clear hK K bb s13 BB12 P12 Q12
                refine Tc.plan_one 6 rfl (fun K hK => ?_)
                refine wpList_app_S rfl (.tmp 116) (.tmp 118) info_ct Tryd.underlying45 rfl (by decide) (by decide) ctC_one ct0 rfl w9.heap.size _ ([] ++ cs) rfl P13.out _ ([c]) rfl (Q13.out.at' ct0 (by decide) (by decide) (by simp)) (by have := CL.out; simp only [List.nil_append, List.length_singleton]; omega) BB13.out.size ?_
                intro v14 w14 P14 s14
                have bb := below_app s14.out BB13.out.size P13.out.ge
                have BB14 := Lib.hid (BB13.out.trans bb)
                obtain ⟨va14, vc14, rfl⟩ := P14.out.slice
                go_wp2_with fail
                refine hK _ _ (keep_below bb) ?_
                clear hK K bb s14 BB13 P13 Q13
                refine Tc.plan_one 7 rfl (fun K hK => ?_)
                go_wp2_with fail
                have HP := P14.out.at' ct0 (by decide) (by decide) LZ.out
                rw [show (([] : List Ct) ++ cs ++ [c]).length = cs.length + 1 by simp] at HP
                refine (L3Z.out _ _ (B9.out.trans (BB14.out.mono B9.out.size)) (T9.out.below BB14.out) HP).mono ?_
                rintro e w15 ⟨⟨lv, rfl, hl⟩, b15⟩
                have bb := b15.mono BB14.out.size
                have BB15 := Lib.hid (BB14.out.trans bb)
                obtain ⟨la, lc, rfl⟩ := hl.slice
                have HL := Lib.hid hl
                go_wp2_with fail
                refine hK _ _ (keep_below bb) ?_
                clear hK K bb hl HP b15 BB14 P14
                refine Tc.plan_done (l := [_]) rfl (fun K hK => ?_)
                go_wp2_with fail
                go_meet
                exact ⟨la, lc, rfl, HL, BB15⟩
            · have hsz : (rowF 8 (ctC c)).size = 8 := rowF_size _ _
              go_wp2_with fail
              rw [fold_ce]
              clear hsz
              have al := (Below.refl _ w10).alloc (Nat.le_refl _) (.cells (rowF 8 (ctC c)) 27)
              have R := Lib.hid (OwnT.one (c := ctC) (a := c) (by decide) (RowV.new w10 27 8 (ctC c)))
              have RL : Hid (w10.heap.size < (w10.alloc (.cells (rowF 8 (ctC c)) 27)).heap.size) := Lib.hid (by rw [World.size_alloc]; omega)
              refine hK _ _ (keep_below (al.mono BB10.out.size)) ?_
              obtain ⟨w11, hw⟩ : ∃ y, w10.alloc (.cells (rowF 8 (ctC c)) 27) = y := ⟨_, rfl⟩
              rw [hw] at al R RL ⊢
              have BB11 := Lib.hid (BB10.out.trans (al.mono BB10.out.size))
              have Z10 := RL
              have Q11 := R
              clear hK K al hw R RL BB10
              refine Tc.plan_one 1 rfl (fun K hK => ?_)
              go_wp2_with fail
              have al := (Below.refl _ w11).alloc (Nat.le_refl _) (.cells #[] 27)
              have R := Lib.hid (show OwnT 27 8 ctC (w11.alloc (.cells #[] 27)) w9.heap.size (.slice (some ⟨w11.heap.size, 0, none⟩) 0 0) [] from OwnT.none0 BB11.out.size (MapKept.heap_alloc w11 _).1)
              have RL : Hid (w11.heap.size < (w11.alloc (.cells #[] 27)).heap.size) := Lib.hid (by rw [World.size_alloc]; omega)
              refine hK _ _ (keep_below (al.mono BB11.out.size)) ?_
              obtain ⟨w12, hw⟩ : ∃ y, w11.alloc (.cells #[] 27) = y := ⟨_, rfl⟩
              rw [hw] at al R RL ⊢
              have BB12 := Lib.hid (BB11.out.trans (al.mono BB11.out.size))
              have Z11 := RL
              have Q12 := Lib.hid (Q11.out.below al)
              have P12 := R
              clear hK K al hw R RL BB11 Q11
              refine Tc.plan_one 3 rfl (fun K hK => ?_)
              refine wpList_app_S rfl (.tmp 114) (.tmp 115) info_ct Tryd.underlying45 rfl (by decide) (by decide) ctC_one ct0 rfl w9.heap.size _ ([]) rfl P12.out _ (cs) rfl (CX.out.below BB12.out) (by have := CL.out; simp only [List.length_nil]; omega) BB12.out.size ?_
              intro v13 w13 P13 s13
              have bb := below_app s13.out BB12.out.size P12.out.ge
              have BB13 := Lib.hid (BB12.out.trans bb)
              have Q13 := Lib.hid (Q12.out.app s13.out (by refine .inr (fun e => ?_); have h0 : w10.heap.size = w11.heap.size := Option.some.inj e; have := Z10.out; omega))
              obtain ⟨va13, vc13, rfl⟩ := P13.out.slice
              go_wp2_with fail
              refine hK _ _ (keep_below bb) ?_
              clear hK K bb s13 BB12 Q12 P12
              refine Tc.plan_one 6 rfl (fun K hK => ?_)
              refine wpList_app_S rfl (.tmp 116) (.tmp 118) info_ct Tryd.underlying45 rfl (by decide) (by decide) ctC_one ct0 rfl w9.heap.size _ ([] ++ cs) rfl P13.out _ ([c]) rfl (Q13.out.at' ct0 (by decide) (by decide) (by simp)) (by have := CL.out; simp only [List.nil_append, List.length_singleton]; omega) BB13.out.size ?_
              intro v14 w14 P14 s14
              have bb := below_app s14.out BB13.out.size P13.out.ge
              have BB14 := Lib.hid (BB13.out.trans bb)
              obtain ⟨va14, vc14, rfl⟩ := P14.out.slice
              go_wp2_with fail
              refine hK _ _ (keep_below bb) ?_
              clear hK K bb s14 BB13 Q13 P13
              refine Tc.plan_one 7 rfl (fun K hK => ?_)
              go_wp2_with fail
              have HP := P14.out.at' ct0 (by decide) (by decide) LZ.out
              rw [show (([] : List Ct) ++ cs ++ [c]).length = cs.length + 1 by simp] at HP
              refine (L3Z.out _ _ (B9.out.trans (BB14.out.mono B9.out.size)) (T9.out.below BB14.out) HP).mono ?_
              rintro e w15 ⟨⟨lv, rfl, hl⟩, b15⟩
              have bb := b15.mono BB14.out.size
              have BB15 := Lib.hid (BB14.out.trans bb)
              obtain ⟨la, lc, rfl⟩ := hl.slice
              have HL := Lib.hid hl
              go_wp2_with fail
              refine hK _ _ (keep_below bb) ?_
              clear hK K bb hl HP b15 BB14 P14
              refine Tc.plan_done (l := [_]) rfl (fun K hK => ?_)
              go_wp2_with fail
              go_meet
              exact ⟨la, lc, rfl, HL, BB15⟩
          case rest =>
            rename World => w10
            obtain ⟨za, zc, rfl, hz, bb⟩ := hcut
            have b10 := bb.out
            clear bb CX CL L3Z LZ LP
            have B10 := Lib.hid (B9.out.trans (b10.mono B9.out.size))
            have P10 := Lib.hid (P9.out.below b10)
            have T10 := Lib.hid (T9.out.below b10)
            have U10 := Lib.hid (U9.out.below b10)
            have Y10 := Lib.hid (Y9.out.below b10)
            clear b10 B9 P9 T9 U9 Y9
            have W10 : Hid (LiS w10 (.slice za Z.length zc) Z) := hz
            clear hz
            cases he : (E == 0)
            · have hE : ¬ E = 0 := by rw [beq_eq_false_iff_ne] at he; exact he
              have hE2 : (E != 0) = true := by rw [bne, he]; rfl
              have e2 := ZS.out
              rw [if_neg hE] at e2
              subst e2
              clear AV AT ZS hE
              go_wp2_with fail
              refine (C5.out _ _ Z _ QL.out W10.out U10.out).mono ?_
              rintro e w11 ⟨rfl, b11⟩
              have B11 := Lib.hid (B10.out.trans (b11.mono B10.out.size))
              have P11 := Lib.hid (P10.out.below b11)
              have T11 := Lib.hid (T10.out.below b11)
              have U11 := Lib.hid (U10.out.below b11)
              have Y11 := Lib.hid (Y10.out.below b11)
              have W11 := Lib.hid (W10.out.below b11)
              clear b11 B10 P10 T10 U10 Y10 W10
              go_wp2_with fail
              go_ret
              exact ⟨rfl, B11.out⟩
            obtain rfl : E = 0 := by rw [beq_iff_eq] at he; exact he
            have e2 := ZS.out
            rw [if_pos rfl] at e2
            obtain ⟨a1, _, _, _, _, _⟩ := AV.out rfl
            have A1 := Lib.hid a1
            have AT2 := Lib.hid (AT.out rfl)
            have ZL : Hid (Z.length ≤ 1000 ∧ (Z.length = X.length ∨ Z.length = X.length + 1)) := Lib.hid (by
              rw [e2]; have h := snoc_len XU.out y; have := QL.out; rw [HQ.out] at h ⊢; exact ⟨by omega, h⟩)
            have IW : Hid (∀ a ∈ Z, (a.d = c.d ∧ a = y) ∨ (¬ a.d = c.d ∧ a ∈ X)) := Lib.hid (fun a ha => by rw [e2] at ha; rw [← A1.out]; exact in_with ha)
            have AD : Hid (anyD c.d Z = true) := Lib.hid (by rw [e2, ← A1.out]; exact anyD_with X y)
            rw [← e2] at AT2
            clear AV AT ZS a1 e2 he
            go_wp2_with (first | ((with_reducible (show wpList _ _ _ (Oper.mk (some 129) _ _ _ _ _ :: _) _ _)); refine Hid.out ?_))
            refine Lib.hid ?_
            refine wpList_load_rowV rfl 27 (.tmp 5) rfl w.heap.size rfl 8 _ _ (P10.out) _ Tryd.underlying27 rfl (by kernel_rfl) ?_
            go_wp2_with fail
            refine (L4.out Z c _ _ WC.out ZL.out.1 B10.out T10.out W10.out).mono ?_
            rintro e w11 ⟨rfl, b11⟩
            have B11 := Lib.hid (B10.out.trans (b11.mono B10.out.size))
            have P11 := Lib.hid (P10.out.below b11)
            have T11 := Lib.hid (T10.out.below b11)
            have U11 := Lib.hid (U10.out.below b11)
            have Y11 := Lib.hid (Y10.out.below b11)
            have W11 := Lib.hid (W10.out.below b11)
            clear b11 B10 P10 T10 U10 Y10 W10
            obtain ⟨F, hF⟩ : ∃ y, accF ps Z c = y := ⟨_, rfl⟩
            rw [hF] at AT2 ⊢
            obtain ⟨E2, y2⟩ := F
            have f2 : (E2 == 0) = false := by rw [beq_eq_false_iff_ne]; exact AT2.out
            clear hF AT2
            have Zr := Lib.hid (RowV.new w11 31 5 (liC li0))
            go_upto_region 30 with ((with_reducible (show wpList _ _ _ (Oper.mk none _ _ _ _ _ :: _) _ _)); refine wpList_store_rowV (o := ⟨none, .store 31 (.tmp 19) (.tmp 131), _, _, _, _⟩) rfl 31 (.tmp 19) (.tmp 131) rfl w11.heap.size rfl 5 31 _ (liC y2) rfl Zr.out (by kernel_rfl) (fun j _ => liC_one _ j) ?_; intro w12 G12 o12)
            have b12 : Below w11.heap.size w11 w12 := ((Below.refl _ _).alloc (Nat.le_refl _) _).trans (o12.out.below (Nat.le_refl _) (by rw [World.size_alloc]; omega))
            have B12 := Lib.hid (B11.out.trans (b12.mono B11.out.size))
            have P12 := Lib.hid (P11.out.below b12)
            have T12 := Lib.hid (T11.out.below b12)
            have U12 := Lib.hid (U11.out.below b12)
            have Y12 := Lib.hid (Y11.out.below b12)
            have W12 := Lib.hid (W11.out.below b12)
            clear b12 o12 Zr B11 P11 T11 U11 Y11 W11
            clear G12
            obtain ⟨z, hzq⟩ : ∃ y, Z.length = y := ⟨_, rfl⟩
            have W : Hid (SlAt 5 w12 (.slice za Z.length zc) Z.length (fun i => liC (Z.getD i li0))) := Lib.hid W12.out
            rw [hzq] at W ⊢
            have HZ := Lib.hid hzq
            have zz : (z : Int) ≤ 1000 := by have := ZL.out.1; rw [hzq] at this; omega
            have BY := Lib.hid B12.out
            have UY : Hid (SlAt 5 w12 (.slice xa q xc) q (fun i => liC (X.getD i li0))) := Lib.hid (by have h : SlAt 5 w12 (.slice xa q xc) X.length (fun i => liC (X.getD i li0)) := U12.out; rw [HQ.out] at h; exact h)
            have PY := Lib.hid P12.out
            have YY := Lib.hid Y12.out
            have S12 := Lib.hid (Since.refl w12)
            clear hzq W12 U12 P12 Y12 T12
            go_upto_region 33 with fail
            clear f2
            go_wp2_with fail
            go_loopg [21, 137] z (fun g s21 s137 wx => ∃ k : Nat, k + g = z ∧ s21 = .bool (anyD c.d (Z.take k)) ∧ s137 = .int .i64 (k : Int) ∧ Hid (Since w12 wx))
            case atStart => exact ⟨0, by omega, rfl, rfl, S12⟩
            case round =>
              clear S12
              obtain ⟨k, hk, rfl, rfl, hS⟩ := hrel
              obtain ⟨w13, rfl⟩ : ∃ y, y = wr := ⟨_, rfl⟩
              have q0 : (0 : Int) ≤ (k : Int) := Int.natCast_nonneg k
              have B13 := Lib.hid (BY.out.trans (hS.out.b.mono BY.out.size))
              by_cases hlt : k < z
              · have d0 : decide ((k : Int) < (z : Int)) = true := by rw [decide_eq_true_iff]; omega
                have d1 : decide (k < z) = true := by rw [decide_eq_true_iff]; omega
                obtain ⟨b, off, rfl, hcap, hb, hc⟩ := SlAt.at_elem (s := 5) (n := z) (a := za) (k := zc) (c := fun i => liC (Z.getD i li0)) (W.out.below hS.out.b) hlt
                have HLT := Lib.hid hlt
                have HCK := Lib.hid (fun j hj => hc k hlt j hj)
                have AS := Lib.hid (anyD_snoc (show k < Z.length by rw [HZ.out]; exact hlt) rfl c.d)
                have IA := Lib.hid (IW.out (Z.getD k li0) (by rw [List.getD_eq_getElem?_getD, List.getElem?_eq_getElem (show k < Z.length by rw [HZ.out]; exact hlt)]; exact List.getElem_mem _))
                obtain ⟨a, ha⟩ : ∃ y, Z.getD k li0 = y := ⟨_, rfl⟩
                rw [ha] at HCK AS IA
                have P13 := Lib.hid (PY.out.below hS.out.b)
                have Y13 := Lib.hid (YY.out.below hS.out.b)
                have S13 := hS
                have p1 : (k : Int) + 1 ≤ 1001 := by omega
                clear hc hcap hb ha hlt hS
                go_wp2_with (first | ((with_reducible (show wpList _ _ _ (Oper.mk (some 140) _ _ _ _ _ :: _) _ _)); refine Hid.out ?_))
                refine Lib.hid ?_
                refine wpList_load_elem rfl 31 (.tmp 139) rfl b (off + k * 5) rfl 5 off k (by rw [Nat.mul_comm]) (liC a) HCK.out _ Tryd.underlying31 rfl (by kernel_rfl) ?_
                clear HCK d0 d1
                have Zr := Lib.hid (RowV.new w13 31 5 (liC li0))
                go_upto_region 36 with ((with_reducible (show wpList _ _ _ (Oper.mk none _ _ _ _ _ :: _) _ _)); refine wpList_store_rowV (o := ⟨none, .store 31 (.tmp 23) (.tmp 140), _, _, _, _⟩) rfl 31 (.tmp 23) (.tmp 140) rfl w13.heap.size rfl 5 31 _ (liC a) rfl Zr.out (by kernel_rfl) (fun j _ => liC_one _ j) ?_; intro w14 V14 o14)
                have b14 : Below w13.heap.size w13 w14 := ((Below.refl _ _).alloc (Nat.le_refl _) _).trans (o14.out.below (Nat.le_refl _) (by rw [World.size_alloc]; omega))
                have B14 := Lib.hid (B13.out.trans (b14.mono B13.out.size))
                have P14 := Lib.hid (P13.out.below b14)
                have Y14 := Lib.hid (Y13.out.below b14)
                have S14 := Lib.hid (S13.out.below b14)
                clear b14 o14 Zr B13 P13 Y13 S13
                have x0 : w14.cell? ⟨w13.heap.size, 0, none⟩ = some (.int .i64 a.d) := V14.out.cell (i := 0) (by decide)
                have x1 : w14.cell? ⟨w.heap.size, 1, none⟩ = some (.int .i64 c.d) := P14.out.cell (i := 1) (by decide)
                by_cases hd : a.d = c.d
                · have f1 : (a.d == c.d) = true := by rw [beq_iff_eq]; exact hd
                  obtain rfl : a = y := by rcases IA.out with h | h; exact h.2; exact absurd hd h.1
                  have AS2 : Hid (anyD c.d (Z.take (k + 1)) = true) := Lib.hid (by rw [AS.out, decide_eq_true hd, Bool.or_true])
                  have e1 := fun W => eql_li a a W
                  rw [liB_self] at e1
                  have g1 := fun x y W => guard_li .eql x y a a W
                  clear IA AS hd
                  go_upto_region 37 with fail
                  go_wp2_with (first | ((with_reducible (show wpList _ _ _ (Oper.mk (some 146) _ _ _ _ _ :: _) _ _)); refine Hid.out ?_))
                  refine Lib.hid ?_
                  refine wpList_load_rowV rfl 31 (.tmp 23) rfl w13.heap.size rfl 5 _ _ (V14.out) _ Tryd.underlying31 rfl (by kernel_rfl) ?_
                  go_wp2_with (first | ((with_reducible (show wpList _ _ _ (Oper.mk (some 147) _ _ _ _ _ :: _) _ _)); refine Hid.out ?_))
                  refine Lib.hid ?_
                  refine wpList_load_rowV rfl 31 (.tmp 16) rfl w8.heap.size rfl 5 _ _ (Y14.out) _ Tryd.underlying31 rfl (by kernel_rfl) ?_
                  clear x0 x1 f1
                  go_wp2_with fail
                  go_roundg (z - (k + 1))
                  case measure => have := HLT.out; omega
                  case rel =>
                    go_light
                    exact ⟨k + 1, by have := HLT.out; omega, by rw [AS2.out], by go_num, S14⟩
                · have f1 : (a.d == c.d) = false := by rw [beq_eq_false_iff_ne]; exact hd
                  have MX : Hid (anyE a X = true) := Lib.hid (by rcases IA.out with h | h; exact absurd h.1 hd; exact anyE_in h.2)
                  have AS2 : Hid (anyD c.d (Z.take (k + 1)) = anyD c.d (Z.take k)) := Lib.hid (by rw [AS.out, decide_eq_false hd, Bool.or_false])
                  have S14K := Lib.hid S14.out
                  have S15 := Lib.hid (Since.refl w14)
                  clear IA AS hd P14 Y14 S14
                  go_upto_region 39 with fail
                  clear x0 x1 f1
                  go_wp2_with fail
                  go_loopg [24, 151] q (fun g s24 s151 wx => ∃ j : Nat, j + g = q ∧ s24 = .bool (anyE a (X.take j)) ∧ s151 = .int .i64 (j : Int) ∧ Hid (Since w14 wx))
                  case atStart => exact ⟨0, by omega, rfl, rfl, S15⟩
                  case round =>
                    clear S15
                    obtain ⟨j, hj, rfl, rfl, hS⟩ := hrel
                    obtain ⟨w15, rfl⟩ : ∃ y, y = wr := ⟨_, rfl⟩
                    have r0 : (0 : Int) ≤ (j : Int) := Int.natCast_nonneg j
                    have V15 := Lib.hid (V14.out.below hS.out.b)
                    have S15 := hS
                    have B15 := Lib.hid (B14.out.trans (hS.out.b.mono B14.out.size))
                    by_cases hlt2 : j < q
                    · have d0 : decide ((j : Int) < (q : Int)) = true := by rw [decide_eq_true_iff]; omega
                      have d1 : decide (j < q) = true := by rw [decide_eq_true_iff]; omega
                      obtain ⟨b2, off2, rfl, hcap, hb, hc⟩ := SlAt.at_elem (s := 5) (n := q) (a := xa) (k := xc) (c := fun i => liC (X.getD i li0)) (UY.out.below (Since.below S14K.out hS.out.b).b) hlt2
                      have JLT := Lib.hid hlt2
                      have HCK := Lib.hid (fun i hi => hc j hlt2 i hi)
                      have ES := Lib.hid (anyE_snoc (show j < X.length by rw [HQ.out]; exact hlt2) rfl a)
                      obtain ⟨u, hu⟩ : ∃ y, X.getD j li0 = y := ⟨_, rfl⟩
                      rw [hu] at HCK ES
                      obtain ⟨t, ht⟩ : ∃ y, anyE a (X.take j) = y := ⟨_, rfl⟩
                      rw [ht] at ES ⊢
                      have r1 : (j : Int) + 1 ≤ 1001 := by omega
                      clear hc hcap hb hu hlt2 hS ht
                      go_wp2_with (first | ((with_reducible (show wpList _ _ _ (Oper.mk (some 154) _ _ _ _ _ :: _) _ _)); refine Hid.out ?_))
                      refine Lib.hid ?_
                      refine wpList_load_elem rfl 31 (.tmp 153) rfl b2 (off2 + j * 5) rfl 5 off2 j (by rw [Nat.mul_comm]) (liC u) HCK.out _ Tryd.underlying31 rfl (by kernel_rfl) ?_
                      clear HCK d0 d1
                      have Zr := Lib.hid (RowV.new w15 31 5 (liC li0))
                      go_upto_region 42 with ((with_reducible (show wpList _ _ _ (Oper.mk none _ _ _ _ _ :: _) _ _)); refine wpList_store_rowV (o := ⟨none, .store 31 (.tmp 26) (.tmp 154), _, _, _, _⟩) rfl 31 (.tmp 26) (.tmp 154) rfl w15.heap.size rfl 5 31 _ (liC u) rfl Zr.out (by kernel_rfl) (fun j _ => liC_one _ j) ?_; intro w16 G16 o16)
                      have b16 : Below w15.heap.size w15 w16 := ((Below.refl _ _).alloc (Nat.le_refl _) _).trans (o16.out.below (Nat.le_refl _) (by rw [World.size_alloc]; omega))
                      have B16 := Lib.hid (B15.out.trans (b16.mono B15.out.size))
                      have V16 := Lib.hid (V15.out.below b16)
                      have S16 := Lib.hid (S15.out.below b16)
                      clear b16 o16 Zr B15 V15 S15
                      cases t
                      · have e1 := fun W => eql_li a u W
                        have g1 := fun x y W => guard_li .eql x y a u W
                        go_wp2_with (first | ((with_reducible (show wpList _ _ _ (Oper.mk (some 157) _ _ _ _ _ :: _) _ _)); refine Hid.out ?_))
                        refine Lib.hid ?_
                        refine wpList_unguard rfl ?_
                        refine wpList_load_rowV rfl 31 (.tmp 23) rfl w13.heap.size rfl 5 _ _ (V16.out) _ Tryd.underlying31 rfl (by kernel_rfl) ?_
                        go_wp2_with (first | ((with_reducible (show wpList _ _ _ (Oper.mk (some 158) _ _ _ _ _ :: _) _ _)); refine Hid.out ?_))
                        refine Lib.hid ?_
                        refine wpList_unguard rfl ?_
                        refine wpList_load_rowV rfl 31 (.tmp 26) rfl w15.heap.size rfl 5 _ _ (G16.out) _ Tryd.underlying31 rfl (by kernel_rfl) ?_
                        go_wp2_with fail
                        go_roundg (q - (j + 1))
                        case measure => have := JLT.out; omega
                        case rel =>
                          go_light
                          exact ⟨j + 1, by have := JLT.out; omega, by rw [ES.out]; rfl, by go_num, S16⟩
                      · clear G16 V16
                        go_wp2_with fail
                        go_roundg (q - (j + 1))
                        case measure => have := JLT.out; omega
                        case rel =>
                          go_light
                          exact ⟨j + 1, by have := JLT.out; omega, by rw [ES.out]; rfl, by go_num, S16⟩
                    · have d0 : decide ((j : Int) < (q : Int)) = false := by rw [decide_eq_false_iff_not]; omega
                      have d1 : decide (j < q) = false := by rw [decide_eq_false_iff_not]; omega
                      have ET : anyE a (X.take j) = true := by rw [List.take_of_length_le (by rw [HQ.out]; omega)]; exact MX.out
                      rw [ET]
                      have S15X := Lib.hid (Since.below S14K.out S15.out.b)
                      clear V15 S15 B15 hS hlt2 hj r0
                      go_wp2_with fail
                      go_roundg (z - (k + 1))
                      case measure => have := HLT.out; omega
                      case rel =>
                        go_light
                        exact ⟨k + 1, by have := HLT.out; omega, by rw [AS2.out], by go_num, S15X⟩
              · have d0 : decide ((k : Int) < (z : Int)) = false := by rw [decide_eq_false_iff_not]; omega
                have d1 : decide (k < z) = false := by rw [decide_eq_false_iff_not]; omega
                rw [List.take_of_length_le (by rw [HZ.out]; omega), AD.out]
                have hl := ZL.out.2
                rw [HZ.out, HQ.out] at hl
                clear hS hlt hk q0
                by_cases hzq : z = q
                · have f3 : ((z : Int) == (q : Int)) = true := by rw [beq_iff_eq, hzq]
                  have f5 : (z == q) = true := by rw [beq_iff_eq]; exact hzq
                  clear hl hzq
                  go_wp2_with fail
                  go_ret
                  exact ⟨rfl, B13.out⟩
                · have f3 : ((z : Int) == (q : Int)) = false := by rw [beq_eq_false_iff_ne]; omega
                  have f5 : (z == q) = false := by rw [beq_eq_false_iff_ne]; exact hzq
                  have f4 : ((z : Int) == (q : Int) + 1) = true := by rw [beq_iff_eq]; omega
                  clear hl hzq
                  go_wp2_with fail
                  go_ret
                  exact ⟨rfl, B13.out⟩

set_option maxRecDepth 100000 in
set_option maxHeartbeats 1000000 in
theorem lifted (os : Os) (started : os.Started) (H : Type) (enc : TypeId × Value → H) :
    ReturnsInHanded {} Tryd.checked os 4 .any (fun w args => (Rows.peopleVersionsSpec.pre enc Tryd.prog Tryd.f4 [] false w args ∧ laidMetH Tryd.prog laidL w) ∧ sizedMet enc Tryd.prog Tryd.f4 (OpenSpec.ofChange Rows.peopleVersionsSpec) false w args)
      (Rows.peopleVersionsSpec.post enc Tryd.prog Tryd.f4 false true false false) := by
  refine returnsInHanded_of_change_and (C := Tryd.checked) (X := fun w _ => laidMetH Tryd.prog laidL w) (fun _ _ _ hh h => h.of_heap hh) own started (by kernel_rfl) Tryd.func4
    (ChangeSpec.witness_shaped (enc := enc) (C := Tryd.checked) (os := os) (X := fun w _ => laidMetH Tryd.prog laidL w) false (World.doorLaid Tryd.prog 19 os) #[.slice none 0 0, .slice none 0 0, .agg #[.int .i64 0, .int .i64 0, .int .i64 0, .int .i64 0, .int .i64 0, .int .i64 0, .int .i64 0, .int .i64 0]] 8 rfl (World.shaped_of_RefB (by kernel_rfl) (by kernel_rfl)) (by kernel_rfl) (by kernel_rfl) (by kernel_rfl) (door_met os _)) ?_
  intro W base args ds gs before hval0 hW _ hsz hL _
  have hval : ∀ (j : Nat) t v, Tryd.f4.params[j]? = some t → args[j]? = some v → Value.okWide Tryd.prog W .any base t v := hval0
  have hW' := hW
  obtain ⟨p, q, hA0, hV, rfl, hfz, hnd⟩ := hW
  have hA : DataW.TrodAll enc Tryd.prog W 0 (fun _ => true) true Tryd.f4.params.toList args.toList ds p := hA0
  rw [Tryd.params4] at hA hval
  obtain ⟨v0, vs0, d0, ds0, p0, q0, hargs, rfl, rfl, h0, r0⟩ := trodAll_cons hA
  obtain ⟨v1, vs1, d1, ds1, p1, q1, rfl, rfl, rfl, h1, r1⟩ := trodAll_cons r0
  obtain ⟨v2, vs2, d2, ds2, p2, q2, rfl, rfl, rfl, h2, r2⟩ := trodAll_cons r1
  obtain ⟨rfl, rfl, rfl⟩ := trodAll_nil r2
  obtain rfl : args = #[v0, v1, v2] := by cases args; simp_all
  obtain ⟨rfl, rfl⟩ := trodVars_none hV
  have k0 := h0
  have lt0 : ∀ x ∈ p0, x.block < W.heap.size := by obtain ⟨m, hm⟩ := k0; exact DataW.trod_lt m _ _ _ hm
  obtain ⟨l0, g0, s0⟩ := slice_open (c := peA) (good := goodPe W) (pe0, pe00) Tryd.underlying22 (show Tryd.prog.cellsOf 40 = 5 by kernel_rfl) (by decide) (fun n cs x h => trod_pe h) (hval 0 22 v0 rfl rfl) h0 (fun elems spare e => by
    have := sized_slice hsz (j := 0) (t := 22) (e := 40) (elems := elems) (spare := spare) (by kernel_rfl) (by rw [← e]; rfl) Tryd.underlying22
    rw [show Tryd.checked.prog.bytesOf 40 = 56 by kernel_rfl] at this; omega)
  have k1 := h1
  have lt1 : ∀ x ∈ p1, x.block < W.heap.size := by obtain ⟨m, hm⟩ := k1; exact DataW.trod_lt m _ _ _ hm
  obtain ⟨l1, g1, s1⟩ := slice_open (c := ctC) (good := Ct.wf) ct0 Tryd.underlying45 (show Tryd.prog.cellsOf 27 = 8 by kernel_rfl) (by decide) (fun n cs x h => trod_ct h) (hval 1 45 v1 rfl rfl) h1 (fun elems spare e => by
    have := sized_slice hsz (j := 1) (t := 45) (e := 27) (elems := elems) (spare := spare) (by kernel_rfl) (by rw [← e]; rfl) Tryd.underlying45
    rw [show Tryd.checked.prog.bytesOf 27 = 64 by kernel_rfl] at this; omega)
  have k2 := h2
  have lt2 : ∀ x ∈ p2, x.block < W.heap.size := by obtain ⟨m, hm⟩ := k2; exact DataW.trod_lt m _ _ _ hm
  obtain ⟨a2, wa2, rfl⟩ := ct_open (hval 2 27 v2 rfl rfl) h2
  have hT := tab_of_laid hL
  clear hA0 hval0 hsz hL
  simp only [List.append_nil] at hW'
  refine (walk v0 l0 g0 s0 v1 l1 g1 s1 a2 wa2 hT).mono fun e W' ⟨he, hg⟩ => ?_
  subst he
  exact ⟨_, rfl, _, _, _, [], _, [], hW', trodAll_mk1 (shut_bool Tryd.underlying4 _), (trodAll_cons_mk (Below.trod laidOut (by kernel_rfl) (of_decide_eq_true (by kernel_rfl)) k0 hg lt0) (trodAll_cons_mk (Below.trod laidOut (by kernel_rfl) (of_decide_eq_true (by kernel_rfl)) k1 hg lt1) (trodAll_cons_mk (Below.trod laidOut (by kernel_rfl) (of_decide_eq_true (by kernel_rfl)) k2 hg lt2) trodAll_mk0))), rfl, hg.frame _, fun h => by cases h⟩

theorem over : Rows.peopleVersionsRow.holds Tryd.pinned (OpenSpec.ofChange Rows.peopleVersionsSpec) :=
  OpenClaim.holds_of_wide 4 Tryd.f4 rfl rfl rfl rfl rfl rfl rfl ⟨rfl, rfl, rfl, rfl, rfl⟩ rfl rfl rfl rfl rfl (by kernel_rfl) Tryd.func4 (by kernel_rfl)
    (of_decide_eq_true (by kernel_rfl)) (by unfold Func.isWrapper; first | (rw [if_pos (by decide +kernel)]; kernel_rfl) | (rw [if_neg (by decide +kernel)]; exact ⟨rfl, rfl⟩))
    (fun os started H enc _ => lifted os started H enc)

end Go.Proofs.YtmmppibbglacdaaDoor.peopleVersions
namespace Go.Proofs.YtmmppibbglacdaaDoor
set_option maxRecDepth 100000 in
theorem peopleVersions_holds : Rows.PeopleVersionsCardSaid :=
  Claim7.holds_tied_plain_at .later [] [.data, .data] true _ true
    peopleVersions.over (fun _ h => by cases h) (by kernel_rfl) (fun _ h => by cases h) peopleVersions_row_tie rfl ⟨rfl, rfl⟩ (by kernel_rfl) rfl
    (fun f fn hf hfn => by
      obtain rfl : f = 4 := Option.some.inj ((show Tryd.prog.funcNamed "chartroom/chartroomlaw37.PeopleVersions" = some 4 by kernel_rfl).symm.trans hf) |>.symm
      obtain rfl : fn = Tryd.f4 := (Option.some.inj (Tryd.func4.symm.trans hfn)).symm
      exact ⟨by kernel_rfl, fun j t ht => by
        rw [Tryd.params4] at ht
        have hm : t ∈ [22, 45, 27] := by simpa using Array.mem_of_getElem? ht
        have hall : ([22, 45, 27].all fun u => !Tryd.prog.wantsStandIn u) = true := by kernel_rfl
        exact (show Tryd.prog.wantsStandIn t = false by simpa using List.all_eq_true.1 hall t hm)⟩)
    (by kernel_rfl)
#print axioms peopleVersions_holds
end Go.Proofs.YtmmppibbglacdaaDoor
