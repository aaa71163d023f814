/- PeopleApart returns true for every input. No condition beyond the card's own: the two tables of package digest are tied to the program's text. -/
import Derived.Test.YtmmppibbglacdaaDoorPk52
import Derived.Test.YtmmppibbglacdaaDoorPk51
import Derived.Test.YtmmppibbglacdaaDoorPk35
import Derived.Test.YtmmppibbglacdaaDoorCards
namespace Go.Proofs.YtmmppibbglacdaaDoor.peopleApart
open Go.ChangeShapes Go.WideShapes Go.ChangeAt Go.RowKit
open Go.ChangeMaps (open_string shut_string)
set_option linter.unusedVariables false
set_option linter.unusedSimpArgs false

def ownP (p d : Int) : Bool := devB d && decide (d.tdiv 8 = p)
theorem getL_filter {p d : Int} (x : List Li) (h : ownP p d = true) : getL (x.filter fun z => ownP p z.d) d = getL x d := by
  unfold getL
  rw [List.find?_filter]
  congr 1
  funext a
  by_cases e : a.d = d
  · simp [e, h]
  · simp [e]
theorem famB_filter (x : List Li) (p : Int) : famB (x.filter fun z => ownP p z.d) p = famB x p := by
  unfold famB
  rw [List.any_filter]
  congr 1
  funext a
  unfold ownP
  exact Bool.and_self _
theorem other_form {c : Ct} (h : formC c = true) (hk : c.k = 2 ∨ c.k = 4) : ownP (c.d.tdiv 8) c.b = true := by
  unfold formC kindB at h
  rw [Bool.and_eq_true] at h
  have h2 := h.2
  rcases hk with e | e
  · rw [if_neg (by omega), if_pos e, Bool.and_eq_true] at h2
    have h3 := h2.2
    unfold otherB at h3
    simp only [Bool.and_eq_true] at h3
    unfold ownP
    rw [h3.1.1, h3.2]; rfl
  · rw [if_neg (by omega), if_neg (by omega), if_neg (by omega), if_pos e] at h2
    simp only [Bool.and_eq_true] at h2
    have h3 := h2.2
    unfold otherB at h3
    simp only [Bool.and_eq_true] at h3
    unfold ownP
    rw [h3.1.1, h3.2]; rfl
theorem acc_filter (ps : List Pe) (x : List Li) {c : Ct} {p : Int} (h : ownP p c.d = true) : accF ps (x.filter fun z => ownP p z.d) c = accF ps x c := by
  have hp : c.d.tdiv 8 = p := by unfold ownP at h; rw [Bool.and_eq_true] at h; exact of_decide_eq_true h.2
  unfold accF
  by_cases hf : formC c = true
  · rw [if_pos hf, if_pos hf]
    cases hq : findP ps (c.d.tdiv 8) with
    | none => rfl
    | some q =>
      have hqi : q.i = p := by have := List.find?_some hq; rw [← hp]; simpa using this
      show (if chkPe ps = true then verF q _ c else _) = if chkPe ps = true then verF q x c else _
      congr 1
      have hl : lastL (x.filter fun z => ownP p z.d) c.d = lastL x c.d := by unfold lastL; rw [getL_filter x h]
      have hb : c.k = 2 ∨ c.k = 4 → getL (x.filter fun z => ownP p z.d) c.b = getL x c.b := fun e => getL_filter x (by rw [← hp]; exact other_form hf e)
      have hkey : keyF q (x.filter fun z => ownP p z.d) c = keyF q x c := by
        unfold keyF presB lastL
        rcases kinds_form hf with e | e | e | e
        · simp only [if_pos e]; rw [hqi, famB_filter]
        · simp only [if_neg (show ¬ c.k = 1 by omega), if_pos e]; rw [hb (.inl e)]
        · simp only [if_neg (show ¬ c.k = 1 by omega), if_neg (show ¬ c.k = 2 by omega), if_pos e]
        · simp only [if_neg (show ¬ c.k = 1 by omega), if_neg (show ¬ c.k = 2 by omega), if_neg (show ¬ c.k = 3 by omega)]; rw [hb (.inr e), getL_filter x h]
      unfold verF resF
      rw [hl, hkey]
  · rw [if_neg hf, if_neg hf]
theorem with_yes {y : Li} {p : Int} {x : List Li} (hu : Up x) (h : ownP p y.d = true) : (withL y x).filter (fun z => ownP p z.d) = withL y (x.filter fun z => ownP p z.d) := by
  refine up_unique (up_withL y (hu.filter _)) (((up_withL y hu).filter _).imp fun h => by omega) ?_
  refine ((withL_perm y x).filter _).trans ?_
  rw [List.filter_cons_of_pos (by exact h)]
  refine List.Perm.trans ?_ (withL_perm y _).symm
  rw [List.filter_filter, List.filter_filter]
  simp only [Bool.and_comm]
  exact List.Perm.refl _
theorem with_no {y : Li} {p : Int} {x : List Li} (hu : Up x) (h : ownP p y.d = false) : (withL y x).filter (fun z => ownP p z.d) = x.filter fun z => ownP p z.d := by
  refine up_unique (hu.filter _) (((up_withL y hu).filter _).imp fun h => by omega) ?_
  refine ((withL_perm y x).filter _).trans ?_
  rw [List.filter_cons_of_neg (by rw [h]; decide), List.filter_filter]
  rw [List.filter_congr (q := fun z => ownP p z.d) (fun z hz => ?_)]
  by_cases e : z.d = y.d
  · rw [e, h]; rfl
  · rw [decide_eq_false e]; simp
theorem apart (ps : List Pe) (p : Int) (cs : List Ct) : lisF ps (cs.filter fun c => ownP p c.d) = (lisF ps cs).filter fun z => ownP p z.d := by
  refine snoc_ind (p := fun cs => lisF ps (cs.filter fun c => ownP p c.d) = (lisF ps cs).filter fun z => ownP p z.d) rfl (fun cs c ih => ?_) cs
  show lisF ps ((cs ++ [c]).filter _) = (lisF ps (cs ++ [c])).filter _
  rw [List.filter_append, lisF_snoc]
  have hu := lisF_up ps cs
  cases h : ownP p c.d
  · rw [List.filter_cons_of_neg (by rw [h]; decide), List.filter_nil, List.append_nil, ih]
    unfold stepL
    split
    · rename_i ha
      rw [with_no hu]
      rw [(accF_dev ha).1]; exact h
    · rfl
  · rw [List.filter_cons_of_pos (by exact h), List.filter_nil, lisF_snoc, ih]
    unfold stepL
    rw [acc_filter ps _ h]
    split
    · rename_i ha
      rw [with_yes hu]
      rw [(accF_dev ha).1]; exact h
    · rfl
theorem info_ct : (Tryd.prog.info? 27).map (fun i => (i.zero, i.size, i.bytes)) = some (some (.agg #[.int .i64 0, .int .i64 0, .int .i64 0, .int .i64 0, .int .i64 0, .int .i64 0, .int .i64 0, .int .i64 0]), 8, 64) := by kernel_rfl
theorem own_is (d p : Int) : ((ownE d == 0) && (ownV d == p)) = ownP p d := by
  unfold ownE ownV ownP
  cases h : devB d
  · simp
  · simp
    rw [Bool.eq_iff_iff]; simp
theorem filter_snoc {α : Type} (q : α → Bool) (x : List α) (k : Nat) (d : α) (hk : k < x.length) {y : α} (hy : x.getD k d = y) : (x.take (k + 1)).filter q = (x.take k).filter q ++ (if q y then [y] else []) := by
  rw [take_succ_getD d x hk, hy, List.filter_append]
  cases h : q y
  · rw [List.filter_cons_of_neg (by rw [h]; decide)]; rfl
  · rw [List.filter_cons_of_pos (by exact h)]; rfl
theorem filt_len {α : Type} (q : α → Bool) (x : List α) (k : Nat) : ((x.take k).filter q).length ≤ x.length := Nat.le_trans (List.length_filter_le _ _) (by rw [List.length_take]; omega)
set_option maxRecDepth 100000 in
set_option maxHeartbeats 16000000 in
theorem walk {w : World} (v : Value) (pl : List (Pe × Sv)) (hg : ∀ a ∈ pl, goodPe w a) (hs : SlAt 5 w v pl.length (fun i => peA (pl.getD i (pe0, pe00))))
    (cv : Value) (cs : List Ct) (gc : ∀ a ∈ cs, a.wf) (hc : SlAt 8 w cv cs.length (fun i => ctC (cs.getD i ct0))) (p : Int) (wp : (Lit.int .u8 p).wf = true) (hT : Tab w) :
    Calls Tryd.prog 5 #[v, cv, .int .u8 p] w fun e w' => e = .returned (.bool true) ∧ Below w.heap.size w w' := by
  have hp : 0 ≤ p ∧ p ≤ 255 := by
    have h : IntKind.u8.min ≤ p ∧ p ≤ IntKind.u8.max := by simpa [Lit.wf, IntKind.wrap] using wp
    exact h
  have PW := pes_open hg hs
  obtain ⟨ps, hps⟩ : ∃ y, pl.map (·.1) = y := ⟨_, rfl⟩
  obtain ⟨us, hus⟩ : ∃ y : Nat → Sv, (fun i => (pl.getD i (pe0, pe00)).2) = y := ⟨_, rfl⟩
  rw [hps, hus] at PW
  have T0 := Lib.hid hT
  have CV := Lib.hid hc
  have clen : (cs.length : Int) ≤ 9223372036854775807 := by have := hc.len_le; omega
  have C1 := Lib.hid (fun W hT => sane37_any W hT)
  obtain ⟨ca, cc, rfl⟩ := hc.slice
  have C2 : Hid (∀ W, Below w.heap.size w W → Calls Tryd.prog 9 #[v, .slice none 0 0, .slice ca cs.length cc] W fun e w' => e = .returned (.bool (fewB ps 0 cs.length)) ∧ Below W.heap.size W w') := Lib.hid (fun W b => few37_any ps us v none ca 0 0 cs.length cc W ⟨PW.1.below b, fun i hi => ⟨(PW.2 i hi).1, fun h => ((PW.2 i hi).2.1 h).below b, (PW.2 i hi).2.2⟩⟩ (by decide) clen)
  have C3 : Hid (fewB ps 0 cs.length = true → ∀ l u W, (∀ a ∈ l, a.wf) → l.length ≤ 12 → Below w.heap.size w W → Tab W → CtS W u l → Calls Tryd.prog 14 #[v, u] W fun e w' => (∃ u, e = .returned u ∧ LiS w' u (lisF ps l)) ∧ Below W.heap.size W w') := Lib.hid (fun h l u W hw hl b t hu => by
    have := plistings_any ps us v l u W ((PW.pes (fewB_iff h).2.2.2).below b) (Nat.le_trans (fewB_iff h).1 (by decide)) hu hl hw t
    exact this.mono fun e w' ⟨u, h1, h2, h3⟩ => ⟨⟨u, h1, h2⟩, h3⟩)
  have fl : fewB ps 0 cs.length = true → cs.length ≤ 10 := fun h => (fewB_iff h).2.2.1
  obtain ⟨q, hq⟩ : ∃ y, p % 64 = y := ⟨_, rfl⟩
  have C4 : Hid (∀ d W, Calls Tryd.prog 11 #[.int .i64 d] W fun e w' => e = .returned (.tuple #[.int .i64 (ownV d), .int .i64 (ownE d)]) ∧ W = w') := Lib.hid (fun d W => powner_any d W)
  have HAP := Lib.hid (apart ps q cs)
  have XL := Lib.hid (lisF_len ps cs)
  have C5 : Hid (∀ u v x W, x.length ≤ 1000 → LiS W u x → LiS W v x → Calls Tryd.prog 15 #[u, v] W fun e w' => e = .returned (.bool true) ∧ Below W.heap.size W w') := Lib.hid (fun u v x W hn hu hv => by have := same37_any x x u v W hu hv hn hn; rwa [(sameB_iff x x).2 rfl] at this)
  have FL := Lib.hid fl
  clear fl
  have GC := Lib.hid gc
  have p0 := hp.1
  have p1 := hp.2
  have ec : IntKind.i64.wrap p = p := IntWalk.i64_in _ (by omega)
  have et : p.tmod 64 = q := by rw [Int.tmod_eq_emod_of_nonneg p0]; exact hq
  obtain ⟨fb, hfb⟩ : ∃ y, fewB ps 0 cs.length = y := ⟨_, rfl⟩
  rw [hfb] at C2 C3 FL
  obtain ⟨n, hcn⟩ : ∃ y, cs.length = y := ⟨_, rfl⟩
  rw [hcn] at C2 CV XL FL ⊢
  have HN := Lib.hid hcn
  obtain ⟨va, vn, vc, rfl⟩ : ∃ va vn vc, v = .slice va vn vc := by obtain ⟨a, c, h⟩ := hs.slice; exact ⟨_, _, _, h⟩
  clear hT PW hps hus hg hs hfb gc hc hcn clen hq hp wp
  go_enter Tryd.func5, Tryd.ntmps5
  have B0 := Lib.hid (Below.refl w.heap.size w)
  go_wp2_with fail
  refine (C1.out _ T0.out).mono ?_
  rintro e w1 ⟨rfl, b1⟩
  have B1 := Lib.hid (B0.out.trans (b1.mono B0.out.size))
  have T1 := Lib.hid (T0.out.below b1)
  clear b1 B0 T0
  go_wp2_with fail
  refine (C2.out _ B1.out).mono ?_
  rintro e w2 ⟨rfl, b2⟩
  have B2 := Lib.hid (B1.out.trans (b2.mono B1.out.size))
  have T2 := Lib.hid (T1.out.below b2)
  clear b2 B1 T1
  clear C1 C2
  cases fb
  · go_wp2_with fail
    go_ret
    exact ⟨rfl, B2.out⟩
  have n10 := FL.out (by first | rfl | trivial)
  have qn : (n : Int) ≤ 10 := by omega
  have S2 := Lib.hid (Since.refl w2)
  have BS := Lib.hid B2.out
  have TB := Lib.hid T2.out
  have W2 : Hid (OwnT 27 8 ctC w2 w2.heap.size (.slice none 0 0) []) := Lib.hid (OwnT.nil _ _)
  go_wp2_with fail
  go_loopg [8, 29] n (fun g s8 s29 wx => ∃ k : Nat, k + g = n ∧ s29 = .int .i64 (k : Int) ∧ Hid (Since w2 wx) ∧ Hid (OwnT 27 8 ctC wx w2.heap.size s8 ((cs.take k).filter fun c => ownP q c.d)))
  case atStart => exact ⟨0, by omega, rfl, S2, W2⟩
  case round =>
    clear T2 S2 W2 B2
    obtain ⟨k, hk, rfl, hS, hW⟩ := hrel
    obtain ⟨w3, rfl⟩ : ∃ y, y = wr := ⟨_, rfl⟩
    have q0 : (0 : Int) ≤ (k : Int) := Int.natCast_nonneg k
    have B3 := Lib.hid (BS.out.trans (hS.out.b.mono BS.out.size))
    have S3 := hS
    have W3 := hW
    clear hS hW
    obtain ⟨oa, oc, hs8⟩ := W3.out.slice
    subst hs8
    by_cases hlt : k < n
    · have d0 : decide ((k : Int) < (n : Int)) = true := by rw [decide_eq_true_iff]; omega
      have d1 : decide (k < n) = true := by rw [decide_eq_true_iff]; omega
      obtain ⟨b, off, rfl, hcap, hb, hc⟩ := SlAt.at_elem (s := 8) (n := n) (a := ca) (k := cc) (c := fun i => ctC (cs.getD i ct0)) (CV.out.below B3.out) hlt
      have HLT := Lib.hid hlt
      have HCK := Lib.hid (fun j hj => hc k hlt j hj)
      have SN : Hid ((cs.take (k + 1)).filter (fun c => ownP q c.d) = (cs.take k).filter (fun c => ownP q c.d) ++ (if ownP q (cs.getD k ct0).d then [cs.getD k ct0] else [])) := Lib.hid (filter_snoc (fun c => ownP q c.d) cs k ct0 (by rw [HN.out]; exact hlt) rfl)
      have LB : Hid (((cs.take k).filter fun c => ownP q c.d).length ≤ 1000) := Lib.hid (Nat.le_trans (filt_len _ cs k) (by rw [HN.out]; omega))
      obtain ⟨u, hu⟩ : ∃ y, cs.getD k ct0 = y := ⟨_, rfl⟩
      rw [hu] at HCK SN
      have p1 : (k : Int) + 1 ≤ 1000 := by omega
      clear hc hcap hb hu hlt
      obtain ⟨L, hL⟩ : ∃ y, (cs.take k).filter (fun c => ownP q c.d) = y := ⟨_, rfl⟩
      obtain ⟨L2, hL2⟩ : ∃ y, (cs.take (k + 1)).filter (fun c => ownP q c.d) = y := ⟨_, rfl⟩
      rw [hL] at SN LB W3 ⊢
      rw [hL2] at SN
      have HL2 := Lib.hid hL2
      clear hL hL2
      go_wp2_with (first | ((with_reducible (show wpList _ _ _ (Oper.mk (some 32) _ _ _ _ _ :: _) _ _)); refine Hid.out ?_))
      refine Lib.hid ?_
      refine wpList_load_elem rfl 27 (.tmp 31) rfl b (off + k * 8) rfl 8 off k (by rw [Nat.mul_comm]) (ctC u) HCK.out _ Tryd.underlying27 rfl (by kernel_rfl) ?_
      clear HCK d0 d1
      have Zr := Lib.hid (RowV.new w3 27 8 (ctC ct0))
      go_upto_region 10 with ((with_reducible (show wpList _ _ _ (Oper.mk none _ _ _ _ _ :: _) _ _)); refine wpList_store_rowV (o := ⟨none, .store 27 (.tmp 10) (.tmp 32), _, _, _, _⟩) rfl 27 (.tmp 10) (.tmp 32) rfl w3.heap.size rfl 8 27 _ (ctC u) rfl Zr.out (by kernel_rfl) (fun j _ => ctC_one _ j) ?_; intro w4 V4 o4)
      have b4 : Below w3.heap.size w3 w4 := ((Below.refl _ _).alloc (Nat.le_refl _) _).trans (o4.out.below (Nat.le_refl _) (by rw [World.size_alloc]; omega))
      have B4 := Lib.hid (B3.out.trans (b4.mono B3.out.size))
      have S4 := Lib.hid (S3.out.below b4)
      have W4 := Lib.hid (W3.out.below b4)
      clear b4 o4 Zr B3 S3 W3
      have x1 : w4.cell? ⟨w3.heap.size, 1, none⟩ = some (.int .i64 u.d) := V4.out.cell (i := 1) (by decide)
      go_wp2_with fail
      refine (C4.out u.d _).mono ?_
      rintro e wp ⟨rfl, rfl⟩
      clear x1
      have OI := Lib.hid (own_is u.d q)
      obtain ⟨ov, hov⟩ : ∃ y, ownV u.d = y := ⟨_, rfl⟩
      obtain ⟨oe, hoe⟩ : ∃ y, ownE u.d = y := ⟨_, rfl⟩
      obtain ⟨ob, hob⟩ : ∃ y, ownP q u.d = y := ⟨_, rfl⟩
      rw [hov, hoe, hob] at OI
      rw [hov, hoe]
      rw [hob] at SN
      clear hov hoe hob
      cases he : (oe == 0)
      · obtain rfl : ob = false := by rw [← OI.out, he]; rfl
        have e := SN.out
        rw [if_neg Bool.false_ne_true, List.append_nil] at e
        obtain rfl : L2 = L := e
        clear SN OI
        go_wp2_with fail
        go_roundg (n - (k + 1))
        case measure => have := HLT.out; omega
        case rel =>
          go_light
          exact ⟨k + 1, by have := HLT.out; omega, by go_num, S4, by rw [HL2.out]; exact W4⟩
      cases hv : (ov == q)
      · obtain rfl : ob = false := by rw [← OI.out, he, hv]; rfl
        have e := SN.out
        rw [if_neg Bool.false_ne_true, List.append_nil] at e
        obtain rfl : L2 = L := e
        clear SN OI
        go_wp2_with fail
        go_roundg (n - (k + 1))
        case measure => have := HLT.out; omega
        case rel =>
          go_light
          exact ⟨k + 1, by have := HLT.out; omega, by go_num, S4, by rw [HL2.out]; exact W4⟩
      obtain rfl : ob = true := by rw [← OI.out, he, hv]; rfl
      have e := SN.out
      rw [if_pos rfl] at e
      obtain rfl : L2 = L ++ [u] := e
      clear SN OI
      go_wp2_with (first | ((with_reducible (show wpList _ _ _ (Oper.mk (some 47) _ _ _ _ _ :: _) _ _)); refine Hid.out ?_))
      refine Lib.hid ?_
      refine wpList_load_rowV rfl 27 (.tmp 10) rfl w3.heap.size rfl 8 _ _ (V4.out) _ Tryd.underlying27 rfl (by kernel_rfl) ?_
      go_wp2_with (first | ((with_reducible (show wpList _ _ _ (Oper.mk (some 48) _ _ _ _ _ :: _) _ _)); refine Hid.out ?_))
      refine Lib.hid ?_
      refine wpList_buildT (s := 8) (c := ctC) rfl 45 1 _ rfl ct0 [u] rfl (by decide) (by decide) (by decide) (by decide) rfl Tryd.underlying45 (by kernel_rfl) (by kernel_rfl) ?_
      intro w5 N5 bb L5
      have b5 := bb.out
      clear bb L5
      have B5 := Lib.hid (B4.out.trans (b5.mono B4.out.size))
      have S5 := Lib.hid (S4.out.below b5)
      have W5 := Lib.hid (W4.out.below b5)
      clear b5 B4 S4 W4
      clear V4
      refine wpList_app_S rfl (.tmp 46) (.tmp 48) info_ct Tryd.underlying45 rfl (by decide) (by decide) ctC_one ct0 rfl w2.heap.size _ L rfl W5.out _ [u] rfl (N5.out.at' ct0 (by decide) (by decide) (show 1 ≤ 1000000 by decide)) (by have := LB.out; rw [List.length_singleton]; omega) S5.out.le ?_
      intro v6 w6 W6 s6
      have S6 := Lib.hid (S5.out.app s6.out (fun b hb => (W5.out.lt b hb).1))
      clear s6 S5 W5 N5 B5
      go_wp2_with fail
      go_roundg (n - (k + 1))
      case measure => have := HLT.out; omega
      case rel =>
        go_light
        exact ⟨k + 1, by have := HLT.out; omega, by go_num, S6, by rw [HL2.out]; exact W6⟩
    · have d0 : decide ((k : Int) < (n : Int)) = false := by rw [decide_eq_false_iff_not]; omega
      have d1 : decide (k < n) = false := by rw [decide_eq_false_iff_not]; omega
      obtain ⟨L, hL⟩ : ∃ y, cs.filter (fun c => ownP q c.d) = y := ⟨_, rfl⟩
      have LB : L.length ≤ 10 := by rw [← hL]; exact Nat.le_trans (List.length_filter_le _ _) (by rw [HN.out]; exact n10)
      have LW : ∀ a ∈ L, a.wf := fun a ha => by rw [← hL] at ha; exact GC.out a (List.mem_filter.1 ha).1
      rw [List.take_of_length_le (by rw [HN.out]; omega)] at W3 ⊢
      rw [hL] at W3 HAP ⊢
      have T3 := Lib.hid (TB.out.below S3.out.b)
      have LB := Lib.hid LB
      have LW := Lib.hid LW
      have O3 : Hid (CtS w3 (.slice oa L.length oc) L) := Lib.hid (W3.out.at' ct0 (by decide) (by decide) (by have := LB.out; omega))
      have C6 : Hid (∀ W, Below w.heap.size w W → Tab W → Calls Tryd.prog 14 #[.slice va vn vc, .slice ca n cc] W fun e w' => (∃ u, e = .returned u ∧ LiS w' u (lisF ps cs)) ∧ Below W.heap.size W w') := Lib.hid (fun W b t => C3.out (by first | rfl | trivial) cs _ W GC.out (by rw [HN.out]; omega) b t (by show SlAt 8 W (.slice ca n cc) cs.length _; rw [HN.out]; exact CV.out.below b))
      have C7 : Hid (∀ u W, Below w.heap.size w W → Tab W → CtS W u L → Calls Tryd.prog 14 #[.slice va vn vc, u] W fun e w' => (∃ u, e = .returned u ∧ LiS w' u (lisF ps L)) ∧ Below W.heap.size W w') := Lib.hid (fun u W b t hu => C3.out (by first | rfl | trivial) L u W LW.out (by have := LB.out; omega) b t hu)
      rw [HAP.out] at C7
      obtain ⟨X, hX⟩ : ∃ y, lisF ps cs = y := ⟨_, rfl⟩
      rw [hX] at C6 C7 XL
      clear hlt hk q0 S3 W3 hL GC HN C3 HAP hX LW CV
      go_wp2_with fail
      refine (C6.out _ B3.out T3.out).mono ?_
      rintro e w4 ⟨⟨lv, rfl, hl⟩, b4⟩
      have B4 := Lib.hid (B3.out.trans (b4.mono B3.out.size))
      have T4 := Lib.hid (T3.out.below b4)
      have O4 := Lib.hid (O3.out.below b4)
      clear b4 B3 T3 O3
      obtain ⟨xa, xc, rfl⟩ := hl.slice
      have U4 := Lib.hid hl
      clear hl C6
      obtain ⟨m, hm⟩ : ∃ y, X.length = y := ⟨_, rfl⟩
      have U : Hid (SlAt 5 w4 (.slice xa X.length xc) X.length (fun i => liC (X.getD i li0))) := Lib.hid U4.out
      have xl := XL.out
      rw [hm] at U xl ⊢
      have HM := Lib.hid hm
      have qm : (m : Int) ≤ 10 := by omega
      have BS := Lib.hid B4.out
      have TB := Lib.hid T4.out
      have OB := Lib.hid O4.out
      have S4 := Lib.hid (Since.refl w4)
      have W4 : Hid (OwnT 31 5 liC w4 w4.heap.size (.slice none 0 0) []) := Lib.hid (OwnT.nil _ _)
      clear hm xl U4 XL T4 O4 d0 d1
      go_wp2_with fail
      go_loopg [13, 55] m (fun g s13 s55 wx => ∃ k : Nat, k + g = m ∧ s55 = .int .i64 (k : Int) ∧ Hid (Since w4 wx) ∧ Hid (OwnT 31 5 liC wx w4.heap.size s13 ((X.take k).filter fun c => ownP q c.d)))
      case atStart => exact ⟨0, by omega, rfl, S4, W4⟩
      case round =>
        clear S4 W4 B4
        obtain ⟨k, hk, rfl, hS, hW⟩ := hrel
        obtain ⟨w7, rfl⟩ : ∃ y, y = wr := ⟨_, rfl⟩
        have q0 : (0 : Int) ≤ (k : Int) := Int.natCast_nonneg k
        have B7 := Lib.hid (BS.out.trans (hS.out.b.mono BS.out.size))
        have S7 := hS
        have W7 := hW
        clear hS hW
        obtain ⟨oa7, oc7, hs13⟩ := W7.out.slice
        subst hs13
        by_cases hlt : k < m
        · have d0 : decide ((k : Int) < (m : Int)) = true := by rw [decide_eq_true_iff]; omega
          have d1 : decide (k < m) = true := by rw [decide_eq_true_iff]; omega
          obtain ⟨b, off, rfl, hcap, hb, hc⟩ := SlAt.at_elem (s := 5) (n := m) (a := xa) (k := xc) (c := fun i => liC (X.getD i li0)) (U.out.below S7.out.b) hlt
          have HLT := Lib.hid hlt
          have HCK := Lib.hid (fun j hj => hc k hlt j hj)
          have SN : Hid ((X.take (k + 1)).filter (fun c => ownP q c.d) = (X.take k).filter (fun c => ownP q c.d) ++ (if ownP q (X.getD k li0).d then [X.getD k li0] else [])) := Lib.hid (filter_snoc (fun c => ownP q c.d) X k li0 (by rw [HM.out]; exact hlt) rfl)
          have LB : Hid (((X.take k).filter fun c => ownP q c.d).length ≤ 1000) := Lib.hid (Nat.le_trans (filt_len _ X k) (by rw [HM.out]; omega))
          obtain ⟨u, hu⟩ : ∃ y, X.getD k li0 = y := ⟨_, rfl⟩
          rw [hu] at HCK SN
          have p1 : (k : Int) + 1 ≤ 1000 := by omega
          clear hc hcap hb hu hlt
          obtain ⟨L, hL⟩ : ∃ y, (X.take k).filter (fun c => ownP q c.d) = y := ⟨_, rfl⟩
          obtain ⟨L2, hL2⟩ : ∃ y, (X.take (k + 1)).filter (fun c => ownP q c.d) = y := ⟨_, rfl⟩
          rw [hL] at SN LB W7 ⊢
          rw [hL2] at SN
          have HL2 := Lib.hid hL2
          clear hL hL2
          go_wp2_with (first | ((with_reducible (show wpList _ _ _ (Oper.mk (some 58) _ _ _ _ _ :: _) _ _)); refine Hid.out ?_))
          refine Lib.hid ?_
          refine wpList_load_elem rfl 31 (.tmp 57) rfl b (off + k * 5) rfl 5 off k (by rw [Nat.mul_comm]) (liC u) HCK.out _ Tryd.underlying31 rfl (by kernel_rfl) ?_
          clear HCK d0 d1
          have Zr := Lib.hid (RowV.new w7 31 5 (liC li0))
          go_upto_region 18 with ((with_reducible (show wpList _ _ _ (Oper.mk none _ _ _ _ _ :: _) _ _)); refine wpList_store_rowV (o := ⟨none, .store 31 (.tmp 15) (.tmp 58), _, _, _, _⟩) rfl 31 (.tmp 15) (.tmp 58) rfl w7.heap.size rfl 5 31 _ (liC u) rfl Zr.out (by kernel_rfl) (fun j _ => liC_one _ j) ?_; intro w8 V8 o8)
          have b8 : Below w7.heap.size w7 w8 := ((Below.refl _ _).alloc (Nat.le_refl _) _).trans (o8.out.below (Nat.le_refl _) (by rw [World.size_alloc]; omega))
          have B8 := Lib.hid (B7.out.trans (b8.mono B7.out.size))
          have S8 := Lib.hid (S7.out.below b8)
          have W8 := Lib.hid (W7.out.below b8)
          clear b8 o8 Zr B7 S7 W7
          have x1 : w8.cell? ⟨w7.heap.size, 0, none⟩ = some (.int .i64 u.d) := V8.out.cell (i := 0) (by decide)
          go_wp2_with fail
          refine (C4.out u.d _).mono ?_
          rintro e wp ⟨rfl, rfl⟩
          clear x1
          have OI := Lib.hid (own_is u.d q)
          obtain ⟨ov, hov⟩ : ∃ y, ownV u.d = y := ⟨_, rfl⟩
          obtain ⟨oe, hoe⟩ : ∃ y, ownE u.d = y := ⟨_, rfl⟩
          obtain ⟨ob, hob⟩ : ∃ y, ownP q u.d = y := ⟨_, rfl⟩
          rw [hov, hoe, hob] at OI
          rw [hov, hoe]
          rw [hob] at SN
          clear hov hoe hob
          cases he : (oe == 0)
          · obtain rfl : ob = false := by rw [← OI.out, he]; rfl
            have e := SN.out
            rw [if_neg Bool.false_ne_true, List.append_nil] at e
            obtain rfl : L2 = L := e
            clear SN OI
            go_wp2_with fail
            go_roundg (m - (k + 1))
            case measure => have := HLT.out; omega
            case rel =>
              go_light
              exact ⟨k + 1, by have := HLT.out; omega, by go_num, S8, by rw [HL2.out]; exact W8⟩
          cases hv : (ov == q)
          · obtain rfl : ob = false := by rw [← OI.out, he, hv]; rfl
            have e := SN.out
            rw [if_neg Bool.false_ne_true, List.append_nil] at e
            obtain rfl : L2 = L := e
            clear SN OI
            go_wp2_with fail
            go_roundg (m - (k + 1))
            case measure => have := HLT.out; omega
            case rel =>
              go_light
              exact ⟨k + 1, by have := HLT.out; omega, by go_num, S8, by rw [HL2.out]; exact W8⟩
          obtain rfl : ob = true := by rw [← OI.out, he, hv]; rfl
          have e := SN.out
          rw [if_pos rfl] at e
          obtain rfl : L2 = L ++ [u] := e
          clear SN OI
          go_wp2_with (first | ((with_reducible (show wpList _ _ _ (Oper.mk (some 73) _ _ _ _ _ :: _) _ _)); refine Hid.out ?_))
          refine Lib.hid ?_
          refine wpList_load_rowV rfl 31 (.tmp 15) rfl w7.heap.size rfl 5 _ _ (V8.out) _ Tryd.underlying31 rfl (by kernel_rfl) ?_
          go_wp2_with (first | ((with_reducible (show wpList _ _ _ (Oper.mk (some 74) _ _ _ _ _ :: _) _ _)); refine Hid.out ?_))
          refine Lib.hid ?_
          refine wpList_buildT (s := 5) (c := liC) rfl 23 1 _ rfl li0 [u] rfl (by decide) (by decide) (by decide) (by decide) rfl Tryd.underlying23 (by kernel_rfl) (by kernel_rfl) ?_
          intro w9 N9 bb L9
          have b9 := bb.out
          clear bb L9
          have B9 := Lib.hid (B8.out.trans (b9.mono B8.out.size))
          have S9 := Lib.hid (S8.out.below b9)
          have W9 := Lib.hid (W8.out.below b9)
          clear b9 B8 S8 W8
          clear V8
          refine wpList_app_S rfl (.tmp 72) (.tmp 74) info_li Tryd.underlying23 rfl (by decide) (by decide) liC_one li0 rfl w4.heap.size _ L rfl W9.out _ [u] rfl (N9.out.at' li0 (by decide) (by decide) (show 1 ≤ 1000000 by decide)) (by have := LB.out; rw [List.length_singleton]; omega) S9.out.le ?_
          intro v10 w10 W10 s10
          have S10 := Lib.hid (S9.out.app s10.out (fun b hb => (W9.out.lt b hb).1))
          clear s10 S9 W9 N9 B9
          go_wp2_with fail
          go_roundg (m - (k + 1))
          case measure => have := HLT.out; omega
          case rel =>
            go_light
            exact ⟨k + 1, by have := HLT.out; omega, by go_num, S10, by rw [HL2.out]; exact W10⟩
        · have d0 : decide ((k : Int) < (m : Int)) = false := by rw [decide_eq_false_iff_not]; omega
          have d1 : decide (k < m) = false := by rw [decide_eq_false_iff_not]; omega
          obtain ⟨Y, hY⟩ : ∃ y, X.filter (fun c => ownP q c.d) = y := ⟨_, rfl⟩
          have YB : Y.length ≤ 10 := by rw [← hY]; exact Nat.le_trans (List.length_filter_le _ _) (by rw [HM.out]; omega)
          rw [List.take_of_length_le (by rw [HM.out]; omega)] at W7 ⊢
          rw [hY] at W7 C7 ⊢
          have T7 := Lib.hid (TB.out.below S7.out.b)
          have O7 := Lib.hid (OB.out.below S7.out.b)
          have Q7 : Hid (LiS w7 (.slice oa7 Y.length oc7) Y) := Lib.hid (W7.out.at' li0 (by decide) (by decide) (by omega))
          have YB := Lib.hid YB
          clear hlt hk q0 S7 W7 hY
          go_wp2_with fail
          refine (C7.out _ _ B7.out T7.out O7.out).mono ?_
          rintro e w8 ⟨⟨lv, rfl, hl⟩, b8⟩
          have B8 := Lib.hid (B7.out.trans (b8.mono B7.out.size))
          have Q8 := Lib.hid (Q7.out.below b8)
          clear b8 B7 Q7
          have U8 := Lib.hid hl
          clear hl
          go_wp2_with fail
          refine (C5.out _ _ Y _ (by have := YB.out; omega) U8.out Q8.out).mono ?_
          rintro e w9 ⟨rfl, b9⟩
          have B9 := Lib.hid (B8.out.trans (b9.mono B8.out.size))
          have Q9 := Lib.hid (Q8.out.below b9)
          clear b9 B8 Q8
          go_wp2_with fail
          go_ret
          exact ⟨rfl, B9.out⟩

set_option maxRecDepth 100000 in
set_option maxHeartbeats 1000000 in
theorem lifted (os : Os) (started : os.Started) (H : Type) (enc : TypeId × Value → H) :
    ReturnsInHanded {} Tryd.checked os 5 .any (fun w args => (Rows.peopleApartSpec.pre enc Tryd.prog Tryd.f5 [] false w args ∧ laidMetH Tryd.prog laidL w) ∧ sizedMet enc Tryd.prog Tryd.f5 (OpenSpec.ofChange Rows.peopleApartSpec) false w args)
      (Rows.peopleApartSpec.post enc Tryd.prog Tryd.f5 false true false false) := by
  refine returnsInHanded_of_change_and (C := Tryd.checked) (X := fun w _ => laidMetH Tryd.prog laidL w) (fun _ _ _ hh h => h.of_heap hh) own started (by kernel_rfl) Tryd.func5
    (ChangeSpec.witness_shaped (enc := enc) (C := Tryd.checked) (os := os) (X := fun w _ => laidMetH Tryd.prog laidL w) false (World.doorLaid Tryd.prog 19 os) #[.slice none 0 0, .slice none 0 0, .int .u8 0] 8 rfl (World.shaped_of_RefB (by kernel_rfl) (by kernel_rfl)) (by kernel_rfl) (by kernel_rfl) (by kernel_rfl) (door_met os _)) ?_
  intro W base args ds gs before hval0 hW _ hsz hL _
  have hval : ∀ (j : Nat) t v, Tryd.f5.params[j]? = some t → args[j]? = some v → Value.okWide Tryd.prog W .any base t v := hval0
  have hW' := hW
  obtain ⟨p, q, hA0, hV, rfl, hfz, hnd⟩ := hW
  have hA : DataW.TrodAll enc Tryd.prog W 0 (fun _ => true) true Tryd.f5.params.toList args.toList ds p := hA0
  rw [Tryd.params5] at hA hval
  obtain ⟨v0, vs0, d0, ds0, p0, q0, hargs, rfl, rfl, h0, r0⟩ := trodAll_cons hA
  obtain ⟨v1, vs1, d1, ds1, p1, q1, rfl, rfl, rfl, h1, r1⟩ := trodAll_cons r0
  obtain ⟨v2, vs2, d2, ds2, p2, q2, rfl, rfl, rfl, h2, r2⟩ := trodAll_cons r1
  obtain ⟨rfl, rfl, rfl⟩ := trodAll_nil r2
  obtain rfl : args = #[v0, v1, v2] := by cases args; simp_all
  obtain ⟨rfl, rfl⟩ := trodVars_none hV
  have k0 := h0
  have lt0 : ∀ x ∈ p0, x.block < W.heap.size := by obtain ⟨m, hm⟩ := k0; exact DataW.trod_lt m _ _ _ hm
  obtain ⟨l0, g0, s0⟩ := slice_open (c := peA) (good := goodPe W) (pe0, pe00) Tryd.underlying22 (show Tryd.prog.cellsOf 40 = 5 by kernel_rfl) (by decide) (fun n cs x h => trod_pe h) (hval 0 22 v0 rfl rfl) h0 (fun elems spare e => by
    have := sized_slice hsz (j := 0) (t := 22) (e := 40) (elems := elems) (spare := spare) (by kernel_rfl) (by rw [← e]; rfl) Tryd.underlying22
    rw [show Tryd.checked.prog.bytesOf 40 = 56 by kernel_rfl] at this; omega)
  have k1 := h1
  have lt1 : ∀ x ∈ p1, x.block < W.heap.size := by obtain ⟨m, hm⟩ := k1; exact DataW.trod_lt m _ _ _ hm
  obtain ⟨l1, g1, s1⟩ := slice_open (c := ctC) (good := Ct.wf) ct0 Tryd.underlying45 (show Tryd.prog.cellsOf 27 = 8 by kernel_rfl) (by decide) (fun n cs x h => trod_ct h) (hval 1 45 v1 rfl rfl) h1 (fun elems spare e => by
    have := sized_slice hsz (j := 1) (t := 45) (e := 27) (elems := elems) (spare := spare) (by kernel_rfl) (by rw [← e]; rfl) Tryd.underlying45
    rw [show Tryd.checked.prog.bytesOf 27 = 64 by kernel_rfl] at this; omega)
  obtain ⟨a2, rfl, rfl, rfl, w2⟩ := open_int Tryd.underlying5 (hval 2 5 v2 rfl rfl) h2
  have hT := tab_of_laid hL
  clear hA0 hval0 hsz hL
  simp only [List.append_nil] at hW'
  refine (walk v0 l0 g0 s0 v1 l1 g1 s1 a2 w2 hT).mono fun e W' ⟨he, hg⟩ => ?_
  subst he
  exact ⟨_, rfl, _, _, _, [], _, [], hW', trodAll_mk1 (shut_bool Tryd.underlying4 _), (trodAll_cons_mk (Below.trod laidOut (by kernel_rfl) (of_decide_eq_true (by kernel_rfl)) k0 hg lt0) (trodAll_cons_mk (Below.trod laidOut (by kernel_rfl) (of_decide_eq_true (by kernel_rfl)) k1 hg lt1) (trodAll_cons_mk (shut_int Tryd.underlying5 w2) trodAll_mk0))), rfl, hg.frame _, fun h => by cases h⟩

theorem over : Rows.peopleApartRow.holds Tryd.pinned (OpenSpec.ofChange Rows.peopleApartSpec) :=
  OpenClaim.holds_of_wide 5 Tryd.f5 rfl rfl rfl rfl rfl rfl rfl ⟨rfl, rfl, rfl, rfl, rfl⟩ rfl rfl rfl rfl rfl (by kernel_rfl) Tryd.func5 (by kernel_rfl)
    (of_decide_eq_true (by kernel_rfl)) (by unfold Func.isWrapper; first | (rw [if_pos (by decide +kernel)]; kernel_rfl) | (rw [if_neg (by decide +kernel)]; exact ⟨rfl, rfl⟩))
    (fun os started H enc _ => lifted os started H enc)

end Go.Proofs.YtmmppibbglacdaaDoor.peopleApart
namespace Go.Proofs.YtmmppibbglacdaaDoor
set_option maxRecDepth 100000 in
theorem peopleApart_holds : Rows.PeopleApartCardSaid :=
  Claim7.holds_tied_plain_at .later [] [.data, .data] true _ true
    peopleApart.over (fun _ h => by cases h) (by kernel_rfl) (fun _ h => by cases h) peopleApart_row_tie rfl ⟨rfl, rfl⟩ (by kernel_rfl) rfl
    (fun f fn hf hfn => by
      obtain rfl : f = 5 := Option.some.inj ((show Tryd.prog.funcNamed "chartroom/chartroomlaw37.PeopleApart" = some 5 by kernel_rfl).symm.trans hf) |>.symm
      obtain rfl : fn = Tryd.f5 := (Option.some.inj (Tryd.func5.symm.trans hfn)).symm
      exact ⟨by kernel_rfl, fun j t ht => by
        rw [Tryd.params5] at ht
        have hm : t ∈ [22, 45, 5] := by simpa using Array.mem_of_getElem? ht
        have hall : ([22, 45, 5].all fun u => !Tryd.prog.wantsStandIn u) = true := by kernel_rfl
        exact (show Tryd.prog.wantsStandIn t = false by simpa using List.all_eq_true.1 hall t hm)⟩)
    (by kernel_rfl)
#print axioms peopleApart_holds
end Go.Proofs.YtmmppibbglacdaaDoor
