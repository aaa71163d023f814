/- What Wrong does not name is acknowledged by all members: the plain law. -/
import Derived.Test.YtbjbgneejdjniaaDoorPk50
set_option linter.unusedVariables false
set_option linter.unusedSimpArgs false
namespace Go.Proofs.YtbjbgneejdjniaaDoor
open Go.RowKit Cod
def wmapQ (wl : List Int) : List (Int × Value) := wl.foldl (fun m n => IM.put m n (.bool true)) []
theorem wmap_fold (j : Int) : ∀ (wl : List Int) (m : List (Int × Value)), IM.get (wl.foldl (fun m n => IM.put m n (.bool true)) m) j = if j ∈ wl then some (.bool true) else IM.get m j
  | [], m => by simp
  | n :: wl, m => by
    rw [List.foldl_cons, wmap_fold j wl]
    by_cases h : j ∈ wl
    · rw [if_pos h, if_pos (List.mem_cons_of_mem _ h)]
    · rw [if_neg h]
      by_cases hn : j = n
      · subst hn; rw [IM.get_put_same, if_pos (List.mem_cons_self ..)]
      · rw [IM.get_put_other hn, if_neg (fun h2 => by rcases List.mem_cons.1 h2 with h3 | h3; exact hn h3; exact h h3)]
theorem wmap_get (wl : List Int) (j : Int) : IM.get (wmapQ wl) j = if j ∈ wl then some (.bool true) else none := wmap_fold j wl []
theorem wmap_val (wl : List Int) (j : Int) : (IM.get (wmapQ wl) j).getD (.bool false) = .bool (decide (j ∈ wl)) := by
  rw [wmap_get]; by_cases h : j ∈ wl <;> simp [h]
theorem wmap_snoc (wl : List Int) (n : Int) : wmapQ (wl ++ [n]) = IM.put (wmapQ wl) n (.bool true) := by unfold wmapQ; rw [List.foldl_append]; rfl
theorem wrongL_mem {n j : Int} {es : List En} {k : Nat} : j ∈ wrongL n (goneU es k) ↔ ∃ i, i < k ∧ (es.getD i en0).g = true ∧ wrongP n (i + 1, es.getD i en0) = true ∧ j = ((i + 1 : Nat) : Int) := by
  unfold wrongL goneU
  simp only [List.mem_map, List.mem_filter, List.mem_range]
  constructor
  · rintro ⟨x, ⟨⟨i, ⟨hi, hg⟩, rfl⟩, hw⟩, rfl⟩; exact ⟨i, hi, hg, hw, rfl⟩
  · rintro ⟨i, hi, hg, hw, rfl⟩; exact ⟨_, ⟨⟨i, ⟨hi, hg⟩, rfl⟩, hw⟩, rfl⟩
/-- an acknowledgement of a member for an entry, as the statement reckons it -/
def cntP (m : Mb) (f s : Int) (i : Nat) (a : Ak) : Bool := decide (a.f = f) && decide (a.s = s) && decide (a.d = m.dev) && decide ((i : Int) < a.u) && verB m.ver (msgA a) a.r a.g
theorem proves_at {ms : List Mb} {f s : Int} {l : List Ak} {es : List En} {k i : Nat} (hi : i < k) (hg : (es.getD i en0).g = true) (hw : ((i + 1 : Nat) : Int) ∉ wrongL (leastM ms f s l) (goneU es k)) :
    (es.getD i en0).k = 4 ∧ ms ≠ [] ∧ ∀ m ∈ ms, ∃ a ∈ l, cntP m f s i a = true := by
  have hp : wrongP (leastM ms f s l) (i + 1, es.getD i en0) = false := by
    cases h : wrongP (leastM ms f s l) (i + 1, es.getD i en0) with
    | false => rfl
    | true => exact absurd (wrongL_mem.2 ⟨i, hi, hg, h, rfl⟩) hw
  unfold wrongP at hp
  simp only [Bool.or_eq_false_iff, Bool.not_eq_false', decide_eq_true_eq, decide_eq_false_iff_not] at hp
  have hn : ((i + 1 : Nat) : Int) ≤ leastM ms f s l := by omega
  refine ⟨hp.1, fun e => ?_, fun m hm => ?_⟩
  · subst e
    have : leastM ([] : List Mb) f s l = 0 := rfl
    omega
  · have h1 := leastM_le (f := f) (s := s) (l := l) hm
    rcases uptoM_some f s l m with h | ⟨a, ha, hc, h, _⟩
    · omega
    · refine ⟨a, ha, ?_⟩
      unfold cntA selA at hc
      simp only [Bool.and_eq_true, decide_eq_true_eq] at hc
      unfold cntP
      simp only [Bool.and_eq_true, decide_eq_true_eq]
      exact ⟨⟨⟨⟨hc.1.1.1, hc.1.1.2⟩, hc.1.2⟩, by omega⟩, (ckA_ok hc.2).2⟩
/-- one step of the inner loop -/
theorem any_take {m : Mb} {f s : Int} {i : Nat} {l : List Ak} {k : Nat} (h : k < l.length) : (l.take (k + 1)).any (cntP m f s i) = ((l.take k).any (cntP m f s i) || cntP m f s i (l.getD k ak0)) := by
  rw [take_succ_getD ak0 l h, List.any_append]; simp
theorem any_all {m : Mb} {f s : Int} {i : Nat} {l : List Ak} (h : ∃ a ∈ l, cntP m f s i a = true) : (l.take l.length).any (cntP m f s i) = true := by
  rw [List.take_length]; exact List.any_eq_true.2 h
/-- an operation whose guard is not met is passed over -/
theorem wpList_skip {P : Program} {ops : Array Oper} {Q : Exit → Act → World → Prop} {a : Act} {w : World} {rest : List Oper} {o : Oper} (hw : Region.wanted o (yielded ops a.tmps) = false) (h : wpList P ops Q rest (a.put o.dst undef) w) : wpList P ops Q (o :: rest) a w := by
  unfold wpList
  rw [if_neg (by rw [hw]; decide)]
  exact h
def valE (b : Nat → Value) (j : Nat) : Value := b j
/-- a list of values as the codec reads it -/
theorem CodAt.lst {w : World} {base : Nat} {v : Value} {L : List (Nat → Value)} {ts : List Tv} (h : OwnT 51 4 valE w base v L) (hn : L.length ≤ 1000000) (hl : ts.length = L.length)
    (hc : ∀ i, i < ts.length → CodAt w (.agg (rowF 4 (L.getD i zeroC))) (ts.getD i tv0)) : CodAt w (.agg #[.int .i64 3, .int .i64 0, .string ByteArray.empty, v]) (lstT ts) :=
  .mk 3 0 ByteArray.empty v ts (fun i => L.getD i zeroC) ⟨by decide, by decide⟩ ⟨by decide, by decide⟩ (by decide) (by have h2 := h.at' zeroC (by decide) (by decide) hn; rw [hl]; exact h2) hc
theorem CodAt.ack {w : World} {base : Nat} {v : Value} {a : Ak} (ha : a.wf) {tx : ByteArray} (ht : ByteArray.mk a.ch.toArray = tx)
    (h : OwnT 51 4 valE w base v [valC 1 a.f ⟨#[]⟩ (.slice none 0 0), valC 1 a.d ⟨#[]⟩ (.slice none 0 0), valC 1 a.s ⟨#[]⟩ (.slice none 0 0), valC 1 a.u ⟨#[]⟩ (.slice none 0 0), valC 2 0 tx (.slice none 0 0)]) :
    CodAt w (.agg #[.int .i64 3, .int .i64 0, .string ByteArray.empty, v]) (treeA a []) := by
  subst ht
  refine CodAt.lst (ts := fldA a []) h (by simp) rfl (fun i hi => ?_)
  have h5 : i < 5 := hi
  have hh : i = 0 ∨ i = 1 ∨ i = 2 ∨ i = 3 ∨ i = 4 := by omega
  rcases hh with rfl | rfl | rfl | rfl | rfl
  · exact (leafS (fun _ => True) w ha.f).at'
  · exact (leafS (fun _ => True) w ha.d).at'
  · exact (leafS (fun _ => True) w ha.s).at'
  · exact (leafS (fun _ => True) w ha.u).at'
  · exact (leafT (fun _ => True) w (l := a.ch) (by rw [ha.ch]; decide)).at'
theorem enc_ack (a : Ak) (ha : a.wf) (v : Value) (w : World) (h : CodAt w v (treeA a [])) :
    Calls Tryd.prog 15 #[v] w fun e w' => (∃ u, e = .returned (.tuple #[u, .int .i64 0]) ∧ Owns w' w.heap.size u (encA a [])) ∧ Below w.heap.size w w' := by
  have CT := chkT_lst (fldA_form a []) (fldA_depth a [])
  have E := cencode_any (lstT (fldA a [])) v w CT.2 h (Nat.le_trans (encA_len a ha [] (fun z hz => absurd hz List.not_mem_nil) (by decide)) (by decide))
  refine E.mono fun e w' h2 => ?_
  unfold EncPost at h2
  rw [if_pos CT.1] at h2
  exact h2
end Go.Proofs.YtbjbgneejdjniaaDoor
