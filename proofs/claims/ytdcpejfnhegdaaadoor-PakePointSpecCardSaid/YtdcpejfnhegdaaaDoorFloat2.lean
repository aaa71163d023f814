/- A region that draws its order, walked along a plan that holds all its operations (no forced tail). -/
import Derived.Test.YtdcpejfnhegdaaaDoorFloat
set_option linter.unusedVariables false
set_option linter.unusedSimpArgs false
namespace Go.Proofs.YtdcpejfnhegdaaaDoor
open Go
open Go.RowKit (Below)
section
variable {P : Program} {ops : Array Oper} {md : Region.Mode}
theorem anyB_firstG {Q : Exit → Act → World → Prop} {n i : Nat} {oi : Oper} {v : Value} {L : Array Bool → Act → World → Prop} (hi : ops[i]? = some oi) (hsel : ∀ (j : Nat) (o : Oper) cs b, ops[j]? = some o → o.op ≠ .select cs b)
    (TW : ∀ listed, HeadInv md ops n listed → ∀ i, i < n → listed.getD i true = false → ∀ t, n ≤ t → t ∉ Region.ready md ops listed) (hin : i < n)
    (hdone : ∀ listed a w, L listed a w → ∀ j ∈ Region.ready md ops listed, n ≤ j)
    (hQ : ∀ c a w, Q (.panic c) (a.put oi.dst v) w → Q (.panic c) a w) :
    ∀ (f : Nat) (listed : Array Bool) (a : Act) (w : World), HeadInv md ops n listed →
      (∀ j oj, ops[j]? = some oj → j ≠ i → listed.getD j true = false → (∀ e ∈ oj.after, Region.binds md e = true → e.on ≠ i) → oi.apart ops oj = true) →
      i ∈ Region.ready md ops listed → YieldsB P ops oi v a w →
      anyB P md ops Q n L f (listed.setIfInBounds i true) (a.put oi.dst v) w → anyB P md ops Q n L (f + 1) listed a w := by
  intro f
  induction f with
  | zero =>
    intro listed a w inv _ hr hy H
    have hun := (mem_ready.1 hr).1
    refine ⟨fun h => (by rw [h] at hr; cases hr), fun j hj => ?_⟩
    have hjn : j < n := Nat.lt_of_not_le fun h => TW _ inv i hin hun j h hj
    refine ⟨hjn, ?_⟩
    by_cases hji : j = i
    · subst hji; exact hy.wpOp hi ⟨Below.refl _ w, H⟩
    · have := hdone _ _ _ H j (ready_mono hj hji)
      omega
  | succ f ih =>
    intro listed a w inv hfree hr hy H
    have hun := (mem_ready.1 hr).1
    refine ⟨fun h => (by rw [h] at hr; cases hr), fun j hj => ?_⟩
    have hjn : j < n := Nat.lt_of_not_le fun h => TW _ inv i hin hun j h hj
    refine ⟨hjn, ?_⟩
    by_cases hji : j = i
    · subst hji; exact hy.wpOp hi ⟨Below.refl _ w, H⟩
    · have h1 := (H.2 j (ready_mono hj hji)).2
      obtain ⟨hjun, oj, hoj, hall⟩ := mem_ready.1 hj
      have hnot : ∀ e ∈ oj.after, Region.binds md e = true → e.on ≠ i := fun e he hb heq => by
        have h1 := hall e he hb
        rw [heq, getD_both hun] at h1
        cases h1
      have h2 := wpOp_putB hoj (hfree j oj hoj hji hjun hnot) (fun cs b => hsel i oi cs b hi) (fun cs b => hsel j oj cs b hoj) hQ hy h1
      have hfree' : ∀ k ok, ops[k]? = some ok → k ≠ i → (listed.setIfInBounds j true).getD k true = false →
          (∀ e ∈ ok.after, Region.binds md e = true → e.on ≠ i) → oi.apart ops ok = true := fun k ok hk hki hun' hno => by
        refine hfree k ok hk hki ?_ hno
        by_cases hjk : j = k
        · subst hjk; exact hjun
        · rw [getD_set_ne true hjk] at hun'; exact hun'
      refine wpOp_mono (fun a' w' h3 => ⟨h3.2.1, ih (listed.setIfInBounds j true) a' w' (inv.set hj hjn) hfree' (ready_mono hr (Ne.symm hji)) (h3.1.mono h3.2.1) ?_⟩) h2
      rw [Array.setIfInBounds_comm _ _ hji]
      exact h3.2.2

theorem plan_soundG {g n : Nat} {Q : Exit → Act → World → Prop} (hsel : Region.noSelect ops = true) (TW : ∀ listed, HeadInv md ops n listed → ∀ i, i < n → listed.getD i true = false → ∀ t, n ≤ t → t ∉ Region.ready md ops listed) (hQ : ∀ (d : Option Tmp) v c a w, Q (.panic c) (a.put d v) w → Q (.panic c) a w) :
    ∀ (f : Nat) (s : Plan) (listed : Array Bool) (a : Act) (w : World), HeadInv md ops n listed → planB md ops g n f s listed = true → wpPlan P ops Q n s a w →
      anyB P md ops Q n (fun listed' a' w' => Region.seqB md ops g n listed' = true ∧ wpList P ops Q (ops.toList.drop n) a' w') f listed a w
  | 0, .done, listed, a, w, inv, hB, h => ⟨hB, h⟩
  | f + 1, .fl i r, listed, a, w, inv, hB, h => by
    simp only [planB, Bool.and_eq_true, decide_eq_true_eq] at hB
    obtain ⟨⟨⟨⟨hr, hf⟩, hrd⟩, hin⟩, hB'⟩ := hB
    have hr' : i ∈ Region.ready md ops listed := by simpa using hr
    obtain ⟨_, oi, hoi, _⟩ := mem_ready.1 hr'
    obtain ⟨v, hy, hK⟩ := yieldsIn_of_qOp hoi h
    exact anyB_firstG hoi (Region.noSelect_spec hsel) TW hin (fun listed' a' w' hL => seqB_ready hL.1) (fun c a w => hQ _ _ c a w) _ listed a w inv (Region.free_spec hoi hf) hr' (YieldsB.of_in (by simpa [hoi] using hrd) hy) (plan_soundG hsel TW hQ f r _ _ w (inv.set hr' hin) hB' hK)
  | f + 1, .one i r, listed, a, w, inv, hB, h => by
    simp only [planB, Bool.and_eq_true, beq_iff_eq, decide_eq_true_eq] at hB
    obtain ⟨⟨hr, hin⟩, hB'⟩ := hB
    refine ⟨fun h0 => (by rw [h0] at hr; cases hr), fun j hj => ?_⟩
    have hj0 := hj
    rw [hr] at hj
    obtain rfl : j = i := by simpa using hj
    exact ⟨hin, wpOp_mono (fun a' w' h' => ⟨h'.1, plan_soundG hsel TW hQ f r _ a' w' (inv.set hj0 hin) hB' h'.2⟩) h⟩
  | f + 1, .two i i' r r', listed, a, w, inv, hB, h => by
    simp only [planB, Bool.and_eq_true, beq_iff_eq, decide_eq_true_eq] at hB
    obtain ⟨⟨⟨⟨hr, hin⟩, hin'⟩, hB'⟩, hB''⟩ := hB
    refine ⟨fun h0 => (by rw [h0] at hr; cases hr), fun j hj => ?_⟩
    have hj0 := hj
    rw [hr] at hj
    have hj' : j = i ∨ j = i' := by simpa using hj
    rcases hj' with rfl | rfl
    · exact ⟨hin, wpOp_mono (fun a' w' h' => ⟨h'.1, plan_soundG hsel TW hQ f r _ a' w' (inv.set hj0 hin) hB' h'.2⟩) h.1⟩
    · exact ⟨hin', wpOp_mono (fun a' w' h' => ⟨h'.1, plan_soundG hsel TW hQ f r' _ a' w' (inv.set hj0 hin') hB'' h'.2⟩) h.2⟩

/-- A REGION THAT DRAWS ITS ORDER, walked along a plan that holds all of it. -/
theorem wp_region_plan_all {id : Nat} {Q : Exit → Act → World → Prop} {a : Act} {w : World} {l : List Oper} (n : Nat) (s : Plan) (hm : P.follows .mixedOrders = true) (hl : l.length = n)
    (hB : (Region.noSelect l.toArray && planB .any l.toArray 0 n n s (Array.replicate l.toArray.size false)) = true)
    (h : ∀ w', Below w.heap.size w w' → w'.heap.size = w.heap.size → wpPlan P l.toArray (calm Q) n s a w') : (Code.region id l.toArray true).wp P Q a w := by
  simp only [Bool.and_eq_true] at hB
  obtain ⟨hsel, hB⟩ := hB
  refine Code.wp_mono (Q := calm Q) (fun e a w h => by cases e <;> first | exact h | exact h.elim) (wp_region_any hm ?_)
  have hdl : (l.drop n).length = 0 := by simp [hl]
  have inv0 : HeadInv .any l.toArray n (Array.replicate l.toArray.size false) :=
    ⟨by simp, fun j oj _ hl => (by rw [getD_replicate_false] at hl; cases hl), fun t _ ht => getD_in (by simpa using ht) (getD_replicate_false _ _)⟩
  have H := plan_soundG (P := P) (Q := calm Q) (g := 0) hsel (fun listed _ i _ _ t ht hr => by
    obtain ⟨_, ot, hot, _⟩ := mem_ready.1 hr
    have := (Array.getElem?_eq_some_iff.1 hot).1
    simp at this; omega) (fun _ _ _ _ _ h => h) n s _ a w.drew inv0 hB (h _ (Below.refl _ w).drew rfl)
  have := any_of_anyB (g := 0) (fun listed' a' w' hL => by
    have := wpAny_of_seq (ops := l.toArray) (md := .any) (Q' := calm Q) (l.drop n) n listed' a' w' (fun j => by simp [List.getElem?_drop]) (by rw [hdl]; exact hL.1) (by simpa using hL.2)
    rwa [hdl] at this) _ _ _ _ H
  rw [Nat.add_zero] at this
  subst hl
  exact this
end
end Go.Proofs.YtdcpejfnhegdaaaDoor
