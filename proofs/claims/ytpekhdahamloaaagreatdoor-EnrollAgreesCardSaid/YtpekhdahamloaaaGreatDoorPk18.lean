/- A region that draws its order: what only reads may float; the rest comes in a forced order. One walk along a plan serves every order: a plan is the order in which what floats comes as early as may be. A region that draws its order, walked along a plan that holds all its operations (no forced tail). A region that draws its order and stores: as XFloat, where some operations store into old blocks (they wait for all that read memory); what reads no memory floats past them. A region that draws its order: as XFloat3, where every operation keeps what lies below n0 (a number that stays); what floats reads below n0. A region that draws its order, walked along a plan: every step keeps a relation between worlds that one chooses. -/
import Derived.StillTail
import Derived.Deep.Quiet
import Derived.Deep.QuietTactic
import Derived.Lib.QuietBelow
import Derived.WalkKit
set_option linter.unusedVariables false
set_option linter.unusedSimpArgs false
/-! A region that draws its order: what only reads may float; the rest comes in a forced order. One walk along a plan serves every order: a plan is the order in which what floats comes as early as may be. -/
namespace Go.Proofs.YtpekhdahamloaaaGreatDoor
open Go
open Go.RowKit (Below)
section
variable {P : Program} {ops : Array Oper} {md : Region.Mode}

/-- operations that only read -/
def readsB : Op → Bool
  | .move _ | .assign _ | .pick _ _ _ | .load _ _ | .binOp _ _ _ _ _ | .unOp _ _ _ | .convert _ _ _ | .fieldAddr _ _ _ | .field _ _ _ | .indexAddr _ _ _ | .index _ _ _ | .lookup _ _ _ _ | .extract _ _ | .build _ _ => true
  | _ => false

abbrev Ext (w : World) : World → Prop := fun w' => ∃ p : Regrown, w' = Sort.grow (redrawn w p.d) p.os

theorem reads_value {o : Oper} {a : Act} {C : World → Prop} {w : World} {v : Value} (h : readsB o.op = true) (hq : o.quietAt P a C w v) : (execOp a.eval o).run P w = .ok (.value v) w := by
  have key : ∀ s : Sem Value, execOp a.eval o = (do pure (.value (← s))) → (execOp a.eval o).run P w = .ok (.value v) w := by
    intro s hs
    unfold Oper.quietAt at hq
    rw [hs] at hq ⊢
    simp only [Sem.run_bind] at hq ⊢
    generalize s.run P w = r at *
    cases r with
    | ok u w' => simp only [Result.andThen_ok, Sem.run_pure, Oper.quietUpon] at hq ⊢; obtain ⟨rfl, rfl⟩ := hq; rfl
    | halt x w' => simp only [Result.andThen, Oper.quietUpon] at hq
  obtain ⟨dst, op, type, pos, after, guard⟩ := o
  cases op <;> first | (simp only [readsB] at h; done) | (cases h; done) | skip
  all_goals first
    | exact key _ rfl
    | (unfold Oper.quietAt at hq; simp only [execOp, Sem.run_pure, Oper.quietUpon] at hq ⊢; rw [hq.2]; done)
    | skip
  all_goals
    unfold Oper.quietAt at hq
    simp only [execOp, Sem.run_bind] at hq ⊢
    generalize (asBool _).run P w = r at *
    cases r with
    | ok u w' => simp only [Result.andThen_ok, Sem.run_pure, Oper.quietUpon] at hq ⊢; obtain ⟨rfl, rfl⟩ := hq; rfl
    | halt x w' => simp only [Result.andThen, Oper.quietUpon] at hq

/-- the same value in every world that has new blocks and draws beside w -/
def YieldsB (P : Program) (ops : Array Oper) (o : Oper) (v : Value) (a : Act) (w : World) : Prop :=
  (Region.wanted o (yielded ops a.tmps) = true ∧ ∀ W, Below w.heap.size w W → (execOp a.eval o).run P W = .ok (.value v) W) ∨
  (Region.wanted o (yielded ops a.tmps) = false ∧ v = undef)

theorem YieldsB.mono {o : Oper} {v : Value} {a : Act} {w w' : World} (h : YieldsB P ops o v a w) (hb : Below w.heap.size w w') : YieldsB P ops o v a w' :=
  h.imp (fun ⟨h1, h2⟩ => ⟨h1, fun W hW => h2 W (hb.trans (hW.mono hb.size))⟩) id

theorem YieldsB.of_same {o : Oper} {v : Value} {a a' : Act} {w : World} (hy : YieldsB P ops o v a w) (he : execOp a'.eval o = execOp a.eval o)
    (hw : Region.wanted o (yielded ops a'.tmps) = Region.wanted o (yielded ops a.tmps)) : YieldsB P ops o v a' w := by
  unfold YieldsB at *
  rw [he, hw]
  exact hy

theorem YieldsB.of_in {o : Oper} {v : Value} {a : Act} {w : World} (h : readsB o.op = true) (hy : YieldsIn P ops (Ext w) o v a) : YieldsB P ops o v a w :=
  hy.imp (fun ⟨h1, h2⟩ => ⟨h1, fun W hW => reads_value h (h2 W (regrown_of_below hW))⟩) id

theorem YieldsB.wpOp {Q : Exit → Act → World → Prop} {i : Nat} {o : Oper} {v : Value} {a : Act} {w : World} (hi : ops[i]? = some o) (hy : YieldsB P ops o v a w)
    {K : Act → World → Prop} (h : K (a.put o.dst v) w) : wpOp P ops Q i K a w := by
  unfold Go.wpOp
  simp only [hi]
  rcases hy with ⟨hw, hv⟩ | ⟨hw, rfl⟩
  · simp only [hw, if_true, Oper.wp, hv w (Below.refl _ w), Oper.upon]; exact .inl h
  · simp only [hw, Bool.false_eq_true, if_false]; exact h

theorem wpOp_putB {Q : Exit → Act → World → Prop} {j : Nat} {oi oj : Oper} {v : Value} {w0 : World} (hj : ops[j]? = some oj) (hap : oi.apart ops oj = true)
    (hsi : ∀ cs b, oi.op ≠ .select cs b) (hsj : ∀ cs b, oj.op ≠ .select cs b)
    (hQ : ∀ c a w, Q (.panic c) (a.put oi.dst v) w → Q (.panic c) a w) {K : Act → World → Prop} {a : Act} {w : World}
    (hy : YieldsB P ops oi v a w0) (h : wpOp P ops Q j K (a.put oi.dst v) w) :
    wpOp P ops Q j (fun a' w' => YieldsB P ops oi v a' w0 ∧ K (a'.put oi.dst v) w') a w := by
  obtain ⟨h1, h2, h3⟩ := Oper.apart_spec hap
  have keep : ∀ (a : Act), YieldsB P ops oi v a w0 → ∀ u, YieldsB P ops oi v (a.put oj.dst u) w0 := fun a hy u =>
    hy.of_same (execOp_put oi hsi a oj.dst u h3) (wanted_put oi a oj.dst u h3)
  have keepD : ∀ d, YieldsB P ops oi v { a with defers := d :: a.defers } w0 := fun d => hy.of_same rfl rfl
  unfold wpOp at *
  simp only [hj] at *
  rw [wanted_put oj a oi.dst v h1] at h
  split
  · rename_i hw
    simp only [hw, if_true] at h
    rcases h with h | ⟨hasks, hlets⟩
    case inr => exact .inr ⟨by unfold Oper.asks at *; rw [execOp_put oj hsj a oi.dst v h1] at hasks; exact hasks, hlets⟩
    refine .inl ?_
    unfold Oper.wp at *
    rw [execOp_put oj hsj a oi.dst v h1] at h
    generalize (execOp a.eval oj).run P w = r at *
    cases r with
    | ok n w' =>
      cases n <;> simp only [Oper.upon] at h ⊢
      case value u => exact ⟨keep a hy u, by rw [← Act.put_comm a v u h2]; exact h⟩
      case skip => exact ⟨keep a hy _, by rw [← Act.put_comm a v undef h2]; exact h⟩
      case defer d =>
        refine ⟨keep _ (keepD d) _, ?_⟩
        rw [← Act.put_comm _ v undef h2, ← Act.put_defers]
        exact h
      case enter f args =>
        refine Calls.mono h fun e w'' he => ?_
        cases e with
        | returned u => exact ⟨keep a hy u, by rw [← Act.put_comm a v u h2]; exact he⟩
        | panicked c => exact hQ _ _ _ he
        | outgrown => exact he
      case row row args => exact Rows.mono h fun u w'' he => ⟨keep a hy u, by rw [← Act.put_comm a v u h2]; exact he⟩
    | halt x w' =>
      cases x <;> simp only [Oper.upon] at h ⊢
      case panic u => exact hQ _ _ _ h
  · rename_i hw
    simp only [hw] at h
    exact ⟨keep a hy _, by rw [← Act.put_comm a v undef h2]; exact h⟩

/-- the operations below n in whatever order, each keeping what lies below; behind them L -/
def anyB (P : Program) (md : Region.Mode) (ops : Array Oper) (Q : Exit → Act → World → Prop) (n : Nat) (L : Array Bool → Act → World → Prop) : Nat → Array Bool → Act → World → Prop
  | 0, listed, a, w => L listed a w
  | f + 1, listed, a, w =>
    Region.ready md ops listed ≠ [] ∧
    ∀ i ∈ Region.ready md ops listed, i < n ∧ wpOp P ops Q i (fun a' w' => Below w.heap.size w w' ∧ anyB P md ops Q n L f (listed.setIfInBounds i true) a' w') a w

theorem any_of_anyB {n g : Nat} {L : Array Bool → Act → World → Prop} {Q : Exit → Act → World → Prop} (hL : ∀ listed a w, L listed a w → wpAny P md ops Q g listed a w) :
    ∀ (f : Nat) (listed : Array Bool) (a : Act) (w : World), anyB P md ops Q n L f listed a w → wpAny P md ops Q (f + g) listed a w
  | 0, listed, a, w, h => by rw [Nat.zero_add]; exact hL _ _ _ h
  | f + 1, listed, a, w, h => by
    rw [show f + 1 + g = (f + g) + 1 by omega]
    exact ⟨fun h0 => absurd h0 h.1, fun i hi => wpOp_mono (fun a' w' h' => any_of_anyB hL f _ a' w' h'.2) (h.2 i hi).2⟩

theorem anyB_first {Q : Exit → Act → World → Prop} {n i : Nat} {oi : Oper} {v : Value} {L : Array Bool → Act → World → Prop} (hi : ops[i]? = some oi) (hsel : ∀ (j : Nat) (o : Oper) cs b, ops[j]? = some o → o.op ≠ .select cs b)
    (hs : Region.sinkB md ops n = true) (hc : Region.chainB md ops n = true) (hn : n < ops.size) (hin : i < n)
    (hdone : ∀ listed a w, L listed a w → ∀ j ∈ Region.ready md ops listed, n ≤ j)
    (hQ : ∀ c a w, Q (.panic c) (a.put oi.dst v) w → Q (.panic c) a w) :
    ∀ (f : Nat) (listed : Array Bool) (a : Act) (w : World), HeadInv md ops n listed →
      (∀ j oj, ops[j]? = some oj → j ≠ i → listed.getD j true = false → (∀ e ∈ oj.after, Region.binds md e = true → e.on ≠ i) → oi.apart ops oj = true) →
      i ∈ Region.ready md ops listed → YieldsB P ops oi v a w →
      anyB P md ops Q n L f (listed.setIfInBounds i true) (a.put oi.dst v) w → anyB P md ops Q n L (f + 1) listed a w := by
  intro f
  induction f with
  | zero =>
    intro listed a w inv _ hr hy H
    have hun := (mem_ready.1 hr).1
    refine ⟨fun h => (by rw [h] at hr; cases hr), fun j hj => ?_⟩
    have hjn : j < n := Nat.lt_of_not_le fun h => tail_waits hs hc hn inv _ i rfl hin hun j h hj
    refine ⟨hjn, ?_⟩
    by_cases hji : j = i
    · subst hji; exact hy.wpOp hi ⟨Below.refl _ w, H⟩
    · have := hdone _ _ _ H j (ready_mono hj hji)
      omega
  | succ f ih =>
    intro listed a w inv hfree hr hy H
    have hun := (mem_ready.1 hr).1
    refine ⟨fun h => (by rw [h] at hr; cases hr), fun j hj => ?_⟩
    have hjn : j < n := Nat.lt_of_not_le fun h => tail_waits hs hc hn inv _ i rfl hin hun j h hj
    refine ⟨hjn, ?_⟩
    by_cases hji : j = i
    · subst hji; exact hy.wpOp hi ⟨Below.refl _ w, H⟩
    · have h1 := (H.2 j (ready_mono hj hji)).2
      obtain ⟨hjun, oj, hoj, hall⟩ := mem_ready.1 hj
      have hnot : ∀ e ∈ oj.after, Region.binds md e = true → e.on ≠ i := fun e he hb heq => by
        have h1 := hall e he hb
        rw [heq, getD_both hun] at h1
        cases h1
      have h2 := wpOp_putB hoj (hfree j oj hoj hji hjun hnot) (fun cs b => hsel i oi cs b hi) (fun cs b => hsel j oj cs b hoj) hQ hy h1
      have hfree' : ∀ k ok, ops[k]? = some ok → k ≠ i → (listed.setIfInBounds j true).getD k true = false →
          (∀ e ∈ ok.after, Region.binds md e = true → e.on ≠ i) → oi.apart ops ok = true := fun k ok hk hki hun' hno => by
        refine hfree k ok hk hki ?_ hno
        by_cases hjk : j = k
        · subst hjk; exact hjun
        · rw [getD_set_ne true hjk] at hun'; exact hun'
      refine wpOp_mono (fun a' w' h3 => ⟨h3.2.1, ih (listed.setIfInBounds j true) a' w' (inv.set hj hjn) hfree' (ready_mono hr (Ne.symm hji)) (h3.1.mono h3.2.1) ?_⟩) h2
      rw [Array.setIfInBounds_comm _ _ hji]
      exact h3.2.2

/-- a plan: operation i floats; nothing but i may come now; i or j may come now, nothing else -/
inductive Plan where
  | done
  | fl (i : Nat) (p : Plan)
  | one (i : Nat) (p : Plan)
  | two (i j : Nat) (p q : Plan)

def planB (md : Region.Mode) (ops : Array Oper) (g n : Nat) : Nat → Plan → Array Bool → Bool
  | 0, .done, listed => Region.seqB md ops g n listed
  | f + 1, .fl i p, listed => (Region.ready md ops listed).contains i && Region.free md ops listed i && ((ops[i]?).map (readsB ·.op)).getD false && decide (i < n) && planB md ops g n f p (listed.setIfInBounds i true)
  | f + 1, .one i p, listed => (Region.ready md ops listed == [i]) && decide (i < n) && planB md ops g n f p (listed.setIfInBounds i true)
  | f + 1, .two i j p q, listed => (Region.ready md ops listed == [i, j]) && decide (i < n) && decide (j < n) && planB md ops g n f p (listed.setIfInBounds i true) && planB md ops g n f q (listed.setIfInBounds j true)
  | _, _, _ => false

/-- the walk along a plan -/
def wpPlan (P : Program) (ops : Array Oper) (Q : Exit → Act → World → Prop) (n : Nat) : Plan → Act → World → Prop
  | .done, a, w => wpList P ops Q (ops.toList.drop n) a w
  | .fl i p, a, w => qOp P ops (Ext w) i (fun a' => wpPlan P ops Q n p a' w) a
  | .one i p, a, w => wpOp P ops Q i (fun a' w' => Below w.heap.size w w' ∧ wpPlan P ops Q n p a' w') a w
  | .two i j p q, a, w => wpOp P ops Q i (fun a' w' => Below w.heap.size w w' ∧ wpPlan P ops Q n p a' w') a w ∧ wpOp P ops Q j (fun a' w' => Below w.heap.size w w' ∧ wpPlan P ops Q n q a' w') a w

theorem plan_sound {g n : Nat} {Q : Exit → Act → World → Prop} (hsel : Region.noSelect ops = true) (hs : Region.sinkB md ops n = true) (hc : Region.chainB md ops n = true) (hn : n < ops.size) (hQ : ∀ (d : Option Tmp) v c a w, Q (.panic c) (a.put d v) w → Q (.panic c) a w) :
    ∀ (f : Nat) (s : Plan) (listed : Array Bool) (a : Act) (w : World), HeadInv md ops n listed → planB md ops g n f s listed = true → wpPlan P ops Q n s a w →
      anyB P md ops Q n (fun listed' a' w' => Region.seqB md ops g n listed' = true ∧ wpList P ops Q (ops.toList.drop n) a' w') f listed a w
  | 0, .done, listed, a, w, inv, hB, h => ⟨hB, h⟩
  | f + 1, .fl i r, listed, a, w, inv, hB, h => by
    simp only [planB, Bool.and_eq_true, decide_eq_true_eq] at hB
    obtain ⟨⟨⟨⟨hr, hf⟩, hrd⟩, hin⟩, hB'⟩ := hB
    have hr' : i ∈ Region.ready md ops listed := by simpa using hr
    obtain ⟨_, oi, hoi, _⟩ := mem_ready.1 hr'
    obtain ⟨v, hy, hK⟩ := yieldsIn_of_qOp hoi h
    exact anyB_first hoi (Region.noSelect_spec hsel) hs hc hn hin (fun listed' a' w' hL => seqB_ready hL.1) (fun c a w => hQ _ _ c a w) _ listed a w inv (Region.free_spec hoi hf) hr' (YieldsB.of_in (by simpa [hoi] using hrd) hy) (plan_sound hsel hs hc hn hQ f r _ _ w (inv.set hr' hin) hB' hK)
  | f + 1, .one i r, listed, a, w, inv, hB, h => by
    simp only [planB, Bool.and_eq_true, beq_iff_eq, decide_eq_true_eq] at hB
    obtain ⟨⟨hr, hin⟩, hB'⟩ := hB
    refine ⟨fun h0 => (by rw [h0] at hr; cases hr), fun j hj => ?_⟩
    have hj0 := hj
    rw [hr] at hj
    obtain rfl : j = i := by simpa using hj
    exact ⟨hin, wpOp_mono (fun a' w' h' => ⟨h'.1, plan_sound hsel hs hc hn hQ f r _ a' w' (inv.set hj0 hin) hB' h'.2⟩) h⟩
  | f + 1, .two i i' r r', listed, a, w, inv, hB, h => by
    simp only [planB, Bool.and_eq_true, beq_iff_eq, decide_eq_true_eq] at hB
    obtain ⟨⟨⟨⟨hr, hin⟩, hin'⟩, hB'⟩, hB''⟩ := hB
    refine ⟨fun h0 => (by rw [h0] at hr; cases hr), fun j hj => ?_⟩
    have hj0 := hj
    rw [hr] at hj
    have hj' : j = i ∨ j = i' := by simpa using hj
    rcases hj' with rfl | rfl
    · exact ⟨hin, wpOp_mono (fun a' w' h' => ⟨h'.1, plan_sound hsel hs hc hn hQ f r _ a' w' (inv.set hj0 hin) hB' h'.2⟩) h.1⟩
    · exact ⟨hin', wpOp_mono (fun a' w' h' => ⟨h'.1, plan_sound hsel hs hc hn hQ f r' _ a' w' (inv.set hj0 hin') hB'' h'.2⟩) h.2⟩

/-- nothing panics -/
def calm (Q : Exit → Act → World → Prop) : Exit → Act → World → Prop := fun e a w => match e with | .panic _ => False | e => Q e a w
theorem plan_done {n : Nat} {Q : Exit → Act → World → Prop} {a : Act} {w : World} {l : List Oper} (hl : ops.toList.drop n = l)
    (h : ∀ K : Exit → Act → World → Prop, (∀ a' w', Q .normal a' w' → K .normal a' w') → wpList P ops K l a w) : wpPlan P ops (calm Q) n .done a w := by
  show wpList P ops (calm Q) (ops.toList.drop n) a w
  rw [hl]; exact h _ (fun _ _ h => h)

/-- A REGION THAT DRAWS ITS ORDER, walked along a plan; from operation n on its order is forced. -/
theorem wp_region_plan {id : Nat} {Q : Exit → Act → World → Prop} {a : Act} {w : World} {l : List Oper} (n : Nat) (s : Plan) (hm : P.follows .mixedOrders = true)
    (hB : (Region.noSelect l.toArray && decide (n < l.toArray.size) && Region.sinkB .any l.toArray n && Region.chainB .any l.toArray n && planB .any l.toArray (l.toArray.size - n) n n s (Array.replicate l.toArray.size false)) = true)
    (h : ∀ w', Below w.heap.size w w' → w'.heap.size = w.heap.size → wpPlan P l.toArray (calm Q) n s a w') : (Code.region id l.toArray true).wp P Q a w := by
  simp only [Bool.and_eq_true, decide_eq_true_eq] at hB
  obtain ⟨⟨⟨⟨hsel, hn⟩, hs⟩, hc⟩, hB⟩ := hB
  refine Code.wp_mono (Q := calm Q) (fun e a w h => by cases e <;> first | exact h | exact h.elim) (wp_region_any hm ?_)
  have hdl : (l.drop n).length = l.toArray.size - n := by simp
  have inv0 : HeadInv .any l.toArray n (Array.replicate l.toArray.size false) :=
    ⟨by simp, fun j oj _ hl => (by rw [getD_replicate_false] at hl; cases hl), fun t _ ht => getD_in (by simpa using ht) (getD_replicate_false _ _)⟩
  have H := plan_sound (P := P) (Q := calm Q) hsel hs hc hn (fun _ _ _ _ _ h => h) n s _ a w.drew inv0 hB (h _ (Below.refl _ w).drew rfl)
  have := any_of_anyB (g := l.toArray.size - n) (fun listed' a' w' hL => by
    have := wpAny_of_seq (ops := l.toArray) (md := .any) (Q' := calm Q) (l.drop n) n listed' a' w' (fun j => by simp [List.getElem?_drop]) (by rw [hdl]; exact hL.1) (by simpa using hL.2)
    rwa [hdl] at this) _ _ _ _ H
  rw [show n + (l.toArray.size - n) = l.toArray.size by omega] at this
  exact this

def flAll : List Nat → Plan → Plan
  | [], p => p
  | i :: is, p => .fl i (flAll is p)
/-- floats, one behind the other, as a quiet walk -/
theorem plan_floats {n : Nat} {Q : Exit → Act → World → Prop} {w : World} {r : Plan} : ∀ (is : List Nat) (os : List Oper) {a : Act}, is.mapM (ops[·]?) = some os →
    wpQuiet P ops (Ext w) (fun a' => wpPlan P ops Q n r a' w) os a → wpPlan P ops Q n (flAll is r) a w
  | [], os, a, h, hq => by
    simp only [List.mapM_nil, Option.pure_def, Option.some.injEq] at h
    subst h; exact hq
  | i :: is, os, a, h, hq => by
    simp only [List.mapM_cons, Option.bind_eq_bind, Option.bind_eq_some_iff, Option.pure_def, Option.some.injEq] at h
    obtain ⟨o, ho, os', hos, rfl⟩ := h
    show qOp P ops (Ext w) i (fun a' => wpPlan P ops Q n (flAll is r) a' w) a
    unfold qOp
    simp only [ho]
    unfold wpQuiet at hq
    split
    · rename_i hw; simp only [hw, if_true] at hq; exact Oper.quiet_mono (fun a' h' => plan_floats is os' hos h') hq
    · rename_i hw; simp only [hw] at hq; exact plan_floats is os' hos hq

theorem forced_of {n : Nat} {Q : Exit → Act → World → Prop} {a : Act} {w : World} {r : Plan} (i : Nat) {o : Oper} (ho : ops[i]? = some o)
    (h : ∀ K : Exit → Act → World → Prop, (∀ a' w', Below w.heap.size w w' → wpPlan P ops Q n r a' w' → K .normal a' w') → wpList P ops K [o] a w) :
    wpOp P ops Q i (fun a' w' => Below w.heap.size w w' ∧ wpPlan P ops Q n r a' w') a w := by
  have h1 := h (fun e a' w' => match e with | .normal => Below w.heap.size w w' ∧ wpPlan P ops Q n r a' w' | e => Q e a' w') (fun a' w' hb hp => ⟨hb, hp⟩)
  unfold wpOp
  simp only [ho]
  unfold wpList at h1
  split
  · rename_i hw
    simp only [hw, if_true] at h1
    refine h1.imp (fun h2 => ?_) (fun h2 => ⟨h2.1, h2.2⟩)
    unfold Oper.wp at *
    generalize (execOp a.eval o).run P w = x at *
    cases x with
    | ok n w' =>
      cases n <;> simp only [Oper.upon] at h2 ⊢ <;>
        first
          | exact h2
          | exact Calls.mono h2 (fun e w'' he => by cases e <;> exact he)
          | exact Rows.mono h2 (fun _ _ he => he)
    | halt x w' => cases x <;> simp only [Oper.upon] at h2 ⊢ <;> exact h2
  · rename_i hw
    simp only [hw] at h1
    exact h1
/-- one forced operation, walked as a list of one, the way on behind a variable -/
theorem plan_one {n : Nat} {Q : Exit → Act → World → Prop} {a : Act} {w : World} {r : Plan} (i : Nat) {o : Oper} (ho : ops[i]? = some o)
    (h : ∀ K : Exit → Act → World → Prop, (∀ a' w', Below w.heap.size w w' → wpPlan P ops Q n r a' w' → K .normal a' w') → wpList P ops K [o] a w) : wpPlan P ops Q n (.one i r) a w := forced_of i ho h
theorem plan_two {n : Nat} {Q : Exit → Act → World → Prop} {a : Act} {w : World} {r r' : Plan} (i j : Nat) {o o' : Oper} (ho : ops[i]? = some o) (ho' : ops[j]? = some o')
    (h : ∀ K : Exit → Act → World → Prop, (∀ a' w', Below w.heap.size w w' → wpPlan P ops Q n r a' w' → K .normal a' w') → wpList P ops K [o] a w)
    (h' : ∀ K : Exit → Act → World → Prop, (∀ a' w', Below w.heap.size w w' → wpPlan P ops Q n r' a' w' → K .normal a' w') → wpList P ops K [o'] a w) : wpPlan P ops Q n (.two i j r r') a w := ⟨forced_of i ho h, forced_of j ho' h'⟩
end
#print axioms wp_region_plan
end Go.Proofs.YtpekhdahamloaaaGreatDoor

/-! A region that draws its order, walked along a plan that holds all its operations (no forced tail). -/
namespace Go.Proofs.YtpekhdahamloaaaGreatDoor
open Go
open Go.RowKit (Below)
section
variable {P : Program} {ops : Array Oper} {md : Region.Mode}
end
end Go.Proofs.YtpekhdahamloaaaGreatDoor

/-! A region that draws its order and stores: as XFloat, where some operations store into old blocks (they wait for all that read memory); what reads no memory floats past them. -/
namespace Go.Proofs.YtpekhdahamloaaaGreatDoor
open Go
open Go.RowKit (Below)
namespace St
section
variable {P : Program} {ops : Array Oper} {md : Region.Mode}

/-- operations that read no memory -/
def pureB : Op → Bool
  | .move _ | .assign _ | .extract _ _ => true
  | _ => false
/-- the same value in every world -/
def YieldsP (P : Program) (ops : Array Oper) (o : Oper) (v : Value) (a : Act) : Prop :=
  (Region.wanted o (yielded ops a.tmps) = true ∧ ∀ W, (execOp a.eval o).run P W = .ok (.value v) W) ∨
  (Region.wanted o (yielded ops a.tmps) = false ∧ v = undef)
theorem YieldsP.of_same {o : Oper} {v : Value} {a a' : Act} (hy : YieldsP P ops o v a) (he : execOp a'.eval o = execOp a.eval o)
    (hw : Region.wanted o (yielded ops a'.tmps) = Region.wanted o (yielded ops a.tmps)) : YieldsP P ops o v a' := by
  unfold YieldsP at *
  rw [he, hw]
  exact hy
theorem pure_value {o : Oper} {a : Act} {C : World → Prop} {w : World} {v : Value} (h : pureB o.op = true) (hq : o.quietAt P a C w v) : ∀ W, (execOp a.eval o).run P W = .ok (.value v) W := by
  obtain ⟨dst, op, type, pos, after, guard⟩ := o
  intro W
  cases op <;> first | (simp only [pureB] at h; done) | (cases h; done) | skip
  case extract t k =>
    unfold Oper.quietAt at hq
    simp only [execOp, Instr.extract, Sem.run_bind] at hq ⊢
    generalize a.eval t = u at hq ⊢
    have stk : ∀ (s : String) (W : World), ∃ x, (stuck s : Sem Value).run P W = .halt x W := fun s W => ⟨_, rfl⟩
    cases u
    case tuple vs =>
      dsimp only at hq ⊢
      cases he : vs[k]? with
      | none =>
        obtain ⟨x, hx⟩ := stk "Extract: no such component" w
        rw [he] at hq; dsimp only at hq; rw [hx] at hq
        exact absurd hq (by simp [Oper.quietUpon, Result.andThen])
      | some y =>
        rw [he] at hq; dsimp only at hq ⊢
        simp only [Sem.run_pure, Result.andThen_ok, Oper.quietUpon] at hq ⊢
        rw [hq.2]
    all_goals
      obtain ⟨x, hx⟩ := stk "Extract: tuple expected" w
      dsimp only at hq; rw [hx] at hq
      exact absurd hq (by simp [Oper.quietUpon, Result.andThen])
  all_goals
    unfold Oper.quietAt at hq
    simp only [execOp, Sem.run_pure, Oper.quietUpon] at hq ⊢
    rw [hq.2]
theorem YieldsP.of_in {o : Oper} {v : Value} {a : Act} {C : World → Prop} {w : World} (hw : C w) (h : pureB o.op = true) (hy : YieldsIn P ops C o v a) : YieldsP P ops o v a :=
  hy.imp (fun ⟨h1, h2⟩ => ⟨h1, pure_value h (h2 w hw)⟩) id
theorem YieldsP.wpOp {Q : Exit → Act → World → Prop} {i : Nat} {o : Oper} {v : Value} {a : Act} {w : World} (hi : ops[i]? = some o) (hy : YieldsP P ops o v a)
    {K : Act → World → Prop} (h : K (a.put o.dst v) w) : Go.wpOp P ops Q i K a w := by
  unfold Go.wpOp
  simp only [hi]
  rcases hy with ⟨hw, hv⟩ | ⟨hw, rfl⟩
  · simp only [hw, if_true, Oper.wp, hv w, Oper.upon]; exact .inl h
  · simp only [hw, Bool.false_eq_true, if_false]; exact h
theorem wpOp_putP {Q : Exit → Act → World → Prop} {j : Nat} {oi oj : Oper} {v : Value} (hj : ops[j]? = some oj) (hap : oi.apart ops oj = true)
    (hsi : ∀ cs b, oi.op ≠ .select cs b) (hsj : ∀ cs b, oj.op ≠ .select cs b)
    (hQ : ∀ c a w, Q (.panic c) (a.put oi.dst v) w → Q (.panic c) a w) {K : Act → World → Prop} {a : Act} {w : World}
    (hy : YieldsP P ops oi v a) (h : wpOp P ops Q j K (a.put oi.dst v) w) :
    wpOp P ops Q j (fun a' w' => YieldsP P ops oi v a' ∧ K (a'.put oi.dst v) w') a w := by
  obtain ⟨h1, h2, h3⟩ := Oper.apart_spec hap
  have keep : ∀ (a : Act), YieldsP P ops oi v a → ∀ u, YieldsP P ops oi v (a.put oj.dst u) := fun a hy u =>
    hy.of_same (execOp_put oi hsi a oj.dst u h3) (wanted_put oi a oj.dst u h3)
  have keepD : ∀ d, YieldsP P ops oi v { a with defers := d :: a.defers } := fun d => hy.of_same rfl rfl
  unfold wpOp at *
  simp only [hj] at *
  rw [wanted_put oj a oi.dst v h1] at h
  split
  · rename_i hw
    simp only [hw, if_true] at h
    rcases h with h | ⟨hasks, hlets⟩
    case inr => exact .inr ⟨by unfold Oper.asks at *; rw [execOp_put oj hsj a oi.dst v h1] at hasks; exact hasks, hlets⟩
    refine .inl ?_
    unfold Oper.wp at *
    rw [execOp_put oj hsj a oi.dst v h1] at h
    generalize (execOp a.eval oj).run P w = r at *
    cases r with
    | ok n w' =>
      cases n <;> simp only [Oper.upon] at h ⊢
      case value u => exact ⟨keep a hy u, by rw [← Act.put_comm a v u h2]; exact h⟩
      case skip => exact ⟨keep a hy _, by rw [← Act.put_comm a v undef h2]; exact h⟩
      case defer d =>
        refine ⟨keep _ (keepD d) _, ?_⟩
        rw [← Act.put_comm _ v undef h2, ← Act.put_defers]
        exact h
      case enter f args =>
        refine Calls.mono h fun e w'' he => ?_
        cases e with
        | returned u => exact ⟨keep a hy u, by rw [← Act.put_comm a v u h2]; exact he⟩
        | panicked c => exact hQ _ _ _ he
        | outgrown => exact he
      case row row args => exact Rows.mono h fun u w'' he => ⟨keep a hy u, by rw [← Act.put_comm a v u h2]; exact he⟩
    | halt x w' =>
      cases x <;> simp only [Oper.upon] at h ⊢
      case panic u => exact hQ _ _ _ h
  · rename_i hw
    simp only [hw] at h
    exact ⟨keep a hy _, by rw [← Act.put_comm a v undef h2]; exact h⟩


/-- the operations below n in whatever order, each but those of ST keeping what lies below; behind them L -/
def anyC (P : Program) (md : Region.Mode) (ops : Array Oper) (Q : Exit → Act → World → Prop) (ST : List Nat) (n : Nat) (L : Array Bool → Act → World → Prop) : Nat → Array Bool → Act → World → Prop
  | 0, listed, a, w => L listed a w
  | f + 1, listed, a, w =>
    Region.ready md ops listed ≠ [] ∧
    ∀ i ∈ Region.ready md ops listed, i < n ∧ wpOp P ops Q i (fun a' w' => (ST.contains i = false → Below w.heap.size w w') ∧ anyC P md ops Q ST n L f (listed.setIfInBounds i true) a' w') a w
theorem any_of_anyC {ST : List Nat} {n g : Nat} {L : Array Bool → Act → World → Prop} {Q : Exit → Act → World → Prop} (hL : ∀ listed a w, L listed a w → wpAny P md ops Q g listed a w) :
    ∀ (f : Nat) (listed : Array Bool) (a : Act) (w : World), anyC P md ops Q ST n L f listed a w → wpAny P md ops Q (f + g) listed a w
  | 0, listed, a, w, h => by rw [Nat.zero_add]; exact hL _ _ _ h
  | f + 1, listed, a, w, h => by
    rw [show f + 1 + g = (f + g) + 1 by omega]
    exact ⟨fun h0 => absurd h0 h.1, fun i hi => wpOp_mono (fun a' w' h' => any_of_anyC hL f _ a' w' h'.2) (h.2 i hi).2⟩
abbrev Waits (md : Region.Mode) (ops : Array Oper) (n : Nat) : Prop := ∀ listed, HeadInv md ops n listed → ∀ i, i < n → listed.getD i true = false → ∀ t, n ≤ t → t ∉ Region.ready md ops listed
theorem anyC_mem {Q : Exit → Act → World → Prop} {n i : Nat} {oi : Oper} {v : Value} {L : Array Bool → Act → World → Prop} (hi : ops[i]? = some oi) (hsel : ∀ (j : Nat) (o : Oper) cs b, ops[j]? = some o → o.op ≠ .select cs b)
    {ST : List Nat} (TW : Waits md ops n) (hst : ∀ s ∈ ST, ∀ os, ops[s]? = some os → ∃ e ∈ os.after, Region.binds md e = true ∧ e.on = i) (hin : i < n)
    (hdone : ∀ listed a w, L listed a w → ∀ j ∈ Region.ready md ops listed, n ≤ j)
    (hQ : ∀ c a w, Q (.panic c) (a.put oi.dst v) w → Q (.panic c) a w) :
    ∀ (f : Nat) (listed : Array Bool) (a : Act) (w : World), HeadInv md ops n listed →
      (∀ j oj, ops[j]? = some oj → j ≠ i → listed.getD j true = false → (∀ e ∈ oj.after, Region.binds md e = true → e.on ≠ i) → oi.apart ops oj = true) →
      i ∈ Region.ready md ops listed → YieldsB P ops oi v a w →
      anyC P md ops Q ST n L f (listed.setIfInBounds i true) (a.put oi.dst v) w → anyC P md ops Q ST n L (f + 1) listed a w := by
  intro f
  induction f with
  | zero =>
    intro listed a w inv _ hr hy H
    have hun := (mem_ready.1 hr).1
    refine ⟨fun h => (by rw [h] at hr; cases hr), fun j hj => ?_⟩
    have hjn : j < n := Nat.lt_of_not_le fun h => TW _ inv i hin hun j h hj
    refine ⟨hjn, ?_⟩
    by_cases hji : j = i
    · subst hji; exact hy.wpOp hi ⟨fun _ => Below.refl _ w, H⟩
    · have := hdone _ _ _ H j (ready_mono hj hji)
      omega
  | succ f ih =>
    intro listed a w inv hfree hr hy H
    have hun := (mem_ready.1 hr).1
    refine ⟨fun h => (by rw [h] at hr; cases hr), fun j hj => ?_⟩
    have hjn : j < n := Nat.lt_of_not_le fun h => TW _ inv i hin hun j h hj
    refine ⟨hjn, ?_⟩
    by_cases hji : j = i
    · subst hji; exact hy.wpOp hi ⟨fun _ => Below.refl _ w, H⟩
    · have h1 := (H.2 j (ready_mono hj hji)).2
      obtain ⟨hjun, oj, hoj, hall⟩ := mem_ready.1 hj
      have hnot : ∀ e ∈ oj.after, Region.binds md e = true → e.on ≠ i := fun e he hb heq => by
        have h1 := hall e he hb
        rw [heq, getD_both hun] at h1
        cases h1
      have hjS : ST.contains j = false := by
        cases hc : ST.contains j with
        | false => rfl
        | true =>
          obtain ⟨e, he, hb, heq⟩ := hst j (by simpa using hc) oj hoj
          exact absurd heq (hnot e he hb)
      have h2 := wpOp_putB hoj (hfree j oj hoj hji hjun hnot) (fun cs b => hsel i oi cs b hi) (fun cs b => hsel j oj cs b hoj) hQ hy h1
      have hfree' : ∀ k ok, ops[k]? = some ok → k ≠ i → (listed.setIfInBounds j true).getD k true = false →
          (∀ e ∈ ok.after, Region.binds md e = true → e.on ≠ i) → oi.apart ops ok = true := fun k ok hk hki hun' hno => by
        refine hfree k ok hk hki ?_ hno
        by_cases hjk : j = k
        · subst hjk; exact hjun
        · rw [getD_set_ne true hjk] at hun'; exact hun'
      refine wpOp_mono (fun a' w' h3 => ⟨h3.2.1, ih (listed.setIfInBounds j true) a' w' (inv.set hj hjn) hfree' (ready_mono hr (Ne.symm hji)) (h3.1.mono (h3.2.1 hjS)) ?_⟩) h2
      rw [Array.setIfInBounds_comm _ _ hji]
      exact h3.2.2

theorem anyC_pure {Q : Exit → Act → World → Prop} {n i : Nat} {oi : Oper} {v : Value} {L : Array Bool → Act → World → Prop} (hi : ops[i]? = some oi) (hsel : ∀ (j : Nat) (o : Oper) cs b, ops[j]? = some o → o.op ≠ .select cs b)
    {ST : List Nat} (TW : Waits md ops n) (hin : i < n)
    (hdone : ∀ listed a w, L listed a w → ∀ j ∈ Region.ready md ops listed, n ≤ j)
    (hQ : ∀ c a w, Q (.panic c) (a.put oi.dst v) w → Q (.panic c) a w) :
    ∀ (f : Nat) (listed : Array Bool) (a : Act) (w : World), HeadInv md ops n listed →
      (∀ j oj, ops[j]? = some oj → j ≠ i → listed.getD j true = false → (∀ e ∈ oj.after, Region.binds md e = true → e.on ≠ i) → oi.apart ops oj = true) →
      i ∈ Region.ready md ops listed → YieldsP P ops oi v a →
      anyC P md ops Q ST n L f (listed.setIfInBounds i true) (a.put oi.dst v) w → anyC P md ops Q ST n L (f + 1) listed a w := by
  intro f
  induction f with
  | zero =>
    intro listed a w inv _ hr hy H
    have hun := (mem_ready.1 hr).1
    refine ⟨fun h => (by rw [h] at hr; cases hr), fun j hj => ?_⟩
    have hjn : j < n := Nat.lt_of_not_le fun h => TW _ inv i hin hun j h hj
    refine ⟨hjn, ?_⟩
    by_cases hji : j = i
    · subst hji; exact hy.wpOp hi ⟨fun _ => Below.refl _ w, H⟩
    · have := hdone _ _ _ H j (ready_mono hj hji)
      omega
  | succ f ih =>
    intro listed a w inv hfree hr hy H
    have hun := (mem_ready.1 hr).1
    refine ⟨fun h => (by rw [h] at hr; cases hr), fun j hj => ?_⟩
    have hjn : j < n := Nat.lt_of_not_le fun h => TW _ inv i hin hun j h hj
    refine ⟨hjn, ?_⟩
    by_cases hji : j = i
    · subst hji; exact hy.wpOp hi ⟨fun _ => Below.refl _ w, H⟩
    · have h1 := (H.2 j (ready_mono hj hji)).2
      obtain ⟨hjun, oj, hoj, hall⟩ := mem_ready.1 hj
      have hnot : ∀ e ∈ oj.after, Region.binds md e = true → e.on ≠ i := fun e he hb heq => by
        have h1 := hall e he hb
        rw [heq, getD_both hun] at h1
        cases h1
      have h2 := wpOp_putP hoj (hfree j oj hoj hji hjun hnot) (fun cs b => hsel i oi cs b hi) (fun cs b => hsel j oj cs b hoj) hQ hy h1
      have hfree' : ∀ k ok, ops[k]? = some ok → k ≠ i → (listed.setIfInBounds j true).getD k true = false →
          (∀ e ∈ ok.after, Region.binds md e = true → e.on ≠ i) → oi.apart ops ok = true := fun k ok hk hki hun' hno => by
        refine hfree k ok hk hki ?_ hno
        by_cases hjk : j = k
        · subst hjk; exact hjun
        · rw [getD_set_ne true hjk] at hun'; exact hun'
      refine wpOp_mono (fun a' w' h3 => ⟨h3.2.1, ih (listed.setIfInBounds j true) a' w' (inv.set hj hjn) hfree' (ready_mono hr (Ne.symm hji)) h3.1 ?_⟩) h2
      rw [Array.setIfInBounds_comm _ _ hji]
      exact h3.2.2


/-- a plan: i floats (it reads memory); i floats (it reads none); i alone may come; i alone may come and stores; i or j may come -/
inductive Plan where
  | done
  | fl (i : Nat) (p : Plan)
  | fp (i : Nat) (p : Plan)
  | one (i : Nat) (p : Plan)
  | st (i : Nat) (p : Plan)
  | two (i j : Nat) (p q : Plan)
def planB (md : Region.Mode) (ops : Array Oper) (ST : List Nat) (g n : Nat) : Nat → Plan → Array Bool → Bool
  | 0, .done, listed => Region.seqB md ops g n listed
  | f + 1, .fl i p, listed => (Region.ready md ops listed).contains i && Region.free md ops listed i && ((ops[i]?).map (readsB ·.op)).getD false && decide (i < n) && (ST.all fun s => ((ops[s]?).map (fun os => os.after.any fun e => Region.binds md e && e.on == i)).getD true) && planB md ops ST g n f p (listed.setIfInBounds i true)
  | f + 1, .fp i p, listed => (Region.ready md ops listed).contains i && Region.free md ops listed i && ((ops[i]?).map (pureB ·.op)).getD false && decide (i < n) && planB md ops ST g n f p (listed.setIfInBounds i true)
  | f + 1, .one i p, listed => (Region.ready md ops listed == [i]) && decide (i < n) && planB md ops ST g n f p (listed.setIfInBounds i true)
  | f + 1, .st i p, listed => (Region.ready md ops listed == [i]) && decide (i < n) && ST.contains i && planB md ops ST g n f p (listed.setIfInBounds i true)
  | f + 1, .two i j p q, listed => (Region.ready md ops listed == [i, j]) && decide (i < n) && decide (j < n) && planB md ops ST g n f p (listed.setIfInBounds i true) && planB md ops ST g n f q (listed.setIfInBounds j true)
  | _, _, _ => false
/-- the walk along a plan -/
def wpPlan (P : Program) (ops : Array Oper) (Q : Exit → Act → World → Prop) (n : Nat) : Plan → Act → World → Prop
  | .done, a, w => wpList P ops Q (ops.toList.drop n) a w
  | .fl i p, a, w => qOp P ops (Ext w) i (fun a' => wpPlan P ops Q n p a' w) a
  | .fp i p, a, w => qOp P ops (Ext w) i (fun a' => wpPlan P ops Q n p a' w) a
  | .one i p, a, w => wpOp P ops Q i (fun a' w' => Below w.heap.size w w' ∧ wpPlan P ops Q n p a' w') a w
  | .st i p, a, w => wpOp P ops Q i (fun a' w' => wpPlan P ops Q n p a' w') a w
  | .two i j p q, a, w => wpOp P ops Q i (fun a' w' => Below w.heap.size w w' ∧ wpPlan P ops Q n p a' w') a w ∧ wpOp P ops Q j (fun a' w' => Below w.heap.size w w' ∧ wpPlan P ops Q n q a' w') a w

theorem plan_sound {ST : List Nat} {g n : Nat} {Q : Exit → Act → World → Prop} (hsel : Region.noSelect ops = true) (TW : Waits md ops n) (hQ : ∀ (d : Option Tmp) v c a w, Q (.panic c) (a.put d v) w → Q (.panic c) a w) :
    ∀ (f : Nat) (s : Plan) (listed : Array Bool) (a : Act) (w : World), HeadInv md ops n listed → planB md ops ST g n f s listed = true → wpPlan P ops Q n s a w →
      anyC P md ops Q ST n (fun listed' a' w' => Region.seqB md ops g n listed' = true ∧ wpList P ops Q (ops.toList.drop n) a' w') f listed a w
  | 0, .done, listed, a, w, inv, hB, h => ⟨hB, h⟩
  | f + 1, .fl i r, listed, a, w, inv, hB, h => by
    simp only [planB, Bool.and_eq_true, decide_eq_true_eq] at hB
    obtain ⟨⟨⟨⟨⟨hr, hf⟩, hrd⟩, hin⟩, hst⟩, hB'⟩ := hB
    have hr' : i ∈ Region.ready md ops listed := by simpa using hr
    obtain ⟨_, oi, hoi, _⟩ := mem_ready.1 hr'
    obtain ⟨v, hy, hK⟩ := yieldsIn_of_qOp hoi h
    refine anyC_mem hoi (Region.noSelect_spec hsel) TW (fun s hs os hos => ?_) hin (fun listed' a' w' hL => seqB_ready hL.1) (fun c a w => hQ _ _ c a w) _ listed a w inv (Region.free_spec hoi hf) hr' (YieldsB.of_in (by simpa [hoi] using hrd) hy) (plan_sound hsel TW hQ f r _ _ w (inv.set hr' hin) hB' hK)
    have h1 := List.all_eq_true.1 hst s hs
    rw [hos] at h1
    simp only [Option.map_some, Option.getD_some, Array.any_eq_true', Bool.and_eq_true, beq_iff_eq] at h1
    exact h1
  | f + 1, .fp i r, listed, a, w, inv, hB, h => by
    simp only [planB, Bool.and_eq_true, decide_eq_true_eq] at hB
    obtain ⟨⟨⟨⟨hr, hf⟩, hrd⟩, hin⟩, hB'⟩ := hB
    have hr' : i ∈ Region.ready md ops listed := by simpa using hr
    obtain ⟨_, oi, hoi, _⟩ := mem_ready.1 hr'
    obtain ⟨v, hy, hK⟩ := yieldsIn_of_qOp hoi h
    exact anyC_pure hoi (Region.noSelect_spec hsel) TW hin (fun listed' a' w' hL => seqB_ready hL.1) (fun c a w => hQ _ _ c a w) _ listed a w inv (Region.free_spec hoi hf) hr' (YieldsP.of_in (C := Ext w) (regrown_of_below (Below.refl _ w)) (by simpa [hoi] using hrd) hy) (plan_sound hsel TW hQ f r _ _ w (inv.set hr' hin) hB' hK)
  | f + 1, .one i r, listed, a, w, inv, hB, h => by
    simp only [planB, Bool.and_eq_true, beq_iff_eq, decide_eq_true_eq] at hB
    obtain ⟨⟨hr, hin⟩, hB'⟩ := hB
    refine ⟨fun h0 => (by rw [h0] at hr; cases hr), fun j hj => ?_⟩
    have hj0 := hj
    rw [hr] at hj
    obtain rfl : j = i := by simpa using hj
    exact ⟨hin, wpOp_mono (fun a' w' h' => ⟨fun _ => h'.1, plan_sound hsel TW hQ f r _ a' w' (inv.set hj0 hin) hB' h'.2⟩) h⟩
  | f + 1, .st i r, listed, a, w, inv, hB, h => by
    simp only [planB, Bool.and_eq_true, beq_iff_eq, decide_eq_true_eq] at hB
    obtain ⟨⟨⟨hr, hin⟩, hS⟩, hB'⟩ := hB
    refine ⟨fun h0 => (by rw [h0] at hr; cases hr), fun j hj => ?_⟩
    have hj0 := hj
    rw [hr] at hj
    obtain rfl : j = i := by simpa using hj
    exact ⟨hin, wpOp_mono (fun a' w' h' => ⟨fun hc => (by rw [hS] at hc; cases hc), plan_sound hsel TW hQ f r _ a' w' (inv.set hj0 hin) hB' h'⟩) h⟩
  | f + 1, .two i i' r r', listed, a, w, inv, hB, h => by
    simp only [planB, Bool.and_eq_true, beq_iff_eq, decide_eq_true_eq] at hB
    obtain ⟨⟨⟨⟨hr, hin⟩, hin'⟩, hB'⟩, hB''⟩ := hB
    refine ⟨fun h0 => (by rw [h0] at hr; cases hr), fun j hj => ?_⟩
    have hj0 := hj
    rw [hr] at hj
    have hj' : j = i ∨ j = i' := by simpa using hj
    rcases hj' with rfl | rfl
    · exact ⟨hin, wpOp_mono (fun a' w' h' => ⟨fun _ => h'.1, plan_sound hsel TW hQ f r _ a' w' (inv.set hj0 hin) hB' h'.2⟩) h.1⟩
    · exact ⟨hin', wpOp_mono (fun a' w' h' => ⟨fun _ => h'.1, plan_sound hsel TW hQ f r' _ a' w' (inv.set hj0 hin') hB'' h'.2⟩) h.2⟩

theorem waits_of {n : Nat} (h : (decide (n = ops.size) || (decide (n < ops.size) && Region.sinkB md ops n && Region.chainB md ops n)) = true) : Waits md ops n := by
  simp only [Bool.or_eq_true, Bool.and_eq_true, decide_eq_true_eq] at h
  rcases h with h | ⟨⟨hn, hs⟩, hc⟩
  · intro listed _ i _ _ t ht hr
    obtain ⟨_, ot, hot, _⟩ := mem_ready.1 hr
    have := (Array.getElem?_eq_some_iff.1 hot).1
    omega
  · exact fun listed inv i hin hun t ht => tail_waits hs hc hn inv _ i rfl hin hun t ht

/-- A REGION THAT DRAWS ITS ORDER, walked along a plan; from operation n on its order is forced (n may be the number of all). -/
theorem wp_region_plan {id : Nat} {Q : Exit → Act → World → Prop} {a : Act} {w : World} {l : List Oper} (n : Nat) (ST : List Nat) (s : Plan) (hm : P.follows .mixedOrders = true)
    (hB : (Region.noSelect l.toArray && decide (n ≤ l.toArray.size) && (decide (n = l.toArray.size) || (decide (n < l.toArray.size) && Region.sinkB .any l.toArray n && Region.chainB .any l.toArray n)) && planB .any l.toArray ST (l.toArray.size - n) n n s (Array.replicate l.toArray.size false)) = true)
    (h : ∀ w', Below w.heap.size w w' → w'.heap.size = w.heap.size → wpPlan P l.toArray (calm Q) n s a w') : (Code.region id l.toArray true).wp P Q a w := by
  rw [Bool.and_eq_true, Bool.and_eq_true, Bool.and_eq_true, decide_eq_true_eq] at hB
  obtain ⟨⟨⟨hsel, hn⟩, hs⟩, hB⟩ := hB
  refine Code.wp_mono (Q := calm Q) (fun e a w h => by cases e <;> first | exact h | exact h.elim) (wp_region_any hm ?_)
  have hdl : (l.drop n).length = l.toArray.size - n := by simp
  have inv0 : HeadInv .any l.toArray n (Array.replicate l.toArray.size false) :=
    ⟨by simp, fun j oj _ hl => (by rw [getD_replicate_false] at hl; cases hl), fun t _ ht => getD_in (by simpa using ht) (getD_replicate_false _ _)⟩
  have H := plan_sound (P := P) (Q := calm Q) hsel (waits_of hs) (fun _ _ _ _ _ h => h) n s _ a w.drew inv0 hB (h _ (Below.refl _ w).drew rfl)
  have := any_of_anyC (g := l.toArray.size - n) (fun listed' a' w' hL => by
    have := wpAny_of_seq (ops := l.toArray) (md := .any) (Q' := calm Q) (l.drop n) n listed' a' w' (fun j => by simp [List.getElem?_drop]) (by rw [hdl]; exact hL.1) (by simpa using hL.2)
    rwa [hdl] at this) _ _ _ _ H
  rw [show n + (l.toArray.size - n) = l.toArray.size by omega] at this
  exact this

def flAll : List Nat → Plan → Plan
  | [], p => p
  | i :: is, p => .fl i (flAll is p)
def fpAll : List Nat → Plan → Plan
  | [], p => p
  | i :: is, p => .fp i (fpAll is p)
theorem plan_floats {n : Nat} {Q : Exit → Act → World → Prop} {w : World} {r : Plan} : ∀ (is : List Nat) (os : List Oper) {a : Act}, is.mapM (ops[·]?) = some os →
    wpQuiet P ops (Ext w) (fun a' => wpPlan P ops Q n r a' w) os a → wpPlan P ops Q n (flAll is r) a w
  | [], os, a, h, hq => by
    simp only [List.mapM_nil, Option.pure_def, Option.some.injEq] at h
    subst h; exact hq
  | i :: is, os, a, h, hq => by
    simp only [List.mapM_cons, Option.bind_eq_bind, Option.bind_eq_some_iff, Option.pure_def, Option.some.injEq] at h
    obtain ⟨o, ho, os', hos, rfl⟩ := h
    show qOp P ops (Ext w) i (fun a' => wpPlan P ops Q n (flAll is r) a' w) a
    unfold qOp
    simp only [ho]
    unfold wpQuiet at hq
    split
    · rename_i hw; simp only [hw, if_true] at hq; exact Oper.quiet_mono (fun a' h' => plan_floats is os' hos h') hq
    · rename_i hw; simp only [hw] at hq; exact plan_floats is os' hos hq

theorem plan_pures {n : Nat} {Q : Exit → Act → World → Prop} {w : World} {r : Plan} : ∀ (is : List Nat) (os : List Oper) {a : Act}, is.mapM (ops[·]?) = some os →
    wpQuiet P ops (Ext w) (fun a' => wpPlan P ops Q n r a' w) os a → wpPlan P ops Q n (fpAll is r) a w
  | [], os, a, h, hq => by
    simp only [List.mapM_nil, Option.pure_def, Option.some.injEq] at h
    subst h; exact hq
  | i :: is, os, a, h, hq => by
    simp only [List.mapM_cons, Option.bind_eq_bind, Option.bind_eq_some_iff, Option.pure_def, Option.some.injEq] at h
    obtain ⟨o, ho, os', hos, rfl⟩ := h
    show qOp P ops (Ext w) i (fun a' => wpPlan P ops Q n (fpAll is r) a' w) a
    unfold qOp
    simp only [ho]
    unfold wpQuiet at hq
    split
    · rename_i hw; simp only [hw, if_true] at hq; exact Oper.quiet_mono (fun a' h' => plan_pures is os' hos h') hq
    · rename_i hw; simp only [hw] at hq; exact plan_pures is os' hos hq

theorem forced_of {n : Nat} {Q : Exit → Act → World → Prop} {a : Act} {w : World} {r : Plan} (i : Nat) {o : Oper} (ho : ops[i]? = some o)
    (h : ∀ K : Exit → Act → World → Prop, (∀ a' w', Below w.heap.size w w' → wpPlan P ops Q n r a' w' → K .normal a' w') → wpList P ops K [o] a w) :
    wpOp P ops Q i (fun a' w' => Below w.heap.size w w' ∧ wpPlan P ops Q n r a' w') a w := by
  have h1 := h (fun e a' w' => match e with | .normal => Below w.heap.size w w' ∧ wpPlan P ops Q n r a' w' | e => Q e a' w') (fun a' w' hb hp => ⟨hb, hp⟩)
  unfold wpOp
  simp only [ho]
  unfold wpList at h1
  split
  · rename_i hw
    simp only [hw, if_true] at h1
    refine h1.imp (fun h2 => ?_) (fun h2 => ⟨h2.1, h2.2⟩)
    unfold Oper.wp at *
    generalize (execOp a.eval o).run P w = x at *
    cases x with
    | ok n w' =>
      cases n <;> simp only [Oper.upon] at h2 ⊢ <;>
        first
          | exact h2
          | exact Calls.mono h2 (fun e w'' he => by cases e <;> exact he)
          | exact Rows.mono h2 (fun _ _ he => he)
    | halt x w' => cases x <;> simp only [Oper.upon] at h2 ⊢ <;> exact h2
  · rename_i hw
    simp only [hw] at h1
    exact h1
theorem stored_of {n : Nat} {Q : Exit → Act → World → Prop} {a : Act} {w : World} {r : Plan} (i : Nat) {o : Oper} (ho : ops[i]? = some o)
    (h : ∀ K : Exit → Act → World → Prop, (∀ a' w', wpPlan P ops Q n r a' w' → K .normal a' w') → wpList P ops K [o] a w) :
    wpOp P ops Q i (fun a' w' => wpPlan P ops Q n r a' w') a w := by
  have h1 := h (fun e a' w' => match e with | .normal => wpPlan P ops Q n r a' w' | e => Q e a' w') (fun a' w' hp => hp)
  unfold wpOp
  simp only [ho]
  unfold wpList at h1
  split
  · rename_i hw
    simp only [hw, if_true] at h1
    refine h1.imp (fun h2 => ?_) (fun h2 => ⟨h2.1, h2.2⟩)
    unfold Oper.wp at *
    generalize (execOp a.eval o).run P w = x at *
    cases x with
    | ok n w' =>
      cases n <;> simp only [Oper.upon] at h2 ⊢ <;>
        first
          | exact h2
          | exact Calls.mono h2 (fun e w'' he => by cases e <;> exact he)
          | exact Rows.mono h2 (fun _ _ he => he)
    | halt x w' => cases x <;> simp only [Oper.upon] at h2 ⊢ <;> exact h2
  · rename_i hw
    simp only [hw] at h1
    exact h1
/-- one forced operation, walked as a list of one, the way on behind a variable -/
theorem plan_one {n : Nat} {Q : Exit → Act → World → Prop} {a : Act} {w : World} {r : Plan} (i : Nat) {o : Oper} (ho : ops[i]? = some o)
    (h : ∀ K : Exit → Act → World → Prop, (∀ a' w', Below w.heap.size w w' → wpPlan P ops Q n r a' w' → K .normal a' w') → wpList P ops K [o] a w) : wpPlan P ops Q n (.one i r) a w := forced_of i ho h
theorem plan_two {n : Nat} {Q : Exit → Act → World → Prop} {a : Act} {w : World} {r r' : Plan} (i j : Nat) {o o' : Oper} (ho : ops[i]? = some o) (ho' : ops[j]? = some o')
    (h : ∀ K : Exit → Act → World → Prop, (∀ a' w', Below w.heap.size w w' → wpPlan P ops Q n r a' w' → K .normal a' w') → wpList P ops K [o] a w)
    (h' : ∀ K : Exit → Act → World → Prop, (∀ a' w', Below w.heap.size w w' → wpPlan P ops Q n r' a' w' → K .normal a' w') → wpList P ops K [o'] a w) : wpPlan P ops Q n (.two i j r r') a w := ⟨forced_of i ho h, forced_of j ho' h'⟩
/-- one forced operation that stores -/
theorem plan_st {n : Nat} {Q : Exit → Act → World → Prop} {a : Act} {w : World} {r : Plan} (i : Nat) {o : Oper} (ho : ops[i]? = some o)
    (h : ∀ K : Exit → Act → World → Prop, (∀ a' w', wpPlan P ops Q n r a' w' → K .normal a' w') → wpList P ops K [o] a w) : wpPlan P ops Q n (.st i r) a w := stored_of i ho h
theorem plan_done {n : Nat} {Q : Exit → Act → World → Prop} {a : Act} {w : World} {l : List Oper} (hl : ops.toList.drop n = l)
    (h : ∀ K : Exit → Act → World → Prop, (∀ a' w', Q .normal a' w' → K .normal a' w') → wpList P ops K l a w) : wpPlan P ops (calm Q) n .done a w := by
  show wpList P ops (calm Q) (ops.toList.drop n) a w
  rw [hl]; exact h _ (fun _ _ h => h)


end
end St
end Go.Proofs.YtpekhdahamloaaaGreatDoor

/-! A region that draws its order: as XFloat3, where every operation keeps what lies below n0 (a number that stays); what floats reads below n0. -/
namespace Go.Proofs.YtpekhdahamloaaaGreatDoor
open Go
open Go.RowKit (Below)
namespace Nn
section
variable {P : Program} {ops : Array Oper} {md : Region.Mode} {n0 : Nat}

/-- operations that read no memory -/
def pureB : Op → Bool
  | .move _ | .assign _ | .extract _ _ => true
  | _ => false
/-- the same value in every world -/
def YieldsP (P : Program) (ops : Array Oper) (o : Oper) (v : Value) (a : Act) : Prop :=
  (Region.wanted o (yielded ops a.tmps) = true ∧ ∀ W, (execOp a.eval o).run P W = .ok (.value v) W) ∨
  (Region.wanted o (yielded ops a.tmps) = false ∧ v = undef)
theorem YieldsP.of_same {o : Oper} {v : Value} {a a' : Act} (hy : YieldsP P ops o v a) (he : execOp a'.eval o = execOp a.eval o)
    (hw : Region.wanted o (yielded ops a'.tmps) = Region.wanted o (yielded ops a.tmps)) : YieldsP P ops o v a' := by
  unfold YieldsP at *
  rw [he, hw]
  exact hy
theorem pure_value {o : Oper} {a : Act} {C : World → Prop} {w : World} {v : Value} (h : pureB o.op = true) (hq : o.quietAt P a C w v) : ∀ W, (execOp a.eval o).run P W = .ok (.value v) W := by
  obtain ⟨dst, op, type, pos, after, guard⟩ := o
  intro W
  cases op <;> first | (simp only [pureB] at h; done) | (cases h; done) | skip
  case extract t k =>
    unfold Oper.quietAt at hq
    simp only [execOp, Instr.extract, Sem.run_bind] at hq ⊢
    generalize a.eval t = u at hq ⊢
    have stk : ∀ (s : String) (W : World), ∃ x, (stuck s : Sem Value).run P W = .halt x W := fun s W => ⟨_, rfl⟩
    cases u
    case tuple vs =>
      dsimp only at hq ⊢
      cases he : vs[k]? with
      | none =>
        obtain ⟨x, hx⟩ := stk "Extract: no such component" w
        rw [he] at hq; dsimp only at hq; rw [hx] at hq
        exact absurd hq (by simp [Oper.quietUpon, Result.andThen])
      | some y =>
        rw [he] at hq; dsimp only at hq ⊢
        simp only [Sem.run_pure, Result.andThen_ok, Oper.quietUpon] at hq ⊢
        rw [hq.2]
    all_goals
      obtain ⟨x, hx⟩ := stk "Extract: tuple expected" w
      dsimp only at hq; rw [hx] at hq
      exact absurd hq (by simp [Oper.quietUpon, Result.andThen])
  all_goals
    unfold Oper.quietAt at hq
    simp only [execOp, Sem.run_pure, Oper.quietUpon] at hq ⊢
    rw [hq.2]
theorem YieldsP.of_in {o : Oper} {v : Value} {a : Act} {C : World → Prop} {w : World} (hw : C w) (h : pureB o.op = true) (hy : YieldsIn P ops C o v a) : YieldsP P ops o v a :=
  hy.imp (fun ⟨h1, h2⟩ => ⟨h1, pure_value h (h2 w hw)⟩) id
theorem YieldsP.wpOp {Q : Exit → Act → World → Prop} {i : Nat} {o : Oper} {v : Value} {a : Act} {w : World} (hi : ops[i]? = some o) (hy : YieldsP P ops o v a)
    {K : Act → World → Prop} (h : K (a.put o.dst v) w) : Go.wpOp P ops Q i K a w := by
  unfold Go.wpOp
  simp only [hi]
  rcases hy with ⟨hw, hv⟩ | ⟨hw, rfl⟩
  · simp only [hw, if_true, Oper.wp, hv w, Oper.upon]; exact .inl h
  · simp only [hw, Bool.false_eq_true, if_false]; exact h
theorem wpOp_putP {Q : Exit → Act → World → Prop} {j : Nat} {oi oj : Oper} {v : Value} (hj : ops[j]? = some oj) (hap : oi.apart ops oj = true)
    (hsi : ∀ cs b, oi.op ≠ .select cs b) (hsj : ∀ cs b, oj.op ≠ .select cs b)
    (hQ : ∀ c a w, Q (.panic c) (a.put oi.dst v) w → Q (.panic c) a w) {K : Act → World → Prop} {a : Act} {w : World}
    (hy : YieldsP P ops oi v a) (h : wpOp P ops Q j K (a.put oi.dst v) w) :
    wpOp P ops Q j (fun a' w' => YieldsP P ops oi v a' ∧ K (a'.put oi.dst v) w') a w := by
  obtain ⟨h1, h2, h3⟩ := Oper.apart_spec hap
  have keep : ∀ (a : Act), YieldsP P ops oi v a → ∀ u, YieldsP P ops oi v (a.put oj.dst u) := fun a hy u =>
    hy.of_same (execOp_put oi hsi a oj.dst u h3) (wanted_put oi a oj.dst u h3)
  have keepD : ∀ d, YieldsP P ops oi v { a with defers := d :: a.defers } := fun d => hy.of_same rfl rfl
  unfold wpOp at *
  simp only [hj] at *
  rw [wanted_put oj a oi.dst v h1] at h
  split
  · rename_i hw
    simp only [hw, if_true] at h
    rcases h with h | ⟨hasks, hlets⟩
    case inr => exact .inr ⟨by unfold Oper.asks at *; rw [execOp_put oj hsj a oi.dst v h1] at hasks; exact hasks, hlets⟩
    refine .inl ?_
    unfold Oper.wp at *
    rw [execOp_put oj hsj a oi.dst v h1] at h
    generalize (execOp a.eval oj).run P w = r at *
    cases r with
    | ok n w' =>
      cases n <;> simp only [Oper.upon] at h ⊢
      case value u => exact ⟨keep a hy u, by rw [← Act.put_comm a v u h2]; exact h⟩
      case skip => exact ⟨keep a hy _, by rw [← Act.put_comm a v undef h2]; exact h⟩
      case defer d =>
        refine ⟨keep _ (keepD d) _, ?_⟩
        rw [← Act.put_comm _ v undef h2, ← Act.put_defers]
        exact h
      case enter f args =>
        refine Calls.mono h fun e w'' he => ?_
        cases e with
        | returned u => exact ⟨keep a hy u, by rw [← Act.put_comm a v u h2]; exact he⟩
        | panicked c => exact hQ _ _ _ he
        | outgrown => exact he
      case row row args => exact Rows.mono h fun u w'' he => ⟨keep a hy u, by rw [← Act.put_comm a v u h2]; exact he⟩
    | halt x w' =>
      cases x <;> simp only [Oper.upon] at h ⊢
      case panic u => exact hQ _ _ _ h
  · rename_i hw
    simp only [hw] at h
    exact ⟨keep a hy _, by rw [← Act.put_comm a v undef h2]; exact h⟩


/-- the same value in every world that has new blocks and draws beside w -/
def YieldsN (n0 : Nat) (P : Program) (ops : Array Oper) (o : Oper) (v : Value) (a : Act) (w : World) : Prop :=
  (Region.wanted o (yielded ops a.tmps) = true ∧ ∀ W, Below n0 w W → (execOp a.eval o).run P W = .ok (.value v) W) ∨
  (Region.wanted o (yielded ops a.tmps) = false ∧ v = undef)

theorem YieldsN.mono {o : Oper} {v : Value} {a : Act} {w w' : World} (h : YieldsN n0 P ops o v a w) (hb : Below n0 w w') : YieldsN n0 P ops o v a w' :=
  h.imp (fun ⟨h1, h2⟩ => ⟨h1, fun W hW => h2 W (hb.trans hW)⟩) id

theorem YieldsN.of_same {o : Oper} {v : Value} {a a' : Act} {w : World} (hy : YieldsN n0 P ops o v a w) (he : execOp a'.eval o = execOp a.eval o)
    (hw : Region.wanted o (yielded ops a'.tmps) = Region.wanted o (yielded ops a.tmps)) : YieldsN n0 P ops o v a' w := by
  unfold YieldsN at *
  rw [he, hw]
  exact hy

theorem YieldsN.of_in {o : Oper} {v : Value} {a : Act} {w : World} (h : readsB o.op = true) (hy : YieldsIn P ops (Below n0 w) o v a) : YieldsN n0 P ops o v a w :=
  hy.imp (fun ⟨h1, h2⟩ => ⟨h1, fun W hW => reads_value h (h2 W hW)⟩) id

theorem YieldsN.wpOp {Q : Exit → Act → World → Prop} {i : Nat} {o : Oper} {v : Value} {a : Act} {w : World} (hi : ops[i]? = some o) (hy : YieldsN n0 P ops o v a w)
    {K : Act → World → Prop} (h : K (a.put o.dst v) w) : Go.wpOp P ops Q i K a w := by
  unfold Go.wpOp
  simp only [hi]
  rcases hy with ⟨hw, hv⟩ | ⟨hw, rfl⟩
  · simp only [hw, if_true, Oper.wp, hv w (Below.refl _ w), Oper.upon]; exact .inl h
  · simp only [hw, Bool.false_eq_true, if_false]; exact h

theorem wpOp_putN {Q : Exit → Act → World → Prop} {j : Nat} {oi oj : Oper} {v : Value} {w0 : World} (hj : ops[j]? = some oj) (hap : oi.apart ops oj = true)
    (hsi : ∀ cs b, oi.op ≠ .select cs b) (hsj : ∀ cs b, oj.op ≠ .select cs b)
    (hQ : ∀ c a w, Q (.panic c) (a.put oi.dst v) w → Q (.panic c) a w) {K : Act → World → Prop} {a : Act} {w : World}
    (hy : YieldsN n0 P ops oi v a w0) (h : wpOp P ops Q j K (a.put oi.dst v) w) :
    wpOp P ops Q j (fun a' w' => YieldsN n0 P ops oi v a' w0 ∧ K (a'.put oi.dst v) w') a w := by
  obtain ⟨h1, h2, h3⟩ := Oper.apart_spec hap
  have keep : ∀ (a : Act), YieldsN n0 P ops oi v a w0 → ∀ u, YieldsN n0 P ops oi v (a.put oj.dst u) w0 := fun a hy u =>
    hy.of_same (execOp_put oi hsi a oj.dst u h3) (wanted_put oi a oj.dst u h3)
  have keepD : ∀ d, YieldsN n0 P ops oi v { a with defers := d :: a.defers } w0 := fun d => hy.of_same rfl rfl
  unfold wpOp at *
  simp only [hj] at *
  rw [wanted_put oj a oi.dst v h1] at h
  split
  · rename_i hw
    simp only [hw, if_true] at h
    rcases h with h | ⟨hasks, hlets⟩
    case inr => exact .inr ⟨by unfold Oper.asks at *; rw [execOp_put oj hsj a oi.dst v h1] at hasks; exact hasks, hlets⟩
    refine .inl ?_
    unfold Oper.wp at *
    rw [execOp_put oj hsj a oi.dst v h1] at h
    generalize (execOp a.eval oj).run P w = r at *
    cases r with
    | ok n w' =>
      cases n <;> simp only [Oper.upon] at h ⊢
      case value u => exact ⟨keep a hy u, by rw [← Act.put_comm a v u h2]; exact h⟩
      case skip => exact ⟨keep a hy _, by rw [← Act.put_comm a v undef h2]; exact h⟩
      case defer d =>
        refine ⟨keep _ (keepD d) _, ?_⟩
        rw [← Act.put_comm _ v undef h2, ← Act.put_defers]
        exact h
      case enter f args =>
        refine Calls.mono h fun e w'' he => ?_
        cases e with
        | returned u => exact ⟨keep a hy u, by rw [← Act.put_comm a v u h2]; exact he⟩
        | panicked c => exact hQ _ _ _ he
        | outgrown => exact he
      case row row args => exact Rows.mono h fun u w'' he => ⟨keep a hy u, by rw [← Act.put_comm a v u h2]; exact he⟩
    | halt x w' =>
      cases x <;> simp only [Oper.upon] at h ⊢
      case panic u => exact hQ _ _ _ h
  · rename_i hw
    simp only [hw] at h
    exact ⟨keep a hy _, by rw [← Act.put_comm a v undef h2]; exact h⟩

/-- the operations below n in whatever order, each but those of ST keeping what lies below; behind them L -/
def anyC (n0 : Nat) (P : Program) (md : Region.Mode) (ops : Array Oper) (Q : Exit → Act → World → Prop) (ST : List Nat) (n : Nat) (L : Array Bool → Act → World → Prop) : Nat → Array Bool → Act → World → Prop
  | 0, listed, a, w => L listed a w
  | f + 1, listed, a, w =>
    Region.ready md ops listed ≠ [] ∧
    ∀ i ∈ Region.ready md ops listed, i < n ∧ wpOp P ops Q i (fun a' w' => (ST.contains i = false → Below n0 w w') ∧ anyC n0 P md ops Q ST n L f (listed.setIfInBounds i true) a' w') a w
theorem any_of_anyC {ST : List Nat} {n g : Nat} {L : Array Bool → Act → World → Prop} {Q : Exit → Act → World → Prop} (hL : ∀ listed a w, L listed a w → wpAny P md ops Q g listed a w) :
    ∀ (f : Nat) (listed : Array Bool) (a : Act) (w : World), anyC n0 P md ops Q ST n L f listed a w → wpAny P md ops Q (f + g) listed a w
  | 0, listed, a, w, h => by rw [Nat.zero_add]; exact hL _ _ _ h
  | f + 1, listed, a, w, h => by
    rw [show f + 1 + g = (f + g) + 1 by omega]
    exact ⟨fun h0 => absurd h0 h.1, fun i hi => wpOp_mono (fun a' w' h' => any_of_anyC hL f _ a' w' h'.2) (h.2 i hi).2⟩
abbrev Waits (md : Region.Mode) (ops : Array Oper) (n : Nat) : Prop := ∀ listed, HeadInv md ops n listed → ∀ i, i < n → listed.getD i true = false → ∀ t, n ≤ t → t ∉ Region.ready md ops listed
theorem anyC_mem {Q : Exit → Act → World → Prop} {n i : Nat} {oi : Oper} {v : Value} {L : Array Bool → Act → World → Prop} (hi : ops[i]? = some oi) (hsel : ∀ (j : Nat) (o : Oper) cs b, ops[j]? = some o → o.op ≠ .select cs b)
    {ST : List Nat} (TW : Waits md ops n) (hst : ∀ s ∈ ST, ∀ os, ops[s]? = some os → ∃ e ∈ os.after, Region.binds md e = true ∧ e.on = i) (hin : i < n)
    (hdone : ∀ listed a w, L listed a w → ∀ j ∈ Region.ready md ops listed, n ≤ j)
    (hQ : ∀ c a w, Q (.panic c) (a.put oi.dst v) w → Q (.panic c) a w) :
    ∀ (f : Nat) (listed : Array Bool) (a : Act) (w : World), HeadInv md ops n listed →
      (∀ j oj, ops[j]? = some oj → j ≠ i → listed.getD j true = false → (∀ e ∈ oj.after, Region.binds md e = true → e.on ≠ i) → oi.apart ops oj = true) →
      i ∈ Region.ready md ops listed → YieldsN n0 P ops oi v a w →
      anyC n0 P md ops Q ST n L f (listed.setIfInBounds i true) (a.put oi.dst v) w → anyC n0 P md ops Q ST n L (f + 1) listed a w := by
  intro f
  induction f with
  | zero =>
    intro listed a w inv _ hr hy H
    have hun := (mem_ready.1 hr).1
    refine ⟨fun h => (by rw [h] at hr; cases hr), fun j hj => ?_⟩
    have hjn : j < n := Nat.lt_of_not_le fun h => TW _ inv i hin hun j h hj
    refine ⟨hjn, ?_⟩
    by_cases hji : j = i
    · subst hji; exact hy.wpOp hi ⟨fun _ => Below.refl _ w, H⟩
    · have := hdone _ _ _ H j (ready_mono hj hji)
      omega
  | succ f ih =>
    intro listed a w inv hfree hr hy H
    have hun := (mem_ready.1 hr).1
    refine ⟨fun h => (by rw [h] at hr; cases hr), fun j hj => ?_⟩
    have hjn : j < n := Nat.lt_of_not_le fun h => TW _ inv i hin hun j h hj
    refine ⟨hjn, ?_⟩
    by_cases hji : j = i
    · subst hji; exact hy.wpOp hi ⟨fun _ => Below.refl _ w, H⟩
    · have h1 := (H.2 j (ready_mono hj hji)).2
      obtain ⟨hjun, oj, hoj, hall⟩ := mem_ready.1 hj
      have hnot : ∀ e ∈ oj.after, Region.binds md e = true → e.on ≠ i := fun e he hb heq => by
        have h1 := hall e he hb
        rw [heq, getD_both hun] at h1
        cases h1
      have hjS : ST.contains j = false := by
        cases hc : ST.contains j with
        | false => rfl
        | true =>
          obtain ⟨e, he, hb, heq⟩ := hst j (by simpa using hc) oj hoj
          exact absurd heq (hnot e he hb)
      have h2 := wpOp_putN hoj (hfree j oj hoj hji hjun hnot) (fun cs b => hsel i oi cs b hi) (fun cs b => hsel j oj cs b hoj) hQ hy h1
      have hfree' : ∀ k ok, ops[k]? = some ok → k ≠ i → (listed.setIfInBounds j true).getD k true = false →
          (∀ e ∈ ok.after, Region.binds md e = true → e.on ≠ i) → oi.apart ops ok = true := fun k ok hk hki hun' hno => by
        refine hfree k ok hk hki ?_ hno
        by_cases hjk : j = k
        · subst hjk; exact hjun
        · rw [getD_set_ne true hjk] at hun'; exact hun'
      refine wpOp_mono (fun a' w' h3 => ⟨h3.2.1, ih (listed.setIfInBounds j true) a' w' (inv.set hj hjn) hfree' (ready_mono hr (Ne.symm hji)) (h3.1.mono (h3.2.1 hjS)) ?_⟩) h2
      rw [Array.setIfInBounds_comm _ _ hji]
      exact h3.2.2

theorem anyC_pure {Q : Exit → Act → World → Prop} {n i : Nat} {oi : Oper} {v : Value} {L : Array Bool → Act → World → Prop} (hi : ops[i]? = some oi) (hsel : ∀ (j : Nat) (o : Oper) cs b, ops[j]? = some o → o.op ≠ .select cs b)
    {ST : List Nat} (TW : Waits md ops n) (hin : i < n)
    (hdone : ∀ listed a w, L listed a w → ∀ j ∈ Region.ready md ops listed, n ≤ j)
    (hQ : ∀ c a w, Q (.panic c) (a.put oi.dst v) w → Q (.panic c) a w) :
    ∀ (f : Nat) (listed : Array Bool) (a : Act) (w : World), HeadInv md ops n listed →
      (∀ j oj, ops[j]? = some oj → j ≠ i → listed.getD j true = false → (∀ e ∈ oj.after, Region.binds md e = true → e.on ≠ i) → oi.apart ops oj = true) →
      i ∈ Region.ready md ops listed → YieldsP P ops oi v a →
      anyC n0 P md ops Q ST n L f (listed.setIfInBounds i true) (a.put oi.dst v) w → anyC n0 P md ops Q ST n L (f + 1) listed a w := by
  intro f
  induction f with
  | zero =>
    intro listed a w inv _ hr hy H
    have hun := (mem_ready.1 hr).1
    refine ⟨fun h => (by rw [h] at hr; cases hr), fun j hj => ?_⟩
    have hjn : j < n := Nat.lt_of_not_le fun h => TW _ inv i hin hun j h hj
    refine ⟨hjn, ?_⟩
    by_cases hji : j = i
    · subst hji; exact hy.wpOp hi ⟨fun _ => Below.refl _ w, H⟩
    · have := hdone _ _ _ H j (ready_mono hj hji)
      omega
  | succ f ih =>
    intro listed a w inv hfree hr hy H
    have hun := (mem_ready.1 hr).1
    refine ⟨fun h => (by rw [h] at hr; cases hr), fun j hj => ?_⟩
    have hjn : j < n := Nat.lt_of_not_le fun h => TW _ inv i hin hun j h hj
    refine ⟨hjn, ?_⟩
    by_cases hji : j = i
    · subst hji; exact hy.wpOp hi ⟨fun _ => Below.refl _ w, H⟩
    · have h1 := (H.2 j (ready_mono hj hji)).2
      obtain ⟨hjun, oj, hoj, hall⟩ := mem_ready.1 hj
      have hnot : ∀ e ∈ oj.after, Region.binds md e = true → e.on ≠ i := fun e he hb heq => by
        have h1 := hall e he hb
        rw [heq, getD_both hun] at h1
        cases h1
      have h2 := wpOp_putP hoj (hfree j oj hoj hji hjun hnot) (fun cs b => hsel i oi cs b hi) (fun cs b => hsel j oj cs b hoj) hQ hy h1
      have hfree' : ∀ k ok, ops[k]? = some ok → k ≠ i → (listed.setIfInBounds j true).getD k true = false →
          (∀ e ∈ ok.after, Region.binds md e = true → e.on ≠ i) → oi.apart ops ok = true := fun k ok hk hki hun' hno => by
        refine hfree k ok hk hki ?_ hno
        by_cases hjk : j = k
        · subst hjk; exact hjun
        · rw [getD_set_ne true hjk] at hun'; exact hun'
      refine wpOp_mono (fun a' w' h3 => ⟨h3.2.1, ih (listed.setIfInBounds j true) a' w' (inv.set hj hjn) hfree' (ready_mono hr (Ne.symm hji)) h3.1 ?_⟩) h2
      rw [Array.setIfInBounds_comm _ _ hji]
      exact h3.2.2


/-- a plan: i floats (it reads memory); i floats (it reads none); i alone may come; i alone may come and stores; i or j may come -/
inductive Plan where
  | done
  | fl (i : Nat) (p : Plan)
  | fp (i : Nat) (p : Plan)
  | one (i : Nat) (p : Plan)
  | st (i : Nat) (p : Plan)
  | two (i j : Nat) (p q : Plan)
def planB (md : Region.Mode) (ops : Array Oper) (ST : List Nat) (g n : Nat) : Nat → Plan → Array Bool → Bool
  | 0, .done, listed => Region.seqB md ops g n listed
  | f + 1, .fl i p, listed => (Region.ready md ops listed).contains i && Region.free md ops listed i && ((ops[i]?).map (readsB ·.op)).getD false && decide (i < n) && (ST.all fun s => ((ops[s]?).map (fun os => os.after.any fun e => Region.binds md e && e.on == i)).getD true) && planB md ops ST g n f p (listed.setIfInBounds i true)
  | f + 1, .fp i p, listed => (Region.ready md ops listed).contains i && Region.free md ops listed i && ((ops[i]?).map (pureB ·.op)).getD false && decide (i < n) && planB md ops ST g n f p (listed.setIfInBounds i true)
  | f + 1, .one i p, listed => (Region.ready md ops listed == [i]) && decide (i < n) && planB md ops ST g n f p (listed.setIfInBounds i true)
  | f + 1, .st i p, listed => (Region.ready md ops listed == [i]) && decide (i < n) && ST.contains i && planB md ops ST g n f p (listed.setIfInBounds i true)
  | f + 1, .two i j p q, listed => (Region.ready md ops listed == [i, j]) && decide (i < n) && decide (j < n) && planB md ops ST g n f p (listed.setIfInBounds i true) && planB md ops ST g n f q (listed.setIfInBounds j true)
  | _, _, _ => false
/-- the walk along a plan -/
def wpPlan (n0 : Nat) (P : Program) (ops : Array Oper) (Q : Exit → Act → World → Prop) (n : Nat) : Plan → Act → World → Prop
  | .done, a, w => wpList P ops Q (ops.toList.drop n) a w
  | .fl i p, a, w => qOp P ops (Below n0 w) i (fun a' => wpPlan n0 P ops Q n p a' w) a
  | .fp i p, a, w => qOp P ops (Below n0 w) i (fun a' => wpPlan n0 P ops Q n p a' w) a
  | .one i p, a, w => wpOp P ops Q i (fun a' w' => Below n0 w w' ∧ wpPlan n0 P ops Q n p a' w') a w
  | .st i p, a, w => wpOp P ops Q i (fun a' w' => wpPlan n0 P ops Q n p a' w') a w
  | .two i j p q, a, w => wpOp P ops Q i (fun a' w' => Below n0 w w' ∧ wpPlan n0 P ops Q n p a' w') a w ∧ wpOp P ops Q j (fun a' w' => Below n0 w w' ∧ wpPlan n0 P ops Q n q a' w') a w

theorem plan_sound {ST : List Nat} {g n : Nat} {Q : Exit → Act → World → Prop} (hsel : Region.noSelect ops = true) (TW : Waits md ops n) (hQ : ∀ (d : Option Tmp) v c a w, Q (.panic c) (a.put d v) w → Q (.panic c) a w) :
    ∀ (f : Nat) (s : Plan) (listed : Array Bool) (a : Act) (w : World), HeadInv md ops n listed → planB md ops ST g n f s listed = true → wpPlan n0 P ops Q n s a w →
      anyC n0 P md ops Q ST n (fun listed' a' w' => Region.seqB md ops g n listed' = true ∧ wpList P ops Q (ops.toList.drop n) a' w') f listed a w
  | 0, .done, listed, a, w, inv, hB, h => ⟨hB, h⟩
  | f + 1, .fl i r, listed, a, w, inv, hB, h => by
    simp only [planB, Bool.and_eq_true, decide_eq_true_eq] at hB
    obtain ⟨⟨⟨⟨⟨hr, hf⟩, hrd⟩, hin⟩, hst⟩, hB'⟩ := hB
    have hr' : i ∈ Region.ready md ops listed := by simpa using hr
    obtain ⟨_, oi, hoi, _⟩ := mem_ready.1 hr'
    obtain ⟨v, hy, hK⟩ := yieldsIn_of_qOp hoi h
    refine anyC_mem hoi (Region.noSelect_spec hsel) TW (fun s hs os hos => ?_) hin (fun listed' a' w' hL => seqB_ready hL.1) (fun c a w => hQ _ _ c a w) _ listed a w inv (Region.free_spec hoi hf) hr' (YieldsN.of_in (by simpa [hoi] using hrd) hy) (plan_sound hsel TW hQ f r _ _ w (inv.set hr' hin) hB' hK)
    have h1 := List.all_eq_true.1 hst s hs
    rw [hos] at h1
    simp only [Option.map_some, Option.getD_some, Array.any_eq_true', Bool.and_eq_true, beq_iff_eq] at h1
    exact h1
  | f + 1, .fp i r, listed, a, w, inv, hB, h => by
    simp only [planB, Bool.and_eq_true, decide_eq_true_eq] at hB
    obtain ⟨⟨⟨⟨hr, hf⟩, hrd⟩, hin⟩, hB'⟩ := hB
    have hr' : i ∈ Region.ready md ops listed := by simpa using hr
    obtain ⟨_, oi, hoi, _⟩ := mem_ready.1 hr'
    obtain ⟨v, hy, hK⟩ := yieldsIn_of_qOp hoi h
    exact anyC_pure hoi (Region.noSelect_spec hsel) TW hin (fun listed' a' w' hL => seqB_ready hL.1) (fun c a w => hQ _ _ c a w) _ listed a w inv (Region.free_spec hoi hf) hr' (YieldsP.of_in (C := Below n0 w) (Below.refl _ w) (by simpa [hoi] using hrd) hy) (plan_sound hsel TW hQ f r _ _ w (inv.set hr' hin) hB' hK)
  | f + 1, .one i r, listed, a, w, inv, hB, h => by
    simp only [planB, Bool.and_eq_true, beq_iff_eq, decide_eq_true_eq] at hB
    obtain ⟨⟨hr, hin⟩, hB'⟩ := hB
    refine ⟨fun h0 => (by rw [h0] at hr; cases hr), fun j hj => ?_⟩
    have hj0 := hj
    rw [hr] at hj
    obtain rfl : j = i := by simpa using hj
    exact ⟨hin, wpOp_mono (fun a' w' h' => ⟨fun _ => h'.1, plan_sound hsel TW hQ f r _ a' w' (inv.set hj0 hin) hB' h'.2⟩) h⟩
  | f + 1, .st i r, listed, a, w, inv, hB, h => by
    simp only [planB, Bool.and_eq_true, beq_iff_eq, decide_eq_true_eq] at hB
    obtain ⟨⟨⟨hr, hin⟩, hS⟩, hB'⟩ := hB
    refine ⟨fun h0 => (by rw [h0] at hr; cases hr), fun j hj => ?_⟩
    have hj0 := hj
    rw [hr] at hj
    obtain rfl : j = i := by simpa using hj
    exact ⟨hin, wpOp_mono (fun a' w' h' => ⟨fun hc => (by rw [hS] at hc; cases hc), plan_sound hsel TW hQ f r _ a' w' (inv.set hj0 hin) hB' h'⟩) h⟩
  | f + 1, .two i i' r r', listed, a, w, inv, hB, h => by
    simp only [planB, Bool.and_eq_true, beq_iff_eq, decide_eq_true_eq] at hB
    obtain ⟨⟨⟨⟨hr, hin⟩, hin'⟩, hB'⟩, hB''⟩ := hB
    refine ⟨fun h0 => (by rw [h0] at hr; cases hr), fun j hj => ?_⟩
    have hj0 := hj
    rw [hr] at hj
    have hj' : j = i ∨ j = i' := by simpa using hj
    rcases hj' with rfl | rfl
    · exact ⟨hin, wpOp_mono (fun a' w' h' => ⟨fun _ => h'.1, plan_sound hsel TW hQ f r _ a' w' (inv.set hj0 hin) hB' h'.2⟩) h.1⟩
    · exact ⟨hin', wpOp_mono (fun a' w' h' => ⟨fun _ => h'.1, plan_sound hsel TW hQ f r' _ a' w' (inv.set hj0 hin') hB'' h'.2⟩) h.2⟩

theorem waits_of {n : Nat} (h : (decide (n = ops.size) || (decide (n < ops.size) && Region.sinkB md ops n && Region.chainB md ops n)) = true) : Waits md ops n := by
  simp only [Bool.or_eq_true, Bool.and_eq_true, decide_eq_true_eq] at h
  rcases h with h | ⟨⟨hn, hs⟩, hc⟩
  · intro listed _ i _ _ t ht hr
    obtain ⟨_, ot, hot, _⟩ := mem_ready.1 hr
    have := (Array.getElem?_eq_some_iff.1 hot).1
    omega
  · exact fun listed inv i hin hun t ht => tail_waits hs hc hn inv _ i rfl hin hun t ht

/-- A REGION THAT DRAWS ITS ORDER, walked along a plan; from operation n on its order is forced (n may be the number of all). -/
theorem wp_region_plan (n0 : Nat) {id : Nat} {Q : Exit → Act → World → Prop} {a : Act} {w : World} {l : List Oper} (n : Nat) (ST : List Nat) (s : Plan) (hm : P.follows .mixedOrders = true)
    (hB : (Region.noSelect l.toArray && decide (n ≤ l.toArray.size) && (decide (n = l.toArray.size) || (decide (n < l.toArray.size) && Region.sinkB .any l.toArray n && Region.chainB .any l.toArray n)) && planB .any l.toArray ST (l.toArray.size - n) n n s (Array.replicate l.toArray.size false)) = true)
    (h : ∀ w', Below w.heap.size w w' → w'.heap.size = w.heap.size → wpPlan n0 P l.toArray (calm Q) n s a w') : (Code.region id l.toArray true).wp P Q a w := by
  rw [Bool.and_eq_true, Bool.and_eq_true, Bool.and_eq_true, decide_eq_true_eq] at hB
  obtain ⟨⟨⟨hsel, hn⟩, hs⟩, hB⟩ := hB
  refine Code.wp_mono (Q := calm Q) (fun e a w h => by cases e <;> first | exact h | exact h.elim) (wp_region_any hm ?_)
  have hdl : (l.drop n).length = l.toArray.size - n := by simp
  have inv0 : HeadInv .any l.toArray n (Array.replicate l.toArray.size false) :=
    ⟨by simp, fun j oj _ hl => (by rw [getD_replicate_false] at hl; cases hl), fun t _ ht => getD_in (by simpa using ht) (getD_replicate_false _ _)⟩
  have H := plan_sound (P := P) (Q := calm Q) hsel (waits_of hs) (fun _ _ _ _ _ h => h) n s _ a w.drew inv0 hB (h _ (Below.refl _ w).drew rfl)
  have := any_of_anyC (g := l.toArray.size - n) (fun listed' a' w' hL => by
    have := wpAny_of_seq (ops := l.toArray) (md := .any) (Q' := calm Q) (l.drop n) n listed' a' w' (fun j => by simp [List.getElem?_drop]) (by rw [hdl]; exact hL.1) (by simpa using hL.2)
    rwa [hdl] at this) _ _ _ _ H
  rw [show n + (l.toArray.size - n) = l.toArray.size by omega] at this
  exact this

def flAll : List Nat → Plan → Plan
  | [], p => p
  | i :: is, p => .fl i (flAll is p)
def fpAll : List Nat → Plan → Plan
  | [], p => p
  | i :: is, p => .fp i (fpAll is p)
theorem plan_floats {n : Nat} {Q : Exit → Act → World → Prop} {w : World} {r : Plan} : ∀ (is : List Nat) (os : List Oper) {a : Act}, is.mapM (ops[·]?) = some os →
    wpQuiet P ops (Below n0 w) (fun a' => wpPlan n0 P ops Q n r a' w) os a → wpPlan n0 P ops Q n (flAll is r) a w
  | [], os, a, h, hq => by
    simp only [List.mapM_nil, Option.pure_def, Option.some.injEq] at h
    subst h; exact hq
  | i :: is, os, a, h, hq => by
    simp only [List.mapM_cons, Option.bind_eq_bind, Option.bind_eq_some_iff, Option.pure_def, Option.some.injEq] at h
    obtain ⟨o, ho, os', hos, rfl⟩ := h
    show qOp P ops (Below n0 w) i (fun a' => wpPlan n0 P ops Q n (flAll is r) a' w) a
    unfold qOp
    simp only [ho]
    unfold wpQuiet at hq
    split
    · rename_i hw; simp only [hw, if_true] at hq; exact Oper.quiet_mono (fun a' h' => plan_floats is os' hos h') hq
    · rename_i hw; simp only [hw] at hq; exact plan_floats is os' hos hq

theorem plan_pures {n : Nat} {Q : Exit → Act → World → Prop} {w : World} {r : Plan} : ∀ (is : List Nat) (os : List Oper) {a : Act}, is.mapM (ops[·]?) = some os →
    wpQuiet P ops (Below n0 w) (fun a' => wpPlan n0 P ops Q n r a' w) os a → wpPlan n0 P ops Q n (fpAll is r) a w
  | [], os, a, h, hq => by
    simp only [List.mapM_nil, Option.pure_def, Option.some.injEq] at h
    subst h; exact hq
  | i :: is, os, a, h, hq => by
    simp only [List.mapM_cons, Option.bind_eq_bind, Option.bind_eq_some_iff, Option.pure_def, Option.some.injEq] at h
    obtain ⟨o, ho, os', hos, rfl⟩ := h
    show qOp P ops (Below n0 w) i (fun a' => wpPlan n0 P ops Q n (fpAll is r) a' w) a
    unfold qOp
    simp only [ho]
    unfold wpQuiet at hq
    split
    · rename_i hw; simp only [hw, if_true] at hq; exact Oper.quiet_mono (fun a' h' => plan_pures is os' hos h') hq
    · rename_i hw; simp only [hw] at hq; exact plan_pures is os' hos hq

theorem forced_of {n : Nat} {Q : Exit → Act → World → Prop} {a : Act} {w : World} {r : Plan} (i : Nat) {o : Oper} (ho : ops[i]? = some o)
    (h : ∀ K : Exit → Act → World → Prop, (∀ a' w', Below n0 w w' → wpPlan n0 P ops Q n r a' w' → K .normal a' w') → wpList P ops K [o] a w) :
    wpOp P ops Q i (fun a' w' => Below n0 w w' ∧ wpPlan n0 P ops Q n r a' w') a w := by
  have h1 := h (fun e a' w' => match e with | .normal => Below n0 w w' ∧ wpPlan n0 P ops Q n r a' w' | e => Q e a' w') (fun a' w' hb hp => ⟨hb, hp⟩)
  unfold wpOp
  simp only [ho]
  unfold wpList at h1
  split
  · rename_i hw
    simp only [hw, if_true] at h1
    refine h1.imp (fun h2 => ?_) (fun h2 => ⟨h2.1, h2.2⟩)
    unfold Oper.wp at *
    generalize (execOp a.eval o).run P w = x at *
    cases x with
    | ok n w' =>
      cases n <;> simp only [Oper.upon] at h2 ⊢ <;>
        first
          | exact h2
          | exact Calls.mono h2 (fun e w'' he => by cases e <;> exact he)
          | exact Rows.mono h2 (fun _ _ he => he)
    | halt x w' => cases x <;> simp only [Oper.upon] at h2 ⊢ <;> exact h2
  · rename_i hw
    simp only [hw] at h1
    exact h1
theorem stored_of {n : Nat} {Q : Exit → Act → World → Prop} {a : Act} {w : World} {r : Plan} (i : Nat) {o : Oper} (ho : ops[i]? = some o)
    (h : ∀ K : Exit → Act → World → Prop, (∀ a' w', wpPlan n0 P ops Q n r a' w' → K .normal a' w') → wpList P ops K [o] a w) :
    wpOp P ops Q i (fun a' w' => wpPlan n0 P ops Q n r a' w') a w := by
  have h1 := h (fun e a' w' => match e with | .normal => wpPlan n0 P ops Q n r a' w' | e => Q e a' w') (fun a' w' hp => hp)
  unfold wpOp
  simp only [ho]
  unfold wpList at h1
  split
  · rename_i hw
    simp only [hw, if_true] at h1
    refine h1.imp (fun h2 => ?_) (fun h2 => ⟨h2.1, h2.2⟩)
    unfold Oper.wp at *
    generalize (execOp a.eval o).run P w = x at *
    cases x with
    | ok n w' =>
      cases n <;> simp only [Oper.upon] at h2 ⊢ <;>
        first
          | exact h2
          | exact Calls.mono h2 (fun e w'' he => by cases e <;> exact he)
          | exact Rows.mono h2 (fun _ _ he => he)
    | halt x w' => cases x <;> simp only [Oper.upon] at h2 ⊢ <;> exact h2
  · rename_i hw
    simp only [hw] at h1
    exact h1
/-- one forced operation, walked as a list of one, the way on behind a variable -/
theorem plan_one {n : Nat} {Q : Exit → Act → World → Prop} {a : Act} {w : World} {r : Plan} (i : Nat) {o : Oper} (ho : ops[i]? = some o)
    (h : ∀ K : Exit → Act → World → Prop, (∀ a' w', Below n0 w w' → wpPlan n0 P ops Q n r a' w' → K .normal a' w') → wpList P ops K [o] a w) : wpPlan n0 P ops Q n (.one i r) a w := forced_of i ho h
theorem plan_two {n : Nat} {Q : Exit → Act → World → Prop} {a : Act} {w : World} {r r' : Plan} (i j : Nat) {o o' : Oper} (ho : ops[i]? = some o) (ho' : ops[j]? = some o')
    (h : ∀ K : Exit → Act → World → Prop, (∀ a' w', Below n0 w w' → wpPlan n0 P ops Q n r a' w' → K .normal a' w') → wpList P ops K [o] a w)
    (h' : ∀ K : Exit → Act → World → Prop, (∀ a' w', Below n0 w w' → wpPlan n0 P ops Q n r' a' w' → K .normal a' w') → wpList P ops K [o'] a w) : wpPlan n0 P ops Q n (.two i j r r') a w := ⟨forced_of i ho h, forced_of j ho' h'⟩
/-- one forced operation that stores -/
theorem plan_st {n : Nat} {Q : Exit → Act → World → Prop} {a : Act} {w : World} {r : Plan} (i : Nat) {o : Oper} (ho : ops[i]? = some o)
    (h : ∀ K : Exit → Act → World → Prop, (∀ a' w', wpPlan n0 P ops Q n r a' w' → K .normal a' w') → wpList P ops K [o] a w) : wpPlan n0 P ops Q n (.st i r) a w := stored_of i ho h
theorem plan_done {n : Nat} {Q : Exit → Act → World → Prop} {a : Act} {w : World} {l : List Oper} (hl : ops.toList.drop n = l)
    (h : ∀ K : Exit → Act → World → Prop, (∀ a' w', Q .normal a' w' → K .normal a' w') → wpList P ops K l a w) : wpPlan n0 P ops (calm Q) n .done a w := by
  show wpList P ops (calm Q) (ops.toList.drop n) a w
  rw [hl]; exact h _ (fun _ _ h => h)


end
end Nn
end Go.Proofs.YtpekhdahamloaaaGreatDoor

namespace Go.Proofs.YtpekhdahamloaaaGreatDoor
open Go
open Go.RowKit (Below)
namespace Tc
/-- a relation between worlds that steps keep -/
structure Rl where
  r : World → World → Prop
  refl : ∀ w, r w w
  trans : ∀ {a b c}, r a b → r b c → r a c
/-- these blocks stay as they are -/
def Rl.stay (S : Nat → Prop) : Rl := ⟨fun w w' => ∀ k, S k → w'.heap[k]? = w.heap[k]?, fun _ _ _ => rfl, fun h1 h2 k hk => (h2 k hk).trans (h1 k hk)⟩
section
variable {P : Program} {ops : Array Oper} {md : Region.Mode} {n0 : Rl}

/-- operations that only read, slices of arrays among them -/
def readsT : Op → Bool
  | .slice _ _ _ _ _ => true
  | .nilCheck _ => true
  | .call ⟨.builtin .len, _, _⟩ => true
  | o => readsB o
theorem key_value {o : Oper} {a : Act} {C : World → Prop} {w : World} {v : Value} (s : Sem Value) (hs : execOp a.eval o = (do pure (.value (← s)))) (hq : o.quietAt P a C w v) : (execOp a.eval o).run P w = .ok (.value v) w := by
  unfold Oper.quietAt at hq
  rw [hs] at hq ⊢
  simp only [Sem.run_bind] at hq ⊢
  generalize s.run P w = r at *
  cases r with
  | ok u w' => simp only [Result.andThen_ok, Sem.run_pure, Oper.quietUpon] at hq ⊢; obtain ⟨rfl, rfl⟩ := hq; rfl
  | halt x w' => simp only [Result.andThen, Oper.quietUpon] at hq
theorem reads_valueT {o : Oper} {a : Act} {C : World → Prop} {w : World} {v : Value} (h : readsT o.op = true) (hq : o.quietAt P a C w v) : (execOp a.eval o).run P w = .ok (.value v) w := by
  by_cases hr : readsB o.op = true
  · exact reads_value hr hq
  · obtain ⟨dst, op, type, pos, after, guard⟩ := o
    cases op
    case slice => exact key_value _ rfl hq
    case nilCheck x =>
      unfold Oper.quietAt at hq
      have hv : ∀ n w', (execOp a.eval ⟨dst, .nilCheck x, type, pos, after, guard⟩).run P w = .ok n w' → ∃ u, n = .value u := by
        intro n w' h
        unfold execOp at h
        dsimp only at h
        split at h
        · simp [go_sem] at h
        · simp [go_sem] at h
        · simp [go_sem] at h
        · split at h
          · simp [go_sem] at h
          · simp only [Sem.run_bind] at h
            generalize hr0 : Sem.run P _ w = r0 at h
            cases r0 with
            | halt y w2 => simp [Result.andThen] at h
            | ok y w2 =>
              simp only [Result.andThen_ok] at h
              generalize hr2 : Sem.run P _ w2 = r2 at h
              cases r2 with
              | halt y w3 => simp [Result.andThen] at h
              | ok y w3 =>
                simp only [Result.andThen_ok] at h
                split at h
                · simp only [Sem.run_bind] at h
                  generalize hr1 : Sem.run P _ w3 = r1 at h
                  cases r1 with
                  | halt y w4 => simp [Result.andThen] at h
                  | ok y w4 =>
                    simp only [Result.andThen_ok, Sem.run_pure, Result.ok.injEq] at h
                    exact ⟨_, h.1.symm⟩
                · simp only [Sem.run_pure, Result.ok.injEq] at h
                  exact ⟨_, h.1.symm⟩
          · simp only [Sem.run_pure, Result.ok.injEq] at h
            exact ⟨_, h.1.symm⟩
        · simp only [Sem.run_pure, Result.ok.injEq] at h
          exact ⟨_, h.1.symm⟩
      generalize (execOp a.eval ⟨dst, .nilCheck x, type, pos, after, guard⟩).run P w = r at *
      cases r with
      | halt y w' => exact hq.elim
      | ok n w' =>
        obtain ⟨u, rfl⟩ := hv n w' rfl
        obtain ⟨rfl, rfl⟩ := hq
        rfl
    case call c =>
      obtain ⟨callee, args, tys⟩ := c
      cases callee
      case builtin b =>
        cases b
        case len => exact key_value _ rfl hq
        all_goals exact absurd h hr
      all_goals exact absurd h hr
    all_goals exact absurd h hr
/-- operations that read no memory -/
def pureB : Op → Bool
  | .move _ | .assign _ | .extract _ _ => true
  | _ => false
/-- the same value in every world -/
def YieldsP (P : Program) (ops : Array Oper) (o : Oper) (v : Value) (a : Act) : Prop :=
  (Region.wanted o (yielded ops a.tmps) = true ∧ ∀ W, (execOp a.eval o).run P W = .ok (.value v) W) ∨
  (Region.wanted o (yielded ops a.tmps) = false ∧ v = undef)
theorem YieldsP.of_same {o : Oper} {v : Value} {a a' : Act} (hy : YieldsP P ops o v a) (he : execOp a'.eval o = execOp a.eval o)
    (hw : Region.wanted o (yielded ops a'.tmps) = Region.wanted o (yielded ops a.tmps)) : YieldsP P ops o v a' := by
  unfold YieldsP at *
  rw [he, hw]
  exact hy
theorem pure_value {o : Oper} {a : Act} {C : World → Prop} {w : World} {v : Value} (h : pureB o.op = true) (hq : o.quietAt P a C w v) : ∀ W, (execOp a.eval o).run P W = .ok (.value v) W := by
  obtain ⟨dst, op, type, pos, after, guard⟩ := o
  intro W
  cases op <;> first | (simp only [pureB] at h; done) | (cases h; done) | skip
  case extract t k =>
    unfold Oper.quietAt at hq
    simp only [execOp, Instr.extract, Sem.run_bind] at hq ⊢
    generalize a.eval t = u at hq ⊢
    have stk : ∀ (s : String) (W : World), ∃ x, (stuck s : Sem Value).run P W = .halt x W := fun s W => ⟨_, rfl⟩
    cases u
    case tuple vs =>
      dsimp only at hq ⊢
      cases he : vs[k]? with
      | none =>
        obtain ⟨x, hx⟩ := stk "Extract: no such component" w
        rw [he] at hq; dsimp only at hq; rw [hx] at hq
        exact absurd hq (by simp [Oper.quietUpon, Result.andThen])
      | some y =>
        rw [he] at hq; dsimp only at hq ⊢
        simp only [Sem.run_pure, Result.andThen_ok, Oper.quietUpon] at hq ⊢
        rw [hq.2]
    all_goals
      obtain ⟨x, hx⟩ := stk "Extract: tuple expected" w
      dsimp only at hq; rw [hx] at hq
      exact absurd hq (by simp [Oper.quietUpon, Result.andThen])
  all_goals
    unfold Oper.quietAt at hq
    simp only [execOp, Sem.run_pure, Oper.quietUpon] at hq ⊢
    rw [hq.2]
theorem YieldsP.of_in {o : Oper} {v : Value} {a : Act} {C : World → Prop} {w : World} (hw : C w) (h : pureB o.op = true) (hy : YieldsIn P ops C o v a) : YieldsP P ops o v a :=
  hy.imp (fun ⟨h1, h2⟩ => ⟨h1, pure_value h (h2 w hw)⟩) id
theorem YieldsP.wpOp {Q : Exit → Act → World → Prop} {i : Nat} {o : Oper} {v : Value} {a : Act} {w : World} (hi : ops[i]? = some o) (hy : YieldsP P ops o v a)
    {K : Act → World → Prop} (h : K (a.put o.dst v) w) : Go.wpOp P ops Q i K a w := by
  unfold Go.wpOp
  simp only [hi]
  rcases hy with ⟨hw, hv⟩ | ⟨hw, rfl⟩
  · simp only [hw, if_true, Oper.wp, hv w, Oper.upon]; exact .inl h
  · simp only [hw, Bool.false_eq_true, if_false]; exact h
theorem wpOp_putP {Q : Exit → Act → World → Prop} {j : Nat} {oi oj : Oper} {v : Value} (hj : ops[j]? = some oj) (hap : oi.apart ops oj = true)
    (hsi : ∀ cs b, oi.op ≠ .select cs b) (hsj : ∀ cs b, oj.op ≠ .select cs b)
    (hQ : ∀ c a w, Q (.panic c) (a.put oi.dst v) w → Q (.panic c) a w) {K : Act → World → Prop} {a : Act} {w : World}
    (hy : YieldsP P ops oi v a) (h : wpOp P ops Q j K (a.put oi.dst v) w) :
    wpOp P ops Q j (fun a' w' => YieldsP P ops oi v a' ∧ K (a'.put oi.dst v) w') a w := by
  obtain ⟨h1, h2, h3⟩ := Oper.apart_spec hap
  have keep : ∀ (a : Act), YieldsP P ops oi v a → ∀ u, YieldsP P ops oi v (a.put oj.dst u) := fun a hy u =>
    hy.of_same (execOp_put oi hsi a oj.dst u h3) (wanted_put oi a oj.dst u h3)
  have keepD : ∀ d, YieldsP P ops oi v { a with defers := d :: a.defers } := fun d => hy.of_same rfl rfl
  unfold wpOp at *
  simp only [hj] at *
  rw [wanted_put oj a oi.dst v h1] at h
  split
  · rename_i hw
    simp only [hw, if_true] at h
    rcases h with h | ⟨hasks, hlets⟩
    case inr => exact .inr ⟨by unfold Oper.asks at *; rw [execOp_put oj hsj a oi.dst v h1] at hasks; exact hasks, hlets⟩
    refine .inl ?_
    unfold Oper.wp at *
    rw [execOp_put oj hsj a oi.dst v h1] at h
    generalize (execOp a.eval oj).run P w = r at *
    cases r with
    | ok n w' =>
      cases n <;> simp only [Oper.upon] at h ⊢
      case value u => exact ⟨keep a hy u, by rw [← Act.put_comm a v u h2]; exact h⟩
      case skip => exact ⟨keep a hy _, by rw [← Act.put_comm a v undef h2]; exact h⟩
      case defer d =>
        refine ⟨keep _ (keepD d) _, ?_⟩
        rw [← Act.put_comm _ v undef h2, ← Act.put_defers]
        exact h
      case enter f args =>
        refine Calls.mono h fun e w'' he => ?_
        cases e with
        | returned u => exact ⟨keep a hy u, by rw [← Act.put_comm a v u h2]; exact he⟩
        | panicked c => exact hQ _ _ _ he
        | outgrown => exact he
      case row row args => exact Rows.mono h fun u w'' he => ⟨keep a hy u, by rw [← Act.put_comm a v u h2]; exact he⟩
    | halt x w' =>
      cases x <;> simp only [Oper.upon] at h ⊢
      case panic u => exact hQ _ _ _ h
  · rename_i hw
    simp only [hw] at h
    exact ⟨keep a hy _, by rw [← Act.put_comm a v undef h2]; exact h⟩


/-- the same value in every world that has new blocks and draws beside w -/
def YieldsN (n0 : Rl) (P : Program) (ops : Array Oper) (o : Oper) (v : Value) (a : Act) (w : World) : Prop :=
  (Region.wanted o (yielded ops a.tmps) = true ∧ ∀ W, n0.r w W → (execOp a.eval o).run P W = .ok (.value v) W) ∨
  (Region.wanted o (yielded ops a.tmps) = false ∧ v = undef)

theorem YieldsN.mono {o : Oper} {v : Value} {a : Act} {w w' : World} (h : YieldsN n0 P ops o v a w) (hb : n0.r w w') : YieldsN n0 P ops o v a w' :=
  h.imp (fun ⟨h1, h2⟩ => ⟨h1, fun W hW => h2 W (n0.trans hb hW)⟩) id

theorem YieldsN.of_same {o : Oper} {v : Value} {a a' : Act} {w : World} (hy : YieldsN n0 P ops o v a w) (he : execOp a'.eval o = execOp a.eval o)
    (hw : Region.wanted o (yielded ops a'.tmps) = Region.wanted o (yielded ops a.tmps)) : YieldsN n0 P ops o v a' w := by
  unfold YieldsN at *
  rw [he, hw]
  exact hy

theorem YieldsN.of_in {o : Oper} {v : Value} {a : Act} {w : World} (h : readsT o.op = true) (hy : YieldsIn P ops (n0.r w) o v a) : YieldsN n0 P ops o v a w :=
  hy.imp (fun ⟨h1, h2⟩ => ⟨h1, fun W hW => reads_valueT h (h2 W hW)⟩) id

theorem YieldsN.wpOp {Q : Exit → Act → World → Prop} {i : Nat} {o : Oper} {v : Value} {a : Act} {w : World} (hi : ops[i]? = some o) (hy : YieldsN n0 P ops o v a w)
    {K : Act → World → Prop} (h : K (a.put o.dst v) w) : Go.wpOp P ops Q i K a w := by
  unfold Go.wpOp
  simp only [hi]
  rcases hy with ⟨hw, hv⟩ | ⟨hw, rfl⟩
  · simp only [hw, if_true, Oper.wp, hv w (n0.refl w), Oper.upon]; exact .inl h
  · simp only [hw, Bool.false_eq_true, if_false]; exact h

theorem wpOp_putN {Q : Exit → Act → World → Prop} {j : Nat} {oi oj : Oper} {v : Value} {w0 : World} (hj : ops[j]? = some oj) (hap : oi.apart ops oj = true)
    (hsi : ∀ cs b, oi.op ≠ .select cs b) (hsj : ∀ cs b, oj.op ≠ .select cs b)
    (hQ : ∀ c a w, Q (.panic c) (a.put oi.dst v) w → Q (.panic c) a w) {K : Act → World → Prop} {a : Act} {w : World}
    (hy : YieldsN n0 P ops oi v a w0) (h : wpOp P ops Q j K (a.put oi.dst v) w) :
    wpOp P ops Q j (fun a' w' => YieldsN n0 P ops oi v a' w0 ∧ K (a'.put oi.dst v) w') a w := by
  obtain ⟨h1, h2, h3⟩ := Oper.apart_spec hap
  have keep : ∀ (a : Act), YieldsN n0 P ops oi v a w0 → ∀ u, YieldsN n0 P ops oi v (a.put oj.dst u) w0 := fun a hy u =>
    hy.of_same (execOp_put oi hsi a oj.dst u h3) (wanted_put oi a oj.dst u h3)
  have keepD : ∀ d, YieldsN n0 P ops oi v { a with defers := d :: a.defers } w0 := fun d => hy.of_same rfl rfl
  unfold wpOp at *
  simp only [hj] at *
  rw [wanted_put oj a oi.dst v h1] at h
  split
  · rename_i hw
    simp only [hw, if_true] at h
    rcases h with h | ⟨hasks, hlets⟩
    case inr => exact .inr ⟨by unfold Oper.asks at *; rw [execOp_put oj hsj a oi.dst v h1] at hasks; exact hasks, hlets⟩
    refine .inl ?_
    unfold Oper.wp at *
    rw [execOp_put oj hsj a oi.dst v h1] at h
    generalize (execOp a.eval oj).run P w = r at *
    cases r with
    | ok n w' =>
      cases n <;> simp only [Oper.upon] at h ⊢
      case value u => exact ⟨keep a hy u, by rw [← Act.put_comm a v u h2]; exact h⟩
      case skip => exact ⟨keep a hy _, by rw [← Act.put_comm a v undef h2]; exact h⟩
      case defer d =>
        refine ⟨keep _ (keepD d) _, ?_⟩
        rw [← Act.put_comm _ v undef h2, ← Act.put_defers]
        exact h
      case enter f args =>
        refine Calls.mono h fun e w'' he => ?_
        cases e with
        | returned u => exact ⟨keep a hy u, by rw [← Act.put_comm a v u h2]; exact he⟩
        | panicked c => exact hQ _ _ _ he
        | outgrown => exact he
      case row row args => exact Rows.mono h fun u w'' he => ⟨keep a hy u, by rw [← Act.put_comm a v u h2]; exact he⟩
    | halt x w' =>
      cases x <;> simp only [Oper.upon] at h ⊢
      case panic u => exact hQ _ _ _ h
  · rename_i hw
    simp only [hw] at h
    exact ⟨keep a hy _, by rw [← Act.put_comm a v undef h2]; exact h⟩

/-- the operations below n in whatever order, each but those of ST keeping what lies below; behind them L -/
def anyC (n0 : Rl) (P : Program) (md : Region.Mode) (ops : Array Oper) (Q : Exit → Act → World → Prop) (ST : List Nat) (n : Nat) (L : Array Bool → Act → World → Prop) : Nat → Array Bool → Act → World → Prop
  | 0, listed, a, w => L listed a w
  | f + 1, listed, a, w =>
    Region.ready md ops listed ≠ [] ∧
    ∀ i ∈ Region.ready md ops listed, i < n ∧ wpOp P ops Q i (fun a' w' => (ST.contains i = false → n0.r w w') ∧ anyC n0 P md ops Q ST n L f (listed.setIfInBounds i true) a' w') a w
theorem any_of_anyC {ST : List Nat} {n g : Nat} {L : Array Bool → Act → World → Prop} {Q : Exit → Act → World → Prop} (hL : ∀ listed a w, L listed a w → wpAny P md ops Q g listed a w) :
    ∀ (f : Nat) (listed : Array Bool) (a : Act) (w : World), anyC n0 P md ops Q ST n L f listed a w → wpAny P md ops Q (f + g) listed a w
  | 0, listed, a, w, h => by rw [Nat.zero_add]; exact hL _ _ _ h
  | f + 1, listed, a, w, h => by
    rw [show f + 1 + g = (f + g) + 1 by omega]
    exact ⟨fun h0 => absurd h0 h.1, fun i hi => wpOp_mono (fun a' w' h' => any_of_anyC hL f _ a' w' h'.2) (h.2 i hi).2⟩
abbrev Waits (md : Region.Mode) (ops : Array Oper) (n : Nat) : Prop := ∀ listed, HeadInv md ops n listed → ∀ i, i < n → listed.getD i true = false → ∀ t, n ≤ t → t ∉ Region.ready md ops listed
theorem anyC_mem {Q : Exit → Act → World → Prop} {n i : Nat} {oi : Oper} {v : Value} {L : Array Bool → Act → World → Prop} (hi : ops[i]? = some oi) (hsel : ∀ (j : Nat) (o : Oper) cs b, ops[j]? = some o → o.op ≠ .select cs b)
    {ST : List Nat} (TW : Waits md ops n) (hst : ∀ s ∈ ST, ∀ os, ops[s]? = some os → ∃ e ∈ os.after, Region.binds md e = true ∧ e.on = i) (hin : i < n)
    (hdone : ∀ listed a w, L listed a w → ∀ j ∈ Region.ready md ops listed, n ≤ j)
    (hQ : ∀ c a w, Q (.panic c) (a.put oi.dst v) w → Q (.panic c) a w) :
    ∀ (f : Nat) (listed : Array Bool) (a : Act) (w : World), HeadInv md ops n listed →
      (∀ j oj, ops[j]? = some oj → j ≠ i → listed.getD j true = false → (∀ e ∈ oj.after, Region.binds md e = true → e.on ≠ i) → oi.apart ops oj = true) →
      i ∈ Region.ready md ops listed → YieldsN n0 P ops oi v a w →
      anyC n0 P md ops Q ST n L f (listed.setIfInBounds i true) (a.put oi.dst v) w → anyC n0 P md ops Q ST n L (f + 1) listed a w := by
  intro f
  induction f with
  | zero =>
    intro listed a w inv _ hr hy H
    have hun := (mem_ready.1 hr).1
    refine ⟨fun h => (by rw [h] at hr; cases hr), fun j hj => ?_⟩
    have hjn : j < n := Nat.lt_of_not_le fun h => TW _ inv i hin hun j h hj
    refine ⟨hjn, ?_⟩
    by_cases hji : j = i
    · subst hji; exact hy.wpOp hi ⟨fun _ => n0.refl w, H⟩
    · have := hdone _ _ _ H j (ready_mono hj hji)
      omega
  | succ f ih =>
    intro listed a w inv hfree hr hy H
    have hun := (mem_ready.1 hr).1
    refine ⟨fun h => (by rw [h] at hr; cases hr), fun j hj => ?_⟩
    have hjn : j < n := Nat.lt_of_not_le fun h => TW _ inv i hin hun j h hj
    refine ⟨hjn, ?_⟩
    by_cases hji : j = i
    · subst hji; exact hy.wpOp hi ⟨fun _ => n0.refl w, H⟩
    · have h1 := (H.2 j (ready_mono hj hji)).2
      obtain ⟨hjun, oj, hoj, hall⟩ := mem_ready.1 hj
      have hnot : ∀ e ∈ oj.after, Region.binds md e = true → e.on ≠ i := fun e he hb heq => by
        have h1 := hall e he hb
        rw [heq, getD_both hun] at h1
        cases h1
      have hjS : ST.contains j = false := by
        cases hc : ST.contains j with
        | false => rfl
        | true =>
          obtain ⟨e, he, hb, heq⟩ := hst j (by simpa using hc) oj hoj
          exact absurd heq (hnot e he hb)
      have h2 := wpOp_putN hoj (hfree j oj hoj hji hjun hnot) (fun cs b => hsel i oi cs b hi) (fun cs b => hsel j oj cs b hoj) hQ hy h1
      have hfree' : ∀ k ok, ops[k]? = some ok → k ≠ i → (listed.setIfInBounds j true).getD k true = false →
          (∀ e ∈ ok.after, Region.binds md e = true → e.on ≠ i) → oi.apart ops ok = true := fun k ok hk hki hun' hno => by
        refine hfree k ok hk hki ?_ hno
        by_cases hjk : j = k
        · subst hjk; exact hjun
        · rw [getD_set_ne true hjk] at hun'; exact hun'
      refine wpOp_mono (fun a' w' h3 => ⟨h3.2.1, ih (listed.setIfInBounds j true) a' w' (inv.set hj hjn) hfree' (ready_mono hr (Ne.symm hji)) (h3.1.mono (h3.2.1 hjS)) ?_⟩) h2
      rw [Array.setIfInBounds_comm _ _ hji]
      exact h3.2.2

theorem anyC_pure {Q : Exit → Act → World → Prop} {n i : Nat} {oi : Oper} {v : Value} {L : Array Bool → Act → World → Prop} (hi : ops[i]? = some oi) (hsel : ∀ (j : Nat) (o : Oper) cs b, ops[j]? = some o → o.op ≠ .select cs b)
    {ST : List Nat} (TW : Waits md ops n) (hin : i < n)
    (hdone : ∀ listed a w, L listed a w → ∀ j ∈ Region.ready md ops listed, n ≤ j)
    (hQ : ∀ c a w, Q (.panic c) (a.put oi.dst v) w → Q (.panic c) a w) :
    ∀ (f : Nat) (listed : Array Bool) (a : Act) (w : World), HeadInv md ops n listed →
      (∀ j oj, ops[j]? = some oj → j ≠ i → listed.getD j true = false → (∀ e ∈ oj.after, Region.binds md e = true → e.on ≠ i) → oi.apart ops oj = true) →
      i ∈ Region.ready md ops listed → YieldsP P ops oi v a →
      anyC n0 P md ops Q ST n L f (listed.setIfInBounds i true) (a.put oi.dst v) w → anyC n0 P md ops Q ST n L (f + 1) listed a w := by
  intro f
  induction f with
  | zero =>
    intro listed a w inv _ hr hy H
    have hun := (mem_ready.1 hr).1
    refine ⟨fun h => (by rw [h] at hr; cases hr), fun j hj => ?_⟩
    have hjn : j < n := Nat.lt_of_not_le fun h => TW _ inv i hin hun j h hj
    refine ⟨hjn, ?_⟩
    by_cases hji : j = i
    · subst hji; exact hy.wpOp hi ⟨fun _ => n0.refl w, H⟩
    · have := hdone _ _ _ H j (ready_mono hj hji)
      omega
  | succ f ih =>
    intro listed a w inv hfree hr hy H
    have hun := (mem_ready.1 hr).1
    refine ⟨fun h => (by rw [h] at hr; cases hr), fun j hj => ?_⟩
    have hjn : j < n := Nat.lt_of_not_le fun h => TW _ inv i hin hun j h hj
    refine ⟨hjn, ?_⟩
    by_cases hji : j = i
    · subst hji; exact hy.wpOp hi ⟨fun _ => n0.refl w, H⟩
    · have h1 := (H.2 j (ready_mono hj hji)).2
      obtain ⟨hjun, oj, hoj, hall⟩ := mem_ready.1 hj
      have hnot : ∀ e ∈ oj.after, Region.binds md e = true → e.on ≠ i := fun e he hb heq => by
        have h1 := hall e he hb
        rw [heq, getD_both hun] at h1
        cases h1
      have h2 := wpOp_putP hoj (hfree j oj hoj hji hjun hnot) (fun cs b => hsel i oi cs b hi) (fun cs b => hsel j oj cs b hoj) hQ hy h1
      have hfree' : ∀ k ok, ops[k]? = some ok → k ≠ i → (listed.setIfInBounds j true).getD k true = false →
          (∀ e ∈ ok.after, Region.binds md e = true → e.on ≠ i) → oi.apart ops ok = true := fun k ok hk hki hun' hno => by
        refine hfree k ok hk hki ?_ hno
        by_cases hjk : j = k
        · subst hjk; exact hjun
        · rw [getD_set_ne true hjk] at hun'; exact hun'
      refine wpOp_mono (fun a' w' h3 => ⟨h3.2.1, ih (listed.setIfInBounds j true) a' w' (inv.set hj hjn) hfree' (ready_mono hr (Ne.symm hji)) h3.1 ?_⟩) h2
      rw [Array.setIfInBounds_comm _ _ hji]
      exact h3.2.2


/-- a plan: i floats (it reads memory); i floats (it reads none); i alone may come; i alone may come and stores; i or j may come -/
inductive Plan where
  | done
  | fl (i : Nat) (p : Plan)
  | fp (i : Nat) (p : Plan)
  | one (i : Nat) (p : Plan)
  | st (i : Nat) (p : Plan)
  | two (i j : Nat) (p q : Plan)
  | tri (i j k : Nat) (p q r : Plan)
def planB (md : Region.Mode) (ops : Array Oper) (ST : List Nat) (g n : Nat) : Nat → Plan → Array Bool → Bool
  | 0, .done, listed => Region.seqB md ops g n listed
  | f + 1, .fl i p, listed => (Region.ready md ops listed).contains i && Region.free md ops listed i && ((ops[i]?).map (readsT ·.op)).getD false && decide (i < n) && (ST.all fun s => ((ops[s]?).map (fun os => os.after.any fun e => Region.binds md e && e.on == i)).getD true) && planB md ops ST g n f p (listed.setIfInBounds i true)
  | f + 1, .fp i p, listed => (Region.ready md ops listed).contains i && Region.free md ops listed i && ((ops[i]?).map (pureB ·.op)).getD false && decide (i < n) && planB md ops ST g n f p (listed.setIfInBounds i true)
  | f + 1, .one i p, listed => (Region.ready md ops listed == [i]) && decide (i < n) && planB md ops ST g n f p (listed.setIfInBounds i true)
  | f + 1, .st i p, listed => (Region.ready md ops listed == [i]) && decide (i < n) && ST.contains i && planB md ops ST g n f p (listed.setIfInBounds i true)
  | f + 1, .two i j p q, listed => (Region.ready md ops listed == [i, j]) && decide (i < n) && decide (j < n) && planB md ops ST g n f p (listed.setIfInBounds i true) && planB md ops ST g n f q (listed.setIfInBounds j true)
  | f + 1, .tri i j k p q r, listed => (Region.ready md ops listed == [i, j, k]) && decide (i < n) && decide (j < n) && decide (k < n) && planB md ops ST g n f p (listed.setIfInBounds i true) && planB md ops ST g n f q (listed.setIfInBounds j true) && planB md ops ST g n f r (listed.setIfInBounds k true)
  | _, _, _ => false
/-- the walk along a plan -/
def wpPlan (n0 : Rl) (P : Program) (ops : Array Oper) (Q : Exit → Act → World → Prop) (n : Nat) : Plan → Act → World → Prop
  | .done, a, w => wpList P ops Q (ops.toList.drop n) a w
  | .fl i p, a, w => qOp P ops (n0.r w) i (fun a' => wpPlan n0 P ops Q n p a' w) a
  | .fp i p, a, w => qOp P ops (n0.r w) i (fun a' => wpPlan n0 P ops Q n p a' w) a
  | .one i p, a, w => wpOp P ops Q i (fun a' w' => n0.r w w' ∧ wpPlan n0 P ops Q n p a' w') a w
  | .st i p, a, w => wpOp P ops Q i (fun a' w' => wpPlan n0 P ops Q n p a' w') a w
  | .two i j p q, a, w => wpOp P ops Q i (fun a' w' => n0.r w w' ∧ wpPlan n0 P ops Q n p a' w') a w ∧ wpOp P ops Q j (fun a' w' => n0.r w w' ∧ wpPlan n0 P ops Q n q a' w') a w
  | .tri i j k p q r, a, w => wpOp P ops Q i (fun a' w' => n0.r w w' ∧ wpPlan n0 P ops Q n p a' w') a w ∧ wpOp P ops Q j (fun a' w' => n0.r w w' ∧ wpPlan n0 P ops Q n q a' w') a w ∧ wpOp P ops Q k (fun a' w' => n0.r w w' ∧ wpPlan n0 P ops Q n r a' w') a w

theorem plan_sound {ST : List Nat} {g n : Nat} {Q : Exit → Act → World → Prop} (hsel : Region.noSelect ops = true) (TW : Waits md ops n) (hQ : ∀ (d : Option Tmp) v c a w, Q (.panic c) (a.put d v) w → Q (.panic c) a w) :
    ∀ (f : Nat) (s : Plan) (listed : Array Bool) (a : Act) (w : World), HeadInv md ops n listed → planB md ops ST g n f s listed = true → wpPlan n0 P ops Q n s a w →
      anyC n0 P md ops Q ST n (fun listed' a' w' => Region.seqB md ops g n listed' = true ∧ wpList P ops Q (ops.toList.drop n) a' w') f listed a w
  | 0, .done, listed, a, w, inv, hB, h => ⟨hB, h⟩
  | f + 1, .fl i r, listed, a, w, inv, hB, h => by
    simp only [planB, Bool.and_eq_true, decide_eq_true_eq] at hB
    obtain ⟨⟨⟨⟨⟨hr, hf⟩, hrd⟩, hin⟩, hst⟩, hB'⟩ := hB
    have hr' : i ∈ Region.ready md ops listed := by simpa using hr
    obtain ⟨_, oi, hoi, _⟩ := mem_ready.1 hr'
    obtain ⟨v, hy, hK⟩ := yieldsIn_of_qOp hoi h
    refine anyC_mem hoi (Region.noSelect_spec hsel) TW (fun s hs os hos => ?_) hin (fun listed' a' w' hL => seqB_ready hL.1) (fun c a w => hQ _ _ c a w) _ listed a w inv (Region.free_spec hoi hf) hr' (YieldsN.of_in (by simpa [hoi] using hrd) hy) (plan_sound hsel TW hQ f r _ _ w (inv.set hr' hin) hB' hK)
    have h1 := List.all_eq_true.1 hst s hs
    rw [hos] at h1
    simp only [Option.map_some, Option.getD_some, Array.any_eq_true', Bool.and_eq_true, beq_iff_eq] at h1
    exact h1
  | f + 1, .fp i r, listed, a, w, inv, hB, h => by
    simp only [planB, Bool.and_eq_true, decide_eq_true_eq] at hB
    obtain ⟨⟨⟨⟨hr, hf⟩, hrd⟩, hin⟩, hB'⟩ := hB
    have hr' : i ∈ Region.ready md ops listed := by simpa using hr
    obtain ⟨_, oi, hoi, _⟩ := mem_ready.1 hr'
    obtain ⟨v, hy, hK⟩ := yieldsIn_of_qOp hoi h
    exact anyC_pure hoi (Region.noSelect_spec hsel) TW hin (fun listed' a' w' hL => seqB_ready hL.1) (fun c a w => hQ _ _ c a w) _ listed a w inv (Region.free_spec hoi hf) hr' (YieldsP.of_in (C := n0.r w) (n0.refl w) (by simpa [hoi] using hrd) hy) (plan_sound hsel TW hQ f r _ _ w (inv.set hr' hin) hB' hK)
  | f + 1, .one i r, listed, a, w, inv, hB, h => by
    simp only [planB, Bool.and_eq_true, beq_iff_eq, decide_eq_true_eq] at hB
    obtain ⟨⟨hr, hin⟩, hB'⟩ := hB
    refine ⟨fun h0 => (by rw [h0] at hr; cases hr), fun j hj => ?_⟩
    have hj0 := hj
    rw [hr] at hj
    obtain rfl : j = i := by simpa using hj
    exact ⟨hin, wpOp_mono (fun a' w' h' => ⟨fun _ => h'.1, plan_sound hsel TW hQ f r _ a' w' (inv.set hj0 hin) hB' h'.2⟩) h⟩
  | f + 1, .st i r, listed, a, w, inv, hB, h => by
    simp only [planB, Bool.and_eq_true, beq_iff_eq, decide_eq_true_eq] at hB
    obtain ⟨⟨⟨hr, hin⟩, hS⟩, hB'⟩ := hB
    refine ⟨fun h0 => (by rw [h0] at hr; cases hr), fun j hj => ?_⟩
    have hj0 := hj
    rw [hr] at hj
    obtain rfl : j = i := by simpa using hj
    exact ⟨hin, wpOp_mono (fun a' w' h' => ⟨fun hc => (by rw [hS] at hc; cases hc), plan_sound hsel TW hQ f r _ a' w' (inv.set hj0 hin) hB' h'⟩) h⟩
  | f + 1, .two i i' r r', listed, a, w, inv, hB, h => by
    simp only [planB, Bool.and_eq_true, beq_iff_eq, decide_eq_true_eq] at hB
    obtain ⟨⟨⟨⟨hr, hin⟩, hin'⟩, hB'⟩, hB''⟩ := hB
    refine ⟨fun h0 => (by rw [h0] at hr; cases hr), fun j hj => ?_⟩
    have hj0 := hj
    rw [hr] at hj
    have hj' : j = i ∨ j = i' := by simpa using hj
    rcases hj' with rfl | rfl
    · exact ⟨hin, wpOp_mono (fun a' w' h' => ⟨fun _ => h'.1, plan_sound hsel TW hQ f r _ a' w' (inv.set hj0 hin) hB' h'.2⟩) h.1⟩
    · exact ⟨hin', wpOp_mono (fun a' w' h' => ⟨fun _ => h'.1, plan_sound hsel TW hQ f r' _ a' w' (inv.set hj0 hin') hB'' h'.2⟩) h.2⟩
  | f + 1, .tri i i2 i3 r r2 r3, listed, a, w, inv, hB, h => by
    simp only [planB, Bool.and_eq_true, beq_iff_eq, decide_eq_true_eq] at hB
    obtain ⟨⟨⟨⟨⟨⟨hr, hin⟩, hin2⟩, hin3⟩, hB1⟩, hB2⟩, hB3⟩ := hB
    refine ⟨fun h0 => (by rw [h0] at hr; cases hr), fun j hj => ?_⟩
    have hj0 := hj
    rw [hr] at hj
    have hj' : j = i ∨ j = i2 ∨ j = i3 := by simpa using hj
    rcases hj' with rfl | rfl | rfl
    · exact ⟨hin, wpOp_mono (fun a' w' h' => ⟨fun _ => h'.1, plan_sound hsel TW hQ f r _ a' w' (inv.set hj0 hin) hB1 h'.2⟩) h.1⟩
    · exact ⟨hin2, wpOp_mono (fun a' w' h' => ⟨fun _ => h'.1, plan_sound hsel TW hQ f r2 _ a' w' (inv.set hj0 hin2) hB2 h'.2⟩) h.2.1⟩
    · exact ⟨hin3, wpOp_mono (fun a' w' h' => ⟨fun _ => h'.1, plan_sound hsel TW hQ f r3 _ a' w' (inv.set hj0 hin3) hB3 h'.2⟩) h.2.2⟩

theorem waits_of {n : Nat} (h : (decide (n = ops.size) || (decide (n < ops.size) && Region.sinkB md ops n && Region.chainB md ops n)) = true) : Waits md ops n := by
  simp only [Bool.or_eq_true, Bool.and_eq_true, decide_eq_true_eq] at h
  rcases h with h | ⟨⟨hn, hs⟩, hc⟩
  · intro listed _ i _ _ t ht hr
    obtain ⟨_, ot, hot, _⟩ := mem_ready.1 hr
    have := (Array.getElem?_eq_some_iff.1 hot).1
    omega
  · exact fun listed inv i hin hun t ht => tail_waits hs hc hn inv _ i rfl hin hun t ht

/-- A REGION THAT DRAWS ITS ORDER, walked along a plan; from operation n on its order is forced (n may be the number of all). -/
theorem wp_region_plan (n0 : Rl) {id : Nat} {Q : Exit → Act → World → Prop} {a : Act} {w : World} {l : List Oper} (n : Nat) (ST : List Nat) (s : Plan) (hm : P.follows .mixedOrders = true)
    (hB : (Region.noSelect l.toArray && decide (n ≤ l.toArray.size) && (decide (n = l.toArray.size) || (decide (n < l.toArray.size) && Region.sinkB .any l.toArray n && Region.chainB .any l.toArray n)) && planB .any l.toArray ST (l.toArray.size - n) n n s (Array.replicate l.toArray.size false)) = true)
    (h : ∀ w', Below w.heap.size w w' → w'.heap.size = w.heap.size → wpPlan n0 P l.toArray (calm Q) n s a w') : (Code.region id l.toArray true).wp P Q a w := by
  rw [Bool.and_eq_true, Bool.and_eq_true, Bool.and_eq_true, decide_eq_true_eq] at hB
  obtain ⟨⟨⟨hsel, hn⟩, hs⟩, hB⟩ := hB
  refine Code.wp_mono (Q := calm Q) (fun e a w h => by cases e <;> first | exact h | exact h.elim) (wp_region_any hm ?_)
  have hdl : (l.drop n).length = l.toArray.size - n := by simp
  have inv0 : HeadInv .any l.toArray n (Array.replicate l.toArray.size false) :=
    ⟨by simp, fun j oj _ hl => (by rw [getD_replicate_false] at hl; cases hl), fun t _ ht => getD_in (by simpa using ht) (getD_replicate_false _ _)⟩
  have H := plan_sound (P := P) (Q := calm Q) hsel (waits_of hs) (fun _ _ _ _ _ h => h) n s _ a w.drew inv0 hB (h _ (Below.refl _ w).drew rfl)
  have := any_of_anyC (g := l.toArray.size - n) (fun listed' a' w' hL => by
    have := wpAny_of_seq (ops := l.toArray) (md := .any) (Q' := calm Q) (l.drop n) n listed' a' w' (fun j => by simp [List.getElem?_drop]) (by rw [hdl]; exact hL.1) (by simpa using hL.2)
    rwa [hdl] at this) _ _ _ _ H
  rw [show n + (l.toArray.size - n) = l.toArray.size by omega] at this
  exact this

def flAll : List Nat → Plan → Plan
  | [], p => p
  | i :: is, p => .fl i (flAll is p)
def fpAll : List Nat → Plan → Plan
  | [], p => p
  | i :: is, p => .fp i (fpAll is p)
theorem plan_floats {n : Nat} {Q : Exit → Act → World → Prop} {w : World} {r : Plan} : ∀ (is : List Nat) (os : List Oper) {a : Act}, is.mapM (ops[·]?) = some os →
    wpQuiet P ops (n0.r w) (fun a' => wpPlan n0 P ops Q n r a' w) os a → wpPlan n0 P ops Q n (flAll is r) a w
  | [], os, a, h, hq => by
    simp only [List.mapM_nil, Option.pure_def, Option.some.injEq] at h
    subst h; exact hq
  | i :: is, os, a, h, hq => by
    simp only [List.mapM_cons, Option.bind_eq_bind, Option.bind_eq_some_iff, Option.pure_def, Option.some.injEq] at h
    obtain ⟨o, ho, os', hos, rfl⟩ := h
    show qOp P ops (n0.r w) i (fun a' => wpPlan n0 P ops Q n (flAll is r) a' w) a
    unfold qOp
    simp only [ho]
    unfold wpQuiet at hq
    split
    · rename_i hw; simp only [hw, if_true] at hq; exact Oper.quiet_mono (fun a' h' => plan_floats is os' hos h') hq
    · rename_i hw; simp only [hw] at hq; exact plan_floats is os' hos hq

theorem plan_pures {n : Nat} {Q : Exit → Act → World → Prop} {w : World} {r : Plan} : ∀ (is : List Nat) (os : List Oper) {a : Act}, is.mapM (ops[·]?) = some os →
    wpQuiet P ops (n0.r w) (fun a' => wpPlan n0 P ops Q n r a' w) os a → wpPlan n0 P ops Q n (fpAll is r) a w
  | [], os, a, h, hq => by
    simp only [List.mapM_nil, Option.pure_def, Option.some.injEq] at h
    subst h; exact hq
  | i :: is, os, a, h, hq => by
    simp only [List.mapM_cons, Option.bind_eq_bind, Option.bind_eq_some_iff, Option.pure_def, Option.some.injEq] at h
    obtain ⟨o, ho, os', hos, rfl⟩ := h
    show qOp P ops (n0.r w) i (fun a' => wpPlan n0 P ops Q n (fpAll is r) a' w) a
    unfold qOp
    simp only [ho]
    unfold wpQuiet at hq
    split
    · rename_i hw; simp only [hw, if_true] at hq; exact Oper.quiet_mono (fun a' h' => plan_pures is os' hos h') hq
    · rename_i hw; simp only [hw] at hq; exact plan_pures is os' hos hq

theorem forced_of {n : Nat} {Q : Exit → Act → World → Prop} {a : Act} {w : World} {r : Plan} (i : Nat) {o : Oper} (ho : ops[i]? = some o)
    (h : ∀ K : Exit → Act → World → Prop, (∀ a' w', n0.r w w' → wpPlan n0 P ops Q n r a' w' → K .normal a' w') → wpList P ops K [o] a w) :
    wpOp P ops Q i (fun a' w' => n0.r w w' ∧ wpPlan n0 P ops Q n r a' w') a w := by
  have h1 := h (fun e a' w' => match e with | .normal => n0.r w w' ∧ wpPlan n0 P ops Q n r a' w' | e => Q e a' w') (fun a' w' hb hp => ⟨hb, hp⟩)
  unfold wpOp
  simp only [ho]
  unfold wpList at h1
  split
  · rename_i hw
    simp only [hw, if_true] at h1
    refine h1.imp (fun h2 => ?_) (fun h2 => ⟨h2.1, h2.2⟩)
    unfold Oper.wp at *
    generalize (execOp a.eval o).run P w = x at *
    cases x with
    | ok n w' =>
      cases n <;> simp only [Oper.upon] at h2 ⊢ <;>
        first
          | exact h2
          | exact Calls.mono h2 (fun e w'' he => by cases e <;> exact he)
          | exact Rows.mono h2 (fun _ _ he => he)
    | halt x w' => cases x <;> simp only [Oper.upon] at h2 ⊢ <;> exact h2
  · rename_i hw
    simp only [hw] at h1
    exact h1
theorem stored_of {n : Nat} {Q : Exit → Act → World → Prop} {a : Act} {w : World} {r : Plan} (i : Nat) {o : Oper} (ho : ops[i]? = some o)
    (h : ∀ K : Exit → Act → World → Prop, (∀ a' w', wpPlan n0 P ops Q n r a' w' → K .normal a' w') → wpList P ops K [o] a w) :
    wpOp P ops Q i (fun a' w' => wpPlan n0 P ops Q n r a' w') a w := by
  have h1 := h (fun e a' w' => match e with | .normal => wpPlan n0 P ops Q n r a' w' | e => Q e a' w') (fun a' w' hp => hp)
  unfold wpOp
  simp only [ho]
  unfold wpList at h1
  split
  · rename_i hw
    simp only [hw, if_true] at h1
    refine h1.imp (fun h2 => ?_) (fun h2 => ⟨h2.1, h2.2⟩)
    unfold Oper.wp at *
    generalize (execOp a.eval o).run P w = x at *
    cases x with
    | ok n w' =>
      cases n <;> simp only [Oper.upon] at h2 ⊢ <;>
        first
          | exact h2
          | exact Calls.mono h2 (fun e w'' he => by cases e <;> exact he)
          | exact Rows.mono h2 (fun _ _ he => he)
    | halt x w' => cases x <;> simp only [Oper.upon] at h2 ⊢ <;> exact h2
  · rename_i hw
    simp only [hw] at h1
    exact h1
/-- one forced operation, walked as a list of one, the way on behind a variable -/
theorem plan_one {n : Nat} {Q : Exit → Act → World → Prop} {a : Act} {w : World} {r : Plan} (i : Nat) {o : Oper} (ho : ops[i]? = some o)
    (h : ∀ K : Exit → Act → World → Prop, (∀ a' w', n0.r w w' → wpPlan n0 P ops Q n r a' w' → K .normal a' w') → wpList P ops K [o] a w) : wpPlan n0 P ops Q n (.one i r) a w := forced_of i ho h
theorem plan_two {n : Nat} {Q : Exit → Act → World → Prop} {a : Act} {w : World} {r r' : Plan} (i j : Nat) {o o' : Oper} (ho : ops[i]? = some o) (ho' : ops[j]? = some o')
    (h : ∀ K : Exit → Act → World → Prop, (∀ a' w', n0.r w w' → wpPlan n0 P ops Q n r a' w' → K .normal a' w') → wpList P ops K [o] a w)
    (h' : ∀ K : Exit → Act → World → Prop, (∀ a' w', n0.r w w' → wpPlan n0 P ops Q n r' a' w' → K .normal a' w') → wpList P ops K [o'] a w) : wpPlan n0 P ops Q n (.two i j r r') a w := ⟨forced_of i ho h, forced_of j ho' h'⟩
/-- one forced operation that stores -/
theorem plan_st {n : Nat} {Q : Exit → Act → World → Prop} {a : Act} {w : World} {r : Plan} (i : Nat) {o : Oper} (ho : ops[i]? = some o)
    (h : ∀ K : Exit → Act → World → Prop, (∀ a' w', wpPlan n0 P ops Q n r a' w' → K .normal a' w') → wpList P ops K [o] a w) : wpPlan n0 P ops Q n (.st i r) a w := stored_of i ho h
theorem plan_done {n : Nat} {Q : Exit → Act → World → Prop} {a : Act} {w : World} {l : List Oper} (hl : ops.toList.drop n = l)
    (h : ∀ K : Exit → Act → World → Prop, (∀ a' w', Q .normal a' w' → K .normal a' w') → wpList P ops K l a w) : wpPlan n0 P ops (calm Q) n .done a w := by
  show wpList P ops (calm Q) (ops.toList.drop n) a w
  rw [hl]; exact h _ (fun _ _ h => h)


theorem forced_panics {n : Nat} {Q : Exit → Act → World → Prop} {a : Act} {w : World} {r : Plan} (i : Nat) {o : Oper} (ho : ops[i]? = some o)
    (h : ∀ K : Exit → Act → World → Prop, (∀ a' w', n0.r w w' → wpPlan n0 P ops Q n r a' w' → K .normal a' w') → (∀ c a' w', Q (.panic c) a' w' → K (.panic c) a' w') → wpList P ops K [o] a w) :
    wpOp P ops Q i (fun a' w' => n0.r w w' ∧ wpPlan n0 P ops Q n r a' w') a w := by
  have h1 := h (fun e a' w' => match e with | .normal => n0.r w w' ∧ wpPlan n0 P ops Q n r a' w' | e => Q e a' w') (fun a' w' hb hp => ⟨hb, hp⟩) (fun c a' w' hq => hq)
  unfold wpOp
  simp only [ho]
  unfold wpList at h1
  split
  · rename_i hw
    simp only [hw, if_true] at h1
    refine h1.imp (fun h2 => ?_) (fun h2 => ⟨h2.1, h2.2⟩)
    unfold Oper.wp at *
    generalize (execOp a.eval o).run P w = x at *
    cases x with
    | ok n w' =>
      cases n <;> simp only [Oper.upon] at h2 ⊢ <;>
        first
          | exact h2
          | exact Calls.mono h2 (fun e w'' he => by cases e <;> exact he)
          | exact Rows.mono h2 (fun _ _ he => he)
    | halt x w' => cases x <;> simp only [Oper.upon] at h2 ⊢ <;> exact h2
  · rename_i hw
    simp only [hw] at h1
    exact h1
/-- one forced operation that may panic -/
theorem plan_panics {n : Nat} {Q : Exit → Act → World → Prop} {a : Act} {w : World} {r : Plan} (i : Nat) {o : Oper} (ho : ops[i]? = some o)
    (h : ∀ K : Exit → Act → World → Prop, (∀ a' w', n0.r w w' → wpPlan n0 P ops Q n r a' w' → K .normal a' w') → (∀ c a' w', Q (.panic c) a' w' → K (.panic c) a' w') → wpList P ops K [o] a w) : wpPlan n0 P ops Q n (.one i r) a w := forced_panics i ho h
theorem plan_end {n : Nat} {Q : Exit → Act → World → Prop} {a : Act} {w : World} {l : List Oper} (hl : ops.toList.drop n = l)
    (h : ∀ K : Exit → Act → World → Prop, (∀ a' w', Q .normal a' w' → K .normal a' w') → wpList P ops K l a w) : wpPlan n0 P ops Q n .done a w := by
  show wpList P ops Q (ops.toList.drop n) a w
  rw [hl]; exact h _ (fun _ _ h => h)
/-- what is asked where a panic may leave the region -/
def withP (D : List Deferred) (R0 : List PanicEntry → World → Prop) (Q : Exit → Act → World → Prop) : Exit → Act → World → Prop := fun e a w => match e with | .panic c => a.defers = D ∧ R0 c w | e => Q e a w
theorem wp_region_panics (n0 : Rl) {id : Nat} {Q : Exit → Act → World → Prop} {a : Act} {w : World} {l : List Oper} (R0 : List PanicEntry → World → Prop) (hR : ∀ c a' w', a'.defers = a.defers → R0 c w' → Q (.panic c) a' w') (n : Nat) (ST : List Nat) (s : Plan) (hm : P.follows .mixedOrders = true)
    (hB : (Region.noSelect l.toArray && decide (n ≤ l.toArray.size) && (decide (n = l.toArray.size) || (decide (n < l.toArray.size) && Region.sinkB .any l.toArray n && Region.chainB .any l.toArray n)) && planB .any l.toArray ST (l.toArray.size - n) n n s (Array.replicate l.toArray.size false)) = true)
    (h : ∀ w', Below w.heap.size w w' → w'.heap.size = w.heap.size → wpPlan n0 P l.toArray (withP a.defers R0 Q) n s a w') : (Code.region id l.toArray true).wp P Q a w := by
  rw [Bool.and_eq_true, Bool.and_eq_true, Bool.and_eq_true, decide_eq_true_eq] at hB
  obtain ⟨⟨⟨hsel, hn⟩, hs⟩, hB⟩ := hB
  refine Code.wp_mono (Q := withP a.defers R0 Q) (fun e a' w' h => by cases e <;> first | exact h | exact hR _ _ _ h.1 h.2) (wp_region_any hm ?_)
  have hdl : (l.drop n).length = l.toArray.size - n := by simp
  have inv0 : HeadInv .any l.toArray n (Array.replicate l.toArray.size false) :=
    ⟨by simp, fun j oj _ hl => (by rw [getD_replicate_false] at hl; cases hl), fun t _ ht => getD_in (by simpa using ht) (getD_replicate_false _ _)⟩
  have H := plan_sound (P := P) (Q := withP a.defers R0 Q) hsel (waits_of hs) (fun d v c a' w' h => ⟨by have := h.1; cases d <;> exact this, h.2⟩) n s _ a w.drew inv0 hB (h _ (Below.refl _ w).drew rfl)
  have := any_of_anyC (g := l.toArray.size - n) (fun listed' a' w' hL => by
    have := wpAny_of_seq (ops := l.toArray) (md := .any) (Q' := withP a.defers R0 Q) (l.drop n) n listed' a' w' (fun j => by simp [List.getElem?_drop]) (by rw [hdl]; exact hL.1) (by simpa using hL.2)
    rwa [hdl] at this) _ _ _ _ H
  rw [show n + (l.toArray.size - n) = l.toArray.size by omega] at this
  exact this
end
end Tc
end Go.Proofs.YtpekhdahamloaaaGreatDoor
