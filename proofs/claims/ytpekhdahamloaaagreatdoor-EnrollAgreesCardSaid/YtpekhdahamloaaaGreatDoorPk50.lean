/- Regions in the rounds of a range over a function; the call of yield. -/
import Derived.Test.YtpekhdahamloaaaGreatDoorPk3
import Derived.RangeFuncNested
import Derived.LoopIn
import Derived.RangeFuncLeaves
import Derived.RecoverIn
set_option linter.unusedVariables false
set_option linter.unusedSimpArgs false
namespace Go.Proofs.YtpekhdahamloaaaGreatDoor
open Go.RowKit
def noDefer (o : Oper) : Bool := match o.op with | .defer _ => false | _ => true
theorem uponIn_of {k n : Nat} {P : Program} {o : Oper} {a : Act} {next next' : Act → World → Prop} {Q : Exit → Act → World → Prop} (hn : ∀ a w, next a w → next' a w) {r : Result Next} (h : o.upon P a next Q r) :
    o.uponIn (Fence.wide.inRound k) n P a next' Q r := by
  unfold Oper.upon at h
  unfold Oper.uponIn
  split at h
  · exact hn _ _ h
  · exact hn _ _ h
  · exact hn _ _ h
  · refine ⟨fun e => (by cases e), ?_⟩
    refine CallsIn.inRound k (callsIn_wide.2 (h.mono ?_))
    rintro (v | c | _) w' hw
    · exact hn _ _ hw
    · exact hw
    · exact hw
  · rename_i row args w' 
    refine ⟨fun e => (by cases e), fun c cs hr => ?_⟩
    obtain ⟨v, w2, h1, h2⟩ := h c cs
    exact ⟨v, w2, hn _ _ h1, stepsIn_wide.2 h2⟩
  · exact h
  · exact h.elim
theorem wpListIn_of {k n : Nat} {P : Program} {ops : Array Oper} {Q : Exit → Act → World → Prop} (hQ : ¬ LetsOut Q) : ∀ (l : List Oper) (a : Act) (w : World), l.all noDefer = true → wpList P ops Q l a w → wpListIn (Fence.wide.inRound k) n P ops Q l a w
  | [], a, w, _, h => h
  | o :: l, a, w, hd, h => by
    rw [List.all_cons, Bool.and_eq_true] at hd
    unfold wpList at h
    unfold wpListIn
    split
    · rename_i hw
      rw [if_pos hw] at h
      rcases h with h | ⟨_, h⟩
      · refine ⟨fun _ _ => trivial, ?_⟩
        rw [show (Fence.wide.inRound k).round = some k from rfl, Oper.semAt_some k _ _ (fun c hc => by
          have := hd.1; unfold noDefer at this; rw [hc] at this; cases this)]
        unfold Oper.wp at h
        exact uponIn_of (fun a w h => wpListIn_of hQ l a w hd.2 h) h
      · exact absurd h hQ
    · rename_i hw
      rw [if_neg hw] at h
      exact ⟨fun _ _ => trivial, wpListIn_of hQ l _ _ hd.2 h⟩
theorem wpIn_region_of {k n id : Nat} {P : Program} {l : List Oper} {Q : Exit → Act → World → Prop} {a : Act} {w : World} (hQ : ¬ LetsOut Q) (hd : l.all noDefer = true) (h : wpList P l.toArray Q l a w) : (Code.region id l.toArray false).wpIn (Fence.wide.inRound k) n P Q a w :=
  wpIn_region_lit (wpListIn_of hQ l a w hd h)
/-- the ways out of the first operations of a region -/
def preQ (P : Program) (n : Nat) (ops : Array Oper) (rest : List Oper) (Q : Exit → Act → World → Prop) : Exit → Act → World → Prop := fun e a w => match e with
  | .normal => wpListIn Fence.wide n P ops Q rest a w
  | .outgrown => False
  | e => Q e a w
theorem uponIn_wide {n : Nat} {P : Program} {o : Oper} {a : Act} {next next' : Act → World → Prop} {Q Q' : Exit → Act → World → Prop} (hQ : ¬ LetsOut Q) (hp : ∀ c a w, Q (.panic c) a w → Q' (.panic c) a w) (hn : ∀ a w, next a w → next' a w) {r : Result Next} (h : o.upon P a next Q r) :
    o.uponIn Fence.wide n P a next' Q' r := by
  unfold Oper.upon at h
  unfold Oper.uponIn
  split at h
  · exact hn _ _ h
  · exact hn _ _ h
  · exact hn _ _ h
  · refine ⟨fun e => (by cases e), ?_⟩
    refine callsIn_wide.2 (h.mono ?_)
    rintro (v | c | _) w' hw
    · exact hn _ _ hw
    · exact hp _ _ _ hw
    · exact absurd hw hQ
  · rename_i row args w' 
    refine ⟨fun e => (by cases e), fun c cs hr => ?_⟩
    obtain ⟨v, w2, h1, h2⟩ := h c cs
    exact ⟨v, w2, hn _ _ h1, stepsIn_wide.2 h2⟩
  · exact hp _ _ _ h
  · exact h.elim
theorem wpListIn_pre {n : Nat} {P : Program} {ops : Array Oper} {Q : Exit → Act → World → Prop} {rest : List Oper} : ∀ (l : List Oper) (a : Act) (w : World), wpList P ops (preQ P n ops rest Q) l a w → wpListIn Fence.wide n P ops Q (l ++ rest) a w
  | [], a, w, h => h
  | o :: l, a, w, h => by
    have hQ : ¬ LetsOut (preQ P n ops rest Q) := fun ⟨_, _, h⟩ => h
    unfold wpList at h
    show wpListIn Fence.wide n P ops Q (o :: (l ++ rest)) a w
    unfold wpListIn
    split
    · rename_i hw
      rw [if_pos hw] at h
      rcases h with h | ⟨_, h⟩
      · refine ⟨fun _ _ => trivial, ?_⟩
        rw [show Fence.wide.round = none from rfl, Oper.semAt_none]
        unfold Oper.wp at h
        exact uponIn_wide (Q := preQ P n ops rest Q) (Q' := Q) (next := wpList P ops (preQ P n ops rest Q) l) hQ (fun c a w h => h) (fun a w h => wpListIn_pre l a w h) h
      · exact absurd h hQ
    · rename_i hw
      rw [if_neg hw] at h
      exact ⟨fun _ _ => trivial, wpListIn_pre l _ _ h⟩
theorem wpListIn_pre' {n : Nat} {P : Program} {ops : Array Oper} {Q : Exit → Act → World → Prop} {L : List Oper} (k : Nat) {a : Act} {w : World} (h : wpList P ops (preQ P n ops (L.drop k) Q) (L.take k) a w) : wpListIn Fence.wide n P ops Q L a w := by
  have := wpListIn_pre (n := n) _ a w h
  rwa [List.take_append_drop] at this
/-- yield is called -/
theorem wpListIn_yield {n : Nat} {P : Program} {ops : Array Oper} {Q : Exit → Act → World → Prop} {rest : List Oper} {o : Oper} {a : Act} {w : World} (hg : o.guard = none) (x : Operand) (args : Array Operand) (tys : Array TypeId) (ho : o.op = .call { callee := .value x, args := args, argTypes := tys }) (l : Nat) (hx : a.eval x = .func (.yield l) #[] #[])
    (vs : Array Value) (hv : args.toList.map a.eval = vs.toList) {R : Ending → World → Prop} (hy : YieldAt Fence.wide (n - 1) P l vs w R)
    (h : ∀ e w', R e w' → ∃ v, e = .returned v ∧ wpListIn Fence.wide n P ops Q rest (a.put o.dst v) w') : wpListIn Fence.wide n P ops Q (o :: rest) a w := by
  have hv : args.map a.eval = vs := by apply Array.ext'; rw [Array.toList_map, hv]
  refine wpListIn_plain hg fun K hK => ?_
  obtain ⟨fn, tmps, assign, body, h1, h2⟩ := hy
  unfold Oper.wpIn
  refine ⟨fun _ _ => trivial, ?_⟩
  rw [show Fence.wide.round = none from rfl, Oper.semAt_none]
  have hrun : (execOp a.eval o).run P w = .ok (.round l fn tmps assign body) w := by
    subst hv
    simp [execOp, ho, resolve, invoke, hx, h1, Result.andThen, Deferred.ofValue]
  rw [hrun]
  refine ⟨fun e => (by cases e), h2.mono ?_⟩
  intro e w' hr
  obtain ⟨v, rfl, h3⟩ := h e w' hr
  exact hK _ _ h3
/-- a function that holds a range over a function -/
theorem calls_of_marks {P : Program} {f : FuncId} {fn : Func} {c : Code} {args : Array Value} {w : World} {R : Ending → World → Prop} (hf : P.funcs[f]? = some fn) (hb : fn.body = some c)
    (h : c.wp P (bodyPostM Fence.wide 5 P fn R) { tmps := args ++ Array.replicate (fn.ntmps - args.size) undef, defers := [] } w) : Calls P f args w R :=
  callsIn_wide.1 (callsIn_of_wp_marks (n := 5) hf hb trivial (wpIn_wide.2 h))
end Go.Proofs.YtpekhdahamloaaaGreatDoor
