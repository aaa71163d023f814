/- Further words on package group at elements, and small helps of the walk, that the later layers share. -/
import Derived.Test.YtpekhdahamloaaaGreatDoorPk20
import Derived.Test.YtpekhdahamloaaaGreatDoorPk3
import Derived.Laws.ResultCell
import Derived.IntWalk
set_option linter.unusedVariables false
set_option linter.unusedSimpArgs false
namespace Go.Proofs.YtpekhdahamloaaaGreatDoor
open Go.RowKit
theorem El4 : El 4 := El.square (x := 2) (by decide) (by decide)
/-- the contracts of package group's reference, at elements -/
theorem gexpV_el {a k : Nat} (ha : El a) (hk : k < 2305843009213688669) : gexpV (a : Int) (k : Int) = ((powP a k : Nat) : Int) := by
  unfold gexpV; rw [elemB_El ha, scalB_of hk]; rfl
theorem gexpE_el {a k : Nat} (ha : El a) (hk : k < 2305843009213688669) : gexpE (a : Int) (k : Int) = 0 := by
  unfold gexpE; rw [elemB_El ha, scalB_of hk]; rfl
theorem gmulV_el {a b : Nat} (ha : El a) (hb : El b) : gmulV (a : Int) (b : Int) = ((mulP a b : Nat) : Int) := by
  unfold gmulV; rw [elemB_El ha, elemB_El hb]; rfl
theorem gmulE_el {a b : Nat} (ha : El a) (hb : El b) : gmulE (a : Int) (b : Int) = 0 := by
  unfold gmulE; rw [elemB_El ha, elemB_El hb]; rfl
theorem rexp_el {a k : Nat} (ha : El a) (hk : k < 2305843009213688669) {c : Nat} (hc : powP a k = c) (w : World) :
    Calls Tryz.prog 119 #[.int .i64 a, .int .i64 k] w fun e w' => e = .returned (.tuple #[.int .i64 (c : Int), .int .i64 0]) ∧ w = w' := by
  have h := rexp_any a k w; rwa [gexpV_el ha hk, gexpE_el ha hk, hc] at h
theorem rmul_el {a b : Nat} (ha : El a) (hb : El b) {c : Nat} (hc : mulP a b = c) (w : World) :
    Calls Tryz.prog 76 #[.int .i64 a, .int .i64 b] w fun e w' => e = .returned (.tuple #[.int .i64 (c : Int), .int .i64 0]) ∧ w = w' := by
  have h := rmul_any a b w; rwa [gmulV_el ha hb, gmulE_el ha hb, hc] at h
theorem rinv_el {a : Nat} (ha : El a) {c : Nat} (hc : powP a 2305843009213688668 = c) (w : World) :
    Calls Tryz.prog 147 #[.int .i64 a] w fun e w' => e = .returned (.tuple #[.int .i64 (c : Int), .int .i64 0]) ∧ w = w' := by
  have h := rinv_any a w
  have e1 : gexpV a 2305843009213688668 = (c : Int) := by
    have := gexpV_el ha (k := 2305843009213688668) (by decide); rw [hc] at this; exact this
  have e2 : gexpE a 2305843009213688668 = 0 := gexpE_el ha (k := 2305843009213688668) (by decide)
  rwa [e1, e2] at h
theorem gexpV4 {k : Nat} (hk : k < 2305843009213688669) : gexpV 4 (k : Int) = ((powP 4 k : Nat) : Int) := gexpV_el El4 hk
theorem gexpE4' {k : Nat} (hk : k < 2305843009213688669) : gexpE 4 (k : Int) = 0 := gexpE_el El4 hk
theorem rbase_el {k : Nat} (hk : k < 2305843009213688669) {c : Nat} (hc : powP 4 k = c) (w : World) :
    Calls Tryz.prog 75 #[.int .i64 k] w fun e w' => e = .returned (.tuple #[.int .i64 (c : Int), .int .i64 0]) ∧ w = w' := by
  have h := rbase_any k w; rwa [gexpV4 hk, gexpE4' hk, hc] at h
theorem gbase_el {k : Nat} (hk : k < 2305843009213688669) {c : Nat} (hc : powP 4 k = c) (w : World) :
    Calls Tryz.prog 74 #[.int .i64 k] w fun e w' => e = .returned (.tuple #[.int .i64 (c : Int), .int .i64 0]) ∧ Below w.heap.size w w' := by
  have h := gbase_any k w; rwa [gexpV4 hk, gexpE4' hk, hc] at h
theorem of_same {f : FuncId} {args : Array Value} {W : World} {v : Value} (h : Calls Tryz.prog f args W fun e w' => e = .returned v ∧ W = w') : Calls Tryz.prog f args W fun e w' => e = .returned v ∧ Below W.heap.size W w' :=
  h.mono fun _ _ ⟨h1, h2⟩ => ⟨h1, h2 ▸ Below.refl _ _⟩
/-- an array or a struct, and a word, that are the results -/
theorem results_rowV2 {P : Program} {fn : Func} {p u : Tmp} {ty : TypeId} (h : fn.results = #[.cell p ty, .tmp u]) (tmps : Array Value) (w : World) (g N : Nat) (T : TypeId) (f : Nat → Value) (d : TypeDesc)
    (hp : tmps.getD p undef = .pointer (some ⟨g, 0, none⟩)) (hrow : RowV w g T N f)
    (hu : P.underlying ty = some d) (hd : (match d with | .struct _ | .array _ _ => true | _ => false) = true) (hi : (P.info? ty).map (·.size) = some N) :
    (results fn tmps).run P w = .ok (.tuple #[.agg (rowF N f), tmps.getD u undef]) w := by
  rw [results_cell_tmp h, hp]
  simp [asAddr, run_loadVar_row w g T ty (rowF N f) (0, 0) d hrow hu hd (by rw [rowF_size]; exact hi)]
/-- a guarded operation whose guard is met -/
theorem wpList_unguard {P : Program} {ops : Array Oper} {Q : Exit → Act → World → Prop} {a : Act} {w : World} {rest : List Oper} {o : Oper} (hw : Region.wanted o (yielded ops a.tmps) = true)
    (h : wpList P ops Q ({ o with guard := none } :: rest) a w) : wpList P ops Q (o :: rest) a w := by
  unfold wpList at h ⊢
  rw [if_pos hw]
  rw [if_pos (show Region.wanted { o with guard := none } (yielded ops a.tmps) = true from rfl)] at h
  exact h
end Go.Proofs.YtpekhdahamloaaaGreatDoor
