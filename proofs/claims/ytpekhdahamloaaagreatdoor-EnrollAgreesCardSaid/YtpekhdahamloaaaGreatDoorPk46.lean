/- Listings and people, in plain Lean: what Check, Accept and its parts answer. Package people: must; the listings by devices; present, first, enroll, restore, revoke. Package people: first. Listings, in plain Lean: the listing in its place; the order; the sort. -/
import Derived.Test.YtpekhdahamloaaaGreatDoorPk35
import Derived.Test.YtpekhdahamloaaaGreatDoorPk45
set_option linter.unusedVariables false
set_option linter.unusedSimpArgs false
namespace Go.Proofs.YtpekhdahamloaaaGreatDoor
open Go.RowKit Cod
structure Li where
  d : Int
  v : Int
  l : Int
  n : Int
  g : Bool
structure Li.wf (c : Li) : Prop where
  d : i64B c.d
  v : i64B c.v
  l : i64B c.l
  n : i64B c.n
def li0 : Li := ⟨0, 0, 0, 0, false⟩
def Li.at (c : Li) (i : Nat) : Int := match i with | 0 => c.d | 1 => c.v | 2 => c.l | _ => c.n
/-- the cells of a listing -/
def liC (c : Li) (j : Nat) : Value := if j = 4 then .bool c.g else .int .i64 (c.at j)
theorem liC_one (c : Li) (j : Nat) : (liC c j).oneCell' = true := by unfold liC; split <;> rfl
abbrev liA (c : Li) : Value := .agg (rowF 5 (liC c))
structure Pe where
  i : Int
  r : Int
  gs : List Int
  n : Int
  c : Int
structure Pe.wf (p : Pe) : Prop where
  i : i64B p.i
  r : i64B p.r
  n : i64B p.n
  c : i64B p.c
  gs : ∀ z ∈ p.gs, i64B z
def pe0 : Pe := ⟨0, 0, [], 0, 0⟩
/-- the slice of a person's guards -/
structure Sv where
  a : Option Addr
  n : Nat
  k : Nat
/-- the cells of a person -/
def peC (p : Pe) (s : Sv) (j : Nat) : Value := match j with | 0 => .int .i64 p.i | 1 => .int .i64 p.r | 2 => .slice s.a s.n s.k | 3 => .int .i64 p.n | _ => .int .i64 p.c
theorem peC_one (p : Pe) (s : Sv) (j : Nat) : (peC p s j).oneCell' = true := by unfold peC; split <;> rfl
/-- the slice v holds people -/
def PesS (w : World) (v : Value) (ps : List Pe) (us : Nat → Sv) : Prop :=
  SlAt 5 w v ps.length (fun i => peC (ps.getD i pe0) (us i)) ∧ ∀ i, i < ps.length → (us i).n = (ps.getD i pe0).gs.length ∧ IntsS w (.slice (us i).a (us i).n (us i).k) (ps.getD i pe0).gs
theorem PesS.below {w w' : World} {v : Value} {ps : List Pe} {us : Nat → Sv} (h : PesS w v ps us) (b : Below w.heap.size w w') : PesS w' v ps us :=
  ⟨h.1.below b, fun i hi => ⟨(h.2 i hi).1, (h.2 i hi).2.below b⟩⟩
/-- the cells of a trial: a certificate, a person, the map of the listings -/
def trC (c : Ct) (p : Pe) (s : Sv) (b : Nat) (j : Nat) : Value := if j < 8 then ctC c j else if j < 13 then peC p s (j - 8) else .map (some b)
theorem trC_one (c : Ct) (p : Pe) (s : Sv) (b j : Nat) : (trC c p s b j).oneCell' = true := by unfold trC; split; rfl; split; exact peC_one _ _ _; rfl

/-! Check -/
def hasB (ps : List Pe) (z : Int) : Bool := ps.any fun p => decide (p.i = z)
def grdB (ps : List Pe) (p : Pe) (k : Nat) : Bool := !decide (p.gs.getD k 0 = p.i) && (hasB ps (p.gs.getD k 0) && (decide (k = 0) || !decide (p.gs.getD k 0 ≤ p.gs.getD (k - 1) 0)))
def hdPe (ps : List Pe) (i : Nat) (p : Pe) : Bool :=
  !decide (p.i < 0) && (!decide (64 ≤ p.i) && ((decide (i = 0) || !decide (p.i ≤ (ps.getD (i - 1) pe0).i)) && (elemB p.r && (!decide (p.c < 0) && !decide (1048576 < p.c)))))
def cntB (p : Pe) : Bool := !decide (16 < (p.gs.length : Int)) && (!decide (p.n < min (p.gs.length : Int) 1) && !decide ((p.gs.length : Int) < p.n))
def allB (f : Nat → Bool) (n : Nat) : Bool := (List.range n).all f
def okPe (ps : List Pe) (i : Nat) : Bool := hdPe ps i (ps.getD i pe0) && (cntB (ps.getD i pe0) && allB (grdB ps (ps.getD i pe0)) (ps.getD i pe0).gs.length)
def chkPe (ps : List Pe) : Bool := allB (okPe ps) ps.length
theorem allB_false {f : Nat → Bool} {n i : Nat} (hi : i < n) (h : f i = false) : allB f n = false := by
  rw [Bool.eq_false_iff]
  intro h2
  unfold allB at h2
  rw [List.all_eq_true] at h2
  rw [h2 i (List.mem_range.2 hi)] at h
  cases h
theorem allB_true {f : Nat → Bool} {n : Nat} (h : ∀ i, i < n → f i = true) : allB f n = true := by
  unfold allB
  rw [List.all_eq_true]
  exact fun i hi => h i (List.mem_range.1 hi)
/-! Accept -/
def getL (x : List Li) (d : Int) : Option Li := x.find? fun z => decide (z.d = d)
def lastL (x : List Li) (d : Int) : Li := (getL x d).getD li0
def presB (x : List Li) (d : Int) : Bool := (getL x d).isSome && !(lastL x d).g
def famB (x : List Li) (p : Int) : Bool := x.any fun z => devB z.d && decide (z.d.tdiv 8 = p)
/-- the key with which a certificate must be signed; none: it is refused -/
def keyF (p : Pe) (x : List Li) (c : Ct) : Option Int :=
  if c.k = 1 then (if famB x p.i then none else some c.v)
  else if c.k = 2 then (if presB x c.b then some (lastL x c.b).v else none)
  else if c.k = 3 then some p.r
  else if presB x c.b && presB x c.d then some (lastL x c.b).v else none
def resF (x : List Li) (c : Ct) : Li := if c.k = 4 then ⟨(lastL x c.d).d, (lastL x c.d).v, (lastL x c.d).l, c.n, true⟩ else ⟨c.d, c.v, c.l, c.n, false⟩
/-- what verify answers: a listing, or the error with which it panics -/
def verF (p : Pe) (x : List Li) (c : Ct) : Int × Li :=
  if decide (c.n = IntKind.i64.wrap ((lastL x c.d).n + 1)) then
    match keyF p x c with
    | none => (370, li0)
    | some k => if verB k (msgC c) c.r c.g then (0, resF x c) else (222, li0)
  else (370, li0)
def findP (ps : List Pe) (z : Int) : Option Pe := ps.find? fun p => decide (p.i = z)
def accF (ps : List Pe) (x : List Li) (c : Ct) : Int × Li :=
  if chkPe ps then (if formC c then (match findP ps (c.d.tdiv 8) with | none => (371, li0) | some p => verF p x c) else (370, li0)) else (371, li0)
end Go.Proofs.YtpekhdahamloaaaGreatDoor

namespace Go.Proofs.YtpekhdahamloaaaGreatDoor
open Go.RowKit Cod
abbrev pan (z : Int) : Ending := .panicked [{ v := .iface 27 (.int .i64 z), recovered := false }]
set_option maxRecDepth 100000 in
theorem must_true (e : Int) (w : World) : Calls Tryz.prog 67 #[.bool true, .int .i64 e] w fun en w' => en = .returned (.tuple #[]) ∧ w = w' := by
  go_enter Tryz.func67, Tryz.ntmps67
  go_wp2
  go_end0
  exact ⟨rfl, rfl⟩
set_option maxRecDepth 100000 in
theorem must_false (e : Int) (w : World) : Calls Tryz.prog 67 #[.bool false, .int .i64 e] w fun en w' => en = pan e ∧ w = w' := by
  go_enter Tryz.func67, Tryz.ntmps67
  go_wp2
  exact ⟨rfl, rfl, rfl⟩
/-- block b is a map that holds the first listing of each device -/
def MapL (w : World) (b : Nat) (x : List Li) : Prop := ∃ m, IM.At w b m ∧ ∀ d, IM.get m d = (getL x d).map liA
theorem MapL.below {w w' : World} {b : Nat} {x : List Li} (h : MapL w b x) (hb : Below w.heap.size w w') : MapL w' b x := by
  obtain ⟨m, h1, h2⟩ := h
  exact ⟨m, h1.below hb, h2⟩
theorem MapL.lt {w : World} {b : Nat} {x : List Li} (h : MapL w b x) : b < w.heap.size := by obtain ⟨m, h1, _⟩ := h; exact h1.lt
theorem zero_li (W : World) : (zeroValue 71).run Tryz.prog W = .ok (liA li0) W := by kernel_rfl
theorem get_last {x : List Li} {m : List (Int × Value)} (h : ∀ d, IM.get m d = (getL x d).map liA) (d : Int) : (IM.get m d).getD (liA li0) = liA (lastL x d) := by
  rw [h]; unfold lastL; cases getL x d <;> rfl
theorem get_some {x : List Li} {m : List (Int × Value)} (h : ∀ d, IM.get m d = (getL x d).map liA) (d : Int) : (IM.get m d).isSome = (getL x d).isSome := by
  rw [h]; cases getL x d <;> rfl
theorem li_cell {w : World} {B : Nat} {T : TypeId} {c : Li} (h : RowV w B T 5 (liC c)) {i : Nat} (hi : i < 4) : w.cell? ⟨B, i, none⟩ = some (.int .i64 (c.at i)) := by
  rw [h.cell (i := i) (by omega)]; unfold liC; rw [if_neg (by omega)]
theorem li_gone {w : World} {B : Nat} {T : TypeId} {c : Li} (h : RowV w B T 5 (liC c)) : w.cell? ⟨B, 4, none⟩ = some (.bool c.g) := h.cell (i := 4) (by decide)
def PresPost (x : List Li) (d : Int) (w : World) (e : Ending) (w' : World) : Prop := (if presB x d then e = .returned (liA (lastL x d)) else e = pan 370) ∧ Below w.heap.size w w'
set_option maxRecDepth 100000 in
set_option maxHeartbeats 8000000 in
theorem ppresent_any (c : Ct) (p : Pe) (s : Sv) (b : Nat) (x : List Li) (d : Int) (w : World) (hm : MapL w b x) :
    Calls Tryz.prog 145 #[.agg (rowF 14 (trC c p s b)), .int .i64 d] w (PresPost x d w) := by
  obtain ⟨m, hm1, hm2⟩ := hm
  have M0 := Lib.hid hm1
  have GL := Lib.hid (get_last hm2 d)
  have GS := Lib.hid (get_some hm2 d)
  have FIN : Hid (∀ e w', (if presB x d then e = .returned (liA (lastL x d)) else e = pan 370) → Below w.heap.size w w' → PresPost x d w e w') := Lib.hid (fun e w' h1 h2 => ⟨h1, h2⟩)
  have PB : Hid (presB x d = ((getL x d).isSome && !(lastL x d).g)) := Lib.hid rfl
  obtain ⟨ok, hok⟩ : ∃ y, (getL x d).isSome = y := ⟨_, rfl⟩
  obtain ⟨li, hli⟩ : ∃ y, lastL x d = y := ⟨_, rfl⟩
  rw [hli] at GL FIN PB
  rw [hok] at GS PB
  rw [PB.out] at FIN
  obtain ⟨g, hg⟩ : ∃ y, li.g = y := ⟨_, rfl⟩
  rw [hg] at FIN
  have HG := Lib.hid hg
  clear hm1 hm2 hok hli hg PB
  go_enter Tryz.func145, Tryz.ntmps145
  have B0 := Lib.hid (Below.refl w.heap.size w)
  go_upto_region 1 with fail
  obtain ⟨w1, hw1⟩ : ∃ y, w.alloc (.cells (rowF 14 (trC c p s b)) 125) = y := ⟨_, rfl⟩
  have b1 : Below w.heap.size w w1 := by rw [← hw1]; exact (Below.refl _ _).alloc (Nat.le_refl _) _
  have X1 : Hid (RowV w1 w.heap.size 125 14 (trC c p s b)) := Lib.hid (by rw [← hw1]; exact RowV.new w _ 14 (trC c p s b))
  have z1 : w.heap.size + 1 = w1.heap.size := by rw [← hw1]; exact (Array.size_push _).symm
  rw [hw1]
  (try rw [z1])
  have B1 := Lib.hid (B0.out.trans (b1.mono B0.out.size))
  have M1 := Lib.hid (M0.out.below b1)
  clear b1 hw1 z1 B0 M0
  have L1 : Hid (w.heap.size ≤ w1.heap.size) := Lib.hid B1.out.size
  obtain ⟨w2, hw2⟩ : ∃ y, w1.alloc (.cells #[.int .i64 0, .int .i64 0, .int .i64 0, .int .i64 0, .bool false] 71) = y := ⟨_, rfl⟩
  have b2 : Below w1.heap.size w1 w2 := by rw [← hw2]; exact (Below.refl _ _).alloc (Nat.le_refl _) _
  have Z2 : Hid (RowV w2 w1.heap.size 71 5 (liC li0)) := Lib.hid (by rw [← hw2]; exact RowV.new w1 _ 5 (liC li0))
  have z2 : w1.heap.size + 1 = w2.heap.size := by rw [← hw2]; exact (Array.size_push _).symm
  rw [hw2]
  (try rw [z2])
  have B2 := Lib.hid (B1.out.trans (b2.mono B1.out.size))
  have M2 := Lib.hid (M1.out.below b2)
  have X2 := Lib.hid (X1.out.below b2)
  clear b2 hw2 z2 B1 M1 X1
  have xm : _ = some (Value.map (some b)) := X2.out.cell (i := 13) (by decide)
  go_wp2_with (first | ((with_reducible (show wpList _ _ _ (Oper.mk (some 11) _ _ _ _ _ :: _) _ _)); refine Hid.out ?_))
  refine Lib.hid ?_
  refine IM.wpList_lookup rfl 123 3 71 (.tmp 9) (.tmp 10) true rfl d rfl rfl M2.out Tryz.underlying123 Tryz.underlying3 zero_li ?_
  rw [if_pos rfl, GL.out, GS.out]
  have Zr := Lib.hid (RowV.new w2 71 5 (liC li0))
  go_upto_region 2 with ((with_reducible (show wpList _ _ _ (Oper.mk none _ _ _ _ _ :: _) _ _)); refine wpList_store_rowV (o := ⟨none, .store 71 (.tmp 5) (.tmp 12), _, _, _, _⟩) rfl 71 (.tmp 5) (.tmp 12) rfl w2.heap.size rfl 5 71 _ (liC li) rfl Zr.out (by kernel_rfl) (fun j _ => liC_one li j) ?_; intro w3 Y3 o3)
  have b3 : Below w2.heap.size w2 w3 := ((Below.refl _ _).alloc (Nat.le_refl _) _).trans (o3.out.below (Nat.le_refl _) (by rw [World.size_alloc]; omega))
  have B3 := Lib.hid (B2.out.trans (b3.mono B2.out.size))
  have M3 := Lib.hid (M2.out.below b3)
  have X3 := Lib.hid (X2.out.below b3)
  have Z3 := Lib.hid (Z2.out.below b3)
  clear b3 o3 Zr B2 M2 X2 Z2
  have x4 := li_gone Y3.out
  rw [HG.out] at x4
  cases ok
  · go_wp2_with fail
    refine (must_false _ _).mono ?_
    rintro e w4 ⟨rfl, rfl⟩
    go_wp2_with fail
    exact ⟨rfl, FIN.out _ _ rfl B3.out⟩
  cases g
  · go_wp2_with fail
    refine (must_true _ _).mono ?_
    rintro e w4 ⟨rfl, rfl⟩
    go_wp2_with (first | ((with_reducible (show wpList _ _ _ (Oper.mk (some 21) _ _ _ _ _ :: _) _ _)); refine Hid.out ?_))
    refine Lib.hid ?_
    refine wpList_load_rowV rfl 71 (.tmp 5) rfl w2.heap.size rfl 5 _ _ (Y3.out) _ Tryz.underlying71 rfl (by kernel_rfl) ?_
    go_wp2_with (first | ((with_reducible (show wpList _ _ _ (Oper.mk none _ _ _ _ _ :: _) _ _)); refine Hid.out ?_))
    refine Lib.hid ?_
    refine wpList_store_rowV rfl 71 (.tmp 4) (.tmp 21) rfl w1.heap.size rfl 5 _ _ _ rfl (Z3.out) (by kernel_rfl) (fun j _ => liC_one _ j) ?_
    intro w9 Z9 O9
    go_wp2_with fail
    refine bodyPost_ret (v := liA li) (by exact results_rowV (fn := Tryz.f145) (p := 4) (ty := 71) rfl _ _ w1.heap.size 5 71 _ _ rfl Z9.out Tryz.underlying71 rfl (by kernel_rfl)) rfl (FIN.out _ _ rfl ?_)
    exact B3.out.trans (O9.out.below L1.out B3.out.size)
  · go_wp2_with fail
    refine (must_false _ _).mono ?_
    rintro e w4 ⟨rfl, rfl⟩
    go_wp2_with fail
    exact ⟨rfl, FIN.out _ _ rfl B3.out⟩
theorem field_v (l : Li) (W : World) : (Instr.field 71 (liA l) 1).run Tryz.prog W = .ok (.int .i64 l.v) W := by kernel_rfl
def KeyPost (r : Option Int) (w : World) (e : Ending) (w' : World) : Prop := (match r with | some k => e = .returned (.int .i64 k) | none => e = pan 370) ∧ Below w.heap.size w w'
theorem KeyPost.yes {r : Option Int} {k : Int} {w w' : World} (h : r = some k) (b : Below w.heap.size w w') : KeyPost r w (.returned (.int .i64 k)) w' := by subst h; exact ⟨rfl, b⟩
theorem KeyPost.no {r : Option Int} {w w' : World} (h : r = none) (b : Below w.heap.size w w') : KeyPost r w (pan 370) w' := by subst h; exact ⟨rfl, b⟩
set_option maxRecDepth 100000 in
set_option maxHeartbeats 8000000 in
theorem penroll_any (c : Ct) (p : Pe) (s : Sv) (b : Nat) (x : List Li) (w : World) (hm : MapL w b x) :
    Calls Tryz.prog 112 #[.agg (rowF 14 (trC c p s b))] w (KeyPost (if presB x c.b then some (lastL x c.b).v else none) w) := by
  have HM := Lib.hid hm
  obtain ⟨r, hr⟩ : ∃ y, (if presB x c.b then some (lastL x c.b).v else none) = y := ⟨_, rfl⟩
  rw [hr]
  have HR := Lib.hid hr
  clear hm hr
  go_enter Tryz.func112, Tryz.ntmps112
  have B0 := Lib.hid (Below.refl w.heap.size w)
  go_upto_region 1 with fail
  obtain ⟨w1, hw1⟩ : ∃ y, w.alloc (.cells (rowF 14 (trC c p s b)) 125) = y := ⟨_, rfl⟩
  have b1 : Below w.heap.size w w1 := by rw [← hw1]; exact (Below.refl _ _).alloc (Nat.le_refl _) _
  have X1 : Hid (RowV w1 w.heap.size 125 14 (trC c p s b)) := Lib.hid (by rw [← hw1]; exact RowV.new w _ 14 (trC c p s b))
  have z1 : w.heap.size + 1 = w1.heap.size := by rw [← hw1]; exact (Array.size_push _).symm
  rw [hw1]
  (try rw [z1])
  have B1 := Lib.hid (B0.out.trans (b1.mono B0.out.size))
  clear b1 hw1 z1 B0
  have x5 : _ = some (Value.int .i64 c.b) := X1.out.cell (i := 5) (by decide)
  have P := Lib.hid (ppresent_any c p s b x c.b w1 (HM.out.below B1.out))
  go_wp2_with (first | ((with_reducible (show wpList _ _ _ (Oper.mk (some 3) _ _ _ _ _ :: _) _ _)); refine Hid.out ?_))
  refine Lib.hid ?_
  refine wpList_load_rowV rfl 125 (.tmp 1) rfl w.heap.size rfl 14 _ _ (X1.out) _ Tryz.underlying125 rfl (by kernel_rfl) ?_
  go_wp2_with fail
  refine P.out.mono ?_
  rintro e w2 ⟨he, b2⟩
  have B2 := Lib.hid (B1.out.trans (b2.mono B1.out.size))
  clear x5 b2
  by_cases h : presB x c.b = true
  · rw [if_pos h] at he HR
    subst he
    obtain ⟨l, hl⟩ : ∃ y, lastL x c.b = y := ⟨_, rfl⟩
    rw [hl] at HR ⊢
    clear h hl
    have F8 := field_v l
    go_wp2_with fail
    go_ret
    exact KeyPost.yes HR.out.symm B2.out
  · rw [if_neg h] at he HR
    subst he
    clear h
    go_wp2_with fail
    exact ⟨rfl, KeyPost.no HR.out.symm B2.out⟩
set_option maxRecDepth 100000 in
set_option maxHeartbeats 8000000 in
theorem prestore_any (c : Ct) (p : Pe) (s : Sv) (b : Nat) (w : World) :
    Calls Tryz.prog 113 #[.agg (rowF 14 (trC c p s b))] w (KeyPost (some p.r) w) := by
  go_enter Tryz.func113, Tryz.ntmps113
  have B0 := Lib.hid (Below.refl w.heap.size w)
  go_upto_region 1 with fail
  obtain ⟨w1, hw1⟩ : ∃ y, w.alloc (.cells (rowF 14 (trC c p s b)) 125) = y := ⟨_, rfl⟩
  have b1 : Below w.heap.size w w1 := by rw [← hw1]; exact (Below.refl _ _).alloc (Nat.le_refl _) _
  have X1 : Hid (RowV w1 w.heap.size 125 14 (trC c p s b)) := Lib.hid (by rw [← hw1]; exact RowV.new w _ 14 (trC c p s b))
  have z1 : w.heap.size + 1 = w1.heap.size := by rw [← hw1]; exact (Array.size_push _).symm
  rw [hw1]
  (try rw [z1])
  have B1 := Lib.hid (B0.out.trans (b1.mono B0.out.size))
  clear b1 hw1 z1 B0
  have x9 : _ = some (Value.int .i64 p.r) := X1.out.cell (i := 9) (by decide)
  go_wp2_with fail
  go_ret
  exact KeyPost.yes rfl B1.out
set_option maxRecDepth 100000 in
set_option maxHeartbeats 8000000 in
theorem prevoke_any (c : Ct) (p : Pe) (s : Sv) (b : Nat) (x : List Li) (w : World) (hm : MapL w b x) :
    Calls Tryz.prog 114 #[.agg (rowF 14 (trC c p s b))] w (KeyPost (if presB x c.b && presB x c.d then some (lastL x c.b).v else none) w) := by
  have HM := Lib.hid hm
  obtain ⟨r, hr⟩ : ∃ y, (if presB x c.b && presB x c.d then some (lastL x c.b).v else none) = y := ⟨_, rfl⟩
  rw [hr]
  have HR := Lib.hid hr
  clear hm hr
  go_enter Tryz.func114, Tryz.ntmps114
  have B0 := Lib.hid (Below.refl w.heap.size w)
  go_upto_region 1 with fail
  obtain ⟨w1, hw1⟩ : ∃ y, w.alloc (.cells (rowF 14 (trC c p s b)) 125) = y := ⟨_, rfl⟩
  have b1 : Below w.heap.size w w1 := by rw [← hw1]; exact (Below.refl _ _).alloc (Nat.le_refl _) _
  have X1 : Hid (RowV w1 w.heap.size 125 14 (trC c p s b)) := Lib.hid (by rw [← hw1]; exact RowV.new w _ 14 (trC c p s b))
  have z1 : w.heap.size + 1 = w1.heap.size := by rw [← hw1]; exact (Array.size_push _).symm
  rw [hw1]
  (try rw [z1])
  have B1 := Lib.hid (B0.out.trans (b1.mono B0.out.size))
  clear b1 hw1 z1 B0
  have x5 : _ = some (Value.int .i64 c.b) := X1.out.cell (i := 5) (by decide)
  have P := Lib.hid (ppresent_any c p s b x c.b w1 (HM.out.below B1.out))
  have XL := Lib.hid X1.out.lt
  go_wp2_with (first | ((with_reducible (show wpList _ _ _ (Oper.mk (some 4) _ _ _ _ _ :: _) _ _)); refine Hid.out ?_))
  refine Lib.hid ?_
  refine wpList_load_rowV rfl 125 (.tmp 1) rfl w.heap.size rfl 14 _ _ (X1.out) _ Tryz.underlying125 rfl (by kernel_rfl) ?_
  go_wp2_with fail
  refine P.out.mono ?_
  rintro e w2 ⟨he, b2⟩
  have B2 := Lib.hid (B1.out.trans (b2.mono B1.out.size))
  have X2 := Lib.hid (X1.out.below b2)
  clear x5 b2 P
  by_cases h : presB x c.b = true
  · rw [if_pos h] at he
    rw [h, Bool.true_and] at HR
    subst he
    obtain ⟨l, hl⟩ : ∃ y, lastL x c.b = y := ⟨_, rfl⟩
    rw [hl] at HR ⊢
    clear h hl B1 X1
    have Zr := Lib.hid (RowV.new w2 71 5 (liC li0))
    go_upto_region 2 with ((with_reducible (show wpList _ _ _ (Oper.mk none _ _ _ _ _ :: _) _ _)); refine wpList_store_rowV (o := ⟨none, .store 71 (.tmp 3) (.tmp 8), _, _, _, _⟩) rfl 71 (.tmp 3) (.tmp 8) rfl w2.heap.size rfl 5 71 _ (liC l) rfl Zr.out (by kernel_rfl) (fun j _ => liC_one l j) ?_; intro w3 Y3 o3)
    have b3 : Below w2.heap.size w2 w3 := ((Below.refl _ _).alloc (Nat.le_refl _) _).trans (o3.out.below (Nat.le_refl _) (by rw [World.size_alloc]; omega))
    have B3 := Lib.hid (B2.out.trans (b3.mono B2.out.size))
    have X3 := Lib.hid (X2.out.below b3)
    clear b3 o3 Zr B2 X2
    have x1 : _ = some (Value.int .i64 c.d) := X3.out.cell (i := 1) (by decide)
    have P := Lib.hid (ppresent_any c p s b x c.d w3 (HM.out.below B3.out))
    go_wp2_with (first | ((with_reducible (show wpList _ _ _ (Oper.mk (some 9) _ _ _ _ _ :: _) _ _)); refine Hid.out ?_))
    refine Lib.hid ?_
    refine wpList_load_rowV rfl 125 (.tmp 1) rfl w.heap.size rfl 14 _ _ (X3.out) _ Tryz.underlying125 rfl (by kernel_rfl) ?_
    go_wp2_with fail
    refine P.out.mono ?_
    rintro e w4 ⟨he, b4⟩
    have B4 := Lib.hid (B3.out.trans (b4.mono B3.out.size))
    have y1 := li_cell (Y3.out.below b4) (i := 1) (by decide)
    clear x1 b4 P
    by_cases h : presB x c.d = true
    · rw [if_pos h] at he
      rw [if_pos h] at HR
      subst he
      obtain ⟨l2, hl2⟩ : ∃ y, lastL x c.d = y := ⟨_, rfl⟩
      rw [hl2]
      clear h hl2
      go_wp2_with fail
      go_ret
      exact KeyPost.yes HR.out.symm B4.out
    · rw [if_neg h] at he HR
      subst he
      clear h
      go_wp2_with fail
      exact ⟨rfl, KeyPost.no HR.out.symm B4.out⟩
  · rw [if_neg h] at he
    rw [Bool.not_eq_true] at h
    rw [h, Bool.false_and, if_neg Bool.false_ne_true] at HR
    subst he
    clear h
    go_wp2_with fail
    exact ⟨rfl, KeyPost.no HR.out.symm B2.out⟩
end Go.Proofs.YtpekhdahamloaaaGreatDoor

namespace Go.Proofs.YtpekhdahamloaaaGreatDoor
open Go.RowKit Cod
theorem get_mem {a : Int} {v : Value} : ∀ {m : List (Int × Value)}, IM.get m a = some v → (a, v) ∈ m
  | [], h => by cases h
  | (c, u) :: m, h => by
    unfold IM.get at h
    by_cases hc : a = c
    · rw [if_pos hc] at h; cases h; subst hc; exact List.mem_cons_self ..
    · rw [if_neg hc] at h; exact List.mem_cons_of_mem _ (get_mem h)
theorem mem_get' {a : Int} {v : Value} : ∀ {m : List (Int × Value)}, (m.map (·.1)).Nodup → (a, v) ∈ m → IM.get m a = some v
  | [], _, h => by cases h
  | (c, u) :: m, hn, h => by
    rw [List.map_cons, List.nodup_cons] at hn
    unfold IM.get
    rcases List.mem_cons.1 h with e | h'
    · cases e; rw [if_pos rfl]
    · rw [if_neg ?_]
      · exact mem_get' hn.2 h'
      · intro e; subst e; exact hn.1 (List.mem_map.2 ⟨_, h', rfl⟩)
theorem at_nodup {w : World} {b : Nat} {m : List (Int × Value)} (h : IM.At w b m) : (m.map (·.1)).Nodup := by
  obtain ⟨es, cl, _, he, hs⟩ := h
  have h1 : es.toList.map (·.key) = m.map (fun p => Value.int .i64 p.1) := by
    have := congrArg (List.map Prod.fst) he
    simpa [List.map_map, Function.comp_def] using this
  have h2 := hs.2.2
  rw [h1] at h2
  have h3 : (m.map (fun p => Value.int .i64 p.1)) = (m.map (·.1)).map (Value.int .i64) := by rw [List.map_map]; rfl
  rw [h3] at h2
  exact List.Pairwise.of_map _ (fun a b h e => h (by rw [e])) h2
theorem mem_get {w : World} {b : Nat} {m : List (Int × Value)} (h : IM.At w b m) {a : Int} {v : Value} (hm : (a, v) ∈ m) : IM.get m a = some v := mem_get' (at_nodup h) hm
def badD (p : Int) (a : Int) : Bool := devB a && decide (a.tdiv 8 = p)
theorem fam_yes {x : List Li} {m : List (Int × Value)} (h : ∀ d, IM.get m d = (getL x d).map liA) {p a : Int} {v : Value} (hm : IM.get m a = some v) (hb : badD p a = true) : famB x p = true := by
  rw [h] at hm
  cases hg : getL x a with
  | none => rw [hg] at hm; cases hm
  | some z =>
    have h1 := List.mem_of_find?_eq_some hg
    have h2 := List.find?_some hg
    simp only [decide_eq_true_eq] at h2
    unfold famB
    rw [List.any_eq_true]
    exact ⟨z, h1, by rw [h2]; exact hb⟩
theorem fam_no {x : List Li} {m : List (Int × Value)} (h : ∀ d, IM.get m d = (getL x d).map liA) {p : Int} (hb : ∀ q ∈ m, badD p q.1 = false) : famB x p = false := by
  rw [Bool.eq_false_iff]
  intro hf
  unfold famB at hf
  rw [List.any_eq_true] at hf
  obtain ⟨z, hz, hbz⟩ := hf
  have h1 := h z.d
  cases hg : getL x z.d with
  | none =>
    unfold getL at hg
    rw [List.find?_eq_none] at hg
    exact hg z hz (by simp)
  | some y =>
    rw [hg] at h1
    have h2 := hb _ (get_mem h1)
    rw [show badD p z.d = true from hbz] at h2
    cases h2
set_option maxRecDepth 100000 in
set_option maxHeartbeats 8000000 in
theorem pfirst_any (c : Ct) (p : Pe) (s : Sv) (b : Nat) (x : List Li) (w : World) (hm : MapL w b x) :
    Calls Tryz.prog 111 #[.agg (rowF 14 (trC c p s b))] w (KeyPost (if famB x p.i then none else some c.v) w) := by
  obtain ⟨m, hm1, hm2⟩ := hm
  have M0 := Lib.hid hm1
  have GM := Lib.hid hm2
  have FY : Hid (∀ a v w', (a, v) ∈ m → badD p.i a = true → Below w.heap.size w w' → KeyPost (if famB x p.i then none else some c.v) w (pan 370) w') := Lib.hid (fun a v w' h1 h2 b => KeyPost.no (if_pos (fam_yes hm2 (mem_get hm1 h1) h2)) b)
  have FN : Hid (∀ w', (∀ q ∈ m, badD p.i q.1 = false) → Below w.heap.size w w' → KeyPost (if famB x p.i then none else some c.v) w (.returned (.int .i64 c.v)) w') := Lib.hid (fun w' h b => KeyPost.yes (if_neg (by rw [fam_no hm2 h]; exact Bool.false_ne_true)) b)
  obtain ⟨r, hr⟩ : ∃ y, (if famB x p.i then none else some c.v) = y := ⟨_, rfl⟩
  rw [hr] at FY FN ⊢
  clear hm1 hm2 hr
  go_enter Tryz.func111, Tryz.ntmps111
  have B0 := Lib.hid (Below.refl w.heap.size w)
  go_upto_region 1 with fail
  obtain ⟨w1, hw1⟩ : ∃ y, w.alloc (.cells (rowF 14 (trC c p s b)) 125) = y := ⟨_, rfl⟩
  have b1 : Below w.heap.size w w1 := by rw [← hw1]; exact (Below.refl _ _).alloc (Nat.le_refl _) _
  have X1 : Hid (RowV w1 w.heap.size 125 14 (trC c p s b)) := Lib.hid (by rw [← hw1]; exact RowV.new w _ 14 (trC c p s b))
  have z1 : w.heap.size + 1 = w1.heap.size := by rw [← hw1]; exact (Array.size_push _).symm
  rw [hw1]
  (try rw [z1])
  have B1 := Lib.hid (B0.out.trans (b1.mono B0.out.size))
  have M1 := Lib.hid (M0.out.below b1)
  clear b1 hw1 z1 B0 M0
  have xm : _ = some (Value.map (some b)) := X1.out.cell (i := 13) (by decide)
  go_wp2_with (first | ((with_reducible (show wpList _ _ _ (Oper.mk (some 6) _ _ _ _ _ :: _) _ _)); refine Hid.out ?_))
  refine Lib.hid ?_
  refine IM.wpList_range rfl 123 3 71 (.tmp 5) rfl rfl M1.out Tryz.underlying123 ?_
  intro w2 R2 b2
  have X2 := Lib.hid (X1.out.below b2.out)
  have B2 := Lib.hid (B1.out.trans (b2.out.mono B1.out.size))
  have XLT := Lib.hid (show w.heap.size < w1.heap.size from X1.out.lt)
  clear b2 X1 B1 M1 xm
  go_wp2_with fail
  simp only [Act.put, List.setIfInBounds_toArray, List.set_cons_succ, List.set_cons_zero]
  go_loopg [] m.length (fun g wx => ∃ left, left.length = g ∧ Hid (IM.Rng wx b w1.heap.size m left) ∧ Hid (∀ q ∈ left, q ∈ m) ∧ Hid (∀ q ∈ m, q ∈ left ∨ badD p.i q.1 = false) ∧ Hid (RowV wx w.heap.size 125 14 (trC c p s b)) ∧ Hid (Below w.heap.size w wx))
  case atStart => exact ⟨m, rfl, R2, Lib.hid (fun q hq => hq), Lib.hid (fun q hq => .inl hq), X2, B2⟩
  case round =>
    clear R2 X2 B2
    obtain ⟨left, hg, R3, ML, Q3, X3, B3⟩ := hrel
    obtain ⟨w3, rfl⟩ : ∃ y, y = wr := ⟨_, rfl⟩
    have HG := Lib.hid hg
    clear hg
    go_wp2_with (first | ((with_reducible (show wpList _ _ _ (Oper.mk (some 7) _ _ _ _ _ :: _) _ _)); refine Hid.out ?_))
    refine Lib.hid ?_
    refine IM.wpList_next rfl (.tmp 6) rfl rfl R3.out ?_ ?_
    · intro hl
      have x2 : _ = some (Value.int .i64 c.v) := X3.out.cell (i := 2) (by decide)
      have Q4 := Lib.hid (show ∀ q ∈ m, badD p.i q.1 = false from fun q hq => by
        rcases Q3.out q hq with h | h
        · rw [hl] at h; cases h
        · exact h)
      clear hl R3 Q3 HG
      go_wp2_with fail
      go_ret
      exact FN.out _ Q4.out B3.out
    · intro w4 a v left' hp R4 O4 he
      have X4 := Lib.hid (O4.out.row (show w.heap.size ≠ w1.heap.size by have := XLT.out; omega) X3.out)
      have B4 := Lib.hid (B3.out.trans (O4.out.below (by have := XLT.out; omega) B3.out.size))
      have MB := Lib.hid (R4.out.at')
      clear R3 X3 B3 O4
      have x8 : _ = some (Value.int .i64 p.i) := X4.out.cell (i := 8) (by decide)
      go_wp2_with fail
      have D := pdev_any a w4
      have q1 : devB a = true → IntKind.i64.wrap (a.tdiv 8) = a.tdiv 8 := fun h => by
        have := (devB_iff a).1 h
        exact bits_i64 this.1 this.2
      have BD : Hid (badD p.i a = (devB a && decide (a.tdiv 8 = p.i))) := Lib.hid rfl
      obtain ⟨db, hdb⟩ : ∃ y, devB a = y := ⟨_, rfl⟩
      rw [hdb] at D q1 BD
      have MEM : Hid ((a, v) ∈ left) := Lib.hid (hp.out.mem_iff.2 (List.mem_cons_self ..))
      have LEN : Hid (left.length = left'.length + 1) := Lib.hid (by rw [hp.out.length_eq]; rfl)
      have QN : Hid (badD p.i a = false → ∀ q ∈ m, q ∈ left' ∨ badD p.i q.1 = false) := Lib.hid (fun hb q hq => by
        rcases Q3.out q hq with h | h
        · rcases List.mem_cons.1 (hp.out.mem_iff.1 h) with e | h'
          · subst e; exact .inr hb
          · exact .inl h'
        · exact .inr h)
      have ML' : Hid (∀ q ∈ left', q ∈ m) := Lib.hid (fun q hq => ML.out q (hp.out.mem_iff.2 (List.mem_cons_of_mem _ hq)))
      clear hdb hp Q3
      refine D.mono ?_
      rintro e w5 ⟨rfl, rfl⟩
      clear D
      cases db
      · clear q1 x8
        go_wp2_with fail
        refine (must_true _ _).mono ?_
        rintro e w6 ⟨rfl, rfl⟩
        go_wp2_with fail
        go_roundg left'.length
        case measure => have h1 := HG.out; have h2 := LEN.out; omega
        case rel => exact ⟨left', rfl, R4, ML', Lib.hid (QN.out (by rw [BD.out]; rfl)), X4, B4⟩
      · have q2 := q1 rfl
        clear q1
        by_cases hq : a.tdiv 8 = p.i
        · have e1 : (a.tdiv 8 != p.i) = false := by rw [bne_eq_false_iff_eq]; exact hq
          have BT : Hid (badD p.i a = true) := Lib.hid (by rw [BD.out, hq]; simp)
          clear hq
          go_wp2_with fail
          refine (must_false _ _).mono ?_
          rintro e w6 ⟨rfl, rfl⟩
          go_wp2_with fail
          exact ⟨rfl, FY.out a v _ (ML.out _ MEM.out) BT.out B4.out⟩
        · have e1 : (a.tdiv 8 != p.i) = true := by rw [bne_iff_ne]; exact hq
          have BF : Hid (badD p.i a = false) := Lib.hid (by rw [BD.out]; simp [hq])
          clear hq
          go_wp2_with fail
          refine (must_true _ _).mono ?_
          rintro e w6 ⟨rfl, rfl⟩
          go_wp2_with fail
          go_roundg left'.length
          case measure => have h1 := HG.out; have h2 := LEN.out; omega
          case rel => exact ⟨left', rfl, R4, ML', Lib.hid (QN.out BF.out), X4, B4⟩
end Go.Proofs.YtpekhdahamloaaaGreatDoor

namespace Go.Proofs.YtpekhdahamloaaaGreatDoor
/-- a listing in the place of the one of its device -/
def withL (y : Li) : List Li → List Li
  | [] => [y]
  | z :: x => if z.d < y.d then z :: withL y x else y :: (z :: x).filter (fun z => !decide (z.d = y.d))
/-! the sort -/
def swapF (f : Nat → Li) (j : Nat) (k : Nat) : Li := if k = j then f (j - 1) else if k = j - 1 then f j else f k
def Srt (f : Nat → Li) (i j : Nat) : Prop := ∀ a b, a < b → b ≤ i → b ≠ j → (f a).d ≤ (f b).d
def Srted (f : Nat → Li) (n : Nat) : Prop := ∀ a b, a < b → b < n → (f a).d ≤ (f b).d
theorem Srt.start {f : Nat → Li} {i : Nat} (h : Srted f i) : Srt f i i := fun a b hab hb hne => h a b hab (by omega)
theorem Srt.swap {f : Nat → Li} {i j : Nat} (h : Srt f i j) (hj : 0 < j) (hji : j ≤ i) (hlt : (f j).d < (f (j - 1)).d) : Srt (swapF f j) i (j - 1) := by
  intro a b hab hb hne
  unfold swapF
  by_cases hbj : b = j
  · rw [if_pos hbj]
    by_cases ha : a = j - 1
    · rw [if_neg (by omega), if_pos ha]; omega
    · rw [if_neg (by omega), if_neg ha]; exact h a (j - 1) (by omega) (by omega) (by omega)
  · rw [if_neg hbj, if_neg hne]
    by_cases ha : a = j
    · rw [if_pos ha]; exact h (j - 1) b (by omega) hb hbj
    · rw [if_neg ha]
      by_cases ha2 : a = j - 1
      · rw [if_pos ha2]; exact h j b (by omega) hb hbj
      · rw [if_neg ha2]; exact h a b hab hb hbj
theorem Srt.done {f : Nat → Li} {i j : Nat} (h : Srt f i j) (hj : 0 < j) (hji : j ≤ i) (hge : ¬ (f j).d < (f (j - 1)).d) : Srted f (i + 1) := by
  intro a b hab hb
  by_cases hbj : b = j
  · subst hbj
    by_cases ha : a = b - 1
    · rw [ha]; omega
    · have := h a (b - 1) (by omega) (by omega) (by omega); omega
  · exact h a b hab (by omega) hbj
abbrev lst (f : Nat → Li) (n : Nat) : List Li := (List.range n).map f
/-! what certificates lead to -/
def stepL (ps : List Pe) (x : List Li) (c : Ct) : List Li := if (accF ps x c).1 = 0 then withL (accF ps x c).2 x else x
end Go.Proofs.YtpekhdahamloaaaGreatDoor
