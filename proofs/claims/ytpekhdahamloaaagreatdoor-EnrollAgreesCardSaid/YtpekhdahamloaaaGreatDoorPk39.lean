/- Package pake: Proof, Accept. Package pake: Accept. The reference of package pake: Shared. The reference of package pake: Proof, Accept. -/
import Derived.Test.YtpekhdahamloaaaGreatDoorPk38
import Derived.Test.YtpekhdahamloaaaGreatDoorPk18
import Derived.Lib.SmallJoins
set_option linter.unusedVariables false
set_option linter.unusedSimpArgs false
/-! Package pake: Proof, Accept. -/
namespace Go.Proofs.YtpekhdahamloaaaGreatDoor
open Go.RowKit
theorem sharedE_01 (r c x p : Int) : sharedE r c x p = 0 ∨ sharedE r c x p = 100 := by unfold sharedE; split <;> simp
/-- what Proof answers -/
def provedL (r c x p : Int) : List UInt8 := if sharedE r c x p = 0 then proofL (sharedL r c x p) r else zero32
theorem provedL_len (r c x p : Int) : (provedL r c x p).length = 32 := by unfold provedL; split; exact proofL_len _ _; rfl
set_option maxRecDepth 100000 in
set_option maxHeartbeats 4000000 in
theorem proved_any (r c x p : Int) (w : World) (hT : Tab w) :
    Calls Tryz.prog 35 #[.agg #[.int .i64 r, .int .i64 c, .int .i64 x], .int .i64 p] w fun e w' => e = .returned (.tuple #[digV (provedL r c x p), .int .i64 (sharedE r c x p)]) ∧ Below w.heap.size w w' := by
  have C1 := fun W h => shared_any r c x p W h
  have C2 := fun W h => proof_any (sharedL r c x p) (sharedL_len r c x p) r W h
  have he := sharedE_01 r c x p
  unfold provedL
  unfold digV at *
  obtain ⟨f, hf⟩ : ∃ f, (fun i => vB ((sharedL r c x p).getD i 0)) = f := ⟨_, rfl⟩
  obtain ⟨l, hl⟩ : ∃ l, sharedL r c x p = l := ⟨_, rfl⟩
  have g1 : ∀ j, j < 32 → (f j).oneCell' = true := by intro j _; rw [← hf]; rfl
  rw [hf] at C1 C2
  rw [hl] at C2 ⊢
  obtain ⟨e, hee⟩ : ∃ e, sharedE r c x p = e := ⟨_, rfl⟩
  rw [hee] at C1 he ⊢
  have H1 := Lib.hid C1; have HT := Lib.hid hT; have G1 := Lib.hid g1
  clear C1 hT g1 hf hee hl
  rcases he with rfl | rfl
  · rw [if_pos rfl]
    obtain ⟨g, hg⟩ : ∃ f, (fun i => vB ((proofL l r).getD i 0)) = f := ⟨_, rfl⟩
    have g2 : ∀ j, j < 32 → (g j).oneCell' = true := by intro j _; rw [← hg]; rfl
    rw [hg] at C2 ⊢
    have H2 := Lib.hid C2; have G2 := Lib.hid g2
    clear C2 g2 hg
    go_enter Tryz.func35, Tryz.ntmps35
    have B0 := Lib.hid (Below.refl w.heap.size w)
    go_upto_region 1 with fail
    obtain ⟨w1, hw1⟩ : ∃ y, w.alloc (.cells #[.int .i64 r, .int .i64 c, .int .i64 x] 23) = y := ⟨_, rfl⟩
    have b1 : Below w.heap.size w w1 := by rw [← hw1]; exact (Below.refl _ _).alloc (Nat.le_refl _) _
    have S1 : Hid (RowV w1 w.heap.size 23 3 (sideF r c x)) := Lib.hid (by rw [← hw1]; exact RowV.new w _ 3 (sideF r c x))
    have z1 : w.heap.size + 1 = w1.heap.size := by rw [← hw1]; exact (Array.size_push _).symm
    rw [hw1]
    (try rw [z1])
    have B1 := Lib.hid (B0.out.trans (b1.mono B0.out.size))
    clear b1 hw1 z1 B0
    have LT := Lib.hid B1.out.size
    obtain ⟨w2, hw2⟩ : ∃ y, w1.alloc (.cells #[.int .u8 0, .int .u8 0, .int .u8 0, .int .u8 0, .int .u8 0, .int .u8 0, .int .u8 0, .int .u8 0, .int .u8 0, .int .u8 0, .int .u8 0, .int .u8 0, .int .u8 0, .int .u8 0, .int .u8 0, .int .u8 0, .int .u8 0, .int .u8 0, .int .u8 0, .int .u8 0, .int .u8 0, .int .u8 0, .int .u8 0, .int .u8 0, .int .u8 0, .int .u8 0, .int .u8 0, .int .u8 0, .int .u8 0, .int .u8 0, .int .u8 0, .int .u8 0] 35) = y := ⟨_, rfl⟩
    have b2 : Below w1.heap.size w1 w2 := by rw [← hw2]; exact (Below.refl _ _).alloc (Nat.le_refl _) _
    have D2 : Hid (RowV w2 w1.heap.size 35 32 (fun _ => vB 0)) := Lib.hid (by rw [← hw2]; exact RowV.new w1 _ 32 (fun _ => vB 0))
    have z2 : w1.heap.size + 1 = w2.heap.size := by rw [← hw2]; exact (Array.size_push _).symm
    rw [hw2]
    (try rw [z2])
    have B2 := Lib.hid (B1.out.trans (b2.mono B1.out.size))
    have S2 := Lib.hid (S1.out.below b2)
    clear b2 hw2 z2 B1 S1
    have x0 : _ = some (Value.int .i64 r) := S2.out.cell (i := 0) (by decide)
    have x1 : _ = some (Value.int .i64 c) := S2.out.cell (i := 1) (by decide)
    have x2 : _ = some (Value.int .i64 x) := S2.out.cell (i := 2) (by decide)
    go_wp2_with fail
    refine (H1.out _ (HT.out.below B2.out)).mono ?_
    rintro e w3 ⟨rfl, b3⟩
    have B3 := Lib.hid (B2.out.trans (b3.mono B2.out.size))
    have S3 := Lib.hid (S2.out.below b3)
    have D3 := Lib.hid (D2.out.below b3)
    clear b3 B2 S2 D2
    clear x0 x1 x2
    have Zr := Lib.hid (RowV.new w3 54 32 (fun _ => vB 0))
    go_upto_region 2 with ((with_reducible (show wpList _ _ _ (Oper.mk none _ _ _ _ _ :: _) _ _)); refine wpList_store_rowV (o := ⟨none, .store 54 (.tmp 6) (.tmp 11), _, _, _, _⟩) rfl 54 (.tmp 6) (.tmp 11) rfl w3.heap.size rfl 32 54 _ f rfl Zr.out (by kernel_rfl) G1.out ?_; intro w4 Y4 o4)
    have b4 : Below w3.heap.size w3 w4 := ((Below.refl _ _).alloc (Nat.le_refl _) _).trans (o4.out.below (Nat.le_refl _) (by rw [World.size_alloc]; omega))
    have B4 := Lib.hid (B3.out.trans (b4.mono B3.out.size))
    have S4 := Lib.hid (S3.out.below b4)
    have D4 := Lib.hid (D3.out.below b4)
    clear b4 o4 Zr B3 S3 D3
    have x0 : _ = some (Value.int .i64 r) := S4.out.cell (i := 0) (by decide)
    go_wp2_with ((with_reducible (show wpList _ _ _ (Oper.mk (some 17) _ _ _ _ _ :: _) _ _)); refine wpList_load_rowV rfl 54 (.tmp 6) rfl w3.heap.size rfl 32 54 _ Y4.out _ Tryz.underlying54 rfl (by kernel_rfl) ?_)
    refine (H2.out _ (HT.out.below B4.out)).mono ?_
    rintro e w5 ⟨rfl, b5⟩
    have B5 := Lib.hid (B4.out.trans (b5.mono B4.out.size))
    have D5 := Lib.hid (D4.out.below b5)
    clear b5 x0
    go_wp2_with ((with_reducible (show wpList _ _ _ (Oper.mk none _ _ _ _ _ :: _) _ _)); refine wpList_store_rowV (o := ⟨none, .store 35 (.tmp 4) (.tmp 20), _, _, _, _⟩) rfl 35 (.tmp 4) (.tmp 20) rfl w1.heap.size rfl 32 35 _ g rfl D5.out (by kernel_rfl) G2.out ?_; intro w6 R6 O6)
    refine bodyPost_ret (v := .tuple #[.agg (rowF 32 g), .int .i64 0]) (by exact results_rowV2 (fn := Tryz.f35) (p := 4) (u := 5) (ty := 35) rfl _ _ w1.heap.size 32 35 _ _ rfl R6.out Tryz.underlying35 rfl (by kernel_rfl)) rfl ⟨rfl, ?_⟩
    exact B5.out.trans (O6.out.below LT.out B5.out.size)
  · rw [if_neg (by decide)]
    have ez : rowF 32 (fun i => vB (zero32.getD i 0)) = rowF 32 (fun _ => vB 0) := rfl
    rw [ez]
    clear ez C2
    go_enter Tryz.func35, Tryz.ntmps35
    have B0 := Lib.hid (Below.refl w.heap.size w)
    go_upto_region 1 with fail
    obtain ⟨w1, hw1⟩ : ∃ y, w.alloc (.cells #[.int .i64 r, .int .i64 c, .int .i64 x] 23) = y := ⟨_, rfl⟩
    have b1 : Below w.heap.size w w1 := by rw [← hw1]; exact (Below.refl _ _).alloc (Nat.le_refl _) _
    have S1 : Hid (RowV w1 w.heap.size 23 3 (sideF r c x)) := Lib.hid (by rw [← hw1]; exact RowV.new w _ 3 (sideF r c x))
    have z1 : w.heap.size + 1 = w1.heap.size := by rw [← hw1]; exact (Array.size_push _).symm
    rw [hw1]
    (try rw [z1])
    have B1 := Lib.hid (B0.out.trans (b1.mono B0.out.size))
    clear b1 hw1 z1 B0
    have LT := Lib.hid B1.out.size
    obtain ⟨w2, hw2⟩ : ∃ y, w1.alloc (.cells #[.int .u8 0, .int .u8 0, .int .u8 0, .int .u8 0, .int .u8 0, .int .u8 0, .int .u8 0, .int .u8 0, .int .u8 0, .int .u8 0, .int .u8 0, .int .u8 0, .int .u8 0, .int .u8 0, .int .u8 0, .int .u8 0, .int .u8 0, .int .u8 0, .int .u8 0, .int .u8 0, .int .u8 0, .int .u8 0, .int .u8 0, .int .u8 0, .int .u8 0, .int .u8 0, .int .u8 0, .int .u8 0, .int .u8 0, .int .u8 0, .int .u8 0, .int .u8 0] 35) = y := ⟨_, rfl⟩
    have b2 : Below w1.heap.size w1 w2 := by rw [← hw2]; exact (Below.refl _ _).alloc (Nat.le_refl _) _
    have D2 : Hid (RowV w2 w1.heap.size 35 32 (fun _ => vB 0)) := Lib.hid (by rw [← hw2]; exact RowV.new w1 _ 32 (fun _ => vB 0))
    have z2 : w1.heap.size + 1 = w2.heap.size := by rw [← hw2]; exact (Array.size_push _).symm
    rw [hw2]
    (try rw [z2])
    have B2 := Lib.hid (B1.out.trans (b2.mono B1.out.size))
    have S2 := Lib.hid (S1.out.below b2)
    clear b2 hw2 z2 B1 S1
    have x0 : _ = some (Value.int .i64 r) := S2.out.cell (i := 0) (by decide)
    have x1 : _ = some (Value.int .i64 c) := S2.out.cell (i := 1) (by decide)
    have x2 : _ = some (Value.int .i64 x) := S2.out.cell (i := 2) (by decide)
    go_wp2_with fail
    refine (H1.out _ (HT.out.below B2.out)).mono ?_
    rintro e w3 ⟨rfl, b3⟩
    have B3 := Lib.hid (B2.out.trans (b3.mono B2.out.size))
    have S3 := Lib.hid (S2.out.below b3)
    have D3 := Lib.hid (D2.out.below b3)
    clear b3 B2 S2 D2
    clear x0 x1 x2
    have Zr := Lib.hid (RowV.new w3 54 32 (fun _ => vB 0))
    go_upto_region 2 with ((with_reducible (show wpList _ _ _ (Oper.mk none _ _ _ _ _ :: _) _ _)); refine wpList_store_rowV (o := ⟨none, .store 54 (.tmp 6) (.tmp 11), _, _, _, _⟩) rfl 54 (.tmp 6) (.tmp 11) rfl w3.heap.size rfl 32 54 _ f rfl Zr.out (by kernel_rfl) G1.out ?_; intro w4 Y4 o4)
    have b4 : Below w3.heap.size w3 w4 := ((Below.refl _ _).alloc (Nat.le_refl _) _).trans (o4.out.below (Nat.le_refl _) (by rw [World.size_alloc]; omega))
    have B4 := Lib.hid (B3.out.trans (b4.mono B3.out.size))
    have S4 := Lib.hid (S3.out.below b4)
    have D4 := Lib.hid (D3.out.below b4)
    clear b4 o4 Zr B3 S3 D3
    go_wp2_with (first
      | ((with_reducible (show wpList _ _ _ (Oper.mk (some 15) _ _ _ _ _ :: _) _ _)); refine wpList_load_rowV rfl 35 (.tmp 4) rfl w1.heap.size rfl 32 35 _ D4.out _ Tryz.underlying35 rfl (by kernel_rfl) ?_)
      | ((with_reducible (show wpList _ _ _ (Oper.mk none _ _ _ _ _ :: _) _ _)); refine wpList_store_rowV (o := ⟨none, .store 35 (.tmp 4) (.tmp 15), _, _, _, _⟩) rfl 35 (.tmp 4) (.tmp 15) rfl w1.heap.size rfl 32 35 _ (fun _ => vB 0) rfl D4.out (by kernel_rfl) (fun _ _ => rfl) ?_; intro w9 R9 O9))
    refine bodyPost_ret (v := .tuple #[.agg (rowF 32 (fun _ => vB 0)), .int .i64 100]) (by exact results_rowV2 (fn := Tryz.f35) (p := 4) (u := 5) (ty := 35) rfl _ _ w1.heap.size 32 35 _ _ rfl R9.out Tryz.underlying35 rfl (by kernel_rfl)) rfl ⟨rfl, ?_⟩
    exact B4.out.trans (O9.out.below LT.out B4.out.size)
end Go.Proofs.YtpekhdahamloaaaGreatDoor

/-! Package pake: Accept. -/
namespace Go.Proofs.YtpekhdahamloaaaGreatDoor
open Go.RowKit
end Go.Proofs.YtpekhdahamloaaaGreatDoor

/-! The reference of package pake: Shared. -/
namespace Go.Proofs.YtpekhdahamloaaaGreatDoor
open Go.RowKit
theorem Owns.after {w w' : World} {base : Nat} {v : Value} {l : List UInt8} {row : Option Nat} (h : Owns w base v l) (hg : w.grownBy w' row) (hne : ∀ k, row = some k → k < base) : Owns w' base v l := by
  refine World.ownsRow.kept h (row := row) hg ?_
  cases hv : v.ownBlock with
  | none => exact .inl rfl
  | some k =>
    refine .inr fun he => ?_
    have h1 := hne k he.symm
    obtain ⟨_, h2⟩ := h
    rcases h2 with ⟨rfl, _⟩ | ⟨g, cap, cur, rfl, hb, _⟩
    · simp [Value.ownBlock] at hv
    · simp [Value.ownBlock] at hv; omega
theorem Owns.le {w : World} {base base' : Nat} {v : Value} {l : List UInt8} (h : Owns w base v l) (hb : base' ≤ base) : Owns w base' v l := Joins.ownsRow_le h hb
theorem Owns.lt {w : World} {base : Nat} {v : Value} {l : List UInt8} (h : Owns w base v l) : ∀ k, v.ownBlock = some k → k < w.heap.size := fun k hk => (World.ownsRow.lt h k hk).2
/-- the whole array or struct, read in a quiet region of the kind of XFloat4 -/
theorem quietN_load_rowV {P : Program} {n0 : Nat} {w : World} {ops : Array Oper} {rest : List Oper} {o : Oper} {a : Act} {Q : Act → Prop} (hgd : o.guard = none) (ty : TypeId) (x : Operand) (ho : o.op = .load ty x) (g : Nat) (hx : a.eval x = .pointer (some ⟨g, 0, none⟩)) (N : Nat) (T : TypeId) (f : Nat → Value) (hrow : RowV w g T N f) (hg : g < n0)
    (d : TypeDesc) (hu : P.underlying ty = some d) (hd : (match d with | .struct _ | .array _ _ => true | _ => false) = true) (hi : (P.info? ty).map (·.size) = some N)
    (h : wpQuiet P ops (Below n0 w) Q rest (a.put o.dst (.agg (rowF N f)))) : wpQuiet P ops (Below n0 w) Q (o :: rest) a := by
  unfold wpQuiet
  rw [if_pos (by unfold Region.wanted; rw [hgd])]
  refine ⟨.agg (rowF N f), fun W hW => ?_, h⟩
  have hr : RowV W g T N f := hrow.belowK hg hW
  have hrun := run_loadVar_row (P := P) W g T ty (rowF N f) (0, 0) d hr hu hd (by rw [rowF_size]; exact hi)
  unfold Oper.quietAt execOp
  simp only [ho, hx, Instr.loadAt, Instr.sureAddr, Sem.run_bind, Sem.run_pure, Result.andThen_ok, hrun, Oper.quietUpon, and_self]
set_option maxRecDepth 100000 in
set_option maxHeartbeats 4000000 in
theorem rshared_no1 (r c x p : Int) (h : sideB r c x = false) (w : World) :
    Calls Tryz.prog 72 #[.agg #[.int .i64 r, .int .i64 c, .int .i64 x], .int .i64 p] w fun e w' => e = .returned (.tuple #[digV zero32, .int .i64 100]) ∧ Below w.heap.size w w' := by
  have C1 := fun W => rcheckS_any r c x W
  rw [chkS_no h] at C1
  have H1 := Lib.hid C1
  rw [← zero_dig]
  clear h C1
  go_enter Tryz.func72, Tryz.ntmps72
  have B0 := Lib.hid (Below.refl w.heap.size w)
  go_upto_region 1 with fail
  obtain ⟨w1, hw1⟩ : ∃ y, w.alloc (.cells #[.int .i64 r, .int .i64 c, .int .i64 x] 23) = y := ⟨_, rfl⟩
  have b1 : Below w.heap.size w w1 := by rw [← hw1]; exact (Below.refl _ _).alloc (Nat.le_refl _) _
  have S1 : Hid (RowV w1 w.heap.size 23 3 (sideF r c x)) := Lib.hid (by rw [← hw1]; exact RowV.new w _ 3 (sideF r c x))
  have z1 : w.heap.size + 1 = w1.heap.size := by rw [← hw1]; exact (Array.size_push _).symm
  rw [hw1]
  (try rw [z1])
  have B1 := Lib.hid (B0.out.trans (b1.mono B0.out.size))
  clear b1 hw1 z1 B0
  have LT := Lib.hid B1.out.size
  obtain ⟨w2, hw2⟩ : ∃ y, w1.alloc (.cells #[.int .u8 0, .int .u8 0, .int .u8 0, .int .u8 0, .int .u8 0, .int .u8 0, .int .u8 0, .int .u8 0, .int .u8 0, .int .u8 0, .int .u8 0, .int .u8 0, .int .u8 0, .int .u8 0, .int .u8 0, .int .u8 0, .int .u8 0, .int .u8 0, .int .u8 0, .int .u8 0, .int .u8 0, .int .u8 0, .int .u8 0, .int .u8 0, .int .u8 0, .int .u8 0, .int .u8 0, .int .u8 0, .int .u8 0, .int .u8 0, .int .u8 0, .int .u8 0] 54) = y := ⟨_, rfl⟩
  have b2 : Below w1.heap.size w1 w2 := by rw [← hw2]; exact (Below.refl _ _).alloc (Nat.le_refl _) _
  have D2 : Hid (RowV w2 w1.heap.size 54 32 (fun _ => vB 0)) := Lib.hid (by rw [← hw2]; exact RowV.new w1 _ 32 (fun _ => vB 0))
  have z2 : w1.heap.size + 1 = w2.heap.size := by rw [← hw2]; exact (Array.size_push _).symm
  rw [hw2]
  (try rw [z2])
  have B2 := Lib.hid (B1.out.trans (b2.mono B1.out.size))
  have S2 := Lib.hid (S1.out.below b2)
  clear b2 hw2 z2 B1 S1
  have x0 : _ = some (Value.int .i64 r) := S2.out.cell (i := 0) (by decide)
  have x1 : _ = some (Value.int .i64 c) := S2.out.cell (i := 1) (by decide)
  have x2 : _ = some (Value.int .i64 x) := S2.out.cell (i := 2) (by decide)
  go_wp2_with fail
  refine (H1.out _).mono ?_
  rintro e w3 ⟨rfl, b3⟩
  have B3 := Lib.hid (B2.out.trans (b3.mono B2.out.size))
  have S3 := Lib.hid (S2.out.below b3)
  have D3 := Lib.hid (D2.out.below b3)
  clear b3 B2 S2 D2
  clear x0 x1 x2
  go_wp2_with ((with_reducible (show wpList _ _ _ (Oper.mk none _ _ _ _ _ :: _) _ _)); refine wpList_store_rowV (o := ⟨none, .store 54 (.tmp 4) (.tmp 18), _, _, _, _⟩) rfl 54 (.tmp 4) (.tmp 18) rfl w1.heap.size rfl 32 54 _ (fun _ => vB 0) rfl D3.out (by kernel_rfl) (fun _ _ => rfl) ?_; intro w9 R9 O9)
  refine bodyPost_ret (v := .tuple #[.agg (rowF 32 (fun _ => vB 0)), .int .i64 100]) (by exact results_rowV2 (fn := Tryz.f72) (p := 4) (u := 5) (ty := 54) rfl _ _ w1.heap.size 32 54 _ _ rfl R9.out Tryz.underlying54 rfl (by kernel_rfl)) rfl ⟨rfl, ?_⟩
  exact B3.out.trans (O9.out.below LT.out B3.out.size)
set_option maxRecDepth 100000 in
set_option maxHeartbeats 4000000 in
theorem rshared_no2 (r c x p : Int) (h : sideB r c x = true) (hp : elemB p = false) (w : World) :
    Calls Tryz.prog 72 #[.agg #[.int .i64 r, .int .i64 c, .int .i64 x], .int .i64 p] w fun e w' => e = .returned (.tuple #[digV zero32, .int .i64 100]) ∧ Below w.heap.size w w' := by
  have C1 := fun W => rcheckS_any r c x W
  rw [chkS_yes h] at C1
  have C2 := fun W => rcheck_any p W
  rw [show chk p = 40 by unfold chk; rw [hp]; rfl] at C2
  have H1 := Lib.hid C1; have H2 := Lib.hid C2
  rw [← zero_dig]
  clear h C1 C2 hp
  go_enter Tryz.func72, Tryz.ntmps72
  have B0 := Lib.hid (Below.refl w.heap.size w)
  go_upto_region 1 with fail
  obtain ⟨w1, hw1⟩ : ∃ y, w.alloc (.cells #[.int .i64 r, .int .i64 c, .int .i64 x] 23) = y := ⟨_, rfl⟩
  have b1 : Below w.heap.size w w1 := by rw [← hw1]; exact (Below.refl _ _).alloc (Nat.le_refl _) _
  have S1 : Hid (RowV w1 w.heap.size 23 3 (sideF r c x)) := Lib.hid (by rw [← hw1]; exact RowV.new w _ 3 (sideF r c x))
  have z1 : w.heap.size + 1 = w1.heap.size := by rw [← hw1]; exact (Array.size_push _).symm
  rw [hw1]
  (try rw [z1])
  have B1 := Lib.hid (B0.out.trans (b1.mono B0.out.size))
  clear b1 hw1 z1 B0
  have LT := Lib.hid B1.out.size
  obtain ⟨w2, hw2⟩ : ∃ y, w1.alloc (.cells #[.int .u8 0, .int .u8 0, .int .u8 0, .int .u8 0, .int .u8 0, .int .u8 0, .int .u8 0, .int .u8 0, .int .u8 0, .int .u8 0, .int .u8 0, .int .u8 0, .int .u8 0, .int .u8 0, .int .u8 0, .int .u8 0, .int .u8 0, .int .u8 0, .int .u8 0, .int .u8 0, .int .u8 0, .int .u8 0, .int .u8 0, .int .u8 0, .int .u8 0, .int .u8 0, .int .u8 0, .int .u8 0, .int .u8 0, .int .u8 0, .int .u8 0, .int .u8 0] 54) = y := ⟨_, rfl⟩
  have b2 : Below w1.heap.size w1 w2 := by rw [← hw2]; exact (Below.refl _ _).alloc (Nat.le_refl _) _
  have D2 : Hid (RowV w2 w1.heap.size 54 32 (fun _ => vB 0)) := Lib.hid (by rw [← hw2]; exact RowV.new w1 _ 32 (fun _ => vB 0))
  have z2 : w1.heap.size + 1 = w2.heap.size := by rw [← hw2]; exact (Array.size_push _).symm
  rw [hw2]
  (try rw [z2])
  have B2 := Lib.hid (B1.out.trans (b2.mono B1.out.size))
  have S2 := Lib.hid (S1.out.below b2)
  clear b2 hw2 z2 B1 S1
  have x0 : _ = some (Value.int .i64 r) := S2.out.cell (i := 0) (by decide)
  have x1 : _ = some (Value.int .i64 c) := S2.out.cell (i := 1) (by decide)
  have x2 : _ = some (Value.int .i64 x) := S2.out.cell (i := 2) (by decide)
  go_wp2_with fail
  refine (H1.out _).mono ?_
  rintro e w3 ⟨rfl, b3⟩
  have B3 := Lib.hid (B2.out.trans (b3.mono B2.out.size))
  have S3 := Lib.hid (S2.out.below b3)
  have D3 := Lib.hid (D2.out.below b3)
  clear b3 B2 S2 D2
  clear x0 x1 x2
  go_wp2_with fail
  refine (H2.out _).mono ?_
  rintro e wp ⟨rfl, rfl⟩
  go_wp2_with ((with_reducible (show wpList _ _ _ (Oper.mk none _ _ _ _ _ :: _) _ _)); refine wpList_store_rowV (o := ⟨none, .store 54 (.tmp 4) (.tmp 18), _, _, _, _⟩) rfl 54 (.tmp 4) (.tmp 18) rfl w1.heap.size rfl 32 54 _ (fun _ => vB 0) rfl D3.out (by kernel_rfl) (fun _ _ => rfl) ?_; intro w9 R9 O9)
  refine bodyPost_ret (v := .tuple #[.agg (rowF 32 (fun _ => vB 0)), .int .i64 100]) (by exact results_rowV2 (fn := Tryz.f72) (p := 4) (u := 5) (ty := 54) rfl _ _ w1.heap.size 32 54 _ _ rfl R9.out Tryz.underlying54 rfl (by kernel_rfl)) rfl ⟨rfl, ?_⟩
  exact B3.out.trans (O9.out.below LT.out B3.out.size)
set_option maxRecDepth 100000 in
set_option maxHeartbeats 4000000 in
theorem rshared_yes1 (c x p : Nat) (hc : c < 1000000) (hx1 : 1 ≤ x) (hx2 : x < 2305843009213688669) (hp : El p) (w : World) :
    Calls Tryz.prog 72 #[.agg #[.int .i64 1, .int .i64 c, .int .i64 x], .int .i64 (p : Int)] w fun e w' => e = .returned (.tuple #[digV (keyS 1 c x p), .int .i64 0]) ∧ Below w.heap.size w w' := by
  have C0 := fun W => rcheckS_any 1 (c : Int) (x : Int) W
  rw [chkS_yes (show sideB 1 (c : Int) (x : Int) = true from sideB_of (R := 1) (by omega) hc hx1 hx2)] at C0
  have C2 := fun W => rcheck_any (p : Int) W
  rw [show chk (p : Int) = 0 by unfold chk; rw [elemB_El hp]; rfl] at C2
  have C1 : ∀ W, Calls Tryz.prog 34 #[.agg #[.int .i64 1, .int .i64 c, .int .i64 x]] W fun e w' => e = .returned (.tuple #[.int .i64 ((pointS 1 c x : Nat) : Int), .int .i64 0]) ∧ Below W.heap.size W w' := fun W => rpoint_yes 1 c x (by omega) hc hx1 hx2 W
  have C7 : ∀ W, Calls Tryz.prog 117 #[.agg (rowF 3 (sideF 1 c x)), .int .i64 (p : Int)] W fun e w' => e = .returned (.int .i64 ((elemS 1 c x p : Nat) : Int)) ∧ Below W.heap.size W w' := fun W => relem_any 1 c x p (by omega) hc hx2 hp W
  have C10 : ∀ v W, BytesAt W v (Sha.be8 (pointS 1 c x) ++ Sha.be8 (p) ++ Sha.be8 (elemS 1 c x p)) → Calls Tryz.prog 73 #[.string sPake, v] W fun e w' => e = .returned (digV (Sha.tagged sPake.data.toList (Sha.be8 (pointS 1 c x) ++ Sha.be8 (p) ++ Sha.be8 (elemS 1 c x p)))) ∧ Below W.heap.size W w' := fun v W hv => reftagged_any sPake v _ W (by decide) (by rw [be8_3]; decide) hv
  rw [← key_1] at C10
  have b1 := (pointS_El 1 c x).lt63
  have b2 := hp.lt63
  have b3 := (elemS_El hp 1 c x).lt63
  unfold digV at C10 ⊢
  obtain ⟨F, hF⟩ : ∃ g, (fun i => vB ((keyS 1 c x p).getD i 0)) = g := ⟨_, rfl⟩
  have g1 : ∀ j, j < 32 → (F j).oneCell' = true := by intro j _; rw [← hF]; rfl
  rw [hF] at C10 ⊢
  obtain ⟨E, hE⟩ : ∃ P, elemS 1 c x p = P := ⟨_, rfl⟩
  obtain ⟨P, hP⟩ : ∃ P, pointS 1 c x = P := ⟨_, rfl⟩
  rw [hE] at C7 C10 b3
  rw [hP] at C1 C10 b1
  have H0 := Lib.hid C0; have H1 := Lib.hid C1; have H2 := Lib.hid C2; have H7 := Lib.hid C7; have H10 := Lib.hid C10
  have HH := Lib.hid (fun W => reight_any P b1 W); have HG := Lib.hid (fun W => reight_any p b2 W); have HE := Lib.hid (fun W => reight_any E b3 W)
  have G1 := Lib.hid g1
  clear C0 C1 C2 C7 C10 g1 hE hP hF b1 b2 b3 hc hx1 hx2 hp
  go_enter Tryz.func72, Tryz.ntmps72
  have B0 := Lib.hid (Below.refl w.heap.size w)
  go_upto_region 1 with fail
  obtain ⟨w1, hw1⟩ : ∃ y, w.alloc (.cells #[.int .i64 1, .int .i64 c, .int .i64 x] 23) = y := ⟨_, rfl⟩
  have b1 : Below w.heap.size w w1 := by rw [← hw1]; exact (Below.refl _ _).alloc (Nat.le_refl _) _
  have S1 : Hid (RowV w1 w.heap.size 23 3 (sideF 1 c x)) := Lib.hid (by rw [← hw1]; exact RowV.new w _ 3 (sideF 1 c x))
  have z1 : w.heap.size + 1 = w1.heap.size := by rw [← hw1]; exact (Array.size_push _).symm
  rw [hw1]
  (try rw [z1])
  have B1 := Lib.hid (B0.out.trans (b1.mono B0.out.size))
  clear b1 hw1 z1 B0
  have LT := Lib.hid B1.out.size
  obtain ⟨w2, hw2⟩ : ∃ y, w1.alloc (.cells #[.int .u8 0, .int .u8 0, .int .u8 0, .int .u8 0, .int .u8 0, .int .u8 0, .int .u8 0, .int .u8 0, .int .u8 0, .int .u8 0, .int .u8 0, .int .u8 0, .int .u8 0, .int .u8 0, .int .u8 0, .int .u8 0, .int .u8 0, .int .u8 0, .int .u8 0, .int .u8 0, .int .u8 0, .int .u8 0, .int .u8 0, .int .u8 0, .int .u8 0, .int .u8 0, .int .u8 0, .int .u8 0, .int .u8 0, .int .u8 0, .int .u8 0, .int .u8 0] 54) = y := ⟨_, rfl⟩
  have b2 : Below w1.heap.size w1 w2 := by rw [← hw2]; exact (Below.refl _ _).alloc (Nat.le_refl _) _
  have D2 : Hid (RowV w2 w1.heap.size 54 32 (fun _ => vB 0)) := Lib.hid (by rw [← hw2]; exact RowV.new w1 _ 32 (fun _ => vB 0))
  have z2 : w1.heap.size + 1 = w2.heap.size := by rw [← hw2]; exact (Array.size_push _).symm
  rw [hw2]
  (try rw [z2])
  have B2 := Lib.hid (B1.out.trans (b2.mono B1.out.size))
  have S2 := Lib.hid (S1.out.below b2)
  clear b2 hw2 z2 B1 S1
  have x0 : _ = some (Value.int .i64 1) := S2.out.cell (i := 0) (by decide)
  have x1 : _ = some (Value.int .i64 (c : Int)) := S2.out.cell (i := 1) (by decide)
  have x2 : _ = some (Value.int .i64 (x : Int)) := S2.out.cell (i := 2) (by decide)
  go_wp2_with fail
  refine (H0.out _).mono ?_
  rintro e w3 ⟨rfl, b3⟩
  have B3 := Lib.hid (B2.out.trans (b3.mono B2.out.size))
  have S3 := Lib.hid (S2.out.below b3)
  have D3 := Lib.hid (D2.out.below b3)
  clear b3 B2 S2 D2
  clear x0 x1 x2
  have x0 : _ = some (Value.int .i64 1) := S3.out.cell (i := 0) (by decide)
  have x1 : _ = some (Value.int .i64 (c : Int)) := S3.out.cell (i := 1) (by decide)
  have x2 : _ = some (Value.int .i64 (x : Int)) := S3.out.cell (i := 2) (by decide)
  go_wp2_with fail
  refine (H2.out _).mono ?_
  rintro e wp ⟨rfl, rfl⟩
  go_wp2_with fail
  refine (H1.out _).mono ?_
  rintro e w4 ⟨rfl, b4⟩
  have B4 := Lib.hid (B3.out.trans (b4.mono B3.out.size))
  have S4 := Lib.hid (S3.out.below b4)
  have D4 := Lib.hid (D3.out.below b4)
  clear b4 B3 S3 D3
  clear x0 x1 x2
  have x0 : _ = some (Value.int .i64 1) := S4.out.cell (i := 0) (by decide)
  go_upto_region 8 with fail
  clear x0
  go_cut [9] (fun s9 wx => ∃ v, s9 = v ∧ BytesAt wx v (Sha.be8 P ++ Sha.be8 p ++ Sha.be8 E) ∧ Below w4.heap.size w4 wx)
  case first =>
    refine Nn.wp_region_plan w4.heap.size 10 [] (.fp 0 (.fp 2 (.fp 6 (.fl 5 (.one 1 (.one 3 (.one 4 (.one 7 (.one 8 (.one 9 .done)))))))))) (by kernel_rfl) (by kernel_rfl) ?_
    intro w5 b5 e5
    clear e5
    have B5 := Lib.hid b5
    have S5 := Lib.hid (S4.out.below b5)
    have SL := Lib.hid S4.out.lt
    clear b5
    refine Nn.plan_pures [0, 2, 6] [_, _, _] rfl ?_
    dsimp only [List.getElem_toArray, List.getElem_cons_succ, List.getElem_cons_zero]
    repeat (go_big_quiet_step (fail))
    refine wpQuiet_nil ?_
    refine Nn.plan_floats [5] [_] rfl ?_
    dsimp only [List.getElem_toArray, List.getElem_cons_succ, List.getElem_cons_zero]
    refine quietN_load_rowV rfl 23 (.tmp 2) rfl w.heap.size rfl 3 23 _ S5.out SL.out _ Tryz.underlying23 rfl (by kernel_rfl) ?_
    refine wpQuiet_nil ?_
    refine Nn.plan_one 1 rfl (fun K hK => ?_)
    go_wp2_with fail
    refine (HH.out _).mono ?_
    rintro e w6 ⟨⟨u1, rfl, o1⟩, b6⟩
    go_wp2_with fail
    refine hK _ _ (b6.mono B5.out.size) ?_
    have B6 := Lib.hid (B5.out.trans (b6.mono B5.out.size))
    have O6 := Lib.hid (o1.le B5.out.size)
    clear o1 b6 B5 hK K
    refine Nn.plan_one 3 rfl (fun K hK => ?_)
    go_wp2_with fail
    refine (HG.out _).mono ?_
    rintro e w7 ⟨⟨u2, rfl, o2⟩, b7⟩
    go_wp2_with fail
    refine hK _ _ (b7.mono B6.out.size) ?_
    have B7 := Lib.hid (B6.out.trans (b7.mono B6.out.size))
    have O7 := Lib.hid (O6.out.below b7)
    have Y7 := Lib.hid (o2.bytesAt (by rw [be8_len]; omega))
    clear o2 b7 B6 O6 hK K
    refine Nn.plan_one 4 rfl (fun K hK => ?_)
    refine wpList_append_bytes rfl (.tmp 31) (.tmp 33) rfl w4.heap.size u1 u2 _ _ rfl rfl O7.out Y7.out (by rw [be8_len, be8_len]; omega) B7.out.size ?_
    intro v3 w8 O8 b8 _
    go_wp2_with fail
    refine hK _ _ b8.out ?_
    have B8 := Lib.hid (B7.out.trans b8.out)
    clear b8 B7 O7 Y7 hK K
    refine Nn.plan_one 7 rfl (fun K hK => ?_)
    go_wp2_with fail
    refine (H7.out _).mono ?_
    rintro e w9 ⟨rfl, b9⟩
    go_wp2_with fail
    refine hK _ _ (b9.mono B8.out.size) ?_
    have B9 := Lib.hid (B8.out.trans (b9.mono B8.out.size))
    have O9 := Lib.hid (O8.out.below b9)
    clear b9 B8 O8 hK K
    refine Nn.plan_one 8 rfl (fun K hK => ?_)
    go_wp2_with fail
    refine (HE.out _).mono ?_
    rintro e w10 ⟨⟨u4, rfl, o4⟩, b10⟩
    go_wp2_with fail
    refine hK _ _ (b10.mono B9.out.size) ?_
    have B10 := Lib.hid (B9.out.trans (b10.mono B9.out.size))
    have O10 := Lib.hid (O9.out.below b10)
    have Y10 := Lib.hid (o4.bytesAt (by rw [be8_len]; omega))
    clear o4 b10 B9 O9 hK K
    refine Nn.plan_one 9 rfl (fun K hK => ?_)
    refine wpList_append_bytes rfl (.tmp 34) (.tmp 38) rfl w4.heap.size v3 u4 _ _ rfl rfl O10.out Y10.out (by rw [List.length_append, be8_len, be8_len, be8_len]; omega) B10.out.size ?_
    intro v5 w11 O11 b11 _
    go_wp2_with fail
    refine hK _ _ b11.out ?_
    have B11 := Lib.hid (B10.out.trans b11.out)
    clear b11 B10 O10 Y10 hK K
    refine Nn.plan_done (l := [_]) rfl (fun K hK => ?_)
    go_wp2_with fail
    go_meet
    exact ⟨_, rfl, O11.out.bytesAt (by rw [be8_3]; decide), B11.out⟩
  case rest =>
    obtain ⟨v, e9, hY, hB⟩ := hcut
    obtain rfl : v = _ := e9.symm
    have B5 := Lib.hid (B4.out.trans (hB.mono B4.out.size))
    have D5 := Lib.hid (D4.out.below hB)
    have HY := Lib.hid hY
    clear hB hY B4 D4 S4
    go_wp2_with fail
    refine (H10.out _ _ HY.out).mono ?_
    rintro e w6 ⟨rfl, b6⟩
    have B6 := Lib.hid (B5.out.trans (b6.mono B5.out.size))
    have D6 := Lib.hid (D5.out.below b6)
    clear b6 B5 D5
    go_wp2_with ((with_reducible (show wpList _ _ _ (Oper.mk none _ _ _ _ _ :: _) _ _)); refine wpList_store_rowV (o := ⟨none, .store 54 (.tmp 4) (.tmp 41), _, _, _, _⟩) rfl 54 (.tmp 4) (.tmp 41) rfl w1.heap.size rfl 32 54 _ F rfl D6.out (by kernel_rfl) G1.out ?_; intro w12 R12 O12)
    refine bodyPost_ret (v := .tuple #[.agg (rowF 32 F), .int .i64 0]) (by exact results_rowV2 (fn := Tryz.f72) (p := 4) (u := 5) (ty := 54) rfl _ _ w1.heap.size 32 54 _ _ rfl R12.out Tryz.underlying54 rfl (by kernel_rfl)) rfl ⟨rfl, ?_⟩
    exact B6.out.trans (O12.out.below LT.out B6.out.size)
set_option maxRecDepth 100000 in
set_option maxHeartbeats 4000000 in
theorem rshared_yes2 (c x p : Nat) (hc : c < 1000000) (hx1 : 1 ≤ x) (hx2 : x < 2305843009213688669) (hp : El p) (w : World) :
    Calls Tryz.prog 72 #[.agg #[.int .i64 2, .int .i64 c, .int .i64 x], .int .i64 (p : Int)] w fun e w' => e = .returned (.tuple #[digV (keyS 2 c x p), .int .i64 0]) ∧ Below w.heap.size w w' := by
  have C0 := fun W => rcheckS_any 2 (c : Int) (x : Int) W
  rw [chkS_yes (show sideB 2 (c : Int) (x : Int) = true from sideB_of (R := 2) (by omega) hc hx1 hx2)] at C0
  have C2 := fun W => rcheck_any (p : Int) W
  rw [show chk (p : Int) = 0 by unfold chk; rw [elemB_El hp]; rfl] at C2
  have C1 : ∀ W, Calls Tryz.prog 34 #[.agg #[.int .i64 2, .int .i64 c, .int .i64 x]] W fun e w' => e = .returned (.tuple #[.int .i64 ((pointS 2 c x : Nat) : Int), .int .i64 0]) ∧ Below W.heap.size W w' := fun W => rpoint_yes 2 c x (by omega) hc hx1 hx2 W
  have C7 : ∀ W, Calls Tryz.prog 117 #[.agg (rowF 3 (sideF 2 c x)), .int .i64 (p : Int)] W fun e w' => e = .returned (.int .i64 ((elemS 2 c x p : Nat) : Int)) ∧ Below W.heap.size W w' := fun W => relem_any 2 c x p (by omega) hc hx2 hp W
  have C10 : ∀ v W, BytesAt W v (Sha.be8 (p) ++ Sha.be8 (pointS 2 c x) ++ Sha.be8 (elemS 2 c x p)) → Calls Tryz.prog 73 #[.string sPake, v] W fun e w' => e = .returned (digV (Sha.tagged sPake.data.toList (Sha.be8 (p) ++ Sha.be8 (pointS 2 c x) ++ Sha.be8 (elemS 2 c x p)))) ∧ Below W.heap.size W w' := fun v W hv => reftagged_any sPake v _ W (by decide) (by rw [be8_3]; decide) hv
  rw [← key_2] at C10
  have b1 := (pointS_El 2 c x).lt63
  have b2 := hp.lt63
  have b3 := (elemS_El hp 2 c x).lt63
  unfold digV at C10 ⊢
  obtain ⟨F, hF⟩ : ∃ g, (fun i => vB ((keyS 2 c x p).getD i 0)) = g := ⟨_, rfl⟩
  have g1 : ∀ j, j < 32 → (F j).oneCell' = true := by intro j _; rw [← hF]; rfl
  rw [hF] at C10 ⊢
  obtain ⟨E, hE⟩ : ∃ P, elemS 2 c x p = P := ⟨_, rfl⟩
  obtain ⟨P, hP⟩ : ∃ P, pointS 2 c x = P := ⟨_, rfl⟩
  rw [hE] at C7 C10 b3
  rw [hP] at C1 C10 b1
  have H0 := Lib.hid C0; have H1 := Lib.hid C1; have H2 := Lib.hid C2; have H7 := Lib.hid C7; have H10 := Lib.hid C10
  have HH := Lib.hid (fun W => reight_any p b2 W); have HG := Lib.hid (fun W => reight_any P b1 W); have HE := Lib.hid (fun W => reight_any E b3 W)
  have G1 := Lib.hid g1
  clear C0 C1 C2 C7 C10 g1 hE hP hF b1 b2 b3 hc hx1 hx2 hp
  go_enter Tryz.func72, Tryz.ntmps72
  have B0 := Lib.hid (Below.refl w.heap.size w)
  go_upto_region 1 with fail
  obtain ⟨w1, hw1⟩ : ∃ y, w.alloc (.cells #[.int .i64 2, .int .i64 c, .int .i64 x] 23) = y := ⟨_, rfl⟩
  have b1 : Below w.heap.size w w1 := by rw [← hw1]; exact (Below.refl _ _).alloc (Nat.le_refl _) _
  have S1 : Hid (RowV w1 w.heap.size 23 3 (sideF 2 c x)) := Lib.hid (by rw [← hw1]; exact RowV.new w _ 3 (sideF 2 c x))
  have z1 : w.heap.size + 1 = w1.heap.size := by rw [← hw1]; exact (Array.size_push _).symm
  rw [hw1]
  (try rw [z1])
  have B1 := Lib.hid (B0.out.trans (b1.mono B0.out.size))
  clear b1 hw1 z1 B0
  have LT := Lib.hid B1.out.size
  obtain ⟨w2, hw2⟩ : ∃ y, w1.alloc (.cells #[.int .u8 0, .int .u8 0, .int .u8 0, .int .u8 0, .int .u8 0, .int .u8 0, .int .u8 0, .int .u8 0, .int .u8 0, .int .u8 0, .int .u8 0, .int .u8 0, .int .u8 0, .int .u8 0, .int .u8 0, .int .u8 0, .int .u8 0, .int .u8 0, .int .u8 0, .int .u8 0, .int .u8 0, .int .u8 0, .int .u8 0, .int .u8 0, .int .u8 0, .int .u8 0, .int .u8 0, .int .u8 0, .int .u8 0, .int .u8 0, .int .u8 0, .int .u8 0] 54) = y := ⟨_, rfl⟩
  have b2 : Below w1.heap.size w1 w2 := by rw [← hw2]; exact (Below.refl _ _).alloc (Nat.le_refl _) _
  have D2 : Hid (RowV w2 w1.heap.size 54 32 (fun _ => vB 0)) := Lib.hid (by rw [← hw2]; exact RowV.new w1 _ 32 (fun _ => vB 0))
  have z2 : w1.heap.size + 1 = w2.heap.size := by rw [← hw2]; exact (Array.size_push _).symm
  rw [hw2]
  (try rw [z2])
  have B2 := Lib.hid (B1.out.trans (b2.mono B1.out.size))
  have S2 := Lib.hid (S1.out.below b2)
  clear b2 hw2 z2 B1 S1
  have x0 : _ = some (Value.int .i64 2) := S2.out.cell (i := 0) (by decide)
  have x1 : _ = some (Value.int .i64 (c : Int)) := S2.out.cell (i := 1) (by decide)
  have x2 : _ = some (Value.int .i64 (x : Int)) := S2.out.cell (i := 2) (by decide)
  go_wp2_with fail
  refine (H0.out _).mono ?_
  rintro e w3 ⟨rfl, b3⟩
  have B3 := Lib.hid (B2.out.trans (b3.mono B2.out.size))
  have S3 := Lib.hid (S2.out.below b3)
  have D3 := Lib.hid (D2.out.below b3)
  clear b3 B2 S2 D2
  clear x0 x1 x2
  have x0 : _ = some (Value.int .i64 2) := S3.out.cell (i := 0) (by decide)
  have x1 : _ = some (Value.int .i64 (c : Int)) := S3.out.cell (i := 1) (by decide)
  have x2 : _ = some (Value.int .i64 (x : Int)) := S3.out.cell (i := 2) (by decide)
  go_wp2_with fail
  refine (H2.out _).mono ?_
  rintro e wp ⟨rfl, rfl⟩
  go_wp2_with fail
  refine (H1.out _).mono ?_
  rintro e w4 ⟨rfl, b4⟩
  have B4 := Lib.hid (B3.out.trans (b4.mono B3.out.size))
  have S4 := Lib.hid (S3.out.below b4)
  have D4 := Lib.hid (D3.out.below b4)
  clear b4 B3 S3 D3
  clear x0 x1 x2
  have x0 : _ = some (Value.int .i64 2) := S4.out.cell (i := 0) (by decide)
  go_upto_region 8 with fail
  clear x0
  go_cut [9] (fun s9 wx => ∃ v, s9 = v ∧ BytesAt wx v (Sha.be8 p ++ Sha.be8 P ++ Sha.be8 E) ∧ Below w4.heap.size w4 wx)
  case first =>
    refine Nn.wp_region_plan w4.heap.size 10 [] (.fp 0 (.fp 2 (.fp 6 (.fl 5 (.one 1 (.one 3 (.one 4 (.one 7 (.one 8 (.one 9 .done)))))))))) (by kernel_rfl) (by kernel_rfl) ?_
    intro w5 b5 e5
    clear e5
    have B5 := Lib.hid b5
    have S5 := Lib.hid (S4.out.below b5)
    have SL := Lib.hid S4.out.lt
    clear b5
    refine Nn.plan_pures [0, 2, 6] [_, _, _] rfl ?_
    dsimp only [List.getElem_toArray, List.getElem_cons_succ, List.getElem_cons_zero]
    repeat (go_big_quiet_step (fail))
    refine wpQuiet_nil ?_
    refine Nn.plan_floats [5] [_] rfl ?_
    dsimp only [List.getElem_toArray, List.getElem_cons_succ, List.getElem_cons_zero]
    refine quietN_load_rowV rfl 23 (.tmp 2) rfl w.heap.size rfl 3 23 _ S5.out SL.out _ Tryz.underlying23 rfl (by kernel_rfl) ?_
    refine wpQuiet_nil ?_
    refine Nn.plan_one 1 rfl (fun K hK => ?_)
    go_wp2_with fail
    refine (HH.out _).mono ?_
    rintro e w6 ⟨⟨u1, rfl, o1⟩, b6⟩
    go_wp2_with fail
    refine hK _ _ (b6.mono B5.out.size) ?_
    have B6 := Lib.hid (B5.out.trans (b6.mono B5.out.size))
    have O6 := Lib.hid (o1.le B5.out.size)
    clear o1 b6 B5 hK K
    refine Nn.plan_one 3 rfl (fun K hK => ?_)
    go_wp2_with fail
    refine (HG.out _).mono ?_
    rintro e w7 ⟨⟨u2, rfl, o2⟩, b7⟩
    go_wp2_with fail
    refine hK _ _ (b7.mono B6.out.size) ?_
    have B7 := Lib.hid (B6.out.trans (b7.mono B6.out.size))
    have O7 := Lib.hid (O6.out.below b7)
    have Y7 := Lib.hid (o2.bytesAt (by rw [be8_len]; omega))
    clear o2 b7 B6 O6 hK K
    refine Nn.plan_one 4 rfl (fun K hK => ?_)
    refine wpList_append_bytes rfl (.tmp 31) (.tmp 33) rfl w4.heap.size u1 u2 _ _ rfl rfl O7.out Y7.out (by rw [be8_len, be8_len]; omega) B7.out.size ?_
    intro v3 w8 O8 b8 _
    go_wp2_with fail
    refine hK _ _ b8.out ?_
    have B8 := Lib.hid (B7.out.trans b8.out)
    clear b8 B7 O7 Y7 hK K
    refine Nn.plan_one 7 rfl (fun K hK => ?_)
    go_wp2_with fail
    refine (H7.out _).mono ?_
    rintro e w9 ⟨rfl, b9⟩
    go_wp2_with fail
    refine hK _ _ (b9.mono B8.out.size) ?_
    have B9 := Lib.hid (B8.out.trans (b9.mono B8.out.size))
    have O9 := Lib.hid (O8.out.below b9)
    clear b9 B8 O8 hK K
    refine Nn.plan_one 8 rfl (fun K hK => ?_)
    go_wp2_with fail
    refine (HE.out _).mono ?_
    rintro e w10 ⟨⟨u4, rfl, o4⟩, b10⟩
    go_wp2_with fail
    refine hK _ _ (b10.mono B9.out.size) ?_
    have B10 := Lib.hid (B9.out.trans (b10.mono B9.out.size))
    have O10 := Lib.hid (O9.out.below b10)
    have Y10 := Lib.hid (o4.bytesAt (by rw [be8_len]; omega))
    clear o4 b10 B9 O9 hK K
    refine Nn.plan_one 9 rfl (fun K hK => ?_)
    refine wpList_append_bytes rfl (.tmp 34) (.tmp 38) rfl w4.heap.size v3 u4 _ _ rfl rfl O10.out Y10.out (by rw [List.length_append, be8_len, be8_len, be8_len]; omega) B10.out.size ?_
    intro v5 w11 O11 b11 _
    go_wp2_with fail
    refine hK _ _ b11.out ?_
    have B11 := Lib.hid (B10.out.trans b11.out)
    clear b11 B10 O10 Y10 hK K
    refine Nn.plan_done (l := [_]) rfl (fun K hK => ?_)
    go_wp2_with fail
    go_meet
    exact ⟨_, rfl, O11.out.bytesAt (by rw [be8_3]; decide), B11.out⟩
  case rest =>
    obtain ⟨v, e9, hY, hB⟩ := hcut
    obtain rfl : v = _ := e9.symm
    have B5 := Lib.hid (B4.out.trans (hB.mono B4.out.size))
    have D5 := Lib.hid (D4.out.below hB)
    have HY := Lib.hid hY
    clear hB hY B4 D4 S4
    go_wp2_with fail
    refine (H10.out _ _ HY.out).mono ?_
    rintro e w6 ⟨rfl, b6⟩
    have B6 := Lib.hid (B5.out.trans (b6.mono B5.out.size))
    have D6 := Lib.hid (D5.out.below b6)
    clear b6 B5 D5
    go_wp2_with ((with_reducible (show wpList _ _ _ (Oper.mk none _ _ _ _ _ :: _) _ _)); refine wpList_store_rowV (o := ⟨none, .store 54 (.tmp 4) (.tmp 41), _, _, _, _⟩) rfl 54 (.tmp 4) (.tmp 41) rfl w1.heap.size rfl 32 54 _ F rfl D6.out (by kernel_rfl) G1.out ?_; intro w12 R12 O12)
    refine bodyPost_ret (v := .tuple #[.agg (rowF 32 F), .int .i64 0]) (by exact results_rowV2 (fn := Tryz.f72) (p := 4) (u := 5) (ty := 54) rfl _ _ w1.heap.size 32 54 _ _ rfl R12.out Tryz.underlying54 rfl (by kernel_rfl)) rfl ⟨rfl, ?_⟩
    exact B6.out.trans (O12.out.below LT.out B6.out.size)
theorem rshared_any (r c x p : Int) (w : World) :
    Calls Tryz.prog 72 #[.agg #[.int .i64 r, .int .i64 c, .int .i64 x], .int .i64 p] w fun e w' => e = .returned (.tuple #[digV (sharedL r c x p), .int .i64 (sharedE r c x p)]) ∧ Below w.heap.size w w' := by
  unfold sharedL sharedE
  cases h : sideB r c x with
  | false => exact rshared_no1 r c x p h w
  | true =>
    cases h2 : elemB p with
    | false => exact rshared_no2 r c x p h h2 w
    | true =>
      obtain ⟨R, C, X, rfl, rfl, rfl, hr, hc, hx1, hx2⟩ := sideB_nat h
      obtain ⟨n, rfl, h3, h4, h5⟩ := elemB_nat h2
      rcases hr with rfl | rfl
      · exact rshared_yes1 C X n hc hx1 hx2 ⟨h3, h4, h5⟩ w
      · exact rshared_yes2 C X n hc hx1 hx2 ⟨h3, h4, h5⟩ w
end Go.Proofs.YtpekhdahamloaaaGreatDoor

/-! The reference of package pake: Proof, Accept. -/
namespace Go.Proofs.YtpekhdahamloaaaGreatDoor
open Go.RowKit
end Go.Proofs.YtpekhdahamloaaaGreatDoor
