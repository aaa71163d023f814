/- errors.As at a failure of package enroll, by its contracts; refuse. -/
import Derived.Test.YtpekhdahamloaaaGreatDoorPk27
import Derived.WalkKit
import Derived.LaidEql
import Derived.Stop.Asserts
import Derived.RowKitTokens
set_option linter.unusedVariables false
set_option linter.unusedSimpArgs false
namespace Go.Proofs.YtpekhdahamloaaaGreatDoor
open Go.RowKit Go.Extern.Stop Go.Stop Go.Extern
/-- the variable that errors.As reads -/
structure ErrT (w : World) : Prop where
  lt : 0 < w.heap.size
  cell : w.cell? ⟨0, 0, none⟩ = some (.iface 177 (.agg #[.pointer (some ⟨5, 91, none⟩)]))
theorem ErrT.below {w w' : World} {n : Nat} (h : ErrT w) (hb : Below n w w') (hn : 0 < n) : ErrT w' := ⟨Nat.lt_of_lt_of_le h.lt hb.size, (hb.cell (p := ⟨0, 0, none⟩) hn).trans h.cell⟩
/-- the cells of a failure -/
def flF (z : Int) (b : Bool) (i : Nat) : Value := if i = 0 then .int .i64 z else .bool b
theorem flF_one (z : Int) (b : Bool) (j : Nat) : (flF z b j).oneCell' = true := by unfold flF; split <;> rfl
theorem eas_nil (t : Value) (w : World) :
    Calls Tryz.prog 45 #[.nilIface, t] w fun e w' => e = .returned (.bool false) ∧ Below w.heap.size w w' := by
  go_enter Tryz.func45, Tryz.ntmps45
  go_wp2_with fail
  go_ret
  exact ⟨rfl, Below.refl _ _⟩
/-! closed facts on the model's entries for internal/reflectlite, at this program's types -/
abbrev hdl (t : Nat) : Value := .pointer (some ⟨5, t, none⟩)
theorem ea_valueOfP (t : Addr) (w : World) : (ReflectliteValue.unpack (.iface 92 (.pointer (some t)))).run Tryz.prog w
    = .ok (.agg #[hdl 92, .pointer (some ⟨w.heap.size, 0, none⟩), .int .u64 150]) (w.alloc (.cells #[.pointer (some t)] 92)) := by kernel_rfl
theorem ea_typeP (a : Addr) (w : World) : (ReflectliteValue.methodAny (ReflectliteValue.valueError "reflectlite.Value.Type" 0) (fun t _ _ _ => ReflectliteType.toType t) #[.agg #[hdl 92, .pointer (some a), .int .u64 150]]).run Tryz.prog w
    = .ok (.iface 177 (.agg #[hdl 92])) w := by kernel_rfl
theorem ea_kindP (w : World) : ((ReflectliteType.abiMethod fun t => (fun a : Nat => Value.int IntKind.u8 (a : Int)) <$> Rtype.kind t) #[hdl 92]).run Tryz.prog w = .ok (.int .u8 22) w := by kernel_rfl
theorem ea_kindT (w : World) : ((ReflectliteType.abiMethod fun t => (fun a : Nat => Value.int IntKind.u8 (a : Int)) <$> Rtype.kind t) #[hdl 88]).run Tryz.prog w = .ok (.int .u8 25) w := by kernel_rfl
theorem ea_elemP (w : World) : (ReflectliteType.method ReflectliteType.elem #[.agg #[hdl 92]]).run Tryz.prog w = .ok (.iface 177 (.agg #[hdl 88])) w := by kernel_rfl
theorem ea_implT (w : World) : (ReflectliteType.relation "Implements" ReflectliteType.implements_ #[.agg #[hdl 88], .iface 177 (.agg #[hdl 91])]).run Tryz.prog w = .ok (.bool true) w := by kernel_rfl
theorem ea_typeOf (v : Value) (w : World) : (ReflectliteType.typeOf #[.iface 88 v]).run Tryz.prog w = .ok (.iface 177 (.agg #[hdl 88])) w := by kernel_rfl
theorem ea_assign (w : World) : (ReflectliteType.relation "AssignableTo" ReflectliteType.assignableTo #[.agg #[hdl 88], .iface 177 (.agg #[hdl 88])]).run Tryz.prog w = .ok (.bool true) w := by kernel_rfl
theorem ea_valueOfT (x y : Value) (w : World) : (ReflectliteValue.unpack (.iface 88 (.agg #[x, y]))).run Tryz.prog w
    = .ok (.agg #[hdl 88, .pointer (some ⟨w.heap.size, 0, none⟩), .int .u64 153]) (w.alloc (.cells #[x, y] 88)) := by kernel_rfl
theorem ea_partsP (a : Addr) (w : World) : (ReflectliteValue.parts (.agg #[hdl 92, .pointer (some a), .int .u64 150])).run Tryz.prog w = .ok (some (92, a, 150)) w := by kernel_rfl
theorem ea_partsA (a : Addr) (w : World) : (ReflectliteValue.parts (.agg #[hdl 88, .pointer (some a), .int .u64 409])).run Tryz.prog w = .ok (some (88, a, 409)) w := by kernel_rfl
theorem ea_partsT (a : Addr) (w : World) : (ReflectliteValue.parts (.agg #[hdl 88, .pointer (some a), .int .u64 153])).run Tryz.prog w = .ok (some (88, a, 153)) w := by kernel_rfl
theorem ea_elemOfP (w : World) : (Rtype.elem? 92).run Tryz.prog w = .ok (some 88) w := by kernel_rfl
theorem ea_mkT (p : Addr) (w : World) : (ReflectliteValue.mk 88 p ReflectliteValue.flagAddr).run Tryz.prog w = .ok (.agg #[hdl 88, .pointer (some p), .int .u64 409]) w := by kernel_rfl
theorem ea_direct (w : World) : (Rtype.directlyAssignable 88 88).run Tryz.prog w = .ok true w := by kernel_rfl
theorem ea_rlm (z : Sem Value) (f : TypeId → Addr → Nat → Nat → Sem Value) (v : Value) :
    ReflectliteValue.method z f #[v] = (do match ← ReflectliteValue.parts v with | none => z | some (t, a, fl) => f t a fl (fl % 32)) := rfl
theorem ea_isNilP (a p : Addr) (W : World) (ha : W.cell? a = some (.pointer (some p))) :
    (ReflectliteValue.method (ReflectliteValue.valueError "reflectlite.Value.IsNil" 0) ReflectliteValue.isNil #[.agg #[hdl 92, .pointer (some a), .int .u64 150]]).run Tryz.prog W = .ok (.bool false) W := by
  rw [ea_rlm]
  simp only [Sem.run_bind, ea_partsP, Result.andThen]
  simp [ReflectliteValue.isNil, loadVar, isAgg, underlying, Tryz.underlying92, ha, Result.andThen]
theorem ea_elemVP (a p : Addr) (W : World) (ha : W.cell? a = some (.pointer (some p))) :
    (ReflectliteValue.method (ReflectliteValue.valueError "reflectlite.Value.Elem" 0) ReflectliteValue.elem #[.agg #[hdl 92, .pointer (some a), .int .u64 150]]).run Tryz.prog W
      = .ok (.agg #[hdl 88, .pointer (some p), .int .u64 409]) W := by
  rw [ea_rlm]
  simp only [Sem.run_bind, ea_partsP, Result.andThen]
  simp [ReflectliteValue.elem, loadVar, isAgg, underlying, Tryz.underlying92, ha, Result.andThen, ea_elemOfP, ea_mkT]
theorem ea_rls (v x : Value) : ReflectliteValue.set #[v, x] = (do
    let (some (dst, a, fl), some (src, b, _)) := (← ReflectliteValue.parts v, ← ReflectliteValue.parts x)
      | unsupported (.noEntry "extern/(internal/reflectlite.Value).Set.zeroValue")
    if fl / ReflectliteValue.flagAddr % 2 == 0 then unsupported (.noEntry "extern/(internal/reflectlite.Value).Set.unaddressable")
    let val ← loadVar src b
    if ← Rtype.directlyAssignable dst src then storeVar dst a val
    else if ← Rtype.implements dst src then
      if (← Rtype.kind src) == 20 then
        match val with
        | .nilIface => unsupported (.noEntry "extern/reflectlite: a nil value of one interface type handed on as a value of another")
        | _ => storeVar dst a val
      else storeVar dst a (.iface src val)
    else panicString ("reflectlite.Set: value of type " ++ (← Rtype.spelt src) ++ " is not assignable to type " ++ (← Rtype.spelt dst))
    pure (.tuple #[])) := rfl
theorem ea_set (t b : Nat) (z : Int) (q : Bool) (g : Nat → Value) (W : World) (hb : RowV W b 88 2 (flF z q)) (ht : RowV W t 88 2 g) :
    (ReflectliteValue.set #[.agg #[hdl 88, .pointer (some ⟨t, 0, none⟩), .int .u64 409], .agg #[hdl 88, .pointer (some ⟨b, 0, none⟩), .int .u64 153]]).run Tryz.prog W
      = .ok (.tuple #[]) (W.setRow t (rowF 2 (flF z q))) := by
  have hl := run_loadVar_mid (P := Tryz.prog) W b 0 88 ((List.range 2).map (flF z q)) _ (by
    intro j v hv
    have hj : j < 2 := by have := (List.getElem?_eq_some_iff.1 hv).1; simpa using this
    have hv' : v = flF z q j := by simpa [hj] using hv.symm
    rw [Nat.zero_add, hb.cell hj, hv']) Tryz.underlying88 rfl (by kernel_rfl)
  have hs := run_storeVar_rowV (P := Tryz.prog) W t 88 2 88 g (flF z q) ht (by kernel_rfl) (fun j _ => flF_one z q j)
  rw [ea_rls]
  simp only [Sem.run_bind, ea_partsA, ea_partsT, Result.andThen]
  rw [if_neg (by decide)]
  simp only [Sem.run_bind, Sem.run_pure, hl, Result.andThen, ea_direct, if_true]
  erw [hs]
set_option maxRecDepth 100000 in
set_option maxHeartbeats 4000000 in
/-- errors.as: the error is a failure, the target a variable for one -/
theorem eas_in (z : Int) (q : Bool) (t a : Nat) (g : Nat → Value) (tg : Value) (w : World) (ha : w.cell? ⟨a, 0, none⟩ = some (.pointer (some ⟨t, 0, none⟩))) (hal : a < w.heap.size) (ht : RowV w t 88 2 g) :
    Calls Tryz.prog 87 #[.iface 88 (.agg #[.int .i64 z, .bool q]), tg, .agg #[hdl 92, .pointer (some ⟨a, 0, none⟩), .int .u64 150], .iface 177 (.agg #[hdl 88])] w
      fun e w' => e = .returned (.bool true) ∧ RowV w' t 88 2 (flF z q) ∧ OnlyB t w w' := by
  have h1 := @run_callFunc_extern Tryz.prog 126 _ ReflectliteType.typeOf Tryz.func126 (by kernel_rfl) (by kernel_rfl) (by kernel_rfl) (by kernel_rfl)
  have h2 := @run_callFunc_extern Tryz.prog 192 _ (ReflectliteType.relation "AssignableTo" ReflectliteType.assignableTo) Tryz.func192 (by kernel_rfl) (by kernel_rfl) (by kernel_rfl) (by kernel_rfl)
  have h3 := @run_callFunc_extern Tryz.prog 127 _ (ReflectliteValue.method (ReflectliteValue.valueError "reflectlite.Value.Elem" 0) ReflectliteValue.elem) Tryz.func127 (by kernel_rfl) (by kernel_rfl) (by kernel_rfl) (by kernel_rfl)
  have h4 := @run_callFunc_extern Tryz.prog 84 _ (fun args => ReflectliteValue.unpack (args.getD 0 (.tuple #[]))) Tryz.func84 (by kernel_rfl) (by kernel_rfl) (by kernel_rfl) (by kernel_rfl)
  have h5 := @run_callFunc_extern Tryz.prog 128 _ ReflectliteValue.set Tryz.func128 (by kernel_rfl) (by kernel_rfl) (by kernel_rfl) (by kernel_rfl)
  have tO := ea_typeOf
  have aT := ea_assign
  have vT := ea_valueOfT
  have mA : ∀ (h : Value) (w : World), (Go.method 348 177 (.agg #[h]) "AssignableTo").run Tryz.prog w = .ok (192, .agg #[h]) w := fun h w => by kernel_rfl
  go_enter Tryz.func87, Tryz.ntmps87
  have B0 := Lib.hid (Below.refl w.heap.size w)
  go_upto_region 1 with fail
  obtain ⟨w1, hw1⟩ : ∃ y, w.alloc (.cells #[hdl 92, .pointer (some ⟨a, 0, none⟩), .int .u64 150] 139) = y := ⟨_, rfl⟩
  have b1 : Below w.heap.size w w1 := by rw [← hw1]; exact (Below.refl _ _).alloc (Nat.le_refl _) _
  have V1 : Hid (RowV w1 w.heap.size 139 3 (fun i => if i = 0 then hdl 92 else if i = 1 then .pointer (some ⟨a, 0, none⟩) else .int .u64 150)) := Lib.hid (by rw [← hw1]; exact RowV.new w _ 3 (fun i => if i = 0 then hdl 92 else if i = 1 then .pointer (some ⟨a, 0, none⟩) else .int .u64 150))
  have z1 : w.heap.size + 1 = w1.heap.size := by rw [← hw1]; exact (Array.size_push _).symm
  rw [hw1]
  (try rw [z1])
  have B1 := Lib.hid (B0.out.trans (b1.mono B0.out.size))
  clear b1 hw1 z1 B0
  refine wp_loop_rounds 1 ?_
  rw [rounds_succ]
  go_upto_region 2 with fail
  have HA1 := Lib.hid ((B1.out.cell (p := ⟨a, 0, none⟩) hal).trans ha)
  have HT1 := Lib.hid (ht.below B1.out)
  clear ha hal ht
  have y0 : _ = some (hdl 92) := V1.out.cell (i := 0) (by decide)
  have y1 : _ = some (Value.pointer (some ⟨a, 0, none⟩)) := V1.out.cell (i := 1) (by decide)
  have y2 : _ = some (Value.int .u64 150) := V1.out.cell (i := 2) (by decide)
  have el := ea_elemVP ⟨a, 0, none⟩ ⟨t, 0, none⟩ w1 HA1.out
  have st := ea_set t w1.heap.size z q g (w1.alloc (.cells #[.int .i64 z, .bool q] 88)) (RowV.new w1 _ 2 (flF z q)) (HT1.out.below ((Below.refl _ _).alloc (Nat.le_refl _) _))
  have R := setRow_rowV (HT1.out.below ((Below.refl _ w1).alloc (Nat.le_refl _) (.cells #[.int .i64 z, .bool q] 88))) (n' := 2) (flF z q)
  have O := setRow_only (w1.alloc (.cells #[.int .i64 z, .bool q] 88)) t (rowF 2 (flF z q))
  have Y := (OnlyB.of_below (B := t) B1.out).trans ((OnlyB.of_below (B := t) ((Below.refl _ w1).alloc (Nat.le_refl _) (.cells #[.int .i64 z, .bool q] 88))).trans O)
  obtain ⟨w2, hw2⟩ : ∃ y, (w1.alloc (.cells #[.int .i64 z, .bool q] 88)).setRow t (rowF 2 (flF z q)) = y := ⟨_, rfl⟩
  rw [hw2] at st R Y
  have RH := Lib.hid R
  have YH := Lib.hid Y
  clear R Y O hw2 HT1 HA1
  go_wp2_with fail
  go_ret
  exact ⟨rfl, RH.out, YH.out⟩
set_option maxRecDepth 100000 in
set_option maxHeartbeats 4000000 in
theorem eas_hit (z : Int) (q : Bool) (t : Nat) (g : Nat → Value) (w : World) (hE : ErrT w) (ht : RowV w t 88 2 g) :
    Calls Tryz.prog 45 #[.iface 88 (.agg #[.int .i64 z, .bool q]), .iface 92 (.pointer (some ⟨t, 0, none⟩))] w
      fun e w' => e = .returned (.bool true) ∧ RowV w' t 88 2 (flF z q) ∧ OnlyB t w w' := by
  have h1 := @run_callFunc_extern Tryz.prog 84 _ (fun args => ReflectliteValue.unpack (args.getD 0 (.tuple #[]))) Tryz.func84 (by kernel_rfl) (by kernel_rfl) (by kernel_rfl) (by kernel_rfl)
  have h2 := @run_callFunc_extern Tryz.prog 85 _ (ReflectliteValue.methodAny (ReflectliteValue.valueError "reflectlite.Value.Type" 0) (fun t _ _ _ => ReflectliteType.toType t)) Tryz.func85 (by kernel_rfl) (by kernel_rfl) (by kernel_rfl) (by kernel_rfl)
  have h3 := @run_callFunc_extern Tryz.prog 86 _ (ReflectliteValue.method (ReflectliteValue.valueError "reflectlite.Value.IsNil" 0) ReflectliteValue.isNil) Tryz.func86 (by kernel_rfl) (by kernel_rfl) (by kernel_rfl) (by kernel_rfl)
  have h4 := @run_callFunc_extern Tryz.prog 184 _ (ReflectliteType.abiMethod fun t => do pure (.int .u8 (← Rtype.kind t))) Tryz.func184 (by kernel_rfl) (by kernel_rfl) (by kernel_rfl) (by kernel_rfl)
  have h5 := @run_callFunc_extern Tryz.prog 194 _ (ReflectliteType.method ReflectliteType.elem) Tryz.func194 (by kernel_rfl) (by kernel_rfl) (by kernel_rfl) (by kernel_rfl)
  have h6 := @run_callFunc_extern Tryz.prog 195 _ (ReflectliteType.relation "Implements" ReflectliteType.implements_) Tryz.func195 (by kernel_rfl) (by kernel_rfl) (by kernel_rfl) (by kernel_rfl)
  have mK : ∀ (h : Value) (w : World), (Go.method 348 177 (.agg #[h]) "Kind").run Tryz.prog w = .ok (184, h) w := fun h w => by kernel_rfl
  have mE : ∀ (h : Value) (w : World), (Go.method 348 177 (.agg #[h]) "Elem").run Tryz.prog w = .ok (194, .agg #[h]) w := fun h w => by kernel_rfl
  have mI : ∀ (h : Value) (w : World), (Go.method 348 177 (.agg #[h]) "Implements").run Tryz.prog w = .ok (195, .agg #[h]) w := fun h w => by kernel_rfl
  have vP := ea_valueOfP
  have tP := ea_typeP
  have kP := ea_kindP
  have kT := ea_kindT
  have eP := ea_elemP
  have iT := ea_implT
  have EH := Lib.hid hE
  have TH := Lib.hid ht
  clear hE ht
  go_enter Tryz.func45, Tryz.ntmps45
  have B0 := Lib.hid (Below.refl w.heap.size w)
  go_upto_region 5 with fail
  go_upto_region 6 with fail
  obtain ⟨w1, hw1⟩ : ∃ y, w.alloc (.cells #[.pointer (some ⟨t, 0, none⟩)] 92) = y := ⟨_, rfl⟩
  have b1 : Below w.heap.size w w1 := by rw [← hw1]; exact (Below.refl _ _).alloc (Nat.le_refl _) _
  have P1 : Hid (RowV w1 w.heap.size 92 1 (fun _ => .pointer (some ⟨t, 0, none⟩))) := Lib.hid (by rw [← hw1]; exact RowV.new w _ 1 (fun _ => .pointer (some ⟨t, 0, none⟩)))
  have z1 : w.heap.size + 1 = w1.heap.size := by rw [← hw1]; exact (Array.size_push _).symm
  rw [hw1]
  (try rw [z1])
  have B1 := Lib.hid (B0.out.trans (b1.mono B0.out.size))
  clear b1 hw1 z1 B0
  obtain ⟨w2, hw2⟩ : ∃ y, w1.alloc (.cells #[hdl 92, .pointer (some ⟨w.heap.size, 0, none⟩), .int .u64 150] 139) = y := ⟨_, rfl⟩
  have b2 : Below w1.heap.size w1 w2 := by rw [← hw2]; exact (Below.refl _ _).alloc (Nat.le_refl _) _
  have V2 : Hid (RowV w2 w1.heap.size 139 3 (fun i => if i = 0 then hdl 92 else if i = 1 then .pointer (some ⟨w.heap.size, 0, none⟩) else .int .u64 150)) := Lib.hid (by rw [← hw2]; exact RowV.new w1 _ 3 (fun i => if i = 0 then hdl 92 else if i = 1 then .pointer (some ⟨w.heap.size, 0, none⟩) else .int .u64 150))
  have z2 : w1.heap.size + 1 = w2.heap.size := by rw [← hw2]; exact (Array.size_push _).symm
  rw [hw2]
  (try rw [z2])
  have B2 := Lib.hid (B1.out.trans (b2.mono B1.out.size))
  have P2 := Lib.hid (P1.out.below b2)
  clear b2 hw2 z2 B1 P1
  have y0 : _ = some (hdl 92) := V2.out.cell (i := 0) (by decide)
  have y1 : _ = some (Value.pointer (some ⟨w.heap.size, 0, none⟩)) := V2.out.cell (i := 1) (by decide)
  have y2 : _ = some (Value.int .u64 150) := V2.out.cell (i := 2) (by decide)
  have c0 : w2.cell? ⟨w.heap.size, 0, none⟩ = some (.pointer (some ⟨t, 0, none⟩)) := P2.out.cell (i := 0) (by decide)
  have n3 := ea_isNilP ⟨w.heap.size, 0, none⟩ ⟨t, 0, none⟩ w2 c0
  have g3 := (EH.out.below B2.out EH.out.lt).cell
  have C := Lib.hid (eas_in z q t w.heap.size g (.iface 92 (.pointer (some ⟨t, 0, none⟩))) w2 c0 P2.out.lt (TH.out.below B2.out))
  clear c0
  go_wp2_with fail
  refine C.out.mono ?_
  rintro e w3 ⟨rfl, hr, ho⟩
  have RH := Lib.hid hr
  have YH := Lib.hid ((OnlyB.of_below (B := t) B2.out).trans ho)
  clear hr ho
  go_wp2_with fail
  go_ret
  exact ⟨rfl, RH.out, YH.out⟩
end Go.Proofs.YtpekhdahamloaaaGreatDoor
