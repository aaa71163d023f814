/- A host and a guest with one code, in plain Lean: the keys are certified, and the certificate is accepted. -/
import Derived.Test.YtpekhdahamloaaaGreatDoorPk51
import Derived.Test.YtpekhdahamloaaaGreatDoorPk43
set_option linter.unusedVariables false
set_option linter.unusedSimpArgs false
namespace Go.Proofs.YtpekhdahamloaaaGreatDoor
open Go.RowKit Cod
def perN (z : Int) : Nat := (z % 18446744073709551616).toNat % 64
def keyN (z : Int) : Nat := 1 + (z % 18446744073709551616).toNat % 1000000
theorem i64_and7 (n : Int) : bits .and .i64 n 7 = n % 8 := by
  have h1 : (BitVec.ofInt 64 7).toNat = 2 ^ 3 - 1 := by decide
  have key : (BitVec.ofInt 64 n &&& BitVec.ofInt 64 7).toNat = (n % ((2 ^ 64 : Nat) : Int)).toNat % 2 ^ 3 := by
    rw [BitVec.toNat_and, BitVec.toNat_ofInt, h1, Nat.and_two_pow_sub_one_eq_mod]
  show IntKind.i64.wrap ((BitVec.ofInt 64 n &&& BitVec.ofInt 64 7).toNat : Nat) = n % 8
  rw [key, IntKind.wrap_i64]
  omega
structure Agr where
  p : Nat
  c : Nat
  a : Nat
  b : Nat
  k : Nat
  h : Int
  g : Int
structure Agr.ok (z : Agr) : Prop where
  p : z.p < 64
  c : z.c < 1000000
  a1 : 1 ≤ z.a
  a2 : z.a < 2305843009213688669
  b1 : 1 ≤ z.b
  b2 : z.b < 2305843009213688669
  k1 : 1 ≤ z.k
  k2 : z.k ≤ 1000000
  h : devB z.h = true
  hp : z.h.tdiv 8 = (z.p : Int)
  g : devB z.g = true
  gp : z.g.tdiv 8 = (z.p : Int)
  ne : ¬ z.h = z.g
section
variable (z : Agr)
def Agr.kr : Int := pubV (z.k : Int)
def Agr.kv : Int := pubV ((z.k : Int) + 1)
def Agr.kl : Int := pubV ((z.k : Int) + 2)
def Agr.ko : Int := pubV ((z.k : Int) + 3)
def Agr.s (d : Bool) : Ss := ⟨1, (z.c : Int), (z.a : Int), (z.p : Int), 0, d⟩
def Agr.pt : Int := ((pointS 1 z.c z.a : Nat) : Int)
def Agr.q : Rq := ⟨((pointS 2 z.c z.b : Nat) : Int), z.g, z.kv, z.kl, prfL (proofL (keyS 2 z.c z.b (pointS 1 z.c z.a)) 2) z.g z.kv z.kl⟩
def Agr.ct : Ct := crtV (certQ z.q 1 z.h) ((z.k : Int) + 3)
def Agr.pe : Pe := ⟨(z.p : Int), z.kr, [], 0, 0⟩
def Agr.li : Li := ⟨z.h, z.ko, z.ko, 1, false⟩
def Agr.y : Li := ⟨z.g, z.kv, z.kl, 1, false⟩
end
section
variable {z : Agr} (o : z.ok)
include o
theorem Agr.pr (j : Nat) (hj : j ≤ 3) : privB ((z.k : Int) + (j : Int)) = true := by
  have h1 := o.k1; have h2 := o.k2
  exact priv_of (x := z.k + j) (by omega) (by omega)
theorem Agr.p0 : privB (z.k : Int) = true := by have h1 := o.k1; have h2 := o.k2; exact priv_of (x := z.k) (by omega) (by omega)
theorem Agr.p1 : privB ((z.k : Int) + 1) = true := Agr.pr o 1 (by decide)
theorem Agr.p2 : privB ((z.k : Int) + 2) = true := Agr.pr o 2 (by decide)
theorem Agr.p3 : privB ((z.k : Int) + 3) = true := Agr.pr o 3 (by decide)
theorem Agr.er : elemB z.kr = true := pubV_El (Agr.p0 o)
theorem Agr.ev : elemB z.kv = true := pubV_El (Agr.p1 o)
theorem Agr.el : elemB z.kl = true := pubV_El (Agr.p2 o)
theorem Agr.oks (d : Bool) : okSs (z.s d) = true := by have := o.p; exact ok_host o.c o.a1 o.a2 (by omega) (by decide)
theorem Agr.new : newE (z.p : Int) (z.c : Int) (z.a : Int) = 0 ∧ newV (z.p : Int) (z.c : Int) (z.a : Int) = z.s false := by
  have e : newE (z.p : Int) (z.c : Int) (z.a : Int) = 0 := by
    have := o.p
    unfold newE
    rw [if_neg (by omega)]
    unfold chkS
    rw [show sideB 1 (z.c : Int) (z.a : Int) = true from sideB_of (R := 1) (.inl rfl) o.c o.a1 o.a2]
    rfl
  refine ⟨e, ?_⟩
  unfold newV
  rw [if_pos e]; rfl
theorem Agr.point : sptV (z.s false) = z.pt := by
  unfold sptV
  rw [if_pos (Agr.oks o false)]
  exact pt_host o.c o.a1 o.a2
theorem Agr.chk (d : Bool) : chkSs (z.s d) = 0 := chk_of (Agr.oks o d)
theorem Agr.askB : askB z.g z.kv z.kl = true := by unfold Go.Proofs.YtpekhdahamloaaaGreatDoor.askB; rw [o.g, Agr.ev o, Agr.el o]; rfl
theorem Agr.ask : askE (z.c : Int) (z.b : Int) z.pt z.g z.kv z.kl = 0 ∧ askV (z.c : Int) (z.b : Int) z.pt z.g z.kv z.kl = z.q := ask_ok o.c o.b1 o.b2 (Agr.askB o)
theorem Agr.form : formC (certQ z.q 1 z.h) = true := by
  unfold certQ formC kindB keysB otherB
  show (devB z.g && !decide ((1 : Int) < 1) && !decide (1048576 < (1 : Int)) && (if (2 : Int) = 1 then _ else if (2 : Int) = 2 then (elemB z.kv && elemB z.kl) && (devB z.h && !(z.h == z.g) && decide (z.h.tdiv 8 = z.g.tdiv 8)) else _)) = true
  have hne : (z.h == z.g) = false := by rw [beq_eq_false_iff_ne]; exact o.ne
  rw [if_neg (by decide), if_pos rfl, o.g, o.h, Agr.ev o, Agr.el o, hne, decide_eq_true (show z.h.tdiv 8 = z.g.tdiv 8 by rw [o.hp, o.gp])]; rfl
theorem Agr.crt : crtE (certQ z.q 1 z.h) ((z.k : Int) + 3) = 0 := by unfold crtE; rw [if_pos (Agr.form o)]; unfold pubE; rw [if_pos (Agr.p3 o)]
theorem Agr.fits : fitsQ (z.s false) z.q = true := by
  unfold fitsQ
  show (devB z.g && decide (z.g.tdiv 8 = (z.p : Int)) && elemB ((pointS 2 z.c z.b : Nat) : Int) && elemB z.kv && elemB z.kl) = true
  rw [o.g, decide_eq_true o.gp, elemB_El (pointS_El 2 z.c z.b), Agr.ev o, Agr.el o]; rfl
theorem Agr.ans : ansE (z.s false) z.q 1 z.h ((z.k : Int) + 3) = 0 ∧ ansS (z.s false) z.q 1 z.h ((z.k : Int) + 3) = z.s true ∧ ansC (z.s false) z.q 1 z.h ((z.k : Int) + 3) = z.ct :=
  ans_yes (pre_go (Agr.oks o false) (show (0 : Int) ≠ 5 by decide) rfl (Agr.fits o) (Agr.crt o)) (want_ok o.c o.a1 o.a2).symm
theorem Agr.again : ansE (z.s true) z.q 1 z.h ((z.k : Int) + 3) = 380 := (ans_done (Agr.oks o true) (show (0 : Int) ≠ 5 by decide) rfl).1
theorem Agr.ctE : z.ct = ⟨2, z.g, z.kv, z.kl, 1, z.h, sgR ((z.k : Int) + 3) (msgC (certQ z.q 1 z.h)), sgS ((z.k : Int) + 3) (msgC (certQ z.q 1 z.h))⟩ := by
  unfold Agr.ct; rw [crt_is, if_pos (Agr.crt o)]; rfl
theorem Agr.chkP : chkPe [z.pe] = true := by
  unfold chkPe
  refine allB_true fun i hi => ?_
  obtain rfl : i = 0 := by simp at hi; exact hi
  unfold okPe hdPe cntB
  show (!decide ((z.p : Int) < 0) && (!decide ((64 : Int) ≤ (z.p : Int)) && ((decide (0 = 0) || _) && (elemB z.kr && (!decide ((0 : Int) < 0) && !decide ((1048576 : Int) < 0))))) && (_ && allB _ 0)) = true
  have := o.p
  rw [Agr.er o, show decide ((z.p : Int) < 0) = false by rw [decide_eq_false_iff_not]; omega, show decide ((64 : Int) ≤ (z.p : Int)) = false by rw [decide_eq_false_iff_not]; omega]; rfl
theorem Agr.acc : accF [z.pe] [z.li] z.ct = (0, z.y) := by
  have e := Agr.ctE o
  have hg : getL [z.li] z.g = none := by unfold getL; rw [List.find?_cons_of_neg (by simp [Agr.li, o.ne])]; rfl
  have hh : getL [z.li] z.h = some z.li := by unfold getL; rw [List.find?_cons_of_pos (by simp [Agr.li])]
  have hl : lastL [z.li] z.g = li0 := by unfold lastL; rw [hg]; rfl
  have hb : lastL [z.li] z.h = z.li := by unfold lastL; rw [hh]; rfl
  have r : resF [z.li] z.ct = z.y := by rw [e]; unfold resF; rw [if_neg (show ¬ (2 : Int) = 4 by decide)]; rfl
  rw [← r]
  refine acc_ok (p := z.pe) (key := z.ko) (Agr.chkP o) ?_ ?_ ?_ ?_ ?_
  · have f := Agr.form o; rw [e]; exact f
  · rw [e]
    show findP [z.pe] (z.g.tdiv 8) = _
    unfold findP
    rw [List.find?_cons_of_pos (by simp [Agr.pe, o.gp])]
  · rw [e]
    show (1 : Int) = IntKind.i64.wrap ((lastL [z.li] z.g).n + 1)
    rw [hl]; rfl
  · rw [key_enroll (by rw [e])]
    rw [show z.ct.b = z.h by rw [e]]
    have hp : presB [z.li] z.h = true := by unfold presB; rw [hb, hh]; rfl
    rw [if_pos hp, hb]; rfl
  · have v := ver_pub (Agr.p3 o) (msgC (certQ z.q 1 z.h))
    rw [e]; exact v
theorem Agr.qwf : z.q.wf := by
  have hd : i64B z.g := by have := (devB_iff z.g).1 o.g; unfold i64B; omega
  have hv : i64B z.kv := by unfold Agr.kv; rw [pubV_nat (Agr.p1 o)]; exact pt_bd (pow4_El _)
  have hl : i64B z.kl := by unfold Agr.kl; rw [pubV_nat (Agr.p2 o)]; exact pt_bd (pow4_El _)
  exact ⟨pt_bd (pointS_El 2 z.c z.b), hd, hv, hl, prfL_len _ _ _ _⟩
theorem Agr.cwf : z.ct.wf := by
  have q := Agr.qwf o
  have hd : i64B z.h := by have := (devB_iff z.h).1 o.h; unfold i64B; omega
  exact crt_wf _ ⟨show i64B 2 from ⟨by decide, by decide⟩, q.dv, q.vf, q.lf, show i64B 1 from ⟨by decide, by decide⟩, hd, i64B_0, i64B_0⟩
end
end Go.Proofs.YtpekhdahamloaaaGreatDoor
