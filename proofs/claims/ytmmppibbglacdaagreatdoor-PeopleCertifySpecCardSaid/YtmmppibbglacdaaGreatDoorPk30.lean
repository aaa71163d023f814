/- Acknowledgements, in plain Lean: their form, their message, what they count for. Package acks: valid, formed. Package acks: list, message. Certificates, in plain Lean. -/
import Derived.Test.YtmmppibbglacdaaGreatDoorPk31
import Derived.Test.YtmmppibbglacdaaGreatDoorPk28
import Derived.Test.YtmmppibbglacdaaGreatDoorPk29
set_option linter.unusedVariables false
set_option linter.unusedSimpArgs false
namespace Go.Proofs.YtmmppibbglacdaaGreatDoor
open Go.RowKit Cod

structure Ak where
  f : Int
  d : Int
  s : Int
  u : Int
  ch : List UInt8
  r : Int
  g : Int
structure Ak.wf (a : Ak) : Prop where
  f : i64B a.f
  d : i64B a.d
  s : i64B a.s
  u : i64B a.u
  ch : a.ch.length = 32
  r : i64B a.r
  g : i64B a.g
theorem i64B_0 : i64B 0 := ⟨by decide, by decide⟩
def Ak.at (a : Ak) (i : Nat) : Int := match i with | 0 => a.f | 1 => a.d | 2 => a.s | 3 => a.u | 36 => a.r | _ => a.g
/-- the cells of an acknowledgement -/
def akC (a : Ak) (j : Nat) : Value := if 4 ≤ j ∧ j < 36 then vB (a.ch.getD (j - 4) 0) else .int .i64 (a.at j)
def numT (n : Int) : Tv := .mk 1 n ByteArray.empty []
def lstT (l : List Tv) : Tv := .mk 3 0 ByteArray.empty l
theorem leaf_form (n : Int) : formB (numT n) = true := by simp [numT, formB]
theorem formL_nums (zs : List Int) : formL (zs.map numT) = true := by
  induction zs with
  | nil => simp [formL]
  | cons z zs ih => rw [List.map_cons, formL_cons, leaf_form, ih]; rfl
theorem depthL_nums (zs : List Int) : depthL (zs.map numT) = 0 := by
  induction zs with
  | nil => simp [depthL]
  | cons z zs ih => rw [List.map_cons, depthL_cons, ih]; simp [numT, depthN]
theorem encL_nums_len (zs : List Int) (h : ∀ z ∈ zs, i64B z) : (encL (zs.map numT)).length ≤ 11 * zs.length := by
  induction zs with
  | nil => simp [encL]
  | cons z zs ih =>
    have h1 := h z (List.mem_cons_self ..)
    have h2 := numE_10 (zig_lt h1.1 h1.2)
    have h3 := ih fun y hy => h y (List.mem_cons_of_mem _ hy)
    rw [List.map_cons, encL_cons, List.length_append]
    have h4 : (encV (numT z)).length = (numE (zig z)).length + 1 := by simp [numT, encV]
    rw [List.length_cons]; omega
/-- a list of values that fit is encoded -/
theorem chkT_lst {l : List Tv} (hf : formL l = true) (hd : depthL l = 0) : chkT (lstT l) = 0 ∧ depthN (lstT l) ≤ 1000 := by
  have h1 : formB (lstT l) = true := by simp [lstT, formB, hf]
  have h2 : depthN (lstT l) = 1 := by simp [lstT, depthN, hd]
  refine ⟨?_, by rw [h2]; decide⟩
  unfold chkT; rw [if_pos h1, h2]; rfl
theorem encV_lst (l : List Tv) : encV (lstT l) = 3 :: (numE l.length ++ encL l) := by simp [lstT, encV]
/-! what acknowledgements count for -/
structure Mb where
  dev : Int
  sin : Int
  ver : Int
structure Mb.wf (m : Mb) : Prop where
  dev : i64B m.dev
  sin : i64B m.sin
  ver : i64B m.ver
end Go.Proofs.YtmmppibbglacdaaGreatDoor

namespace Go.Proofs.YtmmppibbglacdaaGreatDoor
open Go.RowKit Cod
/-- a slice of integers -/
def IntsS (w : World) (v : Value) (zs : List Int) : Prop := SlAt 1 w v zs.length (fun i _ => .int .i64 (zs.getD i 0))
/-- new integers -/
theorem ints_new (w : World) (T : TypeId) (zs : List Int) (n : Nat) (hn : zs.length = n) (h0 : 0 < n) (h1 : n ≤ 1000) : IntsS (w.alloc (.cells (rowF n fun i => .int .i64 (zs.getD i 0)) T)) (.slice (some ⟨w.heap.size, 0, none⟩) n n) zs := by
  have h := RowV.new w T n (fun i => .int .i64 (zs.getD i 0))
  refine .inr ⟨w.heap.size, 0, n, by rw [hn], by omega, by omega, ⟨by omega, by omega⟩, h.lt, fun i hi j hj => ?_⟩
  obtain rfl : j = 0 := by omega
  rw [show 0 + 1 * i + 0 = i by omega]
  exact h.cell (by omega)
end Go.Proofs.YtmmppibbglacdaaGreatDoor

namespace Go.Proofs.YtmmppibbglacdaaGreatDoor
open Go.RowKit Cod
/-- a list value that is built in block bv: its elements so far; w0: the world in which it began -/
structure LstI (w0 : World) (bv : Nat) (sl : Value) (ts : List Tv) (wx : World) : Prop where
  own : OwnV wx w0.heap.size sl ts
  row : RowV wx bv 90 4 (valC 3 0 ⟨#[]⟩ sl)
  only : OnlyB bv w0 wx
  lt : bv < w0.heap.size
section
variable {w0 wx : World} {bv : Nat} {sl : Value} {ts : List Tv}
theorem LstI.start (w : World) : LstI (w.alloc (.cells (rowF 4 (valC 3 0 ⟨#[]⟩ (.slice none 0 0))) 90)) w.heap.size (.slice none 0 0) [] (w.alloc (.cells (rowF 4 (valC 3 0 ⟨#[]⟩ (.slice none 0 0))) 90)) :=
  ⟨OwnV.nil _ _, RowV.new w _ 4 _, OnlyB.refl _ _, by rw [World.size_alloc]; omega⟩
theorem LstI.later {wy : World} (h : LstI w0 bv sl ts wx) (b : Below wx.heap.size wx wy) : LstI w0 bv sl ts wy :=
  ⟨h.own.keep ⟨b.os, b.tape, b.output, b.size, fun k hk _ => b.block k hk⟩ (fun k _ hk => b.block k hk), h.row.below b, h.only.trans (OnlyB.of_below b), h.lt⟩
theorem LstI.alloc (h : LstI w0 bv sl ts wx) (o : Obj) : LstI w0 bv sl ts (wx.alloc o) := h.later ((Below.refl _ _).alloc (Nat.le_refl _) o)
theorem LstI.cell (h : LstI w0 bv sl ts wx) : wx.cell? ⟨bv, 3, none⟩ = some sl := h.row.cell (i := 3) (by decide)
theorem LstI.frozen (h : LstI w0 bv sl ts wx) : wx.frozen? ⟨bv, 3, none⟩ = false := h.row.frozen 3
theorem LstI.size (h : LstI w0 bv sl ts wx) : w0.heap.size ≤ wx.heap.size := h.only.size
theorem LstI.push {w9 : World} {v9 : Value} {t : Tv} (h : LstI w0 bv sl ts wx) (hO : OwnV w9 w0.heap.size v9 (ts ++ [t])) (s : AppStep wx sl w9 v9) :
    LstI w0 bv v9 (ts ++ [t]) (w9.setCell ⟨bv, 3, none⟩ v9) := by
  have hl : ∀ k, sl.ownBlock = some k → w0.heap.size ≤ k := fun k e => (h.own.lt k e).1
  have o := (OnlyB.refl bv w9).setCell (p := ⟨bv, 3, none⟩) (.inl rfl) v9
  have hr : RowV w9 bv 90 4 (valC 3 0 ⟨#[]⟩ sl) := s.row h.row (fun e => by have := hl bv e; have := h.lt; omega)
  exact ⟨hO.only (rb := bv) o.os o.tape o.output o.size o.block h.lt, V_set hr 3 v9 (by intro i hi; match i, hi with | 0, _ => rfl | 1, _ => rfl | 2, _ => rfl | 3, _ => rfl), (only_app h.only s hl).trans o, h.lt⟩
theorem LstI.value (h : LstI w0 bv sl ts wx) (hn : ts.length ≤ 1000000) : CodAt wx (.agg #[.int .i64 3, .int .i64 0, .string ⟨#[]⟩, sl]) (lstT ts) := by
  obtain ⟨c, h1, h2⟩ := h.own.read (S := fun b => True) (by omega) (fun _ _ => trivial)
  exact .mk 3 0 ByteArray.empty sl ts c ⟨by decide, by decide⟩ ⟨by decide, by decide⟩ (by decide) h1.at' (fun i hi => (h2 i hi).at')
theorem LstI.slice (h : LstI w0 bv sl ts wx) : ∃ (a : Option Addr) (n c : Nat), sl = .slice a n c := by obtain ⟨a, c, e⟩ := h.own.slice; exact ⟨a, _, c, e⟩
/-- behind the append, ahead of the store -/
theorem LstI.mid {w9 : World} {v9 : Value} (h : LstI w0 bv sl ts wx) (s : AppStep wx sl w9 v9) : w9.cell? ⟨bv, 3, none⟩ = some sl ∧ w9.frozen? ⟨bv, 3, none⟩ = false := by
  have hr : RowV w9 bv 90 4 (valC 3 0 ⟨#[]⟩ sl) := s.row h.row (fun e => by have := (h.own.lt bv e).1; have := h.lt; omega)
  exact ⟨hr.cell (i := 3) (by decide), hr.frozen 3⟩
theorem OwnV.slice3 {w : World} {base : Nat} {v : Value} {ts : List Tv} (h : OwnV w base v ts) : ∃ (a : Option Addr) (n c : Nat), v = .slice a n c := by obtain ⟨a, c, e⟩ := h.slice; exact ⟨a, _, c, e⟩
theorem LstI.row' (h : LstI w0 bv sl ts wx) {B n : Nat} {T : TypeId} {g : Nat → Value} (r : RowV w0 B T n g) (hne : B ≠ bv) : RowV wx B T n g := h.only.row hne r
end
theorem leafS (S : Nat → Prop) (w : World) {n : Int} (hn : i64B n) : CodS S w (.agg (rowF 4 (valC 1 n ⟨#[]⟩ (.slice none 0 0)))) (numT n) := CodS.leaf S w ⟨by decide, by decide⟩ hn (by decide)
end Go.Proofs.YtmmppibbglacdaaGreatDoor

namespace Go.Proofs.YtmmppibbglacdaaGreatDoor
open Go.RowKit Cod

/-! numbers in a list, encoded -/
def encN (zs : List Int) : List UInt8 := encV (lstT (zs.map numT))
theorem encN_len (zs : List Int) (h : ∀ z ∈ zs, i64B z) (hl : zs.length ≤ 100) : (encN zs).length ≤ 2000 := by
  unfold encN
  rw [encV_lst, List.length_cons, List.length_append]
  have h1 := encL_nums_len zs h
  have h5 := numE_10 (u := (zs.map numT).length) (by rw [List.length_map]; omega)
  omega
theorem encN_chk (zs : List Int) : chkT (lstT (zs.map numT)) = 0 ∧ depthN (lstT (zs.map numT)) ≤ 1000 := chkT_lst (formL_nums zs) (depthL_nums zs)

/-! certificates -/
structure Ct where
  k : Int
  d : Int
  v : Int
  l : Int
  n : Int
  b : Int
  r : Int
  g : Int
structure Ct.wf (c : Ct) : Prop where
  k : i64B c.k
  d : i64B c.d
  v : i64B c.v
  l : i64B c.l
  n : i64B c.n
  b : i64B c.b
  r : i64B c.r
  g : i64B c.g
def ct0 : Ct := ⟨0, 0, 0, 0, 0, 0, 0, 0⟩
theorem ct0_wf : ct0.wf := ⟨i64B_0, i64B_0, i64B_0, i64B_0, i64B_0, i64B_0, i64B_0, i64B_0⟩
def Ct.at (c : Ct) (i : Nat) : Int := match i with | 0 => c.k | 1 => c.d | 2 => c.v | 3 => c.l | 4 => c.n | 5 => c.b | 6 => c.r | _ => c.g
/-- the cells of a certificate -/
def ctC (c : Ct) (j : Nat) : Value := .int .i64 (c.at j)
theorem ctC_one (c : Ct) (j : Nat) : (ctC c j).oneCell' = true := rfl
def devB (d : Int) : Bool := decide (0 ≤ d) && decide (d < 512)
def keysB (v l : Int) : Bool := elemB v && elemB l
def otherB (d b : Int) : Bool := devB b && !(b == d) && decide (b.tdiv 8 = d.tdiv 8)
def kindB (c : Ct) : Bool :=
  if c.k = 1 then keysB c.v c.l && decide (c.b = c.d) else if c.k = 2 then keysB c.v c.l && otherB c.d c.b else if c.k = 3 then keysB c.v c.l && decide (c.b = -1)
  else if c.k = 4 then decide (c.v = 0) && decide (c.l = 0) && otherB c.d c.b else false
def formC (c : Ct) : Bool := devB c.d && !decide (c.n < 1) && !decide (1048576 < c.n) && kindB c
def numsC (c : Ct) : List Int := [c.k, c.d, c.v, c.l, c.n, c.b]
theorem numsC_bd {c : Ct} (h : c.wf) : ∀ z ∈ numsC c, i64B z := by
  intro z hz
  simp only [numsC, List.mem_cons, List.not_mem_nil, or_false] at hz
  rcases hz with rfl | rfl | rfl | rfl | rfl | rfl
  · exact h.k
  · exact h.d
  · exact h.v
  · exact h.l
  · exact h.n
  · exact h.b
def tagCert : List UInt8 := [99, 101, 114, 116]
def msgC (c : Ct) : List UInt8 := Sha.tagged tagCert (encN (numsC c))
theorem msgC_len (c : Ct) : (msgC c).length = 32 := tagged_len _ _
/-- what Certify answers -/
def crtE (c : Ct) (x : Int) : Int := if formC c then pubE x else 370
def crtV (c : Ct) (x : Int) : Ct := if crtE c x = 0 then ⟨c.k, c.d, c.v, c.l, c.n, c.b, sgR x (msgC c), sgS x (msgC c)⟩ else ct0
def ctN (k d v l n b : Int) : Ct := ⟨k, d, v, l, n, b, 0, 0⟩
end Go.Proofs.YtmmppibbglacdaaGreatDoor
