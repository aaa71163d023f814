import Derived.Test.YtajcpbchpcnmaaaPolyRows
import Derived.Test.YtajcpbchpcnmaaaRowsAt
import Derived.Test.YtajcpbchpcnmaaaQTail
import Derived.Deep.CutBlock
import Derived.Deep.DeepCutAuto
import Derived.Deep.Light
import Derived.Deep.RegionHeld3
set_option linter.unusedVariables false
set_option linter.unusedSimpArgs false
namespace Go.Proofs.Ytajcpbchpcnmaaa
open Go.RowKit
/-- n coefficients -/
def polyRow (n : Nat) (zs : List Int) : List Nat := zs.map ofQ ++ List.replicate (n - zs.length) 0
theorem polyRow_length {n : Nat} {zs : List Int} (h : zs.length ≤ n) : (polyRow n zs).length = n := by
  simp [polyRow]; omega
theorem polyRow_lo {n k : Nat} {zs : List Int} (h : k < zs.length) : (polyRow n zs)[k]? = some (ofQ (zs[k]?.getD 0)) := by
  rw [polyRow, List.getElem?_append_left (by rw [List.length_map]; exact h)]
  simp [h]
theorem polyRow_hi {n k : Nat} {zs : List Int} (h : zs.length ≤ k) (hk : k < n) : (polyRow n zs)[k]? = some 0 := by
  rw [polyRow, List.getElem?_append_right (by rw [List.length_map]; exact h), List.getElem?_replicate, if_pos (by rw [List.length_map]; omega)]
theorem polyRow_lt {n : Nat} {zs : List Int} : ∀ d ∈ polyRow n zs, d < 2305843009213688669 := by
  intro d hd
  rcases List.mem_append.1 hd with h | h
  · obtain ⟨z, _, rfl⟩ := List.mem_map.1 h
    exact ofQ_lt z
  · rw [List.eq_of_mem_replicate h]; decide
/-- what holds in memory before round k -/
def PolyInv (w0 : World) (P Q : List Nat) (m n bp bq bs bx : Nat) (jp jq js k : Nat) (wx : World) : Prop :=
  (RowAt wx bp (fillR P n jp) ∧ RowAt wx bq (fillR Q n jq) ∧ RowAt wx bs (fillR (List.zipWith addQ P Q) n js) ∧ RowAt wx bx (prodR m P n k) ∧ Below w0.heap.size w0 wx) ∧ (bp ≠ bq ∧ bp ≠ bs ∧ bq ≠ bs ∧ bp ≠ bx ∧ bq ≠ bx ∧ bs ≠ bx) ∧ w0.heap.size ≤ bp ∧ w0.heap.size ≤ bq ∧ w0.heap.size ≤ bs ∧ w0.heap.size ≤ bx
section
variable {w0 wx : World} {P Q : List Nat} {m n bp bq bs bx jp jq js k : Nat}
theorem PolyInv.below (h : PolyInv w0 P Q m n bp bq bs bx jp jq js k wx) {w' : World} (hb : Below wx.heap.size wx w') : PolyInv w0 P Q m n bp bq bs bx jp jq js k w' :=
  ⟨⟨h.1.1.below hb, h.1.2.1.below hb, h.1.2.2.1.below hb, h.1.2.2.2.1.below hb, h.1.2.2.2.2.trans (hb.mono h.1.2.2.2.2.size)⟩, h.2⟩
theorem PolyInv.setP (h : PolyInv w0 P Q m n bp bq bs bx k jq js jp wx) (hk : k < n) {c : Nat} (hx : P[k]? = some c) : PolyInv w0 P Q m n bp bq bs bx (k + 1) jq js jp (wx.setCell ⟨bp, k, none⟩ (.int .i64 (c : Int))) := by
  obtain ⟨⟨h1, h2, h3, h4, h5⟩, ⟨d1, d2, d3, d4, d5, d6⟩, g⟩ := h
  exact ⟨⟨fillR_set hk hx ▸ h1.set k c, h2.other (Ne.symm d1) _, h3.other (Ne.symm d2) _, h4.other (Ne.symm d4) _, h5.setCell (p := ⟨bp, k, none⟩) g.1 _⟩, ⟨d1, d2, d3, d4, d5, d6⟩, g⟩
theorem PolyInv.setQ (h : PolyInv w0 P Q m n bp bq bs bx jp k js jq wx) (hk : k < n) {c : Nat} (hx : Q[k]? = some c) : PolyInv w0 P Q m n bp bq bs bx jp (k + 1) js jq (wx.setCell ⟨bq, k, none⟩ (.int .i64 (c : Int))) := by
  obtain ⟨⟨h1, h2, h3, h4, h5⟩, ⟨d1, d2, d3, d4, d5, d6⟩, g⟩ := h
  exact ⟨⟨h1.other d1 _, fillR_set hk hx ▸ h2.set k c, h3.other (Ne.symm d3) _, h4.other (Ne.symm d5) _, h5.setCell (p := ⟨bq, k, none⟩) g.2.1 _⟩, ⟨d1, d2, d3, d4, d5, d6⟩, g⟩
theorem PolyInv.setS (h : PolyInv w0 P Q m n bp bq bs bx jp jq k js wx) (hk : k < n) {c : Nat} (hx : (List.zipWith addQ P Q)[k]? = some c) : PolyInv w0 P Q m n bp bq bs bx jp jq (k + 1) js (wx.setCell ⟨bs, k, none⟩ (.int .i64 (c : Int))) := by
  obtain ⟨⟨h1, h2, h3, h4, h5⟩, ⟨d1, d2, d3, d4, d5, d6⟩, g⟩ := h
  exact ⟨⟨h1.other d2 _, h2.other d3 _, fillR_set hk hx ▸ h3.set k c, h4.other (Ne.symm d6) _, h5.setCell (p := ⟨bs, k, none⟩) g.2.2.1 _⟩, ⟨d1, d2, d3, d4, d5, d6⟩, g⟩
theorem PolyInv.skipP (h : PolyInv w0 P Q m n bp bq bs bx k jq js jp wx) (hk : k < n) (hx : P[k]? = some 0) : PolyInv w0 P Q m n bp bq bs bx (k + 1) jq js jp wx :=
  ⟨⟨fillR_skip hk hx ▸ h.1.1, h.1.2⟩, h.2⟩
theorem PolyInv.skipQ (h : PolyInv w0 P Q m n bp bq bs bx jp k js jq wx) (hk : k < n) (hx : Q[k]? = some 0) : PolyInv w0 P Q m n bp bq bs bx jp (k + 1) js jq wx :=
  ⟨⟨h.1.1, fillR_skip hk hx ▸ h.1.2.1, h.1.2.2⟩, h.2⟩
end
theorem poly_s20 {w0 wx : World} {P Q : List Nat} {m n bp bq bs bx k p z : Nat} (hk : k < n) (hp : P[k]? = some p) (hz : (prodR m P n k)[k]? = some z) (h : PolyInv w0 P Q m n bp bq bs bx (k + 1) (k + 1) (k + 1) k wx) :
    wx.cell? ⟨bp, k, none⟩ = some (.int .i64 (p : Int)) ∧ wx.cell? ⟨bx, k, none⟩ = some (.int .i64 (z : Int)) ∧ wx.frozen? ⟨bx, k, none⟩ = false ∧ Hid (PolyInv w0 P Q m n bp bq bs bx (k + 1) (k + 1) (k + 1) k wx) :=
  ⟨h.1.1.cell (fillR_got hp), h.1.2.2.2.1.cell hz, h.1.2.2.2.1.frozen k, Lib.hid h⟩
/-- between the two stores of a round into the product's row -/
def PolyMid (w0 : World) (P Q : List Nat) (m n bp bq bs bx : Nat) (k s : Nat) (wx : World) : Prop :=
  (RowAt wx bp (fillR P n (k + 1)) ∧ RowAt wx bq (fillR Q n (k + 1)) ∧ RowAt wx bs (fillR (List.zipWith addQ P Q) n (k + 1)) ∧ RowAt wx bx ((prodR m P n k).set k s) ∧ Below w0.heap.size w0 wx) ∧ (bp ≠ bq ∧ bp ≠ bs ∧ bq ≠ bs ∧ bp ≠ bx ∧ bq ≠ bx ∧ bs ≠ bx) ∧ w0.heap.size ≤ bp ∧ w0.heap.size ≤ bq ∧ w0.heap.size ≤ bs ∧ w0.heap.size ≤ bx
theorem PolyInv.mid {w0 wx : World} {P Q : List Nat} {m n bp bq bs bx k : Nat} (h : PolyInv w0 P Q m n bp bq bs bx (k + 1) (k + 1) (k + 1) k wx) (s : Nat) : PolyMid w0 P Q m n bp bq bs bx k s (wx.setCell ⟨bx, k, none⟩ (.int .i64 (s : Int))) := by
  obtain ⟨⟨h1, h2, h3, h4, h5⟩, ⟨d1, d2, d3, d4, d5, d6⟩, g⟩ := h
  exact ⟨⟨h1.other d4 _, h2.other d5 _, h3.other d6 _, h4.set k s, h5.setCell (p := ⟨bx, k, none⟩) g.2.2.2 _⟩, ⟨d1, d2, d3, d4, d5, d6⟩, g⟩
theorem PolyMid.next {w0 wx : World} {P Q : List Nat} {m n bp bq bs bx k s p : Nat} (h : PolyMid w0 P Q m n bp bq bs bx k s wx) (he : ((prodR m P n k).set k s).set (k + 1) p = prodR m P n (k + 1)) : PolyInv w0 P Q m n bp bq bs bx (k + 1) (k + 1) (k + 1) (k + 1) (wx.setCell ⟨bx, k + 1, none⟩ (.int .i64 (p : Int))) := by
  obtain ⟨⟨h1, h2, h3, h4, h5⟩, ⟨d1, d2, d3, d4, d5, d6⟩, g⟩ := h
  exact ⟨⟨h1.other d4 _, h2.other d5 _, h3.other d6 _, he ▸ h4.set (k + 1) p, h5.setCell (p := ⟨bx, k + 1, none⟩) g.2.2.2 _⟩, ⟨d1, d2, d3, d4, d5, d6⟩, g⟩
/-- what lies in a cell -/
def cellOf (W : World) (b k : Nat) : Value := (W.cell? ⟨b, k, none⟩).getD (.int .i64 0)
theorem poly_s19 {w0 wx : World} {P Q : List Nat} {m n bp bq bs bx k kx p q s : Nat} (hk : k < n) (hp : P[k]? = some p) (hq : Q[k]? = some q) (hs : (List.zipWith addQ P Q)[k]? = some s) (h : PolyInv w0 P Q m n bp bq bs bx (k + 1) (k + 1) k kx wx ∨ PolyInv w0 P Q m n bp bq bs bx (k + 1) (k + 1) (k + 1) kx wx) :
    wx.cell? ⟨bp, k, none⟩ = some (.int .i64 (p : Int)) ∧ wx.cell? ⟨bq, k, none⟩ = some (.int .i64 (q : Int)) ∧ wx.cell? ⟨bs, k, none⟩ = some (cellOf wx bs k) ∧ wx.frozen? ⟨bs, k, none⟩ = false ∧ Hid (PolyInv w0 P Q m n bp bq bs bx (k + 1) (k + 1) k kx wx ∨ PolyInv w0 P Q m n bp bq bs bx (k + 1) (k + 1) (k + 1) kx wx) := by
  refine ⟨?_, ?_, ?_, ?_, Lib.hid h⟩
  · rcases h with h | h <;> exact h.1.1.cell (fillR_got hp)
  · rcases h with h | h <;> exact h.1.2.1.cell (fillR_got hq)
  · rcases h with h | h
    · rw [cellOf, h.1.2.2.1.cell (fillR_at hk hs)]; rfl
    · rw [cellOf, h.1.2.2.1.cell (fillR_got hs)]; rfl
  · rcases h with h | h <;> exact h.1.2.2.1.frozen k
theorem ints_at {w : World} {sa : Option Addr} {sl sc k : Nat} {zs : List Int} (h : IntsAt w (.slice sa sl sc) zs) (hk : k < zs.length) : ∃ b off, sa = some ⟨b, off, none⟩ ∧ w.cell? ⟨b, off + k, none⟩ = some (.int .i64 (zs[k]?.getD 0)) := by
  rcases h with ⟨_, rfl⟩ | ⟨b, off, cap, he, _, _, h4⟩
  · cases hk
  · cases he
    exact ⟨b, off, rfl, h4 k hk⟩
theorem three_row0 (v : World) (l : List Nat) : RowAt (((v.alloc (.cells (rowOf l) 3)).alloc (.cells (rowOf l) 3)).alloc (.cells (rowOf l) 3)).drew v.heap.size l := by
  show (((v.heap.push _).push _).push _)[_]? = some _; simp [Array.getElem?_push, Array.getElem_push]
theorem three_row1 (v : World) (l : List Nat) : RowAt (((v.alloc (.cells (rowOf l) 3)).alloc (.cells (rowOf l) 3)).alloc (.cells (rowOf l) 3)).drew (v.heap.size + 1) l := by
  show (((v.heap.push _).push _).push _)[_]? = some _; simp [Array.getElem?_push, Array.getElem_push]
theorem three_row2 (v : World) (l : List Nat) : RowAt (((v.alloc (.cells (rowOf l) 3)).alloc (.cells (rowOf l) 3)).alloc (.cells (rowOf l) 3)).drew (v.heap.size + 1 + 1) l := by
  show (((v.heap.push _).push _).push _)[_]? = some _; simp [Array.getElem?_push, Array.getElem_push]
theorem three_below (v w : World) (l : List Nat) (h : Below w.heap.size w v) : Below w.heap.size w (((v.alloc (.cells (rowOf l) 3)).alloc (.cells (rowOf l) 3)).alloc (.cells (rowOf l) 3)).drew :=
  (((h.alloc h.size _).alloc (by rw [World.size_alloc]; have := h.size; omega) _).alloc (by rw [World.size_alloc, World.size_alloc]; have := h.size; omega) _).drew
theorem scs_nat : ∀ (L : List Nat), (∀ d ∈ L, d < 2305843009213688669) → ∃ cs : List Sc, L = cs.map (·.1) ∧ L.map (fun x : Nat => (x : Int)) = cs.map (fun c => (c.1 : Int))
  | [], _ => ⟨[], rfl, rfl⟩
  | d :: L, h => by
    obtain ⟨cs, h1, h2⟩ := scs_nat L (fun e he => h e (List.mem_cons_of_mem _ he))
    exact ⟨⟨d, h d List.mem_cons_self⟩ :: cs, by rw [List.map_cons, ← h1], by rw [List.map_cons, List.map_cons, h2]⟩
theorem eval_row {W0 W : World} {B n x : Nat} {L : List Nat} (h : RowAt W0 B L) (hl : L.length = n) (hn : n ≤ 41) (hb : ∀ d ∈ L, d < 2305843009213688669) (hx : x < 2305843009213688669) (b : Below W0.heap.size W0 W) :
    Calls Try.prog 41 #[.slice (some ⟨B, 0, none⟩) n n, .int .i64 x] W fun e w' => e = .returned (.tuple #[.int .i64 ((evalQ x L : Nat) : Int), .int .i64 0]) ∧ Below W.heap.size W w' := by
  obtain ⟨cs, e1, e2⟩ := scs_nat L hb
  have h1 := (h.below b).intsAt (by omega)
  rw [hl, e2] at h1
  have := feval_yes _ cs x hx W h1
  rw [← e1] at this
  exact this
theorem zipQ_lt (p q : List Nat) : ∀ d ∈ List.zipWith addQ p q, d < 2305843009213688669 := by
  intro d hd
  obtain ⟨i, hi, he⟩ := List.getElem_of_mem hd
  rw [← he, List.getElem_zipWith]
  exact addQ_lt _ _
theorem prodL_lt' {m : Nat} : ∀ (l : List Nat) (prev : Nat), prev < 2305843009213688669 → (∀ d ∈ l, d < 2305843009213688669) → ∀ d ∈ prodL m prev l, d < 2305843009213688669
  | [], prev, hp, _, d, hd => by
    have : d = prev := by simpa [prodL] using hd
    omega
  | c :: l, prev, hp, h, d, hd => by
    rcases List.mem_cons.1 hd with h1 | h1
    · rw [h1]; exact addQ_lt _ _
    · exact prodL_lt' l c (h c List.mem_cons_self) (fun e he => h e (List.mem_cons_of_mem _ he)) d h1
theorem prodL_lt {m : Nat} (hm : m < 2305843009213688669) {l : List Nat} (h : ∀ d ∈ l, d < 2305843009213688669) : ∀ d ∈ prodL m 0 l, d < 2305843009213688669 := prodL_lt' l 0 (by decide) h
set_option maxRecDepth 100000 in
set_option maxHeartbeats 8000000 in
theorem walk0 (sa : Option Addr) (sl sc : Nat) (ta : Option Addr) (tl tc : Nat) (zs ys : List Int) (w : World) (hz : IntsAt w (.slice sa sl sc) zs) (hy : IntsAt w (.slice ta tl tc) ys) (hzl : zs.length = sl) (hyl : ys.length = tl) (hs : sl ≤ 40) (ht : tl ≤ 40) (at0 root : Int) :
    Calls Try.prog 14 #[.slice sa sl sc, .slice ta tl tc, .int .i64 at0, .int .i64 root] w fun e w' => e = .returned (.bool true) ∧ Below w.heap.size w w' := by
  have Hz := Lib.hid hz
  have Hy := Lib.hid hy
  have g1 : decide ((40 : Int) < (sl : Int)) = false := by rw [decide_eq_false_iff_not]; omega
  have g2 : decide ((40 : Int) < (tl : Int)) = false := by rw [decide_eq_false_iff_not]; omega
  have hn : max sl tl ≤ 40 := by omega
  have hmax : max (sl : Int) (tl : Int) = ((max sl tl : Nat) : Int) := by omega
  obtain ⟨n, en⟩ : ∃ y, max sl tl = y := ⟨_, rfl⟩
  rw [en] at hn hmax
  have hmk := fun w => make_ints n (by omega) w
  have hmk1 : ∀ w, (Instr.makeSlice 38 (.int .i64 ((n : Int) + 1)) (.int .i64 ((n : Int) + 1))).run Try.prog w = .ok (.slice (some ⟨w.heap.size, 0, none⟩) (n + 1) (n + 1)) (w.alloc (.cells (rowOf (List.replicate (n + 1) 0)) 3)) := fun w => make_ints (n + 1) (by omega) w
  have Hmk1 := Lib.hid hmk1
  clear hmk1
  have hsn : sl ≤ n := by omega
  have htn : tl ≤ n := by omega
  clear en
  have g1n : decide (40 < sl) = false := by rw [decide_eq_false_iff_not]; omega
  have g2n : decide (40 < tl) = false := by rw [decide_eq_false_iff_not]; omega
  have o1 := fun w => of_any at0 w
  have o2 := fun w => of_any root w
  have hx := ofQ_lt at0
  have hr := ofQ_lt root
  obtain ⟨x, ex⟩ : ∃ y, ofQ at0 = y := ⟨_, rfl⟩
  obtain ⟨r, er⟩ : ∃ y, ofQ root = y := ⟨_, rfl⟩
  rw [ex] at o1 hx
  rw [er] at o2 hr
  have c1 : ∀ w, Calls Try.prog 33 #[.int .i64 0, .int .i64 r] w fun e w' => e = .returned (.tuple #[.int .i64 ((subQ 0 r : Nat) : Int), .int .i64 0]) ∧ Below w.heap.size w w' := fun w => fsub_yes 0 r (by decide) hr w
  have hm : subQ 0 r < 2305843009213688669 := subQ_lt (by decide)
  have hneg := neg_add hr
  obtain ⟨m, em⟩ : ∃ y, subQ 0 r = y := ⟨_, rfl⟩
  rw [em] at c1 hm hneg
  have O1 := Lib.hid o1
  have O2 := Lib.hid o2
  have C1 := Lib.hid c1
  have Hx := Lib.hid hx
  have Hr := Lib.hid hr
  have Hm := Lib.hid hm
  have Hneg := Lib.hid hneg
  have Hzl := Lib.hid hzl
  have Hyl := Lib.hid hyl
  clear hz hy o1 o2 c1 ex er em hx hr hm hneg hzl hyl
  go_enter Try.func14, Try.ntmps14
  go_wp2_with fail
  refine (sane3_any _).mono ?_
  rintro e v1 ⟨rfl, b1⟩
  go_wp2_with fail
  refine (O1.out _).mono ?_
  rintro e w' ⟨rfl, rfl⟩
  go_wp2_with fail
  refine (O2.out _).mono ?_
  rintro e w' ⟨rfl, rfl⟩
  go_wp2_with fail
  refine (C1.out _).mono ?_
  rintro e v2 ⟨rfl, b2⟩
  have B2 := b1.trans (b2.mono b1.size)
  clear b2 b1
  go_upto_region 10 with fail
  go_cut [14, 15, 16] (fun s14 s15 s16 wx => ∃ bp bq bs : Nat, s14 = .slice (some ⟨bp, 0, none⟩) n n ∧ s15 = .slice (some ⟨bq, 0, none⟩) n n ∧ s16 = .slice (some ⟨bs, 0, none⟩) n n ∧ RowAt wx bp (List.replicate n 0) ∧ RowAt wx bq (List.replicate n 0) ∧ RowAt wx bs (List.replicate n 0) ∧ (bp ≠ bq ∧ bp ≠ bs ∧ bq ≠ bs) ∧ (w.heap.size ≤ bp ∧ w.heap.size ≤ bq ∧ w.heap.size ≤ bs) ∧ Below w.heap.size w wx)
  case first =>
    go_region
    all_goals (go_wp2_with fail; go_meet)
    all_goals go_light
    all_goals exact ⟨_, _, _, rfl, rfl, rfl, by first | exact three_row0 v2 _ | exact three_row1 v2 _ | exact three_row2 v2 _, by first | exact three_row0 v2 _ | exact three_row1 v2 _ | exact three_row2 v2 _, by first | exact three_row0 v2 _ | exact three_row1 v2 _ | exact three_row2 v2 _, by omega, by have := B2.size; omega, three_below v2 w _ B2⟩
  case rest =>
    obtain ⟨bp, bq, bs, rfl, rfl, rfl, hrp, hrq, hrs, hne, hge, B3⟩ := hcut
    clear hmk B2
    have hmk1 := Hmk1.out
    go_upto_region 12 with fail
    have hsz := B3.size
    have rp := hrp.below (Below.alloc (Below.refl _ _) (Nat.le_refl _) (.cells (rowOf (List.replicate (n + 1) 0)) 3))
    have rq := hrq.below (Below.alloc (Below.refl _ _) (Nat.le_refl _) (.cells (rowOf (List.replicate (n + 1) 0)) 3))
    have rs := hrs.below (Below.alloc (Below.refl _ _) (Nat.le_refl _) (.cells (rowOf (List.replicate (n + 1) 0)) 3))
    have rx : RowAt (wc.alloc (.cells (rowOf (List.replicate (n + 1) 0)) 3)) wc.heap.size (List.replicate (n + 1) 0) := by
      show (wc.heap.push _)[_]? = some _; simp
    have B4 := B3.alloc hsz (.cells (rowOf (List.replicate (n + 1) 0)) 3)
    have hbx : bp < wc.heap.size ∧ bq < wc.heap.size ∧ bs < wc.heap.size := ⟨hrp.lt, hrq.lt, hrs.lt⟩
    obtain ⟨v, hv⟩ : ∃ x, wc.alloc (.cells (rowOf (List.replicate (n + 1) 0)) 3) = x := ⟨_, rfl⟩
    rw [hv] at rp rq rs rx B4 ⊢
    obtain ⟨bx, hbxe⟩ : ∃ x, wc.heap.size = x := ⟨_, rfl⟩
    rw [hbxe] at rx hbx hsz ⊢
    obtain ⟨L1, eL1⟩ : ∃ x, polyRow n zs = x := ⟨_, rfl⟩
    obtain ⟨L2, eL2⟩ : ∃ x, polyRow n ys = x := ⟨_, rfl⟩
    have HL1 := Lib.hid (show L1.length = n by rw [← eL1]; exact polyRow_length (by rw [Hzl.out]; exact hsn))
    have HL2 := Lib.hid (show L2.length = n by rw [← eL2]; exact polyRow_length (by rw [Hyl.out]; exact htn))
    have HB1 := Lib.hid (show ∀ d ∈ L1, d < 2305843009213688669 by rw [← eL1]; exact polyRow_lt)
    have HB2 := Lib.hid (show ∀ d ∈ L2, d < 2305843009213688669 by rw [← eL2]; exact polyRow_lt)
    have HI : Hid (PolyInv w L1 L2 m n bp bq bs bx 0 0 0 0 v) := by
      refine ⟨⟨?_, ?_, ?_, ?_, B4⟩, by omega, by omega⟩
      · rw [fillR_zero]; exact rp
      · rw [fillR_zero]; exact rq
      · rw [fillR_zero]; exact rs
      · rw [prodR_zero]; exact rx
    clear hv hbxe rp rq rs rx B4 B3 hrp hrq hrs hmk1
    go_wp2_with fail
    go_loopg [18] n (fun g s18 wx => ∃ k : Nat, k + g = n ∧ s18 = .int .i64 (k : Int) ∧ Hid (PolyInv w L1 L2 m n bp bq bs bx k k k k wx))
    case atStart => exact ⟨0, by omega, rfl, HI⟩
    case round =>
      obtain ⟨k, hk, rfl, hinv⟩ := hrel
      by_cases hkn : k < n
      · have d0 : decide ((k : Int) < (n : Int)) = true := by rw [decide_eq_true_iff]; omega
        have a1 : (0 : Int) ≤ (k : Int) := Int.natCast_nonneg k
        have i1 : IntKind.i64.wrap ((k : Int) + 1) = (k : Int) + 1 := by rw [IntKind.wrap_i64]; omega
        go_upto_if 72 with fail
        go_cut [] from 64 to 126 (fun wx => Hid (PolyInv w L1 L2 m n bp bq bs bx (k + 1) k k k wx))
        case first =>
          have hi := hinv.out
          by_cases hks : k < sl
          · have d1 : decide ((k : Int) < (sl : Int)) = true := by rw [decide_eq_true_iff]; omega
            have hkz : k < zs.length := by rw [Hzl.out]; exact hks
            have hP : L1[k]? = some (ofQ (zs[k]?.getD 0)) := by rw [← eL1]; exact polyRow_lo hkz
            obtain ⟨b, off, rfl, hcell⟩ := ints_at (Hz.out.below hi.1.2.2.2.2) hkz
            have hcp := hi.1.1.cell (fillR_at hkn hP)
            have hfp := hi.1.1.frozen k
            have HN := Lib.hid (hi.setP hkn hP)
            have O := Lib.hid (fun w => of_any (zs[k]?.getD 0) w)
            obtain ⟨z, hz⟩ : ∃ z, zs[k]?.getD 0 = z := ⟨_, rfl⟩
            rw [hz] at hcell O HN
            obtain ⟨c, hc⟩ : ∃ c, ofQ z = c := ⟨_, rfl⟩
            rw [hc] at O HN
            have t1 : (k : Int).toNat = k := Int.toNat_natCast k
            clear hi hP hz hc eL1 eL2 hkz
            go_wp2_with fail
            refine (O.out _).mono ?_
            rintro e w' ⟨rfl, rfl⟩
            go_wp2_with fail
            go_meet
            go_light
            exact HN
          · have d1 : decide ((k : Int) < (sl : Int)) = false := by rw [decide_eq_false_iff_not]; omega
            have hP : L1[k]? = some 0 := by rw [← eL1]; exact polyRow_hi (by rw [Hzl.out]; omega) hkn
            have HN := Lib.hid (hi.skipP hkn hP)
            clear hi hP eL1 eL2
            go_wp2_with fail
            go_meet
            go_light
            exact HN
        case rest =>
          have hinv2 := hcut
          clear hinv hcut
          go_upto_if 84 with fail
          go_cut [] from 64 to 126 (fun wx => Hid (PolyInv w L1 L2 m n bp bq bs bx (k + 1) (k + 1) k k wx))
          case first =>
            have hi := hinv2.out
            by_cases hks : k < tl
            · have d1 : decide ((k : Int) < (tl : Int)) = true := by rw [decide_eq_true_iff]; omega
              have hkz : k < ys.length := by rw [Hyl.out]; exact hks
              have hP : L2[k]? = some (ofQ (ys[k]?.getD 0)) := by rw [← eL2]; exact polyRow_lo hkz
              obtain ⟨b, off, rfl, hcell⟩ := ints_at (Hy.out.below hi.1.2.2.2.2) hkz
              have hcp := hi.1.2.1.cell (fillR_at hkn hP)
              have hfp := hi.1.2.1.frozen k
              have HN := Lib.hid (hi.setQ hkn hP)
              have O := Lib.hid (fun w => of_any (ys[k]?.getD 0) w)
              obtain ⟨z, hz⟩ : ∃ z, ys[k]?.getD 0 = z := ⟨_, rfl⟩
              rw [hz] at hcell O HN
              obtain ⟨c, hc⟩ : ∃ c, ofQ z = c := ⟨_, rfl⟩
              rw [hc] at O HN
              have t1 : (k : Int).toNat = k := Int.toNat_natCast k
              clear hi hP hz hc eL1 eL2 hkz
              go_wp2_with fail
              refine (O.out _).mono ?_
              rintro e w' ⟨rfl, rfl⟩
              go_wp2_with fail
              go_meet
              go_light
              exact HN
            · have d1 : decide ((k : Int) < (tl : Int)) = false := by rw [decide_eq_false_iff_not]; omega
              have hP : L2[k]? = some 0 := by rw [← eL2]; exact polyRow_hi (by rw [Hyl.out]; omega) hkn
              have HN := Lib.hid (hi.skipQ hkn hP)
              clear hi hP eL1 eL2
              go_wp2_with fail
              go_meet
              go_light
              exact HN
          case rest =>
            have hi := hcut.out
            clear hinv2
            have hL1 : L1.length = n := by rw [← eL1]; exact polyRow_length (by rw [Hzl.out]; exact hsn)
            have hL2 : L2.length = n := by rw [← eL2]; exact polyRow_length (by rw [Hyl.out]; exact htn)
            obtain ⟨p, hp⟩ : ∃ p, L1[k]? = some p := ⟨_, List.getElem?_eq_getElem (by rw [hL1]; exact hkn)⟩
            obtain ⟨q, hq⟩ : ∃ q, L2[k]? = some q := ⟨_, List.getElem?_eq_getElem (by rw [hL2]; exact hkn)⟩
            have hpl : p < 2305843009213688669 := by have h := List.mem_of_getElem? hp; rw [← eL1] at h; exact polyRow_lt p h
            have hql : q < 2305843009213688669 := by have h := List.mem_of_getElem? hq; rw [← eL2] at h; exact polyRow_lt q h
            have hs : (List.zipWith addQ L1 L2)[k]? = some (addQ p q) := by rw [List.getElem?_zipWith, hp, hq]
            have hlt1 : ∀ d ∈ L1, d < 2305843009213688669 := by rw [← eL1]; exact polyRow_lt
            obtain ⟨z, hzl, hzg, hzs⟩ := prodR_step (m := m) hkn hp hlt1
            have A1 := Lib.hid (fun w => hadd hpl hql (rfl : addQ p q = addQ p q) w)
            have A2 := Lib.hid (fun w => hmul Hm.out hpl (rfl : mulQ m p = mulQ m p) w)
            have A3 := Lib.hid (fun w => hadd hzl (mulQ_lt m p) (rfl : addQ z (mulQ m p) = addQ z (mulQ m p)) w)
            have Hs := Lib.hid hs
            have Hp := Lib.hid hp
            have Hq := Lib.hid hq
            have Hz' := Lib.hid hzg
            have Hzs := Lib.hid hzs
            obtain ⟨s1, es1⟩ : ∃ x, addQ p q = x := ⟨_, rfl⟩
            obtain ⟨m1, em1⟩ : ∃ x, mulQ m p = x := ⟨_, rfl⟩
            rw [es1] at A1 Hs
            rw [em1] at A2 A3 Hzs
            obtain ⟨s2, es2⟩ : ∃ x, addQ z m1 = x := ⟨_, rfl⟩
            rw [es2] at A3 Hzs
            have t1 : (k : Int).toNat = k := Int.toNat_natCast k
            clear es1 em1 es2 hs hp hq hzg hzs hlt1 hL1 hL2 hpl hql hzl eL1 eL2 hi
            go_upto_region 19 with fail
            go_cut [] from 64 to 126 (fun wx => Hid (PolyInv w L1 L2 m n bp bq bs bx (k + 1) (k + 1) (k + 1) k wx))
            case first =>
              have hi := hcut.out
              have c1 := hi.1.1.cell (fillR_got Hp.out)
              have c2 := hi.1.2.1.cell (fillR_got Hq.out)
              have c3 := hi.1.2.2.1.cell (fillR_at hkn Hs.out)
              have c4 := hi.1.2.2.1.frozen k
              clear hi
              have hI := hcut
              go_region_held3 (fun W => W.cell? ⟨bp, k, none⟩ = some (.int .i64 (p : Int)) ∧ W.cell? ⟨bq, k, none⟩ = some (.int .i64 (q : Int)) ∧ W.cell? ⟨bs, k, none⟩ = some (cellOf W bs k) ∧ W.frozen? ⟨bs, k, none⟩ = false ∧ Hid (PolyInv w L1 L2 m n bp bq bs bx (k + 1) (k + 1) k k W ∨ PolyInv w L1 L2 m n bp bq bs bx (k + 1) (k + 1) (k + 1) k W)) ((first | exact poly_s19 hkn Hp.out Hq.out Hs.out (.inl (hI.out.below (Below.refl _ _).drew)) | exact poly_s19 hkn Hp.out Hq.out Hs.out (.inl ((hI.out.below (Below.refl _ _).drew).below (by assumption))) | exact poly_s19 hkn Hp.out Hq.out Hs.out (.inr (((hI.out.below (Below.refl _ _).drew).below (by assumption)).setS hkn Hs.out)))) (first | (go_at_call 44; refine (A1.out _).mono ?_; rintro e w' ⟨rfl, hb⟩))
              go_wp2_with fail
              go_meet
              exact Lib.hid (((hI.out.below (Below.refl _ _).drew).below (by assumption)).setS hkn Hs.out)
            case rest =>
              have hI := hcut
              clear hcut
              go_upto_region 20 with fail
              go_cut [] from 64 to 126 (fun wx => Hid (PolyMid w L1 L2 m n bp bq bs bx k s2 wx))
              case first =>
                obtain ⟨w20, rfl⟩ : ∃ y, y = wc := ⟨_, rfl⟩
                have c1 : w20.cell? ⟨bp, k, none⟩ = some (.int .i64 (p : Int)) := hI.out.1.1.cell (fillR_got Hp.out)
                have c3 : w20.cell? ⟨bx, k, none⟩ = some (.int .i64 (z : Int)) := hI.out.1.2.2.2.1.cell Hz'.out
                have B20 := Lib.hid (Below.refl w20.heap.size w20)
                have y1 : (k : Int) < (n : Int) + 1 := by omega
                have y2 : (k : Int) < (n : Int) := by omega
                have y3 : 0 ≤ (k : Int) ∧ (k : Int) < (n : Int) + 1 := by omega
                have y4 : 0 ≤ (k : Int) ∧ (k : Int) < (n : Int) := by omega
                have qc1 := fun d os => cell_regrown c1 d os
                have qc3 := fun d os => cell_regrown c3 d os
                clear c1 c3
                have D0 := Lib.hid (fun (W : World) (b : Below w20.heap.size w20 W) => A2.out W)
                have D1 := Lib.hid (fun (W : World) (b : Below w20.heap.size w20 W) => A3.out W)
                refine wp_below_tail 13 (by kernel_rfl) (by kernel_rfl) ?_
                simp only [List.take_succ_cons, List.take_zero, List.drop_succ_cons, List.drop_zero]
                repeat (quiet_step (first | with_reducible exact qbelow D0.out _ _ | with_reducible exact qbelow D1.out _ _))
                refine wpQuiet_nil ?_
                intro w21 hw21
                have b21 := regrown_below hw21
                have B21 := Lib.hid (B20.out.trans (b21.mono B20.out.size))
                clear b21 hw21 qc1 qc3 D0 D1 B20
                have hj := Lib.hid (hI.out.below B21.out)
                have c5 : w21.cell? ⟨bx, k, none⟩ = some (.int .i64 (z : Int)) := hj.out.1.2.2.2.1.cell Hz'.out
                have c6 : w21.frozen? ⟨bx, k, none⟩ = false := hj.out.1.2.2.2.1.frozen k
                go_wp2_with fail
                go_meet
                exact Lib.hid (hj.out.mid s2)
              case rest =>
                obtain ⟨w21, rfl⟩ : ∃ y, y = wc := ⟨_, rfl⟩
                have hm := hcut
                clear hcut hI
                obtain ⟨u, hu⟩ : ∃ u, ((prodR m L1 n k).set k s2)[k + 1]? = some u := ⟨_, List.getElem?_eq_getElem (by rw [List.length_set, prodR_length (Nat.le_of_lt hkn) (by rw [HL1.out]; exact Nat.le_refl _)]; omega)⟩
                have c1 : w21.cell? ⟨bp, k, none⟩ = some (.int .i64 (p : Int)) := hm.out.1.1.cell (fillR_got Hp.out)
                have c2 : w21.cell? ⟨bx, k + 1, none⟩ = some (.int .i64 (u : Int)) := hm.out.1.2.2.2.1.cell hu
                have c3 : w21.frozen? ⟨bx, k + 1, none⟩ = false := hm.out.1.2.2.2.1.frozen (k + 1)
                have t2 : ((k : Int) + 1).toNat = k + 1 := by omega
                have HN := Lib.hid (hm.out.next Hzs.out)
                clear hu hm
                go_wp2_with fail
                go_roundg (gk - 1)
                case measure => omega
                case rel =>
                  go_light
                  exact ⟨k + 1, by omega, by go_num, HN⟩
      · have hkn' : k = n := by omega
        subst hkn'
        have d0 : decide ((k : Int) < (k : Int)) = false := by rw [decide_eq_false_iff_not]; omega
        obtain ⟨w30, rfl⟩ : ∃ y, y = wr := ⟨_, rfl⟩
        obtain ⟨⟨h1, h2, h3, h4, h5⟩, _⟩ := hinv.out
        have hl3 : (List.zipWith addQ L1 L2).length = k := by rw [List.length_zipWith, HL1.out, HL2.out]; omega
        have hl4 : (prodL m 0 L1).length = k + 1 := by rw [prodL_length, HL1.out]
        rw [fillR_full HL1.out] at h1
        rw [fillR_full HL2.out] at h2
        rw [fillR_full hl3] at h3
        rw [prodR_full HL1.out] at h4
        have e3 := evalQ_zip x L1 L2 (by rw [HL1.out, HL2.out])
        have e4 := evalQ_prod x m L1 0 (by decide) HB1.out
        have e5 := evalQ_prod r m L1 0 (by decide) HB1.out
        rw [Hneg.out, mulQ_zero] at e5
        rw [addQ_comm 0, addQ_zero (mulQ_lt _ _)] at e4
        have E1 := Lib.hid (fun (W : World) (b : Below w30.heap.size w30 W) => eval_row h1 HL1.out (by omega) HB1.out Hx.out b)
        have E2 := Lib.hid (fun (W : World) (b : Below w30.heap.size w30 W) => eval_row h2 HL2.out (by omega) HB2.out Hx.out b)
        have E3 := Lib.hid (fun (W : World) (b : Below w30.heap.size w30 W) => eval_row h3 hl3 (by omega) (zipQ_lt _ _) Hx.out b)
        have E4 := Lib.hid (fun (W : World) (b : Below w30.heap.size w30 W) => eval_row h4 hl4 (by omega) (prodL_lt Hm.out HB1.out) Hx.out b)
        have E5 := Lib.hid (fun (W : World) (b : Below w30.heap.size w30 W) => eval_row h4 hl4 (by omega) (prodL_lt Hm.out HB1.out) Hr.out b)
        have la := evalQ_lt x L1
        have lb := evalQ_lt x L2
        obtain ⟨a, ea⟩ : ∃ y, evalQ x L1 = y := ⟨_, rfl⟩
        obtain ⟨b, eb⟩ : ∃ y, evalQ x L2 = y := ⟨_, rfl⟩
        rw [ea] at E1 e3 e4 la
        rw [eb] at E2 e3 lb
        rw [e3] at E3
        rw [e4] at E4
        have e5' : evalQ r (prodL m 0 L1) = 0 := e5
        rw [e5'] at E5
        obtain ⟨s, es⟩ : ∃ y, addQ a b = y := ⟨_, rfl⟩
        obtain ⟨t, et⟩ : ∃ y, addQ x m = y := ⟨_, rfl⟩
        rw [et] at E4
        obtain ⟨y, ey⟩ : ∃ y, mulQ a t = y := ⟨_, rfl⟩
        rw [es] at E3
        rw [ey] at E4
        have lt : t < 2305843009213688669 := et ▸ addQ_lt _ _
        have A1 := Lib.hid (fun W => hadd la lb es W)
        have A2 := Lib.hid (fun W => hadd Hx.out Hm.out et W)
        have A3 := Lib.hid (fun W => hmul la lt ey W)
        have B30 := Lib.hid h5
        have BB := Lib.hid (Below.refl w30.heap.size w30)
        clear h1 h2 h3 h4 h5 hl3 hl4 e3 e4 e5 e5' ea eb es et ey la lb lt eL1 eL2 hinv
        go_wp2_with fail
        refine (E1.out _ BB.out).mono ?_
        rintro e w31 ⟨rfl, b31⟩
        have B31 := Lib.hid b31
        clear b31
        go_wp2_with fail
        refine (E2.out _ B31.out).mono ?_
        rintro e w32 ⟨rfl, b32⟩
        have B32 := Lib.hid (B31.out.trans (b32.mono B31.out.size))
        clear b32
        go_wp2_with fail
        refine (E3.out _ B32.out).mono ?_
        rintro e w33 ⟨rfl, b33⟩
        have B33 := Lib.hid (B32.out.trans (b33.mono B32.out.size))
        clear b33
        go_wp2_with fail
        refine (E4.out _ B33.out).mono ?_
        rintro e w34 ⟨rfl, b34⟩
        have B34 := Lib.hid (B33.out.trans (b34.mono B33.out.size))
        clear b34
        go_wp2_with fail
        refine (E5.out _ B34.out).mono ?_
        rintro e w35 ⟨rfl, b35⟩
        have B35 := Lib.hid (B34.out.trans (b35.mono B34.out.size))
        clear b35
        go_wp2_with fail
        refine (A1.out _).mono ?_
        rintro e w36 ⟨rfl, b36⟩
        have B36 := Lib.hid (B35.out.trans (b36.mono B35.out.size))
        clear b36
        go_wp2_with fail
        refine (A2.out _).mono ?_
        rintro e w37 ⟨rfl, b37⟩
        have B37 := Lib.hid (B36.out.trans (b37.mono B36.out.size))
        clear b37
        go_wp2_with fail
        refine (A3.out _).mono ?_
        rintro e w38 ⟨rfl, b38⟩
        have B38 := Lib.hid (B37.out.trans (b38.mono B37.out.size))
        clear b38
        go_wp2_with fail
        go_ret
        exact ⟨rfl, B30.out.trans (B38.out.mono B30.out.size)⟩
end Go.Proofs.Ytajcpbchpcnmaaa
