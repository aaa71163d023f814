/- Lists of acknowledgements in memory; a map of such lists. Package acks: Least. Acknowledgements: the plain laws of the examples, of decoding what is encoded. -/
import Derived.Test.YtmmppibbglacdaaDoorPk31
import Derived.Test.YtmmppibbglacdaaDoorPk43
import Derived.Test.YtmmppibbglacdaaDoorPk32
set_option linter.unusedVariables false
set_option linter.unusedSimpArgs false
namespace Go.Proofs.YtmmppibbglacdaaDoor
open Go.RowKit Cod
/-- the cells of structs of s cells each -/
def flatS {α : Type} (s : Nat) (c : α → Nat → Value) (l : List α) : List Value := l.flatMap fun a => (List.range s).map (c a)
section
variable {α : Type} {s : Nat} {c : α → Nat → Value}
theorem flatS_len (l : List α) : (flatS s c l).length = l.length * s := by
  induction l with
  | nil => simp [flatS]
  | cons a l ih =>
    have : flatS s c (a :: l) = (List.range s).map (c a) ++ flatS s c l := rfl
    rw [this, List.length_append, ih, List.length_map, List.length_range, List.length_cons, Nat.add_mul]; omega
theorem flatS_get (d : α) : ∀ (l : List α) (i j : Nat), i < l.length → j < s → (flatS s c l)[s * i + j]? = some (c (l.getD i d) j)
  | [], i, j, hi, _ => absurd hi (by simp)
  | a :: l, 0, j, hi, hj => by
    have : flatS s c (a :: l) = (List.range s).map (c a) ++ flatS s c l := rfl
    rw [this, Nat.mul_zero, Nat.zero_add, List.getElem?_append_left (by simpa using hj), List.getElem?_map, List.getElem?_range hj]; rfl
  | a :: l, i + 1, j, hi, hj => by
    have : flatS s c (a :: l) = (List.range s).map (c a) ++ flatS s c l := rfl
    have hlen : ((List.range s).map (c a)).length = s := by simp
    rw [this, List.getElem?_append_right (by rw [hlen, Nat.mul_add]; omega), hlen, show s * (i + 1) + j - s = s * i + j by rw [Nat.mul_add]; omega]
    exact flatS_get d l i j (by simpa using hi) hj
theorem flatS_app (l : List α) (a : α) : flatS s c (l ++ [a]) = flatS s c l ++ (List.range s).map (c a) := by
  unfold flatS; rw [List.flatMap_append]; simp
end
/-- what a map of lists holds at a key -/
def gv (m : List (Int × Value)) (k : Int) : Value := (IM.get m k).getD (.slice none 0 0)
theorem gv_put_same (m : List (Int × Value)) (k : Int) (v : Value) : gv (IM.put m k v) k = v := by unfold gv; rw [IM.get_put_same]; rfl
theorem gv_put_other (m : List (Int × Value)) {k j : Int} (v : Value) (h : j ≠ k) : gv (IM.put m k v) j = gv m j := by unfold gv; rw [IM.get_put_other h]
section
variable {w w' : World} {base r : Nat} {m : List (Int × Value)} {G : Int → List Ak}
end
theorem ofDev_snoc (d : Int) (l : List Ak) (a : Ak) : ofDev d (l ++ [a]) = if a.d = d then ofDev d l ++ [a] else ofDev d l := by
  unfold ofDev
  rw [List.filter_append]
  by_cases h : a.d = d
  · rw [if_pos h]; simp [h]
  · rw [if_neg h]; simp [h]
theorem sel_snoc (f s : Int) (l : List Ak) (a : Ak) : (l ++ [a]).filter (selA f s) = if selA f s a then l.filter (selA f s) ++ [a] else l.filter (selA f s) := by
  rw [List.filter_append]
  cases h : selA f s a <;> simp [h]
end Go.Proofs.YtmmppibbglacdaaDoor

namespace Go.Proofs.YtmmppibbglacdaaDoor
open Go.RowKit Cod
def AkS (w : World) (v : Value) (l : List Ak) : Prop := SlAt 38 w v l.length (fun i => akC (l.getD i ak0))
def MbS (w : World) (v : Value) (l : List Mb) : Prop := SlAt 3 w v l.length (fun i => mbC (l.getD i mb0))
theorem getD_mem {α : Type} (d : α) {l : List α} {i : Nat} (h : i < l.length) : l.getD i d ∈ l := by
  rw [List.getD_eq_getElem?_getD, List.getElem?_eq_getElem h]; exact List.getElem_mem h
theorem drop_succ_getD {α : Type} (d : α) : ∀ (l : List α) {k : Nat}, k < l.length → l.drop k = l.getD k d :: l.drop (k + 1)
  | [], k, h => absurd h (by simp)
  | a :: l, 0, _ => rfl
  | a :: l, k + 1, h => by
    show l.drop k = l.getD k d :: l.drop (k + 1)
    exact drop_succ_getD d l (by simpa using h)
theorem mbC_one (m : Mb) (j : Nat) : (mbC m j).oneCell' = true := by unfold mbC; split; rfl; split <;> rfl
theorem fold_ack (g : Nat → Value) : Array.foldl (fun (cs : Array Value) (x : Value × Nat) => cs.setIfInBounds x.snd x.fst) #[.int .i64 0, .int .i64 0, .int .i64 0, .int .i64 0, .int .u8 0, .int .u8 0, .int .u8 0, .int .u8 0, .int .u8 0, .int .u8 0, .int .u8 0, .int .u8 0, .int .u8 0, .int .u8 0, .int .u8 0, .int .u8 0, .int .u8 0, .int .u8 0, .int .u8 0, .int .u8 0, .int .u8 0, .int .u8 0, .int .u8 0, .int .u8 0, .int .u8 0, .int .u8 0, .int .u8 0, .int .u8 0, .int .u8 0, .int .u8 0, .int .u8 0, .int .u8 0, .int .u8 0, .int .u8 0, .int .u8 0, .int .u8 0, .int .i64 0, .int .i64 0] (rowF 38 g).zipIdx 0 38 = rowF 38 g := by kernel_rfl
end Go.Proofs.YtmmppibbglacdaaDoor

namespace Go.Proofs.YtmmppibbglacdaaDoor
open Go.RowKit Cod
theorem ak_same (a : Ak) (r g : Int) : msgA ⟨a.f, a.d, a.s, a.u, a.ch, r, g⟩ = msgA a := rfl
theorem okA_same (a : Ak) (r g : Int) : okA ⟨a.f, a.d, a.s, a.u, a.ch, r, g⟩ = okA a := rfl
theorem mkV_ok {f d s u : Int} {ch : List UInt8} {x : Int} (h : mkE f d s u ch x = 0) : mkV f d s u ch x = mkA f d s u ch x ∧ okA (mkA f d s u ch x) = true ∧ privB x = true := by
  refine ⟨by unfold mkV; rw [if_pos h], ?_⟩
  unfold mkE at h
  cases h1 : okA ⟨f, d, s, u, ch, 0, 0⟩ with
  | false => rw [h1] at h; simp at h
  | true =>
    rw [h1, if_pos rfl] at h
    refine ⟨h1, ?_⟩
    unfold pubE at h
    cases h2 : privB x with
    | false => rw [h2] at h; simp at h
    | true => rfl
/-- what is made is accepted -/
theorem make_ck {f d s u : Int} {ch : List UInt8} {x : Int} (h : mkE f d s u ch x = 0) : ckA (mkV f d s u ch x) (pubV x) = 0 := by
  obtain ⟨h1, h2, h3⟩ := mkV_ok h
  rw [h1]
  unfold ckA
  rw [if_pos h2]
  have h4 : verB (pubV x) (msgA (mkA f d s u ch x)) (mkA f d s u ch x).r (mkA f d s u ch x).g = true := by
    show verB (pubV x) (msgA ⟨f, d, s, u, ch, 0, 0⟩) (sgR x _) (sgS x _) = true
    have hv := ver_sign x.toNat (msgA ⟨f, d, s, u, ch, 0, 0⟩)
    unfold sgR sgS pubV
    rw [h3, if_pos rfl, if_pos rfl, if_pos rfl]
    have hp : gexpV 4 x = ((pubM x.toNat : Nat) : Int) := by
      obtain ⟨n, rfl, g1, g2⟩ := priv_nat h3
      rw [gexpV4 g2]; rfl
    rw [hp]; exact hv
  rw [h4, if_pos rfl]
theorem mkV_wf {f d s u : Int} {ch : List UInt8} {x : Int} (hf : i64B f) (hd : i64B d) (hs : i64B s) (hu : i64B u) (hc : ch.length = 32) : (mkV f d s u ch x).wf := by
  unfold mkV
  split
  · refine ⟨hf, hd, hs, hu, hc, ?_, ?_⟩
    · show i64B (sgR x _)
      unfold sgR
      split
      · have := (pow4_El (nonceM x.toNat (msgA ⟨f, d, s, u, ch, 0, 0⟩))).2.1
        unfold sigR i64B; omega
      · exact i64B_0
    · show i64B (sgS x _)
      unfold sgS
      split
      · have : sigS x.toNat (msgA ⟨f, d, s, u, ch, 0, 0⟩) < 2305843009213688669 := addQ_lt _ _
        unfold i64B; omega
      · exact i64B_0
  · exact ak0_wf
theorem mkV_f {f d s u : Int} {ch : List UInt8} {x : Int} (h : mkE f d s u ch x = 0) : (mkV f d s u ch x).f = f ∧ (mkV f d s u ch x).d = d ∧ (mkV f d s u ch x).s = s ∧ (mkV f d s u ch x).u = u := by
  rw [(mkV_ok h).1]; exact ⟨rfl, rfl, rfl, rfl⟩
/-- what is encoded is read again -/
theorem adec_enc {a : Ak} (ha : a.wf) (h : okA a = true) : decF (encA a [a.r, a.g]) = some (treeA a [a.r, a.g]) ∧ adecT (treeA a [a.r, a.g]) = a := by
  refine ⟨?_, ?_⟩
  · have hc := chkT_0 (chkT_lst (fldA_form a [a.r, a.g]) (fldA_depth a [a.r, a.g])).1
    refine decF_encV hc.1 hc.2 ?_
    have hl : (ByteArray.mk a.ch.toArray).size = 32 := by show a.ch.toArray.size = 32; rw [List.size_toArray]; exact ha.ch
    have h1 := ha.f; have h2 := ha.d; have h3 := ha.s; have h4 := ha.u; have h5 := ha.r; have h6 := ha.g
    unfold i64B at h1 h2 h3 h4 h5 h6
    simp only [treeA, lstT, fldA, numT, txtT, List.map_cons, List.map_nil, List.cons_append, List.nil_append, bdV, bdL, hl]
    refine ⟨by decide, by decide, by simp, ⟨h1, by decide, by decide, trivial⟩, ⟨h2, by decide, by decide, trivial⟩, ⟨h3, by decide, by decide, trivial⟩, ⟨h4, by decide, by decide, trivial⟩, ⟨by decide, by decide, by decide, trivial⟩, ⟨h5, by decide, by decide, trivial⟩, ⟨h6, by decide, by decide, trivial⟩, trivial⟩
  · have hc := chP_same ha.ch
    show (⟨a.f, a.d, a.s, a.u, chP (ByteArray.mk a.ch.toArray).data.toList, a.r, a.g⟩ : Ak) = a
    rw [show (ByteArray.mk a.ch.toArray).data.toList = a.ch from rfl, hc]
theorem adecE_enc {a : Ak} (ha : a.wf) (h : okA a = true) : adecE (encA a [a.r, a.g]) = 0 := by
  obtain ⟨h1, h2⟩ := adec_enc ha h
  unfold adecE
  rw [h1]
  dsimp only
  rw [h2, if_pos ⟨rfl, h, rfl⟩]
theorem adecV_enc {a : Ak} (ha : a.wf) (h : okA a = true) : adecV (encA a [a.r, a.g]) = a := by
  unfold adecV
  rw [if_pos (adecE_enc ha h), (adec_enc ha h).1]
  exact (adec_enc ha h).2
theorem adecE_ok {l : List UInt8} (h : adecE l = 0) : okA (adecV l) = true ∧ encA (adecV l) [(adecV l).r, (adecV l).g] = l := by
  unfold adecV
  rw [if_pos h]
  unfold adecE at h
  cases hd : decF l with
  | none => rw [hd] at h; simp at h
  | some t =>
    rw [hd] at h
    dsimp only at h ⊢
    by_cases h1 : t.l.length = 7 ∧ okA (adecT t) = true ∧ encA (adecT t) [(adecT t).r, (adecT t).g] = l
    · exact h1.2
    · rw [if_neg h1] at h; simp at h
theorem adecV_bad {l : List UInt8} (h : adecE l ≠ 0) : adecV l = ak0 := by unfold adecV; rw [if_neg h]
/-! the examples -/
def ch5 : List UInt8 := 5 :: List.replicate 31 0
def akE : Ak := mkV 1 2 3 4 ch5 6
def akZ : Ak := mkV 1 2 3 0 z32 6
theorem pub6 : pubE 6 = 0 := by decide
theorem mk1 : mkE 16 0 0 0 z32 5 = 330 := by decide
theorem mk2 : mkE 1 2 3 4 ch5 6 = 0 := by decide
theorem mk3 : mkE 1 2 3 0 z32 6 = 0 := by decide
theorem ck4 : ckA ak0 4 = 222 := by
  unfold ckA
  rw [if_pos (by decide), ver_no _ (fun h => absurd h.2.1 (by unfold chk elemB; simp [ak0])), if_neg (by decide)]
theorem enc7 : adecE (encV (numT 7)) = 330 := by
  have h : decF (encV (numT 7)) = some (numT 7) := decF_encV (leaf_form 7) (by simp [numT, depthN]) (by simp only [numT, bdV, bdL]; exact ⟨by decide, by decide, by decide, trivial⟩)
  unfold adecE
  rw [h]
  rfl
theorem least1 : leastM [] 0 0 [] = 0 := rfl
theorem upto2 : uptoM 1 3 [akE] ⟨2, 0, pubV 6⟩ = 4 := by
  obtain ⟨h1, h2, h3, h4⟩ := mkV_f mk2
  have h5 : ckA akE (pubV 6) = 0 := make_ck mk2
  generalize pubV 6 = pv at h5 ⊢
  have e1 : selA 1 3 akE = true := by unfold selA akE; rw [h1, h3]; rfl
  have e2 : decide (akE.d = 2) = true := by unfold akE; rw [h2]; rfl
  unfold uptoM ofDev
  show (([akE].filter (selA 1 3)).filter fun a => decide (a.d = 2)).foldl (stepU ⟨2, 0, pv⟩) 0 = 4
  rw [List.filter_cons_of_pos e1, List.filter_nil, List.filter_cons_of_pos (p := fun a : Ak => decide (a.d = 2)) e2, List.filter_nil, List.foldl_cons, List.foldl_nil]
  unfold stepU
  rw [show akE.u = 4 from h4]
  exact if_pos ⟨by decide, h5⟩
theorem upto3 : uptoM 1 3 [akE] ⟨3, 0, 4⟩ = 0 := by
  obtain ⟨h1, h2, h3, h4⟩ := mkV_f mk2
  have e1 : selA 1 3 akE = true := by unfold selA akE; rw [h1, h3]; rfl
  have e2 : ¬ decide (akE.d = 3) = true := by unfold akE; rw [h2]; decide
  unfold uptoM ofDev
  show (([akE].filter (selA 1 3)).filter fun a => decide (a.d = 3)).foldl (stepU ⟨3, 0, 4⟩) 0 = 0
  rw [List.filter_cons_of_pos e1, List.filter_nil, List.filter_cons_of_neg (p := fun a : Ak => decide (a.d = 3)) e2, List.filter_nil, List.foldl_nil]
theorem leastGo_nil (f s : Int) (l : List Ak) (i : Nat) (n : Int) : leastGo f s l [] i n = n := rfl
theorem leastGo_one (f s : Int) (l : List Ak) (m : Mb) (i : Nat) (n : Int) : leastGo f s l [m] i n = leastStep f s l n i m := rfl
theorem least2 : leastM [⟨2, 0, pubV 6⟩] 1 3 [akE] = 4 := by
  rw [leastM_cons, leastGo_nil, upto2]
theorem least3 : leastM [⟨2, 0, pubV 6⟩, ⟨3, 0, 4⟩] 1 3 [akE] = 0 := by
  rw [leastM_cons, leastGo_one, upto2]
  unfold leastStep
  rw [upto3, if_pos (.inr (by decide))]
def enG : En := ⟨4, List.replicate 32 0, none, 0, 0, true⟩
theorem wrong1 : wrongL 0 (goneU [enG] 1) = [1] := by decide
end Go.Proofs.YtmmppibbglacdaaDoor
