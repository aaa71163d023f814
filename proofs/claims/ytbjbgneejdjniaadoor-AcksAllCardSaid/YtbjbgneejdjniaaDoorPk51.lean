/- Acknowledgements of all members: the plain law. -/
import Derived.Test.YtbjbgneejdjniaaDoorPk50
set_option linter.unusedVariables false
set_option linter.unusedSimpArgs false
namespace Go.Proofs.YtbjbgneejdjniaaDoor
open Go.RowKit Cod
def dig1 (c : UInt8) : List UInt8 := c :: List.replicate 31 0
def memQ (i : Nat) : Mb := ⟨7 * (i : Int), 0, pubV ((i : Int) + 3)⟩
def ackQ (f s : Int) (ns : List UInt8) (i : Nat) : Ak := mkV f (7 * (i : Int)) s ((ns.getD i 0).toNat : Int) (dig1 (ns.getD i 0)) ((i : Int) + 3)
def ack0Q (f s : Int) (i : Nat) : Ak := mkV f (7 * (i : Int)) s 0 z32 ((i : Int) + 3)
def memsQ (k : Nat) : List Mb := (List.range k).map memQ
def acksQ (f s : Int) (ns : List UInt8) (k : Nat) : List Ak := (List.range k).flatMap fun i => [ackQ f s ns i, ack0Q f s i]
def leastQ (ns : List UInt8) : Nat → Int
  | 0 => 256
  | k + 1 => min (leastQ ns k) ((ns.getD k 0).toNat : Int)
theorem memsQ_succ (k : Nat) : memsQ (k + 1) = memsQ k ++ [memQ k] := by unfold memsQ; rw [List.range_succ, List.map_append]; rfl
theorem acksQ_succ (f s : Int) (ns : List UInt8) (k : Nat) : acksQ f s ns (k + 1) = acksQ f s ns k ++ [ackQ f s ns k, ack0Q f s k] := by unfold acksQ; rw [List.range_succ, List.flatMap_append]; simp
theorem memsQ_len (k : Nat) : (memsQ k).length = k := by simp [memsQ]
theorem acksQ_len (f s : Int) (ns : List UInt8) : ∀ k, (acksQ f s ns k).length = 2 * k
  | 0 => rfl
  | k + 1 => by rw [acksQ_succ, List.length_append, acksQ_len f s ns k]; simp; omega
theorem pubE_small {i : Nat} (h : i < 5) : pubE ((i : Int) + 3) = 0 := by
  have : i = 0 ∨ i = 1 ∨ i = 2 ∨ i = 3 ∨ i = 4 := by omega
  rcases this with rfl | rfl | rfl | rfl | rfl <;> decide
theorem mkE_small {f s u : Int} {ch : List UInt8} {i : Nat} (hf : 0 ≤ f ∧ f < 16) (hs : 0 ≤ s ∧ s < 4) (hu : 0 ≤ u ∧ u < 65537) (h : i < 5) : mkE f (7 * (i : Int)) s u ch ((i : Int) + 3) = 0 := by
  unfold mkE
  rw [if_pos ((okA_iff _).2 ⟨hf.1, hf.2, by show (0 : Int) ≤ 7 * (i : Int); omega, by show 7 * (i : Int) < 512; omega, hs.1, hs.2, hu.1, hu.2⟩)]
  exact pubE_small h
theorem u8_le (c : UInt8) : 0 ≤ ((c.toNat : Nat) : Int) ∧ ((c.toNat : Nat) : Int) ≤ 255 := by have := c.toNat_lt; omega
theorem acksQ_mem {f s : Int} {ns : List UInt8} {k : Nat} {a : Ak} (h : a ∈ acksQ f s ns k) : ∃ i, i < k ∧ (a = ackQ f s ns i ∨ a = ack0Q f s i) := by
  unfold acksQ at h
  obtain ⟨i, hi, h2⟩ := List.mem_flatMap.1 h
  simp only [List.mem_cons, List.not_mem_nil, or_false] at h2
  exact ⟨i, List.mem_range.1 hi, h2⟩
theorem leastQ_spec (ns : List UInt8) : ∀ j, (∀ i, i < j → leastQ ns j ≤ ((ns.getD i 0).toNat : Int)) ∧ (leastQ ns j = 256 ∧ j = 0 ∨ ∃ i, i < j ∧ leastQ ns j = ((ns.getD i 0).toNat : Int))
  | 0 => ⟨fun i h => absurd h (Nat.not_lt_zero i), .inl ⟨rfl, rfl⟩⟩
  | j + 1 => by
    obtain ⟨h1, h2⟩ := leastQ_spec ns j
    have hb := u8_le (ns.getD j 0)
    have e : leastQ ns (j + 1) = min (leastQ ns j) ((ns.getD j 0).toNat : Int) := rfl
    rw [e]
    refine ⟨fun i hi => ?_, .inr ?_⟩
    · by_cases hij : i = j
      · subst hij; omega
      · have := h1 i (by omega); omega
    · by_cases hlt : leastQ ns j ≤ ((ns.getD j 0).toNat : Int)
      · rcases h2 with ⟨h3, h4⟩ | ⟨i, hi, h3⟩
        · omega
        · exact ⟨i, by omega, by omega⟩
      · exact ⟨j, by omega, by omega⟩
section
variable {f s : Int} {ns : List UInt8} {k : Nat} (hf : 0 ≤ f ∧ f < 16) (hs : 0 ≤ s ∧ s < 4) (hk : k ≤ 5)
include hf hs
theorem ackQ_E {i : Nat} (h : i < 5) : mkE f (7 * (i : Int)) s ((ns.getD i 0).toNat : Int) (dig1 (ns.getD i 0)) ((i : Int) + 3) = 0 := by
  have := u8_le (ns.getD i 0); exact mkE_small hf hs (by omega) h
theorem ack0Q_E {i : Nat} (h : i < 5) : mkE f (7 * (i : Int)) s 0 z32 ((i : Int) + 3) = 0 := mkE_small hf hs (by omega) h
theorem ackQ_f {i : Nat} (h : i < 5) : (ackQ f s ns i).f = f ∧ (ackQ f s ns i).d = 7 * (i : Int) ∧ (ackQ f s ns i).s = s ∧ (ackQ f s ns i).u = ((ns.getD i 0).toNat : Int) := mkV_f (ackQ_E hf hs h)
theorem ack0Q_f {i : Nat} (h : i < 5) : (ack0Q f s i).f = f ∧ (ack0Q f s i).d = 7 * (i : Int) ∧ (ack0Q f s i).s = s ∧ (ack0Q f s i).u = 0 := mkV_f (ack0Q_E hf hs h)
theorem ackQ_ck {i : Nat} (h : i < 5) : ckA (ackQ f s ns i) (pubV ((i : Int) + 3)) = 0 := make_ck (ackQ_E hf hs h)
theorem ackQ_wf (i : Nat) (h : i < 5) : (ackQ f s ns i).wf := by
  have := u8_le (ns.getD i 0)
  exact mkV_wf (by unfold i64B; omega) (by unfold i64B; omega) (by unfold i64B; omega) (by unfold i64B; omega) rfl
theorem ack0Q_wf (i : Nat) (h : i < 5) : (ack0Q f s i).wf :=
  mkV_wf (by unfold i64B; omega) (by unfold i64B; omega) (by unfold i64B; omega) (by unfold i64B; omega) rfl
include hk
theorem acksQ_wf : ∀ a ∈ acksQ f s ns k, a.wf := fun a h => by
  obtain ⟨i, hi, rfl | rfl⟩ := acksQ_mem h
  · exact ackQ_wf hf hs i (by omega)
  · exact ack0Q_wf hf hs i (by omega)
theorem uptoQ {i : Nat} (hi : i < k) : uptoM f s (acksQ f s ns k) (memQ i) = ((ns.getD i 0).toNat : Int) := by
  have hb := u8_le (ns.getD i 0)
  have hin : ackQ f s ns i ∈ acksQ f s ns k := by
    unfold acksQ; exact List.mem_flatMap.2 ⟨i, List.mem_range.2 hi, List.mem_cons_self ..⟩
  obtain ⟨e1, e2, e3, e4⟩ := ackQ_f (ns := ns) hf hs (show i < 5 by omega)
  have hc : cntA (memQ i) f s (ackQ f s ns i) = true := by
    unfold cntA selA
    rw [e1, e2, e3, show (memQ i).ver = pubV ((i : Int) + 3) from rfl, ackQ_ck hf hs (by omega), show (memQ i).dev = 7 * (i : Int) from rfl]
    simp
  have h1 := uptoM_all hin hc
  rw [e4] at h1
  rcases uptoM_some f s (acksQ f s ns k) (memQ i) with h | ⟨a, ha, hca, h, _⟩
  · omega
  · obtain ⟨j, hj, rfl | rfl⟩ := acksQ_mem ha
    · obtain ⟨g1, g2, g3, g4⟩ := ackQ_f (ns := ns) hf hs (show j < 5 by omega)
      unfold cntA at hca
      simp only [Bool.and_eq_true, decide_eq_true_eq] at hca
      have hd := hca.1.2
      rw [g2, show (memQ i).dev = 7 * (i : Int) from rfl] at hd
      obtain rfl : j = i := by omega
      rw [h, g4]
    · obtain ⟨g1, g2, g3, g4⟩ := ack0Q_f hf hs (show j < 5 by omega)
      rw [g4] at h; omega
theorem leastM_Q (h0 : 0 < k) : leastM (memsQ k) f s (acksQ f s ns k) = leastQ ns k := by
  obtain ⟨h1, h2⟩ := leastQ_spec ns k
  have hne : memsQ k ≠ [] := by intro e; have := congrArg List.length e; rw [memsQ_len] at this; simp at this; omega
  apply Int.le_antisymm
  · rcases h2 with ⟨_, h3⟩ | ⟨i, hi, h3⟩
    · omega
    · rw [h3, ← uptoQ (ns := ns) hf hs hk hi]
      exact leastM_le (List.mem_map.2 ⟨i, List.mem_range.2 hi, rfl⟩)
  · obtain ⟨m, hm, e⟩ := leastM_at (f := f) (s := s) (l := acksQ f s ns k) hne
    obtain ⟨i, hi, rfl⟩ := List.mem_map.1 hm
    rw [e, uptoQ (ns := ns) hf hs hk (List.mem_range.1 hi)]
    exact h1 i (List.mem_range.1 hi)
theorem leastM_none {f' s' : Int} (h : f' ≠ f ∨ s' ≠ s) (h0 : 0 < k) : leastM (memsQ k) f' s' (acksQ f s ns k) = 0 := by
  have hne : memsQ k ≠ [] := by intro e; have := congrArg List.length e; rw [memsQ_len] at this; simp at this; omega
  obtain ⟨m, hm, e⟩ := leastM_at (f := f') (s := s') (l := acksQ f s ns k) hne
  rw [e]
  rcases uptoM_some f' s' (acksQ f s ns k) m with h2 | ⟨a, ha, hc, _, _⟩
  · exact h2
  · exfalso
    unfold cntA selA at hc
    simp only [Bool.and_eq_true, decide_eq_true_eq] at hc
    obtain ⟨j, hj, rfl | rfl⟩ := acksQ_mem ha
    · obtain ⟨g1, g2, g3, g4⟩ := ackQ_f (ns := ns) hf hs (show j < 5 by omega)
      rw [g1, g3] at hc
      rcases h with h | h
      · exact h hc.1.1.1.symm
      · exact h hc.1.1.2.symm
    · obtain ⟨g1, g2, g3, g4⟩ := ack0Q_f hf hs (show j < 5 by omega)
      rw [g1, g3] at hc
      rcases h with h | h
      · exact h hc.1.1.1.symm
      · exact h hc.1.1.2.symm
end
theorem leastQ_bd (ns : List UInt8) : ∀ k, 0 ≤ leastQ ns k ∧ leastQ ns k ≤ 256
  | 0 => by unfold leastQ; omega
  | k + 1 => by have := leastQ_bd ns k; have := u8_le (ns.getD k 0); unfold leastQ; omega
/-! the entries -/
def entQ (g : Bool) : En := ⟨4, List.replicate 32 0, none, 0, 0, g⟩
def entsQ (gs : List Bool) (k : Nat) : List En := (List.range k).map fun i => entQ (gs.getD i false)
def wantQ (n : Int) (gs : List Bool) : Nat → List Int
  | 0 => []
  | k + 1 => if gs.getD k false = true ∧ n ≤ (k : Int) then wantQ n gs k ++ [(k : Int) + 1] else wantQ n gs k
theorem entsQ_succ (gs : List Bool) (k : Nat) : entsQ gs (k + 1) = entsQ gs k ++ [entQ (gs.getD k false)] := by unfold entsQ; rw [List.range_succ, List.map_append]; rfl
theorem entsQ_len (gs : List Bool) (k : Nat) : (entsQ gs k).length = k := by simp [entsQ]
theorem entsQ_get (gs : List Bool) {k i : Nat} (h : i < k) : (entsQ gs k).getD i en0 = entQ (gs.getD i false) := by
  unfold entsQ
  rw [List.getD_eq_getElem?_getD, List.getElem?_map, List.getElem?_range h]; rfl
theorem wantQ_len (n : Int) (gs : List Bool) : ∀ k, (wantQ n gs k).length ≤ k
  | 0 => Nat.le_refl _
  | k + 1 => by
    have := wantQ_len n gs k
    unfold wantQ; split
    · rw [List.length_append, List.length_singleton]; omega
    · omega
theorem wrongQ (n : Int) (gs : List Bool) (q : Nat) : ∀ k, k ≤ q → wrongL n (goneU (entsQ gs q) k) = wantQ n gs k
  | 0, _ => rfl
  | k + 1, hk => by
    have ih := wrongQ n gs q k (by omega)
    rw [goneU_succ, entsQ_get gs (show k < q by omega)]
    show wrongL n (if gs.getD k false = true then _ else _) = if gs.getD k false = true ∧ n ≤ (k : Int) then wantQ n gs k ++ [(k : Int) + 1] else wantQ n gs k
    cases hg : gs.getD k false with
    | false => simp [ih]
    | true =>
      rw [if_pos rfl]
      by_cases hn : n ≤ (k : Int)
      · have hp : wrongP n (k + 1, entQ true) = true := by
          unfold wrongP entQ; simp; omega
        rw [wrongL_hit n _ hp, ih, if_pos ⟨rfl, hn⟩]
        rfl
      · have hp : wrongP n (k + 1, entQ true) = false := by
          unfold wrongP entQ; simp; omega
        rw [wrongL_miss n _ hp, ih, if_neg (fun h => hn h.2)]
def boC (b : Bool) (_ : Nat) : Value := .bool b
def BoS (w : World) (v : Value) (l : List Bool) : Prop := SlAt 1 w v l.length (fun i => boC (l.getD i false))
theorem trod_boo {H : Type} {enc : TypeId × Value → H} {W : World} {fuel : Nat} {cs : List Value} {x : DataW H × List MemPlace} (h : DataW.trod enc Tryd.prog W 0 (fun _ => true) true fuel 4 cs = some x) : ∃ b : Bool, True ∧ cs = (List.range 1).map (boC b) := by
  obtain ⟨b, rfl, _⟩ := DataW.trod_bool Tryd.underlying4 h
  exact ⟨b, trivial, rfl⟩
theorem and15 (x : Int) : bits .and .i64 x 15 = x % 16 := by
  have h : (BitVec.ofInt 64 x &&& BitVec.ofInt 64 15).toNat = (x % 18446744073709551616).toNat % 16 := by
    rw [BitVec.toNat_and, BitVec.toNat_ofInt]
    exact Nat.and_two_pow_sub_one_eq_mod _ 4
  show IntKind.i64.wrap ((BitVec.ofInt 64 x &&& BitVec.ofInt 64 15).toNat : Int) = _
  rw [h, IntKind.wrap_i64]; omega
theorem and3 (x : Int) : bits .and .i64 x 3 = x % 4 := by
  have h : (BitVec.ofInt 64 x &&& BitVec.ofInt 64 3).toNat = (x % 18446744073709551616).toNat % 4 := by
    rw [BitVec.toNat_and, BitVec.toNat_ofInt]
    exact Nat.and_two_pow_sub_one_eq_mod _ 2
  show IntKind.i64.wrap ((BitVec.ofInt 64 x &&& BitVec.ofInt 64 3).toNat : Int) = _
  rw [h, IntKind.wrap_i64]; omega
theorem info_ent : (Tryd.prog.info? 45).map (fun i => (i.zero, i.size, i.bytes)) = some (some (.agg (rowF 35 (enC en0))), 35, 72) := by kernel_rfl
theorem wantQ_yes {n : Int} {gs : List Bool} {k : Nat} (h : gs.getD k false = true) (hn : n ≤ (k : Int)) : wantQ n gs (k + 1) = wantQ n gs k ++ [(k : Int) + 1] := by
  show (if gs.getD k false = true ∧ n ≤ (k : Int) then _ else _) = _
  rw [if_pos ⟨h, hn⟩]
theorem wantQ_no {n : Int} {gs : List Bool} {k : Nat} (h : ¬ (gs.getD k false = true ∧ n ≤ (k : Int))) : wantQ n gs (k + 1) = wantQ n gs k := by
  show (if gs.getD k false = true ∧ n ≤ (k : Int) then _ else _) = _
  rw [if_neg h]
theorem dig1_lit (c : UInt8) : rowF 32 (dgF (dig1 c)) = #[.int .u8 (c.toNat : Int), .int .u8 0, .int .u8 0, .int .u8 0, .int .u8 0, .int .u8 0, .int .u8 0, .int .u8 0, .int .u8 0, .int .u8 0, .int .u8 0, .int .u8 0, .int .u8 0, .int .u8 0, .int .u8 0, .int .u8 0, .int .u8 0, .int .u8 0, .int .u8 0, .int .u8 0, .int .u8 0, .int .u8 0, .int .u8 0, .int .u8 0, .int .u8 0, .int .u8 0, .int .u8 0, .int .u8 0, .int .u8 0, .int .u8 0, .int .u8 0, .int .u8 0] := by kernel_rfl
end Go.Proofs.YtbjbgneejdjniaaDoor
