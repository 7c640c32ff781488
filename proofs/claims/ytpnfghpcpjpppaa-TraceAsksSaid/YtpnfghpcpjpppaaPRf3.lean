/- The reference's tree: who knows a key: members alone. Plain. -/
import Derived.Test.YtpnfghpcpjpppaaLab
namespace Go.Proofs.Ytpnfghpcpjpppaa
open Go.RowKit
set_option linter.unusedVariables false
set_option linter.unusedSimpArgs false

/-- Does the label (v, w) lead to the key of (n, m)? -/
def leadsB (k v w n m : Int) : Bool := v == n && (if k = 1 ∨ m = 0 then w == m else decide (1 ≤ w) && (belowB w v && belowB m w))
def anyLeads (k : Int) (L : List (Int × Int)) (n m : Int) : Bool := L.any fun y => leadsB k y.1 y.2 n m

/-- The ancestor of v on level j. -/
def anc (v : Int) (j : Int) : Int := v / 2 ^ (lvl v - j).toNat
theorem belowB_iff {t v : Int} : belowB t v = true ↔ 1 ≤ t ∧ 1 ≤ v ∧ lvl v ≤ lvl t ∧ anc t (lvl v) = v := by
  unfold belowB anc
  simp only [Bool.and_eq_true, decide_eq_true_eq, beq_iff_eq]
  omega
theorem anc_fin : ((List.range 128).all fun v => (List.range 7).all fun j => v == 0 || decide (lvl v < j) || (decide (lvl (anc v j) = j) && decide (1 ≤ anc v j) && decide (anc v j ≤ 127))) = true := by decide +kernel
theorem anc_lvl {v j : Int} (v1 : 1 ≤ v) (v7 : v ≤ 127) (j0 : 0 ≤ j) (hj : j ≤ lvl v) : lvl (anc v j) = j ∧ 1 ≤ anc v j ∧ anc v j ≤ 127 := by
  have hb := lvl_bd v v1 v7
  have h := List.all_eq_true.1 (List.all_eq_true.1 anc_fin v.toNat (List.mem_range.2 (by omega))) j.toNat (List.mem_range.2 (by omega))
  rw [show ((v.toNat : Nat) : Int) = v from by omega, show ((j.toNat : Nat) : Int) = j from by omega] at h
  simp only [Bool.or_eq_true, beq_iff_eq, Bool.and_eq_true, decide_eq_true_eq] at h
  omega
theorem anc_anc {v i j : Int} (v1 : 1 ≤ v) (v7 : v ≤ 127) (i0 : 0 ≤ i) (hij : i ≤ j) (hj : j ≤ lvl v) : anc (anc v j) i = anc v i := by
  obtain ⟨h, -, -⟩ := anc_lvl v1 v7 (by omega) hj
  unfold anc at h ⊢
  rw [h, Int.ediv_ediv_of_nonneg (Int.pow_nonneg (by omega)), ← Int.pow_add]
  congr 2
  omega
theorem anc_self (v : Int) : anc v (lvl v) = v := by unfold anc; rw [Int.sub_self]; simp
theorem anc_zero_fin : ((List.range 128).all fun v => v == 0 || decide (anc v 0 = 1)) = true := by decide +kernel
theorem below_trans {a b c : Int} (ha : a ≤ 127) (h1 : belowB a b = true) (h2 : belowB b c = true) : belowB a c = true := by
  rw [belowB_iff] at *
  obtain ⟨a1, b1, hl, e⟩ := h1
  obtain ⟨-, c1, hl2, e2⟩ := h2
  by_cases hc : c ≤ 127
  · have hbc := lvl_bd c c1 hc
    refine ⟨a1, c1, by omega, ?_⟩
    rw [← anc_anc a1 ha hbc.1 hl2 hl, e, e2]
  · exfalso
    -- c is an ancestor of b, b of a
    have hb : b ≤ a := by
      unfold anc at e
      rw [← e]
      exact Int.ediv_le_self _ (by omega)
    have hc2 : c ≤ b := by
      unfold anc at e2
      rw [← e2]
      exact Int.ediv_le_self _ (by omega)
    omega

/-- The path from the root, level by level. -/
theorem rootPath_fin : ((List.range 128).all fun l => l == 0 || decide (rootPath l = (List.range ((lvl l).toNat + 1)).map fun i : Nat => anc (l : Int) i)) = true := by decide +kernel
theorem rootPath_eq {l : Int} (l1 : 1 ≤ l) (l7 : l ≤ 127) : rootPath l = (List.range ((lvl l).toNat + 1)).map fun i : Nat => anc l i := by
  have h := List.all_eq_true.1 rootPath_fin l.toNat (List.mem_range.2 (by omega))
  rw [show ((l.toNat : Nat) : Int) = l from by omega] at h
  simp only [Bool.or_eq_true, beq_iff_eq, decide_eq_true_eq] at h
  rcases h with h | h
  · omega
  · exact h
theorem mem_pairsOf {P : List Int} {x : Int × Int} : x ∈ pairsOf P ↔ ∃ i j, i < j ∧ ∃ (hj : j < P.length) (hi : i < P.length), x = (P[i], Go.bits .xor .i64 P[j] 1) := by
  induction P with
  | nil => simp [pairsOf]
  | cons a P ih =>
    rw [pairsOf, List.mem_append, ih]
    constructor
    · rintro (h | ⟨i, j, hij, hj, hi, rfl⟩)
      · obtain ⟨b, hb, rfl⟩ := List.mem_map.1 h
        obtain ⟨j, hj, rfl⟩ := List.mem_iff_getElem.1 hb
        exact ⟨0, j + 1, by omega, by simpa using hj, by simp, rfl⟩
      · exact ⟨i + 1, j + 1, by omega, by simpa using hj, by simpa using hi, rfl⟩
    · rintro ⟨i, j, hij, hj, hi, rfl⟩
      rcases i with _ | i
      · rcases j with _ | j
        · omega
        · refine .inl (List.mem_map.2 ⟨P[j]'(by simpa using hj), List.getElem_mem _, rfl⟩)
      · rcases j with _ | j
        · omega
        · exact .inr ⟨i, j, by omega, by simpa using hj, by simpa using hi, rfl⟩
theorem mem_pairs {l : Int} (l1 : 1 ≤ l) (l7 : l ≤ 127) {x : Int × Int} : x ∈ pairsOf (rootPath l) ↔ ∃ i j : Nat, i < j ∧ (j : Int) ≤ lvl l ∧ x = (anc l i, Go.bits .xor .i64 (anc l j) 1) := by
  have hb := lvl_bd l l1 l7
  rw [mem_pairsOf, rootPath_eq l1 l7]
  constructor
  · rintro ⟨i, j, hij, hj, hi, rfl⟩
    refine ⟨i, j, hij, by simp at hj; omega, by simp⟩
  · rintro ⟨i, j, hij, hj, rfl⟩
    exact ⟨i, j, hij, by simp; omega, by simp; omega, by simp⟩

/-- The sibling. -/
theorem sib_fin : ((List.range 128).all fun v => decide (v ≤ 1) || (decide (lvl (Go.bits .xor .i64 v 1) = lvl v) && decide (Go.bits .xor .i64 v 1 ≠ v) && decide ((Go.bits .xor .i64 v 1) / 2 = (v : Int) / 2) && decide (2 ≤ Go.bits .xor .i64 v 1) && decide (Go.bits .xor .i64 v 1 ≤ 127))) = true := by decide +kernel
theorem sib {v : Int} (v1 : 2 ≤ v) (v7 : v ≤ 127) : lvl (Go.bits .xor .i64 v 1) = lvl v ∧ Go.bits .xor .i64 v 1 ≠ v ∧ Go.bits .xor .i64 v 1 / 2 = v / 2 ∧ 2 ≤ Go.bits .xor .i64 v 1 ∧ Go.bits .xor .i64 v 1 ≤ 127 := by
  have h := List.all_eq_true.1 sib_fin v.toNat (List.mem_range.2 (by omega))
  rw [show ((v.toNat : Nat) : Int) = v from by omega] at h
  simp only [Bool.or_eq_true, Bool.and_eq_true, decide_eq_true_eq] at h
  rcases h with h | h
  · omega
  · exact ⟨h.1.1.1.1, h.1.1.1.2, h.1.1.2, h.1.2, h.2⟩

/-- A subset's part between stays a subset. -/
theorem between_part_fin : ((List.range 7).all fun d => (List.range 128).all fun m => (List.range 7).all fun i => (List.range 7).all fun j => m == 0 || decide (lvl m < j) || decide (j ≤ i) || !(decide (cutV d (anc m i) m = 0)) || decide (cutV d (anc m i) (anc m j) = 0)) = true := by decide +kernel
theorem between_part {d m i j : Int} (d0 : 0 ≤ d) (d6 : d ≤ 6) (m1 : 1 ≤ m) (m7 : m ≤ 127) (i0 : 0 ≤ i) (hij : i < j) (hj : j ≤ lvl m) (h : cutV d (anc m i) m = 0) : cutV d (anc m i) (anc m j) = 0 := by
  have hb := lvl_bd m m1 m7
  have h2 := List.all_eq_true.1 (List.all_eq_true.1 (List.all_eq_true.1 (List.all_eq_true.1 between_part_fin d.toNat (List.mem_range.2 (by omega))) m.toNat (List.mem_range.2 (by omega))) i.toNat (List.mem_range.2 (by omega))) j.toNat (List.mem_range.2 (by omega))
  rw [show ((d.toNat : Nat) : Int) = d from by omega, show ((m.toNat : Nat) : Int) = m from by omega, show ((i.toNat : Nat) : Int) = i from by omega, show ((j.toNat : Nat) : Int) = j from by omega] at h2
  simp only [Bool.or_eq_true, Bool.not_eq_true', decide_eq_true_eq, beq_iff_eq, decide_eq_false_iff_not] at h2
  omega

theorem half_anc {v j : Int} (v1 : 1 ≤ v) (v7 : v ≤ 127) (j0 : 0 ≤ j) (hj : j + 1 ≤ lvl v) : anc v (j + 1) / 2 = anc v j := by
  unfold anc
  rw [show (lvl v - j).toNat = (lvl v - (j + 1)).toNat + 1 from by omega, Int.pow_succ, Int.ediv_ediv_of_nonneg (Int.pow_nonneg (by omega))]
theorem two_fin : ((List.range 128).all fun v => decide (v = 0) || decide (lvl v < 1) || decide (2 ≤ v)) = true := by decide +kernel
theorem two_le {v : Int} (v1 : 1 ≤ v) (v7 : v ≤ 127) (h : 1 ≤ lvl v) : 2 ≤ v := by
  by_cases e : v = 1
  · subst e
    exact absurd h (by decide)
  · omega
theorem sib_eq_fin : ((List.range 128).all fun a => (List.range 128).all fun b => decide (a ≤ 1) || decide (b ≤ 1) || !(decide ((a : Int) / 2 = b / 2)) || decide (a = b) || decide ((a : Int) = Go.bits .xor .i64 b 1)) = true := by decide +kernel
theorem sib_eq {a b : Int} (a1 : 2 ≤ a) (a7 : a ≤ 127) (b1 : 2 ≤ b) (b7 : b ≤ 127) (h : a / 2 = b / 2) (hne : a ≠ b) : a = Go.bits .xor .i64 b 1 := by
  have h2 := List.all_eq_true.1 (List.all_eq_true.1 sib_eq_fin a.toNat (List.mem_range.2 (by omega))) b.toNat (List.mem_range.2 (by omega))
  rw [show ((a.toNat : Nat) : Int) = a from by omega, show ((b.toNat : Nat) : Int) = b from by omega] at h2
  simp only [Bool.or_eq_true, Bool.not_eq_true', decide_eq_true_eq, decide_eq_false_iff_not] at h2
  omega

theorem lvl_leaf_fin : ((List.range 7).all fun d => (List.range (2 ^ d)).all fun u => decide (lvl (sz d + u) = d)) = true := by decide +kernel
theorem lvl_leaf {d u : Int} (d0 : 0 ≤ d) (d6 : d ≤ 6) (u0 : 0 ≤ u) (u1 : u < sz d) : lvl (sz d + u) = d ∧ 1 ≤ sz d + u ∧ sz d + u ≤ 127 := by
  obtain ⟨z1, z2⟩ := sz_bd d d0 d6
  obtain ⟨d', rfl⟩ := Int.eq_ofNat_of_zero_le d0
  obtain ⟨u', rfl⟩ := Int.eq_ofNat_of_zero_le u0
  have hs : sz (d' : Int) = ((2 ^ d' : Nat) : Int) := by unfold sz; simp
  have h := List.all_eq_true.1 (List.all_eq_true.1 lvl_leaf_fin d' (List.mem_range.2 (by omega))) u' (List.mem_range.2 (by rw [hs] at u1; omega))
  exact ⟨of_decide_eq_true h, by omega, by omega⟩
theorem lvl_node_fin : ((List.range 7).all fun d => (List.range 128).all fun v => decide (v = 0) || !(decide ((v : Int) < 2 * sz d)) || decide (lvl v ≤ d)) = true := by decide +kernel
theorem lvl_node {d v : Int} (d0 : 0 ≤ d) (d6 : d ≤ 6) (v1 : 1 ≤ v) (hv : v < 2 * sz d) : lvl v ≤ d := by
  obtain ⟨z1, z2⟩ := sz_bd d d0 d6
  have h := List.all_eq_true.1 (List.all_eq_true.1 lvl_node_fin d.toNat (List.mem_range.2 (by omega))) v.toNat (List.mem_range.2 (by omega))
  rw [show ((v.toNat : Nat) : Int) = v from by omega, show ((d.toNat : Nat) : Int) = d from by omega] at h
  simp only [Bool.or_eq_true, Bool.not_eq_true', decide_eq_true_eq, decide_eq_false_iff_not] at h
  omega

/-- Where two nodes below n part: the first level on which their ancestors differ. -/
theorem parts {n l m : Int} (hl1 : 1 ≤ l) (hl7 : l ≤ 127) (hm1 : 1 ≤ m) (hm7 : m ≤ 127) (hln : belowB l n = true) (hmn : belowB m n = true) (hlm : belowB l m = false) (hle : lvl m ≤ lvl l) :
    ∃ j : Int, lvl n < j ∧ j ≤ lvl m ∧ anc m j = Go.bits .xor .i64 (anc l j) 1 := by
  obtain ⟨-, n1, h1, h2⟩ := belowB_iff.1 hln
  obtain ⟨-, -, h3, h4⟩ := belowB_iff.1 hmn
  have hbm := lvl_bd m hm1 hm7
  have hbn : 0 ≤ lvl n := by
    have : n ≤ 127 := by
      unfold anc at h4
      rw [← h4]
      exact Int.le_trans (Int.ediv_le_self _ (by omega)) hm7
    exact (lvl_bd n n1 this).1
  have hne : anc l (lvl m) ≠ m := fun e => by
    have := belowB_iff.2 ⟨hl1, hm1, hle, e⟩
    rw [hlm] at this; cases this
  -- induction on the level
  have key : ∀ c : Nat, lvl n + (c : Int) ≤ lvl m → anc l (lvl n + c) = anc m (lvl n + c) ∨ ∃ j : Int, lvl n < j ∧ j ≤ lvl m ∧ anc m j = Go.bits .xor .i64 (anc l j) 1 := by
    intro c
    induction c with
    | zero => intro _; left; simp only [Int.natCast_zero, Int.add_zero]; rw [h2, h4]
    | succ c ih =>
      intro hc
      rcases ih (by omega) with h | h
      · by_cases e : anc l (lvl n + ((c + 1 : Nat) : Int)) = anc m (lvl n + ((c + 1 : Nat) : Int))
        · exact .inl e
        · right
          refine ⟨lvl n + ((c + 1 : Nat) : Int), by omega, hc, ?_⟩
          have e1 : lvl n + ((c + 1 : Nat) : Int) = (lvl n + c) + 1 := by omega
          rw [e1] at e ⊢
          obtain ⟨p1, p2, p3⟩ := anc_lvl hl1 hl7 (show 0 ≤ (lvl n + c) + 1 by omega) (by omega)
          obtain ⟨q1, q2, q3⟩ := anc_lvl hm1 hm7 (show 0 ≤ (lvl n + c) + 1 by omega) (by omega)
          refine sib_eq (two_le q2 q3 (by omega)) q3 (two_le p2 p3 (by omega)) p3 ?_ (fun h => e h.symm)
          rw [half_anc hm1 hm7 (by omega) (by omega), half_anc hl1 hl7 (by omega) (by omega), h]
      · exact .inr h
  rcases key (lvl m - lvl n).toNat (by omega) with h | h
  · exfalso
    rw [show lvl n + ((lvl m - lvl n).toNat : Int) = lvl m from by omega, anc_self] at h
    exact hne h
  · exact h

theorem subset_part {k d n m j : Int} (k2 : k ≠ 1) (d0 : 0 ≤ d) (d6 : d ≤ 6) (hm : m ≠ 0) (hx : subsetB k d n m = true) (hj : lvl n < j) (hj2 : j ≤ lvl m) : subsetB k d n (anc m j) = true ∧ belowB (anc m j) n = true ∧ belowB m (anc m j) = true ∧ 1 ≤ anc m j := by
  obtain ⟨z1, z2⟩ := sz_bd d d0 d6
  obtain ⟨n1, n7, m0, m7⟩ := subset_bd d0 d6 hx
  have m1 : 1 ≤ m := by omega
  unfold subsetB at hx
  rw [if_neg k2, if_neg hm] at hx
  by_cases hn : 1 ≤ n ∧ n < 2 * sz d
  · rw [if_pos hn] at hx
    by_cases hc : (1 ≤ m ∧ m < 2 * sz d) ∧ m ≠ n ∧ belowB m n = true
    · rw [if_pos hc] at hx
      obtain ⟨-, -, h3, h4⟩ := belowB_iff.1 hc.2.2
      have hbn := lvl_bd n n1 n7
      have hbm := lvl_bd m m1 m7
      obtain ⟨p1, p2, p3⟩ := anc_lvl m1 m7 (show 0 ≤ j by omega) hj2
      have hle : anc m j ≤ m := by unfold anc; exact Int.ediv_le_self _ (by omega)
      have hb1 : belowB (anc m j) n = true := belowB_iff.2 ⟨p2, n1, by omega, by rw [anc_anc m1 m7 hbn.1 (by omega) hj2, h4]⟩
      have hb2 : belowB m (anc m j) = true := belowB_iff.2 ⟨m1, p2, by omega, by rw [p1]⟩
      refine ⟨?_, hb1, hb2, p2⟩
      unfold subsetB
      rw [if_pos hn, if_neg k2, if_neg (show ¬ anc m j = 0 by omega), if_pos ⟨⟨p2, by omega⟩, fun e => by rw [e] at p1; omega, hb1⟩]
      rw [Bool.or_eq_true, Bool.or_eq_true] at hx ⊢
      rcases hx with h | h | h
      · exact .inl h
      · exact .inr (.inl h)
      · refine .inr (.inr (decide_eq_true ?_))
        have h := of_decide_eq_true h
        rw [← h4] at h ⊢
        exact between_part d0 d6 m1 m7 hbn.1 hj hj2 h
    · rw [if_neg hc] at hx; cases hx
  · rw [if_neg hn] at hx; cases hx

theorem anyLeads_iff {k n m : Int} {L : List (Int × Int)} : anyLeads k L n m = true ↔ ∃ y ∈ L, leadsB k y.1 y.2 n m = true := by
  unfold anyLeads; rw [List.any_eq_true]

/-- A receiver has a label that leads to the key of a subset just if it is a member. -/
theorem know_eq {k d n m u : Int} (k1 : 1 ≤ k) (k3 : k ≤ 3) (d0 : 0 ≤ d) (d6 : d ≤ 6) (hx : subsetB k d n m = true) (u0 : 0 ≤ u) (u1 : u < sz d) : anyLeads k (labelsL k d u) n m = memberB d n m u := by
  obtain ⟨z1, z2⟩ := sz_bd d d0 d6
  obtain ⟨n1, n7, m0, m7⟩ := subset_bd d0 d6 hx
  obtain ⟨hl, l1, l7⟩ := lvl_leaf d0 d6 u0 u1
  have hx0 := hx
  rw [Bool.eq_iff_iff, anyLeads_iff]
  unfold memberB labelsL
  generalize sz d + u = l at *
  rw [Bool.and_eq_true, Bool.not_eq_true']
  by_cases hk : k = 1
  · -- subtrees
    rw [if_pos hk]
    have hm : m = 0 := by
      unfold subsetB at hx
      split at hx
      · exact of_decide_eq_true hx
      · cases hx
    subst hm
    have hb0 : belowB l 0 = false := by
      cases h : belowB l 0 with
      | false => rfl
      | true => have := (belowB_iff.1 h).2.1; omega
    constructor
    · rintro ⟨y, hy, hyl⟩
      obtain ⟨a, ha, rfl⟩ := List.mem_map.1 hy
      unfold leadsB at hyl
      rw [if_pos (.inl hk), Bool.and_eq_true, beq_iff_eq] at hyl
      obtain ⟨rfl, -⟩ := hyl
      rw [rootPath_eq l1 l7] at ha
      obtain ⟨i, hi, rfl⟩ := List.mem_map.1 ha
      have hi := List.mem_range.1 hi
      have hbl := lvl_bd l l1 l7
      obtain ⟨p1, p2, p3⟩ := anc_lvl l1 l7 (show (0 : Int) ≤ i by omega) (by omega)
      exact ⟨belowB_iff.2 ⟨l1, p2, by show lvl (anc l i) ≤ lvl l; omega, by show anc l (lvl (anc l i)) = anc l i; rw [p1]⟩, hb0⟩
    · rintro ⟨hb, -⟩
      obtain ⟨-, -, h3, h4⟩ := belowB_iff.1 hb
      have hbn := lvl_bd n n1 n7
      refine ⟨(n, 0), List.mem_map.2 ⟨n, ?_, rfl⟩, ?_⟩
      · rw [rootPath_eq l1 l7]
        exact List.mem_map.2 ⟨(lvl n).toNat, List.mem_range.2 (by omega), by rw [show ((lvl n).toNat : Int) = lvl n from by omega, h4]⟩
      · unfold leadsB
        rw [if_pos (.inl hk)]
        simp
  · rw [if_neg hk]
    by_cases hm : m = 0
    · -- all
      subst hm
      have hn : n = 1 := by
        unfold subsetB at hx
        split at hx
        · rw [if_pos rfl] at hx; exact of_decide_eq_true hx
        · cases hx
      subst hn
      have hb0 : belowB l 0 = false := by
        cases h : belowB l 0 with
        | false => rfl
        | true => have := (belowB_iff.1 h).2.1; omega
      have hbl := lvl_bd l l1 l7
      have h10 : lvl 1 = 0 := by decide
      constructor
      · intro _
        refine ⟨belowB_iff.2 ⟨l1, by omega, by omega, ?_⟩, hb0⟩
        have h := List.all_eq_true.1 anc_zero_fin l.toNat (List.mem_range.2 (by omega))
        rw [show ((l.toNat : Nat) : Int) = l from by omega] at h
        simp only [Bool.or_eq_true, beq_iff_eq, decide_eq_true_eq] at h
        rw [h10]
        omega
      · intro _
        refine ⟨(1, 0), List.mem_cons_self, ?_⟩
        unfold leadsB
        rw [if_pos (.inr rfl)]
        rfl
    · constructor
      · rintro ⟨y, hy, hyl⟩
        unfold leadsB at hyl
        rw [if_neg (fun h => h.elim hk hm)] at hyl
        simp only [Bool.and_eq_true, beq_iff_eq, decide_eq_true_eq] at hyl
        obtain ⟨rfl, hw1, hwv, hmw⟩ := hyl
        rcases List.mem_cons.1 hy with rfl | hy
        · exfalso; dsimp only at hw1; omega
        · obtain ⟨hp, hs⟩ := List.mem_filter.1 hy
          obtain ⟨i, j, hij, hj, rfl⟩ := (mem_pairs l1 l7).1 hp
          dsimp only at *
          obtain ⟨p1, p2, p3⟩ := anc_lvl l1 l7 (show (0 : Int) ≤ i by omega) (by omega)
          obtain ⟨q1, q2, q3⟩ := anc_lvl l1 l7 (show (0 : Int) ≤ j by omega) hj
          obtain ⟨s1, s2, -, s4, s5⟩ := sib (two_le q2 q3 (by omega)) q3
          refine ⟨belowB_iff.2 ⟨l1, p2, by omega, by rw [p1]⟩, ?_⟩
          cases hlm : belowB l m with
          | false => rfl
          | true =>
            exfalso
            have ht := below_trans l7 hlm hmw
            obtain ⟨-, -, -, t4⟩ := belowB_iff.1 ht
            rw [s1, q1] at t4
            exact s2 t4.symm
      · rintro ⟨hb, hnm⟩
        have hu : belowB m n = true ∧ m < 2 * sz d := by
          unfold subsetB at hx
          rw [if_neg hk, if_neg hm] at hx
          split at hx
          · split at hx
            · rename_i h; exact ⟨h.2.2, h.1.2⟩
            · cases hx
          · cases hx
        have hlm := lvl_node d0 d6 (show 1 ≤ m by omega) hu.2
        obtain ⟨j, hj1, hj2, hj3⟩ := parts l1 l7 (show 1 ≤ m by omega) m7 hb hu.1 hnm (by omega)
        obtain ⟨a1, a2, a3, a4⟩ := subset_part hk d0 d6 hm hx0 hj1 hj2
        have hbn := lvl_bd n n1 n7
        obtain ⟨-, -, h3, h4⟩ := belowB_iff.1 hb
        refine ⟨(n, anc m j), List.mem_cons_of_mem _ (List.mem_filter.2 ⟨(mem_pairs l1 l7).2 ⟨(lvl n).toNat, j.toNat, by omega, by omega, ?_⟩, a1⟩), ?_⟩
        · rw [show ((lvl n).toNat : Int) = lvl n from by omega, show (j.toNat : Int) = j from by omega, h4, hj3]
        · unfold leadsB
          rw [if_neg (fun h => h.elim hk hm)]
          simp only [Bool.and_eq_true, beq_iff_eq, decide_eq_true_eq]
          exact ⟨trivial, a4, a2, a3⟩
end Go.Proofs.Ytpnfghpcpjpppaa
