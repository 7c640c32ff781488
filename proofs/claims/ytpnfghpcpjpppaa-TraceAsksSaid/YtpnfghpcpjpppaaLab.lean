/- Labels of receivers, in plain words. -/
import Derived.Test.YtpnfghpcpjpppaaMem
import Derived.Test.YtpnfghpcpjpppaaOpn
namespace Go.Proofs.Ytpnfghpcpjpppaa
open Go.RowKit
set_option linter.unusedVariables false
set_option linter.unusedSimpArgs false

/-- The path from the root to a leaf. -/
def rootPath (l : Int) : List Int := 1 :: pathOf 1 l
/-- The pairs (P[i], P[j] xor 1), i < j. -/
def pairsOf : List Int → List (Int × Int)
  | [] => []
  | a :: l => (l.map fun b => (a, Go.bits .xor .i64 b 1)) ++ pairsOf l
/-- The nodes of the labels of a receiver. -/
def labelsL (k d u : Int) : List (Int × Int) :=
  if k = 1 then (rootPath (sz d + u)).map fun a => (a, 0) else (1, 0) :: (pairsOf (rootPath (sz d + u))).filter fun x => subsetB k d x.1 x.2
theorem sz_nat (d : Nat) : sz (d : Int) = ((2 ^ d : Nat) : Int) := by unfold sz; simp
/-- Nodes of labels. -/
def inL (L : List (Int × Int)) : Bool := L.all fun x => decide (1 ≤ x.1 ∧ x.1 ≤ 127 ∧ 0 ≤ x.2 ∧ x.2 ≤ 127)
theorem inL_fin : ([1, 2, 3].all fun k => (List.range 7).all fun d => (List.range (2 ^ d)).all fun u => inL (labelsL k d u)) = true := by decide +kernel
theorem labels_in {k d u : Int} (k1 : 1 ≤ k) (k3 : k ≤ 3) (d0 : 0 ≤ d) (d6 : d ≤ 6) (u0 : 0 ≤ u) (u1 : u < sz d) : ∀ x ∈ labelsL k d u, 1 ≤ x.1 ∧ x.1 ≤ 127 ∧ 0 ≤ x.2 ∧ x.2 ≤ 127 := by
  obtain ⟨d', rfl⟩ := Int.eq_ofNat_of_zero_le d0
  obtain ⟨u', rfl⟩ := Int.eq_ofNat_of_zero_le u0
  rw [sz_nat] at u1
  have hk : k ∈ [(1 : Int), 2, 3] := by
    have : k = 1 ∨ k = 2 ∨ k = 3 := by omega
    rcases this with rfl | rfl | rfl <;> simp
  have h := List.all_eq_true.1 (List.all_eq_true.1 (List.all_eq_true.1 inL_fin k hk) d' (List.mem_range.2 (by omega))) u' (List.mem_range.2 (by omega))
  intro x hx
  exact of_decide_eq_true (List.all_eq_true.1 h x hx)

theorem labels_len_fin : ([1, 2, 3].all fun k => (List.range 7).all fun d => (List.range (2 ^ d)).all fun u => decide ((labelsL k d u).length ≤ 100)) = true := by decide +kernel
theorem labels_len {k d u : Int} (k1 : 1 ≤ k) (k3 : k ≤ 3) (d0 : 0 ≤ d) (d6 : d ≤ 6) (u0 : 0 ≤ u) (u1 : u < sz d) : (labelsL k d u).length ≤ 100 := by
  obtain ⟨d', rfl⟩ := Int.eq_ofNat_of_zero_le d0
  obtain ⟨u', rfl⟩ := Int.eq_ofNat_of_zero_le u0
  rw [sz_nat] at u1
  have hk : k ∈ [(1 : Int), 2, 3] := by
    have : k = 1 ∨ k = 2 ∨ k = 3 := by omega
    rcases this with rfl | rfl | rfl <;> simp
  exact of_decide_eq_true (List.all_eq_true.1 (List.all_eq_true.1 (List.all_eq_true.1 labels_len_fin k hk) d' (List.mem_range.2 (by omega))) u' (List.mem_range.2 (by omega)))

theorem listB_mem {d : Int} {co : List Int} (h : listB d co = true) : ∀ u ∈ co, 0 ≤ u ∧ u < sz d := by
  intro u hu
  obtain ⟨i, hi, rfl⟩ := List.mem_iff_getElem.1 hu
  have := of_decide_eq_true (listB_iff.1 h i hi)
  rw [show co.getD i 0 = co[i] from by simp [List.getD, hi]] at this
  exact ⟨this.1, this.2.1⟩
/-- Whose key: one of the members is among the receivers. -/
theorem any_member {d n m : Int} {co : List Int} (hco : ∀ u ∈ co, 0 ≤ u ∧ u < sz d) : (co.any fun u => memberB d n m u) = anyIn (membersL d n m) co := by
  unfold anyIn membersL
  rw [Bool.eq_iff_iff, List.any_eq_true, List.any_eq_true]
  constructor
  · rintro ⟨u, hu, h⟩
    have := hco u hu
    exact ⟨u, List.mem_filter.2 ⟨List.mem_map.2 ⟨u.toNat, List.mem_range.2 (by omega), by omega⟩, h⟩, by simpa using hu⟩
  · rintro ⟨u, hu, h⟩
    obtain ⟨h1, h2⟩ := List.mem_filter.1 hu
    exact ⟨u, by simpa using h, h2⟩
end Go.Proofs.Ytpnfghpcpjpppaa
