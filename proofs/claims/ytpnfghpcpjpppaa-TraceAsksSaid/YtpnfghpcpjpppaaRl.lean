/- The reference's labels, walked: LabelsOf, leads, Known, Knows; IsList, SameInts. -/
import Derived.Test.YtpnfghpcpjpppaaRs
import Derived.Test.YtpnfghpcpjpppaaPRf3
import Derived.Deep.RegionHeld3
namespace Go.Proofs.Ytpnfghpcpjpppaa
open Go.RowKit
set_option linter.unusedVariables false
set_option linter.unusedSimpArgs false

theorem rIsList_any (d : Int) (v : Value) (co : List Int) (w : World) (d0 : 0 ≤ d) (d6 : d ≤ 6) (hv : Ints w v co) (hl : co.length ≤ 1000000) :
    Calls Try.prog 45 #[.int .i64 d, v] w fun e w' => e = .returned (.bool (listB d co)) ∧ Below w.heap.size w w' := by
  have CR := fun w => Receivers_any d w d0 d6
  rw [show (2 : Int) ^ d.toNat = sz d from rfl] at CR
  obtain ⟨a, cap, rfl, hcap, hmax, hcell⟩ := hv.open
  clear hv
  unfold maxLen at hmax
  have HC := Lib.hid hcell
  clear hcell
  obtain ⟨z1, z2⟩ := sz_bd d d0 d6
  go_enter Try.func45, Try.ntmps45
  go_wp2_with fail
  go_loopw [5] (fun i wr => ∃ (j : Nat), j ≤ co.length ∧ i = .int .i64 j ∧ Below w.heap.size w wr ∧ Hid (∀ i, i < j → fitB d co i = true)) (fun i _ => co.length - (intOf i).toNat)
  case atStart => exact ⟨0, Nat.zero_le _, rfl, Below.refl _ _, fun i hi => absurd hi (Nat.not_lt_zero i)⟩
  case round =>
    obtain ⟨j, hj, rfl, hB, HP⟩ := hrel
    by_cases hlt : j < co.length
    · have HS := Lib.hid (fun (h : 0 ≤ co.getD j 0 ∧ co.getD j 0 < sz d ∧ (j = 0 ∨ co.getD (j - 1) 0 < co.getD j 0)) (i : Nat) (hi : i < j + 1) => show fitB d co i = true from by
        by_cases he : i = j
        · subst he; exact decide_eq_true h
        · exact HP.out i (by omega))
      have HN := Lib.hid (fun (h : ¬ (0 ≤ co.getD j 0 ∧ co.getD j 0 < sz d ∧ (j = 0 ∨ co.getD (j - 1) 0 < co.getD j 0))) => show false = listB d co from by
        cases hl8 : listB d co with
        | false => rfl
        | true => have h8 := listB_iff.1 hl8 j hlt; rw [show fitB d co j = false from decide_eq_false h] at h8; cases h8)
      obtain ⟨g, off, rfl, e0⟩ := HC.out j hlt
      have e0 := (hB.cell (p := ⟨g, off + j, none⟩) (cell_lt' e0)).trans e0
      have h2 : 0 < j → wr.cell? ⟨g, off + (j - 1), none⟩ = some (.int .i64 (co.getD (j - 1) 0)) := fun h0 => by
        obtain ⟨g', off', he, e1⟩ := HC.out (j - 1) (by omega)
        simp only [Option.some.injEq, Addr.mk.injEq, and_true] at he
        obtain ⟨rfl, rfl⟩ := he
        exact (hB.cell (p := ⟨g, off + (j - 1), none⟩) (cell_lt' e1)).trans e1
      have HB := Lib.hid hB
      clear HP hB
      generalize co.getD j 0 = u at *
      generalize co.getD (j - 1) 0 = p at *
      generalize hnn : co.length = nn at *
      generalize sz d = z at *
      have hj0 : (0 : Int) ≤ (j : Int) := by omega
      have hj1 : (j : Int) < (nn : Int) := by omega
      rcases (show u < 0 ∨ (0 ≤ u ∧ z ≤ u) ∨ (0 ≤ u ∧ u < z) by omega) with hu | ⟨hu, huz⟩ | ⟨hu, huz⟩
      · have d1 : decide (u < 0) = true := decide_eq_true hu
        have HU := Lib.hid hu
        clear hu h2
        go_wp2_with fail
        go_quiet ((go_at_call 65; exact quiet_same (CR _)))
        go_wp2_with fail
        go_returns
        exact ⟨ret_b (HN.out (fun h => by have := HU.out; omega)), below_drewN _ HB.out⟩
      · have d1 : decide (u < 0) = false := decide_eq_false (by omega)
        have d2 : decide (z ≤ u) = true := decide_eq_true huz
        have HU := Lib.hid huz
        clear hu huz h2
        go_wp2_with fail
        go_quiet ((go_at_call 65; exact quiet_same (CR _)))
        go_wp2_with fail
        go_returns
        exact ⟨ret_b (HN.out (fun h => by have := HU.out; omega)), below_drewN _ HB.out⟩
      · have d1 : decide (u < 0) = false := decide_eq_false (by omega)
        have d2 : decide (z ≤ u) = false := decide_eq_false (by omega)
        have HU := Lib.hid hu
        have HZ := Lib.hid huz
        clear hu huz
        rcases j with _ | j
        · have d3 : decide ((0 : Int) < ((0 : Nat) : Int)) = false := rfl
          have e0z : wr.cell? ⟨g, off, none⟩ = some (.int .i64 u) := e0
          clear h2 e0
          go_wp2_with fail
          go_quiet ((go_at_call 65; exact quiet_same (CR _)))
          go_wp2_with fail
          go_roundw
          case rel => exact ⟨1, by omega, rfl, below_drewN _ HB.out, HS.out ⟨HU.out, HZ.out, .inl trivial⟩⟩
          case measure => simp [intOf]; omega
        · have e1 := h2 (by omega)
          rw [Nat.add_sub_cancel] at e1
          have hm : ((↑(j + 1) : Int) - 1) = ↑j := by omega
          have d3 : decide ((0 : Int) < ((j + 1 : Nat) : Int)) = true := decide_eq_true (by omega)
          have hk0 : (0 : Int) ≤ (j : Int) := by omega
          have hk1 : (j : Int) < (nn : Int) := by omega
          clear h2
          rcases Int.lt_or_le p u with hp | hp
          · have d4 : decide (u ≤ p) = false := decide_eq_false (by omega)
            have HPP := Lib.hid hp
            clear hp
            go_wp2_with fail
            go_quiet ((go_at_call 65; exact quiet_same (CR _)))
            go_wp2_with fail
            go_roundw
            case rel => exact ⟨j + 1 + 1, by omega, by go_num, below_drewN _ HB.out, HS.out ⟨HU.out, HZ.out, .inr HPP.out⟩⟩
            case measure => simp [intOf]; omega
          · have d4 : decide (u ≤ p) = true := decide_eq_true hp
            have HPP := Lib.hid hp
            clear hp
            go_wp2_with fail
            go_quiet ((go_at_call 65; exact quiet_same (CR _)))
            go_wp2_with fail
            go_returns
            exact ⟨ret_b (HN.out (fun h => by have := HPP.out; have := h.2.2; omega)), below_drewN _ HB.out⟩
    · obtain rfl : j = co.length := by omega
      have HE := Lib.hid (listB_iff.2 HP.out)
      clear HP HC
      go_wp2_with fail
      go_returns
      exact ⟨ret_b HE.out.symm, hB⟩

theorem rSameInts_same (v u : Value) (l : List Int) (w : World) (hv : Ints w v l) (hu : Ints w u l) :
    Calls Try.prog 26 #[v, u] w fun e w' => e = .returned (.bool true) ∧ Below w.heap.size w w' := by
  obtain ⟨a, cap, rfl, hcap, hmax, hcell⟩ := hv.open
  obtain ⟨a2, cap2, rfl, hcap2, hmax2, hcell2⟩ := hu.open
  unfold maxLen at hmax hmax2
  have HC := Lib.hid hcell
  have HC2 := Lib.hid hcell2
  clear hv hu hcell hcell2
  go_enter Try.func26, Try.ntmps26
  go_wp2_with fail
  go_loopw [5] (fun i wr => ∃ (j : Nat), j ≤ l.length ∧ i = .int .i64 j ∧ Below w.heap.size w wr) (fun i _ => l.length - (intOf i).toNat)
  case atStart => exact ⟨0, Nat.zero_le _, rfl, Below.refl _ _⟩
  case round =>
    obtain ⟨j, hj, rfl, hB⟩ := hrel
    by_cases hlt : j < l.length
    · obtain ⟨g, off, rfl, e0⟩ := HC.out j hlt
      have e0 := (hB.cell (p := ⟨g, off + j, none⟩) (cell_lt' e0)).trans e0
      obtain ⟨g2, off2, rfl, e2⟩ := HC2.out j hlt
      have e2 := (hB.cell (p := ⟨g2, off2 + j, none⟩) (cell_lt' e2)).trans e2
      have HB := Lib.hid hB
      clear hB HC HC2
      generalize l.getD j 0 = u at *
      have hj0 : (0 : Int) ≤ (j : Int) := by omega
      have hj1 : (j : Int) < (l.length : Int) := by omega
      go_wp2_with fail
      go_quiet (fail)
      go_wp2_with fail
      go_roundw
      case rel => exact ⟨j + 1, by omega, by go_num, below_drewN _ HB.out⟩
      case measure => simp [intOf]; omega
    · obtain rfl : j = l.length := by omega
      clear HC HC2
      go_wp2_with fail
      go_returns
      exact ⟨rfl, hB⟩

theorem leadsB_1 {k v w n m : Int} (h : k = 1 ∨ m = 0) : leadsB k v w n m = (v == n && w == m) := by unfold leadsB; rw [if_pos h]
theorem leadsB_2 {k v w n m : Int} (h : ¬ (k = 1 ∨ m = 0)) : leadsB k v w n m = (v == n && (decide (1 ≤ w) && (belowB w v && belowB m w))) := by unfold leadsB; rw [if_neg h]
set_option maxHeartbeats 1000000 in
theorem rleads_any (k d v x n m : Int) (w : World) (v1 : 1 ≤ v) (v7 : v ≤ 127) (x0 : 0 ≤ x) (x7 : x ≤ 127) (m0 : 0 ≤ m) (m7 : m ≤ 127) :
    Calls Try.prog 132 #[.agg #[.int .u8 k, .int .i64 d, .int .i64 0, .int .u64 0, .int .u64 0, .int .u64 0], .int .i64 v, .int .i64 x, .agg #[.int .i64 n, .int .i64 m]] w fun e w' => e = .returned (.bool (leadsB k v x n m)) ∧ Below w.heap.size w w' := by
  by_cases h : k = 1 ∨ m = 0
  · rw [leadsB_1 h]
    by_cases hk : k = 1
    · subst hk
      clear h
      by_cases hv : v = n
      · subst hv
        by_cases hx : x = m
        · subst hx
          go_enter Try.func132, Try.ntmps132
          go_wp2
          go_returns
          exact ⟨ret_b (by simp), by (repeat' (first | (with_reducible exact Below.refl _ _) | (with_reducible assumption) | (with_reducible refine Below.alloc ?_ ?_ _) | (with_reducible refine Below.drew ?_) | (with_reducible refine below_drewN _ ?_) | (with_reducible refine Below.setCell ?_ ?_ _) | (with_reducible refine Below.frame ?_ _) | go_size | (simp only [size_alloc, size_setCell, size_drew, size_drewN]; omega)))⟩
        · have h2 : (x == m) = false := by simpa using hx
          rw [h2]
          go_enter Try.func132, Try.ntmps132
          go_wp2
          go_returns
          exact ⟨ret_b (by simp), by (repeat' (first | (with_reducible exact Below.refl _ _) | (with_reducible assumption) | (with_reducible refine Below.alloc ?_ ?_ _) | (with_reducible refine Below.drew ?_) | (with_reducible refine below_drewN _ ?_) | (with_reducible refine Below.setCell ?_ ?_ _) | (with_reducible refine Below.frame ?_ _) | go_size | (simp only [size_alloc, size_setCell, size_drew, size_drewN]; omega)))⟩
      · have h2 : (v == n) = false := by simpa using hv
        rw [h2]
        go_enter Try.func132, Try.ntmps132
        go_wp2
        go_returns
        exact ⟨ret_b (by simp), by (repeat' (first | (with_reducible exact Below.refl _ _) | (with_reducible assumption) | (with_reducible refine Below.alloc ?_ ?_ _) | (with_reducible refine Below.drew ?_) | (with_reducible refine below_drewN _ ?_) | (with_reducible refine Below.setCell ?_ ?_ _) | (with_reducible refine Below.frame ?_ _) | go_size | (simp only [size_alloc, size_setCell, size_drew, size_drewN]; omega)))⟩
    · have hm : m = 0 := h.resolve_left hk
      subst hm
      have hk' : (k == 1) = false := by simpa using hk
      clear h hk
      by_cases hv : v = n
      · subst hv
        by_cases hx : x = 0
        · subst hx
          go_enter Try.func132, Try.ntmps132
          go_wp2
          go_returns
          exact ⟨ret_b (by simp), by (repeat' (first | (with_reducible exact Below.refl _ _) | (with_reducible assumption) | (with_reducible refine Below.alloc ?_ ?_ _) | (with_reducible refine Below.drew ?_) | (with_reducible refine below_drewN _ ?_) | (with_reducible refine Below.setCell ?_ ?_ _) | (with_reducible refine Below.frame ?_ _) | go_size | (simp only [size_alloc, size_setCell, size_drew, size_drewN]; omega)))⟩
        · have h2 : (x == 0) = false := by simpa using hx
          rw [h2]
          go_enter Try.func132, Try.ntmps132
          go_wp2
          go_returns
          exact ⟨ret_b (by simp), by (repeat' (first | (with_reducible exact Below.refl _ _) | (with_reducible assumption) | (with_reducible refine Below.alloc ?_ ?_ _) | (with_reducible refine Below.drew ?_) | (with_reducible refine below_drewN _ ?_) | (with_reducible refine Below.setCell ?_ ?_ _) | (with_reducible refine Below.frame ?_ _) | go_size | (simp only [size_alloc, size_setCell, size_drew, size_drewN]; omega)))⟩
      · have h2 : (v == n) = false := by simpa using hv
        rw [h2]
        go_enter Try.func132, Try.ntmps132
        go_wp2
        go_returns
        exact ⟨ret_b (by simp), by (repeat' (first | (with_reducible exact Below.refl _ _) | (with_reducible assumption) | (with_reducible refine Below.alloc ?_ ?_ _) | (with_reducible refine Below.drew ?_) | (with_reducible refine below_drewN _ ?_) | (with_reducible refine Below.setCell ?_ ?_ _) | (with_reducible refine Below.frame ?_ _) | go_size | (simp only [size_alloc, size_setCell, size_drew, size_drewN]; omega)))⟩
  · rw [leadsB_2 h]
    have hk' : (k == 1) = false := by simpa using fun e => h (.inl e)
    have hm' : (m == 0) = false := by simpa using fun e => h (.inr e)
    have m1 : 1 ≤ m := by have : m ≠ 0 := fun e => h (.inr e); omega
    clear h
    by_cases hv : v = n
    · subst hv
      by_cases hx : 1 ≤ x
      · have CB1 := fun w => rBelow_any x v w hx x7 v1 v7
        have CB2 := fun w => rBelow_any m x w m1 m7 hx x7
        have hvv : (v == v) = true := by simp
        have hx1 : decide (1 ≤ x) = true := decide_eq_true hx
        rw [hvv, hx1]
        cases h1 : belowB x v with
        | false =>
          rw [h1] at CB1
          clear h1
          go_enter Try.func132, Try.ntmps132
          go_wp2_with (go_at_call 98; refine (CB1 _).mono ?_; rintro e w1 ⟨rfl, rfl⟩)
          go_returns
          exact ⟨ret_b (by simp), by (repeat' (first | (with_reducible exact Below.refl _ _) | (with_reducible assumption) | (with_reducible refine Below.alloc ?_ ?_ _) | (with_reducible refine Below.drew ?_) | (with_reducible refine below_drewN _ ?_) | (with_reducible refine Below.setCell ?_ ?_ _) | (with_reducible refine Below.frame ?_ _) | go_size | (simp only [size_alloc, size_setCell, size_drew, size_drewN]; omega)))⟩
        | true =>
          rw [h1] at CB1
          clear h1
          generalize belowB m x = r at *
          go_enter Try.func132, Try.ntmps132
          go_wp2_with fail
          refine (CB1 _).mono ?_
          rintro e w1 ⟨rfl, rfl⟩
          go_wp2_with fail
          refine (CB2 _).mono ?_
          rintro e w1 ⟨rfl, rfl⟩
          go_wp2_with fail
          go_returns
          exact ⟨ret_b (by simp), by (repeat' (first | (with_reducible exact Below.refl _ _) | (with_reducible assumption) | (with_reducible refine Below.alloc ?_ ?_ _) | (with_reducible refine Below.drew ?_) | (with_reducible refine below_drewN _ ?_) | (with_reducible refine Below.setCell ?_ ?_ _) | (with_reducible refine Below.frame ?_ _) | go_size | (simp only [size_alloc, size_setCell, size_drew, size_drewN]; omega)))⟩
      · have hx1 : decide (1 ≤ x) = false := decide_eq_false hx
        rw [hx1]
        go_enter Try.func132, Try.ntmps132
        go_wp2
        go_returns
        exact ⟨ret_b (by simp), by (repeat' (first | (with_reducible exact Below.refl _ _) | (with_reducible assumption) | (with_reducible refine Below.alloc ?_ ?_ _) | (with_reducible refine Below.drew ?_) | (with_reducible refine below_drewN _ ?_) | (with_reducible refine Below.setCell ?_ ?_ _) | (with_reducible refine Below.frame ?_ _) | go_size | (simp only [size_alloc, size_setCell, size_drew, size_drewN]; omega)))⟩
    · have h2 : (v == n) = false := by simpa using hv
      rw [h2]
      go_enter Try.func132, Try.ntmps132
      go_wp2
      go_returns
      exact ⟨ret_b (by simp), by (repeat' (first | (with_reducible exact Below.refl _ _) | (with_reducible assumption) | (with_reducible refine Below.alloc ?_ ?_ _) | (with_reducible refine Below.drew ?_) | (with_reducible refine below_drewN _ ?_) | (with_reducible refine Below.setCell ?_ ?_ _) | (with_reducible refine Below.frame ?_ _) | go_size | (simp only [size_alloc, size_setCell, size_drew, size_drewN]; omega)))⟩
end Go.Proofs.Ytpnfghpcpjpppaa
