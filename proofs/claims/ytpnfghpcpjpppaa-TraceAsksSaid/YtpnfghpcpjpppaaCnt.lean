/- Bounds on rounds and queries: the program and the reference. -/
import Derived.Test.YtpnfghpcpjpppaaSch
namespace Go.Proofs.Ytpnfghpcpjpppaa
open Go.RowKit
set_option linter.unusedVariables false
set_option linter.unusedSimpArgs false

/-- The least c with 2^c at least u, for u up to 64. -/
def clog (u : Int) : Int := if u ≤ 1 then 0 else if u ≤ 2 then 1 else if u ≤ 4 then 2 else if u ≤ 8 then 3 else if u ≤ 16 then 4 else if u ≤ 32 then 5 else 6
def roundsOk (u p : Int) : Prop := 1 ≤ u ∧ u ≤ 64 ∧ 0 ≤ p ∧ p ≤ u
instance (u p : Int) : Decidable (roundsOk u p) := by unfold roundsOk; exact inferInstance

set_option maxHeartbeats 1000000 in
theorem Rounds_ok (u p : Int) (w : World) (h : roundsOk u p) :
    Calls Try.prog 7 #[.int .i64 u, .int .i64 p] w fun e w' => e = .returned (.tuple #[.int .i64 (p * (1 + clog u)), .int .i64 0]) ∧ w = w' := by
  obtain ⟨h1, h2, h3, h4⟩ := h
  go_enter Try.func7, Try.ntmps7
  go_wp2
  go_rounds 8
  all_goals go_returns
  all_goals exact ⟨ret_ii (by unfold clog; (repeat' split) <;> omega), rfl⟩

set_option maxHeartbeats 1000000 in
theorem Rounds_bad (u p : Int) (w : World) (h : ¬ roundsOk u p) :
    Calls Try.prog 7 #[.int .i64 u, .int .i64 p] w fun e w' => e = .returned (.tuple #[.int .i64 0, .int .i64 2]) ∧ w = w' := by
  have H := Lib.hid h
  clear h
  go_enter Try.func7, Try.ntmps7
  go_wp2
  all_goals first
    | (go_returns; exact ⟨rfl, rfl⟩)
    | (exfalso; have h := H.out; simp only [roundsOk] at h; omega)

set_option maxHeartbeats 1000000 in
theorem rRounds_ok (u p : Int) (w : World) (h : roundsOk u p) :
    Calls Try.prog 8 #[.int .i64 u, .int .i64 p] w fun e w' => e = .returned (.tuple #[.int .i64 (p * (1 + clog u)), .int .i64 0]) ∧ w = w' := by
  obtain ⟨h1, h2, h3, h4⟩ := h
  go_enter Try.func8, Try.ntmps8
  go_wp2
  go_rounds 8
  all_goals go_returns
  all_goals exact ⟨ret_ii (by unfold clog; (repeat' split) <;> omega), rfl⟩

set_option maxHeartbeats 1000000 in
theorem rRounds_bad (u p : Int) (w : World) (h : ¬ roundsOk u p) :
    Calls Try.prog 8 #[.int .i64 u, .int .i64 p] w fun e w' => e = .returned (.tuple #[.int .i64 0, .int .i64 2]) ∧ w = w' := by
  have H := Lib.hid h
  clear h
  go_enter Try.func8, Try.ntmps8
  go_wp2
  all_goals first
    | (go_returns; exact ⟨rfl, rfl⟩)
    | (exfalso; have h := H.out; simp only [roundsOk] at h; omega)

set_option maxHeartbeats 1000000 in
theorem Receivers_any (d : Int) (w : World) (h0 : 0 ≤ d) (h1 : d ≤ 6) :
    Calls Try.prog 65 #[.int .i64 d] w fun e w' => e = .returned (.int .i64 (2 ^ d.toNat)) ∧ w = w' := by
  go_enter Try.func65, Try.ntmps65
  go_wp2
  go_rounds 8
  all_goals go_returns
  all_goals (have hd : d = 0 ∨ d = 1 ∨ d = 2 ∨ d = 3 ∨ d = 4 ∨ d = 5 ∨ d = 6 := by omega)
  all_goals (rcases hd with rfl | rfl | rfl | rfl | rfl | rfl | rfl <;> first | exact ⟨rfl, rfl⟩ | omega)

set_option maxHeartbeats 1000000 in
theorem rValid_any (k d g p q r : Int) (w : World) :
    Calls Try.prog 68 #[.agg #[.int .u8 k, .int .i64 d, .int .i64 g, .int .u64 p, .int .u64 q, .int .u64 r]] w fun e w' => e = .returned (.bool (decide (Sch.ok ⟨k, d, g, p, q, r⟩))) ∧ Below w.heap.size w w' := by
  go_enter Try.func68, Try.ntmps68
  go_wp2
  all_goals go_returns
  all_goals exact ⟨ret_b (by first | exact (decide_eq_true (by simp only [Sch.ok]; omega)).symm | exact (decide_eq_false (by simp only [Sch.ok]; omega)).symm), by (repeat' (first | (with_reducible exact Below.refl _ _) | (with_reducible assumption) | (with_reducible refine Below.alloc ?_ ?_ _) | (with_reducible refine Below.drew ?_) | (with_reducible refine below_drewN _ ?_) | (with_reducible refine Below.setCell ?_ ?_ _) | (with_reducible refine Below.frame ?_ _) | go_size | (simp only [size_alloc, size_setCell, size_drew, size_drewN]; omega)))⟩

theorem rCheck_any (k d g p q r : Int) (w : World) :
    Calls Try.prog 36 #[.agg #[.int .u8 k, .int .i64 d, .int .i64 g, .int .u64 p, .int .u64 q, .int .u64 r]] w fun e w' => e = .returned (.int .i64 (chk ⟨k, d, g, p, q, r⟩)) ∧ Below w.heap.size w w' := by
  have C := fun w => rValid_any k d g p q r w
  by_cases h : Sch.ok ⟨k, d, g, p, q, r⟩
  · rw [show chk ⟨k, d, g, p, q, r⟩ = 0 from if_pos h]
    have C := fun w => rValid_any k d g p q r w
    rw [decide_eq_true h] at C
    clear h
    go_enter Try.func36, Try.ntmps36
    go_wp2_with (go_at_call 68; refine (C _).mono ?_; rintro e w1 ⟨rfl, hb⟩; obtain ⟨hb, hz, hc, hf, hlt, hne⟩ := afterK (N := w.heap.size + 1) (w := w) hb (by (repeat' (first | (with_reducible exact Below.refl _ _) | (with_reducible assumption) | (with_reducible refine Below.alloc ?_ ?_ _) | (with_reducible refine Below.drew ?_) | (with_reducible refine below_drewN _ ?_) | (with_reducible refine Below.setCell ?_ ?_ _) | (with_reducible refine Below.frame ?_ _) | go_size | (simp only [size_alloc, size_setCell, size_drew, size_drewN]; omega)))) (by first | go_size | (simp only [size_alloc, size_setCell, size_drew, size_drewN]; omega)); have hq0 : w.heap.size < w1.heap.size := (by omega))
    go_returns
    exact ⟨rfl, by (repeat' (first | (with_reducible exact Below.refl _ _) | (with_reducible assumption) | (with_reducible refine Below.alloc ?_ ?_ _) | (with_reducible refine Below.drew ?_) | (with_reducible refine below_drewN _ ?_) | (with_reducible refine Below.setCell ?_ ?_ _) | (with_reducible refine Below.frame ?_ _) | go_size | (simp only [size_alloc, size_setCell, size_drew, size_drewN]; omega)))⟩
  · rw [show chk ⟨k, d, g, p, q, r⟩ = 30 from if_neg h]
    have C := fun w => rValid_any k d g p q r w
    rw [decide_eq_false h] at C
    clear h
    go_enter Try.func36, Try.ntmps36
    go_wp2_with (go_at_call 68; refine (C _).mono ?_; rintro e w1 ⟨rfl, hb⟩; obtain ⟨hb, hz, hc, hf, hlt, hne⟩ := afterK (N := w.heap.size + 1) (w := w) hb (by (repeat' (first | (with_reducible exact Below.refl _ _) | (with_reducible assumption) | (with_reducible refine Below.alloc ?_ ?_ _) | (with_reducible refine Below.drew ?_) | (with_reducible refine below_drewN _ ?_) | (with_reducible refine Below.setCell ?_ ?_ _) | (with_reducible refine Below.frame ?_ _) | go_size | (simp only [size_alloc, size_setCell, size_drew, size_drewN]; omega)))) (by first | go_size | (simp only [size_alloc, size_setCell, size_drew, size_drewN]; omega)); have hq0 : w.heap.size < w1.heap.size := (by omega))
    go_returns
    exact ⟨rfl, by (repeat' (first | (with_reducible exact Below.refl _ _) | (with_reducible assumption) | (with_reducible refine Below.alloc ?_ ?_ _) | (with_reducible refine Below.drew ?_) | (with_reducible refine below_drewN _ ?_) | (with_reducible refine Below.setCell ?_ ?_ _) | (with_reducible refine Below.frame ?_ _) | go_size | (simp only [size_alloc, size_setCell, size_drew, size_drewN]; omega)))⟩

/-- The bound on the queries of a trace. -/
def limit (d n : Int) : Int := (2 * 2 ^ d.toNat + 1) * (d + 2) * (2 * n + 1)
def boundE (s : Sch) (n : Int) : Int := if s.ok then (if 0 ≤ n ∧ n ≤ 8 then 0 else 2) else 30
def boundV (s : Sch) (n : Int) : Int := if s.ok ∧ 0 ≤ n ∧ n ≤ 8 then limit s.d n else 0

set_option maxHeartbeats 1000000 in
theorem Limit_ok (k d g p q r n : Int) (w : World) (h : Sch.ok ⟨k, d, g, p, q, r⟩) (n0 : 0 ≤ n) (n1 : n ≤ 8) :
    Calls Try.prog 37 #[.agg #[.int .u8 k, .int .i64 d, .int .i64 g, .int .u64 p, .int .u64 q, .int .u64 r], .int .i64 n] w fun e w' => e = .returned (.int .i64 (limit d n)) ∧ Below w.heap.size w w' := by
  obtain ⟨hk1, hk2, hd1, hd2, hg, hp, hq, hr⟩ := h
  dsimp only at hk1 hk2 hd1 hd2 hg hp hq hr
  subst hg hp hq hr
  have C := fun w => Receivers_any d w hd1 hd2
  have hd : d = 0 ∨ d = 1 ∨ d = 2 ∨ d = 3 ∨ d = 4 ∨ d = 5 ∨ d = 6 := by omega
  clear hd1 hd2
  rcases hd with rfl | rfl | rfl | rfl | rfl | rfl | rfl
  all_goals
    go_enter Try.func37, Try.ntmps37
    go_wp2
    go_quiet ((go_at_call 65; exact quiet_same (C _)))
    go_wp2
    go_returns
    refine ⟨ret_i (by unfold limit; simp; try omega), by (repeat' (first | (with_reducible exact Below.refl _ _) | (with_reducible assumption) | (with_reducible refine Below.alloc ?_ ?_ _) | (with_reducible refine Below.drew ?_) | (with_reducible refine below_drewN _ ?_) | (with_reducible refine Below.setCell ?_ ?_ _) | (with_reducible refine Below.frame ?_ _) | go_size | (simp only [size_alloc, size_setCell, size_drew, size_drewN]; omega)))⟩

def roundsE (u p : Int) : Int := if roundsOk u p then 0 else 2
def roundsV (u p : Int) : Int := if roundsOk u p then p * (1 + clog u) else 0

theorem Rounds_any (u p : Int) (w : World) :
    Calls Try.prog 7 #[.int .i64 u, .int .i64 p] w fun e w' => e = .returned (.tuple #[.int .i64 (roundsV u p), .int .i64 (roundsE u p)]) ∧ w = w' := by
  unfold roundsV roundsE
  split
  · exact Rounds_ok u p w ‹_›
  · exact Rounds_bad u p w ‹_›

theorem rRounds_any (u p : Int) (w : World) :
    Calls Try.prog 8 #[.int .i64 u, .int .i64 p] w fun e w' => e = .returned (.tuple #[.int .i64 (roundsV u p), .int .i64 (roundsE u p)]) ∧ w = w' := by
  unfold roundsV roundsE
  split
  · exact rRounds_ok u p w ‹_›
  · exact rRounds_bad u p w ‹_›

set_option maxHeartbeats 1000000 in
theorem Bound_any (k d g p q r n : Int) (w : World) :
    Calls Try.prog 9 #[.agg #[.int .u8 k, .int .i64 d, .int .i64 g, .int .u64 p, .int .u64 q, .int .u64 r], .int .i64 n] w fun e w' => e = .returned (.tuple #[.int .i64 (boundV ⟨k, d, g, p, q, r⟩ n), .int .i64 (boundE ⟨k, d, g, p, q, r⟩ n)]) ∧ Below w.heap.size w w' := by
  have C := fun w => Check_any k d g p q r w
  by_cases h : Sch.ok ⟨k, d, g, p, q, r⟩
  · by_cases hn : 0 ≤ n ∧ n ≤ 8
    · rw [show boundV ⟨k, d, g, p, q, r⟩ n = limit d n from if_pos ⟨h, hn⟩, show boundE ⟨k, d, g, p, q, r⟩ n = 0 from by unfold boundE; rw [if_pos h, if_pos hn]]
      rw [show chk ⟨k, d, g, p, q, r⟩ = 0 from if_pos h] at C
      obtain ⟨hn0, hn1⟩ := hn
      obtain ⟨hk1, hk2, hd1, hd2, hg, hp, hq, hr⟩ := h
      dsimp only at hk1 hk2 hd1 hd2 hg hp hq hr
      subst hg hp hq hr
      have hd : d = 0 ∨ d = 1 ∨ d = 2 ∨ d = 3 ∨ d = 4 ∨ d = 5 ∨ d = 6 := by omega
      clear hd1 hd2
      rcases hd with rfl | rfl | rfl | rfl | rfl | rfl | rfl
      all_goals
        go_enter Try.func9, Try.ntmps9
        go_wp2_with (go_at_call 35; refine (C _).mono ?_; rintro e w1 ⟨rfl, hb⟩; obtain ⟨hb, hz, hc, hf, hlt, hne⟩ := afterK (N := w.heap.size + 1) (w := w) hb (by (repeat' (first | (with_reducible exact Below.refl _ _) | (with_reducible assumption) | (with_reducible refine Below.alloc ?_ ?_ _) | (with_reducible refine Below.drew ?_) | (with_reducible refine below_drewN _ ?_) | (with_reducible refine Below.setCell ?_ ?_ _) | (with_reducible refine Below.frame ?_ _) | go_size | (simp only [size_alloc, size_setCell, size_drew, size_drewN]; omega)))) (by first | go_size | (simp only [size_alloc, size_setCell, size_drew, size_drewN]; omega)); have hq0 : w.heap.size < w1.heap.size := (by omega))
        go_quiet (fail)
        go_wp2
        go_returns
        exact ⟨ret_ii (by unfold limit; simp; try omega), by (repeat' (first | (with_reducible exact Below.refl _ _) | (with_reducible assumption) | (with_reducible refine Below.alloc ?_ ?_ _) | (with_reducible refine Below.drew ?_) | (with_reducible refine below_drewN _ ?_) | (with_reducible refine Below.setCell ?_ ?_ _) | (with_reducible refine Below.frame ?_ _) | go_size | (simp only [size_alloc, size_setCell, size_drew, size_drewN]; omega)))⟩
    · rw [show boundV ⟨k, d, g, p, q, r⟩ n = 0 from if_neg (fun x => hn x.2), show boundE ⟨k, d, g, p, q, r⟩ n = 2 from by unfold boundE; rw [if_pos h, if_neg hn]]
      rw [show chk ⟨k, d, g, p, q, r⟩ = 0 from if_pos h] at C
      have hn' : n < 0 ∨ 8 < n := by omega
      clear hn h
      rcases hn' with hn | hn
      all_goals
        go_enter Try.func9, Try.ntmps9
        go_wp2_with (go_at_call 35; refine (C _).mono ?_; rintro e w1 ⟨rfl, hb⟩; obtain ⟨hb, hz, hc, hf, hlt, hne⟩ := afterK (N := w.heap.size + 1) (w := w) hb (by (repeat' (first | (with_reducible exact Below.refl _ _) | (with_reducible assumption) | (with_reducible refine Below.alloc ?_ ?_ _) | (with_reducible refine Below.drew ?_) | (with_reducible refine below_drewN _ ?_) | (with_reducible refine Below.setCell ?_ ?_ _) | (with_reducible refine Below.frame ?_ _) | go_size | (simp only [size_alloc, size_setCell, size_drew, size_drewN]; omega)))) (by first | go_size | (simp only [size_alloc, size_setCell, size_drew, size_drewN]; omega)); have hq0 : w.heap.size < w1.heap.size := (by omega))
        go_returns
        exact ⟨rfl, by (repeat' (first | (with_reducible exact Below.refl _ _) | (with_reducible assumption) | (with_reducible refine Below.alloc ?_ ?_ _) | (with_reducible refine Below.drew ?_) | (with_reducible refine below_drewN _ ?_) | (with_reducible refine Below.setCell ?_ ?_ _) | (with_reducible refine Below.frame ?_ _) | go_size | (simp only [size_alloc, size_setCell, size_drew, size_drewN]; omega)))⟩
  · rw [show boundV ⟨k, d, g, p, q, r⟩ n = 0 from if_neg (fun x => h x.1), show boundE ⟨k, d, g, p, q, r⟩ n = 30 from if_neg h]
    rw [show chk ⟨k, d, g, p, q, r⟩ = 30 from if_neg h] at C
    clear h
    go_enter Try.func9, Try.ntmps9
    go_wp2_with (go_at_call 35; refine (C _).mono ?_; rintro e w1 ⟨rfl, hb⟩; obtain ⟨hb, hz, hc, hf, hlt, hne⟩ := afterK (N := w.heap.size + 1) (w := w) hb (by (repeat' (first | (with_reducible exact Below.refl _ _) | (with_reducible assumption) | (with_reducible refine Below.alloc ?_ ?_ _) | (with_reducible refine Below.drew ?_) | (with_reducible refine below_drewN _ ?_) | (with_reducible refine Below.setCell ?_ ?_ _) | (with_reducible refine Below.frame ?_ _) | go_size | (simp only [size_alloc, size_setCell, size_drew, size_drewN]; omega)))) (by first | go_size | (simp only [size_alloc, size_setCell, size_drew, size_drewN]; omega)); have hq0 : w.heap.size < w1.heap.size := (by omega))
    go_returns
    exact ⟨rfl, by (repeat' (first | (with_reducible exact Below.refl _ _) | (with_reducible assumption) | (with_reducible refine Below.alloc ?_ ?_ _) | (with_reducible refine Below.drew ?_) | (with_reducible refine below_drewN _ ?_) | (with_reducible refine Below.setCell ?_ ?_ _) | (with_reducible refine Below.frame ?_ _) | go_size | (simp only [size_alloc, size_setCell, size_drew, size_drewN]; omega)))⟩

set_option maxHeartbeats 1000000 in
theorem rBound_any (k d g p q r n : Int) (w : World) :
    Calls Try.prog 10 #[.agg #[.int .u8 k, .int .i64 d, .int .i64 g, .int .u64 p, .int .u64 q, .int .u64 r], .int .i64 n] w fun e w' => e = .returned (.tuple #[.int .i64 (boundV ⟨k, d, g, p, q, r⟩ n), .int .i64 (boundE ⟨k, d, g, p, q, r⟩ n)]) ∧ Below w.heap.size w w' := by
  have C := fun w => rCheck_any k d g p q r w
  by_cases h : Sch.ok ⟨k, d, g, p, q, r⟩
  · by_cases hn : 0 ≤ n ∧ n ≤ 8
    · rw [show boundV ⟨k, d, g, p, q, r⟩ n = limit d n from if_pos ⟨h, hn⟩, show boundE ⟨k, d, g, p, q, r⟩ n = 0 from by unfold boundE; rw [if_pos h, if_pos hn]]
      rw [show chk ⟨k, d, g, p, q, r⟩ = 0 from if_pos h] at C
      have D := fun w => Limit_ok k d g p q r n w h hn.1 hn.2
      obtain ⟨hn0, hn1⟩ := hn
      clear h
      go_enter Try.func10, Try.ntmps10
      go_wp2_with (first | (go_at_call 36; refine (C _).mono ?_; rintro e w1 ⟨rfl, hb⟩; obtain ⟨hb, hz, hc, hf, hlt, hne⟩ := afterK (N := w.heap.size + 1) (w := w) hb (by (repeat' (first | (with_reducible exact Below.refl _ _) | (with_reducible assumption) | (with_reducible refine Below.alloc ?_ ?_ _) | (with_reducible refine Below.drew ?_) | (with_reducible refine below_drewN _ ?_) | (with_reducible refine Below.setCell ?_ ?_ _) | (with_reducible refine Below.frame ?_ _) | go_size | (simp only [size_alloc, size_setCell, size_drew, size_drewN]; omega)))) (by first | go_size | (simp only [size_alloc, size_setCell, size_drew, size_drewN]; omega)); have hq0 : w.heap.size < w1.heap.size := (by omega)) | (go_at_call 37; refine (D _).mono ?_; rintro e w1 ⟨rfl, hb⟩; obtain ⟨hb, hz, hc, hf, hlt, hne⟩ := afterK (N := w.heap.size + 1) (w := w) hb (by (repeat' (first | (with_reducible exact Below.refl _ _) | (with_reducible assumption) | (with_reducible refine Below.alloc ?_ ?_ _) | (with_reducible refine Below.drew ?_) | (with_reducible refine below_drewN _ ?_) | (with_reducible refine Below.setCell ?_ ?_ _) | (with_reducible refine Below.frame ?_ _) | go_size | (simp only [size_alloc, size_setCell, size_drew, size_drewN]; omega)))) (by first | go_size | (simp only [size_alloc, size_setCell, size_drew, size_drewN]; omega)); have hq0 : w.heap.size < w1.heap.size := (by omega)))
      go_returns
      exact ⟨rfl, by (repeat' (first | (with_reducible exact Below.refl _ _) | (with_reducible assumption) | (with_reducible refine Below.alloc ?_ ?_ _) | (with_reducible refine Below.drew ?_) | (with_reducible refine below_drewN _ ?_) | (with_reducible refine Below.setCell ?_ ?_ _) | (with_reducible refine Below.frame ?_ _) | go_size | (simp only [size_alloc, size_setCell, size_drew, size_drewN]; omega)))⟩
    · rw [show boundV ⟨k, d, g, p, q, r⟩ n = 0 from if_neg (fun x => hn x.2), show boundE ⟨k, d, g, p, q, r⟩ n = 2 from by unfold boundE; rw [if_pos h, if_neg hn]]
      rw [show chk ⟨k, d, g, p, q, r⟩ = 0 from if_pos h] at C
      have hn' : n < 0 ∨ 8 < n := by omega
      clear hn h
      rcases hn' with hn | hn
      all_goals
        go_enter Try.func10, Try.ntmps10
        go_wp2_with (go_at_call 36; refine (C _).mono ?_; rintro e w1 ⟨rfl, hb⟩; obtain ⟨hb, hz, hc, hf, hlt, hne⟩ := afterK (N := w.heap.size + 1) (w := w) hb (by (repeat' (first | (with_reducible exact Below.refl _ _) | (with_reducible assumption) | (with_reducible refine Below.alloc ?_ ?_ _) | (with_reducible refine Below.drew ?_) | (with_reducible refine below_drewN _ ?_) | (with_reducible refine Below.setCell ?_ ?_ _) | (with_reducible refine Below.frame ?_ _) | go_size | (simp only [size_alloc, size_setCell, size_drew, size_drewN]; omega)))) (by first | go_size | (simp only [size_alloc, size_setCell, size_drew, size_drewN]; omega)); have hq0 : w.heap.size < w1.heap.size := (by omega))
        go_returns
        exact ⟨rfl, by (repeat' (first | (with_reducible exact Below.refl _ _) | (with_reducible assumption) | (with_reducible refine Below.alloc ?_ ?_ _) | (with_reducible refine Below.drew ?_) | (with_reducible refine below_drewN _ ?_) | (with_reducible refine Below.setCell ?_ ?_ _) | (with_reducible refine Below.frame ?_ _) | go_size | (simp only [size_alloc, size_setCell, size_drew, size_drewN]; omega)))⟩
  · rw [show boundV ⟨k, d, g, p, q, r⟩ n = 0 from if_neg (fun x => h x.1), show boundE ⟨k, d, g, p, q, r⟩ n = 30 from if_neg h]
    rw [show chk ⟨k, d, g, p, q, r⟩ = 30 from if_neg h] at C
    clear h
    go_enter Try.func10, Try.ntmps10
    go_wp2_with (go_at_call 36; refine (C _).mono ?_; rintro e w1 ⟨rfl, hb⟩; obtain ⟨hb, hz, hc, hf, hlt, hne⟩ := afterK (N := w.heap.size + 1) (w := w) hb (by (repeat' (first | (with_reducible exact Below.refl _ _) | (with_reducible assumption) | (with_reducible refine Below.alloc ?_ ?_ _) | (with_reducible refine Below.drew ?_) | (with_reducible refine below_drewN _ ?_) | (with_reducible refine Below.setCell ?_ ?_ _) | (with_reducible refine Below.frame ?_ _) | go_size | (simp only [size_alloc, size_setCell, size_drew, size_drewN]; omega)))) (by first | go_size | (simp only [size_alloc, size_setCell, size_drew, size_drewN]; omega)); have hq0 : w.heap.size < w1.heap.size := (by omega))
    go_returns
    exact ⟨rfl, by (repeat' (first | (with_reducible exact Below.refl _ _) | (with_reducible assumption) | (with_reducible refine Below.alloc ?_ ?_ _) | (with_reducible refine Below.drew ?_) | (with_reducible refine below_drewN _ ?_) | (with_reducible refine Below.setCell ?_ ?_ _) | (with_reducible refine Below.frame ?_ _) | go_size | (simp only [size_alloc, size_setCell, size_drew, size_drewN]; omega)))⟩

end Go.Proofs.Ytpnfghpcpjpppaa
