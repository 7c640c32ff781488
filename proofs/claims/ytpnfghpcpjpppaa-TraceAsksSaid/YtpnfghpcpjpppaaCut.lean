/- cut, subset, member, members of a subset. -/
import Derived.Test.YtpnfghpcpjpppaaFirst
import Derived.Deep.RegionWith
namespace Go.Proofs.Ytpnfghpcpjpppaa
open Go.RowKit
set_option linter.unusedVariables false
set_option linter.unusedSimpArgs false

/-- The first special node strictly between v and t, strictly below v; or 0. -/
def cutV (d v t : Int) : Int := cutN d v (t / 2)

theorem half_fin : ((List.range 128).all fun t => (List.range 128).all fun v => !(belowB (t : Int) (v : Int)) || t == v || (belowB ((t : Int) / 2) (v : Int) && decide (1 ≤ (t : Int) / 2))) = true := by decide +kernel
theorem under_half {t v : Int} (h : under t v) (hne : t ≠ v) : under (t / 2) v := by
  obtain ⟨h1, h2, h3, h4, h5⟩ := h
  have a := List.all_eq_true.1 (List.all_eq_true.1 half_fin t.toNat (List.mem_range.2 (by omega))) v.toNat (List.mem_range.2 (by omega))
  rw [show ((t.toNat : Nat) : Int) = t from by omega, show ((v.toNat : Nat) : Int) = v from by omega, h5] at a
  simp only [Bool.not_true, Bool.false_or, Bool.or_eq_true, Bool.and_eq_true, decide_eq_true_eq, beq_iff_eq] at a
  rcases a with a | ⟨a1, a2⟩
  · omega
  · exact ⟨h1, h2, a2, by omega, a1⟩

set_option maxHeartbeats 1000000 in
theorem cut_any (k d v t : Int) (w : World) (hu : under t v) (hne : t ≠ v) :
    Calls Try.prog 139 #[.agg #[.int .u8 k, .int .i64 d, .int .i64 (stride d)], .int .i64 v, .int .i64 t] w fun e w' => e = .returned (.int .i64 (cutV d v t)) ∧ Below w.heap.size w w' := by
  have hh := under_half hu hne
  obtain ⟨h1, h2, h3, h4, -⟩ := id hu
  have HH := Lib.hid hh
  clear hh hu hne
  unfold cutV
  go_enter Try.func139, Try.ntmps139
  go_wp2
  go_region_with (first
    | (go_at_call 140; refine (path_any _ _ _).mono ?_; rintro e w1 ⟨rfl, rfl⟩)
    | (go_at_call 154; refine (first_any k d v (t / 2) _ _ _ HH.out ?_ ?_ ?_ ?_).mono ?_; (· simp [go_sem]; try omega); (· simp [go_sem]; try omega); (· simp [go_sem]); (· simp [go_sem]); rintro e w1 ⟨rfl, hb⟩; obtain ⟨hb, hz, hc, hf⟩ := after (B := w.heap.size) (w := w) hb (by (repeat' (first | (with_reducible exact Below.refl _ _) | (with_reducible assumption) | (with_reducible refine Below.alloc ?_ ?_ _) | (with_reducible refine Below.drew ?_) | (with_reducible refine below_drewN _ ?_) | (with_reducible refine Below.setCell ?_ ?_ _) | (with_reducible refine Below.frame ?_ _) | go_size | (simp only [size_alloc, size_setCell, size_drew, size_drewN]; omega)))) (by first | go_size | (simp only [size_alloc, size_setCell, size_drew, size_drewN]; omega)); try simp only [size_alloc, size_setCell, size_drew, size_drewN] at hz))
  all_goals go_wp2
  all_goals go_returns
  all_goals exact ⟨rfl, by (repeat' (first | (with_reducible exact Below.refl _ _) | (with_reducible assumption) | (with_reducible refine Below.alloc ?_ ?_ _) | (with_reducible refine Below.drew ?_) | (with_reducible refine below_drewN _ ?_) | (with_reducible refine Below.setCell ?_ ?_ _) | (with_reducible refine Below.frame ?_ _) | go_size | (simp only [size_alloc, size_setCell, size_drew, size_drewN]; omega)))⟩
/-- Is (n, m) a subset of a scheme of the kind k and the depth d? -/
def subsetB (k d n m : Int) : Bool :=
  if 1 ≤ n ∧ n < 2 * sz d then
    if k = 1 then decide (m = 0)
    else if m = 0 then decide (n = 1)
    else if (1 ≤ m ∧ m < 2 * sz d) ∧ m ≠ n ∧ belowB m n = true then decide (k = 2) || (specialB d n || decide (cutV d n m = 0))
    else false
  else false

set_option maxHeartbeats 2000000 in
theorem subset_any (k d n m : Int) (w : World) (k1 : 1 ≤ k) (k3 : k ≤ 3) (d0 : 0 ≤ d) (d6 : d ≤ 6) :
    Calls Try.prog 116 #[.agg #[.int .u8 k, .int .i64 d, .int .i64 (stride d)], .agg #[.int .i64 n, .int .i64 m]] w fun e w' => e = .returned (.bool (subsetB k d n m)) ∧ Below w.heap.size w w' := by
  obtain ⟨z1, z2⟩ := sz_bd d d0 d6
  have CH := fun v w => has_any k d (stride d) v w d0 d6
  clear d0 d6
  by_cases hn : 1 ≤ n ∧ n < 2 * sz d
  · have hr : subsetB k d n m = if k = 1 then decide (m = 0) else if m = 0 then decide (n = 1) else if (1 ≤ m ∧ m < 2 * sz d) ∧ m ≠ n ∧ belowB m n = true then decide (k = 2) || (specialB d n || decide (cutV d n m = 0)) else false := by unfold subsetB; rw [if_pos hn]
    rw [hr]
    clear hr
    have CHn := fun w => CH n w
    rw [decide_eq_true hn] at CHn
    obtain ⟨n1, n2⟩ := hn
    have n3 : n ≤ 127 := by omega
    by_cases hk : k = 1
    · rw [if_pos hk]
      subst hk
      by_cases hm : m = 0
      · rw [decide_eq_true hm]
        subst hm
        go_enter Try.func116, Try.ntmps116
        go_wp2
        go_quiet (fail)
        go_wp2_with (go_at_call 136; refine (CHn _).mono ?_; rintro e w1 ⟨rfl, hb⟩; obtain ⟨hb, hz, hc, hf, hlt, hne⟩ := afterK (N := w.heap.size + 1 + 1) (w := w) hb (by (repeat' (first | (with_reducible exact Below.refl _ _) | (with_reducible assumption) | (with_reducible refine Below.alloc ?_ ?_ _) | (with_reducible refine Below.drew ?_) | (with_reducible refine below_drewN _ ?_) | (with_reducible refine Below.setCell ?_ ?_ _) | (with_reducible refine Below.frame ?_ _) | go_size | (simp only [size_alloc, size_setCell, size_drew, size_drewN]; omega)))) (by first | go_size | (simp only [size_alloc, size_setCell, size_drew, size_drewN]; omega)); have hq0 : w.heap.size < w1.heap.size := (by omega); have hq1 : w.heap.size + 1 < w1.heap.size := (by omega))
        go_returns
        exact ⟨rfl, by (repeat' (first | (with_reducible exact Below.refl _ _) | (with_reducible assumption) | (with_reducible refine Below.alloc ?_ ?_ _) | (with_reducible refine Below.drew ?_) | (with_reducible refine below_drewN _ ?_) | (with_reducible refine Below.setCell ?_ ?_ _) | (with_reducible refine Below.frame ?_ _) | go_size | (simp only [size_alloc, size_setCell, size_drew, size_drewN]; omega)))⟩
      · rw [decide_eq_false hm]
        have hm' : (m == 0) = false := by simpa using hm
        go_enter Try.func116, Try.ntmps116
        go_wp2
        go_quiet (fail)
        go_wp2_with (go_at_call 136; refine (CHn _).mono ?_; rintro e w1 ⟨rfl, hb⟩; obtain ⟨hb, hz, hc, hf, hlt, hne⟩ := afterK (N := w.heap.size + 1 + 1) (w := w) hb (by (repeat' (first | (with_reducible exact Below.refl _ _) | (with_reducible assumption) | (with_reducible refine Below.alloc ?_ ?_ _) | (with_reducible refine Below.drew ?_) | (with_reducible refine below_drewN _ ?_) | (with_reducible refine Below.setCell ?_ ?_ _) | (with_reducible refine Below.frame ?_ _) | go_size | (simp only [size_alloc, size_setCell, size_drew, size_drewN]; omega)))) (by first | go_size | (simp only [size_alloc, size_setCell, size_drew, size_drewN]; omega)); have hq0 : w.heap.size < w1.heap.size := (by omega); have hq1 : w.heap.size + 1 < w1.heap.size := (by omega))
        go_returns
        exact ⟨rfl, by (repeat' (first | (with_reducible exact Below.refl _ _) | (with_reducible assumption) | (with_reducible refine Below.alloc ?_ ?_ _) | (with_reducible refine Below.drew ?_) | (with_reducible refine below_drewN _ ?_) | (with_reducible refine Below.setCell ?_ ?_ _) | (with_reducible refine Below.frame ?_ _) | go_size | (simp only [size_alloc, size_setCell, size_drew, size_drewN]; omega)))⟩
    · rw [if_neg hk]
      have hk' : (k == 1) = false := by simpa using hk
      have hk2 : 2 ≤ k := by omega
      clear hk
      by_cases hm : m = 0
      · rw [if_pos hm]
        subst hm
        by_cases hn' : n = 1
        · rw [decide_eq_true hn']
          subst hn'
          go_enter Try.func116, Try.ntmps116
          go_wp2
          go_quiet (fail)
          go_wp2_with (go_at_call 136; refine (CHn _).mono ?_; rintro e w1 ⟨rfl, hb⟩; obtain ⟨hb, hz, hc, hf, hlt, hne⟩ := afterK (N := w.heap.size + 1 + 1) (w := w) hb (by (repeat' (first | (with_reducible exact Below.refl _ _) | (with_reducible assumption) | (with_reducible refine Below.alloc ?_ ?_ _) | (with_reducible refine Below.drew ?_) | (with_reducible refine below_drewN _ ?_) | (with_reducible refine Below.setCell ?_ ?_ _) | (with_reducible refine Below.frame ?_ _) | go_size | (simp only [size_alloc, size_setCell, size_drew, size_drewN]; omega)))) (by first | go_size | (simp only [size_alloc, size_setCell, size_drew, size_drewN]; omega)); have hq0 : w.heap.size < w1.heap.size := (by omega); have hq1 : w.heap.size + 1 < w1.heap.size := (by omega))
          go_returns
          exact ⟨rfl, by (repeat' (first | (with_reducible exact Below.refl _ _) | (with_reducible assumption) | (with_reducible refine Below.alloc ?_ ?_ _) | (with_reducible refine Below.drew ?_) | (with_reducible refine below_drewN _ ?_) | (with_reducible refine Below.setCell ?_ ?_ _) | (with_reducible refine Below.frame ?_ _) | go_size | (simp only [size_alloc, size_setCell, size_drew, size_drewN]; omega)))⟩
        · rw [decide_eq_false hn']
          have hn2 : (n == 1) = false := by simpa using hn'
          go_enter Try.func116, Try.ntmps116
          go_wp2
          go_quiet (fail)
          go_wp2_with (go_at_call 136; refine (CHn _).mono ?_; rintro e w1 ⟨rfl, hb⟩; obtain ⟨hb, hz, hc, hf, hlt, hne⟩ := afterK (N := w.heap.size + 1 + 1) (w := w) hb (by (repeat' (first | (with_reducible exact Below.refl _ _) | (with_reducible assumption) | (with_reducible refine Below.alloc ?_ ?_ _) | (with_reducible refine Below.drew ?_) | (with_reducible refine below_drewN _ ?_) | (with_reducible refine Below.setCell ?_ ?_ _) | (with_reducible refine Below.frame ?_ _) | go_size | (simp only [size_alloc, size_setCell, size_drew, size_drewN]; omega)))) (by first | go_size | (simp only [size_alloc, size_setCell, size_drew, size_drewN]; omega)); have hq0 : w.heap.size < w1.heap.size := (by omega); have hq1 : w.heap.size + 1 < w1.heap.size := (by omega))
          go_returns
          exact ⟨rfl, by (repeat' (first | (with_reducible exact Below.refl _ _) | (with_reducible assumption) | (with_reducible refine Below.alloc ?_ ?_ _) | (with_reducible refine Below.drew ?_) | (with_reducible refine below_drewN _ ?_) | (with_reducible refine Below.setCell ?_ ?_ _) | (with_reducible refine Below.frame ?_ _) | go_size | (simp only [size_alloc, size_setCell, size_drew, size_drewN]; omega)))⟩
      · rw [if_neg hm]
        have hm' : (m == 0) = false := by simpa using hm
        by_cases hm2 : 1 ≤ m ∧ m < 2 * sz d
        · obtain ⟨m1, m2⟩ := hm2
          have m3 : m ≤ 127 := by omega
          by_cases he : m = n
          · rw [if_neg (fun h => h.2.1 he)]
            subst he
            go_enter Try.func116, Try.ntmps116
            go_wp2
            go_quiet (fail)
            go_wp2_with (first | (go_at_call 136; refine (CH _ _).mono ?_; rintro e w1 ⟨rfl, hb⟩; obtain ⟨hb, hz, hc, hf, hlt, hne⟩ := afterK (N := w.heap.size + 1 + 1) (w := w) hb (by (repeat' (first | (with_reducible exact Below.refl _ _) | (with_reducible assumption) | (with_reducible refine Below.alloc ?_ ?_ _) | (with_reducible refine Below.drew ?_) | (with_reducible refine below_drewN _ ?_) | (with_reducible refine Below.setCell ?_ ?_ _) | (with_reducible refine Below.frame ?_ _) | go_size | (simp only [size_alloc, size_setCell, size_drew, size_drewN]; omega)))) (by first | go_size | (simp only [size_alloc, size_setCell, size_drew, size_drewN]; omega)); have hq0 : w.heap.size < w1.heap.size := (by omega); have hq1 : w.heap.size + 1 < w1.heap.size := (by omega)))
            go_returns
            exact ⟨rfl, by (repeat' (first | (with_reducible exact Below.refl _ _) | (with_reducible assumption) | (with_reducible refine Below.alloc ?_ ?_ _) | (with_reducible refine Below.drew ?_) | (with_reducible refine below_drewN _ ?_) | (with_reducible refine Below.setCell ?_ ?_ _) | (with_reducible refine Below.frame ?_ _) | go_size | (simp only [size_alloc, size_setCell, size_drew, size_drewN]; omega)))⟩
          · have he' : (m == n) = false := by simpa using he
            have CB := fun w => below_any m n w m3 n3
            cases hb : belowB m n with
            | false =>
              rw [if_neg (fun h => by simp at h)]
              rw [hb] at CB
              clear hb he
              go_enter Try.func116, Try.ntmps116
              go_wp2
              go_quiet (fail)
              go_wp2_with (first | (go_at_call 136; refine (CH _ _).mono ?_; rintro e w1 ⟨rfl, hb⟩; obtain ⟨hb, hz, hc, hf, hlt, hne⟩ := afterK (N := w.heap.size + 1 + 1) (w := w) hb (by (repeat' (first | (with_reducible exact Below.refl _ _) | (with_reducible assumption) | (with_reducible refine Below.alloc ?_ ?_ _) | (with_reducible refine Below.drew ?_) | (with_reducible refine below_drewN _ ?_) | (with_reducible refine Below.setCell ?_ ?_ _) | (with_reducible refine Below.frame ?_ _) | go_size | (simp only [size_alloc, size_setCell, size_drew, size_drewN]; omega)))) (by first | go_size | (simp only [size_alloc, size_setCell, size_drew, size_drewN]; omega)); have hq0 : w.heap.size < w1.heap.size := (by omega); have hq1 : w.heap.size + 1 < w1.heap.size := (by omega)) | (go_at_call 137; refine (CB _).mono ?_; rintro e w1 ⟨rfl, rfl⟩))
              go_returns
              exact ⟨rfl, by (repeat' (first | (with_reducible exact Below.refl _ _) | (with_reducible assumption) | (with_reducible refine Below.alloc ?_ ?_ _) | (with_reducible refine Below.drew ?_) | (with_reducible refine below_drewN _ ?_) | (with_reducible refine Below.setCell ?_ ?_ _) | (with_reducible refine Below.frame ?_ _) | go_size | (simp only [size_alloc, size_setCell, size_drew, size_drewN]; omega)))⟩
            | true =>
              rw [if_pos ⟨⟨m1, m2⟩, he, rfl⟩]
              rw [hb] at CB
              have hu : under m n := ⟨n1, n3, m1, m3, hb⟩
              have CC := fun w => cut_any k d n m w hu he
              have CS := fun w => special_any k d n w n1 n3
              clear hb he hu
              by_cases h2 : k = 2
              · rw [decide_eq_true h2]
                subst h2
                go_enter Try.func116, Try.ntmps116
                go_wp2
                go_quiet (fail)
                go_wp2_with (first | (go_at_call 136; refine (CH _ _).mono ?_; rintro e w1 ⟨rfl, hb⟩; obtain ⟨hb, hz, hc, hf, hlt, hne⟩ := afterK (N := w.heap.size + 1 + 1) (w := w) hb (by (repeat' (first | (with_reducible exact Below.refl _ _) | (with_reducible assumption) | (with_reducible refine Below.alloc ?_ ?_ _) | (with_reducible refine Below.drew ?_) | (with_reducible refine below_drewN _ ?_) | (with_reducible refine Below.setCell ?_ ?_ _) | (with_reducible refine Below.frame ?_ _) | go_size | (simp only [size_alloc, size_setCell, size_drew, size_drewN]; omega)))) (by first | go_size | (simp only [size_alloc, size_setCell, size_drew, size_drewN]; omega)); have hq0 : w.heap.size < w1.heap.size := (by omega); have hq1 : w.heap.size + 1 < w1.heap.size := (by omega)) | (go_at_call 137; refine (CB _).mono ?_; rintro e w1 ⟨rfl, rfl⟩))
                go_returns
                exact ⟨rfl, by (repeat' (first | (with_reducible exact Below.refl _ _) | (with_reducible assumption) | (with_reducible refine Below.alloc ?_ ?_ _) | (with_reducible refine Below.drew ?_) | (with_reducible refine below_drewN _ ?_) | (with_reducible refine Below.setCell ?_ ?_ _) | (with_reducible refine Below.frame ?_ _) | go_size | (simp only [size_alloc, size_setCell, size_drew, size_drewN]; omega)))⟩
              · rw [decide_eq_false h2]
                have h2' : (k == 2) = false := by simpa using h2
                clear h2
                generalize specialB d n = b at *
                generalize cutV d n m = c at *
                cases b with
                | true =>
                  go_enter Try.func116, Try.ntmps116
                  go_wp2
                  go_quiet (fail)
                  go_wp2_with (first | (go_at_call 136; refine (CH _ _).mono ?_; rintro e w1 ⟨rfl, hb⟩; obtain ⟨hb, hz, hc, hf, hlt, hne⟩ := afterK (N := w.heap.size + 1 + 1) (w := w) hb (by (repeat' (first | (with_reducible exact Below.refl _ _) | (with_reducible assumption) | (with_reducible refine Below.alloc ?_ ?_ _) | (with_reducible refine Below.drew ?_) | (with_reducible refine below_drewN _ ?_) | (with_reducible refine Below.setCell ?_ ?_ _) | (with_reducible refine Below.frame ?_ _) | go_size | (simp only [size_alloc, size_setCell, size_drew, size_drewN]; omega)))) (by first | go_size | (simp only [size_alloc, size_setCell, size_drew, size_drewN]; omega)); have hq0 : w.heap.size < w1.heap.size := (by omega); have hq1 : w.heap.size + 1 < w1.heap.size := (by omega)) | (go_at_call 137; refine (CB _).mono ?_; rintro e w1 ⟨rfl, rfl⟩) | (go_at_call 138; refine (CS _).mono ?_; rintro e w1 ⟨rfl, hb⟩; obtain ⟨hb, hz, hc, hf, hlt, hne⟩ := afterK (N := w.heap.size + 1 + 1) (w := w) hb (by (repeat' (first | (with_reducible exact Below.refl _ _) | (with_reducible assumption) | (with_reducible refine Below.alloc ?_ ?_ _) | (with_reducible refine Below.drew ?_) | (with_reducible refine below_drewN _ ?_) | (with_reducible refine Below.setCell ?_ ?_ _) | (with_reducible refine Below.frame ?_ _) | go_size | (simp only [size_alloc, size_setCell, size_drew, size_drewN]; omega)))) (by first | go_size | (simp only [size_alloc, size_setCell, size_drew, size_drewN]; omega)); have hq0 : w.heap.size < w1.heap.size := (by omega); have hq1 : w.heap.size + 1 < w1.heap.size := (by omega)))
                  go_returns
                  exact ⟨rfl, by (repeat' (first | (with_reducible exact Below.refl _ _) | (with_reducible assumption) | (with_reducible refine Below.alloc ?_ ?_ _) | (with_reducible refine Below.drew ?_) | (with_reducible refine below_drewN _ ?_) | (with_reducible refine Below.setCell ?_ ?_ _) | (with_reducible refine Below.frame ?_ _) | go_size | (simp only [size_alloc, size_setCell, size_drew, size_drewN]; omega)))⟩
                | false =>
                  by_cases hc0 : c = 0
                  · subst hc0
                    go_enter Try.func116, Try.ntmps116
                    go_wp2
                    go_quiet (fail)
                    go_wp2_with (first | (go_at_call 136; refine (CH _ _).mono ?_; rintro e w1 ⟨rfl, hb⟩; obtain ⟨hb, hz, hc, hf, hlt, hne⟩ := afterK (N := w.heap.size + 1 + 1) (w := w) hb (by (repeat' (first | (with_reducible exact Below.refl _ _) | (with_reducible assumption) | (with_reducible refine Below.alloc ?_ ?_ _) | (with_reducible refine Below.drew ?_) | (with_reducible refine below_drewN _ ?_) | (with_reducible refine Below.setCell ?_ ?_ _) | (with_reducible refine Below.frame ?_ _) | go_size | (simp only [size_alloc, size_setCell, size_drew, size_drewN]; omega)))) (by first | go_size | (simp only [size_alloc, size_setCell, size_drew, size_drewN]; omega)); have hq0 : w.heap.size < w1.heap.size := (by omega); have hq1 : w.heap.size + 1 < w1.heap.size := (by omega)) | (go_at_call 137; refine (CB _).mono ?_; rintro e w1 ⟨rfl, rfl⟩) | (go_at_call 138; refine (CS _).mono ?_; rintro e w1 ⟨rfl, hb⟩; obtain ⟨hb, hz, hc, hf, hlt, hne⟩ := afterK (N := w.heap.size + 1 + 1) (w := w) hb (by (repeat' (first | (with_reducible exact Below.refl _ _) | (with_reducible assumption) | (with_reducible refine Below.alloc ?_ ?_ _) | (with_reducible refine Below.drew ?_) | (with_reducible refine below_drewN _ ?_) | (with_reducible refine Below.setCell ?_ ?_ _) | (with_reducible refine Below.frame ?_ _) | go_size | (simp only [size_alloc, size_setCell, size_drew, size_drewN]; omega)))) (by first | go_size | (simp only [size_alloc, size_setCell, size_drew, size_drewN]; omega)); have hq0 : w.heap.size < w1.heap.size := (by omega); have hq1 : w.heap.size + 1 < w1.heap.size := (by omega)) | (go_at_call 139; refine (CC _).mono ?_; rintro e w1 ⟨rfl, hb⟩; obtain ⟨hb, hz, hc, hf, hlt, hne⟩ := afterK (N := w.heap.size + 1 + 1) (w := w) hb (by (repeat' (first | (with_reducible exact Below.refl _ _) | (with_reducible assumption) | (with_reducible refine Below.alloc ?_ ?_ _) | (with_reducible refine Below.drew ?_) | (with_reducible refine below_drewN _ ?_) | (with_reducible refine Below.setCell ?_ ?_ _) | (with_reducible refine Below.frame ?_ _) | go_size | (simp only [size_alloc, size_setCell, size_drew, size_drewN]; omega)))) (by first | go_size | (simp only [size_alloc, size_setCell, size_drew, size_drewN]; omega)); have hq0 : w.heap.size < w1.heap.size := (by omega); have hq1 : w.heap.size + 1 < w1.heap.size := (by omega)))
                    go_returns
                    exact ⟨rfl, by (repeat' (first | (with_reducible exact Below.refl _ _) | (with_reducible assumption) | (with_reducible refine Below.alloc ?_ ?_ _) | (with_reducible refine Below.drew ?_) | (with_reducible refine below_drewN _ ?_) | (with_reducible refine Below.setCell ?_ ?_ _) | (with_reducible refine Below.frame ?_ _) | go_size | (simp only [size_alloc, size_setCell, size_drew, size_drewN]; omega)))⟩
                  · rw [decide_eq_false hc0]
                    have hc0' : (c == 0) = false := by simpa using hc0
                    go_enter Try.func116, Try.ntmps116
                    go_wp2
                    go_quiet (fail)
                    go_wp2_with (first | (go_at_call 136; refine (CH _ _).mono ?_; rintro e w1 ⟨rfl, hb⟩; obtain ⟨hb, hz, hc, hf, hlt, hne⟩ := afterK (N := w.heap.size + 1 + 1) (w := w) hb (by (repeat' (first | (with_reducible exact Below.refl _ _) | (with_reducible assumption) | (with_reducible refine Below.alloc ?_ ?_ _) | (with_reducible refine Below.drew ?_) | (with_reducible refine below_drewN _ ?_) | (with_reducible refine Below.setCell ?_ ?_ _) | (with_reducible refine Below.frame ?_ _) | go_size | (simp only [size_alloc, size_setCell, size_drew, size_drewN]; omega)))) (by first | go_size | (simp only [size_alloc, size_setCell, size_drew, size_drewN]; omega)); have hq0 : w.heap.size < w1.heap.size := (by omega); have hq1 : w.heap.size + 1 < w1.heap.size := (by omega)) | (go_at_call 137; refine (CB _).mono ?_; rintro e w1 ⟨rfl, rfl⟩) | (go_at_call 138; refine (CS _).mono ?_; rintro e w1 ⟨rfl, hb⟩; obtain ⟨hb, hz, hc, hf, hlt, hne⟩ := afterK (N := w.heap.size + 1 + 1) (w := w) hb (by (repeat' (first | (with_reducible exact Below.refl _ _) | (with_reducible assumption) | (with_reducible refine Below.alloc ?_ ?_ _) | (with_reducible refine Below.drew ?_) | (with_reducible refine below_drewN _ ?_) | (with_reducible refine Below.setCell ?_ ?_ _) | (with_reducible refine Below.frame ?_ _) | go_size | (simp only [size_alloc, size_setCell, size_drew, size_drewN]; omega)))) (by first | go_size | (simp only [size_alloc, size_setCell, size_drew, size_drewN]; omega)); have hq0 : w.heap.size < w1.heap.size := (by omega); have hq1 : w.heap.size + 1 < w1.heap.size := (by omega)) | (go_at_call 139; refine (CC _).mono ?_; rintro e w1 ⟨rfl, hb⟩; obtain ⟨hb, hz, hc, hf, hlt, hne⟩ := afterK (N := w.heap.size + 1 + 1) (w := w) hb (by (repeat' (first | (with_reducible exact Below.refl _ _) | (with_reducible assumption) | (with_reducible refine Below.alloc ?_ ?_ _) | (with_reducible refine Below.drew ?_) | (with_reducible refine below_drewN _ ?_) | (with_reducible refine Below.setCell ?_ ?_ _) | (with_reducible refine Below.frame ?_ _) | go_size | (simp only [size_alloc, size_setCell, size_drew, size_drewN]; omega)))) (by first | go_size | (simp only [size_alloc, size_setCell, size_drew, size_drewN]; omega)); have hq0 : w.heap.size < w1.heap.size := (by omega); have hq1 : w.heap.size + 1 < w1.heap.size := (by omega)))
                    go_returns
                    exact ⟨rfl, by (repeat' (first | (with_reducible exact Below.refl _ _) | (with_reducible assumption) | (with_reducible refine Below.alloc ?_ ?_ _) | (with_reducible refine Below.drew ?_) | (with_reducible refine below_drewN _ ?_) | (with_reducible refine Below.setCell ?_ ?_ _) | (with_reducible refine Below.frame ?_ _) | go_size | (simp only [size_alloc, size_setCell, size_drew, size_drewN]; omega)))⟩
        · rw [if_neg (fun h => hm2 h.1)]
          have hm3 : m < 1 ∨ 2 * sz d ≤ m := by omega
          clear hm2
          rcases hm3 with hm3 | hm3
          · go_enter Try.func116, Try.ntmps116
            go_wp2
            go_quiet (fail)
            go_wp2_with (first | (go_at_call 136; refine (CH _ _).mono ?_; rintro e w1 ⟨rfl, hb⟩; obtain ⟨hb, hz, hc, hf, hlt, hne⟩ := afterK (N := w.heap.size + 1 + 1) (w := w) hb (by (repeat' (first | (with_reducible exact Below.refl _ _) | (with_reducible assumption) | (with_reducible refine Below.alloc ?_ ?_ _) | (with_reducible refine Below.drew ?_) | (with_reducible refine below_drewN _ ?_) | (with_reducible refine Below.setCell ?_ ?_ _) | (with_reducible refine Below.frame ?_ _) | go_size | (simp only [size_alloc, size_setCell, size_drew, size_drewN]; omega)))) (by first | go_size | (simp only [size_alloc, size_setCell, size_drew, size_drewN]; omega)); have hq0 : w.heap.size < w1.heap.size := (by omega); have hq1 : w.heap.size + 1 < w1.heap.size := (by omega)))
            go_returns
            exact ⟨rfl, by (repeat' (first | (with_reducible exact Below.refl _ _) | (with_reducible assumption) | (with_reducible refine Below.alloc ?_ ?_ _) | (with_reducible refine Below.drew ?_) | (with_reducible refine below_drewN _ ?_) | (with_reducible refine Below.setCell ?_ ?_ _) | (with_reducible refine Below.frame ?_ _) | go_size | (simp only [size_alloc, size_setCell, size_drew, size_drewN]; omega)))⟩
          · go_enter Try.func116, Try.ntmps116
            go_wp2
            go_quiet (fail)
            go_wp2_with (first | (go_at_call 136; refine (CH _ _).mono ?_; rintro e w1 ⟨rfl, hb⟩; obtain ⟨hb, hz, hc, hf, hlt, hne⟩ := afterK (N := w.heap.size + 1 + 1) (w := w) hb (by (repeat' (first | (with_reducible exact Below.refl _ _) | (with_reducible assumption) | (with_reducible refine Below.alloc ?_ ?_ _) | (with_reducible refine Below.drew ?_) | (with_reducible refine below_drewN _ ?_) | (with_reducible refine Below.setCell ?_ ?_ _) | (with_reducible refine Below.frame ?_ _) | go_size | (simp only [size_alloc, size_setCell, size_drew, size_drewN]; omega)))) (by first | go_size | (simp only [size_alloc, size_setCell, size_drew, size_drewN]; omega)); have hq0 : w.heap.size < w1.heap.size := (by omega); have hq1 : w.heap.size + 1 < w1.heap.size := (by omega)))
            go_returns
            exact ⟨rfl, by (repeat' (first | (with_reducible exact Below.refl _ _) | (with_reducible assumption) | (with_reducible refine Below.alloc ?_ ?_ _) | (with_reducible refine Below.drew ?_) | (with_reducible refine below_drewN _ ?_) | (with_reducible refine Below.setCell ?_ ?_ _) | (with_reducible refine Below.frame ?_ _) | go_size | (simp only [size_alloc, size_setCell, size_drew, size_drewN]; omega)))⟩
  · have hr : subsetB k d n m = false := by unfold subsetB; rw [if_neg hn]
    rw [hr]
    clear hr
    have CHn := fun w => CH n w
    rw [decide_eq_false hn] at CHn
    clear CH hn
    go_enter Try.func116, Try.ntmps116
    go_wp2
    go_quiet (fail)
    go_wp2_with (go_at_call 136; refine (CHn _).mono ?_; rintro e w1 ⟨rfl, hb⟩; obtain ⟨hb, hz, hc, hf, hlt, hne⟩ := afterK (N := w.heap.size + 1 + 1) (w := w) hb (by (repeat' (first | (with_reducible exact Below.refl _ _) | (with_reducible assumption) | (with_reducible refine Below.alloc ?_ ?_ _) | (with_reducible refine Below.drew ?_) | (with_reducible refine below_drewN _ ?_) | (with_reducible refine Below.setCell ?_ ?_ _) | (with_reducible refine Below.frame ?_ _) | go_size | (simp only [size_alloc, size_setCell, size_drew, size_drewN]; omega)))) (by first | go_size | (simp only [size_alloc, size_setCell, size_drew, size_drewN]; omega)); have hq0 : w.heap.size < w1.heap.size := (by omega); have hq1 : w.heap.size + 1 < w1.heap.size := (by omega))
    go_returns
    exact ⟨rfl, by (repeat' (first | (with_reducible exact Below.refl _ _) | (with_reducible assumption) | (with_reducible refine Below.alloc ?_ ?_ _) | (with_reducible refine Below.drew ?_) | (with_reducible refine below_drewN _ ?_) | (with_reducible refine Below.setCell ?_ ?_ _) | (with_reducible refine Below.frame ?_ _) | go_size | (simp only [size_alloc, size_setCell, size_drew, size_drewN]; omega)))⟩
end Go.Proofs.Ytpnfghpcpjpppaa
