/- The scheme: treeOf, cover.Check, the reference's Valid, Check, Receivers. -/
import Derived.Test.YtpnfghpcpjpppaaBase
namespace Go.Proofs.Ytpnfghpcpjpppaa
open Go.RowKit
set_option linter.unusedVariables false
set_option linter.unusedSimpArgs false

/-- The six cells of a scheme. -/
structure Sch where
  k : Int
  d : Int
  g : Int
  p : Int
  q : Int
  r : Int
def Sch.ok (s : Sch) : Prop := 1 ≤ s.k ∧ s.k ≤ 3 ∧ 0 ≤ s.d ∧ s.d ≤ 6 ∧ s.g = 0 ∧ s.p = 0 ∧ s.q = 0 ∧ s.r = 0
instance (s : Sch) : Decidable s.ok := by unfold Sch.ok; exact inferInstance
def stride (d : Int) : Int := if d ≤ 1 then 1 else if d ≤ 4 then 2 else 3

set_option maxHeartbeats 1000000 in
theorem treeOf_bad (k d g p q r : Int) (w : World) (h : ¬ Sch.ok ⟨k, d, g, p, q, r⟩) :
    Calls Try.prog 67 #[.agg #[.int .u8 k, .int .i64 d, .int .i64 g, .int .u64 p, .int .u64 q, .int .u64 r]] w fun e w' => e = .returned (.tuple #[.agg #[.int .u8 0, .int .i64 0, .int .i64 0], .bool false]) ∧ Below w.heap.size w w' := by
  have H := Lib.hid h
  clear h
  go_enter Try.func67, Try.ntmps67
  go_wp2
  all_goals first
    | (go_returns; exact ⟨rfl, by (repeat' (first | (with_reducible exact Below.refl _ _) | (with_reducible assumption) | (with_reducible refine Below.alloc ?_ ?_ _) | (with_reducible refine Below.drew ?_) | (with_reducible refine below_drewN _ ?_) | (with_reducible refine Below.setCell ?_ ?_ _) | (with_reducible refine Below.frame ?_ _) | go_size | (simp only [size_alloc, size_setCell, size_drew, size_drewN]; omega)))⟩)
    | skip
  all_goals (exfalso; have h := H.out; simp only [Sch.ok] at h; omega)

set_option maxHeartbeats 1000000 in
theorem treeOf_ok (k d g p q r : Int) (w : World) (h : Sch.ok ⟨k, d, g, p, q, r⟩) :
    Calls Try.prog 67 #[.agg #[.int .u8 k, .int .i64 d, .int .i64 g, .int .u64 p, .int .u64 q, .int .u64 r]] w fun e w' => e = .returned (.tuple #[.agg #[.int .u8 k, .int .i64 d, .int .i64 (stride d)], .bool true]) ∧ Below w.heap.size w w' := by
  obtain ⟨hk1, hk2, hd1, hd2, hg, hp, hq, hr⟩ := h
  dsimp only at hk1 hk2 hd1 hd2 hg hp hq hr
  subst hg hp hq hr
  go_enter Try.func67, Try.ntmps67
  go_wp2
  go_rounds 4
  all_goals go_returns
  all_goals (first | rw [show stride d = 3 from by unfold stride; rw [if_neg (by omega), if_neg (by omega)]] | rw [show stride d = 2 from by unfold stride; rw [if_neg (by omega), if_pos (by omega)]] | rw [show stride d = 1 from by unfold stride; rw [if_pos (by omega)]])
  all_goals exact ⟨rfl, by (repeat' (first | (with_reducible exact Below.refl _ _) | (with_reducible assumption) | (with_reducible refine Below.alloc ?_ ?_ _) | (with_reducible refine Below.drew ?_) | (with_reducible refine below_drewN _ ?_) | (with_reducible refine Below.setCell ?_ ?_ _) | (with_reducible refine Below.frame ?_ _) | go_size | (simp only [size_alloc, size_setCell, size_drew, size_drewN]; omega)))⟩

/-- cover.Check. -/
def chk (s : Sch) : Int := if s.ok then 0 else 30

theorem Check_any (k d g p q r : Int) (w : World) :
    Calls Try.prog 35 #[.agg #[.int .u8 k, .int .i64 d, .int .i64 g, .int .u64 p, .int .u64 q, .int .u64 r]] w fun e w' => e = .returned (.int .i64 (chk ⟨k, d, g, p, q, r⟩)) ∧ Below w.heap.size w w' := by
  by_cases h : Sch.ok ⟨k, d, g, p, q, r⟩
  · rw [show chk ⟨k, d, g, p, q, r⟩ = 0 from if_pos h]
    have C := fun w => treeOf_ok k d g p q r w h
    clear h
    go_enter Try.func35, Try.ntmps35
    go_wp2_with (go_at_call 67; refine (C _).mono ?_; rintro e w1 ⟨rfl, hb⟩; obtain ⟨hb, hz, hc, hf, hlt, hne⟩ := afterK (N := w.heap.size + 1) (w := w) hb (by (repeat' (first | (with_reducible exact Below.refl _ _) | (with_reducible assumption) | (with_reducible refine Below.alloc ?_ ?_ _) | (with_reducible refine Below.drew ?_) | (with_reducible refine below_drewN _ ?_) | (with_reducible refine Below.setCell ?_ ?_ _) | (with_reducible refine Below.frame ?_ _) | go_size | (simp only [size_alloc, size_setCell, size_drew, size_drewN]; omega)))) (by first | go_size | (simp only [size_alloc, size_setCell, size_drew, size_drewN]; omega)); have hq0 : w.heap.size < w1.heap.size := (by omega))
    go_returns
    exact ⟨rfl, by (repeat' (first | (with_reducible exact Below.refl _ _) | (with_reducible assumption) | (with_reducible refine Below.alloc ?_ ?_ _) | (with_reducible refine Below.drew ?_) | (with_reducible refine below_drewN _ ?_) | (with_reducible refine Below.setCell ?_ ?_ _) | (with_reducible refine Below.frame ?_ _) | go_size | (simp only [size_alloc, size_setCell, size_drew, size_drewN]; omega)))⟩
  · rw [show chk ⟨k, d, g, p, q, r⟩ = 30 from if_neg h]
    have C := fun w => treeOf_bad k d g p q r w h
    clear h
    go_enter Try.func35, Try.ntmps35
    go_wp2_with (go_at_call 67; refine (C _).mono ?_; rintro e w1 ⟨rfl, hb⟩; obtain ⟨hb, hz, hc, hf, hlt, hne⟩ := afterK (N := w.heap.size + 1) (w := w) hb (by (repeat' (first | (with_reducible exact Below.refl _ _) | (with_reducible assumption) | (with_reducible refine Below.alloc ?_ ?_ _) | (with_reducible refine Below.drew ?_) | (with_reducible refine below_drewN _ ?_) | (with_reducible refine Below.setCell ?_ ?_ _) | (with_reducible refine Below.frame ?_ _) | go_size | (simp only [size_alloc, size_setCell, size_drew, size_drewN]; omega)))) (by first | go_size | (simp only [size_alloc, size_setCell, size_drew, size_drewN]; omega)); have hq0 : w.heap.size < w1.heap.size := (by omega))
    go_returns
    exact ⟨rfl, by (repeat' (first | (with_reducible exact Below.refl _ _) | (with_reducible assumption) | (with_reducible refine Below.alloc ?_ ?_ _) | (with_reducible refine Below.drew ?_) | (with_reducible refine below_drewN _ ?_) | (with_reducible refine Below.setCell ?_ ?_ _) | (with_reducible refine Below.frame ?_ _) | go_size | (simp only [size_alloc, size_setCell, size_drew, size_drewN]; omega)))⟩

end Go.Proofs.Ytpnfghpcpjpppaa
