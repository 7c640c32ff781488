/- The reference's comparison of boxes, at boxes that are alike. -/
import Derived.Test.YtpnfghpcpjpppaaRAsk
import Derived.Test.YtpnfghpcpjpppaaKeyEq
namespace Go.Proofs.Ytpnfghpcpjpppaa
open Go.RowKit
set_option linter.unusedVariables false
set_option linter.unusedSimpArgs false

set_option maxRecDepth 20000 in
set_option maxHeartbeats 4000000 in
theorem rSameBox_same (b : Bx) (v u : Value) (w : World) (h16 : b.seed.length = 16) (hv : Ints w v b.co) (hu : Ints w u b.co) (hl : b.co.length ≤ 1000000) :
    Calls Try.prog 14 #[b.val v, b.val u] w fun e w' => e = .returned (.bool true) ∧ Below w.heap.size w w' := by
  unfold Bx.val
  have HA : ∀ W, (w.alloc (.cells (b.cells v).toArray 39)).alloc (.cells (b.cells u).toArray 39) = W → BoxAt W w.heap.size b v ∧ BoxAt W (w.heap.size + 1) b u ∧ Below w.heap.size w W := by
    rintro W rfl
    refine ⟨?_, ?_, by (repeat' (first | (with_reducible exact Below.refl _ _) | (with_reducible assumption) | (with_reducible refine Below.alloc ?_ ?_ _) | (with_reducible refine Below.drew ?_) | (with_reducible refine below_drewN _ ?_) | (with_reducible refine Below.setCell ?_ ?_ _) | (with_reducible refine Below.frame ?_ _) | go_size | (simp only [size_alloc, size_setCell, size_drew, size_drewN]; omega)))⟩
    · unfold BoxAt
      have h1 := World.alloc_heap_new w (Obj.cells (b.cells v).toArray 39)
      exact (((Below.refl _ _).alloc (Nat.le_refl _) _).block w.heap.size (by simp)).trans h1
    · unfold BoxAt
      have h1 := World.alloc_heap_new (w.alloc (Obj.cells (b.cells v).toArray 39)) (Obj.cells (b.cells u).toArray 39)
      rwa [World.size_alloc] at h1
  generalize hL1 : b.cells v = L1 at *
  generalize hL2 : b.cells u = L2 at *
  have HA := Lib.hid HA
  have HL1 := Lib.hid hL1
  have HL2 := Lib.hid hL2
  clear hL1 hL2
  go_enter Try.func14, Try.ntmps14
  go_upto_region 1 with (fail)
  refine wp_world ?_
  intro W hW
  obtain ⟨B1, B2, hb⟩ := HA.out W hW
  clear hW HA
  have k1_0 : W.cell? ⟨w.heap.size, 0, none⟩ = some (.int .u8 b.s.k) := B1.cell 0 rfl
  have k1_1 : W.cell? ⟨w.heap.size, 1, none⟩ = some (.int .i64 b.s.d) := B1.cell 1 rfl
  have k1_2 : W.cell? ⟨w.heap.size, 2, none⟩ = some (.int .i64 b.s.g) := B1.cell 2 rfl
  have k1_3 : W.cell? ⟨w.heap.size, 3, none⟩ = some (.int .u64 b.s.p) := B1.cell 3 rfl
  have k1_4 : W.cell? ⟨w.heap.size, 4, none⟩ = some (.int .u64 b.s.q) := B1.cell 4 rfl
  have k1_5 : W.cell? ⟨w.heap.size, 5, none⟩ = some (.int .u64 b.s.r) := B1.cell 5 rfl
  have k1_6 : W.cell? ⟨w.heap.size, 6, none⟩ = some (v) := B1.cell 6 rfl
  have k1_7 : W.cell? ⟨w.heap.size, 7, none⟩ = some (.int .u8 b.mode) := B1.cell 7 rfl
  have k1_8 : W.cell? ⟨w.heap.size, 8, none⟩ = some (.int .i64 b.noise) := B1.cell 8 rfl
  have k1_9 : W.cell? ⟨w.heap.size, 9, none⟩ = some (.int .i64 b.lives) := B1.cell 9 rfl
  have k1_26 : W.cell? ⟨w.heap.size, 26, none⟩ = some (.int .i64 b.asked) := (B1.facts h16).2.2.2.1
  have k1_27 : W.cell? ⟨w.heap.size, 27, none⟩ = some (.int .i64 b.mixed) := (B1.facts h16).2.2.2.2.1
  have r1 := (B1.facts h16).2.2.2.2.2.1
  have k2_0 : W.cell? ⟨w.heap.size + 1, 0, none⟩ = some (.int .u8 b.s.k) := B2.cell 0 rfl
  have k2_1 : W.cell? ⟨w.heap.size + 1, 1, none⟩ = some (.int .i64 b.s.d) := B2.cell 1 rfl
  have k2_2 : W.cell? ⟨w.heap.size + 1, 2, none⟩ = some (.int .i64 b.s.g) := B2.cell 2 rfl
  have k2_3 : W.cell? ⟨w.heap.size + 1, 3, none⟩ = some (.int .u64 b.s.p) := B2.cell 3 rfl
  have k2_4 : W.cell? ⟨w.heap.size + 1, 4, none⟩ = some (.int .u64 b.s.q) := B2.cell 4 rfl
  have k2_5 : W.cell? ⟨w.heap.size + 1, 5, none⟩ = some (.int .u64 b.s.r) := B2.cell 5 rfl
  have k2_6 : W.cell? ⟨w.heap.size + 1, 6, none⟩ = some (u) := B2.cell 6 rfl
  have k2_7 : W.cell? ⟨w.heap.size + 1, 7, none⟩ = some (.int .u8 b.mode) := B2.cell 7 rfl
  have k2_8 : W.cell? ⟨w.heap.size + 1, 8, none⟩ = some (.int .i64 b.noise) := B2.cell 8 rfl
  have k2_9 : W.cell? ⟨w.heap.size + 1, 9, none⟩ = some (.int .i64 b.lives) := B2.cell 9 rfl
  have k2_26 : W.cell? ⟨w.heap.size + 1, 26, none⟩ = some (.int .i64 b.asked) := (B2.facts h16).2.2.2.1
  have k2_27 : W.cell? ⟨w.heap.size + 1, 27, none⟩ = some (.int .i64 b.mixed) := (B2.facts h16).2.2.2.2.1
  have r2 := (B2.facts h16).2.2.2.2.2.1
  have hz0 : w.heap.size < W.heap.size := B1.lt
  have hz1 : w.heap.size + 1 < W.heap.size := B2.lt
  clear B1 B2
  have CI := rSameInts_same v u b.co W (hv.below hb) (hu.below hb)
  obtain ⟨⟨k, d, g, p, q, r⟩, co, mode, noise, lives, seed, asked, mixed⟩ := b
  dsimp only at *
  obtain ⟨a0, a1, a2, a3, a4, a5, a6, a7, a8, a9, a10, a11, a12, a13, a14, a15, rfl⟩ := len16i h16
  simp only [keyL, List.map_cons, List.map_nil] at r1 r2
  have s1_0 : W.cell? ⟨w.heap.size, 10, none⟩ = some (.int .u8 a0) := r1 0 _ rfl
  have s1_1 : W.cell? ⟨w.heap.size, 11, none⟩ = some (.int .u8 a1) := r1 1 _ rfl
  have s1_2 : W.cell? ⟨w.heap.size, 12, none⟩ = some (.int .u8 a2) := r1 2 _ rfl
  have s1_3 : W.cell? ⟨w.heap.size, 13, none⟩ = some (.int .u8 a3) := r1 3 _ rfl
  have s1_4 : W.cell? ⟨w.heap.size, 14, none⟩ = some (.int .u8 a4) := r1 4 _ rfl
  have s1_5 : W.cell? ⟨w.heap.size, 15, none⟩ = some (.int .u8 a5) := r1 5 _ rfl
  have s1_6 : W.cell? ⟨w.heap.size, 16, none⟩ = some (.int .u8 a6) := r1 6 _ rfl
  have s1_7 : W.cell? ⟨w.heap.size, 17, none⟩ = some (.int .u8 a7) := r1 7 _ rfl
  have s1_8 : W.cell? ⟨w.heap.size, 18, none⟩ = some (.int .u8 a8) := r1 8 _ rfl
  have s1_9 : W.cell? ⟨w.heap.size, 19, none⟩ = some (.int .u8 a9) := r1 9 _ rfl
  have s1_10 : W.cell? ⟨w.heap.size, 20, none⟩ = some (.int .u8 a10) := r1 10 _ rfl
  have s1_11 : W.cell? ⟨w.heap.size, 21, none⟩ = some (.int .u8 a11) := r1 11 _ rfl
  have s1_12 : W.cell? ⟨w.heap.size, 22, none⟩ = some (.int .u8 a12) := r1 12 _ rfl
  have s1_13 : W.cell? ⟨w.heap.size, 23, none⟩ = some (.int .u8 a13) := r1 13 _ rfl
  have s1_14 : W.cell? ⟨w.heap.size, 24, none⟩ = some (.int .u8 a14) := r1 14 _ rfl
  have s1_15 : W.cell? ⟨w.heap.size, 25, none⟩ = some (.int .u8 a15) := r1 15 _ rfl
  have s2_0 : W.cell? ⟨w.heap.size + 1, 10, none⟩ = some (.int .u8 a0) := r2 0 _ rfl
  have s2_1 : W.cell? ⟨w.heap.size + 1, 11, none⟩ = some (.int .u8 a1) := r2 1 _ rfl
  have s2_2 : W.cell? ⟨w.heap.size + 1, 12, none⟩ = some (.int .u8 a2) := r2 2 _ rfl
  have s2_3 : W.cell? ⟨w.heap.size + 1, 13, none⟩ = some (.int .u8 a3) := r2 3 _ rfl
  have s2_4 : W.cell? ⟨w.heap.size + 1, 14, none⟩ = some (.int .u8 a4) := r2 4 _ rfl
  have s2_5 : W.cell? ⟨w.heap.size + 1, 15, none⟩ = some (.int .u8 a5) := r2 5 _ rfl
  have s2_6 : W.cell? ⟨w.heap.size + 1, 16, none⟩ = some (.int .u8 a6) := r2 6 _ rfl
  have s2_7 : W.cell? ⟨w.heap.size + 1, 17, none⟩ = some (.int .u8 a7) := r2 7 _ rfl
  have s2_8 : W.cell? ⟨w.heap.size + 1, 18, none⟩ = some (.int .u8 a8) := r2 8 _ rfl
  have s2_9 : W.cell? ⟨w.heap.size + 1, 19, none⟩ = some (.int .u8 a9) := r2 9 _ rfl
  have s2_10 : W.cell? ⟨w.heap.size + 1, 20, none⟩ = some (.int .u8 a10) := r2 10 _ rfl
  have s2_11 : W.cell? ⟨w.heap.size + 1, 21, none⟩ = some (.int .u8 a11) := r2 11 _ rfl
  have s2_12 : W.cell? ⟨w.heap.size + 1, 22, none⟩ = some (.int .u8 a12) := r2 12 _ rfl
  have s2_13 : W.cell? ⟨w.heap.size + 1, 23, none⟩ = some (.int .u8 a13) := r2 13 _ rfl
  have s2_14 : W.cell? ⟨w.heap.size + 1, 24, none⟩ = some (.int .u8 a14) := r2 14 _ rfl
  have s2_15 : W.cell? ⟨w.heap.size + 1, 25, none⟩ = some (.int .u8 a15) := r2 15 _ rfl
  have hke : ∀ W, (Op.equalIn 10000 37 (.agg #[.int .u8 a0, .int .u8 a1, .int .u8 a2, .int .u8 a3, .int .u8 a4, .int .u8 a5, .int .u8 a6, .int .u8 a7, .int .u8 a8, .int .u8 a9, .int .u8 a10, .int .u8 a11, .int .u8 a12, .int .u8 a13, .int .u8 a14, .int .u8 a15]) (.agg #[.int .u8 a0, .int .u8 a1, .int .u8 a2, .int .u8 a3, .int .u8 a4, .int .u8 a5, .int .u8 a6, .int .u8 a7, .int .u8 a8, .int .u8 a9, .int .u8 a10, .int .u8 a11, .int .u8 a12, .int .u8 a13, .int .u8 a14, .int .u8 a15])).run Try.prog W = .ok true W := fun W => (run_eqKey _ _ h16 h16 W).trans (by rw [decide_eq_true rfl])
  clear r1 r2 h16 HL1 HL2
  go_wp2_with (go_at_call 26; refine CI.mono ?_; rintro e w1 ⟨rfl, hb1⟩; obtain ⟨hcc, -⟩ := bcell hb1)
  go_returns
  exact ⟨rfl, hb.trans (hb1.mono hb.size)⟩
end Go.Proofs.Ytpnfghpcpjpppaa
