/- The cipher: blocks of a tag and a number; derived keys; numbers. -/
import Derived.Test.YtpnfghpcpjpppaaCip3
import Derived.Deep.RegionHeld3
namespace Go.Proofs.Ytpnfghpcpjpppaa
open Go.RowKit
set_option linter.unusedVariables false
set_option linter.unusedSimpArgs false

/-- The first word of the block of a tag and a counter. -/
def tagW (tag c : Int) : Int := bits .or .u64 (tag * 72057594037927936) c
theorem tagW_in (t c : Int) : inW (tagW t c) := ⟨bits_lo_u64 _ _ _, bits_hi_u64 _ _ _⟩

set_option maxHeartbeats 2000000 in
theorem blockOf_any (tag c n : Int) (w : World) (t0 : 0 ≤ tag) (t1 : tag ≤ 255) (n0 : 0 ≤ n) (n1 : n ≤ 18446744073709551615) :
    Calls Try.prog 90 #[.int .u8 tag, .int .u64 c, .int .u64 n] w fun e w' => e = .returned (.agg #[.int .u8 (byteOf (tagW tag c) 0), .int .u8 (byteOf (tagW tag c) 1), .int .u8 (byteOf (tagW tag c) 2), .int .u8 (byteOf (tagW tag c) 3), .int .u8 (byteOf (tagW tag c) 4), .int .u8 (byteOf (tagW tag c) 5), .int .u8 (byteOf (tagW tag c) 6), .int .u8 (byteOf (tagW tag c) 7), .int .u8 (byteOf n 0), .int .u8 (byteOf n 1), .int .u8 (byteOf n 2), .int .u8 (byteOf n 3), .int .u8 (byteOf n 4), .int .u8 (byteOf n 5), .int .u8 (byteOf n 6), .int .u8 (byteOf n 7)]) ∧ Below w.heap.size w w' := by
  obtain ⟨q0, q1⟩ := tagW_in tag c
  have CB := fun w => block_any (tagW tag c) n w q0 q1 n0 n1
  clear q0 q1
  have ht : bits .or .u64 (tag * 72057594037927936) c = tagW tag c := rfl
  go_enter Try.func90, Try.ntmps90
  go_wp2_with (go_at_call 89; refine (CB _).mono ?_; rintro e w1 ⟨rfl, hb⟩; obtain ⟨hb, hz, hc, hf, hlt, hne⟩ := afterK (N := w.heap.size + 1) (w := w) hb (by (repeat' (first | (with_reducible exact Below.refl _ _) | (with_reducible assumption) | (with_reducible refine Below.alloc ?_ ?_ _) | (with_reducible refine Below.drew ?_) | (with_reducible refine below_drewN _ ?_) | (with_reducible refine Below.setCell ?_ ?_ _) | (with_reducible refine Below.frame ?_ _) | go_size | (simp only [size_alloc, size_setCell, size_drew, size_drewN]; omega)))) (by first | go_size | (simp only [size_alloc, size_setCell, size_drew, size_drewN]; omega)); have rc0 : w1.cell? ⟨w.heap.size, 0, none⟩ = some (.int .u8 0) := (by rw [hc w.heap.size 0 (by omega)]; simp [go_sem]); have rc1 : w1.cell? ⟨w.heap.size, 1, none⟩ = some (.int .u8 0) := (by rw [hc w.heap.size 1 (by omega)]; simp [go_sem]); have rc2 : w1.cell? ⟨w.heap.size, 2, none⟩ = some (.int .u8 0) := (by rw [hc w.heap.size 2 (by omega)]; simp [go_sem]); have rc3 : w1.cell? ⟨w.heap.size, 3, none⟩ = some (.int .u8 0) := (by rw [hc w.heap.size 3 (by omega)]; simp [go_sem]); have rc4 : w1.cell? ⟨w.heap.size, 4, none⟩ = some (.int .u8 0) := (by rw [hc w.heap.size 4 (by omega)]; simp [go_sem]); have rc5 : w1.cell? ⟨w.heap.size, 5, none⟩ = some (.int .u8 0) := (by rw [hc w.heap.size 5 (by omega)]; simp [go_sem]); have rc6 : w1.cell? ⟨w.heap.size, 6, none⟩ = some (.int .u8 0) := (by rw [hc w.heap.size 6 (by omega)]; simp [go_sem]); have rc7 : w1.cell? ⟨w.heap.size, 7, none⟩ = some (.int .u8 0) := (by rw [hc w.heap.size 7 (by omega)]; simp [go_sem]); have rc8 : w1.cell? ⟨w.heap.size, 8, none⟩ = some (.int .u8 0) := (by rw [hc w.heap.size 8 (by omega)]; simp [go_sem]); have rc9 : w1.cell? ⟨w.heap.size, 9, none⟩ = some (.int .u8 0) := (by rw [hc w.heap.size 9 (by omega)]; simp [go_sem]); have rc10 : w1.cell? ⟨w.heap.size, 10, none⟩ = some (.int .u8 0) := (by rw [hc w.heap.size 10 (by omega)]; simp [go_sem]); have rc11 : w1.cell? ⟨w.heap.size, 11, none⟩ = some (.int .u8 0) := (by rw [hc w.heap.size 11 (by omega)]; simp [go_sem]); have rc12 : w1.cell? ⟨w.heap.size, 12, none⟩ = some (.int .u8 0) := (by rw [hc w.heap.size 12 (by omega)]; simp [go_sem]); have rc13 : w1.cell? ⟨w.heap.size, 13, none⟩ = some (.int .u8 0) := (by rw [hc w.heap.size 13 (by omega)]; simp [go_sem]); have rc14 : w1.cell? ⟨w.heap.size, 14, none⟩ = some (.int .u8 0) := (by rw [hc w.heap.size 14 (by omega)]; simp [go_sem]); have rc15 : w1.cell? ⟨w.heap.size, 15, none⟩ = some (.int .u8 0) := (by rw [hc w.heap.size 15 (by omega)]; simp [go_sem]); clear hc; have hq0 : w.heap.size < w1.heap.size := (by omega))
  refine bodyPost_ret (v := .agg #[.int .u8 (byteOf (tagW tag c) 0), .int .u8 (byteOf (tagW tag c) 1), .int .u8 (byteOf (tagW tag c) 2), .int .u8 (byteOf (tagW tag c) 3), .int .u8 (byteOf (tagW tag c) 4), .int .u8 (byteOf (tagW tag c) 5), .int .u8 (byteOf (tagW tag c) 6), .int .u8 (byteOf (tagW tag c) 7), .int .u8 (byteOf n 0), .int .u8 (byteOf n 1), .int .u8 (byteOf n 2), .int .u8 (byteOf n 3), .int .u8 (byteOf n 4), .int .u8 (byteOf n 5), .int .u8 (byteOf n 6), .int .u8 (byteOf n 7)]) (by simp [results, Try.results90, go_sem, rc0, rc1, rc2, rc3, rc4, rc5, rc6, rc7, rc8, rc9, rc10, rc11, rc12, rc13, rc14, rc15]) rfl ⟨rfl, ?_⟩
  have hle : w.heap.size ≤ w.heap.size := Nat.le_refl _
  exact ((((((((((((((((hb.setCell (p := ⟨w.heap.size, 0, none⟩) hle _).setCell (p := ⟨w.heap.size, 1, none⟩) hle _).setCell (p := ⟨w.heap.size, 2, none⟩) hle _).setCell (p := ⟨w.heap.size, 3, none⟩) hle _).setCell (p := ⟨w.heap.size, 4, none⟩) hle _).setCell (p := ⟨w.heap.size, 5, none⟩) hle _).setCell (p := ⟨w.heap.size, 6, none⟩) hle _).setCell (p := ⟨w.heap.size, 7, none⟩) hle _).setCell (p := ⟨w.heap.size, 8, none⟩) hle _).setCell (p := ⟨w.heap.size, 9, none⟩) hle _).setCell (p := ⟨w.heap.size, 10, none⟩) hle _).setCell (p := ⟨w.heap.size, 11, none⟩) hle _).setCell (p := ⟨w.heap.size, 12, none⟩) hle _).setCell (p := ⟨w.heap.size, 13, none⟩) hle _).setCell (p := ⟨w.heap.size, 14, none⟩) hle _).setCell (p := ⟨w.heap.size, 15, none⟩) hle _)

/-- The bytes that are derived. -/
def blkB (tag n : Int) : List Int := bytesOf (tagW tag 0, n)
def derive (k : List Int) (tag n : Int) : List Int := enc k (blkB tag n)
end Go.Proofs.Ytpnfghpcpjpppaa
