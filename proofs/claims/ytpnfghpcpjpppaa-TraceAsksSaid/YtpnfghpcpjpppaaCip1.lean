/- The cipher: the words of a block, a block of two words, rounds. -/
import Derived.Test.YtpnfghpcpjpppaaTree
import Derived.Test.YtpnfghpcpjpppaaSl
import Derived.BigRegion
namespace Go.Proofs.Ytpnfghpcpjpppaa
open Go.RowKit
set_option linter.unusedVariables false
set_option linter.unusedSimpArgs false

/-- The number in the first j bytes of some bytes, the highest first. -/
def wpre (l : List Int) (j : Nat) : Int := (l.take j).foldl (fun a c => bits .or .u64 (IntKind.u64.wrap (a * 256)) (IntKind.u64.wrap c)) 0

set_option maxHeartbeats 8000000 in
theorem wordsOf_any (b0 b1 b2 b3 b4 b5 b6 b7 b8 b9 b10 b11 b12 b13 b14 b15 : Int) (w : World) :
    Calls Try.prog 86 #[.agg #[.int .u8 b0, .int .u8 b1, .int .u8 b2, .int .u8 b3, .int .u8 b4, .int .u8 b5, .int .u8 b6, .int .u8 b7, .int .u8 b8, .int .u8 b9, .int .u8 b10, .int .u8 b11, .int .u8 b12, .int .u8 b13, .int .u8 b14, .int .u8 b15]] w fun e w' => e = .returned (.agg #[.int .u64 (wpre [b0, b1, b2, b3, b4, b5, b6, b7] 8), .int .u64 (wpre [b8, b9, b10, b11, b12, b13, b14, b15] 8)]) ∧ Below w.heap.size w w' := by
  obtain ⟨X, hX⟩ : ∃ X : Nat → Int, X = wpre [b0, b1, b2, b3, b4, b5, b6, b7] := ⟨_, rfl⟩
  obtain ⟨Y, hY⟩ : ∃ X : Nat → Int, X = wpre [b8, b9, b10, b11, b12, b13, b14, b15] := ⟨_, rfl⟩
  have HX := Lib.hid hX
  have HY := Lib.hid hY
  rw [← hX, ← hY]
  clear hX hY
  go_enter Try.func86, Try.ntmps86
  go_wp2
  go_loopw [5] (fun i wr => ∃ j : Nat, j ≤ 8 ∧ i = .int .i64 j ∧ Below (w.heap.size + 1 + 1) ((w.alloc (.cells #[.int .u8 b0, .int .u8 b1, .int .u8 b2, .int .u8 b3, .int .u8 b4, .int .u8 b5, .int .u8 b6, .int .u8 b7, .int .u8 b8, .int .u8 b9, .int .u8 b10, .int .u8 b11, .int .u8 b12, .int .u8 b13, .int .u8 b14, .int .u8 b15] 37)).alloc (.cells #[.int .u64 0, .int .u64 0] 149)) wr ∧ w.heap.size + 1 + 1 < wr.heap.size ∧
      wr.cell? ⟨w.heap.size + 1 + 1, 0, none⟩ = some (.int .u64 (X j)) ∧ wr.cell? ⟨w.heap.size + 1 + 1, 1, none⟩ = some (.int .u64 (Y j)) ∧ (∀ o, wr.frozen? ⟨w.heap.size + 1 + 1, o, none⟩ = false) ∧ Below w.heap.size w wr)
    (fun i _ => 8 - (intOf i).toNat)
  case atStart =>
    refine ⟨0, by omega, rfl, ?_, by simp, ?_, ?_, fun o => by simp [go_sem], ?_⟩
    · exact (Below.refl _ _).alloc (by simp) _
    · rw [show X 0 = 0 from by rw [HX.out]; rfl]; simp [go_sem]
    · rw [show Y 0 = 0 from by rw [HY.out]; rfl]; simp [go_sem]
    · exact (((Below.refl _ _).alloc (Nat.le_refl _) _).alloc (by simp) _).alloc (by simp; omega) _
  case round =>
    obtain ⟨j, hj, rfl, hB2, hz, hcx, hcy, hf, hB⟩ := hrel
    have hcr : ∀ b o, b < w.heap.size + 1 + 1 → wr.cell? ⟨b, o, none⟩ = ((w.alloc (.cells #[.int .u8 b0, .int .u8 b1, .int .u8 b2, .int .u8 b3, .int .u8 b4, .int .u8 b5, .int .u8 b6, .int .u8 b7, .int .u8 b8, .int .u8 b9, .int .u8 b10, .int .u8 b11, .int .u8 b12, .int .u8 b13, .int .u8 b14, .int .u8 b15] 37)).alloc (.cells #[.int .u64 0, .int .u64 0] 149)).cell? ⟨b, o, none⟩ := fun b o h => hB2.cell (p := ⟨b, o, none⟩) h
    have hfr : ∀ b o, b < w.heap.size + 1 + 1 → wr.frozen? ⟨b, o, none⟩ = ((w.alloc (.cells #[.int .u8 b0, .int .u8 b1, .int .u8 b2, .int .u8 b3, .int .u8 b4, .int .u8 b5, .int .u8 b6, .int .u8 b7, .int .u8 b8, .int .u8 b9, .int .u8 b10, .int .u8 b11, .int .u8 b12, .int .u8 b13, .int .u8 b14, .int .u8 b15] 37)).alloc (.cells #[.int .u64 0, .int .u64 0] 149)).frozen? ⟨b, o, none⟩ := fun b o h => hB2.frozen (p := ⟨b, o, none⟩) h
    by_cases h8 : j = 8
    · subst h8
      go_wp2
      refine bodyPost_ret (v := .agg #[.int .u64 (X 8), .int .u64 (Y 8)]) (by simp [results, Try.results86, go_sem, hcr]) rfl ⟨rfl, by (repeat' (first | (with_reducible exact Below.refl _ _) | (with_reducible assumption) | (with_reducible refine Below.alloc ?_ ?_ _) | (with_reducible refine Below.drew ?_) | (with_reducible refine below_drewN _ ?_) | (with_reducible refine Below.setCell ?_ ?_ _) | (with_reducible refine Below.frame ?_ _) | go_size | (simp only [size_alloc, size_setCell, size_drew, size_drewN]; omega)))⟩
    · have hj' : j = 0 ∨ j = 1 ∨ j = 2 ∨ j = 3 ∨ j = 4 ∨ j = 5 ∨ j = 6 ∨ j = 7 := by omega
      clear hj h8
      have HB2 := Lib.hid hB2
      clear hB2
      rcases hj' with rfl | rfl | rfl | rfl | rfl | rfl | rfl | rfl
      · go_wp2
        go_region
        go_wp2
        have hB2 := HB2.out
        refine ⟨⟨1, by omega, rfl, by (repeat' (first | (with_reducible exact Below.refl _ _) | (with_reducible assumption) | (with_reducible refine Below.alloc ?_ ?_ _) | (with_reducible refine Below.drew ?_) | (with_reducible refine below_drewN _ ?_) | (with_reducible refine Below.setCell ?_ ?_ _) | (with_reducible refine Below.frame ?_ _) | go_size | (simp only [size_alloc, size_setCell, size_drew, size_drewN]; omega))), by simp; omega, ?_, ?_, ?_, by (repeat' (first | (with_reducible exact Below.refl _ _) | (with_reducible assumption) | (with_reducible refine Below.alloc ?_ ?_ _) | (with_reducible refine Below.drew ?_) | (with_reducible refine below_drewN _ ?_) | (with_reducible refine Below.setCell ?_ ?_ _) | (with_reducible refine Below.frame ?_ _) | go_size | (simp only [size_alloc, size_setCell, size_drew, size_drewN]; omega)))⟩, by simp [intOf]⟩
        · rw [show X 1 = bits .or .u64 (IntKind.u64.wrap (X 0 * 256)) (IntKind.u64.wrap b0) from by rw [HX.out]; rfl]; simp [go_sem, hcx, hcy]
        · rw [show Y 1 = bits .or .u64 (IntKind.u64.wrap (Y 0 * 256)) (IntKind.u64.wrap b8) from by rw [HY.out]; rfl]; simp [go_sem, hcx, hcy]
        · intro o; simp [go_sem, hf]
      · go_wp2
        go_region
        go_wp2
        have hB2 := HB2.out
        refine ⟨⟨2, by omega, rfl, by (repeat' (first | (with_reducible exact Below.refl _ _) | (with_reducible assumption) | (with_reducible refine Below.alloc ?_ ?_ _) | (with_reducible refine Below.drew ?_) | (with_reducible refine below_drewN _ ?_) | (with_reducible refine Below.setCell ?_ ?_ _) | (with_reducible refine Below.frame ?_ _) | go_size | (simp only [size_alloc, size_setCell, size_drew, size_drewN]; omega))), by simp; omega, ?_, ?_, ?_, by (repeat' (first | (with_reducible exact Below.refl _ _) | (with_reducible assumption) | (with_reducible refine Below.alloc ?_ ?_ _) | (with_reducible refine Below.drew ?_) | (with_reducible refine below_drewN _ ?_) | (with_reducible refine Below.setCell ?_ ?_ _) | (with_reducible refine Below.frame ?_ _) | go_size | (simp only [size_alloc, size_setCell, size_drew, size_drewN]; omega)))⟩, by simp [intOf]⟩
        · rw [show X 2 = bits .or .u64 (IntKind.u64.wrap (X 1 * 256)) (IntKind.u64.wrap b1) from by rw [HX.out]; rfl]; simp [go_sem, hcx, hcy]
        · rw [show Y 2 = bits .or .u64 (IntKind.u64.wrap (Y 1 * 256)) (IntKind.u64.wrap b9) from by rw [HY.out]; rfl]; simp [go_sem, hcx, hcy]
        · intro o; simp [go_sem, hf]
      · go_wp2
        go_region
        go_wp2
        have hB2 := HB2.out
        refine ⟨⟨3, by omega, rfl, by (repeat' (first | (with_reducible exact Below.refl _ _) | (with_reducible assumption) | (with_reducible refine Below.alloc ?_ ?_ _) | (with_reducible refine Below.drew ?_) | (with_reducible refine below_drewN _ ?_) | (with_reducible refine Below.setCell ?_ ?_ _) | (with_reducible refine Below.frame ?_ _) | go_size | (simp only [size_alloc, size_setCell, size_drew, size_drewN]; omega))), by simp; omega, ?_, ?_, ?_, by (repeat' (first | (with_reducible exact Below.refl _ _) | (with_reducible assumption) | (with_reducible refine Below.alloc ?_ ?_ _) | (with_reducible refine Below.drew ?_) | (with_reducible refine below_drewN _ ?_) | (with_reducible refine Below.setCell ?_ ?_ _) | (with_reducible refine Below.frame ?_ _) | go_size | (simp only [size_alloc, size_setCell, size_drew, size_drewN]; omega)))⟩, by simp [intOf]⟩
        · rw [show X 3 = bits .or .u64 (IntKind.u64.wrap (X 2 * 256)) (IntKind.u64.wrap b2) from by rw [HX.out]; rfl]; simp [go_sem, hcx, hcy]
        · rw [show Y 3 = bits .or .u64 (IntKind.u64.wrap (Y 2 * 256)) (IntKind.u64.wrap b10) from by rw [HY.out]; rfl]; simp [go_sem, hcx, hcy]
        · intro o; simp [go_sem, hf]
      · go_wp2
        go_region
        go_wp2
        have hB2 := HB2.out
        refine ⟨⟨4, by omega, rfl, by (repeat' (first | (with_reducible exact Below.refl _ _) | (with_reducible assumption) | (with_reducible refine Below.alloc ?_ ?_ _) | (with_reducible refine Below.drew ?_) | (with_reducible refine below_drewN _ ?_) | (with_reducible refine Below.setCell ?_ ?_ _) | (with_reducible refine Below.frame ?_ _) | go_size | (simp only [size_alloc, size_setCell, size_drew, size_drewN]; omega))), by simp; omega, ?_, ?_, ?_, by (repeat' (first | (with_reducible exact Below.refl _ _) | (with_reducible assumption) | (with_reducible refine Below.alloc ?_ ?_ _) | (with_reducible refine Below.drew ?_) | (with_reducible refine below_drewN _ ?_) | (with_reducible refine Below.setCell ?_ ?_ _) | (with_reducible refine Below.frame ?_ _) | go_size | (simp only [size_alloc, size_setCell, size_drew, size_drewN]; omega)))⟩, by simp [intOf]⟩
        · rw [show X 4 = bits .or .u64 (IntKind.u64.wrap (X 3 * 256)) (IntKind.u64.wrap b3) from by rw [HX.out]; rfl]; simp [go_sem, hcx, hcy]
        · rw [show Y 4 = bits .or .u64 (IntKind.u64.wrap (Y 3 * 256)) (IntKind.u64.wrap b11) from by rw [HY.out]; rfl]; simp [go_sem, hcx, hcy]
        · intro o; simp [go_sem, hf]
      · go_wp2
        go_region
        go_wp2
        have hB2 := HB2.out
        refine ⟨⟨5, by omega, rfl, by (repeat' (first | (with_reducible exact Below.refl _ _) | (with_reducible assumption) | (with_reducible refine Below.alloc ?_ ?_ _) | (with_reducible refine Below.drew ?_) | (with_reducible refine below_drewN _ ?_) | (with_reducible refine Below.setCell ?_ ?_ _) | (with_reducible refine Below.frame ?_ _) | go_size | (simp only [size_alloc, size_setCell, size_drew, size_drewN]; omega))), by simp; omega, ?_, ?_, ?_, by (repeat' (first | (with_reducible exact Below.refl _ _) | (with_reducible assumption) | (with_reducible refine Below.alloc ?_ ?_ _) | (with_reducible refine Below.drew ?_) | (with_reducible refine below_drewN _ ?_) | (with_reducible refine Below.setCell ?_ ?_ _) | (with_reducible refine Below.frame ?_ _) | go_size | (simp only [size_alloc, size_setCell, size_drew, size_drewN]; omega)))⟩, by simp [intOf]⟩
        · rw [show X 5 = bits .or .u64 (IntKind.u64.wrap (X 4 * 256)) (IntKind.u64.wrap b4) from by rw [HX.out]; rfl]; simp [go_sem, hcx, hcy]
        · rw [show Y 5 = bits .or .u64 (IntKind.u64.wrap (Y 4 * 256)) (IntKind.u64.wrap b12) from by rw [HY.out]; rfl]; simp [go_sem, hcx, hcy]
        · intro o; simp [go_sem, hf]
      · go_wp2
        go_region
        go_wp2
        have hB2 := HB2.out
        refine ⟨⟨6, by omega, rfl, by (repeat' (first | (with_reducible exact Below.refl _ _) | (with_reducible assumption) | (with_reducible refine Below.alloc ?_ ?_ _) | (with_reducible refine Below.drew ?_) | (with_reducible refine below_drewN _ ?_) | (with_reducible refine Below.setCell ?_ ?_ _) | (with_reducible refine Below.frame ?_ _) | go_size | (simp only [size_alloc, size_setCell, size_drew, size_drewN]; omega))), by simp; omega, ?_, ?_, ?_, by (repeat' (first | (with_reducible exact Below.refl _ _) | (with_reducible assumption) | (with_reducible refine Below.alloc ?_ ?_ _) | (with_reducible refine Below.drew ?_) | (with_reducible refine below_drewN _ ?_) | (with_reducible refine Below.setCell ?_ ?_ _) | (with_reducible refine Below.frame ?_ _) | go_size | (simp only [size_alloc, size_setCell, size_drew, size_drewN]; omega)))⟩, by simp [intOf]⟩
        · rw [show X 6 = bits .or .u64 (IntKind.u64.wrap (X 5 * 256)) (IntKind.u64.wrap b5) from by rw [HX.out]; rfl]; simp [go_sem, hcx, hcy]
        · rw [show Y 6 = bits .or .u64 (IntKind.u64.wrap (Y 5 * 256)) (IntKind.u64.wrap b13) from by rw [HY.out]; rfl]; simp [go_sem, hcx, hcy]
        · intro o; simp [go_sem, hf]
      · go_wp2
        go_region
        go_wp2
        have hB2 := HB2.out
        refine ⟨⟨7, by omega, rfl, by (repeat' (first | (with_reducible exact Below.refl _ _) | (with_reducible assumption) | (with_reducible refine Below.alloc ?_ ?_ _) | (with_reducible refine Below.drew ?_) | (with_reducible refine below_drewN _ ?_) | (with_reducible refine Below.setCell ?_ ?_ _) | (with_reducible refine Below.frame ?_ _) | go_size | (simp only [size_alloc, size_setCell, size_drew, size_drewN]; omega))), by simp; omega, ?_, ?_, ?_, by (repeat' (first | (with_reducible exact Below.refl _ _) | (with_reducible assumption) | (with_reducible refine Below.alloc ?_ ?_ _) | (with_reducible refine Below.drew ?_) | (with_reducible refine below_drewN _ ?_) | (with_reducible refine Below.setCell ?_ ?_ _) | (with_reducible refine Below.frame ?_ _) | go_size | (simp only [size_alloc, size_setCell, size_drew, size_drewN]; omega)))⟩, by simp [intOf]⟩
        · rw [show X 7 = bits .or .u64 (IntKind.u64.wrap (X 6 * 256)) (IntKind.u64.wrap b6) from by rw [HX.out]; rfl]; simp [go_sem, hcx, hcy]
        · rw [show Y 7 = bits .or .u64 (IntKind.u64.wrap (Y 6 * 256)) (IntKind.u64.wrap b14) from by rw [HY.out]; rfl]; simp [go_sem, hcx, hcy]
        · intro o; simp [go_sem, hf]
      · go_wp2
        go_region
        go_wp2
        have hB2 := HB2.out
        refine ⟨⟨8, by omega, rfl, by (repeat' (first | (with_reducible exact Below.refl _ _) | (with_reducible assumption) | (with_reducible refine Below.alloc ?_ ?_ _) | (with_reducible refine Below.drew ?_) | (with_reducible refine below_drewN _ ?_) | (with_reducible refine Below.setCell ?_ ?_ _) | (with_reducible refine Below.frame ?_ _) | go_size | (simp only [size_alloc, size_setCell, size_drew, size_drewN]; omega))), by simp; omega, ?_, ?_, ?_, by (repeat' (first | (with_reducible exact Below.refl _ _) | (with_reducible assumption) | (with_reducible refine Below.alloc ?_ ?_ _) | (with_reducible refine Below.drew ?_) | (with_reducible refine below_drewN _ ?_) | (with_reducible refine Below.setCell ?_ ?_ _) | (with_reducible refine Below.frame ?_ _) | go_size | (simp only [size_alloc, size_setCell, size_drew, size_drewN]; omega)))⟩, by simp [intOf]⟩
        · rw [show X 8 = bits .or .u64 (IntKind.u64.wrap (X 7 * 256)) (IntKind.u64.wrap b7) from by rw [HX.out]; rfl]; simp [go_sem, hcx, hcy]
        · rw [show Y 8 = bits .or .u64 (IntKind.u64.wrap (Y 7 * 256)) (IntKind.u64.wrap b15) from by rw [HY.out]; rfl]; simp [go_sem, hcx, hcy]
        · intro o; simp [go_sem, hf]

/-- The byte with the index i of a word, the highest first. -/
def byteOf (x : Int) (i : Nat) : Int := x / 2 ^ (56 - 8 * i) % 256
/-- The bytes of a block of which j bytes of each word are written. -/
def blk (x y : Int) (j i : Nat) : Int := if i < j then byteOf x i else if 8 ≤ i ∧ i < 8 + j then byteOf y (i - 8) else 0

set_option maxHeartbeats 8000000 in
theorem block_any (x y : Int) (w : World) (x0 : 0 ≤ x) (x1 : x ≤ 18446744073709551615) (y0 : 0 ≤ y) (y1 : y ≤ 18446744073709551615) :
    Calls Try.prog 89 #[.agg #[.int .u64 x, .int .u64 y]] w fun e w' => e = .returned (.agg #[.int .u8 (byteOf x 0), .int .u8 (byteOf x 1), .int .u8 (byteOf x 2), .int .u8 (byteOf x 3), .int .u8 (byteOf x 4), .int .u8 (byteOf x 5), .int .u8 (byteOf x 6), .int .u8 (byteOf x 7), .int .u8 (byteOf y 0), .int .u8 (byteOf y 1), .int .u8 (byteOf y 2), .int .u8 (byteOf y 3), .int .u8 (byteOf y 4), .int .u8 (byteOf y 5), .int .u8 (byteOf y 6), .int .u8 (byteOf y 7)]) ∧ Below w.heap.size w w' := by
  obtain ⟨C, hC⟩ : ∃ C : Nat → Nat → Int, C = blk x y := ⟨_, rfl⟩
  have HC := Lib.hid hC
  have hv : (Value.agg #[.int .u8 (byteOf x 0), .int .u8 (byteOf x 1), .int .u8 (byteOf x 2), .int .u8 (byteOf x 3), .int .u8 (byteOf x 4), .int .u8 (byteOf x 5), .int .u8 (byteOf x 6), .int .u8 (byteOf x 7), .int .u8 (byteOf y 0), .int .u8 (byteOf y 1), .int .u8 (byteOf y 2), .int .u8 (byteOf y 3), .int .u8 (byteOf y 4), .int .u8 (byteOf y 5), .int .u8 (byteOf y 6), .int .u8 (byteOf y 7)]) = .agg #[.int .u8 (C 8 0), .int .u8 (C 8 1), .int .u8 (C 8 2), .int .u8 (C 8 3), .int .u8 (C 8 4), .int .u8 (C 8 5), .int .u8 (C 8 6), .int .u8 (C 8 7), .int .u8 (C 8 8), .int .u8 (C 8 9), .int .u8 (C 8 10), .int .u8 (C 8 11), .int .u8 (C 8 12), .int .u8 (C 8 13), .int .u8 (C 8 14), .int .u8 (C 8 15)] := by rw [hC]; rfl
  rw [hv]
  clear hC hv
  go_enter Try.func89, Try.ntmps89
  go_wp2
  go_loopw [5] (fun i wr => ∃ j : Nat, j ≤ 8 ∧ i = .int .i64 j ∧ Below (w.heap.size + 1 + 1) ((w.alloc (.cells #[.int .u64 x, .int .u64 y] 149)).alloc (.cells #[.int .u8 0, .int .u8 0, .int .u8 0, .int .u8 0, .int .u8 0, .int .u8 0, .int .u8 0, .int .u8 0, .int .u8 0, .int .u8 0, .int .u8 0, .int .u8 0, .int .u8 0, .int .u8 0, .int .u8 0, .int .u8 0] 37)) wr ∧ w.heap.size + 1 + 1 < wr.heap.size ∧
      (∀ i, i < 16 → wr.cell? ⟨w.heap.size + 1 + 1, i, none⟩ = some (.int .u8 (C j i))) ∧ (∀ o, wr.frozen? ⟨w.heap.size + 1 + 1, o, none⟩ = false) ∧ Below w.heap.size w wr)
    (fun i _ => 8 - (intOf i).toNat)
  case atStart =>
    refine ⟨0, by omega, rfl, ?_, by simp, ?_, fun o => by simp [go_sem], ?_⟩
    · exact (Below.refl _ _).alloc (by simp) _
    · intro i hi
      have hi' : i = 0 ∨ i = 1 ∨ i = 2 ∨ i = 3 ∨ i = 4 ∨ i = 5 ∨ i = 6 ∨ i = 7 ∨ i = 8 ∨ i = 9 ∨ i = 10 ∨ i = 11 ∨ i = 12 ∨ i = 13 ∨ i = 14 ∨ i = 15 := by omega
      rcases hi' with rfl | rfl | rfl | rfl | rfl | rfl | rfl | rfl | rfl | rfl | rfl | rfl | rfl | rfl | rfl | rfl <;> (rw [HC.out]; simp [go_sem, blk])
    · exact (((Below.refl _ _).alloc (Nat.le_refl _) _).alloc (by simp) _).alloc (by simp; omega) _
  case round =>
    obtain ⟨j, hj, rfl, hB2, hz, hc, hf, hB⟩ := hrel
    have hcr : ∀ b o, b < w.heap.size + 1 + 1 → wr.cell? ⟨b, o, none⟩ = ((w.alloc (.cells #[.int .u64 x, .int .u64 y] 149)).alloc (.cells #[.int .u8 0, .int .u8 0, .int .u8 0, .int .u8 0, .int .u8 0, .int .u8 0, .int .u8 0, .int .u8 0, .int .u8 0, .int .u8 0, .int .u8 0, .int .u8 0, .int .u8 0, .int .u8 0, .int .u8 0, .int .u8 0] 37)).cell? ⟨b, o, none⟩ := fun b o h => hB2.cell (p := ⟨b, o, none⟩) h
    have hfr : ∀ b o, b < w.heap.size + 1 + 1 → wr.frozen? ⟨b, o, none⟩ = ((w.alloc (.cells #[.int .u64 x, .int .u64 y] 149)).alloc (.cells #[.int .u8 0, .int .u8 0, .int .u8 0, .int .u8 0, .int .u8 0, .int .u8 0, .int .u8 0, .int .u8 0, .int .u8 0, .int .u8 0, .int .u8 0, .int .u8 0, .int .u8 0, .int .u8 0, .int .u8 0, .int .u8 0] 37)).frozen? ⟨b, o, none⟩ := fun b o h => hB2.frozen (p := ⟨b, o, none⟩) h
    have c0 := hc 0 (by omega)
    have c1 := hc 1 (by omega)
    have c2 := hc 2 (by omega)
    have c3 := hc 3 (by omega)
    have c4 := hc 4 (by omega)
    have c5 := hc 5 (by omega)
    have c6 := hc 6 (by omega)
    have c7 := hc 7 (by omega)
    have c8 := hc 8 (by omega)
    have c9 := hc 9 (by omega)
    have c10 := hc 10 (by omega)
    have c11 := hc 11 (by omega)
    have c12 := hc 12 (by omega)
    have c13 := hc 13 (by omega)
    have c14 := hc 14 (by omega)
    have c15 := hc 15 (by omega)
    by_cases h8 : j = 8
    · subst h8
      clear hc
      go_wp2
      refine bodyPost_ret (v := .agg #[.int .u8 (C 8 0), .int .u8 (C 8 1), .int .u8 (C 8 2), .int .u8 (C 8 3), .int .u8 (C 8 4), .int .u8 (C 8 5), .int .u8 (C 8 6), .int .u8 (C 8 7), .int .u8 (C 8 8), .int .u8 (C 8 9), .int .u8 (C 8 10), .int .u8 (C 8 11), .int .u8 (C 8 12), .int .u8 (C 8 13), .int .u8 (C 8 14), .int .u8 (C 8 15)]) (by simp [results, Try.results89, go_sem, hcr]) rfl ⟨rfl, by (repeat' (first | (with_reducible exact Below.refl _ _) | (with_reducible assumption) | (with_reducible refine Below.alloc ?_ ?_ _) | (with_reducible refine Below.drew ?_) | (with_reducible refine below_drewN _ ?_) | (with_reducible refine Below.setCell ?_ ?_ _) | (with_reducible refine Below.frame ?_ _) | go_size | (simp only [size_alloc, size_setCell, size_drew, size_drewN]; omega)))⟩
    · have hj' : j = 0 ∨ j = 1 ∨ j = 2 ∨ j = 3 ∨ j = 4 ∨ j = 5 ∨ j = 6 ∨ j = 7 := by omega
      clear hj h8 hc
      have HB2 := Lib.hid hB2
      clear hB2
      rcases hj' with rfl | rfl | rfl | rfl | rfl | rfl | rfl | rfl
      · go_wp2
        go_region
        go_wp2
        have hB2 := HB2.out
        refine ⟨⟨1, by omega, rfl, by (repeat' (first | (with_reducible exact Below.refl _ _) | (with_reducible assumption) | (with_reducible refine Below.alloc ?_ ?_ _) | (with_reducible refine Below.drew ?_) | (with_reducible refine below_drewN _ ?_) | (with_reducible refine Below.setCell ?_ ?_ _) | (with_reducible refine Below.frame ?_ _) | go_size | (simp only [size_alloc, size_setCell, size_drew, size_drewN]; omega))), by simp; omega, ?_, ?_, by (repeat' (first | (with_reducible exact Below.refl _ _) | (with_reducible assumption) | (with_reducible refine Below.alloc ?_ ?_ _) | (with_reducible refine Below.drew ?_) | (with_reducible refine below_drewN _ ?_) | (with_reducible refine Below.setCell ?_ ?_ _) | (with_reducible refine Below.frame ?_ _) | go_size | (simp only [size_alloc, size_setCell, size_drew, size_drewN]; omega)))⟩, by simp [intOf]⟩
        · intro i hi
          have hi' : i = 0 ∨ i = 1 ∨ i = 2 ∨ i = 3 ∨ i = 4 ∨ i = 5 ∨ i = 6 ∨ i = 7 ∨ i = 8 ∨ i = 9 ∨ i = 10 ∨ i = 11 ∨ i = 12 ∨ i = 13 ∨ i = 14 ∨ i = 15 := by omega
          rcases hi' with rfl | rfl | rfl | rfl | rfl | rfl | rfl | rfl | rfl | rfl | rfl | rfl | rfl | rfl | rfl | rfl
          · rw [show C 1 0 = x / 72057594037927936 % 256 from by rw [HC.out]; simp [blk, byteOf]]; simp [go_sem, c0]; try omega
          · rw [show C 1 1 = C 0 1 from by rw [HC.out]; simp [blk]]; simp [go_sem, c1]
          · rw [show C 1 2 = C 0 2 from by rw [HC.out]; simp [blk]]; simp [go_sem, c2]
          · rw [show C 1 3 = C 0 3 from by rw [HC.out]; simp [blk]]; simp [go_sem, c3]
          · rw [show C 1 4 = C 0 4 from by rw [HC.out]; simp [blk]]; simp [go_sem, c4]
          · rw [show C 1 5 = C 0 5 from by rw [HC.out]; simp [blk]]; simp [go_sem, c5]
          · rw [show C 1 6 = C 0 6 from by rw [HC.out]; simp [blk]]; simp [go_sem, c6]
          · rw [show C 1 7 = C 0 7 from by rw [HC.out]; simp [blk]]; simp [go_sem, c7]
          · rw [show C 1 8 = y / 72057594037927936 % 256 from by rw [HC.out]; simp [blk, byteOf]]; simp [go_sem, c8]; try omega
          · rw [show C 1 9 = C 0 9 from by rw [HC.out]; simp [blk]]; simp [go_sem, c9]
          · rw [show C 1 10 = C 0 10 from by rw [HC.out]; simp [blk]]; simp [go_sem, c10]
          · rw [show C 1 11 = C 0 11 from by rw [HC.out]; simp [blk]]; simp [go_sem, c11]
          · rw [show C 1 12 = C 0 12 from by rw [HC.out]; simp [blk]]; simp [go_sem, c12]
          · rw [show C 1 13 = C 0 13 from by rw [HC.out]; simp [blk]]; simp [go_sem, c13]
          · rw [show C 1 14 = C 0 14 from by rw [HC.out]; simp [blk]]; simp [go_sem, c14]
          · rw [show C 1 15 = C 0 15 from by rw [HC.out]; simp [blk]]; simp [go_sem, c15]
        · intro o; simp [go_sem, hf]
      · go_wp2
        go_region
        go_wp2
        have hB2 := HB2.out
        refine ⟨⟨2, by omega, rfl, by (repeat' (first | (with_reducible exact Below.refl _ _) | (with_reducible assumption) | (with_reducible refine Below.alloc ?_ ?_ _) | (with_reducible refine Below.drew ?_) | (with_reducible refine below_drewN _ ?_) | (with_reducible refine Below.setCell ?_ ?_ _) | (with_reducible refine Below.frame ?_ _) | go_size | (simp only [size_alloc, size_setCell, size_drew, size_drewN]; omega))), by simp; omega, ?_, ?_, by (repeat' (first | (with_reducible exact Below.refl _ _) | (with_reducible assumption) | (with_reducible refine Below.alloc ?_ ?_ _) | (with_reducible refine Below.drew ?_) | (with_reducible refine below_drewN _ ?_) | (with_reducible refine Below.setCell ?_ ?_ _) | (with_reducible refine Below.frame ?_ _) | go_size | (simp only [size_alloc, size_setCell, size_drew, size_drewN]; omega)))⟩, by simp [intOf]⟩
        · intro i hi
          have hi' : i = 0 ∨ i = 1 ∨ i = 2 ∨ i = 3 ∨ i = 4 ∨ i = 5 ∨ i = 6 ∨ i = 7 ∨ i = 8 ∨ i = 9 ∨ i = 10 ∨ i = 11 ∨ i = 12 ∨ i = 13 ∨ i = 14 ∨ i = 15 := by omega
          rcases hi' with rfl | rfl | rfl | rfl | rfl | rfl | rfl | rfl | rfl | rfl | rfl | rfl | rfl | rfl | rfl | rfl
          · rw [show C 2 0 = C 1 0 from by rw [HC.out]; simp [blk]]; simp [go_sem, c0]
          · rw [show C 2 1 = x / 281474976710656 % 256 from by rw [HC.out]; simp [blk, byteOf]]; simp [go_sem, c1]; try omega
          · rw [show C 2 2 = C 1 2 from by rw [HC.out]; simp [blk]]; simp [go_sem, c2]
          · rw [show C 2 3 = C 1 3 from by rw [HC.out]; simp [blk]]; simp [go_sem, c3]
          · rw [show C 2 4 = C 1 4 from by rw [HC.out]; simp [blk]]; simp [go_sem, c4]
          · rw [show C 2 5 = C 1 5 from by rw [HC.out]; simp [blk]]; simp [go_sem, c5]
          · rw [show C 2 6 = C 1 6 from by rw [HC.out]; simp [blk]]; simp [go_sem, c6]
          · rw [show C 2 7 = C 1 7 from by rw [HC.out]; simp [blk]]; simp [go_sem, c7]
          · rw [show C 2 8 = C 1 8 from by rw [HC.out]; simp [blk]]; simp [go_sem, c8]
          · rw [show C 2 9 = y / 281474976710656 % 256 from by rw [HC.out]; simp [blk, byteOf]]; simp [go_sem, c9]; try omega
          · rw [show C 2 10 = C 1 10 from by rw [HC.out]; simp [blk]]; simp [go_sem, c10]
          · rw [show C 2 11 = C 1 11 from by rw [HC.out]; simp [blk]]; simp [go_sem, c11]
          · rw [show C 2 12 = C 1 12 from by rw [HC.out]; simp [blk]]; simp [go_sem, c12]
          · rw [show C 2 13 = C 1 13 from by rw [HC.out]; simp [blk]]; simp [go_sem, c13]
          · rw [show C 2 14 = C 1 14 from by rw [HC.out]; simp [blk]]; simp [go_sem, c14]
          · rw [show C 2 15 = C 1 15 from by rw [HC.out]; simp [blk]]; simp [go_sem, c15]
        · intro o; simp [go_sem, hf]
      · go_wp2
        go_region
        go_wp2
        have hB2 := HB2.out
        refine ⟨⟨3, by omega, rfl, by (repeat' (first | (with_reducible exact Below.refl _ _) | (with_reducible assumption) | (with_reducible refine Below.alloc ?_ ?_ _) | (with_reducible refine Below.drew ?_) | (with_reducible refine below_drewN _ ?_) | (with_reducible refine Below.setCell ?_ ?_ _) | (with_reducible refine Below.frame ?_ _) | go_size | (simp only [size_alloc, size_setCell, size_drew, size_drewN]; omega))), by simp; omega, ?_, ?_, by (repeat' (first | (with_reducible exact Below.refl _ _) | (with_reducible assumption) | (with_reducible refine Below.alloc ?_ ?_ _) | (with_reducible refine Below.drew ?_) | (with_reducible refine below_drewN _ ?_) | (with_reducible refine Below.setCell ?_ ?_ _) | (with_reducible refine Below.frame ?_ _) | go_size | (simp only [size_alloc, size_setCell, size_drew, size_drewN]; omega)))⟩, by simp [intOf]⟩
        · intro i hi
          have hi' : i = 0 ∨ i = 1 ∨ i = 2 ∨ i = 3 ∨ i = 4 ∨ i = 5 ∨ i = 6 ∨ i = 7 ∨ i = 8 ∨ i = 9 ∨ i = 10 ∨ i = 11 ∨ i = 12 ∨ i = 13 ∨ i = 14 ∨ i = 15 := by omega
          rcases hi' with rfl | rfl | rfl | rfl | rfl | rfl | rfl | rfl | rfl | rfl | rfl | rfl | rfl | rfl | rfl | rfl
          · rw [show C 3 0 = C 2 0 from by rw [HC.out]; simp [blk]]; simp [go_sem, c0]
          · rw [show C 3 1 = C 2 1 from by rw [HC.out]; simp [blk]]; simp [go_sem, c1]
          · rw [show C 3 2 = x / 1099511627776 % 256 from by rw [HC.out]; simp [blk, byteOf]]; simp [go_sem, c2]; try omega
          · rw [show C 3 3 = C 2 3 from by rw [HC.out]; simp [blk]]; simp [go_sem, c3]
          · rw [show C 3 4 = C 2 4 from by rw [HC.out]; simp [blk]]; simp [go_sem, c4]
          · rw [show C 3 5 = C 2 5 from by rw [HC.out]; simp [blk]]; simp [go_sem, c5]
          · rw [show C 3 6 = C 2 6 from by rw [HC.out]; simp [blk]]; simp [go_sem, c6]
          · rw [show C 3 7 = C 2 7 from by rw [HC.out]; simp [blk]]; simp [go_sem, c7]
          · rw [show C 3 8 = C 2 8 from by rw [HC.out]; simp [blk]]; simp [go_sem, c8]
          · rw [show C 3 9 = C 2 9 from by rw [HC.out]; simp [blk]]; simp [go_sem, c9]
          · rw [show C 3 10 = y / 1099511627776 % 256 from by rw [HC.out]; simp [blk, byteOf]]; simp [go_sem, c10]; try omega
          · rw [show C 3 11 = C 2 11 from by rw [HC.out]; simp [blk]]; simp [go_sem, c11]
          · rw [show C 3 12 = C 2 12 from by rw [HC.out]; simp [blk]]; simp [go_sem, c12]
          · rw [show C 3 13 = C 2 13 from by rw [HC.out]; simp [blk]]; simp [go_sem, c13]
          · rw [show C 3 14 = C 2 14 from by rw [HC.out]; simp [blk]]; simp [go_sem, c14]
          · rw [show C 3 15 = C 2 15 from by rw [HC.out]; simp [blk]]; simp [go_sem, c15]
        · intro o; simp [go_sem, hf]
      · go_wp2
        go_region
        go_wp2
        have hB2 := HB2.out
        refine ⟨⟨4, by omega, rfl, by (repeat' (first | (with_reducible exact Below.refl _ _) | (with_reducible assumption) | (with_reducible refine Below.alloc ?_ ?_ _) | (with_reducible refine Below.drew ?_) | (with_reducible refine below_drewN _ ?_) | (with_reducible refine Below.setCell ?_ ?_ _) | (with_reducible refine Below.frame ?_ _) | go_size | (simp only [size_alloc, size_setCell, size_drew, size_drewN]; omega))), by simp; omega, ?_, ?_, by (repeat' (first | (with_reducible exact Below.refl _ _) | (with_reducible assumption) | (with_reducible refine Below.alloc ?_ ?_ _) | (with_reducible refine Below.drew ?_) | (with_reducible refine below_drewN _ ?_) | (with_reducible refine Below.setCell ?_ ?_ _) | (with_reducible refine Below.frame ?_ _) | go_size | (simp only [size_alloc, size_setCell, size_drew, size_drewN]; omega)))⟩, by simp [intOf]⟩
        · intro i hi
          have hi' : i = 0 ∨ i = 1 ∨ i = 2 ∨ i = 3 ∨ i = 4 ∨ i = 5 ∨ i = 6 ∨ i = 7 ∨ i = 8 ∨ i = 9 ∨ i = 10 ∨ i = 11 ∨ i = 12 ∨ i = 13 ∨ i = 14 ∨ i = 15 := by omega
          rcases hi' with rfl | rfl | rfl | rfl | rfl | rfl | rfl | rfl | rfl | rfl | rfl | rfl | rfl | rfl | rfl | rfl
          · rw [show C 4 0 = C 3 0 from by rw [HC.out]; simp [blk]]; simp [go_sem, c0]
          · rw [show C 4 1 = C 3 1 from by rw [HC.out]; simp [blk]]; simp [go_sem, c1]
          · rw [show C 4 2 = C 3 2 from by rw [HC.out]; simp [blk]]; simp [go_sem, c2]
          · rw [show C 4 3 = x / 4294967296 % 256 from by rw [HC.out]; simp [blk, byteOf]]; simp [go_sem, c3]; try omega
          · rw [show C 4 4 = C 3 4 from by rw [HC.out]; simp [blk]]; simp [go_sem, c4]
          · rw [show C 4 5 = C 3 5 from by rw [HC.out]; simp [blk]]; simp [go_sem, c5]
          · rw [show C 4 6 = C 3 6 from by rw [HC.out]; simp [blk]]; simp [go_sem, c6]
          · rw [show C 4 7 = C 3 7 from by rw [HC.out]; simp [blk]]; simp [go_sem, c7]
          · rw [show C 4 8 = C 3 8 from by rw [HC.out]; simp [blk]]; simp [go_sem, c8]
          · rw [show C 4 9 = C 3 9 from by rw [HC.out]; simp [blk]]; simp [go_sem, c9]
          · rw [show C 4 10 = C 3 10 from by rw [HC.out]; simp [blk]]; simp [go_sem, c10]
          · rw [show C 4 11 = y / 4294967296 % 256 from by rw [HC.out]; simp [blk, byteOf]]; simp [go_sem, c11]; try omega
          · rw [show C 4 12 = C 3 12 from by rw [HC.out]; simp [blk]]; simp [go_sem, c12]
          · rw [show C 4 13 = C 3 13 from by rw [HC.out]; simp [blk]]; simp [go_sem, c13]
          · rw [show C 4 14 = C 3 14 from by rw [HC.out]; simp [blk]]; simp [go_sem, c14]
          · rw [show C 4 15 = C 3 15 from by rw [HC.out]; simp [blk]]; simp [go_sem, c15]
        · intro o; simp [go_sem, hf]
      · go_wp2
        go_region
        go_wp2
        have hB2 := HB2.out
        refine ⟨⟨5, by omega, rfl, by (repeat' (first | (with_reducible exact Below.refl _ _) | (with_reducible assumption) | (with_reducible refine Below.alloc ?_ ?_ _) | (with_reducible refine Below.drew ?_) | (with_reducible refine below_drewN _ ?_) | (with_reducible refine Below.setCell ?_ ?_ _) | (with_reducible refine Below.frame ?_ _) | go_size | (simp only [size_alloc, size_setCell, size_drew, size_drewN]; omega))), by simp; omega, ?_, ?_, by (repeat' (first | (with_reducible exact Below.refl _ _) | (with_reducible assumption) | (with_reducible refine Below.alloc ?_ ?_ _) | (with_reducible refine Below.drew ?_) | (with_reducible refine below_drewN _ ?_) | (with_reducible refine Below.setCell ?_ ?_ _) | (with_reducible refine Below.frame ?_ _) | go_size | (simp only [size_alloc, size_setCell, size_drew, size_drewN]; omega)))⟩, by simp [intOf]⟩
        · intro i hi
          have hi' : i = 0 ∨ i = 1 ∨ i = 2 ∨ i = 3 ∨ i = 4 ∨ i = 5 ∨ i = 6 ∨ i = 7 ∨ i = 8 ∨ i = 9 ∨ i = 10 ∨ i = 11 ∨ i = 12 ∨ i = 13 ∨ i = 14 ∨ i = 15 := by omega
          rcases hi' with rfl | rfl | rfl | rfl | rfl | rfl | rfl | rfl | rfl | rfl | rfl | rfl | rfl | rfl | rfl | rfl
          · rw [show C 5 0 = C 4 0 from by rw [HC.out]; simp [blk]]; simp [go_sem, c0]
          · rw [show C 5 1 = C 4 1 from by rw [HC.out]; simp [blk]]; simp [go_sem, c1]
          · rw [show C 5 2 = C 4 2 from by rw [HC.out]; simp [blk]]; simp [go_sem, c2]
          · rw [show C 5 3 = C 4 3 from by rw [HC.out]; simp [blk]]; simp [go_sem, c3]
          · rw [show C 5 4 = x / 16777216 % 256 from by rw [HC.out]; simp [blk, byteOf]]; simp [go_sem, c4]; try omega
          · rw [show C 5 5 = C 4 5 from by rw [HC.out]; simp [blk]]; simp [go_sem, c5]
          · rw [show C 5 6 = C 4 6 from by rw [HC.out]; simp [blk]]; simp [go_sem, c6]
          · rw [show C 5 7 = C 4 7 from by rw [HC.out]; simp [blk]]; simp [go_sem, c7]
          · rw [show C 5 8 = C 4 8 from by rw [HC.out]; simp [blk]]; simp [go_sem, c8]
          · rw [show C 5 9 = C 4 9 from by rw [HC.out]; simp [blk]]; simp [go_sem, c9]
          · rw [show C 5 10 = C 4 10 from by rw [HC.out]; simp [blk]]; simp [go_sem, c10]
          · rw [show C 5 11 = C 4 11 from by rw [HC.out]; simp [blk]]; simp [go_sem, c11]
          · rw [show C 5 12 = y / 16777216 % 256 from by rw [HC.out]; simp [blk, byteOf]]; simp [go_sem, c12]; try omega
          · rw [show C 5 13 = C 4 13 from by rw [HC.out]; simp [blk]]; simp [go_sem, c13]
          · rw [show C 5 14 = C 4 14 from by rw [HC.out]; simp [blk]]; simp [go_sem, c14]
          · rw [show C 5 15 = C 4 15 from by rw [HC.out]; simp [blk]]; simp [go_sem, c15]
        · intro o; simp [go_sem, hf]
      · go_wp2
        go_region
        go_wp2
        have hB2 := HB2.out
        refine ⟨⟨6, by omega, rfl, by (repeat' (first | (with_reducible exact Below.refl _ _) | (with_reducible assumption) | (with_reducible refine Below.alloc ?_ ?_ _) | (with_reducible refine Below.drew ?_) | (with_reducible refine below_drewN _ ?_) | (with_reducible refine Below.setCell ?_ ?_ _) | (with_reducible refine Below.frame ?_ _) | go_size | (simp only [size_alloc, size_setCell, size_drew, size_drewN]; omega))), by simp; omega, ?_, ?_, by (repeat' (first | (with_reducible exact Below.refl _ _) | (with_reducible assumption) | (with_reducible refine Below.alloc ?_ ?_ _) | (with_reducible refine Below.drew ?_) | (with_reducible refine below_drewN _ ?_) | (with_reducible refine Below.setCell ?_ ?_ _) | (with_reducible refine Below.frame ?_ _) | go_size | (simp only [size_alloc, size_setCell, size_drew, size_drewN]; omega)))⟩, by simp [intOf]⟩
        · intro i hi
          have hi' : i = 0 ∨ i = 1 ∨ i = 2 ∨ i = 3 ∨ i = 4 ∨ i = 5 ∨ i = 6 ∨ i = 7 ∨ i = 8 ∨ i = 9 ∨ i = 10 ∨ i = 11 ∨ i = 12 ∨ i = 13 ∨ i = 14 ∨ i = 15 := by omega
          rcases hi' with rfl | rfl | rfl | rfl | rfl | rfl | rfl | rfl | rfl | rfl | rfl | rfl | rfl | rfl | rfl | rfl
          · rw [show C 6 0 = C 5 0 from by rw [HC.out]; simp [blk]]; simp [go_sem, c0]
          · rw [show C 6 1 = C 5 1 from by rw [HC.out]; simp [blk]]; simp [go_sem, c1]
          · rw [show C 6 2 = C 5 2 from by rw [HC.out]; simp [blk]]; simp [go_sem, c2]
          · rw [show C 6 3 = C 5 3 from by rw [HC.out]; simp [blk]]; simp [go_sem, c3]
          · rw [show C 6 4 = C 5 4 from by rw [HC.out]; simp [blk]]; simp [go_sem, c4]
          · rw [show C 6 5 = x / 65536 % 256 from by rw [HC.out]; simp [blk, byteOf]]; simp [go_sem, c5]; try omega
          · rw [show C 6 6 = C 5 6 from by rw [HC.out]; simp [blk]]; simp [go_sem, c6]
          · rw [show C 6 7 = C 5 7 from by rw [HC.out]; simp [blk]]; simp [go_sem, c7]
          · rw [show C 6 8 = C 5 8 from by rw [HC.out]; simp [blk]]; simp [go_sem, c8]
          · rw [show C 6 9 = C 5 9 from by rw [HC.out]; simp [blk]]; simp [go_sem, c9]
          · rw [show C 6 10 = C 5 10 from by rw [HC.out]; simp [blk]]; simp [go_sem, c10]
          · rw [show C 6 11 = C 5 11 from by rw [HC.out]; simp [blk]]; simp [go_sem, c11]
          · rw [show C 6 12 = C 5 12 from by rw [HC.out]; simp [blk]]; simp [go_sem, c12]
          · rw [show C 6 13 = y / 65536 % 256 from by rw [HC.out]; simp [blk, byteOf]]; simp [go_sem, c13]; try omega
          · rw [show C 6 14 = C 5 14 from by rw [HC.out]; simp [blk]]; simp [go_sem, c14]
          · rw [show C 6 15 = C 5 15 from by rw [HC.out]; simp [blk]]; simp [go_sem, c15]
        · intro o; simp [go_sem, hf]
      · go_wp2
        go_region
        go_wp2
        have hB2 := HB2.out
        refine ⟨⟨7, by omega, rfl, by (repeat' (first | (with_reducible exact Below.refl _ _) | (with_reducible assumption) | (with_reducible refine Below.alloc ?_ ?_ _) | (with_reducible refine Below.drew ?_) | (with_reducible refine below_drewN _ ?_) | (with_reducible refine Below.setCell ?_ ?_ _) | (with_reducible refine Below.frame ?_ _) | go_size | (simp only [size_alloc, size_setCell, size_drew, size_drewN]; omega))), by simp; omega, ?_, ?_, by (repeat' (first | (with_reducible exact Below.refl _ _) | (with_reducible assumption) | (with_reducible refine Below.alloc ?_ ?_ _) | (with_reducible refine Below.drew ?_) | (with_reducible refine below_drewN _ ?_) | (with_reducible refine Below.setCell ?_ ?_ _) | (with_reducible refine Below.frame ?_ _) | go_size | (simp only [size_alloc, size_setCell, size_drew, size_drewN]; omega)))⟩, by simp [intOf]⟩
        · intro i hi
          have hi' : i = 0 ∨ i = 1 ∨ i = 2 ∨ i = 3 ∨ i = 4 ∨ i = 5 ∨ i = 6 ∨ i = 7 ∨ i = 8 ∨ i = 9 ∨ i = 10 ∨ i = 11 ∨ i = 12 ∨ i = 13 ∨ i = 14 ∨ i = 15 := by omega
          rcases hi' with rfl | rfl | rfl | rfl | rfl | rfl | rfl | rfl | rfl | rfl | rfl | rfl | rfl | rfl | rfl | rfl
          · rw [show C 7 0 = C 6 0 from by rw [HC.out]; simp [blk]]; simp [go_sem, c0]
          · rw [show C 7 1 = C 6 1 from by rw [HC.out]; simp [blk]]; simp [go_sem, c1]
          · rw [show C 7 2 = C 6 2 from by rw [HC.out]; simp [blk]]; simp [go_sem, c2]
          · rw [show C 7 3 = C 6 3 from by rw [HC.out]; simp [blk]]; simp [go_sem, c3]
          · rw [show C 7 4 = C 6 4 from by rw [HC.out]; simp [blk]]; simp [go_sem, c4]
          · rw [show C 7 5 = C 6 5 from by rw [HC.out]; simp [blk]]; simp [go_sem, c5]
          · rw [show C 7 6 = x / 256 % 256 from by rw [HC.out]; simp [blk, byteOf]]; simp [go_sem, c6]; try omega
          · rw [show C 7 7 = C 6 7 from by rw [HC.out]; simp [blk]]; simp [go_sem, c7]
          · rw [show C 7 8 = C 6 8 from by rw [HC.out]; simp [blk]]; simp [go_sem, c8]
          · rw [show C 7 9 = C 6 9 from by rw [HC.out]; simp [blk]]; simp [go_sem, c9]
          · rw [show C 7 10 = C 6 10 from by rw [HC.out]; simp [blk]]; simp [go_sem, c10]
          · rw [show C 7 11 = C 6 11 from by rw [HC.out]; simp [blk]]; simp [go_sem, c11]
          · rw [show C 7 12 = C 6 12 from by rw [HC.out]; simp [blk]]; simp [go_sem, c12]
          · rw [show C 7 13 = C 6 13 from by rw [HC.out]; simp [blk]]; simp [go_sem, c13]
          · rw [show C 7 14 = y / 256 % 256 from by rw [HC.out]; simp [blk, byteOf]]; simp [go_sem, c14]; try omega
          · rw [show C 7 15 = C 6 15 from by rw [HC.out]; simp [blk]]; simp [go_sem, c15]
        · intro o; simp [go_sem, hf]
      · go_wp2
        go_region
        go_wp2
        have hB2 := HB2.out
        refine ⟨⟨8, by omega, rfl, by (repeat' (first | (with_reducible exact Below.refl _ _) | (with_reducible assumption) | (with_reducible refine Below.alloc ?_ ?_ _) | (with_reducible refine Below.drew ?_) | (with_reducible refine below_drewN _ ?_) | (with_reducible refine Below.setCell ?_ ?_ _) | (with_reducible refine Below.frame ?_ _) | go_size | (simp only [size_alloc, size_setCell, size_drew, size_drewN]; omega))), by simp; omega, ?_, ?_, by (repeat' (first | (with_reducible exact Below.refl _ _) | (with_reducible assumption) | (with_reducible refine Below.alloc ?_ ?_ _) | (with_reducible refine Below.drew ?_) | (with_reducible refine below_drewN _ ?_) | (with_reducible refine Below.setCell ?_ ?_ _) | (with_reducible refine Below.frame ?_ _) | go_size | (simp only [size_alloc, size_setCell, size_drew, size_drewN]; omega)))⟩, by simp [intOf]⟩
        · intro i hi
          have hi' : i = 0 ∨ i = 1 ∨ i = 2 ∨ i = 3 ∨ i = 4 ∨ i = 5 ∨ i = 6 ∨ i = 7 ∨ i = 8 ∨ i = 9 ∨ i = 10 ∨ i = 11 ∨ i = 12 ∨ i = 13 ∨ i = 14 ∨ i = 15 := by omega
          rcases hi' with rfl | rfl | rfl | rfl | rfl | rfl | rfl | rfl | rfl | rfl | rfl | rfl | rfl | rfl | rfl | rfl
          · rw [show C 8 0 = C 7 0 from by rw [HC.out]; simp [blk]]; simp [go_sem, c0]
          · rw [show C 8 1 = C 7 1 from by rw [HC.out]; simp [blk]]; simp [go_sem, c1]
          · rw [show C 8 2 = C 7 2 from by rw [HC.out]; simp [blk]]; simp [go_sem, c2]
          · rw [show C 8 3 = C 7 3 from by rw [HC.out]; simp [blk]]; simp [go_sem, c3]
          · rw [show C 8 4 = C 7 4 from by rw [HC.out]; simp [blk]]; simp [go_sem, c4]
          · rw [show C 8 5 = C 7 5 from by rw [HC.out]; simp [blk]]; simp [go_sem, c5]
          · rw [show C 8 6 = C 7 6 from by rw [HC.out]; simp [blk]]; simp [go_sem, c6]
          · rw [show C 8 7 = x % 256 from by rw [HC.out]; simp [blk, byteOf]]; simp [go_sem, c7]; try omega
          · rw [show C 8 8 = C 7 8 from by rw [HC.out]; simp [blk]]; simp [go_sem, c8]
          · rw [show C 8 9 = C 7 9 from by rw [HC.out]; simp [blk]]; simp [go_sem, c9]
          · rw [show C 8 10 = C 7 10 from by rw [HC.out]; simp [blk]]; simp [go_sem, c10]
          · rw [show C 8 11 = C 7 11 from by rw [HC.out]; simp [blk]]; simp [go_sem, c11]
          · rw [show C 8 12 = C 7 12 from by rw [HC.out]; simp [blk]]; simp [go_sem, c12]
          · rw [show C 8 13 = C 7 13 from by rw [HC.out]; simp [blk]]; simp [go_sem, c13]
          · rw [show C 8 14 = C 7 14 from by rw [HC.out]; simp [blk]]; simp [go_sem, c14]
          · rw [show C 8 15 = y % 256 from by rw [HC.out]; simp [blk, byteOf]]; simp [go_sem, c15]; try omega
        · intro o; simp [go_sem, hf]

end Go.Proofs.Ytpnfghpcpjpppaa
