/- The cipher: numbers. -/
import Derived.Test.YtpnfghpcpjpppaaCip5
namespace Go.Proofs.Ytpnfghpcpjpppaa
open Go.RowKit
set_option linter.unusedVariables false
set_option linter.unusedSimpArgs false

theorem wordsOf_v (k : List Int) (w : World) (hk : k.length = 16) :
    Calls Try.prog 86 #[keyV k] w fun e w' => e = .returned (.agg #[.int .u64 (wordsP k).1, .int .u64 (wordsP k).2]) ∧ Below w.heap.size w w' := by
  obtain ⟨a0, a1, a2, a3, a4, a5, a6, a7, a8, a9, a10, a11, a12, a13, a14, a15, rfl⟩ := len16i hk
  exact wordsOf_any a0 a1 a2 a3 a4 a5 a6 a7 a8 a9 a10 a11 a12 a13 a14 a15 w

/-- The number of a key, below most. -/
def numberV (k : List Int) (n most : Int) : Int := (wordsP (derive k 3 n)).1 % most
theorem numberV_bd (k : List Int) (n : Int) {most : Int} (h : 0 < most) : 0 ≤ numberV k n most ∧ numberV k n most < most :=
  ⟨Int.emod_nonneg _ (by omega), Int.emod_lt_of_pos _ h⟩

set_option maxRecDepth 20000 in
theorem Number_any (k : List Int) (n most : Int) (w : World) (hk : k.length = 16) (n0 : 0 ≤ n) (n1 : n ≤ 18446744073709551615) (m0 : 1 ≤ most) (m1 : most ≤ 18446744073709551615) :
    Calls Try.prog 70 #[keyV k, .int .u64 n, .int .u64 most] w fun e w' => e = .returned (.int .u64 (numberV k n most)) ∧ Below w.heap.size w w' := by
  have CD := fun w => Derive_any k 3 n w hk (by omega) (by omega) n0 n1
  have CW := fun w => wordsOf_v (derive k 3 n) w (derive_len _ _ _)
  have hw : inW (wordsP (derive k 3 n)).1 := wpre_in _ _
  unfold numberV
  generalize derive k 3 n = D at *
  generalize (wordsP D).2 = y at *
  have hb2 : 0 ≤ (wordsP D).1 % most := Int.emod_nonneg _ (by omega)
  have hb3 : (wordsP D).1 % most < most := Int.emod_lt_of_pos _ (by omega)
  unfold inW at hw
  generalize (wordsP D).1 = x at *
  have htm : Int.tmod x most = x % most := Int.tmod_eq_emod_of_nonneg (by omega)
  generalize x % most = r at *
  have hne : (most == 0) = false := by simp; omega
  have hne2 : most ≠ 0 := by omega
  have hwr : IntKind.u64.wrap r = r := by simp [IntKind.wrap, IntKind.bits, IntKind.signed]; omega
  unfold keyV at CW CD
  generalize keyL D = L at *
  unfold keyV at *
  obtain ⟨a0, a1, a2, a3, a4, a5, a6, a7, a8, a9, a10, a11, a12, a13, a14, a15, rfl⟩ := len16i hk
  simp only [keyL, List.map_cons, List.map_nil] at CD ⊢
  clear hk
  have hfd : ∀ w : World, (Instr.field 149 (.agg #[.int .u64 x, .int .u64 y]) 0).run Try.prog w = .ok (.int .u64 x) w := fun _ => by kernel_rfl
  go_enter Try.func70, Try.ntmps70
  go_wp2_with (first | (go_at_call 59; refine (CD _).mono ?_; rintro e w1 ⟨rfl, hb⟩; obtain ⟨hb, hz, hc, hf, hlt, hne⟩ := afterK (N := w.heap.size + 1) (w := w) hb (by (repeat' (first | (with_reducible exact Below.refl _ _) | (with_reducible assumption) | (with_reducible refine Below.alloc ?_ ?_ _) | (with_reducible refine Below.drew ?_) | (with_reducible refine below_drewN _ ?_) | (with_reducible refine Below.setCell ?_ ?_ _) | (with_reducible refine Below.frame ?_ _) | go_size | (simp only [size_alloc, size_setCell, size_drew, size_drewN]; omega)))) (by first | go_size | (simp only [size_alloc, size_setCell, size_drew, size_drewN]; omega)); have hq0 : w.heap.size < w1.heap.size := (by omega)) | (go_at_call 86; refine (CW _).mono ?_; rintro e w2 ⟨rfl, hb2⟩))
  go_returns
  exact ⟨rfl, (hb.trans (hb2.mono (Nat.le_of_lt hq0)) : _)⟩
end Go.Proofs.Ytpnfghpcpjpppaa
