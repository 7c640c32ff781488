/- The reference's tree, walked: Level, Below, Stride, Special, Node, lists of receivers, lists that are alike. -/
import Derived.Test.YtpnfghpcpjpppaaBox
import Derived.Test.YtpnfghpcpjpppaaCut
namespace Go.Proofs.Ytpnfghpcpjpppaa
open Go.RowKit
set_option linter.unusedVariables false
set_option linter.unusedSimpArgs false

theorem lvl_half_fin : ((List.range 128).all fun v => decide (v < 2) || decide (lvl ((v : Int) / 2) + 1 = lvl (v : Int))) = true := by decide +kernel
theorem lvl_half {v : Int} (h1 : 2 ≤ v) (h2 : v ≤ 127) : lvl (v / 2) + 1 = lvl v := by
  have h := lvl_half_fin
  rw [List.all_eq_true] at h
  have h := h v.toNat (List.mem_range.2 (by omega))
  simp only [Bool.or_eq_true, decide_eq_true_iff] at h
  rcases h with h | h
  · omega
  · rwa [show ((v.toNat : Nat) : Int) = v from by omega] at h
theorem below_half_fin : ((List.range 128).all fun w => (List.range 128).all fun v => decide (w = 0) || decide (v = 0) || (if v < w then belowB (w : Int) v == belowB ((w : Int) / 2) v else belowB (w : Int) v == decide (w = v))) = true := by decide +kernel
theorem below_half {w v : Int} (w1 : 1 ≤ w) (w7 : w ≤ 127) (v1 : 1 ≤ v) (v7 : v ≤ 127) : (v < w → belowB w v = belowB (w / 2) v) ∧ (¬ v < w → belowB w v = (w == v)) := by
  have h := below_half_fin
  rw [List.all_eq_true] at h
  have h := h w.toNat (List.mem_range.2 (by omega))
  rw [List.all_eq_true] at h
  have h := h v.toNat (List.mem_range.2 (by omega))
  simp only [Bool.or_eq_true, decide_eq_true_iff, show ((w.toNat : Nat) : Int) = w from by omega, show ((v.toNat : Nat) : Int) = v from by omega] at h
  rcases h with (h | h) | h
  · omega
  · omega
  · constructor
    · intro hlt
      rw [if_pos (by omega)] at h
      simpa using h
    · intro hge
      rw [if_neg (by omega)] at h
      rw [eq_of_beq h, Bool.eq_iff_iff]
      simp
      omega

theorem rLevel_any (v : Int) (w : World) (h1 : 1 ≤ v) (h2 : v ≤ 127) :
    Calls Try.prog 128 #[.int .i64 v] w fun e w' => e = .returned (.int .i64 (lvl v)) ∧ w = w' := by
  have hb := lvl_bd v h1 h2
  go_enter Try.func128, Try.ntmps128
  go_wp2
  go_loop [0, 3] (fun a n => ∃ x j : Int, a = .int .i64 x ∧ n = .int .i64 j ∧ 1 ≤ x ∧ x ≤ 127 ∧ 0 ≤ j ∧ j + lvl x = lvl v) (fun a _ => (intOf a).toNat)
  case atStart => exact ⟨v, 0, rfl, rfl, h1, h2, by omega, by omega⟩
  case round =>
    obtain ⟨x, j, rfl, rfl, x1, x7, j0, hj⟩ := hrel
    have hx := lvl_bd x x1 x7
    have hj6 : j ≤ 6 := by omega
    by_cases hlt : 1 < x
    · have hh := Lib.hid (lvl_half (show 2 ≤ x by omega) x7)
      have HJ := Lib.hid hj
      clear hj hx hb
      go_wp2
      go_round
      case rel => exact ⟨x / 2, j + 1, rfl, rfl, by omega, by omega, by omega, by have := hh.out; have := HJ.out; omega⟩
      case measure => simp [intOf]; omega
    · obtain rfl : x = 1 := by omega
      have h11 : lvl 1 = 0 := by decide
      have hjv : j = lvl v := by omega
      have HJ := Lib.hid hjv
      clear hjv hj hx hb h11
      go_wp2
      go_ret
      exact ⟨ret_i HJ.out, rfl⟩
theorem rBelow_any (x v : Int) (w : World) (x1 : 1 ≤ x) (x7 : x ≤ 127) (v1 : 1 ≤ v) (v7 : v ≤ 127) :
    Calls Try.prog 98 #[.int .i64 x, .int .i64 v] w fun e w' => e = .returned (.bool (belowB x v)) ∧ w = w' := by
  go_enter Try.func98, Try.ntmps98
  go_wp2
  go_loop [0] (fun a => ∃ y : Int, a = .int .i64 y ∧ 1 ≤ y ∧ y ≤ 127 ∧ Hid (belowB y v = belowB x v)) (fun a => (intOf a).toNat)
  case atStart => exact ⟨x, rfl, x1, x7, rfl⟩
  case round =>
    obtain ⟨y, rfl, y1, y7, HY⟩ := hrel
    have HH := Lib.hid (below_half y1 y7 v1 v7)
    by_cases hlt : v < y
    · go_wp2
      go_round
      case rel => exact ⟨y / 2, rfl, by omega, by omega, (HH.out.1 hlt).symm.trans HY.out⟩
      case measure => simp [intOf]; omega
    · go_wp2
      go_ret
      exact ⟨ret_b (by rw [← HY.out, HH.out.2 hlt]), rfl⟩
theorem rStride_any (d : Int) (w : World) (h0 : 0 ≤ d) (h1 : d ≤ 6) :
    Calls Try.prog 129 #[.int .i64 d] w fun e w' => e = .returned (.int .i64 (stride d)) ∧ w = w' := by
  go_enter Try.func129, Try.ntmps129
  go_wp2
  go_rounds 4
  all_goals go_returns
  all_goals (first | rw [show stride d = 3 from by unfold stride; rw [if_neg (by omega), if_neg (by omega)]] | rw [show stride d = 2 from by unfold stride; rw [if_neg (by omega), if_pos (by omega)]] | rw [show stride d = 1 from by unfold stride; rw [if_pos (by omega)]])
  all_goals exact ⟨rfl, rfl⟩
theorem rSpecial_any (d v : Int) (w : World) (d0 : 0 ≤ d) (d6 : d ≤ 6) (v1 : 1 ≤ v) (v7 : v ≤ 127) :
    Calls Try.prog 108 #[.int .i64 d, .int .i64 v] w fun e w' => e = .returned (.bool (specialB d v)) ∧ w = w' := by
  have CL := fun w => rLevel_any v w v1 v7
  have CS := fun w => rStride_any d w d0 d6
  have hs := stride_bd d
  have hb := lvl_bd v v1 v7
  have HS := Lib.hid (show specialB d v = (lvl v % stride d == 0) from rfl)
  generalize specialB d v = r at *
  generalize lvl v = a at *
  generalize stride d = s at *
  obtain ⟨s1, s3⟩ := hs
  obtain ⟨a0, a6⟩ := hb
  go_enter Try.func108, Try.ntmps108
  go_wp2_with (first | (go_at_call 128; refine (CL _).mono ?_; rintro e w1 ⟨rfl, rfl⟩) | (go_at_call 129; refine (CS _).mono ?_; rintro e w1 ⟨rfl, rfl⟩))
  go_ret
  exact ⟨ret_b HS.out.symm, rfl⟩
theorem rNode_any (d v : Int) (w : World) (d0 : 0 ≤ d) (d6 : d ≤ 6) :
    Calls Try.prog 107 #[.int .i64 d, .int .i64 v] w fun e w' => e = .returned (.bool (decide (1 ≤ v ∧ v < 2 * sz d))) ∧ w = w' := by
  have CR := fun w => Receivers_any d w d0 d6
  rw [show (2 : Int) ^ d.toNat = sz d from rfl] at CR
  obtain ⟨z1, z2⟩ := sz_bd d d0 d6
  generalize sz d = z at *
  by_cases h1 : 1 ≤ v
  · go_enter Try.func107, Try.ntmps107
    go_wp2_with (go_at_call 65; refine (CR _).mono ?_; rintro e w1 ⟨rfl, rfl⟩)
    go_ret
    exact ⟨ret_b (by rw [Bool.eq_iff_iff]; simp; omega), rfl⟩
  · go_enter Try.func107, Try.ntmps107
    go_wp2_with (go_at_call 65; refine (CR _).mono ?_; rintro e w1 ⟨rfl, rfl⟩)
    go_ret
    exact ⟨ret_b (by rw [Bool.eq_iff_iff]; simp; omega), rfl⟩
end Go.Proofs.Ytpnfghpcpjpppaa
