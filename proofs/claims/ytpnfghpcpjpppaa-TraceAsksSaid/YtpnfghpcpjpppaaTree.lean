/- Nodes of a tree: level, below, toward, size, leaf, has, special. -/
import Derived.Test.YtpnfghpcpjpppaaSch
import Derived.Test.YtpnfghpcpjpppaaShelf
namespace Go.Proofs.Ytpnfghpcpjpppaa
open Go.RowKit
set_option linter.unusedVariables false
set_option linter.unusedSimpArgs false

/-- The level of a node from 1 on. -/
def lvl (v : Int) : Int := (Lib.bitLen v.toNat : Int) - 1
theorem lvl_fin : ∀ v : Fin 128, 1 ≤ v.1 → 0 ≤ lvl (v.1 : Int) ∧ lvl (v.1 : Int) ≤ 6 := by decide +kernel
theorem lvl_bd (v : Int) (h0 : 1 ≤ v) (h1 : v ≤ 127) : 0 ≤ lvl v ∧ lvl v ≤ 6 := by
  have := lvl_fin ⟨v.toNat, by omega⟩ (by show 1 ≤ v.toNat; omega)
  rwa [show ((v.toNat : Nat) : Int) = v from by omega] at this

theorem level_any (v : Int) (w : World) (h0 : 1 ≤ v) (h1 : v ≤ 127) :
    Calls Try.prog 153 #[.int .i64 v] w fun e w' => e = .returned (.int .i64 (lvl v)) ∧ w = w' := by
  have C := fun w => Try.bits_Len v w (by omega) (by omega)
  have hb := lvl_bd v h0 h1
  have hl : 1 ≤ (Lib.bitLen v.toNat : Int) ∧ (Lib.bitLen v.toNat : Int) ≤ 7 := by unfold lvl at hb; omega
  obtain ⟨hl0, hl1⟩ := hl
  clear hb
  unfold lvl
  generalize (Lib.bitLen v.toNat) = n at *
  go_enter Try.func153, Try.ntmps153
  go_wp2_with (go_at_call 135; refine (C _).mono ?_; rintro e w1 ⟨rfl, rfl⟩)
  go_returns
  exact ⟨rfl, rfl⟩

/-- Is v below t? -/
def belowB (v t : Int) : Bool := decide (1 ≤ v) && decide (1 ≤ t) && decide (lvl t ≤ lvl v) && (v / 2 ^ (lvl v - lvl t).toNat == t)

theorem below_any (v t : Int) (w : World) (h1 : v ≤ 127) (h2 : t ≤ 127) :
    Calls Try.prog 137 #[.int .i64 v, .int .i64 t] w fun e w' => e = .returned (.bool (belowB v t)) ∧ w = w' := by
  by_cases hv : 1 ≤ v
  · by_cases ht : 1 ≤ t
    · obtain ⟨b10, b11⟩ := lvl_bd v hv h1
      obtain ⟨b20, b21⟩ := lvl_bd t ht h2
      by_cases hab : lvl t ≤ lvl v
      · have hr : belowB v t = (v / 2 ^ (lvl v - lvl t).toNat == t) := by unfold belowB; rw [decide_eq_true hv, decide_eq_true ht, decide_eq_true hab]; rfl
        rw [hr]
        clear hr
        go_enter Try.func137, Try.ntmps137
        go_wp2_with (go_at_call 153; refine (level_any _ _ (by omega) (by omega)).mono ?_; rintro e w1 ⟨rfl, rfl⟩)
        go_returns
        exact ⟨rfl, rfl⟩
      · have hr : belowB v t = false := by unfold belowB; rw [decide_eq_true hv, decide_eq_true ht, decide_eq_false hab]; rfl
        rw [hr]
        clear hr
        go_enter Try.func137, Try.ntmps137
        go_wp2_with (go_at_call 153; refine (level_any _ _ (by omega) (by omega)).mono ?_; rintro e w1 ⟨rfl, rfl⟩)
        go_returns
        exact ⟨rfl, rfl⟩
    · have hr : belowB v t = false := by unfold belowB; rw [decide_eq_true hv, decide_eq_false ht]; rfl
      rw [hr]
      clear hr
      go_enter Try.func137, Try.ntmps137
      go_wp2_with fail
      go_returns
      exact ⟨rfl, rfl⟩
  · have hr : belowB v t = false := by unfold belowB; rw [decide_eq_false hv]; rfl
    rw [hr]
    clear hr
    go_enter Try.func137, Try.ntmps137
    go_wp2_with fail
    go_returns
    exact ⟨rfl, rfl⟩

/-- The child of v that w, strictly below v, is below. -/
def toward (v w : Int) : Int := w / 2 ^ ((lvl w - lvl v).toNat - 1)

theorem toward_any (v t : Int) (w : World) (hv : 1 ≤ v) (h1 : v ≤ 127) (ht : 1 ≤ t) (h2 : t ≤ 127) (hl : lvl v < lvl t) :
    Calls Try.prog 156 #[.int .i64 v, .int .i64 t] w fun e w' => e = .returned (.int .i64 (toward v t)) ∧ w = w' := by
  obtain ⟨b10, b11⟩ := lvl_bd v hv h1
  obtain ⟨b20, b21⟩ := lvl_bd t ht h2
  unfold toward
  go_enter Try.func156, Try.ntmps156
  go_wp2_with (go_at_call 153; refine (level_any _ _ (by omega) (by omega)).mono ?_; rintro e w1 ⟨rfl, rfl⟩)
  go_returns
  exact ⟨rfl, rfl⟩

theorem size_any (k d s : Int) (w : World) (h0 : 0 ≤ d) (h1 : d ≤ 6) :
    Calls Try.prog 125 #[.agg #[.int .u8 k, .int .i64 d, .int .i64 s]] w fun e w' => e = .returned (.int .i64 (2 ^ d.toNat)) ∧ Below w.heap.size w w' := by
  have hd : d = 0 ∨ d = 1 ∨ d = 2 ∨ d = 3 ∨ d = 4 ∨ d = 5 ∨ d = 6 := by omega
  clear h0 h1
  rcases hd with rfl | rfl | rfl | rfl | rfl | rfl | rfl
  all_goals
    go_enter Try.func125, Try.ntmps125
    go_wp2
    go_returns
    exact ⟨rfl, by (repeat' (first | (with_reducible exact Below.refl _ _) | (with_reducible assumption) | (with_reducible refine Below.alloc ?_ ?_ _) | (with_reducible refine Below.drew ?_) | (with_reducible refine below_drewN _ ?_) | (with_reducible refine Below.setCell ?_ ?_ _) | (with_reducible refine Below.frame ?_ _) | go_size | (simp only [size_alloc, size_setCell, size_drew, size_drewN]; omega)))⟩

/-- How many receivers there are. -/
def sz (d : Int) : Int := 2 ^ d.toNat
theorem sz_bd (d : Int) (h0 : 0 ≤ d) (h1 : d ≤ 6) : 1 ≤ sz d ∧ sz d ≤ 64 := by
  have hd : d = 0 ∨ d = 1 ∨ d = 2 ∨ d = 3 ∨ d = 4 ∨ d = 5 ∨ d = 6 := by omega
  rcases hd with rfl | rfl | rfl | rfl | rfl | rfl | rfl <;> decide
theorem size_sz (k d s : Int) (w : World) (h0 : 0 ≤ d) (h1 : d ≤ 6) :
    Calls Try.prog 125 #[.agg #[.int .u8 k, .int .i64 d, .int .i64 s]] w fun e w' => e = .returned (.int .i64 (sz d)) ∧ Below w.heap.size w w' := size_any k d s w h0 h1

theorem leaf_any (k d s u : Int) (w : World) (h0 : 0 ≤ d) (h1 : d ≤ 6) (u0 : 0 ≤ u) (u1 : u ≤ 64) :
    Calls Try.prog 142 #[.agg #[.int .u8 k, .int .i64 d, .int .i64 s], .int .i64 u] w fun e w' => e = .returned (.int .i64 (sz d + u)) ∧ Below w.heap.size w w' := by
  obtain ⟨b0, b1⟩ := sz_bd d h0 h1
  go_enter Try.func142, Try.ntmps142
  go_wp2_with (go_at_call 125; refine (size_sz _ _ _ _ h0 h1).mono ?_; rintro e w1 ⟨rfl, hb⟩; obtain ⟨hb, hz, hc, hf, hlt, hne⟩ := afterK (N := w.heap.size + 1) (w := w) hb (by (repeat' (first | (with_reducible exact Below.refl _ _) | (with_reducible assumption) | (with_reducible refine Below.alloc ?_ ?_ _) | (with_reducible refine Below.drew ?_) | (with_reducible refine below_drewN _ ?_) | (with_reducible refine Below.setCell ?_ ?_ _) | (with_reducible refine Below.frame ?_ _) | go_size | (simp only [size_alloc, size_setCell, size_drew, size_drewN]; omega)))) (by first | go_size | (simp only [size_alloc, size_setCell, size_drew, size_drewN]; omega)); have hq0 : w.heap.size < w1.heap.size := (by omega))
  go_returns
  exact ⟨rfl, by (repeat' (first | (with_reducible exact Below.refl _ _) | (with_reducible assumption) | (with_reducible refine Below.alloc ?_ ?_ _) | (with_reducible refine Below.drew ?_) | (with_reducible refine below_drewN _ ?_) | (with_reducible refine Below.setCell ?_ ?_ _) | (with_reducible refine Below.frame ?_ _) | go_size | (simp only [size_alloc, size_setCell, size_drew, size_drewN]; omega)))⟩

theorem has_any (k d s v : Int) (w : World) (h0 : 0 ≤ d) (h1 : d ≤ 6) :
    Calls Try.prog 136 #[.agg #[.int .u8 k, .int .i64 d, .int .i64 s], .int .i64 v] w fun e w' => e = .returned (.bool (decide (1 ≤ v ∧ v < 2 * sz d))) ∧ Below w.heap.size w w' := by
  obtain ⟨b0, b1⟩ := sz_bd d h0 h1
  by_cases hv : 1 ≤ v
  · by_cases hv2 : v < 2 * sz d
    · rw [show decide (1 ≤ v ∧ v < 2 * sz d) = true from decide_eq_true ⟨hv, hv2⟩]
      go_enter Try.func136, Try.ntmps136
      go_wp2_with (go_at_call 125; refine (size_sz _ _ _ _ h0 h1).mono ?_; rintro e w1 ⟨rfl, hb⟩; obtain ⟨hb, hz, hc, hf, hlt, hne⟩ := afterK (N := w.heap.size + 1) (w := w) hb (by (repeat' (first | (with_reducible exact Below.refl _ _) | (with_reducible assumption) | (with_reducible refine Below.alloc ?_ ?_ _) | (with_reducible refine Below.drew ?_) | (with_reducible refine below_drewN _ ?_) | (with_reducible refine Below.setCell ?_ ?_ _) | (with_reducible refine Below.frame ?_ _) | go_size | (simp only [size_alloc, size_setCell, size_drew, size_drewN]; omega)))) (by first | go_size | (simp only [size_alloc, size_setCell, size_drew, size_drewN]; omega)); have hq0 : w.heap.size < w1.heap.size := (by omega))
      go_returns
      exact ⟨rfl, by (repeat' (first | (with_reducible exact Below.refl _ _) | (with_reducible assumption) | (with_reducible refine Below.alloc ?_ ?_ _) | (with_reducible refine Below.drew ?_) | (with_reducible refine below_drewN _ ?_) | (with_reducible refine Below.setCell ?_ ?_ _) | (with_reducible refine Below.frame ?_ _) | go_size | (simp only [size_alloc, size_setCell, size_drew, size_drewN]; omega)))⟩
    · rw [show decide (1 ≤ v ∧ v < 2 * sz d) = false from decide_eq_false (fun h => hv2 h.2)]
      go_enter Try.func136, Try.ntmps136
      go_wp2_with (go_at_call 125; refine (size_sz _ _ _ _ h0 h1).mono ?_; rintro e w1 ⟨rfl, hb⟩; obtain ⟨hb, hz, hc, hf, hlt, hne⟩ := afterK (N := w.heap.size + 1) (w := w) hb (by (repeat' (first | (with_reducible exact Below.refl _ _) | (with_reducible assumption) | (with_reducible refine Below.alloc ?_ ?_ _) | (with_reducible refine Below.drew ?_) | (with_reducible refine below_drewN _ ?_) | (with_reducible refine Below.setCell ?_ ?_ _) | (with_reducible refine Below.frame ?_ _) | go_size | (simp only [size_alloc, size_setCell, size_drew, size_drewN]; omega)))) (by first | go_size | (simp only [size_alloc, size_setCell, size_drew, size_drewN]; omega)); have hq0 : w.heap.size < w1.heap.size := (by omega))
      go_returns
      exact ⟨ret_b (decide_eq_false (by omega)), by (repeat' (first | (with_reducible exact Below.refl _ _) | (with_reducible assumption) | (with_reducible refine Below.alloc ?_ ?_ _) | (with_reducible refine Below.drew ?_) | (with_reducible refine below_drewN _ ?_) | (with_reducible refine Below.setCell ?_ ?_ _) | (with_reducible refine Below.frame ?_ _) | go_size | (simp only [size_alloc, size_setCell, size_drew, size_drewN]; omega)))⟩
  · rw [show decide (1 ≤ v ∧ v < 2 * sz d) = false from decide_eq_false (fun h => hv h.1)]
    go_enter Try.func136, Try.ntmps136
    go_wp2_with fail
    go_returns
    exact ⟨rfl, by (repeat' (first | (with_reducible exact Below.refl _ _) | (with_reducible assumption) | (with_reducible refine Below.alloc ?_ ?_ _) | (with_reducible refine Below.drew ?_) | (with_reducible refine below_drewN _ ?_) | (with_reducible refine Below.setCell ?_ ?_ _) | (with_reducible refine Below.frame ?_ _) | go_size | (simp only [size_alloc, size_setCell, size_drew, size_drewN]; omega)))⟩

/-- Is a node special? -/
def specialB (d v : Int) : Bool := lvl v % stride d == 0
theorem stride_bd (d : Int) : 1 ≤ stride d ∧ stride d ≤ 3 := by unfold stride; split <;> (try split) <;> omega

theorem special_any (k d v : Int) (w : World) (h0 : 1 ≤ v) (h1 : v ≤ 127) :
    Calls Try.prog 138 #[.agg #[.int .u8 k, .int .i64 d, .int .i64 (stride d)], .int .i64 v] w fun e w' => e = .returned (.bool (specialB d v)) ∧ Below w.heap.size w w' := by
  obtain ⟨b0, b1⟩ := stride_bd d
  obtain ⟨c0, c1⟩ := lvl_bd v h0 h1
  unfold specialB
  generalize stride d = s at *
  go_enter Try.func138, Try.ntmps138
  go_wp2
  go_quiet ((go_at_call 153; exact quiet_same (level_any _ _ (by omega) (by omega))))
  go_wp2
  go_returns
  exact ⟨rfl, by (repeat' (first | (with_reducible exact Below.refl _ _) | (with_reducible assumption) | (with_reducible refine Below.alloc ?_ ?_ _) | (with_reducible refine Below.drew ?_) | (with_reducible refine below_drewN _ ?_) | (with_reducible refine Below.setCell ?_ ?_ _) | (with_reducible refine Below.frame ?_ _) | go_size | (simp only [size_alloc, size_setCell, size_drew, size_drewN]; omega)))⟩

end Go.Proofs.Ytpnfghpcpjpppaa
