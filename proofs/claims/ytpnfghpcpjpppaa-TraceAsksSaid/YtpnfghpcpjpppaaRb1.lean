/- The reference's boxes: TwinBox, CheckBox, subsets. -/
import Derived.Test.YtpnfghpcpjpppaaRc4
import Derived.Test.YtpnfghpcpjpppaaRq
import Derived.Laws.AppendOwnNone
namespace Go.Proofs.Ytpnfghpcpjpppaa
open Go.RowKit
set_option linter.unusedVariables false
set_option linter.unusedSimpArgs false

theorem rCheckBox_bad (b : Bx) (v : Value) (w : World) (h16 : b.seed.length = 16) (hs : ¬ b.s.ok) :
    Calls Try.prog 16 #[b.val v] w fun e w' => e = .returned (.int .i64 30) ∧ Below w.heap.size w w' := by
  have hn := box_new h16 v w 39
  unfold Bx.val
  have C := fun w => rCheck_any b.s.k b.s.d b.s.g b.s.p b.s.q b.s.r w
  rw [show chk ⟨b.s.k, b.s.d, b.s.g, b.s.p, b.s.q, b.s.r⟩ = 30 from if_neg hs] at C
  generalize b.cells v = L at *
  dsimp only at hn
  obtain ⟨c0, c1, c2, c3, c4, c5, c6, c7, c8, c9, c26, c27, cr, ck, cf⟩ := hn
  clear cr ck hs
  go_enter Try.func16, Try.ntmps16
  go_wp2_with (go_at_call 36; refine (C _).mono ?_; rintro e w1 ⟨rfl, hb⟩; obtain ⟨hb, hz, hc, hf, hlt, hne⟩ := afterK (N := w.heap.size + 1) (w := w) hb (by (repeat' (first | (with_reducible exact Below.refl _ _) | (with_reducible assumption) | (with_reducible refine Below.alloc ?_ ?_ _) | (with_reducible refine Below.drew ?_) | (with_reducible refine below_drewN _ ?_) | (with_reducible refine Below.setCell ?_ ?_ _) | (with_reducible refine Below.frame ?_ _) | go_size | (simp only [size_alloc, size_setCell, size_drew, size_drewN]; omega)))) (by first | go_size | (simp only [size_alloc, size_setCell, size_drew, size_drewN]; omega)); have hq0 : w.heap.size < w1.heap.size := (by omega))
  go_returns
  exact ⟨rfl, by (repeat' (first | (with_reducible exact Below.refl _ _) | (with_reducible assumption) | (with_reducible refine Below.alloc ?_ ?_ _) | (with_reducible refine Below.drew ?_) | (with_reducible refine below_drewN _ ?_) | (with_reducible refine Below.setCell ?_ ?_ _) | (with_reducible refine Below.frame ?_ _) | go_size | (simp only [size_alloc, size_setCell, size_drew, size_drewN]; omega)))⟩

set_option maxHeartbeats 2000000 in
theorem rCheckBox_ok (b : Bx) (v : Value) (w : World) (h16 : b.seed.length = 16) (hs : b.s.ok) (hv : Ints w v b.co) (hl : b.co.length ≤ 1000000) :
    Calls Try.prog 16 #[b.val v] w fun e w' => e = .returned (.int .i64 (if listB b.s.d b.co = true ∧ b.nums then 0 else 8)) ∧ Below w.heap.size w w' := by
  have hn := box_new h16 v w 39
  unfold Bx.val
  have C := fun w => rCheck_any b.s.k b.s.d b.s.g b.s.p b.s.q b.s.r w
  rw [show chk ⟨b.s.k, b.s.d, b.s.g, b.s.p, b.s.q, b.s.r⟩ = 0 from if_pos hs] at C
  obtain ⟨-, -, d0, d6, -⟩ := hs
  have CI := fun W (h : Below w.heap.size w W) => rIsList_any b.s.d v b.co W d0 d6 (hv.below h) hl
  obtain ⟨E, hE⟩ : ∃ E : Int, E = if listB b.s.d b.co = true ∧ b.nums then 0 else 8 := ⟨_, rfl⟩
  rw [← hE]
  have HE0 := Lib.hid (fun (h1 : ¬ (listB b.s.d b.co = true)) => show E = 8 from hE.trans (if_neg fun h => h1 h.1))
  have HE1 := Lib.hid (fun (h1 : listB b.s.d b.co = true) => show E = if b.nums then 0 else 8 from hE.trans (by rw [h1]; simp))
  clear hE
  obtain ⟨a, cap, rfl, -⟩ := hv.open
  clear hv
  generalize b.cells (.slice a b.co.length cap) = L at *
  dsimp only at hn
  obtain ⟨c0, c1, c2, c3, c4, c5, c6, c7, c8, c9, c26, c27, cr, ck, cf⟩ := hn
  clear cr ck
  cases hlb : listB b.s.d b.co with
  | false =>
    rw [hlb] at CI
    have hE := HE0.out (by rw [hlb]; simp)
    clear hlb HE0 HE1
    subst hE
    go_enter Try.func16, Try.ntmps16
    go_wp2_with (first
      | (go_at_call 36; refine (C _).mono ?_; rintro e w1 ⟨rfl, hb⟩; obtain ⟨hb, hz, hc, hf, hlt, hne⟩ := afterK (N := w.heap.size + 1) (w := w) hb (by (repeat' (first | (with_reducible exact Below.refl _ _) | (with_reducible assumption) | (with_reducible refine Below.alloc ?_ ?_ _) | (with_reducible refine Below.drew ?_) | (with_reducible refine below_drewN _ ?_) | (with_reducible refine Below.setCell ?_ ?_ _) | (with_reducible refine Below.frame ?_ _) | go_size | (simp only [size_alloc, size_setCell, size_drew, size_drewN]; omega)))) (by first | go_size | (simp only [size_alloc, size_setCell, size_drew, size_drewN]; omega)); have hq0 : w.heap.size < w1.heap.size := (by omega))
      | (go_at_call 45; refine (CI _ (by (repeat' (first | (with_reducible exact Below.refl _ _) | (with_reducible assumption) | (with_reducible refine Below.alloc ?_ ?_ _) | (with_reducible refine Below.drew ?_) | (with_reducible refine below_drewN _ ?_) | (with_reducible refine Below.setCell ?_ ?_ _) | (with_reducible refine Below.frame ?_ _) | go_size | (simp only [size_alloc, size_setCell, size_drew, size_drewN]; omega))))).mono ?_; rintro e w2 ⟨rfl, hb2⟩))
    go_returns
    exact ⟨rfl, hb.trans (hb2.mono hb.size)⟩
  | true =>
    rw [hlb] at CI
    have hE := HE1.out hlb
    have HY := Lib.hid (fun (h : b.nums) => show (0 : Int) = E from (hE.trans (if_pos h)).symm)
    have HN := Lib.hid (fun (h : ¬ b.nums) => show (8 : Int) = E from (hE.trans (if_neg h)).symm)
    unfold Bx.nums at HY HN
    clear hE HE0 HE1 hlb
    go_enter Try.func16, Try.ntmps16
    go_wp2_with (first
      | (go_at_call 36; refine (C _).mono ?_; rintro e w1 ⟨rfl, hb⟩; obtain ⟨hb, hz, hc, hf, hlt, hne⟩ := afterK (N := w.heap.size + 1) (w := w) hb (by (repeat' (first | (with_reducible exact Below.refl _ _) | (with_reducible assumption) | (with_reducible refine Below.alloc ?_ ?_ _) | (with_reducible refine Below.drew ?_) | (with_reducible refine below_drewN _ ?_) | (with_reducible refine Below.setCell ?_ ?_ _) | (with_reducible refine Below.frame ?_ _) | go_size | (simp only [size_alloc, size_setCell, size_drew, size_drewN]; omega)))) (by first | go_size | (simp only [size_alloc, size_setCell, size_drew, size_drewN]; omega)); have hq0 : w.heap.size < w1.heap.size := (by omega))
      | (go_at_call 45; refine (CI _ (by (repeat' (first | (with_reducible exact Below.refl _ _) | (with_reducible assumption) | (with_reducible refine Below.alloc ?_ ?_ _) | (with_reducible refine Below.drew ?_) | (with_reducible refine below_drewN _ ?_) | (with_reducible refine Below.setCell ?_ ?_ _) | (with_reducible refine Below.frame ?_ _) | go_size | (simp only [size_alloc, size_setCell, size_drew, size_drewN]; omega))))).mono ?_; rintro e w2 ⟨rfl, hb2⟩; have k7 := (hb2.cell (p := ⟨w.heap.size, 7, none⟩) (by show w.heap.size < _; omega)).trans ((hc _ 7 (Nat.lt_succ_self _)).trans c7); have k8 := (hb2.cell (p := ⟨w.heap.size, 8, none⟩) (by show w.heap.size < _; omega)).trans ((hc _ 8 (Nat.lt_succ_self _)).trans c8); have k9 := (hb2.cell (p := ⟨w.heap.size, 9, none⟩) (by show w.heap.size < _; omega)).trans ((hc _ 9 (Nat.lt_succ_self _)).trans c9); have k26 := (hb2.cell (p := ⟨w.heap.size, 26, none⟩) (by show w.heap.size < _; omega)).trans ((hc _ 26 (Nat.lt_succ_self _)).trans c26); have k27 := (hb2.cell (p := ⟨w.heap.size, 27, none⟩) (by show w.heap.size < _; omega)).trans ((hc _ 27 (Nat.lt_succ_self _)).trans c27)))
    all_goals first
      | (go_returns; have h8 := HN.out (by omega); subst h8; exact ⟨rfl, hb.trans (hb2.mono hb.size)⟩)
      | (go_returns; have h8 := HY.out (by omega); subst h8; exact ⟨rfl, hb.trans (hb2.mono hb.size)⟩)

theorem rCheckBox_any (b : Bx) (v : Value) (w : World) (h16 : b.seed.length = 16) (hv : Ints w v b.co) (hl : b.co.length ≤ 1000000) :
    Calls Try.prog 16 #[b.val v] w fun e w' => e = .returned (.int .i64 (chkBox b)) ∧ Below w.heap.size w w' := by
  unfold chkBox
  by_cases hs : b.s.ok
  · rw [if_neg (not_not_intro hs)]
    exact rCheckBox_ok b v w h16 hs hv hl
  · rw [if_pos hs]
    exact rCheckBox_bad b v w h16 hs
end Go.Proofs.Ytpnfghpcpjpppaa
