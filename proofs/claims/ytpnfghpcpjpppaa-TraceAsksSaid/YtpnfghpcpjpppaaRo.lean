/- The reference's Known and Knows. -/
import Derived.Test.YtpnfghpcpjpppaaRn
namespace Go.Proofs.Ytpnfghpcpjpppaa
open Go.RowKit
set_option linter.unusedVariables false
set_option linter.unusedSimpArgs false

theorem rLabelsOf_any (k d u : Int) (w : World) (k1 : 1 ≤ k) (k3 : k ≤ 3) (d0 : 0 ≤ d) (d6 : d ≤ 6) (u0 : 0 ≤ u) (u1 : u < sz d) :
    Calls Try.prog 131 #[.agg #[.int .u8 k, .int .i64 d, .int .i64 0, .int .u64 0, .int .u64 0, .int .u64 0], .int .i64 u] w fun e w' => ∃ v, e = .returned v ∧ w'.ownsRow w.heap.size 112 2 v (labelsL k d u).length (subsV (labelsL k d u)) ∧ Below w.heap.size w w' := by
  by_cases hk : k = 1
  · subst hk
    exact rLabelsOf_1 d u w d0 d6 u0 u1
  · exact rLabelsOf_2 k d u w (by omega) k3 d0 d6 u0 u1

/-- The cells of a scheme and of a subset in the blocks N and M. -/
def SxAt (N M : Nat) (k d n m : Int) (w : World) : Prop :=
  w.cell? ⟨N, 0, none⟩ = some (.int .u8 k) ∧ w.cell? ⟨N, 1, none⟩ = some (.int .i64 d) ∧ w.cell? ⟨N, 2, none⟩ = some (.int .i64 0) ∧ w.cell? ⟨N, 3, none⟩ = some (.int .u64 0) ∧ w.cell? ⟨N, 4, none⟩ = some (.int .u64 0) ∧ w.cell? ⟨N, 5, none⟩ = some (.int .u64 0) ∧
  w.cell? ⟨M, 0, none⟩ = some (.int .i64 n) ∧ w.cell? ⟨M, 1, none⟩ = some (.int .i64 m)
theorem SxAt.below {N M B : Nat} {k d n m : Int} {w w' : World} (h : SxAt N M k d n m w) (hb : Below B w w') (hN : N < B) (hM : M < B) : SxAt N M k d n m w' := by
  obtain ⟨h0, h1, h2, h3, h4, h5, h6, h7⟩ := h
  exact ⟨(hb.cell (p := ⟨N, 0, none⟩) hN).trans h0, (hb.cell (p := ⟨N, 1, none⟩) hN).trans h1, (hb.cell (p := ⟨N, 2, none⟩) hN).trans h2, (hb.cell (p := ⟨N, 3, none⟩) hN).trans h3, (hb.cell (p := ⟨N, 4, none⟩) hN).trans h4, (hb.cell (p := ⟨N, 5, none⟩) hN).trans h5, (hb.cell (p := ⟨M, 0, none⟩) hM).trans h6, (hb.cell (p := ⟨M, 1, none⟩) hM).trans h7⟩
theorem SxAt.new (k d n m : Int) (w : World) (T T2 : TypeId) : SxAt w.heap.size (w.heap.size + 1) k d n m ((w.alloc (.cells #[.int .u8 k, .int .i64 d, .int .i64 0, .int .u64 0, .int .u64 0, .int .u64 0] T)).alloc (.cells #[.int .i64 n, .int .i64 m] T2)) := by
  unfold SxAt
  refine ⟨?_, ?_, ?_, ?_, ?_, ?_, ?_, ?_⟩ <;> simp [go_sem]

/-- What holds of the worlds of a round of Known. -/
abbrev knS (N M : Nat) (k d n m : Int) (g o : Nat) (x y : Int) (W w' : World) : Prop :=
  w'.cell? ⟨N, 0, none⟩ = some (.int .u8 k) ∧ w'.cell? ⟨N, 1, none⟩ = some (.int .i64 d) ∧ w'.cell? ⟨N, 2, none⟩ = some (.int .i64 0) ∧ w'.cell? ⟨N, 3, none⟩ = some (.int .u64 0) ∧ w'.cell? ⟨N, 4, none⟩ = some (.int .u64 0) ∧ w'.cell? ⟨N, 5, none⟩ = some (.int .u64 0) ∧
  w'.cell? ⟨M, 0, none⟩ = some (.int .i64 n) ∧ w'.cell? ⟨M, 1, none⟩ = some (.int .i64 m) ∧ w'.cell? ⟨g, o, none⟩ = some (.int .i64 x) ∧ w'.cell? ⟨g, o + 1, none⟩ = some (.int .i64 y) ∧ Below W.heap.size W w'
theorem knS_of {N M : Nat} {k d n m : Int} {g o : Nat} {x y : Int} {W w' : World} (h : SxAt N M k d n m W) (h0 : W.cell? ⟨g, o, none⟩ = some (.int .i64 x)) (h1 : W.cell? ⟨g, o + 1, none⟩ = some (.int .i64 y)) (hb : Below W.heap.size W w') : knS N M k d n m g o x y W w' := by
  have h' := h.below hb (cell_lt' h.1) (cell_lt' h.2.2.2.2.2.2.1)
  obtain ⟨q0, q1, q2, q3, q4, q5, q6, q7⟩ := h'
  exact ⟨q0, q1, q2, q3, q4, q5, q6, q7, (hb.cell (p := ⟨g, o, none⟩) (cell_lt' h0)).trans h0, (hb.cell (p := ⟨g, o + 1, none⟩) (cell_lt' h1)).trans h1, hb⟩
theorem knS_below {N M : Nat} {k d n m : Int} {g o : Nat} {x y : Int} {W w' : World} (h : knS N M k d n m g o x y W w') : Below W.heap.size W w' := h.2.2.2.2.2.2.2.2.2.2

set_option maxRecDepth 20000 in
set_option maxHeartbeats 4000000 in
theorem rKnown_any (k d u n m : Int) (w : World) (k1 : 1 ≤ k) (k3 : k ≤ 3) (d0 : 0 ≤ d) (d6 : d ≤ 6) (u0 : 0 ≤ u) (u1 : u < sz d) (hx : subsetB k d n m = true) :
    Calls Try.prog 111 #[.agg #[.int .u8 k, .int .i64 d, .int .i64 0, .int .u64 0, .int .u64 0, .int .u64 0], .int .i64 u, .agg #[.int .i64 n, .int .i64 m]] w fun e w' => (∃ r : Int, e = .returned (.int .i64 r) ∧ decide (0 ≤ r) = memberB d n m u) ∧ Below w.heap.size w w' := by
  have CL := fun w => rLabelsOf_any k d u w k1 k3 d0 d6 u0 u1
  have HK := Lib.hid (know_eq k1 k3 d0 d6 hx u0 u1)
  have HIN := Lib.hid (labels_in k1 k3 d0 d6 u0 u1)
  have hlen := labels_len k1 k3 d0 d6 u0 u1
  obtain ⟨n1, n7, m0, m7⟩ := subset_bd d0 d6 hx
  generalize memberB d n m u = r at *
  generalize labelsL k d u = L at *
  have HSX := Lib.hid (SxAt.new k d n m w 26 112)
  clear hx
  go_enter Try.func111, Try.ntmps111
  go_wp2_with fail
  refine calls_world' ?_
  intro W0 hW0
  have hB0 : Below w.heap.size w W0 := by rw [← hW0]; (repeat' (first | (with_reducible exact Below.refl _ _) | (with_reducible assumption) | (with_reducible refine Below.alloc ?_ ?_ _) | (with_reducible refine Below.drew ?_) | (with_reducible refine below_drewN _ ?_) | (with_reducible refine Below.setCell ?_ ?_ _) | (with_reducible refine Below.frame ?_ _) | go_size | (simp only [size_alloc, size_setCell, size_drew, size_drewN]; omega)))
  have hS0 : SxAt w.heap.size (w.heap.size + 1) k d n m W0 := hW0 ▸ HSX.out
  clear hW0 HSX
  refine (CL _).mono ?_
  rintro e W1 ⟨v, rfl, hown, hb⟩
  have hB1 := Lib.hid (hB0.trans (hb.mono hB0.size))
  have hS1 := hS0.below hb (cell_lt' hS0.1) (cell_lt' hS0.2.2.2.2.2.2.1)
  have HR := (show Subs W1 v L from Reads.of_owns hown)
  obtain ⟨a, cap, rfl, hcap, hmax, hcell⟩ := HR.open
  have HC := Lib.hid hcell
  have HS1 := Lib.hid hS1
  unfold maxLen at hmax
  clear hcell hown HR hb hB0 hS0 hS1 CL
  go_wp2_with fail
  go_loopw [8] (fun i wr => ∃ j : Nat, j ≤ L.length ∧ i = .int .i64 j ∧ Below W1.heap.size W1 wr ∧ Hid (∀ t, t < j → leadsB k (L.getD t (0, 0)).1 (L.getD t (0, 0)).2 n m = false)) (fun i _ => L.length - (intOf i).toNat)
  case atStart => exact ⟨0, Nat.zero_le _, rfl, Below.refl _ _, fun t ht => absurd ht (Nat.not_lt_zero t)⟩
  case round =>
    obtain ⟨j, hj, rfl, hB, HP⟩ := hrel
    by_cases hlt : j < L.length
    · obtain ⟨g, off, rfl, e0, e1⟩ := HC.out j hlt
      have hg := cell_lt' e0
      have e0r := (hB.cell (p := ⟨g, off + j * 2, none⟩) hg).trans e0
      have e1r := (hB.cell (p := ⟨g, off + j * 2 + 1, none⟩) hg).trans e1
      have hin := HIN.out (L.getD j (0, 0)) (by rw [show L.getD j (0, 0) = L[j] from by simp [List.getD, hlt]]; exact List.getElem_mem _)
      have hsr := HS1.out.below hB (cell_lt' HS1.out.1) (cell_lt' HS1.out.2.2.2.2.2.2.1)
      have S0 := fun W (h : Below wr.heap.size wr W) => knS_of hsr e0r e1r h
      have CD := fun W => rleads_any k d (L.getD j (0, 0)).1 (L.getD j (0, 0)).2 n m W hin.1 hin.2.1 hin.2.2.1 hin.2.2.2 m0 m7
      have HY := Lib.hid (fun (h : leadsB k (L.getD j (0, 0)).1 (L.getD j (0, 0)).2 n m = true) => show decide (0 ≤ (j : Int)) = r from by
        rw [← HK.out, decide_eq_true (by omega)]
        exact (anyLeads_iff.2 ⟨L.getD j (0, 0), by rw [show L.getD j (0, 0) = L[j] from by simp [List.getD, hlt]]; exact List.getElem_mem _, h⟩).symm)
      have HN := Lib.hid (fun (h : leadsB k (L.getD j (0, 0)).1 (L.getD j (0, 0)).2 n m = false) (t : Nat) (ht : t < j + 1) => show leadsB k (L.getD t (0, 0)).1 (L.getD t (0, 0)).2 n m = false from by
        by_cases he : t = j
        · subst he; exact h
        · exact HP.out t (by omega))
      have HSR := Lib.hid hsr
      clear HP HC HIN HS1 e0 e1 hin hsr HK
      generalize (L.getD j (0, 0)).1 = x at *
      generalize (L.getD j (0, 0)).2 = y at *
      have hj0 : (0 : Int) ≤ (j : Int) := by omega
      have hj1 : (j : Int) < (L.length : Int) := by omega
      cases hl : leadsB k x y n m with
      | true =>
        rw [hl] at CD
        have HLL := Lib.hid hl
        clear hl
        go_wp2_with fail
        go_region_held3 (fun w' => knS w.heap.size (w.heap.size + 1) k d n m g (off + j * 2) x y wr w') (first | exact S0 _ (Below.refl _ _).drew | exact S0 _ hcall)
          (first
            | (go_at_call 132; refine (CD _).mono ?_; rintro e w2 ⟨rfl, hb⟩; have hcall := (knS_below (by assumption)).trans (hb.mono (knS_below (by assumption)).size); clear hb))
        rename_i w2 hcall hHeld
        clear hHeld S0 CD
        go_wp2_with fail
        go_returns
        exact ⟨⟨_, rfl, HY.out HLL.out⟩, hB1.out.trans ((hB.trans (hcall.mono hB.size)).mono hB1.out.size)⟩
      | false =>
        rw [hl] at CD
        have HLL := Lib.hid hl
        clear hl
        go_wp2_with fail
        go_region_held3 (fun w' => knS w.heap.size (w.heap.size + 1) k d n m g (off + j * 2) x y wr w') (first | exact S0 _ (Below.refl _ _).drew | exact S0 _ hcall)
          (first
            | (go_at_call 132; refine (CD _).mono ?_; rintro e w2 ⟨rfl, hb⟩; have hcall := (knS_below (by assumption)).trans (hb.mono (knS_below (by assumption)).size); clear hb))
        rename_i w2 hcall hHeld
        clear hHeld S0 CD
        have hB2 := hB.trans (hcall.mono hB.size)
        clear hcall
        go_wp2_with fail
        go_roundw
        case rel => exact ⟨j + 1, by omega, by go_num, hB2, HN.out HLL.out⟩
        case measure => simp [intOf]; omega
    · obtain rfl : j = L.length := by omega
      have hE := Lib.hid (show decide ((0 : Int) ≤ -1) = r from by
        rw [← HK.out]
        cases ha : anyLeads k L n m with
        | false => rfl
        | true =>
          obtain ⟨y, hy, hl⟩ := anyLeads_iff.1 ha
          obtain ⟨t, ht, rfl⟩ := List.getElem_of_mem hy
          have := HP.out t ht
          rw [show L.getD t (0, 0) = L[t] from by simp [List.getD, ht]] at this
          rw [this] at hl
          cases hl)
      clear HP HC HIN HK
      go_wp2_with fail
      go_returns
      exact ⟨⟨_, rfl, hE.out⟩, hB1.out.trans (hB.mono hB1.out.size)⟩
end Go.Proofs.Ytpnfghpcpjpppaa
