/- The reference's Knows and subsets. -/
import Derived.Test.YtpnfghpcpjpppaaRo
namespace Go.Proofs.Ytpnfghpcpjpppaa
open Go.RowKit
set_option linter.unusedVariables false
set_option linter.unusedSimpArgs false

/-- What holds of the worlds of a round of Knows. -/
abbrev kwS (N M : Nat) (k d n m : Int) (g o : Nat) (x : Int) (W w' : World) : Prop :=
  w'.cell? ⟨N, 0, none⟩ = some (.int .u8 k) ∧ w'.cell? ⟨N, 1, none⟩ = some (.int .i64 d) ∧ w'.cell? ⟨N, 2, none⟩ = some (.int .i64 0) ∧ w'.cell? ⟨N, 3, none⟩ = some (.int .u64 0) ∧ w'.cell? ⟨N, 4, none⟩ = some (.int .u64 0) ∧ w'.cell? ⟨N, 5, none⟩ = some (.int .u64 0) ∧
  w'.cell? ⟨M, 0, none⟩ = some (.int .i64 n) ∧ w'.cell? ⟨M, 1, none⟩ = some (.int .i64 m) ∧ w'.cell? ⟨g, o, none⟩ = some (.int .i64 x) ∧ Below W.heap.size W w'
theorem kwS_of {N M : Nat} {k d n m : Int} {g o : Nat} {x : Int} {W w' : World} (h : SxAt N M k d n m W) (h0 : W.cell? ⟨g, o, none⟩ = some (.int .i64 x)) (hb : Below W.heap.size W w') : kwS N M k d n m g o x W w' := by
  have h' := h.below hb (cell_lt' h.1) (cell_lt' h.2.2.2.2.2.2.1)
  obtain ⟨q0, q1, q2, q3, q4, q5, q6, q7⟩ := h'
  exact ⟨q0, q1, q2, q3, q4, q5, q6, q7, (hb.cell (p := ⟨g, o, none⟩) (cell_lt' h0)).trans h0, hb⟩
theorem kwS_below {N M : Nat} {k d n m : Int} {g o : Nat} {x : Int} {W w' : World} (h : kwS N M k d n m g o x W w') : Below W.heap.size W w' := h.2.2.2.2.2.2.2.2.2

set_option maxRecDepth 20000 in
set_option maxHeartbeats 4000000 in
theorem rKnows_any (k d g p q r : Int) (v : Value) (co : List Int) (n m : Int) (w : World) (hs : Sch.ok ⟨k, d, g, p, q, r⟩) (hv : Ints w v co) (hl : co.length ≤ 1000000) (hco : listB d co = true) (hx : subsetB k d n m = true) :
    Calls Try.prog 77 #[.agg #[.int .u8 k, .int .i64 d, .int .i64 g, .int .u64 p, .int .u64 q, .int .u64 r], v, .agg #[.int .i64 n, .int .i64 m]] w fun e w' => e = .returned (.tuple #[.bool (anyIn (membersL d n m) co), .int .i64 0]) ∧ Below w.heap.size w w' := by
  have CV := fun w => rValid_any k d g p q r w
  rw [decide_eq_true hs] at CV
  obtain ⟨k1, k3, d0, d6, rfl, rfl, rfl, rfl⟩ := hs
  dsimp only at k1 k3 d0 d6
  have CI := fun W (h : Below w.heap.size w W) => rIsList_any d v co W d0 d6 (hv.below h) hl
  rw [hco] at CI
  have CX := fun w => rIsSubset_any k d n m w k1 k3 d0 d6
  rw [hx] at CX
  have HM := Lib.hid (listB_mem hco)
  have HA := Lib.hid (any_member (d := d) (n := n) (m := m) (listB_mem hco))
  generalize anyIn (membersL d n m) co = res at *
  obtain ⟨a, cap, rfl, hcap, hmax, hcell⟩ := hv.open
  have HC := Lib.hid hcell
  unfold maxLen at hmax
  have CK := Lib.hid (fun (u : Int) w (h : 0 ≤ u ∧ u < sz d) => rKnown_any k d u n m w k1 k3 d0 d6 h.1 h.2 hx)
  have HSX := Lib.hid (SxAt.new k d n m w 26 112)
  clear hcell hv hx hco
  go_enter Try.func77, Try.ntmps77
  go_upto_region 1 with (fail)
  refine wp_world' ?_
  intro W0 hW0
  have hB0 : Below w.heap.size w W0 := by rw [← hW0]; (repeat' (first | (with_reducible exact Below.refl _ _) | (with_reducible assumption) | (with_reducible refine Below.alloc ?_ ?_ _) | (with_reducible refine Below.drew ?_) | (with_reducible refine below_drewN _ ?_) | (with_reducible refine Below.setCell ?_ ?_ _) | (with_reducible refine Below.frame ?_ _) | go_size | (simp only [size_alloc, size_setCell, size_drew, size_drewN]; omega)))
  have hS0 : SxAt w.heap.size (w.heap.size + 1) k d n m W0 := hW0 ▸ HSX.out
  clear hW0 HSX
  have CI0 := fun W (h : Below W0.heap.size W0 W) => CI W (hB0.trans (h.mono hB0.size))
  have SS : Hid (∀ W, Below W0.heap.size W0 W → SxAt w.heap.size (w.heap.size + 1) k d n m W) := fun W h => hS0.below h (cell_lt' hS0.1) (cell_lt' hS0.2.2.2.2.2.2.1)
  obtain ⟨s0, s1, s2, s3, s4, s5, s6, s7⟩ := hS0
  have hz0 : w.heap.size < W0.heap.size := cell_lt' s0
  have hz1 : w.heap.size + 1 < W0.heap.size := cell_lt' s6
  clear CI
  go_wp2_with fail
  refine (CV _).mono ?_
  rintro e W1 ⟨rfl, hb1⟩
  obtain ⟨t0, t1, t2, t3, t4, t5, t6, t7⟩ := SS.out W1 hb1
  have CI1 := CI0 W1 hb1
  clear s0 s1 s2 s3 s4 s5 s6 s7
  go_wp2_with fail
  refine CI1.mono ?_
  rintro e W2 ⟨rfl, hb2⟩
  have hb02 := hb1.trans (hb2.mono hb1.size)
  obtain ⟨r0, r1, r2, r3, r4, r5, r6, r7⟩ := SS.out W2 hb02
  clear t0 t1 t2 t3 t4 t5 t6 t7 CI1 CI0
  go_wp2_with fail
  refine (CX _).mono ?_
  rintro e W3 ⟨rfl, hb3⟩
  have hb03 := hb02.trans (hb3.mono hb02.size)
  clear r0 r1 r2 r3 r4 r5 r6 r7 hb1 hb2 hb02 hb3 CX CV
  have hBw := Lib.hid (hB0.trans (hb03.mono hB0.size))
  go_wp2_with fail
  go_loopw [8] (fun i wr => ∃ j : Nat, j ≤ co.length ∧ i = .int .i64 j ∧ Below W3.heap.size W3 wr ∧ Hid (∀ t, t < j → memberB d n m (co.getD t 0) = false)) (fun i _ => co.length - (intOf i).toNat)
  case atStart => exact ⟨0, Nat.zero_le _, rfl, Below.refl _ _, fun t ht => absurd ht (Nat.not_lt_zero t)⟩
  case round =>
    obtain ⟨j, hj, rfl, hB, HP⟩ := hrel
    by_cases hlt : j < co.length
    · obtain ⟨gg, off, rfl, e0⟩ := HC.out j hlt
      have hbr := hBw.out.trans (hB.mono hBw.out.size)
      have e0r := (hbr.cell (p := ⟨gg, off + j, none⟩) (cell_lt' e0)).trans e0
      have hin := HM.out (co.getD j 0) (by rw [show co.getD j 0 = co[j] from by simp [List.getD, hlt]]; exact List.getElem_mem _)
      have hsr := SS.out wr (hb03.trans (hB.mono hb03.size))
      have S0 := fun W (h : Below wr.heap.size wr W) => kwS_of hsr e0r h
      have CD := fun W => CK.out (co.getD j 0) W hin
      have HY := Lib.hid (fun (h : memberB d n m (co.getD j 0) = true) => show true = res from by
        rw [← HA.out]
        exact (List.any_eq_true.2 ⟨co.getD j 0, by rw [show co.getD j 0 = co[j] from by simp [List.getD, hlt]]; exact List.getElem_mem _, h⟩).symm)
      have HN := Lib.hid (fun (h : memberB d n m (co.getD j 0) = false) (t : Nat) (ht : t < j + 1) => show memberB d n m (co.getD t 0) = false from by
        by_cases he : t = j
        · subst he; exact h
        · exact HP.out t (by omega))
      have HBR := Lib.hid hbr
      clear HP HC HM e0 hin hsr HA hbr
      generalize co.getD j 0 = x at *
      have hj0 : (0 : Int) ≤ (j : Int) := by omega
      have hj1 : (j : Int) < (co.length : Int) := by omega
      cases hl : memberB d n m x with
      | true =>
        rw [hl] at CD
        have HLL := Lib.hid hl
        clear hl
        go_wp2_with fail
        go_region_held3 (fun w' => kwS w.heap.size (w.heap.size + 1) k d n m gg (off + j) x wr w') (first | exact S0 _ (Below.refl _ _).drew | exact S0 _ hcall)
          (first
            | (go_at_call 111; refine (CD _).mono ?_; rintro e w2 ⟨⟨rr, rfl, hrr⟩, hb⟩; have hcall := (kwS_below (by assumption)).trans (hb.mono (kwS_below (by assumption)).size); clear hb))
        rename_i w2 rr hrr hcall hHeld
        clear hHeld S0 CD
        go_wp2_with fail
        go_returns
        exact ⟨congrArg (fun b => Ending.returned (.tuple #[.bool b, .int .i64 0])) (HY.out HLL.out), HBR.out.trans (hcall.mono HBR.out.size)⟩
      | false =>
        rw [hl] at CD
        have HLL := Lib.hid hl
        clear hl
        go_wp2_with fail
        go_region_held3 (fun w' => kwS w.heap.size (w.heap.size + 1) k d n m gg (off + j) x wr w') (first | exact S0 _ (Below.refl _ _).drew | exact S0 _ hcall)
          (first
            | (go_at_call 111; refine (CD _).mono ?_; rintro e w2 ⟨⟨rr, rfl, hrr⟩, hb⟩; have hcall := (kwS_below (by assumption)).trans (hb.mono (kwS_below (by assumption)).size); clear hb))
        rename_i w2 rr hrr hcall hHeld
        clear hHeld S0 CD
        have hB2 := hB.trans (hcall.mono hB.size)
        clear hcall
        go_wp2_with fail
        go_roundw
        case rel => exact ⟨j + 1, by omega, by go_num, hB2, HN.out HLL.out⟩
        case measure => simp [intOf]; omega
    · obtain rfl : j = co.length := by omega
      have hE := Lib.hid (show false = res from by
        rw [← HA.out]
        cases ha : co.any fun u => memberB d n m u with
        | false => rfl
        | true =>
          obtain ⟨y, hy, hl⟩ := List.any_eq_true.1 ha
          obtain ⟨t, ht, rfl⟩ := List.getElem_of_mem hy
          have := HP.out t ht
          rw [show co.getD t 0 = co[t] from by simp [List.getD, ht]] at this
          rw [this] at hl
          cases hl)
      clear HP HC HM HA
      go_wp2_with fail
      go_returns
      exact ⟨congrArg (fun b => Ending.returned (.tuple #[.bool b, .int .i64 0])) hE.out, hBw.out.trans (hB.mono hBw.out.size)⟩

/-- The reference's subsets. -/
def subE (k d : Int) (xs : List (Int × Int)) : Int := if 64 < xs.length then 4 else if (xs.all fun x => subsetB k d x.1 x.2) = true then 0 else 31

/-- What holds of the worlds of a round of subsets. -/
abbrev sbS (N : Nat) (k d : Int) (g o : Nat) (x y : Int) (W w' : World) : Prop :=
  w'.cell? ⟨N, 0, none⟩ = some (.int .u8 k) ∧ w'.cell? ⟨N, 1, none⟩ = some (.int .i64 d) ∧ w'.cell? ⟨N, 2, none⟩ = some (.int .i64 0) ∧ w'.cell? ⟨N, 3, none⟩ = some (.int .u64 0) ∧ w'.cell? ⟨N, 4, none⟩ = some (.int .u64 0) ∧ w'.cell? ⟨N, 5, none⟩ = some (.int .u64 0) ∧
  w'.cell? ⟨g, o, none⟩ = some (.int .i64 x) ∧ w'.cell? ⟨g, o + 1, none⟩ = some (.int .i64 y) ∧ Below W.heap.size W w'
theorem sbS_below {N : Nat} {k d : Int} {g o : Nat} {x y : Int} {W w' : World} (h : sbS N k d g o x y W w') : Below W.heap.size W w' := h.2.2.2.2.2.2.2.2
set_option maxRecDepth 20000 in
set_option maxHeartbeats 4000000 in
theorem rsubsets_any (k d g p q r : Int) (v : Value) (xs : List (Int × Int)) (w : World) (hs : Sch.ok ⟨k, d, g, p, q, r⟩) (hv : Subs w v xs) (hl : xs.length ≤ 1000000) :
    Calls Try.prog 42 #[.agg #[.int .u8 k, .int .i64 d, .int .i64 g, .int .u64 p, .int .u64 q, .int .u64 r], v] w fun e w' => e = .returned (.int .i64 (subE k d xs)) ∧ Below w.heap.size w w' := by
  obtain ⟨k1, k3, d0, d6, rfl, rfl, rfl, rfl⟩ := hs
  dsimp only at k1 k3 d0 d6
  obtain ⟨a, cap, rfl, hcap, hmax, hcell⟩ := hv.open
  have HC := Lib.hid hcell
  unfold maxLen at hmax
  clear hcell hv
  have CX := Lib.hid (fun n m w => rIsSubset_any k d n m w k1 k3 d0 d6)
  by_cases h64 : 64 < xs.length
  · have HE := Lib.hid (show subE k d xs = 4 from if_pos h64)
    rw [HE.out]
    go_enter Try.func42, Try.ntmps42
    go_wp2
    go_returns
    exact ⟨rfl, by (repeat' (first | (with_reducible exact Below.refl _ _) | (with_reducible assumption) | (with_reducible refine Below.alloc ?_ ?_ _) | (with_reducible refine Below.drew ?_) | (with_reducible refine below_drewN _ ?_) | (with_reducible refine Below.setCell ?_ ?_ _) | (with_reducible refine Below.frame ?_ _) | go_size | (simp only [size_alloc, size_setCell, size_drew, size_drewN]; omega)))⟩
  · have HE := Lib.hid (show subE k d xs = if (xs.all fun x => subsetB k d x.1 x.2) = true then 0 else 31 from if_neg h64)
    generalize subE k d xs = E at *
    have HSX : Hid (∀ W, w.alloc (.cells #[.int .u8 k, .int .i64 d, .int .i64 0, .int .u64 0, .int .u64 0, .int .u64 0] 26) = W → Below w.heap.size w W ∧ W.cell? ⟨w.heap.size, 0, none⟩ = some (.int .u8 k) ∧ W.cell? ⟨w.heap.size, 1, none⟩ = some (.int .i64 d) ∧ W.cell? ⟨w.heap.size, 2, none⟩ = some (.int .i64 0) ∧ W.cell? ⟨w.heap.size, 3, none⟩ = some (.int .u64 0) ∧ W.cell? ⟨w.heap.size, 4, none⟩ = some (.int .u64 0) ∧ W.cell? ⟨w.heap.size, 5, none⟩ = some (.int .u64 0)) := Lib.hid (by
      rintro W rfl
      refine ⟨by (repeat' (first | (with_reducible exact Below.refl _ _) | (with_reducible assumption) | (with_reducible refine Below.alloc ?_ ?_ _) | (with_reducible refine Below.drew ?_) | (with_reducible refine below_drewN _ ?_) | (with_reducible refine Below.setCell ?_ ?_ _) | (with_reducible refine Below.frame ?_ _) | go_size | (simp only [size_alloc, size_setCell, size_drew, size_drewN]; omega))), ?_, ?_, ?_, ?_, ?_, ?_⟩ <;> simp [go_sem])
    go_enter Try.func42, Try.ntmps42
    go_wp2_with fail
    refine wp_world' ?_
    intro W0 hW0
    obtain ⟨hB0, s0, s1, s2, s3, s4, s5⟩ := HSX.out W0 hW0
    clear hW0 HSX
    have hz0 : w.heap.size < W0.heap.size := cell_lt' s0
    go_loopw [5] (fun i wr => ∃ j : Nat, j ≤ xs.length ∧ i = .int .i64 j ∧ Below W0.heap.size W0 wr ∧ Hid (∀ t, t < j → subsetB k d (xs.getD t (0, 0)).1 (xs.getD t (0, 0)).2 = true)) (fun i _ => xs.length - (intOf i).toNat)
    case atStart => exact ⟨0, Nat.zero_le _, rfl, Below.refl _ _, fun t ht => absurd ht (Nat.not_lt_zero t)⟩
    case round =>
      obtain ⟨j, hj, rfl, hB, HP⟩ := hrel
      by_cases hlt : j < xs.length
      · obtain ⟨g, off, rfl, e0, e1⟩ := HC.out j hlt
        have hbr := hB0.trans (hB.mono hB0.size)
        have e0r := (hbr.cell (p := ⟨g, off + j * 2, none⟩) (cell_lt' e0)).trans e0
        have e1r := (hbr.cell (p := ⟨g, off + j * 2 + 1, none⟩) (cell_lt' e0)).trans e1
        have q : ∀ o v, W0.cell? ⟨w.heap.size, o, none⟩ = some v → ∀ W, Below wr.heap.size wr W → W.cell? ⟨w.heap.size, o, none⟩ = some v := fun o v h W hW => ((hB.trans (hW.mono hB.size)).cell (p := ⟨w.heap.size, o, none⟩) hz0).trans h
        have S0 : Hid (∀ W, Below wr.heap.size wr W → sbS w.heap.size k d g (off + j * 2) (xs.getD j (0, 0)).1 (xs.getD j (0, 0)).2 wr W) := fun W h =>
          ⟨q _ _ s0 W h, q _ _ s1 W h, q _ _ s2 W h, q _ _ s3 W h, q _ _ s4 W h, q _ _ s5 W h, (h.cell (p := ⟨g, off + j * 2, none⟩) (cell_lt' e0r)).trans e0r, (h.cell (p := ⟨g, off + j * 2 + 1, none⟩) (cell_lt' e0r)).trans e1r, h⟩
        have CD := fun W => CX.out (xs.getD j (0, 0)).1 (xs.getD j (0, 0)).2 W
        have HN := Lib.hid (fun (h : subsetB k d (xs.getD j (0, 0)).1 (xs.getD j (0, 0)).2 = false) => show 31 = E from by
          rw [HE.out, if_neg]
          intro ha
          have := List.all_eq_true.1 ha xs[j] (List.getElem_mem hlt)
          rw [show xs[j] = xs.getD j (0, 0) from by simp [List.getD, hlt]] at this
          rw [h] at this
          cases this)
        have HY := Lib.hid (fun (h : subsetB k d (xs.getD j (0, 0)).1 (xs.getD j (0, 0)).2 = true) (t : Nat) (ht : t < j + 1) => show subsetB k d (xs.getD t (0, 0)).1 (xs.getD t (0, 0)).2 = true from by
          by_cases he : t = j
          · subst he; exact h
          · exact HP.out t (by omega))
        have HBR := Lib.hid hbr
        clear HP HC e0 e1 hbr HE q s0 s1 s2 s3 s4 s5 e0r e1r CX
        generalize (xs.getD j (0, 0)).1 = x at *
        generalize (xs.getD j (0, 0)).2 = y at *
        have hj0 : (0 : Int) ≤ (j : Int) := by omega
        have hj1 : (j : Int) < (xs.length : Int) := by omega
        cases hl : subsetB k d x y with
        | false =>
          rw [hl] at CD
          have HLL := Lib.hid hl
          clear hl
          go_wp2_with fail
          go_region_held3 (fun w' => sbS w.heap.size k d g (off + j * 2) x y wr w') (first | exact S0.out _ (Below.refl _ _).drew | exact S0.out _ hcall)
            (first
              | (go_at_call 75; refine (CD _).mono ?_; rintro e w2 ⟨rfl, hb⟩; have hcall := (sbS_below (by assumption)).trans (hb.mono (sbS_below (by assumption)).size); clear hb))
          rename_i w2 hcall hHeld
          clear hHeld S0 CD
          go_wp2_with fail
          go_returns
          exact ⟨ret_i (HN.out HLL.out), HBR.out.trans (hcall.mono HBR.out.size)⟩
        | true =>
          rw [hl] at CD
          have HLL := Lib.hid hl
          clear hl
          go_wp2_with fail
          go_region_held3 (fun w' => sbS w.heap.size k d g (off + j * 2) x y wr w') (first | exact S0.out _ (Below.refl _ _).drew | exact S0.out _ hcall)
            (first
              | (go_at_call 75; refine (CD _).mono ?_; rintro e w2 ⟨rfl, hb⟩; have hcall := (sbS_below (by assumption)).trans (hb.mono (sbS_below (by assumption)).size); clear hb))
          rename_i w2 hcall hHeld
          clear hHeld S0 CD
          have hB2 := hB.trans (hcall.mono hB.size)
          clear hcall
          go_wp2_with fail
          go_roundw
          case rel => exact ⟨j + 1, by omega, by go_num, hB2, HY.out HLL.out⟩
          case measure => simp [intOf]; omega
      · obtain rfl : j = xs.length := by omega
        have hE := Lib.hid (show (0 : Int) = E from by
          rw [HE.out, if_pos]
          rw [List.all_eq_true]
          intro x hx
          obtain ⟨t, ht, rfl⟩ := List.getElem_of_mem hx
          have := HP.out t ht
          rwa [show xs.getD t (0, 0) = xs[t] from by simp [List.getD, ht]] at this)
        clear HP HC HE
        go_wp2_with fail
        go_returns
        exact ⟨ret_i hE.out, hB0.trans (hB.mono hB0.size)⟩
end Go.Proofs.Ytpnfghpcpjpppaa
