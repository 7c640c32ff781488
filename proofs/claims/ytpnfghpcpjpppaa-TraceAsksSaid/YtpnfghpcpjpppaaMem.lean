/- member, members, enter, Members: the members of a subset. -/
import Derived.Test.YtpnfghpcpjpppaaCut
import Derived.Test.YtpnfghpcpjpppaaSl
namespace Go.Proofs.Ytpnfghpcpjpppaa
open Go.RowKit
set_option linter.unusedVariables false
set_option linter.unusedSimpArgs false

/-- Is u a member of (n, m) in the tree of the depth d? -/
def memberB (d n m u : Int) : Bool := belowB (sz d + u) n && !belowB (sz d + u) m

set_option maxHeartbeats 1000000 in
theorem member_any (k d s n m u : Int) (w : World) (d0 : 0 ≤ d) (d6 : d ≤ 6) (n1 : n ≤ 127) (m1 : m ≤ 127) (u0 : 0 ≤ u) (u1 : u < sz d) :
    Calls Try.prog 126 #[.agg #[.int .u8 k, .int .i64 d, .int .i64 s], .agg #[.int .i64 n, .int .i64 m], .int .i64 u] w fun e w' => e = .returned (.bool (memberB d n m u)) ∧ Below w.heap.size w w' := by
  obtain ⟨z1, z2⟩ := sz_bd d d0 d6
  have CL := fun w => leaf_any k d s u w d0 d6 u0 (by omega)
  have CB1 := fun w => below_any (sz d + u) n w (by omega) n1
  have CB2 := fun w => below_any (sz d + u) m w (by omega) m1
  unfold memberB
  generalize sz d + u = l at *
  cases hb : belowB l n with
  | true =>
    rw [hb] at CB1
    clear hb
    go_enter Try.func126, Try.ntmps126
    go_wp2_with (go_at_call 142; refine (CL _).mono ?_; rintro e w1 ⟨rfl, hb⟩; obtain ⟨hb, hz, hc, hf, hlt, hne⟩ := afterK (N := w.heap.size + 1 + 1) (w := w) hb (by (repeat' (first | (with_reducible exact Below.refl _ _) | (with_reducible assumption) | (with_reducible refine Below.alloc ?_ ?_ _) | (with_reducible refine Below.drew ?_) | (with_reducible refine below_drewN _ ?_) | (with_reducible refine Below.setCell ?_ ?_ _) | (with_reducible refine Below.frame ?_ _) | go_size | (simp only [size_alloc, size_setCell, size_drew, size_drewN]; omega)))) (by first | go_size | (simp only [size_alloc, size_setCell, size_drew, size_drewN]; omega)); have hq0 : w.heap.size < w1.heap.size := (by omega); have hq1 : w.heap.size + 1 < w1.heap.size := (by omega))
    refine (CB1 _).mono ?_
    rintro e w2 ⟨rfl, rfl⟩
    go_wp2_with (go_at_call 137; refine (CB2 _).mono ?_; rintro e w1 ⟨rfl, rfl⟩)
    go_returns
    exact ⟨rfl, by (repeat' (first | (with_reducible exact Below.refl _ _) | (with_reducible assumption) | (with_reducible refine Below.alloc ?_ ?_ _) | (with_reducible refine Below.drew ?_) | (with_reducible refine below_drewN _ ?_) | (with_reducible refine Below.setCell ?_ ?_ _) | (with_reducible refine Below.frame ?_ _) | go_size | (simp only [size_alloc, size_setCell, size_drew, size_drewN]; omega)))⟩
  | false =>
    rw [hb] at CB1
    clear hb
    go_enter Try.func126, Try.ntmps126
    go_wp2_with (go_at_call 142; refine (CL _).mono ?_; rintro e w1 ⟨rfl, hb⟩; obtain ⟨hb, hz, hc, hf, hlt, hne⟩ := afterK (N := w.heap.size + 1 + 1) (w := w) hb (by (repeat' (first | (with_reducible exact Below.refl _ _) | (with_reducible assumption) | (with_reducible refine Below.alloc ?_ ?_ _) | (with_reducible refine Below.drew ?_) | (with_reducible refine below_drewN _ ?_) | (with_reducible refine Below.setCell ?_ ?_ _) | (with_reducible refine Below.frame ?_ _) | go_size | (simp only [size_alloc, size_setCell, size_drew, size_drewN]; omega)))) (by first | go_size | (simp only [size_alloc, size_setCell, size_drew, size_drewN]; omega)); have hq0 : w.heap.size < w1.heap.size := (by omega); have hq1 : w.heap.size + 1 < w1.heap.size := (by omega))
    refine (CB1 _).mono ?_
    rintro e w2 ⟨rfl, rfl⟩
    go_wp2_with (fail)
    go_returns
    exact ⟨rfl, by (repeat' (first | (with_reducible exact Below.refl _ _) | (with_reducible assumption) | (with_reducible refine Below.alloc ?_ ?_ _) | (with_reducible refine Below.drew ?_) | (with_reducible refine below_drewN _ ?_) | (with_reducible refine Below.setCell ?_ ?_ _) | (with_reducible refine Below.frame ?_ _) | go_size | (simp only [size_alloc, size_setCell, size_drew, size_drewN]; omega)))⟩

/-- The members of (n, m). -/
def membersL (d n m : Int) : List Int := ((List.range (sz d).toNat).map fun u : Nat => (u : Int)).filter fun u => memberB d n m u
def membersTo (d n m : Int) (k : Nat) : List Int := ((List.range k).map fun u : Nat => (u : Int)).filter fun u => memberB d n m u
theorem membersTo_succ (d n m : Int) (k : Nat) : membersTo d n m (k + 1) = membersTo d n m k ++ (if memberB d n m k = true then [(k : Int)] else []) := by
  unfold membersTo
  rw [List.range_succ, List.map_append, List.filter_append]
  congr 1
  by_cases h : memberB d n m k = true <;> simp [List.filter_cons, h]
theorem membersTo_len (d n m : Int) (k : Nat) : (membersTo d n m k).length ≤ k := by
  unfold membersTo
  refine Nat.le_trans (List.length_filter_le _ _) ?_
  simp

theorem Try.info3 : (Try.prog.info? 3).map (fun i => (i.zero, i.size, i.bytes)) = some (some (.int .i64 0), 1, 8) := by kernel_rfl

set_option maxHeartbeats 2000000 in
theorem members_any (k d s n m : Int) (w : World) (d0 : 0 ≤ d) (d6 : d ≤ 6) (n1 : n ≤ 127) (m1 : m ≤ 127) :
    Calls Try.prog 99 #[.agg #[.int .u8 k, .int .i64 d, .int .i64 s], .agg #[.int .i64 n, .int .i64 m]] w fun e w' => ∃ v, e = .returned v ∧ w'.ownsRow w.heap.size 3 1 v (membersL d n m).length ((membersL d n m).map (Value.int .i64)) ∧ Below w.heap.size w w' := by
  obtain ⟨z1, z2⟩ := sz_bd d d0 d6
  have CS := fun w => size_sz k d s w d0 d6
  have hL : membersL d n m = membersTo d n m (sz d).toNat := rfl
  rw [hL]
  clear hL
  have CM := fun (u : Int) w u0 u1 => member_any k d s n m u w d0 d6 n1 m1 u0 u1
  obtain ⟨N, hN⟩ : ∃ N : Nat, sz d = N := ⟨(sz d).toNat, by omega⟩
  rw [hN] at CS CM z1 z2 ⊢
  simp only [Int.toNat_natCast]
  clear hN
  obtain ⟨i0, hi, iz0, iz1, iz2⟩ := info_parts Try.info3
  go_enter Try.func99, Try.ntmps99
  go_wp2_with (go_at_call 125; refine (CS _).mono ?_; rintro e w1 ⟨rfl, hb⟩; obtain ⟨hb, hz, hc, hf, hlt, hne⟩ := afterK (N := w.heap.size + 1 + 1) (w := w) hb (by (repeat' (first | (with_reducible exact Below.refl _ _) | (with_reducible assumption) | (with_reducible refine Below.alloc ?_ ?_ _) | (with_reducible refine Below.drew ?_) | (with_reducible refine below_drewN _ ?_) | (with_reducible refine Below.setCell ?_ ?_ _) | (with_reducible refine Below.frame ?_ _) | go_size | (simp only [size_alloc, size_setCell, size_drew, size_drewN]; omega)))) (by first | go_size | (simp only [size_alloc, size_setCell, size_drew, size_drewN]; omega)); have hq0 : w.heap.size < w1.heap.size := (by omega); have hq1 : w.heap.size + 1 < w1.heap.size := (by omega))
  go_loopw [5, 9] (fun v i wr => ∃ j : Nat, j ≤ N ∧ i = .int .i64 j ∧ wr.ownsRow (w.heap.size + 1 + 1) 3 1 v (membersTo d n m j).length ((membersTo d n m j).map (Value.int .i64)) ∧ Below (w.heap.size + 1 + 1) w1 wr ∧ Below w.heap.size w wr)
    (fun _ i _ => N - (intOf i).toNat)
  case atStart => exact ⟨0, Nat.zero_le _, rfl, World.ownsRow_nil _ _ _ _, Below.refl _ _, hb⟩
  case round =>
    obtain ⟨j, hj, rfl, hown, hB2, hB⟩ := hrel
    have hcr : ∀ b o, b < w.heap.size + 1 + 1 → wr.cell? ⟨b, o, none⟩ = w1.cell? ⟨b, o, none⟩ := fun b o h => hB2.cell (p := ⟨b, o, none⟩) h
    have hzr : w.heap.size + 1 + 1 ≤ wr.heap.size := Nat.le_trans hz hB2.size
    have hlen := membersTo_len d n m j
    have hsucc := Lib.hid (membersTo_succ d n m j)
    by_cases hlt : j < N
    · have C := fun w => CM j w (by omega) (by omega)
      cases hm : memberB d n m j with
      | true =>
        rw [hm] at C
        have HM : Hid (memberB d n m j = true) := hm
        clear hm
        generalize hL : membersTo d n m j = L at *
        have HL := Lib.hid hL
        clear hL
        go_wp2_with (first
          | (go_at_call 126; refine (C _).mono ?_; rintro e w2 ⟨rfl, hb2⟩; have hown := ownsRow_below hown hb2; have hB2 := hB2.trans (hb2.mono hzr); have hB := hB.trans (hb2.mono hB.size); have hz2 := hb2.size)
          | (at_builtin; refine wpList_append_own _ rfl _ _ 35 rfl (w.heap.size + 1 + 1) 3 i0 (.int .i64 0) 1 8 Try.underlying35 hi iz0 iz1 iz2 rfl (by decide) _ _ _ rfl (hown.alloc _) ⟨_, 0, none⟩ 1 1 [.int .i64 (j : Int)] rfl rfl (cell_one_new _ _ _) (by intro u hu; simp at hu; subst hu; rfl) (by unfold maxLen; omega) (by omega) (by first | omega | (simp; omega)) ?_; intro v' w3 hown3 hgrow3 hnil3))
        go_roundw
        case rel =>
          refine ⟨j + 1, hlt, by go_num, ?_, app_below hB2 hown (Nat.le_refl _) (by omega) hgrow3, app_below hB hown (by omega) (by omega) hgrow3⟩
          rw [hsucc.out, if_pos HM.out, List.length_append, List.map_append]
          exact hown3
        case measure => simp [intOf]; omega
      | false =>
        rw [hm] at C
        have HM : Hid (memberB d n m j = false) := hm
        clear hm
        generalize hL : membersTo d n m j = L at *
        have HL := Lib.hid hL
        clear hL
        go_wp2_with (go_at_call 126; refine (C _).mono ?_; rintro e w2 ⟨rfl, hb2⟩; have hown := ownsRow_below hown hb2; have hB2 := hB2.trans (hb2.mono hzr); have hB := hB.trans (hb2.mono hB.size); have hz2 := hb2.size)
        go_roundw
        case rel =>
          refine ⟨j + 1, hlt, by go_num, ?_, hB2, hB⟩
          rw [hsucc.out, if_neg (by rw [HM.out]; simp), List.append_nil]
          exact hown
        case measure => simp [intOf]; omega
    · obtain rfl : j = N := by omega
      generalize hL : membersTo d n m j = L at *
      have HL := Lib.hid hL
      clear hL
      go_wp2_with fail
      go_returns
      have ho := ownsRow_mono (base' := w.heap.size) hown (by omega)
      refine ⟨_, rfl, ?_, hB⟩
      rw [HL.out]
      exact ho

/-- The error of cover.enter. -/
def enterE (s : Sch) (xs : List (Int × Int)) : Int := if s.ok then (if (xs.all fun x => subsetB s.k s.d x.1 x.2) = true then 0 else 31) else 30

set_option maxHeartbeats 2000000 in
theorem enter_bad (k d g p q r : Int) (v : Value) (xs : List (Int × Int)) (w : World) (hs : ¬ Sch.ok ⟨k, d, g, p, q, r⟩) :
    Calls Try.prog 84 #[.agg #[.int .u8 k, .int .i64 d, .int .i64 g, .int .u64 p, .int .u64 q, .int .u64 r], v] w fun e w' => e = .returned (.tuple #[.agg #[.int .u8 0, .int .i64 0, .int .i64 0], .int .i64 30]) ∧ Below w.heap.size w w' := by
  have CT := fun w => treeOf_bad k d g p q r w hs
  clear hs
  go_enter Try.func84, Try.ntmps84
  go_wp2_with (go_at_call 67; refine (CT _).mono ?_; rintro e w1 ⟨rfl, hb⟩; obtain ⟨hb, hz, hc, hf, hlt, hne⟩ := afterK (N := w.heap.size + 1 + 1) (w := w) hb (by (repeat' (first | (with_reducible exact Below.refl _ _) | (with_reducible assumption) | (with_reducible refine Below.alloc ?_ ?_ _) | (with_reducible refine Below.drew ?_) | (with_reducible refine below_drewN _ ?_) | (with_reducible refine Below.setCell ?_ ?_ _) | (with_reducible refine Below.frame ?_ _) | go_size | (simp only [size_alloc, size_setCell, size_drew, size_drewN]; omega)))) (by first | go_size | (simp only [size_alloc, size_setCell, size_drew, size_drewN]; omega)); have hq0 : w.heap.size < w1.heap.size := (by omega); have hq1 : w.heap.size + 1 < w1.heap.size := (by omega))
  refine bodyPost_ret (v := .tuple #[.agg #[.int .u8 0, .int .i64 0, .int .i64 0], .int .i64 30]) (by simp [results, Try.results84, go_sem, *]) rfl ?_
  exact ⟨rfl, by (repeat' (first | (with_reducible exact Below.refl _ _) | (with_reducible assumption) | (with_reducible refine Below.alloc ?_ ?_ _) | (with_reducible refine Below.drew ?_) | (with_reducible refine below_drewN _ ?_) | (with_reducible refine Below.setCell ?_ ?_ _) | (with_reducible refine Below.frame ?_ _) | go_size | (simp only [size_alloc, size_setCell, size_drew, size_drewN]; omega)))⟩

set_option maxHeartbeats 2000000 in
theorem enter_ok (k d g p q r : Int) (v : Value) (xs : List (Int × Int)) (w : World) (hs : Sch.ok ⟨k, d, g, p, q, r⟩) (hv : Subs w v xs) (hall : (xs.all fun x => subsetB k d x.1 x.2) = true) :
    Calls Try.prog 84 #[.agg #[.int .u8 k, .int .i64 d, .int .i64 g, .int .u64 p, .int .u64 q, .int .u64 r], v] w fun e w' => e = .returned (.tuple #[.agg #[.int .u8 k, .int .i64 d, .int .i64 (stride d)], .int .i64 0]) ∧ Below w.heap.size w w' := by
  have CT := fun w => treeOf_ok k d g p q r w hs
  obtain ⟨k1, k3, d0, d6, -⟩ := hs
  dsimp only at k1 k3 d0 d6
  have CS := fun (n m : Int) w => subset_any k d n m w k1 k3 d0 d6
  obtain ⟨a, cap, rfl, hcap, hmax, hcell⟩ := hv.open
  clear hv
  have HA := Lib.hid hall
  clear hall
  unfold maxLen at hmax
  go_enter Try.func84, Try.ntmps84
  go_wp2_with (go_at_call 67; refine (CT _).mono ?_; rintro e w1 ⟨rfl, hb⟩; obtain ⟨hb, hz, hc, hf, hlt, hne⟩ := afterK (N := w.heap.size + 1 + 1) (w := w) hb (by (repeat' (first | (with_reducible exact Below.refl _ _) | (with_reducible assumption) | (with_reducible refine Below.alloc ?_ ?_ _) | (with_reducible refine Below.drew ?_) | (with_reducible refine below_drewN _ ?_) | (with_reducible refine Below.setCell ?_ ?_ _) | (with_reducible refine Below.frame ?_ _) | go_size | (simp only [size_alloc, size_setCell, size_drew, size_drewN]; omega)))) (by first | go_size | (simp only [size_alloc, size_setCell, size_drew, size_drewN]; omega)); have hq0 : w.heap.size < w1.heap.size := (by omega); have hq1 : w.heap.size + 1 < w1.heap.size := (by omega))
  have hcx : ∀ i, i < xs.length → subsetB k d (xs.getD i (0, 0)).1 (xs.getD i (0, 0)).2 = true := fun i hi => by
    have := List.all_eq_true.1 HA.out (xs.getD i (0, 0)) (by rw [show xs.getD i (0, 0) = xs[i] from by simp [List.getD, hi]]; exact List.getElem_mem hi)
    simpa using this
  have HX := Lib.hid hcx
  clear hcx
  have HC := Lib.hid hcell
  clear hcell
  have hb0 : Below w.heap.size w (w1.alloc (.cells #[.int .u8 k, .int .i64 d, .int .i64 (stride d)] 124)) := by (repeat' (first | (with_reducible exact Below.refl _ _) | (with_reducible assumption) | (with_reducible refine Below.alloc ?_ ?_ _) | (with_reducible refine Below.drew ?_) | (with_reducible refine below_drewN _ ?_) | (with_reducible refine Below.setCell ?_ ?_ _) | (with_reducible refine Below.frame ?_ _) | go_size | (simp only [size_alloc, size_setCell, size_drew, size_drewN]; omega)))
  obtain ⟨W1, hW1⟩ : ∃ W1, w1.alloc (.cells #[.int .u8 k, .int .i64 d, .int .i64 (stride d)] 124) = W1 := ⟨_, rfl⟩
  have hsz : w1.heap.size + 1 ≤ W1.heap.size := by rw [← hW1]; simp
  have hq : w.heap.size < w1.heap.size := by omega
  have t0 : W1.cell? ⟨w1.heap.size, 0, none⟩ = some (.int .u8 k) := by rw [← hW1]; simp [go_sem]
  have t1 : W1.cell? ⟨w1.heap.size, 1, none⟩ = some (.int .i64 d) := by rw [← hW1]; simp [go_sem]
  have t2 : W1.cell? ⟨w1.heap.size, 2, none⟩ = some (.int .i64 (stride d)) := by rw [← hW1]; simp [go_sem]
  have r0 : W1.cell? ⟨w.heap.size + 1, 0, none⟩ = some (.int .u8 0) := by rw [← hW1]; simp [go_sem, hc, hf, hlt, hne]
  have r1 : W1.cell? ⟨w.heap.size + 1, 1, none⟩ = some (.int .i64 0) := by rw [← hW1]; simp [go_sem, hc, hf, hlt, hne]
  have r2 : W1.cell? ⟨w.heap.size + 1, 2, none⟩ = some (.int .i64 0) := by rw [← hW1]; simp [go_sem, hc, hf, hlt, hne]
  have f0 : ∀ o, W1.frozen? ⟨w.heap.size + 1, o, none⟩ = false := fun o => by rw [← hW1]; simp [go_sem, hc, hf, hlt, hne]
  rw [hW1] at hb0 ⊢
  clear hW1 hc hf hlt hne
  go_loopw [20] (fun i wr => ∃ j : Nat, j ≤ xs.length ∧ i = .int .i64 j ∧ Below (w1.heap.size + 1) W1 wr ∧ Below w.heap.size w wr)
    (fun i _ => xs.length - (intOf i).toNat)
  case atStart => exact ⟨0, Nat.zero_le _, rfl, Below.refl _ _, hb0⟩
  case round =>
    obtain ⟨j, hj, rfl, hB2, hB⟩ := hrel
    obtain ⟨hzr, hcr, hfr, hltr, hner⟩ := inLoop hB2 hsz
    by_cases hlt : j < xs.length
    · obtain ⟨b, off, rfl, e0, e1⟩ := HC.out j hlt
      have hbl := cell_lt' e0
      have e0r := (hB.cell (p := ⟨b, off + j * 2, none⟩) hbl).trans e0
      have e1r := (hB.cell (p := ⟨b, off + j * 2 + 1, none⟩) hbl).trans e1
      have CX := fun w => CS (xs.getD j (0, 0)).1 (xs.getD j (0, 0)).2 w
      rw [HX.out j hlt] at CX
      clear e0 e1
      generalize xs.getD j (0, 0) = y at *
      obtain ⟨y1, y2⟩ := y
      dsimp only at CX e0r e1r
      go_wp2_with ((go_at_call 116; refine (CX _).mono ?_; rintro e w2 ⟨rfl, hb⟩; obtain ⟨hB, hB2, hz, hc, hf, hlt, hne⟩ := afterR (N := w1.heap.size + 1) (w := w) (W0 := W1) hb (by (repeat' (first | (with_reducible exact Below.refl _ _) | (with_reducible assumption) | (with_reducible refine Below.alloc ?_ ?_ _) | (with_reducible refine Below.drew ?_) | (with_reducible refine below_drewN _ ?_) | (with_reducible refine Below.setCell ?_ ?_ _) | (with_reducible refine Below.frame ?_ _) | go_size | (simp only [size_alloc, size_setCell, size_drew, size_drewN]; omega)))) (by (repeat' (first | (with_reducible exact Below.refl _ _) | (with_reducible assumption) | (with_reducible refine Below.alloc ?_ ?_ _) | (with_reducible refine Below.drew ?_) | (with_reducible refine below_drewN _ ?_) | (with_reducible refine Below.setCell ?_ ?_ _) | (with_reducible refine Below.frame ?_ _) | go_size | (simp only [size_alloc, size_setCell, size_drew, size_drewN]; omega)))) (by first | go_size | (simp only [size_alloc, size_setCell, size_drew, size_drewN]; omega))))
      go_roundw
      case rel => exact ⟨j + 1, by omega, by go_num, hB2, hB⟩
      case measure => simp [intOf]; omega
    · obtain rfl : j = xs.length := by omega
      go_wp2_with fail
      refine bodyPost_ret (v := .tuple #[.agg #[.int .u8 k, .int .i64 d, .int .i64 (stride d)], .int .i64 0]) (by simp [results, Try.results84, go_sem, *]) rfl ?_
      exact ⟨rfl, by (repeat' (first | (with_reducible exact Below.refl _ _) | (with_reducible assumption) | (with_reducible refine Below.alloc ?_ ?_ _) | (with_reducible refine Below.drew ?_) | (with_reducible refine below_drewN _ ?_) | (with_reducible refine Below.setCell ?_ ?_ _) | (with_reducible refine Below.frame ?_ _) | go_size | (simp only [size_alloc, size_setCell, size_drew, size_drewN]; omega)))⟩

set_option maxHeartbeats 2000000 in
theorem enter_no (k d g p q r : Int) (v : Value) (xs : List (Int × Int)) (w : World) (hs : Sch.ok ⟨k, d, g, p, q, r⟩) (hv : Subs w v xs) (hall : (xs.all fun x => subsetB k d x.1 x.2) = false) :
    Calls Try.prog 84 #[.agg #[.int .u8 k, .int .i64 d, .int .i64 g, .int .u64 p, .int .u64 q, .int .u64 r], v] w fun e w' => e = .returned (.tuple #[.agg #[.int .u8 0, .int .i64 0, .int .i64 0], .int .i64 31]) ∧ Below w.heap.size w w' := by
  have CT := fun w => treeOf_ok k d g p q r w hs
  obtain ⟨k1, k3, d0, d6, -⟩ := hs
  dsimp only at k1 k3 d0 d6
  have CS := fun (n m : Int) w => subset_any k d n m w k1 k3 d0 d6
  obtain ⟨a, cap, rfl, hcap, hmax, hcell⟩ := hv.open
  clear hv
  have HA := Lib.hid hall
  clear hall
  unfold maxLen at hmax
  go_enter Try.func84, Try.ntmps84
  go_wp2_with (go_at_call 67; refine (CT _).mono ?_; rintro e w1 ⟨rfl, hb⟩; obtain ⟨hb, hz, hc, hf, hlt, hne⟩ := afterK (N := w.heap.size + 1 + 1) (w := w) hb (by (repeat' (first | (with_reducible exact Below.refl _ _) | (with_reducible assumption) | (with_reducible refine Below.alloc ?_ ?_ _) | (with_reducible refine Below.drew ?_) | (with_reducible refine below_drewN _ ?_) | (with_reducible refine Below.setCell ?_ ?_ _) | (with_reducible refine Below.frame ?_ _) | go_size | (simp only [size_alloc, size_setCell, size_drew, size_drewN]; omega)))) (by first | go_size | (simp only [size_alloc, size_setCell, size_drew, size_drewN]; omega)); have hq0 : w.heap.size < w1.heap.size := (by omega); have hq1 : w.heap.size + 1 < w1.heap.size := (by omega))
  have HC := Lib.hid hcell
  clear hcell
  have hb0 : Below w.heap.size w (w1.alloc (.cells #[.int .u8 k, .int .i64 d, .int .i64 (stride d)] 124)) := by (repeat' (first | (with_reducible exact Below.refl _ _) | (with_reducible assumption) | (with_reducible refine Below.alloc ?_ ?_ _) | (with_reducible refine Below.drew ?_) | (with_reducible refine below_drewN _ ?_) | (with_reducible refine Below.setCell ?_ ?_ _) | (with_reducible refine Below.frame ?_ _) | go_size | (simp only [size_alloc, size_setCell, size_drew, size_drewN]; omega)))
  obtain ⟨W1, hW1⟩ : ∃ W1, w1.alloc (.cells #[.int .u8 k, .int .i64 d, .int .i64 (stride d)] 124) = W1 := ⟨_, rfl⟩
  have hsz : w1.heap.size + 1 ≤ W1.heap.size := by rw [← hW1]; simp
  have hq : w.heap.size < w1.heap.size := by omega
  have t0 : W1.cell? ⟨w1.heap.size, 0, none⟩ = some (.int .u8 k) := by rw [← hW1]; simp [go_sem]
  have t1 : W1.cell? ⟨w1.heap.size, 1, none⟩ = some (.int .i64 d) := by rw [← hW1]; simp [go_sem]
  have t2 : W1.cell? ⟨w1.heap.size, 2, none⟩ = some (.int .i64 (stride d)) := by rw [← hW1]; simp [go_sem]
  have r0 : W1.cell? ⟨w.heap.size + 1, 0, none⟩ = some (.int .u8 0) := by rw [← hW1]; simp [go_sem, hc, hf, hlt, hne]
  have r1 : W1.cell? ⟨w.heap.size + 1, 1, none⟩ = some (.int .i64 0) := by rw [← hW1]; simp [go_sem, hc, hf, hlt, hne]
  have r2 : W1.cell? ⟨w.heap.size + 1, 2, none⟩ = some (.int .i64 0) := by rw [← hW1]; simp [go_sem, hc, hf, hlt, hne]
  have f0 : ∀ o, W1.frozen? ⟨w.heap.size + 1, o, none⟩ = false := fun o => by rw [← hW1]; simp [go_sem, hc, hf, hlt, hne]
  rw [hW1] at hb0 ⊢
  clear hW1 hc hf hlt hne
  go_loopw [20] (fun i wr => ∃ j : Nat, j ≤ xs.length ∧ i = .int .i64 j ∧ Below (w1.heap.size + 1) W1 wr ∧ Below w.heap.size w wr ∧ Hid (∀ i, i < j → subsetB k d (xs.getD i (0, 0)).1 (xs.getD i (0, 0)).2 = true))
    (fun i _ => xs.length - (intOf i).toNat)
  case atStart => exact ⟨0, Nat.zero_le _, rfl, Below.refl _ _, hb0, fun i hi => absurd hi (Nat.not_lt_zero i)⟩
  case round =>
    obtain ⟨j, hj, rfl, hB2, hB, HP⟩ := hrel
    obtain ⟨hzr, hcr, hfr, hltr, hner⟩ := inLoop hB2 hsz
    by_cases hlt : j < xs.length
    · obtain ⟨b, off, rfl, e0, e1⟩ := HC.out j hlt
      have hbl := cell_lt' e0
      have e0r := (hB.cell (p := ⟨b, off + j * 2, none⟩) hbl).trans e0
      have e1r := (hB.cell (p := ⟨b, off + j * 2 + 1, none⟩) hbl).trans e1
      have CX := fun w => CS (xs.getD j (0, 0)).1 (xs.getD j (0, 0)).2 w
      have HS := Lib.hid (fun (h : subsetB k d (xs.getD j (0, 0)).1 (xs.getD j (0, 0)).2 = true) (i : Nat) (hi : i < j + 1) => show subsetB k d (xs.getD i (0, 0)).1 (xs.getD i (0, 0)).2 = true from by
        by_cases he : i = j
        · subst he; exact h
        · exact HP.out i (by omega))
      clear e0 e1
      cases hsub : subsetB k d (xs.getD j (0, 0)).1 (xs.getD j (0, 0)).2 with
      | true =>
        have HS2 : Hid (∀ i, i < j + 1 → subsetB k d (xs.getD i (0, 0)).1 (xs.getD i (0, 0)).2 = true) := HS.out hsub
        rw [hsub] at CX
        clear hsub HS
        generalize xs.getD j (0, 0) = y at CX e0r e1r
        obtain ⟨y1, y2⟩ := y
        dsimp only at CX e0r e1r
        go_wp2_with ((go_at_call 116; refine (CX _).mono ?_; rintro e w2 ⟨rfl, hb⟩; obtain ⟨hB, hB2, hz, hc, hf, hlt, hne⟩ := afterR (N := w1.heap.size + 1) (w := w) (W0 := W1) hb (by (repeat' (first | (with_reducible exact Below.refl _ _) | (with_reducible assumption) | (with_reducible refine Below.alloc ?_ ?_ _) | (with_reducible refine Below.drew ?_) | (with_reducible refine below_drewN _ ?_) | (with_reducible refine Below.setCell ?_ ?_ _) | (with_reducible refine Below.frame ?_ _) | go_size | (simp only [size_alloc, size_setCell, size_drew, size_drewN]; omega)))) (by (repeat' (first | (with_reducible exact Below.refl _ _) | (with_reducible assumption) | (with_reducible refine Below.alloc ?_ ?_ _) | (with_reducible refine Below.drew ?_) | (with_reducible refine below_drewN _ ?_) | (with_reducible refine Below.setCell ?_ ?_ _) | (with_reducible refine Below.frame ?_ _) | go_size | (simp only [size_alloc, size_setCell, size_drew, size_drewN]; omega)))) (by first | go_size | (simp only [size_alloc, size_setCell, size_drew, size_drewN]; omega))))
        go_roundw
        case rel => exact ⟨j + 1, by omega, by go_num, hB2, hB, HS2⟩
        case measure => simp [intOf]; omega
      | false =>
        rw [hsub] at CX
        clear hsub HS
        generalize xs.getD j (0, 0) = y at CX e0r e1r
        obtain ⟨y1, y2⟩ := y
        dsimp only at CX e0r e1r
        go_wp2_with ((go_at_call 116; refine (CX _).mono ?_; rintro e w2 ⟨rfl, hb⟩; obtain ⟨hB, hB2, hz, hc, hf, hlt, hne⟩ := afterR (N := w1.heap.size + 1) (w := w) (W0 := W1) hb (by (repeat' (first | (with_reducible exact Below.refl _ _) | (with_reducible assumption) | (with_reducible refine Below.alloc ?_ ?_ _) | (with_reducible refine Below.drew ?_) | (with_reducible refine below_drewN _ ?_) | (with_reducible refine Below.setCell ?_ ?_ _) | (with_reducible refine Below.frame ?_ _) | go_size | (simp only [size_alloc, size_setCell, size_drew, size_drewN]; omega)))) (by (repeat' (first | (with_reducible exact Below.refl _ _) | (with_reducible assumption) | (with_reducible refine Below.alloc ?_ ?_ _) | (with_reducible refine Below.drew ?_) | (with_reducible refine below_drewN _ ?_) | (with_reducible refine Below.setCell ?_ ?_ _) | (with_reducible refine Below.frame ?_ _) | go_size | (simp only [size_alloc, size_setCell, size_drew, size_drewN]; omega)))) (by first | go_size | (simp only [size_alloc, size_setCell, size_drew, size_drewN]; omega))); have q0 := (hB2.cell (p := ⟨w.heap.size + 1, 0, none⟩) (by show w.heap.size + 1 < w1.heap.size + 1; omega)).trans r0; have q1 := (hB2.cell (p := ⟨w.heap.size + 1, 1, none⟩) (by show w.heap.size + 1 < w1.heap.size + 1; omega)).trans r1; have q2 := (hB2.cell (p := ⟨w.heap.size + 1, 2, none⟩) (by show w.heap.size + 1 < w1.heap.size + 1; omega)).trans r2)
        refine bodyPost_ret (v := .tuple #[.agg #[.int .u8 0, .int .i64 0, .int .i64 0], .int .i64 31]) (by simp [results, Try.results84, go_sem, q0, q1, q2]) rfl ?_
        exact ⟨rfl, by (repeat' (first | (with_reducible exact Below.refl _ _) | (with_reducible assumption) | (with_reducible refine Below.alloc ?_ ?_ _) | (with_reducible refine Below.drew ?_) | (with_reducible refine below_drewN _ ?_) | (with_reducible refine Below.setCell ?_ ?_ _) | (with_reducible refine Below.frame ?_ _) | go_size | (simp only [size_alloc, size_setCell, size_drew, size_drewN]; omega)))⟩
    · obtain rfl : j = xs.length := by omega
      exfalso
      have : (xs.all fun x => subsetB k d x.1 x.2) = true := by
        rw [List.all_eq_true]
        intro x hx
        obtain ⟨i, hi, rfl⟩ := List.mem_iff_getElem.1 hx
        have := HP.out i hi
        rwa [show xs.getD i (0, 0) = xs[i] from by simp [List.getD, hi]] at this
      rw [HA.out] at this
      cases this

theorem subs_one (W : World) (n m : Int) (T : TypeId) {B : Nat} (hB : B = W.heap.size) : Subs (W.alloc (.cells #[.int .i64 n, .int .i64 m] T)) (.slice (some ⟨B, 0, none⟩) 1 1) [(n, m)] := by
  subst hB
  refine ⟨rfl, _, 1, rfl, Nat.le_refl _, by unfold maxLen; omega, fun _ => ⟨W.heap.size, 0, rfl, fun i u hu => ?_⟩⟩
  match i, hu with
  | 0, hu => simp at hu; subst hu; simp [go_sem]
  | 1, hu => simp at hu; subst hu; simp [go_sem]

set_option maxHeartbeats 2000000 in
theorem Members_bad (k d g p q r n m : Int) (w : World) (hs : ¬ Sch.ok ⟨k, d, g, p, q, r⟩) :
    Calls Try.prog 69 #[.agg #[.int .u8 k, .int .i64 d, .int .i64 g, .int .u64 p, .int .u64 q, .int .u64 r], .agg #[.int .i64 n, .int .i64 m]] w fun e w' => e = .returned (.tuple #[.slice none 0 0, .int .i64 30]) ∧ Below w.heap.size w w' := by
  have C := fun v w => enter_bad k d g p q r v [] w hs
  clear hs
  go_enter Try.func69, Try.ntmps69
  go_wp2_with (go_at_call 84; refine (C _ _).mono ?_; rintro e w1 ⟨rfl, hb⟩; obtain ⟨hb, hz, hc, hf, hlt, hne⟩ := afterK (N := w.heap.size + 1 + 1) (w := w) hb (by (repeat' (first | (with_reducible exact Below.refl _ _) | (with_reducible assumption) | (with_reducible refine Below.alloc ?_ ?_ _) | (with_reducible refine Below.drew ?_) | (with_reducible refine below_drewN _ ?_) | (with_reducible refine Below.setCell ?_ ?_ _) | (with_reducible refine Below.frame ?_ _) | go_size | (simp only [size_alloc, size_setCell, size_drew, size_drewN]; omega)))) (by first | go_size | (simp only [size_alloc, size_setCell, size_drew, size_drewN]; omega)); have hq0 : w.heap.size < w1.heap.size := (by omega); have hq1 : w.heap.size + 1 < w1.heap.size := (by omega))
  go_returns
  exact ⟨rfl, by (repeat' (first | (with_reducible exact Below.refl _ _) | (with_reducible assumption) | (with_reducible refine Below.alloc ?_ ?_ _) | (with_reducible refine Below.drew ?_) | (with_reducible refine below_drewN _ ?_) | (with_reducible refine Below.setCell ?_ ?_ _) | (with_reducible refine Below.frame ?_ _) | go_size | (simp only [size_alloc, size_setCell, size_drew, size_drewN]; omega)))⟩

set_option maxHeartbeats 2000000 in
theorem Members_no (k d g p q r n m : Int) (w : World) (hs : Sch.ok ⟨k, d, g, p, q, r⟩) (hx : subsetB k d n m = false) :
    Calls Try.prog 69 #[.agg #[.int .u8 k, .int .i64 d, .int .i64 g, .int .u64 p, .int .u64 q, .int .u64 r], .agg #[.int .i64 n, .int .i64 m]] w fun e w' => e = .returned (.tuple #[.slice none 0 0, .int .i64 31]) ∧ Below w.heap.size w w' := by
  have C := fun v w hv => enter_no k d g p q r v [(n, m)] w hs hv (by simp [hx])
  clear hs hx
  go_enter Try.func69, Try.ntmps69
  go_wp2_with (go_at_call 84; refine (C _ _ ?_).mono ?_; (exact subs_one _ _ _ _ (by simp)); rintro e w1 ⟨rfl, hb⟩; obtain ⟨hb, hz, hc, hf, hlt, hne⟩ := afterK (N := w.heap.size + 1 + 1) (w := w) hb (by (repeat' (first | (with_reducible exact Below.refl _ _) | (with_reducible assumption) | (with_reducible refine Below.alloc ?_ ?_ _) | (with_reducible refine Below.drew ?_) | (with_reducible refine below_drewN _ ?_) | (with_reducible refine Below.setCell ?_ ?_ _) | (with_reducible refine Below.frame ?_ _) | go_size | (simp only [size_alloc, size_setCell, size_drew, size_drewN]; omega)))) (by first | go_size | (simp only [size_alloc, size_setCell, size_drew, size_drewN]; omega)))
  go_returns
  exact ⟨rfl, by (repeat' (first | (with_reducible exact Below.refl _ _) | (with_reducible assumption) | (with_reducible refine Below.alloc ?_ ?_ _) | (with_reducible refine Below.drew ?_) | (with_reducible refine below_drewN _ ?_) | (with_reducible refine Below.setCell ?_ ?_ _) | (with_reducible refine Below.frame ?_ _) | go_size | (simp only [size_alloc, size_setCell, size_drew, size_drewN]; omega)))⟩

theorem subset_bd {k d n m : Int} (d0 : 0 ≤ d) (d6 : d ≤ 6) (h : subsetB k d n m = true) : 1 ≤ n ∧ n ≤ 127 ∧ 0 ≤ m ∧ m ≤ 127 := by
  obtain ⟨z1, z2⟩ := sz_bd d d0 d6
  unfold subsetB at h
  split at h
  · split at h
    · simp at h; omega
    · split at h
      · omega
      · split at h
        · omega
        · cases h
  · cases h

set_option maxHeartbeats 2000000 in
theorem Members_ok (k d g p q r n m : Int) (w : World) (hs : Sch.ok ⟨k, d, g, p, q, r⟩) (hx : subsetB k d n m = true) :
    Calls Try.prog 69 #[.agg #[.int .u8 k, .int .i64 d, .int .i64 g, .int .u64 p, .int .u64 q, .int .u64 r], .agg #[.int .i64 n, .int .i64 m]] w fun e w' => ∃ v, e = .returned (.tuple #[v, .int .i64 0]) ∧ w'.ownsRow w.heap.size 3 1 v (membersL d n m).length ((membersL d n m).map (Value.int .i64)) ∧ Below w.heap.size w w' := by
  have C := fun v w hv => enter_ok k d g p q r v [(n, m)] w hs hv (by simp [hx])
  obtain ⟨k1, k3, d0, d6, -⟩ := hs
  dsimp only at k1 k3 d0 d6
  obtain ⟨n1, n2, m1, m2⟩ := subset_bd d0 d6 hx
  have CM := fun w => members_any k d (stride d) n m w d0 d6 n2 m2
  clear hx
  go_enter Try.func69, Try.ntmps69
  go_wp2_with (first | (go_at_call 84; refine (C _ _ ?_).mono ?_; (exact subs_one _ _ _ _ (by simp)); rintro e w1 ⟨rfl, hb⟩; obtain ⟨hb, hz, hc, hf, hlt, hne⟩ := afterK (N := w.heap.size + 1 + 1) (w := w) hb (by (repeat' (first | (with_reducible exact Below.refl _ _) | (with_reducible assumption) | (with_reducible refine Below.alloc ?_ ?_ _) | (with_reducible refine Below.drew ?_) | (with_reducible refine below_drewN _ ?_) | (with_reducible refine Below.setCell ?_ ?_ _) | (with_reducible refine Below.frame ?_ _) | go_size | (simp only [size_alloc, size_setCell, size_drew, size_drewN]; omega)))) (by first | go_size | (simp only [size_alloc, size_setCell, size_drew, size_drewN]; omega))) | (go_at_call 99; refine (CM _).mono ?_; rintro e w2 ⟨v, rfl, hown, hb2⟩))
  go_returns
  exact ⟨_, rfl, ownsRow_mono (base' := w.heap.size) hown (by simp; omega), Below.trans (by (repeat' (first | (with_reducible exact Below.refl _ _) | (with_reducible assumption) | (with_reducible refine Below.alloc ?_ ?_ _) | (with_reducible refine Below.drew ?_) | (with_reducible refine below_drewN _ ?_) | (with_reducible refine Below.setCell ?_ ?_ _) | (with_reducible refine Below.frame ?_ _) | go_size | (simp only [size_alloc, size_setCell, size_drew, size_drewN]; omega)))) (hb2.mono (by simp; omega))⟩

end Go.Proofs.Ytpnfghpcpjpppaa
