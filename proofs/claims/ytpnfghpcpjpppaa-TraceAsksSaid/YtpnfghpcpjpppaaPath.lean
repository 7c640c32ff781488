/- The path from a node down to another one below it: the iterator, and what it yields. -/
import Derived.RangeFuncNested
import Derived.RangeFuncBound
import Derived.RangeFuncCalls
import Derived.RangeFuncLeaves
import Derived.Shelf.Abstract
import Derived.Shelf.RegionOpen
import Derived.WalkKit
import Derived.OwnWalkIn
import Derived.TacticsInMore
import Derived.LoopNIn
import Derived.LoopIn
import Derived.Test.YtpnfghpcpjpppaaTree
namespace Go.Proofs.Ytpnfghpcpjpppaa
open Go.RowKit Go.Shelf
set_option linter.unusedVariables false
set_option linter.unusedSimpArgs false
attribute [local go_sem] Oper.semAt_some

/-- t is below v, both are nodes. -/
def under (t v : Int) : Prop := 1 ≤ v ∧ v ≤ 127 ∧ 1 ≤ t ∧ t ≤ 127 ∧ belowB t v = true

theorem under_fin : ((List.range 128).all fun t => (List.range 128).all fun v => !(belowB (t : Int) (v : Int)) || t == v ||
    (decide (lvl v < lvl t) && decide (1 ≤ toward v t) && decide (toward v t ≤ 127) && decide (lvl (toward v t) = lvl v + 1) && belowB t (toward v t))) = true := by decide +kernel
theorem under_same_fin : ((List.range 128).all fun t => (List.range 128).all fun v => !(belowB (t : Int) (v : Int)) || decide (lvl v ≤ lvl t)) = true := by decide +kernel

theorem under_step {t v : Int} (h : under t v) (hne : v ≠ t) : lvl v < lvl t ∧ under t (toward v t) ∧ lvl (toward v t) = lvl v + 1 := by
  obtain ⟨h1, h2, h3, h4, h5⟩ := h
  have a := List.all_eq_true.1 (List.all_eq_true.1 under_fin t.toNat (List.mem_range.2 (by omega))) v.toNat (List.mem_range.2 (by omega))
  rw [show ((t.toNat : Nat) : Int) = t from by omega, show ((v.toNat : Nat) : Int) = v from by omega, h5] at a
  simp only [Bool.not_true, Bool.false_or, Bool.or_eq_true, Bool.and_eq_true, decide_eq_true_eq, beq_iff_eq] at a
  rcases a with a | ⟨⟨⟨⟨a1, a2⟩, a3⟩, a4⟩, a5⟩
  · omega
  · exact ⟨a1, ⟨a2, a3, h3, h4, a5⟩, a4⟩
theorem under_le {t v : Int} (h : under t v) : lvl v ≤ lvl t := by
  obtain ⟨h1, h2, h3, h4, h5⟩ := h
  have a := List.all_eq_true.1 (List.all_eq_true.1 under_same_fin t.toNat (List.mem_range.2 (by omega))) v.toNat (List.mem_range.2 (by omega))
  rw [show ((t.toNat : Nat) : Int) = t from by omega, show ((v.toNat : Nat) : Int) = v from by omega, h5] at a
  simpa using a

/-- The nodes from strictly below v down to t. -/
def pathL : Nat → Int → Int → List Int
  | 0, _, _ => []
  | k + 1, v, t => toward v t :: pathL k (toward v t) t
def pathOf (v t : Int) : List Int := pathL (lvl t - lvl v).toNat v t
theorem pathOf_step {t v : Int} (h : under t v) (hne : v ≠ t) : pathOf v t = toward v t :: pathOf (toward v t) t := by
  obtain ⟨a, b, c⟩ := under_step h hne
  unfold pathOf
  rw [show (lvl t - lvl v).toNat = (lvl t - lvl (toward v t)).toNat + 1 from by omega]
  rfl
theorem pathOf_same (v : Int) : pathOf v v = [] := by unfold pathOf; rw [Int.sub_self]; rfl
theorem pathOf_mem {t : Int} : ∀ (k : Nat) (v : Int), under t v → (lvl t - lvl v).toNat = k → ∀ x ∈ pathOf v t, under t x := by
  intro k
  induction k with
  | zero =>
    intro v h hk x hx
    unfold pathOf at hx
    rw [hk] at hx
    cases hx
  | succ k ih =>
    intro v h hk x hx
    have hne : v ≠ t := by intro e; subst e; omega
    obtain ⟨a, b, c⟩ := under_step h hne
    rw [pathOf_step h hne] at hx
    rcases List.mem_cons.1 hx with rfl | hx
    · exact b
    · exact ih _ b (by omega) x hx

/-- A node, as a type of its own: what a loop's body may know of what it is handed. -/
abbrev Nd := { x : Int // 1 ≤ x ∧ x ≤ 127 }
def mkN (x : Int) : Nd := if h : 1 ≤ x ∧ x ≤ 127 then ⟨x, h⟩ else ⟨1, by omega⟩
theorem mkN_val {x : Int} (h1 : 1 ≤ x) (h2 : x ≤ 127) : (mkN x).1 = x := by unfold mkN; rw [dif_pos ⟨h1, h2⟩]
def pathN (v t : Int) : List Nd := (pathOf v t).map mkN
theorem pathN_step {t v : Int} (h : under t v) (hne : v ≠ t) : pathN v t = mkN (toward v t) :: pathN (toward v t) t := by
  unfold pathN; rw [pathOf_step h hne]; rfl
theorem pathN_same (v : Int) : pathN v v = [] := by unfold pathN; rw [pathOf_same]; rfl
theorem pathN_val {v t : Int} (h : under t v) : (pathN v t).map (·.1) = pathOf v t := by
  unfold pathN
  rw [List.map_map]
  conv => rhs; rw [← List.map_id (pathOf v t)]
  refine List.map_congr_left fun x hx => ?_
  obtain ⟨h1, h2, -⟩ := pathOf_mem _ v h rfl x hx
  exact mkN_val h1 h2

/-- cover.path: a function value over two new cells. -/
theorem path_any (v t : Int) (w : World) :
    Calls Try.prog 140 #[.int .i64 v, .int .i64 t] w fun e w' => e = .returned (.func (.func 155) #[] #[.pointer (some ⟨w.heap.size, 0, none⟩), .pointer (some ⟨w.heap.size + 1, 0, none⟩)]) ∧ (w.alloc (.cells #[.int .i64 v] 177)).alloc (.cells #[.int .i64 t] 177) = w' := by
  go_enter Try.func140, Try.ntmps140
  go_wp2
  go_returns
  exact ⟨rfl, rfl⟩

set_option maxHeartbeats 1000000 in
theorem path_run (n : Nat) (hn : 1 ≤ n) (l B1 B2 n₀ : Nat) (v t : Int) (hu : under t v) (J Jx : List Nd → World → Prop) (hB1 : B1 < n₀) (hB2 : B2 < n₀)
    (hY : ∀ pre x W, J pre W → pre.length < (pathN v t).length → YieldAt Fence.wide (n - 1) Try.prog l #[.int .i64 x.1] W fun e W' =>
      (e = .returned (.bool true) ∧ J (pre ++ [x]) W' ∧ Below n₀ W W') ∨ (e = .returned (.bool false) ∧ Jx (pre ++ [x]) W'))
    (W : World) (h1 : W.cell? ⟨B1, 0, none⟩ = some (.int .i64 v)) (h2 : W.cell? ⟨B2, 0, none⟩ = some (.int .i64 t)) (h0 : J [] W) :
    CallsIn Fence.wide n Try.prog 155 #[.func (.yield l) #[] #[], .pointer (some ⟨B1, 0, none⟩), .pointer (some ⟨B2, 0, none⟩)] W fun e W' => (∃ v, e = .returned v) ∧
      ((∃ ys, ys = pathN v t ∧ J ys W') ∨ (∃ pre, pre <+: pathN v t ∧ Jx pre W')) := by
  refine callsIn_of_wp Try.func155 rfl trivial ?_ rfl
  simp only [Try.ntmps155, List.size_toArray, List.length_cons, List.length_nil, Nat.reduceAdd, Nat.reduceSub, Array.replicate_succ, Array.replicate_zero, List.push_toArray, List.append_toArray, List.nil_append, List.cons_append]
  gi_wp2
  gi_loopw [4] (fun p wr => ∃ (pre : List Nd) (c : Int), p = .int .i64 c ∧ pathN v t = pre ++ pathN c t ∧ under t c ∧ wr.cell? ⟨B2, 0, none⟩ = some (.int .i64 t) ∧ J pre wr)
    (fun p wr => (lvl t - lvl (intOf p)).toNat)
  case atStart => exact ⟨[], v, rfl, rfl, hu, h2, h0⟩
  case round =>
    obtain ⟨pre, c, rfl, hp, hc, hcell, hJ⟩ := hrel
    by_cases he : c = t
    · subst he
      have hd : (c != c) = false := by simp
      gi_wp2
      go_end0
      exact ⟨⟨_, rfl⟩, .inl ⟨pre, by rw [hp, pathN_same, List.append_nil], hJ⟩⟩
    · obtain ⟨s1, s2, s3⟩ := under_step hc he
      have hst := pathN_step hc he
      have hd : (c != t) = true := by rw [bne_iff_ne]; exact he
      obtain ⟨fn, tmps, assign, body, hy, hR⟩ := hY pre (mkN (toward c t)) wr hJ (by rw [hp, hst]; simp)
      rw [mkN_val s2.1 s2.2.1] at hy
      obtain ⟨c1, c2, c3, c4, -⟩ := hc
      have C := fun w => toward_any c t w c1 c2 c3 c4 s1
      have HS : Hid (lvl (toward c t) = lvl c + 1) := s3
      have HP : Hid (pathN v t = pre ++ pathN c t) := hp
      have HT : Hid (pathN c t = mkN (toward c t) :: pathN (toward c t) t) := hst
      have HU : Hid (under t (toward c t)) := s2
      clear s3 hp hst s2 he
      gi_wp2_with (refine ⟨trivial, ?_⟩; gi_at_call 156; refine (callsIn_wide.2 (C _)).mono ?_; rintro e w1 ⟨rfl, rfl⟩)
      refine hR.mono ?_
      rintro e W3 (⟨rfl, hJ3, hk3⟩ | ⟨rfl, hJx3⟩)
      · have hcell3 : W3.cell? ⟨B2, 0, none⟩ = some (.int .i64 t) := (hk3.cell (p := ⟨B2, 0, none⟩) hB2).trans hcell
        gi_wp2
        go_roundw
        case rel => exact ⟨pre ++ [mkN (toward c t)], toward c t, rfl, by rw [HP.out, HT.out, List.append_assoc]; rfl, HU.out, hcell3, hJ3⟩
        case measure => have := HS.out; simp only [intOf]; omega
      · gi_wp2
        refine bodyPost_ret (results_none rfl _ _ _) rfl ?_
        exact ⟨⟨_, rfl⟩, .inr ⟨pre ++ [mkN (toward c t)], ⟨pathN (toward c t) t, by rw [HP.out, HT.out, List.append_assoc]; rfl⟩, hJx3⟩⟩

/-- The contract of the path's iterator: the nodes of the path, as long as its two cells lie as they lay. -/
theorem path_stops (n : Nat) (hn : 1 ≤ n) (B1 B2 n₀ : Nat) (v t : Int) (hu : under t v) (w : World) (hB1 : B1 < n₀) (hB2 : B2 < n₀) (hn₀ : n₀ ≤ w.heap.size)
    (h1 : w.cell? ⟨B1, 0, none⟩ = some (.int .i64 v)) (h2 : w.cell? ⟨B2, 0, none⟩ = some (.int .i64 t)) :
    SeqStopsK Fence.wide n Try.prog 155 #[.pointer (some ⟨B1, 0, none⟩), .pointer (some ⟨B2, 0, none⟩)] (fun x : Nd => #[Value.int .i64 x.1]) (Below n₀) (fun ys => ys = pathN v t) (fun pre => pre <+: pathN v t) (pathN v t).length w := fun l J Jx W hW _ _ hY h0 =>
  path_run n hn l B1 B2 n₀ v t hu J Jx hB1 hB2 hY W ((hW.cell (p := ⟨B1, 0, none⟩) (by show B1 < w.heap.size; omega)).trans h1) ((hW.cell (p := ⟨B2, 0, none⟩) (by show B2 < w.heap.size; omega)).trans h2) h0

end Go.Proofs.Ytpnfghpcpjpppaa
