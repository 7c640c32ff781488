/- The reference's LabelsOf. -/
import Derived.Test.YtpnfghpcpjpppaaRl
namespace Go.Proofs.Ytpnfghpcpjpppaa
open Go.RowKit
set_option linter.unusedVariables false
set_option linter.unusedSimpArgs false

/-- The cells of subsets. -/
def subsV (xs : List (Int × Int)) : List Value := xs.flatMap fun x => [Value.int .i64 x.1, Value.int .i64 x.2]
theorem subsV_snoc (xs : List (Int × Int)) (x : Int × Int) : subsV (xs ++ [x]) = subsV xs ++ [.int .i64 x.1, .int .i64 x.2] := by unfold subsV; simp
theorem info112 : (Try.prog.info? 112).map (fun i => (i.zero, i.size, i.bytes)) = some (some (.agg #[.int .i64 0, .int .i64 0]), 2, 16) := by kernel_rfl
theorem pair_new (W : World) (a b : Value) (T : TypeId) : ∀ j u, [a, b][j]? = some u → (W.alloc (.cells #[a, b] T)).cell? ((⟨W.heap.size, 0, none⟩ : Addr).add j) = some u := by
  intro j u hu
  match j, hu with
  | 0, hu => simp at hu; subst hu; simp [go_sem, Addr.add]
  | 1, hu => simp at hu; subst hu; simp [go_sem, Addr.add]
  | j + 2, hu => simp at hu
theorem two_one (a b : Int) : ∀ u ∈ [Value.int .i64 a, Value.int .i64 b], u.oneCell' = true := fun u hu => by
  simp only [List.mem_cons, List.not_mem_nil, or_false] at hu
  rcases hu with rfl | rfl <;> rfl

/-- The labels that were found when the loops stand at i and k. -/
def lab1 (P : List Int) (i : Nat) : List (Int × Int) := (P.take i).map fun a => (a, 0)
def lab2 (f : Int × Int → Bool) (P : List Int) (i : Nat) : List (Int × Int) := (1, 0) :: ((List.range i).flatMap fun i => (P.drop (i + 1)).map fun b => (P.getD i 0, Go.bits .xor .i64 b 1)).filter f
def lab3 (f : Int × Int → Bool) (P : List Int) (i m : Nat) : List (Int × Int) := lab2 f P i ++ (((P.drop (i + 1)).take m).map fun b => (P.getD i 0, Go.bits .xor .i64 b 1)).filter f
theorem lab1_succ (P : List Int) (i : Nat) (h : i < P.length) : lab1 P (i + 1) = lab1 P i ++ [(P.getD i 0, 0)] := by
  unfold lab1
  rw [List.take_succ_eq_append_getElem h, List.map_append]
  simp [List.getD, h]
theorem lab2_succ (f : Int × Int → Bool) (P : List Int) (i : Nat) : lab3 f P i (P.drop (i + 1)).length = lab2 f P (i + 1) := by
  unfold lab3 lab2
  rw [List.take_length, List.range_succ, List.flatMap_append, List.filter_append, List.cons_append]
  simp
theorem lab3_zero (f : Int × Int → Bool) (P : List Int) (i : Nat) : lab3 f P i 0 = lab2 f P i := by unfold lab3; simp
theorem lab3_succ (f : Int × Int → Bool) (P : List Int) (i m : Nat) (h : i + 1 + m < P.length) : lab3 f P i (m + 1) = lab3 f P i m ++ (if f (P.getD i 0, Go.bits .xor .i64 (P.getD (i + 1 + m) 0) 1) = true then [(P.getD i 0, Go.bits .xor .i64 (P.getD (i + 1 + m) 0) 1)] else []) := by
  unfold lab3
  have hd : m < (P.drop (i + 1)).length := by simp; omega
  rw [List.take_succ_eq_append_getElem hd, List.map_append, List.filter_append, List.append_assoc]
  simp only [List.map_cons, List.map_nil, List.getElem_drop]
  rw [show P[i + 1 + m] = P.getD (i + 1 + m) 0 from by simp [List.getD, h]]
  by_cases hf : f (P.getD i 0, Go.bits .xor .i64 (P.getD (i + 1 + m) 0) 1) = true
  · rw [if_pos hf, List.filter_cons_of_pos hf]; rfl
  · rw [if_neg hf, List.filter_cons_of_neg hf]; rfl
theorem pairs_range : ∀ P : List Int, ((List.range P.length).flatMap fun i => (P.drop (i + 1)).map fun b => (P.getD i 0, Go.bits .xor .i64 b 1)) = pairsOf P
  | [] => rfl
  | a :: l => by
    rw [List.length_cons, List.range_succ_eq_map, List.flatMap_cons, List.flatMap_map]
    simp only [pairsOf]
    rw [← pairs_range l]
    rfl
theorem lab2_full (f : Int × Int → Bool) (P : List Int) : lab2 f P P.length = (1, 0) :: (pairsOf P).filter f := by unfold lab2; rw [pairs_range]
theorem lab1_full (P : List Int) : lab1 P P.length = P.map fun a => (a, 0) := by unfold lab1; rw [List.take_length]
theorem lab1_len (P : List Int) (i : Nat) : (lab1 P i).length ≤ i := by unfold lab1; rw [List.length_map]; exact List.length_take_le _ _
theorem flat_le (P : List Int) : ∀ i : Nat, ((List.range i).flatMap fun i => (P.drop (i + 1)).map fun b => (P.getD i 0, Go.bits .xor .i64 b 1)).length ≤ i * P.length
  | 0 => by simp
  | i + 1 => by
    have := flat_le P i
    rw [List.range_succ, List.flatMap_append, List.length_append, Nat.succ_mul]
    have h2 : ([i].flatMap fun i => (P.drop (i + 1)).map fun b => (P.getD i 0, Go.bits .xor .i64 b 1)).length ≤ P.length := by simp
    omega
theorem lab3_len (f : Int × Int → Bool) (P : List Int) (i m : Nat) (hP : P.length ≤ 7) (hi : i ≤ P.length) : (lab3 f P i m).length ≤ 64 := by
  unfold lab3 lab2
  rw [List.length_append, List.length_cons]
  have h1 := List.length_filter_le f ((List.range i).flatMap fun i => (P.drop (i + 1)).map fun b => (P.getD i 0, Go.bits .xor .i64 b 1))
  have h2 := List.length_filter_le f (((P.drop (i + 1)).take m).map fun b => (P.getD i 0, Go.bits .xor .i64 b 1))
  have h3 := flat_le P i
  have h4 : (((P.drop (i + 1)).take m).map fun b => (P.getD i 0, Go.bits .xor .i64 b 1)).length ≤ 7 := by simp; omega
  have h5 : i * P.length ≤ 7 * 7 := Nat.mul_le_mul (by omega) hP
  omega

theorem wp_world' {P : Program} {C : Code} {Q : Exit → Act → World → Prop} {a : Act} {w : World} (h : ∀ W, w = W → C.wp P Q a W) : C.wp P Q a w := h w rfl
theorem calls_world' {P : Program} {f : FuncId} {args : Array Value} {Q : Ending → World → Prop} {w : World} (h : ∀ W, w = W → Calls P f args W Q) : Calls P f args w Q := h w rfl
theorem under_root_fin : ((List.range 128).all fun l => decide (l = 0) || belowB (l : Int) 1) = true := by decide +kernel
theorem under_root {l : Int} (h1 : 1 ≤ l) (h7 : l ≤ 127) : under l 1 := by
  refine ⟨by omega, by omega, h1, h7, ?_⟩
  have h := List.all_eq_true.1 under_root_fin l.toNat (List.mem_range.2 (by omega))
  rw [show ((l.toNat : Nat) : Int) = l from by omega] at h
  simp only [Bool.or_eq_true, decide_eq_true_iff] at h
  rcases h with h | h
  · omega
  · exact h

set_option maxRecDepth 20000 in
set_option maxHeartbeats 2000000 in
theorem rLabelsOf_1 (d u : Int) (w : World) (d0 : 0 ≤ d) (d6 : d ≤ 6) (u0 : 0 ≤ u) (u1 : u < sz d) :
    Calls Try.prog 131 #[.agg #[.int .u8 1, .int .i64 d, .int .i64 0, .int .u64 0, .int .u64 0, .int .u64 0], .int .i64 u] w fun e w' => ∃ v, e = .returned v ∧ w'.ownsRow w.heap.size 112 2 v (labelsL 1 d u).length (subsV (labelsL 1 d u)) ∧ Below w.heap.size w w' := by
  obtain ⟨i0, hi, iz0, iz1, iz2⟩ := info_parts info112
  obtain ⟨z1, z2⟩ := sz_bd d d0 d6
  have CR := fun w => Receivers_any d w d0 d6
  rw [show (2 : Int) ^ d.toNat = sz d from rfl] at CR
  have HL := Lib.hid (show labelsL 1 d u = lab1 (rootPath (sz d + u)) (rootPath (sz d + u)).length from by rw [lab1_full]; unfold labelsL; rw [if_pos rfl])
  have hur := under_root (l := sz d + u) (by omega) (by omega)
  have CP := fun w => rPath_any 1 (sz d + u) w hur
  have hPl := pathOf_len hur
  rw [show 1 :: pathOf 1 (sz d + u) = rootPath (sz d + u) from rfl] at CP
  have hPl : (rootPath (sz d + u)).length ≤ 7 := by unfold rootPath; simp; omega
  generalize rootPath (sz d + u) = P at *
  generalize sz d = z at *
  clear hur
  go_enter Try.func131, Try.ntmps131
  go_wp2_with (first | (go_at_call 65; refine (CR _).mono ?_; rintro e w1 ⟨rfl, rfl⟩))
  refine calls_world' ?_
  intro W0 hW0
  have hB0 : Below w.heap.size w W0 := by rw [← hW0]; exact (Below.refl _ _).alloc (Nat.le_refl _) _
  have hk0 : W0.cell? ⟨w.heap.size, 0, none⟩ = some (.int .u8 1) := by rw [← hW0]; simp [go_sem]
  clear hW0
  refine (CP _).mono ?_
  rintro e W1 ⟨v, rfl, hown, hb⟩
  have hk1 : W1.cell? ⟨w.heap.size, 0, none⟩ = some (.int .u8 1) := (hb.cell (p := ⟨w.heap.size, 0, none⟩) (cell_lt' hk0)).trans hk0
  have hB1 : Below w.heap.size w W1 := hB0.trans (hb.mono hB0.size)
  have HR := (show Ints W1 v P from Reads.of_owns hown)
  obtain ⟨a, cap, rfl, hcap, hmax, hcell⟩ := HR.open
  have HC := Lib.hid hcell
  unfold maxLen at hmax
  clear hcell hown HR hb hB0 hk0
  go_wp2_with fail
  go_loopw [5, 7] (fun o i wr => ∃ j : Nat, j ≤ P.length ∧ i = .int .i64 j ∧ wr.ownsRow W1.heap.size 112 2 o (lab1 P j).length (subsV (lab1 P j)) ∧ Below W1.heap.size W1 wr) (fun _ i _ => P.length - (intOf i).toNat)
  case atStart => exact ⟨0, Nat.zero_le _, rfl, World.ownsRow_nil _ _ _ _, Below.refl _ _⟩
  case round =>
    obtain ⟨j, hj, rfl, hown, hB⟩ := hrel
    have hlen := lab1_len P j
    by_cases hlt : j < P.length
    · obtain ⟨g, off, rfl, e0⟩ := HC.out j hlt
      have e0 := (hB.cell (p := ⟨g, off + j, none⟩) (cell_lt' e0)).trans e0
      have HS := Lib.hid (lab1_succ P j hlt)
      have hz := hB.size
      clear HC
      generalize P.getD j 0 = x at *
      generalize lab1 P j = L at *
      go_wp2_with (at_builtin; refine wpList_append_own _ rfl _ _ 40 rfl W1.heap.size 112 i0 (.agg #[.int .i64 0, .int .i64 0]) 2 16 Try.underlying40 hi iz0 iz1 iz2 rfl (by decide) _ _ _ rfl (hown.alloc _) ⟨_, 0, none⟩ 1 1 [.int .i64 x, .int .i64 0] rfl rfl (pair_new _ _ _ _) (two_one _ _) (by unfold maxLen; omega) (by omega) (by first | omega | (simp; omega)) ?_; intro v' w3 hown3 hgrow3 hnil3)
      go_roundw
      case rel =>
        refine ⟨j + 1, by omega, by go_num, ?_, app_below hB hown (Nat.le_refl _) hz hgrow3⟩
        rw [HS.out, subsV_snoc, List.length_append]
        exact hown3
      case measure => simp [intOf]; omega
    · obtain rfl : j = P.length := by omega
      have ho := Lib.hid (show wr.ownsRow w.heap.size 112 2 u5 (labelsL 1 d u).length (subsV (labelsL 1 d u)) from by rw [HL.out]; exact ownsRow_mono hown hB1.size)
      clear hown HC
      go_wp2_with fail
      go_returns
      exact ⟨_, rfl, ho.out, hB1.trans (hB.mono hB1.size)⟩
end Go.Proofs.Ytpnfghpcpjpppaa
