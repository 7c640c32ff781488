/- The reference's LabelsOf, of the kinds 2 and 3. -/
import Derived.Test.YtpnfghpcpjpppaaRm
namespace Go.Proofs.Ytpnfghpcpjpppaa
open Go.RowKit
set_option linter.unusedVariables false
set_option linter.unusedSimpArgs false

set_option maxRecDepth 20000 in
set_option maxHeartbeats 4000000 in
theorem rLabelsOf_2 (k d u : Int) (w : World) (k1 : 2 ≤ k) (k3 : k ≤ 3) (d0 : 0 ≤ d) (d6 : d ≤ 6) (u0 : 0 ≤ u) (u1 : u < sz d) :
    Calls Try.prog 131 #[.agg #[.int .u8 k, .int .i64 d, .int .i64 0, .int .u64 0, .int .u64 0, .int .u64 0], .int .i64 u] w fun e w' => ∃ v, e = .returned v ∧ w'.ownsRow w.heap.size 112 2 v (labelsL k d u).length (subsV (labelsL k d u)) ∧ Below w.heap.size w w' := by
  obtain ⟨i0, hi, iz0, iz1, iz2⟩ := info_parts info112
  obtain ⟨z1, z2⟩ := sz_bd d d0 d6
  have CR := fun w => Receivers_any d w d0 d6
  rw [show (2 : Int) ^ d.toNat = sz d from rfl] at CR
  have HL := Lib.hid (show labelsL k d u = lab2 (fun x => subsetB k d x.1 x.2) (rootPath (sz d + u)) (rootPath (sz d + u)).length from by rw [lab2_full]; unfold labelsL; rw [if_neg (by omega)])
  have hur := under_root (l := sz d + u) (by omega) (by omega)
  have CP := fun w => rPath_any 1 (sz d + u) w hur
  have CI := fun n m w => rIsSubset_any k d n m w (by omega) k3 d0 d6
  have hPl0 := pathOf_len hur
  rw [show 1 :: pathOf 1 (sz d + u) = rootPath (sz d + u) from rfl] at CP
  have hPl : (rootPath (sz d + u)).length ≤ 7 := by unfold rootPath; simp; omega
  generalize rootPath (sz d + u) = P at *
  generalize sz d = z at *
  have hkf : (k == 1) = false := by simp; omega
  clear hur
  go_enter Try.func131, Try.ntmps131
  go_wp2_with (first | (go_at_call 65; refine (CR _).mono ?_; rintro e w1 ⟨rfl, rfl⟩))
  refine calls_world' ?_
  intro W0 hW0
  have hB0 : Below w.heap.size w W0 := by rw [← hW0]; exact (Below.refl _ _).alloc (Nat.le_refl _) _
  have hk0 : W0.cell? ⟨w.heap.size, 0, none⟩ = some (.int .u8 k) ∧ W0.cell? ⟨w.heap.size, 1, none⟩ = some (.int .i64 d) ∧ W0.cell? ⟨w.heap.size, 2, none⟩ = some (.int .i64 0) ∧ W0.cell? ⟨w.heap.size, 3, none⟩ = some (.int .u64 0) ∧ W0.cell? ⟨w.heap.size, 4, none⟩ = some (.int .u64 0) ∧ W0.cell? ⟨w.heap.size, 5, none⟩ = some (.int .u64 0) := by rw [← hW0]; simp [go_sem]
  clear hW0
  refine (CP _).mono ?_
  rintro e W1 ⟨v, rfl, hown, hb⟩
  have hlt0 := cell_lt' hk0.1
  have hk1 : ∀ o, W1.cell? ⟨w.heap.size, o, none⟩ = W0.cell? ⟨w.heap.size, o, none⟩ := fun o => hb.cell (p := ⟨w.heap.size, o, none⟩) hlt0
  have hB1 : Below w.heap.size w W1 := hB0.trans (hb.mono hB0.size)
  have hlt1 : w.heap.size < W1.heap.size := Nat.lt_of_lt_of_le hlt0 hb.size
  obtain ⟨q0, q1, q2, q3, q4, q5⟩ := hk0
  rw [← hk1] at q0 q1 q2 q3 q4 q5
  have HR := (show Ints W1 v P from Reads.of_owns hown)
  obtain ⟨a, cap, rfl, hcap, hmax, hcell⟩ := HR.open
  have HC := Lib.hid hcell
  unfold maxLen at hmax
  have HQ : Hid (∀ W, Below W1.heap.size W1 W → W.cell? ⟨w.heap.size, 0, none⟩ = some (.int .u8 k) ∧ W.cell? ⟨w.heap.size, 1, none⟩ = some (.int .i64 d) ∧ W.cell? ⟨w.heap.size, 2, none⟩ = some (.int .i64 0) ∧ W.cell? ⟨w.heap.size, 3, none⟩ = some (.int .u64 0) ∧ W.cell? ⟨w.heap.size, 4, none⟩ = some (.int .u64 0) ∧ W.cell? ⟨w.heap.size, 5, none⟩ = some (.int .u64 0)) := fun W h =>
    ⟨(h.cell (p := ⟨w.heap.size, 0, none⟩) hlt1).trans q0, (h.cell (p := ⟨w.heap.size, 1, none⟩) hlt1).trans q1, (h.cell (p := ⟨w.heap.size, 2, none⟩) hlt1).trans q2, (h.cell (p := ⟨w.heap.size, 3, none⟩) hlt1).trans q3, (h.cell (p := ⟨w.heap.size, 4, none⟩) hlt1).trans q4, (h.cell (p := ⟨w.heap.size, 5, none⟩) hlt1).trans q5⟩
  clear hcell hown HR hb hB0 q1 q2 q3 q4 q5 hk1
  have hB1H := Lib.hid hB1
  clear hB1
  have hnil := World.ownsRow_nil W1 W1.heap.size 112 2
  go_upto_region 9 with (fail)
  generalize hvn : Value.slice none 0 0 = vn at *
  clear hvn
  go_wp2_with (at_builtin; refine wpList_append_own _ rfl _ _ 40 rfl W1.heap.size 112 i0 (.agg #[.int .i64 0, .int .i64 0]) 2 16 Try.underlying40 hi iz0 iz1 iz2 rfl (by decide) _ _ _ rfl (hnil.alloc _) ⟨_, 0, none⟩ 1 1 [.int .i64 1, .int .i64 0] rfl rfl (pair_new _ _ _ _) (two_one _ _) (by unfold maxLen; omega) (by omega) (by first | omega | (simp; omega) | simp) ?_; intro v' w3 hown3 hgrow3 hnil3)
  have hb3 : Below W1.heap.size W1 w3 := app_below (Below.refl _ _) hnil (Nat.le_refl _) (Nat.le_refl _) hgrow3
  have ho3 : w3.ownsRow W1.heap.size 112 2 v' (lab2 (fun x => subsetB k d x.1 x.2) P 0).length (subsV (lab2 (fun x => subsetB k d x.1 x.2) P 0)) := hown3
  clear hown3 hgrow3 hnil3 hnil q0
  generalize hf : (fun x : Int × Int => subsetB k d x.1 x.2) = f at *
  have HF : Hid (∀ n m, subsetB k d n m = f (n, m)) := fun n m => by subst hf; rfl
  clear hf
  go_loopw [5, 8] (fun o i wr => ∃ j : Nat, j ≤ P.length ∧ i = .int .i64 j ∧ wr.ownsRow W1.heap.size 112 2 o (lab2 f P j).length (subsV (lab2 f P j)) ∧ Below W1.heap.size W1 wr) (fun _ i _ => P.length - (intOf i).toNat)
  case atStart => exact ⟨0, Nat.zero_le _, rfl, ho3, hb3⟩
  case round =>
    obtain ⟨j, hj, rfl, hown, hB⟩ := hrel
    clear ho3 hb3
    obtain ⟨wo, rfl⟩ : ∃ wo : World, wo = wr := ⟨_, rfl⟩
    by_cases hlt : j < P.length
    · rw [← lab3_zero f P j] at hown
      obtain ⟨g, off, rfl, e0⟩ := HC.out j hlt
      have hg := cell_lt' e0
      have e0H := Lib.hid e0
      clear e0
      go_wp2_with fail
      go_loopw [5, 9] (fun o i wr => ∃ m : Nat, j + 1 + m ≤ P.length ∧ i = .int .i64 ((j + 1 + m : Nat) : Int) ∧ wr.ownsRow W1.heap.size 112 2 o (lab3 f P j m).length (subsV (lab3 f P j m)) ∧ Below W1.heap.size W1 wr) (fun _ i _ => P.length - (intOf i).toNat)
      case atStart => exact ⟨0, by omega, by go_num, hown, hB⟩
      case round =>
        obtain ⟨m, hm, rfl, hown2, hB2⟩ := hrel
        clear hown hB
        have hlen := lab3_len f P j m hPl (by omega)
        by_cases hlt2 : j + 1 + m < P.length
        · obtain ⟨g', off', he, e2⟩ := HC.out (j + 1 + m) hlt2
          simp only [Option.some.injEq, Addr.mk.injEq, and_true] at he
          obtain ⟨rfl, rfl⟩ := he
          have e1r := (hB2.cell (p := ⟨g, off + j, none⟩) hg).trans e0H.out
          have e2r := (hB2.cell (p := ⟨g, off + (j + 1 + m), none⟩) hg).trans e2
          have HS := Lib.hid (lab3_succ f P j m hlt2)
          have CIx := CI (P.getD j 0) (Go.bits .xor .i64 (P.getD (j + 1 + m) 0) 1)
          rw [HF.out] at CIx
          clear e2 CI
          generalize P.getD j 0 = x at *
          generalize P.getD (j + 1 + m) 0 = y at *
          generalize lab3 f P j m = L at *
          have hqe : (((j + 1 + m : Nat) : Int) + 1) = ((j + 1 + (m + 1) : Nat) : Int) := by omega
          have HQE := Lib.hid hqe
          clear hqe
          generalize hq : j + 1 + m = q at *
          have HQQ := Lib.hid hq
          clear hq
          have hj0 : (0 : Int) ≤ (j : Int) := by omega
          have hj1 : (j : Int) < (P.length : Int) := by omega
          have hk0 : (0 : Int) ≤ (q : Int) := by omega
          have hk1 : (q : Int) < (P.length : Int) := by omega
          have n1 := World.new_ne wr _ e1r
          have n2 := World.new_ne wr _ e2r
          obtain ⟨s0, s1, s2, s3, s4, s5⟩ := HQ.out wr hB2
          have hz := hB2.size
          have hltr : w.heap.size < wr.heap.size := by omega
          go_wp2_with fail
          go_region_held3 (fun w' => w'.cell? ⟨g, off + j, none⟩ = some (.int .i64 x) ∧ w'.cell? ⟨g, off + q, none⟩ = some (.int .i64 y)) (go_keep) (fail)
          clear n1 n2 e1r e2r
          have hBn := (hB2.alloc hz (.cells #[.int .i64 x, .int .i64 (Go.bits .xor .i64 y 1)] 112)).drew
          cases hfb : f (x, Go.bits .xor .i64 y 1) with
          | true =>
            rw [hfb] at CIx
            have HFB := Lib.hid hfb
            clear hfb
            generalize Go.bits .xor .i64 y 1 = yy at *
            go_wp2_with fail
            refine (CIx _).mono ?_
            rintro e w4 ⟨rfl, hb4⟩
            have hown4 := ownsRow_below (World.ownsRow.drew (hown2.alloc (.cells #[.int .i64 x, .int .i64 yy] 112))) hb4
            have hB4 := hBn.trans (hb4.mono hBn.size)
            have hz4 := hB4.size
            have cx : w4.cell? ⟨wr.heap.size, 0, none⟩ = some (.int .i64 x) := (hb4.cell (p := ⟨wr.heap.size, 0, none⟩) (by simp)).trans (by simp [go_sem])
            have cy : w4.cell? ⟨wr.heap.size, 1, none⟩ = some (.int .i64 yy) := (hb4.cell (p := ⟨wr.heap.size, 1, none⟩) (by simp)).trans (by simp [go_sem])
            clear hown2 hB2 hb4 hBn s0 s1 s2 s3 s4 s5
            go_wp2_with (at_builtin; refine wpList_append_own _ rfl _ _ 40 rfl W1.heap.size 112 i0 (.agg #[.int .i64 0, .int .i64 0]) 2 16 Try.underlying40 hi iz0 iz1 iz2 rfl (by decide) _ _ _ rfl (hown4.alloc _) ⟨_, 0, none⟩ 1 1 [.int .i64 x, .int .i64 yy] rfl rfl (pair_new _ _ _ _) (two_one _ _) (by unfold maxLen; omega) (by omega) (by first | omega | (simp; omega) | simp) ?_; intro v' w5 hown5 hgrow5 hnil5)
            go_roundw
            case rel =>
              refine ⟨m + 1, by have := HQQ.out; omega, by rw [HQE.out], ?_, app_below hB4 hown4 (Nat.le_refl _) hz4 hgrow5⟩
              rw [HS.out, if_pos HFB.out, subsV_snoc, List.length_append]
              exact hown5
            case measure => simp [intOf]; omega
          | false =>
            rw [hfb] at CIx
            have HFB := Lib.hid hfb
            clear hfb
            generalize Go.bits .xor .i64 y 1 = yy at *
            go_wp2_with fail
            refine (CIx _).mono ?_
            rintro e w4 ⟨rfl, hb4⟩
            have hown4 := ownsRow_below (World.ownsRow.drew (hown2.alloc (.cells #[.int .i64 x, .int .i64 yy] 112))) hb4
            have hB4 := hBn.trans (hb4.mono hBn.size)
            clear hown2 hB2 hb4 hBn s0 s1 s2 s3 s4 s5
            go_wp2_with fail
            go_roundw
            case rel =>
              refine ⟨m + 1, by have := HQQ.out; omega, by rw [HQE.out], ?_, hB4⟩
              rw [HS.out, if_neg (by rw [HFB.out]; simp), List.append_nil]
              exact hown4
            case measure => simp [intOf]; omega
        · have hme : m = (P.drop (j + 1)).length := by simp; omega
          rw [hme, lab2_succ] at hown2
          have hmj : j + 1 + m = P.length := by omega
          have HO := Lib.hid hown2
          clear hown2 hme
          go_wp2_with fail
          go_roundw
          case rel => exact ⟨j + 1, by omega, by go_num, HO.out, hB2⟩
          case measure => simp [intOf]; omega
    · obtain rfl : j = P.length := by omega
      have ho := Lib.hid (show wo.ownsRow w.heap.size 112 2 u5 (labelsL k d u).length (subsV (labelsL k d u)) from by rw [HL.out]; exact ownsRow_mono hown hB1H.out.size)
      clear hown HC
      go_wp2_with fail
      go_returns
      exact ⟨_, rfl, ho.out, hB1H.out.trans (hB.mono hB1H.out.size)⟩
end Go.Proofs.Ytpnfghpcpjpppaa
