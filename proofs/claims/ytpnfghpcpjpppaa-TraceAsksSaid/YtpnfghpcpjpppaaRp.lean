/- The reference's paths: Path, between; subsets of a scheme. -/
import Derived.Test.YtpnfghpcpjpppaaRa
import Derived.Test.YtpnfghpcpjpppaaMem
import Derived.Test.YtpnfghpcpjpppaaApp
namespace Go.Proofs.Ytpnfghpcpjpppaa
open Go.RowKit
set_option linter.unusedVariables false
set_option linter.unusedSimpArgs false

theorem up_fin : ((List.range 128).all fun t => (List.range 128).all fun x => decide (x < 2) || !(belowB (t : Int) (x : Int)) || (belowB (t : Int) ((x : Int) / 2) && decide (toward ((x : Int) / 2) t = x))) = true := by decide +kernel
theorem up_step {t x : Int} (h : under t x) (h2 : 2 ≤ x) : under t (x / 2) ∧ toward (x / 2) t = x := by
  obtain ⟨h1, h7, h3, h4, h5⟩ := h
  have a := List.all_eq_true.1 (List.all_eq_true.1 up_fin t.toNat (List.mem_range.2 (by omega))) x.toNat (List.mem_range.2 (by omega))
  rw [show ((t.toNat : Nat) : Int) = t from by omega, show ((x.toNat : Nat) : Int) = x from by omega, h5] at a
  simp only [Bool.not_true, Bool.or_false, Bool.or_eq_true, decide_eq_true_eq, Bool.and_eq_true] at a
  rcases a with a | ⟨a1, a2⟩
  · omega
  · exact ⟨⟨by omega, by omega, h3, h4, a1⟩, a2⟩
theorem root_of {x v : Int} (h : under x v) (hne : x ≠ v) : 2 ≤ x := by
  obtain ⟨h1, h7, h3, h4, h5⟩ := h
  rcases (show x = 1 ∨ 2 ≤ x by omega) with rfl | h
  · have := (below_half (w := 1) (v := v) (by omega) (by omega) h1 h7).2 (by omega)
    rw [h5] at this
    have := eq_of_beq this.symm
    omega
  · exact h
theorem pathOf_up {t x : Int} (h : under t x) (h2 : 2 ≤ x) : pathOf (x / 2) t = x :: pathOf x t := by
  obtain ⟨h1, h3⟩ := up_step h h2
  have hne : x / 2 ≠ t := fun e => by
    have hl := under_le h
    have := lvl_half h2 h.2.1
    rw [← e] at hl
    omega
  rw [pathOf_step h1 hne, h3]
theorem pathOf_len {t v : Int} (h : under t v) : (pathOf v t).length ≤ 6 := by
  have key : ∀ k (v : Int), (pathL k v t).length = k := fun k => by
    induction k with
    | zero => intro v; rfl
    | succ k ih => intro v; simp [pathL, ih]
  unfold pathOf
  rw [key]
  have h1 := lvl_bd t h.2.2.1 h.2.2.2.1
  have h2 := lvl_bd v h.1 h.2.1
  omega

set_option maxHeartbeats 1000000 in
theorem rPath_any (v t : Int) (w : World) (h : under t v) :
    Calls Try.prog 130 #[.int .i64 v, .int .i64 t] w fun e w' => ∃ u, e = .returned u ∧ w'.ownsRow w.heap.size 3 1 u (v :: pathOf v t).length ((v :: pathOf v t).map (Value.int .i64)) ∧ Below w.heap.size w w' := by
  obtain ⟨i0, hi, iz0, iz1, iz2⟩ := info_parts Try.info3
  have H := Lib.hid h
  obtain ⟨v1, v7, t1, t7, -⟩ := h
  go_enter Try.func130, Try.ntmps130
  go_wp2
  go_loopw [1, 5] (fun a o wr => ∃ x : Int, a = .int .i64 x ∧ Hid (under x v) ∧ Hid (under t x) ∧ wr.ownsRow w.heap.size 3 1 o (pathOf x t).length ((pathOf x t).map (Value.int .i64)) ∧ Below w.heap.size w wr)
    (fun a _ _ => (intOf a).toNat)
  case atStart =>
    refine ⟨t, rfl, H, ⟨t1, t7, t1, t7, ?_⟩, ?_, Below.refl _ _⟩
    · have := (below_half t1 t7 t1 t7).2 (by omega)
      rw [this]
      simp
    · rw [pathOf_same]
      exact World.ownsRow_nil _ _ _ _
  case round =>
    obtain ⟨x, rfl, HX, HT, hown, hB⟩ := hrel
    obtain ⟨x1, x7⟩ : 1 ≤ x ∧ x ≤ 127 := ⟨HT.out.1, HT.out.2.1⟩
    have hlen := pathOf_len HT.out
    have hni := NiceS.of_owns hown
    have hz := hB.size
    have hL := Lib.hid (rfl : pathOf x t = pathOf x t)
    obtain ⟨P, hP⟩ : ∃ P, pathOf x t = P := ⟨_, rfl⟩
    rw [hP] at hown hlen hL
    have HP := Lib.hid hP
    clear hP
    by_cases hne : x = v
    · subst hne
      have hq : (x != x) = false := by simp
      go_wp2_with (at_builtin; refine wpList_append_reads rfl _ _ 35 rfl w.heap.size 3 i0 (.int .i64 0) 1 8 Try.underlying35 hi iz0 iz1 iz2 rfl (by decide) _ 1 [.int .i64 x] rfl (World.ownsRow_lit wr #[.int .i64 x] 1 hz (by decide) rfl) u5 P.length (P.map (Value.int .i64)) rfl hni ((Reads.of_owns hown).below ((Below.refl _ _).alloc (Nat.le_refl _) _)) (ints_one P) (by unfold maxLen; omega) (by omega) (by first | omega | (simp; omega)) ?_; intro v' w3 hown3 hgrow3 hnil3)
      go_returns
      refine ⟨v', rfl, ?_, (hB.alloc hz _).grown hgrow3 (by simp; omega) (fun k hk => by cases hk; exact hz)⟩
      have h9 := HP.out
      subst h9
      rw [Nat.add_comm 1] at hown3
      exact hown3
    · have hq : (x != v) = true := by simp [hne]
      have h2 := root_of HX.out hne
      have HU := Lib.hid (under_half HX.out hne)
      have HS := Lib.hid (up_step HT.out h2)
      have HPU := Lib.hid (pathOf_up HT.out h2)
      go_wp2_with (at_builtin; refine wpList_append_reads rfl _ _ 35 rfl w.heap.size 3 i0 (.int .i64 0) 1 8 Try.underlying35 hi iz0 iz1 iz2 rfl (by decide) _ 1 [.int .i64 x] rfl (World.ownsRow_lit wr #[.int .i64 x] 1 hz (by decide) rfl) u5 P.length (P.map (Value.int .i64)) rfl hni ((Reads.of_owns hown).below ((Below.refl _ _).alloc (Nat.le_refl _) _)) (ints_one P) (by unfold maxLen; omega) (by omega) (by first | omega | (simp; omega)) ?_; intro v' w3 hown3 hgrow3 hnil3)
      go_roundw
      case rel =>
        refine ⟨x / 2, rfl, HU, HS.out.1, ?_, (hB.alloc hz _).grown hgrow3 (by simp; omega) (fun k hk => by cases hk; exact hz)⟩
        rw [HPU.out, HP.out]
        exact (show 1 + P.length = (x :: P).length from by simp; omega) ▸ hown3
      case measure => simp [intOf]; omega
end Go.Proofs.Ytpnfghpcpjpppaa
