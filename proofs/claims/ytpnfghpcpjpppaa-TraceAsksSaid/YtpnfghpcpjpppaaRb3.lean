/- The reference's boxes: subsets, Opens. -/
import Derived.Test.YtpnfghpcpjpppaaRb2
import Derived.Deep.RegionHeld3
namespace Go.Proofs.Ytpnfghpcpjpppaa
open Go.RowKit
set_option linter.unusedVariables false
set_option linter.unusedSimpArgs false

/-- What holds of the worlds of a round of Opens. -/
abbrev opS (N : Nat) (s : Sch) (v : Value) (a0 a1 : Addr) (x0 x1 : Int) (W w' : World) : Prop :=
  w'.cell? ⟨N, 0, none⟩ = some (.int .u8 s.k) ∧ w'.cell? ⟨N, 1, none⟩ = some (.int .i64 s.d) ∧ w'.cell? ⟨N, 2, none⟩ = some (.int .i64 s.g) ∧ w'.cell? ⟨N, 3, none⟩ = some (.int .u64 s.p) ∧ w'.cell? ⟨N, 4, none⟩ = some (.int .u64 s.q) ∧ w'.cell? ⟨N, 5, none⟩ = some (.int .u64 s.r) ∧ w'.cell? ⟨N, 6, none⟩ = some v ∧
  w'.cell? a0 = some (.int .i64 x0) ∧ w'.cell? a1 = some (.int .i64 x1) ∧ Below W.heap.size W w'
theorem opS_of {N : Nat} {b : Bx} {v : Value} {g o0 o1 : Nat} {x0 x1 : Int} {W w' : World} (h : BoxAt W N b v) (h0 : W.cell? ⟨g, o0, none⟩ = some (.int .i64 x0)) (h1 : W.cell? ⟨g, o1, none⟩ = some (.int .i64 x1)) (hb : Below W.heap.size W w') : opS N b.s v ⟨g, o0, none⟩ ⟨g, o1, none⟩ x0 x1 W w' := by
  have h' := h.below hb h.lt
  exact ⟨h'.cell 0 rfl, h'.cell 1 rfl, h'.cell 2 rfl, h'.cell 3 rfl, h'.cell 4 rfl, h'.cell 5 rfl, h'.cell 6 rfl, (hb.cell (p := ⟨g, o0, none⟩) (cell_lt' h0)).trans h0, (hb.cell (p := ⟨g, o1, none⟩) (cell_lt' h1)).trans h1, hb⟩

theorem opS_below {N : Nat} {s : Sch} {v : Value} {a0 a1 : Addr} {x0 x1 : Int} {W w' : World} (h : opS N s v a0 a1 x0 x1 W w') : Below W.heap.size W w' := h.2.2.2.2.2.2.2.2.2
theorem opS_call {N : Nat} {s : Sch} {v : Value} {a0 a1 : Addr} {x0 x1 : Int} {W w' w1 : World} (h : opS N s v a0 a1 x0 x1 W w') (hb : Below w'.heap.size w' w1) : Below W.heap.size W w1 := (opS_below h).trans (hb.mono (opS_below h).size)

set_option maxRecDepth 20000 in
set_option maxHeartbeats 4000000 in
theorem rOpens_any (b : Bx) (v vl : Value) (xs : List (Int × Int)) (w : World) (h16 : b.seed.length = 16) (hs : b.s.ok) (hv : Ints w v b.co) (hl : b.co.length ≤ 1000000) (hco : listB b.s.d b.co = true) (hx : Subs w vl xs) (hxl : xs.length ≤ 64) (hall : (xs.all fun x => subsetB b.s.k b.s.d x.1 x.2) = true) :
    Calls Try.prog 44 #[b.val v, vl] w fun e w' => ∃ u, e = .returned u ∧ w'.ownsRow w.heap.size 4 1 u xs.length ((askOs b xs).map Value.bool) ∧ Below w.heap.size w w' := by
  obtain ⟨va, vc, rfl, -⟩ := hv.open
  have HBX : BoxAt (w.alloc (.cells (b.cells (.slice va b.co.length vc)).toArray 39)) w.heap.size b (.slice va b.co.length vc) := by unfold BoxAt; exact World.alloc_heap_new w _
  unfold Bx.val
  obtain ⟨a, cap, rfl, hcap, hmax, hcell⟩ := hx.open
  clear hx
  unfold maxLen at hmax
  have HC := Lib.hid hcell
  clear hcell
  obtain ⟨i0, hi, iz0, iz1, iz2⟩ := info_parts Try.info4
  have HALL := Lib.hid hall
  clear hall
  generalize hL : b.cells (.slice va b.co.length vc) = L at *
  have HL := Lib.hid hL
  clear hL
  go_enter Try.func44, Try.ntmps44
  go_wp2_with fail
  refine wp_world ?_
  intro W1 hW1
  have hB1 : Below w.heap.size w W1 := by rw [← hW1]; exact (Below.refl _ _).alloc (Nat.le_refl _) _
  have hs1 : W1.heap.size = w.heap.size + 1 := by rw [← hW1]; simp
  have hX1 := Lib.hid (show BoxAt W1 w.heap.size b (.slice va b.co.length vc) from hW1 ▸ HBX)
  clear hW1 HBX
  go_loopw [5, 6] (fun o i wr => ∃ j : Nat, j ≤ xs.length ∧ i = .int .i64 j ∧ wr.ownsRow (w.heap.size + 1) 4 1 o j (((askOs b xs).take j).map Value.bool) ∧ Below (w.heap.size + 1) W1 wr ∧ Below w.heap.size w wr)
    (fun _ i _ => xs.length - (intOf i).toNat)
  case atStart => exact ⟨0, Nat.zero_le _, rfl, World.ownsRow_nil _ _ _ _, Below.refl _ _, hB1⟩
  case round =>
    obtain ⟨j, hj, rfl, hown, hB2, hB⟩ := hrel
    by_cases hlt : j < xs.length
    · obtain ⟨g, off, rfl, e0, e1⟩ := HC.out j hlt
      have e0r := (hB.cell (p := ⟨g, off + j * 2, none⟩) (cell_lt' e0)).trans e0
      have e1r := (hB.cell (p := ⟨g, off + j * 2 + 1, none⟩) (cell_lt' e0)).trans e1
      have hsub : subsetB b.s.k b.s.d (xs.getD j (0, 0)).1 (xs.getD j (0, 0)).2 = true := by
        have := List.all_eq_true.1 HALL.out xs[j] (List.getElem_mem hlt)
        rwa [show xs.getD j (0, 0) = xs[j] from by simp [List.getD, hlt]]
      have CK := fun W (h : Below wr.heap.size wr W) => rKnows_any b.s.k b.s.d b.s.g b.s.p b.s.q b.s.r _ b.co (xs.getD j (0, 0)).1 (xs.getD j (0, 0)).2 W hs ((hv.below hB).below h) hl hco hsub
      have hnx : (askOs b xs).take (j + 1) = (askOs b xs).take j ++ [anyIn (membersL b.s.d (xs.getD j (0, 0)).1 (xs.getD j (0, 0)).2) b.co] := by
        rw [List.take_add_one]
        unfold askOs opensL memsL
        simp [List.getElem?_eq_getElem hlt, List.getD]
      have HNX := Lib.hid hnx
      have HXr := hX1.out.below hB2 (Nat.lt_succ_self _)
      have S0 := fun W (h : Below wr.heap.size wr W) => opS_of HXr e0r e1r h
      have hz : w.heap.size + 1 ≤ wr.heap.size := by have := hB2.size; omega
      have HXR := Lib.hid HXr
      clear hnx hsub e0 e1 HXr
      generalize anyIn (membersL b.s.d (xs.getD j (0, 0)).1 (xs.getD j (0, 0)).2) b.co = r at *
      generalize (xs.getD j (0, 0)).1 = x0 at *
      generalize (xs.getD j (0, 0)).2 = x1 at *
      generalize (askOs b xs).take j = O at *
      have hj0 : (0 : Int) ≤ (j : Int) := by omega
      have hj1 : (j : Int) < (xs.length : Int) := by omega
      go_wp2_with fail
      go_region_held3 (fun w' => opS w.heap.size b.s (.slice va b.co.length vc) ⟨g, off + j * 2, none⟩ ⟨g, off + j * 2 + 1, none⟩ x0 x1 wr w') (first | exact S0 _ (Below.refl _ _).drew | exact S0 _ hcall)
        (first
          | (go_at_call 77; refine (CK _ (opS_below (by assumption))).mono ?_; rintro e w2 ⟨rfl, hb⟩; have hcall := opS_call (by assumption) hb; clear hb))
      rename_i w2 hcall hHeld
      have hbw := opS_below hHeld
      have hown2 := ownsRow_below hown hbw
      have hB22 := hB2.trans (hbw.mono hz)
      have hBB := hB.trans (hbw.mono hB.size)
      have hz2 := hbw.size
      clear hHeld hcall S0 CK hbw
      go_wp2_with (at_builtin; refine wpList_append_own _ rfl _ _ 92 rfl (w.heap.size + 1) 4 i0 (.bool false) 1 1 Try.underlying92 hi iz0 iz1 iz2 rfl (by decide) _ _ _ rfl (hown2.alloc _) ⟨_, 0, none⟩ 1 1 [.bool r] rfl rfl (cell_one_new _ _ _) (by intro u hu; simp at hu; subst hu; rfl) (by unfold maxLen; omega) (by omega) (by first | omega | (simp; omega)) ?_; intro v' w3 hown3 hgrow3 hnil3)
      go_roundw
      case rel =>
        refine ⟨j + 1, hlt, by go_num, ?_, app_below hB22 hown2 (Nat.le_refl _) (by omega) hgrow3, app_below hBB hown2 (by omega) (by omega) hgrow3⟩
        rw [HNX.out, List.map_append]
        exact hown3
      case measure => simp [intOf]; omega
    · obtain rfl : j = xs.length := by omega
      have ho' := Lib.hid (show wr.ownsRow w.heap.size 4 1 u5 xs.length ((askOs b xs).map Value.bool) from by have := ownsRow_mono (base' := w.heap.size) hown (Nat.le_succ _); rwa [List.take_of_length_le (by rw [askOs_len]; exact Nat.le_refl _)] at this)
      clear hown HC
      go_wp2_with fail
      go_returns
      exact ⟨_, rfl, ho'.out, hB⟩
end Go.Proofs.Ytpnfghpcpjpppaa
