/- The reference's boxes: TwinBox. -/
import Derived.Test.YtpnfghpcpjpppaaRb1
namespace Go.Proofs.Ytpnfghpcpjpppaa
open Go.RowKit
set_option linter.unusedVariables false
set_option linter.unusedSimpArgs false

/-- The start of a function that takes a box and hands one back. -/
theorem askAt_start {b : Bx} (h16 : b.seed.length = 16) (v : Value) (w : World) (Z : Array Value) (hZ : Z.size = 28) : AskAt w b v ((w.alloc (.cells (b.cells v).toArray 39)).alloc (.cells Z 39)) :=
  ⟨BoxAt.below (w := w.alloc (.cells (b.cells v).toArray 39)) (by unfold BoxAt; exact World.alloc_heap_new w _) ((Below.refl _ _).alloc (Nat.le_refl _) _) (by simp),
    ⟨Z, hZ, by have := World.alloc_heap_new (w.alloc (.cells (b.cells v).toArray 39)) (.cells Z 39); rw [World.size_alloc] at this; exact this⟩,
    ((Below.refl _ _).alloc (Nat.le_refl _) _).alloc (by simp) _, by simp⟩

/-- A slice that is nil, or has an address. -/
def Nice (v : Value) : Prop := v = .slice none 0 0 ∨ ∃ ad n c, v = .slice (some ad) n c
theorem Nice.of_owns {w : World} {base : Nat} {e : TypeId} {size : Nat} {v : Value} {n : Nat} {xs : List Value} (h : w.ownsRow base e size v n xs) : Nice v := by
  obtain ⟨h0, h1⟩ := h
  rcases h1 with ⟨rfl, -⟩ | ⟨g, cap, cur, rfl, -⟩
  · exact .inl rfl
  · exact .inr ⟨_, _, _, rfl⟩
theorem own_empty (w : World) (e : TypeId) {N : Nat} (hN : N = w.heap.size) (base : Nat) (hb : base ≤ N) : (w.alloc (.cells #[] e)).ownsRow base e 1 (.slice (some ⟨N, 0, none⟩) 0 0) 0 [] := by
  subst hN
  exact ⟨rfl, .inr ⟨_, 0, #[], rfl, hb, World.alloc_heap_new w _, by omega, by unfold maxLen; omega, rfl, rfl⟩⟩

theorem AskAt.grown {w W W' : World} {b : Bx} {v : Value} (h : AskAt w b v W) {row : Option Nat} (hg : W.grownBy W' row) (hr : ∀ k, row = some k → w.heap.size + 2 ≤ k) : AskAt w b v W' := by
  have hs := h.siz
  have hsz := hg.size
  obtain ⟨Z, hz, hz2⟩ := h.res
  have hb : ∀ k, k < w.heap.size + 2 → W'.heap[k]? = W.heap[k]? := fun k hk => hg.block k (by omega) (fun e => by have := hr k e.symm; omega)
  exact ⟨(hb _ (by omega)).trans h.box, ⟨Z, hz, (hb _ (by omega)).trans hz2⟩, h.bel.grown hg (by omega) (fun k hk => by have := hr k hk; omega), by omega⟩
theorem wpList_world {P : Program} {ops : Array Oper} {Q : Exit → Act → World → Prop} {l : List Oper} {a : Act} {w : World} (h : ∀ W, w = W → wpList P ops Q l a W) : wpList P ops Q l a w := h w rfl

set_option maxRecDepth 20000 in
set_option maxHeartbeats 2000000 in
theorem rTwinBox_any (b : Bx) (v : Value) (w : World) (h16 : b.seed.length = 16) (hv : Ints w v b.co) (hn : Nice v) (hl : b.co.length ≤ 1000000) :
    Calls Try.prog 11 #[b.val v] w fun e w' => ∃ v', e = .returned (b.val v') ∧ w'.ownsRow w.heap.size 3 1 v' b.co.length (b.co.map (Value.int .i64)) ∧ Below w.heap.size w w' := by
  obtain ⟨i0, hi, iz0, iz1, iz2⟩ := info_parts Try.info3
  unfold Bx.val
  have HZ := askAt_start h16 v w zeroL.toArray rfl
  have hbn := box_new h16 v w 39
  have hlc : (b.co.map (Value.int .i64)).length = b.co.length := by simp
  have hoc : ∀ u ∈ b.co.map (Value.int .i64), u.oneCell' = true := fun u hu => by obtain ⟨x, -, rfl⟩ := List.mem_map.1 hu; rfl
  have hl6 : (b.cells v)[6]? = some v := rfl
  generalize hL : b.cells v = L at *
  have HL := Lib.hid hL
  dsimp only at hbn
  obtain ⟨-, -, -, -, -, -, c6, -, -, -, -, -, -, -, cf⟩ := hbn
  have HV := Lib.hid hv
  obtain ⟨rc, hrc⟩ : ∃ rc, b.co.map (Value.int .i64) = rc := ⟨_, rfl⟩
  have HI : Hid (Reads 1 w v b.co.length rc) := Lib.hid (hrc ▸ hv)
  rw [hrc] at hlc hoc
  have HRC := Lib.hid hrc
  clear hv hL hrc HV
  have hlz := Bx.cells_len (b := b) h16
  have hI := info39
  have hzz : ∀ v, (b.cells v).toArray.size = 28 := fun v => by rw [List.size_toArray]; exact hlz v
  have hov : Value.oneCell' v = true := by rcases hn with rfl | ⟨ad, n, c, rfl⟩ <;> rfl
  rcases hn with rfl | ⟨ad, n, c, rfl⟩
  · have hz : b.co.length = 0 := by
      obtain ⟨-, a, cap, h1, h2, -⟩ := HI.out
      simp only [Value.slice.injEq] at h1
      omega
    have hrc0 : rc = [] := List.length_eq_zero_iff.1 (by omega)
    have HRC0 := Lib.hid hrc0
    clear hrc0 hlc
    have ho := own_empty ((w.alloc (.cells L.toArray 39)).alloc (.cells zeroL.toArray 39)) 3 (N := w.heap.size + 1 + 1) (by simp) (w.heap.size + 2) (by omega)
    have HZ0 := Lib.hid hz
    clear hz
    go_enter Try.func11, Try.ntmps11
    go_wp2_with (first
      | (at_builtin; refine wpList_append_own_none rfl _ _ 35 rfl (w.heap.size + 2) 3 i0 1 Try.underlying35 hi _ _ _ rfl ho rfl ?_; refine wpList_world ?_; intro W2 hW2; have A2 : AskAt w b (.slice none 0 0) W2 := hW2 ▸ HZ.step ((Below.refl _ _).alloc (Nat.le_refl _) _); have ho3 : W2.ownsRow (w.heap.size + 2) 3 1 (.slice (some ⟨w.heap.size + 1 + 1, 0, none⟩) 0 0) 0 [] := hW2 ▸ ho; have c26 := A2.box.cell 6 rfl; have f26 := (A2.box.facts h16).2.2.2.2.2.2; clear hW2)
      | (refine wpList_load_mid rfl 39 (.tmp 1) rfl w.heap.size 0 rfl (b.cells (.slice (some ⟨w.heap.size + 1 + 1, 0, none⟩) 0 0)) _ (A2.set6 h16 _).box.range Try.underlying39 rfl ((hlz _) ▸ hI) ?_)
      | (refine wpList_store_mid rfl 39 (.tmp 2) (.tmp 8) rfl (w.heap.size + 1) 0 (b.cells (.slice (some ⟨w.heap.size + 1 + 1, 0, none⟩) 0 0)).toArray rfl rfl ((hzz (.slice (some ⟨w.heap.size + 1 + 1, 0, none⟩) 0 0)) ▸ (A2.set6 h16 (.slice (some ⟨w.heap.size + 1 + 1, 0, none⟩) 0 0)).there) ((hzz (.slice (some ⟨w.heap.size + 1 + 1, 0, none⟩) 0 0)) ▸ hI) (all_oneCell_toArray (Bx.cells_one b rfl)) ?_; obtain ⟨W9, hW9, hr9, hb9, hk9⟩ := store_box (A2.set6 h16 (.slice (some ⟨w.heap.size + 1 + 1, 0, none⟩) 0 0)) (hlz (.slice (some ⟨w.heap.size + 1 + 1, 0, none⟩) 0 0)); rw [List.toList_toArray, hW9]; clear hW9))
    refine bodyPost_ret (v := .agg (b.cells (.slice (some ⟨w.heap.size + 1 + 1, 0, none⟩) 0 0)).toArray) (results_mid Try.results11 _ _ (w.heap.size + 1) (b.cells (.slice (some ⟨w.heap.size + 1 + 1, 0, none⟩) 0 0)) _ rfl hr9 Try.underlying39 rfl ((hlz _) ▸ hI)) rfl ⟨_, rfl, ?_, hb9⟩
    rw [HRC.out, HRC0.out, HZ0.out]
    exact ownsRow_mono (owns_move ho3 (fun k hk _ => (hk9 k (by omega)).trans (Below.heap_setCell _ _ _ _ (by show k ≠ w.heap.size; omega)))) (by omega)
  · have hn : n = b.co.length := by
      obtain ⟨-, a, cap, h1, h2, -⟩ := HI.out
      simp only [Value.slice.injEq] at h1
      omega
    subst hn
    have hnw : ∀ j u, rc[j]? = some u → w.cell? (ad.add j) = some u := fun j u hu => by
      obtain ⟨-, a, cap, h1, -, -, h4⟩ := HI.out
      simp only [Value.slice.injEq] at h1
      have hj := (List.getElem?_eq_some_iff.1 hu).1
      obtain ⟨g, off, rfl, hc⟩ := h4 (by omega)
      rw [show ad = ⟨g, off, none⟩ from by simpa using h1.1]
      have := hc j u hu
      by_cases h0 : j = 0
      · subst h0; simpa [Addr.add] using this
      · simpa [Addr.add, h0] using this
    have HNW := Lib.hid hnw
    have HLC := Lib.hid hlc
    clear hnw hlc
    have ho := own_empty ((w.alloc (.cells L.toArray 39)).alloc (.cells zeroL.toArray 39)) 3 (N := w.heap.size + 1 + 1) (by simp) (w.heap.size + 2) (by omega)
    go_enter Try.func11, Try.ntmps11
    go_wp2_with (first
      | (at_builtin; refine wpList_world ?_; intro W1 hW1; have A1 : AskAt w b _ W1 := hW1 ▸ HZ.step ((Below.refl _ _).alloc (Nat.le_refl _) _); have ho1 : W1.ownsRow (w.heap.size + 2) 3 1 _ 0 [] := hW1 ▸ ho; have hs1 := A1.siz; clear hW1; refine wpList_append_own _ rfl _ _ 35 rfl (w.heap.size + 2) 3 i0 (.int .i64 0) 1 8 Try.underlying35 hi iz0 iz1 iz2 rfl (by decide) _ _ _ rfl ho1 ad b.co.length c rc rfl (by rw [HLC.out]; omega) (fun j u hu => (A1.bel.cell (World.block_lt_of_cell? _ _ (HNW.out j u hu))).trans (HNW.out j u hu)) hoc (by unfold maxLen; omega) (by omega) (by omega) ?_; intro v' W2 ho3 hgr hnil; rw [Nat.zero_add, List.nil_append] at ho3; obtain ⟨pa, pc, rfl⟩ := ownsRow_slice ho3; have A2 := A1.grown hgr (fun k hk => by have e : w.heap.size + 1 + 1 = k := own_at hk; omega); have c26 := A2.box.cell 6 rfl; have f26 := (A2.box.facts h16).2.2.2.2.2.2; clear hgr hnil)
      | (refine wpList_load_mid rfl 39 (.tmp 1) rfl w.heap.size 0 rfl (b.cells (.slice pa b.co.length pc)) _ (A2.set6 h16 _).box.range Try.underlying39 rfl ((hlz _) ▸ hI) ?_)
      | (refine wpList_store_mid rfl 39 (.tmp 2) (.tmp 8) rfl (w.heap.size + 1) 0 (b.cells (.slice pa b.co.length pc)).toArray rfl rfl ((hzz (.slice pa b.co.length pc)) ▸ (A2.set6 h16 (.slice pa b.co.length pc)).there) ((hzz (.slice pa b.co.length pc)) ▸ hI) (all_oneCell_toArray (Bx.cells_one b rfl)) ?_; obtain ⟨W9, hW9, hr9, hb9, hk9⟩ := store_box (A2.set6 h16 (.slice pa b.co.length pc)) (hlz (.slice pa b.co.length pc)); rw [List.toList_toArray, hW9]; clear hW9))
    refine bodyPost_ret (v := .agg (b.cells (.slice pa b.co.length pc)).toArray) (results_mid Try.results11 _ _ (w.heap.size + 1) (b.cells (.slice pa b.co.length pc)) _ rfl hr9 Try.underlying39 rfl ((hlz _) ▸ hI)) rfl ⟨_, rfl, ?_, hb9⟩
    rw [HRC.out]
    exact ownsRow_mono (owns_move ho3 (fun k hk _ => (hk9 k (by omega)).trans (Below.heap_setCell _ _ _ _ (by show k ≠ w.heap.size; omega)))) (by omega)
end Go.Proofs.Ytpnfghpcpjpppaa
