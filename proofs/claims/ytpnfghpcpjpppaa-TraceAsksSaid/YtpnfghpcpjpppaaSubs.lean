/- trace.subsets: the members of each of some subsets. -/
import Derived.Test.YtpnfghpcpjpppaaBox
namespace Go.Proofs.Ytpnfghpcpjpppaa
open Go.RowKit
set_option linter.unusedVariables false
set_option linter.unusedSimpArgs false

theorem ownsRow_one {w : World} {base : Nat} {e : TypeId} {size : Nat} {v : Value} {n : Nat} {xs : List Value} (h : w.ownsRow base e size v n xs) : v.oneCell' = true := by
  obtain ⟨h0, h1⟩ := h
  rcases h1 with ⟨rfl, -⟩ | ⟨g, cap, cur, rfl, -⟩ <;> rfl

theorem ownsRow_slice {w : World} {base : Nat} {e : TypeId} {size : Nat} {v : Value} {n : Nat} {xs : List Value} (h : w.ownsRow base e size v n xs) : ∃ a cap, v = .slice a n cap := by
  obtain ⟨h0, h1⟩ := h
  rcases h1 with ⟨rfl, rfl⟩ | ⟨g, cap, cur, rfl, -⟩
  · exact ⟨_, _, rfl⟩
  · exact ⟨_, _, rfl⟩
/-- An append onto a row of elements of another type leaves a row alone. -/
theorem ownsRow_apart {w w' : World} {o : Obj} {base base' : Nat} {e e' : TypeId} {size size' : Nat} {v v' : Value} {n n' : Nat} {xs xs' : List Value} (h : w.ownsRow base e size v n xs) (h' : w.ownsRow base' e' size' v' n' xs') (hne : e ≠ e')
    (hg : (w.alloc o).grownBy w' v'.ownBlock) : w'.ownsRow base e size v n xs := by
  obtain ⟨h0, h1⟩ := h
  refine ⟨h0, ?_⟩
  rcases h1 with h1 | ⟨g, cap, cur, h1, h2, h3, h4⟩
  · exact .inl h1
  · refine .inr ⟨g, cap, cur, h1, h2, ?_, h4⟩
    have hlt : g < w.heap.size := (Array.getElem?_eq_some_iff.1 h3).1
    have ho : v'.ownBlock ≠ some g := by
      obtain ⟨-, h1'⟩ := h'
      rcases h1' with ⟨rfl, -⟩ | ⟨g', cap', cur', rfl, -, h3', -⟩
      · simp [Value.ownBlock]
      · intro hh
        simp only [Value.ownBlock, Option.some.injEq] at hh
        subst hh
        rw [h3] at h3'
        simp only [Option.some.injEq, Obj.cells.injEq] at h3'
        exact hne h3'.2.1
    exact (hg.block g (by simp; omega) (fun hh => ho hh.symm)).trans ((Below.heap_alloc _ _ _ hlt).trans h3)

/-- Slice values, each of integers in a row of the call's own. -/
def Rows (w : World) (base : Nat) (vs : List Value) (zss : List (List Int)) : Prop :=
  vs.length = zss.length ∧ ∀ i, i < zss.length → w.ownsRow base 3 1 (vs.getD i undef) (zss.getD i []).length ((zss.getD i []).map (Value.int .i64))
theorem Rows.nil (w : World) (base : Nat) : Rows w base [] [] := ⟨rfl, fun i hi => by cases hi⟩
theorem Rows.mono {w w' : World} {base base' : Nat} {vs : List Value} {zss : List (List Int)} (h : Rows w base vs zss) (hb : base' ≤ base) (ho : ∀ v n xs, w.ownsRow base 3 1 v n xs → w'.ownsRow base 3 1 v n xs) : Rows w' base' vs zss :=
  ⟨h.1, fun i hi => ownsRow_mono (ho _ _ _ (h.2 i hi)) hb⟩
theorem Rows.snoc {w : World} {base : Nat} {vs : List Value} {zss : List (List Int)} {v : Value} {zs : List Int} (h : Rows w base vs zss) (hv : w.ownsRow base 3 1 v zs.length (zs.map (Value.int .i64))) : Rows w base (vs ++ [v]) (zss ++ [zs]) := by
  refine ⟨by simp [h.1], fun i hi => ?_⟩
  by_cases hlt : i < zss.length
  · have := h.2 i hlt
    rwa [show (vs ++ [v]).getD i undef = vs.getD i undef from by simp [List.getD, List.getElem?_append_left (h.1 ▸ hlt)], show (zss ++ [zs]).getD i [] = zss.getD i [] from by simp [List.getD, List.getElem?_append_left hlt]]
  · have he : i = zss.length := by simp at hi; omega
    subst he
    rwa [show (vs ++ [v]).getD zss.length undef = v from by rw [← h.1]; simp [List.getD], show (zss ++ [zs]).getD zss.length [] = zs from by simp [List.getD]]

/-- The members of each of some subsets. -/
def memsL (d : Int) (xs : List (Int × Int)) : List (List Int) := xs.map fun x => membersL d x.1 x.2

theorem memsL_succ (d : Int) (xs : List (Int × Int)) (j : Nat) (h : j < xs.length) : memsL d (xs.take (j + 1)) = memsL d (xs.take j) ++ [membersL d (xs.getD j (0, 0)).1 (xs.getD j (0, 0)).2] := by
  unfold memsL
  rw [List.take_add_one, List.map_append]
  simp [List.getElem?_eq_getElem h, List.getD]

theorem Try.info35 : (Try.prog.info? 35).map (fun i => (i.zero, i.size, i.bytes)) = some (some (.slice none 0 0), 1, 24) := by kernel_rfl

theorem subsets_many (k d g p q r : Int) (v : Value) (xs : List (Int × Int)) (w : World) (hv : Subs w v xs) (hl : 64 < xs.length) :
    Calls Try.prog 38 #[.agg #[.int .u8 k, .int .i64 d, .int .i64 g, .int .u64 p, .int .u64 q, .int .u64 r], v] w fun e w' => e = .returned (.tuple #[.slice none 0 0, .int .i64 4]) ∧ Below w.heap.size w w' := by
  obtain ⟨a, cap, rfl, hcap, hmax, hcell⟩ := hv.open
  clear hv hcell
  unfold maxLen at hmax
  go_enter Try.func38, Try.ntmps38
  go_wp2_with fail
  go_returns
  exact ⟨rfl, by (repeat' (first | (with_reducible exact Below.refl _ _) | (with_reducible assumption) | (with_reducible refine Below.alloc ?_ ?_ _) | (with_reducible refine Below.drew ?_) | (with_reducible refine below_drewN _ ?_) | (with_reducible refine Below.setCell ?_ ?_ _) | (with_reducible refine Below.frame ?_ _) | go_size | (simp only [size_alloc, size_setCell, size_drew, size_drewN]; omega)))⟩

set_option maxRecDepth 20000 in
set_option maxHeartbeats 2000000 in
theorem subsets_any (k d g p q r : Int) (v : Value) (xs : List (Int × Int)) (w : World) (hs : Sch.ok ⟨k, d, g, p, q, r⟩) (hv : Subs w v xs) (hl : xs.length ≤ 64) :
    Calls Try.prog 38 #[.agg #[.int .u8 k, .int .i64 d, .int .i64 g, .int .u64 p, .int .u64 q, .int .u64 r], v] w fun e w' =>
      (((∀ i, i < xs.length → subsetB k d (xs.getD i (0, 0)).1 (xs.getD i (0, 0)).2 = true) ∧ ∃ u vs, e = .returned (.tuple #[u, .int .i64 0]) ∧ w'.ownsRow w.heap.size 35 1 u vs.length vs ∧ Rows w' w.heap.size vs (memsL d xs)) ∨
       ((∃ i, i < xs.length ∧ subsetB k d (xs.getD i (0, 0)).1 (xs.getD i (0, 0)).2 = false) ∧ e = .returned (.tuple #[.slice none 0 0, .int .i64 31]))) ∧ Below w.heap.size w w' := by
  have CO := fun (n m : Int) w h => Members_ok k d g p q r n m w hs h
  have CN := fun (n m : Int) w h => Members_no k d g p q r n m w hs h
  clear hs
  obtain ⟨a, cap, rfl, hcap, hmax, hcell⟩ := hv.open
  clear hv
  unfold maxLen at hmax
  have HC := Lib.hid hcell
  clear hcell
  obtain ⟨i0, hi, iz0, iz1, iz2⟩ := info_parts Try.info35
  go_enter Try.func38, Try.ntmps38
  go_wp2_with fail
  obtain ⟨W1, hW1⟩ : ∃ W1, w.alloc (.cells #[.int .u8 k, .int .i64 d, .int .i64 g, .int .u64 p, .int .u64 q, .int .u64 r] 26) = W1 := ⟨_, rfl⟩
  have c0 : W1.cell? ⟨w.heap.size, 0, none⟩ = some (.int .u8 k) := by rw [← hW1]; simp [go_sem]
  have c1 : W1.cell? ⟨w.heap.size, 1, none⟩ = some (.int .i64 d) := by rw [← hW1]; simp [go_sem]
  have c2 : W1.cell? ⟨w.heap.size, 2, none⟩ = some (.int .i64 g) := by rw [← hW1]; simp [go_sem]
  have c3 : W1.cell? ⟨w.heap.size, 3, none⟩ = some (.int .u64 p) := by rw [← hW1]; simp [go_sem]
  have c4 : W1.cell? ⟨w.heap.size, 4, none⟩ = some (.int .u64 q) := by rw [← hW1]; simp [go_sem]
  have c5 : W1.cell? ⟨w.heap.size, 5, none⟩ = some (.int .u64 r) := by rw [← hW1]; simp [go_sem]
  have hB1 : Below w.heap.size w W1 := by rw [← hW1]; exact (Below.refl _ _).alloc (Nat.le_refl _) _
  have hs1 : w.heap.size + 1 ≤ W1.heap.size := by rw [← hW1]; simp
  rw [hW1]
  clear hW1
  go_loopw [6, 16] (fun o i wr => ∃ (j : Nat) (vs : List Value), j ≤ xs.length ∧ vs.length = j ∧ i = .int .i64 j ∧ wr.ownsRow (w.heap.size + 1) 35 1 o j vs ∧ Below (w.heap.size + 1) W1 wr ∧ Below w.heap.size w wr ∧ Hid (∀ i, i < j → subsetB k d (xs.getD i (0, 0)).1 (xs.getD i (0, 0)).2 = true) ∧ Hid (Rows wr (w.heap.size + 1) vs (memsL d (xs.take j))))
    (fun _ i _ => xs.length - (intOf i).toNat)
  case atStart => exact ⟨0, [], Nat.zero_le _, rfl, rfl, World.ownsRow_nil _ _ _ _, Below.refl _ _, hB1, fun i hi => absurd hi (Nat.not_lt_zero i), Rows.nil _ _⟩
  case round =>
    obtain ⟨j, vs, hj, hvl, rfl, hown, hB2, hB, HP, HR⟩ := hrel
    by_cases hlt : j < xs.length
    · obtain ⟨b, off, rfl, e0, e1⟩ := HC.out j hlt
      have hbl := cell_lt' e0
      have e0r := (hB.cell (p := ⟨b, off + j * 2, none⟩) hbl).trans e0
      have e1r := (hB.cell (p := ⟨b, off + j * 2 + 1, none⟩) hbl).trans e1
      clear e0 e1
      have hsucc := Lib.hid (memsL_succ d xs j hlt)
      cases hsub : subsetB k d (xs.getD j (0, 0)).1 (xs.getD j (0, 0)).2 with
      | true =>
        have C := fun w => CO _ _ w hsub
        have HP2 := Lib.hid (fun (i : Nat) (hi : i < j + 1) => show subsetB k d (xs.getD i (0, 0)).1 (xs.getD i (0, 0)).2 = true from by
          by_cases he : i = j
          · subst he; exact hsub
          · exact HP.out i (by omega))
        clear hsub HP CO CN
        have hzr : w.heap.size + 1 ≤ wr.heap.size := Nat.le_trans hs1 hB2.size
        generalize hM : membersL d (xs.getD j (0, 0)).1 (xs.getD j (0, 0)).2 = M at *
        clear hM
        generalize xs.getD j (0, 0) = y at e0r e1r C
        obtain ⟨y1, y2⟩ := y
        dsimp only at C e0r e1r
        generalize hZ : memsL d (xs.take j) = Z at *
        have r0 := (hB2.cell (p := ⟨w.heap.size, 0, none⟩) (Nat.lt_succ_self _)).trans c0
        have r1 := (hB2.cell (p := ⟨w.heap.size, 1, none⟩) (Nat.lt_succ_self _)).trans c1
        have r2 := (hB2.cell (p := ⟨w.heap.size, 2, none⟩) (Nat.lt_succ_self _)).trans c2
        have r3 := (hB2.cell (p := ⟨w.heap.size, 3, none⟩) (Nat.lt_succ_self _)).trans c3
        have r4 := (hB2.cell (p := ⟨w.heap.size, 4, none⟩) (Nat.lt_succ_self _)).trans c4
        have r5 := (hB2.cell (p := ⟨w.heap.size, 5, none⟩) (Nat.lt_succ_self _)).trans c5
        have hq : w.heap.size < wr.heap.size := by omega
        go_wp2_with (first
          | (go_at_call 69; refine (C _).mono ?_; rintro e w2 ⟨vm, rfl, hm, hb2⟩; obtain ⟨pa, pc, rfl⟩ := ownsRow_slice hm; have hz2 : wr.heap.size + 1 ≤ w2.heap.size := (by have := hb2.size; simpa using this); have hbr : Below wr.heap.size wr w2 := ((Below.refl _ _).alloc (Nat.le_refl _) _).trans (hb2.mono (by simp)); clear hb2)
          | (at_builtin; have hown2 := ownsRow_below hown hbr; refine wpList_append_own _ rfl _ _ 69 rfl (w.heap.size + 1) 35 i0 (.slice none 0 0) 1 24 Try.underlying69 hi iz0 iz1 iz2 rfl (by decide) _ _ _ rfl (hown2.alloc _) ⟨_, 0, none⟩ 1 1 [.slice pa M.length pc] rfl rfl (cell_one_new _ _ _) (by intro u hu; simp at hu; subst hu; rfl) (by unfold maxLen; omega) (by omega) (by first | omega | (simp; omega)) ?_; intro v' w3 hown3 hgrow3 hnil3))
        go_roundw
        case rel =>
          have hbB := hB2.trans (hbr.mono hzr)
          have hbw := hB.trans (hbr.mono hB.size)
          refine ⟨j + 1, vs ++ [.slice pa M.length pc], hlt, by simp [hvl], by go_num, hown3, app_below hbB hown2 (Nat.le_refl _) (by omega) hgrow3, app_below hbw hown2 (by omega) (by omega) hgrow3, HP2, ?_⟩
          show Rows _ _ _ _
          rw [hsucc.out]
          exact ((HR.out.mono (Nat.le_refl _) (fun _ _ _ h => ownsRow_below h hbr)).snoc (ownsRow_mono hm (by simp; omega))).mono (Nat.le_refl _) (fun _ _ _ h => ownsRow_apart h hown2 (by decide) hgrow3)
        case measure => simp [intOf]; omega
      | false =>
        have C := fun w => CN _ _ w hsub
        have HF := Lib.hid (show ∃ i, i < xs.length ∧ subsetB k d (xs.getD i (0, 0)).1 (xs.getD i (0, 0)).2 = false from ⟨j, hlt, hsub⟩)
        clear hsub HP CO CN HR hsucc
        have hzr : w.heap.size + 1 ≤ wr.heap.size := Nat.le_trans hs1 hB2.size
        generalize xs.getD j (0, 0) = y at e0r e1r C
        obtain ⟨y1, y2⟩ := y
        dsimp only at C e0r e1r
        have r0 := (hB2.cell (p := ⟨w.heap.size, 0, none⟩) (Nat.lt_succ_self _)).trans c0
        have r1 := (hB2.cell (p := ⟨w.heap.size, 1, none⟩) (Nat.lt_succ_self _)).trans c1
        have r2 := (hB2.cell (p := ⟨w.heap.size, 2, none⟩) (Nat.lt_succ_self _)).trans c2
        have r3 := (hB2.cell (p := ⟨w.heap.size, 3, none⟩) (Nat.lt_succ_self _)).trans c3
        have r4 := (hB2.cell (p := ⟨w.heap.size, 4, none⟩) (Nat.lt_succ_self _)).trans c4
        have r5 := (hB2.cell (p := ⟨w.heap.size, 5, none⟩) (Nat.lt_succ_self _)).trans c5
        have hq : w.heap.size < wr.heap.size := by omega
        go_wp2_with (go_at_call 69; refine (C _).mono ?_; rintro e w2 ⟨rfl, hb2⟩; have hbr : Below wr.heap.size wr w2 := ((Below.refl _ _).alloc (Nat.le_refl _) _).trans (hb2.mono (by simp)); clear hb2)
        go_returns
        exact ⟨.inr ⟨HF.out, rfl⟩, hB.trans (hbr.mono hB.size)⟩
    · obtain rfl : j = xs.length := by omega
      have hpost := Lib.hid (show Rows wr w.heap.size vs (memsL d xs) from by have := HR.out.mono (Nat.le_succ _) (fun _ _ _ h => h); rwa [List.take_length] at this)
      go_wp2_with fail
      go_returns
      exact ⟨.inl ⟨HP.out, _, vs, rfl, by rw [hvl]; exact ownsRow_mono hown (by omega), hpost.out⟩, hB⟩
end Go.Proofs.Ytpnfghpcpjpppaa
