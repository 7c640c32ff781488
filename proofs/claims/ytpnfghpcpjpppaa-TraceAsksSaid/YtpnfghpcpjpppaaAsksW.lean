/- The walk of TraceAsks. -/
import Derived.Test.YtpnfghpcpjpppaaRSame
namespace Go.Proofs.Ytpnfghpcpjpppaa
open Go.RowKit
set_option linter.unusedVariables false
set_option linter.unusedSimpArgs false

/-- The box that Ask hands back. -/
def askX (b : Bx) (xs : List (Int × Int)) (f : Int) : Bx := if askE b xs f = 0 then b.after (askV b xs f).1 (askV b xs f).2.1 else Bx.zero
def askB (b : Bx) (xs : List (Int × Int)) (f : Int) : Bool := if askE b xs f = 0 then askP b (askV b xs f).1 (askV b xs f).2.1 (askV b xs f).2.2 else false
theorem askX_seed {b : Bx} {xs : List (Int × Int)} {f : Int} (h : b.seed.length = 16) : (askX b xs f).seed.length = 16 := by
  unfold askX
  split
  · exact h
  · rfl
theorem askX_len {b : Bx} {xs : List (Int × Int)} {f : Int} : (askX b xs f).co.length ≤ b.co.length := by
  unfold askX
  split
  · exact Nat.le_refl _
  · exact Nat.zero_le _
theorem askPost_one {b : Bx} {xs : List (Int × Int)} {f : Int} {w : World} {e : Ending} {w' : World} (h : askPost b xs f w e w') :
    ∃ v', e = .returned (.tuple #[.agg ((askX b xs f).cells v').toArray, .bool (askB b xs f), .int .i64 (askE b xs f)]) ∧ w'.ownsRow w.heap.size 3 1 v' (askX b xs f).co.length ((askX b xs f).co.map (Value.int .i64)) ∧ Below w.heap.size w w' := by
  obtain ⟨h1, h2, h3⟩ := h
  by_cases hE : askE b xs f = 0
  · obtain ⟨v', rfl, ho⟩ := h2 hE
    refine ⟨v', ?_, ?_, h3⟩
    · unfold askX askB
      rw [if_pos hE, if_pos hE, hE]
      rfl
    · unfold askX
      rw [if_pos hE]
      exact ho
  · refine ⟨.slice none 0 0, ?_, ?_, h3⟩
    · rw [h1 hE]
      unfold askX askB
      rw [if_neg hE, if_neg hE]
      rfl
    · unfold askX
      rw [if_neg hE]
      exact World.ownsRow_nil _ _ _ _
/-- A row in the midst of a block is loaded by an operation that is guarded. -/
theorem wpList_load_midG {P : Program} {ops : Array Oper} {rest : List Oper} {op : Oper} {a : Act} {w : World} {Q : Exit → Act → World → Prop} (hw : Region.wanted op (yielded ops a.tmps) = true) (ty : TypeId) (x : Operand) (ho : op.op = .load ty x)
    (b o : Nat) (hx : a.eval x = .pointer (some ⟨b, o, none⟩)) (cs : List Value) (d : TypeDesc) (hc : w.rangeAt b o cs)
    (hu : P.underlying ty = some d) (hd : d.isRow = true) (hi : (P.info? ty).map (·.size) = some cs.length)
    (h : wpList P ops Q rest (a.put op.dst (.agg cs.toArray)) w) : wpList P ops Q (op :: rest) a w :=
  wpList_step fun K hK => by rw [if_pos hw]; exact wp_load_mid ty x ho b o hx cs d hc hu hd hi (hK _ _ h)
/-- A box is put into a new block. -/
theorem box_put (W : World) (L : List Value) (hL : L.length = 28) : (W.alloc (.cells zeroL.toArray 39)).there W.heap.size 0 L.toArray.size ∧
    ∀ W2, (W.alloc (.cells zeroL.toArray 39)).setCells W.heap.size 0 L = W2 → W2.rangeAt W.heap.size 0 L ∧ Below W.heap.size W W2 ∧ W.heap.size < W2.heap.size := by
  have ht := there_of_row (World.alloc_heap_new W (.cells zeroL.toArray 39)) (n := 28) rfl
  refine ⟨(show L.toArray.size = 28 from by simp [hL]) ▸ ht, ?_⟩
  rintro W2 rfl
  exact ⟨World.rangeAt_setCells_same _ _ _ L (hL ▸ ht), below_setCells _ (Nat.le_refl _) _ _ _ ((Below.refl _ _).alloc (Nat.le_refl _) _), by rw [size_setCells]; simp⟩
theorem Reads.ofOwns {w : World} {base : Nat} {e : TypeId} {v : Value} {zs : List Int} (h : w.ownsRow base e 1 v zs.length (zs.map (Value.int .i64))) : Ints w v zs := Reads.of_owns h

set_option maxRecDepth 20000 in
set_option maxHeartbeats 8000000 in
theorem asks_walk (b : Bx) (v vl : Value) (xs : List (Int × Int)) (f : Int) (w : World) (h16 : b.seed.length = 16) (hsb : isBytes b.seed) (hv : Ints w v b.co) (hni : Nice v) (hx : Subs w vl xs) :
    Calls Try.prog 4 #[b.val v, vl, .int .i64 f] w fun e w' => e = .returned (.bool true) ∧ Below w.heap.size w w' := by
  have hl28 := Bx.cells_len (b := b) h16 v
  have HN := box_new h16 v w 39
  unfold Bx.val
  have hL := Lib.hid (rfl : b.cells v = b.cells v)
  obtain ⟨va, vcp, rfl, hcv, hmv, -⟩ := hv.open
  obtain ⟨la, lcp, rfl, hcl, hml, -⟩ := hx.open
  unfold maxLen at hmv hml
  have HVI := Lib.hid hv
  have HXI := Lib.hid hx
  clear hv hx
  by_cases hc1 : 100 < b.co.length
  · dsimp only at HN
    obtain ⟨-, -, -, -, -, -, c6, -⟩ := HN
    generalize b.cells (.slice va b.co.length vcp) = L at *
    go_enter Try.func4, Try.ntmps4
    go_wp2_with fail
    go_returns
    exact ⟨rfl, by (repeat' (first | (with_reducible exact Below.refl _ _) | (with_reducible assumption) | (with_reducible refine Below.alloc ?_ ?_ _) | (with_reducible refine Below.drew ?_) | (with_reducible refine below_drewN _ ?_) | (with_reducible refine Below.setCell ?_ ?_ _) | (with_reducible refine Below.frame ?_ _) | go_size | (simp only [size_alloc, size_setCell, size_drew, size_drewN]; omega)))⟩
  by_cases hc2 : 100 < xs.length
  · dsimp only at HN
    obtain ⟨-, -, -, -, -, -, c6, -⟩ := HN
    generalize b.cells (.slice va b.co.length vcp) = L at *
    go_enter Try.func4, Try.ntmps4
    go_wp2_with fail
    go_returns
    exact ⟨rfl, by (repeat' (first | (with_reducible exact Below.refl _ _) | (with_reducible assumption) | (with_reducible refine Below.alloc ?_ ?_ _) | (with_reducible refine Below.drew ?_) | (with_reducible refine below_drewN _ ?_) | (with_reducible refine Below.setCell ?_ ?_ _) | (with_reducible refine Below.frame ?_ _) | go_size | (simp only [size_alloc, size_setCell, size_drew, size_drewN]; omega)))⟩
  have c6 := HN.2.2.2.2.2.2.1
  have HBX : Hid (∀ W, w.alloc (.cells (b.cells (.slice va b.co.length vcp)).toArray 39) = W → W.rangeAt w.heap.size 0 (b.cells (.slice va b.co.length vcp)) ∧ Below w.heap.size w W ∧ w.heap.size < W.heap.size ∧ W.cell? ⟨w.heap.size, 6, none⟩ = some (.slice va b.co.length vcp)) := Lib.hid (by
    rintro W rfl
    exact ⟨range_new _ _ _, by (repeat' (first | (with_reducible exact Below.refl _ _) | (with_reducible assumption) | (with_reducible refine Below.alloc ?_ ?_ _) | (with_reducible refine Below.drew ?_) | (with_reducible refine below_drewN _ ?_) | (with_reducible refine Below.setCell ?_ ?_ _) | (with_reducible refine Below.frame ?_ _) | go_size | (simp only [size_alloc, size_setCell, size_drew, size_drewN]; omega))), by simp, c6⟩)
  clear c6 HN
  generalize hLL : b.cells (.slice va b.co.length vcp) = L at *
  have HL := Lib.hid hLL
  have hI := hl28 ▸ info39
  clear hLL
  go_enter Try.func4, Try.ntmps4
  go_upto_region 1 with (fail)
  refine wp_world ?_
  intro W1 hW1
  obtain ⟨hr1, hb1, hs1, c6⟩ := HBX.out W1 hW1
  clear hW1 HBX
  have CT := Lib.hid (rTwinBox_any b (.slice va b.co.length vcp) W1 h16 (HVI.out.below hb1) hni (by omega))
  unfold Bx.val at CT
  go_wp2_with (first
    | (refine wpList_load_mid rfl 39 (.tmp 3) rfl w.heap.size 0 rfl L _ hr1 Try.underlying39 rfl hI ?_))
  rw [← HL.out]
  refine CT.out.mono ?_
  rintro e W2 ⟨vo, rfl, hoo, hb2⟩
  have hlo := Bx.cells_len (b := b) h16 vo
  have ho1 := Bx.cells_one b (v := vo) (ownsRow_one hoo)
  rw [HL.out]
  clear CT
  have HIO := Lib.hid (Reads.ofOwns hoo)
  clear hoo
  generalize hLo : b.cells vo = Lo at *
  have HLo := Lib.hid hLo
  clear hLo
  have hio : (Try.prog.info? 39).map (·.size) = some Lo.toArray.size := by rw [List.size_toArray, hlo]; exact info39
  obtain ⟨htp, hput⟩ := box_put W2 Lo hlo
  have HPUT := Lib.hid hput
  clear hput
  have hIo := hlo ▸ info39
  have CA := Lib.hid (fun W (h : Below W2.heap.size W2 W) => Ask_any b vo (.slice la xs.length lcp) xs f W h16 (HIO.out.below h) (by omega) (HXI.out.below (hb1.trans ((hb2.trans (h.mono hb2.size)).mono hb1.size))))
  unfold Bx.val at CA
  simp only [HLo.out] at CA
  go_wp2_with (first
    | (refine wpList_store_mid rfl 39 (.tmp 7) (.tmp 26) rfl W2.heap.size 0 Lo.toArray rfl rfl htp hio (all_oneCell_toArray ho1) ?_; rw [List.toList_toArray]; refine wpList_world ?_; intro W3 hW3; obtain ⟨hrW3, hb3, hsW3⟩ := HPUT.out W3 hW3; clear hW3)
    | (refine wpList_load_mid rfl 39 (.tmp 7) rfl W2.heap.size 0 rfl Lo _ hrW3 Try.underlying39 rfl hIo ?_))
  refine (CA.out _ hb3).mono ?_
  rintro e W4 hpost
  obtain ⟨vx, rfl, hox, hb4⟩ := askPost_one hpost
  clear hpost CA
  have hgx := hox
  obtain ⟨xa, xc, rfl⟩ := ownsRow_slice hox
  have hlx := Bx.cells_len (b := askX b xs f) (askX_seed h16) (.slice xa (askX b xs f).co.length xc)
  have hx1 := Bx.cells_one (askX b xs f) (v := .slice xa (askX b xs f).co.length xc) (ownsRow_one hox)
  have HOX := Lib.hid hox
  have h6x : ((askX b xs f).cells (.slice xa (askX b xs f).co.length xc))[6]? = some (.slice xa (askX b xs f).co.length xc) := rfl
  generalize hLx : (askX b xs f).cells (.slice xa (askX b xs f).co.length xc) = Lx at *
  have HLx := Lib.hid hLx
  clear hLx
  have hix : (Try.prog.info? 39).map (·.size) = some Lx.toArray.size := by rw [List.size_toArray, hlx]; exact info39
  have hIx := hlx ▸ info39
  obtain ⟨htx, hputx⟩ := box_put W4 Lx hlx
  have HPUTX := Lib.hid hputx
  clear hputx
  have hb13 : Below W1.heap.size W1 W3 := hb2.trans (hb3.mono hb2.size)
  have hb14 : Below W1.heap.size W1 W4 := hb13.trans (hb4.mono hb13.size)
  have CR := Lib.hid (fun W (h : Below W1.heap.size W1 W) => rAsk_any b (.slice va b.co.length vcp) (.slice la xs.length lcp) xs f W h16 hsb (HVI.out.below (hb1.trans (h.mono hb1.size))) hni (by omega) (HXI.out.below (hb1.trans (h.mono hb1.size))) (by omega))
  unfold Bx.val at CR
  simp only [HL.out] at CR
  go_wp2_with (first
    | (refine wpList_store_mid rfl 39 (.tmp 8) (.tmp 32) rfl W4.heap.size 0 Lx.toArray rfl rfl htx hix (all_oneCell_toArray hx1) ?_; rw [List.toList_toArray]; refine wpList_world ?_; intro W5 hW5; obtain ⟨hrW5, hbW5, hsW5⟩ := HPUTX.out W5 hW5; clear hW5; have hb15 : Below W1.heap.size W1 W5 := hb14.trans (hbW5.mono hb14.size))
    | (refine wpList_load_mid rfl 39 (.tmp 3) rfl w.heap.size 0 rfl L _ (rangeAt_below hr1 hb15 hs1) Try.underlying39 rfl hI ?_))
  refine (CR.out _ hb15).mono ?_
  rintro e W6 hpost
  obtain ⟨vy, rfl, hoy, hb6⟩ := askPost_one hpost
  clear hpost CR
  have hly := Bx.cells_len (b := askX b xs f) (askX_seed h16) vy
  have hy1 := Bx.cells_one (askX b xs f) (v := vy) (ownsRow_one hoy)
  have HOY := Lib.hid hoy
  generalize hLy : (askX b xs f).cells vy = Ly at *
  have HLy := Lib.hid hLy
  clear hLy
  have hiy : (Try.prog.info? 39).map (·.size) = some Ly.toArray.size := by rw [List.size_toArray, hly]; exact info39
  have hIy := hly ▸ info39
  obtain ⟨hty, hputy⟩ := box_put W6 Ly hly
  have HPUTY := Lib.hid hputy
  clear hputy
  have hb16 : Below W1.heap.size W1 W6 := hb15.trans (hb6.mono hb15.size)
  go_wp2_with (first
    | (refine wpList_store_mid rfl 39 (.tmp 11) (.tmp 40) rfl W6.heap.size 0 Ly.toArray rfl rfl hty hiy (all_oneCell_toArray hy1) ?_; rw [List.toList_toArray]; refine wpList_world ?_; intro W7 hW7; obtain ⟨hrW7, hbW7, hsW7⟩ := HPUTY.out W7 hW7; clear hW7; have hb17 : Below W1.heap.size W1 W7 := hb16.trans (hbW7.mono hb16.size)))
  have hb57 : Below W5.heap.size W5 W7 := hb6.trans (hbW7.mono hb6.size)
  have hb37 : Below W3.heap.size W3 W7 := hb4.trans ((hbW5.trans (hb57.mono hbW5.size)).mono hb4.size)
  have rx := rangeAt_below hrW5 hb57 hsW5
  have dx := Nat.lt_of_lt_of_le hsW5 hb57.size
  have ro := rangeAt_below hrW3 hb37 hsW3
  have dq := Nat.lt_of_lt_of_le hsW3 hb37.size
  have rb := rangeAt_below hr1 hb17 hs1
  have db := Nat.lt_of_lt_of_le hs1 hb17.size
  have hb47 : Below W4.heap.size W4 W7 := hbW5.trans (hb57.mono hbW5.size)
  have hb27 : Below W2.heap.size W2 W7 := hb3.trans (hb37.mono hb3.size)
  have CS1 := Lib.hid (fun W (h : Below W7.heap.size W7 W) => rSameBox_same (askX b xs f) (.slice xa (askX b xs f).co.length xc) vy W (askX_seed h16) ((Reads.ofOwns HOX.out).below (hb47.trans (h.mono hb47.size))) ((Reads.ofOwns HOY.out).below (hbW7.trans (h.mono hbW7.size))) (by have := askX_len (b := b) (xs := xs) (f := f); omega))
  have CB1 := Lib.hid (fun W (h : Below W7.heap.size W7 W) => CheckBox_any b vo W h16 (HIO.out.below (hb27.trans (h.mono hb27.size))))
  have CB2 := Lib.hid (fun W (h : Below W7.heap.size W7 W) => rCheckBox_any b (.slice va b.co.length vcp) W h16 (HVI.out.below (hb1.trans ((hb17.trans (h.mono hb17.size)).mono hb1.size))) (by omega))
  unfold Bx.val at CS1 CB1 CB2
  simp only [HLx.out, HLy.out, HLo.out, HL.out] at CS1 CB1 CB2
  have CS2 := Lib.hid (fun W (h : Below W3.heap.size W3 W) => rSameBox_same b vo (.slice va b.co.length vcp) W h16 (HIO.out.below (hb3.trans (h.mono hb3.size))) (HVI.out.below (hb1.trans ((hb13.trans (h.mono hb13.size)).mono hb1.size))) (by omega))
  unfold Bx.val at CS2
  simp only [HLo.out, HL.out] at CS2
  have c8 : W7.cell? ⟨W4.heap.size, 6, none⟩ = some (.slice xa (askX b xs f).co.length xc) := by
    have := rx 6 _ h6x
    rwa [Nat.zero_add] at this
  clear h6x
  have hn100 : (askX b xs f).co.length ≤ 100 := by have := askX_len (b := b) (xs := xs) (f := f); omega
  generalize hNN : (askX b xs f).co.length = n at *
  generalize hZZ : (askX b xs f).co = zs0 at *
  generalize hPB : askB b xs f = pb at *
  generalize hPE : askE b xs f = pe at *
  generalize hCE : chkBox b = ce at *
  refine wp_region_noPanic ?_
  refine wp_region_held_drew (S := fun w' => Below W7.heap.size W7 w') (by kernel_rfl) (Below.refl _ _).drew (fun hHeld => ?_)
  refine wpAnyH_take (i := 0) (oi := _) (v := .agg Lx.toArray) rfl (by kernel_rfl) (by kernel_rfl) (by kernel_rfl) (fun _ _ _ h => h) (Or.inl ⟨by kernel_rfl, fun W hSw => run_load_boxm (N := W4.heap.size) W _ _ _ _ _ _ _ (by kernel_rfl) (rangeAt_below rx hSw dx) hIx⟩) (by assumption) ?_; (try simp only [Act.put, List.setIfInBounds_toArray, List.set_cons_zero, List.set_cons_succ])
  refine wpAnyH_take (i := 1) (oi := _) (v := .agg Ly.toArray) rfl (by kernel_rfl) (by kernel_rfl) (by kernel_rfl) (fun _ _ _ h => h) (Or.inl ⟨by kernel_rfl, fun W hSw => run_load_boxm (N := W6.heap.size) W _ _ _ _ _ _ _ (by kernel_rfl) (rangeAt_below hrW7 hSw hsW7) hIy⟩) (by assumption) ?_; (try simp only [Act.put, List.setIfInBounds_toArray, List.set_cons_zero, List.set_cons_succ])
  refine wpAnyH_ready (rs := [2]) (by kernel_rfl) (by simp) ?_
  refine AllReadyH.cons (o := _) rfl ?_ AllReadyH.nil
  intro K hK
  rw [if_pos (show Region.wanted _ _ = true by kernel_rfl)]
  go_simp
  go_at_call 14
  refine (CS1.out _ (Below.refl _ _).drew).mono ?_
  rintro e U1 ⟨rfl, hbU1⟩
  dsimp only
  have hU1 : Below W7.heap.size W7 U1 := ((Below.refl _ _).drew).trans hbU1
  refine hK.out _ _ hU1 (fun hHeld => ?_)
  clear hK K
  refine wpAnyH_take (i := 3) (oi := _) (v := ?_) rfl (by kernel_rfl) (by kernel_rfl) (by kernel_rfl) (fun _ _ _ h => h) (Or.inl ⟨by kernel_rfl, ?_⟩) (by assumption) ?_; rotate_left 1; focus (intro w hSw; (try dsimp only at hSw); go_simp; (try (with_reducible rfl))); (try simp only [Act.put, List.setIfInBounds_toArray, List.set_cons_zero, List.set_cons_succ])
  refine wpAnyH_take (i := 4) (oi := _) (v := ?_) rfl (by kernel_rfl) (by kernel_rfl) (by kernel_rfl) (fun _ _ _ h => h) (Or.inl ⟨by kernel_rfl, ?_⟩) (by assumption) ?_; rotate_left 1; focus (intro w hSw; (try dsimp only at hSw); go_simp; (try (with_reducible rfl))); (try simp only [Act.put, List.setIfInBounds_toArray, List.set_cons_zero, List.set_cons_succ])
  refine wpAnyH_take (i := 5) (oi := _) (v := ?_) rfl (by kernel_rfl) (by kernel_rfl) (by kernel_rfl) (fun _ _ _ h => h) (Or.inl ⟨by kernel_rfl, ?_⟩) (by assumption) ?_; rotate_left 1; focus (intro w hSw; (try dsimp only at hSw); go_simp; (try (with_reducible rfl))); (try simp only [Act.put, List.setIfInBounds_toArray, List.set_cons_zero, List.set_cons_succ])
  refine wpAnyH_take (i := 6) (oi := _) (v := ?_) rfl (by kernel_rfl) (by kernel_rfl) (by kernel_rfl) (fun _ _ _ h => h) (Or.inl ⟨by kernel_rfl, ?_⟩) (by assumption) ?_; rotate_left 1; focus (intro w hSw; (try dsimp only at hSw); go_simp; (try (with_reducible rfl))); (try simp only [Act.put, List.setIfInBounds_toArray, List.set_cons_zero, List.set_cons_succ])
  refine wpAnyH_take (i := 7) (oi := _) (v := ?_) rfl (by kernel_rfl) (by kernel_rfl) (by kernel_rfl) (fun _ _ _ h => h) (Or.inl ⟨by kernel_rfl, ?_⟩) (by assumption) ?_; rotate_left 1; focus (intro w hSw; (try dsimp only at hSw); go_simp; (try (with_reducible rfl))); (try simp only [Act.put, List.setIfInBounds_toArray, List.set_cons_zero, List.set_cons_succ])
  refine wpAnyH_take (i := 8) (oi := _) (v := ?_) rfl (by kernel_rfl) (by kernel_rfl) (by kernel_rfl) (fun _ _ _ h => h) (Or.inl ⟨by kernel_rfl, ?_⟩) (by assumption) ?_; rotate_left 1; focus (intro w hSw; (try dsimp only at hSw); go_simp; (try (with_reducible rfl))); (try simp only [Act.put, List.setIfInBounds_toArray, List.set_cons_zero, List.set_cons_succ])
  refine wpAnyH_take (i := 9) (oi := _) (v := ?_) rfl (by kernel_rfl) (by kernel_rfl) (by kernel_rfl) (fun _ _ _ h => h) (Or.inl ⟨by kernel_rfl, ?_⟩) (by assumption) ?_; rotate_left 1; focus (intro w hSw; (try dsimp only at hSw); go_simp; (try (with_reducible rfl))); (try simp only [Act.put, List.setIfInBounds_toArray, List.set_cons_zero, List.set_cons_succ])
  refine wpAnyH_take (i := 10) (oi := _) (v := ?_) rfl (by kernel_rfl) (by kernel_rfl) (by kernel_rfl) (fun _ _ _ h => h) (Or.inl ⟨by kernel_rfl, ?_⟩) (by assumption) ?_; rotate_left 1; focus (intro w hSw; (try dsimp only at hSw); go_simp; (try (with_reducible rfl))); (try simp only [Act.put, List.setIfInBounds_toArray, List.set_cons_zero, List.set_cons_succ])
  refine wpAnyH_take (i := 11) (oi := _) (v := ?_) rfl (by kernel_rfl) (by kernel_rfl) (by kernel_rfl) (fun _ _ _ h => h) (Or.inl ⟨by kernel_rfl, ?_⟩) (by assumption) ?_; rotate_left 1; focus (intro w hSw; (try dsimp only at hSw); go_simp; (try (with_reducible rfl))); (try simp only [Act.put, List.setIfInBounds_toArray, List.set_cons_zero, List.set_cons_succ])
  refine wpAnyH_take (i := 12) (oi := _) (v := ?_) rfl (by kernel_rfl) (by kernel_rfl) (by kernel_rfl) (fun _ _ _ h => h) (Or.inl ⟨by kernel_rfl, ?_⟩) (by assumption) ?_; rotate_left 1; focus (intro w hSw; (try dsimp only at hSw); go_simp; (try (with_reducible rfl))); (try simp only [Act.put, List.setIfInBounds_toArray, List.set_cons_zero, List.set_cons_succ])
  refine wpAnyH_take (i := 13) (oi := _) (v := ?_) rfl (by kernel_rfl) (by kernel_rfl) (by kernel_rfl) (fun _ _ _ h => h) (Or.inl ⟨by kernel_rfl, ?_⟩) (by assumption) ?_; rotate_left 1; focus (intro w hSw; (try dsimp only at hSw); go_simp; (try (with_reducible rfl))); (try simp only [Act.put, List.setIfInBounds_toArray, List.set_cons_zero, List.set_cons_succ])
  refine wpAnyH_take (i := 14) (oi := _) (v := .agg Lo.toArray) rfl (by kernel_rfl) (by kernel_rfl) (by kernel_rfl) (fun _ _ _ h => h) (Or.inl ⟨by kernel_rfl, fun W hSw => run_load_boxm (N := W2.heap.size) W _ _ _ _ _ _ _ (by kernel_rfl) (rangeAt_below ro hSw dq) hIo⟩) (by assumption) ?_; (try simp only [Act.put, List.setIfInBounds_toArray, List.set_cons_zero, List.set_cons_succ])
  refine wpAnyH_take (i := 16) (oi := _) (v := .agg L.toArray) rfl (by kernel_rfl) (by kernel_rfl) (by kernel_rfl) (fun _ _ _ h => h) (Or.inl ⟨by kernel_rfl, fun W hSw => run_load_boxm (N := w.heap.size) W _ _ _ _ _ _ _ (by kernel_rfl) (rangeAt_below rb hSw db) hI⟩) (by assumption) ?_; (try simp only [Act.put, List.setIfInBounds_toArray, List.set_cons_zero, List.set_cons_succ])
  refine wpAnyH_ready (rs := [15]) (by kernel_rfl) (by simp) ?_
  refine AllReadyH.cons (o := _) rfl ?_ AllReadyH.nil
  intro K hK
  rw [if_pos (show Region.wanted _ _ = true by kernel_rfl)]
  go_simp
  go_at_call 15
  refine (CB1.out _ hU1).mono ?_
  rintro e U2 ⟨rfl, hbU2⟩
  dsimp only
  have hU2 : Below W7.heap.size W7 U2 := hU1.trans (hbU2.mono hU1.size)
  refine hK.out _ _ hU2 (fun hHeld => ?_)
  clear hK K
  refine wpAnyH_ready (rs := [17]) (by kernel_rfl) (by simp) ?_
  refine AllReadyH.cons (o := _) rfl ?_ AllReadyH.nil
  intro K hK
  rw [if_pos (show Region.wanted _ _ = true by kernel_rfl)]
  go_simp
  go_at_call 16
  refine (CB2.out _ hU2).mono ?_
  rintro e U3 ⟨rfl, hbU3⟩
  dsimp only
  have hU3 : Below W7.heap.size W7 U3 := hU2.trans (hbU3.mono hU2.size)
  refine hK.out _ _ hU3 (fun hHeld => ?_)
  clear hK K
  refine wpAnyH_take (i := 18) (oi := _) (v := ?_) rfl (by kernel_rfl) (by kernel_rfl) (by kernel_rfl) (fun _ _ _ h => h) (Or.inl ⟨by kernel_rfl, ?_⟩) (by assumption) ?_; rotate_left 1; focus (intro w hSw; (try dsimp only at hSw); go_simp; (try (with_reducible rfl))); (try simp only [Act.put, List.setIfInBounds_toArray, List.set_cons_zero, List.set_cons_succ])
  refine wpAnyH_take (i := 19) (oi := _) (v := ?_) rfl (by kernel_rfl) (by kernel_rfl) (by kernel_rfl) (fun _ _ _ h => h) (Or.inl ⟨by kernel_rfl, ?_⟩) (by assumption) ?_; rotate_left 1; focus (intro w hSw; (try dsimp only at hSw); go_simp; (try (with_reducible rfl))); (try simp only [Act.put, List.setIfInBounds_toArray, List.set_cons_zero, List.set_cons_succ])
  refine wpAnyH_take (i := 20) (oi := _) (v := ?_) rfl (by kernel_rfl) (by kernel_rfl) (by kernel_rfl) (fun _ _ _ h => h) (Or.inl ⟨by kernel_rfl, ?_⟩) (by assumption) ?_; rotate_left 1; focus (intro w hSw; (try dsimp only at hSw); go_simp; (try (with_reducible rfl))); (try simp only [Act.put, List.setIfInBounds_toArray, List.set_cons_zero, List.set_cons_succ])
  refine wpAnyH_done (by kernel_rfl) ?_ _
  refine NoPanic.normal ?_
  have hb3U : Below W3.heap.size W3 U3 := hb37.trans (hU3.mono hb37.size)
  have c8U : U3.cell? ⟨W4.heap.size, 6, none⟩ = some (.slice xa n xc) := (hU3.cell (p := ⟨W4.heap.size, 6, none⟩) dx).trans c8
  have hb4U : Below W4.heap.size W4 U3 := hb47.trans (hU3.mono hb47.size)
  have hoU := ownsRow_below hgx hb4U
  have hg := Lib.hid (fun (h0 : 0 < n) => hoU.form h0)
  have h34 : W3.heap.size ≤ W4.heap.size := hb4.size
  have hlt4 := Lib.hid hgx.lt
  clear c8 CS1 CB1 CB2 rx dx ro dq rb db hlx hly hlo hx1 hy1 ho1 hix hiy hio hIx hIy
  go_wp2_with fail
  go_loopw [15, 66] (fun _ i wr => ∃ j : Nat, j ≤ n ∧ i = .int .i64 j ∧ Hid (∃ ys, wr.ownsRow W3.heap.size 3 1 (.slice xa n xc) n ys) ∧ Below W3.heap.size W3 wr ∧ wr.cell? ⟨W4.heap.size, 6, none⟩ = some (.slice xa n xc))
    (fun _ i _ => n - (intOf i).toNat)
  case atStart => exact ⟨0, Nat.zero_le _, rfl, ⟨_, hoU⟩, hb3U, c8U⟩
  case round =>
    obtain ⟨j, hj, rfl, hys, hB, c8r⟩ := hrel
    clear c8U
    by_cases hlt : j < n
    · obtain ⟨g, cap, hxa, hg0, hg1⟩ := hg.out (by omega)
      simp only [Value.slice.injEq] at hxa
      obtain ⟨rfl, -, rfl⟩ := hxa
      obtain ⟨ys, hown⟩ := hys.out
      have hylen : ys.length = n * 1 := hown.1
      have cj : wr.cell? ⟨g, j, none⟩ = some (ys.getD j undef) := by
        rw [hown.cellAt j (by omega), List.getElem?_eq_getElem (by omega)]
        simp [List.getD, show j < ys.length by omega]
      have fj := hown.frozenAt j
      have hgw := hlt4.out g rfl
      have hst := hown.stored j (.int .i64 (-7))
      have hst := Lib.hid hst
      have hB2 := Lib.hid (hB.setCell (p := ⟨g, j, none⟩) hg0 (.int .i64 (-7)))
      have c82 := Lib.hid (show (wr.setCell ⟨g, j, none⟩ (.int .i64 (-7))).cell? ⟨W4.heap.size, 6, none⟩ = some (.slice (some ⟨g, 0, none⟩) n xc) from by
        unfold World.cell? at c8r ⊢
        rw [show (wr.setCell ⟨g, j, none⟩ (.int .i64 (-7))).heap[W4.heap.size]? = wr.heap[W4.heap.size]? from Below.heap_setCell _ _ _ _ (by show W4.heap.size ≠ g; omega)]
        exact c8r)
      clear hown hys hg
      go_wp2_with fail
      go_roundw
      case rel => exact ⟨j + 1, by omega, by go_num, ⟨_, hst.out.1⟩, hB2.out, c82.out⟩
      case measure => simp [intOf]; omega
    · obtain rfl : j = n := by omega
      have rOw := rangeAt_below hrW3 hB hsW3
      have rLw := rangeAt_below hr1 (hb13.trans (hB.mono hb13.size)) hs1
      clear hys hg c8r
      go_wp2_with (first
        | (refine wpList_load_midG ?_ 39 (.tmp 7) rfl W2.heap.size 0 rfl Lo _ rOw Try.underlying39 rfl hIo ?_; focus kernel_rfl)
        | (refine wpList_load_midG ?_ 39 (.tmp 3) rfl w.heap.size 0 rfl L _ rLw Try.underlying39 rfl hI ?_; focus kernel_rfl)
        | (go_at_call 14; refine (CS2.out _ hB).mono ?_; rintro e U9 ⟨rfl, hb9⟩))
      go_returns
      exact ⟨rfl, hb1.trans ((hb13.trans ((hB.trans (hb9.mono hB.size)).mono hb13.size)).mono hb1.size)⟩

end Go.Proofs.Ytpnfghpcpjpppaa
