/- The reference's boxes: Ask. -/
import Derived.Test.YtpnfghpcpjpppaaRb4
namespace Go.Proofs.Ytpnfghpcpjpppaa
open Go.RowKit
set_option linter.unusedVariables false
set_option linter.unusedSimpArgs false

theorem zeroL_size : zeroL.toArray.size = 28 := rfl
theorem wpAnyH_world {P : Program} {ops : Array Oper} {Q : Exit → Act → World → Prop} {md : Region.Mode} {S : World → Prop} {fuel : Nat} {listed : Array Bool} {a : Act} {w : World} (h : ∀ W, w = W → wpAnyH P md ops Q S fuel listed a W) : wpAnyH P md ops Q S fuel listed a w := h w rfl
theorem boolsOfOwn {w : World} {base : Nat} {e : TypeId} {u : Value} {n : Nat} {os : List Bool} (h : w.ownsRow base e 1 u n (os.map Value.bool)) (hn : n = os.length) : Bools w u os := by
  subst hn
  exact Reads.of_owns h
theorem rask_store {D : Nat} {L : List Value} {W w : World} {Z : Array Value} (hD : w.heap.size + 2 ≤ D) (hz : W.heap[D]? = some (.cells Z 39 (0, 0))) (hs : Z.size = 28) (hl : L.length = 28) (hb : Below w.heap.size w W) :
    W.there D 0 L.toArray.size ∧ (W.setCells D 0 L).rangeAt D 0 L ∧ Below w.heap.size w (W.setCells D 0 L) ∧ (∀ k, k ≠ D → (W.setCells D 0 L).heap[k]? = W.heap[k]?) := by
  have ht := there_of_row hz hs
  refine ⟨?_, World.rangeAt_setCells_same _ _ _ L (hl ▸ ht), below_setCells _ (by omega) _ _ _ hb, fun k hk => heap_setCells_ne _ _ hk _ _ _⟩
  rw [List.size_toArray, hl]
  exact ht

set_option maxRecDepth 20000 in
set_option maxHeartbeats 4000000 in
theorem rAsk_any (b : Bx) (v vl : Value) (xs : List (Int × Int)) (f : Int) (w : World) (h16 : b.seed.length = 16) (hsb : isBytes b.seed) (hv : Ints w v b.co) (hni : Nice v) (hl : b.co.length ≤ 1000000) (hx : Subs w vl xs) (hxl0 : xs.length ≤ 1000000) :
    Calls Try.prog 13 #[b.val v, vl, .int .i64 f] w (askPost b xs f w) := by
  have CB := fun W (h : Below w.heap.size w W) => rCheckBox_any b v W h16 (hv.below h) hl
  have hone1 := hv
  obtain ⟨va, vcp, hvs, -⟩ := hone1.open
  have hone0 := Bx.cells_one b (v := v) (by rw [hvs]; rfl)
  clear hone1 hvs
  unfold Bx.val at CB ⊢
  have hl28 := Bx.cells_len (b := b) h16 v
  have HN := Lib.hid (box_new h16 v w 39)
  have HBX : Hid (BoxAt (w.alloc (.cells (b.cells v).toArray 39)) w.heap.size b v) := Lib.hid (by unfold BoxAt; exact World.alloc_heap_new w _)
  generalize hL : b.cells v = L at *
  have HL := Lib.hid hL
  have HR := range_new w L 39
  have hI := hl28 ▸ info39
  clear hl28 hL
  go_enter Try.func13, Try.ntmps13
  go_wp2_with (first
    | (refine wpList_load_mid rfl 39 (.tmp 3) rfl w.heap.size 0 rfl L _ (World.rangeAt_alloc HR _) Try.underlying39 rfl hI ?_))
  refine calls_world ?_
  intro W1 hW1
  have A1 : AskAt w b v W1 := by
    rw [← hW1]
    exact ⟨HBX.out.below ((Below.refl _ _).alloc (Nat.le_refl _) _) (by simp), ⟨_, rfl, by have := World.alloc_heap_new (w.alloc (Obj.cells L.toArray 39)); rw [World.size_alloc] at this; exact this _⟩, ((Below.refl _ _).alloc (Nat.le_refl _) _).alloc (by simp) _, by simp⟩
  clear hW1 HBX HR
  refine (CB W1 A1.bel).mono ?_
  rintro e W2 ⟨rfl, hb⟩
  have A2 := A1.step hb
  clear A1 hb CB
  by_cases hE : chkBox b = 0
  · obtain ⟨hs, hlist, hn⟩ := chkBox_ok hE
    have hne : (chkBox b != 0) = false := by simp [hE]
    have HE0 := Lib.hid hE
    clear hE
    obtain ⟨c0, c1, c2, c3, c4, c5⟩ := A2.scheme
    have CS := rsubsets_any b.s.k b.s.d b.s.g b.s.p b.s.q b.s.r vl xs W2 hs (hx.below A2.bel) hxl0
    by_cases hS : subE b.s.k b.s.d xs = 0
    · rw [hS] at CS
      have hxl : xs.length ≤ 64 := by
        unfold subE at hS
        by_cases h : 64 < xs.length
        · rw [if_pos h] at hS; cases hS
        · omega
      have hall : (xs.all fun x => subsetB b.s.k b.s.d x.1 x.2) = true := by
        unfold subE at hS
        rw [if_neg (by omega)] at hS
        cases h : (xs.all fun x => subsetB b.s.k b.s.d x.1 x.2) with
        | true => rfl
        | false => rw [h] at hS; cases hS
      have hal := Lib.hid hall
      have HXB := Lib.hid hx
      obtain ⟨a, cap, rfl, hcap, hmax, -⟩ := hx.open
      unfold maxLen at hmax
      have h22 := A2.siz
      clear hx hall hS
      have CS2 := Lib.hid CS
      clear CS
      by_cases hf1 : f < 0
      · have HE : Hid (askE b xs f = 2) := Lib.hid (by unfold askE; rw [if_neg (by rw [HE0.out]; simp), if_neg (by omega), if_neg (by rw [hal.out]; simp), if_pos (.inl hf1)])
        go_wp2_with (first
          | (go_at_call 42; refine CS2.out.mono ?_; rintro e W3 ⟨rfl, hb⟩; have A3 := A2.step hb; clear hb)
          | (refine wpList_store_mid rfl 39 (.tmp 6) (.tmp 35) rfl (w.heap.size + 1) 0 zeroL.toArray rfl rfl A3.there info39 zeroL_one ?_; obtain ⟨W9, hW9, hr3, hb3⟩ := store_zero A3; rw [show zeroL.toArray.toList = zeroL from rfl, hW9]; clear hW9))
        refine bodyPost_ret (v := .tuple #[zeroBox, .bool false, .int .i64 2]) (results_mid3 Try.results13 _ _ (w.heap.size + 1) zeroL _ _ _ rfl rfl rfl hr3 Try.underlying39 rfl info39) rfl ?_
        exact askPost_bad HE.out (by decide) hb3
      · by_cases hf2 : (xs.length : Int) < f
        · have HE : Hid (askE b xs f = 2) := Lib.hid (by unfold askE; rw [if_neg (by rw [HE0.out]; simp), if_neg (by omega), if_neg (by rw [hal.out]; simp), if_pos (.inr hf2)])
          go_wp2_with (first
            | (go_at_call 42; refine CS2.out.mono ?_; rintro e W3 ⟨rfl, hb⟩; have A3 := A2.step hb; clear hb)
            | (refine wpList_store_mid rfl 39 (.tmp 6) (.tmp 35) rfl (w.heap.size + 1) 0 zeroL.toArray rfl rfl A3.there info39 zeroL_one ?_; obtain ⟨W9, hW9, hr3, hb3⟩ := store_zero A3; rw [show zeroL.toArray.toList = zeroL from rfl, hW9]; clear hW9))
          refine bodyPost_ret (v := .tuple #[zeroBox, .bool false, .int .i64 2]) (results_mid3 Try.results13 _ _ (w.heap.size + 1) zeroL _ _ _ rfl rfl rfl hr3 Try.underlying39 rfl info39) rfl ?_
          exact askPost_bad HE.out (by decide) hb3
        · by_cases hf3 : b.asked = 100000
          · have HE : Hid (askE b xs f = 9) := Lib.hid (by unfold askE; rw [if_neg (by rw [HE0.out]; simp), if_neg (by omega), if_neg (by rw [hal.out]; simp), if_neg (by omega), if_pos hf3])
            have hq3 : (b.asked == 100000) = true := by simp [hf3]
            clear hf3
            go_wp2_with (first
              | (go_at_call 42; refine CS2.out.mono ?_; rintro e W3 ⟨rfl, hb⟩; have A3 := A2.step hb; clear hb; obtain ⟨-, -, -, c26, -, -, cf⟩ := A3.box.facts h16; clear cf)
              | (refine wpList_store_mid rfl 39 (.tmp 6) (.tmp 39) rfl (w.heap.size + 1) 0 zeroL.toArray rfl rfl A3.there info39 zeroL_one ?_; obtain ⟨W9, hW9, hr3, hb3⟩ := store_zero A3; rw [show zeroL.toArray.toList = zeroL from rfl, hW9]; clear hW9))
            refine bodyPost_ret (v := .tuple #[zeroBox, .bool false, .int .i64 9]) (results_mid3 Try.results13 _ _ (w.heap.size + 1) zeroL _ _ _ rfl rfl rfl hr3 Try.underlying39 rfl info39) rfl ?_
            exact askPost_bad HE.out (by decide) hb3
          · have HE : Hid (askE b xs f = 0) := Lib.hid (by unfold askE; rw [if_neg (by rw [HE0.out]; simp), if_neg (by omega), if_neg (by rw [hal.out]; simp), if_neg (by omega), if_neg hf3])
            have hq3 : (b.asked == 100000) = false := by simpa using hf3
            have ha : b.asked < 100000 := by have := hn; unfold Bx.nums at this; omega
            clear hf3
            go_wp2_with fail
            go_at_call 42
            refine CS2.out.mono ?_
            rintro e W3 ⟨rfl, hb⟩
            have A3 := A2.step hb
            have hq := A3.box.facts h16
            obtain ⟨-, -, -, c26, -, -, cf⟩ := hq
            clear hb c0 c1 c2 c3 c4 c5 cf
            have COp := (fun W (h : Below W3.heap.size W3 W) => rOpens_any b v (.slice a xs.length cap) xs W h16 hs (hv.below (A3.bel.trans (h.mono (by have := A3.siz; omega)))) hl hlist (HXB.out.below (A3.bel.trans (h.mono (by have := A3.siz; omega)))) hxl hal.out)
            unfold Bx.val at COp
            simp only [HL.out] at COp
            have COp := Lib.hid COp
            have CAs := (fun u W (h : Below W3.heap.size W3 W) (ho : Bools W u (askOs b xs)) => rAsked_any b v u (askOs b xs) f W h16 hsb hn ha (hv.below (A3.bel.trans (h.mono (by have := A3.siz; omega)))) hni hl ho (by rw [askOs_len]; exact hxl) (by omega) (by omega))
            unfold Bx.val at CAs
            simp only [HL.out, show askTo f (askOs b xs) (askOs b xs).length = askV b xs f from rfl] at CAs
            have CAs := Lib.hid CAs
            have HRG : Hid (W3.rangeAt w.heap.size 0 L) := Lib.hid (HL.out ▸ A3.box.range)
            have HS3 := A3.siz
            have HA3 := Lib.hid A3
            have hn0 : w.heap.size < W3.heap.size := by omega
            clear A2 A3 CS2 HN
            generalize chkBox b = CBb at *
            go_wp2_with fail
            refine wp_region_noPanic ?_
            refine wp_region_held_drew (S := fun w' => Below W3.heap.size W3 w') (by kernel_rfl) (Below.refl _ _).drew (fun hHeld => ?_)
            refine wpAnyH_take (i := 0) (oi := _) (v := .agg L.toArray) rfl (by kernel_rfl) (by kernel_rfl) (by kernel_rfl) (fun _ _ _ h => h) (Or.inl ⟨by kernel_rfl, fun W hSw => run_load_boxm (N := w.heap.size) W _ _ _ _ _ _ _ (by kernel_rfl) (rangeAt_below HRG.out hSw hn0) hI⟩) (by assumption) ?_; (try simp only [Act.put, List.setIfInBounds_toArray, List.set_cons_zero, List.set_cons_succ])
            refine wpAnyH_take (i := 1) (oi := _) (v := .agg L.toArray) rfl (by kernel_rfl) (by kernel_rfl) (by kernel_rfl) (fun _ _ _ h => h) (Or.inl ⟨by kernel_rfl, fun W hSw => run_load_boxm (N := w.heap.size) W _ _ _ _ _ _ _ (by kernel_rfl) (rangeAt_below HRG.out hSw hn0) hI⟩) (by assumption) ?_; (try simp only [Act.put, List.setIfInBounds_toArray, List.set_cons_zero, List.set_cons_succ])
            refine wpAnyH_take (i := 2) (oi := _) (v := ?_) rfl (by kernel_rfl) (by kernel_rfl) (by kernel_rfl) (fun _ _ _ h => h) (Or.inl ⟨by kernel_rfl, ?_⟩) (by assumption) ?_; rotate_left 1; focus (intro w hSw; (try dsimp only at hSw); go_simp; (try (with_reducible rfl))); (try simp only [Act.put, List.setIfInBounds_toArray, List.set_cons_zero, List.set_cons_succ])
            refine wpAnyH_take (i := 4) (oi := _) (v := ?_) rfl (by kernel_rfl) (by kernel_rfl) (by kernel_rfl) (fun _ _ _ h => h) (Or.inl ⟨by kernel_rfl, ?_⟩) (by assumption) ?_; rotate_left 1; focus (intro w hSw; (try dsimp only at hSw); go_simp; (try (with_reducible rfl))); (try simp only [Act.put, List.setIfInBounds_toArray, List.set_cons_zero, List.set_cons_succ])
            refine wpAnyH_ready (rs := [3, 9]) (by kernel_rfl) (by simp) ?_
            refine AllReadyH.cons (o := _) rfl ?_ (AllReadyH.cons (o := _) rfl ?_ AllReadyH.nil)
            · intro K hK
              rw [if_pos (show Region.wanted _ _ = true by kernel_rfl)]
              go_simp
              go_at_call 44
              refine (COp.out _ (Below.refl _ _).drew).mono ?_
              rintro e W5 ⟨u, rfl, hu, hb5⟩
              dsimp only
              have h5 : Below W3.heap.size W3 W5 := ((Below.refl _ _).drew).trans hb5
              have ho5 := boolsOfOwn hu (askOs_len b xs).symm
              clear hu
              refine hK.out _ _ h5 (fun hHeld => ?_)
              clear hK K
              refine wpAnyH_ready (rs := [5, 9]) (by kernel_rfl) (by simp) ?_
              refine AllReadyH.cons (o := _) rfl ?_ (AllReadyH.cons (o := _) rfl ?_ AllReadyH.nil)
              · intro K hK
                rw [if_pos (show Region.wanted _ _ = true by kernel_rfl)]
                go_simp
                go_at_call 43
                refine (CAs.out _ _ h5 ho5).mono ?_
                rintro e W6 ⟨v', rfl, hown, hb6⟩
                dsimp only
                have h6 : Below W3.heap.size W3 W6 := h5.trans (hb6.mono h5.size)
                have hL2 := Bx.cells_len (b := b.after (askV b xs f).1 (askV b xs f).2.1) h16 v'
                have hone := Bx.cells_one (b.after (askV b xs f).1 (askV b xs f).2.1) (v := v') (ownsRow_one hown)
                generalize hLL : (b.after (askV b xs f).1 (askV b xs f).2.1).cells v' = L2 at *
                generalize hPP : askP b (askV b xs f).1 (askV b xs f).2.1 (askV b xs f).2.2 = pl at *
                have HP := Lib.hid (show ∀ w', w'.ownsRow w.heap.size 3 1 v' b.co.length (b.co.map (Value.int .i64)) → Below w.heap.size w w' → askPost b xs f w (.returned (.tuple #[.agg L2.toArray, .bool pl, .int .i64 0])) w' from fun w' h1 h2 => by
                  subst hLL hPP
                  exact ⟨fun h => absurd HE.out h, fun _ => ⟨_, rfl, h1⟩, h2⟩)
                clear hLL hPP
                have hi2 : (Try.prog.info? 39).map (·.size) = some L2.length := hL2 ▸ info39
                have hs2 : L2.toArray.size = 28 := by simp [hL2]
                have hi4 : (Try.prog.info? 39).map (·.size) = some L2.toArray.size := hs2 ▸ info39
                clear hs2
                refine hK.out _ _ h6 (fun hHeld => ?_)
                clear hK K
                refine wpAnyH_take (i := 6) (oi := _) (v := ?_) rfl (by kernel_rfl) (by kernel_rfl) (by kernel_rfl) (fun _ _ _ h => h) (Or.inl ⟨by kernel_rfl, ?_⟩) (by assumption) ?_; rotate_left 1; focus (intro w hSw; (try dsimp only at hSw); go_simp; (try (with_reducible rfl))); (try simp only [Act.put, List.setIfInBounds_toArray, List.set_cons_zero, List.set_cons_succ])
                refine wpAnyH_take (i := 7) (oi := _) (v := ?_) rfl (by kernel_rfl) (by kernel_rfl) (by kernel_rfl) (fun _ _ _ h => h) (Or.inl ⟨by kernel_rfl, ?_⟩) (by assumption) ?_; rotate_left 1; focus (intro w hSw; (try dsimp only at hSw); go_simp; (try (with_reducible rfl))); (try simp only [Act.put, List.setIfInBounds_toArray, List.set_cons_zero, List.set_cons_succ])
                refine wpAnyH_take (i := 8) (oi := _) (v := ?_) rfl (by kernel_rfl) (by kernel_rfl) (by kernel_rfl) (fun _ _ _ h => h) (Or.inl ⟨by kernel_rfl, ?_⟩) (by assumption) ?_; rotate_left 1; focus (intro w hSw; (try dsimp only at hSw); go_simp; (try (with_reducible rfl))); (try simp only [Act.put, List.setIfInBounds_toArray, List.set_cons_zero, List.set_cons_succ])
                refine wpAnyH_ready (rs := [9]) (by kernel_rfl) (by simp) ?_
                refine AllReadyH.cons (o := _) rfl ?_ AllReadyH.nil
                intro K hK
                rw [if_pos (show Region.wanted _ _ = true by kernel_rfl)]
                go_simp
                refine hK.out _ _ (h6.alloc h6.size _) (fun hHeld => ?_)
                clear hK K
                refine wpAnyH_world ?_
                intro W7 hW7
                have hbW7 : Below W6.heap.size W6 W7 := by rw [← hW7]; (repeat' (first | (with_reducible exact Below.refl _ _) | (with_reducible assumption) | (with_reducible refine Below.alloc ?_ ?_ _) | (with_reducible refine Below.drew ?_) | (with_reducible refine below_drewN _ ?_) | (with_reducible refine Below.setCell ?_ ?_ _) | (with_reducible refine Below.frame ?_ _) | go_size | (simp only [size_alloc, size_setCell, size_drew, size_drewN]; omega)))
                have hD : W7.heap[W6.heap.size]? = some (.cells zeroL.toArray 39 (0, 0)) := by rw [← hW7]; exact World.alloc_heap_new W6 _
                clear hW7
                have hW7 : Below W3.heap.size W3 W7 := h6.trans (hbW7.mono h6.size)
                have hDw : w.heap.size + 2 ≤ W6.heap.size := Nat.le_trans HS3 h6.size
                have hD3 : W3.heap.size ≤ W6.heap.size := h6.size
                have hmv := Lib.hid (fun (W8 : World) (h8 : ∀ k, W3.heap.size ≤ k → k ≠ W6.heap.size → W8.heap[k]? = W7.heap[k]?) => ownsRow_mono (owns_move hown (fun k hk hlt => (h8 k (by have := h5.size; omega) (by omega)).trans (hbW7.block k hlt))) (show w.heap.size ≤ W5.heap.size by have := h5.size; omega))
                clear hown hb6 ho5
                obtain ⟨htD, hrD, hbD, hkD⟩ := rask_store hDw hD zeroL_size hL2 (HA3.out.step hW7).bel
                refine wpAnyH_ready (rs := [10]) (by kernel_rfl) (by simp) ?_
                refine AllReadyH.cons (o := _) rfl ?_ AllReadyH.nil
                intro K hK
                rw [if_pos (show Region.wanted _ _ = true by kernel_rfl)]
                refine wp_store_mid _ _ _ rfl _ _ L2.toArray rfl rfl htD hi4 (all_oneCell_toArray hone) ?_
                rw [List.toList_toArray]
                refine hK.out _ _ (hW7.trans (below_setCells _ hD3 _ _ _ (Below.refl _ _))) (fun hHeld => ?_)
                clear hK K
                refine wpAnyH_world ?_
                intro W8 hW8
                rw [hW8] at hrD hbD hkD hHeld
                clear hW8
                refine wpAnyH_take (i := 11) (oi := _) (v := ?_) rfl (by kernel_rfl) (by kernel_rfl) (by kernel_rfl) (fun _ _ _ h => h) (Or.inl ⟨by kernel_rfl, ?_⟩) (by assumption) ?_; rotate_left 1; focus (intro w hSw; (try dsimp only at hSw); go_simp; (try (with_reducible rfl))); (try simp only [Act.put, List.setIfInBounds_toArray, List.set_cons_zero, List.set_cons_succ])
                refine wpAnyH_done (by kernel_rfl) ?_ _
                refine NoPanic.normal ?_
                have hA8 := HA3.out.step hHeld
                have htr2 : W8.there (w.heap.size + 1) 0 L2.toArray.size := (show L2.toArray.size = 28 from by simp [hL2]) ▸ hA8.there
                obtain ⟨W9, hW9, hr9, hb9, hk9⟩ : ∃ W9, W8.setCells (w.heap.size + 1) 0 L2 = W9 ∧ W9.rangeAt (w.heap.size + 1) 0 L2 ∧ Below w.heap.size w W9 ∧ ∀ k, k ≠ w.heap.size + 1 → W9.heap[k]? = W8.heap[k]? :=
                  ⟨_, rfl, World.rangeAt_setCells_same _ _ _ L2 (hL2 ▸ hA8.there), below_setCells _ (by omega) _ _ _ hA8.bel, fun k hk => heap_setCells_ne _ _ hk _ _ _⟩
                have HW9 := Lib.hid hW9
                clear hW9 hA8
                have hfin := Lib.hid (hmv.out W9 (fun k hk hne => (hk9 k (by omega)).trans (hkD k hne)))
                clear hmv hkD hk9 hbD
                have HL2 := Lib.hid hL2
                clear hL2
                go_wp2_with (first
                  | (refine wpList_load_mid rfl 39 (.tmp 11) rfl _ 0 rfl L2 _ hrD Try.underlying39 rfl hi2 ?_)
                  | (refine wpList_store_mid rfl 39 (.tmp 6) (.tmp 49) rfl (w.heap.size + 1) 0 L2.toArray rfl rfl htr2 hi4 (all_oneCell_toArray hone) ?_; rw [List.toList_toArray, HW9.out]))
                refine bodyPost_ret (v := .tuple #[.agg L2.toArray, .bool pl, .int .i64 0]) (results_mid3 Try.results13 _ _ (w.heap.size + 1) L2 _ _ _ rfl rfl rfl hr9 Try.underlying39 rfl hi2) rfl ?_
                exact HP.out _ hfin.out hb9

              · intro K hK
                rw [if_pos (show Region.wanted _ _ = true by kernel_rfl)]
                go_simp
                refine hK.out _ _ (h5.alloc h5.size _) (fun hHeld => ?_)
                clear hK K
                refine wpAnyH_world ?_
                intro W7 hW7
                have hbW7 : Below W5.heap.size W5 W7 := by rw [← hW7]; (repeat' (first | (with_reducible exact Below.refl _ _) | (with_reducible assumption) | (with_reducible refine Below.alloc ?_ ?_ _) | (with_reducible refine Below.drew ?_) | (with_reducible refine below_drewN _ ?_) | (with_reducible refine Below.setCell ?_ ?_ _) | (with_reducible refine Below.frame ?_ _) | go_size | (simp only [size_alloc, size_setCell, size_drew, size_drewN]; omega)))
                have hD : W7.heap[W5.heap.size]? = some (.cells zeroL.toArray 39 (0, 0)) := by rw [← hW7]; exact World.alloc_heap_new W5 _
                clear hW7
                have h7 : Below W3.heap.size W3 W7 := h5.trans (hbW7.mono h5.size)
                refine wpAnyH_ready (rs := [5]) (by kernel_rfl) (by simp) ?_
                refine AllReadyH.cons (o := _) rfl ?_ AllReadyH.nil
                intro K hK
                rw [if_pos (show Region.wanted _ _ = true by kernel_rfl)]
                go_simp
                go_at_call 43
                refine (CAs.out _ _ h7 (ho5.below hbW7)).mono ?_
                rintro e W6 ⟨v', rfl, hown, hb6⟩
                dsimp only
                have h6 : Below W3.heap.size W3 W6 := h7.trans (hb6.mono h7.size)
                have hL2 := Bx.cells_len (b := b.after (askV b xs f).1 (askV b xs f).2.1) h16 v'
                have hone := Bx.cells_one (b.after (askV b xs f).1 (askV b xs f).2.1) (v := v') (ownsRow_one hown)
                generalize hLL : (b.after (askV b xs f).1 (askV b xs f).2.1).cells v' = L2 at *
                generalize hPP : askP b (askV b xs f).1 (askV b xs f).2.1 (askV b xs f).2.2 = pl at *
                have HP := Lib.hid (show ∀ w', w'.ownsRow w.heap.size 3 1 v' b.co.length (b.co.map (Value.int .i64)) → Below w.heap.size w w' → askPost b xs f w (.returned (.tuple #[.agg L2.toArray, .bool pl, .int .i64 0])) w' from fun w' h1 h2 => by
                  subst hLL hPP
                  exact ⟨fun h => absurd HE.out h, fun _ => ⟨_, rfl, h1⟩, h2⟩)
                clear hLL hPP
                have hi2 : (Try.prog.info? 39).map (·.size) = some L2.length := hL2 ▸ info39
                have hs2 : L2.toArray.size = 28 := by simp [hL2]
                have hi4 : (Try.prog.info? 39).map (·.size) = some L2.toArray.size := hs2 ▸ info39
                clear hs2
                refine hK.out _ _ h6 (fun hHeld => ?_)
                clear hK K
                refine wpAnyH_take (i := 6) (oi := _) (v := ?_) rfl (by kernel_rfl) (by kernel_rfl) (by kernel_rfl) (fun _ _ _ h => h) (Or.inl ⟨by kernel_rfl, ?_⟩) (by assumption) ?_; rotate_left 1; focus (intro w hSw; (try dsimp only at hSw); go_simp; (try (with_reducible rfl))); (try simp only [Act.put, List.setIfInBounds_toArray, List.set_cons_zero, List.set_cons_succ])
                refine wpAnyH_take (i := 7) (oi := _) (v := ?_) rfl (by kernel_rfl) (by kernel_rfl) (by kernel_rfl) (fun _ _ _ h => h) (Or.inl ⟨by kernel_rfl, ?_⟩) (by assumption) ?_; rotate_left 1; focus (intro w hSw; (try dsimp only at hSw); go_simp; (try (with_reducible rfl))); (try simp only [Act.put, List.setIfInBounds_toArray, List.set_cons_zero, List.set_cons_succ])
                refine wpAnyH_take (i := 8) (oi := _) (v := ?_) rfl (by kernel_rfl) (by kernel_rfl) (by kernel_rfl) (fun _ _ _ h => h) (Or.inl ⟨by kernel_rfl, ?_⟩) (by assumption) ?_; rotate_left 1; focus (intro w hSw; (try dsimp only at hSw); go_simp; (try (with_reducible rfl))); (try simp only [Act.put, List.setIfInBounds_toArray, List.set_cons_zero, List.set_cons_succ])
                have hW7 := h6
                have hDw : w.heap.size + 2 ≤ W5.heap.size := Nat.le_trans HS3 h5.size
                have hD3 : W3.heap.size ≤ W5.heap.size := h5.size
                have h57 : W5.heap.size < W7.heap.size := (Array.getElem?_eq_some_iff.1 hD).1
                have hD := (hb6.block _ h57).trans hD
                have hmv := Lib.hid (fun (W8 : World) (h8 : ∀ k, W3.heap.size ≤ k → k ≠ W5.heap.size → W8.heap[k]? = W6.heap[k]?) => ownsRow_mono (owns_move hown (fun k hk hlt => h8 k (by have := h5.size; omega) (by omega))) (show w.heap.size ≤ W7.heap.size by omega))
                clear hown hb6 ho5
                obtain ⟨htD, hrD, hbD, hkD⟩ := rask_store hDw hD zeroL_size hL2 (HA3.out.step hW7).bel
                refine wpAnyH_ready (rs := [10]) (by kernel_rfl) (by simp) ?_
                refine AllReadyH.cons (o := _) rfl ?_ AllReadyH.nil
                intro K hK
                rw [if_pos (show Region.wanted _ _ = true by kernel_rfl)]
                refine wp_store_mid _ _ _ rfl _ _ L2.toArray rfl rfl htD hi4 (all_oneCell_toArray hone) ?_
                rw [List.toList_toArray]
                refine hK.out _ _ (hW7.trans (below_setCells _ hD3 _ _ _ (Below.refl _ _))) (fun hHeld => ?_)
                clear hK K
                refine wpAnyH_world ?_
                intro W8 hW8
                rw [hW8] at hrD hbD hkD hHeld
                clear hW8
                refine wpAnyH_take (i := 11) (oi := _) (v := ?_) rfl (by kernel_rfl) (by kernel_rfl) (by kernel_rfl) (fun _ _ _ h => h) (Or.inl ⟨by kernel_rfl, ?_⟩) (by assumption) ?_; rotate_left 1; focus (intro w hSw; (try dsimp only at hSw); go_simp; (try (with_reducible rfl))); (try simp only [Act.put, List.setIfInBounds_toArray, List.set_cons_zero, List.set_cons_succ])
                refine wpAnyH_done (by kernel_rfl) ?_ _
                refine NoPanic.normal ?_
                have hA8 := HA3.out.step hHeld
                have htr2 : W8.there (w.heap.size + 1) 0 L2.toArray.size := (show L2.toArray.size = 28 from by simp [hL2]) ▸ hA8.there
                obtain ⟨W9, hW9, hr9, hb9, hk9⟩ : ∃ W9, W8.setCells (w.heap.size + 1) 0 L2 = W9 ∧ W9.rangeAt (w.heap.size + 1) 0 L2 ∧ Below w.heap.size w W9 ∧ ∀ k, k ≠ w.heap.size + 1 → W9.heap[k]? = W8.heap[k]? :=
                  ⟨_, rfl, World.rangeAt_setCells_same _ _ _ L2 (hL2 ▸ hA8.there), below_setCells _ (by omega) _ _ _ hA8.bel, fun k hk => heap_setCells_ne _ _ hk _ _ _⟩
                have HW9 := Lib.hid hW9
                clear hW9 hA8
                have hfin := Lib.hid (hmv.out W9 (fun k hk hne => (hk9 k (by omega)).trans (hkD k hne)))
                clear hmv hkD hk9 hbD
                have HL2 := Lib.hid hL2
                clear hL2
                go_wp2_with (first
                  | (refine wpList_load_mid rfl 39 (.tmp 11) rfl _ 0 rfl L2 _ hrD Try.underlying39 rfl hi2 ?_)
                  | (refine wpList_store_mid rfl 39 (.tmp 6) (.tmp 49) rfl (w.heap.size + 1) 0 L2.toArray rfl rfl htr2 hi4 (all_oneCell_toArray hone) ?_; rw [List.toList_toArray, HW9.out]))
                refine bodyPost_ret (v := .tuple #[.agg L2.toArray, .bool pl, .int .i64 0]) (results_mid3 Try.results13 _ _ (w.heap.size + 1) L2 _ _ _ rfl rfl rfl hr9 Try.underlying39 rfl hi2) rfl ?_
                exact HP.out _ hfin.out hb9

            · intro K hK
              rw [if_pos (show Region.wanted _ _ = true by kernel_rfl)]
              go_simp
              refine hK.out _ _ (by (repeat' (first | (with_reducible exact Below.refl _ _) | (with_reducible assumption) | (with_reducible refine Below.alloc ?_ ?_ _) | (with_reducible refine Below.drew ?_) | (with_reducible refine below_drewN _ ?_) | (with_reducible refine Below.setCell ?_ ?_ _) | (with_reducible refine Below.frame ?_ _) | go_size | (simp only [size_alloc, size_setCell, size_drew, size_drewN]; omega)))) (fun hHeld => ?_)
              clear hK K
              refine wpAnyH_world ?_
              intro W4 hW4
              have hb4 : Below W3.heap.size W3 W4 := by rw [← hW4]; (repeat' (first | (with_reducible exact Below.refl _ _) | (with_reducible assumption) | (with_reducible refine Below.alloc ?_ ?_ _) | (with_reducible refine Below.drew ?_) | (with_reducible refine below_drewN _ ?_) | (with_reducible refine Below.setCell ?_ ?_ _) | (with_reducible refine Below.frame ?_ _) | go_size | (simp only [size_alloc, size_setCell, size_drew, size_drewN]; omega)))
              have hD : W4.heap[W3.heap.size]? = some (.cells zeroL.toArray 39 (0, 0)) := by rw [← hW4]; exact World.alloc_heap_new W3.drew _
              have h34 : W3.heap.size < W4.heap.size := (Array.getElem?_eq_some_iff.1 hD).1
              clear hW4
              refine wpAnyH_ready (rs := [3]) (by kernel_rfl) (by simp) ?_
              refine AllReadyH.cons (o := _) rfl ?_ AllReadyH.nil
              intro K hK
              rw [if_pos (show Region.wanted _ _ = true by kernel_rfl)]
              go_simp
              go_at_call 44
              refine (COp.out _ hb4).mono ?_
              rintro e W5 ⟨u, rfl, hu, hb5⟩
              dsimp only
              have h5 : Below W3.heap.size W3 W5 := hb4.trans (hb5.mono hb4.size)
              have ho5 := boolsOfOwn hu (askOs_len b xs).symm
              clear hu
              refine hK.out _ _ h5 (fun hHeld => ?_)
              clear hK K
              refine wpAnyH_ready (rs := [5]) (by kernel_rfl) (by simp) ?_
              refine AllReadyH.cons (o := _) rfl ?_ AllReadyH.nil
              intro K hK
              rw [if_pos (show Region.wanted _ _ = true by kernel_rfl)]
              go_simp
              go_at_call 43
              refine (CAs.out _ _ h5 ho5).mono ?_
              rintro e W6 ⟨v', rfl, hown, hb6⟩
              dsimp only
              have h6 : Below W3.heap.size W3 W6 := h5.trans (hb6.mono h5.size)
              have hL2 := Bx.cells_len (b := b.after (askV b xs f).1 (askV b xs f).2.1) h16 v'
              have hone := Bx.cells_one (b.after (askV b xs f).1 (askV b xs f).2.1) (v := v') (ownsRow_one hown)
              generalize hLL : (b.after (askV b xs f).1 (askV b xs f).2.1).cells v' = L2 at *
              generalize hPP : askP b (askV b xs f).1 (askV b xs f).2.1 (askV b xs f).2.2 = pl at *
              have HP := Lib.hid (show ∀ w', w'.ownsRow w.heap.size 3 1 v' b.co.length (b.co.map (Value.int .i64)) → Below w.heap.size w w' → askPost b xs f w (.returned (.tuple #[.agg L2.toArray, .bool pl, .int .i64 0])) w' from fun w' h1 h2 => by
                subst hLL hPP
                exact ⟨fun h => absurd HE.out h, fun _ => ⟨_, rfl, h1⟩, h2⟩)
              clear hLL hPP
              have hi2 : (Try.prog.info? 39).map (·.size) = some L2.length := hL2 ▸ info39
              have hs2 : L2.toArray.size = 28 := by simp [hL2]
              have hi4 : (Try.prog.info? 39).map (·.size) = some L2.toArray.size := hs2 ▸ info39
              clear hs2
              refine hK.out _ _ h6 (fun hHeld => ?_)
              clear hK K
              refine wpAnyH_take (i := 6) (oi := _) (v := ?_) rfl (by kernel_rfl) (by kernel_rfl) (by kernel_rfl) (fun _ _ _ h => h) (Or.inl ⟨by kernel_rfl, ?_⟩) (by assumption) ?_; rotate_left 1; focus (intro w hSw; (try dsimp only at hSw); go_simp; (try (with_reducible rfl))); (try simp only [Act.put, List.setIfInBounds_toArray, List.set_cons_zero, List.set_cons_succ])
              refine wpAnyH_take (i := 7) (oi := _) (v := ?_) rfl (by kernel_rfl) (by kernel_rfl) (by kernel_rfl) (fun _ _ _ h => h) (Or.inl ⟨by kernel_rfl, ?_⟩) (by assumption) ?_; rotate_left 1; focus (intro w hSw; (try dsimp only at hSw); go_simp; (try (with_reducible rfl))); (try simp only [Act.put, List.setIfInBounds_toArray, List.set_cons_zero, List.set_cons_succ])
              refine wpAnyH_take (i := 8) (oi := _) (v := ?_) rfl (by kernel_rfl) (by kernel_rfl) (by kernel_rfl) (fun _ _ _ h => h) (Or.inl ⟨by kernel_rfl, ?_⟩) (by assumption) ?_; rotate_left 1; focus (intro w hSw; (try dsimp only at hSw); go_simp; (try (with_reducible rfl))); (try simp only [Act.put, List.setIfInBounds_toArray, List.set_cons_zero, List.set_cons_succ])
              have hW7 := h6
              have hDw : w.heap.size + 2 ≤ W3.heap.size := HS3
              have hD3 : W3.heap.size ≤ W3.heap.size := Nat.le_refl _
              have hD := (hb6.block _ (Nat.lt_of_lt_of_le h34 hb5.size)).trans ((hb5.block _ h34).trans hD)
              have hmv := Lib.hid (fun (W8 : World) (h8 : ∀ k, W3.heap.size ≤ k → k ≠ W3.heap.size → W8.heap[k]? = W6.heap[k]?) => ownsRow_mono (owns_move hown (fun k hk hlt => h8 k (by have := h5.size; omega) (by have := hb5.size; omega))) (show w.heap.size ≤ W5.heap.size by have := h5.size; omega))
              clear hown hb6 ho5
              obtain ⟨htD, hrD, hbD, hkD⟩ := rask_store hDw hD zeroL_size hL2 (HA3.out.step hW7).bel
              refine wpAnyH_ready (rs := [10]) (by kernel_rfl) (by simp) ?_
              refine AllReadyH.cons (o := _) rfl ?_ AllReadyH.nil
              intro K hK
              rw [if_pos (show Region.wanted _ _ = true by kernel_rfl)]
              refine wp_store_mid _ _ _ rfl _ _ L2.toArray rfl rfl htD hi4 (all_oneCell_toArray hone) ?_
              rw [List.toList_toArray]
              refine hK.out _ _ (hW7.trans (below_setCells _ hD3 _ _ _ (Below.refl _ _))) (fun hHeld => ?_)
              clear hK K
              refine wpAnyH_world ?_
              intro W8 hW8
              rw [hW8] at hrD hbD hkD hHeld
              clear hW8
              refine wpAnyH_take (i := 11) (oi := _) (v := ?_) rfl (by kernel_rfl) (by kernel_rfl) (by kernel_rfl) (fun _ _ _ h => h) (Or.inl ⟨by kernel_rfl, ?_⟩) (by assumption) ?_; rotate_left 1; focus (intro w hSw; (try dsimp only at hSw); go_simp; (try (with_reducible rfl))); (try simp only [Act.put, List.setIfInBounds_toArray, List.set_cons_zero, List.set_cons_succ])
              refine wpAnyH_done (by kernel_rfl) ?_ _
              refine NoPanic.normal ?_
              have hA8 := HA3.out.step hHeld
              have htr2 : W8.there (w.heap.size + 1) 0 L2.toArray.size := (show L2.toArray.size = 28 from by simp [hL2]) ▸ hA8.there
              obtain ⟨W9, hW9, hr9, hb9, hk9⟩ : ∃ W9, W8.setCells (w.heap.size + 1) 0 L2 = W9 ∧ W9.rangeAt (w.heap.size + 1) 0 L2 ∧ Below w.heap.size w W9 ∧ ∀ k, k ≠ w.heap.size + 1 → W9.heap[k]? = W8.heap[k]? :=
                ⟨_, rfl, World.rangeAt_setCells_same _ _ _ L2 (hL2 ▸ hA8.there), below_setCells _ (by omega) _ _ _ hA8.bel, fun k hk => heap_setCells_ne _ _ hk _ _ _⟩
              have HW9 := Lib.hid hW9
              clear hW9 hA8
              have hfin := Lib.hid (hmv.out W9 (fun k hk hne => (hk9 k (by omega)).trans (hkD k hne)))
              clear hmv hkD hk9 hbD
              have HL2 := Lib.hid hL2
              clear hL2
              go_wp2_with (first
                | (refine wpList_load_mid rfl 39 (.tmp 11) rfl _ 0 rfl L2 _ hrD Try.underlying39 rfl hi2 ?_)
                | (refine wpList_store_mid rfl 39 (.tmp 6) (.tmp 49) rfl (w.heap.size + 1) 0 L2.toArray rfl rfl htr2 hi4 (all_oneCell_toArray hone) ?_; rw [List.toList_toArray, HW9.out]))
              refine bodyPost_ret (v := .tuple #[.agg L2.toArray, .bool pl, .int .i64 0]) (results_mid3 Try.results13 _ _ (w.heap.size + 1) L2 _ _ _ rfl rfl rfl hr9 Try.underlying39 rfl hi2) rfl ?_
              exact HP.out _ hfin.out hb9

    · have hne2 : (subE b.s.k b.s.d xs != 0) = true := by rw [bne_iff_ne]; exact hS
      have HE := Lib.hid (show askE b xs f = subE b.s.k b.s.d xs from by
        unfold askE subE
        rw [if_neg (by rw [HE0.out]; simp)]
        unfold subE at hS
        by_cases h : 64 < xs.length
        · rw [if_pos h, if_pos h]
        · rw [if_neg h, if_neg h]
          rw [if_neg h] at hS
          cases hh : (xs.all fun x => subsetB b.s.k b.s.d x.1 x.2) with
          | true => rw [hh] at hS; exact absurd rfl hS
          | false => simp)
      have HZ := Lib.hid hS
      clear hS
      generalize subE b.s.k b.s.d xs = E at *
      obtain ⟨a, cap, rfl, -⟩ := hx.open
      clear hx
      go_wp2_with (first
        | (go_at_call 42; refine CS.mono ?_; rintro e W3 ⟨rfl, hb⟩; have A3 := A2.step hb; clear hb)
        | (refine wpList_store_mid rfl 39 (.tmp 6) (.tmp 25) rfl (w.heap.size + 1) 0 zeroL.toArray rfl rfl A3.there info39 zeroL_one ?_; obtain ⟨W9, hW9, hr3, hb3⟩ := store_zero A3; rw [show zeroL.toArray.toList = zeroL from rfl, hW9]; clear hW9))
      refine bodyPost_ret (v := .tuple #[zeroBox, .bool false, .int .i64 E]) (results_mid3 Try.results13 _ _ (w.heap.size + 1) zeroL _ _ _ rfl rfl rfl hr3 Try.underlying39 rfl info39) rfl ?_
      exact askPost_bad HE.out HZ.out hb3
  · have hne : (chkBox b != 0) = true := by rw [bne_iff_ne]; exact hE
    have HE := Lib.hid (show askE b xs f = chkBox b from if_pos hE)
    have HZ := Lib.hid hE
    clear hE
    generalize chkBox b = E at *
    go_wp2_with (first
      | (refine wpList_store_mid rfl 39 (.tmp 6) (.tmp 17) rfl (w.heap.size + 1) 0 zeroL.toArray rfl rfl A2.there info39 zeroL_one ?_; obtain ⟨W3, hW3, hr3, hb3⟩ := store_zero A2; rw [show zeroL.toArray.toList = zeroL from rfl, hW3]; clear hW3))
    refine bodyPost_ret (v := .tuple #[zeroBox, .bool false, .int .i64 E]) (results_mid3 Try.results13 _ _ (w.heap.size + 1) zeroL _ _ _ rfl rfl rfl hr3 Try.underlying39 rfl info39) rfl ?_
    exact askPost_bad HE.out HZ.out hb3
end Go.Proofs.Ytpnfghpcpjpppaa
