/- The reference's boxes: Asked. -/
import Derived.Test.YtpnfghpcpjpppaaRb3
import Derived.Deep.RegionWith
namespace Go.Proofs.Ytpnfghpcpjpppaa
open Go.RowKit
set_option linter.unusedVariables false
set_option linter.unusedSimpArgs false

theorem AskAt.set26 {w W : World} {b : Bx} {v : Value} (h : AskAt w b v W) (h16 : b.seed.length = 16) (n : Int) : AskAt w { b with asked := n } v (W.setCell ⟨w.heap.size, 26, none⟩ (.int .i64 n)) := by
  obtain ⟨Z, hz, hr⟩ := h.res
  exact ⟨h.box.set26 h16 n, ⟨Z, hz, (Below.heap_setCell _ _ _ _ (by show w.heap.size + 1 ≠ w.heap.size; omega)).trans hr⟩, h.bel.setCell (Nat.le_refl _) _, by rw [size_setCell]; exact h.siz⟩
theorem AskAt.set27 {w W : World} {b : Bx} {v : Value} (h : AskAt w b v W) (h16 : b.seed.length = 16) (n : Int) : AskAt w { b with mixed := n } v (W.setCell ⟨w.heap.size, 27, none⟩ (.int .i64 n)) := by
  obtain ⟨Z, hz, hr⟩ := h.res
  exact ⟨h.box.set27 h16 n, ⟨Z, hz, (Below.heap_setCell _ _ _ _ (by show w.heap.size + 1 ≠ w.heap.size; omega)).trans hr⟩, h.bel.setCell (Nat.le_refl _) _, by rw [size_setCell]; exact h.siz⟩
/-- Another box is stored whole. -/
theorem row_setCells {B : Nat} {T : TypeId} {fr : Nat × Nat} : ∀ (vs pre rest : List Value) (w : World), w.heap[B]? = some (.cells (pre ++ rest).toArray T fr) → vs.length = rest.length → (w.setCells B pre.length vs).heap[B]? = some (.cells (pre ++ vs).toArray T fr)
  | [], pre, rest, w, h, hl => by
    rw [World.setCells, h, List.length_eq_zero_iff.1 (show rest.length = 0 from hl.symm)]
  | v :: vs, pre, [], w, h, hl => by cases hl
  | v :: vs, pre, r :: rest, w, h, hl => by
    have h1 := heap_set_row (i := pre.length) h v
    rw [List.setIfInBounds_toArray, List.set_append_right _ _ (Nat.le_refl _), Nat.sub_self, List.set_cons_zero] at h1
    have h2 := row_setCells vs (pre ++ [v]) rest (w.setCell ⟨B, pre.length, none⟩ v) (by rw [List.append_assoc]; exact h1) (by simpa using hl)
    rw [List.length_append, List.length_singleton, List.append_assoc] at h2
    exact h2
theorem AskAt.setBox {w W : World} {b b' : Bx} {v v' : Value} (h : AskAt w b v W) (h16 : b.seed.length = 16) (h16' : b'.seed.length = 16) : AskAt w b' v' (W.setCells w.heap.size 0 (b'.cells v')) := by
  obtain ⟨Z, hz, hr⟩ := h.res
  refine ⟨?_, ⟨Z, hz, (heap_setCells_ne _ _ (by omega) _ _ _).trans hr⟩, below_setCells _ (Nat.le_refl _) _ _ _ h.bel, by rw [size_setCells]; exact h.siz⟩
  unfold BoxAt
  have := row_setCells (B := w.heap.size) (b'.cells v') [] (b.cells v) W h.box (by rw [Bx.cells_len h16', Bx.cells_len h16])
  simpa using this
theorem AskAt.thereB {w W : World} {b : Bx} {v : Value} (h : AskAt w b v W) (h16 : b.seed.length = 16) : W.there w.heap.size 0 28 := there_of_row h.box (by rw [List.size_toArray, Bx.cells_len h16])

/-- A function with two results, of which the first is a row in a cell of its own. -/
theorem results_mid2 {P : Program} {fn : Func} {p q1 : Tmp} {ty : TypeId} (h : fn.results = #[.cell p ty, .tmp q1]) (tmps : Array Value) (w : World) (b : Nat) (cs : List Value) (d : TypeDesc) (u1 : Value)
    (hp : tmps.getD p undef = .pointer (some ⟨b, 0, none⟩)) (h1 : tmps.getD q1 undef = u1) (hc : w.rangeAt b 0 cs) (hu : P.underlying ty = some d) (hd : d.isRow = true) (hi : (P.info? ty).map (·.size) = some cs.length) :
    (results fn tmps).run P w = .ok (.tuple #[.agg cs.toArray, u1]) w := by
  have hp' : tmps[p]?.getD undef = .pointer (some ⟨b, 0, none⟩) := by simpa using hp
  have h1' : tmps[q1]?.getD undef = u1 := by simpa using h1
  simp [results, h, hp', h1', asAddr, run_loadVar_mid w b 0 ty cs d hc hu hd hi]

theorem len16w {cs : List Value} (h : cs.length = 16) : ∃ c0 c1 c2 c3 c4 c5 c6 c7 c8 c9 c10 c11 c12 c13 c14 c15, cs = [c0, c1, c2, c3, c4, c5, c6, c7, c8, c9, c10, c11, c12, c13, c14, c15] := by
  match cs, h with
  | [c0, c1, c2, c3, c4, c5, c6, c7, c8, c9, c10, c11, c12, c13, c14, c15], _ => exact ⟨c0, c1, c2, c3, c4, c5, c6, c7, c8, c9, c10, c11, c12, c13, c14, c15, rfl⟩
/-- What holds of the worlds of the region that asks for a number. -/
abbrev asS (N : Nat) (K : List Value) (lv M : Int) (W w' : World) : Prop := w'.rangeAt N 10 K ∧ w'.cell? ⟨N, 9, none⟩ = some (.int .i64 lv) ∧ w'.cell? ⟨N, 27, none⟩ = some (.int .i64 M) ∧ Below W.heap.size W w'
theorem asS_of {N : Nat} {K : List Value} {lv M : Int} {W w' : World} (h1 : W.rangeAt N 10 K) (h2 : W.cell? ⟨N, 9, none⟩ = some (.int .i64 lv)) (h3 : W.cell? ⟨N, 27, none⟩ = some (.int .i64 M)) (hb : Below W.heap.size W w') : asS N K lv M W w' :=
  ⟨rangeAt_below h1 hb (cell_lt' h2), (hb.cell (p := ⟨N, 9, none⟩) (cell_lt' h2)).trans h2, (hb.cell (p := ⟨N, 27, none⟩) (cell_lt' h2)).trans h3, hb⟩
theorem asS_below {N : Nat} {K : List Value} {lv M : Int} {W w' : World} (h : asS N K lv M W w') : Below W.heap.size W w' := h.2.2.2
/-- The key of a box is loaded. -/
theorem run_load_key {KK : List Value} {N : Nat} (W : World) (a : Act) (dst : Option Tmp) (ty : TypeId) (pos : String) (aft : Array Edge) (g : Option (Tmp × Bool)) (x : Operand) (hx : a.eval x = .pointer (some ⟨N, 10, none⟩)) (hr : W.rangeAt N 10 KK) (hi : (Try.prog.info? 37).map (·.size) = some KK.length) :
    (execOp a.eval ⟨dst, .load 37 x, ty, pos, aft, g⟩).run Try.prog W = .ok (.value (.agg KK.toArray)) W := by
  unfold execOp
  simp only [hx, Instr.loadAt, Instr.sureAddr, Sem.run_bind, Sem.run_pure, Result.andThen_ok]
  rw [run_loadVar_mid W N 10 37 KK (.array 16 5) hr (by kernel_rfl) rfl hi]
  rfl
/-- What holds of the worlds of the region that asks for the answer of mode 4. -/
abbrev asT (N : Nat) (K L : List Value) (W : World) : Prop := W.rangeAt N 10 K ∧ W.rangeAt N 0 L ∧ W.there (N + 1) 0 L.toArray.size ∧ N + 1 < W.heap.size
/-- The box is loaded. -/
theorem run_load_boxm {L : List Value} {N : Nat} (W : World) (a : Act) (dst : Option Tmp) (ty : TypeId) (pos : String) (aft : Array Edge) (g : Option (Tmp × Bool)) (x : Operand) (hx : a.eval x = .pointer (some ⟨N, 0, none⟩)) (hr : W.rangeAt N 0 L) (hi : (Try.prog.info? 39).map (·.size) = some L.length) :
    (execOp a.eval ⟨dst, .load 39 x, ty, pos, aft, g⟩).run Try.prog W = .ok (.value (.agg L.toArray)) W := by
  unfold execOp
  simp only [hx, Instr.loadAt, Instr.sureAddr, Sem.run_bind, Sem.run_pure, Result.andThen_ok]
  rw [run_loadVar_mid W N 0 39 L _ hr Try.underlying39 rfl hi]
  rfl
theorem asS_call {N : Nat} {K : List Value} {lv M : Int} {W w' w1 : World} (h : asS N K lv M W w') (hb : Below w'.heap.size w' w1) : Below W.heap.size W w1 := (asS_below h).trans (hb.mono (asS_below h).size)

set_option maxRecDepth 20000 in
set_option maxHeartbeats 8000000 in
theorem rAsked_any (b : Bx) (v vo : Value) (os : List Bool) (f : Int) (w : World) (h16 : b.seed.length = 16) (hsb : isBytes b.seed) (hn : b.nums) (ha : b.asked < 100000) (hv : Ints w v b.co) (hni : Nice v) (hlc : b.co.length ≤ 1000000) (ho : Bools w vo os) (hl : os.length ≤ 64) (f0 : 0 ≤ f) (f1 : f ≤ 64) :
    Calls Try.prog 43 #[b.val v, vo, .int .i64 f] w fun e w' => ∃ v', e = .returned (.tuple #[(b.after (askTo f os os.length).1 (askTo f os os.length).2.1).val v', .bool (askP b (askTo f os os.length).1 (askTo f os os.length).2.1 (askTo f os os.length).2.2)]) ∧
      w'.ownsRow w.heap.size 3 1 v' b.co.length (b.co.map (Value.int .i64)) ∧ Below w.heap.size w w' := by
  have HZ := Lib.hid (askAt_start h16 v w zeroL.toArray rfl)
  obtain ⟨a, cap, rfl, hcap, hmax, -, hcell⟩ := reads1_open ho
  clear ho
  unfold maxLen at hmax
  have HC := Lib.hid hcell
  clear hcell
  unfold Bx.val
  generalize hL : b.cells v = L at *
  have HL := Lib.hid hL
  clear hL
  go_enter Try.func43, Try.ntmps43
  go_wp2_with fail
  refine wp_world ?_
  intro W1 hW1
  have A1 : AskAt w b v W1 := hW1 ▸ HZ.out
  have hB1 := A1.bel
  have hc6 : W1.cell? ⟨w.heap.size, 26, none⟩ = some (.int .i64 b.asked) := (A1.box.facts h16).2.2.2.1
  have HA1 := Lib.hid A1
  clear hW1 HZ A1
  go_loop [8, 9, 10, 11] (fun r x fs i => ∃ j : Nat, j ≤ os.length ∧ i = .int .i64 j ∧ r = .int .i64 (askTo f os j).1 ∧ x = .int .i64 (askTo f os j).2.1 ∧ fs = .bool (askTo f os j).2.2)
    (fun _ _ _ i => os.length - (intOf i).toNat)
  case atStart => exact ⟨0, Nat.zero_le _, rfl, rfl, rfl, rfl⟩
  case round =>
    obtain ⟨j, hj, rfl, rfl, rfl, rfl⟩ := hrel
    obtain ⟨b0, b1, b2⟩ := askTo_bd f os j
    by_cases hlt : j < os.length
    · obtain ⟨g, off, rfl, e0⟩ := HC.out j hlt
      have e0r := (hB1.cell (p := ⟨g, off + j, none⟩) (cell_lt' e0)).trans e0
      rw [show (List.map Value.bool os).getD j undef = .bool (os.getD j false) from by simp [List.getD, hlt]] at e0r
      clear e0
      have HS := Lib.hid (show askTo f os (j + 1) = askStep f (askTo f os j) j (os.getD j false) from rfl)
      clear HC hc6
      generalize askTo f os j = s at *
      obtain ⟨r, x, fs⟩ := s
      dsimp only at b0 b1 b2
      cases hi : os.getD j false with
      | false =>
        rw [hi] at e0r
        have HI := Lib.hid (show askTo f os (j + 1) = (r, x, fs) from by rw [HS.out, hi]; rfl)
        clear hi HS
        go_wp2_with fail
        go_round
        case rel => exact ⟨j + 1, hlt, by go_num, by rw [HI.out], by rw [HI.out], by rw [HI.out]⟩
        case measure => simp [intOf]; omega
      | true =>
        rw [hi] at e0r
        by_cases hf : (j : Int) < f
        · have HI := Lib.hid (show askTo f os (j + 1) = (r, x + 1, fs) from by rw [HS.out, hi]; unfold askStep; rw [if_pos rfl, if_pos hf])
          clear hi HS
          go_wp2_with fail
          go_round
          case rel => exact ⟨j + 1, hlt, by go_num, by rw [HI.out], by rw [HI.out], by rw [HI.out]⟩
          case measure => simp [intOf]; omega
        · have HI := Lib.hid (show askTo f os (j + 1) = (r + 1, x, fs || decide (x + r = 0)) from by rw [HS.out, hi]; unfold askStep; rw [if_pos rfl, if_neg hf])
          clear hi HS
          go_wp2_with fail
          all_goals
            go_round
            case rel => exact ⟨j + 1, hlt, by go_num, by rw [HI.out], by rw [HI.out], by rw [HI.out]; (try simp [*]); (try rfl)⟩
            case measure => simp [intOf]; omega
    · obtain rfl : j = os.length := by omega
      clear HC
      generalize hSS : askTo f os os.length = s at *
      obtain ⟨r, x, fs⟩ := s
      have HSS := Lib.hid hSS
      clear hSS
      dsimp only at b0 b1 b2
      have CT := fun W (h : AskAt w b v W) => rTwinBox_any b v W h16 (hv.below h.bel) hni hlc
      unfold Bx.val at CT
      have n0 : 0 ≤ b.noise ∧ b.noise ≤ 8 := ⟨hn.2.2.1, hn.2.2.2.1⟩
      have l0 : 0 ≤ b.lives ∧ b.lives ≤ 8 := ⟨hn.2.2.2.2.1, hn.2.2.2.2.2.1⟩
      have a0 : 0 ≤ b.asked := hn.2.2.2.2.2.2.1
      have x0 : 0 ≤ b.mixed ∧ b.mixed ≤ b.asked := ⟨hn.2.2.2.2.2.2.2.2.1, hn.2.2.2.2.2.2.2.2.2⟩
      have hrg := HA1.out.box.range
      have hi1 : (Try.prog.info? 39).map (·.size) = some (b.cells v).length := (Bx.cells_len h16 v) ▸ info39
      have hzz : ∀ v, (b.cells v).toArray.size = 28 := fun v => by rw [List.size_toArray]; exact Bx.cells_len h16 v
      go_wp2_with (refine wpList_load_mid rfl 39 (.tmp 3) rfl w.heap.size 0 rfl (b.cells v) _ hrg Try.underlying39 rfl hi1 ?_)
      refine (CT _ HA1.out).mono ?_
      rintro e W2 ⟨v', rfl, ho2, hb2⟩
      obtain ⟨pa, pc, rfl⟩ := ownsRow_slice ho2
      have A2 := HA1.out.step hb2
      have ht2 : W2.there w.heap.size 0 (b.cells (.slice pa b.co.length pc)).toArray.size := (hzz _) ▸ A2.thereB h16
      have hi2 : (Try.prog.info? 39).map (·.size) = some (b.cells (.slice pa b.co.length pc)).toArray.size := (hzz _) ▸ info39
      have hs1 := HA1.out.siz
      have HA2 := Lib.hid A2
      have HO2 := Lib.hid ho2
      clear CT hrg hi1 hb2 A2 ho2 hzz
      have hmc : (0 < r ∧ 0 < x) ∨ r = 0 ∨ (0 < r ∧ x = 0) := by omega
      rcases hmc with ⟨hm1, hm2⟩ | hm1 | ⟨hm1, hm2⟩
      · have hr1 : (r == 0) = false := by simp; omega
        have hx1 : (x == 0) = false := by simp; omega
        go_wp2_with (refine wpList_store_mid rfl 39 (.tmp 3) (.tmp 42) rfl w.heap.size 0 (b.cells (.slice pa b.co.length pc)).toArray rfl rfl ht2 hi2 (all_oneCell_toArray (Bx.cells_one b rfl)) ?_; rw [List.toList_toArray]; refine wpList_world ?_; intro W3 hW3; have A3 : AskAt w b (.slice pa b.co.length pc) W3 := hW3 ▸ HA2.out.setBox h16 h16; have ho3 : W3.ownsRow W1.heap.size 3 1 (.slice pa b.co.length pc) b.co.length (b.co.map (Value.int .i64)) := hW3 ▸ owns_move HO2.out (fun k hk _ => heap_setCells_ne _ _ (by omega) _ _ _); have hf3 := A3.box.facts h16; have c26 := hf3.2.2.2.1; have c27 := hf3.2.2.2.2.1; have c8 := hf3.2.1; have cf := hf3.2.2.2.2.2.2; clear hW3 hf3)
        refine wp_world ?_
        intro W4 hW4
        have A4 : AskAt w (b.after r x) (.slice pa b.co.length pc) W4 := by
          rw [← hW4]
          have := (A3.set26 h16 (b.asked + 1)).set27 h16 (b.mixed + 1)
          unfold Bx.after
          rw [if_pos ⟨hm1, hm2⟩]
          exact this
        have ho4 : W4.ownsRow W1.heap.size 3 1 (.slice pa b.co.length pc) b.co.length (b.co.map (Value.int .i64)) := by
          rw [← hW4]
          exact owns_move (owns_move ho3 (fun k hk _ => Below.heap_setCell _ _ _ _ (by show k ≠ w.heap.size; omega))) (fun k hk _ => Below.heap_setCell _ _ _ _ (by show k ≠ w.heap.size; omega))
        clear hW4 A3 ho3 c26 c27 c8 cf ht2 hi2 HA2 HO2
        obtain ⟨q7, q8, q9, q26, q27, qk, qf⟩ := A4.box.facts h16
        have d9 : W4.cell? ⟨w.heap.size, 9, none⟩ = some (.int .i64 b.lives) := q9
        have d7 : W4.cell? ⟨w.heap.size, 7, none⟩ = some (.int .u8 b.mode) := q7
        have dk : W4.rangeAt w.heap.size 10 (keyL b.seed) := qk
        have HP : Hid (askP b r x fs = if r = 0 ∨ (0 < b.lives ∧ b.lives < (b.after r x).mixed) ∨ numberV b.seed (b.asked / (b.noise + 1)) (b.noise + 1) ≠ b.asked % (b.noise + 1) then false else decide (x = 0) || playsV b.mode b.seed r x fs) := rfl
        have HA4 := Lib.hid A4
        have HO4 := Lib.hid ho4
        have HK := Lib.hid dk
        have hM0 : 0 ≤ (b.after r x).mixed ∧ (b.after r x).mixed ≤ b.mixed + 1 := (by unfold Bx.after; dsimp only; split <;> omega)
        clear q7 q8 q9 q26 qk qf dk A4 ho4
        have hrg : W4.rangeAt w.heap.size 0 ((b.after r x).cells (.slice pa b.co.length pc)) := HA4.out.box.range
        have hl28 := Bx.cells_len (b := b.after r x) h16 (.slice pa b.co.length pc)
        have hone := Bx.cells_one (b.after r x) (v := .slice pa b.co.length pc) rfl
        have HV := Lib.hid (show (b.after r x).val (.slice pa b.co.length pc) = .agg ((b.after r x).cells (.slice pa b.co.length pc)).toArray from rfl)
        generalize hBB : (b.after r x).mixed = M at *
        generalize hLL : (b.after r x).cells (.slice pa b.co.length pc) = L2 at *
        clear hBB
        have HLL := Lib.hid hLL
        clear hLL
        have hsz2 : L2.toArray.size = 28 := by simp [hl28]
        have hi3 : (Try.prog.info? 39).map (·.size) = some L2.length := hl28 ▸ info39
        have hi4 : (Try.prog.info? 39).map (·.size) = some L2.toArray.size := hsz2 ▸ info39
        have HSZ := Lib.hid hsz2
        have HL28 := Lib.hid hl28
        clear hsz2 hl28
        have hdz : 0 < b.lives ∨ b.lives = 0 := (by omega)
        rcases hdz with hd | hz
        · have hdd : decide (0 < b.lives) = true := decide_eq_true hd
          by_cases hlm : b.lives < M
          · have hlm1 : decide (b.lives < M) = true := decide_eq_true hlm
            go_quiet (fail)
            have hrgx : (W4.drewN nq).rangeAt w.heap.size 0 L2 := (rangeAt_below hrg (below_drewN _ (Below.refl _ _)) (N := W4.heap.size) (by have := HA4.out.siz; omega))
            have htx : (W4.drewN nq).there (w.heap.size + 1) 0 L2.toArray.size := HSZ.out ▸ (HA4.out.step (below_drewN _ (Below.refl _ _))).there
            obtain ⟨W8, hW8, hr8, hb8, hk8⟩ : ∃ W8, (W4.drewN nq).setCells (w.heap.size + 1) 0 L2 = W8 ∧ W8.rangeAt (w.heap.size + 1) 0 L2 ∧ Below w.heap.size w W8 ∧ ∀ k, k ≠ w.heap.size + 1 → W8.heap[k]? = (W4.drewN nq).heap[k]? :=
              ⟨_, rfl, World.rangeAt_setCells_same _ _ _ L2 (HL28.out ▸ (HA4.out.step (below_drewN _ (Below.refl _ _))).there), below_setCells _ (by omega) _ _ _ (HA4.out.step (below_drewN nq (Below.refl _ _))).bel, fun k hk => heap_setCells_ne _ _ hk _ _ _⟩
            have HW8 := Lib.hid hW8
            clear hW8
            go_wp2_with (first
              | (refine wpList_load_mid rfl 39 (.tmp 3) rfl w.heap.size 0 rfl L2 _ hrgx Try.underlying39 rfl hi3 ?_)
              | (refine wpList_store_mid rfl 39 (.tmp 6) (.tmp 90) rfl (w.heap.size + 1) 0 L2.toArray rfl rfl htx hi4 (all_oneCell_toArray hone) ?_; rw [List.toList_toArray, HW8.out]))
            refine bodyPost_ret (v := .tuple #[.agg L2.toArray, .bool false]) (results_mid2 Try.results43 _ _ (w.heap.size + 1) L2 _ _ rfl rfl hr8 Try.underlying39 rfl hi3) rfl ?_
            rw [HSS.out]
            refine ⟨_, ?_, ownsRow_mono (owns_move (ownsRow_below HO4.out (below_drewN nq (Below.refl _ _))) (fun k hk _ => hk8 k (by omega))) (by omega), hb8⟩
            show Ending.returned (.tuple #[.agg L2.toArray, .bool false]) = Ending.returned (.tuple #[.agg ((b.after r x).cells (.slice pa b.co.length pc)).toArray, .bool (askP b r x fs)])
            rw [HLL.out]
            exact congrArg (fun z => Ending.returned (.tuple #[.agg L2.toArray, .bool z])) (by rw [HP.out, if_pos (.inr (.inl ⟨hd, hlm⟩))])
          · have hlm1 : decide (b.lives < M) = false := decide_eq_false hlm
            have CN := fun W => rNumber_any b.seed (b.asked / (b.noise + 1)) (b.noise + 1) W h16 hsb (Int.ediv_nonneg a0 (by omega)) (Int.le_trans (Int.ediv_le_self _ a0) (by omega)) (by omega) (by omega)
            have hqt : Int.tdiv b.asked (b.noise + 1) = b.asked / (b.noise + 1) := Int.tdiv_eq_ediv_of_nonneg a0
            have hrt : Int.tmod b.asked (b.noise + 1) = b.asked % (b.noise + 1) := Int.tmod_eq_emod_of_nonneg a0
            have hQ : 0 ≤ b.asked / (b.noise + 1) ∧ b.asked / (b.noise + 1) ≤ 100000 := ⟨Int.ediv_nonneg a0 (by omega), Int.le_trans (Int.ediv_le_self _ a0) (by omega)⟩
            have hR : 0 ≤ b.asked % (b.noise + 1) ∧ b.asked % (b.noise + 1) < b.noise + 1 := ⟨Int.emod_nonneg _ (by omega), Int.emod_lt_of_pos _ (by omega)⟩
            obtain ⟨hQ0, hQ1⟩ := hQ
            obtain ⟨hR0, hR1⟩ := hR
            generalize b.asked / (b.noise + 1) = Q at *
            generalize b.asked % (b.noise + 1) = R at *
            generalize numberV b.seed Q (b.noise + 1) = Nn at *
            have HLK := Lib.hid ((keyL_len b.seed).trans h16)
            have CN2 := fun W => rNumber_any b.seed (4294967296 + 64 * x + r) 2 W h16 hsb (by omega) (by omega) (by omega) (by omega)
            unfold keyV at CN CN2
            generalize hN2 : numberV b.seed (4294967296 + 64 * x + r) 2 = N2 at CN2
            have HN2 := Lib.hid hN2
            clear hN2
            generalize keyL b.seed = KK at *
            have hI := HLK.out ▸ infoK
            have hU : Try.prog.underlying 37 = some (.array 16 5) := by kernel_rfl
            have HCN2 := Lib.hid CN2
            clear CN2
            have hne1 : (b.noise + 1 == 0) = false := (by simp; omega)
            have hne2 : ¬ (b.noise + 1 = 0) := (by omega)
            have hwQ : IntKind.i64.wrap Q = Q := IntWalk.i64_in _ (by omega)
            have hwR : IntKind.i64.wrap R = R := IntWalk.i64_in _ (by omega)
            have huQ : IntKind.u64.wrap Q = Q := (by rw [IntKind.wrap_u64]; omega)
            have huR : IntKind.u64.wrap R = R := (by rw [IntKind.wrap_u64]; omega)
            have huN : IntKind.u64.wrap (b.noise + 1) = b.noise + 1 := (by rw [IntKind.wrap_u64]; omega)
            have S0 := fun W (h : Below W4.heap.size W4 W) => asS_of HK.out d9 q27 h
            go_region_held3 (fun w' => asS w.heap.size KK b.lives M W4 w') (first | exact S0 _ (Below.refl _ _).drew | exact S0 _ hcall)
              (first
                | (go_at_call 76; refine (CN _).mono ?_; rintro e w2 ⟨rfl, hb⟩; have hcall := asS_call (by assumption) hb; clear hb))
            rename_i w2 hcall hHeld
            by_cases hNR : Nn = R
            · have hnr1 : (Nn == R) = true := by simp [hNR]
              have hnr2 : (Nn != R) = false := by simp [hNR]
              have d7w : w2.cell? ⟨w.heap.size, 7, none⟩ = some (.int .u8 b.mode) := (hcall.cell (p := ⟨w.heap.size, 7, none⟩) (cell_lt' d7)).trans d7
              have hmd : b.mode = 1 ∨ b.mode = 2 ∨ b.mode = 3 ∨ b.mode = 4 := (by have := hn.1; have := hn.2.1; omega)
              rcases hmd with hm | hm | hm | hm
              · rw [hm] at d7w
                have HM := Lib.hid hm
                clear hm
                have hrgx : w2.rangeAt w.heap.size 0 L2 := (rangeAt_below hrg hcall (by have := HA4.out.siz; omega))
                have htx : w2.there (w.heap.size + 1) 0 L2.toArray.size := HSZ.out ▸ (HA4.out.step hcall).there
                obtain ⟨W8, hW8, hr8, hb8, hk8⟩ : ∃ W8, w2.setCells (w.heap.size + 1) 0 L2 = W8 ∧ W8.rangeAt (w.heap.size + 1) 0 L2 ∧ Below w.heap.size w W8 ∧ ∀ k, k ≠ w.heap.size + 1 → W8.heap[k]? = w2.heap[k]? :=
                  ⟨_, rfl, World.rangeAt_setCells_same _ _ _ L2 (HL28.out ▸ (HA4.out.step hcall).there), below_setCells _ (by omega) _ _ _ (HA4.out.step hcall).bel, fun k hk => heap_setCells_ne _ _ hk _ _ _⟩
                have HW8 := Lib.hid hW8
                clear hW8
                go_wp2_with (first
                  | (refine wpList_load_mid rfl 39 (.tmp 3) rfl w.heap.size 0 rfl L2 _ hrgx Try.underlying39 rfl hi3 ?_)
                  | (refine wpList_store_mid rfl 39 (.tmp 6) (.tmp 98) rfl (w.heap.size + 1) 0 L2.toArray rfl rfl htx hi4 (all_oneCell_toArray hone) ?_; rw [List.toList_toArray, HW8.out]))
                refine bodyPost_ret (v := .tuple #[.agg L2.toArray, .bool fs]) (results_mid2 Try.results43 _ _ (w.heap.size + 1) L2 _ _ rfl rfl hr8 Try.underlying39 rfl hi3) rfl ?_
                rw [HSS.out]
                refine ⟨_, ?_, ownsRow_mono (owns_move (ownsRow_below HO4.out hcall) (fun k hk _ => hk8 k (by omega))) (by omega), hb8⟩
                show Ending.returned (.tuple #[.agg L2.toArray, .bool fs]) = Ending.returned (.tuple #[.agg ((b.after r x).cells (.slice pa b.co.length pc)).toArray, .bool (askP b r x fs)])
                rw [HLL.out]
                exact congrArg (fun z => Ending.returned (.tuple #[.agg L2.toArray, .bool z])) ((by rw [HP.out, if_neg (fun h => h.elim (fun h => absurd h (by omega)) (fun h => h.elim (fun h => absurd h.2 (by omega)) (fun h => h hNR)))]; simp [show ¬ (x = 0) by omega, playsV, HM.out]))
              · rw [hm] at d7w
                have HM := Lib.hid hm
                clear hm
                have hrgx : w2.rangeAt w.heap.size 0 L2 := (rangeAt_below hrg hcall (by have := HA4.out.siz; omega))
                have htx : w2.there (w.heap.size + 1) 0 L2.toArray.size := HSZ.out ▸ (HA4.out.step hcall).there
                obtain ⟨W8, hW8, hr8, hb8, hk8⟩ : ∃ W8, w2.setCells (w.heap.size + 1) 0 L2 = W8 ∧ W8.rangeAt (w.heap.size + 1) 0 L2 ∧ Below w.heap.size w W8 ∧ ∀ k, k ≠ w.heap.size + 1 → W8.heap[k]? = w2.heap[k]? :=
                  ⟨_, rfl, World.rangeAt_setCells_same _ _ _ L2 (HL28.out ▸ (HA4.out.step hcall).there), below_setCells _ (by omega) _ _ _ (HA4.out.step hcall).bel, fun k hk => heap_setCells_ne _ _ hk _ _ _⟩
                have HW8 := Lib.hid hW8
                clear hW8
                go_wp2_with (first
                  | (refine wpList_load_mid rfl 39 (.tmp 3) rfl w.heap.size 0 rfl L2 _ hrgx Try.underlying39 rfl hi3 ?_)
                  | (refine wpList_store_mid rfl 39 (.tmp 6) (.tmp 116) rfl (w.heap.size + 1) 0 L2.toArray rfl rfl htx hi4 (all_oneCell_toArray hone) ?_; rw [List.toList_toArray, HW8.out]))
                refine bodyPost_ret (v := .tuple #[.agg L2.toArray, .bool false]) (results_mid2 Try.results43 _ _ (w.heap.size + 1) L2 _ _ rfl rfl hr8 Try.underlying39 rfl hi3) rfl ?_
                rw [HSS.out]
                refine ⟨_, ?_, ownsRow_mono (owns_move (ownsRow_below HO4.out hcall) (fun k hk _ => hk8 k (by omega))) (by omega), hb8⟩
                show Ending.returned (.tuple #[.agg L2.toArray, .bool false]) = Ending.returned (.tuple #[.agg ((b.after r x).cells (.slice pa b.co.length pc)).toArray, .bool (askP b r x fs)])
                rw [HLL.out]
                exact congrArg (fun z => Ending.returned (.tuple #[.agg L2.toArray, .bool z])) ((by rw [HP.out, if_neg (fun h => h.elim (fun h => absurd h (by omega)) (fun h => h.elim (fun h => absurd h.2 (by omega)) (fun h => h hNR)))]; simp [show ¬ (x = 0) by omega, playsV, HM.out]))
              · rw [hm] at d7w
                have HM := Lib.hid hm
                clear hm
                have hrgx : w2.rangeAt w.heap.size 0 L2 := (rangeAt_below hrg hcall (by have := HA4.out.siz; omega))
                have htx : w2.there (w.heap.size + 1) 0 L2.toArray.size := HSZ.out ▸ (HA4.out.step hcall).there
                obtain ⟨W8, hW8, hr8, hb8, hk8⟩ : ∃ W8, w2.setCells (w.heap.size + 1) 0 L2 = W8 ∧ W8.rangeAt (w.heap.size + 1) 0 L2 ∧ Below w.heap.size w W8 ∧ ∀ k, k ≠ w.heap.size + 1 → W8.heap[k]? = w2.heap[k]? :=
                  ⟨_, rfl, World.rangeAt_setCells_same _ _ _ L2 (HL28.out ▸ (HA4.out.step hcall).there), below_setCells _ (by omega) _ _ _ (HA4.out.step hcall).bel, fun k hk => heap_setCells_ne _ _ hk _ _ _⟩
                have HW8 := Lib.hid hW8
                clear hW8
                go_wp2_with (first
                  | (refine wpList_load_mid rfl 39 (.tmp 3) rfl w.heap.size 0 rfl L2 _ hrgx Try.underlying39 rfl hi3 ?_)
                  | (refine wpList_store_mid rfl 39 (.tmp 6) (.tmp 102) rfl (w.heap.size + 1) 0 L2.toArray rfl rfl htx hi4 (all_oneCell_toArray hone) ?_; rw [List.toList_toArray, HW8.out]))
                refine bodyPost_ret (v := .tuple #[.agg L2.toArray, .bool true]) (results_mid2 Try.results43 _ _ (w.heap.size + 1) L2 _ _ rfl rfl hr8 Try.underlying39 rfl hi3) rfl ?_
                rw [HSS.out]
                refine ⟨_, ?_, ownsRow_mono (owns_move (ownsRow_below HO4.out hcall) (fun k hk _ => hk8 k (by omega))) (by omega), hb8⟩
                show Ending.returned (.tuple #[.agg L2.toArray, .bool true]) = Ending.returned (.tuple #[.agg ((b.after r x).cells (.slice pa b.co.length pc)).toArray, .bool (askP b r x fs)])
                rw [HLL.out]
                exact congrArg (fun z => Ending.returned (.tuple #[.agg L2.toArray, .bool z])) ((by rw [HP.out, if_neg (fun h => h.elim (fun h => absurd h (by omega)) (fun h => h.elim (fun h => absurd h.2 (by omega)) (fun h => h hNR)))]; simp [show ¬ (x = 0) by omega, playsV, HM.out]))
              · rw [hm] at d7w
                have HM := Lib.hid hm
                clear hm
                have hw1 : IntKind.i64.wrap (64 * x) = 64 * x := IntWalk.i64_in _ (by omega)
                have hw2 : IntKind.i64.wrap (4294967296 + 64 * x) = 4294967296 + 64 * x := IntWalk.i64_in _ (by omega)
                have hw3 : IntKind.i64.wrap (4294967296 + 64 * x + r) = 4294967296 + 64 * x + r := IntWalk.i64_in _ (by omega)
                have hu3 : IntKind.u64.wrap (4294967296 + 64 * x + r) = 4294967296 + 64 * x + r := (by rw [IntKind.wrap_u64]; omega)
                have hT : asT w.heap.size KK L2 w2.drew := ⟨rangeAt_below HK.out (hcall.trans (Below.refl _ _).drew) (cell_lt' d9), rangeAt_below hrg (hcall.trans (Below.refl _ _).drew) (cell_lt' d9), HSZ.out ▸ (HA4.out.step (hcall.trans (Below.refl _ _).drew)).there, (HA4.out.step (hcall.trans (Below.refl _ _).drew)).siz⟩
                go_wp2_with fail
                refine wp_region_noPanic ?_
                refine wp_region_held_drew (S := fun w' => asT w.heap.size KK L2 w') (by kernel_rfl) hT (fun hHeld => ?_)
                refine wpAnyH_take (i := 0) (oi := _) (v := .agg L2.toArray) rfl (by kernel_rfl) (by kernel_rfl) (by kernel_rfl) (fun _ _ _ h => h) (Or.inl ⟨by kernel_rfl, fun W hSw => run_load_boxm (N := w.heap.size) W _ _ _ _ _ _ _ (by kernel_rfl) hSw.2.1 hi3⟩) (by assumption) ?_; (try simp only [Act.put, List.setIfInBounds_toArray, List.set_cons_zero, List.set_cons_succ])
                refine wpAnyH_take (i := 1) (oi := _) (v := ?_) rfl (by kernel_rfl) (by kernel_rfl) (by kernel_rfl) (fun _ _ _ h => h) (Or.inl ⟨by kernel_rfl, ?_⟩) (by assumption) ?_; rotate_left 1; focus (intro w hSw; (try dsimp only at hSw); go_simp; (try (with_reducible rfl))); (try simp only [Act.put, List.setIfInBounds_toArray, List.set_cons_zero, List.set_cons_succ])
                refine wpAnyH_take (i := 2) (oi := _) (v := .agg KK.toArray) rfl (by kernel_rfl) (by kernel_rfl) (by kernel_rfl) (fun _ _ _ h => h) (Or.inl ⟨by kernel_rfl, fun W hSw => run_load_key (N := w.heap.size) W _ _ _ _ _ _ _ (by kernel_rfl) hSw.1 hI⟩) (by assumption) ?_; (try simp only [Act.put, List.setIfInBounds_toArray, List.set_cons_zero, List.set_cons_succ])
                refine wpAnyH_take (i := 3) (oi := _) (v := ?_) rfl (by kernel_rfl) (by kernel_rfl) (by kernel_rfl) (fun _ _ _ h => h) (Or.inl ⟨by kernel_rfl, ?_⟩) (by assumption) ?_; rotate_left 1; focus (intro w hSw; (try dsimp only at hSw); go_simp; (try (with_reducible rfl))); (try simp only [Act.put, List.setIfInBounds_toArray, List.set_cons_zero, List.set_cons_succ])
                refine wpAnyH_take (i := 4) (oi := _) (v := ?_) rfl (by kernel_rfl) (by kernel_rfl) (by kernel_rfl) (fun _ _ _ h => h) (Or.inl ⟨by kernel_rfl, ?_⟩) (by assumption) ?_; rotate_left 1; focus (intro w hSw; (try dsimp only at hSw); go_simp; (try (with_reducible rfl))); (try simp only [Act.put, List.setIfInBounds_toArray, List.set_cons_zero, List.set_cons_succ])
                refine wpAnyH_take (i := 5) (oi := _) (v := ?_) rfl (by kernel_rfl) (by kernel_rfl) (by kernel_rfl) (fun _ _ _ h => h) (Or.inl ⟨by kernel_rfl, ?_⟩) (by assumption) ?_; rotate_left 1; focus (intro w hSw; (try dsimp only at hSw); go_simp; (try (with_reducible rfl))); (try simp only [Act.put, List.setIfInBounds_toArray, List.set_cons_zero, List.set_cons_succ])
                refine wpAnyH_take (i := 6) (oi := _) (v := ?_) rfl (by kernel_rfl) (by kernel_rfl) (by kernel_rfl) (fun _ _ _ h => h) (Or.inl ⟨by kernel_rfl, ?_⟩) (by assumption) ?_; rotate_left 1; focus (intro w hSw; (try dsimp only at hSw); go_simp; (try (with_reducible rfl))); (try simp only [Act.put, List.setIfInBounds_toArray, List.set_cons_zero, List.set_cons_succ])
                refine wpAnyH_take (i := 7) (oi := _) (v := ?_) rfl (by kernel_rfl) (by kernel_rfl) (by kernel_rfl) (fun _ _ _ h => h) (Or.inl ⟨by kernel_rfl, ?_⟩) (by assumption) ?_; rotate_left 1; focus (intro w hSw; (try dsimp only at hSw); go_simp; (try (with_reducible rfl))); (try simp only [Act.put, List.setIfInBounds_toArray, List.set_cons_zero, List.set_cons_succ])
                refine wpAnyH_take (i := 8) (oi := _) (v := ?_) rfl (by kernel_rfl) (by kernel_rfl) (by kernel_rfl) (fun _ _ _ h => h) (Or.inl ⟨by kernel_rfl, ?_⟩) (by assumption) ?_; rotate_left 1; focus (intro w hSw; (try dsimp only at hSw); go_simp; (try (with_reducible rfl))); (try simp only [Act.put, List.setIfInBounds_toArray, List.set_cons_zero, List.set_cons_succ])
                refine wpAnyH_ready (rs := [9]) (by kernel_rfl) (by simp) ?_
                refine AllReadyH.cons (o := _) rfl ?_ AllReadyH.nil
                intro K hK
                rw [if_pos (show Region.wanted _ _ = true by kernel_rfl)]
                go_simp
                go_at_call 76
                refine (HCN2.out _).mono ?_
                rintro e w3 ⟨rfl, hb3⟩
                have hT3 : asT w.heap.size KK L2 w3 := ⟨rangeAt_below hT.1 hb3 (by have := hT.2.2.2; omega), rangeAt_below hT.2.1 hb3 (by have := hT.2.2.2; omega), there_below hT.2.2.1 hb3 (by have := hT.2.2.2; omega), Nat.lt_of_lt_of_le hT.2.2.2 hb3.size⟩
                have hcall3 : Below W4.heap.size W4 w3 := (hcall.trans (Below.refl _ _).drew).trans (hb3.mono (by have := hcall.size; exact this))
                clear hb3
                dsimp only
                refine hK.out _ _ hT3 (fun hHeld => ?_)
                clear hK K
                refine wpAnyH_take (i := 10) (oi := _) (v := ?_) rfl (by kernel_rfl) (by kernel_rfl) (by kernel_rfl) (fun _ _ _ h => h) (Or.inl ⟨by kernel_rfl, ?_⟩) (by assumption) ?_; rotate_left 1; focus (intro w hSw; (try dsimp only at hSw); go_simp; (try (with_reducible rfl))); (try simp only [Act.put, List.setIfInBounds_toArray, List.set_cons_zero, List.set_cons_succ])
                refine wpAnyH_ready (rs := [11]) (by kernel_rfl) (by simp) ?_
                refine AllReadyH.cons (o := _) rfl ?_ AllReadyH.nil
                intro K hK
                rw [if_pos (show Region.wanted _ _ = true by kernel_rfl)]
                obtain ⟨W8, hW8, hr8, hb8, hk8, hb9⟩ : ∃ W8, w3.setCells (w.heap.size + 1) 0 L2 = W8 ∧ W8.rangeAt (w.heap.size + 1) 0 L2 ∧ Below w.heap.size w W8 ∧ (∀ k, k ≠ w.heap.size + 1 → W8.heap[k]? = w3.heap[k]?) ∧ Below (w.heap.size + 1) w3 W8 :=
                  ⟨_, rfl, World.rangeAt_setCells_same _ _ _ L2 (HL28.out ▸ (HA4.out.step hcall3).there), below_setCells _ (by omega) _ _ _ (HA4.out.step hcall3).bel, fun k hk => heap_setCells_ne _ _ hk _ _ _, below_setCells _ (Nat.le_refl _) _ _ _ (Below.refl _ _)⟩
                have HW8 := Lib.hid hW8
                clear hW8
                have hT8 : asT w.heap.size KK L2 W8 := ⟨rangeAt_below hT3.1 hb9 (by omega), rangeAt_below hT3.2.1 hb9 (by omega), (HW8.out ▸ World.there_setCells hT3.2.2.1 _ _ _), Nat.lt_of_lt_of_le hT3.2.2.2 hb9.size⟩
                refine wp_store_mid _ _ _ rfl _ _ L2.toArray rfl rfl hT3.2.2.1 hi4 (all_oneCell_toArray hone) ?_
                rw [List.toList_toArray, HW8.out]
                refine hK.out _ _ hT8 (fun hHeld => ?_)
                clear hK K
                refine wpAnyH_take (i := 12) (oi := _) (v := ?_) rfl (by kernel_rfl) (by kernel_rfl) (by kernel_rfl) (fun _ _ _ h => h) (Or.inl ⟨by kernel_rfl, ?_⟩) (by assumption) ?_; rotate_left 1; focus (intro w hSw; (try dsimp only at hSw); go_simp; (try (with_reducible rfl))); (try simp only [Act.put, List.setIfInBounds_toArray, List.set_cons_zero, List.set_cons_succ])
                refine wpAnyH_done (by kernel_rfl) ?_ _
                refine NoPanic.normal ?_
                go_wp2_with fail
                refine bodyPost_ret (v := .tuple #[.agg L2.toArray, .bool (N2 == 1)]) (results_mid2 Try.results43 _ _ (w.heap.size + 1) L2 _ _ rfl rfl hr8 Try.underlying39 rfl hi3) rfl ?_
                rw [HSS.out]
                refine ⟨_, ?_, ownsRow_mono (owns_move (ownsRow_below HO4.out hcall3) (fun k hk _ => hk8 k (by omega))) (by omega), hb8⟩
                show Ending.returned (.tuple #[.agg L2.toArray, .bool (N2 == 1)]) = Ending.returned (.tuple #[.agg ((b.after r x).cells (.slice pa b.co.length pc)).toArray, .bool (askP b r x fs)])
                rw [HLL.out]
                exact congrArg (fun z => Ending.returned (.tuple #[.agg L2.toArray, .bool z])) ((by rw [HP.out, if_neg (fun h => h.elim (fun h => absurd h (by omega)) (fun h => h.elim (fun h => absurd h.2 (by omega)) (fun h => h hNR)))]; simp [show ¬ (x = 0) by omega, playsV, HM.out, HN2.out]; first | done | (by_cases h : N2 = 1 <;> simp [h])))
            · have hnr1 : (Nn == R) = false := by simp [hNR]
              have hnr2 : (Nn != R) = true := by simp [hNR]
              have hrgx : w2.rangeAt w.heap.size 0 L2 := (rangeAt_below hrg hcall (by have := HA4.out.siz; omega))
              have htx : w2.there (w.heap.size + 1) 0 L2.toArray.size := HSZ.out ▸ (HA4.out.step hcall).there
              obtain ⟨W8, hW8, hr8, hb8, hk8⟩ : ∃ W8, w2.setCells (w.heap.size + 1) 0 L2 = W8 ∧ W8.rangeAt (w.heap.size + 1) 0 L2 ∧ Below w.heap.size w W8 ∧ ∀ k, k ≠ w.heap.size + 1 → W8.heap[k]? = w2.heap[k]? :=
                ⟨_, rfl, World.rangeAt_setCells_same _ _ _ L2 (HL28.out ▸ (HA4.out.step hcall).there), below_setCells _ (by omega) _ _ _ (HA4.out.step hcall).bel, fun k hk => heap_setCells_ne _ _ hk _ _ _⟩
              have HW8 := Lib.hid hW8
              clear hW8
              go_wp2_with (first
                | (refine wpList_load_mid rfl 39 (.tmp 3) rfl w.heap.size 0 rfl L2 _ hrgx Try.underlying39 rfl hi3 ?_)
                | (refine wpList_store_mid rfl 39 (.tmp 6) (.tmp 90) rfl (w.heap.size + 1) 0 L2.toArray rfl rfl htx hi4 (all_oneCell_toArray hone) ?_; rw [List.toList_toArray, HW8.out]))
              refine bodyPost_ret (v := .tuple #[.agg L2.toArray, .bool false]) (results_mid2 Try.results43 _ _ (w.heap.size + 1) L2 _ _ rfl rfl hr8 Try.underlying39 rfl hi3) rfl ?_
              rw [HSS.out]
              refine ⟨_, ?_, ownsRow_mono (owns_move (ownsRow_below HO4.out hcall) (fun k hk _ => hk8 k (by omega))) (by omega), hb8⟩
              show Ending.returned (.tuple #[.agg L2.toArray, .bool false]) = Ending.returned (.tuple #[.agg ((b.after r x).cells (.slice pa b.co.length pc)).toArray, .bool (askP b r x fs)])
              rw [HLL.out]
              exact congrArg (fun z => Ending.returned (.tuple #[.agg L2.toArray, .bool z])) (by rw [HP.out, if_pos (.inr (.inr hNR))])
        · rw [hz] at d9
          have HZ := Lib.hid hz
          clear hz
          have CN := fun W => rNumber_any b.seed (b.asked / (b.noise + 1)) (b.noise + 1) W h16 hsb (Int.ediv_nonneg a0 (by omega)) (Int.le_trans (Int.ediv_le_self _ a0) (by omega)) (by omega) (by omega)
          have hqt : Int.tdiv b.asked (b.noise + 1) = b.asked / (b.noise + 1) := Int.tdiv_eq_ediv_of_nonneg a0
          have hrt : Int.tmod b.asked (b.noise + 1) = b.asked % (b.noise + 1) := Int.tmod_eq_emod_of_nonneg a0
          have hQ : 0 ≤ b.asked / (b.noise + 1) ∧ b.asked / (b.noise + 1) ≤ 100000 := ⟨Int.ediv_nonneg a0 (by omega), Int.le_trans (Int.ediv_le_self _ a0) (by omega)⟩
          have hR : 0 ≤ b.asked % (b.noise + 1) ∧ b.asked % (b.noise + 1) < b.noise + 1 := ⟨Int.emod_nonneg _ (by omega), Int.emod_lt_of_pos _ (by omega)⟩
          obtain ⟨hQ0, hQ1⟩ := hQ
          obtain ⟨hR0, hR1⟩ := hR
          generalize b.asked / (b.noise + 1) = Q at *
          generalize b.asked % (b.noise + 1) = R at *
          generalize numberV b.seed Q (b.noise + 1) = Nn at *
          have HLK := Lib.hid ((keyL_len b.seed).trans h16)
          have CN2 := fun W => rNumber_any b.seed (4294967296 + 64 * x + r) 2 W h16 hsb (by omega) (by omega) (by omega) (by omega)
          unfold keyV at CN CN2
          generalize hN2 : numberV b.seed (4294967296 + 64 * x + r) 2 = N2 at CN2
          have HN2 := Lib.hid hN2
          clear hN2
          generalize keyL b.seed = KK at *
          have hI := HLK.out ▸ infoK
          have hU : Try.prog.underlying 37 = some (.array 16 5) := by kernel_rfl
          have HCN2 := Lib.hid CN2
          clear CN2
          have hne1 : (b.noise + 1 == 0) = false := (by simp; omega)
          have hne2 : ¬ (b.noise + 1 = 0) := (by omega)
          have hwQ : IntKind.i64.wrap Q = Q := IntWalk.i64_in _ (by omega)
          have hwR : IntKind.i64.wrap R = R := IntWalk.i64_in _ (by omega)
          have huQ : IntKind.u64.wrap Q = Q := (by rw [IntKind.wrap_u64]; omega)
          have huR : IntKind.u64.wrap R = R := (by rw [IntKind.wrap_u64]; omega)
          have huN : IntKind.u64.wrap (b.noise + 1) = b.noise + 1 := (by rw [IntKind.wrap_u64]; omega)
          have S0 := fun W (h : Below W4.heap.size W4 W) => asS_of HK.out d9 q27 h
          refine wp_region_noPanic ?_
          refine wp_region_held_drew (S := fun w' => asS w.heap.size KK 0 M W4 w') (by kernel_rfl) (S0 _ (Below.refl _ _).drew) (fun hHeld => ?_)
          refine wpAnyH_take (i := 0) (oi := _) (v := ?_) rfl (by kernel_rfl) (by kernel_rfl) (by kernel_rfl) (fun _ _ _ h => h) (Or.inl ⟨by kernel_rfl, ?_⟩) (by assumption) ?_; rotate_left 1; focus (intro w hSw; (try dsimp only at hSw); go_simp; (try (with_reducible rfl))); (try simp only [Act.put, List.setIfInBounds_toArray, List.set_cons_zero, List.set_cons_succ])
          refine wpAnyH_take (i := 1) (oi := _) (v := ?_) rfl (by kernel_rfl) (by kernel_rfl) (by kernel_rfl) (fun _ _ _ h => h) (Or.inl ⟨by kernel_rfl, ?_⟩) (by assumption) ?_; rotate_left 1; focus (intro w hSw; (try dsimp only at hSw); go_simp; (try (with_reducible rfl))); (try simp only [Act.put, List.setIfInBounds_toArray, List.set_cons_zero, List.set_cons_succ])
          refine wpAnyH_take (i := 2) (oi := _) (v := ?_) rfl (by kernel_rfl) (by kernel_rfl) (by kernel_rfl) (fun _ _ _ h => h) (Or.inl ⟨by kernel_rfl, ?_⟩) (by assumption) ?_; rotate_left 1; focus (intro w hSw; (try dsimp only at hSw); go_simp; (try (with_reducible rfl))); (try simp only [Act.put, List.setIfInBounds_toArray, List.set_cons_zero, List.set_cons_succ])
          refine wpAnyH_take (i := 3) (oi := _) (v := ?_) rfl (by kernel_rfl) (by kernel_rfl) (by kernel_rfl) (fun _ _ _ h => h) (Or.inl ⟨by kernel_rfl, ?_⟩) (by assumption) ?_; rotate_left 1; focus (intro w hSw; (try dsimp only at hSw); go_simp; (try (with_reducible rfl))); (try simp only [Act.put, List.setIfInBounds_toArray, List.set_cons_zero, List.set_cons_succ])
          refine wpAnyH_take (i := 4) (oi := _) (v := ?_) rfl (by kernel_rfl) (by kernel_rfl) (by kernel_rfl) (fun _ _ _ h => h) (Or.inl ⟨by kernel_rfl, ?_⟩) (by assumption) ?_; rotate_left 1; focus (intro w hSw; (try dsimp only at hSw); go_simp; (try (with_reducible rfl))); (try simp only [Act.put, List.setIfInBounds_toArray, List.set_cons_zero, List.set_cons_succ])
          refine wpAnyH_take (i := 5) (oi := _) (v := ?_) rfl (by kernel_rfl) (by kernel_rfl) (by kernel_rfl) (fun _ _ _ h => h) (Or.inl ⟨by kernel_rfl, ?_⟩) (by assumption) ?_; rotate_left 1; focus (intro w hSw; (try dsimp only at hSw); go_simp; (try (with_reducible rfl))); (try simp only [Act.put, List.setIfInBounds_toArray, List.set_cons_zero, List.set_cons_succ])
          refine wpAnyH_take (i := 6) (oi := _) (v := ?_) rfl (by kernel_rfl) (by kernel_rfl) (by kernel_rfl) (fun _ _ _ h => h) (Or.inl ⟨by kernel_rfl, ?_⟩) (by assumption) ?_; rotate_left 1; focus (intro w hSw; (try dsimp only at hSw); go_simp; (try (with_reducible rfl))); (try simp only [Act.put, List.setIfInBounds_toArray, List.set_cons_zero, List.set_cons_succ])
          refine wpAnyH_take (i := 7) (oi := _) (v := undef) rfl (by kernel_rfl) (by kernel_rfl) (by kernel_rfl) (fun _ _ _ h => h) (Or.inr ⟨by kernel_rfl, rfl⟩) (by assumption) ?_; (try simp only [Act.put, List.setIfInBounds_toArray, List.set_cons_zero, List.set_cons_succ])
          refine wpAnyH_take (i := 8) (oi := _) (v := undef) rfl (by kernel_rfl) (by kernel_rfl) (by kernel_rfl) (fun _ _ _ h => h) (Or.inr ⟨by kernel_rfl, rfl⟩) (by assumption) ?_; (try simp only [Act.put, List.setIfInBounds_toArray, List.set_cons_zero, List.set_cons_succ])
          refine wpAnyH_take (i := 9) (oi := _) (v := undef) rfl (by kernel_rfl) (by kernel_rfl) (by kernel_rfl) (fun _ _ _ h => h) (Or.inr ⟨by kernel_rfl, rfl⟩) (by assumption) ?_; (try simp only [Act.put, List.setIfInBounds_toArray, List.set_cons_zero, List.set_cons_succ])
          refine wpAnyH_take (i := 10) (oi := _) (v := undef) rfl (by kernel_rfl) (by kernel_rfl) (by kernel_rfl) (fun _ _ _ h => h) (Or.inr ⟨by kernel_rfl, rfl⟩) (by assumption) ?_; (try simp only [Act.put, List.setIfInBounds_toArray, List.set_cons_zero, List.set_cons_succ])
          refine wpAnyH_take (i := 11) (oi := _) (v := undef) rfl (by kernel_rfl) (by kernel_rfl) (by kernel_rfl) (fun _ _ _ h => h) (Or.inr ⟨by kernel_rfl, rfl⟩) (by assumption) ?_; (try simp only [Act.put, List.setIfInBounds_toArray, List.set_cons_zero, List.set_cons_succ])
          refine wpAnyH_take (i := 12) (oi := _) (v := ?_) rfl (by kernel_rfl) (by kernel_rfl) (by kernel_rfl) (fun _ _ _ h => h) (Or.inl ⟨by kernel_rfl, ?_⟩) (by assumption) ?_; rotate_left 1; focus (intro w hSw; (try dsimp only at hSw); go_simp; (try (with_reducible rfl))); (try simp only [Act.put, List.setIfInBounds_toArray, List.set_cons_zero, List.set_cons_succ])
          refine wpAnyH_take (i := 13) (oi := _) (v := ?_) rfl (by kernel_rfl) (by kernel_rfl) (by kernel_rfl) (fun _ _ _ h => h) (Or.inl ⟨by kernel_rfl, ?_⟩) (by assumption) ?_; rotate_left 1; focus (intro w hSw; (try dsimp only at hSw); go_simp; (try (with_reducible rfl))); (try simp only [Act.put, List.setIfInBounds_toArray, List.set_cons_zero, List.set_cons_succ])
          refine wpAnyH_take (i := 14) (oi := _) (v := ?_) rfl (by kernel_rfl) (by kernel_rfl) (by kernel_rfl) (fun _ _ _ h => h) (Or.inl ⟨by kernel_rfl, ?_⟩) (by assumption) ?_; rotate_left 1; focus (intro w hSw; (try dsimp only at hSw); go_simp; (try (with_reducible rfl))); (try simp only [Act.put, List.setIfInBounds_toArray, List.set_cons_zero, List.set_cons_succ])
          refine wpAnyH_take (i := 15) (oi := _) (v := ?_) rfl (by kernel_rfl) (by kernel_rfl) (by kernel_rfl) (fun _ _ _ h => h) (Or.inl ⟨by kernel_rfl, ?_⟩) (by assumption) ?_; rotate_left 1; focus (intro w hSw; (try dsimp only at hSw); go_simp; (try (with_reducible rfl))); (try simp only [Act.put, List.setIfInBounds_toArray, List.set_cons_zero, List.set_cons_succ])
          refine wpAnyH_take (i := 16) (oi := _) (v := .agg KK.toArray) rfl (by kernel_rfl) (by kernel_rfl) (by kernel_rfl) (fun _ _ _ h => h) (Or.inl ⟨by kernel_rfl, fun W hSw => run_load_key (N := w.heap.size) W _ _ _ _ _ _ _ (by kernel_rfl) hSw.1 hI⟩) (by assumption) ?_; (try simp only [Act.put, List.setIfInBounds_toArray, List.set_cons_zero, List.set_cons_succ])
          refine wpAnyH_take (i := 17) (oi := _) (v := ?_) rfl (by kernel_rfl) (by kernel_rfl) (by kernel_rfl) (fun _ _ _ h => h) (Or.inl ⟨by kernel_rfl, ?_⟩) (by assumption) ?_; rotate_left 1; focus (intro w hSw; (try dsimp only at hSw); go_simp; (try (with_reducible rfl))); (try simp only [Act.put, List.setIfInBounds_toArray, List.set_cons_zero, List.set_cons_succ])
          refine wpAnyH_take (i := 18) (oi := _) (v := ?_) rfl (by kernel_rfl) (by kernel_rfl) (by kernel_rfl) (fun _ _ _ h => h) (Or.inl ⟨by kernel_rfl, ?_⟩) (by assumption) ?_; rotate_left 1; focus (intro w hSw; (try dsimp only at hSw); go_simp; (try (with_reducible rfl))); (try simp only [Act.put, List.setIfInBounds_toArray, List.set_cons_zero, List.set_cons_succ])
          refine wpAnyH_take (i := 19) (oi := _) (v := ?_) rfl (by kernel_rfl) (by kernel_rfl) (by kernel_rfl) (fun _ _ _ h => h) (Or.inl ⟨by kernel_rfl, ?_⟩) (by assumption) ?_; rotate_left 1; focus (intro w hSw; (try dsimp only at hSw); go_simp; (try (with_reducible rfl))); (try simp only [Act.put, List.setIfInBounds_toArray, List.set_cons_zero, List.set_cons_succ])
          refine wpAnyH_take (i := 20) (oi := _) (v := ?_) rfl (by kernel_rfl) (by kernel_rfl) (by kernel_rfl) (fun _ _ _ h => h) (Or.inl ⟨by kernel_rfl, ?_⟩) (by assumption) ?_; rotate_left 1; focus (intro w hSw; (try dsimp only at hSw); go_simp; (try (with_reducible rfl))); (try simp only [Act.put, List.setIfInBounds_toArray, List.set_cons_zero, List.set_cons_succ])
          refine wpAnyH_take (i := 21) (oi := _) (v := ?_) rfl (by kernel_rfl) (by kernel_rfl) (by kernel_rfl) (fun _ _ _ h => h) (Or.inl ⟨by kernel_rfl, ?_⟩) (by assumption) ?_; rotate_left 1; focus (intro w hSw; (try dsimp only at hSw); go_simp; (try (with_reducible rfl))); (try simp only [Act.put, List.setIfInBounds_toArray, List.set_cons_zero, List.set_cons_succ])
          refine wpAnyH_take (i := 22) (oi := _) (v := ?_) rfl (by kernel_rfl) (by kernel_rfl) (by kernel_rfl) (fun _ _ _ h => h) (Or.inl ⟨by kernel_rfl, ?_⟩) (by assumption) ?_; rotate_left 1; focus (intro w hSw; (try dsimp only at hSw); go_simp; (try (with_reducible rfl))); (try simp only [Act.put, List.setIfInBounds_toArray, List.set_cons_zero, List.set_cons_succ])
          refine wpAnyH_take (i := 24) (oi := _) (v := ?_) rfl (by kernel_rfl) (by kernel_rfl) (by kernel_rfl) (fun _ _ _ h => h) (Or.inl ⟨by kernel_rfl, ?_⟩) (by assumption) ?_; rotate_left 1; focus (intro w hSw; (try dsimp only at hSw); go_simp; (try (with_reducible rfl))); (try simp only [Act.put, List.setIfInBounds_toArray, List.set_cons_zero, List.set_cons_succ])
          refine wpAnyH_take (i := 25) (oi := _) (v := ?_) rfl (by kernel_rfl) (by kernel_rfl) (by kernel_rfl) (fun _ _ _ h => h) (Or.inl ⟨by kernel_rfl, ?_⟩) (by assumption) ?_; rotate_left 1; focus (intro w hSw; (try dsimp only at hSw); go_simp; (try (with_reducible rfl))); (try simp only [Act.put, List.setIfInBounds_toArray, List.set_cons_zero, List.set_cons_succ])
          refine wpAnyH_take (i := 26) (oi := _) (v := ?_) rfl (by kernel_rfl) (by kernel_rfl) (by kernel_rfl) (fun _ _ _ h => h) (Or.inl ⟨by kernel_rfl, ?_⟩) (by assumption) ?_; rotate_left 1; focus (intro w hSw; (try dsimp only at hSw); go_simp; (try (with_reducible rfl))); (try simp only [Act.put, List.setIfInBounds_toArray, List.set_cons_zero, List.set_cons_succ])
          refine wpAnyH_take (i := 27) (oi := _) (v := ?_) rfl (by kernel_rfl) (by kernel_rfl) (by kernel_rfl) (fun _ _ _ h => h) (Or.inl ⟨by kernel_rfl, ?_⟩) (by assumption) ?_; rotate_left 1; focus (intro w hSw; (try dsimp only at hSw); go_simp; (try (with_reducible rfl))); (try simp only [Act.put, List.setIfInBounds_toArray, List.set_cons_zero, List.set_cons_succ])
          refine wpAnyH_ready (rs := [23]) (by kernel_rfl) (by simp) ?_
          refine AllReadyH.cons (o := _) rfl ?_ AllReadyH.nil
          intro K hK
          rw [if_pos (show Region.wanted _ _ = true by kernel_rfl)]
          go_simp
          go_at_call 76
          refine (CN _).mono ?_
          rintro e w2 ⟨rfl, hb⟩
          have hcall := asS_call hHeld hb
          clear hb
          dsimp only
          refine hK.out _ _ (S0 _ hcall) (fun hHeld => ?_)
          clear hK K
          refine wpAnyH_take (i := 28) (oi := _) (v := ?_) rfl (by kernel_rfl) (by kernel_rfl) (by kernel_rfl) (fun _ _ _ h => h) (Or.inl ⟨by kernel_rfl, ?_⟩) (by assumption) ?_; rotate_left 1; focus (intro w hSw; (try dsimp only at hSw); go_simp; (try (with_reducible rfl))); (try simp only [Act.put, List.setIfInBounds_toArray, List.set_cons_zero, List.set_cons_succ])
          refine wpAnyH_take (i := 29) (oi := _) (v := ?_) rfl (by kernel_rfl) (by kernel_rfl) (by kernel_rfl) (fun _ _ _ h => h) (Or.inl ⟨by kernel_rfl, ?_⟩) (by assumption) ?_; rotate_left 1; focus (intro w hSw; (try dsimp only at hSw); go_simp; (try (with_reducible rfl))); (try simp only [Act.put, List.setIfInBounds_toArray, List.set_cons_zero, List.set_cons_succ])
          refine wpAnyH_done (by kernel_rfl) ?_ _
          refine NoPanic.normal ?_
          by_cases hNR : Nn = R
          · have hnr1 : (Nn == R) = true := by simp [hNR]
            have hnr2 : (Nn != R) = false := by simp [hNR]
            have d7w : w2.cell? ⟨w.heap.size, 7, none⟩ = some (.int .u8 b.mode) := (hcall.cell (p := ⟨w.heap.size, 7, none⟩) (cell_lt' d7)).trans d7
            have hmd : b.mode = 1 ∨ b.mode = 2 ∨ b.mode = 3 ∨ b.mode = 4 := (by have := hn.1; have := hn.2.1; omega)
            rcases hmd with hm | hm | hm | hm
            · rw [hm] at d7w
              have HM := Lib.hid hm
              clear hm
              have hrgx : w2.rangeAt w.heap.size 0 L2 := (rangeAt_below hrg hcall (by have := HA4.out.siz; omega))
              have htx : w2.there (w.heap.size + 1) 0 L2.toArray.size := HSZ.out ▸ (HA4.out.step hcall).there
              obtain ⟨W8, hW8, hr8, hb8, hk8⟩ : ∃ W8, w2.setCells (w.heap.size + 1) 0 L2 = W8 ∧ W8.rangeAt (w.heap.size + 1) 0 L2 ∧ Below w.heap.size w W8 ∧ ∀ k, k ≠ w.heap.size + 1 → W8.heap[k]? = w2.heap[k]? :=
                ⟨_, rfl, World.rangeAt_setCells_same _ _ _ L2 (HL28.out ▸ (HA4.out.step hcall).there), below_setCells _ (by omega) _ _ _ (HA4.out.step hcall).bel, fun k hk => heap_setCells_ne _ _ hk _ _ _⟩
              have HW8 := Lib.hid hW8
              clear hW8
              go_wp2_with (first
                | (refine wpList_load_mid rfl 39 (.tmp 3) rfl w.heap.size 0 rfl L2 _ hrgx Try.underlying39 rfl hi3 ?_)
                | (refine wpList_store_mid rfl 39 (.tmp 6) (.tmp 98) rfl (w.heap.size + 1) 0 L2.toArray rfl rfl htx hi4 (all_oneCell_toArray hone) ?_; rw [List.toList_toArray, HW8.out]))
              refine bodyPost_ret (v := .tuple #[.agg L2.toArray, .bool fs]) (results_mid2 Try.results43 _ _ (w.heap.size + 1) L2 _ _ rfl rfl hr8 Try.underlying39 rfl hi3) rfl ?_
              rw [HSS.out]
              refine ⟨_, ?_, ownsRow_mono (owns_move (ownsRow_below HO4.out hcall) (fun k hk _ => hk8 k (by omega))) (by omega), hb8⟩
              show Ending.returned (.tuple #[.agg L2.toArray, .bool fs]) = Ending.returned (.tuple #[.agg ((b.after r x).cells (.slice pa b.co.length pc)).toArray, .bool (askP b r x fs)])
              rw [HLL.out]
              exact congrArg (fun z => Ending.returned (.tuple #[.agg L2.toArray, .bool z])) ((by rw [HP.out, if_neg (fun h => h.elim (fun h => absurd h (by omega)) (fun h => h.elim (fun h => absurd h.1 (by have := HZ.out; omega)) (fun h => h hNR)))]; simp [show ¬ (x = 0) by omega, playsV, HM.out]))
            · rw [hm] at d7w
              have HM := Lib.hid hm
              clear hm
              have hrgx : w2.rangeAt w.heap.size 0 L2 := (rangeAt_below hrg hcall (by have := HA4.out.siz; omega))
              have htx : w2.there (w.heap.size + 1) 0 L2.toArray.size := HSZ.out ▸ (HA4.out.step hcall).there
              obtain ⟨W8, hW8, hr8, hb8, hk8⟩ : ∃ W8, w2.setCells (w.heap.size + 1) 0 L2 = W8 ∧ W8.rangeAt (w.heap.size + 1) 0 L2 ∧ Below w.heap.size w W8 ∧ ∀ k, k ≠ w.heap.size + 1 → W8.heap[k]? = w2.heap[k]? :=
                ⟨_, rfl, World.rangeAt_setCells_same _ _ _ L2 (HL28.out ▸ (HA4.out.step hcall).there), below_setCells _ (by omega) _ _ _ (HA4.out.step hcall).bel, fun k hk => heap_setCells_ne _ _ hk _ _ _⟩
              have HW8 := Lib.hid hW8
              clear hW8
              go_wp2_with (first
                | (refine wpList_load_mid rfl 39 (.tmp 3) rfl w.heap.size 0 rfl L2 _ hrgx Try.underlying39 rfl hi3 ?_)
                | (refine wpList_store_mid rfl 39 (.tmp 6) (.tmp 116) rfl (w.heap.size + 1) 0 L2.toArray rfl rfl htx hi4 (all_oneCell_toArray hone) ?_; rw [List.toList_toArray, HW8.out]))
              refine bodyPost_ret (v := .tuple #[.agg L2.toArray, .bool false]) (results_mid2 Try.results43 _ _ (w.heap.size + 1) L2 _ _ rfl rfl hr8 Try.underlying39 rfl hi3) rfl ?_
              rw [HSS.out]
              refine ⟨_, ?_, ownsRow_mono (owns_move (ownsRow_below HO4.out hcall) (fun k hk _ => hk8 k (by omega))) (by omega), hb8⟩
              show Ending.returned (.tuple #[.agg L2.toArray, .bool false]) = Ending.returned (.tuple #[.agg ((b.after r x).cells (.slice pa b.co.length pc)).toArray, .bool (askP b r x fs)])
              rw [HLL.out]
              exact congrArg (fun z => Ending.returned (.tuple #[.agg L2.toArray, .bool z])) ((by rw [HP.out, if_neg (fun h => h.elim (fun h => absurd h (by omega)) (fun h => h.elim (fun h => absurd h.1 (by have := HZ.out; omega)) (fun h => h hNR)))]; simp [show ¬ (x = 0) by omega, playsV, HM.out]))
            · rw [hm] at d7w
              have HM := Lib.hid hm
              clear hm
              have hrgx : w2.rangeAt w.heap.size 0 L2 := (rangeAt_below hrg hcall (by have := HA4.out.siz; omega))
              have htx : w2.there (w.heap.size + 1) 0 L2.toArray.size := HSZ.out ▸ (HA4.out.step hcall).there
              obtain ⟨W8, hW8, hr8, hb8, hk8⟩ : ∃ W8, w2.setCells (w.heap.size + 1) 0 L2 = W8 ∧ W8.rangeAt (w.heap.size + 1) 0 L2 ∧ Below w.heap.size w W8 ∧ ∀ k, k ≠ w.heap.size + 1 → W8.heap[k]? = w2.heap[k]? :=
                ⟨_, rfl, World.rangeAt_setCells_same _ _ _ L2 (HL28.out ▸ (HA4.out.step hcall).there), below_setCells _ (by omega) _ _ _ (HA4.out.step hcall).bel, fun k hk => heap_setCells_ne _ _ hk _ _ _⟩
              have HW8 := Lib.hid hW8
              clear hW8
              go_wp2_with (first
                | (refine wpList_load_mid rfl 39 (.tmp 3) rfl w.heap.size 0 rfl L2 _ hrgx Try.underlying39 rfl hi3 ?_)
                | (refine wpList_store_mid rfl 39 (.tmp 6) (.tmp 102) rfl (w.heap.size + 1) 0 L2.toArray rfl rfl htx hi4 (all_oneCell_toArray hone) ?_; rw [List.toList_toArray, HW8.out]))
              refine bodyPost_ret (v := .tuple #[.agg L2.toArray, .bool true]) (results_mid2 Try.results43 _ _ (w.heap.size + 1) L2 _ _ rfl rfl hr8 Try.underlying39 rfl hi3) rfl ?_
              rw [HSS.out]
              refine ⟨_, ?_, ownsRow_mono (owns_move (ownsRow_below HO4.out hcall) (fun k hk _ => hk8 k (by omega))) (by omega), hb8⟩
              show Ending.returned (.tuple #[.agg L2.toArray, .bool true]) = Ending.returned (.tuple #[.agg ((b.after r x).cells (.slice pa b.co.length pc)).toArray, .bool (askP b r x fs)])
              rw [HLL.out]
              exact congrArg (fun z => Ending.returned (.tuple #[.agg L2.toArray, .bool z])) ((by rw [HP.out, if_neg (fun h => h.elim (fun h => absurd h (by omega)) (fun h => h.elim (fun h => absurd h.1 (by have := HZ.out; omega)) (fun h => h hNR)))]; simp [show ¬ (x = 0) by omega, playsV, HM.out]))
            · rw [hm] at d7w
              have HM := Lib.hid hm
              clear hm
              have hw1 : IntKind.i64.wrap (64 * x) = 64 * x := IntWalk.i64_in _ (by omega)
              have hw2 : IntKind.i64.wrap (4294967296 + 64 * x) = 4294967296 + 64 * x := IntWalk.i64_in _ (by omega)
              have hw3 : IntKind.i64.wrap (4294967296 + 64 * x + r) = 4294967296 + 64 * x + r := IntWalk.i64_in _ (by omega)
              have hu3 : IntKind.u64.wrap (4294967296 + 64 * x + r) = 4294967296 + 64 * x + r := (by rw [IntKind.wrap_u64]; omega)
              have hT : asT w.heap.size KK L2 w2.drew := ⟨rangeAt_below HK.out (hcall.trans (Below.refl _ _).drew) (cell_lt' d9), rangeAt_below hrg (hcall.trans (Below.refl _ _).drew) (cell_lt' d9), HSZ.out ▸ (HA4.out.step (hcall.trans (Below.refl _ _).drew)).there, (HA4.out.step (hcall.trans (Below.refl _ _).drew)).siz⟩
              go_wp2_with fail
              refine wp_region_noPanic ?_
              refine wp_region_held_drew (S := fun w' => asT w.heap.size KK L2 w') (by kernel_rfl) hT (fun hHeld => ?_)
              refine wpAnyH_take (i := 0) (oi := _) (v := .agg L2.toArray) rfl (by kernel_rfl) (by kernel_rfl) (by kernel_rfl) (fun _ _ _ h => h) (Or.inl ⟨by kernel_rfl, fun W hSw => run_load_boxm (N := w.heap.size) W _ _ _ _ _ _ _ (by kernel_rfl) hSw.2.1 hi3⟩) (by assumption) ?_; (try simp only [Act.put, List.setIfInBounds_toArray, List.set_cons_zero, List.set_cons_succ])
              refine wpAnyH_take (i := 1) (oi := _) (v := ?_) rfl (by kernel_rfl) (by kernel_rfl) (by kernel_rfl) (fun _ _ _ h => h) (Or.inl ⟨by kernel_rfl, ?_⟩) (by assumption) ?_; rotate_left 1; focus (intro w hSw; (try dsimp only at hSw); go_simp; (try (with_reducible rfl))); (try simp only [Act.put, List.setIfInBounds_toArray, List.set_cons_zero, List.set_cons_succ])
              refine wpAnyH_take (i := 2) (oi := _) (v := .agg KK.toArray) rfl (by kernel_rfl) (by kernel_rfl) (by kernel_rfl) (fun _ _ _ h => h) (Or.inl ⟨by kernel_rfl, fun W hSw => run_load_key (N := w.heap.size) W _ _ _ _ _ _ _ (by kernel_rfl) hSw.1 hI⟩) (by assumption) ?_; (try simp only [Act.put, List.setIfInBounds_toArray, List.set_cons_zero, List.set_cons_succ])
              refine wpAnyH_take (i := 3) (oi := _) (v := ?_) rfl (by kernel_rfl) (by kernel_rfl) (by kernel_rfl) (fun _ _ _ h => h) (Or.inl ⟨by kernel_rfl, ?_⟩) (by assumption) ?_; rotate_left 1; focus (intro w hSw; (try dsimp only at hSw); go_simp; (try (with_reducible rfl))); (try simp only [Act.put, List.setIfInBounds_toArray, List.set_cons_zero, List.set_cons_succ])
              refine wpAnyH_take (i := 4) (oi := _) (v := ?_) rfl (by kernel_rfl) (by kernel_rfl) (by kernel_rfl) (fun _ _ _ h => h) (Or.inl ⟨by kernel_rfl, ?_⟩) (by assumption) ?_; rotate_left 1; focus (intro w hSw; (try dsimp only at hSw); go_simp; (try (with_reducible rfl))); (try simp only [Act.put, List.setIfInBounds_toArray, List.set_cons_zero, List.set_cons_succ])
              refine wpAnyH_take (i := 5) (oi := _) (v := ?_) rfl (by kernel_rfl) (by kernel_rfl) (by kernel_rfl) (fun _ _ _ h => h) (Or.inl ⟨by kernel_rfl, ?_⟩) (by assumption) ?_; rotate_left 1; focus (intro w hSw; (try dsimp only at hSw); go_simp; (try (with_reducible rfl))); (try simp only [Act.put, List.setIfInBounds_toArray, List.set_cons_zero, List.set_cons_succ])
              refine wpAnyH_take (i := 6) (oi := _) (v := ?_) rfl (by kernel_rfl) (by kernel_rfl) (by kernel_rfl) (fun _ _ _ h => h) (Or.inl ⟨by kernel_rfl, ?_⟩) (by assumption) ?_; rotate_left 1; focus (intro w hSw; (try dsimp only at hSw); go_simp; (try (with_reducible rfl))); (try simp only [Act.put, List.setIfInBounds_toArray, List.set_cons_zero, List.set_cons_succ])
              refine wpAnyH_take (i := 7) (oi := _) (v := ?_) rfl (by kernel_rfl) (by kernel_rfl) (by kernel_rfl) (fun _ _ _ h => h) (Or.inl ⟨by kernel_rfl, ?_⟩) (by assumption) ?_; rotate_left 1; focus (intro w hSw; (try dsimp only at hSw); go_simp; (try (with_reducible rfl))); (try simp only [Act.put, List.setIfInBounds_toArray, List.set_cons_zero, List.set_cons_succ])
              refine wpAnyH_take (i := 8) (oi := _) (v := ?_) rfl (by kernel_rfl) (by kernel_rfl) (by kernel_rfl) (fun _ _ _ h => h) (Or.inl ⟨by kernel_rfl, ?_⟩) (by assumption) ?_; rotate_left 1; focus (intro w hSw; (try dsimp only at hSw); go_simp; (try (with_reducible rfl))); (try simp only [Act.put, List.setIfInBounds_toArray, List.set_cons_zero, List.set_cons_succ])
              refine wpAnyH_ready (rs := [9]) (by kernel_rfl) (by simp) ?_
              refine AllReadyH.cons (o := _) rfl ?_ AllReadyH.nil
              intro K hK
              rw [if_pos (show Region.wanted _ _ = true by kernel_rfl)]
              go_simp
              go_at_call 76
              refine (HCN2.out _).mono ?_
              rintro e w3 ⟨rfl, hb3⟩
              have hT3 : asT w.heap.size KK L2 w3 := ⟨rangeAt_below hT.1 hb3 (by have := hT.2.2.2; omega), rangeAt_below hT.2.1 hb3 (by have := hT.2.2.2; omega), there_below hT.2.2.1 hb3 (by have := hT.2.2.2; omega), Nat.lt_of_lt_of_le hT.2.2.2 hb3.size⟩
              have hcall3 : Below W4.heap.size W4 w3 := (hcall.trans (Below.refl _ _).drew).trans (hb3.mono (by have := hcall.size; exact this))
              clear hb3
              dsimp only
              refine hK.out _ _ hT3 (fun hHeld => ?_)
              clear hK K
              refine wpAnyH_take (i := 10) (oi := _) (v := ?_) rfl (by kernel_rfl) (by kernel_rfl) (by kernel_rfl) (fun _ _ _ h => h) (Or.inl ⟨by kernel_rfl, ?_⟩) (by assumption) ?_; rotate_left 1; focus (intro w hSw; (try dsimp only at hSw); go_simp; (try (with_reducible rfl))); (try simp only [Act.put, List.setIfInBounds_toArray, List.set_cons_zero, List.set_cons_succ])
              refine wpAnyH_ready (rs := [11]) (by kernel_rfl) (by simp) ?_
              refine AllReadyH.cons (o := _) rfl ?_ AllReadyH.nil
              intro K hK
              rw [if_pos (show Region.wanted _ _ = true by kernel_rfl)]
              obtain ⟨W8, hW8, hr8, hb8, hk8, hb9⟩ : ∃ W8, w3.setCells (w.heap.size + 1) 0 L2 = W8 ∧ W8.rangeAt (w.heap.size + 1) 0 L2 ∧ Below w.heap.size w W8 ∧ (∀ k, k ≠ w.heap.size + 1 → W8.heap[k]? = w3.heap[k]?) ∧ Below (w.heap.size + 1) w3 W8 :=
                ⟨_, rfl, World.rangeAt_setCells_same _ _ _ L2 (HL28.out ▸ (HA4.out.step hcall3).there), below_setCells _ (by omega) _ _ _ (HA4.out.step hcall3).bel, fun k hk => heap_setCells_ne _ _ hk _ _ _, below_setCells _ (Nat.le_refl _) _ _ _ (Below.refl _ _)⟩
              have HW8 := Lib.hid hW8
              clear hW8
              have hT8 : asT w.heap.size KK L2 W8 := ⟨rangeAt_below hT3.1 hb9 (by omega), rangeAt_below hT3.2.1 hb9 (by omega), (HW8.out ▸ World.there_setCells hT3.2.2.1 _ _ _), Nat.lt_of_lt_of_le hT3.2.2.2 hb9.size⟩
              refine wp_store_mid _ _ _ rfl _ _ L2.toArray rfl rfl hT3.2.2.1 hi4 (all_oneCell_toArray hone) ?_
              rw [List.toList_toArray, HW8.out]
              refine hK.out _ _ hT8 (fun hHeld => ?_)
              clear hK K
              refine wpAnyH_take (i := 12) (oi := _) (v := ?_) rfl (by kernel_rfl) (by kernel_rfl) (by kernel_rfl) (fun _ _ _ h => h) (Or.inl ⟨by kernel_rfl, ?_⟩) (by assumption) ?_; rotate_left 1; focus (intro w hSw; (try dsimp only at hSw); go_simp; (try (with_reducible rfl))); (try simp only [Act.put, List.setIfInBounds_toArray, List.set_cons_zero, List.set_cons_succ])
              refine wpAnyH_done (by kernel_rfl) ?_ _
              refine NoPanic.normal ?_
              go_wp2_with fail
              refine bodyPost_ret (v := .tuple #[.agg L2.toArray, .bool (N2 == 1)]) (results_mid2 Try.results43 _ _ (w.heap.size + 1) L2 _ _ rfl rfl hr8 Try.underlying39 rfl hi3) rfl ?_
              rw [HSS.out]
              refine ⟨_, ?_, ownsRow_mono (owns_move (ownsRow_below HO4.out hcall3) (fun k hk _ => hk8 k (by omega))) (by omega), hb8⟩
              show Ending.returned (.tuple #[.agg L2.toArray, .bool (N2 == 1)]) = Ending.returned (.tuple #[.agg ((b.after r x).cells (.slice pa b.co.length pc)).toArray, .bool (askP b r x fs)])
              rw [HLL.out]
              exact congrArg (fun z => Ending.returned (.tuple #[.agg L2.toArray, .bool z])) ((by rw [HP.out, if_neg (fun h => h.elim (fun h => absurd h (by omega)) (fun h => h.elim (fun h => absurd h.1 (by have := HZ.out; omega)) (fun h => h hNR)))]; simp [show ¬ (x = 0) by omega, playsV, HM.out, HN2.out]; first | done | (by_cases h : N2 = 1 <;> simp [h])))
          · have hnr1 : (Nn == R) = false := by simp [hNR]
            have hnr2 : (Nn != R) = true := by simp [hNR]
            have hrgx : w2.rangeAt w.heap.size 0 L2 := (rangeAt_below hrg hcall (by have := HA4.out.siz; omega))
            have htx : w2.there (w.heap.size + 1) 0 L2.toArray.size := HSZ.out ▸ (HA4.out.step hcall).there
            obtain ⟨W8, hW8, hr8, hb8, hk8⟩ : ∃ W8, w2.setCells (w.heap.size + 1) 0 L2 = W8 ∧ W8.rangeAt (w.heap.size + 1) 0 L2 ∧ Below w.heap.size w W8 ∧ ∀ k, k ≠ w.heap.size + 1 → W8.heap[k]? = w2.heap[k]? :=
              ⟨_, rfl, World.rangeAt_setCells_same _ _ _ L2 (HL28.out ▸ (HA4.out.step hcall).there), below_setCells _ (by omega) _ _ _ (HA4.out.step hcall).bel, fun k hk => heap_setCells_ne _ _ hk _ _ _⟩
            have HW8 := Lib.hid hW8
            clear hW8
            go_wp2_with (first
              | (refine wpList_load_mid rfl 39 (.tmp 3) rfl w.heap.size 0 rfl L2 _ hrgx Try.underlying39 rfl hi3 ?_)
              | (refine wpList_store_mid rfl 39 (.tmp 6) (.tmp 90) rfl (w.heap.size + 1) 0 L2.toArray rfl rfl htx hi4 (all_oneCell_toArray hone) ?_; rw [List.toList_toArray, HW8.out]))
            refine bodyPost_ret (v := .tuple #[.agg L2.toArray, .bool false]) (results_mid2 Try.results43 _ _ (w.heap.size + 1) L2 _ _ rfl rfl hr8 Try.underlying39 rfl hi3) rfl ?_
            rw [HSS.out]
            refine ⟨_, ?_, ownsRow_mono (owns_move (ownsRow_below HO4.out hcall) (fun k hk _ => hk8 k (by omega))) (by omega), hb8⟩
            show Ending.returned (.tuple #[.agg L2.toArray, .bool false]) = Ending.returned (.tuple #[.agg ((b.after r x).cells (.slice pa b.co.length pc)).toArray, .bool (askP b r x fs)])
            rw [HLL.out]
            exact congrArg (fun z => Ending.returned (.tuple #[.agg L2.toArray, .bool z])) (by rw [HP.out, if_pos (.inr (.inr hNR))])
      · have hr1 : (r == 0) = true := by simp [hm1]
        have hr2 : ¬ (0 < r) := by omega
        have HR0 := Lib.hid hm1
        clear hm1
        go_wp2_with (refine wpList_store_mid rfl 39 (.tmp 3) (.tmp 42) rfl w.heap.size 0 (b.cells (.slice pa b.co.length pc)).toArray rfl rfl ht2 hi2 (all_oneCell_toArray (Bx.cells_one b rfl)) ?_; rw [List.toList_toArray]; refine wpList_world ?_; intro W3 hW3; have A3 : AskAt w b (.slice pa b.co.length pc) W3 := hW3 ▸ HA2.out.setBox h16 h16; have ho3 : W3.ownsRow W1.heap.size 3 1 (.slice pa b.co.length pc) b.co.length (b.co.map (Value.int .i64)) := hW3 ▸ owns_move HO2.out (fun k hk _ => heap_setCells_ne _ _ (by omega) _ _ _); have hf3 := A3.box.facts h16; have c26 := hf3.2.2.2.1; have c27 := hf3.2.2.2.2.1; have c8 := hf3.2.1; have cf := hf3.2.2.2.2.2.2; clear hW3 hf3)
        refine wp_world ?_
        intro W4 hW4
        have A4 : AskAt w (b.after r x) (.slice pa b.co.length pc) W4 := by
          rw [← hW4]
          have := A3.set26 h16 (b.asked + 1)
          unfold Bx.after
          rw [if_neg (by have := HR0.out; omega)]
          exact this
        have ho4 : W4.ownsRow W1.heap.size 3 1 (.slice pa b.co.length pc) b.co.length (b.co.map (Value.int .i64)) := by
          rw [← hW4]
          exact owns_move ho3 (fun k hk _ => Below.heap_setCell _ _ _ _ (by show k ≠ w.heap.size; omega))
        clear hW4 A3 ho3 c26 c27 c8 cf ht2 hi2 HA2 HO2
        obtain ⟨q7, q8, q9, q26, q27, qk, qf⟩ := A4.box.facts h16
        have d9 : W4.cell? ⟨w.heap.size, 9, none⟩ = some (.int .i64 b.lives) := q9
        have d7 : W4.cell? ⟨w.heap.size, 7, none⟩ = some (.int .u8 b.mode) := q7
        have dk : W4.rangeAt w.heap.size 10 (keyL b.seed) := qk
        have HP : Hid (askP b r x fs = if r = 0 ∨ (0 < b.lives ∧ b.lives < (b.after r x).mixed) ∨ numberV b.seed (b.asked / (b.noise + 1)) (b.noise + 1) ≠ b.asked % (b.noise + 1) then false else decide (x = 0) || playsV b.mode b.seed r x fs) := rfl
        have HA4 := Lib.hid A4
        have HO4 := Lib.hid ho4
        have HK := Lib.hid dk
        have hM0 : 0 ≤ (b.after r x).mixed ∧ (b.after r x).mixed ≤ b.mixed + 1 := (by unfold Bx.after; dsimp only; split <;> omega)
        clear q7 q8 q9 q26 qk qf dk A4 ho4
        have hrg : W4.rangeAt w.heap.size 0 ((b.after r x).cells (.slice pa b.co.length pc)) := HA4.out.box.range
        have hl28 := Bx.cells_len (b := b.after r x) h16 (.slice pa b.co.length pc)
        have hone := Bx.cells_one (b.after r x) (v := .slice pa b.co.length pc) rfl
        have HV := Lib.hid (show (b.after r x).val (.slice pa b.co.length pc) = .agg ((b.after r x).cells (.slice pa b.co.length pc)).toArray from rfl)
        generalize hBB : (b.after r x).mixed = M at *
        generalize hLL : (b.after r x).cells (.slice pa b.co.length pc) = L2 at *
        clear hBB
        have HLL := Lib.hid hLL
        clear hLL
        have hsz2 : L2.toArray.size = 28 := by simp [hl28]
        have hi3 : (Try.prog.info? 39).map (·.size) = some L2.length := hl28 ▸ info39
        have hi4 : (Try.prog.info? 39).map (·.size) = some L2.toArray.size := hsz2 ▸ info39
        have HSZ := Lib.hid hsz2
        have HL28 := Lib.hid hl28
        clear hsz2 hl28
        go_quiet (fail)
        have hrgx : (W4.drewN nq).rangeAt w.heap.size 0 L2 := (rangeAt_below hrg (below_drewN _ (Below.refl _ _)) (N := W4.heap.size) (by have := HA4.out.siz; omega))
        have htx : (W4.drewN nq).there (w.heap.size + 1) 0 L2.toArray.size := HSZ.out ▸ (HA4.out.step (below_drewN _ (Below.refl _ _))).there
        obtain ⟨W8, hW8, hr8, hb8, hk8⟩ : ∃ W8, (W4.drewN nq).setCells (w.heap.size + 1) 0 L2 = W8 ∧ W8.rangeAt (w.heap.size + 1) 0 L2 ∧ Below w.heap.size w W8 ∧ ∀ k, k ≠ w.heap.size + 1 → W8.heap[k]? = (W4.drewN nq).heap[k]? :=
          ⟨_, rfl, World.rangeAt_setCells_same _ _ _ L2 (HL28.out ▸ (HA4.out.step (below_drewN _ (Below.refl _ _))).there), below_setCells _ (by omega) _ _ _ (HA4.out.step (below_drewN nq (Below.refl _ _))).bel, fun k hk => heap_setCells_ne _ _ hk _ _ _⟩
        have HW8 := Lib.hid hW8
        clear hW8
        go_wp2_with (first
          | (refine wpList_load_mid rfl 39 (.tmp 3) rfl w.heap.size 0 rfl L2 _ hrgx Try.underlying39 rfl hi3 ?_)
          | (refine wpList_store_mid rfl 39 (.tmp 6) (.tmp 90) rfl (w.heap.size + 1) 0 L2.toArray rfl rfl htx hi4 (all_oneCell_toArray hone) ?_; rw [List.toList_toArray, HW8.out]))
        refine bodyPost_ret (v := .tuple #[.agg L2.toArray, .bool false]) (results_mid2 Try.results43 _ _ (w.heap.size + 1) L2 _ _ rfl rfl hr8 Try.underlying39 rfl hi3) rfl ?_
        rw [HSS.out]
        refine ⟨_, ?_, ownsRow_mono (owns_move (ownsRow_below HO4.out (below_drewN nq (Below.refl _ _))) (fun k hk _ => hk8 k (by omega))) (by omega), hb8⟩
        show Ending.returned (.tuple #[.agg L2.toArray, .bool false]) = Ending.returned (.tuple #[.agg ((b.after r x).cells (.slice pa b.co.length pc)).toArray, .bool (askP b r x fs)])
        rw [HLL.out]
        exact congrArg (fun z => Ending.returned (.tuple #[.agg L2.toArray, .bool z])) (by rw [HP.out, if_pos (.inl HR0.out)])
      · have hr1 : (r == 0) = false := by simp; omega
        have hx1 : (x == 0) = true := by simp [hm2]
        have hx2 : ¬ (0 < x) := by omega
        have HX0 := Lib.hid hm2
        clear hm2
        go_wp2_with (refine wpList_store_mid rfl 39 (.tmp 3) (.tmp 42) rfl w.heap.size 0 (b.cells (.slice pa b.co.length pc)).toArray rfl rfl ht2 hi2 (all_oneCell_toArray (Bx.cells_one b rfl)) ?_; rw [List.toList_toArray]; refine wpList_world ?_; intro W3 hW3; have A3 : AskAt w b (.slice pa b.co.length pc) W3 := hW3 ▸ HA2.out.setBox h16 h16; have ho3 : W3.ownsRow W1.heap.size 3 1 (.slice pa b.co.length pc) b.co.length (b.co.map (Value.int .i64)) := hW3 ▸ owns_move HO2.out (fun k hk _ => heap_setCells_ne _ _ (by omega) _ _ _); have hf3 := A3.box.facts h16; have c26 := hf3.2.2.2.1; have c27 := hf3.2.2.2.2.1; have c8 := hf3.2.1; have cf := hf3.2.2.2.2.2.2; clear hW3 hf3)
        refine wp_world ?_
        intro W4 hW4
        have A4 : AskAt w (b.after r x) (.slice pa b.co.length pc) W4 := by
          rw [← hW4]
          have := A3.set26 h16 (b.asked + 1)
          unfold Bx.after
          rw [if_neg (by have := HX0.out; omega)]
          exact this
        have ho4 : W4.ownsRow W1.heap.size 3 1 (.slice pa b.co.length pc) b.co.length (b.co.map (Value.int .i64)) := by
          rw [← hW4]
          exact owns_move ho3 (fun k hk _ => Below.heap_setCell _ _ _ _ (by show k ≠ w.heap.size; omega))
        clear hW4 A3 ho3 c26 c27 c8 cf ht2 hi2 HA2 HO2
        obtain ⟨q7, q8, q9, q26, q27, qk, qf⟩ := A4.box.facts h16
        have d9 : W4.cell? ⟨w.heap.size, 9, none⟩ = some (.int .i64 b.lives) := q9
        have d7 : W4.cell? ⟨w.heap.size, 7, none⟩ = some (.int .u8 b.mode) := q7
        have dk : W4.rangeAt w.heap.size 10 (keyL b.seed) := qk
        have HP : Hid (askP b r x fs = if r = 0 ∨ (0 < b.lives ∧ b.lives < (b.after r x).mixed) ∨ numberV b.seed (b.asked / (b.noise + 1)) (b.noise + 1) ≠ b.asked % (b.noise + 1) then false else decide (x = 0) || playsV b.mode b.seed r x fs) := rfl
        have HA4 := Lib.hid A4
        have HO4 := Lib.hid ho4
        have HK := Lib.hid dk
        have hM0 : 0 ≤ (b.after r x).mixed ∧ (b.after r x).mixed ≤ b.mixed + 1 := (by unfold Bx.after; dsimp only; split <;> omega)
        clear q7 q8 q9 q26 qk qf dk A4 ho4
        have hrg : W4.rangeAt w.heap.size 0 ((b.after r x).cells (.slice pa b.co.length pc)) := HA4.out.box.range
        have hl28 := Bx.cells_len (b := b.after r x) h16 (.slice pa b.co.length pc)
        have hone := Bx.cells_one (b.after r x) (v := .slice pa b.co.length pc) rfl
        have HV := Lib.hid (show (b.after r x).val (.slice pa b.co.length pc) = .agg ((b.after r x).cells (.slice pa b.co.length pc)).toArray from rfl)
        generalize hBB : (b.after r x).mixed = M at *
        generalize hLL : (b.after r x).cells (.slice pa b.co.length pc) = L2 at *
        clear hBB
        have HLL := Lib.hid hLL
        clear hLL
        have hsz2 : L2.toArray.size = 28 := by simp [hl28]
        have hi3 : (Try.prog.info? 39).map (·.size) = some L2.length := hl28 ▸ info39
        have hi4 : (Try.prog.info? 39).map (·.size) = some L2.toArray.size := hsz2 ▸ info39
        have HSZ := Lib.hid hsz2
        have HL28 := Lib.hid hl28
        clear hsz2 hl28
        have hdz : 0 < b.lives ∨ b.lives = 0 := (by omega)
        rcases hdz with hd | hz
        · have hdd : decide (0 < b.lives) = true := decide_eq_true hd
          by_cases hlm : b.lives < M
          · have hlm1 : decide (b.lives < M) = true := decide_eq_true hlm
            go_quiet (fail)
            have hrgx : (W4.drewN nq).rangeAt w.heap.size 0 L2 := (rangeAt_below hrg (below_drewN _ (Below.refl _ _)) (N := W4.heap.size) (by have := HA4.out.siz; omega))
            have htx : (W4.drewN nq).there (w.heap.size + 1) 0 L2.toArray.size := HSZ.out ▸ (HA4.out.step (below_drewN _ (Below.refl _ _))).there
            obtain ⟨W8, hW8, hr8, hb8, hk8⟩ : ∃ W8, (W4.drewN nq).setCells (w.heap.size + 1) 0 L2 = W8 ∧ W8.rangeAt (w.heap.size + 1) 0 L2 ∧ Below w.heap.size w W8 ∧ ∀ k, k ≠ w.heap.size + 1 → W8.heap[k]? = (W4.drewN nq).heap[k]? :=
              ⟨_, rfl, World.rangeAt_setCells_same _ _ _ L2 (HL28.out ▸ (HA4.out.step (below_drewN _ (Below.refl _ _))).there), below_setCells _ (by omega) _ _ _ (HA4.out.step (below_drewN nq (Below.refl _ _))).bel, fun k hk => heap_setCells_ne _ _ hk _ _ _⟩
            have HW8 := Lib.hid hW8
            clear hW8
            go_wp2_with (first
              | (refine wpList_load_mid rfl 39 (.tmp 3) rfl w.heap.size 0 rfl L2 _ hrgx Try.underlying39 rfl hi3 ?_)
              | (refine wpList_store_mid rfl 39 (.tmp 6) (.tmp 90) rfl (w.heap.size + 1) 0 L2.toArray rfl rfl htx hi4 (all_oneCell_toArray hone) ?_; rw [List.toList_toArray, HW8.out]))
            refine bodyPost_ret (v := .tuple #[.agg L2.toArray, .bool false]) (results_mid2 Try.results43 _ _ (w.heap.size + 1) L2 _ _ rfl rfl hr8 Try.underlying39 rfl hi3) rfl ?_
            rw [HSS.out]
            refine ⟨_, ?_, ownsRow_mono (owns_move (ownsRow_below HO4.out (below_drewN nq (Below.refl _ _))) (fun k hk _ => hk8 k (by omega))) (by omega), hb8⟩
            show Ending.returned (.tuple #[.agg L2.toArray, .bool false]) = Ending.returned (.tuple #[.agg ((b.after r x).cells (.slice pa b.co.length pc)).toArray, .bool (askP b r x fs)])
            rw [HLL.out]
            exact congrArg (fun z => Ending.returned (.tuple #[.agg L2.toArray, .bool z])) (by rw [HP.out, if_pos (.inr (.inl ⟨hd, hlm⟩))])
          · have hlm1 : decide (b.lives < M) = false := decide_eq_false hlm
            have CN := fun W => rNumber_any b.seed (b.asked / (b.noise + 1)) (b.noise + 1) W h16 hsb (Int.ediv_nonneg a0 (by omega)) (Int.le_trans (Int.ediv_le_self _ a0) (by omega)) (by omega) (by omega)
            have hqt : Int.tdiv b.asked (b.noise + 1) = b.asked / (b.noise + 1) := Int.tdiv_eq_ediv_of_nonneg a0
            have hrt : Int.tmod b.asked (b.noise + 1) = b.asked % (b.noise + 1) := Int.tmod_eq_emod_of_nonneg a0
            have hQ : 0 ≤ b.asked / (b.noise + 1) ∧ b.asked / (b.noise + 1) ≤ 100000 := ⟨Int.ediv_nonneg a0 (by omega), Int.le_trans (Int.ediv_le_self _ a0) (by omega)⟩
            have hR : 0 ≤ b.asked % (b.noise + 1) ∧ b.asked % (b.noise + 1) < b.noise + 1 := ⟨Int.emod_nonneg _ (by omega), Int.emod_lt_of_pos _ (by omega)⟩
            obtain ⟨hQ0, hQ1⟩ := hQ
            obtain ⟨hR0, hR1⟩ := hR
            generalize b.asked / (b.noise + 1) = Q at *
            generalize b.asked % (b.noise + 1) = R at *
            generalize numberV b.seed Q (b.noise + 1) = Nn at *
            have HLK := Lib.hid ((keyL_len b.seed).trans h16)
            have CN2 := fun W => rNumber_any b.seed (4294967296 + 64 * x + r) 2 W h16 hsb (by omega) (by omega) (by omega) (by omega)
            unfold keyV at CN CN2
            generalize hN2 : numberV b.seed (4294967296 + 64 * x + r) 2 = N2 at CN2
            have HN2 := Lib.hid hN2
            clear hN2
            generalize keyL b.seed = KK at *
            have hI := HLK.out ▸ infoK
            have hU : Try.prog.underlying 37 = some (.array 16 5) := by kernel_rfl
            have HCN2 := Lib.hid CN2
            clear CN2
            have hne1 : (b.noise + 1 == 0) = false := (by simp; omega)
            have hne2 : ¬ (b.noise + 1 = 0) := (by omega)
            have hwQ : IntKind.i64.wrap Q = Q := IntWalk.i64_in _ (by omega)
            have hwR : IntKind.i64.wrap R = R := IntWalk.i64_in _ (by omega)
            have huQ : IntKind.u64.wrap Q = Q := (by rw [IntKind.wrap_u64]; omega)
            have huR : IntKind.u64.wrap R = R := (by rw [IntKind.wrap_u64]; omega)
            have huN : IntKind.u64.wrap (b.noise + 1) = b.noise + 1 := (by rw [IntKind.wrap_u64]; omega)
            have S0 := fun W (h : Below W4.heap.size W4 W) => asS_of HK.out d9 q27 h
            go_region_held3 (fun w' => asS w.heap.size KK b.lives M W4 w') (first | exact S0 _ (Below.refl _ _).drew | exact S0 _ hcall)
              (first
                | (go_at_call 76; refine (CN _).mono ?_; rintro e w2 ⟨rfl, hb⟩; have hcall := asS_call (by assumption) hb; clear hb))
            rename_i w2 hcall hHeld
            by_cases hNR : Nn = R
            · have hnr1 : (Nn == R) = true := by simp [hNR]
              have hnr2 : (Nn != R) = false := by simp [hNR]
              have hrgx : w2.rangeAt w.heap.size 0 L2 := (rangeAt_below hrg hcall (by have := HA4.out.siz; omega))
              have htx : w2.there (w.heap.size + 1) 0 L2.toArray.size := HSZ.out ▸ (HA4.out.step hcall).there
              obtain ⟨W8, hW8, hr8, hb8, hk8⟩ : ∃ W8, w2.setCells (w.heap.size + 1) 0 L2 = W8 ∧ W8.rangeAt (w.heap.size + 1) 0 L2 ∧ Below w.heap.size w W8 ∧ ∀ k, k ≠ w.heap.size + 1 → W8.heap[k]? = w2.heap[k]? :=
                ⟨_, rfl, World.rangeAt_setCells_same _ _ _ L2 (HL28.out ▸ (HA4.out.step hcall).there), below_setCells _ (by omega) _ _ _ (HA4.out.step hcall).bel, fun k hk => heap_setCells_ne _ _ hk _ _ _⟩
              have HW8 := Lib.hid hW8
              clear hW8
              go_wp2_with (first
                | (refine wpList_load_mid rfl 39 (.tmp 3) rfl w.heap.size 0 rfl L2 _ hrgx Try.underlying39 rfl hi3 ?_)
                | (refine wpList_store_mid rfl 39 (.tmp 6) (.tmp 93) rfl (w.heap.size + 1) 0 L2.toArray rfl rfl htx hi4 (all_oneCell_toArray hone) ?_; rw [List.toList_toArray, HW8.out]))
              refine bodyPost_ret (v := .tuple #[.agg L2.toArray, .bool true]) (results_mid2 Try.results43 _ _ (w.heap.size + 1) L2 _ _ rfl rfl hr8 Try.underlying39 rfl hi3) rfl ?_
              rw [HSS.out]
              refine ⟨_, ?_, ownsRow_mono (owns_move (ownsRow_below HO4.out hcall) (fun k hk _ => hk8 k (by omega))) (by omega), hb8⟩
              show Ending.returned (.tuple #[.agg L2.toArray, .bool true]) = Ending.returned (.tuple #[.agg ((b.after r x).cells (.slice pa b.co.length pc)).toArray, .bool (askP b r x fs)])
              rw [HLL.out]
              exact congrArg (fun z => Ending.returned (.tuple #[.agg L2.toArray, .bool z])) ((by rw [HP.out, if_neg (fun h => h.elim (fun h => absurd h (by omega)) (fun h => h.elim (fun h => absurd h.2 (by omega)) (fun h => h hNR)))]; simp [HX0.out]))
            · have hnr1 : (Nn == R) = false := by simp [hNR]
              have hnr2 : (Nn != R) = true := by simp [hNR]
              have hrgx : w2.rangeAt w.heap.size 0 L2 := (rangeAt_below hrg hcall (by have := HA4.out.siz; omega))
              have htx : w2.there (w.heap.size + 1) 0 L2.toArray.size := HSZ.out ▸ (HA4.out.step hcall).there
              obtain ⟨W8, hW8, hr8, hb8, hk8⟩ : ∃ W8, w2.setCells (w.heap.size + 1) 0 L2 = W8 ∧ W8.rangeAt (w.heap.size + 1) 0 L2 ∧ Below w.heap.size w W8 ∧ ∀ k, k ≠ w.heap.size + 1 → W8.heap[k]? = w2.heap[k]? :=
                ⟨_, rfl, World.rangeAt_setCells_same _ _ _ L2 (HL28.out ▸ (HA4.out.step hcall).there), below_setCells _ (by omega) _ _ _ (HA4.out.step hcall).bel, fun k hk => heap_setCells_ne _ _ hk _ _ _⟩
              have HW8 := Lib.hid hW8
              clear hW8
              go_wp2_with (first
                | (refine wpList_load_mid rfl 39 (.tmp 3) rfl w.heap.size 0 rfl L2 _ hrgx Try.underlying39 rfl hi3 ?_)
                | (refine wpList_store_mid rfl 39 (.tmp 6) (.tmp 90) rfl (w.heap.size + 1) 0 L2.toArray rfl rfl htx hi4 (all_oneCell_toArray hone) ?_; rw [List.toList_toArray, HW8.out]))
              refine bodyPost_ret (v := .tuple #[.agg L2.toArray, .bool false]) (results_mid2 Try.results43 _ _ (w.heap.size + 1) L2 _ _ rfl rfl hr8 Try.underlying39 rfl hi3) rfl ?_
              rw [HSS.out]
              refine ⟨_, ?_, ownsRow_mono (owns_move (ownsRow_below HO4.out hcall) (fun k hk _ => hk8 k (by omega))) (by omega), hb8⟩
              show Ending.returned (.tuple #[.agg L2.toArray, .bool false]) = Ending.returned (.tuple #[.agg ((b.after r x).cells (.slice pa b.co.length pc)).toArray, .bool (askP b r x fs)])
              rw [HLL.out]
              exact congrArg (fun z => Ending.returned (.tuple #[.agg L2.toArray, .bool z])) (by rw [HP.out, if_pos (.inr (.inr hNR))])
        · rw [hz] at d9
          have HZ := Lib.hid hz
          clear hz
          have CN := fun W => rNumber_any b.seed (b.asked / (b.noise + 1)) (b.noise + 1) W h16 hsb (Int.ediv_nonneg a0 (by omega)) (Int.le_trans (Int.ediv_le_self _ a0) (by omega)) (by omega) (by omega)
          have hqt : Int.tdiv b.asked (b.noise + 1) = b.asked / (b.noise + 1) := Int.tdiv_eq_ediv_of_nonneg a0
          have hrt : Int.tmod b.asked (b.noise + 1) = b.asked % (b.noise + 1) := Int.tmod_eq_emod_of_nonneg a0
          have hQ : 0 ≤ b.asked / (b.noise + 1) ∧ b.asked / (b.noise + 1) ≤ 100000 := ⟨Int.ediv_nonneg a0 (by omega), Int.le_trans (Int.ediv_le_self _ a0) (by omega)⟩
          have hR : 0 ≤ b.asked % (b.noise + 1) ∧ b.asked % (b.noise + 1) < b.noise + 1 := ⟨Int.emod_nonneg _ (by omega), Int.emod_lt_of_pos _ (by omega)⟩
          obtain ⟨hQ0, hQ1⟩ := hQ
          obtain ⟨hR0, hR1⟩ := hR
          generalize b.asked / (b.noise + 1) = Q at *
          generalize b.asked % (b.noise + 1) = R at *
          generalize numberV b.seed Q (b.noise + 1) = Nn at *
          have HLK := Lib.hid ((keyL_len b.seed).trans h16)
          have CN2 := fun W => rNumber_any b.seed (4294967296 + 64 * x + r) 2 W h16 hsb (by omega) (by omega) (by omega) (by omega)
          unfold keyV at CN CN2
          generalize hN2 : numberV b.seed (4294967296 + 64 * x + r) 2 = N2 at CN2
          have HN2 := Lib.hid hN2
          clear hN2
          generalize keyL b.seed = KK at *
          have hI := HLK.out ▸ infoK
          have hU : Try.prog.underlying 37 = some (.array 16 5) := by kernel_rfl
          have HCN2 := Lib.hid CN2
          clear CN2
          have hne1 : (b.noise + 1 == 0) = false := (by simp; omega)
          have hne2 : ¬ (b.noise + 1 = 0) := (by omega)
          have hwQ : IntKind.i64.wrap Q = Q := IntWalk.i64_in _ (by omega)
          have hwR : IntKind.i64.wrap R = R := IntWalk.i64_in _ (by omega)
          have huQ : IntKind.u64.wrap Q = Q := (by rw [IntKind.wrap_u64]; omega)
          have huR : IntKind.u64.wrap R = R := (by rw [IntKind.wrap_u64]; omega)
          have huN : IntKind.u64.wrap (b.noise + 1) = b.noise + 1 := (by rw [IntKind.wrap_u64]; omega)
          have S0 := fun W (h : Below W4.heap.size W4 W) => asS_of HK.out d9 q27 h
          refine wp_region_noPanic ?_
          refine wp_region_held_drew (S := fun w' => asS w.heap.size KK 0 M W4 w') (by kernel_rfl) (S0 _ (Below.refl _ _).drew) (fun hHeld => ?_)
          refine wpAnyH_take (i := 0) (oi := _) (v := ?_) rfl (by kernel_rfl) (by kernel_rfl) (by kernel_rfl) (fun _ _ _ h => h) (Or.inl ⟨by kernel_rfl, ?_⟩) (by assumption) ?_; rotate_left 1; focus (intro w hSw; (try dsimp only at hSw); go_simp; (try (with_reducible rfl))); (try simp only [Act.put, List.setIfInBounds_toArray, List.set_cons_zero, List.set_cons_succ])
          refine wpAnyH_take (i := 1) (oi := _) (v := ?_) rfl (by kernel_rfl) (by kernel_rfl) (by kernel_rfl) (fun _ _ _ h => h) (Or.inl ⟨by kernel_rfl, ?_⟩) (by assumption) ?_; rotate_left 1; focus (intro w hSw; (try dsimp only at hSw); go_simp; (try (with_reducible rfl))); (try simp only [Act.put, List.setIfInBounds_toArray, List.set_cons_zero, List.set_cons_succ])
          refine wpAnyH_take (i := 2) (oi := _) (v := ?_) rfl (by kernel_rfl) (by kernel_rfl) (by kernel_rfl) (fun _ _ _ h => h) (Or.inl ⟨by kernel_rfl, ?_⟩) (by assumption) ?_; rotate_left 1; focus (intro w hSw; (try dsimp only at hSw); go_simp; (try (with_reducible rfl))); (try simp only [Act.put, List.setIfInBounds_toArray, List.set_cons_zero, List.set_cons_succ])
          refine wpAnyH_take (i := 3) (oi := _) (v := ?_) rfl (by kernel_rfl) (by kernel_rfl) (by kernel_rfl) (fun _ _ _ h => h) (Or.inl ⟨by kernel_rfl, ?_⟩) (by assumption) ?_; rotate_left 1; focus (intro w hSw; (try dsimp only at hSw); go_simp; (try (with_reducible rfl))); (try simp only [Act.put, List.setIfInBounds_toArray, List.set_cons_zero, List.set_cons_succ])
          refine wpAnyH_take (i := 4) (oi := _) (v := ?_) rfl (by kernel_rfl) (by kernel_rfl) (by kernel_rfl) (fun _ _ _ h => h) (Or.inl ⟨by kernel_rfl, ?_⟩) (by assumption) ?_; rotate_left 1; focus (intro w hSw; (try dsimp only at hSw); go_simp; (try (with_reducible rfl))); (try simp only [Act.put, List.setIfInBounds_toArray, List.set_cons_zero, List.set_cons_succ])
          refine wpAnyH_take (i := 5) (oi := _) (v := ?_) rfl (by kernel_rfl) (by kernel_rfl) (by kernel_rfl) (fun _ _ _ h => h) (Or.inl ⟨by kernel_rfl, ?_⟩) (by assumption) ?_; rotate_left 1; focus (intro w hSw; (try dsimp only at hSw); go_simp; (try (with_reducible rfl))); (try simp only [Act.put, List.setIfInBounds_toArray, List.set_cons_zero, List.set_cons_succ])
          refine wpAnyH_take (i := 6) (oi := _) (v := ?_) rfl (by kernel_rfl) (by kernel_rfl) (by kernel_rfl) (fun _ _ _ h => h) (Or.inl ⟨by kernel_rfl, ?_⟩) (by assumption) ?_; rotate_left 1; focus (intro w hSw; (try dsimp only at hSw); go_simp; (try (with_reducible rfl))); (try simp only [Act.put, List.setIfInBounds_toArray, List.set_cons_zero, List.set_cons_succ])
          refine wpAnyH_take (i := 7) (oi := _) (v := undef) rfl (by kernel_rfl) (by kernel_rfl) (by kernel_rfl) (fun _ _ _ h => h) (Or.inr ⟨by kernel_rfl, rfl⟩) (by assumption) ?_; (try simp only [Act.put, List.setIfInBounds_toArray, List.set_cons_zero, List.set_cons_succ])
          refine wpAnyH_take (i := 8) (oi := _) (v := undef) rfl (by kernel_rfl) (by kernel_rfl) (by kernel_rfl) (fun _ _ _ h => h) (Or.inr ⟨by kernel_rfl, rfl⟩) (by assumption) ?_; (try simp only [Act.put, List.setIfInBounds_toArray, List.set_cons_zero, List.set_cons_succ])
          refine wpAnyH_take (i := 9) (oi := _) (v := undef) rfl (by kernel_rfl) (by kernel_rfl) (by kernel_rfl) (fun _ _ _ h => h) (Or.inr ⟨by kernel_rfl, rfl⟩) (by assumption) ?_; (try simp only [Act.put, List.setIfInBounds_toArray, List.set_cons_zero, List.set_cons_succ])
          refine wpAnyH_take (i := 10) (oi := _) (v := undef) rfl (by kernel_rfl) (by kernel_rfl) (by kernel_rfl) (fun _ _ _ h => h) (Or.inr ⟨by kernel_rfl, rfl⟩) (by assumption) ?_; (try simp only [Act.put, List.setIfInBounds_toArray, List.set_cons_zero, List.set_cons_succ])
          refine wpAnyH_take (i := 11) (oi := _) (v := undef) rfl (by kernel_rfl) (by kernel_rfl) (by kernel_rfl) (fun _ _ _ h => h) (Or.inr ⟨by kernel_rfl, rfl⟩) (by assumption) ?_; (try simp only [Act.put, List.setIfInBounds_toArray, List.set_cons_zero, List.set_cons_succ])
          refine wpAnyH_take (i := 12) (oi := _) (v := ?_) rfl (by kernel_rfl) (by kernel_rfl) (by kernel_rfl) (fun _ _ _ h => h) (Or.inl ⟨by kernel_rfl, ?_⟩) (by assumption) ?_; rotate_left 1; focus (intro w hSw; (try dsimp only at hSw); go_simp; (try (with_reducible rfl))); (try simp only [Act.put, List.setIfInBounds_toArray, List.set_cons_zero, List.set_cons_succ])
          refine wpAnyH_take (i := 13) (oi := _) (v := ?_) rfl (by kernel_rfl) (by kernel_rfl) (by kernel_rfl) (fun _ _ _ h => h) (Or.inl ⟨by kernel_rfl, ?_⟩) (by assumption) ?_; rotate_left 1; focus (intro w hSw; (try dsimp only at hSw); go_simp; (try (with_reducible rfl))); (try simp only [Act.put, List.setIfInBounds_toArray, List.set_cons_zero, List.set_cons_succ])
          refine wpAnyH_take (i := 14) (oi := _) (v := ?_) rfl (by kernel_rfl) (by kernel_rfl) (by kernel_rfl) (fun _ _ _ h => h) (Or.inl ⟨by kernel_rfl, ?_⟩) (by assumption) ?_; rotate_left 1; focus (intro w hSw; (try dsimp only at hSw); go_simp; (try (with_reducible rfl))); (try simp only [Act.put, List.setIfInBounds_toArray, List.set_cons_zero, List.set_cons_succ])
          refine wpAnyH_take (i := 15) (oi := _) (v := ?_) rfl (by kernel_rfl) (by kernel_rfl) (by kernel_rfl) (fun _ _ _ h => h) (Or.inl ⟨by kernel_rfl, ?_⟩) (by assumption) ?_; rotate_left 1; focus (intro w hSw; (try dsimp only at hSw); go_simp; (try (with_reducible rfl))); (try simp only [Act.put, List.setIfInBounds_toArray, List.set_cons_zero, List.set_cons_succ])
          refine wpAnyH_take (i := 16) (oi := _) (v := .agg KK.toArray) rfl (by kernel_rfl) (by kernel_rfl) (by kernel_rfl) (fun _ _ _ h => h) (Or.inl ⟨by kernel_rfl, fun W hSw => run_load_key (N := w.heap.size) W _ _ _ _ _ _ _ (by kernel_rfl) hSw.1 hI⟩) (by assumption) ?_; (try simp only [Act.put, List.setIfInBounds_toArray, List.set_cons_zero, List.set_cons_succ])
          refine wpAnyH_take (i := 17) (oi := _) (v := ?_) rfl (by kernel_rfl) (by kernel_rfl) (by kernel_rfl) (fun _ _ _ h => h) (Or.inl ⟨by kernel_rfl, ?_⟩) (by assumption) ?_; rotate_left 1; focus (intro w hSw; (try dsimp only at hSw); go_simp; (try (with_reducible rfl))); (try simp only [Act.put, List.setIfInBounds_toArray, List.set_cons_zero, List.set_cons_succ])
          refine wpAnyH_take (i := 18) (oi := _) (v := ?_) rfl (by kernel_rfl) (by kernel_rfl) (by kernel_rfl) (fun _ _ _ h => h) (Or.inl ⟨by kernel_rfl, ?_⟩) (by assumption) ?_; rotate_left 1; focus (intro w hSw; (try dsimp only at hSw); go_simp; (try (with_reducible rfl))); (try simp only [Act.put, List.setIfInBounds_toArray, List.set_cons_zero, List.set_cons_succ])
          refine wpAnyH_take (i := 19) (oi := _) (v := ?_) rfl (by kernel_rfl) (by kernel_rfl) (by kernel_rfl) (fun _ _ _ h => h) (Or.inl ⟨by kernel_rfl, ?_⟩) (by assumption) ?_; rotate_left 1; focus (intro w hSw; (try dsimp only at hSw); go_simp; (try (with_reducible rfl))); (try simp only [Act.put, List.setIfInBounds_toArray, List.set_cons_zero, List.set_cons_succ])
          refine wpAnyH_take (i := 20) (oi := _) (v := ?_) rfl (by kernel_rfl) (by kernel_rfl) (by kernel_rfl) (fun _ _ _ h => h) (Or.inl ⟨by kernel_rfl, ?_⟩) (by assumption) ?_; rotate_left 1; focus (intro w hSw; (try dsimp only at hSw); go_simp; (try (with_reducible rfl))); (try simp only [Act.put, List.setIfInBounds_toArray, List.set_cons_zero, List.set_cons_succ])
          refine wpAnyH_take (i := 21) (oi := _) (v := ?_) rfl (by kernel_rfl) (by kernel_rfl) (by kernel_rfl) (fun _ _ _ h => h) (Or.inl ⟨by kernel_rfl, ?_⟩) (by assumption) ?_; rotate_left 1; focus (intro w hSw; (try dsimp only at hSw); go_simp; (try (with_reducible rfl))); (try simp only [Act.put, List.setIfInBounds_toArray, List.set_cons_zero, List.set_cons_succ])
          refine wpAnyH_take (i := 22) (oi := _) (v := ?_) rfl (by kernel_rfl) (by kernel_rfl) (by kernel_rfl) (fun _ _ _ h => h) (Or.inl ⟨by kernel_rfl, ?_⟩) (by assumption) ?_; rotate_left 1; focus (intro w hSw; (try dsimp only at hSw); go_simp; (try (with_reducible rfl))); (try simp only [Act.put, List.setIfInBounds_toArray, List.set_cons_zero, List.set_cons_succ])
          refine wpAnyH_take (i := 24) (oi := _) (v := ?_) rfl (by kernel_rfl) (by kernel_rfl) (by kernel_rfl) (fun _ _ _ h => h) (Or.inl ⟨by kernel_rfl, ?_⟩) (by assumption) ?_; rotate_left 1; focus (intro w hSw; (try dsimp only at hSw); go_simp; (try (with_reducible rfl))); (try simp only [Act.put, List.setIfInBounds_toArray, List.set_cons_zero, List.set_cons_succ])
          refine wpAnyH_take (i := 25) (oi := _) (v := ?_) rfl (by kernel_rfl) (by kernel_rfl) (by kernel_rfl) (fun _ _ _ h => h) (Or.inl ⟨by kernel_rfl, ?_⟩) (by assumption) ?_; rotate_left 1; focus (intro w hSw; (try dsimp only at hSw); go_simp; (try (with_reducible rfl))); (try simp only [Act.put, List.setIfInBounds_toArray, List.set_cons_zero, List.set_cons_succ])
          refine wpAnyH_take (i := 26) (oi := _) (v := ?_) rfl (by kernel_rfl) (by kernel_rfl) (by kernel_rfl) (fun _ _ _ h => h) (Or.inl ⟨by kernel_rfl, ?_⟩) (by assumption) ?_; rotate_left 1; focus (intro w hSw; (try dsimp only at hSw); go_simp; (try (with_reducible rfl))); (try simp only [Act.put, List.setIfInBounds_toArray, List.set_cons_zero, List.set_cons_succ])
          refine wpAnyH_take (i := 27) (oi := _) (v := ?_) rfl (by kernel_rfl) (by kernel_rfl) (by kernel_rfl) (fun _ _ _ h => h) (Or.inl ⟨by kernel_rfl, ?_⟩) (by assumption) ?_; rotate_left 1; focus (intro w hSw; (try dsimp only at hSw); go_simp; (try (with_reducible rfl))); (try simp only [Act.put, List.setIfInBounds_toArray, List.set_cons_zero, List.set_cons_succ])
          refine wpAnyH_ready (rs := [23]) (by kernel_rfl) (by simp) ?_
          refine AllReadyH.cons (o := _) rfl ?_ AllReadyH.nil
          intro K hK
          rw [if_pos (show Region.wanted _ _ = true by kernel_rfl)]
          go_simp
          go_at_call 76
          refine (CN _).mono ?_
          rintro e w2 ⟨rfl, hb⟩
          have hcall := asS_call hHeld hb
          clear hb
          dsimp only
          refine hK.out _ _ (S0 _ hcall) (fun hHeld => ?_)
          clear hK K
          refine wpAnyH_take (i := 28) (oi := _) (v := ?_) rfl (by kernel_rfl) (by kernel_rfl) (by kernel_rfl) (fun _ _ _ h => h) (Or.inl ⟨by kernel_rfl, ?_⟩) (by assumption) ?_; rotate_left 1; focus (intro w hSw; (try dsimp only at hSw); go_simp; (try (with_reducible rfl))); (try simp only [Act.put, List.setIfInBounds_toArray, List.set_cons_zero, List.set_cons_succ])
          refine wpAnyH_take (i := 29) (oi := _) (v := ?_) rfl (by kernel_rfl) (by kernel_rfl) (by kernel_rfl) (fun _ _ _ h => h) (Or.inl ⟨by kernel_rfl, ?_⟩) (by assumption) ?_; rotate_left 1; focus (intro w hSw; (try dsimp only at hSw); go_simp; (try (with_reducible rfl))); (try simp only [Act.put, List.setIfInBounds_toArray, List.set_cons_zero, List.set_cons_succ])
          refine wpAnyH_done (by kernel_rfl) ?_ _
          refine NoPanic.normal ?_
          by_cases hNR : Nn = R
          · have hnr1 : (Nn == R) = true := by simp [hNR]
            have hnr2 : (Nn != R) = false := by simp [hNR]
            have hrgx : w2.rangeAt w.heap.size 0 L2 := (rangeAt_below hrg hcall (by have := HA4.out.siz; omega))
            have htx : w2.there (w.heap.size + 1) 0 L2.toArray.size := HSZ.out ▸ (HA4.out.step hcall).there
            obtain ⟨W8, hW8, hr8, hb8, hk8⟩ : ∃ W8, w2.setCells (w.heap.size + 1) 0 L2 = W8 ∧ W8.rangeAt (w.heap.size + 1) 0 L2 ∧ Below w.heap.size w W8 ∧ ∀ k, k ≠ w.heap.size + 1 → W8.heap[k]? = w2.heap[k]? :=
              ⟨_, rfl, World.rangeAt_setCells_same _ _ _ L2 (HL28.out ▸ (HA4.out.step hcall).there), below_setCells _ (by omega) _ _ _ (HA4.out.step hcall).bel, fun k hk => heap_setCells_ne _ _ hk _ _ _⟩
            have HW8 := Lib.hid hW8
            clear hW8
            go_wp2_with (first
              | (refine wpList_load_mid rfl 39 (.tmp 3) rfl w.heap.size 0 rfl L2 _ hrgx Try.underlying39 rfl hi3 ?_)
              | (refine wpList_store_mid rfl 39 (.tmp 6) (.tmp 93) rfl (w.heap.size + 1) 0 L2.toArray rfl rfl htx hi4 (all_oneCell_toArray hone) ?_; rw [List.toList_toArray, HW8.out]))
            refine bodyPost_ret (v := .tuple #[.agg L2.toArray, .bool true]) (results_mid2 Try.results43 _ _ (w.heap.size + 1) L2 _ _ rfl rfl hr8 Try.underlying39 rfl hi3) rfl ?_
            rw [HSS.out]
            refine ⟨_, ?_, ownsRow_mono (owns_move (ownsRow_below HO4.out hcall) (fun k hk _ => hk8 k (by omega))) (by omega), hb8⟩
            show Ending.returned (.tuple #[.agg L2.toArray, .bool true]) = Ending.returned (.tuple #[.agg ((b.after r x).cells (.slice pa b.co.length pc)).toArray, .bool (askP b r x fs)])
            rw [HLL.out]
            exact congrArg (fun z => Ending.returned (.tuple #[.agg L2.toArray, .bool z])) ((by rw [HP.out, if_neg (fun h => h.elim (fun h => absurd h (by omega)) (fun h => h.elim (fun h => absurd h.1 (by have := HZ.out; omega)) (fun h => h hNR)))]; simp [HX0.out]))
          · have hnr1 : (Nn == R) = false := by simp [hNR]
            have hnr2 : (Nn != R) = true := by simp [hNR]
            have hrgx : w2.rangeAt w.heap.size 0 L2 := (rangeAt_below hrg hcall (by have := HA4.out.siz; omega))
            have htx : w2.there (w.heap.size + 1) 0 L2.toArray.size := HSZ.out ▸ (HA4.out.step hcall).there
            obtain ⟨W8, hW8, hr8, hb8, hk8⟩ : ∃ W8, w2.setCells (w.heap.size + 1) 0 L2 = W8 ∧ W8.rangeAt (w.heap.size + 1) 0 L2 ∧ Below w.heap.size w W8 ∧ ∀ k, k ≠ w.heap.size + 1 → W8.heap[k]? = w2.heap[k]? :=
              ⟨_, rfl, World.rangeAt_setCells_same _ _ _ L2 (HL28.out ▸ (HA4.out.step hcall).there), below_setCells _ (by omega) _ _ _ (HA4.out.step hcall).bel, fun k hk => heap_setCells_ne _ _ hk _ _ _⟩
            have HW8 := Lib.hid hW8
            clear hW8
            go_wp2_with (first
              | (refine wpList_load_mid rfl 39 (.tmp 3) rfl w.heap.size 0 rfl L2 _ hrgx Try.underlying39 rfl hi3 ?_)
              | (refine wpList_store_mid rfl 39 (.tmp 6) (.tmp 90) rfl (w.heap.size + 1) 0 L2.toArray rfl rfl htx hi4 (all_oneCell_toArray hone) ?_; rw [List.toList_toArray, HW8.out]))
            refine bodyPost_ret (v := .tuple #[.agg L2.toArray, .bool false]) (results_mid2 Try.results43 _ _ (w.heap.size + 1) L2 _ _ rfl rfl hr8 Try.underlying39 rfl hi3) rfl ?_
            rw [HSS.out]
            refine ⟨_, ?_, ownsRow_mono (owns_move (ownsRow_below HO4.out hcall) (fun k hk _ => hk8 k (by omega))) (by omega), hb8⟩
            show Ending.returned (.tuple #[.agg L2.toArray, .bool false]) = Ending.returned (.tuple #[.agg ((b.after r x).cells (.slice pa b.co.length pc)).toArray, .bool (askP b r x fs)])
            rw [HLL.out]
            exact congrArg (fun z => Ending.returned (.tuple #[.agg L2.toArray, .bool z])) (by rw [HP.out, if_pos (.inr (.inr hNR))])
end Go.Proofs.Ytpnfghpcpjpppaa
