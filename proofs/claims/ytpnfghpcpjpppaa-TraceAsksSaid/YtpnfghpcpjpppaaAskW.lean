/- trace.ask. -/
import Derived.Test.YtpnfghpcpjpppaaPlays
import Derived.BigQuiet
import Derived.Deep.RegionHeld3
namespace Go.Proofs.Ytpnfghpcpjpppaa
open Go.RowKit
set_option linter.unusedVariables false
set_option linter.unusedSimpArgs false

/-- One item of a query: what the box has seen (right, wrong, first). -/
def askStep (f : Int) (s : Int × Int × Bool) (i : Nat) (is : Bool) : Int × Int × Bool :=
  if is = true then (if (i : Int) < f then (s.1, s.2.1 + 1, s.2.2) else (s.1 + 1, s.2.1, s.2.2 || decide (s.2.1 + s.1 = 0))) else s
def askTo (f : Int) (os : List Bool) : Nat → Int × Int × Bool
  | 0 => (0, 0, false)
  | j + 1 => askStep f (askTo f os j) j (os.getD j false)
theorem askTo_bd (f : Int) (os : List Bool) : ∀ j : Nat, 0 ≤ (askTo f os j).1 ∧ 0 ≤ (askTo f os j).2.1 ∧ (askTo f os j).1 + (askTo f os j).2.1 ≤ j
  | 0 => ⟨Int.le_refl _, Int.le_refl _, Int.le_refl _⟩
  | j + 1 => by
    obtain ⟨h1, h2, h3⟩ := askTo_bd f os j
    unfold askTo askStep
    split
    · split
      · dsimp only; omega
      · dsimp only; omega
    · omega

/-- A box block. -/
def BoxAt (w : World) (B : Nat) (b : Bx) (v : Value) : Prop := w.heap[B]? = some (.cells (b.cells v).toArray 39 (0, 0))
theorem BoxAt.below {w w' : World} {B N : Nat} {b : Bx} {v : Value} (h : BoxAt w B b v) (hb : Below N w w') (hN : B < N) : BoxAt w' B b v := (hb.block B hN).trans h
theorem BoxAt.lt {w : World} {B : Nat} {b : Bx} {v : Value} (h : BoxAt w B b v) : B < w.heap.size := (Array.getElem?_eq_some_iff.1 h).1
theorem BoxAt.range {w : World} {B : Nat} {b : Bx} {v : Value} (h : BoxAt w B b v) : w.rangeAt B 0 (b.cells v) := fun j u hu => by
  have hj : j < (b.cells v).length := (List.getElem?_eq_some_iff.1 hu).1
  rw [cell_of_row w B (0 + j) _ _ _ h, Nat.zero_add]
  simpa using hu
theorem BoxAt.facts {w : World} {B : Nat} {b : Bx} {v : Value} (h : BoxAt w B b v) (h16 : b.seed.length = 16) :
    w.cell? ⟨B, 3 + 4, none⟩ = some (.int .u8 b.mode) ∧ w.cell? ⟨B, 8, none⟩ = some (.int .i64 b.noise) ∧ w.cell? ⟨B, 9, none⟩ = some (.int .i64 b.lives) ∧
    w.cell? ⟨B, 26, none⟩ = some (.int .i64 b.asked) ∧ w.cell? ⟨B, 27, none⟩ = some (.int .i64 b.mixed) ∧ w.rangeAt B 10 (keyL b.seed) ∧ (∀ o, w.frozen? ⟨B, o, none⟩ = false) := by
  have hr := h.range
  have hl := (keyL_len b.seed).trans h16
  have key : ∀ j u, (b.cells v)[j]? = some u → w.cell? ⟨B, j, none⟩ = some u := fun j u hu => by
    have := hr j u hu
    rwa [Nat.zero_add] at this
  refine ⟨key 7 _ rfl, key 8 _ rfl, key 9 _ rfl, key 26 _ ?_, key 27 _ ?_, fun j u hu => key _ _ ?_, fun o => ?_⟩
  · unfold Bx.cells; rw [List.getElem?_append_right (by simp [hl])]; simp [hl]
  · unfold Bx.cells; rw [List.getElem?_append_right (by simp [hl])]; simp [hl]
  · have hj : j < 16 := by have := (List.getElem?_eq_some_iff.1 hu).1; omega
    unfold Bx.cells
    rw [List.append_assoc, List.getElem?_append_right (by simp), List.getElem?_append_left (by simp [hl]; omega)]
    simpa using hu
  · unfold BoxAt at h
    simp [World.frozen?, h]

theorem BoxAt.drew {w : World} {B : Nat} {b : Bx} {v : Value} (h : BoxAt w B b v) : BoxAt w.drew B b v := h
theorem heap_set_row {w : World} {B i : Nat} {C : Array Value} {T : TypeId} {fr : Nat × Nat} (h : w.heap[B]? = some (.cells C T fr)) (u : Value) : (w.setCell ⟨B, i, none⟩ u).heap[B]? = some (.cells (C.setIfInBounds i u) T fr) := by
  simp only [World.setCell, Array.getElem?_modify, h]
  simp
theorem BoxAt.set26 {w : World} {B : Nat} {b : Bx} {v : Value} (h : BoxAt w B b v) (h16 : b.seed.length = 16) (n : Int) : BoxAt (w.setCell ⟨B, 26, none⟩ (.int .i64 n)) B { b with asked := n } v := by
  have := heap_set_row (i := 26) h (.int .i64 n)
  unfold BoxAt
  rw [this]
  obtain ⟨⟨k, d, g, p, q, r⟩, co, mode, noise, lives, seed, asked, mixed⟩ := b
  obtain ⟨a0, a1, a2, a3, a4, a5, a6, a7, a8, a9, a10, a11, a12, a13, a14, a15, rfl⟩ := len16i h16
  rfl
theorem BoxAt.set27 {w : World} {B : Nat} {b : Bx} {v : Value} (h : BoxAt w B b v) (h16 : b.seed.length = 16) (n : Int) : BoxAt (w.setCell ⟨B, 27, none⟩ (.int .i64 n)) B { b with mixed := n } v := by
  have := heap_set_row (i := 27) h (.int .i64 n)
  unfold BoxAt
  rw [this]
  obtain ⟨⟨k, d, g, p, q, r⟩, co, mode, noise, lives, seed, asked, mixed⟩ := b
  obtain ⟨a0, a1, a2, a3, a4, a5, a6, a7, a8, a9, a10, a11, a12, a13, a14, a15, rfl⟩ := len16i h16
  rfl

/-- The world of a walk is named. -/
theorem wp_world {P : Program} {C : Code} {Q : Exit → Act → World → Prop} {a : Act} {w : World} (h : ∀ W, w = W → C.wp P Q a W) : C.wp P Q a w := h w rfl

/-- The box after a query. -/
def Bx.after (b : Bx) (r x : Int) : Bx := { b with asked := b.asked + 1, mixed := if 0 < r ∧ 0 < x then b.mixed + 1 else b.mixed }
/-- Does it play? -/
def askP (b : Bx) (r x : Int) (f : Bool) : Bool :=
  if r = 0 ∨ (0 < b.lives ∧ b.lives < (b.after r x).mixed) ∨ numberV b.seed (b.asked / (b.noise + 1)) (b.noise + 1) ≠ b.asked % (b.noise + 1) then false else decide (x = 0) || playsV b.mode b.seed r x f

/-- All blocks but one stand. -/
structure But (B : Nat) (w w' : World) : Prop where
  os : w'.os = w.os
  tape : w'.tape = w.tape
  output : w'.output = w.output
  size : w.heap.size ≤ w'.heap.size
  block : ∀ k, k < w.heap.size → k ≠ B → w'.heap[k]? = w.heap[k]?

/-- What holds of the worlds of ask's region that asks for a number. -/
abbrev askS (B N : Nat) (K : List Value) (W w' : World) : Prop := w'.rangeAt B 10 K ∧ Below N W w' ∧ N ≤ w'.heap.size
theorem askS_call {B N : Nat} {K : List Value} {W w' w1 : World} (h : askS B N K W w') (hB : B < N) (hb : Below w'.heap.size w' w1) : askS B N K W w1 := by
  obtain ⟨h1, h2, h3⟩ := h
  have hs := hb.size
  exact ⟨rangeAt_below h1 hb (by omega), h2.trans (hb.mono h3), by omega⟩
theorem askS_drew {B N : Nat} {K : List Value} {W w' : World} (h : askS B N K W w') : askS B N K W w'.drew :=
  ⟨(World.rangeAt_drew _ _ _ _).2 h.1, h.2.1.drew, h.2.2⟩
theorem askS_start {B N n : Nat} {K : List Value} {W : World} (h : W.rangeAt B 10 K) (hB : B < N) (hN : N ≤ W.heap.size) : askS B N K W (W.drewN n) := by
  have hb : Below N W (W.drewN n) := below_drewN n (Below.refl _ _)
  exact ⟨rangeAt_below h hb hB, hb, Nat.le_trans hN hb.size⟩

theorem But.of_below {B : Nat} {w w' : World} (h : Below w.heap.size w w') : But B w w' := ⟨h.os, h.tape, h.output, h.size, fun k hk _ => h.block k hk⟩
theorem But.drew {B : Nat} {w w' : World} (h : But B w w') : But B w w'.drew := ⟨h.os, h.tape, h.output, h.size, h.block⟩
theorem But.setCell {B : Nat} {w w' : World} (h : But B w w') (i : Nat) (u : Value) : But B w (w'.setCell ⟨B, i, none⟩ u) :=
  ⟨h.os, h.tape, h.output, by simpa [World.setCell] using h.size, fun k hk hne => (Below.heap_setCell _ _ _ _ hne).trans (h.block k hk hne)⟩
theorem But.then {B N : Nat} {w w' w2 : World} (h : But B w w') (hb : Below N w' w2) (hN : w.heap.size ≤ N) : But B w w2 :=
  ⟨hb.os.trans h.os, hb.tape.trans h.tape, hb.output.trans h.output, Nat.le_trans h.size hb.size, fun k hk hne => (hb.block k (Nat.lt_of_lt_of_le hk hN)).trans (h.block k hk hne)⟩

theorem But.drewN {B : Nat} {w w' : World} (h : But B w w') (n : Nat) : But B w (w'.drewN n) := ⟨h.os, h.tape, h.output, h.size, h.block⟩
theorem BoxAt.drewN {w : World} {B : Nat} {b : Bx} {v : Value} (h : BoxAt w B b v) (n : Nat) : BoxAt (w.drewN n) B b v := h

/-- What holds of the worlds of ask's region that plays. -/
abbrev playS (B N : Nat) (L : List Value) (r x : Int) (f : Bool) (W w' : World) : Prop :=
  w'.rangeAt B 0 L ∧ w'.cell? ⟨N, 0, none⟩ = some (.int .i64 r) ∧ w'.cell? ⟨N, 1, none⟩ = some (.int .i64 x) ∧ w'.cell? ⟨N, 2, none⟩ = some (.bool f) ∧ Below (N + 1) W w' ∧ N + 1 ≤ w'.heap.size
theorem playS_start {B N : Nat} {b : Bx} {v : Value} {r x : Int} {f : Bool} {W : World} (h : BoxAt W B b v) (z0 : W.cell? ⟨N, 0, none⟩ = some (.int .i64 r)) (z1 : W.cell? ⟨N, 1, none⟩ = some (.int .i64 x)) (z2 : W.cell? ⟨N, 2, none⟩ = some (.bool f)) (hN : N + 1 ≤ W.heap.size) : playS B N (b.cells v) r x f W W :=
  ⟨h.range, z0, z1, z2, Below.refl _ _, hN⟩
theorem playS_drew {B N : Nat} {L : List Value} {r x : Int} {f : Bool} {W w' : World} (h : playS B N L r x f W w') : playS B N L r x f W w'.drew :=
  ⟨(World.rangeAt_drew _ _ _ _).2 h.1, h.2.1, h.2.2.1, h.2.2.2.1, h.2.2.2.2.1.drew, h.2.2.2.2.2⟩
theorem playS_call {B N : Nat} {L : List Value} {r x : Int} {f : Bool} {W w' w1 : World} (h : playS B N L r x f W w') (hB : B < N) (hb : Below w'.heap.size w' w1) : playS B N L r x f W w1 := by
  obtain ⟨h1, h2, h3, h4, h5, h6⟩ := h
  have hs := hb.size
  exact ⟨rangeAt_below h1 hb (by omega), (hb.cell (p := ⟨N, 0, none⟩) (by show N < _; omega)).trans h2, (hb.cell (p := ⟨N, 1, none⟩) (by show N < _; omega)).trans h3, (hb.cell (p := ⟨N, 2, none⟩) (by show N < _; omega)).trans h4, h5.trans (hb.mono h6), by omega⟩
theorem Bx.cells_one (b : Bx) {v : Value} (hv : v.oneCell' = true) : ∀ u ∈ b.cells v, u.oneCell' = true := by
  intro u hu
  unfold Bx.cells at hu
  rcases List.mem_append.1 hu with hu | hu
  · rcases List.mem_append.1 hu with hu | hu
    · simp only [List.mem_cons, List.not_mem_nil, or_false] at hu
      rcases hu with rfl | rfl | rfl | rfl | rfl | rfl | rfl | rfl | rfl | rfl <;> first | exact hv | rfl
    · exact one8_keyL _ u hu
  · simp only [List.mem_cons, List.not_mem_nil, or_false] at hu
    rcases hu with rfl | rfl <;> rfl
/-- The first n cells of a block. -/
def cellsAt (w : World) (B n : Nat) : List Value := (List.range n).map fun j => (w.cell? ⟨B, j, none⟩).getD undef
theorem cellsAt_of {w : World} {B n : Nat} {L : List Value} (hn : L.length = n) (h : w.rangeAt B 0 L) : cellsAt w B n = L := by
  unfold cellsAt
  apply List.ext_getElem?
  intro j
  rw [List.getElem?_map]
  by_cases hj : j < n
  · have := h j _ (List.getElem?_eq_getElem (by omega))
    rw [Nat.zero_add] at this
    rw [List.getElem?_range hj, Option.map_some, this, List.getElem?_eq_getElem (by omega)]
    rfl
  · rw [List.getElem?_eq_none (by simp; omega), List.getElem?_eq_none (by omega)]
    rfl
def hasBox (w : World) (B : Nat) : Prop := ∃ L : List Value, L.length = 28 ∧ w.rangeAt B 0 L
theorem info39 : (Try.prog.info? 39).map (·.size) = some 28 := by kernel_rfl

/-- A box that a pointer points to. -/
def hasBoxV (w : World) (p : Value) : Prop := ∃ B, p = .pointer (some ⟨B, 0, none⟩) ∧ hasBox w B
def boxV (w : World) : Value → Value
  | .pointer (some ad) => .agg (cellsAt w ad.block 28).toArray
  | _ => undef
theorem run_load_box (dst : Option Tmp) (x : Operand) (ty : TypeId) (pos : String) (after : Array Edge) (g : Option (Tmp × Bool)) (a : Act) (w : World) (h : hasBoxV w (a.eval x)) :
    (execOp a.eval ⟨dst, .load 39 x, ty, pos, after, g⟩).run Try.prog w = .ok (.value (boxV w (a.eval x))) w := by
  obtain ⟨B, hp, L, hl, hr⟩ := h
  unfold execOp
  simp only [hp, boxV, Instr.loadAt, Instr.sureAddr, Sem.run_bind, Sem.run_pure, Result.andThen_ok]
  rw [cellsAt_of hl hr, run_loadVar_mid w B 0 39 L _ hr Try.underlying39 rfl (hl ▸ info39)]
  rfl
attribute [local go_sem ↓] run_load_box

set_option maxRecDepth 20000 in
set_option maxHeartbeats 2000000 in
theorem ask_any (B : Nat) (b : Bx) (v vo : Value) (os : List Bool) (f : Int) (w : World) (h16 : b.seed.length = 16) (hn : b.nums) (ha : b.asked < 100000) (hv1 : v.oneCell' = true) (hbox : BoxAt w B b v) (ho : Bools w vo os) (hl : os.length ≤ 64) (f0 : 0 ≤ f) (f1 : f ≤ 64) :
    Calls Try.prog 40 #[.pointer (some ⟨B, 0, none⟩), vo, .int .i64 f] w fun e w' =>
      e = .returned (.bool (askP b (askTo f os os.length).1 (askTo f os os.length).2.1 (askTo f os os.length).2.2)) ∧ BoxAt w' B (b.after (askTo f os os.length).1 (askTo f os os.length).2.1) v ∧ But B w w' := by
  obtain ⟨a, cap, rfl, hcap, hmax, -, hcell⟩ := reads1_open ho
  clear ho
  unfold maxLen at hmax
  have HC := Lib.hid hcell
  clear hcell
  have hBw := hbox.lt
  have HX := Lib.hid hbox
  clear hbox
  go_enter Try.func40, Try.ntmps40
  go_wp2_with fail
  obtain ⟨W1, hW1⟩ : ∃ W1, w.alloc (.cells #[.int .i64 0, .int .i64 0, .bool false] 130) = W1 := ⟨_, rfl⟩
  have hB1 : Below w.heap.size w W1 := by rw [← hW1]; exact (Below.refl _ _).alloc (Nat.le_refl _) _
  have hs1 : w.heap.size + 1 = W1.heap.size := by rw [← hW1]; simp
  have v0 : W1.cell? ⟨w.heap.size, 0, none⟩ = some (.int .i64 0) := by rw [← hW1]; simp [go_sem]
  have v1 : W1.cell? ⟨w.heap.size, 1, none⟩ = some (.int .i64 0) := by rw [← hW1]; simp [go_sem]
  have v2 : W1.cell? ⟨w.heap.size, 2, none⟩ = some (.bool false) := by rw [← hW1]; simp [go_sem]
  have vf : ∀ o, W1.frozen? ⟨w.heap.size, o, none⟩ = false := fun o => by rw [← hW1]; simp [go_sem]
  rw [hW1]
  clear hW1
  go_loopw [16] (fun i wr => ∃ j : Nat, j ≤ os.length ∧ i = .int .i64 j ∧ Below w.heap.size w wr ∧ wr.heap.size = w.heap.size + 1 ∧
      wr.cell? ⟨w.heap.size, 0, none⟩ = some (.int .i64 (askTo f os j).1) ∧ wr.cell? ⟨w.heap.size, 1, none⟩ = some (.int .i64 (askTo f os j).2.1) ∧ wr.cell? ⟨w.heap.size, 2, none⟩ = some (.bool (askTo f os j).2.2) ∧ (∀ o, wr.frozen? ⟨w.heap.size, o, none⟩ = false))
    (fun i _ => os.length - (intOf i).toNat)
  case atStart => exact ⟨0, Nat.zero_le _, rfl, hB1, hs1.symm, v0, v1, v2, vf⟩
  case round =>
    obtain ⟨j, hj, rfl, hB, hsz, y0, y1, y2, yf⟩ := hrel
    obtain ⟨b0, b1, b2⟩ := askTo_bd f os j
    by_cases hlt : j < os.length
    · obtain ⟨g, off, rfl, e0⟩ := HC.out j hlt
      have e0r := (hB.cell (p := ⟨g, off + j, none⟩) (cell_lt' e0)).trans e0
      rw [show (List.map Value.bool os).getD j undef = .bool (os.getD j false) from by simp [List.getD, hlt]] at e0r
      clear e0
      have hsucc : askTo f os (j + 1) = askStep f (askTo f os j) j (os.getD j false) := rfl
      have HS := Lib.hid hsucc
      clear hsucc HC
      generalize askTo f os j = s at *
      obtain ⟨r, x, fs⟩ := s
      dsimp only at *
      cases hi : os.getD j false with
      | false =>
        rw [hi] at e0r
        have HI := Lib.hid hi
        clear hi
        go_wp2_with fail
        go_roundw
        case rel =>
          refine ⟨j + 1, hlt, by go_num, hB, hsz, ?_⟩
          rw [HS.out, HI.out]
          exact ⟨y0, y1, y2, yf⟩
        case measure => simp [intOf]; omega
      | true =>
        rw [hi] at e0r
        have HI := Lib.hid hi
        clear hi
        by_cases hf : (j : Int) < f
        · have hH : askTo f os (j + 1) = (r, x + 1, fs) := by rw [HS.out, HI.out]; unfold askStep; rw [if_pos rfl, if_pos hf]
          have HH := Lib.hid hH
          clear hH HI HS
          go_wp2_with fail
          go_roundw
          case rel =>
            refine ⟨j + 1, hlt, by go_num, hB.setCell (Nat.le_refl _) _, by simp [hsz], ?_⟩
            rw [HH.out]
            refine ⟨?_, ?_, ?_, ?_⟩ <;> simp [go_sem, y0, y1, y2, yf]
          case measure => simp [intOf]; omega
        · have hH : askTo f os (j + 1) = (r + 1, x, fs || decide (x + r = 0)) := by rw [HS.out, HI.out]; unfold askStep; rw [if_pos rfl, if_neg hf]
          have HH := Lib.hid hH
          clear hH HI HS
          go_wp2_with fail
          all_goals
            go_roundw
            case rel =>
              refine ⟨j + 1, hlt, by go_num, (hB.setCell (Nat.le_refl _) _).setCell (Nat.le_refl _) _, by simp [hsz], ?_⟩
              rw [HH.out]
              refine ⟨?_, ?_, ?_, ?_⟩ <;> (try simp [go_sem, y0, y1, y2, yf, *]) <;> (try rfl)
            case measure => simp [intOf]; omega
    · obtain rfl : j = os.length := by omega
      clear HC
      generalize hSS : askTo f os os.length = s at *
      obtain ⟨r, x, fs⟩ := s
      have HSS := Lib.hid hSS
      clear hSS
      dsimp only at b0 b1 b2 y0 y1 y2
      have hB1 := HX.out.below hB hBw
      obtain ⟨c7, c8, c9, c26, c27, ck, cf⟩ := hB1.facts h16
      have HR := Lib.hid ck
      have HX1 := Lib.hid hB1
      clear ck hB1 v0 v1 v2 vf
      have n0 : 0 ≤ b.noise ∧ b.noise ≤ 8 := ⟨hn.2.2.1, hn.2.2.2.1⟩
      have l0 : 0 ≤ b.lives ∧ b.lives ≤ 8 := ⟨hn.2.2.2.2.1, hn.2.2.2.2.2.1⟩
      have a0 : 0 ≤ b.asked := hn.2.2.2.2.2.2.1
      have x0 : 0 ≤ b.mixed ∧ b.mixed ≤ b.asked := ⟨hn.2.2.2.2.2.2.2.2.1, hn.2.2.2.2.2.2.2.2.2⟩
      have hBn : ¬ B = w.heap.size := by omega
      have hBn2 : ¬ w.heap.size = B := by omega
      go_wp2_with fail
      go_region
      have hmc : (0 < r ∧ 0 < x) ∨ r = 0 ∨ (0 < r ∧ x = 0) := by omega
      rcases hmc with ⟨hm1, hm2⟩ | hm1 | ⟨hm1, hm2⟩
      · have hr1 : (r == 0) = false := by simp; omega
        have hx1 : (x == 0) = false := by simp; omega
        go_wp2_with fail
        refine wp_world ?_
        intro W4 hW4
        have hX4 : BoxAt W4 B (b.after r x) v := by
          rw [← hW4]
          have := ((HX1.out.set26 h16 (b.asked + 1)).set27 h16 (b.mixed + 1)).drew
          unfold Bx.after
          rw [if_pos ⟨hm1, hm2⟩]
          exact this
        have y04 : W4.cell? ⟨w.heap.size, 0, none⟩ = some (.int .i64 r) := by rw [← hW4]; simp [go_sem, y0, hBn]
        have y14 : W4.cell? ⟨w.heap.size, 1, none⟩ = some (.int .i64 x) := by rw [← hW4]; simp [go_sem, y1, hBn]
        have y24 : W4.cell? ⟨w.heap.size, 2, none⟩ = some (.bool fs) := by rw [← hW4]; simp [go_sem, y2, hBn]
        have hs4 : W4.heap.size = w.heap.size + 1 := by rw [← hW4]; simp [hsz]
        have hbut : But B w W4 := by rw [← hW4]; exact (((But.of_below hB).setCell _ _).setCell _ _).drew
        clear hW4
        clear y0 y1 y2 yf c7 c8 c9 c26 c27 cf HR HX1 hB hsz
        have hM0 : 0 ≤ (b.after r x).mixed ∧ (b.after r x).mixed ≤ b.mixed + 1 := (by unfold Bx.after; dsimp only; split <;> omega)
        obtain ⟨q7, q8, q9, q26, d27, qk, df⟩ := hX4.facts h16
        have d9 : W4.cell? ⟨B, 9, none⟩ = some (.int .i64 b.lives) := q9
        have dk : W4.rangeAt B 10 (keyL b.seed) := qk
        have HK := Lib.hid dk
        have HX4 := Lib.hid hX4
        have HU := Lib.hid hbut
        have HP : Hid (askP b r x fs = if r = 0 ∨ (0 < b.lives ∧ b.lives < (b.after r x).mixed) ∨ numberV b.seed (b.asked / (b.noise + 1)) (b.noise + 1) ≠ b.asked % (b.noise + 1) then false else decide (x = 0) || playsV b.mode b.seed r x fs) := rfl
        clear q7 q8 q9 q26 qk dk hX4 hbut
        generalize (b.after r x).mixed = M at *
        have CN := fun W => Number_any b.seed (b.asked / (b.noise + 1)) (b.noise + 1) W h16 (Int.ediv_nonneg a0 (by omega)) (Int.le_trans (Int.ediv_le_self _ a0) (by omega)) (by omega) (by omega)
        have hqt : Int.tdiv b.asked (b.noise + 1) = b.asked / (b.noise + 1) := Int.tdiv_eq_ediv_of_nonneg a0
        have hrt : Int.tmod b.asked (b.noise + 1) = b.asked % (b.noise + 1) := Int.tmod_eq_emod_of_nonneg a0
        have hQ : 0 ≤ b.asked / (b.noise + 1) ∧ b.asked / (b.noise + 1) ≤ 100000 := ⟨Int.ediv_nonneg a0 (by omega), Int.le_trans (Int.ediv_le_self _ a0) (by omega)⟩
        have hR : 0 ≤ b.asked % (b.noise + 1) ∧ b.asked % (b.noise + 1) < b.noise + 1 := ⟨Int.emod_nonneg _ (by omega), Int.emod_lt_of_pos _ (by omega)⟩
        obtain ⟨hQ0, hQ1⟩ := hQ
        obtain ⟨hR0, hR1⟩ := hR
        generalize b.asked / (b.noise + 1) = Q at *
        generalize b.asked % (b.noise + 1) = R at *
        generalize numberV b.seed Q (b.noise + 1) = Nn at *
        have HL := Lib.hid ((keyL_len b.seed).trans h16)
        unfold keyV at CN
        generalize keyL b.seed = KK at *
        have hI := HL.out ▸ infoK
        have hU : Try.prog.underlying 37 = some (.array 16 5) := by kernel_rfl
        have hne1 : (b.noise + 1 == 0) = false := (by simp; omega)
        have hne2 : ¬ (b.noise + 1 = 0) := (by omega)
        have hwQ : IntKind.i64.wrap Q = Q := IntWalk.i64_in _ (by omega)
        have hwR : IntKind.i64.wrap R = R := IntWalk.i64_in _ (by omega)
        have huQ : IntKind.u64.wrap Q = Q := (by simp [IntKind.wrap, IntKind.bits, IntKind.signed]; omega)
        have huR : IntKind.u64.wrap R = R := (by simp [IntKind.wrap, IntKind.bits, IntKind.signed]; omega)
        have huN : IntKind.u64.wrap (b.noise + 1) = b.noise + 1 := (by simp [IntKind.wrap, IntKind.bits, IntKind.signed]; omega)
        have hdz : 0 < b.lives ∨ b.lives = 0 := (by omega)
        rcases hdz with hd | hz
        · have hdd : decide (0 < b.lives) = true := decide_eq_true hd
          go_quiet (fail)
          go_wp2_with fail
          have S0 := askS_start (n := nq) HK.out (N := w.heap.size + 1) (by omega) (by omega)
          go_region_held3 (fun w' => askS B (w.heap.size + 1) KK W4 w') (first | exact askS_drew S0 | exact hcall)
            (first
              | (go_at_call 70; refine (CN _).mono ?_; rintro e w2 ⟨rfl, hb⟩; have hcall := askS_call (by assumption) (by omega) hb; clear hb))
          rename_i w2 hcall hHeld
          have hb4 := hHeld.2.1
          have hz4 := hHeld.2.2
          have z0 := (hb4.cell (p := ⟨w.heap.size, 0, none⟩) (Nat.lt_succ_self _)).trans y04
          have z1 := (hb4.cell (p := ⟨w.heap.size, 1, none⟩) (Nat.lt_succ_self _)).trans y14
          have z2 := (hb4.cell (p := ⟨w.heap.size, 2, none⟩) (Nat.lt_succ_self _)).trans y24
          have HX5 := Lib.hid (HX4.out.below hb4 (by omega))
          have HU5 := Lib.hid (HU.out.then hb4 (by omega))
          clear hHeld hb4 hcall S0 hI hU CN HK HX4 HU hwQ hwR huQ huR huN hne1 hne2 hqt hrt y04 y14 y24 df d9 d27
          by_cases hlm : b.lives < M
          · have hlm1 : decide (b.lives < M) = true := decide_eq_true hlm
            go_wp2_with fail
            go_returns
            rw [HSS.out]
            exact ⟨ret_b (by rw [HP.out, if_pos (.inr (.inl ⟨hd, hlm⟩))]), HX5.out, HU5.out⟩
          · have hlm1 : decide (b.lives < M) = false := decide_eq_false hlm
            by_cases hnr : Nn = R
            · have hnr1 : (Nn != R) = false := by simp [hnr]
              have HN := Lib.hid hnr
              clear hnr
              have HP2 : Hid (askP b r x fs = (decide (x = 0) || playsV b.mode b.seed r x fs)) := by
                refine Lib.hid ?_
                rw [HP.out, if_neg (fun h => h.elim (fun h => by omega) (fun h => h.elim (fun h => hlm h.2) (fun h => h HN.out)))]
              clear HP
              have HP3 : Hid (askP b r x fs = playsV b.mode b.seed r x fs) := by
                refine Lib.hid ?_
                rw [HP2.out, decide_eq_false (by omega), Bool.false_or]
              clear HP2
              have CP := fun W => plays_any (b.after r x) v r x fs W h16 hn.1 hn.2.1 b0 (by omega) b1 (by omega)
              unfold Bx.val at CP
              have hpl : playsV (b.after r x).mode (b.after r x).seed r x fs = playsV b.mode b.seed r x fs := rfl
              rw [hpl] at CP
              have S1 := playS_start HX5.out z0 z1 z2 hz4
              have hl28 := Bx.cells_len (b := b.after r x) h16 v
              have hone := Bx.cells_one (b.after r x) (v := v) hv1
              clear hpl z0 z1 z2
              generalize (b.after r x).cells v = L at *
              have hhb : ∀ w' : World, w'.rangeAt B 0 L → hasBoxV w' (.pointer (some ⟨B, 0, none⟩)) := fun w' h => ⟨B, rfl, L, hl28, h⟩
              have hca : ∀ w' : World, w'.rangeAt B 0 L → boxV w' (.pointer (some ⟨B, 0, none⟩)) = .agg L.toArray := fun w' h => by show Value.agg (cellsAt w' B 28).toArray = _; rw [cellsAt_of hl28 h]
              clear hl28
              generalize playsV b.mode b.seed r x fs = pl at *
              go_wp2_with fail
              go_region_held3 (fun w' => playS B w.heap.size L r x fs w2 w') (first | exact playS_drew S1 | exact hcall)
                (first
                  | (go_at_call 71; refine (CP _).mono ?_; rintro e w3 ⟨rfl, hb⟩; have hcall := playS_call (by assumption) (by omega) hb; clear hb))
              rename_i w3 hcall hHeld
              have hb6 := hHeld.2.2.2.2.1
              clear hHeld hcall S1 hhb hca CP hone
              go_wp2_with fail
              go_returns
              rw [HSS.out]
              exact ⟨ret_b HP3.out.symm, HX5.out.below hb6 (by omega), HU5.out.then hb6 (by omega)⟩
            · have hnr1 : (Nn != R) = true := by simp [hnr]
              have HN := Lib.hid hnr
              clear hnr
              go_wp2_with fail
              go_returns
              rw [HSS.out]
              exact ⟨ret_b (by rw [HP.out, if_pos (.inr (.inr HN.out))]), HX5.out, HU5.out⟩
        · rw [hz] at d9
          have HZ := Lib.hid hz
          clear hz
          go_quiet (fail)
          go_wp2_with fail
          have S0 := askS_start (n := nq) HK.out (N := w.heap.size + 1) (by omega) (by omega)
          go_region_held3 (fun w' => askS B (w.heap.size + 1) KK W4 w') (first | exact askS_drew S0 | exact hcall)
            (first
              | (go_at_call 70; refine (CN _).mono ?_; rintro e w2 ⟨rfl, hb⟩; have hcall := askS_call (by assumption) (by omega) hb; clear hb))
          rename_i w2 hcall hHeld
          have hb4 := hHeld.2.1
          have hz4 := hHeld.2.2
          have z0 := (hb4.cell (p := ⟨w.heap.size, 0, none⟩) (Nat.lt_succ_self _)).trans y04
          have z1 := (hb4.cell (p := ⟨w.heap.size, 1, none⟩) (Nat.lt_succ_self _)).trans y14
          have z2 := (hb4.cell (p := ⟨w.heap.size, 2, none⟩) (Nat.lt_succ_self _)).trans y24
          have HX5 := Lib.hid (HX4.out.below hb4 (by omega))
          have HU5 := Lib.hid (HU.out.then hb4 (by omega))
          clear hHeld hb4 hcall S0 hI hU CN HK HX4 HU hwQ hwR huQ huR huN hne1 hne2 hqt hrt y04 y14 y24 df d9 d27
          by_cases hnr : Nn = R
          · have hnr1 : (Nn != R) = false := by simp [hnr]
            have HN := Lib.hid hnr
            clear hnr
            have HP2 : Hid (askP b r x fs = (decide (x = 0) || playsV b.mode b.seed r x fs)) := by
              refine Lib.hid ?_
              rw [HP.out, if_neg (fun h => h.elim (fun h => by omega) (fun h => h.elim (fun h => by have := HZ.out; omega) (fun h => h HN.out)))]
            clear HP
            have HP3 : Hid (askP b r x fs = playsV b.mode b.seed r x fs) := by
              refine Lib.hid ?_
              rw [HP2.out, decide_eq_false (by omega), Bool.false_or]
            clear HP2
            have CP := fun W => plays_any (b.after r x) v r x fs W h16 hn.1 hn.2.1 b0 (by omega) b1 (by omega)
            unfold Bx.val at CP
            have hpl : playsV (b.after r x).mode (b.after r x).seed r x fs = playsV b.mode b.seed r x fs := rfl
            rw [hpl] at CP
            have S1 := playS_start HX5.out z0 z1 z2 hz4
            have hl28 := Bx.cells_len (b := b.after r x) h16 v
            have hone := Bx.cells_one (b.after r x) (v := v) hv1
            clear hpl z0 z1 z2
            generalize (b.after r x).cells v = L at *
            have hhb : ∀ w' : World, w'.rangeAt B 0 L → hasBoxV w' (.pointer (some ⟨B, 0, none⟩)) := fun w' h => ⟨B, rfl, L, hl28, h⟩
            have hca : ∀ w' : World, w'.rangeAt B 0 L → boxV w' (.pointer (some ⟨B, 0, none⟩)) = .agg L.toArray := fun w' h => by show Value.agg (cellsAt w' B 28).toArray = _; rw [cellsAt_of hl28 h]
            clear hl28
            generalize playsV b.mode b.seed r x fs = pl at *
            go_wp2_with fail
            go_region_held3 (fun w' => playS B w.heap.size L r x fs w2 w') (first | exact playS_drew S1 | exact hcall)
              (first
                | (go_at_call 71; refine (CP _).mono ?_; rintro e w3 ⟨rfl, hb⟩; have hcall := playS_call (by assumption) (by omega) hb; clear hb))
            rename_i w3 hcall hHeld
            have hb6 := hHeld.2.2.2.2.1
            clear hHeld hcall S1 hhb hca CP hone
            go_wp2_with fail
            go_returns
            rw [HSS.out]
            exact ⟨ret_b HP3.out.symm, HX5.out.below hb6 (by omega), HU5.out.then hb6 (by omega)⟩
          · have hnr1 : (Nn != R) = true := by simp [hnr]
            have HN := Lib.hid hnr
            clear hnr
            go_wp2_with fail
            go_returns
            rw [HSS.out]
            exact ⟨ret_b (by rw [HP.out, if_pos (.inr (.inr HN.out))]), HX5.out, HU5.out⟩
      · have hr1 : (r == 0) = true := by simp [hm1]
        have hr2 : ¬ (0 < r) := by omega
        have HR0 := Lib.hid hm1
        clear hm1
        go_wp2_with fail
        refine wp_world ?_
        intro W4 hW4
        have hX4 : BoxAt W4 B (b.after r x) v := by
          rw [← hW4]
          have := (HX1.out.set26 h16 (b.asked + 1)).drew
          unfold Bx.after
          rw [if_neg (by have := HR0.out; omega)]
          exact this
        have y04 : W4.cell? ⟨w.heap.size, 0, none⟩ = some (.int .i64 r) := by rw [← hW4]; simp [go_sem, y0, hBn]
        have y14 : W4.cell? ⟨w.heap.size, 1, none⟩ = some (.int .i64 x) := by rw [← hW4]; simp [go_sem, y1, hBn]
        have y24 : W4.cell? ⟨w.heap.size, 2, none⟩ = some (.bool fs) := by rw [← hW4]; simp [go_sem, y2, hBn]
        have hs4 : W4.heap.size = w.heap.size + 1 := by rw [← hW4]; simp [hsz]
        have hbut : But B w W4 := by rw [← hW4]; exact ((But.of_below hB).setCell _ _).drew
        clear hW4
        clear y0 y1 y2 yf c7 c8 c9 c26 c27 cf HR HX1 hB hsz
        have hM0 : 0 ≤ (b.after r x).mixed ∧ (b.after r x).mixed ≤ b.mixed + 1 := (by unfold Bx.after; dsimp only; split <;> omega)
        obtain ⟨q7, q8, q9, q26, d27, qk, df⟩ := hX4.facts h16
        have d9 : W4.cell? ⟨B, 9, none⟩ = some (.int .i64 b.lives) := q9
        have dk : W4.rangeAt B 10 (keyL b.seed) := qk
        have HK := Lib.hid dk
        have HX4 := Lib.hid hX4
        have HU := Lib.hid hbut
        have HP : Hid (askP b r x fs = if r = 0 ∨ (0 < b.lives ∧ b.lives < (b.after r x).mixed) ∨ numberV b.seed (b.asked / (b.noise + 1)) (b.noise + 1) ≠ b.asked % (b.noise + 1) then false else decide (x = 0) || playsV b.mode b.seed r x fs) := rfl
        clear q7 q8 q9 q26 qk dk hX4 hbut
        generalize (b.after r x).mixed = M at *
        have CN := fun W => Number_any b.seed (b.asked / (b.noise + 1)) (b.noise + 1) W h16 (Int.ediv_nonneg a0 (by omega)) (Int.le_trans (Int.ediv_le_self _ a0) (by omega)) (by omega) (by omega)
        have hqt : Int.tdiv b.asked (b.noise + 1) = b.asked / (b.noise + 1) := Int.tdiv_eq_ediv_of_nonneg a0
        have hrt : Int.tmod b.asked (b.noise + 1) = b.asked % (b.noise + 1) := Int.tmod_eq_emod_of_nonneg a0
        have hQ : 0 ≤ b.asked / (b.noise + 1) ∧ b.asked / (b.noise + 1) ≤ 100000 := ⟨Int.ediv_nonneg a0 (by omega), Int.le_trans (Int.ediv_le_self _ a0) (by omega)⟩
        have hR : 0 ≤ b.asked % (b.noise + 1) ∧ b.asked % (b.noise + 1) < b.noise + 1 := ⟨Int.emod_nonneg _ (by omega), Int.emod_lt_of_pos _ (by omega)⟩
        obtain ⟨hQ0, hQ1⟩ := hQ
        obtain ⟨hR0, hR1⟩ := hR
        generalize b.asked / (b.noise + 1) = Q at *
        generalize b.asked % (b.noise + 1) = R at *
        generalize numberV b.seed Q (b.noise + 1) = Nn at *
        have HL := Lib.hid ((keyL_len b.seed).trans h16)
        unfold keyV at CN
        generalize keyL b.seed = KK at *
        have hI := HL.out ▸ infoK
        have hU : Try.prog.underlying 37 = some (.array 16 5) := by kernel_rfl
        have hne1 : (b.noise + 1 == 0) = false := (by simp; omega)
        have hne2 : ¬ (b.noise + 1 = 0) := (by omega)
        have hwQ : IntKind.i64.wrap Q = Q := IntWalk.i64_in _ (by omega)
        have hwR : IntKind.i64.wrap R = R := IntWalk.i64_in _ (by omega)
        have huQ : IntKind.u64.wrap Q = Q := (by simp [IntKind.wrap, IntKind.bits, IntKind.signed]; omega)
        have huR : IntKind.u64.wrap R = R := (by simp [IntKind.wrap, IntKind.bits, IntKind.signed]; omega)
        have huN : IntKind.u64.wrap (b.noise + 1) = b.noise + 1 := (by simp [IntKind.wrap, IntKind.bits, IntKind.signed]; omega)
        have hdz : 0 < b.lives ∨ b.lives = 0 := (by omega)
        rcases hdz with hd | hz
        · have hdd : decide (0 < b.lives) = true := decide_eq_true hd
          go_quiet (fail)
          go_wp2_with fail
          have S0 := askS_start (n := nq) HK.out (N := w.heap.size + 1) (by omega) (by omega)
          go_region_held3 (fun w' => askS B (w.heap.size + 1) KK W4 w') (first | exact askS_drew S0 | exact hcall)
            (first
              | (go_at_call 70; refine (CN _).mono ?_; rintro e w2 ⟨rfl, hb⟩; have hcall := askS_call (by assumption) (by omega) hb; clear hb))
          rename_i w2 hcall hHeld
          have hb4 := hHeld.2.1
          have hz4 := hHeld.2.2
          have z0 := (hb4.cell (p := ⟨w.heap.size, 0, none⟩) (Nat.lt_succ_self _)).trans y04
          have z1 := (hb4.cell (p := ⟨w.heap.size, 1, none⟩) (Nat.lt_succ_self _)).trans y14
          have z2 := (hb4.cell (p := ⟨w.heap.size, 2, none⟩) (Nat.lt_succ_self _)).trans y24
          have HX5 := Lib.hid (HX4.out.below hb4 (by omega))
          have HU5 := Lib.hid (HU.out.then hb4 (by omega))
          clear hHeld hb4 hcall S0 hI hU CN HK HX4 HU hwQ hwR huQ huR huN hne1 hne2 hqt hrt y04 y14 y24 df d9 d27
          go_wp2_with fail
          go_returns
          rw [HSS.out]
          exact ⟨ret_b (by rw [HP.out, if_pos (.inl HR0.out)]), HX5.out, HU5.out⟩
        · rw [hz] at d9
          have HZ := Lib.hid hz
          clear hz
          go_quiet (fail)
          go_wp2_with fail
          have S0 := askS_start (n := nq) HK.out (N := w.heap.size + 1) (by omega) (by omega)
          go_region_held3 (fun w' => askS B (w.heap.size + 1) KK W4 w') (first | exact askS_drew S0 | exact hcall)
            (first
              | (go_at_call 70; refine (CN _).mono ?_; rintro e w2 ⟨rfl, hb⟩; have hcall := askS_call (by assumption) (by omega) hb; clear hb))
          rename_i w2 hcall hHeld
          have hb4 := hHeld.2.1
          have hz4 := hHeld.2.2
          have z0 := (hb4.cell (p := ⟨w.heap.size, 0, none⟩) (Nat.lt_succ_self _)).trans y04
          have z1 := (hb4.cell (p := ⟨w.heap.size, 1, none⟩) (Nat.lt_succ_self _)).trans y14
          have z2 := (hb4.cell (p := ⟨w.heap.size, 2, none⟩) (Nat.lt_succ_self _)).trans y24
          have HX5 := Lib.hid (HX4.out.below hb4 (by omega))
          have HU5 := Lib.hid (HU.out.then hb4 (by omega))
          clear hHeld hb4 hcall S0 hI hU CN HK HX4 HU hwQ hwR huQ huR huN hne1 hne2 hqt hrt y04 y14 y24 df d9 d27
          go_wp2_with fail
          go_returns
          rw [HSS.out]
          exact ⟨ret_b (by rw [HP.out, if_pos (.inl HR0.out)]), HX5.out, HU5.out⟩
      · have hr1 : (r == 0) = false := by simp; omega
        have hx1 : (x == 0) = true := by simp [hm2]
        have hx2 : ¬ (0 < x) := by omega
        have HX0 := Lib.hid hm2
        clear hm2
        go_wp2_with fail
        refine wp_world ?_
        intro W4 hW4
        have hX4 : BoxAt W4 B (b.after r x) v := by
          rw [← hW4]
          have := (HX1.out.set26 h16 (b.asked + 1)).drew
          unfold Bx.after
          rw [if_neg (by have := HX0.out; omega)]
          exact this
        have y04 : W4.cell? ⟨w.heap.size, 0, none⟩ = some (.int .i64 r) := by rw [← hW4]; simp [go_sem, y0, hBn]
        have y14 : W4.cell? ⟨w.heap.size, 1, none⟩ = some (.int .i64 x) := by rw [← hW4]; simp [go_sem, y1, hBn]
        have y24 : W4.cell? ⟨w.heap.size, 2, none⟩ = some (.bool fs) := by rw [← hW4]; simp [go_sem, y2, hBn]
        have hs4 : W4.heap.size = w.heap.size + 1 := by rw [← hW4]; simp [hsz]
        have hbut : But B w W4 := by rw [← hW4]; exact ((But.of_below hB).setCell _ _).drew
        clear hW4
        clear y0 y1 y2 yf c7 c8 c9 c26 c27 cf HR HX1 hB hsz
        have hM0 : 0 ≤ (b.after r x).mixed ∧ (b.after r x).mixed ≤ b.mixed + 1 := (by unfold Bx.after; dsimp only; split <;> omega)
        obtain ⟨q7, q8, q9, q26, d27, qk, df⟩ := hX4.facts h16
        have d9 : W4.cell? ⟨B, 9, none⟩ = some (.int .i64 b.lives) := q9
        have dk : W4.rangeAt B 10 (keyL b.seed) := qk
        have HK := Lib.hid dk
        have HX4 := Lib.hid hX4
        have HU := Lib.hid hbut
        have HP : Hid (askP b r x fs = if r = 0 ∨ (0 < b.lives ∧ b.lives < (b.after r x).mixed) ∨ numberV b.seed (b.asked / (b.noise + 1)) (b.noise + 1) ≠ b.asked % (b.noise + 1) then false else decide (x = 0) || playsV b.mode b.seed r x fs) := rfl
        clear q7 q8 q9 q26 qk dk hX4 hbut
        generalize (b.after r x).mixed = M at *
        have CN := fun W => Number_any b.seed (b.asked / (b.noise + 1)) (b.noise + 1) W h16 (Int.ediv_nonneg a0 (by omega)) (Int.le_trans (Int.ediv_le_self _ a0) (by omega)) (by omega) (by omega)
        have hqt : Int.tdiv b.asked (b.noise + 1) = b.asked / (b.noise + 1) := Int.tdiv_eq_ediv_of_nonneg a0
        have hrt : Int.tmod b.asked (b.noise + 1) = b.asked % (b.noise + 1) := Int.tmod_eq_emod_of_nonneg a0
        have hQ : 0 ≤ b.asked / (b.noise + 1) ∧ b.asked / (b.noise + 1) ≤ 100000 := ⟨Int.ediv_nonneg a0 (by omega), Int.le_trans (Int.ediv_le_self _ a0) (by omega)⟩
        have hR : 0 ≤ b.asked % (b.noise + 1) ∧ b.asked % (b.noise + 1) < b.noise + 1 := ⟨Int.emod_nonneg _ (by omega), Int.emod_lt_of_pos _ (by omega)⟩
        obtain ⟨hQ0, hQ1⟩ := hQ
        obtain ⟨hR0, hR1⟩ := hR
        generalize b.asked / (b.noise + 1) = Q at *
        generalize b.asked % (b.noise + 1) = R at *
        generalize numberV b.seed Q (b.noise + 1) = Nn at *
        have HL := Lib.hid ((keyL_len b.seed).trans h16)
        unfold keyV at CN
        generalize keyL b.seed = KK at *
        have hI := HL.out ▸ infoK
        have hU : Try.prog.underlying 37 = some (.array 16 5) := by kernel_rfl
        have hne1 : (b.noise + 1 == 0) = false := (by simp; omega)
        have hne2 : ¬ (b.noise + 1 = 0) := (by omega)
        have hwQ : IntKind.i64.wrap Q = Q := IntWalk.i64_in _ (by omega)
        have hwR : IntKind.i64.wrap R = R := IntWalk.i64_in _ (by omega)
        have huQ : IntKind.u64.wrap Q = Q := (by simp [IntKind.wrap, IntKind.bits, IntKind.signed]; omega)
        have huR : IntKind.u64.wrap R = R := (by simp [IntKind.wrap, IntKind.bits, IntKind.signed]; omega)
        have huN : IntKind.u64.wrap (b.noise + 1) = b.noise + 1 := (by simp [IntKind.wrap, IntKind.bits, IntKind.signed]; omega)
        have hdz : 0 < b.lives ∨ b.lives = 0 := (by omega)
        rcases hdz with hd | hz
        · have hdd : decide (0 < b.lives) = true := decide_eq_true hd
          go_quiet (fail)
          go_wp2_with fail
          have S0 := askS_start (n := nq) HK.out (N := w.heap.size + 1) (by omega) (by omega)
          go_region_held3 (fun w' => askS B (w.heap.size + 1) KK W4 w') (first | exact askS_drew S0 | exact hcall)
            (first
              | (go_at_call 70; refine (CN _).mono ?_; rintro e w2 ⟨rfl, hb⟩; have hcall := askS_call (by assumption) (by omega) hb; clear hb))
          rename_i w2 hcall hHeld
          have hb4 := hHeld.2.1
          have hz4 := hHeld.2.2
          have z0 := (hb4.cell (p := ⟨w.heap.size, 0, none⟩) (Nat.lt_succ_self _)).trans y04
          have z1 := (hb4.cell (p := ⟨w.heap.size, 1, none⟩) (Nat.lt_succ_self _)).trans y14
          have z2 := (hb4.cell (p := ⟨w.heap.size, 2, none⟩) (Nat.lt_succ_self _)).trans y24
          have HX5 := Lib.hid (HX4.out.below hb4 (by omega))
          have HU5 := Lib.hid (HU.out.then hb4 (by omega))
          clear hHeld hb4 hcall S0 hI hU CN HK HX4 HU hwQ hwR huQ huR huN hne1 hne2 hqt hrt y04 y14 y24 df d9 d27
          by_cases hlm : b.lives < M
          · have hlm1 : decide (b.lives < M) = true := decide_eq_true hlm
            go_wp2_with fail
            go_returns
            rw [HSS.out]
            exact ⟨ret_b (by rw [HP.out, if_pos (.inr (.inl ⟨hd, hlm⟩))]), HX5.out, HU5.out⟩
          · have hlm1 : decide (b.lives < M) = false := decide_eq_false hlm
            by_cases hnr : Nn = R
            · have hnr1 : (Nn != R) = false := by simp [hnr]
              have HN := Lib.hid hnr
              clear hnr
              have HP2 : Hid (askP b r x fs = (decide (x = 0) || playsV b.mode b.seed r x fs)) := by
                refine Lib.hid ?_
                rw [HP.out, if_neg (fun h => h.elim (fun h => by omega) (fun h => h.elim (fun h => hlm h.2) (fun h => h HN.out)))]
              clear HP
              go_wp2_with fail
              go_quiet (fail)
              go_wp2_with fail
              go_returns
              rw [HSS.out]
              exact ⟨ret_b (by rw [HP2.out, HX0.out]; rfl), HX5.out.drewN _, HU5.out.drewN _⟩
            · have hnr1 : (Nn != R) = true := by simp [hnr]
              have HN := Lib.hid hnr
              clear hnr
              go_wp2_with fail
              go_returns
              rw [HSS.out]
              exact ⟨ret_b (by rw [HP.out, if_pos (.inr (.inr HN.out))]), HX5.out, HU5.out⟩
        · rw [hz] at d9
          have HZ := Lib.hid hz
          clear hz
          go_quiet (fail)
          go_wp2_with fail
          have S0 := askS_start (n := nq) HK.out (N := w.heap.size + 1) (by omega) (by omega)
          go_region_held3 (fun w' => askS B (w.heap.size + 1) KK W4 w') (first | exact askS_drew S0 | exact hcall)
            (first
              | (go_at_call 70; refine (CN _).mono ?_; rintro e w2 ⟨rfl, hb⟩; have hcall := askS_call (by assumption) (by omega) hb; clear hb))
          rename_i w2 hcall hHeld
          have hb4 := hHeld.2.1
          have hz4 := hHeld.2.2
          have z0 := (hb4.cell (p := ⟨w.heap.size, 0, none⟩) (Nat.lt_succ_self _)).trans y04
          have z1 := (hb4.cell (p := ⟨w.heap.size, 1, none⟩) (Nat.lt_succ_self _)).trans y14
          have z2 := (hb4.cell (p := ⟨w.heap.size, 2, none⟩) (Nat.lt_succ_self _)).trans y24
          have HX5 := Lib.hid (HX4.out.below hb4 (by omega))
          have HU5 := Lib.hid (HU.out.then hb4 (by omega))
          clear hHeld hb4 hcall S0 hI hU CN HK HX4 HU hwQ hwR huQ huR huN hne1 hne2 hqt hrt y04 y14 y24 df d9 d27
          by_cases hnr : Nn = R
          · have hnr1 : (Nn != R) = false := by simp [hnr]
            have HN := Lib.hid hnr
            clear hnr
            have HP2 : Hid (askP b r x fs = (decide (x = 0) || playsV b.mode b.seed r x fs)) := by
              refine Lib.hid ?_
              rw [HP.out, if_neg (fun h => h.elim (fun h => by omega) (fun h => h.elim (fun h => by have := HZ.out; omega) (fun h => h HN.out)))]
            clear HP
            go_wp2_with fail
            go_quiet (fail)
            go_wp2_with fail
            go_returns
            rw [HSS.out]
            exact ⟨ret_b (by rw [HP2.out, HX0.out]; rfl), HX5.out.drewN _, HU5.out.drewN _⟩
          · have hnr1 : (Nn != R) = true := by simp [hnr]
            have HN := Lib.hid hnr
            clear hnr
            go_wp2_with fail
            go_returns
            rw [HSS.out]
            exact ⟨ret_b (by rw [HP.out, if_pos (.inr (.inr HN.out))]), HX5.out, HU5.out⟩
end Go.Proofs.Ytpnfghpcpjpppaa
