/- trace.Ask. -/
import Derived.Test.YtpnfghpcpjpppaaAskW
namespace Go.Proofs.Ytpnfghpcpjpppaa
open Go.RowKit
set_option linter.unusedVariables false
set_option linter.unusedSimpArgs false

/-- slices.Clone at integers, whatever slice. -/
theorem Clone_any (v : Value) (zs : List Int) (w : World) (hv : Ints w v zs) (hl : zs.length ≤ 1000) :
    Calls Try.prog 39 #[v] w fun e w' => ∃ v', e = .returned v' ∧ w'.ownsRow w.heap.size 3 1 v' zs.length (zs.map (Value.int .i64)) ∧ Below w.heap.size w w' := by
  obtain ⟨a, cap, rfl, hcap, hmax, hcell⟩ := hv.open
  rcases Nat.eq_zero_or_pos zs.length with h0 | h0
  · have hz : zs = [] := List.length_eq_zero_iff.1 h0
    subst hz
    cases a with
    | none =>
      refine (Try.slices_Clone_int_nil 0 cap w).mono ?_
      rintro e w' ⟨rfl, rfl⟩
      exact ⟨_, rfl, World.ownsRow_nil _ _ _ _, Below.refl _ _⟩
    | some a =>
      refine (Try.slices_Clone_int_zero a cap w).mono ?_
      rintro e w' ⟨v', rfl, h1, -, h2⟩
      exact ⟨_, rfl, h1, h2⟩
  · obtain ⟨b, off, rfl, -⟩ := hcell 0 h0
    refine (Try.slices_Clone_int b off zs.length cap zs w (Nat.le_refl _) (by omega) (fun j hj => ?_)).mono ?_
    · obtain ⟨b', off', he, hc⟩ := hcell j hj
      simp only [Option.some.injEq, Addr.mk.injEq, and_true] at he
      obtain ⟨rfl, rfl⟩ := he
      exact hc
    · rintro e w' ⟨v', rfl, h1, -, h2⟩
      rw [List.take_length] at h1
      exact ⟨_, rfl, h1, h2⟩

/-- The zero box. -/
def Bx.zero : Bx := ⟨⟨0, 0, 0, 0, 0, 0⟩, [], 0, 0, 0, List.replicate 16 0, 0, 0⟩
def zeroL : List Value := [.int .u8 0, .int .i64 0, .int .i64 0, .int .u64 0, .int .u64 0, .int .u64 0, .slice none 0 0, .int .u8 0, .int .i64 0, .int .i64 0, .int .u8 0, .int .u8 0, .int .u8 0, .int .u8 0, .int .u8 0, .int .u8 0, .int .u8 0, .int .u8 0, .int .u8 0, .int .u8 0, .int .u8 0, .int .u8 0, .int .u8 0, .int .u8 0, .int .u8 0, .int .u8 0, .int .i64 0, .int .i64 0]
theorem zeroL_eq : Bx.zero.cells (.slice none 0 0) = zeroL := rfl
theorem zeroL_one : zeroL.toArray.all (·.oneCell') = true := all_oneCell_toArray (zeroL_eq ▸ Bx.cells_one _ rfl)
def zeroBox : Value := .agg zeroL.toArray

theorem calls_world {P : Program} {f : FuncId} {args : Array Value} {Q : Ending → World → Prop} {w : World} (h : ∀ W, w = W → Calls P f args W Q) : Calls P f args w Q := h w rfl

/-- A function with three results, of which the first is a row in a cell of its own. -/
theorem results_mid3 {P : Program} {fn : Func} {p q1 q2 : Tmp} {ty : TypeId} (h : fn.results = #[.cell p ty, .tmp q1, .tmp q2]) (tmps : Array Value) (w : World) (b : Nat) (cs : List Value) (d : TypeDesc) (u1 u2 : Value)
    (hp : tmps.getD p undef = .pointer (some ⟨b, 0, none⟩)) (h1 : tmps.getD q1 undef = u1) (h2 : tmps.getD q2 undef = u2) (hc : w.rangeAt b 0 cs) (hu : P.underlying ty = some d) (hd : d.isRow = true) (hi : (P.info? ty).map (·.size) = some cs.length) :
    (results fn tmps).run P w = .ok (.tuple #[.agg cs.toArray, u1, u2]) w := by
  have hp' : tmps[p]?.getD undef = .pointer (some ⟨b, 0, none⟩) := by simpa using hp
  have h1' : tmps[q1]?.getD undef = u1 := by simpa using h1
  have h2' : tmps[q2]?.getD undef = u2 := by simpa using h2
  simp [results, h, hp', h1', h2', asAddr, run_loadVar_mid w b 0 ty cs d hc hu hd hi]
theorem heap_setCells_ne (b k : Nat) (hk : k ≠ b) : ∀ (vs : List Value) (o : Nat) (w : World), (w.setCells b o vs).heap[k]? = w.heap[k]?
  | [], _, _ => rfl
  | v :: vs, o, w => (heap_setCells_ne b k hk vs (o + 1) (w.setCell ⟨b, o, none⟩ v)).trans (Below.heap_setCell _ _ _ _ hk)
/-- A row of the call's own, in a world in which its blocks lie as they lay. -/
theorem owns_move {w w' : World} {base : Nat} {e : TypeId} {size : Nat} {v : Value} {n : Nat} {xs : List Value} (h : w.ownsRow base e size v n xs) (hk : ∀ k, base ≤ k → k < w.heap.size → w'.heap[k]? = w.heap[k]?) : w'.ownsRow base e size v n xs := by
  obtain ⟨h0, h1⟩ := h
  refine ⟨h0, ?_⟩
  rcases h1 with h1 | ⟨g, cap, cur, h1, h2, h3, h4⟩
  · exact .inl h1
  · exact .inr ⟨g, cap, cur, h1, h2, (hk g h2 (Array.getElem?_eq_some_iff.1 h3).1).trans h3, h4⟩

/-- What holds in Ask: the box's block, the block of the result. -/
structure AskAt (w : World) (b : Bx) (v : Value) (W : World) : Prop where
  box : BoxAt W w.heap.size b v
  res : ∃ Z : Array Value, Z.size = 28 ∧ W.heap[w.heap.size + 1]? = some (.cells Z 39 (0, 0))
  bel : Below w.heap.size w W
  siz : w.heap.size + 2 ≤ W.heap.size
theorem AskAt.step {w W W' : World} {b : Bx} {v : Value} (h : AskAt w b v W) (hb : Below W.heap.size W W') : AskAt w b v W' := by
  have hs := h.siz
  obtain ⟨Z, hz, hr⟩ := h.res
  exact ⟨h.box.below hb (by omega), ⟨Z, hz, (hb.block _ (by omega)).trans hr⟩, h.bel.trans (hb.mono (by omega)), Nat.le_trans hs hb.size⟩
theorem there_of_row {W : World} {B n : Nat} {Z : Array Value} {T : TypeId} (h : W.heap[B]? = some (.cells Z T (0, 0))) (hz : Z.size = n) : W.there B 0 n := fun j hj => by
  refine ⟨?_, ?_⟩
  · rw [cell_of_row W B (0 + j) _ _ _ h, Nat.zero_add, Array.getElem?_eq_getElem (by omega)]
    rfl
  · simp [World.frozen?, h]
theorem AskAt.there {w W : World} {b : Bx} {v : Value} (h : AskAt w b v W) : W.there (w.heap.size + 1) 0 28 := by
  obtain ⟨Z, hz, hr⟩ := h.res
  exact there_of_row hr hz
theorem AskAt.drew {w W : World} {b : Bx} {v : Value} (h : AskAt w b v W) : AskAt w b v W.drew := h.step (Below.refl _ _).drew
theorem BoxAt.set6 {w : World} {B : Nat} {b : Bx} {v : Value} (h : BoxAt w B b v) (h16 : b.seed.length = 16) (v' : Value) : BoxAt (w.setCell ⟨B, 6, none⟩ v') B b v' := by
  have := heap_set_row (i := 6) h v'
  unfold BoxAt
  rw [this]
  obtain ⟨⟨k, d, g, p, q, r⟩, co, mode, noise, lives, seed, asked, mixed⟩ := b
  obtain ⟨a0, a1, a2, a3, a4, a5, a6, a7, a8, a9, a10, a11, a12, a13, a14, a15, rfl⟩ := len16i h16
  rfl
theorem AskAt.set6 {w W : World} {b : Bx} {v : Value} (h : AskAt w b v W) (h16 : b.seed.length = 16) (v' : Value) : AskAt w b v' (W.setCell ⟨w.heap.size, 6, none⟩ v') := by
  obtain ⟨Z, hz, hr⟩ := h.res
  exact ⟨h.box.set6 h16 v', ⟨Z, hz, (Below.heap_setCell _ _ _ _ (by show w.heap.size + 1 ≠ w.heap.size; omega)).trans hr⟩, h.bel.setCell (Nat.le_refl _) _, by rw [size_setCell]; exact h.siz⟩

theorem AskAt.but {w W W' : World} {b b' : Bx} {v v' : Value} (h : AskAt w b v W) (hbox : BoxAt W' w.heap.size b' v') (hb : But w.heap.size W W') : AskAt w b' v' W' := by
  have hs := h.siz
  have h2 := hb.size
  obtain ⟨Z, hz, hr⟩ := h.res
  exact ⟨hbox, ⟨Z, hz, (hb.block _ (by omega) (by omega)).trans hr⟩, ⟨hb.os.trans h.bel.os, hb.tape.trans h.bel.tape, hb.output.trans h.bel.output, by omega, fun k hk => (hb.block k (by omega) (by omega)).trans (h.bel.block k hk)⟩, by omega⟩
theorem BoxAt.cell {w : World} {B : Nat} {b : Bx} {v : Value} (h : BoxAt w B b v) (j : Nat) {u : Value} (hu : (b.cells v)[j]? = some u) : w.cell? ⟨B, j, none⟩ = some u := by
  have := h.range j u hu
  rwa [Nat.zero_add] at this
theorem AskAt.scheme {w W : World} {b : Bx} {v : Value} (h : AskAt w b v W) : W.cell? ⟨w.heap.size, 0, none⟩ = some (.int .u8 b.s.k) ∧ W.cell? ⟨w.heap.size, 1, none⟩ = some (.int .i64 b.s.d) ∧ W.cell? ⟨w.heap.size, 2, none⟩ = some (.int .i64 b.s.g) ∧
    W.cell? ⟨w.heap.size, 3, none⟩ = some (.int .u64 b.s.p) ∧ W.cell? ⟨w.heap.size, 4, none⟩ = some (.int .u64 b.s.q) ∧ W.cell? ⟨w.heap.size, 5, none⟩ = some (.int .u64 b.s.r) :=
  ⟨h.box.cell 0 rfl, h.box.cell 1 rfl, h.box.cell 2 rfl, h.box.cell 3 rfl, h.box.cell 4 rfl, h.box.cell 5 rfl⟩
/-- A box is stored into the result's block. -/
theorem store_box {w W : World} {b : Bx} {v : Value} (h : AskAt w b v W) {L : List Value} (hL : L.length = 28) : ∃ W3, W.setCells (w.heap.size + 1) 0 L = W3 ∧ W3.rangeAt (w.heap.size + 1) 0 L ∧ Below w.heap.size w W3 ∧ ∀ k, k ≠ w.heap.size + 1 → W3.heap[k]? = W.heap[k]? :=
  ⟨_, rfl, World.rangeAt_setCells_same _ _ _ L (hL ▸ h.there), below_setCells _ (by omega) _ _ _ h.bel, fun k hk => heap_setCells_ne _ _ hk _ _ _⟩

/-- The zero box is stored into the result's block. -/
theorem store_zero {w W : World} {b : Bx} {v : Value} (h : AskAt w b v W) : ∃ W3, W.setCells (w.heap.size + 1) 0 zeroL = W3 ∧ W3.rangeAt (w.heap.size + 1) 0 zeroL ∧ Below w.heap.size w W3 :=
  ⟨_, rfl, World.rangeAt_setCells_same _ _ _ zeroL h.there, below_setCells _ (by omega) _ _ _ h.bel⟩

/-- The error of Ask. -/
def askE (b : Bx) (xs : List (Int × Int)) (f : Int) : Int :=
  if chkBox b ≠ 0 then chkBox b else if 64 < xs.length then 4 else if (xs.all fun x => subsetB b.s.k b.s.d x.1 x.2) = false then 31 else if f < 0 ∨ xs.length < f then 2 else if b.asked = 100000 then 9 else 0
/-- The items of a query that are open. -/
def askOs (b : Bx) (xs : List (Int × Int)) : List Bool := opensL b.co (memsL b.s.d xs)
/-- What the box sees. -/
def askV (b : Bx) (xs : List (Int × Int)) (f : Int) : Int × Int × Bool := askTo f (askOs b xs) (askOs b xs).length
/-- trace.Ask. -/
def askPost (b : Bx) (xs : List (Int × Int)) (f : Int) (w : World) (e : Ending) (w' : World) : Prop :=
  (askE b xs f ≠ 0 → e = .returned (.tuple #[zeroBox, .bool false, .int .i64 (askE b xs f)])) ∧
  (askE b xs f = 0 → ∃ v', e = .returned (.tuple #[(b.after (askV b xs f).1 (askV b xs f).2.1).val v', .bool (askP b (askV b xs f).1 (askV b xs f).2.1 (askV b xs f).2.2), .int .i64 0]) ∧ w'.ownsRow w.heap.size 3 1 v' b.co.length (b.co.map (Value.int .i64))) ∧
  Below w.heap.size w w'
theorem askPost_bad {b : Bx} {xs : List (Int × Int)} {f E : Int} {w w' : World} (hE : askE b xs f = E) (h0 : E ≠ 0) (hb : Below w.heap.size w w') : askPost b xs f w (.returned (.tuple #[zeroBox, .bool false, .int .i64 E])) w' := by
  subst hE
  exact ⟨fun _ => rfl, fun h => absurd h h0, hb⟩

theorem listB_pairwise {d : Int} {co : List Int} (h : listB d co = true) : co.Pairwise (· ≤ ·) := by
  have key : ∀ i j, i < j → j < co.length → co.getD i 0 ≤ co.getD j 0 := by
    intro i j
    induction j with
    | zero => intro h1; omega
    | succ j ih =>
      intro h1 h2
      have hf := listB_iff.1 h (j + 1) h2
      unfold fitB at hf
      have hf' := of_decide_eq_true hf
      have h3 : co.getD j 0 < co.getD (j + 1) 0 := by
        rcases hf'.2.2 with h0 | h0
        · omega
        · simpa using h0
      by_cases e : i = j
      · subst e; omega
      · have := ih (by omega) (by omega); omega
  rw [List.pairwise_iff_getElem]
  intro i j hi hj hij
  have := key i j hij hj
  simpa [List.getD, hi, hj] using this

theorem chkBox_ok {b : Bx} (h : chkBox b = 0) : b.s.ok ∧ listB b.s.d b.co = true ∧ b.nums := by
  unfold chkBox at h
  by_cases hs : b.s.ok
  · rw [if_neg (not_not_intro hs)] at h
    by_cases h2 : listB b.s.d b.co = true ∧ b.nums
    · exact ⟨hs, h2.1, h2.2⟩
    · rw [if_neg h2] at h; omega
  · rw [if_pos hs] at h; omega
theorem all_subs {k d : Int} {xs : List (Int × Int)} (h : ∀ i, i < xs.length → subsetB k d (xs.getD i (0, 0)).1 (xs.getD i (0, 0)).2 = true) : (xs.all fun x => subsetB k d x.1 x.2) = true := by
  rw [List.all_eq_true]
  intro x hx
  obtain ⟨i, hi, rfl⟩ := List.mem_iff_getElem.1 hx
  have := h i hi
  rwa [show xs.getD i (0, 0) = xs[i] from by simp [List.getD, hi]] at this
theorem not_all_subs {k d : Int} {xs : List (Int × Int)} (h : ∃ i, i < xs.length ∧ subsetB k d (xs.getD i (0, 0)).1 (xs.getD i (0, 0)).2 = false) : (xs.all fun x => subsetB k d x.1 x.2) = false := by
  obtain ⟨i, hi, h⟩ := h
  rw [List.all_eq_false]
  refine ⟨xs[i], List.getElem_mem hi, ?_⟩
  rw [show xs.getD i (0, 0) = xs[i] from by simp [List.getD, hi]] at h
  rw [h]; simp
theorem askOs_len (b : Bx) (xs : List (Int × Int)) : (askOs b xs).length = xs.length := by unfold askOs memsL; rw [opensL_len]; simp

set_option maxRecDepth 20000 in
set_option maxHeartbeats 4000000 in
theorem Ask_any (b : Bx) (v vl : Value) (xs : List (Int × Int)) (f : Int) (w : World) (h16 : b.seed.length = 16) (hv : Ints w v b.co) (hl : b.co.length ≤ 100) (hx : Subs w vl xs) :
    Calls Try.prog 12 #[b.val v, vl, .int .i64 f] w (askPost b xs f w) := by
  have CB := fun W (h : Below w.heap.size w W) => CheckBox_any b v W h16 (hv.below h)
  unfold Bx.val at CB ⊢
  have hl28 := Bx.cells_len (b := b) h16 v
  have HN := Lib.hid (box_new h16 v w 39)
  have HBX : Hid (BoxAt (w.alloc (.cells (b.cells v).toArray 39)) w.heap.size b v) := Lib.hid (by unfold BoxAt; exact World.alloc_heap_new w _)
  generalize hL : b.cells v = L at *
  have HL := Lib.hid hL
  have HR := range_new w L 39
  have hI := hl28 ▸ info39
  clear hl28 hL
  go_enter Try.func12, Try.ntmps12
  go_wp2_with (first
    | (refine wpList_load_mid rfl 39 (.tmp 3) rfl w.heap.size 0 rfl L _ (World.rangeAt_alloc HR _) Try.underlying39 rfl hI ?_))
  refine calls_world ?_
  intro W1 hW1
  have A1 : AskAt w b v W1 := by
    rw [← hW1]
    exact ⟨HBX.out.below ((Below.refl _ _).alloc (Nat.le_refl _) _) (by simp), ⟨_, rfl, by have := World.alloc_heap_new (w.alloc (Obj.cells L.toArray 39)); rw [World.size_alloc] at this; exact this _⟩, ((Below.refl _ _).alloc (Nat.le_refl _) _).alloc (by simp) _, by simp⟩
  clear hW1 HBX HR
  refine (CB W1 A1.bel).mono ?_
  rintro e W2 ⟨rfl, hb⟩
  have A2 := A1.step hb
  clear A1 hb CB
  by_cases hE : chkBox b = 0
  · obtain ⟨hs, hlist, hn⟩ := chkBox_ok hE
    have hne : (chkBox b != 0) = false := by simp [hE]
    have HE0 := Lib.hid hE
    clear hE
    obtain ⟨c0, c1, c2, c3, c4, c5⟩ := A2.scheme
    have HXB := Lib.hid hx
    obtain ⟨a, cap, rfl, hcap, hmax, -⟩ := hx.open
    clear hx
    unfold maxLen at hmax
    by_cases hm : 64 < xs.length
    · have CS := subsets_many b.s.k b.s.d b.s.g b.s.p b.s.q b.s.r _ xs W2 (HXB.out.below A2.bel) hm
      have HE : Hid (askE b xs f = 4) := Lib.hid (by unfold askE; rw [if_neg (by rw [HE0.out]; simp), if_pos hm])
      go_wp2_with (first
        | (go_at_call 38; refine CS.mono ?_; rintro e W3 ⟨rfl, hb⟩; have A3 := A2.step hb; clear hb)
        | (refine wpList_store_mid rfl 39 (.tmp 6) (.tmp 29) rfl (w.heap.size + 1) 0 zeroL.toArray rfl rfl A3.there info39 zeroL_one ?_; obtain ⟨W9, hW9, hr3, hb3⟩ := store_zero A3; rw [show zeroL.toArray.toList = zeroL from rfl, hW9]; clear hW9))
      refine bodyPost_ret (v := .tuple #[zeroBox, .bool false, .int .i64 4]) (results_mid3 Try.results12 _ _ (w.heap.size + 1) zeroL _ _ _ rfl rfl rfl hr3 Try.underlying39 rfl info39) rfl ?_
      exact askPost_bad HE.out (by decide) hb3
    · have CS := subsets_any b.s.k b.s.d b.s.g b.s.p b.s.q b.s.r _ xs W2 hs (HXB.out.below A2.bel) (by omega)
      have hxl : xs.length ≤ 64 := by omega
      have HM := Lib.hid hm
      clear hm
      go_wp2_with fail
      refine CS.mono ?_
      rintro e W3 ⟨⟨hall, u, vs, rfl, hu, hrows⟩ | ⟨hex, rfl⟩, hb⟩
      · have A3 := A2.step hb
        have hal := Lib.hid (all_subs hall)
        obtain ⟨ua, uc, rfl⟩ := ownsRow_slice hu
        have HRW := Lib.hid hrows
        have HUW := Lib.hid hu
        have h22 := A2.siz
        clear CS hb hall c0 c1 c2 c3 c4 c5 hrows hu
        by_cases hf1 : f < 0
        · have HE : Hid (askE b xs f = 2) := Lib.hid (by unfold askE; rw [if_neg (by rw [HE0.out]; simp), if_neg HM.out, if_neg (by rw [hal.out]; simp), if_pos (.inl hf1)])
          go_wp2_with (first | (refine wpList_store_mid rfl 39 (.tmp 6) (.tmp 40) rfl (w.heap.size + 1) 0 zeroL.toArray rfl rfl A3.there info39 zeroL_one ?_; obtain ⟨W9, hW9, hr3, hb3⟩ := store_zero A3; rw [show zeroL.toArray.toList = zeroL from rfl, hW9]; clear hW9))
          refine bodyPost_ret (v := .tuple #[zeroBox, .bool false, .int .i64 2]) (results_mid3 Try.results12 _ _ (w.heap.size + 1) zeroL _ _ _ rfl rfl rfl hr3 Try.underlying39 rfl info39) rfl ?_
          exact askPost_bad HE.out (by decide) hb3
        · by_cases hf2 : (xs.length : Int) < f
          · have HE : Hid (askE b xs f = 2) := Lib.hid (by unfold askE; rw [if_neg (by rw [HE0.out]; simp), if_neg HM.out, if_neg (by rw [hal.out]; simp), if_pos (.inr hf2)])
            go_wp2_with (first | (refine wpList_store_mid rfl 39 (.tmp 6) (.tmp 40) rfl (w.heap.size + 1) 0 zeroL.toArray rfl rfl A3.there info39 zeroL_one ?_; obtain ⟨W9, hW9, hr3, hb3⟩ := store_zero A3; rw [show zeroL.toArray.toList = zeroL from rfl, hW9]; clear hW9))
            refine bodyPost_ret (v := .tuple #[zeroBox, .bool false, .int .i64 2]) (results_mid3 Try.results12 _ _ (w.heap.size + 1) zeroL _ _ _ rfl rfl rfl hr3 Try.underlying39 rfl info39) rfl ?_
            exact askPost_bad HE.out (by decide) hb3
          · have hq := A3.box.facts h16
            obtain ⟨-, -, -, c26, -, -, cf⟩ := hq
            have c6 : W3.cell? ⟨w.heap.size, 6, none⟩ = some v := A3.box.cell 6 rfl
            by_cases hf3 : b.asked = 100000
            · have HE : Hid (askE b xs f = 9) := Lib.hid (by unfold askE; rw [if_neg (by rw [HE0.out]; simp), if_neg HM.out, if_neg (by rw [hal.out]; simp), if_neg (by omega), if_pos hf3])
              have hq3 : (b.asked == 100000) = true := by simp [hf3]
              clear hf3
              go_wp2_with (first | (refine wpList_store_mid rfl 39 (.tmp 6) (.tmp 45) rfl (w.heap.size + 1) 0 zeroL.toArray rfl rfl A3.there info39 zeroL_one ?_; obtain ⟨W9, hW9, hr3, hb3⟩ := store_zero A3; rw [show zeroL.toArray.toList = zeroL from rfl, hW9]; clear hW9))
              refine bodyPost_ret (v := .tuple #[zeroBox, .bool false, .int .i64 9]) (results_mid3 Try.results12 _ _ (w.heap.size + 1) zeroL _ _ _ rfl rfl rfl hr3 Try.underlying39 rfl info39) rfl ?_
              exact askPost_bad HE.out (by decide) hb3
            · have HE : Hid (askE b xs f = 0) := Lib.hid (by unfold askE; rw [if_neg (by rw [HE0.out]; simp), if_neg HM.out, if_neg (by rw [hal.out]; simp), if_neg (by omega), if_neg hf3])
              have hq3 : (b.asked == 100000) = false := by simpa using hf3
              have ha : b.asked < 100000 := by have := hn; unfold Bx.nums at this; omega
              clear hf3
              have CCl := Clone_any v b.co W3 (hv.below A3.bel) (by omega)
              go_wp2_with (first
                | (go_at_call 39; refine CCl.mono ?_; rintro e W4 ⟨v', rfl, hown, hb⟩; have A4 := A3.step hb; have hb34 := hb; have cf6 := (hb.frozen (p := ⟨w.heap.size, 6, none⟩) A3.box.lt).trans (cf 6); have c64 := (hb.cell (p := ⟨w.heap.size, 6, none⟩) A3.box.lt).trans c6; clear hb; have h1v := ownsRow_one hown; obtain ⟨pa, pc, rfl⟩ := ownsRow_slice hown)
                | (refine wpList_load_mid rfl 39 (.tmp 3) rfl w.heap.size 0 rfl (b.cells (.slice pa b.co.length pc)) _ (A4.set6 h16 _).box.range Try.underlying39 rfl ((Bx.cells_len h16 (.slice pa b.co.length pc)) ▸ info39) ?_))
              refine calls_world ?_
              intro W5 hW5
              have A5 : AskAt w b (.slice pa b.co.length pc) W5 := hW5 ▸ A4.set6 h16 _
              have hbs := A3.siz
              have ho5 : W5.ownsRow W3.heap.size 3 1 (.slice pa b.co.length pc) b.co.length (b.co.map (Value.int .i64)) := hW5 ▸ owns_move hown (fun k hk _ => Below.heap_setCell _ _ _ _ (by show k ≠ w.heap.size; omega))
              have hmv : ∀ k, w.heap.size + 2 ≤ k → k < W3.heap.size → W5.heap[k]? = W3.heap[k]? := fun k hk hlt => by
                rw [← hW5]
                exact (Below.heap_setCell _ _ _ _ (by show k ≠ w.heap.size; omega)).trans (hb34.block k hlt)
              have hl5 : Lists W5 (.slice ua vs.length uc) (memsL b.s.d xs) :=
                Rows.lists (HRW.out.mono (Nat.le_refl _) (fun _ _ _ h => owns_move h (fun k hk hlt => hmv k (by omega) hlt))) (owns_move HUW.out (fun k hk hlt => hmv k (by omega) hlt))
              have CO := opens_any b (.slice pa b.co.length pc) (.slice ua vs.length uc) (memsL b.s.d xs) W5 h16 (Reads.of_owns ho5) hl (listB_pairwise hlist) (by unfold memsL; simp; omega) hl5
              unfold Bx.val at CO
              refine CO.mono ?_
              rintro e W6 ⟨⟨vo, rfl, hvo⟩, hb6⟩
              have A6 := A5.step hb6
              have ho6 := ownsRow_below ho5 hb6
              obtain ⟨oa, oc, rfl⟩ := ownsRow_slice hvo
              have hbo : Bools W6 (.slice oa (memsL b.s.d xs).length oc) (askOs b xs) := by
                have := Reads.of_owns hvo
                unfold Bools
                rw [askOs_len]
                unfold memsL at this ⊢
                rw [List.length_map] at this ⊢
                exact this
              have CA := ask_any w.heap.size b (.slice pa b.co.length pc) _ (askOs b xs) f W6 h16 hn ha rfl A6.box hbo (by rw [askOs_len]; exact hxl) hf1 (by omega)
              have hV : askTo f (askOs b xs) (askOs b xs).length = askV b xs f := rfl
              rw [hV] at CA
              clear CO hl5 hmv HRW HUW hW5 hvo hbo hb6 hV
              go_wp2_with fail
              refine CA.mono ?_
              rintro e W7 ⟨rfl, hbox7, hbut7⟩
              have A7 := A6.but hbox7 hbut7
              have ho7 := owns_move ho6 (fun k hk hlt => hbut7.block k hlt (by omega))
              have hl2 := Bx.cells_len (b := b.after (askV b xs f).1 (askV b xs f).2.1) h16 (.slice pa b.co.length pc)
              have hone := Bx.cells_one (b.after (askV b xs f).1 (askV b xs f).2.1) (v := .slice pa b.co.length pc) rfl
              have hrg := A7.box.range
              have HP := Lib.hid (show ∀ w', w'.ownsRow w.heap.size 3 1 (.slice pa b.co.length pc) b.co.length (b.co.map (Value.int .i64)) → Below w.heap.size w w' → askPost b xs f w (.returned (.tuple #[.agg ((b.after (askV b xs f).1 (askV b xs f).2.1).cells (.slice pa b.co.length pc)).toArray, .bool (askP b (askV b xs f).1 (askV b xs f).2.1 (askV b xs f).2.2), .int .i64 0])) w' from fun w' h1 h2 => ⟨fun h => absurd HE.out h, fun _ => ⟨_, rfl, h1⟩, h2⟩)
              have htr := A7.there
              have hb7 := A7.bel
              clear A7 hbox7 hbut7 CA A6 A5 A4 A3 A2 HE hal c26 c6 cf ho6 ho5 hown cf6 c64
              generalize (b.after (askV b xs f).1 (askV b xs f).2.1).cells (.slice pa b.co.length pc) = L2 at *
              generalize askP b (askV b xs f).1 (askV b xs f).2.1 (askV b xs f).2.2 = pl at *
              obtain ⟨W8, hW8, hr8, hb8, hk8⟩ : ∃ W8, W7.setCells (w.heap.size + 1) 0 L2 = W8 ∧ W8.rangeAt (w.heap.size + 1) 0 L2 ∧ Below w.heap.size w W8 ∧ ∀ k, k ≠ w.heap.size + 1 → W8.heap[k]? = W7.heap[k]? :=
                ⟨_, rfl, World.rangeAt_setCells_same _ _ _ L2 (hl2 ▸ htr), below_setCells _ (by omega) _ _ _ hb7, fun k hk => heap_setCells_ne _ _ hk _ _ _⟩
              have HW8 := Lib.hid hW8
              have HL2 := Lib.hid hl2
              have hi2 : (Try.prog.info? 39).map (·.size) = some L2.length := hl2 ▸ info39
              have hs2 : L2.toArray.size = 28 := by simp [hl2]
              have htr2 : W7.there (w.heap.size + 1) 0 L2.toArray.size := hs2 ▸ htr
              have hi3 : (Try.prog.info? 39).map (·.size) = some L2.toArray.size := hs2 ▸ info39
              clear hs2
              clear hW8 hl2
              go_wp2_with (first
                | (refine wpList_load_mid rfl 39 (.tmp 3) rfl w.heap.size 0 rfl L2 _ hrg Try.underlying39 rfl hi2 ?_)
                | (refine wpList_store_mid rfl 39 (.tmp 6) (.tmp 55) rfl (w.heap.size + 1) 0 L2.toArray rfl rfl htr2 hi3 (all_oneCell_toArray hone) ?_; rw [List.toList_toArray, HW8.out]))
              refine bodyPost_ret (v := .tuple #[.agg L2.toArray, .bool pl, .int .i64 0]) (results_mid3 Try.results12 _ _ (w.heap.size + 1) L2 _ _ _ rfl rfl rfl hr8 Try.underlying39 rfl hi2) rfl ?_
              exact HP.out _ (ownsRow_mono (owns_move ho7 (fun k hk _ => hk8 k (by omega))) (by omega)) hb8
      · have HE : Hid (askE b xs f = 31) := Lib.hid (by unfold askE; rw [if_neg (by rw [HE0.out]; simp), if_neg HM.out, if_pos (not_all_subs hex)])
        have A3 := A2.step hb
        clear hb hex CS
        go_wp2_with (first | (refine wpList_store_mid rfl 39 (.tmp 6) (.tmp 29) rfl (w.heap.size + 1) 0 zeroL.toArray rfl rfl A3.there info39 zeroL_one ?_; obtain ⟨W9, hW9, hr3, hb3⟩ := store_zero A3; rw [show zeroL.toArray.toList = zeroL from rfl, hW9]; clear hW9))
        refine bodyPost_ret (v := .tuple #[zeroBox, .bool false, .int .i64 31]) (results_mid3 Try.results12 _ _ (w.heap.size + 1) zeroL _ _ _ rfl rfl rfl hr3 Try.underlying39 rfl info39) rfl ?_
        exact askPost_bad HE.out (by decide) hb3
  · have hne : (chkBox b != 0) = true := by rw [bne_iff_ne]; exact hE
    have HE := Lib.hid (show askE b xs f = chkBox b from if_pos hE)
    have HZ := Lib.hid hE
    clear hE
    generalize chkBox b = E at *
    go_wp2_with (first
      | (refine wpList_store_mid rfl 39 (.tmp 6) (.tmp 17) rfl (w.heap.size + 1) 0 zeroL.toArray rfl rfl A2.there info39 zeroL_one ?_; obtain ⟨W3, hW3, hr3, hb3⟩ := store_zero A2; rw [show zeroL.toArray.toList = zeroL from rfl, hW3]; clear hW3))
    refine bodyPost_ret (v := .tuple #[zeroBox, .bool false, .int .i64 E]) (results_mid3 Try.results12 _ _ (w.heap.size + 1) zeroL _ _ _ rfl rfl rfl hr3 Try.underlying39 rfl info39) rfl ?_
    exact askPost_bad HE.out HZ.out hb3
end Go.Proofs.Ytpnfghpcpjpppaa
