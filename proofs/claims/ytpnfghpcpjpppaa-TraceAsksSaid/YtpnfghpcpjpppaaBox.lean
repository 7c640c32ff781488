/- The box: its cells; trace.CheckBox. -/
import Derived.Test.YtpnfghpcpjpppaaCip6
import Derived.Test.YtpnfghpcpjpppaaMem
import Derived.Test.YtpnfghpcpjpppaaCnt
namespace Go.Proofs.Ytpnfghpcpjpppaa
open Go.RowKit
set_option linter.unusedVariables false
set_option linter.unusedSimpArgs false

/-- The least of four numbers. -/
def m4 (x y z u : Int) : Int := if u < (if z < (if y < x then y else x) then z else (if y < x then y else x)) then u else (if z < (if y < x then y else x) then z else (if y < x then y else x))
theorem m4_lt (x y z u : Int) : m4 x y z u < 0 ↔ x < 0 ∨ y < 0 ∨ z < 0 ∨ u < 0 := by
  unfold m4
  repeat' split
  all_goals omega
@[go_sem] theorem run_min_int4 {P : Program} (w : World) (ts : Array TypeId) (t : TypeId) (k k' k'' k3 : IntKind) (x y z u : Int) : (Builtin.min_ ts t #[.int k x, .int k' y, .int k'' z, .int k3 u]).run P w = .ok (.int k (m4 x y z u)) w := by
  simp [Builtin.min_, Builtin.min2, m4]
/-- A box, but for where its coalition lies. -/
structure Bx where
  s : Sch
  co : List Int
  mode : Int
  noise : Int
  lives : Int
  seed : List Int
  asked : Int
  mixed : Int
/-- The cells of a box whose coalition is the slice v. -/
def Bx.cells (b : Bx) (v : Value) : List Value :=
  [.int .u8 b.s.k, .int .i64 b.s.d, .int .i64 b.s.g, .int .u64 b.s.p, .int .u64 b.s.q, .int .u64 b.s.r, v, .int .u8 b.mode, .int .i64 b.noise, .int .i64 b.lives] ++ keyL b.seed ++ [.int .i64 b.asked, .int .i64 b.mixed]
def Bx.val (b : Bx) (v : Value) : Value := .agg (b.cells v).toArray

theorem Bx.cells_len {b : Bx} (h : b.seed.length = 16) (v : Value) : (b.cells v).length = 28 := by
  unfold Bx.cells
  simp [keyL_len, h]

/-- The cells of a box in a new block. -/
theorem box_new {b : Bx} (h : b.seed.length = 16) (v : Value) (w : World) (T : TypeId) :
    let W := w.alloc (.cells (b.cells v).toArray T)
    W.cell? ⟨w.heap.size, 0, none⟩ = some (.int .u8 b.s.k) ∧ W.cell? ⟨w.heap.size, 1, none⟩ = some (.int .i64 b.s.d) ∧ W.cell? ⟨w.heap.size, 2, none⟩ = some (.int .i64 b.s.g) ∧
    W.cell? ⟨w.heap.size, 3, none⟩ = some (.int .u64 b.s.p) ∧ W.cell? ⟨w.heap.size, 4, none⟩ = some (.int .u64 b.s.q) ∧ W.cell? ⟨w.heap.size, 5, none⟩ = some (.int .u64 b.s.r) ∧
    W.cell? ⟨w.heap.size, 6, none⟩ = some v ∧ W.cell? ⟨w.heap.size, 7, none⟩ = some (.int .u8 b.mode) ∧ W.cell? ⟨w.heap.size, 8, none⟩ = some (.int .i64 b.noise) ∧ W.cell? ⟨w.heap.size, 9, none⟩ = some (.int .i64 b.lives) ∧
    W.cell? ⟨w.heap.size, 26, none⟩ = some (.int .i64 b.asked) ∧ W.cell? ⟨w.heap.size, 27, none⟩ = some (.int .i64 b.mixed) ∧
    W.rangeAt w.heap.size 0 (b.cells v) ∧ W.rangeAt w.heap.size 10 (keyL b.seed) ∧ (∀ o, W.frozen? ⟨w.heap.size, o, none⟩ = false) := by
  intro W
  have hr : W.rangeAt w.heap.size 0 (b.cells v) := range_new w _ T
  have hl := (keyL_len b.seed).trans h
  have key : ∀ j u, (b.cells v)[j]? = some u → W.cell? ⟨w.heap.size, j, none⟩ = some u := fun j u hu => by
    have := hr j u hu
    rwa [Nat.zero_add] at this
  refine ⟨key 0 _ rfl, key 1 _ rfl, key 2 _ rfl, key 3 _ rfl, key 4 _ rfl, key 5 _ rfl, key 6 _ rfl, key 7 _ rfl, key 8 _ rfl, key 9 _ rfl, key 26 _ ?_, key 27 _ ?_, hr, fun j u hu => key _ _ ?_, fun o => by simp [W, go_sem]⟩
  · unfold Bx.cells; rw [List.getElem?_append_right (by simp [hl])]; simp [hl]
  · unfold Bx.cells; rw [List.getElem?_append_right (by simp [hl])]; simp [hl]
  · have hj : j < 16 := by have := (List.getElem?_eq_some_iff.1 hu).1; omega
    unfold Bx.cells
    rw [List.append_assoc, List.getElem?_append_right (by simp), List.getElem?_append_left (by simp [hl]; omega)]
    simpa using hu

/-- Receiver number i of a list fits. -/
def fitB (d : Int) (co : List Int) (i : Nat) : Bool := decide (0 ≤ co.getD i 0 ∧ co.getD i 0 < sz d ∧ (i = 0 ∨ co.getD (i - 1) 0 < co.getD i 0))
/-- A list of receivers. -/
def listB (d : Int) (co : List Int) : Bool := (List.range co.length).all (fitB d co)
/-- The numbers of a box. -/
def Bx.nums (b : Bx) : Prop := 1 ≤ b.mode ∧ b.mode ≤ 4 ∧ 0 ≤ b.noise ∧ b.noise ≤ 8 ∧ 0 ≤ b.lives ∧ b.lives ≤ 8 ∧ 0 ≤ b.asked ∧ b.asked ≤ 100000 ∧ 0 ≤ b.mixed ∧ b.mixed ≤ b.asked
instance (b : Bx) : Decidable b.nums := by unfold Bx.nums; exact inferInstance
/-- trace.CheckBox. -/
def chkBox (b : Bx) : Int := if ¬ b.s.ok then 30 else if listB b.s.d b.co = true ∧ b.nums then 0 else 8

theorem CheckBox_bad (b : Bx) (v : Value) (w : World) (h16 : b.seed.length = 16) (hs : ¬ b.s.ok) :
    Calls Try.prog 15 #[b.val v] w fun e w' => e = .returned (.int .i64 30) ∧ Below w.heap.size w w' := by
  have hn := box_new h16 v w 39
  unfold Bx.val
  have C := fun w => Check_any b.s.k b.s.d b.s.g b.s.p b.s.q b.s.r w
  rw [show chk ⟨b.s.k, b.s.d, b.s.g, b.s.p, b.s.q, b.s.r⟩ = 30 from if_neg hs] at C
  generalize b.cells v = L at *
  dsimp only at hn
  obtain ⟨c0, c1, c2, c3, c4, c5, c6, c7, c8, c9, c26, c27, cr, ck, cf⟩ := hn
  clear cr ck hs
  go_enter Try.func15, Try.ntmps15
  go_wp2_with (go_at_call 35; refine (C _).mono ?_; rintro e w1 ⟨rfl, hb⟩; obtain ⟨hb, hz, hc, hf, hlt, hne⟩ := afterK (N := w.heap.size + 1) (w := w) hb (by (repeat' (first | (with_reducible exact Below.refl _ _) | (with_reducible assumption) | (with_reducible refine Below.alloc ?_ ?_ _) | (with_reducible refine Below.drew ?_) | (with_reducible refine below_drewN _ ?_) | (with_reducible refine Below.setCell ?_ ?_ _) | (with_reducible refine Below.frame ?_ _) | go_size | (simp only [size_alloc, size_setCell, size_drew, size_drewN]; omega)))) (by first | go_size | (simp only [size_alloc, size_setCell, size_drew, size_drewN]; omega)); have hq0 : w.heap.size < w1.heap.size := (by omega))
  go_returns
  exact ⟨rfl, by (repeat' (first | (with_reducible exact Below.refl _ _) | (with_reducible assumption) | (with_reducible refine Below.alloc ?_ ?_ _) | (with_reducible refine Below.drew ?_) | (with_reducible refine below_drewN _ ?_) | (with_reducible refine Below.setCell ?_ ?_ _) | (with_reducible refine Below.frame ?_ _) | go_size | (simp only [size_alloc, size_setCell, size_drew, size_drewN]; omega)))⟩

theorem listB_iff {d : Int} {co : List Int} : listB d co = true ↔ ∀ i, i < co.length → fitB d co i = true := by
  unfold listB
  rw [List.all_eq_true]
  exact ⟨fun h i hi => h i (List.mem_range.2 hi), fun h i hi => h i (List.mem_range.1 hi)⟩

set_option maxHeartbeats 2000000 in
theorem CheckBox_ok (b : Bx) (v : Value) (w : World) (h16 : b.seed.length = 16) (hs : b.s.ok) (hv : Ints w v b.co) :
    Calls Try.prog 15 #[b.val v] w fun e w' => e = .returned (.int .i64 (if listB b.s.d b.co = true ∧ b.nums then 0 else 8)) ∧ Below w.heap.size w w' := by
  have hn := box_new h16 v w 39
  unfold Bx.val
  have C := fun w => Check_any b.s.k b.s.d b.s.g b.s.p b.s.q b.s.r w
  rw [show chk ⟨b.s.k, b.s.d, b.s.g, b.s.p, b.s.q, b.s.r⟩ = 0 from if_pos hs] at C
  obtain ⟨-, -, d0, d6, -⟩ := hs
  obtain ⟨z1, z2⟩ := sz_bd _ d0 d6
  obtain ⟨E, hE⟩ : ∃ E : Int, E = if listB b.s.d b.co = true ∧ b.nums then 0 else 8 := ⟨_, rfl⟩
  rw [← hE]
  have HE0 := Lib.hid (fun (h1 : ¬ (listB b.s.d b.co = true)) => show E = 8 from hE.trans (if_neg fun h => h1 h.1))
  have HE1 := Lib.hid (fun (h1 : listB b.s.d b.co = true) => show E = if b.nums then 0 else 8 from hE.trans (by rw [h1]; simp))
  clear hE
  obtain ⟨a, cap, rfl, hcap, hmax, hcell⟩ := hv.open
  clear hv
  unfold maxLen at hmax
  have HC := Lib.hid hcell
  clear hcell
  generalize b.cells (.slice a b.co.length cap) = L at *
  dsimp only at hn
  obtain ⟨c0, c1, c2, c3, c4, c5, c6, c7, c8, c9, c26, c27, cr, ck, cf⟩ := hn
  clear cr ck
  go_enter Try.func15, Try.ntmps15
  go_wp2_with (go_at_call 35; refine (C _).mono ?_; rintro e w1 ⟨rfl, hb⟩; obtain ⟨hb, hz, hc, hf, hlt, hne⟩ := afterK (N := w.heap.size + 1) (w := w) hb (by (repeat' (first | (with_reducible exact Below.refl _ _) | (with_reducible assumption) | (with_reducible refine Below.alloc ?_ ?_ _) | (with_reducible refine Below.drew ?_) | (with_reducible refine below_drewN _ ?_) | (with_reducible refine Below.setCell ?_ ?_ _) | (with_reducible refine Below.frame ?_ _) | go_size | (simp only [size_alloc, size_setCell, size_drew, size_drewN]; omega)))) (by first | go_size | (simp only [size_alloc, size_setCell, size_drew, size_drewN]; omega)); have hq0 : w.heap.size < w1.heap.size := (by omega))
  have k0 := (hc _ 0 (Nat.lt_succ_self _)).trans c0
  have k1 := (hc _ 1 (Nat.lt_succ_self _)).trans c1
  have k6 := (hc _ 6 (Nat.lt_succ_self _)).trans c6
  have k7 := (hc _ 7 (Nat.lt_succ_self _)).trans c7
  have k8 := (hc _ 8 (Nat.lt_succ_self _)).trans c8
  have k9 := (hc _ 9 (Nat.lt_succ_self _)).trans c9
  have k26 := (hc _ 26 (Nat.lt_succ_self _)).trans c26
  have k27 := (hc _ 27 (Nat.lt_succ_self _)).trans c27
  clear c0 c1 c2 c3 c4 c5 c6 c7 c8 c9 c26 c27 cf hc hf C
  have hsh : (1 : Int) * 2 ^ b.s.d.toNat = sz b.s.d := by unfold sz; omega
  go_loopw [15] (fun i wr => ∃ j : Nat, j ≤ b.co.length ∧ i = .int .i64 j ∧ wr = w1 ∧ Hid (∀ i, i < j → fitB b.s.d b.co i = true))
    (fun i _ => b.co.length - (intOf i).toNat)
  case atStart => exact ⟨0, Nat.zero_le _, rfl, rfl, fun i hi => absurd hi (Nat.not_lt_zero i)⟩
  case round =>
    obtain ⟨j, hj, rfl, rfl, HP⟩ := hrel
    by_cases hlt : j < b.co.length
    · have HS := Lib.hid (fun (h : 0 ≤ b.co.getD j 0 ∧ b.co.getD j 0 < sz b.s.d ∧ (j = 0 ∨ b.co.getD (j - 1) 0 < b.co.getD j 0)) (i : Nat) (hi : i < j + 1) => show fitB b.s.d b.co i = true from by
        by_cases he : i = j
        · subst he; exact decide_eq_true h
        · exact HP.out i (by omega))
      have HN := Lib.hid (fun (h : ¬ (0 ≤ b.co.getD j 0 ∧ b.co.getD j 0 < sz b.s.d ∧ (j = 0 ∨ b.co.getD (j - 1) 0 < b.co.getD j 0))) => show (8 : Int) = E from (HE0.out fun hl => by have h8 := listB_iff.1 hl j hlt; rw [show fitB b.s.d b.co j = false from decide_eq_false h] at h8; cases h8).symm)
      clear HP HE0 HE1
      obtain ⟨g, off, rfl, e0⟩ := HC.out j hlt
      have e0r := (hb.cell (p := ⟨g, off + j, none⟩) (cell_lt' e0)).trans e0
      have h2 : 0 < j → wr.cell? ⟨g, off + (j - 1), none⟩ = some (.int .i64 (b.co.getD (j - 1) 0)) := fun h0 => by
        obtain ⟨g', off', he, e1⟩ := HC.out (j - 1) (by omega)
        simp only [Option.some.injEq, Addr.mk.injEq, and_true] at he
        obtain ⟨rfl, rfl⟩ := he
        exact (hb.cell (p := ⟨g, off + (j - 1), none⟩) (cell_lt' e1)).trans e1
      clear e0 HC
      generalize b.co.getD j 0 = u at *
      generalize b.co.getD (j - 1) 0 = p at *
      generalize b.co.length = n at *
      rcases j with _ | j
      · have e0z : wr.cell? ⟨g, off, none⟩ = some (.int .i64 u) := e0r
        clear e0r h2
        go_wp2_with fail
        all_goals first
          | (go_returns; have h8 := HN.out (by omega); subst h8; exact ⟨rfl, hb⟩)
          | (go_roundw
             case rel => exact ⟨1, by omega, rfl, trivial, HS.out ⟨by omega, by omega, .inl rfl⟩⟩
             case measure => simp [intOf]; omega)
      · have e1 : wr.cell? ⟨g, off + j, none⟩ = some (.int .i64 p) := h2 (by omega)
        have hm : ((↑(j + 1) : Int) - 1) = ↑j := by omega
        clear h2
        go_wp2_with fail
        all_goals first
          | (go_returns; have h8 := HN.out (by omega); subst h8; exact ⟨rfl, hb⟩)
          | (go_roundw
             case rel => exact ⟨j + 1 + 1, by omega, by go_num, trivial, HS.out ⟨by omega, by omega, .inr (by omega)⟩⟩
             case measure => simp [intOf]; omega)
    · obtain rfl : j = b.co.length := by omega
      have hE := HE1.out (listB_iff.2 HP.out)
      have HY := Lib.hid (fun (h : b.nums) => show (0 : Int) = E from (hE.trans (if_pos h)).symm)
      have HN := Lib.hid (fun (h : ¬ b.nums) => show (8 : Int) = E from (hE.trans (if_neg h)).symm)
      unfold Bx.nums at HY HN
      have HM := Lib.hid (m4_lt b.noise b.lives b.asked b.mixed)
      clear hE HE0 HE1 HP HC k0 k1 k6
      go_wp2_with fail
      all_goals first
        | (go_returns; have hm := HM.out; have h8 := HN.out (by omega); subst h8; exact ⟨rfl, hb⟩)
        | (go_returns; have hm := HM.out; have h8 := HY.out (by omega); subst h8; exact ⟨rfl, hb⟩)
        | trace_state

theorem CheckBox_any (b : Bx) (v : Value) (w : World) (h16 : b.seed.length = 16) (hv : Ints w v b.co) :
    Calls Try.prog 15 #[b.val v] w fun e w' => e = .returned (.int .i64 (chkBox b)) ∧ Below w.heap.size w w' := by
  unfold chkBox
  by_cases hs : b.s.ok
  · rw [if_neg (not_not_intro hs)]
    exact CheckBox_ok b v w h16 hs hv
  · rw [if_pos hs]
    exact CheckBox_bad b v w h16 hs
end Go.Proofs.Ytpnfghpcpjpppaa
