/- trace.opens: whether an item for a subset is open to a box. -/
import Derived.Test.YtpnfghpcpjpppaaSubs
import Derived.Test.YtpnfghpcpjpppaaShelf
namespace Go.Proofs.Ytpnfghpcpjpppaa
open Go.RowKit
set_option linter.unusedVariables false
set_option linter.unusedSimpArgs false

theorem Search_any (v : Value) (zs : List Int) (x : Int) (w : World) (hv : Ints w v zs) (hl : zs.length ≤ 100) (hs : zs.Pairwise (· ≤ ·)) :
    Calls Try.prog 74 #[v, .int .i64 x] w fun e w' => (∃ n : Int, e = .returned (.tuple #[.int .i64 n, .bool (zs.contains x)])) ∧ Below w.heap.size w w' := by
  obtain ⟨a, cap, rfl, hcap, hmax, hcell⟩ := hv.open
  rcases Nat.eq_zero_or_pos zs.length with h0 | h0
  · have hz : zs = [] := List.length_eq_zero_iff.1 h0
    subst hz
    refine (Try.slices_BinarySearch_int_empty a cap x w).mono ?_
    rintro e w' ⟨rfl, rfl⟩
    exact ⟨⟨_, rfl⟩, Below.refl _ _⟩
  · obtain ⟨b, off, rfl, -⟩ := hcell 0 h0
    refine (Try.slices_BinarySearch_int b off zs.length cap zs x w (Nat.le_refl _) (by omega) (fun j hj => ?_) (by rwa [List.take_length])).mono ?_
    · obtain ⟨b', off', he, hc⟩ := hcell j hj
      simp only [Option.some.injEq, Addr.mk.injEq, and_true] at he
      obtain ⟨rfl, rfl⟩ := he
      exact hc
    · rintro e w' ⟨rfl, q, rfl⟩
      rw [List.take_length]
      exact ⟨⟨_, rfl⟩, below_drewN q (Below.refl _ _)⟩

/-- The function that opens hands to ContainsFunc: bound to the block of a box. -/
theorem open1_any (B : Nat) (v : Value) (zs : List Int) (x : Int) (w : World) (hc : w.cell? ⟨B, 6, none⟩ = some v) (hv : Ints w v zs) (hl : zs.length ≤ 100) (hs : zs.Pairwise (· ≤ ·)) :
    Calls Try.prog 73 #[.int .i64 x, .pointer (some ⟨B, 0, none⟩)] w fun e w' => e = .returned (.bool (zs.contains x)) ∧ Below w.heap.size w w' := by
  have C := Search_any v zs x w hv hl hs
  obtain ⟨a, cap, rfl, -⟩ := hv.open
  clear hv hs
  generalize zs.contains x = r at *
  go_enter Try.func73, Try.ntmps73
  go_wp2_with (go_at_call 74; refine C.mono ?_; rintro e w1 ⟨⟨n, rfl⟩, hb⟩)
  go_returns
  exact ⟨rfl, hb⟩

/-- Does one of the integers lie in the list? -/
def anyIn (zs co : List Int) : Bool := zs.any fun u => co.contains u

set_option maxHeartbeats 1000000 in
theorem IndexFunc_any (B : Nat) (v vm : Value) (co zs : List Int) (w : World) (hc : w.cell? ⟨B, 6, none⟩ = some v) (hv : Ints w v co) (hl : co.length ≤ 100) (hs : co.Pairwise (· ≤ ·)) (hm : Ints w vm zs) :
    Calls Try.prog 104 #[vm, .func (.func 73) #[] #[.pointer (some ⟨B, 0, none⟩)]] w fun e w' => (∃ n : Int, e = .returned (.int .i64 n) ∧ decide (0 ≤ n) = anyIn zs co) ∧ Below w.heap.size w w' := by
  have C := fun x W (hb : Below w.heap.size w W) => open1_any B v co x W ((hb.cell (p := ⟨B, 6, none⟩) (cell_lt' hc)).trans hc) (hv.below hb) hl hs
  clear hc hv hs hl
  obtain ⟨a, cap, rfl, hcap, hmax, hcell⟩ := hm.open
  clear hm
  unfold maxLen at hmax
  have HC := Lib.hid hcell
  clear hcell
  have eg : ∀ args w, (callFunc 73 args).run Try.prog w = .ok (.enter 73 args) w := enters_of Try.func73 (by kernel_rfl) rfl
  go_enter Try.func104, Try.ntmps104
  go_wp2_with fail
  go_loopw [8] (fun i wr => ∃ j : Nat, j ≤ zs.length ∧ i = .int .i64 j ∧ Below w.heap.size w wr ∧ Hid (∀ i, i < j → co.contains (zs.getD i 0) = false))
    (fun i _ => zs.length - (intOf i).toNat)
  case atStart => exact ⟨0, Nat.zero_le _, rfl, Below.refl _ _, fun i hi => absurd hi (Nat.not_lt_zero i)⟩
  case round =>
    obtain ⟨j, hj, rfl, hB, HP⟩ := hrel
    by_cases hlt : j < zs.length
    · obtain ⟨b, off, rfl, e0⟩ := HC.out j hlt
      have e0r := (hB.cell (p := ⟨b, off + j, none⟩) (cell_lt' e0)).trans e0
      clear e0
      have C2 := C (zs.getD j 0) wr hB
      have hany : co.contains (zs.getD j 0) = true → anyIn zs co = true := fun h => by
        unfold anyIn
        rw [List.any_eq_true]
        exact ⟨zs.getD j 0, by rw [show zs.getD j 0 = zs[j] from by simp [List.getD, hlt]]; exact List.getElem_mem hlt, h⟩
      have HP1 := fun (h : co.contains (zs.getD j 0) = false) (i : Nat) (hi : i < j + 1) => show co.contains (zs.getD i 0) = false from by
        by_cases he : i = j
        · subst he; exact h
        · exact HP.out i (by omega)
      clear C HP
      cases hr : co.contains (zs.getD j 0) with
      | true =>
        have HA := Lib.hid (hany hr)
        rw [hr] at C2
        clear hr hany HP1
        generalize zs.getD j 0 = u at *
        go_wp2_with (go_at_fn 73; refine C2.mono ?_; rintro e w1 ⟨rfl, hb⟩)
        go_returns
        exact ⟨⟨_, rfl, by rw [HA.out]; simp⟩, hB.trans (hb.mono hB.size)⟩
      | false =>
        have HP2 := Lib.hid (HP1 hr)
        rw [hr] at C2
        clear hr hany HP1
        generalize zs.getD j 0 = u at C2 e0r
        go_wp2_with (go_at_fn 73; refine C2.mono ?_; rintro e w1 ⟨rfl, hb⟩)
        go_roundw
        case rel => exact ⟨j + 1, hlt, by go_num, hB.trans (hb.mono hB.size), HP2⟩
        case measure => simp [intOf]; omega
    · obtain rfl : j = zs.length := by omega
      have HA := Lib.hid (show anyIn zs co = false from by
        unfold anyIn
        rw [List.any_eq_false]
        intro x hx
        obtain ⟨i, hi, rfl⟩ := List.mem_iff_getElem.1 hx
        have := HP.out i hi
        rw [show zs.getD i 0 = zs[i] from by simp [List.getD, hi]] at this
        rw [this]; simp)
      clear HP HC C
      go_wp2_with fail
      go_returns
      exact ⟨⟨_, rfl, by rw [HA.out]; rfl⟩, hB⟩

theorem Contains_any (B : Nat) (v vm : Value) (co zs : List Int) (w : World) (hc : w.cell? ⟨B, 6, none⟩ = some v) (hv : Ints w v co) (hl : co.length ≤ 100) (hs : co.Pairwise (· ≤ ·)) (hm : Ints w vm zs) :
    Calls Try.prog 72 #[vm, .func (.func 73) #[] #[.pointer (some ⟨B, 0, none⟩)]] w fun e w' => e = .returned (.bool (anyIn zs co)) ∧ Below w.heap.size w w' := by
  have C := IndexFunc_any B v vm co zs w hc hv hl hs hm
  obtain ⟨a, cap, rfl, -⟩ := hm.open
  clear hm hc hv hs hl
  generalize anyIn zs co = r at *
  go_enter Try.func72, Try.ntmps72
  go_wp2_with (go_at_call 104; refine C.mono ?_; rintro e w1 ⟨⟨n, rfl, hn⟩, hb⟩)
  go_returns
  exact ⟨by rw [← hn]; rfl, hb⟩

theorem reads1_open {w : World} {v : Value} {n : Nat} {xs : List Value} (h : Reads 1 w v n xs) : ∃ a cap, v = .slice a n cap ∧ n ≤ cap ∧ cap ≤ maxLen ∧ xs.length = n ∧
    (∀ i, i < n → ∃ b off, a = some ⟨b, off, none⟩ ∧ w.cell? ⟨b, off + i, none⟩ = some (xs.getD i undef)) := by
  obtain ⟨h0, a, cap, h1, h2, h3, h4⟩ := h
  refine ⟨a, cap, h1, h2, h3, by omega, fun i hi => ?_⟩
  obtain ⟨b, off, ha, hc⟩ := h4 (by omega)
  refine ⟨b, off, ha, hc i _ ?_⟩
  rw [List.getElem?_eq_getElem (by omega)]
  simp [List.getD, show i < xs.length from by omega]

/-- A slice of slices of integers. -/
def Lists (w : World) (v : Value) (zss : List (List Int)) : Prop := ∃ vs, vs.length = zss.length ∧ Reads 1 w v zss.length vs ∧ ∀ i, i < zss.length → Ints w (vs.getD i undef) (zss.getD i [])
theorem Lists.below {w w' : World} {v : Value} {zss : List (List Int)} (h : Lists w v zss) (hb : Below w.heap.size w w') : Lists w' v zss := by
  obtain ⟨vs, h1, h2, h3⟩ := h
  exact ⟨vs, h1, h2.below hb, fun i hi => (h3 i hi).below hb⟩
theorem Rows.lists {w : World} {base : Nat} {u : Value} {vs : List Value} {zss : List (List Int)} (h : Rows w base vs zss) (hu : w.ownsRow base 35 1 u vs.length vs) : Lists w u zss := by
  refine ⟨vs, h.1, ?_, fun i hi => ?_⟩
  · have := Reads.of_owns hu
    rwa [h.1] at this
  · exact Reads.of_owns (h.2 i hi)

/-- Are the items open? -/
def opensL (co : List Int) (zss : List (List Int)) : List Bool := zss.map fun zs => anyIn zs co
theorem opensL_succ (co : List Int) (zss : List (List Int)) (j : Nat) (h : j < zss.length) : opensL co (zss.take (j + 1)) = opensL co (zss.take j) ++ [anyIn (zss.getD j []) co] := by
  unfold opensL
  rw [List.take_add_one, List.map_append]
  simp [List.getElem?_eq_getElem h, List.getD]
theorem opensL_len (co : List Int) (zss : List (List Int)) : (opensL co zss).length = zss.length := by unfold opensL; simp

theorem Try.info4 : (Try.prog.info? 4).map (fun i => (i.zero, i.size, i.bytes)) = some (some (.bool false), 1, 1) := by kernel_rfl

set_option maxRecDepth 20000 in
set_option maxHeartbeats 2000000 in
theorem opens_any (b : Bx) (v vm : Value) (zss : List (List Int)) (w : World) (h16 : b.seed.length = 16) (hv : Ints w v b.co) (hl : b.co.length ≤ 100) (hs : b.co.Pairwise (· ≤ ·)) (hz : zss.length ≤ 100) (hm : Lists w vm zss) :
    Calls Try.prog 41 #[b.val v, vm] w fun e w' => (∃ u, e = .returned u ∧ w'.ownsRow w.heap.size 4 1 u zss.length ((opensL b.co zss).map Value.bool)) ∧ Below w.heap.size w w' := by
  have hn := box_new h16 v w 39
  unfold Bx.val
  generalize b.cells v = L at *
  dsimp only at hn
  obtain ⟨-, -, -, -, -, -, c6, -, -, -, -, -, -, -, cf⟩ := hn
  clear cf
  obtain ⟨vs, hvs, hvm, hel⟩ := hm
  obtain ⟨a, cap, rfl, hcap, hmax, -, hcell⟩ := reads1_open hvm
  clear hvm
  unfold maxLen at hmax
  have HC := Lib.hid hcell
  have HE := Lib.hid hel
  clear hcell hel
  obtain ⟨i0, hi, iz0, iz1, iz2⟩ := info_parts Try.info4
  go_enter Try.func41, Try.ntmps41
  go_wp2_with fail
  obtain ⟨W1, hW1⟩ : ∃ W1, w.alloc (.cells L.toArray 39) = W1 := ⟨_, rfl⟩
  have hB1 : Below w.heap.size w W1 := by rw [← hW1]; exact (Below.refl _ _).alloc (Nat.le_refl _) _
  have hs1 : w.heap.size + 1 ≤ W1.heap.size := by rw [← hW1]; simp
  rw [hW1] at c6 ⊢
  clear hW1
  have CC := fun (W : World) (v' : Value) (zs : List Int) (h2 : Below (w.heap.size + 1) W1 W) (hW : Below w.heap.size w W) (h : Ints w v' zs) => Contains_any w.heap.size v v' b.co zs W ((h2.cell (p := ⟨w.heap.size, 6, none⟩) (Nat.lt_succ_self _)).trans c6) (hv.below hW) hl hs (h.below hW)
  clear c6 hv hl hs
  go_loopw [5, 10] (fun o i wr => ∃ j : Nat, j ≤ zss.length ∧ i = .int .i64 j ∧ wr.ownsRow (w.heap.size + 1) 4 1 o j ((opensL b.co (zss.take j)).map Value.bool) ∧ Below (w.heap.size + 1) W1 wr ∧ Below w.heap.size w wr)
    (fun _ i _ => zss.length - (intOf i).toNat)
  case atStart => exact ⟨0, Nat.zero_le _, rfl, World.ownsRow_nil _ _ _ _, Below.refl _ _, hB1⟩
  case round =>
    obtain ⟨j, hj, rfl, hown, hB2, hB⟩ := hrel
    by_cases hlt : j < zss.length
    · obtain ⟨g, off, rfl, e0⟩ := HC.out j hlt
      have e0r := (hB.cell (p := ⟨g, off + j, none⟩) (cell_lt' e0)).trans e0
      clear e0
      have hI := HE.out j hlt
      have C2 := CC wr _ _ hB2 hB hI
      have hsucc := Lib.hid (opensL_succ b.co zss j hlt)
      obtain ⟨a', cap', hf, -⟩ := hI.open
      rw [hf] at e0r C2
      have hzr : w.heap.size + 1 ≤ wr.heap.size := Nat.le_trans hs1 hB2.size
      clear CC hI hf
      generalize anyIn (zss.getD j []) b.co = r at *
      generalize (zss.getD j []).length = n' at *
      generalize hO : opensL b.co (zss.take j) = O at *
      clear hO
      go_wp2_with (first
        | (go_at_call 72; refine C2.mono ?_; rintro e w2 ⟨rfl, hb2⟩; have hown2 := ownsRow_below hown hb2; have hz2 := hb2.size; have hB22 := hB2.trans (hb2.mono hzr); have hBB := hB.trans (hb2.mono hB.size))
        | (at_builtin; refine wpList_append_own _ rfl _ _ 92 rfl (w.heap.size + 1) 4 i0 (.bool false) 1 1 Try.underlying92 hi iz0 iz1 iz2 rfl (by decide) _ _ _ rfl (hown2.alloc _) ⟨_, 0, none⟩ 1 1 [.bool r] rfl rfl (cell_one_new _ _ _) (by intro u hu; simp at hu; subst hu; rfl) (by unfold maxLen; omega) (by omega) (by first | omega | (simp; omega)) ?_; intro v' w3 hown3 hgrow3 hnil3))
      go_roundw
      case rel =>
        refine ⟨j + 1, hlt, by go_num, ?_, app_below hB22 hown2 (Nat.le_refl _) (by omega) hgrow3, app_below hBB hown2 (by omega) (by omega) hgrow3⟩
        rw [hsucc.out, List.map_append]
        exact hown3
      case measure => simp [intOf]; omega
    · obtain rfl : j = zss.length := by omega
      have hown' := Lib.hid (show wr.ownsRow w.heap.size 4 1 u5 zss.length ((opensL b.co zss).map Value.bool) from by have := ownsRow_mono (base' := w.heap.size) hown (Nat.le_succ _); rwa [List.take_length] at this)
      clear hown CC HE HC
      go_wp2_with fail
      go_returns
      exact ⟨⟨_, rfl, hown'.out⟩, hB⟩
end Go.Proofs.Ytpnfghpcpjpppaa
