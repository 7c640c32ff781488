/- The cipher: rotations, rounds, the iterator of the round keys. -/
import Derived.Test.YtpnfghpcpjpppaaCip1
import Derived.Test.YtpnfghpcpjpppaaGives
import Derived.Laws.Closers25b
namespace Go.Proofs.Ytpnfghpcpjpppaa
open Go.RowKit Go.Shelf
set_option linter.unusedVariables false
set_option linter.unusedSimpArgs false
attribute [local go_sem] Oper.semAt_some

def w8 (x : Int) : Int := bits .or .u64 (IntKind.u64.wrap (x * 72057594037927936)) (x / 256)
def l3 (x : Int) : Int := bits .or .u64 (IntKind.u64.wrap (x * 8)) (x / 2305843009213693952)

theorem rot_w8 (x : Int) (w : World) (h0 : 0 ≤ x) (h1 : x ≤ 18446744073709551615) :
    Calls Try.prog 121 #[.int .u64 x, .int .i64 (-8)] w fun e w' => e = .returned (.int .u64 (w8 x)) ∧ w = w' := by
  have e1 : bits BinOp.and IntKind.u64 (IntKind.u64.wrap (-8)) 63 = 56 := by kernel_rfl
  unfold w8
  go_enter Try.func121, Try.ntmps121
  go_wp2
  go_returns
  exact ⟨rfl, rfl⟩
theorem rot_l3 (x : Int) (w : World) (h0 : 0 ≤ x) (h1 : x ≤ 18446744073709551615) :
    Calls Try.prog 121 #[.int .u64 x, .int .i64 3] w fun e w' => e = .returned (.int .u64 (l3 x)) ∧ w = w' := by
  have e2 : bits BinOp.and IntKind.u64 3 63 = 3 := by kernel_rfl
  unfold l3
  go_enter Try.func121, Try.ntmps121
  go_wp2
  go_returns
  exact ⟨rfl, rfl⟩

/-- A round. -/
def rndX (x y k : Int) : Int := bits .xor .u64 (IntKind.u64.wrap (w8 x + y)) k
def rndY (x y k : Int) : Int := bits .xor .u64 (l3 y) (rndX x y k)
def rnd (p : Int × Int) (k : Int) : Int × Int := (rndX p.1 p.2 k, rndY p.1 p.2 k)
def inW (x : Int) : Prop := 0 ≤ x ∧ x ≤ 18446744073709551615
theorem rndX_in (x y k : Int) : inW (rndX x y k) := ⟨bits_lo_u64 _ _ _, bits_hi_u64 _ _ _⟩
theorem rndY_in (x y k : Int) : inW (rndY x y k) := ⟨bits_lo_u64 _ _ _, bits_hi_u64 _ _ _⟩

set_option maxHeartbeats 1000000 in
theorem round_any (x y k : Int) (w : World) (hx : inW x) (hy : inW y) :
    Calls Try.prog 88 #[.agg #[.int .u64 x, .int .u64 y], .int .u64 k] w fun e w' => e = .returned (.agg #[.int .u64 (rndX x y k), .int .u64 (rndY x y k)]) ∧ Below w.heap.size w w' := by
  have C1 := fun w => rot_w8 x w hx.1 hx.2
  have C2 := fun w => rot_l3 y w hy.1 hy.2
  obtain ⟨y0, y1⟩ := hy
  unfold rndY rndX
  generalize w8 x = a at *
  generalize l3 y = b at *
  go_enter Try.func88, Try.ntmps88
  go_wp2
  go_quiet ((go_at_call 121; exact quiet_same (C1 _)))
  go_wp2_with (go_at_call 121; refine (C2 _).mono ?_; rintro e w1 ⟨rfl, rfl⟩)
  go_returns
  exact ⟨rfl, by (repeat' (first | (with_reducible exact Below.refl _ _) | (with_reducible assumption) | (with_reducible refine Below.alloc ?_ ?_ _) | (with_reducible refine Below.drew ?_) | (with_reducible refine below_drewN _ ?_) | (with_reducible refine Below.setCell ?_ ?_ _) | (with_reducible refine Below.frame ?_ _) | go_size | (simp only [size_alloc, size_setCell, size_drew, size_drewN]; omega)))⟩

theorem bits_in (op : BinOp) (a b : Int) : inW (bits op .u64 a b) := ⟨bits_lo_u64 _ _ _, bits_hi_u64 _ _ _⟩
theorem wpre_in (l : List Int) (j : Nat) : inW (wpre l j) := by
  unfold wpre
  generalize l.take j = m
  suffices h : ∀ (m : List Int) (a : Int), inW a → inW (m.foldl (fun a c => bits .or .u64 (IntKind.u64.wrap (a * 256)) (IntKind.u64.wrap c)) a) from h m 0 ⟨by omega, by omega⟩
  intro m
  induction m with
  | nil => intro a h; exact h
  | cons c m ih => intro a h; exact ih _ (bits_in _ _ _)

/-- What makes the round keys: after i rounds. -/
def kst (p : Int × Int) : Nat → Int × Int
  | 0 => p
  | i + 1 => rnd (kst p i) i
theorem kst_in {p : Int × Int} (h : inW p.1 ∧ inW p.2) : ∀ i, inW (kst p i).1 ∧ inW (kst p i).2
  | 0 => h
  | i + 1 => ⟨rndX_in _ _ _, rndY_in _ _ _⟩
/-- The round keys, with their numbers. -/
def keysTo (p : Int × Int) (n : Nat) : List (Nat × Int) := (List.range n).map fun i => (i, (kst p i).2)
theorem keysTo_succ (p : Int × Int) (n : Nat) : keysTo p (n + 1) = keysTo p n ++ [(n, (kst p n).2)] := by
  unfold keysTo; rw [List.range_succ, List.map_append]; rfl
theorem keysTo_prefix (p : Int × Int) {n m : Nat} (h : n ≤ m) : keysTo p n <+: keysTo p m := by
  obtain ⟨k, rfl⟩ := Nat.exists_eq_add_of_le h
  clear h
  induction k with
  | zero => exact List.prefix_refl _
  | succ k ih => exact ih.trans ⟨[_], (keysTo_succ p (n + k)).symm⟩

set_option maxHeartbeats 2000000 in
theorem keys_run (n : Nat) (hn : 1 ≤ n) (B : Nat) (ks : Fin 16 → Int) (w : World) (p : Int × Int) (hB : B < w.heap.size) (hp : inW p.1 ∧ inW p.2)
    (hw : ∀ w, Calls Try.prog 86 #[.agg #[.int .u8 (ks 0), .int .u8 (ks 1), .int .u8 (ks 2), .int .u8 (ks 3), .int .u8 (ks 4), .int .u8 (ks 5), .int .u8 (ks 6), .int .u8 (ks 7), .int .u8 (ks 8), .int .u8 (ks 9), .int .u8 (ks 10), .int .u8 (ks 11), .int .u8 (ks 12), .int .u8 (ks 13), .int .u8 (ks 14), .int .u8 (ks 15)]] w fun e w' => e = .returned (.agg #[.int .u64 p.1, .int .u64 p.2]) ∧ Below w.heap.size w w')
    (hc : ∀ i : Fin 16, w.cell? ⟨B, i.1, none⟩ = some (.int .u8 (ks i))) :
    Gives n Try.prog 120 #[.pointer (some ⟨B, 0, none⟩)] (fun x : Nat × Int => #[Value.int .i64 x.1, Value.int .u64 x.2]) (keysTo p 32) w := by
  intro l J W hW hJ hY h0
  have hcW : ∀ i : Fin 16, W.cell? ⟨B, i.1, none⟩ = some (.int .u8 (ks i)) := fun i => (hW.cell (p := ⟨B, i.1, none⟩) hB).trans (hc i)
  have c0 := hcW 0
  have c1 := hcW 1
  have c2 := hcW 2
  have c3 := hcW 3
  have c4 := hcW 4
  have c5 := hcW 5
  have c6 := hcW 6
  have c7 := hcW 7
  have c8 := hcW 8
  have c9 := hcW 9
  have c10 := hcW 10
  have c11 := hcW 11
  have c12 := hcW 12
  have c13 := hcW 13
  have c14 := hcW 14
  have c15 := hcW 15
  simp only [Fin.val_zero, Fin.val_one, Fin.val_two] at c0 c1 c2
  simp only [show ((3 : Fin 16) : Nat) = 3 from rfl, show ((4 : Fin 16) : Nat) = 4 from rfl, show ((5 : Fin 16) : Nat) = 5 from rfl, show ((6 : Fin 16) : Nat) = 6 from rfl, show ((7 : Fin 16) : Nat) = 7 from rfl, show ((8 : Fin 16) : Nat) = 8 from rfl, show ((9 : Fin 16) : Nat) = 9 from rfl, show ((10 : Fin 16) : Nat) = 10 from rfl, show ((11 : Fin 16) : Nat) = 11 from rfl, show ((12 : Fin 16) : Nat) = 12 from rfl, show ((13 : Fin 16) : Nat) = 13 from rfl, show ((14 : Fin 16) : Nat) = 14 from rfl, show ((15 : Fin 16) : Nat) = 15 from rfl] at c3 c4 c5 c6 c7 c8 c9 c10 c11 c12 c13 c14 c15
  clear hcW hc
  refine callsIn_of_wp Try.func120 rfl trivial ?_ rfl
  simp only [Try.ntmps120, List.size_toArray, List.length_cons, List.length_nil, Nat.reduceAdd, Nat.reduceSub, Array.replicate_succ, Array.replicate_zero, List.push_toArray, List.append_toArray, List.nil_append, List.cons_append]
  gi_wp2_with (refine ⟨trivial, ?_⟩; gi_at_call 86; refine (callsIn_wide.2 (hw _)).mono ?_; rintro e w1 ⟨rfl, hb⟩)
  clear c0 c1 c2 c3 c4 c5 c6 c7 c8 c9 c10 c11 c12 c13 c14 c15
  have HJ := Lib.hid hJ
  have HY := Lib.hid hY
  clear hJ hY
  have hR : W.heap.size ≤ w1.heap.size := hb.size
  gi_loopw [7] (fun i wr => ∃ j : Nat, j ≤ 32 ∧ i = .int .i64 j ∧ J (keysTo p j) wr ∧ wr.cell? ⟨w1.heap.size, 0, none⟩ = some (.int .u64 (kst p j).1) ∧ wr.cell? ⟨w1.heap.size, 1, none⟩ = some (.int .u64 (kst p j).2) ∧ ∀ o, wr.frozen? ⟨w1.heap.size, o, none⟩ = false)
    (fun i _ => 32 - (intOf i).toNat)
  case atStart =>
    refine ⟨0, by omega, rfl, ?_, by simp [go_sem, kst], by simp [go_sem, kst], fun o => by simp [go_sem]⟩
    exact HJ.out [] _ _ none (HJ.out [] _ _ none h0 (grown_of_below hb) (fun r e => by cases e)) (World.grownBy_alloc _ _ none) (fun r e => by cases e)
  case round =>
    obtain ⟨j, hj, rfl, hJr, hx, hy, hf⟩ := hrel
    by_cases hlt : j < 32
    · obtain ⟨kx, ky⟩ := kst_in hp j
      have CR := fun w => round_any (kst p j).1 (kst p j).2 (j : Int) w kx ky
      have KS : Hid (kst p (j + 1) = (rndX (kst p j).1 (kst p j).2 j, rndY (kst p j).1 (kst p j).2 j)) := rfl
      have KT := Lib.hid (keysTo_succ p j)
      obtain ⟨fn, tmps, assign, body, hyl, hRd⟩ := HY.out (keysTo p j) (j, (kst p j).2) wr hJr (by rw [← keysTo_succ]; exact keysTo_prefix p (by omega))
      dsimp only at hyl
      clear hp hw
      generalize (kst p j).1 = x at *
      generalize (kst p j).2 = y at *
      gi_wp2_with fail
      refine hRd.mono ?_
      rintro e W3 ⟨rfl, hJ3, hk3⟩
      have hx3 := hk3.cell hR hx
      have hy3 := hk3.cell hR hy
      have hf3 : ∀ o, W3.frozen? ⟨w1.heap.size, o, none⟩ = false := fun o => (hk3.frozen hR hx).trans (hf o)
      have hl3 := cell_lt' hx3
      gi_wp2_with (refine ⟨trivial, ?_⟩; gi_at_call 88; refine (callsIn_wide.2 (CR _)).mono ?_; rintro e w4 ⟨rfl, hb4⟩; have hx4 := (hb4.cell (p := ⟨w1.heap.size, 0, none⟩) hl3).trans hx3; have hy4 := (hb4.cell (p := ⟨w1.heap.size, 1, none⟩) hl3).trans hy3; have hf4 : ∀ o, w4.frozen? ⟨w1.heap.size, o, none⟩ = false := fun o => (hb4.frozen (p := ⟨w1.heap.size, o, none⟩) hl3).trans (hf3 o))
      go_roundw
      case rel =>
        refine ⟨j + 1, by omega, by go_num, ?_, ?_, ?_, fun o => by simp [go_sem, hf4]⟩
        · rw [KT.out]
          have q1 := HJ.out _ _ _ none hJ3 (grown_of_below hb4) (fun r e => by cases e)
          have q2 := HJ.out _ _ _ _ q1 (grown_setCell w4 ⟨w1.heap.size, 0, none⟩ (.int .u64 (rndX x y j))) (fun r e => by cases e; exact ⟨hR, heap_cells hx4⟩)
          have hx5 : (w4.setCell ⟨w1.heap.size, 0, none⟩ (.int .u64 (rndX x y j))).cell? ⟨w1.heap.size, 1, none⟩ = some (.int .u64 y) := by simp [go_sem, hy4]
          exact HJ.out _ _ _ _ q2 (grown_setCell _ ⟨w1.heap.size, 1, none⟩ (.int .u64 (rndY x y j))) (fun r e => by cases e; exact ⟨hR, heap_cells hx5⟩)
        · rw [KS.out]; simp [go_sem, hx4]
        · rw [KS.out]; simp [go_sem, hx4, hy4]
      case measure => simp [intOf]; omega
    · obtain rfl : j = 32 := by omega
      gi_wp2_with fail
      go_end0
      exact ⟨⟨_, rfl⟩, hJr⟩

end Go.Proofs.Ytpnfghpcpjpppaa
