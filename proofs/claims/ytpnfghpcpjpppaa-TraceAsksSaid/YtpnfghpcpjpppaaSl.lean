/- Slices that are read: what a slice value holds in a world; slices that the call owns. -/
import Derived.Test.YtpnfghpcpjpppaaBase
import Derived.OwnWalk
import Derived.Maps.AppendAt
namespace Go.Proofs.Ytpnfghpcpjpppaa
open Go.RowKit
set_option linter.unusedVariables false
set_option linter.unusedSimpArgs false

/-- A slice value of n elements, each of 'size' cells, whose cells hold xs. -/
def Reads (size : Nat) (w : World) (v : Value) (n : Nat) (xs : List Value) : Prop :=
  xs.length = n * size ∧ ∃ a cap, v = .slice a n cap ∧ n ≤ cap ∧ cap ≤ maxLen ∧
    (0 < n → ∃ b off, a = some ⟨b, off, none⟩ ∧ ∀ i u, xs[i]? = some u → w.cell? ⟨b, off + i, none⟩ = some u)

/-- A slice of integers. -/
def Ints (w : World) (v : Value) (zs : List Int) : Prop := Reads 1 w v zs.length (zs.map (Value.int .i64))
/-- A slice of bools. -/
def Bools (w : World) (v : Value) (bs : List Bool) : Prop := Reads 1 w v bs.length (bs.map Value.bool)
/-- A slice of subsets. -/
def Subs (w : World) (v : Value) (xs : List (Int × Int)) : Prop := Reads 2 w v xs.length (xs.flatMap fun x => [Value.int .i64 x.1, Value.int .i64 x.2])

theorem cell_lt' {W : World} {b o : Nat} {v : Value} (h : W.cell? ⟨b, o, none⟩ = some v) : b < W.heap.size := by
  by_cases hb : b < W.heap.size
  · exact hb
  · simp only [World.cell?] at h
    rw [Array.getElem?_eq_none (by omega)] at h
    cases h

theorem Reads.below {size : Nat} {w w' : World} {v : Value} {n : Nat} {xs : List Value} (h : Reads size w v n xs) (hb : Below w.heap.size w w') : Reads size w' v n xs := by
  obtain ⟨h0, a, cap, h1, h2, h3, h4⟩ := h
  refine ⟨h0, a, cap, h1, h2, h3, fun hn => ?_⟩
  obtain ⟨b, off, ha, hc⟩ := h4 hn
  exact ⟨b, off, ha, fun i u hu => (hb.cell (p := ⟨b, off + i, none⟩) (cell_lt' (hc i u hu))).trans (hc i u hu)⟩

theorem ownsRow_below {w w' : World} {base : Nat} {e : TypeId} {size : Nat} {v : Value} {n : Nat} {xs : List Value} (h : w.ownsRow base e size v n xs) (hb : Below w.heap.size w w') : w'.ownsRow base e size v n xs := by
  obtain ⟨h0, h1⟩ := h
  refine ⟨h0, ?_⟩
  rcases h1 with h1 | ⟨g, cap, cur, h1, h2, h3, h4⟩
  · exact .inl h1
  · exact .inr ⟨g, cap, cur, h1, h2, (hb.block g (Array.getElem?_eq_some_iff.1 h3).1).trans h3, h4⟩

theorem Reads.of_owns {size : Nat} {w : World} {base : Nat} {e : TypeId} {v : Value} {n : Nat} {xs : List Value} (h : w.ownsRow base e size v n xs) : Reads size w v n xs := by
  have h' := h
  obtain ⟨h0, h1⟩ := h
  rcases h1 with ⟨rfl, rfl⟩ | ⟨g, cap, cur, rfl, h2, h3, h4, h5, h6, h7⟩
  · exact ⟨h0, none, 0, rfl, by omega, by unfold maxLen; omega, fun h => by omega⟩
  · refine ⟨h0, _, cap, rfl, h4, h5, fun hn => ⟨g, 0, rfl, fun i u hu => ?_⟩⟩
    have := h'.cells (g := g) rfl i u hu
    by_cases hi : i = 0
    · subst hi; simpa [Addr.add] using this
    · simpa [Addr.add, hi] using this

theorem Ints.below {w w' : World} {v : Value} {zs : List Int} (h : Ints w v zs) (hb : Below w.heap.size w w') : Ints w' v zs := Reads.below h hb
theorem Bools.below {w w' : World} {v : Value} {zs : List Bool} (h : Bools w v zs) (hb : Below w.heap.size w w') : Bools w' v zs := Reads.below h hb
theorem Subs.below {w w' : World} {v : Value} {zs : List (Int × Int)} (h : Subs w v zs) (hb : Below w.heap.size w w') : Subs w' v zs := Reads.below h hb

/-- What a slice of integers gives a walk. -/
theorem Ints.open {w : World} {v : Value} {zs : List Int} (h : Ints w v zs) : ∃ a cap, v = .slice a zs.length cap ∧ zs.length ≤ cap ∧ cap ≤ maxLen ∧
    (∀ i, i < zs.length → ∃ b off, a = some ⟨b, off, none⟩ ∧ w.cell? ⟨b, off + i, none⟩ = some (.int .i64 (zs.getD i 0))) := by
  obtain ⟨h0, a, cap, h1, h2, h3, h4⟩ := h
  refine ⟨a, cap, h1, h2, h3, fun i hi => ?_⟩
  obtain ⟨b, off, ha, hc⟩ := h4 (by omega)
  refine ⟨b, off, ha, hc i _ ?_⟩
  rw [List.getElem?_map, List.getElem?_eq_getElem hi]
  simp [List.getD, hi]

theorem ownsRow_mono {w : World} {base base' : Nat} {e : TypeId} {size : Nat} {v : Value} {n : Nat} {xs : List Value} (h : w.ownsRow base e size v n xs) (hb : base' ≤ base) : w.ownsRow base' e size v n xs := by
  obtain ⟨h0, h1⟩ := h
  refine ⟨h0, ?_⟩
  rcases h1 with h1 | ⟨g, cap, cur, h1, h2, h3⟩
  · exact .inl h1
  · exact .inr ⟨g, cap, cur, h1, Nat.le_trans hb h2, h3⟩

/-- What a slice of subsets gives a walk. -/
theorem Subs.open {w : World} {v : Value} {xs : List (Int × Int)} (h : Subs w v xs) : ∃ a cap, v = .slice a xs.length cap ∧ xs.length ≤ cap ∧ cap ≤ maxLen ∧
    (∀ i, i < xs.length → ∃ b off, a = some ⟨b, off, none⟩ ∧ w.cell? ⟨b, off + i * 2, none⟩ = some (.int .i64 (xs.getD i (0, 0)).1) ∧ w.cell? ⟨b, off + i * 2 + 1, none⟩ = some (.int .i64 (xs.getD i (0, 0)).2)) := by
  obtain ⟨h0, a, cap, h1, h2, h3, h4⟩ := h
  refine ⟨a, cap, h1, h2, h3, fun i hi => ?_⟩
  obtain ⟨b, off, ha, hc⟩ := h4 (by omega)
  have key : ∀ (xs : List (Int × Int)) (i : Nat), i < xs.length → (xs.flatMap fun x => [Value.int .i64 x.1, Value.int .i64 x.2])[i * 2]? = some (.int .i64 (xs.getD i (0, 0)).1) ∧ (xs.flatMap fun x => [Value.int .i64 x.1, Value.int .i64 x.2])[i * 2 + 1]? = some (.int .i64 (xs.getD i (0, 0)).2) := by
    intro xs
    induction xs with
    | nil => intro i hi; cases hi
    | cons x xs ih =>
      intro i hi
      cases i with
      | zero => exact ⟨rfl, rfl⟩
      | succ i =>
        have := ih i (by simpa using hi)
        simpa [List.flatMap_cons, Nat.succ_mul] using this
  obtain ⟨k1, k2⟩ := key xs i hi
  exact ⟨b, off, ha, hc _ _ k1, by have := hc _ _ k2; rwa [show off + (i * 2 + 1) = off + i * 2 + 1 from by omega] at this⟩

/-- Behind an append of one element onto a row of the call's own: what lay below the row's base stands. -/
theorem app_below {N0 base : Nat} {w0 w2 w3 : World} {o : Obj} {e : TypeId} {size : Nat} {v : Value} {n : Nat} {xs : List Value} (hB : Below N0 w0 w2) (hown : w2.ownsRow base e size v n xs) (hN : N0 ≤ base) (hz : N0 ≤ w2.heap.size)
    (hg : (w2.alloc o).grownBy w3 v.ownBlock) : Below N0 w0 w3 :=
  (hB.alloc hz o).grown hg (by simp; omega) (fun k hk => Nat.le_trans hN (hown.lt k hk).1)

end Go.Proofs.Ytpnfghpcpjpppaa
