/- Small lemmas that all texts of this seat use. -/
import Derived.Test.YtpnfghpcpjpppaaRows
import Derived.WalkKit
import Derived.WalkSpells
import Derived.WalkLawsBesides
import Derived.Lib.Hide
import Derived.Handy
import Derived.BigQuiet
import Derived.Deep.QuietTactic
import Derived.Deep.DeepCutAuto
import Derived.Deep.LoopGhost
namespace Go.Proofs.Ytpnfghpcpjpppaa
open Go.RowKit
set_option linter.unusedVariables false
set_option linter.unusedSimpArgs false

theorem bcell {W w1 : World} (hb : Below W.heap.size W w1) : (∀ b o, b < W.heap.size → w1.cell? ⟨b, o, none⟩ = W.cell? ⟨b, o, none⟩) ∧ (∀ b o, b < W.heap.size → w1.frozen? ⟨b, o, none⟩ = W.frozen? ⟨b, o, none⟩) :=
  ⟨fun b o h => hb.cell (p := ⟨b, o, none⟩) h, fun b o h => hb.frozen (p := ⟨b, o, none⟩) h⟩

/-- What a walk keeps of a contract that ends in 'Below': all that was there reads as before, and the walk's own start still stands. -/
theorem after {B : Nat} {w W w1 : World} (hb : Below W.heap.size W w1) (h0 : Below B w W) (hB : B ≤ W.heap.size) :
    Below B w w1 ∧ W.heap.size ≤ w1.heap.size ∧ (∀ b o, b < W.heap.size → w1.cell? ⟨b, o, none⟩ = W.cell? ⟨b, o, none⟩) ∧ (∀ b o, b < W.heap.size → w1.frozen? ⟨b, o, none⟩ = W.frozen? ⟨b, o, none⟩) :=
  ⟨h0.trans (hb.mono hB), hb.size, fun b o h => hb.cell (p := ⟨b, o, none⟩) h, fun b o h => hb.frozen (p := ⟨b, o, none⟩) h⟩

/-- The same, said of a number of blocks that is known. -/
theorem afterK {N : Nat} {w W w1 : World} (hb : Below W.heap.size W w1) (h0 : Below w.heap.size w W) (hN : N ≤ W.heap.size) :
    Below w.heap.size w w1 ∧ N ≤ w1.heap.size ∧ (∀ b o, b < N → w1.cell? ⟨b, o, none⟩ = W.cell? ⟨b, o, none⟩) ∧ (∀ b o, b < N → w1.frozen? ⟨b, o, none⟩ = W.frozen? ⟨b, o, none⟩) ∧ (∀ b, b < N → b < w1.heap.size) ∧ (∀ b, b < N → ¬ b = w1.heap.size) :=
  ⟨h0.trans (hb.mono h0.size), Nat.le_trans hN hb.size, fun b o h => hb.cell (p := ⟨b, o, none⟩) (Nat.lt_of_lt_of_le h hN), fun b o h => hb.frozen (p := ⟨b, o, none⟩) (Nat.lt_of_lt_of_le h hN),
    fun b h => by have := hb.size; omega, fun b h => by have := hb.size; omega⟩

/-- What a loop's round knows of its world. -/
theorem inLoop {N : Nat} {W0 wr : World} (h : Below N W0 wr) (hN : N ≤ W0.heap.size) : N ≤ wr.heap.size ∧ (∀ b o, b < N → wr.cell? ⟨b, o, none⟩ = W0.cell? ⟨b, o, none⟩) ∧ (∀ b o, b < N → wr.frozen? ⟨b, o, none⟩ = W0.frozen? ⟨b, o, none⟩) ∧ (∀ b, b < N → b < wr.heap.size) ∧ (∀ b, b < N → ¬ b = wr.heap.size) :=
  ⟨Nat.le_trans hN h.size, fun b o hb => h.cell (p := ⟨b, o, none⟩) hb, fun b o hb => h.frozen (p := ⟨b, o, none⟩) hb, fun b hb => by have := h.size; omega, fun b hb => by have := h.size; omega⟩
theorem afterR {N : Nat} {w W0 W w1 : World} (hb : Below W.heap.size W w1) (h0 : Below w.heap.size w W) (h1 : Below N W0 W) (hN : N ≤ W.heap.size) :
    Below w.heap.size w w1 ∧ Below N W0 w1 ∧ N ≤ w1.heap.size ∧ (∀ b o, b < N → w1.cell? ⟨b, o, none⟩ = W.cell? ⟨b, o, none⟩) ∧ (∀ b o, b < N → w1.frozen? ⟨b, o, none⟩ = W.frozen? ⟨b, o, none⟩) ∧ (∀ b, b < N → b < w1.heap.size) ∧ (∀ b, b < N → ¬ b = w1.heap.size) := by
  obtain ⟨a, b, c, d, e, f⟩ := afterK (N := N) hb h0 hN
  exact ⟨a, h1.trans (hb.mono hN), b, c, d, e, f⟩

/-- A contract that leaves the world alone, met inside a region that draws its order. -/
theorem quiet_same {P : Program} {f : FuncId} {args : Array Value} {w : World} {n : Nat} {v : Value}
    (h : Calls P f args (w.drewN n) fun e w' => e = .returned v ∧ w.drewN n = w') : Calls P f args (w.drewN n) fun e w'' => e = .returned v ∧ ∃ m, w'' = w.drewN m :=
  h.mono fun _ _ ⟨he, hm⟩ => ⟨he, n, hm.symm⟩

theorem below_drewN {B : Nat} {a w : World} (n : Nat) (h : Below B a w) : Below B a (w.drewN n) := h.trans ⟨rfl, rfl, rfl, Nat.le_refl _, fun _ _ => rfl⟩
theorem size_drewN (w : World) (n : Nat) : (w.drewN n).heap.size = w.heap.size := rfl
theorem size_drew (w : World) : w.drew.heap.size = w.heap.size := rfl
theorem size_alloc (w : World) (o : Obj) : (w.alloc o).heap.size = w.heap.size + 1 := by simp
theorem size_setCell (w : World) (a : Addr) (v : Value) : (w.setCell a v).heap.size = w.heap.size := by simp [World.setCell]

theorem ret_i {k : IntKind} {a b : Int} (h : a = b) : Ending.returned (.int k a) = .returned (.int k b) := by rw [h]
theorem ret_b {a b : Bool} (h : a = b) : Ending.returned (.bool a) = .returned (.bool b) := by rw [h]
theorem ret_ii {k : IntKind} {a b : Int} {x : Value} (h : a = b) : Ending.returned (.tuple #[.int k a, x]) = .returned (.tuple #[.int k b, x]) := by rw [h]

end Go.Proofs.Ytpnfghpcpjpppaa
