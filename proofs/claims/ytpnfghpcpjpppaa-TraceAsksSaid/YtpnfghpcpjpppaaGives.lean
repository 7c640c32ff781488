/- A range over a function whose body never leaves early, and an iterator that keeps cells of its own. -/
import Derived.Test.YtpnfghpcpjpppaaPath
namespace Go.Proofs.Ytpnfghpcpjpppaa
open Go.RowKit Go.Shelf
set_option linter.unusedVariables false
set_option linter.unusedSimpArgs false

/-- The cells that lie from block B on lie as they lay. -/
def KeepUp (B : Nat) (W W' : World) : Prop := W.heap.size ≤ W'.heap.size ∧ ∀ b o, B ≤ b → W.heap[b]? = some o → o.isCells = true → W'.heap[b]? = some o
theorem KeepUp.refl (B : Nat) (W : World) : KeepUp B W W := ⟨Nat.le_refl _, fun _ _ _ h _ => h⟩
theorem KeepUp.trans {B : Nat} {X Y Z : World} (h : KeepUp B X Y) (k : KeepUp B Y Z) : KeepUp B X Z :=
  ⟨Nat.le_trans h.1 k.1, fun b o hb ho hc => k.2 b o hb (h.2 b o hb ho hc) hc⟩
theorem KeepUp.of_below {B : Nat} {W W' : World} (h : Below W.heap.size W W') : KeepUp B W W' :=
  ⟨h.size, fun b o _ ho _ => (h.block b (Array.getElem?_eq_some_iff.1 ho).1).trans ho⟩
theorem KeepUp.setCell {B : Nat} (W : World) (a : Addr) (v : Value) (ha : a.block < B) : KeepUp B W (W.setCell a v) :=
  ⟨by simp [World.setCell], fun b o hb ho _ => (Below.heap_setCell W a v b (by omega)).trans ho⟩
theorem KeepUp.cell {B : Nat} {W W' : World} (h : KeepUp B W W') {b o : Nat} {v : Value} (hb : B ≤ b) (hc : W.cell? ⟨b, o, none⟩ = some v) : W'.cell? ⟨b, o, none⟩ = some v := by
  simp only [World.cell?] at hc ⊢
  cases ho : W.heap[b]? with
  | none => rw [ho] at hc; cases hc
  | some x =>
    rw [ho] at hc
    cases x <;> first | (rw [h.2 b _ hb ho rfl]; exact hc) | cases hc

theorem KeepUp.frozen {B : Nat} {W W' : World} (h : KeepUp B W W') {b o o' : Nat} {v : Value} (hb : B ≤ b) (hc : W.cell? ⟨b, o', none⟩ = some v) : W'.frozen? ⟨b, o, none⟩ = W.frozen? ⟨b, o, none⟩ := by
  simp only [World.cell?] at hc
  simp only [World.frozen?]
  cases ho : W.heap[b]? with
  | none => rw [ho] at hc; cases hc
  | some x =>
    rw [ho] at hc
    cases x <;> first | (rw [h.2 b _ hb ho rfl]) | cases hc
theorem grown_of_below {W W' : World} (h : Below W.heap.size W W') : W.grownBy W' none := ⟨h.os, h.tape, h.output, h.size, fun k hk _ => h.block k hk⟩
theorem grown_setCell (W : World) (a : Addr) (v : Value) : W.grownBy (W.setCell a v) (some a.block) :=
  ⟨rfl, rfl, rfl, by simp [World.setCell], fun k _ hne => Below.heap_setCell W a v k (fun e => hne (by rw [e]))⟩
theorem heap_cells {W : World} {b o : Nat} {v : Value} (hc : W.cell? ⟨b, o, none⟩ = some v) : ∃ x : Obj, W.heap[b]? = some x ∧ x.isCells = true := by
  simp only [World.cell?] at hc
  cases ho : W.heap[b]? with
  | none => rw [ho] at hc; cases hc
  | some x =>
    rw [ho] at hc
    cases x <;> first | exact ⟨_, rfl, rfl⟩ | cases hc

theorem putObj_cell {W : World} {D : Nat} {o o' : Obj} (h : W.heap[D]? = some o) (ho : o.isCells = false) (ho' : o'.isCells = false) (a : Addr) : (W.putObj D o').cell? a = W.cell? a := by
  by_cases e : a.block = D
  · have h1 : (W.putObj D o').heap[a.block]? = some o' := by rw [e]; exact World.putObj_heap_same (Array.getElem?_eq_some_iff.1 h).1
    simp only [World.cell?]
    rw [h1, e, h]
    cases o <;> cases o' <;> first | rfl | (simp [Obj.isCells] at ho; done) | (simp [Obj.isCells] at ho'; done)
  · exact World.cell?_of_block (w := W) (World.putObj_heap_other e)

/-- What an iterator that runs to its end owes: it yields just xs, whatever the rounds do that keep the cells laid since it began. -/
def Gives {α : Type} (n : Nat) (P : Program) (gf : Nat) (lb : Array Value) (encs : α → Array Value) (xs : List α) (w : World) : Prop :=
  ∀ (l : Nat) (J : List α → World → Prop) (W : World), Below w.heap.size w W →
    (∀ pre A B row, J pre A → A.grownBy B row → (∀ r, row = some r → W.heap.size ≤ r ∧ ∃ o : Obj, A.heap[r]? = some o ∧ o.isCells = true) → J pre B) →
    (∀ pre x W1, J pre W1 → pre ++ [x] <+: xs → YieldAt Fence.wide (n - 1) P l (encs x) W1 fun e W' => e = .returned (.bool true) ∧ J (pre ++ [x]) W' ∧ KeepUp W.heap.size W1 W') →
    J [] W →
    CallsIn Fence.wide n P gf (#[.func (.yield l) #[] #[]] ++ lb) W fun e W' => (∃ v, e = .returned v) ∧ J xs W'

/-- How a round may end: it goes on. -/
def roundOn {α : Type} (B : Nat) (I : List α → World → Prop) (xs : List α) (W : World) : Exit → Act → World → Prop
  | .normal, _, W' => KeepsOthers W W' ∧ KeepUp B W W' ∧ I xs W'
  | _, _, _ => False

theorem range_gives {α : Type} {n : Nat} {P : Program} {g : Operand} {ps : Array Tmp} {assign body : Code} {Q : Exit → Act → World → Prop} {a : Act} {w : World}
    (h1 : 1 ≤ n) {gf : Nat} {lb : Array Value} (hg : a.eval g = .func (.func gf) #[] lb) (eg : ∀ args w, (callFunc gf args).run P w = .ok (.enter gf args) w)
    {encs : α → Array Value} {xs : List α} (hseq : Gives (n - 1) P gf lb encs xs w) (hps : ∀ x, (encs x).size = ps.size)
    (I : List α → World → Prop) (hI : ∀ pre A B row, I pre A → A.grownBy B row → (∀ r, row = some r → w.heap.size ≤ r) → I pre B) (h0 : I [] w) (a₁ : α → Act)
    (hassign : ∀ (l : Nat) (x : α) (W : World) (K : Act → World → Prop), K (a₁ x) W →
      assign.wpIn (Fence.wide.inRound l) (n - 1 - 1) P (Exit.then K (fun _ _ _ => False)) { tmps := (ps.zip (encs x)).foldl (fun t (p, v) => t.setIfInBounds p v) a.tmps, defers := [] } W)
    (hbody : ∀ (l : Nat) (pre : List α) (x : α) (W : World), I pre W → pre ++ [x] <+: xs → body.wpIn (Fence.wide.inRound l) (n - 1 - 1) P (roundOn w.heap.size I (pre ++ [x]) W) (a₁ x) W)
    (hdone : ∀ (D : Nat) (W : World), w.heap.size ≤ D → I xs W → W.heap[D]? = some (.deferred (some [])) → Q .normal { a with defers := { target := .collected D, args := #[] } :: a.defers } W) :
    (Code.rangeFunc g ps assign body).wpIn Fence.wide n P Q a w := by
  refine wpIn_rangeFunc fun fn hfn => ?_
  -- the record of the loop, and the block for deferred calls
  have hD : ∃ D, D = w.heap.size := ⟨_, rfl⟩
  obtain ⟨D, hD⟩ := hD
  let rec' : LoopState → Option Code → Loop := fun st pe => { state := st, pending := pe, fn, tmps := a.tmps, params := ps, assign, body, defers := w.heap.size }
  let W1 := (w.alloc (.deferred (some []))).alloc (.loop (rec' .ready none))
  have hs1 : W1.heap.size = w.heap.size + 1 + 1 := by simp [W1]
  have hl1 : W1.heap[w.heap.size + 1]? = some (.loop (rec' .ready none)) := by
    have := World.alloc_heap_new (w.alloc (.deferred (some []))) (.loop (rec' .ready none)); rwa [World.size_alloc] at this
  have hd1 : W1.heap[w.heap.size]? = some (.deferred (some [])) := (Below.heap_alloc _ _ _ (by simp)).trans (World.alloc_heap_new w _)
  have hb1 : Below w.heap.size w W1 := ((Below.refl _ w).alloc (Nat.le_refl _) _).alloc (by simp) _
  have hI1 : I [] W1 := hI [] _ _ none (hI [] _ _ none h0 (World.grownBy_alloc w _ none) (fun r e => by cases e)) (World.grownBy_alloc _ _ none) (fun r e => by cases e)
  refine ⟨w.heap.size + 1, [{ target := .collected w.heap.size, args := #[] }], W1, { target := .fn (.func gf) lb, args := #[.func (.yield (w.heap.size + 1)) #[] #[]] }, W1, gf,
    #[.func (.yield (w.heap.size + 1)) #[] #[]] ++ lb, W1, run_enterLoop_outer _ _ _ _ _, ?_, fun _ _ => trivial, ?_, fun _ => h1, ?_⟩
  · simp only [resolve, hg]
    simp [go_sem]
  · simp [invoke, go_sem, eg]
  · refine (hseq (w.heap.size + 1) (fun pre W => I pre W ∧ W.heap[w.heap.size + 1]? = some (.loop (rec' .ready none)) ∧ W.heap[w.heap.size]? = some (.deferred (some []))) W1 hb1 ?_ ?_ ⟨hI1, hl1, hd1⟩).mono ?_
    · rintro pre A B row ⟨i1, i2, i3⟩ hgr hrow
      have far : ∀ (k : Nat) (o : Obj), A.heap[k]? = some o → o.isCells = false → B.heap[k]? = some o := fun k o hk ho => by
        refine (hgr.block k (Array.getElem?_eq_some_iff.1 hk).1 ?_).trans hk
        intro e
        obtain ⟨_, o', ho', hc⟩ := hrow k e.symm
        rw [hk] at ho'
        cases ho'
        rw [ho] at hc
        cases hc
      exact ⟨hI _ _ _ _ i1 hgr (fun r e => by have := (hrow r e).1; omega), far _ _ i2 rfl, far _ _ i3 rfl⟩
    · rintro pre x W ⟨i1, i2, i3⟩ hpre
      have hlt : w.heap.size + 1 < W.heap.size := (Array.getElem?_eq_some_iff.1 i2).1
      refine ⟨fn, _, assign, body, run_yield (P := P) (args := encs x) i2 (hps x), roundIn_of_wpIn hfn (hassign _ x W _ ⟨_, run_beginRound i2 rfl, ?_⟩)⟩
      -- the world in which the body begins
      let Wb := W.putObj (w.heap.size + 1) (.loop { rec' .ready none with state := .busy })
      have b1 : I pre Wb := hI _ _ _ _ i1 (grownBy_putObj' W _ _) (fun r e => by cases e; omega)
      have b2 : Wb.heap[w.heap.size + 1]? = some (.loop { rec' .ready none with state := .busy }) := World.putObj_heap_same hlt
      have b3 : Wb.heap[w.heap.size]? = some (.deferred (some [])) := (World.putObj_heap_other (by omega)).trans i3
      have up : ∀ (V : World) (o o' : Obj), V.heap[w.heap.size + 1]? = some o → o.isCells = false → KeepUp w.heap.size V (V.putObj (w.heap.size + 1) o') := fun V o o' ho hn =>
        ⟨(grownBy_putObj' V (w.heap.size + 1) o').size, fun b x _ hx hc => by
          by_cases e : b = w.heap.size + 1
          · subst e; rw [ho] at hx; cases hx; rw [hn] at hc; cases hc
          · exact (World.putObj_heap_other e).trans hx⟩
      refine wpIn_mono (hbody _ pre x _ b1 hpre) ?_
      rintro e a3 W3 hp
      cases e with
      | normal =>
        obtain ⟨k1, k2, k3⟩ := hp
        have c2 := k1.same _ _ b2 rfl
        have c3 := k1.same _ _ b3 rfl
        refine ⟨_, _, run_endRound (P := P) none c2, rfl, ⟨hI _ _ _ _ k3 (grownBy_putObj' W3 _ _) (fun r e => by cases e; omega), World.putObj_heap_same (Array.getElem?_eq_some_iff.1 c2).1, (World.putObj_heap_other (by omega)).trans c3⟩, ?_⟩
        have q := ((up W _ _ i2 rfl).trans k2).trans (up W3 _ (.loop { rec' .ready none with state := .ready, pending := none }) c2 rfl)
        exact ⟨q.1, fun b o hb ho hc => q.2 b o (by omega) ho hc⟩
      | _ => exact hp.elim
    · rintro e W2 ⟨⟨v, rfl⟩, i1, i2, i3⟩
      exact ⟨none, _, run_endLoop (P := P) i2 (by simp [rec']), hdone _ _ (Nat.le_refl _) (hI _ _ _ _ i1 (grownBy_putObj' W2 _ _) (fun r e => by cases e; omega)) ((World.putObj_heap_other (by omega)).trans i3)⟩

end Go.Proofs.Ytpnfghpcpjpppaa
