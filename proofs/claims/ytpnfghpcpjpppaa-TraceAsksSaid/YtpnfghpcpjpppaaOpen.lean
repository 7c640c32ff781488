/- What an argument's reading says of its cells: integers, structs, arrays, slices, field by field. -/
import Derived.Test.YtpnfghpcpjpppaaBase
import Derived.ProofKit
namespace Go.Proofs.Ytpnfghpcpjpppaa
open Go.RowKit
set_option linter.unusedVariables false
set_option linter.unusedSimpArgs false
section
variable {H : Type} {enc : TypeId × Value → H} {P : Program} {w : World} {base : Nat} {spare : Nat → Bool} {held : Bool}

theorem rd_int {t : TypeId} {k : IntKind} (ht : P.underlying t = some (.int k)) {fuel : Nat} {c : Value} {y : DataW H × List MemPlace}
    (h : DataW.trod enc P w base spare held fuel t [c] = some y) : ∃ n, c = .int k n ∧ (Lit.int k n).wf = true := by
  cases fuel with
  | zero => simp [DataW.trod] at h
  | succ fuel =>
    cases c <;> simp [DataW.trod, ht] at h
    obtain ⟨⟨rfl, hw⟩, _⟩ := h
    exact ⟨_, rfl, hw⟩

theorem mapM_some {α β : Type} {f : α → Option β} {l : List α} {ys : List β} (h : l.mapM f = some ys) : ∀ x ∈ l, ∃ y, f x = some y := by
  induction l generalizing ys with
  | nil => intro x hx; cases hx
  | cons a l ih =>
    simp only [List.mapM_cons, Option.bind_eq_bind, Option.bind_eq_some_iff] at h
    obtain ⟨b, hb, bs, hbs, _⟩ := h
    intro x hx
    rcases List.mem_cons.1 hx with rfl | hx
    · exact ⟨b, hb⟩
    · exact ih hbs x hx

theorem rd_struct {t : TypeId} {fs : Array Field} (ht : P.underlying t = some (.struct fs)) {fuel : Nat} {cs : List Value} {y : DataW H × List MemPlace}
    (h : DataW.trod enc P w base spare held fuel t cs = some y) :
    cs.length = P.cellsOf t ∧ ∀ f ∈ fs.toList, ∃ fuel' y, DataW.trod enc P w base spare held fuel' f.type ((cs.drop f.offset).take (P.cellsOf f.type)) = some y := by
  cases fuel with
  | zero => simp [DataW.trod] at h
  | succ fuel =>
    rw [DataW.trod.eq_def] at h
    simp only [ht] at h
    split at h
    · rename_i hl
      simp only [Option.map_eq_some_iff] at h
      obtain ⟨xs, hx, _⟩ := h
      exact ⟨hl, fun f hf => ⟨fuel, mapM_some hx f hf⟩⟩
    · simp at h

theorem rd_array {t e : TypeId} {n : Nat} (ht : P.underlying t = some (.array n e)) {fuel : Nat} {cs : List Value} {y : DataW H × List MemPlace}
    (h : DataW.trod enc P w base spare held fuel t cs = some y) :
    cs.length = P.cellsOf t ∧ ∀ i, i < n → ∃ fuel' y, DataW.trod enc P w base spare held fuel' e ((cs.drop (i * P.cellsOf e)).take (P.cellsOf e)) = some y := by
  cases fuel with
  | zero => simp [DataW.trod] at h
  | succ fuel =>
    rw [DataW.trod.eq_def] at h
    simp only [ht] at h
    split at h
    · rename_i hl
      simp only [Option.map_eq_some_iff] at h
      obtain ⟨xs, hx, _⟩ := h
      exact ⟨hl, fun i hi => ⟨fuel, mapM_some hx i (List.mem_range.2 hi)⟩⟩
    · simp at h

/-- A slice: nil, or a row of places of which each, up to the capacity, reads as the element's type. -/
theorem rd_slice {t e : TypeId} (ht : P.underlying t = some (.slice e)) {fuel : Nat} {c : Value} {y : DataW H × List MemPlace}
    (h : DataW.trod enc P w base (fun _ => true) held fuel t [c] = some y) :
    c = .slice none 0 0 ∨ ∃ (a : Addr) (len cap : Nat), c = .slice (some a) len cap ∧ len ≤ cap ∧ cap ≤ maxLen ∧
      ∀ i, i < cap → ∃ fuel' cs y, w.cells? base (a.add (i * P.cellsOf e)) (P.cellsOf e) = some cs ∧ DataW.trod enc P w base (fun _ => true) held fuel' e cs = some y := by
  rcases DataW.trod_slice ht h with ⟨h0, _⟩ | ⟨a, len, cap, elems, rest, n, _, h1, rfl, hb, hl, hm, hlen, hel, hsp, hns⟩
  · left; simpa using h0
  · right
    refine ⟨a, len, cap, by simpa using h1, hl, hm, fun i hi => ?_⟩
    have key : ∃ y, (w.cells? base (a.add (i * P.cellsOf e)) (P.cellsOf e)).bind (DataW.trod enc P w base (fun _ => true) held n e) = some y := by
      by_cases hi' : i < len
      · exact ⟨_, (hel i hi').trans (List.getElem?_eq_getElem (by omega))⟩
      · obtain ⟨hrl, hr⟩ := hsp rfl
        have := hr (i - len) (by omega)
        rw [show len + (i - len) = i from by omega] at this
        exact ⟨_, this.trans (List.getElem?_eq_getElem (by omega))⟩
    obtain ⟨y, hy⟩ := key
    simp only [Option.bind_eq_some_iff] at hy
    obtain ⟨cs, h1, h2⟩ := hy
    exact ⟨n, cs, y, h1, h2⟩

end

theorem len2 {cs : List Value} (h : cs.length = 2) : ∃ c0 c1, cs = [c0, c1] := by
  match cs, h with
  | [c0, c1], _ => exact ⟨c0, c1, rfl⟩
theorem len6 {cs : List Value} (h : cs.length = 6) : ∃ c0 c1 c2 c3 c4 c5, cs = [c0, c1, c2, c3, c4, c5] := by
  match cs, h with
  | [c0, c1, c2, c3, c4, c5], _ => exact ⟨c0, c1, c2, c3, c4, c5, rfl⟩
theorem len16 {cs : List Value} (h : cs.length = 16) : ∃ c0 c1 c2 c3 c4 c5 c6 c7 c8 c9 c10 c11 c12 c13 c14 c15, cs = [c0, c1, c2, c3, c4, c5, c6, c7, c8, c9, c10, c11, c12, c13, c14, c15] := by
  match cs, h with
  | [c0, c1, c2, c3, c4, c5, c6, c7, c8, c9, c10, c11, c12, c13, c14, c15], _ => exact ⟨c0, c1, c2, c3, c4, c5, c6, c7, c8, c9, c10, c11, c12, c13, c14, c15, rfl⟩
theorem len28 {cs : List Value} (h : cs.length = 28) : ∃ c0 c1 c2 c3 c4 c5 c6 c7 c8 c9 c10 c11 c12 c13 c14 c15 c16 c17 c18 c19 c20 c21 c22 c23 c24 c25 c26 c27, cs = [c0, c1, c2, c3, c4, c5, c6, c7, c8, c9, c10, c11, c12, c13, c14, c15, c16, c17, c18, c19, c20, c21, c22, c23, c24, c25, c26, c27] := by
  match cs, h with
  | [c0, c1, c2, c3, c4, c5, c6, c7, c8, c9, c10, c11, c12, c13, c14, c15, c16, c17, c18, c19, c20, c21, c22, c23, c24, c25, c26, c27], _ => exact ⟨c0, c1, c2, c3, c4, c5, c6, c7, c8, c9, c10, c11, c12, c13, c14, c15, c16, c17, c18, c19, c20, c21, c22, c23, c24, c25, c26, c27, rfl⟩

theorem cells_t26 : Try.prog.cellsOf 26 = 6 := by kernel_rfl
theorem cells_t24 : Try.prog.cellsOf 24 = 3 := by kernel_rfl
theorem cells_t3 : Try.prog.cellsOf 3 = 1 := by kernel_rfl
theorem cells_t5 : Try.prog.cellsOf 5 = 1 := by kernel_rfl
theorem cells_t22 : Try.prog.cellsOf 22 = 1 := by kernel_rfl

/-- A scheme by value. -/
theorem rd_scheme {H : Type} {enc : TypeId × Value → H} {w : World} {fuel : Nat} {cs : List Value} {y : DataW H × List MemPlace}
    (h : DataW.trod enc Try.prog w 0 (fun _ => true) true fuel 26 cs = some y) :
    ∃ k d g p q r : Int, cs = [.int .u8 k, .int .i64 d, .int .i64 g, .int .u64 p, .int .u64 q, .int .u64 r] ∧ (Lit.int .u8 k).wf = true ∧ (Lit.int .i64 d).wf = true ∧ (Lit.int .i64 g).wf = true ∧ (Lit.int .u64 p).wf = true ∧ (Lit.int .u64 q).wf = true ∧ (Lit.int .u64 r).wf = true := by
  obtain ⟨hl, hf⟩ := rd_struct Try.underlying26 h
  rw [cells_t26] at hl
  obtain ⟨c0, c1, c2, c3, c4, c5, rfl⟩ := len6 hl
  simp only [List.mem_cons, List.not_mem_nil, or_false, forall_eq_or_imp, forall_eq] at hf
  obtain ⟨⟨_, _, h0⟩, ⟨_, _, h1⟩, ⟨_, _, h2⟩, ⟨_, _, h3⟩⟩ := hf
  simp only [cells_t3, cells_t5, cells_t24, List.drop_succ_cons, List.drop_zero, List.take_succ_cons, List.take_zero] at h0 h1 h2 h3
  obtain ⟨k, rfl, wk⟩ := rd_int Try.underlying5 h0
  obtain ⟨d, rfl, wd⟩ := rd_int Try.underlying3 h1
  obtain ⟨g, rfl, wg⟩ := rd_int Try.underlying3 h2
  obtain ⟨_, hf3⟩ := rd_struct Try.underlying24 h3
  simp only [List.mem_cons, List.not_mem_nil, or_false, forall_eq_or_imp, forall_eq] at hf3
  obtain ⟨⟨_, _, i0⟩, ⟨_, _, i1⟩, ⟨_, _, i2⟩⟩ := hf3
  simp only [cells_t22, List.drop_succ_cons, List.drop_zero, List.take_succ_cons, List.take_zero] at i0 i1 i2
  obtain ⟨p, rfl, wp⟩ := rd_int Try.underlying22 i0
  obtain ⟨q, rfl, wq⟩ := rd_int Try.underlying22 i1
  obtain ⟨r, rfl, wr⟩ := rd_int Try.underlying22 i2
  exact ⟨k, d, g, p, q, r, rfl, wk, wd, wg, wp, wq, wr⟩

end Go.Proofs.Ytpnfghpcpjpppaa
