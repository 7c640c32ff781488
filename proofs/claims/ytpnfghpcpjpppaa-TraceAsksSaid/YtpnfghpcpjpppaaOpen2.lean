/- What an argument's reading says: slices of integers, slices of subsets, keys, boxes. -/
import Derived.Test.YtpnfghpcpjpppaaOpen
import Derived.Test.YtpnfghpcpjpppaaRAsk
namespace Go.Proofs.Ytpnfghpcpjpppaa
open Go.RowKit
set_option linter.unusedVariables false
set_option linter.unusedSimpArgs false

theorem addr_plain {w : World} {a : Addr} {v : Value} (h : w.cell? a = some v) : a = ⟨a.block, a.off, none⟩ := by
  obtain ⟨b, o, s⟩ := a
  cases s with
  | none => rfl
  | some s =>
    simp only [World.cell?] at h
    split at h <;> simp at h
theorem cells1_get {w : World} {base : Nat} {a : Addr} {cs : List Value} (h : w.cells? base a 1 = some cs) : ∃ c, cs = [c] ∧ w.cell? a = some c := by
  unfold World.cells? at h
  split at h
  · simp only [show List.range 1 = [0] from rfl, List.mapM_cons, List.mapM_nil, Option.bind_eq_bind, Option.bind_eq_some_iff, Option.pure_def, Option.some.injEq] at h
    obtain ⟨c, hc, l, rfl, rfl⟩ := h
    exact ⟨c, rfl, by simpa [Addr.add] using hc⟩
  · cases h
theorem cells2_get {w : World} {base : Nat} {a : Addr} {cs : List Value} (h : w.cells? base a 2 = some cs) : ∃ c d, cs = [c, d] ∧ w.cell? a = some c ∧ w.cell? (a.add 1) = some d := by
  unfold World.cells? at h
  split at h
  · simp only [show List.range 2 = [0, 1] from rfl, List.mapM_cons, List.mapM_nil, Option.bind_eq_bind, Option.bind_eq_some_iff, Option.pure_def, Option.some.injEq] at h
    obtain ⟨c, hc, l, ⟨d, hd, l2, rfl, rfl⟩, rfl⟩ := h
    exact ⟨c, d, rfl, by simpa [Addr.add] using hc, hd⟩
  · cases h
theorem choose_list {α : Type} (d : α) (P : Nat → α → Prop) : ∀ n, (∀ i, i < n → ∃ x, P i x) → ∃ l : List α, l.length = n ∧ ∀ i, i < n → P i (l.getD i d)
  | 0, _ => ⟨[], rfl, fun i hi => by omega⟩
  | n + 1, h => by
    obtain ⟨l, hl, hp⟩ := choose_list d P n (fun i hi => h i (by omega))
    obtain ⟨x, hx⟩ := h n (by omega)
    refine ⟨l ++ [x], by simp [hl], fun i hi => ?_⟩
    by_cases hin : i < n
    · have := hp i hin
      rwa [show (l ++ [x]).getD i d = l.getD i d from by simp [List.getD, List.getElem?_append_left (show i < l.length by omega)]]
    · obtain rfl : i = n := by omega
      rw [show (l ++ [x]).getD i d = x from by simp [List.getD, hl]]
      exact hx

theorem flat_len (xs : List (Int × Int)) : (xs.flatMap fun x => [Value.int .i64 x.1, Value.int .i64 x.2]).length = xs.length * 2 := by
  induction xs with
  | nil => rfl
  | cons x xs ih => rw [List.flatMap_cons, List.length_append, ih, List.length_cons]; simp; omega
section
variable {H : Type} {enc : TypeId × Value → H} {w : World} {held : Bool}

/-- A slice of integers. -/
theorem rd_ints {fuel : Nat} {c : Value} {y : DataW H × List MemPlace} (h : DataW.trod enc Try.prog w 0 (fun _ => true) held fuel 35 [c] = some y) :
    ∃ zs, Ints w c zs ∧ Nice c ∧ ∀ z ∈ zs, (Lit.int .i64 z).wf = true := by
  rcases rd_slice Try.underlying35 h with rfl | ⟨a, len, cap, rfl, hl, hm, he⟩
  · exact ⟨[], ⟨rfl, none, 0, rfl, by simp, by unfold maxLen; omega, fun h => by cases h⟩, .inl rfl, fun z hz => by cases hz⟩
  · obtain ⟨zs, hzl, hz⟩ := choose_list (0 : Int) (fun i z => w.cell? (a.add i) = some (.int .i64 z) ∧ (Lit.int .i64 z).wf = true) len (fun i hi => by
      obtain ⟨f', cs, y', h1, h2⟩ := he i (by omega)
      rw [cells_t3, Nat.mul_one] at h1
      obtain ⟨c, rfl, hc⟩ := cells1_get h1
      obtain ⟨z, rfl, hw⟩ := rd_int Try.underlying3 h2
      exact ⟨z, hc, hw⟩)
    subst hzl
    refine ⟨zs, ⟨by simp, some a, cap, rfl, hl, hm, fun hn => ?_⟩, .inr ⟨a, _, _, rfl⟩, fun z hz' => ?_⟩
    · have h0 := (hz 0 hn).1
      have ha := addr_plain (show w.cell? a = _ from by simpa [Addr.add] using h0)
      refine ⟨a.block, a.off, congrArg some ha, fun i u hu => ?_⟩
      rw [List.getElem?_map] at hu
      by_cases hi : i < zs.length
      · rw [List.getElem?_eq_getElem hi] at hu
        simp only [Option.map_some, Option.some.injEq] at hu
        subst hu
        have := (hz i hi).1
        rw [show a.add i = ⟨a.block, a.off + i, none⟩ from by
          unfold Addr.add
          split
          · rename_i h0; subst h0; exact ha
          · rfl] at this
        rw [this]
        simp [List.getD, hi]
      · rw [List.getElem?_eq_none (by omega)] at hu
        cases hu
    · obtain ⟨i, hi, rfl⟩ := List.getElem_of_mem hz'
      have := (hz i hi).2
      simpa [List.getD, hi] using this

theorem cells_t112 : Try.prog.cellsOf 112 = 2 := by kernel_rfl
/-- A slice of subsets. -/
theorem rd_subs {fuel : Nat} {c : Value} {y : DataW H × List MemPlace} (h : DataW.trod enc Try.prog w 0 (fun _ => true) held fuel 40 [c] = some y) : ∃ xs, Subs w c xs ∧ Nice c ∧ ∀ x ∈ xs, (Lit.int .i64 x.1).wf = true ∧ (Lit.int .i64 x.2).wf = true := by
  rcases rd_slice Try.underlying40 h with rfl | ⟨a, len, cap, rfl, hl, hm, he⟩
  · exact ⟨[], ⟨rfl, none, 0, rfl, by simp, by unfold maxLen; omega, fun h => by cases h⟩, .inl rfl, fun z hz => by cases hz⟩
  · obtain ⟨xs, hxl, hx⟩ := choose_list ((0, 0) : Int × Int) (fun i z => w.cell? (a.add (i * 2)) = some (.int .i64 z.1) ∧ w.cell? ((a.add (i * 2)).add 1) = some (.int .i64 z.2) ∧ (Lit.int .i64 z.1).wf = true ∧ (Lit.int .i64 z.2).wf = true) len (fun i hi => by
      obtain ⟨f', cs, y', h1, h2⟩ := he i (by omega)
      rw [cells_t112] at h1
      obtain ⟨c, d, rfl, hc, hd⟩ := cells2_get h1
      obtain ⟨_, hf⟩ := rd_struct Try.underlying112 h2
      simp only [List.mem_cons, List.not_mem_nil, or_false, forall_eq_or_imp, forall_eq] at hf
      obtain ⟨⟨_, _, i0⟩, ⟨_, _, i1⟩⟩ := hf
      simp only [cells_t3, List.drop_succ_cons, List.drop_zero, List.take_succ_cons, List.take_zero] at i0 i1
      obtain ⟨p, rfl, wp⟩ := rd_int Try.underlying3 i0
      obtain ⟨q, rfl, wq⟩ := rd_int Try.underlying3 i1
      exact ⟨(p, q), hc, hd, wp, wq⟩)
    subst hxl
    refine ⟨xs, ⟨flat_len xs, some a, cap, rfl, hl, hm, fun hn => ?_⟩, .inr ⟨a, _, _, rfl⟩, fun z hz' => ?_⟩
    · have h0 := (hx 0 hn).1
      have ha := addr_plain (show w.cell? a = _ from by simpa [Addr.add] using h0)
      have hadd : ∀ i, a.add i = ⟨a.block, a.off + i, none⟩ := fun i => by
        unfold Addr.add
        split
        · rename_i h0; subst h0; exact ha
        · rfl
      refine ⟨a.block, a.off, congrArg some ha, fun i u hu => ?_⟩
      have hil : i < xs.length * 2 := by
        have := (List.getElem?_eq_some_iff.1 hu).1
        rwa [flat_len] at this
      have key : ∀ (xs : List (Int × Int)) (i : Nat), i < xs.length → (xs.flatMap fun x => [Value.int .i64 x.1, Value.int .i64 x.2])[i * 2]? = some (.int .i64 (xs.getD i (0, 0)).1) ∧ (xs.flatMap fun x => [Value.int .i64 x.1, Value.int .i64 x.2])[i * 2 + 1]? = some (.int .i64 (xs.getD i (0, 0)).2) := by
        intro xs
        induction xs with
        | nil => intro i hi; cases hi
        | cons x xs ih =>
          intro i hi
          cases i with
          | zero => exact ⟨rfl, rfl⟩
          | succ i =>
            have := ih i (by simpa using hi)
            simpa [List.flatMap_cons, Nat.succ_mul] using this
      obtain ⟨k1, k2⟩ := key xs (i / 2) (by omega)
      obtain ⟨e1, e2, -, -⟩ := hx (i / 2) (by omega)
      rw [hadd] at e1 e2
      rcases Nat.mod_two_eq_zero_or_one i with hm | hm
      · rw [show i / 2 * 2 = i from by omega] at k1 e1
        rw [k1] at hu
        cases hu
        exact e1
      · rw [show i / 2 * 2 + 1 = i from by omega] at k2
        rw [k2] at hu
        cases hu
        have : a.off + i / 2 * 2 + 1 = a.off + i := by omega
        simp only [Addr.add, if_neg (show ¬ 1 = 0 by omega)] at e2
        rwa [this] at e2
    · obtain ⟨i, hi, rfl⟩ := List.getElem_of_mem hz'
      have := (hx i hi).2.2
      simpa [List.getD, hi] using this

theorem byte_wf {z : Int} (h : (Lit.int .u8 z).wf = true) : 0 ≤ z ∧ z ≤ 255 := by
  simp [Lit.wf] at h
  exact h
theorem cells_t37 : Try.prog.cellsOf 37 = 16 := by kernel_rfl
/-- A key. -/
theorem rd_key {fuel : Nat} {cs : List Value} {y : DataW H × List MemPlace} (h : DataW.trod enc Try.prog w 0 (fun _ => true) held fuel 37 cs = some y) : ∃ k : List Int, k.length = 16 ∧ isBytes k ∧ cs = keyL k := by
  obtain ⟨hl, hf⟩ := rd_array Try.underlying37 h
  rw [cells_t37] at hl
  obtain ⟨ks, hkl, hk⟩ := choose_list (0 : Int) (fun i z => cs[i]? = some (.int .u8 z) ∧ (Lit.int .u8 z).wf = true) 16 (fun i hi => by
    obtain ⟨_, _, h1⟩ := hf i hi
    rw [cells_t5, Nat.mul_one, List.drop_eq_getElem_cons (by omega)] at h1
    simp only [List.take_succ_cons, List.take_zero] at h1
    obtain ⟨n, hn, hw⟩ := rd_int Try.underlying5 h1
    exact ⟨n, by rw [List.getElem?_eq_getElem (by omega), hn], hw⟩)
  refine ⟨ks, hkl, fun x hx => ?_, ?_⟩
  · obtain ⟨i, hi, rfl⟩ := List.getElem_of_mem hx
    have := (hk i (by omega)).2
    have h2 := byte_wf this
    simpa [List.getD, hi] using h2
  · apply List.ext_getElem?
    intro i
    by_cases hi : i < 16
    · rw [(hk i hi).1]
      unfold keyL
      rw [List.getElem?_map, List.getElem?_eq_getElem (by omega)]
      simp [List.getD, show i < ks.length by omega]
    · rw [List.getElem?_eq_none (by omega), List.getElem?_eq_none (by rw [keyL_len]; omega)]

theorem cells_t39 : Try.prog.cellsOf 39 = 28 := by kernel_rfl
theorem cells_t35 : Try.prog.cellsOf 35 = 1 := by kernel_rfl
/-- A box. -/
theorem rd_box {fuel : Nat} {cs : List Value} {y : DataW H × List MemPlace} (h : DataW.trod enc Try.prog w 0 (fun _ => true) true fuel 39 cs = some y) :
    ∃ (b : Bx) (v : Value), cs = b.cells v ∧ b.seed.length = 16 ∧ isBytes b.seed ∧ Ints w v b.co ∧ Nice v := by
  obtain ⟨hl, hf⟩ := rd_struct Try.underlying39 h
  rw [cells_t39] at hl
  obtain ⟨c0, c1, c2, c3, c4, c5, c6, c7, c8, c9, c10, c11, c12, c13, c14, c15, c16, c17, c18, c19, c20, c21, c22, c23, c24, c25, c26, c27, rfl⟩ := len28 hl
  simp only [List.mem_cons, List.not_mem_nil, or_false, forall_eq_or_imp, forall_eq] at hf
  obtain ⟨⟨_, _, h0⟩, ⟨_, _, h1⟩, ⟨_, _, h2⟩, ⟨_, _, h3⟩, ⟨_, _, h4⟩, ⟨_, _, h5⟩, ⟨_, _, h6⟩, ⟨_, _, h7⟩⟩ := hf
  simp only [cells_t3, cells_t5, cells_t35, cells_t37, cells_t26, List.drop_succ_cons, List.drop_zero, List.take_succ_cons, List.take_zero] at h0 h1 h2 h3 h4 h5 h6 h7
  obtain ⟨k, d, g, p, q, r, hs, -⟩ := rd_scheme h0
  obtain ⟨co, hi, hn, -⟩ := rd_ints h1
  obtain ⟨m, rfl, -⟩ := rd_int Try.underlying5 h2
  obtain ⟨no, rfl, -⟩ := rd_int Try.underlying3 h3
  obtain ⟨li, rfl, -⟩ := rd_int Try.underlying3 h4
  obtain ⟨seed, hsl, hsb, hsc⟩ := rd_key h5
  obtain ⟨ak, rfl, -⟩ := rd_int Try.underlying3 h6
  obtain ⟨mi, rfl, -⟩ := rd_int Try.underlying3 h7
  simp only [List.cons.injEq, and_true] at hs
  obtain ⟨rfl, rfl, rfl, rfl, rfl, rfl⟩ := hs
  refine ⟨⟨⟨k, d, g, p, q, r⟩, co, m, no, li, seed, ak, mi⟩, c6, ?_, hsl, hsb, hi, hn⟩
  unfold Bx.cells
  rw [← hsc]
  rfl
end
end Go.Proofs.Ytpnfghpcpjpppaa
