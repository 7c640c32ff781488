/- cover.first over a path and the special nodes; cut; subset; member. -/
import Derived.Test.YtpnfghpcpjpppaaPath
namespace Go.Proofs.Ytpnfghpcpjpppaa
open Go.RowKit Go.Shelf
set_option linter.unusedVariables false
set_option linter.unusedSimpArgs false
attribute [local go_sem] Oper.semAt_some

theorem cell_new_l (W : World) (v : Value) (t : TypeId) : (W.alloc (.cells #[v] t)).cell? ⟨W.heap.size, 0, none⟩ = some v ∧ (W.alloc (.cells #[v] t)).frozen? ⟨W.heap.size, 0, none⟩ = false := by
  constructor <;> simp [go_sem]
theorem cell_alloc_l {W : World} {a : Addr} {v : Value} (o : Obj) (h : W.cell? a = some v) : (W.alloc o).cell? a = some v := cell_kept h (World.grownBy_alloc W o none) (fun r e => by cases e)
theorem frozen_alloc_l {W : World} {a : Addr} {v : Value} (o : Obj) (h : W.cell? a = some v) (hf : W.frozen? a = false) : (W.alloc o).frozen? a = false := (frozen_kept h (World.grownBy_alloc W o none) (fun r e => by cases e)).trans hf

theorem cell_lt {W : World} {b o : Nat} {v : Value} (h : W.cell? ⟨b, o, none⟩ = some v) : b < W.heap.size := by
  by_cases hb : b < W.heap.size
  · exact hb
  · simp only [World.cell?] at h
    rw [Array.getElem?_eq_none (by omega)] at h
    cases h
theorem keeps_below {W W' : World} (h : Below W.heap.size W W') : KeepsOthers W W' :=
  ⟨h.size, fun k o hk _ => (h.block k (Array.getElem?_eq_some_iff.1 hk).1).trans hk⟩

/-- The first special node of the path from v to t, or 0. -/
def cutN (d v t : Int) : Int := match (pathN v t).find? (fun x => specialB d x.1) with | some x => x.1 | none => 0

set_option maxRecDepth 100000 in
set_option maxHeartbeats 2000000 in
theorem first_any (k d v t : Int) (B1 B2 : Nat) (w : World) (hu : under t v) (hB1 : B1 < w.heap.size) (hB2 : B2 < w.heap.size)
    (c1 : w.cell? ⟨B1, 0, none⟩ = some (.int .i64 v)) (c2 : w.cell? ⟨B2, 0, none⟩ = some (.int .i64 t)) :
    Calls Try.prog 154 #[.func (.func 155) #[] #[.pointer (some ⟨B1, 0, none⟩), .pointer (some ⟨B2, 0, none⟩)], .func (.func 138) #[.agg #[.int .u8 k, .int .i64 d, .int .i64 (stride d)]] #[]] w fun e w' =>
      e = .returned (.int .i64 (cutN d v t)) ∧ Below w.heap.size w w' := by
  refine (callsIn_wide (n := 4)).1 ?_
  refine callsIn_of_wp_marks Try.func154 rfl trivial ?_ rfl
  simp only [Try.ntmps154, List.size_toArray, List.length_cons, List.length_nil, Nat.reduceAdd, Nat.reduceSub, Array.replicate_succ, Array.replicate_zero, List.push_toArray, List.append_toArray, List.nil_append, List.cons_append]
  gi_wp2
  have e0 := cell_new_l w (.func (.func 138) #[.agg #[.int .u8 k, .int .i64 d, .int .i64 (stride d)]] #[]) 192
  have e1 := cell_new_l (w.alloc (.cells #[.func (.func 138) #[.agg #[.int .u8 k, .int .i64 d, .int .i64 (stride d)]] #[]] 192)) (.int .i64 0) 177
  simp only [World.size_alloc] at e1
  have hB0 : Below w.heap.size w ((w.alloc (.cells #[.func (.func 138) #[.agg #[.int .u8 k, .int .i64 d, .int .i64 (stride d)]] #[]] 192)).alloc (.cells #[.int .i64 0] 177)) := ((Below.refl _ w).alloc (Nat.le_refl _) _).alloc (by simp) _
  refine wpIn_rangeFunc_ownF rfl (by omega) (gf := 155) (lb := #[.pointer (some ⟨B1, 0, none⟩), .pointer (some ⟨B2, 0, none⟩)]) rfl trivial (enters_of Try.func155 (by kernel_rfl) rfl)
    (path_stops 3 (by omega) B1 B2 w.heap.size v t hu _ hB1 hB2 (by simp; omega) ((hB0.cell (p := ⟨B1, 0, none⟩) hB1).trans c1) ((hB0.cell (p := ⟨B2, 0, none⟩) hB2).trans c2)) belowK_t (belowK_b (by simp; omega)) (Below.refl _ _) (fun _ => rfl)
    (fun pre W => ((∀ y ∈ pre, specialB d y.1 = false) ∧ W.cell? ⟨w.heap.size, 0, none⟩ = some (.func (.func 138) #[.agg #[.int .u8 k, .int .i64 d, .int .i64 (stride d)]] #[]) ∧ W.cell? ⟨w.heap.size + 1, 0, none⟩ = some (.int .i64 0) ∧ W.frozen? ⟨w.heap.size + 1, 0, none⟩ = false) ∧ Below w.heap.size w W)
    (fun c pre W => (c = .ret ∧ ∃ p x, pre = p ++ [x] ∧ (∀ y ∈ p, specialB d y.1 = false) ∧ specialB d x.1 = true ∧ W.cell? ⟨w.heap.size + 1, 0, none⟩ = some (.int .i64 x.1)) ∧ Below w.heap.size w W)
    (OwnFrom.and (Own.from (fun s A B row hs hg hr => ⟨hs.1, cell_kept hs.2.1 hg hr, cell_kept hs.2.2.1 hg hr, (frozen_kept hs.2.2.1 hg hr).trans hs.2.2.2⟩) _) (ownFrom_below (Nat.le_refl _) (by simp; omega)))
    (fun c => OwnFrom.and (Own.from (fun s A B row hs hg hr => by obtain ⟨hc, p, x, h1, h2, h3, h4⟩ := hs; exact ⟨hc, p, x, h1, h2, h3, cell_kept h4 hg hr⟩) _) (ownFrom_below (Nat.le_refl _) (by simp; omega)))
    ⟨⟨by simp, cell_alloc_l _ e0.1, e1.1, e1.2⟩, hB0⟩
    (fun x => { tmps := #[.func (.func 155) #[] #[.pointer (some ⟨B1, 0, none⟩), .pointer (some ⟨B2, 0, none⟩)], .func (.func 138) #[.agg #[.int .u8 k, .int .i64 d, .int .i64 (stride d)]] #[], undef, .pointer (some ⟨w.heap.size, 0, none⟩), .pointer (some ⟨w.heap.size + 1, 0, none⟩), .int .i64 x.1, .func (.func 155) #[] #[.pointer (some ⟨B1, 0, none⟩), .pointer (some ⟨B2, 0, none⟩)], .int .i64 x.1, undef, undef, undef, undef], defers := [] }) ?assign ?body ?done ?stop
  case assign =>
    intro l x W K hK
    gi_wp2
    exact hK
  case body =>
    rintro l pre ⟨x, hx1, hx2⟩ W ⟨⟨hp, hcw, hcr, hfr⟩, hB⟩ _
    dsimp only
    have C := fun w => special_any k d x w hx1 hx2
    have hlt := cell_lt hcr
    cases hs : specialB d x with
    | true =>
      rw [hs] at C
      have HS : Hid (specialB d x = true) := hs
      have HP := Lib.hid hp
      clear hs hp
      gi_wp2_with (refine ⟨trivial, ?_⟩; gi_at_call 138; refine (CallsIn.inRound l (callsIn_wide.2 (C _))).mono ?_; rintro e w1 ⟨rfl, hb⟩; have hcr1 := (hb.cell (p := ⟨w.heap.size + 1, 0, none⟩) hlt).trans hcr; have hfr1 := (hb.frozen (p := ⟨w.heap.size + 1, 0, none⟩) hlt).trans hfr)
      exact ⟨(keeps_below hb).trans (KeepsOthers.setCell _ _ _), ⟨rfl, pre, ⟨x, hx1, hx2⟩, rfl, HP.out, HS.out, World.cell?_setCell_same' _ _ _ (by rw [hcr1]; rfl)⟩, (hB.trans (hb.mono hB.size)).setCell (p := ⟨w.heap.size + 1, 0, none⟩) (by simp) _⟩
    | false =>
      rw [hs] at C
      have HS : Hid (specialB d x = false) := hs
      have HP := Lib.hid hp
      clear hs hp
      gi_wp2_with (refine ⟨trivial, ?_⟩; gi_at_call 138; refine (CallsIn.inRound l (callsIn_wide.2 (C _))).mono ?_; rintro e w1 ⟨rfl, hb⟩; have hcr1 := (hb.cell (p := ⟨w.heap.size + 1, 0, none⟩) hlt).trans hcr; have hfr1 := (hb.frozen (p := ⟨w.heap.size + 1, 0, none⟩) hlt).trans hfr; have hcw1 := (hb.cell (p := ⟨w.heap.size, 0, none⟩) (by show w.heap.size < W.heap.size; omega)).trans hcw)
      exact ⟨keeps_below hb, hb.mono hB.size, ⟨fun y hy => (List.mem_append.1 hy).elim (HP.out y) (fun e => by rw [List.mem_singleton.1 e]; exact HS.out), hcw1, hcr1, hfr1⟩, hB.trans (hb.mono hB.size)⟩
  case done =>
    rintro D ys W hD rfl ⟨⟨hne, _, hcr, hfr⟩, hB⟩ hK
    have HN := Lib.hid hne
    clear hne
    gi_wp2
    have hK' := (KeepsOthers.setCell W ⟨w.heap.size + 1, 0, none⟩ (.int .i64 0)).same D _ hK rfl
    refine ⟨by simp, .inl ⟨_, _, rfl, run_takeDeferred hK', ?_⟩⟩
    have hc5 := cell_kept (World.cell?_setCell_same' W ⟨w.heap.size + 1, 0, none⟩ (.int .i64 0) (by rw [hcr]; rfl)) (grownBy_putObj' _ D (.deferred none)) (fun r e => by cases e; exact ⟨_, hK', rfl⟩)
    refine ⟨.int .i64 0, ?_, ret_i ?_, (hB.setCell (p := ⟨w.heap.size + 1, 0, none⟩) (by simp) _).trans (belowK_b (w := w) (Nat.le_refl _) _ D _ _ (by simp at hD; omega) hK' rfl rfl)⟩
    · simp [results, Try.f154, go_sem, hc5]
    · unfold cutN
      rw [List.find?_eq_none.2 (fun y hy => by rw [HN.out y hy]; simp)]
  case stop =>
    rintro D c pre W hD hpre ⟨⟨rfl, p, x, rfl, hp, hx, hcr⟩, hB⟩ hK
    have HP := Lib.hid hp
    have HX := Lib.hid hx
    have HR := Lib.hid hpre
    clear hp hx hpre
    gi_wp2
    refine ⟨by simp, .inl ⟨_, _, rfl, run_takeDeferred hK, ?_⟩⟩
    have hc5 := cell_kept hcr (grownBy_putObj' _ D (.deferred none)) (fun r e => by cases e; exact ⟨_, hK, rfl⟩)
    refine ⟨.int .i64 x.1, ?_, ret_i ?_, hB.trans (belowK_b (w := w) (Nat.le_refl _) W D _ _ (by simp at hD; omega) hK rfl rfl)⟩
    · simp [results, Try.f154, go_sem, hc5]
    · unfold cutN
      obtain ⟨r, hr⟩ := HR.out
      rw [← hr, List.append_assoc, List.find?_append, List.find?_eq_none.2 (fun y hy => by rw [HP.out y hy]; simp)]
      simp [HX.out]

end Go.Proofs.Ytpnfghpcpjpppaa
