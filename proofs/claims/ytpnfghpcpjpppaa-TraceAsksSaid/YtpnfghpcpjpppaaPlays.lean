/- trace.plays: a map of functions. -/
import Derived.Test.YtpnfghpcpjpppaaOpn
namespace Go.Proofs.Ytpnfghpcpjpppaa
open Go.RowKit
set_option linter.unusedVariables false
set_option linter.unusedSimpArgs false

theorem make_map {P : Program} (t : TypeId) (W : World) : (Instr.makeMap t none).run P W = .ok (.map (some W.heap.size)) (W.alloc (.map #[] 0)) := rfl

theorem heap_last (W : World) (o : Obj) : (W.alloc o).heap[W.heap.size]? = some o := by
  show (W.heap.push o)[W.heap.size]? = _
  simp
theorem push_set {α : Type} (a : Array α) (o o' : α) : (a.push o).setIfInBounds a.size o' = a.push o' := by
  apply Array.ext
  · simp
  · intro i h1 h2
    have hi : i < a.size + 1 := by simpa using h2
    by_cases he : a.size = i
    · subst he; simp
    · have hlt : i < a.size := by omega
      rw [Array.getElem_setIfInBounds_ne (by simpa using (by omega : i < a.size + 1)) he, Array.getElem_push_lt hlt, Array.getElem_push_lt hlt]
theorem getMap_last {P : Program} (W : World) (es : Array MapEntry) (c : Nat) : (getObj W.heap.size).run P (W.alloc (.map es c)) = .ok (.map es c) (W.alloc (.map es c)) := by
  have h := heap_last W (.map es c)
  simp only [getObj, Sem.run, h]
theorem setMap_last {P : Program} (W : World) (es : Array MapEntry) (c : Nat) (o' : Obj) : (setObj W.heap.size o').run P (W.alloc (.map es c)) = .ok () (W.alloc o') := by
  have h : (setObj W.heap.size o').run P (W.alloc (.map es c)) = .ok () { W.alloc (.map es c) with heap := (W.alloc (.map es c)).heap.setIfInBounds W.heap.size o' } := by
    have h := heap_last W (.map es c)
    simp only [setObj, Sem.run, h]
  rw [h]
  show Result.ok () { W.alloc (.map es c) with heap := (W.heap.push (.map es c)).setIfInBounds W.heap.size o' } = _
  rw [push_set]
  rfl
theorem checkKey_u8 {P : Program} {k : TypeId} (hk : P.underlying k = some (.int .u8)) (b : Bool) (m : Nat) (n : Int) (W : World) : (Instr.checkKey b (m + 1) k (.int .u8 n)).run P W = .ok () W := by
  unfold Instr.checkKey
  simp only [Sem.run_bind, run_underlying hk, Result.andThen]
  simp
theorem findKey_u8 {P : Program} {k : TypeId} (hk : P.underlying k = some (.int .u8)) {key : Value} {l : List MapEntry} {a : Option (Nat × Value)} (h : Instr.findNow (.int .u8) key l 0 = some a) (W : World) : (Instr.findKey k key l).run P W = .ok a W := by
  simp [Instr.findKey, run_underlying hk, Result.andThen, h]
/-- A new key goes into the map that was made last. -/
theorem ins_new {P : Program} {t k e : TypeId} (hu : P.underlying t = some (.map k e)) (hk : P.underlying k = some (.int .u8)) (W : World) (es : Array MapEntry) (c : Nat) (n : Int) (x : Value)
    (hm : Instr.findNow (.int .u8) (.int .u8 n) es.toList 0 = some none) :
    (Instr.mapUpdate t (.map (some W.heap.size)) (.int .u8 n) x).run P (W.alloc (.map es c)) = .ok () (W.alloc (.map (es.push { key := .int .u8 n, val := x, born := c }) (c + 1))) := by
  have hg := getMap_last (P := P) W es c
  have hst := setMap_last (P := P) W es c (.map (es.push { key := .int .u8 n, val := x, born := c }) (c + 1))
  have hck := checkKey_u8 (P := P) hk false 9999 n (W.alloc (.map es c))
  have hf := findKey_u8 (P := P) hk hm (W.alloc (.map es c))
  simp only [Instr.mapUpdate, Sem.run_bind, run_underlying hu, Result.andThen_ok, hg, hck, hf, hst]

/-- A key is looked up in the map that was made last. -/
theorem look_new {P : Program} {t k e : TypeId} (hu : P.underlying t = some (.map k e)) (hk : P.underlying k = some (.int .u8)) (W : World) (es : Array MapEntry) (c : Nat) (n : Int) (i : Nat) (x : Value)
    (hm : Instr.findNow (.int .u8) (.int .u8 n) es.toList 0 = some (some (i, x))) :
    (Instr.lookup t (.map (some W.heap.size)) (.int .u8 n) false).run P (W.alloc (.map es c)) = .ok x (W.alloc (.map es c)) := by
  have hg := getMap_last (P := P) W es c
  have hck := fun b => checkKey_u8 (P := P) hk b 9999 n (W.alloc (.map es c))
  have hf := findKey_u8 (P := P) hk hm (W.alloc (.map es c))
  simp only [Instr.lookup, Sem.run_bind, run_underlying hu, Result.andThen_ok, hg, hck, hf, Sem.run_pure]
  rfl

/-- The map of plays: how it is filled, and looked up. -/
theorem plays_map (W : World) {B : Nat} (hB : B = W.heap.size) :
    (∀ x1 : Value, (Instr.mapUpdate 167 (.map (some B)) (.int .u8 1) x1).run Try.prog (W.alloc (.map #[] 0)) = .ok () (W.alloc (.map #[⟨.int .u8 1, x1, 0⟩] 1))) ∧
    (∀ x1 x2 : Value, (Instr.mapUpdate 167 (.map (some B)) (.int .u8 2) x2).run Try.prog (W.alloc (.map #[⟨.int .u8 1, x1, 0⟩] 1)) = .ok () (W.alloc (.map #[⟨.int .u8 1, x1, 0⟩, ⟨.int .u8 2, x2, 1⟩] 2))) ∧
    (∀ x1 x2 x3 : Value, (Instr.mapUpdate 167 (.map (some B)) (.int .u8 3) x3).run Try.prog (W.alloc (.map #[⟨.int .u8 1, x1, 0⟩, ⟨.int .u8 2, x2, 1⟩] 2)) = .ok () (W.alloc (.map #[⟨.int .u8 1, x1, 0⟩, ⟨.int .u8 2, x2, 1⟩, ⟨.int .u8 3, x3, 2⟩] 3))) ∧
    (∀ x1 x2 x3 x4 : Value, (Instr.mapUpdate 167 (.map (some B)) (.int .u8 4) x4).run Try.prog (W.alloc (.map #[⟨.int .u8 1, x1, 0⟩, ⟨.int .u8 2, x2, 1⟩, ⟨.int .u8 3, x3, 2⟩] 3)) = .ok () (W.alloc (.map #[⟨.int .u8 1, x1, 0⟩, ⟨.int .u8 2, x2, 1⟩, ⟨.int .u8 3, x3, 2⟩, ⟨.int .u8 4, x4, 3⟩] 4))) ∧
    (∀ x1 x2 x3 x4 : Value, (Instr.lookup 167 (.map (some B)) (.int .u8 1) false).run Try.prog (W.alloc (.map #[⟨.int .u8 1, x1, 0⟩, ⟨.int .u8 2, x2, 1⟩, ⟨.int .u8 3, x3, 2⟩, ⟨.int .u8 4, x4, 3⟩] 4)) = .ok x1 (W.alloc (.map #[⟨.int .u8 1, x1, 0⟩, ⟨.int .u8 2, x2, 1⟩, ⟨.int .u8 3, x3, 2⟩, ⟨.int .u8 4, x4, 3⟩] 4))) ∧
    (∀ x1 x2 x3 x4 : Value, (Instr.lookup 167 (.map (some B)) (.int .u8 2) false).run Try.prog (W.alloc (.map #[⟨.int .u8 1, x1, 0⟩, ⟨.int .u8 2, x2, 1⟩, ⟨.int .u8 3, x3, 2⟩, ⟨.int .u8 4, x4, 3⟩] 4)) = .ok x2 (W.alloc (.map #[⟨.int .u8 1, x1, 0⟩, ⟨.int .u8 2, x2, 1⟩, ⟨.int .u8 3, x3, 2⟩, ⟨.int .u8 4, x4, 3⟩] 4))) ∧
    (∀ x1 x2 x3 x4 : Value, (Instr.lookup 167 (.map (some B)) (.int .u8 3) false).run Try.prog (W.alloc (.map #[⟨.int .u8 1, x1, 0⟩, ⟨.int .u8 2, x2, 1⟩, ⟨.int .u8 3, x3, 2⟩, ⟨.int .u8 4, x4, 3⟩] 4)) = .ok x3 (W.alloc (.map #[⟨.int .u8 1, x1, 0⟩, ⟨.int .u8 2, x2, 1⟩, ⟨.int .u8 3, x3, 2⟩, ⟨.int .u8 4, x4, 3⟩] 4))) ∧
    (∀ x1 x2 x3 x4 : Value, (Instr.lookup 167 (.map (some B)) (.int .u8 4) false).run Try.prog (W.alloc (.map #[⟨.int .u8 1, x1, 0⟩, ⟨.int .u8 2, x2, 1⟩, ⟨.int .u8 3, x3, 2⟩, ⟨.int .u8 4, x4, 3⟩] 4)) = .ok x4 (W.alloc (.map #[⟨.int .u8 1, x1, 0⟩, ⟨.int .u8 2, x2, 1⟩, ⟨.int .u8 3, x3, 2⟩, ⟨.int .u8 4, x4, 3⟩] 4))) := by
  subst hB
  exact ⟨fun x1 => ins_new Try.underlying167 Try.underlying5 W #[] 0 1 x1 rfl,
    fun x1 x2 => ins_new Try.underlying167 Try.underlying5 W #[⟨.int .u8 1, x1, 0⟩] 1 2 x2 rfl,
    fun x1 x2 x3 => ins_new Try.underlying167 Try.underlying5 W #[⟨.int .u8 1, x1, 0⟩, ⟨.int .u8 2, x2, 1⟩] 2 3 x3 rfl,
    fun x1 x2 x3 x4 => ins_new Try.underlying167 Try.underlying5 W #[⟨.int .u8 1, x1, 0⟩, ⟨.int .u8 2, x2, 1⟩, ⟨.int .u8 3, x3, 2⟩] 3 4 x4 rfl,
    fun x1 x2 x3 x4 => look_new Try.underlying167 Try.underlying5 W #[⟨.int .u8 1, x1, 0⟩, ⟨.int .u8 2, x2, 1⟩, ⟨.int .u8 3, x3, 2⟩, ⟨.int .u8 4, x4, 3⟩] 4 1 0 x1 rfl,
    fun x1 x2 x3 x4 => look_new Try.underlying167 Try.underlying5 W #[⟨.int .u8 1, x1, 0⟩, ⟨.int .u8 2, x2, 1⟩, ⟨.int .u8 3, x3, 2⟩, ⟨.int .u8 4, x4, 3⟩] 4 2 1 x2 rfl,
    fun x1 x2 x3 x4 => look_new Try.underlying167 Try.underlying5 W #[⟨.int .u8 1, x1, 0⟩, ⟨.int .u8 2, x2, 1⟩, ⟨.int .u8 3, x3, 2⟩, ⟨.int .u8 4, x4, 3⟩] 4 3 2 x3 rfl,
    fun x1 x2 x3 x4 => look_new Try.underlying167 Try.underlying5 W #[⟨.int .u8 1, x1, 0⟩, ⟨.int .u8 2, x2, 1⟩, ⟨.int .u8 3, x3, 2⟩, ⟨.int .u8 4, x4, 3⟩] 4 4 3 x4 rfl⟩

set_option maxRecDepth 20000 in
set_option maxHeartbeats 2000000 in
theorem play4_any (B C : Nat) (seed : List Int) (r x : Int) (w : World) (h16 : seed.length = 16) (hr : w.rangeAt B 10 (keyL seed)) (c0 : w.cell? ⟨C, 0, none⟩ = some (.int .i64 r)) (c1 : w.cell? ⟨C, 1, none⟩ = some (.int .i64 x)) (r0 : 0 ≤ r) (r1 : r ≤ 100) (x0 : 0 ≤ x) (x1 : x ≤ 100) :
    Calls Try.prog 103 #[.pointer (some ⟨B, 0, none⟩), .pointer (some ⟨C, 0, none⟩)] w fun e w' => e = .returned (.bool (decide (numberV seed (4294967296 + 64 * x + r) 2 = 1))) ∧ Below w.heap.size w w' := by
  have CN := Number_any seed (4294967296 + 64 * x + r) 2 w h16 (by omega) (by omega) (by omega) (by omega)
  generalize numberV seed (4294967296 + 64 * x + r) 2 = z at *
  unfold keyV at CN
  obtain ⟨a0, a1, a2, a3, a4, a5, a6, a7, a8, a9, a10, a11, a12, a13, a14, a15, rfl⟩ := len16i h16
  simp only [keyL, List.map_cons, List.map_nil] at CN hr
  have s0 : w.cell? ⟨B, 10, none⟩ = some (.int .u8 a0) := hr 0 _ rfl
  have s1 : w.cell? ⟨B, 11, none⟩ = some (.int .u8 a1) := hr 1 _ rfl
  have s2 : w.cell? ⟨B, 12, none⟩ = some (.int .u8 a2) := hr 2 _ rfl
  have s3 : w.cell? ⟨B, 13, none⟩ = some (.int .u8 a3) := hr 3 _ rfl
  have s4 : w.cell? ⟨B, 14, none⟩ = some (.int .u8 a4) := hr 4 _ rfl
  have s5 : w.cell? ⟨B, 15, none⟩ = some (.int .u8 a5) := hr 5 _ rfl
  have s6 : w.cell? ⟨B, 16, none⟩ = some (.int .u8 a6) := hr 6 _ rfl
  have s7 : w.cell? ⟨B, 17, none⟩ = some (.int .u8 a7) := hr 7 _ rfl
  have s8 : w.cell? ⟨B, 18, none⟩ = some (.int .u8 a8) := hr 8 _ rfl
  have s9 : w.cell? ⟨B, 19, none⟩ = some (.int .u8 a9) := hr 9 _ rfl
  have s10 : w.cell? ⟨B, 20, none⟩ = some (.int .u8 a10) := hr 10 _ rfl
  have s11 : w.cell? ⟨B, 21, none⟩ = some (.int .u8 a11) := hr 11 _ rfl
  have s12 : w.cell? ⟨B, 22, none⟩ = some (.int .u8 a12) := hr 12 _ rfl
  have s13 : w.cell? ⟨B, 23, none⟩ = some (.int .u8 a13) := hr 13 _ rfl
  have s14 : w.cell? ⟨B, 24, none⟩ = some (.int .u8 a14) := hr 14 _ rfl
  have s15 : w.cell? ⟨B, 25, none⟩ = some (.int .u8 a15) := hr 15 _ rfl
  clear hr h16
  go_enter Try.func103, Try.ntmps103
  go_wp2_with (go_at_call 70; refine CN.mono ?_; rintro e w1 ⟨rfl, hb⟩)
  go_returns
  exact ⟨by rfl, hb⟩

theorem play1_any (C : Nat) (f : Bool) (w : World) (c2 : w.cell? ⟨C, 2, none⟩ = some (.bool f)) :
    Calls Try.prog 100 #[.pointer (some ⟨C, 0, none⟩)] w fun e w' => e = .returned (.bool f) ∧ Below w.heap.size w w' := by
  go_enter Try.func100, Try.ntmps100
  go_wp2
  go_returns
  exact ⟨rfl, Below.refl _ _⟩
theorem play2_any (w : World) : Calls Try.prog 101 #[] w fun e w' => e = .returned (.bool false) ∧ Below w.heap.size w w' := by
  go_enter Try.func101, Try.ntmps101
  go_wp2
  go_returns
  exact ⟨rfl, Below.refl _ _⟩
theorem play3_any (w : World) : Calls Try.prog 102 #[] w fun e w' => e = .returned (.bool true) ∧ Below w.heap.size w w' := by
  go_enter Try.func102, Try.ntmps102
  go_wp2
  go_returns
  exact ⟨rfl, Below.refl _ _⟩

/-- trace.plays. -/
def playsV (mode : Int) (seed : List Int) (r x : Int) (f : Bool) : Bool := if mode = 1 then f else if mode = 2 then false else if mode = 3 then true else decide (numberV seed (4294967296 + 64 * x + r) 2 = 1)

set_option maxRecDepth 20000 in
set_option maxHeartbeats 2000000 in
theorem plays_1 (b : Bx) (v : Value) (r x : Int) (f : Bool) (w : World) (h16 : b.seed.length = 16) (hm : b.mode = 1) (r0 : 0 ≤ r) (r1 : r ≤ 100) (x0 : 0 ≤ x) (x1 : x ≤ 100) :
    Calls Try.prog 71 #[b.val v, .agg #[.int .i64 r, .int .i64 x, .bool f]] w fun e w' => e = .returned (.bool (playsV b.mode b.seed r x f)) ∧ Below w.heap.size w w' := by
  have hn := (box_new h16 v w 39).2.2.2.2.2.2.2.2.2.2.2.2.2.1
  unfold Bx.val
  have h7 : (b.cells v)[7]? = some (.int .u8 1) := hm ▸ rfl
  have hp : playsV b.mode b.seed r x f = f := by rw [hm]; rfl
  rw [hp]
  clear hp
  generalize b.cells v = L at *
  clear hn hm h16
  obtain ⟨h1, h2, h3, h4, k1, k2, k3, k4⟩ := plays_map ((w.alloc (.cells L.toArray 39)).alloc (.cells #[.int .i64 r, .int .i64 x, .bool f] 130)) (B := w.heap.size + 1 + 1) (by simp)
  have hM := make_map (P := Try.prog) 167 ((w.alloc (.cells L.toArray 39)).alloc (.cells #[.int .i64 r, .int .i64 x, .bool f] 130))
  rw [size_alloc, size_alloc] at hM
  go_enter Try.func71, Try.ntmps71
  go_wp2_with (go_at_call 100; refine (play1_any _ f _ (by simp [go_sem])).mono ?_; rintro e w1 ⟨rfl, hb⟩)
  go_returns
  exact ⟨rfl, Below.trans (by (repeat' (first | (with_reducible exact Below.refl _ _) | (with_reducible assumption) | (with_reducible refine Below.alloc ?_ ?_ _) | (with_reducible refine Below.drew ?_) | (with_reducible refine below_drewN _ ?_) | (with_reducible refine Below.setCell ?_ ?_ _) | (with_reducible refine Below.frame ?_ _) | go_size | (simp only [size_alloc, size_setCell, size_drew, size_drewN]; omega)))) (hb.mono (by simp; omega))⟩

set_option maxRecDepth 20000 in
set_option maxHeartbeats 2000000 in
theorem plays_2 (b : Bx) (v : Value) (r x : Int) (f : Bool) (w : World) (h16 : b.seed.length = 16) (hm : b.mode = 2) (r0 : 0 ≤ r) (r1 : r ≤ 100) (x0 : 0 ≤ x) (x1 : x ≤ 100) :
    Calls Try.prog 71 #[b.val v, .agg #[.int .i64 r, .int .i64 x, .bool f]] w fun e w' => e = .returned (.bool (playsV b.mode b.seed r x f)) ∧ Below w.heap.size w w' := by
  have hn := (box_new h16 v w 39).2.2.2.2.2.2.2.2.2.2.2.2.2.1
  unfold Bx.val
  have h7 : (b.cells v)[7]? = some (.int .u8 2) := hm ▸ rfl
  have hp : playsV b.mode b.seed r x f = false := by rw [hm]; rfl
  rw [hp]
  clear hp
  generalize b.cells v = L at *
  clear hn hm h16
  obtain ⟨h1, h2, h3, h4, k1, k2, k3, k4⟩ := plays_map ((w.alloc (.cells L.toArray 39)).alloc (.cells #[.int .i64 r, .int .i64 x, .bool f] 130)) (B := w.heap.size + 1 + 1) (by simp)
  have hM := make_map (P := Try.prog) 167 ((w.alloc (.cells L.toArray 39)).alloc (.cells #[.int .i64 r, .int .i64 x, .bool f] 130))
  rw [size_alloc, size_alloc] at hM
  go_enter Try.func71, Try.ntmps71
  go_wp2_with (go_at_call 101; refine (play2_any _).mono ?_; rintro e w1 ⟨rfl, hb⟩)
  go_returns
  exact ⟨rfl, Below.trans (by (repeat' (first | (with_reducible exact Below.refl _ _) | (with_reducible assumption) | (with_reducible refine Below.alloc ?_ ?_ _) | (with_reducible refine Below.drew ?_) | (with_reducible refine below_drewN _ ?_) | (with_reducible refine Below.setCell ?_ ?_ _) | (with_reducible refine Below.frame ?_ _) | go_size | (simp only [size_alloc, size_setCell, size_drew, size_drewN]; omega)))) (hb.mono (by simp; omega))⟩

set_option maxRecDepth 20000 in
set_option maxHeartbeats 2000000 in
theorem plays_3 (b : Bx) (v : Value) (r x : Int) (f : Bool) (w : World) (h16 : b.seed.length = 16) (hm : b.mode = 3) (r0 : 0 ≤ r) (r1 : r ≤ 100) (x0 : 0 ≤ x) (x1 : x ≤ 100) :
    Calls Try.prog 71 #[b.val v, .agg #[.int .i64 r, .int .i64 x, .bool f]] w fun e w' => e = .returned (.bool (playsV b.mode b.seed r x f)) ∧ Below w.heap.size w w' := by
  have hn := (box_new h16 v w 39).2.2.2.2.2.2.2.2.2.2.2.2.2.1
  unfold Bx.val
  have h7 : (b.cells v)[7]? = some (.int .u8 3) := hm ▸ rfl
  have hp : playsV b.mode b.seed r x f = true := by rw [hm]; rfl
  rw [hp]
  clear hp
  generalize b.cells v = L at *
  clear hn hm h16
  obtain ⟨h1, h2, h3, h4, k1, k2, k3, k4⟩ := plays_map ((w.alloc (.cells L.toArray 39)).alloc (.cells #[.int .i64 r, .int .i64 x, .bool f] 130)) (B := w.heap.size + 1 + 1) (by simp)
  have hM := make_map (P := Try.prog) 167 ((w.alloc (.cells L.toArray 39)).alloc (.cells #[.int .i64 r, .int .i64 x, .bool f] 130))
  rw [size_alloc, size_alloc] at hM
  go_enter Try.func71, Try.ntmps71
  go_wp2_with (go_at_call 102; refine (play3_any _).mono ?_; rintro e w1 ⟨rfl, hb⟩)
  go_returns
  exact ⟨rfl, Below.trans (by (repeat' (first | (with_reducible exact Below.refl _ _) | (with_reducible assumption) | (with_reducible refine Below.alloc ?_ ?_ _) | (with_reducible refine Below.drew ?_) | (with_reducible refine below_drewN _ ?_) | (with_reducible refine Below.setCell ?_ ?_ _) | (with_reducible refine Below.frame ?_ _) | go_size | (simp only [size_alloc, size_setCell, size_drew, size_drewN]; omega)))) (hb.mono (by simp; omega))⟩

set_option maxRecDepth 20000 in
set_option maxHeartbeats 2000000 in
theorem plays_4 (b : Bx) (v : Value) (r x : Int) (f : Bool) (w : World) (h16 : b.seed.length = 16) (hm : b.mode = 4) (r0 : 0 ≤ r) (r1 : r ≤ 100) (x0 : 0 ≤ x) (x1 : x ≤ 100) :
    Calls Try.prog 71 #[b.val v, .agg #[.int .i64 r, .int .i64 x, .bool f]] w fun e w' => e = .returned (.bool (playsV b.mode b.seed r x f)) ∧ Below w.heap.size w w' := by
  have hn : (w.alloc (.cells (b.cells v).toArray 39)).rangeAt w.heap.size 10 (keyL b.seed) := (box_new h16 v w 39).2.2.2.2.2.2.2.2.2.2.2.2.2.1
  unfold Bx.val
  have h7 : (b.cells v)[7]? = some (.int .u8 4) := hm ▸ rfl
  have hp : playsV b.mode b.seed r x f = decide (numberV b.seed (4294967296 + 64 * x + r) 2 = 1) := by unfold playsV; rw [hm, if_neg (by decide), if_neg (by decide), if_neg (by decide)]
  rw [hp]
  clear hp
  generalize b.cells v = L at *
  have C4 := fun (W : World) hr c0 c1 => play4_any w.heap.size (w.heap.size + 1) b.seed r x W h16 hr c0 c1 r0 r1 x0 x1
  have HR := Lib.hid (World.rangeAt_alloc (World.rangeAt_alloc hn (.cells #[.int .i64 r, .int .i64 x, .bool f] 130)) (.map #[⟨.int .u8 1, .func (.func 100) #[] #[.pointer (some ⟨w.heap.size + 1, 0, none⟩)], 0⟩, ⟨.int .u8 2, .func (.func 101) #[] #[], 1⟩, ⟨.int .u8 3, .func (.func 102) #[] #[], 2⟩, ⟨.int .u8 4, .func (.func 103) #[] #[.pointer (some ⟨w.heap.size, 0, none⟩), .pointer (some ⟨w.heap.size + 1, 0, none⟩)], 3⟩] 4))
  clear hn
  generalize decide (numberV b.seed (4294967296 + 64 * x + r) 2 = 1) = res at *
  clear hm
  obtain ⟨h1, h2, h3, h4, k1, k2, k3, k4⟩ := plays_map ((w.alloc (.cells L.toArray 39)).alloc (.cells #[.int .i64 r, .int .i64 x, .bool f] 130)) (B := w.heap.size + 1 + 1) (by simp)
  have hM := make_map (P := Try.prog) 167 ((w.alloc (.cells L.toArray 39)).alloc (.cells #[.int .i64 r, .int .i64 x, .bool f] 130))
  rw [size_alloc, size_alloc] at hM
  go_enter Try.func71, Try.ntmps71
  go_wp2_with (go_at_call 103; refine (C4 _ HR.out (by simp [go_sem]) (by simp [go_sem])).mono ?_; rintro e w1 ⟨rfl, hb⟩)
  go_returns
  exact ⟨rfl, Below.trans (by (repeat' (first | (with_reducible exact Below.refl _ _) | (with_reducible assumption) | (with_reducible refine Below.alloc ?_ ?_ _) | (with_reducible refine Below.drew ?_) | (with_reducible refine below_drewN _ ?_) | (with_reducible refine Below.setCell ?_ ?_ _) | (with_reducible refine Below.frame ?_ _) | go_size | (simp only [size_alloc, size_setCell, size_drew, size_drewN]; omega)))) (hb.mono (by simp; omega))⟩

theorem plays_any (b : Bx) (v : Value) (r x : Int) (f : Bool) (w : World) (h16 : b.seed.length = 16) (hm1 : 1 ≤ b.mode) (hm4 : b.mode ≤ 4) (r0 : 0 ≤ r) (r1 : r ≤ 100) (x0 : 0 ≤ x) (x1 : x ≤ 100) :
    Calls Try.prog 71 #[b.val v, .agg #[.int .i64 r, .int .i64 x, .bool f]] w fun e w' => e = .returned (.bool (playsV b.mode b.seed r x f)) ∧ Below w.heap.size w w' := by
  have hm : b.mode = 1 ∨ b.mode = 2 ∨ b.mode = 3 ∨ b.mode = 4 := by omega
  rcases hm with hm | hm | hm | hm
  · exact plays_1 b v r x f w h16 hm r0 r1 x0 x1
  · exact plays_2 b v r x f w h16 hm r0 r1 x0 x1
  · exact plays_3 b v r x f w h16 hm r0 r1 x0 x1
  · exact plays_4 b v r x f w h16 hm r0 r1 x0 x1
end Go.Proofs.Ytpnfghpcpjpppaa
