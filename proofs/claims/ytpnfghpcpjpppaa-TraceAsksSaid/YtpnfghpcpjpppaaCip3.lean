/- The cipher: the round keys of a key; Encrypt. -/
import Derived.Test.YtpnfghpcpjpppaaCip2
import Derived.Test.YtpnfghpcpjpppaaFirst
import Derived.Test.YtpnfghpcpjpppaaPut16
namespace Go.Proofs.Ytpnfghpcpjpppaa
open Go.RowKit Go.Shelf
set_option linter.unusedVariables false
set_option linter.unusedSimpArgs false
attribute [local go_sem] Oper.semAt_some

theorem keys_any (k0 k1 k2 k3 k4 k5 k6 k7 k8 k9 k10 k11 k12 k13 k14 k15 : Int) (w : World) :
    Calls Try.prog 87 #[.agg #[.int .u8 k0, .int .u8 k1, .int .u8 k2, .int .u8 k3, .int .u8 k4, .int .u8 k5, .int .u8 k6, .int .u8 k7, .int .u8 k8, .int .u8 k9, .int .u8 k10, .int .u8 k11, .int .u8 k12, .int .u8 k13, .int .u8 k14, .int .u8 k15]] w fun e w' => e = .returned (.func (.func 120) #[] #[.pointer (some ⟨w.heap.size, 0, none⟩)]) ∧ w.alloc (.cells #[.int .u8 k0, .int .u8 k1, .int .u8 k2, .int .u8 k3, .int .u8 k4, .int .u8 k5, .int .u8 k6, .int .u8 k7, .int .u8 k8, .int .u8 k9, .int .u8 k10, .int .u8 k11, .int .u8 k12, .int .u8 k13, .int .u8 k14, .int .u8 k15] 37) = w' := by
  go_enter Try.func87, Try.ntmps87
  go_wp2
  go_returns
  exact ⟨rfl, rfl⟩

/-- The words of a block after i rounds. -/
def est (b k : Int × Int) : Nat → Int × Int
  | 0 => b
  | i + 1 => rnd (est b k i) (kst k i).2
theorem est_in {b k : Int × Int} (h : inW b.1 ∧ inW b.2) : ∀ i, inW (est b k i).1 ∧ inW (est b k i).2
  | 0 => h
  | i + 1 => ⟨rndX_in _ _ _, rndY_in _ _ _⟩
theorem keysTo_len (p : Int × Int) (n : Nat) : (keysTo p n).length = n := by unfold keysTo; simp
/-- The last of a beginning of the round keys. -/
theorem keysTo_at {p : Int × Int} {pre : List (Nat × Int)} {x : Nat × Int} (h : pre ++ [x] <+: keysTo p 32) : x = (pre.length, (kst p pre.length).2) := by
  obtain ⟨r, hr⟩ := h
  have hl := congrArg List.length hr
  simp only [List.length_append, List.length_singleton, keysTo_len] at hl
  have h1 : (keysTo p 32)[pre.length]? = some x := by rw [← hr]; simp
  unfold keysTo at h1
  rw [List.getElem?_map, List.getElem?_range (by omega)] at h1
  simpa using h1.symm

/-- The words of a key or block. -/
def wordsP (l : List Int) : Int × Int := (wpre (l.take 8) 8, wpre (l.drop 8) 8)
/-- Encrypt: the two words. -/
def encW (k b : List Int) : Int × Int := est (wordsP b) (wordsP k) 32
/-- The bytes of two words. -/
def bytesOf (p : Int × Int) : List Int := (List.range 8).map (byteOf p.1) ++ (List.range 8).map (byteOf p.2)
def enc (k b : List Int) : List Int := bytesOf (encW k b)

set_option maxRecDepth 100000 in
set_option maxHeartbeats 4000000 in
theorem Encrypt_lit (k0 k1 k2 k3 k4 k5 k6 k7 k8 k9 k10 k11 k12 k13 k14 k15 b0 b1 b2 b3 b4 b5 b6 b7 b8 b9 b10 b11 b12 b13 b14 b15 : Int) (w : World) (x y : Int) (hxy : encW [k0, k1, k2, k3, k4, k5, k6, k7, k8, k9, k10, k11, k12, k13, k14, k15] [b0, b1, b2, b3, b4, b5, b6, b7, b8, b9, b10, b11, b12, b13, b14, b15] = (x, y)) :
    Calls Try.prog 58 #[.agg #[.int .u8 k0, .int .u8 k1, .int .u8 k2, .int .u8 k3, .int .u8 k4, .int .u8 k5, .int .u8 k6, .int .u8 k7, .int .u8 k8, .int .u8 k9, .int .u8 k10, .int .u8 k11, .int .u8 k12, .int .u8 k13, .int .u8 k14, .int .u8 k15], .agg #[.int .u8 b0, .int .u8 b1, .int .u8 b2, .int .u8 b3, .int .u8 b4, .int .u8 b5, .int .u8 b6, .int .u8 b7, .int .u8 b8, .int .u8 b9, .int .u8 b10, .int .u8 b11, .int .u8 b12, .int .u8 b13, .int .u8 b14, .int .u8 b15]] w fun e w' => e = .returned (.agg #[.int .u8 (byteOf x 0), .int .u8 (byteOf x 1), .int .u8 (byteOf x 2), .int .u8 (byteOf x 3), .int .u8 (byteOf x 4), .int .u8 (byteOf x 5), .int .u8 (byteOf x 6), .int .u8 (byteOf x 7), .int .u8 (byteOf y 0), .int .u8 (byteOf y 1), .int .u8 (byteOf y 2), .int .u8 (byteOf y 3), .int .u8 (byteOf y 4), .int .u8 (byteOf y 5), .int .u8 (byteOf y 6), .int .u8 (byteOf y 7)]) ∧ Below w.heap.size w w' := by
  obtain ⟨kp, hkp⟩ : ∃ kp, kp = wordsP [k0, k1, k2, k3, k4, k5, k6, k7, k8, k9, k10, k11, k12, k13, k14, k15] := ⟨_, rfl⟩
  obtain ⟨bp, hbp⟩ : ∃ bp, bp = wordsP [b0, b1, b2, b3, b4, b5, b6, b7, b8, b9, b10, b11, b12, b13, b14, b15] := ⟨_, rfl⟩
  have CK : ∀ w, Calls Try.prog 86 #[.agg #[.int .u8 k0, .int .u8 k1, .int .u8 k2, .int .u8 k3, .int .u8 k4, .int .u8 k5, .int .u8 k6, .int .u8 k7, .int .u8 k8, .int .u8 k9, .int .u8 k10, .int .u8 k11, .int .u8 k12, .int .u8 k13, .int .u8 k14, .int .u8 k15]] w fun e w' => e = .returned (.agg #[.int .u64 kp.1, .int .u64 kp.2]) ∧ Below w.heap.size w w' := fun w => by rw [hkp]; exact wordsOf_any k0 k1 k2 k3 k4 k5 k6 k7 k8 k9 k10 k11 k12 k13 k14 k15 w
  have CB : ∀ w, Calls Try.prog 86 #[.agg #[.int .u8 b0, .int .u8 b1, .int .u8 b2, .int .u8 b3, .int .u8 b4, .int .u8 b5, .int .u8 b6, .int .u8 b7, .int .u8 b8, .int .u8 b9, .int .u8 b10, .int .u8 b11, .int .u8 b12, .int .u8 b13, .int .u8 b14, .int .u8 b15]] w fun e w' => e = .returned (.agg #[.int .u64 bp.1, .int .u64 bp.2]) ∧ Below w.heap.size w w' := fun w => by rw [hbp]; exact wordsOf_any b0 b1 b2 b3 b4 b5 b6 b7 b8 b9 b10 b11 b12 b13 b14 b15 w
  have hk : inW kp.1 ∧ inW kp.2 := by rw [hkp]; exact ⟨wpre_in _ _, wpre_in _ _⟩
  have hb : inW bp.1 ∧ inW bp.2 := by rw [hbp]; exact ⟨wpre_in _ _, wpre_in _ _⟩
  have HE : Hid (est bp kp 32 = (x, y)) := by rw [← hxy, hkp, hbp]; rfl
  clear hxy hkp hbp
  have HB := Lib.hid hb
  clear hb
  refine (callsIn_wide (n := 6)).1 ?_
  refine callsIn_of_wp_marks Try.func58 rfl trivial ?_ rfl
  simp only [Try.ntmps58, List.size_toArray, List.length_cons, List.length_nil, Nat.reduceAdd, Nat.reduceSub, Array.replicate_succ, Array.replicate_zero, List.push_toArray, List.append_toArray, List.nil_append, List.cons_append]
  gi_wp2_with (first
    | (refine ⟨trivial, ?_⟩; gi_at_call 86; refine (callsIn_wide.2 (CB _)).mono ?_; rintro e w1 ⟨rfl, hb⟩; obtain ⟨hb, hz, hc, hf, hlt, hne⟩ := afterK (N := w.heap.size + 1 + 1 + 1) (w := w) hb (by (repeat' (first | (with_reducible exact Below.refl _ _) | (with_reducible assumption) | (with_reducible refine Below.alloc ?_ ?_ _) | (with_reducible refine Below.drew ?_) | (with_reducible refine below_drewN _ ?_) | (with_reducible refine Below.setCell ?_ ?_ _) | (with_reducible refine Below.frame ?_ _) | go_size | (simp only [size_alloc, size_setCell, size_drew, size_drewN]; omega)))) (by first | go_size | (simp only [size_alloc, size_setCell, size_drew, size_drewN]; omega)); have kc0 : w1.cell? ⟨w.heap.size, 0, none⟩ = some (.int .u8 k0) := (by rw [hc w.heap.size 0 (by omega)]; simp [go_sem]); have kc1 : w1.cell? ⟨w.heap.size, 1, none⟩ = some (.int .u8 k1) := (by rw [hc w.heap.size 1 (by omega)]; simp [go_sem]); have kc2 : w1.cell? ⟨w.heap.size, 2, none⟩ = some (.int .u8 k2) := (by rw [hc w.heap.size 2 (by omega)]; simp [go_sem]); have kc3 : w1.cell? ⟨w.heap.size, 3, none⟩ = some (.int .u8 k3) := (by rw [hc w.heap.size 3 (by omega)]; simp [go_sem]); have kc4 : w1.cell? ⟨w.heap.size, 4, none⟩ = some (.int .u8 k4) := (by rw [hc w.heap.size 4 (by omega)]; simp [go_sem]); have kc5 : w1.cell? ⟨w.heap.size, 5, none⟩ = some (.int .u8 k5) := (by rw [hc w.heap.size 5 (by omega)]; simp [go_sem]); have kc6 : w1.cell? ⟨w.heap.size, 6, none⟩ = some (.int .u8 k6) := (by rw [hc w.heap.size 6 (by omega)]; simp [go_sem]); have kc7 : w1.cell? ⟨w.heap.size, 7, none⟩ = some (.int .u8 k7) := (by rw [hc w.heap.size 7 (by omega)]; simp [go_sem]); have kc8 : w1.cell? ⟨w.heap.size, 8, none⟩ = some (.int .u8 k8) := (by rw [hc w.heap.size 8 (by omega)]; simp [go_sem]); have kc9 : w1.cell? ⟨w.heap.size, 9, none⟩ = some (.int .u8 k9) := (by rw [hc w.heap.size 9 (by omega)]; simp [go_sem]); have kc10 : w1.cell? ⟨w.heap.size, 10, none⟩ = some (.int .u8 k10) := (by rw [hc w.heap.size 10 (by omega)]; simp [go_sem]); have kc11 : w1.cell? ⟨w.heap.size, 11, none⟩ = some (.int .u8 k11) := (by rw [hc w.heap.size 11 (by omega)]; simp [go_sem]); have kc12 : w1.cell? ⟨w.heap.size, 12, none⟩ = some (.int .u8 k12) := (by rw [hc w.heap.size 12 (by omega)]; simp [go_sem]); have kc13 : w1.cell? ⟨w.heap.size, 13, none⟩ = some (.int .u8 k13) := (by rw [hc w.heap.size 13 (by omega)]; simp [go_sem]); have kc14 : w1.cell? ⟨w.heap.size, 14, none⟩ = some (.int .u8 k14) := (by rw [hc w.heap.size 14 (by omega)]; simp [go_sem]); have kc15 : w1.cell? ⟨w.heap.size, 15, none⟩ = some (.int .u8 k15) := (by rw [hc w.heap.size 15 (by omega)]; simp [go_sem]); have rc0 : w1.cell? ⟨w.heap.size + 1 + 1, 0, none⟩ = some (.int .u8 0) := (by rw [hc (w.heap.size + 1 + 1) 0 (by omega)]; simp [go_sem]); have rc1 : w1.cell? ⟨w.heap.size + 1 + 1, 1, none⟩ = some (.int .u8 0) := (by rw [hc (w.heap.size + 1 + 1) 1 (by omega)]; simp [go_sem]); have rc2 : w1.cell? ⟨w.heap.size + 1 + 1, 2, none⟩ = some (.int .u8 0) := (by rw [hc (w.heap.size + 1 + 1) 2 (by omega)]; simp [go_sem]); have rc3 : w1.cell? ⟨w.heap.size + 1 + 1, 3, none⟩ = some (.int .u8 0) := (by rw [hc (w.heap.size + 1 + 1) 3 (by omega)]; simp [go_sem]); have rc4 : w1.cell? ⟨w.heap.size + 1 + 1, 4, none⟩ = some (.int .u8 0) := (by rw [hc (w.heap.size + 1 + 1) 4 (by omega)]; simp [go_sem]); have rc5 : w1.cell? ⟨w.heap.size + 1 + 1, 5, none⟩ = some (.int .u8 0) := (by rw [hc (w.heap.size + 1 + 1) 5 (by omega)]; simp [go_sem]); have rc6 : w1.cell? ⟨w.heap.size + 1 + 1, 6, none⟩ = some (.int .u8 0) := (by rw [hc (w.heap.size + 1 + 1) 6 (by omega)]; simp [go_sem]); have rc7 : w1.cell? ⟨w.heap.size + 1 + 1, 7, none⟩ = some (.int .u8 0) := (by rw [hc (w.heap.size + 1 + 1) 7 (by omega)]; simp [go_sem]); have rc8 : w1.cell? ⟨w.heap.size + 1 + 1, 8, none⟩ = some (.int .u8 0) := (by rw [hc (w.heap.size + 1 + 1) 8 (by omega)]; simp [go_sem]); have rc9 : w1.cell? ⟨w.heap.size + 1 + 1, 9, none⟩ = some (.int .u8 0) := (by rw [hc (w.heap.size + 1 + 1) 9 (by omega)]; simp [go_sem]); have rc10 : w1.cell? ⟨w.heap.size + 1 + 1, 10, none⟩ = some (.int .u8 0) := (by rw [hc (w.heap.size + 1 + 1) 10 (by omega)]; simp [go_sem]); have rc11 : w1.cell? ⟨w.heap.size + 1 + 1, 11, none⟩ = some (.int .u8 0) := (by rw [hc (w.heap.size + 1 + 1) 11 (by omega)]; simp [go_sem]); have rc12 : w1.cell? ⟨w.heap.size + 1 + 1, 12, none⟩ = some (.int .u8 0) := (by rw [hc (w.heap.size + 1 + 1) 12 (by omega)]; simp [go_sem]); have rc13 : w1.cell? ⟨w.heap.size + 1 + 1, 13, none⟩ = some (.int .u8 0) := (by rw [hc (w.heap.size + 1 + 1) 13 (by omega)]; simp [go_sem]); have rc14 : w1.cell? ⟨w.heap.size + 1 + 1, 14, none⟩ = some (.int .u8 0) := (by rw [hc (w.heap.size + 1 + 1) 14 (by omega)]; simp [go_sem]); have rc15 : w1.cell? ⟨w.heap.size + 1 + 1, 15, none⟩ = some (.int .u8 0) := (by rw [hc (w.heap.size + 1 + 1) 15 (by omega)]; simp [go_sem]); have rf : ∀ o, w1.frozen? ⟨w.heap.size + 1 + 1, o, none⟩ = false := fun o => (by rw [hf (w.heap.size + 1 + 1) o (by omega)]; simp [go_sem]); have hq0 : w.heap.size < w1.heap.size := (by omega); have hq2 : w.heap.size + 1 + 1 < w1.heap.size := (by omega); clear hc hf hlt hne)
    | (refine ⟨trivial, ?_⟩; gi_at_call 87; refine (callsIn_wide.2 (keys_any _ _ _ _ _ _ _ _ _ _ _ _ _ _ _ _ _)).mono ?_; rintro e w2 ⟨rfl, rfl⟩))
  have hz1 : w.heap.size + 1 + 1 + 1 ≤ w1.heap.size := hz
  clear kc0 kc1 kc2 kc3 kc4 kc5 kc6 kc7 kc8 kc9 kc10 kc11 kc12 kc13 kc14 kc15
  have hcell : ∀ i : Fin 16, ((w1.alloc (.cells #[.int .u64 bp.1, .int .u64 bp.2] 149)).alloc (.cells #[.int .u8 k0, .int .u8 k1, .int .u8 k2, .int .u8 k3, .int .u8 k4, .int .u8 k5, .int .u8 k6, .int .u8 k7, .int .u8 k8, .int .u8 k9, .int .u8 k10, .int .u8 k11, .int .u8 k12, .int .u8 k13, .int .u8 k14, .int .u8 k15] 37)).cell? ⟨w1.heap.size + 1, i.1, none⟩ = some (.int .u8 ((fun i => [k0, k1, k2, k3, k4, k5, k6, k7, k8, k9, k10, k11, k12, k13, k14, k15].getD i.1 0) i)) := by
    intro i
    rcases i with ⟨i, hi⟩
    have h16 : i = 0 ∨ i = 1 ∨ i = 2 ∨ i = 3 ∨ i = 4 ∨ i = 5 ∨ i = 6 ∨ i = 7 ∨ i = 8 ∨ i = 9 ∨ i = 10 ∨ i = 11 ∨ i = 12 ∨ i = 13 ∨ i = 14 ∨ i = 15 := by omega
    rcases h16 with rfl | rfl | rfl | rfl | rfl | rfl | rfl | rfl | rfl | rfl | rfl | rfl | rfl | rfl | rfl | rfl <;> simp [go_sem]
  refine range_gives (xs := keysTo kp 32) (encs := fun x : Nat × Int => #[Value.int .i64 x.1, Value.int .u64 x.2]) (n := 6) (by omega) (gf := 120) (lb := #[.pointer (some ⟨w1.heap.size + 1, 0, none⟩)]) rfl (enters_of Try.func120 (by kernel_rfl) rfl)
    (keys_run 5 (by omega) (w1.heap.size + 1) (fun i => [k0, k1, k2, k3, k4, k5, k6, k7, k8, k9, k10, k11, k12, k13, k14, k15].getD i.1 0) _ kp (by simp) hk CK hcell) (fun _ => rfl)
    (fun pre W => W.cell? ⟨w1.heap.size, 0, none⟩ = some (.int .u64 (est bp kp pre.length).1) ∧ W.cell? ⟨w1.heap.size, 1, none⟩ = some (.int .u64 (est bp kp pre.length).2) ∧ (∀ o, W.frozen? ⟨w1.heap.size, o, none⟩ = false) ∧ Below (w.heap.size + 1 + 1 + 1) w1 W ∧ Below w.heap.size w W)
    ?hI ?h0
    (fun x => { tmps := #[.agg #[.int .u8 k0, .int .u8 k1, .int .u8 k2, .int .u8 k3, .int .u8 k4, .int .u8 k5, .int .u8 k6, .int .u8 k7, .int .u8 k8, .int .u8 k9, .int .u8 k10, .int .u8 k11, .int .u8 k12, .int .u8 k13, .int .u8 k14, .int .u8 k15], .agg #[.int .u8 b0, .int .u8 b1, .int .u8 b2, .int .u8 b3, .int .u8 b4, .int .u8 b5, .int .u8 b6, .int .u8 b7, .int .u8 b8, .int .u8 b9, .int .u8 b10, .int .u8 b11, .int .u8 b12, .int .u8 b13, .int .u8 b14, .int .u8 b15], .pointer (some ⟨w.heap.size, 0, none⟩), .pointer (some ⟨w.heap.size + 1, 0, none⟩), .pointer (some ⟨w.heap.size + 1 + 1, 0, none⟩), .pointer (some ⟨w1.heap.size, 0, none⟩), undef, .int .u64 x.2, .agg #[.int .u8 b0, .int .u8 b1, .int .u8 b2, .int .u8 b3, .int .u8 b4, .int .u8 b5, .int .u8 b6, .int .u8 b7, .int .u8 b8, .int .u8 b9, .int .u8 b10, .int .u8 b11, .int .u8 b12, .int .u8 b13, .int .u8 b14, .int .u8 b15], .agg #[.int .u64 bp.1, .int .u64 bp.2], .agg #[.int .u8 k0, .int .u8 k1, .int .u8 k2, .int .u8 k3, .int .u8 k4, .int .u8 k5, .int .u8 k6, .int .u8 k7, .int .u8 k8, .int .u8 k9, .int .u8 k10, .int .u8 k11, .int .u8 k12, .int .u8 k13, .int .u8 k14, .int .u8 k15], .func (.func 120) #[] #[.pointer (some ⟨w1.heap.size + 1, 0, none⟩)], .int .i64 x.1, .int .u64 x.2, undef, undef, undef, undef, undef], defers := [] }) ?assign ?body ?done
  case hI =>
    rintro pre A B row ⟨h1, h2, h3, h4, h5⟩ hg hr
    have far : ∀ k, k < w1.heap.size + 1 → k < A.heap.size → B.heap[k]? = A.heap[k]? := fun k hk hA => hg.block k hA (fun e => by have := hr k e.symm; simp at this; omega)
    have hlt := cell_lt' h1
    refine ⟨(World.cell?_of_block (w := A) (far _ (by show w1.heap.size < w1.heap.size + 1; omega) hlt)).trans h1, (World.cell?_of_block (w := A) (far _ (by show w1.heap.size < w1.heap.size + 1; omega) hlt)).trans h2, fun o => (World.frozen?_of_block (w := A) (far _ (by show w1.heap.size < w1.heap.size + 1; omega) hlt)).trans (h3 o), h4.grown hg (by omega) (fun k e => by have := hr k e; simp at this; omega), h5.grown hg (by omega) (fun k e => by have := hr k e; simp at this; omega)⟩
  case h0 =>
    refine ⟨by simp [go_sem, est], by simp [go_sem, est], fun o => by simp [go_sem], ?_, ?_⟩
    · exact ((Below.refl _ _).alloc (by omega) _).alloc (by simp; omega) _
    · exact (hb.alloc (by omega) _).alloc (by simp; omega) _
  case assign =>
    intro l x W K hK
    gi_wp2
    exact hK
  case body =>
    rintro l pre x W ⟨h1, h2, h3, h4, h5⟩ hpre
    obtain rfl := keysTo_at hpre
    obtain ⟨ex, ey⟩ := est_in (k := kp) HB.out pre.length
    have CR := fun w => round_any (est bp kp pre.length).1 (est bp kp pre.length).2 (kst kp pre.length).2 w ex ey
    have hE : Hid (est bp kp (pre ++ [(pre.length, (kst kp pre.length).2)]).length = (rndX (est bp kp pre.length).1 (est bp kp pre.length).2 (kst kp pre.length).2, rndY (est bp kp pre.length).1 (est bp kp pre.length).2 (kst kp pre.length).2)) := by
      show est bp kp _ = _
      rw [List.length_append]; rfl
    have hlt := cell_lt' h1
    clear hpre ex ey
    dsimp only
    generalize (est bp kp pre.length).1 = ex at *
    generalize (est bp kp pre.length).2 = ey at *
    generalize (kst kp pre.length).2 = ky at *
    gi_wp2_with (refine ⟨trivial, ?_⟩; gi_at_call 88; refine (CallsIn.inRound l (callsIn_wide.2 (CR _))).mono ?_; rintro e w4 ⟨rfl, hb4⟩; have hx4 := (hb4.cell (p := ⟨w1.heap.size, 0, none⟩) hlt).trans h1; have hy4 := (hb4.cell (p := ⟨w1.heap.size, 1, none⟩) hlt).trans h2; have hf4 : ∀ o, w4.frozen? ⟨w1.heap.size, o, none⟩ = false := fun o => (hb4.frozen (p := ⟨w1.heap.size, o, none⟩) hlt).trans (h3 o))
    refine ⟨((keeps_below hb4).trans (KeepsOthers.setCell _ _ _)).trans (KeepsOthers.setCell _ _ _), ((KeepUp.of_below hb4).trans (KeepUp.setCell _ _ _ (by simp; omega))).trans (KeepUp.setCell _ _ _ (by simp; omega)), ?_, ?_, fun o => by simp [go_sem, hf4], ?_, ?_⟩
    · rw [hE.out]; simp [go_sem, hx4]
    · rw [hE.out]; simp [go_sem, hx4, hy4]
    · exact ((h4.trans (hb4.mono (by omega))).setCell (by show w.heap.size + 1 + 1 + 1 ≤ w1.heap.size; omega) _).setCell (by show w.heap.size + 1 + 1 + 1 ≤ w1.heap.size; omega) _
    · exact ((h5.trans (hb4.mono (by omega))).setCell (by show w.heap.size ≤ w1.heap.size; omega) _).setCell (by show w.heap.size ≤ w1.heap.size; omega) _
  case done =>
    rintro D W hD ⟨h1, h2, h3, h4, h5⟩ hK
    have hD' : w.heap.size ≤ D := by simp only [size_alloc] at hD; omega
    rw [keysTo_len, HE.out] at h1 h2
    dsimp only at h1 h2
    obtain ⟨⟨x0, x1⟩, ⟨y0, y1⟩⟩ : inW x ∧ inW y := by have := est_in (k := kp) HB.out 32; rw [HE.out] at this; exact this
    have CBk := fun w => block_any x y w x0 x1 y0 y1
    have hlt := cell_lt' rc0
    have hlW := h4.size
    have s0 := (h4.cell (p := ⟨w.heap.size + 1 + 1, 0, none⟩) (by show w.heap.size + 1 + 1 < _; omega)).trans rc0
    have s1 := (h4.cell (p := ⟨w.heap.size + 1 + 1, 1, none⟩) (by show w.heap.size + 1 + 1 < _; omega)).trans rc1
    have s2 := (h4.cell (p := ⟨w.heap.size + 1 + 1, 2, none⟩) (by show w.heap.size + 1 + 1 < _; omega)).trans rc2
    have s3 := (h4.cell (p := ⟨w.heap.size + 1 + 1, 3, none⟩) (by show w.heap.size + 1 + 1 < _; omega)).trans rc3
    have s4 := (h4.cell (p := ⟨w.heap.size + 1 + 1, 4, none⟩) (by show w.heap.size + 1 + 1 < _; omega)).trans rc4
    have s5 := (h4.cell (p := ⟨w.heap.size + 1 + 1, 5, none⟩) (by show w.heap.size + 1 + 1 < _; omega)).trans rc5
    have s6 := (h4.cell (p := ⟨w.heap.size + 1 + 1, 6, none⟩) (by show w.heap.size + 1 + 1 < _; omega)).trans rc6
    have s7 := (h4.cell (p := ⟨w.heap.size + 1 + 1, 7, none⟩) (by show w.heap.size + 1 + 1 < _; omega)).trans rc7
    have s8 := (h4.cell (p := ⟨w.heap.size + 1 + 1, 8, none⟩) (by show w.heap.size + 1 + 1 < _; omega)).trans rc8
    have s9 := (h4.cell (p := ⟨w.heap.size + 1 + 1, 9, none⟩) (by show w.heap.size + 1 + 1 < _; omega)).trans rc9
    have s10 := (h4.cell (p := ⟨w.heap.size + 1 + 1, 10, none⟩) (by show w.heap.size + 1 + 1 < _; omega)).trans rc10
    have s11 := (h4.cell (p := ⟨w.heap.size + 1 + 1, 11, none⟩) (by show w.heap.size + 1 + 1 < _; omega)).trans rc11
    have s12 := (h4.cell (p := ⟨w.heap.size + 1 + 1, 12, none⟩) (by show w.heap.size + 1 + 1 < _; omega)).trans rc12
    have s13 := (h4.cell (p := ⟨w.heap.size + 1 + 1, 13, none⟩) (by show w.heap.size + 1 + 1 < _; omega)).trans rc13
    have s14 := (h4.cell (p := ⟨w.heap.size + 1 + 1, 14, none⟩) (by show w.heap.size + 1 + 1 < _; omega)).trans rc14
    have s15 := (h4.cell (p := ⟨w.heap.size + 1 + 1, 15, none⟩) (by show w.heap.size + 1 + 1 < _; omega)).trans rc15
    have rf2 : ∀ o, W.frozen? ⟨w.heap.size + 1 + 1, o, none⟩ = false := fun o => (h4.frozen (p := ⟨w.heap.size + 1 + 1, o, none⟩) (by show w.heap.size + 1 + 1 < _; omega)).trans (rf o)
    clear rc0 rc1 rc2 rc3 rc4 rc5 rc6 rc7 rc8 rc9 rc10 rc11 rc12 rc13 rc14 rc15 rf h3
    have hbl : w.heap.size + 1 + 1 < W.heap.size := by omega
    clear hq0 hq2 HE HB hk CK CB
    gi_wp2_with (refine ⟨trivial, ?_⟩; gi_at_call 89; refine (callsIn_wide.2 (CBk _)).mono ?_; rintro e w5 ⟨rfl, hb5⟩; have t0 := (hb5.cell (p := ⟨w.heap.size + 1 + 1, 0, none⟩) hbl).trans s0; have t1 := (hb5.cell (p := ⟨w.heap.size + 1 + 1, 1, none⟩) hbl).trans s1; have t2 := (hb5.cell (p := ⟨w.heap.size + 1 + 1, 2, none⟩) hbl).trans s2; have t3 := (hb5.cell (p := ⟨w.heap.size + 1 + 1, 3, none⟩) hbl).trans s3; have t4 := (hb5.cell (p := ⟨w.heap.size + 1 + 1, 4, none⟩) hbl).trans s4; have t5 := (hb5.cell (p := ⟨w.heap.size + 1 + 1, 5, none⟩) hbl).trans s5; have t6 := (hb5.cell (p := ⟨w.heap.size + 1 + 1, 6, none⟩) hbl).trans s6; have t7 := (hb5.cell (p := ⟨w.heap.size + 1 + 1, 7, none⟩) hbl).trans s7; have t8 := (hb5.cell (p := ⟨w.heap.size + 1 + 1, 8, none⟩) hbl).trans s8; have t9 := (hb5.cell (p := ⟨w.heap.size + 1 + 1, 9, none⟩) hbl).trans s9; have t10 := (hb5.cell (p := ⟨w.heap.size + 1 + 1, 10, none⟩) hbl).trans s10; have t11 := (hb5.cell (p := ⟨w.heap.size + 1 + 1, 11, none⟩) hbl).trans s11; have t12 := (hb5.cell (p := ⟨w.heap.size + 1 + 1, 12, none⟩) hbl).trans s12; have t13 := (hb5.cell (p := ⟨w.heap.size + 1 + 1, 13, none⟩) hbl).trans s13; have t14 := (hb5.cell (p := ⟨w.heap.size + 1 + 1, 14, none⟩) hbl).trans s14; have t15 := (hb5.cell (p := ⟨w.heap.size + 1 + 1, 15, none⟩) hbl).trans s15; have rf3 : ∀ o, w5.frozen? ⟨w.heap.size + 1 + 1, o, none⟩ = false := fun o => (hb5.frozen (p := ⟨w.heap.size + 1 + 1, o, none⟩) hbl).trans (rf2 o))
    have hK5 := (keeps_below hb5).same D _ hK rfl
    rw [put16_eq w5 (w.heap.size + 1 + 1)]
    have hKf := (put16_keeps w5 (w.heap.size + 1 + 1) (.int .u8 (byteOf x 0)) (.int .u8 (byteOf x 1)) (.int .u8 (byteOf x 2)) (.int .u8 (byteOf x 3)) (.int .u8 (byteOf x 4)) (.int .u8 (byteOf x 5)) (.int .u8 (byteOf x 6)) (.int .u8 (byteOf x 7)) (.int .u8 (byteOf y 0)) (.int .u8 (byteOf y 1)) (.int .u8 (byteOf y 2)) (.int .u8 (byteOf y 3)) (.int .u8 (byteOf y 4)) (.int .u8 (byteOf y 5)) (.int .u8 (byteOf y 6)) (.int .u8 (byteOf y 7))).same D _ hK5 rfl
    have hBf := put16_below (w.heap.size + 1 + 1) (.int .u8 (byteOf x 0)) (.int .u8 (byteOf x 1)) (.int .u8 (byteOf x 2)) (.int .u8 (byteOf x 3)) (.int .u8 (byteOf x 4)) (.int .u8 (byteOf x 5)) (.int .u8 (byteOf x 6)) (.int .u8 (byteOf x 7)) (.int .u8 (byteOf y 0)) (.int .u8 (byteOf y 1)) (.int .u8 (byteOf y 2)) (.int .u8 (byteOf y 3)) (.int .u8 (byteOf y 4)) (.int .u8 (byteOf y 5)) (.int .u8 (byteOf y 6)) (.int .u8 (byteOf y 7)) (h5.trans (hb5.mono (by omega))) (by omega)
    obtain ⟨f0, f1, f2, f3, f4, f5, f6, f7, f8, f9, f10, f11, f12, f13, f14, f15⟩ := put16_cells w5 (w.heap.size + 1 + 1) (.int .u8 (byteOf x 0)) (.int .u8 (byteOf x 1)) (.int .u8 (byteOf x 2)) (.int .u8 (byteOf x 3)) (.int .u8 (byteOf x 4)) (.int .u8 (byteOf x 5)) (.int .u8 (byteOf x 6)) (.int .u8 (byteOf x 7)) (.int .u8 (byteOf y 0)) (.int .u8 (byteOf y 1)) (.int .u8 (byteOf y 2)) (.int .u8 (byteOf y 3)) (.int .u8 (byteOf y 4)) (.int .u8 (byteOf y 5)) (.int .u8 (byteOf y 6)) (.int .u8 (byteOf y 7)) _ _ _ _ _ _ _ _ _ _ _ _ _ _ _ _ t0 t1 t2 t3 t4 t5 t6 t7 t8 t9 t10 t11 t12 t13 t14 t15
    generalize put16 w5 (w.heap.size + 1 + 1) (.int .u8 (byteOf x 0)) (.int .u8 (byteOf x 1)) (.int .u8 (byteOf x 2)) (.int .u8 (byteOf x 3)) (.int .u8 (byteOf x 4)) (.int .u8 (byteOf x 5)) (.int .u8 (byteOf x 6)) (.int .u8 (byteOf x 7)) (.int .u8 (byteOf y 0)) (.int .u8 (byteOf y 1)) (.int .u8 (byteOf y 2)) (.int .u8 (byteOf y 3)) (.int .u8 (byteOf y 4)) (.int .u8 (byteOf y 5)) (.int .u8 (byteOf y 6)) (.int .u8 (byteOf y 7)) = Wf at *
    refine ⟨by simp, .inl ⟨_, _, rfl, run_takeDeferred hKf, ?_⟩⟩
    have hpc := putObj_cell hKf rfl (o' := .deferred none) rfl
    refine ⟨.agg #[.int .u8 (byteOf x 0), .int .u8 (byteOf x 1), .int .u8 (byteOf x 2), .int .u8 (byteOf x 3), .int .u8 (byteOf x 4), .int .u8 (byteOf x 5), .int .u8 (byteOf x 6), .int .u8 (byteOf x 7), .int .u8 (byteOf y 0), .int .u8 (byteOf y 1), .int .u8 (byteOf y 2), .int .u8 (byteOf y 3), .int .u8 (byteOf y 4), .int .u8 (byteOf y 5), .int .u8 (byteOf y 6), .int .u8 (byteOf y 7)], by simp [results, Try.f58, go_sem, hpc, f0, f1, f2, f3, f4, f5, f6, f7, f8, f9, f10, f11, f12, f13, f14, f15], rfl, hBf.trans (belowK_b (w := w) (Nat.le_refl _) Wf D _ _ hD' hKf rfl rfl)⟩
end Go.Proofs.Ytpnfghpcpjpppaa
