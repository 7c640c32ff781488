/- The reference's subsets of a scheme: between, IsSubset. -/
import Derived.Test.YtpnfghpcpjpppaaRp
namespace Go.Proofs.Ytpnfghpcpjpppaa
open Go.RowKit
set_option linter.unusedVariables false
set_option linter.unusedSimpArgs false

/-- The first element of a list of which p holds, or 0. -/
def firstOf (p : Int → Bool) (l : List Int) : Int := (l.find? p).getD 0
theorem firstOf_hit (p : Int → Bool) : ∀ (l : List Int) (j : Nat), j < l.length → (∀ k, k < j → p (l.getD k 0) = false) → p (l.getD j 0) = true → firstOf p l = l.getD j 0
  | [], j, h, _, _ => by cases h
  | a :: l, 0, _, _, h => by
    have h : p a = true := h
    simp [firstOf, List.find?_cons, h]
  | a :: l, j + 1, hj, hn, h => by
    have h0 : p a = false := hn 0 (by omega)
    have := firstOf_hit p l j (by simpa using hj) (fun k hk => by simpa using hn (k + 1) (by omega)) (by simpa using h)
    simp only [firstOf, List.find?_cons, h0] at this ⊢
    simpa using this
theorem firstOf_none (p : Int → Bool) : ∀ (l : List Int), (∀ k, k < l.length → p (l.getD k 0) = false) → firstOf p l = 0
  | [], _ => rfl
  | a :: l, hn => by
    have h0 : p a = false := hn 0 (by simp)
    have := firstOf_none p l (fun k hk => by simpa using hn (k + 1) (by simpa using hk))
    simp only [firstOf, List.find?_cons, h0] at this ⊢
    exact this
theorem between_fin : ((List.range 7).all fun d => (List.range 128).all fun t => (List.range 128).all fun v => !(belowB (t : Int) (v : Int)) || t == v || firstOf (specialB d) (pathOf (v : Int) (t : Int)).dropLast == cutV d v t) = true := by decide +kernel
theorem between_eq {d t v : Int} (d0 : 0 ≤ d) (d6 : d ≤ 6) (hu : under t v) (hne : t ≠ v) : firstOf (specialB d) (pathOf v t).dropLast = cutV d v t := by
  obtain ⟨h1, h2, h3, h4, h5⟩ := hu
  have a := List.all_eq_true.1 (List.all_eq_true.1 (List.all_eq_true.1 between_fin d.toNat (List.mem_range.2 (by omega))) t.toNat (List.mem_range.2 (by omega))) v.toNat (List.mem_range.2 (by omega))
  rw [show ((t.toNat : Nat) : Int) = t from by omega, show ((v.toNat : Nat) : Int) = v from by omega, show ((d.toNat : Nat) : Int) = d from by omega, h5] at a
  simp only [Bool.not_true, Bool.false_or, Bool.or_eq_true, beq_iff_eq] at a
  rcases a with a | a
  · omega
  · exact a

set_option maxHeartbeats 1000000 in
theorem rbetween_any (d v t : Int) (w : World) (d0 : 0 ≤ d) (d6 : d ≤ 6) (hu : under t v) (hne : t ≠ v) :
    Calls Try.prog 109 #[.int .i64 d, .int .i64 v, .int .i64 t] w fun e w' => e = .returned (.int .i64 (cutV d v t)) ∧ Below w.heap.size w w' := by
  have CP := fun w => rPath_any v t w hu
  have HE := Lib.hid (between_eq d0 d6 hu hne)
  have hlen := pathOf_len hu
  have HM := Lib.hid (pathOf_mem _ v hu rfl)
  generalize cutV d v t = c at *
  obtain ⟨P, hP⟩ : ∃ P, pathOf v t = P := ⟨_, rfl⟩
  rw [hP] at CP HE hlen HM
  have CSp := fun (x : Int) w (h : 1 ≤ x ∧ x ≤ 127) => rSpecial_any d x w d0 d6 h.1 h.2
  clear hP hu hne d0 d6
  go_enter Try.func109, Try.ntmps109
  go_wp2_with (go_at_call 130; refine (CP _).mono ?_; rintro e w1 ⟨u, rfl, hown, hb⟩)
  have HR := Lib.hid (show Ints w1 u (v :: P) from Reads.of_owns hown)
  obtain ⟨a, cap, rfl, hcap, hmax, hcell⟩ := HR.out.open
  have HC := Lib.hid hcell
  unfold maxLen at hmax
  clear hcell hown HR
  simp only [List.length_cons] at hcap ⊢
  go_wp2_with fail
  go_loop [8] (fun i => ∃ j : Nat, j + 1 ≤ P.length + 1 ∧ i = .int .i64 ((j + 1 : Nat) : Int) ∧ Hid (∀ k, k < j → specialB d (P.getD k 0) = false)) (fun i => P.length + 1 - (intOf i).toNat)
  case atStart => exact ⟨0, by omega, rfl, fun k hk => absurd hk (Nat.not_lt_zero k)⟩
  case round =>
    obtain ⟨j, hj, rfl, HP⟩ := hrel
    by_cases hlt : j + 1 < P.length
    · obtain ⟨g, off, rfl, e0⟩ := HC.out (j + 1) (by simp; omega)
      rw [show (v :: P).getD (j + 1) 0 = P.getD j 0 from rfl] at e0
      have hx : 1 ≤ P.getD j 0 ∧ P.getD j 0 ≤ 127 := by
        have := HM.out (P.getD j 0) (by rw [show P.getD j 0 = P[j] from by simp [List.getD, show j < P.length by omega]]; exact List.getElem_mem _)
        exact ⟨this.1, this.2.1⟩
      have C := fun w => CSp (P.getD j 0) w hx
      have HJ := Lib.hid (fun (h : specialB d (P.getD j 0) = true) => show P.getD j 0 = c from by
        have hd : P.dropLast.length = P.length - 1 := by simp
        have hg : ∀ k, k < P.length - 1 → P.dropLast.getD k 0 = P.getD k 0 := fun k hk => by
          simp [List.getD, List.getElem?_dropLast, hk, List.getElem?_eq_getElem (show k < P.length by omega)]
        rw [← HE.out, firstOf_hit _ _ j (by omega) (fun k hk => by rw [hg k (by omega)]; exact HP.out k hk) (by rw [hg j (by omega)]; exact h), hg j (by omega)])
      have HN := Lib.hid (fun (h : specialB d (P.getD j 0) = false) (k : Nat) (hk : k < j + 1) => show specialB d (P.getD k 0) = false from by
        by_cases he : k = j
        · subst he; exact h
        · exact HP.out k (by omega))
      have hm1 : ((P.length : Int) + 1 - 1) = P.length := by omega
      clear CSp HP hx
      generalize P.getD j 0 = x at *
      cases hs : specialB d x with
      | true =>
        rw [hs] at C
        have HS := Lib.hid hs
        clear hs
        go_wp2_with (go_at_call 108; refine (C _).mono ?_; rintro e w1 ⟨rfl, rfl⟩)
        go_returns
        exact ⟨ret_i (HJ.out HS.out), hb⟩
      | false =>
        rw [hs] at C
        have HS := Lib.hid hs
        clear hs
        go_wp2_with (go_at_call 108; refine (C _).mono ?_; rintro e w1 ⟨rfl, rfl⟩)
        go_round
        case rel => exact ⟨j + 1, by omega, by go_num, HN.out HS.out⟩
        case measure => simp [intOf]; omega
    · have HJ := Lib.hid (show (0 : Int) = c from by
        have hg : ∀ k, k < P.length - 1 → P.dropLast.getD k 0 = P.getD k 0 := fun k hk => by
          simp [List.getD, List.getElem?_dropLast, hk, List.getElem?_eq_getElem (show k < P.length by omega)]
        rw [← HE.out, firstOf_none _ _ (fun k hk => by
          have hd : P.dropLast.length = P.length - 1 := by simp
          rw [hg k (by omega)]
          exact HP.out k (by omega))])
      clear CSp HP HC
      go_wp2_with fail
      go_returns
      exact ⟨ret_i HJ.out, hb⟩

set_option maxRecDepth 20000 in
set_option maxHeartbeats 2000000 in
theorem rIsSubset_any (k d n m : Int) (w : World) (k1 : 1 ≤ k) (k3 : k ≤ 3) (d0 : 0 ≤ d) (d6 : d ≤ 6) :
    Calls Try.prog 75 #[.agg #[.int .u8 k, .int .i64 d, .int .i64 0, .int .u64 0, .int .u64 0, .int .u64 0], .agg #[.int .i64 n, .int .i64 m]] w fun e w' => e = .returned (.bool (subsetB k d n m)) ∧ Below w.heap.size w w' := by
  obtain ⟨z1, z2⟩ := sz_bd d d0 d6
  have CN := fun v w => rNode_any d v w d0 d6
  have CB0 := fun (h : 1 ≤ m ∧ m ≤ 127 ∧ 1 ≤ n ∧ n ≤ 127) w => rBelow_any m n w h.1 h.2.1 h.2.2.1 h.2.2.2
  have CS0 := fun (h : 1 ≤ n ∧ n ≤ 127) w => rSpecial_any d n w d0 d6 h.1 h.2
  have CC0 := fun (h : under m n) (hne : m ≠ n) w => rbetween_any d n m w d0 d6 h hne
  clear d0 d6
  by_cases hn : 1 ≤ n ∧ n < 2 * sz d
  · have hr : subsetB k d n m = if k = 1 then decide (m = 0) else if m = 0 then decide (n = 1) else if (1 ≤ m ∧ m < 2 * sz d) ∧ m ≠ n ∧ belowB m n = true then decide (k = 2) || (specialB d n || decide (cutV d n m = 0)) else false := by unfold subsetB; rw [if_pos hn]
    rw [hr]
    clear hr
    obtain ⟨n1, n2⟩ := hn
    have CNn : ∀ w, _ := fun w => CN n w
    rw [decide_eq_true (show 1 ≤ n ∧ n < 2 * sz d from ⟨n1, n2⟩)] at CNn
    have n3 : n ≤ 127 := by omega
    by_cases hk : k = 1
    · rw [if_pos hk]
      subst hk
      by_cases hm : m = 0
      · rw [decide_eq_true hm]
        subst hm
        go_enter Try.func75, Try.ntmps75
        go_wp2_with (first | (go_at_call 107; refine (CN _ _).mono ?_; rintro e w1 ⟨rfl, rfl⟩) | (go_at_call 98; refine (CB _).mono ?_; rintro e w1 ⟨rfl, rfl⟩) | (go_at_call 108; refine (CS _).mono ?_; rintro e w1 ⟨rfl, rfl⟩) | (go_at_call 109; refine (CC _).mono ?_; rintro e w1 ⟨rfl, hb⟩; obtain ⟨hb, hz, hc, hf, hlt, hne⟩ := afterK (N := w.heap.size + 1 + 1) (w := w) hb (by (repeat' (first | (with_reducible exact Below.refl _ _) | (with_reducible assumption) | (with_reducible refine Below.alloc ?_ ?_ _) | (with_reducible refine Below.drew ?_) | (with_reducible refine below_drewN _ ?_) | (with_reducible refine Below.setCell ?_ ?_ _) | (with_reducible refine Below.frame ?_ _) | go_size | (simp only [size_alloc, size_setCell, size_drew, size_drewN]; omega)))) (by first | go_size | (simp only [size_alloc, size_setCell, size_drew, size_drewN]; omega)); have hq0 : w.heap.size < w1.heap.size := (by omega); have hq1 : w.heap.size + 1 < w1.heap.size := (by omega)))
        go_returns
        exact ⟨rfl, by (repeat' (first | (with_reducible exact Below.refl _ _) | (with_reducible assumption) | (with_reducible refine Below.alloc ?_ ?_ _) | (with_reducible refine Below.drew ?_) | (with_reducible refine below_drewN _ ?_) | (with_reducible refine Below.setCell ?_ ?_ _) | (with_reducible refine Below.frame ?_ _) | go_size | (simp only [size_alloc, size_setCell, size_drew, size_drewN]; omega)))⟩
      · rw [decide_eq_false hm]
        have hm' : (m == 0) = false := by simpa using hm
        go_enter Try.func75, Try.ntmps75
        go_wp2_with (first | (go_at_call 107; refine (CN _ _).mono ?_; rintro e w1 ⟨rfl, rfl⟩) | (go_at_call 98; refine (CB _).mono ?_; rintro e w1 ⟨rfl, rfl⟩) | (go_at_call 108; refine (CS _).mono ?_; rintro e w1 ⟨rfl, rfl⟩) | (go_at_call 109; refine (CC _).mono ?_; rintro e w1 ⟨rfl, hb⟩; obtain ⟨hb, hz, hc, hf, hlt, hne⟩ := afterK (N := w.heap.size + 1 + 1) (w := w) hb (by (repeat' (first | (with_reducible exact Below.refl _ _) | (with_reducible assumption) | (with_reducible refine Below.alloc ?_ ?_ _) | (with_reducible refine Below.drew ?_) | (with_reducible refine below_drewN _ ?_) | (with_reducible refine Below.setCell ?_ ?_ _) | (with_reducible refine Below.frame ?_ _) | go_size | (simp only [size_alloc, size_setCell, size_drew, size_drewN]; omega)))) (by first | go_size | (simp only [size_alloc, size_setCell, size_drew, size_drewN]; omega)); have hq0 : w.heap.size < w1.heap.size := (by omega); have hq1 : w.heap.size + 1 < w1.heap.size := (by omega)))
        go_returns
        exact ⟨rfl, by (repeat' (first | (with_reducible exact Below.refl _ _) | (with_reducible assumption) | (with_reducible refine Below.alloc ?_ ?_ _) | (with_reducible refine Below.drew ?_) | (with_reducible refine below_drewN _ ?_) | (with_reducible refine Below.setCell ?_ ?_ _) | (with_reducible refine Below.frame ?_ _) | go_size | (simp only [size_alloc, size_setCell, size_drew, size_drewN]; omega)))⟩
    · rw [if_neg hk]
      have hk' : (k == 1) = false := by simpa using hk
      have hk2 : 2 ≤ k := by omega
      clear hk
      by_cases hm : m = 0
      · rw [if_pos hm]
        subst hm
        by_cases hn' : n = 1
        · rw [decide_eq_true hn']
          subst hn'
          go_enter Try.func75, Try.ntmps75
          go_wp2_with (first | (go_at_call 107; refine (CN _ _).mono ?_; rintro e w1 ⟨rfl, rfl⟩) | (go_at_call 98; refine (CB _).mono ?_; rintro e w1 ⟨rfl, rfl⟩) | (go_at_call 108; refine (CS _).mono ?_; rintro e w1 ⟨rfl, rfl⟩) | (go_at_call 109; refine (CC _).mono ?_; rintro e w1 ⟨rfl, hb⟩; obtain ⟨hb, hz, hc, hf, hlt, hne⟩ := afterK (N := w.heap.size + 1 + 1) (w := w) hb (by (repeat' (first | (with_reducible exact Below.refl _ _) | (with_reducible assumption) | (with_reducible refine Below.alloc ?_ ?_ _) | (with_reducible refine Below.drew ?_) | (with_reducible refine below_drewN _ ?_) | (with_reducible refine Below.setCell ?_ ?_ _) | (with_reducible refine Below.frame ?_ _) | go_size | (simp only [size_alloc, size_setCell, size_drew, size_drewN]; omega)))) (by first | go_size | (simp only [size_alloc, size_setCell, size_drew, size_drewN]; omega)); have hq0 : w.heap.size < w1.heap.size := (by omega); have hq1 : w.heap.size + 1 < w1.heap.size := (by omega)))
          go_returns
          exact ⟨rfl, by (repeat' (first | (with_reducible exact Below.refl _ _) | (with_reducible assumption) | (with_reducible refine Below.alloc ?_ ?_ _) | (with_reducible refine Below.drew ?_) | (with_reducible refine below_drewN _ ?_) | (with_reducible refine Below.setCell ?_ ?_ _) | (with_reducible refine Below.frame ?_ _) | go_size | (simp only [size_alloc, size_setCell, size_drew, size_drewN]; omega)))⟩
        · rw [decide_eq_false hn']
          have hn2 : (n == 1) = false := by simpa using hn'
          go_enter Try.func75, Try.ntmps75
          go_wp2_with (first | (go_at_call 107; refine (CN _ _).mono ?_; rintro e w1 ⟨rfl, rfl⟩) | (go_at_call 98; refine (CB _).mono ?_; rintro e w1 ⟨rfl, rfl⟩) | (go_at_call 108; refine (CS _).mono ?_; rintro e w1 ⟨rfl, rfl⟩) | (go_at_call 109; refine (CC _).mono ?_; rintro e w1 ⟨rfl, hb⟩; obtain ⟨hb, hz, hc, hf, hlt, hne⟩ := afterK (N := w.heap.size + 1 + 1) (w := w) hb (by (repeat' (first | (with_reducible exact Below.refl _ _) | (with_reducible assumption) | (with_reducible refine Below.alloc ?_ ?_ _) | (with_reducible refine Below.drew ?_) | (with_reducible refine below_drewN _ ?_) | (with_reducible refine Below.setCell ?_ ?_ _) | (with_reducible refine Below.frame ?_ _) | go_size | (simp only [size_alloc, size_setCell, size_drew, size_drewN]; omega)))) (by first | go_size | (simp only [size_alloc, size_setCell, size_drew, size_drewN]; omega)); have hq0 : w.heap.size < w1.heap.size := (by omega); have hq1 : w.heap.size + 1 < w1.heap.size := (by omega)))
          go_returns
          exact ⟨rfl, by (repeat' (first | (with_reducible exact Below.refl _ _) | (with_reducible assumption) | (with_reducible refine Below.alloc ?_ ?_ _) | (with_reducible refine Below.drew ?_) | (with_reducible refine below_drewN _ ?_) | (with_reducible refine Below.setCell ?_ ?_ _) | (with_reducible refine Below.frame ?_ _) | go_size | (simp only [size_alloc, size_setCell, size_drew, size_drewN]; omega)))⟩
      · rw [if_neg hm]
        have hm' : (m == 0) = false := by simpa using hm
        by_cases hm2 : 1 ≤ m ∧ m < 2 * sz d
        · obtain ⟨m1, m2⟩ := hm2
          have m3 : m ≤ 127 := by omega
          by_cases he : m = n
          · rw [if_neg (fun h => h.2.1 he)]
            subst he
            go_enter Try.func75, Try.ntmps75
            go_wp2_with (first | (go_at_call 107; refine (CN _ _).mono ?_; rintro e w1 ⟨rfl, rfl⟩) | (go_at_call 98; refine (CB _).mono ?_; rintro e w1 ⟨rfl, rfl⟩) | (go_at_call 108; refine (CS _).mono ?_; rintro e w1 ⟨rfl, rfl⟩) | (go_at_call 109; refine (CC _).mono ?_; rintro e w1 ⟨rfl, hb⟩; obtain ⟨hb, hz, hc, hf, hlt, hne⟩ := afterK (N := w.heap.size + 1 + 1) (w := w) hb (by (repeat' (first | (with_reducible exact Below.refl _ _) | (with_reducible assumption) | (with_reducible refine Below.alloc ?_ ?_ _) | (with_reducible refine Below.drew ?_) | (with_reducible refine below_drewN _ ?_) | (with_reducible refine Below.setCell ?_ ?_ _) | (with_reducible refine Below.frame ?_ _) | go_size | (simp only [size_alloc, size_setCell, size_drew, size_drewN]; omega)))) (by first | go_size | (simp only [size_alloc, size_setCell, size_drew, size_drewN]; omega)); have hq0 : w.heap.size < w1.heap.size := (by omega); have hq1 : w.heap.size + 1 < w1.heap.size := (by omega)))
            go_returns
            exact ⟨rfl, by (repeat' (first | (with_reducible exact Below.refl _ _) | (with_reducible assumption) | (with_reducible refine Below.alloc ?_ ?_ _) | (with_reducible refine Below.drew ?_) | (with_reducible refine below_drewN _ ?_) | (with_reducible refine Below.setCell ?_ ?_ _) | (with_reducible refine Below.frame ?_ _) | go_size | (simp only [size_alloc, size_setCell, size_drew, size_drewN]; omega)))⟩
          · have he' : (m == n) = false := by simpa using he
            have CB := CB0 ⟨m1, m3, n1, n3⟩
            have CS := CS0 ⟨n1, n3⟩
            clear CB0 CS0
            cases hb : belowB m n with
            | false =>
              rw [if_neg (fun h => by simp at h)]
              rw [hb] at CB
              clear hb he CC0
              go_enter Try.func75, Try.ntmps75
              go_wp2_with (first | (go_at_call 107; refine (CN _ _).mono ?_; rintro e w1 ⟨rfl, rfl⟩) | (go_at_call 98; refine (CB _).mono ?_; rintro e w1 ⟨rfl, rfl⟩) | (go_at_call 108; refine (CS _).mono ?_; rintro e w1 ⟨rfl, rfl⟩) | (go_at_call 109; refine (CC _).mono ?_; rintro e w1 ⟨rfl, hb⟩; obtain ⟨hb, hz, hc, hf, hlt, hne⟩ := afterK (N := w.heap.size + 1 + 1) (w := w) hb (by (repeat' (first | (with_reducible exact Below.refl _ _) | (with_reducible assumption) | (with_reducible refine Below.alloc ?_ ?_ _) | (with_reducible refine Below.drew ?_) | (with_reducible refine below_drewN _ ?_) | (with_reducible refine Below.setCell ?_ ?_ _) | (with_reducible refine Below.frame ?_ _) | go_size | (simp only [size_alloc, size_setCell, size_drew, size_drewN]; omega)))) (by first | go_size | (simp only [size_alloc, size_setCell, size_drew, size_drewN]; omega)); have hq0 : w.heap.size < w1.heap.size := (by omega); have hq1 : w.heap.size + 1 < w1.heap.size := (by omega)))
              go_returns
              exact ⟨rfl, by (repeat' (first | (with_reducible exact Below.refl _ _) | (with_reducible assumption) | (with_reducible refine Below.alloc ?_ ?_ _) | (with_reducible refine Below.drew ?_) | (with_reducible refine below_drewN _ ?_) | (with_reducible refine Below.setCell ?_ ?_ _) | (with_reducible refine Below.frame ?_ _) | go_size | (simp only [size_alloc, size_setCell, size_drew, size_drewN]; omega)))⟩
            | true =>
              rw [if_pos ⟨⟨m1, m2⟩, he, rfl⟩]
              rw [hb] at CB
              have CC := CC0 ⟨n1, n3, m1, m3, hb⟩ he
              clear hb he CC0
              by_cases h2 : k = 2
              · rw [decide_eq_true h2]
                subst h2
                go_enter Try.func75, Try.ntmps75
                go_wp2_with (first | (go_at_call 107; refine (CN _ _).mono ?_; rintro e w1 ⟨rfl, rfl⟩) | (go_at_call 98; refine (CB _).mono ?_; rintro e w1 ⟨rfl, rfl⟩) | (go_at_call 108; refine (CS _).mono ?_; rintro e w1 ⟨rfl, rfl⟩) | (go_at_call 109; refine (CC _).mono ?_; rintro e w1 ⟨rfl, hb⟩; obtain ⟨hb, hz, hc, hf, hlt, hne⟩ := afterK (N := w.heap.size + 1 + 1) (w := w) hb (by (repeat' (first | (with_reducible exact Below.refl _ _) | (with_reducible assumption) | (with_reducible refine Below.alloc ?_ ?_ _) | (with_reducible refine Below.drew ?_) | (with_reducible refine below_drewN _ ?_) | (with_reducible refine Below.setCell ?_ ?_ _) | (with_reducible refine Below.frame ?_ _) | go_size | (simp only [size_alloc, size_setCell, size_drew, size_drewN]; omega)))) (by first | go_size | (simp only [size_alloc, size_setCell, size_drew, size_drewN]; omega)); have hq0 : w.heap.size < w1.heap.size := (by omega); have hq1 : w.heap.size + 1 < w1.heap.size := (by omega)))
                go_returns
                exact ⟨rfl, by (repeat' (first | (with_reducible exact Below.refl _ _) | (with_reducible assumption) | (with_reducible refine Below.alloc ?_ ?_ _) | (with_reducible refine Below.drew ?_) | (with_reducible refine below_drewN _ ?_) | (with_reducible refine Below.setCell ?_ ?_ _) | (with_reducible refine Below.frame ?_ _) | go_size | (simp only [size_alloc, size_setCell, size_drew, size_drewN]; omega)))⟩
              · rw [decide_eq_false h2]
                have h2' : (k == 2) = false := by simpa using h2
                clear h2
                generalize specialB d n = b at *
                generalize cutV d n m = c at *
                cases b with
                | true =>
                  go_enter Try.func75, Try.ntmps75
                  go_wp2_with (first | (go_at_call 107; refine (CN _ _).mono ?_; rintro e w1 ⟨rfl, rfl⟩) | (go_at_call 98; refine (CB _).mono ?_; rintro e w1 ⟨rfl, rfl⟩) | (go_at_call 108; refine (CS _).mono ?_; rintro e w1 ⟨rfl, rfl⟩) | (go_at_call 109; refine (CC _).mono ?_; rintro e w1 ⟨rfl, hb⟩; obtain ⟨hb, hz, hc, hf, hlt, hne⟩ := afterK (N := w.heap.size + 1 + 1) (w := w) hb (by (repeat' (first | (with_reducible exact Below.refl _ _) | (with_reducible assumption) | (with_reducible refine Below.alloc ?_ ?_ _) | (with_reducible refine Below.drew ?_) | (with_reducible refine below_drewN _ ?_) | (with_reducible refine Below.setCell ?_ ?_ _) | (with_reducible refine Below.frame ?_ _) | go_size | (simp only [size_alloc, size_setCell, size_drew, size_drewN]; omega)))) (by first | go_size | (simp only [size_alloc, size_setCell, size_drew, size_drewN]; omega)); have hq0 : w.heap.size < w1.heap.size := (by omega); have hq1 : w.heap.size + 1 < w1.heap.size := (by omega)))
                  go_returns
                  exact ⟨rfl, by (repeat' (first | (with_reducible exact Below.refl _ _) | (with_reducible assumption) | (with_reducible refine Below.alloc ?_ ?_ _) | (with_reducible refine Below.drew ?_) | (with_reducible refine below_drewN _ ?_) | (with_reducible refine Below.setCell ?_ ?_ _) | (with_reducible refine Below.frame ?_ _) | go_size | (simp only [size_alloc, size_setCell, size_drew, size_drewN]; omega)))⟩
                | false =>
                  by_cases hc0 : c = 0
                  · subst hc0
                    go_enter Try.func75, Try.ntmps75
                    go_wp2_with (first | (go_at_call 107; refine (CN _ _).mono ?_; rintro e w1 ⟨rfl, rfl⟩) | (go_at_call 98; refine (CB _).mono ?_; rintro e w1 ⟨rfl, rfl⟩) | (go_at_call 108; refine (CS _).mono ?_; rintro e w1 ⟨rfl, rfl⟩) | (go_at_call 109; refine (CC _).mono ?_; rintro e w1 ⟨rfl, hb⟩; obtain ⟨hb, hz, hc, hf, hlt, hne⟩ := afterK (N := w.heap.size + 1 + 1) (w := w) hb (by (repeat' (first | (with_reducible exact Below.refl _ _) | (with_reducible assumption) | (with_reducible refine Below.alloc ?_ ?_ _) | (with_reducible refine Below.drew ?_) | (with_reducible refine below_drewN _ ?_) | (with_reducible refine Below.setCell ?_ ?_ _) | (with_reducible refine Below.frame ?_ _) | go_size | (simp only [size_alloc, size_setCell, size_drew, size_drewN]; omega)))) (by first | go_size | (simp only [size_alloc, size_setCell, size_drew, size_drewN]; omega)); have hq0 : w.heap.size < w1.heap.size := (by omega); have hq1 : w.heap.size + 1 < w1.heap.size := (by omega)))
                    go_returns
                    exact ⟨rfl, by (repeat' (first | (with_reducible exact Below.refl _ _) | (with_reducible assumption) | (with_reducible refine Below.alloc ?_ ?_ _) | (with_reducible refine Below.drew ?_) | (with_reducible refine below_drewN _ ?_) | (with_reducible refine Below.setCell ?_ ?_ _) | (with_reducible refine Below.frame ?_ _) | go_size | (simp only [size_alloc, size_setCell, size_drew, size_drewN]; omega)))⟩
                  · rw [decide_eq_false hc0]
                    have hc0' : (c == 0) = false := by simpa using hc0
                    go_enter Try.func75, Try.ntmps75
                    go_wp2_with (first | (go_at_call 107; refine (CN _ _).mono ?_; rintro e w1 ⟨rfl, rfl⟩) | (go_at_call 98; refine (CB _).mono ?_; rintro e w1 ⟨rfl, rfl⟩) | (go_at_call 108; refine (CS _).mono ?_; rintro e w1 ⟨rfl, rfl⟩) | (go_at_call 109; refine (CC _).mono ?_; rintro e w1 ⟨rfl, hb⟩; obtain ⟨hb, hz, hc, hf, hlt, hne⟩ := afterK (N := w.heap.size + 1 + 1) (w := w) hb (by (repeat' (first | (with_reducible exact Below.refl _ _) | (with_reducible assumption) | (with_reducible refine Below.alloc ?_ ?_ _) | (with_reducible refine Below.drew ?_) | (with_reducible refine below_drewN _ ?_) | (with_reducible refine Below.setCell ?_ ?_ _) | (with_reducible refine Below.frame ?_ _) | go_size | (simp only [size_alloc, size_setCell, size_drew, size_drewN]; omega)))) (by first | go_size | (simp only [size_alloc, size_setCell, size_drew, size_drewN]; omega)); have hq0 : w.heap.size < w1.heap.size := (by omega); have hq1 : w.heap.size + 1 < w1.heap.size := (by omega)))
                    go_returns
                    exact ⟨rfl, by (repeat' (first | (with_reducible exact Below.refl _ _) | (with_reducible assumption) | (with_reducible refine Below.alloc ?_ ?_ _) | (with_reducible refine Below.drew ?_) | (with_reducible refine below_drewN _ ?_) | (with_reducible refine Below.setCell ?_ ?_ _) | (with_reducible refine Below.frame ?_ _) | go_size | (simp only [size_alloc, size_setCell, size_drew, size_drewN]; omega)))⟩
        · rw [if_neg (fun h => hm2 h.1)]
          have hm3 : m < 1 ∨ 2 * sz d ≤ m := by omega
          clear hm2
          rcases hm3 with hm3 | hm3
          · go_enter Try.func75, Try.ntmps75
            go_wp2_with (first | (go_at_call 107; refine (CN _ _).mono ?_; rintro e w1 ⟨rfl, rfl⟩) | (go_at_call 98; refine (CB _).mono ?_; rintro e w1 ⟨rfl, rfl⟩) | (go_at_call 108; refine (CS _).mono ?_; rintro e w1 ⟨rfl, rfl⟩) | (go_at_call 109; refine (CC _).mono ?_; rintro e w1 ⟨rfl, hb⟩; obtain ⟨hb, hz, hc, hf, hlt, hne⟩ := afterK (N := w.heap.size + 1 + 1) (w := w) hb (by (repeat' (first | (with_reducible exact Below.refl _ _) | (with_reducible assumption) | (with_reducible refine Below.alloc ?_ ?_ _) | (with_reducible refine Below.drew ?_) | (with_reducible refine below_drewN _ ?_) | (with_reducible refine Below.setCell ?_ ?_ _) | (with_reducible refine Below.frame ?_ _) | go_size | (simp only [size_alloc, size_setCell, size_drew, size_drewN]; omega)))) (by first | go_size | (simp only [size_alloc, size_setCell, size_drew, size_drewN]; omega)); have hq0 : w.heap.size < w1.heap.size := (by omega); have hq1 : w.heap.size + 1 < w1.heap.size := (by omega)))
            go_returns
            exact ⟨rfl, by (repeat' (first | (with_reducible exact Below.refl _ _) | (with_reducible assumption) | (with_reducible refine Below.alloc ?_ ?_ _) | (with_reducible refine Below.drew ?_) | (with_reducible refine below_drewN _ ?_) | (with_reducible refine Below.setCell ?_ ?_ _) | (with_reducible refine Below.frame ?_ _) | go_size | (simp only [size_alloc, size_setCell, size_drew, size_drewN]; omega)))⟩
          · go_enter Try.func75, Try.ntmps75
            go_wp2_with (first | (go_at_call 107; refine (CN _ _).mono ?_; rintro e w1 ⟨rfl, rfl⟩) | (go_at_call 98; refine (CB _).mono ?_; rintro e w1 ⟨rfl, rfl⟩) | (go_at_call 108; refine (CS _).mono ?_; rintro e w1 ⟨rfl, rfl⟩) | (go_at_call 109; refine (CC _).mono ?_; rintro e w1 ⟨rfl, hb⟩; obtain ⟨hb, hz, hc, hf, hlt, hne⟩ := afterK (N := w.heap.size + 1 + 1) (w := w) hb (by (repeat' (first | (with_reducible exact Below.refl _ _) | (with_reducible assumption) | (with_reducible refine Below.alloc ?_ ?_ _) | (with_reducible refine Below.drew ?_) | (with_reducible refine below_drewN _ ?_) | (with_reducible refine Below.setCell ?_ ?_ _) | (with_reducible refine Below.frame ?_ _) | go_size | (simp only [size_alloc, size_setCell, size_drew, size_drewN]; omega)))) (by first | go_size | (simp only [size_alloc, size_setCell, size_drew, size_drewN]; omega)); have hq0 : w.heap.size < w1.heap.size := (by omega); have hq1 : w.heap.size + 1 < w1.heap.size := (by omega)))
            go_returns
            exact ⟨rfl, by (repeat' (first | (with_reducible exact Below.refl _ _) | (with_reducible assumption) | (with_reducible refine Below.alloc ?_ ?_ _) | (with_reducible refine Below.drew ?_) | (with_reducible refine below_drewN _ ?_) | (with_reducible refine Below.setCell ?_ ?_ _) | (with_reducible refine Below.frame ?_ _) | go_size | (simp only [size_alloc, size_setCell, size_drew, size_drewN]; omega)))⟩
  · have hr : subsetB k d n m = false := by unfold subsetB; rw [if_neg hn]
    rw [hr]
    clear hr
    have CNn := fun w => CN n w
    rw [decide_eq_false hn] at CNn
    clear hn
    have CN := fun (v : Int) w => CNn w
    go_enter Try.func75, Try.ntmps75
    go_wp2_with (go_at_call 107; refine (CNn _).mono ?_; rintro e w1 ⟨rfl, rfl⟩)
    go_returns
    exact ⟨rfl, by (repeat' (first | (with_reducible exact Below.refl _ _) | (with_reducible assumption) | (with_reducible refine Below.alloc ?_ ?_ _) | (with_reducible refine Below.drew ?_) | (with_reducible refine below_drewN _ ?_) | (with_reducible refine Below.setCell ?_ ?_ _) | (with_reducible refine Below.frame ?_ _) | go_size | (simp only [size_alloc, size_setCell, size_drew, size_drewN]; omega)))⟩
end Go.Proofs.Ytpnfghpcpjpppaa
