/- The reference's cipher: words, bytes, blocks, round keys. -/
import Derived.Test.YtpnfghpcpjpppaaRc1
import Derived.Deep.AppendLies
namespace Go.Proofs.Ytpnfghpcpjpppaa
open Go.RowKit
set_option linter.unusedVariables false
set_option linter.unusedSimpArgs false

theorem isBytes_take {l : List Int} (h : isBytes l) (n : Nat) : isBytes (l.take n) := fun x hx => h x (List.mem_of_mem_take hx)
theorem isBytes_drop {l : List Int} (h : isBytes l) (n : Nat) : isBytes (l.drop n) := fun x hx => h x (List.mem_of_mem_drop hx)
theorem keyL_take (l : List Int) (n : Nat) : keyL (l.take n) = (keyL l).take n := by unfold keyL; rw [List.map_take]
theorem keyL_drop (l : List Int) (n : Nat) : keyL (l.drop n) = (keyL l).drop n := by unfold keyL; rw [List.map_drop]

/-- A half of a key that lies in a block of its own. -/
theorem bys_half {W : World} {N : Nat} {k : List Int} (hk : k.length = 16) (hr : W.rangeAt N 0 (keyL k)) : Bys W (.slice (some ⟨N, 0, none⟩) 8 16) (k.take 8) ∧ Bys W (.slice (some ⟨N, 8, none⟩) 8 8) (k.drop 8) := by
  have hl := (keyL_len k).trans hk
  refine ⟨⟨by simp [keyL_len, hk], _, 16, by simp [hk], by simp [hk], by unfold maxLen; omega, fun _ => ⟨N, 0, rfl, fun i u hu => ?_⟩⟩, ⟨by simp [keyL_len, hk], _, 8, by simp [hk], by simp [hk], by unfold maxLen; omega, fun _ => ⟨N, 8, rfl, fun i u hu => ?_⟩⟩⟩
  · rw [keyL_take] at hu
    exact hr i u (by rw [← hu, List.getElem?_take_of_lt]; have := (List.getElem?_eq_some_iff.1 hu).1; simp [hl] at this; omega)
  · rw [keyL_drop, List.getElem?_drop] at hu
    have := hr (8 + i) u hu
    rwa [Nat.zero_add] at this
theorem Bys.drewN {w : World} {v : Value} {l : List Int} (h : Bys w v l) (n : Nat) : Bys (w.drewN n) v l := Reads.below h (below_drewN n (Below.refl _ _))

set_option maxRecDepth 20000 in
set_option maxHeartbeats 2000000 in
theorem rwords_any (k : List Int) (w : World) (hk : k.length = 16) (hb : isBytes k) :
    Calls Try.prog 91 #[keyV k] w fun e w' => e = .returned (.tuple #[.int .u64 (wordsP k).1, .int .u64 (wordsP k).2]) ∧ Below w.heap.size w w' := by
  obtain ⟨h1, h2⟩ := bys_half hk (range_new w (keyL k) 37)
  have C1 := fun n => Value_any _ _ _ (h1.drewN n) (isBytes_take hb 8)
  have C2 := fun n => Value_any _ _ _ (h2.drewN n) (isBytes_drop hb 8)
  have e1 : valL (k.take 8) = (wordsP k).1 := valL_wpre _ (isBytes_take hb 8) (by simp [hk])
  have e2 : valL (k.drop 8) = (wordsP k).2 := valL_wpre _ (isBytes_drop hb 8) (by simp [hk])
  rw [e1] at C1
  rw [e2] at C2
  unfold keyV
  generalize wordsP k = p at *
  obtain ⟨x, y⟩ := p
  dsimp only at C1 C2
  generalize keyL k = L at *
  clear e1 e2 h1 h2
  go_enter Try.func91, Try.ntmps91
  go_wp2_with fail
  go_quiet ((go_at_call 110; first | (with_reducible exact quiet_same (C1 _)) | (with_reducible exact quiet_same (C2 _))))
  go_wp2_with fail
  go_returns
  exact ⟨rfl, by (repeat' (first | (with_reducible exact Below.refl _ _) | (with_reducible assumption) | (with_reducible refine Below.alloc ?_ ?_ _) | (with_reducible refine Below.drew ?_) | (with_reducible refine below_drewN _ ?_) | (with_reducible refine Below.setCell ?_ ?_ _) | (with_reducible refine Below.frame ?_ _) | go_size | (simp only [size_alloc, size_setCell, size_drew, size_drewN]; omega)))⟩

/-- The bytes of a word: 8, or the last 7. -/
def bytes8 (n : Int) : List Int := (List.range 8).map (byteOf n)
def bytes7 (n : Int) : List Int := ((List.range 8).map (byteOf n)).drop 1

/-- The last j bytes of a word. -/
def bytesLo (n : Int) : Nat → List Int
  | 0 => []
  | j + 1 => (n / 256 ^ j % 256) :: bytesLo n j
theorem bytesLo_len (n : Int) (j : Nat) : (bytesLo n j).length = j := by
  induction j with
  | zero => rfl
  | succ j ih => simp [bytesLo, ih]
theorem bytesLo_8 (n : Int) : bytesLo n 8 = bytes8 n := by
  simp only [bytesLo, bytes8, byteOf, List.range_succ, List.range_zero, List.nil_append, List.cons_append, List.map_cons, List.map_nil]
  rfl
theorem bytesLo_7 : bytesLo 0 7 = List.replicate 7 0 := by decide +kernel
theorem div_256 (n : Int) (j : Nat) : n / 256 ^ j / 256 = n / 256 ^ (j + 1) := by
  rw [Int.pow_succ, Int.ediv_ediv_of_nonneg (Int.le_of_lt (Int.pow_pos (by omega)))]
theorem div_le (n : Int) (h0 : 0 ≤ n) (h1 : n ≤ 18446744073709551615) : ∀ j : Nat, 0 ≤ n / 256 ^ j ∧ n / 256 ^ j ≤ 18446744073709551615
  | 0 => by simpa using ⟨h0, h1⟩
  | j + 1 => by
    have := div_le n h0 h1 j
    rw [← div_256]
    omega
theorem bytes8_len (n : Int) : (bytes8 n).length = 8 := by unfold bytes8; simp
theorem bytes8_is (n : Int) : isBytes (bytes8 n) := by
  intro x hx
  unfold bytes8 at hx
  obtain ⟨i, _, rfl⟩ := List.mem_map.1 hx
  unfold byteOf
  generalize (2 : Int) ^ (56 - 8 * i) = m
  generalize n / m = q
  omega

theorem Try.info5 : (Try.prog.info? 5).map (fun i => (i.zero, i.size, i.bytes)) = some (some (.int .u8 0), 1, 1) := by kernel_rfl
theorem wrap8_mod (x : Int) : IntKind.u8.wrap (x % 256) = x % 256 := by rw [IntKind.wrap_u8]; omega
set_option maxHeartbeats 1000000 in
theorem rBytes_any (n : Int) (m : Nat) (w : World) (h0 : 0 ≤ n) (h1 : n ≤ 18446744073709551615) (hm : m ≤ 8) :
    Calls Try.prog 123 #[.int .u64 n, .int .i64 m] w fun e w' => ∃ v, e = .returned v ∧ w'.ownsRow w.heap.size 5 1 v m (keyL (bytesLo n m)) ∧ Below w.heap.size w w' := by
  obtain ⟨i0, hi, iz0, iz1, iz2⟩ := info_parts Try.info5
  have HD := Lib.hid (div_le n h0 h1)
  clear h0 h1
  go_enter Try.func123, Try.ntmps123
  go_wp2
  go_loopw [0, 5, 6] (fun a o i wr => ∃ j : Nat, j ≤ m ∧ i = .int .i64 j ∧ a = .int .u64 (n / 256 ^ j) ∧ wr.ownsRow w.heap.size 5 1 o j (keyL (bytesLo n j)) ∧ Below w.heap.size w wr) (fun _ _ i _ => m - (intOf i).toNat)
  case atStart => exact ⟨0, Nat.zero_le _, rfl, by simp, World.ownsRow_nil _ _ _ _, Below.refl _ _⟩
  case round =>
    obtain ⟨j, hj, rfl, rfl, hown, hB⟩ := hrel
    by_cases hlt : j < m
    · have hx := HD.out j
      have HDV := Lib.hid (div_256 n j)
      have HBL := Lib.hid (show bytesLo n (j + 1) = (n / 256 ^ j % 256) :: bytesLo n j from rfl)
      have hl := bytesLo_len n j
      obtain ⟨hx0, hx1⟩ := hx
      generalize hX : n / 256 ^ j = X at *
      clear hX
      have hw8 := wrap8_mod X
      have hni := NiceS.of_owns hown
      have hz := hB.size
      have hkl := (keyL_len (bytesLo n j)).trans hl
      have HKO := one8_keyL (bytesLo n j)
      generalize hK : keyL (bytesLo n j) = KL at *
      have HK := Lib.hid hK
      clear hK hl hkl
      go_wp2_with (at_builtin; refine wpList_append_reads rfl _ _ 172 rfl w.heap.size 5 i0 (.int .u8 0) 1 1 Try.underlying172 hi iz0 iz1 iz2 rfl (by decide) _ 1 [.int .u8 (X % 256)] rfl (World.ownsRow_lit wr #[.int .u8 (X % 256)] 1 hz (by decide) rfl) u5 j KL rfl hni ((Reads.of_owns hown).below ((Below.refl _ _).alloc (Nat.le_refl _) _)) HKO (by unfold maxLen; omega) (by omega) (by first | omega | (simp; omega) | simp) ?_; intro v' w3 hown3 hgrow3 hnil3)
      go_roundw
      case rel =>
        refine ⟨j + 1, by omega, by go_num, by rw [← HDV.out], ?_, (hB.alloc hz _).grown hgrow3 (by simp; omega) (fun k hk => by cases hk; exact hz)⟩
        rw [HBL.out, show keyL ((X % 256) :: bytesLo n j) = .int .u8 (X % 256) :: keyL (bytesLo n j) from rfl, HK.out, Nat.add_comm]
        exact hown3
      case measure => simp [intOf]; omega
    · obtain rfl : j = m := by omega
      have HD := 0
      go_wp2_with fail
      go_returns
      exact ⟨_, rfl, hown, hB⟩
theorem rBytes8 (n : Int) (w : World) (h0 : 0 ≤ n) (h1 : n ≤ 18446744073709551615) :
    Calls Try.prog 123 #[.int .u64 n, .int .i64 8] w fun e w' => ∃ v, e = .returned v ∧ w'.ownsRow w.heap.size 5 1 v 8 (keyL (bytes8 n)) ∧ Below w.heap.size w w' := by
  have := rBytes_any n 8 w h0 h1 (Nat.le_refl _)
  rw [bytesLo_8] at this
  exact this
theorem rBytes7 (w : World) :
    Calls Try.prog 123 #[.int .u64 0, .int .i64 7] w fun e w' => ∃ v, e = .returned v ∧ w'.ownsRow w.heap.size 5 1 v 7 (keyL (List.replicate 7 0)) ∧ Below w.heap.size w w' := by
  have := rBytes_any 0 7 w (by omega) (by omega) (by omega)
  rw [bytesLo_7] at this
  exact this

theorem bys_of_owns {w : World} {base n : Nat} {v : Value} {l : List Int} (h : w.ownsRow base 5 1 v n (keyL l)) (hn : l.length = n) : Bys w v l := by
  subst hn
  exact Reads.of_owns h

theorem own_at {g n c k : Nat} (h : (Value.slice (some ⟨g, 0, none⟩) n c).ownBlock = some k) : g = k := by
  simpa [Value.ownBlock] using h

set_option maxRecDepth 20000 in
set_option maxHeartbeats 2000000 in
theorem rblock_any (x y : Int) (w : World) (hx : inW x) (hy : inW y) :
    Calls Try.prog 95 #[.int .u64 x, .int .u64 y] w fun e w' => e = .returned (keyV (bytesOf (x, y))) ∧ Below w.heap.size w w' := by
  have CX := fun w => rBytes8 x w hx.1 hx.2
  have CY := fun w => rBytes8 y w hy.1 hy.2
  have CK := fun v w h => rkey_any v (bytesOf (x, y)) w h (bytesOf_len _)
  have hbo : keyL (bytes8 x) ++ keyL (bytes8 y) = keyL (bytesOf (x, y)) := by unfold keyL bytes8 bytesOf; rw [List.map_append]
  have hlx := (keyL_len _).trans (bytes8_len x)
  have hly := (keyL_len _).trans (bytes8_len y)
  have hoy := one8_keyL (bytes8 y)
  have hob := one8_keyL (bytesOf (x, y))
  have hlb := (keyL_len _).trans (bytesOf_len (x, y))
  have HKV := Lib.hid (show keyV (bytesOf (x, y)) = .agg (keyL (bytesOf (x, y))).toArray from rfl)
  have HBY := fun (w : World) base v (h : w.ownsRow base 5 1 v (8 + 8) (keyL (bytesOf (x, y)))) => bys_of_owns h (bytesOf_len _)
  unfold keyV at CK
  generalize keyL (bytes8 x) = X at *
  generalize keyL (bytes8 y) = Y at *
  generalize keyL (bytesOf (x, y)) = L at *
  have HBO := Lib.hid hbo
  have HLX := Lib.hid hlx
  have HLY := Lib.hid hly
  have HOY := Lib.hid hoy
  have hI := infoK
  have hI1 : (Try.prog.info? 37).map (·.size) = some L.length := hlb ▸ hI
  have hsa : L.toArray.size = 16 := by simp [hlb]
  have hI2 : (Try.prog.info? 37).map (·.size) = some L.toArray.size := hsa ▸ hI
  have hU : Try.prog.underlying 37 = some (.array 16 5) := by kernel_rfl
  have HT := fun (w : World) (h : w.there 0 0 16) => h
  have HLB := Lib.hid hlb
  have HSA := Lib.hid hsa
  obtain ⟨i0, hi, iz0, iz1, iz2⟩ := info_parts Try.info5
  clear hbo hlx hly hoy hlb hsa HT hI
  go_enter Try.func95, Try.ntmps95
  go_wp2_with fail
  refine calls_world ?_
  intro W1 hW1
  have hb1 : Below w.heap.size w W1 := by rw [← hW1]; exact (Below.refl _ _).alloc (Nat.le_refl _) _
  have hs1 : W1.heap.size = w.heap.size + 1 := by rw [← hW1]; simp
  have ht1 : W1.there w.heap.size 0 16 := by rw [← hW1]; exact there_new w 16 (.int .u8 0) 37
  clear hW1
  refine (CX W1).mono ?_
  rintro e W2 ⟨v1, rfl, ho1, hb2⟩
  have hs2 := hb2.size
  obtain ⟨g1, c1, rfl, hg1, -⟩ := ho1.form (by omega)
  go_wp2_with fail
  refine (CY W2).mono ?_
  rintro e W3 ⟨v2, rfl, ho2, hb3⟩
  have hs3 := hb3.size
  obtain ⟨g2, c2, rfl, hg2, -⟩ := ho2.form (by omega)
  have ho1' := ownsRow_below ho1 hb3
  have hb13 := (hb1.trans (hb2.mono (by omega))).trans (hb3.mono (by omega))
  have ht3 := there_below (there_below ht1 hb2 (by omega)) hb3 (by omega)
  go_wp2_with (at_builtin; refine wpList_append_own _ rfl _ _ 172 rfl W1.heap.size 5 i0 (.int .u8 0) 1 1 Try.underlying172 hi iz0 iz1 iz2 rfl (by decide) _ _ _ rfl ho1' ⟨g2, 0, none⟩ 8 c2 Y rfl HLY.out (ho2.cells rfl) HOY.out (by unfold maxLen; omega) (by omega) (by omega) ?_; intro v' W4 hown hgrow hnil)
  rw [HBO.out] at hown
  obtain ⟨g4, c4, rfl, hg4, -⟩ := hown.form (by omega)
  have hb4 : Below w.heap.size w W4 := hb13.grown hgrow (by omega) (fun k hk => by have e : g1 = k := own_at hk; omega)
  have hs4 := hgrow.size
  have ht4 : W4.there w.heap.size 0 16 := fun j hj => by
    have h := ht3 j hj
    have hbk := hgrow.block w.heap.size (by omega) (fun e => by have e : g1 = w.heap.size := own_at e.symm; omega)
    exact ⟨by rw [World.cell?_of_block (a := ⟨w.heap.size, 0 + j, none⟩) hbk]; exact h.1, by rw [World.frozen?_of_block hbk]; exact h.2⟩
  refine (CK _ W4 (HBY _ _ _ hown)).mono ?_
  rintro e W5 ⟨rfl, hb5⟩
  have hs5 := hb5.size
  have ht5 := there_below ht4 hb5 (by omega)
  have hbb := hb4.trans (hb5.mono (by omega))
  have ht6 : W5.there w.heap.size 0 L.toArray.size := HSA.out ▸ ht5
  have ht7 : W5.there w.heap.size 0 L.length := HLB.out ▸ ht5
  go_wp2_with (refine wpList_store_mid rfl 37 (.tmp 4) (.tmp 10) rfl w.heap.size 0 L.toArray rfl rfl ht6 hI2 (all_oneCell_toArray hob) ?_)
  refine bodyPost_ret (v := .agg L.toArray) (results_mid Try.results95 _ _ w.heap.size L _ rfl (World.rangeAt_setCells_same _ _ _ _ ht7) hU rfl hI1) rfl ⟨by rw [HKV.out], below_setCells _ (Nat.le_refl _) _ _ _ hbb⟩
end Go.Proofs.Ytpnfghpcpjpppaa
