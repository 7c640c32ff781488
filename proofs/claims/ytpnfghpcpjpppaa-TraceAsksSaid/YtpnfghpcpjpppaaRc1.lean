/- The reference's cipher: rotations, bytes and numbers, keys, words, blocks. -/
import Derived.Test.YtpnfghpcpjpppaaAsk
import Derived.Test.YtpnfghpcpjpppaaApp
import Derived.Laws.BitsLemmas
namespace Go.Proofs.Ytpnfghpcpjpppaa
open Go.RowKit
set_option linter.unusedVariables false
set_option linter.unusedSimpArgs false

theorem bits_or_comm (a b : Int) : bits .or .u64 a b = bits .or .u64 b a := by
  show IntKind.u64.wrap ((BitVec.ofInt 64 a ||| BitVec.ofInt 64 b).toNat : Int) = IntKind.u64.wrap ((BitVec.ofInt 64 b ||| BitVec.ofInt 64 a).toNat : Int)
  rw [BitVec.or_comm]
theorem bits_xor_comm (a b : Int) : bits .xor .u64 a b = bits .xor .u64 b a := by
  show IntKind.u64.wrap ((BitVec.ofInt 64 a ^^^ BitVec.ofInt 64 b).toNat : Int) = IntKind.u64.wrap ((BitVec.ofInt 64 b ^^^ BitVec.ofInt 64 a).toNat : Int)
  rw [BitVec.xor_comm]

/-- A contract that only draws, met inside a region that draws its order. -/
theorem quiet_drawn {P : Program} {f : FuncId} {args : Array Value} {w : World} {n : Nat} {v : Value}
    (h : Calls P f args (w.drewN n) fun e w' => e = .returned v ∧ ∃ m, w' = (w.drewN n).drewN m) : Calls P f args (w.drewN n) fun e w'' => e = .returned v ∧ ∃ m, w'' = w.drewN m :=
  h.mono fun _ _ ⟨he, m, hm⟩ => ⟨he, n + m, by rw [hm, World.drewN_drewN]⟩

theorem rrotr8 (x : Int) (w : World) (h0 : 0 ≤ x) (h1 : x ≤ 18446744073709551615) :
    Calls Try.prog 93 #[.int .u64 x, .int .i64 8] w fun e w' => e = .returned (.int .u64 (w8 x)) ∧ ∃ n, w' = w.drewN n := by
  unfold w8
  rw [bits_or_comm]
  have hs : IntKind.i64.wrap (64 - 8) = 56 := by kernel_rfl
  go_enter Try.func93, Try.ntmps93
  go_wp2
  go_quiet (fail)
  go_wp2
  go_returns
  exact ⟨rfl, _, rfl⟩
theorem rrotr61 (x : Int) (w : World) (h0 : 0 ≤ x) (h1 : x ≤ 18446744073709551615) :
    Calls Try.prog 93 #[.int .u64 x, .int .i64 61] w fun e w' => e = .returned (.int .u64 (l3 x)) ∧ ∃ n, w' = w.drewN n := by
  unfold l3
  rw [bits_or_comm]
  have hs : IntKind.i64.wrap (64 - 61) = 3 := by kernel_rfl
  go_enter Try.func93, Try.ntmps93
  go_wp2
  go_quiet (fail)
  go_wp2
  go_returns
  exact ⟨rfl, _, rfl⟩
theorem rrotl3 (x : Int) (w : World) (h0 : 0 ≤ x) (h1 : x ≤ 18446744073709551615) :
    Calls Try.prog 94 #[.int .u64 x, .int .i64 3] w fun e w' => e = .returned (.int .u64 (l3 x)) ∧ ∃ n, w' = w.drewN n := by
  have C := fun w => rrotr61 x w h0 h1
  generalize l3 x = r at *
  go_enter Try.func94, Try.ntmps94
  go_wp2_with (go_at_call 93; refine (C _).mono ?_; rintro e w1 ⟨rfl, n, rfl⟩)
  go_returns
  exact ⟨rfl, _, rfl⟩

/-- Bytes. -/
def isBytes (l : List Int) : Prop := ∀ x ∈ l, 0 ≤ x ∧ x ≤ 255
/-- The number in some bytes. -/
def valL (l : List Int) : Int := l.foldl (fun a c => IntKind.u64.wrap (IntKind.u64.wrap (256 * a) + c)) 0
theorem wrap_in (n : Int) : 0 ≤ IntKind.u64.wrap n ∧ IntKind.u64.wrap n ≤ 18446744073709551615 := by rw [IntKind.wrap_u64]; omega
theorem valL_in (l : List Int) : inW (valL l) := by
  unfold valL
  suffices h : ∀ (m : List Int) (a : Int), inW a → inW (m.foldl (fun a c => IntKind.u64.wrap (IntKind.u64.wrap (256 * a) + c)) a) from h l 0 ⟨by omega, by omega⟩
  intro m
  induction m with
  | nil => intro a h; exact h
  | cons c m ih => intro a h; exact ih _ (wrap_in _)
theorem valL_snoc (l : List Int) (j : Nat) (h : j < l.length) : valL (l.take (j + 1)) = IntKind.u64.wrap (IntKind.u64.wrap (256 * valL (l.take j)) + l.getD j 0) := by
  unfold valL
  rw [List.take_add_one, List.foldl_append]
  simp [List.getElem?_eq_getElem h, List.getD]
/-- A byte joins a word. -/
theorem join_byte (a c : Int) (ha : inW a) (c0 : 0 ≤ c) (c1 : c ≤ 255) : IntKind.u64.wrap (IntKind.u64.wrap (256 * a) + c) = bits .or .u64 (IntKind.u64.wrap (a * 256)) (IntKind.u64.wrap c) := by
  have hm : 0 ≤ a * 256 % 18446744073709551616 ∧ a * 256 % 18446744073709551616 < 18446744073709551616 := by omega
  have h256 : a * 256 % 18446744073709551616 % 256 = 0 := by omega
  rw [bits_join .u64 64 (by decide) (fun n h0 h1 => by rw [IntKind.wrap_u64]; omega) 8 _ _ (by rw [IntKind.wrap_u64]; omega) (by rw [IntKind.wrap_u64]; omega) (by rw [IntKind.wrap_u64]; omega) (by rw [IntKind.wrap_u64]; omega) (by rw [IntKind.wrap_u64]; omega) (by rw [IntKind.wrap_u64]; omega)]
  simp only [IntKind.wrap_u64]
  omega
theorem valL_wpre (l : List Int) (h : isBytes l) (h8 : l.length = 8) : valL l = wpre l 8 := by
  unfold valL wpre
  rw [List.take_of_length_le (by omega)]
  suffices key : ∀ (m : List Int) (a : Int), isBytes m → inW a → m.foldl (fun a c => IntKind.u64.wrap (IntKind.u64.wrap (256 * a) + c)) a = m.foldl (fun a c => bits .or .u64 (IntKind.u64.wrap (a * 256)) (IntKind.u64.wrap c)) a from key l 0 h ⟨by omega, by omega⟩
  intro m
  induction m with
  | nil => intro a _ _; rfl
  | cons c m ih =>
    intro a hm ha
    have hc := hm c List.mem_cons_self
    rw [List.foldl_cons, List.foldl_cons, join_byte a c ha hc.1 hc.2]
    exact ih _ (fun x hx => hm x (List.mem_cons_of_mem _ hx)) (bits_in _ _ _)

/-- A slice of bytes. -/
def Bys (w : World) (v : Value) (l : List Int) : Prop := Reads 1 w v l.length (keyL l)
theorem Bys.open {w : World} {v : Value} {zs : List Int} (h : Bys w v zs) : ∃ a cap, v = .slice a zs.length cap ∧ zs.length ≤ cap ∧ cap ≤ maxLen ∧
    (∀ i, i < zs.length → ∃ b off, a = some ⟨b, off, none⟩ ∧ w.cell? ⟨b, off + i, none⟩ = some (.int .u8 (zs.getD i 0))) := by
  obtain ⟨h0, a, cap, h1, h2, h3, h4⟩ := h
  refine ⟨a, cap, h1, h2, h3, fun i hi => ?_⟩
  obtain ⟨b, off, ha, hc⟩ := h4 (by omega)
  refine ⟨b, off, ha, hc i _ ?_⟩
  unfold keyL
  rw [List.getElem?_map, List.getElem?_eq_getElem hi]
  simp [List.getD, hi]

theorem isBytes_getD {l : List Int} (h : isBytes l) (j : Nat) : 0 ≤ l.getD j 0 ∧ l.getD j 0 ≤ 255 := by
  by_cases hj : j < l.length
  · have := h l[j] (List.getElem_mem hj)
    simpa [List.getD, hj] using this
  · simp [List.getD, hj]

theorem Value_any (v : Value) (l : List Int) (w : World) (hv : Bys w v l) (hb : isBytes l) :
    Calls Try.prog 110 #[v] w fun e w' => e = .returned (.int .u64 (valL l)) ∧ w = w' := by
  obtain ⟨a, cap, rfl, hcap, hmax, hcell⟩ := hv.open
  clear hv
  unfold maxLen at hmax
  have HC := Lib.hid hcell
  clear hcell
  go_enter Try.func110, Try.ntmps110
  go_wp2_with fail
  go_loop [3, 4] (fun n i => ∃ j : Nat, j ≤ l.length ∧ i = .int .i64 j ∧ n = .int .u64 (valL (l.take j))) (fun _ i => l.length - (intOf i).toNat)
  case atStart => exact ⟨0, Nat.zero_le _, rfl, rfl⟩
  case round =>
    obtain ⟨j, hj, rfl, rfl⟩ := hrel
    have hn := valL_in (l.take j)
    unfold inW at hn
    by_cases hlt : j < l.length
    · obtain ⟨b, off, rfl, e0⟩ := HC.out j hlt
      have hs := Lib.hid (valL_snoc l j hlt)
      have hbb := isBytes_getD hb j
      generalize valL (l.take j) = n at *
      generalize l.getD j 0 = c at *
      have hwc : IntKind.u64.wrap c = c := by rw [IntKind.wrap_u64]; omega
      go_wp2_with fail
      go_round
      case rel => exact ⟨j + 1, hlt, by go_num, by rw [hs.out]⟩
      case measure => simp [intOf]; omega
    · obtain rfl : j = l.length := by omega
      go_wp2_with fail
      go_returns
      exact ⟨rfl, rfl⟩

/-- The cells of a key of which j bytes are laid. -/
def kpre (l : List Int) (j : Nat) : List Value := keyL (l.take j) ++ List.replicate (16 - j) (.int .u8 0)
theorem kpre_len {l : List Int} {j : Nat} (hl : l.length = 16) (hj : j ≤ 16) : (kpre l j).length = 16 := by
  unfold kpre keyL
  simp only [List.length_append, List.length_map, List.length_take, List.length_replicate]
  omega
theorem kpre_succ {l : List Int} {j : Nat} (hl : l.length = 16) (hj : j < 16) : (kpre l j).toArray.setIfInBounds j (.int .u8 (l.getD j 0)) = (kpre l (j + 1)).toArray := by
  have hlen : (keyL (l.take j)).length = j := by unfold keyL; simp; omega
  have h1 : keyL (l.take (j + 1)) = keyL (l.take j) ++ [.int .u8 (l.getD j 0)] := by
    unfold keyL
    rw [List.take_add_one, List.map_append]
    simp [List.getElem?_eq_getElem (show j < l.length by omega), List.getD]
  unfold kpre
  rw [h1, List.setIfInBounds_toArray, List.set_append_right _ _ (by omega), hlen, Nat.sub_self, show 16 - j = (16 - (j + 1)) + 1 from by omega, List.replicate_succ, List.set_cons_zero, List.append_assoc]
  rfl
theorem kpre_full {l : List Int} (hl : l.length = 16) : kpre l 16 = keyL l := by
  unfold kpre
  rw [List.take_of_length_le (by omega)]
  simp

set_option maxRecDepth 20000 in
set_option maxHeartbeats 2000000 in
theorem rkey_any (v : Value) (l : List Int) (w : World) (hv : Bys w v l) (hl : l.length = 16) :
    Calls Try.prog 122 #[v] w fun e w' => e = .returned (keyV l) ∧ Below w.heap.size w w' := by
  obtain ⟨a, cap, rfl, hcap, hmax, hcell⟩ := hv.open
  clear hv
  unfold maxLen at hmax
  have HC := Lib.hid hcell
  clear hcell
  rw [hl] at hcap ⊢
  have HL := Lib.hid hl
  clear hl
  go_enter Try.func122, Try.ntmps122
  go_wp2_with fail
  refine wp_world ?_
  intro W1 hW1
  have hb1 : Below w.heap.size w W1 := by rw [← hW1]; exact ((Below.refl _ _).alloc (Nat.le_refl _) _).alloc (by simp) _
  have hs1 : W1.heap.size = w.heap.size + 2 := by rw [← hW1]; simp
  have hr1 : W1.heap[w.heap.size]? = some (.cells (kpre l 0).toArray 37 (0, 0)) := by
    rw [← hW1]
    exact (Below.heap_alloc _ _ _ (by simp)).trans (World.alloc_heap_new w _)
  have hr2 : W1.heap[w.heap.size + 1]? = some (.cells (kpre l 0).toArray 37 (0, 0)) := by
    rw [← hW1]
    have := World.alloc_heap_new (w.alloc (.cells (kpre l 0).toArray 37 (0, 0))) (.cells (kpre l 0).toArray 37 (0, 0))
    rwa [World.size_alloc] at this
  clear hW1
  go_loopw [4] (fun i wr => ∃ j : Nat, j ≤ 16 ∧ i = .int .i64 j ∧ Below w.heap.size w wr ∧ wr.heap.size = w.heap.size + 2 ∧ Hid (wr.heap[w.heap.size]? = some (.cells (kpre l 0).toArray 37 (0, 0))) ∧ Hid (wr.heap[w.heap.size + 1]? = some (.cells (kpre l j).toArray 37 (0, 0))))
    (fun i _ => 16 - (intOf i).toNat)
  case atStart => exact ⟨0, Nat.zero_le _, rfl, hb1, hs1, hr1, hr2⟩
  case round =>
    obtain ⟨j, hj, rfl, hB, hsz, HR1, HR2⟩ := hrel
    clear hb1 hs1 hr1 hr2
    by_cases hlt : j < 16
    · obtain ⟨b, off, rfl, e0⟩ := HC.out j (by have := HL.out; omega)
      have e0r := (hB.cell (p := ⟨b, off + j, none⟩) (cell_lt' e0)).trans e0
      clear e0
      have hcw : wr.cell? ⟨w.heap.size + 1, j, none⟩ = some ((kpre l j)[j]'(by rw [kpre_len HL.out (by omega)]; omega)) := by
        rw [cell_of_row wr _ _ _ _ _ HR2.out]
        simp
      have hfw : wr.frozen? ⟨w.heap.size + 1, j, none⟩ = false := by simp [World.frozen?, HR2.out]
      have hnx := Lib.hid (heap_set_row (i := j) HR2.out (.int .u8 (l.getD j 0)))
      have hks := Lib.hid (kpre_succ HL.out hlt)
      have hj0 : (0 : Int) ≤ (j : Int) := by omega
      have hj1 : (j : Int) < 16 := by omega
      generalize (kpre l j)[j]'_ = u at hcw
      generalize l.getD j 0 = c at *
      go_wp2_with fail
      go_roundw
      case rel =>
        refine ⟨j + 1, hlt, by go_num, hB.setCell (by simp) _, by simp [hsz], ?_, ?_⟩
        · exact (Below.heap_setCell _ _ _ _ (by show w.heap.size ≠ w.heap.size + 1; omega)).trans HR1.out
        · show _ = _
          rw [← hks.out]
          exact hnx.out
      case measure => simp [intOf]; omega
    · obtain rfl : j = 16 := by omega
      have HK := Lib.hid (kpre_full HL.out)
      have hrg : wr.rangeAt (w.heap.size + 1) 0 (keyL l) := fun i u hu => by
        rw [cell_of_row wr _ _ _ _ _ HR2.out, HK.out, Nat.zero_add]
        simpa using hu
      have hth : wr.there w.heap.size 0 16 := there_of_row HR1.out (by rw [List.size_toArray, kpre_len HL.out (by omega)])
      have h18 := one8_keyL l
      have hlk : (keyL l).length = 16 := (keyL_len l).trans HL.out
      have hI := infoK
      have hI1 : (Try.prog.info? 37).map (·.size) = some (keyL l).length := hlk ▸ hI
      have HKV := Lib.hid (show keyV l = .agg (keyL l).toArray from rfl)
      generalize keyL l = L at *
      have hsa : L.toArray.size = 16 := by simp [hlk]
      have hth2 : wr.there w.heap.size 0 L.toArray.size := hsa ▸ hth
      have hI2 : (Try.prog.info? 37).map (·.size) = some L.toArray.size := hsa ▸ hI
      have hth3 : wr.there w.heap.size 0 L.length := hlk ▸ hth
      have hU : Try.prog.underlying 37 = some (.array 16 5) := by kernel_rfl
      clear hsa hI hlk hth HR1 HR2 HC HK
      go_wp2_with (first
        | (refine wpList_load_mid rfl 37 (.tmp 3) rfl (w.heap.size + 1) 0 rfl L _ hrg hU rfl hI1 ?_)
        | (refine wpList_store_mid rfl 37 (.tmp 2) (.tmp 21) rfl w.heap.size 0 L.toArray rfl rfl hth2 hI2 (all_oneCell_toArray h18) ?_))
      refine bodyPost_ret (v := .agg L.toArray) (results_mid Try.results122 _ _ w.heap.size L _ rfl (World.rangeAt_setCells_same _ _ _ _ hth3) hU rfl hI1) rfl ⟨by rw [HKV.out], below_setCells _ (Nat.le_refl _) _ _ _ hB⟩
end Go.Proofs.Ytpnfghpcpjpppaa
