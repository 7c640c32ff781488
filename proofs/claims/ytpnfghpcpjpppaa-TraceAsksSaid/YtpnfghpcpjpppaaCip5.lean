/- The cipher: keys as values; derived keys; numbers. -/
import Derived.Test.YtpnfghpcpjpppaaCip4
import Derived.Deep.MidRow
import Derived.Deep.RegionHeld3
namespace Go.Proofs.Ytpnfghpcpjpppaa
open Go.RowKit
set_option linter.unusedVariables false
set_option linter.unusedSimpArgs false

/-- The cells of a key. -/
def keyL (k : List Int) : List Value := k.map (Value.int .u8)
/-- A key as a value. -/
def keyV (k : List Int) : Value := .agg (keyL k).toArray
theorem keyL_len (k : List Int) : (keyL k).length = k.length := by unfold keyL; simp

theorem len16i {k : List Int} (h : k.length = 16) : ∃ a0 a1 a2 a3 a4 a5 a6 a7 a8 a9 a10 a11 a12 a13 a14 a15, k = [a0, a1, a2, a3, a4, a5, a6, a7, a8, a9, a10, a11, a12, a13, a14, a15] := by
  match k, h with
  | [a0, a1, a2, a3, a4, a5, a6, a7, a8, a9, a10, a11, a12, a13, a14, a15], _ => exact ⟨a0, a1, a2, a3, a4, a5, a6, a7, a8, a9, a10, a11, a12, a13, a14, a15, rfl⟩

theorem bytesOf_len (p : Int × Int) : (bytesOf p).length = 16 := by unfold bytesOf; simp
theorem enc_len (k b : List Int) : (enc k b).length = 16 := bytesOf_len _
theorem derive_len (k : List Int) (t n : Int) : (derive k t n).length = 16 := enc_len _ _

theorem Encrypt_any (k b : List Int) (w : World) (hk : k.length = 16) (hb : b.length = 16) :
    Calls Try.prog 58 #[keyV k, keyV b] w fun e w' => e = .returned (keyV (enc k b)) ∧ Below w.heap.size w w' := by
  obtain ⟨a0, a1, a2, a3, a4, a5, a6, a7, a8, a9, a10, a11, a12, a13, a14, a15, rfl⟩ := len16i hk
  obtain ⟨b0, b1, b2, b3, b4, b5, b6, b7, b8, b9, b10, b11, b12, b13, b14, b15, rfl⟩ := len16i hb
  exact Encrypt_lit a0 a1 a2 a3 a4 a5 a6 a7 a8 a9 a10 a11 a12 a13 a14 a15 b0 b1 b2 b3 b4 b5 b6 b7 b8 b9 b10 b11 b12 b13 b14 b15 w _ _ rfl

theorem blockOf_v (tag n : Int) (w : World) (t0 : 0 ≤ tag) (t1 : tag ≤ 255) (n0 : 0 ≤ n) (n1 : n ≤ 18446744073709551615) :
    Calls Try.prog 90 #[.int .u8 tag, .int .u64 0, .int .u64 n] w fun e w' => e = .returned (keyV (blkB tag n)) ∧ Below w.heap.size w w' :=
  blockOf_any tag 0 n w t0 t1 n0 n1

/-- A function whose one result is a row in a cell of its own. -/
theorem results_mid {P : Program} {fn : Func} {p : Tmp} {ty : TypeId} (h : fn.results = #[.cell p ty]) (tmps : Array Value) (w : World) (b : Nat) (cs : List Value) (d : TypeDesc)
    (hp : tmps.getD p undef = .pointer (some ⟨b, 0, none⟩)) (hc : w.rangeAt b 0 cs) (hu : P.underlying ty = some d) (hd : d.isRow = true) (hi : (P.info? ty).map (·.size) = some cs.length) :
    (results fn tmps).run P w = .ok (.agg cs.toArray) w := by
  have hp' : tmps[p]?.getD undef = .pointer (some ⟨b, 0, none⟩) := by simpa using hp
  simp [results, h, hp', asAddr, run_loadVar_mid w b 0 ty cs d hc hu hd hi]

theorem range_new (W : World) (cs : List Value) (T : TypeId) : (W.alloc (.cells cs.toArray T)).rangeAt W.heap.size 0 cs := fun j v hv => by
  simp [go_sem, hv]
theorem rangeAt_below {W w1 : World} {N b o : Nat} {cs : List Value} (h : W.rangeAt b o cs) (hb : Below N W w1) (hN : b < N) : w1.rangeAt b o cs :=
  fun j v hv => (hb.cell (p := ⟨b, o + j, none⟩) hN).trans (h j v hv)
theorem there_below {W w1 : World} {N b o n : Nat} (h : W.there b o n) (hb : Below N W w1) (hN : b < N) : w1.there b o n := fun j hj => by
  have := h j hj
  exact ⟨by rw [hb.cell (p := ⟨b, o + j, none⟩) hN]; exact this.1, by rw [hb.frozen (p := ⟨b, o + j, none⟩) hN]; exact this.2⟩
theorem below_setCells {B : Nat} {a : World} (b : Nat) (hle : B ≤ b) : ∀ (vs : List Value) (o : Nat) (w : World), Below B a w → Below B a (w.setCells b o vs)
  | [], _, _, h => h
  | v :: vs, o, w, h => below_setCells b hle vs (o + 1) (w.setCell ⟨b, o, none⟩ v) (h.setCell (p := ⟨b, o, none⟩) hle v)

theorem infoK : (Try.prog.info? 37).map (·.size) = some 16 := by kernel_rfl
theorem zero16 : (Array.replicate 16 (Value.int .u8 0)) = #[.int .u8 0, .int .u8 0, .int .u8 0, .int .u8 0, .int .u8 0, .int .u8 0, .int .u8 0, .int .u8 0, .int .u8 0, .int .u8 0, .int .u8 0, .int .u8 0, .int .u8 0, .int .u8 0, .int .u8 0, .int .u8 0] := rfl

theorem one8_keyL (k : List Int) : ∀ v ∈ keyL k, v.oneCell' = true := by
  intro v hv
  obtain ⟨a, _, rfl⟩ := List.mem_map.1 hv
  rfl

/-- What holds of the worlds of Derive's region: the key lies in its cell, the result's cell is there. -/
abbrev derS (w : World) (K : List Value) (w' : World) : Prop :=
  w'.rangeAt w.heap.size 0 K ∧ w'.there (w.heap.size + 1) 0 16 ∧ Below w.heap.size w w' ∧ w.heap.size + 1 < w'.heap.size
theorem size_setCells (b : Nat) : ∀ (vs : List Value) (o : Nat) (w : World), (w.setCells b o vs).heap.size = w.heap.size
  | [], _, _ => rfl
  | v :: r, o, w => by rw [World.setCells, size_setCells b r]; simp
theorem there_new (W : World) (n : Nat) (v : Value) (T : TypeId) : (W.alloc (.cells (Array.replicate n v) T)).there W.heap.size 0 n := fun j hj => by
  simp [go_sem, hj]
theorem derS_call {w w' w1 : World} {K : List Value} (h : derS w K w') (hb : Below w'.heap.size w' w1) : derS w K w1 := by
  obtain ⟨h1, h2, h3, h4⟩ := h
  have hs := hb.size
  exact ⟨rangeAt_below h1 hb (by omega), there_below h2 hb (by omega), h3.trans (hb.mono (Nat.le_of_lt (Nat.lt_of_succ_lt h4))), by omega⟩
theorem derS_drew {w w' : World} {K : List Value} (h : derS w K w') : derS w K w'.drew := by
  obtain ⟨h1, h2, h3, h4⟩ := h
  exact ⟨(World.rangeAt_drew _ _ _ _).2 h1, (World.there_drew _ _ _ _).2 h2, h3.drew, h4⟩
theorem derS_store {w w' : World} {K D : List Value} (h : derS w K w') (hl : K.length = 16) (hd : D.length = 16) : derS w K (w'.setCells (w.heap.size + 1) 0 D) := by
  obtain ⟨h1, h2, h3, h4⟩ := h
  refine ⟨World.rangeAt_setCells_apart h1 _ _ _ (.inl (by omega)), World.there_setCells h2 _ _ _, below_setCells _ (by omega) _ _ _ h3, ?_⟩
  rw [size_setCells]; exact h4

set_option maxHeartbeats 2000000 in
set_option maxRecDepth 20000 in
theorem Derive_any (k : List Int) (tag n : Int) (w : World) (hk : k.length = 16) (t0 : 0 ≤ tag) (t1 : tag ≤ 255) (n0 : 0 ≤ n) (n1 : n ≤ 18446744073709551615) :
    Calls Try.prog 59 #[keyV k, .int .u8 tag, .int .u64 n] w fun e w' => e = .returned (keyV (derive k tag n)) ∧ Below w.heap.size w w' := by
  have CB := fun w => blockOf_v tag n w t0 t1 n0 n1
  have CE := fun w => Encrypt_any k (blkB tag n) w hk (bytesOf_len _)
  unfold keyV at CB CE ⊢
  have hd : enc k (blkB tag n) = derive k tag n := rfl
  rw [hd] at CE
  clear hd t0 t1 n0 n1
  have hl := (keyL_len k).trans hk
  have hl2 := (keyL_len (derive k tag n)).trans (derive_len k tag n)
  have h18 := one8_keyL (derive k tag n)
  generalize keyL k = K at *
  generalize keyL (blkB tag n) = Bl at *
  generalize keyL (derive k tag n) = D at *
  have HL := Lib.hid hl
  have HL2 := Lib.hid hl2
  clear hl hl2 hk
  go_enter Try.func59, Try.ntmps59
  go_wp2_with fail
  have hI := infoK
  have hU : Try.prog.underlying 37 = some (.array 16 5) := by kernel_rfl
  have S0 : derS w K ((w.alloc (Obj.cells K.toArray 37)).alloc (Obj.cells (Array.replicate 16 (.int .u8 0)) 37)) := by
    refine ⟨World.rangeAt_alloc (range_new w K _) _, ?_, ((Below.refl _ _).alloc (Nat.le_refl _) _).alloc (by simp [size_alloc]) _, by simp [size_alloc]⟩
    have := there_new (w.alloc (Obj.cells K.toArray 37)) 16 (.int .u8 0) 37
    rwa [size_alloc] at this
  rw [zero16] at S0
  generalize ((w.alloc (Obj.cells K.toArray 37)).alloc _) = W at *
  have HLp : K.length = 16 := HL
  have HL2p : D.length = 16 := HL2
  have hI1 : (Try.prog.info? 37).map (·.size) = some K.length := HLp ▸ hI
  have hI2 : (Try.prog.info? 37).map (·.size) = some D.length := HL2p ▸ hI
  clear HL HL2 hI
  go_region_held3 (fun w' => derS w K w') (first | exact derS_drew S0 | exact hcall | exact derS_store (by assumption) HLp HL2p)
    (first
      | (go_at_call 90; refine (CB _).mono ?_; rintro e w1 ⟨rfl, hb⟩; have hcall := derS_call (by assumption) hb; clear hb)
      | (go_at_call 58; refine (CE _).mono ?_; rintro e w1 ⟨rfl, hb⟩; have hcall := derS_call (by assumption) hb; clear hb))
  rename_i w1 hcall hHeld
  go_wp2_with fail
  refine bodyPost_ret (v := .agg D.toArray) (results_mid Try.results59 _ _ (w.heap.size + 1) D _ rfl (World.rangeAt_setCells_same _ _ _ _ (by rw [HL2p]; exact hcall.2.1)) hU rfl hI2) rfl ⟨rfl, hHeld.2.2.1⟩
end Go.Proofs.Ytpnfghpcpjpppaa
