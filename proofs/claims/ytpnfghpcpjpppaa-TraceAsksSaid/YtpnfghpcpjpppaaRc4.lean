/- The reference's cipher: blocks of a tag and a number, derived keys, numbers. -/
import Derived.Test.YtpnfghpcpjpppaaRc3
import Derived.Deep.RegionHeld3
namespace Go.Proofs.Ytpnfghpcpjpppaa
open Go.RowKit
set_option linter.unusedVariables false
set_option linter.unusedSimpArgs false

theorem isBytes_bytesOf (p : Int × Int) : isBytes (bytesOf p) := by
  intro x hx
  unfold bytesOf at hx
  rcases List.mem_append.1 hx with hx | hx
  · exact bytes8_is p.1 x hx
  · exact bytes8_is p.2 x hx
theorem isBytes_enc (k b : List Int) : isBytes (enc k b) := isBytes_bytesOf _

/-- The bytes of a tag's word. -/
theorem blkB_eq (tag n : Int) (t0 : 0 ≤ tag) (t1 : tag ≤ 255) : blkB tag n = [tag] ++ List.replicate 7 0 ++ bytes8 n := by
  have ht : tagW tag 0 = tag * 72057594037927936 := by
    unfold tagW
    have h := bits_join .u64 64 (by decide) (fun n h0 h1 => by rw [IntKind.wrap_u64]; omega) 56 (tag * 72057594037927936) 0 (by omega) (by omega) (by omega) (by omega) (by omega) (by omega)
    rw [h, Int.add_zero]
  unfold blkB bytesOf bytes8
  rw [ht]
  congr 1
  simp only [byteOf, List.range_succ, List.range_zero, List.nil_append, List.cons_append, List.map_cons, List.map_nil, List.replicate, List.cons.injEq, and_true]
  rw [show (2 : Int) ^ (56 - 8 * 0) = 72057594037927936 from by decide, show (2 : Int) ^ (56 - 8 * 1) = 281474976710656 from by decide, show (2 : Int) ^ (56 - 8 * 2) = 1099511627776 from by decide, show (2 : Int) ^ (56 - 8 * 3) = 4294967296 from by decide, show (2 : Int) ^ (56 - 8 * 4) = 16777216 from by decide, show (2 : Int) ^ (56 - 8 * 5) = 65536 from by decide, show (2 : Int) ^ (56 - 8 * 6) = 256 from by decide, show (2 : Int) ^ (56 - 8 * 7) = 1 from by decide]
  refine ⟨?_, ?_, ?_, ?_, ?_, ?_, ?_, ?_⟩ <;> omega

set_option maxRecDepth 20000 in
set_option maxHeartbeats 2000000 in
theorem rBlock_any (tag n : Int) (w : World) (t0 : 0 ≤ tag) (t1 : tag ≤ 255) (n0 : 0 ≤ n) (n1 : n ≤ 18446744073709551615) :
    Calls Try.prog 97 #[.int .u8 tag, .int .u64 0, .int .u64 n] w fun e w' => e = .returned (keyV (blkB tag n)) ∧ Below w.heap.size w w' := by
  have CX := fun w => rBytes7 w
  have CY := fun w => rBytes8 n w n0 n1
  have hlen : (blkB tag n).length = 16 := bytesOf_len _
  have CK := fun v w h => rkey_any v (blkB tag n) w h hlen
  have hbo : [Value.int .u8 tag] ++ keyL (List.replicate 7 0) ++ keyL (bytes8 n) = keyL (blkB tag n) := by rw [blkB_eq tag n t0 t1]; unfold keyL; simp
  have hlx : (keyL (List.replicate 7 0)).length = 7 := by decide
  have hly := (keyL_len _).trans (bytes8_len n)
  have hox := one8_keyL (List.replicate 7 0)
  have hoy := one8_keyL (bytes8 n)
  have hob := one8_keyL (blkB tag n)
  have hlb := (keyL_len _).trans hlen
  have HKV := Lib.hid (show keyV (blkB tag n) = .agg (keyL (blkB tag n)).toArray from rfl)
  have HBY := fun (w : World) base v (h : w.ownsRow base 5 1 v (1 + 7 + 8) (keyL (blkB tag n))) => bys_of_owns h hlen
  unfold keyV at CK
  generalize keyL (List.replicate 7 0) = X at *
  generalize keyL (bytes8 n) = Y at *
  generalize keyL (blkB tag n) = L at *
  have HBO := Lib.hid hbo
  have HLX := Lib.hid hlx
  have HLY := Lib.hid hly
  have HOX := Lib.hid hox
  have HOY := Lib.hid hoy
  have hI1 : (Try.prog.info? 37).map (·.size) = some L.length := hlb ▸ infoK
  have hsa : L.toArray.size = 16 := by simp [hlb]
  have hI2 : (Try.prog.info? 37).map (·.size) = some L.toArray.size := hsa ▸ infoK
  have hU : Try.prog.underlying 37 = some (.array 16 5) := by kernel_rfl
  have HLB := Lib.hid hlb
  have HSA := Lib.hid hsa
  obtain ⟨i0, hi, iz0, iz1, iz2⟩ := info_parts Try.info5
  clear hbo hlx hly hox hoy hlb hsa hlen
  go_enter Try.func97, Try.ntmps97
  go_wp2_with fail
  refine calls_world ?_
  intro W1 hW1
  have hb1 : Below w.heap.size w W1 := by rw [← hW1]; exact ((Below.refl _ _).alloc (Nat.le_refl _) _).alloc (by simp) _
  have hs1 : W1.heap.size = w.heap.size + 2 := by rw [← hW1]; simp
  have ht1 : W1.there w.heap.size 0 16 := by rw [← hW1]; exact World.there_alloc (there_new w 16 (.int .u8 0) 37) _
  have ho0 : W1.ownsRow (w.heap.size + 1) 5 1 (.slice (some ⟨w.heap.size + 1, 0, none⟩) 1 1) 1 [.int .u8 tag] := by rw [← hW1]; exact own_new _ _ _ (by simp) _ (Nat.le_refl _)
  clear hW1
  refine (CX W1).mono ?_
  rintro e W2 ⟨v1, rfl, ho1, hb2⟩
  have hs2 := hb2.size
  obtain ⟨g1, c1, rfl, hg1, -⟩ := ho1.form (by omega)
  have ho0' := ownsRow_below ho0 hb2
  have hb12 := hb1.trans (hb2.mono (by omega))
  have ht2 := there_below ht1 hb2 (by omega)
  go_wp2_with (at_builtin; refine wpList_append_own _ rfl _ _ 172 rfl (w.heap.size + 1) 5 i0 (.int .u8 0) 1 1 Try.underlying172 hi iz0 iz1 iz2 rfl (by decide) _ _ _ rfl ho0' ⟨g1, 0, none⟩ 7 c1 X rfl HLX.out (ho1.cells rfl) HOX.out (by unfold maxLen; omega) (by omega) (by omega) ?_; intro v' W3 hown hgrow hnil)
  obtain ⟨g3, c3, rfl, hg3, -⟩ := hown.form (by omega)
  have hb3 : Below w.heap.size w W3 := hb12.grown hgrow (by omega) (fun k hk => by have e : w.heap.size + 1 = k := own_at hk; omega)
  have hs3 := hgrow.size
  have ht3 : W3.there w.heap.size 0 16 := fun j hj => by
    have h := ht2 j hj
    have hbk := hgrow.block w.heap.size (by omega) (fun e => by have e : w.heap.size + 1 = w.heap.size := own_at e.symm; omega)
    exact ⟨by rw [World.cell?_of_block (a := ⟨w.heap.size, 0 + j, none⟩) hbk]; exact h.1, by rw [World.frozen?_of_block hbk]; exact h.2⟩
  refine (CY W3).mono ?_
  rintro e W4 ⟨v2, rfl, ho2, hb4⟩
  have hs4 := hb4.size
  obtain ⟨g2, c2, rfl, hg2, -⟩ := ho2.form (by omega)
  have hown' := ownsRow_below hown hb4
  have hb34 := hb3.trans (hb4.mono (by omega))
  have ht4 := there_below ht3 hb4 (by omega)
  go_wp2_with (at_builtin; refine wpList_append_own _ rfl _ _ 172 rfl (w.heap.size + 1) 5 i0 (.int .u8 0) 1 1 Try.underlying172 hi iz0 iz1 iz2 rfl (by decide) _ _ _ rfl hown' ⟨g2, 0, none⟩ 8 c2 Y rfl HLY.out (ho2.cells rfl) HOY.out (by unfold maxLen; omega) (by omega) (by omega) ?_; intro v' W5 hown5 hgrow5 hnil5)
  rw [HBO.out] at hown5
  obtain ⟨g5, c5, rfl, hg5, -⟩ := hown5.form (by omega)
  have hb5 : Below w.heap.size w W5 := hb34.grown hgrow5 (by omega) (fun k hk => by have e : g3 = k := own_at hk; omega)
  have hs5 := hgrow5.size
  have ht5 : W5.there w.heap.size 0 16 := fun j hj => by
    have h := ht4 j hj
    have hbk := hgrow5.block w.heap.size (by omega) (fun e => by have e : g3 = w.heap.size := own_at e.symm; omega)
    exact ⟨by rw [World.cell?_of_block (a := ⟨w.heap.size, 0 + j, none⟩) hbk]; exact h.1, by rw [World.frozen?_of_block hbk]; exact h.2⟩
  refine (CK _ W5 (HBY _ _ _ hown5)).mono ?_
  rintro e W6 ⟨rfl, hb6⟩
  have ht6 := there_below ht5 hb6 (by omega)
  have hbb := hb5.trans (hb6.mono (by omega))
  have ht7 : W6.there w.heap.size 0 L.toArray.size := HSA.out ▸ ht6
  have ht8 : W6.there w.heap.size 0 L.length := HLB.out ▸ ht6
  go_wp2_with (refine wpList_store_mid rfl 37 (.tmp 6) (.tmp 17) rfl w.heap.size 0 L.toArray rfl rfl ht7 hI2 (all_oneCell_toArray hob) ?_)
  refine bodyPost_ret (v := .agg L.toArray) (results_mid Try.results97 _ _ w.heap.size L _ rfl (World.rangeAt_setCells_same _ _ _ _ ht8) hU rfl hI1) rfl ⟨congrArg Ending.returned HKV.out.symm, below_setCells _ (Nat.le_refl _) _ _ _ hbb⟩

set_option maxHeartbeats 2000000 in
set_option maxRecDepth 20000 in
theorem rDerive_any (k : List Int) (tag n : Int) (w : World) (hk : k.length = 16) (hkb : isBytes k) (t0 : 0 ≤ tag) (t1 : tag ≤ 255) (n0 : 0 ≤ n) (n1 : n ≤ 18446744073709551615) :
    Calls Try.prog 63 #[keyV k, .int .u8 tag, .int .u64 n] w fun e w' => e = .returned (keyV (derive k tag n)) ∧ Below w.heap.size w w' := by
  have CB := fun w => rBlock_any tag n w t0 t1 n0 n1
  have CE := fun w => rEncrypt_any k (blkB tag n) w hk hkb (bytesOf_len _) (isBytes_bytesOf _)
  unfold keyV at CB CE ⊢
  have hd : enc k (blkB tag n) = derive k tag n := rfl
  rw [hd] at CE
  clear hd t0 t1 n0 n1
  have hl := (keyL_len k).trans hk
  have hl2 := (keyL_len (derive k tag n)).trans (derive_len k tag n)
  have h18 := one8_keyL (derive k tag n)
  generalize keyL k = K at *
  generalize keyL (blkB tag n) = Bl at *
  generalize keyL (derive k tag n) = D at *
  have HL := Lib.hid hl
  have HL2 := Lib.hid hl2
  clear hl hl2 hk
  go_enter Try.func63, Try.ntmps63
  go_wp2_with fail
  have hI := infoK
  have hU : Try.prog.underlying 37 = some (.array 16 5) := by kernel_rfl
  have S0 : derS w K ((w.alloc (Obj.cells K.toArray 37)).alloc (Obj.cells (Array.replicate 16 (.int .u8 0)) 37)) := by
    refine ⟨World.rangeAt_alloc (range_new w K _) _, ?_, ((Below.refl _ _).alloc (Nat.le_refl _) _).alloc (by simp [size_alloc]) _, by simp [size_alloc]⟩
    have := there_new (w.alloc (Obj.cells K.toArray 37)) 16 (.int .u8 0) 37
    rwa [size_alloc] at this
  rw [zero16] at S0
  generalize ((w.alloc (Obj.cells K.toArray 37)).alloc _) = W at *
  have HLp : K.length = 16 := HL
  have HL2p : D.length = 16 := HL2
  have hI1 : (Try.prog.info? 37).map (·.size) = some K.length := HLp ▸ hI
  have hI2 : (Try.prog.info? 37).map (·.size) = some D.length := HL2p ▸ hI
  clear HL HL2 hI
  go_region_held3 (fun w' => derS w K w') (first | exact derS_drew S0 | exact hcall | exact derS_store (by assumption) HLp HL2p)
    (first
      | (go_at_call 97; refine (CB _).mono ?_; rintro e w1 ⟨rfl, hb⟩; have hcall := derS_call (by assumption) hb; clear hb)
      | (go_at_call 61; refine (CE _).mono ?_; rintro e w1 ⟨rfl, hb⟩; have hcall := derS_call (by assumption) hb; clear hb))
  rename_i w1 hcall hHeld
  go_wp2_with fail
  refine bodyPost_ret (v := .agg D.toArray) (results_mid Try.results63 _ _ (w.heap.size + 1) D _ rfl (World.rangeAt_setCells_same _ _ _ _ (by rw [HL2p]; exact hcall.2.1)) hU rfl hI2) rfl ⟨rfl, hHeld.2.2.1⟩

set_option maxRecDepth 20000 in
set_option maxHeartbeats 2000000 in
theorem rNumber_any (k : List Int) (n most : Int) (w : World) (hk : k.length = 16) (hkb : isBytes k) (n0 : 0 ≤ n) (n1 : n ≤ 18446744073709551615) (m0 : 1 ≤ most) (m1 : most ≤ 18446744073709551615) :
    Calls Try.prog 76 #[keyV k, .int .u64 n, .int .u64 most] w fun e w' => e = .returned (.int .u64 (numberV k n most)) ∧ Below w.heap.size w w' := by
  have CD := fun w => rDerive_any k 3 n w hk hkb (by omega) (by omega) n0 n1
  have hD := derive_len k 3 n
  have hDb : isBytes (derive k 3 n) := isBytes_enc _ _
  have CV := fun v w h => Value_any v ((derive k 3 n).take 8) w h (isBytes_take hDb 8)
  have hval : valL ((derive k 3 n).take 8) = (wordsP (derive k 3 n)).1 := valL_wpre _ (isBytes_take hDb 8) (by simp [hD])
  rw [hval] at CV
  have hw : inW (wordsP (derive k 3 n)).1 := wpre_in _ _
  have HB := Lib.hid (fun (W : World) (N : Nat) (h : W.rangeAt N 0 (keyL (derive k 3 n))) => (bys_half hD h).1)
  have HNV := Lib.hid (show numberV k n most = (wordsP (derive k 3 n)).1 % most from rfl)
  have hl2 := (keyL_len (derive k 3 n)).trans hD
  have h18 := one8_keyL (derive k 3 n)
  clear hval hDb
  generalize (wordsP (derive k 3 n)).1 = x at *
  unfold inW at hw
  have hb2 : 0 ≤ x % most := Int.emod_nonneg _ (by omega)
  have hb3 : x % most < most := Int.emod_lt_of_pos _ (by omega)
  have htm : Int.tmod x most = x % most := Int.tmod_eq_emod_of_nonneg (by omega)
  generalize x % most = r at *
  have hne : (most == 0) = false := by simp; omega
  have hne2 : most ≠ 0 := by omega
  have hwr : IntKind.u64.wrap r = r := by rw [IntKind.wrap_u64]; omega
  unfold keyV at CD ⊢
  have hlk := (keyL_len k).trans hk
  have HR := range_new w (keyL k) 37
  generalize (derive k 3 n).take 8 = D8 at *
  generalize keyL (derive k 3 n) = L at *
  generalize keyL k = K at *
  have hI := infoK
  have hI1 : (Try.prog.info? 37).map (·.size) = some K.length := hlk ▸ hI
  have hI2 : (Try.prog.info? 37).map (·.size) = some L.length := hl2 ▸ hI
  have hsa : L.toArray.size = 16 := by simp [hl2]
  have hI3 : (Try.prog.info? 37).map (·.size) = some L.toArray.size := hsa ▸ hI
  have hU : Try.prog.underlying 37 = some (.array 16 5) := by kernel_rfl
  have HSA := Lib.hid hsa
  have HLA := Lib.hid hl2
  clear hsa hlk hl2 hI
  go_enter Try.func76, Try.ntmps76
  go_wp2_with (first
    | (refine wpList_load_mid rfl 37 (.tmp 3) rfl w.heap.size 0 rfl K _ HR hU rfl hI1 ?_)
    | (go_at_call 63; refine (CD _).mono ?_; rintro e w1 ⟨rfl, hb⟩; have hb0 : Below w.heap.size w w1 := Below.trans ((Below.refl _ _).alloc (Nat.le_refl _) _) (hb.mono (by simp)); clear hb; have htn : (w1.alloc (.cells #[.int .u8 0, .int .u8 0, .int .u8 0, .int .u8 0, .int .u8 0, .int .u8 0, .int .u8 0, .int .u8 0, .int .u8 0, .int .u8 0, .int .u8 0, .int .u8 0, .int .u8 0, .int .u8 0, .int .u8 0, .int .u8 0] 37)).there w1.heap.size 0 L.toArray.size := HSA.out ▸ there_new w1 16 (.int .u8 0) 37)
    | (refine wpList_store_mid rfl 37 (.tmp 7) (.tmp 12) rfl w1.heap.size 0 L.toArray rfl rfl htn hI3 (all_oneCell_toArray h18) ?_))
  refine calls_world ?_
  intro W3 hW3
  have hb3 : Below w.heap.size w W3 := by rw [← hW3]; exact below_setCells _ hb0.size _ _ _ (hb0.alloc hb0.size _)
  have hr3 : W3.rangeAt w1.heap.size 0 L := by
    rw [← hW3]
    exact World.rangeAt_setCells_same _ _ _ _ (by rw [HLA.out]; rw [HSA.out] at htn; exact htn)
  clear hW3
  refine (CV _ W3 (HB.out W3 _ hr3)).mono ?_
  rintro e W4 ⟨rfl, rfl⟩
  go_wp2_with fail
  go_returns
  exact ⟨by rw [HNV.out]; rfl, hb3⟩
end Go.Proofs.Ytpnfghpcpjpppaa
