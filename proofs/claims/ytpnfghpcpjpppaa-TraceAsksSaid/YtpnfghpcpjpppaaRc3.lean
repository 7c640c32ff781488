/- The reference's cipher: round keys, Encrypt. -/
import Derived.Test.YtpnfghpcpjpppaaRc2
namespace Go.Proofs.Ytpnfghpcpjpppaa
open Go.RowKit
set_option linter.unusedVariables false
set_option linter.unusedSimpArgs false

/-- A new block of one element is a row of one's own. -/
theorem own_new (w : World) (v : Value) (e : TypeId) {N : Nat} (hN : N = w.heap.size) (base : Nat) (hb : base ≤ N) : (w.alloc (.cells #[v] e)).ownsRow base e 1 (.slice (some ⟨N, 0, none⟩) 1 1) 1 [v] := by
  subst hN
  exact ⟨rfl, .inr ⟨_, 1, #[v], rfl, hb, World.alloc_heap_new w _, by omega, by unfold maxLen; omega, rfl, rfl⟩⟩

/-- The round keys. -/
def rkeys (p : Int × Int) (n : Nat) : List Int := (List.range n).map fun i => (kst p i).2
theorem rkeys_succ (p : Int × Int) (n : Nat) : rkeys p (n + 1) = rkeys p n ++ [(kst p n).2] := by
  unfold rkeys; rw [List.range_succ, List.map_append]; rfl
theorem rkeys_len (p : Int × Int) (n : Nat) : (rkeys p n).length = n := by unfold rkeys; simp
theorem rkeys_at (p : Int × Int) (n j : Nat) (h : j < n) : (rkeys p n).getD j 0 = (kst p j).2 := by
  unfold rkeys
  simp [List.getD, h]
def u64L (l : List Int) : List Value := l.map (Value.int .u64)

theorem Try.info22 : (Try.prog.info? 22).map (fun i => (i.zero, i.size, i.bytes)) = some (some (.int .u64 0), 1, 8) := by kernel_rfl

theorem rnd_eq (x y k : Int) : bits .xor .u64 (IntKind.u64.wrap (y + w8 x)) k = rndX x y k := by unfold rndX; rw [Int.add_comm]

set_option maxRecDepth 20000 in
set_option maxHeartbeats 2000000 in
theorem rroundKeys_any (k : List Int) (w : World) (hk : k.length = 16) (hb : isBytes k) :
    Calls Try.prog 92 #[keyV k] w fun e w' => ∃ v, e = .returned v ∧ w'.ownsRow w.heap.size 22 1 v 32 (u64L (rkeys (wordsP k) 32)) ∧ Below w.heap.size w w' := by
  have CW := fun w => rwords_any k w hk hb
  have hin : inW (wordsP k).1 ∧ inW (wordsP k).2 := ⟨wpre_in _ _, wpre_in _ _⟩
  have HR := range_new w (keyL k) 37
  have hlk := (keyL_len k).trans hk
  have hI1 : (Try.prog.info? 37).map (·.size) = some (keyL k).length := hlk ▸ infoK
  have hU : Try.prog.underlying 37 = some (.array 16 5) := by kernel_rfl
  unfold keyV at *
  generalize wordsP k = p at *
  obtain ⟨p1, p2⟩ := p
  dsimp only at CW hin
  generalize keyL k = L at *
  obtain ⟨i0, hi, iz0, iz1, iz2⟩ := info_parts Try.info22
  have HIN := Lib.hid hin
  clear hlk hin
  go_enter Try.func92, Try.ntmps92
  go_wp2_with (first
    | (refine wpList_load_mid rfl 37 (.tmp 1) rfl w.heap.size 0 rfl L _ HR hU rfl hI1 ?_)
    | (go_at_call 91; refine (CW _).mono ?_; rintro e w1 ⟨rfl, hb1⟩; have hb0 : Below w.heap.size w w1 := Below.trans (by (repeat' (first | (with_reducible exact Below.refl _ _) | (with_reducible assumption) | (with_reducible refine Below.alloc ?_ ?_ _) | (with_reducible refine Below.drew ?_) | (with_reducible refine below_drewN _ ?_) | (with_reducible refine Below.setCell ?_ ?_ _) | (with_reducible refine Below.frame ?_ _) | go_size | (simp only [size_alloc, size_setCell, size_drew, size_drewN]; omega)))) (hb1.mono (by simp)); have hs1 : w.heap.size + 1 ≤ w1.heap.size := (by have := hb1.size; simpa using this); clear hb1))
  refine wp_world ?_
  intro W2 hW2
  have hb2 : Below w.heap.size w W2 := by rw [← hW2]; exact hb0.alloc (by omega) _
  have hs2 : w1.heap.size < W2.heap.size := by rw [← hW2]; simp
  have ho2 : W2.ownsRow w.heap.size 22 1 (.slice (some ⟨w1.heap.size, 0, none⟩) 1 1) 1 (u64L (rkeys (p1, p2) 1)) := by rw [← hW2]; exact own_new w1 _ _ rfl _ (by omega)
  clear hW2 hb0
  go_loopw [3, 4, 5, 6] (fun l a o i wr => ∃ j : Nat, j ≤ 31 ∧ i = .int .i64 j ∧ l = .int .u64 (kst (p1, p2) j).1 ∧ a = .int .u64 (kst (p1, p2) j).2 ∧ wr.ownsRow w.heap.size 22 1 o (j + 1) (u64L (rkeys (p1, p2) (j + 1))) ∧ Below w.heap.size w wr)
    (fun _ _ _ i _ => 31 - (intOf i).toNat)
  case atStart => exact ⟨0, Nat.zero_le _, rfl, rfl, rfl, ho2, hb2⟩
  case round =>
    obtain ⟨j, hj, rfl, rfl, rfl, hown, hB⟩ := hrel
    clear ho2 hb2 hs2
    by_cases hlt : j < 31
    · have hq := kst_in (p := (p1, p2)) HIN.out j
      have hst := Lib.hid (show kst (p1, p2) (j + 1) = rnd (kst (p1, p2) j) j from rfl)
      have hrk := Lib.hid (rkeys_succ (p1, p2) (j + 1))
      have hsz := hB.size
      generalize rkeys (p1, p2) (j + 1) = R at *
      generalize kst (p1, p2) j = s at *
      obtain ⟨x, y⟩ := s
      dsimp only at hq
      have C1 := fun w => rrotr8 x w hq.1.1 hq.1.2
      have C2 := fun w => rrotl3 y w hq.2.1 hq.2.2
      have hz1 := rnd_eq x y j
      have hxin := rndX_in x y j
      have hyin := rndY_in x y j
      have hre : Hid (rnd (x, y) j = (rndX x y j, rndY x y j)) := rfl
      have hye : bits .xor .u64 (l3 y) (rndX x y j) = rndY x y j := rfl
      have huj : IntKind.u64.wrap (j : Int) = j := by rw [IntKind.wrap_u64]; omega
      generalize w8 x = a at *
      generalize l3 y = b at *
      generalize rndX x y j = X at *
      generalize rndY x y j = Y at *
      have HS := Lib.hid (show kst (p1, p2) (j + 1) = (X, Y) from hst.out.trans hre.out)
      clear hst hre
      go_wp2_with (first
        | (go_at_call 93; refine (C1 _).mono ?_; rintro e w2 ⟨rfl, n1, rfl⟩)
        | (go_at_call 94; refine (C2 _).mono ?_; rintro e w3 ⟨rfl, n2, rfl⟩; have hown2 := ownsRow_below hown (below_drewN (n1 + n2) (Below.refl _ _)); have hB2 := below_drewN (n1 + n2) hB)
        | (at_builtin; refine wpList_append_own _ rfl _ _ 159 rfl w.heap.size 22 i0 (.int .u64 0) 1 8 Try.underlying159 hi iz0 iz1 iz2 rfl (by decide) _ _ _ rfl (hown2.alloc _) ⟨_, 0, none⟩ 1 1 [.int .u64 Y] rfl rfl (cell_one_new _ _ _) (by intro u hu; simp at hu; subst hu; rfl) (by unfold maxLen; omega) (by omega) (by simp [size_drewN]; omega) ?_; intro v' w4 hown4 hgrow4 hnil4))
      go_roundw
      case rel =>
        refine ⟨j + 1, by omega, by go_num, by rw [HS.out], by rw [HS.out], ?_, app_below hB2 hown2 (Nat.le_refl _) (by rw [size_drewN]; exact hsz) hgrow4⟩
        rw [hrk.out, HS.out]
        unfold u64L at hown4 ⊢
        rw [List.map_append]
        exact hown4
      case measure => simp [intOf]; omega
    · obtain rfl : j = 31 := by omega
      go_wp2_with fail
      go_returns
      exact ⟨_, rfl, hown, hB⟩

set_option maxRecDepth 20000 in
set_option maxHeartbeats 4000000 in
theorem rEncrypt_any (k b : List Int) (w : World) (hk : k.length = 16) (hkb : isBytes k) (hl : b.length = 16) (hb : isBytes b) :
    Calls Try.prog 61 #[keyV k, keyV b] w fun e w' => e = .returned (keyV (enc k b)) ∧ Below w.heap.size w w' := by
  have CW := fun w => rwords_any b w hl hb
  have CK := fun w => rroundKeys_any k w hk hkb
  have hinb : inW (wordsP b).1 ∧ inW (wordsP b).2 := ⟨wpre_in _ _, wpre_in _ _⟩
  have hlk := (keyL_len k).trans hk
  have hlb := (keyL_len b).trans hl
  have hI1 : (Try.prog.info? 37).map (·.size) = some (keyL k).length := hlk ▸ infoK
  have hI2 : (Try.prog.info? 37).map (·.size) = some (keyL b).length := hlb ▸ infoK
  have hU : Try.prog.underlying 37 = some (.array 16 5) := by kernel_rfl
  have HE := Lib.hid (show enc k b = bytesOf (est (wordsP b) (wordsP k) 32) from rfl)
  have HKV := fun l => Lib.hid (show keyV l = .agg (keyL l).toArray from rfl)
  have HRk := range_new w (keyL k) 37
  have HRb := range_new (w.alloc (.cells (keyL k).toArray 37)) (keyL b) 37
  rw [size_alloc] at HRb
  unfold keyV at CW CK
  unfold keyV
  generalize wordsP k = kp at *
  generalize wordsP b = bp at *
  generalize keyL k = K at *
  generalize keyL b = L at *
  have HIN := Lib.hid hinb
  clear hlk hlb hinb
  go_enter Try.func61, Try.ntmps61
  go_wp2_with (first
    | (refine wpList_load_mid rfl 37 (.tmp 3) rfl (w.heap.size + 1) 0 rfl L _ (World.rangeAt_alloc HRb _) hU rfl hI2 ?_))
  refine calls_world ?_
  intro W1 hW1
  have hb1 : Below w.heap.size w W1 := by rw [← hW1]; exact (((Below.refl _ _).alloc (Nat.le_refl _) _).alloc (by simp) _).alloc (by rw [size_alloc, size_alloc]; omega) _
  have hs1 : W1.heap.size = w.heap.size + 3 := by rw [← hW1]; simp
  have ht1 : W1.there (w.heap.size + 2) 0 16 := by
    rw [← hW1]
    have := there_new ((w.alloc (.cells K.toArray 37)).alloc (.cells L.toArray 37)) 16 (.int .u8 0) 37
    rwa [size_alloc, size_alloc] at this
  have hr1 : W1.rangeAt w.heap.size 0 K := by rw [← hW1]; exact World.rangeAt_alloc (World.rangeAt_alloc HRk _) _
  clear hW1 HRk HRb
  refine (CW W1).mono ?_
  rintro e W2 ⟨rfl, hb2⟩
  have hs2 := hb2.size
  have hr2 := rangeAt_below hr1 hb2 (by omega)
  have ht2 := there_below ht1 hb2 (by omega)
  have hb12 := hb1.trans (hb2.mono (by omega))
  clear hb1 hb2 hr1 ht1
  go_wp2_with (first
    | (refine wpList_load_mid rfl 37 (.tmp 2) rfl w.heap.size 0 rfl K _ hr2 hU rfl hI1 ?_))
  refine (CK W2).mono ?_
  rintro e W3 ⟨vk, rfl, hok, hb3⟩
  have hs3 := hb3.size
  have ht3 := there_below ht2 hb3 (by omega)
  have hb13 := hb12.trans (hb3.mono (by omega))
  obtain ⟨gk, ck, rfl, hgk, hgk2⟩ := hok.form (by omega)
  have hck : ∀ j, j < 32 → W3.cell? ⟨gk, j, none⟩ = some (.int .u64 (kst kp j).2) := fun j hj => by
    have := hok.cells (g := gk) rfl j (.int .u64 (kst kp j).2) (by unfold u64L rkeys; simp [hj])
    by_cases h0 : j = 0
    · subst h0; simpa [Addr.add] using this
    · simpa [Addr.add, h0] using this
  have HCK := Lib.hid hck
  clear hck hok hr2 hb12 hb3 ht2
  go_wp2_with fail
  go_loopw [5, 6, 8] (fun x y i wr => ∃ j : Nat, j ≤ 32 ∧ i = .int .i64 j ∧ x = .int .u64 (est bp kp j).1 ∧ y = .int .u64 (est bp kp j).2 ∧ Below W3.heap.size W3 wr)
    (fun _ _ i _ => 32 - (intOf i).toNat)
  case atStart => exact ⟨0, Nat.zero_le _, rfl, rfl, rfl, Below.refl _ _⟩
  case round =>
    obtain ⟨j, hj, rfl, rfl, rfl, hB⟩ := hrel
    by_cases hlt : j < 32
    · have hq := est_in (k := kp) HIN.out j
      have hst := Lib.hid (show est bp kp (j + 1) = rnd (est bp kp j) (kst kp j).2 from rfl)
      have hc0 : wr.cell? ⟨gk, j, none⟩ = some (.int .u64 (kst kp j).2) := (hB.cell (p := ⟨gk, j, none⟩) hgk2).trans (HCK.out j hlt)
      generalize est bp kp j = s at *
      obtain ⟨x, y⟩ := s
      dsimp only at hq
      generalize (kst kp j).2 = kk at *
      have C1 := fun w => rrotr8 x w hq.1.1 hq.1.2
      have C2 := fun w => rrotl3 y w hq.2.1 hq.2.2
      have hz1 : bits .xor .u64 (IntKind.u64.wrap (w8 x + y)) kk = rndX x y kk := rfl
      have hre : Hid (rnd (x, y) kk = (rndX x y kk, rndY x y kk)) := rfl
      have hye : bits .xor .u64 (l3 y) (rndX x y kk) = rndY x y kk := rfl
      generalize w8 x = a at *
      generalize l3 y = b2 at *
      generalize rndX x y kk = X at *
      generalize rndY x y kk = Y at *
      have HS := Lib.hid (show est bp kp (j + 1) = (X, Y) from hst.out.trans hre.out)
      have hj0 : (0 : Int) ≤ (j : Int) := by omega
      have hj1 : (j : Int) < 32 := by omega
      clear hst hre
      go_wp2_with fail
      go_quiet ((go_at_call 93; exact quiet_drawn (C1 _)))
      go_wp2_with (first
        | (go_at_call 94; refine (C2 _).mono ?_; rintro e w3 ⟨rfl, n2, rfl⟩))
      go_roundw
      case rel => exact ⟨j + 1, by omega, by go_num, by rw [HS.out], by rw [HS.out], below_drewN _ hB⟩
      case measure => simp [intOf]; omega
    · obtain rfl : j = 32 := by omega
      have hq := est_in (k := kp) HIN.out 32
      generalize est bp kp 32 = s at *
      obtain ⟨x, y⟩ := s
      dsimp only at hq
      have CB := fun w => rblock_any x y w hq.1 hq.2
      have HV := Lib.hid (show keyV (enc k b) = .agg (keyL (bytesOf (x, y))).toArray from by rw [HE.out]; rfl)
      have hob := one8_keyL (bytesOf (x, y))
      have hlb := (keyL_len _).trans (bytesOf_len (x, y))
      unfold keyV at CB
      generalize keyL (bytesOf (x, y)) = M at *
      have hI3 : (Try.prog.info? 37).map (·.size) = some M.length := hlb ▸ infoK
      have hsa : M.toArray.size = 16 := by simp [hlb]
      have hI4 : (Try.prog.info? 37).map (·.size) = some M.toArray.size := hsa ▸ infoK
      have HLB := Lib.hid hlb
      have HSA := Lib.hid hsa
      have hbr := hb13.trans (hB.mono (by omega))
      have htr := there_below ht3 hB (by omega)
      have hsr := hB.size
      clear hlb hsa hB hb13 ht3 HCK
      go_wp2_with fail
      refine (CB wr).mono ?_
      rintro e W5 ⟨rfl, hb5⟩
      have ht5 := there_below htr hb5 (by omega)
      have hbb := hbr.trans (hb5.mono (by omega))
      have ht6 : W5.there (w.heap.size + 2) 0 M.toArray.size := HSA.out ▸ ht5
      have ht7 : W5.there (w.heap.size + 2) 0 M.length := HLB.out ▸ ht5
      go_wp2_with (refine wpList_store_mid rfl 37 (.tmp 4) (.tmp 35) rfl (w.heap.size + 2) 0 M.toArray rfl rfl ht6 hI4 (all_oneCell_toArray hob) ?_)
      refine bodyPost_ret (v := .agg M.toArray) (results_mid Try.results61 _ _ (w.heap.size + 2) M _ rfl (World.rangeAt_setCells_same _ _ _ _ ht7) hU rfl hI3) rfl ⟨congrArg Ending.returned HV.out.symm, below_setCells _ (by omega) _ _ _ hbb⟩
end Go.Proofs.Ytpnfghpcpjpppaa
