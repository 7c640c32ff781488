/- Two keys are compared. -/
import Derived.Test.YtpnfghpcpjpppaaCip5
import Derived.ChangeKeysEq
namespace Go.Proofs.Ytpnfghpcpjpppaa
open Go.RowKit
set_option linter.unusedVariables false
set_option linter.unusedSimpArgs false

theorem keyL_get (k : List Int) {i : Nat} (h : i < k.length) : (keyL k).toArray[i]? = some (.int .u8 (k.getD i 0)) := by
  simp [keyL, List.getElem?_eq_getElem h, List.getD, h]
theorem eqItems_bytes (xs ys : List Int) (hx : xs.length = 16) (hy : ys.length = 16) (w : World) : ∀ is : List Nat, (∀ i ∈ is, i < 16) →
    (Op.eqItems 9999 5 1 (keyL xs).toArray (keyL ys).toArray is).run Try.prog w = .ok (is.all fun i => xs.getD i 0 == ys.getD i 0) w
  | [], _ => by simp [Op.eqItems]
  | i :: is, h => by
    have hi := h i (List.mem_cons_self ..)
    have p1 := run_part_plain (P := Try.prog) w (e := 5) (by kernel_rfl) (keyL_get xs (i := i) (by omega))
    have p2 := run_part_plain (P := Try.prog) w (e := 5) (by kernel_rfl) (keyL_get ys (i := i) (by omega))
    have p3 := run_equalIn_int (P := Try.prog) w 9998 5 .u8 .u8 (xs.getD i 0) (ys.getD i 0) Try.underlying5
    have ih := eqItems_bytes xs ys hx hy w is (fun j hj => h j (List.mem_cons_of_mem _ hj))
    simp only [Op.eqItems, Sem.run_bind, Nat.mul_one, p1, p2, p3, Result.andThen_ok, List.all_cons]
    cases xs.getD i 0 == ys.getD i 0 with
    | false => simp
    | true => simpa using ih
theorem infoKey : ∃ i, Try.prog.info? 5 = some i := Option.isSome_iff_exists.1 (by kernel_rfl)
theorem run_eqKey (xs ys : List Int) (hx : xs.length = 16) (hy : ys.length = 16) (w : World) : (Op.equalIn 10000 37 (keyV xs) (keyV ys)).run Try.prog w = .ok (decide (xs = ys)) w := by
  have hi := infoKey
  obtain ⟨i, hi⟩ := hi
  unfold keyV
  rw [run_equalIn_array (P := Try.prog) w 9999 _ _ Try.underlying37 hi, show Try.prog.cellsOf 5 = 1 from by kernel_rfl, eqItems_bytes xs ys hx hy w _ (fun i hi => List.mem_range.1 hi)]
  refine congrArg (fun b => Result.ok b w) ?_
  rw [Bool.eq_iff_iff, List.all_eq_true, decide_eq_true_iff]
  constructor
  · intro h
    apply List.ext_getElem (by omega)
    intro j h1 h2
    have := h j (List.mem_range.2 (by omega))
    simpa [List.getD, h1, h2] using this
  · rintro rfl j _
    simp
end Go.Proofs.Ytpnfghpcpjpppaa
