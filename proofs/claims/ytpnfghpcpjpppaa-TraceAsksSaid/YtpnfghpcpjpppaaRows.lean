/-
  No cell of these rows narrows 'for every input' (looked for: loops, veiled, ifaces, maps, wideKeys, modest, calm, conditions, laid).
  DERIVED. THE GIVEN ROWS OF THIS SEAT. 4 by the template 'for every input the law returns true; each argument reads behind the call as it read before'; 0 by the template 'total and deterministic' (their statements: YtpnfghpcpjpppaaTotals.lean).
  GIVEN WITH THE SEED: the statements are not yours to turn. If you find one false, say at which input.
  Laid BY PROGRAM, IN A SANDBOX (cutbox-rows.mjs): the forced cells as the released guide's own fill.sh prints them over the translation 94ebf2981a7a2737… (all of the seat's roots in one cut). By AI agents, Wed Nov 11 2026. No macro, syntax, notation, axiom, sorry.
-/
import Derived.Test.YtpnfghpcpjpppaaChecked
import GoSem.Claim
import GoSem.ClaimJoined
import GoSem.ClaimMapViews
import Derived.JoinedTies
import Derived.KernelRfl
namespace Go.Proofs.Ytpnfghpcpjpppaa
/- THE CELL 'sum', in the pinned program and in every row, IS THE sha256 OF THE DUMP (.gsa) THAT YtpnfghpcpjpppaaProg.lean LOADS. Nothing in Lean hashes anything: it is a label: what it is worth is what the hold of that sum in a sandbox is worth. -/
noncomputable def Try.pinned : Pinned := { name := "ytpnfghpcpjpppaa", sum := "94ebf2981a7a2737ca0579c6f025f47a538b271979d256949a4c3758c11f41bd", checked := Try.checked }
namespace Rows
def none {H : Type} : Left H := { results := [], args := [] }

/-- 'headendlaw08.TraceCounts': WHATEVER THE INPUT: true; the input reads as it did. -/
def traceCountsSpec : ChangeSpec := { name := "traceCounts", fn := fun _ => fun
  | [d1, d2, d3, d4] => { results := [.lit (.bool true)], args := [d1, d2, d3, d4] }
  | _ => none }
def traceCountsRow : OpenClaim := { program := "ytpnfghpcpjpppaa", sum := "94ebf2981a7a2737ca0579c6f025f47a538b271979d256949a4c3758c11f41bd", func := "headend/headendlaw08.TraceCounts", spec := "traceCounts", apart := false }
def TraceCountsSaid : Prop := traceCountsRow.holds Try.pinned (OpenSpec.ofChange traceCountsSpec)

/-- ITS FALSE NEIGHBOUR: 'it returns false'. Refute it at one input. -/
def traceCountsWrong : ChangeSpec := { name := "traceCounts", fn := fun _ => fun
  | [d1, d2, d3, d4] => { results := [.lit (.bool false)], args := [d1, d2, d3, d4] }
  | _ => none }
def TraceCountsWrongFalsely : Prop := traceCountsRow.holds Try.pinned (OpenSpec.ofChange traceCountsWrong)

/-- 'headendlaw08.TraceAsks': WHATEVER THE INPUT: true; the input reads as it did. -/
def traceAsksSpec : ChangeSpec := { name := "traceAsks", fn := fun _ => fun
  | [d1, d2, d3] => { results := [.lit (.bool true)], args := [d1, d2, d3] }
  | _ => none }
def traceAsksRow : OpenClaim := { program := "ytpnfghpcpjpppaa", sum := "94ebf2981a7a2737ca0579c6f025f47a538b271979d256949a4c3758c11f41bd", func := "headend/headendlaw08.TraceAsks", spec := "traceAsks", unfollowed := true, recurses := true, apart := false }
def TraceAsksSaid : Prop := traceAsksRow.holds Try.pinned (OpenSpec.ofChange traceAsksSpec)

/-- ITS FALSE NEIGHBOUR: 'it returns false'. Refute it at one input. -/
def traceAsksWrong : ChangeSpec := { name := "traceAsks", fn := fun _ => fun
  | [d1, d2, d3] => { results := [.lit (.bool false)], args := [d1, d2, d3] }
  | _ => none }
def TraceAsksWrongFalsely : Prop := traceAsksRow.holds Try.pinned (OpenSpec.ofChange traceAsksWrong)

/-- 'headendlaw08.TraceHunts': WHATEVER THE INPUT: true; the input reads as it did. -/
def traceHuntsSpec : ChangeSpec := { name := "traceHunts", fn := fun _ => fun
  | [d1, d2, d3] => { results := [.lit (.bool true)], args := [d1, d2, d3] }
  | _ => none }
def traceHuntsRow : OpenClaim := { program := "ytpnfghpcpjpppaa", sum := "94ebf2981a7a2737ca0579c6f025f47a538b271979d256949a4c3758c11f41bd", func := "headend/headendlaw08.TraceHunts", spec := "traceHunts", unfollowed := true, recurses := true, apart := false }
def TraceHuntsSaid : Prop := traceHuntsRow.holds Try.pinned (OpenSpec.ofChange traceHuntsSpec)

/-- ITS FALSE NEIGHBOUR: 'it returns false'. Refute it at one input. -/
def traceHuntsWrong : ChangeSpec := { name := "traceHunts", fn := fun _ => fun
  | [d1, d2, d3] => { results := [.lit (.bool false)], args := [d1, d2, d3] }
  | _ => none }
def TraceHuntsWrongFalsely : Prop := traceHuntsRow.holds Try.pinned (OpenSpec.ofChange traceHuntsWrong)

/-- 'headendlaw08.TraceParts': WHATEVER THE INPUT: true; the input reads as it did. -/
def tracePartsSpec : ChangeSpec := { name := "traceParts", fn := fun _ => fun
  | [d1, d2, d3, d4, d5] => { results := [.lit (.bool true)], args := [d1, d2, d3, d4, d5] }
  | _ => none }
def tracePartsRow : OpenClaim := { program := "ytpnfghpcpjpppaa", sum := "94ebf2981a7a2737ca0579c6f025f47a538b271979d256949a4c3758c11f41bd", func := "headend/headendlaw08.TraceParts", spec := "traceParts", unfollowed := true, recurses := true, apart := false }
def TracePartsSaid : Prop := tracePartsRow.holds Try.pinned (OpenSpec.ofChange tracePartsSpec)

/-- ITS FALSE NEIGHBOUR: 'it returns false'. Refute it at one input. -/
def tracePartsWrong : ChangeSpec := { name := "traceParts", fn := fun _ => fun
  | [d1, d2, d3, d4, d5] => { results := [.lit (.bool false)], args := [d1, d2, d3, d4, d5] }
  | _ => none }
def TracePartsWrongFalsely : Prop := tracePartsRow.holds Try.pinned (OpenSpec.ofChange tracePartsWrong)

/- THE SECOND FORM. 'bulk': how many values and letters a reading holds, each counted each time it is reached (what is shared counts as often as it is met; a slice's spare places count too). A statement '..UptoSaid' is the law's where the arguments, and the package variables that the reading takes, are together of bulk at most 1048576: NARROWER than '..Said'. Prove '..Said' where nothing that the law and all that it calls make is longer than what came in: it says more and counts as full. Else prove '..UptoSaid'. A law counts once. -/
mutual
def uptoBulk {H : Type} : DataW H → Nat
  | .lit (.string bytes) => bytes.length + 1
  | .lit _ => 1
  | .nil => 1
  | .ptr d => uptoBulk d + 1
  | .slice elems spare => uptoBulkAll elems + uptoBulkAll spare + 1
  | .agg parts => uptoBulkAll parts + 1
  | .iface _ d => uptoBulk d + 1
  | .map entries => uptoBulkEntries entries + 1
  | .held _ => 1
def uptoBulkAll {H : Type} : List (DataW H) → Nat
  | [] => 0
  | d :: r => uptoBulk d + uptoBulkAll r
def uptoBulkEntries {H : Type} : List (Lit × DataW H) → Nat
  | [] => 0
  | x :: r => uptoBulkEntry x + uptoBulkEntries r
def uptoBulkEntry {H : Type} : Lit × DataW H → Nat
  | (.string bytes, d) => bytes.length + uptoBulk d + 1
  | (_, d) => uptoBulk d + 1
 end
def uptoSmall : (H : Type) → List (DataW H) → Bool := fun _ ds => decide (uptoBulkAll ds ≤ 1048576)
def OpenSpec.upto (s : _root_.Go.ChangeSpec) : _root_.Go.OpenSpec := { _root_.Go.OpenSpec.ofChange s with cond := some uptoSmall }

/-- 'headendlaw08.TraceCounts', WHERE WHAT IT READS IS OF BULK AT MOST 1048576: true; the input reads as it did. -/
def traceCountsUptoRow : OpenClaim := { program := "ytpnfghpcpjpppaa", sum := "94ebf2981a7a2737ca0579c6f025f47a538b271979d256949a4c3758c11f41bd", func := "headend/headendlaw08.TraceCounts", spec := "traceCounts", apart := false, narrowed := true }
def TraceCountsUptoSaid : Prop := traceCountsUptoRow.holds Try.pinned (OpenSpec.upto traceCountsSpec)

/-- 'headendlaw08.TraceAsks', WHERE WHAT IT READS IS OF BULK AT MOST 1048576: true; the input reads as it did. -/
def traceAsksUptoRow : OpenClaim := { program := "ytpnfghpcpjpppaa", sum := "94ebf2981a7a2737ca0579c6f025f47a538b271979d256949a4c3758c11f41bd", func := "headend/headendlaw08.TraceAsks", spec := "traceAsks", unfollowed := true, recurses := true, apart := false, narrowed := true }
def TraceAsksUptoSaid : Prop := traceAsksUptoRow.holds Try.pinned (OpenSpec.upto traceAsksSpec)

/-- 'headendlaw08.TraceHunts', WHERE WHAT IT READS IS OF BULK AT MOST 1048576: true; the input reads as it did. -/
def traceHuntsUptoRow : OpenClaim := { program := "ytpnfghpcpjpppaa", sum := "94ebf2981a7a2737ca0579c6f025f47a538b271979d256949a4c3758c11f41bd", func := "headend/headendlaw08.TraceHunts", spec := "traceHunts", unfollowed := true, recurses := true, apart := false, narrowed := true }
def TraceHuntsUptoSaid : Prop := traceHuntsUptoRow.holds Try.pinned (OpenSpec.upto traceHuntsSpec)

/-- 'headendlaw08.TraceParts', WHERE WHAT IT READS IS OF BULK AT MOST 1048576: true; the input reads as it did. -/
def tracePartsUptoRow : OpenClaim := { program := "ytpnfghpcpjpppaa", sum := "94ebf2981a7a2737ca0579c6f025f47a538b271979d256949a4c3758c11f41bd", func := "headend/headendlaw08.TraceParts", spec := "traceParts", unfollowed := true, recurses := true, apart := false, narrowed := true }
def TracePartsUptoSaid : Prop := tracePartsUptoRow.holds Try.pinned (OpenSpec.upto tracePartsSpec)

end Rows
end Go.Proofs.Ytpnfghpcpjpppaa
