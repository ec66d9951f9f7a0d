/-
  No cell of these rows narrows 'for every input' (looked for: loops, veiled, ifaces, maps, wideKeys, modest, calm, conditions, laid).
  DERIVED. THE GIVEN ROWS OF THIS SEAT. 6 by the template 'for every input the law returns true; each argument reads behind the call as it read before'; 0 by the template 'total and deterministic' (their statements: YtbbgojaloebknaaTotals.lean).
  GIVEN WITH THE SEED: the statements are not yours to turn. If you find one false, say at which input.
  Laid BY PROGRAM, IN A SANDBOX (cutbox-rows.mjs): the forced cells as the released guide's own fill.sh prints them over the translation 1e66d5db3ae69901… (all of the seat's roots in one cut). By AI agents, Wed Nov 11 2026. No macro, syntax, notation, axiom, sorry.
-/
import Derived.Test.YtbbgojaloebknaaChecked
import GoSem.Claim
import GoSem.ClaimJoined
import GoSem.ClaimMapViews
import Derived.JoinedTies
import Derived.KernelRfl
namespace Go.Proofs.Ytbbgojaloebknaa
/- THE CELL 'sum', in the pinned program and in every row, IS THE sha256 OF THE DUMP (.gsa) THAT YtbbgojaloebknaaProg.lean LOADS. Nothing in Lean hashes anything: it is a label: what it is worth is what the hold of that sum in a sandbox is worth. -/
noncomputable def Try.pinned : Pinned := { name := "ytbbgojaloebknaa", sum := "1e66d5db3ae69901414e47566636c43cab88b0df5ae13e13897b51029edbc9a1", checked := Try.checked }
namespace Rows
def none {H : Type} : Left H := { results := [], args := [] }

/-- 'laws.FnExactPivotIn': WHATEVER THE INPUT: true; the input reads as it did. -/
def fnExactPivotInSpec : ChangeSpec := { name := "fnExactPivotIn", fn := fun _ => fun
  | [d1, d2, d3] => { results := [.lit (.bool true)], args := [d1, d2, d3] }
  | _ => none }
def fnExactPivotInRow : OpenClaim := { program := "ytbbgojaloebknaa", sum := "1e66d5db3ae69901414e47566636c43cab88b0df5ae13e13897b51029edbc9a1", func := "loop.example/charterrules/laws.FnExactPivotIn", spec := "fnExactPivotIn", recurses := true, apart := false }
def FnExactPivotInSaid : Prop := fnExactPivotInRow.holds Try.pinned (OpenSpec.ofChange fnExactPivotInSpec)

/-- ITS FALSE NEIGHBOUR: 'it returns false'. Refute it at one input. -/
def fnExactPivotInWrong : ChangeSpec := { name := "fnExactPivotIn", fn := fun _ => fun
  | [d1, d2, d3] => { results := [.lit (.bool false)], args := [d1, d2, d3] }
  | _ => none }
def FnExactPivotInWrongFalsely : Prop := fnExactPivotInRow.holds Try.pinned (OpenSpec.ofChange fnExactPivotInWrong)

/-- 'laws.FnSwingsOf': WHATEVER THE INPUT: true; the input reads as it did. -/
def fnSwingsOfSpec : ChangeSpec := { name := "fnSwingsOf", fn := fun _ => fun
  | [d] => { results := [.lit (.bool true)], args := [d] }
  | _ => none }
def fnSwingsOfRow : OpenClaim := { program := "ytbbgojaloebknaa", sum := "1e66d5db3ae69901414e47566636c43cab88b0df5ae13e13897b51029edbc9a1", func := "loop.example/charterrules/laws.FnSwingsOf", spec := "fnSwingsOf", recurses := true, apart := false }
def FnSwingsOfSaid : Prop := fnSwingsOfRow.holds Try.pinned (OpenSpec.ofChange fnSwingsOfSpec)

/-- ITS FALSE NEIGHBOUR: 'it returns false'. Refute it at one input. -/
def fnSwingsOfWrong : ChangeSpec := { name := "fnSwingsOf", fn := fun _ => fun
  | [d] => { results := [.lit (.bool false)], args := [d] }
  | _ => none }
def FnSwingsOfWrongFalsely : Prop := fnSwingsOfRow.holds Try.pinned (OpenSpec.ofChange fnSwingsOfWrong)

/-- 'laws.FnExactPivotsOf': WHATEVER THE INPUT: true; the input reads as it did. -/
def fnExactPivotsOfSpec : ChangeSpec := { name := "fnExactPivotsOf", fn := fun _ => fun
  | [d1, d2, d3] => { results := [.lit (.bool true)], args := [d1, d2, d3] }
  | _ => none }
def fnExactPivotsOfRow : OpenClaim := { program := "ytbbgojaloebknaa", sum := "1e66d5db3ae69901414e47566636c43cab88b0df5ae13e13897b51029edbc9a1", func := "loop.example/charterrules/laws.FnExactPivotsOf", spec := "fnExactPivotsOf", recurses := true, apart := false }
def FnExactPivotsOfSaid : Prop := fnExactPivotsOfRow.holds Try.pinned (OpenSpec.ofChange fnExactPivotsOfSpec)

/-- ITS FALSE NEIGHBOUR: 'it returns false'. Refute it at one input. -/
def fnExactPivotsOfWrong : ChangeSpec := { name := "fnExactPivotsOf", fn := fun _ => fun
  | [d1, d2, d3] => { results := [.lit (.bool false)], args := [d1, d2, d3] }
  | _ => none }
def FnExactPivotsOfWrongFalsely : Prop := fnExactPivotsOfRow.holds Try.pinned (OpenSpec.ofChange fnExactPivotsOfWrong)

/-- 'laws.FnPivotIn': WHATEVER THE INPUT: true; the input reads as it did. -/
def fnPivotInSpec : ChangeSpec := { name := "fnPivotIn", fn := fun _ => fun
  | [d] => { results := [.lit (.bool true)], args := [d] }
  | _ => none }
def fnPivotInRow : OpenClaim := { program := "ytbbgojaloebknaa", sum := "1e66d5db3ae69901414e47566636c43cab88b0df5ae13e13897b51029edbc9a1", func := "loop.example/charterrules/laws.FnPivotIn", spec := "fnPivotIn", recurses := true, apart := false }
def FnPivotInSaid : Prop := fnPivotInRow.holds Try.pinned (OpenSpec.ofChange fnPivotInSpec)

/-- ITS FALSE NEIGHBOUR: 'it returns false'. Refute it at one input. -/
def fnPivotInWrong : ChangeSpec := { name := "fnPivotIn", fn := fun _ => fun
  | [d] => { results := [.lit (.bool false)], args := [d] }
  | _ => none }
def FnPivotInWrongFalsely : Prop := fnPivotInRow.holds Try.pinned (OpenSpec.ofChange fnPivotInWrong)

/-- 'laws.FnPivotsOf': WHATEVER THE INPUT: true; the input reads as it did. -/
def fnPivotsOfSpec : ChangeSpec := { name := "fnPivotsOf", fn := fun _ => fun
  | [d] => { results := [.lit (.bool true)], args := [d] }
  | _ => none }
def fnPivotsOfRow : OpenClaim := { program := "ytbbgojaloebknaa", sum := "1e66d5db3ae69901414e47566636c43cab88b0df5ae13e13897b51029edbc9a1", func := "loop.example/charterrules/laws.FnPivotsOf", spec := "fnPivotsOf", recurses := true, apart := false }
def FnPivotsOfSaid : Prop := fnPivotsOfRow.holds Try.pinned (OpenSpec.ofChange fnPivotsOfSpec)

/-- ITS FALSE NEIGHBOUR: 'it returns false'. Refute it at one input. -/
def fnPivotsOfWrong : ChangeSpec := { name := "fnPivotsOf", fn := fun _ => fun
  | [d] => { results := [.lit (.bool false)], args := [d] }
  | _ => none }
def FnPivotsOfWrongFalsely : Prop := fnPivotsOfRow.holds Try.pinned (OpenSpec.ofChange fnPivotsOfWrong)

/-- 'laws.FnStrongerOk': WHATEVER THE INPUT: true; the input reads as it did. -/
def fnStrongerOkSpec : ChangeSpec := { name := "fnStrongerOk", fn := fun _ => fun
  | [d] => { results := [.lit (.bool true)], args := [d] }
  | _ => none }
def fnStrongerOkRow : OpenClaim := { program := "ytbbgojaloebknaa", sum := "1e66d5db3ae69901414e47566636c43cab88b0df5ae13e13897b51029edbc9a1", func := "loop.example/charterrules/laws.FnStrongerOk", spec := "fnStrongerOk", recurses := true, apart := false }
def FnStrongerOkSaid : Prop := fnStrongerOkRow.holds Try.pinned (OpenSpec.ofChange fnStrongerOkSpec)

/-- ITS FALSE NEIGHBOUR: 'it returns false'. Refute it at one input. -/
def fnStrongerOkWrong : ChangeSpec := { name := "fnStrongerOk", fn := fun _ => fun
  | [d] => { results := [.lit (.bool false)], args := [d] }
  | _ => none }
def FnStrongerOkWrongFalsely : Prop := fnStrongerOkRow.holds Try.pinned (OpenSpec.ofChange fnStrongerOkWrong)

/- THE SECOND FORM. 'bulk': how many values and letters a reading holds, each counted each time it is reached (what is shared counts as often as it is met; a slice's spare places count too). A statement '..UptoSaid' is the law's where the arguments, and the package variables that the reading takes, are together of bulk at most 1048576: NARROWER than '..Said'. Prove '..Said' where nothing that the law and all that it calls make is longer than what came in: it says more and counts as full. Else prove '..UptoSaid'. A law counts once. -/
mutual
def uptoBulk {H : Type} : DataW H → Nat
  | .lit (.string bytes) => bytes.length + 1
  | .lit _ => 1
  | .nil => 1
  | .ptr d => uptoBulk d + 1
  | .slice elems spare => uptoBulkAll elems + uptoBulkAll spare + 1
  | .agg parts => uptoBulkAll parts + 1
  | .iface _ d => uptoBulk d + 1
  | .map entries => uptoBulkEntries entries + 1
  | .held _ => 1
def uptoBulkAll {H : Type} : List (DataW H) → Nat
  | [] => 0
  | d :: r => uptoBulk d + uptoBulkAll r
def uptoBulkEntries {H : Type} : List (Lit × DataW H) → Nat
  | [] => 0
  | x :: r => uptoBulkEntry x + uptoBulkEntries r
def uptoBulkEntry {H : Type} : Lit × DataW H → Nat
  | (.string bytes, d) => bytes.length + uptoBulk d + 1
  | (_, d) => uptoBulk d + 1
 end
def uptoSmall : (H : Type) → List (DataW H) → Bool := fun _ ds => decide (uptoBulkAll ds ≤ 1048576)
def OpenSpec.upto (s : _root_.Go.ChangeSpec) : _root_.Go.OpenSpec := { _root_.Go.OpenSpec.ofChange s with cond := some uptoSmall }

/-- 'laws.FnExactPivotIn', WHERE WHAT IT READS IS OF BULK AT MOST 1048576: true; the input reads as it did. -/
def fnExactPivotInUptoRow : OpenClaim := { program := "ytbbgojaloebknaa", sum := "1e66d5db3ae69901414e47566636c43cab88b0df5ae13e13897b51029edbc9a1", func := "loop.example/charterrules/laws.FnExactPivotIn", spec := "fnExactPivotIn", recurses := true, apart := false, narrowed := true }
def FnExactPivotInUptoSaid : Prop := fnExactPivotInUptoRow.holds Try.pinned (OpenSpec.upto fnExactPivotInSpec)

/-- 'laws.FnSwingsOf', WHERE WHAT IT READS IS OF BULK AT MOST 1048576: true; the input reads as it did. -/
def fnSwingsOfUptoRow : OpenClaim := { program := "ytbbgojaloebknaa", sum := "1e66d5db3ae69901414e47566636c43cab88b0df5ae13e13897b51029edbc9a1", func := "loop.example/charterrules/laws.FnSwingsOf", spec := "fnSwingsOf", recurses := true, apart := false, narrowed := true }
def FnSwingsOfUptoSaid : Prop := fnSwingsOfUptoRow.holds Try.pinned (OpenSpec.upto fnSwingsOfSpec)

/-- 'laws.FnExactPivotsOf', WHERE WHAT IT READS IS OF BULK AT MOST 1048576: true; the input reads as it did. -/
def fnExactPivotsOfUptoRow : OpenClaim := { program := "ytbbgojaloebknaa", sum := "1e66d5db3ae69901414e47566636c43cab88b0df5ae13e13897b51029edbc9a1", func := "loop.example/charterrules/laws.FnExactPivotsOf", spec := "fnExactPivotsOf", recurses := true, apart := false, narrowed := true }
def FnExactPivotsOfUptoSaid : Prop := fnExactPivotsOfUptoRow.holds Try.pinned (OpenSpec.upto fnExactPivotsOfSpec)

/-- 'laws.FnPivotIn', WHERE WHAT IT READS IS OF BULK AT MOST 1048576: true; the input reads as it did. -/
def fnPivotInUptoRow : OpenClaim := { program := "ytbbgojaloebknaa", sum := "1e66d5db3ae69901414e47566636c43cab88b0df5ae13e13897b51029edbc9a1", func := "loop.example/charterrules/laws.FnPivotIn", spec := "fnPivotIn", recurses := true, apart := false, narrowed := true }
def FnPivotInUptoSaid : Prop := fnPivotInUptoRow.holds Try.pinned (OpenSpec.upto fnPivotInSpec)

/-- 'laws.FnPivotsOf', WHERE WHAT IT READS IS OF BULK AT MOST 1048576: true; the input reads as it did. -/
def fnPivotsOfUptoRow : OpenClaim := { program := "ytbbgojaloebknaa", sum := "1e66d5db3ae69901414e47566636c43cab88b0df5ae13e13897b51029edbc9a1", func := "loop.example/charterrules/laws.FnPivotsOf", spec := "fnPivotsOf", recurses := true, apart := false, narrowed := true }
def FnPivotsOfUptoSaid : Prop := fnPivotsOfUptoRow.holds Try.pinned (OpenSpec.upto fnPivotsOfSpec)

/-- 'laws.FnStrongerOk', WHERE WHAT IT READS IS OF BULK AT MOST 1048576: true; the input reads as it did. -/
def fnStrongerOkUptoRow : OpenClaim := { program := "ytbbgojaloebknaa", sum := "1e66d5db3ae69901414e47566636c43cab88b0df5ae13e13897b51029edbc9a1", func := "loop.example/charterrules/laws.FnStrongerOk", spec := "fnStrongerOk", recurses := true, apart := false, narrowed := true }
def FnStrongerOkUptoSaid : Prop := fnStrongerOkUptoRow.holds Try.pinned (OpenSpec.upto fnStrongerOkSpec)

end Rows
end Go.Proofs.Ytbbgojaloebknaa
