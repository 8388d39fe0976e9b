/-
  No cell of these rows narrows 'for every input' (looked for: loops, veiled, ifaces, maps, wideKeys, modest, calm, conditions, laid).
  DERIVED. THE GIVEN ROWS OF THIS SEAT. 8 by the template 'for every input the law returns true; each argument reads behind the call as it read before'; 0 by the template 'total and deterministic' (their statements: YtbdbfnkjbbbmdaaTotals.lean).
  GIVEN WITH THE SEED: the statements are not yours to turn. If you find one false, say at which input.
  Laid BY PROGRAM, IN A SANDBOX (cutbox-rows.mjs): the forced cells as the released guide's own fill.sh prints them over the translation ee794c2df2103410… (all of the seat's roots in one cut). By AI agents, Wed Nov 11 2026. No macro, syntax, notation, axiom, sorry.
-/
import Derived.Test.YtbdbfnkjbbbmdaaChecked
import GoSem.Claim
import GoSem.ClaimJoined
import GoSem.ClaimMapViews
import Derived.JoinedTies
import Derived.KernelRfl
namespace Go.Proofs.Ytbdbfnkjbbbmdaa
/- THE CELL 'sum', in the pinned program and in every row, IS THE sha256 OF THE DUMP (.gsa) THAT YtbdbfnkjbbbmdaaProg.lean LOADS. Nothing in Lean hashes anything: it is a label: what it is worth is what the hold of that sum in a sandbox is worth. -/
noncomputable def Try.pinned : Pinned := { name := "ytbdbfnkjbbbmdaa", sum := "ee794c2df21034102d8110dbd23e3100fa225f441dd3e348360d7c4dea72bd48", checked := Try.checked }
namespace Rows
def none {H : Type} : Left H := { results := [], args := [] }

/-- 'storagebarterlaw06.MatrixMakes': WHATEVER THE INPUT: true; the input reads as it did. -/
def matrixMakesSpec : ChangeSpec := { name := "matrixMakes", fn := fun _ => fun
  | [d1, d2] => { results := [.lit (.bool true)], args := [d1, d2] }
  | _ => none }
def matrixMakesRow : OpenClaim := { program := "ytbdbfnkjbbbmdaa", sum := "ee794c2df21034102d8110dbd23e3100fa225f441dd3e348360d7c4dea72bd48", func := "storagebarter/storagebarterlaw06.MatrixMakes", spec := "matrixMakes", apart := false }
def MatrixMakesSaid : Prop := matrixMakesRow.holds Try.pinned (OpenSpec.ofChange matrixMakesSpec)

/-- ITS FALSE NEIGHBOUR: 'it returns false'. Refute it at one input. -/
def matrixMakesWrong : ChangeSpec := { name := "matrixMakes", fn := fun _ => fun
  | [d1, d2] => { results := [.lit (.bool false)], args := [d1, d2] }
  | _ => none }
def MatrixMakesWrongFalsely : Prop := matrixMakesRow.holds Try.pinned (OpenSpec.ofChange matrixMakesWrong)

/-- 'storagebarterlaw06.MatrixElements': WHATEVER THE INPUT: true; the input reads as it did. -/
def matrixElementsSpec : ChangeSpec := { name := "matrixElements", fn := fun _ => fun
  | [d1, d2] => { results := [.lit (.bool true)], args := [d1, d2] }
  | _ => none }
def matrixElementsRow : OpenClaim := { program := "ytbdbfnkjbbbmdaa", sum := "ee794c2df21034102d8110dbd23e3100fa225f441dd3e348360d7c4dea72bd48", func := "storagebarter/storagebarterlaw06.MatrixElements", spec := "matrixElements", apart := false }
def MatrixElementsSaid : Prop := matrixElementsRow.holds Try.pinned (OpenSpec.ofChange matrixElementsSpec)

/-- ITS FALSE NEIGHBOUR: 'it returns false'. Refute it at one input. -/
def matrixElementsWrong : ChangeSpec := { name := "matrixElements", fn := fun _ => fun
  | [d1, d2] => { results := [.lit (.bool false)], args := [d1, d2] }
  | _ => none }
def MatrixElementsWrongFalsely : Prop := matrixElementsRow.holds Try.pinned (OpenSpec.ofChange matrixElementsWrong)

/-- 'storagebarterlaw06.MatrixRanks': WHATEVER THE INPUT: true; the input reads as it did. -/
def matrixRanksSpec : ChangeSpec := { name := "matrixRanks", fn := fun _ => fun
  | [d] => { results := [.lit (.bool true)], args := [d] }
  | _ => none }
def matrixRanksRow : OpenClaim := { program := "ytbdbfnkjbbbmdaa", sum := "ee794c2df21034102d8110dbd23e3100fa225f441dd3e348360d7c4dea72bd48", func := "storagebarter/storagebarterlaw06.MatrixRanks", spec := "matrixRanks", apart := false }
def MatrixRanksSaid : Prop := matrixRanksRow.holds Try.pinned (OpenSpec.ofChange matrixRanksSpec)

/-- ITS FALSE NEIGHBOUR: 'it returns false'. Refute it at one input. -/
def matrixRanksWrong : ChangeSpec := { name := "matrixRanks", fn := fun _ => fun
  | [d] => { results := [.lit (.bool false)], args := [d] }
  | _ => none }
def MatrixRanksWrongFalsely : Prop := matrixRanksRow.holds Try.pinned (OpenSpec.ofChange matrixRanksWrong)

/-- 'storagebarterlaw06.MatrixSquares': WHATEVER THE INPUT: true; the input reads as it did. -/
def matrixSquaresSpec : ChangeSpec := { name := "matrixSquares", fn := fun _ => fun
  | [d1, d2, d3] => { results := [.lit (.bool true)], args := [d1, d2, d3] }
  | _ => none }
def matrixSquaresRow : OpenClaim := { program := "ytbdbfnkjbbbmdaa", sum := "ee794c2df21034102d8110dbd23e3100fa225f441dd3e348360d7c4dea72bd48", func := "storagebarter/storagebarterlaw06.MatrixSquares", spec := "matrixSquares", apart := false }
def MatrixSquaresSaid : Prop := matrixSquaresRow.holds Try.pinned (OpenSpec.ofChange matrixSquaresSpec)

/-- ITS FALSE NEIGHBOUR: 'it returns false'. Refute it at one input. -/
def matrixSquaresWrong : ChangeSpec := { name := "matrixSquares", fn := fun _ => fun
  | [d1, d2, d3] => { results := [.lit (.bool false)], args := [d1, d2, d3] }
  | _ => none }
def MatrixSquaresWrongFalsely : Prop := matrixSquaresRow.holds Try.pinned (OpenSpec.ofChange matrixSquaresWrong)

/-- 'storagebarterlaw06.MatrixProducts': WHATEVER THE INPUT: true; the input reads as it did. -/
def matrixProductsSpec : ChangeSpec := { name := "matrixProducts", fn := fun _ => fun
  | [d] => { results := [.lit (.bool true)], args := [d] }
  | _ => none }
def matrixProductsRow : OpenClaim := { program := "ytbdbfnkjbbbmdaa", sum := "ee794c2df21034102d8110dbd23e3100fa225f441dd3e348360d7c4dea72bd48", func := "storagebarter/storagebarterlaw06.MatrixProducts", spec := "matrixProducts", apart := false }
def MatrixProductsSaid : Prop := matrixProductsRow.holds Try.pinned (OpenSpec.ofChange matrixProductsSpec)

/-- ITS FALSE NEIGHBOUR: 'it returns false'. Refute it at one input. -/
def matrixProductsWrong : ChangeSpec := { name := "matrixProducts", fn := fun _ => fun
  | [d] => { results := [.lit (.bool false)], args := [d] }
  | _ => none }
def MatrixProductsWrongFalsely : Prop := matrixProductsRow.holds Try.pinned (OpenSpec.ofChange matrixProductsWrong)

/-- 'storagebarterlaw06.MatrixRows': WHATEVER THE INPUT: true; the input reads as it did. -/
def matrixRowsSpec : ChangeSpec := { name := "matrixRows", fn := fun _ => fun
  | [d1, d2, d3] => { results := [.lit (.bool true)], args := [d1, d2, d3] }
  | _ => none }
def matrixRowsRow : OpenClaim := { program := "ytbdbfnkjbbbmdaa", sum := "ee794c2df21034102d8110dbd23e3100fa225f441dd3e348360d7c4dea72bd48", func := "storagebarter/storagebarterlaw06.MatrixRows", spec := "matrixRows", apart := false }
def MatrixRowsSaid : Prop := matrixRowsRow.holds Try.pinned (OpenSpec.ofChange matrixRowsSpec)

/-- ITS FALSE NEIGHBOUR: 'it returns false'. Refute it at one input. -/
def matrixRowsWrong : ChangeSpec := { name := "matrixRows", fn := fun _ => fun
  | [d1, d2, d3] => { results := [.lit (.bool false)], args := [d1, d2, d3] }
  | _ => none }
def MatrixRowsWrongFalsely : Prop := matrixRowsRow.holds Try.pinned (OpenSpec.ofChange matrixRowsWrong)

/-- 'storagebarterlaw06.MatrixInverts': WHATEVER THE INPUT: true; the input reads as it did. -/
def matrixInvertsSpec : ChangeSpec := { name := "matrixInverts", fn := fun _ => fun
  | [d1, d2] => { results := [.lit (.bool true)], args := [d1, d2] }
  | _ => none }
def matrixInvertsRow : OpenClaim := { program := "ytbdbfnkjbbbmdaa", sum := "ee794c2df21034102d8110dbd23e3100fa225f441dd3e348360d7c4dea72bd48", func := "storagebarter/storagebarterlaw06.MatrixInverts", spec := "matrixInverts", apart := false }
def MatrixInvertsSaid : Prop := matrixInvertsRow.holds Try.pinned (OpenSpec.ofChange matrixInvertsSpec)

/-- ITS FALSE NEIGHBOUR: 'it returns false'. Refute it at one input. -/
def matrixInvertsWrong : ChangeSpec := { name := "matrixInverts", fn := fun _ => fun
  | [d1, d2] => { results := [.lit (.bool false)], args := [d1, d2] }
  | _ => none }
def MatrixInvertsWrongFalsely : Prop := matrixInvertsRow.holds Try.pinned (OpenSpec.ofChange matrixInvertsWrong)

/-- 'storagebarterlaw06.MatrixDoes': WHATEVER THE INPUT: true; the input reads as it did. -/
def matrixDoesSpec : ChangeSpec := { name := "matrixDoes", fn := fun _ => fun
  | [d1, d2, d3, d4] => { results := [.lit (.bool true)], args := [d1, d2, d3, d4] }
  | _ => none }
def matrixDoesRow : OpenClaim := { program := "ytbdbfnkjbbbmdaa", sum := "ee794c2df21034102d8110dbd23e3100fa225f441dd3e348360d7c4dea72bd48", func := "storagebarter/storagebarterlaw06.MatrixDoes", spec := "matrixDoes", apart := false }
def MatrixDoesSaid : Prop := matrixDoesRow.holds Try.pinned (OpenSpec.ofChange matrixDoesSpec)

/-- ITS FALSE NEIGHBOUR: 'it returns false'. Refute it at one input. -/
def matrixDoesWrong : ChangeSpec := { name := "matrixDoes", fn := fun _ => fun
  | [d1, d2, d3, d4] => { results := [.lit (.bool false)], args := [d1, d2, d3, d4] }
  | _ => none }
def MatrixDoesWrongFalsely : Prop := matrixDoesRow.holds Try.pinned (OpenSpec.ofChange matrixDoesWrong)

/- THE SECOND FORM. 'bulk': how many values and letters a reading holds, each counted each time it is reached (what is shared counts as often as it is met; a slice's spare places count too). A statement '..UptoSaid' is the law's where the arguments, and the package variables that the reading takes, are together of bulk at most 1048576: NARROWER than '..Said'. Prove '..Said' where nothing that the law and all that it calls make is longer than what came in: it says more and counts as full. Else prove '..UptoSaid'. A law counts once. -/
mutual
def uptoBulk {H : Type} : DataW H → Nat
  | .lit (.string bytes) => bytes.length + 1
  | .lit _ => 1
  | .nil => 1
  | .ptr d => uptoBulk d + 1
  | .slice elems spare => uptoBulkAll elems + uptoBulkAll spare + 1
  | .agg parts => uptoBulkAll parts + 1
  | .iface _ d => uptoBulk d + 1
  | .map entries => uptoBulkEntries entries + 1
  | .held _ => 1
def uptoBulkAll {H : Type} : List (DataW H) → Nat
  | [] => 0
  | d :: r => uptoBulk d + uptoBulkAll r
def uptoBulkEntries {H : Type} : List (Lit × DataW H) → Nat
  | [] => 0
  | x :: r => uptoBulkEntry x + uptoBulkEntries r
def uptoBulkEntry {H : Type} : Lit × DataW H → Nat
  | (.string bytes, d) => bytes.length + uptoBulk d + 1
  | (_, d) => uptoBulk d + 1
 end
def uptoSmall : (H : Type) → List (DataW H) → Bool := fun _ ds => decide (uptoBulkAll ds ≤ 1048576)
def OpenSpec.upto (s : _root_.Go.ChangeSpec) : _root_.Go.OpenSpec := { _root_.Go.OpenSpec.ofChange s with cond := some uptoSmall }

/-- 'storagebarterlaw06.MatrixMakes', WHERE WHAT IT READS IS OF BULK AT MOST 1048576: true; the input reads as it did. -/
def matrixMakesUptoRow : OpenClaim := { program := "ytbdbfnkjbbbmdaa", sum := "ee794c2df21034102d8110dbd23e3100fa225f441dd3e348360d7c4dea72bd48", func := "storagebarter/storagebarterlaw06.MatrixMakes", spec := "matrixMakes", apart := false, narrowed := true }
def MatrixMakesUptoSaid : Prop := matrixMakesUptoRow.holds Try.pinned (OpenSpec.upto matrixMakesSpec)

/-- 'storagebarterlaw06.MatrixElements', WHERE WHAT IT READS IS OF BULK AT MOST 1048576: true; the input reads as it did. -/
def matrixElementsUptoRow : OpenClaim := { program := "ytbdbfnkjbbbmdaa", sum := "ee794c2df21034102d8110dbd23e3100fa225f441dd3e348360d7c4dea72bd48", func := "storagebarter/storagebarterlaw06.MatrixElements", spec := "matrixElements", apart := false, narrowed := true }
def MatrixElementsUptoSaid : Prop := matrixElementsUptoRow.holds Try.pinned (OpenSpec.upto matrixElementsSpec)

/-- 'storagebarterlaw06.MatrixRanks', WHERE WHAT IT READS IS OF BULK AT MOST 1048576: true; the input reads as it did. -/
def matrixRanksUptoRow : OpenClaim := { program := "ytbdbfnkjbbbmdaa", sum := "ee794c2df21034102d8110dbd23e3100fa225f441dd3e348360d7c4dea72bd48", func := "storagebarter/storagebarterlaw06.MatrixRanks", spec := "matrixRanks", apart := false, narrowed := true }
def MatrixRanksUptoSaid : Prop := matrixRanksUptoRow.holds Try.pinned (OpenSpec.upto matrixRanksSpec)

/-- 'storagebarterlaw06.MatrixSquares', WHERE WHAT IT READS IS OF BULK AT MOST 1048576: true; the input reads as it did. -/
def matrixSquaresUptoRow : OpenClaim := { program := "ytbdbfnkjbbbmdaa", sum := "ee794c2df21034102d8110dbd23e3100fa225f441dd3e348360d7c4dea72bd48", func := "storagebarter/storagebarterlaw06.MatrixSquares", spec := "matrixSquares", apart := false, narrowed := true }
def MatrixSquaresUptoSaid : Prop := matrixSquaresUptoRow.holds Try.pinned (OpenSpec.upto matrixSquaresSpec)

/-- 'storagebarterlaw06.MatrixProducts', WHERE WHAT IT READS IS OF BULK AT MOST 1048576: true; the input reads as it did. -/
def matrixProductsUptoRow : OpenClaim := { program := "ytbdbfnkjbbbmdaa", sum := "ee794c2df21034102d8110dbd23e3100fa225f441dd3e348360d7c4dea72bd48", func := "storagebarter/storagebarterlaw06.MatrixProducts", spec := "matrixProducts", apart := false, narrowed := true }
def MatrixProductsUptoSaid : Prop := matrixProductsUptoRow.holds Try.pinned (OpenSpec.upto matrixProductsSpec)

/-- 'storagebarterlaw06.MatrixRows', WHERE WHAT IT READS IS OF BULK AT MOST 1048576: true; the input reads as it did. -/
def matrixRowsUptoRow : OpenClaim := { program := "ytbdbfnkjbbbmdaa", sum := "ee794c2df21034102d8110dbd23e3100fa225f441dd3e348360d7c4dea72bd48", func := "storagebarter/storagebarterlaw06.MatrixRows", spec := "matrixRows", apart := false, narrowed := true }
def MatrixRowsUptoSaid : Prop := matrixRowsUptoRow.holds Try.pinned (OpenSpec.upto matrixRowsSpec)

/-- 'storagebarterlaw06.MatrixInverts', WHERE WHAT IT READS IS OF BULK AT MOST 1048576: true; the input reads as it did. -/
def matrixInvertsUptoRow : OpenClaim := { program := "ytbdbfnkjbbbmdaa", sum := "ee794c2df21034102d8110dbd23e3100fa225f441dd3e348360d7c4dea72bd48", func := "storagebarter/storagebarterlaw06.MatrixInverts", spec := "matrixInverts", apart := false, narrowed := true }
def MatrixInvertsUptoSaid : Prop := matrixInvertsUptoRow.holds Try.pinned (OpenSpec.upto matrixInvertsSpec)

/-- 'storagebarterlaw06.MatrixDoes', WHERE WHAT IT READS IS OF BULK AT MOST 1048576: true; the input reads as it did. -/
def matrixDoesUptoRow : OpenClaim := { program := "ytbdbfnkjbbbmdaa", sum := "ee794c2df21034102d8110dbd23e3100fa225f441dd3e348360d7c4dea72bd48", func := "storagebarter/storagebarterlaw06.MatrixDoes", spec := "matrixDoes", apart := false, narrowed := true }
def MatrixDoesUptoSaid : Prop := matrixDoesUptoRow.holds Try.pinned (OpenSpec.upto matrixDoesSpec)

end Rows
end Go.Proofs.Ytbdbfnkjbbbmdaa
