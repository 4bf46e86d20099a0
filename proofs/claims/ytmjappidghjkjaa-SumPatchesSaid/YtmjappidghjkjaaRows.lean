/-
  No cell of these rows narrows 'for every input' (looked for: loops, veiled, ifaces, maps, wideKeys, modest, calm, conditions, laid).
  DERIVED. THE GIVEN ROWS OF THIS SEAT. 5 by the template 'for every input the law returns true; each argument reads behind the call as it read before'; 0 by the template 'total and deterministic' (their statements: YtmjappidghjkjaaTotals.lean).
  GIVEN WITH THE SEED: the statements are not yours to turn. If you find one false, say at which input.
  Laid BY PROGRAM, IN A SANDBOX (cutbox-rows.mjs): the forced cells as the released guide's own fill.sh prints them over the translation 915576b75f7cd657… (all of the seat's roots in one cut). By AI agents, Wed Nov 11 2026. No macro, syntax, notation, axiom, sorry.
-/
import Derived.Test.YtmjappidghjkjaaChecked
import GoSem.Claim
import GoSem.ClaimJoined
import GoSem.ClaimMapViews
import Derived.JoinedTies
import Derived.KernelRfl
namespace Go.Proofs.Ytmjappidghjkjaa
/- THE CELL 'sum', in the pinned program and in every row, IS THE sha256 OF THE DUMP (.gsa) THAT YtmjappidghjkjaaProg.lean LOADS. Nothing in Lean hashes anything: it is a label: what it is worth is what the hold of that sum in a sandbox is worth. -/
noncomputable def Try.pinned : Pinned := { name := "ytmjappidghjkjaa", sum := "915576b75f7cd657b8fa9dcba039eb4e12d836570c360bf702adf90a32926388", checked := Try.checked }
namespace Rows
def none {H : Type} : Left H := { results := [], args := [] }

/-- 'shunterlaw04.SumPieces': WHATEVER THE INPUT: true; the input reads as it did. -/
def sumPiecesSpec : ChangeSpec := { name := "sumPieces", fn := fun _ => fun
  | [d] => { results := [.lit (.bool true)], args := [d] }
  | _ => none }
def sumPiecesRow : OpenClaim := { program := "ytmjappidghjkjaa", sum := "915576b75f7cd657b8fa9dcba039eb4e12d836570c360bf702adf90a32926388", func := "shunter/shunterlaw04.SumPieces", spec := "sumPieces", apart := false }
def SumPiecesSaid : Prop := sumPiecesRow.holds Try.pinned (OpenSpec.ofChange sumPiecesSpec)

/-- ITS FALSE NEIGHBOUR: 'it returns false'. Refute it at one input. -/
def sumPiecesWrong : ChangeSpec := { name := "sumPieces", fn := fun _ => fun
  | [d] => { results := [.lit (.bool false)], args := [d] }
  | _ => none }
def SumPiecesWrongFalsely : Prop := sumPiecesRow.holds Try.pinned (OpenSpec.ofChange sumPiecesWrong)

/-- 'shunterlaw04.SumSwaps': WHATEVER THE INPUT: true; the input reads as it did. -/
def sumSwapsSpec : ChangeSpec := { name := "sumSwaps", fn := fun _ => fun
  | [d1, d2, d3] => { results := [.lit (.bool true)], args := [d1, d2, d3] }
  | _ => none }
def sumSwapsRow : OpenClaim := { program := "ytmjappidghjkjaa", sum := "915576b75f7cd657b8fa9dcba039eb4e12d836570c360bf702adf90a32926388", func := "shunter/shunterlaw04.SumSwaps", spec := "sumSwaps", apart := false }
def SumSwapsSaid : Prop := sumSwapsRow.holds Try.pinned (OpenSpec.ofChange sumSwapsSpec)

/-- ITS FALSE NEIGHBOUR: 'it returns false'. Refute it at one input. -/
def sumSwapsWrong : ChangeSpec := { name := "sumSwaps", fn := fun _ => fun
  | [d1, d2, d3] => { results := [.lit (.bool false)], args := [d1, d2, d3] }
  | _ => none }
def SumSwapsWrongFalsely : Prop := sumSwapsRow.holds Try.pinned (OpenSpec.ofChange sumSwapsWrong)

/-- 'shunterlaw04.SumTotals': WHATEVER THE INPUT: true; the input reads as it did. -/
def sumTotalsSpec : ChangeSpec := { name := "sumTotals", fn := fun _ => fun
  | [d] => { results := [.lit (.bool true)], args := [d] }
  | _ => none }
def sumTotalsRow : OpenClaim := { program := "ytmjappidghjkjaa", sum := "915576b75f7cd657b8fa9dcba039eb4e12d836570c360bf702adf90a32926388", func := "shunter/shunterlaw04.SumTotals", spec := "sumTotals", apart := false }
def SumTotalsSaid : Prop := sumTotalsRow.holds Try.pinned (OpenSpec.ofChange sumTotalsSpec)

/-- ITS FALSE NEIGHBOUR: 'it returns false'. Refute it at one input. -/
def sumTotalsWrong : ChangeSpec := { name := "sumTotals", fn := fun _ => fun
  | [d] => { results := [.lit (.bool false)], args := [d] }
  | _ => none }
def SumTotalsWrongFalsely : Prop := sumTotalsRow.holds Try.pinned (OpenSpec.ofChange sumTotalsWrong)

/-- 'shunterlaw04.SumPatches': WHATEVER THE INPUT: true; the input reads as it did. -/
def sumPatchesSpec : ChangeSpec := { name := "sumPatches", fn := fun _ => fun
  | [d1, d2, d3] => { results := [.lit (.bool true)], args := [d1, d2, d3] }
  | _ => none }
def sumPatchesRow : OpenClaim := { program := "ytmjappidghjkjaa", sum := "915576b75f7cd657b8fa9dcba039eb4e12d836570c360bf702adf90a32926388", func := "shunter/shunterlaw04.SumPatches", spec := "sumPatches", apart := false }
def SumPatchesSaid : Prop := sumPatchesRow.holds Try.pinned (OpenSpec.ofChange sumPatchesSpec)

/-- ITS FALSE NEIGHBOUR: 'it returns false'. Refute it at one input. -/
def sumPatchesWrong : ChangeSpec := { name := "sumPatches", fn := fun _ => fun
  | [d1, d2, d3] => { results := [.lit (.bool false)], args := [d1, d2, d3] }
  | _ => none }
def SumPatchesWrongFalsely : Prop := sumPatchesRow.holds Try.pinned (OpenSpec.ofChange sumPatchesWrong)

/-- 'shunterlaw04.SumFixes': WHATEVER THE INPUT: true; the input reads as it did. -/
def sumFixesSpec : ChangeSpec := { name := "sumFixes", fn := fun _ => fun
  | [d1, d2] => { results := [.lit (.bool true)], args := [d1, d2] }
  | _ => none }
def sumFixesRow : OpenClaim := { program := "ytmjappidghjkjaa", sum := "915576b75f7cd657b8fa9dcba039eb4e12d836570c360bf702adf90a32926388", func := "shunter/shunterlaw04.SumFixes", spec := "sumFixes", apart := false }
def SumFixesSaid : Prop := sumFixesRow.holds Try.pinned (OpenSpec.ofChange sumFixesSpec)

/-- ITS FALSE NEIGHBOUR: 'it returns false'. Refute it at one input. -/
def sumFixesWrong : ChangeSpec := { name := "sumFixes", fn := fun _ => fun
  | [d1, d2] => { results := [.lit (.bool false)], args := [d1, d2] }
  | _ => none }
def SumFixesWrongFalsely : Prop := sumFixesRow.holds Try.pinned (OpenSpec.ofChange sumFixesWrong)

/- THE SECOND FORM. 'bulk': how many values and letters a reading holds, each counted each time it is reached (what is shared counts as often as it is met; a slice's spare places count too). A statement '..UptoSaid' is the law's where the arguments, and the package variables that the reading takes, are together of bulk at most 1048576: NARROWER than '..Said'. Prove '..Said' where nothing that the law and all that it calls make is longer than what came in: it says more and counts as full. Else prove '..UptoSaid'. A law counts once. -/
mutual
def uptoBulk {H : Type} : DataW H → Nat
  | .lit (.string bytes) => bytes.length + 1
  | .lit _ => 1
  | .nil => 1
  | .ptr d => uptoBulk d + 1
  | .slice elems spare => uptoBulkAll elems + uptoBulkAll spare + 1
  | .agg parts => uptoBulkAll parts + 1
  | .iface _ d => uptoBulk d + 1
  | .map entries => uptoBulkEntries entries + 1
  | .held _ => 1
def uptoBulkAll {H : Type} : List (DataW H) → Nat
  | [] => 0
  | d :: r => uptoBulk d + uptoBulkAll r
def uptoBulkEntries {H : Type} : List (Lit × DataW H) → Nat
  | [] => 0
  | x :: r => uptoBulkEntry x + uptoBulkEntries r
def uptoBulkEntry {H : Type} : Lit × DataW H → Nat
  | (.string bytes, d) => bytes.length + uptoBulk d + 1
  | (_, d) => uptoBulk d + 1
 end
def uptoSmall : (H : Type) → List (DataW H) → Bool := fun _ ds => decide (uptoBulkAll ds ≤ 1048576)
def OpenSpec.upto (s : _root_.Go.ChangeSpec) : _root_.Go.OpenSpec := { _root_.Go.OpenSpec.ofChange s with cond := some uptoSmall }

/-- 'shunterlaw04.SumPieces', WHERE WHAT IT READS IS OF BULK AT MOST 1048576: true; the input reads as it did. -/
def sumPiecesUptoRow : OpenClaim := { program := "ytmjappidghjkjaa", sum := "915576b75f7cd657b8fa9dcba039eb4e12d836570c360bf702adf90a32926388", func := "shunter/shunterlaw04.SumPieces", spec := "sumPieces", apart := false, narrowed := true }
def SumPiecesUptoSaid : Prop := sumPiecesUptoRow.holds Try.pinned (OpenSpec.upto sumPiecesSpec)

/-- 'shunterlaw04.SumSwaps', WHERE WHAT IT READS IS OF BULK AT MOST 1048576: true; the input reads as it did. -/
def sumSwapsUptoRow : OpenClaim := { program := "ytmjappidghjkjaa", sum := "915576b75f7cd657b8fa9dcba039eb4e12d836570c360bf702adf90a32926388", func := "shunter/shunterlaw04.SumSwaps", spec := "sumSwaps", apart := false, narrowed := true }
def SumSwapsUptoSaid : Prop := sumSwapsUptoRow.holds Try.pinned (OpenSpec.upto sumSwapsSpec)

/-- 'shunterlaw04.SumTotals', WHERE WHAT IT READS IS OF BULK AT MOST 1048576: true; the input reads as it did. -/
def sumTotalsUptoRow : OpenClaim := { program := "ytmjappidghjkjaa", sum := "915576b75f7cd657b8fa9dcba039eb4e12d836570c360bf702adf90a32926388", func := "shunter/shunterlaw04.SumTotals", spec := "sumTotals", apart := false, narrowed := true }
def SumTotalsUptoSaid : Prop := sumTotalsUptoRow.holds Try.pinned (OpenSpec.upto sumTotalsSpec)

/-- 'shunterlaw04.SumPatches', WHERE WHAT IT READS IS OF BULK AT MOST 1048576: true; the input reads as it did. -/
def sumPatchesUptoRow : OpenClaim := { program := "ytmjappidghjkjaa", sum := "915576b75f7cd657b8fa9dcba039eb4e12d836570c360bf702adf90a32926388", func := "shunter/shunterlaw04.SumPatches", spec := "sumPatches", apart := false, narrowed := true }
def SumPatchesUptoSaid : Prop := sumPatchesUptoRow.holds Try.pinned (OpenSpec.upto sumPatchesSpec)

/-- 'shunterlaw04.SumFixes', WHERE WHAT IT READS IS OF BULK AT MOST 1048576: true; the input reads as it did. -/
def sumFixesUptoRow : OpenClaim := { program := "ytmjappidghjkjaa", sum := "915576b75f7cd657b8fa9dcba039eb4e12d836570c360bf702adf90a32926388", func := "shunter/shunterlaw04.SumFixes", spec := "sumFixes", apart := false, narrowed := true }
def SumFixesUptoSaid : Prop := sumFixesUptoRow.holds Try.pinned (OpenSpec.upto sumFixesSpec)

end Rows
end Go.Proofs.Ytmjappidghjkjaa
