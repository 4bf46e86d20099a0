/-
  No cell of these rows narrows 'for every input' (looked for: loops, veiled, ifaces, maps, wideKeys, modest, calm, conditions, laid).
  DERIVED. THE GIVEN ROWS OF THIS SEAT. 7 by the template 'for every input the law returns true; each argument reads behind the call as it read before'; 0 by the template 'total and deterministic' (their statements: YtipdifiahmgciaaTotals.lean).
  GIVEN WITH THE SEED: the statements are not yours to turn. If you find one false, say at which input.
  Laid BY PROGRAM, IN A SANDBOX (cutbox-rows.mjs): the forced cells as the released guide's own fill.sh prints them over the translation f5fe866dbb7397d9… (all of the seat's roots in one cut). By AI agents, Wed Nov 11 2026. No macro, syntax, notation, axiom, sorry.
-/
import Derived.Test.YtipdifiahmgciaaChecked
import GoSem.Claim
import GoSem.ClaimJoined
import GoSem.ClaimMapViews
import Derived.JoinedTies
import Derived.KernelRfl
namespace Go.Proofs.Ytipdifiahmgciaa
/- THE CELL 'sum', in the pinned program and in every row, IS THE sha256 OF THE DUMP (.gsa) THAT YtipdifiahmgciaaProg.lean LOADS. Nothing in Lean hashes anything: it is a label: what it is worth is what the hold of that sum in a sandbox is worth. -/
noncomputable def Try.pinned : Pinned := { name := "ytipdifiahmgciaa", sum := "f5fe866dbb7397d993901bfaf1afffc77b36bbc3ecaf7764debfe3a428720deb", checked := Try.checked }
namespace Rows
def none {H : Type} : Left H := { results := [], args := [] }

/-- 'shunterlaw02.VecMakes': WHATEVER THE INPUT: true; the input reads as it did. -/
def vecMakesSpec : ChangeSpec := { name := "vecMakes", fn := fun _ => fun
  | [d1, d2, d3] => { results := [.lit (.bool true)], args := [d1, d2, d3] }
  | _ => none }
def vecMakesRow : OpenClaim := { program := "ytipdifiahmgciaa", sum := "f5fe866dbb7397d993901bfaf1afffc77b36bbc3ecaf7764debfe3a428720deb", func := "shunter/shunterlaw02.VecMakes", spec := "vecMakes", inPlace := ["math/bits.Sub64", "math/bits.Add64"], unfollowed := true, recurses := true, named := ["math/bits.divideError", "math/bits.overflowError"], apart := false }
def VecMakesSaid : Prop := vecMakesRow.holds Try.pinned (OpenSpec.ofChange vecMakesSpec)

/-- ITS FALSE NEIGHBOUR: 'it returns false'. Refute it at one input. -/
def vecMakesWrong : ChangeSpec := { name := "vecMakes", fn := fun _ => fun
  | [d1, d2, d3] => { results := [.lit (.bool false)], args := [d1, d2, d3] }
  | _ => none }
def VecMakesWrongFalsely : Prop := vecMakesRow.holds Try.pinned (OpenSpec.ofChange vecMakesWrong)

/-- 'shunterlaw02.VecParts': WHATEVER THE INPUT: true; the input reads as it did. -/
def vecPartsSpec : ChangeSpec := { name := "vecParts", fn := fun _ => fun
  | [d1, d2, d3] => { results := [.lit (.bool true)], args := [d1, d2, d3] }
  | _ => none }
def vecPartsRow : OpenClaim := { program := "ytipdifiahmgciaa", sum := "f5fe866dbb7397d993901bfaf1afffc77b36bbc3ecaf7764debfe3a428720deb", func := "shunter/shunterlaw02.VecParts", spec := "vecParts", inPlace := ["math/bits.Sub64", "math/bits.Add64"], unfollowed := true, recurses := true, named := ["math/bits.divideError", "math/bits.overflowError"], apart := false }
def VecPartsSaid : Prop := vecPartsRow.holds Try.pinned (OpenSpec.ofChange vecPartsSpec)

/-- ITS FALSE NEIGHBOUR: 'it returns false'. Refute it at one input. -/
def vecPartsWrong : ChangeSpec := { name := "vecParts", fn := fun _ => fun
  | [d1, d2, d3] => { results := [.lit (.bool false)], args := [d1, d2, d3] }
  | _ => none }
def VecPartsWrongFalsely : Prop := vecPartsRow.holds Try.pinned (OpenSpec.ofChange vecPartsWrong)

/-- 'shunterlaw02.VecMeets': WHATEVER THE INPUT: true; the input reads as it did. -/
def vecMeetsSpec : ChangeSpec := { name := "vecMeets", fn := fun _ => fun
  | [d1, d2, d3] => { results := [.lit (.bool true)], args := [d1, d2, d3] }
  | _ => none }
def vecMeetsRow : OpenClaim := { program := "ytipdifiahmgciaa", sum := "f5fe866dbb7397d993901bfaf1afffc77b36bbc3ecaf7764debfe3a428720deb", func := "shunter/shunterlaw02.VecMeets", spec := "vecMeets", inPlace := ["math/bits.Sub64", "math/bits.Add64"], unfollowed := true, recurses := true, named := ["math/bits.divideError", "math/bits.overflowError"], apart := false }
def VecMeetsSaid : Prop := vecMeetsRow.holds Try.pinned (OpenSpec.ofChange vecMeetsSpec)

/-- ITS FALSE NEIGHBOUR: 'it returns false'. Refute it at one input. -/
def vecMeetsWrong : ChangeSpec := { name := "vecMeets", fn := fun _ => fun
  | [d1, d2, d3] => { results := [.lit (.bool false)], args := [d1, d2, d3] }
  | _ => none }
def VecMeetsWrongFalsely : Prop := vecMeetsRow.holds Try.pinned (OpenSpec.ofChange vecMeetsWrong)

/-- 'shunterlaw02.VecTwos': WHATEVER THE INPUT: true; the input reads as it did. -/
def vecTwosSpec : ChangeSpec := { name := "vecTwos", fn := fun _ => fun
  | [d1, d2] => { results := [.lit (.bool true)], args := [d1, d2] }
  | _ => none }
def vecTwosRow : OpenClaim := { program := "ytipdifiahmgciaa", sum := "f5fe866dbb7397d993901bfaf1afffc77b36bbc3ecaf7764debfe3a428720deb", func := "shunter/shunterlaw02.VecTwos", spec := "vecTwos", inPlace := ["math/bits.Sub64", "math/bits.Add64"], unfollowed := true, recurses := true, named := ["math/bits.divideError", "math/bits.overflowError"], apart := false }
def VecTwosSaid : Prop := vecTwosRow.holds Try.pinned (OpenSpec.ofChange vecTwosSpec)

/-- ITS FALSE NEIGHBOUR: 'it returns false'. Refute it at one input. -/
def vecTwosWrong : ChangeSpec := { name := "vecTwos", fn := fun _ => fun
  | [d1, d2] => { results := [.lit (.bool false)], args := [d1, d2] }
  | _ => none }
def VecTwosWrongFalsely : Prop := vecTwosRow.holds Try.pinned (OpenSpec.ofChange vecTwosWrong)

/-- 'shunterlaw02.VecOnes': WHATEVER THE INPUT: true; the input reads as it did. -/
def vecOnesSpec : ChangeSpec := { name := "vecOnes", fn := fun _ => fun
  | [d1, d2] => { results := [.lit (.bool true)], args := [d1, d2] }
  | _ => none }
def vecOnesRow : OpenClaim := { program := "ytipdifiahmgciaa", sum := "f5fe866dbb7397d993901bfaf1afffc77b36bbc3ecaf7764debfe3a428720deb", func := "shunter/shunterlaw02.VecOnes", spec := "vecOnes", inPlace := ["math/bits.Sub64", "math/bits.Add64"], unfollowed := true, recurses := true, named := ["math/bits.divideError", "math/bits.overflowError"], apart := false }
def VecOnesSaid : Prop := vecOnesRow.holds Try.pinned (OpenSpec.ofChange vecOnesSpec)

/-- ITS FALSE NEIGHBOUR: 'it returns false'. Refute it at one input. -/
def vecOnesWrong : ChangeSpec := { name := "vecOnes", fn := fun _ => fun
  | [d1, d2] => { results := [.lit (.bool false)], args := [d1, d2] }
  | _ => none }
def VecOnesWrongFalsely : Prop := vecOnesRow.holds Try.pinned (OpenSpec.ofChange vecOnesWrong)

/-- 'shunterlaw02.VecTexts': WHATEVER THE INPUT: true; the input reads as it did. -/
def vecTextsSpec : ChangeSpec := { name := "vecTexts", fn := fun _ => fun
  | [d1, d2] => { results := [.lit (.bool true)], args := [d1, d2] }
  | _ => none }
def vecTextsRow : OpenClaim := { program := "ytipdifiahmgciaa", sum := "f5fe866dbb7397d993901bfaf1afffc77b36bbc3ecaf7764debfe3a428720deb", func := "shunter/shunterlaw02.VecTexts", spec := "vecTexts", inPlace := ["math/bits.Sub64", "math/bits.Add64", "internal/bytealg.IndexByteString", "internal/bytealg.IndexString"], unfollowed := true, recurses := true, named := ["math/bits.divideError", "math/bits.overflowError", "internal/bytealg.MaxLen"], apart := false }
def VecTextsSaid : Prop := vecTextsRow.holds Try.pinned (OpenSpec.ofChange vecTextsSpec)

/-- ITS FALSE NEIGHBOUR: 'it returns false'. Refute it at one input. -/
def vecTextsWrong : ChangeSpec := { name := "vecTexts", fn := fun _ => fun
  | [d1, d2] => { results := [.lit (.bool false)], args := [d1, d2] }
  | _ => none }
def VecTextsWrongFalsely : Prop := vecTextsRow.holds Try.pinned (OpenSpec.ofChange vecTextsWrong)

/-- 'shunterlaw02.VecBack': WHATEVER THE INPUT: true; the input reads as it did. -/
def vecBackSpec : ChangeSpec := { name := "vecBack", fn := fun _ => fun
  | [d1, d2, d3] => { results := [.lit (.bool true)], args := [d1, d2, d3] }
  | _ => none }
def vecBackRow : OpenClaim := { program := "ytipdifiahmgciaa", sum := "f5fe866dbb7397d993901bfaf1afffc77b36bbc3ecaf7764debfe3a428720deb", func := "shunter/shunterlaw02.VecBack", spec := "vecBack", inPlace := ["math/bits.Sub64", "math/bits.Add64", "internal/bytealg.IndexByteString", "internal/bytealg.IndexString"], unfollowed := true, recurses := true, named := ["math/bits.divideError", "math/bits.overflowError", "internal/bytealg.MaxLen"], apart := false }
def VecBackSaid : Prop := vecBackRow.holds Try.pinned (OpenSpec.ofChange vecBackSpec)

/-- ITS FALSE NEIGHBOUR: 'it returns false'. Refute it at one input. -/
def vecBackWrong : ChangeSpec := { name := "vecBack", fn := fun _ => fun
  | [d1, d2, d3] => { results := [.lit (.bool false)], args := [d1, d2, d3] }
  | _ => none }
def VecBackWrongFalsely : Prop := vecBackRow.holds Try.pinned (OpenSpec.ofChange vecBackWrong)

/- THE SECOND FORM. 'bulk': how many values and letters a reading holds, each counted each time it is reached (what is shared counts as often as it is met; a slice's spare places count too). A statement '..UptoSaid' is the law's where the arguments, and the package variables that the reading takes, are together of bulk at most 1048576: NARROWER than '..Said'. Prove '..Said' where nothing that the law and all that it calls make is longer than what came in: it says more and counts as full. Else prove '..UptoSaid'. A law counts once. -/
mutual
def uptoBulk {H : Type} : DataW H → Nat
  | .lit (.string bytes) => bytes.length + 1
  | .lit _ => 1
  | .nil => 1
  | .ptr d => uptoBulk d + 1
  | .slice elems spare => uptoBulkAll elems + uptoBulkAll spare + 1
  | .agg parts => uptoBulkAll parts + 1
  | .iface _ d => uptoBulk d + 1
  | .map entries => uptoBulkEntries entries + 1
  | .held _ => 1
def uptoBulkAll {H : Type} : List (DataW H) → Nat
  | [] => 0
  | d :: r => uptoBulk d + uptoBulkAll r
def uptoBulkEntries {H : Type} : List (Lit × DataW H) → Nat
  | [] => 0
  | x :: r => uptoBulkEntry x + uptoBulkEntries r
def uptoBulkEntry {H : Type} : Lit × DataW H → Nat
  | (.string bytes, d) => bytes.length + uptoBulk d + 1
  | (_, d) => uptoBulk d + 1
 end
def uptoSmall : (H : Type) → List (DataW H) → Bool := fun _ ds => decide (uptoBulkAll ds ≤ 1048576)
def OpenSpec.upto (s : _root_.Go.ChangeSpec) : _root_.Go.OpenSpec := { _root_.Go.OpenSpec.ofChange s with cond := some uptoSmall }

/-- 'shunterlaw02.VecMakes', WHERE WHAT IT READS IS OF BULK AT MOST 1048576: true; the input reads as it did. -/
def vecMakesUptoRow : OpenClaim := { program := "ytipdifiahmgciaa", sum := "f5fe866dbb7397d993901bfaf1afffc77b36bbc3ecaf7764debfe3a428720deb", func := "shunter/shunterlaw02.VecMakes", spec := "vecMakes", inPlace := ["math/bits.Sub64", "math/bits.Add64"], unfollowed := true, recurses := true, named := ["math/bits.divideError", "math/bits.overflowError"], apart := false, narrowed := true }
def VecMakesUptoSaid : Prop := vecMakesUptoRow.holds Try.pinned (OpenSpec.upto vecMakesSpec)

/-- 'shunterlaw02.VecParts', WHERE WHAT IT READS IS OF BULK AT MOST 1048576: true; the input reads as it did. -/
def vecPartsUptoRow : OpenClaim := { program := "ytipdifiahmgciaa", sum := "f5fe866dbb7397d993901bfaf1afffc77b36bbc3ecaf7764debfe3a428720deb", func := "shunter/shunterlaw02.VecParts", spec := "vecParts", inPlace := ["math/bits.Sub64", "math/bits.Add64"], unfollowed := true, recurses := true, named := ["math/bits.divideError", "math/bits.overflowError"], apart := false, narrowed := true }
def VecPartsUptoSaid : Prop := vecPartsUptoRow.holds Try.pinned (OpenSpec.upto vecPartsSpec)

/-- 'shunterlaw02.VecMeets', WHERE WHAT IT READS IS OF BULK AT MOST 1048576: true; the input reads as it did. -/
def vecMeetsUptoRow : OpenClaim := { program := "ytipdifiahmgciaa", sum := "f5fe866dbb7397d993901bfaf1afffc77b36bbc3ecaf7764debfe3a428720deb", func := "shunter/shunterlaw02.VecMeets", spec := "vecMeets", inPlace := ["math/bits.Sub64", "math/bits.Add64"], unfollowed := true, recurses := true, named := ["math/bits.divideError", "math/bits.overflowError"], apart := false, narrowed := true }
def VecMeetsUptoSaid : Prop := vecMeetsUptoRow.holds Try.pinned (OpenSpec.upto vecMeetsSpec)

/-- 'shunterlaw02.VecTwos', WHERE WHAT IT READS IS OF BULK AT MOST 1048576: true; the input reads as it did. -/
def vecTwosUptoRow : OpenClaim := { program := "ytipdifiahmgciaa", sum := "f5fe866dbb7397d993901bfaf1afffc77b36bbc3ecaf7764debfe3a428720deb", func := "shunter/shunterlaw02.VecTwos", spec := "vecTwos", inPlace := ["math/bits.Sub64", "math/bits.Add64"], unfollowed := true, recurses := true, named := ["math/bits.divideError", "math/bits.overflowError"], apart := false, narrowed := true }
def VecTwosUptoSaid : Prop := vecTwosUptoRow.holds Try.pinned (OpenSpec.upto vecTwosSpec)

/-- 'shunterlaw02.VecOnes', WHERE WHAT IT READS IS OF BULK AT MOST 1048576: true; the input reads as it did. -/
def vecOnesUptoRow : OpenClaim := { program := "ytipdifiahmgciaa", sum := "f5fe866dbb7397d993901bfaf1afffc77b36bbc3ecaf7764debfe3a428720deb", func := "shunter/shunterlaw02.VecOnes", spec := "vecOnes", inPlace := ["math/bits.Sub64", "math/bits.Add64"], unfollowed := true, recurses := true, named := ["math/bits.divideError", "math/bits.overflowError"], apart := false, narrowed := true }
def VecOnesUptoSaid : Prop := vecOnesUptoRow.holds Try.pinned (OpenSpec.upto vecOnesSpec)

/-- 'shunterlaw02.VecTexts', WHERE WHAT IT READS IS OF BULK AT MOST 1048576: true; the input reads as it did. -/
def vecTextsUptoRow : OpenClaim := { program := "ytipdifiahmgciaa", sum := "f5fe866dbb7397d993901bfaf1afffc77b36bbc3ecaf7764debfe3a428720deb", func := "shunter/shunterlaw02.VecTexts", spec := "vecTexts", inPlace := ["math/bits.Sub64", "math/bits.Add64", "internal/bytealg.IndexByteString", "internal/bytealg.IndexString"], unfollowed := true, recurses := true, named := ["math/bits.divideError", "math/bits.overflowError", "internal/bytealg.MaxLen"], apart := false, narrowed := true }
def VecTextsUptoSaid : Prop := vecTextsUptoRow.holds Try.pinned (OpenSpec.upto vecTextsSpec)

/-- 'shunterlaw02.VecBack', WHERE WHAT IT READS IS OF BULK AT MOST 1048576: true; the input reads as it did. -/
def vecBackUptoRow : OpenClaim := { program := "ytipdifiahmgciaa", sum := "f5fe866dbb7397d993901bfaf1afffc77b36bbc3ecaf7764debfe3a428720deb", func := "shunter/shunterlaw02.VecBack", spec := "vecBack", inPlace := ["math/bits.Sub64", "math/bits.Add64", "internal/bytealg.IndexByteString", "internal/bytealg.IndexString"], unfollowed := true, recurses := true, named := ["math/bits.divideError", "math/bits.overflowError", "internal/bytealg.MaxLen"], apart := false, narrowed := true }
def VecBackUptoSaid : Prop := vecBackUptoRow.holds Try.pinned (OpenSpec.upto vecBackSpec)

end Rows
end Go.Proofs.Ytipdifiahmgciaa
