/-
  No cell of these rows narrows 'for every input' (looked for: loops, veiled, ifaces, maps, wideKeys, modest, calm, conditions, laid).
  DERIVED. THE GIVEN ROWS OF THIS SEAT. 4 by the template 'for every input the law returns true; each argument reads behind the call as it read before'; 0 by the template 'total and deterministic' (their statements: YtnaclmcmicckeaaTotals.lean).
  GIVEN WITH THE SEED: the statements are not yours to turn. If you find one false, say at which input.
  Laid BY PROGRAM, IN A SANDBOX (cutbox-rows.mjs): the forced cells as the released guide's own fill.sh prints them over the translation 1ac80d6f1f0f9966… (all of the seat's roots in one cut). By AI agents, Wed Nov 11 2026. No macro, syntax, notation, axiom, sorry.
-/
import Derived.Test.YtnaclmcmicckeaaChecked
import GoSem.Claim
import GoSem.ClaimJoined
import GoSem.ClaimMapViews
import Derived.JoinedTies
import Derived.KernelRfl
namespace Go.Proofs.Ytnaclmcmicckeaa
/- THE CELL 'sum', in the pinned program and in every row, IS THE sha256 OF THE DUMP (.gsa) THAT YtnaclmcmicckeaaProg.lean LOADS. Nothing in Lean hashes anything: it is a label: what it is worth is what the hold of that sum in a sandbox is worth. -/
noncomputable def Try.pinned : Pinned := { name := "ytnaclmcmicckeaa", sum := "1ac80d6f1f0f99667048537ae1e698b5a14c158f732de4fd87e9a59acc2b9830", checked := Try.checked }
namespace Rows
def none {H : Type} : Left H := { results := [], args := [] }

/-- 'shunterlaw19.ExactKeeps': WHATEVER THE INPUT: true; the input reads as it did. -/
def exactKeepsSpec : ChangeSpec := { name := "exactKeeps", fn := fun _ => fun
  | [d1, d2, d3] => { results := [.lit (.bool true)], args := [d1, d2, d3] }
  | _ => none }
def exactKeepsRow : OpenClaim := { program := "ytnaclmcmicckeaa", sum := "1ac80d6f1f0f99667048537ae1e698b5a14c158f732de4fd87e9a59acc2b9830", func := "shunter/shunterlaw19.ExactKeeps", spec := "exactKeeps", apart := false }
def ExactKeepsSaid : Prop := exactKeepsRow.holds Try.pinned (OpenSpec.ofChange exactKeepsSpec)

/-- ITS FALSE NEIGHBOUR: 'it returns false'. Refute it at one input. -/
def exactKeepsWrong : ChangeSpec := { name := "exactKeeps", fn := fun _ => fun
  | [d1, d2, d3] => { results := [.lit (.bool false)], args := [d1, d2, d3] }
  | _ => none }
def ExactKeepsWrongFalsely : Prop := exactKeepsRow.holds Try.pinned (OpenSpec.ofChange exactKeepsWrong)

/-- 'shunterlaw19.ExactPlays': WHATEVER THE INPUT: true; the input reads as it did. -/
def exactPlaysSpec : ChangeSpec := { name := "exactPlays", fn := fun _ => fun
  | [d1, d2] => { results := [.lit (.bool true)], args := [d1, d2] }
  | _ => none }
def exactPlaysRow : OpenClaim := { program := "ytnaclmcmicckeaa", sum := "1ac80d6f1f0f99667048537ae1e698b5a14c158f732de4fd87e9a59acc2b9830", func := "shunter/shunterlaw19.ExactPlays", spec := "exactPlays", apart := false }
def ExactPlaysSaid : Prop := exactPlaysRow.holds Try.pinned (OpenSpec.ofChange exactPlaysSpec)

/-- ITS FALSE NEIGHBOUR: 'it returns false'. Refute it at one input. -/
def exactPlaysWrong : ChangeSpec := { name := "exactPlays", fn := fun _ => fun
  | [d1, d2] => { results := [.lit (.bool false)], args := [d1, d2] }
  | _ => none }
def ExactPlaysWrongFalsely : Prop := exactPlaysRow.holds Try.pinned (OpenSpec.ofChange exactPlaysWrong)

/-- 'shunterlaw19.ExactLists': WHATEVER THE INPUT: true; the input reads as it did. -/
def exactListsSpec : ChangeSpec := { name := "exactLists", fn := fun _ => fun
  | [d1, d2] => { results := [.lit (.bool true)], args := [d1, d2] }
  | _ => none }
def exactListsRow : OpenClaim := { program := "ytnaclmcmicckeaa", sum := "1ac80d6f1f0f99667048537ae1e698b5a14c158f732de4fd87e9a59acc2b9830", func := "shunter/shunterlaw19.ExactLists", spec := "exactLists", inPlace := ["math/bits.Sub64"], unfollowed := true, recurses := true, apart := false }
def ExactListsSaid : Prop := exactListsRow.holds Try.pinned (OpenSpec.ofChange exactListsSpec)

/-- ITS FALSE NEIGHBOUR: 'it returns false'. Refute it at one input. -/
def exactListsWrong : ChangeSpec := { name := "exactLists", fn := fun _ => fun
  | [d1, d2] => { results := [.lit (.bool false)], args := [d1, d2] }
  | _ => none }
def ExactListsWrongFalsely : Prop := exactListsRow.holds Try.pinned (OpenSpec.ofChange exactListsWrong)

/-- 'shunterlaw19.ExactCopies': WHATEVER THE INPUT: true; the input reads as it did. -/
def exactCopiesSpec : ChangeSpec := { name := "exactCopies", fn := fun _ => fun
  | [d1, d2] => { results := [.lit (.bool true)], args := [d1, d2] }
  | _ => none }
def exactCopiesRow : OpenClaim := { program := "ytnaclmcmicckeaa", sum := "1ac80d6f1f0f99667048537ae1e698b5a14c158f732de4fd87e9a59acc2b9830", func := "shunter/shunterlaw19.ExactCopies", spec := "exactCopies", inPlace := ["math/bits.Sub64"], unfollowed := true, recurses := true, apart := false }
def ExactCopiesSaid : Prop := exactCopiesRow.holds Try.pinned (OpenSpec.ofChange exactCopiesSpec)

/-- ITS FALSE NEIGHBOUR: 'it returns false'. Refute it at one input. -/
def exactCopiesWrong : ChangeSpec := { name := "exactCopies", fn := fun _ => fun
  | [d1, d2] => { results := [.lit (.bool false)], args := [d1, d2] }
  | _ => none }
def ExactCopiesWrongFalsely : Prop := exactCopiesRow.holds Try.pinned (OpenSpec.ofChange exactCopiesWrong)

/- THE SECOND FORM. 'bulk': how many values and letters a reading holds, each counted each time it is reached (what is shared counts as often as it is met; a slice's spare places count too). A statement '..UptoSaid' is the law's where the arguments, and the package variables that the reading takes, are together of bulk at most 1048576: NARROWER than '..Said'. Prove '..Said' where nothing that the law and all that it calls make is longer than what came in: it says more and counts as full. Else prove '..UptoSaid'. A law counts once. -/
mutual
def uptoBulk {H : Type} : DataW H → Nat
  | .lit (.string bytes) => bytes.length + 1
  | .lit _ => 1
  | .nil => 1
  | .ptr d => uptoBulk d + 1
  | .slice elems spare => uptoBulkAll elems + uptoBulkAll spare + 1
  | .agg parts => uptoBulkAll parts + 1
  | .iface _ d => uptoBulk d + 1
  | .map entries => uptoBulkEntries entries + 1
  | .held _ => 1
def uptoBulkAll {H : Type} : List (DataW H) → Nat
  | [] => 0
  | d :: r => uptoBulk d + uptoBulkAll r
def uptoBulkEntries {H : Type} : List (Lit × DataW H) → Nat
  | [] => 0
  | x :: r => uptoBulkEntry x + uptoBulkEntries r
def uptoBulkEntry {H : Type} : Lit × DataW H → Nat
  | (.string bytes, d) => bytes.length + uptoBulk d + 1
  | (_, d) => uptoBulk d + 1
 end
def uptoSmall : (H : Type) → List (DataW H) → Bool := fun _ ds => decide (uptoBulkAll ds ≤ 1048576)
def OpenSpec.upto (s : _root_.Go.ChangeSpec) : _root_.Go.OpenSpec := { _root_.Go.OpenSpec.ofChange s with cond := some uptoSmall }

/-- 'shunterlaw19.ExactKeeps', WHERE WHAT IT READS IS OF BULK AT MOST 1048576: true; the input reads as it did. -/
def exactKeepsUptoRow : OpenClaim := { program := "ytnaclmcmicckeaa", sum := "1ac80d6f1f0f99667048537ae1e698b5a14c158f732de4fd87e9a59acc2b9830", func := "shunter/shunterlaw19.ExactKeeps", spec := "exactKeeps", apart := false, narrowed := true }
def ExactKeepsUptoSaid : Prop := exactKeepsUptoRow.holds Try.pinned (OpenSpec.upto exactKeepsSpec)

/-- 'shunterlaw19.ExactPlays', WHERE WHAT IT READS IS OF BULK AT MOST 1048576: true; the input reads as it did. -/
def exactPlaysUptoRow : OpenClaim := { program := "ytnaclmcmicckeaa", sum := "1ac80d6f1f0f99667048537ae1e698b5a14c158f732de4fd87e9a59acc2b9830", func := "shunter/shunterlaw19.ExactPlays", spec := "exactPlays", apart := false, narrowed := true }
def ExactPlaysUptoSaid : Prop := exactPlaysUptoRow.holds Try.pinned (OpenSpec.upto exactPlaysSpec)

/-- 'shunterlaw19.ExactLists', WHERE WHAT IT READS IS OF BULK AT MOST 1048576: true; the input reads as it did. -/
def exactListsUptoRow : OpenClaim := { program := "ytnaclmcmicckeaa", sum := "1ac80d6f1f0f99667048537ae1e698b5a14c158f732de4fd87e9a59acc2b9830", func := "shunter/shunterlaw19.ExactLists", spec := "exactLists", inPlace := ["math/bits.Sub64"], unfollowed := true, recurses := true, apart := false, narrowed := true }
def ExactListsUptoSaid : Prop := exactListsUptoRow.holds Try.pinned (OpenSpec.upto exactListsSpec)

/-- 'shunterlaw19.ExactCopies', WHERE WHAT IT READS IS OF BULK AT MOST 1048576: true; the input reads as it did. -/
def exactCopiesUptoRow : OpenClaim := { program := "ytnaclmcmicckeaa", sum := "1ac80d6f1f0f99667048537ae1e698b5a14c158f732de4fd87e9a59acc2b9830", func := "shunter/shunterlaw19.ExactCopies", spec := "exactCopies", inPlace := ["math/bits.Sub64"], unfollowed := true, recurses := true, apart := false, narrowed := true }
def ExactCopiesUptoSaid : Prop := exactCopiesUptoRow.holds Try.pinned (OpenSpec.upto exactCopiesSpec)

end Rows
end Go.Proofs.Ytnaclmcmicckeaa
