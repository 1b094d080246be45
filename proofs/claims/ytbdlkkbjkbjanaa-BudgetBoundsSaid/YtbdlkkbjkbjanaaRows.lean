/-
  No cell of these rows narrows 'for every input' (looked for: loops, veiled, ifaces, maps, wideKeys, modest, calm, conditions, laid).
  DERIVED. THE GIVEN ROWS OF THIS SEAT. 11 by the template 'for every input the law returns true; each argument reads behind the call as it read before'; 0 by the template 'total and deterministic' (their statements: YtbdlkkbjkbjanaaTotals.lean).
  GIVEN WITH THE SEED: the statements are not yours to turn. If you find one false, say at which input.
  Laid BY PROGRAM, IN A SANDBOX (cutbox-rows.mjs): the forced cells as the released guide's own fill.sh prints them over the translation 574d550f67147e66… (all of the seat's roots in one cut). By AI agents, Wed Nov 11 2026. No macro, syntax, notation, axiom, sorry.
-/
import Derived.Test.YtbdlkkbjkbjanaaChecked
import GoSem.Claim
import GoSem.ClaimJoined
import GoSem.ClaimMapViews
import Derived.JoinedTies
import Derived.KernelRfl
namespace Go.Proofs.Ytbdlkkbjkbjanaa
/- THE CELL 'sum', in the pinned program and in every row, IS THE sha256 OF THE DUMP (.gsa) THAT YtbdlkkbjkbjanaaProg.lean LOADS. Nothing in Lean hashes anything: it is a label: what it is worth is what the hold of that sum in a sandbox is worth. -/
noncomputable def Try.pinned : Pinned := { name := "ytbdlkkbjkbjanaa", sum := "574d550f67147e669126052e59d3fdc7fbe7a6ba0094bcb28b8f9ec67776715a", checked := Try.checked }
namespace Rows
def none {H : Type} : Left H := { results := [], args := [] }

/-- 'aeriallaw20.BudgetPlays': WHATEVER THE INPUT: true; the input reads as it did. -/
def budgetPlaysSpec : ChangeSpec := { name := "budgetPlays", fn := fun _ => fun
  | [d1, d2] => { results := [.lit (.bool true)], args := [d1, d2] }
  | _ => none }
def budgetPlaysRow : OpenClaim := { program := "ytbdlkkbjkbjanaa", sum := "574d550f67147e669126052e59d3fdc7fbe7a6ba0094bcb28b8f9ec67776715a", func := "aerial/aeriallaw20.BudgetPlays", spec := "budgetPlays", unfollowed := true, recurses := true, apart := false }
def BudgetPlaysSaid : Prop := budgetPlaysRow.holds Try.pinned (OpenSpec.ofChange budgetPlaysSpec)

/-- ITS FALSE NEIGHBOUR: 'it returns false'. Refute it at one input. -/
def budgetPlaysWrong : ChangeSpec := { name := "budgetPlays", fn := fun _ => fun
  | [d1, d2] => { results := [.lit (.bool false)], args := [d1, d2] }
  | _ => none }
def BudgetPlaysWrongFalsely : Prop := budgetPlaysRow.holds Try.pinned (OpenSpec.ofChange budgetPlaysWrong)

/-- 'aeriallaw20.BudgetBounds': WHATEVER THE INPUT: true; the input reads as it did. -/
def budgetBoundsSpec : ChangeSpec := { name := "budgetBounds", fn := fun _ => fun
  | [d1, d2] => { results := [.lit (.bool true)], args := [d1, d2] }
  | _ => none }
def budgetBoundsRow : OpenClaim := { program := "ytbdlkkbjkbjanaa", sum := "574d550f67147e669126052e59d3fdc7fbe7a6ba0094bcb28b8f9ec67776715a", func := "aerial/aeriallaw20.BudgetBounds", spec := "budgetBounds", unfollowed := true, recurses := true, apart := false }
def BudgetBoundsSaid : Prop := budgetBoundsRow.holds Try.pinned (OpenSpec.ofChange budgetBoundsSpec)

/-- ITS FALSE NEIGHBOUR: 'it returns false'. Refute it at one input. -/
def budgetBoundsWrong : ChangeSpec := { name := "budgetBounds", fn := fun _ => fun
  | [d1, d2] => { results := [.lit (.bool false)], args := [d1, d2] }
  | _ => none }
def BudgetBoundsWrongFalsely : Prop := budgetBoundsRow.holds Try.pinned (OpenSpec.ofChange budgetBoundsWrong)

/-- 'aeriallaw20.BudgetKeeps': WHATEVER THE INPUT: true; the input reads as it did. -/
def budgetKeepsSpec : ChangeSpec := { name := "budgetKeeps", fn := fun _ => fun
  | [d1, d2] => { results := [.lit (.bool true)], args := [d1, d2] }
  | _ => none }
def budgetKeepsRow : OpenClaim := { program := "ytbdlkkbjkbjanaa", sum := "574d550f67147e669126052e59d3fdc7fbe7a6ba0094bcb28b8f9ec67776715a", func := "aerial/aeriallaw20.BudgetKeeps", spec := "budgetKeeps", unfollowed := true, recurses := true, apart := false }
def BudgetKeepsSaid : Prop := budgetKeepsRow.holds Try.pinned (OpenSpec.ofChange budgetKeepsSpec)

/-- ITS FALSE NEIGHBOUR: 'it returns false'. Refute it at one input. -/
def budgetKeepsWrong : ChangeSpec := { name := "budgetKeeps", fn := fun _ => fun
  | [d1, d2] => { results := [.lit (.bool false)], args := [d1, d2] }
  | _ => none }
def BudgetKeepsWrongFalsely : Prop := budgetKeepsRow.holds Try.pinned (OpenSpec.ofChange budgetKeepsWrong)

/-- 'aeriallaw20.BudgetParts': WHATEVER THE INPUT: true; the input reads as it did. -/
def budgetPartsSpec : ChangeSpec := { name := "budgetParts", fn := fun _ => fun
  | [d1, d2, d3] => { results := [.lit (.bool true)], args := [d1, d2, d3] }
  | _ => none }
def budgetPartsRow : OpenClaim := { program := "ytbdlkkbjkbjanaa", sum := "574d550f67147e669126052e59d3fdc7fbe7a6ba0094bcb28b8f9ec67776715a", func := "aerial/aeriallaw20.BudgetParts", spec := "budgetParts", unfollowed := true, recurses := true, apart := false }
def BudgetPartsSaid : Prop := budgetPartsRow.holds Try.pinned (OpenSpec.ofChange budgetPartsSpec)

/-- ITS FALSE NEIGHBOUR: 'it returns false'. Refute it at one input. -/
def budgetPartsWrong : ChangeSpec := { name := "budgetParts", fn := fun _ => fun
  | [d1, d2, d3] => { results := [.lit (.bool false)], args := [d1, d2, d3] }
  | _ => none }
def BudgetPartsWrongFalsely : Prop := budgetPartsRow.holds Try.pinned (OpenSpec.ofChange budgetPartsWrong)

/-- 'aeriallaw20.BudgetKnown': WHATEVER THE INPUT: true; the input reads as it did. -/
def budgetKnownSpec : ChangeSpec := { name := "budgetKnown", fn := fun _ => fun
  | [] => { results := [.lit (.bool true)], args := [] }
  | _ => none }
def budgetKnownRow : OpenClaim := { program := "ytbdlkkbjkbjanaa", sum := "574d550f67147e669126052e59d3fdc7fbe7a6ba0094bcb28b8f9ec67776715a", func := "aerial/aeriallaw20.BudgetKnown", spec := "budgetKnown", unfollowed := true, recurses := true, apart := false }
def BudgetKnownSaid : Prop := budgetKnownRow.holds Try.pinned (OpenSpec.ofChange budgetKnownSpec)

/-- ITS FALSE NEIGHBOUR: 'it returns false'. Refute it at one input. -/
def budgetKnownWrong : ChangeSpec := { name := "budgetKnown", fn := fun _ => fun
  | [] => { results := [.lit (.bool false)], args := [] }
  | _ => none }
def BudgetKnownWrongFalsely : Prop := budgetKnownRow.holds Try.pinned (OpenSpec.ofChange budgetKnownWrong)

/-- 'aeriallaw04.CountAdds': WHATEVER THE INPUT: true; the input reads as it did. -/
def countAddsSpec : ChangeSpec := { name := "countAdds", fn := fun _ => fun
  | [d] => { results := [.lit (.bool true)], args := [d] }
  | _ => none }
def countAddsRow : OpenClaim := { program := "ytbdlkkbjkbjanaa", sum := "574d550f67147e669126052e59d3fdc7fbe7a6ba0094bcb28b8f9ec67776715a", func := "aerial/aeriallaw04.CountAdds", spec := "countAdds", unfollowed := true, recurses := true, apart := false }
def CountAddsSaid : Prop := countAddsRow.holds Try.pinned (OpenSpec.ofChange countAddsSpec)

/-- ITS FALSE NEIGHBOUR: 'it returns false'. Refute it at one input. -/
def countAddsWrong : ChangeSpec := { name := "countAdds", fn := fun _ => fun
  | [d] => { results := [.lit (.bool false)], args := [d] }
  | _ => none }
def CountAddsWrongFalsely : Prop := countAddsRow.holds Try.pinned (OpenSpec.ofChange countAddsWrong)

/-- 'aeriallaw04.CountSums': WHATEVER THE INPUT: true; the input reads as it did. -/
def countSumsSpec : ChangeSpec := { name := "countSums", fn := fun _ => fun
  | [d1, d2, d3] => { results := [.lit (.bool true)], args := [d1, d2, d3] }
  | _ => none }
def countSumsRow : OpenClaim := { program := "ytbdlkkbjkbjanaa", sum := "574d550f67147e669126052e59d3fdc7fbe7a6ba0094bcb28b8f9ec67776715a", func := "aerial/aeriallaw04.CountSums", spec := "countSums", unfollowed := true, recurses := true, apart := false }
def CountSumsSaid : Prop := countSumsRow.holds Try.pinned (OpenSpec.ofChange countSumsSpec)

/-- ITS FALSE NEIGHBOUR: 'it returns false'. Refute it at one input. -/
def countSumsWrong : ChangeSpec := { name := "countSums", fn := fun _ => fun
  | [d1, d2, d3] => { results := [.lit (.bool false)], args := [d1, d2, d3] }
  | _ => none }
def CountSumsWrongFalsely : Prop := countSumsRow.holds Try.pinned (OpenSpec.ofChange countSumsWrong)

/-- 'aeriallaw04.CountRises': WHATEVER THE INPUT: true; the input reads as it did. -/
def countRisesSpec : ChangeSpec := { name := "countRises", fn := fun _ => fun
  | [d] => { results := [.lit (.bool true)], args := [d] }
  | _ => none }
def countRisesRow : OpenClaim := { program := "ytbdlkkbjkbjanaa", sum := "574d550f67147e669126052e59d3fdc7fbe7a6ba0094bcb28b8f9ec67776715a", func := "aerial/aeriallaw04.CountRises", spec := "countRises", unfollowed := true, recurses := true, apart := false }
def CountRisesSaid : Prop := countRisesRow.holds Try.pinned (OpenSpec.ofChange countRisesSpec)

/-- ITS FALSE NEIGHBOUR: 'it returns false'. Refute it at one input. -/
def countRisesWrong : ChangeSpec := { name := "countRises", fn := fun _ => fun
  | [d] => { results := [.lit (.bool false)], args := [d] }
  | _ => none }
def CountRisesWrongFalsely : Prop := countRisesRow.holds Try.pinned (OpenSpec.ofChange countRisesWrong)

/-- 'aeriallaw04.CountTurned': WHATEVER THE INPUT: true; the input reads as it did. -/
def countTurnedSpec : ChangeSpec := { name := "countTurned", fn := fun _ => fun
  | [d1, d2, d3] => { results := [.lit (.bool true)], args := [d1, d2, d3] }
  | _ => none }
def countTurnedRow : OpenClaim := { program := "ytbdlkkbjkbjanaa", sum := "574d550f67147e669126052e59d3fdc7fbe7a6ba0094bcb28b8f9ec67776715a", func := "aerial/aeriallaw04.CountTurned", spec := "countTurned", unfollowed := true, recurses := true, apart := false }
def CountTurnedSaid : Prop := countTurnedRow.holds Try.pinned (OpenSpec.ofChange countTurnedSpec)

/-- ITS FALSE NEIGHBOUR: 'it returns false'. Refute it at one input. -/
def countTurnedWrong : ChangeSpec := { name := "countTurned", fn := fun _ => fun
  | [d1, d2, d3] => { results := [.lit (.bool false)], args := [d1, d2, d3] }
  | _ => none }
def CountTurnedWrongFalsely : Prop := countTurnedRow.holds Try.pinned (OpenSpec.ofChange countTurnedWrong)

/-- 'aeriallaw04.CountParts': WHATEVER THE INPUT: true; the input reads as it did. -/
def countPartsSpec : ChangeSpec := { name := "countParts", fn := fun _ => fun
  | [d1, d2] => { results := [.lit (.bool true)], args := [d1, d2] }
  | _ => none }
def countPartsRow : OpenClaim := { program := "ytbdlkkbjkbjanaa", sum := "574d550f67147e669126052e59d3fdc7fbe7a6ba0094bcb28b8f9ec67776715a", func := "aerial/aeriallaw04.CountParts", spec := "countParts", unfollowed := true, recurses := true, apart := false }
def CountPartsSaid : Prop := countPartsRow.holds Try.pinned (OpenSpec.ofChange countPartsSpec)

/-- ITS FALSE NEIGHBOUR: 'it returns false'. Refute it at one input. -/
def countPartsWrong : ChangeSpec := { name := "countParts", fn := fun _ => fun
  | [d1, d2] => { results := [.lit (.bool false)], args := [d1, d2] }
  | _ => none }
def CountPartsWrongFalsely : Prop := countPartsRow.holds Try.pinned (OpenSpec.ofChange countPartsWrong)

/-- 'aeriallaw04.CountKnown': WHATEVER THE INPUT: true; the input reads as it did. -/
def countKnownSpec : ChangeSpec := { name := "countKnown", fn := fun _ => fun
  | [] => { results := [.lit (.bool true)], args := [] }
  | _ => none }
def countKnownRow : OpenClaim := { program := "ytbdlkkbjkbjanaa", sum := "574d550f67147e669126052e59d3fdc7fbe7a6ba0094bcb28b8f9ec67776715a", func := "aerial/aeriallaw04.CountKnown", spec := "countKnown", unfollowed := true, recurses := true, apart := false }
def CountKnownSaid : Prop := countKnownRow.holds Try.pinned (OpenSpec.ofChange countKnownSpec)

/-- ITS FALSE NEIGHBOUR: 'it returns false'. Refute it at one input. -/
def countKnownWrong : ChangeSpec := { name := "countKnown", fn := fun _ => fun
  | [] => { results := [.lit (.bool false)], args := [] }
  | _ => none }
def CountKnownWrongFalsely : Prop := countKnownRow.holds Try.pinned (OpenSpec.ofChange countKnownWrong)

/- THE SECOND FORM. 'bulk': how many values and letters a reading holds, each counted each time it is reached (what is shared counts as often as it is met; a slice's spare places count too). A statement '..UptoSaid' is the law's where the arguments, and the package variables that the reading takes, are together of bulk at most 1048576: NARROWER than '..Said'. Prove '..Said' where nothing that the law and all that it calls make is longer than what came in: it says more and counts as full. Else prove '..UptoSaid'. A law counts once. -/
mutual
def uptoBulk {H : Type} : DataW H → Nat
  | .lit (.string bytes) => bytes.length + 1
  | .lit _ => 1
  | .nil => 1
  | .ptr d => uptoBulk d + 1
  | .slice elems spare => uptoBulkAll elems + uptoBulkAll spare + 1
  | .agg parts => uptoBulkAll parts + 1
  | .iface _ d => uptoBulk d + 1
  | .map entries => uptoBulkEntries entries + 1
  | .held _ => 1
def uptoBulkAll {H : Type} : List (DataW H) → Nat
  | [] => 0
  | d :: r => uptoBulk d + uptoBulkAll r
def uptoBulkEntries {H : Type} : List (Lit × DataW H) → Nat
  | [] => 0
  | x :: r => uptoBulkEntry x + uptoBulkEntries r
def uptoBulkEntry {H : Type} : Lit × DataW H → Nat
  | (.string bytes, d) => bytes.length + uptoBulk d + 1
  | (_, d) => uptoBulk d + 1
 end
def uptoSmall : (H : Type) → List (DataW H) → Bool := fun _ ds => decide (uptoBulkAll ds ≤ 1048576)
def OpenSpec.upto (s : _root_.Go.ChangeSpec) : _root_.Go.OpenSpec := { _root_.Go.OpenSpec.ofChange s with cond := some uptoSmall }

/-- 'aeriallaw20.BudgetPlays', WHERE WHAT IT READS IS OF BULK AT MOST 1048576: true; the input reads as it did. -/
def budgetPlaysUptoRow : OpenClaim := { program := "ytbdlkkbjkbjanaa", sum := "574d550f67147e669126052e59d3fdc7fbe7a6ba0094bcb28b8f9ec67776715a", func := "aerial/aeriallaw20.BudgetPlays", spec := "budgetPlays", unfollowed := true, recurses := true, apart := false, narrowed := true }
def BudgetPlaysUptoSaid : Prop := budgetPlaysUptoRow.holds Try.pinned (OpenSpec.upto budgetPlaysSpec)

/-- 'aeriallaw20.BudgetBounds', WHERE WHAT IT READS IS OF BULK AT MOST 1048576: true; the input reads as it did. -/
def budgetBoundsUptoRow : OpenClaim := { program := "ytbdlkkbjkbjanaa", sum := "574d550f67147e669126052e59d3fdc7fbe7a6ba0094bcb28b8f9ec67776715a", func := "aerial/aeriallaw20.BudgetBounds", spec := "budgetBounds", unfollowed := true, recurses := true, apart := false, narrowed := true }
def BudgetBoundsUptoSaid : Prop := budgetBoundsUptoRow.holds Try.pinned (OpenSpec.upto budgetBoundsSpec)

/-- 'aeriallaw20.BudgetKeeps', WHERE WHAT IT READS IS OF BULK AT MOST 1048576: true; the input reads as it did. -/
def budgetKeepsUptoRow : OpenClaim := { program := "ytbdlkkbjkbjanaa", sum := "574d550f67147e669126052e59d3fdc7fbe7a6ba0094bcb28b8f9ec67776715a", func := "aerial/aeriallaw20.BudgetKeeps", spec := "budgetKeeps", unfollowed := true, recurses := true, apart := false, narrowed := true }
def BudgetKeepsUptoSaid : Prop := budgetKeepsUptoRow.holds Try.pinned (OpenSpec.upto budgetKeepsSpec)

/-- 'aeriallaw20.BudgetParts', WHERE WHAT IT READS IS OF BULK AT MOST 1048576: true; the input reads as it did. -/
def budgetPartsUptoRow : OpenClaim := { program := "ytbdlkkbjkbjanaa", sum := "574d550f67147e669126052e59d3fdc7fbe7a6ba0094bcb28b8f9ec67776715a", func := "aerial/aeriallaw20.BudgetParts", spec := "budgetParts", unfollowed := true, recurses := true, apart := false, narrowed := true }
def BudgetPartsUptoSaid : Prop := budgetPartsUptoRow.holds Try.pinned (OpenSpec.upto budgetPartsSpec)

/-- 'aeriallaw20.BudgetKnown', WHERE WHAT IT READS IS OF BULK AT MOST 1048576: true; the input reads as it did. -/
def budgetKnownUptoRow : OpenClaim := { program := "ytbdlkkbjkbjanaa", sum := "574d550f67147e669126052e59d3fdc7fbe7a6ba0094bcb28b8f9ec67776715a", func := "aerial/aeriallaw20.BudgetKnown", spec := "budgetKnown", unfollowed := true, recurses := true, apart := false, narrowed := true }
def BudgetKnownUptoSaid : Prop := budgetKnownUptoRow.holds Try.pinned (OpenSpec.upto budgetKnownSpec)

/-- 'aeriallaw04.CountAdds', WHERE WHAT IT READS IS OF BULK AT MOST 1048576: true; the input reads as it did. -/
def countAddsUptoRow : OpenClaim := { program := "ytbdlkkbjkbjanaa", sum := "574d550f67147e669126052e59d3fdc7fbe7a6ba0094bcb28b8f9ec67776715a", func := "aerial/aeriallaw04.CountAdds", spec := "countAdds", unfollowed := true, recurses := true, apart := false, narrowed := true }
def CountAddsUptoSaid : Prop := countAddsUptoRow.holds Try.pinned (OpenSpec.upto countAddsSpec)

/-- 'aeriallaw04.CountSums', WHERE WHAT IT READS IS OF BULK AT MOST 1048576: true; the input reads as it did. -/
def countSumsUptoRow : OpenClaim := { program := "ytbdlkkbjkbjanaa", sum := "574d550f67147e669126052e59d3fdc7fbe7a6ba0094bcb28b8f9ec67776715a", func := "aerial/aeriallaw04.CountSums", spec := "countSums", unfollowed := true, recurses := true, apart := false, narrowed := true }
def CountSumsUptoSaid : Prop := countSumsUptoRow.holds Try.pinned (OpenSpec.upto countSumsSpec)

/-- 'aeriallaw04.CountRises', WHERE WHAT IT READS IS OF BULK AT MOST 1048576: true; the input reads as it did. -/
def countRisesUptoRow : OpenClaim := { program := "ytbdlkkbjkbjanaa", sum := "574d550f67147e669126052e59d3fdc7fbe7a6ba0094bcb28b8f9ec67776715a", func := "aerial/aeriallaw04.CountRises", spec := "countRises", unfollowed := true, recurses := true, apart := false, narrowed := true }
def CountRisesUptoSaid : Prop := countRisesUptoRow.holds Try.pinned (OpenSpec.upto countRisesSpec)

/-- 'aeriallaw04.CountTurned', WHERE WHAT IT READS IS OF BULK AT MOST 1048576: true; the input reads as it did. -/
def countTurnedUptoRow : OpenClaim := { program := "ytbdlkkbjkbjanaa", sum := "574d550f67147e669126052e59d3fdc7fbe7a6ba0094bcb28b8f9ec67776715a", func := "aerial/aeriallaw04.CountTurned", spec := "countTurned", unfollowed := true, recurses := true, apart := false, narrowed := true }
def CountTurnedUptoSaid : Prop := countTurnedUptoRow.holds Try.pinned (OpenSpec.upto countTurnedSpec)

/-- 'aeriallaw04.CountParts', WHERE WHAT IT READS IS OF BULK AT MOST 1048576: true; the input reads as it did. -/
def countPartsUptoRow : OpenClaim := { program := "ytbdlkkbjkbjanaa", sum := "574d550f67147e669126052e59d3fdc7fbe7a6ba0094bcb28b8f9ec67776715a", func := "aerial/aeriallaw04.CountParts", spec := "countParts", unfollowed := true, recurses := true, apart := false, narrowed := true }
def CountPartsUptoSaid : Prop := countPartsUptoRow.holds Try.pinned (OpenSpec.upto countPartsSpec)

/-- 'aeriallaw04.CountKnown', WHERE WHAT IT READS IS OF BULK AT MOST 1048576: true; the input reads as it did. -/
def countKnownUptoRow : OpenClaim := { program := "ytbdlkkbjkbjanaa", sum := "574d550f67147e669126052e59d3fdc7fbe7a6ba0094bcb28b8f9ec67776715a", func := "aerial/aeriallaw04.CountKnown", spec := "countKnown", unfollowed := true, recurses := true, apart := false, narrowed := true }
def CountKnownUptoSaid : Prop := countKnownUptoRow.holds Try.pinned (OpenSpec.upto countKnownSpec)

end Rows
end Go.Proofs.Ytbdlkkbjkbjanaa
