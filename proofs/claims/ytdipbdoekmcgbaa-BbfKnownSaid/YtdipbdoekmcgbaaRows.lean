/-
  No cell of these rows narrows 'for every input' (looked for: loops, veiled, ifaces, maps, wideKeys, modest, calm, conditions, laid).
  DERIVED. THE GIVEN ROWS OF THIS SEAT. 10 by the template 'for every input the law returns true; each argument reads behind the call as it read before'; 0 by the template 'total and deterministic' (their statements: YtdipbdoekmcgbaaTotals.lean).
  GIVEN WITH THE SEED: the statements are not yours to turn. If you find one false, say at which input.
  Laid BY PROGRAM, IN A SANDBOX (cutbox-rows.mjs): the forced cells as the released guide's own fill.sh prints them over the translation 867a93219bcb1c04… (all of the seat's roots in one cut). By AI agents, Wed Nov 11 2026. No macro, syntax, notation, axiom, sorry.
-/
import Derived.Test.YtdipbdoekmcgbaaChecked
import GoSem.Claim
import GoSem.ClaimJoined
import GoSem.ClaimMapViews
import Derived.JoinedTies
import Derived.KernelRfl
namespace Go.Proofs.Ytdipbdoekmcgbaa
/- THE CELL 'sum', in the pinned program and in every row, IS THE sha256 OF THE DUMP (.gsa) THAT YtdipbdoekmcgbaaProg.lean LOADS. Nothing in Lean hashes anything: it is a label: what it is worth is what the hold of that sum in a sandbox is worth. -/
noncomputable def Try.pinned : Pinned := { name := "ytdipbdoekmcgbaa", sum := "867a93219bcb1c04c5efc88b919488bf6582e8a7ab53300c92938163b7d952cc", checked := Try.checked }
namespace Rows
def none {H : Type} : Left H := { results := [], args := [] }

/-- 'aeriallaw13.BbhLaid': WHATEVER THE INPUT: true; the input reads as it did. -/
def bbhLaidSpec : ChangeSpec := { name := "bbhLaid", fn := fun _ => fun
  | [d] => { results := [.lit (.bool true)], args := [d] }
  | _ => none }
def bbhLaidRow : OpenClaim := { program := "ytdipbdoekmcgbaa", sum := "867a93219bcb1c04c5efc88b919488bf6582e8a7ab53300c92938163b7d952cc", func := "aerial/aeriallaw13.BbhLaid", spec := "bbhLaid", unfollowed := true, recurses := true, apart := false }
def BbhLaidSaid : Prop := bbhLaidRow.holds Try.pinned (OpenSpec.ofChange bbhLaidSpec)

/-- ITS FALSE NEIGHBOUR: 'it returns false'. Refute it at one input. -/
def bbhLaidWrong : ChangeSpec := { name := "bbhLaid", fn := fun _ => fun
  | [d] => { results := [.lit (.bool false)], args := [d] }
  | _ => none }
def BbhLaidWrongFalsely : Prop := bbhLaidRow.holds Try.pinned (OpenSpec.ofChange bbhLaidWrong)

/-- 'aeriallaw13.BbhRead': WHATEVER THE INPUT: true; the input reads as it did. -/
def bbhReadSpec : ChangeSpec := { name := "bbhRead", fn := fun _ => fun
  | [d] => { results := [.lit (.bool true)], args := [d] }
  | _ => none }
def bbhReadRow : OpenClaim := { program := "ytdipbdoekmcgbaa", sum := "867a93219bcb1c04c5efc88b919488bf6582e8a7ab53300c92938163b7d952cc", func := "aerial/aeriallaw13.BbhRead", spec := "bbhRead", unfollowed := true, recurses := true, apart := false }
def BbhReadSaid : Prop := bbhReadRow.holds Try.pinned (OpenSpec.ofChange bbhReadSpec)

/-- ITS FALSE NEIGHBOUR: 'it returns false'. Refute it at one input. -/
def bbhReadWrong : ChangeSpec := { name := "bbhRead", fn := fun _ => fun
  | [d] => { results := [.lit (.bool false)], args := [d] }
  | _ => none }
def BbhReadWrongFalsely : Prop := bbhReadRow.holds Try.pinned (OpenSpec.ofChange bbhReadWrong)

/-- 'aeriallaw13.BbhBack': WHATEVER THE INPUT: true; the input reads as it did. -/
def bbhBackSpec : ChangeSpec := { name := "bbhBack", fn := fun _ => fun
  | [d1, d2] => { results := [.lit (.bool true)], args := [d1, d2] }
  | _ => none }
def bbhBackRow : OpenClaim := { program := "ytdipbdoekmcgbaa", sum := "867a93219bcb1c04c5efc88b919488bf6582e8a7ab53300c92938163b7d952cc", func := "aerial/aeriallaw13.BbhBack", spec := "bbhBack", unfollowed := true, recurses := true, apart := false }
def BbhBackSaid : Prop := bbhBackRow.holds Try.pinned (OpenSpec.ofChange bbhBackSpec)

/-- ITS FALSE NEIGHBOUR: 'it returns false'. Refute it at one input. -/
def bbhBackWrong : ChangeSpec := { name := "bbhBack", fn := fun _ => fun
  | [d1, d2] => { results := [.lit (.bool false)], args := [d1, d2] }
  | _ => none }
def BbhBackWrongFalsely : Prop := bbhBackRow.holds Try.pinned (OpenSpec.ofChange bbhBackWrong)

/-- 'aeriallaw13.BbhTurned': WHATEVER THE INPUT: true; the input reads as it did. -/
def bbhTurnedSpec : ChangeSpec := { name := "bbhTurned", fn := fun _ => fun
  | [d1, d2, d3] => { results := [.lit (.bool true)], args := [d1, d2, d3] }
  | _ => none }
def bbhTurnedRow : OpenClaim := { program := "ytdipbdoekmcgbaa", sum := "867a93219bcb1c04c5efc88b919488bf6582e8a7ab53300c92938163b7d952cc", func := "aerial/aeriallaw13.BbhTurned", spec := "bbhTurned", unfollowed := true, recurses := true, apart := false }
def BbhTurnedSaid : Prop := bbhTurnedRow.holds Try.pinned (OpenSpec.ofChange bbhTurnedSpec)

/-- ITS FALSE NEIGHBOUR: 'it returns false'. Refute it at one input. -/
def bbhTurnedWrong : ChangeSpec := { name := "bbhTurned", fn := fun _ => fun
  | [d1, d2, d3] => { results := [.lit (.bool false)], args := [d1, d2, d3] }
  | _ => none }
def BbhTurnedWrongFalsely : Prop := bbhTurnedRow.holds Try.pinned (OpenSpec.ofChange bbhTurnedWrong)

/-- 'aeriallaw13.BbhKnown': WHATEVER THE INPUT: true; the input reads as it did. -/
def bbhKnownSpec : ChangeSpec := { name := "bbhKnown", fn := fun _ => fun
  | [] => { results := [.lit (.bool true)], args := [] }
  | _ => none }
def bbhKnownRow : OpenClaim := { program := "ytdipbdoekmcgbaa", sum := "867a93219bcb1c04c5efc88b919488bf6582e8a7ab53300c92938163b7d952cc", func := "aerial/aeriallaw13.BbhKnown", spec := "bbhKnown", unfollowed := true, recurses := true, apart := false }
def BbhKnownSaid : Prop := bbhKnownRow.holds Try.pinned (OpenSpec.ofChange bbhKnownSpec)

/-- ITS FALSE NEIGHBOUR: 'it returns false'. Refute it at one input. -/
def bbhKnownWrong : ChangeSpec := { name := "bbhKnown", fn := fun _ => fun
  | [] => { results := [.lit (.bool false)], args := [] }
  | _ => none }
def BbhKnownWrongFalsely : Prop := bbhKnownRow.holds Try.pinned (OpenSpec.ofChange bbhKnownWrong)

/-- 'aeriallaw14.BbfPacks': WHATEVER THE INPUT: true; the input reads as it did. -/
def bbfPacksSpec : ChangeSpec := { name := "bbfPacks", fn := fun _ => fun
  | [d1, d2] => { results := [.lit (.bool true)], args := [d1, d2] }
  | _ => none }
def bbfPacksRow : OpenClaim := { program := "ytdipbdoekmcgbaa", sum := "867a93219bcb1c04c5efc88b919488bf6582e8a7ab53300c92938163b7d952cc", func := "aerial/aeriallaw14.BbfPacks", spec := "bbfPacks", unfollowed := true, recurses := true, apart := false }
def BbfPacksSaid : Prop := bbfPacksRow.holds Try.pinned (OpenSpec.ofChange bbfPacksSpec)

/-- ITS FALSE NEIGHBOUR: 'it returns false'. Refute it at one input. -/
def bbfPacksWrong : ChangeSpec := { name := "bbfPacks", fn := fun _ => fun
  | [d1, d2] => { results := [.lit (.bool false)], args := [d1, d2] }
  | _ => none }
def BbfPacksWrongFalsely : Prop := bbfPacksRow.holds Try.pinned (OpenSpec.ofChange bbfPacksWrong)

/-- 'aeriallaw14.BbfUnpacks': WHATEVER THE INPUT: true; the input reads as it did. -/
def bbfUnpacksSpec : ChangeSpec := { name := "bbfUnpacks", fn := fun _ => fun
  | [d1, d2, d3] => { results := [.lit (.bool true)], args := [d1, d2, d3] }
  | _ => none }
def bbfUnpacksRow : OpenClaim := { program := "ytdipbdoekmcgbaa", sum := "867a93219bcb1c04c5efc88b919488bf6582e8a7ab53300c92938163b7d952cc", func := "aerial/aeriallaw14.BbfUnpacks", spec := "bbfUnpacks", unfollowed := true, recurses := true, apart := false }
def BbfUnpacksSaid : Prop := bbfUnpacksRow.holds Try.pinned (OpenSpec.ofChange bbfUnpacksSpec)

/-- ITS FALSE NEIGHBOUR: 'it returns false'. Refute it at one input. -/
def bbfUnpacksWrong : ChangeSpec := { name := "bbfUnpacks", fn := fun _ => fun
  | [d1, d2, d3] => { results := [.lit (.bool false)], args := [d1, d2, d3] }
  | _ => none }
def BbfUnpacksWrongFalsely : Prop := bbfUnpacksRow.holds Try.pinned (OpenSpec.ofChange bbfUnpacksWrong)

/-- 'aeriallaw14.BbfBack': WHATEVER THE INPUT: true; the input reads as it did. -/
def bbfBackSpec : ChangeSpec := { name := "bbfBack", fn := fun _ => fun
  | [d1, d2, d3] => { results := [.lit (.bool true)], args := [d1, d2, d3] }
  | _ => none }
def bbfBackRow : OpenClaim := { program := "ytdipbdoekmcgbaa", sum := "867a93219bcb1c04c5efc88b919488bf6582e8a7ab53300c92938163b7d952cc", func := "aerial/aeriallaw14.BbfBack", spec := "bbfBack", unfollowed := true, recurses := true, apart := false }
def BbfBackSaid : Prop := bbfBackRow.holds Try.pinned (OpenSpec.ofChange bbfBackSpec)

/-- ITS FALSE NEIGHBOUR: 'it returns false'. Refute it at one input. -/
def bbfBackWrong : ChangeSpec := { name := "bbfBack", fn := fun _ => fun
  | [d1, d2, d3] => { results := [.lit (.bool false)], args := [d1, d2, d3] }
  | _ => none }
def BbfBackWrongFalsely : Prop := bbfBackRow.holds Try.pinned (OpenSpec.ofChange bbfBackWrong)

/-- 'aeriallaw14.BbfModes': WHATEVER THE INPUT: true; the input reads as it did. -/
def bbfModesSpec : ChangeSpec := { name := "bbfModes", fn := fun _ => fun
  | [d1, d2, d3] => { results := [.lit (.bool true)], args := [d1, d2, d3] }
  | _ => none }
def bbfModesRow : OpenClaim := { program := "ytdipbdoekmcgbaa", sum := "867a93219bcb1c04c5efc88b919488bf6582e8a7ab53300c92938163b7d952cc", func := "aerial/aeriallaw14.BbfModes", spec := "bbfModes", unfollowed := true, recurses := true, apart := false }
def BbfModesSaid : Prop := bbfModesRow.holds Try.pinned (OpenSpec.ofChange bbfModesSpec)

/-- ITS FALSE NEIGHBOUR: 'it returns false'. Refute it at one input. -/
def bbfModesWrong : ChangeSpec := { name := "bbfModes", fn := fun _ => fun
  | [d1, d2, d3] => { results := [.lit (.bool false)], args := [d1, d2, d3] }
  | _ => none }
def BbfModesWrongFalsely : Prop := bbfModesRow.holds Try.pinned (OpenSpec.ofChange bbfModesWrong)

/-- 'aeriallaw14.BbfKnown': WHATEVER THE INPUT: true; the input reads as it did. -/
def bbfKnownSpec : ChangeSpec := { name := "bbfKnown", fn := fun _ => fun
  | [] => { results := [.lit (.bool true)], args := [] }
  | _ => none }
def bbfKnownRow : OpenClaim := { program := "ytdipbdoekmcgbaa", sum := "867a93219bcb1c04c5efc88b919488bf6582e8a7ab53300c92938163b7d952cc", func := "aerial/aeriallaw14.BbfKnown", spec := "bbfKnown", unfollowed := true, recurses := true, apart := false }
def BbfKnownSaid : Prop := bbfKnownRow.holds Try.pinned (OpenSpec.ofChange bbfKnownSpec)

/-- ITS FALSE NEIGHBOUR: 'it returns false'. Refute it at one input. -/
def bbfKnownWrong : ChangeSpec := { name := "bbfKnown", fn := fun _ => fun
  | [] => { results := [.lit (.bool false)], args := [] }
  | _ => none }
def BbfKnownWrongFalsely : Prop := bbfKnownRow.holds Try.pinned (OpenSpec.ofChange bbfKnownWrong)

/- THE SECOND FORM. 'bulk': how many values and letters a reading holds, each counted each time it is reached (what is shared counts as often as it is met; a slice's spare places count too). A statement '..UptoSaid' is the law's where the arguments, and the package variables that the reading takes, are together of bulk at most 1048576: NARROWER than '..Said'. Prove '..Said' where nothing that the law and all that it calls make is longer than what came in: it says more and counts as full. Else prove '..UptoSaid'. A law counts once. -/
mutual
def uptoBulk {H : Type} : DataW H → Nat
  | .lit (.string bytes) => bytes.length + 1
  | .lit _ => 1
  | .nil => 1
  | .ptr d => uptoBulk d + 1
  | .slice elems spare => uptoBulkAll elems + uptoBulkAll spare + 1
  | .agg parts => uptoBulkAll parts + 1
  | .iface _ d => uptoBulk d + 1
  | .map entries => uptoBulkEntries entries + 1
  | .held _ => 1
def uptoBulkAll {H : Type} : List (DataW H) → Nat
  | [] => 0
  | d :: r => uptoBulk d + uptoBulkAll r
def uptoBulkEntries {H : Type} : List (Lit × DataW H) → Nat
  | [] => 0
  | x :: r => uptoBulkEntry x + uptoBulkEntries r
def uptoBulkEntry {H : Type} : Lit × DataW H → Nat
  | (.string bytes, d) => bytes.length + uptoBulk d + 1
  | (_, d) => uptoBulk d + 1
 end
def uptoSmall : (H : Type) → List (DataW H) → Bool := fun _ ds => decide (uptoBulkAll ds ≤ 1048576)
def OpenSpec.upto (s : _root_.Go.ChangeSpec) : _root_.Go.OpenSpec := { _root_.Go.OpenSpec.ofChange s with cond := some uptoSmall }

/-- 'aeriallaw13.BbhLaid', WHERE WHAT IT READS IS OF BULK AT MOST 1048576: true; the input reads as it did. -/
def bbhLaidUptoRow : OpenClaim := { program := "ytdipbdoekmcgbaa", sum := "867a93219bcb1c04c5efc88b919488bf6582e8a7ab53300c92938163b7d952cc", func := "aerial/aeriallaw13.BbhLaid", spec := "bbhLaid", unfollowed := true, recurses := true, apart := false, narrowed := true }
def BbhLaidUptoSaid : Prop := bbhLaidUptoRow.holds Try.pinned (OpenSpec.upto bbhLaidSpec)

/-- 'aeriallaw13.BbhRead', WHERE WHAT IT READS IS OF BULK AT MOST 1048576: true; the input reads as it did. -/
def bbhReadUptoRow : OpenClaim := { program := "ytdipbdoekmcgbaa", sum := "867a93219bcb1c04c5efc88b919488bf6582e8a7ab53300c92938163b7d952cc", func := "aerial/aeriallaw13.BbhRead", spec := "bbhRead", unfollowed := true, recurses := true, apart := false, narrowed := true }
def BbhReadUptoSaid : Prop := bbhReadUptoRow.holds Try.pinned (OpenSpec.upto bbhReadSpec)

/-- 'aeriallaw13.BbhBack', WHERE WHAT IT READS IS OF BULK AT MOST 1048576: true; the input reads as it did. -/
def bbhBackUptoRow : OpenClaim := { program := "ytdipbdoekmcgbaa", sum := "867a93219bcb1c04c5efc88b919488bf6582e8a7ab53300c92938163b7d952cc", func := "aerial/aeriallaw13.BbhBack", spec := "bbhBack", unfollowed := true, recurses := true, apart := false, narrowed := true }
def BbhBackUptoSaid : Prop := bbhBackUptoRow.holds Try.pinned (OpenSpec.upto bbhBackSpec)

/-- 'aeriallaw13.BbhTurned', WHERE WHAT IT READS IS OF BULK AT MOST 1048576: true; the input reads as it did. -/
def bbhTurnedUptoRow : OpenClaim := { program := "ytdipbdoekmcgbaa", sum := "867a93219bcb1c04c5efc88b919488bf6582e8a7ab53300c92938163b7d952cc", func := "aerial/aeriallaw13.BbhTurned", spec := "bbhTurned", unfollowed := true, recurses := true, apart := false, narrowed := true }
def BbhTurnedUptoSaid : Prop := bbhTurnedUptoRow.holds Try.pinned (OpenSpec.upto bbhTurnedSpec)

/-- 'aeriallaw13.BbhKnown', WHERE WHAT IT READS IS OF BULK AT MOST 1048576: true; the input reads as it did. -/
def bbhKnownUptoRow : OpenClaim := { program := "ytdipbdoekmcgbaa", sum := "867a93219bcb1c04c5efc88b919488bf6582e8a7ab53300c92938163b7d952cc", func := "aerial/aeriallaw13.BbhKnown", spec := "bbhKnown", unfollowed := true, recurses := true, apart := false, narrowed := true }
def BbhKnownUptoSaid : Prop := bbhKnownUptoRow.holds Try.pinned (OpenSpec.upto bbhKnownSpec)

/-- 'aeriallaw14.BbfPacks', WHERE WHAT IT READS IS OF BULK AT MOST 1048576: true; the input reads as it did. -/
def bbfPacksUptoRow : OpenClaim := { program := "ytdipbdoekmcgbaa", sum := "867a93219bcb1c04c5efc88b919488bf6582e8a7ab53300c92938163b7d952cc", func := "aerial/aeriallaw14.BbfPacks", spec := "bbfPacks", unfollowed := true, recurses := true, apart := false, narrowed := true }
def BbfPacksUptoSaid : Prop := bbfPacksUptoRow.holds Try.pinned (OpenSpec.upto bbfPacksSpec)

/-- 'aeriallaw14.BbfUnpacks', WHERE WHAT IT READS IS OF BULK AT MOST 1048576: true; the input reads as it did. -/
def bbfUnpacksUptoRow : OpenClaim := { program := "ytdipbdoekmcgbaa", sum := "867a93219bcb1c04c5efc88b919488bf6582e8a7ab53300c92938163b7d952cc", func := "aerial/aeriallaw14.BbfUnpacks", spec := "bbfUnpacks", unfollowed := true, recurses := true, apart := false, narrowed := true }
def BbfUnpacksUptoSaid : Prop := bbfUnpacksUptoRow.holds Try.pinned (OpenSpec.upto bbfUnpacksSpec)

/-- 'aeriallaw14.BbfBack', WHERE WHAT IT READS IS OF BULK AT MOST 1048576: true; the input reads as it did. -/
def bbfBackUptoRow : OpenClaim := { program := "ytdipbdoekmcgbaa", sum := "867a93219bcb1c04c5efc88b919488bf6582e8a7ab53300c92938163b7d952cc", func := "aerial/aeriallaw14.BbfBack", spec := "bbfBack", unfollowed := true, recurses := true, apart := false, narrowed := true }
def BbfBackUptoSaid : Prop := bbfBackUptoRow.holds Try.pinned (OpenSpec.upto bbfBackSpec)

/-- 'aeriallaw14.BbfModes', WHERE WHAT IT READS IS OF BULK AT MOST 1048576: true; the input reads as it did. -/
def bbfModesUptoRow : OpenClaim := { program := "ytdipbdoekmcgbaa", sum := "867a93219bcb1c04c5efc88b919488bf6582e8a7ab53300c92938163b7d952cc", func := "aerial/aeriallaw14.BbfModes", spec := "bbfModes", unfollowed := true, recurses := true, apart := false, narrowed := true }
def BbfModesUptoSaid : Prop := bbfModesUptoRow.holds Try.pinned (OpenSpec.upto bbfModesSpec)

/-- 'aeriallaw14.BbfKnown', WHERE WHAT IT READS IS OF BULK AT MOST 1048576: true; the input reads as it did. -/
def bbfKnownUptoRow : OpenClaim := { program := "ytdipbdoekmcgbaa", sum := "867a93219bcb1c04c5efc88b919488bf6582e8a7ab53300c92938163b7d952cc", func := "aerial/aeriallaw14.BbfKnown", spec := "bbfKnown", unfollowed := true, recurses := true, apart := false, narrowed := true }
def BbfKnownUptoSaid : Prop := bbfKnownUptoRow.holds Try.pinned (OpenSpec.upto bbfKnownSpec)

end Rows
end Go.Proofs.Ytdipbdoekmcgbaa
