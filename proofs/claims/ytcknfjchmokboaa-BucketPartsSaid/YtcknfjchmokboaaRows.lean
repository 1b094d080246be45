/-
  No cell of these rows narrows 'for every input' (looked for: loops, veiled, ifaces, maps, wideKeys, modest, calm, conditions, laid).
  DERIVED. THE GIVEN ROWS OF THIS SEAT. 10 by the template 'for every input the law returns true; each argument reads behind the call as it read before'; 0 by the template 'total and deterministic' (their statements: YtcknfjchmokboaaTotals.lean).
  GIVEN WITH THE SEED: the statements are not yours to turn. If you find one false, say at which input.
  Laid BY PROGRAM, IN A SANDBOX (cutbox-rows.mjs): the forced cells as the released guide's own fill.sh prints them over the translation e91871da1424e0cf… (all of the seat's roots in one cut). By AI agents, Wed Nov 11 2026. No macro, syntax, notation, axiom, sorry.
-/
import Derived.Test.YtcknfjchmokboaaChecked
import GoSem.Claim
import GoSem.ClaimJoined
import GoSem.ClaimMapViews
import Derived.JoinedTies
import Derived.KernelRfl
namespace Go.Proofs.Ytcknfjchmokboaa
/- THE CELL 'sum', in the pinned program and in every row, IS THE sha256 OF THE DUMP (.gsa) THAT YtcknfjchmokboaaProg.lean LOADS. Nothing in Lean hashes anything: it is a label: what it is worth is what the hold of that sum in a sandbox is worth. -/
noncomputable def Try.pinned : Pinned := { name := "ytcknfjchmokboaa", sum := "e91871da1424e0cfd987c3fcb12330c8eda4253665d3722325ef1d218a3e6d03", checked := Try.checked }
namespace Rows
def none {H : Type} : Left H := { results := [], args := [] }

/-- 'aeriallaw02.Crc8Is': WHATEVER THE INPUT: true; the input reads as it did. -/
def crc8IsSpec : ChangeSpec := { name := "crc8Is", fn := fun _ => fun
  | [d] => { results := [.lit (.bool true)], args := [d] }
  | _ => none }
def crc8IsRow : OpenClaim := { program := "ytcknfjchmokboaa", sum := "e91871da1424e0cfd987c3fcb12330c8eda4253665d3722325ef1d218a3e6d03", func := "aerial/aeriallaw02.Crc8Is", spec := "crc8Is", unfollowed := true, recurses := true, apart := false }
def Crc8IsSaid : Prop := crc8IsRow.holds Try.pinned (OpenSpec.ofChange crc8IsSpec)

/-- ITS FALSE NEIGHBOUR: 'it returns false'. Refute it at one input. -/
def crc8IsWrong : ChangeSpec := { name := "crc8Is", fn := fun _ => fun
  | [d] => { results := [.lit (.bool false)], args := [d] }
  | _ => none }
def Crc8IsWrongFalsely : Prop := crc8IsRow.holds Try.pinned (OpenSpec.ofChange crc8IsWrong)

/-- 'aeriallaw02.Crc8Turned': WHATEVER THE INPUT: true; the input reads as it did. -/
def crc8TurnedSpec : ChangeSpec := { name := "crc8Turned", fn := fun _ => fun
  | [d1, d2, d3] => { results := [.lit (.bool true)], args := [d1, d2, d3] }
  | _ => none }
def crc8TurnedRow : OpenClaim := { program := "ytcknfjchmokboaa", sum := "e91871da1424e0cfd987c3fcb12330c8eda4253665d3722325ef1d218a3e6d03", func := "aerial/aeriallaw02.Crc8Turned", spec := "crc8Turned", unfollowed := true, recurses := true, apart := false }
def Crc8TurnedSaid : Prop := crc8TurnedRow.holds Try.pinned (OpenSpec.ofChange crc8TurnedSpec)

/-- ITS FALSE NEIGHBOUR: 'it returns false'. Refute it at one input. -/
def crc8TurnedWrong : ChangeSpec := { name := "crc8Turned", fn := fun _ => fun
  | [d1, d2, d3] => { results := [.lit (.bool false)], args := [d1, d2, d3] }
  | _ => none }
def Crc8TurnedWrongFalsely : Prop := crc8TurnedRow.holds Try.pinned (OpenSpec.ofChange crc8TurnedWrong)

/-- 'aeriallaw02.Crc8Joins': WHATEVER THE INPUT: true; the input reads as it did. -/
def crc8JoinsSpec : ChangeSpec := { name := "crc8Joins", fn := fun _ => fun
  | [d1, d2, d3] => { results := [.lit (.bool true)], args := [d1, d2, d3] }
  | _ => none }
def crc8JoinsRow : OpenClaim := { program := "ytcknfjchmokboaa", sum := "e91871da1424e0cfd987c3fcb12330c8eda4253665d3722325ef1d218a3e6d03", func := "aerial/aeriallaw02.Crc8Joins", spec := "crc8Joins", unfollowed := true, recurses := true, apart := false }
def Crc8JoinsSaid : Prop := crc8JoinsRow.holds Try.pinned (OpenSpec.ofChange crc8JoinsSpec)

/-- ITS FALSE NEIGHBOUR: 'it returns false'. Refute it at one input. -/
def crc8JoinsWrong : ChangeSpec := { name := "crc8Joins", fn := fun _ => fun
  | [d1, d2, d3] => { results := [.lit (.bool false)], args := [d1, d2, d3] }
  | _ => none }
def Crc8JoinsWrongFalsely : Prop := crc8JoinsRow.holds Try.pinned (OpenSpec.ofChange crc8JoinsWrong)

/-- 'aeriallaw02.Crc8Behind': WHATEVER THE INPUT: true; the input reads as it did. -/
def crc8BehindSpec : ChangeSpec := { name := "crc8Behind", fn := fun _ => fun
  | [d1, d2, d3] => { results := [.lit (.bool true)], args := [d1, d2, d3] }
  | _ => none }
def crc8BehindRow : OpenClaim := { program := "ytcknfjchmokboaa", sum := "e91871da1424e0cfd987c3fcb12330c8eda4253665d3722325ef1d218a3e6d03", func := "aerial/aeriallaw02.Crc8Behind", spec := "crc8Behind", unfollowed := true, recurses := true, apart := false }
def Crc8BehindSaid : Prop := crc8BehindRow.holds Try.pinned (OpenSpec.ofChange crc8BehindSpec)

/-- ITS FALSE NEIGHBOUR: 'it returns false'. Refute it at one input. -/
def crc8BehindWrong : ChangeSpec := { name := "crc8Behind", fn := fun _ => fun
  | [d1, d2, d3] => { results := [.lit (.bool false)], args := [d1, d2, d3] }
  | _ => none }
def Crc8BehindWrongFalsely : Prop := crc8BehindRow.holds Try.pinned (OpenSpec.ofChange crc8BehindWrong)

/-- 'aeriallaw02.Crc8Known': WHATEVER THE INPUT: true; the input reads as it did. -/
def crc8KnownSpec : ChangeSpec := { name := "crc8Known", fn := fun _ => fun
  | [] => { results := [.lit (.bool true)], args := [] }
  | _ => none }
def crc8KnownRow : OpenClaim := { program := "ytcknfjchmokboaa", sum := "e91871da1424e0cfd987c3fcb12330c8eda4253665d3722325ef1d218a3e6d03", func := "aerial/aeriallaw02.Crc8Known", spec := "crc8Known", unfollowed := true, recurses := true, apart := false }
def Crc8KnownSaid : Prop := crc8KnownRow.holds Try.pinned (OpenSpec.ofChange crc8KnownSpec)

/-- ITS FALSE NEIGHBOUR: 'it returns false'. Refute it at one input. -/
def crc8KnownWrong : ChangeSpec := { name := "crc8Known", fn := fun _ => fun
  | [] => { results := [.lit (.bool false)], args := [] }
  | _ => none }
def Crc8KnownWrongFalsely : Prop := crc8KnownRow.holds Try.pinned (OpenSpec.ofChange crc8KnownWrong)

/-- 'aeriallaw21.BucketPlays': WHATEVER THE INPUT: true; the input reads as it did. -/
def bucketPlaysSpec : ChangeSpec := { name := "bucketPlays", fn := fun _ => fun
  | [d1, d2, d3] => { results := [.lit (.bool true)], args := [d1, d2, d3] }
  | _ => none }
def bucketPlaysRow : OpenClaim := { program := "ytcknfjchmokboaa", sum := "e91871da1424e0cfd987c3fcb12330c8eda4253665d3722325ef1d218a3e6d03", func := "aerial/aeriallaw21.BucketPlays", spec := "bucketPlays", unfollowed := true, recurses := true, apart := false }
def BucketPlaysSaid : Prop := bucketPlaysRow.holds Try.pinned (OpenSpec.ofChange bucketPlaysSpec)

/-- ITS FALSE NEIGHBOUR: 'it returns false'. Refute it at one input. -/
def bucketPlaysWrong : ChangeSpec := { name := "bucketPlays", fn := fun _ => fun
  | [d1, d2, d3] => { results := [.lit (.bool false)], args := [d1, d2, d3] }
  | _ => none }
def BucketPlaysWrongFalsely : Prop := bucketPlaysRow.holds Try.pinned (OpenSpec.ofChange bucketPlaysWrong)

/-- 'aeriallaw21.BucketWindow': WHATEVER THE INPUT: true; the input reads as it did. -/
def bucketWindowSpec : ChangeSpec := { name := "bucketWindow", fn := fun _ => fun
  | [d1, d2, d3] => { results := [.lit (.bool true)], args := [d1, d2, d3] }
  | _ => none }
def bucketWindowRow : OpenClaim := { program := "ytcknfjchmokboaa", sum := "e91871da1424e0cfd987c3fcb12330c8eda4253665d3722325ef1d218a3e6d03", func := "aerial/aeriallaw21.BucketWindow", spec := "bucketWindow", unfollowed := true, recurses := true, apart := false }
def BucketWindowSaid : Prop := bucketWindowRow.holds Try.pinned (OpenSpec.ofChange bucketWindowSpec)

/-- ITS FALSE NEIGHBOUR: 'it returns false'. Refute it at one input. -/
def bucketWindowWrong : ChangeSpec := { name := "bucketWindow", fn := fun _ => fun
  | [d1, d2, d3] => { results := [.lit (.bool false)], args := [d1, d2, d3] }
  | _ => none }
def BucketWindowWrongFalsely : Prop := bucketWindowRow.holds Try.pinned (OpenSpec.ofChange bucketWindowWrong)

/-- 'aeriallaw21.BucketWaits': WHATEVER THE INPUT: true; the input reads as it did. -/
def bucketWaitsSpec : ChangeSpec := { name := "bucketWaits", fn := fun _ => fun
  | [d1, d2, d3] => { results := [.lit (.bool true)], args := [d1, d2, d3] }
  | _ => none }
def bucketWaitsRow : OpenClaim := { program := "ytcknfjchmokboaa", sum := "e91871da1424e0cfd987c3fcb12330c8eda4253665d3722325ef1d218a3e6d03", func := "aerial/aeriallaw21.BucketWaits", spec := "bucketWaits", unfollowed := true, recurses := true, apart := false }
def BucketWaitsSaid : Prop := bucketWaitsRow.holds Try.pinned (OpenSpec.ofChange bucketWaitsSpec)

/-- ITS FALSE NEIGHBOUR: 'it returns false'. Refute it at one input. -/
def bucketWaitsWrong : ChangeSpec := { name := "bucketWaits", fn := fun _ => fun
  | [d1, d2, d3] => { results := [.lit (.bool false)], args := [d1, d2, d3] }
  | _ => none }
def BucketWaitsWrongFalsely : Prop := bucketWaitsRow.holds Try.pinned (OpenSpec.ofChange bucketWaitsWrong)

/-- 'aeriallaw21.BucketKnown': WHATEVER THE INPUT: true; the input reads as it did. -/
def bucketKnownSpec : ChangeSpec := { name := "bucketKnown", fn := fun _ => fun
  | [] => { results := [.lit (.bool true)], args := [] }
  | _ => none }
def bucketKnownRow : OpenClaim := { program := "ytcknfjchmokboaa", sum := "e91871da1424e0cfd987c3fcb12330c8eda4253665d3722325ef1d218a3e6d03", func := "aerial/aeriallaw21.BucketKnown", spec := "bucketKnown", unfollowed := true, recurses := true, apart := false }
def BucketKnownSaid : Prop := bucketKnownRow.holds Try.pinned (OpenSpec.ofChange bucketKnownSpec)

/-- ITS FALSE NEIGHBOUR: 'it returns false'. Refute it at one input. -/
def bucketKnownWrong : ChangeSpec := { name := "bucketKnown", fn := fun _ => fun
  | [] => { results := [.lit (.bool false)], args := [] }
  | _ => none }
def BucketKnownWrongFalsely : Prop := bucketKnownRow.holds Try.pinned (OpenSpec.ofChange bucketKnownWrong)

/-- 'aeriallaw21.BucketParts': WHATEVER THE INPUT: true; the input reads as it did. -/
def bucketPartsSpec : ChangeSpec := { name := "bucketParts", fn := fun _ => fun
  | [d1, d2, d3] => { results := [.lit (.bool true)], args := [d1, d2, d3] }
  | _ => none }
def bucketPartsRow : OpenClaim := { program := "ytcknfjchmokboaa", sum := "e91871da1424e0cfd987c3fcb12330c8eda4253665d3722325ef1d218a3e6d03", func := "aerial/aeriallaw21.BucketParts", spec := "bucketParts", unfollowed := true, recurses := true, apart := false }
def BucketPartsSaid : Prop := bucketPartsRow.holds Try.pinned (OpenSpec.ofChange bucketPartsSpec)

/-- ITS FALSE NEIGHBOUR: 'it returns false'. Refute it at one input. -/
def bucketPartsWrong : ChangeSpec := { name := "bucketParts", fn := fun _ => fun
  | [d1, d2, d3] => { results := [.lit (.bool false)], args := [d1, d2, d3] }
  | _ => none }
def BucketPartsWrongFalsely : Prop := bucketPartsRow.holds Try.pinned (OpenSpec.ofChange bucketPartsWrong)

/- THE SECOND FORM. 'bulk': how many values and letters a reading holds, each counted each time it is reached (what is shared counts as often as it is met; a slice's spare places count too). A statement '..UptoSaid' is the law's where the arguments, and the package variables that the reading takes, are together of bulk at most 1048576: NARROWER than '..Said'. Prove '..Said' where nothing that the law and all that it calls make is longer than what came in: it says more and counts as full. Else prove '..UptoSaid'. A law counts once. -/
mutual
def uptoBulk {H : Type} : DataW H → Nat
  | .lit (.string bytes) => bytes.length + 1
  | .lit _ => 1
  | .nil => 1
  | .ptr d => uptoBulk d + 1
  | .slice elems spare => uptoBulkAll elems + uptoBulkAll spare + 1
  | .agg parts => uptoBulkAll parts + 1
  | .iface _ d => uptoBulk d + 1
  | .map entries => uptoBulkEntries entries + 1
  | .held _ => 1
def uptoBulkAll {H : Type} : List (DataW H) → Nat
  | [] => 0
  | d :: r => uptoBulk d + uptoBulkAll r
def uptoBulkEntries {H : Type} : List (Lit × DataW H) → Nat
  | [] => 0
  | x :: r => uptoBulkEntry x + uptoBulkEntries r
def uptoBulkEntry {H : Type} : Lit × DataW H → Nat
  | (.string bytes, d) => bytes.length + uptoBulk d + 1
  | (_, d) => uptoBulk d + 1
 end
def uptoSmall : (H : Type) → List (DataW H) → Bool := fun _ ds => decide (uptoBulkAll ds ≤ 1048576)
def OpenSpec.upto (s : _root_.Go.ChangeSpec) : _root_.Go.OpenSpec := { _root_.Go.OpenSpec.ofChange s with cond := some uptoSmall }

/-- 'aeriallaw02.Crc8Is', WHERE WHAT IT READS IS OF BULK AT MOST 1048576: true; the input reads as it did. -/
def crc8IsUptoRow : OpenClaim := { program := "ytcknfjchmokboaa", sum := "e91871da1424e0cfd987c3fcb12330c8eda4253665d3722325ef1d218a3e6d03", func := "aerial/aeriallaw02.Crc8Is", spec := "crc8Is", unfollowed := true, recurses := true, apart := false, narrowed := true }
def Crc8IsUptoSaid : Prop := crc8IsUptoRow.holds Try.pinned (OpenSpec.upto crc8IsSpec)

/-- 'aeriallaw02.Crc8Turned', WHERE WHAT IT READS IS OF BULK AT MOST 1048576: true; the input reads as it did. -/
def crc8TurnedUptoRow : OpenClaim := { program := "ytcknfjchmokboaa", sum := "e91871da1424e0cfd987c3fcb12330c8eda4253665d3722325ef1d218a3e6d03", func := "aerial/aeriallaw02.Crc8Turned", spec := "crc8Turned", unfollowed := true, recurses := true, apart := false, narrowed := true }
def Crc8TurnedUptoSaid : Prop := crc8TurnedUptoRow.holds Try.pinned (OpenSpec.upto crc8TurnedSpec)

/-- 'aeriallaw02.Crc8Joins', WHERE WHAT IT READS IS OF BULK AT MOST 1048576: true; the input reads as it did. -/
def crc8JoinsUptoRow : OpenClaim := { program := "ytcknfjchmokboaa", sum := "e91871da1424e0cfd987c3fcb12330c8eda4253665d3722325ef1d218a3e6d03", func := "aerial/aeriallaw02.Crc8Joins", spec := "crc8Joins", unfollowed := true, recurses := true, apart := false, narrowed := true }
def Crc8JoinsUptoSaid : Prop := crc8JoinsUptoRow.holds Try.pinned (OpenSpec.upto crc8JoinsSpec)

/-- 'aeriallaw02.Crc8Behind', WHERE WHAT IT READS IS OF BULK AT MOST 1048576: true; the input reads as it did. -/
def crc8BehindUptoRow : OpenClaim := { program := "ytcknfjchmokboaa", sum := "e91871da1424e0cfd987c3fcb12330c8eda4253665d3722325ef1d218a3e6d03", func := "aerial/aeriallaw02.Crc8Behind", spec := "crc8Behind", unfollowed := true, recurses := true, apart := false, narrowed := true }
def Crc8BehindUptoSaid : Prop := crc8BehindUptoRow.holds Try.pinned (OpenSpec.upto crc8BehindSpec)

/-- 'aeriallaw02.Crc8Known', WHERE WHAT IT READS IS OF BULK AT MOST 1048576: true; the input reads as it did. -/
def crc8KnownUptoRow : OpenClaim := { program := "ytcknfjchmokboaa", sum := "e91871da1424e0cfd987c3fcb12330c8eda4253665d3722325ef1d218a3e6d03", func := "aerial/aeriallaw02.Crc8Known", spec := "crc8Known", unfollowed := true, recurses := true, apart := false, narrowed := true }
def Crc8KnownUptoSaid : Prop := crc8KnownUptoRow.holds Try.pinned (OpenSpec.upto crc8KnownSpec)

/-- 'aeriallaw21.BucketPlays', WHERE WHAT IT READS IS OF BULK AT MOST 1048576: true; the input reads as it did. -/
def bucketPlaysUptoRow : OpenClaim := { program := "ytcknfjchmokboaa", sum := "e91871da1424e0cfd987c3fcb12330c8eda4253665d3722325ef1d218a3e6d03", func := "aerial/aeriallaw21.BucketPlays", spec := "bucketPlays", unfollowed := true, recurses := true, apart := false, narrowed := true }
def BucketPlaysUptoSaid : Prop := bucketPlaysUptoRow.holds Try.pinned (OpenSpec.upto bucketPlaysSpec)

/-- 'aeriallaw21.BucketWindow', WHERE WHAT IT READS IS OF BULK AT MOST 1048576: true; the input reads as it did. -/
def bucketWindowUptoRow : OpenClaim := { program := "ytcknfjchmokboaa", sum := "e91871da1424e0cfd987c3fcb12330c8eda4253665d3722325ef1d218a3e6d03", func := "aerial/aeriallaw21.BucketWindow", spec := "bucketWindow", unfollowed := true, recurses := true, apart := false, narrowed := true }
def BucketWindowUptoSaid : Prop := bucketWindowUptoRow.holds Try.pinned (OpenSpec.upto bucketWindowSpec)

/-- 'aeriallaw21.BucketWaits', WHERE WHAT IT READS IS OF BULK AT MOST 1048576: true; the input reads as it did. -/
def bucketWaitsUptoRow : OpenClaim := { program := "ytcknfjchmokboaa", sum := "e91871da1424e0cfd987c3fcb12330c8eda4253665d3722325ef1d218a3e6d03", func := "aerial/aeriallaw21.BucketWaits", spec := "bucketWaits", unfollowed := true, recurses := true, apart := false, narrowed := true }
def BucketWaitsUptoSaid : Prop := bucketWaitsUptoRow.holds Try.pinned (OpenSpec.upto bucketWaitsSpec)

/-- 'aeriallaw21.BucketKnown', WHERE WHAT IT READS IS OF BULK AT MOST 1048576: true; the input reads as it did. -/
def bucketKnownUptoRow : OpenClaim := { program := "ytcknfjchmokboaa", sum := "e91871da1424e0cfd987c3fcb12330c8eda4253665d3722325ef1d218a3e6d03", func := "aerial/aeriallaw21.BucketKnown", spec := "bucketKnown", unfollowed := true, recurses := true, apart := false, narrowed := true }
def BucketKnownUptoSaid : Prop := bucketKnownUptoRow.holds Try.pinned (OpenSpec.upto bucketKnownSpec)

/-- 'aeriallaw21.BucketParts', WHERE WHAT IT READS IS OF BULK AT MOST 1048576: true; the input reads as it did. -/
def bucketPartsUptoRow : OpenClaim := { program := "ytcknfjchmokboaa", sum := "e91871da1424e0cfd987c3fcb12330c8eda4253665d3722325ef1d218a3e6d03", func := "aerial/aeriallaw21.BucketParts", spec := "bucketParts", unfollowed := true, recurses := true, apart := false, narrowed := true }
def BucketPartsUptoSaid : Prop := bucketPartsUptoRow.holds Try.pinned (OpenSpec.upto bucketPartsSpec)

end Rows
end Go.Proofs.Ytcknfjchmokboaa
