/-
  No cell of these rows narrows 'for every input' (looked for: loops, veiled, ifaces, maps, wideKeys, modest, calm, conditions, laid).
  DERIVED. THE GIVEN ROWS OF THIS SEAT. 10 by the template 'for every input the law returns true; each argument reads behind the call as it read before'; 0 by the template 'total and deterministic' (their statements: YtljdkaajlmcpkaaTotals.lean).
  GIVEN WITH THE SEED: the statements are not yours to turn. If you find one false, say at which input.
  Laid BY PROGRAM, IN A SANDBOX (cutbox-rows.mjs): the forced cells as the released guide's own fill.sh prints them over the translation 84185f3682122fe2… (all of the seat's roots in one cut). By AI agents, Wed Nov 11 2026. No macro, syntax, notation, axiom, sorry.
-/
import Derived.Test.YtljdkaajlmcpkaaChecked
import GoSem.Claim
import GoSem.ClaimJoined
import GoSem.ClaimMapViews
import Derived.JoinedTies
import Derived.KernelRfl
namespace Go.Proofs.Ytljdkaajlmcpkaa
/- THE CELL 'sum', in the pinned program and in every row, IS THE sha256 OF THE DUMP (.gsa) THAT YtljdkaajlmcpkaaProg.lean LOADS. Nothing in Lean hashes anything: it is a label: what it is worth is what the hold of that sum in a sandbox is worth. -/
noncomputable def Try.pinned : Pinned := { name := "ytljdkaajlmcpkaa", sum := "84185f3682122fe21311aa3392747d61b16bfecb03def20738ac65e04b63736d", checked := Try.checked }
namespace Rows
def none {H : Type} : Left H := { results := [], args := [] }

/-- 'aeriallaw01.BitsBack': WHATEVER THE INPUT: true; the input reads as it did. -/
def bitsBackSpec : ChangeSpec := { name := "bitsBack", fn := fun _ => fun
  | [d1, d2] => { results := [.lit (.bool true)], args := [d1, d2] }
  | _ => none }
def bitsBackRow : OpenClaim := { program := "ytljdkaajlmcpkaa", sum := "84185f3682122fe21311aa3392747d61b16bfecb03def20738ac65e04b63736d", func := "aerial/aeriallaw01.BitsBack", spec := "bitsBack", unfollowed := true, recurses := true, apart := false }
def BitsBackSaid : Prop := bitsBackRow.holds Try.pinned (OpenSpec.ofChange bitsBackSpec)

/-- ITS FALSE NEIGHBOUR: 'it returns false'. Refute it at one input. -/
def bitsBackWrong : ChangeSpec := { name := "bitsBack", fn := fun _ => fun
  | [d1, d2] => { results := [.lit (.bool false)], args := [d1, d2] }
  | _ => none }
def BitsBackWrongFalsely : Prop := bitsBackRow.holds Try.pinned (OpenSpec.ofChange bitsBackWrong)

/-- 'aeriallaw01.BitsLaid': WHATEVER THE INPUT: true; the input reads as it did. -/
def bitsLaidSpec : ChangeSpec := { name := "bitsLaid", fn := fun _ => fun
  | [d] => { results := [.lit (.bool true)], args := [d] }
  | _ => none }
def bitsLaidRow : OpenClaim := { program := "ytljdkaajlmcpkaa", sum := "84185f3682122fe21311aa3392747d61b16bfecb03def20738ac65e04b63736d", func := "aerial/aeriallaw01.BitsLaid", spec := "bitsLaid", unfollowed := true, recurses := true, apart := false }
def BitsLaidSaid : Prop := bitsLaidRow.holds Try.pinned (OpenSpec.ofChange bitsLaidSpec)

/-- ITS FALSE NEIGHBOUR: 'it returns false'. Refute it at one input. -/
def bitsLaidWrong : ChangeSpec := { name := "bitsLaid", fn := fun _ => fun
  | [d] => { results := [.lit (.bool false)], args := [d] }
  | _ => none }
def BitsLaidWrongFalsely : Prop := bitsLaidRow.holds Try.pinned (OpenSpec.ofChange bitsLaidWrong)

/-- 'aeriallaw18.ReportLays': WHATEVER THE INPUT: true; the input reads as it did. -/
def reportLaysSpec : ChangeSpec := { name := "reportLays", fn := fun _ => fun
  | [d] => { results := [.lit (.bool true)], args := [d] }
  | _ => none }
def reportLaysRow : OpenClaim := { program := "ytljdkaajlmcpkaa", sum := "84185f3682122fe21311aa3392747d61b16bfecb03def20738ac65e04b63736d", func := "aerial/aeriallaw18.ReportLays", spec := "reportLays", unfollowed := true, recurses := true, apart := false }
def ReportLaysSaid : Prop := reportLaysRow.holds Try.pinned (OpenSpec.ofChange reportLaysSpec)

/-- ITS FALSE NEIGHBOUR: 'it returns false'. Refute it at one input. -/
def reportLaysWrong : ChangeSpec := { name := "reportLays", fn := fun _ => fun
  | [d] => { results := [.lit (.bool false)], args := [d] }
  | _ => none }
def ReportLaysWrongFalsely : Prop := reportLaysRow.holds Try.pinned (OpenSpec.ofChange reportLaysWrong)

/-- 'aeriallaw18.ReportReads': WHATEVER THE INPUT: true; the input reads as it did. -/
def reportReadsSpec : ChangeSpec := { name := "reportReads", fn := fun _ => fun
  | [d] => { results := [.lit (.bool true)], args := [d] }
  | _ => none }
def reportReadsRow : OpenClaim := { program := "ytljdkaajlmcpkaa", sum := "84185f3682122fe21311aa3392747d61b16bfecb03def20738ac65e04b63736d", func := "aerial/aeriallaw18.ReportReads", spec := "reportReads", unfollowed := true, recurses := true, apart := false }
def ReportReadsSaid : Prop := reportReadsRow.holds Try.pinned (OpenSpec.ofChange reportReadsSpec)

/-- ITS FALSE NEIGHBOUR: 'it returns false'. Refute it at one input. -/
def reportReadsWrong : ChangeSpec := { name := "reportReads", fn := fun _ => fun
  | [d] => { results := [.lit (.bool false)], args := [d] }
  | _ => none }
def ReportReadsWrongFalsely : Prop := reportReadsRow.holds Try.pinned (OpenSpec.ofChange reportReadsWrong)

/-- 'aeriallaw18.ReportBack': WHATEVER THE INPUT: true; the input reads as it did. -/
def reportBackSpec : ChangeSpec := { name := "reportBack", fn := fun _ => fun
  | [d1, d2, d3] => { results := [.lit (.bool true)], args := [d1, d2, d3] }
  | _ => none }
def reportBackRow : OpenClaim := { program := "ytljdkaajlmcpkaa", sum := "84185f3682122fe21311aa3392747d61b16bfecb03def20738ac65e04b63736d", func := "aerial/aeriallaw18.ReportBack", spec := "reportBack", unfollowed := true, recurses := true, apart := false }
def ReportBackSaid : Prop := reportBackRow.holds Try.pinned (OpenSpec.ofChange reportBackSpec)

/-- ITS FALSE NEIGHBOUR: 'it returns false'. Refute it at one input. -/
def reportBackWrong : ChangeSpec := { name := "reportBack", fn := fun _ => fun
  | [d1, d2, d3] => { results := [.lit (.bool false)], args := [d1, d2, d3] }
  | _ => none }
def ReportBackWrongFalsely : Prop := reportBackRow.holds Try.pinned (OpenSpec.ofChange reportBackWrong)

/-- 'aeriallaw18.ReportUnlike': WHATEVER THE INPUT: true; the input reads as it did. -/
def reportUnlikeSpec : ChangeSpec := { name := "reportUnlike", fn := fun _ => fun
  | [d1, d2] => { results := [.lit (.bool true)], args := [d1, d2] }
  | _ => none }
def reportUnlikeRow : OpenClaim := { program := "ytljdkaajlmcpkaa", sum := "84185f3682122fe21311aa3392747d61b16bfecb03def20738ac65e04b63736d", func := "aerial/aeriallaw18.ReportUnlike", spec := "reportUnlike", unfollowed := true, recurses := true, apart := false }
def ReportUnlikeSaid : Prop := reportUnlikeRow.holds Try.pinned (OpenSpec.ofChange reportUnlikeSpec)

/-- ITS FALSE NEIGHBOUR: 'it returns false'. Refute it at one input. -/
def reportUnlikeWrong : ChangeSpec := { name := "reportUnlike", fn := fun _ => fun
  | [d1, d2] => { results := [.lit (.bool false)], args := [d1, d2] }
  | _ => none }
def ReportUnlikeWrongFalsely : Prop := reportUnlikeRow.holds Try.pinned (OpenSpec.ofChange reportUnlikeWrong)

/-- 'aeriallaw18.ReportKnown': WHATEVER THE INPUT: true; the input reads as it did. -/
def reportKnownSpec : ChangeSpec := { name := "reportKnown", fn := fun _ => fun
  | [] => { results := [.lit (.bool true)], args := [] }
  | _ => none }
def reportKnownRow : OpenClaim := { program := "ytljdkaajlmcpkaa", sum := "84185f3682122fe21311aa3392747d61b16bfecb03def20738ac65e04b63736d", func := "aerial/aeriallaw18.ReportKnown", spec := "reportKnown", unfollowed := true, recurses := true, apart := false }
def ReportKnownSaid : Prop := reportKnownRow.holds Try.pinned (OpenSpec.ofChange reportKnownSpec)

/-- ITS FALSE NEIGHBOUR: 'it returns false'. Refute it at one input. -/
def reportKnownWrong : ChangeSpec := { name := "reportKnown", fn := fun _ => fun
  | [] => { results := [.lit (.bool false)], args := [] }
  | _ => none }
def ReportKnownWrongFalsely : Prop := reportKnownRow.holds Try.pinned (OpenSpec.ofChange reportKnownWrong)

/-- 'aeriallaw01.BitsTaken': WHATEVER THE INPUT: true; the input reads as it did. -/
def bitsTakenSpec : ChangeSpec := { name := "bitsTaken", fn := fun _ => fun
  | [d1, d2] => { results := [.lit (.bool true)], args := [d1, d2] }
  | _ => none }
def bitsTakenRow : OpenClaim := { program := "ytljdkaajlmcpkaa", sum := "84185f3682122fe21311aa3392747d61b16bfecb03def20738ac65e04b63736d", func := "aerial/aeriallaw01.BitsTaken", spec := "bitsTaken", unfollowed := true, recurses := true, apart := false }
def BitsTakenSaid : Prop := bitsTakenRow.holds Try.pinned (OpenSpec.ofChange bitsTakenSpec)

/-- ITS FALSE NEIGHBOUR: 'it returns false'. Refute it at one input. -/
def bitsTakenWrong : ChangeSpec := { name := "bitsTaken", fn := fun _ => fun
  | [d1, d2] => { results := [.lit (.bool false)], args := [d1, d2] }
  | _ => none }
def BitsTakenWrongFalsely : Prop := bitsTakenRow.holds Try.pinned (OpenSpec.ofChange bitsTakenWrong)

/-- 'aeriallaw01.BitsCut': WHATEVER THE INPUT: true; the input reads as it did. -/
def bitsCutSpec : ChangeSpec := { name := "bitsCut", fn := fun _ => fun
  | [d1, d2] => { results := [.lit (.bool true)], args := [d1, d2] }
  | _ => none }
def bitsCutRow : OpenClaim := { program := "ytljdkaajlmcpkaa", sum := "84185f3682122fe21311aa3392747d61b16bfecb03def20738ac65e04b63736d", func := "aerial/aeriallaw01.BitsCut", spec := "bitsCut", unfollowed := true, recurses := true, apart := false }
def BitsCutSaid : Prop := bitsCutRow.holds Try.pinned (OpenSpec.ofChange bitsCutSpec)

/-- ITS FALSE NEIGHBOUR: 'it returns false'. Refute it at one input. -/
def bitsCutWrong : ChangeSpec := { name := "bitsCut", fn := fun _ => fun
  | [d1, d2] => { results := [.lit (.bool false)], args := [d1, d2] }
  | _ => none }
def BitsCutWrongFalsely : Prop := bitsCutRow.holds Try.pinned (OpenSpec.ofChange bitsCutWrong)

/-- 'aeriallaw01.BitsKnown': WHATEVER THE INPUT: true; the input reads as it did. -/
def bitsKnownSpec : ChangeSpec := { name := "bitsKnown", fn := fun _ => fun
  | [] => { results := [.lit (.bool true)], args := [] }
  | _ => none }
def bitsKnownRow : OpenClaim := { program := "ytljdkaajlmcpkaa", sum := "84185f3682122fe21311aa3392747d61b16bfecb03def20738ac65e04b63736d", func := "aerial/aeriallaw01.BitsKnown", spec := "bitsKnown", unfollowed := true, recurses := true, apart := false }
def BitsKnownSaid : Prop := bitsKnownRow.holds Try.pinned (OpenSpec.ofChange bitsKnownSpec)

/-- ITS FALSE NEIGHBOUR: 'it returns false'. Refute it at one input. -/
def bitsKnownWrong : ChangeSpec := { name := "bitsKnown", fn := fun _ => fun
  | [] => { results := [.lit (.bool false)], args := [] }
  | _ => none }
def BitsKnownWrongFalsely : Prop := bitsKnownRow.holds Try.pinned (OpenSpec.ofChange bitsKnownWrong)

/- THE SECOND FORM. 'bulk': how many values and letters a reading holds, each counted each time it is reached (what is shared counts as often as it is met; a slice's spare places count too). A statement '..UptoSaid' is the law's where the arguments, and the package variables that the reading takes, are together of bulk at most 1048576: NARROWER than '..Said'. Prove '..Said' where nothing that the law and all that it calls make is longer than what came in: it says more and counts as full. Else prove '..UptoSaid'. A law counts once. -/
mutual
def uptoBulk {H : Type} : DataW H → Nat
  | .lit (.string bytes) => bytes.length + 1
  | .lit _ => 1
  | .nil => 1
  | .ptr d => uptoBulk d + 1
  | .slice elems spare => uptoBulkAll elems + uptoBulkAll spare + 1
  | .agg parts => uptoBulkAll parts + 1
  | .iface _ d => uptoBulk d + 1
  | .map entries => uptoBulkEntries entries + 1
  | .held _ => 1
def uptoBulkAll {H : Type} : List (DataW H) → Nat
  | [] => 0
  | d :: r => uptoBulk d + uptoBulkAll r
def uptoBulkEntries {H : Type} : List (Lit × DataW H) → Nat
  | [] => 0
  | x :: r => uptoBulkEntry x + uptoBulkEntries r
def uptoBulkEntry {H : Type} : Lit × DataW H → Nat
  | (.string bytes, d) => bytes.length + uptoBulk d + 1
  | (_, d) => uptoBulk d + 1
 end
def uptoSmall : (H : Type) → List (DataW H) → Bool := fun _ ds => decide (uptoBulkAll ds ≤ 1048576)
def OpenSpec.upto (s : _root_.Go.ChangeSpec) : _root_.Go.OpenSpec := { _root_.Go.OpenSpec.ofChange s with cond := some uptoSmall }

/-- 'aeriallaw01.BitsBack', WHERE WHAT IT READS IS OF BULK AT MOST 1048576: true; the input reads as it did. -/
def bitsBackUptoRow : OpenClaim := { program := "ytljdkaajlmcpkaa", sum := "84185f3682122fe21311aa3392747d61b16bfecb03def20738ac65e04b63736d", func := "aerial/aeriallaw01.BitsBack", spec := "bitsBack", unfollowed := true, recurses := true, apart := false, narrowed := true }
def BitsBackUptoSaid : Prop := bitsBackUptoRow.holds Try.pinned (OpenSpec.upto bitsBackSpec)

/-- 'aeriallaw01.BitsLaid', WHERE WHAT IT READS IS OF BULK AT MOST 1048576: true; the input reads as it did. -/
def bitsLaidUptoRow : OpenClaim := { program := "ytljdkaajlmcpkaa", sum := "84185f3682122fe21311aa3392747d61b16bfecb03def20738ac65e04b63736d", func := "aerial/aeriallaw01.BitsLaid", spec := "bitsLaid", unfollowed := true, recurses := true, apart := false, narrowed := true }
def BitsLaidUptoSaid : Prop := bitsLaidUptoRow.holds Try.pinned (OpenSpec.upto bitsLaidSpec)

/-- 'aeriallaw18.ReportLays', WHERE WHAT IT READS IS OF BULK AT MOST 1048576: true; the input reads as it did. -/
def reportLaysUptoRow : OpenClaim := { program := "ytljdkaajlmcpkaa", sum := "84185f3682122fe21311aa3392747d61b16bfecb03def20738ac65e04b63736d", func := "aerial/aeriallaw18.ReportLays", spec := "reportLays", unfollowed := true, recurses := true, apart := false, narrowed := true }
def ReportLaysUptoSaid : Prop := reportLaysUptoRow.holds Try.pinned (OpenSpec.upto reportLaysSpec)

/-- 'aeriallaw18.ReportReads', WHERE WHAT IT READS IS OF BULK AT MOST 1048576: true; the input reads as it did. -/
def reportReadsUptoRow : OpenClaim := { program := "ytljdkaajlmcpkaa", sum := "84185f3682122fe21311aa3392747d61b16bfecb03def20738ac65e04b63736d", func := "aerial/aeriallaw18.ReportReads", spec := "reportReads", unfollowed := true, recurses := true, apart := false, narrowed := true }
def ReportReadsUptoSaid : Prop := reportReadsUptoRow.holds Try.pinned (OpenSpec.upto reportReadsSpec)

/-- 'aeriallaw18.ReportBack', WHERE WHAT IT READS IS OF BULK AT MOST 1048576: true; the input reads as it did. -/
def reportBackUptoRow : OpenClaim := { program := "ytljdkaajlmcpkaa", sum := "84185f3682122fe21311aa3392747d61b16bfecb03def20738ac65e04b63736d", func := "aerial/aeriallaw18.ReportBack", spec := "reportBack", unfollowed := true, recurses := true, apart := false, narrowed := true }
def ReportBackUptoSaid : Prop := reportBackUptoRow.holds Try.pinned (OpenSpec.upto reportBackSpec)

/-- 'aeriallaw18.ReportUnlike', WHERE WHAT IT READS IS OF BULK AT MOST 1048576: true; the input reads as it did. -/
def reportUnlikeUptoRow : OpenClaim := { program := "ytljdkaajlmcpkaa", sum := "84185f3682122fe21311aa3392747d61b16bfecb03def20738ac65e04b63736d", func := "aerial/aeriallaw18.ReportUnlike", spec := "reportUnlike", unfollowed := true, recurses := true, apart := false, narrowed := true }
def ReportUnlikeUptoSaid : Prop := reportUnlikeUptoRow.holds Try.pinned (OpenSpec.upto reportUnlikeSpec)

/-- 'aeriallaw18.ReportKnown', WHERE WHAT IT READS IS OF BULK AT MOST 1048576: true; the input reads as it did. -/
def reportKnownUptoRow : OpenClaim := { program := "ytljdkaajlmcpkaa", sum := "84185f3682122fe21311aa3392747d61b16bfecb03def20738ac65e04b63736d", func := "aerial/aeriallaw18.ReportKnown", spec := "reportKnown", unfollowed := true, recurses := true, apart := false, narrowed := true }
def ReportKnownUptoSaid : Prop := reportKnownUptoRow.holds Try.pinned (OpenSpec.upto reportKnownSpec)

/-- 'aeriallaw01.BitsTaken', WHERE WHAT IT READS IS OF BULK AT MOST 1048576: true; the input reads as it did. -/
def bitsTakenUptoRow : OpenClaim := { program := "ytljdkaajlmcpkaa", sum := "84185f3682122fe21311aa3392747d61b16bfecb03def20738ac65e04b63736d", func := "aerial/aeriallaw01.BitsTaken", spec := "bitsTaken", unfollowed := true, recurses := true, apart := false, narrowed := true }
def BitsTakenUptoSaid : Prop := bitsTakenUptoRow.holds Try.pinned (OpenSpec.upto bitsTakenSpec)

/-- 'aeriallaw01.BitsCut', WHERE WHAT IT READS IS OF BULK AT MOST 1048576: true; the input reads as it did. -/
def bitsCutUptoRow : OpenClaim := { program := "ytljdkaajlmcpkaa", sum := "84185f3682122fe21311aa3392747d61b16bfecb03def20738ac65e04b63736d", func := "aerial/aeriallaw01.BitsCut", spec := "bitsCut", unfollowed := true, recurses := true, apart := false, narrowed := true }
def BitsCutUptoSaid : Prop := bitsCutUptoRow.holds Try.pinned (OpenSpec.upto bitsCutSpec)

/-- 'aeriallaw01.BitsKnown', WHERE WHAT IT READS IS OF BULK AT MOST 1048576: true; the input reads as it did. -/
def bitsKnownUptoRow : OpenClaim := { program := "ytljdkaajlmcpkaa", sum := "84185f3682122fe21311aa3392747d61b16bfecb03def20738ac65e04b63736d", func := "aerial/aeriallaw01.BitsKnown", spec := "bitsKnown", unfollowed := true, recurses := true, apart := false, narrowed := true }
def BitsKnownUptoSaid : Prop := bitsKnownUptoRow.holds Try.pinned (OpenSpec.upto bitsKnownSpec)

end Rows
end Go.Proofs.Ytljdkaajlmcpkaa
