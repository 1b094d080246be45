/-
  No cell of these rows narrows 'for every input' (looked for: loops, veiled, ifaces, maps, wideKeys, modest, calm, conditions, laid).
  DERIVED. THE GIVEN ROWS OF THIS SEAT. 9 by the template 'for every input the law returns true; each argument reads behind the call as it read before'; 0 by the template 'total and deterministic' (their statements: YtlcjgphibodjkaaTotals.lean).
  GIVEN WITH THE SEED: the statements are not yours to turn. If you find one false, say at which input.
  Laid BY PROGRAM, IN A SANDBOX (cutbox-rows.mjs): the forced cells as the released guide's own fill.sh prints them over the translation 433a6fc0b4d8e3dc… (all of the seat's roots in one cut). By AI agents, Wed Nov 11 2026. No macro, syntax, notation, axiom, sorry.
-/
import Derived.Test.YtlcjgphibodjkaaChecked
import GoSem.Claim
import GoSem.ClaimJoined
import GoSem.ClaimMapViews
import Derived.JoinedTies
import Derived.KernelRfl
namespace Go.Proofs.Ytlcjgphibodjkaa
/- THE CELL 'sum', in the pinned program and in every row, IS THE sha256 OF THE DUMP (.gsa) THAT YtlcjgphibodjkaaProg.lean LOADS. Nothing in Lean hashes anything: it is a label: what it is worth is what the hold of that sum in a sandbox is worth. -/
noncomputable def Try.pinned : Pinned := { name := "ytlcjgphibodjkaa", sum := "433a6fc0b4d8e3dc65133f3595dc593aeda897c8b17ee48d06d408e78e3bfa6b", checked := Try.checked }
namespace Rows
def none {H : Type} : Left H := { results := [], args := [] }

/-- 'aeriallaw15.RingRow': WHATEVER THE INPUT: true; the input reads as it did. -/
def ringRowSpec : ChangeSpec := { name := "ringRow", fn := fun _ => fun
  | [d1, d2] => { results := [.lit (.bool true)], args := [d1, d2] }
  | _ => none }
def ringRowRow : OpenClaim := { program := "ytlcjgphibodjkaa", sum := "433a6fc0b4d8e3dc65133f3595dc593aeda897c8b17ee48d06d408e78e3bfa6b", func := "aerial/aeriallaw15.RingRow", spec := "ringRow", apart := false }
def RingRowSaid : Prop := ringRowRow.holds Try.pinned (OpenSpec.ofChange ringRowSpec)

/-- ITS FALSE NEIGHBOUR: 'it returns false'. Refute it at one input. -/
def ringRowWrong : ChangeSpec := { name := "ringRow", fn := fun _ => fun
  | [d1, d2] => { results := [.lit (.bool false)], args := [d1, d2] }
  | _ => none }
def RingRowWrongFalsely : Prop := ringRowRow.holds Try.pinned (OpenSpec.ofChange ringRowWrong)

/-- 'aeriallaw12.FidPlays': WHATEVER THE INPUT: true; the input reads as it did. -/
def fidPlaysSpec : ChangeSpec := { name := "fidPlays", fn := fun _ => fun
  | [d] => { results := [.lit (.bool true)], args := [d] }
  | _ => none }
def fidPlaysRow : OpenClaim := { program := "ytlcjgphibodjkaa", sum := "433a6fc0b4d8e3dc65133f3595dc593aeda897c8b17ee48d06d408e78e3bfa6b", func := "aerial/aeriallaw12.FidPlays", spec := "fidPlays", unfollowed := true, recurses := true, apart := false }
def FidPlaysSaid : Prop := fidPlaysRow.holds Try.pinned (OpenSpec.ofChange fidPlaysSpec)

/-- ITS FALSE NEIGHBOUR: 'it returns false'. Refute it at one input. -/
def fidPlaysWrong : ChangeSpec := { name := "fidPlays", fn := fun _ => fun
  | [d] => { results := [.lit (.bool false)], args := [d] }
  | _ => none }
def FidPlaysWrongFalsely : Prop := fidPlaysRow.holds Try.pinned (OpenSpec.ofChange fidPlaysWrong)

/-- 'aeriallaw12.FidRound': WHATEVER THE INPUT: true; the input reads as it did. -/
def fidRoundSpec : ChangeSpec := { name := "fidRound", fn := fun _ => fun
  | [d] => { results := [.lit (.bool true)], args := [d] }
  | _ => none }
def fidRoundRow : OpenClaim := { program := "ytlcjgphibodjkaa", sum := "433a6fc0b4d8e3dc65133f3595dc593aeda897c8b17ee48d06d408e78e3bfa6b", func := "aerial/aeriallaw12.FidRound", spec := "fidRound", unfollowed := true, recurses := true, apart := false }
def FidRoundSaid : Prop := fidRoundRow.holds Try.pinned (OpenSpec.ofChange fidRoundSpec)

/-- ITS FALSE NEIGHBOUR: 'it returns false'. Refute it at one input. -/
def fidRoundWrong : ChangeSpec := { name := "fidRound", fn := fun _ => fun
  | [d] => { results := [.lit (.bool false)], args := [d] }
  | _ => none }
def FidRoundWrongFalsely : Prop := fidRoundRow.holds Try.pinned (OpenSpec.ofChange fidRoundWrong)

/-- 'aeriallaw12.FidBack': WHATEVER THE INPUT: true; the input reads as it did. -/
def fidBackSpec : ChangeSpec := { name := "fidBack", fn := fun _ => fun
  | [d1, d2] => { results := [.lit (.bool true)], args := [d1, d2] }
  | _ => none }
def fidBackRow : OpenClaim := { program := "ytlcjgphibodjkaa", sum := "433a6fc0b4d8e3dc65133f3595dc593aeda897c8b17ee48d06d408e78e3bfa6b", func := "aerial/aeriallaw12.FidBack", spec := "fidBack", unfollowed := true, recurses := true, apart := false }
def FidBackSaid : Prop := fidBackRow.holds Try.pinned (OpenSpec.ofChange fidBackSpec)

/-- ITS FALSE NEIGHBOUR: 'it returns false'. Refute it at one input. -/
def fidBackWrong : ChangeSpec := { name := "fidBack", fn := fun _ => fun
  | [d1, d2] => { results := [.lit (.bool false)], args := [d1, d2] }
  | _ => none }
def FidBackWrongFalsely : Prop := fidBackRow.holds Try.pinned (OpenSpec.ofChange fidBackWrong)

/-- 'aeriallaw12.FidKnown': WHATEVER THE INPUT: true; the input reads as it did. -/
def fidKnownSpec : ChangeSpec := { name := "fidKnown", fn := fun _ => fun
  | [] => { results := [.lit (.bool true)], args := [] }
  | _ => none }
def fidKnownRow : OpenClaim := { program := "ytlcjgphibodjkaa", sum := "433a6fc0b4d8e3dc65133f3595dc593aeda897c8b17ee48d06d408e78e3bfa6b", func := "aerial/aeriallaw12.FidKnown", spec := "fidKnown", unfollowed := true, recurses := true, apart := false }
def FidKnownSaid : Prop := fidKnownRow.holds Try.pinned (OpenSpec.ofChange fidKnownSpec)

/-- ITS FALSE NEIGHBOUR: 'it returns false'. Refute it at one input. -/
def fidKnownWrong : ChangeSpec := { name := "fidKnown", fn := fun _ => fun
  | [] => { results := [.lit (.bool false)], args := [] }
  | _ => none }
def FidKnownWrongFalsely : Prop := fidKnownRow.holds Try.pinned (OpenSpec.ofChange fidKnownWrong)

/-- 'aeriallaw15.RingPlays': WHATEVER THE INPUT: true; the input reads as it did. -/
def ringPlaysSpec : ChangeSpec := { name := "ringPlays", fn := fun _ => fun
  | [d1, d2] => { results := [.lit (.bool true)], args := [d1, d2] }
  | _ => none }
def ringPlaysRow : OpenClaim := { program := "ytlcjgphibodjkaa", sum := "433a6fc0b4d8e3dc65133f3595dc593aeda897c8b17ee48d06d408e78e3bfa6b", func := "aerial/aeriallaw15.RingPlays", spec := "ringPlays", apart := false }
def RingPlaysSaid : Prop := ringPlaysRow.holds Try.pinned (OpenSpec.ofChange ringPlaysSpec)

/-- ITS FALSE NEIGHBOUR: 'it returns false'. Refute it at one input. -/
def ringPlaysWrong : ChangeSpec := { name := "ringPlays", fn := fun _ => fun
  | [d1, d2] => { results := [.lit (.bool false)], args := [d1, d2] }
  | _ => none }
def RingPlaysWrongFalsely : Prop := ringPlaysRow.holds Try.pinned (OpenSpec.ofChange ringPlaysWrong)

/-- 'aeriallaw15.RingTypes': WHATEVER THE INPUT: true; the input reads as it did. -/
def ringTypesSpec : ChangeSpec := { name := "ringTypes", fn := fun _ => fun
  | [d] => { results := [.lit (.bool true)], args := [d] }
  | _ => none }
def ringTypesRow : OpenClaim := { program := "ytlcjgphibodjkaa", sum := "433a6fc0b4d8e3dc65133f3595dc593aeda897c8b17ee48d06d408e78e3bfa6b", func := "aerial/aeriallaw15.RingTypes", spec := "ringTypes", apart := false }
def RingTypesSaid : Prop := ringTypesRow.holds Try.pinned (OpenSpec.ofChange ringTypesSpec)

/-- ITS FALSE NEIGHBOUR: 'it returns false'. Refute it at one input. -/
def ringTypesWrong : ChangeSpec := { name := "ringTypes", fn := fun _ => fun
  | [d] => { results := [.lit (.bool false)], args := [d] }
  | _ => none }
def RingTypesWrongFalsely : Prop := ringTypesRow.holds Try.pinned (OpenSpec.ofChange ringTypesWrong)

/-- 'aeriallaw15.RingKnown': WHATEVER THE INPUT: true; the input reads as it did. -/
def ringKnownSpec : ChangeSpec := { name := "ringKnown", fn := fun _ => fun
  | [] => { results := [.lit (.bool true)], args := [] }
  | _ => none }
def ringKnownRow : OpenClaim := { program := "ytlcjgphibodjkaa", sum := "433a6fc0b4d8e3dc65133f3595dc593aeda897c8b17ee48d06d408e78e3bfa6b", func := "aerial/aeriallaw15.RingKnown", spec := "ringKnown", apart := false }
def RingKnownSaid : Prop := ringKnownRow.holds Try.pinned (OpenSpec.ofChange ringKnownSpec)

/-- ITS FALSE NEIGHBOUR: 'it returns false'. Refute it at one input. -/
def ringKnownWrong : ChangeSpec := { name := "ringKnown", fn := fun _ => fun
  | [] => { results := [.lit (.bool false)], args := [] }
  | _ => none }
def RingKnownWrongFalsely : Prop := ringKnownRow.holds Try.pinned (OpenSpec.ofChange ringKnownWrong)

/-- 'aeriallaw15.RingRefill': WHATEVER THE INPUT: true; the input reads as it did. -/
def ringRefillSpec : ChangeSpec := { name := "ringRefill", fn := fun _ => fun
  | [d1, d2] => { results := [.lit (.bool true)], args := [d1, d2] }
  | _ => none }
def ringRefillRow : OpenClaim := { program := "ytlcjgphibodjkaa", sum := "433a6fc0b4d8e3dc65133f3595dc593aeda897c8b17ee48d06d408e78e3bfa6b", func := "aerial/aeriallaw15.RingRefill", spec := "ringRefill", apart := false }
def RingRefillSaid : Prop := ringRefillRow.holds Try.pinned (OpenSpec.ofChange ringRefillSpec)

/-- ITS FALSE NEIGHBOUR: 'it returns false'. Refute it at one input. -/
def ringRefillWrong : ChangeSpec := { name := "ringRefill", fn := fun _ => fun
  | [d1, d2] => { results := [.lit (.bool false)], args := [d1, d2] }
  | _ => none }
def RingRefillWrongFalsely : Prop := ringRefillRow.holds Try.pinned (OpenSpec.ofChange ringRefillWrong)

/- THE SECOND FORM. 'bulk': how many values and letters a reading holds, each counted each time it is reached (what is shared counts as often as it is met; a slice's spare places count too). A statement '..UptoSaid' is the law's where the arguments, and the package variables that the reading takes, are together of bulk at most 1048576: NARROWER than '..Said'. Prove '..Said' where nothing that the law and all that it calls make is longer than what came in: it says more and counts as full. Else prove '..UptoSaid'. A law counts once. -/
mutual
def uptoBulk {H : Type} : DataW H → Nat
  | .lit (.string bytes) => bytes.length + 1
  | .lit _ => 1
  | .nil => 1
  | .ptr d => uptoBulk d + 1
  | .slice elems spare => uptoBulkAll elems + uptoBulkAll spare + 1
  | .agg parts => uptoBulkAll parts + 1
  | .iface _ d => uptoBulk d + 1
  | .map entries => uptoBulkEntries entries + 1
  | .held _ => 1
def uptoBulkAll {H : Type} : List (DataW H) → Nat
  | [] => 0
  | d :: r => uptoBulk d + uptoBulkAll r
def uptoBulkEntries {H : Type} : List (Lit × DataW H) → Nat
  | [] => 0
  | x :: r => uptoBulkEntry x + uptoBulkEntries r
def uptoBulkEntry {H : Type} : Lit × DataW H → Nat
  | (.string bytes, d) => bytes.length + uptoBulk d + 1
  | (_, d) => uptoBulk d + 1
 end
def uptoSmall : (H : Type) → List (DataW H) → Bool := fun _ ds => decide (uptoBulkAll ds ≤ 1048576)
def OpenSpec.upto (s : _root_.Go.ChangeSpec) : _root_.Go.OpenSpec := { _root_.Go.OpenSpec.ofChange s with cond := some uptoSmall }

/-- 'aeriallaw15.RingRow', WHERE WHAT IT READS IS OF BULK AT MOST 1048576: true; the input reads as it did. -/
def ringRowUptoRow : OpenClaim := { program := "ytlcjgphibodjkaa", sum := "433a6fc0b4d8e3dc65133f3595dc593aeda897c8b17ee48d06d408e78e3bfa6b", func := "aerial/aeriallaw15.RingRow", spec := "ringRow", apart := false, narrowed := true }
def RingRowUptoSaid : Prop := ringRowUptoRow.holds Try.pinned (OpenSpec.upto ringRowSpec)

/-- 'aeriallaw12.FidPlays', WHERE WHAT IT READS IS OF BULK AT MOST 1048576: true; the input reads as it did. -/
def fidPlaysUptoRow : OpenClaim := { program := "ytlcjgphibodjkaa", sum := "433a6fc0b4d8e3dc65133f3595dc593aeda897c8b17ee48d06d408e78e3bfa6b", func := "aerial/aeriallaw12.FidPlays", spec := "fidPlays", unfollowed := true, recurses := true, apart := false, narrowed := true }
def FidPlaysUptoSaid : Prop := fidPlaysUptoRow.holds Try.pinned (OpenSpec.upto fidPlaysSpec)

/-- 'aeriallaw12.FidRound', WHERE WHAT IT READS IS OF BULK AT MOST 1048576: true; the input reads as it did. -/
def fidRoundUptoRow : OpenClaim := { program := "ytlcjgphibodjkaa", sum := "433a6fc0b4d8e3dc65133f3595dc593aeda897c8b17ee48d06d408e78e3bfa6b", func := "aerial/aeriallaw12.FidRound", spec := "fidRound", unfollowed := true, recurses := true, apart := false, narrowed := true }
def FidRoundUptoSaid : Prop := fidRoundUptoRow.holds Try.pinned (OpenSpec.upto fidRoundSpec)

/-- 'aeriallaw12.FidBack', WHERE WHAT IT READS IS OF BULK AT MOST 1048576: true; the input reads as it did. -/
def fidBackUptoRow : OpenClaim := { program := "ytlcjgphibodjkaa", sum := "433a6fc0b4d8e3dc65133f3595dc593aeda897c8b17ee48d06d408e78e3bfa6b", func := "aerial/aeriallaw12.FidBack", spec := "fidBack", unfollowed := true, recurses := true, apart := false, narrowed := true }
def FidBackUptoSaid : Prop := fidBackUptoRow.holds Try.pinned (OpenSpec.upto fidBackSpec)

/-- 'aeriallaw12.FidKnown', WHERE WHAT IT READS IS OF BULK AT MOST 1048576: true; the input reads as it did. -/
def fidKnownUptoRow : OpenClaim := { program := "ytlcjgphibodjkaa", sum := "433a6fc0b4d8e3dc65133f3595dc593aeda897c8b17ee48d06d408e78e3bfa6b", func := "aerial/aeriallaw12.FidKnown", spec := "fidKnown", unfollowed := true, recurses := true, apart := false, narrowed := true }
def FidKnownUptoSaid : Prop := fidKnownUptoRow.holds Try.pinned (OpenSpec.upto fidKnownSpec)

/-- 'aeriallaw15.RingPlays', WHERE WHAT IT READS IS OF BULK AT MOST 1048576: true; the input reads as it did. -/
def ringPlaysUptoRow : OpenClaim := { program := "ytlcjgphibodjkaa", sum := "433a6fc0b4d8e3dc65133f3595dc593aeda897c8b17ee48d06d408e78e3bfa6b", func := "aerial/aeriallaw15.RingPlays", spec := "ringPlays", apart := false, narrowed := true }
def RingPlaysUptoSaid : Prop := ringPlaysUptoRow.holds Try.pinned (OpenSpec.upto ringPlaysSpec)

/-- 'aeriallaw15.RingTypes', WHERE WHAT IT READS IS OF BULK AT MOST 1048576: true; the input reads as it did. -/
def ringTypesUptoRow : OpenClaim := { program := "ytlcjgphibodjkaa", sum := "433a6fc0b4d8e3dc65133f3595dc593aeda897c8b17ee48d06d408e78e3bfa6b", func := "aerial/aeriallaw15.RingTypes", spec := "ringTypes", apart := false, narrowed := true }
def RingTypesUptoSaid : Prop := ringTypesUptoRow.holds Try.pinned (OpenSpec.upto ringTypesSpec)

/-- 'aeriallaw15.RingKnown', WHERE WHAT IT READS IS OF BULK AT MOST 1048576: true; the input reads as it did. -/
def ringKnownUptoRow : OpenClaim := { program := "ytlcjgphibodjkaa", sum := "433a6fc0b4d8e3dc65133f3595dc593aeda897c8b17ee48d06d408e78e3bfa6b", func := "aerial/aeriallaw15.RingKnown", spec := "ringKnown", apart := false, narrowed := true }
def RingKnownUptoSaid : Prop := ringKnownUptoRow.holds Try.pinned (OpenSpec.upto ringKnownSpec)

/-- 'aeriallaw15.RingRefill', WHERE WHAT IT READS IS OF BULK AT MOST 1048576: true; the input reads as it did. -/
def ringRefillUptoRow : OpenClaim := { program := "ytlcjgphibodjkaa", sum := "433a6fc0b4d8e3dc65133f3595dc593aeda897c8b17ee48d06d408e78e3bfa6b", func := "aerial/aeriallaw15.RingRefill", spec := "ringRefill", apart := false, narrowed := true }
def RingRefillUptoSaid : Prop := ringRefillUptoRow.holds Try.pinned (OpenSpec.upto ringRefillSpec)

end Rows
end Go.Proofs.Ytlcjgphibodjkaa
