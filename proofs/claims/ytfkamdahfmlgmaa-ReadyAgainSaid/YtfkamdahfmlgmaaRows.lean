/-
  No cell of these rows narrows 'for every input' (looked for: loops, veiled, ifaces, maps, wideKeys, modest, calm, conditions, laid).
  DERIVED. THE GIVEN ROWS OF THIS SEAT. 4 by the template 'for every input the law returns true; each argument reads behind the call as it read before'; 0 by the template 'total and deterministic' (their statements: YtfkamdahfmlgmaaTotals.lean).
  GIVEN WITH THE SEED: the statements are not yours to turn. If you find one false, say at which input.
  Laid BY PROGRAM, IN A SANDBOX (cutbox-rows.mjs): the forced cells as the released guide's own fill.sh prints them over the translation 605de2941d0d4af2… (all of the seat's roots in one cut). By AI agents, Wed Nov 11 2026. No macro, syntax, notation, axiom, sorry.
-/
import Derived.Test.YtfkamdahfmlgmaaChecked
import GoSem.Claim
import GoSem.ClaimJoined
import GoSem.ClaimMapViews
import Derived.JoinedTies
import Derived.KernelRfl
namespace Go.Proofs.Ytfkamdahfmlgmaa
/- THE CELL 'sum', in the pinned program and in every row, IS THE sha256 OF THE DUMP (.gsa) THAT YtfkamdahfmlgmaaProg.lean LOADS. Nothing in Lean hashes anything: it is a label: what it is worth is what the hold of that sum in a sandbox is worth. -/
noncomputable def Try.pinned : Pinned := { name := "ytfkamdahfmlgmaa", sum := "605de2941d0d4af2b9d0fc6c0582d239ae398d9b67896dffd76f47ffe805a363", checked := Try.checked }
namespace Rows
def none {H : Type} : Left H := { results := [], args := [] }

/-- 'convoylaw22.ReadyTurns': WHATEVER THE INPUT: true; the input reads as it did. -/
def readyTurnsSpec : ChangeSpec := { name := "readyTurns", fn := fun _ => fun
  | [d] => { results := [.lit (.bool true)], args := [d] }
  | _ => none }
def readyTurnsRow : OpenClaim := { program := "ytfkamdahfmlgmaa", sum := "605de2941d0d4af2b9d0fc6c0582d239ae398d9b67896dffd76f47ffe805a363", func := "convoy/convoylaw22.ReadyTurns", spec := "readyTurns", recurses := true, apart := false }
def ReadyTurnsSaid : Prop := readyTurnsRow.holds Try.pinned (OpenSpec.ofChange readyTurnsSpec)

/-- ITS FALSE NEIGHBOUR: 'it returns false'. Refute it at one input. -/
def readyTurnsWrong : ChangeSpec := { name := "readyTurns", fn := fun _ => fun
  | [d] => { results := [.lit (.bool false)], args := [d] }
  | _ => none }
def ReadyTurnsWrongFalsely : Prop := readyTurnsRow.holds Try.pinned (OpenSpec.ofChange readyTurnsWrong)

/-- 'convoylaw22.ReadyAgain': WHATEVER THE INPUT: true; the input reads as it did. -/
def readyAgainSpec : ChangeSpec := { name := "readyAgain", fn := fun _ => fun
  | [d1, d2, d3] => { results := [.lit (.bool true)], args := [d1, d2, d3] }
  | _ => none }
def readyAgainRow : OpenClaim := { program := "ytfkamdahfmlgmaa", sum := "605de2941d0d4af2b9d0fc6c0582d239ae398d9b67896dffd76f47ffe805a363", func := "convoy/convoylaw22.ReadyAgain", spec := "readyAgain", recurses := true, apart := false }
def ReadyAgainSaid : Prop := readyAgainRow.holds Try.pinned (OpenSpec.ofChange readyAgainSpec)

/-- ITS FALSE NEIGHBOUR: 'it returns false'. Refute it at one input. -/
def readyAgainWrong : ChangeSpec := { name := "readyAgain", fn := fun _ => fun
  | [d1, d2, d3] => { results := [.lit (.bool false)], args := [d1, d2, d3] }
  | _ => none }
def ReadyAgainWrongFalsely : Prop := readyAgainRow.holds Try.pinned (OpenSpec.ofChange readyAgainWrong)

/-- 'convoylaw22.ReadyPlays': WHATEVER THE INPUT: true; the input reads as it did. -/
def readyPlaysSpec : ChangeSpec := { name := "readyPlays", fn := fun _ => fun
  | [d1, d2] => { results := [.lit (.bool true)], args := [d1, d2] }
  | _ => none }
def readyPlaysRow : OpenClaim := { program := "ytfkamdahfmlgmaa", sum := "605de2941d0d4af2b9d0fc6c0582d239ae398d9b67896dffd76f47ffe805a363", func := "convoy/convoylaw22.ReadyPlays", spec := "readyPlays", recurses := true, apart := false }
def ReadyPlaysSaid : Prop := readyPlaysRow.holds Try.pinned (OpenSpec.ofChange readyPlaysSpec)

/-- ITS FALSE NEIGHBOUR: 'it returns false'. Refute it at one input. -/
def readyPlaysWrong : ChangeSpec := { name := "readyPlays", fn := fun _ => fun
  | [d1, d2] => { results := [.lit (.bool false)], args := [d1, d2] }
  | _ => none }
def ReadyPlaysWrongFalsely : Prop := readyPlaysRow.holds Try.pinned (OpenSpec.ofChange readyPlaysWrong)

/-- 'convoylaw22.ReadyNil': WHATEVER THE INPUT: true; the input reads as it did. -/
def readyNilSpec : ChangeSpec := { name := "readyNil", fn := fun _ => fun
  | [d] => { results := [.lit (.bool true)], args := [d] }
  | _ => none }
def readyNilRow : OpenClaim := { program := "ytfkamdahfmlgmaa", sum := "605de2941d0d4af2b9d0fc6c0582d239ae398d9b67896dffd76f47ffe805a363", func := "convoy/convoylaw22.ReadyNil", spec := "readyNil", recurses := true, apart := false }
def ReadyNilSaid : Prop := readyNilRow.holds Try.pinned (OpenSpec.ofChange readyNilSpec)

/-- ITS FALSE NEIGHBOUR: 'it returns false'. Refute it at one input. -/
def readyNilWrong : ChangeSpec := { name := "readyNil", fn := fun _ => fun
  | [d] => { results := [.lit (.bool false)], args := [d] }
  | _ => none }
def ReadyNilWrongFalsely : Prop := readyNilRow.holds Try.pinned (OpenSpec.ofChange readyNilWrong)

/- THE SECOND FORM. 'bulk': how many values and letters a reading holds, each counted each time it is reached (what is shared counts as often as it is met; a slice's spare places count too). A statement '..UptoSaid' is the law's where the arguments, and the package variables that the reading takes, are together of bulk at most 1048576: NARROWER than '..Said'. Prove '..Said' where nothing that the law and all that it calls make is longer than what came in: it says more and counts as full. Else prove '..UptoSaid'. A law counts once. -/
mutual
def uptoBulk {H : Type} : DataW H → Nat
  | .lit (.string bytes) => bytes.length + 1
  | .lit _ => 1
  | .nil => 1
  | .ptr d => uptoBulk d + 1
  | .slice elems spare => uptoBulkAll elems + uptoBulkAll spare + 1
  | .agg parts => uptoBulkAll parts + 1
  | .iface _ d => uptoBulk d + 1
  | .map entries => uptoBulkEntries entries + 1
  | .held _ => 1
def uptoBulkAll {H : Type} : List (DataW H) → Nat
  | [] => 0
  | d :: r => uptoBulk d + uptoBulkAll r
def uptoBulkEntries {H : Type} : List (Lit × DataW H) → Nat
  | [] => 0
  | x :: r => uptoBulkEntry x + uptoBulkEntries r
def uptoBulkEntry {H : Type} : Lit × DataW H → Nat
  | (.string bytes, d) => bytes.length + uptoBulk d + 1
  | (_, d) => uptoBulk d + 1
 end
def uptoSmall : (H : Type) → List (DataW H) → Bool := fun _ ds => decide (uptoBulkAll ds ≤ 1048576)
def OpenSpec.upto (s : _root_.Go.ChangeSpec) : _root_.Go.OpenSpec := { _root_.Go.OpenSpec.ofChange s with cond := some uptoSmall }

/-- 'convoylaw22.ReadyTurns', WHERE WHAT IT READS IS OF BULK AT MOST 1048576: true; the input reads as it did. -/
def readyTurnsUptoRow : OpenClaim := { program := "ytfkamdahfmlgmaa", sum := "605de2941d0d4af2b9d0fc6c0582d239ae398d9b67896dffd76f47ffe805a363", func := "convoy/convoylaw22.ReadyTurns", spec := "readyTurns", recurses := true, apart := false, narrowed := true }
def ReadyTurnsUptoSaid : Prop := readyTurnsUptoRow.holds Try.pinned (OpenSpec.upto readyTurnsSpec)

/-- 'convoylaw22.ReadyAgain', WHERE WHAT IT READS IS OF BULK AT MOST 1048576: true; the input reads as it did. -/
def readyAgainUptoRow : OpenClaim := { program := "ytfkamdahfmlgmaa", sum := "605de2941d0d4af2b9d0fc6c0582d239ae398d9b67896dffd76f47ffe805a363", func := "convoy/convoylaw22.ReadyAgain", spec := "readyAgain", recurses := true, apart := false, narrowed := true }
def ReadyAgainUptoSaid : Prop := readyAgainUptoRow.holds Try.pinned (OpenSpec.upto readyAgainSpec)

/-- 'convoylaw22.ReadyPlays', WHERE WHAT IT READS IS OF BULK AT MOST 1048576: true; the input reads as it did. -/
def readyPlaysUptoRow : OpenClaim := { program := "ytfkamdahfmlgmaa", sum := "605de2941d0d4af2b9d0fc6c0582d239ae398d9b67896dffd76f47ffe805a363", func := "convoy/convoylaw22.ReadyPlays", spec := "readyPlays", recurses := true, apart := false, narrowed := true }
def ReadyPlaysUptoSaid : Prop := readyPlaysUptoRow.holds Try.pinned (OpenSpec.upto readyPlaysSpec)

/-- 'convoylaw22.ReadyNil', WHERE WHAT IT READS IS OF BULK AT MOST 1048576: true; the input reads as it did. -/
def readyNilUptoRow : OpenClaim := { program := "ytfkamdahfmlgmaa", sum := "605de2941d0d4af2b9d0fc6c0582d239ae398d9b67896dffd76f47ffe805a363", func := "convoy/convoylaw22.ReadyNil", spec := "readyNil", recurses := true, apart := false, narrowed := true }
def ReadyNilUptoSaid : Prop := readyNilUptoRow.holds Try.pinned (OpenSpec.upto readyNilSpec)

end Rows
end Go.Proofs.Ytfkamdahfmlgmaa
