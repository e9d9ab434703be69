/-
  No cell of these rows narrows 'for every input' (looked for: loops, veiled, ifaces, maps, wideKeys, modest, calm, conditions, laid).
  DERIVED. THE GIVEN ROWS OF THIS SEAT. 5 by the template 'for every input the law returns true; each argument reads behind the call as it read before'; 0 by the template 'total and deterministic' (their statements: YteafcajlfagbkaaTotals.lean).
  GIVEN WITH THE SEED: the statements are not yours to turn. If you find one false, say at which input.
  Laid BY PROGRAM, IN A SANDBOX (cutbox-rows.mjs): the forced cells as the released guide's own fill.sh prints them over the translation e4b9c8072e17becd… (all of the seat's roots in one cut). By AI agents, Wed Nov 11 2026. No macro, syntax, notation, axiom, sorry.
-/
import Derived.Test.YteafcajlfagbkaaChecked
import GoSem.Claim
import GoSem.ClaimJoined
import GoSem.ClaimMapViews
import Derived.JoinedTies
import Derived.KernelRfl
namespace Go.Proofs.Yteafcajlfagbkaa
/- THE CELL 'sum', in the pinned program and in every row, IS THE sha256 OF THE DUMP (.gsa) THAT YteafcajlfagbkaaProg.lean LOADS. Nothing in Lean hashes anything: it is a label: what it is worth is what the hold of that sum in a sandbox is worth. -/
noncomputable def Try.pinned : Pinned := { name := "yteafcajlfagbkaa", sum := "e4b9c8072e17becda315119043ada6453bb048227d17417cd6ebf1f52bb3f583", checked := Try.checked }
namespace Rows
def none {H : Type} : Left H := { results := [], args := [] }

/-- 'convoylaw04.QueueOut': WHATEVER THE INPUT: true; the input reads as it did. -/
def queueOutSpec : ChangeSpec := { name := "queueOut", fn := fun _ => fun
  | [d] => { results := [.lit (.bool true)], args := [d] }
  | _ => none }
def queueOutRow : OpenClaim := { program := "yteafcajlfagbkaa", sum := "e4b9c8072e17becda315119043ada6453bb048227d17417cd6ebf1f52bb3f583", func := "convoy/convoylaw04.QueueOut", spec := "queueOut", unfollowed := true, recurses := true, apart := false }
def QueueOutSaid : Prop := queueOutRow.holds Try.pinned (OpenSpec.ofChange queueOutSpec)

/-- ITS FALSE NEIGHBOUR: 'it returns false'. Refute it at one input. -/
def queueOutWrong : ChangeSpec := { name := "queueOut", fn := fun _ => fun
  | [d] => { results := [.lit (.bool false)], args := [d] }
  | _ => none }
def QueueOutWrongFalsely : Prop := queueOutRow.holds Try.pinned (OpenSpec.ofChange queueOutWrong)

/-- 'convoylaw04.QueueTurns': WHATEVER THE INPUT: true; the input reads as it did. -/
def queueTurnsSpec : ChangeSpec := { name := "queueTurns", fn := fun _ => fun
  | [d] => { results := [.lit (.bool true)], args := [d] }
  | _ => none }
def queueTurnsRow : OpenClaim := { program := "yteafcajlfagbkaa", sum := "e4b9c8072e17becda315119043ada6453bb048227d17417cd6ebf1f52bb3f583", func := "convoy/convoylaw04.QueueTurns", spec := "queueTurns", unfollowed := true, recurses := true, apart := false }
def QueueTurnsSaid : Prop := queueTurnsRow.holds Try.pinned (OpenSpec.ofChange queueTurnsSpec)

/-- ITS FALSE NEIGHBOUR: 'it returns false'. Refute it at one input. -/
def queueTurnsWrong : ChangeSpec := { name := "queueTurns", fn := fun _ => fun
  | [d] => { results := [.lit (.bool false)], args := [d] }
  | _ => none }
def QueueTurnsWrongFalsely : Prop := queueTurnsRow.holds Try.pinned (OpenSpec.ofChange queueTurnsWrong)

/-- 'convoylaw04.QueueTimes': WHATEVER THE INPUT: true; the input reads as it did. -/
def queueTimesSpec : ChangeSpec := { name := "queueTimes", fn := fun _ => fun
  | [d] => { results := [.lit (.bool true)], args := [d] }
  | _ => none }
def queueTimesRow : OpenClaim := { program := "yteafcajlfagbkaa", sum := "e4b9c8072e17becda315119043ada6453bb048227d17417cd6ebf1f52bb3f583", func := "convoy/convoylaw04.QueueTimes", spec := "queueTimes", unfollowed := true, recurses := true, apart := false }
def QueueTimesSaid : Prop := queueTimesRow.holds Try.pinned (OpenSpec.ofChange queueTimesSpec)

/-- ITS FALSE NEIGHBOUR: 'it returns false'. Refute it at one input. -/
def queueTimesWrong : ChangeSpec := { name := "queueTimes", fn := fun _ => fun
  | [d] => { results := [.lit (.bool false)], args := [d] }
  | _ => none }
def QueueTimesWrongFalsely : Prop := queueTimesRow.holds Try.pinned (OpenSpec.ofChange queueTimesWrong)

/-- 'convoylaw04.QueueDue': WHATEVER THE INPUT: true; the input reads as it did. -/
def queueDueSpec : ChangeSpec := { name := "queueDue", fn := fun _ => fun
  | [d1, d2] => { results := [.lit (.bool true)], args := [d1, d2] }
  | _ => none }
def queueDueRow : OpenClaim := { program := "yteafcajlfagbkaa", sum := "e4b9c8072e17becda315119043ada6453bb048227d17417cd6ebf1f52bb3f583", func := "convoy/convoylaw04.QueueDue", spec := "queueDue", unfollowed := true, recurses := true, apart := false }
def QueueDueSaid : Prop := queueDueRow.holds Try.pinned (OpenSpec.ofChange queueDueSpec)

/-- ITS FALSE NEIGHBOUR: 'it returns false'. Refute it at one input. -/
def queueDueWrong : ChangeSpec := { name := "queueDue", fn := fun _ => fun
  | [d1, d2] => { results := [.lit (.bool false)], args := [d1, d2] }
  | _ => none }
def QueueDueWrongFalsely : Prop := queueDueRow.holds Try.pinned (OpenSpec.ofChange queueDueWrong)

/-- 'convoylaw04.QueueNil': WHATEVER THE INPUT: true; the input reads as it did. -/
def queueNilSpec : ChangeSpec := { name := "queueNil", fn := fun _ => fun
  | [d1, d2] => { results := [.lit (.bool true)], args := [d1, d2] }
  | _ => none }
def queueNilRow : OpenClaim := { program := "yteafcajlfagbkaa", sum := "e4b9c8072e17becda315119043ada6453bb048227d17417cd6ebf1f52bb3f583", func := "convoy/convoylaw04.QueueNil", spec := "queueNil", unfollowed := true, recurses := true, apart := false }
def QueueNilSaid : Prop := queueNilRow.holds Try.pinned (OpenSpec.ofChange queueNilSpec)

/-- ITS FALSE NEIGHBOUR: 'it returns false'. Refute it at one input. -/
def queueNilWrong : ChangeSpec := { name := "queueNil", fn := fun _ => fun
  | [d1, d2] => { results := [.lit (.bool false)], args := [d1, d2] }
  | _ => none }
def QueueNilWrongFalsely : Prop := queueNilRow.holds Try.pinned (OpenSpec.ofChange queueNilWrong)

/- THE SECOND FORM. 'bulk': how many values and letters a reading holds, each counted each time it is reached (what is shared counts as often as it is met; a slice's spare places count too). A statement '..UptoSaid' is the law's where the arguments, and the package variables that the reading takes, are together of bulk at most 1048576: NARROWER than '..Said'. Prove '..Said' where nothing that the law and all that it calls make is longer than what came in: it says more and counts as full. Else prove '..UptoSaid'. A law counts once. -/
mutual
def uptoBulk {H : Type} : DataW H → Nat
  | .lit (.string bytes) => bytes.length + 1
  | .lit _ => 1
  | .nil => 1
  | .ptr d => uptoBulk d + 1
  | .slice elems spare => uptoBulkAll elems + uptoBulkAll spare + 1
  | .agg parts => uptoBulkAll parts + 1
  | .iface _ d => uptoBulk d + 1
  | .map entries => uptoBulkEntries entries + 1
  | .held _ => 1
def uptoBulkAll {H : Type} : List (DataW H) → Nat
  | [] => 0
  | d :: r => uptoBulk d + uptoBulkAll r
def uptoBulkEntries {H : Type} : List (Lit × DataW H) → Nat
  | [] => 0
  | x :: r => uptoBulkEntry x + uptoBulkEntries r
def uptoBulkEntry {H : Type} : Lit × DataW H → Nat
  | (.string bytes, d) => bytes.length + uptoBulk d + 1
  | (_, d) => uptoBulk d + 1
 end
def uptoSmall : (H : Type) → List (DataW H) → Bool := fun _ ds => decide (uptoBulkAll ds ≤ 1048576)
def OpenSpec.upto (s : _root_.Go.ChangeSpec) : _root_.Go.OpenSpec := { _root_.Go.OpenSpec.ofChange s with cond := some uptoSmall }

/-- 'convoylaw04.QueueOut', WHERE WHAT IT READS IS OF BULK AT MOST 1048576: true; the input reads as it did. -/
def queueOutUptoRow : OpenClaim := { program := "yteafcajlfagbkaa", sum := "e4b9c8072e17becda315119043ada6453bb048227d17417cd6ebf1f52bb3f583", func := "convoy/convoylaw04.QueueOut", spec := "queueOut", unfollowed := true, recurses := true, apart := false, narrowed := true }
def QueueOutUptoSaid : Prop := queueOutUptoRow.holds Try.pinned (OpenSpec.upto queueOutSpec)

/-- 'convoylaw04.QueueTurns', WHERE WHAT IT READS IS OF BULK AT MOST 1048576: true; the input reads as it did. -/
def queueTurnsUptoRow : OpenClaim := { program := "yteafcajlfagbkaa", sum := "e4b9c8072e17becda315119043ada6453bb048227d17417cd6ebf1f52bb3f583", func := "convoy/convoylaw04.QueueTurns", spec := "queueTurns", unfollowed := true, recurses := true, apart := false, narrowed := true }
def QueueTurnsUptoSaid : Prop := queueTurnsUptoRow.holds Try.pinned (OpenSpec.upto queueTurnsSpec)

/-- 'convoylaw04.QueueTimes', WHERE WHAT IT READS IS OF BULK AT MOST 1048576: true; the input reads as it did. -/
def queueTimesUptoRow : OpenClaim := { program := "yteafcajlfagbkaa", sum := "e4b9c8072e17becda315119043ada6453bb048227d17417cd6ebf1f52bb3f583", func := "convoy/convoylaw04.QueueTimes", spec := "queueTimes", unfollowed := true, recurses := true, apart := false, narrowed := true }
def QueueTimesUptoSaid : Prop := queueTimesUptoRow.holds Try.pinned (OpenSpec.upto queueTimesSpec)

/-- 'convoylaw04.QueueDue', WHERE WHAT IT READS IS OF BULK AT MOST 1048576: true; the input reads as it did. -/
def queueDueUptoRow : OpenClaim := { program := "yteafcajlfagbkaa", sum := "e4b9c8072e17becda315119043ada6453bb048227d17417cd6ebf1f52bb3f583", func := "convoy/convoylaw04.QueueDue", spec := "queueDue", unfollowed := true, recurses := true, apart := false, narrowed := true }
def QueueDueUptoSaid : Prop := queueDueUptoRow.holds Try.pinned (OpenSpec.upto queueDueSpec)

/-- 'convoylaw04.QueueNil', WHERE WHAT IT READS IS OF BULK AT MOST 1048576: true; the input reads as it did. -/
def queueNilUptoRow : OpenClaim := { program := "yteafcajlfagbkaa", sum := "e4b9c8072e17becda315119043ada6453bb048227d17417cd6ebf1f52bb3f583", func := "convoy/convoylaw04.QueueNil", spec := "queueNil", unfollowed := true, recurses := true, apart := false, narrowed := true }
def QueueNilUptoSaid : Prop := queueNilUptoRow.holds Try.pinned (OpenSpec.upto queueNilSpec)

end Rows
end Go.Proofs.Yteafcajlfagbkaa
